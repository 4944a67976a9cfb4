/-
  DERIVED. GIVEN WITH THE SEED: THE PROGRAM's TIES (one call each: nine closed facts by the kernel) AND EACH ROW's TIE, after the 31st guide's Derived/Test/Toyas{Tie, Card}.lean. No idea stands in it: it is a product of the set-up. Laid BY PROGRAM, IN A SANDBOX (cutbox-door.mjs). By AI agents, Wed Nov 11 2026. No macro, syntax, notation, axiom, sorry.
-/
import Derived.Test.YthhidjfahmcekaaDoorRows
import Derived.LaidByTextLater
import Derived.SevenTiedAt
import Derived.LaidSub
import Derived.LaidOnce
namespace Go.Proofs.YthhidjfahmcekaaDoor
open Go
set_option maxRecDepth 100000
theorem seatTie1 : Tryd.prog.laidByTextLater [("genlock/code.rates", Rows.laid_genlock_code_rates), ("genlock/schedule.names", Rows.laid_genlock_schedule_names)] [.widerDeep, .data] true :=
  Program.laidByTextLater_by_one 19 8 4 (by kernel_rfl) (by kernel_rfl) (by kernel_rfl) (by kernel_rfl) (by kernel_rfl) (by kernel_rfl) (fun _ _ => by kernel_rfl)
theorem noOwnUnsafe : Tryd.pinned.checked.prog.headLifts.contains "ownunsafe" = false := by kernel_rfl
theorem tie : Tryd.prog.laidByTextLater [("genlock/code.rates", Rows.laid_genlock_code_rates)] [.widerDeep] true :=
  Program.laidByTextLater.sub seatTie1 ["genlock/code.rates"] (by kernel_rfl) (by kernel_rfl)
theorem topPedestalTitles_row_tie : Rows.topPedestalTitlesRow.laidByTextAt .later Tryd.pinned [.widerDeep] true :=
  OpenClaim.laidByTextAt_later rfl rfl tie noOwnUnsafe
theorem tie2 : Tryd.prog.laidByTextLater [("genlock/code.rates", Rows.laid_genlock_code_rates), ("genlock/schedule.names", Rows.laid_genlock_schedule_names)] [.widerDeep, .data] true :=
  Program.laidByTextLater.sub seatTie1 ["genlock/code.rates", "genlock/schedule.names"] (by kernel_rfl) (by kernel_rfl)
theorem topCraneLabelled_row_tie : Rows.topCraneLabelledRow.laidByTextAt .later Tryd.pinned [.widerDeep, .data] true :=
  OpenClaim.laidByTextAt_later rfl rfl tie2 noOwnUnsafe
theorem topPedestalTitlesUpto_row_tie : Rows.topPedestalTitlesUptoRow.laidByTextAt .later Tryd.pinned [.widerDeep] true :=
  OpenClaim.laidByTextAt_later rfl rfl tie noOwnUnsafe
theorem topCraneLabelledUpto_row_tie : Rows.topCraneLabelledUptoRow.laidByTextAt .later Tryd.pinned [.widerDeep, .data] true :=
  OpenClaim.laidByTextAt_later rfl rfl tie2 noOwnUnsafe
end Go.Proofs.YthhidjfahmcekaaDoor
