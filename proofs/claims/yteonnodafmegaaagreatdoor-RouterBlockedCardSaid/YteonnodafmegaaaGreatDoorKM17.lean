/- Parts of the proof: XKb. -/
import Derived.Test.YteonnodafmegaaaGreatDoorKM01
import Derived.Test.YteonnodafmegaaaGreatDoorTie
import Derived.Test.YteonnodafmegaaaGreatDoorCards
import Derived.Lib.SmallJoins
import Derived.Lib.LaidTab
import Derived.Deep.Slices
import Derived.Deep.Fields
import Derived.ChangeSame
import Derived.ChangeBook
import Derived.ChangeStays
import Derived.WalkKit
import Derived.ProofKit
import Derived.OpenShut
import Derived.Below
import Derived.LaidMore
import Derived.Lay
import Derived.SevenTiedAt
import Derived.Stop.Joined
import Derived.ChangeMaps5
set_option linter.unusedSectionVars false
set_option linter.unusedVariables false
set_option linter.unusedSimpArgs false
namespace Go.Proofs.YteonnodafmegaaaGreatDoor
open Go Go.SL Go.Proofs.A1 Go.ChangeShapes Go.WideShapes Go.ChangeAt Go.RowKit Go.Joins
theorem LK {a b:Bool} (ha:a=true) (hb:b=true):(a&&b)=true:=by rw [ha,hb];rfl
set_option maxRecDepth 100000
theorem rZ:Tryz.pinned.checked.prog.funcNamed Rows.routerBlockedRow.func=some 10:=by kernel_rfl
set_option maxHeartbeats 8000000 in
theorem r8:joinedFacts Tryz.pinned.checked.prog 10 Tryz.f10 Rows.routerBlockedSpec Rows.routerBlockedRow=true:=by
 unfold joinedFacts
 repeat' (with_reducible apply LK)
 all_goals (as_aux_lemma=>kernel_rfl)
end Go.Proofs.YteonnodafmegaaaGreatDoor
