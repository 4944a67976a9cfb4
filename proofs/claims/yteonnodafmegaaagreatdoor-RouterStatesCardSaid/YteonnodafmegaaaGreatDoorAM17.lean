/- Parts of the proof: XAb. -/
import Derived.Test.YteonnodafmegaaaGreatDoorAM16
set_option linter.unusedSectionVars false
set_option linter.unusedVariables false
set_option linter.unusedSimpArgs false
namespace Go.Proofs.YteonnodafmegaaaGreatDoor
open Go Go.SL Go.Proofs.A1 Go.ChangeShapes Go.WideShapes Go.ChangeAt Go.RowKit Go.Joins
theorem WC {a b:Bool} (ha:a=true) (hb:b=true):(a&&b)=true:=by rw [ha,hb];rfl
set_option maxRecDepth 100000
theorem Mk:Tryz.pinned.checked.prog.funcNamed Rows.routerStatesRow.func=some 3:=by kernel_rfl
set_option maxHeartbeats 8000000 in
theorem MB:joinedFacts Tryz.pinned.checked.prog 3 Tryz.f3 Rows.routerStatesSpec Rows.routerStatesRow=true:=by
 unfold joinedFacts
 repeat' (with_reducible apply WC)
 all_goals (as_aux_lemma=>kernel_rfl)
end Go.Proofs.YteonnodafmegaaaGreatDoor
