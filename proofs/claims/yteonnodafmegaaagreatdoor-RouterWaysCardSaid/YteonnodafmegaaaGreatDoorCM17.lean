/- Parts of the proof: XCb. -/
import Derived.Test.YteonnodafmegaaaGreatDoorCM16
set_option linter.unusedSectionVars false
set_option linter.unusedVariables false
set_option linter.unusedSimpArgs false
namespace Go.Proofs.YteonnodafmegaaaGreatDoor
open Go Go.SL Go.Proofs.A1 Go.ChangeShapes Go.WideShapes Go.ChangeAt Go.RowKit Go.Joins
theorem YM {a b:Bool} (ha:a=true) (hb:b=true):(a&&b)=true:=by rw [ha,hb];rfl
set_option maxRecDepth 100000
theorem NR:Tryz.pinned.checked.prog.funcNamed Rows.routerWaysRow.func=some 9:=by kernel_rfl
set_option maxHeartbeats 8000000 in
theorem Ob:joinedFacts Tryz.pinned.checked.prog 9 Tryz.f9 Rows.routerWaysSpec Rows.routerWaysRow=true:=by
 unfold joinedFacts
 repeat' (with_reducible apply YM)
 all_goals (as_aux_lemma=>kernel_rfl)
end Go.Proofs.YteonnodafmegaaaGreatDoor
