/- Parts of the proof: XBb. -/
import Derived.Test.YteonnodafmegaaaGreatDoorBM16
set_option linter.unusedSectionVars false
set_option linter.unusedVariables false
set_option linter.unusedSimpArgs false
namespace Go.Proofs.YteonnodafmegaaaGreatDoor
open Go Go.SL Go.Proofs.A1 Go.ChangeShapes Go.WideShapes Go.ChangeAt Go.RowKit Go.Joins
theorem XE {a b:Bool} (ha:a=true) (hb:b=true):(a&&b)=true:=by rw [ha,hb];rfl
set_option maxRecDepth 100000
theorem ML:Tryz.pinned.checked.prog.funcNamed Rows.routerCutsRow.func=some 4:=by kernel_rfl
set_option maxHeartbeats 8000000 in
theorem M7:joinedFacts Tryz.pinned.checked.prog 4 Tryz.f4 Rows.routerCutsSpec Rows.routerCutsRow=true:=by
 unfold joinedFacts
 repeat' (with_reducible apply XE)
 all_goals (as_aux_lemma=>kernel_rfl)
end Go.Proofs.YteonnodafmegaaaGreatDoor
