/- Parts of the proof: DY2b. -/
import Derived.Test.YthhidjfahmcekaaDoorLM18
set_option linter.unusedSectionVars false
set_option linter.unusedVariables false
set_option linter.unusedSimpArgs false
namespace Go.Proofs.YthhidjfahmcekaaDoor
open Go Go.SL Go.Proofs.A1 Go.ChangeShapes Go.WideShapes Go.ChangeAt Go.RowKit Go.Joins
theorem band {a b:Bool} (ha:a = true) (hb:b = true):(a && b) = true:=by rw [ha,hb];rfl
set_option maxRecDepth 100000
theorem fnNamed:Tryd.pinned.checked.prog.funcNamed Rows.topCraneLabelledRow.func = some 4:=by kernel_rfl
set_option maxHeartbeats 8000000 in
theorem closedF:joinedFacts Tryd.pinned.checked.prog 4 Tryd.f4 Rows.topCraneLabelledSpec Rows.topCraneLabelledRow = true:=by
  unfold joinedFacts
  repeat' (with_reducible apply band)
  all_goals (as_aux_lemma=>kernel_rfl)
end Go.Proofs.YthhidjfahmcekaaDoor
