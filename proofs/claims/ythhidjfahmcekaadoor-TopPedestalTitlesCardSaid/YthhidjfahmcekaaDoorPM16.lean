/- Parts of the proof: DY1b. -/
import Derived.Test.YthhidjfahmcekaaDoorPM15
set_option linter.unusedSectionVars false
set_option linter.unusedVariables false
set_option linter.unusedSimpArgs false
namespace Go.Proofs.YthhidjfahmcekaaDoor
open Go Go.SL Go.Proofs.A1 Go.ChangeShapes Go.WideShapes Go.ChangeAt Go.RowKit Go.Joins
theorem band {a b:Bool} (ha:a = true) (hb:b = true):(a && b) = true:=by rw [ha,hb];rfl
set_option maxRecDepth 100000
theorem fnNamed:Tryd.pinned.checked.prog.funcNamed Rows.topPedestalTitlesRow.func = some 3:=by kernel_rfl
set_option maxHeartbeats 8000000 in
theorem closedF:joinedFacts Tryd.pinned.checked.prog 3 Tryd.f3 Rows.topPedestalTitlesSpec Rows.topPedestalTitlesRow = true:=by
  unfold joinedFacts
  repeat' (with_reducible apply band)
  all_goals (as_aux_lemma=>kernel_rfl)
end Go.Proofs.YthhidjfahmcekaaDoor
