/- Parts of the proof: X13c. -/
import Derived.Test.YtfbgbipclgljaaaGreatDoorWM29
set_option linter.unusedSectionVars false
set_option linter.unusedVariables false
set_option linter.unusedSimpArgs false
namespace Go.Proofs.YtfbgbipclgljaaaGreatDoor
open Go Go.SL Go.Proofs.A1 Go.ChangeShapes Go.WideShapes Go.ChangeAt Go.RowKit Go.Joins
set_option maxRecDepth 100000
set_option maxHeartbeats 8000000 in
theorem over:Rows.scheduleBackRow.holds Tryz.pinned (OpenSpec.ofChange Rows.scheduleBackSpec):=
  OpenClaim.holds_of_wide 13 Tryz.f13 rfl rfl rfl rfl rfl rfl rfl ⟨rfl,rfl,rfl,rfl,rfl⟩ rfl rfl rfl rfl rfl fnNamed Tryz.func13 closedF
    (of_decide_eq_true (by as_aux_lemma=>kernel_rfl)) (by unfold Func.isWrapper;first | (rw [if_pos (by decide +kernel)];kernel_rfl) | (rw [if_neg (by decide +kernel)];exact ⟨rfl,rfl⟩))
    (fun os started H enc _=>lifted os started H enc)
theorem standF (f:FuncId) (fn:Func) (hf:Tryz.prog.funcNamed "genlock/genlocklaw09.ScheduleBack" = some f) (hfn:Tryz.prog.funcs[f]? = some fn):f = 13 ∧ fn = Tryz.f13:=by
  obtain rfl:f = 13:=Option.some.inj ((show Tryz.prog.funcNamed "genlock/genlocklaw09.ScheduleBack" = some 13 by as_aux_lemma=>kernel_rfl).symm.trans hf) |>.symm
  exact ⟨rfl,(Option.some.inj (Tryz.func13.symm.trans hfn)).symm⟩
theorem noStand (j:Nat) (t:TypeId) (ht:Tryz.f13.params[j]? = some t):Tryz.prog.wantsStandIn t = false:=by
  rw [Tryz.params13] at ht
  have hm:t ∈ [24,9,3]:=by simpa using Array.mem_of_getElem? ht
  have hall:([24,9,3].all fun u=>!Tryz.prog.wantsStandIn u) = true:=by as_aux_lemma=>kernel_rfl
  exact (show Tryz.prog.wantsStandIn t = false by simpa using List.all_eq_true.1 hall t hm)
set_option maxHeartbeats 8000000 in
theorem proved:Rows.ScheduleBackCardSaid:=
  Claim7.holds_tied_plain_at .later [] [.data,.data,.data,.data,.data,.pinned] true (true,"cbf8bce66b5ba0dbe18b77e2dff440b188c3ec5fc4b152eda6c850d687252077") false
    over (fun _ h=>by cases h) (by as_aux_lemma=>kernel_rfl) (fun _ h=>by cases h) scheduleBack_row_tie rfl ⟨rfl,rfl⟩ (by as_aux_lemma=>kernel_rfl) rfl
    (fun f fn hf hfn=>by
      obtain ⟨rfl,rfl⟩:=standF f fn hf hfn
      exact ⟨by as_aux_lemma=>kernel_rfl,noStand⟩)
    (by as_aux_lemma=>kernel_rfl)
#print axioms proved
end Go.Proofs.YtfbgbipclgljaaaGreatDoor
