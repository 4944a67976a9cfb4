/- Parts of the proof: YDc. -/
import Derived.Test.YthhidjfahmcekaaGreatDoorSM22
set_option linter.unusedSectionVars false
set_option linter.unusedVariables false
set_option linter.unusedSimpArgs false
namespace Go.Proofs.YthhidjfahmcekaaGreatDoor
open Go Go.SL Go.Proofs.A1 Go.ChangeShapes Go.WideShapes Go.ChangeAt Go.RowKit Go.Joins
set_option maxRecDepth 100000
set_option maxHeartbeats 8000000 in
theorem over:Rows.codeScreensRow.holds Tryz.pinned (OpenSpec.ofChange Rows.codeScreensSpec):=
  OpenClaim.holds_of_wide 11 Tryz.f11 rfl rfl rfl rfl rfl rfl rfl ⟨rfl,rfl,rfl,rfl,rfl⟩ rfl rfl rfl rfl rfl fnNamed Tryz.func11 closedF
    (of_decide_eq_true (by as_aux_lemma=>kernel_rfl)) (by unfold Func.isWrapper;first | (rw [if_pos (by decide +kernel)];kernel_rfl) | (rw [if_neg (by decide +kernel)];exact ⟨rfl,rfl⟩))
    (fun os started H enc _=>lifted os started H enc)
theorem standF (f:FuncId) (fn:Func) (hf:Tryz.prog.funcNamed "genlock/genlocklaw07.CodeScreens" = some f) (hfn:Tryz.prog.funcs[f]? = some fn):f = 11 ∧ fn = Tryz.f11:=by
  obtain rfl:f = 11:=Option.some.inj ((show Tryz.prog.funcNamed "genlock/genlocklaw07.CodeScreens" = some 11 by as_aux_lemma=>kernel_rfl).symm.trans hf) |>.symm
  exact ⟨rfl,(Option.some.inj (Tryz.func11.symm.trans hfn)).symm⟩
theorem noStand (j:Nat) (t:TypeId) (ht:Tryz.f11.params[j]? = some t):Tryz.prog.wantsStandIn t = false:=by
  rw [Tryz.params11] at ht
  have hm:t ∈ [97,113,9]:=by simpa using Array.mem_of_getElem? ht
  have hall:([97,113,9].all fun u=>!Tryz.prog.wantsStandIn u) = true:=by as_aux_lemma=>kernel_rfl
  exact (show Tryz.prog.wantsStandIn t = false by simpa using List.all_eq_true.1 hall t hm)
set_option maxHeartbeats 8000000 in
theorem proved:Rows.CodeScreensCardSaid:=
  Claim7.holds_tied_plain_at .later [] [.data,.data,.data,.widerDeep] true (true,"0ef68d83654f4a994573fa9a88d9e42c72f41222b2076aa8065aae75b05ee26a") false
    over (fun _ h=>by cases h) (by as_aux_lemma=>kernel_rfl) (fun _ h=>by cases h) codeScreens_row_tie rfl ⟨rfl,rfl⟩ (by as_aux_lemma=>kernel_rfl) rfl
    (fun f fn hf hfn=>by
      obtain ⟨rfl,rfl⟩:=standF f fn hf hfn
      exact ⟨by as_aux_lemma=>kernel_rfl,noStand⟩)
    (by as_aux_lemma=>kernel_rfl)
#print axioms proved
end Go.Proofs.YthhidjfahmcekaaGreatDoor
