/- Parts of the proof: XAc. -/
import Derived.Test.YteonnodafmegaaaGreatDoorAM17
set_option linter.unusedSectionVars false
set_option linter.unusedVariables false
set_option linter.unusedSimpArgs false
namespace Go.Proofs.YteonnodafmegaaaGreatDoor
open Go Go.SL Go.Proofs.A1 Go.ChangeShapes Go.WideShapes Go.ChangeAt Go.RowKit Go.Joins
set_option maxRecDepth 100000
set_option maxHeartbeats 8000000 in
theorem over:Rows.routerStatesRow.holds Tryz.pinned (OpenSpec.ofChange Rows.routerStatesSpec):=
 OpenClaim.holds_of_wide 3 Tryz.f3 rfl rfl rfl rfl rfl rfl rfl ⟨rfl,rfl,rfl,rfl,rfl⟩ rfl rfl rfl rfl rfl Mk Tryz.func3 MB
  (of_decide_eq_true (by as_aux_lemma=>kernel_rfl)) (by unfold Func.isWrapper;first | (rw [if_pos (by decide +kernel)];kernel_rfl) | (rw [if_neg (by decide +kernel)];exact ⟨rfl,rfl⟩))
  (fun os started H enc _=>lifted os started H enc)
theorem Ov (f:FuncId) (fn:Func) (hf:Tryz.prog.funcNamed "genlock/genlocklaw05.RouterStates" = some f) (VW:Tryz.prog.funcs[f]? = some fn):f=3∧fn=Tryz.f3:=by
 obtain rfl:f=3:=Option.some.inj ((show Tryz.prog.funcNamed "genlock/genlocklaw05.RouterStates" = some 3 by as_aux_lemma=>kernel_rfl).symm.trans hf) |>.symm
 exact ⟨rfl,(Option.some.inj (Tryz.func3.symm.trans VW)).symm⟩
theorem Lv (j:Nat) (t:TypeId) (ht:Tryz.f3.params[j]? = some t):Tryz.prog.wantsStandIn t=false:=by
 rw [Tryz.params3] at ht
 have hm:t∈[27,29]:=by simpa using Array.mem_of_getElem? ht
 have dR:([27,29].all fun u=>!Tryz.prog.wantsStandIn u)=true:=by as_aux_lemma=>kernel_rfl
 exact (show Tryz.prog.wantsStandIn t=false by simpa using List.all_eq_true.1 dR t hm)
set_option maxHeartbeats 8000000 in
theorem proved:Rows.RouterStatesCardSaid:=
 Claim7.holds_tied_plain_at .later [] [.data,.data,.data] true (true,"bc2fc6f0e1e07d2f37791b4ccc178b5e6ff1233c4d56b9b9dd47b280cfc57924") false
  over (fun _ h=>by cases h) (by as_aux_lemma=>kernel_rfl) (fun _ h=>by cases h) routerStates_row_tie rfl ⟨rfl,rfl⟩ (by as_aux_lemma=>kernel_rfl) rfl
  (fun f fn hf VW=>by
   obtain ⟨rfl,rfl⟩:=Ov f fn hf VW
   exact ⟨by as_aux_lemma=>kernel_rfl,Lv⟩)
  (by as_aux_lemma=>kernel_rfl)
#print axioms proved
end Go.Proofs.YteonnodafmegaaaGreatDoor
