/- Parts of the proof: XHc. -/
import Derived.Test.YteonnodafmegaaaGreatDoorNM17
import Derived.Test.YteonnodafmegaaaGreatDoorNM16
set_option linter.unusedSectionVars false
set_option linter.unusedVariables false
set_option linter.unusedSimpArgs false
namespace Go.Proofs.YteonnodafmegaaaGreatDoor
open Go Go.SL Go.Proofs.A1 Go.ChangeShapes Go.WideShapes Go.ChangeAt Go.RowKit Go.Joins
set_option maxRecDepth 100000
set_option maxHeartbeats 8000000 in
theorem over:Rows.routerFramesRow.holds Tryz.pinned (OpenSpec.ofChange Rows.routerFramesSpec):=
 OpenClaim.holds_of_wide 8 Tryz.f8 rfl rfl rfl rfl rfl rfl rfl ⟨rfl,rfl,rfl,rfl,rfl⟩ rfl rfl rfl rfl rfl z8 Tryz.func8 Ag
  (of_decide_eq_true (by as_aux_lemma=>kernel_rfl)) (by unfold Func.isWrapper;first | (rw [if_pos (by decide +kernel)];kernel_rfl) | (rw [if_neg (by decide +kernel)];exact ⟨rfl,rfl⟩))
  (fun os started H enc _=>lifted os started H enc)
theorem C7 (f:FuncId) (fn:Func) (hf:Tryz.prog.funcNamed "genlock/genlocklaw05.RouterFrames" = some f) (RJ:Tryz.prog.funcs[f]? = some fn):f=8∧fn=Tryz.f8:=by
 obtain rfl:f=8:=Option.some.inj ((show Tryz.prog.funcNamed "genlock/genlocklaw05.RouterFrames" = some 8 by as_aux_lemma=>kernel_rfl).symm.trans hf) |>.symm
 exact ⟨rfl,(Option.some.inj (Tryz.func8.symm.trans RJ)).symm⟩
theorem zy (j:Nat) (t:TypeId) (ht:Tryz.f8.params[j]? = some t):Tryz.prog.wantsStandIn t=false:=by
 rw [Tryz.params8] at ht
 have hm:t∈[27,93]:=by simpa using Array.mem_of_getElem? ht
 have dT:([27,93].all fun u=>!Tryz.prog.wantsStandIn u)=true:=by as_aux_lemma=>kernel_rfl
 exact (show Tryz.prog.wantsStandIn t=false by simpa using Z3.1 dT t hm)
set_option maxHeartbeats 8000000 in
theorem proved:Rows.RouterFramesCardSaid:=
 Claim7.holds_tied_plain_at .later [] [.data,.data,.data] true (true,"bc2fc6f0e1e07d2f37791b4ccc178b5e6ff1233c4d56b9b9dd47b280cfc57924") false
  over (fun _ h=>by cases h) (by as_aux_lemma=>kernel_rfl) (fun _ h=>by cases h) routerFrames_row_tie rfl ⟨rfl,rfl⟩ (by as_aux_lemma=>kernel_rfl) rfl
  (fun f fn hf RJ=>by
   obtain ⟨rfl,rfl⟩:=C7 f fn hf RJ
   exact ⟨by as_aux_lemma=>kernel_rfl,zy⟩)
  (by as_aux_lemma=>kernel_rfl)
#print axioms proved
end Go.Proofs.YteonnodafmegaaaGreatDoor
