/- Parts of the proof: XEc. -/
import Derived.Test.YteonnodafmegaaaGreatDoorWM17
import Derived.Test.YteonnodafmegaaaGreatDoorWM16
set_option linter.unusedSectionVars false
set_option linter.unusedVariables false
set_option linter.unusedSimpArgs false
namespace Go.Proofs.YteonnodafmegaaaGreatDoor
open Go Go.SL Go.Proofs.A1 Go.ChangeShapes Go.WideShapes Go.ChangeAt Go.RowKit Go.Joins
set_option maxRecDepth 100000
set_option maxHeartbeats 8000000 in
theorem over:Rows.routerWholeRow.holds Tryz.pinned (OpenSpec.ofChange Rows.routerWholeSpec):=
 OpenClaim.holds_of_wide 6 Tryz.f6 rfl rfl rfl rfl rfl rfl rfl ⟨rfl,rfl,rfl,rfl,rfl⟩ rfl rfl rfl rfl rfl NN Tryz.func6 N6
  (of_decide_eq_true (by as_aux_lemma=>kernel_rfl)) (by unfold Func.isWrapper;first | (rw [if_pos (by decide +kernel)];kernel_rfl) | (rw [if_neg (by decide +kernel)];exact ⟨rfl,rfl⟩))
  (fun os started H enc _=>lifted os started H enc)
theorem PX (f:FuncId) (fn:Func) (hf:Tryz.prog.funcNamed "genlock/genlocklaw05.RouterWhole" = some f) (XV:Tryz.prog.funcs[f]? = some fn):f=6∧fn=Tryz.f6:=by
 obtain rfl:f=6:=Option.some.inj ((show Tryz.prog.funcNamed "genlock/genlocklaw05.RouterWhole" = some 6 by as_aux_lemma=>kernel_rfl).symm.trans hf) |>.symm
 exact ⟨rfl,(Option.some.inj (Tryz.func6.symm.trans XV)).symm⟩
theorem MW (j:Nat) (t:TypeId) (ht:Tryz.f6.params[j]? = some t):Tryz.prog.wantsStandIn t=false:=by
 rw [Tryz.params6] at ht
 have hm:t∈[27,66]:=by simpa using Array.mem_of_getElem? ht
 have dZ:([27,66].all fun u=>!Tryz.prog.wantsStandIn u)=true:=by as_aux_lemma=>kernel_rfl
 exact (show Tryz.prog.wantsStandIn t=false by simpa using Zaa.1 dZ t hm)
set_option maxHeartbeats 8000000 in
theorem proved:Rows.RouterWholeCardSaid:=
 Claim7.holds_tied_plain_at .later [] [.data,.data,.data] true (true,"bc2fc6f0e1e07d2f37791b4ccc178b5e6ff1233c4d56b9b9dd47b280cfc57924") false
  over (fun _ h=>by cases h) (by as_aux_lemma=>kernel_rfl) (fun _ h=>by cases h) routerWhole_row_tie rfl ⟨rfl,rfl⟩ (by as_aux_lemma=>kernel_rfl) rfl
  (fun f fn hf XV=>by
   obtain ⟨rfl,rfl⟩:=PX f fn hf XV
   exact ⟨by as_aux_lemma=>kernel_rfl,MW⟩)
  (by as_aux_lemma=>kernel_rfl)
#print axioms proved
end Go.Proofs.YteonnodafmegaaaGreatDoor
