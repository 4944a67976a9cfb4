/- Parts of the proof: XJc. -/
import Derived.Test.YteonnodafmegaaaGreatDoorUM17
import Derived.Test.YteonnodafmegaaaGreatDoorUM16
set_option linter.unusedSectionVars false
set_option linter.unusedVariables false
set_option linter.unusedSimpArgs false
namespace Go.Proofs.YteonnodafmegaaaGreatDoor
open Go Go.SL Go.Proofs.A1 Go.ChangeShapes Go.WideShapes Go.ChangeAt Go.RowKit Go.Joins
set_option maxRecDepth 100000
set_option maxHeartbeats 8000000 in
theorem over:Rows.routerUndoesRow.holds Tryz.pinned (OpenSpec.ofChange Rows.routerUndoesSpec):=
 OpenClaim.holds_of_wide 12 Tryz.f12 I I I I I I I ⟨I,I,I,I,I⟩ I I I I I AZ Tryz.func12 A8
  (of_decide_eq_true (by as_aux_lemma=>kernel_rfl)) (by unfold Func.isWrapper;first | (rw [if_pos (by decide +kernel)];kernel_rfl) | (rw [if_neg (by decide +kernel)];exact ⟨I,I⟩))
  (fun os started H enc _=>lifted os started H enc)
theorem Eb (f:FuncId) (fn:Func) (hf:Tryz.prog.funcNamed "genlock/genlocklaw05.RouterUndoes" = some f) (SY:Tryz.prog.funcs[f]? = some fn):f=12/\fn=Tryz.f12:=by
 obtain rfl:f=12:=Option.some.inj ((show Tryz.prog.funcNamed "genlock/genlocklaw05.RouterUndoes" = some 12 by as_aux_lemma=>kernel_rfl).symm.trans hf) |>.symm;exact ⟨I,(Option.some.inj (Tryz.func12.symm.trans SY)).symm⟩
theorem Ay (j:Nat) (t:TypeId) (ht:Tryz.f12.params[j]? = some t):Tryz.prog.wantsStandIn t=false:=by
 rw [Tryz.params12] at ht;have hm:t∈[27,66]:=by simpa using Array.mem_of_getElem? ht
 have eR:([27,66].all fun u=>!Tryz.prog.wantsStandIn u)=true:=by as_aux_lemma=>kernel_rfl
 exact (show Tryz.prog.wantsStandIn t=false by simpa using Z6.1 eR t hm)
set_option maxHeartbeats 8000000 in
theorem proved:Rows.RouterUndoesCardSaid:=
 Claim7.holds_tied_plain_at .later [] [.data,.data,.data] true (true,"bc2fc6f0e1e07d2f37791b4ccc178b5e6ff1233c4d56b9b9dd47b280cfc57924") false
  over (fun _ h=>by cases h) (by as_aux_lemma=>kernel_rfl) (fun _ h=>by cases h) routerUndoes_row_tie I ⟨I,I⟩ (by as_aux_lemma=>kernel_rfl) I
  (fun f fn hf SY=>by
   obtain ⟨rfl,rfl⟩:=Eb f fn hf SY;exact ⟨by as_aux_lemma=>kernel_rfl,Ay⟩)
  (by as_aux_lemma=>kernel_rfl)
#print axioms proved
end Go.Proofs.YteonnodafmegaaaGreatDoor
