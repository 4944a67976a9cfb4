/- Parts of the proof: XIc. -/
import Derived.Test.YteonnodafmegaaaGreatDoorPM18
import Derived.Test.YteonnodafmegaaaGreatDoorPM17
set_option linter.unusedSectionVars false
set_option linter.unusedVariables false
set_option linter.unusedSimpArgs false
namespace Go.Proofs.YteonnodafmegaaaGreatDoor
open Go Go.SL Go.Proofs.A1 Go.ChangeShapes Go.WideShapes Go.ChangeAt Go.RowKit Go.Joins
set_option maxRecDepth 100000
set_option maxHeartbeats 8000000 in
theorem over:Rows.routerPortsRow.holds Tryz.pinned (OpenSpec.ofChange Rows.routerPortsSpec):=
 OpenClaim.holds_of_wide 11 Tryz.f11 I I I I I I I ⟨I,I,I,I,I⟩ I I I I I P4 Tryz.func11 Qo
  (of_decide_eq_true (by as_aux_lemma=>kernel_rfl)) (by unfold Func.isWrapper;first | (rw [if_pos (by decide +kernel)];kernel_rfl) | (rw [if_neg (by decide +kernel)];exact ⟨I,I⟩))
  (fun os started H enc _=>lifted os started H enc)
theorem SA (f:FuncId) (fn:Func) (hf:Tryz.prog.funcNamed "genlock/genlocklaw05.RouterPorts" = some f) (hfn:Tryz.prog.funcs[f]? = some fn):f=11/\fn=Tryz.f11:=by
 obtain rfl:f=11:=Option.some.inj ((show Tryz.prog.funcNamed "genlock/genlocklaw05.RouterPorts" = some 11 by as_aux_lemma=>kernel_rfl).symm.trans hf) |>.symm;exact ⟨I,(Option.some.inj (Tryz.func11.symm.trans hfn)).symm⟩
theorem OZ (j:Nat) (t:TypeId) (ht:Tryz.f11.params[j]? = some t):Tryz.prog.wantsStandIn t=false:=by
 rw [Tryz.params11] at ht;have hm:t∈[27,125]:=by simpa using Array.mem_of_getElem? ht
 have fj:([27,125].all fun u=>!Tryz.prog.wantsStandIn u)=true:=by as_aux_lemma=>kernel_rfl
 exact (show Tryz.prog.wantsStandIn t=false by simpa using Zaj.1 fj t hm)
set_option maxHeartbeats 8000000 in
theorem proved:Rows.RouterPortsCardSaid:=
 Claim7.holds_tied_plain_at .later [] [.data,.data,.data] true (true,"bc2fc6f0e1e07d2f37791b4ccc178b5e6ff1233c4d56b9b9dd47b280cfc57924") false
  over (fun _ h=>by cases h) (by as_aux_lemma=>kernel_rfl) (fun _ h=>by cases h) routerPorts_row_tie I ⟨I,I⟩ (by as_aux_lemma=>kernel_rfl) I
  (fun f fn hf hfn=>by
   obtain ⟨rfl,rfl⟩:=SA f fn hf hfn;exact ⟨by as_aux_lemma=>kernel_rfl,OZ⟩)
  (by as_aux_lemma=>kernel_rfl)
#print axioms proved
end Go.Proofs.YteonnodafmegaaaGreatDoor
