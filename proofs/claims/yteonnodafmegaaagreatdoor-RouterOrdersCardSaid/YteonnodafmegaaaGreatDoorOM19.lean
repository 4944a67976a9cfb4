/- Parts of the proof: XGc. -/
import Derived.Test.YteonnodafmegaaaGreatDoorOM18
import Derived.Test.YteonnodafmegaaaGreatDoorOM17
set_option linter.unusedSectionVars false
set_option linter.unusedVariables false
set_option linter.unusedSimpArgs false
namespace Go.Proofs.YteonnodafmegaaaGreatDoor
open Go Go.SL Go.Proofs.A1 Go.ChangeShapes Go.WideShapes Go.ChangeAt Go.RowKit Go.Joins
set_option maxRecDepth 100000
set_option maxHeartbeats 8000000 in
theorem over:Rows.routerOrdersRow.holds Tryz.pinned (OpenSpec.ofChange Rows.routerOrdersSpec):=
 OpenClaim.holds_of_wide 7 Tryz.f7 I I I I I I I ⟨I,I,I,I,I⟩ I I I I I sR Tryz.func7 sX
  (of_decide_eq_true (by as_aux_lemma=>kernel_rfl)) (by unfold Func.isWrapper;first | (rw [if_pos (by decide +kernel)];kernel_rfl) | (rw [if_neg (by decide +kernel)];exact ⟨I,I⟩))
  (fun os started H enc _=>lifted os started H enc)
theorem vU (f:FuncId) (fn:Func) (hf:Tryz.prog.funcNamed "genlock/genlocklaw05.RouterOrders" = some f) (Mv:Tryz.prog.funcs[f]? = some fn):f=7/\fn=Tryz.f7:=by
 obtain rfl:f=7:=Option.some.inj ((show Tryz.prog.funcNamed "genlock/genlocklaw05.RouterOrders" = some 7 by as_aux_lemma=>kernel_rfl).symm.trans hf) |>.symm;exact ⟨I,(Option.some.inj (Tryz.func7.symm.trans Mv)).symm⟩
theorem sx (j:Nat) (t:TypeId) (ht:Tryz.f7.params[j]? = some t):Tryz.prog.wantsStandIn t=false:=by
 rw [Tryz.params7] at ht;have hm:t∈[27,93,29]:=by simpa using Array.mem_of_getElem? ht
 have eO:([27,93,29].all fun u=>!Tryz.prog.wantsStandIn u)=true:=by as_aux_lemma=>kernel_rfl
 exact (show Tryz.prog.wantsStandIn t=false by simpa using Z4.1 eO t hm)
set_option maxHeartbeats 8000000 in
theorem proved:Rows.RouterOrdersCardSaid:=
 Claim7.holds_tied_plain_at .later [] [.data,.data,.data] true (true,"bc2fc6f0e1e07d2f37791b4ccc178b5e6ff1233c4d56b9b9dd47b280cfc57924") false
  over (fun _ h=>by cases h) (by as_aux_lemma=>kernel_rfl) (fun _ h=>by cases h) routerOrders_row_tie I ⟨I,I⟩ (by as_aux_lemma=>kernel_rfl) I
  (fun f fn hf Mv=>by
   obtain ⟨rfl,rfl⟩:=vU f fn hf Mv;exact ⟨by as_aux_lemma=>kernel_rfl,sx⟩)
  (by as_aux_lemma=>kernel_rfl)
#print axioms proved
end Go.Proofs.YteonnodafmegaaaGreatDoor
