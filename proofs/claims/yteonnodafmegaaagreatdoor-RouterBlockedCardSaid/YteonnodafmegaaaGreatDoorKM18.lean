/- Parts of the proof: XKc. -/
import Derived.Test.YteonnodafmegaaaGreatDoorKM17
import Derived.Test.YteonnodafmegaaaGreatDoorKM16
set_option linter.unusedSectionVars false
set_option linter.unusedVariables false
set_option linter.unusedSimpArgs false
namespace Go.Proofs.YteonnodafmegaaaGreatDoor
open Go Go.SL Go.Proofs.A1 Go.ChangeShapes Go.WideShapes Go.ChangeAt Go.RowKit Go.Joins
set_option maxRecDepth 100000
set_option maxHeartbeats 8000000 in
theorem over:Rows.routerBlockedRow.holds Tryz.pinned (OpenSpec.ofChange Rows.routerBlockedSpec):=
 OpenClaim.holds_of_wide 10 Tryz.f10 I I I I I I I ⟨I,I,I,I,I⟩ I I I I I rZ Tryz.func10 r8
  (of_decide_eq_true (by as_aux_lemma=>kernel_rfl)) (by unfold Func.isWrapper;first | (rw [if_pos (by decide +kernel)];kernel_rfl) | (rw [if_neg (by decide +kernel)];exact ⟨I,I⟩))
  (fun os started H enc _=>lifted os started H enc)
theorem vo (f:FuncId) (fn:Func) (hf:Tryz.prog.funcNamed "genlock/genlocklaw05.RouterBlocked" = some f) (KS:Tryz.prog.funcs[f]? = some fn):f=10/\fn=Tryz.f10:=by
 obtain rfl:f=10:=Option.some.inj ((show Tryz.prog.funcNamed "genlock/genlocklaw05.RouterBlocked" = some 10 by as_aux_lemma=>kernel_rfl).symm.trans hf) |>.symm;exact ⟨I,(Option.some.inj (Tryz.func10.symm.trans KS)).symm⟩
theorem rE (j:Nat) (t:TypeId) (ht:Tryz.f10.params[j]? = some t):Tryz.prog.wantsStandIn t=false:=by
 rw [Tryz.params10] at ht;have hm:t∈[27,116]:=by simpa using Array.mem_of_getElem? ht
 have dZ:([27,116].all fun u=>!Tryz.prog.wantsStandIn u)=true:=by as_aux_lemma=>kernel_rfl
 exact (show Tryz.prog.wantsStandIn t=false by simpa using Z7.1 dZ t hm)
set_option maxHeartbeats 8000000 in
theorem proved:Rows.RouterBlockedCardSaid:=
 Claim7.holds_tied_plain_at .later [] [.data,.data,.data] true (true,"bc2fc6f0e1e07d2f37791b4ccc178b5e6ff1233c4d56b9b9dd47b280cfc57924") false
  over (fun _ h=>by cases h) (by as_aux_lemma=>kernel_rfl) (fun _ h=>by cases h) routerBlocked_row_tie I ⟨I,I⟩ (by as_aux_lemma=>kernel_rfl) I
  (fun f fn hf KS=>by
   obtain ⟨rfl,rfl⟩:=vo f fn hf KS;exact ⟨by as_aux_lemma=>kernel_rfl,rE⟩)
  (by as_aux_lemma=>kernel_rfl)
#print axioms proved
end Go.Proofs.YteonnodafmegaaaGreatDoor
