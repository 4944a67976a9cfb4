/- Parts of the proof: XCc. -/
import Derived.Test.YteonnodafmegaaaGreatDoorCM17
set_option linter.unusedSectionVars false
set_option linter.unusedVariables false
set_option linter.unusedSimpArgs false
namespace Go.Proofs.YteonnodafmegaaaGreatDoor
open Go Go.SL Go.Proofs.A1 Go.ChangeShapes Go.WideShapes Go.ChangeAt Go.RowKit Go.Joins
set_option maxRecDepth 100000
set_option maxHeartbeats 8000000 in
theorem over:Rows.routerWaysRow.holds Tryz.pinned (OpenSpec.ofChange Rows.routerWaysSpec):=
 OpenClaim.holds_of_wide 9 Tryz.f9 I I I I I I I ⟨I,I,I,I,I⟩ I I I I I NR Tryz.func9 Ob
  (of_decide_eq_true (by as_aux_lemma=>kernel_rfl)) (by unfold Func.isWrapper;first | (rw [if_pos (by decide +kernel)];kernel_rfl) | (rw [if_neg (by decide +kernel)];exact ⟨I,I⟩))
  (fun os started H enc _=>lifted os started H enc)
theorem Qb (f:FuncId) (fn:Func) (hf:Tryz.prog.funcNamed "genlock/genlocklaw05.RouterWays" = some f) (XZ:Tryz.prog.funcs[f]? = some fn):f=9/\fn=Tryz.f9:=by
 obtain rfl:f=9:=Option.some.inj ((show Tryz.prog.funcNamed "genlock/genlocklaw05.RouterWays" = some 9 by as_aux_lemma=>kernel_rfl).symm.trans hf) |>.symm;exact ⟨I,(Option.some.inj (Tryz.func9.symm.trans XZ)).symm⟩
theorem MV (j:Nat) (t:TypeId) (ht:Tryz.f9.params[j]? = some t):Tryz.prog.wantsStandIn t=false:=by
 rw [Tryz.params9] at ht;have hm:t∈[27,29,32]:=by simpa using Array.mem_of_getElem? ht
 have dC:([27,29,32].all fun u=>!Tryz.prog.wantsStandIn u)=true:=by as_aux_lemma=>kernel_rfl
 exact (show Tryz.prog.wantsStandIn t=false by simpa using List.all_eq_true.1 dC t hm)
set_option maxHeartbeats 8000000 in
theorem proved:Rows.RouterWaysCardSaid:=
 Claim7.holds_tied_plain_at .later [] [.data,.data,.data] true (true,"bc2fc6f0e1e07d2f37791b4ccc178b5e6ff1233c4d56b9b9dd47b280cfc57924") false
  over (fun _ h=>by cases h) (by as_aux_lemma=>kernel_rfl) (fun _ h=>by cases h) routerWays_row_tie I ⟨I,I⟩ (by as_aux_lemma=>kernel_rfl) I
  (fun f fn hf XZ=>by
   obtain ⟨rfl,rfl⟩:=Qb f fn hf XZ;exact ⟨by as_aux_lemma=>kernel_rfl,MV⟩)
  (by as_aux_lemma=>kernel_rfl)
#print axioms proved
end Go.Proofs.YteonnodafmegaaaGreatDoor
