/- Parts of the proof: XBc. -/
import Derived.Test.YteonnodafmegaaaGreatDoorBM17
set_option linter.unusedSectionVars false
set_option linter.unusedVariables false
set_option linter.unusedSimpArgs false
namespace Go.Proofs.YteonnodafmegaaaGreatDoor
open Go Go.SL Go.Proofs.A1 Go.ChangeShapes Go.WideShapes Go.ChangeAt Go.RowKit Go.Joins
set_option maxRecDepth 100000
set_option maxHeartbeats 8000000 in
theorem over:Rows.routerCutsRow.holds Tryz.pinned (OpenSpec.ofChange Rows.routerCutsSpec):=
 OpenClaim.holds_of_wide 4 Tryz.f4 rfl rfl rfl rfl rfl rfl rfl ⟨rfl,rfl,rfl,rfl,rfl⟩ rfl rfl rfl rfl rfl ML Tryz.func4 M7
  (of_decide_eq_true (by as_aux_lemma=>kernel_rfl)) (by unfold Func.isWrapper;first | (rw [if_pos (by decide +kernel)];kernel_rfl) | (rw [if_neg (by decide +kernel)];exact ⟨rfl,rfl⟩))
  (fun os started H enc _=>lifted os started H enc)
theorem O7 (f:FuncId) (fn:Func) (hf:Tryz.prog.funcNamed "genlock/genlocklaw05.RouterCuts" = some f) (WT:Tryz.prog.funcs[f]? = some fn):f=4∧fn=Tryz.f4:=by
 obtain rfl:f=4:=Option.some.inj ((show Tryz.prog.funcNamed "genlock/genlocklaw05.RouterCuts" = some 4 by as_aux_lemma=>kernel_rfl).symm.trans hf) |>.symm
 exact ⟨rfl,(Option.some.inj (Tryz.func4.symm.trans WT)).symm⟩
theorem LQ (j:Nat) (t:TypeId) (ht:Tryz.f4.params[j]? = some t):Tryz.prog.wantsStandIn t=false:=by
 rw [Tryz.params4] at ht
 have hm:t∈[27,29,49]:=by simpa using Array.mem_of_getElem? ht
 have dU:([27,29,49].all fun u=>!Tryz.prog.wantsStandIn u)=true:=by as_aux_lemma=>kernel_rfl
 exact (show Tryz.prog.wantsStandIn t=false by simpa using List.all_eq_true.1 dU t hm)
set_option maxHeartbeats 8000000 in
theorem proved:Rows.RouterCutsCardSaid:=
 Claim7.holds_tied_plain_at .later [] [.data,.data,.data] true (true,"bc2fc6f0e1e07d2f37791b4ccc178b5e6ff1233c4d56b9b9dd47b280cfc57924") false
  over (fun _ h=>by cases h) (by as_aux_lemma=>kernel_rfl) (fun _ h=>by cases h) routerCuts_row_tie rfl ⟨rfl,rfl⟩ (by as_aux_lemma=>kernel_rfl) rfl
  (fun f fn hf WT=>by
   obtain ⟨rfl,rfl⟩:=O7 f fn hf WT
   exact ⟨by as_aux_lemma=>kernel_rfl,LQ⟩)
  (by as_aux_lemma=>kernel_rfl)
#print axioms proved
end Go.Proofs.YteonnodafmegaaaGreatDoor
