/- Parts of the proof: DY2c. -/
import Derived.Test.YthhidjfahmcekaaDoorLM19
set_option linter.unusedSectionVars false
set_option linter.unusedVariables false
set_option linter.unusedSimpArgs false
namespace Go.Proofs.YthhidjfahmcekaaDoor
open Go Go.SL Go.Proofs.A1 Go.ChangeShapes Go.WideShapes Go.ChangeAt Go.RowKit Go.Joins
set_option maxRecDepth 100000
set_option maxHeartbeats 8000000 in
theorem over:Rows.topCraneLabelledRow.holds Tryd.pinned (OpenSpec.ofChange Rows.topCraneLabelledSpec):=
  OpenClaim.holds_of_wide 4 Tryd.f4 rfl rfl rfl rfl rfl rfl rfl ⟨rfl,rfl,rfl,rfl,rfl⟩ rfl rfl rfl rfl rfl fnNamed Tryd.func4 closedF
    (of_decide_eq_true (by as_aux_lemma=>kernel_rfl)) (by unfold Func.isWrapper;first | (rw [if_pos (by decide +kernel)];kernel_rfl) | (rw [if_neg (by decide +kernel)];exact ⟨rfl,rfl⟩))
    (fun os started H enc _=>lifted os started H enc)
theorem standF (f:FuncId) (fn:Func) (hf:Tryd.prog.funcNamed "genlock/genlocktop.TopCraneLabelled" = some f) (hfn:Tryd.prog.funcs[f]? = some fn):f = 4 ∧ fn = Tryd.f4:=by
  obtain rfl:f = 4:=Option.some.inj ((show Tryd.prog.funcNamed "genlock/genlocktop.TopCraneLabelled" = some 4 by as_aux_lemma=>kernel_rfl).symm.trans hf) |>.symm
  exact ⟨rfl,(Option.some.inj (Tryd.func4.symm.trans hfn)).symm⟩
theorem noStand (j:Nat) (t:TypeId) (ht:Tryd.f4.params[j]? = some t):Tryd.prog.wantsStandIn t = false:=by
  rw [Tryd.params4] at ht
  have hm:t ∈ [57,59,61]:=by simpa using Array.mem_of_getElem? ht
  have hall:([57,59,61].all fun u=>!Tryd.prog.wantsStandIn u) = true:=by as_aux_lemma=>kernel_rfl
  exact (show Tryd.prog.wantsStandIn t = false by simpa using List.all_eq_true.1 hall t hm)
set_option maxHeartbeats 8000000 in
theorem proved:Rows.TopCraneLabelledCardSaid:=
  Claim7.holds_tied_plain_at .later [] [.widerDeep,.data] true (true,"5bfeb234488cf0748aafe196a16f289f8df6dd7b01d4819fafb9ed70b9681b91") false
    over (fun _ h=>by cases h) (by as_aux_lemma=>kernel_rfl) (fun _ h=>by cases h) topCraneLabelled_row_tie rfl ⟨rfl,rfl⟩ (by as_aux_lemma=>kernel_rfl) rfl
    (fun f fn hf hfn=>by
      obtain ⟨rfl,rfl⟩:=standF f fn hf hfn
      exact ⟨by as_aux_lemma=>kernel_rfl,noStand⟩)
    (by as_aux_lemma=>kernel_rfl)
#print axioms proved
end Go.Proofs.YthhidjfahmcekaaDoor
