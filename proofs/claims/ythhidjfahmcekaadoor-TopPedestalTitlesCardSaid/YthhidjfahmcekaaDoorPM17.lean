/- Parts of the proof: DY1c. -/
import Derived.Test.YthhidjfahmcekaaDoorPM16
set_option linter.unusedSectionVars false
set_option linter.unusedVariables false
set_option linter.unusedSimpArgs false
namespace Go.Proofs.YthhidjfahmcekaaDoor
open Go Go.SL Go.Proofs.A1 Go.ChangeShapes Go.WideShapes Go.ChangeAt Go.RowKit Go.Joins
set_option maxRecDepth 100000
set_option maxHeartbeats 8000000 in
theorem over:Rows.topPedestalTitlesRow.holds Tryd.pinned (OpenSpec.ofChange Rows.topPedestalTitlesSpec):=
  OpenClaim.holds_of_wide 3 Tryd.f3 rfl rfl rfl rfl rfl rfl rfl ⟨rfl,rfl,rfl,rfl,rfl⟩ rfl rfl rfl rfl rfl fnNamed Tryd.func3 closedF
    (of_decide_eq_true (by as_aux_lemma=>kernel_rfl)) (by unfold Func.isWrapper;first | (rw [if_pos (by decide +kernel)];kernel_rfl) | (rw [if_neg (by decide +kernel)];exact ⟨rfl,rfl⟩))
    (fun os started H enc _=>lifted os started H enc)
theorem standF (f:FuncId) (fn:Func) (hf:Tryd.prog.funcNamed "genlock/genlocktop.TopPedestalTitles" = some f) (hfn:Tryd.prog.funcs[f]? = some fn):f = 3 ∧ fn = Tryd.f3:=by
  obtain rfl:f = 3:=Option.some.inj ((show Tryd.prog.funcNamed "genlock/genlocktop.TopPedestalTitles" = some 3 by as_aux_lemma=>kernel_rfl).symm.trans hf) |>.symm
  exact ⟨rfl,(Option.some.inj (Tryd.func3.symm.trans hfn)).symm⟩
theorem noStand (j:Nat) (t:TypeId) (ht:Tryd.f3.params[j]? = some t):Tryd.prog.wantsStandIn t = false:=by
  rw [Tryd.params3] at ht
  have hm:t ∈ [25,26]:=by simpa using Array.mem_of_getElem? ht
  have hall:([25,26].all fun u=>!Tryd.prog.wantsStandIn u) = true:=by as_aux_lemma=>kernel_rfl
  exact (show Tryd.prog.wantsStandIn t = false by simpa using List.all_eq_true.1 hall t hm)
set_option maxHeartbeats 8000000 in
theorem proved:Rows.TopPedestalTitlesCardSaid:=
  Claim7.holds_tied_plain_at .later [] [.widerDeep] true (true,"5bfeb234488cf0748aafe196a16f289f8df6dd7b01d4819fafb9ed70b9681b91") false
    over (fun _ h=>by cases h) (by as_aux_lemma=>kernel_rfl) (fun _ h=>by cases h) topPedestalTitles_row_tie rfl ⟨rfl,rfl⟩ (by as_aux_lemma=>kernel_rfl) rfl
    (fun f fn hf hfn=>by
      obtain ⟨rfl,rfl⟩:=standF f fn hf hfn
      exact ⟨by as_aux_lemma=>kernel_rfl,noStand⟩)
    (by as_aux_lemma=>kernel_rfl)
#print axioms proved
end Go.Proofs.YthhidjfahmcekaaDoor
