/- Parts of the proof: EYc. -/
import Derived.Test.YtpamkookgkffgaaGreatDoorTM26
set_option linter.unusedSectionVars false
set_option linter.unusedVariables false
set_option linter.unusedSimpArgs false
namespace Go.Proofs.YtpamkookgkffgaaGreatDoor
open Go Go.SL Go.Proofs.A1 Go.ChangeShapes Go.WideShapes Go.ChangeAt Go.RowKit Go.Joins
set_option maxRecDepth 100000
set_option maxHeartbeats 8000000 in
theorem over:Rows.topCraneTitledRow.holds Tryz.pinned (OpenSpec.ofChange Rows.topCraneTitledSpec):=
  OpenClaim.holds_of_wide 3 Tryz.f3 rfl rfl rfl rfl rfl rfl rfl ⟨rfl,rfl,rfl,rfl,rfl⟩ rfl rfl rfl rfl rfl fnNamed Tryz.func3 closedF
    (of_decide_eq_true (by as_aux_lemma=>kernel_rfl)) (by unfold Func.isWrapper;first | (rw [if_pos (by decide +kernel)];kernel_rfl) | (rw [if_neg (by decide +kernel)];exact ⟨rfl,rfl⟩))
    (fun os started H enc _=>lifted os started H enc)
theorem standF (f:FuncId) (fn:Func) (hf:Tryz.prog.funcNamed "genlock/genlocktop.TopCraneTitled" = some f) (hfn:Tryz.prog.funcs[f]? = some fn):f = 3 ∧ fn = Tryz.f3:=by
  obtain rfl:f = 3:=Option.some.inj ((show Tryz.prog.funcNamed "genlock/genlocktop.TopCraneTitled" = some 3 by as_aux_lemma=>kernel_rfl).symm.trans hf) |>.symm
  exact ⟨rfl,(Option.some.inj (Tryz.func3.symm.trans hfn)).symm⟩
theorem noStand (j:Nat) (t:TypeId) (ht:Tryz.f3.params[j]? = some t):Tryz.prog.wantsStandIn t = false:=by
  rw [Tryz.params3] at ht
  have hm:t ∈ [24,29,5]:=by simpa using Array.mem_of_getElem? ht
  have hall:([24,29,5].all fun u=>!Tryz.prog.wantsStandIn u) = true:=by as_aux_lemma=>kernel_rfl
  exact (show Tryz.prog.wantsStandIn t = false by simpa using List.all_eq_true.1 hall t hm)
set_option maxHeartbeats 8000000 in
theorem proved:Rows.TopCraneTitledCardSaid:=
  Claim7.holds_tied_plain_at .later [] [.widerDeep,.data] true (true,"b5c30354364ec1b17d1d2dc8588be38e6132d53863f63ead1ca0cc0dc553bed3") false
    over (fun _ h=>by cases h) (by as_aux_lemma=>kernel_rfl) (fun _ h=>by cases h) topCraneTitled_row_tie rfl ⟨rfl,rfl⟩ (by as_aux_lemma=>kernel_rfl) rfl
    (fun f fn hf hfn=>by
      obtain ⟨rfl,rfl⟩:=standF f fn hf hfn
      exact ⟨by as_aux_lemma=>kernel_rfl,noStand⟩)
    (by as_aux_lemma=>kernel_rfl)
#print axioms proved
end Go.Proofs.YtpamkookgkffgaaGreatDoor
