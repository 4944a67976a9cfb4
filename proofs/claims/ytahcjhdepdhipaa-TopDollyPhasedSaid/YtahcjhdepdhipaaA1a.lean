/- Part of the proof: A1a. -/
import Derived.Test.YtahcjhdepdhipaaA1Ty
import Derived.Test.YtahcjhdepdhipaaGkFin
set_option linter.unusedSectionVars false
set_option linter.unusedVariables false
set_option linter.unusedSimpArgs false
namespace Go.Proofs.A1
open Go Go.SL

def whenF (h : Bool) (e : Int) : Int := bif h then e else 0
theorem when_c (h : Bool) (e : Int) (w : World) : GivesV Try.prog 24 [.bool h, .int .i64 e] w (.int .i64 (whenF h e)) := by
  refine givesV_of_tr Try.func24 rfl rfl ?_
  (refine tr_seq ?_; refine tr_region ?_; refine tr_val (rk_assign (Is.of rfl)) rfl ?_; refine tr_nil ?_; refine tr_then ?_; refine tr_seq ?_; refine tr_seq ?_; refine tr_region ?_; refine tr_val (rk_move (Is.of rfl)) rfl ?_; refine tr_nil ?_; refine tr_then ?_; refine tr_condB (Is.of rfl) inferInstance (fun hcd => ?_) (fun hcd => ?_); refine tr_seq ?_; refine tr_region ?_; refine tr_val (rk_move (Is.of rfl)) rfl ?_; refine tr_val (rk_assign (Is.of rfl)) rfl ?_; refine tr_nil ?_; refine tr_then ?_; refine tr_ret ?_; refine tr_then_ret ?_; refine tr_retE rfl (ends1 rfl rfl) ?_; rotate_left; refine tr_skip ?_; refine tr_then ?_; refine tr_seq ?_; refine tr_region ?_; refine tr_val (rk_assign (Is.of rfl)) rfl ?_; refine tr_nil ?_; refine tr_then ?_; refine tr_ret ?_; refine tr_retE rfl (ends1 rfl rfl) ?_; rotate_right)
  all_goals simp [whenF, *]

def withinF (n l m : Int) : Int := whenF (decide (n < l) || decide (m < n)) 3
theorem within_c (n l m : Int) (w : World) : GivesV Try.prog 38 [.int .i64 n, .int .i64 l, .int .i64 m] w (.int .i64 (withinF n l m)) := by
  refine givesV_of_tr Try.func38 rfl rfl ?_
  (refine tr_seq ?_; refine tr_region ?_; refine tr_val (rk_assign (Is.of rfl)) rfl ?_; refine tr_nil ?_; refine tr_then ?_; refine tr_seq ?_; refine tr_region ?_; refine tr_val (rk_move (Is.of rfl)) rfl ?_; refine tr_val (rk_move (Is.of rfl)) rfl ?_; refine tr_val (rk_lss (Is.of rfl) (Is.of rfl)) rfl ?_; refine tr_val (rk_move (Is.of rfl)) rfl ?_; refine tr_vG1 rfl rfl inferInstance (fun hg hgp => (rk_move (Is.of rfl))) rfl ?_; refine tr_vG1 rfl rfl inferInstance (fun hg hgp => (rk_move (Is.of rfl))) rfl ?_; refine tr_vG1 rfl rfl inferInstance (fun hg hgp => (rk_gtr (Is.ofg hg rfl) (Is.ofg hg rfl))) rfl ?_; refine tr_val (rk_pick_or (Is.of rfl) rfl) rfl ?_)
  refine tr_callV (rk_call (Is.of rfl) (Iss.cons (Is.of rfl) (Iss.cons (Is.of rfl) Iss.nil)) inferInstance normc_) rfl (fun w' hm' => (when_c _ _ w')) ?_
  (refine tr_val (rk_assign (Is.of rfl)) rfl ?_; refine tr_nil ?_; refine tr_then ?_; refine tr_ret ?_; refine tr_retE rfl (ends1 rfl rfl) ?_)
  rfl
end Go.Proofs.A1
