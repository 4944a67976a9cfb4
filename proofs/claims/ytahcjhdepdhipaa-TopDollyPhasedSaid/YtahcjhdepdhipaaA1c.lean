/- Part of the proof: A1c. -/
import Derived.Test.YtahcjhdepdhipaaA1a
import Derived.Test.YtahcjhdepdhipaaGkFin
set_option linter.unusedSectionVars false
set_option linter.unusedVariables false
set_option linter.unusedSimpArgs false
namespace Go.Proofs.A1
open Go Go.SL


def unkF (i n : Int) : Int := whenF (decide (i < 0) || decide (n ≤ i)) 10
theorem known_c (i n : Int) (b : Nat) (w : World) (hb : w.cell? ⟨b, 0, none⟩ = some (.int .i64 n)) : GivesV Try.prog 37 [.int .i64 i, .pointer (some ⟨b, 0, none⟩)] w (.int .i64 (unkF i n)) := by
  refine givesV_of_tr Try.func37 rfl rfl ?_
  (refine tr_seq ?_; refine tr_region ?_; refine tr_val (rk_assign (Is.of rfl)) rfl ?_; refine tr_nil ?_; refine tr_then ?_; refine tr_seq ?_; refine tr_region ?_; refine tr_val (rk_move (Is.of rfl)) rfl ?_; refine tr_val (rk_lss (Is.of rfl) (Is.of rfl)) rfl ?_; refine tr_val (rk_move (Is.of rfl)) rfl ?_; refine tr_vG1 rfl rfl inferInstance (fun hg hgp => (rk_move (Is.of rfl))) rfl ?_; refine tr_vG1 rfl rfl inferInstance (fun hg hgp => (rk_load1 (Is.of rfl) (At.base hb rfl))) rfl ?_; refine tr_vG1 rfl rfl inferInstance (fun hg hgp => (rk_geq (Is.ofg hg rfl) (Is.ofg hg rfl))) rfl ?_; refine tr_val (rk_pick_or (Is.of rfl) rfl) rfl ?_; refine tr_callV (rk_call (Is.of rfl) (Iss.cons (Is.of rfl) (Iss.cons (Is.of rfl) Iss.nil)) inferInstance normc_) rfl (fun w' hm' => (when_c _ _ w')) ?_; refine tr_val (rk_assign (Is.of rfl)) rfl ?_; refine tr_nil ?_; refine tr_then ?_; refine tr_ret ?_; refine tr_retE rfl (ends1 rfl rfl) ?_)
  all_goals rfl
end Go.Proofs.A1
