/- Part of the proof: B2. -/
import Derived.Test.YtahcjhdepdhipaaB1
import Derived.Test.YtahcjhdepdhipaaA1q
import Derived.Test.YtahcjhdepdhipaaGkFin
set_option linter.unusedSectionVars false
set_option linter.unusedVariables false
set_option linter.unusedSimpArgs false
namespace Go.Proofs.A1
open Go Go.SL

inductive IntL : List Value → List Int → Prop
  | nil : IntL [] []
  | cons {e : Int} {vs : List Value} {es : List Int} (h : IntL vs es) : IntL (.int .i64 e :: vs) (e :: es)
theorem IntL.eq {vs : List Value} {es : List Int} (h : IntL vs es) : (vs.map fun v => [v]) = ints es := by
  induction h with
  | nil => rfl
  | cons h ih => simp only [List.map_cons, ints, ih]
theorem first_qB {v : Value} {cs : List Value} {es : List Int} {w : World} (h : Rd w v 1 (cs.map fun v => [v])) (hl : IntL cs es) : GivesV Try.prog 12 [v] w (.int .i64 (firstF es)) :=
  first_q v es w (by rw [← hl.eq]; exact h)
def Ed.cells (e : Ed) : List Value := [.int .i64 e.f, .int .i64 e.t, .int .i64 e.lo, .int .i64 e.hi]
def edgeF (e : Ed) (n : Int) : Int := firstF [whenF (decide (e.f < 0) || decide (n ≤ e.f)) 10, whenF (decide (e.t < 0) || decide (n ≤ e.t)) 10, whenF (decide (e.f = e.t)) 24, withinF e.lo 0 100000, withinF e.hi 0 100000, whenF (decide (e.hi < e.lo)) 11]
theorem edge_q (e : Ed) (n : Int) (w : World) : GivesV Try.prog 16 [.agg e.cells.toArray, .int .i64 n] w (.int .i64 (edgeF e n)) := by
  refine givesV_of_tr Try.func16 rfl rfl ?_
  unfold Ed.cells
  (refine tr_seq ?_; refine tr_region ?_; refine tr_new (rk_box (Is.of rfl) rfl) rfl (fun z1 z2 => ?_); refine tr_val (rk_assign (Is.of rfl)) rfl ?_; refine tr_nil ?_; refine tr_then ?_; refine tr_seq ?_)
  with_reducible refine tr_draw 38 (by kernel_rfl) ?_
  (refine any_val (rk_fieldAddr (Is.of rfl) norm0_) rfl ?_; refine any_val (rk_load1 (Is.of rfl) (At.lit Take.here rfl)) rfl ?_; refine any_val (rk_lss (Is.of rfl) (Is.of rfl)) rfl ?_; refine any_val (rk_move (Is.of rfl)) rfl ?_; refine any_vG1 rfl rfl inferInstance (fun hg hgp => (rk_fieldAddr (Is.of rfl) norm0_)) rfl ?_; refine any_vG1 rfl rfl inferInstance (fun hg hgp => (rk_load1 (Is.ofg hg rfl) (At.lit Take.here rfl))) rfl ?_; refine any_vG1 rfl rfl inferInstance (fun hg hgp => (rk_move (Is.of rfl))) rfl ?_; refine any_vG1 rfl rfl inferInstance (fun hg hgp => (rk_geq (Is.ofg hg rfl) (Is.ofg hg rfl))) rfl ?_; refine any_val (rk_pick_or (Is.of rfl) rfl) rfl ?_; refine any_call (rk_call (Is.of rfl) (Iss.cons (Is.of rfl) (Iss.cons (Is.of rfl) Iss.nil)) inferInstance normc_) rfl (fun w' hm' => (when_q _ _ w')) ?_; refine any_val (rk_fieldAddr (Is.of rfl) norm0_) rfl ?_; refine any_val (rk_load1 (Is.of rfl) (At.lit Take.here rfl)) rfl ?_; refine any_val (rk_lss (Is.of rfl) (Is.of rfl)) rfl ?_; refine any_val (rk_move (Is.of rfl)) rfl ?_; refine any_vG1 rfl rfl inferInstance (fun hg hgp => (rk_fieldAddr (Is.of rfl) norm0_)) rfl ?_; refine any_vG1 rfl rfl inferInstance (fun hg hgp => (rk_load1 (Is.ofg hg rfl) (At.lit Take.here rfl))) rfl ?_; refine any_vG1 rfl rfl inferInstance (fun hg hgp => (rk_move (Is.of rfl))) rfl ?_; refine any_vG1 rfl rfl inferInstance (fun hg hgp => (rk_geq (Is.ofg hg rfl) (Is.ofg hg rfl))) rfl ?_; refine any_val (rk_pick_or (Is.of rfl) rfl) rfl ?_; refine any_call (rk_call (Is.of rfl) (Iss.cons (Is.of rfl) (Iss.cons (Is.of rfl) Iss.nil)) inferInstance normc_) rfl (fun w' hm' => (when_q _ _ w')) ?_; refine any_val (rk_fieldAddr (Is.of rfl) norm0_) rfl ?_; refine any_val (rk_load1 (Is.of rfl) (At.lit Take.here rfl)) rfl ?_; refine any_val (rk_fieldAddr (Is.of rfl) norm0_) rfl ?_; refine any_val (rk_load1 (Is.of rfl) (At.lit Take.here rfl)) rfl ?_; refine any_val (rk_eql (Is.of rfl) (Is.of rfl)) rfl ?_; refine any_call (rk_call (Is.of rfl) (Iss.cons (Is.of rfl) (Iss.cons (Is.of rfl) Iss.nil)) inferInstance normc_) rfl (fun w' hm' => (when_q _ _ w')) ?_; refine any_val (rk_fieldAddr (Is.of rfl) norm0_) rfl ?_; refine any_val (rk_load1 (Is.of rfl) (At.lit Take.here rfl)) rfl ?_; refine any_call (rk_call (Is.of rfl) (Iss.cons (Is.of rfl) (Iss.cons (Is.of rfl) (Iss.cons (Is.of rfl) Iss.nil))) inferInstance normc_) rfl (fun w' hm' => (range_q _ _ _ w')) ?_; refine any_val (rk_fieldAddr (Is.of rfl) norm0_) rfl ?_; refine any_val (rk_load1 (Is.of rfl) (At.lit Take.here rfl)) rfl ?_; refine any_call (rk_call (Is.of rfl) (Iss.cons (Is.of rfl) (Iss.cons (Is.of rfl) (Iss.cons (Is.of rfl) Iss.nil))) inferInstance normc_) rfl (fun w' hm' => (range_q _ _ _ w')) ?_; refine any_val (rk_fieldAddr (Is.of rfl) norm0_) rfl ?_; refine any_val (rk_load1 (Is.of rfl) (At.lit Take.here rfl)) rfl ?_; refine any_val (rk_fieldAddr (Is.of rfl) norm0_) rfl ?_; refine any_val (rk_load1 (Is.of rfl) (At.lit Take.here rfl)) rfl ?_; refine any_val (rk_gtr (Is.of rfl) (Is.of rfl)) rfl ?_; refine any_call (rk_call (Is.of rfl) (Iss.cons (Is.of rfl) (Iss.cons (Is.of rfl) Iss.nil)) inferInstance normc_) rfl (fun w' hm' => (when_q _ _ w')) ?_)
  with_reducible refine any_end ?_
  (refine tr_new (rk_sliceLit (PartsS.cons (Is.of rfl) (PartsS.cons (Is.of rfl) (PartsS.cons (Is.of rfl) (PartsS.cons (Is.of rfl) (PartsS.cons (Is.of rfl) (PartsS.cons (Is.of rfl) PartsS.nil)))))) rfl rfl rfl rfl) rfl (fun z1 z2 => ?_); refine tr_callV (rk_call (Is.of rfl) (Iss.cons (Is.of rfl) Iss.nil) inferInstance normc_) rfl (fun w' hm' => (first_qB (Mem.rdBlk hm' Take.here rfl rfl) (IntL.cons (IntL.cons (IntL.cons (IntL.cons (IntL.cons (IntL.cons IntL.nil)))))))) ?_; refine tr_val (rk_assign (Is.of rfl)) rfl ?_; refine tr_nil ?_; refine tr_then ?_; refine tr_ret ?_; refine tr_retE rfl (ends1 rfl rfl) ?_)
  rfl
end Go.Proofs.A1
