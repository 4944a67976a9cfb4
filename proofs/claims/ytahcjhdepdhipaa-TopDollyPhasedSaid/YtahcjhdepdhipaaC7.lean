/- Part of the proof: C7. -/
import Derived.Test.YtahcjhdepdhipaaC6
import Derived.Test.YtahcjhdepdhipaaGkFin
set_option linter.unusedSectionVars false
set_option linter.unusedVariables false
set_option linter.unusedSimpArgs false
namespace Go.Proofs.A1
open Go Go.SL

set_option maxHeartbeats 4000000 in
theorem checkArc_c {nv ev : Value} {ns : List ByteArray} {es : List Ed} {i x : Int} {q : Bool} {w : World} (h : NetM w nv ev ns es) (h1 : i < es.length) (h2 : -1 ≤ i) (h3 : i = -1 → 0 ≤ x ∧ x < ns.length) (h4 : 0 ≤ i → x = 0) (h5 : i < 0 → q = false) :
    GivesV Try.prog 26 [.agg #[nv, ev], .agg #[.int .i64 i, .bool q, .int .i64 x]] w (.int .i64 0) := by
  obtain ⟨⟨a, cap, b, o, rfl, hcap, hmax, ha, hc⟩, ⟨a2, cap2, bb2, oo2, rfl, hcap2, hmax2, ha2, hc2⟩⟩ := h
  rw [strs_length] at *
  rw [edgesL_length] at *
  unfold maxLen at hmax hmax2
  refine givesV_of_tr Try.func26 rfl rfl ?_
  (refine tr_seq ?_; refine tr_region ?_; refine tr_new (rk_box (Is.of rfl) rfl) rfl (fun _ _ => ?_); refine tr_new (rk_box (Is.of rfl) rfl) rfl (fun _ _ => ?_); refine tr_val (rk_assign (Is.of rfl)) rfl ?_; refine tr_nil ?_; refine tr_then ?_; refine tr_seq ?_; refine tr_region ?_; refine tr_val (rk_fieldAddr (Is.of rfl) norm0_) rfl ?_; refine tr_val (rk_load1 (Is.of rfl) (At.lit Take.here rfl)) rfl ?_; refine tr_val (rk_lss (Is.of rfl) (Is.of rfl)) rfl ?_; refine tr_val (rk_move (Is.of rfl)) rfl ?_; refine tr_vG1 rfl rfl inferInstance (fun hg hgp => (rk_fieldAddr (Is.of rfl) norm0_)) rfl ?_; refine tr_vG1 rfl rfl inferInstance (fun hg hgp => (rk_load1 (Is.ofg hg rfl) (At.lit Take.here rfl))) rfl ?_; refine tr_vG1 rfl rfl inferInstance (fun hg hgp => (rk_fieldAddr (Is.of rfl) norm0_)) rfl ?_; refine tr_vG1 rfl rfl inferInstance (fun hg hgp => (rk_load1 (Is.ofg hg rfl) (At.lit (Take.there Take.here) rfl))) rfl ?_; refine tr_vG1 rfl rfl inferInstance (fun hg hgp => (rk_len_slice (Is.ofg hg rfl))) rfl ?_; refine tr_vG1 rfl rfl inferInstance (fun hg hgp => (rk_geq (Is.ofg hg rfl) (Is.ofg hg rfl))) rfl ?_; refine tr_val (rk_pick_or (Is.of rfl) rfl) rfl ?_; refine tr_val (rk_move (Is.of rfl)) rfl ?_; refine tr_vG1 rfl rfl inferInstance (fun hg hgp => (rk_fieldAddr (Is.of rfl) norm0_)) rfl ?_; refine tr_vG1 rfl rfl inferInstance (fun hg hgp => (rk_load1 (Is.ofg hg rfl) (At.lit Take.here rfl))) rfl ?_; refine tr_vG1 rfl rfl inferInstance (fun hg hgp => (rk_eql (Is.ofg hg rfl) (Is.of rfl))) rfl ?_; refine tr_vG1 rfl rfl inferInstance (fun hg hgp => (rk_move (Is.ofg hg rfl))) rfl ?_; refine tr_vG rfl rfl inferInstance (fun hg hgp => (rk_fieldAddr (Is.of rfl) norm0_)) rfl ?_; refine tr_vG rfl rfl inferInstance (fun hg hgp => (rk_load1 (Is.ofg hg rfl) (At.lit Take.here rfl))) rfl ?_; refine tr_vG rfl rfl inferInstance (fun hg hgp => (rk_lss (Is.ofg hg rfl) (Is.of rfl))) rfl ?_; refine tr_vG rfl rfl inferInstance (fun hg hgp => (rk_move (Is.ofg hg rfl))) rfl ?_; refine tr_vG rfl rfl inferInstance (fun hg hgp => (rk_fieldAddr (Is.of rfl) norm0_)) rfl ?_; refine tr_vG rfl rfl inferInstance (fun hg hgp => (rk_load1 (Is.ofg hg rfl) (At.lit Take.here rfl))) rfl ?_; refine tr_vG rfl rfl inferInstance (fun hg hgp => (rk_fieldAddr (Is.of rfl) norm0_)) rfl ?_; refine tr_vG rfl rfl inferInstance (fun hg hgp => (rk_load1 (Is.ofg hg rfl) (At.lit (Take.there Take.here) rfl))) rfl ?_; refine tr_vG rfl rfl inferInstance (fun hg hgp => (rk_len_slice (Is.ofg hg rfl))) rfl ?_; refine tr_vG rfl rfl inferInstance (fun hg hgp => (rk_geq (Is.ofg hg rfl) (Is.ofg hg rfl))) rfl ?_; refine tr_vG rfl rfl inferInstance (fun hg hgp => (rk_pick_or' hg (Is.ofg hg rfl) rfl)) rfl ?_; refine tr_vG1 rfl rfl inferInstance (fun hg hgp => (rk_pick_and' hg (Is.ofg hg rfl) rfl)) rfl ?_; refine tr_val (rk_pick_or (Is.of rfl) rfl) rfl ?_; refine tr_val (rk_assign (Is.of rfl)) rfl ?_; refine tr_nil ?_; refine tr_then ?_; refine tr_seq ?_)
  have hu : (decide (i < -1) || decide ((es.length : Int) ≤ i) || decide (i = -1) && (decide (x < 0) || decide ((ns.length : Int) ≤ x))) = false := by
    rw [decide_eq_false (show ¬ i < -1 by omega), decide_eq_false (show ¬ (es.length : Int) ≤ i by omega)]
    by_cases e : i = -1
    · have := h3 e
      rw [decide_eq_false (show ¬ x < 0 by omega), decide_eq_false (show ¬ (ns.length : Int) ≤ x by omega)]; simp
    · rw [decide_eq_false e]; rfl
  rw [hu]
  with_reducible refine tr_draw 20 (by kernel_rfl) ?_
  (refine any_val (rk_move (Is.of rfl)) rfl ?_; refine any_call (rk_call (Is.of rfl) (Iss.cons (Is.of rfl) (Iss.cons (Is.of rfl) Iss.nil)) inferInstance normc_) rfl (fun w' hm' => (when_c _ _ w')) ?_; refine any_val (rk_fieldAddr (Is.of rfl) norm0_) rfl ?_; refine any_val (rk_load1 (Is.of rfl) (At.lit Take.here rfl)) rfl ?_; refine any_val (rk_geq (Is.of rfl) (Is.of rfl)) rfl ?_; refine any_val (rk_move (Is.of rfl)) rfl ?_; refine any_vG1 rfl rfl inferInstance (fun hg hgp => (rk_fieldAddr (Is.of rfl) norm0_)) rfl ?_; refine any_vG1 rfl rfl inferInstance (fun hg hgp => (rk_load1 (Is.ofg hg rfl) (At.lit Take.here rfl))) rfl ?_; refine any_vG1 rfl rfl inferInstance (fun hg hgp => (rk_neq (Is.ofg hg rfl) (Is.of rfl))) rfl ?_; refine any_val (rk_pick_and (Is.of rfl) rfl) rfl ?_; refine any_val (rk_move (Is.of rfl)) rfl ?_; refine any_vG1 rfl rfl inferInstance (fun hg hgp => (rk_fieldAddr (Is.of rfl) norm0_)) rfl ?_; refine any_vG1 rfl rfl inferInstance (fun hg hgp => (rk_load1 (Is.ofg hg rfl) (At.lit Take.here rfl))) rfl ?_; refine any_vG1 rfl rfl inferInstance (fun hg hgp => (rk_lss (Is.ofg hg rfl) (Is.of rfl))) rfl ?_; refine any_vG1 rfl rfl inferInstance (fun hg hgp => (rk_move (Is.ofg hg rfl))) rfl ?_; refine any_vG rfl rfl inferInstance (fun hg hgp => (rk_fieldAddr (Is.of rfl) norm0_)) rfl ?_; refine any_vG rfl rfl inferInstance (fun hg hgp => (rk_load1 (Is.ofg hg rfl) (At.lit Take.here rfl))) rfl ?_; refine any_vG1 rfl rfl inferInstance (fun hg hgp => (rk_pick_and' hg (Is.ofg hg rfl) rfl)) rfl ?_; refine any_val (rk_pick_or (Is.of rfl) rfl) rfl ?_; refine any_call (rk_call (Is.of rfl) (Iss.cons (Is.of rfl) (Iss.cons (Is.of rfl) Iss.nil)) inferInstance normc_) rfl (fun w' hm' => (when_c _ _ w')) ?_)
  with_reducible refine any_end ?_
  (refine tr_new (rk_sliceLit (PartsS.cons (Is.of rfl) (PartsS.cons (Is.of rfl) PartsS.nil)) rfl rfl rfl rfl) rfl (fun _ _ => ?_); refine tr_callV (rk_call (Is.of rfl) (Iss.cons (Is.of rfl) Iss.nil) inferInstance normc_) rfl (fun w' hm' => (first_pB (Mem.rdBlk hm' Take.here rfl rfl) (IntL.cons (IntL.cons IntL.nil)))) ?_; refine tr_val (rk_assign (Is.of rfl)) rfl ?_; refine tr_nil ?_; refine tr_then ?_; refine tr_ret ?_; refine tr_retE rfl (ends1 rfl rfl) ?_)
  have hf : (decide (0 ≤ i) && decide (x ≠ 0) || decide (i < 0) && q) = false := by
    by_cases e : 0 ≤ i
    · rw [decide_eq_false (show ¬ x ≠ 0 by have := h4 e; omega), decide_eq_false (show ¬ i < 0 by omega)]; simp
    · rw [decide_eq_false e, h5 (by omega)]; simp
  rw [hf]; rfl
end Go.Proofs.A1
