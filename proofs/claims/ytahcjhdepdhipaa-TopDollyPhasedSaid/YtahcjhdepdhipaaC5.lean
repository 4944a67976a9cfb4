/- Part of the proof: C5. -/
import Derived.Test.YtahcjhdepdhipaaC4
import Derived.Test.YtahcjhdepdhipaaGkFin
set_option linter.unusedSectionVars false
set_option linter.unusedVariables false
set_option linter.unusedSimpArgs false
namespace Go.Proofs.A1
open Go Go.SL

def shortF (ns : List ByteArray) (es : List Ed) : Bool := (ns.all fun s => decide (s.size ≤ 60)) && ((decide ((ns.length : Int) ≤ 6) || decide ((ns.length : Int) = 13)) && ((decide ((es.length : Int) ≤ 12) || decide ((es.length : Int) = 24)) || decide ((es.length : Int) = 25)))
set_option maxHeartbeats 4000000 in
theorem short_q (nv ev : Value) (ns : List ByteArray) (es : List Ed) (w : World) (h1 : Rd w nv 1 (strs ns)) (h2 : Rd w ev 4 (edgesL es)) : GivesV Try.prog 4 [.agg #[nv, ev]] w (.bool (shortF ns es)) := by
  obtain ⟨a, cap, b, o, rfl, hcap, hmax, ha, hc⟩ := h1
  obtain ⟨a2, cap2, b2, o2, rfl, hcap2, hmax2, ha2, hc2⟩ := h2
  rw [strs_length] at *
  rw [edgesL_length] at *
  unfold maxLen at hmax hmax2
  refine givesV_of_tr Try.func4 rfl rfl ?_
  (refine tr_seq ?_; refine tr_region ?_; refine tr_new (rk_box (Is.of rfl) rfl) rfl (fun _ _ => ?_); refine tr_val (rk_assign (Is.of rfl)) rfl ?_; refine tr_nil ?_; refine tr_then ?_; refine tr_seq ?_; refine tr_seq ?_; refine tr_region ?_; refine tr_val (rk_assign (Is.of rfl)) rfl ?_; refine tr_nil ?_; refine tr_then ?_; refine tr_block ?_)
  rename_i bx hbx
  refine tr_for (fun k : Nat => k ≤ ns.length ∧ (ns.all fun s => decide (s.size ≤ 60)) = ((ns.drop k).all fun s => decide (s.size ≤ 60))) (fun k => [(3, .int .i64 k), (1, .pointer (some ⟨bx, 0, none⟩))]) (fun _ => [blk bx (.cells #[.slice a ns.length cap, .slice a2 es.length cap2] 25 (0, 0))]) (fun k => ns.length - k) ?_ ?_
  · apply tr_start 0 ⟨by omega, rfl⟩
    case hs1 => exact Subs.cons rfl (Subs.cons rfl Subs.nil)
    case ht => (try simp only [List.take_zero, List.map_nil, List.nil_append]); exact Takes.cons Take.here Takes.nil
  intro k ⟨hk, hf⟩
  by_cases hlt : k < ns.length
  · have ha' := ha (strs_ne hlt)
    have hcell := rd1 hc (strs_get hlt)
    rw [List.drop_eq_getElem_cons hlt, List.all_cons] at hf
    (refine tr_seq ?_; refine tr_seq ?_; refine tr_region ?_; refine tr_val (rk_move (Is.of rfl)) rfl ?_; refine tr_val (rk_fieldAddr (Is.of rfl) norm0_) rfl ?_; refine tr_val (rk_load1 (Is.of rfl) (At.lit Take.here rfl)) rfl ?_; refine tr_val (rk_len_slice (Is.of rfl)) rfl ?_; refine tr_val (rk_lss (Is.of rfl) (Is.of rfl)) rfl ?_; refine tr_nil ?_; refine tr_then ?_; refine tr_cond_d (Is.of rfl) (fun hcd => ?_) (fun hcd => (by omega)); refine tr_skip ?_; refine tr_then ?_; refine tr_seq ?_; refine tr_block ?_; refine tr_seq ?_; refine tr_region ?_; refine tr_val (rk_fieldAddr (Is.of rfl) norm0_) rfl ?_; refine tr_val (rk_load1 (Is.of rfl) (At.lit Take.here rfl)) rfl ?_; refine tr_val (rk_move (Is.of rfl)) rfl ?_; refine tr_val (rk_indexAddr (Is.of rfl) (Is.of rfl) ha' (by omega) hcd norm1_) rfl ?_; refine tr_val (rk_load1 (Is.of rfl) (At.base hcell rfl)) rfl ?_; refine tr_val (rk_len_string (Is.of rfl)) rfl ?_; refine tr_val (rk_gtr (Is.of rfl) (Is.of rfl)) rfl ?_; refine tr_nil ?_; refine tr_then ?_; refine tr_cond_d (Is.of rfl) (fun hcd => ?_) (fun hcd => ?_); refine tr_seq ?_; refine tr_region ?_; refine tr_val (rk_assign (Is.of rfl)) rfl ?_; refine tr_nil ?_; refine tr_then ?_; refine tr_ret ?_; refine tr_blk_ret ?_; refine tr_then_ret ?_; refine tr_then_ret ?_; refine tr_blk_ret ?_; refine tr_then_ret ?_; refine tr_retE rfl (ends1 rfl rfl) ?_; rotate_left; refine tr_skip ?_; refine tr_blk_normal ?_; refine tr_then ?_; refine tr_region ?_; refine tr_val (rk_move (Is.of rfl)) rfl ?_; refine tr_val (rk_add (Is.of rfl) (Is.of rfl) (ini (by omega))) rfl ?_; refine tr_val (rk_assign (Is.of rfl)) rfl ?_; refine tr_nil ?_; refine tr_then ?_; rotate_right)
    · have : decide (ns[k].size ≤ 60) = false := decide_eq_false (by omega)
      unfold shortF
      rw [hf, this]; simp
    · have : decide (ns[k].size ≤ 60) = true := decide_eq_true (by omega)
      rw [this, Bool.true_and] at hf
      apply tr_next (k + 1) ⟨by omega, hf⟩ (by omega)
      case hs1 => exact Subs.cons rfl (Subs.cons rfl Subs.nil)
      case ht => (try simp only [List.take_zero, List.map_nil, List.nil_append]); exact Takes.cons Take.here Takes.nil
  · have : (ns.all fun s => decide (s.size ≤ 60)) = true := by rw [hf, List.drop_of_length_le (by omega)]; rfl
    (refine tr_seq ?_; refine tr_seq ?_; refine tr_region ?_; refine tr_val (rk_move (Is.of rfl)) rfl ?_; refine tr_val (rk_fieldAddr (Is.of rfl) norm0_) rfl ?_; refine tr_val (rk_load1 (Is.of rfl) (At.lit Take.here rfl)) rfl ?_; refine tr_val (rk_len_slice (Is.of rfl)) rfl ?_; refine tr_val (rk_lss (Is.of rfl) (Is.of rfl)) rfl ?_; refine tr_nil ?_; refine tr_then ?_; refine tr_cond_d (Is.of rfl) (fun hcd => (by omega)) (fun hcd => ?_); refine tr_exit ?_; refine tr_then_exit ?_; refine tr_then_exit ?_; refine tr_blk_exit ?_; refine tr_then ?_; refine tr_seq ?_; refine tr_region ?_; refine tr_val (rk_fieldAddr (Is.of rfl) norm0_) rfl ?_; refine tr_val (rk_load1 (Is.of rfl) (At.lit Take.here rfl)) rfl ?_; refine tr_val (rk_len_slice (Is.of rfl)) rfl ?_; refine tr_val (rk_leq (Is.of rfl) (Is.of rfl)) rfl ?_; refine tr_val (rk_move (Is.of rfl)) rfl ?_; refine tr_vG1 rfl rfl inferInstance (fun hg hgp => (rk_fieldAddr (Is.of rfl) norm0_)) rfl ?_; refine tr_vG1 rfl rfl inferInstance (fun hg hgp => (rk_load1 (Is.ofg hg rfl) (At.lit Take.here rfl))) rfl ?_; refine tr_vG1 rfl rfl inferInstance (fun hg hgp => (rk_len_slice (Is.ofg hg rfl))) rfl ?_; refine tr_vG1 rfl rfl inferInstance (fun hg hgp => (rk_eql (Is.ofg hg rfl) (Is.of rfl))) rfl ?_; refine tr_val (rk_pick_or (Is.of rfl) rfl) rfl ?_; refine tr_val (rk_move (Is.of rfl)) rfl ?_; refine tr_vG1 rfl rfl inferInstance (fun hg hgp => (rk_fieldAddr (Is.of rfl) norm0_)) rfl ?_; refine tr_vG1 rfl rfl inferInstance (fun hg hgp => (rk_load1 (Is.ofg hg rfl) (At.lit Take.here rfl))) rfl ?_; refine tr_vG1 rfl rfl inferInstance (fun hg hgp => (rk_len_slice (Is.ofg hg rfl))) rfl ?_; refine tr_vG1 rfl rfl inferInstance (fun hg hgp => (rk_leq (Is.ofg hg rfl) (Is.of rfl))) rfl ?_; refine tr_vG1 rfl rfl inferInstance (fun hg hgp => (rk_move (Is.ofg hg rfl))) rfl ?_; refine tr_vG rfl rfl inferInstance (fun hg hgp => (rk_fieldAddr (Is.of rfl) norm0_)) rfl ?_; refine tr_vG rfl rfl inferInstance (fun hg hgp => (rk_load1 (Is.ofg hg rfl) (At.lit Take.here rfl))) rfl ?_; refine tr_vG rfl rfl inferInstance (fun hg hgp => (rk_len_slice (Is.ofg hg rfl))) rfl ?_; refine tr_vG rfl rfl inferInstance (fun hg hgp => (rk_eql (Is.ofg hg rfl) (Is.of rfl))) rfl ?_; refine tr_vG1 rfl rfl inferInstance (fun hg hgp => (rk_pick_or' hg (Is.ofg hg rfl) rfl)) rfl ?_; refine tr_vG1 rfl rfl inferInstance (fun hg hgp => (rk_move (Is.ofg hg rfl))) rfl ?_; refine tr_vG rfl rfl inferInstance (fun hg hgp => (rk_fieldAddr (Is.of rfl) norm0_)) rfl ?_; refine tr_vG rfl rfl inferInstance (fun hg hgp => (rk_load1 (Is.ofg hg rfl) (At.lit Take.here rfl))) rfl ?_; refine tr_vG rfl rfl inferInstance (fun hg hgp => (rk_len_slice (Is.ofg hg rfl))) rfl ?_; refine tr_vG rfl rfl inferInstance (fun hg hgp => (rk_eql (Is.ofg hg rfl) (Is.of rfl))) rfl ?_; refine tr_vG1 rfl rfl inferInstance (fun hg hgp => (rk_pick_or' hg (Is.ofg hg rfl) rfl)) rfl ?_; refine tr_val (rk_pick_and (Is.of rfl) rfl) rfl ?_; refine tr_val (rk_assign (Is.of rfl)) rfl ?_; refine tr_nil ?_; refine tr_then ?_; refine tr_ret ?_; refine tr_retE rfl (ends1 rfl rfl) ?_)
    unfold shortF
    rw [this]
    rw [Bool.true_and]
end Go.Proofs.A1
