/- Part of the proof: A1e. -/
import Derived.Test.YtahcjhdepdhipaaA1c
import Derived.Test.YtahcjhdepdhipaaGkFin
set_option linter.unusedSectionVars false
set_option linter.unusedVariables false
set_option linter.unusedSimpArgs false
namespace Go.Proofs.A1
open Go Go.SL

def ints (es : List Int) : List (List Value) := es.map fun e => [.int .i64 e]
theorem ints_length (es : List Int) : (ints es).length = es.length := by simp [ints]
theorem ints_get {es : List Int} {k : Nat} (h : k < es.length) : (ints es)[k]? = some [.int .i64 es[k]] := by simp [ints, h]
theorem ints_ne {es : List Int} {k : Nat} (h : k < es.length) : ints es ≠ [] := by intro e; have := congrArg List.length e; rw [ints_length] at this; simp at this; subst this; simp at h
def firstF : List Int → Int
  | [] => 0
  | e :: r => if e ≠ 0 then e else firstF r
theorem firstF_at {es : List Int} {k : Nat} (h : k < es.length) : firstF (es.drop k) = if es[k] ≠ 0 then es[k] else firstF (es.drop (k + 1)) := by
  rw [List.drop_eq_getElem_cons h]; rfl
theorem first_c (v : Value) (es : List Int) (w : World) (h : Rd w v 1 (ints es)) : GivesV Try.prog 23 [v] w (.int .i64 (firstF es)) := by
  obtain ⟨a, cap, b, o, rfl, hcap, hmax, ha, hc⟩ := h
  rw [ints_length] at *
  unfold maxLen at hmax
  refine givesV_of_tr Try.func23 rfl rfl ?_
  (refine tr_seq ?_; refine tr_region ?_; refine tr_val (rk_assign (Is.of rfl)) rfl ?_; refine tr_nil ?_; refine tr_then ?_; refine tr_seq ?_; refine tr_seq ?_; refine tr_region ?_; refine tr_val (rk_move (Is.of rfl)) rfl ?_; refine tr_val (rk_len_slice (Is.of rfl)) rfl ?_; refine tr_val (rk_move (Is.of rfl)) rfl ?_; refine tr_nil ?_; refine tr_then ?_; refine tr_block ?_)
  refine tr_for (fun k : Nat => k ≤ es.length ∧ firstF es = firstF (es.drop k)) (fun k => [(7, .int .i64 k), (6, .int .i64 es.length), (5, .slice a es.length cap)]) (fun _ => []) (fun k => es.length - k) ?_ ?_
  · apply tr_start 0 ⟨Nat.zero_le _, rfl⟩
    case hs1 => exact Subs.cons rfl (Subs.cons rfl (Subs.cons rfl Subs.nil))
    case ht => (try simp only [List.take_zero, List.map_nil, List.nil_append]); exact Takes.nil
  intro k ⟨hk, hf⟩
  by_cases hlt : k < es.length
  · have ha' := ha (ints_ne hlt)
    have hcell := rd1 hc (ints_get hlt)
    have hs := firstF_at hlt
    (refine tr_seq ?_; refine tr_region ?_; refine tr_val (rk_lss (Is.of rfl) (Is.of rfl)) rfl ?_; refine tr_nil ?_; refine tr_then ?_; refine tr_seq ?_; refine tr_cond_d (Is.of rfl) (fun hcd => ?_) (fun hcd => (by omega)); refine tr_skip ?_; refine tr_then ?_; refine tr_seq ?_; refine tr_block ?_; refine tr_seq ?_; refine tr_region ?_; refine tr_val (rk_indexAddr (Is.of rfl) (Is.of rfl) ha' (by omega) hcd norm1_) rfl ?_; refine tr_val (rk_load1 (Is.of rfl) (At.base hcell rfl)) rfl ?_; refine tr_val (rk_assign (Is.of rfl)) rfl ?_; refine tr_nil ?_; refine tr_then ?_; refine tr_seq ?_; refine tr_region ?_; refine tr_val (rk_move (Is.of rfl)) rfl ?_; refine tr_val (rk_neq (Is.of rfl) (Is.of rfl)) rfl ?_; refine tr_nil ?_; refine tr_then ?_; refine tr_cond_d (Is.of rfl) (fun hcd => ?_) (fun hcd => ?_); refine tr_seq ?_; refine tr_region ?_; refine tr_val (rk_move (Is.of rfl)) rfl ?_; refine tr_val (rk_assign (Is.of rfl)) rfl ?_; refine tr_nil ?_; refine tr_then ?_; refine tr_ret ?_; refine tr_blk_ret ?_; refine tr_then_ret ?_; refine tr_then_ret ?_; refine tr_blk_ret ?_; refine tr_then_ret ?_; refine tr_retE rfl (ends1 rfl rfl) ?_; rotate_left; refine tr_skip ?_; refine tr_blk_normal ?_; refine tr_then ?_; refine tr_region ?_; refine tr_val (rk_add (Is.of rfl) (Is.of rfl) (ini (by omega))) rfl ?_; refine tr_val (rk_move (Is.of rfl)) rfl ?_; refine tr_nil ?_; refine tr_then ?_; rotate_right)
    · rw [hf, hs, if_pos hcd]
    · skip
      apply tr_next (k + 1) ⟨by omega, by rw [hf, hs, if_neg hcd]⟩ (by omega)
      case hs1 => exact Subs.cons rfl (Subs.cons rfl (Subs.cons rfl Subs.nil))
      case ht => (try simp only [List.take_zero, List.map_nil, List.nil_append]); exact Takes.nil
  · (refine tr_seq ?_; refine tr_region ?_; refine tr_val (rk_lss (Is.of rfl) (Is.of rfl)) rfl ?_; refine tr_nil ?_; refine tr_then ?_; refine tr_seq ?_; refine tr_cond_d (Is.of rfl) (fun hcd => (by omega)) (fun hcd => ?_); refine tr_exit ?_; refine tr_then_exit ?_; refine tr_then_exit ?_; refine tr_blk_exit ?_; refine tr_then ?_; refine tr_seq ?_; refine tr_region ?_; refine tr_val (rk_assign (Is.of rfl)) rfl ?_; refine tr_nil ?_; refine tr_then ?_; refine tr_ret ?_; refine tr_retE rfl (ends1 rfl rfl) ?_)
    rw [hf, List.drop_of_length_le (by omega)]; rfl
end Go.Proofs.A1
