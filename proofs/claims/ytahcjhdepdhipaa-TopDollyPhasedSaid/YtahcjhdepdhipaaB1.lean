/- Part of the proof: B1. -/
import Derived.Test.YtahcjhdepdhipaaA1e
import Derived.Test.YtahcjhdepdhipaaGkFin
set_option linter.unusedSectionVars false
set_option linter.unusedVariables false
set_option linter.unusedSimpArgs false
namespace Go.Proofs.A1
open Go Go.SL

/-- a byte of a string -/
def bt (s : ByteArray) (i : Nat) : Int := ((s.data.toList[i]?.getD 0).toNat : Nat)
def isL (c : Int) : Bool := (decide (65 ≤ c) && decide (c ≤ 90)) || (decide (97 ≤ c) && decide (c ≤ 122))
def isD (c : Int) : Bool := decide (48 ≤ c) && decide (c ≤ 57)

theorem letter_c (c : Int) (w : World) : GivesV Try.prog 35 [.int .u8 c] w (.bool (isL c)) := by
  refine givesV_of_tr Try.func35 rfl rfl ?_
  (refine tr_seq ?_; refine tr_region ?_; refine tr_val (rk_assign (Is.of rfl)) rfl ?_; refine tr_nil ?_; refine tr_then ?_; refine tr_seq ?_; refine tr_region ?_; refine tr_val (rk_move (Is.of rfl)) rfl ?_; refine tr_val (rk_leq (Is.of rfl) (Is.of rfl)) rfl ?_; refine tr_val (rk_move (Is.of rfl)) rfl ?_; refine tr_vG1 rfl rfl inferInstance (fun hg hgp => (rk_move (Is.of rfl))) rfl ?_; refine tr_vG1 rfl rfl inferInstance (fun hg hgp => (rk_leq (Is.ofg hg rfl) (Is.of rfl))) rfl ?_; refine tr_val (rk_pick_and (Is.of rfl) rfl) rfl ?_; refine tr_val (rk_move (Is.of rfl)) rfl ?_; refine tr_vG1 rfl rfl inferInstance (fun hg hgp => (rk_move (Is.of rfl))) rfl ?_; refine tr_vG1 rfl rfl inferInstance (fun hg hgp => (rk_leq (Is.of rfl) (Is.ofg hg rfl))) rfl ?_; refine tr_vG1 rfl rfl inferInstance (fun hg hgp => (rk_move (Is.ofg hg rfl))) rfl ?_; refine tr_vG rfl rfl inferInstance (fun hg hgp => (rk_move (Is.of rfl))) rfl ?_; refine tr_vG rfl rfl inferInstance (fun hg hgp => (rk_leq (Is.ofg hg rfl) (Is.of rfl))) rfl ?_; refine tr_vG1 rfl rfl inferInstance (fun hg hgp => (rk_pick_and' hg (Is.ofg hg rfl) rfl)) rfl ?_; refine tr_val (rk_pick_or (Is.of rfl) rfl) rfl ?_; refine tr_val (rk_assign (Is.of rfl)) rfl ?_; refine tr_nil ?_; refine tr_then ?_; refine tr_ret ?_; refine tr_retE rfl (ends1 rfl rfl) ?_)
  rfl
theorem digit_c (c : Int) (w : World) : GivesV Try.prog 36 [.int .u8 c] w (.bool (isD c)) := by
  refine givesV_of_tr Try.func36 rfl rfl ?_
  (refine tr_seq ?_; refine tr_region ?_; refine tr_val (rk_assign (Is.of rfl)) rfl ?_; refine tr_nil ?_; refine tr_then ?_; refine tr_seq ?_; refine tr_region ?_; refine tr_val (rk_move (Is.of rfl)) rfl ?_; refine tr_val (rk_leq (Is.of rfl) (Is.of rfl)) rfl ?_; refine tr_val (rk_move (Is.of rfl)) rfl ?_; refine tr_vG1 rfl rfl inferInstance (fun hg hgp => (rk_move (Is.of rfl))) rfl ?_; refine tr_vG1 rfl rfl inferInstance (fun hg hgp => (rk_leq (Is.ofg hg rfl) (Is.of rfl))) rfl ?_; refine tr_val (rk_pick_and (Is.of rfl) rfl) rfl ?_; refine tr_val (rk_assign (Is.of rfl)) rfl ?_; refine tr_nil ?_; refine tr_then ?_; refine tr_ret ?_; refine tr_retE rfl (ends1 rfl rfl) ?_)
  rfl

theorem when_q (h : Bool) (e : Int) (w : World) : GivesV Try.prog 13 [.bool h, .int .i64 e] w (.int .i64 (whenF h e)) := by
  refine givesV_of_tr Try.func13 rfl rfl ?_
  (refine tr_seq ?_; refine tr_region ?_; refine tr_val (rk_assign (Is.of rfl)) rfl ?_; refine tr_nil ?_; refine tr_then ?_; refine tr_seq ?_; refine tr_seq ?_; refine tr_region ?_; refine tr_val (rk_move (Is.of rfl)) rfl ?_; refine tr_nil ?_; refine tr_then ?_; refine tr_condB (Is.of rfl) inferInstance (fun hcd => ?_) (fun hcd => ?_); refine tr_seq ?_; refine tr_region ?_; refine tr_val (rk_move (Is.of rfl)) rfl ?_; refine tr_val (rk_assign (Is.of rfl)) rfl ?_; refine tr_nil ?_; refine tr_then ?_; refine tr_ret ?_; refine tr_then_ret ?_; refine tr_retE rfl (ends1 rfl rfl) ?_; rotate_left; refine tr_skip ?_; refine tr_then ?_; refine tr_seq ?_; refine tr_region ?_; refine tr_val (rk_assign (Is.of rfl)) rfl ?_; refine tr_nil ?_; refine tr_then ?_; refine tr_ret ?_; refine tr_retE rfl (ends1 rfl rfl) ?_; rotate_right)
  all_goals simp [whenF, *]
theorem range_q (n l m : Int) (w : World) : GivesV Try.prog 29 [.int .i64 n, .int .i64 l, .int .i64 m] w (.int .i64 (withinF n l m)) := by
  refine givesV_of_tr Try.func29 rfl rfl ?_
  (refine tr_seq ?_; refine tr_region ?_; refine tr_val (rk_assign (Is.of rfl)) rfl ?_; refine tr_nil ?_; refine tr_then ?_; refine tr_seq ?_; refine tr_region ?_; refine tr_val (rk_move (Is.of rfl)) rfl ?_; refine tr_val (rk_move (Is.of rfl)) rfl ?_; refine tr_val (rk_lss (Is.of rfl) (Is.of rfl)) rfl ?_; refine tr_val (rk_move (Is.of rfl)) rfl ?_; refine tr_vG1 rfl rfl inferInstance (fun hg hgp => (rk_move (Is.of rfl))) rfl ?_; refine tr_vG1 rfl rfl inferInstance (fun hg hgp => (rk_move (Is.of rfl))) rfl ?_; refine tr_vG1 rfl rfl inferInstance (fun hg hgp => (rk_gtr (Is.ofg hg rfl) (Is.ofg hg rfl))) rfl ?_; refine tr_val (rk_pick_or (Is.of rfl) rfl) rfl ?_; refine tr_callV (rk_call (Is.of rfl) (Iss.cons (Is.of rfl) (Iss.cons (Is.of rfl) Iss.nil)) inferInstance normc_) rfl (fun w' hm' => (when_q _ _ w')) ?_; refine tr_val (rk_assign (Is.of rfl)) rfl ?_; refine tr_nil ?_; refine tr_then ?_; refine tr_ret ?_; refine tr_retE rfl (ends1 rfl rfl) ?_)
  rfl

def okB (c : Int) : Bool := isL c || isD c || decide (c = 95)
/-- what names are made of, from a byte on -/
def okF (s : ByteArray) (k : Nat) : Bool := (List.range' k (s.size - k)).all fun i => okB (bt s i)
theorem okF_at {s : ByteArray} {k : Nat} (h : k < s.size) : okF s k = (okB (bt s k) && okF s (k + 1)) := by
  unfold okF
  rw [show s.size - k = (s.size - (k + 1)) + 1 by omega, List.range'_succ]
  rfl
theorem okF_end {s : ByteArray} {k : Nat} (h : s.size ≤ k) : okF s k = true := by
  unfold okF
  rw [show s.size - k = 0 by omega]; rfl
def nameF (s : ByteArray) : Bool := decide (0 < s.size) && decide (s.size ≤ 24) && isL (bt s 0) && okF s 1

theorem name_q (s : ByteArray) (w : World) : GivesV Try.prog 28 [.string s] w (.bool (nameF s)) := by
  refine givesV_of_tr Try.func28 rfl rfl ?_
  (refine tr_seq ?_; refine tr_region ?_; refine tr_val (rk_assign (Is.of rfl)) rfl ?_; refine tr_nil ?_; refine tr_then ?_; refine tr_seq ?_; refine tr_seq ?_; refine tr_region ?_; refine tr_val (rk_move (Is.of rfl)) rfl ?_; refine tr_val (rk_len_string (Is.of rfl)) rfl ?_; refine tr_val (rk_eql (Is.of rfl) (Is.of rfl)) rfl ?_; refine tr_val (rk_move (Is.of rfl)) rfl ?_; refine tr_vG1 rfl rfl inferInstance (fun hg hgp => (rk_move (Is.of rfl))) rfl ?_; refine tr_vG1 rfl rfl inferInstance (fun hg hgp => (rk_len_string (Is.ofg hg rfl))) rfl ?_; refine tr_vG1 rfl rfl inferInstance (fun hg hgp => (rk_gtr (Is.ofg hg rfl) (Is.of rfl))) rfl ?_; refine tr_val (rk_pick_or (Is.of rfl) rfl) rfl ?_; refine tr_val (rk_move (Is.of rfl)) rfl ?_; refine tr_vG1 rfl rfl inferInstance (fun hg hgp => (rk_move (Is.of rfl))) rfl ?_; refine tr_vG1 rfl rfl inferInstance (fun hg hgp => (rk_indexS (Is.ofg hg rfl) (Is.of rfl) (by omega) (by omega))) rfl ?_; refine tr_callVG1 rfl rfl (fun hg => (rk_call (Is.of rfl) (Iss.cons (Is.ofg hg rfl) Iss.nil) inferInstance normc_)) rfl (fun hg w' hm' => (letter_c _ w')) ?_; refine tr_vG1 rfl rfl inferInstance (fun hg hgp => (rk_not (Is.ofg hg rfl))) rfl ?_; refine tr_val (rk_pick_or (Is.of rfl) rfl) rfl ?_; refine tr_nil ?_; refine tr_then ?_; refine tr_condB (Is.of rfl) inferInstance (fun hcd => ?_) (fun hcd => ?_); refine tr_seq ?_; refine tr_region ?_; refine tr_val (rk_assign (Is.of rfl)) rfl ?_; refine tr_nil ?_; refine tr_then ?_; refine tr_ret ?_; refine tr_then_ret ?_; refine tr_retE rfl (ends1 rfl rfl) ?_; rotate_left; refine tr_skip ?_; refine tr_then ?_; refine tr_seq ?_; refine tr_seq ?_; refine tr_region ?_; refine tr_val (rk_assign (Is.of rfl)) rfl ?_; refine tr_nil ?_; refine tr_then ?_; refine tr_block ?_; rotate_right)
  · congr 1; symm
    change (_ ∨ _) ∨ isL (bt s 0) = false at hcd
    unfold nameF
    rcases hcd with (h | h) | h
    · simp; omega
    · simp; omega
    · simp [h]
  change (_ ∧ _) ∧ isL (bt s 0) = true at hcd
  obtain ⟨⟨h0, h1⟩, h2⟩ := hcd
  have hN : nameF s = okF s 1 := by
    unfold nameF
    rw [h2, decide_eq_true (by omega), decide_eq_true (by omega)]; rfl
  rw [hN]
  refine tr_for (fun k : Nat => 1 ≤ k ∧ k ≤ s.size ∧ okF s 1 = okF s k) (fun k => [(3, .int .i64 k), (0, .string s)]) (fun _ => []) (fun k => s.size - k) ?_ ?_
  · apply tr_start 1 ⟨by omega, by omega, rfl⟩
    case hs1 => exact Subs.cons rfl (Subs.cons rfl Subs.nil)
    case ht => (try simp only [List.take_zero, List.map_nil, List.nil_append]); exact Takes.nil
  intro k ⟨hk1, hk, hf⟩
  rw [hf]
  by_cases hlt : k < s.size
  · rw [okF_at hlt]
    (refine tr_seq ?_; refine tr_seq ?_; refine tr_region ?_; refine tr_val (rk_move (Is.of rfl)) rfl ?_; refine tr_val (rk_move (Is.of rfl)) rfl ?_; refine tr_val (rk_len_string (Is.of rfl)) rfl ?_; refine tr_val (rk_lss (Is.of rfl) (Is.of rfl)) rfl ?_; refine tr_nil ?_; refine tr_then ?_; refine tr_cond_d (Is.of rfl) (fun hcd => ?_) (fun hcd => (by omega)); refine tr_skip ?_; refine tr_then ?_; refine tr_seq ?_; refine tr_block ?_; refine tr_seq ?_; refine tr_region ?_; refine tr_val (rk_move (Is.of rfl)) rfl ?_; refine tr_val (rk_move (Is.of rfl)) rfl ?_; refine tr_val (rk_indexS (Is.of rfl) (Is.of rfl) (by omega) hcd) rfl ?_; refine tr_callV (rk_call (Is.of rfl) (Iss.cons (Is.of rfl) Iss.nil) inferInstance normc_) rfl (fun w' hm' => (letter_c _ w')) ?_; refine tr_val (rk_not (Is.of rfl)) rfl ?_; refine tr_val (rk_move (Is.of rfl)) rfl ?_; refine tr_vG1 rfl rfl inferInstance (fun hg hgp => (rk_move (Is.of rfl))) rfl ?_; refine tr_vG1 rfl rfl inferInstance (fun hg hgp => (rk_move (Is.of rfl))) rfl ?_; refine tr_vG1 rfl rfl inferInstance (fun hg hgp => (rk_indexS (Is.ofg hg rfl) (Is.ofg hg rfl) (by omega) hcd)) rfl ?_; refine tr_callVG1 rfl rfl (fun hg => (rk_call (Is.of rfl) (Iss.cons (Is.ofg hg rfl) Iss.nil) inferInstance normc_)) rfl (fun hg w' hm' => (digit_c _ w')) ?_; refine tr_vG1 rfl rfl inferInstance (fun hg hgp => (rk_not (Is.ofg hg rfl))) rfl ?_; refine tr_val (rk_pick_and (Is.of rfl) rfl) rfl ?_; refine tr_val (rk_move (Is.of rfl)) rfl ?_; refine tr_vG1 rfl rfl inferInstance (fun hg hgp => (rk_move (Is.of rfl))) rfl ?_; refine tr_vG1 rfl rfl inferInstance (fun hg hgp => (rk_move (Is.of rfl))) rfl ?_; refine tr_vG1 rfl rfl inferInstance (fun hg hgp => (rk_indexS (Is.ofg hg rfl) (Is.ofg hg rfl) (by omega) hcd)) rfl ?_; refine tr_vG1 rfl rfl inferInstance (fun hg hgp => (rk_neq (Is.ofg hg rfl) (Is.of rfl))) rfl ?_; refine tr_val (rk_pick_and (Is.of rfl) rfl) rfl ?_; refine tr_nil ?_; refine tr_then ?_; refine tr_condB (Is.of rfl) inferInstance (fun hcd => ?_) (fun hcd => ?_); refine tr_seq ?_; refine tr_region ?_; refine tr_val (rk_assign (Is.of rfl)) rfl ?_; refine tr_nil ?_; refine tr_then ?_; refine tr_ret ?_; refine tr_blk_ret ?_; refine tr_then_ret ?_; refine tr_then_ret ?_; refine tr_blk_ret ?_; refine tr_then_ret ?_; refine tr_retE rfl (ends1 rfl rfl) ?_; rotate_left; refine tr_skip ?_; refine tr_blk_normal ?_; refine tr_then ?_; refine tr_region ?_; refine tr_val (rk_move (Is.of rfl)) rfl ?_; refine tr_val (rk_add (Is.of rfl) (Is.of rfl) (ini (by omega))) rfl ?_; refine tr_val (rk_assign (Is.of rfl)) rfl ?_; refine tr_nil ?_; refine tr_then ?_; rotate_right)
    · congr 1; symm
      change (isL (bt s k) = false ∧ isD (bt s k) = false) ∧ bt s k ≠ 95 at hcd
      simp [okB, hcd]
    · have ho : okB (bt s k) = true := by
        change (isL (bt s k) = true ∨ isD (bt s k) = true) ∨ ¬ bt s k ≠ 95 at hcd
        rcases hcd with (h | h) | h
        · simp [okB, h]
        · simp [okB, h]
        · simp [okB, Decidable.not_not.1 h]
      rw [ho, Bool.true_and]
      rw [okF_at hlt, ho, Bool.true_and] at hf
      rw [← hf]
      apply tr_next (k + 1) ⟨by omega, by omega, hf⟩ (by omega)
      case hs1 => exact Subs.cons rfl (Subs.cons rfl Subs.nil)
      case ht => (try simp only [List.take_zero, List.map_nil, List.nil_append]); exact Takes.nil
  · (refine tr_seq ?_; refine tr_seq ?_; refine tr_region ?_; refine tr_val (rk_move (Is.of rfl)) rfl ?_; refine tr_val (rk_move (Is.of rfl)) rfl ?_; refine tr_val (rk_len_string (Is.of rfl)) rfl ?_; refine tr_val (rk_lss (Is.of rfl) (Is.of rfl)) rfl ?_; refine tr_nil ?_; refine tr_then ?_; refine tr_cond_d (Is.of rfl) (fun hcd => (by omega)) (fun hcd => ?_); refine tr_exit ?_; refine tr_then_exit ?_; refine tr_then_exit ?_; refine tr_blk_exit ?_; refine tr_then ?_; refine tr_seq ?_; refine tr_region ?_; refine tr_val (rk_assign (Is.of rfl)) rfl ?_; refine tr_nil ?_; refine tr_then ?_; refine tr_ret ?_; refine tr_retE rfl (ends1 rfl rfl) ?_)
    rw [okF_end (by omega)]
theorem checkName_q (s : ByteArray) (w : World) : GivesV Try.prog 14 [.string s] w (.int .i64 (whenF (!nameF s) 8)) := by
  refine givesV_of_tr Try.func14 rfl rfl ?_
  (refine tr_seq ?_; refine tr_region ?_; refine tr_val (rk_assign (Is.of rfl)) rfl ?_; refine tr_nil ?_; refine tr_then ?_; refine tr_seq ?_; refine tr_region ?_; refine tr_val (rk_move (Is.of rfl)) rfl ?_; refine tr_callV (rk_call (Is.of rfl) (Iss.cons (Is.of rfl) Iss.nil) inferInstance normc_) rfl (fun w' hm' => (name_q s w')) ?_; refine tr_val (rk_not (Is.of rfl)) rfl ?_; refine tr_callV (rk_call (Is.of rfl) (Iss.cons (Is.of rfl) (Iss.cons (Is.of rfl) Iss.nil)) inferInstance normc_) rfl (fun w' hm' => (when_q _ _ w')) ?_; refine tr_val (rk_assign (Is.of rfl)) rfl ?_; refine tr_nil ?_; refine tr_then ?_; refine tr_ret ?_; refine tr_retE rfl (ends1 rfl rfl) ?_)
  rfl

def strs (es : List ByteArray) : List (List Value) := es.map fun e => [.string e]
theorem strs_length (es : List ByteArray) : (strs es).length = es.length := by simp [strs]
theorem strs_get {es : List ByteArray} {k : Nat} (h : k < es.length) : (strs es)[k]? = some [.string es[k]] := by simp [strs, h]
theorem strs_ne {es : List ByteArray} {k : Nat} (h : k < es.length) : strs es ≠ [] := by intro e; have := congrArg List.length e; rw [strs_length] at this; simp at this; subst this; simp at h
def hasF : List ByteArray → ByteArray → Bool
  | [], _ => false
  | e :: r, s => decide (e = s) || hasF r s
theorem hasF_at {es : List ByteArray} {s : ByteArray} {k : Nat} (h : k < es.length) : hasF (es.drop k) s = (decide (es[k] = s) || hasF (es.drop (k + 1)) s) := by
  rw [List.drop_eq_getElem_cons h]; rfl
theorem hasWord_q (v : Value) (es : List ByteArray) (s : ByteArray) (w : World) (h : Rd w v 1 (strs es)) : GivesV Try.prog 15 [v, .string s] w (.bool (hasF es s)) := by
  obtain ⟨a, cap, b, o, rfl, hcap, hmax, ha, hc⟩ := h
  rw [strs_length] at *
  unfold maxLen at hmax
  refine givesV_of_tr Try.func15 rfl rfl ?_
  (refine tr_seq ?_; refine tr_region ?_; refine tr_val (rk_assign (Is.of rfl)) rfl ?_; refine tr_nil ?_; refine tr_then ?_; refine tr_seq ?_; refine tr_seq ?_; refine tr_region ?_; refine tr_val (rk_assign (Is.of rfl)) rfl ?_; refine tr_nil ?_; refine tr_then ?_; refine tr_block ?_)
  refine tr_for (fun k : Nat => k ≤ es.length ∧ hasF es s = hasF (es.drop k) s) (fun k => [(5, .int .i64 k), (0, .slice a es.length cap), (1, .string s)]) (fun _ => []) (fun k => es.length - k) ?_ ?_
  · apply tr_start 0 ⟨by omega, rfl⟩
    case hs1 => exact Subs.cons rfl (Subs.cons rfl (Subs.cons rfl Subs.nil))
    case ht => (try simp only [List.take_zero, List.map_nil, List.nil_append]); exact Takes.nil
  intro k ⟨hk, hf⟩
  by_cases hlt : k < es.length
  · have ha' := ha (strs_ne hlt)
    have hcell := rd1 hc (strs_get hlt)
    rw [hf, hasF_at hlt]
    rw [hasF_at hlt] at hf
    (refine tr_seq ?_; refine tr_seq ?_; refine tr_region ?_; refine tr_val (rk_move (Is.of rfl)) rfl ?_; refine tr_val (rk_move (Is.of rfl)) rfl ?_; refine tr_val (rk_len_slice (Is.of rfl)) rfl ?_; refine tr_val (rk_lss (Is.of rfl) (Is.of rfl)) rfl ?_; refine tr_nil ?_; refine tr_then ?_; refine tr_cond_d (Is.of rfl) (fun hcd => ?_) (fun hcd => (by omega)); refine tr_skip ?_; refine tr_then ?_; refine tr_seq ?_; refine tr_block ?_; refine tr_seq ?_; refine tr_region ?_; refine tr_val (rk_move (Is.of rfl)) rfl ?_; refine tr_val (rk_move (Is.of rfl)) rfl ?_; refine tr_val (rk_indexAddr (Is.of rfl) (Is.of rfl) ha' (by omega) hcd norm1_) rfl ?_; refine tr_val (rk_load1 (Is.of rfl) (At.base hcell rfl)) rfl ?_; refine tr_val (rk_move (Is.of rfl)) rfl ?_; refine tr_val (rk_eqls (Is.of rfl) (Is.of rfl)) rfl ?_; refine tr_nil ?_; refine tr_then ?_; refine tr_cond_d (Is.of rfl) (fun hcd => ?_) (fun hcd => ?_); refine tr_seq ?_; refine tr_region ?_; refine tr_val (rk_assign (Is.of rfl)) rfl ?_; refine tr_nil ?_; refine tr_then ?_; refine tr_ret ?_; refine tr_blk_ret ?_; refine tr_then_ret ?_; refine tr_then_ret ?_; refine tr_blk_ret ?_; refine tr_then_ret ?_; refine tr_retE rfl (ends1 rfl rfl) ?_; rotate_left; refine tr_skip ?_; refine tr_blk_normal ?_; refine tr_then ?_; refine tr_region ?_; refine tr_val (rk_move (Is.of rfl)) rfl ?_; refine tr_val (rk_add (Is.of rfl) (Is.of rfl) (ini (by omega))) rfl ?_; refine tr_val (rk_assign (Is.of rfl)) rfl ?_; refine tr_nil ?_; refine tr_then ?_; rotate_right)
    · simp [hcd]
    · rw [decide_eq_false hcd, Bool.false_or] at hf ⊢
      rw [← hf]
      apply tr_next (k + 1) ⟨by omega, hf⟩ (by omega)
      case hs1 => exact Subs.cons rfl (Subs.cons rfl (Subs.cons rfl Subs.nil))
      case ht => (try simp only [List.take_zero, List.map_nil, List.nil_append]); exact Takes.nil
  · (refine tr_seq ?_; refine tr_seq ?_; refine tr_region ?_; refine tr_val (rk_move (Is.of rfl)) rfl ?_; refine tr_val (rk_move (Is.of rfl)) rfl ?_; refine tr_val (rk_len_slice (Is.of rfl)) rfl ?_; refine tr_val (rk_lss (Is.of rfl) (Is.of rfl)) rfl ?_; refine tr_nil ?_; refine tr_then ?_; refine tr_cond_d (Is.of rfl) (fun hcd => (by omega)) (fun hcd => ?_); refine tr_exit ?_; refine tr_then_exit ?_; refine tr_then_exit ?_; refine tr_blk_exit ?_; refine tr_then ?_; refine tr_seq ?_; refine tr_region ?_; refine tr_val (rk_assign (Is.of rfl)) rfl ?_; refine tr_nil ?_; refine tr_then ?_; refine tr_ret ?_; refine tr_retE rfl (ends1 rfl rfl) ?_)
    rw [hf, List.drop_of_length_le (by omega)]; rfl

theorem first_q (v : Value) (es : List Int) (w : World) (h : Rd w v 1 (ints es)) : GivesV Try.prog 12 [v] w (.int .i64 (firstF es)) := by
  obtain ⟨a, cap, b, o, rfl, hcap, hmax, ha, hc⟩ := h
  rw [ints_length] at *
  unfold maxLen at hmax
  refine givesV_of_tr Try.func12 rfl rfl ?_
  (refine tr_seq ?_; refine tr_region ?_; refine tr_val (rk_assign (Is.of rfl)) rfl ?_; refine tr_nil ?_; refine tr_then ?_; refine tr_seq ?_; refine tr_seq ?_; refine tr_region ?_; refine tr_val (rk_assign (Is.of rfl)) rfl ?_; refine tr_nil ?_; refine tr_then ?_; refine tr_block ?_)
  refine tr_for (fun k : Nat => k ≤ es.length ∧ firstF es = firstF (es.drop k)) (fun k => [(3, .int .i64 k), (0, .slice a es.length cap)]) (fun _ => []) (fun k => es.length - k) ?_ ?_
  · apply tr_start 0 ⟨Nat.zero_le _, rfl⟩
    case hs1 => exact Subs.cons rfl (Subs.cons rfl Subs.nil)
    case ht => (try simp only [List.take_zero, List.map_nil, List.nil_append]); exact Takes.nil
  intro k ⟨hk, hf⟩
  by_cases hlt : k < es.length
  · have ha' := ha (ints_ne hlt)
    have hcell := rd1 hc (ints_get hlt)
    have hs := firstF_at hlt
    (refine tr_seq ?_; refine tr_seq ?_; refine tr_region ?_; refine tr_val (rk_move (Is.of rfl)) rfl ?_; refine tr_val (rk_move (Is.of rfl)) rfl ?_; refine tr_val (rk_len_slice (Is.of rfl)) rfl ?_; refine tr_val (rk_lss (Is.of rfl) (Is.of rfl)) rfl ?_; refine tr_nil ?_; refine tr_then ?_; refine tr_cond_d (Is.of rfl) (fun hcd => ?_) (fun hcd => (by omega)); refine tr_skip ?_; refine tr_then ?_; refine tr_seq ?_; refine tr_block ?_; refine tr_seq ?_; refine tr_region ?_; refine tr_val (rk_move (Is.of rfl)) rfl ?_; refine tr_val (rk_move (Is.of rfl)) rfl ?_; refine tr_val (rk_indexAddr (Is.of rfl) (Is.of rfl) ha' (by omega) hcd norm1_) rfl ?_; refine tr_val (rk_load1 (Is.of rfl) (At.base hcell rfl)) rfl ?_; refine tr_val (rk_neq (Is.of rfl) (Is.of rfl)) rfl ?_; refine tr_nil ?_; refine tr_then ?_; refine tr_cond_d (Is.of rfl) (fun hcd => ?_) (fun hcd => ?_); refine tr_seq ?_; refine tr_region ?_; refine tr_val (rk_move (Is.of rfl)) rfl ?_; refine tr_val (rk_move (Is.of rfl)) rfl ?_; refine tr_val (rk_indexAddr (Is.of rfl) (Is.of rfl) ha' (by omega) (by assumption) norm1_) rfl ?_; refine tr_val (rk_load1 (Is.of rfl) (At.base hcell rfl)) rfl ?_; refine tr_val (rk_assign (Is.of rfl)) rfl ?_; refine tr_nil ?_; refine tr_then ?_; refine tr_ret ?_; refine tr_blk_ret ?_; refine tr_then_ret ?_; refine tr_then_ret ?_; refine tr_blk_ret ?_; refine tr_then_ret ?_; refine tr_retE rfl (ends1 rfl rfl) ?_; rotate_left; refine tr_skip ?_; refine tr_blk_normal ?_; refine tr_then ?_; refine tr_region ?_; refine tr_val (rk_move (Is.of rfl)) rfl ?_; refine tr_val (rk_add (Is.of rfl) (Is.of rfl) (ini (by omega))) rfl ?_; refine tr_val (rk_assign (Is.of rfl)) rfl ?_; refine tr_nil ?_; refine tr_then ?_; rotate_right)
    · rw [hf, hs, if_pos hcd]
    · apply tr_next (k + 1) ⟨by omega, by rw [hf, hs, if_neg hcd]⟩ (by omega)
      case hs1 => exact Subs.cons rfl (Subs.cons rfl Subs.nil)
      case ht => (try simp only [List.take_zero, List.map_nil, List.nil_append]); exact Takes.nil
  · (refine tr_seq ?_; refine tr_seq ?_; refine tr_region ?_; refine tr_val (rk_move (Is.of rfl)) rfl ?_; refine tr_val (rk_move (Is.of rfl)) rfl ?_; refine tr_val (rk_len_slice (Is.of rfl)) rfl ?_; refine tr_val (rk_lss (Is.of rfl) (Is.of rfl)) rfl ?_; refine tr_nil ?_; refine tr_then ?_; refine tr_cond_d (Is.of rfl) (fun hcd => (by omega)) (fun hcd => ?_); refine tr_exit ?_; refine tr_then_exit ?_; refine tr_then_exit ?_; refine tr_blk_exit ?_; refine tr_then ?_; refine tr_seq ?_; refine tr_region ?_; refine tr_val (rk_assign (Is.of rfl)) rfl ?_; refine tr_nil ?_; refine tr_then ?_; refine tr_ret ?_; refine tr_retE rfl (ends1 rfl rfl) ?_)
    rw [hf, List.drop_of_length_le (by omega)]; rfl
end Go.Proofs.A1
