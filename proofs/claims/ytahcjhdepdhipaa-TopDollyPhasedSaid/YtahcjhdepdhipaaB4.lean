/- Part of the proof: B4. -/
import Derived.Test.YtahcjhdepdhipaaB3
import Derived.Test.YtahcjhdepdhipaaGkFin
import Derived.Laws.RangeAny
import Derived.Laws.RangeString
set_option linter.unusedSectionVars false
set_option linter.unusedVariables false
set_option linter.unusedSimpArgs false
namespace Go.Proofs.A1
open Go Go.SL

theorem bt_eq {s : ByteArray} {p : Nat} (h : p < s.size) : bt s p = ((s[p]'h).toNat : Nat) := by
  unfold bt
  have : s.data.toList[p]? = some (s[p]'h) := by
    rw [Array.getElem?_toList]
    exact getElem?_pos s.data p h
  rw [this]; rfl

theorem decode_bt {s : ByteArray} {p : Nat} (h : p < s.size) : (bt s p < 128 ∧ ((Utf8.decode s p).1 : Int) = bt s p ∧ (Utf8.decode s p).2 = 1) ∨ (128 ≤ bt s p ∧ (128 : Int) ≤ (Utf8.decode s p).1 ∧ 1 ≤ (Utf8.decode s p).2) := by
  rw [bt_eq h]
  by_cases ha : (s[p]'h).toNat < 128
  · have := decode_ascii s p h ha
    left; rw [this]; exact ⟨by omega, rfl, rfl⟩
  · have := decode_high s p h (by omega)
    right; omega

theorem ne_empty {s : ByteArray} : s.size = 0 ↔ s = ⟨#[]⟩ := by
  constructor
  · intro h
    have : s.data = #[] := Array.eq_empty_of_size_eq_zero h
    cases s; simp_all
  · rintro rfl; rfl
theorem isL_iff {c : Int} : isL c = true ↔ (65 ≤ c ∧ c ≤ 90) ∨ (97 ≤ c ∧ c ≤ 122) := by simp [isL]
theorem okB_iff {c : Int} : okB c = true ↔ ((65 ≤ c ∧ c ≤ 90) ∨ (97 ≤ c ∧ c ≤ 122)) ∨ (48 ≤ c ∧ c ≤ 57) ∨ c = 95 := by simp [okB, isL, isD, or_assoc]

theorem name_p (s : ByteArray) (w : World) : GivesV Try.prog 30 [.string s] w (.bool (nameF s)) := by
  refine givesV_of_tr Try.func30 rfl rfl ?_
  (refine tr_seq ?_; refine tr_region ?_; refine tr_val (rk_assign (Is.of rfl)) rfl ?_; refine tr_nil ?_; refine tr_then ?_; refine tr_seq ?_; refine tr_seq ?_; refine tr_region ?_; refine tr_val (rk_move (Is.of rfl)) rfl ?_; refine tr_new (rk_rangeS (Is.of rfl)) rfl (fun _ _ => ?_); refine tr_nil ?_; refine tr_then ?_; refine tr_block ?_)
  rename_i bi hbi
  refine tr_for (fun p : Nat => p ≤ s.size ∧ (p = 0 ∨ (1 ≤ p ∧ isL (bt s 0) = true ∧ okF s 1 = okF s p))) (fun _ => [(7, .pointer (some ⟨bi, 0, none⟩)), (0, .string s)]) (fun p => [blk bi (.stringIter s p)]) (fun p => s.size - p) ?_ ?_
  · apply tr_start 0 ⟨by omega, .inl rfl⟩
    case hs1 => exact Subs.cons rfl (Subs.cons rfl Subs.nil)
    case ht => (try simp only [List.take_zero, List.map_nil, List.nil_append]); exact Takes.cons Take.here Takes.nil
  intro p ⟨hp, hI⟩
  (refine tr_seq ?_; refine tr_region ?_; refine tr_nextS (Is.of rfl) Take.here rfl (fun hlt => ?_) (fun hlt => ?_); refine tr_val (rk_extract (Is.of rfl) rfl) rfl ?_; refine tr_nil ?_; refine tr_then ?_; refine tr_seq ?_; refine tr_cond_t (Is.of rfl) ?_; refine tr_skip ?_; refine tr_then ?_; refine tr_block ?_; refine tr_seq ?_; refine tr_region ?_; refine tr_val (rk_extract (Is.of rfl) rfl) rfl ?_; refine tr_val (rk_extract (Is.of rfl) rfl) rfl ?_; refine tr_val (rk_assign (Is.of rfl)) rfl ?_; refine tr_val (rk_assign (Is.of rfl)) rfl ?_; refine tr_nil ?_; refine tr_then ?_; refine tr_seq ?_; refine tr_region ?_; refine tr_val (rk_move (Is.of rfl)) rfl ?_; refine tr_val (rk_geq (Is.of rfl) (Is.of rfl)) rfl ?_; refine tr_val (rk_move (Is.of rfl)) rfl ?_; refine tr_vG1 rfl rfl inferInstance (fun hg hgp => (rk_move (Is.of rfl))) rfl ?_; refine tr_vG1 rfl rfl inferInstance (fun hg hgp => (rk_leq (Is.ofg hg rfl) (Is.of rfl))) rfl ?_; refine tr_val (rk_pick_and (Is.of rfl) rfl) rfl ?_; refine tr_val (rk_move (Is.of rfl)) rfl ?_; refine tr_vG1 rfl rfl inferInstance (fun hg hgp => (rk_move (Is.of rfl))) rfl ?_; refine tr_vG1 rfl rfl inferInstance (fun hg hgp => (rk_geq (Is.ofg hg rfl) (Is.of rfl))) rfl ?_; refine tr_vG1 rfl rfl inferInstance (fun hg hgp => (rk_move (Is.ofg hg rfl))) rfl ?_; refine tr_vG rfl rfl inferInstance (fun hg hgp => (rk_move (Is.of rfl))) rfl ?_; refine tr_vG rfl rfl inferInstance (fun hg hgp => (rk_leq (Is.ofg hg rfl) (Is.of rfl))) rfl ?_; refine tr_vG1 rfl rfl inferInstance (fun hg hgp => (rk_pick_and' hg (Is.ofg hg rfl) rfl)) rfl ?_; refine tr_val (rk_pick_or (Is.of rfl) rfl) rfl ?_; refine tr_val (rk_assign (Is.of rfl)) rfl ?_; refine tr_nil ?_; refine tr_then ?_; refine tr_seq ?_; refine tr_region ?_; refine tr_val (rk_move (Is.of rfl)) rfl ?_; refine tr_val (rk_not (Is.of rfl)) rfl ?_; refine tr_val (rk_move (Is.of rfl)) rfl ?_; refine tr_vG1 rfl rfl inferInstance (fun hg hgp => (rk_move (Is.of rfl))) rfl ?_; refine tr_vG1 rfl rfl inferInstance (fun hg hgp => (rk_eql (Is.ofg hg rfl) (Is.of rfl))) rfl ?_; refine tr_vG1 rfl rfl inferInstance (fun hg hgp => (rk_move (Is.ofg hg rfl))) rfl ?_; refine tr_vG rfl rfl inferInstance (fun hg hgp => (rk_move (Is.of rfl))) rfl ?_; refine tr_vG rfl rfl inferInstance (fun hg hgp => (rk_lss (Is.ofg hg rfl) (Is.of rfl))) rfl ?_; refine tr_vG rfl rfl inferInstance (fun hg hgp => (rk_move (Is.ofg hg rfl))) rfl ?_; refine tr_vG rfl rfl inferInstance (fun hg hgp => (rk_move (Is.of rfl))) rfl ?_; refine tr_vG rfl rfl inferInstance (fun hg hgp => (rk_gtr (Is.ofg hg rfl) (Is.of rfl))) rfl ?_; refine tr_vG rfl rfl inferInstance (fun hg hgp => (rk_pick_or' hg (Is.ofg hg rfl) rfl)) rfl ?_; refine tr_vG rfl rfl inferInstance (fun hg hgp => (rk_move (Is.ofg hg rfl))) rfl ?_; refine tr_vG rfl rfl inferInstance (fun hg hgp => (rk_move (Is.of rfl))) rfl ?_; refine tr_vG rfl rfl inferInstance (fun hg hgp => (rk_neq (Is.ofg hg rfl) (Is.of rfl))) rfl ?_; refine tr_vG rfl rfl inferInstance (fun hg hgp => (rk_pick_and' hg (Is.ofg hg rfl) rfl)) rfl ?_; refine tr_vG1 rfl rfl inferInstance (fun hg hgp => (rk_pick_or' hg (Is.ofg hg rfl) rfl)) rfl ?_; refine tr_val (rk_pick_and (Is.of rfl) rfl) rfl ?_; refine tr_nil ?_; refine tr_then ?_; refine tr_condB (Is.of rfl) inferInstance (fun hcd => ?_) (fun hcd => ?_); refine tr_seq ?_; refine tr_region ?_; refine tr_val (rk_assign (Is.of rfl)) rfl ?_; refine tr_nil ?_; refine tr_then ?_; refine tr_ret ?_; refine tr_blk_ret ?_; refine tr_then_ret ?_; refine tr_blk_ret ?_; refine tr_then_ret ?_; refine tr_retE rfl (ends1 rfl rfl) ?_; rotate_left; refine tr_skip ?_; refine tr_blk_normal ?_; refine tr_then ?_; rotate_right; rotate_left 2; refine tr_val (rk_extract (Is.of rfl) rfl) rfl ?_; refine tr_nil ?_; refine tr_then ?_; refine tr_seq ?_; refine tr_cond_f (Is.of rfl) ?_; refine tr_exit ?_; refine tr_then_exit ?_; refine tr_then_exit ?_; refine tr_blk_exit ?_; refine tr_then ?_; refine tr_seq ?_; refine tr_region ?_; refine tr_val (rk_move (Is.of rfl)) rfl ?_; refine tr_val (rk_neqs (Is.of rfl) (Is.of rfl)) rfl ?_; refine tr_val (rk_move (Is.of rfl)) rfl ?_; refine tr_vG1 rfl rfl inferInstance (fun hg hgp => (rk_move (Is.of rfl))) rfl ?_; refine tr_vG1 rfl rfl inferInstance (fun hg hgp => (rk_len_string (Is.ofg hg rfl))) rfl ?_; refine tr_vG1 rfl rfl inferInstance (fun hg hgp => (rk_leq (Is.ofg hg rfl) (Is.of rfl))) rfl ?_; refine tr_val (rk_pick_and (Is.of rfl) rfl) rfl ?_; refine tr_val (rk_assign (Is.of rfl)) rfl ?_; refine tr_nil ?_; refine tr_then ?_; refine tr_ret ?_; refine tr_retE rfl (ends1 rfl rfl) ?_; rotate_right 2)
  · congr 1; symm
    unfold nameF
    have hd := decode_bt hlt
    rcases hI with rfl | ⟨h1, h2, h3⟩
    · have : isL (bt s 0) = false := by rw [← Bool.not_eq_true, isL_iff]; omega
      simp [this]
    · have : okF s p = false := by
        rw [okF_at hlt]
        have : okB (bt s p) = false := by rw [← Bool.not_eq_true, okB_iff]; omega
        rw [this]; rfl
      rw [h3, this]; simp
  · have hd := decode_bt hlt
    have ho : okB (bt s p) = true := by rw [okB_iff]; omega
    have hw : (Utf8.decode s p).2 = 1 := by rw [okB_iff] at ho; omega
    rw [hw]
    have hn : isL (bt s 0) = true ∧ okF s 1 = okF s (p + 1) := by
      rcases hI with rfl | ⟨h1, h2, h3⟩
      · refine ⟨?_, rfl⟩
        rw [isL_iff]; omega
      · exact ⟨h2, by rw [h3, okF_at hlt, ho]; rfl⟩
    apply tr_next (p + 1) ⟨by omega, .inr ⟨by omega, hn⟩⟩ (by omega)
    case hs1 => exact Subs.cons rfl (Subs.cons rfl Subs.nil)
    case ht => (try simp only [List.take_zero, List.map_nil, List.nil_append]); exact Takes.cons Take.here Takes.nil
  · unfold nameF
    congr 1
    by_cases h0 : s.size = 0
    · have : s = ⟨#[]⟩ := ne_empty.1 h0
      rw [decide_eq_false (p := s ≠ ⟨#[]⟩) (fun h => h this), decide_eq_false (p := 0 < s.size) (by omega)]; rfl
    · rw [decide_eq_true (p := s ≠ ⟨#[]⟩) (fun h => h0 (ne_empty.2 h)), decide_eq_true (p := 0 < s.size) (by omega)]
      rcases hI with rfl | ⟨h1, h2, h3⟩
      · omega
      · rw [h2, h3, okF_end (by omega)]
        simp
        omega
end Go.Proofs.A1
