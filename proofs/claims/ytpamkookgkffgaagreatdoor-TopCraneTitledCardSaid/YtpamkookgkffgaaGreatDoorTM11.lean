/- Parts of the proof: ES2 ES4 S3p ES5 ES6. -/
import Derived.Test.YtpamkookgkffgaaGreatDoorTM08
import Derived.Test.YtpamkookgkffgaaGreatDoorTM05
import Derived.Test.YtpamkookgkffgaaGreatDoorTM09
import Derived.Laws.RangeAny
import Derived.Laws.RangeString
import Derived.Test.YtpamkookgkffgaaGreatDoorTM06
set_option linter.unusedSectionVars false
set_option linter.unusedVariables false
set_option linter.unusedSimpArgs false
namespace Go.Proofs.A1
open Go Go.SL
theorem isL_q (c:Int) (w:World):GivesV Tryz.prog 93 [.int .u8 c] w (.bool (isL c)):=by
  refine givesV_of_tr Tryz.func93 rfl rfl ?_
  (refine s_r ?_;refine a_s rfl rfl ?_;refine n_r ?_;refine m_v rfl rfl ?_;refine tr_val (rk_leq (.of rfl) (.of rfl)) rfl ?_;refine m_v rfl rfl ?_;refine v_g rfl rfl rfl rfl ?_;refine tr_vG1 rfl rfl inferInstance (fun hg hgp=>(rk_leq (.ofg hg rfl) (.of rfl))) rfl ?_;refine tr_val (rk_pick_and (.of rfl) rfl) rfl ?_;refine m_v rfl rfl ?_;refine v_g rfl rfl rfl rfl ?_;refine tr_vG1 rfl rfl inferInstance (fun hg hgp=>(rk_leq (.of rfl) (.ofg hg rfl))) rfl ?_;refine tr_vG1 rfl rfl inferInstance (fun hg hgp=>(rk_move (.ofg hg rfl))) rfl ?_;refine tr_vG rfl rfl inferInstance (fun hg hgp=>(rk_move (.of rfl))) rfl ?_;refine tr_vG rfl rfl inferInstance (fun hg hgp=>(rk_leq (.ofg hg rfl) (.of rfl))) rfl ?_;refine tr_vG1 rfl rfl inferInstance (fun hg hgp=>(rk_pick_and' hg (.ofg hg rfl) rfl)) rfl ?_;refine tr_val (rk_pick_or (.of rfl) rfl) rfl ?_;refine a_s rfl rfl ?_;refine n_t ?_;refine tr_ret ?_;refine tr_retE rfl (ends1 rfl rfl) ?_)
  rfl
theorem isD_q (c:Int) (w:World):GivesV Tryz.prog 94 [.int .u8 c] w (.bool (isD c)):=by
  refine givesV_of_tr Tryz.func94 rfl rfl ?_
  (refine s_r ?_;refine a_s rfl rfl ?_;refine n_r ?_;refine m_v rfl rfl ?_;refine tr_val (rk_leq (.of rfl) (.of rfl)) rfl ?_;refine m_v rfl rfl ?_;refine v_g rfl rfl rfl rfl ?_;refine tr_vG1 rfl rfl inferInstance (fun hg hgp=>(rk_leq (.ofg hg rfl) (.of rfl))) rfl ?_;refine tr_val (rk_pick_and (.of rfl) rfl) rfl ?_;refine a_s rfl rfl ?_;refine n_t ?_;refine tr_ret ?_;refine tr_retE rfl (ends1 rfl rfl) ?_)
  rfl
theorem name_q (s:ByteArray) (w:World):GivesV Tryz.prog 65 [.string s] w (.bool (nameF s)):=by
  refine givesV_of_tr Tryz.func65 rfl rfl ?_
  (refine s_r ?_;refine a_s rfl rfl ?_;refine n_t ?_;refine tr_seq ?_;refine s_r ?_;refine m_v rfl rfl ?_;refine tr_val (rk_len_string (.of rfl)) rfl ?_;refine tr_val (rk_eql (.of rfl) (.of rfl)) rfl ?_;refine m_v rfl rfl ?_;refine v_g rfl rfl rfl rfl ?_;refine tr_vG1 rfl rfl inferInstance (fun hg hgp=>(rk_len_string (.ofg hg rfl))) rfl ?_;refine tr_vG1 rfl rfl inferInstance (fun hg hgp=>(rk_gtr (.ofg hg rfl) (.of rfl))) rfl ?_;refine tr_val (rk_pick_or (.of rfl) rfl) rfl ?_;refine m_v rfl rfl ?_;refine v_g rfl rfl rfl rfl ?_;refine tr_vG1 rfl rfl inferInstance (fun hg hgp=>(rk_indexS (.ofg hg rfl) (.of rfl) (by omega) (by omega))) rfl ?_;refine tr_callVG1 rfl rfl (fun hg=>(rk_call (.of rfl) (.cons (.ofg hg rfl) .nil) inferInstance normc_)) rfl (fun hg w' hm'=>(isL_q _ w')) ?_;refine tr_vG1 rfl rfl inferInstance (fun hg hgp=>(rk_not (.ofg hg rfl))) rfl ?_;refine tr_val (rk_pick_or (.of rfl) rfl) rfl ?_;refine n_t ?_;refine c_b rfl (fun hcd=>?_) (fun hcd=>?_);refine s_r ?_;refine a_s rfl rfl ?_;refine n_t ?_;refine r_t ?_;refine tr_retE rfl (ends1 rfl rfl) ?_;rotate_left;refine s_t ?_;refine tr_seq ?_;refine s_r ?_;refine a_s rfl rfl ?_;refine n_t ?_;refine tr_block ?_;rotate_right)
  · congr 1;symm
    change (_ ∨ _) ∨ isL (bt s 0) = false at hcd
    unfold nameF
    rcases hcd with (h | h) | h
    · simp;omega
    · simp;omega
    · simp [h]
  change (_ ∧ _) ∧ isL (bt s 0) = true at hcd
  obtain ⟨⟨h0,h1⟩,h2⟩:=hcd
  have hN:nameF s = okF s 1:=by
    unfold nameF
    rw [h2,decide_eq_true (by omega),decide_eq_true (by omega)];rfl
  rw [hN]
  refine tr_for (fun k:Nat=>1 ≤ k ∧ k ≤ s.size ∧ okF s 1 = okF s k) (fun k=>[(3,.int .i64 k),(0,.string s)]) (fun _=>[]) (fun k=>s.size - k) ?_ ?_
  · apply tr_start 1 ⟨by omega,by omega,rfl⟩
    case hs1=>exact .cons rfl (.cons rfl .nil)
    case ht=>(try simp only [List.take_zero,List.map_nil,List.nil_append]);exact .nil
  intro k ⟨hk1,hk,hf⟩
  rw [hf]
  by_cases hlt:k < s.size
  · rw [okF_at hlt]
    (refine tr_seq ?_;refine s_r ?_;refine m_v rfl rfl ?_;refine m_v rfl rfl ?_;refine tr_val (rk_len_string (.of rfl)) rfl ?_;refine tr_val (rk_lss (.of rfl) (.of rfl)) rfl ?_;refine n_t ?_;refine c_d rfl (fun hcd=>?_) (fun _=>by omega);refine s_t ?_;refine tr_seq ?_;refine tr_block ?_;refine s_r ?_;refine m_v rfl rfl ?_;refine m_v rfl rfl ?_;refine tr_val (rk_indexS (.of rfl) (.of rfl) (by omega) hcd) rfl ?_;refine tr_callV (rk_call (.of rfl) (.cons (.of rfl) .nil) inferInstance normc_) rfl (fun w' hm'=>(isL_q _ w')) ?_;refine tr_val (rk_not (.of rfl)) rfl ?_;refine m_v rfl rfl ?_;refine v_g rfl rfl rfl rfl ?_;refine v_g rfl rfl rfl rfl ?_;refine tr_vG1 rfl rfl inferInstance (fun hg hgp=>(rk_indexS (.ofg hg rfl) (.ofg hg rfl) (by omega) hcd)) rfl ?_;refine tr_callVG1 rfl rfl (fun hg=>(rk_call (.of rfl) (.cons (.ofg hg rfl) .nil) inferInstance normc_)) rfl (fun hg w' hm'=>(isD_q _ w')) ?_;refine tr_vG1 rfl rfl inferInstance (fun hg hgp=>(rk_not (.ofg hg rfl))) rfl ?_;refine tr_val (rk_pick_and (.of rfl) rfl) rfl ?_;refine m_v rfl rfl ?_;refine v_g rfl rfl rfl rfl ?_;refine v_g rfl rfl rfl rfl ?_;refine tr_vG1 rfl rfl inferInstance (fun hg hgp=>(rk_indexS (.ofg hg rfl) (.ofg hg rfl) (by omega) hcd)) rfl ?_;refine tr_vG1 rfl rfl inferInstance (fun hg hgp=>(rk_neq (.ofg hg rfl) (.of rfl))) rfl ?_;refine tr_val (rk_pick_and (.of rfl) rfl) rfl ?_;refine n_t ?_;refine c_b rfl (fun hcd=>?_) (fun hcd=>?_);refine s_r ?_;refine a_s rfl rfl ?_;refine n_t ?_;refine tr_ret ?_;refine tr_blk_ret ?_;refine tr_then_ret ?_;refine tr_then_ret ?_;refine tr_blk_ret ?_;refine tr_then_ret ?_;refine tr_retE rfl (ends1 rfl rfl) ?_;rotate_left;refine tr_skip ?_;refine tr_blk_normal ?_;refine tr_then ?_;refine tr_region ?_;refine m_v rfl rfl ?_;refine tr_val (rk_add (.of rfl) (.of rfl) (ini (by omega))) rfl ?_;refine a_s rfl rfl ?_;refine n_t ?_;rotate_right)
    · congr 1;symm
      change (isL (bt s k) = false ∧ isD (bt s k) = false) ∧ bt s k ≠ 95 at hcd
      simp [okB,hcd]
    · have ho:okB (bt s k) = true:=by
        change (isL (bt s k) = true ∨ isD (bt s k) = true) ∨ ¬ bt s k ≠ 95 at hcd
        rcases hcd with (h | h) | h
        · simp [okB,h]
        · simp [okB,h]
        · simp [okB,Decidable.not_not.1 h]
      rw [ho,Bool.true_and]
      rw [okF_at hlt,ho,Bool.true_and] at hf
      rw [← hf]
      apply tr_next (k + 1) ⟨by omega,by omega,hf⟩ (by omega)
      case hs1=>exact .cons rfl (.cons rfl .nil)
      case ht=>(try simp only [List.take_zero,List.map_nil,List.nil_append]);exact .nil
  · (refine tr_seq ?_;refine s_r ?_;refine m_v rfl rfl ?_;refine m_v rfl rfl ?_;refine tr_val (rk_len_string (.of rfl)) rfl ?_;refine tr_val (rk_lss (.of rfl) (.of rfl)) rfl ?_;refine n_t ?_;refine c_d rfl (fun _=>by omega) (fun hcd=>?_);refine x_t ?_;refine tr_then_exit ?_;refine tr_blk_exit ?_;refine tr_then ?_;refine s_r ?_;refine a_s rfl rfl ?_;refine n_t ?_;refine tr_ret ?_;refine tr_retE rfl (ends1 rfl rfl) ?_)
    rw [okF_end (by omega)]
theorem nm_q (s:ByteArray) (w:World):GivesV Tryz.prog 30 [.string s] w (.int .i64 (nmF s)):=by
  refine givesV_of_tr Tryz.func30 rfl rfl ?_
  (refine s_r ?_;refine a_s rfl rfl ?_;refine n_r ?_;refine m_v rfl rfl ?_;refine tr_callV (rk_call (.of rfl) (.cons (.of rfl) .nil) inferInstance normc_) rfl (fun w' hm'=>(name_q s w')) ?_;refine tr_val (rk_not (.of rfl)) rfl ?_;refine tr_callV (rk_call (.of rfl) (.cons (.of rfl) (.cons (.of rfl) .nil)) inferInstance normc_) rfl (fun w' hm'=>(when_q _ 8 w')) ?_;refine a_s rfl rfl ?_;refine n_t ?_;refine tr_ret ?_;refine tr_retE rfl (ends1 rfl rfl) ?_)
  rfl
theorem when9_c (h:Bool) (e:Int) (w:World):GivesV Tryz.prog 41 [.bool h,.int .i64 e] w (.int .i64 (whenF h e)):=by
  refine givesV_of_tr Tryz.func41 rfl rfl ?_
  (refine s_r ?_;refine a_s rfl rfl ?_;refine n_t ?_;refine tr_seq ?_;refine s_r ?_;refine m_v rfl rfl ?_;refine n_t ?_;refine c_b rfl (fun hcd=>?_) (fun hcd=>?_);refine s_r ?_;refine m_v rfl rfl ?_;refine a_s rfl rfl ?_;refine n_t ?_;refine r_t ?_;refine tr_retE rfl (ends1 rfl rfl) ?_;rotate_left;refine s_t ?_;refine s_r ?_;refine a_s rfl rfl ?_;refine n_t ?_;refine tr_ret ?_;refine tr_retE rfl (ends1 rfl rfl) ?_;rotate_right)
  all_goals simp [whenF, *]
theorem within9_c (n l m:Int) (w:World):GivesV Tryz.prog 66 [.int .i64 n,.int .i64 l,.int .i64 m] w (.int .i64 (withinF n l m)):=by
  refine givesV_of_tr Tryz.func66 rfl rfl ?_
  (refine s_r ?_;refine a_s rfl rfl ?_;refine n_r ?_;refine m_v rfl rfl ?_;refine m_v rfl rfl ?_;refine tr_val (rk_lss (.of rfl) (.of rfl)) rfl ?_;refine m_v rfl rfl ?_;refine v_g rfl rfl rfl rfl ?_;refine v_g rfl rfl rfl rfl ?_;refine tr_vG1 rfl rfl inferInstance (fun hg hgp=>(rk_gtr (.ofg hg rfl) (.ofg hg rfl))) rfl ?_;refine tr_val (rk_pick_or (.of rfl) rfl) rfl ?_;refine tr_callV (rk_call (.of rfl) (.cons (.of rfl) (.cons (.of rfl) .nil)) inferInstance normc_) rfl (fun w' hm'=>(when9_c _ 3 w')) ?_;refine a_s rfl rfl ?_;refine n_t ?_;refine tr_ret ?_;refine tr_retE rfl (ends1 rfl rfl) ?_)
  rfl
theorem first9_c (v:Value) (es:List Int) (w:World) (h:Rd w v 1 (ints es)):GivesV Tryz.prog 40 [v] w (.int .i64 (firstF es)):=by
  obtain ⟨a,cap,b,o,rfl,hcap,hmax,ha,hc⟩:=h
  rw [ints_length] at *
  unfold maxLen at hmax
  refine givesV_of_tr Tryz.func40 rfl rfl ?_
  (refine s_r ?_;refine a_s rfl rfl ?_;refine n_t ?_;refine tr_seq ?_;refine s_r ?_;refine m_v rfl rfl ?_;refine tr_val (rk_len_slice (.of rfl)) rfl ?_;refine m_v rfl rfl ?_;refine n_t ?_;refine tr_block ?_)
  refine tr_for (fun k:Nat=>k ≤ es.length ∧ firstF es = firstF (es.drop k)) (fun k=>[(7,.int .i64 k),(6,.int .i64 es.length),(5,.slice a es.length cap)]) (fun _=>[]) (fun k=>es.length - k) ?_ ?_
  · apply tr_start 0 ⟨Nat.zero_le _,rfl⟩
    case hs1=>exact .cons rfl (.cons rfl (.cons rfl .nil))
    case ht=>(try simp only [List.take_zero,List.map_nil,List.nil_append]);exact .nil
  intro k ⟨hk,hf⟩
  by_cases hlt:k < es.length
  · have ha':=ha (ints_ne hlt)
    have hcell:=rd1 hc (ints_get hlt)
    have hs:=firstF_at hlt
    (refine s_r ?_;refine tr_val (rk_lss (.of rfl) (.of rfl)) rfl ?_;refine n_t ?_;refine tr_seq ?_;refine c_d rfl (fun hcd=>?_) (fun _=>by omega);refine s_t ?_;refine tr_seq ?_;refine tr_block ?_;refine s_r ?_;refine tr_val (rk_indexAddr (.of rfl) (.of rfl) ha' (by omega) hcd norm1_) rfl ?_;refine tr_val (rk_load1 (.of rfl) (At.base hcell rfl)) rfl ?_;refine a_s rfl rfl ?_;refine n_r ?_;refine m_v rfl rfl ?_;refine tr_val (rk_neq (.of rfl) (.of rfl)) rfl ?_;refine n_t ?_;refine c_d rfl (fun hcd=>?_) (fun hcd=>?_);refine s_r ?_;refine m_v rfl rfl ?_;refine a_s rfl rfl ?_;refine n_t ?_;refine tr_ret ?_;refine tr_blk_ret ?_;refine tr_then_ret ?_;refine tr_then_ret ?_;refine tr_blk_ret ?_;refine tr_then_ret ?_;refine tr_retE rfl (ends1 rfl rfl) ?_;rotate_left;refine tr_skip ?_;refine tr_blk_normal ?_;refine tr_then ?_;refine tr_region ?_;refine tr_val (rk_add (.of rfl) (.of rfl) (ini (by omega))) rfl ?_;refine m_v rfl rfl ?_;refine n_t ?_;rotate_right)
    · rw [hf,hs,if_pos hcd]
    · apply tr_next (k + 1) ⟨by omega,by rw [hf,hs,if_neg hcd]⟩ (by omega)
      case hs1=>exact .cons rfl (.cons rfl (.cons rfl .nil))
      case ht=>(try simp only [List.take_zero,List.map_nil,List.nil_append]);exact .nil
  · (refine s_r ?_;refine tr_val (rk_lss (.of rfl) (.of rfl)) rfl ?_;refine n_t ?_;refine tr_seq ?_;refine c_d rfl (fun _=>by omega) (fun hcd=>?_);refine x_t ?_;refine tr_then_exit ?_;refine tr_blk_exit ?_;refine tr_then ?_;refine s_r ?_;refine a_s rfl rfl ?_;refine n_t ?_;refine tr_ret ?_;refine tr_retE rfl (ends1 rfl rfl) ?_)
    rw [hf,List.drop_of_length_le (by omega)];rfl
theorem first_pB9 {v:Value} {cs:List Value} {es:List Int} {w:World} (h:Rd w v 1 (cs.map fun v=>[v])) (hl:IntL cs es):GivesV Tryz.prog 40 [v] w (.int .i64 (firstF es)):=
  first9_c v es w (by rw [← hl.eq];exact h)
theorem isL_iff {c:Int}:isL c = true ↔ (65 ≤ c ∧ c ≤ 90) ∨ (97 ≤ c ∧ c ≤ 122):=by simp [isL]
theorem okB_iff {c:Int}:okB c = true ↔ ((65 ≤ c ∧ c ≤ 90) ∨ (97 ≤ c ∧ c ≤ 122)) ∨ (48 ≤ c ∧ c ≤ 57) ∨ c = 95:=by simp [okB,isL,isD,or_assoc]
theorem name_p (s:ByteArray) (w:World):GivesV Tryz.prog 95 [.string s] w (.bool (nameF s)):=by
  refine givesV_of_tr Tryz.func95 rfl rfl ?_
  (refine s_r ?_;refine a_s rfl rfl ?_;refine n_t ?_;refine tr_seq ?_;refine s_r ?_;refine m_v rfl rfl ?_;refine tr_new (rk_rangeS (.of rfl)) rfl (fun _ _=>?_);refine n_t ?_;refine tr_block ?_)
  rename_i bi hbi
  refine tr_for (fun p:Nat=>p ≤ s.size ∧ (p = 0 ∨ (1 ≤ p ∧ isL (bt s 0) = true ∧ okF s 1 = okF s p))) (fun _=>[(7,.pointer (some ⟨bi,0,none⟩)),(0,.string s)]) (fun p=>[blk bi (.stringIter s p)]) (fun p=>s.size - p) ?_ ?_
  · apply tr_start 0 ⟨by omega,.inl rfl⟩
    case hs1=>exact .cons rfl (.cons rfl .nil)
    case ht=>(try simp only [List.take_zero,List.map_nil,List.nil_append]);exact .cons .here .nil
  intro p ⟨hp,hI⟩
  (refine s_r ?_;refine tr_nextS (.of rfl) .here rfl (fun hlt=>?_) (fun hlt=>?_);refine tr_val (rk_extract (.of rfl) rfl) rfl ?_;refine n_t ?_;refine tr_seq ?_;refine tr_cond_t (.of rfl) ?_;refine s_t ?_;refine tr_block ?_;refine s_r ?_;refine tr_val (rk_extract (.of rfl) rfl) rfl ?_;refine tr_val (rk_extract (.of rfl) rfl) rfl ?_;refine a_s rfl rfl ?_;refine a_s rfl rfl ?_;refine n_r ?_;refine m_v rfl rfl ?_;refine tr_val (rk_geq (.of rfl) (.of rfl)) rfl ?_;refine m_v rfl rfl ?_;refine v_g rfl rfl rfl rfl ?_;refine tr_vG1 rfl rfl inferInstance (fun hg hgp=>(rk_leq (.ofg hg rfl) (.of rfl))) rfl ?_;refine tr_val (rk_pick_and (.of rfl) rfl) rfl ?_;refine m_v rfl rfl ?_;refine v_g rfl rfl rfl rfl ?_;refine tr_vG1 rfl rfl inferInstance (fun hg hgp=>(rk_geq (.ofg hg rfl) (.of rfl))) rfl ?_;refine tr_vG1 rfl rfl inferInstance (fun hg hgp=>(rk_move (.ofg hg rfl))) rfl ?_;refine tr_vG rfl rfl inferInstance (fun hg hgp=>(rk_move (.of rfl))) rfl ?_;refine tr_vG rfl rfl inferInstance (fun hg hgp=>(rk_leq (.ofg hg rfl) (.of rfl))) rfl ?_;refine tr_vG1 rfl rfl inferInstance (fun hg hgp=>(rk_pick_and' hg (.ofg hg rfl) rfl)) rfl ?_;refine tr_val (rk_pick_or (.of rfl) rfl) rfl ?_;refine a_s rfl rfl ?_;refine n_r ?_;refine m_v rfl rfl ?_;refine tr_val (rk_not (.of rfl)) rfl ?_;refine m_v rfl rfl ?_;refine v_g rfl rfl rfl rfl ?_;refine tr_vG1 rfl rfl inferInstance (fun hg hgp=>(rk_eql (.ofg hg rfl) (.of rfl))) rfl ?_;refine tr_vG1 rfl rfl inferInstance (fun hg hgp=>(rk_move (.ofg hg rfl))) rfl ?_;refine tr_vG rfl rfl inferInstance (fun hg hgp=>(rk_move (.of rfl))) rfl ?_;refine tr_vG rfl rfl inferInstance (fun hg hgp=>(rk_lss (.ofg hg rfl) (.of rfl))) rfl ?_;refine tr_vG rfl rfl inferInstance (fun hg hgp=>(rk_move (.ofg hg rfl))) rfl ?_;refine tr_vG rfl rfl inferInstance (fun hg hgp=>(rk_move (.of rfl))) rfl ?_;refine tr_vG rfl rfl inferInstance (fun hg hgp=>(rk_gtr (.ofg hg rfl) (.of rfl))) rfl ?_;refine tr_vG rfl rfl inferInstance (fun hg hgp=>(rk_pick_or' hg (.ofg hg rfl) rfl)) rfl ?_;refine tr_vG rfl rfl inferInstance (fun hg hgp=>(rk_move (.ofg hg rfl))) rfl ?_;refine tr_vG rfl rfl inferInstance (fun hg hgp=>(rk_move (.of rfl))) rfl ?_;refine tr_vG rfl rfl inferInstance (fun hg hgp=>(rk_neq (.ofg hg rfl) (.of rfl))) rfl ?_;refine tr_vG rfl rfl inferInstance (fun hg hgp=>(rk_pick_and' hg (.ofg hg rfl) rfl)) rfl ?_;refine tr_vG1 rfl rfl inferInstance (fun hg hgp=>(rk_pick_or' hg (.ofg hg rfl) rfl)) rfl ?_;refine tr_val (rk_pick_and (.of rfl) rfl) rfl ?_;refine n_t ?_;refine c_b rfl (fun hcd=>?_) (fun hcd=>?_);refine s_r ?_;refine a_s rfl rfl ?_;refine n_t ?_;refine tr_ret ?_;refine tr_blk_ret ?_;refine tr_then_ret ?_;refine tr_blk_ret ?_;refine tr_then_ret ?_;refine tr_retE rfl (ends1 rfl rfl) ?_;rotate_left;refine tr_skip ?_;refine tr_blk_normal ?_;refine tr_then ?_;rotate_right;rotate_left 2;refine tr_val (rk_extract (.of rfl) rfl) rfl ?_;refine n_t ?_;refine tr_seq ?_;refine tr_cond_f (.of rfl) ?_;refine x_t ?_;refine tr_then_exit ?_;refine tr_blk_exit ?_;refine tr_then ?_;refine s_r ?_;refine m_v rfl rfl ?_;refine tr_val (rk_neqs (.of rfl) (.of rfl)) rfl ?_;refine m_v rfl rfl ?_;refine v_g rfl rfl rfl rfl ?_;refine tr_vG1 rfl rfl inferInstance (fun hg hgp=>(rk_len_string (.ofg hg rfl))) rfl ?_;refine tr_vG1 rfl rfl inferInstance (fun hg hgp=>(rk_leq (.ofg hg rfl) (.of rfl))) rfl ?_;refine tr_val (rk_pick_and (.of rfl) rfl) rfl ?_;refine a_s rfl rfl ?_;refine n_t ?_;refine tr_ret ?_;refine tr_retE rfl (ends1 rfl rfl) ?_;rotate_right 2)
  · congr 1;symm
    unfold nameF
    have hd:=decode_bt hlt
    rcases hI with rfl | ⟨h1,h2,h3⟩
    · have:isL (bt s 0) = false:=by rw [← Bool.not_eq_true,isL_iff];omega
      simp [this]
    · have:okF s p = false:=by
        rw [okF_at hlt]
        have:okB (bt s p) = false:=by rw [← Bool.not_eq_true,okB_iff];omega
        rw [this];rfl
      rw [h3,this];simp
  · have hd:=decode_bt hlt
    have ho:okB (bt s p) = true:=by rw [okB_iff];omega
    have hw:(Utf8.decode s p).2 = 1:=by rw [okB_iff] at ho;omega
    rw [hw]
    have hn:isL (bt s 0) = true ∧ okF s 1 = okF s (p + 1):=by
      rcases hI with rfl | ⟨h1,h2,h3⟩
      · refine ⟨?_,rfl⟩
        rw [isL_iff];omega
      · exact ⟨h2,by rw [h3,okF_at hlt,ho];rfl⟩
    apply tr_next (p + 1) ⟨by omega,.inr ⟨by omega,hn⟩⟩ (by omega)
    case hs1=>exact .cons rfl (.cons rfl .nil)
    case ht=>(try simp only [List.take_zero,List.map_nil,List.nil_append]);exact .cons .here .nil
  · unfold nameF
    congr 1
    by_cases h0:s.size = 0
    · have:s = ⟨#[]⟩:=ne_empty.1 h0
      rw [decide_eq_false (p:=s ≠ ⟨#[]⟩) (fun h=>h this),decide_eq_false (p:=0 < s.size) (by omega)];rfl
    · rw [decide_eq_true (p:=s ≠ ⟨#[]⟩) (fun h=>h0 (ne_empty.2 h)),decide_eq_true (p:=0 < s.size) (by omega)]
      rcases hI with rfl | ⟨h1,h2,h3⟩
      · omega
      · rw [h2,h3,okF_end (by omega)]
        simp
        omega
theorem nm_p (s:ByteArray) (w:World):GivesV Tryz.prog 68 [.string s] w (.int .i64 (nmF s)):=by
  refine givesV_of_tr Tryz.func68 rfl rfl ?_
  (refine s_r ?_;refine a_s rfl rfl ?_;refine n_r ?_;refine m_v rfl rfl ?_;refine tr_callV (rk_call (.of rfl) (.cons (.of rfl) .nil) inferInstance normc_) rfl (fun w' hm'=>(name_p s w')) ?_;refine tr_val (rk_not (.of rfl)) rfl ?_;refine tr_callV (rk_call (.of rfl) (.cons (.of rfl) (.cons (.of rfl) .nil)) inferInstance normc_) rfl (fun w' hm'=>(when9_c _ 8 w')) ?_;refine a_s rfl rfl ?_;refine n_t ?_;refine tr_ret ?_;refine tr_retE rfl (ends1 rfl rfl) ?_)
  rfl
end Go.Proofs.A1
namespace Go.Proofs.A1
open Go Go.SL
structure Glob (w:World):Prop where
  n0:w.cell? ⟨0,0,none⟩ = some (.string sFix)
  n1:w.cell? ⟨0,1,none⟩ = some (.string sFol)
  n2:w.cell? ⟨0,2,none⟩ = some (.string sMan)
theorem Glob.keeps {w w':World} (h:Glob w) (hk:Keeps [] w w'):Glob w':=⟨cell_keeps h.n0 rfl hk,cell_keeps h.n1 rfl hk,cell_keeps h.n2 rfl hk⟩
def fv (n:Nat):Value:=.func (.func n) #[] #[]
theorem k1_c (a b:Int) (w:World):GivesV Tryz.prog 135 [.int .i64 a,.int .i64 b] w (.int .i64 a):=by
  refine givesV_of_tr Tryz.func135 rfl rfl ?_
  (refine s_r ?_;refine a_s rfl rfl ?_;refine n_r ?_;refine m_v rfl rfl ?_;refine a_s rfl rfl ?_;refine n_t ?_;refine tr_ret ?_;refine tr_retE rfl (ends1 rfl rfl) ?_)
  rfl
theorem k2_c (a b:Int) (w:World):GivesV Tryz.prog 136 [.int .i64 a,.int .i64 b] w (.int .i64 b):=by
  refine givesV_of_tr Tryz.func136 rfl rfl ?_
  (refine s_r ?_;refine a_s rfl rfl ?_;refine n_r ?_;refine m_v rfl rfl ?_;refine a_s rfl rfl ?_;refine n_t ?_;refine tr_ret ?_;refine tr_retE rfl (ends1 rfl rfl) ?_)
  rfl
theorem k3_c (a b:Int) (w:World):GivesV Tryz.prog 137 [.int .i64 a,.int .i64 b] w (.int .i64 (max a b)):=by
  refine givesV_of_tr Tryz.func137 rfl rfl ?_
  (refine s_r ?_;refine a_s rfl rfl ?_;refine n_r ?_;refine m_v rfl rfl ?_;refine m_v rfl rfl ?_;refine tr_val (rk_max2 (.of rfl) (.of rfl)) rfl ?_;refine a_s rfl rfl ?_;refine n_t ?_;refine tr_ret ?_;refine tr_retE rfl (ends1 rfl rfl) ?_)
  rfl
def kindsL:List Value:=[.string sFix,.int .i64 10000000,.func (.func 135) #[] #[],.string sFol,.int .i64 0,.func (.func 136) #[] #[],.string sMan,.int .i64 10000000,.func (.func 137) #[] #[]]
theorem kinds_c (w:World) (hg:Glob w):GivesV Tryz.prog 124 [] w (.agg kindsL.toArray):=by
  obtain ⟨g0,g1,g2⟩:=hg
  refine givesV_of_tr Tryz.func124 rfl rfl ?_
  (refine s_r ?_;refine tr_new (rk_alloc rfl) rfl (fun _ _=>?_);refine n_r ?_;refine tr_val (rk_indexAddrA (.of rfl) (.of rfl) (by omega) (by omega) norm1_) rfl ?_;refine tr_val (rk_load1 (.of rfl) (At.base g0 rfl)) rfl ?_;refine tr_val (rk_buildL (.cons (.of rfl) (.cons (.of rfl) (.cons (.of rfl) .nil))) norm_) rfl ?_;refine tr_val (rk_indexAddrA (.of rfl) (.of rfl) (by omega) (by omega) norm1_) rfl ?_;refine tr_val (rk_load1 (.of rfl) (At.base g1 rfl)) rfl ?_;refine tr_val (rk_buildL (.cons (.of rfl) (.cons (.of rfl) (.cons (.of rfl) .nil))) norm_) rfl ?_;refine tr_val (rk_indexAddrA (.of rfl) (.of rfl) (by omega) (by omega) norm1_) rfl ?_;refine tr_val (rk_load1 (.of rfl) (At.base g2 rfl)) rfl ?_;refine tr_val (rk_buildL (.cons (.of rfl) (.cons (.of rfl) (.cons (.of rfl) .nil))) norm_) rfl ?_;refine tr_val (rk_buildL (.cons (.of rfl) (.cons (.of rfl) (.cons (.of rfl) .nil))) norm_) rfl ?_;refine tr_store (.of rfl) (.of rfl) .here rfl rfl (okc_cons rfl (okc_cons rfl (okc_cons rfl (okc_cons rfl (okc_cons rfl (okc_cons rfl (okc_cons rfl (okc_cons rfl (okc_cons rfl okc_nil))))))))) (lenb rfl) norm_ ?_;refine n_t ?_;refine tr_ret ?_;refine tr_retE rfl (ends1cB rfl inferInstance rfl .here norm_ (by rfl)) ?_)
  rfl
def kindL (kd:ByteArray):List Value:=
  if kd = sFix then [.string sFix,.int .i64 10000000,.func (.func 135) #[] #[]]
  else if kd = sFol then [.string sFol,.int .i64 0,.func (.func 136) #[] #[]]
  else if kd = sMan then [.string sMan,.int .i64 10000000,.func (.func 137) #[] #[]]
  else [.string ⟨#[]⟩,.int .i64 0,.nilFunc]
theorem kind_c (kd:ByteArray) (t:Int) (w:World) (hg:Glob w):GivesV Tryz.prog 100 [.agg #[.string kd,.int .i64 t]] w (.tuple #[.agg (kindL kd).toArray,.bool (kindB kd)]):=by
  refine givesV_of_tr Tryz.func100 rfl rfl ?_
  (refine s_r ?_;refine tr_new (rk_box (.of rfl) rfl) rfl (fun _ _=>?_);refine tr_new (rk_alloc rfl) rfl (fun _ _=>?_);refine a_s rfl rfl ?_;refine n_t ?_;refine tr_seq ?_;refine s_r ?_;refine tr_callV (rk_call (.of rfl) .nil inferInstance normc_) rfl (fun w' hm'=>(kinds_c w' (Glob.keeps hg (Mem.keeps hm')))) ?_;refine m_v rfl rfl ?_;refine n_t ?_;refine tr_block ?_)
  rename_i b1 hb1 b2 hb2
  refine tr_for (fun j:Nat=>j ≤ 3 ∧ (0 < j → ¬ kd = sFix) ∧ (1 < j → ¬ kd = sFol) ∧ (2 < j → ¬ kd = sMan)) (fun j=>[(7,.int .i64 j),(6,.agg kindsL.toArray),(3,.bool false),(2,.pointer (some ⟨b2,0,none⟩)),(1,.pointer (some ⟨b1,0,none⟩))])
    (fun _=>[blk b2 (.cells #[.string ⟨#[]⟩,.int .i64 0,.nilFunc] 178 (0,0)),blk b1 (.cells #[.string kd,.int .i64 t] 65 (0,0))]) (fun j=>3 - j) ?_ ?_
  · apply tr_start 0 ⟨by omega,by omega,by omega,by omega⟩
    case hs1=>exact .cons rfl (.cons rfl (.cons rfl (.cons rfl (.cons rfl .nil))))
    case ht=>(try simp only [List.take_zero,List.map_nil,List.nil_append]);exact .cons .here (.cons .here .nil)
  intro j ⟨hj,h0,h1,h2⟩
  by_cases hlt:j < 3
  · obtain rfl | rfl | rfl:j = 0 ∨ j = 1 ∨ j = 2:=by omega
    · simp only [kindsL,Int.natCast_zero,Int.cast_ofNat_Int]
      (refine s_r ?_;refine tr_val (rk_lss (.of rfl) (.of rfl)) rfl ?_;refine n_t ?_;refine tr_seq ?_;refine c_d rfl (fun hcd=>?_) (fun _=>by omega);refine s_t ?_;refine tr_seq ?_;refine tr_block ?_;refine s_r ?_;refine tr_val (rk_index (.of rfl) (.of rfl) (by omega) hcd norm_) rfl ?_;refine tr_new (rk_alloc rfl) rfl (fun _ _=>?_);refine tr_store (.of rfl) (.of rfl) .here rfl rfl (okc_cons rfl (okc_cons rfl (okc_cons rfl okc_nil))) (lenb rfl) norm_ ?_;refine n_r ?_;refine f_a rfl rfl norm0_ ?_;refine tr_val (rk_load1 (.of rfl) (At.lit .here rfl)) rfl ?_;refine f_a rfl rfl norm0_ ?_;refine tr_val (rk_load1 (.of rfl) (At.lit (.there (.there .here)) rfl)) rfl ?_;refine tr_val (rk_eqls (.of rfl) (.of rfl)) rfl ?_;refine n_t ?_;refine c_d rfl (fun hcd=>?_) (fun hcd=>?_);refine s_r ?_;refine tr_val (rk_loadB (.of rfl) .here norm_ (by rfl)) rfl ?_;refine tr_store (.of rfl) (.of rfl) (.there .here) rfl rfl (okc_cons rfl (okc_cons rfl (okc_cons rfl okc_nil))) (lenb rfl) norm_ ?_;refine a_s rfl rfl ?_;refine n_t ?_;refine tr_ret ?_;refine tr_blk_ret ?_;refine tr_then_ret ?_;refine tr_then_ret ?_;refine tr_blk_ret ?_;refine tr_then_ret ?_;refine tr_retE rfl (endsCT rfl inferInstance rfl .here norm_ (by rfl) (by rfl)) ?_;rotate_left;refine tr_skip ?_;refine tr_blk_normal ?_;refine tr_then ?_;refine tr_region ?_;refine tr_val (rk_add (.of rfl) (.of rfl) (ini (by omega))) rfl ?_;refine m_v rfl rfl ?_;refine n_t ?_;rotate_right)
      · subst hcd;rfl
      · apply tr_next 1 ⟨by omega,fun _ e=>hcd e.symm,by omega,by omega⟩ (by omega)
        case hs1=>exact .cons rfl (.cons rfl (.cons rfl (.cons rfl (.cons rfl .nil))))
        case ht=>(try simp only [List.take_zero,List.map_nil,List.nil_append]);exact .cons (.there .here) (.cons (.there .here) .nil)
    · simp only [kindsL,Int.cast_ofNat_Int]
      (refine s_r ?_;refine tr_val (rk_lss (.of rfl) (.of rfl)) rfl ?_;refine n_t ?_;refine tr_seq ?_;refine c_d rfl (fun hcd=>?_) (fun _=>by omega);refine s_t ?_;refine tr_seq ?_;refine tr_block ?_;refine s_r ?_;refine tr_val (rk_index (.of rfl) (.of rfl) (by omega) hcd norm_) rfl ?_;refine tr_new (rk_alloc rfl) rfl (fun _ _=>?_);refine tr_store (.of rfl) (.of rfl) .here rfl rfl (okc_cons rfl (okc_cons rfl (okc_cons rfl okc_nil))) (lenb rfl) norm_ ?_;refine n_r ?_;refine f_a rfl rfl norm0_ ?_;refine tr_val (rk_load1 (.of rfl) (At.lit .here rfl)) rfl ?_;refine f_a rfl rfl norm0_ ?_;refine tr_val (rk_load1 (.of rfl) (At.lit (.there (.there .here)) rfl)) rfl ?_;refine tr_val (rk_eqls (.of rfl) (.of rfl)) rfl ?_;refine n_t ?_;refine c_d rfl (fun hcd=>?_) (fun hcd=>?_);refine s_r ?_;refine tr_val (rk_loadB (.of rfl) .here norm_ (by rfl)) rfl ?_;refine tr_store (.of rfl) (.of rfl) (.there .here) rfl rfl (okc_cons rfl (okc_cons rfl (okc_cons rfl okc_nil))) (lenb rfl) norm_ ?_;refine a_s rfl rfl ?_;refine n_t ?_;refine tr_ret ?_;refine tr_blk_ret ?_;refine tr_then_ret ?_;refine tr_then_ret ?_;refine tr_blk_ret ?_;refine tr_then_ret ?_;refine tr_retE rfl (endsCT rfl inferInstance rfl .here norm_ (by rfl) (by rfl)) ?_;rotate_left;refine tr_skip ?_;refine tr_blk_normal ?_;refine tr_then ?_;refine tr_region ?_;refine tr_val (rk_add (.of rfl) (.of rfl) (ini (by omega))) rfl ?_;refine m_v rfl rfl ?_;refine n_t ?_;rotate_right)
      · subst hcd;rfl
      · apply tr_next 2 ⟨by omega,fun _=>h0 (by omega),fun _ e=>hcd e.symm,by omega⟩ (by omega)
        case hs1=>exact .cons rfl (.cons rfl (.cons rfl (.cons rfl (.cons rfl .nil))))
        case ht=>(try simp only [List.take_zero,List.map_nil,List.nil_append]);exact .cons (.there .here) (.cons (.there .here) .nil)
    · simp only [kindsL,Int.cast_ofNat_Int]
      (refine s_r ?_;refine tr_val (rk_lss (.of rfl) (.of rfl)) rfl ?_;refine n_t ?_;refine tr_seq ?_;refine c_d rfl (fun hcd=>?_) (fun _=>by omega);refine s_t ?_;refine tr_seq ?_;refine tr_block ?_;refine s_r ?_;refine tr_val (rk_index (.of rfl) (.of rfl) (by omega) hcd norm_) rfl ?_;refine tr_new (rk_alloc rfl) rfl (fun _ _=>?_);refine tr_store (.of rfl) (.of rfl) .here rfl rfl (okc_cons rfl (okc_cons rfl (okc_cons rfl okc_nil))) (lenb rfl) norm_ ?_;refine n_r ?_;refine f_a rfl rfl norm0_ ?_;refine tr_val (rk_load1 (.of rfl) (At.lit .here rfl)) rfl ?_;refine f_a rfl rfl norm0_ ?_;refine tr_val (rk_load1 (.of rfl) (At.lit (.there (.there .here)) rfl)) rfl ?_;refine tr_val (rk_eqls (.of rfl) (.of rfl)) rfl ?_;refine n_t ?_;refine c_d rfl (fun hcd=>?_) (fun hcd=>?_);refine s_r ?_;refine tr_val (rk_loadB (.of rfl) .here norm_ (by rfl)) rfl ?_;refine tr_store (.of rfl) (.of rfl) (.there .here) rfl rfl (okc_cons rfl (okc_cons rfl (okc_cons rfl okc_nil))) (lenb rfl) norm_ ?_;refine a_s rfl rfl ?_;refine n_t ?_;refine tr_ret ?_;refine tr_blk_ret ?_;refine tr_then_ret ?_;refine tr_then_ret ?_;refine tr_blk_ret ?_;refine tr_then_ret ?_;refine tr_retE rfl (endsCT rfl inferInstance rfl .here norm_ (by rfl) (by rfl)) ?_;rotate_left;refine tr_skip ?_;refine tr_blk_normal ?_;refine tr_then ?_;refine tr_region ?_;refine tr_val (rk_add (.of rfl) (.of rfl) (ini (by omega))) rfl ?_;refine m_v rfl rfl ?_;refine n_t ?_;rotate_right)
      · subst hcd;rfl
      · apply tr_next 3 ⟨by omega,fun _=>h0 (by omega),fun _=>h1 (by omega),fun _ e=>hcd e.symm⟩ (by omega)
        case hs1=>exact .cons rfl (.cons rfl (.cons rfl (.cons rfl (.cons rfl .nil))))
        case ht=>(try simp only [List.take_zero,List.map_nil,List.nil_append]);exact .cons (.there .here) (.cons (.there .here) .nil)
  · obtain rfl:j = 3:=by omega
    (refine s_r ?_;refine tr_val (rk_lss (.of rfl) (.of rfl)) rfl ?_;refine n_t ?_;refine tr_seq ?_;refine c_d rfl (fun _=>by omega) (fun hcd=>?_);refine x_t ?_;refine tr_then_exit ?_;refine tr_blk_exit ?_;refine tr_then ?_;refine s_r ?_;refine tr_val (rk_buildL .nil norm_) rfl ?_;refine tr_store (.of rfl) (.of rfl) .here rfl rfl (okc_cons rfl (okc_cons rfl (okc_cons rfl okc_nil))) (lenb rfl) norm_ ?_;refine a_s rfl rfl ?_;refine n_t ?_;refine tr_ret ?_;refine tr_retE rfl (endsCT rfl inferInstance rfl .here norm_ (by rfl) (by rfl)) ?_)
    have h0:=h0 (by omega);have h1:=h1 (by omega);have h2:=h2 (by omega)
    simp [kindL,kindB,h0,h1,h2]
theorem follows_c (kd:ByteArray) (t:Int) (w:World) (hg:Glob w):GivesV Tryz.prog 80 [.agg #[.string kd,.int .i64 t]] w (.bool (decide (kd = sFol) && (decide (t = 0) && true))):=by
  obtain ⟨g0,g1,g2⟩:=hg
  refine givesV_of_tr Tryz.func80 rfl rfl ?_
  (refine s_r ?_;refine tr_new (rk_box (.of rfl) rfl) rfl (fun _ _=>?_);refine a_s rfl rfl ?_;refine n_r ?_;refine tr_val (rk_loadB (.of rfl) .here norm_ (by rfl)) rfl ?_;refine tr_val (rk_indexAddrA (.of rfl) (.of rfl) (by omega) (by omega) norm1_) rfl ?_;refine tr_val (rk_load1 (.of rfl) (At.base g1 rfl)) rfl ?_;refine tr_val (rk_buildL (.cons (.of rfl) .nil) norm_) rfl ?_;refine tr_val (rk_eqlA (.of rfl) (.of rfl) (okL_string (okL_int okL_nil)) rfl) rfl ?_;refine a_s rfl rfl ?_;refine n_t ?_;refine tr_ret ?_;refine tr_retE rfl (ends1 rfl rfl) ?_)
  rfl
def mostK (kd:ByteArray):Int:=if kd = sFix then 10000000 else if kd = sFol then 0 else if kd = sMan then 10000000 else 0
theorem kindL_form (kd:ByteArray):∃ x z,kindL kd = [.string x,.int .i64 (mostK kd),z] ∧ z.oneCell' = true:=by
  unfold kindL mostK
  by_cases h0:kd = sFix
  · simp only [h0,if_true];exact ⟨_,_,rfl,rfl⟩
  by_cases h1:kd = sFol
  · simp only [h1,sFix_ne_sFol,fun e:sFol = sFix=>sFix_ne_sFol e.symm,if_false,if_true];exact ⟨_,_,rfl,rfl⟩
  by_cases h2:kd = sMan
  · simp only [h0,h1,h2,if_false,if_true];simp only [h2] at h0 h1;simp only [h0,h1,if_false];exact ⟨_,_,rfl,rfl⟩
  simp only [h0,h1,h2,if_false];exact ⟨_,_,rfl,rfl⟩
theorem startK (kd:ByteArray) (t:Int):firstF [whenF (!kindB kd) 13,withinF t 0 (mostK kd)] = startF kd t:=by
  unfold startF
  by_cases h:kindB kd = true
  · have:mostK kd = mostF kd:=by
      simp only [kindB,Bool.or_eq_true,decide_eq_true_eq] at h
      unfold mostK mostF
      rcases h with (h | h) | h
      · rw [if_pos h,if_neg (by rw [h];exact sFix_ne_sFol)]
      · rw [if_neg (by rw [h];exact fun e=>sFix_ne_sFol e.symm),if_pos h,if_pos h]
      · rw [if_neg (by rw [h];exact fun e=>sFix_ne_sMan e.symm),if_neg (by rw [h];exact sMan_ne_sFol),if_pos h,if_neg (by rw [h];exact sMan_ne_sFol)]
    rw [this]
  · have:kindB kd = false:=by simpa using h
    simp [this,whenF,firstF]
theorem startC_c (kd:ByteArray) (t:Int) (w:World) (hg:Glob w):GivesV Tryz.prog 98 [.agg #[.string kd,.int .i64 t]] w (.int .i64 (startF kd t)):=by
  obtain ⟨x,z,hk,hz⟩:=kindL_form kd
  have hkc:∀ w',Keeps [] w w' → GivesV Tryz.prog 100 [.agg #[.string kd,.int .i64 t]] w' (.tuple #[.agg #[.string x,.int .i64 (mostK kd),z],.bool (kindB kd)]):=fun w' hk'=>by
    have:=kind_c kd t w' (hg.keeps hk')
    rwa [hk] at this
  rw [← startK]
  refine givesV_of_tr Tryz.func98 rfl rfl ?_
  (refine s_r ?_;refine tr_new (rk_box (.of rfl) rfl) rfl (fun _ _=>?_);refine a_s rfl rfl ?_;refine n_r ?_;refine tr_val (rk_loadB (.of rfl) .here norm_ (by rfl)) rfl ?_;refine tr_callV (rk_call (.of rfl) (.cons (.of rfl) .nil) inferInstance normc_) rfl (fun w' hm'=>(hkc w' (Mem.keeps hm'))) ?_;refine m_v rfl rfl ?_;refine tr_val (rk_extract (.of rfl) rfl) rfl ?_;refine tr_val (rk_extract (.of rfl) rfl) rfl ?_;refine tr_new (rk_alloc rfl) rfl (fun _ _=>?_);refine tr_store (.of rfl) (.of rfl) .here rfl rfl (okc_cons rfl (okc_cons rfl (okc_cons hz okc_nil))) (lenb rfl) norm_ ?_;refine a_s rfl rfl ?_;refine n_t ?_;refine tr_seq ?_)
  with_reducible refine tr_draw 8 (by kernel_rfl) ?_
  (refine a_m rfl rfl ?_;refine any_val (rk_not (.of rfl)) rfl ?_;refine any_call (rk_call (.of rfl) (.cons (.of rfl) (.cons (.of rfl) .nil)) inferInstance normc_) rfl (fun w' hm'=>(when9_c _ 13 w')) ?_;refine a_f rfl rfl norm0_ ?_;refine any_val (rk_load1 (.of rfl) (At.lit (.there .here) rfl)) rfl ?_;refine a_f rfl rfl norm0_ ?_;refine any_val (rk_load1 (.of rfl) (At.lit .here rfl)) rfl ?_;refine any_call (rk_call (.of rfl) (.cons (.of rfl) (.cons (.of rfl) (.cons (.of rfl) .nil))) inferInstance normc_) rfl (fun w' hm'=>(within9_c t 0 _ w')) ?_)
  with_reducible refine any_end ?_
  (refine tr_new (rk_sliceLit (.cons (.of rfl) (.cons (.of rfl) .nil)) rfl rfl rfl rfl) rfl (fun _ _=>?_);refine tr_callV (rk_call (.of rfl) (.cons (.of rfl) .nil) inferInstance normc_) rfl (fun w' hm'=>(first_pB9 (Mem.rdBlk hm' .here rfl rfl) (IntL.cons (IntL.cons IntL.nil)))) ?_;refine a_s rfl rfl ?_;refine n_t ?_;refine tr_ret ?_;refine tr_retE rfl (ends1 rfl rfl) ?_)
  rfl
def En.cells (e:En):List Value:=[.string e.nm,.string e.mt,.string e.kd,.int .i64 e.tm,.int .i64 e.ln,.int .i64 e.ov]
theorem entC_c (e:En) (w:World) (hg:Glob w):GivesV Tryz.prog 79 [.agg e.cells.toArray] w (.int .i64 (entF e)):=by
  unfold En.cells
  refine givesV_of_tr Tryz.func79 rfl rfl ?_
  (refine s_r ?_;refine tr_new (rk_box (.of rfl) rfl) rfl (fun _ _=>?_);refine a_s rfl rfl ?_;refine n_t ?_;refine tr_seq ?_)
  with_reducible refine tr_draw 21 (by kernel_rfl) ?_
  (refine a_f rfl rfl norm0_ ?_;refine any_val (rk_load1 (.of rfl) (At.lit .here rfl)) rfl ?_;refine any_call (rk_call (.of rfl) (.cons (.of rfl) .nil) inferInstance normc_) rfl (fun w' hm'=>(nm_p _ w')) ?_;refine a_f rfl rfl norm0_ ?_;refine any_val (rk_load1 (.of rfl) (At.lit .here rfl)) rfl ?_;refine any_call (rk_call (.of rfl) (.cons (.of rfl) .nil) inferInstance normc_) rfl (fun w' hm'=>(nm_p _ w')) ?_;refine a_f rfl rfl norm0_ ?_;refine any_val (rk_loadB (.of rfl) .here norm_ (by rfl)) rfl ?_;refine any_call (rk_call (.of rfl) (.cons (.of rfl) .nil) inferInstance normc_) rfl (fun w' hm'=>(startC_c _ _ w' (Glob.keeps hg (Mem.keeps hm')))) ?_;refine a_f rfl rfl norm0_ ?_;refine any_val (rk_load1 (.of rfl) (At.lit .here rfl)) rfl ?_;refine any_call (rk_call (.of rfl) (.cons (.of rfl) (.cons (.of rfl) (.cons (.of rfl) .nil))) inferInstance normc_) rfl (fun w' hm'=>(within9_c _ 1 1000000 w')) ?_;refine a_f rfl rfl norm0_ ?_;refine any_val (rk_load1 (.of rfl) (At.lit .here rfl)) rfl ?_;refine any_call (rk_call (.of rfl) (.cons (.of rfl) (.cons (.of rfl) (.cons (.of rfl) .nil))) inferInstance normc_) rfl (fun w' hm'=>(within9_c _ 0 250 w')) ?_;refine a_f rfl rfl norm0_ ?_;refine any_val (rk_load1 (.of rfl) (At.lit .here rfl)) rfl ?_;refine a_f rfl rfl norm0_ ?_;refine any_val (rk_load1 (.of rfl) (At.lit .here rfl)) rfl ?_;refine any_val (rk_geq (.of rfl) (.of rfl)) rfl ?_;refine any_call (rk_call (.of rfl) (.cons (.of rfl) (.cons (.of rfl) .nil)) inferInstance normc_) rfl (fun w' hm'=>(when9_c _ 4 w')) ?_)
  with_reducible refine any_end ?_
  (refine tr_new (rk_sliceLit (.cons (.of rfl) (.cons (.of rfl) (.cons (.of rfl) (.cons (.of rfl) (.cons (.of rfl) (.cons (.of rfl) .nil)))))) rfl rfl rfl rfl) rfl (fun _ _=>?_);refine tr_callV (rk_call (.of rfl) (.cons (.of rfl) .nil) inferInstance normc_) rfl (fun w' hm'=>(first_pB9 (Mem.rdBlk hm' .here rfl rfl) (IntL.cons (IntL.cons (IntL.cons (IntL.cons (IntL.cons (IntL.cons IntL.nil)))))))) ?_;refine a_s rfl rfl ?_;refine n_t ?_;refine tr_ret ?_;refine tr_retE rfl (ends1 rfl rfl) ?_)
  rfl
end Go.Proofs.A1
namespace Go.Proofs.A1
structure Sound (es:List En):Prop where
  all:EsOk es
  dup:∀ k,k < es.length → dup es k = false
  fol:0 < es.length → ¬ (nth es 0).kd = sFol
  bad:∀ k,k < es.length → badAt es k = false
  most:∀ k,k < es.length → to es k ≤ 10000000
theorem Sound.of {es:List En} (h:chkF es = 0):Sound es:=by
  obtain ⟨h1,h2,h3,h4⟩:=chk_ok h
  exact ⟨h1,h2,h3,fun k hk=>(h4 k hk).1,fun k hk=>(h4 k hk).2⟩
theorem Sound.next {es:List En} (h:Sound es) {k:Nat} (hk:k + 1 < es.length):jn es (k + 1) ≤ fr es (k + 1) ∧ fr es k < fr es (k + 1) ∧ to es k < to es (k + 1):=by
  have:=h.bad (k + 1) hk
  unfold badAt at this
  simp only [Nat.add_sub_cancel,Nat.zero_lt_succ,decide_true,Bool.true_and,Bool.or_eq_false_iff,Bool.and_eq_false_iff,decide_eq_false_iff_not,Int.not_lt,Int.not_le] at this
  rw [jn_succ]
  omega
theorem Sound.third {es:List En} (h:Sound es) {k:Nat} (hk:k + 2 < es.length):to es k ≤ fr es (k + 2):=by
  have:=h.bad (k + 2) hk
  unfold badAt at this
  simp only [Nat.add_sub_cancel,Nat.zero_lt_succ,decide_true,Bool.true_and,Bool.or_eq_false_iff,Bool.and_eq_false_iff,decide_eq_false_iff_not,Int.not_lt,Int.not_le] at this
  have h2:(1:Nat) < k + 2:=by omega
  rcases this.1.2 with h | h
  · omega
  · exact h
theorem Sound.fr_lt {es:List En} (h:Sound es) {i:Nat}:∀ {k:Nat},i < k → k < es.length → fr es i < fr es k
  | 0,h1,_=>by omega
  | k + 1, h1, h2 => by
    have:=(h.next h2).2.1
    by_cases e:i = k
    · rw [e];exact this
    · have:=h.fr_lt (i:=i) (k:=k) (by omega) (by omega);omega
theorem Sound.to_lt {es:List En} (h:Sound es) {i:Nat}:∀ {k:Nat},i < k → k < es.length → to es i < to es k
  | 0,h1,_=>by omega
  | k + 1, h1, h2 => by
    have:=(h.next h2).2.2
    by_cases e:i = k
    · rw [e];exact this
    · have:=h.to_lt (i:=i) (k:=k) (by omega) (by omega);omega
theorem Sound.fr_nn {es:List En} (h:Sound es) {k:Nat} (hk:k < es.length):0 ≤ fr es k ∧ fr es k < to es k ∧ to es k ≤ 10000000:=by
  have h1:=fr_in h.all.ok hk
  have h2:=(h.all.ok k hk).ln
  have h3:=h.most k hk
  unfold to at h3 ⊢
  omega
def onB (es:List En) (f:Int) (k:Nat):Bool:=decide (fr es k ≤ f) && decide (f < to es k)
def onL (es:List En) (f:Int) (n:Nat):List Nat:=(List.range n).filter (onB es f)
theorem onL_succ {es:List En} {f:Int} {n:Nat}:onL es f (n + 1) = onL es f n++if onB es f n then [n] else []:=by
  unfold onL
  rw [List.range_succ,List.filter_append]
  congr 1
  cases h:onB es f n <;> simp [h]
theorem Sound.two {es:List En} (h:Sound es) {f:Int} {i k:Nat} (hik:i < k) (hk:k < es.length) (hi:onB es f i = true) (hk':onB es f k = true):k = i + 1:=by
  simp only [onB,Bool.and_eq_true,decide_eq_true_eq] at hi hk'
  apply Classical.byContradiction
  intro hne
  have h2:i + 2 ≤ k:=by omega
  have h3:=h.third (k:=i) (by omega)
  by_cases e:i + 2 = k
  · rw [e] at h3;omega
  · have:=h.fr_lt (i:=i + 2) (k:=k) (by omega) hk
    omega
theorem Sound.onL {es:List En} (h:Sound es) (f:Int):∀ n,n ≤ es.length → onL es f n = [] ∨ (∃ i,i < n ∧ onB es f i = true ∧ onL es f n = [i]) ∨ ∃ i,i + 1 < n ∧ onB es f i = true ∧ onB es f (i + 1) = true ∧ onL es f n = [i,i + 1]
  | 0,_=>.inl rfl
  | n + 1, hn => by
    rw [onL_succ]
    cases hb:onB es f n with
    | false =>
      simp only [Bool.false_eq_true,if_false,List.append_nil]
      rcases h.onL f n (by omega) with e | ⟨i,h1,h2,e⟩ | ⟨i,h1,h2,h3,e⟩
      · exact .inl e
      · exact .inr (.inl ⟨i,by omega,h2,e⟩)
      · exact .inr (.inr ⟨i,by omega,h2,h3,e⟩)
    | true =>
      simp only [if_true]
      rcases h.onL f n (by omega) with e | ⟨i,h1,h2,e⟩ | ⟨i,h1,h2,h3,e⟩
      · rw [e];exact .inr (.inl ⟨n,by omega,hb,rfl⟩)
      · rw [e]
        have:=h.two h1 (by omega) h2 hb
        subst this
        exact .inr (.inr ⟨i,by omega,h2,hb,rfl⟩)
      · have h4:=h.two (by omega:i < n) (by omega) h2 hb
        omega
def gcdF (a b:Int):Int:=(Nat.gcd a.toNat b.toNat:Nat)
theorem gcdF_step {a b:Int} (ha:0 ≤ a) (hb:0 < b):gcdF b (a % b) = gcdF a b:=by
  obtain ⟨m,rfl⟩:=Int.eq_ofNat_of_zero_le ha
  obtain ⟨n,rfl⟩:=Int.eq_ofNat_of_zero_le (Int.le_of_lt hb)
  unfold gcdF
  rw [← Int.natCast_emod]
  simp only [Int.toNat_natCast]
  rw [Nat.gcd_comm m n,Nat.gcd_rec n m,Nat.gcd_comm]
theorem gcdF_zero {a:Int} (ha:0 ≤ a):gcdF a 0 = a:=by
  unfold gcdF
  simp
  omega
def lowF (a b:Int):Int × Int:=(a / gcdF a b,b / gcdF a b)
def shF (es:List En) (f:Int):List (Int × Int × Int):=
  match onL es f es.length with
  | []=>[]
  | [i]=>[((i:Int),1,1)]
  | i :: k :: _=>[((i:Int),lowF (to es i - fr es k - (f - fr es k)) (to es i - fr es k + 1)),((k:Int),lowF (f - fr es k + 1) (to es i - fr es k + 1))]
def gpL (es:List En):Nat → List (Int × Int × Int)
  | 0=>[]
  | n + 1=>gpL es n++if 0 < n ∧ to es (n - 1) < fr es n then [((n:Int) - 1,to es (n - 1),fr es n)] else []
end Go.Proofs.A1
namespace Go.Proofs.A1
open Go Go.SL
def ensL (es:List En):List (List Value):=es.map En.cells
theorem ensL_length (es:List En):(ensL es).length = es.length:=by simp [ensL]
theorem ensL_get {es:List En} {k:Nat} (h:k < es.length):(ensL es)[k]? = some (nth es k).cells:=by simp [ensL,h,nth_eq h]
theorem ensL_ne {es:List En} {k:Nat} (h:k < es.length):ensL es ≠ []:=by intro e;have:=congrArg List.length e;rw [ensL_length] at this;simp at this;subst this;simp at h
theorem Glob.keepsN {md:List Nat} {w w':World} (h:Glob w) (hn:0 ∉ md) (hk:Keeps md w w'):Glob w':=by
  have hb:=World.block_lt_of_cell? w ⟨0,0,none⟩ h.n0
  have:=hk.block 0 hb hn
  exact ⟨by rw [← h.n0];simp [World.cell?,this],by rw [← h.n1];simp [World.cell?,this],by rw [← h.n2];simp [World.cell?,this]⟩
theorem Glob.out {md fp:List Nat} {w0:World} (h:Glob w0) (hn:0 ∉ md) (hF:∀ b ∈ fp,b ∈ md ∨ w0.heap.size ≤ b):0 ∉ fp:=fun h0=>by
  have hb:=World.block_lt_of_cell? w0 ⟨0,0,none⟩ h.n0
  rcases hF 0 h0 with e | e
  · exact hn e
  · exact absurd hb (by simp;omega)
def plL (es:List En) (k:Nat):List Value:=[.string (nth es k).nm,.string (nth es k).mt,.string (nth es k).kd,.int .i64 (nth es k).tm,.int .i64 (nth es k).ln,.int .i64 (nth es k).ov,.int .i64 (fr es k),.int .i64 (to es k)]
def plcs (es:List En):List (List Value):=(List.range es.length).map fun (k:Nat)=>[.int .i64 k,.agg (plL es k).toArray]
theorem plcs_length (es:List En):(plcs es).length = es.length:=by simp [plcs]
theorem plcs_get {es:List En} {k:Nat} (h:k < es.length):(plcs es)[k]? = some [.int .i64 k,.agg (plL es k).toArray]:=by simp [plcs,h]
theorem entries_c (sv:Value) (w:World) (h1:sv.oneCell' = true) :
    Gives Tryz.prog 81 [.agg #[sv]] w [] (fun _:Nat=>True) (fun x=>.func (.func 99) #[] #[.pointer (some ⟨x,0,none⟩)])
      (fun x=>[blk x (.cells #[sv] 40 (0,0))]):=by
  refine gives_of_tr Tryz.func81 rfl rfl ?_
  (refine s_r ?_;refine tr_new (rk_box (.of rfl) rfl) rfl (fun _ _=>?_);refine a_s rfl rfl ?_;refine n_r ?_;refine tr_val (rk_makeFunc' .nil (.cons (.of rfl) .nil)) rfl ?_;refine a_s rfl rfl ?_;refine n_t ?_;refine tr_ret ?_)
  rename_i b hb
  first | with_reducible apply tr_retM | with_reducible apply tr_endM
  case he=>exact ends1 rfl rfl
  case hR=>
    intro w' hm'
    exact gives_end b trivial (by exact .cons .here .nil) hm' rfl
theorem kd_form {kd:ByteArray} (h:kd = sFix ∨ kd = sFol ∨ kd = sMan):∃ x m f,kindL kd = [.string x,.int .i64 m,.func (.func f) ([]:List Value).toArray ([]:List Value).toArray] ∧ Bod Tryz.prog f ∧ ∀ a j w,GivesV Tryz.prog f [.int .i64 a,.int .i64 j] w (.int .i64 (frm kd a j)):=by
  rcases h with h | h | h
  · subst h
    refine ⟨sFix,10000000,135,by rw [kindL,if_pos rfl],inferInstance,fun a j w=>?_⟩
    have e:frm sFix a j = a:=by rw [frm,if_neg sFix_ne_sFol,if_neg sFix_ne_sMan]
    rw [e];exact k1_c a j w
  · subst h
    refine ⟨sFol,0,136,by rw [kindL,if_neg (fun e=>sFix_ne_sFol e.symm),if_pos rfl],inferInstance,fun a j w=>?_⟩
    have e:frm sFol a j = j:=by rw [frm,if_pos rfl]
    rw [e];exact k2_c a j w
  · subst h
    refine ⟨sMan,10000000,137,by rw [kindL,if_neg (fun e=>sFix_ne_sMan e.symm),if_neg sMan_ne_sFol,if_pos rfl],inferInstance,fun a j w=>?_⟩
    have e:frm sMan a j = max a j:=by rw [frm,if_neg sMan_ne_sFol,if_pos rfl]
    rw [e];exact k3_c a j w
theorem iter_c {b1:Nat} {sv:Value} {es:List En} {w0 w:World} {md:List Nat} (h1:Rd w0 sv 6 (ensL es)) (hok:∀ k,k < es.length → EnOk (nth es k)) (hfew:es.length ≤ 24) (hg:Glob w0) (hmd:0 ∉ md) (o1:Out md sv (ensL es)) :
    Iter Tryz.prog 99 [] [.pointer (some ⟨b1,0,none⟩)] [blk b1 (.cells #[sv] 40 (0,0))] (plcs es) w0 md w:=by
  intro l fp J E hB hF hn hs hy
  have hrd1:=h1.keepsN o1 hB
  have ho1:=h1.out (by omega) o1 hF
  have hg1:=hg.keepsN hmd hB
  have hg0:=hg.out hmd hF
  rw [plcs_length]
  obtain ⟨a,cap,b,o,rfl,hcap,hmax,ha,hc⟩:=hrd1
  rw [ensL_length] at *
  unfold maxLen at hmax
  refine givesM_of_tr Tryz.func99 rfl rfl hn hs ?_
  (refine s_r ?_;refine a_s rfl rfl ?_;refine n_r ?_;refine f_a rfl rfl norm0_ ?_;refine tr_val (rk_load1 (.of rfl) (At.lit (.there .here) rfl)) rfl ?_;refine tr_val (rk_len_slice (.of rfl)) rfl ?_;refine m_v rfl rfl ?_;refine n_t ?_;refine tr_block ?_)
  refine tr_for (fun k:Nat=>k ≤ es.length) (fun k=>[(13,.int .i64 k),(12,.int .i64 es.length),(11,.slice a es.length cap),(3,.int .i64 (jn es k)),(0,.func (.yield l) #[] #[]),(1,.pointer (some ⟨b1,0,none⟩))])
    (fun k=>[J k,blk b1 (.cells #[.slice a es.length cap] 40 (0,0))]) (fun k=>es.length - k) ?_ ?_
  · apply tr_start 0 (by omega)
    case hs1=>exact .cons rfl (.cons rfl (.cons rfl (.cons rfl (.cons rfl (.cons rfl .nil)))))
    case ht=>exact .cons .here (.cons .here .nil)
  intro k hk
  by_cases hlt:k < es.length
  · have ha':=ha (ensL_ne hlt)
    have hcell:=(hc k _ (ensL_get hlt)).2
    have hnb:=ho1.not_mem (ensL_ne hlt) ha'
    have ho:=hok k hlt
    have hb1:=jn_in hok k (by omega)
    have hb2:=fr_in hok hlt
    have hln:=ho.ln
    have hov:=ho.ov
    obtain ⟨x,m,f,hkl,hB',hfr⟩:=kd_form ho.kd
    have hkc:∀ w',Keeps fp w w' → GivesV Tryz.prog 100 [.agg #[.string (nth es k).kd,.int .i64 (nth es k).tm]] w' (.tuple #[.agg #[.string x,.int .i64 m,.func (.func f) ([]:List Value).toArray ([]:List Value).toArray],.bool (kindB (nth es k).kd)]):=fun w' hk'=>by
      have:=kind_c (nth es k).kd (nth es k).tm w' (hg1.keepsN hg0 hk')
      rwa [hkl] at this
    have hyk:=hy k _ (plcs_get hlt)
    have hfr':∀ w,GivesV Tryz.prog f [.int .i64 (nth es k).tm,.int .i64 (jn es k)] w (.int .i64 (fr es k)):=fun w=>hfr _ _ w
    unfold En.cells at hcell
    (refine s_r ?_;refine tr_val (rk_lss (.of rfl) (.of rfl)) rfl ?_;refine n_t ?_;refine tr_seq ?_;refine c_d rfl (fun hcd=>?_) (fun _=>by omega);refine s_t ?_;refine tr_seq ?_;refine tr_block ?_;refine s_r ?_;refine m_v rfl rfl ?_;refine tr_val (rk_indexAddr (.of rfl) (.of rfl) ha' (by omega) hcd norm1_) rfl ?_;refine tr_val (rk_loadN (.of rfl) (Ats.baseN hcell hnb) rfl) rfl ?_;refine tr_new (rk_alloc rfl) rfl (fun _ _=>?_);refine a_s rfl rfl ?_;refine tr_store (.of rfl) (.of rfl) .here rfl rfl (okc_cons rfl (okc_cons rfl (okc_cons rfl (okc_cons rfl (okc_cons rfl (okc_cons rfl okc_nil)))))) (lenb rfl) norm_ ?_;refine n_r ?_;refine f_a rfl rfl norm0_ ?_;refine tr_val (rk_loadB (.of rfl) .here norm_ (by rfl)) rfl ?_;refine tr_callV (rk_call (.of rfl) (.cons (.of rfl) .nil) inferInstance normc_) rfl (fun w' hm'=>(hkc w' (Mem.keeps hm'))) ?_;refine m_v rfl rfl ?_;refine tr_val (rk_extract (.of rfl) rfl) rfl ?_;refine tr_val (rk_extract (.of rfl) rfl) rfl ?_;refine tr_new (rk_alloc rfl) rfl (fun _ _=>?_);refine tr_store (.of rfl) (.of rfl) .here rfl rfl (okc_cons rfl (okc_cons rfl (okc_cons rfl okc_nil))) (lenb rfl) norm_ ?_;refine a_s rfl rfl ?_;refine n_r ?_;refine f_a rfl rfl norm0_ ?_;refine tr_val (rk_load1 (.of rfl) (At.lit .here rfl)) rfl ?_;refine f_a rfl rfl norm0_ ?_;refine f_a rfl rfl norm0_ ?_;refine tr_val (rk_load1 (.of rfl) (At.lit (.there .here) rfl)) rfl ?_;refine m_v rfl rfl ?_;refine tr_callV (rk_call (.of rfl) (.cons (.of rfl) (.cons (.of rfl) .nil)) inferInstance normc_) rfl (fun w' hm'=>(hfr' w')) ?_;refine a_s rfl rfl ?_;refine n_r ?_;refine tr_val (rk_loadB (.of rfl) (.there .here) norm_ (by rfl)) rfl ?_;refine m_v rfl rfl ?_;refine m_v rfl rfl ?_;refine f_a rfl rfl norm0_ ?_;refine tr_val (rk_load1 (.of rfl) (At.lit (.there .here) rfl)) rfl ?_;refine tr_val (rk_add (.of rfl) (.of rfl) (ini (by omega))) rfl ?_;refine tr_val (rk_buildL (.cons (.of rfl) (.cons (.of rfl) .nil)) norm_) rfl ?_;refine tr_val (rk_buildL (.cons (.of rfl) (.cons (.of rfl) .nil)) norm_) rfl ?_;refine tr_new (rk_alloc rfl) rfl (fun _ _=>?_);refine tr_store (.of rfl) (.of rfl) .here rfl rfl (okc_cons rfl (okc_cons rfl (okc_cons rfl (okc_cons rfl (okc_cons rfl (okc_cons rfl (okc_cons rfl (okc_cons rfl okc_nil)))))))) (lenb rfl) norm_ ?_;refine n_t ?_;refine tr_seq ?_;refine s_r ?_;refine m_v rfl rfl ?_;refine m_v rfl rfl ?_;refine tr_val (rk_loadB (.of rfl) .here norm_ (by rfl)) rfl ?_)
    with_reducible apply tr_yieldB hB hF hyk
    case hx=>exact Is.of rfl
    case ha=>exact .cons (.of rfl) (.cons (.of rfl) .nil)
    case hd=>rfl
    case ht=>exact Take.there (.there (.there .here))
    intro q
    cases q with
    | false =>
      simp only [cond_false]
      (refine tr_val (rk_not (.of rfl)) rfl ?_;refine n_t ?_;refine tr_cond_t (.of rfl) ?_;refine r_t ?_;refine tr_blk_ret ?_;refine tr_then_ret ?_;refine tr_then_ret ?_;refine tr_blk_ret ?_)
      first | with_reducible apply tr_retM | with_reducible apply tr_endM
      case he=>exact ends0 rfl
      case hR=>
        intro w' hm'
        exact gives_end false trivial (show Takes _ [E,_] _ by exact .cons .here (.cons (.there (.there (.there .here))) .nil)) hm' rfl
    | true =>
      simp only [cond_true]
      have hjn:InI (fr es k + (nth es k).ln - (nth es k).ov):=by unfold InI;omega
      (refine tr_val (rk_not (.of rfl)) rfl ?_;refine n_t ?_;refine tr_cond_f (.of rfl) ?_;refine s_t ?_;refine tr_region ?_;refine f_a rfl rfl norm0_ ?_;refine f_a rfl rfl norm0_ ?_;refine tr_val (rk_load1 (.of rfl) (At.lit (.there .here) rfl)) rfl ?_;refine f_a rfl rfl norm0_ ?_;refine f_a rfl rfl norm0_ ?_;refine tr_val (rk_load1 (.of rfl) (At.lit (.there .here) rfl)) rfl ?_;refine tr_val (rk_sub (.of rfl) (.of rfl) hjn) rfl ?_;refine a_s rfl rfl ?_;refine tr_nil ?_;refine tr_blk_normal ?_;refine tr_then ?_;refine tr_region ?_;refine tr_val (rk_add (.of rfl) (.of rfl) (ini (by omega))) rfl ?_;refine m_v rfl rfl ?_;refine n_t ?_)
      apply tr_next (k + 1) (by omega) (by omega)
      case hs1=>exact .cons rfl (.cons rfl (.cons rfl (.cons rfl (.cons rfl (.cons rfl .nil)))))
      case ht=>exact .cons .here (.cons (.there (.there (.there .here))) .nil)
  · obtain rfl:k = es.length:=by omega
    (refine s_r ?_;refine tr_val (rk_lss (.of rfl) (.of rfl)) rfl ?_;refine n_t ?_;refine tr_seq ?_;refine c_d rfl (fun _=>by omega) (fun hcd=>?_);refine x_t ?_;refine tr_then_exit ?_;refine tr_blk_exit ?_)
    first | with_reducible apply tr_retM | with_reducible apply tr_endM
    case he=>exact ends0 rfl
    case hR=>
      intro w' hm'
      exact gives_end true trivial (show Takes _ [J es.length,_] _ by exact .cons .here (.cons .here .nil)) hm' rfl
end Go.Proofs.A1
namespace Go.Proofs.A1
open Go Go.SL
theorem Rd.one {w:World} {v:Value} {sz:Nat} {xs:List (List Value)} (h:Rd w v sz xs):v.oneCell' = true:=by
  obtain ⟨a,cap,b,o,rfl,_⟩:=h;rfl
def plR (es:List En):Nat → List Value
  | 0=>[]
  | k + 1=>plR es k++plL es k
theorem one_pl (es:List En) (k:Nat):∀ u ∈ plL es k,u.oneCell' = true:=by
  unfold plL
  exact okc_cons rfl (okc_cons rfl (okc_cons rfl (okc_cons rfl (okc_cons rfl (okc_cons rfl (okc_cons rfl (okc_cons rfl okc_nil)))))))
theorem spans_c {sv:Value} {es:List En} {w:World} (h1:Rd w sv 6 (ensL es)) (hok:∀ k,k < es.length → EnOk (nth es k)) (hfew:es.length ≤ 24) (hg:Glob w) :
    Gives Tryz.prog 45 [.agg #[sv]] w [] (fun _:Value=>True) id (fun v=>[row 122 8 v es.length (plR es es.length)]):=by
  have hone:=Rd.one h1
  refine gives_of_tr Tryz.func45 rfl rfl ?_
  (refine s_r ?_;refine tr_new (rk_box (.of rfl) rfl) rfl (fun _ _=>?_);refine a_s rfl rfl ?_;refine n_r ?_;refine tr_new (rk_alloc rfl) rfl (fun _ _=>?_);refine n_t ?_;refine tr_seq ?_;refine s_r ?_;refine tr_val (rk_loadB (.of rfl) (.there .here) norm_ (by rfl)) rfl ?_)
  rename_i b1 hb1 b3 hb3
  with_reducible apply tr_call
  case hr=>exact rk_call (.of rfl) (.cons (.of rfl) .nil) inferInstance normc_
  case hd=>rfl
  case ht=>exact Takes.nil
  case hc=>
    intro w1 fp hm1 _ hs1
    obtain rfl:fp = []:=hs1
    exact entries_c _ _ hone
  intro x1 _
  dsimp only [List.cons_append,List.nil_append]
  (refine n_t ?_;refine tr_block ?_)
  refine tr_rowNil 122 8 ?_
  refine tr_rangeSeq (ps:=[8,9]) (f:=99) (first:=[]) (cap:=[.pointer (some ⟨x1,0,none⟩)]) (ι:=Nat × Value) (κ:=Empty) (rst:=[blk b1 (.cells #[sv] 40 (0,0))]) ?hg
    [blk x1 (.cells #[sv] 40 (0,0))] (plcs es) ?hit (fun k x=>x.1 = k)
    (fun x=>[blk b3 (.cells #[x.2] 123 (0,0)),row 122 8 x.2 x.1 (plR es x.1)])
    (fun _=>False) (fun _=>[]) (fun _=>.ret) (0,.slice none 0 0) rfl ?ht ?hlen ?hps ?round ?kn ?kj
  case hg=>exact Is.of rfl
  case hit=>intro w' hm';exact iter_c h1 hok hfew hg (fun h=>by cases h) (Out.nil _ _)
  case ht=>
    show Takes _ [blk b3 (.cells #[.slice none 0 0] 123 (0,0)),row 122 8 (.slice none 0 0) 0 [],_] _
    exact .cons (.there (.there .here)) (.cons .here (.cons .here .nil))
  case hlen=>intro vs hvs;obtain ⟨x,_,rfl⟩:=List.mem_map.1 hvs;rfl
  case hps=>intro t ht;simp only [List.mem_cons,List.not_mem_nil,or_false] at ht;rcases ht with rfl | rfl <;> exact Nat.le_of_ble_eq_true rfl
  case kj=>intro y;cases y
  case kn=>
    rintro ⟨n,v⟩ D hq
    dsimp only [List.cons_append,List.nil_append] at hq ⊢
    rw [plcs_length] at hq
    subst hq
    (refine tr_blk_normal ?_;refine tr_then ?_;refine s_r ?_;refine tr_val (rk_load1 (.of rfl) (At.lit .here rfl)) rfl ?_;refine a_s rfl rfl ?_;refine n_t ?_;refine tr_ret ?_)
    first | with_reducible apply tr_retM | with_reducible apply tr_endM
    case he=>exact ends1 rfl rfl
    case hR=>
      intro w' hm'
      exact gives_end v trivial (show Takes _ [row 122 8 v es.length (plR es es.length)] _ by exact .cons (.there .here) .nil) hm' rfl
  case round=>
    rintro l rc W fp k ⟨n,v⟩ vs hsz hk hq hB hF
    dsimp only at hq
    subst hq
    have hlt:n < es.length:=by have:=(List.getElem?_eq_some_iff.1 hk).1;rwa [plcs_length] at this
    rw [plcs_get hlt,Option.some.injEq] at hk
    subst hk
    have hone':=one_pl es n
    unfold plL at hone' ⊢
    dsimp only [List.zip_cons_cons,List.zip_nil_right,putAll,List.cons_append,List.nil_append]
    (refine tr_region ?_;refine tr_new (rk_alloc rfl) rfl (fun _ _=>?_);refine tr_store (.of rfl) (.of rfl) .here rfl rfl (okc_cons rfl (okc_cons rfl (okc_cons rfl (okc_cons rfl (okc_cons rfl (okc_cons rfl (okc_cons rfl (okc_cons rfl okc_nil)))))))) (lenb rfl) norm_ ?_;refine n_t ?_)
    with_reducible apply tr_begin
    case ht=>exact Take.there .here
    (refine tr_block ?_;refine tr_region ?_;refine tr_val (rk_load1 (.of rfl) (At.lit (.there (.there .here)) rfl)) rfl ?_;refine tr_val (rk_loadB (.of rfl) (.there .here) norm_ (by rfl)) rfl ?_;refine tr_new (rk_sliceLitN (.cons (.of rfl) .nil) rfl rfl normp_ normp_ norm_) rfl (fun _ _=>?_))
    refine tr_appendB (.of rfl) (.of rfl) (.there (.there (.there (.there .here)))) .here norm_ (by rfl) (okc_cons rfl (okc_cons rfl (okc_cons rfl (okc_cons rfl (okc_cons rfl (okc_cons rfl (okc_cons rfl (okc_cons rfl okc_nil)))))))) (by rfl) (by rfl) (by rfl) lenx_ (by rfl) ?_
    intro v'
    refine tr_rowSl (by exact .here) fun a' cap' e=>?_
    subst e
    (refine tr_store (.of rfl) (.of rfl) (.there (.there (.there (.there .here)))) rfl rfl (okc_cons rfl okc_nil) (lenb rfl) norm_ ?_;refine tr_nil ?_;refine tr_blk_normal ?_)
    apply tr_seqN (n + 1,.slice a' (n + 1) cap')
    case ht=>exact Take.there (.there (.there .here))
    case hx=>rfl
    case h2=>
      show Takes _ [blk b3 (.cells #[.slice a' (n + 1) cap'] 123 (0,0)),row 122 8 (.slice a' (n + 1) cap') (n + 1) (plR es n++plL es n)] _
      unfold plL
      exact .cons .here (.cons .here .nil)
end Go.Proofs.A1
