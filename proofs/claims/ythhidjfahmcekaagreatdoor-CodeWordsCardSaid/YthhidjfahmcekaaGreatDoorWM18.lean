/- Parts of the proof: U33. -/
import Derived.Test.YthhidjfahmcekaaGreatDoorWM17
import Derived.Test.YthhidjfahmcekaaGreatDoorWM06
set_option linter.unusedSectionVars false
set_option linter.unusedVariables false
set_option linter.unusedSimpArgs false
namespace Go.Proofs.A1
open Go Go.SL
theorem stmQ_c (s:Stm) (w:World):GivesV Tryz.prog 37 [.agg s.cells.toArray] w (.int .i64 (stmE s)):=by
  have hlq:∀ w',GivesV Tryz.prog 22 [.agg #[.int .i64 s.ra.fr,.bool s.ra.dr],.agg #[.int .i64 s.la.h,.int .i64 s.la.m,.int .i64 s.la.s,.int .i64 s.la.f]] w' (.int .i64 (lblE s.ra s.la)):=fun w'=>lblQ_c s.ra s.la w'
  unfold Stm.cells
  refine givesV_of_tr Tryz.func37 rfl rfl ?_
  (refine s_r ?_;refine tr_new (rk_box (.of rfl) rfl) rfl (fun _ _=>?_);refine a_s rfl rfl ?_;refine n_t ?_;refine tr_seq ?_)
  with_reducible refine tr_draw 8 (by kernel_rfl) ?_
  (refine a_f rfl rfl norm0_ ?_;refine any_val (rk_loadB (.of rfl) .here norm_ (by rfl)) rfl ?_;refine a_f rfl rfl norm0_ ?_;refine any_val (rk_loadB (.of rfl) .here norm_ (by rfl)) rfl ?_;refine any_call (rk_call (.of rfl) (.cons (.of rfl) (.cons (.of rfl) .nil)) inferInstance normc_) rfl (fun w' hm'=>(hlq w')) ?_;refine a_f rfl rfl norm0_ ?_;refine any_val (rk_load1 (.of rfl) (At.lit .here rfl)) rfl ?_;refine any_call (rk_call (.of rfl) (.cons (.of rfl) (.cons (.of rfl) (.cons (.of rfl) .nil))) inferInstance normc_) rfl (fun w' hm'=>(range_q _ 0 65535 w')) ?_)
  with_reducible refine any_end ?_
  (refine tr_new (rk_sliceLit (.cons (.of rfl) (.cons (.of rfl) .nil)) rfl rfl rfl rfl) rfl (fun _ _=>?_);refine tr_callV (rk_call (.of rfl) (.cons (.of rfl) .nil) inferInstance normc_) rfl (fun w' hm'=>(first_qB (Mem.rdBlk hm' .here rfl rfl) (IntL.cons (IntL.cons IntL.nil)))) ?_;refine a_s rfl rfl ?_;refine n_t ?_;refine tr_ret ?_;refine tr_retE rfl (ends1 rfl rfl) ?_)
  rfl
theorem parQ_c (a0 a1 a2 a3 a4 a5 a6 a7 a8 a9:Int) (w:World):GivesV Tryz.prog 115 [.agg #[.int .u8 a0,.int .u8 a1,.int .u8 a2,.int .u8 a3,.int .u8 a4,.int .u8 a5,.int .u8 a6,.int .u8 a7,.int .u8 a8,.int .u8 a9]] w (.int .u8 (parF [a0,a1,a2,a3,a4,a5,a6])):=by
  refine givesV_of_tr Tryz.func115 rfl rfl ?_
  (refine s_r ?_;refine tr_new (rk_box (.of rfl) rfl) rfl (fun _ _=>?_);refine a_s rfl rfl ?_;refine n_r ?_;refine a_s rfl rfl ?_;refine n_t ?_;refine tr_seq ?_;refine s_r ?_;refine a_s rfl rfl ?_;refine n_t ?_;refine tr_block ?_)
  rename_i b1 hb1
  refine tr_for (fun k:Nat=>k ≤ 7) (fun k=>[(4,.int .i64 k),(3,.int .u8 (parF ([a0,a1,a2,a3,a4,a5,a6].take k))),(1,.pointer (some ⟨b1,0,none⟩))]) (fun k=>[blk b1 (.cells #[.int .u8 a0,.int .u8 a1,.int .u8 a2,.int .u8 a3,.int .u8 a4,.int .u8 a5,.int .u8 a6,.int .u8 a7,.int .u8 a8,.int .u8 a9] 51 (0,0))]) (fun k=>7 - k) ?_ ?_
  · apply tr_start 0 (show (0:Nat) ≤ 7 by omega)
    case hs1=>exact .cons rfl (.cons rfl (.cons rfl .nil))
    case ht=>(try simp only [List.take_zero,List.map_nil,List.nil_append]);exact .cons .here .nil
  intro k hk
  by_cases hlt:k < 7
  · obtain rfl | rfl | rfl | rfl | rfl | rfl | rfl:k = 0 ∨ k = 1 ∨ k = 2 ∨ k = 3 ∨ k = 4 ∨ k = 5 ∨ k = 6:=by omega
    · show Tr _ [] [(4,.int .i64 0),(3,.int .u8 (parF [])),(1,.pointer (some ⟨b1,0,none⟩))] [blk b1 (.cells #[.int .u8 a0,.int .u8 a1,.int .u8 a2,.int .u8 a3,.int .u8 a4,.int .u8 a5,.int .u8 a6,.int .u8 a7,.int .u8 a8,.int .u8 a9] 51 (0,0))] _
      (refine tr_seq ?_;refine s_r ?_;refine m_v rfl rfl ?_;refine tr_val (rk_lss (.of rfl) (.of rfl)) rfl ?_;refine n_t ?_;refine c_d rfl (fun hcd=>?_) (fun _=>by omega);refine s_t ?_;refine tr_seq ?_;refine tr_block ?_;refine tr_region ?_;refine m_v rfl rfl ?_;refine m_v rfl rfl ?_;refine tr_val (rk_indexAddrA (.of rfl) (.of rfl) (by omega) (by omega) norm1_) rfl ?_;refine tr_val (rk_load1 (.of rfl) (At.lit .here rfl)) rfl ?_;refine tr_val (rk_xor8 (.of rfl) (.of rfl)) rfl ?_;refine a_s rfl rfl ?_;refine tr_nil ?_;refine tr_blk_normal ?_;refine tr_then ?_;refine tr_region ?_;refine m_v rfl rfl ?_;refine tr_val (rk_add (.of rfl) (.of rfl) (ini (by omega))) rfl ?_;refine a_s rfl rfl ?_;refine n_t ?_)
      apply tr_next (Φ:=fun k:Nat=>k ≤ 7) 1 (show 1 ≤ 7 from of_decide_eq_true rfl) (by show 7 - 1 < 7 - 0;omega)
      case hs1=>exact .cons rfl (.cons rfl (.cons rfl .nil))
      case ht=>exact .cons .here .nil
    · show Tr _ [] [(4,.int .i64 1),(3,.int .u8 (parF [a0])),(1,.pointer (some ⟨b1,0,none⟩))] [blk b1 (.cells #[.int .u8 a0,.int .u8 a1,.int .u8 a2,.int .u8 a3,.int .u8 a4,.int .u8 a5,.int .u8 a6,.int .u8 a7,.int .u8 a8,.int .u8 a9] 51 (0,0))] _
      (refine tr_seq ?_;refine s_r ?_;refine m_v rfl rfl ?_;refine tr_val (rk_lss (.of rfl) (.of rfl)) rfl ?_;refine n_t ?_;refine c_d rfl (fun hcd=>?_) (fun _=>by omega);refine s_t ?_;refine tr_seq ?_;refine tr_block ?_;refine tr_region ?_;refine m_v rfl rfl ?_;refine m_v rfl rfl ?_;refine tr_val (rk_indexAddrA (.of rfl) (.of rfl) (by omega) (by omega) norm1_) rfl ?_;refine tr_val (rk_load1 (.of rfl) (At.lit .here rfl)) rfl ?_;refine tr_val (rk_xor8 (.of rfl) (.of rfl)) rfl ?_;refine a_s rfl rfl ?_;refine tr_nil ?_;refine tr_blk_normal ?_;refine tr_then ?_;refine tr_region ?_;refine m_v rfl rfl ?_;refine tr_val (rk_add (.of rfl) (.of rfl) (ini (by omega))) rfl ?_;refine a_s rfl rfl ?_;refine n_t ?_)
      apply tr_next (Φ:=fun k:Nat=>k ≤ 7) 2 (show 2 ≤ 7 from of_decide_eq_true rfl) (by show 7 - 2 < 7 - 1;omega)
      case hs1=>exact .cons rfl (.cons rfl (.cons rfl .nil))
      case ht=>exact .cons .here .nil
    · show Tr _ [] [(4,.int .i64 2),(3,.int .u8 (parF [a0,a1])),(1,.pointer (some ⟨b1,0,none⟩))] [blk b1 (.cells #[.int .u8 a0,.int .u8 a1,.int .u8 a2,.int .u8 a3,.int .u8 a4,.int .u8 a5,.int .u8 a6,.int .u8 a7,.int .u8 a8,.int .u8 a9] 51 (0,0))] _
      (refine tr_seq ?_;refine s_r ?_;refine m_v rfl rfl ?_;refine tr_val (rk_lss (.of rfl) (.of rfl)) rfl ?_;refine n_t ?_;refine c_d rfl (fun hcd=>?_) (fun _=>by omega);refine s_t ?_;refine tr_seq ?_;refine tr_block ?_;refine tr_region ?_;refine m_v rfl rfl ?_;refine m_v rfl rfl ?_;refine tr_val (rk_indexAddrA (.of rfl) (.of rfl) (by omega) (by omega) norm1_) rfl ?_;refine tr_val (rk_load1 (.of rfl) (At.lit .here rfl)) rfl ?_;refine tr_val (rk_xor8 (.of rfl) (.of rfl)) rfl ?_;refine a_s rfl rfl ?_;refine tr_nil ?_;refine tr_blk_normal ?_;refine tr_then ?_;refine tr_region ?_;refine m_v rfl rfl ?_;refine tr_val (rk_add (.of rfl) (.of rfl) (ini (by omega))) rfl ?_;refine a_s rfl rfl ?_;refine n_t ?_)
      apply tr_next (Φ:=fun k:Nat=>k ≤ 7) 3 (show 3 ≤ 7 from of_decide_eq_true rfl) (by show 7 - 3 < 7 - 2;omega)
      case hs1=>exact .cons rfl (.cons rfl (.cons rfl .nil))
      case ht=>exact .cons .here .nil
    · show Tr _ [] [(4,.int .i64 3),(3,.int .u8 (parF [a0,a1,a2])),(1,.pointer (some ⟨b1,0,none⟩))] [blk b1 (.cells #[.int .u8 a0,.int .u8 a1,.int .u8 a2,.int .u8 a3,.int .u8 a4,.int .u8 a5,.int .u8 a6,.int .u8 a7,.int .u8 a8,.int .u8 a9] 51 (0,0))] _
      (refine tr_seq ?_;refine s_r ?_;refine m_v rfl rfl ?_;refine tr_val (rk_lss (.of rfl) (.of rfl)) rfl ?_;refine n_t ?_;refine c_d rfl (fun hcd=>?_) (fun _=>by omega);refine s_t ?_;refine tr_seq ?_;refine tr_block ?_;refine tr_region ?_;refine m_v rfl rfl ?_;refine m_v rfl rfl ?_;refine tr_val (rk_indexAddrA (.of rfl) (.of rfl) (by omega) (by omega) norm1_) rfl ?_;refine tr_val (rk_load1 (.of rfl) (At.lit .here rfl)) rfl ?_;refine tr_val (rk_xor8 (.of rfl) (.of rfl)) rfl ?_;refine a_s rfl rfl ?_;refine tr_nil ?_;refine tr_blk_normal ?_;refine tr_then ?_;refine tr_region ?_;refine m_v rfl rfl ?_;refine tr_val (rk_add (.of rfl) (.of rfl) (ini (by omega))) rfl ?_;refine a_s rfl rfl ?_;refine n_t ?_)
      apply tr_next (Φ:=fun k:Nat=>k ≤ 7) 4 (show 4 ≤ 7 from of_decide_eq_true rfl) (by show 7 - 4 < 7 - 3;omega)
      case hs1=>exact .cons rfl (.cons rfl (.cons rfl .nil))
      case ht=>exact .cons .here .nil
    · show Tr _ [] [(4,.int .i64 4),(3,.int .u8 (parF [a0,a1,a2,a3])),(1,.pointer (some ⟨b1,0,none⟩))] [blk b1 (.cells #[.int .u8 a0,.int .u8 a1,.int .u8 a2,.int .u8 a3,.int .u8 a4,.int .u8 a5,.int .u8 a6,.int .u8 a7,.int .u8 a8,.int .u8 a9] 51 (0,0))] _
      (refine tr_seq ?_;refine s_r ?_;refine m_v rfl rfl ?_;refine tr_val (rk_lss (.of rfl) (.of rfl)) rfl ?_;refine n_t ?_;refine c_d rfl (fun hcd=>?_) (fun _=>by omega);refine s_t ?_;refine tr_seq ?_;refine tr_block ?_;refine tr_region ?_;refine m_v rfl rfl ?_;refine m_v rfl rfl ?_;refine tr_val (rk_indexAddrA (.of rfl) (.of rfl) (by omega) (by omega) norm1_) rfl ?_;refine tr_val (rk_load1 (.of rfl) (At.lit .here rfl)) rfl ?_;refine tr_val (rk_xor8 (.of rfl) (.of rfl)) rfl ?_;refine a_s rfl rfl ?_;refine tr_nil ?_;refine tr_blk_normal ?_;refine tr_then ?_;refine tr_region ?_;refine m_v rfl rfl ?_;refine tr_val (rk_add (.of rfl) (.of rfl) (ini (by omega))) rfl ?_;refine a_s rfl rfl ?_;refine n_t ?_)
      apply tr_next (Φ:=fun k:Nat=>k ≤ 7) 5 (show 5 ≤ 7 from of_decide_eq_true rfl) (by show 7 - 5 < 7 - 4;omega)
      case hs1=>exact .cons rfl (.cons rfl (.cons rfl .nil))
      case ht=>exact .cons .here .nil
    · show Tr _ [] [(4,.int .i64 5),(3,.int .u8 (parF [a0,a1,a2,a3,a4])),(1,.pointer (some ⟨b1,0,none⟩))] [blk b1 (.cells #[.int .u8 a0,.int .u8 a1,.int .u8 a2,.int .u8 a3,.int .u8 a4,.int .u8 a5,.int .u8 a6,.int .u8 a7,.int .u8 a8,.int .u8 a9] 51 (0,0))] _
      (refine tr_seq ?_;refine s_r ?_;refine m_v rfl rfl ?_;refine tr_val (rk_lss (.of rfl) (.of rfl)) rfl ?_;refine n_t ?_;refine c_d rfl (fun hcd=>?_) (fun _=>by omega);refine s_t ?_;refine tr_seq ?_;refine tr_block ?_;refine tr_region ?_;refine m_v rfl rfl ?_;refine m_v rfl rfl ?_;refine tr_val (rk_indexAddrA (.of rfl) (.of rfl) (by omega) (by omega) norm1_) rfl ?_;refine tr_val (rk_load1 (.of rfl) (At.lit .here rfl)) rfl ?_;refine tr_val (rk_xor8 (.of rfl) (.of rfl)) rfl ?_;refine a_s rfl rfl ?_;refine tr_nil ?_;refine tr_blk_normal ?_;refine tr_then ?_;refine tr_region ?_;refine m_v rfl rfl ?_;refine tr_val (rk_add (.of rfl) (.of rfl) (ini (by omega))) rfl ?_;refine a_s rfl rfl ?_;refine n_t ?_)
      apply tr_next (Φ:=fun k:Nat=>k ≤ 7) 6 (show 6 ≤ 7 from of_decide_eq_true rfl) (by show 7 - 6 < 7 - 5;omega)
      case hs1=>exact .cons rfl (.cons rfl (.cons rfl .nil))
      case ht=>exact .cons .here .nil
    · show Tr _ [] [(4,.int .i64 6),(3,.int .u8 (parF [a0,a1,a2,a3,a4,a5])),(1,.pointer (some ⟨b1,0,none⟩))] [blk b1 (.cells #[.int .u8 a0,.int .u8 a1,.int .u8 a2,.int .u8 a3,.int .u8 a4,.int .u8 a5,.int .u8 a6,.int .u8 a7,.int .u8 a8,.int .u8 a9] 51 (0,0))] _
      (refine tr_seq ?_;refine s_r ?_;refine m_v rfl rfl ?_;refine tr_val (rk_lss (.of rfl) (.of rfl)) rfl ?_;refine n_t ?_;refine c_d rfl (fun hcd=>?_) (fun _=>by omega);refine s_t ?_;refine tr_seq ?_;refine tr_block ?_;refine tr_region ?_;refine m_v rfl rfl ?_;refine m_v rfl rfl ?_;refine tr_val (rk_indexAddrA (.of rfl) (.of rfl) (by omega) (by omega) norm1_) rfl ?_;refine tr_val (rk_load1 (.of rfl) (At.lit .here rfl)) rfl ?_;refine tr_val (rk_xor8 (.of rfl) (.of rfl)) rfl ?_;refine a_s rfl rfl ?_;refine tr_nil ?_;refine tr_blk_normal ?_;refine tr_then ?_;refine tr_region ?_;refine m_v rfl rfl ?_;refine tr_val (rk_add (.of rfl) (.of rfl) (ini (by omega))) rfl ?_;refine a_s rfl rfl ?_;refine n_t ?_)
      apply tr_next (Φ:=fun k:Nat=>k ≤ 7) 7 (show 7 ≤ 7 from of_decide_eq_true rfl) (by show 7 - 7 < 7 - 6;omega)
      case hs1=>exact .cons rfl (.cons rfl (.cons rfl .nil))
      case ht=>exact .cons .here .nil
  · obtain rfl:k = 7:=by omega
    show Tr _ [] [(4,.int .i64 7),(3,.int .u8 (parF [a0,a1,a2,a3,a4,a5,a6])),(1,.pointer (some ⟨b1,0,none⟩))] [blk b1 (.cells #[.int .u8 a0,.int .u8 a1,.int .u8 a2,.int .u8 a3,.int .u8 a4,.int .u8 a5,.int .u8 a6,.int .u8 a7,.int .u8 a8,.int .u8 a9] 51 (0,0))] _
    (refine tr_seq ?_;refine s_r ?_;refine m_v rfl rfl ?_;refine tr_val (rk_lss (.of rfl) (.of rfl)) rfl ?_;refine n_t ?_;refine c_d rfl (fun _=>by omega) (fun hcd=>?_);refine x_t ?_;refine tr_then_exit ?_;refine tr_blk_exit ?_;refine tr_then ?_;refine s_r ?_;refine m_v rfl rfl ?_;refine a_s rfl rfl ?_;refine n_t ?_;refine tr_ret ?_;refine tr_retE rfl (ends1 rfl rfl) ?_)
    rfl
theorem rtB_if (r:Rt):rtB r = if r.dr = true then r.fr + 128 else r.fr:=by
  unfold rtB;cases r.dr <;> simp
def wkQ (s:Stm) (k:Nat):List Value:=[.int .u8 (if 0 < k then bcd s.la.f else 0),.int .u8 (if 1 < k then bcd s.la.s else 0),.int .u8 (if 2 < k then bcd s.la.m else 0),.int .u8 (if 3 < k then bcd s.la.h else 0),.int .u8 0,.int .u8 0,.int .u8 0,.int .u8 0,.int .u8 0,.int .u8 0]
set_option maxHeartbeats 4000000 in
theorem wordQ_c (s:Stm) (h:StOk s) (w:World):GivesV Tryz.prog 38 [.agg s.cells.toArray] w (.agg (wcells (wordF s)).toArray):=by
  have h1:=h.la.h;have h2:=h.la.m;have h3:=h.la.s;have h4:=h.la.f;have h5:=h.la.ra.fr;have h6:=h.us
  have q0:IntKind.u8.wrap (s.la.f / 10 * 16 + s.la.f % 10) = bcd s.la.f:=u8w (by omega)
  have q1:IntKind.u8.wrap (s.la.s / 10 * 16 + s.la.s % 10) = bcd s.la.s:=u8w (by omega)
  have q2:IntKind.u8.wrap (s.la.m / 10 * 16 + s.la.m % 10) = bcd s.la.m:=u8w (by omega)
  have q3:IntKind.u8.wrap (s.la.h / 10 * 16 + s.la.h % 10) = bcd s.la.h:=u8w (by omega)
  have hrt:=rtB_if s.ra
  have hrb:0 ≤ rtB s.ra ∧ rtB s.ra ≤ 255:=by rw [hrt];split <;> omega
  have e5:IntKind.u8.wrap (s.us / 256) = s.us / 256:=u8w (by omega)
  have e6:IntKind.u8.wrap (s.us % 256) = s.us % 256:=u8w (by omega)
  refine givesV_of_tr Tryz.func38 rfl rfl ?_
  unfold Stm.cells
  (refine s_r ?_;refine tr_new (rk_box (.of rfl) rfl) rfl (fun _ _=>?_);refine tr_new (rk_alloc rfl) rfl (fun _ _=>?_);refine n_r ?_;refine f_a rfl rfl norm0_ ?_;refine f_a rfl rfl norm0_ ?_;refine tr_val (rk_load1 (.of rfl) (At.lit (.there .here) rfl)) rfl ?_;refine a_s rfl rfl ?_;refine n_t ?_;refine tr_seq ?_;refine s_r ?_;refine f_a rfl rfl norm0_ ?_;refine f_a rfl rfl norm0_ ?_;refine tr_val (rk_load1 (.of rfl) (At.lit (.there .here) rfl)) rfl ?_;refine n_t ?_;refine c_b rfl (fun hcd=>?_) (fun hcd=>?_);refine tr_region ?_;refine m_v rfl rfl ?_;refine tr_val (rk_add (.of rfl) (.of rfl) (ini (by omega))) rfl ?_;refine a_s rfl rfl ?_;refine n_r ?_;refine f_a rfl rfl norm0_ ?_;refine f_a rfl rfl norm0_ ?_;refine tr_val (rk_load1 (.of rfl) (At.lit (.there .here) rfl)) rfl ?_;refine f_a rfl rfl norm0_ ?_;refine f_a rfl rfl norm0_ ?_;refine tr_val (rk_load1 (.of rfl) (At.lit (.there .here) rfl)) rfl ?_;refine f_a rfl rfl norm0_ ?_;refine f_a rfl rfl norm0_ ?_;refine tr_val (rk_load1 (.of rfl) (At.lit (.there .here) rfl)) rfl ?_;refine f_a rfl rfl norm0_ ?_;refine f_a rfl rfl norm0_ ?_;refine tr_val (rk_load1 (.of rfl) (At.lit (.there .here) rfl)) rfl ?_;refine tr_new (rk_sliceLit (.cons (.of rfl) (.cons (.of rfl) (.cons (.of rfl) (.cons (.of rfl) .nil)))) rfl rfl rfl rfl) rfl (fun _ _=>?_);refine a_s rfl rfl ?_;refine n_r ?_;refine tr_new (rk_alloc rfl) rfl (fun _ _=>?_);refine n_t ?_;refine tr_seq ?_;refine s_r ?_;refine a_s rfl rfl ?_;refine n_t ?_;refine tr_block ?_;rotate_left;refine s_t ?_;refine s_r ?_;refine f_a rfl rfl norm0_ ?_;refine f_a rfl rfl norm0_ ?_;refine tr_val (rk_load1 (.of rfl) (At.lit (.there .here) rfl)) rfl ?_;refine f_a rfl rfl norm0_ ?_;refine f_a rfl rfl norm0_ ?_;refine tr_val (rk_load1 (.of rfl) (At.lit (.there .here) rfl)) rfl ?_;refine f_a rfl rfl norm0_ ?_;refine f_a rfl rfl norm0_ ?_;refine tr_val (rk_load1 (.of rfl) (At.lit (.there .here) rfl)) rfl ?_;refine f_a rfl rfl norm0_ ?_;refine f_a rfl rfl norm0_ ?_;refine tr_val (rk_load1 (.of rfl) (At.lit (.there .here) rfl)) rfl ?_;refine tr_new (rk_sliceLit (.cons (.of rfl) (.cons (.of rfl) (.cons (.of rfl) (.cons (.of rfl) .nil)))) rfl rfl rfl rfl) rfl (fun _ _=>?_);refine a_s rfl rfl ?_;refine n_r ?_;refine tr_new (rk_alloc rfl) rfl (fun _ _=>?_);refine n_t ?_;refine tr_seq ?_;refine s_r ?_;refine a_s rfl rfl ?_;refine n_t ?_;refine tr_block ?_;rotate_right)
  · rw [if_pos hcd] at hrt
    have e4:IntKind.u8.wrap (s.ra.fr + 128) = rtB s.ra:=by rw [hrt] at hrb ⊢;exact u8w hrb
    rename_i b1 _ b2 _ b4 _ b5 _
    refine tr_for (fun k:Nat=>k ≤ 4) (fun k=>[(6,.int .i64 k),(5,.pointer (some ⟨b5,0,none⟩)),(4,.slice (some ⟨b4,0,none⟩) 4 4),(3,.int .i64 (s.ra.fr + 128)),(2,.pointer (some ⟨b2,0,none⟩)),(1,.pointer (some ⟨b1,0,none⟩))]) (fun k=>[blk b5 (.cells (wkQ s k).toArray 51 (0,0)),blk b4 (.cells #[.int .i64 s.la.f,.int .i64 s.la.s,.int .i64 s.la.m,.int .i64 s.la.h] 3 (0,0)),blk b2 (.cells #[.int .u8 0,.int .u8 0,.int .u8 0,.int .u8 0,.int .u8 0,.int .u8 0,.int .u8 0,.int .u8 0,.int .u8 0,.int .u8 0] 51 (0,0)),blk b1 (.cells #[.int .i64 s.ra.fr,.bool s.ra.dr,.int .i64 s.la.h,.int .i64 s.la.m,.int .i64 s.la.s,.int .i64 s.la.f,.int .i64 s.us] 50 (0,0))]) (fun k=>4 - k) ?_ ?_
    · apply tr_start 0 (show (0:Nat) ≤ 4 by omega)
      case hs1=>exact .cons rfl (.cons rfl (.cons rfl (.cons rfl (.cons rfl (.cons rfl .nil)))))
      case ht=>
        show Takes _ [blk b5 (.cells #[.int .u8 0,.int .u8 0,.int .u8 0,.int .u8 0,.int .u8 0,.int .u8 0,.int .u8 0,.int .u8 0,.int .u8 0,.int .u8 0] 51 (0,0)),blk b4 (.cells #[.int .i64 s.la.f,.int .i64 s.la.s,.int .i64 s.la.m,.int .i64 s.la.h] 3 (0,0)),blk b2 (.cells #[.int .u8 0,.int .u8 0,.int .u8 0,.int .u8 0,.int .u8 0,.int .u8 0,.int .u8 0,.int .u8 0,.int .u8 0,.int .u8 0] 51 (0,0)),blk b1 (.cells #[.int .i64 s.ra.fr,.bool s.ra.dr,.int .i64 s.la.h,.int .i64 s.la.m,.int .i64 s.la.s,.int .i64 s.la.f,.int .i64 s.us] 50 (0,0))] _
        exact .cons .here (.cons .here (.cons .here (.cons .here .nil)))
    intro k hk
    by_cases hlt:k < 4
    · obtain rfl | rfl | rfl | rfl:k = 0 ∨ k = 1 ∨ k = 2 ∨ k = 3:=by omega
      · show Tr _ [] [(6,.int .i64 0),(5,.pointer (some ⟨b5,0,none⟩)),(4,.slice (some ⟨b4,0,none⟩) 4 4),(3,.int .i64 (s.ra.fr + 128)),(2,.pointer (some ⟨b2,0,none⟩)),(1,.pointer (some ⟨b1,0,none⟩))] [blk b5 (.cells #[.int .u8 0,.int .u8 0,.int .u8 0,.int .u8 0,.int .u8 0,.int .u8 0,.int .u8 0,.int .u8 0,.int .u8 0,.int .u8 0] 51 (0,0)),blk b4 (.cells #[.int .i64 s.la.f,.int .i64 s.la.s,.int .i64 s.la.m,.int .i64 s.la.h] 3 (0,0)),blk b2 (.cells #[.int .u8 0,.int .u8 0,.int .u8 0,.int .u8 0,.int .u8 0,.int .u8 0,.int .u8 0,.int .u8 0,.int .u8 0,.int .u8 0] 51 (0,0)),blk b1 (.cells #[.int .i64 s.ra.fr,.bool s.ra.dr,.int .i64 s.la.h,.int .i64 s.la.m,.int .i64 s.la.s,.int .i64 s.la.f,.int .i64 s.us] 50 (0,0))] _
        (refine tr_seq ?_;refine s_r ?_;refine m_v rfl rfl ?_;refine tr_val (rk_lss (.of rfl) (.of rfl)) rfl ?_;refine n_t ?_;refine c_d rfl (fun hcd=>?_) (fun _=>by omega);refine s_t ?_;refine tr_seq ?_;refine tr_block ?_)
        with_reducible refine tr_draw 15 (by kernel_rfl) ?_
        (refine a_m rfl rfl ?_;refine a_m rfl rfl ?_;refine a_m rfl rfl ?_;refine any_val (rk_indexAddr (.of rfl) (.of rfl) rfl (by omega) hcd norm1_) rfl ?_;refine any_val (rk_load1 (.of rfl) (At.lit (.there .here) rfl)) rfl ?_;refine any_val (rk_quo (.of rfl) (.of rfl) (by omega) (by omega) (by omega)) rfl ?_;refine any_val (rk_mul (.of rfl) (.of rfl) (ini (by omega))) rfl ?_;refine a_m rfl rfl ?_;refine a_m rfl rfl ?_;refine any_val (rk_indexAddr (.of rfl) (.of rfl) rfl (by omega) hcd norm1_) rfl ?_;refine any_val (rk_load1 (.of rfl) (At.lit (.there .here) rfl)) rfl ?_;refine any_val (rk_rem (.of rfl) (.of rfl) (by omega) (by omega)) rfl ?_;refine any_val (rk_add (.of rfl) (.of rfl) (ini (by omega))) rfl ?_;refine any_val (rk_conv (.of rfl)) rfl ?_;refine any_val (rk_indexAddrA (.of rfl) (.of rfl) (by omega) (by omega) norm1_) rfl ?_)
        with_reducible refine any_end ?_
        (refine tr_store (.of rfl) (.of rfl) .here rfl rfl (okc_cons rfl okc_nil) (lenb rfl) norm_ ?_;refine tr_nil ?_;refine tr_blk_normal ?_;refine tr_then ?_;refine tr_region ?_;refine m_v rfl rfl ?_;refine tr_val (rk_add (.of rfl) (.of rfl) (ini (by omega))) rfl ?_;refine a_s rfl rfl ?_;refine n_t ?_)
        rw [q0]
        apply tr_next (Φ:=fun k:Nat=>k ≤ 4) 1 (show 1 ≤ 4 from of_decide_eq_true rfl) (by show 4 - 1 < 4 - 0;omega)
        case hs1=>exact .cons rfl (.cons rfl (.cons rfl (.cons rfl (.cons rfl (.cons rfl .nil)))))
        case ht=>
          show Takes _ [blk b5 (.cells #[.int .u8 (bcd s.la.f),.int .u8 0,.int .u8 0,.int .u8 0,.int .u8 0,.int .u8 0,.int .u8 0,.int .u8 0,.int .u8 0,.int .u8 0] 51 (0,0)),blk b4 (.cells #[.int .i64 s.la.f,.int .i64 s.la.s,.int .i64 s.la.m,.int .i64 s.la.h] 3 (0,0)),blk b2 (.cells #[.int .u8 0,.int .u8 0,.int .u8 0,.int .u8 0,.int .u8 0,.int .u8 0,.int .u8 0,.int .u8 0,.int .u8 0,.int .u8 0] 51 (0,0)),blk b1 (.cells #[.int .i64 s.ra.fr,.bool s.ra.dr,.int .i64 s.la.h,.int .i64 s.la.m,.int .i64 s.la.s,.int .i64 s.la.f,.int .i64 s.us] 50 (0,0))] _
          exact .cons .here (.cons .here (.cons .here (.cons .here .nil)))
      · show Tr _ [] [(6,.int .i64 1),(5,.pointer (some ⟨b5,0,none⟩)),(4,.slice (some ⟨b4,0,none⟩) 4 4),(3,.int .i64 (s.ra.fr + 128)),(2,.pointer (some ⟨b2,0,none⟩)),(1,.pointer (some ⟨b1,0,none⟩))] [blk b5 (.cells #[.int .u8 (bcd s.la.f),.int .u8 0,.int .u8 0,.int .u8 0,.int .u8 0,.int .u8 0,.int .u8 0,.int .u8 0,.int .u8 0,.int .u8 0] 51 (0,0)),blk b4 (.cells #[.int .i64 s.la.f,.int .i64 s.la.s,.int .i64 s.la.m,.int .i64 s.la.h] 3 (0,0)),blk b2 (.cells #[.int .u8 0,.int .u8 0,.int .u8 0,.int .u8 0,.int .u8 0,.int .u8 0,.int .u8 0,.int .u8 0,.int .u8 0,.int .u8 0] 51 (0,0)),blk b1 (.cells #[.int .i64 s.ra.fr,.bool s.ra.dr,.int .i64 s.la.h,.int .i64 s.la.m,.int .i64 s.la.s,.int .i64 s.la.f,.int .i64 s.us] 50 (0,0))] _
        (refine tr_seq ?_;refine s_r ?_;refine m_v rfl rfl ?_;refine tr_val (rk_lss (.of rfl) (.of rfl)) rfl ?_;refine n_t ?_;refine c_d rfl (fun hcd=>?_) (fun _=>by omega);refine s_t ?_;refine tr_seq ?_;refine tr_block ?_)
        with_reducible refine tr_draw 15 (by kernel_rfl) ?_
        (refine a_m rfl rfl ?_;refine a_m rfl rfl ?_;refine a_m rfl rfl ?_;refine any_val (rk_indexAddr (.of rfl) (.of rfl) rfl (by omega) hcd norm1_) rfl ?_;refine any_val (rk_load1 (.of rfl) (At.lit (.there .here) rfl)) rfl ?_;refine any_val (rk_quo (.of rfl) (.of rfl) (by omega) (by omega) (by omega)) rfl ?_;refine any_val (rk_mul (.of rfl) (.of rfl) (ini (by omega))) rfl ?_;refine a_m rfl rfl ?_;refine a_m rfl rfl ?_;refine any_val (rk_indexAddr (.of rfl) (.of rfl) rfl (by omega) hcd norm1_) rfl ?_;refine any_val (rk_load1 (.of rfl) (At.lit (.there .here) rfl)) rfl ?_;refine any_val (rk_rem (.of rfl) (.of rfl) (by omega) (by omega)) rfl ?_;refine any_val (rk_add (.of rfl) (.of rfl) (ini (by omega))) rfl ?_;refine any_val (rk_conv (.of rfl)) rfl ?_;refine any_val (rk_indexAddrA (.of rfl) (.of rfl) (by omega) (by omega) norm1_) rfl ?_)
        with_reducible refine any_end ?_
        (refine tr_store (.of rfl) (.of rfl) .here rfl rfl (okc_cons rfl okc_nil) (lenb rfl) norm_ ?_;refine tr_nil ?_;refine tr_blk_normal ?_;refine tr_then ?_;refine tr_region ?_;refine m_v rfl rfl ?_;refine tr_val (rk_add (.of rfl) (.of rfl) (ini (by omega))) rfl ?_;refine a_s rfl rfl ?_;refine n_t ?_)
        rw [q1]
        apply tr_next (Φ:=fun k:Nat=>k ≤ 4) 2 (show 2 ≤ 4 from of_decide_eq_true rfl) (by show 4 - 2 < 4 - 1;omega)
        case hs1=>exact .cons rfl (.cons rfl (.cons rfl (.cons rfl (.cons rfl (.cons rfl .nil)))))
        case ht=>
          show Takes _ [blk b5 (.cells #[.int .u8 (bcd s.la.f),.int .u8 (bcd s.la.s),.int .u8 0,.int .u8 0,.int .u8 0,.int .u8 0,.int .u8 0,.int .u8 0,.int .u8 0,.int .u8 0] 51 (0,0)),blk b4 (.cells #[.int .i64 s.la.f,.int .i64 s.la.s,.int .i64 s.la.m,.int .i64 s.la.h] 3 (0,0)),blk b2 (.cells #[.int .u8 0,.int .u8 0,.int .u8 0,.int .u8 0,.int .u8 0,.int .u8 0,.int .u8 0,.int .u8 0,.int .u8 0,.int .u8 0] 51 (0,0)),blk b1 (.cells #[.int .i64 s.ra.fr,.bool s.ra.dr,.int .i64 s.la.h,.int .i64 s.la.m,.int .i64 s.la.s,.int .i64 s.la.f,.int .i64 s.us] 50 (0,0))] _
          exact .cons .here (.cons .here (.cons .here (.cons .here .nil)))
      · show Tr _ [] [(6,.int .i64 2),(5,.pointer (some ⟨b5,0,none⟩)),(4,.slice (some ⟨b4,0,none⟩) 4 4),(3,.int .i64 (s.ra.fr + 128)),(2,.pointer (some ⟨b2,0,none⟩)),(1,.pointer (some ⟨b1,0,none⟩))] [blk b5 (.cells #[.int .u8 (bcd s.la.f),.int .u8 (bcd s.la.s),.int .u8 0,.int .u8 0,.int .u8 0,.int .u8 0,.int .u8 0,.int .u8 0,.int .u8 0,.int .u8 0] 51 (0,0)),blk b4 (.cells #[.int .i64 s.la.f,.int .i64 s.la.s,.int .i64 s.la.m,.int .i64 s.la.h] 3 (0,0)),blk b2 (.cells #[.int .u8 0,.int .u8 0,.int .u8 0,.int .u8 0,.int .u8 0,.int .u8 0,.int .u8 0,.int .u8 0,.int .u8 0,.int .u8 0] 51 (0,0)),blk b1 (.cells #[.int .i64 s.ra.fr,.bool s.ra.dr,.int .i64 s.la.h,.int .i64 s.la.m,.int .i64 s.la.s,.int .i64 s.la.f,.int .i64 s.us] 50 (0,0))] _
        (refine tr_seq ?_;refine s_r ?_;refine m_v rfl rfl ?_;refine tr_val (rk_lss (.of rfl) (.of rfl)) rfl ?_;refine n_t ?_;refine c_d rfl (fun hcd=>?_) (fun _=>by omega);refine s_t ?_;refine tr_seq ?_;refine tr_block ?_)
        with_reducible refine tr_draw 15 (by kernel_rfl) ?_
        (refine a_m rfl rfl ?_;refine a_m rfl rfl ?_;refine a_m rfl rfl ?_;refine any_val (rk_indexAddr (.of rfl) (.of rfl) rfl (by omega) hcd norm1_) rfl ?_;refine any_val (rk_load1 (.of rfl) (At.lit (.there .here) rfl)) rfl ?_;refine any_val (rk_quo (.of rfl) (.of rfl) (by omega) (by omega) (by omega)) rfl ?_;refine any_val (rk_mul (.of rfl) (.of rfl) (ini (by omega))) rfl ?_;refine a_m rfl rfl ?_;refine a_m rfl rfl ?_;refine any_val (rk_indexAddr (.of rfl) (.of rfl) rfl (by omega) hcd norm1_) rfl ?_;refine any_val (rk_load1 (.of rfl) (At.lit (.there .here) rfl)) rfl ?_;refine any_val (rk_rem (.of rfl) (.of rfl) (by omega) (by omega)) rfl ?_;refine any_val (rk_add (.of rfl) (.of rfl) (ini (by omega))) rfl ?_;refine any_val (rk_conv (.of rfl)) rfl ?_;refine any_val (rk_indexAddrA (.of rfl) (.of rfl) (by omega) (by omega) norm1_) rfl ?_)
        with_reducible refine any_end ?_
        (refine tr_store (.of rfl) (.of rfl) .here rfl rfl (okc_cons rfl okc_nil) (lenb rfl) norm_ ?_;refine tr_nil ?_;refine tr_blk_normal ?_;refine tr_then ?_;refine tr_region ?_;refine m_v rfl rfl ?_;refine tr_val (rk_add (.of rfl) (.of rfl) (ini (by omega))) rfl ?_;refine a_s rfl rfl ?_;refine n_t ?_)
        rw [q2]
        apply tr_next (Φ:=fun k:Nat=>k ≤ 4) 3 (show 3 ≤ 4 from of_decide_eq_true rfl) (by show 4 - 3 < 4 - 2;omega)
        case hs1=>exact .cons rfl (.cons rfl (.cons rfl (.cons rfl (.cons rfl (.cons rfl .nil)))))
        case ht=>
          show Takes _ [blk b5 (.cells #[.int .u8 (bcd s.la.f),.int .u8 (bcd s.la.s),.int .u8 (bcd s.la.m),.int .u8 0,.int .u8 0,.int .u8 0,.int .u8 0,.int .u8 0,.int .u8 0,.int .u8 0] 51 (0,0)),blk b4 (.cells #[.int .i64 s.la.f,.int .i64 s.la.s,.int .i64 s.la.m,.int .i64 s.la.h] 3 (0,0)),blk b2 (.cells #[.int .u8 0,.int .u8 0,.int .u8 0,.int .u8 0,.int .u8 0,.int .u8 0,.int .u8 0,.int .u8 0,.int .u8 0,.int .u8 0] 51 (0,0)),blk b1 (.cells #[.int .i64 s.ra.fr,.bool s.ra.dr,.int .i64 s.la.h,.int .i64 s.la.m,.int .i64 s.la.s,.int .i64 s.la.f,.int .i64 s.us] 50 (0,0))] _
          exact .cons .here (.cons .here (.cons .here (.cons .here .nil)))
      · show Tr _ [] [(6,.int .i64 3),(5,.pointer (some ⟨b5,0,none⟩)),(4,.slice (some ⟨b4,0,none⟩) 4 4),(3,.int .i64 (s.ra.fr + 128)),(2,.pointer (some ⟨b2,0,none⟩)),(1,.pointer (some ⟨b1,0,none⟩))] [blk b5 (.cells #[.int .u8 (bcd s.la.f),.int .u8 (bcd s.la.s),.int .u8 (bcd s.la.m),.int .u8 0,.int .u8 0,.int .u8 0,.int .u8 0,.int .u8 0,.int .u8 0,.int .u8 0] 51 (0,0)),blk b4 (.cells #[.int .i64 s.la.f,.int .i64 s.la.s,.int .i64 s.la.m,.int .i64 s.la.h] 3 (0,0)),blk b2 (.cells #[.int .u8 0,.int .u8 0,.int .u8 0,.int .u8 0,.int .u8 0,.int .u8 0,.int .u8 0,.int .u8 0,.int .u8 0,.int .u8 0] 51 (0,0)),blk b1 (.cells #[.int .i64 s.ra.fr,.bool s.ra.dr,.int .i64 s.la.h,.int .i64 s.la.m,.int .i64 s.la.s,.int .i64 s.la.f,.int .i64 s.us] 50 (0,0))] _
        (refine tr_seq ?_;refine s_r ?_;refine m_v rfl rfl ?_;refine tr_val (rk_lss (.of rfl) (.of rfl)) rfl ?_;refine n_t ?_;refine c_d rfl (fun hcd=>?_) (fun _=>by omega);refine s_t ?_;refine tr_seq ?_;refine tr_block ?_)
        with_reducible refine tr_draw 15 (by kernel_rfl) ?_
        (refine a_m rfl rfl ?_;refine a_m rfl rfl ?_;refine a_m rfl rfl ?_;refine any_val (rk_indexAddr (.of rfl) (.of rfl) rfl (by omega) hcd norm1_) rfl ?_;refine any_val (rk_load1 (.of rfl) (At.lit (.there .here) rfl)) rfl ?_;refine any_val (rk_quo (.of rfl) (.of rfl) (by omega) (by omega) (by omega)) rfl ?_;refine any_val (rk_mul (.of rfl) (.of rfl) (ini (by omega))) rfl ?_;refine a_m rfl rfl ?_;refine a_m rfl rfl ?_;refine any_val (rk_indexAddr (.of rfl) (.of rfl) rfl (by omega) hcd norm1_) rfl ?_;refine any_val (rk_load1 (.of rfl) (At.lit (.there .here) rfl)) rfl ?_;refine any_val (rk_rem (.of rfl) (.of rfl) (by omega) (by omega)) rfl ?_;refine any_val (rk_add (.of rfl) (.of rfl) (ini (by omega))) rfl ?_;refine any_val (rk_conv (.of rfl)) rfl ?_;refine any_val (rk_indexAddrA (.of rfl) (.of rfl) (by omega) (by omega) norm1_) rfl ?_)
        with_reducible refine any_end ?_
        (refine tr_store (.of rfl) (.of rfl) .here rfl rfl (okc_cons rfl okc_nil) (lenb rfl) norm_ ?_;refine tr_nil ?_;refine tr_blk_normal ?_;refine tr_then ?_;refine tr_region ?_;refine m_v rfl rfl ?_;refine tr_val (rk_add (.of rfl) (.of rfl) (ini (by omega))) rfl ?_;refine a_s rfl rfl ?_;refine n_t ?_)
        rw [q3]
        apply tr_next (Φ:=fun k:Nat=>k ≤ 4) 4 (show 4 ≤ 4 from of_decide_eq_true rfl) (by show 4 - 4 < 4 - 3;omega)
        case hs1=>exact .cons rfl (.cons rfl (.cons rfl (.cons rfl (.cons rfl (.cons rfl .nil)))))
        case ht=>
          show Takes _ [blk b5 (.cells #[.int .u8 (bcd s.la.f),.int .u8 (bcd s.la.s),.int .u8 (bcd s.la.m),.int .u8 (bcd s.la.h),.int .u8 0,.int .u8 0,.int .u8 0,.int .u8 0,.int .u8 0,.int .u8 0] 51 (0,0)),blk b4 (.cells #[.int .i64 s.la.f,.int .i64 s.la.s,.int .i64 s.la.m,.int .i64 s.la.h] 3 (0,0)),blk b2 (.cells #[.int .u8 0,.int .u8 0,.int .u8 0,.int .u8 0,.int .u8 0,.int .u8 0,.int .u8 0,.int .u8 0,.int .u8 0,.int .u8 0] 51 (0,0)),blk b1 (.cells #[.int .i64 s.ra.fr,.bool s.ra.dr,.int .i64 s.la.h,.int .i64 s.la.m,.int .i64 s.la.s,.int .i64 s.la.f,.int .i64 s.us] 50 (0,0))] _
          exact .cons .here (.cons .here (.cons .here (.cons .here .nil)))
    · obtain rfl:k = 4:=by omega
      show Tr _ [] [(6,.int .i64 4),(5,.pointer (some ⟨b5,0,none⟩)),(4,.slice (some ⟨b4,0,none⟩) 4 4),(3,.int .i64 (s.ra.fr + 128)),(2,.pointer (some ⟨b2,0,none⟩)),(1,.pointer (some ⟨b1,0,none⟩))] [blk b5 (.cells #[.int .u8 (bcd s.la.f),.int .u8 (bcd s.la.s),.int .u8 (bcd s.la.m),.int .u8 (bcd s.la.h),.int .u8 0,.int .u8 0,.int .u8 0,.int .u8 0,.int .u8 0,.int .u8 0] 51 (0,0)),blk b4 (.cells #[.int .i64 s.la.f,.int .i64 s.la.s,.int .i64 s.la.m,.int .i64 s.la.h] 3 (0,0)),blk b2 (.cells #[.int .u8 0,.int .u8 0,.int .u8 0,.int .u8 0,.int .u8 0,.int .u8 0,.int .u8 0,.int .u8 0,.int .u8 0,.int .u8 0] 51 (0,0)),blk b1 (.cells #[.int .i64 s.ra.fr,.bool s.ra.dr,.int .i64 s.la.h,.int .i64 s.la.m,.int .i64 s.la.s,.int .i64 s.la.f,.int .i64 s.us] 50 (0,0))] _
      (refine tr_seq ?_;refine s_r ?_;refine m_v rfl rfl ?_;refine tr_val (rk_lss (.of rfl) (.of rfl)) rfl ?_;refine n_t ?_;refine c_d rfl (fun _=>by omega) (fun hcd=>?_);refine x_t ?_;refine tr_then_exit ?_;refine tr_blk_exit ?_;refine tr_then ?_;refine tr_seq ?_)
      generalize hQ:Exit.then _ _ = Q
      suffices hk:Tr _ [] [(5,.pointer (some ⟨b5,0,none⟩)),(4,.slice (some ⟨b4,0,none⟩) 4 4),(3,.int .i64 (s.ra.fr + 128)),(2,.pointer (some ⟨b2,0,none⟩)),(1,.pointer (some ⟨b1,0,none⟩))] [blk b5 (.cells #[.int .u8 (bcd s.la.f),.int .u8 (bcd s.la.s),.int .u8 (bcd s.la.m),.int .u8 (bcd s.la.h),.int .u8 (IntKind.u8.wrap (s.ra.fr + 128)),.int .u8 (IntKind.u8.wrap (s.us / 256)),.int .u8 (IntKind.u8.wrap (s.us % 256)),.int .u8 0,.int .u8 0,.int .u8 0] 51 (0,0)),blk b4 (.cells #[.int .i64 s.la.f,.int .i64 s.la.s,.int .i64 s.la.m,.int .i64 s.la.h] 3 (0,0)),blk b2 (.cells #[.int .u8 0,.int .u8 0,.int .u8 0,.int .u8 0,.int .u8 0,.int .u8 0,.int .u8 0,.int .u8 0,.int .u8 0,.int .u8 0] 51 (0,0)),blk b1 (.cells #[.int .i64 s.ra.fr,.bool s.ra.dr,.int .i64 s.la.h,.int .i64 s.la.m,.int .i64 s.la.s,.int .i64 s.la.f,.int .i64 s.us] 50 (0,0))] (Q .normal) by
        with_reducible refine tr_left 16 rfl ?_
        refine left_take 0 rfl kr_ kr_ kr_ (fun w ρ=>rfl) (fun w=>(rk_move (.of rfl))) rfl ?_
        refine left_take 1 rfl kr_ kr_ kr_ (fun w ρ=>rfl) (fun w=>rk_conv (.of rfl)) rfl ?_
        refine left_take 2 rfl kr_ kr_ kr_ (fun w ρ=>rfl) (fun w=>(rk_fieldAddr (.of rfl) norm0_)) rfl ?_
        refine left_take 6 rfl kr_ kr_ kr_ (fun w ρ=>rfl) (fun w=>(rk_fieldAddr (.of rfl) norm0_)) rfl ?_
        refine left_take 10 rfl kr_ kr_ kr_ (fun w ρ=>rfl) (fun w=>(rk_indexAddrA (.of rfl) (.of rfl) (by omega) (by omega) norm1_)) rfl ?_
        refine left_ready (rs:=[3,7,11]) (by kernel_rfl) (by simp) (List.forall_mem_cons.2 ⟨?_,List.forall_mem_cons.2 ⟨?_,List.forall_mem_cons.2 ⟨?_,fun _ h=>absurd h List.not_mem_nil⟩⟩⟩)
        · refine next_step rfl ?_
          (refine tr_val (rk_load1 (.of rfl) (At.lit (.there (.there (.there .here))) rfl)) rfl ?_;refine n_t ?_)
          refine left_take 4 rfl kr_ kr_ kr_ (fun w ρ=>rfl) (fun w=>(rk_quo (.of rfl) (.of rfl) (by omega) (by omega) (by omega))) rfl ?_
          refine left_take 5 rfl kr_ kr_ kr_ (fun w ρ=>rfl) (fun w=>rk_conv (.of rfl)) rfl ?_
          refine left_ready (rs:=[7,11]) (by kernel_rfl) (by simp) (List.forall_mem_cons.2 ⟨?_,List.forall_mem_cons.2 ⟨?_,fun _ h=>absurd h List.not_mem_nil⟩⟩)
          · refine next_step rfl ?_
            (refine tr_val (rk_load1 (.of rfl) (At.lit (.there (.there (.there .here))) rfl)) rfl ?_;refine n_t ?_)
            refine left_take 8 rfl kr_ kr_ kr_ (fun w ρ=>rfl) (fun w=>(rk_rem (.of rfl) (.of rfl) (by omega) (by omega))) rfl ?_
            refine left_take 9 rfl kr_ kr_ kr_ (fun w ρ=>rfl) (fun w=>rk_conv (.of rfl)) rfl ?_
            refine left_ready (rs:=[11]) (by kernel_rfl) (by simp) (List.forall_mem_cons.2 ⟨?_,fun _ h=>absurd h List.not_mem_nil⟩)
            refine next_step rfl ?_
            (refine tr_store (.of rfl) (.of rfl) .here rfl rfl (okc_cons rfl okc_nil) (lenb rfl) norm_ ?_;refine n_t ?_)
            refine left_take 12 rfl kr_ kr_ kr_ (fun w ρ=>rfl) (fun w=>(rk_indexAddrA (.of rfl) (.of rfl) (by omega) (by omega) norm1_)) rfl ?_
            refine left_ready (rs:=[13]) (by kernel_rfl) (by simp) (List.forall_mem_cons.2 ⟨?_,fun _ h=>absurd h List.not_mem_nil⟩)
            refine next_step rfl ?_
            (refine tr_store (.of rfl) (.of rfl) .here rfl rfl (okc_cons rfl okc_nil) (lenb rfl) norm_ ?_;refine n_t ?_)
            refine left_take 14 rfl kr_ kr_ kr_ (fun w ρ=>rfl) (fun w=>(rk_indexAddrA (.of rfl) (.of rfl) (by omega) (by omega) norm1_)) rfl ?_
            refine left_ready (rs:=[15]) (by kernel_rfl) (by simp) (List.forall_mem_cons.2 ⟨?_,fun _ h=>absurd h List.not_mem_nil⟩)
            refine next_step rfl ?_
            (refine tr_store (.of rfl) (.of rfl) .here rfl rfl (okc_cons rfl okc_nil) (lenb rfl) norm_ ?_;refine n_t ?_)
            with_reducible refine left_done (by kernel_rfl) ?_
            exact tr_cutW _ _ (by exact .cons rfl (.cons rfl (.cons rfl (.cons rfl (.cons rfl .nil))))) (by exact .cons .here (.cons .here (.cons .here (.cons .here .nil)))) hk
          · refine next_step rfl ?_
            (refine tr_store (.of rfl) (.of rfl) .here rfl rfl (okc_cons rfl okc_nil) (lenb rfl) norm_ ?_;refine n_t ?_)
            refine left_take 12 rfl kr_ kr_ kr_ (fun w ρ=>rfl) (fun w=>(rk_indexAddrA (.of rfl) (.of rfl) (by omega) (by omega) norm1_)) rfl ?_
            refine left_ready (rs:=[7,13]) (by kernel_rfl) (by simp) (List.forall_mem_cons.2 ⟨?_,List.forall_mem_cons.2 ⟨?_,fun _ h=>absurd h List.not_mem_nil⟩⟩)
            · refine next_step rfl ?_
              (refine tr_val (rk_load1 (.of rfl) (At.lit (.there (.there (.there .here))) rfl)) rfl ?_;refine n_t ?_)
              refine left_take 8 rfl kr_ kr_ kr_ (fun w ρ=>rfl) (fun w=>(rk_rem (.of rfl) (.of rfl) (by omega) (by omega))) rfl ?_
              refine left_take 9 rfl kr_ kr_ kr_ (fun w ρ=>rfl) (fun w=>rk_conv (.of rfl)) rfl ?_
              refine left_ready (rs:=[13]) (by kernel_rfl) (by simp) (List.forall_mem_cons.2 ⟨?_,fun _ h=>absurd h List.not_mem_nil⟩)
              refine next_step rfl ?_
              (refine tr_store (.of rfl) (.of rfl) .here rfl rfl (okc_cons rfl okc_nil) (lenb rfl) norm_ ?_;refine n_t ?_)
              refine left_take 14 rfl kr_ kr_ kr_ (fun w ρ=>rfl) (fun w=>(rk_indexAddrA (.of rfl) (.of rfl) (by omega) (by omega) norm1_)) rfl ?_
              refine left_ready (rs:=[15]) (by kernel_rfl) (by simp) (List.forall_mem_cons.2 ⟨?_,fun _ h=>absurd h List.not_mem_nil⟩)
              refine next_step rfl ?_
              (refine tr_store (.of rfl) (.of rfl) .here rfl rfl (okc_cons rfl okc_nil) (lenb rfl) norm_ ?_;refine n_t ?_)
              with_reducible refine left_done (by kernel_rfl) ?_
              exact tr_cutW _ _ (by exact .cons rfl (.cons rfl (.cons rfl (.cons rfl (.cons rfl .nil))))) (by exact .cons .here (.cons .here (.cons .here (.cons .here .nil)))) hk
            · refine next_step rfl ?_
              (refine tr_store (.of rfl) (.of rfl) .here rfl rfl (okc_cons rfl okc_nil) (lenb rfl) norm_ ?_;refine n_t ?_)
              refine left_ready (rs:=[7]) (by kernel_rfl) (by simp) (List.forall_mem_cons.2 ⟨?_,fun _ h=>absurd h List.not_mem_nil⟩)
              refine next_step rfl ?_
              (refine tr_val (rk_load1 (.of rfl) (At.lit (.there (.there (.there .here))) rfl)) rfl ?_;refine n_t ?_)
              refine left_take 8 rfl kr_ kr_ kr_ (fun w ρ=>rfl) (fun w=>(rk_rem (.of rfl) (.of rfl) (by omega) (by omega))) rfl ?_
              refine left_take 9 rfl kr_ kr_ kr_ (fun w ρ=>rfl) (fun w=>rk_conv (.of rfl)) rfl ?_
              refine left_take 14 rfl kr_ kr_ kr_ (fun w ρ=>rfl) (fun w=>(rk_indexAddrA (.of rfl) (.of rfl) (by omega) (by omega) norm1_)) rfl ?_
              refine left_ready (rs:=[15]) (by kernel_rfl) (by simp) (List.forall_mem_cons.2 ⟨?_,fun _ h=>absurd h List.not_mem_nil⟩)
              refine next_step rfl ?_
              (refine tr_store (.of rfl) (.of rfl) .here rfl rfl (okc_cons rfl okc_nil) (lenb rfl) norm_ ?_;refine n_t ?_)
              with_reducible refine left_done (by kernel_rfl) ?_
              exact tr_cutW _ _ (by exact .cons rfl (.cons rfl (.cons rfl (.cons rfl (.cons rfl .nil))))) (by exact .cons .here (.cons .here (.cons .here (.cons .here .nil)))) hk
        · refine next_step rfl ?_
          (refine tr_val (rk_load1 (.of rfl) (At.lit (.there (.there (.there .here))) rfl)) rfl ?_;refine n_t ?_)
          refine left_take 8 rfl kr_ kr_ kr_ (fun w ρ=>rfl) (fun w=>(rk_rem (.of rfl) (.of rfl) (by omega) (by omega))) rfl ?_
          refine left_take 9 rfl kr_ kr_ kr_ (fun w ρ=>rfl) (fun w=>rk_conv (.of rfl)) rfl ?_
          refine left_ready (rs:=[3,11]) (by kernel_rfl) (by simp) (List.forall_mem_cons.2 ⟨?_,List.forall_mem_cons.2 ⟨?_,fun _ h=>absurd h List.not_mem_nil⟩⟩)
          · refine next_step rfl ?_
            (refine tr_val (rk_load1 (.of rfl) (At.lit (.there (.there (.there .here))) rfl)) rfl ?_;refine n_t ?_)
            refine left_take 4 rfl kr_ kr_ kr_ (fun w ρ=>rfl) (fun w=>(rk_quo (.of rfl) (.of rfl) (by omega) (by omega) (by omega))) rfl ?_
            refine left_take 5 rfl kr_ kr_ kr_ (fun w ρ=>rfl) (fun w=>rk_conv (.of rfl)) rfl ?_
            refine left_ready (rs:=[11]) (by kernel_rfl) (by simp) (List.forall_mem_cons.2 ⟨?_,fun _ h=>absurd h List.not_mem_nil⟩)
            refine next_step rfl ?_
            (refine tr_store (.of rfl) (.of rfl) .here rfl rfl (okc_cons rfl okc_nil) (lenb rfl) norm_ ?_;refine n_t ?_)
            refine left_take 12 rfl kr_ kr_ kr_ (fun w ρ=>rfl) (fun w=>(rk_indexAddrA (.of rfl) (.of rfl) (by omega) (by omega) norm1_)) rfl ?_
            refine left_ready (rs:=[13]) (by kernel_rfl) (by simp) (List.forall_mem_cons.2 ⟨?_,fun _ h=>absurd h List.not_mem_nil⟩)
            refine next_step rfl ?_
            (refine tr_store (.of rfl) (.of rfl) .here rfl rfl (okc_cons rfl okc_nil) (lenb rfl) norm_ ?_;refine n_t ?_)
            refine left_take 14 rfl kr_ kr_ kr_ (fun w ρ=>rfl) (fun w=>(rk_indexAddrA (.of rfl) (.of rfl) (by omega) (by omega) norm1_)) rfl ?_
            refine left_ready (rs:=[15]) (by kernel_rfl) (by simp) (List.forall_mem_cons.2 ⟨?_,fun _ h=>absurd h List.not_mem_nil⟩)
            refine next_step rfl ?_
            (refine tr_store (.of rfl) (.of rfl) .here rfl rfl (okc_cons rfl okc_nil) (lenb rfl) norm_ ?_;refine n_t ?_)
            with_reducible refine left_done (by kernel_rfl) ?_
            exact tr_cutW _ _ (by exact .cons rfl (.cons rfl (.cons rfl (.cons rfl (.cons rfl .nil))))) (by exact .cons .here (.cons .here (.cons .here (.cons .here .nil)))) hk
          · refine next_step rfl ?_
            (refine tr_store (.of rfl) (.of rfl) .here rfl rfl (okc_cons rfl okc_nil) (lenb rfl) norm_ ?_;refine n_t ?_)
            refine left_ready (rs:=[3]) (by kernel_rfl) (by simp) (List.forall_mem_cons.2 ⟨?_,fun _ h=>absurd h List.not_mem_nil⟩)
            refine next_step rfl ?_
            (refine tr_val (rk_load1 (.of rfl) (At.lit (.there (.there (.there .here))) rfl)) rfl ?_;refine n_t ?_)
            refine left_take 4 rfl kr_ kr_ kr_ (fun w ρ=>rfl) (fun w=>(rk_quo (.of rfl) (.of rfl) (by omega) (by omega) (by omega))) rfl ?_
            refine left_take 5 rfl kr_ kr_ kr_ (fun w ρ=>rfl) (fun w=>rk_conv (.of rfl)) rfl ?_
            refine left_take 12 rfl kr_ kr_ kr_ (fun w ρ=>rfl) (fun w=>(rk_indexAddrA (.of rfl) (.of rfl) (by omega) (by omega) norm1_)) rfl ?_
            refine left_ready (rs:=[13]) (by kernel_rfl) (by simp) (List.forall_mem_cons.2 ⟨?_,fun _ h=>absurd h List.not_mem_nil⟩)
            refine next_step rfl ?_
            (refine tr_store (.of rfl) (.of rfl) .here rfl rfl (okc_cons rfl okc_nil) (lenb rfl) norm_ ?_;refine n_t ?_)
            refine left_take 14 rfl kr_ kr_ kr_ (fun w ρ=>rfl) (fun w=>(rk_indexAddrA (.of rfl) (.of rfl) (by omega) (by omega) norm1_)) rfl ?_
            refine left_ready (rs:=[15]) (by kernel_rfl) (by simp) (List.forall_mem_cons.2 ⟨?_,fun _ h=>absurd h List.not_mem_nil⟩)
            refine next_step rfl ?_
            (refine tr_store (.of rfl) (.of rfl) .here rfl rfl (okc_cons rfl okc_nil) (lenb rfl) norm_ ?_;refine n_t ?_)
            with_reducible refine left_done (by kernel_rfl) ?_
            exact tr_cutW _ _ (by exact .cons rfl (.cons rfl (.cons rfl (.cons rfl (.cons rfl .nil))))) (by exact .cons .here (.cons .here (.cons .here (.cons .here .nil)))) hk
        · refine next_step rfl ?_
          (refine tr_store (.of rfl) (.of rfl) .here rfl rfl (okc_cons rfl okc_nil) (lenb rfl) norm_ ?_;refine n_t ?_)
          refine left_ready (rs:=[3,7]) (by kernel_rfl) (by simp) (List.forall_mem_cons.2 ⟨?_,List.forall_mem_cons.2 ⟨?_,fun _ h=>absurd h List.not_mem_nil⟩⟩)
          · refine next_step rfl ?_
            (refine tr_val (rk_load1 (.of rfl) (At.lit (.there (.there (.there .here))) rfl)) rfl ?_;refine n_t ?_)
            refine left_take 4 rfl kr_ kr_ kr_ (fun w ρ=>rfl) (fun w=>(rk_quo (.of rfl) (.of rfl) (by omega) (by omega) (by omega))) rfl ?_
            refine left_take 5 rfl kr_ kr_ kr_ (fun w ρ=>rfl) (fun w=>rk_conv (.of rfl)) rfl ?_
            refine left_take 12 rfl kr_ kr_ kr_ (fun w ρ=>rfl) (fun w=>(rk_indexAddrA (.of rfl) (.of rfl) (by omega) (by omega) norm1_)) rfl ?_
            refine left_ready (rs:=[7,13]) (by kernel_rfl) (by simp) (List.forall_mem_cons.2 ⟨?_,List.forall_mem_cons.2 ⟨?_,fun _ h=>absurd h List.not_mem_nil⟩⟩)
            · refine next_step rfl ?_
              (refine tr_val (rk_load1 (.of rfl) (At.lit (.there (.there (.there .here))) rfl)) rfl ?_;refine n_t ?_)
              refine left_take 8 rfl kr_ kr_ kr_ (fun w ρ=>rfl) (fun w=>(rk_rem (.of rfl) (.of rfl) (by omega) (by omega))) rfl ?_
              refine left_take 9 rfl kr_ kr_ kr_ (fun w ρ=>rfl) (fun w=>rk_conv (.of rfl)) rfl ?_
              refine left_ready (rs:=[13]) (by kernel_rfl) (by simp) (List.forall_mem_cons.2 ⟨?_,fun _ h=>absurd h List.not_mem_nil⟩)
              refine next_step rfl ?_
              (refine tr_store (.of rfl) (.of rfl) .here rfl rfl (okc_cons rfl okc_nil) (lenb rfl) norm_ ?_;refine n_t ?_)
              refine left_take 14 rfl kr_ kr_ kr_ (fun w ρ=>rfl) (fun w=>(rk_indexAddrA (.of rfl) (.of rfl) (by omega) (by omega) norm1_)) rfl ?_
              refine left_ready (rs:=[15]) (by kernel_rfl) (by simp) (List.forall_mem_cons.2 ⟨?_,fun _ h=>absurd h List.not_mem_nil⟩)
              refine next_step rfl ?_
              (refine tr_store (.of rfl) (.of rfl) .here rfl rfl (okc_cons rfl okc_nil) (lenb rfl) norm_ ?_;refine n_t ?_)
              with_reducible refine left_done (by kernel_rfl) ?_
              exact tr_cutW _ _ (by exact .cons rfl (.cons rfl (.cons rfl (.cons rfl (.cons rfl .nil))))) (by exact .cons .here (.cons .here (.cons .here (.cons .here .nil)))) hk
            · refine next_step rfl ?_
              (refine tr_store (.of rfl) (.of rfl) .here rfl rfl (okc_cons rfl okc_nil) (lenb rfl) norm_ ?_;refine n_t ?_)
              refine left_ready (rs:=[7]) (by kernel_rfl) (by simp) (List.forall_mem_cons.2 ⟨?_,fun _ h=>absurd h List.not_mem_nil⟩)
              refine next_step rfl ?_
              (refine tr_val (rk_load1 (.of rfl) (At.lit (.there (.there (.there .here))) rfl)) rfl ?_;refine n_t ?_)
              refine left_take 8 rfl kr_ kr_ kr_ (fun w ρ=>rfl) (fun w=>(rk_rem (.of rfl) (.of rfl) (by omega) (by omega))) rfl ?_
              refine left_take 9 rfl kr_ kr_ kr_ (fun w ρ=>rfl) (fun w=>rk_conv (.of rfl)) rfl ?_
              refine left_take 14 rfl kr_ kr_ kr_ (fun w ρ=>rfl) (fun w=>(rk_indexAddrA (.of rfl) (.of rfl) (by omega) (by omega) norm1_)) rfl ?_
              refine left_ready (rs:=[15]) (by kernel_rfl) (by simp) (List.forall_mem_cons.2 ⟨?_,fun _ h=>absurd h List.not_mem_nil⟩)
              refine next_step rfl ?_
              (refine tr_store (.of rfl) (.of rfl) .here rfl rfl (okc_cons rfl okc_nil) (lenb rfl) norm_ ?_;refine n_t ?_)
              with_reducible refine left_done (by kernel_rfl) ?_
              exact tr_cutW _ _ (by exact .cons rfl (.cons rfl (.cons rfl (.cons rfl (.cons rfl .nil))))) (by exact .cons .here (.cons .here (.cons .here (.cons .here .nil)))) hk
          · refine next_step rfl ?_
            (refine tr_val (rk_load1 (.of rfl) (At.lit (.there (.there (.there .here))) rfl)) rfl ?_;refine n_t ?_)
            refine left_take 8 rfl kr_ kr_ kr_ (fun w ρ=>rfl) (fun w=>(rk_rem (.of rfl) (.of rfl) (by omega) (by omega))) rfl ?_
            refine left_take 9 rfl kr_ kr_ kr_ (fun w ρ=>rfl) (fun w=>rk_conv (.of rfl)) rfl ?_
            refine left_ready (rs:=[3]) (by kernel_rfl) (by simp) (List.forall_mem_cons.2 ⟨?_,fun _ h=>absurd h List.not_mem_nil⟩)
            refine next_step rfl ?_
            (refine tr_val (rk_load1 (.of rfl) (At.lit (.there (.there (.there .here))) rfl)) rfl ?_;refine n_t ?_)
            refine left_take 4 rfl kr_ kr_ kr_ (fun w ρ=>rfl) (fun w=>(rk_quo (.of rfl) (.of rfl) (by omega) (by omega) (by omega))) rfl ?_
            refine left_take 5 rfl kr_ kr_ kr_ (fun w ρ=>rfl) (fun w=>rk_conv (.of rfl)) rfl ?_
            refine left_take 12 rfl kr_ kr_ kr_ (fun w ρ=>rfl) (fun w=>(rk_indexAddrA (.of rfl) (.of rfl) (by omega) (by omega) norm1_)) rfl ?_
            refine left_ready (rs:=[13]) (by kernel_rfl) (by simp) (List.forall_mem_cons.2 ⟨?_,fun _ h=>absurd h List.not_mem_nil⟩)
            refine next_step rfl ?_
            (refine tr_store (.of rfl) (.of rfl) .here rfl rfl (okc_cons rfl okc_nil) (lenb rfl) norm_ ?_;refine n_t ?_)
            refine left_take 14 rfl kr_ kr_ kr_ (fun w ρ=>rfl) (fun w=>(rk_indexAddrA (.of rfl) (.of rfl) (by omega) (by omega) norm1_)) rfl ?_
            refine left_ready (rs:=[15]) (by kernel_rfl) (by simp) (List.forall_mem_cons.2 ⟨?_,fun _ h=>absurd h List.not_mem_nil⟩)
            refine next_step rfl ?_
            (refine tr_store (.of rfl) (.of rfl) .here rfl rfl (okc_cons rfl okc_nil) (lenb rfl) norm_ ?_;refine n_t ?_)
            with_reducible refine left_done (by kernel_rfl) ?_
            exact tr_cutW _ _ (by exact .cons rfl (.cons rfl (.cons rfl (.cons rfl (.cons rfl .nil))))) (by exact .cons .here (.cons .here (.cons .here (.cons .here .nil)))) hk
      subst hQ
      rw [e4,e5,e6]
      (refine tr_then ?_;refine s_r ?_;refine tr_val (rk_loadB (.of rfl) .here norm_ (by rfl)) rfl ?_;refine tr_callV (rk_call (.of rfl) (.cons (.of rfl) .nil) inferInstance normc_) rfl (fun w' hm'=>(parQ_c _ _ _ _ _ _ _ 0 0 0 w')) ?_;refine tr_val (rk_indexAddrA (.of rfl) (.of rfl) (by omega) (by omega) norm1_) rfl ?_;refine tr_store (.of rfl) (.of rfl) .here rfl rfl (okc_cons rfl okc_nil) (lenb rfl) norm_ ?_;refine n_r ?_;refine tr_val (rk_indexAddrA (.of rfl) (.of rfl) (by omega) (by omega) norm1_) rfl ?_;refine tr_store (.of rfl) (.of rfl) .here rfl rfl (okc_cons rfl okc_nil) (lenb rfl) norm_ ?_;refine tr_val (rk_indexAddrA (.of rfl) (.of rfl) (by omega) (by omega) norm1_) rfl ?_;refine tr_store (.of rfl) (.of rfl) .here rfl rfl (okc_cons rfl okc_nil) (lenb rfl) norm_ ?_;refine n_r ?_;refine tr_val (rk_loadB (.of rfl) .here norm_ (by rfl)) rfl ?_;refine tr_store (.of rfl) (.of rfl) (.there (.there .here)) rfl rfl (okc_cons rfl (okc_cons rfl (okc_cons rfl (okc_cons rfl (okc_cons rfl (okc_cons rfl (okc_cons rfl (okc_cons rfl (okc_cons rfl (okc_cons rfl okc_nil)))))))))) (lenb rfl) norm_ ?_;refine n_t ?_;refine tr_ret ?_;refine tr_retE rfl (ends1cB rfl inferInstance rfl .here norm_ (by rfl)) ?_)
      rfl
  · rw [if_neg (by rw [hcd];decide)] at hrt
    have e4:IntKind.u8.wrap s.ra.fr = rtB s.ra:=by rw [hrt] at hrb ⊢;exact u8w hrb
    rename_i b1 _ b2 _ b4 _ b5 _
    refine tr_for (fun k:Nat=>k ≤ 4) (fun k=>[(6,.int .i64 k),(5,.pointer (some ⟨b5,0,none⟩)),(4,.slice (some ⟨b4,0,none⟩) 4 4),(3,.int .i64 (s.ra.fr)),(2,.pointer (some ⟨b2,0,none⟩)),(1,.pointer (some ⟨b1,0,none⟩))]) (fun k=>[blk b5 (.cells (wkQ s k).toArray 51 (0,0)),blk b4 (.cells #[.int .i64 s.la.f,.int .i64 s.la.s,.int .i64 s.la.m,.int .i64 s.la.h] 3 (0,0)),blk b2 (.cells #[.int .u8 0,.int .u8 0,.int .u8 0,.int .u8 0,.int .u8 0,.int .u8 0,.int .u8 0,.int .u8 0,.int .u8 0,.int .u8 0] 51 (0,0)),blk b1 (.cells #[.int .i64 s.ra.fr,.bool s.ra.dr,.int .i64 s.la.h,.int .i64 s.la.m,.int .i64 s.la.s,.int .i64 s.la.f,.int .i64 s.us] 50 (0,0))]) (fun k=>4 - k) ?_ ?_
    · apply tr_start 0 (show (0:Nat) ≤ 4 by omega)
      case hs1=>exact .cons rfl (.cons rfl (.cons rfl (.cons rfl (.cons rfl (.cons rfl .nil)))))
      case ht=>
        show Takes _ [blk b5 (.cells #[.int .u8 0,.int .u8 0,.int .u8 0,.int .u8 0,.int .u8 0,.int .u8 0,.int .u8 0,.int .u8 0,.int .u8 0,.int .u8 0] 51 (0,0)),blk b4 (.cells #[.int .i64 s.la.f,.int .i64 s.la.s,.int .i64 s.la.m,.int .i64 s.la.h] 3 (0,0)),blk b2 (.cells #[.int .u8 0,.int .u8 0,.int .u8 0,.int .u8 0,.int .u8 0,.int .u8 0,.int .u8 0,.int .u8 0,.int .u8 0,.int .u8 0] 51 (0,0)),blk b1 (.cells #[.int .i64 s.ra.fr,.bool s.ra.dr,.int .i64 s.la.h,.int .i64 s.la.m,.int .i64 s.la.s,.int .i64 s.la.f,.int .i64 s.us] 50 (0,0))] _
        exact .cons .here (.cons .here (.cons .here (.cons .here .nil)))
    intro k hk
    by_cases hlt:k < 4
    · obtain rfl | rfl | rfl | rfl:k = 0 ∨ k = 1 ∨ k = 2 ∨ k = 3:=by omega
      · show Tr _ [] [(6,.int .i64 0),(5,.pointer (some ⟨b5,0,none⟩)),(4,.slice (some ⟨b4,0,none⟩) 4 4),(3,.int .i64 (s.ra.fr)),(2,.pointer (some ⟨b2,0,none⟩)),(1,.pointer (some ⟨b1,0,none⟩))] [blk b5 (.cells #[.int .u8 0,.int .u8 0,.int .u8 0,.int .u8 0,.int .u8 0,.int .u8 0,.int .u8 0,.int .u8 0,.int .u8 0,.int .u8 0] 51 (0,0)),blk b4 (.cells #[.int .i64 s.la.f,.int .i64 s.la.s,.int .i64 s.la.m,.int .i64 s.la.h] 3 (0,0)),blk b2 (.cells #[.int .u8 0,.int .u8 0,.int .u8 0,.int .u8 0,.int .u8 0,.int .u8 0,.int .u8 0,.int .u8 0,.int .u8 0,.int .u8 0] 51 (0,0)),blk b1 (.cells #[.int .i64 s.ra.fr,.bool s.ra.dr,.int .i64 s.la.h,.int .i64 s.la.m,.int .i64 s.la.s,.int .i64 s.la.f,.int .i64 s.us] 50 (0,0))] _
        (refine tr_seq ?_;refine s_r ?_;refine m_v rfl rfl ?_;refine tr_val (rk_lss (.of rfl) (.of rfl)) rfl ?_;refine n_t ?_;refine c_d rfl (fun hcd=>?_) (fun _=>by omega);refine s_t ?_;refine tr_seq ?_;refine tr_block ?_)
        with_reducible refine tr_draw 15 (by kernel_rfl) ?_
        (refine a_m rfl rfl ?_;refine a_m rfl rfl ?_;refine a_m rfl rfl ?_;refine any_val (rk_indexAddr (.of rfl) (.of rfl) rfl (by omega) hcd norm1_) rfl ?_;refine any_val (rk_load1 (.of rfl) (At.lit (.there .here) rfl)) rfl ?_;refine any_val (rk_quo (.of rfl) (.of rfl) (by omega) (by omega) (by omega)) rfl ?_;refine any_val (rk_mul (.of rfl) (.of rfl) (ini (by omega))) rfl ?_;refine a_m rfl rfl ?_;refine a_m rfl rfl ?_;refine any_val (rk_indexAddr (.of rfl) (.of rfl) rfl (by omega) hcd norm1_) rfl ?_;refine any_val (rk_load1 (.of rfl) (At.lit (.there .here) rfl)) rfl ?_;refine any_val (rk_rem (.of rfl) (.of rfl) (by omega) (by omega)) rfl ?_;refine any_val (rk_add (.of rfl) (.of rfl) (ini (by omega))) rfl ?_;refine any_val (rk_conv (.of rfl)) rfl ?_;refine any_val (rk_indexAddrA (.of rfl) (.of rfl) (by omega) (by omega) norm1_) rfl ?_)
        with_reducible refine any_end ?_
        (refine tr_store (.of rfl) (.of rfl) .here rfl rfl (okc_cons rfl okc_nil) (lenb rfl) norm_ ?_;refine tr_nil ?_;refine tr_blk_normal ?_;refine tr_then ?_;refine tr_region ?_;refine m_v rfl rfl ?_;refine tr_val (rk_add (.of rfl) (.of rfl) (ini (by omega))) rfl ?_;refine a_s rfl rfl ?_;refine n_t ?_)
        rw [q0]
        apply tr_next (Φ:=fun k:Nat=>k ≤ 4) 1 (show 1 ≤ 4 from of_decide_eq_true rfl) (by show 4 - 1 < 4 - 0;omega)
        case hs1=>exact .cons rfl (.cons rfl (.cons rfl (.cons rfl (.cons rfl (.cons rfl .nil)))))
        case ht=>
          show Takes _ [blk b5 (.cells #[.int .u8 (bcd s.la.f),.int .u8 0,.int .u8 0,.int .u8 0,.int .u8 0,.int .u8 0,.int .u8 0,.int .u8 0,.int .u8 0,.int .u8 0] 51 (0,0)),blk b4 (.cells #[.int .i64 s.la.f,.int .i64 s.la.s,.int .i64 s.la.m,.int .i64 s.la.h] 3 (0,0)),blk b2 (.cells #[.int .u8 0,.int .u8 0,.int .u8 0,.int .u8 0,.int .u8 0,.int .u8 0,.int .u8 0,.int .u8 0,.int .u8 0,.int .u8 0] 51 (0,0)),blk b1 (.cells #[.int .i64 s.ra.fr,.bool s.ra.dr,.int .i64 s.la.h,.int .i64 s.la.m,.int .i64 s.la.s,.int .i64 s.la.f,.int .i64 s.us] 50 (0,0))] _
          exact .cons .here (.cons .here (.cons .here (.cons .here .nil)))
      · show Tr _ [] [(6,.int .i64 1),(5,.pointer (some ⟨b5,0,none⟩)),(4,.slice (some ⟨b4,0,none⟩) 4 4),(3,.int .i64 (s.ra.fr)),(2,.pointer (some ⟨b2,0,none⟩)),(1,.pointer (some ⟨b1,0,none⟩))] [blk b5 (.cells #[.int .u8 (bcd s.la.f),.int .u8 0,.int .u8 0,.int .u8 0,.int .u8 0,.int .u8 0,.int .u8 0,.int .u8 0,.int .u8 0,.int .u8 0] 51 (0,0)),blk b4 (.cells #[.int .i64 s.la.f,.int .i64 s.la.s,.int .i64 s.la.m,.int .i64 s.la.h] 3 (0,0)),blk b2 (.cells #[.int .u8 0,.int .u8 0,.int .u8 0,.int .u8 0,.int .u8 0,.int .u8 0,.int .u8 0,.int .u8 0,.int .u8 0,.int .u8 0] 51 (0,0)),blk b1 (.cells #[.int .i64 s.ra.fr,.bool s.ra.dr,.int .i64 s.la.h,.int .i64 s.la.m,.int .i64 s.la.s,.int .i64 s.la.f,.int .i64 s.us] 50 (0,0))] _
        (refine tr_seq ?_;refine s_r ?_;refine m_v rfl rfl ?_;refine tr_val (rk_lss (.of rfl) (.of rfl)) rfl ?_;refine n_t ?_;refine c_d rfl (fun hcd=>?_) (fun _=>by omega);refine s_t ?_;refine tr_seq ?_;refine tr_block ?_)
        with_reducible refine tr_draw 15 (by kernel_rfl) ?_
        (refine a_m rfl rfl ?_;refine a_m rfl rfl ?_;refine a_m rfl rfl ?_;refine any_val (rk_indexAddr (.of rfl) (.of rfl) rfl (by omega) hcd norm1_) rfl ?_;refine any_val (rk_load1 (.of rfl) (At.lit (.there .here) rfl)) rfl ?_;refine any_val (rk_quo (.of rfl) (.of rfl) (by omega) (by omega) (by omega)) rfl ?_;refine any_val (rk_mul (.of rfl) (.of rfl) (ini (by omega))) rfl ?_;refine a_m rfl rfl ?_;refine a_m rfl rfl ?_;refine any_val (rk_indexAddr (.of rfl) (.of rfl) rfl (by omega) hcd norm1_) rfl ?_;refine any_val (rk_load1 (.of rfl) (At.lit (.there .here) rfl)) rfl ?_;refine any_val (rk_rem (.of rfl) (.of rfl) (by omega) (by omega)) rfl ?_;refine any_val (rk_add (.of rfl) (.of rfl) (ini (by omega))) rfl ?_;refine any_val (rk_conv (.of rfl)) rfl ?_;refine any_val (rk_indexAddrA (.of rfl) (.of rfl) (by omega) (by omega) norm1_) rfl ?_)
        with_reducible refine any_end ?_
        (refine tr_store (.of rfl) (.of rfl) .here rfl rfl (okc_cons rfl okc_nil) (lenb rfl) norm_ ?_;refine tr_nil ?_;refine tr_blk_normal ?_;refine tr_then ?_;refine tr_region ?_;refine m_v rfl rfl ?_;refine tr_val (rk_add (.of rfl) (.of rfl) (ini (by omega))) rfl ?_;refine a_s rfl rfl ?_;refine n_t ?_)
        rw [q1]
        apply tr_next (Φ:=fun k:Nat=>k ≤ 4) 2 (show 2 ≤ 4 from of_decide_eq_true rfl) (by show 4 - 2 < 4 - 1;omega)
        case hs1=>exact .cons rfl (.cons rfl (.cons rfl (.cons rfl (.cons rfl (.cons rfl .nil)))))
        case ht=>
          show Takes _ [blk b5 (.cells #[.int .u8 (bcd s.la.f),.int .u8 (bcd s.la.s),.int .u8 0,.int .u8 0,.int .u8 0,.int .u8 0,.int .u8 0,.int .u8 0,.int .u8 0,.int .u8 0] 51 (0,0)),blk b4 (.cells #[.int .i64 s.la.f,.int .i64 s.la.s,.int .i64 s.la.m,.int .i64 s.la.h] 3 (0,0)),blk b2 (.cells #[.int .u8 0,.int .u8 0,.int .u8 0,.int .u8 0,.int .u8 0,.int .u8 0,.int .u8 0,.int .u8 0,.int .u8 0,.int .u8 0] 51 (0,0)),blk b1 (.cells #[.int .i64 s.ra.fr,.bool s.ra.dr,.int .i64 s.la.h,.int .i64 s.la.m,.int .i64 s.la.s,.int .i64 s.la.f,.int .i64 s.us] 50 (0,0))] _
          exact .cons .here (.cons .here (.cons .here (.cons .here .nil)))
      · show Tr _ [] [(6,.int .i64 2),(5,.pointer (some ⟨b5,0,none⟩)),(4,.slice (some ⟨b4,0,none⟩) 4 4),(3,.int .i64 (s.ra.fr)),(2,.pointer (some ⟨b2,0,none⟩)),(1,.pointer (some ⟨b1,0,none⟩))] [blk b5 (.cells #[.int .u8 (bcd s.la.f),.int .u8 (bcd s.la.s),.int .u8 0,.int .u8 0,.int .u8 0,.int .u8 0,.int .u8 0,.int .u8 0,.int .u8 0,.int .u8 0] 51 (0,0)),blk b4 (.cells #[.int .i64 s.la.f,.int .i64 s.la.s,.int .i64 s.la.m,.int .i64 s.la.h] 3 (0,0)),blk b2 (.cells #[.int .u8 0,.int .u8 0,.int .u8 0,.int .u8 0,.int .u8 0,.int .u8 0,.int .u8 0,.int .u8 0,.int .u8 0,.int .u8 0] 51 (0,0)),blk b1 (.cells #[.int .i64 s.ra.fr,.bool s.ra.dr,.int .i64 s.la.h,.int .i64 s.la.m,.int .i64 s.la.s,.int .i64 s.la.f,.int .i64 s.us] 50 (0,0))] _
        (refine tr_seq ?_;refine s_r ?_;refine m_v rfl rfl ?_;refine tr_val (rk_lss (.of rfl) (.of rfl)) rfl ?_;refine n_t ?_;refine c_d rfl (fun hcd=>?_) (fun _=>by omega);refine s_t ?_;refine tr_seq ?_;refine tr_block ?_)
        with_reducible refine tr_draw 15 (by kernel_rfl) ?_
        (refine a_m rfl rfl ?_;refine a_m rfl rfl ?_;refine a_m rfl rfl ?_;refine any_val (rk_indexAddr (.of rfl) (.of rfl) rfl (by omega) hcd norm1_) rfl ?_;refine any_val (rk_load1 (.of rfl) (At.lit (.there .here) rfl)) rfl ?_;refine any_val (rk_quo (.of rfl) (.of rfl) (by omega) (by omega) (by omega)) rfl ?_;refine any_val (rk_mul (.of rfl) (.of rfl) (ini (by omega))) rfl ?_;refine a_m rfl rfl ?_;refine a_m rfl rfl ?_;refine any_val (rk_indexAddr (.of rfl) (.of rfl) rfl (by omega) hcd norm1_) rfl ?_;refine any_val (rk_load1 (.of rfl) (At.lit (.there .here) rfl)) rfl ?_;refine any_val (rk_rem (.of rfl) (.of rfl) (by omega) (by omega)) rfl ?_;refine any_val (rk_add (.of rfl) (.of rfl) (ini (by omega))) rfl ?_;refine any_val (rk_conv (.of rfl)) rfl ?_;refine any_val (rk_indexAddrA (.of rfl) (.of rfl) (by omega) (by omega) norm1_) rfl ?_)
        with_reducible refine any_end ?_
        (refine tr_store (.of rfl) (.of rfl) .here rfl rfl (okc_cons rfl okc_nil) (lenb rfl) norm_ ?_;refine tr_nil ?_;refine tr_blk_normal ?_;refine tr_then ?_;refine tr_region ?_;refine m_v rfl rfl ?_;refine tr_val (rk_add (.of rfl) (.of rfl) (ini (by omega))) rfl ?_;refine a_s rfl rfl ?_;refine n_t ?_)
        rw [q2]
        apply tr_next (Φ:=fun k:Nat=>k ≤ 4) 3 (show 3 ≤ 4 from of_decide_eq_true rfl) (by show 4 - 3 < 4 - 2;omega)
        case hs1=>exact .cons rfl (.cons rfl (.cons rfl (.cons rfl (.cons rfl (.cons rfl .nil)))))
        case ht=>
          show Takes _ [blk b5 (.cells #[.int .u8 (bcd s.la.f),.int .u8 (bcd s.la.s),.int .u8 (bcd s.la.m),.int .u8 0,.int .u8 0,.int .u8 0,.int .u8 0,.int .u8 0,.int .u8 0,.int .u8 0] 51 (0,0)),blk b4 (.cells #[.int .i64 s.la.f,.int .i64 s.la.s,.int .i64 s.la.m,.int .i64 s.la.h] 3 (0,0)),blk b2 (.cells #[.int .u8 0,.int .u8 0,.int .u8 0,.int .u8 0,.int .u8 0,.int .u8 0,.int .u8 0,.int .u8 0,.int .u8 0,.int .u8 0] 51 (0,0)),blk b1 (.cells #[.int .i64 s.ra.fr,.bool s.ra.dr,.int .i64 s.la.h,.int .i64 s.la.m,.int .i64 s.la.s,.int .i64 s.la.f,.int .i64 s.us] 50 (0,0))] _
          exact .cons .here (.cons .here (.cons .here (.cons .here .nil)))
      · show Tr _ [] [(6,.int .i64 3),(5,.pointer (some ⟨b5,0,none⟩)),(4,.slice (some ⟨b4,0,none⟩) 4 4),(3,.int .i64 (s.ra.fr)),(2,.pointer (some ⟨b2,0,none⟩)),(1,.pointer (some ⟨b1,0,none⟩))] [blk b5 (.cells #[.int .u8 (bcd s.la.f),.int .u8 (bcd s.la.s),.int .u8 (bcd s.la.m),.int .u8 0,.int .u8 0,.int .u8 0,.int .u8 0,.int .u8 0,.int .u8 0,.int .u8 0] 51 (0,0)),blk b4 (.cells #[.int .i64 s.la.f,.int .i64 s.la.s,.int .i64 s.la.m,.int .i64 s.la.h] 3 (0,0)),blk b2 (.cells #[.int .u8 0,.int .u8 0,.int .u8 0,.int .u8 0,.int .u8 0,.int .u8 0,.int .u8 0,.int .u8 0,.int .u8 0,.int .u8 0] 51 (0,0)),blk b1 (.cells #[.int .i64 s.ra.fr,.bool s.ra.dr,.int .i64 s.la.h,.int .i64 s.la.m,.int .i64 s.la.s,.int .i64 s.la.f,.int .i64 s.us] 50 (0,0))] _
        (refine tr_seq ?_;refine s_r ?_;refine m_v rfl rfl ?_;refine tr_val (rk_lss (.of rfl) (.of rfl)) rfl ?_;refine n_t ?_;refine c_d rfl (fun hcd=>?_) (fun _=>by omega);refine s_t ?_;refine tr_seq ?_;refine tr_block ?_)
        with_reducible refine tr_draw 15 (by kernel_rfl) ?_
        (refine a_m rfl rfl ?_;refine a_m rfl rfl ?_;refine a_m rfl rfl ?_;refine any_val (rk_indexAddr (.of rfl) (.of rfl) rfl (by omega) hcd norm1_) rfl ?_;refine any_val (rk_load1 (.of rfl) (At.lit (.there .here) rfl)) rfl ?_;refine any_val (rk_quo (.of rfl) (.of rfl) (by omega) (by omega) (by omega)) rfl ?_;refine any_val (rk_mul (.of rfl) (.of rfl) (ini (by omega))) rfl ?_;refine a_m rfl rfl ?_;refine a_m rfl rfl ?_;refine any_val (rk_indexAddr (.of rfl) (.of rfl) rfl (by omega) hcd norm1_) rfl ?_;refine any_val (rk_load1 (.of rfl) (At.lit (.there .here) rfl)) rfl ?_;refine any_val (rk_rem (.of rfl) (.of rfl) (by omega) (by omega)) rfl ?_;refine any_val (rk_add (.of rfl) (.of rfl) (ini (by omega))) rfl ?_;refine any_val (rk_conv (.of rfl)) rfl ?_;refine any_val (rk_indexAddrA (.of rfl) (.of rfl) (by omega) (by omega) norm1_) rfl ?_)
        with_reducible refine any_end ?_
        (refine tr_store (.of rfl) (.of rfl) .here rfl rfl (okc_cons rfl okc_nil) (lenb rfl) norm_ ?_;refine tr_nil ?_;refine tr_blk_normal ?_;refine tr_then ?_;refine tr_region ?_;refine m_v rfl rfl ?_;refine tr_val (rk_add (.of rfl) (.of rfl) (ini (by omega))) rfl ?_;refine a_s rfl rfl ?_;refine n_t ?_)
        rw [q3]
        apply tr_next (Φ:=fun k:Nat=>k ≤ 4) 4 (show 4 ≤ 4 from of_decide_eq_true rfl) (by show 4 - 4 < 4 - 3;omega)
        case hs1=>exact .cons rfl (.cons rfl (.cons rfl (.cons rfl (.cons rfl (.cons rfl .nil)))))
        case ht=>
          show Takes _ [blk b5 (.cells #[.int .u8 (bcd s.la.f),.int .u8 (bcd s.la.s),.int .u8 (bcd s.la.m),.int .u8 (bcd s.la.h),.int .u8 0,.int .u8 0,.int .u8 0,.int .u8 0,.int .u8 0,.int .u8 0] 51 (0,0)),blk b4 (.cells #[.int .i64 s.la.f,.int .i64 s.la.s,.int .i64 s.la.m,.int .i64 s.la.h] 3 (0,0)),blk b2 (.cells #[.int .u8 0,.int .u8 0,.int .u8 0,.int .u8 0,.int .u8 0,.int .u8 0,.int .u8 0,.int .u8 0,.int .u8 0,.int .u8 0] 51 (0,0)),blk b1 (.cells #[.int .i64 s.ra.fr,.bool s.ra.dr,.int .i64 s.la.h,.int .i64 s.la.m,.int .i64 s.la.s,.int .i64 s.la.f,.int .i64 s.us] 50 (0,0))] _
          exact .cons .here (.cons .here (.cons .here (.cons .here .nil)))
    · obtain rfl:k = 4:=by omega
      show Tr _ [] [(6,.int .i64 4),(5,.pointer (some ⟨b5,0,none⟩)),(4,.slice (some ⟨b4,0,none⟩) 4 4),(3,.int .i64 (s.ra.fr)),(2,.pointer (some ⟨b2,0,none⟩)),(1,.pointer (some ⟨b1,0,none⟩))] [blk b5 (.cells #[.int .u8 (bcd s.la.f),.int .u8 (bcd s.la.s),.int .u8 (bcd s.la.m),.int .u8 (bcd s.la.h),.int .u8 0,.int .u8 0,.int .u8 0,.int .u8 0,.int .u8 0,.int .u8 0] 51 (0,0)),blk b4 (.cells #[.int .i64 s.la.f,.int .i64 s.la.s,.int .i64 s.la.m,.int .i64 s.la.h] 3 (0,0)),blk b2 (.cells #[.int .u8 0,.int .u8 0,.int .u8 0,.int .u8 0,.int .u8 0,.int .u8 0,.int .u8 0,.int .u8 0,.int .u8 0,.int .u8 0] 51 (0,0)),blk b1 (.cells #[.int .i64 s.ra.fr,.bool s.ra.dr,.int .i64 s.la.h,.int .i64 s.la.m,.int .i64 s.la.s,.int .i64 s.la.f,.int .i64 s.us] 50 (0,0))] _
      (refine tr_seq ?_;refine s_r ?_;refine m_v rfl rfl ?_;refine tr_val (rk_lss (.of rfl) (.of rfl)) rfl ?_;refine n_t ?_;refine c_d rfl (fun _=>by omega) (fun hcd=>?_);refine x_t ?_;refine tr_then_exit ?_;refine tr_blk_exit ?_;refine tr_then ?_;refine tr_seq ?_)
      generalize hQ:Exit.then _ _ = Q
      suffices hk:Tr _ [] [(5,.pointer (some ⟨b5,0,none⟩)),(4,.slice (some ⟨b4,0,none⟩) 4 4),(3,.int .i64 (s.ra.fr)),(2,.pointer (some ⟨b2,0,none⟩)),(1,.pointer (some ⟨b1,0,none⟩))] [blk b5 (.cells #[.int .u8 (bcd s.la.f),.int .u8 (bcd s.la.s),.int .u8 (bcd s.la.m),.int .u8 (bcd s.la.h),.int .u8 (IntKind.u8.wrap (s.ra.fr)),.int .u8 (IntKind.u8.wrap (s.us / 256)),.int .u8 (IntKind.u8.wrap (s.us % 256)),.int .u8 0,.int .u8 0,.int .u8 0] 51 (0,0)),blk b4 (.cells #[.int .i64 s.la.f,.int .i64 s.la.s,.int .i64 s.la.m,.int .i64 s.la.h] 3 (0,0)),blk b2 (.cells #[.int .u8 0,.int .u8 0,.int .u8 0,.int .u8 0,.int .u8 0,.int .u8 0,.int .u8 0,.int .u8 0,.int .u8 0,.int .u8 0] 51 (0,0)),blk b1 (.cells #[.int .i64 s.ra.fr,.bool s.ra.dr,.int .i64 s.la.h,.int .i64 s.la.m,.int .i64 s.la.s,.int .i64 s.la.f,.int .i64 s.us] 50 (0,0))] (Q .normal) by
        with_reducible refine tr_left 16 rfl ?_
        refine left_take 0 rfl kr_ kr_ kr_ (fun w ρ=>rfl) (fun w=>(rk_move (.of rfl))) rfl ?_
        refine left_take 1 rfl kr_ kr_ kr_ (fun w ρ=>rfl) (fun w=>rk_conv (.of rfl)) rfl ?_
        refine left_take 2 rfl kr_ kr_ kr_ (fun w ρ=>rfl) (fun w=>(rk_fieldAddr (.of rfl) norm0_)) rfl ?_
        refine left_take 6 rfl kr_ kr_ kr_ (fun w ρ=>rfl) (fun w=>(rk_fieldAddr (.of rfl) norm0_)) rfl ?_
        refine left_take 10 rfl kr_ kr_ kr_ (fun w ρ=>rfl) (fun w=>(rk_indexAddrA (.of rfl) (.of rfl) (by omega) (by omega) norm1_)) rfl ?_
        refine left_ready (rs:=[3,7,11]) (by kernel_rfl) (by simp) (List.forall_mem_cons.2 ⟨?_,List.forall_mem_cons.2 ⟨?_,List.forall_mem_cons.2 ⟨?_,fun _ h=>absurd h List.not_mem_nil⟩⟩⟩)
        · refine next_step rfl ?_
          (refine tr_val (rk_load1 (.of rfl) (At.lit (.there (.there (.there .here))) rfl)) rfl ?_;refine n_t ?_)
          refine left_take 4 rfl kr_ kr_ kr_ (fun w ρ=>rfl) (fun w=>(rk_quo (.of rfl) (.of rfl) (by omega) (by omega) (by omega))) rfl ?_
          refine left_take 5 rfl kr_ kr_ kr_ (fun w ρ=>rfl) (fun w=>rk_conv (.of rfl)) rfl ?_
          refine left_ready (rs:=[7,11]) (by kernel_rfl) (by simp) (List.forall_mem_cons.2 ⟨?_,List.forall_mem_cons.2 ⟨?_,fun _ h=>absurd h List.not_mem_nil⟩⟩)
          · refine next_step rfl ?_
            (refine tr_val (rk_load1 (.of rfl) (At.lit (.there (.there (.there .here))) rfl)) rfl ?_;refine n_t ?_)
            refine left_take 8 rfl kr_ kr_ kr_ (fun w ρ=>rfl) (fun w=>(rk_rem (.of rfl) (.of rfl) (by omega) (by omega))) rfl ?_
            refine left_take 9 rfl kr_ kr_ kr_ (fun w ρ=>rfl) (fun w=>rk_conv (.of rfl)) rfl ?_
            refine left_ready (rs:=[11]) (by kernel_rfl) (by simp) (List.forall_mem_cons.2 ⟨?_,fun _ h=>absurd h List.not_mem_nil⟩)
            refine next_step rfl ?_
            (refine tr_store (.of rfl) (.of rfl) .here rfl rfl (okc_cons rfl okc_nil) (lenb rfl) norm_ ?_;refine n_t ?_)
            refine left_take 12 rfl kr_ kr_ kr_ (fun w ρ=>rfl) (fun w=>(rk_indexAddrA (.of rfl) (.of rfl) (by omega) (by omega) norm1_)) rfl ?_
            refine left_ready (rs:=[13]) (by kernel_rfl) (by simp) (List.forall_mem_cons.2 ⟨?_,fun _ h=>absurd h List.not_mem_nil⟩)
            refine next_step rfl ?_
            (refine tr_store (.of rfl) (.of rfl) .here rfl rfl (okc_cons rfl okc_nil) (lenb rfl) norm_ ?_;refine n_t ?_)
            refine left_take 14 rfl kr_ kr_ kr_ (fun w ρ=>rfl) (fun w=>(rk_indexAddrA (.of rfl) (.of rfl) (by omega) (by omega) norm1_)) rfl ?_
            refine left_ready (rs:=[15]) (by kernel_rfl) (by simp) (List.forall_mem_cons.2 ⟨?_,fun _ h=>absurd h List.not_mem_nil⟩)
            refine next_step rfl ?_
            (refine tr_store (.of rfl) (.of rfl) .here rfl rfl (okc_cons rfl okc_nil) (lenb rfl) norm_ ?_;refine n_t ?_)
            with_reducible refine left_done (by kernel_rfl) ?_
            exact tr_cutW _ _ (by exact .cons rfl (.cons rfl (.cons rfl (.cons rfl (.cons rfl .nil))))) (by exact .cons .here (.cons .here (.cons .here (.cons .here .nil)))) hk
          · refine next_step rfl ?_
            (refine tr_store (.of rfl) (.of rfl) .here rfl rfl (okc_cons rfl okc_nil) (lenb rfl) norm_ ?_;refine n_t ?_)
            refine left_take 12 rfl kr_ kr_ kr_ (fun w ρ=>rfl) (fun w=>(rk_indexAddrA (.of rfl) (.of rfl) (by omega) (by omega) norm1_)) rfl ?_
            refine left_ready (rs:=[7,13]) (by kernel_rfl) (by simp) (List.forall_mem_cons.2 ⟨?_,List.forall_mem_cons.2 ⟨?_,fun _ h=>absurd h List.not_mem_nil⟩⟩)
            · refine next_step rfl ?_
              (refine tr_val (rk_load1 (.of rfl) (At.lit (.there (.there (.there .here))) rfl)) rfl ?_;refine n_t ?_)
              refine left_take 8 rfl kr_ kr_ kr_ (fun w ρ=>rfl) (fun w=>(rk_rem (.of rfl) (.of rfl) (by omega) (by omega))) rfl ?_
              refine left_take 9 rfl kr_ kr_ kr_ (fun w ρ=>rfl) (fun w=>rk_conv (.of rfl)) rfl ?_
              refine left_ready (rs:=[13]) (by kernel_rfl) (by simp) (List.forall_mem_cons.2 ⟨?_,fun _ h=>absurd h List.not_mem_nil⟩)
              refine next_step rfl ?_
              (refine tr_store (.of rfl) (.of rfl) .here rfl rfl (okc_cons rfl okc_nil) (lenb rfl) norm_ ?_;refine n_t ?_)
              refine left_take 14 rfl kr_ kr_ kr_ (fun w ρ=>rfl) (fun w=>(rk_indexAddrA (.of rfl) (.of rfl) (by omega) (by omega) norm1_)) rfl ?_
              refine left_ready (rs:=[15]) (by kernel_rfl) (by simp) (List.forall_mem_cons.2 ⟨?_,fun _ h=>absurd h List.not_mem_nil⟩)
              refine next_step rfl ?_
              (refine tr_store (.of rfl) (.of rfl) .here rfl rfl (okc_cons rfl okc_nil) (lenb rfl) norm_ ?_;refine n_t ?_)
              with_reducible refine left_done (by kernel_rfl) ?_
              exact tr_cutW _ _ (by exact .cons rfl (.cons rfl (.cons rfl (.cons rfl (.cons rfl .nil))))) (by exact .cons .here (.cons .here (.cons .here (.cons .here .nil)))) hk
            · refine next_step rfl ?_
              (refine tr_store (.of rfl) (.of rfl) .here rfl rfl (okc_cons rfl okc_nil) (lenb rfl) norm_ ?_;refine n_t ?_)
              refine left_ready (rs:=[7]) (by kernel_rfl) (by simp) (List.forall_mem_cons.2 ⟨?_,fun _ h=>absurd h List.not_mem_nil⟩)
              refine next_step rfl ?_
              (refine tr_val (rk_load1 (.of rfl) (At.lit (.there (.there (.there .here))) rfl)) rfl ?_;refine n_t ?_)
              refine left_take 8 rfl kr_ kr_ kr_ (fun w ρ=>rfl) (fun w=>(rk_rem (.of rfl) (.of rfl) (by omega) (by omega))) rfl ?_
              refine left_take 9 rfl kr_ kr_ kr_ (fun w ρ=>rfl) (fun w=>rk_conv (.of rfl)) rfl ?_
              refine left_take 14 rfl kr_ kr_ kr_ (fun w ρ=>rfl) (fun w=>(rk_indexAddrA (.of rfl) (.of rfl) (by omega) (by omega) norm1_)) rfl ?_
              refine left_ready (rs:=[15]) (by kernel_rfl) (by simp) (List.forall_mem_cons.2 ⟨?_,fun _ h=>absurd h List.not_mem_nil⟩)
              refine next_step rfl ?_
              (refine tr_store (.of rfl) (.of rfl) .here rfl rfl (okc_cons rfl okc_nil) (lenb rfl) norm_ ?_;refine n_t ?_)
              with_reducible refine left_done (by kernel_rfl) ?_
              exact tr_cutW _ _ (by exact .cons rfl (.cons rfl (.cons rfl (.cons rfl (.cons rfl .nil))))) (by exact .cons .here (.cons .here (.cons .here (.cons .here .nil)))) hk
        · refine next_step rfl ?_
          (refine tr_val (rk_load1 (.of rfl) (At.lit (.there (.there (.there .here))) rfl)) rfl ?_;refine n_t ?_)
          refine left_take 8 rfl kr_ kr_ kr_ (fun w ρ=>rfl) (fun w=>(rk_rem (.of rfl) (.of rfl) (by omega) (by omega))) rfl ?_
          refine left_take 9 rfl kr_ kr_ kr_ (fun w ρ=>rfl) (fun w=>rk_conv (.of rfl)) rfl ?_
          refine left_ready (rs:=[3,11]) (by kernel_rfl) (by simp) (List.forall_mem_cons.2 ⟨?_,List.forall_mem_cons.2 ⟨?_,fun _ h=>absurd h List.not_mem_nil⟩⟩)
          · refine next_step rfl ?_
            (refine tr_val (rk_load1 (.of rfl) (At.lit (.there (.there (.there .here))) rfl)) rfl ?_;refine n_t ?_)
            refine left_take 4 rfl kr_ kr_ kr_ (fun w ρ=>rfl) (fun w=>(rk_quo (.of rfl) (.of rfl) (by omega) (by omega) (by omega))) rfl ?_
            refine left_take 5 rfl kr_ kr_ kr_ (fun w ρ=>rfl) (fun w=>rk_conv (.of rfl)) rfl ?_
            refine left_ready (rs:=[11]) (by kernel_rfl) (by simp) (List.forall_mem_cons.2 ⟨?_,fun _ h=>absurd h List.not_mem_nil⟩)
            refine next_step rfl ?_
            (refine tr_store (.of rfl) (.of rfl) .here rfl rfl (okc_cons rfl okc_nil) (lenb rfl) norm_ ?_;refine n_t ?_)
            refine left_take 12 rfl kr_ kr_ kr_ (fun w ρ=>rfl) (fun w=>(rk_indexAddrA (.of rfl) (.of rfl) (by omega) (by omega) norm1_)) rfl ?_
            refine left_ready (rs:=[13]) (by kernel_rfl) (by simp) (List.forall_mem_cons.2 ⟨?_,fun _ h=>absurd h List.not_mem_nil⟩)
            refine next_step rfl ?_
            (refine tr_store (.of rfl) (.of rfl) .here rfl rfl (okc_cons rfl okc_nil) (lenb rfl) norm_ ?_;refine n_t ?_)
            refine left_take 14 rfl kr_ kr_ kr_ (fun w ρ=>rfl) (fun w=>(rk_indexAddrA (.of rfl) (.of rfl) (by omega) (by omega) norm1_)) rfl ?_
            refine left_ready (rs:=[15]) (by kernel_rfl) (by simp) (List.forall_mem_cons.2 ⟨?_,fun _ h=>absurd h List.not_mem_nil⟩)
            refine next_step rfl ?_
            (refine tr_store (.of rfl) (.of rfl) .here rfl rfl (okc_cons rfl okc_nil) (lenb rfl) norm_ ?_;refine n_t ?_)
            with_reducible refine left_done (by kernel_rfl) ?_
            exact tr_cutW _ _ (by exact .cons rfl (.cons rfl (.cons rfl (.cons rfl (.cons rfl .nil))))) (by exact .cons .here (.cons .here (.cons .here (.cons .here .nil)))) hk
          · refine next_step rfl ?_
            (refine tr_store (.of rfl) (.of rfl) .here rfl rfl (okc_cons rfl okc_nil) (lenb rfl) norm_ ?_;refine n_t ?_)
            refine left_ready (rs:=[3]) (by kernel_rfl) (by simp) (List.forall_mem_cons.2 ⟨?_,fun _ h=>absurd h List.not_mem_nil⟩)
            refine next_step rfl ?_
            (refine tr_val (rk_load1 (.of rfl) (At.lit (.there (.there (.there .here))) rfl)) rfl ?_;refine n_t ?_)
            refine left_take 4 rfl kr_ kr_ kr_ (fun w ρ=>rfl) (fun w=>(rk_quo (.of rfl) (.of rfl) (by omega) (by omega) (by omega))) rfl ?_
            refine left_take 5 rfl kr_ kr_ kr_ (fun w ρ=>rfl) (fun w=>rk_conv (.of rfl)) rfl ?_
            refine left_take 12 rfl kr_ kr_ kr_ (fun w ρ=>rfl) (fun w=>(rk_indexAddrA (.of rfl) (.of rfl) (by omega) (by omega) norm1_)) rfl ?_
            refine left_ready (rs:=[13]) (by kernel_rfl) (by simp) (List.forall_mem_cons.2 ⟨?_,fun _ h=>absurd h List.not_mem_nil⟩)
            refine next_step rfl ?_
            (refine tr_store (.of rfl) (.of rfl) .here rfl rfl (okc_cons rfl okc_nil) (lenb rfl) norm_ ?_;refine n_t ?_)
            refine left_take 14 rfl kr_ kr_ kr_ (fun w ρ=>rfl) (fun w=>(rk_indexAddrA (.of rfl) (.of rfl) (by omega) (by omega) norm1_)) rfl ?_
            refine left_ready (rs:=[15]) (by kernel_rfl) (by simp) (List.forall_mem_cons.2 ⟨?_,fun _ h=>absurd h List.not_mem_nil⟩)
            refine next_step rfl ?_
            (refine tr_store (.of rfl) (.of rfl) .here rfl rfl (okc_cons rfl okc_nil) (lenb rfl) norm_ ?_;refine n_t ?_)
            with_reducible refine left_done (by kernel_rfl) ?_
            exact tr_cutW _ _ (by exact .cons rfl (.cons rfl (.cons rfl (.cons rfl (.cons rfl .nil))))) (by exact .cons .here (.cons .here (.cons .here (.cons .here .nil)))) hk
        · refine next_step rfl ?_
          (refine tr_store (.of rfl) (.of rfl) .here rfl rfl (okc_cons rfl okc_nil) (lenb rfl) norm_ ?_;refine n_t ?_)
          refine left_ready (rs:=[3,7]) (by kernel_rfl) (by simp) (List.forall_mem_cons.2 ⟨?_,List.forall_mem_cons.2 ⟨?_,fun _ h=>absurd h List.not_mem_nil⟩⟩)
          · refine next_step rfl ?_
            (refine tr_val (rk_load1 (.of rfl) (At.lit (.there (.there (.there .here))) rfl)) rfl ?_;refine n_t ?_)
            refine left_take 4 rfl kr_ kr_ kr_ (fun w ρ=>rfl) (fun w=>(rk_quo (.of rfl) (.of rfl) (by omega) (by omega) (by omega))) rfl ?_
            refine left_take 5 rfl kr_ kr_ kr_ (fun w ρ=>rfl) (fun w=>rk_conv (.of rfl)) rfl ?_
            refine left_take 12 rfl kr_ kr_ kr_ (fun w ρ=>rfl) (fun w=>(rk_indexAddrA (.of rfl) (.of rfl) (by omega) (by omega) norm1_)) rfl ?_
            refine left_ready (rs:=[7,13]) (by kernel_rfl) (by simp) (List.forall_mem_cons.2 ⟨?_,List.forall_mem_cons.2 ⟨?_,fun _ h=>absurd h List.not_mem_nil⟩⟩)
            · refine next_step rfl ?_
              (refine tr_val (rk_load1 (.of rfl) (At.lit (.there (.there (.there .here))) rfl)) rfl ?_;refine n_t ?_)
              refine left_take 8 rfl kr_ kr_ kr_ (fun w ρ=>rfl) (fun w=>(rk_rem (.of rfl) (.of rfl) (by omega) (by omega))) rfl ?_
              refine left_take 9 rfl kr_ kr_ kr_ (fun w ρ=>rfl) (fun w=>rk_conv (.of rfl)) rfl ?_
              refine left_ready (rs:=[13]) (by kernel_rfl) (by simp) (List.forall_mem_cons.2 ⟨?_,fun _ h=>absurd h List.not_mem_nil⟩)
              refine next_step rfl ?_
              (refine tr_store (.of rfl) (.of rfl) .here rfl rfl (okc_cons rfl okc_nil) (lenb rfl) norm_ ?_;refine n_t ?_)
              refine left_take 14 rfl kr_ kr_ kr_ (fun w ρ=>rfl) (fun w=>(rk_indexAddrA (.of rfl) (.of rfl) (by omega) (by omega) norm1_)) rfl ?_
              refine left_ready (rs:=[15]) (by kernel_rfl) (by simp) (List.forall_mem_cons.2 ⟨?_,fun _ h=>absurd h List.not_mem_nil⟩)
              refine next_step rfl ?_
              (refine tr_store (.of rfl) (.of rfl) .here rfl rfl (okc_cons rfl okc_nil) (lenb rfl) norm_ ?_;refine n_t ?_)
              with_reducible refine left_done (by kernel_rfl) ?_
              exact tr_cutW _ _ (by exact .cons rfl (.cons rfl (.cons rfl (.cons rfl (.cons rfl .nil))))) (by exact .cons .here (.cons .here (.cons .here (.cons .here .nil)))) hk
            · refine next_step rfl ?_
              (refine tr_store (.of rfl) (.of rfl) .here rfl rfl (okc_cons rfl okc_nil) (lenb rfl) norm_ ?_;refine n_t ?_)
              refine left_ready (rs:=[7]) (by kernel_rfl) (by simp) (List.forall_mem_cons.2 ⟨?_,fun _ h=>absurd h List.not_mem_nil⟩)
              refine next_step rfl ?_
              (refine tr_val (rk_load1 (.of rfl) (At.lit (.there (.there (.there .here))) rfl)) rfl ?_;refine n_t ?_)
              refine left_take 8 rfl kr_ kr_ kr_ (fun w ρ=>rfl) (fun w=>(rk_rem (.of rfl) (.of rfl) (by omega) (by omega))) rfl ?_
              refine left_take 9 rfl kr_ kr_ kr_ (fun w ρ=>rfl) (fun w=>rk_conv (.of rfl)) rfl ?_
              refine left_take 14 rfl kr_ kr_ kr_ (fun w ρ=>rfl) (fun w=>(rk_indexAddrA (.of rfl) (.of rfl) (by omega) (by omega) norm1_)) rfl ?_
              refine left_ready (rs:=[15]) (by kernel_rfl) (by simp) (List.forall_mem_cons.2 ⟨?_,fun _ h=>absurd h List.not_mem_nil⟩)
              refine next_step rfl ?_
              (refine tr_store (.of rfl) (.of rfl) .here rfl rfl (okc_cons rfl okc_nil) (lenb rfl) norm_ ?_;refine n_t ?_)
              with_reducible refine left_done (by kernel_rfl) ?_
              exact tr_cutW _ _ (by exact .cons rfl (.cons rfl (.cons rfl (.cons rfl (.cons rfl .nil))))) (by exact .cons .here (.cons .here (.cons .here (.cons .here .nil)))) hk
          · refine next_step rfl ?_
            (refine tr_val (rk_load1 (.of rfl) (At.lit (.there (.there (.there .here))) rfl)) rfl ?_;refine n_t ?_)
            refine left_take 8 rfl kr_ kr_ kr_ (fun w ρ=>rfl) (fun w=>(rk_rem (.of rfl) (.of rfl) (by omega) (by omega))) rfl ?_
            refine left_take 9 rfl kr_ kr_ kr_ (fun w ρ=>rfl) (fun w=>rk_conv (.of rfl)) rfl ?_
            refine left_ready (rs:=[3]) (by kernel_rfl) (by simp) (List.forall_mem_cons.2 ⟨?_,fun _ h=>absurd h List.not_mem_nil⟩)
            refine next_step rfl ?_
            (refine tr_val (rk_load1 (.of rfl) (At.lit (.there (.there (.there .here))) rfl)) rfl ?_;refine n_t ?_)
            refine left_take 4 rfl kr_ kr_ kr_ (fun w ρ=>rfl) (fun w=>(rk_quo (.of rfl) (.of rfl) (by omega) (by omega) (by omega))) rfl ?_
            refine left_take 5 rfl kr_ kr_ kr_ (fun w ρ=>rfl) (fun w=>rk_conv (.of rfl)) rfl ?_
            refine left_take 12 rfl kr_ kr_ kr_ (fun w ρ=>rfl) (fun w=>(rk_indexAddrA (.of rfl) (.of rfl) (by omega) (by omega) norm1_)) rfl ?_
            refine left_ready (rs:=[13]) (by kernel_rfl) (by simp) (List.forall_mem_cons.2 ⟨?_,fun _ h=>absurd h List.not_mem_nil⟩)
            refine next_step rfl ?_
            (refine tr_store (.of rfl) (.of rfl) .here rfl rfl (okc_cons rfl okc_nil) (lenb rfl) norm_ ?_;refine n_t ?_)
            refine left_take 14 rfl kr_ kr_ kr_ (fun w ρ=>rfl) (fun w=>(rk_indexAddrA (.of rfl) (.of rfl) (by omega) (by omega) norm1_)) rfl ?_
            refine left_ready (rs:=[15]) (by kernel_rfl) (by simp) (List.forall_mem_cons.2 ⟨?_,fun _ h=>absurd h List.not_mem_nil⟩)
            refine next_step rfl ?_
            (refine tr_store (.of rfl) (.of rfl) .here rfl rfl (okc_cons rfl okc_nil) (lenb rfl) norm_ ?_;refine n_t ?_)
            with_reducible refine left_done (by kernel_rfl) ?_
            exact tr_cutW _ _ (by exact .cons rfl (.cons rfl (.cons rfl (.cons rfl (.cons rfl .nil))))) (by exact .cons .here (.cons .here (.cons .here (.cons .here .nil)))) hk
      subst hQ
      rw [e4,e5,e6]
      (refine tr_then ?_;refine s_r ?_;refine tr_val (rk_loadB (.of rfl) .here norm_ (by rfl)) rfl ?_;refine tr_callV (rk_call (.of rfl) (.cons (.of rfl) .nil) inferInstance normc_) rfl (fun w' hm'=>(parQ_c _ _ _ _ _ _ _ 0 0 0 w')) ?_;refine tr_val (rk_indexAddrA (.of rfl) (.of rfl) (by omega) (by omega) norm1_) rfl ?_;refine tr_store (.of rfl) (.of rfl) .here rfl rfl (okc_cons rfl okc_nil) (lenb rfl) norm_ ?_;refine n_r ?_;refine tr_val (rk_indexAddrA (.of rfl) (.of rfl) (by omega) (by omega) norm1_) rfl ?_;refine tr_store (.of rfl) (.of rfl) .here rfl rfl (okc_cons rfl okc_nil) (lenb rfl) norm_ ?_;refine tr_val (rk_indexAddrA (.of rfl) (.of rfl) (by omega) (by omega) norm1_) rfl ?_;refine tr_store (.of rfl) (.of rfl) .here rfl rfl (okc_cons rfl okc_nil) (lenb rfl) norm_ ?_;refine n_r ?_;refine tr_val (rk_loadB (.of rfl) .here norm_ (by rfl)) rfl ?_;refine tr_store (.of rfl) (.of rfl) (.there (.there .here)) rfl rfl (okc_cons rfl (okc_cons rfl (okc_cons rfl (okc_cons rfl (okc_cons rfl (okc_cons rfl (okc_cons rfl (okc_cons rfl (okc_cons rfl (okc_cons rfl okc_nil)))))))))) (lenb rfl) norm_ ?_;refine n_t ?_;refine tr_ret ?_;refine tr_retE rfl (ends1cB rfl inferInstance rfl .here norm_ (by rfl)) ?_)
      rfl
end Go.Proofs.A1
