/- Parts of the proof: U34 U36. -/
import Derived.Test.YthhidjfahmcekaaGreatDoorHM18
import Derived.Test.YthhidjfahmcekaaGreatDoorHM11
import Derived.Test.YthhidjfahmcekaaGreatDoorHM06
import Derived.Test.YthhidjfahmcekaaGreatDoorHM17
set_option linter.unusedSectionVars false
set_option linter.unusedVariables false
set_option linter.unusedSimpArgs false
namespace Go.Proofs.A1
open Go Go.SL
theorem bad_ofQ {a:Int} (h:9 < a / 16 ∨ 9 < a % 16):badD a = true:=by
  unfold badD
  rw [Bool.or_eq_true,decide_eq_true_eq,decide_eq_true_eq];exact h
theorem bad_notQ {a:Int} (h:¬ (9 < a / 16 ∨ 9 < a % 16)):badD a = false:=by
  unfold badD
  rw [Bool.or_eq_false_iff,decide_eq_false_iff_not,decide_eq_false_iff_not];omega
def fourK (a0 a1 a2 a3:Int) (k:Nat):List Value:=[.int .i64 (if 0 < k then unb a0 else 0),.int .i64 (if 1 < k then unb a1 else 0),.int .i64 (if 2 < k then unb a2 else 0),.int .i64 (if 3 < k then unb a3 else 0)]
set_option maxHeartbeats 4000000 in
theorem readQ10_c (a0 a1 a2 a3 a4 a5 a6 a7 a8 a9:Int) (hb:∀ x ∈ [a0,a1,a2,a3,a4,a5,a6,a7,a8,a9],0 ≤ x ∧ x ≤ 255) (w:World):GivesV Tryz.prog 39 [.agg #[.int .u8 a0,.int .u8 a1,.int .u8 a2,.int .u8 a3,.int .u8 a4,.int .u8 a5,.int .u8 a6,.int .u8 a7,.int .u8 a8,.int .u8 a9]] w (.tuple #[.agg (rdF [a0,a1,a2,a3,a4,a5,a6,a7,a8,a9]).cells.toArray,.int .i64 (rdE [a0,a1,a2,a3,a4,a5,a6,a7,a8,a9])]):=by
  have h0:0 ≤ a0 ∧ a0 ≤ 255:=hb _ (by simp)
  have h1:0 ≤ a1 ∧ a1 ≤ 255:=hb _ (by simp)
  have h2:0 ≤ a2 ∧ a2 ≤ 255:=hb _ (by simp)
  have h3:0 ≤ a3 ∧ a3 ≤ 255:=hb _ (by simp)
  have h4:0 ≤ a4 ∧ a4 ≤ 255:=hb _ (by simp)
  have h5:0 ≤ a5 ∧ a5 ≤ 255:=hb _ (by simp)
  have h6:0 ≤ a6 ∧ a6 ≤ 255:=hb _ (by simp)
  have h7:0 ≤ a7 ∧ a7 ≤ 255:=hb _ (by simp)
  have h8:0 ≤ a8 ∧ a8 ≤ 255:=hb _ (by simp)
  have h9:0 ≤ a9 ∧ a9 ≤ 255:=hb _ (by simp)
  refine givesV_of_tr Tryz.func39 rfl rfl ?_
  (refine s_r ?_;refine tr_new (rk_box (.of rfl) rfl) rfl (fun _ _=>?_);refine tr_new (rk_alloc rfl) rfl (fun _ _=>?_);refine a_s rfl rfl ?_;refine n_t ?_;refine tr_seq ?_;refine s_r ?_;refine tr_val (rk_indexAddrA (.of rfl) (.of rfl) (by omega) (by omega) norm1_) rfl ?_;refine tr_val (rk_load1 (.of rfl) (At.lit (.there .here) rfl)) rfl ?_;refine tr_val (rk_neq (.of rfl) (.of rfl)) rfl ?_;refine m_v rfl rfl ?_;refine tr_vG1 rfl rfl inferInstance (fun hg hgp=>(rk_indexAddrA (.of rfl) (.of rfl) (by omega) (by omega) norm1_)) rfl ?_;refine tr_vG1 rfl rfl inferInstance (fun hg hgp=>(rk_load1 (.ofg hg rfl) (At.lit (.there .here) rfl))) rfl ?_;refine tr_vG1 rfl rfl inferInstance (fun hg hgp=>(rk_neq (.ofg hg rfl) (.of rfl))) rfl ?_;refine tr_val (rk_pick_or (.of rfl) rfl) rfl ?_;refine n_t ?_;refine c_b rfl (fun hcd=>?_) (fun hcd=>?_);refine s_r ?_;refine tr_val (rk_buildL .nil norm_) rfl ?_;refine tr_store (.of rfl) (.of rfl) .here rfl rfl (okc_cons rfl (okc_cons rfl (okc_cons rfl (okc_cons rfl (okc_cons rfl (okc_cons rfl (okc_cons rfl okc_nil))))))) (lenb rfl) norm_ ?_;refine a_s rfl rfl ?_;refine n_t ?_;refine r_t ?_;refine tr_retE rfl (endsCT rfl inferInstance rfl .here norm_ (by rfl) (by rfl)) ?_;rotate_left;refine s_t ?_;refine tr_seq ?_;refine tr_seq ?_;rotate_right)
  · obtain ⟨e1,e2⟩:=rdE_9 (W:=[a0,a1,a2,a3,a4,a5,a6,a7,a8,a9]) (by
      show a8 ≠ 63 ∨ a9 ≠ 253
      simpa using hcd)
    rw [e1,e2];rfl
  have n9:¬ (wa [a0,a1,a2,a3,a4,a5,a6,a7,a8,a9] 8 ≠ 63 ∨ wa [a0,a1,a2,a3,a4,a5,a6,a7,a8,a9] 9 ≠ 253):=by
    show ¬ (a8 ≠ 63 ∨ a9 ≠ 253)
    simpa using hcd
  clear hcd
  rename_i b1 hb1 b2 hb2
  with_reducible refine tr_draw 5 (by kernel_rfl) ?_
  (refine any_val (rk_indexAddrA (.of rfl) (.of rfl) (by omega) (by omega) norm1_) rfl ?_;refine any_val (rk_load1 (.of rfl) (At.lit (.there .here) rfl)) rfl ?_;refine any_val (rk_loadB (.of rfl) (.there .here) norm_ (by rfl)) rfl ?_;refine any_call (rk_call (.of rfl) (.cons (.of rfl) .nil) inferInstance normc_) rfl (fun w' hm'=>(parQ_c a0 a1 a2 a3 a4 a5 a6 a7 a8 a9 w')) ?_;refine any_val (rk_neq (.of rfl) (.of rfl)) rfl ?_)
  with_reducible refine any_end ?_
  (refine n_t ?_;refine c_d rfl (fun hcd=>?_) (fun hcd=>?_);refine s_r ?_;refine tr_val (rk_buildL .nil norm_) rfl ?_;refine tr_store (.of rfl) (.of rfl) .here rfl rfl (okc_cons rfl (okc_cons rfl (okc_cons rfl (okc_cons rfl (okc_cons rfl (okc_cons rfl (okc_cons rfl okc_nil))))))) (lenb rfl) norm_ ?_;refine a_s rfl rfl ?_;refine n_t ?_;refine r_t ?_;refine tr_retE rfl (endsCT rfl inferInstance rfl .here norm_ (by rfl) (by rfl)) ?_;rotate_left;refine s_t ?_;refine s_r ?_;refine tr_new (rk_alloc rfl) rfl (fun _ _=>?_);refine n_t ?_;refine tr_seq ?_;refine s_r ?_;refine a_s rfl rfl ?_;refine n_t ?_;refine tr_block ?_;rotate_right)
  · obtain ⟨e1,e2⟩:=rdE_7 n9 (by
      show parF [a0,a1,a2,a3,a4,a5,a6] ≠ a7
      intro e;exact hcd (by simpa using e.symm))
    rw [e1,e2];rfl
  have n7:¬ parF (List.take 7 [a0,a1,a2,a3,a4,a5,a6,a7,a8,a9]) ≠ wa [a0,a1,a2,a3,a4,a5,a6,a7,a8,a9] 7:=by
    show ¬ parF [a0,a1,a2,a3,a4,a5,a6] ≠ a7
    intro e;exact hcd (fun h=>e (by simpa using h.symm))
  clear hcd
  rename_i b4 hb4
  refine tr_for (fun k:Nat=>k ≤ 4 ∧ (0 < k → badD a0 = false) ∧ (1 < k → badD a1 = false) ∧ (2 < k → badD a2 = false) ∧ (3 < k → badD a3 = false)) (fun k=>[(5,.int .i64 k),(4,.pointer (some ⟨b4,0,none⟩)),(3,.int .i64 0),(2,.pointer (some ⟨b2,0,none⟩)),(1,.pointer (some ⟨b1,0,none⟩))]) (fun k=>[blk b4 (.cells (fourK a0 a1 a2 a3 k).toArray 210 (0,0)),blk b2 (.cells #[.int .i64 0,.bool false,.int .i64 0,.int .i64 0,.int .i64 0,.int .i64 0,.int .i64 0] 50 (0,0)),blk b1 (.cells #[.int .u8 a0,.int .u8 a1,.int .u8 a2,.int .u8 a3,.int .u8 a4,.int .u8 a5,.int .u8 a6,.int .u8 a7,.int .u8 a8,.int .u8 a9] 51 (0,0))]) (fun k=>4 - k) ?_ ?_
  · apply tr_start 0 ⟨show (0:Nat) ≤ 4 by omega,fun h=>absurd h (by decide),fun h=>absurd h (by decide),fun h=>absurd h (by decide),fun h=>absurd h (by decide)⟩
    case hs1=>exact .cons rfl (.cons rfl (.cons rfl (.cons rfl (.cons rfl .nil))))
    case ht=>
      show Takes _ [blk b4 (.cells #[.int .i64 0,.int .i64 0,.int .i64 0,.int .i64 0] 210 (0,0)),blk b2 (.cells #[.int .i64 0,.bool false,.int .i64 0,.int .i64 0,.int .i64 0,.int .i64 0,.int .i64 0] 50 (0,0)),blk b1 (.cells #[.int .u8 a0,.int .u8 a1,.int .u8 a2,.int .u8 a3,.int .u8 a4,.int .u8 a5,.int .u8 a6,.int .u8 a7,.int .u8 a8,.int .u8 a9] 51 (0,0))] _
      exact .cons .here (.cons .here (.cons .here .nil))
  rintro k ⟨hk,hd0,hd1,hd2,hd3⟩
  by_cases hlt:k < 4
  · obtain rfl | rfl | rfl | rfl:k = 0 ∨ k = 1 ∨ k = 2 ∨ k = 3:=by omega
    · show Tr _ [] [(5,.int .i64 0),(4,.pointer (some ⟨b4,0,none⟩)),(3,.int .i64 0),(2,.pointer (some ⟨b2,0,none⟩)),(1,.pointer (some ⟨b1,0,none⟩))] [blk b4 (.cells #[.int .i64 0,.int .i64 0,.int .i64 0,.int .i64 0] 210 (0,0)),blk b2 (.cells #[.int .i64 0,.bool false,.int .i64 0,.int .i64 0,.int .i64 0,.int .i64 0,.int .i64 0] 50 (0,0)),blk b1 (.cells #[.int .u8 a0,.int .u8 a1,.int .u8 a2,.int .u8 a3,.int .u8 a4,.int .u8 a5,.int .u8 a6,.int .u8 a7,.int .u8 a8,.int .u8 a9] 51 (0,0))] _
      have w0:IntKind.i64.wrap a0 = a0:=i64w (by omega)
      have u0:10 * (a0 / 16) + a0 % 16 = unb a0:=by unfold unb;omega
      (refine tr_seq ?_;refine s_r ?_;refine m_v rfl rfl ?_;refine tr_val (rk_lss (.of rfl) (.of rfl)) rfl ?_;refine n_t ?_;refine c_d rfl (fun hcd=>?_) (fun _=>by omega);refine s_t ?_;refine tr_seq ?_;refine tr_block ?_;refine tr_seq ?_)
      with_reducible refine tr_draw 12 (by kernel_rfl) ?_
      (refine a_m rfl rfl ?_;refine any_val (rk_indexAddrA (.of rfl) (.of rfl) (by omega) (by omega) norm1_) rfl ?_;refine any_val (rk_load1 (.of rfl) (At.lit (.there (.there .here)) rfl)) rfl ?_;refine any_val (rk_conv (.of rfl)) rfl ?_;refine any_val (rk_quo (.of rfl) (.of rfl) (by omega) (by omega) (by omega)) rfl ?_;refine a_m rfl rfl ?_;refine any_val (rk_indexAddrA (.of rfl) (.of rfl) (by omega) (by omega) norm1_) rfl ?_;refine any_val (rk_load1 (.of rfl) (At.lit (.there (.there .here)) rfl)) rfl ?_;refine any_val (rk_conv (.of rfl)) rfl ?_;refine any_val (rk_rem (.of rfl) (.of rfl) (by omega) (by omega)) rfl ?_;refine any_val (rk_assign (.of rfl)) rfl ?_;refine any_val (rk_assign (.of rfl)) rfl ?_)
      try rw [w0]
      skip
      try rw [w0]
      skip
      with_reducible refine any_end ?_
      (refine n_t ?_;refine tr_seq ?_;refine s_r ?_;refine m_v rfl rfl ?_;refine tr_val (rk_gtr (.of rfl) (.of rfl)) rfl ?_;refine m_v rfl rfl ?_;refine v_g rfl rfl rfl rfl ?_;refine tr_vG1 rfl rfl inferInstance (fun hg hgp=>(rk_gtr (.ofg hg rfl) (.of rfl))) rfl ?_;refine tr_val (rk_pick_or (.of rfl) rfl) rfl ?_;refine n_t ?_;refine c_b rfl (fun hcd=>?_) (fun hcd=>?_);refine s_r ?_;refine tr_val (rk_buildL .nil norm_) rfl ?_;refine tr_store (.of rfl) (.of rfl) (.there .here) rfl rfl (okc_cons rfl (okc_cons rfl (okc_cons rfl (okc_cons rfl (okc_cons rfl (okc_cons rfl (okc_cons rfl okc_nil))))))) (lenb rfl) norm_ ?_;refine a_s rfl rfl ?_;refine n_t ?_;refine r_t ?_;refine tr_blk_ret ?_;refine tr_then_ret ?_;refine tr_then_ret ?_;refine tr_blk_ret ?_;refine tr_then_ret ?_;refine tr_retE rfl (endsCT rfl inferInstance rfl .here norm_ (by rfl) (by rfl)) ?_;rotate_left;refine s_t ?_;refine tr_region ?_;refine m_v rfl rfl ?_;refine m_v rfl rfl ?_;refine tr_val (rk_mul (.of rfl) (.of rfl) (ini (by omega))) rfl ?_;refine m_v rfl rfl ?_;refine tr_val (rk_add (.of rfl) (.of rfl) (ini (by omega))) rfl ?_;refine tr_val (rk_indexAddrA (.of rfl) (.of rfl) (by omega) (by assumption) norm1_) rfl ?_;refine tr_store (.of rfl) (.of rfl) .here rfl rfl (okc_cons rfl okc_nil) (lenb rfl) norm_ ?_;refine tr_nil ?_;refine tr_blk_normal ?_;refine tr_then ?_;refine tr_region ?_;refine m_v rfl rfl ?_;refine tr_val (rk_add (.of rfl) (.of rfl) (ini (by omega))) rfl ?_;refine a_s rfl rfl ?_;refine n_t ?_;rotate_right)
      · obtain ⟨e1,e2⟩:=rdE_d n9 n7 (by
          have:=bad_ofQ (a:=a0) (by simpa using hcd)
          show (badD a0 || badD a1 || badD a2 || badD a3) = true
          rw [this];simp)
        rw [e1,e2];rfl
      have hbd:=bad_notQ (a:=a0) (by simpa using hcd)
      clear hcd
      rw [u0]
      apply tr_next (Φ:=fun k:Nat=>k ≤ 4 ∧ (0 < k → badD a0 = false) ∧ (1 < k → badD a1 = false) ∧ (2 < k → badD a2 = false) ∧ (3 < k → badD a3 = false)) 1 ⟨show 1 ≤ 4 from of_decide_eq_true rfl,fun _=>hbd,fun h=>absurd h (by decide),fun h=>absurd h (by decide),fun h=>absurd h (by decide)⟩ (by show 4 - 1 < 4 - 0;omega)
      case hs1=>exact .cons rfl (.cons rfl (.cons rfl (.cons rfl (.cons rfl .nil))))
      case ht=>
        show Takes _ [blk b4 (.cells #[.int .i64 (unb a0),.int .i64 0,.int .i64 0,.int .i64 0] 210 (0,0)),blk b2 (.cells #[.int .i64 0,.bool false,.int .i64 0,.int .i64 0,.int .i64 0,.int .i64 0,.int .i64 0] 50 (0,0)),blk b1 (.cells #[.int .u8 a0,.int .u8 a1,.int .u8 a2,.int .u8 a3,.int .u8 a4,.int .u8 a5,.int .u8 a6,.int .u8 a7,.int .u8 a8,.int .u8 a9] 51 (0,0))] _
        exact .cons .here (.cons .here (.cons .here .nil))
    · show Tr _ [] [(5,.int .i64 1),(4,.pointer (some ⟨b4,0,none⟩)),(3,.int .i64 0),(2,.pointer (some ⟨b2,0,none⟩)),(1,.pointer (some ⟨b1,0,none⟩))] [blk b4 (.cells #[.int .i64 (unb a0),.int .i64 0,.int .i64 0,.int .i64 0] 210 (0,0)),blk b2 (.cells #[.int .i64 0,.bool false,.int .i64 0,.int .i64 0,.int .i64 0,.int .i64 0,.int .i64 0] 50 (0,0)),blk b1 (.cells #[.int .u8 a0,.int .u8 a1,.int .u8 a2,.int .u8 a3,.int .u8 a4,.int .u8 a5,.int .u8 a6,.int .u8 a7,.int .u8 a8,.int .u8 a9] 51 (0,0))] _
      have w0:IntKind.i64.wrap a1 = a1:=i64w (by omega)
      have u0:10 * (a1 / 16) + a1 % 16 = unb a1:=by unfold unb;omega
      (refine tr_seq ?_;refine s_r ?_;refine m_v rfl rfl ?_;refine tr_val (rk_lss (.of rfl) (.of rfl)) rfl ?_;refine n_t ?_;refine c_d rfl (fun hcd=>?_) (fun _=>by omega);refine s_t ?_;refine tr_seq ?_;refine tr_block ?_;refine tr_seq ?_)
      with_reducible refine tr_draw 12 (by kernel_rfl) ?_
      (refine a_m rfl rfl ?_;refine any_val (rk_indexAddrA (.of rfl) (.of rfl) (by omega) (by omega) norm1_) rfl ?_;refine any_val (rk_load1 (.of rfl) (At.lit (.there (.there .here)) rfl)) rfl ?_;refine any_val (rk_conv (.of rfl)) rfl ?_;refine any_val (rk_quo (.of rfl) (.of rfl) (by omega) (by omega) (by omega)) rfl ?_;refine a_m rfl rfl ?_;refine any_val (rk_indexAddrA (.of rfl) (.of rfl) (by omega) (by omega) norm1_) rfl ?_;refine any_val (rk_load1 (.of rfl) (At.lit (.there (.there .here)) rfl)) rfl ?_;refine any_val (rk_conv (.of rfl)) rfl ?_;refine any_val (rk_rem (.of rfl) (.of rfl) (by omega) (by omega)) rfl ?_;refine any_val (rk_assign (.of rfl)) rfl ?_;refine any_val (rk_assign (.of rfl)) rfl ?_)
      try rw [w0]
      skip
      try rw [w0]
      skip
      with_reducible refine any_end ?_
      (refine n_t ?_;refine tr_seq ?_;refine s_r ?_;refine m_v rfl rfl ?_;refine tr_val (rk_gtr (.of rfl) (.of rfl)) rfl ?_;refine m_v rfl rfl ?_;refine v_g rfl rfl rfl rfl ?_;refine tr_vG1 rfl rfl inferInstance (fun hg hgp=>(rk_gtr (.ofg hg rfl) (.of rfl))) rfl ?_;refine tr_val (rk_pick_or (.of rfl) rfl) rfl ?_;refine n_t ?_;refine c_b rfl (fun hcd=>?_) (fun hcd=>?_);refine s_r ?_;refine tr_val (rk_buildL .nil norm_) rfl ?_;refine tr_store (.of rfl) (.of rfl) (.there .here) rfl rfl (okc_cons rfl (okc_cons rfl (okc_cons rfl (okc_cons rfl (okc_cons rfl (okc_cons rfl (okc_cons rfl okc_nil))))))) (lenb rfl) norm_ ?_;refine a_s rfl rfl ?_;refine n_t ?_;refine r_t ?_;refine tr_blk_ret ?_;refine tr_then_ret ?_;refine tr_then_ret ?_;refine tr_blk_ret ?_;refine tr_then_ret ?_;refine tr_retE rfl (endsCT rfl inferInstance rfl .here norm_ (by rfl) (by rfl)) ?_;rotate_left;refine s_t ?_;refine tr_region ?_;refine m_v rfl rfl ?_;refine m_v rfl rfl ?_;refine tr_val (rk_mul (.of rfl) (.of rfl) (ini (by omega))) rfl ?_;refine m_v rfl rfl ?_;refine tr_val (rk_add (.of rfl) (.of rfl) (ini (by omega))) rfl ?_;refine tr_val (rk_indexAddrA (.of rfl) (.of rfl) (by omega) (by assumption) norm1_) rfl ?_;refine tr_store (.of rfl) (.of rfl) .here rfl rfl (okc_cons rfl okc_nil) (lenb rfl) norm_ ?_;refine tr_nil ?_;refine tr_blk_normal ?_;refine tr_then ?_;refine tr_region ?_;refine m_v rfl rfl ?_;refine tr_val (rk_add (.of rfl) (.of rfl) (ini (by omega))) rfl ?_;refine a_s rfl rfl ?_;refine n_t ?_;rotate_right)
      · obtain ⟨e1,e2⟩:=rdE_d n9 n7 (by
          have:=bad_ofQ (a:=a1) (by simpa using hcd)
          show (badD a0 || badD a1 || badD a2 || badD a3) = true
          rw [this];simp)
        rw [e1,e2];rfl
      have hbd:=bad_notQ (a:=a1) (by simpa using hcd)
      clear hcd
      rw [u0]
      apply tr_next (Φ:=fun k:Nat=>k ≤ 4 ∧ (0 < k → badD a0 = false) ∧ (1 < k → badD a1 = false) ∧ (2 < k → badD a2 = false) ∧ (3 < k → badD a3 = false)) 2 ⟨show 2 ≤ 4 from of_decide_eq_true rfl,fun _=>hd0 (by decide),fun _=>hbd,fun h=>absurd h (by decide),fun h=>absurd h (by decide)⟩ (by show 4 - 2 < 4 - 1;omega)
      case hs1=>exact .cons rfl (.cons rfl (.cons rfl (.cons rfl (.cons rfl .nil))))
      case ht=>
        show Takes _ [blk b4 (.cells #[.int .i64 (unb a0),.int .i64 (unb a1),.int .i64 0,.int .i64 0] 210 (0,0)),blk b2 (.cells #[.int .i64 0,.bool false,.int .i64 0,.int .i64 0,.int .i64 0,.int .i64 0,.int .i64 0] 50 (0,0)),blk b1 (.cells #[.int .u8 a0,.int .u8 a1,.int .u8 a2,.int .u8 a3,.int .u8 a4,.int .u8 a5,.int .u8 a6,.int .u8 a7,.int .u8 a8,.int .u8 a9] 51 (0,0))] _
        exact .cons .here (.cons .here (.cons .here .nil))
    · show Tr _ [] [(5,.int .i64 2),(4,.pointer (some ⟨b4,0,none⟩)),(3,.int .i64 0),(2,.pointer (some ⟨b2,0,none⟩)),(1,.pointer (some ⟨b1,0,none⟩))] [blk b4 (.cells #[.int .i64 (unb a0),.int .i64 (unb a1),.int .i64 0,.int .i64 0] 210 (0,0)),blk b2 (.cells #[.int .i64 0,.bool false,.int .i64 0,.int .i64 0,.int .i64 0,.int .i64 0,.int .i64 0] 50 (0,0)),blk b1 (.cells #[.int .u8 a0,.int .u8 a1,.int .u8 a2,.int .u8 a3,.int .u8 a4,.int .u8 a5,.int .u8 a6,.int .u8 a7,.int .u8 a8,.int .u8 a9] 51 (0,0))] _
      have w0:IntKind.i64.wrap a2 = a2:=i64w (by omega)
      have u0:10 * (a2 / 16) + a2 % 16 = unb a2:=by unfold unb;omega
      (refine tr_seq ?_;refine s_r ?_;refine m_v rfl rfl ?_;refine tr_val (rk_lss (.of rfl) (.of rfl)) rfl ?_;refine n_t ?_;refine c_d rfl (fun hcd=>?_) (fun _=>by omega);refine s_t ?_;refine tr_seq ?_;refine tr_block ?_;refine tr_seq ?_)
      with_reducible refine tr_draw 12 (by kernel_rfl) ?_
      (refine a_m rfl rfl ?_;refine any_val (rk_indexAddrA (.of rfl) (.of rfl) (by omega) (by omega) norm1_) rfl ?_;refine any_val (rk_load1 (.of rfl) (At.lit (.there (.there .here)) rfl)) rfl ?_;refine any_val (rk_conv (.of rfl)) rfl ?_;refine any_val (rk_quo (.of rfl) (.of rfl) (by omega) (by omega) (by omega)) rfl ?_;refine a_m rfl rfl ?_;refine any_val (rk_indexAddrA (.of rfl) (.of rfl) (by omega) (by omega) norm1_) rfl ?_;refine any_val (rk_load1 (.of rfl) (At.lit (.there (.there .here)) rfl)) rfl ?_;refine any_val (rk_conv (.of rfl)) rfl ?_;refine any_val (rk_rem (.of rfl) (.of rfl) (by omega) (by omega)) rfl ?_;refine any_val (rk_assign (.of rfl)) rfl ?_;refine any_val (rk_assign (.of rfl)) rfl ?_)
      try rw [w0]
      skip
      try rw [w0]
      skip
      with_reducible refine any_end ?_
      (refine n_t ?_;refine tr_seq ?_;refine s_r ?_;refine m_v rfl rfl ?_;refine tr_val (rk_gtr (.of rfl) (.of rfl)) rfl ?_;refine m_v rfl rfl ?_;refine v_g rfl rfl rfl rfl ?_;refine tr_vG1 rfl rfl inferInstance (fun hg hgp=>(rk_gtr (.ofg hg rfl) (.of rfl))) rfl ?_;refine tr_val (rk_pick_or (.of rfl) rfl) rfl ?_;refine n_t ?_;refine c_b rfl (fun hcd=>?_) (fun hcd=>?_);refine s_r ?_;refine tr_val (rk_buildL .nil norm_) rfl ?_;refine tr_store (.of rfl) (.of rfl) (.there .here) rfl rfl (okc_cons rfl (okc_cons rfl (okc_cons rfl (okc_cons rfl (okc_cons rfl (okc_cons rfl (okc_cons rfl okc_nil))))))) (lenb rfl) norm_ ?_;refine a_s rfl rfl ?_;refine n_t ?_;refine r_t ?_;refine tr_blk_ret ?_;refine tr_then_ret ?_;refine tr_then_ret ?_;refine tr_blk_ret ?_;refine tr_then_ret ?_;refine tr_retE rfl (endsCT rfl inferInstance rfl .here norm_ (by rfl) (by rfl)) ?_;rotate_left;refine s_t ?_;refine tr_region ?_;refine m_v rfl rfl ?_;refine m_v rfl rfl ?_;refine tr_val (rk_mul (.of rfl) (.of rfl) (ini (by omega))) rfl ?_;refine m_v rfl rfl ?_;refine tr_val (rk_add (.of rfl) (.of rfl) (ini (by omega))) rfl ?_;refine tr_val (rk_indexAddrA (.of rfl) (.of rfl) (by omega) (by assumption) norm1_) rfl ?_;refine tr_store (.of rfl) (.of rfl) .here rfl rfl (okc_cons rfl okc_nil) (lenb rfl) norm_ ?_;refine tr_nil ?_;refine tr_blk_normal ?_;refine tr_then ?_;refine tr_region ?_;refine m_v rfl rfl ?_;refine tr_val (rk_add (.of rfl) (.of rfl) (ini (by omega))) rfl ?_;refine a_s rfl rfl ?_;refine n_t ?_;rotate_right)
      · obtain ⟨e1,e2⟩:=rdE_d n9 n7 (by
          have:=bad_ofQ (a:=a2) (by simpa using hcd)
          show (badD a0 || badD a1 || badD a2 || badD a3) = true
          rw [this];simp)
        rw [e1,e2];rfl
      have hbd:=bad_notQ (a:=a2) (by simpa using hcd)
      clear hcd
      rw [u0]
      apply tr_next (Φ:=fun k:Nat=>k ≤ 4 ∧ (0 < k → badD a0 = false) ∧ (1 < k → badD a1 = false) ∧ (2 < k → badD a2 = false) ∧ (3 < k → badD a3 = false)) 3 ⟨show 3 ≤ 4 from of_decide_eq_true rfl,fun _=>hd0 (by decide),fun _=>hd1 (by decide),fun _=>hbd,fun h=>absurd h (by decide)⟩ (by show 4 - 3 < 4 - 2;omega)
      case hs1=>exact .cons rfl (.cons rfl (.cons rfl (.cons rfl (.cons rfl .nil))))
      case ht=>
        show Takes _ [blk b4 (.cells #[.int .i64 (unb a0),.int .i64 (unb a1),.int .i64 (unb a2),.int .i64 0] 210 (0,0)),blk b2 (.cells #[.int .i64 0,.bool false,.int .i64 0,.int .i64 0,.int .i64 0,.int .i64 0,.int .i64 0] 50 (0,0)),blk b1 (.cells #[.int .u8 a0,.int .u8 a1,.int .u8 a2,.int .u8 a3,.int .u8 a4,.int .u8 a5,.int .u8 a6,.int .u8 a7,.int .u8 a8,.int .u8 a9] 51 (0,0))] _
        exact .cons .here (.cons .here (.cons .here .nil))
    · show Tr _ [] [(5,.int .i64 3),(4,.pointer (some ⟨b4,0,none⟩)),(3,.int .i64 0),(2,.pointer (some ⟨b2,0,none⟩)),(1,.pointer (some ⟨b1,0,none⟩))] [blk b4 (.cells #[.int .i64 (unb a0),.int .i64 (unb a1),.int .i64 (unb a2),.int .i64 0] 210 (0,0)),blk b2 (.cells #[.int .i64 0,.bool false,.int .i64 0,.int .i64 0,.int .i64 0,.int .i64 0,.int .i64 0] 50 (0,0)),blk b1 (.cells #[.int .u8 a0,.int .u8 a1,.int .u8 a2,.int .u8 a3,.int .u8 a4,.int .u8 a5,.int .u8 a6,.int .u8 a7,.int .u8 a8,.int .u8 a9] 51 (0,0))] _
      have w0:IntKind.i64.wrap a3 = a3:=i64w (by omega)
      have u0:10 * (a3 / 16) + a3 % 16 = unb a3:=by unfold unb;omega
      (refine tr_seq ?_;refine s_r ?_;refine m_v rfl rfl ?_;refine tr_val (rk_lss (.of rfl) (.of rfl)) rfl ?_;refine n_t ?_;refine c_d rfl (fun hcd=>?_) (fun _=>by omega);refine s_t ?_;refine tr_seq ?_;refine tr_block ?_;refine tr_seq ?_)
      with_reducible refine tr_draw 12 (by kernel_rfl) ?_
      (refine a_m rfl rfl ?_;refine any_val (rk_indexAddrA (.of rfl) (.of rfl) (by omega) (by omega) norm1_) rfl ?_;refine any_val (rk_load1 (.of rfl) (At.lit (.there (.there .here)) rfl)) rfl ?_;refine any_val (rk_conv (.of rfl)) rfl ?_;refine any_val (rk_quo (.of rfl) (.of rfl) (by omega) (by omega) (by omega)) rfl ?_;refine a_m rfl rfl ?_;refine any_val (rk_indexAddrA (.of rfl) (.of rfl) (by omega) (by omega) norm1_) rfl ?_;refine any_val (rk_load1 (.of rfl) (At.lit (.there (.there .here)) rfl)) rfl ?_;refine any_val (rk_conv (.of rfl)) rfl ?_;refine any_val (rk_rem (.of rfl) (.of rfl) (by omega) (by omega)) rfl ?_;refine any_val (rk_assign (.of rfl)) rfl ?_;refine any_val (rk_assign (.of rfl)) rfl ?_)
      try rw [w0]
      skip
      try rw [w0]
      skip
      with_reducible refine any_end ?_
      (refine n_t ?_;refine tr_seq ?_;refine s_r ?_;refine m_v rfl rfl ?_;refine tr_val (rk_gtr (.of rfl) (.of rfl)) rfl ?_;refine m_v rfl rfl ?_;refine v_g rfl rfl rfl rfl ?_;refine tr_vG1 rfl rfl inferInstance (fun hg hgp=>(rk_gtr (.ofg hg rfl) (.of rfl))) rfl ?_;refine tr_val (rk_pick_or (.of rfl) rfl) rfl ?_;refine n_t ?_;refine c_b rfl (fun hcd=>?_) (fun hcd=>?_);refine s_r ?_;refine tr_val (rk_buildL .nil norm_) rfl ?_;refine tr_store (.of rfl) (.of rfl) (.there .here) rfl rfl (okc_cons rfl (okc_cons rfl (okc_cons rfl (okc_cons rfl (okc_cons rfl (okc_cons rfl (okc_cons rfl okc_nil))))))) (lenb rfl) norm_ ?_;refine a_s rfl rfl ?_;refine n_t ?_;refine r_t ?_;refine tr_blk_ret ?_;refine tr_then_ret ?_;refine tr_then_ret ?_;refine tr_blk_ret ?_;refine tr_then_ret ?_;refine tr_retE rfl (endsCT rfl inferInstance rfl .here norm_ (by rfl) (by rfl)) ?_;rotate_left;refine s_t ?_;refine tr_region ?_;refine m_v rfl rfl ?_;refine m_v rfl rfl ?_;refine tr_val (rk_mul (.of rfl) (.of rfl) (ini (by omega))) rfl ?_;refine m_v rfl rfl ?_;refine tr_val (rk_add (.of rfl) (.of rfl) (ini (by omega))) rfl ?_;refine tr_val (rk_indexAddrA (.of rfl) (.of rfl) (by omega) (by assumption) norm1_) rfl ?_;refine tr_store (.of rfl) (.of rfl) .here rfl rfl (okc_cons rfl okc_nil) (lenb rfl) norm_ ?_;refine tr_nil ?_;refine tr_blk_normal ?_;refine tr_then ?_;refine tr_region ?_;refine m_v rfl rfl ?_;refine tr_val (rk_add (.of rfl) (.of rfl) (ini (by omega))) rfl ?_;refine a_s rfl rfl ?_;refine n_t ?_;rotate_right)
      · obtain ⟨e1,e2⟩:=rdE_d n9 n7 (by
          have:=bad_ofQ (a:=a3) (by simpa using hcd)
          show (badD a0 || badD a1 || badD a2 || badD a3) = true
          rw [this];simp)
        rw [e1,e2];rfl
      have hbd:=bad_notQ (a:=a3) (by simpa using hcd)
      clear hcd
      rw [u0]
      apply tr_next (Φ:=fun k:Nat=>k ≤ 4 ∧ (0 < k → badD a0 = false) ∧ (1 < k → badD a1 = false) ∧ (2 < k → badD a2 = false) ∧ (3 < k → badD a3 = false)) 4 ⟨show 4 ≤ 4 from of_decide_eq_true rfl,fun _=>hd0 (by decide),fun _=>hd1 (by decide),fun _=>hd2 (by decide),fun _=>hbd⟩ (by show 4 - 4 < 4 - 3;omega)
      case hs1=>exact .cons rfl (.cons rfl (.cons rfl (.cons rfl (.cons rfl .nil))))
      case ht=>
        show Takes _ [blk b4 (.cells #[.int .i64 (unb a0),.int .i64 (unb a1),.int .i64 (unb a2),.int .i64 (unb a3)] 210 (0,0)),blk b2 (.cells #[.int .i64 0,.bool false,.int .i64 0,.int .i64 0,.int .i64 0,.int .i64 0,.int .i64 0] 50 (0,0)),blk b1 (.cells #[.int .u8 a0,.int .u8 a1,.int .u8 a2,.int .u8 a3,.int .u8 a4,.int .u8 a5,.int .u8 a6,.int .u8 a7,.int .u8 a8,.int .u8 a9] 51 (0,0))] _
        exact .cons .here (.cons .here (.cons .here .nil))
  · obtain rfl:k = 4:=by omega
    have nd:¬ (badD (wa [a0,a1,a2,a3,a4,a5,a6,a7,a8,a9] 0) || badD (wa [a0,a1,a2,a3,a4,a5,a6,a7,a8,a9] 1) || badD (wa [a0,a1,a2,a3,a4,a5,a6,a7,a8,a9] 2) || badD (wa [a0,a1,a2,a3,a4,a5,a6,a7,a8,a9] 3)) = true:=by
      show ¬ (badD a0 || badD a1 || badD a2 || badD a3) = true
      rw [hd0 (by decide),hd1 (by decide),hd2 (by decide),hd3 (by decide)];decide
    have hR:=rdE_r n9 n7 nd
    clear hd0 hd1 hd2 hd3 hlt hk
    have v4:IntKind.i64.wrap a4 = a4:=i64w (by omega)
    have v5:IntKind.i64.wrap a5 = a5:=i64w (by omega)
    have v6:IntKind.i64.wrap a6 = a6:=i64w (by omega)
    have eu:256 * a5 + a6 = a5 * 256 + a6:=by omega
    have hst:stmW [a0,a1,a2,a3,a4,a5,a6,a7,a8,a9] = ⟨⟨a4 % 128,decide (128 ≤ a4)⟩,⟨unb a3,unb a2,unb a1,unb a0⟩,a5 * 256 + a6⟩:=rfl
    have hw4:wa [a0,a1,a2,a3,a4,a5,a6,a7,a8,a9] 4 = a4:=rfl
    rw [hw4,hst] at hR
    have hF:rdF [a0,a1,a2,a3,a4,a5,a6,a7,a8,a9] = if rdE [a0,a1,a2,a3,a4,a5,a6,a7,a8,a9] = 0 then ⟨⟨a4 % 128,decide (128 ≤ a4)⟩,⟨unb a3,unb a2,unb a1,unb a0⟩,a5 * 256 + a6⟩ else Stm.zero:=rfl
    generalize rdE [a0,a1,a2,a3,a4,a5,a6,a7,a8,a9] = RE at hR hF ⊢
    generalize rdF [a0,a1,a2,a3,a4,a5,a6,a7,a8,a9] = RF at hF ⊢
    clear n9 n7 nd hst hw4 hb
    show Tr _ [] [(5,.int .i64 4),(4,.pointer (some ⟨b4,0,none⟩)),(3,.int .i64 0),(2,.pointer (some ⟨b2,0,none⟩)),(1,.pointer (some ⟨b1,0,none⟩))] [blk b4 (.cells #[.int .i64 (unb a0),.int .i64 (unb a1),.int .i64 (unb a2),.int .i64 (unb a3)] 210 (0,0)),blk b2 (.cells #[.int .i64 0,.bool false,.int .i64 0,.int .i64 0,.int .i64 0,.int .i64 0,.int .i64 0] 50 (0,0)),blk b1 (.cells #[.int .u8 a0,.int .u8 a1,.int .u8 a2,.int .u8 a3,.int .u8 a4,.int .u8 a5,.int .u8 a6,.int .u8 a7,.int .u8 a8,.int .u8 a9] 51 (0,0))] _
    by_cases hk4:rtOkB a4 = true
    · rw [if_pos hk4] at hR
      have hc4:(a4 = 24 ∨ a4 = 25 ∨ a4 = 30) ∨ a4 = 158:=by
        unfold rtOkB at hk4
        simp only [Bool.or_eq_true,decide_eq_true_eq] at hk4
        omega
      rcases hc4 with hc4 | rfl
      · have e1:a4 % 128 = a4:=by omega
        have e2:decide (128 ≤ a4) = false:=decide_eq_false (by omega)
        rw [e1,e2] at hR hF
        have hcs:∀ w',GivesV Tryz.prog 37 [.agg #[.int .i64 a4,.bool false,.int .i64 (unb a3),.int .i64 (unb a2),.int .i64 (unb a1),.int .i64 (unb a0),.int .i64 (a5 * 256 + a6)]] w' (.int .i64 RE):=fun w'=>by rw [hR];exact stmQ_c ⟨⟨a4,false⟩,⟨unb a3,unb a2,unb a1,unb a0⟩,a5 * 256 + a6⟩ w'
        rcases hc4 with rfl | rfl | rfl
        · (refine tr_seq ?_;refine s_r ?_;refine m_v rfl rfl ?_;refine tr_val (rk_lss (.of rfl) (.of rfl)) rfl ?_;refine n_t ?_;refine c_d rfl (fun _=>by omega) (fun hcd=>?_);refine x_t ?_;refine tr_then_exit ?_;refine tr_blk_exit ?_;refine tr_then ?_;refine s_r ?_;refine tr_val (rk_indexAddrA (.of rfl) (.of rfl) (by omega) (by omega) norm1_) rfl ?_;refine tr_val (rk_load1 (.of rfl) (At.lit .here rfl)) rfl ?_;refine tr_val (rk_indexAddrA (.of rfl) (.of rfl) (by omega) (by omega) norm1_) rfl ?_;refine tr_val (rk_load1 (.of rfl) (At.lit .here rfl)) rfl ?_;refine tr_val (rk_indexAddrA (.of rfl) (.of rfl) (by omega) (by omega) norm1_) rfl ?_;refine tr_val (rk_load1 (.of rfl) (At.lit .here rfl)) rfl ?_;refine tr_val (rk_indexAddrA (.of rfl) (.of rfl) (by omega) (by omega) norm1_) rfl ?_;refine tr_val (rk_load1 (.of rfl) (At.lit .here rfl)) rfl ?_;refine tr_val (rk_buildL (.cons (.of rfl) (.cons (.of rfl) (.cons (.of rfl) (.cons (.of rfl) .nil)))) norm_) rfl ?_;refine tr_val (rk_indexAddrA (.of rfl) (.of rfl) (by omega) (by omega) norm1_) rfl ?_;refine tr_val (rk_load1 (.of rfl) (At.lit (.there (.there .here)) rfl)) rfl ?_;refine tr_val (rk_conv (.of rfl)) rfl ?_;refine tr_val (rk_mul (.of rfl) (.of rfl) (ini (by omega))) rfl ?_;refine tr_val (rk_indexAddrA (.of rfl) (.of rfl) (by omega) (by omega) norm1_) rfl ?_;refine tr_val (rk_load1 (.of rfl) (At.lit (.there (.there .here)) rfl)) rfl ?_;refine tr_val (rk_conv (.of rfl)) rfl ?_;refine tr_val (rk_add (.of rfl) (.of rfl) (ini (by omega))) rfl ?_;refine tr_val (rk_buildL (.cons (.of rfl) (.cons (.of rfl) .nil)) norm_) rfl ?_;refine tr_new (rk_alloc rfl) rfl (fun _ _=>?_);refine tr_store (.of rfl) (.of rfl) .here rfl rfl (okc_cons rfl (okc_cons rfl (okc_cons rfl (okc_cons rfl (okc_cons rfl (okc_cons rfl (okc_cons rfl okc_nil))))))) (lenb rfl) norm_ ?_;refine n_t ?_;refine tr_seq ?_;refine s_r ?_;refine tr_val (rk_indexAddrA (.of rfl) (.of rfl) (by omega) (by omega) norm1_) rfl ?_;refine tr_val (rk_load1 (.of rfl) (At.lit (.there (.there (.there .here))) rfl)) rfl ?_;refine n_t ?_;refine tr_block ?_;refine tr_seq ?_;refine s_r ?_;refine tr_val (rk_eql (.of rfl) (.of rfl)) rfl ?_;refine a_s rfl rfl ?_;refine n_t ?_;refine c_d rfl (fun hcd=>?_) (fun _=>by omega);refine s_t ?_;refine c_d rfl (fun hcd=>?_) (fun _=>by omega);refine tr_region ?_;refine tr_val (rk_indexAddrA (.of rfl) (.of rfl) (by omega) (by omega) norm1_) rfl ?_;refine tr_val (rk_load1 (.of rfl) (At.lit (.there (.there (.there .here))) rfl)) rfl ?_;refine tr_val (rk_conv (.of rfl)) rfl ?_;refine tr_val (rk_buildL (.cons (.of rfl) .nil) norm_) rfl ?_;refine f_a rfl rfl norm0_ ?_;refine tr_store (.of rfl) (.of rfl) .here rfl rfl (okc_cons rfl (okc_cons rfl okc_nil)) (lenb rfl) norm_ ?_;refine tr_nil ?_;refine tr_blk_normal ?_;refine tr_then ?_;refine tr_seq ?_;refine s_r ?_;refine tr_val (rk_loadB (.of rfl) .here norm_ (by rfl)) rfl ?_)
          try rw [v5]
          skip
          try rw [v6]
          skip
          rw [eu]
          skip
          try rw [v4]
          (refine tr_callV (rk_call (.of rfl) (.cons (.of rfl) .nil) inferInstance normc_) rfl (fun w' hm'=>(hcs w')) ?_;refine a_s rfl rfl ?_;refine n_r ?_;refine m_v rfl rfl ?_;refine tr_val (rk_neq (.of rfl) (.of rfl)) rfl ?_;refine n_t ?_;refine c_d rfl (fun hcd=>?_) (fun hcd=>?_);refine s_r ?_;refine tr_val (rk_buildL .nil norm_) rfl ?_;refine m_v rfl rfl ?_;refine tr_store (.of rfl) (.of rfl) (.there (.there .here)) rfl rfl (okc_cons rfl (okc_cons rfl (okc_cons rfl (okc_cons rfl (okc_cons rfl (okc_cons rfl (okc_cons rfl okc_nil))))))) (lenb rfl) norm_ ?_;refine a_s rfl rfl ?_;refine n_t ?_;refine r_t ?_;refine tr_retE rfl (endsCT rfl inferInstance rfl .here norm_ (by rfl) (by rfl)) ?_;rotate_left;refine s_t ?_;refine s_r ?_;refine tr_val (rk_loadB (.of rfl) .here norm_ (by rfl)) rfl ?_;refine tr_store (.of rfl) (.of rfl) (.there (.there .here)) rfl rfl (okc_cons rfl (okc_cons rfl (okc_cons rfl (okc_cons rfl (okc_cons rfl (okc_cons rfl (okc_cons rfl okc_nil))))))) (lenb rfl) norm_ ?_;refine a_s rfl rfl ?_;refine n_t ?_;refine tr_ret ?_;refine tr_retE rfl (endsCT rfl inferInstance rfl .here norm_ (by rfl) (by rfl)) ?_;rotate_right)
          · rw [hF,if_neg hcd];rfl
          · have hz:=Decidable.not_not.1 hcd
            rw [hF,if_pos hz,hz]
        · (refine tr_seq ?_;refine s_r ?_;refine m_v rfl rfl ?_;refine tr_val (rk_lss (.of rfl) (.of rfl)) rfl ?_;refine n_t ?_;refine c_d rfl (fun _=>by omega) (fun hcd=>?_);refine x_t ?_;refine tr_then_exit ?_;refine tr_blk_exit ?_;refine tr_then ?_;refine s_r ?_;refine tr_val (rk_indexAddrA (.of rfl) (.of rfl) (by omega) (by omega) norm1_) rfl ?_;refine tr_val (rk_load1 (.of rfl) (At.lit .here rfl)) rfl ?_;refine tr_val (rk_indexAddrA (.of rfl) (.of rfl) (by omega) (by omega) norm1_) rfl ?_;refine tr_val (rk_load1 (.of rfl) (At.lit .here rfl)) rfl ?_;refine tr_val (rk_indexAddrA (.of rfl) (.of rfl) (by omega) (by omega) norm1_) rfl ?_;refine tr_val (rk_load1 (.of rfl) (At.lit .here rfl)) rfl ?_;refine tr_val (rk_indexAddrA (.of rfl) (.of rfl) (by omega) (by omega) norm1_) rfl ?_;refine tr_val (rk_load1 (.of rfl) (At.lit .here rfl)) rfl ?_;refine tr_val (rk_buildL (.cons (.of rfl) (.cons (.of rfl) (.cons (.of rfl) (.cons (.of rfl) .nil)))) norm_) rfl ?_;refine tr_val (rk_indexAddrA (.of rfl) (.of rfl) (by omega) (by omega) norm1_) rfl ?_;refine tr_val (rk_load1 (.of rfl) (At.lit (.there (.there .here)) rfl)) rfl ?_;refine tr_val (rk_conv (.of rfl)) rfl ?_;refine tr_val (rk_mul (.of rfl) (.of rfl) (ini (by omega))) rfl ?_;refine tr_val (rk_indexAddrA (.of rfl) (.of rfl) (by omega) (by omega) norm1_) rfl ?_;refine tr_val (rk_load1 (.of rfl) (At.lit (.there (.there .here)) rfl)) rfl ?_;refine tr_val (rk_conv (.of rfl)) rfl ?_;refine tr_val (rk_add (.of rfl) (.of rfl) (ini (by omega))) rfl ?_;refine tr_val (rk_buildL (.cons (.of rfl) (.cons (.of rfl) .nil)) norm_) rfl ?_;refine tr_new (rk_alloc rfl) rfl (fun _ _=>?_);refine tr_store (.of rfl) (.of rfl) .here rfl rfl (okc_cons rfl (okc_cons rfl (okc_cons rfl (okc_cons rfl (okc_cons rfl (okc_cons rfl (okc_cons rfl okc_nil))))))) (lenb rfl) norm_ ?_;refine n_t ?_;refine tr_seq ?_;refine s_r ?_;refine tr_val (rk_indexAddrA (.of rfl) (.of rfl) (by omega) (by omega) norm1_) rfl ?_;refine tr_val (rk_load1 (.of rfl) (At.lit (.there (.there (.there .here))) rfl)) rfl ?_;refine n_t ?_;refine tr_block ?_;refine tr_seq ?_;refine s_r ?_;refine tr_val (rk_eql (.of rfl) (.of rfl)) rfl ?_;refine a_s rfl rfl ?_;refine n_t ?_;refine c_d rfl (fun _=>by omega) (fun hcd=>?_);refine s_r ?_;refine tr_val (rk_eql (.of rfl) (.of rfl)) rfl ?_;refine a_s rfl rfl ?_;refine n_t ?_;refine c_d rfl (fun hcd=>?_) (fun _=>by omega);refine s_t ?_;refine c_d rfl (fun hcd=>?_) (fun _=>by omega);refine tr_region ?_;refine tr_val (rk_indexAddrA (.of rfl) (.of rfl) (by omega) (by omega) norm1_) rfl ?_;refine tr_val (rk_load1 (.of rfl) (At.lit (.there (.there (.there .here))) rfl)) rfl ?_;refine tr_val (rk_conv (.of rfl)) rfl ?_;refine tr_val (rk_buildL (.cons (.of rfl) .nil) norm_) rfl ?_;refine f_a rfl rfl norm0_ ?_;refine tr_store (.of rfl) (.of rfl) .here rfl rfl (okc_cons rfl (okc_cons rfl okc_nil)) (lenb rfl) norm_ ?_;refine tr_nil ?_;refine tr_blk_normal ?_;refine tr_then ?_;refine tr_seq ?_;refine s_r ?_;refine tr_val (rk_loadB (.of rfl) .here norm_ (by rfl)) rfl ?_)
          try rw [v5]
          skip
          try rw [v6]
          skip
          rw [eu]
          skip
          try rw [v4]
          (refine tr_callV (rk_call (.of rfl) (.cons (.of rfl) .nil) inferInstance normc_) rfl (fun w' hm'=>(hcs w')) ?_;refine a_s rfl rfl ?_;refine n_r ?_;refine m_v rfl rfl ?_;refine tr_val (rk_neq (.of rfl) (.of rfl)) rfl ?_;refine n_t ?_;refine c_d rfl (fun hcd=>?_) (fun hcd=>?_);refine s_r ?_;refine tr_val (rk_buildL .nil norm_) rfl ?_;refine m_v rfl rfl ?_;refine tr_store (.of rfl) (.of rfl) (.there (.there .here)) rfl rfl (okc_cons rfl (okc_cons rfl (okc_cons rfl (okc_cons rfl (okc_cons rfl (okc_cons rfl (okc_cons rfl okc_nil))))))) (lenb rfl) norm_ ?_;refine a_s rfl rfl ?_;refine n_t ?_;refine r_t ?_;refine tr_retE rfl (endsCT rfl inferInstance rfl .here norm_ (by rfl) (by rfl)) ?_;rotate_left;refine s_t ?_;refine s_r ?_;refine tr_val (rk_loadB (.of rfl) .here norm_ (by rfl)) rfl ?_;refine tr_store (.of rfl) (.of rfl) (.there (.there .here)) rfl rfl (okc_cons rfl (okc_cons rfl (okc_cons rfl (okc_cons rfl (okc_cons rfl (okc_cons rfl (okc_cons rfl okc_nil))))))) (lenb rfl) norm_ ?_;refine a_s rfl rfl ?_;refine n_t ?_;refine tr_ret ?_;refine tr_retE rfl (endsCT rfl inferInstance rfl .here norm_ (by rfl) (by rfl)) ?_;rotate_right)
          · rw [hF,if_neg hcd];rfl
          · have hz:=Decidable.not_not.1 hcd
            rw [hF,if_pos hz,hz]
        · (refine tr_seq ?_;refine s_r ?_;refine m_v rfl rfl ?_;refine tr_val (rk_lss (.of rfl) (.of rfl)) rfl ?_;refine n_t ?_;refine c_d rfl (fun _=>by omega) (fun hcd=>?_);refine x_t ?_;refine tr_then_exit ?_;refine tr_blk_exit ?_;refine tr_then ?_;refine s_r ?_;refine tr_val (rk_indexAddrA (.of rfl) (.of rfl) (by omega) (by omega) norm1_) rfl ?_;refine tr_val (rk_load1 (.of rfl) (At.lit .here rfl)) rfl ?_;refine tr_val (rk_indexAddrA (.of rfl) (.of rfl) (by omega) (by omega) norm1_) rfl ?_;refine tr_val (rk_load1 (.of rfl) (At.lit .here rfl)) rfl ?_;refine tr_val (rk_indexAddrA (.of rfl) (.of rfl) (by omega) (by omega) norm1_) rfl ?_;refine tr_val (rk_load1 (.of rfl) (At.lit .here rfl)) rfl ?_;refine tr_val (rk_indexAddrA (.of rfl) (.of rfl) (by omega) (by omega) norm1_) rfl ?_;refine tr_val (rk_load1 (.of rfl) (At.lit .here rfl)) rfl ?_;refine tr_val (rk_buildL (.cons (.of rfl) (.cons (.of rfl) (.cons (.of rfl) (.cons (.of rfl) .nil)))) norm_) rfl ?_;refine tr_val (rk_indexAddrA (.of rfl) (.of rfl) (by omega) (by omega) norm1_) rfl ?_;refine tr_val (rk_load1 (.of rfl) (At.lit (.there (.there .here)) rfl)) rfl ?_;refine tr_val (rk_conv (.of rfl)) rfl ?_;refine tr_val (rk_mul (.of rfl) (.of rfl) (ini (by omega))) rfl ?_;refine tr_val (rk_indexAddrA (.of rfl) (.of rfl) (by omega) (by omega) norm1_) rfl ?_;refine tr_val (rk_load1 (.of rfl) (At.lit (.there (.there .here)) rfl)) rfl ?_;refine tr_val (rk_conv (.of rfl)) rfl ?_;refine tr_val (rk_add (.of rfl) (.of rfl) (ini (by omega))) rfl ?_;refine tr_val (rk_buildL (.cons (.of rfl) (.cons (.of rfl) .nil)) norm_) rfl ?_;refine tr_new (rk_alloc rfl) rfl (fun _ _=>?_);refine tr_store (.of rfl) (.of rfl) .here rfl rfl (okc_cons rfl (okc_cons rfl (okc_cons rfl (okc_cons rfl (okc_cons rfl (okc_cons rfl (okc_cons rfl okc_nil))))))) (lenb rfl) norm_ ?_;refine n_t ?_;refine tr_seq ?_;refine s_r ?_;refine tr_val (rk_indexAddrA (.of rfl) (.of rfl) (by omega) (by omega) norm1_) rfl ?_;refine tr_val (rk_load1 (.of rfl) (At.lit (.there (.there (.there .here))) rfl)) rfl ?_;refine n_t ?_;refine tr_block ?_;refine tr_seq ?_;refine s_r ?_;refine tr_val (rk_eql (.of rfl) (.of rfl)) rfl ?_;refine a_s rfl rfl ?_;refine n_t ?_;refine c_d rfl (fun _=>by omega) (fun hcd=>?_);refine s_r ?_;refine tr_val (rk_eql (.of rfl) (.of rfl)) rfl ?_;refine a_s rfl rfl ?_;refine n_t ?_;refine c_d rfl (fun _=>by omega) (fun hcd=>?_);refine tr_region ?_;refine tr_val (rk_eql (.of rfl) (.of rfl)) rfl ?_;refine a_s rfl rfl ?_;refine n_t ?_;refine c_d rfl (fun hcd=>?_) (fun _=>by omega);refine tr_region ?_;refine tr_val (rk_indexAddrA (.of rfl) (.of rfl) (by omega) (by omega) norm1_) rfl ?_;refine tr_val (rk_load1 (.of rfl) (At.lit (.there (.there (.there .here))) rfl)) rfl ?_;refine tr_val (rk_conv (.of rfl)) rfl ?_;refine tr_val (rk_buildL (.cons (.of rfl) .nil) norm_) rfl ?_;refine f_a rfl rfl norm0_ ?_;refine tr_store (.of rfl) (.of rfl) .here rfl rfl (okc_cons rfl (okc_cons rfl okc_nil)) (lenb rfl) norm_ ?_;refine tr_nil ?_;refine tr_blk_normal ?_;refine tr_then ?_;refine tr_seq ?_;refine s_r ?_;refine tr_val (rk_loadB (.of rfl) .here norm_ (by rfl)) rfl ?_)
          try rw [v5]
          skip
          try rw [v6]
          skip
          rw [eu]
          skip
          try rw [v4]
          (refine tr_callV (rk_call (.of rfl) (.cons (.of rfl) .nil) inferInstance normc_) rfl (fun w' hm'=>(hcs w')) ?_;refine a_s rfl rfl ?_;refine n_r ?_;refine m_v rfl rfl ?_;refine tr_val (rk_neq (.of rfl) (.of rfl)) rfl ?_;refine n_t ?_;refine c_d rfl (fun hcd=>?_) (fun hcd=>?_);refine s_r ?_;refine tr_val (rk_buildL .nil norm_) rfl ?_;refine m_v rfl rfl ?_;refine tr_store (.of rfl) (.of rfl) (.there (.there .here)) rfl rfl (okc_cons rfl (okc_cons rfl (okc_cons rfl (okc_cons rfl (okc_cons rfl (okc_cons rfl (okc_cons rfl okc_nil))))))) (lenb rfl) norm_ ?_;refine a_s rfl rfl ?_;refine n_t ?_;refine r_t ?_;refine tr_retE rfl (endsCT rfl inferInstance rfl .here norm_ (by rfl) (by rfl)) ?_;rotate_left;refine s_t ?_;refine s_r ?_;refine tr_val (rk_loadB (.of rfl) .here norm_ (by rfl)) rfl ?_;refine tr_store (.of rfl) (.of rfl) (.there (.there .here)) rfl rfl (okc_cons rfl (okc_cons rfl (okc_cons rfl (okc_cons rfl (okc_cons rfl (okc_cons rfl (okc_cons rfl okc_nil))))))) (lenb rfl) norm_ ?_;refine a_s rfl rfl ?_;refine n_t ?_;refine tr_ret ?_;refine tr_retE rfl (endsCT rfl inferInstance rfl .here norm_ (by rfl) (by rfl)) ?_;rotate_right)
          · rw [hF,if_neg hcd];rfl
          · have hz:=Decidable.not_not.1 hcd
            rw [hF,if_pos hz,hz]
      · have hcs:∀ w',GivesV Tryz.prog 37 [.agg #[.int .i64 30,.bool true,.int .i64 (unb a3),.int .i64 (unb a2),.int .i64 (unb a1),.int .i64 (unb a0),.int .i64 (a5 * 256 + a6)]] w' (.int .i64 RE):=fun w'=>by rw [hR];exact stmQ_c ⟨⟨30,true⟩,⟨unb a3,unb a2,unb a1,unb a0⟩,a5 * 256 + a6⟩ w'
        have hF:RF = if RE = 0 then ⟨⟨30,true⟩,⟨unb a3,unb a2,unb a1,unb a0⟩,a5 * 256 + a6⟩ else Stm.zero:=hF
        (refine tr_seq ?_;refine s_r ?_;refine m_v rfl rfl ?_;refine tr_val (rk_lss (.of rfl) (.of rfl)) rfl ?_;refine n_t ?_;refine c_d rfl (fun _=>by omega) (fun hcd=>?_);refine x_t ?_;refine tr_then_exit ?_;refine tr_blk_exit ?_;refine tr_then ?_;refine s_r ?_;refine tr_val (rk_indexAddrA (.of rfl) (.of rfl) (by omega) (by omega) norm1_) rfl ?_;refine tr_val (rk_load1 (.of rfl) (At.lit .here rfl)) rfl ?_;refine tr_val (rk_indexAddrA (.of rfl) (.of rfl) (by omega) (by omega) norm1_) rfl ?_;refine tr_val (rk_load1 (.of rfl) (At.lit .here rfl)) rfl ?_;refine tr_val (rk_indexAddrA (.of rfl) (.of rfl) (by omega) (by omega) norm1_) rfl ?_;refine tr_val (rk_load1 (.of rfl) (At.lit .here rfl)) rfl ?_;refine tr_val (rk_indexAddrA (.of rfl) (.of rfl) (by omega) (by omega) norm1_) rfl ?_;refine tr_val (rk_load1 (.of rfl) (At.lit .here rfl)) rfl ?_;refine tr_val (rk_buildL (.cons (.of rfl) (.cons (.of rfl) (.cons (.of rfl) (.cons (.of rfl) .nil)))) norm_) rfl ?_;refine tr_val (rk_indexAddrA (.of rfl) (.of rfl) (by omega) (by omega) norm1_) rfl ?_;refine tr_val (rk_load1 (.of rfl) (At.lit (.there (.there .here)) rfl)) rfl ?_;refine tr_val (rk_conv (.of rfl)) rfl ?_;refine tr_val (rk_mul (.of rfl) (.of rfl) (ini (by omega))) rfl ?_;refine tr_val (rk_indexAddrA (.of rfl) (.of rfl) (by omega) (by omega) norm1_) rfl ?_;refine tr_val (rk_load1 (.of rfl) (At.lit (.there (.there .here)) rfl)) rfl ?_;refine tr_val (rk_conv (.of rfl)) rfl ?_;refine tr_val (rk_add (.of rfl) (.of rfl) (ini (by omega))) rfl ?_;refine tr_val (rk_buildL (.cons (.of rfl) (.cons (.of rfl) .nil)) norm_) rfl ?_;refine tr_new (rk_alloc rfl) rfl (fun _ _=>?_);refine tr_store (.of rfl) (.of rfl) .here rfl rfl (okc_cons rfl (okc_cons rfl (okc_cons rfl (okc_cons rfl (okc_cons rfl (okc_cons rfl (okc_cons rfl okc_nil))))))) (lenb rfl) norm_ ?_;refine n_t ?_;refine tr_seq ?_;refine s_r ?_;refine tr_val (rk_indexAddrA (.of rfl) (.of rfl) (by omega) (by omega) norm1_) rfl ?_;refine tr_val (rk_load1 (.of rfl) (At.lit (.there (.there (.there .here))) rfl)) rfl ?_;refine n_t ?_;refine tr_block ?_;refine tr_seq ?_;refine s_r ?_;refine tr_val (rk_eql (.of rfl) (.of rfl)) rfl ?_;refine a_s rfl rfl ?_;refine n_t ?_;refine c_d rfl (fun _=>by omega) (fun hcd=>?_);refine s_r ?_;refine tr_val (rk_eql (.of rfl) (.of rfl)) rfl ?_;refine a_s rfl rfl ?_;refine n_t ?_;refine c_d rfl (fun _=>by omega) (fun hcd=>?_);refine tr_region ?_;refine tr_val (rk_eql (.of rfl) (.of rfl)) rfl ?_;refine a_s rfl rfl ?_;refine n_t ?_;refine c_d rfl (fun _=>by omega) (fun hcd=>?_);refine s_r ?_;refine tr_val (rk_eql (.of rfl) (.of rfl)) rfl ?_;refine a_s rfl rfl ?_;refine n_t ?_;refine c_d rfl (fun hcd=>?_) (fun _=>by omega);refine tr_region ?_;refine tr_val (rk_buildL (.cons (.of rfl) (.cons (.of rfl) .nil)) norm_) rfl ?_;refine f_a rfl rfl norm0_ ?_;refine tr_store (.of rfl) (.of rfl) .here rfl rfl (okc_cons rfl (okc_cons rfl okc_nil)) (lenb rfl) norm_ ?_;refine tr_nil ?_;refine tr_blk_normal ?_;refine tr_then ?_;refine tr_seq ?_;refine s_r ?_;refine tr_val (rk_loadB (.of rfl) .here norm_ (by rfl)) rfl ?_)
        try rw [v5]
        skip
        try rw [v6]
        skip
        rw [eu]
        (refine tr_callV (rk_call (.of rfl) (.cons (.of rfl) .nil) inferInstance normc_) rfl (fun w' hm'=>(hcs w')) ?_;refine a_s rfl rfl ?_;refine n_r ?_;refine m_v rfl rfl ?_;refine tr_val (rk_neq (.of rfl) (.of rfl)) rfl ?_;refine n_t ?_;refine c_d rfl (fun hcd=>?_) (fun hcd=>?_);refine s_r ?_;refine tr_val (rk_buildL .nil norm_) rfl ?_;refine m_v rfl rfl ?_;refine tr_store (.of rfl) (.of rfl) (.there (.there .here)) rfl rfl (okc_cons rfl (okc_cons rfl (okc_cons rfl (okc_cons rfl (okc_cons rfl (okc_cons rfl (okc_cons rfl okc_nil))))))) (lenb rfl) norm_ ?_;refine a_s rfl rfl ?_;refine n_t ?_;refine r_t ?_;refine tr_retE rfl (endsCT rfl inferInstance rfl .here norm_ (by rfl) (by rfl)) ?_;rotate_left;refine s_t ?_;refine s_r ?_;refine tr_val (rk_loadB (.of rfl) .here norm_ (by rfl)) rfl ?_;refine tr_store (.of rfl) (.of rfl) (.there (.there .here)) rfl rfl (okc_cons rfl (okc_cons rfl (okc_cons rfl (okc_cons rfl (okc_cons rfl (okc_cons rfl (okc_cons rfl okc_nil))))))) (lenb rfl) norm_ ?_;refine a_s rfl rfl ?_;refine n_t ?_;refine tr_ret ?_;refine tr_retE rfl (endsCT rfl inferInstance rfl .here norm_ (by rfl) (by rfl)) ?_;rotate_right)
        try rw [v4]
        skip
        · rw [hF,if_neg hcd];rfl
        · have hz:=Decidable.not_not.1 hcd
          rw [hF,if_pos hz,hz]
    · rw [if_neg hk4] at hR
      rw [hR,if_neg (by decide)] at hF
      have hn4:a4 ≠ 24 ∧ a4 ≠ 25 ∧ a4 ≠ 30 ∧ a4 ≠ 158:=by
        unfold rtOkB at hk4
        simp only [Bool.or_eq_true,decide_eq_true_eq] at hk4
        omega
      (refine tr_seq ?_;refine s_r ?_;refine m_v rfl rfl ?_;refine tr_val (rk_lss (.of rfl) (.of rfl)) rfl ?_;refine n_t ?_;refine c_d rfl (fun _=>by omega) (fun hcd=>?_);refine x_t ?_;refine tr_then_exit ?_;refine tr_blk_exit ?_;refine tr_then ?_;refine s_r ?_;refine tr_val (rk_indexAddrA (.of rfl) (.of rfl) (by omega) (by omega) norm1_) rfl ?_;refine tr_val (rk_load1 (.of rfl) (At.lit .here rfl)) rfl ?_;refine tr_val (rk_indexAddrA (.of rfl) (.of rfl) (by omega) (by omega) norm1_) rfl ?_;refine tr_val (rk_load1 (.of rfl) (At.lit .here rfl)) rfl ?_;refine tr_val (rk_indexAddrA (.of rfl) (.of rfl) (by omega) (by omega) norm1_) rfl ?_;refine tr_val (rk_load1 (.of rfl) (At.lit .here rfl)) rfl ?_;refine tr_val (rk_indexAddrA (.of rfl) (.of rfl) (by omega) (by omega) norm1_) rfl ?_;refine tr_val (rk_load1 (.of rfl) (At.lit .here rfl)) rfl ?_;refine tr_val (rk_buildL (.cons (.of rfl) (.cons (.of rfl) (.cons (.of rfl) (.cons (.of rfl) .nil)))) norm_) rfl ?_;refine tr_val (rk_indexAddrA (.of rfl) (.of rfl) (by omega) (by omega) norm1_) rfl ?_;refine tr_val (rk_load1 (.of rfl) (At.lit (.there (.there .here)) rfl)) rfl ?_;refine tr_val (rk_conv (.of rfl)) rfl ?_;refine tr_val (rk_mul (.of rfl) (.of rfl) (ini (by omega))) rfl ?_;refine tr_val (rk_indexAddrA (.of rfl) (.of rfl) (by omega) (by omega) norm1_) rfl ?_;refine tr_val (rk_load1 (.of rfl) (At.lit (.there (.there .here)) rfl)) rfl ?_;refine tr_val (rk_conv (.of rfl)) rfl ?_;refine tr_val (rk_add (.of rfl) (.of rfl) (ini (by omega))) rfl ?_;refine tr_val (rk_buildL (.cons (.of rfl) (.cons (.of rfl) .nil)) norm_) rfl ?_;refine tr_new (rk_alloc rfl) rfl (fun _ _=>?_);refine tr_store (.of rfl) (.of rfl) .here rfl rfl (okc_cons rfl (okc_cons rfl (okc_cons rfl (okc_cons rfl (okc_cons rfl (okc_cons rfl (okc_cons rfl okc_nil))))))) (lenb rfl) norm_ ?_;refine n_t ?_;refine tr_seq ?_;refine s_r ?_;refine tr_val (rk_indexAddrA (.of rfl) (.of rfl) (by omega) (by omega) norm1_) rfl ?_;refine tr_val (rk_load1 (.of rfl) (At.lit (.there (.there (.there .here))) rfl)) rfl ?_;refine n_t ?_;refine tr_block ?_;refine tr_seq ?_;refine s_r ?_;refine tr_val (rk_eql (.of rfl) (.of rfl)) rfl ?_;refine a_s rfl rfl ?_;refine n_t ?_;refine c_d rfl (fun _=>by omega) (fun hcd=>?_);refine s_r ?_;refine tr_val (rk_eql (.of rfl) (.of rfl)) rfl ?_;refine a_s rfl rfl ?_;refine n_t ?_;refine c_d rfl (fun _=>by omega) (fun hcd=>?_);refine tr_region ?_;refine tr_val (rk_eql (.of rfl) (.of rfl)) rfl ?_;refine a_s rfl rfl ?_;refine n_t ?_;refine c_d rfl (fun _=>by omega) (fun hcd=>?_);refine s_r ?_;refine tr_val (rk_eql (.of rfl) (.of rfl)) rfl ?_;refine a_s rfl rfl ?_;refine n_t ?_;refine c_d rfl (fun _=>by omega) (fun hcd=>?_);refine s_r ?_;refine tr_val (rk_buildL .nil norm_) rfl ?_;refine tr_store (.of rfl) (.of rfl) (.there (.there .here)) rfl rfl (okc_cons rfl (okc_cons rfl (okc_cons rfl (okc_cons rfl (okc_cons rfl (okc_cons rfl (okc_cons rfl okc_nil))))))) (lenb rfl) norm_ ?_;refine a_s rfl rfl ?_;refine n_t ?_;refine tr_ret ?_;refine tr_blk_ret ?_;refine tr_then_ret ?_;refine tr_retE rfl (endsCT rfl inferInstance rfl .here norm_ (by rfl) (by rfl)) ?_)
      try rw [v5]
      skip
      try rw [v6]
      skip
      all_goals first | (exfalso;omega) | (rw [hF,hR];rfl)
end Go.Proofs.A1
namespace Go.Proofs.A1
open Go Go.SL
theorem bysV_c {lv:Value} {l:List Int} {w:World} (h:Rd w lv 1 (byts l)) (hl:l.length ≤ 5000) :
    Gives Tryz.prog 53 [lv] w [] (fun _:Value=>True) id (fun v=>[row 5 1 v l.length (bytsV l)]):=by
  refine gives_of_tr Tryz.func53 rfl rfl ?_
  (refine s_r ?_;refine a_s rfl rfl ?_;refine n_r ?_;refine tr_new (rk_sliceLit .nil rfl rfl rfl rfl) rfl (fun _ _=>?_);refine m_v rfl rfl ?_)
  rename_i bq hbq
  refine tr_rowLitE (g:=bq) (E:=5) (ys:=[]) 0 1 (by exact .here) rfl rfl rfl ?_
  skip
  with_reducible apply tr_appendR
  case hx=>exact Is.of rfl
  case hy=>exact Is.of rfl
  case ht=>exact .here
  case hsrc=>exact fun w' hm'=>h.keeps hm'.keeps
  case h1=>exact byts_one l
  case hz=>exact rfl
  case hsz=>exact rfl
  case hb0=>exact rfl
  case hb=>rw [byts_length];omega
  case hd=>rfl
  intro v'
  rw [byts_length,Nat.zero_add,List.nil_append,← byts_flat]
  (refine a_s rfl rfl ?_;refine n_t ?_;refine tr_ret ?_)
  first | with_reducible apply tr_retM | with_reducible apply tr_endM
  case he=>exact ends1 rfl rfl
  case hR=>
    intro w' hm'
    exact gives_end v' trivial (show Takes _ [row 5 1 v' l.length (bytsV l)] _ by exact .cons .here .nil) hm' rfl
end Go.Proofs.A1
