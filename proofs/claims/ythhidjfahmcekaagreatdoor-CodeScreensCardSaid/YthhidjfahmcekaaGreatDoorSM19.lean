/- Parts of the proof: U3I U3J U3K U3L U3M U3N UOp UPp U3O U31 U32 U3P UQp U5B. -/
import Derived.Test.YthhidjfahmcekaaGreatDoorSM18
import Derived.Test.YthhidjfahmcekaaGreatDoorSM06
import Derived.Test.YthhidjfahmcekaaGreatDoorSM10
import Derived.Test.YthhidjfahmcekaaGreatDoorSM17
import Derived.Test.YthhidjfahmcekaaGreatDoorSM08
set_option linter.unusedSectionVars false
set_option linter.unusedVariables false
set_option linter.unusedSimpArgs false
namespace Go.Proofs.A1
open Go Go.SL
def spBad (x:Cp):Prop:=(x.fr < 0 ∨ x.to ≤ x.fr) ∨ 10000000 < x.to
theorem spB_t {x:Cp} (h:spBad x):(decide (x.fr < 0) || (decide (x.to ≤ x.fr) || decide (10000000 < x.to))) = true:=by
  unfold spBad at h;simp only [Bool.or_eq_true,decide_eq_true_eq];omega
theorem spB_f {x:Cp} (h:¬ spBad x):(decide (x.fr < 0) || (decide (x.to ≤ x.fr) || decide (10000000 < x.to))) = false:=by
  unfold spBad at h;simp only [Bool.or_eq_false_iff,decide_eq_false_iff_not];omega
theorem cpE_1 {x:Cp} (h:spBad x):cpE x = 14:=by
  unfold cpE;rw [spB_t h];simp [whenF,firstF]
theorem cpE_2 {x:Cp} (h:¬ spBad x) (h2:firstF [withinF x.rw 0 7,withinF x.co 0 31] ≠ 0):cpE x = firstF [withinF x.rw 0 7,withinF x.co 0 31]:=by
  unfold cpE;rw [spB_f h]
  by_cases a:withinF x.rw 0 7 = 0 <;> by_cases b:withinF x.co 0 31 = 0 <;> simp_all [whenF,firstF]
theorem rc_z {x:Cp} (h2:firstF [withinF x.rw 0 7,withinF x.co 0 31] = 0):withinF x.rw 0 7 = 0 ∧ withinF x.co 0 31 = 0:=by
  rw [firstF_zero] at h2
  exact ⟨h2 _ (by simp),h2 _ (by simp)⟩
theorem cpE_3 {x:Cp} (h:¬ spBad x) (h2:firstF [withinF x.rw 0 7,withinF x.co 0 31] = 0):cpE x = firstF [whenF (decide (x.tx.size = 0)) 12,whenF (decide (32 < x.co + (x.tx.size:Int))) 26,whenF (badTx x.tx) 1]:=by
  obtain ⟨a,b⟩:=rc_z h2
  unfold cpE;rw [spB_f h,a,b];simp [whenF,firstF]
theorem cpE_4 {x:Cp} (h:¬ spBad x) (h2:firstF [withinF x.rw 0 7,withinF x.co 0 31] = 0) (h3:x.tx.size = 0):cpE x = 12:=by
  rw [cpE_3 h h2,decide_eq_true h3];simp [whenF,firstF]
theorem cpE_5 {x:Cp} (h:¬ spBad x) (h2:firstF [withinF x.rw 0 7,withinF x.co 0 31] = 0) (h3:x.tx.size ≠ 0) (h4:32 < x.co + (x.tx.size:Int)):cpE x = 26:=by
  rw [cpE_3 h h2,decide_eq_false h3,decide_eq_true h4];simp [whenF,firstF]
theorem cpE_6 {x:Cp} (h:¬ spBad x) (h2:firstF [withinF x.rw 0 7,withinF x.co 0 31] = 0) (h3:x.tx.size ≠ 0) (h4:¬ 32 < x.co + (x.tx.size:Int)):cpE x = if badTx x.tx = true then 1 else 0:=by
  rw [cpE_3 h h2,decide_eq_false h3,decide_eq_false h4];cases badTx x.tx <;> simp [whenF,firstF]
theorem badTx_at {s:ByteArray} {k:Nat} (hk:k < s.size) (h:bt s k < 32 ∨ 126 < bt s k):badTx s = true:=by
  cases hb:badTx s with
  | true=>rfl
  | false=>have:=badTx_no.1 hb k hk;omega
theorem cpAt_e {l:List Cp} {k:Nat} (hk:k < l.length) (h:cpE l[k] ≠ 0):cpAt l k = cpE l[k]:=by
  unfold cpAt
  rw [nthC_get hk]
  simp [firstF,h]
theorem cpAt_c {l:List Cp} {k:Nat} (hk:k < l.length) (hf:∀ i,i < k → cpAt l i = 0) (h:cpE l[k] = 0):cpAt l k = if ∃ j,∃ hj:j < k,cflQ l[k] (l[j]'(Nat.lt_trans hj hk)) = true then 24 else 0:=by
  have hok:=cpE_zero.1 h
  have hj:∀ j (hj:j < k),CpOk (l[j]'(Nat.lt_trans hj hk)):=fun j hj=>by
    have:=cpAt_ok (hf j hj)
    rwa [nthC_get (by omega)] at this
  unfold cpAt
  rw [nthC_get hk,h]
  by_cases he:∃ j,∃ hj:j < k,cflQ l[k] (l[j]'(Nat.lt_trans hj hk)) = true
  · rw [if_pos he]
    have:(l.take k).any (cfl l[k]) = true:=by
      obtain ⟨j,hjk,hc⟩:=he
      rw [List.any_eq_true]
      exact ⟨l[j],List.mem_take_iff_getElem.2 ⟨j,by omega,rfl⟩,by rw [cfl_iff hok (hj j hjk)];exact hc⟩
    rw [this];simp [firstF,whenF]
  · rw [if_neg he]
    have:(l.take k).any (cfl l[k]) = false:=by
      rw [List.any_eq_false]
      intro x hx
      obtain ⟨j,hjk,rfl⟩:=List.mem_take_iff_getElem.1 hx
      have hjk':j < k:=by omega
      rw [cfl_iff hok (hj j hjk')]
      exact fun hc=>he ⟨j,hjk',hc⟩
    rw [this];simp [firstF,whenF]
set_option maxHeartbeats 2000000 in
theorem capsQ_c {lv:Value} {l:List Cp} {w:World} (h:Rd w lv 5 (cps l)):GivesV Tryz.prog 64 [lv] w (.int .i64 (capE l)):=by
  obtain ⟨a,cp,b,o,rfl,hcap,hmax,ha,hc⟩:=h
  rw [cps_length] at *
  unfold maxLen at hmax
  refine givesV_of_tr Tryz.func64 rfl rfl ?_
  (refine s_r ?_;refine a_s rfl rfl ?_;refine n_t ?_;refine tr_seq ?_;refine s_r ?_;refine m_v rfl rfl ?_;refine tr_val (rk_len_slice (.of rfl)) rfl ?_;refine tr_val (rk_gtr (.of rfl) (.of rfl)) rfl ?_;refine n_t ?_;refine c_d rfl (fun hcd=>?_) (fun hcd=>?_);refine s_r ?_;refine a_s rfl rfl ?_;refine n_t ?_;refine r_t ?_;refine tr_retE rfl (ends1 rfl rfl) ?_;rotate_left;refine s_t ?_;refine tr_seq ?_;refine s_r ?_;refine a_s rfl rfl ?_;refine n_t ?_;refine tr_block ?_;rotate_right)
  · rw [capE,if_pos (by omega)]
  have hE:capE l = errE (cpAt l) l.length:=by rw [capE,if_neg (by omega)]
  rw [hE]
  clear hcd
  refine tr_for (fun k:Nat=>k ≤ l.length ∧ ∀ i,i < k → cpAt l i = 0) (fun k=>[(3,.int .i64 k),(0,.slice a l.length cp)]) (fun _=>[]) (fun k=>l.length - k) ?_ ?_
  · apply tr_start 0 ⟨Nat.zero_le _,fun i h=>by omega⟩
    case hs1=>exact .cons rfl (.cons rfl .nil)
    case ht=>(try simp only [List.take_zero,List.map_nil,List.nil_append]);exact .nil
  rintro k ⟨hk,hf⟩
  by_cases hlt:k < l.length
  · have ha':=ha (cps_ne hlt)
    have hcell:=(hc k _ (cps_get hlt)).2
    have hR:∀ c,c ≠ 0 → cpE l[k] = c → errE (cpAt l) l.length = c:=fun c h0 he=>by
      have:=cpAt_e hlt (by rw [he];exact h0)
      rw [errE_bad (fun i hi=>hf i hi) hlt (by rw [this,he];exact h0),this,he]
    have hR2:=cpAt_c hlt hf
    have hR3:∀ j (hj:j < k),cpE l[k] = 0 → cflQ l[k] (l[j]'(Nat.lt_trans hj hlt)) = true → errE (cpAt l) l.length = 24:=fun j hj h0 hq=>by
      have:=hR2 h0
      rw [if_pos ⟨j,hj,hq⟩] at this
      rw [errE_bad (fun i hi=>hf i hi) hlt (by rw [this];decide),this]
    have hR4:cpE l[k] = 0 → (∀ j (hj:j < k),cflQ l[k] (l[j]'(Nat.lt_trans hj hlt)) = false) → cpAt l k = 0:=fun h0 hq=>by
      have:=hR2 h0
      rwa [if_neg (fun ⟨j,hj,hx⟩=>by rw [hq j hj] at hx;cases hx)] at this
    have hokj:∀ j (hj:j < k),CpOk (l[j]'(Nat.lt_trans hj hlt)):=fun j hj=>by
      have:=cpAt_ok (hf j hj)
      rwa [nthC_get (by omega)] at this
    clear hR2
    generalize hx:l[k] = x at hcell hR hR3 hR4
    have hcl:∀ (y:Cp),CpOk x → CpOk y → ∀ w,GivesV Tryz.prog 129 [.agg x.cells.toArray,.agg y.cells.toArray] w (.bool (cflQ x y)):=fun y h1 h2 w=>conflictQ_c x y h1 h2 w
    dsimp only [Cp.cells] at hcell hcl
    (refine tr_seq ?_;refine s_r ?_;refine m_v rfl rfl ?_;refine m_v rfl rfl ?_;refine tr_val (rk_len_slice (.of rfl)) rfl ?_;refine tr_val (rk_lss (.of rfl) (.of rfl)) rfl ?_;refine n_t ?_;refine c_d rfl (fun hcd=>?_) (fun _=>by omega);refine s_t ?_;refine tr_seq ?_;refine tr_block ?_;refine s_r ?_;refine m_v rfl rfl ?_;refine m_v rfl rfl ?_;refine tr_val (rk_indexAddr (.of rfl) (.of rfl) ha' (by omega) hcd norm1_) rfl ?_;refine tr_val (rk_loadN (.of rfl) (Ats.base hcell rfl) rfl) rfl ?_;refine tr_new (rk_alloc rfl) rfl (fun _ _=>?_);refine tr_store (.of rfl) (.of rfl) .here rfl rfl (okc_cons rfl (okc_cons rfl (okc_cons rfl (okc_cons rfl (okc_cons rfl okc_nil))))) (lenb rfl) norm_ ?_;refine n_t ?_;refine tr_seq ?_;refine s_r ?_;refine f_a rfl rfl norm0_ ?_;refine f_a rfl rfl norm0_ ?_;refine tr_val (rk_load1 (.of rfl) (At.lit .here rfl)) rfl ?_;refine tr_val (rk_lss (.of rfl) (.of rfl)) rfl ?_;refine m_v rfl rfl ?_;refine tr_vG1 rfl rfl inferInstance (fun hg hgp=>(rk_fieldAddr (.of rfl) norm0_)) rfl ?_;refine tr_vG1 rfl rfl inferInstance (fun hg hgp=>(rk_fieldAddr (.ofg hg rfl) norm0_)) rfl ?_;refine tr_vG1 rfl rfl inferInstance (fun hg hgp=>(rk_load1 (.ofg hg rfl) (At.lit .here rfl))) rfl ?_;refine tr_vG1 rfl rfl inferInstance (fun hg hgp=>(rk_fieldAddr (.of rfl) norm0_)) rfl ?_;refine tr_vG1 rfl rfl inferInstance (fun hg hgp=>(rk_fieldAddr (.ofg hg rfl) norm0_)) rfl ?_;refine tr_vG1 rfl rfl inferInstance (fun hg hgp=>(rk_load1 (.ofg hg rfl) (At.lit .here rfl))) rfl ?_;refine tr_vG1 rfl rfl inferInstance (fun hg hgp=>(rk_geq (.ofg hg rfl) (.ofg hg rfl))) rfl ?_;refine tr_val (rk_pick_or (.of rfl) rfl) rfl ?_;refine m_v rfl rfl ?_;refine tr_vG1 rfl rfl inferInstance (fun hg hgp=>(rk_fieldAddr (.of rfl) norm0_)) rfl ?_;refine tr_vG1 rfl rfl inferInstance (fun hg hgp=>(rk_fieldAddr (.ofg hg rfl) norm0_)) rfl ?_;refine tr_vG1 rfl rfl inferInstance (fun hg hgp=>(rk_load1 (.ofg hg rfl) (At.lit .here rfl))) rfl ?_;refine tr_vG1 rfl rfl inferInstance (fun hg hgp=>(rk_gtr (.ofg hg rfl) (.of rfl))) rfl ?_;refine tr_val (rk_pick_or (.of rfl) rfl) rfl ?_;refine n_t ?_;refine c_b rfl (fun hcd=>?_) (fun hcd=>?_);refine s_r ?_;refine a_s rfl rfl ?_;refine n_t ?_;refine r_t ?_;refine tr_blk_ret ?_;refine tr_then_ret ?_;refine tr_then_ret ?_;refine tr_blk_ret ?_;refine tr_then_ret ?_;refine tr_retE rfl (ends1 rfl rfl) ?_;rotate_left;refine s_t ?_;refine tr_seq ?_;refine tr_seq ?_;rotate_right)
    · rw [hR 14 (by decide) (cpE_1 hcd)]
    have hsp:¬ spBad x:=by unfold spBad;omega
    rename_i bx _
    with_reducible refine tr_draw 6 (by kernel_rfl) ?_
    (refine a_f rfl rfl norm0_ ?_;refine any_val (rk_load1 (.of rfl) (At.lit .here rfl)) rfl ?_;refine any_call (rk_call (.of rfl) (.cons (.of rfl) (.cons (.of rfl) (.cons (.of rfl) .nil))) inferInstance normc_) rfl (fun w' hm'=>(range_q _ 0 7 w')) ?_;refine a_f rfl rfl norm0_ ?_;refine any_val (rk_load1 (.of rfl) (At.lit .here rfl)) rfl ?_;refine any_call (rk_call (.of rfl) (.cons (.of rfl) (.cons (.of rfl) (.cons (.of rfl) .nil))) inferInstance normc_) rfl (fun w' hm'=>(range_q _ 0 31 w')) ?_)
    with_reducible refine any_end ?_
    (refine tr_new (rk_sliceLit (.cons (.of rfl) (.cons (.of rfl) .nil)) rfl rfl rfl rfl) rfl (fun _ _=>?_);refine tr_callV (rk_call (.of rfl) (.cons (.of rfl) .nil) inferInstance normc_) rfl (fun w' hm'=>(first_qB (Mem.rdBlk hm' .here rfl rfl) (IntL.cons (IntL.cons IntL.nil)))) ?_;refine a_s rfl rfl ?_;refine n_r ?_;refine m_v rfl rfl ?_;refine tr_val (rk_neq (.of rfl) (.of rfl)) rfl ?_;refine n_t ?_;refine c_d rfl (fun hcd=>?_) (fun hcd=>?_);refine s_r ?_;refine m_v rfl rfl ?_;refine a_s rfl rfl ?_;refine n_t ?_;refine r_t ?_;refine tr_blk_ret ?_;refine tr_then_ret ?_;refine tr_then_ret ?_;refine tr_blk_ret ?_;refine tr_then_ret ?_;refine tr_retE rfl (ends1 rfl rfl) ?_;rotate_left;refine s_t ?_;refine tr_seq ?_;refine s_r ?_;refine f_a rfl rfl norm0_ ?_;refine tr_val (rk_load1 (.of rfl) (At.lit (.there .here) rfl)) rfl ?_;refine tr_val (rk_eqls (.of rfl) (.of rfl)) rfl ?_;refine n_t ?_;refine c_d rfl (fun hcd=>?_) (fun hcd=>?_);refine s_r ?_;refine a_s rfl rfl ?_;refine n_t ?_;refine r_t ?_;refine tr_blk_ret ?_;refine tr_then_ret ?_;refine tr_then_ret ?_;refine tr_blk_ret ?_;refine tr_then_ret ?_;refine tr_retE rfl (ends1 rfl rfl) ?_;rotate_left;refine s_t ?_;refine tr_seq ?_;refine s_r ?_;refine f_a rfl rfl norm0_ ?_;refine tr_val (rk_load1 (.of rfl) (At.lit (.there .here) rfl)) rfl ?_;refine tr_val (rk_len_string (.of rfl)) rfl ?_;refine f_a rfl rfl norm0_ ?_;refine tr_val (rk_load1 (.of rfl) (At.lit (.there .here) rfl)) rfl ?_;rotate_right;rotate_right)
    · rw [hR _ hcd (cpE_2 hsp hcd)]
    · have h2:firstF [withinF x.rw 0 7,withinF x.co 0 31] = 0:=Decidable.not_not.1 (by assumption)
      rw [hR 12 (by decide) (cpE_4 hsp h2 (ne_empty.2 hcd))]
    have h2:firstF [withinF x.rw 0 7,withinF x.co 0 31] = 0:=Decidable.not_not.1 (by assumption)
    have hne:x.tx.size ≠ 0:=fun h=>hcd (ne_empty.1 h)
    have hco:=withinF_zero.1 (rc_z h2).2
    clear hcd
    (refine tr_val (rk_sub (.of rfl) (.of rfl) (ini (by omega))) rfl ?_;refine tr_val (rk_gtr (.of rfl) (.of rfl)) rfl ?_;refine n_t ?_;refine c_d rfl (fun hcd=>?_) (fun hcd=>?_);refine s_r ?_;refine a_s rfl rfl ?_;refine n_t ?_;refine r_t ?_;refine tr_blk_ret ?_;refine tr_then_ret ?_;refine tr_then_ret ?_;refine tr_blk_ret ?_;refine tr_then_ret ?_;refine tr_retE rfl (ends1 rfl rfl) ?_;rotate_left;refine s_t ?_;refine tr_seq ?_;refine s_r ?_;refine a_s rfl rfl ?_;refine n_t ?_;refine tr_block ?_;rotate_right)
    · rw [hR 26 (by decide) (cpE_5 hsp h2 hne (by omega))]
    have hln:¬ 32 < x.co + (x.tx.size:Int):=by omega
    have h6:=cpE_6 hsp h2 hne hln
    clear hcd
    refine tr_for (fun j:Nat=>j ≤ x.tx.size ∧ ∀ i,i < j → ¬ (bt x.tx i < 32 ∨ 126 < bt x.tx i)) (fun j=>[(6,.int .i64 j),(4,.pointer (some ⟨bx,0,none⟩)),(3,.int .i64 k),(0,.slice a l.length cp)]) (fun _=>[blk bx (.cells #[.int .i64 x.fr,.int .i64 x.to,.int .i64 x.rw,.int .i64 x.co,.string x.tx] 117 (0,0))]) (fun j=>x.tx.size - j) ?_ ?_
    · apply tr_start 0 ⟨Nat.zero_le _,fun i h=>by omega⟩
      case hs1=>exact .cons rfl (.cons rfl (.cons rfl (.cons rfl .nil)))
      case ht=>(try simp only [List.take_zero,List.map_nil,List.nil_append]);exact .cons (.there .here) .nil
    rintro j ⟨hj,hfj⟩
    by_cases hlj:j < x.tx.size
    · have hbt:(((x.tx.data.toList[((j:Nat):Int).toNat]?.getD 0).toNat:Nat):Int) = bt x.tx j:=rfl
      (refine tr_seq ?_;refine s_r ?_;refine m_v rfl rfl ?_;refine f_a rfl rfl norm0_ ?_;refine tr_val (rk_load1 (.of rfl) (At.lit .here rfl)) rfl ?_;refine tr_val (rk_len_string (.of rfl)) rfl ?_;refine tr_val (rk_lss (.of rfl) (.of rfl)) rfl ?_;refine n_t ?_;refine c_d rfl (fun hcd=>?_) (fun _=>by omega);refine s_t ?_;refine tr_seq ?_;refine tr_block ?_;refine s_r ?_;refine f_a rfl rfl norm0_ ?_;refine tr_val (rk_load1 (.of rfl) (At.lit .here rfl)) rfl ?_;refine m_v rfl rfl ?_;refine tr_val (rk_indexS (.of rfl) (.of rfl) (by omega) hcd) rfl ?_;refine tr_val (rk_lss (.of rfl) (.of rfl)) rfl ?_;refine m_v rfl rfl ?_;refine tr_vG1 rfl rfl inferInstance (fun hg hgp=>(rk_fieldAddr (.of rfl) norm0_)) rfl ?_;refine tr_vG1 rfl rfl inferInstance (fun hg hgp=>(rk_load1 (.ofg hg rfl) (At.lit .here rfl))) rfl ?_;refine v_g rfl rfl rfl rfl ?_;refine tr_vG1 rfl rfl inferInstance (fun hg hgp=>(rk_indexS (.ofg hg rfl) (.ofg hg rfl) (by omega) hcd)) rfl ?_;refine tr_vG1 rfl rfl inferInstance (fun hg hgp=>(rk_gtr (.ofg hg rfl) (.of rfl))) rfl ?_;refine tr_val (rk_pick_or (.of rfl) rfl) rfl ?_;refine n_t ?_;refine c_b rfl (fun hcd=>?_) (fun hcd=>?_);refine s_r ?_;refine a_s rfl rfl ?_;refine n_t ?_;refine tr_ret ?_;refine tr_blk_ret ?_;refine tr_then_ret ?_;refine tr_then_ret ?_;refine tr_blk_ret ?_;refine tr_then_ret ?_;refine tr_blk_ret ?_;refine tr_then_ret ?_;refine tr_then_ret ?_;refine tr_blk_ret ?_;refine tr_then_ret ?_;refine tr_retE rfl (ends1 rfl rfl) ?_;rotate_left;refine tr_skip ?_;refine tr_blk_normal ?_;refine tr_then ?_;refine tr_region ?_;refine m_v rfl rfl ?_;refine tr_val (rk_add (.of rfl) (.of rfl) (ini (by omega))) rfl ?_;refine a_s rfl rfl ?_;refine n_t ?_;rotate_right)
      · rw [hbt] at hcd
        rw [hR 1 (by decide) (by rw [h6,if_pos (badTx_at hlj hcd)])]
      · rw [hbt] at hcd
        apply tr_next (j + 1) ⟨show j + 1 ≤ x.tx.size from hlj,fun i hi=>by
          by_cases e:i = j
          · rw [e];omega
          · exact hfj i (by omega)⟩ (show x.tx.size - (j + 1) < x.tx.size - j by omega)
        case hs1=>exact .cons rfl (.cons rfl (.cons rfl (.cons rfl .nil)))
        case ht=>(try simp only [List.take_zero,List.map_nil,List.nil_append]);exact .cons .here .nil
    · obtain rfl:j = x.tx.size:=by omega
      have hnb:badTx x.tx = false:=badTx_no.2 fun i hi=>by have:=hfj i hi;omega
      rw [hnb,if_neg (by decide)] at h6
      have hxok:=cpE_zero.1 h6
      (refine tr_seq ?_;refine s_r ?_;refine m_v rfl rfl ?_;refine f_a rfl rfl norm0_ ?_;refine tr_val (rk_load1 (.of rfl) (At.lit .here rfl)) rfl ?_;refine tr_val (rk_len_string (.of rfl)) rfl ?_;refine tr_val (rk_lss (.of rfl) (.of rfl)) rfl ?_;refine n_t ?_;refine c_d rfl (fun _=>by omega) (fun hcd=>?_);refine x_t ?_;refine tr_then_exit ?_;refine tr_blk_exit ?_;refine tr_then ?_;refine s_r ?_;refine a_s rfl rfl ?_;refine n_t ?_;refine tr_block ?_)
      refine tr_for (fun j:Nat=>j ≤ k ∧ ∀ i (hi:i < k),i < j → cflQ x (l[i]'(Nat.lt_trans hi hlt)) = false) (fun j=>[(7,.int .i64 j),(4,.pointer (some ⟨bx,0,none⟩)),(3,.int .i64 k),(0,.slice a l.length cp)]) (fun _=>[blk bx (.cells #[.int .i64 x.fr,.int .i64 x.to,.int .i64 x.rw,.int .i64 x.co,.string x.tx] 117 (0,0))]) (fun j=>k - j) ?_ ?_
      · apply tr_start 0 ⟨Nat.zero_le _,fun i _ h=>by omega⟩
        case hs1=>exact .cons rfl (.cons rfl (.cons rfl (.cons rfl .nil)))
        case ht=>(try simp only [List.take_zero,List.map_nil,List.nil_append]);exact .cons .here .nil
      rintro j ⟨hj2,hfj2⟩
      by_cases hjk:j < k
      · have hjl:j < l.length:=by omega
        have hcellj:=(hc j _ (cps_get hjl)).2
        have hcf:=hcl l[j] hxok (hokj j hjk)
        have hR3j:=hR3 j hjk h6
        generalize hq:cflQ x l[j] = q at hcf hR3j
        generalize hy:l[j] = y at hcellj hcf
        dsimp only [Cp.cells] at hcellj hcf
        (refine tr_seq ?_;refine s_r ?_;refine m_v rfl rfl ?_;refine m_v rfl rfl ?_;refine tr_val (rk_lss (.of rfl) (.of rfl)) rfl ?_;refine n_t ?_;refine c_d rfl (fun hcd=>?_) (fun _=>by omega);refine s_t ?_;refine tr_seq ?_;refine tr_block ?_;refine tr_seq ?_)
        with_reducible refine tr_draw 6 (by kernel_rfl) ?_
        (refine any_val (rk_loadB (.of rfl) .here norm_ (by rfl)) rfl ?_;refine a_m rfl rfl ?_;refine a_m rfl rfl ?_;refine any_val (rk_indexAddr (.of rfl) (.of rfl) ha' (by omega) (by omega) norm1_) rfl ?_;refine any_val (rk_loadN (.of rfl) (Ats.base hcellj rfl) rfl) rfl ?_;refine any_call (rk_call (.of rfl) (.cons (.of rfl) (.cons (.of rfl) .nil)) inferInstance normc_) rfl (fun w' hm'=>(hcf w')) ?_)
        with_reducible refine any_end ?_
        (refine n_t ?_;refine c_b rfl (fun hcd=>?_) (fun hcd=>?_);refine s_r ?_;refine a_s rfl rfl ?_;refine n_t ?_;refine tr_ret ?_;refine tr_blk_ret ?_;refine tr_then_ret ?_;refine tr_then_ret ?_;refine tr_blk_ret ?_;refine tr_blk_ret ?_;refine tr_then_ret ?_;refine tr_then_ret ?_;refine tr_blk_ret ?_;refine tr_then_ret ?_;refine tr_retE rfl (ends1 rfl rfl) ?_;rotate_left;refine tr_skip ?_;refine tr_blk_normal ?_;refine tr_then ?_;refine tr_region ?_;refine m_v rfl rfl ?_;refine tr_val (rk_add (.of rfl) (.of rfl) (ini (by omega))) rfl ?_;refine a_s rfl rfl ?_;refine n_t ?_;rotate_right)
        · rw [hR3j hcd]
        · apply tr_next (j + 1) ⟨show j + 1 ≤ k from hjk,fun i hi hij=>by
            by_cases e:i = j
            · subst e;rw [hq];first | exact hcd | assumption | (rename_i hz;simpa using hz)
            · exact hfj2 i hi (by omega)⟩ (show k - (j + 1) < k - j by omega)
          case hs1=>exact .cons rfl (.cons rfl (.cons rfl (.cons rfl .nil)))
          case ht=>(try simp only [List.take_zero,List.map_nil,List.nil_append]);exact .cons .here .nil
      · obtain rfl:j = k:=by omega
        have hz:=hR4 h6 (fun i hi=>hfj2 i hi hi)
        (refine tr_seq ?_;refine s_r ?_;refine m_v rfl rfl ?_;refine m_v rfl rfl ?_;refine tr_val (rk_lss (.of rfl) (.of rfl)) rfl ?_;refine n_t ?_;refine c_d rfl (fun _=>by omega) (fun hcd=>?_);refine x_t ?_;refine tr_then_exit ?_;refine tr_blk_exit ?_;refine tr_blk_normal ?_;refine tr_then ?_;refine tr_region ?_;refine m_v rfl rfl ?_;refine tr_val (rk_add (.of rfl) (.of rfl) (ini (by omega))) rfl ?_;refine a_s rfl rfl ?_;refine n_t ?_)
        apply tr_next (j + 1) ⟨show j + 1 ≤ l.length from hlt,fun i hi=>by
          by_cases e:i = j
          · rw [e];exact hz
          · exact hf i (by omega)⟩ (show l.length - (j + 1) < l.length - j by omega)
        case hs1=>exact .cons rfl (.cons rfl .nil)
        case ht=>(try simp only [List.take_zero,List.map_nil,List.nil_append]);exact .nil
  · obtain rfl:k = l.length:=by omega
    (refine tr_seq ?_;refine s_r ?_;refine m_v rfl rfl ?_;refine m_v rfl rfl ?_;refine tr_val (rk_len_slice (.of rfl)) rfl ?_;refine tr_val (rk_lss (.of rfl) (.of rfl)) rfl ?_;refine n_t ?_;refine c_d rfl (fun _=>by omega) (fun hcd=>?_);refine x_t ?_;refine tr_then_exit ?_;refine tr_blk_exit ?_;refine tr_then ?_;refine s_r ?_;refine a_s rfl rfl ?_;refine n_t ?_;refine tr_ret ?_;refine tr_retE rfl (ends1 rfl rfl) ?_)
    rw [errE_ok.2 hf]
end Go.Proofs.A1
namespace Go.Proofs.A1
open Go Go.SL
def sfB (r c:Int) (x:Cp):Bool:=decide (x.rw < r) || decide (7 - r < x.rw) || decide (x.co < c) || decide (32 - c < x.co + (x.tx.size:Int))
def sfK (l:List Cp) (r c:Int) (k:Nat):List Nat:=(List.range k).filter fun i=>sfB r c (nthC l i)
theorem sfK_succ (l:List Cp) (r c:Int) (k:Nat):sfK l r c (k + 1) = sfK l r c k++if sfB r c (nthC l k) then [k] else []:=by
  unfold sfK;rw [List.range_succ,List.filter_append,List.filter_cons];simp
theorem sfK_len (l:List Cp) (r c:Int) (k:Nat):(sfK l r c k).length ≤ k:=by
  unfold sfK
  have:=List.length_filter_le (fun i=>sfB r c (nthC l i)) (List.range k)
  rwa [List.length_range] at this
end Go.Proofs.A1
namespace Go.Proofs.A1
open Go Go.SL
def safE (l:List Cp) (r c:Int):Int:=firstF [capE l,withinF r 0 3,withinF c 0 15]
def safX (l:List Cp) (r c:Int):List Nat:=if safE l r c = 0 then sfK l r c l.length else []
theorem safE_zero {l:List Cp} {r c:Int}:safE l r c = 0 ↔ CapOk l ∧ (0 ≤ r ∧ r ≤ 3) ∧ (0 ≤ c ∧ c ≤ 15):=by
  unfold safE
  rw [firstF_zero]
  simp only [List.mem_cons,List.not_mem_nil,or_false,forall_eq_or_imp,forall_eq,withinF_zero,capE_zero]
set_option maxHeartbeats 2000000 in
theorem safe_c {lv:Value} {l:List Cp} {r c:Int} {w:World} (h:Rd w lv 5 (cps l)) (hsz:∀ x ∈ l,x.tx.size ≤ 1000000000) :
    Gives Tryz.prog 63 [lv,.int .i64 r,.int .i64 c] w [] (fun _:Value=>True) (fun v=>.tuple #[v,.int .i64 (safE l r c)]) (fun v=>[row 3 1 v (safX l r c).length (natsV (safX l r c))]):=by
  have h1:=h
  obtain ⟨a,cp,b,o,rfl,hcap,hmax,ha,hc⟩:=h1
  rw [cps_length] at *
  unfold maxLen at hmax
  have hfi:∀ (v:Value) w',Rd w' v 1 (ints [capE l,withinF r 0 3,withinF c 0 15]) → GivesV Tryz.prog 101 [v] w' (.int .i64 (safE l r c)):=fun v w' h=>first_c v _ w' h
  refine gives_of_tr Tryz.func63 rfl rfl ?_
  (refine s_r ?_;refine a_s rfl rfl ?_;refine a_s rfl rfl ?_;refine n_t ?_;refine tr_seq ?_;refine s_r ?_;refine m_v rfl rfl ?_;refine tr_callV (rk_call (.of rfl) (.cons (.of rfl) .nil) inferInstance normc_) rfl (fun w' hm'=>(chkCaps_c (Rd.keeps h (Mem.keeps hm')) hsz)) ?_;refine m_v rfl rfl ?_;refine tr_callV (rk_call (.of rfl) (.cons (.of rfl) (.cons (.of rfl) (.cons (.of rfl) .nil))) inferInstance normc_) rfl (fun w' hm'=>(within_c r 0 3 w')) ?_;refine m_v rfl rfl ?_;refine tr_callV (rk_call (.of rfl) (.cons (.of rfl) (.cons (.of rfl) (.cons (.of rfl) .nil))) inferInstance normc_) rfl (fun w' hm'=>(within_c c 0 15 w')) ?_;refine tr_new (rk_sliceLit (.cons (.of rfl) (.cons (.of rfl) (.cons (.of rfl) .nil))) rfl rfl rfl rfl) rfl (fun _ _=>?_);refine tr_callV (rk_call (.of rfl) (.cons (.of rfl) .nil) inferInstance normc_) rfl (fun w' hm'=>(hfi _ w' (Mem.rdBlk hm' .here rfl rfl))) ?_;refine a_s rfl rfl ?_;refine n_r ?_;refine m_v rfl rfl ?_;refine tr_val (rk_neq (.of rfl) (.of rfl)) rfl ?_;refine n_t ?_;refine c_d rfl (fun hcd=>?_) (fun hcd=>?_);refine s_r ?_;refine m_v rfl rfl ?_;refine a_s rfl rfl ?_;refine a_s rfl rfl ?_;refine n_t ?_;refine r_t ?_;rotate_left;refine s_t ?_;refine s_r ?_;refine a_s rfl rfl ?_;refine n_t ?_;refine tr_seq ?_;refine s_r ?_;refine m_v rfl rfl ?_;refine tr_val (rk_len_slice (.of rfl)) rfl ?_;refine m_v rfl rfl ?_;refine n_t ?_;refine tr_block ?_;rotate_right)
  · rw [safX,if_neg hcd]
    refine tr_rowNil 3 1 ?_
    first | with_reducible apply tr_retM | with_reducible apply tr_endM
    case he=>exact ends2 rfl rfl rfl
    case hR=>
      intro w' hm'
      exact gives_end (.slice none 0 0) trivial (show Takes _ [row 3 1 (.slice none 0 0) 0 []] _ by exact .cons .here .nil) hm' rfl
  have hz:safE l r c = 0:=Decidable.not_not.1 hcd
  obtain ⟨hok,hr,hc0⟩:=safE_zero.1 hz
  have hfew:=hok.few
  clear hfi
  rw [safX,if_pos hz,hz]
  refine tr_rowNil 3 1 ?_
  refine tr_for (ι:=Nat × Value) (fun x=>x.1 ≤ l.length) (fun x=>[(26,.int .i64 (x.1:Nat)),(25,.int .i64 l.length),(24,.slice a l.length cp),(1,.int .i64 r),(2,.int .i64 c),(9,x.2)]) (fun x=>[row 3 1 x.2 (sfK l r c x.1).length (natsV (sfK l r c x.1))]) (fun x=>l.length - x.1) ?_ ?_
  · apply tr_start (0,.slice none 0 0) (Nat.zero_le _)
    case hs1=>exact .cons rfl (.cons rfl (.cons rfl (.cons rfl (.cons rfl (.cons rfl .nil)))))
    case ht=>
      show Takes _ [row 3 1 (.slice none 0 0) 0 []] _
      exact .cons .here .nil
  rintro ⟨k,v⟩ hk
  dsimp only at hk ⊢
  by_cases hlt:k < l.length
  · have ha':=ha (cps_ne hlt)
    have hcell:=(hc k _ (cps_get hlt)).2
    have hs:=sfK_succ l r c k
    have hl:=sfK_len l r c k
    have hx:=hok.ok k hlt
    rw [nthC_get hlt] at hs hx
    generalize l[k] = x at hcell hs hx
    have x1:=hx.rw;have x2:=hx.co;have x3:=hx.fit;have x4:=hx.ne
    have hcw:∀ w,GivesV Tryz.prog 128 [.agg x.cells.toArray] w (.agg #[.int .i64 x.co,.int .i64 (x.co + (x.tx.size:Int))]):=fun w=>cols_c x (by omega) (by omega) w
    dsimp only [Cp.cells] at hcell hcw
    (refine s_r ?_;refine tr_val (rk_lss (.of rfl) (.of rfl)) rfl ?_;refine n_t ?_;refine tr_seq ?_;refine c_d rfl (fun hcd=>?_) (fun _=>by omega);refine s_t ?_;refine tr_seq ?_;refine tr_block ?_;refine s_r ?_;refine m_v rfl rfl ?_;refine tr_val (rk_indexAddr (.of rfl) (.of rfl) ha' (by omega) hcd norm1_) rfl ?_;refine tr_val (rk_loadN (.of rfl) (Ats.base hcell rfl) rfl) rfl ?_;refine tr_new (rk_alloc rfl) rfl (fun _ _=>?_);refine a_s rfl rfl ?_;refine tr_store (.of rfl) (.of rfl) .here rfl rfl (okc_cons rfl (okc_cons rfl (okc_cons rfl (okc_cons rfl (okc_cons rfl okc_nil))))) (lenb rfl) norm_ ?_;refine n_r ?_;refine tr_val (rk_loadB (.of rfl) .here norm_ (by rfl)) rfl ?_;refine tr_callV (rk_call (.of rfl) (.cons (.of rfl) .nil) inferInstance normc_) rfl (fun w' hm'=>(hcw w')) ?_;refine tr_new (rk_alloc rfl) rfl (fun _ _=>?_);refine tr_store (.of rfl) (.of rfl) .here rfl rfl (okc_cons rfl (okc_cons rfl okc_nil)) (lenb rfl) norm_ ?_;refine n_r ?_;refine f_a rfl rfl norm0_ ?_;refine tr_val (rk_load1 (.of rfl) (At.lit (.there .here) rfl)) rfl ?_;refine m_v rfl rfl ?_;refine tr_val (rk_lss (.of rfl) (.of rfl)) rfl ?_;refine m_v rfl rfl ?_;refine tr_vG1 rfl rfl inferInstance (fun hg hgp=>(rk_fieldAddr (.of rfl) norm0_)) rfl ?_;refine tr_vG1 rfl rfl inferInstance (fun hg hgp=>(rk_load1 (.ofg hg rfl) (At.lit (.there .here) rfl))) rfl ?_;refine v_g rfl rfl rfl rfl ?_;refine tr_vG1 rfl rfl inferInstance (fun hg hgp=>(rk_sub (.of rfl) (.ofg hg rfl) (ini (by omega)))) rfl ?_;refine tr_vG1 rfl rfl inferInstance (fun hg hgp=>(rk_gtr (.ofg hg rfl) (.ofg hg rfl))) rfl ?_;refine tr_val (rk_pick_or (.of rfl) rfl) rfl ?_;refine m_v rfl rfl ?_;refine tr_vG1 rfl rfl inferInstance (fun hg hgp=>(rk_fieldAddr (.of rfl) norm0_)) rfl ?_;refine tr_vG1 rfl rfl inferInstance (fun hg hgp=>(rk_load1 (.ofg hg rfl) (At.lit .here rfl))) rfl ?_;refine v_g rfl rfl rfl rfl ?_;refine tr_vG1 rfl rfl inferInstance (fun hg hgp=>(rk_lss (.ofg hg rfl) (.ofg hg rfl))) rfl ?_;refine tr_val (rk_pick_or (.of rfl) rfl) rfl ?_;refine m_v rfl rfl ?_;refine tr_vG1 rfl rfl inferInstance (fun hg hgp=>(rk_fieldAddr (.of rfl) norm0_)) rfl ?_;refine tr_vG1 rfl rfl inferInstance (fun hg hgp=>(rk_load1 (.ofg hg rfl) (At.lit .here rfl))) rfl ?_;refine v_g rfl rfl rfl rfl ?_;refine tr_vG1 rfl rfl inferInstance (fun hg hgp=>(rk_sub (.of rfl) (.ofg hg rfl) (ini (by omega)))) rfl ?_;refine tr_vG1 rfl rfl inferInstance (fun hg hgp=>(rk_gtr (.ofg hg rfl) (.ofg hg rfl))) rfl ?_;refine tr_val (rk_pick_or (.of rfl) rfl) rfl ?_;refine n_t ?_;refine c_b rfl (fun hcd=>?_) (fun hcd=>?_);refine tr_region ?_;refine m_v rfl rfl ?_;refine m_v rfl rfl ?_;refine tr_new (rk_sliceLit (.cons (.of rfl) .nil) rfl rfl rfl rfl) rfl (fun _ _=>?_);rotate_left;refine tr_skip ?_;refine tr_blk_normal ?_;refine tr_then ?_;refine tr_region ?_;refine tr_val (rk_add (.of rfl) (.of rfl) (ini (by omega))) rfl ?_;refine m_v rfl rfl ?_;refine n_t ?_;rotate_right)
    · have hb:sfB r c x = true:=by unfold sfB;simp only [Bool.or_eq_true,decide_eq_true_eq];omega
      rw [hb,if_pos rfl] at hs
      have hsv:natsV (sfK l r c (k + 1)) = natsV (sfK l r c k)++[.int .i64 (k:Nat)]:=by rw [hs,natsV_app];rfl
      have hsn:(sfK l r c (k + 1)).length = (sfK l r c k).length + 1:=by rw [hs];simp
      have hol:(natsV (sfK l r c k)).length = (sfK l r c k).length * 1:=natsV_len _
      refine tr_appendB (.of rfl) (.of rfl) (.there (.there (.there .here))) .here norm_ (by rfl) (okc_cons rfl okc_nil) (by rfl) (by rfl) (by rfl) lenx_ (by rfl) ?_
      intro v'
      (refine a_s rfl rfl ?_;refine tr_nil ?_;refine tr_blk_normal ?_;refine tr_then ?_;refine tr_region ?_;refine tr_val (rk_add (.of rfl) (.of rfl) (ini (by omega))) rfl ?_;refine m_v rfl rfl ?_;refine n_t ?_)
      apply tr_next (k + 1,v') (show k + 1 ≤ l.length by omega) (show l.length - (k + 1) < l.length - k by omega)
      case hs1=>exact .cons rfl (.cons rfl (.cons rfl (.cons rfl (.cons rfl (.cons rfl .nil)))))
      case ht=>
        show Takes _ [row 3 1 v' (sfK l r c (k + 1)).length (natsV (sfK l r c (k + 1)))] _
        rw [hsn,hsv]
        exact .cons .here .nil
    · have hb:sfB r c x = false:=by unfold sfB;simp only [Bool.or_eq_false_iff,decide_eq_false_iff_not];omega
      rw [hb,if_neg (by decide),List.append_nil] at hs
      apply tr_next (k + 1,v) (show k + 1 ≤ l.length by omega) (show l.length - (k + 1) < l.length - k by omega)
      case hs1=>exact .cons rfl (.cons rfl (.cons rfl (.cons rfl (.cons rfl (.cons rfl .nil)))))
      case ht=>
        show Takes _ [row 3 1 v (sfK l r c (k + 1)).length (natsV (sfK l r c (k + 1)))] _
        rw [hs]
        exact .cons (.there (.there .here)) .nil
  · obtain rfl:k = l.length:=by omega
    (refine s_r ?_;refine tr_val (rk_lss (.of rfl) (.of rfl)) rfl ?_;refine n_t ?_;refine tr_seq ?_;refine c_d rfl (fun _=>by omega) (fun hcd=>?_);refine x_t ?_;refine tr_then_exit ?_;refine tr_blk_exit ?_;refine tr_then ?_;refine s_r ?_;refine m_v rfl rfl ?_;refine a_s rfl rfl ?_;refine a_s rfl rfl ?_;refine n_t ?_;refine tr_ret ?_)
    first | with_reducible apply tr_retM | with_reducible apply tr_endM
    case he=>exact ends2 rfl rfl rfl
    case hR=>
      intro w' hm'
      exact gives_end v trivial (by exact .cons .here .nil) hm' rfl
end Go.Proofs.A1
namespace Go.Proofs.A1
open Go Go.SL
def colS (l:List Cp) (n:Int) (r c:Nat):ByteArray:=strB ((List.range c).map (shB l n (r:Nat)))
def outS (l:List Cp) (n:Int) (r c q:Nat):ByteArray:=if q < r then strB (rowB l n (q:Nat)) else if q = r then colS l n r c else ⟨#[]⟩
def outQ (l:List Cp) (n:Int) (r c:Nat):List Value:=(List.range 8).map fun q=>Value.string (outS l n r c q)
theorem outQ_len (l:List Cp) (n:Int) (r c:Nat):(outQ l n r c).length = 8:=by simp [outQ]
theorem outQ_get (l:List Cp) (n:Int) {r:Nat} (c:Nat) (h:r < 8):(outQ l n r c)[r]? = some (.string (colS l n r c)):=by
  unfold outQ
  rw [List.getElem?_map,List.getElem?_range h]
  simp [outS]
theorem colS_succ (l:List Cp) (n:Int) (r c:Nat):colS l n r (c + 1) = colS l n r c++strOf [shB l n (r:Nat) c]:=by
  unfold colS
  rw [List.range_succ,List.map_append,← strOf_strB,← strOf_strB]
  exact strOf_app _ _
theorem outQ_set (l:List Cp) (n:Int) {r:Nat} (c:Nat) (h:r < 8):(outQ l n r c).set r (.string (colS l n r (c + 1))) = outQ l n r (c + 1):=by
  apply List.ext_getElem?
  intro q
  unfold outQ
  by_cases e:q = r
  · subst e
    rw [List.getElem?_set_self (by simpa using h),List.getElem?_map,List.getElem?_range h]
    simp [outS]
  · rw [List.getElem?_set_ne (fun x=>e x.symm),List.getElem?_map,List.getElem?_map]
    rcases Nat.lt_or_ge q 8 with h8 | h8
    · rw [List.getElem?_range h8]
      simp [outS,e]
    · rw [List.getElem?_eq_none (by simpa using h8)];rfl
theorem outQ_row (l:List Cp) (n:Int) (r:Nat):outQ l n r 32 = outQ l n (r + 1) 0:=by
  unfold outQ
  refine List.map_congr_left fun q _=>?_
  unfold outS colS rowB
  by_cases h1:q < r
  · rw [if_pos h1,if_pos (by omega)]
  · rw [if_neg h1]
    by_cases h2:q = r
    · subst h2;rw [if_pos rfl,if_pos (by omega)]
    · rw [if_neg h2,if_neg (by omega)]
      by_cases h3:q = r + 1
      · rw [if_pos h3];rfl
      · rw [if_neg h3]
theorem outQ_zero (l:List Cp) (n:Int):outQ l n 0 0 = List.replicate 8 (.string ⟨#[]⟩):=by rfl
theorem outQ_end (l:List Cp) (n:Int):outQ l n 8 0 = (scrL l n).map Value.string:=by
  unfold outQ scrL
  rw [List.map_map]
  refine List.map_congr_left fun q hq=>?_
  have:=List.mem_range.1 hq
  unfold outS
  rw [if_pos this];rfl
end Go.Proofs.A1
namespace Go.Proofs.A1
open Go Go.SL
set_option maxHeartbeats 2000000 in
theorem shownQ_c {lv:Value} {l:List Cp} {n:Int} {w:World} (h:Rd w lv 5 (cps l)) (hok:CapOk l):GivesV Tryz.prog 65 [lv,.int .i64 n] w (.agg ((scrL l n).map Value.string).toArray):=by
  have hfew:=hok.few
  obtain ⟨a,cp,b,o,rfl,hcap,hmax,ha,hc⟩:=h
  rw [cps_length] at *
  unfold maxLen at hmax
  rw [← outQ_end]
  refine givesV_of_tr Tryz.func65 rfl rfl ?_
  (refine s_r ?_;refine tr_new (rk_alloc rfl) rfl (fun _ _=>?_);refine n_r ?_;refine tr_new (rk_alloc rfl) rfl (fun _ _=>?_);refine n_t ?_;refine tr_seq ?_;refine s_r ?_;refine a_s rfl rfl ?_;refine n_t ?_;refine tr_block ?_)
  rename_i b4 _ b5 _
  refine tr_for (fun r:Nat=>r ≤ 8) (fun r=>[(6,.int .i64 r),(5,.pointer (some ⟨b5,0,none⟩)),(4,.pointer (some ⟨b4,0,none⟩)),(0,.slice a l.length cp),(1,.int .i64 n)]) (fun r=>[blk b5 (.cells (outQ l n r 0).toArray 99 (0,0)),blk b4 (.cells (List.replicate 8 (Value.string ⟨#[]⟩)).toArray 99 (0,0))]) (fun r=>8 - r) ?_ ?_
  · apply tr_start 0 (show (0:Nat) ≤ 8 by omega)
    case hs1=>exact .cons rfl (.cons rfl (.cons rfl (.cons rfl (.cons rfl .nil))))
    case ht=>
      rw [outQ_zero]
      show Takes _ [blk b5 (.cells #[.string ⟨#[]⟩,.string ⟨#[]⟩,.string ⟨#[]⟩,.string ⟨#[]⟩,.string ⟨#[]⟩,.string ⟨#[]⟩,.string ⟨#[]⟩,.string ⟨#[]⟩] 99 (0,0)),blk b4 (.cells #[.string ⟨#[]⟩,.string ⟨#[]⟩,.string ⟨#[]⟩,.string ⟨#[]⟩,.string ⟨#[]⟩,.string ⟨#[]⟩,.string ⟨#[]⟩,.string ⟨#[]⟩] 99 (0,0))] _
      exact .cons .here (.cons .here .nil)
  intro r hr
  by_cases hlr:r < 8
  · (refine tr_seq ?_;refine s_r ?_;refine m_v rfl rfl ?_;refine tr_val (rk_lss (.of rfl) (.of rfl)) rfl ?_;refine n_t ?_;refine c_d rfl (fun hcd=>?_) (fun _=>by omega);refine s_t ?_;refine tr_seq ?_;refine tr_block ?_;refine s_r ?_;refine a_s rfl rfl ?_;refine n_t ?_;refine tr_block ?_)
    refine tr_for (fun c:Nat=>c ≤ 32) (fun c=>[(7,.int .i64 c),(6,.int .i64 r),(5,.pointer (some ⟨b5,0,none⟩)),(4,.pointer (some ⟨b4,0,none⟩)),(0,.slice a l.length cp),(1,.int .i64 n)]) (fun c=>[blk b5 (.cells (outQ l n r c).toArray 99 (0,0)),blk b4 (.cells (List.replicate 8 (Value.string ⟨#[]⟩)).toArray 99 (0,0))]) (fun c=>32 - c) ?_ ?_
    · apply tr_start 0 (show (0:Nat) ≤ 32 by omega)
      case hs1=>exact .cons rfl (.cons rfl (.cons rfl (.cons rfl (.cons rfl (.cons rfl .nil)))))
      case ht=>(try simp only [List.take_zero,List.map_nil,List.nil_append]);exact .cons .here (.cons .here .nil)
    intro c hcc
    by_cases hlc:c < 32
    · (refine tr_seq ?_;refine s_r ?_;refine m_v rfl rfl ?_;refine tr_val (rk_lss (.of rfl) (.of rfl)) rfl ?_;refine n_t ?_;refine c_d rfl (fun hcd=>?_) (fun _=>by omega);refine s_t ?_;refine tr_seq ?_;refine tr_block ?_;refine s_r ?_;refine a_s rfl rfl ?_;refine n_t ?_;refine tr_seq ?_;refine s_r ?_;refine a_s rfl rfl ?_;refine n_t ?_;refine tr_block ?_)
      refine tr_for (fun j:Nat=>j ≤ l.length) (fun j=>[(9,.int .i64 j),(8,.int .u8 (shB (l.take j) n (r:Nat) c)),(7,.int .i64 c),(6,.int .i64 r),(5,.pointer (some ⟨b5,0,none⟩)),(4,.pointer (some ⟨b4,0,none⟩)),(0,.slice a l.length cp),(1,.int .i64 n)]) (fun _=>[blk b5 (.cells (outQ l n r c).toArray 99 (0,0)),blk b4 (.cells (List.replicate 8 (Value.string ⟨#[]⟩)).toArray 99 (0,0))]) (fun j=>l.length - j) ?_ ?_
      · apply tr_start 0 (show (0:Nat) ≤ l.length from Nat.zero_le _)
        case hs1=>exact .cons rfl (.cons rfl (.cons rfl (.cons rfl (.cons rfl (.cons rfl (.cons rfl (.cons rfl .nil)))))))
        case ht=>exact .cons .here (.cons .here .nil)
      intro j hj
      by_cases hlj:j < l.length
      · have ha':=ha (cps_ne hlj)
        have hcell:=(hc j _ (cps_get hlj)).2
        have hnx:=shB_next hlj n (r:Nat) c
        have hx:=hok.ok j hlj
        rw [nthC_get hlj] at hnx hx
        generalize l[j] = x at hcell hnx hx
        have x1:=hx.rw;have x2:=hx.co;have x3:=hx.fit;have x4:=hx.ne
        dsimp only [Cp.cells] at hcell
        (refine tr_seq ?_;refine s_r ?_;refine m_v rfl rfl ?_;refine m_v rfl rfl ?_;refine tr_val (rk_len_slice (.of rfl)) rfl ?_;refine tr_val (rk_lss (.of rfl) (.of rfl)) rfl ?_;refine n_t ?_;refine c_d rfl (fun hcd=>?_) (fun _=>by omega);refine s_t ?_;refine tr_seq ?_;refine tr_block ?_;refine s_r ?_;refine m_v rfl rfl ?_;refine m_v rfl rfl ?_;refine tr_val (rk_indexAddr (.of rfl) (.of rfl) ha' (by omega) hcd norm1_) rfl ?_;refine tr_val (rk_loadN (.of rfl) (Ats.base hcell rfl) rfl) rfl ?_;refine tr_new (rk_alloc rfl) rfl (fun _ _=>?_);refine tr_store (.of rfl) (.of rfl) .here rfl rfl (okc_cons rfl (okc_cons rfl (okc_cons rfl (okc_cons rfl (okc_cons rfl okc_nil))))) (lenb rfl) norm_ ?_;refine n_r ?_;refine f_a rfl rfl norm0_ ?_;refine tr_val (rk_load1 (.of rfl) (At.lit .here rfl)) rfl ?_;refine m_v rfl rfl ?_;refine tr_val (rk_eql (.of rfl) (.of rfl)) rfl ?_;refine m_v rfl rfl ?_;refine tr_vG1 rfl rfl inferInstance (fun hg hgp=>(rk_fieldAddr (.of rfl) norm0_)) rfl ?_;refine tr_vG1 rfl rfl inferInstance (fun hg hgp=>(rk_fieldAddr (.ofg hg rfl) norm0_)) rfl ?_;refine tr_vG1 rfl rfl inferInstance (fun hg hgp=>(rk_load1 (.ofg hg rfl) (At.lit .here rfl))) rfl ?_;refine v_g rfl rfl rfl rfl ?_;refine tr_vG1 rfl rfl inferInstance (fun hg hgp=>(rk_leq (.ofg hg rfl) (.ofg hg rfl))) rfl ?_;refine tr_val (rk_pick_and (.of rfl) rfl) rfl ?_;refine m_v rfl rfl ?_;refine v_g rfl rfl rfl rfl ?_;refine tr_vG1 rfl rfl inferInstance (fun hg hgp=>(rk_fieldAddr (.of rfl) norm0_)) rfl ?_;refine tr_vG1 rfl rfl inferInstance (fun hg hgp=>(rk_fieldAddr (.ofg hg rfl) norm0_)) rfl ?_;refine tr_vG1 rfl rfl inferInstance (fun hg hgp=>(rk_load1 (.ofg hg rfl) (At.lit .here rfl))) rfl ?_;refine tr_vG1 rfl rfl inferInstance (fun hg hgp=>(rk_lss (.ofg hg rfl) (.ofg hg rfl))) rfl ?_;refine tr_val (rk_pick_and (.of rfl) rfl) rfl ?_;refine m_v rfl rfl ?_;refine tr_vG1 rfl rfl inferInstance (fun hg hgp=>(rk_fieldAddr (.of rfl) norm0_)) rfl ?_;refine tr_vG1 rfl rfl inferInstance (fun hg hgp=>(rk_load1 (.ofg hg rfl) (At.lit .here rfl))) rfl ?_;refine v_g rfl rfl rfl rfl ?_;refine tr_vG1 rfl rfl inferInstance (fun hg hgp=>(rk_leq (.ofg hg rfl) (.ofg hg rfl))) rfl ?_;refine tr_val (rk_pick_and (.of rfl) rfl) rfl ?_;refine m_v rfl rfl ?_;refine v_g rfl rfl rfl rfl ?_;refine tr_vG1 rfl rfl inferInstance (fun hg hgp=>(rk_fieldAddr (.of rfl) norm0_)) rfl ?_;refine tr_vG1 rfl rfl inferInstance (fun hg hgp=>(rk_load1 (.ofg hg rfl) (At.lit .here rfl))) rfl ?_;refine tr_vG1 rfl rfl inferInstance (fun hg hgp=>(rk_fieldAddr (.of rfl) norm0_)) rfl ?_;refine tr_vG1 rfl rfl inferInstance (fun hg hgp=>(rk_load1 (.ofg hg rfl) (At.lit .here rfl))) rfl ?_;refine tr_vG1 rfl rfl inferInstance (fun hg hgp=>(rk_len_string (.ofg hg rfl))) rfl ?_;refine tr_vG1 rfl rfl inferInstance (fun hg hgp=>(rk_add (.ofg hg rfl) (.ofg hg rfl) (ini (by omega)))) rfl ?_;refine tr_vG1 rfl rfl inferInstance (fun hg hgp=>(rk_lss (.ofg hg rfl) (.ofg hg rfl))) rfl ?_;refine tr_val (rk_pick_and (.of rfl) rfl) rfl ?_;refine n_t ?_;refine c_b rfl (fun hcd=>?_) (fun hcd=>?_);refine tr_region ?_;refine f_a rfl rfl norm0_ ?_;refine tr_val (rk_load1 (.of rfl) (At.lit .here rfl)) rfl ?_;refine m_v rfl rfl ?_;refine f_a rfl rfl norm0_ ?_;refine tr_val (rk_load1 (.of rfl) (At.lit .here rfl)) rfl ?_;refine tr_val (rk_sub (.of rfl) (.of rfl) (ini (by omega))) rfl ?_;refine tr_val (rk_indexS (.of rfl) (.of rfl) (by omega) (by omega)) rfl ?_;refine a_s rfl rfl ?_;refine tr_nil ?_;refine tr_blk_normal ?_;refine tr_then ?_;refine tr_region ?_;refine m_v rfl rfl ?_;refine tr_val (rk_add (.of rfl) (.of rfl) (ini (by omega))) rfl ?_;refine a_s rfl rfl ?_;refine n_t ?_;rotate_left;refine tr_skip ?_;refine tr_blk_normal ?_;refine tr_then ?_;refine tr_region ?_;refine m_v rfl rfl ?_;refine tr_val (rk_add (.of rfl) (.of rfl) (ini (by omega))) rfl ?_;refine a_s rfl rfl ?_;refine n_t ?_;rotate_right)
        · have hcv:cov x n (r:Nat) c = true:=by unfold cov onC;simp only [Bool.and_eq_true,decide_eq_true_eq];omega
          rw [hcv,if_pos rfl] at hnx
          have hbt:(((x.tx.data.toList[((c:Int) - x.co).toNat]?.getD 0).toNat:Nat):Int) = bt x.tx ((c:Int) - x.co).toNat:=rfl
          rw [hbt,← hnx]
          apply tr_next (j + 1) (show j + 1 ≤ l.length from hlj) (show l.length - (j + 1) < l.length - j by omega)
          case hs1=>exact .cons rfl (.cons rfl (.cons rfl (.cons rfl (.cons rfl (.cons rfl (.cons rfl (.cons rfl .nil)))))))
          case ht=>exact .cons (.there .here) (.cons (.there .here) .nil)
        · have hcv:cov x n (r:Nat) c = false:=by
            cases hq:cov x n (r:Nat) c with
            | false=>rfl
            | true =>
              unfold cov onC at hq
              simp only [Bool.and_eq_true,decide_eq_true_eq] at hq
              omega
          rw [hcv,if_neg (by decide)] at hnx
          rw [← hnx]
          apply tr_next (j + 1) (show j + 1 ≤ l.length from hlj) (show l.length - (j + 1) < l.length - j by omega)
          case hs1=>exact .cons rfl (.cons rfl (.cons rfl (.cons rfl (.cons rfl (.cons rfl (.cons rfl (.cons rfl .nil)))))))
          case ht=>exact .cons (.there .here) (.cons (.there .here) .nil)
      · obtain rfl:j = l.length:=by omega
        rw [List.take_length]
        have hin:=shB_in hok n (r:Nat) c l.length (Nat.le_refl _)
        rw [List.take_length] at hin
        have hsz:(colS l n r c).size = c:=by unfold colS;rw [strB_size];simp
        have hnx:=colS_succ l n r c
        have hes:(strOf [shB l n (r:Nat) c]).size = 1:=strOf_size _
        have hen:=enc_ascii (n:=shB l n (r:Nat) c) (by omega)
        have hget:(outQ l n r c)[r * 1]? = some (.string (colS l n r c)):=by rw [Nat.mul_one];exact outQ_get l n c hlr
        have hol:=outQ_len l n r c
        have hsl:r * 1 + 1 ≤ (outQ l n r c).length:=by rw [hol];omega
        have hset:setCells (outQ l n r c) (r * 1) [.string (colS l n r (c + 1))] = outQ l n r (c + 1):=by
          show (outQ l n r c).set (r * 1) _ = _
          rw [Nat.mul_one];exact outQ_set l n c hlr
        generalize shB l n (r:Nat) c = y at hin hnx hes hen
        generalize hS:colS l n r c = S at hsz hnx hget
        rw [hnx] at hset
        have hw:IntKind.i32.wrap y = y:=by unfold IntKind.wrap;simp [IntKind.signed,IntKind.bits];omega
        (refine tr_seq ?_;refine s_r ?_;refine m_v rfl rfl ?_;refine m_v rfl rfl ?_;refine tr_val (rk_len_slice (.of rfl)) rfl ?_;refine tr_val (rk_lss (.of rfl) (.of rfl)) rfl ?_;refine n_t ?_;refine c_d rfl (fun _=>by omega) (fun hcd=>?_);refine x_t ?_;refine tr_then_exit ?_;refine tr_blk_exit ?_;refine tr_then ?_;refine tr_region ?_;refine m_v rfl rfl ?_;refine m_v rfl rfl ?_;refine tr_val (rk_indexAddrA (.of rfl) (.of rfl) (by omega) (by assumption) norm1_) rfl ?_;refine tr_val (rk_load1 (.of rfl) (At.blkL .here hget)) rfl ?_;refine m_v rfl rfl ?_;refine tr_val (rk_conv (.of rfl)) rfl ?_)
        refine tr_val (rk_convR (.of rfl)) rfl ?_
        rw [hw,hen]
        (refine tr_val (rk_cat (.of rfl) (.of rfl) (by omega)) rfl ?_;refine tr_val (rk_indexAddrA (.of rfl) (.of rfl) (by omega) (by assumption) norm1_) rfl ?_;refine tr_store (.of rfl) (.of rfl) .here rfl rfl (okc_cons rfl okc_nil) hsl hset ?_;refine tr_nil ?_;refine tr_blk_normal ?_;refine tr_then ?_;refine tr_region ?_;refine m_v rfl rfl ?_;refine tr_val (rk_add (.of rfl) (.of rfl) (ini (by omega))) rfl ?_;refine a_s rfl rfl ?_;refine n_t ?_)
        apply tr_next (c + 1) (show c + 1 ≤ 32 from hlc) (show 32 - (c + 1) < 32 - c by omega)
        case hs1=>exact .cons rfl (.cons rfl (.cons rfl (.cons rfl (.cons rfl (.cons rfl .nil)))))
        case ht=>(try simp only [List.take_zero,List.map_nil,List.nil_append]);exact .cons .here (.cons .here .nil)
    · obtain rfl:c = 32:=by omega
      (refine tr_seq ?_;refine s_r ?_;refine m_v rfl rfl ?_;refine tr_val (rk_lss (.of rfl) (.of rfl)) rfl ?_;refine n_t ?_;refine c_d rfl (fun _=>by omega) (fun hcd=>?_);refine x_t ?_;refine tr_then_exit ?_;refine tr_blk_exit ?_;refine tr_blk_normal ?_;refine tr_then ?_;refine tr_region ?_;refine m_v rfl rfl ?_;refine tr_val (rk_add (.of rfl) (.of rfl) (ini (by omega))) rfl ?_;refine a_s rfl rfl ?_;refine n_t ?_)
      rw [outQ_row]
      apply tr_next (r + 1) (show r + 1 ≤ 8 by omega) (show 8 - (r + 1) < 8 - r by omega)
      case hs1=>exact .cons rfl (.cons rfl (.cons rfl (.cons rfl (.cons rfl .nil))))
      case ht=>(try simp only [List.take_zero,List.map_nil,List.nil_append]);exact .cons .here (.cons .here .nil)
  · obtain rfl:r = 8:=by omega
    (refine tr_seq ?_;refine s_r ?_;refine m_v rfl rfl ?_;refine tr_val (rk_lss (.of rfl) (.of rfl)) rfl ?_;refine n_t ?_;refine c_d rfl (fun _=>by omega) (fun hcd=>?_);refine x_t ?_;refine tr_then_exit ?_;refine tr_blk_exit ?_;refine tr_then ?_;refine s_r ?_;refine tr_val (rk_loadB (.of rfl) .here norm_ (by rfl)) rfl ?_;refine tr_store (.of rfl) (.of rfl) (.there .here) rfl rfl (okc_cons rfl (okc_cons rfl (okc_cons rfl (okc_cons rfl (okc_cons rfl (okc_cons rfl (okc_cons rfl (okc_cons rfl okc_nil)))))))) (lenb rfl) norm_ ?_;refine n_t ?_;refine tr_ret ?_;refine tr_retE rfl (ends1cB rfl inferInstance rfl .here norm_ (by rfl)) ?_)
    rw [cellsAt_all (n:=8) (outQ_len _ _ _ _),setCells_full (by rw [outQ_len];rfl),cellsAt_all (n:=8) (outQ_len _ _ _ _)]
end Go.Proofs.A1
namespace Go.Proofs.A1
open Go Go.SL
theorem capOk_nil:CapOk []:=⟨by decide,fun k h=>absurd h (by simp),fun k h=>absurd h (by simp)⟩
theorem blankQ_c (w:World):GivesV Tryz.prog 69 [] w (.agg ((scrL [] 0).map Value.string).toArray):=by
  have hsh:∀ w',GivesV Tryz.prog 65 [.slice none 0 0,.int .i64 0] w' (.agg ((scrL [] 0).map Value.string).toArray):=fun w'=>shownQ_c (l:=[]) (n:=0) (Rd.nil w' 5) capOk_nil
  have e:((scrL [] 0).map Value.string) = [.string (strB (rowB [] 0 0)),.string (strB (rowB [] 0 1)),.string (strB (rowB [] 0 2)),.string (strB (rowB [] 0 3)),.string (strB (rowB [] 0 4)),.string (strB (rowB [] 0 5)),.string (strB (rowB [] 0 6)),.string (strB (rowB [] 0 7))]:=rfl
  rw [e] at hsh ⊢
  refine givesV_of_tr Tryz.func69 rfl rfl ?_
  (refine s_r ?_;refine tr_new (rk_alloc rfl) rfl (fun _ _=>?_);refine n_r ?_;refine tr_callV (rk_call (.of rfl) (.cons (.of rfl) (.cons (.of rfl) .nil)) inferInstance normc_) rfl (fun w' hm'=>(hsh w')) ?_;refine tr_store (.of rfl) (.of rfl) .here rfl rfl (okc_cons rfl (okc_cons rfl (okc_cons rfl (okc_cons rfl (okc_cons rfl (okc_cons rfl (okc_cons rfl (okc_cons rfl okc_nil)))))))) (lenb rfl) norm_ ?_;refine n_t ?_;refine tr_ret ?_;refine tr_retE rfl (ends1cB rfl inferInstance rfl .here norm_ (by rfl)) ?_)
  rfl
end Go.Proofs.A1
namespace Go.Proofs.A1
open Go Go.SL
structure NxE (l:List Cp) (at':Int) (k:Nat) (n:Int):Prop where
  no:n < 0 → n = -1 ∧ ∀ i (h:i < l.length),i < k → l[i].fr ≤ at' ∧ l[i].to ≤ at'
  yes:0 ≤ n → at' < n ∧ (∃ i,∃ h:i < l.length,i < k ∧ (l[i].fr = n ∨ l[i].to = n)) ∧ ∀ i (h:i < l.length),i < k → (at' < l[i].fr → n ≤ l[i].fr) ∧ (at' < l[i].to → n ≤ l[i].to)
end Go.Proofs.A1
namespace Go.Proofs.A1
open Go Go.SL
structure ChI (l:List Cp) (at':Int) (out:List Nat):Prop where
  inc:out.Pairwise (· < ·)
  mem:∀ n:Nat,n ∈ out ↔ ((n:Int) ≤ at' ∧ endB l (n:Int) = true ∧ chB l (n:Int) = true)
theorem scr_before {l:List Cp} (h:CapOk l):scrL l (-1) = scrL [] 0:=by
  unfold scrL rowB
  refine List.map_congr_left fun r _=>?_
  congr 1
  refine List.map_congr_left fun k _=>?_
  rw [shB_none fun x hx=>by
    obtain ⟨j,hj,rfl⟩:=List.getElem_of_mem hx
    have:=(h.ok j hj).sp
    rw [nthC_get hj] at this
    omega]
  rfl
end Go.Proofs.A1
namespace Go.Proofs.A1
open Go Go.SL
end Go.Proofs.A1
namespace Go.Proofs.A1
open Go Go.SL
end Go.Proofs.A1
namespace Go.Proofs.A1
open Go Go.SL
end Go.Proofs.A1
namespace Go.Proofs.A1
open Go Go.SL
end Go.Proofs.A1
namespace Go.Proofs.A1
open Go Go.SL
theorem bt_ofNat {s:ByteArray} {i:Nat} (h:i < s.data.toList.length):UInt8.ofNat (bt s i).toNat = s.data.toList[i]:=by
  unfold bt
  rw [List.getElem?_eq_getElem h,Option.getD_some,Int.toNat_natCast]
  exact UInt8.ofNat_toNat
theorem strB_all (s:ByteArray):strB ((List.range s.size).map (bt s)) = s:=by
  apply ByteArray.ext
  apply Array.ext'
  show ((List.range s.size).map (bt s)).map _ = s.data.toList
  have hl:s.data.toList.length = s.size:=rfl
  refine List.ext_getElem (by simp [hl]) fun i h1 h2=>?_
  rw [List.getElem_map,List.getElem_map,List.getElem_range]
  exact bt_ofNat h2
theorem snt_low {s:ByteArray} (h:sntE s = 0):∀ k,k < s.size → 0 ≤ bt s k ∧ bt s k < 128:=by
  intro k hk
  unfold sntE at h
  by_cases h4:4000 < s.size
  · rw [if_pos h4] at h;cases h
  · rw [if_neg h4] at h
    cases hb:hiB s with
    | true=>rw [hb,if_pos rfl] at h;cases h
    | false=>exact ⟨by unfold bt;omega,hiB_false hb k hk⟩
theorem sntL_eq {s:ByteArray} (h:sntE s = 0):sntL s = sntK s s.size:=by unfold sntL;rw [if_pos h]
theorem sntK_get {s:ByteArray} {k j:Nat} (h:k < j):(sntK s j).getD k 0 = sntB (bt s k):=by
  unfold sntK
  rw [List.getD_eq_getElem?_getD,List.getElem?_map,List.getElem?_range h];rfl
theorem snt_bytes {s:ByteArray} (h:sntE s = 0):∀ x ∈ sntK s s.size,0 ≤ x ∧ x ≤ 255:=by
  intro x hx
  unfold sntK at hx
  obtain ⟨k,hk,rfl⟩:=List.mem_map.1 hx
  exact ⟨(hrd_snt (snt_low h k (List.mem_range.1 hk))).2.2.1,(hrd_snt (snt_low h k (List.mem_range.1 hk))).2.2.2⟩
theorem hrd_sent {s:ByteArray} (h:sntE s = 0):hrdT (sntK s s.size) = (List.range s.size).map (bt s) ∧ hrdW (sntK s s.size) s.size = []:=by
  refine ⟨?_,?_⟩
  · unfold hrdT sntK
    rw [List.map_map]
    exact List.map_congr_left fun k hk=>(hrd_snt (snt_low h k (List.mem_range.1 hk))).1
  · unfold hrdW
    rw [List.filter_eq_nil_iff]
    intro k hk
    rw [sntK_get (List.mem_range.1 hk),(hrd_snt (snt_low h k (List.mem_range.1 hk))).2.1]
    decide
theorem hrd_wrong {s:ByteArray} (h:sntE s = 0) {k b:Nat} (hk:k < s.size) (hb:b < 8) :
    hrdT ((sntK s s.size).set k (xorF ((sntK s s.size).getD k 0) ((2 ^ b:Nat):Int))) = ((List.range s.size).map (bt s)).set k 63 ∧ hrdW ((sntK s s.size).set k (xorF ((sntK s s.size).getD k 0) ((2 ^ b:Nat):Int))) s.size = [k]:=by
  have ho:=hrd_snt (snt_low h k hk)
  rw [sntK_get hk]
  obtain ⟨y,hy,hye⟩:=byte_nat ⟨ho.2.2.1,ho.2.2.2⟩
  have hx:oddB (xorF (sntB (bt s k)) ((2 ^ b:Nat):Int)) = false:=by
    rw [hye,oddX y hy b hb,← hye,ho.2.1];rfl
  refine ⟨?_,?_⟩
  · unfold hrdT
    rw [List.map_set]
    have h63:hrdB (xorF (sntB (bt s k)) ((2 ^ b:Nat):Int)) = 63:=by unfold hrdB;rw [hx];rfl
    rw [h63]
    congr 1
    exact (hrd_sent h).1
  · unfold hrdW
    have hf:∀ i,i < s.size → (!oddB (((sntK s s.size).set k (xorF (sntB (bt s k)) ((2 ^ b:Nat):Int))).getD i 0)) = decide (i = k):=fun i hi=>by
      rw [List.getD_eq_getElem?_getD,List.getElem?_set,sntK_len]
      by_cases e:k = i
      · subst e
        rw [if_pos rfl,if_pos hi,Option.getD_some,hx,decide_eq_true rfl];rfl
      · rw [if_neg e,← List.getD_eq_getElem?_getD,sntK_get hi,(hrd_snt (snt_low h i hi)).2.1,decide_eq_false (fun h=>e h.symm)];rfl
    rw [List.filter_congr (q:=fun i=>decide (i = k)) (fun i hi=>hf i (List.mem_range.1 hi))]
    refine inc_uniq (List.Pairwise.filter _ List.pairwise_lt_range) (List.pairwise_singleton _ _) fun x=>?_
    rw [List.mem_filter,List.mem_range,List.mem_singleton,decide_eq_true_eq]
    exact ⟨fun h=>h.2,fun h=>⟨by omega,h⟩⟩
theorem strB_set {s:ByteArray} {k:Nat} (hk:k < s.size):strB (((List.range s.size).map (bt s)).set k 63) = s.extract 0 k++⟨#[63]⟩++s.extract (k + 1) s.size:=by
  apply ByteArray.ext
  apply Array.ext'
  have hl:s.data.toList.length = s.size:=rfl
  have h0:(((List.range s.size).map (bt s)).map fun n=>UInt8.ofNat n.toNat) = s.data.toList:=by
    refine List.ext_getElem (by simp [hl]) fun i h1 h2=>?_
    rw [List.getElem_map,List.getElem_map,List.getElem_range]
    exact bt_ofNat h2
  show ((((List.range s.size).map (bt s)).set k 63).map fun n=>UInt8.ofNat n.toNat) = _
  rw [List.map_set,h0]
  have e1:(s.extract 0 k++⟨#[63]⟩++s.extract (k + 1) s.size).data.toList = s.data.toList.take k++[63]++s.data.toList.drop (k + 1):=by
    have a1:(s.extract 0 k).data.toList = s.data.toList.take k:=by simp [ByteArray.data_extract]
    have a2:(s.extract (k + 1) s.size).data.toList = s.data.toList.drop (k + 1):=by
      rw [ByteArray.data_extract,Array.toList_extract]
      simp only [List.extract_eq_take_drop]
      rw [List.take_of_length_le (by rw [List.length_drop,hl];omega)]
    rw [ByteArray.data_append,ByteArray.data_append,Array.toList_append,Array.toList_append,a1,a2]
  rw [e1,List.set_eq_take_append_cons_drop,if_pos (by rw [hl];exact hk)]
  simp
end Go.Proofs.A1
namespace Go.Proofs.A1
open Go Go.SL
theorem hasI_c {lv:Value} {l:List Int} (x:Int) {w:World} (h:Rd w lv 1 (intg l)):GivesV Tryz.prog 70 [lv,.int .i64 x] w (.bool (l.contains x)):=by
  obtain ⟨a,cap,b,o,rfl,hcap,hmax,ha,hc⟩:=h
  rw [intg_length] at *
  unfold maxLen at hmax
  refine givesV_of_tr Tryz.func70 rfl rfl ?_
  (refine s_r ?_;refine a_s rfl rfl ?_;refine n_t ?_;refine tr_seq ?_;refine s_r ?_;refine a_s rfl rfl ?_;refine n_t ?_;refine tr_block ?_)
  refine tr_for (fun k:Nat=>k ≤ l.length ∧ ∀ i (hi:i < k) (hl:i < l.length),¬ l[i] = x) (fun k=>[(5,.int .i64 k),(0,.slice a l.length cap),(1,.int .i64 x)]) (fun _=>[]) (fun k=>l.length - k) ?_ ?_
  · apply tr_start 0 ⟨Nat.zero_le _,fun i h=>by omega⟩
    case hs1=>exact .cons rfl (.cons rfl (.cons rfl .nil))
    case ht=>(try simp only [List.take_zero,List.map_nil,List.nil_append]);exact .nil
  rintro k ⟨hk,hf⟩
  by_cases hlt:k < l.length
  · have ha':=ha (intg_ne hlt)
    have c0:w.cell? ⟨b,o + k * 1,none⟩ = some (.int .i64 l[k]):=(hc k _ (intg_get hlt)).2 0 _ rfl
    (refine tr_seq ?_;refine s_r ?_;refine m_v rfl rfl ?_;refine m_v rfl rfl ?_;refine tr_val (rk_len_slice (.of rfl)) rfl ?_;refine tr_val (rk_lss (.of rfl) (.of rfl)) rfl ?_;refine n_t ?_;refine c_d rfl (fun hcd=>?_) (fun _=>by omega);refine s_t ?_;refine tr_seq ?_;refine tr_block ?_;refine s_r ?_;refine m_v rfl rfl ?_;refine m_v rfl rfl ?_;refine tr_val (rk_indexAddr (.of rfl) (.of rfl) ha' (by omega) hcd norm1_) rfl ?_;refine tr_val (rk_load1 (.of rfl) (At.base c0 rfl)) rfl ?_;refine m_v rfl rfl ?_;refine tr_val (rk_eql (.of rfl) (.of rfl)) rfl ?_;refine n_t ?_;refine c_d rfl (fun hcd=>?_) (fun hcd=>?_);refine s_r ?_;refine a_s rfl rfl ?_;refine n_t ?_;refine tr_ret ?_;refine tr_blk_ret ?_;refine tr_then_ret ?_;refine tr_then_ret ?_;refine tr_blk_ret ?_;refine tr_then_ret ?_;refine tr_retE rfl (ends1 rfl rfl) ?_;rotate_left;refine tr_skip ?_;refine tr_blk_normal ?_;refine tr_then ?_;refine tr_region ?_;refine m_v rfl rfl ?_;refine tr_val (rk_add (.of rfl) (.of rfl) (ini (by omega))) rfl ?_;refine a_s rfl rfl ?_;refine n_t ?_;rotate_right)
    · have:l.contains x = true:=by
        rw [List.contains_iff_mem,← hcd];exact List.getElem_mem hlt
      rw [this]
    · apply tr_next (k + 1) ⟨by omega,fun i hi hl=>by
        by_cases e:i = k
        · subst e;exact hcd
        · exact hf i (by omega) hl⟩ (by omega)
      case hs1=>exact .cons rfl (.cons rfl (.cons rfl .nil))
      case ht=>(try simp only [List.take_zero,List.map_nil,List.nil_append]);exact .nil
  obtain rfl:k = l.length:=by omega
  have hn:l.contains x = false:=by
    rw [Bool.eq_false_iff]
    intro h
    rw [List.contains_iff_mem] at h
    obtain ⟨i,hi,e⟩:=List.getElem_of_mem h
    exact hf i hi hi e
  (refine tr_seq ?_;refine s_r ?_;refine m_v rfl rfl ?_;refine m_v rfl rfl ?_;refine tr_val (rk_len_slice (.of rfl)) rfl ?_;refine tr_val (rk_lss (.of rfl) (.of rfl)) rfl ?_;refine n_t ?_;refine c_d rfl (fun _=>by omega) (fun hcd=>?_);refine x_t ?_;refine tr_then_exit ?_;refine tr_blk_exit ?_;refine tr_then ?_;refine s_r ?_;refine a_s rfl rfl ?_;refine n_t ?_;refine tr_ret ?_;refine tr_retE rfl (ends1 rfl rfl) ?_)
  rw [hn]
end Go.Proofs.A1
