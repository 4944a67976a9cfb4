/- Parts of the proof: U30 U33. -/
import Derived.Test.YthhidjfahmcekaaGreatDoorHM09
import Derived.Test.YthhidjfahmcekaaGreatDoorHM06
import Derived.Test.YthhidjfahmcekaaGreatDoorHM17
set_option linter.unusedSectionVars false
set_option linter.unusedVariables false
set_option linter.unusedSimpArgs false
namespace Go.Proofs.A1
open Go Go.SL
theorem rateF_if (r:Rt):rateF r = if (r.fr ≠ 24 ∧ r.fr ≠ 25) ∧ r.fr ≠ 30 then 13 else if r.dr = true ∧ r.fr ≠ 30 then 24 else 0:=by
  unfold rateF
  by_cases a:r.fr = 24 <;> by_cases b:r.fr = 25 <;> by_cases c:r.fr = 30 <;> cases d:r.dr <;> simp [a,b,c,d,whenF,firstF]
theorem rateQ_c (r:Rt) (w:World):GivesV Tryz.prog 21 [.agg r.cells.toArray] w (.int .i64 (rateF r)):=by
  have he:=rateF_if r
  unfold Rt.cells
  refine givesV_of_tr Tryz.func21 rfl rfl ?_
  (refine s_r ?_;refine tr_new (rk_box (.of rfl) rfl) rfl (fun _ _=>?_);refine a_s rfl rfl ?_;refine n_t ?_;refine tr_seq ?_;refine s_r ?_;refine f_a rfl rfl norm0_ ?_;refine tr_val (rk_load1 (.of rfl) (At.lit .here rfl)) rfl ?_;refine tr_val (rk_neq (.of rfl) (.of rfl)) rfl ?_;refine m_v rfl rfl ?_;refine tr_vG1 rfl rfl inferInstance (fun hg hgp=>(rk_fieldAddr (.of rfl) norm0_)) rfl ?_;refine tr_vG1 rfl rfl inferInstance (fun hg hgp=>(rk_load1 (.ofg hg rfl) (At.lit .here rfl))) rfl ?_;refine tr_vG1 rfl rfl inferInstance (fun hg hgp=>(rk_neq (.ofg hg rfl) (.of rfl))) rfl ?_;refine tr_val (rk_pick_and (.of rfl) rfl) rfl ?_;refine m_v rfl rfl ?_;refine tr_vG1 rfl rfl inferInstance (fun hg hgp=>(rk_fieldAddr (.of rfl) norm0_)) rfl ?_;refine tr_vG1 rfl rfl inferInstance (fun hg hgp=>(rk_load1 (.ofg hg rfl) (At.lit .here rfl))) rfl ?_;refine tr_vG1 rfl rfl inferInstance (fun hg hgp=>(rk_neq (.ofg hg rfl) (.of rfl))) rfl ?_;refine tr_val (rk_pick_and (.of rfl) rfl) rfl ?_;refine n_t ?_;refine c_b rfl (fun hcd=>?_) (fun hcd=>?_);refine s_r ?_;refine a_s rfl rfl ?_;refine n_t ?_;refine r_t ?_;refine tr_retE rfl (ends1 rfl rfl) ?_;rotate_left;refine s_t ?_;refine tr_seq ?_;refine s_r ?_;refine f_a rfl rfl norm0_ ?_;refine tr_val (rk_load1 (.of rfl) (At.lit .here rfl)) rfl ?_;refine m_v rfl rfl ?_;refine tr_vG1 rfl rfl inferInstance (fun hg hgp=>(rk_fieldAddr (.of rfl) norm0_)) rfl ?_;refine tr_vG1 rfl rfl inferInstance (fun hg hgp=>(rk_load1 (.ofg hg rfl) (At.lit .here rfl))) rfl ?_;refine tr_vG1 rfl rfl inferInstance (fun hg hgp=>(rk_neq (.ofg hg rfl) (.of rfl))) rfl ?_;refine tr_val (rk_pick_and (.of rfl) rfl) rfl ?_;refine n_t ?_;refine c_b rfl (fun hcd=>?_) (fun hcd=>?_);refine s_r ?_;refine a_s rfl rfl ?_;refine n_t ?_;refine r_t ?_;refine tr_retE rfl (ends1 rfl rfl) ?_;rotate_left;refine s_t ?_;refine s_r ?_;refine a_s rfl rfl ?_;refine n_t ?_;refine tr_ret ?_;refine tr_retE rfl (ends1 rfl rfl) ?_;rotate_right;rotate_right)
  · rw [he,if_pos hcd]
  · rename_i h1 _
    rw [he,if_neg (by omega),if_pos hcd]
  · rename_i h1 _
    rw [he,if_neg (by omega),if_neg (by rintro ⟨a,b⟩;rcases hcd with h | h;(rw [a] at h;cases h);exact h b)]
theorem dropQ_c (r:Rt) (l:Lb) (w:World):GivesV Tryz.prog 99 [.agg r.cells.toArray,.agg l.cells.toArray] w (.bool (drpB r l)):=by
  unfold Rt.cells Lb.cells
  refine givesV_of_tr Tryz.func99 rfl rfl ?_
  (refine s_r ?_;refine tr_new (rk_box (.of rfl) rfl) rfl (fun _ _=>?_);refine tr_new (rk_box (.of rfl) rfl) rfl (fun _ _=>?_);refine a_s rfl rfl ?_;refine n_r ?_;refine f_a rfl rfl norm0_ ?_;refine tr_val (rk_load1 (.of rfl) (At.lit (.there .here) rfl)) rfl ?_;refine m_v rfl rfl ?_;refine tr_vG1 rfl rfl inferInstance (fun hg hgp=>(rk_fieldAddr (.of rfl) norm0_)) rfl ?_;refine tr_vG1 rfl rfl inferInstance (fun hg hgp=>(rk_load1 (.ofg hg rfl) (At.lit .here rfl))) rfl ?_;refine tr_vG1 rfl rfl inferInstance (fun hg hgp=>(rk_remT (.ofg hg rfl) (.of rfl) (by omega))) rfl ?_;refine tr_vG1 rfl rfl inferInstance (fun hg hgp=>(rk_neq (.ofg hg rfl) (.of rfl))) rfl ?_;refine tr_val (rk_pick_and (.of rfl) rfl) rfl ?_;refine m_v rfl rfl ?_;refine tr_vG1 rfl rfl inferInstance (fun hg hgp=>(rk_fieldAddr (.of rfl) norm0_)) rfl ?_;refine tr_vG1 rfl rfl inferInstance (fun hg hgp=>(rk_load1 (.ofg hg rfl) (At.lit .here rfl))) rfl ?_;refine tr_vG1 rfl rfl inferInstance (fun hg hgp=>(rk_eql (.ofg hg rfl) (.of rfl))) rfl ?_;refine tr_val (rk_pick_and (.of rfl) rfl) rfl ?_;refine m_v rfl rfl ?_;refine tr_vG1 rfl rfl inferInstance (fun hg hgp=>(rk_fieldAddr (.of rfl) norm0_)) rfl ?_;refine tr_vG1 rfl rfl inferInstance (fun hg hgp=>(rk_load1 (.ofg hg rfl) (At.lit .here rfl))) rfl ?_;refine tr_vG1 rfl rfl inferInstance (fun hg hgp=>(rk_lss (.ofg hg rfl) (.of rfl))) rfl ?_;refine tr_val (rk_pick_and (.of rfl) rfl) rfl ?_;refine a_s rfl rfl ?_;refine n_t ?_;refine tr_ret ?_;refine tr_retE rfl (ends1 rfl rfl) ?_)
  unfold drpB
  rw [← tmod_ne]
  cases r.dr <;> simp [Bool.and_assoc]
theorem minF_if (r:Rt) (m:Int):minF r m = if r.dr = true ∧ m.tmod 10 ≠ 0 then 60 * r.fr - 2 else 60 * r.fr:=by
  unfold minF
  rw [← tmod_ne]
  cases h:r.dr <;> simp
theorem minQ_c (r:Rt) (m:Int) (w:World) (hr:RtOk r):GivesV Tryz.prog 100 [.agg r.cells.toArray,.int .i64 m] w (.int .i64 (minF r m)):=by
  have hfr:=hr.fr
  have he:=minF_if r m
  unfold Rt.cells
  refine givesV_of_tr Tryz.func100 rfl rfl ?_
  (refine s_r ?_;refine tr_new (rk_box (.of rfl) rfl) rfl (fun _ _=>?_);refine a_s rfl rfl ?_;refine n_t ?_;refine tr_seq ?_;refine s_r ?_;refine f_a rfl rfl norm0_ ?_;refine tr_val (rk_load1 (.of rfl) (At.lit .here rfl)) rfl ?_;refine m_v rfl rfl ?_;refine v_g rfl rfl rfl rfl ?_;refine tr_vG1 rfl rfl inferInstance (fun hg hgp=>(rk_remT (.ofg hg rfl) (.of rfl) (by omega))) rfl ?_;refine tr_vG1 rfl rfl inferInstance (fun hg hgp=>(rk_neq (.ofg hg rfl) (.of rfl))) rfl ?_;refine tr_val (rk_pick_and (.of rfl) rfl) rfl ?_;refine n_t ?_;refine c_b rfl (fun hcd=>?_) (fun hcd=>?_);refine s_r ?_;refine f_a rfl rfl norm0_ ?_;refine tr_val (rk_load1 (.of rfl) (At.lit .here rfl)) rfl ?_;refine tr_val (rk_mul (.of rfl) (.of rfl) (ini (by omega))) rfl ?_;refine tr_val (rk_sub (.of rfl) (.of rfl) (ini (by omega))) rfl ?_;refine a_s rfl rfl ?_;refine n_t ?_;refine r_t ?_;refine tr_retE rfl (ends1 rfl rfl) ?_;rotate_left;refine s_t ?_;refine s_r ?_;refine f_a rfl rfl norm0_ ?_;refine tr_val (rk_load1 (.of rfl) (At.lit .here rfl)) rfl ?_;refine tr_val (rk_mul (.of rfl) (.of rfl) (ini (by omega))) rfl ?_;refine a_s rfl rfl ?_;refine n_t ?_;refine tr_ret ?_;refine tr_retE rfl (ends1 rfl rfl) ?_;rotate_right)
  · rw [he,if_pos hcd]
  · rw [he,if_neg (by rintro ⟨a,b⟩;rcases hcd with h | h;(rw [a] at h;cases h);exact h b)]
theorem lblE_at (r:Rt) (l:Lb):lblE r l = if rateF r ≠ 0 then rateF r else if firstF [withinF l.h 0 23,withinF l.m 0 59,withinF l.s 0 59,withinF l.f 0 (IntKind.i64.wrap (r.fr - 1))] ≠ 0 then firstF [withinF l.h 0 23,withinF l.m 0 59,withinF l.s 0 59,withinF l.f 0 (IntKind.i64.wrap (r.fr - 1))] else if drpB r l = true then 7 else 0:=by
  rw [← lblE_wrap]
  by_cases h0:rateF r = 0 <;> by_cases h1:withinF l.h 0 23 = 0 <;> by_cases h2:withinF l.m 0 59 = 0 <;> by_cases h3:withinF l.s 0 59 = 0 <;> by_cases h4:withinF l.f 0 (IntKind.i64.wrap (r.fr - 1)) = 0 <;> cases h5:drpB r l <;> simp [h0,h1,h2,h3,h4,firstF,whenF]
theorem lblQ_c (r:Rt) (l:Lb) (w:World):GivesV Tryz.prog 22 [.agg r.cells.toArray,.agg l.cells.toArray] w (.int .i64 (lblE r l)):=by
  have he:=lblE_at r l
  refine givesV_of_tr Tryz.func22 rfl rfl ?_
  unfold Rt.cells Lb.cells
  by_cases h0:rateF r = 0
  · (refine s_r ?_;refine tr_new (rk_box (.of rfl) rfl) rfl (fun _ _=>?_);refine tr_new (rk_box (.of rfl) rfl) rfl (fun _ _=>?_);refine a_s rfl rfl ?_;refine n_t ?_;refine tr_seq ?_;refine s_r ?_;refine tr_val (rk_loadB (.of rfl) (.there .here) norm_ (by rfl)) rfl ?_;refine tr_callV (rk_call (.of rfl) (.cons (.of rfl) .nil) inferInstance normc_) rfl (fun w' hm'=>(rateQ_c r w')) ?_;refine a_s rfl rfl ?_;refine n_r ?_;refine m_v rfl rfl ?_;refine tr_val (rk_neq (.of rfl) (.of rfl)) rfl ?_;refine n_t ?_;refine c_d rfl (fun _=>by omega) (fun hcd=>?_);refine s_t ?_;refine tr_seq ?_;refine tr_seq ?_)
    with_reducible refine tr_draw 15 (by kernel_rfl) ?_
    (refine a_f rfl rfl norm0_ ?_;refine any_val (rk_load1 (.of rfl) (At.lit .here rfl)) rfl ?_;refine any_call (rk_call (.of rfl) (.cons (.of rfl) (.cons (.of rfl) (.cons (.of rfl) .nil))) inferInstance normc_) rfl (fun w' hm'=>(range_q _ 0 23 w')) ?_;refine a_f rfl rfl norm0_ ?_;refine any_val (rk_load1 (.of rfl) (At.lit .here rfl)) rfl ?_;refine any_call (rk_call (.of rfl) (.cons (.of rfl) (.cons (.of rfl) (.cons (.of rfl) .nil))) inferInstance normc_) rfl (fun w' hm'=>(range_q _ 0 59 w')) ?_;refine a_f rfl rfl norm0_ ?_;refine any_val (rk_load1 (.of rfl) (At.lit .here rfl)) rfl ?_;refine any_call (rk_call (.of rfl) (.cons (.of rfl) (.cons (.of rfl) (.cons (.of rfl) .nil))) inferInstance normc_) rfl (fun w' hm'=>(range_q _ 0 59 w')) ?_;refine a_f rfl rfl norm0_ ?_;refine any_val (rk_load1 (.of rfl) (At.lit .here rfl)) rfl ?_;refine a_f rfl rfl norm0_ ?_;refine any_val (rk_load1 (.of rfl) (At.lit (.there .here) rfl)) rfl ?_)
    refine any_val (rk_subw (.of rfl) (.of rfl)) rfl ?_
    refine any_call (rk_call (.of rfl) (.cons (.of rfl) (.cons (.of rfl) (.cons (.of rfl) .nil))) inferInstance normc_) rfl (fun w' hm'=>(range_q _ 0 _ w')) ?_
    with_reducible refine any_end ?_
    (refine tr_new (rk_sliceLit (.cons (.of rfl) (.cons (.of rfl) (.cons (.of rfl) (.cons (.of rfl) .nil)))) rfl rfl rfl rfl) rfl (fun _ _=>?_);refine tr_callV (rk_call (.of rfl) (.cons (.of rfl) .nil) inferInstance normc_) rfl (fun w' hm'=>(first_qB (Mem.rdBlk hm' .here rfl rfl) (IntL.cons (IntL.cons (IntL.cons (IntL.cons IntL.nil)))))) ?_;refine a_s rfl rfl ?_;refine n_r ?_;refine m_v rfl rfl ?_;refine tr_val (rk_neq (.of rfl) (.of rfl)) rfl ?_;refine n_t ?_;refine c_d rfl (fun hcd=>?_) (fun hcd=>?_);refine s_r ?_;refine m_v rfl rfl ?_;refine a_s rfl rfl ?_;refine n_t ?_;refine r_t ?_;refine tr_retE rfl (ends1 rfl rfl) ?_;rotate_left;refine s_t ?_;refine tr_seq ?_;refine s_r ?_;refine tr_val (rk_loadB (.of rfl) (.there (.there .here)) norm_ (by rfl)) rfl ?_;refine tr_val (rk_loadB (.of rfl) (.there .here) norm_ (by rfl)) rfl ?_;refine tr_callV (rk_call (.of rfl) (.cons (.of rfl) (.cons (.of rfl) .nil)) inferInstance normc_) rfl (fun w' hm'=>(dropQ_c r l w')) ?_;refine n_t ?_;refine c_b rfl (fun hcd=>?_) (fun hcd=>?_);refine s_r ?_;refine a_s rfl rfl ?_;refine n_t ?_;refine r_t ?_;refine tr_retE rfl (ends1 rfl rfl) ?_;rotate_left;refine s_t ?_;refine s_r ?_;refine a_s rfl rfl ?_;refine n_t ?_;refine tr_ret ?_;refine tr_retE rfl (ends1 rfl rfl) ?_;rotate_right;rotate_right)
    · rw [he,if_neg (by simpa using h0),if_pos hcd]
    · rename_i h1
      rw [he,if_neg (by simpa using h0),if_neg (by assumption),if_pos hcd]
    · rename_i h1
      rw [he,if_neg (by simpa using h0),if_neg (by assumption),if_neg (by simpa using hcd)]
  · (refine s_r ?_;refine tr_new (rk_box (.of rfl) rfl) rfl (fun _ _=>?_);refine tr_new (rk_box (.of rfl) rfl) rfl (fun _ _=>?_);refine a_s rfl rfl ?_;refine n_t ?_;refine tr_seq ?_;refine s_r ?_;refine tr_val (rk_loadB (.of rfl) (.there .here) norm_ (by rfl)) rfl ?_;refine tr_callV (rk_call (.of rfl) (.cons (.of rfl) .nil) inferInstance normc_) rfl (fun w' hm'=>(rateQ_c r w')) ?_;refine a_s rfl rfl ?_;refine n_r ?_;refine m_v rfl rfl ?_;refine tr_val (rk_neq (.of rfl) (.of rfl)) rfl ?_;refine n_t ?_;refine c_d rfl (fun hcd=>?_) (fun _=>by omega);refine s_r ?_;refine m_v rfl rfl ?_;refine a_s rfl rfl ?_;refine n_t ?_;refine r_t ?_;refine tr_retE rfl (ends1 rfl rfl) ?_)
    rw [he,if_pos h0]
theorem sumF_in {r:Rt} (hr:RtOk r):∀ k:Nat,0 ≤ sumF r k ∧ sumF r k ≤ 1800 * k
  | 0=>by rw [sumF];omega
  | k + 1 => by
    have:=sumF_in hr k
    have hm:0 ≤ minF r k ∧ minF r k ≤ 1800:=by
      have hfr:=hr.fr
      unfold minF
      split <;> omega
    rw [sumF]
    omega
theorem frmQ_c (r:Rt) (l:Lb) (hl:LbOk r l) (w:World):GivesV Tryz.prog 24 [.agg r.cells.toArray,.agg l.cells.toArray] w (.int .i64 (frmF r l)):=by
  have hfr:=hl.ra.fr
  have h1:=hl.h;have h2:=hl.m;have h3:=hl.s;have h4:=hl.f
  have hfs:=frm_sum (r:=r) (l:=l) (by omega)
  have hm:0 ≤ l.s * r.fr ∧ l.s * r.fr ≤ 2000:=by
    rcases hfr with e | e | e <;> rw [e] <;> omega
  refine givesV_of_tr Tryz.func24 rfl rfl ?_
  unfold Rt.cells Lb.cells
  (refine s_r ?_;refine tr_new (rk_box (.of rfl) rfl) rfl (fun _ _=>?_);refine tr_new (rk_box (.of rfl) rfl) rfl (fun _ _=>?_);refine a_s rfl rfl ?_;refine n_r ?_;refine a_s rfl rfl ?_;refine n_t ?_;refine tr_seq ?_;refine s_r ?_;refine a_s rfl rfl ?_;refine n_t ?_;refine tr_block ?_)
  rename_i br _ bl _
  refine tr_for (fun k:Nat=>(k:Int) ≤ 60 * l.h + l.m) (fun k=>[(6,.int .i64 k),(5,.int .i64 (sumF r k)),(3,.pointer (some ⟨bl,0,none⟩)),(2,.pointer (some ⟨br,0,none⟩))]) (fun _=>[blk bl (.cells #[.int .i64 l.h,.int .i64 l.m,.int .i64 l.s,.int .i64 l.f] 25 (0,0)),blk br (.cells #[.int .i64 r.fr,.bool r.dr] 23 (0,0))]) (fun k=>(60 * l.h + l.m).toNat - k) ?_ ?_
  · apply tr_start 0 (show ((0:Nat):Int) ≤ 60 * l.h + l.m by omega)
    case hs1=>exact .cons rfl (.cons rfl (.cons rfl (.cons rfl .nil)))
    case ht=>(try simp only [List.take_zero,List.map_nil,List.nil_append]);exact .cons .here (.cons .here .nil)
  intro k hk
  have hs:=sumF_in hl.ra k
  have hs1:=sumF_in hl.ra (k + 1)
  have hsk:sumF r k + minF r (k:Int) = sumF r (k + 1):=rfl
  have hb:0 ≤ minF r (k:Int) ∧ minF r (k:Int) ≤ 1800:=by
    unfold minF
    split <;> omega
  by_cases hlt:(k:Int) < 60 * l.h + l.m
  · (refine tr_seq ?_;refine s_r ?_;refine m_v rfl rfl ?_;refine f_a rfl rfl norm0_ ?_;refine tr_val (rk_load1 (.of rfl) (At.lit .here rfl)) rfl ?_;refine tr_val (rk_mul (.of rfl) (.of rfl) (ini (by omega))) rfl ?_;refine f_a rfl rfl norm0_ ?_;refine tr_val (rk_load1 (.of rfl) (At.lit .here rfl)) rfl ?_;refine tr_val (rk_add (.of rfl) (.of rfl) (ini (by omega))) rfl ?_;refine tr_val (rk_lss (.of rfl) (.of rfl)) rfl ?_;refine n_t ?_;refine c_d rfl (fun hcd=>?_) (fun _=>by omega);refine s_t ?_;refine tr_seq ?_;refine tr_block ?_;refine tr_region ?_;refine m_v rfl rfl ?_;refine tr_val (rk_loadB (.of rfl) (.there .here) norm_ (by rfl)) rfl ?_;refine m_v rfl rfl ?_;refine tr_callV (rk_call (.of rfl) (.cons (.of rfl) (.cons (.of rfl) .nil)) inferInstance normc_) rfl (fun w' hm'=>(minQ_c r _ w' (LbOk.ra hl))) ?_;refine tr_val (rk_add (.of rfl) (.of rfl) (ini (by omega))) rfl ?_;refine a_s rfl rfl ?_;refine tr_nil ?_;refine tr_blk_normal ?_;refine tr_then ?_;refine tr_region ?_;refine m_v rfl rfl ?_;refine tr_val (rk_add (.of rfl) (.of rfl) (ini (by omega))) rfl ?_;refine a_s rfl rfl ?_;refine n_t ?_)
    rw [hsk]
    apply tr_next (k + 1) (show ((k + 1:Nat):Int) ≤ 60 * l.h + l.m by omega) (show (60 * l.h + l.m).toNat - (k + 1) < (60 * l.h + l.m).toNat - k by omega)
    case hs1=>exact .cons rfl (.cons rfl (.cons rfl (.cons rfl .nil)))
    case ht=>(try simp only [List.take_zero,List.map_nil,List.nil_append]);exact .cons .here (.cons .here .nil)
  · have hke:(60 * l.h + l.m).toNat = k:=by omega
    rw [hke] at hfs
    have hfe:frmF r l = if r.dr = true ∧ l.m % 10 ≠ 0 then sumF r k + l.s * r.fr + l.f - 2 else sumF r k + l.s * r.fr + l.f:=by
      rw [← hfs]
      cases h:r.dr
      · simp
      · by_cases h2:l.m % 10 = 0 <;> simp [h2]
    (refine tr_seq ?_;refine s_r ?_;refine m_v rfl rfl ?_;refine f_a rfl rfl norm0_ ?_;refine tr_val (rk_load1 (.of rfl) (At.lit .here rfl)) rfl ?_;refine tr_val (rk_mul (.of rfl) (.of rfl) (ini (by omega))) rfl ?_;refine f_a rfl rfl norm0_ ?_;refine tr_val (rk_load1 (.of rfl) (At.lit .here rfl)) rfl ?_;refine tr_val (rk_add (.of rfl) (.of rfl) (ini (by omega))) rfl ?_;refine tr_val (rk_lss (.of rfl) (.of rfl)) rfl ?_;refine n_t ?_;refine c_d rfl (fun _=>by omega) (fun hcd=>?_);refine x_t ?_;refine tr_then_exit ?_;refine tr_blk_exit ?_;refine tr_then ?_;refine s_r ?_;refine m_v rfl rfl ?_;refine f_a rfl rfl norm0_ ?_;refine tr_val (rk_load1 (.of rfl) (At.lit .here rfl)) rfl ?_;refine f_a rfl rfl norm0_ ?_;refine tr_val (rk_load1 (.of rfl) (At.lit (.there .here) rfl)) rfl ?_;refine tr_val (rk_mul (.of rfl) (.of rfl) (ini (by omega))) rfl ?_;refine tr_val (rk_add (.of rfl) (.of rfl) (ini (by omega))) rfl ?_;refine f_a rfl rfl norm0_ ?_;refine tr_val (rk_load1 (.of rfl) (At.lit .here rfl)) rfl ?_;refine tr_val (rk_add (.of rfl) (.of rfl) (ini (by omega))) rfl ?_;refine a_s rfl rfl ?_;refine n_t ?_;refine tr_seq ?_;refine s_r ?_;refine f_a rfl rfl norm0_ ?_;refine tr_val (rk_load1 (.of rfl) (At.lit (.there .here) rfl)) rfl ?_;refine m_v rfl rfl ?_;refine tr_vG1 rfl rfl inferInstance (fun hg hgp=>(rk_fieldAddr (.of rfl) norm0_)) rfl ?_;refine tr_vG1 rfl rfl inferInstance (fun hg hgp=>(rk_load1 (.ofg hg rfl) (At.lit .here rfl))) rfl ?_;refine tr_vG1 rfl rfl inferInstance (fun hg hgp=>(rk_rem (.ofg hg rfl) (.of rfl) (by omega) (by omega))) rfl ?_;refine tr_vG1 rfl rfl inferInstance (fun hg hgp=>(rk_neq (.ofg hg rfl) (.of rfl))) rfl ?_;refine tr_val (rk_pick_and (.of rfl) rfl) rfl ?_;refine n_t ?_;refine c_b rfl (fun hcd=>?_) (fun hcd=>?_);refine tr_region ?_;refine m_v rfl rfl ?_;refine tr_val (rk_sub (.of rfl) (.of rfl) (ini (by omega))) rfl ?_;refine a_s rfl rfl ?_;refine n_r ?_;refine m_v rfl rfl ?_;refine a_s rfl rfl ?_;refine n_t ?_;refine tr_ret ?_;refine tr_retE rfl (ends1 rfl rfl) ?_;rotate_left;refine s_t ?_;refine s_r ?_;refine m_v rfl rfl ?_;refine a_s rfl rfl ?_;refine n_t ?_;refine tr_ret ?_;refine tr_retE rfl (ends1 rfl rfl) ?_;rotate_right)
    · rw [hfe,if_pos hcd]
    · rw [hfe,if_neg (by rintro ⟨a,b⟩;rcases hcd with h | h;(rw [a] at h;cases h);exact h b)]
theorem ok_last {r:Rt} (hr:RtOk r):LbOk r ⟨23,59,59,r.fr - 1⟩:=by
  have hfr:=hr.fr
  refine ⟨hr,?_,?_,?_,?_,fun _ _ h=>?_⟩ <;> dsimp only at * <;> omega
theorem dayQ_c (r:Rt) (hr:RtOk r) (w:World):GivesV Tryz.prog 23 [.agg r.cells.toArray] w (.int .i64 (dayF r)):=by
  have hfr:=hr.fr
  have hd:=day_pos hr
  have hs:=day_sum r
  have hcf:∀ w,GivesV Tryz.prog 24 [.agg r.cells.toArray,.agg #[.int .i64 23,.int .i64 59,.int .i64 59,.int .i64 (r.fr - 1)]] w (.int .i64 (frmF r ⟨23,59,59,r.fr - 1⟩)):=fun w=>frmQ_c r ⟨23,59,59,r.fr - 1⟩ (ok_last hr) w
  generalize frmF r ⟨23,59,59,r.fr - 1⟩ = n at hcf hs
  unfold Rt.cells at hcf ⊢
  refine givesV_of_tr Tryz.func23 rfl rfl ?_
  (refine s_r ?_;refine tr_new (rk_box (.of rfl) rfl) rfl (fun _ _=>?_);refine a_s rfl rfl ?_;refine n_r ?_;refine tr_val (rk_loadB (.of rfl) .here norm_ (by rfl)) rfl ?_;refine f_a rfl rfl norm0_ ?_;refine tr_val (rk_load1 (.of rfl) (At.lit .here rfl)) rfl ?_;refine tr_val (rk_sub (.of rfl) (.of rfl) (ini (by omega))) rfl ?_;refine tr_val (rk_buildL (.cons (.of rfl) (.cons (.of rfl) (.cons (.of rfl) (.cons (.of rfl) .nil)))) norm_) rfl ?_;refine tr_callV (rk_call (.of rfl) (.cons (.of rfl) (.cons (.of rfl) .nil)) inferInstance normc_) rfl (fun w' hm'=>(hcf w')) ?_;refine tr_val (rk_add (.of rfl) (.of rfl) (ini (by omega))) rfl ?_;refine a_s rfl rfl ?_;refine n_t ?_;refine tr_ret ?_;refine tr_retE rfl (ends1 rfl rfl) ?_)
  rw [hs]
theorem lofQ_c (r:Rt) (n:Int) (hr:RtOk r) (hn:0 ≤ n ∧ n < dayF r) (w:World):GivesV Tryz.prog 32 [.agg r.cells.toArray,.int .i64 n] w (.agg (lblF r n).cells.toArray):=by
  have hfr:=hr.fr
  have hd:=day_pos hr
  have hm0:∀ k:Nat,1438 ≤ minF r (k:Int) ∧ minF r (k:Int) ≤ 1800:=fun k=>by
    unfold minF
    split <;> omega
  refine givesV_of_tr Tryz.func32 rfl rfl ?_
  unfold Rt.cells
  (refine s_r ?_;refine tr_new (rk_box (.of rfl) rfl) rfl (fun _ _=>?_);refine tr_new (rk_alloc rfl) rfl (fun _ _=>?_);refine n_r ?_;refine a_s rfl rfl ?_;refine n_t ?_;refine tr_seq ?_;refine tr_block ?_)
  rename_i br _ bo _
  refine tr_for (fun k:Nat=>0 ≤ restF r n k) (fun k=>[(5,.int .i64 k),(4,.pointer (some ⟨bo,0,none⟩)),(2,.pointer (some ⟨br,0,none⟩)),(1,.int .i64 (restF r n k))]) (fun _=>[blk bo (.cells #[.int .i64 0,.int .i64 0,.int .i64 0,.int .i64 0] 25 (0,0)),blk br (.cells #[.int .i64 r.fr,.bool r.dr] 23 (0,0))]) (fun k=>(restF r n k).toNat) ?_ ?_
  · rw [show (Value.int .i64 n) = .int .i64 (restF r n 0) by unfold restF sumF;rw [Int.sub_zero]]
    apply tr_start 0 (show 0 ≤ restF r n 0 by unfold restF sumF;omega)
    case hs1=>exact .cons rfl (.cons rfl (.cons rfl (.cons rfl .nil)))
    case ht=>exact .cons .here (.cons .here .nil)
  intro k hk
  have hsk:restF r n k - minF r (k:Int) = restF r n (k + 1):=by unfold restF;rw [sumF];omega
  have hb:=hm0 k
  have hk2:k ≤ 3000 ∧ restF r n k ≤ 2592000:=by
    have:∀ j:Nat,(1438:Int) * j ≤ sumF r j:=fun j=>by
      induction j with
      | zero=>unfold sumF;omega
      | succ j ih=>rw [sumF];have:=hm0 j;omega
    have:=this k
    unfold restF at hk ⊢
    omega
  by_cases hlt:minF r (k:Int) ≤ restF r n k
  · (refine tr_seq ?_;refine s_r ?_;refine m_v rfl rfl ?_;refine tr_val (rk_loadB (.of rfl) (.there .here) norm_ (by rfl)) rfl ?_;refine m_v rfl rfl ?_;refine tr_callV (rk_call (.of rfl) (.cons (.of rfl) (.cons (.of rfl) .nil)) inferInstance normc_) rfl (fun w' hm'=>(minQ_c r _ w' hr)) ?_;refine tr_val (rk_geq (.of rfl) (.of rfl)) rfl ?_;refine n_t ?_;refine c_d rfl (fun hcd=>?_) (fun _=>by omega);refine s_t ?_;refine tr_block ?_;refine s_r ?_;refine m_v rfl rfl ?_;refine tr_val (rk_loadB (.of rfl) (.there .here) norm_ (by rfl)) rfl ?_;refine m_v rfl rfl ?_;refine tr_callV (rk_call (.of rfl) (.cons (.of rfl) (.cons (.of rfl) .nil)) inferInstance normc_) rfl (fun w' hm'=>(minQ_c r _ w' hr)) ?_;refine tr_val (rk_sub (.of rfl) (.of rfl) (ini (by omega))) rfl ?_;refine a_s rfl rfl ?_;refine n_t ?_;refine tr_region ?_;refine m_v rfl rfl ?_;refine tr_val (rk_add (.of rfl) (.of rfl) (ini (by omega))) rfl ?_;refine a_s rfl rfl ?_;refine tr_nil ?_;refine tr_blk_normal ?_;refine tr_then ?_)
    rw [hsk]
    apply tr_next (k + 1) (show 0 ≤ restF r n (k + 1) by omega) (show (restF r n (k + 1)).toNat < (restF r n k).toNat by omega)
    case hs1=>exact .cons rfl (.cons rfl (.cons rfl (.cons rfl .nil)))
    case ht=>exact .cons .here (.cons .here .nil)
  · obtain ⟨hlb,hk3⟩:=lbl_min hr hn hk (by omega)
    have hx:=hk2.2
    have hfz:r.fr ≠ 0:=by omega
    have hfp:0 < r.fr:=by omega
    rw [hlb]
    have hq:∀ x:Int,0 ≤ x → x ≤ 3000000 → 0 ≤ x / r.fr ∧ x / r.fr ≤ 3000000:=fun x h1 h2=>by rcases hfr with e | e | e <;> rw [e] <;> omega
    have hq0:=hq (restF r n k) (by omega) (by omega)
    have hq2:=hq (restF r n k + 2) (by omega) (by omega)
    generalize hp:(if r.dr && decide ((k:Int) % 10 ≠ 0) then (2:Int) else 0) = p
    (refine tr_seq ?_;refine s_r ?_;refine m_v rfl rfl ?_;refine tr_val (rk_loadB (.of rfl) (.there .here) norm_ (by rfl)) rfl ?_;refine m_v rfl rfl ?_;refine tr_callV (rk_call (.of rfl) (.cons (.of rfl) (.cons (.of rfl) .nil)) inferInstance normc_) rfl (fun w' hm'=>(minQ_c r _ w' hr)) ?_;refine tr_val (rk_geq (.of rfl) (.of rfl)) rfl ?_;refine n_t ?_;refine c_d rfl (fun _=>by omega) (fun hcd=>?_);refine x_t ?_;refine tr_then_exit ?_;refine tr_blk_exit ?_;refine tr_then ?_;refine tr_seq ?_;refine s_r ?_;refine f_a rfl rfl norm0_ ?_;refine tr_val (rk_load1 (.of rfl) (At.lit (.there .here) rfl)) rfl ?_;refine m_v rfl rfl ?_;refine v_g rfl rfl rfl rfl ?_;refine tr_vG1 rfl rfl inferInstance (fun hg hgp=>(rk_rem (.ofg hg rfl) (.of rfl) (by omega) (by omega))) rfl ?_;refine tr_vG1 rfl rfl inferInstance (fun hg hgp=>(rk_neq (.ofg hg rfl) (.of rfl))) rfl ?_;refine tr_val (rk_pick_and (.of rfl) rfl) rfl ?_;refine n_t ?_;refine c_b rfl (fun hcd=>?_) (fun hcd=>?_);refine tr_region ?_;refine m_v rfl rfl ?_;refine tr_val (rk_add (.of rfl) (.of rfl) (ini (by omega))) rfl ?_;refine a_s rfl rfl ?_;refine n_t ?_;refine tr_seq ?_;rotate_left;refine s_t ?_;refine tr_seq ?_;rotate_right)
    · rw [hcd.1,Bool.true_and,if_pos (decide_eq_true hcd.2)] at hp
      subst hp
      with_reducible refine tr_draw 13 (by kernel_rfl) ?_
      (refine a_m rfl rfl ?_;refine any_val (rk_quo (.of rfl) (.of rfl) (by omega) (by omega) (by omega)) rfl ?_;refine a_m rfl rfl ?_;refine any_val (rk_rem (.of rfl) (.of rfl) (by omega) (by omega)) rfl ?_;refine a_m rfl rfl ?_;refine a_f rfl rfl norm0_ ?_;refine any_val (rk_load1 (.of rfl) (At.lit (.there .here) rfl)) rfl ?_;refine any_val (rk_quo (.of rfl) (.of rfl) (by omega) (by omega) hfp) rfl ?_;refine a_m rfl rfl ?_;refine a_f rfl rfl norm0_ ?_;refine any_val (rk_load1 (.of rfl) (At.lit (.there .here) rfl)) rfl ?_;refine any_val (rk_rem (.of rfl) (.of rfl) (by omega) hfz) rfl ?_;refine any_val (rk_buildL (.cons (.of rfl) (.cons (.of rfl) (.cons (.of rfl) (.cons (.of rfl) .nil)))) norm_) rfl ?_)
      with_reducible refine any_end ?_
      (refine tr_store (.of rfl) (.of rfl) .here rfl rfl (okc_cons rfl (okc_cons rfl (okc_cons rfl (okc_cons rfl okc_nil)))) (lenb rfl) norm_ ?_;refine n_t ?_;refine tr_ret ?_;refine tr_retE rfl (ends1cB rfl inferInstance rfl .here norm_ (by rfl)) ?_)
      rfl
    · rw [if_neg (by
        cases h:r.dr
        · simp
        · rw [h] at hcd
          rcases hcd with h2 | h2
          · cases h2
          · simpa using h2)] at hp
      subst hp
      rw [Int.add_zero]
      with_reducible refine tr_draw 13 (by kernel_rfl) ?_
      (refine a_m rfl rfl ?_;refine any_val (rk_quo (.of rfl) (.of rfl) (by omega) (by omega) (by omega)) rfl ?_;refine a_m rfl rfl ?_;refine any_val (rk_rem (.of rfl) (.of rfl) (by omega) (by omega)) rfl ?_;refine a_m rfl rfl ?_;refine a_f rfl rfl norm0_ ?_;refine any_val (rk_load1 (.of rfl) (At.lit (.there .here) rfl)) rfl ?_;refine any_val (rk_quo (.of rfl) (.of rfl) hk (by omega) hfp) rfl ?_;refine a_m rfl rfl ?_;refine a_f rfl rfl norm0_ ?_;refine any_val (rk_load1 (.of rfl) (At.lit (.there .here) rfl)) rfl ?_;refine any_val (rk_rem (.of rfl) (.of rfl) hk hfz) rfl ?_;refine any_val (rk_buildL (.cons (.of rfl) (.cons (.of rfl) (.cons (.of rfl) (.cons (.of rfl) .nil)))) norm_) rfl ?_)
      with_reducible refine any_end ?_
      (refine tr_store (.of rfl) (.of rfl) .here rfl rfl (okc_cons rfl (okc_cons rfl (okc_cons rfl (okc_cons rfl okc_nil)))) (lenb rfl) norm_ ?_;refine n_t ?_;refine tr_ret ?_;refine tr_retE rfl (ends1cB rfl inferInstance rfl .here norm_ (by rfl)) ?_)
      rfl
theorem addQ_c (r:Rt) (l:Lb) (k:Int) (hl:LbOk r l) (hk:-10000000 ≤ k ∧ k ≤ 10000000) (w:World):GivesV Tryz.prog 33 [.agg r.cells.toArray,.agg l.cells.toArray,.int .i64 k] w (.agg (addF r l k).cells.toArray):=by
  have hr:=hl.ra
  have hd:=day_pos hr
  have hf:=frm_lbl hl
  have hm:=mod_range (x:=frmF r l + k) (d:=dayF r) (by omega)
  have e:=mod_twice (x:=frmF r l + k) (d:=dayF r) (by omega)
  have hn2:0 ≤ ((frmF r l + k).tmod (dayF r) + dayF r) % dayF r ∧ ((frmF r l + k).tmod (dayF r) + dayF r) % dayF r < dayF r:=⟨Int.emod_nonneg _ (by omega),Int.emod_lt_of_pos _ (by omega)⟩
  unfold addF
  rw [← e]
  refine givesV_of_tr Tryz.func33 rfl rfl ?_
  (refine s_r ?_;refine tr_new (rk_box (.of rfl) rfl) rfl (fun _ _=>?_);refine tr_new (rk_box (.of rfl) rfl) rfl (fun _ _=>?_);refine tr_new (rk_alloc rfl) rfl (fun _ _=>?_);refine n_r ?_;refine tr_val (rk_loadB (.of rfl) (.there (.there .here)) norm_ (by rfl)) rfl ?_;refine tr_callV (rk_call (.of rfl) (.cons (.of rfl) .nil) inferInstance normc_) rfl (fun w' hm'=>(dayQ_c r hr w')) ?_;refine a_s rfl rfl ?_;refine n_t ?_;refine tr_seq ?_)
  with_reducible refine tr_draw 13 (by kernel_rfl) ?_
  (refine any_val (rk_loadB (.of rfl) (.there (.there .here)) norm_ (by rfl)) rfl ?_;refine any_val (rk_loadB (.of rfl) (.there (.there .here)) norm_ (by rfl)) rfl ?_;refine any_val (rk_loadB (.of rfl) (.there .here) norm_ (by rfl)) rfl ?_;refine any_call (rk_call (.of rfl) (.cons (.of rfl) (.cons (.of rfl) .nil)) inferInstance normc_) rfl (fun w' hm'=>(frmQ_c r l hl w')) ?_;refine a_m rfl rfl ?_;refine any_val (rk_add (.of rfl) (.of rfl) (ini (by omega))) rfl ?_;refine a_m rfl rfl ?_;refine any_val (rk_remT (.of rfl) (.of rfl) (by omega)) rfl ?_;refine a_m rfl rfl ?_;refine any_val (rk_add (.of rfl) (.of rfl) (ini (by omega))) rfl ?_;refine a_m rfl rfl ?_;refine any_val (rk_rem (.of rfl) (.of rfl) (by omega) (by omega)) rfl ?_;refine any_call (rk_call (.of rfl) (.cons (.of rfl) (.cons (.of rfl) .nil)) inferInstance normc_) rfl (fun w' hm'=>(lofQ_c r _ hr hn2 w')) ?_)
  with_reducible refine any_end ?_
  (refine tr_store (.of rfl) (.of rfl) .here rfl rfl (okc_cons rfl (okc_cons rfl (okc_cons rfl (okc_cons rfl okc_nil)))) (lenb rfl) norm_ ?_;refine n_t ?_;refine tr_ret ?_;refine tr_retE rfl (ends1cB rfl inferInstance rfl .here norm_ (by rfl)) ?_)
  rfl
end Go.Proofs.A1
namespace Go.Proofs.A1
open Go Go.SL
theorem stmQ_c (s:Stm) (w:World):GivesV Tryz.prog 37 [.agg s.cells.toArray] w (.int .i64 (stmE s)):=by
  have hlq:∀ w',GivesV Tryz.prog 22 [.agg #[.int .i64 s.ra.fr,.bool s.ra.dr],.agg #[.int .i64 s.la.h,.int .i64 s.la.m,.int .i64 s.la.s,.int .i64 s.la.f]] w' (.int .i64 (lblE s.ra s.la)):=fun w'=>lblQ_c s.ra s.la w'
  unfold Stm.cells
  refine givesV_of_tr Tryz.func37 rfl rfl ?_
  (refine s_r ?_;refine tr_new (rk_box (.of rfl) rfl) rfl (fun _ _=>?_);refine a_s rfl rfl ?_;refine n_t ?_;refine tr_seq ?_)
  with_reducible refine tr_draw 8 (by kernel_rfl) ?_
  (refine a_f rfl rfl norm0_ ?_;refine any_val (rk_loadB (.of rfl) .here norm_ (by rfl)) rfl ?_;refine a_f rfl rfl norm0_ ?_;refine any_val (rk_loadB (.of rfl) .here norm_ (by rfl)) rfl ?_;refine any_call (rk_call (.of rfl) (.cons (.of rfl) (.cons (.of rfl) .nil)) inferInstance normc_) rfl (fun w' hm'=>(hlq w')) ?_;refine a_f rfl rfl norm0_ ?_;refine any_val (rk_load1 (.of rfl) (At.lit .here rfl)) rfl ?_;refine any_call (rk_call (.of rfl) (.cons (.of rfl) (.cons (.of rfl) (.cons (.of rfl) .nil))) inferInstance normc_) rfl (fun w' hm'=>(range_q _ 0 65535 w')) ?_)
  with_reducible refine any_end ?_
  (refine tr_new (rk_sliceLit (.cons (.of rfl) (.cons (.of rfl) .nil)) rfl rfl rfl rfl) rfl (fun _ _=>?_);refine tr_callV (rk_call (.of rfl) (.cons (.of rfl) .nil) inferInstance normc_) rfl (fun w' hm'=>(first_qB (Mem.rdBlk hm' .here rfl rfl) (IntL.cons (IntL.cons IntL.nil)))) ?_;refine a_s rfl rfl ?_;refine n_t ?_;refine tr_ret ?_;refine tr_retE rfl (ends1 rfl rfl) ?_)
  rfl
theorem parQ_c (a0 a1 a2 a3 a4 a5 a6 a7 a8 a9:Int) (w:World):GivesV Tryz.prog 115 [.agg #[.int .u8 a0,.int .u8 a1,.int .u8 a2,.int .u8 a3,.int .u8 a4,.int .u8 a5,.int .u8 a6,.int .u8 a7,.int .u8 a8,.int .u8 a9]] w (.int .u8 (parF [a0,a1,a2,a3,a4,a5,a6])):=by
  refine givesV_of_tr Tryz.func115 rfl rfl ?_
  (refine s_r ?_;refine tr_new (rk_box (.of rfl) rfl) rfl (fun _ _=>?_);refine a_s rfl rfl ?_;refine n_r ?_;refine a_s rfl rfl ?_;refine n_t ?_;refine tr_seq ?_;refine s_r ?_;refine a_s rfl rfl ?_;refine n_t ?_;refine tr_block ?_)
  rename_i b1 hb1
  refine tr_for (fun k:Nat=>k ≤ 7) (fun k=>[(4,.int .i64 k),(3,.int .u8 (parF ([a0,a1,a2,a3,a4,a5,a6].take k))),(1,.pointer (some ⟨b1,0,none⟩))]) (fun k=>[blk b1 (.cells #[.int .u8 a0,.int .u8 a1,.int .u8 a2,.int .u8 a3,.int .u8 a4,.int .u8 a5,.int .u8 a6,.int .u8 a7,.int .u8 a8,.int .u8 a9] 51 (0,0))]) (fun k=>7 - k) ?_ ?_
  · apply tr_start 0 (show (0:Nat) ≤ 7 by omega)
    case hs1=>exact .cons rfl (.cons rfl (.cons rfl .nil))
    case ht=>(try simp only [List.take_zero,List.map_nil,List.nil_append]);exact .cons .here .nil
  intro k hk
  by_cases hlt:k < 7
  · obtain rfl | rfl | rfl | rfl | rfl | rfl | rfl:k = 0 ∨ k = 1 ∨ k = 2 ∨ k = 3 ∨ k = 4 ∨ k = 5 ∨ k = 6:=by omega
    · show Tr _ [] [(4,.int .i64 0),(3,.int .u8 (parF [])),(1,.pointer (some ⟨b1,0,none⟩))] [blk b1 (.cells #[.int .u8 a0,.int .u8 a1,.int .u8 a2,.int .u8 a3,.int .u8 a4,.int .u8 a5,.int .u8 a6,.int .u8 a7,.int .u8 a8,.int .u8 a9] 51 (0,0))] _
      (refine tr_seq ?_;refine s_r ?_;refine m_v rfl rfl ?_;refine tr_val (rk_lss (.of rfl) (.of rfl)) rfl ?_;refine n_t ?_;refine c_d rfl (fun hcd=>?_) (fun _=>by omega);refine s_t ?_;refine tr_seq ?_;refine tr_block ?_;refine tr_region ?_;refine m_v rfl rfl ?_;refine m_v rfl rfl ?_;refine tr_val (rk_indexAddrA (.of rfl) (.of rfl) (by omega) (by omega) norm1_) rfl ?_;refine tr_val (rk_load1 (.of rfl) (At.lit .here rfl)) rfl ?_;refine tr_val (rk_xor8 (.of rfl) (.of rfl)) rfl ?_;refine a_s rfl rfl ?_;refine tr_nil ?_;refine tr_blk_normal ?_;refine tr_then ?_;refine tr_region ?_;refine m_v rfl rfl ?_;refine tr_val (rk_add (.of rfl) (.of rfl) (ini (by omega))) rfl ?_;refine a_s rfl rfl ?_;refine n_t ?_)
      apply tr_next (Φ:=fun k:Nat=>k ≤ 7) 1 (show 1 ≤ 7 from of_decide_eq_true rfl) (by show 7 - 1 < 7 - 0;omega)
      case hs1=>exact .cons rfl (.cons rfl (.cons rfl .nil))
      case ht=>exact .cons .here .nil
    · show Tr _ [] [(4,.int .i64 1),(3,.int .u8 (parF [a0])),(1,.pointer (some ⟨b1,0,none⟩))] [blk b1 (.cells #[.int .u8 a0,.int .u8 a1,.int .u8 a2,.int .u8 a3,.int .u8 a4,.int .u8 a5,.int .u8 a6,.int .u8 a7,.int .u8 a8,.int .u8 a9] 51 (0,0))] _
      (refine tr_seq ?_;refine s_r ?_;refine m_v rfl rfl ?_;refine tr_val (rk_lss (.of rfl) (.of rfl)) rfl ?_;refine n_t ?_;refine c_d rfl (fun hcd=>?_) (fun _=>by omega);refine s_t ?_;refine tr_seq ?_;refine tr_block ?_;refine tr_region ?_;refine m_v rfl rfl ?_;refine m_v rfl rfl ?_;refine tr_val (rk_indexAddrA (.of rfl) (.of rfl) (by omega) (by omega) norm1_) rfl ?_;refine tr_val (rk_load1 (.of rfl) (At.lit .here rfl)) rfl ?_;refine tr_val (rk_xor8 (.of rfl) (.of rfl)) rfl ?_;refine a_s rfl rfl ?_;refine tr_nil ?_;refine tr_blk_normal ?_;refine tr_then ?_;refine tr_region ?_;refine m_v rfl rfl ?_;refine tr_val (rk_add (.of rfl) (.of rfl) (ini (by omega))) rfl ?_;refine a_s rfl rfl ?_;refine n_t ?_)
      apply tr_next (Φ:=fun k:Nat=>k ≤ 7) 2 (show 2 ≤ 7 from of_decide_eq_true rfl) (by show 7 - 2 < 7 - 1;omega)
      case hs1=>exact .cons rfl (.cons rfl (.cons rfl .nil))
      case ht=>exact .cons .here .nil
    · show Tr _ [] [(4,.int .i64 2),(3,.int .u8 (parF [a0,a1])),(1,.pointer (some ⟨b1,0,none⟩))] [blk b1 (.cells #[.int .u8 a0,.int .u8 a1,.int .u8 a2,.int .u8 a3,.int .u8 a4,.int .u8 a5,.int .u8 a6,.int .u8 a7,.int .u8 a8,.int .u8 a9] 51 (0,0))] _
      (refine tr_seq ?_;refine s_r ?_;refine m_v rfl rfl ?_;refine tr_val (rk_lss (.of rfl) (.of rfl)) rfl ?_;refine n_t ?_;refine c_d rfl (fun hcd=>?_) (fun _=>by omega);refine s_t ?_;refine tr_seq ?_;refine tr_block ?_;refine tr_region ?_;refine m_v rfl rfl ?_;refine m_v rfl rfl ?_;refine tr_val (rk_indexAddrA (.of rfl) (.of rfl) (by omega) (by omega) norm1_) rfl ?_;refine tr_val (rk_load1 (.of rfl) (At.lit .here rfl)) rfl ?_;refine tr_val (rk_xor8 (.of rfl) (.of rfl)) rfl ?_;refine a_s rfl rfl ?_;refine tr_nil ?_;refine tr_blk_normal ?_;refine tr_then ?_;refine tr_region ?_;refine m_v rfl rfl ?_;refine tr_val (rk_add (.of rfl) (.of rfl) (ini (by omega))) rfl ?_;refine a_s rfl rfl ?_;refine n_t ?_)
      apply tr_next (Φ:=fun k:Nat=>k ≤ 7) 3 (show 3 ≤ 7 from of_decide_eq_true rfl) (by show 7 - 3 < 7 - 2;omega)
      case hs1=>exact .cons rfl (.cons rfl (.cons rfl .nil))
      case ht=>exact .cons .here .nil
    · show Tr _ [] [(4,.int .i64 3),(3,.int .u8 (parF [a0,a1,a2])),(1,.pointer (some ⟨b1,0,none⟩))] [blk b1 (.cells #[.int .u8 a0,.int .u8 a1,.int .u8 a2,.int .u8 a3,.int .u8 a4,.int .u8 a5,.int .u8 a6,.int .u8 a7,.int .u8 a8,.int .u8 a9] 51 (0,0))] _
      (refine tr_seq ?_;refine s_r ?_;refine m_v rfl rfl ?_;refine tr_val (rk_lss (.of rfl) (.of rfl)) rfl ?_;refine n_t ?_;refine c_d rfl (fun hcd=>?_) (fun _=>by omega);refine s_t ?_;refine tr_seq ?_;refine tr_block ?_;refine tr_region ?_;refine m_v rfl rfl ?_;refine m_v rfl rfl ?_;refine tr_val (rk_indexAddrA (.of rfl) (.of rfl) (by omega) (by omega) norm1_) rfl ?_;refine tr_val (rk_load1 (.of rfl) (At.lit .here rfl)) rfl ?_;refine tr_val (rk_xor8 (.of rfl) (.of rfl)) rfl ?_;refine a_s rfl rfl ?_;refine tr_nil ?_;refine tr_blk_normal ?_;refine tr_then ?_;refine tr_region ?_;refine m_v rfl rfl ?_;refine tr_val (rk_add (.of rfl) (.of rfl) (ini (by omega))) rfl ?_;refine a_s rfl rfl ?_;refine n_t ?_)
      apply tr_next (Φ:=fun k:Nat=>k ≤ 7) 4 (show 4 ≤ 7 from of_decide_eq_true rfl) (by show 7 - 4 < 7 - 3;omega)
      case hs1=>exact .cons rfl (.cons rfl (.cons rfl .nil))
      case ht=>exact .cons .here .nil
    · show Tr _ [] [(4,.int .i64 4),(3,.int .u8 (parF [a0,a1,a2,a3])),(1,.pointer (some ⟨b1,0,none⟩))] [blk b1 (.cells #[.int .u8 a0,.int .u8 a1,.int .u8 a2,.int .u8 a3,.int .u8 a4,.int .u8 a5,.int .u8 a6,.int .u8 a7,.int .u8 a8,.int .u8 a9] 51 (0,0))] _
      (refine tr_seq ?_;refine s_r ?_;refine m_v rfl rfl ?_;refine tr_val (rk_lss (.of rfl) (.of rfl)) rfl ?_;refine n_t ?_;refine c_d rfl (fun hcd=>?_) (fun _=>by omega);refine s_t ?_;refine tr_seq ?_;refine tr_block ?_;refine tr_region ?_;refine m_v rfl rfl ?_;refine m_v rfl rfl ?_;refine tr_val (rk_indexAddrA (.of rfl) (.of rfl) (by omega) (by omega) norm1_) rfl ?_;refine tr_val (rk_load1 (.of rfl) (At.lit .here rfl)) rfl ?_;refine tr_val (rk_xor8 (.of rfl) (.of rfl)) rfl ?_;refine a_s rfl rfl ?_;refine tr_nil ?_;refine tr_blk_normal ?_;refine tr_then ?_;refine tr_region ?_;refine m_v rfl rfl ?_;refine tr_val (rk_add (.of rfl) (.of rfl) (ini (by omega))) rfl ?_;refine a_s rfl rfl ?_;refine n_t ?_)
      apply tr_next (Φ:=fun k:Nat=>k ≤ 7) 5 (show 5 ≤ 7 from of_decide_eq_true rfl) (by show 7 - 5 < 7 - 4;omega)
      case hs1=>exact .cons rfl (.cons rfl (.cons rfl .nil))
      case ht=>exact .cons .here .nil
    · show Tr _ [] [(4,.int .i64 5),(3,.int .u8 (parF [a0,a1,a2,a3,a4])),(1,.pointer (some ⟨b1,0,none⟩))] [blk b1 (.cells #[.int .u8 a0,.int .u8 a1,.int .u8 a2,.int .u8 a3,.int .u8 a4,.int .u8 a5,.int .u8 a6,.int .u8 a7,.int .u8 a8,.int .u8 a9] 51 (0,0))] _
      (refine tr_seq ?_;refine s_r ?_;refine m_v rfl rfl ?_;refine tr_val (rk_lss (.of rfl) (.of rfl)) rfl ?_;refine n_t ?_;refine c_d rfl (fun hcd=>?_) (fun _=>by omega);refine s_t ?_;refine tr_seq ?_;refine tr_block ?_;refine tr_region ?_;refine m_v rfl rfl ?_;refine m_v rfl rfl ?_;refine tr_val (rk_indexAddrA (.of rfl) (.of rfl) (by omega) (by omega) norm1_) rfl ?_;refine tr_val (rk_load1 (.of rfl) (At.lit .here rfl)) rfl ?_;refine tr_val (rk_xor8 (.of rfl) (.of rfl)) rfl ?_;refine a_s rfl rfl ?_;refine tr_nil ?_;refine tr_blk_normal ?_;refine tr_then ?_;refine tr_region ?_;refine m_v rfl rfl ?_;refine tr_val (rk_add (.of rfl) (.of rfl) (ini (by omega))) rfl ?_;refine a_s rfl rfl ?_;refine n_t ?_)
      apply tr_next (Φ:=fun k:Nat=>k ≤ 7) 6 (show 6 ≤ 7 from of_decide_eq_true rfl) (by show 7 - 6 < 7 - 5;omega)
      case hs1=>exact .cons rfl (.cons rfl (.cons rfl .nil))
      case ht=>exact .cons .here .nil
    · show Tr _ [] [(4,.int .i64 6),(3,.int .u8 (parF [a0,a1,a2,a3,a4,a5])),(1,.pointer (some ⟨b1,0,none⟩))] [blk b1 (.cells #[.int .u8 a0,.int .u8 a1,.int .u8 a2,.int .u8 a3,.int .u8 a4,.int .u8 a5,.int .u8 a6,.int .u8 a7,.int .u8 a8,.int .u8 a9] 51 (0,0))] _
      (refine tr_seq ?_;refine s_r ?_;refine m_v rfl rfl ?_;refine tr_val (rk_lss (.of rfl) (.of rfl)) rfl ?_;refine n_t ?_;refine c_d rfl (fun hcd=>?_) (fun _=>by omega);refine s_t ?_;refine tr_seq ?_;refine tr_block ?_;refine tr_region ?_;refine m_v rfl rfl ?_;refine m_v rfl rfl ?_;refine tr_val (rk_indexAddrA (.of rfl) (.of rfl) (by omega) (by omega) norm1_) rfl ?_;refine tr_val (rk_load1 (.of rfl) (At.lit .here rfl)) rfl ?_;refine tr_val (rk_xor8 (.of rfl) (.of rfl)) rfl ?_;refine a_s rfl rfl ?_;refine tr_nil ?_;refine tr_blk_normal ?_;refine tr_then ?_;refine tr_region ?_;refine m_v rfl rfl ?_;refine tr_val (rk_add (.of rfl) (.of rfl) (ini (by omega))) rfl ?_;refine a_s rfl rfl ?_;refine n_t ?_)
      apply tr_next (Φ:=fun k:Nat=>k ≤ 7) 7 (show 7 ≤ 7 from of_decide_eq_true rfl) (by show 7 - 7 < 7 - 6;omega)
      case hs1=>exact .cons rfl (.cons rfl (.cons rfl .nil))
      case ht=>exact .cons .here .nil
  · obtain rfl:k = 7:=by omega
    show Tr _ [] [(4,.int .i64 7),(3,.int .u8 (parF [a0,a1,a2,a3,a4,a5,a6])),(1,.pointer (some ⟨b1,0,none⟩))] [blk b1 (.cells #[.int .u8 a0,.int .u8 a1,.int .u8 a2,.int .u8 a3,.int .u8 a4,.int .u8 a5,.int .u8 a6,.int .u8 a7,.int .u8 a8,.int .u8 a9] 51 (0,0))] _
    (refine tr_seq ?_;refine s_r ?_;refine m_v rfl rfl ?_;refine tr_val (rk_lss (.of rfl) (.of rfl)) rfl ?_;refine n_t ?_;refine c_d rfl (fun _=>by omega) (fun hcd=>?_);refine x_t ?_;refine tr_then_exit ?_;refine tr_blk_exit ?_;refine tr_then ?_;refine s_r ?_;refine m_v rfl rfl ?_;refine a_s rfl rfl ?_;refine n_t ?_;refine tr_ret ?_;refine tr_retE rfl (ends1 rfl rfl) ?_)
    rfl
end Go.Proofs.A1
