/- Parts of the proof: ER1 ER2 ER9 ES91p ES74p. -/
import Derived.Test.YtpamkookgkffgaaGreatDoorTM20
import Derived.Test.YtpamkookgkffgaaGreatDoorTM06
set_option linter.unusedSectionVars false
set_option linter.unusedVariables false
set_option linter.unusedSimpArgs false
namespace Go.Proofs.A1
open Go Go.SL
def findS (l:List Sp) (s:ByteArray) (n:Nat):Int:=((List.range n).find? fun i=>decide ((nthS9 l i).nm = s)).elim (-1) (fun i=>(i:Int))
theorem findS_le (l:List Sp) (s:ByteArray) (n:Nat):decide (0 ≤ findS l s n) = knwS l n s:=by
  unfold findS knwS
  cases h:(List.range n).find? fun i=>decide ((nthS9 l i).nm = s) with
  | none =>
    have:(List.range n).any (fun i=>decide ((nthS9 l i).nm = s)) = false:=by
      rw [List.any_eq_false]
      exact List.find?_eq_none.1 h
    rw [this];rfl
  | some i =>
    have:(List.range n).any (fun i=>decide ((nthS9 l i).nm = s)) = true:=by
      rw [List.any_eq_true]
      exact ⟨i,List.mem_of_find?_eq_some h,by simpa using List.find?_some h⟩
    rw [this];simp
theorem findS_at {l:List Sp} {s:ByteArray} {k n:Nat} (h:∀ i,i < k → ¬ (nthS9 l i).nm = s) (hk:k < n) (hs:(nthS9 l k).nm = s):findS l s n = k:=by
  unfold findS
  have:(List.range n).find? (fun i=>decide ((nthS9 l i).nm = s)) = some k:=by
    rw [List.find?_range_eq_some]
    exact ⟨by simpa using hs,by simpa using hk,fun i hi=>by simpa using h i hi⟩
  rw [this];rfl
theorem findS_none {l:List Sp} {s:ByteArray} {n:Nat} (h:∀ i,i < n → ¬ (nthS9 l i).nm = s):findS l s n = -1:=by
  unfold findS
  have:(List.range n).find? (fun i=>decide ((nthS9 l i).nm = s)) = none:=by
    rw [List.find?_eq_none]
    intro i hi
    simpa using h i (List.mem_range.1 hi)
  rw [this];rfl
theorem findSQ_c {sv cv xv:Value} {b:Br} {w:World} (s:ByteArray) (n:Nat) (h1:Rd w sv 4 (spsL b.sp)) (hone2:cv.oneCell' = true) (hone3:xv.oneCell' = true) (hn:n ≤ b.sp.length) :
    GivesV Tryz.prog 31 [.agg #[.int .i64 b.n,sv,cv,xv],.string s,.int .i64 n] w (.int .i64 (findS b.sp s n)):=by
  obtain ⟨a,cap,bb,o,rfl,hcap,hmax,ha,hc⟩:=h1
  rw [spsL_length] at *
  unfold maxLen at hmax
  refine givesV_of_tr Tryz.func31 rfl rfl ?_
  (refine s_r ?_;refine tr_new (rk_box (.of rfl) rfl) rfl (fun _ _=>?_);refine a_s rfl rfl ?_;refine n_t ?_;refine tr_seq ?_;refine s_r ?_;refine a_s rfl rfl ?_;refine n_t ?_;refine tr_block ?_)
  rename_i b3 hb3
  refine tr_for (fun k:Nat=>k ≤ n ∧ ∀ i,i < k → ¬ (nthS9 b.sp i).nm = s) (fun k=>[(7,.int .i64 k),(1,.string s),(2,.int .i64 n),(3,.pointer (some ⟨b3,0,none⟩))])
    (fun _=>[blk b3 (.cells #[.int .i64 b.n,.slice a b.sp.length cap,cv,xv] 29 (0,0))]) (fun k=>n - k) ?_ ?_
  · apply tr_start 0 ⟨by omega,fun i h=>by omega⟩
    case hs1=>exact .cons rfl (.cons rfl (.cons rfl (.cons rfl .nil)))
    case ht=>(try simp only [List.take_zero,List.map_nil,List.nil_append]);exact .cons .here .nil
  rintro k ⟨hk,hf⟩
  by_cases hlt:k < n
  · have ha':=ha (spsL_ne (k:=k) (by omega))
    have hcell:=(hc k _ (spsL_get (k:=k) (by omega))).2 0 _ rfl
    (refine tr_seq ?_;refine s_r ?_;refine m_v rfl rfl ?_;refine m_v rfl rfl ?_;refine tr_val (rk_lss (.of rfl) (.of rfl)) rfl ?_;refine n_t ?_;refine c_d rfl (fun hcd=>?_) (fun _=>by omega);refine s_t ?_;refine tr_seq ?_;refine tr_block ?_;refine s_r ?_;refine f_a rfl rfl norm0_ ?_;refine tr_val (rk_load1 (.of rfl) (At.lit .here rfl)) rfl ?_;refine m_v rfl rfl ?_;refine tr_val (rk_indexAddr (.of rfl) (.of rfl) ha' (by omega) (by omega) norm1_) rfl ?_;refine f_a rfl rfl norm0_ ?_;refine tr_val (rk_load1 (.of rfl) (At.base hcell rfl)) rfl ?_;refine m_v rfl rfl ?_;refine tr_val (rk_eqls (.of rfl) (.of rfl)) rfl ?_;refine n_t ?_;refine c_d rfl (fun hcd=>?_) (fun hcd=>?_);refine s_r ?_;refine m_v rfl rfl ?_;refine a_s rfl rfl ?_;refine n_t ?_;refine tr_ret ?_;refine tr_blk_ret ?_;refine tr_then_ret ?_;refine tr_then_ret ?_;refine tr_blk_ret ?_;refine tr_then_ret ?_;refine tr_retE rfl (ends1 rfl rfl) ?_;rotate_left;refine tr_skip ?_;refine tr_blk_normal ?_;refine tr_then ?_;refine tr_region ?_;refine m_v rfl rfl ?_;refine tr_val (rk_add (.of rfl) (.of rfl) (ini (by omega))) rfl ?_;refine a_s rfl rfl ?_;refine n_t ?_;rotate_right)
    · rw [findS_at hf hlt hcd]
    · apply tr_next (k + 1) ⟨by omega,fun i hi=>by
        by_cases e:i = k
        · rw [e];exact hcd
        · exact hf i (by omega)⟩ (by omega)
      case hs1=>exact .cons rfl (.cons rfl (.cons rfl (.cons rfl .nil)))
      case ht=>(try simp only [List.take_zero,List.map_nil,List.nil_append]);exact .cons .here .nil
  · obtain rfl:k = n:=by omega
    (refine tr_seq ?_;refine s_r ?_;refine m_v rfl rfl ?_;refine m_v rfl rfl ?_;refine tr_val (rk_lss (.of rfl) (.of rfl)) rfl ?_;refine n_t ?_;refine c_d rfl (fun _=>by omega) (fun hcd=>?_);refine x_t ?_;refine tr_then_exit ?_;refine tr_blk_exit ?_;refine tr_then ?_;refine s_r ?_;refine a_s rfl rfl ?_;refine n_t ?_;refine tr_ret ?_;refine tr_retE rfl (ends1 rfl rfl) ?_)
    rw [findS_none hf]
theorem campQ_c {sv cv xv:Value} {b:Br} (n:Int) {w:World} (hone1:sv.oneCell' = true) (h2:Rd w cv 1 (ints b.cm)) (hone3:xv.oneCell' = true) :
    GivesV Tryz.prog 32 [.agg #[.int .i64 b.n,sv,cv,xv],.int .i64 n] w (.int .i64 (campF b.cm.length n)):=by
  obtain ⟨a,cap,bb,o,rfl,hcap,hmax,ha,hc⟩:=h2
  rw [ints_length] at *
  unfold maxLen at hmax
  refine givesV_of_tr Tryz.func32 rfl rfl ?_
  (refine s_r ?_;refine tr_new (rk_box (.of rfl) rfl) rfl (fun _ _=>?_);refine a_s rfl rfl ?_;refine n_r ?_;refine m_v rfl rfl ?_;refine tr_val (rk_lss (.of rfl) (.of rfl)) rfl ?_;refine m_v rfl rfl ?_;refine v_g rfl rfl rfl rfl ?_;refine tr_vG1 rfl rfl inferInstance (fun hg hgp=>(rk_fieldAddr (.of rfl) norm0_)) rfl ?_;refine tr_vG1 rfl rfl inferInstance (fun hg hgp=>(rk_load1 (.ofg hg rfl) (At.lit .here rfl))) rfl ?_;refine tr_vG1 rfl rfl inferInstance (fun hg hgp=>(rk_len_slice (.ofg hg rfl))) rfl ?_;refine tr_vG1 rfl rfl inferInstance (fun hg hgp=>(rk_geq (.ofg hg rfl) (.ofg hg rfl))) rfl ?_;refine tr_val (rk_pick_or (.of rfl) rfl) rfl ?_;refine tr_callV (rk_call (.of rfl) (.cons (.of rfl) (.cons (.of rfl) .nil)) inferInstance normc_) rfl (fun w' hm'=>(when_q _ 10 w')) ?_;refine a_s rfl rfl ?_;refine n_t ?_;refine tr_ret ?_;refine tr_retE rfl (ends1 rfl rfl) ?_)
  rfl
def shortBr (b:Br):Bool:=(b.sp.all fun x=>decide (x.nm.size ≤ 40)) && ((decide (b.sp.length ≤ 6) || decide (b.sp.length = 9)) && decide (b.cm.length ≤ 9) && decide (b.ex.length ≤ 17))
theorem shortBr_c {sv cv xv:Value} {b:Br} {w:World} (h1:Rd w sv 4 (spsL b.sp)) (h2:Rd w cv 1 (ints b.cm)) (h3:Rd w xv 2 (prsL b.ex)) :
    GivesV Tryz.prog 6 [.agg #[.int .i64 b.n,sv,cv,xv]] w (.bool (shortBr b)):=by
  obtain ⟨a,cap,bb,o,rfl,hcap,hmax,ha,hc⟩:=h1
  obtain ⟨a2,cap2,bb2,o2,rfl,hcap2,hmax2,ha2,hc2⟩:=h2
  obtain ⟨a3,cap3,bb3,o3,rfl,hcap3,hmax3,ha3,hc3⟩:=h3
  rw [spsL_length] at *
  rw [ints_length] at *
  rw [prsL_length] at *
  unfold maxLen at hmax hmax2 hmax3
  refine givesV_of_tr Tryz.func6 rfl rfl ?_
  (refine s_r ?_;refine tr_new (rk_box (.of rfl) rfl) rfl (fun _ _=>?_);refine a_s rfl rfl ?_;refine n_t ?_;refine tr_seq ?_;refine s_r ?_;refine a_s rfl rfl ?_;refine n_t ?_;refine tr_block ?_)
  rename_i b1 hb1
  refine tr_for (fun k:Nat=>k ≤ b.sp.length ∧ ∀ i (hi:i < k) (hl:i < b.sp.length),b.sp[i].nm.size ≤ 40) (fun k=>[(3,.int .i64 k),(1,.pointer (some ⟨b1,0,none⟩))])
    (fun _=>[blk b1 (.cells #[.int .i64 b.n,.slice a b.sp.length cap,.slice a2 b.cm.length cap2,.slice a3 b.ex.length cap3] 29 (0,0))]) (fun k=>b.sp.length - k) ?_ ?_
  · apply tr_start 0 ⟨Nat.zero_le _,fun i h=>by omega⟩
    case hs1=>exact .cons rfl (.cons rfl .nil)
    case ht=>(try simp only [List.take_zero,List.map_nil,List.nil_append]);exact .cons .here .nil
  rintro k ⟨hk,hf⟩
  by_cases hlt:k < b.sp.length
  · have ha':=ha (spsL_ne hlt)
    have hcell:=(hc k _ (spsL_get hlt)).2 0 _ rfl
    have hnk:=nthS_eq hlt
    rw [hnk] at hcell
    (refine tr_seq ?_;refine s_r ?_;refine m_v rfl rfl ?_;refine f_a rfl rfl norm0_ ?_;refine tr_val (rk_load1 (.of rfl) (At.lit .here rfl)) rfl ?_;refine tr_val (rk_len_slice (.of rfl)) rfl ?_;refine tr_val (rk_lss (.of rfl) (.of rfl)) rfl ?_;refine n_t ?_;refine c_d rfl (fun hcd=>?_) (fun _=>by omega);refine s_t ?_;refine tr_seq ?_;refine tr_block ?_;refine s_r ?_;refine f_a rfl rfl norm0_ ?_;refine tr_val (rk_load1 (.of rfl) (At.lit .here rfl)) rfl ?_;refine m_v rfl rfl ?_;refine tr_val (rk_indexAddr (.of rfl) (.of rfl) ha' (by omega) hcd norm1_) rfl ?_;refine f_a rfl rfl norm0_ ?_;refine tr_val (rk_load1 (.of rfl) (At.base hcell rfl)) rfl ?_;refine tr_val (rk_len_string (.of rfl)) rfl ?_;refine tr_val (rk_gtr (.of rfl) (.of rfl)) rfl ?_;refine n_t ?_;refine c_d rfl (fun hcd=>?_) (fun hcd=>?_);refine s_r ?_;refine a_s rfl rfl ?_;refine n_t ?_;refine tr_ret ?_;refine tr_blk_ret ?_;refine tr_then_ret ?_;refine tr_then_ret ?_;refine tr_blk_ret ?_;refine tr_then_ret ?_;refine tr_retE rfl (ends1 rfl rfl) ?_;rotate_left;refine tr_skip ?_;refine tr_blk_normal ?_;refine tr_then ?_;refine tr_region ?_;refine m_v rfl rfl ?_;refine tr_val (rk_add (.of rfl) (.of rfl) (ini (by omega))) rfl ?_;refine a_s rfl rfl ?_;refine n_t ?_;rotate_right)
    · have:(b.sp.all fun x=>decide (x.nm.size ≤ 40)) = false:=by
        rw [List.all_eq_false]
        refine ⟨b.sp[k],List.getElem_mem hlt,?_⟩
        simp only [decide_eq_true_eq]
        omega
      rw [shortBr,this];rfl
    · apply tr_next (k + 1) ⟨by omega,fun i hi hl=>by
        by_cases e:i = k
        · subst e;omega
        · exact hf i (by omega) hl⟩ (by omega)
      case hs1=>exact .cons rfl (.cons rfl .nil)
      case ht=>(try simp only [List.take_zero,List.map_nil,List.nil_append]);exact .cons .here .nil
  · obtain rfl:k = b.sp.length:=by omega
    have hall:(b.sp.all fun x=>decide (x.nm.size ≤ 40)) = true:=by
      rw [List.all_eq_true]
      intro x hx
      obtain ⟨i,hi,rfl⟩:=List.getElem_of_mem hx
      exact decide_eq_true (hf i hi hi)
    (refine tr_seq ?_;refine s_r ?_;refine m_v rfl rfl ?_;refine f_a rfl rfl norm0_ ?_;refine tr_val (rk_load1 (.of rfl) (At.lit .here rfl)) rfl ?_;refine tr_val (rk_len_slice (.of rfl)) rfl ?_;refine tr_val (rk_lss (.of rfl) (.of rfl)) rfl ?_;refine n_t ?_;refine c_d rfl (fun _=>by omega) (fun hcd=>?_);refine x_t ?_;refine tr_then_exit ?_;refine tr_blk_exit ?_;refine tr_then ?_;refine s_r ?_;refine f_a rfl rfl norm0_ ?_;refine tr_val (rk_load1 (.of rfl) (At.lit .here rfl)) rfl ?_;refine tr_val (rk_len_slice (.of rfl)) rfl ?_;refine tr_val (rk_leq (.of rfl) (.of rfl)) rfl ?_;refine m_v rfl rfl ?_;refine tr_vG1 rfl rfl inferInstance (fun hg hgp=>(rk_fieldAddr (.of rfl) norm0_)) rfl ?_;refine tr_vG1 rfl rfl inferInstance (fun hg hgp=>(rk_load1 (.ofg hg rfl) (At.lit .here rfl))) rfl ?_;refine tr_vG1 rfl rfl inferInstance (fun hg hgp=>(rk_len_slice (.ofg hg rfl))) rfl ?_;refine tr_vG1 rfl rfl inferInstance (fun hg hgp=>(rk_eql (.ofg hg rfl) (.of rfl))) rfl ?_;refine tr_val (rk_pick_or (.of rfl) rfl) rfl ?_;refine m_v rfl rfl ?_;refine tr_vG1 rfl rfl inferInstance (fun hg hgp=>(rk_fieldAddr (.of rfl) norm0_)) rfl ?_;refine tr_vG1 rfl rfl inferInstance (fun hg hgp=>(rk_load1 (.ofg hg rfl) (At.lit .here rfl))) rfl ?_;refine tr_vG1 rfl rfl inferInstance (fun hg hgp=>(rk_len_slice (.ofg hg rfl))) rfl ?_;refine tr_vG1 rfl rfl inferInstance (fun hg hgp=>(rk_leq (.ofg hg rfl) (.of rfl))) rfl ?_;refine tr_val (rk_pick_and (.of rfl) rfl) rfl ?_;refine m_v rfl rfl ?_;refine tr_vG1 rfl rfl inferInstance (fun hg hgp=>(rk_fieldAddr (.of rfl) norm0_)) rfl ?_;refine tr_vG1 rfl rfl inferInstance (fun hg hgp=>(rk_load1 (.ofg hg rfl) (At.lit .here rfl))) rfl ?_;refine tr_vG1 rfl rfl inferInstance (fun hg hgp=>(rk_len_slice (.ofg hg rfl))) rfl ?_;refine tr_vG1 rfl rfl inferInstance (fun hg hgp=>(rk_leq (.ofg hg rfl) (.of rfl))) rfl ?_;refine tr_val (rk_pick_and (.of rfl) rfl) rfl ?_;refine a_s rfl rfl ?_;refine n_t ?_;refine tr_ret ?_;refine tr_retE rfl (ends1 rfl rfl) ?_)
    rw [shortBr,hall,Bool.true_and]
    have e1:decide ((b.sp.length:Int) ≤ 6) = decide (b.sp.length ≤ 6):=decide_eq_decide.2 (by omega)
    have e2:decide ((b.sp.length:Int) = 9) = decide (b.sp.length = 9):=decide_eq_decide.2 (by omega)
    have e3:decide ((b.cm.length:Int) ≤ 9) = decide (b.cm.length ≤ 9):=decide_eq_decide.2 (by omega)
    have e4:decide ((b.ex.length:Int) ≤ 17) = decide (b.ex.length ≤ 17):=decide_eq_decide.2 (by omega)
    rw [e1,e2,e3,e4]
end Go.Proofs.A1
namespace Go.Proofs.A1
open Go Go.SL
theorem spE_q (b:Br) (k:Nat):firstF [nmF (nthS9 b.sp k).nm,whenF (decide (0 ≤ findS b.sp (nthS9 b.sp k).nm k)) 9,campF b.cm.length (nthS9 b.sp k).cp,withinF (nthS9 b.sp k).ln 1 100000,withinF (nthS9 b.sp k).vl 0 1000000] = spE b k:=by
  unfold spE
  rw [findS_le]
theorem ints_nth {l:List Int} {k:Nat} (h:k < l.length):(ints l)[k]? = some [.int .i64 l[k]]:=by simp [ints,h]
set_option maxHeartbeats 2000000 in
theorem brkQ_c {b:Br} {sv cv xv:Value} {w:World} (h1:Rd w sv 4 (spsL b.sp)) (h2:Rd w cv 1 (ints b.cm)) (h3:Rd w xv 2 (prsL b.ex)) :
    GivesV Tryz.prog 10 [.agg #[.int .i64 b.n,sv,cv,xv]] w (.int .i64 (brE b)):=by
  have hone1:=Rd.one h1
  have hone2:=Rd.one h2
  have hone3:=Rd.one h3
  have h1':=h1
  have h2':=h2
  have h3':=h3
  obtain ⟨a,cap,bb,o,rfl,hcap,hmax,ha,hc⟩:=h1
  obtain ⟨a2,cap2,bb2,o2,rfl,hcap2,hmax2,ha2,hc2⟩:=h2
  obtain ⟨a3,cap3,bb3,o3,rfl,hcap3,hmax3,ha3,hc3⟩:=h3
  rw [spsL_length] at *
  rw [ints_length] at *
  rw [prsL_length] at *
  unfold maxLen at hmax hmax2 hmax3
  refine givesV_of_tr Tryz.func10 rfl rfl ?_
  (refine s_r ?_;refine tr_new (rk_box (.of rfl) rfl) rfl (fun _ _=>?_);refine a_s rfl rfl ?_;refine n_t ?_;refine tr_seq ?_;refine tr_seq ?_)
  with_reducible refine tr_draw 18 (by kernel_rfl) ?_
  (refine a_f rfl rfl norm0_ ?_;refine any_val (rk_load1 (.of rfl) (At.lit .here rfl)) rfl ?_;refine any_call (rk_call (.of rfl) (.cons (.of rfl) (.cons (.of rfl) (.cons (.of rfl) .nil))) inferInstance normc_) rfl (fun w' hm'=>(range_q _ 0 100000 w')) ?_;refine a_f rfl rfl norm0_ ?_;refine any_val (rk_load1 (.of rfl) (At.lit .here rfl)) rfl ?_;refine any_val (rk_len_slice (.of rfl)) rfl ?_;refine any_val (rk_gtr (.of rfl) (.of rfl)) rfl ?_;refine any_call (rk_call (.of rfl) (.cons (.of rfl) (.cons (.of rfl) .nil)) inferInstance normc_) rfl (fun w' hm'=>(when_q _ 5 w')) ?_;refine a_f rfl rfl norm0_ ?_;refine any_val (rk_load1 (.of rfl) (At.lit .here rfl)) rfl ?_;refine any_val (rk_len_slice (.of rfl)) rfl ?_;refine any_val (rk_gtr (.of rfl) (.of rfl)) rfl ?_;refine any_call (rk_call (.of rfl) (.cons (.of rfl) (.cons (.of rfl) .nil)) inferInstance normc_) rfl (fun w' hm'=>(when_q _ 5 w')) ?_;refine a_f rfl rfl norm0_ ?_;refine any_val (rk_load1 (.of rfl) (At.lit .here rfl)) rfl ?_;refine any_val (rk_len_slice (.of rfl)) rfl ?_;refine any_val (rk_gtr (.of rfl) (.of rfl)) rfl ?_;refine any_call (rk_call (.of rfl) (.cons (.of rfl) (.cons (.of rfl) .nil)) inferInstance normc_) rfl (fun w' hm'=>(when_q _ 5 w')) ?_)
  with_reducible refine any_end ?_
  (refine tr_new (rk_sliceLit (.cons (.of rfl) (.cons (.of rfl) (.cons (.of rfl) (.cons (.of rfl) .nil)))) rfl rfl rfl rfl) rfl (fun _ _=>?_);refine tr_callV (rk_call (.of rfl) (.cons (.of rfl) .nil) inferInstance normc_) rfl (fun w' hm'=>(first_qB (Mem.rdBlk hm' .here rfl rfl) (IntL.cons (IntL.cons (IntL.cons (IntL.cons IntL.nil)))))) ?_;refine a_s rfl rfl ?_;refine n_r ?_;refine m_v rfl rfl ?_;refine tr_val (rk_neq (.of rfl) (.of rfl)) rfl ?_;refine n_t ?_;refine c_d rfl (fun hcd=>?_) (fun hcd=>?_);refine s_r ?_;refine m_v rfl rfl ?_;refine a_s rfl rfl ?_;refine n_t ?_;refine r_t ?_;refine tr_retE rfl (ends1 rfl rfl) ?_;rotate_left;refine s_t ?_;refine tr_seq ?_;refine s_r ?_;refine a_s rfl rfl ?_;refine n_t ?_;refine tr_block ?_;rotate_right)
  · have hne:br0 b ≠ 0:=hcd
    have hE:brE b = br0 b:=by simp [brE,firstF,hne]
    rw [hE];rfl
  have hz0:br0 b = 0:=Decidable.not_not.1 hcd
  have hz1:=hz0
  unfold br0 at hz1
  rw [firstF_zero] at hz1
  simp only [List.mem_cons,List.not_mem_nil,or_false,forall_eq_or_imp,forall_eq] at hz1
  rw [whenF_zero (by decide),whenF_zero (by decide),whenF_zero (by decide)] at hz1
  simp only [decide_eq_false_iff_not] at hz1
  have hl8:b.sp.length ≤ 8:=by omega
  have hm8:b.cm.length ≤ 8:=by omega
  have hx16:b.ex.length ≤ 16:=by omega
  rename_i b1 hb1 bq hbq
  refine tr_for (ι:=Nat) (fun k=>k ≤ b.sp.length ∧ ∀ i,i < k → spE b i = 0) (fun k=>[(4,.int .i64 k),(1,.pointer (some ⟨b1,0,none⟩))])
    (fun _=>[blk b1 (.cells #[.int .i64 b.n,.slice a b.sp.length cap,.slice a2 b.cm.length cap2,.slice a3 b.ex.length cap3] 29 (0,0))]) (fun k=>b.sp.length - k) ?_ ?_
  · apply tr_start (0:Nat) ⟨Nat.zero_le _,fun i h=>by omega⟩
    case hs1=>exact .cons rfl (.cons rfl .nil)
    case ht=>(try simp only [List.take_zero,List.map_nil,List.nil_append]);exact .cons (.there .here) .nil
  rintro k ⟨hk,hf⟩
  by_cases hlt:k < b.sp.length
  · have ha':=ha (spsL_ne hlt)
    have hcell:=(hc k _ (spsL_get hlt)).2
    have heq:=spE_q b k
    unfold Sp.cells at hcell
    (refine tr_seq ?_;refine s_r ?_;refine m_v rfl rfl ?_;refine f_a rfl rfl norm0_ ?_;refine tr_val (rk_load1 (.of rfl) (At.lit .here rfl)) rfl ?_;refine tr_val (rk_len_slice (.of rfl)) rfl ?_;refine tr_val (rk_lss (.of rfl) (.of rfl)) rfl ?_;refine n_t ?_;refine c_d rfl (fun hcd=>?_) (fun _=>by omega);refine s_t ?_;refine tr_seq ?_;refine tr_block ?_;refine s_r ?_;refine f_a rfl rfl norm0_ ?_;refine tr_val (rk_load1 (.of rfl) (At.lit .here rfl)) rfl ?_;refine m_v rfl rfl ?_;refine tr_val (rk_indexAddr (.of rfl) (.of rfl) ha' (by omega) hcd norm1_) rfl ?_;refine tr_val (rk_loadN (.of rfl) (Ats.base hcell rfl) rfl) rfl ?_;refine tr_new (rk_alloc rfl) rfl (fun _ _=>?_);refine tr_store (.of rfl) (.of rfl) .here rfl rfl (okc_cons rfl (okc_cons rfl (okc_cons rfl (okc_cons rfl okc_nil)))) (lenb rfl) norm_ ?_;refine n_t ?_;refine tr_seq ?_)
    with_reducible refine tr_draw 20 (by kernel_rfl) ?_
    (refine a_f rfl rfl norm0_ ?_;refine any_val (rk_load1 (.of rfl) (At.lit .here rfl)) rfl ?_;refine any_call (rk_call (.of rfl) (.cons (.of rfl) .nil) inferInstance normc_) rfl (fun w' hm'=>(nm_q _ w')) ?_;refine any_val (rk_loadB (.of rfl) (.there .here) norm_ (by rfl)) rfl ?_;refine a_f rfl rfl norm0_ ?_;refine any_val (rk_load1 (.of rfl) (At.lit .here rfl)) rfl ?_;refine a_m rfl rfl ?_;refine any_call (rk_call (.of rfl) (.cons (.of rfl) (.cons (.of rfl) (.cons (.of rfl) .nil))) inferInstance normc_) rfl (fun w' hm'=>(findSQ_c _ k (Rd.keeps h1' (Mem.keeps hm')) hone2 hone3 hk)) ?_;refine any_val (rk_geq (.of rfl) (.of rfl)) rfl ?_;refine any_call (rk_call (.of rfl) (.cons (.of rfl) (.cons (.of rfl) .nil)) inferInstance normc_) rfl (fun w' hm'=>(when_q _ 9 w')) ?_;refine any_val (rk_loadB (.of rfl) (.there .here) norm_ (by rfl)) rfl ?_;refine a_f rfl rfl norm0_ ?_;refine any_val (rk_load1 (.of rfl) (At.lit .here rfl)) rfl ?_;refine any_call (rk_call (.of rfl) (.cons (.of rfl) (.cons (.of rfl) .nil)) inferInstance normc_) rfl (fun w' hm'=>(campQ_c _ hone1 (Rd.keeps h2' (Mem.keeps hm')) hone3)) ?_;refine a_f rfl rfl norm0_ ?_;refine any_val (rk_load1 (.of rfl) (At.lit .here rfl)) rfl ?_;refine any_call (rk_call (.of rfl) (.cons (.of rfl) (.cons (.of rfl) (.cons (.of rfl) .nil))) inferInstance normc_) rfl (fun w' hm'=>(range_q _ 1 100000 w')) ?_;refine a_f rfl rfl norm0_ ?_;refine any_val (rk_load1 (.of rfl) (At.lit .here rfl)) rfl ?_;refine any_call (rk_call (.of rfl) (.cons (.of rfl) (.cons (.of rfl) (.cons (.of rfl) .nil))) inferInstance normc_) rfl (fun w' hm'=>(range_q _ 0 1000000 w')) ?_)
    with_reducible refine any_end ?_
    (refine tr_new (rk_sliceLit (.cons (.of rfl) (.cons (.of rfl) (.cons (.of rfl) (.cons (.of rfl) (.cons (.of rfl) .nil))))) rfl rfl rfl rfl) rfl (fun _ _=>?_);refine tr_callV (rk_call (.of rfl) (.cons (.of rfl) .nil) inferInstance normc_) rfl (fun w' hm'=>(first_qB (Mem.rdBlk hm' .here rfl rfl) (IntL.cons (IntL.cons (IntL.cons (IntL.cons (IntL.cons IntL.nil))))))) ?_;refine a_s rfl rfl ?_;refine n_r ?_;refine m_v rfl rfl ?_;refine tr_val (rk_neq (.of rfl) (.of rfl)) rfl ?_;refine n_t ?_;refine c_d rfl (fun hcd=>?_) (fun hcd=>?_);refine s_r ?_;refine m_v rfl rfl ?_;refine a_s rfl rfl ?_;refine n_t ?_;refine tr_ret ?_;refine tr_blk_ret ?_;refine tr_then_ret ?_;refine tr_then_ret ?_;refine tr_blk_ret ?_;refine tr_then_ret ?_;refine tr_retE rfl (ends1 rfl rfl) ?_;rotate_left;refine tr_skip ?_;refine tr_blk_normal ?_;refine tr_then ?_;refine tr_region ?_;refine m_v rfl rfl ?_;refine tr_val (rk_add (.of rfl) (.of rfl) (ini (by omega))) rfl ?_;refine a_s rfl rfl ?_;refine n_t ?_;rotate_right)
    · have hne:spE b k ≠ 0:=by rw [← heq];exact hcd
      have hb:errE (spE b) b.sp.length = spE b k:=errE_bad hf hlt hne
      have hE:brE b = spE b k:=by rw [brE,hz0,hb];simp [firstF,hne]
      rw [hE,← heq]
    · have hz:spE b k = 0:=by rw [← heq];exact Decidable.not_not.1 hcd
      apply tr_next (k + 1) ⟨by omega,fun i hi=>by
        by_cases e:i = k
        · rw [e];exact hz
        · exact hf i (by omega)⟩ (by omega)
      case hs1=>exact .cons rfl (.cons rfl .nil)
      case ht=>(try simp only [List.take_zero,List.map_nil,List.nil_append]);exact .cons (.there (.there .here)) .nil
  obtain rfl:k = b.sp.length:=by omega
  have hz2:errE (spE b) b.sp.length = 0:=errE_ok.2 hf
  (refine tr_seq ?_;refine s_r ?_;refine m_v rfl rfl ?_;refine f_a rfl rfl norm0_ ?_;refine tr_val (rk_load1 (.of rfl) (At.lit .here rfl)) rfl ?_;refine tr_val (rk_len_slice (.of rfl)) rfl ?_;refine tr_val (rk_lss (.of rfl) (.of rfl)) rfl ?_;refine n_t ?_;refine c_d rfl (fun _=>by omega) (fun hcd=>?_);refine x_t ?_;refine tr_then_exit ?_;refine tr_blk_exit ?_;refine tr_then ?_;refine tr_seq ?_;refine s_r ?_;refine a_s rfl rfl ?_;refine n_t ?_;refine tr_block ?_)
  refine tr_for (ι:=Nat) (fun k=>k ≤ b.cm.length ∧ ∀ i (hi:i < k) (hl:i < b.cm.length),fewF b.cm[i] = 0) (fun k=>[(7,.int .i64 k),(1,.pointer (some ⟨b1,0,none⟩))])
    (fun _=>[blk b1 (.cells #[.int .i64 b.n,.slice a b.sp.length cap,.slice a2 b.cm.length cap2,.slice a3 b.ex.length cap3] 29 (0,0))]) (fun k=>b.cm.length - k) ?_ ?_
  · apply tr_start (0:Nat) ⟨Nat.zero_le _,fun i h=>by omega⟩
    case hs1=>exact .cons rfl (.cons rfl .nil)
    case ht=>(try simp only [List.take_zero,List.map_nil,List.nil_append]);exact .cons .here .nil
  rintro k ⟨hk,hfm⟩
  by_cases hlt:k < b.cm.length
  · have ha2':=ha2 (ints_ne hlt)
    have c0:w.cell? ⟨bb2,o2 + k * 1,none⟩ = some (.int .i64 b.cm[k]):=(hc2 k _ (ints_nth hlt)).2 0 _ rfl
    (refine tr_seq ?_;refine s_r ?_;refine m_v rfl rfl ?_;refine f_a rfl rfl norm0_ ?_;refine tr_val (rk_load1 (.of rfl) (At.lit .here rfl)) rfl ?_;refine tr_val (rk_len_slice (.of rfl)) rfl ?_;refine tr_val (rk_lss (.of rfl) (.of rfl)) rfl ?_;refine n_t ?_;refine c_d rfl (fun hcd=>?_) (fun _=>by omega);refine s_t ?_;refine tr_seq ?_;refine tr_block ?_;refine s_r ?_;refine f_a rfl rfl norm0_ ?_;refine tr_val (rk_load1 (.of rfl) (At.lit .here rfl)) rfl ?_;refine m_v rfl rfl ?_;refine tr_val (rk_indexAddr (.of rfl) (.of rfl) ha2' (by omega) hcd norm1_) rfl ?_;refine tr_val (rk_load1 (.of rfl) (At.base c0 rfl)) rfl ?_;refine tr_callV (rk_call (.of rfl) (.cons (.of rfl) (.cons (.of rfl) (.cons (.of rfl) .nil))) inferInstance normc_) rfl (fun w' hm'=>(range_q _ 0 8 w')) ?_;refine a_s rfl rfl ?_;refine n_r ?_;refine m_v rfl rfl ?_;refine tr_val (rk_neq (.of rfl) (.of rfl)) rfl ?_;refine n_t ?_;refine c_d rfl (fun hcd=>?_) (fun hcd=>?_);refine s_r ?_;refine m_v rfl rfl ?_;refine a_s rfl rfl ?_;refine n_t ?_;refine tr_ret ?_;refine tr_blk_ret ?_;refine tr_then_ret ?_;refine tr_then_ret ?_;refine tr_blk_ret ?_;refine tr_then_ret ?_;refine tr_retE rfl (ends1 rfl rfl) ?_;rotate_left;refine tr_skip ?_;refine tr_blk_normal ?_;refine tr_then ?_;refine tr_region ?_;refine m_v rfl rfl ?_;refine tr_val (rk_add (.of rfl) (.of rfl) (ini (by omega))) rfl ?_;refine a_s rfl rfl ?_;refine n_t ?_;rotate_right)
    · have hne:fewF b.cm[k] ≠ 0:=hcd
      have hq:=firstF_hit (f:=fewF) hlt (fun i hi=>hfm i hi _) hne
      have hE:brE b = fewF b.cm[k]:=by rw [brE,hz0,hz2,hq];simp [firstF,hne]
      rw [hE];rfl
    · have hz:fewF b.cm[k] = 0:=Decidable.not_not.1 hcd
      apply tr_next (k + 1) ⟨by omega,fun i hi hl=>by
        by_cases e:i = k
        · subst e;exact hz
        · exact hfm i (by omega) hl⟩ (by omega)
      case hs1=>exact .cons rfl (.cons rfl .nil)
      case ht=>(try simp only [List.take_zero,List.map_nil,List.nil_append]);exact .cons .here .nil
  obtain rfl:k = b.cm.length:=by omega
  have hz3:firstF (b.cm.map fewF) = 0:=firstF_nil' fun x hx=>by
    obtain ⟨i,hi,rfl⟩:=List.getElem_of_mem hx
    exact hfm i hi hi
  have hE:brE b = firstF (b.ex.map (prE b.cm.length)):=by rw [brE];exact firstF4 _ _ _ _ hz0 hz2 hz3
  rw [hE]
  (refine tr_seq ?_;refine s_r ?_;refine m_v rfl rfl ?_;refine f_a rfl rfl norm0_ ?_;refine tr_val (rk_load1 (.of rfl) (At.lit .here rfl)) rfl ?_;refine tr_val (rk_len_slice (.of rfl)) rfl ?_;refine tr_val (rk_lss (.of rfl) (.of rfl)) rfl ?_;refine n_t ?_;refine c_d rfl (fun _=>by omega) (fun hcd=>?_);refine x_t ?_;refine tr_then_exit ?_;refine tr_blk_exit ?_;refine tr_then ?_;refine tr_seq ?_;refine s_r ?_;refine a_s rfl rfl ?_;refine n_t ?_;refine tr_block ?_)
  refine tr_for (ι:=Nat) (fun k=>k ≤ b.ex.length ∧ ∀ i (hi:i < k) (hl:i < b.ex.length),prE b.cm.length b.ex[i] = 0) (fun k=>[(9,.int .i64 k),(1,.pointer (some ⟨b1,0,none⟩))])
    (fun _=>[blk b1 (.cells #[.int .i64 b.n,.slice a b.sp.length cap,.slice a2 b.cm.length cap2,.slice a3 b.ex.length cap3] 29 (0,0))]) (fun k=>b.ex.length - k) ?_ ?_
  · apply tr_start (0:Nat) ⟨Nat.zero_le _,fun i h=>by omega⟩
    case hs1=>exact .cons rfl (.cons rfl .nil)
    case ht=>(try simp only [List.take_zero,List.map_nil,List.nil_append]);exact .cons .here .nil
  rintro k ⟨hk,hfx⟩
  by_cases hlt:k < b.ex.length
  · have ha3':=ha3 (prsL_ne hlt)
    have hcell:=(hc3 k _ (prsL_get hlt)).2
    unfold prV at hcell
    (refine tr_seq ?_;refine s_r ?_;refine m_v rfl rfl ?_;refine f_a rfl rfl norm0_ ?_;refine tr_val (rk_load1 (.of rfl) (At.lit .here rfl)) rfl ?_;refine tr_val (rk_len_slice (.of rfl)) rfl ?_;refine tr_val (rk_lss (.of rfl) (.of rfl)) rfl ?_;refine n_t ?_;refine c_d rfl (fun hcd=>?_) (fun _=>by omega);refine s_t ?_;refine tr_seq ?_;refine tr_block ?_;refine s_r ?_;refine f_a rfl rfl norm0_ ?_;refine tr_val (rk_load1 (.of rfl) (At.lit .here rfl)) rfl ?_;refine m_v rfl rfl ?_;refine tr_val (rk_indexAddr (.of rfl) (.of rfl) ha3' (by omega) hcd norm1_) rfl ?_;refine tr_val (rk_loadN (.of rfl) (Ats.base hcell rfl) rfl) rfl ?_;refine tr_new (rk_alloc rfl) rfl (fun _ _=>?_);refine tr_store (.of rfl) (.of rfl) .here rfl rfl (okc_cons rfl (okc_cons rfl okc_nil)) (lenb rfl) norm_ ?_;refine n_t ?_;refine tr_seq ?_)
    with_reducible refine tr_draw 14 (by kernel_rfl) ?_
    (refine any_val (rk_loadB (.of rfl) (.there .here) norm_ (by rfl)) rfl ?_;refine any_val (rk_indexAddrA (.of rfl) (.of rfl) (by omega) (by omega) norm1_) rfl ?_;refine any_val (rk_load1 (.of rfl) (At.lit .here rfl)) rfl ?_;refine any_call (rk_call (.of rfl) (.cons (.of rfl) (.cons (.of rfl) .nil)) inferInstance normc_) rfl (fun w' hm'=>(campQ_c _ hone1 (Rd.keeps h2' (Mem.keeps hm')) hone3)) ?_;refine any_val (rk_loadB (.of rfl) (.there .here) norm_ (by rfl)) rfl ?_;refine any_val (rk_indexAddrA (.of rfl) (.of rfl) (by omega) (by omega) norm1_) rfl ?_;refine any_val (rk_load1 (.of rfl) (At.lit .here rfl)) rfl ?_;refine any_call (rk_call (.of rfl) (.cons (.of rfl) (.cons (.of rfl) .nil)) inferInstance normc_) rfl (fun w' hm'=>(campQ_c _ hone1 (Rd.keeps h2' (Mem.keeps hm')) hone3)) ?_;refine any_val (rk_indexAddrA (.of rfl) (.of rfl) (by omega) (by omega) norm1_) rfl ?_;refine any_val (rk_load1 (.of rfl) (At.lit .here rfl)) rfl ?_;refine any_val (rk_indexAddrA (.of rfl) (.of rfl) (by omega) (by omega) norm1_) rfl ?_;refine any_val (rk_load1 (.of rfl) (At.lit .here rfl)) rfl ?_;refine any_val (rk_eql (.of rfl) (.of rfl)) rfl ?_;refine any_call (rk_call (.of rfl) (.cons (.of rfl) (.cons (.of rfl) .nil)) inferInstance normc_) rfl (fun w' hm'=>(when_q _ 24 w')) ?_)
    with_reducible refine any_end ?_
    (refine tr_new (rk_sliceLit (.cons (.of rfl) (.cons (.of rfl) (.cons (.of rfl) .nil))) rfl rfl rfl rfl) rfl (fun _ _=>?_);refine tr_callV (rk_call (.of rfl) (.cons (.of rfl) .nil) inferInstance normc_) rfl (fun w' hm'=>(first_qB (Mem.rdBlk hm' .here rfl rfl) (IntL.cons (IntL.cons (IntL.cons IntL.nil))))) ?_;refine a_s rfl rfl ?_;refine n_r ?_;refine m_v rfl rfl ?_;refine tr_val (rk_neq (.of rfl) (.of rfl)) rfl ?_;refine n_t ?_;refine c_d rfl (fun hcd=>?_) (fun hcd=>?_);refine s_r ?_;refine m_v rfl rfl ?_;refine a_s rfl rfl ?_;refine n_t ?_;refine tr_ret ?_;refine tr_blk_ret ?_;refine tr_then_ret ?_;refine tr_then_ret ?_;refine tr_blk_ret ?_;refine tr_then_ret ?_;refine tr_retE rfl (ends1 rfl rfl) ?_;rotate_left;refine tr_skip ?_;refine tr_blk_normal ?_;refine tr_then ?_;refine tr_region ?_;refine m_v rfl rfl ?_;refine tr_val (rk_add (.of rfl) (.of rfl) (ini (by omega))) rfl ?_;refine a_s rfl rfl ?_;refine n_t ?_;rotate_right)
    · have hne:prE b.cm.length b.ex[k] ≠ 0:=hcd
      rw [firstF_hit hlt (fun i hi=>hfx i hi _) hne];rfl
    · have hz:prE b.cm.length b.ex[k] = 0:=Decidable.not_not.1 hcd
      apply tr_next (k + 1) ⟨by omega,fun i hi hl=>by
        by_cases e:i = k
        · subst e;exact hz
        · exact hfx i (by omega) hl⟩ (by omega)
      case hs1=>exact .cons rfl (.cons rfl .nil)
      case ht=>(try simp only [List.take_zero,List.map_nil,List.nil_append]);exact .cons (.there (.there .here)) .nil
  obtain rfl:k = b.ex.length:=by omega
  (refine tr_seq ?_;refine s_r ?_;refine m_v rfl rfl ?_;refine f_a rfl rfl norm0_ ?_;refine tr_val (rk_load1 (.of rfl) (At.lit .here rfl)) rfl ?_;refine tr_val (rk_len_slice (.of rfl)) rfl ?_;refine tr_val (rk_lss (.of rfl) (.of rfl)) rfl ?_;refine n_t ?_;refine c_d rfl (fun _=>by omega) (fun hcd=>?_);refine x_t ?_;refine tr_then_exit ?_;refine tr_blk_exit ?_;refine tr_then ?_;refine s_r ?_;refine a_s rfl rfl ?_;refine n_t ?_;refine tr_ret ?_;refine tr_retE rfl (ends1 rfl rfl) ?_)
  rw [firstF_nil' fun x hx=>by
    obtain ⟨i,hi,rfl⟩:=List.getElem_of_mem hx
    exact hfx i hi hi]
end Go.Proofs.A1
namespace Go.Proofs.A1
open Go Go.SL
instance decEn:DecidableEq En:=fun a b=>decidable_of_iff (a.nm = b.nm ∧ a.mt = b.mt ∧ a.kd = b.kd ∧ a.tm = b.tm ∧ a.ln = b.ln ∧ a.ov = b.ov) (by cases a;cases b;simp)
end Go.Proofs.A1
namespace Go.Proofs.A1
open Go Go.SL
def Same1 (es cs:List En) (n:Nat):Prop:=n ≤ es.length ∧ n ≤ cs.length ∧ ∀ k,k < n → nth es k = nth cs k
theorem Same1.jn {es cs:List En} {n:Nat} (h:Same1 es cs n):∀ k,k ≤ n → jn es k = jn cs k
  | 0,_=>rfl
  | k + 1, hk => by
    have:=h.jn k (by omega)
    show frm (nth es k).kd (nth es k).tm (A1.jn es k) + (nth es k).ln - (nth es k).ov = frm (nth cs k).kd (nth cs k).tm (A1.jn cs k) + (nth cs k).ln - (nth cs k).ov
    rw [this,h.2.2 k (by omega)]
theorem Same1.fr {es cs:List En} {n:Nat} (h:Same1 es cs n) {k:Nat} (hk:k < n):fr es k = fr cs k ∧ to es k = to cs k:=by
  have h1:A1.fr es k = A1.fr cs k:=by
    show frm (nth es k).kd (nth es k).tm (A1.jn es k) = frm (nth cs k).kd (nth cs k).tm (A1.jn cs k)
    rw [h.jn k (by omega),h.2.2 k hk]
  refine ⟨h1,?_⟩
  show A1.fr es k + (nth es k).ln = A1.fr cs k + (nth cs k).ln
  rw [h1,h.2.2 k hk]
theorem onL_fore {es:List En} {f:Int} {n:Nat}:∀ d,(∀ k,n ≤ k → k < n + d → onB es f k = false) → onL es f (n + d) = onL es f n
  | 0,_=>rfl
  | d + 1, h => by
    rw [show n + (d + 1) = (n + d) + 1 by omega,onL_succ,onL_fore d fun k h1 h2=>h k h1 (by omega),h (n + d) (by omega) (by omega)]
    simp
theorem Sound.far {es:List En} (h:Sound es) {n:Nat} {now:Int} (hn:n < es.length → now < fr es n) {k:Nat} (h1:n ≤ k) (h2:k < es.length):now < fr es k:=by
  by_cases e:n = k
  · subst e;exact hn h2
  · have:=h.fr_lt (i:=n) (k:=k) (by omega) h2
    have:=hn (by omega)
    omega
theorem shF_of {es cs:List En} {f:Int} (hl:onL es f es.length = onL cs f cs.length) (h:∀ k ∈ onL es f es.length,fr es k = fr cs k ∧ to es k = to cs k):shF es f = shF cs f:=by
  unfold shF
  rw [← hl]
  generalize onL es f es.length = l at h
  match l,h with
  | [],_=>rfl
  | [i],_=>rfl
  | i :: k :: _, h =>
    have h1:=h i (by simp)
    have h2:=h k (by simp)
    simp only [h1.2,h2.1]
theorem Same1.vw {es cs:List En} {n:Nat} {now f:Int} (h:Same1 es cs n) (hs:Sound es) (hc:Sound cs) (he:n < es.length → now < A1.fr es n) (hce:n < cs.length → now < A1.fr cs n) (hf:f ≤ now):vwL es f = vwL cs f:=by
  have hoff:∀ (xs:List En),Sound xs → n ≤ xs.length → (n < xs.length → now < A1.fr xs n) → onL xs f xs.length = onL xs f n:=fun xs hx hl hn=>by
    have:=onL_fore (es:=xs) (f:=f) (n:=n) (xs.length - n) fun k h1 h2=>by
      have:=hx.far hn h1 (by omega)
      unfold onB
      rw [Bool.and_eq_false_iff,decide_eq_false_iff_not]
      exact .inl (by omega)
    rwa [show n + (xs.length - n) = xs.length by omega] at this
  have h1:=hoff es hs h.1 he
  have h2:=hoff cs hc h.2.1 hce
  have h3:onL es f n = onL cs f n:=by
    unfold onL
    refine List.filter_congr fun k hk=>?_
    have:=h.fr (List.mem_range.1 hk)
    unfold onB
    rw [this.1,this.2]
  have hin:∀ k ∈ onL es f es.length,k < n:=fun k hk=>by
    rw [h1] at hk
    unfold onL at hk
    exact List.mem_range.1 (List.mem_filter.1 hk).1
  have hsh:shF es f = shF cs f:=shF_of (by rw [h1,h2,h3]) fun k hk=>h.fr (hin k hk)
  unfold vwL
  rw [← hsh]
  refine List.map_congr_left fun x hx=>?_
  have:x.1.toNat < n:=by
    have hm:x.1.toNat ∈ onL es f es.length:=by
      revert hx
      unfold shF
      generalize onL es f es.length = l
      match l with
      | []=>intro hx;cases hx
      | [i]=>intro hx;simp only [List.mem_singleton] at hx;subst hx;simp
      | i :: k :: r =>
        intro hx
        simp only [List.mem_cons,List.not_mem_nil,or_false] at hx
        rcases hx with rfl | rfl <;> simp
    exact hin _ hm
  rw [h.2.2 _ this]
theorem chg_same {es l:List En} {f t:Nat} (hf:f ≤ es.length):Same1 es (chg es f t l) f:=by
  have hl:(es.take f).length = f:=by rw [List.length_take];omega
  refine ⟨hf,?_,fun k hk=>?_⟩
  · unfold chg
    simp only [List.flatten_cons,List.length_append,hl];omega
  · unfold nth chg
    simp only [List.flatten_cons,List.getD_eq_getElem?_getD]
    rw [List.getElem?_append_left (by omega),List.getElem?_take,if_pos hk]
end Go.Proofs.A1
namespace Go.Proofs.A1
open Go Go.SL
theorem nthN_pre {o r:List Nat} {k:Nat} (h:k < o.length):nthN (o++r) k = nthN o k:=by
  simp [nthN,List.getD_eq_getElem?_getD,List.getElem?_append_left h]
theorem tL_pre (l:List Sp) (o r:List Nat):∀ k,k ≤ o.length → tL l (o++r) k = tL l o k
  | 0,_=>rfl
  | k + 1,h=>by rw [tL,tL,tL_pre l o r k (by omega),nthN_pre (by omega)]
theorem cpO_pre {b:Br} {o r:List Nat} {k:Nat} (h:k < o.length):cpO b (o++r) k = cpO b o k:=by
  unfold cpO;rw [nthN_pre h]
theorem lastO_pre {b:Br} {o r:List Nat}:∀ {k:Nat},k ≤ o.length → lastO b (o++r) k = lastO b o k
  | 0,_=>rfl
  | k + 1,h=>by rw [lastO,lastO,cpO_pre (by omega)]
theorem cntO_pre {b:Br} {o r:List Nat} {c:Int}:∀ {k:Nat},k ≤ o.length → cntO b (o++r) c k = cntO b o c k
  | 0,_=>rfl
  | k + 1,h=>by rw [cntO,cntO,cntO_pre (by omega),cpO_pre (by omega)]
theorem badO_pre {b:Br} {o r:List Nat} {k:Nat} (h:k < o.length):badO b (o++r) k = badO b o k:=by
  unfold badO;rw [cpO_pre h,lastO_pre (by omega),cntO_pre (by omega)]
theorem fitE_zero {b:Br} {o:List Nat}:fitE b o = 0 ↔ (∀ k,k < o.length → badO b o k = false) ∧ (∀ i j,i < o.length → j < o.length → exclB b (cpO b o i) (cpO b o j) = false) ∧ tL b.sp o o.length ≤ b.n:=by
  unfold fitE
  by_cases h1:(List.range o.length).any (badO b o) = true
  · rw [if_pos h1]
    refine ⟨fun h=>absurd h (by decide),fun h=>?_⟩
    obtain ⟨k,hk,h2⟩:=List.any_eq_true.1 h1
    rw [h.1 k (List.mem_range.1 hk)] at h2
    cases h2
  · rw [if_neg h1]
    have h1':∀ k,k < o.length → badO b o k = false:=fun k hk=>by
      cases hb:badO b o k with
      | false=>rfl
      | true=>exact absurd (List.any_eq_true.2 ⟨k,List.mem_range.2 hk,hb⟩) h1
    by_cases h2:exclO b o = true
    · rw [if_pos h2]
      refine ⟨fun h=>absurd h (by decide),fun h=>?_⟩
      unfold exclO at h2
      obtain ⟨i,hi,h3⟩:=List.any_eq_true.1 h2
      obtain ⟨j,hj,h4⟩:=List.any_eq_true.1 h3
      rw [h.2.1 i j (List.mem_range.1 hi) (List.mem_range.1 hj)] at h4
      cases h4
    · rw [if_neg h2,whenF_zero (by decide),decide_eq_false_iff_not]
      refine ⟨fun h=>⟨h1',fun i j hi hj=>?_,by omega⟩,fun h=>by have:=h.2.2;omega⟩
      cases hx:exclB b (cpO b o i) (cpO b o j) with
      | false=>rfl
      | true=>exact absurd (List.any_eq_true.2 ⟨i,List.mem_range.2 hi,List.any_eq_true.2 ⟨j,List.mem_range.2 hj,hx⟩⟩) h2
theorem tL_mono {l:List Sp} {o:List Nat} (hb:∀ x ∈ l,SpOk x) (ho:∀ i ∈ o,i < l.length) (k:Nat):∀ m,k + m ≤ o.length → tL l o k ≤ tL l o (k + m)
  | 0,_=>Int.le_refl _
  | m + 1, h => by
    have h1:=tL_mono hb ho k m (by omega)
    have h2:=(hb _ (nthS_mem (ho _ (nthN_mem (show k + m < o.length by omega))))).ln
    rw [← Nat.add_assoc,tL]
    omega
theorem fitE_pre {b:Br} (hb:BrOk b) {o r:List Nat} (hd:Dif b.sp.length (o++r)) (h:fitE b (o++r) = 0):fitE b o = 0:=by
  rw [fitE_zero] at h ⊢
  have hl:(o++r).length = o.length + r.length:=List.length_append
  refine ⟨fun k hk=>?_,fun i j hi hj=>?_,?_⟩
  · rw [← badO_pre (r:=r) hk];exact h.1 k (by omega)
  · rw [← cpO_pre (r:=r) hi,← cpO_pre (r:=r) hj];exact h.2.1 i j (by omega) (by omega)
  · have h1:=tL_mono hb.spOk hd.lt o.length r.length (by omega)
    rw [tL_pre b.sp o r o.length (Nat.le_refl _),← hl] at h1
    have:=h.2.2
    omega
theorem fills_self {b:Br} {f:Nat} {o:List Nat} (h:fitE b o = 0):o ∈ fillsF b f o:=by
  cases f with
  | zero=>rw [fillsF,if_neg (by rw [h];decide)];exact List.mem_singleton.2 rfl
  | succ f=>rw [fillsF,if_neg (by rw [h];decide)];exact List.mem_cons_self
theorem mem_fills {b:Br} (hb:BrOk b):∀ (r o:List Nat) (f:Nat),Dif b.sp.length (o++r) → fitE b (o++r) = 0 → r.length ≤ f → o++r ∈ fillsF b f o
  | [],o,f,_,h,_=>by rw [List.append_nil] at h ⊢;exact fills_self h
  | i :: r,o,0,_,_,hf=>by simp at hf
  | i :: r, o, f + 1, hd, h, hf => by
    have h0:=fitE_pre hb hd h
    have e:o++i :: r = (o++[i])++r:=by simp
    rw [fillsF,if_neg (by rw [h0];decide)]
    refine List.mem_cons_of_mem _ (List.mem_flatMap.2 ⟨i,List.mem_range.2 (hd.lt i (by simp)),?_⟩)
    have hn:i ∉ o:=fun hi=>by
      have:=(List.nodup_append.1 hd.nd).2.2 i hi i (by simp)
      exact this rfl
    rw [if_neg (by simpa using hn)]
    rw [e] at hd h ⊢
    exact mem_fills hb r (o++[i]) f hd h (by simp at hf;omega)
theorem mem_fillsA {b:Br} (hb:BrOk b) {o:List Nat} (hd:Dif b.sp.length o) (h:fitE b o = 0):o ∈ fillsA b:=
  mem_fills hb o [] b.sp.length (by simpa using hd) (by simpa using h) hd.len
theorem fills_fit {b:Br}:∀ {f:Nat} {o:List Nat},∀ q ∈ fillsF b f o,fitE b q = 0
  | 0, o, q, hq => by
    rw [fillsF] at hq
    split at hq
    · cases hq
    · rename_i h
      simp only [List.mem_singleton] at hq;subst hq;exact Decidable.not_not.1 h
  | f + 1, o, q, hq => by
    rw [fillsF] at hq
    split at hq
    · cases hq
    · rename_i h
      rcases List.mem_cons.1 hq with e | hq
      · subst e;exact Decidable.not_not.1 h
      · obtain ⟨i,hi,hq⟩:=List.mem_flatMap.1 hq
        split at hq
        · cases hq
        · exact fills_fit q hq
structure Filling (b:Br) (o:List Nat):Prop where
  dif:Dif b.sp.length o
  fit:fitE b o = 0
theorem fillsA_iff {b:Br} (hb:BrOk b) {o:List Nat}:o ∈ fillsA b ↔ Filling b o:=
  ⟨fun h=>⟨fillsF_dif (Dif.nil _) _ h,fills_fit _ h⟩,fun h=>mem_fillsA hb h.dif h.fit⟩
theorem Filling.nil {b:Br} (hb:BrOk b):Filling b []:=by
  refine ⟨Dif.nil _,fitE_zero.2 ⟨fun k h=>absurd h (Nat.not_lt_zero _),fun i j h=>absurd h (Nat.not_lt_zero _),?_⟩⟩
  have:=hb.n;show (0:Int) ≤ b.n;omega
theorem betterB_false {b:Br} {x y:List Nat}:betterB b x y = false ↔ tV b.sp x x.length < tV b.sp y y.length ∨ (tV b.sp x x.length = tV b.sp y y.length ∧ tL b.sp x x.length ≤ tL b.sp y y.length):=by
  unfold betterB
  rw [Bool.or_eq_false_iff,Bool.and_eq_false_iff]
  simp only [decide_eq_false_iff_not]
  omega
theorem betterB_true {b:Br} {x y:List Nat}:betterB b x y = true ↔ tV b.sp y y.length < tV b.sp x x.length ∨ (tV b.sp x x.length = tV b.sp y y.length ∧ tL b.sp y y.length < tL b.sp x x.length):=by
  unfold betterB
  rw [Bool.or_eq_true,Bool.and_eq_true]
  simp only [decide_eq_true_eq]
theorem best_fold (b:Br):∀ (l:List (List Nat)) (a:List Nat),(l.foldl (fun y x=>if betterB b x y then x else y) a = a ∨ l.foldl (fun y x=>if betterB b x y then x else y) a ∈ l) ∧ betterB b a (l.foldl (fun y x=>if betterB b x y then x else y) a) = false ∧ ∀ x ∈ l,betterB b x (l.foldl (fun y x=>if betterB b x y then x else y) a) = false
  | [],a=>⟨.inl rfl,by rw [betterB_false];exact .inr ⟨rfl,Int.le_refl _⟩,by simp⟩
  | z :: l, a => by
    rw [List.foldl_cons]
    by_cases h:betterB b z a = true
    · rw [if_pos h]
      obtain ⟨h1,h2,h3⟩:=best_fold b l z
      generalize l.foldl (fun y x=>if betterB b x y then x else y) z = q at h1 h2 h3
      refine ⟨.inr ?_,?_,?_⟩
      · rcases h1 with h1 | h1
        · rw [h1];exact List.mem_cons_self
        · exact List.mem_cons_of_mem _ h1
      · rw [betterB_true] at h
        rw [betterB_false] at h2 ⊢
        omega
      · intro x hx
        rcases List.mem_cons.1 hx with e | hx
        · subst e;exact h2
        · exact h3 x hx
    · rw [if_neg h]
      obtain ⟨h1,h2,h3⟩:=best_fold b l a
      generalize l.foldl (fun y x=>if betterB b x y then x else y) a = q at h1 h2 h3
      refine ⟨?_,h2,?_⟩
      · rcases h1 with h1 | h1
        · exact .inl h1
        · exact .inr (List.mem_cons_of_mem _ h1)
      · intro x hx
        rcases List.mem_cons.1 hx with e | hx
        · subst e
          have h':=Bool.eq_false_iff.2 h
          rw [betterB_false] at h' h2 ⊢
          omega
        · exact h3 x hx
theorem fillF_ok {b:Br} (hb:BrOk b):Filling b (fillF b):=by
  have:=(best_fold b (fillsA b) []).1
  rcases this with h | h
  · have e:fillF b = []:=h
    rw [e];exact Filling.nil hb
  · exact (fillsA_iff hb).1 h
theorem Filling.le {b:Br} {o:List Nat} (h:Filling b o):tL b.sp o o.length ≤ b.n:=(fitE_zero.1 h.fit).2.2
theorem Filling.few {b:Br} (hb:BrOk b) {o:List Nat} (h:Filling b o):o.length ≤ 8:=by
  have:=h.dif.len;have:=hb.few;omega
theorem orderE_nat {b:Br} {o:List Nat} (hd:Dif b.sp.length o) (h8:o.length ≤ 8):orderE b (o.map fun (i:Nat)=>(i:Int)) = fitE b o:=by
  have hz:errE (ordE b (o.map fun (i:Nat)=>(i:Int))) (o.map fun (i:Nat)=>(i:Int)).length = 0:=by
    refine errE_ok.2 fun k hk=>?_
    have hk':k < o.length:=by simpa using hk
    rw [ordE_eq hk,firstF_zero]
    have hlt:=hd.lt _ (List.getElem_mem hk')
    have hc:((o.map fun (i:Nat)=>(i:Int)).take k).contains ((o.map fun (i:Nat)=>(i:Int))[k]) = false:=by
      rw [List.getElem_map,← List.map_take,contains_nat]
      have hnd:=hd.nd
      rw [← List.take_append_drop k o] at hnd
      have h3:=(List.nodup_append.1 hnd).2.2
      rw [List.drop_eq_getElem_cons hk'] at h3
      have:o[k] ∉ o.take k:=fun hm=>h3 _ hm _ List.mem_cons_self rfl
      simpa using this
    intro e he
    simp only [List.mem_cons,List.not_mem_nil,or_false] at he
    rcases he with rfl | rfl
    · rw [whenF_zero (by decide),List.getElem_map,Bool.or_eq_false_iff,decide_eq_false_iff_not,decide_eq_false_iff_not]
      omega
    · rw [whenF_zero (by decide)];exact hc
  rw [orderE,if_neg (by rw [List.length_map];omega),hz,if_neg (by decide)]
  congr 1
  rw [List.map_map]
  conv=>rhs;rw [← List.map_id o]
  exact List.map_congr_left fun i _=>by simp
end Go.Proofs.A1
