/- Parts of the proof: S14 S15 S16 S17 S18 S19. -/
import Derived.Test.YtfbgbipclgljaaaGreatDoorWM09
import Derived.Test.YtfbgbipclgljaaaGreatDoorWM06
set_option linter.unusedSectionVars false
set_option linter.unusedVariables false
set_option linter.unusedSimpArgs false
namespace Go.Proofs.A1
open Go Go.SL
theorem Sound.e2 {es:List En} (h:Sound es):errE (e2At es) es.length = 0:=errE_ok.2 fun i hi=>by
  have h1:=h.bad i hi
  have h2:=h.most i hi
  simp [e2At,h1,show ¬ 10000000 < to es i by omega,whenF,firstF]
theorem e1q_eq (es:List En) (k:Nat):firstF [entF (nth es k),whenF (decide (0 ≤ findF es (nth es k).nm k)) 9,whenF (decide ((k:Int) = 0) && decide ((nth es k).kd = sFol)) 22] = e1At es k:=by
  unfold e1At
  rw [findF_le,← dup_eq,show decide ((k:Int) = 0) = decide (k = 0) from decide_eq_decide.2 (by omega)]
theorem chkQ_c {sv:Value} {es:List En} {w:World} (h1:Rd w sv 6 (ensL es)):GivesV Tryz.prog 23 [.agg #[sv]] w (.int .i64 (chkF es)):=by
  have h1':=h1
  obtain ⟨a,cap,b,o,rfl,hcap,hmax,ha,hc⟩:=h1
  rw [ensL_length] at *
  unfold maxLen at hmax
  refine givesV_of_tr Tryz.func23 rfl rfl ?_
  (refine s_r ?_;refine tr_new (rk_box (.of rfl) rfl) rfl (fun _ _=>?_);refine a_s rfl rfl ?_;refine n_t ?_;refine tr_seq ?_;refine s_r ?_;refine f_a rfl rfl norm0_ ?_;refine tr_val (rk_load1 (.of rfl) (At.lit .here rfl)) rfl ?_;refine tr_val (rk_len_slice (.of rfl)) rfl ?_;refine tr_val (rk_gtr (.of rfl) (.of rfl)) rfl ?_;refine n_t ?_;refine c_d rfl (fun hcd=>?_) (fun hcd=>?_);refine s_r ?_;refine a_s rfl rfl ?_;refine n_t ?_;refine r_t ?_;refine tr_retE rfl (ends1 rfl rfl) ?_;rotate_left;refine s_t ?_;refine tr_seq ?_;refine s_r ?_;refine a_s rfl rfl ?_;refine n_t ?_;refine tr_block ?_;rotate_right)
  · rw [chkF,if_pos (by omega)]
  have hfew:es.length ≤ 24:=by omega
  rename_i b1 hb1
  refine tr_for (fun k:Nat=>k ≤ es.length ∧ ∀ i,i < k → e1At es i = 0) (fun k=>[(3,.int .i64 k),(1,.pointer (some ⟨b1,0,none⟩))])
    (fun _=>[blk b1 (.cells #[.slice a es.length cap] 24 (0,0))]) (fun k=>es.length - k) ?_ ?_
  · apply tr_start 0 ⟨Nat.zero_le _,fun i h=>by omega⟩
    case hs1=>exact .cons rfl (.cons rfl .nil)
    case ht=>(try simp only [List.take_zero,List.map_nil,List.nil_append]);exact .cons .here .nil
  rintro k ⟨hk,hf⟩
  by_cases hlt:k < es.length
  · have ha':=ha (ensL_ne hlt)
    have hcell:=(hc k _ (ensL_get hlt)).2
    have hc0:=hcell 0 _ rfl
    have hc2:=hcell 2 _ rfl
    have heq:=e1q_eq es k
    have hec:∀ w',GivesV Tryz.prog 73 [.agg (nth es k).cells.toArray] w' (.int .i64 (entF (nth es k))):=fun w'=>entQ_c _ _
    unfold En.cells at hcell hec
    (refine tr_seq ?_;refine s_r ?_;refine m_v rfl rfl ?_;refine f_a rfl rfl norm0_ ?_;refine tr_val (rk_load1 (.of rfl) (At.lit .here rfl)) rfl ?_;refine tr_val (rk_len_slice (.of rfl)) rfl ?_;refine tr_val (rk_lss (.of rfl) (.of rfl)) rfl ?_;refine n_t ?_;refine c_d rfl (fun hcd=>?_) (fun _=>by omega);refine s_t ?_;refine tr_seq ?_;refine tr_block ?_;refine tr_seq ?_)
    with_reducible refine tr_draw 30 (by kernel_rfl) ?_
    (refine a_f rfl rfl norm0_ ?_;refine any_val (rk_load1 (.of rfl) (At.lit .here rfl)) rfl ?_;refine a_m rfl rfl ?_;refine any_val (rk_indexAddr (.of rfl) (.of rfl) ha' (by omega) hcd norm1_) rfl ?_;refine any_val (rk_loadN (.of rfl) (Ats.base hcell rfl) rfl) rfl ?_;refine any_call (rk_call (.of rfl) (.cons (.of rfl) .nil) inferInstance normc_) rfl (fun w' hm'=>(hec w')) ?_;refine any_val (rk_loadB (.of rfl) .here norm_ (by rfl)) rfl ?_;refine a_f rfl rfl norm0_ ?_;refine any_val (rk_load1 (.of rfl) (At.lit .here rfl)) rfl ?_;refine a_m rfl rfl ?_;refine any_val (rk_indexAddr (.of rfl) (.of rfl) ha' (by omega) hcd norm1_) rfl ?_;refine a_f rfl rfl norm0_ ?_;refine any_val (rk_load1 (.of rfl) (At.base hc0 rfl)) rfl ?_;refine a_m rfl rfl ?_;refine any_call (rk_call (.of rfl) (.cons (.of rfl) (.cons (.of rfl) (.cons (.of rfl) .nil))) inferInstance normc_) rfl (fun w' hm'=>(findQ_c _ k (Rd.keeps h1' (Mem.keeps hm')) hk)) ?_;refine any_val (rk_geq (.of rfl) (.of rfl)) rfl ?_;refine any_call (rk_call (.of rfl) (.cons (.of rfl) (.cons (.of rfl) .nil)) inferInstance normc_) rfl (fun w' hm'=>(when_q _ 9 w')) ?_;refine a_m rfl rfl ?_;refine any_val (rk_eql (.of rfl) (.of rfl)) rfl ?_;refine a_m rfl rfl ?_;refine any_vG1 rfl rfl inferInstance (fun hg hgp=>(rk_fieldAddr (.of rfl) norm0_)) rfl ?_;refine any_vG1 rfl rfl inferInstance (fun hg hgp=>(rk_load1 (.ofg hg rfl) (At.lit .here rfl))) rfl ?_;refine any_vG1 rfl rfl inferInstance (fun hg hgp=>(rk_move (.of rfl))) rfl ?_;refine any_vG1 rfl rfl inferInstance (fun hg hgp=>(rk_indexAddr (.ofg hg rfl) (.ofg hg rfl) ha' (by omega) hcd norm1_)) rfl ?_;refine any_vG1 rfl rfl inferInstance (fun hg hgp=>(rk_fieldAddr (.ofg hg rfl) norm0_)) rfl ?_;refine any_vG1 rfl rfl inferInstance (fun hg hgp=>(rk_fieldAddr (.ofg hg rfl) norm0_)) rfl ?_;refine any_vG1 rfl rfl inferInstance (fun hg hgp=>(rk_load1 (.ofg hg rfl) (At.base hc2 rfl))) rfl ?_;refine any_vG1 rfl rfl inferInstance (fun hg hgp=>(rk_eqls (.ofg hg rfl) (.of rfl))) rfl ?_;refine any_val (rk_pick_and (.of rfl) rfl) rfl ?_;refine any_call (rk_call (.of rfl) (.cons (.of rfl) (.cons (.of rfl) .nil)) inferInstance normc_) rfl (fun w' hm'=>(when_q _ 22 w')) ?_)
    with_reducible refine any_end ?_
    (refine tr_new (rk_sliceLit (.cons (.of rfl) (.cons (.of rfl) (.cons (.of rfl) .nil))) rfl rfl rfl rfl) rfl (fun _ _=>?_);refine tr_callV (rk_call (.of rfl) (.cons (.of rfl) .nil) inferInstance normc_) rfl (fun w' hm'=>(first_qB (Mem.rdBlk hm' .here rfl rfl) (IntL.cons (IntL.cons (IntL.cons IntL.nil))))) ?_;refine a_s rfl rfl ?_;refine n_r ?_;refine m_v rfl rfl ?_;refine tr_val (rk_neq (.of rfl) (.of rfl)) rfl ?_;refine n_t ?_;refine c_d rfl (fun hcd=>?_) (fun hcd=>?_);refine s_r ?_;refine m_v rfl rfl ?_;refine a_s rfl rfl ?_;refine n_t ?_;refine tr_ret ?_;refine tr_blk_ret ?_;refine tr_then_ret ?_;refine tr_then_ret ?_;refine tr_blk_ret ?_;refine tr_then_ret ?_;refine tr_retE rfl (ends1 rfl rfl) ?_;rotate_left;refine tr_skip ?_;refine tr_blk_normal ?_;refine tr_then ?_;refine tr_region ?_;refine m_v rfl rfl ?_;refine tr_val (rk_add (.of rfl) (.of rfl) (ini (by omega))) rfl ?_;refine a_s rfl rfl ?_;refine n_t ?_;rotate_right)
    · have hne:e1At es k ≠ 0:=by rw [← heq];exact hcd
      rw [chkF,if_neg (by omega),errE_bad hf hlt hne]
      have:firstF [e1At es k,errE (e2At es) es.length] = e1At es k:=by simp [firstF,hne]
      rw [this,← heq];rfl
    · have hz:e1At es k = 0:=by rw [← heq];exact Decidable.not_not.1 hcd
      apply tr_next (k + 1) ⟨by omega,fun i hi=>by
        by_cases e:i = k
        · rw [e];exact hz
        · exact hf i (by omega)⟩ (by omega)
      case hs1=>exact .cons rfl (.cons rfl .nil)
      case ht=>(try simp only [List.take_zero,List.map_nil,List.nil_append]);exact .cons (.there .here) .nil
  · obtain rfl:k = es.length:=by omega
    have hok:∀ k,k < es.length → EnOk (nth es k):=fun k hk=>(e1_ok (hf k hk)).1
    have hE:chkF es = errE (e2At es) es.length:=by
      rw [chkF,if_neg (by omega),errE_ok.2 hf,firstF_0]
    rw [hE]
    (refine tr_seq ?_;refine s_r ?_;refine m_v rfl rfl ?_;refine f_a rfl rfl norm0_ ?_;refine tr_val (rk_load1 (.of rfl) (At.lit .here rfl)) rfl ?_;refine tr_val (rk_len_slice (.of rfl)) rfl ?_;refine tr_val (rk_lss (.of rfl) (.of rfl)) rfl ?_;refine n_t ?_;refine c_d rfl (fun _=>by omega) (fun hcd=>?_);refine x_t ?_;refine tr_then_exit ?_;refine tr_blk_exit ?_;refine tr_then ?_;refine s_r ?_;refine tr_val (rk_loadB (.of rfl) .here norm_ (by rfl)) rfl ?_)
    with_reducible apply tr_call
    case hr=>exact rk_call (.of rfl) (.cons (.of rfl) .nil) inferInstance normc_
    case hd=>rfl
    case ht=>exact Takes.nil
    case hc=>
      intro w1 fp hm1 _ hs1
      obtain rfl:fp = []:=hs1
      exact timesQ_c (h1'.keeps hm1.keeps) hok hfew (fun h0=>(e1_ok (hf 0 h0)).2.2 rfl)
    intro v _
    dsimp only [id_eq,List.cons_append,List.nil_append]
    (refine m_v rfl rfl ?_;refine tr_val (rk_extract (.of rfl) rfl) rfl ?_;refine tr_val (rk_extract (.of rfl) rfl) rfl ?_;refine a_s rfl rfl ?_;refine a_s rfl rfl ?_;refine n_r ?_;refine m_v rfl rfl ?_;refine a_s rfl rfl ?_;refine n_t ?_;refine tr_ret ?_;refine tr_retE rfl (ends1 rfl rfl) ?_)
    rfl
end Go.Proofs.A1
namespace Go.Proofs.A1
open Go Go.SL
end Go.Proofs.A1
namespace Go.Proofs.A1
open Go Go.SL
end Go.Proofs.A1
namespace Go.Proofs.A1
open Go Go.SL
theorem lenV {α β:Type} (f:α → β) (l:List α):(l.map f).length = l.length:=List.length_map f
def oneV (n:Int):List Value:=[.int .i64 n]
theorem sameGaps_c {v1 v2:Value} {l1 l2:List (Int × Int × Int)} {w:World} (h1:Rd w v1 3 (l1.map triV)) (h2:Rd w v2 3 (l2.map triV)):GivesV Tryz.prog 31 [v1,v2] w (.bool (decide (l1 = l2))):=by
  obtain ⟨a,cap,b,o,rfl,hcap,hmax,ha,hc⟩:=h1
  obtain ⟨a2,cap2,b2,o2,rfl,hcap2,hmax2,ha2,hc2⟩:=h2
  rw [lenV triV l1] at *
  rw [lenV triV l2] at *
  unfold maxLen at hmax hmax2
  refine givesV_of_tr Tryz.func31 rfl rfl ?_
  (refine s_r ?_;refine a_s rfl rfl ?_;refine n_t ?_;refine tr_seq ?_;refine s_r ?_;refine m_v rfl rfl ?_;refine tr_val (rk_len_slice (.of rfl)) rfl ?_;refine m_v rfl rfl ?_;refine tr_val (rk_len_slice (.of rfl)) rfl ?_;refine tr_val (rk_neq (.of rfl) (.of rfl)) rfl ?_;refine n_t ?_;refine c_d rfl (fun hcd=>?_) (fun hcd=>?_);refine s_r ?_;refine a_s rfl rfl ?_;refine n_t ?_;refine r_t ?_;refine tr_retE rfl (ends1 rfl rfl) ?_;rotate_left;refine s_t ?_;refine tr_seq ?_;refine s_r ?_;refine a_s rfl rfl ?_;refine n_t ?_;refine tr_block ?_;rotate_right)
  · rw [decide_eq_false (fun e=>hcd (by rw [e]))]
  have hlen:l1.length = l2.length:=by omega
  refine tr_for (fun k:Nat=>k ≤ l1.length ∧ ∀ i,i < k → l1[i]? = l2[i]?) (fun k=>[(5,.int .i64 k),(0,.slice a l1.length cap),(1,.slice a2 l2.length cap2)]) (fun _=>[]) (fun k=>l1.length - k) ?_ ?_
  · apply tr_start 0 ⟨Nat.zero_le _,fun i h=>by omega⟩
    case hs1=>exact .cons rfl (.cons rfl (.cons rfl .nil))
    case ht=>(try simp only [List.take_zero,List.map_nil,List.nil_append]);exact .nil
  rintro k ⟨hk,hf⟩
  by_cases hlt:k < l1.length
  · have hlt2:k < l2.length:=by omega
    have ha':=ha (by intro e;rw [List.map_eq_nil_iff] at e;subst e;simp at hlt)
    have ha2':=ha2 (by intro e;rw [List.map_eq_nil_iff] at e;subst e;simp at hlt2)
    have hcell:=(hc k (triV l1[k]) (by rw [List.getElem?_map,List.getElem?_eq_getElem hlt];rfl)).2
    have hcell2:=(hc2 k (triV l2[k]) (by rw [List.getElem?_map,List.getElem?_eq_getElem hlt2];rfl)).2
    generalize hx:l1[k] = x at hcell
    generalize hy:l2[k] = y at hcell2
    obtain ⟨x0,x1,x2⟩:=x
    obtain ⟨y0,y1,y2⟩:=y
    unfold triV at hcell hcell2
    try dsimp only at hcell hcell2
    (refine tr_seq ?_;refine s_r ?_;refine m_v rfl rfl ?_;refine m_v rfl rfl ?_;refine tr_val (rk_len_slice (.of rfl)) rfl ?_;refine tr_val (rk_lss (.of rfl) (.of rfl)) rfl ?_;refine n_t ?_;refine c_d rfl (fun hcd=>?_) (fun _=>by omega);refine s_t ?_;refine tr_seq ?_;refine tr_block ?_;refine tr_seq ?_)
    with_reducible refine tr_draw 9 (by kernel_rfl) ?_
    (refine a_m rfl rfl ?_;refine a_m rfl rfl ?_;refine any_val (rk_indexAddr (.of rfl) (.of rfl) ha' (by omega) hcd norm1_) rfl ?_;refine any_val (rk_loadN (.of rfl) (Ats.base hcell rfl) rfl) rfl ?_;refine a_m rfl rfl ?_;refine a_m rfl rfl ?_;refine any_val (rk_indexAddr (.of rfl) (.of rfl) ha2' (by omega) (by omega) norm1_) rfl ?_;refine any_val (rk_loadN (.of rfl) (Ats.base hcell2 rfl) rfl) rfl ?_;refine any_val (rk_neqA (.of rfl) (.of rfl) (okL_int (okL_int (okL_int okL_nil))) rfl) rfl ?_)
    with_reducible refine any_end ?_
    (refine n_t ?_;refine c_b rfl (fun hcd=>?_) (fun hcd=>?_);refine s_r ?_;refine a_s rfl rfl ?_;refine n_t ?_;refine tr_ret ?_;refine tr_blk_ret ?_;refine tr_then_ret ?_;refine tr_then_ret ?_;refine tr_blk_ret ?_;refine tr_then_ret ?_;refine tr_retE rfl (ends1 rfl rfl) ?_;rotate_left;refine tr_skip ?_;refine tr_blk_normal ?_;refine tr_then ?_;refine tr_region ?_;refine m_v rfl rfl ?_;refine tr_val (rk_add (.of rfl) (.of rfl) (ini (by omega))) rfl ?_;refine a_s rfl rfl ?_;refine n_t ?_;rotate_right)
    · have hne:¬ l1 = l2:=by
        intro e
        subst e
        rw [hx] at hy
        cases hy
        simp at hcd
      rw [decide_eq_false hne]
    · have heq:l1[k]? = l2[k]?:=by
        rw [List.getElem?_eq_getElem hlt,List.getElem?_eq_getElem hlt2,hx,hy]
        simp at hcd
        simp [hcd]
      apply tr_next (k + 1) ⟨by omega,fun i hi=>by
        by_cases e:i = k
        · rw [e];exact heq
        · exact hf i (by omega)⟩ (by omega)
      case hs1=>exact .cons rfl (.cons rfl (.cons rfl .nil))
      case ht=>(try simp only [List.take_zero,List.map_nil,List.nil_append]);exact .nil
  · obtain rfl:k = l1.length:=by omega
    (refine tr_seq ?_;refine s_r ?_;refine m_v rfl rfl ?_;refine m_v rfl rfl ?_;refine tr_val (rk_len_slice (.of rfl)) rfl ?_;refine tr_val (rk_lss (.of rfl) (.of rfl)) rfl ?_;refine n_t ?_;refine c_d rfl (fun _=>by omega) (fun hcd=>?_);refine x_t ?_;refine tr_then_exit ?_;refine tr_blk_exit ?_;refine tr_then ?_;refine s_r ?_;refine a_s rfl rfl ?_;refine n_t ?_;refine tr_ret ?_;refine tr_retE rfl (ends1 rfl rfl) ?_)
    have:l1 = l2:=List.ext_getElem? fun i=>by
      by_cases hi:i < l1.length
      · exact hf i hi
      · rw [List.getElem?_eq_none (by omega),List.getElem?_eq_none (by omega)]
    rw [decide_eq_true this]
theorem sameShares_c {v1 v2:Value} {l1 l2:List (Int × Int × Int)} {w:World} (h1:Rd w v1 3 (l1.map triV)) (h2:Rd w v2 3 (l2.map triV)):GivesV Tryz.prog 33 [v1,v2] w (.bool (decide (l1 = l2))):=by
  obtain ⟨a,cap,b,o,rfl,hcap,hmax,ha,hc⟩:=h1
  obtain ⟨a2,cap2,b2,o2,rfl,hcap2,hmax2,ha2,hc2⟩:=h2
  rw [lenV triV l1] at *
  rw [lenV triV l2] at *
  unfold maxLen at hmax hmax2
  refine givesV_of_tr Tryz.func33 rfl rfl ?_
  (refine s_r ?_;refine a_s rfl rfl ?_;refine n_t ?_;refine tr_seq ?_;refine s_r ?_;refine m_v rfl rfl ?_;refine tr_val (rk_len_slice (.of rfl)) rfl ?_;refine m_v rfl rfl ?_;refine tr_val (rk_len_slice (.of rfl)) rfl ?_;refine tr_val (rk_neq (.of rfl) (.of rfl)) rfl ?_;refine n_t ?_;refine c_d rfl (fun hcd=>?_) (fun hcd=>?_);refine s_r ?_;refine a_s rfl rfl ?_;refine n_t ?_;refine r_t ?_;refine tr_retE rfl (ends1 rfl rfl) ?_;rotate_left;refine s_t ?_;refine tr_seq ?_;refine s_r ?_;refine a_s rfl rfl ?_;refine n_t ?_;refine tr_block ?_;rotate_right)
  · rw [decide_eq_false (fun e=>hcd (by rw [e]))]
  have hlen:l1.length = l2.length:=by omega
  refine tr_for (fun k:Nat=>k ≤ l1.length ∧ ∀ i,i < k → l1[i]? = l2[i]?) (fun k=>[(5,.int .i64 k),(0,.slice a l1.length cap),(1,.slice a2 l2.length cap2)]) (fun _=>[]) (fun k=>l1.length - k) ?_ ?_
  · apply tr_start 0 ⟨Nat.zero_le _,fun i h=>by omega⟩
    case hs1=>exact .cons rfl (.cons rfl (.cons rfl .nil))
    case ht=>(try simp only [List.take_zero,List.map_nil,List.nil_append]);exact .nil
  rintro k ⟨hk,hf⟩
  by_cases hlt:k < l1.length
  · have hlt2:k < l2.length:=by omega
    have ha':=ha (by intro e;rw [List.map_eq_nil_iff] at e;subst e;simp at hlt)
    have ha2':=ha2 (by intro e;rw [List.map_eq_nil_iff] at e;subst e;simp at hlt2)
    have hcell:=(hc k (triV l1[k]) (by rw [List.getElem?_map,List.getElem?_eq_getElem hlt];rfl)).2
    have hcell2:=(hc2 k (triV l2[k]) (by rw [List.getElem?_map,List.getElem?_eq_getElem hlt2];rfl)).2
    generalize hx:l1[k] = x at hcell
    generalize hy:l2[k] = y at hcell2
    obtain ⟨x0,x1,x2⟩:=x
    obtain ⟨y0,y1,y2⟩:=y
    unfold triV at hcell hcell2
    try dsimp only at hcell hcell2
    (refine tr_seq ?_;refine s_r ?_;refine m_v rfl rfl ?_;refine m_v rfl rfl ?_;refine tr_val (rk_len_slice (.of rfl)) rfl ?_;refine tr_val (rk_lss (.of rfl) (.of rfl)) rfl ?_;refine n_t ?_;refine c_d rfl (fun hcd=>?_) (fun _=>by omega);refine s_t ?_;refine tr_seq ?_;refine tr_block ?_;refine tr_seq ?_)
    with_reducible refine tr_draw 9 (by kernel_rfl) ?_
    (refine a_m rfl rfl ?_;refine a_m rfl rfl ?_;refine any_val (rk_indexAddr (.of rfl) (.of rfl) ha' (by omega) hcd norm1_) rfl ?_;refine any_val (rk_loadN (.of rfl) (Ats.base hcell rfl) rfl) rfl ?_;refine a_m rfl rfl ?_;refine a_m rfl rfl ?_;refine any_val (rk_indexAddr (.of rfl) (.of rfl) ha2' (by omega) (by omega) norm1_) rfl ?_;refine any_val (rk_loadN (.of rfl) (Ats.base hcell2 rfl) rfl) rfl ?_;refine any_val (rk_neqA (.of rfl) (.of rfl) (okL_int (okL_int (okL_int okL_nil))) rfl) rfl ?_)
    with_reducible refine any_end ?_
    (refine n_t ?_;refine c_b rfl (fun hcd=>?_) (fun hcd=>?_);refine s_r ?_;refine a_s rfl rfl ?_;refine n_t ?_;refine tr_ret ?_;refine tr_blk_ret ?_;refine tr_then_ret ?_;refine tr_then_ret ?_;refine tr_blk_ret ?_;refine tr_then_ret ?_;refine tr_retE rfl (ends1 rfl rfl) ?_;rotate_left;refine tr_skip ?_;refine tr_blk_normal ?_;refine tr_then ?_;refine tr_region ?_;refine m_v rfl rfl ?_;refine tr_val (rk_add (.of rfl) (.of rfl) (ini (by omega))) rfl ?_;refine a_s rfl rfl ?_;refine n_t ?_;rotate_right)
    · have hne:¬ l1 = l2:=by
        intro e
        subst e
        rw [hx] at hy
        cases hy
        simp at hcd
      rw [decide_eq_false hne]
    · have heq:l1[k]? = l2[k]?:=by
        rw [List.getElem?_eq_getElem hlt,List.getElem?_eq_getElem hlt2,hx,hy]
        simp at hcd
        simp [hcd]
      apply tr_next (k + 1) ⟨by omega,fun i hi=>by
        by_cases e:i = k
        · rw [e];exact heq
        · exact hf i (by omega)⟩ (by omega)
      case hs1=>exact .cons rfl (.cons rfl (.cons rfl .nil))
      case ht=>(try simp only [List.take_zero,List.map_nil,List.nil_append]);exact .nil
  · obtain rfl:k = l1.length:=by omega
    (refine tr_seq ?_;refine s_r ?_;refine m_v rfl rfl ?_;refine m_v rfl rfl ?_;refine tr_val (rk_len_slice (.of rfl)) rfl ?_;refine tr_val (rk_lss (.of rfl) (.of rfl)) rfl ?_;refine n_t ?_;refine c_d rfl (fun _=>by omega) (fun hcd=>?_);refine x_t ?_;refine tr_then_exit ?_;refine tr_blk_exit ?_;refine tr_then ?_;refine s_r ?_;refine a_s rfl rfl ?_;refine n_t ?_;refine tr_ret ?_;refine tr_retE rfl (ends1 rfl rfl) ?_)
    have:l1 = l2:=List.ext_getElem? fun i=>by
      by_cases hi:i < l1.length
      · exact hf i hi
      · rw [List.getElem?_eq_none (by omega),List.getElem?_eq_none (by omega)]
    rw [decide_eq_true this]
theorem sameSpans_c {v1 v2:Value} {l1 l2:List (Int × Int)} {w:World} (h1:Rd w v1 2 (l1.map duoV)) (h2:Rd w v2 2 (l2.map duoV)):GivesV Tryz.prog 96 [v1,v2] w (.bool (decide (l1 = l2))):=by
  obtain ⟨a,cap,b,o,rfl,hcap,hmax,ha,hc⟩:=h1
  obtain ⟨a2,cap2,b2,o2,rfl,hcap2,hmax2,ha2,hc2⟩:=h2
  rw [lenV duoV l1] at *
  rw [lenV duoV l2] at *
  unfold maxLen at hmax hmax2
  refine givesV_of_tr Tryz.func96 rfl rfl ?_
  (refine s_r ?_;refine a_s rfl rfl ?_;refine n_t ?_;refine tr_seq ?_;refine s_r ?_;refine m_v rfl rfl ?_;refine tr_val (rk_len_slice (.of rfl)) rfl ?_;refine m_v rfl rfl ?_;refine tr_val (rk_len_slice (.of rfl)) rfl ?_;refine tr_val (rk_neq (.of rfl) (.of rfl)) rfl ?_;refine n_t ?_;refine c_d rfl (fun hcd=>?_) (fun hcd=>?_);refine s_r ?_;refine a_s rfl rfl ?_;refine n_t ?_;refine r_t ?_;refine tr_retE rfl (ends1 rfl rfl) ?_;rotate_left;refine s_t ?_;refine tr_seq ?_;refine s_r ?_;refine a_s rfl rfl ?_;refine n_t ?_;refine tr_block ?_;rotate_right)
  · rw [decide_eq_false (fun e=>hcd (by rw [e]))]
  have hlen:l1.length = l2.length:=by omega
  refine tr_for (fun k:Nat=>k ≤ l1.length ∧ ∀ i,i < k → l1[i]? = l2[i]?) (fun k=>[(5,.int .i64 k),(0,.slice a l1.length cap),(1,.slice a2 l2.length cap2)]) (fun _=>[]) (fun k=>l1.length - k) ?_ ?_
  · apply tr_start 0 ⟨Nat.zero_le _,fun i h=>by omega⟩
    case hs1=>exact .cons rfl (.cons rfl (.cons rfl .nil))
    case ht=>(try simp only [List.take_zero,List.map_nil,List.nil_append]);exact .nil
  rintro k ⟨hk,hf⟩
  by_cases hlt:k < l1.length
  · have hlt2:k < l2.length:=by omega
    have ha':=ha (by intro e;rw [List.map_eq_nil_iff] at e;subst e;simp at hlt)
    have ha2':=ha2 (by intro e;rw [List.map_eq_nil_iff] at e;subst e;simp at hlt2)
    have hcell:=(hc k (duoV l1[k]) (by rw [List.getElem?_map,List.getElem?_eq_getElem hlt];rfl)).2
    have hcell2:=(hc2 k (duoV l2[k]) (by rw [List.getElem?_map,List.getElem?_eq_getElem hlt2];rfl)).2
    generalize hx:l1[k] = x at hcell
    generalize hy:l2[k] = y at hcell2
    obtain ⟨x0,x1⟩:=x
    obtain ⟨y0,y1⟩:=y
    unfold duoV at hcell hcell2
    try dsimp only at hcell hcell2
    (refine tr_seq ?_;refine s_r ?_;refine m_v rfl rfl ?_;refine m_v rfl rfl ?_;refine tr_val (rk_len_slice (.of rfl)) rfl ?_;refine tr_val (rk_lss (.of rfl) (.of rfl)) rfl ?_;refine n_t ?_;refine c_d rfl (fun hcd=>?_) (fun _=>by omega);refine s_t ?_;refine tr_seq ?_;refine tr_block ?_;refine tr_seq ?_)
    with_reducible refine tr_draw 9 (by kernel_rfl) ?_
    (refine a_m rfl rfl ?_;refine a_m rfl rfl ?_;refine any_val (rk_indexAddr (.of rfl) (.of rfl) ha' (by omega) hcd norm1_) rfl ?_;refine any_val (rk_loadN (.of rfl) (Ats.base hcell rfl) rfl) rfl ?_;refine a_m rfl rfl ?_;refine a_m rfl rfl ?_;refine any_val (rk_indexAddr (.of rfl) (.of rfl) ha2' (by omega) (by omega) norm1_) rfl ?_;refine any_val (rk_loadN (.of rfl) (Ats.base hcell2 rfl) rfl) rfl ?_;refine any_val (rk_neqA (.of rfl) (.of rfl) (okL_int (okL_int okL_nil)) rfl) rfl ?_)
    with_reducible refine any_end ?_
    (refine n_t ?_;refine c_b rfl (fun hcd=>?_) (fun hcd=>?_);refine s_r ?_;refine a_s rfl rfl ?_;refine n_t ?_;refine tr_ret ?_;refine tr_blk_ret ?_;refine tr_then_ret ?_;refine tr_then_ret ?_;refine tr_blk_ret ?_;refine tr_then_ret ?_;refine tr_retE rfl (ends1 rfl rfl) ?_;rotate_left;refine tr_skip ?_;refine tr_blk_normal ?_;refine tr_then ?_;refine tr_region ?_;refine m_v rfl rfl ?_;refine tr_val (rk_add (.of rfl) (.of rfl) (ini (by omega))) rfl ?_;refine a_s rfl rfl ?_;refine n_t ?_;rotate_right)
    · have hne:¬ l1 = l2:=by
        intro e
        subst e
        rw [hx] at hy
        cases hy
        simp at hcd
      rw [decide_eq_false hne]
    · have heq:l1[k]? = l2[k]?:=by
        rw [List.getElem?_eq_getElem hlt,List.getElem?_eq_getElem hlt2,hx,hy]
        simp at hcd
        simp [hcd]
      apply tr_next (k + 1) ⟨by omega,fun i hi=>by
        by_cases e:i = k
        · rw [e];exact heq
        · exact hf i (by omega)⟩ (by omega)
      case hs1=>exact .cons rfl (.cons rfl (.cons rfl .nil))
      case ht=>(try simp only [List.take_zero,List.map_nil,List.nil_append]);exact .nil
  · obtain rfl:k = l1.length:=by omega
    (refine tr_seq ?_;refine s_r ?_;refine m_v rfl rfl ?_;refine m_v rfl rfl ?_;refine tr_val (rk_len_slice (.of rfl)) rfl ?_;refine tr_val (rk_lss (.of rfl) (.of rfl)) rfl ?_;refine n_t ?_;refine c_d rfl (fun _=>by omega) (fun hcd=>?_);refine x_t ?_;refine tr_then_exit ?_;refine tr_blk_exit ?_;refine tr_then ?_;refine s_r ?_;refine a_s rfl rfl ?_;refine n_t ?_;refine tr_ret ?_;refine tr_retE rfl (ends1 rfl rfl) ?_)
    have:l1 = l2:=List.ext_getElem? fun i=>by
      by_cases hi:i < l1.length
      · exact hf i hi
      · rw [List.getElem?_eq_none (by omega),List.getElem?_eq_none (by omega)]
    rw [decide_eq_true this]
theorem sameInts_c {v1 v2:Value} {l1 l2:List (Int)} {w:World} (h1:Rd w v1 1 (l1.map oneV)) (h2:Rd w v2 1 (l2.map oneV)):GivesV Tryz.prog 97 [v1,v2] w (.bool (decide (l1 = l2))):=by
  obtain ⟨a,cap,b,o,rfl,hcap,hmax,ha,hc⟩:=h1
  obtain ⟨a2,cap2,b2,o2,rfl,hcap2,hmax2,ha2,hc2⟩:=h2
  rw [lenV oneV l1] at *
  rw [lenV oneV l2] at *
  unfold maxLen at hmax hmax2
  refine givesV_of_tr Tryz.func97 rfl rfl ?_
  (refine s_r ?_;refine a_s rfl rfl ?_;refine n_t ?_;refine tr_seq ?_;refine s_r ?_;refine m_v rfl rfl ?_;refine tr_val (rk_len_slice (.of rfl)) rfl ?_;refine m_v rfl rfl ?_;refine tr_val (rk_len_slice (.of rfl)) rfl ?_;refine tr_val (rk_neq (.of rfl) (.of rfl)) rfl ?_;refine n_t ?_;refine c_d rfl (fun hcd=>?_) (fun hcd=>?_);refine s_r ?_;refine a_s rfl rfl ?_;refine n_t ?_;refine r_t ?_;refine tr_retE rfl (ends1 rfl rfl) ?_;rotate_left;refine s_t ?_;refine tr_seq ?_;refine s_r ?_;refine a_s rfl rfl ?_;refine n_t ?_;refine tr_block ?_;rotate_right)
  · rw [decide_eq_false (fun e=>hcd (by rw [e]))]
  have hlen:l1.length = l2.length:=by omega
  refine tr_for (fun k:Nat=>k ≤ l1.length ∧ ∀ i,i < k → l1[i]? = l2[i]?) (fun k=>[(5,.int .i64 k),(0,.slice a l1.length cap),(1,.slice a2 l2.length cap2)]) (fun _=>[]) (fun k=>l1.length - k) ?_ ?_
  · apply tr_start 0 ⟨Nat.zero_le _,fun i h=>by omega⟩
    case hs1=>exact .cons rfl (.cons rfl (.cons rfl .nil))
    case ht=>(try simp only [List.take_zero,List.map_nil,List.nil_append]);exact .nil
  rintro k ⟨hk,hf⟩
  by_cases hlt:k < l1.length
  · have hlt2:k < l2.length:=by omega
    have ha':=ha (by intro e;rw [List.map_eq_nil_iff] at e;subst e;simp at hlt)
    have ha2':=ha2 (by intro e;rw [List.map_eq_nil_iff] at e;subst e;simp at hlt2)
    have hcell:=(hc k (oneV l1[k]) (by rw [List.getElem?_map,List.getElem?_eq_getElem hlt];rfl)).2
    have hcell2:=(hc2 k (oneV l2[k]) (by rw [List.getElem?_map,List.getElem?_eq_getElem hlt2];rfl)).2
    generalize hx:l1[k] = x at hcell
    generalize hy:l2[k] = y at hcell2
    skip
    unfold oneV at hcell hcell2
    try dsimp only at hcell hcell2
    have hcell0:=hcell 0 _ rfl
    have hcell20:=hcell2 0 _ rfl
    rw [Nat.add_zero] at hcell0 hcell20
    (refine tr_seq ?_;refine s_r ?_;refine m_v rfl rfl ?_;refine m_v rfl rfl ?_;refine tr_val (rk_len_slice (.of rfl)) rfl ?_;refine tr_val (rk_lss (.of rfl) (.of rfl)) rfl ?_;refine n_t ?_;refine c_d rfl (fun hcd=>?_) (fun _=>by omega);refine s_t ?_;refine tr_seq ?_;refine tr_block ?_;refine tr_seq ?_)
    with_reducible refine tr_draw 9 (by kernel_rfl) ?_
    (refine a_m rfl rfl ?_;refine a_m rfl rfl ?_;refine any_val (rk_indexAddr (.of rfl) (.of rfl) ha' (by omega) hcd norm1_) rfl ?_;refine any_val (rk_load1 (.of rfl) (At.base hcell0 rfl)) rfl ?_;refine a_m rfl rfl ?_;refine a_m rfl rfl ?_;refine any_val (rk_indexAddr (.of rfl) (.of rfl) ha2' (by omega) (by omega) norm1_) rfl ?_;refine any_val (rk_load1 (.of rfl) (At.base hcell20 rfl)) rfl ?_;refine any_val (rk_neq (.of rfl) (.of rfl)) rfl ?_)
    with_reducible refine any_end ?_
    (refine n_t ?_;refine c_d rfl (fun hcd=>?_) (fun hcd=>?_);refine s_r ?_;refine a_s rfl rfl ?_;refine n_t ?_;refine tr_ret ?_;refine tr_blk_ret ?_;refine tr_then_ret ?_;refine tr_then_ret ?_;refine tr_blk_ret ?_;refine tr_then_ret ?_;refine tr_retE rfl (ends1 rfl rfl) ?_;rotate_left;refine tr_skip ?_;refine tr_blk_normal ?_;refine tr_then ?_;refine tr_region ?_;refine m_v rfl rfl ?_;refine tr_val (rk_add (.of rfl) (.of rfl) (ini (by omega))) rfl ?_;refine a_s rfl rfl ?_;refine n_t ?_;rotate_right)
    · have hne:¬ l1 = l2:=by
        intro e
        subst e
        rw [hx] at hy
        cases hy
        simp at hcd
      rw [decide_eq_false hne]
    · have heq:l1[k]? = l2[k]?:=by
        rw [List.getElem?_eq_getElem hlt,List.getElem?_eq_getElem hlt2,hx,hy]
        simp at hcd
        simp [hcd]
      apply tr_next (k + 1) ⟨by omega,fun i hi=>by
        by_cases e:i = k
        · rw [e];exact heq
        · exact hf i (by omega)⟩ (by omega)
      case hs1=>exact .cons rfl (.cons rfl (.cons rfl .nil))
      case ht=>(try simp only [List.take_zero,List.map_nil,List.nil_append]);exact .nil
  · obtain rfl:k = l1.length:=by omega
    (refine tr_seq ?_;refine s_r ?_;refine m_v rfl rfl ?_;refine m_v rfl rfl ?_;refine tr_val (rk_len_slice (.of rfl)) rfl ?_;refine tr_val (rk_lss (.of rfl) (.of rfl)) rfl ?_;refine n_t ?_;refine c_d rfl (fun _=>by omega) (fun hcd=>?_);refine x_t ?_;refine tr_then_exit ?_;refine tr_blk_exit ?_;refine tr_then ?_;refine s_r ?_;refine a_s rfl rfl ?_;refine n_t ?_;refine tr_ret ?_;refine tr_retE rfl (ends1 rfl rfl) ?_)
    have:l1 = l2:=List.ext_getElem? fun i=>by
      by_cases hi:i < l1.length
      · exact hf i hi
      · rw [List.getElem?_eq_none (by omega),List.getElem?_eq_none (by omega)]
    rw [decide_eq_true this]
end Go.Proofs.A1
namespace Go.Proofs.A1
open Go Go.SL
def enR (es:List En):Nat → List Value
  | 0=>[]
  | k + 1=>enR es k++(nth es k).cells
theorem enR_tab (es:List En):∀ n,enR es n = tab n (fun k=>(nth es k).cells)
  | 0=>rfl
  | n + 1=>by rw [enR,enR_tab es n,tab_eq_map,tab_eq_map,List.range_succ];simp
theorem enR_flat (es:List En):enR es es.length = (ensL es).flatten:=by
  rw [enR_tab,tab_eq_map,ensL]
  congr 1
  apply List.ext_getElem
  · simp
  · intro i h1 h2
    simp only [List.length_map,List.length_range] at h1
    simp [nth_eq h1]
theorem ensL_sz (es:List En):∀ r ∈ ensL es,r.length = 6:=by
  intro r hr
  obtain ⟨k,_,rfl⟩:=List.mem_map.1 hr
  rfl
theorem rdEn {c:Cx} {hs hs':List Asn} {w:World} {E:TypeId} {es:List En} {v:Value} (hm:Mem c hs w) (ht:Take hs (row E 6 v es.length (enR es es.length)) hs'):Rd w v 6 (ensL es):=
  hm.rdRow ht (enR_flat es) (ensL_sz es) (ensL_length es)
theorem one_c (e:En) (w:World):GivesV Tryz.prog 70 [.agg e.cells.toArray] w (.agg e.cells.toArray):=by
  unfold En.cells
  refine givesV_of_tr Tryz.func70 rfl rfl ?_
  (refine s_r ?_;refine tr_new (rk_box (.of rfl) rfl) rfl (fun _ _=>?_);refine tr_new (rk_alloc rfl) rfl (fun _ _=>?_);refine n_r ?_;refine f_a rfl rfl norm0_ ?_;refine tr_val (rk_load1 (.of rfl) (At.lit (.there .here) rfl)) rfl ?_;refine f_a rfl rfl norm0_ ?_;refine tr_val (rk_load1 (.of rfl) (At.lit (.there .here) rfl)) rfl ?_;refine f_a rfl rfl norm0_ ?_;refine tr_val (rk_loadB (.of rfl) (.there .here) norm_ (by rfl)) rfl ?_;refine f_a rfl rfl norm0_ ?_;refine tr_val (rk_load1 (.of rfl) (At.lit (.there .here) rfl)) rfl ?_;refine f_a rfl rfl norm0_ ?_;refine tr_val (rk_load1 (.of rfl) (At.lit (.there .here) rfl)) rfl ?_;refine tr_val (rk_buildL (.cons (.of rfl) (.cons (.of rfl) (.cons (.of rfl) (.cons (.of rfl) (.cons (.of rfl) .nil))))) norm_) rfl ?_;refine tr_store (.of rfl) (.of rfl) .here rfl rfl (okc_cons rfl (okc_cons rfl (okc_cons rfl (okc_cons rfl (okc_cons rfl (okc_cons rfl okc_nil)))))) (lenb rfl) norm_ ?_;refine n_t ?_;refine tr_ret ?_;refine tr_retE rfl (ends1cB rfl inferInstance rfl .here norm_ (by rfl)) ?_)
  rfl
theorem own_c {sv:Value} {es:List En} {w:World} (h1:Rd w sv 6 (ensL es)) (hfew:es.length ≤ 1000) :
    Gives Tryz.prog 20 [.agg #[sv]] w [] (fun _:Value=>True) (fun v=>.agg #[v]) (fun v=>[row 138 6 v es.length (enR es es.length)]):=by
  obtain ⟨a,cap,b,o,rfl,hcap,hmax,ha,hc⟩:=h1
  rw [ensL_length] at *
  unfold maxLen at hmax
  refine gives_of_tr Tryz.func20 rfl rfl ?_
  (refine s_r ?_;refine tr_new (rk_box (.of rfl) rfl) rfl (fun _ _=>?_);refine tr_new (rk_alloc rfl) rfl (fun _ _=>?_);refine n_r ?_;refine tr_new (rk_alloc rfl) rfl (fun _ _=>?_);refine n_t ?_;refine tr_seq ?_;refine s_r ?_;refine f_a rfl rfl norm0_ ?_;refine tr_val (rk_load1 (.of rfl) (At.lit (.there (.there .here)) rfl)) rfl ?_;refine tr_val (rk_len_slice (.of rfl)) rfl ?_;refine m_v rfl rfl ?_;refine n_t ?_;refine tr_block ?_)
  rename_i b1 hb1 b2 hb2 b3 hb3
  refine tr_rowNil 138 6 ?_
  refine tr_for (ι:=Nat × Value) (fun x=>x.1 ≤ es.length) (fun x=>[(9,.int .i64 x.1),(8,.int .i64 es.length),(7,.slice a es.length cap),(2,.pointer (some ⟨b2,0,none⟩)),(3,.pointer (some ⟨b3,0,none⟩))])
    (fun x=>[row 138 6 x.2 x.1 (enR es x.1),blk b3 (.cells #[x.2] 33 (0,0)),blk b2 (.cells #[.slice none 0 0] 33 (0,0))]) (fun x=>es.length - x.1) ?_ ?_
  · apply tr_start (0,.slice none 0 0) (Nat.zero_le _)
    case hs1=>exact .cons rfl (.cons rfl (.cons rfl (.cons rfl (.cons rfl .nil))))
    case ht=>
      show Takes _ [row 138 6 (.slice none 0 0) 0 [],blk b3 (.cells #[.slice none 0 0] 33 (0,0)),blk b2 (.cells #[.slice none 0 0] 33 (0,0))] _
      exact .cons .here (.cons .here (.cons .here .nil))
  rintro ⟨k,v⟩ hk
  dsimp only at hk ⊢
  by_cases hlt:k < es.length
  · have ha':=ha (ensL_ne hlt)
    have hcell:=(hc k _ (ensL_get hlt)).2
    have hone1:=one_c (nth es k)
    unfold En.cells at hcell hone1
    (refine s_r ?_;refine tr_val (rk_lss (.of rfl) (.of rfl)) rfl ?_;refine n_t ?_;refine tr_seq ?_;refine c_d rfl (fun hcd=>?_) (fun _=>by omega);refine s_t ?_;refine tr_seq ?_;refine tr_block ?_;refine s_r ?_;refine tr_val (rk_indexAddr (.of rfl) (.of rfl) ha' (by omega) hcd norm1_) rfl ?_;refine tr_val (rk_loadN (.of rfl) (Ats.base hcell rfl) rfl) rfl ?_;refine tr_new (rk_alloc rfl) rfl (fun _ _=>?_);refine tr_store (.of rfl) (.of rfl) .here rfl rfl (okc_cons rfl (okc_cons rfl (okc_cons rfl (okc_cons rfl (okc_cons rfl (okc_cons rfl okc_nil)))))) (lenb rfl) norm_ ?_;refine n_t ?_)
    with_reducible refine tr_drawO 5 (by kernel_rfl) ?_
    (refine ao_val (rk_fieldAddr (.of rfl) norm0_) rfl ?_;refine ao_val (rk_load1 (.of rfl) (At.lit (.there (.there .here)) rfl)) rfl ?_;refine ao_val (rk_loadB (.of rfl) .here norm_ (by rfl)) rfl ?_;refine ao_call (rk_call (.of rfl) (.cons (.of rfl) .nil) inferInstance normc_) rfl (fun w' hm'=>(hone1 w')) ?_;refine ao_new (rk_sliceLitN (.cons (.of rfl) .nil) rfl rfl normp_ normp_ norm_) rfl rfl ?_)
    with_reducible refine ao_end1 rfl fun bq hbq=>?_
    refine tr_appendB (.of rfl) (.of rfl) (.there (.there .here)) .here norm_ (by rfl) (okc_cons rfl (okc_cons rfl (okc_cons rfl (okc_cons rfl (okc_cons rfl (okc_cons rfl okc_nil)))))) (by rfl) (by rfl) (by rfl) lenx_ (by rfl) ?_
    intro v'
    refine tr_rowSl (E:=138) (sz:=6) (by exact .here) fun a' cap' e=>?_
    subst e
    (refine f_a rfl rfl norm0_ ?_;refine tr_store (.of rfl) (.of rfl) (.there (.there (.there .here))) rfl rfl (okc_cons rfl okc_nil) (lenb rfl) norm_ ?_;refine tr_nil ?_;refine tr_blk_normal ?_;refine tr_then ?_;refine tr_region ?_;refine tr_val (rk_add (.of rfl) (.of rfl) (ini (by omega))) rfl ?_;refine m_v rfl rfl ?_;refine n_t ?_)
    apply tr_next (k + 1,.slice a' (k + 1) cap') (by show k + 1 ≤ es.length;omega) (by show es.length - (k + 1) < es.length - k;omega)
    case hs1=>exact .cons rfl (.cons rfl (.cons rfl (.cons rfl (.cons rfl .nil))))
    case ht=>
      show Takes _ [row 138 6 (.slice a' (k + 1) cap') (k + 1) (enR es k++(nth es k).cells),blk b3 (.cells #[.slice a' (k + 1) cap'] 33 (0,0)),_] _
      unfold En.cells
      exact .cons (.there .here) (.cons .here (.cons (.there (.there .here)) .nil))
  · obtain rfl:k = es.length:=by omega
    refine tr_rowSl (E:=138) (sz:=6) (by exact .here) fun a' cap' e=>?_
    subst e
    (refine s_r ?_;refine tr_val (rk_lss (.of rfl) (.of rfl)) rfl ?_;refine n_t ?_;refine tr_seq ?_;refine c_d rfl (fun _=>by omega) (fun hcd=>?_);refine x_t ?_;refine tr_then_exit ?_;refine tr_blk_exit ?_;refine tr_then ?_;refine s_r ?_;refine tr_val (rk_loadB (.of rfl) (.there .here) norm_ (by rfl)) rfl ?_;refine tr_store (.of rfl) (.of rfl) (.there (.there .here)) rfl rfl (okc_cons rfl okc_nil) (lenb rfl) norm_ ?_;refine n_t ?_;refine tr_ret ?_)
    first | with_reducible apply tr_retM | with_reducible apply tr_endM
    case he=>exact ends1cB rfl inferInstance rfl .here norm_ (by rfl)
    case hR=>
      intro w' hm'
      exact gives_end (.slice a' es.length cap') trivial (show Takes _ [row 138 6 (.slice a' es.length cap') es.length (enR es es.length)] _ by exact .cons (.there .here) .nil) hm' rfl
theorem told_c {sv:Value} {es:List En} {w:World} (h1:Rd w sv 6 (ensL es)) (hfew:es.length ≤ 1000) :
    Gives Tryz.prog 86 [.agg #[sv]] w [] (fun _:Value=>True) (fun v=>.agg #[v]) (fun v=>[row 115 6 v es.length (enR es es.length)]):=by
  obtain ⟨a,cap,b,o,rfl,hcap,hmax,ha,hc⟩:=h1
  rw [ensL_length] at *
  unfold maxLen at hmax
  refine gives_of_tr Tryz.func86 rfl rfl ?_
  (refine s_r ?_;refine tr_new (rk_box (.of rfl) rfl) rfl (fun _ _=>?_);refine tr_new (rk_alloc rfl) rfl (fun _ _=>?_);refine n_r ?_;refine tr_new (rk_alloc rfl) rfl (fun _ _=>?_);refine n_t ?_;refine tr_seq ?_;refine s_r ?_;refine f_a rfl rfl norm0_ ?_;refine tr_val (rk_load1 (.of rfl) (At.lit (.there (.there .here)) rfl)) rfl ?_;refine tr_val (rk_len_slice (.of rfl)) rfl ?_;refine m_v rfl rfl ?_;refine n_t ?_;refine tr_block ?_)
  rename_i b1 hb1 b2 hb2 b3 hb3
  refine tr_rowNil 115 6 ?_
  refine tr_for (ι:=Nat × Value) (fun x=>x.1 ≤ es.length) (fun x=>[(9,.int .i64 x.1),(8,.int .i64 es.length),(7,.slice a es.length cap),(2,.pointer (some ⟨b2,0,none⟩)),(3,.pointer (some ⟨b3,0,none⟩))])
    (fun x=>[row 115 6 x.2 x.1 (enR es x.1),blk b3 (.cells #[x.2] 24 (0,0)),blk b2 (.cells #[.slice none 0 0] 24 (0,0))]) (fun x=>es.length - x.1) ?_ ?_
  · apply tr_start (0,.slice none 0 0) (Nat.zero_le _)
    case hs1=>exact .cons rfl (.cons rfl (.cons rfl (.cons rfl (.cons rfl .nil))))
    case ht=>
      show Takes _ [row 115 6 (.slice none 0 0) 0 [],blk b3 (.cells #[.slice none 0 0] 24 (0,0)),blk b2 (.cells #[.slice none 0 0] 24 (0,0))] _
      exact .cons .here (.cons .here (.cons .here .nil))
  rintro ⟨k,v⟩ hk
  dsimp only at hk ⊢
  by_cases hlt:k < es.length
  · have ha':=ha (ensL_ne hlt)
    have hcell:=(hc k _ (ensL_get hlt)).2
    unfold En.cells at hcell
    (refine s_r ?_;refine tr_val (rk_lss (.of rfl) (.of rfl)) rfl ?_;refine n_t ?_;refine tr_seq ?_;refine c_d rfl (fun hcd=>?_) (fun _=>by omega);refine s_t ?_;refine tr_seq ?_;refine tr_block ?_;refine s_r ?_;refine tr_val (rk_indexAddr (.of rfl) (.of rfl) ha' (by omega) hcd norm1_) rfl ?_;refine tr_val (rk_loadN (.of rfl) (Ats.base hcell rfl) rfl) rfl ?_;refine tr_new (rk_alloc rfl) rfl (fun _ _=>?_);refine tr_store (.of rfl) (.of rfl) .here rfl rfl (okc_cons rfl (okc_cons rfl (okc_cons rfl (okc_cons rfl (okc_cons rfl (okc_cons rfl okc_nil)))))) (lenb rfl) norm_ ?_;refine n_t ?_;refine tr_region ?_;refine f_a rfl rfl norm0_ ?_;refine tr_val (rk_load1 (.of rfl) (At.lit (.there (.there .here)) rfl)) rfl ?_;refine f_a rfl rfl norm0_ ?_;refine tr_val (rk_load1 (.of rfl) (At.lit .here rfl)) rfl ?_;refine f_a rfl rfl norm0_ ?_;refine tr_val (rk_load1 (.of rfl) (At.lit .here rfl)) rfl ?_;refine f_a rfl rfl norm0_ ?_;refine tr_val (rk_loadB (.of rfl) .here norm_ (by rfl)) rfl ?_;refine f_a rfl rfl norm0_ ?_;refine tr_val (rk_load1 (.of rfl) (At.lit .here rfl)) rfl ?_;refine f_a rfl rfl norm0_ ?_;refine tr_val (rk_load1 (.of rfl) (At.lit .here rfl)) rfl ?_;refine tr_val (rk_buildL (.cons (.of rfl) (.cons (.of rfl) (.cons (.of rfl) (.cons (.of rfl) (.cons (.of rfl) .nil))))) norm_) rfl ?_;refine tr_new (rk_sliceLitN (.cons (.of rfl) .nil) rfl rfl normp_ normp_ norm_) rfl (fun _ _=>?_))
    refine tr_appendB (.of rfl) (.of rfl) (.there (.there .here)) .here norm_ (by rfl) (okc_cons rfl (okc_cons rfl (okc_cons rfl (okc_cons rfl (okc_cons rfl (okc_cons rfl okc_nil)))))) (by rfl) (by rfl) (by rfl) lenx_ (by rfl) ?_
    intro v'
    refine tr_rowSl (E:=115) (sz:=6) (by exact .here) fun a' cap' e=>?_
    subst e
    (refine f_a rfl rfl norm0_ ?_;refine tr_store (.of rfl) (.of rfl) (.there (.there (.there .here))) rfl rfl (okc_cons rfl okc_nil) (lenb rfl) norm_ ?_;refine tr_nil ?_;refine tr_blk_normal ?_;refine tr_then ?_;refine tr_region ?_;refine tr_val (rk_add (.of rfl) (.of rfl) (ini (by omega))) rfl ?_;refine m_v rfl rfl ?_;refine n_t ?_)
    apply tr_next (k + 1,.slice a' (k + 1) cap') (by show k + 1 ≤ es.length;omega) (by show es.length - (k + 1) < es.length - k;omega)
    case hs1=>exact .cons rfl (.cons rfl (.cons rfl (.cons rfl (.cons rfl .nil))))
    case ht=>
      show Takes _ [row 115 6 (.slice a' (k + 1) cap') (k + 1) (enR es k++(nth es k).cells),blk b3 (.cells #[.slice a' (k + 1) cap'] 24 (0,0)),_] _
      unfold En.cells
      exact .cons (.there .here) (.cons .here (.cons (.there (.there .here)) .nil))
  · obtain rfl:k = es.length:=by omega
    refine tr_rowSl (E:=115) (sz:=6) (by exact .here) fun a' cap' e=>?_
    subst e
    (refine s_r ?_;refine tr_val (rk_lss (.of rfl) (.of rfl)) rfl ?_;refine n_t ?_;refine tr_seq ?_;refine c_d rfl (fun _=>by omega) (fun hcd=>?_);refine x_t ?_;refine tr_then_exit ?_;refine tr_blk_exit ?_;refine tr_then ?_;refine s_r ?_;refine tr_val (rk_loadB (.of rfl) (.there .here) norm_ (by rfl)) rfl ?_;refine tr_store (.of rfl) (.of rfl) (.there (.there .here)) rfl rfl (okc_cons rfl okc_nil) (lenb rfl) norm_ ?_;refine n_t ?_;refine tr_ret ?_)
    first | with_reducible apply tr_retM | with_reducible apply tr_endM
    case he=>exact ends1cB rfl inferInstance rfl .here norm_ (by rfl)
    case hR=>
      intro w' hm'
      exact gives_end (.slice a' es.length cap') trivial (show Takes _ [row 115 6 (.slice a' es.length cap') es.length (enR es es.length)] _ by exact .cons (.there .here) .nil) hm' rfl
end Go.Proofs.A1
namespace Go.Proofs.A1
open Go Go.SL
theorem gapsT_c {v0:Value} {l:List (Int × Int × Int)} {w:World} (h1:Rd w v0 3 (l.map triV)) (hfew:l.length ≤ 1000) :
    Gives Tryz.prog 32 [v0] w [] (fun _:Value=>True) id (fun v=>[row 170 3 v l.length (l.flatMap triV)]):=by
  obtain ⟨a,cap,b,o,rfl,hcap,hmax,ha,hc⟩:=h1
  rw [lenV triV l] at *
  unfold maxLen at hmax
  refine gives_of_tr Tryz.func32 rfl rfl ?_
  (refine s_r ?_;refine a_s rfl rfl ?_;refine n_r ?_;refine a_s rfl rfl ?_;refine n_t ?_;refine tr_seq ?_;refine s_r ?_;refine m_v rfl rfl ?_;refine tr_val (rk_len_slice (.of rfl)) rfl ?_;refine m_v rfl rfl ?_;refine n_t ?_;refine tr_block ?_)
  refine tr_rowNil 170 3 ?_
  refine tr_for (ι:=Nat × Value) (fun x=>x.1 ≤ l.length) (fun x=>[(8,.int .i64 x.1),(7,.int .i64 l.length),(6,.slice a l.length cap),(3,x.2)])
    (fun x=>[row 170 3 x.2 x.1 ((l.take x.1).flatMap triV)]) (fun x=>l.length - x.1) ?_ ?_
  · apply tr_start (0,.slice none 0 0) (Nat.zero_le _)
    case hs1=>exact .cons rfl (.cons rfl (.cons rfl (.cons rfl .nil)))
    case ht=>
      show Takes _ [row 170 3 (.slice none 0 0) 0 []] _
      exact .cons .here .nil
  rintro ⟨k,v⟩ hk
  dsimp only at hk ⊢
  by_cases hlt:k < l.length
  · have ha':=ha (by intro e;rw [List.map_eq_nil_iff] at e;subst e;simp at hlt)
    have hcell:=(hc k (triV l[k]) (by rw [List.getElem?_map,List.getElem?_eq_getElem hlt];rfl)).2
    have htk:(l.take (k + 1)).flatMap triV = (l.take k).flatMap triV++triV l[k]:=by
      rw [List.take_succ_eq_append_getElem hlt,List.flatMap_append];simp
    generalize hx:l[k] = x at hcell htk
    obtain ⟨x0,x1,x2⟩:=x
    unfold triV at hcell
    dsimp only at hcell
    (refine s_r ?_;refine tr_val (rk_lss (.of rfl) (.of rfl)) rfl ?_;refine n_t ?_;refine tr_seq ?_;refine c_d rfl (fun hcd=>?_) (fun _=>by omega);refine s_t ?_;refine tr_seq ?_;refine tr_block ?_;refine s_r ?_;refine tr_val (rk_indexAddr (.of rfl) (.of rfl) ha' (by omega) hcd norm1_) rfl ?_;refine tr_val (rk_loadN (.of rfl) (Ats.base hcell rfl) rfl) rfl ?_;refine tr_new (rk_alloc rfl) rfl (fun _ _=>?_);refine tr_store (.of rfl) (.of rfl) .here rfl rfl (okc_cons rfl (okc_cons rfl (okc_cons rfl okc_nil))) (lenb rfl) norm_ ?_;refine n_t ?_;refine tr_region ?_;refine m_v rfl rfl ?_;refine tr_val (rk_loadB (.of rfl) .here norm_ (by rfl)) rfl ?_;refine tr_new (rk_sliceLitN (.cons (.of rfl) .nil) rfl rfl normp_ normp_ norm_) rfl (fun _ _=>?_))
    refine tr_appendB (.of rfl) (.of rfl) (.there (.there .here)) .here norm_ (by rfl) (okc_cons rfl (okc_cons rfl (okc_cons rfl okc_nil))) (by rfl) (by rfl) (by rfl) lenx_ (by rfl) ?_
    intro v'
    (refine a_s rfl rfl ?_;refine tr_nil ?_;refine tr_blk_normal ?_;refine tr_then ?_;refine tr_region ?_;refine tr_val (rk_add (.of rfl) (.of rfl) (ini (by omega))) rfl ?_;refine m_v rfl rfl ?_;refine n_t ?_)
    apply tr_next (k + 1,v') (by show k + 1 ≤ l.length;omega) (by show l.length - (k + 1) < l.length - k;omega)
    case hs1=>exact .cons rfl (.cons rfl (.cons rfl (.cons rfl .nil)))
    case ht=>
      show Takes _ [row 170 3 v' (k + 1) ((l.take (k + 1)).flatMap triV)] _
      rw [htk]
      show Takes _ [row 170 3 v' (k + 1) ((l.take k).flatMap triV++[.int .i64 x0,.int .i64 x1,.int .i64 x2])] _
      exact .cons .here .nil
  · obtain rfl:k = l.length:=by omega
    rw [List.take_length]
    (refine s_r ?_;refine tr_val (rk_lss (.of rfl) (.of rfl)) rfl ?_;refine n_t ?_;refine tr_seq ?_;refine c_d rfl (fun _=>by omega) (fun hcd=>?_);refine x_t ?_;refine tr_then_exit ?_;refine tr_blk_exit ?_;refine tr_then ?_;refine s_r ?_;refine m_v rfl rfl ?_;refine a_s rfl rfl ?_;refine n_t ?_;refine tr_ret ?_)
    first | with_reducible apply tr_retM | with_reducible apply tr_endM
    case he=>exact ends1 rfl rfl
    case hR=>
      intro w' hm'
      exact gives_end v trivial (by exact .cons .here .nil) hm' rfl
theorem sharesT_c {v0:Value} {l:List (Int × Int × Int)} {w:World} (h1:Rd w v0 3 (l.map triV)) (hfew:l.length ≤ 1000) :
    Gives Tryz.prog 34 [v0] w [] (fun _:Value=>True) id (fun v=>[row 185 3 v l.length (l.flatMap triV)]):=by
  obtain ⟨a,cap,b,o,rfl,hcap,hmax,ha,hc⟩:=h1
  rw [lenV triV l] at *
  unfold maxLen at hmax
  refine gives_of_tr Tryz.func34 rfl rfl ?_
  (refine s_r ?_;refine a_s rfl rfl ?_;refine n_r ?_;refine a_s rfl rfl ?_;refine n_t ?_;refine tr_seq ?_;refine s_r ?_;refine m_v rfl rfl ?_;refine tr_val (rk_len_slice (.of rfl)) rfl ?_;refine m_v rfl rfl ?_;refine n_t ?_;refine tr_block ?_)
  refine tr_rowNil 185 3 ?_
  refine tr_for (ι:=Nat × Value) (fun x=>x.1 ≤ l.length) (fun x=>[(8,.int .i64 x.1),(7,.int .i64 l.length),(6,.slice a l.length cap),(3,x.2)])
    (fun x=>[row 185 3 x.2 x.1 ((l.take x.1).flatMap triV)]) (fun x=>l.length - x.1) ?_ ?_
  · apply tr_start (0,.slice none 0 0) (Nat.zero_le _)
    case hs1=>exact .cons rfl (.cons rfl (.cons rfl (.cons rfl .nil)))
    case ht=>
      show Takes _ [row 185 3 (.slice none 0 0) 0 []] _
      exact .cons .here .nil
  rintro ⟨k,v⟩ hk
  dsimp only at hk ⊢
  by_cases hlt:k < l.length
  · have ha':=ha (by intro e;rw [List.map_eq_nil_iff] at e;subst e;simp at hlt)
    have hcell:=(hc k (triV l[k]) (by rw [List.getElem?_map,List.getElem?_eq_getElem hlt];rfl)).2
    have htk:(l.take (k + 1)).flatMap triV = (l.take k).flatMap triV++triV l[k]:=by
      rw [List.take_succ_eq_append_getElem hlt,List.flatMap_append];simp
    generalize hx:l[k] = x at hcell htk
    obtain ⟨x0,x1,x2⟩:=x
    unfold triV at hcell
    dsimp only at hcell
    (refine s_r ?_;refine tr_val (rk_lss (.of rfl) (.of rfl)) rfl ?_;refine n_t ?_;refine tr_seq ?_;refine c_d rfl (fun hcd=>?_) (fun _=>by omega);refine s_t ?_;refine tr_seq ?_;refine tr_block ?_;refine s_r ?_;refine tr_val (rk_indexAddr (.of rfl) (.of rfl) ha' (by omega) hcd norm1_) rfl ?_;refine tr_val (rk_loadN (.of rfl) (Ats.base hcell rfl) rfl) rfl ?_;refine tr_new (rk_alloc rfl) rfl (fun _ _=>?_);refine tr_store (.of rfl) (.of rfl) .here rfl rfl (okc_cons rfl (okc_cons rfl (okc_cons rfl okc_nil))) (lenb rfl) norm_ ?_;refine n_t ?_;refine tr_region ?_;refine m_v rfl rfl ?_;refine tr_val (rk_loadB (.of rfl) .here norm_ (by rfl)) rfl ?_;refine tr_new (rk_sliceLitN (.cons (.of rfl) .nil) rfl rfl normp_ normp_ norm_) rfl (fun _ _=>?_))
    refine tr_appendB (.of rfl) (.of rfl) (.there (.there .here)) .here norm_ (by rfl) (okc_cons rfl (okc_cons rfl (okc_cons rfl okc_nil))) (by rfl) (by rfl) (by rfl) lenx_ (by rfl) ?_
    intro v'
    (refine a_s rfl rfl ?_;refine tr_nil ?_;refine tr_blk_normal ?_;refine tr_then ?_;refine tr_region ?_;refine tr_val (rk_add (.of rfl) (.of rfl) (ini (by omega))) rfl ?_;refine m_v rfl rfl ?_;refine n_t ?_)
    apply tr_next (k + 1,v') (by show k + 1 ≤ l.length;omega) (by show l.length - (k + 1) < l.length - k;omega)
    case hs1=>exact .cons rfl (.cons rfl (.cons rfl (.cons rfl .nil)))
    case ht=>
      show Takes _ [row 185 3 v' (k + 1) ((l.take (k + 1)).flatMap triV)] _
      rw [htk]
      show Takes _ [row 185 3 v' (k + 1) ((l.take k).flatMap triV++[.int .i64 x0,.int .i64 x1,.int .i64 x2])] _
      exact .cons .here .nil
  · obtain rfl:k = l.length:=by omega
    rw [List.take_length]
    (refine s_r ?_;refine tr_val (rk_lss (.of rfl) (.of rfl)) rfl ?_;refine n_t ?_;refine tr_seq ?_;refine c_d rfl (fun _=>by omega) (fun hcd=>?_);refine x_t ?_;refine tr_then_exit ?_;refine tr_blk_exit ?_;refine tr_then ?_;refine s_r ?_;refine m_v rfl rfl ?_;refine a_s rfl rfl ?_;refine n_t ?_;refine tr_ret ?_)
    first | with_reducible apply tr_retM | with_reducible apply tr_endM
    case he=>exact ends1 rfl rfl
    case hR=>
      intro w' hm'
      exact gives_end v trivial (by exact .cons .here .nil) hm' rfl
theorem triV_len (l:List (Int × Int × Int)):∀ r ∈ l.map triV,r.length = 3:=by
  intro r hr;obtain ⟨x,_,rfl⟩:=List.mem_map.1 hr;rfl
theorem duoV_len (l:List (Int × Int)):∀ r ∈ l.map duoV,r.length = 2:=by
  intro r hr;obtain ⟨x,_,rfl⟩:=List.mem_map.1 hr;rfl
theorem rdTri {c:Cx} {hs hs':List Asn} {w:World} {E:TypeId} {l:List (Int × Int × Int)} {v:Value} (hm:Mem c hs w) (ht:Take hs (row E 3 v l.length (l.flatMap triV)) hs'):Rd w v 3 (l.map triV):=
  hm.rdRow ht (by rw [List.flatMap_def]) (triV_len l) (lenV triV l)
theorem rdDuo {c:Cx} {hs hs':List Asn} {w:World} {E:TypeId} {l:List (Int × Int)} {v:Value} (hm:Mem c hs w) (ht:Take hs (row E 2 v l.length (l.flatMap duoV)) hs'):Rd w v 2 (l.map duoV):=
  hm.rdRow ht (by rw [List.flatMap_def]) (duoV_len l) (lenV duoV l)
def shortB (es:List En):Bool:=((List.range es.length).all fun k=>decide ((nth es k).nm.size ≤ 40) && decide ((nth es k).mt.size ≤ 40) && decide ((nth es k).kd.size ≤ 40)) && (decide (es.length ≤ 8) || decide (es.length = 25))
theorem short_c {sv:Value} {es:List En} {w:World} (h1:Rd w sv 6 (ensL es)):GivesV Tryz.prog 18 [.agg #[sv]] w (.bool (shortB es)):=by
  obtain ⟨a,cap,b,o,rfl,hcap,hmax,ha,hc⟩:=h1
  rw [ensL_length] at *
  unfold maxLen at hmax
  refine givesV_of_tr Tryz.func18 rfl rfl ?_
  (refine s_r ?_;refine tr_new (rk_box (.of rfl) rfl) rfl (fun _ _=>?_);refine a_s rfl rfl ?_;refine n_t ?_;refine tr_seq ?_;refine s_r ?_;refine a_s rfl rfl ?_;refine n_t ?_;refine tr_block ?_)
  rename_i b1 hb1
  refine tr_for (fun k:Nat=>k ≤ es.length ∧ ∀ i,i < k → (nth es i).nm.size ≤ 40 ∧ (nth es i).mt.size ≤ 40 ∧ (nth es i).kd.size ≤ 40) (fun k=>[(3,.int .i64 k),(1,.pointer (some ⟨b1,0,none⟩))])
    (fun _=>[blk b1 (.cells #[.slice a es.length cap] 24 (0,0))]) (fun k=>es.length - k) ?_ ?_
  · apply tr_start 0 ⟨Nat.zero_le _,fun i h=>by omega⟩
    case hs1=>exact .cons rfl (.cons rfl .nil)
    case ht=>(try simp only [List.take_zero,List.map_nil,List.nil_append]);exact .cons .here .nil
  rintro k ⟨hk,hf⟩
  by_cases hlt:k < es.length
  · have ha':=ha (ensL_ne hlt)
    have hcell:=(hc k _ (ensL_get hlt)).2
    unfold En.cells at hcell
    (refine tr_seq ?_;refine s_r ?_;refine m_v rfl rfl ?_;refine f_a rfl rfl norm0_ ?_;refine tr_val (rk_load1 (.of rfl) (At.lit .here rfl)) rfl ?_;refine tr_val (rk_len_slice (.of rfl)) rfl ?_;refine tr_val (rk_lss (.of rfl) (.of rfl)) rfl ?_;refine n_t ?_;refine c_d rfl (fun hcd=>?_) (fun _=>by omega);refine s_t ?_;refine tr_seq ?_;refine tr_block ?_;refine s_r ?_;refine f_a rfl rfl norm0_ ?_;refine tr_val (rk_load1 (.of rfl) (At.lit .here rfl)) rfl ?_;refine m_v rfl rfl ?_;refine tr_val (rk_indexAddr (.of rfl) (.of rfl) ha' (by omega) hcd norm1_) rfl ?_;refine tr_val (rk_loadN (.of rfl) (Ats.base hcell rfl) rfl) rfl ?_;refine tr_new (rk_alloc rfl) rfl (fun _ _=>?_);refine tr_store (.of rfl) (.of rfl) .here rfl rfl (okc_cons rfl (okc_cons rfl (okc_cons rfl (okc_cons rfl (okc_cons rfl (okc_cons rfl okc_nil)))))) (lenb rfl) norm_ ?_;refine n_r ?_;refine f_a rfl rfl norm0_ ?_;refine tr_val (rk_load1 (.of rfl) (At.lit .here rfl)) rfl ?_;refine tr_val (rk_len_string (.of rfl)) rfl ?_;refine tr_val (rk_gtr (.of rfl) (.of rfl)) rfl ?_;refine m_v rfl rfl ?_;refine tr_vG1 rfl rfl inferInstance (fun hg hgp=>(rk_fieldAddr (.of rfl) norm0_)) rfl ?_;refine tr_vG1 rfl rfl inferInstance (fun hg hgp=>(rk_load1 (.ofg hg rfl) (At.lit .here rfl))) rfl ?_;refine tr_vG1 rfl rfl inferInstance (fun hg hgp=>(rk_len_string (.ofg hg rfl))) rfl ?_;refine tr_vG1 rfl rfl inferInstance (fun hg hgp=>(rk_gtr (.ofg hg rfl) (.of rfl))) rfl ?_;refine tr_val (rk_pick_or (.of rfl) rfl) rfl ?_;refine m_v rfl rfl ?_;refine tr_vG1 rfl rfl inferInstance (fun hg hgp=>(rk_fieldAddr (.of rfl) norm0_)) rfl ?_;refine tr_vG1 rfl rfl inferInstance (fun hg hgp=>(rk_fieldAddr (.ofg hg rfl) norm0_)) rfl ?_;refine tr_vG1 rfl rfl inferInstance (fun hg hgp=>(rk_load1 (.ofg hg rfl) (At.lit .here rfl))) rfl ?_;refine tr_vG1 rfl rfl inferInstance (fun hg hgp=>(rk_len_string (.ofg hg rfl))) rfl ?_;refine tr_vG1 rfl rfl inferInstance (fun hg hgp=>(rk_gtr (.ofg hg rfl) (.of rfl))) rfl ?_;refine tr_val (rk_pick_or (.of rfl) rfl) rfl ?_;refine n_t ?_;refine c_b rfl (fun hcd=>?_) (fun hcd=>?_);refine s_r ?_;refine a_s rfl rfl ?_;refine n_t ?_;refine tr_ret ?_;refine tr_blk_ret ?_;refine tr_then_ret ?_;refine tr_then_ret ?_;refine tr_blk_ret ?_;refine tr_then_ret ?_;refine tr_retE rfl (ends1 rfl rfl) ?_;rotate_left;refine tr_skip ?_;refine tr_blk_normal ?_;refine tr_then ?_;refine tr_region ?_;refine m_v rfl rfl ?_;refine tr_val (rk_add (.of rfl) (.of rfl) (ini (by omega))) rfl ?_;refine a_s rfl rfl ?_;refine n_t ?_;rotate_right)
    · have:((List.range es.length).all fun k=>decide ((nth es k).nm.size ≤ 40) && decide ((nth es k).mt.size ≤ 40) && decide ((nth es k).kd.size ≤ 40)) = false:=by
        rw [List.all_eq_false]
        refine ⟨k,List.mem_range.2 hlt,?_⟩
        simp only [Bool.not_eq_true,Bool.and_eq_false_iff,decide_eq_false_iff_not]
        omega
      rw [shortB,this];rfl
    · apply tr_next (k + 1) ⟨by omega,fun i hi=>by
        by_cases e:i = k
        · rw [e];omega
        · exact hf i (by omega)⟩ (by omega)
      case hs1=>exact .cons rfl (.cons rfl .nil)
      case ht=>(try simp only [List.take_zero,List.map_nil,List.nil_append]);exact .cons (.there .here) .nil
  · obtain rfl:k = es.length:=by omega
    have hall:((List.range es.length).all fun k=>decide ((nth es k).nm.size ≤ 40) && decide ((nth es k).mt.size ≤ 40) && decide ((nth es k).kd.size ≤ 40)) = true:=by
      rw [List.all_eq_true]
      intro i hi
      have:=hf i (List.mem_range.1 hi)
      simp [this]
    (refine tr_seq ?_;refine s_r ?_;refine m_v rfl rfl ?_;refine f_a rfl rfl norm0_ ?_;refine tr_val (rk_load1 (.of rfl) (At.lit .here rfl)) rfl ?_;refine tr_val (rk_len_slice (.of rfl)) rfl ?_;refine tr_val (rk_lss (.of rfl) (.of rfl)) rfl ?_;refine n_t ?_;refine c_d rfl (fun _=>by omega) (fun hcd=>?_);refine x_t ?_;refine tr_then_exit ?_;refine tr_blk_exit ?_;refine tr_then ?_;refine s_r ?_;refine f_a rfl rfl norm0_ ?_;refine tr_val (rk_load1 (.of rfl) (At.lit .here rfl)) rfl ?_;refine tr_val (rk_len_slice (.of rfl)) rfl ?_;refine tr_val (rk_leq (.of rfl) (.of rfl)) rfl ?_;refine m_v rfl rfl ?_;refine tr_vG1 rfl rfl inferInstance (fun hg hgp=>(rk_fieldAddr (.of rfl) norm0_)) rfl ?_;refine tr_vG1 rfl rfl inferInstance (fun hg hgp=>(rk_load1 (.ofg hg rfl) (At.lit .here rfl))) rfl ?_;refine tr_vG1 rfl rfl inferInstance (fun hg hgp=>(rk_len_slice (.ofg hg rfl))) rfl ?_;refine tr_vG1 rfl rfl inferInstance (fun hg hgp=>(rk_eql (.ofg hg rfl) (.of rfl))) rfl ?_;refine tr_val (rk_pick_or (.of rfl) rfl) rfl ?_;refine a_s rfl rfl ?_;refine n_t ?_;refine tr_ret ?_;refine tr_retE rfl (ends1 rfl rfl) ?_)
    rw [shortB,hall,Bool.true_and]
    have e1:decide ((es.length:Int) ≤ 8) = decide (es.length ≤ 8):=decide_eq_decide.2 (by omega)
    have e2:decide ((es.length:Int) = 25) = decide (es.length = 25):=decide_eq_decide.2 (by omega)
    rw [e1,e2]
end Go.Proofs.A1
