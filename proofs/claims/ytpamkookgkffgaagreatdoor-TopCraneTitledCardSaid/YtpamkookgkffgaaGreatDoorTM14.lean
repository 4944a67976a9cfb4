/- Parts of the proof: ES14 ES15 ES17 ES18 ES19 ES20 ES21 ES24 ES25 ES27 ES28 ES29p ES30 UQp. -/
import Derived.Test.YtpamkookgkffgaaGreatDoorTM13
import Derived.Test.YtpamkookgkffgaaGreatDoorTM06
import Derived.Test.YtpamkookgkffgaaGreatDoorTM09
import Derived.Test.YtpamkookgkffgaaGreatDoorTM08
set_option linter.unusedSectionVars false
set_option linter.unusedVariables false
set_option linter.unusedSimpArgs false
namespace Go.Proofs.A1
open Go Go.SL
theorem Sound.e2 {es:List En} (h:Sound es):errE (e2At es) es.length = 0:=errE_ok.2 fun i hi=>by
  have h1:=h.bad i hi
  have h2:=h.most i hi
  simp [e2At,h1,show ¬ 10000000 < to es i by omega,whenF,firstF]
theorem e1q_eq (es:List En) (k:Nat):firstF [entF (nth es k),whenF (decide (0 ≤ findF es (nth es k).nm k)) 9,whenF (decide ((k:Int) = 0) && decide ((nth es k).kd = sFol)) 22] = e1At es k:=by
  unfold e1At
  rw [findF_le,← dup_eq,show decide ((k:Int) = 0) = decide (k = 0) from decide_eq_decide.2 (by omega)]
theorem chkQ_c {sv:Value} {es:List En} {w:World} (h1:Rd w sv 6 (ensL es)):GivesV Tryz.prog 19 [.agg #[sv]] w (.int .i64 (chkF es)):=by
  have h1':=h1
  obtain ⟨a,cap,b,o,rfl,hcap,hmax,ha,hc⟩:=h1
  rw [ensL_length] at *
  unfold maxLen at hmax
  refine givesV_of_tr Tryz.func19 rfl rfl ?_
  (refine s_r ?_;refine tr_new (rk_box (.of rfl) rfl) rfl (fun _ _=>?_);refine a_s rfl rfl ?_;refine n_t ?_;refine tr_seq ?_;refine s_r ?_;refine f_a rfl rfl norm0_ ?_;refine tr_val (rk_load1 (.of rfl) (At.lit .here rfl)) rfl ?_;refine tr_val (rk_len_slice (.of rfl)) rfl ?_;refine tr_val (rk_gtr (.of rfl) (.of rfl)) rfl ?_;refine n_t ?_;refine c_d rfl (fun hcd=>?_) (fun hcd=>?_);refine s_r ?_;refine a_s rfl rfl ?_;refine n_t ?_;refine r_t ?_;refine tr_retE rfl (ends1 rfl rfl) ?_;rotate_left;refine s_t ?_;refine tr_seq ?_;refine s_r ?_;refine a_s rfl rfl ?_;refine n_t ?_;refine tr_block ?_;rotate_right)
  · rw [chkF,if_pos (by omega)]
  have hfew:es.length ≤ 24:=by omega
  rename_i b1 hb1
  refine tr_for (fun k:Nat=>k ≤ es.length ∧ ∀ i,i < k → e1At es i = 0) (fun k=>[(3,.int .i64 k),(1,.pointer (some ⟨b1,0,none⟩))])
    (fun _=>[blk b1 (.cells #[.slice a es.length cap] 24 (0,0))]) (fun k=>es.length - k) ?_ ?_
  · apply tr_start 0 ⟨Nat.zero_le _,fun i h=>by omega⟩
    case hs1=>exact .cons rfl (.cons rfl .nil)
    case ht=>(try simp only [List.take_zero,List.map_nil,List.nil_append]);exact .cons .here .nil
  rintro k ⟨hk,hf⟩
  by_cases hlt:k < es.length
  · have ha':=ha (ensL_ne hlt)
    have hcell:=(hc k _ (ensL_get hlt)).2
    have hc0:=hcell 0 _ rfl
    have hc2:=hcell 2 _ rfl
    have heq:=e1q_eq es k
    have hec:∀ w',GivesV Tryz.prog 51 [.agg (nth es k).cells.toArray] w' (.int .i64 (entF (nth es k))):=fun w'=>entQ_c _ _
    unfold En.cells at hcell hec
    (refine tr_seq ?_;refine s_r ?_;refine m_v rfl rfl ?_;refine f_a rfl rfl norm0_ ?_;refine tr_val (rk_load1 (.of rfl) (At.lit .here rfl)) rfl ?_;refine tr_val (rk_len_slice (.of rfl)) rfl ?_;refine tr_val (rk_lss (.of rfl) (.of rfl)) rfl ?_;refine n_t ?_;refine c_d rfl (fun hcd=>?_) (fun _=>by omega);refine s_t ?_;refine tr_seq ?_;refine tr_block ?_;refine tr_seq ?_)
    with_reducible refine tr_draw 30 (by kernel_rfl) ?_
    (refine a_f rfl rfl norm0_ ?_;refine any_val (rk_load1 (.of rfl) (At.lit .here rfl)) rfl ?_;refine a_m rfl rfl ?_;refine any_val (rk_indexAddr (.of rfl) (.of rfl) ha' (by omega) hcd norm1_) rfl ?_;refine any_val (rk_loadN (.of rfl) (Ats.base hcell rfl) rfl) rfl ?_;refine any_call (rk_call (.of rfl) (.cons (.of rfl) .nil) inferInstance normc_) rfl (fun w' hm'=>(hec w')) ?_;refine any_val (rk_loadB (.of rfl) .here norm_ (by rfl)) rfl ?_;refine a_f rfl rfl norm0_ ?_;refine any_val (rk_load1 (.of rfl) (At.lit .here rfl)) rfl ?_;refine a_m rfl rfl ?_;refine any_val (rk_indexAddr (.of rfl) (.of rfl) ha' (by omega) hcd norm1_) rfl ?_;refine a_f rfl rfl norm0_ ?_;refine any_val (rk_load1 (.of rfl) (At.base hc0 rfl)) rfl ?_;refine a_m rfl rfl ?_;refine any_call (rk_call (.of rfl) (.cons (.of rfl) (.cons (.of rfl) (.cons (.of rfl) .nil))) inferInstance normc_) rfl (fun w' hm'=>(findQ_c _ k (Rd.keeps h1' (Mem.keeps hm')) hk)) ?_;refine any_val (rk_geq (.of rfl) (.of rfl)) rfl ?_;refine any_call (rk_call (.of rfl) (.cons (.of rfl) (.cons (.of rfl) .nil)) inferInstance normc_) rfl (fun w' hm'=>(when_q _ 9 w')) ?_;refine a_m rfl rfl ?_;refine any_val (rk_eql (.of rfl) (.of rfl)) rfl ?_;refine a_m rfl rfl ?_;refine any_vG1 rfl rfl inferInstance (fun hg hgp=>(rk_fieldAddr (.of rfl) norm0_)) rfl ?_;refine any_vG1 rfl rfl inferInstance (fun hg hgp=>(rk_load1 (.ofg hg rfl) (At.lit .here rfl))) rfl ?_;refine any_vG1 rfl rfl inferInstance (fun hg hgp=>(rk_move (.of rfl))) rfl ?_;refine any_vG1 rfl rfl inferInstance (fun hg hgp=>(rk_indexAddr (.ofg hg rfl) (.ofg hg rfl) ha' (by omega) hcd norm1_)) rfl ?_;refine any_vG1 rfl rfl inferInstance (fun hg hgp=>(rk_fieldAddr (.ofg hg rfl) norm0_)) rfl ?_;refine any_vG1 rfl rfl inferInstance (fun hg hgp=>(rk_fieldAddr (.ofg hg rfl) norm0_)) rfl ?_;refine any_vG1 rfl rfl inferInstance (fun hg hgp=>(rk_load1 (.ofg hg rfl) (At.base hc2 rfl))) rfl ?_;refine any_vG1 rfl rfl inferInstance (fun hg hgp=>(rk_eqls (.ofg hg rfl) (.of rfl))) rfl ?_;refine any_val (rk_pick_and (.of rfl) rfl) rfl ?_;refine any_call (rk_call (.of rfl) (.cons (.of rfl) (.cons (.of rfl) .nil)) inferInstance normc_) rfl (fun w' hm'=>(when_q _ 22 w')) ?_)
    with_reducible refine any_end ?_
    (refine tr_new (rk_sliceLit (.cons (.of rfl) (.cons (.of rfl) (.cons (.of rfl) .nil))) rfl rfl rfl rfl) rfl (fun _ _=>?_);refine tr_callV (rk_call (.of rfl) (.cons (.of rfl) .nil) inferInstance normc_) rfl (fun w' hm'=>(first_qB (Mem.rdBlk hm' .here rfl rfl) (IntL.cons (IntL.cons (IntL.cons IntL.nil))))) ?_;refine a_s rfl rfl ?_;refine n_r ?_;refine m_v rfl rfl ?_;refine tr_val (rk_neq (.of rfl) (.of rfl)) rfl ?_;refine n_t ?_;refine c_d rfl (fun hcd=>?_) (fun hcd=>?_);refine s_r ?_;refine m_v rfl rfl ?_;refine a_s rfl rfl ?_;refine n_t ?_;refine tr_ret ?_;refine tr_blk_ret ?_;refine tr_then_ret ?_;refine tr_then_ret ?_;refine tr_blk_ret ?_;refine tr_then_ret ?_;refine tr_retE rfl (ends1 rfl rfl) ?_;rotate_left;refine tr_skip ?_;refine tr_blk_normal ?_;refine tr_then ?_;refine tr_region ?_;refine m_v rfl rfl ?_;refine tr_val (rk_add (.of rfl) (.of rfl) (ini (by omega))) rfl ?_;refine a_s rfl rfl ?_;refine n_t ?_;rotate_right)
    · have hne:e1At es k ≠ 0:=by rw [← heq];exact hcd
      rw [chkF,if_neg (by omega),errE_bad hf hlt hne]
      have:firstF [e1At es k,errE (e2At es) es.length] = e1At es k:=by simp [firstF,hne]
      rw [this,← heq];rfl
    · have hz:e1At es k = 0:=by rw [← heq];exact Decidable.not_not.1 hcd
      apply tr_next (k + 1) ⟨by omega,fun i hi=>by
        by_cases e:i = k
        · rw [e];exact hz
        · exact hf i (by omega)⟩ (by omega)
      case hs1=>exact .cons rfl (.cons rfl .nil)
      case ht=>(try simp only [List.take_zero,List.map_nil,List.nil_append]);exact .cons (.there .here) .nil
  · obtain rfl:k = es.length:=by omega
    have hok:∀ k,k < es.length → EnOk (nth es k):=fun k hk=>(e1_ok (hf k hk)).1
    have hE:chkF es = errE (e2At es) es.length:=by
      rw [chkF,if_neg (by omega),errE_ok.2 hf,firstF_0]
    rw [hE]
    (refine tr_seq ?_;refine s_r ?_;refine m_v rfl rfl ?_;refine f_a rfl rfl norm0_ ?_;refine tr_val (rk_load1 (.of rfl) (At.lit .here rfl)) rfl ?_;refine tr_val (rk_len_slice (.of rfl)) rfl ?_;refine tr_val (rk_lss (.of rfl) (.of rfl)) rfl ?_;refine n_t ?_;refine c_d rfl (fun _=>by omega) (fun hcd=>?_);refine x_t ?_;refine tr_then_exit ?_;refine tr_blk_exit ?_;refine tr_then ?_;refine s_r ?_;refine tr_val (rk_loadB (.of rfl) .here norm_ (by rfl)) rfl ?_)
    with_reducible apply tr_call
    case hr=>exact rk_call (.of rfl) (.cons (.of rfl) .nil) inferInstance normc_
    case hd=>rfl
    case ht=>exact Takes.nil
    case hc=>
      intro w1 fp hm1 _ hs1
      obtain rfl:fp = []:=hs1
      exact timesQ_c (h1'.keeps hm1.keeps) hok hfew (fun h0=>(e1_ok (hf 0 h0)).2.2 rfl)
    intro v _
    dsimp only [id_eq,List.cons_append,List.nil_append]
    (refine m_v rfl rfl ?_;refine tr_val (rk_extract (.of rfl) rfl) rfl ?_;refine tr_val (rk_extract (.of rfl) rfl) rfl ?_;refine a_s rfl rfl ?_;refine a_s rfl rfl ?_;refine n_r ?_;refine m_v rfl rfl ?_;refine a_s rfl rfl ?_;refine n_t ?_;refine tr_ret ?_;refine tr_retE rfl (ends1 rfl rfl) ?_)
    rfl
theorem spansQ_c {sv:Value} {es:List En} {w:World} (h1:Rd w sv 6 (ensL es)) (hs:Sound es) :
    Gives Tryz.prog 26 [.agg #[sv]] w [] (fun _:Value=>True) id (fun v=>[row 45 2 v es.length (spV es es.length)]):=by
  have hone:=Rd.one h1
  have htq:tqL es = spL es es.length:=by rw [tqL,if_pos hs.e2]
  refine gives_of_tr Tryz.func26 rfl rfl ?_
  (refine s_r ?_;refine tr_new (rk_box (.of rfl) rfl) rfl (fun _ _=>?_);refine a_s rfl rfl ?_;refine n_r ?_;refine tr_val (rk_loadB (.of rfl) .here norm_ (by rfl)) rfl ?_)
  with_reducible apply tr_call
  case hr=>exact rk_call (.of rfl) (.cons (.of rfl) .nil) inferInstance normc_
  case hd=>rfl
  case ht=>exact Takes.nil
  case hc=>
    intro w1 fp hm1 _ hs1
    obtain rfl:fp = []:=hs1
    exact timesQ_c (h1.keeps hm1.keeps) hs.all.ok hs.all.few hs.fol
  intro v _
  rw [htq,spL_length]
  dsimp only [id_eq,List.cons_append,List.nil_append]
  (refine m_v rfl rfl ?_;refine tr_val (rk_extract (.of rfl) rfl) rfl ?_;refine tr_val (rk_extract (.of rfl) rfl) rfl ?_;refine a_s rfl rfl ?_;refine a_s rfl rfl ?_;refine n_r ?_;refine m_v rfl rfl ?_;refine a_s rfl rfl ?_;refine n_t ?_;refine tr_ret ?_)
  first | with_reducible apply tr_retM | with_reducible apply tr_endM
  case he=>exact ends1 rfl rfl
  case hR=>
    intro w' hm'
    exact gives_end v trivial (show Takes _ [row 45 2 v es.length ((spL es es.length).flatMap duoV)] _ by exact .cons .here .nil) hm' rfl
end Go.Proofs.A1
namespace Go.Proofs.A1
open Go Go.SL
theorem gapsQ_c {sv:Value} {es:List En} {w:World} (h1:Rd w sv 6 (ensL es)) (hs:Sound es) :
    Gives Tryz.prog 9 [.agg #[sv]] w [] (fun _:Value=>True) id (fun v=>[row 47 3 v (gpL es es.length).length (gpR es es.length)]):=by
  have hone:=Rd.one h1
  have hfew:=hs.all.few
  refine gives_of_tr Tryz.func9 rfl rfl ?_
  (refine s_r ?_;refine tr_new (rk_box (.of rfl) rfl) rfl (fun _ _=>?_);refine a_s rfl rfl ?_;refine n_r ?_;refine a_s rfl rfl ?_;refine n_r ?_;refine tr_val (rk_loadB (.of rfl) .here norm_ (by rfl)) rfl ?_)
  with_reducible apply tr_call
  case hr=>exact rk_call (.of rfl) (.cons (.of rfl) .nil) inferInstance normc_
  case hd=>rfl
  case ht=>exact Takes.nil
  case hc=>
    intro w1 fp hm1 _ hs1
    obtain rfl:fp = []:=hs1
    exact spansQ_c (h1.keeps hm1.keeps) hs
  intro v0 _
  dsimp only [id_eq,List.cons_append,List.nil_append]
  refine tr_rowNil 47 3 ?_
  by_cases hn0:0 < es.length
  · refine tr_rowOpen (by exact Take.there .here) hn0 fun g cap' cur e hcap' hmx' hsz' hl'=>?_
    subst e
    (refine a_s rfl rfl ?_;refine n_t ?_;refine tr_seq ?_;refine s_r ?_;refine a_s rfl rfl ?_;refine n_t ?_;refine tr_block ?_)
    refine tr_for (ι:=Nat × Value) (fun x=>1 ≤ x.1 ∧ x.1 ≤ es.length) (fun x=>[(5,.int .i64 x.1),(3,x.2),(4,.slice (some ⟨g,0,none⟩) es.length cap')])
      (fun x=>[row 47 3 x.2 (gpL es x.1).length (gpR es x.1),blk g (.cells (spV es es.length++cur).toArray 45 (0,0))]) (fun x=>es.length - x.1) ?_ ?_
    · apply tr_start (1,.slice none 0 0) ⟨Nat.le_refl _,hn0⟩
      case hs1=>exact .cons rfl (.cons rfl (.cons rfl .nil))
      case ht=>
        show Takes _ [row 47 3 (.slice none 0 0) 0 [],_] _
        exact .cons (.there .here) (.cons .here .nil)
    rintro ⟨n,v⟩ ⟨hn1,hn2⟩
    dsimp only at hn1 hn2 ⊢
    by_cases hlt:n < es.length
    · have q0:(spV es es.length++cur)[n * 2]? = some (.int .i64 (fr es n)):=spV_at (j:=0) (by omega) cur hlt
      have q1:(spV es es.length++cur)[((n:Int) - 1).toNat * 2 + 1]? = some (.int .i64 (to es (n - 1))):=by
        rw [show ((n:Int) - 1).toNat = n - 1 by omega];exact spV_at (by omega) cur (by omega)
      have hle:=gpL_le es n
      have hsucc:gpL es (n + 1) = gpL es n++if 0 < n ∧ to es (n - 1) < fr es n then [((n:Int) - 1,to es (n - 1),fr es n)] else []:=rfl
      (refine tr_seq ?_;refine s_r ?_;refine m_v rfl rfl ?_;refine m_v rfl rfl ?_;refine tr_val (rk_len_slice (.of rfl)) rfl ?_;refine tr_val (rk_lss (.of rfl) (.of rfl)) rfl ?_;refine n_t ?_;refine c_d rfl (fun hcd=>?_) (fun _=>by omega);refine s_t ?_;refine tr_seq ?_;refine tr_block ?_;refine tr_seq ?_)
      with_reducible refine tr_draw 12 (by kernel_rfl) ?_
      (refine a_m rfl rfl ?_;refine a_m rfl rfl ?_;refine any_val (rk_indexAddr (.of rfl) (.of rfl) rfl (by omega) hcd norm1_) rfl ?_;refine a_f rfl rfl norm0_ ?_;refine any_val (rk_load1 (.of rfl) (At.blkL (.there .here) q0)) rfl ?_;refine a_m rfl rfl ?_;refine a_m rfl rfl ?_;refine any_val (rk_sub (.of rfl) (.of rfl) (ini (by omega))) rfl ?_;refine any_val (rk_indexAddr (.of rfl) (.of rfl) rfl (by omega) (by omega) norm1_) rfl ?_;refine a_f rfl rfl norm0_ ?_;refine any_val (rk_load1 (.of rfl) (At.blkL (.there .here) q1)) rfl ?_;refine any_val (rk_gtr (.of rfl) (.of rfl)) rfl ?_)
      with_reducible refine any_end ?_
      (refine n_t ?_;refine c_d rfl (fun hcd=>?_) (fun hcd=>?_);rotate_left;refine tr_skip ?_;refine tr_blk_normal ?_;refine tr_then ?_;refine tr_region ?_;refine m_v rfl rfl ?_;refine tr_val (rk_add (.of rfl) (.of rfl) (ini (by omega))) rfl ?_;refine a_s rfl rfl ?_;refine n_t ?_;rotate_right)
      · rw [if_pos ⟨by omega,hcd⟩] at hsucc
        with_reducible refine tr_drawO 17 (by kernel_rfl) ?_
        (refine ao_val (rk_move (.of rfl)) rfl ?_;refine ao_val (rk_move (.of rfl)) rfl ?_;refine ao_val (rk_sub (.of rfl) (.of rfl) (ini (by omega))) rfl ?_;refine ao_val (rk_move (.of rfl)) rfl ?_;refine ao_val (rk_move (.of rfl)) rfl ?_;refine ao_val (rk_sub (.of rfl) (.of rfl) (ini (by omega))) rfl ?_;refine ao_val (rk_indexAddr (.of rfl) (.of rfl) rfl (by omega) (by omega) norm1_) rfl ?_;refine ao_val (rk_fieldAddr (.of rfl) norm0_) rfl ?_;refine ao_val (rk_load1 (.of rfl) (At.blkL (.there .here) q1)) rfl ?_;refine ao_val (rk_move (.of rfl)) rfl ?_;refine ao_val (rk_move (.of rfl)) rfl ?_;refine ao_val (rk_indexAddr (.of rfl) (.of rfl) rfl (by omega) (by assumption) norm1_) rfl ?_;refine ao_val (rk_fieldAddr (.of rfl) norm0_) rfl ?_;refine ao_val (rk_load1 (.of rfl) (At.blkL (.there .here) q0)) rfl ?_;refine ao_val (rk_buildL (.cons (.of rfl) (.cons (.of rfl) .nil)) norm_) rfl ?_;refine ao_val (rk_buildL (.cons (.of rfl) (.cons (.of rfl) .nil)) norm_) rfl ?_;refine ao_new (rk_sliceLitN (.cons (.of rfl) .nil) rfl rfl normp_ normp_ norm_) rfl rfl ?_)
        with_reducible refine ao_end1 rfl fun bq hbq=>?_
        refine tr_appendB (.of rfl) (.of rfl) (.there .here) .here norm_ (by rfl) (okc_cons rfl (okc_cons rfl (okc_cons rfl okc_nil))) (by rfl) (by rfl) (by rfl) lenx_ (by rfl) ?_
        intro v'
        (refine a_s rfl rfl ?_;refine tr_nil ?_;refine tr_blk_normal ?_;refine tr_then ?_;refine tr_region ?_;refine m_v rfl rfl ?_;refine tr_val (rk_add (.of rfl) (.of rfl) (ini (by omega))) rfl ?_;refine a_s rfl rfl ?_;refine n_t ?_)
        apply tr_next (n + 1,v') ⟨by show 1 ≤ n + 1;omega,by show n + 1 ≤ es.length;omega⟩ (by show es.length - (n + 1) < es.length - n;omega)
        case hs1=>exact .cons rfl (.cons rfl (.cons rfl .nil))
        case ht=>
          have e1:(gpL es (n + 1)).length = (gpL es n).length + 1:=by rw [hsucc];simp
          have e2:gpR es (n + 1) = gpR es n++[.int .i64 ((n:Int) - 1),.int .i64 (to es (n - 1)),.int .i64 (fr es n)]:=by rw [gpR,hsucc];simp [gpR,triV]
          show Takes _ [row 47 3 v' (gpL es (n + 1)).length (gpR es (n + 1)),_] _
          rw [e1,e2]
          exact .cons .here (.cons (.there .here) .nil)
      · rw [if_neg (fun h=>hcd h.2),List.append_nil] at hsucc
        apply tr_next (n + 1,v) ⟨by show 1 ≤ n + 1;omega,by show n + 1 ≤ es.length;omega⟩ (by show es.length - (n + 1) < es.length - n;omega)
        case hs1=>exact .cons rfl (.cons rfl (.cons rfl .nil))
        case ht=>
          have e2:gpR es (n + 1) = gpR es n:=by rw [gpR,hsucc];rfl
          show Takes _ [row 47 3 v (gpL es (n + 1)).length (gpR es (n + 1)),_] _
          rw [hsucc,e2]
          exact .cons .here (.cons .here .nil)
    · obtain rfl:n = es.length:=by omega
      (refine tr_seq ?_;refine s_r ?_;refine m_v rfl rfl ?_;refine m_v rfl rfl ?_;refine tr_val (rk_len_slice (.of rfl)) rfl ?_;refine tr_val (rk_lss (.of rfl) (.of rfl)) rfl ?_;refine n_t ?_;refine c_d rfl (fun _=>by omega) (fun hcd=>?_);refine x_t ?_;refine tr_then_exit ?_;refine tr_blk_exit ?_;refine tr_then ?_;refine s_r ?_;refine m_v rfl rfl ?_;refine a_s rfl rfl ?_;refine n_t ?_;refine tr_ret ?_)
      first | with_reducible apply tr_retM | with_reducible apply tr_endM
      case he=>exact ends1 rfl rfl
      case hR=>
        intro w' hm'
        exact gives_end v trivial (by exact .cons .here .nil) hm' rfl
  · have e0:es.length = 0:=by omega
    rw [e0]
    refine tr_rowSl (E:=45) (sz:=2) (by exact Take.there .here) fun a' cap' e'=>?_
    subst e'
    (refine a_s rfl rfl ?_;refine n_t ?_;refine tr_seq ?_;refine s_r ?_;refine a_s rfl rfl ?_;refine n_t ?_;refine tr_block ?_)
    refine tr_for (ι:=Unit) (fun _=>True) (fun _=>[(5,.int .i64 1),(3,.slice none 0 0),(4,.slice a' 0 cap')])
      (fun _=>[row 47 3 (.slice none 0 0) 0 []]) (fun _=>0) ?_ ?_
    · apply tr_start () trivial
      case hs1=>exact .cons rfl (.cons rfl (.cons rfl .nil))
      case ht=>exact .cons .here .nil
    rintro ⟨⟩ _
    (refine tr_seq ?_;refine s_r ?_;refine m_v rfl rfl ?_;refine m_v rfl rfl ?_;refine tr_val (rk_len_slice (.of rfl)) rfl ?_;refine tr_val (rk_lss (.of rfl) (.of rfl)) rfl ?_;refine n_t ?_;refine c_d rfl (fun _=>by omega) (fun hcd=>?_);refine x_t ?_;refine tr_then_exit ?_;refine tr_blk_exit ?_;refine tr_then ?_;refine s_r ?_;refine m_v rfl rfl ?_;refine a_s rfl rfl ?_;refine n_t ?_;refine tr_ret ?_)
    first | with_reducible apply tr_retM | with_reducible apply tr_endM
    case he=>exact ends1 rfl rfl
    case hR=>
      intro w' hm'
      exact gives_end (.slice none 0 0) trivial (show Takes _ [row 47 3 (.slice none 0 0) 0 []] _ by exact .cons .here .nil) hm' rfl
end Go.Proofs.A1
namespace Go.Proofs.A1
open Go Go.SL
theorem lenV {α β:Type} (f:α → β) (l:List α):(l.map f).length = l.length:=List.length_map f
end Go.Proofs.A1
namespace Go.Proofs.A1
open Go Go.SL
theorem ensL_sz (es:List En):∀ r ∈ ensL es,r.length = 6:=by
  intro r hr
  obtain ⟨k,_,rfl⟩:=List.mem_map.1 hr
  rfl
end Go.Proofs.A1
namespace Go.Proofs.A1
open Go Go.SL
def shortB (es:List En):Bool:=((List.range es.length).all fun k=>decide ((nth es k).nm.size ≤ 40) && decide ((nth es k).mt.size ≤ 40) && decide ((nth es k).kd.size ≤ 40)) && (decide (es.length ≤ 8) || decide (es.length = 25))
theorem short_c {sv:Value} {es:List En} {w:World} (h1:Rd w sv 6 (ensL es)):GivesV Tryz.prog 18 [.agg #[sv]] w (.bool (shortB es)):=by
  obtain ⟨a,cap,b,o,rfl,hcap,hmax,ha,hc⟩:=h1
  rw [ensL_length] at *
  unfold maxLen at hmax
  refine givesV_of_tr Tryz.func18 rfl rfl ?_
  (refine s_r ?_;refine tr_new (rk_box (.of rfl) rfl) rfl (fun _ _=>?_);refine a_s rfl rfl ?_;refine n_t ?_;refine tr_seq ?_;refine s_r ?_;refine a_s rfl rfl ?_;refine n_t ?_;refine tr_block ?_)
  rename_i b1 hb1
  refine tr_for (fun k:Nat=>k ≤ es.length ∧ ∀ i,i < k → (nth es i).nm.size ≤ 40 ∧ (nth es i).mt.size ≤ 40 ∧ (nth es i).kd.size ≤ 40) (fun k=>[(3,.int .i64 k),(1,.pointer (some ⟨b1,0,none⟩))])
    (fun _=>[blk b1 (.cells #[.slice a es.length cap] 24 (0,0))]) (fun k=>es.length - k) ?_ ?_
  · apply tr_start 0 ⟨Nat.zero_le _,fun i h=>by omega⟩
    case hs1=>exact .cons rfl (.cons rfl .nil)
    case ht=>(try simp only [List.take_zero,List.map_nil,List.nil_append]);exact .cons .here .nil
  rintro k ⟨hk,hf⟩
  by_cases hlt:k < es.length
  · have ha':=ha (ensL_ne hlt)
    have hcell:=(hc k _ (ensL_get hlt)).2
    unfold En.cells at hcell
    (refine tr_seq ?_;refine s_r ?_;refine m_v rfl rfl ?_;refine f_a rfl rfl norm0_ ?_;refine tr_val (rk_load1 (.of rfl) (At.lit .here rfl)) rfl ?_;refine tr_val (rk_len_slice (.of rfl)) rfl ?_;refine tr_val (rk_lss (.of rfl) (.of rfl)) rfl ?_;refine n_t ?_;refine c_d rfl (fun hcd=>?_) (fun _=>by omega);refine s_t ?_;refine tr_seq ?_;refine tr_block ?_;refine s_r ?_;refine f_a rfl rfl norm0_ ?_;refine tr_val (rk_load1 (.of rfl) (At.lit .here rfl)) rfl ?_;refine m_v rfl rfl ?_;refine tr_val (rk_indexAddr (.of rfl) (.of rfl) ha' (by omega) hcd norm1_) rfl ?_;refine tr_val (rk_loadN (.of rfl) (Ats.base hcell rfl) rfl) rfl ?_;refine tr_new (rk_alloc rfl) rfl (fun _ _=>?_);refine tr_store (.of rfl) (.of rfl) .here rfl rfl (okc_cons rfl (okc_cons rfl (okc_cons rfl (okc_cons rfl (okc_cons rfl (okc_cons rfl okc_nil)))))) (lenb rfl) norm_ ?_;refine n_r ?_;refine f_a rfl rfl norm0_ ?_;refine tr_val (rk_load1 (.of rfl) (At.lit .here rfl)) rfl ?_;refine tr_val (rk_len_string (.of rfl)) rfl ?_;refine tr_val (rk_gtr (.of rfl) (.of rfl)) rfl ?_;refine m_v rfl rfl ?_;refine tr_vG1 rfl rfl inferInstance (fun hg hgp=>(rk_fieldAddr (.of rfl) norm0_)) rfl ?_;refine tr_vG1 rfl rfl inferInstance (fun hg hgp=>(rk_load1 (.ofg hg rfl) (At.lit .here rfl))) rfl ?_;refine tr_vG1 rfl rfl inferInstance (fun hg hgp=>(rk_len_string (.ofg hg rfl))) rfl ?_;refine tr_vG1 rfl rfl inferInstance (fun hg hgp=>(rk_gtr (.ofg hg rfl) (.of rfl))) rfl ?_;refine tr_val (rk_pick_or (.of rfl) rfl) rfl ?_;refine m_v rfl rfl ?_;refine tr_vG1 rfl rfl inferInstance (fun hg hgp=>(rk_fieldAddr (.of rfl) norm0_)) rfl ?_;refine tr_vG1 rfl rfl inferInstance (fun hg hgp=>(rk_fieldAddr (.ofg hg rfl) norm0_)) rfl ?_;refine tr_vG1 rfl rfl inferInstance (fun hg hgp=>(rk_load1 (.ofg hg rfl) (At.lit .here rfl))) rfl ?_;refine tr_vG1 rfl rfl inferInstance (fun hg hgp=>(rk_len_string (.ofg hg rfl))) rfl ?_;refine tr_vG1 rfl rfl inferInstance (fun hg hgp=>(rk_gtr (.ofg hg rfl) (.of rfl))) rfl ?_;refine tr_val (rk_pick_or (.of rfl) rfl) rfl ?_;refine n_t ?_;refine c_b rfl (fun hcd=>?_) (fun hcd=>?_);refine s_r ?_;refine a_s rfl rfl ?_;refine n_t ?_;refine tr_ret ?_;refine tr_blk_ret ?_;refine tr_then_ret ?_;refine tr_then_ret ?_;refine tr_blk_ret ?_;refine tr_then_ret ?_;refine tr_retE rfl (ends1 rfl rfl) ?_;rotate_left;refine tr_skip ?_;refine tr_blk_normal ?_;refine tr_then ?_;refine tr_region ?_;refine m_v rfl rfl ?_;refine tr_val (rk_add (.of rfl) (.of rfl) (ini (by omega))) rfl ?_;refine a_s rfl rfl ?_;refine n_t ?_;rotate_right)
    · have:((List.range es.length).all fun k=>decide ((nth es k).nm.size ≤ 40) && decide ((nth es k).mt.size ≤ 40) && decide ((nth es k).kd.size ≤ 40)) = false:=by
        rw [List.all_eq_false]
        refine ⟨k,List.mem_range.2 hlt,?_⟩
        simp only [Bool.not_eq_true,Bool.and_eq_false_iff,decide_eq_false_iff_not]
        omega
      rw [shortB,this];rfl
    · apply tr_next (k + 1) ⟨by omega,fun i hi=>by
        by_cases e:i = k
        · rw [e];omega
        · exact hf i (by omega)⟩ (by omega)
      case hs1=>exact .cons rfl (.cons rfl .nil)
      case ht=>(try simp only [List.take_zero,List.map_nil,List.nil_append]);exact .cons (.there .here) .nil
  · obtain rfl:k = es.length:=by omega
    have hall:((List.range es.length).all fun k=>decide ((nth es k).nm.size ≤ 40) && decide ((nth es k).mt.size ≤ 40) && decide ((nth es k).kd.size ≤ 40)) = true:=by
      rw [List.all_eq_true]
      intro i hi
      have:=hf i (List.mem_range.1 hi)
      simp [this]
    (refine tr_seq ?_;refine s_r ?_;refine m_v rfl rfl ?_;refine f_a rfl rfl norm0_ ?_;refine tr_val (rk_load1 (.of rfl) (At.lit .here rfl)) rfl ?_;refine tr_val (rk_len_slice (.of rfl)) rfl ?_;refine tr_val (rk_lss (.of rfl) (.of rfl)) rfl ?_;refine n_t ?_;refine c_d rfl (fun _=>by omega) (fun hcd=>?_);refine x_t ?_;refine tr_then_exit ?_;refine tr_blk_exit ?_;refine tr_then ?_;refine s_r ?_;refine f_a rfl rfl norm0_ ?_;refine tr_val (rk_load1 (.of rfl) (At.lit .here rfl)) rfl ?_;refine tr_val (rk_len_slice (.of rfl)) rfl ?_;refine tr_val (rk_leq (.of rfl) (.of rfl)) rfl ?_;refine m_v rfl rfl ?_;refine tr_vG1 rfl rfl inferInstance (fun hg hgp=>(rk_fieldAddr (.of rfl) norm0_)) rfl ?_;refine tr_vG1 rfl rfl inferInstance (fun hg hgp=>(rk_load1 (.ofg hg rfl) (At.lit .here rfl))) rfl ?_;refine tr_vG1 rfl rfl inferInstance (fun hg hgp=>(rk_len_slice (.ofg hg rfl))) rfl ?_;refine tr_vG1 rfl rfl inferInstance (fun hg hgp=>(rk_eql (.ofg hg rfl) (.of rfl))) rfl ?_;refine tr_val (rk_pick_or (.of rfl) rfl) rfl ?_;refine a_s rfl rfl ?_;refine n_t ?_;refine tr_ret ?_;refine tr_retE rfl (ends1 rfl rfl) ?_)
    rw [shortB,hall,Bool.true_and]
    have e1:decide ((es.length:Int) ≤ 8) = decide (es.length ≤ 8):=decide_eq_decide.2 (by omega)
    have e2:decide ((es.length:Int) = 25) = decide (es.length = 25):=decide_eq_decide.2 (by omega)
    rw [e1,e2]
end Go.Proofs.A1
namespace Go.Proofs.A1
open Go Go.SL
structure Se where
  en:Int
  fe:Bool
  off:Int
  ln:Int
def Se.cells (x:Se):List Value:=[.int .i64 x.en,.bool x.fe,.int .i64 x.off,.int .i64 x.ln]
structure Ri where
  mt:ByteArray
  f:Int
  t:Int
def Ri.cells (x:Ri):List Value:=[.string x.mt,.int .i64 x.f,.int .i64 x.t]
end Go.Proofs.A1
namespace Go.Proofs.A1
open Go Go.SL
theorem IntL.map:∀ (es:List Int),IntL (es.map (Value.int .i64)) es
  | []=>.nil
  | _ :: r=>.cons (IntL.map r)
end Go.Proofs.A1
namespace Go.Proofs.A1
open Go Go.SL
theorem tr_rowLitE9 {c:Cx} {D:List Nat} {sl:Slots} {hs hs':List Asn} {X:Act → World → Prop} {E:TypeId} {g:Nat} {xs ys:List Value} (n sz:Nat) (ht:Take hs (blk g (.cells xs.toArray E (0,0))) hs') (he:xs = ys) (hl:ys.length = n * sz) (hn:Nat.ble n 1000 = true)
    (k:Tr c D sl (row E sz (.slice (some ⟨g,0,none⟩) n n) n ys :: hs') X):Tr c D sl hs X:=by
  subst he
  exact tr_rowLit n sz ht hl hn k
end Go.Proofs.A1
namespace Go.Proofs.A1
open Go Go.SL
structure Sp where
  nm:ByteArray
  cp:Int
  ln:Int
  vl:Int
def Sp.cells (s:Sp):List Value:=[.string s.nm,.int .i64 s.cp,.int .i64 s.ln,.int .i64 s.vl]
def spsL (l:List Sp):List (List Value):=l.map Sp.cells
end Go.Proofs.A1
namespace Go.Proofs.A1
open Go Go.SL
def Sp.zero:Sp:=⟨⟨#[]⟩,0,0,0⟩
def nthS9 (l:List Sp) (k:Nat):Sp:=l.getD k Sp.zero
theorem nthS_eq {l:List Sp} {k:Nat} (h:k < l.length):nthS9 l k = l[k]:=by simp [nthS9,List.getD_eq_getElem?_getD,h]
theorem spsL_length (l:List Sp):(spsL l).length = l.length:=by simp [spsL]
theorem spsL_get {l:List Sp} {k:Nat} (h:k < l.length):(spsL l)[k]? = some (nthS9 l k).cells:=by simp [spsL,h,nthS_eq h]
def natsL (l:List Nat):List (List Value):=l.map fun (i:Nat)=>[Value.int .i64 (i:Int)]
def nthN (l:List Nat) (k:Nat):Nat:=l.getD k 0
theorem natsL_length (l:List Nat):(natsL l).length = l.length:=by simp [natsL]
theorem natsL_get {l:List Nat} {k:Nat} (h:k < l.length):(natsL l)[k]? = some [.int .i64 (nthN l k:Int)]:=by simp [natsL,h,nthN]
theorem nthN_mem {l:List Nat} {k:Nat} (h:k < l.length):nthN l k ∈ l:=by simp [nthN,h]
theorem nthS_mem {l:List Sp} {k:Nat} (h:k < l.length):nthS9 l k ∈ l:=by rw [nthS_eq h];exact List.getElem_mem h
theorem spsL_ne {l:List Sp} {k:Nat} (h:k < l.length):spsL l ≠ []:=by intro e;have:=spsL_length l;rw [e] at this;simp at this;omega
theorem natsL_ne {l:List Nat} {k:Nat} (h:k < l.length):natsL l ≠ []:=by intro e;have:=natsL_length l;rw [e] at this;simp at this;omega
def tV (l:List Sp) (o:List Nat):Nat → Int
  | 0=>0
  | k + 1=>tV l o k + (nthS9 l (nthN o k)).vl
def tL (l:List Sp) (o:List Nat):Nat → Int
  | 0=>0
  | k + 1=>tL l o k + (nthS9 l (nthN o k)).ln
structure SpOk (x:Sp):Prop where
  ln:1 ≤ x.ln ∧ x.ln ≤ 1000000
  vl:0 ≤ x.vl ∧ x.vl ≤ 1000000
theorem tV_le {l:List Sp} {o:List Nat} (hb:∀ x ∈ l,SpOk x) (ho:∀ i ∈ o,i < l.length):∀ k,k ≤ o.length → 0 ≤ tV l o k ∧ tV l o k ≤ 1000000 * k
  | 0,_=>by simp [tV]
  | k + 1, h => by
    have h1:=tV_le hb ho k (by omega)
    have h2:=(hb _ (nthS_mem (ho _ (nthN_mem (show k < o.length by omega))))).vl
    rw [tV]
    omega
theorem tL_le {l:List Sp} {o:List Nat} (hb:∀ x ∈ l,SpOk x) (ho:∀ i ∈ o,i < l.length):∀ k,k ≤ o.length → 0 ≤ tL l o k ∧ tL l o k ≤ 1000000 * k
  | 0,_=>by simp [tL]
  | k + 1, h => by
    have h1:=tL_le hb ho k (by omega)
    have h2:=(hb _ (nthS_mem (ho _ (nthN_mem (show k < o.length by omega))))).ln
    rw [tL]
    omega
theorem told9_c {n:Int} {sv cm ex ov:Value} {l:List Sp} {o:List Nat} {w:World} (h1:Rd w sv 4 (spsL l)) (h2:Rd w ov 1 (natsL o)) (hone:cm.oneCell' = true) (hone':ex.oneCell' = true) (hb:∀ x ∈ l,SpOk x) (ho:∀ i ∈ o,i < l.length) (hfew:o.length ≤ 1000) :
    GivesV Tryz.prog 35 [.agg #[.int .i64 n,sv,cm,ex],ov] w (.agg #[.int .i64 (tV l o o.length),.int .i64 (tL l o o.length)]):=by
  obtain ⟨a,cap,b,of,rfl,hcap,hmax,ha,hc⟩:=h1
  obtain ⟨a2,cap2,b2,of2,rfl,hcap2,hmax2,ha2,hc2⟩:=h2
  rw [spsL_length] at *
  rw [natsL_length] at *
  unfold maxLen at hmax hmax2
  refine givesV_of_tr Tryz.func35 rfl rfl ?_
  (refine s_r ?_;refine tr_new (rk_box (.of rfl) rfl) rfl (fun _ _=>?_);refine tr_new (rk_alloc rfl) rfl (fun _ _=>?_);refine n_r ?_;refine tr_new (rk_alloc rfl) rfl (fun _ _=>?_);refine n_t ?_;refine tr_seq ?_;refine s_r ?_;refine m_v rfl rfl ?_;refine tr_val (rk_len_slice (.of rfl)) rfl ?_;refine m_v rfl rfl ?_;refine n_t ?_;refine tr_block ?_)
  rename_i bb hbb br hbr bo hbo
  refine tr_for (ι:=Nat) (fun x=>x ≤ o.length) (fun x=>[(10,.int .i64 x),(9,.int .i64 o.length),(8,.slice a2 o.length cap2),(2,.pointer (some ⟨bb,0,none⟩)),(5,.pointer (some ⟨bo,0,none⟩)),(4,.pointer (some ⟨br,0,none⟩))])
    (fun x=>[blk bo (.cells #[.int .i64 (tV l o x),.int .i64 (tL l o x)] 52 (0,0)),blk br (.cells #[.int .i64 0,.int .i64 0] 52 (0,0)),blk bb (.cells #[.int .i64 n,.slice a l.length cap,cm,ex] 58 (0,0))]) (fun x=>o.length - x) ?_ ?_
  · apply tr_start (0:Nat) (show (fun x=>x ≤ o.length) 0 from Nat.zero_le _)
    case hs1=>exact .cons rfl (.cons rfl (.cons rfl (.cons rfl (.cons rfl (.cons rfl .nil)))))
    case ht=>
      show Takes _ [blk bo (.cells #[.int .i64 0,.int .i64 0] 52 (0,0)),blk br (.cells #[.int .i64 0,.int .i64 0] 52 (0,0)),blk bb (.cells #[.int .i64 n,.slice a l.length cap,cm,ex] 58 (0,0))] _
      exact .cons .here (.cons .here (.cons .here .nil))
  rintro k hk
  by_cases hlt:k < o.length
  · have ha2':=ha2 (natsL_ne hlt)
    have hcell2:=(hc2 k _ (natsL_get hlt)).2
    have c0:w.cell? ⟨b2,of2 + k * 1,none⟩ = some (.int .i64 (nthN o k)):=hcell2 0 _ rfl
    have hi:=ho _ (nthN_mem hlt)
    have ha':=ha (spsL_ne hi)
    have hcell:=(hc (nthN o k) _ (spsL_get hi)).2
    have hv:=(hb _ (nthS_mem hi)).vl
    have hl:=(hb _ (nthS_mem hi)).ln
    have htv:=tV_le hb ho k hk
    have htl:=tL_le hb ho k hk
    unfold Sp.cells at hcell
    have c3:w.cell? ⟨b,of + nthN o k * 4 + 3,none⟩ = some (.int .i64 (nthS9 l (nthN o k)).vl):=hcell 3 _ rfl
    have c2:w.cell? ⟨b,of + nthN o k * 4 + 2,none⟩ = some (.int .i64 (nthS9 l (nthN o k)).ln):=hcell 2 _ rfl
    have hsv:tV l o (k + 1) = tV l o k + (nthS9 l (nthN o k)).vl:=rfl
    have hsl:tL l o (k + 1) = tL l o k + (nthS9 l (nthN o k)).ln:=rfl
    (refine s_r ?_;refine tr_val (rk_lss (.of rfl) (.of rfl)) rfl ?_;refine n_t ?_;refine tr_seq ?_;refine c_d rfl (fun hcd=>?_) (fun _=>by omega);refine s_t ?_;refine tr_seq ?_;refine tr_block ?_;refine s_r ?_;refine tr_val (rk_indexAddr (.of rfl) (.of rfl) ha2' (by omega) hcd norm1_) rfl ?_;refine tr_val (rk_load1 (.of rfl) (At.base c0 rfl)) rfl ?_;refine a_s rfl rfl ?_;refine n_t ?_;refine tr_seq ?_)
    with_reducible refine tr_draw 9 (by kernel_rfl) ?_
    (refine any_val (rk_indexAddrA (.of rfl) (.of rfl) (by omega) (by omega) norm1_) rfl ?_;refine any_val (rk_load1 (.of rfl) (At.lit .here rfl)) rfl ?_;refine a_f rfl rfl norm0_ ?_;refine any_val (rk_load1 (.of rfl) (At.lit (.there (.there .here)) rfl)) rfl ?_;refine a_m rfl rfl ?_;refine any_val (rk_indexAddr (.of rfl) (.of rfl) ha' (by omega) (by omega) norm1_) rfl ?_;refine a_f rfl rfl norm0_ ?_;refine any_val (rk_load1 (.of rfl) (At.base c3 rfl)) rfl ?_;refine any_val (rk_add (.of rfl) (.of rfl) (ini (by omega))) rfl ?_)
    with_reducible refine any_end ?_
    (refine tr_val (rk_indexAddrA (.of rfl) (.of rfl) (by omega) (by omega) norm1_) rfl ?_;refine tr_store (.of rfl) (.of rfl) .here rfl rfl (okc_cons rfl okc_nil) (lenb rfl) norm_ ?_;refine n_t ?_)
    with_reducible refine tr_draw 9 (by kernel_rfl) ?_
    (refine any_val (rk_indexAddrA (.of rfl) (.of rfl) (by omega) (by omega) norm1_) rfl ?_;refine any_val (rk_load1 (.of rfl) (At.lit .here rfl)) rfl ?_;refine a_f rfl rfl norm0_ ?_;refine any_val (rk_load1 (.of rfl) (At.lit (.there (.there .here)) rfl)) rfl ?_;refine a_m rfl rfl ?_;refine any_val (rk_indexAddr (.of rfl) (.of rfl) ha' (by omega) (by omega) norm1_) rfl ?_;refine a_f rfl rfl norm0_ ?_;refine any_val (rk_load1 (.of rfl) (At.base c2 rfl)) rfl ?_;refine any_val (rk_add (.of rfl) (.of rfl) (ini (by omega))) rfl ?_)
    with_reducible refine any_end ?_
    (refine tr_val (rk_indexAddrA (.of rfl) (.of rfl) (by omega) (by omega) norm1_) rfl ?_;refine tr_store (.of rfl) (.of rfl) .here rfl rfl (okc_cons rfl okc_nil) (lenb rfl) norm_ ?_;refine tr_nil ?_;refine tr_blk_normal ?_;refine tr_then ?_;refine tr_region ?_;refine tr_val (rk_add (.of rfl) (.of rfl) (ini (by omega))) rfl ?_;refine m_v rfl rfl ?_;refine n_t ?_)
    apply tr_next (k + 1) (show k + 1 ≤ o.length by omega) (show o.length - (k + 1) < o.length - k by omega)
    case hs1=>exact .cons rfl (.cons rfl (.cons rfl (.cons rfl (.cons rfl (.cons rfl .nil)))))
    case ht=>
      show Takes _ [blk bo (.cells #[.int .i64 (tV l o k + (nthS9 l (nthN o k)).vl),.int .i64 (tL l o k + (nthS9 l (nthN o k)).ln)] 52 (0,0)),blk br (.cells #[.int .i64 0,.int .i64 0] 52 (0,0)),blk bb (.cells #[.int .i64 n,.slice a l.length cap,cm,ex] 58 (0,0))] _
      exact .cons .here (.cons .here (.cons .here .nil))
  · obtain rfl:k = o.length:=by omega
    (refine s_r ?_;refine tr_val (rk_lss (.of rfl) (.of rfl)) rfl ?_;refine n_t ?_;refine tr_seq ?_;refine c_d rfl (fun _=>by omega) (fun hcd=>?_);refine x_t ?_;refine tr_then_exit ?_;refine tr_blk_exit ?_;refine tr_then ?_;refine s_r ?_;refine tr_val (rk_loadB (.of rfl) .here norm_ (by rfl)) rfl ?_;refine tr_store (.of rfl) (.of rfl) (.there .here) rfl rfl (okc_cons rfl (okc_cons rfl okc_nil)) (lenb rfl) norm_ ?_;refine n_t ?_;refine tr_ret ?_;refine tr_retE rfl (ends1cB rfl inferInstance rfl .here norm_ (by rfl)) ?_)
    rfl
end Go.Proofs.A1
namespace Go.Proofs.A1
open Go Go.SL
theorem camp_c (n:Int) {bl c cp:Nat} {a:Option Addr} {w:World} (h:w.cell? ⟨bl,2,none⟩ = some (.slice a c cp)) (hc:c ≤ 1000000) :
    GivesV Tryz.prog 67 [.int .i64 n,.pointer (some ⟨bl,0,none⟩)] w (.int .i64 (whenF (decide (n < 0) || decide (n ≥ (c:Int))) 10)):=by
  refine givesV_of_tr Tryz.func67 rfl rfl ?_
  (refine s_r ?_;refine a_s rfl rfl ?_;refine n_r ?_;refine m_v rfl rfl ?_;refine tr_val (rk_lss (.of rfl) (.of rfl)) rfl ?_;refine m_v rfl rfl ?_;refine v_g rfl rfl rfl rfl ?_;refine tr_vG1 rfl rfl inferInstance (fun hg hgp=>(rk_fieldAddr (.of rfl) norm0_)) rfl ?_;refine tr_vG1 rfl rfl inferInstance (fun hg hgp=>(rk_load1 (.ofg hg rfl) (At.base h rfl))) rfl ?_;refine tr_vG1 rfl rfl inferInstance (fun hg hgp=>(rk_len_slice (.ofg hg rfl))) rfl ?_;refine tr_vG1 rfl rfl inferInstance (fun hg hgp=>(rk_geq (.ofg hg rfl) (.ofg hg rfl))) rfl ?_;refine tr_val (rk_pick_or (.of rfl) rfl) rfl ?_;refine tr_callV (rk_call (.of rfl) (.cons (.of rfl) (.cons (.of rfl) .nil)) inferInstance normc_) rfl (fun w' hm'=>(when9_c _ 10 w')) ?_;refine a_s rfl rfl ?_;refine n_t ?_;refine tr_ret ?_;refine tr_retE rfl (ends1 rfl rfl) ?_)
  rfl
theorem few_c (n:Int) (w:World):GivesV Tryz.prog 70 [.int .i64 n] w (.int .i64 (withinF n 0 8)):=by
  refine givesV_of_tr Tryz.func70 rfl rfl ?_
  (refine s_r ?_;refine a_s rfl rfl ?_;refine n_r ?_;refine m_v rfl rfl ?_;refine tr_callV (rk_call (.of rfl) (.cons (.of rfl) (.cons (.of rfl) (.cons (.of rfl) .nil))) inferInstance normc_) rfl (fun w' hm'=>(within9_c n 0 8 w')) ?_;refine a_s rfl rfl ?_;refine n_t ?_;refine tr_ret ?_;refine tr_retE rfl (ends1 rfl rfl) ?_)
  rfl
end Go.Proofs.A1
namespace Go.Proofs.A1
open Go Go.SL
structure Br where
  n:Int
  sp:List Sp
  cm:List Int
  ex:List (Int × Int)
def campF (m:Nat) (n:Int):Int:=whenF (decide (n < 0) || decide (n ≥ (m:Int))) 10
theorem campF_zero {m:Nat} {n:Int}:campF m n = 0 ↔ 0 ≤ n ∧ n < m:=by
  unfold campF
  rw [whenF_zero (by decide)]
  simp
def knwS (l:List Sp) (k:Nat) (s:ByteArray):Bool:=(List.range k).any fun i=>decide ((nthS9 l i).nm = s)
theorem knwS_succ (l:List Sp) (k:Nat) (s:ByteArray):knwS l (k + 1) s = (knwS l k s || decide ((nthS9 l k).nm = s)):=by
  simp [knwS,List.range_succ]
def br0 (b:Br):Int:=firstF [withinF b.n 0 100000,whenF (decide ((8:Int) < b.sp.length)) 5,whenF (decide ((8:Int) < b.cm.length)) 5,whenF (decide ((16:Int) < b.ex.length)) 5]
def spE (b:Br) (k:Nat):Int:=firstF [nmF (nthS9 b.sp k).nm,whenF (knwS b.sp k (nthS9 b.sp k).nm) 9,campF b.cm.length (nthS9 b.sp k).cp,withinF (nthS9 b.sp k).ln 1 100000,withinF (nthS9 b.sp k).vl 0 1000000]
def prE (m:Nat) (p:Int × Int):Int:=firstF [campF m p.1,campF m p.2,whenF (decide (p.1 = p.2)) 24]
def fewF (n:Int):Int:=withinF n 0 8
def brE (b:Br):Int:=firstF [br0 b,errE (spE b) b.sp.length,firstF (b.cm.map fewF),firstF (b.ex.map (prE b.cm.length))]
structure BrOk (b:Br):Prop where
  n:0 ≤ b.n ∧ b.n ≤ 100000
  few:b.sp.length ≤ 8
  cmp:b.cm.length ≤ 8
  exl:b.ex.length ≤ 16
  nm:∀ x ∈ b.sp,nameF x.nm = true
  dst:∀ k,k < b.sp.length → knwS b.sp k (nthS9 b.sp k).nm = false
  cp:∀ x ∈ b.sp,0 ≤ x.cp ∧ x.cp < b.cm.length
  ln:∀ x ∈ b.sp,1 ≤ x.ln ∧ x.ln ≤ 100000
  vl:∀ x ∈ b.sp,0 ≤ x.vl ∧ x.vl ≤ 1000000
  cm:∀ c ∈ b.cm,0 ≤ c ∧ c ≤ 8
  ex:∀ p ∈ b.ex,(0 ≤ p.1 ∧ p.1 < b.cm.length) ∧ (0 ≤ p.2 ∧ p.2 < b.cm.length) ∧ p.1 ≠ p.2
theorem BrOk.of {b:Br} (h:brE b = 0):BrOk b:=by
  unfold brE at h
  rw [firstF_zero] at h
  simp only [List.mem_cons,List.not_mem_nil,or_false,forall_eq_or_imp,forall_eq] at h
  obtain ⟨h0,h1,h2,h3⟩:=h
  unfold br0 at h0
  rw [firstF_zero] at h0
  simp only [List.mem_cons,List.not_mem_nil,or_false,forall_eq_or_imp,forall_eq,withinF_zero] at h0
  rw [whenF_zero (by decide),whenF_zero (by decide),whenF_zero (by decide)] at h0
  simp only [decide_eq_false_iff_not] at h0
  rw [errE_ok] at h1
  have hs:∀ k,k < b.sp.length → nameF (nthS9 b.sp k).nm = true ∧ knwS b.sp k (nthS9 b.sp k).nm = false ∧ (0 ≤ (nthS9 b.sp k).cp ∧ (nthS9 b.sp k).cp < b.cm.length) ∧ (1 ≤ (nthS9 b.sp k).ln ∧ (nthS9 b.sp k).ln ≤ 100000) ∧ (0 ≤ (nthS9 b.sp k).vl ∧ (nthS9 b.sp k).vl ≤ 1000000):=by
    intro k hk
    have:=h1 k hk
    unfold spE at this
    rw [firstF_zero] at this
    simp only [List.mem_cons,List.not_mem_nil,or_false,forall_eq_or_imp,forall_eq,withinF_zero,nmF,campF_zero] at this
    rw [whenF_zero (by decide),whenF_zero (by decide)] at this
    simpa using this
  have hm:∀ x ∈ b.sp,∃ k,k < b.sp.length ∧ nthS9 b.sp k = x:=by
    intro x hx
    obtain ⟨k,hk,rfl⟩:=List.getElem_of_mem hx
    exact ⟨k,hk,nthS_eq hk⟩
  refine ⟨h0.1,by omega,by omega,by omega,?_,fun k hk=>(hs k hk).2.1,?_,?_,?_,?_,?_⟩
  · intro x hx;obtain ⟨k,hk,rfl⟩:=hm x hx;exact (hs k hk).1
  · intro x hx;obtain ⟨k,hk,rfl⟩:=hm x hx;exact (hs k hk).2.2.1
  · intro x hx;obtain ⟨k,hk,rfl⟩:=hm x hx;exact (hs k hk).2.2.2.1
  · intro x hx;obtain ⟨k,hk,rfl⟩:=hm x hx;exact (hs k hk).2.2.2.2
  · intro c hc
    have:=firstF_zero.1 h2 _ (List.mem_map.2 ⟨c,hc,rfl⟩)
    exact withinF_zero.1 this
  · intro p hp
    have:=firstF_zero.1 h3 _ (List.mem_map.2 ⟨p,hp,rfl⟩)
    unfold prE at this
    rw [firstF_zero] at this
    simp only [List.mem_cons,List.not_mem_nil,or_false,forall_eq_or_imp,forall_eq,campF_zero] at this
    rw [whenF_zero (by decide)] at this
    simpa using this
theorem BrOk.spOk {b:Br} (h:BrOk b):∀ x ∈ b.sp,SpOk x:=fun x hx=>⟨by have:=h.ln x hx;omega,by have:=h.vl x hx;omega⟩
def cpO (b:Br) (o:List Nat) (k:Nat):Int:=(nthS9 b.sp (nthN o k)).cp
def lastO (b:Br) (o:List Nat):Nat → Int
  | 0=>-1
  | k + 1=>cpO b o k
def cntO (b:Br) (o:List Nat) (c:Int):Nat → Int
  | 0=>0
  | k + 1=>cntO b o c k + if cpO b o k = c then 1 else 0
def cmO (b:Br) (c:Int):Int:=b.cm.getD c.toNat 0
def badO (b:Br) (o:List Nat) (k:Nat):Bool:=decide (cpO b o k = lastO b o k) || decide (cmO b (cpO b o k) < cntO b o (cpO b o k) (k + 1))
def exclB (b:Br) (c d:Int):Bool:=b.ex.any fun p=>(decide (p.1 = c) && decide (p.2 = d)) || (decide (p.1 = d) && decide (p.2 = c))
def exclO (b:Br) (o:List Nat):Bool:=(List.range o.length).any fun i=>(List.range o.length).any fun j=>exclB b (cpO b o i) (cpO b o j)
def fitE (b:Br) (o:List Nat):Int:=if (List.range o.length).any (badO b o) then 21 else if exclO b o then 21 else whenF (decide (b.n < tL b.sp o o.length)) 26
theorem cntO_in (b:Br) (o:List Nat) (c:Int):∀ k,0 ≤ cntO b o c k ∧ cntO b o c k ≤ k
  | 0=>by simp [cntO]
  | k + 1 => by
    have:=cntO_in b o c k
    rw [cntO]
    split <;> omega
def ordE (b:Br) (o:List Int) (k:Nat):Int:=firstF [whenF (decide (o.getD k 0 < 0) || decide (o.getD k 0 ≥ (b.sp.length:Int))) 10,whenF ((o.take k).contains (o.getD k 0)) 9]
def orderE (b:Br) (o:List Int):Int:=if 8 < o.length then 5 else if errE (ordE b o) o.length ≠ 0 then errE (ordE b o) o.length else fitE b (o.map Int.toNat)
def fillsF (b:Br):Nat → List Nat → List (List Nat)
  | 0,o=>if fitE b o ≠ 0 then [] else [o]
  | f + 1,o=>if fitE b o ≠ 0 then [] else o :: (List.range b.sp.length).flatMap fun i=>if o.contains i then [] else fillsF b f (o++[i])
def subF (b:Br) (f:Nat) (o:List Nat) (n:Nat):List (List Nat):=(List.range n).flatMap fun i=>if o.contains i then [] else fillsF b f (o++[i])
theorem subF_succ (b:Br) (f:Nat) (o:List Nat) (n:Nat):subF b f o (n + 1) = subF b f o n++if o.contains n then [] else fillsF b f (o++[n]):=by
  simp [subF,List.range_succ]
theorem fillsF_bad {b:Br} {f:Nat} {o:List Nat} (h:fitE b o ≠ 0):fillsF b f o = []:=by
  cases f <;> rw [fillsF,if_pos h]
structure Dif (n:Nat) (o:List Nat):Prop where
  nd:o.Nodup
  lt:∀ i ∈ o,i < n
theorem Dif.nil (n:Nat):Dif n []:=⟨List.nodup_nil,by simp⟩
theorem Dif.snoc {n i:Nat} {o:List Nat} (h:Dif n o) (hi:i < n) (hn:o.contains i = false):Dif n (o++[i]):=by
  have hn':i ∉ o:=by simpa using hn
  refine ⟨List.nodup_append.2 ⟨h.nd,by simp,?_⟩,?_⟩
  · intro a ha b hb e
    simp only [List.mem_singleton] at hb
    subst hb e
    exact hn' ha
  · intro j hj
    rcases List.mem_append.1 hj with hj | hj
    · exact h.lt j hj
    · simp only [List.mem_singleton] at hj;omega
theorem Dif.len:∀ {n:Nat} {o:List Nat},Dif n o → o.length ≤ n
  | 0, o, h => by
    cases o with
    | nil=>simp
    | cons x r=>have:=h.lt x (by simp);omega
  | n + 1, o, h => by
    have h2:Dif n (o.filter (fun i=>decide (i ≠ n))):=by
      refine ⟨h.nd.filter _,fun i hi=>?_⟩
      rw [List.mem_filter] at hi
      have:=h.lt i hi.1
      have h3:=hi.2
      simp only [ne_eq,decide_eq_true_eq] at h3
      omega
    have h3:=Dif.len h2
    have h4:o.length ≤ (o.filter (fun i=>decide (i ≠ n))).length + 1:=by
      have hc:o.countP (fun i=>decide (i ≠ n)) + o.countP (fun i=>!decide (i ≠ n)) = o.length:=by
        have:=List.length_eq_countP_add_countP (fun i=>decide (i ≠ n)) (l:=o)
        rw [this]
        congr 1
        apply List.countP_congr
        intro x _;simp
      have h5:o.countP (fun i=>!decide (i ≠ n)) ≤ 1:=by
        have:=List.nodup_iff_count.1 h.nd n
        rw [List.count] at this
        refine Nat.le_trans (Nat.le_of_eq ?_) this
        apply List.countP_congr
        intro x _
        simp
      rw [← List.countP_eq_length_filter]
      omega
    omega
def betterB (b:Br) (x y:List Nat):Bool:=decide (tV b.sp y y.length < tV b.sp x x.length) || (decide (tV b.sp x x.length = tV b.sp y y.length) && decide (tL b.sp y y.length < tL b.sp x x.length))
def bestF (b:Br) (l:List (List Nat)):List Nat:=l.foldl (fun y x=>if betterB b x y then x else y) []
def fillF (b:Br):List Nat:=bestF b (fillsF b b.sp.length [])
end Go.Proofs.A1
namespace Go.Proofs.A1
open Go Go.SL
theorem mapInt {lv fv:Value} {rows:List (List Value)} {f:FuncId} {first cap:List Value} [Bod Tryz.prog f] {img:List Int} {w:World} (h:Rd w lv 1 rows) (hfv:fv = .func (.func f) first.toArray cap.toArray) (hl:img.length = rows.length) (hn:rows.length ≤ 1000000) (h1c:∀ r ∈ rows,∀ u ∈ r,u.oneCell' = true)
    (hcall:∀ (i:Nat) (r:List Value) (e:Int),rows[i]? = some r → img[i]? = some e → ∀ w',Keeps [] w w' → GivesV Tryz.prog f (first++r++cap) w' (.int .i64 e)) :
    Gives Tryz.prog 69 [lv,fv] w [] (fun _:Value=>True) id (fun v=>[row 53 1 v rows.length (img.map (.int .i64))]):=by
  subst hfv
  obtain ⟨a,cp,b,o,rfl,hcap,hmax,ha,hc⟩:=h
  unfold maxLen at hmax
  refine gives_of_tr Tryz.func69 rfl rfl ?_
  (refine s_r ?_;refine a_s rfl rfl ?_;refine n_r ?_;refine a_s rfl rfl ?_;refine n_t ?_;refine tr_seq ?_;refine s_r ?_;refine m_v rfl rfl ?_;refine tr_val (rk_len_slice (.of rfl)) rfl ?_;refine m_v rfl rfl ?_;refine n_t ?_;refine tr_block ?_)
  refine tr_rowNil 53 1 ?_
  refine tr_for (ι:=Nat × Value) (fun x=>x.1 ≤ rows.length) (fun x=>[(10,.int .i64 x.1),(9,.int .i64 rows.length),(8,.slice a rows.length cp),(5,x.2),(1,.func (.func f) first.toArray cap.toArray)]) (fun x=>[row 53 1 x.2 x.1 ((img.take x.1).map (.int .i64))]) (fun x=>rows.length - x.1) ?_ ?_
  · apply tr_start (0,.slice none 0 0) (Nat.zero_le _)
    case hs1=>exact .cons rfl (.cons rfl (.cons rfl (.cons rfl (.cons rfl .nil))))
    case ht=>(try simp only [List.take_zero,List.map_nil,List.nil_append]);exact .cons .here .nil
  rintro ⟨k,v⟩ hk
  dsimp only at hk ⊢
  by_cases hlt:k < rows.length
  · have ha':=ha (by intro e;rw [e] at hlt;simp at hlt)
    have hget:rows[k]? = some rows[k]:=List.getElem?_eq_getElem hlt
    have hcell:=(hc k _ hget).2
    have hlen:=(hc k _ hget).1
    have himg:img[k]? = some (img[k]'(by omega)):=List.getElem?_eq_getElem (by omega)
    have hone:=h1c _ (List.getElem_mem hlt)
    have hcl:=hcall k _ _ hget himg
    obtain ⟨x0,hx⟩:∃ x0,rows[k] = [x0]:=by
      match hr:rows[k],hlen with
      | [x0],_=>exact ⟨x0,rfl⟩
    rw [hx] at hcell hone hcl
    have o0_:=hone x0 (by simp)
    have c0:w.cell? ⟨b,o + k * 1,none⟩ = some x0:=hcell 0 _ rfl
    (refine s_r ?_;refine tr_val (rk_lss (.of rfl) (.of rfl)) rfl ?_;refine n_t ?_;refine tr_seq ?_;refine c_d rfl (fun hcd=>?_) (fun _=>by omega);refine s_t ?_;refine tr_seq ?_;refine tr_block ?_;refine s_r ?_;refine tr_val (rk_indexAddr (.of rfl) (.of rfl) ha' (by omega) hcd norm1_) rfl ?_;refine tr_val (rk_load1 (.of rfl) (At.base c0 rfl)) rfl ?_;refine a_s rfl rfl ?_;refine n_t ?_;refine tr_region ?_;refine m_v rfl rfl ?_;refine m_v rfl rfl ?_;refine m_v rfl rfl ?_)
    refine tr_callV (rk_call (.of rfl) (.cons (.of rfl) .nil) inferInstance normc_) rfl (fun w' hm'=>(hcl w' (Mem.keeps hm'))) ?_
    refine tr_new (rk_sliceLit (.cons (.of rfl) .nil) rfl rfl rfl rfl) rfl (fun _ _=>?_)
    refine tr_appendB (.of rfl) (.of rfl) (.there .here) .here norm_ (by rfl) (okc_cons rfl okc_nil) (by rfl) (by rfl) (by rfl) lenx_ (by rfl) ?_
    intro v'
    (refine a_s rfl rfl ?_;refine tr_nil ?_;refine tr_blk_normal ?_;refine tr_then ?_;refine tr_region ?_;refine tr_val (rk_add (.of rfl) (.of rfl) (ini (by omega))) rfl ?_;refine m_v rfl rfl ?_;refine n_t ?_)
    have ht1:(img.take (k + 1)).map (Value.int .i64) = (img.take k).map (Value.int .i64)++[Value.int .i64 (img[k]'(by omega))]:=by
      rw [List.take_add_one,himg,List.map_append];rfl
    apply tr_next (k + 1,v') (by show k + 1 ≤ rows.length;omega) (by show rows.length - (k + 1) < rows.length - k;omega)
    case hs1=>exact .cons rfl (.cons rfl (.cons rfl (.cons rfl (.cons rfl .nil))))
    case ht=>
      show Takes _ [row 53 1 v' (k + 1) ((img.take (k + 1)).map (Value.int .i64))] _
      rw [ht1]
      exact .cons .here .nil
  · have:k = rows.length:=by omega
    subst this
    rw [List.take_of_length_le (by omega)]
    (refine s_r ?_;refine tr_val (rk_lss (.of rfl) (.of rfl)) rfl ?_;refine n_t ?_;refine tr_seq ?_;refine c_d rfl (fun _=>by omega) (fun hcd=>?_);refine x_t ?_;refine tr_then_exit ?_;refine tr_blk_exit ?_;refine tr_then ?_;refine s_r ?_;refine m_v rfl rfl ?_;refine a_s rfl rfl ?_;refine n_t ?_;refine tr_ret ?_)
    first | with_reducible apply tr_retM | with_reducible apply tr_endM
    case he=>exact ends1 rfl rfl
    case hR=>
      intro w' hm'
      exact gives_end v trivial (by exact .cons .here .nil) hm' rfl
theorem mapPr {lv fv:Value} {rows:List (List Value)} {f:FuncId} {first cap:List Value} [Bod Tryz.prog f] {img:List Int} {w:World} (h:Rd w lv 2 rows) (hfv:fv = .func (.func f) first.toArray cap.toArray) (hl:img.length = rows.length) (hn:rows.length ≤ 1000000) (h1c:∀ r ∈ rows,∀ u ∈ r,u.oneCell' = true)
    (hcall:∀ (i:Nat) (r:List Value) (e:Int),rows[i]? = some r → img[i]? = some e → ∀ w',Keeps [] w w' → GivesV Tryz.prog f (first++[.agg r.toArray]++cap) w' (.int .i64 e)) :
    Gives Tryz.prog 71 [lv,fv] w [] (fun _:Value=>True) id (fun v=>[row 53 1 v rows.length (img.map (.int .i64))]):=by
  subst hfv
  obtain ⟨a,cp,b,o,rfl,hcap,hmax,ha,hc⟩:=h
  unfold maxLen at hmax
  refine gives_of_tr Tryz.func71 rfl rfl ?_
  (refine s_r ?_;refine a_s rfl rfl ?_;refine n_r ?_;refine a_s rfl rfl ?_;refine n_t ?_;refine tr_seq ?_;refine s_r ?_;refine m_v rfl rfl ?_;refine tr_val (rk_len_slice (.of rfl)) rfl ?_;refine m_v rfl rfl ?_;refine n_t ?_;refine tr_block ?_)
  refine tr_rowNil 53 1 ?_
  refine tr_for (ι:=Nat × Value) (fun x=>x.1 ≤ rows.length) (fun x=>[(10,.int .i64 x.1),(9,.int .i64 rows.length),(8,.slice a rows.length cp),(5,x.2),(1,.func (.func f) first.toArray cap.toArray)]) (fun x=>[row 53 1 x.2 x.1 ((img.take x.1).map (.int .i64))]) (fun x=>rows.length - x.1) ?_ ?_
  · apply tr_start (0,.slice none 0 0) (Nat.zero_le _)
    case hs1=>exact .cons rfl (.cons rfl (.cons rfl (.cons rfl (.cons rfl .nil))))
    case ht=>(try simp only [List.take_zero,List.map_nil,List.nil_append]);exact .cons .here .nil
  rintro ⟨k,v⟩ hk
  dsimp only at hk ⊢
  by_cases hlt:k < rows.length
  · have ha':=ha (by intro e;rw [e] at hlt;simp at hlt)
    have hget:rows[k]? = some rows[k]:=List.getElem?_eq_getElem hlt
    have hcell:=(hc k _ hget).2
    have hlen:=(hc k _ hget).1
    have himg:img[k]? = some (img[k]'(by omega)):=List.getElem?_eq_getElem (by omega)
    have hone:=h1c _ (List.getElem_mem hlt)
    have hcl:=hcall k _ _ hget himg
    obtain ⟨x0,x1,hx⟩:∃ x0 x1,rows[k] = [x0,x1]:=by
      match hr:rows[k],hlen with
      | [x0,x1],_=>exact ⟨x0,x1,rfl⟩
    rw [hx] at hcell hone hcl
    have o0_:=hone x0 (by simp)
    have o1_:=hone x1 (by simp)
    (refine s_r ?_;refine tr_val (rk_lss (.of rfl) (.of rfl)) rfl ?_;refine n_t ?_;refine tr_seq ?_;refine c_d rfl (fun hcd=>?_) (fun _=>by omega);refine s_t ?_;refine tr_seq ?_;refine tr_block ?_;refine s_r ?_;refine tr_val (rk_indexAddr (.of rfl) (.of rfl) ha' (by omega) hcd norm1_) rfl ?_;refine tr_val (rk_loadN (.of rfl) (Ats.base hcell rfl) rfl) rfl ?_;refine tr_new (rk_alloc rfl) rfl (fun _ _=>?_);refine tr_store (.of rfl) (.of rfl) .here rfl rfl (okc_cons o0_ (okc_cons o1_ okc_nil)) (lenb rfl) norm_ ?_;refine n_t ?_;refine tr_region ?_;refine m_v rfl rfl ?_;refine m_v rfl rfl ?_;refine tr_val (rk_loadB (.of rfl) .here norm_ (by rfl)) rfl ?_)
    refine tr_callV (rk_call (.of rfl) (.cons (.of rfl) .nil) inferInstance normc_) rfl (fun w' hm'=>(hcl w' (Mem.keeps hm'))) ?_
    refine tr_new (rk_sliceLit (.cons (.of rfl) .nil) rfl rfl rfl rfl) rfl (fun _ _=>?_)
    refine tr_appendB (.of rfl) (.of rfl) (.there (.there .here)) .here norm_ (by rfl) (okc_cons rfl okc_nil) (by rfl) (by rfl) (by rfl) lenx_ (by rfl) ?_
    intro v'
    (refine a_s rfl rfl ?_;refine tr_nil ?_;refine tr_blk_normal ?_;refine tr_then ?_;refine tr_region ?_;refine tr_val (rk_add (.of rfl) (.of rfl) (ini (by omega))) rfl ?_;refine m_v rfl rfl ?_;refine n_t ?_)
    have ht1:(img.take (k + 1)).map (Value.int .i64) = (img.take k).map (Value.int .i64)++[Value.int .i64 (img[k]'(by omega))]:=by
      rw [List.take_add_one,himg,List.map_append];rfl
    apply tr_next (k + 1,v') (by show k + 1 ≤ rows.length;omega) (by show rows.length - (k + 1) < rows.length - k;omega)
    case hs1=>exact .cons rfl (.cons rfl (.cons rfl (.cons rfl (.cons rfl .nil))))
    case ht=>
      show Takes _ [row 53 1 v' (k + 1) ((img.take (k + 1)).map (Value.int .i64))] _
      rw [ht1]
      exact .cons .here .nil
  · have:k = rows.length:=by omega
    subst this
    rw [List.take_of_length_le (by omega)]
    (refine s_r ?_;refine tr_val (rk_lss (.of rfl) (.of rfl)) rfl ?_;refine n_t ?_;refine tr_seq ?_;refine c_d rfl (fun _=>by omega) (fun hcd=>?_);refine x_t ?_;refine tr_then_exit ?_;refine tr_blk_exit ?_;refine tr_then ?_;refine s_r ?_;refine m_v rfl rfl ?_;refine a_s rfl rfl ?_;refine n_t ?_;refine tr_ret ?_)
    first | with_reducible apply tr_retM | with_reducible apply tr_endM
    case he=>exact ends1 rfl rfl
    case hR=>
      intro w' hm'
      exact gives_end v trivial (by exact .cons .here .nil) hm' rfl
def prV (p:Int × Int):List Value:=[.int .i64 p.1,.int .i64 p.2]
def prsL (l:List (Int × Int)):List (List Value):=l.map prV
theorem prsL_length (l:List (Int × Int)):(prsL l).length = l.length:=by simp [prsL]
theorem prsL_one (l:List (Int × Int)):∀ r ∈ prsL l,∀ u ∈ r,u.oneCell' = true:=by
  intro r hr
  obtain ⟨x,_,rfl⟩:=List.mem_map.1 hr
  unfold prV
  exact okc_cons rfl (okc_cons rfl okc_nil)
theorem ints_one (l:List Int):∀ r ∈ ints l,∀ u ∈ r,u.oneCell' = true:=by
  intro r hr
  obtain ⟨x,_,rfl⟩:=List.mem_map.1 hr
  exact okc_cons rfl okc_nil
theorem pr_eq (a b:Int):(decide (a = b) && (decide (b = a) && true)) = decide (a = b):=by
  by_cases h:a = b
  · subst h;simp
  · simp [h]
theorem prC_c (p:Int × Int) {bl bc c cp:Nat} {a:Option Addr} {w:World} (h1:w.cell? ⟨bc,0,none⟩ = some (.func (.func 67) #[] #[.pointer (some ⟨bl,0,none⟩)])) (h2:w.cell? ⟨bl,2,none⟩ = some (.slice a c cp)) (hc:c ≤ 1000000) :
    GivesV Tryz.prog 72 [.agg (prV p).toArray,.pointer (some ⟨bc,0,none⟩)] w (.int .i64 (prE c p)):=by
  unfold prV
  refine givesV_of_tr Tryz.func72 rfl rfl ?_
  (refine s_r ?_;refine tr_new (rk_box (.of rfl) rfl) rfl (fun _ _=>?_);refine a_s rfl rfl ?_;refine n_t ?_;refine tr_seq ?_)
  with_reducible refine tr_draw 16 (by kernel_rfl) ?_
  (refine any_val (rk_load1 (.of rfl) (At.base h1 rfl)) rfl ?_;refine any_val (rk_indexAddrA (.of rfl) (.of rfl) (by omega) (by omega) norm1_) rfl ?_;refine any_val (rk_load1 (.of rfl) (At.lit .here rfl)) rfl ?_;refine any_call (rk_call (.of rfl) (.cons (.of rfl) .nil) inferInstance normc_) rfl (fun w' hm'=>(camp_c _ (cell_keeps h2 rfl (Mem.keeps hm')) hc)) ?_;refine any_val (rk_load1 (.of rfl) (At.base h1 rfl)) rfl ?_;refine any_val (rk_indexAddrA (.of rfl) (.of rfl) (by omega) (by omega) norm1_) rfl ?_;refine any_val (rk_load1 (.of rfl) (At.lit .here rfl)) rfl ?_;refine any_call (rk_call (.of rfl) (.cons (.of rfl) .nil) inferInstance normc_) rfl (fun w' hm'=>(camp_c _ (cell_keeps h2 rfl (Mem.keeps hm')) hc)) ?_;refine any_val (rk_loadB (.of rfl) .here norm_ (by rfl)) rfl ?_;refine any_val (rk_indexAddrA (.of rfl) (.of rfl) (by omega) (by omega) norm1_) rfl ?_;refine any_val (rk_load1 (.of rfl) (At.lit .here rfl)) rfl ?_;refine any_val (rk_indexAddrA (.of rfl) (.of rfl) (by omega) (by omega) norm1_) rfl ?_;refine any_val (rk_load1 (.of rfl) (At.lit .here rfl)) rfl ?_;refine any_val (rk_buildL (.cons (.of rfl) (.cons (.of rfl) .nil)) norm_) rfl ?_;refine any_val (rk_eqlA (.of rfl) (.of rfl) (okL_int (okL_int okL_nil)) rfl) rfl ?_;refine any_call (rk_call (.of rfl) (.cons (.of rfl) (.cons (.of rfl) .nil)) inferInstance normc_) rfl (fun w' hm'=>(when9_c _ 24 w')) ?_)
  with_reducible refine any_end ?_
  (refine tr_new (rk_sliceLit (.cons (.of rfl) (.cons (.of rfl) (.cons (.of rfl) .nil))) rfl rfl rfl rfl) rfl (fun _ _=>?_);refine tr_callV (rk_call (.of rfl) (.cons (.of rfl) .nil) inferInstance normc_) rfl (fun w' hm'=>(first_pB9 (Mem.rdBlk hm' .here rfl rfl) (IntL.cons (IntL.cons (IntL.cons IntL.nil))))) ?_;refine a_s rfl rfl ?_;refine n_t ?_;refine tr_ret ?_;refine tr_retE rfl (ends1 rfl rfl) ?_)
  rw [prE,pr_eq]
  rfl
end Go.Proofs.A1
namespace Go.Proofs.A1
open Go Go.SL
theorem bt_ofNat {s:ByteArray} {i:Nat} (h:i < s.data.toList.length):UInt8.ofNat (bt s i).toNat = s.data.toList[i]:=by
  unfold bt
  rw [List.getElem?_eq_getElem h,Option.getD_some,Int.toNat_natCast]
  exact UInt8.ofNat_toNat
theorem strB_all (s:ByteArray):strB ((List.range s.size).map (bt s)) = s:=by
  apply ByteArray.ext
  apply Array.ext'
  show ((List.range s.size).map (bt s)).map _ = s.data.toList
  have hl:s.data.toList.length = s.size:=rfl
  refine List.ext_getElem (by simp [hl]) fun i h1 h2=>?_
  rw [List.getElem_map,List.getElem_map,List.getElem_range]
  exact bt_ofNat h2
end Go.Proofs.A1
