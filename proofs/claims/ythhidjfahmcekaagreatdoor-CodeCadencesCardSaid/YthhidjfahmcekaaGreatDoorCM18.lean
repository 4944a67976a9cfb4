/- Parts of the proof: U36 U37 U38. -/
import Derived.Test.YthhidjfahmcekaaGreatDoorCM16
import Derived.Test.YthhidjfahmcekaaGreatDoorCM17
import Derived.Test.YthhidjfahmcekaaGreatDoorCM06
set_option linter.unusedSectionVars false
set_option linter.unusedVariables false
set_option linter.unusedSimpArgs false
namespace Go.Proofs.A1
open Go Go.SL
theorem intsV_c {lv:Value} {l:List Int} {w:World} (h:Rd w lv 1 (intg l)) (hl:l.length ≤ 5000) :
    Gives Tryz.prog 43 [lv] w [] (fun _:Value=>True) id (fun v=>[row 3 1 v l.length (intgV l)]):=by
  refine gives_of_tr Tryz.func43 rfl rfl ?_
  (refine s_r ?_;refine a_s rfl rfl ?_;refine n_r ?_;refine tr_new (rk_sliceLit .nil rfl rfl rfl rfl) rfl (fun _ _=>?_);refine m_v rfl rfl ?_)
  rename_i bq hbq
  refine tr_rowLitE (g:=bq) (E:=3) (ys:=[]) 0 1 (by exact .here) rfl rfl rfl ?_
  skip
  with_reducible apply tr_appendR
  case hx=>exact Is.of rfl
  case hy=>exact Is.of rfl
  case ht=>exact .here
  case hsrc=>exact fun w' hm'=>h.keeps hm'.keeps
  case h1=>exact intg_one l
  case hz=>exact rfl
  case hsz=>exact rfl
  case hb0=>exact rfl
  case hb=>rw [intg_length];omega
  case hd=>rfl
  intro v'
  rw [intg_length,Nat.zero_add,List.nil_append,← intg_flat]
  (refine a_s rfl rfl ?_;refine n_t ?_;refine tr_ret ?_)
  first | with_reducible apply tr_retM | with_reducible apply tr_endM
  case he=>exact ends1 rfl rfl
  case hR=>
    intro w' hm'
    exact gives_end v' trivial (show Takes _ [row 3 1 v' l.length (intgV l)] _ by exact .cons .here .nil) hm' rfl
theorem prsV_c {lv:Value} {l:List (Int × Int)} {w:World} (h:Rd w lv 2 (dus l)) (hl:l.length ≤ 5000) :
    Gives Tryz.prog 45 [lv] w [] (fun _:Value=>True) id (fun v=>[row 95 2 v l.length (dusV l)]):=by
  refine gives_of_tr Tryz.func45 rfl rfl ?_
  (refine s_r ?_;refine a_s rfl rfl ?_;refine n_r ?_)
  with_reducible apply tr_new
  case hr=>exact rk_build0
  case hd=>rfl
  intro bq hbq
  refine m_v rfl rfl ?_
  refine tr_rowLitE (g:=bq) (E:=95) (ys:=[]) 0 2 (by exact .here) rfl rfl rfl ?_
  skip
  with_reducible apply tr_appendR
  case hx=>exact Is.of rfl
  case hy=>exact Is.of rfl
  case ht=>exact .here
  case hsrc=>exact fun w' hm'=>h.keeps hm'.keeps
  case h1=>exact dus_one l
  case hz=>exact rfl
  case hsz=>exact rfl
  case hb0=>exact rfl
  case hb=>rw [dus_length];omega
  case hd=>rfl
  intro v'
  rw [dus_length,Nat.zero_add,List.nil_append,← dus_flat]
  (refine a_s rfl rfl ?_;refine n_t ?_;refine tr_ret ?_)
  first | with_reducible apply tr_retM | with_reducible apply tr_endM
  case he=>exact ends1 rfl rfl
  case hR=>
    intro w' hm'
    exact gives_end v' trivial (show Takes _ [row 95 2 v' l.length (dusV l)] _ by exact .cons .here .nil) hm' rfl
theorem cd_at {l:List Int} {k:Nat} (h:k < l.length):firstF ((l.drop k).map fun n=>withinF n 1 4) = if withinF l[k] 1 4 ≠ 0 then withinF l[k] 1 4 else firstF ((l.drop (k + 1)).map fun n=>withinF n 1 4):=by
  rw [List.drop_eq_getElem_cons h,List.map_cons]
  by_cases h0:withinF l[k] 1 4 = 0 <;> simp [firstF,h0]
theorem cadQ_c {sv:Value} {l:List Int} {w:World} (h:Rd w sv 1 (intg l)):GivesV Tryz.prog 46 [sv] w (.int .i64 (cdE l)):=by
  obtain ⟨a,cp,b,o,rfl,hcap,hmax,ha,hc⟩:=h
  rw [intg_length] at *
  unfold maxLen at hmax
  unfold cdE
  refine givesV_of_tr Tryz.func46 rfl rfl ?_
  by_cases h0:l.length = 0
  · rw [if_pos h0]
    (refine s_r ?_;refine a_s rfl rfl ?_;refine n_t ?_;refine tr_seq ?_;refine s_r ?_;refine m_v rfl rfl ?_;refine tr_val (rk_len_slice (.of rfl)) rfl ?_;refine tr_val (rk_eql (.of rfl) (.of rfl)) rfl ?_;refine n_t ?_;refine c_d rfl (fun hcd=>?_) (fun _=>by omega);refine s_r ?_;refine a_s rfl rfl ?_;refine n_t ?_;refine r_t ?_;refine tr_retE rfl (ends1 rfl rfl) ?_)
    rfl
  · rw [if_neg h0]
    by_cases h8:8 < l.length
    · rw [if_pos h8]
      (refine s_r ?_;refine a_s rfl rfl ?_;refine n_t ?_;refine tr_seq ?_;refine s_r ?_;refine m_v rfl rfl ?_;refine tr_val (rk_len_slice (.of rfl)) rfl ?_;refine tr_val (rk_eql (.of rfl) (.of rfl)) rfl ?_;refine n_t ?_;refine c_d rfl (fun _=>by omega) (fun hcd=>?_);refine s_t ?_;refine tr_seq ?_;refine s_r ?_;refine m_v rfl rfl ?_;refine tr_val (rk_len_slice (.of rfl)) rfl ?_;refine tr_val (rk_gtr (.of rfl) (.of rfl)) rfl ?_;refine n_t ?_;refine c_d rfl (fun hcd=>?_) (fun _=>by omega);refine s_r ?_;refine a_s rfl rfl ?_;refine n_t ?_;refine r_t ?_;refine tr_retE rfl (ends1 rfl rfl) ?_)
      rfl
    · rw [if_neg h8]
      (refine s_r ?_;refine a_s rfl rfl ?_;refine n_t ?_;refine tr_seq ?_;refine s_r ?_;refine m_v rfl rfl ?_;refine tr_val (rk_len_slice (.of rfl)) rfl ?_;refine tr_val (rk_eql (.of rfl) (.of rfl)) rfl ?_;refine n_t ?_;refine c_d rfl (fun _=>by omega) (fun hcd=>?_);refine s_t ?_;refine tr_seq ?_;refine s_r ?_;refine m_v rfl rfl ?_;refine tr_val (rk_len_slice (.of rfl)) rfl ?_;refine tr_val (rk_gtr (.of rfl) (.of rfl)) rfl ?_;refine n_t ?_;refine c_d rfl (fun _=>by omega) (fun hcd=>?_);refine s_t ?_;refine tr_seq ?_;refine s_r ?_;refine a_s rfl rfl ?_;refine n_t ?_;refine tr_block ?_)
      refine tr_for (fun k:Nat=>k ≤ l.length ∧ firstF (l.map fun n=>withinF n 1 4) = firstF ((l.drop k).map fun n=>withinF n 1 4)) (fun k=>[(3,.int .i64 k),(0,.slice a l.length cp)]) (fun _=>[]) (fun k=>l.length - k) ?_ ?_
      · apply tr_start 0 ⟨Nat.zero_le _,rfl⟩
        case hs1=>exact .cons rfl (.cons rfl .nil)
        case ht=>(try simp only [List.take_zero,List.map_nil,List.nil_append]);exact .nil
      rintro k ⟨hk,hf⟩
      by_cases hlt:k < l.length
      · have ha':=ha (intg_ne hlt)
        have c0:w.cell? ⟨b,o + k * 1,none⟩ = some (.int .i64 l[k]):=(hc k _ (intg_get hlt)).2 0 _ rfl
        have hs:=cd_at hlt
        (refine tr_seq ?_;refine s_r ?_;refine m_v rfl rfl ?_;refine m_v rfl rfl ?_;refine tr_val (rk_len_slice (.of rfl)) rfl ?_;refine tr_val (rk_lss (.of rfl) (.of rfl)) rfl ?_;refine n_t ?_;refine c_d rfl (fun hcd=>?_) (fun _=>by omega);refine s_t ?_;refine tr_seq ?_;refine tr_block ?_;refine s_r ?_;refine m_v rfl rfl ?_;refine m_v rfl rfl ?_;refine tr_val (rk_indexAddr (.of rfl) (.of rfl) ha' (by omega) hcd norm1_) rfl ?_;refine tr_val (rk_load1 (.of rfl) (At.base c0 rfl)) rfl ?_;refine tr_callV (rk_call (.of rfl) (.cons (.of rfl) (.cons (.of rfl) (.cons (.of rfl) .nil))) inferInstance normc_) rfl (fun w' hm'=>(range_q _ 1 4 w')) ?_;refine a_s rfl rfl ?_;refine n_r ?_;refine m_v rfl rfl ?_;refine tr_val (rk_neq (.of rfl) (.of rfl)) rfl ?_;refine n_t ?_;refine c_d rfl (fun hcd=>?_) (fun hcd=>?_);refine s_r ?_;refine m_v rfl rfl ?_;refine a_s rfl rfl ?_;refine n_t ?_;refine tr_ret ?_;refine tr_blk_ret ?_;refine tr_then_ret ?_;refine tr_then_ret ?_;refine tr_blk_ret ?_;refine tr_then_ret ?_;refine tr_retE rfl (ends1 rfl rfl) ?_;rotate_left;refine tr_skip ?_;refine tr_blk_normal ?_;refine tr_then ?_;refine tr_region ?_;refine m_v rfl rfl ?_;refine tr_val (rk_add (.of rfl) (.of rfl) (ini (by omega))) rfl ?_;refine a_s rfl rfl ?_;refine n_t ?_;rotate_right)
        · rw [hf,hs,if_pos hcd]
        · apply tr_next (k + 1) ⟨show k + 1 ≤ l.length by omega,by rw [hf,hs,if_neg hcd]⟩ (show l.length - (k + 1) < l.length - k by omega)
          case hs1=>exact .cons rfl (.cons rfl .nil)
          case ht=>(try simp only [List.take_zero,List.map_nil,List.nil_append]);exact .nil
      · obtain rfl:k = l.length:=by omega
        (refine tr_seq ?_;refine s_r ?_;refine m_v rfl rfl ?_;refine m_v rfl rfl ?_;refine tr_val (rk_len_slice (.of rfl)) rfl ?_;refine tr_val (rk_lss (.of rfl) (.of rfl)) rfl ?_;refine n_t ?_;refine c_d rfl (fun _=>by omega) (fun hcd=>?_);refine x_t ?_;refine tr_then_exit ?_;refine tr_blk_exit ?_;refine tr_then ?_;refine s_r ?_;refine a_s rfl rfl ?_;refine n_t ?_;refine tr_ret ?_;refine tr_retE rfl (ends1 rfl rfl) ?_)
        rw [hf,List.drop_length];rfl
set_option maxHeartbeats 2000000 in
theorem pulQ_c {sv:Value} {rp:List Int} {n:Nat} {w:World} (h:Rd w sv 1 (intg rp)) (hk:CdOk rp) (hn:n ≤ 256) :
    Gives Tryz.prog 47 [sv,.int .i64 (n:Nat)] w [] (fun _:Value=>True) id (fun v=>[row 95 2 v (pulF rp n).length (prsV (pulF rp n))]):=by
  obtain ⟨a,cap,b,o,rfl,hcap,hmax,ha,hc⟩:=h
  rw [intg_length] at *
  unfold maxLen at hmax
  have hne:=hk.ne
  have hfew:=hk.few
  have ha':=ha (intg_ne (k:=0) (by omega))
  subst ha'
  refine gives_of_tr Tryz.func47 rfl rfl ?_
  (refine s_r ?_;refine a_s rfl rfl ?_;refine n_r ?_;refine a_s rfl rfl ?_;refine n_t ?_;refine tr_seq ?_;refine s_r ?_;refine a_s rfl rfl ?_;refine n_t ?_;refine tr_block ?_)
  refine tr_rowNil 3 1 ?_
  refine tr_for (ι:=Nat × Value) (fun x=>x.1 ≤ n) (fun x=>[(6,.int .i64 (x.1:Nat)),(1,.int .i64 (n:Nat)),(0,.slice (some ⟨b,o,none⟩) rp.length cap),(5,x.2)]) (fun x=>[row 3 1 x.2 (fldL rp x.1).length (natsV (fldL rp x.1))]) (fun x=>n - x.1) ?_ ?_
  · apply tr_start (0,.slice none 0 0) (Nat.zero_le _)
    case hs1=>exact .cons rfl (.cons rfl (.cons rfl (.cons rfl .nil)))
    case ht=>
      show Takes _ [row 3 1 (.slice none 0 0) 0 []] _
      exact .cons .here .nil
  rintro ⟨i,v⟩ hi
  dsimp only at hi ⊢
  by_cases hlt:i < n
  · have hm:i % rp.length < rp.length:=Nat.mod_lt _ hne
    have c0:=ck hc hm
    rw [rep_at hk i hm] at c0
    have hr:=rep_in hk i
    have hem:((i:Nat):Int) % (rp.length:Nat) = ((i % rp.length:Nat):Int):=rfl
    have hfm:=fld_max hk n
    have hfi:=fld_max hk i
    (refine tr_seq ?_;refine s_r ?_;refine m_v rfl rfl ?_;refine m_v rfl rfl ?_;refine tr_val (rk_lss (.of rfl) (.of rfl)) rfl ?_;refine n_t ?_;refine c_d rfl (fun hcd=>?_) (fun _=>by omega);refine s_t ?_;refine tr_seq ?_;refine tr_block ?_;refine s_r ?_;refine a_s rfl rfl ?_;refine n_t ?_;refine tr_block ?_)
    refine tr_for (ι:=Nat × Value) (fun x=>x.1 ≤ repF rp i) (fun x=>[(7,.int .i64 (x.1:Nat)),(6,.int .i64 (i:Nat)),(1,.int .i64 (n:Nat)),(0,.slice (some ⟨b,o,none⟩) rp.length cap),(5,x.2)]) (fun x=>[row 3 1 x.2 (fldJ rp i x.1).length (natsV (fldJ rp i x.1))]) (fun x=>repF rp i - x.1) ?_ ?_
    · apply tr_start (0,v) (Nat.zero_le _)
      case hs1=>exact .cons rfl (.cons rfl (.cons rfl (.cons rfl (.cons rfl .nil))))
      case ht=>
        rw [fldJ_zero]
        exact .cons .here .nil
    rintro ⟨j,v2⟩ hj
    dsimp only at hj ⊢
    by_cases hlj:j < repF rp i
    · have hjl:(fldJ rp i (j + 1)).length = (fldJ rp i j).length + 1:=by rw [fldJ_len,fldJ_len];omega
      have hjv:natsV (fldJ rp i (j + 1)) = natsV (fldJ rp i j)++[.int .i64 (i:Nat)]:=by rw [fldJ_succ,natsV_app];rfl
      have hjm:(fldJ rp i j).length ≤ 2000:=by rw [fldJ_len];omega
      have hol:(natsV (fldJ rp i j)).length = (fldJ rp i j).length * 1:=natsV_len _
      (refine tr_seq ?_;refine s_r ?_;refine m_v rfl rfl ?_;refine m_v rfl rfl ?_;refine m_v rfl rfl ?_;refine m_v rfl rfl ?_;refine tr_val (rk_len_slice (.of rfl)) rfl ?_;refine tr_val (rk_rem (.of rfl) (.of rfl) (by omega) (by omega)) rfl ?_;refine tr_val (rk_indexAddr (.of rfl) (.of rfl) rfl (by omega) (by omega) norm1_) rfl ?_;refine tr_val (rk_load1 (.of rfl) (At.base c0 rfl)) rfl ?_;refine tr_val (rk_lss (.of rfl) (.of rfl)) rfl ?_;refine n_t ?_;refine c_d rfl (fun hcd=>?_) (fun _=>by omega);refine s_t ?_;refine tr_seq ?_;refine tr_block ?_;refine tr_region ?_;refine m_v rfl rfl ?_;refine m_v rfl rfl ?_;refine tr_new (rk_sliceLit (.cons (.of rfl) .nil) rfl rfl rfl rfl) rfl (fun _ _=>?_))
      refine tr_appendB (.of rfl) (.of rfl) (.there .here) .here norm_ (by rfl) (okc_cons rfl okc_nil) (by rfl) (by rfl) (by rfl) lenx_ (by rfl) ?_
      intro v3
      (refine a_s rfl rfl ?_;refine tr_nil ?_;refine tr_blk_normal ?_;refine tr_then ?_;refine tr_region ?_;refine m_v rfl rfl ?_;refine tr_val (rk_add (.of rfl) (.of rfl) (ini (by omega))) rfl ?_;refine a_s rfl rfl ?_;refine n_t ?_)
      apply tr_next (j + 1,v3) (show j + 1 ≤ repF rp i by omega) (show repF rp i - (j + 1) < repF rp i - j by omega)
      case hs1=>exact .cons rfl (.cons rfl (.cons rfl (.cons rfl (.cons rfl .nil))))
      case ht=>
        show Takes _ [row 3 1 v3 (fldJ rp i (j + 1)).length (natsV (fldJ rp i (j + 1)))] _
        rw [hjl,hjv]
        exact .cons .here .nil
    · obtain rfl:j = repF rp i:=by omega
      rw [fldJ_all]
      (refine tr_seq ?_;refine s_r ?_;refine m_v rfl rfl ?_;refine m_v rfl rfl ?_;refine m_v rfl rfl ?_;refine m_v rfl rfl ?_;refine tr_val (rk_len_slice (.of rfl)) rfl ?_;refine tr_val (rk_rem (.of rfl) (.of rfl) (by omega) (by omega)) rfl ?_;refine tr_val (rk_indexAddr (.of rfl) (.of rfl) rfl (by omega) (by omega) norm1_) rfl ?_;refine tr_val (rk_load1 (.of rfl) (At.base c0 rfl)) rfl ?_;refine tr_val (rk_lss (.of rfl) (.of rfl)) rfl ?_;refine n_t ?_;refine c_d rfl (fun _=>by omega) (fun hcd=>?_);refine x_t ?_;refine tr_then_exit ?_;refine tr_blk_exit ?_;refine tr_blk_normal ?_;refine tr_then ?_;refine tr_region ?_;refine m_v rfl rfl ?_;refine tr_val (rk_add (.of rfl) (.of rfl) (ini (by omega))) rfl ?_;refine a_s rfl rfl ?_;refine n_t ?_)
      apply tr_next (i + 1,v2) (show i + 1 ≤ n by omega) (show n - (i + 1) < n - i by omega)
      case hs1=>exact .cons rfl (.cons rfl (.cons rfl (.cons rfl .nil)))
      case ht=>exact .cons .here .nil
  · obtain rfl:i = n:=by omega
    have hfm:=fld_max hk i
    generalize hL:fldL rp i = L at hfm
    have hpl:=prsN_len L
    have hF:pulF rp i = prsN L:=by unfold pulF;rw [hL]
    rw [hF]
    (refine tr_seq ?_;refine s_r ?_;refine m_v rfl rfl ?_;refine m_v rfl rfl ?_;refine tr_val (rk_lss (.of rfl) (.of rfl)) rfl ?_;refine n_t ?_;refine c_d rfl (fun _=>by omega) (fun hcd=>?_);refine x_t ?_;refine tr_then_exit ?_;refine tr_blk_exit ?_;refine tr_then ?_;refine s_r ?_;refine a_s rfl rfl ?_;refine n_t ?_;refine tr_seq ?_;refine s_r ?_;refine a_s rfl rfl ?_;refine n_t ?_;refine tr_block ?_)
    refine tr_rowNil 95 2 ?_
    by_cases hL0:0 < L.length
    · refine tr_rowOpen (E:=3) (sz:=1) (v:=v) (by exact Take.there .here) hL0 ?_
      rintro g2 cap2 cur2 rfl hcap2 hmx2 hsz2 hxl2
      refine tr_for (ι:=Nat × Value) (fun x=>x.1 ≤ L.length / 2) (fun x=>[(9,.int .i64 (2 * (x.1:Int))),(5,.slice (some ⟨g2,0,none⟩) L.length cap2),(8,x.2)]) (fun x=>[row 95 2 x.2 x.1 (prsV ((prsN L).take x.1)),blk g2 (.cells (natsV L++cur2).toArray 3 (0,0))]) (fun x=>L.length / 2 - x.1) ?_ ?_
      · apply tr_start (0,.slice none 0 0) (Nat.zero_le _)
        case hs1=>exact .cons rfl (.cons rfl (.cons rfl .nil))
        case ht=>
          show Takes _ [row 95 2 (.slice none 0 0) 0 [],blk g2 (.cells (natsV L++cur2).toArray 3 (0,0))] _
          exact .cons (.there .here) (.cons .here .nil)
      rintro ⟨m,v7⟩ hm
      dsimp only at hm ⊢
      by_cases hlm:2 * m + 1 < L.length
      · have h2m:2 * m < L.length:=by omega
        have htk:=prs_take hlm h2m
        have htv:prsV ((prsN L).take (m + 1)) = prsV ((prsN L).take m)++[.int .i64 (L[2 * m]:Nat),.int .i64 (L[2 * m + 1]:Nat)]:=by rw [htk,prsV_app];rfl
        have hol:(prsV ((prsN L).take m)).length = m * 2:=by rw [prsV_len,List.length_take_of_le (by omega)]
        have e1:(2 * (m:Int)).toNat = 2 * m:=by omega
        have e2:(2 * (m:Int) + 1).toNat = 2 * m + 1:=by omega
        have c1:(natsV L++cur2)[(2 * (m:Int)).toNat * 1]? = some (.int .i64 (L[2 * m]:Nat)):=by
          rw [e1,Nat.mul_one,List.getElem?_append_left (by rw [natsV_len];omega)]
          rw [natsV_one,List.getElem?_map,List.getElem?_eq_getElem h2m];rfl
        have c2:(natsV L++cur2)[(2 * (m:Int) + 1).toNat * 1]? = some (.int .i64 (L[2 * m + 1]:Nat)):=by
          rw [e2,Nat.mul_one,List.getElem?_append_left (by rw [natsV_len];omega)]
          rw [natsV_one,List.getElem?_map,List.getElem?_eq_getElem hlm];rfl
        (refine tr_seq ?_;refine s_r ?_;refine m_v rfl rfl ?_;refine tr_val (rk_add (.of rfl) (.of rfl) (ini (by omega))) rfl ?_;refine m_v rfl rfl ?_;refine tr_val (rk_len_slice (.of rfl)) rfl ?_;refine tr_val (rk_lss (.of rfl) (.of rfl)) rfl ?_;refine n_t ?_;refine c_d rfl (fun hcd=>?_) (fun _=>by omega);refine s_t ?_;refine tr_seq ?_;refine tr_block ?_)
        with_reducible refine tr_drawO 12 (by kernel_rfl) ?_
        (refine ao_val (rk_move (.of rfl)) rfl ?_;refine ao_val (rk_move (.of rfl)) rfl ?_;refine ao_val (rk_move (.of rfl)) rfl ?_;refine ao_val (rk_indexAddr (.of rfl) (.of rfl) rfl (by omega) (by omega) norm1_) rfl ?_;refine ao_val (rk_load1 (.of rfl) (At.blkL (.there .here) c1)) rfl ?_;refine ao_val (rk_move (.of rfl)) rfl ?_;refine ao_val (rk_move (.of rfl)) rfl ?_;refine ao_val (rk_add (.of rfl) (.of rfl) (ini (by omega))) rfl ?_;refine ao_val (rk_indexAddr (.of rfl) (.of rfl) rfl (by omega) hcd norm1_) rfl ?_;refine ao_val (rk_load1 (.of rfl) (At.blkL (.there .here) c2)) rfl ?_;refine ao_val (rk_buildL (.cons (.of rfl) (.cons (.of rfl) .nil)) norm_) rfl ?_;refine ao_new (rk_sliceLitN (.cons (.of rfl) .nil) rfl rfl normp_ normp_ norm_) rfl rfl ?_)
        with_reducible refine ao_end1 rfl fun bq hbq=>?_
        skip
        refine tr_appendB (.of rfl) (.of rfl) (.there .here) .here norm_ (by rfl) (okc_cons rfl (okc_cons rfl okc_nil)) (by rfl) (by rfl) (by rfl) lenx_ (by rfl) ?_
        intro v8
        (refine a_s rfl rfl ?_;refine tr_nil ?_;refine tr_blk_normal ?_;refine tr_then ?_;refine tr_region ?_;refine m_v rfl rfl ?_;refine tr_val (rk_add (.of rfl) (.of rfl) (ini (by omega))) rfl ?_;refine a_s rfl rfl ?_;refine n_t ?_)
        apply tr_next (m + 1,v8) (show m + 1 ≤ L.length / 2 by omega) (show L.length / 2 - (m + 1) < L.length / 2 - m by omega)
        case hs1=>exact .cons rfl (.cons rfl (.cons rfl .nil))
        case ht=>
          show Takes _ [row 95 2 v8 (m + 1) (prsV ((prsN L).take (m + 1))),blk g2 (.cells (natsV L++cur2).toArray 3 (0,0))] _
          rw [htv]
          exact .cons .here (.cons (.there .here) .nil)
      · obtain rfl:m = (prsN L).length:=by omega
        rw [List.take_length]
        (refine tr_seq ?_;refine s_r ?_;refine m_v rfl rfl ?_;refine tr_val (rk_add (.of rfl) (.of rfl) (ini (by omega))) rfl ?_;refine m_v rfl rfl ?_;refine tr_val (rk_len_slice (.of rfl)) rfl ?_;refine tr_val (rk_lss (.of rfl) (.of rfl)) rfl ?_;refine n_t ?_;refine c_d rfl (fun _=>by omega) (fun hcd=>?_);refine x_t ?_;refine tr_then_exit ?_;refine tr_blk_exit ?_;refine tr_then ?_;refine s_r ?_;refine m_v rfl rfl ?_;refine a_s rfl rfl ?_;refine n_t ?_;refine tr_ret ?_)
        first | with_reducible apply tr_retM | with_reducible apply tr_endM
        case he=>exact ends1 rfl rfl
        case hR=>
          intro w' hm'
          exact gives_end v7 trivial (show Takes _ [row 95 2 v7 (prsN L).length (prsV (prsN L))] _ by exact .cons .here .nil) hm' rfl
    · obtain rfl:L = []:=List.eq_nil_of_length_eq_zero (by omega)
      refine tr_rowSl (E:=3) (sz:=1) (v:=v) (by exact Take.there .here) fun a5 c5 e=>?_
      subst e
      refine tr_for (ι:=Nat) (fun _=>True) (fun _=>[(9,.int .i64 0),(5,.slice a5 0 c5),(8,.slice none 0 0)]) (fun _=>[row 95 2 (.slice none 0 0) 0 []]) (fun k=>k) ?_ ?_
      · apply tr_start 0 trivial
        case hs1=>exact .cons rfl (.cons rfl (.cons rfl .nil))
        case ht=>exact .cons .here .nil
      intro m _
      (refine tr_seq ?_;refine s_r ?_;refine m_v rfl rfl ?_;refine tr_val (rk_add (.of rfl) (.of rfl) (ini (by omega))) rfl ?_;refine m_v rfl rfl ?_;refine tr_val (rk_len_slice (.of rfl)) rfl ?_;refine tr_val (rk_lss (.of rfl) (.of rfl)) rfl ?_;refine n_t ?_;refine c_d rfl (fun _=>by omega) (fun hcd=>?_);refine x_t ?_;refine tr_then_exit ?_;refine tr_blk_exit ?_;refine tr_then ?_;refine s_r ?_;refine m_v rfl rfl ?_;refine a_s rfl rfl ?_;refine n_t ?_;refine tr_ret ?_)
      first | with_reducible apply tr_retM | with_reducible apply tr_endM
      case he=>exact ends1 rfl rfl
      case hR=>
        intro w' hm'
        exact gives_end (.slice none 0 0) trivial (show Takes _ [row 95 2 (.slice none 0 0) 0 []] _ by exact .cons .here .nil) hm' rfl
end Go.Proofs.A1
namespace Go.Proofs.A1
open Go Go.SL
theorem rk_eqlT {P:Program} {c:Cx} {sl:Slots} {hs:List Asn} {dst:Option Tmp} {ty:TypeId} {pos:String} {af:Array Edge} {g:Option (Nat × Bool)} {k:IntKind} {t u:TypeId} {x y:Operand} {a b:Int} (hx:Is sl x (.int k a)) (hy:Is sl y (.int k b)) (e:a = b) :
    RunV P c sl hs ⟨dst,.binOp .eql t x y u,ty,pos,af,g⟩ (.bool true):=by
  have:=rk_eql (P:=P) (c:=c) (hs:=hs) (dst:=dst) (ty:=ty) (pos:=pos) (af:=af) (g:=g) (t:=t) (u:=u) hx hy
  rwa [decide_eq_true e] at this
theorem undQ_c {sv lv:Value} {rp:List Int} {l:List (Int × Int)} {w:World} (h:Rd w sv 1 (intg rp)) (hl:Rd w lv 2 (dus l)) :
    GivesV Tryz.prog 48 [sv,lv] w (.tuple #[.int .i64 (undF rp l:Nat),.int .i64 (undE rp l)]):=by
  have hl':=hl
  obtain ⟨a2,cp2,b2,o2,rfl,hcap2,hmax2,ha2,hc2⟩:=hl'
  rw [dus_length] at *
  unfold maxLen at hmax2
  have hu:undE rp l = if cdE rp ≠ 0 then cdE rp else if 512 < l.length then 5 else if (undX rp l).isSome then 0 else 19:=rfl
  refine givesV_of_tr Tryz.func48 rfl rfl ?_
  (refine s_r ?_;refine a_s rfl rfl ?_;refine a_s rfl rfl ?_;refine n_t ?_;refine tr_seq ?_;refine s_r ?_;refine m_v rfl rfl ?_)
  with_reducible apply tr_callV
  case hr=>exact rk_call (.of rfl) (.cons (.of rfl) .nil) inferInstance normc_
  case hd=>rfl
  case hc=>
    intro w' hm'
    exact cadQ_c (h.keeps hm'.keeps)
  (refine a_s rfl rfl ?_;refine n_r ?_;refine m_v rfl rfl ?_;refine tr_val (rk_neq (.of rfl) (.of rfl)) rfl ?_;refine n_t ?_;refine c_d rfl (fun hcd=>?_) (fun hcd=>?_);refine s_r ?_;refine m_v rfl rfl ?_;refine a_s rfl rfl ?_;refine a_s rfl rfl ?_;refine n_t ?_;refine r_t ?_;refine tr_retE rfl (ends2 rfl rfl rfl) ?_;rotate_left;refine s_t ?_;refine tr_seq ?_;refine s_r ?_;refine m_v rfl rfl ?_;refine tr_val (rk_len_slice (.of rfl)) rfl ?_;refine tr_val (rk_gtr (.of rfl) (.of rfl)) rfl ?_;refine n_t ?_;refine c_d rfl (fun hcd=>?_) (fun hcd=>?_);refine s_r ?_;refine a_s rfl rfl ?_;refine a_s rfl rfl ?_;refine n_t ?_;refine r_t ?_;refine tr_retE rfl (ends2 rfl rfl rfl) ?_;rotate_left;refine s_t ?_;refine tr_seq ?_;refine s_r ?_;refine a_s rfl rfl ?_;refine n_t ?_;refine tr_block ?_;rotate_right;rotate_right)
  · rw [if_pos hcd] at hu
    rw [undF,hu,if_neg hcd];rfl
  · rename_i h0
    rw [if_neg (by assumption),if_pos (by omega)] at hu
    rw [undF,hu];rfl
  rename_i h0
  rw [if_neg (by assumption),if_neg (by omega)] at hu
  have hk:CdOk rp:=cdE_zero.1 (Decidable.not_not.1 (by assumption))
  clear h0
  refine tr_for (ι:=Nat) (fun k=>k ≤ 257 ∧ ∀ i,i < k → (pulF rp i).map prI ≠ l) (fun k=>[(7,.int .i64 (k:Nat)),(0,sv),(1,.slice a2 l.length cp2)]) (fun _=>[]) (fun k=>257 - k) ?_ ?_
  · apply tr_start (0:Nat) ⟨Nat.zero_le _,fun i hi=>absurd hi (by omega)⟩
    case hs1=>exact .cons rfl (.cons rfl (.cons rfl .nil))
    case ht=>(try simp only [List.take_zero,List.map_nil,List.nil_append]);exact .nil
  rintro k ⟨hk2,hf⟩
  by_cases hlt:k < 257
  · (refine tr_seq ?_;refine s_r ?_;refine m_v rfl rfl ?_;refine tr_val (rk_leq (.of rfl) (.of rfl)) rfl ?_;refine n_t ?_;refine c_d rfl (fun hcd=>?_) (fun _=>by omega);refine s_t ?_;refine tr_seq ?_;refine tr_block ?_;refine s_r ?_;refine m_v rfl rfl ?_;refine m_v rfl rfl ?_)
    with_reducible apply tr_call
    case hr=>exact rk_call (.of rfl) (.cons (.of rfl) (.cons (.of rfl) .nil)) inferInstance normc_
    case hd=>rfl
    case ht=>exact Takes.nil
    case hc=>
      intro w1 fp hm1 _ hs1
      obtain rfl:fp = []:=hs1
      exact pulQ_c (h.keeps hm1.keeps) hk (by omega)
    intro v _
    dsimp only [id_eq,List.cons_append,List.nil_append]
    refine m_v rfl rfl ?_
    with_reducible apply tr_callV
    case hr=>exact rk_call (.of rfl) (.cons (.of rfl) (.cons (.of rfl) .nil)) inferInstance normc_
    case hd=>rfl
    case hc=>
      intro w' hm'
      have hp:=prs_rd (v:=v) hm' (by exact .here) rfl
      rw [prsV_dus] at hp
      exact sameP_t hp (hl.keeps hm'.keeps)
    (refine n_t ?_;refine c_d rfl (fun hcd=>?_) (fun hcd=>?_);refine s_r ?_;refine m_v rfl rfl ?_;refine a_s rfl rfl ?_;refine a_s rfl rfl ?_;refine n_t ?_;refine tr_ret ?_;refine tr_blk_ret ?_;refine tr_then_ret ?_;refine tr_then_ret ?_;refine tr_blk_ret ?_;refine tr_then_ret ?_;refine tr_retE rfl (ends2 rfl rfl rfl) ?_;rotate_left;refine tr_skip ?_;refine tr_blk_normal ?_;refine tr_then ?_;refine tr_region ?_;refine m_v rfl rfl ?_;refine tr_val (rk_add (.of rfl) (.of rfl) (ini (by omega))) rfl ?_;refine a_s rfl rfl ?_;refine n_t ?_;rotate_right)
    · have hx:=undX_at hf hlt hcd
      rw [hx,if_pos (by rfl)] at hu
      rw [undF,hu,if_pos rfl,hx];rfl
    · apply tr_next (k + 1) ⟨(show k + 1 ≤ 257 from hlt),fun i hi=>by
        by_cases e:i = k
        · rw [e];exact hcd
        · exact hf i (by omega)⟩ (show 257 - (k + 1) < 257 - k by omega)
      case hs1=>exact .cons rfl (.cons rfl (.cons rfl .nil))
      case ht=>(try simp only [List.take_zero,List.map_nil,List.nil_append]);exact .nil
  · have hx:=undX_no (rp:=rp) (l:=l) fun i hi=>hf i (by omega)
    rw [hx,if_neg (by decide)] at hu
    rw [undF,hu,if_neg (by decide)]
    (refine tr_seq ?_;refine s_r ?_;refine m_v rfl rfl ?_;refine tr_val (rk_leq (.of rfl) (.of rfl)) rfl ?_;refine n_t ?_;refine c_d rfl (fun _=>by omega) (fun hcd=>?_);refine x_t ?_;refine tr_then_exit ?_;refine tr_blk_exit ?_;refine tr_then ?_;refine s_r ?_;refine a_s rfl rfl ?_;refine a_s rfl rfl ?_;refine n_t ?_;refine tr_ret ?_;refine tr_retE rfl (ends2 rfl rfl rfl) ?_)
    rfl
end Go.Proofs.A1
namespace Go.Proofs.A1
open Go Go.SL
theorem cadences_law {sv lv:Value} {rp:List Int} {l:List (Int × Int)} {w:World} (h:Rd w sv 1 (intg rp)) (n:Int) (hl:Rd w lv 2 (dus l)) (hG:GlobR w) (hT:Tab10 w):GivesV Tryz.prog 6 [sv,.int .i64 n,lv] w (.bool true):=by
  have h':=h
  have hl':=hl
  obtain ⟨a1,cp1,b1,o1,rfl,hcap1,hmax1,ha1,hc1⟩:=h'
  obtain ⟨a2,cp2,b2,o2,rfl,hcap2,hmax2,ha2,hc2⟩:=hl'
  rw [intg_length] at *
  rw [dus_length] at *
  unfold maxLen at hmax1 hmax2
  clear hc1 hc2 ha1 ha2
  refine givesV_of_tr Tryz.func6 rfl rfl ?_
  (refine s_r ?_;refine a_s rfl rfl ?_;refine n_t ?_;refine tr_seq ?_;refine s_r ?_;refine m_v rfl rfl ?_;refine tr_val (rk_len_slice (.of rfl)) rfl ?_;refine tr_val (rk_gtr (.of rfl) (.of rfl)) rfl ?_;refine m_v rfl rfl ?_;refine v_g rfl rfl rfl rfl ?_;refine tr_vG1 rfl rfl inferInstance (fun hg hgp=>(rk_gtr (.ofg hg rfl) (.of rfl))) rfl ?_;refine tr_vG1 rfl rfl inferInstance (fun hg hgp=>(rk_move (.ofg hg rfl))) rfl ?_;refine tr_vG rfl rfl inferInstance (fun hg hgp=>(rk_move (.of rfl))) rfl ?_;refine tr_vG rfl rfl inferInstance (fun hg hgp=>(rk_leq (.ofg hg rfl) (.of rfl))) rfl ?_;refine tr_vG1 rfl rfl inferInstance (fun hg hgp=>(rk_pick_and' hg (.ofg hg rfl) rfl)) rfl ?_;refine tr_val (rk_pick_or (.of rfl) rfl) rfl ?_;refine m_v rfl rfl ?_;refine v_g rfl rfl rfl rfl ?_;refine tr_vG1 rfl rfl inferInstance (fun hg hgp=>(rk_len_slice (.ofg hg rfl))) rfl ?_;refine tr_vG1 rfl rfl inferInstance (fun hg hgp=>(rk_gtr (.ofg hg rfl) (.of rfl))) rfl ?_;refine tr_vG1 rfl rfl inferInstance (fun hg hgp=>(rk_move (.ofg hg rfl))) rfl ?_;refine tr_vG rfl rfl inferInstance (fun hg hgp=>(rk_move (.of rfl))) rfl ?_;refine tr_vG rfl rfl inferInstance (fun hg hgp=>(rk_len_slice (.ofg hg rfl))) rfl ?_;refine tr_vG rfl rfl inferInstance (fun hg hgp=>(rk_neq (.ofg hg rfl) (.of rfl))) rfl ?_;refine tr_vG1 rfl rfl inferInstance (fun hg hgp=>(rk_pick_and' hg (.ofg hg rfl) rfl)) rfl ?_;refine tr_val (rk_pick_or (.of rfl) rfl) rfl ?_;refine n_t ?_;refine c_b rfl (fun hcd=>?_) (fun hcd=>?_);refine s_r ?_;refine tr_callV (rk_call (.of rfl) .nil inferInstance normc_) rfl (fun w' hm'=>(awake_c w' (GlobR.keeps hG (Mem.keeps hm')) (Tab10.keeps hT (Mem.keeps hm')))) ?_;refine a_s rfl rfl ?_;refine n_t ?_;refine r_t ?_;refine tr_retE rfl (ends1 rfl rfl) ?_;rotate_left;refine s_t ?_;refine s_r ?_;refine m_v rfl rfl ?_;rotate_right)
  · rfl
  have hlen:rp.length ≤ 10 ∧ l.length ≤ 513 ∧ ¬ (60 < n ∧ n ≤ 256):=by omega
  clear hcd
  with_reducible apply tr_call
  case hr=>exact rk_call (.of rfl) (.cons (.of rfl) .nil) inferInstance normc_
  case hd=>rfl
  case ht=>exact Takes.nil
  case hc=>
    intro w1 fp hm1 _ hs1
    obtain rfl:fp = []:=hs1
    exact intsV_c (h.keeps hm1.keeps) (by omega)
  intro v _
  dsimp only [id_eq,List.cons_append,List.nil_append]
  refine m_v rfl rfl ?_
  with_reducible apply tr_call
  case hr=>exact rk_call (.of rfl) (.cons (.of rfl) (.cons (.of rfl) .nil)) inferInstance normc_
  case hd=>rfl
  case ht=>exact Takes.nil
  case hc=>
    intro w1 fp hm1 _ hs1
    obtain rfl:fp = []:=hs1
    exact pulledX_c (intg_rd (E:=3) (v:=v) hm1 (by exact .here) rfl)
  intro p _
  dsimp only [id_eq,List.cons_append,List.nil_append]
  (refine m_v rfl rfl ?_;refine tr_val (rk_extract (.of rfl) rfl) rfl ?_;refine tr_val (rk_extract (.of rfl) rfl) rfl ?_;refine a_s rfl rfl ?_;refine a_s rfl rfl ?_;refine n_r ?_;refine m_v rfl rfl ?_)
  with_reducible apply tr_call
  case hr=>exact rk_call (.of rfl) (.cons (.of rfl) .nil) inferInstance normc_
  case hd=>rfl
  case ht=>exact Takes.nil
  case hc=>
    intro w1 fp hm1 _ hs1
    obtain rfl:fp = []:=hs1
    exact intsV_c (h.keeps hm1.keeps) (by omega)
  intro v2 _
  dsimp only [id_eq,List.cons_append,List.nil_append]
  refine m_v rfl rfl ?_
  with_reducible apply tr_call
  case hr=>exact rk_call (.of rfl) (.cons (.of rfl) .nil) inferInstance normc_
  case hd=>rfl
  case ht=>exact Takes.nil
  case hc=>
    intro w1 fp hm1 _ hs1
    obtain rfl:fp = []:=hs1
    exact prsV_c (hl.keeps hm1.keeps) (by omega)
  intro v3 _
  dsimp only [id_eq,List.cons_append,List.nil_append]
  skip
  with_reducible apply tr_callV
  case hr=>exact rk_call (.of rfl) (.cons (.of rfl) (.cons (.of rfl) .nil)) inferInstance normc_
  case hd=>rfl
  case hc=>
    intro w' hm'
    exact undone_c (intg_rd (E:=3) (v:=v2) hm' (by exact Take.there .here) rfl) (dus_rd (E:=95) (v:=v3) hm' (by exact .here) rfl)
  (refine m_v rfl rfl ?_;refine tr_val (rk_extract (.of rfl) rfl) rfl ?_;refine tr_val (rk_extract (.of rfl) rfl) rfl ?_;refine a_s rfl rfl ?_;refine a_s rfl rfl ?_;refine n_r ?_;refine m_v rfl rfl ?_)
  with_reducible apply tr_callV
  case hr=>exact rk_call (.of rfl) (.cons (.of rfl) .nil) inferInstance normc_
  case hd=>rfl
  case hc=>
    intro w' hm'
    exact cadQ_c (h.keeps hm'.keeps)
  (refine a_s rfl rfl ?_;refine n_r ?_;refine m_v rfl rfl ?_;refine m_v rfl rfl ?_;refine tr_callV (rk_call (.of rfl) (.cons (.of rfl) (.cons (.of rfl) (.cons (.of rfl) .nil))) inferInstance normc_) rfl (fun w' hm'=>(range_q n 0 256 w')) ?_;refine tr_new (rk_sliceLit (.cons (.of rfl) (.cons (.of rfl) .nil)) rfl rfl rfl rfl) rfl (fun _ _=>?_))
  with_reducible apply tr_callV
  case hr=>exact rk_call (.of rfl) (.cons (.of rfl) .nil) inferInstance normc_
  case hd=>rfl
  case hc=>
    intro w' hm'
    exact first_q _ [cdE rp,withinF n 0 256] w' (Mem.rdBlk hm' (by exact .here) rfl rfl)
  rw [show firstF [cdE rp,withinF n 0 256] = pulE rp n from rfl]
  by_cases hz:pulE rp n = 0
  · obtain ⟨hk,hn⟩:=pulE_zero.1 hz
    obtain ⟨m,rfl⟩:∃ m:Nat,n = m:=⟨n.toNat,by omega⟩
    rw [pulX_zero hz,hz,Int.toNat_natCast]
    (refine a_s rfl rfl ?_;refine n_r ?_;refine a_s rfl rfl ?_;refine n_t ?_;refine tr_seq ?_;refine s_r ?_;refine m_v rfl rfl ?_;refine tr_val (rk_eql (.of rfl) (.of rfl)) rfl ?_;refine n_t ?_;refine c_d rfl (fun hcd=>?_) (fun _=>by omega);refine tr_region ?_;refine m_v rfl rfl ?_;refine m_v rfl rfl ?_)
    with_reducible apply tr_call
    case hr=>exact rk_call (.of rfl) (.cons (.of rfl) (.cons (.of rfl) .nil)) inferInstance normc_
    case hd=>rfl
    case ht=>exact Takes.nil
    case hc=>
      intro w1 fp hm1 _ hs1
      obtain rfl:fp = []:=hs1
      exact pulQ_c (h.keeps hm1.keeps) hk (by omega)
    intro q _
    dsimp only [id_eq,List.cons_append,List.nil_append]
    (refine a_s rfl rfl ?_;refine n_r ?_;refine m_v rfl rfl ?_;refine m_v rfl rfl ?_)
    with_reducible apply tr_callV
    case hr=>exact rk_call (.of rfl) (.cons (.of rfl) (.cons (.of rfl) .nil)) inferInstance normc_
    case hd=>rfl
    case hc=>
      intro w' hm'
      exact undQ_c (h.keeps hm'.keeps) (hl.keeps hm'.keeps)
    (refine m_v rfl rfl ?_;refine tr_val (rk_extract (.of rfl) rfl) rfl ?_;refine tr_val (rk_extract (.of rfl) rfl) rfl ?_;refine a_s rfl rfl ?_;refine a_s rfl rfl ?_;refine n_r ?_;refine m_v rfl rfl ?_)
    with_reducible apply tr_call
    case hr=>exact rk_call (.of rfl) (.cons (.of rfl) .nil) inferInstance normc_
    case hd=>rfl
    case ht=>exact Takes.nil
    case hc=>
      intro w1 fp hm1 _ hs1
      obtain rfl:fp = []:=hs1
      exact intsV_c (h.keeps hm1.keeps) (by omega)
    intro v4 _
    dsimp only [id_eq,List.cons_append,List.nil_append]
    skip
    with_reducible apply tr_callV
    case hr=>exact rk_call (.of rfl) (.cons (.of rfl) .nil) inferInstance normc_
    case hd=>rfl
    case hc=>
      intro w' hm'
      exact chkCad_c (intg_rd (E:=3) (v:=v4) hm' (by exact .here) rfl)
    (refine m_v rfl rfl ?_;refine tr_val (rk_eqlT (.of rfl) (.of rfl) rfl) rfl ?_;refine m_v rfl rfl ?_;refine tr_gOn rfl rfl ?_;refine m_v rfl rfl ?_;refine tr_gOn rfl rfl ?_;refine m_v rfl rfl ?_;refine tr_gOn rfl rfl ?_)
    with_reducible apply tr_callV
    case hr=>exact rk_call (.of rfl) (.cons (.of rfl) (.cons (.of rfl) .nil)) inferInstance normc_
    case hd=>rfl
    case hc=>
      intro w' hm'
      have s1:=prs_rd (v:=p) (l:=pulF rp m) hm' (by exact Take.there (.there (.there (.there (.there .here))))) rfl
      have s2:=prs_rd (v:=q) (l:=pulF rp m) hm' (by exact Take.there .here) rfl
      rw [prsV_dus] at s1 s2
      have s3:=sameP_t s1 s2
      rw [decide_eq_true rfl] at s3
      exact s3
    (refine tr_val (rk_pickB (.of rfl) (.of rfl) (.of rfl) rfl) rfl ?_;refine m_v rfl rfl ?_;refine tr_gOn rfl rfl ?_;refine m_v rfl rfl ?_;refine tr_gOn rfl rfl ?_;refine m_v rfl rfl ?_;refine tr_gOn rfl rfl ?_;refine tr_val (rk_eqlT (.of rfl) (.of rfl) rfl) rfl ?_;refine tr_val (rk_pickB (.of rfl) (.of rfl) (.of rfl) rfl) rfl ?_;refine m_v rfl rfl ?_;refine tr_gOn rfl rfl ?_;refine m_v rfl rfl ?_;refine tr_gOn rfl rfl ?_;refine m_v rfl rfl ?_;refine tr_gOn rfl rfl ?_;refine tr_val (rk_eqlT (.of rfl) (.of rfl) rfl) rfl ?_;refine tr_val (rk_pickB (.of rfl) (.of rfl) (.of rfl) rfl) rfl ?_;refine m_v rfl rfl ?_;refine tr_gOn rfl rfl ?_;refine m_v rfl rfl ?_;refine tr_gOn rfl rfl ?_;refine m_v rfl rfl ?_;refine tr_gOn rfl rfl ?_;refine tr_val (rk_eqlT (.of rfl) (.of rfl) rfl) rfl ?_;refine tr_val (rk_pickB (.of rfl) (.of rfl) (.of rfl) rfl) rfl ?_;refine m_v rfl rfl ?_;refine tr_gOn rfl rfl ?_)
    with_reducible apply tr_callV (V:=Value.bool true)
    case hr=>exact rk_call (.of rfl) .nil inferInstance normc_
    case hd=>rfl
    case hc=>
      intro w' hm'
      exact awake_c _ (hG.keeps hm'.keeps) (hT.keeps hm'.keeps)
    (refine tr_val (rk_pickB (.of rfl) (.of rfl) (.of rfl) rfl) rfl ?_;refine a_s rfl rfl ?_;refine n_t ?_;refine tr_ret ?_;refine tr_retE rfl (ends1 rfl rfl) ?_)
    rfl
  · (refine a_s rfl rfl ?_;refine n_r ?_;refine a_s rfl rfl ?_;refine n_t ?_;refine tr_seq ?_;refine s_r ?_;refine m_v rfl rfl ?_;refine tr_val (rk_eql (.of rfl) (.of rfl)) rfl ?_;refine n_t ?_;refine c_d rfl (fun _=>by omega) (fun hcd=>?_);refine s_t ?_;refine s_r ?_;refine m_v rfl rfl ?_;refine m_v rfl rfl ?_)
    skip
    with_reducible apply tr_callV
    case hr=>exact rk_call (.of rfl) (.cons (.of rfl) (.cons (.of rfl) .nil)) inferInstance normc_
    case hd=>rfl
    case hc=>
      intro w' hm'
      exact undQ_c (h.keeps hm'.keeps) (hl.keeps hm'.keeps)
    (refine m_v rfl rfl ?_;refine tr_val (rk_extract (.of rfl) rfl) rfl ?_;refine tr_val (rk_extract (.of rfl) rfl) rfl ?_;refine a_s rfl rfl ?_;refine a_s rfl rfl ?_;refine n_r ?_;refine m_v rfl rfl ?_)
    with_reducible apply tr_call
    case hr=>exact rk_call (.of rfl) (.cons (.of rfl) .nil) inferInstance normc_
    case hd=>rfl
    case ht=>exact Takes.nil
    case hc=>
      intro w1 fp hm1 _ hs1
      obtain rfl:fp = []:=hs1
      exact intsV_c (h.keeps hm1.keeps) (by omega)
    intro v4 _
    dsimp only [id_eq,List.cons_append,List.nil_append]
    skip
    with_reducible apply tr_callV
    case hr=>exact rk_call (.of rfl) (.cons (.of rfl) .nil) inferInstance normc_
    case hd=>rfl
    case hc=>
      intro w' hm'
      exact chkCad_c (intg_rd (E:=3) (v:=v4) hm' (by exact .here) rfl)
    (refine m_v rfl rfl ?_;refine tr_val (rk_eqlT (.of rfl) (.of rfl) rfl) rfl ?_;refine m_v rfl rfl ?_;refine tr_gOn rfl rfl ?_;refine m_v rfl rfl ?_;refine tr_gOn rfl rfl ?_;refine m_v rfl rfl ?_;refine tr_gOn rfl rfl ?_)
    with_reducible apply tr_callV
    case hr=>exact rk_call (.of rfl) (.cons (.of rfl) (.cons (.of rfl) .nil)) inferInstance normc_
    case hd=>rfl
    case hc=>
      intro w' hm'
      have s1:=prs_rd (v:=p) (l:=pulX rp n) hm' (by exact Take.there (.there (.there (.there .here)))) rfl
      rw [show pulX rp n = [] by unfold pulX;rw [if_neg hz]] at s1
      have s3:=sameP_t (l:=[]) (m:=[]) s1 (Rd.nil _ 2)
      rw [decide_eq_true rfl] at s3
      exact s3
    (refine tr_val (rk_pickB (.of rfl) (.of rfl) (.of rfl) rfl) rfl ?_;refine m_v rfl rfl ?_;refine tr_gOn rfl rfl ?_;refine m_v rfl rfl ?_;refine tr_gOn rfl rfl ?_;refine m_v rfl rfl ?_;refine tr_gOn rfl rfl ?_;refine tr_val (rk_eqlT (.of rfl) (.of rfl) rfl) rfl ?_;refine tr_val (rk_pickB (.of rfl) (.of rfl) (.of rfl) rfl) rfl ?_;refine m_v rfl rfl ?_;refine tr_gOn rfl rfl ?_;refine m_v rfl rfl ?_;refine tr_gOn rfl rfl ?_;refine m_v rfl rfl ?_;refine tr_gOn rfl rfl ?_;refine tr_val (rk_eqlT (.of rfl) (.of rfl) rfl) rfl ?_;refine tr_val (rk_pickB (.of rfl) (.of rfl) (.of rfl) rfl) rfl ?_;refine m_v rfl rfl ?_;refine tr_gOn rfl rfl ?_;refine m_v rfl rfl ?_;refine tr_gOn rfl rfl ?_;refine m_v rfl rfl ?_;refine tr_gOn rfl rfl ?_;refine tr_val (rk_eqlT (.of rfl) (.of rfl) rfl) rfl ?_;refine tr_val (rk_pickB (.of rfl) (.of rfl) (.of rfl) rfl) rfl ?_;refine m_v rfl rfl ?_;refine tr_gOn rfl rfl ?_)
    with_reducible apply tr_callV (V:=Value.bool true)
    case hr=>exact rk_call (.of rfl) .nil inferInstance normc_
    case hd=>rfl
    case hc=>
      intro w' hm'
      exact awake_c _ (hG.keeps hm'.keeps) (hT.keeps hm'.keeps)
    (refine tr_val (rk_pickB (.of rfl) (.of rfl) (.of rfl) rfl) rfl ?_;refine a_s rfl rfl ?_;refine n_t ?_;refine tr_ret ?_;refine tr_retE rfl (ends1 rfl rfl) ?_)
    rfl
end Go.Proofs.A1
