/- Parts of the proof: U3H U3I U3J U3K U3L. -/
import Derived.Test.YthhidjfahmcekaaGreatDoorKM17
import Derived.Test.YthhidjfahmcekaaGreatDoorKM06
import Derived.Test.YthhidjfahmcekaaGreatDoorKM10
set_option linter.unusedSectionVars false
set_option linter.unusedVariables false
set_option linter.unusedSimpArgs false
namespace Go.Proofs.A1
open Go Go.SL
def shoB (l:List Cp):Bool:=l.all (fun x=>decide (x.tx.size ≤ 40)) && (decide (l.length ≤ 8) || decide (l.length = 33))
theorem shoB_few {l:List Cp} (h:shoB l = true):l.length ≤ 33 ∧ ∀ x ∈ l,x.tx.size ≤ 1000000000:=by
  unfold shoB at h
  rw [Bool.and_eq_true,List.all_eq_true,Bool.or_eq_true,decide_eq_true_eq,decide_eq_true_eq] at h
  refine ⟨by omega,fun x hx=>?_⟩
  have:=of_decide_eq_true (h.1 x hx)
  omega
theorem shortQ_c {lv:Value} {l:List Cp} {w:World} (h:Rd w lv 5 (cps l)):GivesV Tryz.prog 59 [lv] w (.bool (shoB l)):=by
  obtain ⟨a,cp,b,o,rfl,hcap,hmax,ha,hc⟩:=h
  rw [cps_length] at *
  unfold maxLen at hmax
  refine givesV_of_tr Tryz.func59 rfl rfl ?_
  (refine s_r ?_;refine a_s rfl rfl ?_;refine n_t ?_;refine tr_seq ?_;refine s_r ?_;refine a_s rfl rfl ?_;refine n_t ?_;refine tr_block ?_)
  refine tr_for (fun k:Nat=>k ≤ l.length ∧ ∀ i (hi:i < l.length),i < k → l[i].tx.size ≤ 40) (fun k=>[(3,.int .i64 k),(0,.slice a l.length cp)]) (fun _=>[]) (fun k=>l.length - k) ?_ ?_
  · apply tr_start 0 ⟨Nat.zero_le _,fun i _ hi=>absurd hi (by omega)⟩
    case hs1=>exact .cons rfl (.cons rfl .nil)
    case ht=>(try simp only [List.take_zero,List.map_nil,List.nil_append]);exact .nil
  rintro k ⟨hk,hf⟩
  by_cases hlt:k < l.length
  · have ha':=ha (cps_ne hlt)
    have hcell:=(hc k _ (cps_get hlt)).2
    have hx4:w.cell? ⟨b,o + k * 5 + 4,none⟩ = some (.string l[k].tx):=hcell 4 _ rfl
    (refine tr_seq ?_;refine s_r ?_;refine m_v rfl rfl ?_;refine m_v rfl rfl ?_;refine tr_val (rk_len_slice (.of rfl)) rfl ?_;refine tr_val (rk_lss (.of rfl) (.of rfl)) rfl ?_;refine n_t ?_;refine c_d rfl (fun hcd=>?_) (fun _=>by omega);refine s_t ?_;refine tr_seq ?_;refine tr_block ?_;refine s_r ?_;refine m_v rfl rfl ?_;refine m_v rfl rfl ?_;refine tr_val (rk_indexAddr (.of rfl) (.of rfl) ha' (by omega) hcd norm1_) rfl ?_;refine f_a rfl rfl norm0_ ?_;refine tr_val (rk_load1 (.of rfl) (At.base hx4 rfl)) rfl ?_;refine tr_val (rk_len_string (.of rfl)) rfl ?_;refine tr_val (rk_gtr (.of rfl) (.of rfl)) rfl ?_;refine n_t ?_;refine c_d rfl (fun hcd=>?_) (fun hcd=>?_);refine s_r ?_;refine a_s rfl rfl ?_;refine n_t ?_;refine tr_ret ?_;refine tr_blk_ret ?_;refine tr_then_ret ?_;refine tr_then_ret ?_;refine tr_blk_ret ?_;refine tr_then_ret ?_;refine tr_retE rfl (ends1 rfl rfl) ?_;rotate_left;refine tr_skip ?_;refine tr_blk_normal ?_;refine tr_then ?_;refine tr_region ?_;refine m_v rfl rfl ?_;refine tr_val (rk_add (.of rfl) (.of rfl) (ini (by omega))) rfl ?_;refine a_s rfl rfl ?_;refine n_t ?_;rotate_right)
    · have:shoB l = false:=by
        unfold shoB
        have:l.all (fun x=>decide (x.tx.size ≤ 40)) = false:=by
          rw [List.all_eq_false]
          exact ⟨l[k],List.getElem_mem hlt,by simp;omega⟩
        rw [this];rfl
      rw [this]
    · apply tr_next (k + 1) ⟨show k + 1 ≤ l.length from hlt,fun i hi hik=>by
        by_cases e:i = k
        · subst e;omega
        · exact hf i hi (by omega)⟩ (show l.length - (k + 1) < l.length - k by omega)
      case hs1=>exact .cons rfl (.cons rfl .nil)
      case ht=>(try simp only [List.take_zero,List.map_nil,List.nil_append]);exact .nil
  · obtain rfl:k = l.length:=by omega
    have hall:l.all (fun x=>decide (x.tx.size ≤ 40)) = true:=by
      rw [List.all_eq_true]
      intro x hx
      obtain ⟨i,hi,rfl⟩:=List.getElem_of_mem hx
      exact decide_eq_true (hf i hi hi)
    unfold shoB
    rw [hall,Bool.true_and]
    (refine tr_seq ?_;refine s_r ?_;refine m_v rfl rfl ?_;refine m_v rfl rfl ?_;refine tr_val (rk_len_slice (.of rfl)) rfl ?_;refine tr_val (rk_lss (.of rfl) (.of rfl)) rfl ?_;refine n_t ?_;refine c_d rfl (fun _=>by omega) (fun hcd=>?_);refine x_t ?_;refine tr_then_exit ?_;refine tr_blk_exit ?_;refine tr_then ?_;refine s_r ?_;refine m_v rfl rfl ?_;refine tr_val (rk_len_slice (.of rfl)) rfl ?_;refine tr_val (rk_leq (.of rfl) (.of rfl)) rfl ?_;refine m_v rfl rfl ?_;refine v_g rfl rfl rfl rfl ?_;refine tr_vG1 rfl rfl inferInstance (fun hg hgp=>(rk_len_slice (.ofg hg rfl))) rfl ?_;refine tr_vG1 rfl rfl inferInstance (fun hg hgp=>(rk_eql (.ofg hg rfl) (.of rfl))) rfl ?_;refine tr_val (rk_pick_or (.of rfl) rfl) rfl ?_;refine a_s rfl rfl ?_;refine n_t ?_;refine tr_ret ?_;refine tr_retE rfl (ends1 rfl rfl) ?_)
    congr 2
    · rw [decide_eq_decide];omega
    · rw [decide_eq_decide];omega
theorem conflictQ_c (x y:Cp) (hx:CpOk x) (hy:CpOk y) (w:World):GivesV Tryz.prog 129 [.agg x.cells.toArray,.agg y.cells.toArray] w (.bool (cflQ x y)):=by
  have h1:=hx.co;have h2:=hx.fit;have h3:=hy.co;have h4:=hy.fit
  have h5:=hx.ne;have h6:=hy.ne
  unfold Cp.cells
  refine givesV_of_tr Tryz.func129 rfl rfl ?_
  (refine s_r ?_;refine tr_new (rk_box (.of rfl) rfl) rfl (fun _ _=>?_);refine tr_new (rk_box (.of rfl) rfl) rfl (fun _ _=>?_);refine a_s rfl rfl ?_;refine n_r ?_;refine f_a rfl rfl norm0_ ?_;refine tr_val (rk_load1 (.of rfl) (At.lit (.there .here) rfl)) rfl ?_;refine f_a rfl rfl norm0_ ?_;refine tr_val (rk_load1 (.of rfl) (At.lit .here rfl)) rfl ?_;refine tr_val (rk_eql (.of rfl) (.of rfl)) rfl ?_;refine m_v rfl rfl ?_;refine tr_vG1 rfl rfl inferInstance (fun hg hgp=>(rk_fieldAddr (.of rfl) norm0_)) rfl ?_;refine tr_vG1 rfl rfl inferInstance (fun hg hgp=>(rk_fieldAddr (.ofg hg rfl) norm0_)) rfl ?_;refine tr_vG1 rfl rfl inferInstance (fun hg hgp=>(rk_load1 (.ofg hg rfl) (At.lit (.there .here) rfl))) rfl ?_;refine tr_vG1 rfl rfl inferInstance (fun hg hgp=>(rk_fieldAddr (.of rfl) norm0_)) rfl ?_;refine tr_vG1 rfl rfl inferInstance (fun hg hgp=>(rk_fieldAddr (.ofg hg rfl) norm0_)) rfl ?_;refine tr_vG1 rfl rfl inferInstance (fun hg hgp=>(rk_load1 (.ofg hg rfl) (At.lit .here rfl))) rfl ?_;refine tr_vG1 rfl rfl inferInstance (fun hg hgp=>(rk_lss (.ofg hg rfl) (.ofg hg rfl))) rfl ?_;refine tr_val (rk_pick_and (.of rfl) rfl) rfl ?_;refine m_v rfl rfl ?_;refine tr_vG1 rfl rfl inferInstance (fun hg hgp=>(rk_fieldAddr (.of rfl) norm0_)) rfl ?_;refine tr_vG1 rfl rfl inferInstance (fun hg hgp=>(rk_fieldAddr (.ofg hg rfl) norm0_)) rfl ?_;refine tr_vG1 rfl rfl inferInstance (fun hg hgp=>(rk_load1 (.ofg hg rfl) (At.lit .here rfl))) rfl ?_;refine tr_vG1 rfl rfl inferInstance (fun hg hgp=>(rk_fieldAddr (.of rfl) norm0_)) rfl ?_;refine tr_vG1 rfl rfl inferInstance (fun hg hgp=>(rk_fieldAddr (.ofg hg rfl) norm0_)) rfl ?_;refine tr_vG1 rfl rfl inferInstance (fun hg hgp=>(rk_load1 (.ofg hg rfl) (At.lit (.there .here) rfl))) rfl ?_;refine tr_vG1 rfl rfl inferInstance (fun hg hgp=>(rk_lss (.ofg hg rfl) (.ofg hg rfl))) rfl ?_;refine tr_val (rk_pick_and (.of rfl) rfl) rfl ?_;refine m_v rfl rfl ?_;refine tr_vG1 rfl rfl inferInstance (fun hg hgp=>(rk_fieldAddr (.of rfl) norm0_)) rfl ?_;refine tr_vG1 rfl rfl inferInstance (fun hg hgp=>(rk_load1 (.ofg hg rfl) (At.lit (.there .here) rfl))) rfl ?_;refine tr_vG1 rfl rfl inferInstance (fun hg hgp=>(rk_fieldAddr (.of rfl) norm0_)) rfl ?_;refine tr_vG1 rfl rfl inferInstance (fun hg hgp=>(rk_load1 (.ofg hg rfl) (At.lit .here rfl))) rfl ?_;refine tr_vG1 rfl rfl inferInstance (fun hg hgp=>(rk_fieldAddr (.of rfl) norm0_)) rfl ?_;refine tr_vG1 rfl rfl inferInstance (fun hg hgp=>(rk_load1 (.ofg hg rfl) (At.lit .here rfl))) rfl ?_;refine tr_vG1 rfl rfl inferInstance (fun hg hgp=>(rk_len_string (.ofg hg rfl))) rfl ?_;refine tr_vG1 rfl rfl inferInstance (fun hg hgp=>(rk_add (.ofg hg rfl) (.ofg hg rfl) (ini (by omega)))) rfl ?_;refine tr_vG1 rfl rfl inferInstance (fun hg hgp=>(rk_lss (.ofg hg rfl) (.ofg hg rfl))) rfl ?_;refine tr_val (rk_pick_and (.of rfl) rfl) rfl ?_;refine m_v rfl rfl ?_;refine tr_vG1 rfl rfl inferInstance (fun hg hgp=>(rk_fieldAddr (.of rfl) norm0_)) rfl ?_;refine tr_vG1 rfl rfl inferInstance (fun hg hgp=>(rk_load1 (.ofg hg rfl) (At.lit .here rfl))) rfl ?_;refine tr_vG1 rfl rfl inferInstance (fun hg hgp=>(rk_fieldAddr (.of rfl) norm0_)) rfl ?_;refine tr_vG1 rfl rfl inferInstance (fun hg hgp=>(rk_load1 (.ofg hg rfl) (At.lit (.there .here) rfl))) rfl ?_;refine tr_vG1 rfl rfl inferInstance (fun hg hgp=>(rk_fieldAddr (.of rfl) norm0_)) rfl ?_;refine tr_vG1 rfl rfl inferInstance (fun hg hgp=>(rk_load1 (.ofg hg rfl) (At.lit (.there .here) rfl))) rfl ?_;refine tr_vG1 rfl rfl inferInstance (fun hg hgp=>(rk_len_string (.ofg hg rfl))) rfl ?_;refine tr_vG1 rfl rfl inferInstance (fun hg hgp=>(rk_add (.ofg hg rfl) (.ofg hg rfl) (ini (by omega)))) rfl ?_;refine tr_vG1 rfl rfl inferInstance (fun hg hgp=>(rk_lss (.ofg hg rfl) (.ofg hg rfl))) rfl ?_;refine tr_val (rk_pick_and (.of rfl) rfl) rfl ?_;refine a_s rfl rfl ?_;refine n_t ?_;refine tr_ret ?_;refine tr_retE rfl (ends1 rfl rfl) ?_)
  unfold cflQ
  simp [Bool.and_assoc]
theorem cps_takeV {l:List Cp} {k:Nat} (h:k < l.length):cpsV (l.take (k + 1)) = cpsV (l.take k)++(l[k]).cells:=by
  rw [List.take_succ_eq_append_getElem h];unfold cpsV;rw [List.flatMap_append];simp
theorem capsV_c {lv:Value} {l:List Cp} {w:World} (h:Rd w lv 5 (cps l)) (hfew:l.length ≤ 4000) :
    Gives Tryz.prog 61 [lv] w [] (fun _:Value=>True) id (fun v=>[row 195 5 v l.length (cpsV l)]):=by
  obtain ⟨a,cp,b,o,rfl,hcap,hmax,ha,hc⟩:=h
  rw [cps_length] at *
  unfold maxLen at hmax
  refine gives_of_tr Tryz.func61 rfl rfl ?_
  (refine s_r ?_;refine a_s rfl rfl ?_;refine n_r ?_;refine a_s rfl rfl ?_;refine n_t ?_;refine tr_seq ?_;refine s_r ?_;refine m_v rfl rfl ?_;refine tr_val (rk_len_slice (.of rfl)) rfl ?_;refine m_v rfl rfl ?_;refine n_t ?_;refine tr_block ?_)
  refine tr_rowNil 195 5 ?_
  refine tr_for (ι:=Nat × Value) (fun x=>x.1 ≤ l.length) (fun x=>[(8,.int .i64 x.1),(7,.int .i64 l.length),(6,.slice a l.length cp),(3,x.2)]) (fun x=>[row 195 5 x.2 x.1 (cpsV (l.take x.1))]) (fun x=>l.length - x.1) ?_ ?_
  · apply tr_start (0,.slice none 0 0) (Nat.zero_le _)
    case hs1=>exact .cons rfl (.cons rfl (.cons rfl (.cons rfl .nil)))
    case ht=>
      show Takes _ [row 195 5 (.slice none 0 0) 0 []] _
      exact .cons .here .nil
  rintro ⟨k,v⟩ hk
  dsimp only at hk ⊢
  by_cases hlt:k < l.length
  · have ha':=ha (cps_ne hlt)
    have hcell:=(hc k _ (cps_get hlt)).2
    have htk:=cps_takeV hlt
    have hlk:(l.take k).length = k:=List.length_take_of_le (by omega)
    have hol:(cpsV (l.take k)).length = k * 5:=by rw [cpsV_len,hlk]
    generalize l[k] = x at hcell htk
    dsimp only [Cp.cells] at hcell htk
    (refine s_r ?_;refine tr_val (rk_lss (.of rfl) (.of rfl)) rfl ?_;refine n_t ?_;refine tr_seq ?_;refine c_d rfl (fun hcd=>?_) (fun _=>by omega);refine s_t ?_;refine tr_seq ?_;refine tr_block ?_;refine s_r ?_;refine tr_val (rk_indexAddr (.of rfl) (.of rfl) ha' (by omega) hcd norm1_) rfl ?_;refine tr_val (rk_loadN (.of rfl) (Ats.base hcell rfl) rfl) rfl ?_;refine tr_new (rk_alloc rfl) rfl (fun _ _=>?_);refine tr_store (.of rfl) (.of rfl) .here rfl rfl (okc_cons rfl (okc_cons rfl (okc_cons rfl (okc_cons rfl (okc_cons rfl okc_nil))))) (lenb rfl) norm_ ?_;refine n_t ?_;refine tr_region ?_;refine m_v rfl rfl ?_;refine tr_val (rk_loadB (.of rfl) .here norm_ (by rfl)) rfl ?_;refine tr_new (rk_sliceLitN (.cons (.of rfl) .nil) rfl rfl normp_ normp_ norm_) rfl (fun _ _=>?_))
    refine tr_appendB (.of rfl) (.of rfl) (.there (.there .here)) .here norm_ (by rfl) (okc_cons rfl (okc_cons rfl (okc_cons rfl (okc_cons rfl (okc_cons rfl okc_nil))))) (by rfl) (by rfl) (by rfl) lenx_ (by rfl) ?_
    intro v'
    (refine a_s rfl rfl ?_;refine tr_nil ?_;refine tr_blk_normal ?_;refine tr_then ?_;refine tr_region ?_;refine tr_val (rk_add (.of rfl) (.of rfl) (ini (by omega))) rfl ?_;refine m_v rfl rfl ?_;refine n_t ?_)
    apply tr_next (k + 1,v') (by show k + 1 ≤ l.length;omega) (by show l.length - (k + 1) < l.length - k;omega)
    case hs1=>exact .cons rfl (.cons rfl (.cons rfl (.cons rfl .nil)))
    case ht=>
      show Takes _ [row 195 5 v' (k + 1) (cpsV (l.take (k + 1)))] _
      rw [htk]
      exact .cons .here .nil
  · obtain rfl:k = l.length:=by omega
    rw [List.take_length]
    (refine s_r ?_;refine tr_val (rk_lss (.of rfl) (.of rfl)) rfl ?_;refine n_t ?_;refine tr_seq ?_;refine c_d rfl (fun _=>by omega) (fun hcd=>?_);refine x_t ?_;refine tr_then_exit ?_;refine tr_blk_exit ?_;refine tr_then ?_;refine s_r ?_;refine m_v rfl rfl ?_;refine a_s rfl rfl ?_;refine n_t ?_;refine tr_ret ?_)
    first | with_reducible apply tr_retM | with_reducible apply tr_endM
    case he=>exact ends1 rfl rfl
    case hR=>
      intro w' hm'
      exact gives_end v trivial (by exact .cons .here .nil) hm' rfl
end Go.Proofs.A1
namespace Go.Proofs.A1
open Go Go.SL
def spBad (x:Cp):Prop:=(x.fr < 0 ∨ x.to ≤ x.fr) ∨ 10000000 < x.to
theorem spB_t {x:Cp} (h:spBad x):(decide (x.fr < 0) || (decide (x.to ≤ x.fr) || decide (10000000 < x.to))) = true:=by
  unfold spBad at h;simp only [Bool.or_eq_true,decide_eq_true_eq];omega
theorem spB_f {x:Cp} (h:¬ spBad x):(decide (x.fr < 0) || (decide (x.to ≤ x.fr) || decide (10000000 < x.to))) = false:=by
  unfold spBad at h;simp only [Bool.or_eq_false_iff,decide_eq_false_iff_not];omega
theorem cpE_1 {x:Cp} (h:spBad x):cpE x = 14:=by
  unfold cpE;rw [spB_t h];simp [whenF,firstF]
theorem cpE_2 {x:Cp} (h:¬ spBad x) (h2:firstF [withinF x.rw 0 7,withinF x.co 0 31] ≠ 0):cpE x = firstF [withinF x.rw 0 7,withinF x.co 0 31]:=by
  unfold cpE;rw [spB_f h]
  by_cases a:withinF x.rw 0 7 = 0 <;> by_cases b:withinF x.co 0 31 = 0 <;> simp_all [whenF,firstF]
theorem rc_z {x:Cp} (h2:firstF [withinF x.rw 0 7,withinF x.co 0 31] = 0):withinF x.rw 0 7 = 0 ∧ withinF x.co 0 31 = 0:=by
  rw [firstF_zero] at h2
  exact ⟨h2 _ (by simp),h2 _ (by simp)⟩
theorem cpE_3 {x:Cp} (h:¬ spBad x) (h2:firstF [withinF x.rw 0 7,withinF x.co 0 31] = 0):cpE x = firstF [whenF (decide (x.tx.size = 0)) 12,whenF (decide (32 < x.co + (x.tx.size:Int))) 26,whenF (badTx x.tx) 1]:=by
  obtain ⟨a,b⟩:=rc_z h2
  unfold cpE;rw [spB_f h,a,b];simp [whenF,firstF]
theorem cpE_4 {x:Cp} (h:¬ spBad x) (h2:firstF [withinF x.rw 0 7,withinF x.co 0 31] = 0) (h3:x.tx.size = 0):cpE x = 12:=by
  rw [cpE_3 h h2,decide_eq_true h3];simp [whenF,firstF]
theorem cpE_5 {x:Cp} (h:¬ spBad x) (h2:firstF [withinF x.rw 0 7,withinF x.co 0 31] = 0) (h3:x.tx.size ≠ 0) (h4:32 < x.co + (x.tx.size:Int)):cpE x = 26:=by
  rw [cpE_3 h h2,decide_eq_false h3,decide_eq_true h4];simp [whenF,firstF]
theorem cpE_6 {x:Cp} (h:¬ spBad x) (h2:firstF [withinF x.rw 0 7,withinF x.co 0 31] = 0) (h3:x.tx.size ≠ 0) (h4:¬ 32 < x.co + (x.tx.size:Int)):cpE x = if badTx x.tx = true then 1 else 0:=by
  rw [cpE_3 h h2,decide_eq_false h3,decide_eq_false h4];cases badTx x.tx <;> simp [whenF,firstF]
theorem badTx_at {s:ByteArray} {k:Nat} (hk:k < s.size) (h:bt s k < 32 ∨ 126 < bt s k):badTx s = true:=by
  cases hb:badTx s with
  | true=>rfl
  | false=>have:=badTx_no.1 hb k hk;omega
theorem cpAt_e {l:List Cp} {k:Nat} (hk:k < l.length) (h:cpE l[k] ≠ 0):cpAt l k = cpE l[k]:=by
  unfold cpAt
  rw [nthC_get hk]
  simp [firstF,h]
theorem cpAt_c {l:List Cp} {k:Nat} (hk:k < l.length) (hf:∀ i,i < k → cpAt l i = 0) (h:cpE l[k] = 0):cpAt l k = if ∃ j,∃ hj:j < k,cflQ l[k] (l[j]'(Nat.lt_trans hj hk)) = true then 24 else 0:=by
  have hok:=cpE_zero.1 h
  have hj:∀ j (hj:j < k),CpOk (l[j]'(Nat.lt_trans hj hk)):=fun j hj=>by
    have:=cpAt_ok (hf j hj)
    rwa [nthC_get (by omega)] at this
  unfold cpAt
  rw [nthC_get hk,h]
  by_cases he:∃ j,∃ hj:j < k,cflQ l[k] (l[j]'(Nat.lt_trans hj hk)) = true
  · rw [if_pos he]
    have:(l.take k).any (cfl l[k]) = true:=by
      obtain ⟨j,hjk,hc⟩:=he
      rw [List.any_eq_true]
      exact ⟨l[j],List.mem_take_iff_getElem.2 ⟨j,by omega,rfl⟩,by rw [cfl_iff hok (hj j hjk)];exact hc⟩
    rw [this];simp [firstF,whenF]
  · rw [if_neg he]
    have:(l.take k).any (cfl l[k]) = false:=by
      rw [List.any_eq_false]
      intro x hx
      obtain ⟨j,hjk,rfl⟩:=List.mem_take_iff_getElem.1 hx
      have hjk':j < k:=by omega
      rw [cfl_iff hok (hj j hjk')]
      exact fun hc=>he ⟨j,hjk',hc⟩
    rw [this];simp [firstF,whenF]
set_option maxHeartbeats 2000000 in
theorem capsQ_c {lv:Value} {l:List Cp} {w:World} (h:Rd w lv 5 (cps l)):GivesV Tryz.prog 64 [lv] w (.int .i64 (capE l)):=by
  obtain ⟨a,cp,b,o,rfl,hcap,hmax,ha,hc⟩:=h
  rw [cps_length] at *
  unfold maxLen at hmax
  refine givesV_of_tr Tryz.func64 rfl rfl ?_
  (refine s_r ?_;refine a_s rfl rfl ?_;refine n_t ?_;refine tr_seq ?_;refine s_r ?_;refine m_v rfl rfl ?_;refine tr_val (rk_len_slice (.of rfl)) rfl ?_;refine tr_val (rk_gtr (.of rfl) (.of rfl)) rfl ?_;refine n_t ?_;refine c_d rfl (fun hcd=>?_) (fun hcd=>?_);refine s_r ?_;refine a_s rfl rfl ?_;refine n_t ?_;refine r_t ?_;refine tr_retE rfl (ends1 rfl rfl) ?_;rotate_left;refine s_t ?_;refine tr_seq ?_;refine s_r ?_;refine a_s rfl rfl ?_;refine n_t ?_;refine tr_block ?_;rotate_right)
  · rw [capE,if_pos (by omega)]
  have hE:capE l = errE (cpAt l) l.length:=by rw [capE,if_neg (by omega)]
  rw [hE]
  clear hcd
  refine tr_for (fun k:Nat=>k ≤ l.length ∧ ∀ i,i < k → cpAt l i = 0) (fun k=>[(3,.int .i64 k),(0,.slice a l.length cp)]) (fun _=>[]) (fun k=>l.length - k) ?_ ?_
  · apply tr_start 0 ⟨Nat.zero_le _,fun i h=>by omega⟩
    case hs1=>exact .cons rfl (.cons rfl .nil)
    case ht=>(try simp only [List.take_zero,List.map_nil,List.nil_append]);exact .nil
  rintro k ⟨hk,hf⟩
  by_cases hlt:k < l.length
  · have ha':=ha (cps_ne hlt)
    have hcell:=(hc k _ (cps_get hlt)).2
    have hR:∀ c,c ≠ 0 → cpE l[k] = c → errE (cpAt l) l.length = c:=fun c h0 he=>by
      have:=cpAt_e hlt (by rw [he];exact h0)
      rw [errE_bad (fun i hi=>hf i hi) hlt (by rw [this,he];exact h0),this,he]
    have hR2:=cpAt_c hlt hf
    have hR3:∀ j (hj:j < k),cpE l[k] = 0 → cflQ l[k] (l[j]'(Nat.lt_trans hj hlt)) = true → errE (cpAt l) l.length = 24:=fun j hj h0 hq=>by
      have:=hR2 h0
      rw [if_pos ⟨j,hj,hq⟩] at this
      rw [errE_bad (fun i hi=>hf i hi) hlt (by rw [this];decide),this]
    have hR4:cpE l[k] = 0 → (∀ j (hj:j < k),cflQ l[k] (l[j]'(Nat.lt_trans hj hlt)) = false) → cpAt l k = 0:=fun h0 hq=>by
      have:=hR2 h0
      rwa [if_neg (fun ⟨j,hj,hx⟩=>by rw [hq j hj] at hx;cases hx)] at this
    have hokj:∀ j (hj:j < k),CpOk (l[j]'(Nat.lt_trans hj hlt)):=fun j hj=>by
      have:=cpAt_ok (hf j hj)
      rwa [nthC_get (by omega)] at this
    clear hR2
    generalize hx:l[k] = x at hcell hR hR3 hR4
    have hcl:∀ (y:Cp),CpOk x → CpOk y → ∀ w,GivesV Tryz.prog 129 [.agg x.cells.toArray,.agg y.cells.toArray] w (.bool (cflQ x y)):=fun y h1 h2 w=>conflictQ_c x y h1 h2 w
    dsimp only [Cp.cells] at hcell hcl
    (refine tr_seq ?_;refine s_r ?_;refine m_v rfl rfl ?_;refine m_v rfl rfl ?_;refine tr_val (rk_len_slice (.of rfl)) rfl ?_;refine tr_val (rk_lss (.of rfl) (.of rfl)) rfl ?_;refine n_t ?_;refine c_d rfl (fun hcd=>?_) (fun _=>by omega);refine s_t ?_;refine tr_seq ?_;refine tr_block ?_;refine s_r ?_;refine m_v rfl rfl ?_;refine m_v rfl rfl ?_;refine tr_val (rk_indexAddr (.of rfl) (.of rfl) ha' (by omega) hcd norm1_) rfl ?_;refine tr_val (rk_loadN (.of rfl) (Ats.base hcell rfl) rfl) rfl ?_;refine tr_new (rk_alloc rfl) rfl (fun _ _=>?_);refine tr_store (.of rfl) (.of rfl) .here rfl rfl (okc_cons rfl (okc_cons rfl (okc_cons rfl (okc_cons rfl (okc_cons rfl okc_nil))))) (lenb rfl) norm_ ?_;refine n_t ?_;refine tr_seq ?_;refine s_r ?_;refine f_a rfl rfl norm0_ ?_;refine f_a rfl rfl norm0_ ?_;refine tr_val (rk_load1 (.of rfl) (At.lit .here rfl)) rfl ?_;refine tr_val (rk_lss (.of rfl) (.of rfl)) rfl ?_;refine m_v rfl rfl ?_;refine tr_vG1 rfl rfl inferInstance (fun hg hgp=>(rk_fieldAddr (.of rfl) norm0_)) rfl ?_;refine tr_vG1 rfl rfl inferInstance (fun hg hgp=>(rk_fieldAddr (.ofg hg rfl) norm0_)) rfl ?_;refine tr_vG1 rfl rfl inferInstance (fun hg hgp=>(rk_load1 (.ofg hg rfl) (At.lit .here rfl))) rfl ?_;refine tr_vG1 rfl rfl inferInstance (fun hg hgp=>(rk_fieldAddr (.of rfl) norm0_)) rfl ?_;refine tr_vG1 rfl rfl inferInstance (fun hg hgp=>(rk_fieldAddr (.ofg hg rfl) norm0_)) rfl ?_;refine tr_vG1 rfl rfl inferInstance (fun hg hgp=>(rk_load1 (.ofg hg rfl) (At.lit .here rfl))) rfl ?_;refine tr_vG1 rfl rfl inferInstance (fun hg hgp=>(rk_geq (.ofg hg rfl) (.ofg hg rfl))) rfl ?_;refine tr_val (rk_pick_or (.of rfl) rfl) rfl ?_;refine m_v rfl rfl ?_;refine tr_vG1 rfl rfl inferInstance (fun hg hgp=>(rk_fieldAddr (.of rfl) norm0_)) rfl ?_;refine tr_vG1 rfl rfl inferInstance (fun hg hgp=>(rk_fieldAddr (.ofg hg rfl) norm0_)) rfl ?_;refine tr_vG1 rfl rfl inferInstance (fun hg hgp=>(rk_load1 (.ofg hg rfl) (At.lit .here rfl))) rfl ?_;refine tr_vG1 rfl rfl inferInstance (fun hg hgp=>(rk_gtr (.ofg hg rfl) (.of rfl))) rfl ?_;refine tr_val (rk_pick_or (.of rfl) rfl) rfl ?_;refine n_t ?_;refine c_b rfl (fun hcd=>?_) (fun hcd=>?_);refine s_r ?_;refine a_s rfl rfl ?_;refine n_t ?_;refine r_t ?_;refine tr_blk_ret ?_;refine tr_then_ret ?_;refine tr_then_ret ?_;refine tr_blk_ret ?_;refine tr_then_ret ?_;refine tr_retE rfl (ends1 rfl rfl) ?_;rotate_left;refine s_t ?_;refine tr_seq ?_;refine tr_seq ?_;rotate_right)
    · rw [hR 14 (by decide) (cpE_1 hcd)]
    have hsp:¬ spBad x:=by unfold spBad;omega
    rename_i bx _
    with_reducible refine tr_draw 6 (by kernel_rfl) ?_
    (refine a_f rfl rfl norm0_ ?_;refine any_val (rk_load1 (.of rfl) (At.lit .here rfl)) rfl ?_;refine any_call (rk_call (.of rfl) (.cons (.of rfl) (.cons (.of rfl) (.cons (.of rfl) .nil))) inferInstance normc_) rfl (fun w' hm'=>(range_q _ 0 7 w')) ?_;refine a_f rfl rfl norm0_ ?_;refine any_val (rk_load1 (.of rfl) (At.lit .here rfl)) rfl ?_;refine any_call (rk_call (.of rfl) (.cons (.of rfl) (.cons (.of rfl) (.cons (.of rfl) .nil))) inferInstance normc_) rfl (fun w' hm'=>(range_q _ 0 31 w')) ?_)
    with_reducible refine any_end ?_
    (refine tr_new (rk_sliceLit (.cons (.of rfl) (.cons (.of rfl) .nil)) rfl rfl rfl rfl) rfl (fun _ _=>?_);refine tr_callV (rk_call (.of rfl) (.cons (.of rfl) .nil) inferInstance normc_) rfl (fun w' hm'=>(first_qB (Mem.rdBlk hm' .here rfl rfl) (IntL.cons (IntL.cons IntL.nil)))) ?_;refine a_s rfl rfl ?_;refine n_r ?_;refine m_v rfl rfl ?_;refine tr_val (rk_neq (.of rfl) (.of rfl)) rfl ?_;refine n_t ?_;refine c_d rfl (fun hcd=>?_) (fun hcd=>?_);refine s_r ?_;refine m_v rfl rfl ?_;refine a_s rfl rfl ?_;refine n_t ?_;refine r_t ?_;refine tr_blk_ret ?_;refine tr_then_ret ?_;refine tr_then_ret ?_;refine tr_blk_ret ?_;refine tr_then_ret ?_;refine tr_retE rfl (ends1 rfl rfl) ?_;rotate_left;refine s_t ?_;refine tr_seq ?_;refine s_r ?_;refine f_a rfl rfl norm0_ ?_;refine tr_val (rk_load1 (.of rfl) (At.lit (.there .here) rfl)) rfl ?_;refine tr_val (rk_eqls (.of rfl) (.of rfl)) rfl ?_;refine n_t ?_;refine c_d rfl (fun hcd=>?_) (fun hcd=>?_);refine s_r ?_;refine a_s rfl rfl ?_;refine n_t ?_;refine r_t ?_;refine tr_blk_ret ?_;refine tr_then_ret ?_;refine tr_then_ret ?_;refine tr_blk_ret ?_;refine tr_then_ret ?_;refine tr_retE rfl (ends1 rfl rfl) ?_;rotate_left;refine s_t ?_;refine tr_seq ?_;refine s_r ?_;refine f_a rfl rfl norm0_ ?_;refine tr_val (rk_load1 (.of rfl) (At.lit (.there .here) rfl)) rfl ?_;refine tr_val (rk_len_string (.of rfl)) rfl ?_;refine f_a rfl rfl norm0_ ?_;refine tr_val (rk_load1 (.of rfl) (At.lit (.there .here) rfl)) rfl ?_;rotate_right;rotate_right)
    · rw [hR _ hcd (cpE_2 hsp hcd)]
    · have h2:firstF [withinF x.rw 0 7,withinF x.co 0 31] = 0:=Decidable.not_not.1 (by assumption)
      rw [hR 12 (by decide) (cpE_4 hsp h2 (ne_empty.2 hcd))]
    have h2:firstF [withinF x.rw 0 7,withinF x.co 0 31] = 0:=Decidable.not_not.1 (by assumption)
    have hne:x.tx.size ≠ 0:=fun h=>hcd (ne_empty.1 h)
    have hco:=withinF_zero.1 (rc_z h2).2
    clear hcd
    (refine tr_val (rk_sub (.of rfl) (.of rfl) (ini (by omega))) rfl ?_;refine tr_val (rk_gtr (.of rfl) (.of rfl)) rfl ?_;refine n_t ?_;refine c_d rfl (fun hcd=>?_) (fun hcd=>?_);refine s_r ?_;refine a_s rfl rfl ?_;refine n_t ?_;refine r_t ?_;refine tr_blk_ret ?_;refine tr_then_ret ?_;refine tr_then_ret ?_;refine tr_blk_ret ?_;refine tr_then_ret ?_;refine tr_retE rfl (ends1 rfl rfl) ?_;rotate_left;refine s_t ?_;refine tr_seq ?_;refine s_r ?_;refine a_s rfl rfl ?_;refine n_t ?_;refine tr_block ?_;rotate_right)
    · rw [hR 26 (by decide) (cpE_5 hsp h2 hne (by omega))]
    have hln:¬ 32 < x.co + (x.tx.size:Int):=by omega
    have h6:=cpE_6 hsp h2 hne hln
    clear hcd
    refine tr_for (fun j:Nat=>j ≤ x.tx.size ∧ ∀ i,i < j → ¬ (bt x.tx i < 32 ∨ 126 < bt x.tx i)) (fun j=>[(6,.int .i64 j),(4,.pointer (some ⟨bx,0,none⟩)),(3,.int .i64 k),(0,.slice a l.length cp)]) (fun _=>[blk bx (.cells #[.int .i64 x.fr,.int .i64 x.to,.int .i64 x.rw,.int .i64 x.co,.string x.tx] 117 (0,0))]) (fun j=>x.tx.size - j) ?_ ?_
    · apply tr_start 0 ⟨Nat.zero_le _,fun i h=>by omega⟩
      case hs1=>exact .cons rfl (.cons rfl (.cons rfl (.cons rfl .nil)))
      case ht=>(try simp only [List.take_zero,List.map_nil,List.nil_append]);exact .cons (.there .here) .nil
    rintro j ⟨hj,hfj⟩
    by_cases hlj:j < x.tx.size
    · have hbt:(((x.tx.data.toList[((j:Nat):Int).toNat]?.getD 0).toNat:Nat):Int) = bt x.tx j:=rfl
      (refine tr_seq ?_;refine s_r ?_;refine m_v rfl rfl ?_;refine f_a rfl rfl norm0_ ?_;refine tr_val (rk_load1 (.of rfl) (At.lit .here rfl)) rfl ?_;refine tr_val (rk_len_string (.of rfl)) rfl ?_;refine tr_val (rk_lss (.of rfl) (.of rfl)) rfl ?_;refine n_t ?_;refine c_d rfl (fun hcd=>?_) (fun _=>by omega);refine s_t ?_;refine tr_seq ?_;refine tr_block ?_;refine s_r ?_;refine f_a rfl rfl norm0_ ?_;refine tr_val (rk_load1 (.of rfl) (At.lit .here rfl)) rfl ?_;refine m_v rfl rfl ?_;refine tr_val (rk_indexS (.of rfl) (.of rfl) (by omega) hcd) rfl ?_;refine tr_val (rk_lss (.of rfl) (.of rfl)) rfl ?_;refine m_v rfl rfl ?_;refine tr_vG1 rfl rfl inferInstance (fun hg hgp=>(rk_fieldAddr (.of rfl) norm0_)) rfl ?_;refine tr_vG1 rfl rfl inferInstance (fun hg hgp=>(rk_load1 (.ofg hg rfl) (At.lit .here rfl))) rfl ?_;refine v_g rfl rfl rfl rfl ?_;refine tr_vG1 rfl rfl inferInstance (fun hg hgp=>(rk_indexS (.ofg hg rfl) (.ofg hg rfl) (by omega) hcd)) rfl ?_;refine tr_vG1 rfl rfl inferInstance (fun hg hgp=>(rk_gtr (.ofg hg rfl) (.of rfl))) rfl ?_;refine tr_val (rk_pick_or (.of rfl) rfl) rfl ?_;refine n_t ?_;refine c_b rfl (fun hcd=>?_) (fun hcd=>?_);refine s_r ?_;refine a_s rfl rfl ?_;refine n_t ?_;refine tr_ret ?_;refine tr_blk_ret ?_;refine tr_then_ret ?_;refine tr_then_ret ?_;refine tr_blk_ret ?_;refine tr_then_ret ?_;refine tr_blk_ret ?_;refine tr_then_ret ?_;refine tr_then_ret ?_;refine tr_blk_ret ?_;refine tr_then_ret ?_;refine tr_retE rfl (ends1 rfl rfl) ?_;rotate_left;refine tr_skip ?_;refine tr_blk_normal ?_;refine tr_then ?_;refine tr_region ?_;refine m_v rfl rfl ?_;refine tr_val (rk_add (.of rfl) (.of rfl) (ini (by omega))) rfl ?_;refine a_s rfl rfl ?_;refine n_t ?_;rotate_right)
      · rw [hbt] at hcd
        rw [hR 1 (by decide) (by rw [h6,if_pos (badTx_at hlj hcd)])]
      · rw [hbt] at hcd
        apply tr_next (j + 1) ⟨show j + 1 ≤ x.tx.size from hlj,fun i hi=>by
          by_cases e:i = j
          · rw [e];omega
          · exact hfj i (by omega)⟩ (show x.tx.size - (j + 1) < x.tx.size - j by omega)
        case hs1=>exact .cons rfl (.cons rfl (.cons rfl (.cons rfl .nil)))
        case ht=>(try simp only [List.take_zero,List.map_nil,List.nil_append]);exact .cons .here .nil
    · obtain rfl:j = x.tx.size:=by omega
      have hnb:badTx x.tx = false:=badTx_no.2 fun i hi=>by have:=hfj i hi;omega
      rw [hnb,if_neg (by decide)] at h6
      have hxok:=cpE_zero.1 h6
      (refine tr_seq ?_;refine s_r ?_;refine m_v rfl rfl ?_;refine f_a rfl rfl norm0_ ?_;refine tr_val (rk_load1 (.of rfl) (At.lit .here rfl)) rfl ?_;refine tr_val (rk_len_string (.of rfl)) rfl ?_;refine tr_val (rk_lss (.of rfl) (.of rfl)) rfl ?_;refine n_t ?_;refine c_d rfl (fun _=>by omega) (fun hcd=>?_);refine x_t ?_;refine tr_then_exit ?_;refine tr_blk_exit ?_;refine tr_then ?_;refine s_r ?_;refine a_s rfl rfl ?_;refine n_t ?_;refine tr_block ?_)
      refine tr_for (fun j:Nat=>j ≤ k ∧ ∀ i (hi:i < k),i < j → cflQ x (l[i]'(Nat.lt_trans hi hlt)) = false) (fun j=>[(7,.int .i64 j),(4,.pointer (some ⟨bx,0,none⟩)),(3,.int .i64 k),(0,.slice a l.length cp)]) (fun _=>[blk bx (.cells #[.int .i64 x.fr,.int .i64 x.to,.int .i64 x.rw,.int .i64 x.co,.string x.tx] 117 (0,0))]) (fun j=>k - j) ?_ ?_
      · apply tr_start 0 ⟨Nat.zero_le _,fun i _ h=>by omega⟩
        case hs1=>exact .cons rfl (.cons rfl (.cons rfl (.cons rfl .nil)))
        case ht=>(try simp only [List.take_zero,List.map_nil,List.nil_append]);exact .cons .here .nil
      rintro j ⟨hj2,hfj2⟩
      by_cases hjk:j < k
      · have hjl:j < l.length:=by omega
        have hcellj:=(hc j _ (cps_get hjl)).2
        have hcf:=hcl l[j] hxok (hokj j hjk)
        have hR3j:=hR3 j hjk h6
        generalize hq:cflQ x l[j] = q at hcf hR3j
        generalize hy:l[j] = y at hcellj hcf
        dsimp only [Cp.cells] at hcellj hcf
        (refine tr_seq ?_;refine s_r ?_;refine m_v rfl rfl ?_;refine m_v rfl rfl ?_;refine tr_val (rk_lss (.of rfl) (.of rfl)) rfl ?_;refine n_t ?_;refine c_d rfl (fun hcd=>?_) (fun _=>by omega);refine s_t ?_;refine tr_seq ?_;refine tr_block ?_;refine tr_seq ?_)
        with_reducible refine tr_draw 6 (by kernel_rfl) ?_
        (refine any_val (rk_loadB (.of rfl) .here norm_ (by rfl)) rfl ?_;refine a_m rfl rfl ?_;refine a_m rfl rfl ?_;refine any_val (rk_indexAddr (.of rfl) (.of rfl) ha' (by omega) (by omega) norm1_) rfl ?_;refine any_val (rk_loadN (.of rfl) (Ats.base hcellj rfl) rfl) rfl ?_;refine any_call (rk_call (.of rfl) (.cons (.of rfl) (.cons (.of rfl) .nil)) inferInstance normc_) rfl (fun w' hm'=>(hcf w')) ?_)
        with_reducible refine any_end ?_
        (refine n_t ?_;refine c_b rfl (fun hcd=>?_) (fun hcd=>?_);refine s_r ?_;refine a_s rfl rfl ?_;refine n_t ?_;refine tr_ret ?_;refine tr_blk_ret ?_;refine tr_then_ret ?_;refine tr_then_ret ?_;refine tr_blk_ret ?_;refine tr_blk_ret ?_;refine tr_then_ret ?_;refine tr_then_ret ?_;refine tr_blk_ret ?_;refine tr_then_ret ?_;refine tr_retE rfl (ends1 rfl rfl) ?_;rotate_left;refine tr_skip ?_;refine tr_blk_normal ?_;refine tr_then ?_;refine tr_region ?_;refine m_v rfl rfl ?_;refine tr_val (rk_add (.of rfl) (.of rfl) (ini (by omega))) rfl ?_;refine a_s rfl rfl ?_;refine n_t ?_;rotate_right)
        · rw [hR3j hcd]
        · apply tr_next (j + 1) ⟨show j + 1 ≤ k from hjk,fun i hi hij=>by
            by_cases e:i = j
            · subst e;rw [hq];first | exact hcd | assumption | (rename_i hz;simpa using hz)
            · exact hfj2 i hi (by omega)⟩ (show k - (j + 1) < k - j by omega)
          case hs1=>exact .cons rfl (.cons rfl (.cons rfl (.cons rfl .nil)))
          case ht=>(try simp only [List.take_zero,List.map_nil,List.nil_append]);exact .cons .here .nil
      · obtain rfl:j = k:=by omega
        have hz:=hR4 h6 (fun i hi=>hfj2 i hi hi)
        (refine tr_seq ?_;refine s_r ?_;refine m_v rfl rfl ?_;refine m_v rfl rfl ?_;refine tr_val (rk_lss (.of rfl) (.of rfl)) rfl ?_;refine n_t ?_;refine c_d rfl (fun _=>by omega) (fun hcd=>?_);refine x_t ?_;refine tr_then_exit ?_;refine tr_blk_exit ?_;refine tr_blk_normal ?_;refine tr_then ?_;refine tr_region ?_;refine m_v rfl rfl ?_;refine tr_val (rk_add (.of rfl) (.of rfl) (ini (by omega))) rfl ?_;refine a_s rfl rfl ?_;refine n_t ?_)
        apply tr_next (j + 1) ⟨show j + 1 ≤ l.length from hlt,fun i hi=>by
          by_cases e:i = j
          · rw [e];exact hz
          · exact hf i (by omega)⟩ (show l.length - (j + 1) < l.length - j by omega)
        case hs1=>exact .cons rfl (.cons rfl .nil)
        case ht=>(try simp only [List.take_zero,List.map_nil,List.nil_append]);exact .nil
  · obtain rfl:k = l.length:=by omega
    (refine tr_seq ?_;refine s_r ?_;refine m_v rfl rfl ?_;refine m_v rfl rfl ?_;refine tr_val (rk_len_slice (.of rfl)) rfl ?_;refine tr_val (rk_lss (.of rfl) (.of rfl)) rfl ?_;refine n_t ?_;refine c_d rfl (fun _=>by omega) (fun hcd=>?_);refine x_t ?_;refine tr_then_exit ?_;refine tr_blk_exit ?_;refine tr_then ?_;refine s_r ?_;refine a_s rfl rfl ?_;refine n_t ?_;refine tr_ret ?_;refine tr_retE rfl (ends1 rfl rfl) ?_)
    rw [errE_ok.2 hf]
end Go.Proofs.A1
namespace Go.Proofs.A1
open Go Go.SL
def sfB (r c:Int) (x:Cp):Bool:=decide (x.rw < r) || decide (7 - r < x.rw) || decide (x.co < c) || decide (32 - c < x.co + (x.tx.size:Int))
def sfK (l:List Cp) (r c:Int) (k:Nat):List Nat:=(List.range k).filter fun i=>sfB r c (nthC l i)
theorem sfK_succ (l:List Cp) (r c:Int) (k:Nat):sfK l r c (k + 1) = sfK l r c k++if sfB r c (nthC l k) then [k] else []:=by
  unfold sfK;rw [List.range_succ,List.filter_append,List.filter_cons];simp
theorem sfK_len (l:List Cp) (r c:Int) (k:Nat):(sfK l r c k).length ≤ k:=by
  unfold sfK
  have:=List.length_filter_le (fun i=>sfB r c (nthC l i)) (List.range k)
  rwa [List.length_range] at this
set_option maxHeartbeats 2000000 in
theorem safeQ_c {lv:Value} {l:List Cp} {r c:Int} {w:World} (h:Rd w lv 5 (cps l)) (hok:CapOk l) (hr:0 ≤ r ∧ r ≤ 3) (hc0:0 ≤ c ∧ c ≤ 15) :
    Gives Tryz.prog 67 [lv,.int .i64 r,.int .i64 c] w [] (fun _:Value=>True) id (fun v=>[row 3 1 v (sfK l r c l.length).length (natsV (sfK l r c l.length))]):=by
  have hfew:=hok.few
  obtain ⟨a,cp,b,o,rfl,hcap,hmax,ha,hc⟩:=h
  rw [cps_length] at *
  unfold maxLen at hmax
  refine gives_of_tr Tryz.func67 rfl rfl ?_
  (refine s_r ?_;refine a_s rfl rfl ?_;refine n_r ?_;refine a_s rfl rfl ?_;refine n_t ?_;refine tr_seq ?_;refine s_r ?_;refine a_s rfl rfl ?_;refine n_t ?_;refine tr_block ?_)
  refine tr_rowNil 3 1 ?_
  refine tr_for (ι:=Nat × Value) (fun x=>x.1 ≤ l.length) (fun x=>[(8,.int .i64 (x.1:Nat)),(0,.slice a l.length cp),(1,.int .i64 r),(2,.int .i64 c),(7,x.2)]) (fun x=>[row 3 1 x.2 (sfK l r c x.1).length (natsV (sfK l r c x.1))]) (fun x=>l.length - x.1) ?_ ?_
  · apply tr_start (0,.slice none 0 0) (Nat.zero_le _)
    case hs1=>exact .cons rfl (.cons rfl (.cons rfl (.cons rfl (.cons rfl .nil))))
    case ht=>
      show Takes _ [row 3 1 (.slice none 0 0) 0 []] _
      exact .cons .here .nil
  rintro ⟨k,v⟩ hk
  dsimp only at hk ⊢
  by_cases hlt:k < l.length
  · have ha':=ha (cps_ne hlt)
    have hcell:=(hc k _ (cps_get hlt)).2
    have hs:=sfK_succ l r c k
    have hl:=sfK_len l r c k
    have hx:=hok.ok k hlt
    rw [nthC_get hlt] at hs hx
    generalize l[k] = x at hcell hs hx
    have x1:=hx.rw;have x2:=hx.co;have x3:=hx.fit;have x4:=hx.ne
    dsimp only [Cp.cells] at hcell
    (refine tr_seq ?_;refine s_r ?_;refine m_v rfl rfl ?_;refine m_v rfl rfl ?_;refine tr_val (rk_len_slice (.of rfl)) rfl ?_;refine tr_val (rk_lss (.of rfl) (.of rfl)) rfl ?_;refine n_t ?_;refine c_d rfl (fun hcd=>?_) (fun _=>by omega);refine s_t ?_;refine tr_seq ?_;refine tr_block ?_;refine s_r ?_;refine m_v rfl rfl ?_;refine m_v rfl rfl ?_;refine tr_val (rk_indexAddr (.of rfl) (.of rfl) ha' (by omega) hcd norm1_) rfl ?_;refine tr_val (rk_loadN (.of rfl) (Ats.base hcell rfl) rfl) rfl ?_;refine tr_new (rk_alloc rfl) rfl (fun _ _=>?_);refine tr_store (.of rfl) (.of rfl) .here rfl rfl (okc_cons rfl (okc_cons rfl (okc_cons rfl (okc_cons rfl (okc_cons rfl okc_nil))))) (lenb rfl) norm_ ?_;refine n_r ?_;refine f_a rfl rfl norm0_ ?_;refine tr_val (rk_load1 (.of rfl) (At.lit .here rfl)) rfl ?_;refine m_v rfl rfl ?_;refine tr_val (rk_lss (.of rfl) (.of rfl)) rfl ?_;refine m_v rfl rfl ?_;refine tr_vG1 rfl rfl inferInstance (fun hg hgp=>(rk_fieldAddr (.of rfl) norm0_)) rfl ?_;refine tr_vG1 rfl rfl inferInstance (fun hg hgp=>(rk_load1 (.ofg hg rfl) (At.lit .here rfl))) rfl ?_;refine v_g rfl rfl rfl rfl ?_;refine tr_vG1 rfl rfl inferInstance (fun hg hgp=>(rk_sub (.of rfl) (.ofg hg rfl) (ini (by omega)))) rfl ?_;refine tr_vG1 rfl rfl inferInstance (fun hg hgp=>(rk_gtr (.ofg hg rfl) (.ofg hg rfl))) rfl ?_;refine tr_val (rk_pick_or (.of rfl) rfl) rfl ?_;refine m_v rfl rfl ?_;refine tr_vG1 rfl rfl inferInstance (fun hg hgp=>(rk_fieldAddr (.of rfl) norm0_)) rfl ?_;refine tr_vG1 rfl rfl inferInstance (fun hg hgp=>(rk_load1 (.ofg hg rfl) (At.lit .here rfl))) rfl ?_;refine v_g rfl rfl rfl rfl ?_;refine tr_vG1 rfl rfl inferInstance (fun hg hgp=>(rk_lss (.ofg hg rfl) (.ofg hg rfl))) rfl ?_;refine tr_val (rk_pick_or (.of rfl) rfl) rfl ?_;refine m_v rfl rfl ?_;refine tr_vG1 rfl rfl inferInstance (fun hg hgp=>(rk_fieldAddr (.of rfl) norm0_)) rfl ?_;refine tr_vG1 rfl rfl inferInstance (fun hg hgp=>(rk_load1 (.ofg hg rfl) (At.lit .here rfl))) rfl ?_;refine tr_vG1 rfl rfl inferInstance (fun hg hgp=>(rk_fieldAddr (.of rfl) norm0_)) rfl ?_;refine tr_vG1 rfl rfl inferInstance (fun hg hgp=>(rk_load1 (.ofg hg rfl) (At.lit .here rfl))) rfl ?_;refine tr_vG1 rfl rfl inferInstance (fun hg hgp=>(rk_len_string (.ofg hg rfl))) rfl ?_;refine tr_vG1 rfl rfl inferInstance (fun hg hgp=>(rk_add (.ofg hg rfl) (.ofg hg rfl) (ini (by omega)))) rfl ?_;refine tr_vG1 rfl rfl inferInstance (fun hg hgp=>(rk_sub (.ofg hg rfl) (.of rfl) (ini (by omega)))) rfl ?_;refine v_g rfl rfl rfl rfl ?_;refine tr_vG1 rfl rfl inferInstance (fun hg hgp=>(rk_sub (.of rfl) (.ofg hg rfl) (ini (by omega)))) rfl ?_;refine tr_vG1 rfl rfl inferInstance (fun hg hgp=>(rk_gtr (.ofg hg rfl) (.ofg hg rfl))) rfl ?_;refine tr_val (rk_pick_or (.of rfl) rfl) rfl ?_;refine n_t ?_;refine c_b rfl (fun hcd=>?_) (fun hcd=>?_);refine tr_region ?_;refine m_v rfl rfl ?_;refine m_v rfl rfl ?_;refine tr_new (rk_sliceLit (.cons (.of rfl) .nil) rfl rfl rfl rfl) rfl (fun _ _=>?_);rotate_left;refine tr_skip ?_;refine tr_blk_normal ?_;refine tr_then ?_;refine tr_region ?_;refine m_v rfl rfl ?_;refine tr_val (rk_add (.of rfl) (.of rfl) (ini (by omega))) rfl ?_;refine a_s rfl rfl ?_;refine n_t ?_;rotate_right)
    · have hb:sfB r c x = true:=by unfold sfB;simp only [Bool.or_eq_true,decide_eq_true_eq];omega
      rw [hb,if_pos rfl] at hs
      have hsv:natsV (sfK l r c (k + 1)) = natsV (sfK l r c k)++[.int .i64 (k:Nat)]:=by rw [hs,natsV_app];rfl
      have hsn:(sfK l r c (k + 1)).length = (sfK l r c k).length + 1:=by rw [hs];simp
      have hol:(natsV (sfK l r c k)).length = (sfK l r c k).length * 1:=natsV_len _
      refine tr_appendB (.of rfl) (.of rfl) (.there (.there .here)) .here norm_ (by rfl) (okc_cons rfl okc_nil) (by rfl) (by rfl) (by rfl) lenx_ (by rfl) ?_
      intro v'
      (refine a_s rfl rfl ?_;refine tr_nil ?_;refine tr_blk_normal ?_;refine tr_then ?_;refine tr_region ?_;refine m_v rfl rfl ?_;refine tr_val (rk_add (.of rfl) (.of rfl) (ini (by omega))) rfl ?_;refine a_s rfl rfl ?_;refine n_t ?_)
      apply tr_next (k + 1,v') (show k + 1 ≤ l.length by omega) (show l.length - (k + 1) < l.length - k by omega)
      case hs1=>exact .cons rfl (.cons rfl (.cons rfl (.cons rfl (.cons rfl .nil))))
      case ht=>
        show Takes _ [row 3 1 v' (sfK l r c (k + 1)).length (natsV (sfK l r c (k + 1)))] _
        rw [hsn,hsv]
        exact .cons .here .nil
    · have hb:sfB r c x = false:=by unfold sfB;simp only [Bool.or_eq_false_iff,decide_eq_false_iff_not];omega
      rw [hb,if_neg (by decide),List.append_nil] at hs
      apply tr_next (k + 1,v) (show k + 1 ≤ l.length by omega) (show l.length - (k + 1) < l.length - k by omega)
      case hs1=>exact .cons rfl (.cons rfl (.cons rfl (.cons rfl (.cons rfl .nil))))
      case ht=>
        show Takes _ [row 3 1 v (sfK l r c (k + 1)).length (natsV (sfK l r c (k + 1)))] _
        rw [hs]
        exact .cons (.there .here) .nil
  · obtain rfl:k = l.length:=by omega
    (refine tr_seq ?_;refine s_r ?_;refine m_v rfl rfl ?_;refine m_v rfl rfl ?_;refine tr_val (rk_len_slice (.of rfl)) rfl ?_;refine tr_val (rk_lss (.of rfl) (.of rfl)) rfl ?_;refine n_t ?_;refine c_d rfl (fun _=>by omega) (fun hcd=>?_);refine x_t ?_;refine tr_then_exit ?_;refine tr_blk_exit ?_;refine tr_then ?_;refine s_r ?_;refine m_v rfl rfl ?_;refine a_s rfl rfl ?_;refine n_t ?_;refine tr_ret ?_)
    first | with_reducible apply tr_retM | with_reducible apply tr_endM
    case he=>exact ends1 rfl rfl
    case hR=>
      intro w' hm'
      exact gives_end v trivial (by exact .cons .here .nil) hm' rfl
end Go.Proofs.A1
namespace Go.Proofs.A1
open Go Go.SL
def safE (l:List Cp) (r c:Int):Int:=firstF [capE l,withinF r 0 3,withinF c 0 15]
def safX (l:List Cp) (r c:Int):List Nat:=if safE l r c = 0 then sfK l r c l.length else []
theorem safE_zero {l:List Cp} {r c:Int}:safE l r c = 0 ↔ CapOk l ∧ (0 ≤ r ∧ r ≤ 3) ∧ (0 ≤ c ∧ c ≤ 15):=by
  unfold safE
  rw [firstF_zero]
  simp only [List.mem_cons,List.not_mem_nil,or_false,forall_eq_or_imp,forall_eq,withinF_zero,capE_zero]
set_option maxHeartbeats 2000000 in
theorem safe_c {lv:Value} {l:List Cp} {r c:Int} {w:World} (h:Rd w lv 5 (cps l)) (hsz:∀ x ∈ l,x.tx.size ≤ 1000000000) :
    Gives Tryz.prog 63 [lv,.int .i64 r,.int .i64 c] w [] (fun _:Value=>True) (fun v=>.tuple #[v,.int .i64 (safE l r c)]) (fun v=>[row 3 1 v (safX l r c).length (natsV (safX l r c))]):=by
  have h1:=h
  obtain ⟨a,cp,b,o,rfl,hcap,hmax,ha,hc⟩:=h1
  rw [cps_length] at *
  unfold maxLen at hmax
  have hfi:∀ (v:Value) w',Rd w' v 1 (ints [capE l,withinF r 0 3,withinF c 0 15]) → GivesV Tryz.prog 101 [v] w' (.int .i64 (safE l r c)):=fun v w' h=>first_c v _ w' h
  refine gives_of_tr Tryz.func63 rfl rfl ?_
  (refine s_r ?_;refine a_s rfl rfl ?_;refine a_s rfl rfl ?_;refine n_t ?_;refine tr_seq ?_;refine s_r ?_;refine m_v rfl rfl ?_;refine tr_callV (rk_call (.of rfl) (.cons (.of rfl) .nil) inferInstance normc_) rfl (fun w' hm'=>(chkCaps_c (Rd.keeps h (Mem.keeps hm')) hsz)) ?_;refine m_v rfl rfl ?_;refine tr_callV (rk_call (.of rfl) (.cons (.of rfl) (.cons (.of rfl) (.cons (.of rfl) .nil))) inferInstance normc_) rfl (fun w' hm'=>(within_c r 0 3 w')) ?_;refine m_v rfl rfl ?_;refine tr_callV (rk_call (.of rfl) (.cons (.of rfl) (.cons (.of rfl) (.cons (.of rfl) .nil))) inferInstance normc_) rfl (fun w' hm'=>(within_c c 0 15 w')) ?_;refine tr_new (rk_sliceLit (.cons (.of rfl) (.cons (.of rfl) (.cons (.of rfl) .nil))) rfl rfl rfl rfl) rfl (fun _ _=>?_);refine tr_callV (rk_call (.of rfl) (.cons (.of rfl) .nil) inferInstance normc_) rfl (fun w' hm'=>(hfi _ w' (Mem.rdBlk hm' .here rfl rfl))) ?_;refine a_s rfl rfl ?_;refine n_r ?_;refine m_v rfl rfl ?_;refine tr_val (rk_neq (.of rfl) (.of rfl)) rfl ?_;refine n_t ?_;refine c_d rfl (fun hcd=>?_) (fun hcd=>?_);refine s_r ?_;refine m_v rfl rfl ?_;refine a_s rfl rfl ?_;refine a_s rfl rfl ?_;refine n_t ?_;refine r_t ?_;rotate_left;refine s_t ?_;refine s_r ?_;refine a_s rfl rfl ?_;refine n_t ?_;refine tr_seq ?_;refine s_r ?_;refine m_v rfl rfl ?_;refine tr_val (rk_len_slice (.of rfl)) rfl ?_;refine m_v rfl rfl ?_;refine n_t ?_;refine tr_block ?_;rotate_right)
  · rw [safX,if_neg hcd]
    refine tr_rowNil 3 1 ?_
    first | with_reducible apply tr_retM | with_reducible apply tr_endM
    case he=>exact ends2 rfl rfl rfl
    case hR=>
      intro w' hm'
      exact gives_end (.slice none 0 0) trivial (show Takes _ [row 3 1 (.slice none 0 0) 0 []] _ by exact .cons .here .nil) hm' rfl
  have hz:safE l r c = 0:=Decidable.not_not.1 hcd
  obtain ⟨hok,hr,hc0⟩:=safE_zero.1 hz
  have hfew:=hok.few
  clear hfi
  rw [safX,if_pos hz,hz]
  refine tr_rowNil 3 1 ?_
  refine tr_for (ι:=Nat × Value) (fun x=>x.1 ≤ l.length) (fun x=>[(26,.int .i64 (x.1:Nat)),(25,.int .i64 l.length),(24,.slice a l.length cp),(1,.int .i64 r),(2,.int .i64 c),(9,x.2)]) (fun x=>[row 3 1 x.2 (sfK l r c x.1).length (natsV (sfK l r c x.1))]) (fun x=>l.length - x.1) ?_ ?_
  · apply tr_start (0,.slice none 0 0) (Nat.zero_le _)
    case hs1=>exact .cons rfl (.cons rfl (.cons rfl (.cons rfl (.cons rfl (.cons rfl .nil)))))
    case ht=>
      show Takes _ [row 3 1 (.slice none 0 0) 0 []] _
      exact .cons .here .nil
  rintro ⟨k,v⟩ hk
  dsimp only at hk ⊢
  by_cases hlt:k < l.length
  · have ha':=ha (cps_ne hlt)
    have hcell:=(hc k _ (cps_get hlt)).2
    have hs:=sfK_succ l r c k
    have hl:=sfK_len l r c k
    have hx:=hok.ok k hlt
    rw [nthC_get hlt] at hs hx
    generalize l[k] = x at hcell hs hx
    have x1:=hx.rw;have x2:=hx.co;have x3:=hx.fit;have x4:=hx.ne
    have hcw:∀ w,GivesV Tryz.prog 128 [.agg x.cells.toArray] w (.agg #[.int .i64 x.co,.int .i64 (x.co + (x.tx.size:Int))]):=fun w=>cols_c x (by omega) (by omega) w
    dsimp only [Cp.cells] at hcell hcw
    (refine s_r ?_;refine tr_val (rk_lss (.of rfl) (.of rfl)) rfl ?_;refine n_t ?_;refine tr_seq ?_;refine c_d rfl (fun hcd=>?_) (fun _=>by omega);refine s_t ?_;refine tr_seq ?_;refine tr_block ?_;refine s_r ?_;refine m_v rfl rfl ?_;refine tr_val (rk_indexAddr (.of rfl) (.of rfl) ha' (by omega) hcd norm1_) rfl ?_;refine tr_val (rk_loadN (.of rfl) (Ats.base hcell rfl) rfl) rfl ?_;refine tr_new (rk_alloc rfl) rfl (fun _ _=>?_);refine a_s rfl rfl ?_;refine tr_store (.of rfl) (.of rfl) .here rfl rfl (okc_cons rfl (okc_cons rfl (okc_cons rfl (okc_cons rfl (okc_cons rfl okc_nil))))) (lenb rfl) norm_ ?_;refine n_r ?_;refine tr_val (rk_loadB (.of rfl) .here norm_ (by rfl)) rfl ?_;refine tr_callV (rk_call (.of rfl) (.cons (.of rfl) .nil) inferInstance normc_) rfl (fun w' hm'=>(hcw w')) ?_;refine tr_new (rk_alloc rfl) rfl (fun _ _=>?_);refine tr_store (.of rfl) (.of rfl) .here rfl rfl (okc_cons rfl (okc_cons rfl okc_nil)) (lenb rfl) norm_ ?_;refine n_r ?_;refine f_a rfl rfl norm0_ ?_;refine tr_val (rk_load1 (.of rfl) (At.lit (.there .here) rfl)) rfl ?_;refine m_v rfl rfl ?_;refine tr_val (rk_lss (.of rfl) (.of rfl)) rfl ?_;refine m_v rfl rfl ?_;refine tr_vG1 rfl rfl inferInstance (fun hg hgp=>(rk_fieldAddr (.of rfl) norm0_)) rfl ?_;refine tr_vG1 rfl rfl inferInstance (fun hg hgp=>(rk_load1 (.ofg hg rfl) (At.lit (.there .here) rfl))) rfl ?_;refine v_g rfl rfl rfl rfl ?_;refine tr_vG1 rfl rfl inferInstance (fun hg hgp=>(rk_sub (.of rfl) (.ofg hg rfl) (ini (by omega)))) rfl ?_;refine tr_vG1 rfl rfl inferInstance (fun hg hgp=>(rk_gtr (.ofg hg rfl) (.ofg hg rfl))) rfl ?_;refine tr_val (rk_pick_or (.of rfl) rfl) rfl ?_;refine m_v rfl rfl ?_;refine tr_vG1 rfl rfl inferInstance (fun hg hgp=>(rk_fieldAddr (.of rfl) norm0_)) rfl ?_;refine tr_vG1 rfl rfl inferInstance (fun hg hgp=>(rk_load1 (.ofg hg rfl) (At.lit .here rfl))) rfl ?_;refine v_g rfl rfl rfl rfl ?_;refine tr_vG1 rfl rfl inferInstance (fun hg hgp=>(rk_lss (.ofg hg rfl) (.ofg hg rfl))) rfl ?_;refine tr_val (rk_pick_or (.of rfl) rfl) rfl ?_;refine m_v rfl rfl ?_;refine tr_vG1 rfl rfl inferInstance (fun hg hgp=>(rk_fieldAddr (.of rfl) norm0_)) rfl ?_;refine tr_vG1 rfl rfl inferInstance (fun hg hgp=>(rk_load1 (.ofg hg rfl) (At.lit .here rfl))) rfl ?_;refine v_g rfl rfl rfl rfl ?_;refine tr_vG1 rfl rfl inferInstance (fun hg hgp=>(rk_sub (.of rfl) (.ofg hg rfl) (ini (by omega)))) rfl ?_;refine tr_vG1 rfl rfl inferInstance (fun hg hgp=>(rk_gtr (.ofg hg rfl) (.ofg hg rfl))) rfl ?_;refine tr_val (rk_pick_or (.of rfl) rfl) rfl ?_;refine n_t ?_;refine c_b rfl (fun hcd=>?_) (fun hcd=>?_);refine tr_region ?_;refine m_v rfl rfl ?_;refine m_v rfl rfl ?_;refine tr_new (rk_sliceLit (.cons (.of rfl) .nil) rfl rfl rfl rfl) rfl (fun _ _=>?_);rotate_left;refine tr_skip ?_;refine tr_blk_normal ?_;refine tr_then ?_;refine tr_region ?_;refine tr_val (rk_add (.of rfl) (.of rfl) (ini (by omega))) rfl ?_;refine m_v rfl rfl ?_;refine n_t ?_;rotate_right)
    · have hb:sfB r c x = true:=by unfold sfB;simp only [Bool.or_eq_true,decide_eq_true_eq];omega
      rw [hb,if_pos rfl] at hs
      have hsv:natsV (sfK l r c (k + 1)) = natsV (sfK l r c k)++[.int .i64 (k:Nat)]:=by rw [hs,natsV_app];rfl
      have hsn:(sfK l r c (k + 1)).length = (sfK l r c k).length + 1:=by rw [hs];simp
      have hol:(natsV (sfK l r c k)).length = (sfK l r c k).length * 1:=natsV_len _
      refine tr_appendB (.of rfl) (.of rfl) (.there (.there (.there .here))) .here norm_ (by rfl) (okc_cons rfl okc_nil) (by rfl) (by rfl) (by rfl) lenx_ (by rfl) ?_
      intro v'
      (refine a_s rfl rfl ?_;refine tr_nil ?_;refine tr_blk_normal ?_;refine tr_then ?_;refine tr_region ?_;refine tr_val (rk_add (.of rfl) (.of rfl) (ini (by omega))) rfl ?_;refine m_v rfl rfl ?_;refine n_t ?_)
      apply tr_next (k + 1,v') (show k + 1 ≤ l.length by omega) (show l.length - (k + 1) < l.length - k by omega)
      case hs1=>exact .cons rfl (.cons rfl (.cons rfl (.cons rfl (.cons rfl (.cons rfl .nil)))))
      case ht=>
        show Takes _ [row 3 1 v' (sfK l r c (k + 1)).length (natsV (sfK l r c (k + 1)))] _
        rw [hsn,hsv]
        exact .cons .here .nil
    · have hb:sfB r c x = false:=by unfold sfB;simp only [Bool.or_eq_false_iff,decide_eq_false_iff_not];omega
      rw [hb,if_neg (by decide),List.append_nil] at hs
      apply tr_next (k + 1,v) (show k + 1 ≤ l.length by omega) (show l.length - (k + 1) < l.length - k by omega)
      case hs1=>exact .cons rfl (.cons rfl (.cons rfl (.cons rfl (.cons rfl (.cons rfl .nil)))))
      case ht=>
        show Takes _ [row 3 1 v (sfK l r c (k + 1)).length (natsV (sfK l r c (k + 1)))] _
        rw [hs]
        exact .cons (.there (.there .here)) .nil
  · obtain rfl:k = l.length:=by omega
    (refine s_r ?_;refine tr_val (rk_lss (.of rfl) (.of rfl)) rfl ?_;refine n_t ?_;refine tr_seq ?_;refine c_d rfl (fun _=>by omega) (fun hcd=>?_);refine x_t ?_;refine tr_then_exit ?_;refine tr_blk_exit ?_;refine tr_then ?_;refine s_r ?_;refine m_v rfl rfl ?_;refine a_s rfl rfl ?_;refine a_s rfl rfl ?_;refine n_t ?_;refine tr_ret ?_)
    first | with_reducible apply tr_retM | with_reducible apply tr_endM
    case he=>exact ends2 rfl rfl rfl
    case hR=>
      intro w' hm'
      exact gives_end v trivial (by exact .cons .here .nil) hm' rfl
end Go.Proofs.A1
namespace Go.Proofs.A1
open Go Go.SL
def colS (l:List Cp) (n:Int) (r c:Nat):ByteArray:=strB ((List.range c).map (shB l n (r:Nat)))
def outS (l:List Cp) (n:Int) (r c q:Nat):ByteArray:=if q < r then strB (rowB l n (q:Nat)) else if q = r then colS l n r c else ⟨#[]⟩
def outQ (l:List Cp) (n:Int) (r c:Nat):List Value:=(List.range 8).map fun q=>Value.string (outS l n r c q)
theorem outQ_len (l:List Cp) (n:Int) (r c:Nat):(outQ l n r c).length = 8:=by simp [outQ]
theorem outQ_get (l:List Cp) (n:Int) {r:Nat} (c:Nat) (h:r < 8):(outQ l n r c)[r]? = some (.string (colS l n r c)):=by
  unfold outQ
  rw [List.getElem?_map,List.getElem?_range h]
  simp [outS]
theorem colS_succ (l:List Cp) (n:Int) (r c:Nat):colS l n r (c + 1) = colS l n r c++strOf [shB l n (r:Nat) c]:=by
  unfold colS
  rw [List.range_succ,List.map_append,← strOf_strB,← strOf_strB]
  exact strOf_app _ _
theorem outQ_set (l:List Cp) (n:Int) {r:Nat} (c:Nat) (h:r < 8):(outQ l n r c).set r (.string (colS l n r (c + 1))) = outQ l n r (c + 1):=by
  apply List.ext_getElem?
  intro q
  unfold outQ
  by_cases e:q = r
  · subst e
    rw [List.getElem?_set_self (by simpa using h),List.getElem?_map,List.getElem?_range h]
    simp [outS]
  · rw [List.getElem?_set_ne (fun x=>e x.symm),List.getElem?_map,List.getElem?_map]
    rcases Nat.lt_or_ge q 8 with h8 | h8
    · rw [List.getElem?_range h8]
      simp [outS,e]
    · rw [List.getElem?_eq_none (by simpa using h8)];rfl
theorem outQ_row (l:List Cp) (n:Int) (r:Nat):outQ l n r 32 = outQ l n (r + 1) 0:=by
  unfold outQ
  refine List.map_congr_left fun q _=>?_
  unfold outS colS rowB
  by_cases h1:q < r
  · rw [if_pos h1,if_pos (by omega)]
  · rw [if_neg h1]
    by_cases h2:q = r
    · subst h2;rw [if_pos rfl,if_pos (by omega)]
    · rw [if_neg h2,if_neg (by omega)]
      by_cases h3:q = r + 1
      · rw [if_pos h3];rfl
      · rw [if_neg h3]
theorem outQ_zero (l:List Cp) (n:Int):outQ l n 0 0 = List.replicate 8 (.string ⟨#[]⟩):=by rfl
theorem outQ_end (l:List Cp) (n:Int):outQ l n 8 0 = (scrL l n).map Value.string:=by
  unfold outQ scrL
  rw [List.map_map]
  refine List.map_congr_left fun q hq=>?_
  have:=List.mem_range.1 hq
  unfold outS
  rw [if_pos this];rfl
end Go.Proofs.A1
