/- Parts of the proof: U3C U3D U3E GkPool. -/
import Derived.Test.YthhidjfahmcekaaGreatDoorHM19
import Derived.Test.YthhidjfahmcekaaGreatDoorHM06
import Derived.Test.YthhidjfahmcekaaGreatDoorHM12
import Derived.Test.YthhidjfahmcekaaGreatDoorHM10
import Derived.Test.YthhidjfahmcekaaGreatDoorHM05
set_option linter.unusedSectionVars false
set_option linter.unusedVariables false
set_option linter.unusedSimpArgs false
namespace Go.Proofs.A1
open Go Go.SL
instance decRt:DecidableEq Rt:=fun a b=>decidable_of_iff (a.fr = b.fr ∧ a.dr = b.dr) (by cases a;cases b;simp)
instance decLb:DecidableEq Lb:=fun a b=>decidable_of_iff (a.h = b.h ∧ a.m = b.m ∧ a.s = b.s ∧ a.f = b.f) (by cases a;cases b;simp)
instance decStm:DecidableEq Stm:=fun a b=>decidable_of_iff (a.ra = b.ra ∧ a.la = b.la ∧ a.us = b.us) (by cases a;cases b;simp)
theorem sameS_t {v1 v2:Value} {l m:List Stm} {w:World} (h1:Rd w v1 7 (stms l)) (h2:Rd w v2 7 (stms m)) :
    GivesV Tryz.prog 79 [v1,v2] w (.bool (decide (l = m))):=by
  obtain ⟨a1,cp1,b1,o1,rfl,hcap1,hmax1,ha1,hc1⟩:=h1
  obtain ⟨a2,cp2,b2,o2,rfl,hcap2,hmax2,ha2,hc2⟩:=h2
  rw [stms_length] at *
  rw [stms_length] at *
  unfold maxLen at hmax1 hmax2
  refine givesV_of_tr Tryz.func79 rfl rfl ?_
  (refine s_r ?_;refine a_s rfl rfl ?_;refine n_t ?_;refine tr_seq ?_;refine s_r ?_;refine m_v rfl rfl ?_;refine tr_val (rk_len_slice (.of rfl)) rfl ?_;refine m_v rfl rfl ?_;refine tr_val (rk_len_slice (.of rfl)) rfl ?_;refine tr_val (rk_neq (.of rfl) (.of rfl)) rfl ?_;refine n_t ?_;refine c_d rfl (fun hcd=>?_) (fun hcd=>?_);refine s_r ?_;refine a_s rfl rfl ?_;refine n_t ?_;refine r_t ?_;refine tr_retE rfl (ends1 rfl rfl) ?_;rotate_left;refine s_t ?_;refine tr_seq ?_;refine s_r ?_;refine a_s rfl rfl ?_;refine n_t ?_;refine tr_block ?_;rotate_right)
  · rw [decide_eq_false fun e=>hcd (by rw [e])]
  have hlm:l.length = m.length:=by omega
  refine tr_for (ι:=Nat) (fun k=>k ≤ l.length ∧ (l = m ↔ l.drop k = m.drop k)) (fun k=>[(5,.int .i64 (k:Int)),(0,.slice a1 l.length cp1),(1,.slice a2 m.length cp2)]) (fun _=>[]) (fun k=>l.length - k) ?_ ?_
  · apply tr_start (0:Nat) ⟨Nat.zero_le _,Iff.rfl⟩
    case hs1=>exact .cons rfl (.cons rfl (.cons rfl .nil))
    case ht=>(try simp only [List.take_zero,List.map_nil,List.nil_append]);exact .nil
  rintro k ⟨hk,hf⟩
  by_cases hlt:k < l.length
  · have hlt2:k < m.length:=by omega
    have ha1':=ha1 (stms_ne hlt)
    have ha2':=ha2 (stms_ne hlt2)
    have hcell1:=(hc1 k _ (stms_get hlt)).2
    have hcell2:=(hc2 k _ (stms_get hlt2)).2
    have hd:=drop_eq_of (l:=l) (m:=m) hlt hlt2
    have hdn:l[k] ≠ m[k] → l.drop k ≠ m.drop k:=fun hne e=>hne (by
      rw [List.drop_eq_getElem_cons hlt,List.drop_eq_getElem_cons hlt2] at e
      exact (List.cons.inj e).1)
    generalize l[k] = x at hcell1 hd hdn
    generalize m[k] = y at hcell2 hd hdn
    obtain ⟨⟨x0,x1⟩,⟨x2,x3,x4,x5⟩,x6⟩:=x
    obtain ⟨⟨y0,y1⟩,⟨y2,y3,y4,y5⟩,y6⟩:=y
    dsimp only [Stm.cells] at hcell1 hcell2
    (refine tr_seq ?_;refine s_r ?_;refine m_v rfl rfl ?_;refine m_v rfl rfl ?_;refine tr_val (rk_len_slice (.of rfl)) rfl ?_;refine tr_val (rk_lss (.of rfl) (.of rfl)) rfl ?_;refine n_t ?_;refine c_d rfl (fun hcd=>?_) (fun _=>by omega);refine s_t ?_;refine tr_seq ?_;refine tr_block ?_;refine tr_seq ?_)
    with_reducible refine tr_draw 9 (by kernel_rfl) ?_
    (refine a_m rfl rfl ?_;refine a_m rfl rfl ?_;refine any_val (rk_indexAddr (.of rfl) (.of rfl) ha1' (by omega) hcd norm1_) rfl ?_;refine any_val (rk_loadN (.of rfl) (Ats.base hcell1 rfl) rfl) rfl ?_;refine a_m rfl rfl ?_;refine a_m rfl rfl ?_;refine any_val (rk_indexAddr (.of rfl) (.of rfl) ha2' (by omega) (by omega) norm1_) rfl ?_;refine any_val (rk_loadN (.of rfl) (Ats.base hcell2 rfl) rfl) rfl ?_;refine any_val (rk_neqA (.of rfl) (.of rfl) (okL_int (okL_bool (okL_int (okL_int (okL_int (okL_int (okL_int okL_nil))))))) rfl) rfl ?_)
    with_reducible refine any_end ?_
    (refine n_t ?_;refine c_b rfl (fun hcd=>?_) (fun hcd=>?_);refine s_r ?_;refine a_s rfl rfl ?_;refine n_t ?_;refine tr_ret ?_;refine tr_blk_ret ?_;refine tr_then_ret ?_;refine tr_then_ret ?_;refine tr_blk_ret ?_;refine tr_then_ret ?_;refine tr_retE rfl (ends1 rfl rfl) ?_;rotate_left;refine tr_skip ?_;refine tr_blk_normal ?_;refine tr_then ?_;refine tr_region ?_;refine m_v rfl rfl ?_;refine tr_val (rk_add (.of rfl) (.of rfl) (ini (by omega))) rfl ?_;refine a_s rfl rfl ?_;refine n_t ?_;rotate_right)
    · have hne:(⟨⟨x0,x1⟩,⟨x2,x3,x4,x5⟩,x6⟩:Stm) ≠ ⟨⟨y0,y1⟩,⟨y2,y3,y4,y5⟩,y6⟩:=by
        rintro e
        cases e
        simp at hcd
      rw [decide_eq_false fun e=>hdn hne (hf.1 e)]
    · have he:(⟨⟨x0,x1⟩,⟨x2,x3,x4,x5⟩,x6⟩:Stm) = ⟨⟨y0,y1⟩,⟨y2,y3,y4,y5⟩,y6⟩:=by
        simp at hcd
        obtain ⟨e0,e1,e2,e3,e4,e5,e6⟩:=hcd
        subst e0 e1 e2 e3 e4 e5 e6
        rfl
      clear hcd
      apply tr_next (k + 1) ⟨(show k + 1 ≤ l.length from hlt),hf.trans (hd he)⟩ (show l.length - (k + 1) < l.length - k by omega)
      case hs1=>exact .cons rfl (.cons rfl (.cons rfl .nil))
      case ht=>(try simp only [List.take_zero,List.map_nil,List.nil_append]);exact .nil
  · obtain rfl:k = l.length:=by omega
    have:l = m:=hf.2 (by rw [List.drop_length,hlm,List.drop_length])
    (refine tr_seq ?_;refine s_r ?_;refine m_v rfl rfl ?_;refine m_v rfl rfl ?_;refine tr_val (rk_len_slice (.of rfl)) rfl ?_;refine tr_val (rk_lss (.of rfl) (.of rfl)) rfl ?_;refine n_t ?_;refine c_d rfl (fun _=>by omega) (fun hcd=>?_);refine x_t ?_;refine tr_then_exit ?_;refine tr_blk_exit ?_;refine tr_then ?_;refine s_r ?_;refine a_s rfl rfl ?_;refine n_t ?_;refine tr_ret ?_;refine tr_retE rfl (ends1 rfl rfl) ?_)
    rw [decide_eq_true this]
theorem stampsV_c {lv:Value} {l:List Stm} {w:World} (h:Rd w lv 7 (stms l)) (hfew:l.length ≤ 4000) :
    Gives Tryz.prog 74 [lv] w [] (fun _:Value=>True) id (fun v=>[row 55 7 v l.length (stmsV l)]):=by
  obtain ⟨a,cp,b,o,rfl,hcap,hmax,ha,hc⟩:=h
  rw [stms_length] at *
  unfold maxLen at hmax
  refine gives_of_tr Tryz.func74 rfl rfl ?_
  (refine s_r ?_;refine a_s rfl rfl ?_;refine n_r ?_;refine a_s rfl rfl ?_;refine n_t ?_;refine tr_seq ?_;refine s_r ?_;refine m_v rfl rfl ?_;refine tr_val (rk_len_slice (.of rfl)) rfl ?_;refine m_v rfl rfl ?_;refine n_t ?_;refine tr_block ?_)
  refine tr_rowNil 55 7 ?_
  refine tr_for (ι:=Nat × Value) (fun x=>x.1 ≤ l.length) (fun x=>[(8,.int .i64 x.1),(7,.int .i64 l.length),(6,.slice a l.length cp),(3,x.2)]) (fun x=>[row 55 7 x.2 x.1 (stmsV (l.take x.1))]) (fun x=>l.length - x.1) ?_ ?_
  · apply tr_start (0,.slice none 0 0) (Nat.zero_le _)
    case hs1=>exact .cons rfl (.cons rfl (.cons rfl (.cons rfl .nil)))
    case ht=>
      show Takes _ [row 55 7 (.slice none 0 0) 0 []] _
      exact .cons .here .nil
  rintro ⟨k,v⟩ hk
  dsimp only at hk ⊢
  by_cases hlt:k < l.length
  · have ha':=ha (stms_ne hlt)
    have hcell:=(hc k _ (stms_get hlt)).2
    have htk:=stmsV_take hlt
    have hlk:(l.take k).length = k:=List.length_take_of_le (by omega)
    have hol:(stmsV (l.take k)).length = k * 7:=by rw [stmsV_len,hlk]
    have hcl:∀ w,GivesV Tryz.prog 35 [.agg (l[k]).cells.toArray] w (.agg (l[k]).cells.toArray):=fun w=>given_v _ w
    generalize l[k] = x at hcell htk hcl
    obtain ⟨⟨x0,x1⟩,⟨x2,x3,x4,x5⟩,x6⟩:=x
    dsimp only [Stm.cells] at hcell htk hcl
    (refine s_r ?_;refine tr_val (rk_lss (.of rfl) (.of rfl)) rfl ?_;refine n_t ?_;refine tr_seq ?_;refine c_d rfl (fun hcd=>?_) (fun _=>by omega);refine s_t ?_;refine tr_seq ?_;refine tr_block ?_;refine s_r ?_;refine tr_val (rk_indexAddr (.of rfl) (.of rfl) ha' (by omega) hcd norm1_) rfl ?_;refine tr_val (rk_loadN (.of rfl) (Ats.base hcell rfl) rfl) rfl ?_;refine tr_new (rk_alloc rfl) rfl (fun _ _=>?_);refine tr_store (.of rfl) (.of rfl) .here rfl rfl (okc_cons rfl (okc_cons rfl (okc_cons rfl (okc_cons rfl (okc_cons rfl (okc_cons rfl (okc_cons rfl okc_nil))))))) (lenb rfl) norm_ ?_;refine n_t ?_;refine tr_region ?_;refine m_v rfl rfl ?_;refine tr_val (rk_loadB (.of rfl) .here norm_ (by rfl)) rfl ?_;refine tr_callV (rk_call (.of rfl) (.cons (.of rfl) .nil) inferInstance normc_) rfl (fun w' hm'=>(hcl w')) ?_;refine tr_new (rk_sliceLitN (.cons (.of rfl) .nil) rfl rfl normp_ normp_ norm_) rfl (fun _ _=>?_))
    refine tr_appendB (.of rfl) (.of rfl) (.there (.there .here)) .here norm_ (by rfl) (okc_cons rfl (okc_cons rfl (okc_cons rfl (okc_cons rfl (okc_cons rfl (okc_cons rfl (okc_cons rfl okc_nil))))))) (by rfl) (by rfl) (by rfl) lenx_ (by rfl) ?_
    intro v'
    (refine a_s rfl rfl ?_;refine tr_nil ?_;refine tr_blk_normal ?_;refine tr_then ?_;refine tr_region ?_;refine tr_val (rk_add (.of rfl) (.of rfl) (ini (by omega))) rfl ?_;refine m_v rfl rfl ?_;refine n_t ?_)
    apply tr_next (k + 1,v') (by show k + 1 ≤ l.length;omega) (by show l.length - (k + 1) < l.length - k;omega)
    case hs1=>exact .cons rfl (.cons rfl (.cons rfl (.cons rfl .nil)))
    case ht=>
      show Takes _ [row 55 7 v' (k + 1) (stmsV (l.take (k + 1)))] _
      rw [htk]
      exact .cons .here .nil
  · obtain rfl:k = l.length:=by omega
    rw [List.take_length]
    (refine s_r ?_;refine tr_val (rk_lss (.of rfl) (.of rfl)) rfl ?_;refine n_t ?_;refine tr_seq ?_;refine c_d rfl (fun _=>by omega) (fun hcd=>?_);refine x_t ?_;refine tr_then_exit ?_;refine tr_blk_exit ?_;refine tr_then ?_;refine s_r ?_;refine m_v rfl rfl ?_;refine a_s rfl rfl ?_;refine n_t ?_;refine tr_ret ?_)
    first | with_reducible apply tr_retM | with_reducible apply tr_endM
    case he=>exact ends1 rfl rfl
    case hR=>
      intro w' hm'
      exact gives_end v trivial (by exact .cons .here .nil) hm' rfl
theorem heardV_c {lv:Value} {l:List Stm} {w:World} (h:Rd w lv 7 (stms l)) (hfew:l.length ≤ 4000) :
    Gives Tryz.prog 80 [lv] w [] (fun _:Value=>True) id (fun v=>[row 50 7 v l.length (stmsV l)]):=by
  obtain ⟨a,cp,b,o,rfl,hcap,hmax,ha,hc⟩:=h
  rw [stms_length] at *
  unfold maxLen at hmax
  refine gives_of_tr Tryz.func80 rfl rfl ?_
  (refine s_r ?_;refine a_s rfl rfl ?_;refine n_r ?_;refine a_s rfl rfl ?_;refine n_t ?_;refine tr_seq ?_;refine s_r ?_;refine m_v rfl rfl ?_;refine tr_val (rk_len_slice (.of rfl)) rfl ?_;refine m_v rfl rfl ?_;refine n_t ?_;refine tr_block ?_)
  refine tr_rowNil 50 7 ?_
  refine tr_for (ι:=Nat × Value) (fun x=>x.1 ≤ l.length) (fun x=>[(8,.int .i64 x.1),(7,.int .i64 l.length),(6,.slice a l.length cp),(3,x.2)]) (fun x=>[row 50 7 x.2 x.1 (stmsV (l.take x.1))]) (fun x=>l.length - x.1) ?_ ?_
  · apply tr_start (0,.slice none 0 0) (Nat.zero_le _)
    case hs1=>exact .cons rfl (.cons rfl (.cons rfl (.cons rfl .nil)))
    case ht=>
      show Takes _ [row 50 7 (.slice none 0 0) 0 []] _
      exact .cons .here .nil
  rintro ⟨k,v⟩ hk
  dsimp only at hk ⊢
  by_cases hlt:k < l.length
  · have ha':=ha (stms_ne hlt)
    have hcell:=(hc k _ (stms_get hlt)).2
    have htk:=stmsV_take hlt
    have hlk:(l.take k).length = k:=List.length_take_of_le (by omega)
    have hol:(stmsV (l.take k)).length = k * 7:=by rw [stmsV_len,hlk]
    have hcl:∀ w,GivesV Tryz.prog 41 [.agg (l[k]).cells.toArray] w (.agg (l[k]).cells.toArray):=fun w=>told_v _ w
    generalize l[k] = x at hcell htk hcl
    obtain ⟨⟨x0,x1⟩,⟨x2,x3,x4,x5⟩,x6⟩:=x
    dsimp only [Stm.cells] at hcell htk hcl
    (refine s_r ?_;refine tr_val (rk_lss (.of rfl) (.of rfl)) rfl ?_;refine n_t ?_;refine tr_seq ?_;refine c_d rfl (fun hcd=>?_) (fun _=>by omega);refine s_t ?_;refine tr_seq ?_;refine tr_block ?_;refine s_r ?_;refine tr_val (rk_indexAddr (.of rfl) (.of rfl) ha' (by omega) hcd norm1_) rfl ?_;refine tr_val (rk_loadN (.of rfl) (Ats.base hcell rfl) rfl) rfl ?_;refine tr_new (rk_alloc rfl) rfl (fun _ _=>?_);refine tr_store (.of rfl) (.of rfl) .here rfl rfl (okc_cons rfl (okc_cons rfl (okc_cons rfl (okc_cons rfl (okc_cons rfl (okc_cons rfl (okc_cons rfl okc_nil))))))) (lenb rfl) norm_ ?_;refine n_t ?_;refine tr_region ?_;refine m_v rfl rfl ?_;refine tr_val (rk_loadB (.of rfl) .here norm_ (by rfl)) rfl ?_;refine tr_callV (rk_call (.of rfl) (.cons (.of rfl) .nil) inferInstance normc_) rfl (fun w' hm'=>(hcl w')) ?_;refine tr_new (rk_sliceLitN (.cons (.of rfl) .nil) rfl rfl normp_ normp_ norm_) rfl (fun _ _=>?_))
    refine tr_appendB (.of rfl) (.of rfl) (.there (.there .here)) .here norm_ (by rfl) (okc_cons rfl (okc_cons rfl (okc_cons rfl (okc_cons rfl (okc_cons rfl (okc_cons rfl (okc_cons rfl okc_nil))))))) (by rfl) (by rfl) (by rfl) lenx_ (by rfl) ?_
    intro v'
    (refine a_s rfl rfl ?_;refine tr_nil ?_;refine tr_blk_normal ?_;refine tr_then ?_;refine tr_region ?_;refine tr_val (rk_add (.of rfl) (.of rfl) (ini (by omega))) rfl ?_;refine m_v rfl rfl ?_;refine n_t ?_)
    apply tr_next (k + 1,v') (by show k + 1 ≤ l.length;omega) (by show l.length - (k + 1) < l.length - k;omega)
    case hs1=>exact .cons rfl (.cons rfl (.cons rfl (.cons rfl .nil)))
    case ht=>
      show Takes _ [row 50 7 v' (k + 1) (stmsV (l.take (k + 1)))] _
      rw [htk]
      exact .cons .here .nil
  · obtain rfl:k = l.length:=by omega
    rw [List.take_length]
    (refine s_r ?_;refine tr_val (rk_lss (.of rfl) (.of rfl)) rfl ?_;refine n_t ?_;refine tr_seq ?_;refine c_d rfl (fun _=>by omega) (fun hcd=>?_);refine x_t ?_;refine tr_then_exit ?_;refine tr_blk_exit ?_;refine tr_then ?_;refine s_r ?_;refine m_v rfl rfl ?_;refine a_s rfl rfl ?_;refine n_t ?_;refine tr_ret ?_)
    first | with_reducible apply tr_retM | with_reducible apply tr_endM
    case he=>exact ends1 rfl rfl
    case hR=>
      intro w' hm'
      exact gives_end v trivial (by exact .cons .here .nil) hm' rfl
theorem stsQ_c {lv:Value} {l:List Stm} {w:World} (h:Rd w lv 7 (stms l)):GivesV Tryz.prog 75 [lv] w (.int .i64 (stsE l)):=by
  obtain ⟨a,cp,b,o,rfl,hcap,hmax,ha,hc⟩:=h
  rw [stms_length] at *
  unfold maxLen at hmax
  refine givesV_of_tr Tryz.func75 rfl rfl ?_
  (refine s_r ?_;refine a_s rfl rfl ?_;refine n_t ?_;refine tr_seq ?_;refine s_r ?_;refine m_v rfl rfl ?_;refine tr_val (rk_len_slice (.of rfl)) rfl ?_;refine tr_val (rk_gtr (.of rfl) (.of rfl)) rfl ?_;refine n_t ?_;refine c_d rfl (fun hcd=>?_) (fun hcd=>?_);refine s_r ?_;refine a_s rfl rfl ?_;refine n_t ?_;refine r_t ?_;refine tr_retE rfl (ends1 rfl rfl) ?_;rotate_left;refine s_t ?_;refine tr_seq ?_;refine s_r ?_;refine a_s rfl rfl ?_;refine n_t ?_;refine tr_block ?_;rotate_right)
  · rw [stsE,if_pos (by omega)]
  have hs:stsE l = errE (fun k=>stmE (nthS l k)) l.length:=by rw [stsE,if_neg (by omega)]
  rw [hs]
  clear hcd
  refine tr_for (fun k:Nat=>k ≤ l.length ∧ ∀ i,i < k → stmE (nthS l i) = 0) (fun k=>[(3,.int .i64 k),(0,.slice a l.length cp)]) (fun _=>[]) (fun k=>l.length - k) ?_ ?_
  · apply tr_start 0 ⟨Nat.zero_le _,fun i hi=>absurd hi (by omega)⟩
    case hs1=>exact .cons rfl (.cons rfl .nil)
    case ht=>(try simp only [List.take_zero,List.map_nil,List.nil_append]);exact .nil
  rintro k ⟨hk,hf⟩
  by_cases hlt:k < l.length
  · have ha':=ha (stms_ne hlt)
    have hcell:=(hc k _ (stms_get hlt)).2
    have hat:nthS l k = l[k]:=nthS_get hlt
    have hcl:∀ w,GivesV Tryz.prog 37 [.agg (l[k]).cells.toArray] w (.int .i64 (stmE l[k])):=fun w=>stmQ_c _ w
    generalize hE:stmE l[k] = E at hcl
    generalize l[k] = x at hcell hcl hat hE
    obtain ⟨⟨x0,x1⟩,⟨x2,x3,x4,x5⟩,x6⟩:=x
    dsimp only [Stm.cells] at hcell hcl
    (refine tr_seq ?_;refine s_r ?_;refine m_v rfl rfl ?_;refine m_v rfl rfl ?_;refine tr_val (rk_len_slice (.of rfl)) rfl ?_;refine tr_val (rk_lss (.of rfl) (.of rfl)) rfl ?_;refine n_t ?_;refine c_d rfl (fun hcd=>?_) (fun _=>by omega);refine s_t ?_;refine tr_seq ?_;refine tr_block ?_;refine s_r ?_;refine m_v rfl rfl ?_;refine m_v rfl rfl ?_;refine tr_val (rk_indexAddr (.of rfl) (.of rfl) ha' (by omega) hcd norm1_) rfl ?_;refine tr_val (rk_loadN (.of rfl) (Ats.base hcell rfl) rfl) rfl ?_;refine tr_callV (rk_call (.of rfl) (.cons (.of rfl) .nil) inferInstance normc_) rfl (fun w' hm'=>(hcl w')) ?_;refine a_s rfl rfl ?_;refine n_r ?_;refine m_v rfl rfl ?_;refine tr_val (rk_neq (.of rfl) (.of rfl)) rfl ?_;refine n_t ?_;refine c_d rfl (fun hcd=>?_) (fun hcd=>?_);refine s_r ?_;refine m_v rfl rfl ?_;refine a_s rfl rfl ?_;refine n_t ?_;refine tr_ret ?_;refine tr_blk_ret ?_;refine tr_then_ret ?_;refine tr_then_ret ?_;refine tr_blk_ret ?_;refine tr_then_ret ?_;refine tr_retE rfl (ends1 rfl rfl) ?_;rotate_left;refine tr_skip ?_;refine tr_blk_normal ?_;refine tr_then ?_;refine tr_region ?_;refine m_v rfl rfl ?_;refine tr_val (rk_add (.of rfl) (.of rfl) (ini (by omega))) rfl ?_;refine a_s rfl rfl ?_;refine n_t ?_;rotate_right)
    · rw [errE_bad (fun i hi=>hf i hi) hlt (by rw [hat,hE];exact hcd),hat,hE]
    · apply tr_next (k + 1) ⟨show k + 1 ≤ l.length from hlt,fun i hi=>by
        by_cases e:i = k
        · rw [e,hat,hE];exact Decidable.not_not.1 hcd
        · exact hf i (by omega)⟩ (show l.length - (k + 1) < l.length - k by omega)
      case hs1=>exact .cons rfl (.cons rfl .nil)
      case ht=>(try simp only [List.take_zero,List.map_nil,List.nil_append]);exact .nil
  · obtain rfl:k = l.length:=by omega
    (refine tr_seq ?_;refine s_r ?_;refine m_v rfl rfl ?_;refine m_v rfl rfl ?_;refine tr_val (rk_len_slice (.of rfl)) rfl ?_;refine tr_val (rk_lss (.of rfl) (.of rfl)) rfl ?_;refine n_t ?_;refine c_d rfl (fun _=>by omega) (fun hcd=>?_);refine x_t ?_;refine tr_then_exit ?_;refine tr_blk_exit ?_;refine tr_then ?_;refine s_r ?_;refine a_s rfl rfl ?_;refine n_t ?_;refine tr_ret ?_;refine tr_retE rfl (ends1 rfl rfl) ?_)
    rw [errE_ok.2 hf]
end Go.Proofs.A1
namespace Go.Proofs.A1
open Go Go.SL
theorem readQ_c (W:List Int) (hl:W.length = 10) (hb:∀ x ∈ W,0 ≤ x ∧ x ≤ 255) (w:World):GivesV Tryz.prog 39 [.agg (wcells W).toArray] w (.tuple #[.agg (rdF W).cells.toArray,.int .i64 (rdE W)]):=by
  match W,hl with
  | [a0,a1,a2,a3,a4,a5,a6,a7,a8,a9],_=>exact readQ10_c a0 a1 a2 a3 a4 a5 a6 a7 a8 a9 hb w
theorem trnQ_in {b:Int} (hb:0 ≤ b):∀ k:Nat,0 ≤ trnQ b k ∧ trnQ b k ≤ 2 ^ k - 1
  | 0=>by unfold trnQ;omega
  | k + 1 => by
    have:=trnQ_in hb k
    unfold trnQ
    rw [Int.pow_succ]
    omega
theorem revL_at {l:List Int} {k:Nat} (h:k < l.length):(revL l).take (k + 1) = (revL l).take k++[trnQ (l[l.length - 1 - k]'(by omega)) 8]:=by
  have hl:k < (revL l).length:=by rw [revL_len];exact h
  rw [List.take_succ_eq_append_getElem hl]
  congr 2
  simp [revL]
set_option maxHeartbeats 2000000 in
theorem revQ_c {sv:Value} {l:List Int} {w:World} (h:Rd w sv 1 (byts l)) (hby:∀ x ∈ l,0 ≤ x ∧ x ≤ 255) (hfew:l.length ≤ 4000) :
    Gives Tryz.prog 76 [sv] w [] (fun _:Value=>True) id (fun v=>[row 5 1 v (revL l).length (bytsV (revL l))]):=by
  obtain ⟨a,cap,b,o,rfl,hcap,hmax,ha,hc⟩:=h
  rw [byts_length] at *
  unfold maxLen at hmax
  refine gives_of_tr Tryz.func76 rfl rfl ?_
  (refine s_r ?_;refine a_s rfl rfl ?_;refine n_r ?_;refine a_s rfl rfl ?_;refine n_t ?_;refine tr_seq ?_;refine s_r ?_;refine m_v rfl rfl ?_;refine tr_val (rk_len_slice (.of rfl)) rfl ?_;refine tr_val (rk_sub (.of rfl) (.of rfl) (ini (by omega))) rfl ?_;refine a_s rfl rfl ?_;refine n_t ?_;refine tr_block ?_)
  refine tr_rowNil 5 1 ?_
  refine tr_for (ι:=Nat × Value) (fun x=>x.1 ≤ l.length) (fun x=>[(4,.int .i64 ((l.length:Int) - 1 - (x.1:Nat))),(0,.slice a l.length cap),(3,x.2)]) (fun x=>[row 5 1 x.2 x.1 (bytsV ((revL l).take x.1))]) (fun x=>l.length - x.1) ?_ ?_
  · rw [show (Value.int .i64 ((l.length:Int) - 1)) = .int .i64 ((l.length:Int) - 1 - ((0:Nat):Int)) by simp]
    apply tr_start (0,.slice none 0 0) (Nat.zero_le _)
    case hs1=>exact .cons rfl (.cons rfl (.cons rfl .nil))
    case ht=>
      show Takes _ [row 5 1 (.slice none 0 0) 0 []] _
      exact .cons .here .nil
  rintro ⟨k,v⟩ hk
  dsimp only at hk ⊢
  by_cases hlt:k < l.length
  · have ha':=ha (byts_ne hlt)
    have hlj:l.length - 1 - k < l.length:=by omega
    have ej:((l.length:Int) - 1 - (k:Nat)).toNat = l.length - 1 - k:=by omega
    have c0:w.cell? ⟨b,o + ((l.length:Int) - 1 - (k:Nat)).toNat * 1,none⟩ = some (.int .u8 (l[l.length - 1 - k]'hlj)):=by rw [ej];exact (hc _ _ (byts_get hlj)).2 0 _ rfl
    have hbb:=hby _ (List.getElem_mem hlj)
    have hrv:=revL_at hlt
    have hln:((revL l).take k).length = k:=List.length_take_of_le (by rw [revL_len];omega)
    have hol:(bytsV ((revL l).take k)).length = k * 1:=by rw [bytsV_len,hln]
    generalize l[l.length - 1 - k]'hlj = x at c0 hbb hrv
    have hrvv:bytsV ((revL l).take (k + 1)) = bytsV ((revL l).take k)++[.int .u8 (trnQ x 8)]:=by rw [hrv,bytsV_app];rfl
    have hwx:IntKind.i64.wrap x = x:=i64w (by omega)
    (refine tr_seq ?_;refine s_r ?_;refine m_v rfl rfl ?_;refine tr_val (rk_geq (.of rfl) (.of rfl)) rfl ?_;refine n_t ?_;refine c_d rfl (fun hcd=>?_) (fun _=>by omega);refine s_t ?_;refine tr_seq ?_;refine tr_block ?_;refine tr_seq ?_)
    with_reducible refine tr_draw 7 (by kernel_rfl) ?_
    (refine a_m rfl rfl ?_;refine a_m rfl rfl ?_;refine any_val (rk_indexAddr (.of rfl) (.of rfl) ha' hcd (by omega) norm1_) rfl ?_;refine any_val (rk_load1 (.of rfl) (At.base c0 rfl)) rfl ?_;refine any_val (rk_conv (.of rfl)) rfl ?_;refine any_val (rk_assign (.of rfl)) rfl ?_;refine any_val (rk_assign (.of rfl)) rfl ?_)
    try rw [hwx]
    skip
    with_reducible refine any_end ?_
    (refine n_t ?_;refine tr_seq ?_;refine s_r ?_;refine a_s rfl rfl ?_;refine n_t ?_;refine tr_block ?_)
    refine tr_for (ι:=Nat) (fun j=>j ≤ 8) (fun j=>[(7,.int .i64 (j:Nat)),(6,.int .i64 (x / 2 ^ j)),(5,.int .i64 (trnQ x j)),(4,.int .i64 ((l.length:Int) - 1 - (k:Nat))),(0,.slice a l.length cap),(3,v)]) (fun _=>[row 5 1 v k (bytsV ((revL l).take k))]) (fun j=>8 - j) ?_ ?_
    · rw [show (Value.int .i64 x) = .int .i64 (x / 2 ^ 0) by rw [Int.pow_zero,Int.ediv_one]]
      apply tr_start (0:Nat) (show (0:Nat) ≤ 8 by omega)
      case hs1=>exact .cons rfl (.cons rfl (.cons rfl (.cons rfl (.cons rfl (.cons rfl .nil)))))
      case ht=>exact .cons .here .nil
    intro j hj
    by_cases hl8:j < 8
    · have ht:=trnQ_in hbb.1 j
      have hp8:(2:Int) ^ j ≤ 128:=by
        have:∀ j:Nat,j < 8 → (2:Int) ^ j ≤ 128:=by decide
        exact this j hl8
      have hx:0 ≤ x / 2 ^ j ∧ x / 2 ^ j ≤ 255:=by
        have hp:(0:Int) < 2 ^ j:=Int.pow_pos (by decide)
        exact ⟨Int.ediv_nonneg hbb.1 (by omega),Int.le_trans (Int.ediv_le_self _ hbb.1) hbb.2⟩
      have hs:2 * trnQ x j + x / 2 ^ j % 2 = trnQ x (j + 1):=rfl
      have hd:x / 2 ^ j / 2 = x / 2 ^ (j + 1):=by rw [Int.ediv_ediv_of_nonneg (by exact Int.le_of_lt (Int.pow_pos (by decide))),Int.pow_succ]
      have ht2:0 ≤ trnQ x j ∧ trnQ x j ≤ 127:=by omega
      clear ht hp8
      generalize x / 2 ^ j = y at *
      generalize trnQ x j = z at *
      (refine tr_seq ?_;refine s_r ?_;refine m_v rfl rfl ?_;refine tr_val (rk_lss (.of rfl) (.of rfl)) rfl ?_;refine n_t ?_;refine c_d rfl (fun hcd=>?_) (fun _=>by omega);refine s_t ?_;refine tr_seq ?_;refine tr_block ?_;refine s_r ?_;refine m_v rfl rfl ?_;refine tr_val (rk_mul (.of rfl) (.of rfl) (ini (by omega))) rfl ?_;refine m_v rfl rfl ?_;refine tr_val (rk_rem (.of rfl) (.of rfl) (by omega) (by omega)) rfl ?_;refine tr_val (rk_add (.of rfl) (.of rfl) (ini (by omega))) rfl ?_;refine a_s rfl rfl ?_;refine n_t ?_;refine tr_region ?_;refine m_v rfl rfl ?_;refine tr_val (rk_quo (.of rfl) (.of rfl) (by omega) (by omega) (by omega)) rfl ?_;refine a_s rfl rfl ?_;refine tr_nil ?_;refine tr_blk_normal ?_;refine tr_then ?_;refine tr_region ?_;refine m_v rfl rfl ?_;refine tr_val (rk_add (.of rfl) (.of rfl) (ini (by omega))) rfl ?_;refine a_s rfl rfl ?_;refine n_t ?_)
      rw [hs,hd]
      apply tr_next (j + 1) (show j + 1 ≤ 8 by omega) (show 8 - (j + 1) < 8 - j by omega)
      case hs1=>exact .cons rfl (.cons rfl (.cons rfl (.cons rfl (.cons rfl (.cons rfl .nil)))))
      case ht=>exact .cons .here .nil
    · obtain rfl:j = 8:=by omega
      have htb:=trn_byte hbb
      have hw8:IntKind.u8.wrap (trnQ x 8) = trnQ x 8:=u8w ⟨htb.2.1,htb.2.2.1⟩
      (refine tr_seq ?_;refine s_r ?_;refine m_v rfl rfl ?_;refine tr_val (rk_lss (.of rfl) (.of rfl)) rfl ?_;refine n_t ?_;refine c_d rfl (fun _=>by omega) (fun hcd=>?_);refine x_t ?_;refine tr_then_exit ?_;refine tr_blk_exit ?_;refine tr_then ?_;refine tr_region ?_;refine m_v rfl rfl ?_;refine m_v rfl rfl ?_;refine tr_val (rk_conv (.of rfl)) rfl ?_;refine tr_new (rk_sliceLit (.cons (.of rfl) .nil) rfl rfl rfl rfl) rfl (fun _ _=>?_))
      rw [hw8]
      refine tr_appendB (.of rfl) (.of rfl) (.there .here) .here norm_ (by rfl) (okc_cons rfl okc_nil) (by rfl) (by rfl) (by rfl) lenx_ (by rfl) ?_
      intro v'
      (refine a_s rfl rfl ?_;refine tr_nil ?_;refine tr_blk_normal ?_;refine tr_then ?_;refine tr_region ?_;refine m_v rfl rfl ?_;refine tr_val (rk_sub (.of rfl) (.of rfl) (ini (by omega))) rfl ?_;refine a_s rfl rfl ?_;refine n_t ?_)
      rw [show (l.length:Int) - 1 - (k:Nat) - 1 = (l.length:Int) - 1 - ((k + 1:Nat):Int) by omega]
      apply tr_next (k + 1,v') (show k + 1 ≤ l.length by omega) (show l.length - (k + 1) < l.length - k by omega)
      case hs1=>exact .cons rfl (.cons rfl (.cons rfl .nil))
      case ht=>
        show Takes _ [row 5 1 v' (k + 1) (bytsV ((revL l).take (k + 1)))] _
        rw [hrvv]
        exact .cons .here .nil
  · obtain rfl:k = l.length:=by omega
    rw [show (revL l).take l.length = revL l by rw [← revL_len l,List.take_length],revL_len]
    (refine tr_seq ?_;refine s_r ?_;refine m_v rfl rfl ?_;refine tr_val (rk_geq (.of rfl) (.of rfl)) rfl ?_;refine n_t ?_;refine c_d rfl (fun _=>by omega) (fun hcd=>?_);refine x_t ?_;refine tr_then_exit ?_;refine tr_blk_exit ?_;refine tr_then ?_;refine s_r ?_;refine m_v rfl rfl ?_;refine a_s rfl rfl ?_;refine n_t ?_;refine tr_ret ?_)
    first | with_reducible apply tr_retM | with_reducible apply tr_endM
    case he=>exact ends1 rfl rfl
    case hR=>
      intro w' hm'
      exact gives_end v trivial (by exact .cons .here .nil) hm' rfl
set_option maxHeartbeats 2000000 in
theorem findQ_c {sv:Value} {l:List Int} {w:World} (h:Rd w sv 1 (byts l)) (hby:∀ x ∈ l,0 ≤ x ∧ x ≤ 255) (hfew:l.length ≤ 4000) :
    Gives Tryz.prog 77 [sv] w [] (fun _:Value × Value=>True) (fun v=>.tuple #[v.1,v.2]) (fun v=>[row 50 7 v.1 (hitL l 0).length (hsV (hitL l 0)),row 3 1 v.2 (hitL l 0).length (hnV (hitL l 0))]):=by
  obtain ⟨a,cap,b,o,rfl,hcap,hmax,ha,hc⟩:=h
  rw [byts_length] at *
  unfold maxLen at hmax
  have hhl:=hitL_len l 0
  refine gives_of_tr Tryz.func77 rfl rfl ?_
  (refine s_r ?_;refine a_s rfl rfl ?_;refine a_s rfl rfl ?_;refine n_r ?_;refine a_s rfl rfl ?_;refine n_r ?_;refine a_s rfl rfl ?_;refine n_t ?_;refine tr_seq ?_;refine s_r ?_;refine a_s rfl rfl ?_;refine n_t ?_;refine tr_block ?_)
  refine tr_rowNil 50 7 ?_
  refine tr_rowNil 3 1 ?_
  refine tr_for (ι:=Nat × Nat × Value × Value) (fun x=>x.2.1 ≤ l.length ∧ x.1 ≤ (hitL l 0).length ∧ (hitL l 0).drop x.1 = hitL l x.2.1) (fun x=>[(6,.int .i64 (x.2.1:Nat)),(4,x.2.2.1),(5,x.2.2.2),(0,.slice a l.length cap)])
    (fun x=>[row 50 7 x.2.2.1 x.1 (hsV ((hitL l 0).take x.1)),row 3 1 x.2.2.2 x.1 (hnV ((hitL l 0).take x.1))]) (fun x=>l.length - x.2.1) ?_ ?_
  · apply tr_start (0,0,.slice none 0 0,.slice none 0 0) ⟨Nat.zero_le _,Nat.zero_le _,rfl⟩
    case hs1=>exact .cons rfl (.cons rfl (.cons rfl (.cons rfl .nil)))
    case ht=>
      show Takes _ [row 50 7 (.slice none 0 0) 0 [],row 3 1 (.slice none 0 0) 0 []] _
      exact .cons (.there .here) (.cons .here .nil)
  rintro ⟨k,i,v1,v2⟩ ⟨hi,hk,hd⟩
  dsimp only at hi hk hd ⊢
  by_cases hlt:i + 10 ≤ l.length
  · have hne:byts l ≠ []:=byts_ne (k:=0) (by omega)
    have ha':=ha hne
    subst ha'
    have hwl:(wcells (win l i)).length = 10:=by rw [List.length_map];exact win_len hlt
    have hwin:∀ (j:Nat) (u:Value),(wcells (win l i))[j]? = some u → w.cell? ⟨b,o + i * 1 + j,none⟩ = some u:=by
      intro j u hu
      have hj:j < 10:=by
        rcases Nat.lt_or_ge j 10 with h | h
        · exact h
        · rw [List.getElem?_eq_none (by rw [hwl];exact h)] at hu;cases hu
      rw [List.getElem?_map,win_at hlt hj,List.getElem?_eq_getElem (by omega)] at hu
      cases hu
      have:=(hc (i + j) _ (byts_get (by omega))).2 0 _ rfl
      rwa [show o + (i + j) * 1 + 0 = o + i * 1 + j by omega] at this
    have hrc:∀ w',GivesV Tryz.prog 39 [.agg (wcells (win l i)).toArray] w' (.tuple #[.agg (rdF (win l i)).cells.toArray,.int .i64 (rdE (win l i))]):=fun w'=>readQ_c _ (win_len hlt) (win_mem hby) w'
    generalize hR:rdF (win l i) = R at hrc
    have hcellR:R.cells = [.int .i64 R.ra.fr,.bool R.ra.dr,.int .i64 R.la.h,.int .i64 R.la.m,.int .i64 R.la.s,.int .i64 R.la.f,.int .i64 R.us]:=rfl
    rw [hcellR] at hrc
    (refine tr_seq ?_;refine s_r ?_;refine m_v rfl rfl ?_;refine tr_val (rk_add (.of rfl) (.of rfl) (ini (by omega))) rfl ?_;refine m_v rfl rfl ?_;refine tr_val (rk_len_slice (.of rfl)) rfl ?_;refine tr_val (rk_leq (.of rfl) (.of rfl)) rfl ?_;refine n_t ?_;refine c_d rfl (fun hcd=>?_) (fun _=>by omega);refine s_t ?_;refine tr_block ?_;refine s_r ?_;refine m_v rfl rfl ?_;refine m_v rfl rfl ?_;refine m_v rfl rfl ?_;refine tr_val (rk_add (.of rfl) (.of rfl) (ini (by omega))) rfl ?_;refine tr_val (rk_slice_lh (.of rfl) (.of rfl) (.of rfl) (by omega) (by omega) (by omega)) rfl ?_)
    rw [win_sl (by omega)]
    (refine tr_val (rk_s2ap (.of rfl) rfl) rfl ?_;refine tr_val (rk_loadN (.of rfl) (Ats.base hwin rfl) hwl) rfl ?_;refine tr_callV (rk_call (.of rfl) (.cons (.of rfl) .nil) inferInstance normc_) rfl (fun w' hm'=>(hrc w')) ?_;refine m_v rfl rfl ?_;refine tr_val (rk_extract (.of rfl) rfl) rfl ?_;refine tr_val (rk_extract (.of rfl) rfl) rfl ?_;refine tr_new (rk_alloc rfl) rfl (fun _ _=>?_);refine tr_store (.of rfl) (.of rfl) .here rfl rfl (okc_cons rfl (okc_cons rfl (okc_cons rfl (okc_cons rfl (okc_cons rfl (okc_cons rfl (okc_cons rfl okc_nil))))))) (lenb rfl) norm_ ?_;refine a_s rfl rfl ?_;refine n_t ?_;refine tr_seq ?_;refine s_r ?_;refine m_v rfl rfl ?_;refine tr_val (rk_neq (.of rfl) (.of rfl)) rfl ?_;refine n_t ?_;refine c_d rfl (fun hcd=>?_) (fun hcd=>?_);refine s_r ?_;refine m_v rfl rfl ?_;refine tr_val (rk_add (.of rfl) (.of rfl) (ini (by omega))) rfl ?_;refine a_s rfl rfl ?_;refine n_t ?_;refine x_t ?_;refine tr_blk_exit ?_;refine tr_then ?_;rotate_left;refine s_t ?_;refine s_r ?_;refine m_v rfl rfl ?_;refine tr_val (rk_loadB (.of rfl) .here norm_ (by rfl)) rfl ?_;refine tr_new (rk_sliceLitN (.cons (.of rfl) .nil) rfl rfl normp_ normp_ norm_) rfl (fun _ _=>?_);rotate_right)
    · have hd':=hd.trans (hit_miss hlt hcd)
      apply tr_next (k,i + 1,v1,v2) ⟨show i + 1 ≤ l.length by omega,hk,hd'⟩ (show l.length - (i + 1) < l.length - i by omega)
      case hs1=>exact .cons rfl (.cons rfl (.cons rfl (.cons rfl .nil)))
      case ht=>exact .cons (.there .here) (.cons (.there .here) .nil)
    · obtain ⟨hyk,hd'⟩:=hItems_at hd hlt (Decidable.not_not.1 hcd)
      have hkl:k + 1 ≤ (hitL l 0).length:=by
        have:=(List.getElem?_eq_some_iff.1 hyk).1
        rw [hItems_length] at this;exact this
      have hx:(hitL l 0)[k] = (R,i):=by
        rw [hit_hit hlt (Decidable.not_not.1 hcd),hR,List.drop_eq_getElem_cons hkl] at hd
        exact (List.cons.inj hd).1
      have htk:(hitL l 0).take (k + 1) = (hitL l 0).take k++[(R,i)]:=by rw [List.take_succ_eq_append_getElem hkl,hx]
      have hlk:((hitL l 0).take k).length = k:=List.length_take_of_le (by omega)
      have hs1:hsV ((hitL l 0).take (k + 1)) = hsV ((hitL l 0).take k)++R.cells:=by rw [htk];unfold hsV;rw [List.map_append,stmsV_app];rfl
      have hn1:hnV ((hitL l 0).take (k + 1)) = hnV ((hitL l 0).take k)++[.int .i64 ((i:Nat):Int)]:=by rw [htk];unfold hnV;rw [List.map_append,natsV_app];rfl
      have hol1:(hsV ((hitL l 0).take k)).length = k * 7:=by rw [hsV_len,hlk]
      have hol2:(hnV ((hitL l 0).take k)).length = k * 1:=by rw [hnV_len,hlk]
      rw [hcellR] at hs1
      clear hcd
      refine tr_appendB (.of rfl) (.of rfl) (.there (.there .here)) .here norm_ (by rfl) (okc_cons rfl (okc_cons rfl (okc_cons rfl (okc_cons rfl (okc_cons rfl (okc_cons rfl (okc_cons rfl okc_nil))))))) (by rfl) (by rfl) (by rfl) lenx_ (by rfl) ?_
      intro u1
      (refine m_v rfl rfl ?_;refine m_v rfl rfl ?_;refine tr_new (rk_sliceLit (.cons (.of rfl) .nil) rfl rfl rfl rfl) rfl (fun _ _=>?_))
      refine tr_appendB (.of rfl) (.of rfl) (.there (.there (.there (.there .here)))) .here norm_ (by rfl) (okc_cons rfl okc_nil) (by rfl) (by rfl) (by rfl) lenx_ (by rfl) ?_
      intro u2
      (refine a_s rfl rfl ?_;refine a_s rfl rfl ?_;refine n_t ?_;refine tr_region ?_;refine m_v rfl rfl ?_;refine tr_val (rk_add (.of rfl) (.of rfl) (ini (by omega))) rfl ?_;refine a_s rfl rfl ?_;refine tr_nil ?_;refine tr_blk_normal ?_;refine tr_then ?_)
      apply tr_next (k + 1,i + 10,u1,u2) ⟨show i + 10 ≤ l.length from hlt,hkl,hd'⟩ (show l.length - (i + 10) < l.length - i by omega)
      case hs1=>exact .cons rfl (.cons rfl (.cons rfl (.cons rfl .nil)))
      case ht=>
        show Takes _ [row 50 7 u1 (k + 1) (hsV ((hitL l 0).take (k + 1))),row 3 1 u2 (k + 1) (hnV ((hitL l 0).take (k + 1)))] _
        rw [hs1,hn1]
        exact .cons (.there (.there .here)) (.cons .here .nil)
  · have he:=hit_end (s:=l) (i:=i) (by omega)
    have hke:k = (hitL l 0).length:=by
      rw [he] at hd
      have:=List.drop_eq_nil_iff.1 hd
      omega
    subst hke
    rw [List.take_length]
    (refine tr_seq ?_;refine s_r ?_;refine m_v rfl rfl ?_;refine tr_val (rk_add (.of rfl) (.of rfl) (ini (by omega))) rfl ?_;refine m_v rfl rfl ?_;refine tr_val (rk_len_slice (.of rfl)) rfl ?_;refine tr_val (rk_leq (.of rfl) (.of rfl)) rfl ?_;refine n_t ?_;refine c_d rfl (fun _=>by omega) (fun hcd=>?_);refine x_t ?_;refine tr_then_exit ?_;refine tr_blk_exit ?_;refine tr_then ?_;refine s_r ?_;refine m_v rfl rfl ?_;refine m_v rfl rfl ?_;refine a_s rfl rfl ?_;refine a_s rfl rfl ?_;refine n_t ?_;refine tr_ret ?_)
    first | with_reducible apply tr_retM | with_reducible apply tr_endM
    case he=>exact ends2 rfl rfl rfl
    case hR=>
      intro w' hm'
      exact gives_end (v1,v2) trivial (show Takes _ [row 50 7 v1 (hitL l 0).length (hsV (hitL l 0)),row 3 1 v2 (hitL l 0).length (hnV (hitL l 0))] _ by exact .cons .here (.cons .here .nil)) hm' rfl
end Go.Proofs.A1
namespace Go.Proofs.A1
open Go Go.SL
theorem stsE_zero {l:List Stm}:stsE l = 0 → l.length ≤ 256 ∧ ∀ i,i < l.length → StOk (nthS l i):=fun h=>by
  unfold stsE at h
  by_cases h2:256 < l.length
  · rw [if_pos h2] at h;cases h
  · rw [if_neg h2] at h
    exact ⟨by omega,fun i hi=>stmE_zero.1 (errE_ok.1 h i hi)⟩
set_option maxHeartbeats 2000000 in
theorem jmpQ_c {lv:Value} {l:List Stm} {w:World} (h:Rd w lv 7 (stms l)) (hz:stsE l = 0) :
    Gives Tryz.prog 78 [lv] w [] (fun _:Value=>True) id (fun v=>[row 3 1 v (jmpK l l.length).length (natsV (jmpK l l.length))]):=by
  obtain ⟨hfew,hok⟩:=stsE_zero hz
  obtain ⟨a,cp,b,o,rfl,hcap,hmax,ha,hc⟩:=h
  rw [stms_length] at *
  unfold maxLen at hmax
  refine gives_of_tr Tryz.func78 rfl rfl ?_
  (refine s_r ?_;refine a_s rfl rfl ?_;refine n_r ?_;refine a_s rfl rfl ?_;refine n_t ?_;refine tr_seq ?_;refine s_r ?_;refine a_s rfl rfl ?_;refine n_t ?_;refine tr_block ?_)
  refine tr_rowNil 3 1 ?_
  by_cases h0:l.length = 0
  · obtain rfl:l = []:=List.eq_nil_of_length_eq_zero h0
    refine tr_for (ι:=Nat) (fun _=>True) (fun _=>[(4,.int .i64 1),(0,.slice a 0 cp),(3,.slice none 0 0)]) (fun _=>[row 3 1 (.slice none 0 0) 0 []]) (fun k=>k) ?_ ?_
    · apply tr_start 0 trivial
      case hs1=>exact .cons rfl (.cons rfl (.cons rfl .nil))
      case ht=>exact .cons .here .nil
    intro m _
    (refine tr_seq ?_;refine s_r ?_;refine m_v rfl rfl ?_;refine m_v rfl rfl ?_;refine tr_val (rk_len_slice (.of rfl)) rfl ?_;refine tr_val (rk_lss (.of rfl) (.of rfl)) rfl ?_;refine n_t ?_;refine c_d rfl (fun _=>by omega) (fun hcd=>?_);refine x_t ?_;refine tr_then_exit ?_;refine tr_blk_exit ?_;refine tr_then ?_;refine s_r ?_;refine m_v rfl rfl ?_;refine a_s rfl rfl ?_;refine n_t ?_;refine tr_ret ?_)
    first | with_reducible apply tr_retM | with_reducible apply tr_endM
    case he=>exact ends1 rfl rfl
    case hR=>
      intro w' hm'
      exact gives_end (.slice none 0 0) trivial (show Takes _ [row 3 1 (.slice none 0 0) 0 []] _ by exact .cons .here .nil) hm' rfl
  refine tr_for (ι:=Nat × Value) (fun x=>1 ≤ x.1 ∧ x.1 ≤ l.length) (fun x=>[(4,.int .i64 (x.1:Nat)),(0,.slice a l.length cp),(3,x.2)]) (fun x=>[row 3 1 x.2 (jmpK l x.1).length (natsV (jmpK l x.1))]) (fun x=>l.length - x.1) ?_ ?_
  · apply tr_start (1,.slice none 0 0) ⟨Nat.le_refl _,by show 1 ≤ l.length;omega⟩
    case hs1=>exact .cons rfl (.cons rfl (.cons rfl .nil))
    case ht=>
      show Takes _ [row 3 1 (.slice none 0 0) 0 []] _
      exact .cons .here .nil
  rintro ⟨k,v⟩ ⟨hk1,hk⟩
  dsimp only at hk1 hk ⊢
  by_cases hlt:k < l.length
  · have hkm:k - 1 < l.length:=by omega
    have ha':=ha (stms_ne hlt)
    have hcell:=(hc k _ (stms_get hlt)).2
    have hcell2:=(hc (k - 1) _ (stms_get hkm)).2
    have ok1:=hok (k - 1) hkm
    have e1:nthS l k = l[k]:=nthS_get hlt
    have e2:nthS l (k - 1) = l[k - 1]:=nthS_get hkm
    have hJ:jmpB l k = !folB (nthS l k) (nthS l (k - 1)):=by unfold jmpB;rw [decide_eq_true (by omega),Bool.true_and]
    have hs:=jmpK_succ l k
    have hl:=jmpK_len l k
    rw [e1,e2] at hJ
    rw [e2] at ok1
    clear e1 e2
    have em:((k:Int) - 1).toNat = k - 1:=by omega
    generalize l[k] = x at hcell hJ
    generalize l[k - 1] = y at hcell2 hJ ok1
    obtain ⟨⟨x0,x1⟩,⟨x2,x3,x4,x5⟩,x6⟩:=x
    obtain ⟨⟨y0,y1⟩,⟨y2,y3,y4,y5⟩,y6⟩:=y
    dsimp only [Stm.cells] at hcell hcell2
    have hx0:∀ (j:Nat) (u:Value),[Value.int .i64 x0,.bool x1][j]? = some u → w.cell? ⟨b,o + k * 7 + j,none⟩ = some u:=fun j u hu=>hcell j u (by
      match j,hu with
      | 0,hu=>exact hu
      | 1,hu=>exact hu)
    have hx1:∀ (j:Nat) (u:Value),[Value.int .i64 x2,.int .i64 x3,.int .i64 x4,.int .i64 x5][j]? = some u → w.cell? ⟨b,o + k * 7 + 2 + j,none⟩ = some u:=fun j u hu=>by
      have:=hcell (2 + j) u (by
        match j,hu with
        | 0,hu=>exact hu
        | 1,hu=>exact hu
        | 2,hu=>exact hu
        | 3,hu=>exact hu)
      rwa [← Nat.add_assoc] at this
    rw [← em] at hcell2
    have hy0:∀ (j:Nat) (u:Value),[Value.int .i64 y0,.bool y1][j]? = some u → w.cell? ⟨b,o + ((k:Int) - 1).toNat * 7 + j,none⟩ = some u:=fun j u hu=>hcell2 j u (by
      match j,hu with
      | 0,hu=>exact hu
      | 1,hu=>exact hu)
    have hy1:∀ (j:Nat) (u:Value),[Value.int .i64 y2,.int .i64 y3,.int .i64 y4,.int .i64 y5][j]? = some u → w.cell? ⟨b,o + ((k:Int) - 1).toNat * 7 + 2 + j,none⟩ = some u:=fun j u hu=>by
      have:=hcell2 (2 + j) u (by
        match j,hu with
        | 0,hu=>exact hu
        | 1,hu=>exact hu
        | 2,hu=>exact hu
        | 3,hu=>exact hu)
      rwa [← Nat.add_assoc] at this
    clear hcell hcell2
    have hF:folB ⟨⟨x0,x1⟩,⟨x2,x3,x4,x5⟩,x6⟩ ⟨⟨y0,y1⟩,⟨y2,y3,y4,y5⟩,y6⟩ = (rtQ ⟨x0,x1⟩ ⟨y0,y1⟩ && lbQ ⟨x2,x3,x4,x5⟩ (addF ⟨y0,y1⟩ ⟨y2,y3,y4,y5⟩ 1)):=rfl
    have hcl:((!(decide (x0 = y0) && (x1 == y1 && true))) == false) = true → ∀ w,GivesV Tryz.prog 33 [.agg #[.int .i64 x0,.bool x1],.agg #[.int .i64 y2,.int .i64 y3,.int .i64 y4,.int .i64 y5],.int .i64 1] w (.agg (addF ⟨y0,y1⟩ ⟨y2,y3,y4,y5⟩ 1).cells.toArray):=fun hg w=>by
      have e:x0 = y0 ∧ x1 = y1:=by simpa using hg
      obtain ⟨rfl,rfl⟩:=e
      exact addQ_c ⟨x0,x1⟩ ⟨y2,y3,y4,y5⟩ 1 ok1.la (by omega) w
    generalize addF ⟨y0,y1⟩ ⟨y2,y3,y4,y5⟩ 1 = q at hF hcl
    obtain ⟨q0,q1,q2,q3⟩:=q
    rw [hF] at hJ
    dsimp only [Lb.cells,rtQ,lbQ] at hcl hJ
    (refine tr_seq ?_;refine s_r ?_;refine m_v rfl rfl ?_;refine m_v rfl rfl ?_;refine tr_val (rk_len_slice (.of rfl)) rfl ?_;refine tr_val (rk_lss (.of rfl) (.of rfl)) rfl ?_;refine n_t ?_;refine c_d rfl (fun hcd=>?_) (fun _=>by omega);refine s_t ?_;refine tr_seq ?_;refine tr_block ?_;refine tr_seq ?_)
    with_reducible refine tr_draw 32 (by kernel_rfl) ?_
    (refine a_m rfl rfl ?_;refine a_m rfl rfl ?_;refine any_val (rk_indexAddr (.of rfl) (.of rfl) ha' (by omega) hcd norm1_) rfl ?_;refine a_f rfl rfl norm0_ ?_;refine any_val (rk_loadN (.of rfl) (Ats.base hx0 rfl) rfl) rfl ?_;refine a_m rfl rfl ?_;refine a_m rfl rfl ?_;refine any_val (rk_sub (.of rfl) (.of rfl) (ini (by omega))) rfl ?_;refine any_val (rk_indexAddr (.of rfl) (.of rfl) ha' (by omega) (by omega) norm1_) rfl ?_;refine a_f rfl rfl norm0_ ?_;refine any_val (rk_loadN (.of rfl) (Ats.base hy0 rfl) rfl) rfl ?_;refine any_val (rk_neqA (.of rfl) (.of rfl) (okL_int (okL_bool okL_nil)) rfl) rfl ?_;refine a_m rfl rfl ?_;refine any_vG1 rfl rfl inferInstance (fun hg hgp=>(rk_move (.of rfl))) rfl ?_;refine any_vG1 rfl rfl inferInstance (fun hg hgp=>(rk_move (.of rfl))) rfl ?_;refine any_vG1 rfl rfl inferInstance (fun hg hgp=>(rk_indexAddr (.ofg hg rfl) (.ofg hg rfl) ha' (by omega) hcd norm1_)) rfl ?_;refine any_vG1 rfl rfl inferInstance (fun hg hgp=>(rk_fieldAddr (.ofg hg rfl) norm0_)) rfl ?_;refine any_vG1 rfl rfl inferInstance (fun hg hgp=>(rk_loadN (.ofg hg rfl) (Ats.base hx1 rfl) rfl)) rfl ?_;refine any_vG1 rfl rfl inferInstance (fun hg hgp=>(rk_move (.of rfl))) rfl ?_;refine any_vG1 rfl rfl inferInstance (fun hg hgp=>(rk_move (.of rfl))) rfl ?_;refine any_vG1 rfl rfl inferInstance (fun hg hgp=>(rk_indexAddr (.ofg hg rfl) (.ofg hg rfl) ha' (by omega) hcd norm1_)) rfl ?_;refine any_vG1 rfl rfl inferInstance (fun hg hgp=>(rk_fieldAddr (.ofg hg rfl) norm0_)) rfl ?_;refine any_vG1 rfl rfl inferInstance (fun hg hgp=>(rk_loadN (.ofg hg rfl) (Ats.base hx0 rfl) rfl)) rfl ?_;refine any_vG1 rfl rfl inferInstance (fun hg hgp=>(rk_move (.of rfl))) rfl ?_;refine any_vG1 rfl rfl inferInstance (fun hg hgp=>(rk_move (.of rfl))) rfl ?_;refine any_vG1 rfl rfl inferInstance (fun hg hgp=>(rk_sub (.ofg hg rfl) (.of rfl) (ini (by omega)))) rfl ?_;refine any_vG1 rfl rfl inferInstance (fun hg hgp=>(rk_indexAddr (.ofg hg rfl) (.ofg hg rfl) ha' (by omega) (by omega) norm1_)) rfl ?_;refine any_vG1 rfl rfl inferInstance (fun hg hgp=>(rk_fieldAddr (.ofg hg rfl) norm0_)) rfl ?_;refine any_vG1 rfl rfl inferInstance (fun hg hgp=>(rk_loadN (.ofg hg rfl) (Ats.base hy1 rfl) rfl)) rfl ?_;refine any_callG1 rfl rfl (fun hg=>(rk_call (.of rfl) (.cons (.ofg hg rfl) (.cons (.ofg hg rfl) (.cons (.of rfl) .nil))) inferInstance normc_)) rfl (fun hg w' hm'=>(hcl hg w')) ?_;refine any_vG1 rfl rfl inferInstance (fun hg hgp=>(rk_neqA (.ofg hg rfl) (.ofg hg rfl) (okL_int (okL_int (okL_int (okL_int okL_nil)))) rfl)) rfl ?_;refine any_val (rk_pick_or (.of rfl) rfl) rfl ?_)
    with_reducible refine any_end ?_
    (refine n_t ?_;refine c_b rfl (fun hcd=>?_) (fun hcd=>?_);refine tr_region ?_;refine m_v rfl rfl ?_;refine m_v rfl rfl ?_;refine tr_new (rk_sliceLit (.cons (.of rfl) .nil) rfl rfl rfl rfl) rfl (fun _ _=>?_);rotate_left;refine tr_skip ?_;refine tr_blk_normal ?_;refine tr_then ?_;refine tr_region ?_;refine m_v rfl rfl ?_;refine tr_val (rk_add (.of rfl) (.of rfl) (ini (by omega))) rfl ?_;refine a_s rfl rfl ?_;refine n_t ?_;rotate_right)
    · have hb:jmpB l k = true:=by
        rw [hJ,Bool.not_eq_true',Bool.eq_false_iff]
        intro e
        have e:(x0 = y0 ∧ x1 = y1) ∧ x2 = q0 ∧ x3 = q1 ∧ x4 = q2 ∧ x5 = q3:=by simpa using e
        obtain ⟨⟨rfl,rfl⟩,rfl,rfl,rfl,rfl⟩:=e
        simp at hcd
      rw [hb,if_pos rfl] at hs
      have hsv:natsV (jmpK l (k + 1)) = natsV (jmpK l k)++[.int .i64 (k:Nat)]:=by rw [hs,natsV_app];rfl
      have hsn:(jmpK l (k + 1)).length = (jmpK l k).length + 1:=by rw [hs];simp
      have hol:(natsV (jmpK l k)).length = (jmpK l k).length * 1:=natsV_len _
      refine tr_appendB (.of rfl) (.of rfl) (.there .here) .here norm_ (by rfl) (okc_cons rfl okc_nil) (by rfl) (by rfl) (by rfl) lenx_ (by rfl) ?_
      intro v'
      (refine a_s rfl rfl ?_;refine tr_nil ?_;refine tr_blk_normal ?_;refine tr_then ?_;refine tr_region ?_;refine m_v rfl rfl ?_;refine tr_val (rk_add (.of rfl) (.of rfl) (ini (by omega))) rfl ?_;refine a_s rfl rfl ?_;refine n_t ?_)
      apply tr_next (k + 1,v') ⟨show 1 ≤ k + 1 by omega,show k + 1 ≤ l.length by omega⟩ (show l.length - (k + 1) < l.length - k by omega)
      case hs1=>exact .cons rfl (.cons rfl (.cons rfl .nil))
      case ht=>
        show Takes _ [row 3 1 v' (jmpK l (k + 1)).length (natsV (jmpK l (k + 1)))] _
        rw [hsn,hsv]
        exact .cons .here .nil
    · have hb:jmpB l k = false:=by
        have e:(x0 = y0 ∧ x1 = y1) ∧ x2 = q0 ∧ x3 = q1 ∧ x4 = q2 ∧ x5 = q3:=by simpa using hcd
        obtain ⟨⟨rfl,rfl⟩,rfl,rfl,rfl,rfl⟩:=e
        rw [hJ];simp
      rw [hb,if_neg (by decide),List.append_nil] at hs
      apply tr_next (k + 1,v) ⟨show 1 ≤ k + 1 by omega,show k + 1 ≤ l.length by omega⟩ (show l.length - (k + 1) < l.length - k by omega)
      case hs1=>exact .cons rfl (.cons rfl (.cons rfl .nil))
      case ht=>
        show Takes _ [row 3 1 v (jmpK l (k + 1)).length (natsV (jmpK l (k + 1)))] _
        rw [hs]
        exact .cons .here .nil
  · obtain rfl:k = l.length:=by omega
    (refine tr_seq ?_;refine s_r ?_;refine m_v rfl rfl ?_;refine m_v rfl rfl ?_;refine tr_val (rk_len_slice (.of rfl)) rfl ?_;refine tr_val (rk_lss (.of rfl) (.of rfl)) rfl ?_;refine n_t ?_;refine c_d rfl (fun _=>by omega) (fun hcd=>?_);refine x_t ?_;refine tr_then_exit ?_;refine tr_blk_exit ?_;refine tr_then ?_;refine s_r ?_;refine m_v rfl rfl ?_;refine a_s rfl rfl ?_;refine n_t ?_;refine tr_ret ?_)
    first | with_reducible apply tr_retM | with_reducible apply tr_endM
    case he=>exact ends1 rfl rfl
    case hR=>
      intro w' hm'
      exact gives_end v trivial (by exact .cons .here .nil) hm' rfl
end Go.Proofs.A1
namespace Go.SL
open Go
def stA (As:List Asn):Asn where
  sat h fp:=Sats h As fp
  loc:=fun hs hb=>hs.loc hb
  own:=fun hs b hb=>hs.own b hb
def poolL (E:TypeId):List Value → List (List Value) → List Asn
  | v :: vs,x :: xs=>row E 1 v x.length x :: poolL E vs xs
  | _,_=>[]
def pool (E:TypeId) (vs:List Value) (xs:List (List Value)):Asn:=stA (poolL E vs xs)
section
variable {P:Program} {r:Option Nat} {c:Cx} {D:List Nat} {sl:Slots} {hs hs':List Asn} {X:Act → World → Prop} {Q:Exit → Act → World → Prop} {ι:Type}
variable {ops:Array Oper} {d:Nat} {ty:TypeId} {pos:String} {af:Array Edge} {rest:List Oper}
theorem any_vOff1 {rl:RSlots} {m j g:Nat} {want q:Bool} {op:Op} (hj:((ops[j]?).bind (·.dst)) = some g) (hq:sget sl g = some (.bool q)) (hn:(q == want) = false) (hd:Nat.blt d c.nt = true) (k:AnyT P r c D hs ops Q m rest ((d,gv (q == want) (.bool false)) :: sl) rl) :
    AnyT P r c D hs ops Q (m + 1) (⟨some d,op,ty,pos,af,some (j,want)⟩ :: rest) sl rl:=any_valG1 hj hq (fun e=>absurd (hn.symm.trans e) (by decide)) hd k
end
end Go.SL
