/- Parts of the proof: U3B. -/
import Derived.Test.YthhidjfahmcekaaGreatDoorDM17
import Derived.Test.YthhidjfahmcekaaGreatDoorDM06
set_option linter.unusedSectionVars false
set_option linter.unusedVariables false
set_option linter.unusedSimpArgs false
namespace Go.Proofs.A1
open Go Go.SL
theorem rk_convX {P:Program} {c:Cx} {sl:Slots} {hs:List Asn} {dst:Option Tmp} {ty:TypeId} {pos:String} {af:Array Edge} {g:Option (Nat × Bool)} {t u:TypeId} {k':IntKind} {x:Operand} {n:Int} [ht:Und P t (.int k')] [hu:Und P u (.int .i64)] (hx:Is sl x (.int k' n)) (hw:IntKind.i64.wrap n = n):RunV P c sl hs ⟨dst,.convert t u x,ty,pos,af,g⟩ (.int .i64 n):=by
  have:=rk_conv (P:=P) (c:=c) (hs:=hs) (dst:=dst) (ty:=ty) (pos:=pos) (af:=af) (g:=g) (t:=t) (u:=u) (k:=.i64) hx
  rwa [hw] at this
theorem cut_key {A B:Prop} (h:A → B) (k:A):B:=h k
set_option maxHeartbeats 4000000 in
theorem days_law (r:Rt) (n:Int) (hn:0 ≤ n ∧ n ≤ 4294967295) (x y:Int) (hx:-32768 ≤ x ∧ x ≤ 32767) (hy:-32768 ≤ y ∧ y ≤ 32767) (w:World) (hG:GlobR w) (hT:Tab10 w):GivesV Tryz.prog 8 [.agg r.cells.toArray,.int .u32 n,.agg #[.int .i16 x,.int .i16 y]] w (.bool true):=by
  have hrate:∀ w',GivesV Tryz.prog 18 [.agg r.cells.toArray] w' (.agg r.cells.toArray):=fun w'=>rate_v r w'
  have hrq:∀ w',GivesV Tryz.prog 21 [.agg r.cells.toArray] w' (.int .i64 (rateF r)):=fun w'=>rateQ_c r w'
  have hday:∀ w',Keeps [] w w' → GivesV Tryz.prog 17 [.agg r.cells.toArray] w' (.tuple #[.int .i64 (if rateF r = 0 then dayF r else 0),.int .i64 (rateF r)]):=fun w' hk=>dayX_c r w' (hG.keeps hk)
  by_cases h0:rateF r = 0
  · have hr:=rateF_zero.1 h0
    have hfr:=hr.fr
    have hdp:=day_pos hr
    rw [if_pos h0] at hday
    rw [h0] at hrq hday
    have hde:dayF r = if r.dr = true then 86400 * r.fr - 2592 else 86400 * r.fr:=by
      unfold dayF;cases r.dr <;> simp <;> omega
    have hwx:IntKind.i64.wrap x = x:=i64w (by omega)
    have hwy:IntKind.i64.wrap y = y:=i64w (by omega)
    have hnm:0 ≤ n % dayF r ∧ n % dayF r < dayF r:=⟨Int.emod_nonneg _ (by omega),Int.emod_lt_of_pos _ (by omega)⟩
    have hlz:lofE r (n % dayF r) = 0:=lofE_zero.2 ⟨hr,hnm⟩
    obtain ⟨hlo,hlf⟩:=lbl_frm hr hnm
    have hlof:∀ w',Keeps [] w w' → GivesV Tryz.prog 28 [.agg r.cells.toArray,.int .i64 (n % dayF r)] w' (.tuple #[.agg (lblF r (n % dayF r)).cells.toArray,.int .i64 0]):=fun w' hk=>by
      have:=labelOf_c r (n % dayF r) w' (hG.keeps hk)
      rwa [hlz,show lofF r (n % dayF r) = lblF r (n % dayF r) by unfold lofF;rw [if_pos hlz]] at this
    have hF':(IntKind.i64.wrap n).tmod (dayF r) = n % dayF r:=by rw [i64w (by omega),Int.tmod_eq_emod_of_nonneg hn.1]
    generalize hF:n % dayF r = F at *
    generalize hL:lblF r F = l at *
    have hlq:∀ w',GivesV Tryz.prog 22 [.agg r.cells.toArray,.agg l.cells.toArray] w' (.int .i64 0):=fun w'=>by
      have:=lblQ_c r l w'
      rwa [lblE_zero.2 hlo] at this
    have hfr2:∀ w',Keeps [] w w' → GivesV Tryz.prog 19 [.agg r.cells.toArray,.agg l.cells.toArray] w' (.tuple #[.int .i64 F,.int .i64 0]):=fun w' hk=>by
      have:=frameX_c r l w' (hG.keeps hk)
      rwa [lblE_zero.2 hlo,if_pos rfl,hlf] at this
    have hadd:∀ (l:Lb) (k:Int),LbOk r l → (-10000000 ≤ k ∧ k ≤ 10000000) → ∀ w',Keeps [] w w' → GivesV Tryz.prog 29 [.agg r.cells.toArray,.agg l.cells.toArray,.int .i64 k] w' (.tuple #[.agg (addF r l k).cells.toArray,.int .i64 0]):=fun l k hl hk w' hkk=>by
      have:=addedX_c r l k w' (hG.keeps hkk)
      have he:=addE_zero.2 ⟨hl,hk⟩
      rwa [he,show addX r l k = addF r l k by unfold addX;rw [if_pos he]] at this
    obtain ⟨hno,hnf⟩:=add_ok (l:=l) (k:=1) hr
    have hn1:=hadd l 1 hlo (by omega)
    have hx1:=hadd l x hlo (by omega)
    obtain ⟨hxo,_⟩:=add_ok (l:=l) (k:=x) hr
    have hy1:=hadd _ y hxo (by omega)
    have hxy:=hadd l (x + y) hlo (by omega)
    rw [add_add hr] at hy1
    have hlqa:∀ (l:Lb),LbOk r l → ∀ w',GivesV Tryz.prog 22 [.agg r.cells.toArray,.agg l.cells.toArray] w' (.int .i64 0):=fun l hl w'=>by
      have:=lblQ_c r l w'
      rwa [lblE_zero.2 hl] at this
    have hnq:=hlqa _ hno
    have haq:=hlqa _ hxo
    have n1:=nxt_day hlo
    have n2:=nxt_f hlo
    have n3:=nxt_s hlo
    have n4:=nxt_m hlo
    have n5:=nxt_h hlo
    have n6:=nxt_last hlo
    have d1:=hlo.h;have d2:=hlo.m;have d3:=hlo.s;have d4:=hlo.f;have d5:=hlo.d
    generalize addF r l 1 = q at *
    generalize addF r l x = xa at *
    generalize addF r l (x + y) = ya at *
    rw [hlf] at n1 n6
    clear hadd hlqa hno hxo hnf
    obtain ⟨lh,lm,ls,lf⟩:=l
    obtain ⟨qh,qm,qs,qf⟩:=q
    obtain ⟨ah,am,as_,af⟩:=xa
    obtain ⟨yh,ym,ys,yf⟩:=ya
    unfold Lb.cells Rt.cells at *
    dsimp only at *
    refine givesV_of_tr Tryz.func8 rfl rfl ?_
    (refine s_r ?_;refine tr_new (rk_box (.of rfl) rfl) rfl (fun _ _=>?_);refine tr_new (rk_box (.of rfl) rfl) rfl (fun _ _=>?_);refine a_s rfl rfl ?_;refine n_t ?_;refine tr_seq ?_;refine s_r ?_;refine tr_val (rk_loadB (.of rfl) (.there .here) norm_ (by rfl)) rfl ?_;refine tr_callV (rk_call (.of rfl) (.cons (.of rfl) .nil) inferInstance normc_) rfl (fun w' hm'=>(hrq w')) ?_;refine tr_val (rk_neq (.of rfl) (.of rfl)) rfl ?_;refine n_t ?_;refine c_d rfl (fun _=>by omega) (fun hcd=>?_);refine s_t ?_;refine s_r ?_;refine tr_val (rk_loadB (.of rfl) (.there .here) norm_ (by rfl)) rfl ?_;refine tr_callV (rk_call (.of rfl) (.cons (.of rfl) .nil) inferInstance normc_) rfl (fun w' hm'=>(hrate w')) ?_;refine tr_callV (rk_call (.of rfl) (.cons (.of rfl) .nil) inferInstance normc_) rfl (fun w' hm'=>(hday w' (Mem.keeps hm'))) ?_;refine m_v rfl rfl ?_;refine tr_val (rk_extract (.of rfl) rfl) rfl ?_;refine tr_val (rk_extract (.of rfl) rfl) rfl ?_;refine a_s rfl rfl ?_;refine a_s rfl rfl ?_;refine n_r ?_;refine f_a rfl rfl norm0_ ?_;refine tr_val (rk_load1 (.of rfl) (At.lit (.there .here) rfl)) rfl ?_;refine tr_val (rk_mul (.of rfl) (.of rfl) (ini (by omega))) rfl ?_;refine a_s rfl rfl ?_;refine n_t ?_;refine tr_seq ?_;refine s_r ?_;refine f_a rfl rfl norm0_ ?_;refine tr_val (rk_load1 (.of rfl) (At.lit (.there .here) rfl)) rfl ?_;refine n_t ?_;refine c_b rfl (fun hcd=>?_) (fun hcd=>?_);refine tr_region ?_;refine m_v rfl rfl ?_;refine tr_val (rk_sub (.of rfl) (.of rfl) (ini (by omega))) rfl ?_;refine a_s rfl rfl ?_;refine n_t ?_;refine tr_seq ?_;refine s_r ?_;refine m_v rfl rfl ?_;refine tr_val (rk_neq (.of rfl) (.of rfl)) rfl ?_;refine m_v rfl rfl ?_;refine v_g rfl rfl rfl rfl ?_;refine v_g rfl rfl rfl rfl ?_;refine tr_vG1 rfl rfl inferInstance (fun hg hgp=>(rk_neq (.ofg hg rfl) (.ofg hg rfl))) rfl ?_;refine tr_val (rk_pick_or (.of rfl) rfl) rfl ?_;refine n_t ?_;refine c_d rfl (fun hcd=>?_) (fun hcd=>?_);refine s_r ?_;refine a_s rfl rfl ?_;refine n_t ?_;refine r_t ?_;refine tr_retE rfl (ends1 rfl rfl) ?_;rotate_left;refine s_t ?_;refine s_r ?_;refine m_v rfl rfl ?_;refine tr_val (rk_conv (.of rfl)) rfl ?_;refine m_v rfl rfl ?_;refine tr_val (rk_remT (.of rfl) (.of rfl) (by omega)) rfl ?_;refine a_s rfl rfl ?_;refine n_r ?_;refine tr_val (rk_loadB (.of rfl) (.there .here) norm_ (by rfl)) rfl ?_;refine tr_callV (rk_call (.of rfl) (.cons (.of rfl) .nil) inferInstance normc_) rfl (fun w' hm'=>(hrate w')) ?_;refine m_v rfl rfl ?_;rotate_right;rotate_left 2;refine s_t ?_;refine tr_seq ?_;refine s_r ?_;refine m_v rfl rfl ?_;refine tr_val (rk_neq (.of rfl) (.of rfl)) rfl ?_;refine m_v rfl rfl ?_;refine v_g rfl rfl rfl rfl ?_;refine v_g rfl rfl rfl rfl ?_;refine tr_vG1 rfl rfl inferInstance (fun hg hgp=>(rk_neq (.ofg hg rfl) (.ofg hg rfl))) rfl ?_;refine tr_val (rk_pick_or (.of rfl) rfl) rfl ?_;refine n_t ?_;refine c_d rfl (fun hcd=>?_) (fun hcd=>?_);refine s_r ?_;refine a_s rfl rfl ?_;refine n_t ?_;refine r_t ?_;refine tr_retE rfl (ends1 rfl rfl) ?_;rotate_left;refine s_t ?_;refine s_r ?_;refine m_v rfl rfl ?_;refine tr_val (rk_conv (.of rfl)) rfl ?_;refine m_v rfl rfl ?_;refine tr_val (rk_remT (.of rfl) (.of rfl) (by omega)) rfl ?_;refine a_s rfl rfl ?_;refine n_r ?_;refine tr_val (rk_loadB (.of rfl) (.there .here) norm_ (by rfl)) rfl ?_;refine tr_callV (rk_call (.of rfl) (.cons (.of rfl) .nil) inferInstance normc_) rfl (fun w' hm'=>(hrate w')) ?_;refine m_v rfl rfl ?_;rotate_right;rotate_right 2)
    · exfalso
      have:r.dr = true:=by assumption
      rw [if_pos this] at hde
      omega
    · clear hde
      rename_i b3 _ b5 _ _ _
      rw [hF']
      (refine tr_callV (rk_call (.of rfl) (.cons (.of rfl) (.cons (.of rfl) .nil)) inferInstance normc_) rfl (fun w' hm'=>(hlof w' (Mem.keeps hm'))) ?_;refine m_v rfl rfl ?_;refine tr_val (rk_extract (.of rfl) rfl) rfl ?_;refine tr_val (rk_extract (.of rfl) rfl) rfl ?_;refine tr_new (rk_alloc rfl) rfl (fun _ _=>?_);refine tr_store (.of rfl) (.of rfl) .here rfl rfl (okc_cons rfl (okc_cons rfl (okc_cons rfl (okc_cons rfl okc_nil)))) (lenb rfl) norm_ ?_;refine a_s rfl rfl ?_;refine n_t ?_;refine tr_seq ?_;refine s_r ?_;refine m_v rfl rfl ?_;refine tr_val (rk_neq (.of rfl) (.of rfl)) rfl ?_;refine m_v rfl rfl ?_;refine tr_vG1 rfl rfl inferInstance (fun hg hgp=>(rk_loadB (.of rfl) (.there (.there .here)) norm_ (by rfl))) rfl ?_;refine tr_vG1 rfl rfl inferInstance (fun hg hgp=>(rk_loadB (.of rfl) .here norm_ (by rfl))) rfl ?_;refine tr_callVG1 rfl rfl (fun hg=>(rk_call (.of rfl) (.cons (.ofg hg rfl) (.cons (.ofg hg rfl) .nil)) inferInstance normc_)) rfl (fun hg w' hm'=>(hlq w')) ?_;refine tr_vG1 rfl rfl inferInstance (fun hg hgp=>(rk_neq (.ofg hg rfl) (.of rfl))) rfl ?_;refine tr_val (rk_pick_or (.of rfl) rfl) rfl ?_;refine n_t ?_;refine tr_cond_f (.of rfl) ?_;refine s_t ?_;refine tr_seq ?_)
      rename_i b11 _
      with_reducible refine tr_draw 9 (by kernel_rfl) ?_
      (refine any_val (rk_loadB (.of rfl) (.there (.there .here)) norm_ (by rfl)) rfl ?_;refine any_call (rk_call (.of rfl) (.cons (.of rfl) .nil) inferInstance normc_) rfl (fun w' hm'=>(hrate w')) ?_;refine any_val (rk_loadB (.of rfl) .here norm_ (by rfl)) rfl ?_;refine any_call (rk_call (.of rfl) (.cons (.of rfl) (.cons (.of rfl) .nil)) inferInstance normc_) rfl (fun w' hm'=>(hfr2 w' (Mem.keeps hm'))) ?_;refine a_m rfl rfl ?_;refine any_val (rk_extract (.of rfl) rfl) rfl ?_;refine any_val (rk_extract (.of rfl) rfl) rfl ?_;refine any_val (rk_assign (.of rfl)) rfl ?_;refine any_val (rk_assign (.of rfl)) rfl ?_)
      with_reducible refine any_end ?_
      (refine n_t ?_;refine tr_seq ?_)
      with_reducible refine tr_drawP 8 6 (by kernel_rfl) (pure_at rfl (by kernel_rfl) (by kernel_rfl)) ?_
      refine am_val (fun β=>(rk_loadB (.of rfl) (.there (.there .here)) norm_ (by rfl))) ind0 rfl ?_
      dsimp only [Nat.zero_add,Nat.reduceAdd]
      with_reducible apply am_callV (B:=[]) (F:=fun _=>.agg #[.int .i64 r.fr,.bool r.dr]) (args:=fun _=>[.agg #[.int .i64 r.fr,.bool r.dr]])
      case hB=>rfl
      case hr=>exact fun β=>rk_call (.of rfl) (.cons (.of rfl) .nil) inferInstance rfl
      case hi=>exact ind0
      case hd=>rfl
      case hc=>exact fun β w' hb=>hrate w'
      dsimp only [Nat.reduceAdd]
      refine am_val (fun β=>(rk_loadB (.of rfl) .here norm_ (by rfl))) ind0 rfl ?_
      dsimp only [Nat.zero_add,Nat.reduceAdd]
      with_reducible apply am_callV (B:=[]) (F:=fun _=>.tuple #[.agg #[.int .i64 qh,.int .i64 qm,.int .i64 qs,.int .i64 qf],.int .i64 0]) (args:=fun _=>[.agg #[.int .i64 r.fr,.bool r.dr],.agg #[.int .i64 lh,.int .i64 lm,.int .i64 ls,.int .i64 lf],.int .i64 1])
      case hB=>rfl
      case hr=>exact fun β=>rk_call (.of rfl) (.cons (.of rfl) (.cons (.of rfl) (.cons (.of rfl) .nil))) inferInstance rfl
      case hi=>exact ind0
      case hd=>rfl
      case hc=>exact fun β w' hb=>hn1 w' hb.mem.keeps
      dsimp only [Nat.reduceAdd]
      (refine am_val (fun β=>(rk_move (.of rfl))) ind0 rfl ?_;refine am_val (fun β=>(rk_extract (.of rfl) rfl)) ind0 rfl ?_;refine am_val (fun β=>(rk_extract (.of rfl) rfl)) ind0 rfl ?_)
      refine am_new (fun β=>(rk_alloc rfl)) (fun _ _ _=>rfl) rfl ?_
      refine am_end fun β=>?_
      dsimp only [resAll,List.nil_append,List.cons_append,List.append_eq,Nat.reduceAdd]
      generalize gnat (β 7) = b15
      clear β
      refine left_ready (rs:=[8]) (by kernel_rfl) (by simp) (List.forall_mem_cons.2 ⟨?_,fun _ h=>absurd h List.not_mem_nil⟩)
      refine next_step rfl ?_
      (refine tr_store (.of rfl) (.of rfl) .here rfl rfl (okc_cons rfl (okc_cons rfl (okc_cons rfl (okc_cons rfl okc_nil)))) (lenb rfl) norm_ ?_;refine n_t ?_)
      refine left_ready (rs:=[9]) (by kernel_rfl) (by simp) (List.forall_mem_cons.2 ⟨?_,fun _ h=>absurd h List.not_mem_nil⟩)
      refine next_step rfl ?_
      (refine a_s rfl rfl ?_;refine n_t ?_)
      with_reducible refine left_done (by kernel_rfl) ?_
      apply cut_key (A:=Tr _ [] [(3,.pointer (some ⟨b3,0,none⟩)),(5,.pointer (some ⟨b5,0,none⟩)),(11,.pointer (some ⟨b11,0,none⟩))] [blk b11 (.cells #[.int .i64 lh,.int .i64 lm,.int .i64 ls,.int .i64 lf] 32 (0,0)),blk b5 (.cells #[.int .i16 x,.int .i16 y] 93 (0,0)),blk b3 (.cells #[.int .i64 r.fr,.bool r.dr] 23 (0,0))] _)
      · intro key
        (refine tr_then ?_;refine tr_seq ?_;refine s_r ?_;refine m_v rfl rfl ?_;refine m_v rfl rfl ?_;refine tr_val (rk_add (.of rfl) (.of rfl) (ini (by omega))) rfl ?_;refine tr_val (rk_neq (.of rfl) (.of rfl)) rfl ?_;refine m_v rfl rfl ?_;refine v_g rfl rfl rfl rfl ?_;refine v_g rfl rfl rfl rfl ?_;refine tr_vG1 rfl rfl inferInstance (fun hg hgp=>(rk_neq (.ofg hg rfl) (.ofg hg rfl))) rfl ?_;refine tr_val (rk_pick_or (.of rfl) rfl) rfl ?_;refine m_v rfl rfl ?_;refine tr_vG1 rfl rfl inferInstance (fun hg hgp=>(rk_loadB (.of rfl) (.there (.there (.there .here))) norm_ (by rfl))) rfl ?_;refine tr_vG1 rfl rfl inferInstance (fun hg hgp=>(rk_loadB (.of rfl) .here norm_ (by rfl))) rfl ?_;refine tr_callVG1 rfl rfl (fun hg=>(rk_call (.of rfl) (.cons (.ofg hg rfl) (.cons (.ofg hg rfl) .nil)) inferInstance normc_)) rfl (fun hg w' hm'=>(hnq w')) ?_;refine tr_vG1 rfl rfl inferInstance (fun hg hgp=>(rk_neq (.ofg hg rfl) (.of rfl))) rfl ?_;refine tr_val (rk_pick_or (.of rfl) rfl) rfl ?_;refine n_t ?_;refine c_b rfl (fun _=>by omega) (fun hcd=>?_);refine s_t ?_;refine tr_seq ?_;refine s_r ?_;refine m_v rfl rfl ?_;refine m_v rfl rfl ?_;refine tr_val (rk_sub (.of rfl) (.of rfl) (ini (by omega))) rfl ?_;refine tr_val (rk_eql (.of rfl) (.of rfl)) rfl ?_;refine n_t ?_;refine c_d rfl (fun hcd=>?_) (fun hcd=>?_);refine s_r ?_;refine tr_val (rk_loadB (.of rfl) .here norm_ (by rfl)) rfl ?_;refine tr_val (rk_buildL .nil norm_) rfl ?_;refine tr_val (rk_neqA (.of rfl) (.of rfl) (okL_int (okL_int (okL_int (okL_int okL_nil)))) rfl) rfl ?_;refine n_t ?_;refine c_b rfl (fun hcd=>?_) (fun hcd=>?_);refine s_r ?_;refine a_s rfl rfl ?_;refine n_t ?_;refine r_t ?_;refine tr_retE rfl (ends1 rfl rfl) ?_;rotate_left;refine s_t ?_;refine tr_seq ?_;rotate_right;rotate_left 2;refine s_r ?_;refine tr_val (rk_loadB (.of rfl) (.there .here) norm_ (by rfl)) rfl ?_;refine tr_new (rk_alloc rfl) rfl (fun _ _=>?_);refine tr_store (.of rfl) (.of rfl) .here rfl rfl (okc_cons rfl (okc_cons rfl (okc_cons rfl (okc_cons rfl okc_nil)))) (lenb rfl) norm_ ?_;refine n_r ?_;refine f_a rfl rfl norm0_ ?_;refine tr_val (rk_load1 (.of rfl) (At.lit .here rfl)) rfl ?_;refine tr_val (rk_add (.of rfl) (.of rfl) (ini (by omega))) rfl ?_;refine f_a rfl rfl norm0_ ?_;refine tr_store (.of rfl) (.of rfl) .here rfl rfl (okc_cons rfl okc_nil) (lenb rfl) norm_ ?_;refine n_t ?_;refine tr_seq ?_;refine s_r ?_;refine f_a rfl rfl norm0_ ?_;refine tr_val (rk_load1 (.of rfl) (At.lit .here rfl)) rfl ?_;refine f_a rfl rfl norm0_ ?_;refine tr_val (rk_load1 (.of rfl) (At.lit (.there (.there (.there (.there .here)))) rfl)) rfl ?_;refine tr_val (rk_eql (.of rfl) (.of rfl)) rfl ?_;refine n_t ?_;refine c_d rfl (fun hcd=>?_) (fun hcd=>?_);refine s_r ?_;refine f_a rfl rfl norm0_ ?_;refine tr_store (.of rfl) (.of rfl) .here rfl rfl (okc_cons rfl okc_nil) (lenb rfl) norm_ ?_;refine n_t ?_;refine tr_region ?_;refine f_a rfl rfl norm0_ ?_;refine tr_val (rk_load1 (.of rfl) (At.lit .here rfl)) rfl ?_;refine tr_val (rk_add (.of rfl) (.of rfl) (ini (by omega))) rfl ?_;refine f_a rfl rfl norm0_ ?_;refine tr_store (.of rfl) (.of rfl) .here rfl rfl (okc_cons rfl okc_nil) (lenb rfl) norm_ ?_;refine n_t ?_;refine tr_seq ?_;refine s_r ?_;refine f_a rfl rfl norm0_ ?_;refine tr_val (rk_load1 (.of rfl) (At.lit .here rfl)) rfl ?_;refine tr_val (rk_eql (.of rfl) (.of rfl)) rfl ?_;refine n_t ?_;refine c_d rfl (fun hcd=>?_) (fun hcd=>?_);refine s_r ?_;refine f_a rfl rfl norm0_ ?_;refine tr_store (.of rfl) (.of rfl) .here rfl rfl (okc_cons rfl okc_nil) (lenb rfl) norm_ ?_;refine n_t ?_;refine tr_region ?_;refine f_a rfl rfl norm0_ ?_;refine tr_val (rk_load1 (.of rfl) (At.lit .here rfl)) rfl ?_;refine tr_val (rk_add (.of rfl) (.of rfl) (ini (by omega))) rfl ?_;refine f_a rfl rfl norm0_ ?_;refine tr_store (.of rfl) (.of rfl) .here rfl rfl (okc_cons rfl okc_nil) (lenb rfl) norm_ ?_;refine n_t ?_;refine tr_seq ?_;refine s_r ?_;refine f_a rfl rfl norm0_ ?_;refine tr_val (rk_load1 (.of rfl) (At.lit .here rfl)) rfl ?_;refine tr_val (rk_eql (.of rfl) (.of rfl)) rfl ?_;refine n_t ?_;refine c_d rfl (fun hcd=>?_) (fun hcd=>?_);refine s_r ?_;refine f_a rfl rfl norm0_ ?_;refine tr_store (.of rfl) (.of rfl) .here rfl rfl (okc_cons rfl okc_nil) (lenb rfl) norm_ ?_;refine n_t ?_;refine tr_region ?_;refine f_a rfl rfl norm0_ ?_;refine tr_val (rk_load1 (.of rfl) (At.lit .here rfl)) rfl ?_;refine tr_val (rk_add (.of rfl) (.of rfl) (ini (by omega))) rfl ?_;refine f_a rfl rfl norm0_ ?_;refine tr_store (.of rfl) (.of rfl) .here rfl rfl (okc_cons rfl okc_nil) (lenb rfl) norm_ ?_;refine n_t ?_;refine tr_seq ?_;refine s_r ?_;refine f_a rfl rfl norm0_ ?_;refine tr_val (rk_load1 (.of rfl) (At.lit (.there (.there (.there (.there .here)))) rfl)) rfl ?_;refine m_v rfl rfl ?_;refine tr_vG1 rfl rfl inferInstance (fun hg hgp=>(rk_fieldAddr (.of rfl) norm0_)) rfl ?_;refine tr_vG1 rfl rfl inferInstance (fun hg hgp=>(rk_load1 (.ofg hg rfl) (At.lit .here rfl))) rfl ?_;refine tr_vG1 rfl rfl inferInstance (fun hg hgp=>(rk_rem (.ofg hg rfl) (.of rfl) (by omega) (by omega))) rfl ?_;refine tr_vG1 rfl rfl inferInstance (fun hg hgp=>(rk_neq (.ofg hg rfl) (.of rfl))) rfl ?_;refine tr_val (rk_pick_and (.of rfl) rfl) rfl ?_;refine m_v rfl rfl ?_;refine tr_vG1 rfl rfl inferInstance (fun hg hgp=>(rk_fieldAddr (.of rfl) norm0_)) rfl ?_;refine tr_vG1 rfl rfl inferInstance (fun hg hgp=>(rk_load1 (.ofg hg rfl) (At.lit .here rfl))) rfl ?_;refine tr_vG1 rfl rfl inferInstance (fun hg hgp=>(rk_eql (.ofg hg rfl) (.of rfl))) rfl ?_;refine tr_val (rk_pick_and (.of rfl) rfl) rfl ?_;refine m_v rfl rfl ?_;refine tr_vG1 rfl rfl inferInstance (fun hg hgp=>(rk_fieldAddr (.of rfl) norm0_)) rfl ?_;refine tr_vG1 rfl rfl inferInstance (fun hg hgp=>(rk_load1 (.ofg hg rfl) (At.lit .here rfl))) rfl ?_;refine tr_vG1 rfl rfl inferInstance (fun hg hgp=>(rk_lss (.ofg hg rfl) (.of rfl))) rfl ?_;refine tr_val (rk_pick_and (.of rfl) rfl) rfl ?_;refine n_t ?_;refine c_b rfl (fun _=>by omega) (fun hcd=>?_);refine s_t ?_;refine s_r ?_;refine tr_val (rk_loadB (.of rfl) (.there .here) norm_ (by rfl)) rfl ?_;refine tr_val (rk_loadB (.of rfl) .here norm_ (by rfl)) rfl ?_;refine tr_val (rk_neqA (.of rfl) (.of rfl) (okL_int (okL_int (okL_int (okL_int okL_nil)))) rfl) rfl ?_;refine n_t ?_;refine c_b rfl (fun hcd=>?_) (fun hcd=>?_);refine s_r ?_;refine a_s rfl rfl ?_;refine n_t ?_;refine r_t ?_;refine tr_retE rfl (ends1 rfl rfl) ?_;rotate_left;refine s_t ?_;refine tr_seq ?_;rotate_right;rotate_left 2;refine s_t ?_;refine tr_seq ?_;refine s_r ?_;refine f_a rfl rfl norm0_ ?_;refine tr_val (rk_load1 (.of rfl) (At.lit (.there (.there (.there (.there .here)))) rfl)) rfl ?_;refine m_v rfl rfl ?_;refine tr_vG1 rfl rfl inferInstance (fun hg hgp=>(rk_fieldAddr (.of rfl) norm0_)) rfl ?_;refine tr_vG1 rfl rfl inferInstance (fun hg hgp=>(rk_load1 (.ofg hg rfl) (At.lit .here rfl))) rfl ?_;refine tr_vG1 rfl rfl inferInstance (fun hg hgp=>(rk_rem (.ofg hg rfl) (.of rfl) (by omega) (by omega))) rfl ?_;refine tr_vG1 rfl rfl inferInstance (fun hg hgp=>(rk_neq (.ofg hg rfl) (.of rfl))) rfl ?_;refine tr_val (rk_pick_and (.of rfl) rfl) rfl ?_;refine m_v rfl rfl ?_;refine tr_vG1 rfl rfl inferInstance (fun hg hgp=>(rk_fieldAddr (.of rfl) norm0_)) rfl ?_;refine tr_vG1 rfl rfl inferInstance (fun hg hgp=>(rk_load1 (.ofg hg rfl) (At.lit .here rfl))) rfl ?_;refine tr_vG1 rfl rfl inferInstance (fun hg hgp=>(rk_eql (.ofg hg rfl) (.of rfl))) rfl ?_;refine tr_val (rk_pick_and (.of rfl) rfl) rfl ?_;refine m_v rfl rfl ?_;refine tr_vG1 rfl rfl inferInstance (fun hg hgp=>(rk_fieldAddr (.of rfl) norm0_)) rfl ?_;refine tr_vG1 rfl rfl inferInstance (fun hg hgp=>(rk_load1 (.ofg hg rfl) (At.lit .here rfl))) rfl ?_;refine tr_vG1 rfl rfl inferInstance (fun hg hgp=>(rk_lss (.ofg hg rfl) (.of rfl))) rfl ?_;refine tr_val (rk_pick_and (.of rfl) rfl) rfl ?_;refine n_t ?_;refine c_b rfl (fun hcd=>?_) (fun hcd=>?_);refine tr_region ?_;refine f_a rfl rfl norm0_ ?_;refine tr_store (.of rfl) (.of rfl) .here rfl rfl (okc_cons rfl okc_nil) (lenb rfl) norm_ ?_;refine n_r ?_;refine tr_val (rk_loadB (.of rfl) (.there .here) norm_ (by rfl)) rfl ?_;refine tr_val (rk_loadB (.of rfl) .here norm_ (by rfl)) rfl ?_;refine tr_val (rk_neqA (.of rfl) (.of rfl) (okL_int (okL_int (okL_int (okL_int okL_nil)))) rfl) rfl ?_;refine n_t ?_;refine c_b rfl (fun hcd=>?_) (fun hcd=>?_);refine s_r ?_;refine a_s rfl rfl ?_;refine n_t ?_;refine r_t ?_;refine tr_retE rfl (ends1 rfl rfl) ?_;rotate_left;refine s_t ?_;refine tr_seq ?_;rotate_right;rotate_left 2;refine s_t ?_;refine s_r ?_;refine tr_val (rk_loadB (.of rfl) (.there .here) norm_ (by rfl)) rfl ?_;refine tr_val (rk_loadB (.of rfl) .here norm_ (by rfl)) rfl ?_;refine tr_val (rk_neqA (.of rfl) (.of rfl) (okL_int (okL_int (okL_int (okL_int okL_nil)))) rfl) rfl ?_;refine n_t ?_;refine c_b rfl (fun hcd=>?_) (fun hcd=>?_);refine s_r ?_;refine a_s rfl rfl ?_;refine n_t ?_;refine r_t ?_;refine tr_retE rfl (ends1 rfl rfl) ?_;rotate_left;refine s_t ?_;refine tr_seq ?_;rotate_right;rotate_right 2;rotate_right 2;rotate_left 6;refine s_t ?_;refine tr_seq ?_;refine s_r ?_;refine f_a rfl rfl norm0_ ?_;refine tr_val (rk_load1 (.of rfl) (At.lit .here rfl)) rfl ?_;refine tr_val (rk_eql (.of rfl) (.of rfl)) rfl ?_;refine n_t ?_;refine c_d rfl (fun _=>by omega) (fun hcd=>?_);refine s_t ?_;refine tr_seq ?_;refine s_r ?_;refine f_a rfl rfl norm0_ ?_;refine tr_val (rk_load1 (.of rfl) (At.lit (.there (.there (.there (.there .here)))) rfl)) rfl ?_;refine m_v rfl rfl ?_;refine tr_vG1 rfl rfl inferInstance (fun hg hgp=>(rk_fieldAddr (.of rfl) norm0_)) rfl ?_;refine tr_vG1 rfl rfl inferInstance (fun hg hgp=>(rk_load1 (.ofg hg rfl) (At.lit .here rfl))) rfl ?_;refine tr_vG1 rfl rfl inferInstance (fun hg hgp=>(rk_rem (.ofg hg rfl) (.of rfl) (by omega) (by omega))) rfl ?_;refine tr_vG1 rfl rfl inferInstance (fun hg hgp=>(rk_neq (.ofg hg rfl) (.of rfl))) rfl ?_;refine tr_val (rk_pick_and (.of rfl) rfl) rfl ?_;refine m_v rfl rfl ?_;refine tr_vG1 rfl rfl inferInstance (fun hg hgp=>(rk_fieldAddr (.of rfl) norm0_)) rfl ?_;refine tr_vG1 rfl rfl inferInstance (fun hg hgp=>(rk_load1 (.ofg hg rfl) (At.lit .here rfl))) rfl ?_;refine tr_vG1 rfl rfl inferInstance (fun hg hgp=>(rk_eql (.ofg hg rfl) (.of rfl))) rfl ?_;refine tr_val (rk_pick_and (.of rfl) rfl) rfl ?_;refine m_v rfl rfl ?_;refine tr_vG1 rfl rfl inferInstance (fun hg hgp=>(rk_fieldAddr (.of rfl) norm0_)) rfl ?_;refine tr_vG1 rfl rfl inferInstance (fun hg hgp=>(rk_load1 (.ofg hg rfl) (At.lit .here rfl))) rfl ?_;refine tr_vG1 rfl rfl inferInstance (fun hg hgp=>(rk_lss (.ofg hg rfl) (.of rfl))) rfl ?_;refine tr_val (rk_pick_and (.of rfl) rfl) rfl ?_;refine n_t ?_;refine c_b rfl (fun _=>by omega) (fun hcd=>?_);refine s_t ?_;refine s_r ?_;refine tr_val (rk_loadB (.of rfl) (.there .here) norm_ (by rfl)) rfl ?_;refine tr_val (rk_loadB (.of rfl) .here norm_ (by rfl)) rfl ?_;refine tr_val (rk_neqA (.of rfl) (.of rfl) (okL_int (okL_int (okL_int (okL_int okL_nil)))) rfl) rfl ?_;refine n_t ?_;refine c_b rfl (fun hcd=>?_) (fun hcd=>?_);refine s_r ?_;refine a_s rfl rfl ?_;refine n_t ?_;refine r_t ?_;refine tr_retE rfl (ends1 rfl rfl) ?_;rotate_left;refine s_t ?_;refine tr_seq ?_;rotate_right;rotate_right 6;rotate_left 8;refine s_t ?_;refine tr_seq ?_;refine s_r ?_;refine f_a rfl rfl norm0_ ?_;refine tr_val (rk_load1 (.of rfl) (At.lit .here rfl)) rfl ?_;refine tr_val (rk_eql (.of rfl) (.of rfl)) rfl ?_;refine n_t ?_;refine c_d rfl (fun _=>by omega) (fun hcd=>?_);refine s_t ?_;refine tr_seq ?_;refine s_r ?_;refine f_a rfl rfl norm0_ ?_;refine tr_val (rk_load1 (.of rfl) (At.lit .here rfl)) rfl ?_;refine tr_val (rk_eql (.of rfl) (.of rfl)) rfl ?_;refine n_t ?_;refine c_d rfl (fun _=>by omega) (fun hcd=>?_);refine s_t ?_;refine tr_seq ?_;refine s_r ?_;refine f_a rfl rfl norm0_ ?_;refine tr_val (rk_load1 (.of rfl) (At.lit (.there (.there (.there (.there .here)))) rfl)) rfl ?_;refine m_v rfl rfl ?_;refine tr_vG1 rfl rfl inferInstance (fun hg hgp=>(rk_fieldAddr (.of rfl) norm0_)) rfl ?_;refine tr_vG1 rfl rfl inferInstance (fun hg hgp=>(rk_load1 (.ofg hg rfl) (At.lit .here rfl))) rfl ?_;refine tr_vG1 rfl rfl inferInstance (fun hg hgp=>(rk_rem (.ofg hg rfl) (.of rfl) (by omega) (by omega))) rfl ?_;refine tr_vG1 rfl rfl inferInstance (fun hg hgp=>(rk_neq (.ofg hg rfl) (.of rfl))) rfl ?_;refine tr_val (rk_pick_and (.of rfl) rfl) rfl ?_;refine m_v rfl rfl ?_;refine tr_vG1 rfl rfl inferInstance (fun hg hgp=>(rk_fieldAddr (.of rfl) norm0_)) rfl ?_;refine tr_vG1 rfl rfl inferInstance (fun hg hgp=>(rk_load1 (.ofg hg rfl) (At.lit .here rfl))) rfl ?_;refine tr_vG1 rfl rfl inferInstance (fun hg hgp=>(rk_eql (.ofg hg rfl) (.of rfl))) rfl ?_;refine tr_val (rk_pick_and (.of rfl) rfl) rfl ?_;refine m_v rfl rfl ?_;refine tr_vG1 rfl rfl inferInstance (fun hg hgp=>(rk_fieldAddr (.of rfl) norm0_)) rfl ?_;refine tr_vG1 rfl rfl inferInstance (fun hg hgp=>(rk_load1 (.ofg hg rfl) (At.lit .here rfl))) rfl ?_;refine tr_vG1 rfl rfl inferInstance (fun hg hgp=>(rk_lss (.ofg hg rfl) (.of rfl))) rfl ?_;refine tr_val (rk_pick_and (.of rfl) rfl) rfl ?_;refine n_t ?_;refine c_b rfl (fun hcd=>?_) (fun hcd=>?_);refine tr_region ?_;refine f_a rfl rfl norm0_ ?_;refine tr_store (.of rfl) (.of rfl) .here rfl rfl (okc_cons rfl okc_nil) (lenb rfl) norm_ ?_;refine n_r ?_;refine tr_val (rk_loadB (.of rfl) (.there .here) norm_ (by rfl)) rfl ?_;refine tr_val (rk_loadB (.of rfl) .here norm_ (by rfl)) rfl ?_;refine tr_val (rk_neqA (.of rfl) (.of rfl) (okL_int (okL_int (okL_int (okL_int okL_nil)))) rfl) rfl ?_;refine n_t ?_;refine c_b rfl (fun hcd=>?_) (fun hcd=>?_);refine s_r ?_;refine a_s rfl rfl ?_;refine n_t ?_;refine r_t ?_;refine tr_retE rfl (ends1 rfl rfl) ?_;rotate_left;refine s_t ?_;refine tr_seq ?_;rotate_right;rotate_left 2;refine s_t ?_;refine s_r ?_;refine tr_val (rk_loadB (.of rfl) (.there .here) norm_ (by rfl)) rfl ?_;refine tr_val (rk_loadB (.of rfl) .here norm_ (by rfl)) rfl ?_;refine tr_val (rk_neqA (.of rfl) (.of rfl) (okL_int (okL_int (okL_int (okL_int okL_nil)))) rfl) rfl ?_;refine n_t ?_;refine c_b rfl (fun hcd=>?_) (fun hcd=>?_);refine s_r ?_;refine a_s rfl rfl ?_;refine n_t ?_;refine r_t ?_;refine tr_retE rfl (ends1 rfl rfl) ?_;rotate_left;refine s_t ?_;refine tr_seq ?_;rotate_right;rotate_right 2;rotate_right 8;rotate_right 2)
        · exfalso
          clear key
          have e:=n1 (by assumption)
          cases e
          simp at hcd
        · exact tr_cutW _ _ (by exact .cons rfl (.cons rfl (.cons rfl .nil))) (by exact .cons (.there .here) (.cons (.there .here) (.cons (.there .here) .nil))) key
        · exfalso
          clear key
          have e:=n5 (by assumption) (by assumption) (by assumption) (fun z=>absurd (n6 (by assumption) (by assumption) (by assumption) z) (by assumption))
          cases e
          simp at hcd
        · exact tr_cutW _ _ (by exact .cons rfl (.cons rfl (.cons rfl .nil))) (by exact .cons (.there (.there .here)) (.cons (.there (.there .here)) (.cons (.there (.there .here)) .nil))) key
        · exfalso
          clear key
          rename_i hc6
          have e:=n4 (by assumption) (by assumption) (by assumption)
          rw [if_pos hc6.1.1] at e
          cases e
          simp at hcd
        · exact tr_cutW _ _ (by exact .cons rfl (.cons rfl (.cons rfl .nil))) (by exact .cons (.there (.there .here)) (.cons (.there (.there .here)) (.cons (.there (.there .here)) .nil))) key
        · exfalso
          clear key
          rename_i hc6
          have e:=n4 (by assumption) (by assumption) (by assumption)
          rw [if_neg (by rintro ⟨a,b⟩;rcases hc6 with ((h | h) | h) | h;(rw [a] at h;cases h);exact h b;exact h rfl;exact h (by decide))] at e
          cases e
          simp at hcd
        · exact tr_cutW _ _ (by exact .cons rfl (.cons rfl (.cons rfl .nil))) (by exact .cons (.there (.there .here)) (.cons (.there (.there .here)) (.cons (.there (.there .here)) .nil))) key
        · exfalso
          clear key
          have e:=n3 (by assumption) (by assumption)
          cases e
          simp at hcd
        · exact tr_cutW _ _ (by exact .cons rfl (.cons rfl (.cons rfl .nil))) (by exact .cons (.there (.there .here)) (.cons (.there (.there .here)) (.cons (.there (.there .here)) .nil))) key
        · exfalso
          clear key
          rename_i hc6
          have:=d5 hc6.1.1.1 hc6.1.1.2 hc6.1.2
          omega
        · exact tr_cutW _ _ (by exact .cons rfl (.cons rfl (.cons rfl .nil))) (by exact .cons (.there (.there .here)) (.cons (.there (.there .here)) (.cons (.there (.there .here)) .nil))) key
        · exfalso
          clear key
          have e:=n2 (by assumption)
          cases e
          simp at hcd
        · exact tr_cutW _ _ (by exact .cons rfl (.cons rfl (.cons rfl .nil))) (by exact .cons (.there (.there .here)) (.cons (.there (.there .here)) (.cons (.there (.there .here)) .nil))) key
      · clear n1 n2 n3 n4 n5 n6
        with_reducible refine tr_drawP 11 9 (by kernel_rfl) (pure_at rfl (by kernel_rfl) (by kernel_rfl)) ?_
        refine am_val (fun β=>(rk_loadB (.of rfl) (.there (.there .here)) norm_ (by rfl))) ind0 rfl ?_
        dsimp only [Nat.zero_add,Nat.reduceAdd]
        with_reducible apply am_callV (B:=[]) (F:=fun _=>.agg #[.int .i64 r.fr,.bool r.dr]) (args:=fun _=>[.agg #[.int .i64 r.fr,.bool r.dr]])
        case hB=>rfl
        case hr=>exact fun β=>rk_call (.of rfl) (.cons (.of rfl) .nil) inferInstance rfl
        case hi=>exact ind0
        case hd=>rfl
        case hc=>exact fun β w' hb=>hrate w'
        dsimp only [Nat.reduceAdd]
        refine am_val (fun β=>(rk_loadB (.of rfl) .here norm_ (by rfl))) ind0 rfl ?_
        refine am_val (fun β=>(rk_indexAddrA (.of rfl) (.of rfl) (by omega) (by omega) norm1_)) ind0 rfl ?_
        refine am_val (fun β=>(rk_load1 (.of rfl) (At.lit (.there .here) rfl))) ind0 rfl ?_
        refine am_val (F:=fun _=>.int .i64 x) (fun β=>rk_convX (.of rfl) hwx) ind0 rfl ?_
        dsimp only [Nat.zero_add,Nat.reduceAdd]
        with_reducible apply am_callV (B:=[]) (F:=fun _=>.tuple #[.agg #[.int .i64 ah,.int .i64 am,.int .i64 as_,.int .i64 af],.int .i64 0]) (args:=fun _=>[.agg #[.int .i64 r.fr,.bool r.dr],.agg #[.int .i64 lh,.int .i64 lm,.int .i64 ls,.int .i64 lf],.int .i64 x])
        case hB=>rfl
        case hr=>exact fun β=>rk_call (.of rfl) (.cons (.of rfl) (.cons (.of rfl) (.cons (.of rfl) .nil))) inferInstance rfl
        case hi=>exact ind0
        case hd=>rfl
        case hc=>exact fun β w' hb=>hx1 w' hb.mem.keeps
        dsimp only [Nat.reduceAdd]
        (refine am_val (fun β=>(rk_move (.of rfl))) ind0 rfl ?_;refine am_val (fun β=>(rk_extract (.of rfl) rfl)) ind0 rfl ?_;refine am_val (fun β=>(rk_extract (.of rfl) rfl)) ind0 rfl ?_)
        refine am_new (fun β=>(rk_alloc rfl)) (fun _ _ _=>rfl) rfl ?_
        refine am_end fun β=>?_
        dsimp only [resAll,List.nil_append,List.cons_append,List.append_eq,Nat.reduceAdd]
        generalize gnat (β 10) = b18
        clear β
        refine left_ready (rs:=[11]) (by kernel_rfl) (by simp) (List.forall_mem_cons.2 ⟨?_,fun _ h=>absurd h List.not_mem_nil⟩)
        refine next_step rfl ?_
        (refine tr_store (.of rfl) (.of rfl) .here rfl rfl (okc_cons rfl (okc_cons rfl (okc_cons rfl (okc_cons rfl okc_nil)))) (lenb rfl) norm_ ?_;refine n_t ?_)
        refine left_ready (rs:=[12]) (by kernel_rfl) (by simp) (List.forall_mem_cons.2 ⟨?_,fun _ h=>absurd h List.not_mem_nil⟩)
        refine next_step rfl ?_
        (refine a_s rfl rfl ?_;refine n_t ?_)
        with_reducible refine left_done (by kernel_rfl) ?_
        (refine tr_then ?_;refine tr_seq ?_;refine s_r ?_;refine m_v rfl rfl ?_;refine tr_val (rk_neq (.of rfl) (.of rfl)) rfl ?_;refine m_v rfl rfl ?_;refine tr_vG1 rfl rfl inferInstance (fun hg hgp=>(rk_loadB (.of rfl) (.there (.there (.there .here))) norm_ (by rfl))) rfl ?_;refine tr_vG1 rfl rfl inferInstance (fun hg hgp=>(rk_loadB (.of rfl) .here norm_ (by rfl))) rfl ?_;refine tr_callVG1 rfl rfl (fun hg=>(rk_call (.of rfl) (.cons (.ofg hg rfl) (.cons (.ofg hg rfl) .nil)) inferInstance normc_)) rfl (fun hg w' hm'=>(haq w')) ?_;refine tr_vG1 rfl rfl inferInstance (fun hg hgp=>(rk_neq (.ofg hg rfl) (.of rfl))) rfl ?_;refine tr_val (rk_pick_or (.of rfl) rfl) rfl ?_;refine n_t ?_;refine tr_cond_f (.of rfl) ?_;refine s_t ?_;refine tr_seq ?_)
        with_reducible refine tr_drawP 11 9 (by kernel_rfl) (pure_at rfl (by kernel_rfl) (by kernel_rfl)) ?_
        refine am_val (fun β=>(rk_loadB (.of rfl) (.there (.there (.there .here))) norm_ (by rfl))) ind0 rfl ?_
        dsimp only [Nat.zero_add,Nat.reduceAdd]
        with_reducible apply am_callV (B:=[]) (F:=fun _=>.agg #[.int .i64 r.fr,.bool r.dr]) (args:=fun _=>[.agg #[.int .i64 r.fr,.bool r.dr]])
        case hB=>rfl
        case hr=>exact fun β=>rk_call (.of rfl) (.cons (.of rfl) .nil) inferInstance rfl
        case hi=>exact ind0
        case hd=>rfl
        case hc=>exact fun β w' hb=>hrate w'
        dsimp only [Nat.reduceAdd]
        refine am_val (fun β=>(rk_loadB (.of rfl) .here norm_ (by rfl))) ind0 rfl ?_
        refine am_val (fun β=>(rk_indexAddrA (.of rfl) (.of rfl) (by omega) (by omega) norm1_)) ind0 rfl ?_
        refine am_val (fun β=>(rk_load1 (.of rfl) (At.lit (.there (.there .here)) rfl))) ind0 rfl ?_
        refine am_val (F:=fun _=>.int .i64 y) (fun β=>rk_convX (.of rfl) hwy) ind0 rfl ?_
        dsimp only [Nat.zero_add,Nat.reduceAdd]
        with_reducible apply am_callV (B:=[]) (F:=fun _=>.tuple #[.agg #[.int .i64 yh,.int .i64 ym,.int .i64 ys,.int .i64 yf],.int .i64 0]) (args:=fun _=>[.agg #[.int .i64 r.fr,.bool r.dr],.agg #[.int .i64 ah,.int .i64 am,.int .i64 as_,.int .i64 af],.int .i64 y])
        case hB=>rfl
        case hr=>exact fun β=>rk_call (.of rfl) (.cons (.of rfl) (.cons (.of rfl) (.cons (.of rfl) .nil))) inferInstance rfl
        case hi=>exact ind0
        case hd=>rfl
        case hc=>exact fun β w' hb=>hy1 w' hb.mem.keeps
        dsimp only [Nat.reduceAdd]
        (refine am_val (fun β=>(rk_move (.of rfl))) ind0 rfl ?_;refine am_val (fun β=>(rk_extract (.of rfl) rfl)) ind0 rfl ?_;refine am_val (fun β=>(rk_extract (.of rfl) rfl)) ind0 rfl ?_)
        refine am_new (fun β=>(rk_alloc rfl)) (fun _ _ _=>rfl) rfl ?_
        refine am_end fun β=>?_
        dsimp only [resAll,List.nil_append,List.cons_append,List.append_eq,Nat.reduceAdd]
        generalize gnat (β 10) = b20
        clear β
        refine left_ready (rs:=[11]) (by kernel_rfl) (by simp) (List.forall_mem_cons.2 ⟨?_,fun _ h=>absurd h List.not_mem_nil⟩)
        refine next_step rfl ?_
        (refine tr_store (.of rfl) (.of rfl) .here rfl rfl (okc_cons rfl (okc_cons rfl (okc_cons rfl (okc_cons rfl okc_nil)))) (lenb rfl) norm_ ?_;refine n_t ?_)
        refine left_ready (rs:=[12]) (by kernel_rfl) (by simp) (List.forall_mem_cons.2 ⟨?_,fun _ h=>absurd h List.not_mem_nil⟩)
        refine next_step rfl ?_
        (refine a_s rfl rfl ?_;refine n_t ?_)
        with_reducible refine left_done (by kernel_rfl) ?_
        (refine tr_then ?_;refine tr_seq ?_)
        with_reducible refine tr_drawP 15 13 (by kernel_rfl) (pure_at rfl (by kernel_rfl) (by kernel_rfl)) ?_
        refine am_val (fun β=>(rk_loadB (.of rfl) (.there (.there (.there (.there .here)))) norm_ (by rfl))) ind0 rfl ?_
        dsimp only [Nat.zero_add,Nat.reduceAdd]
        with_reducible apply am_callV (B:=[]) (F:=fun _=>.agg #[.int .i64 r.fr,.bool r.dr]) (args:=fun _=>[.agg #[.int .i64 r.fr,.bool r.dr]])
        case hB=>rfl
        case hr=>exact fun β=>rk_call (.of rfl) (.cons (.of rfl) .nil) inferInstance rfl
        case hi=>exact ind0
        case hd=>rfl
        case hc=>exact fun β w' hb=>hrate w'
        dsimp only [Nat.reduceAdd]
        refine am_val (fun β=>(rk_loadB (.of rfl) (.there (.there .here)) norm_ (by rfl))) ind0 rfl ?_
        refine am_val (fun β=>(rk_indexAddrA (.of rfl) (.of rfl) (by omega) (by omega) norm1_)) ind0 rfl ?_
        refine am_val (fun β=>(rk_load1 (.of rfl) (At.lit (.there (.there (.there .here))) rfl))) ind0 rfl ?_
        refine am_val (F:=fun _=>.int .i64 x) (fun β=>rk_convX (.of rfl) hwx) ind0 rfl ?_
        refine am_val (fun β=>(rk_indexAddrA (.of rfl) (.of rfl) (by omega) (by omega) norm1_)) ind0 rfl ?_
        refine am_val (fun β=>(rk_load1 (.of rfl) (At.lit (.there (.there (.there .here))) rfl))) ind0 rfl ?_
        refine am_val (F:=fun _=>.int .i64 y) (fun β=>rk_convX (.of rfl) hwy) ind0 rfl ?_
        refine am_val (fun β=>(rk_add (.of rfl) (.of rfl) (ini (by omega)))) ind0 rfl ?_
        dsimp only [Nat.zero_add,Nat.reduceAdd]
        with_reducible apply am_callV (B:=[]) (F:=fun _=>.tuple #[.agg #[.int .i64 yh,.int .i64 ym,.int .i64 ys,.int .i64 yf],.int .i64 0]) (args:=fun _=>[.agg #[.int .i64 r.fr,.bool r.dr],.agg #[.int .i64 lh,.int .i64 lm,.int .i64 ls,.int .i64 lf],.int .i64 (x + y)])
        case hB=>rfl
        case hr=>exact fun β=>rk_call (.of rfl) (.cons (.of rfl) (.cons (.of rfl) (.cons (.of rfl) .nil))) inferInstance rfl
        case hi=>exact ind0
        case hd=>rfl
        case hc=>exact fun β w' hb=>hxy w' hb.mem.keeps
        dsimp only [Nat.reduceAdd]
        (refine am_val (fun β=>(rk_move (.of rfl))) ind0 rfl ?_;refine am_val (fun β=>(rk_extract (.of rfl) rfl)) ind0 rfl ?_;refine am_val (fun β=>(rk_extract (.of rfl) rfl)) ind0 rfl ?_)
        refine am_new (fun β=>(rk_alloc rfl)) (fun _ _ _=>rfl) rfl ?_
        refine am_end fun β=>?_
        dsimp only [resAll,List.nil_append,List.cons_append,List.append_eq,Nat.reduceAdd]
        generalize gnat (β 14) = b22
        clear β
        refine left_ready (rs:=[15]) (by kernel_rfl) (by simp) (List.forall_mem_cons.2 ⟨?_,fun _ h=>absurd h List.not_mem_nil⟩)
        refine next_step rfl ?_
        (refine tr_store (.of rfl) (.of rfl) .here rfl rfl (okc_cons rfl (okc_cons rfl (okc_cons rfl (okc_cons rfl okc_nil)))) (lenb rfl) norm_ ?_;refine n_t ?_)
        refine left_ready (rs:=[16]) (by kernel_rfl) (by simp) (List.forall_mem_cons.2 ⟨?_,fun _ h=>absurd h List.not_mem_nil⟩)
        refine next_step rfl ?_
        (refine a_s rfl rfl ?_;refine n_t ?_)
        with_reducible refine left_done (by kernel_rfl) ?_
        (refine tr_then ?_;refine s_r ?_;refine m_v rfl rfl ?_;refine tr_val (rk_eql (.of rfl) (.of rfl)) rfl ?_;refine m_v rfl rfl ?_;refine v_g rfl rfl rfl rfl ?_;refine tr_vG1 rfl rfl inferInstance (fun hg hgp=>(rk_eql (.ofg hg rfl) (.of rfl))) rfl ?_;refine tr_val (rk_pick_and (.of rfl) rfl) rfl ?_;refine m_v rfl rfl ?_;refine tr_vG1 rfl rfl inferInstance (fun hg hgp=>(rk_loadB (.of rfl) (.there .here) norm_ (by rfl))) rfl ?_;refine tr_vG1 rfl rfl inferInstance (fun hg hgp=>(rk_loadB (.of rfl) .here norm_ (by rfl))) rfl ?_;refine tr_vG1 rfl rfl inferInstance (fun hg hgp=>(rk_eqlA (.ofg hg rfl) (.ofg hg rfl) (okL_int (okL_int (okL_int (okL_int okL_nil)))) rfl)) rfl ?_;refine tr_val (rk_pick_and (.of rfl) rfl) rfl ?_;refine m_v rfl rfl ?_;refine tr_callVG1 rfl rfl (fun hg=>(rk_call (.of rfl) .nil inferInstance normc_)) rfl (fun hg w' hm'=>(awake_c w' (GlobR.keeps hG (Mem.keeps hm')) (Tab10.keeps hT (Mem.keeps hm')))) ?_;refine tr_val (rk_pick_and (.of rfl) rfl) rfl ?_;refine a_s rfl rfl ?_;refine n_t ?_;refine tr_ret ?_;refine tr_retE rfl (ends1 rfl rfl) ?_)
        simp
    · exfalso
      have:r.dr = false:=by assumption
      rw [if_neg (by rw [this];decide)] at hde
      omega
    · clear hde
      rename_i b3 _ b5 _ _ _
      rw [hF']
      (refine tr_callV (rk_call (.of rfl) (.cons (.of rfl) (.cons (.of rfl) .nil)) inferInstance normc_) rfl (fun w' hm'=>(hlof w' (Mem.keeps hm'))) ?_;refine m_v rfl rfl ?_;refine tr_val (rk_extract (.of rfl) rfl) rfl ?_;refine tr_val (rk_extract (.of rfl) rfl) rfl ?_;refine tr_new (rk_alloc rfl) rfl (fun _ _=>?_);refine tr_store (.of rfl) (.of rfl) .here rfl rfl (okc_cons rfl (okc_cons rfl (okc_cons rfl (okc_cons rfl okc_nil)))) (lenb rfl) norm_ ?_;refine a_s rfl rfl ?_;refine n_t ?_;refine tr_seq ?_;refine s_r ?_;refine m_v rfl rfl ?_;refine tr_val (rk_neq (.of rfl) (.of rfl)) rfl ?_;refine m_v rfl rfl ?_;refine tr_vG1 rfl rfl inferInstance (fun hg hgp=>(rk_loadB (.of rfl) (.there (.there .here)) norm_ (by rfl))) rfl ?_;refine tr_vG1 rfl rfl inferInstance (fun hg hgp=>(rk_loadB (.of rfl) .here norm_ (by rfl))) rfl ?_;refine tr_callVG1 rfl rfl (fun hg=>(rk_call (.of rfl) (.cons (.ofg hg rfl) (.cons (.ofg hg rfl) .nil)) inferInstance normc_)) rfl (fun hg w' hm'=>(hlq w')) ?_;refine tr_vG1 rfl rfl inferInstance (fun hg hgp=>(rk_neq (.ofg hg rfl) (.of rfl))) rfl ?_;refine tr_val (rk_pick_or (.of rfl) rfl) rfl ?_;refine n_t ?_;refine tr_cond_f (.of rfl) ?_;refine s_t ?_;refine tr_seq ?_)
      rename_i b11 _
      with_reducible refine tr_draw 9 (by kernel_rfl) ?_
      (refine any_val (rk_loadB (.of rfl) (.there (.there .here)) norm_ (by rfl)) rfl ?_;refine any_call (rk_call (.of rfl) (.cons (.of rfl) .nil) inferInstance normc_) rfl (fun w' hm'=>(hrate w')) ?_;refine any_val (rk_loadB (.of rfl) .here norm_ (by rfl)) rfl ?_;refine any_call (rk_call (.of rfl) (.cons (.of rfl) (.cons (.of rfl) .nil)) inferInstance normc_) rfl (fun w' hm'=>(hfr2 w' (Mem.keeps hm'))) ?_;refine a_m rfl rfl ?_;refine any_val (rk_extract (.of rfl) rfl) rfl ?_;refine any_val (rk_extract (.of rfl) rfl) rfl ?_;refine any_val (rk_assign (.of rfl)) rfl ?_;refine any_val (rk_assign (.of rfl)) rfl ?_)
      with_reducible refine any_end ?_
      (refine n_t ?_;refine tr_seq ?_)
      with_reducible refine tr_drawP 8 6 (by kernel_rfl) (pure_at rfl (by kernel_rfl) (by kernel_rfl)) ?_
      refine am_val (fun β=>(rk_loadB (.of rfl) (.there (.there .here)) norm_ (by rfl))) ind0 rfl ?_
      dsimp only [Nat.zero_add,Nat.reduceAdd]
      with_reducible apply am_callV (B:=[]) (F:=fun _=>.agg #[.int .i64 r.fr,.bool r.dr]) (args:=fun _=>[.agg #[.int .i64 r.fr,.bool r.dr]])
      case hB=>rfl
      case hr=>exact fun β=>rk_call (.of rfl) (.cons (.of rfl) .nil) inferInstance rfl
      case hi=>exact ind0
      case hd=>rfl
      case hc=>exact fun β w' hb=>hrate w'
      dsimp only [Nat.reduceAdd]
      refine am_val (fun β=>(rk_loadB (.of rfl) .here norm_ (by rfl))) ind0 rfl ?_
      dsimp only [Nat.zero_add,Nat.reduceAdd]
      with_reducible apply am_callV (B:=[]) (F:=fun _=>.tuple #[.agg #[.int .i64 qh,.int .i64 qm,.int .i64 qs,.int .i64 qf],.int .i64 0]) (args:=fun _=>[.agg #[.int .i64 r.fr,.bool r.dr],.agg #[.int .i64 lh,.int .i64 lm,.int .i64 ls,.int .i64 lf],.int .i64 1])
      case hB=>rfl
      case hr=>exact fun β=>rk_call (.of rfl) (.cons (.of rfl) (.cons (.of rfl) (.cons (.of rfl) .nil))) inferInstance rfl
      case hi=>exact ind0
      case hd=>rfl
      case hc=>exact fun β w' hb=>hn1 w' hb.mem.keeps
      dsimp only [Nat.reduceAdd]
      (refine am_val (fun β=>(rk_move (.of rfl))) ind0 rfl ?_;refine am_val (fun β=>(rk_extract (.of rfl) rfl)) ind0 rfl ?_;refine am_val (fun β=>(rk_extract (.of rfl) rfl)) ind0 rfl ?_)
      refine am_new (fun β=>(rk_alloc rfl)) (fun _ _ _=>rfl) rfl ?_
      refine am_end fun β=>?_
      dsimp only [resAll,List.nil_append,List.cons_append,List.append_eq,Nat.reduceAdd]
      generalize gnat (β 7) = b15
      clear β
      refine left_ready (rs:=[8]) (by kernel_rfl) (by simp) (List.forall_mem_cons.2 ⟨?_,fun _ h=>absurd h List.not_mem_nil⟩)
      refine next_step rfl ?_
      (refine tr_store (.of rfl) (.of rfl) .here rfl rfl (okc_cons rfl (okc_cons rfl (okc_cons rfl (okc_cons rfl okc_nil)))) (lenb rfl) norm_ ?_;refine n_t ?_)
      refine left_ready (rs:=[9]) (by kernel_rfl) (by simp) (List.forall_mem_cons.2 ⟨?_,fun _ h=>absurd h List.not_mem_nil⟩)
      refine next_step rfl ?_
      (refine a_s rfl rfl ?_;refine n_t ?_)
      with_reducible refine left_done (by kernel_rfl) ?_
      apply cut_key (A:=Tr _ [] [(3,.pointer (some ⟨b3,0,none⟩)),(5,.pointer (some ⟨b5,0,none⟩)),(11,.pointer (some ⟨b11,0,none⟩))] [blk b11 (.cells #[.int .i64 lh,.int .i64 lm,.int .i64 ls,.int .i64 lf] 32 (0,0)),blk b5 (.cells #[.int .i16 x,.int .i16 y] 93 (0,0)),blk b3 (.cells #[.int .i64 r.fr,.bool r.dr] 23 (0,0))] _)
      · intro key
        (refine tr_then ?_;refine tr_seq ?_;refine s_r ?_;refine m_v rfl rfl ?_;refine m_v rfl rfl ?_;refine tr_val (rk_add (.of rfl) (.of rfl) (ini (by omega))) rfl ?_;refine tr_val (rk_neq (.of rfl) (.of rfl)) rfl ?_;refine m_v rfl rfl ?_;refine v_g rfl rfl rfl rfl ?_;refine v_g rfl rfl rfl rfl ?_;refine tr_vG1 rfl rfl inferInstance (fun hg hgp=>(rk_neq (.ofg hg rfl) (.ofg hg rfl))) rfl ?_;refine tr_val (rk_pick_or (.of rfl) rfl) rfl ?_;refine m_v rfl rfl ?_;refine tr_vG1 rfl rfl inferInstance (fun hg hgp=>(rk_loadB (.of rfl) (.there (.there (.there .here))) norm_ (by rfl))) rfl ?_;refine tr_vG1 rfl rfl inferInstance (fun hg hgp=>(rk_loadB (.of rfl) .here norm_ (by rfl))) rfl ?_;refine tr_callVG1 rfl rfl (fun hg=>(rk_call (.of rfl) (.cons (.ofg hg rfl) (.cons (.ofg hg rfl) .nil)) inferInstance normc_)) rfl (fun hg w' hm'=>(hnq w')) ?_;refine tr_vG1 rfl rfl inferInstance (fun hg hgp=>(rk_neq (.ofg hg rfl) (.of rfl))) rfl ?_;refine tr_val (rk_pick_or (.of rfl) rfl) rfl ?_;refine n_t ?_;refine c_b rfl (fun _=>by omega) (fun hcd=>?_);refine s_t ?_;refine tr_seq ?_;refine s_r ?_;refine m_v rfl rfl ?_;refine m_v rfl rfl ?_;refine tr_val (rk_sub (.of rfl) (.of rfl) (ini (by omega))) rfl ?_;refine tr_val (rk_eql (.of rfl) (.of rfl)) rfl ?_;refine n_t ?_;refine c_d rfl (fun hcd=>?_) (fun hcd=>?_);refine s_r ?_;refine tr_val (rk_loadB (.of rfl) .here norm_ (by rfl)) rfl ?_;refine tr_val (rk_buildL .nil norm_) rfl ?_;refine tr_val (rk_neqA (.of rfl) (.of rfl) (okL_int (okL_int (okL_int (okL_int okL_nil)))) rfl) rfl ?_;refine n_t ?_;refine c_b rfl (fun hcd=>?_) (fun hcd=>?_);refine s_r ?_;refine a_s rfl rfl ?_;refine n_t ?_;refine r_t ?_;refine tr_retE rfl (ends1 rfl rfl) ?_;rotate_left;refine s_t ?_;refine tr_seq ?_;rotate_right;rotate_left 2;refine s_r ?_;refine tr_val (rk_loadB (.of rfl) (.there .here) norm_ (by rfl)) rfl ?_;refine tr_new (rk_alloc rfl) rfl (fun _ _=>?_);refine tr_store (.of rfl) (.of rfl) .here rfl rfl (okc_cons rfl (okc_cons rfl (okc_cons rfl (okc_cons rfl okc_nil)))) (lenb rfl) norm_ ?_;refine n_r ?_;refine f_a rfl rfl norm0_ ?_;refine tr_val (rk_load1 (.of rfl) (At.lit .here rfl)) rfl ?_;refine tr_val (rk_add (.of rfl) (.of rfl) (ini (by omega))) rfl ?_;refine f_a rfl rfl norm0_ ?_;refine tr_store (.of rfl) (.of rfl) .here rfl rfl (okc_cons rfl okc_nil) (lenb rfl) norm_ ?_;refine n_t ?_;refine tr_seq ?_;refine s_r ?_;refine f_a rfl rfl norm0_ ?_;refine tr_val (rk_load1 (.of rfl) (At.lit .here rfl)) rfl ?_;refine f_a rfl rfl norm0_ ?_;refine tr_val (rk_load1 (.of rfl) (At.lit (.there (.there (.there (.there .here)))) rfl)) rfl ?_;refine tr_val (rk_eql (.of rfl) (.of rfl)) rfl ?_;refine n_t ?_;refine c_d rfl (fun hcd=>?_) (fun hcd=>?_);refine s_r ?_;refine f_a rfl rfl norm0_ ?_;refine tr_store (.of rfl) (.of rfl) .here rfl rfl (okc_cons rfl okc_nil) (lenb rfl) norm_ ?_;refine n_t ?_;refine tr_region ?_;refine f_a rfl rfl norm0_ ?_;refine tr_val (rk_load1 (.of rfl) (At.lit .here rfl)) rfl ?_;refine tr_val (rk_add (.of rfl) (.of rfl) (ini (by omega))) rfl ?_;refine f_a rfl rfl norm0_ ?_;refine tr_store (.of rfl) (.of rfl) .here rfl rfl (okc_cons rfl okc_nil) (lenb rfl) norm_ ?_;refine n_t ?_;refine tr_seq ?_;refine s_r ?_;refine f_a rfl rfl norm0_ ?_;refine tr_val (rk_load1 (.of rfl) (At.lit .here rfl)) rfl ?_;refine tr_val (rk_eql (.of rfl) (.of rfl)) rfl ?_;refine n_t ?_;refine c_d rfl (fun hcd=>?_) (fun hcd=>?_);refine s_r ?_;refine f_a rfl rfl norm0_ ?_;refine tr_store (.of rfl) (.of rfl) .here rfl rfl (okc_cons rfl okc_nil) (lenb rfl) norm_ ?_;refine n_t ?_;refine tr_region ?_;refine f_a rfl rfl norm0_ ?_;refine tr_val (rk_load1 (.of rfl) (At.lit .here rfl)) rfl ?_;refine tr_val (rk_add (.of rfl) (.of rfl) (ini (by omega))) rfl ?_;refine f_a rfl rfl norm0_ ?_;refine tr_store (.of rfl) (.of rfl) .here rfl rfl (okc_cons rfl okc_nil) (lenb rfl) norm_ ?_;refine n_t ?_;refine tr_seq ?_;refine s_r ?_;refine f_a rfl rfl norm0_ ?_;refine tr_val (rk_load1 (.of rfl) (At.lit .here rfl)) rfl ?_;refine tr_val (rk_eql (.of rfl) (.of rfl)) rfl ?_;refine n_t ?_;refine c_d rfl (fun hcd=>?_) (fun hcd=>?_);refine s_r ?_;refine f_a rfl rfl norm0_ ?_;refine tr_store (.of rfl) (.of rfl) .here rfl rfl (okc_cons rfl okc_nil) (lenb rfl) norm_ ?_;refine n_t ?_;refine tr_region ?_;refine f_a rfl rfl norm0_ ?_;refine tr_val (rk_load1 (.of rfl) (At.lit .here rfl)) rfl ?_;refine tr_val (rk_add (.of rfl) (.of rfl) (ini (by omega))) rfl ?_;refine f_a rfl rfl norm0_ ?_;refine tr_store (.of rfl) (.of rfl) .here rfl rfl (okc_cons rfl okc_nil) (lenb rfl) norm_ ?_;refine n_t ?_;refine tr_seq ?_;refine s_r ?_;refine f_a rfl rfl norm0_ ?_;refine tr_val (rk_load1 (.of rfl) (At.lit (.there (.there (.there (.there .here)))) rfl)) rfl ?_;refine m_v rfl rfl ?_;refine tr_vG1 rfl rfl inferInstance (fun hg hgp=>(rk_fieldAddr (.of rfl) norm0_)) rfl ?_;refine tr_vG1 rfl rfl inferInstance (fun hg hgp=>(rk_load1 (.ofg hg rfl) (At.lit .here rfl))) rfl ?_;refine tr_vG1 rfl rfl inferInstance (fun hg hgp=>(rk_rem (.ofg hg rfl) (.of rfl) (by omega) (by omega))) rfl ?_;refine tr_vG1 rfl rfl inferInstance (fun hg hgp=>(rk_neq (.ofg hg rfl) (.of rfl))) rfl ?_;refine tr_val (rk_pick_and (.of rfl) rfl) rfl ?_;refine m_v rfl rfl ?_;refine tr_vG1 rfl rfl inferInstance (fun hg hgp=>(rk_fieldAddr (.of rfl) norm0_)) rfl ?_;refine tr_vG1 rfl rfl inferInstance (fun hg hgp=>(rk_load1 (.ofg hg rfl) (At.lit .here rfl))) rfl ?_;refine tr_vG1 rfl rfl inferInstance (fun hg hgp=>(rk_eql (.ofg hg rfl) (.of rfl))) rfl ?_;refine tr_val (rk_pick_and (.of rfl) rfl) rfl ?_;refine m_v rfl rfl ?_;refine tr_vG1 rfl rfl inferInstance (fun hg hgp=>(rk_fieldAddr (.of rfl) norm0_)) rfl ?_;refine tr_vG1 rfl rfl inferInstance (fun hg hgp=>(rk_load1 (.ofg hg rfl) (At.lit .here rfl))) rfl ?_;refine tr_vG1 rfl rfl inferInstance (fun hg hgp=>(rk_lss (.ofg hg rfl) (.of rfl))) rfl ?_;refine tr_val (rk_pick_and (.of rfl) rfl) rfl ?_;refine n_t ?_;refine c_b rfl (fun _=>by omega) (fun hcd=>?_);refine s_t ?_;refine s_r ?_;refine tr_val (rk_loadB (.of rfl) (.there .here) norm_ (by rfl)) rfl ?_;refine tr_val (rk_loadB (.of rfl) .here norm_ (by rfl)) rfl ?_;refine tr_val (rk_neqA (.of rfl) (.of rfl) (okL_int (okL_int (okL_int (okL_int okL_nil)))) rfl) rfl ?_;refine n_t ?_;refine c_b rfl (fun hcd=>?_) (fun hcd=>?_);refine s_r ?_;refine a_s rfl rfl ?_;refine n_t ?_;refine r_t ?_;refine tr_retE rfl (ends1 rfl rfl) ?_;rotate_left;refine s_t ?_;refine tr_seq ?_;rotate_right;rotate_left 2;refine s_t ?_;refine tr_seq ?_;refine s_r ?_;refine f_a rfl rfl norm0_ ?_;refine tr_val (rk_load1 (.of rfl) (At.lit (.there (.there (.there (.there .here)))) rfl)) rfl ?_;refine m_v rfl rfl ?_;refine tr_vG1 rfl rfl inferInstance (fun hg hgp=>(rk_fieldAddr (.of rfl) norm0_)) rfl ?_;refine tr_vG1 rfl rfl inferInstance (fun hg hgp=>(rk_load1 (.ofg hg rfl) (At.lit .here rfl))) rfl ?_;refine tr_vG1 rfl rfl inferInstance (fun hg hgp=>(rk_rem (.ofg hg rfl) (.of rfl) (by omega) (by omega))) rfl ?_;refine tr_vG1 rfl rfl inferInstance (fun hg hgp=>(rk_neq (.ofg hg rfl) (.of rfl))) rfl ?_;refine tr_val (rk_pick_and (.of rfl) rfl) rfl ?_;refine m_v rfl rfl ?_;refine tr_vG1 rfl rfl inferInstance (fun hg hgp=>(rk_fieldAddr (.of rfl) norm0_)) rfl ?_;refine tr_vG1 rfl rfl inferInstance (fun hg hgp=>(rk_load1 (.ofg hg rfl) (At.lit .here rfl))) rfl ?_;refine tr_vG1 rfl rfl inferInstance (fun hg hgp=>(rk_eql (.ofg hg rfl) (.of rfl))) rfl ?_;refine tr_val (rk_pick_and (.of rfl) rfl) rfl ?_;refine m_v rfl rfl ?_;refine tr_vG1 rfl rfl inferInstance (fun hg hgp=>(rk_fieldAddr (.of rfl) norm0_)) rfl ?_;refine tr_vG1 rfl rfl inferInstance (fun hg hgp=>(rk_load1 (.ofg hg rfl) (At.lit .here rfl))) rfl ?_;refine tr_vG1 rfl rfl inferInstance (fun hg hgp=>(rk_lss (.ofg hg rfl) (.of rfl))) rfl ?_;refine tr_val (rk_pick_and (.of rfl) rfl) rfl ?_;refine n_t ?_;refine c_b rfl (fun hcd=>?_) (fun hcd=>?_);refine tr_region ?_;refine f_a rfl rfl norm0_ ?_;refine tr_store (.of rfl) (.of rfl) .here rfl rfl (okc_cons rfl okc_nil) (lenb rfl) norm_ ?_;refine n_r ?_;refine tr_val (rk_loadB (.of rfl) (.there .here) norm_ (by rfl)) rfl ?_;refine tr_val (rk_loadB (.of rfl) .here norm_ (by rfl)) rfl ?_;refine tr_val (rk_neqA (.of rfl) (.of rfl) (okL_int (okL_int (okL_int (okL_int okL_nil)))) rfl) rfl ?_;refine n_t ?_;refine c_b rfl (fun hcd=>?_) (fun hcd=>?_);refine s_r ?_;refine a_s rfl rfl ?_;refine n_t ?_;refine r_t ?_;refine tr_retE rfl (ends1 rfl rfl) ?_;rotate_left;refine s_t ?_;refine tr_seq ?_;rotate_right;rotate_left 2;refine s_t ?_;refine s_r ?_;refine tr_val (rk_loadB (.of rfl) (.there .here) norm_ (by rfl)) rfl ?_;refine tr_val (rk_loadB (.of rfl) .here norm_ (by rfl)) rfl ?_;refine tr_val (rk_neqA (.of rfl) (.of rfl) (okL_int (okL_int (okL_int (okL_int okL_nil)))) rfl) rfl ?_;refine n_t ?_;refine c_b rfl (fun hcd=>?_) (fun hcd=>?_);refine s_r ?_;refine a_s rfl rfl ?_;refine n_t ?_;refine r_t ?_;refine tr_retE rfl (ends1 rfl rfl) ?_;rotate_left;refine s_t ?_;refine tr_seq ?_;rotate_right;rotate_right 2;rotate_right 2;rotate_left 6;refine s_t ?_;refine tr_seq ?_;refine s_r ?_;refine f_a rfl rfl norm0_ ?_;refine tr_val (rk_load1 (.of rfl) (At.lit .here rfl)) rfl ?_;refine tr_val (rk_eql (.of rfl) (.of rfl)) rfl ?_;refine n_t ?_;refine c_d rfl (fun _=>by omega) (fun hcd=>?_);refine s_t ?_;refine tr_seq ?_;refine s_r ?_;refine f_a rfl rfl norm0_ ?_;refine tr_val (rk_load1 (.of rfl) (At.lit (.there (.there (.there (.there .here)))) rfl)) rfl ?_;refine m_v rfl rfl ?_;refine tr_vG1 rfl rfl inferInstance (fun hg hgp=>(rk_fieldAddr (.of rfl) norm0_)) rfl ?_;refine tr_vG1 rfl rfl inferInstance (fun hg hgp=>(rk_load1 (.ofg hg rfl) (At.lit .here rfl))) rfl ?_;refine tr_vG1 rfl rfl inferInstance (fun hg hgp=>(rk_rem (.ofg hg rfl) (.of rfl) (by omega) (by omega))) rfl ?_;refine tr_vG1 rfl rfl inferInstance (fun hg hgp=>(rk_neq (.ofg hg rfl) (.of rfl))) rfl ?_;refine tr_val (rk_pick_and (.of rfl) rfl) rfl ?_;refine m_v rfl rfl ?_;refine tr_vG1 rfl rfl inferInstance (fun hg hgp=>(rk_fieldAddr (.of rfl) norm0_)) rfl ?_;refine tr_vG1 rfl rfl inferInstance (fun hg hgp=>(rk_load1 (.ofg hg rfl) (At.lit .here rfl))) rfl ?_;refine tr_vG1 rfl rfl inferInstance (fun hg hgp=>(rk_eql (.ofg hg rfl) (.of rfl))) rfl ?_;refine tr_val (rk_pick_and (.of rfl) rfl) rfl ?_;refine m_v rfl rfl ?_;refine tr_vG1 rfl rfl inferInstance (fun hg hgp=>(rk_fieldAddr (.of rfl) norm0_)) rfl ?_;refine tr_vG1 rfl rfl inferInstance (fun hg hgp=>(rk_load1 (.ofg hg rfl) (At.lit .here rfl))) rfl ?_;refine tr_vG1 rfl rfl inferInstance (fun hg hgp=>(rk_lss (.ofg hg rfl) (.of rfl))) rfl ?_;refine tr_val (rk_pick_and (.of rfl) rfl) rfl ?_;refine n_t ?_;refine c_b rfl (fun _=>by omega) (fun hcd=>?_);refine s_t ?_;refine s_r ?_;refine tr_val (rk_loadB (.of rfl) (.there .here) norm_ (by rfl)) rfl ?_;refine tr_val (rk_loadB (.of rfl) .here norm_ (by rfl)) rfl ?_;refine tr_val (rk_neqA (.of rfl) (.of rfl) (okL_int (okL_int (okL_int (okL_int okL_nil)))) rfl) rfl ?_;refine n_t ?_;refine c_b rfl (fun hcd=>?_) (fun hcd=>?_);refine s_r ?_;refine a_s rfl rfl ?_;refine n_t ?_;refine r_t ?_;refine tr_retE rfl (ends1 rfl rfl) ?_;rotate_left;refine s_t ?_;refine tr_seq ?_;rotate_right;rotate_right 6;rotate_left 8;refine s_t ?_;refine tr_seq ?_;refine s_r ?_;refine f_a rfl rfl norm0_ ?_;refine tr_val (rk_load1 (.of rfl) (At.lit .here rfl)) rfl ?_;refine tr_val (rk_eql (.of rfl) (.of rfl)) rfl ?_;refine n_t ?_;refine c_d rfl (fun _=>by omega) (fun hcd=>?_);refine s_t ?_;refine tr_seq ?_;refine s_r ?_;refine f_a rfl rfl norm0_ ?_;refine tr_val (rk_load1 (.of rfl) (At.lit .here rfl)) rfl ?_;refine tr_val (rk_eql (.of rfl) (.of rfl)) rfl ?_;refine n_t ?_;refine c_d rfl (fun _=>by omega) (fun hcd=>?_);refine s_t ?_;refine tr_seq ?_;refine s_r ?_;refine f_a rfl rfl norm0_ ?_;refine tr_val (rk_load1 (.of rfl) (At.lit (.there (.there (.there (.there .here)))) rfl)) rfl ?_;refine m_v rfl rfl ?_;refine tr_vG1 rfl rfl inferInstance (fun hg hgp=>(rk_fieldAddr (.of rfl) norm0_)) rfl ?_;refine tr_vG1 rfl rfl inferInstance (fun hg hgp=>(rk_load1 (.ofg hg rfl) (At.lit .here rfl))) rfl ?_;refine tr_vG1 rfl rfl inferInstance (fun hg hgp=>(rk_rem (.ofg hg rfl) (.of rfl) (by omega) (by omega))) rfl ?_;refine tr_vG1 rfl rfl inferInstance (fun hg hgp=>(rk_neq (.ofg hg rfl) (.of rfl))) rfl ?_;refine tr_val (rk_pick_and (.of rfl) rfl) rfl ?_;refine m_v rfl rfl ?_;refine tr_vG1 rfl rfl inferInstance (fun hg hgp=>(rk_fieldAddr (.of rfl) norm0_)) rfl ?_;refine tr_vG1 rfl rfl inferInstance (fun hg hgp=>(rk_load1 (.ofg hg rfl) (At.lit .here rfl))) rfl ?_;refine tr_vG1 rfl rfl inferInstance (fun hg hgp=>(rk_eql (.ofg hg rfl) (.of rfl))) rfl ?_;refine tr_val (rk_pick_and (.of rfl) rfl) rfl ?_;refine m_v rfl rfl ?_;refine tr_vG1 rfl rfl inferInstance (fun hg hgp=>(rk_fieldAddr (.of rfl) norm0_)) rfl ?_;refine tr_vG1 rfl rfl inferInstance (fun hg hgp=>(rk_load1 (.ofg hg rfl) (At.lit .here rfl))) rfl ?_;refine tr_vG1 rfl rfl inferInstance (fun hg hgp=>(rk_lss (.ofg hg rfl) (.of rfl))) rfl ?_;refine tr_val (rk_pick_and (.of rfl) rfl) rfl ?_;refine n_t ?_;refine c_b rfl (fun hcd=>?_) (fun hcd=>?_);refine tr_region ?_;refine f_a rfl rfl norm0_ ?_;refine tr_store (.of rfl) (.of rfl) .here rfl rfl (okc_cons rfl okc_nil) (lenb rfl) norm_ ?_;refine n_r ?_;refine tr_val (rk_loadB (.of rfl) (.there .here) norm_ (by rfl)) rfl ?_;refine tr_val (rk_loadB (.of rfl) .here norm_ (by rfl)) rfl ?_;refine tr_val (rk_neqA (.of rfl) (.of rfl) (okL_int (okL_int (okL_int (okL_int okL_nil)))) rfl) rfl ?_;refine n_t ?_;refine c_b rfl (fun hcd=>?_) (fun hcd=>?_);refine s_r ?_;refine a_s rfl rfl ?_;refine n_t ?_;refine r_t ?_;refine tr_retE rfl (ends1 rfl rfl) ?_;rotate_left;refine s_t ?_;refine tr_seq ?_;rotate_right;rotate_left 2;refine s_t ?_;refine s_r ?_;refine tr_val (rk_loadB (.of rfl) (.there .here) norm_ (by rfl)) rfl ?_;refine tr_val (rk_loadB (.of rfl) .here norm_ (by rfl)) rfl ?_;refine tr_val (rk_neqA (.of rfl) (.of rfl) (okL_int (okL_int (okL_int (okL_int okL_nil)))) rfl) rfl ?_;refine n_t ?_;refine c_b rfl (fun hcd=>?_) (fun hcd=>?_);refine s_r ?_;refine a_s rfl rfl ?_;refine n_t ?_;refine r_t ?_;refine tr_retE rfl (ends1 rfl rfl) ?_;rotate_left;refine s_t ?_;refine tr_seq ?_;rotate_right;rotate_right 2;rotate_right 8;rotate_right 2)
        · exfalso
          clear key
          have e:=n1 (by assumption)
          cases e
          simp at hcd
        · exact tr_cutW _ _ (by exact .cons rfl (.cons rfl (.cons rfl .nil))) (by exact .cons (.there .here) (.cons (.there .here) (.cons (.there .here) .nil))) key
        · exfalso
          clear key
          have e:=n5 (by assumption) (by assumption) (by assumption) (fun z=>absurd (n6 (by assumption) (by assumption) (by assumption) z) (by assumption))
          cases e
          simp at hcd
        · exact tr_cutW _ _ (by exact .cons rfl (.cons rfl (.cons rfl .nil))) (by exact .cons (.there (.there .here)) (.cons (.there (.there .here)) (.cons (.there (.there .here)) .nil))) key
        · exfalso
          clear key
          rename_i hc6
          have e:=n4 (by assumption) (by assumption) (by assumption)
          rw [if_pos hc6.1.1] at e
          cases e
          simp at hcd
        · exact tr_cutW _ _ (by exact .cons rfl (.cons rfl (.cons rfl .nil))) (by exact .cons (.there (.there .here)) (.cons (.there (.there .here)) (.cons (.there (.there .here)) .nil))) key
        · exfalso
          clear key
          rename_i hc6
          have e:=n4 (by assumption) (by assumption) (by assumption)
          rw [if_neg (by rintro ⟨a,b⟩;rcases hc6 with ((h | h) | h) | h;(rw [a] at h;cases h);exact h b;exact h rfl;exact h (by decide))] at e
          cases e
          simp at hcd
        · exact tr_cutW _ _ (by exact .cons rfl (.cons rfl (.cons rfl .nil))) (by exact .cons (.there (.there .here)) (.cons (.there (.there .here)) (.cons (.there (.there .here)) .nil))) key
        · exfalso
          clear key
          have e:=n3 (by assumption) (by assumption)
          cases e
          simp at hcd
        · exact tr_cutW _ _ (by exact .cons rfl (.cons rfl (.cons rfl .nil))) (by exact .cons (.there (.there .here)) (.cons (.there (.there .here)) (.cons (.there (.there .here)) .nil))) key
        · exfalso
          clear key
          rename_i hc6
          have:=d5 hc6.1.1.1 hc6.1.1.2 hc6.1.2
          omega
        · exact tr_cutW _ _ (by exact .cons rfl (.cons rfl (.cons rfl .nil))) (by exact .cons (.there (.there .here)) (.cons (.there (.there .here)) (.cons (.there (.there .here)) .nil))) key
        · exfalso
          clear key
          have e:=n2 (by assumption)
          cases e
          simp at hcd
        · exact tr_cutW _ _ (by exact .cons rfl (.cons rfl (.cons rfl .nil))) (by exact .cons (.there (.there .here)) (.cons (.there (.there .here)) (.cons (.there (.there .here)) .nil))) key
      · clear n1 n2 n3 n4 n5 n6
        with_reducible refine tr_drawP 11 9 (by kernel_rfl) (pure_at rfl (by kernel_rfl) (by kernel_rfl)) ?_
        refine am_val (fun β=>(rk_loadB (.of rfl) (.there (.there .here)) norm_ (by rfl))) ind0 rfl ?_
        dsimp only [Nat.zero_add,Nat.reduceAdd]
        with_reducible apply am_callV (B:=[]) (F:=fun _=>.agg #[.int .i64 r.fr,.bool r.dr]) (args:=fun _=>[.agg #[.int .i64 r.fr,.bool r.dr]])
        case hB=>rfl
        case hr=>exact fun β=>rk_call (.of rfl) (.cons (.of rfl) .nil) inferInstance rfl
        case hi=>exact ind0
        case hd=>rfl
        case hc=>exact fun β w' hb=>hrate w'
        dsimp only [Nat.reduceAdd]
        refine am_val (fun β=>(rk_loadB (.of rfl) .here norm_ (by rfl))) ind0 rfl ?_
        refine am_val (fun β=>(rk_indexAddrA (.of rfl) (.of rfl) (by omega) (by omega) norm1_)) ind0 rfl ?_
        refine am_val (fun β=>(rk_load1 (.of rfl) (At.lit (.there .here) rfl))) ind0 rfl ?_
        refine am_val (F:=fun _=>.int .i64 x) (fun β=>rk_convX (.of rfl) hwx) ind0 rfl ?_
        dsimp only [Nat.zero_add,Nat.reduceAdd]
        with_reducible apply am_callV (B:=[]) (F:=fun _=>.tuple #[.agg #[.int .i64 ah,.int .i64 am,.int .i64 as_,.int .i64 af],.int .i64 0]) (args:=fun _=>[.agg #[.int .i64 r.fr,.bool r.dr],.agg #[.int .i64 lh,.int .i64 lm,.int .i64 ls,.int .i64 lf],.int .i64 x])
        case hB=>rfl
        case hr=>exact fun β=>rk_call (.of rfl) (.cons (.of rfl) (.cons (.of rfl) (.cons (.of rfl) .nil))) inferInstance rfl
        case hi=>exact ind0
        case hd=>rfl
        case hc=>exact fun β w' hb=>hx1 w' hb.mem.keeps
        dsimp only [Nat.reduceAdd]
        (refine am_val (fun β=>(rk_move (.of rfl))) ind0 rfl ?_;refine am_val (fun β=>(rk_extract (.of rfl) rfl)) ind0 rfl ?_;refine am_val (fun β=>(rk_extract (.of rfl) rfl)) ind0 rfl ?_)
        refine am_new (fun β=>(rk_alloc rfl)) (fun _ _ _=>rfl) rfl ?_
        refine am_end fun β=>?_
        dsimp only [resAll,List.nil_append,List.cons_append,List.append_eq,Nat.reduceAdd]
        generalize gnat (β 10) = b18
        clear β
        refine left_ready (rs:=[11]) (by kernel_rfl) (by simp) (List.forall_mem_cons.2 ⟨?_,fun _ h=>absurd h List.not_mem_nil⟩)
        refine next_step rfl ?_
        (refine tr_store (.of rfl) (.of rfl) .here rfl rfl (okc_cons rfl (okc_cons rfl (okc_cons rfl (okc_cons rfl okc_nil)))) (lenb rfl) norm_ ?_;refine n_t ?_)
        refine left_ready (rs:=[12]) (by kernel_rfl) (by simp) (List.forall_mem_cons.2 ⟨?_,fun _ h=>absurd h List.not_mem_nil⟩)
        refine next_step rfl ?_
        (refine a_s rfl rfl ?_;refine n_t ?_)
        with_reducible refine left_done (by kernel_rfl) ?_
        (refine tr_then ?_;refine tr_seq ?_;refine s_r ?_;refine m_v rfl rfl ?_;refine tr_val (rk_neq (.of rfl) (.of rfl)) rfl ?_;refine m_v rfl rfl ?_;refine tr_vG1 rfl rfl inferInstance (fun hg hgp=>(rk_loadB (.of rfl) (.there (.there (.there .here))) norm_ (by rfl))) rfl ?_;refine tr_vG1 rfl rfl inferInstance (fun hg hgp=>(rk_loadB (.of rfl) .here norm_ (by rfl))) rfl ?_;refine tr_callVG1 rfl rfl (fun hg=>(rk_call (.of rfl) (.cons (.ofg hg rfl) (.cons (.ofg hg rfl) .nil)) inferInstance normc_)) rfl (fun hg w' hm'=>(haq w')) ?_;refine tr_vG1 rfl rfl inferInstance (fun hg hgp=>(rk_neq (.ofg hg rfl) (.of rfl))) rfl ?_;refine tr_val (rk_pick_or (.of rfl) rfl) rfl ?_;refine n_t ?_;refine tr_cond_f (.of rfl) ?_;refine s_t ?_;refine tr_seq ?_)
        with_reducible refine tr_drawP 11 9 (by kernel_rfl) (pure_at rfl (by kernel_rfl) (by kernel_rfl)) ?_
        refine am_val (fun β=>(rk_loadB (.of rfl) (.there (.there (.there .here))) norm_ (by rfl))) ind0 rfl ?_
        dsimp only [Nat.zero_add,Nat.reduceAdd]
        with_reducible apply am_callV (B:=[]) (F:=fun _=>.agg #[.int .i64 r.fr,.bool r.dr]) (args:=fun _=>[.agg #[.int .i64 r.fr,.bool r.dr]])
        case hB=>rfl
        case hr=>exact fun β=>rk_call (.of rfl) (.cons (.of rfl) .nil) inferInstance rfl
        case hi=>exact ind0
        case hd=>rfl
        case hc=>exact fun β w' hb=>hrate w'
        dsimp only [Nat.reduceAdd]
        refine am_val (fun β=>(rk_loadB (.of rfl) .here norm_ (by rfl))) ind0 rfl ?_
        refine am_val (fun β=>(rk_indexAddrA (.of rfl) (.of rfl) (by omega) (by omega) norm1_)) ind0 rfl ?_
        refine am_val (fun β=>(rk_load1 (.of rfl) (At.lit (.there (.there .here)) rfl))) ind0 rfl ?_
        refine am_val (F:=fun _=>.int .i64 y) (fun β=>rk_convX (.of rfl) hwy) ind0 rfl ?_
        dsimp only [Nat.zero_add,Nat.reduceAdd]
        with_reducible apply am_callV (B:=[]) (F:=fun _=>.tuple #[.agg #[.int .i64 yh,.int .i64 ym,.int .i64 ys,.int .i64 yf],.int .i64 0]) (args:=fun _=>[.agg #[.int .i64 r.fr,.bool r.dr],.agg #[.int .i64 ah,.int .i64 am,.int .i64 as_,.int .i64 af],.int .i64 y])
        case hB=>rfl
        case hr=>exact fun β=>rk_call (.of rfl) (.cons (.of rfl) (.cons (.of rfl) (.cons (.of rfl) .nil))) inferInstance rfl
        case hi=>exact ind0
        case hd=>rfl
        case hc=>exact fun β w' hb=>hy1 w' hb.mem.keeps
        dsimp only [Nat.reduceAdd]
        (refine am_val (fun β=>(rk_move (.of rfl))) ind0 rfl ?_;refine am_val (fun β=>(rk_extract (.of rfl) rfl)) ind0 rfl ?_;refine am_val (fun β=>(rk_extract (.of rfl) rfl)) ind0 rfl ?_)
        refine am_new (fun β=>(rk_alloc rfl)) (fun _ _ _=>rfl) rfl ?_
        refine am_end fun β=>?_
        dsimp only [resAll,List.nil_append,List.cons_append,List.append_eq,Nat.reduceAdd]
        generalize gnat (β 10) = b20
        clear β
        refine left_ready (rs:=[11]) (by kernel_rfl) (by simp) (List.forall_mem_cons.2 ⟨?_,fun _ h=>absurd h List.not_mem_nil⟩)
        refine next_step rfl ?_
        (refine tr_store (.of rfl) (.of rfl) .here rfl rfl (okc_cons rfl (okc_cons rfl (okc_cons rfl (okc_cons rfl okc_nil)))) (lenb rfl) norm_ ?_;refine n_t ?_)
        refine left_ready (rs:=[12]) (by kernel_rfl) (by simp) (List.forall_mem_cons.2 ⟨?_,fun _ h=>absurd h List.not_mem_nil⟩)
        refine next_step rfl ?_
        (refine a_s rfl rfl ?_;refine n_t ?_)
        with_reducible refine left_done (by kernel_rfl) ?_
        (refine tr_then ?_;refine tr_seq ?_)
        with_reducible refine tr_drawP 15 13 (by kernel_rfl) (pure_at rfl (by kernel_rfl) (by kernel_rfl)) ?_
        refine am_val (fun β=>(rk_loadB (.of rfl) (.there (.there (.there (.there .here)))) norm_ (by rfl))) ind0 rfl ?_
        dsimp only [Nat.zero_add,Nat.reduceAdd]
        with_reducible apply am_callV (B:=[]) (F:=fun _=>.agg #[.int .i64 r.fr,.bool r.dr]) (args:=fun _=>[.agg #[.int .i64 r.fr,.bool r.dr]])
        case hB=>rfl
        case hr=>exact fun β=>rk_call (.of rfl) (.cons (.of rfl) .nil) inferInstance rfl
        case hi=>exact ind0
        case hd=>rfl
        case hc=>exact fun β w' hb=>hrate w'
        dsimp only [Nat.reduceAdd]
        refine am_val (fun β=>(rk_loadB (.of rfl) (.there (.there .here)) norm_ (by rfl))) ind0 rfl ?_
        refine am_val (fun β=>(rk_indexAddrA (.of rfl) (.of rfl) (by omega) (by omega) norm1_)) ind0 rfl ?_
        refine am_val (fun β=>(rk_load1 (.of rfl) (At.lit (.there (.there (.there .here))) rfl))) ind0 rfl ?_
        refine am_val (F:=fun _=>.int .i64 x) (fun β=>rk_convX (.of rfl) hwx) ind0 rfl ?_
        refine am_val (fun β=>(rk_indexAddrA (.of rfl) (.of rfl) (by omega) (by omega) norm1_)) ind0 rfl ?_
        refine am_val (fun β=>(rk_load1 (.of rfl) (At.lit (.there (.there (.there .here))) rfl))) ind0 rfl ?_
        refine am_val (F:=fun _=>.int .i64 y) (fun β=>rk_convX (.of rfl) hwy) ind0 rfl ?_
        refine am_val (fun β=>(rk_add (.of rfl) (.of rfl) (ini (by omega)))) ind0 rfl ?_
        dsimp only [Nat.zero_add,Nat.reduceAdd]
        with_reducible apply am_callV (B:=[]) (F:=fun _=>.tuple #[.agg #[.int .i64 yh,.int .i64 ym,.int .i64 ys,.int .i64 yf],.int .i64 0]) (args:=fun _=>[.agg #[.int .i64 r.fr,.bool r.dr],.agg #[.int .i64 lh,.int .i64 lm,.int .i64 ls,.int .i64 lf],.int .i64 (x + y)])
        case hB=>rfl
        case hr=>exact fun β=>rk_call (.of rfl) (.cons (.of rfl) (.cons (.of rfl) (.cons (.of rfl) .nil))) inferInstance rfl
        case hi=>exact ind0
        case hd=>rfl
        case hc=>exact fun β w' hb=>hxy w' hb.mem.keeps
        dsimp only [Nat.reduceAdd]
        (refine am_val (fun β=>(rk_move (.of rfl))) ind0 rfl ?_;refine am_val (fun β=>(rk_extract (.of rfl) rfl)) ind0 rfl ?_;refine am_val (fun β=>(rk_extract (.of rfl) rfl)) ind0 rfl ?_)
        refine am_new (fun β=>(rk_alloc rfl)) (fun _ _ _=>rfl) rfl ?_
        refine am_end fun β=>?_
        dsimp only [resAll,List.nil_append,List.cons_append,List.append_eq,Nat.reduceAdd]
        generalize gnat (β 14) = b22
        clear β
        refine left_ready (rs:=[15]) (by kernel_rfl) (by simp) (List.forall_mem_cons.2 ⟨?_,fun _ h=>absurd h List.not_mem_nil⟩)
        refine next_step rfl ?_
        (refine tr_store (.of rfl) (.of rfl) .here rfl rfl (okc_cons rfl (okc_cons rfl (okc_cons rfl (okc_cons rfl okc_nil)))) (lenb rfl) norm_ ?_;refine n_t ?_)
        refine left_ready (rs:=[16]) (by kernel_rfl) (by simp) (List.forall_mem_cons.2 ⟨?_,fun _ h=>absurd h List.not_mem_nil⟩)
        refine next_step rfl ?_
        (refine a_s rfl rfl ?_;refine n_t ?_)
        with_reducible refine left_done (by kernel_rfl) ?_
        (refine tr_then ?_;refine s_r ?_;refine m_v rfl rfl ?_;refine tr_val (rk_eql (.of rfl) (.of rfl)) rfl ?_;refine m_v rfl rfl ?_;refine v_g rfl rfl rfl rfl ?_;refine tr_vG1 rfl rfl inferInstance (fun hg hgp=>(rk_eql (.ofg hg rfl) (.of rfl))) rfl ?_;refine tr_val (rk_pick_and (.of rfl) rfl) rfl ?_;refine m_v rfl rfl ?_;refine tr_vG1 rfl rfl inferInstance (fun hg hgp=>(rk_loadB (.of rfl) (.there .here) norm_ (by rfl))) rfl ?_;refine tr_vG1 rfl rfl inferInstance (fun hg hgp=>(rk_loadB (.of rfl) .here norm_ (by rfl))) rfl ?_;refine tr_vG1 rfl rfl inferInstance (fun hg hgp=>(rk_eqlA (.ofg hg rfl) (.ofg hg rfl) (okL_int (okL_int (okL_int (okL_int okL_nil)))) rfl)) rfl ?_;refine tr_val (rk_pick_and (.of rfl) rfl) rfl ?_;refine m_v rfl rfl ?_;refine tr_callVG1 rfl rfl (fun hg=>(rk_call (.of rfl) .nil inferInstance normc_)) rfl (fun hg w' hm'=>(awake_c w' (GlobR.keeps hG (Mem.keeps hm')) (Tab10.keeps hT (Mem.keeps hm')))) ?_;refine tr_val (rk_pick_and (.of rfl) rfl) rfl ?_;refine a_s rfl rfl ?_;refine n_t ?_;refine tr_ret ?_;refine tr_retE rfl (ends1 rfl rfl) ?_)
        simp
  · refine givesV_of_tr Tryz.func8 rfl rfl ?_
    (refine s_r ?_;refine tr_new (rk_box (.of rfl) rfl) rfl (fun _ _=>?_);refine tr_new (rk_box (.of rfl) rfl) rfl (fun _ _=>?_);refine a_s rfl rfl ?_;refine n_t ?_;refine tr_seq ?_;refine s_r ?_;refine tr_val (rk_loadB (.of rfl) (.there .here) norm_ (by rfl)) rfl ?_;refine tr_callV (rk_call (.of rfl) (.cons (.of rfl) .nil) inferInstance normc_) rfl (fun w' hm'=>(hrq w')) ?_;refine tr_val (rk_neq (.of rfl) (.of rfl)) rfl ?_;refine n_t ?_;refine c_d rfl (fun hcd=>?_) (fun _=>by omega);refine s_r ?_;refine tr_callV (rk_call (.of rfl) .nil inferInstance normc_) rfl (fun w' hm'=>(awake_c w' (GlobR.keeps hG (Mem.keeps hm')) (Tab10.keeps hT (Mem.keeps hm')))) ?_;refine a_s rfl rfl ?_;refine n_t ?_;refine r_t ?_;refine tr_retE rfl (ends1 rfl rfl) ?_)
    all_goals first | rfl | (exfalso;omega)
end Go.Proofs.A1
