/- Parts of the proof: U13 U14 U15 U16. -/
import Derived.Test.YthhidjfahmcekaaGreatDoorSM12
import Derived.Test.YthhidjfahmcekaaGreatDoorSM06
import Derived.Test.YthhidjfahmcekaaGreatDoorSM10
set_option linter.unusedSectionVars false
set_option linter.unusedVariables false
set_option linter.unusedSimpArgs false
namespace Go.Proofs.A1
open Go Go.SL
theorem hItems_get {l:List Int} {k:Nat} (h:k < (hitL l 0).length):(hItems l)[k]? = some [.agg (hitC (hitL l 0)[k]).toArray]:=by simp [hItems,h]
theorem appHit_c {bx:Nat} {sv:Value} {l:List Int} {w:World} (hcb:w.cell? ⟨bx,0,none⟩ = some sv) (h1:Rd w sv 1 (byts l)) (hby:∀ x ∈ l,0 ≤ x ∧ x ≤ 255) (hfew:l.length ≤ 4000) (hG:GlobR w) :
    Gives Tryz.prog 193 [.slice none 0 0,.func (.func 194) #[] #[.pointer (some ⟨bx,0,none⟩)]] w [] (fun _:Value=>True) id (fun v=>[row 234 8 v (hitL l 0).length (htsV (hitL l 0))]):=by
  have hlen:=hitL_len l 0
  refine gives_of_tr Tryz.func193 rfl rfl ?_
  (refine s_r ?_;refine tr_new (rk_box (.of rfl) rfl) rfl (fun _ _=>?_);refine a_s rfl rfl ?_;refine n_t ?_;refine tr_seq ?_;refine s_r ?_;refine m_v rfl rfl ?_;refine n_t ?_;refine tr_block ?_)
  rename_i b2 hb2
  refine tr_rowNil 234 8 ?_
  refine tr_rangeSeq (ps:=[7]) (f:=194) (first:=[]) (cap:=[.pointer (some ⟨bx,0,none⟩)]) (ι:=Nat × Value) (κ:=Empty) (rst:=[]) ?hg
    [] (hItems l) ?hit (fun k x=>x.1 = k ∧ k ≤ (hitL l 0).length)
    (fun x=>[blk b2 (.cells #[x.2] 231 (0,0)),row 234 8 x.2 x.1 (htsV ((hitL l 0).take x.1))])
    (fun _=>False) (fun _=>[]) (fun _=>.ret) (0,.slice none 0 0) ⟨rfl,Nat.zero_le _⟩ ?ht ?hlen ?hps ?round ?kn ?kj
  case hg=>exact Is.of rfl
  case hit=>intro w' hm';exact hitIter_c hcb h1 hby (by omega) hG (by simp) (by simp) (Out.nil _ _)
  case ht=>
    show Takes _ [blk b2 (.cells #[.slice none 0 0] 231 (0,0)),row 234 8 (.slice none 0 0) 0 []] _
    exact .cons (.there .here) (.cons .here .nil)
  case hlen=>intro vs hvs;obtain ⟨x,_,rfl⟩:=List.mem_map.1 hvs;rfl
  case hps=>intro t ht;simp only [List.mem_cons,List.not_mem_nil,or_false] at ht;subst ht;exact Nat.le_of_ble_eq_true rfl
  case kj=>intro y;cases y
  case kn=>
    rintro ⟨n,v⟩ D ⟨hq,_⟩
    dsimp only [List.cons_append,List.nil_append] at hq ⊢
    rw [hItems_length] at hq
    subst hq
    rw [List.take_length]
    (refine tr_blk_normal ?_;refine tr_then ?_;refine s_r ?_;refine tr_val (rk_load1 (.of rfl) (At.lit .here rfl)) rfl ?_;refine a_s rfl rfl ?_;refine n_t ?_;refine tr_ret ?_)
    refine tr_rowSl (E:=234) (sz:=8) (by exact Take.there .here) fun va vc e=>?_
    subst e
    skip
    first | with_reducible apply tr_retM | with_reducible apply tr_endM
    case he=>exact ends1 rfl rfl
    case hR=>
      intro w' hm'
      exact gives_end (.slice va (hitL l 0).length vc) trivial (show Takes _ [row 234 8 (.slice va (hitL l 0).length vc) (hitL l 0).length (htsV (hitL l 0))] _ by exact .cons (.there .here) .nil) hm' rfl
  case round=>
    rintro l2 rc W fp k ⟨n,v⟩ vs hsz hk ⟨hq,hkl⟩ hB hF
    dsimp only at hq
    subst hq
    have hlt:n < (hitL l 0).length:=by have:=(List.getElem?_eq_some_iff.1 hk).1;rwa [hItems_length] at this
    rw [hItems_get hlt,Option.some.injEq] at hk
    subst hk
    have htk:=htsV_take hlt
    have hlk:(htsV ((hitL l 0).take n)).length = n * 8:=by rw [htsV_len,List.length_take_of_le (by omega)]
    generalize (hitL l 0)[n] = x at htk
    obtain ⟨⟨⟨x1,x2⟩,⟨x3,x4,x5,x6⟩,x7⟩,x8⟩:=x
    dsimp only [hitC] at htk
    dsimp only [hitC,List.zip_cons_cons,List.zip_nil_right,putAll,List.cons_append,List.nil_append]
    (refine tr_region ?_;refine tr_new (rk_alloc rfl) rfl (fun _ _=>?_);refine tr_store (.of rfl) (.of rfl) .here rfl rfl (okc_cons rfl (okc_cons rfl (okc_cons rfl (okc_cons rfl (okc_cons rfl (okc_cons rfl (okc_cons rfl (okc_cons rfl okc_nil)))))))) (lenb rfl) norm_ ?_;refine n_t ?_)
    with_reducible apply tr_begin
    case ht=>exact Take.there .here
    refine tr_rowSl (E:=234) (sz:=8) (by exact Take.there (.there (.there .here))) fun v1 v2 e=>?_
    subst e
    (refine tr_block ?_;refine tr_region ?_;refine tr_val (rk_load1 (.of rfl) (At.lit (.there (.there .here)) rfl)) rfl ?_;refine tr_val (rk_loadB (.of rfl) (.there .here) norm_ (by rfl)) rfl ?_;refine tr_new (rk_sliceLitN (.cons (.of rfl) .nil) rfl rfl normp_ normp_ norm_) rfl (fun _ _=>?_))
    refine tr_appendB (.of rfl) (.of rfl) (.there (.there (.there (.there .here)))) .here norm_ (by rfl) (okc_cons rfl (okc_cons rfl (okc_cons rfl (okc_cons rfl (okc_cons rfl (okc_cons rfl (okc_cons rfl (okc_cons rfl okc_nil)))))))) (by rfl) (by rfl) (by rfl) lenx_ (by rfl) ?_
    intro v'
    refine tr_rowSl (by exact .here) fun a' cap' e=>?_
    subst e
    (refine tr_store (.of rfl) (.of rfl) (.there (.there (.there (.there .here)))) rfl rfl (okc_cons rfl okc_nil) (lenb rfl) norm_ ?_;refine tr_nil ?_;refine tr_blk_normal ?_)
    apply tr_seqN (n + 1,.slice a' (n + 1) cap')
    case ht=>exact Take.there (.there (.there .here))
    case hx=>exact ⟨rfl,hlt⟩
    case h2=>
      show Takes _ [blk b2 (.cells #[.slice a' (n + 1) cap'] 231 (0,0)),row 234 8 (.slice a' (n + 1) cap') (n + 1) (htsV ((hitL l 0).take (n + 1)))] _
      rw [htk]
      exact .cons .here (.cons .here .nil)
theorem colHit_c {bx:Nat} {sv:Value} {l:List Int} {w:World} (hcb:w.cell? ⟨bx,0,none⟩ = some sv) (h1:Rd w sv 1 (byts l)) (hby:∀ x ∈ l,0 ≤ x ∧ x ≤ 255) (hfew:l.length ≤ 4000) (hG:GlobR w) :
    Gives Tryz.prog 136 [.func (.func 194) #[] #[.pointer (some ⟨bx,0,none⟩)]] w [] (fun _:Value=>True) id (fun v=>[row 234 8 v (hitL l 0).length (htsV (hitL l 0))]):=by
  refine gives_of_tr Tryz.func136 rfl rfl ?_
  (refine s_r ?_;refine a_s rfl rfl ?_;refine n_r ?_;refine m_v rfl rfl ?_)
  with_reducible apply tr_call
  case hr=>exact rk_call (.of rfl) (.cons (.of rfl) (.cons (.of rfl) .nil)) inferInstance normc_
  case hd=>rfl
  case ht=>exact Takes.nil
  case hc=>
    intro w1 fp hm1 _ hs1
    obtain rfl:fp = []:=hs1
    exact appHit_c (cell_keepsN hcb (by simp) hm1.keeps) (h1.keeps hm1.keeps) hby hfew (hG.keeps hm1.keeps)
  intro v _
  dsimp only [id_eq,List.cons_append,List.nil_append]
  (refine a_s rfl rfl ?_;refine n_t ?_;refine tr_ret ?_)
  first | with_reducible apply tr_retM | with_reducible apply tr_endM
  case he=>exact ends1 rfl rfl
  case hR=>
    intro w' hm'
    exact gives_end v trivial (by exact .cons .here .nil) hm' rfl
theorem hit1_c (x:Stm × Nat) (w:World):GivesV Tryz.prog 139 [.agg (hitC x).toArray] w (.agg x.1.cells.toArray):=by
  unfold hitC Stm.cells
  refine givesV_of_tr Tryz.func139 rfl rfl ?_
  (refine s_r ?_;refine tr_new (rk_box (.of rfl) rfl) rfl (fun _ _=>?_);refine tr_new (rk_alloc rfl) rfl (fun _ _=>?_);refine n_r ?_;refine f_a rfl rfl norm0_ ?_;refine tr_val (rk_loadB (.of rfl) (.there .here) norm_ (by rfl)) rfl ?_;refine tr_store (.of rfl) (.of rfl) .here rfl rfl (okc_cons rfl (okc_cons rfl (okc_cons rfl (okc_cons rfl (okc_cons rfl (okc_cons rfl (okc_cons rfl okc_nil))))))) (lenb rfl) norm_ ?_;refine n_t ?_;refine tr_ret ?_;refine tr_retE rfl (ends1cB rfl inferInstance rfl .here norm_ (by rfl)) ?_)
  rfl
theorem hit2_c (x:Stm × Nat) (w:World):GivesV Tryz.prog 141 [.agg (hitC x).toArray] w (.int .i64 (x.2:Nat)):=by
  unfold hitC
  refine givesV_of_tr Tryz.func141 rfl rfl ?_
  (refine s_r ?_;refine tr_new (rk_box (.of rfl) rfl) rfl (fun _ _=>?_);refine a_s rfl rfl ?_;refine n_r ?_;refine f_a rfl rfl norm0_ ?_;refine tr_val (rk_load1 (.of rfl) (At.lit .here rfl)) rfl ?_;refine a_s rfl rfl ?_;refine n_t ?_;refine tr_ret ?_;refine tr_retE rfl (ends1 rfl rfl) ?_)
  rfl
def hsV (l:List (Stm × Nat)):List Value:=stmsV (l.map (·.1))
theorem hsV_len (l:List (Stm × Nat)):(hsV l).length = l.length * 7:=by unfold hsV;rw [stmsV_len,List.length_map]
def hnV (l:List (Stm × Nat)):List Value:=natsV (l.map (·.2))
theorem hnV_len (l:List (Stm × Nat)):(hnV l).length = l.length * 1:=by unfold hnV;rw [natsV_len,List.length_map]
theorem mapHS_c {lv:Value} {l:List (Stm × Nat)} {w:World} (h:Rd w lv 8 (hts l)) (hfew:l.length ≤ 4000) :
    Gives Tryz.prog 138 [lv,.func (.func 139) #[] #[]] w [] (fun _:Value=>True) id (fun v=>[row 55 7 v l.length (hsV l)]):=by
  obtain ⟨a,cp,b,o,rfl,hcap,hmax,ha,hc⟩:=h
  rw [hts_length] at *
  unfold maxLen at hmax
  refine gives_of_tr Tryz.func138 rfl rfl ?_
  (refine s_r ?_;refine a_s rfl rfl ?_;refine n_r ?_;refine a_s rfl rfl ?_;refine n_t ?_;refine tr_seq ?_;refine s_r ?_;refine m_v rfl rfl ?_;refine tr_val (rk_len_slice (.of rfl)) rfl ?_;refine m_v rfl rfl ?_;refine n_t ?_;refine tr_block ?_)
  refine tr_rowNil 55 7 ?_
  refine tr_for (ι:=Nat × Value) (fun x=>x.1 ≤ l.length) (fun x=>[(10,.int .i64 x.1),(9,.int .i64 l.length),(8,.slice a l.length cp),(5,x.2),(1,.func (.func 139) #[] #[])]) (fun x=>[row 55 7 x.2 x.1 (hsV (l.take x.1))]) (fun x=>l.length - x.1) ?_ ?_
  · apply tr_start (0,.slice none 0 0) (Nat.zero_le _)
    case hs1=>exact .cons rfl (.cons rfl (.cons rfl (.cons rfl (.cons rfl .nil))))
    case ht=>
      show Takes _ [row 55 7 (.slice none 0 0) 0 []] _
      exact .cons .here .nil
  rintro ⟨k,v⟩ hk
  dsimp only at hk ⊢
  by_cases hlt:k < l.length
  · have ha':=ha (hts_ne hlt)
    have hcell:=(hc k _ (hts_get hlt)).2
    have htk:hsV (l.take (k + 1)) = hsV (l.take k)++(l[k].1).cells:=by rw [List.take_succ_eq_append_getElem hlt];unfold hsV;rw [List.map_append,stmsV_app];rfl
    have hlk:(l.take k).length = k:=List.length_take_of_le (by omega)
    have hol:(hsV (l.take k)).length = k * 7:=by rw [hsV_len,hlk]
    have hcl:∀ w,GivesV Tryz.prog 139 [.agg (hitC l[k]).toArray] w (.agg (l[k].1).cells.toArray):=fun w=>hit1_c _ w
    unfold hitC at hcell hcl
    unfold Stm.cells at hcl htk
    (refine s_r ?_;refine tr_val (rk_lss (.of rfl) (.of rfl)) rfl ?_;refine n_t ?_;refine tr_seq ?_;refine c_d rfl (fun hcd=>?_) (fun _=>by omega);refine s_t ?_;refine tr_seq ?_;refine tr_block ?_;refine s_r ?_;refine tr_val (rk_indexAddr (.of rfl) (.of rfl) ha' (by omega) hcd norm1_) rfl ?_;refine tr_val (rk_loadN (.of rfl) (Ats.base hcell rfl) rfl) rfl ?_;refine tr_new (rk_alloc rfl) rfl (fun _ _=>?_);refine tr_store (.of rfl) (.of rfl) .here rfl rfl (okc_cons rfl (okc_cons rfl (okc_cons rfl (okc_cons rfl (okc_cons rfl (okc_cons rfl (okc_cons rfl (okc_cons rfl okc_nil)))))))) (lenb rfl) norm_ ?_;refine n_t ?_;refine tr_region ?_;refine m_v rfl rfl ?_;refine m_v rfl rfl ?_;refine tr_val (rk_loadB (.of rfl) .here norm_ (by rfl)) rfl ?_;refine tr_callV (rk_call (.of rfl) (.cons (.of rfl) .nil) inferInstance normc_) rfl (fun w' hm'=>(hcl w')) ?_;refine tr_new (rk_sliceLitN (.cons (.of rfl) .nil) rfl rfl normp_ normp_ norm_) rfl (fun _ _=>?_))
    refine tr_appendB (.of rfl) (.of rfl) (.there (.there .here)) .here norm_ (by rfl) (okc_cons rfl (okc_cons rfl (okc_cons rfl (okc_cons rfl (okc_cons rfl (okc_cons rfl (okc_cons rfl okc_nil))))))) (by rfl) (by rfl) (by rfl) lenx_ (by rfl) ?_
    intro v'
    (refine a_s rfl rfl ?_;refine tr_nil ?_;refine tr_blk_normal ?_;refine tr_then ?_;refine tr_region ?_;refine tr_val (rk_add (.of rfl) (.of rfl) (ini (by omega))) rfl ?_;refine m_v rfl rfl ?_;refine n_t ?_)
    apply tr_next (k + 1,v') (by show k + 1 ≤ l.length;omega) (by show l.length - (k + 1) < l.length - k;omega)
    case hs1=>exact .cons rfl (.cons rfl (.cons rfl (.cons rfl (.cons rfl .nil))))
    case ht=>
      show Takes _ [row 55 7 v' (k + 1) (hsV (l.take (k + 1)))] _
      rw [htk]
      exact .cons .here .nil
  · obtain rfl:k = l.length:=by omega
    rw [List.take_length]
    (refine s_r ?_;refine tr_val (rk_lss (.of rfl) (.of rfl)) rfl ?_;refine n_t ?_;refine tr_seq ?_;refine c_d rfl (fun _=>by omega) (fun hcd=>?_);refine x_t ?_;refine tr_then_exit ?_;refine tr_blk_exit ?_;refine tr_then ?_;refine s_r ?_;refine m_v rfl rfl ?_;refine a_s rfl rfl ?_;refine n_t ?_;refine tr_ret ?_)
    first | with_reducible apply tr_retM | with_reducible apply tr_endM
    case he=>exact ends1 rfl rfl
    case hR=>
      intro w' hm'
      exact gives_end v trivial (by exact .cons .here .nil) hm' rfl
theorem mapHN_c {lv:Value} {l:List (Stm × Nat)} {w:World} (h:Rd w lv 8 (hts l)) (hfew:l.length ≤ 4000) :
    Gives Tryz.prog 140 [lv,.func (.func 141) #[] #[]] w [] (fun _:Value=>True) id (fun v=>[row 3 1 v l.length (hnV l)]):=by
  obtain ⟨a,cp,b,o,rfl,hcap,hmax,ha,hc⟩:=h
  rw [hts_length] at *
  unfold maxLen at hmax
  refine gives_of_tr Tryz.func140 rfl rfl ?_
  (refine s_r ?_;refine a_s rfl rfl ?_;refine n_r ?_;refine a_s rfl rfl ?_;refine n_t ?_;refine tr_seq ?_;refine s_r ?_;refine m_v rfl rfl ?_;refine tr_val (rk_len_slice (.of rfl)) rfl ?_;refine m_v rfl rfl ?_;refine n_t ?_;refine tr_block ?_)
  refine tr_rowNil 3 1 ?_
  refine tr_for (ι:=Nat × Value) (fun x=>x.1 ≤ l.length) (fun x=>[(10,.int .i64 x.1),(9,.int .i64 l.length),(8,.slice a l.length cp),(5,x.2),(1,.func (.func 141) #[] #[])]) (fun x=>[row 3 1 x.2 x.1 (hnV (l.take x.1))]) (fun x=>l.length - x.1) ?_ ?_
  · apply tr_start (0,.slice none 0 0) (Nat.zero_le _)
    case hs1=>exact .cons rfl (.cons rfl (.cons rfl (.cons rfl (.cons rfl .nil))))
    case ht=>
      show Takes _ [row 3 1 (.slice none 0 0) 0 []] _
      exact .cons .here .nil
  rintro ⟨k,v⟩ hk
  dsimp only at hk ⊢
  by_cases hlt:k < l.length
  · have ha':=ha (hts_ne hlt)
    have hcell:=(hc k _ (hts_get hlt)).2
    have htk:hnV (l.take (k + 1)) = hnV (l.take k)++[.int .i64 ((l[k].2:Nat):Int)]:=by rw [List.take_succ_eq_append_getElem hlt];unfold hnV;rw [List.map_append,natsV_app];rfl
    have hlk:(l.take k).length = k:=List.length_take_of_le (by omega)
    have hol:(hnV (l.take k)).length = k * 1:=by rw [hnV_len,hlk]
    have hcl:∀ w,GivesV Tryz.prog 141 [.agg (hitC l[k]).toArray] w (.int .i64 (l[k].2:Nat)):=fun w=>hit2_c _ w
    unfold hitC at hcell hcl
    (refine s_r ?_;refine tr_val (rk_lss (.of rfl) (.of rfl)) rfl ?_;refine n_t ?_;refine tr_seq ?_;refine c_d rfl (fun hcd=>?_) (fun _=>by omega);refine s_t ?_;refine tr_seq ?_;refine tr_block ?_;refine s_r ?_;refine tr_val (rk_indexAddr (.of rfl) (.of rfl) ha' (by omega) hcd norm1_) rfl ?_;refine tr_val (rk_loadN (.of rfl) (Ats.base hcell rfl) rfl) rfl ?_;refine tr_new (rk_alloc rfl) rfl (fun _ _=>?_);refine tr_store (.of rfl) (.of rfl) .here rfl rfl (okc_cons rfl (okc_cons rfl (okc_cons rfl (okc_cons rfl (okc_cons rfl (okc_cons rfl (okc_cons rfl (okc_cons rfl okc_nil)))))))) (lenb rfl) norm_ ?_;refine n_t ?_;refine tr_region ?_;refine m_v rfl rfl ?_;refine m_v rfl rfl ?_;refine tr_val (rk_loadB (.of rfl) .here norm_ (by rfl)) rfl ?_;refine tr_callV (rk_call (.of rfl) (.cons (.of rfl) .nil) inferInstance normc_) rfl (fun w' hm'=>(hcl w')) ?_;refine tr_new (rk_sliceLit (.cons (.of rfl) .nil) rfl rfl rfl rfl) rfl (fun _ _=>?_))
    refine tr_appendB (.of rfl) (.of rfl) (.there (.there .here)) .here norm_ (by rfl) (okc_cons rfl okc_nil) (by rfl) (by rfl) (by rfl) lenx_ (by rfl) ?_
    intro v'
    (refine a_s rfl rfl ?_;refine tr_nil ?_;refine tr_blk_normal ?_;refine tr_then ?_;refine tr_region ?_;refine tr_val (rk_add (.of rfl) (.of rfl) (ini (by omega))) rfl ?_;refine m_v rfl rfl ?_;refine n_t ?_)
    apply tr_next (k + 1,v') (by show k + 1 ≤ l.length;omega) (by show l.length - (k + 1) < l.length - k;omega)
    case hs1=>exact .cons rfl (.cons rfl (.cons rfl (.cons rfl (.cons rfl .nil))))
    case ht=>
      show Takes _ [row 3 1 v' (k + 1) (hnV (l.take (k + 1)))] _
      rw [htk]
      exact .cons .here .nil
  · obtain rfl:k = l.length:=by omega
    rw [List.take_length]
    (refine s_r ?_;refine tr_val (rk_lss (.of rfl) (.of rfl)) rfl ?_;refine n_t ?_;refine tr_seq ?_;refine c_d rfl (fun _=>by omega) (fun hcd=>?_);refine x_t ?_;refine tr_then_exit ?_;refine tr_blk_exit ?_;refine tr_then ?_;refine s_r ?_;refine m_v rfl rfl ?_;refine a_s rfl rfl ?_;refine n_t ?_;refine tr_ret ?_)
    first | with_reducible apply tr_retM | with_reducible apply tr_endM
    case he=>exact ends1 rfl rfl
    case hR=>
      intro w' hm'
      exact gives_end v trivial (by exact .cons .here .nil) hm' rfl
def fndL (l:List Int):List (Stm × Nat):=if hrdE l.length = 0 then hitL l 0 else []
theorem found_c {sv:Value} {l:List Int} {w:World} (h:Rd w sv 1 (byts l)) (hby:∀ x ∈ l,0 ≤ x ∧ x ≤ 255) (hG:GlobR w) :
    Gives Tryz.prog 72 [sv] w [] (fun _:Value × Value=>True) (fun v=>.tuple #[v.1,v.2,.int .i64 (hrdE l.length)]) (fun v=>[row 55 7 v.1 (fndL l).length (hsV (fndL l)),row 3 1 v.2 (fndL l).length (hnV (fndL l))]):=by
  have h1':=h
  obtain ⟨a,cap,b,o,rfl,hcap,hmax,ha,hc⟩:=h1'
  rw [byts_length] at *
  unfold maxLen at hmax
  refine gives_of_tr Tryz.func72 rfl rfl ?_
  (refine s_r ?_;refine a_s rfl rfl ?_;refine a_s rfl rfl ?_;refine a_s rfl rfl ?_;refine n_t ?_;refine tr_seq ?_;refine s_r ?_;refine m_v rfl rfl ?_;refine tr_callV (rk_call (.of rfl) (.cons (.of rfl) .nil) inferInstance normc_) rfl (fun w' hm'=>(chkBytes_c a _ cap w')) ?_;refine a_s rfl rfl ?_;refine n_r ?_;refine m_v rfl rfl ?_;refine tr_val (rk_neq (.of rfl) (.of rfl)) rfl ?_;refine n_t ?_;refine c_d rfl (fun hcd=>?_) (fun hcd=>?_);refine s_r ?_;refine m_v rfl rfl ?_;refine a_s rfl rfl ?_;refine a_s rfl rfl ?_;refine a_s rfl rfl ?_;refine n_t ?_;refine r_t ?_;rotate_left;refine s_t ?_;refine s_r ?_;refine m_v rfl rfl ?_;rotate_right)
  · rw [fndL,if_neg hcd]
    refine tr_rowNil 55 7 ?_
    refine tr_rowNil 3 1 ?_
    first | with_reducible apply tr_retM | with_reducible apply tr_endM
    case he=>exact ends3 rfl rfl rfl rfl
    case hR=>
      intro w' hm'
      exact gives_end (.slice none 0 0,.slice none 0 0) trivial (show Takes _ [row 55 7 (.slice none 0 0) 0 [],row 3 1 (.slice none 0 0) 0 []] _ by exact .cons (.there .here) (.cons .here .nil)) hm' rfl
  have hz:hrdE l.length = 0:=Decidable.not_not.1 hcd
  have hfew:l.length ≤ 4000:=by
    unfold hrdE at hz
    by_cases h4:4000 < l.length
    · rw [if_pos h4] at hz;cases hz
    · omega
  have hlen:=hitL_len l 0
  rw [fndL,if_pos hz,hz]
  with_reducible apply tr_call
  case hr=>exact rk_call (.of rfl) (.cons (.of rfl) .nil) inferInstance normc_
  case hd=>rfl
  case ht=>exact Takes.nil
  case hc=>
    intro w1 fp hm1 _ hs1
    obtain rfl:fp = []:=hs1
    exact hits_c _ _ _ _
  intro bx _
  dsimp only [id_eq,List.cons_append,List.nil_append]
  with_reducible apply tr_call
  case hr=>exact rk_call (.of rfl) (.cons (.of rfl) .nil) inferInstance normc_
  case hd=>rfl
  case ht=>exact Takes.nil
  case hc=>
    intro w1 fp hm1 _ hs1
    obtain rfl:fp = []:=hs1
    exact colHit_c (by rw [cell_of_block (hm1.blk (b:=bx) (by exact .here))];rfl) (h.keeps hm1.keeps) hby hfew (hG.keeps hm1.keeps)
  intro v _
  dsimp only [id_eq,List.cons_append,List.nil_append]
  (refine a_s rfl rfl ?_;refine n_r ?_;refine m_v rfl rfl ?_)
  with_reducible apply tr_call
  case hr=>exact rk_call (.of rfl) (.cons (.of rfl) (.cons (.of rfl) .nil)) inferInstance normc_
  case hd=>rfl
  case ht=>exact Takes.nil
  case hc=>
    intro w1 fp hm1 _ hs1
    obtain rfl:fp = []:=hs1
    exact mapHS_c (hts_rd (v:=v) hm1 (by exact .here) rfl) (by omega)
  intro v1 _
  dsimp only [id_eq,List.cons_append,List.nil_append]
  refine m_v rfl rfl ?_
  with_reducible apply tr_call
  case hr=>exact rk_call (.of rfl) (.cons (.of rfl) (.cons (.of rfl) .nil)) inferInstance normc_
  case hd=>rfl
  case ht=>exact Takes.nil
  case hc=>
    intro w1 fp hm1 _ hs1
    obtain rfl:fp = []:=hs1
    exact mapHN_c (hts_rd (v:=v) hm1 (by exact Take.there .here) rfl) (by omega)
  intro v2 _
  dsimp only [id_eq,List.cons_append,List.nil_append]
  (refine a_s rfl rfl ?_;refine a_s rfl rfl ?_;refine a_s rfl rfl ?_;refine n_t ?_;refine tr_ret ?_)
  first | with_reducible apply tr_retM | with_reducible apply tr_endM
  case he=>exact ends3 rfl rfl rfl rfl
  case hR=>
    intro w' hm'
    exact gives_end (v1,v2) trivial (show Takes _ [row 55 7 v1 (hitL l 0).length (hsV (hitL l 0)),row 3 1 v2 (hitL l 0).length (hnV (hitL l 0))] _ by exact .cons (.there .here) (.cons .here .nil)) hm' rfl
end Go.Proofs.A1
namespace Go.Proofs.A1
open Go Go.SL
theorem cad1_c (n:Int) (w:World):GivesV Tryz.prog 119 [.int .i64 n] w (.int .i64 (withinF n 1 4)):=by
  refine givesV_of_tr Tryz.func119 rfl rfl ?_
  (refine s_r ?_;refine a_s rfl rfl ?_;refine n_r ?_;refine m_v rfl rfl ?_;refine tr_callV (rk_call (.of rfl) (.cons (.of rfl) (.cons (.of rfl) (.cons (.of rfl) .nil))) inferInstance normc_) rfl (fun w' hm'=>(within_c n 1 4 w')) ?_;refine a_s rfl rfl ?_;refine n_t ?_;refine tr_ret ?_;refine tr_retE rfl (ends1 rfl rfl) ?_)
  rfl
def cdV (l:List Int):List Value:=intgV (l.map fun n=>withinF n 1 4)
theorem cdV_len (l:List Int):(cdV l).length = l.length * 1:=by unfold cdV;rw [intgV_len,List.length_map]
theorem mapCd_c {lv:Value} {l:List Int} {w:World} (h:Rd w lv 1 (intg l)) (hfew:l.length ≤ 4000) :
    Gives Tryz.prog 118 [lv,.func (.func 119) #[] #[]] w [] (fun _:Value=>True) id (fun v=>[row 26 1 v l.length (cdV l)]):=by
  obtain ⟨a,cp,b,o,rfl,hcap,hmax,ha,hc⟩:=h
  rw [intg_length] at *
  unfold maxLen at hmax
  refine gives_of_tr Tryz.func118 rfl rfl ?_
  (refine s_r ?_;refine a_s rfl rfl ?_;refine n_r ?_;refine a_s rfl rfl ?_;refine n_t ?_;refine tr_seq ?_;refine s_r ?_;refine m_v rfl rfl ?_;refine tr_val (rk_len_slice (.of rfl)) rfl ?_;refine m_v rfl rfl ?_;refine n_t ?_;refine tr_block ?_)
  refine tr_rowNil 26 1 ?_
  refine tr_for (ι:=Nat × Value) (fun x=>x.1 ≤ l.length) (fun x=>[(10,.int .i64 x.1),(9,.int .i64 l.length),(8,.slice a l.length cp),(5,x.2),(1,.func (.func 119) #[] #[])]) (fun x=>[row 26 1 x.2 x.1 (cdV (l.take x.1))]) (fun x=>l.length - x.1) ?_ ?_
  · apply tr_start (0,.slice none 0 0) (Nat.zero_le _)
    case hs1=>exact .cons rfl (.cons rfl (.cons rfl (.cons rfl (.cons rfl .nil))))
    case ht=>
      show Takes _ [row 26 1 (.slice none 0 0) 0 []] _
      exact .cons .here .nil
  rintro ⟨k,v⟩ hk
  dsimp only at hk ⊢
  by_cases hlt:k < l.length
  · have ha':=ha (intg_ne hlt)
    have hcell:=(hc k _ (intg_get hlt)).2
    have htk:cdV (l.take (k + 1)) = cdV (l.take k)++[.int .i64 (withinF l[k] 1 4)]:=by rw [List.take_succ_eq_append_getElem hlt];unfold cdV;rw [List.map_append,intgV_app];rfl
    have hlk:(l.take k).length = k:=List.length_take_of_le (by omega)
    have hol:(cdV (l.take k)).length = k * 1:=by rw [cdV_len,hlk]
    have c0:w.cell? ⟨b,o + k * 1,none⟩ = some (.int .i64 l[k]):=hcell 0 _ rfl
    have hcl:∀ w,GivesV Tryz.prog 119 [.int .i64 l[k]] w (.int .i64 (withinF l[k] 1 4)):=fun w=>cad1_c _ w
    (refine s_r ?_;refine tr_val (rk_lss (.of rfl) (.of rfl)) rfl ?_;refine n_t ?_;refine tr_seq ?_;refine c_d rfl (fun hcd=>?_) (fun _=>by omega);refine s_t ?_;refine tr_seq ?_;refine tr_block ?_;refine s_r ?_;refine tr_val (rk_indexAddr (.of rfl) (.of rfl) ha' (by omega) hcd norm1_) rfl ?_;refine tr_val (rk_load1 (.of rfl) (At.base c0 rfl)) rfl ?_;refine a_s rfl rfl ?_;refine n_t ?_;refine tr_region ?_;refine m_v rfl rfl ?_;refine m_v rfl rfl ?_;refine m_v rfl rfl ?_;refine tr_callV (rk_call (.of rfl) (.cons (.of rfl) .nil) inferInstance normc_) rfl (fun w' hm'=>(hcl w')) ?_;refine tr_new (rk_sliceLit (.cons (.of rfl) .nil) rfl rfl rfl rfl) rfl (fun _ _=>?_))
    refine tr_appendB (.of rfl) (.of rfl) (.there .here) .here norm_ (by rfl) (okc_cons rfl okc_nil) (by rfl) (by rfl) (by rfl) lenx_ (by rfl) ?_
    intro v'
    (refine a_s rfl rfl ?_;refine tr_nil ?_;refine tr_blk_normal ?_;refine tr_then ?_;refine tr_region ?_;refine tr_val (rk_add (.of rfl) (.of rfl) (ini (by omega))) rfl ?_;refine m_v rfl rfl ?_;refine n_t ?_)
    apply tr_next (k + 1,v') (by show k + 1 ≤ l.length;omega) (by show l.length - (k + 1) < l.length - k;omega)
    case hs1=>exact .cons rfl (.cons rfl (.cons rfl (.cons rfl (.cons rfl .nil))))
    case ht=>
      show Takes _ [row 26 1 v' (k + 1) (cdV (l.take (k + 1)))] _
      rw [htk]
      exact .cons .here .nil
  · obtain rfl:k = l.length:=by omega
    rw [List.take_length]
    (refine s_r ?_;refine tr_val (rk_lss (.of rfl) (.of rfl)) rfl ?_;refine n_t ?_;refine tr_seq ?_;refine c_d rfl (fun _=>by omega) (fun hcd=>?_);refine x_t ?_;refine tr_then_exit ?_;refine tr_blk_exit ?_;refine tr_then ?_;refine s_r ?_;refine m_v rfl rfl ?_;refine a_s rfl rfl ?_;refine n_t ?_;refine tr_ret ?_)
    first | with_reducible apply tr_retM | with_reducible apply tr_endM
    case he=>exact ends1 rfl rfl
    case hR=>
      intro w' hm'
      exact gives_end v trivial (by exact .cons .here .nil) hm' rfl
theorem chkCad_c {sv:Value} {l:List Int} {w:World} (h:Rd w sv 1 (intg l)):GivesV Tryz.prog 49 [sv] w (.int .i64 (cdE l)):=by
  have h1':=h
  obtain ⟨a,cap,b,o,rfl,hcap,hmax,ha,hc⟩:=h1'
  rw [intg_length] at *
  unfold maxLen at hmax
  have hE:firstF [whenF (decide ((l.length:Int) = 0)) 12,whenF (decide ((8:Int) < (l.length:Nat))) 5] = if l.length = 0 then 12 else if 8 < l.length then 5 else 0:=by
    rw [whenF_if,whenF_if]
    by_cases h0:l.length = 0
    · rw [if_pos (by omega),if_pos h0];rfl
    · rw [if_neg (by omega),if_neg h0]
      by_cases h8:8 < l.length
      · rw [if_pos (by omega),if_pos h8];rfl
      · rw [if_neg (by omega),if_neg h8];rfl
  refine givesV_of_tr Tryz.func49 rfl rfl ?_
  generalize hX:firstF [whenF (decide ((l.length:Int) = 0)) 12,whenF (decide ((8:Int) < (l.length:Nat))) 5] = X at hE
  (refine s_r ?_;refine a_s rfl rfl ?_;refine n_t ?_;refine tr_seq ?_;refine s_r ?_;refine m_v rfl rfl ?_;refine tr_val (rk_len_slice (.of rfl)) rfl ?_;refine tr_val (rk_eql (.of rfl) (.of rfl)) rfl ?_;refine tr_callV (rk_call (.of rfl) (.cons (.of rfl) (.cons (.of rfl) .nil)) inferInstance normc_) rfl (fun w' hm'=>(when_c _ 12 w')) ?_;refine m_v rfl rfl ?_;refine tr_val (rk_len_slice (.of rfl)) rfl ?_;refine tr_val (rk_gtr (.of rfl) (.of rfl)) rfl ?_;refine tr_callV (rk_call (.of rfl) (.cons (.of rfl) (.cons (.of rfl) .nil)) inferInstance normc_) rfl (fun w' hm'=>(when_c _ 5 w')) ?_;refine tr_new (rk_sliceLit (.cons (.of rfl) (.cons (.of rfl) .nil)) rfl rfl rfl rfl) rfl (fun _ _=>?_);refine tr_callV (rk_call (.of rfl) (.cons (.of rfl) .nil) inferInstance normc_) rfl (fun w' hm'=>(first_pB (Mem.rdBlk hm' .here rfl rfl) (IntL.cons (IntL.cons IntL.nil)))) ?_;refine a_s rfl rfl ?_;refine n_r ?_;refine m_v rfl rfl ?_;refine tr_val (rk_neq (.of rfl) (.of rfl)) rfl ?_;refine n_t ?_;refine c_d rfl (fun hcd=>?_) (fun hcd=>?_);refine s_r ?_;refine m_v rfl rfl ?_;refine a_s rfl rfl ?_;refine n_t ?_;refine r_t ?_;refine tr_retE rfl (ends1 rfl rfl) ?_;rotate_left;refine s_t ?_;refine s_r ?_;refine m_v rfl rfl ?_;rotate_right)
  all_goals (rw [hX] at hcd)
  · rw [hX]
    have:cdE l = X:=by
      unfold cdE
      rw [hE] at hcd ⊢
      split
      · rfl
      · split
        · rfl
        · rename_i h1 h2;rw [if_neg h1,if_neg h2] at hcd;exact absurd rfl hcd
    rw [this]
  have hz:X = 0:=Decidable.not_not.1 hcd
  have h0:l.length ≠ 0:=fun h0=>by rw [hz,if_pos h0] at hE;cases hE
  have h8:¬ 8 < l.length:=fun h8=>by rw [hz,if_neg h0,if_pos h8] at hE;cases hE
  have e:cdE l = firstF (l.map fun n=>withinF n 1 4):=by unfold cdE;rw [if_neg h0,if_neg h8]
  rw [e]
  with_reducible apply tr_call
  case hr=>exact rk_call (.of rfl) (.cons (.of rfl) (.cons (.of rfl) .nil)) inferInstance normc_
  case hd=>rfl
  case ht=>exact Takes.nil
  case hc=>
    intro w1 fp hm1 _ hs1
    obtain rfl:fp = []:=hs1
    exact mapCd_c (h.keeps hm1.keeps) (by omega)
  intro v _
  dsimp only [id_eq,List.cons_append,List.nil_append,cdV]
  with_reducible apply tr_callV
  case hr=>exact rk_call (.of rfl) (.cons (.of rfl) .nil) inferInstance normc_
  case hd=>rfl
  case hc=>
    intro w' hm'
    exact first_c v _ w' (intg_rd (E:=26) (v:=v) (l:=l.map fun n=>withinF n 1 4) (n:=l.length) hm' (by exact .here) (by simp))
  (refine a_s rfl rfl ?_;refine n_t ?_;refine tr_ret ?_;refine tr_retE rfl (ends1 rfl rfl) ?_)
  rfl
end Go.Proofs.A1
namespace Go.Proofs.A1
open Go Go.SL
theorem natsV_one (l:List Nat):natsV l = l.map fun (n:Nat)=>Value.int .i64 (n:Int):=by
  induction l with
  | nil=>rfl
  | cons x l ih=>show [Value.int .i64 (x:Int)]++natsV l = _;rw [ih];rfl
theorem ck {b o n:Nat} {rp:List Int} {w:World} (hc:∀ i r,(intg rp)[i]? = some r → r.length = 1 ∧ ∀ j u,r[j]? = some u → w.cell? ⟨b,o + i * 1 + j,none⟩ = some u) (hl:n < rp.length):w.cell? ⟨b,o + n * 1,none⟩ = some (.int .i64 rp[n]):=(hc n _ (intg_get hl)).2 0 _ rfl
set_option maxHeartbeats 2000000 in
theorem pulled_c {sv:Value} {rp:List Int} {n:Nat} {w:World} (h:Rd w sv 1 (intg rp)) (hk:CdOk rp) (hn:n ≤ 256) :
    Gives Tryz.prog 116 [sv,.int .i64 (n:Nat)] w [] (fun _:Value=>True) id (fun v=>[row 95 2 v (pulF rp n).length (prsV (pulF rp n))]):=by
  obtain ⟨a,cap,b,o,rfl,hcap,hmax,ha,hc⟩:=h
  rw [intg_length] at *
  unfold maxLen at hmax
  have hne:=hk.ne
  have hfew:=hk.few
  have ha':=ha (intg_ne (k:=0) (by omega))
  subst ha'
  refine gives_of_tr Tryz.func116 rfl rfl ?_
  (refine s_r ?_;refine a_s rfl rfl ?_;refine n_r ?_;refine a_s rfl rfl ?_;refine n_t ?_;refine tr_seq ?_;refine s_r ?_;refine m_v rfl rfl ?_;refine m_v rfl rfl ?_;refine n_t ?_;refine tr_block ?_)
  refine tr_rowNil 3 1 ?_
  refine tr_for (ι:=Nat × Value) (fun x=>x.1 ≤ n) (fun x=>[(10,.int .i64 (x.1:Nat)),(9,.int .i64 (n:Nat)),(0,.slice (some ⟨b,o,none⟩) rp.length cap),(5,x.2)]) (fun x=>[row 3 1 x.2 (fldL rp x.1).length (natsV (fldL rp x.1))]) (fun x=>n - x.1) ?_ ?_
  · apply tr_start (0,.slice none 0 0) (Nat.zero_le _)
    case hs1=>exact .cons rfl (.cons rfl (.cons rfl (.cons rfl .nil)))
    case ht=>
      show Takes _ [row 3 1 (.slice none 0 0) 0 []] _
      exact .cons .here .nil
  rintro ⟨i,v⟩ hi
  dsimp only at hi ⊢
  by_cases hlt:i < n
  · have hm:i % rp.length < rp.length:=Nat.mod_lt _ hne
    have c0:=ck hc hm
    rw [rep_at hk i hm] at c0
    have hr:=rep_in hk i
    have hem:((i:Nat):Int) % (rp.length:Nat) = ((i % rp.length:Nat):Int):=rfl
    have hfm:=fld_max hk n
    have hfi:=fld_max hk i
    (refine s_r ?_;refine tr_val (rk_lss (.of rfl) (.of rfl)) rfl ?_;refine n_t ?_;refine tr_seq ?_;refine c_d rfl (fun hcd=>?_) (fun _=>by omega);refine s_t ?_;refine tr_seq ?_;refine tr_block ?_;refine s_r ?_;refine m_v rfl rfl ?_;refine a_s rfl rfl ?_;refine n_r ?_;refine m_v rfl rfl ?_;refine m_v rfl rfl ?_;refine m_v rfl rfl ?_;refine tr_val (rk_len_slice (.of rfl)) rfl ?_;refine tr_val (rk_rem (.of rfl) (.of rfl) (by omega) (by omega)) rfl ?_;refine tr_val (rk_indexAddr (.of rfl) (.of rfl) rfl (by omega) (by omega) norm1_) rfl ?_;refine tr_val (rk_load1 (.of rfl) (At.base c0 rfl)) rfl ?_;refine m_v rfl rfl ?_;refine n_t ?_;refine tr_block ?_)
    refine tr_for (ι:=Nat × Value) (fun x=>x.1 ≤ repF rp i) (fun x=>[(20,.int .i64 (x.1:Nat)),(19,.int .i64 (repF rp i:Nat)),(10,.int .i64 (i:Nat)),(9,.int .i64 (n:Nat)),(6,.int .i64 (i:Nat)),(0,.slice (some ⟨b,o,none⟩) rp.length cap),(5,x.2)]) (fun x=>[row 3 1 x.2 (fldJ rp i x.1).length (natsV (fldJ rp i x.1))]) (fun x=>repF rp i - x.1) ?_ ?_
    · apply tr_start (0,v) (Nat.zero_le _)
      case hs1=>exact .cons rfl (.cons rfl (.cons rfl (.cons rfl (.cons rfl (.cons rfl (.cons rfl .nil))))))
      case ht=>
        rw [fldJ_zero]
        exact .cons .here .nil
    rintro ⟨j,v2⟩ hj
    dsimp only at hj ⊢
    by_cases hlj:j < repF rp i
    · have hjl:(fldJ rp i (j + 1)).length = (fldJ rp i j).length + 1:=by rw [fldJ_len,fldJ_len];omega
      have hjv:natsV (fldJ rp i (j + 1)) = natsV (fldJ rp i j)++[.int .i64 (i:Nat)]:=by rw [fldJ_succ,natsV_app];rfl
      have hjm:(fldJ rp i j).length ≤ 2000:=by rw [fldJ_len];omega
      have hol:(natsV (fldJ rp i j)).length = (fldJ rp i j).length * 1:=natsV_len _
      (refine s_r ?_;refine tr_val (rk_lss (.of rfl) (.of rfl)) rfl ?_;refine n_t ?_;refine tr_seq ?_;refine c_d rfl (fun hcd=>?_) (fun _=>by omega);refine s_t ?_;refine tr_seq ?_;refine tr_block ?_;refine tr_region ?_;refine m_v rfl rfl ?_;refine m_v rfl rfl ?_;refine tr_new (rk_sliceLit (.cons (.of rfl) .nil) rfl rfl rfl rfl) rfl (fun _ _=>?_))
      refine tr_appendB (.of rfl) (.of rfl) (.there .here) .here norm_ (by rfl) (okc_cons rfl okc_nil) (by rfl) (by rfl) (by rfl) lenx_ (by rfl) ?_
      intro v3
      (refine a_s rfl rfl ?_;refine tr_nil ?_;refine tr_blk_normal ?_;refine tr_then ?_;refine tr_region ?_;refine tr_val (rk_add (.of rfl) (.of rfl) (ini (by omega))) rfl ?_;refine m_v rfl rfl ?_;refine n_t ?_)
      apply tr_next (j + 1,v3) (show j + 1 ≤ repF rp i by omega) (show repF rp i - (j + 1) < repF rp i - j by omega)
      case hs1=>exact .cons rfl (.cons rfl (.cons rfl (.cons rfl (.cons rfl (.cons rfl (.cons rfl .nil))))))
      case ht=>
        show Takes _ [row 3 1 v3 (fldJ rp i (j + 1)).length (natsV (fldJ rp i (j + 1)))] _
        rw [hjl,hjv]
        exact .cons .here .nil
    · obtain rfl:j = repF rp i:=by omega
      rw [fldJ_all]
      (refine s_r ?_;refine tr_val (rk_lss (.of rfl) (.of rfl)) rfl ?_;refine n_t ?_;refine tr_seq ?_;refine c_d rfl (fun _=>by omega) (fun hcd=>?_);refine x_t ?_;refine tr_then_exit ?_;refine tr_blk_exit ?_;refine tr_blk_normal ?_;refine tr_then ?_;refine tr_region ?_;refine tr_val (rk_add (.of rfl) (.of rfl) (ini (by omega))) rfl ?_;refine m_v rfl rfl ?_;refine n_t ?_)
      apply tr_next (i + 1,v2) (show i + 1 ≤ n by omega) (show n - (i + 1) < n - i by omega)
      case hs1=>exact .cons rfl (.cons rfl (.cons rfl (.cons rfl .nil)))
      case ht=>exact .cons .here .nil
  · obtain rfl:i = n:=by omega
    have hfm:=fld_max hk i
    generalize hL:fldL rp i = L at hfm
    have hpl:=prsN_len L
    have hF:pulF rp i = prsN L:=by unfold pulF;rw [hL]
    rw [hF]
    (refine s_r ?_;refine tr_val (rk_lss (.of rfl) (.of rfl)) rfl ?_;refine n_t ?_;refine tr_seq ?_;refine c_d rfl (fun _=>by omega) (fun hcd=>?_);refine x_t ?_;refine tr_then_exit ?_;refine tr_blk_exit ?_;refine tr_then ?_;refine s_r ?_;refine a_s rfl rfl ?_;refine n_t ?_;refine tr_seq ?_;refine s_r ?_;refine a_s rfl rfl ?_;refine n_t ?_;refine tr_block ?_)
    refine tr_rowNil 95 2 ?_
    by_cases hL0:0 < L.length
    · refine tr_rowOpen (E:=3) (sz:=1) (v:=v) (by exact Take.there .here) hL0 ?_
      rintro g2 cap2 cur2 rfl hcap2 hmx2 hsz2 hxl2
      refine tr_for (ι:=Nat × Value) (fun x=>x.1 ≤ L.length / 2) (fun x=>[(8,.int .i64 (2 * (x.1:Int))),(5,.slice (some ⟨g2,0,none⟩) L.length cap2),(7,x.2)]) (fun x=>[row 95 2 x.2 x.1 (prsV ((prsN L).take x.1)),blk g2 (.cells (natsV L++cur2).toArray 3 (0,0))]) (fun x=>L.length / 2 - x.1) ?_ ?_
      · apply tr_start (0,.slice none 0 0) (Nat.zero_le _)
        case hs1=>exact .cons rfl (.cons rfl (.cons rfl .nil))
        case ht=>
          show Takes _ [row 95 2 (.slice none 0 0) 0 [],blk g2 (.cells (natsV L++cur2).toArray 3 (0,0))] _
          exact .cons (.there .here) (.cons .here .nil)
      rintro ⟨m,v7⟩ hm
      dsimp only at hm ⊢
      by_cases hlm:2 * m + 1 < L.length
      · have h2m:2 * m < L.length:=by omega
        have htk:=prs_take hlm h2m
        have htv:prsV ((prsN L).take (m + 1)) = prsV ((prsN L).take m)++[.int .i64 (L[2 * m]:Nat),.int .i64 (L[2 * m + 1]:Nat)]:=by rw [htk,prsV_app];rfl
        have hol:(prsV ((prsN L).take m)).length = m * 2:=by rw [prsV_len,List.length_take_of_le (by omega)]
        have e1:(2 * (m:Int)).toNat = 2 * m:=by omega
        have e2:(2 * (m:Int) + 1).toNat = 2 * m + 1:=by omega
        have c1:(natsV L++cur2)[(2 * (m:Int)).toNat * 1]? = some (.int .i64 (L[2 * m]:Nat)):=by
          rw [e1,Nat.mul_one,List.getElem?_append_left (by rw [natsV_len];omega)]
          rw [natsV_one,List.getElem?_map,List.getElem?_eq_getElem h2m];rfl
        have c2:(natsV L++cur2)[(2 * (m:Int) + 1).toNat * 1]? = some (.int .i64 (L[2 * m + 1]:Nat)):=by
          rw [e2,Nat.mul_one,List.getElem?_append_left (by rw [natsV_len];omega)]
          rw [natsV_one,List.getElem?_map,List.getElem?_eq_getElem hlm];rfl
        (refine tr_seq ?_;refine s_r ?_;refine m_v rfl rfl ?_;refine tr_val (rk_add (.of rfl) (.of rfl) (ini (by omega))) rfl ?_;refine m_v rfl rfl ?_;refine tr_val (rk_len_slice (.of rfl)) rfl ?_;refine tr_val (rk_lss (.of rfl) (.of rfl)) rfl ?_;refine n_t ?_;refine c_d rfl (fun hcd=>?_) (fun _=>by omega);refine s_t ?_;refine tr_seq ?_;refine tr_block ?_)
        with_reducible refine tr_drawO 12 (by kernel_rfl) ?_
        (refine ao_val (rk_move (.of rfl)) rfl ?_;refine ao_val (rk_move (.of rfl)) rfl ?_;refine ao_val (rk_move (.of rfl)) rfl ?_;refine ao_val (rk_indexAddr (.of rfl) (.of rfl) rfl (by omega) (by omega) norm1_) rfl ?_;refine ao_val (rk_load1 (.of rfl) (At.blkL (.there .here) c1)) rfl ?_;refine ao_val (rk_move (.of rfl)) rfl ?_;refine ao_val (rk_move (.of rfl)) rfl ?_;refine ao_val (rk_add (.of rfl) (.of rfl) (ini (by omega))) rfl ?_;refine ao_val (rk_indexAddr (.of rfl) (.of rfl) rfl (by omega) hcd norm1_) rfl ?_;refine ao_val (rk_load1 (.of rfl) (At.blkL (.there .here) c2)) rfl ?_;refine ao_val (rk_buildL (.cons (.of rfl) (.cons (.of rfl) .nil)) norm_) rfl ?_;refine ao_new (rk_sliceLitN (.cons (.of rfl) .nil) rfl rfl normp_ normp_ norm_) rfl rfl ?_)
        with_reducible refine ao_end1 rfl fun bq hbq=>?_
        skip
        refine tr_appendB (.of rfl) (.of rfl) (.there .here) .here norm_ (by rfl) (okc_cons rfl (okc_cons rfl okc_nil)) (by rfl) (by rfl) (by rfl) lenx_ (by rfl) ?_
        intro v8
        (refine a_s rfl rfl ?_;refine tr_nil ?_;refine tr_blk_normal ?_;refine tr_then ?_;refine tr_region ?_;refine m_v rfl rfl ?_;refine tr_val (rk_add (.of rfl) (.of rfl) (ini (by omega))) rfl ?_;refine a_s rfl rfl ?_;refine n_t ?_)
        apply tr_next (m + 1,v8) (show m + 1 ≤ L.length / 2 by omega) (show L.length / 2 - (m + 1) < L.length / 2 - m by omega)
        case hs1=>exact .cons rfl (.cons rfl (.cons rfl .nil))
        case ht=>
          show Takes _ [row 95 2 v8 (m + 1) (prsV ((prsN L).take (m + 1))),blk g2 (.cells (natsV L++cur2).toArray 3 (0,0))] _
          rw [htv]
          exact .cons .here (.cons (.there .here) .nil)
      · obtain rfl:m = (prsN L).length:=by omega
        rw [List.take_length]
        (refine tr_seq ?_;refine s_r ?_;refine m_v rfl rfl ?_;refine tr_val (rk_add (.of rfl) (.of rfl) (ini (by omega))) rfl ?_;refine m_v rfl rfl ?_;refine tr_val (rk_len_slice (.of rfl)) rfl ?_;refine tr_val (rk_lss (.of rfl) (.of rfl)) rfl ?_;refine n_t ?_;refine c_d rfl (fun _=>by omega) (fun hcd=>?_);refine x_t ?_;refine tr_then_exit ?_;refine tr_blk_exit ?_;refine tr_then ?_;refine s_r ?_;refine m_v rfl rfl ?_;refine a_s rfl rfl ?_;refine n_t ?_;refine tr_ret ?_)
        first | with_reducible apply tr_retM | with_reducible apply tr_endM
        case he=>exact ends1 rfl rfl
        case hR=>
          intro w' hm'
          exact gives_end v7 trivial (show Takes _ [row 95 2 v7 (prsN L).length (prsV (prsN L))] _ by exact .cons .here .nil) hm' rfl
    · obtain rfl:L = []:=List.eq_nil_of_length_eq_zero (by omega)
      refine tr_rowSl (E:=3) (sz:=1) (v:=v) (by exact Take.there .here) fun a5 c5 e=>?_
      subst e
      refine tr_for (ι:=Nat) (fun _=>True) (fun _=>[(8,.int .i64 0),(5,.slice a5 0 c5),(7,.slice none 0 0)]) (fun _=>[row 95 2 (.slice none 0 0) 0 []]) (fun k=>k) ?_ ?_
      · apply tr_start 0 trivial
        case hs1=>exact .cons rfl (.cons rfl (.cons rfl .nil))
        case ht=>exact .cons .here .nil
      intro m _
      (refine tr_seq ?_;refine s_r ?_;refine m_v rfl rfl ?_;refine tr_val (rk_add (.of rfl) (.of rfl) (ini (by omega))) rfl ?_;refine m_v rfl rfl ?_;refine tr_val (rk_len_slice (.of rfl)) rfl ?_;refine tr_val (rk_lss (.of rfl) (.of rfl)) rfl ?_;refine n_t ?_;refine c_d rfl (fun _=>by omega) (fun hcd=>?_);refine x_t ?_;refine tr_then_exit ?_;refine tr_blk_exit ?_;refine tr_then ?_;refine s_r ?_;refine m_v rfl rfl ?_;refine a_s rfl rfl ?_;refine n_t ?_;refine tr_ret ?_)
      first | with_reducible apply tr_retM | with_reducible apply tr_endM
      case he=>exact ends1 rfl rfl
      case hR=>
        intro w' hm'
        exact gives_end (.slice none 0 0) trivial (show Takes _ [row 95 2 (.slice none 0 0) 0 []] _ by exact .cons .here .nil) hm' rfl
end Go.Proofs.A1
namespace Go.Proofs.A1
open Go Go.SL
theorem drop_eq_of {α:Type} {l m:List α} {k:Nat} (hl:k < l.length) (hm:k < m.length) (h:l[k] = m[k]):(l.drop k = m.drop k) ↔ l.drop (k + 1) = m.drop (k + 1):=by
  rw [List.drop_eq_getElem_cons hl,List.drop_eq_getElem_cons hm,h]
  exact ⟨fun e=>(List.cons.inj e).2,fun e=>by rw [e]⟩
theorem eqP_c {v1 v2:Value} {l m:List (Int × Int)} {w:World} (h1:Rd w v1 2 (dus l)) (h2:Rd w v2 2 (dus m)) :
    GivesV Tryz.prog 117 [v1,v2] w (.bool (decide (l = m))):=by
  obtain ⟨a1,cp1,b1,o1,rfl,hcap1,hmax1,ha1,hc1⟩:=h1
  obtain ⟨a2,cp2,b2,o2,rfl,hcap2,hmax2,ha2,hc2⟩:=h2
  rw [dus_length] at *
  rw [dus_length] at *
  unfold maxLen at hmax1 hmax2
  refine givesV_of_tr Tryz.func117 rfl rfl ?_
  (refine s_r ?_;refine a_s rfl rfl ?_;refine n_t ?_;refine tr_seq ?_;refine s_r ?_;refine m_v rfl rfl ?_;refine tr_val (rk_len_slice (.of rfl)) rfl ?_;refine m_v rfl rfl ?_;refine tr_val (rk_len_slice (.of rfl)) rfl ?_;refine tr_val (rk_neq (.of rfl) (.of rfl)) rfl ?_;refine n_t ?_;refine c_d rfl (fun hcd=>?_) (fun hcd=>?_);refine s_r ?_;refine a_s rfl rfl ?_;refine n_t ?_;refine r_t ?_;refine tr_retE rfl (ends1 rfl rfl) ?_;rotate_left;refine s_t ?_;refine tr_seq ?_;refine s_r ?_;refine m_v rfl rfl ?_;refine tr_val (rk_len_slice (.of rfl)) rfl ?_;refine m_v rfl rfl ?_;refine n_t ?_;refine tr_block ?_;rotate_right)
  · rw [decide_eq_false fun e=>hcd (by rw [e])]
  have hlm:l.length = m.length:=by omega
  refine tr_for (ι:=Nat) (fun k=>k ≤ l.length ∧ (l = m ↔ l.drop k = m.drop k)) (fun k=>[(13,.int .i64 (k:Int)),(12,.int .i64 l.length),(0,.slice a1 l.length cp1),(1,.slice a2 m.length cp2)]) (fun _=>[]) (fun k=>l.length - k) ?_ ?_
  · apply tr_start (0:Nat) ⟨Nat.zero_le _,Iff.rfl⟩
    case hs1=>exact .cons rfl (.cons rfl (.cons rfl (.cons rfl .nil)))
    case ht=>(try simp only [List.take_zero,List.map_nil,List.nil_append]);exact .nil
  rintro k ⟨hk,hf⟩
  by_cases hlt:k < l.length
  · have hlt2:k < m.length:=by omega
    have ha1':=ha1 (dus_ne hlt)
    have ha2':=ha2 (dus_ne hlt2)
    have hcell1:=(hc1 k _ (dus_get hlt)).2
    have hcell2:=(hc2 k _ (dus_get hlt2)).2
    have hd:=drop_eq_of (l:=l) (m:=m) hlt hlt2
    have hdn:l[k] ≠ m[k] → l.drop k ≠ m.drop k:=fun hne e=>hne (by
      rw [List.drop_eq_getElem_cons hlt,List.drop_eq_getElem_cons hlt2] at e
      exact (List.cons.inj e).1)
    generalize l[k] = x at hcell1 hd hdn
    generalize m[k] = y at hcell2 hd hdn
    obtain ⟨x0,x1⟩:=x
    obtain ⟨y0,y1⟩:=y
    dsimp only [duC] at hcell1 hcell2
    (refine s_r ?_;refine tr_val (rk_lss (.of rfl) (.of rfl)) rfl ?_;refine n_t ?_;refine tr_seq ?_;refine c_d rfl (fun hcd=>?_) (fun _=>by omega);refine s_t ?_;refine tr_seq ?_;refine tr_block ?_;refine s_r ?_;refine m_v rfl rfl ?_;refine a_s rfl rfl ?_;refine n_t ?_;refine tr_seq ?_)
    with_reducible refine tr_draw 9 (by kernel_rfl) ?_
    (refine a_m rfl rfl ?_;refine a_m rfl rfl ?_;refine any_val (rk_indexAddr (.of rfl) (.of rfl) ha1' (by omega) hcd norm1_) rfl ?_;refine any_val (rk_loadN (.of rfl) (Ats.base hcell1 rfl) rfl) rfl ?_;refine a_m rfl rfl ?_;refine a_m rfl rfl ?_;refine any_val (rk_indexAddr (.of rfl) (.of rfl) ha2' (by omega) (by omega) norm1_) rfl ?_;refine any_val (rk_loadN (.of rfl) (Ats.base hcell2 rfl) rfl) rfl ?_;refine any_val (rk_neqA (.of rfl) (.of rfl) (okL_int (okL_int okL_nil)) rfl) rfl ?_)
    with_reducible refine any_end ?_
    (refine n_t ?_;refine c_b rfl (fun hcd=>?_) (fun hcd=>?_);refine s_r ?_;refine a_s rfl rfl ?_;refine n_t ?_;refine tr_ret ?_;refine tr_blk_ret ?_;refine tr_then_ret ?_;refine tr_then_ret ?_;refine tr_blk_ret ?_;refine tr_then_ret ?_;refine tr_retE rfl (ends1 rfl rfl) ?_;rotate_left;refine tr_skip ?_;refine tr_blk_normal ?_;refine tr_then ?_;refine tr_region ?_;refine tr_val (rk_add (.of rfl) (.of rfl) (ini (by omega))) rfl ?_;refine m_v rfl rfl ?_;refine n_t ?_;rotate_right)
    · have hne:((x0,x1):Int × Int) ≠ (y0,y1):=by
        rintro e
        cases e
        simp at hcd
      rw [decide_eq_false fun e=>hdn hne (hf.1 e)]
    · have he:((x0,x1):Int × Int) = (y0,y1):=by
        simp at hcd
        rw [hcd.1,hcd.2]
      clear hcd
      apply tr_next (k + 1) ⟨(show k + 1 ≤ l.length from hlt),hf.trans (hd he)⟩ (show l.length - (k + 1) < l.length - k by omega)
      case hs1=>exact .cons rfl (.cons rfl (.cons rfl (.cons rfl .nil)))
      case ht=>(try simp only [List.take_zero,List.map_nil,List.nil_append]);exact .nil
  · obtain rfl:k = l.length:=by omega
    have:l = m:=hf.2 (by rw [List.drop_length,hlm,List.drop_length])
    (refine s_r ?_;refine tr_val (rk_lss (.of rfl) (.of rfl)) rfl ?_;refine n_t ?_;refine tr_seq ?_;refine c_d rfl (fun _=>by omega) (fun hcd=>?_);refine x_t ?_;refine tr_then_exit ?_;refine tr_blk_exit ?_;refine tr_then ?_;refine s_r ?_;refine a_s rfl rfl ?_;refine n_t ?_;refine tr_ret ?_;refine tr_retE rfl (ends1 rfl rfl) ?_)
    rw [decide_eq_true this]
theorem pulledX_c {sv:Value} {rp:List Int} {n:Int} {w:World} (h:Rd w sv 1 (intg rp)) :
    Gives Tryz.prog 42 [sv,.int .i64 n] w [] (fun _:Value=>True) (fun v=>.tuple #[v,.int .i64 (pulE rp n)]) (fun v=>[row 95 2 v (pulX rp n).length (prsV (pulX rp n))]):=by
  refine gives_of_tr Tryz.func42 rfl rfl ?_
  have hz:=pulE_zero (rp:=rp) (n:=n)
  unfold pulX
  generalize hE:pulE rp n = E at hz ⊢
  unfold pulE at hE
  by_cases h0:E = 0
  · obtain ⟨hk,hn⟩:=hz.1 h0
    obtain ⟨m,rfl⟩:∃ m:Nat,n = m:=⟨n.toNat,by omega⟩
    rw [if_pos h0,h0]
    rw [h0] at hE
    clear hz h0
    rw [Int.toNat_natCast]
    (refine s_r ?_;refine a_s rfl rfl ?_;refine a_s rfl rfl ?_;refine n_t ?_;refine tr_seq ?_;refine s_r ?_;refine m_v rfl rfl ?_;refine tr_callV (rk_call (.of rfl) (.cons (.of rfl) .nil) inferInstance normc_) rfl (fun w' hm'=>(chkCad_c (Rd.keeps h (Mem.keeps hm')))) ?_;refine m_v rfl rfl ?_;refine tr_callV (rk_call (.of rfl) (.cons (.of rfl) (.cons (.of rfl) (.cons (.of rfl) .nil))) inferInstance normc_) rfl (fun w' hm'=>(within_c _ 0 256 w')) ?_;refine tr_new (rk_sliceLit (.cons (.of rfl) (.cons (.of rfl) .nil)) rfl rfl rfl rfl) rfl (fun _ _=>?_);refine tr_callV (rk_call (.of rfl) (.cons (.of rfl) .nil) inferInstance normc_) rfl (fun w' hm'=>(first_pB (Mem.rdBlk hm' .here rfl rfl) (IntL.cons (IntL.cons IntL.nil)))) ?_;refine a_s rfl rfl ?_;refine n_r ?_;refine m_v rfl rfl ?_;refine tr_val (rk_neq (.of rfl) (.of rfl)) rfl ?_;refine n_t ?_;refine c_d rfl (fun _=>by omega) (fun hcd=>?_);refine s_t ?_;refine s_r ?_;refine m_v rfl rfl ?_;refine m_v rfl rfl ?_)
    with_reducible apply tr_call
    case hr=>exact rk_call (.of rfl) (.cons (.of rfl) (.cons (.of rfl) .nil)) inferInstance normc_
    case hd=>rfl
    case ht=>exact Takes.nil
    case hc=>
      intro w1 fp hm1 _ hs1
      obtain rfl:fp = []:=hs1
      exact pulled_c (h.keeps hm1.keeps) hk (by omega)
    intro v _
    dsimp only [id_eq,List.cons_append,List.nil_append]
    (refine a_s rfl rfl ?_;refine a_s rfl rfl ?_;refine n_t ?_;refine tr_ret ?_)
    first | with_reducible apply tr_retM | with_reducible apply tr_endM
    case he=>exact ends2 rfl rfl rfl
    case hR=>
      intro w' hm'
      exact gives_end v trivial (by exact .cons .here .nil) hm' rfl
  · rw [if_neg h0]
    clear hz
    (refine s_r ?_;refine a_s rfl rfl ?_;refine a_s rfl rfl ?_;refine n_t ?_;refine tr_seq ?_;refine s_r ?_;refine m_v rfl rfl ?_;refine tr_callV (rk_call (.of rfl) (.cons (.of rfl) .nil) inferInstance normc_) rfl (fun w' hm'=>(chkCad_c (Rd.keeps h (Mem.keeps hm')))) ?_;refine m_v rfl rfl ?_;refine tr_callV (rk_call (.of rfl) (.cons (.of rfl) (.cons (.of rfl) (.cons (.of rfl) .nil))) inferInstance normc_) rfl (fun w' hm'=>(within_c n 0 256 w')) ?_;refine tr_new (rk_sliceLit (.cons (.of rfl) (.cons (.of rfl) .nil)) rfl rfl rfl rfl) rfl (fun _ _=>?_);refine tr_callV (rk_call (.of rfl) (.cons (.of rfl) .nil) inferInstance normc_) rfl (fun w' hm'=>(first_pB (Mem.rdBlk hm' .here rfl rfl) (IntL.cons (IntL.cons IntL.nil)))) ?_;refine a_s rfl rfl ?_;refine n_r ?_;refine m_v rfl rfl ?_;refine tr_val (rk_neq (.of rfl) (.of rfl)) rfl ?_;refine n_t ?_;refine c_d rfl (fun hcd=>?_) (fun _=>by omega);refine s_r ?_;refine m_v rfl rfl ?_;refine a_s rfl rfl ?_;refine a_s rfl rfl ?_;refine n_t ?_;refine r_t ?_)
    rw [hE]
    refine tr_rowNil 95 2 ?_
    first | with_reducible apply tr_retM | with_reducible apply tr_endM
    case he=>exact ends2 rfl rfl rfl
    case hR=>
      intro w' hm'
      exact gives_end (.slice none 0 0) trivial (show Takes _ [row 95 2 (.slice none 0 0) 0 []] _ by exact .cons .here .nil) hm' rfl
theorem undE_of {rp:List Int} {l:List (Int × Int)}:undE rp l = if firstF [cdE rp,whenF (decide ((512:Int) < (l.length:Nat))) 5] ≠ 0 then firstF [cdE rp,whenF (decide ((512:Int) < (l.length:Nat))) 5] else if (undX rp l).isSome then 0 else 19:=by
  unfold undE
  rw [whenF_if]
  by_cases h0:cdE rp = 0
  · by_cases h5:512 < l.length
    · have h5':(512:Int) < (l.length:Nat):=by omega
      simp [firstF,h0,h5,h5']
    · have h5':¬ (512:Int) < (l.length:Nat):=by omega
      simp [firstF,h0,h5,h5']
  · rw [if_pos h0];simp [firstF,h0]
theorem undone_c {sv lv:Value} {rp:List Int} {l:List (Int × Int)} {w:World} (h:Rd w sv 1 (intg rp)) (hl:Rd w lv 2 (dus l)) :
    GivesV Tryz.prog 44 [sv,lv] w (.tuple #[.int .i64 (undF rp l:Nat),.int .i64 (undE rp l)]):=by
  have hl':=hl
  obtain ⟨a2,cp2,b2,o2,rfl,hcap2,hmax2,ha2,hc2⟩:=hl'
  rw [dus_length] at *
  unfold maxLen at hmax2
  refine givesV_of_tr Tryz.func44 rfl rfl ?_
  (refine s_r ?_;refine a_s rfl rfl ?_;refine a_s rfl rfl ?_;refine n_t ?_;refine tr_scope ?_;refine tr_seq ?_;refine s_r ?_;refine m_v rfl rfl ?_;refine tr_callV (rk_call (.of rfl) (.cons (.of rfl) .nil) inferInstance normc_) rfl (fun w' hm'=>(chkCad_c (Rd.keeps h (Mem.keeps hm')))) ?_;refine m_v rfl rfl ?_;refine tr_val (rk_len_slice (.of rfl)) rfl ?_;refine tr_val (rk_gtr (.of rfl) (.of rfl)) rfl ?_;refine tr_callV (rk_call (.of rfl) (.cons (.of rfl) (.cons (.of rfl) .nil)) inferInstance normc_) rfl (fun w' hm'=>(when_c _ 5 w')) ?_;refine tr_new (rk_sliceLit (.cons (.of rfl) (.cons (.of rfl) .nil)) rfl rfl rfl rfl) rfl (fun _ _=>?_);refine tr_callV (rk_call (.of rfl) (.cons (.of rfl) .nil) inferInstance normc_) rfl (fun w' hm'=>(first_pB (Mem.rdBlk hm' .here rfl rfl) (IntL.cons (IntL.cons IntL.nil)))) ?_;refine a_s rfl rfl ?_;refine n_r ?_;refine m_v rfl rfl ?_;refine tr_val (rk_neq (.of rfl) (.of rfl)) rfl ?_;refine n_t ?_;refine c_d rfl (fun hcd=>?_) (fun hcd=>?_);refine s_r ?_;refine m_v rfl rfl ?_;refine a_s rfl rfl ?_;refine a_s rfl rfl ?_;refine n_t ?_;refine r_t ?_;refine tr_ng_ret ?_;refine tr_retE rfl (ends2 rfl rfl rfl) ?_;rotate_left;refine s_t ?_;refine s_r ?_;refine a_s rfl rfl ?_;refine a_s rfl rfl ?_;refine n_t ?_;refine tr_seq ?_;refine tr_label ?_;refine tr_then ?_;refine tr_seq ?_;refine s_r ?_;refine m_v rfl rfl ?_;refine n_t ?_;refine tr_block ?_;rotate_right)
  · have hu:=undE_of (rp:=rp) (l:=l)
    rw [if_pos hcd] at hu
    rw [undF,hu,if_neg hcd];rfl
  have hu:=undE_of (rp:=rp) (l:=l)
  rw [if_neg hcd] at hu
  have hk:CdOk rp:=cdE_zero.1 (firstF_zero.1 (Decidable.not_not.1 hcd) (cdE rp) (by simp))
  clear hcd
  refine tr_for (ι:=Nat) (fun k=>k ≤ 257 ∧ ∀ i,i < k → (pulF rp i).map prI ≠ l) (fun k=>[(21,.int .i64 (k:Nat)),(7,.int .i64 0),(8,.bool false),(0,sv),(1,.slice a2 l.length cp2)]) (fun _=>[]) (fun k=>257 - k) ?_ ?_
  · apply tr_start (0:Nat) ⟨Nat.zero_le _,fun i hi=>absurd hi (by omega)⟩
    case hs1=>exact .cons rfl (.cons rfl (.cons rfl (.cons rfl (.cons rfl .nil))))
    case ht=>(try simp only [List.take_zero,List.map_nil,List.nil_append]);exact .nil
  rintro k ⟨hk2,hf⟩
  by_cases hlt:k < 257
  · (refine s_r ?_;refine tr_val (rk_lss (.of rfl) (.of rfl)) rfl ?_;refine n_t ?_;refine tr_seq ?_;refine c_d rfl (fun hcd=>?_) (fun _=>by omega);refine s_t ?_;refine tr_seq ?_;refine tr_block ?_;refine s_r ?_;refine m_v rfl rfl ?_;refine a_s rfl rfl ?_;refine n_r ?_;refine m_v rfl rfl ?_;refine m_v rfl rfl ?_)
    with_reducible apply tr_call
    case hr=>exact rk_call (.of rfl) (.cons (.of rfl) (.cons (.of rfl) .nil)) inferInstance normc_
    case hd=>rfl
    case ht=>exact Takes.nil
    case hc=>
      intro w1 fp hm1 _ hs1
      obtain rfl:fp = []:=hs1
      exact pulled_c (h.keeps hm1.keeps) hk (by omega)
    intro v _
    dsimp only [id_eq,List.cons_append,List.nil_append]
    refine m_v rfl rfl ?_
    with_reducible apply tr_callV
    case hr=>exact rk_call (.of rfl) (.cons (.of rfl) (.cons (.of rfl) .nil)) inferInstance normc_
    case hd=>rfl
    case hc=>
      intro w' hm'
      have hp:=prs_rd (v:=v) hm' (by exact .here) rfl
      rw [prsV_dus] at hp
      exact eqP_c hp (hl.keeps hm'.keeps)
    (refine n_t ?_;refine c_d rfl (fun hcd=>?_) (fun hcd=>?_);refine s_r ?_;refine m_v rfl rfl ?_;refine a_s rfl rfl ?_;refine a_s rfl rfl ?_;refine n_t ?_;refine tr_exit ?_;refine tr_blk_exit_ne rfl ?_;refine tr_then_exit ?_;refine tr_then_exit ?_;refine tr_blk_exit ?_;refine tr_then ?_;refine tr_seq ?_;refine s_r ?_;refine m_v rfl rfl ?_;refine tr_val (rk_not (.of rfl)) rfl ?_;refine n_t ?_;refine tr_cond_f (.of rfl) ?_;refine s_t ?_;refine s_r ?_;refine m_v rfl rfl ?_;refine a_s rfl rfl ?_;refine a_s rfl rfl ?_;refine n_t ?_;refine tr_ret ?_;refine tr_ng_ret ?_;refine tr_retE rfl (ends2 rfl rfl rfl) ?_;rotate_left;refine tr_skip ?_;refine tr_blk_normal ?_;refine tr_then ?_;refine tr_region ?_;refine tr_val (rk_add (.of rfl) (.of rfl) (ini (by omega))) rfl ?_;refine m_v rfl rfl ?_;refine n_t ?_;rotate_right)
    · have hx:=undX_at hf hlt hcd
      rw [hx,if_pos (by rfl)] at hu
      rw [undF,hu,if_pos rfl,hx];rfl
    · apply tr_next (k + 1) ⟨(show k + 1 ≤ 257 from hlt),fun i hi=>by
        by_cases e:i = k
        · rw [e];exact hcd
        · exact hf i (by omega)⟩ (show 257 - (k + 1) < 257 - k by omega)
      case hs1=>exact .cons rfl (.cons rfl (.cons rfl (.cons rfl (.cons rfl .nil))))
      case ht=>(try simp only [List.take_zero,List.map_nil,List.nil_append]);exact .nil
  · have hx:=undX_no (rp:=rp) (l:=l) fun i hi=>hf i (by omega)
    rw [hx,if_neg (by decide)] at hu
    rw [undF,hu,if_neg (by decide)]
    (refine s_r ?_;refine tr_val (rk_lss (.of rfl) (.of rfl)) rfl ?_;refine n_t ?_;refine tr_seq ?_;refine c_d rfl (fun _=>by omega) (fun hcd=>?_);refine x_t ?_;refine tr_then_exit ?_;refine tr_blk_exit ?_;refine tr_then ?_;refine tr_seq ?_;refine s_r ?_;refine m_v rfl rfl ?_;refine tr_val (rk_not (.of rfl)) rfl ?_;refine n_t ?_;refine tr_cond_t (.of rfl) ?_;refine s_r ?_;refine a_s rfl rfl ?_;refine a_s rfl rfl ?_;refine n_t ?_;refine r_t ?_;refine tr_ng_ret ?_;refine tr_retE rfl (ends2 rfl rfl rfl) ?_)
    rfl
end Go.Proofs.A1
