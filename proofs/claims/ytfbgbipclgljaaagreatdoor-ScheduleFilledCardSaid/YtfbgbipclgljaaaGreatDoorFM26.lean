/- Parts of the proof: S82 GkRegK. -/
import Derived.Test.YtfbgbipclgljaaaGreatDoorFM22
import Derived.Test.YtfbgbipclgljaaaGreatDoorFM24
import Derived.Test.YtfbgbipclgljaaaGreatDoorFM06
set_option linter.unusedSectionVars false
set_option linter.unusedVariables false
set_option linter.unusedSimpArgs false
namespace Go.Proofs.A1
open Go Go.SL
abbrev Sn:=ByteArray × Int × Int
def senV (x:Sn):List Value:=[.string x.1,.int .i64 x.2.1,.int .i64 x.2.2]
theorem view1_c {bx:Nat} {lv:Value} {es:List En} {x:Int × Int × Int} {w:World} (hb:w.cell? ⟨bx,0,none⟩ = some lv) (h:Rd w lv 8 (plRows es)) (hx:0 ≤ x.1 ∧ x.1 < es.length) :
    GivesV Tryz.prog 207 [.agg (triV x).toArray,.pointer (some ⟨bx,0,none⟩)] w (.agg (senV ((nth es x.1.toNat).nm,x.2)).toArray):=by
  obtain ⟨a,cp,b,o,rfl,hcap,hmax,ha,hc⟩:=h
  rw [plRows_length] at *
  unfold maxLen at hmax
  obtain ⟨i,p,q⟩:=x
  dsimp only at hx ⊢
  have hlt:i.toNat < es.length:=by omega
  have ha':=ha (plRows_ne hlt)
  have hcell:=(hc i.toNat _ (plRows_get hlt)).2
  have c0:w.cell? ⟨b,o + i.toNat * 8,none⟩ = some (.string (nth es i.toNat).nm):=hcell 0 _ rfl
  unfold triV senV
  dsimp only
  refine givesV_of_tr Tryz.func207 rfl rfl ?_
  (refine s_r ?_;refine tr_new (rk_box (.of rfl) rfl) rfl (fun _ _=>?_);refine tr_new (rk_alloc rfl) rfl (fun _ _=>?_);refine n_t ?_;refine tr_seq ?_)
  with_reducible refine tr_draw 10 (by kernel_rfl) ?_
  (refine any_val (rk_load1 (.of rfl) (At.base hb rfl)) rfl ?_;refine a_f rfl rfl norm0_ ?_;refine any_val (rk_load1 (.of rfl) (At.lit (.there .here) rfl)) rfl ?_;refine any_val (rk_indexAddr (.of rfl) (.of rfl) ha' (by omega) (by omega) norm1_) rfl ?_;refine a_f rfl rfl norm0_ ?_;refine a_f rfl rfl norm0_ ?_;refine any_val (rk_load1 (.of rfl) (At.base c0 rfl)) rfl ?_;refine a_f rfl rfl norm0_ ?_;refine any_val (rk_loadB (.of rfl) (.there .here) norm_ (by rfl)) rfl ?_;refine any_val (rk_buildL (.cons (.of rfl) (.cons (.of rfl) .nil)) norm_) rfl ?_)
  with_reducible refine any_end ?_
  (refine tr_store (.of rfl) (.of rfl) .here rfl rfl (okc_cons rfl (okc_cons rfl (okc_cons rfl okc_nil))) (lenb rfl) norm_ ?_;refine n_t ?_;refine tr_ret ?_;refine tr_retE rfl (ends1cB rfl inferInstance rfl .here norm_ (by rfl)) ?_)
  rfl
def snsL (l:List Sn):List (List Value):=l.map senV
theorem snsL_length (l:List Sn):(snsL l).length = l.length:=by simp [snsL]
theorem snsL_get {l:List Sn} {k:Nat} (h:k < l.length):(snsL l)[k]? = some (senV l[k]):=by simp [snsL,h]
theorem snsL_ne {l:List Sn} {k:Nat} (h:k < l.length):snsL l ≠ []:=by intro e;have:=snsL_length l;rw [e] at this;simp at this;omega
theorem snsL_sz (l:List Sn):∀ r ∈ snsL l,r.length = 3:=by
  intro r hr
  obtain ⟨x,_,rfl⟩:=List.mem_map.1 hr
  rfl
theorem rdSns {c:Cx} {hs hs':List Asn} {w:World} {E:TypeId} {v:Value} {l:List Sn} {n:Nat} (hm:Mem c hs w) (ht:Take hs (row E 3 v n (snsL l).flatten) hs') (hn:n = l.length):Rd w v 3 (snsL l):=
  hm.rdRow ht rfl (snsL_sz l) (by rw [hn];exact snsL_length l)
theorem snsL_take {l:List Sn} {k:Nat} (h:k < l.length):(snsL (l.take (k + 1))).flatten = (snsL (l.take k)).flatten++senV l[k]:=by
  rw [List.take_add_one,List.getElem?_eq_getElem h,snsL,List.map_append,List.flatten_append];simp [snsL]
theorem mapSn_c {lv:Value} {l:List (Int × Int × Int)} {F:Int × Int × Int → Sn} {cap:List Value} {w:World} (h:Rd w lv 3 (l.map triV)) (hn:l.length ≤ 1000)
    (hcall:∀ x ∈ l,∀ w',Keeps [] w w' → GivesV Tryz.prog 207 ([.agg (triV x).toArray]++cap) w' (.agg (senV (F x)).toArray)) :
    Gives Tryz.prog 206 [lv,.func (.func 207) #[] cap.toArray] w [] (fun _:Value=>True) id (fun v=>[row 271 3 v l.length (snsL (l.map F)).flatten]):=by
  obtain ⟨a,cp,b,o,rfl,hcap,hmax,ha,hc⟩:=h
  rw [lenV triV l] at *
  unfold maxLen at hmax
  have hFl:(l.map F).length = l.length:=List.length_map _
  refine gives_of_tr Tryz.func206 rfl rfl ?_
  (refine s_r ?_;refine a_s rfl rfl ?_;refine n_r ?_;refine a_s rfl rfl ?_;refine n_t ?_;refine tr_seq ?_;refine s_r ?_;refine m_v rfl rfl ?_;refine tr_val (rk_len_slice (.of rfl)) rfl ?_;refine m_v rfl rfl ?_;refine n_t ?_;refine tr_block ?_)
  refine tr_rowNil 271 3 ?_
  refine tr_for (ι:=Nat × Value) (fun x=>x.1 ≤ l.length) (fun x=>[(10,.int .i64 x.1),(9,.int .i64 l.length),(8,.slice a l.length cp),(5,x.2),(1,.func (.func 207) #[] cap.toArray)]) (fun x=>[row 271 3 x.2 x.1 (snsL ((l.map F).take x.1)).flatten]) (fun x=>l.length - x.1) ?_ ?_
  · apply tr_start (0,.slice none 0 0) (Nat.zero_le _)
    case hs1=>exact .cons rfl (.cons rfl (.cons rfl (.cons rfl (.cons rfl .nil))))
    case ht=>
      show Takes _ [row 271 3 (.slice none 0 0) 0 []] _
      exact .cons .here .nil
  rintro ⟨k,v⟩ hk
  dsimp only at hk ⊢
  by_cases hlt:k < l.length
  · have ha':=ha (by intro e;rw [List.map_eq_nil_iff] at e;subst e;simp at hlt)
    have hcell:=(hc k (triV l[k]) (by rw [List.getElem?_map,List.getElem?_eq_getElem hlt];rfl)).2
    have hcl:=hcall _ (List.getElem_mem hlt)
    have htk:=snsL_take (l:=l.map F) (k:=k) (by rw [hFl];exact hlt)
    rw [List.getElem_map] at htk
    generalize F l[k] = y at hcl htk
    obtain ⟨y0,y1,y2⟩:=y
    generalize l[k] = x at hcell hcl
    obtain ⟨x0,x1,x2⟩:=x
    unfold triV at hcell hcl
    unfold senV at hcl htk
    dsimp only at hcell hcl htk
    (refine s_r ?_;refine tr_val (rk_lss (.of rfl) (.of rfl)) rfl ?_;refine n_t ?_;refine tr_seq ?_;refine c_d rfl (fun hcd=>?_) (fun _=>by omega);refine s_t ?_;refine tr_seq ?_;refine tr_block ?_;refine s_r ?_;refine tr_val (rk_indexAddr (.of rfl) (.of rfl) ha' (by omega) hcd norm1_) rfl ?_;refine tr_val (rk_loadN (.of rfl) (Ats.base hcell rfl) rfl) rfl ?_;refine tr_new (rk_alloc rfl) rfl (fun _ _=>?_);refine tr_store (.of rfl) (.of rfl) .here rfl rfl (okc_cons rfl (okc_cons rfl (okc_cons rfl okc_nil))) (lenb rfl) norm_ ?_;refine n_t ?_;refine tr_region ?_;refine m_v rfl rfl ?_;refine m_v rfl rfl ?_;refine tr_val (rk_loadB (.of rfl) .here norm_ (by rfl)) rfl ?_;refine tr_callV (rk_call (.of rfl) (.cons (.of rfl) .nil) inferInstance normc_) rfl (fun w' hm'=>(hcl w' (Mem.keeps hm'))) ?_;refine tr_new (rk_sliceLitN (.cons (.of rfl) .nil) rfl rfl normp_ normp_ norm_) rfl (fun _ _=>?_))
    refine tr_appendB (.of rfl) (.of rfl) (.there (.there .here)) .here norm_ (by rfl) (okc_cons rfl (okc_cons rfl (okc_cons rfl okc_nil))) (by rfl) (by rfl) (by rfl) lenx_ (by rfl) ?_
    intro v'
    (refine a_s rfl rfl ?_;refine tr_nil ?_;refine tr_blk_normal ?_;refine tr_then ?_;refine tr_region ?_;refine tr_val (rk_add (.of rfl) (.of rfl) (ini (by omega))) rfl ?_;refine m_v rfl rfl ?_;refine n_t ?_)
    apply tr_next (k + 1,v') (show k + 1 ≤ l.length by omega) (show l.length - (k + 1) < l.length - k by omega)
    case hs1=>exact .cons rfl (.cons rfl (.cons rfl (.cons rfl (.cons rfl .nil))))
    case ht=>
      show Takes _ [row 271 3 v' (k + 1) (snsL ((l.map F).take (k + 1))).flatten] _
      rw [htk]
      exact .cons .here .nil
  · obtain rfl:k = l.length:=by omega
    rw [List.take_of_length_le (by omega)]
    (refine s_r ?_;refine tr_val (rk_lss (.of rfl) (.of rfl)) rfl ?_;refine n_t ?_;refine tr_seq ?_;refine c_d rfl (fun _=>by omega) (fun hcd=>?_);refine x_t ?_;refine tr_then_exit ?_;refine tr_blk_exit ?_;refine tr_then ?_;refine s_r ?_;refine m_v rfl rfl ?_;refine a_s rfl rfl ?_;refine n_t ?_;refine tr_ret ?_)
    first | with_reducible apply tr_retM | with_reducible apply tr_endM
    case he=>exact ends1 rfl rfl
    case hR=>
      intro w' hm'
      exact gives_end v trivial (by exact .cons .here .nil) hm' rfl
theorem shF_ent {es:List En} (h:Sound es) (f:Int):∀ x ∈ shF es f,0 ≤ x.1 ∧ x.1 < es.length:=by
  intro x hx
  rcases h.air f with e | ⟨i,hi,hb,e⟩ | ⟨i,p,q,hi,e,_⟩
  · rw [e] at hx;cases hx
  · rw [e] at hx
    simp only [List.mem_singleton] at hx
    subst hx;dsimp only;omega
  · rw [e] at hx
    simp only [List.mem_cons,List.not_mem_nil,or_false] at hx
    rcases hx with rfl | rfl <;> dsimp only <;> omega
theorem shF_two {es:List En} (h:Sound es) (f:Int):(shF es f).length ≤ 2:=by
  rcases h.air f with e | ⟨i,hi,hb,e⟩ | ⟨i,p,q,hi,e,_⟩ <;> rw [e] <;> simp
theorem vwL_len (es:List En) (f:Int):(vwL es f).length = (shF es f).length:=by rw [vwL,List.length_map]
theorem view_c {lv:Value} {es:List En} {f:Int} {w:World} (h:Rd w lv 8 (plRows es)) (hs:Sound es) :
    Gives Tryz.prog 170 [lv,.int .i64 f] w [] (fun _:Value=>True) id (fun v=>[row 271 3 v (vwL es f).length (snsL (vwL es f)).flatten]):=by
  obtain ⟨a,n,cp,rfl⟩:=Rd.shape h
  refine gives_of_tr Tryz.func170 rfl rfl ?_
  (refine s_r ?_;refine tr_new (rk_box (.of rfl) rfl) rfl (fun _ _=>?_);refine a_s rfl rfl ?_;refine n_r ?_;refine tr_val (rk_load1 (.of rfl) (At.lit .here rfl)) rfl ?_;refine m_v rfl rfl ?_)
  rename_i b2 hb2
  with_reducible apply tr_call
  case hr=>exact rk_call (.of rfl) (.cons (.of rfl) (.cons (.of rfl) .nil)) inferInstance normc_
  case hd=>rfl
  case ht=>exact Takes.nil
  case hc=>
    intro w1 fp hm1 _ hs1
    obtain rfl:fp = []:=hs1
    exact shares_c (h.keeps hm1.keeps) hs
  intro v1 _
  dsimp only [id_eq,List.cons_append,List.nil_append]
  refine tr_val (rk_makeFunc' .nil (.cons (.of rfl) .nil)) rfl ?_
  with_reducible apply tr_call
  case hr=>exact rk_call (.of rfl) (.cons (.of rfl) (.cons (.of rfl) .nil)) inferInstance normc_
  case hd=>rfl
  case ht=>exact Takes.nil
  case hc=>
    intro w1 fp hm1 _ hs1
    obtain rfl:fp = []:=hs1
    have hrd:=rdTri (v:=v1) hm1 (by exact .here)
    have key:Gives Tryz.prog 206 [v1,.func (.func 207) #[] #[.pointer (some ⟨b2,0,none⟩)]] w1 [] (fun _:Value=>True) id (fun v=>[row 271 3 v (vwL es f).length (snsL (vwL es f)).flatten]):=by
      rw [vwL_len]
      exact mapSn_c (F:=fun x=>((nth es x.1.toNat).nm,x.2)) (cap:=[.pointer (some ⟨b2,0,none⟩)]) hrd (Nat.le_trans (shF_two hs f) (by decide)) fun x hx w2 hk2=>by
        have hm2:=hm1.keepsOn hk2
        refine view1_c (es:=es) ?_ (h.keeps hm2.keeps) (shF_ent hs f x hx)
        have hb:=hm2.blk (b:=b2) (by exact Take.there .here)
        rw [cell_of_block hb];rfl
    exact key
  intro v2 _
  dsimp only [id_eq,List.cons_append,List.nil_append]
  (refine a_s rfl rfl ?_;refine n_t ?_;refine tr_ret ?_)
  first | with_reducible apply tr_retM | with_reducible apply tr_endM
  case he=>exact ends1 rfl rfl
  case hR=>
    intro w' hm'
    exact gives_end v2 trivial (by exact .cons .here .nil) hm' rfl
theorem sen_eq (x y:Sn):decide (x = y) = (decide (x.1 = y.1) && (decide (x.2.1 = y.2.1) && (decide (x.2.2 = y.2.2) && true))):=by
  obtain ⟨a,b,c⟩:=x
  obtain ⟨d,e,f⟩:=y
  rw [Bool.and_true,← Bool.decide_and,← Bool.decide_and]
  exact decide_eq_decide.2 (by simp)
theorem senEq_c (x y:Sn) (w:World):GivesV Tryz.prog 171 [.agg (senV x).toArray,.agg (senV y).toArray] w (.bool (decide (x = y))):=by
  rw [sen_eq]
  obtain ⟨a,b,c⟩:=x
  obtain ⟨d,e,f⟩:=y
  unfold senV
  dsimp only
  refine givesV_of_tr Tryz.func171 rfl rfl ?_
  (refine s_r ?_;refine tr_new (rk_box (.of rfl) rfl) rfl (fun _ _=>?_);refine tr_new (rk_box (.of rfl) rfl) rfl (fun _ _=>?_);refine a_s rfl rfl ?_;refine n_r ?_;refine tr_val (rk_loadB (.of rfl) (.there .here) norm_ (by rfl)) rfl ?_;refine tr_val (rk_loadB (.of rfl) .here norm_ (by rfl)) rfl ?_;refine tr_val (rk_eqlA (.of rfl) (.of rfl) (okL_string (okL_int (okL_int okL_nil))) rfl) rfl ?_;refine a_s rfl rfl ?_;refine n_t ?_;refine tr_ret ?_;refine tr_retE rfl (ends1 rfl rfl) ?_)
  rfl
theorem drop_eq_of {α:Type} {l m:List α} {k:Nat} (hl:k < l.length) (hm:k < m.length) (h:l[k] = m[k]):(l.drop k = m.drop k) ↔ l.drop (k + 1) = m.drop (k + 1):=by
  rw [List.drop_eq_getElem_cons hl,List.drop_eq_getElem_cons hm,h]
  exact ⟨fun e=>(List.cons.inj e).2,fun e=>by rw [e]⟩
theorem eqSn_c {v1 v2:Value} {l m:List Sn} {w:World} (h1:Rd w v1 3 (snsL l)) (h2:Rd w v2 3 (snsL m)) :
    GivesV Tryz.prog 169 [v1,v2,.func (.func 171) #[] #[]] w (.bool (decide (l = m))):=by
  obtain ⟨a1,cp1,b1,o1,rfl,hcap1,hmax1,ha1,hc1⟩:=h1
  obtain ⟨a2,cp2,b2,o2,rfl,hcap2,hmax2,ha2,hc2⟩:=h2
  rw [snsL_length] at *
  rw [snsL_length] at *
  unfold maxLen at hmax1 hmax2
  refine givesV_of_tr Tryz.func169 rfl rfl ?_
  (refine s_r ?_;refine a_s rfl rfl ?_;refine n_t ?_;refine tr_seq ?_;refine s_r ?_;refine m_v rfl rfl ?_;refine tr_val (rk_len_slice (.of rfl)) rfl ?_;refine m_v rfl rfl ?_;refine tr_val (rk_len_slice (.of rfl)) rfl ?_;refine tr_val (rk_neq (.of rfl) (.of rfl)) rfl ?_;refine n_t ?_;refine c_d rfl (fun hcd=>?_) (fun hcd=>?_);refine s_r ?_;refine a_s rfl rfl ?_;refine n_t ?_;refine r_t ?_;refine tr_retE rfl (ends1 rfl rfl) ?_;rotate_left;refine s_t ?_;refine tr_seq ?_;refine s_r ?_;refine m_v rfl rfl ?_;refine tr_val (rk_len_slice (.of rfl)) rfl ?_;refine m_v rfl rfl ?_;refine n_t ?_;refine tr_block ?_;rotate_right)
  · rw [decide_eq_false fun e=>hcd (by rw [e])]
  have hlm:l.length = m.length:=by omega
  refine tr_for (ι:=Nat) (fun k=>k ≤ l.length ∧ (l = m ↔ l.drop k = m.drop k)) (fun k=>[(17,.int .i64 (k:Int)),(16,.int .i64 l.length),(15,.slice a1 l.length cp1),(1,.slice a2 m.length cp2),(2,.func (.func 171) #[] #[])]) (fun _=>[]) (fun k=>l.length - k) ?_ ?_
  · apply tr_start (0:Nat) ⟨Nat.zero_le _,Iff.rfl⟩
    case hs1=>exact .cons rfl (.cons rfl (.cons rfl (.cons rfl (.cons rfl .nil))))
    case ht=>(try simp only [List.take_zero,List.map_nil,List.nil_append]);exact .nil
  rintro k ⟨hk,hf⟩
  by_cases hlt:k < l.length
  · have hlt2:k < m.length:=by omega
    have ha1':=ha1 (snsL_ne hlt)
    have ha2':=ha2 (snsL_ne hlt2)
    have hcell1:=(hc1 k _ (snsL_get hlt)).2
    have hcell2:=(hc2 k _ (snsL_get hlt2)).2
    have hd:=drop_eq_of (l:=l) (m:=m) hlt hlt2
    have hdn:l[k] ≠ m[k] → l.drop k ≠ m.drop k:=fun hne e=>hne (by
      rw [List.drop_eq_getElem_cons hlt,List.drop_eq_getElem_cons hlt2] at e
      exact (List.cons.inj e).1)
    generalize l[k] = x at hcell1 hd hdn
    generalize m[k] = y at hcell2 hd hdn
    obtain ⟨x0,x1,x2⟩:=x
    obtain ⟨y0,y1,y2⟩:=y
    have hse:∀ w',GivesV Tryz.prog 171 [.agg #[.string x0,.int .i64 x1,.int .i64 x2],.agg #[.string y0,.int .i64 y1,.int .i64 y2]] w' (.bool (decide ((x0,x1,x2) = (y0,y1,y2)))):=fun w'=>senEq_c (x0,x1,x2) (y0,y1,y2) w'
    unfold senV at hcell1 hcell2
    dsimp only at hcell1 hcell2
    (refine s_r ?_;refine tr_val (rk_lss (.of rfl) (.of rfl)) rfl ?_;refine n_t ?_;refine tr_seq ?_;refine c_d rfl (fun hcd=>?_) (fun _=>by omega);refine s_t ?_;refine tr_seq ?_;refine tr_block ?_;refine s_r ?_;refine m_v rfl rfl ?_;refine tr_val (rk_indexAddr (.of rfl) (.of rfl) ha1' (by omega) hcd norm1_) rfl ?_;refine tr_val (rk_loadN (.of rfl) (Ats.base hcell1 rfl) rfl) rfl ?_;refine tr_new (rk_alloc rfl) rfl (fun _ _=>?_);refine a_s rfl rfl ?_;refine tr_store (.of rfl) (.of rfl) .here rfl rfl (okc_cons rfl (okc_cons rfl (okc_cons rfl okc_nil))) (lenb rfl) norm_ ?_;refine n_r ?_;refine m_v rfl rfl ?_;refine m_v rfl rfl ?_;refine tr_val (rk_indexAddr (.of rfl) (.of rfl) ha2' (by omega) (by omega) norm1_) rfl ?_;refine tr_val (rk_loadN (.of rfl) (Ats.base hcell2 rfl) rfl) rfl ?_;refine tr_new (rk_alloc rfl) rfl (fun _ _=>?_);refine tr_store (.of rfl) (.of rfl) .here rfl rfl (okc_cons rfl (okc_cons rfl (okc_cons rfl okc_nil))) (lenb rfl) norm_ ?_;refine n_r ?_;refine m_v rfl rfl ?_;refine tr_val (rk_loadB (.of rfl) (.there .here) norm_ (by rfl)) rfl ?_;refine tr_val (rk_loadB (.of rfl) .here norm_ (by rfl)) rfl ?_;refine tr_callV (rk_call (.of rfl) (.cons (.of rfl) (.cons (.of rfl) .nil)) inferInstance normc_) rfl (fun w' hm'=>(hse w')) ?_;refine tr_val (rk_not (.of rfl)) rfl ?_;refine n_t ?_;refine c_b rfl (fun hcd=>?_) (fun hcd=>?_);refine s_r ?_;refine a_s rfl rfl ?_;refine n_t ?_;refine tr_ret ?_;refine tr_blk_ret ?_;refine tr_then_ret ?_;refine tr_then_ret ?_;refine tr_blk_ret ?_;refine tr_then_ret ?_;refine tr_retE rfl (ends1 rfl rfl) ?_;rotate_left;refine tr_skip ?_;refine tr_blk_normal ?_;refine tr_then ?_;refine tr_region ?_;refine tr_val (rk_add (.of rfl) (.of rfl) (ini (by omega))) rfl ?_;refine m_v rfl rfl ?_;refine n_t ?_;rotate_right)
    · rw [decide_eq_false fun e=>hdn hcd (hf.1 e)]
    · have he:((x0,x1,x2):Sn) = (y0,y1,y2):=by
        simpa using hcd
      clear hcd
      apply tr_next (k + 1) ⟨(show k + 1 ≤ l.length from hlt),hf.trans (hd he)⟩ (show l.length - (k + 1) < l.length - k by omega)
      case hs1=>exact .cons rfl (.cons rfl (.cons rfl (.cons rfl (.cons rfl .nil))))
      case ht=>(try simp only [List.take_zero,List.map_nil,List.nil_append]);exact .nil
  · obtain rfl:k = l.length:=by omega
    have:l = m:=hf.2 (by rw [List.drop_length,hlm,List.drop_length])
    (refine s_r ?_;refine tr_val (rk_lss (.of rfl) (.of rfl)) rfl ?_;refine n_t ?_;refine tr_seq ?_;refine c_d rfl (fun _=>by omega) (fun hcd=>?_);refine x_t ?_;refine tr_then_exit ?_;refine tr_blk_exit ?_;refine tr_then ?_;refine s_r ?_;refine a_s rfl rfl ?_;refine n_t ?_;refine tr_ret ?_;refine tr_retE rfl (ends1 rfl rfl) ?_)
    rw [decide_eq_true this]
def idxD (D:Int → Bool) (l:List Int):Int:=((List.range l.length).find? fun i=>(l[i]?.map D).getD false).elim (-1) (fun i=>(i:Int))
theorem idxD_at {D:Int → Bool} {l:List Int} {k:Nat} (h:∀ i,i < k → (l[i]?.map D).getD false = false) (hk:k < l.length) (hp:D l[k] = true):idxD D l = k:=by
  unfold idxD
  have:(List.range l.length).find? (fun i=>(l[i]?.map D).getD false) = some k:=by
    rw [List.find?_range_eq_some]
    exact ⟨by simp [hk,hp],by simpa using hk,fun i hi=>by simpa using h i hi⟩
  rw [this];rfl
theorem idxD_none {D:Int → Bool} {l:List Int} (h:∀ i,i < l.length → (l[i]?.map D).getD false = false):idxD D l = -1:=by
  unfold idxD
  have:(List.range l.length).find? (fun i=>(l[i]?.map D).getD false) = none:=by
    rw [List.find?_eq_none]
    intro i hi
    simp [h i (List.mem_range.1 hi)]
  rw [this];rfl
theorem idxD_cases (D:Int → Bool) (l:List Int):(idxD D l = -1 ∧ ∀ x ∈ l,D x = false) ∨ ∃ k:Nat,∃ hk:k < l.length,idxD D l = k ∧ D l[k] = true ∧ ∀ i (hi:i < k),D (l[i]'(by omega)) = false:=by
  by_cases h:∀ i,i < l.length → (l[i]?.map D).getD false = false
  · left
    refine ⟨idxD_none h,fun x hx=>?_⟩
    obtain ⟨i,hi,rfl⟩:=List.getElem_of_mem hx
    simpa [hi] using h i hi
  · right
    have:∃ k,k < l.length ∧ (l[k]?.map D).getD false = true ∧ ∀ i,i < k → (l[i]?.map D).getD false = false:=by
      apply Classical.byContradiction
      intro hc
      apply h
      intro i
      induction i using Nat.strongRecOn with
      | _ i ih =>
        intro hi
        cases hb:(l[i]?.map D).getD false with
        | false=>rfl
        | true=>exact absurd ⟨i,hi,hb,fun k hk=>ih k hk (by omega)⟩ hc
    obtain ⟨k,hk,h1,h2⟩:=this
    have h3:D l[k] = true:=by simpa [hk] using h1
    exact ⟨k,hk,idxD_at h2 hk h3,h3,fun i hi=>by have:=h2 i hi;simpa [show i < l.length by omega] using this⟩
theorem idxI_c {lv:Value} {l:List Int} {D:Int → Bool} {f:FuncId} {first cap:List Value} [Bod Tryz.prog f] {w:World} (h:Rd w lv 1 (ints l)) (hcall:∀ x ∈ l,∀ w',Keeps [] w w' → GivesV Tryz.prog f (first++[.int .i64 x]++cap) w' (.bool (D x))) :
    GivesV Tryz.prog 172 [lv,.func (.func f) first.toArray cap.toArray] w (.int .i64 (idxD D l)):=by
  obtain ⟨a,cp,b,o,rfl,hcap,hmax,ha,hc⟩:=h
  rw [ints_length] at *
  unfold maxLen at hmax
  refine givesV_of_tr Tryz.func172 rfl rfl ?_
  (refine s_r ?_;refine a_s rfl rfl ?_;refine n_t ?_;refine tr_seq ?_;refine s_r ?_;refine m_v rfl rfl ?_;refine tr_val (rk_len_slice (.of rfl)) rfl ?_;refine m_v rfl rfl ?_;refine n_t ?_;refine tr_block ?_)
  refine tr_for (fun k:Nat=>k ≤ l.length ∧ ∀ i,i < k → (l[i]?.map D).getD false = false) (fun k=>[(8,.int .i64 k),(7,.int .i64 l.length),(0,.slice a l.length cp),(1,.func (.func f) first.toArray cap.toArray)]) (fun _=>[]) (fun k=>l.length - k) ?_ ?_
  · apply tr_start 0 ⟨Nat.zero_le _,fun i h=>by omega⟩
    case hs1=>exact .cons rfl (.cons rfl (.cons rfl (.cons rfl .nil)))
    case ht=>(try simp only [List.take_zero,List.map_nil,List.nil_append]);exact .nil
  rintro k ⟨hk,hf⟩
  by_cases hlt:k < l.length
  · have ha':=ha (ints_ne hlt)
    have c0:w.cell? ⟨b,o + k * 1,none⟩ = some (.int .i64 l[k]):=(hc k _ (ints_get hlt)).2 0 _ rfl
    have hcl:=hcall _ (List.getElem_mem hlt)
    have hps:(l[k]?.map D).getD false = D l[k]:=by simp [hlt]
    (refine s_r ?_;refine tr_val (rk_lss (.of rfl) (.of rfl)) rfl ?_;refine n_t ?_;refine tr_seq ?_;refine c_d rfl (fun hcd=>?_) (fun _=>by omega);refine s_t ?_;refine tr_seq ?_;refine tr_block ?_;refine s_r ?_;refine m_v rfl rfl ?_;refine a_s rfl rfl ?_;refine n_r ?_;refine m_v rfl rfl ?_;refine m_v rfl rfl ?_;refine m_v rfl rfl ?_;refine tr_val (rk_indexAddr (.of rfl) (.of rfl) ha' (by omega) hcd norm1_) rfl ?_;refine tr_val (rk_load1 (.of rfl) (At.base c0 rfl)) rfl ?_;refine tr_callV (rk_call (.of rfl) (.cons (.of rfl) .nil) inferInstance normc_) rfl (fun w' hm'=>(hcl w' (Mem.keeps hm'))) ?_;refine n_t ?_;refine c_b rfl (fun hcd=>?_) (fun hcd=>?_);refine s_r ?_;refine m_v rfl rfl ?_;refine a_s rfl rfl ?_;refine n_t ?_;refine tr_ret ?_;refine tr_blk_ret ?_;refine tr_then_ret ?_;refine tr_then_ret ?_;refine tr_blk_ret ?_;refine tr_then_ret ?_;refine tr_retE rfl (ends1 rfl rfl) ?_;rotate_left;refine tr_skip ?_;refine tr_blk_normal ?_;refine tr_then ?_;refine tr_region ?_;refine tr_val (rk_add (.of rfl) (.of rfl) (ini (by omega))) rfl ?_;refine m_v rfl rfl ?_;refine n_t ?_;rotate_right)
    · rw [idxD_at hf hlt hcd]
    · apply tr_next (k + 1) ⟨by omega,fun i hi=>by
        by_cases e:i = k
        · rw [e,hps];exact hcd
        · exact hf i (by omega)⟩ (by omega)
      case hs1=>exact .cons rfl (.cons rfl (.cons rfl (.cons rfl .nil)))
      case ht=>(try simp only [List.take_zero,List.map_nil,List.nil_append]);exact .nil
  · obtain rfl:k = l.length:=by omega
    (refine s_r ?_;refine tr_val (rk_lss (.of rfl) (.of rfl)) rfl ?_;refine n_t ?_;refine tr_seq ?_;refine c_d rfl (fun _=>by omega) (fun hcd=>?_);refine x_t ?_;refine tr_then_exit ?_;refine tr_blk_exit ?_;refine tr_then ?_;refine s_r ?_;refine a_s rfl rfl ?_;refine n_t ?_;refine tr_ret ?_;refine tr_retE rfl (ends1 rfl rfl) ?_)
    rw [idxD_none hf]
theorem ind0x {α:Type} {l:List Oper} {i:Nat} {v:α}:Indep l i (fun _=>v):=fun _ _ _=>rfl
theorem differs_c {va vb:Value} {a b:List En} {n:Int} {pa pb:Nat} {w:World} (ca:w.cell? ⟨pa,0,none⟩ = some va) (cb:w.cell? ⟨pb,0,none⟩ = some vb) (ha:Rd w va 8 (plRows a)) (hb:Rd w vb 8 (plRows b)) (hsa:Sound a) (hsb:Sound b) :
    GivesV Tryz.prog 168 [.int .i64 n,.pointer (some ⟨pa,0,none⟩),.pointer (some ⟨pb,0,none⟩)] w (.bool (dfB a b n)):=by
  obtain ⟨aa,na,cpa,rfl⟩:=Rd.shape ha
  obtain ⟨ab,nb,cpb,rfl⟩:=Rd.shape hb
  refine givesV_of_tr Tryz.func168 rfl rfl ?_
  (refine s_r ?_;refine a_s rfl rfl ?_;refine n_t ?_;refine tr_seq ?_)
  with_reducible refine tr_drawM 9 (by kernel_rfl) ?_
  (refine am_val (fun β=>(rk_load1 (.of rfl) (At.base ca rfl))) ind0x rfl ?_;refine am_val (fun β=>(rk_move (.of rfl))) ind0x rfl ?_)
  dsimp only [Nat.zero_add,Nat.reduceAdd]
  with_reducible apply am_call (ι:=Value) (Φ:=fun _=>True) (val:=id) (own:=fun v=>[row 271 3 v (vwL a n).length (snsL (vwL a n)).flatten]) (g:=id) (B:=[]) (args:=fun _=>[.slice aa na cpa,.int .i64 n])
  case hg=>exact fun x=>⟨x,rfl⟩
  case hB=>rfl
  case hr=>exact fun β=>rk_call (.of rfl) (.cons (.of rfl) (.cons (.of rfl) .nil)) inferInstance rfl
  case hd=>rfl
  case hc=>exact fun β w' hb'=>view_c (ha.keeps hb'.mem.keeps) hsa
  dsimp only [id_eq,Nat.reduceAdd]
  (refine am_val (fun β=>(rk_load1 (.of rfl) (At.base cb rfl))) ind0x rfl ?_;refine am_val (fun β=>(rk_move (.of rfl))) ind0x rfl ?_)
  dsimp only [Nat.reduceAdd]
  with_reducible apply am_call (ι:=Value) (Φ:=fun _=>True) (val:=id) (own:=fun v=>[row 271 3 v (vwL b n).length (snsL (vwL b n)).flatten]) (g:=id) (B:=[]) (args:=fun _=>[.slice ab nb cpb,.int .i64 n])
  case hg=>exact fun x=>⟨x,rfl⟩
  case hB=>rfl
  case hr=>exact fun β=>rk_call (.of rfl) (.cons (.of rfl) (.cons (.of rfl) .nil)) inferInstance rfl
  case hd=>rfl
  case hc=>exact fun β w' hb'=>view_c (hb.keeps hb'.mem.keeps) hsb
  dsimp only [id_eq,Nat.reduceAdd]
  with_reducible apply am_callV (B:=[2,5]) (F:=fun _=>.bool (decide (vwL a n = vwL b n))) (args:=fun β=>[β 2,β 5,.func (.func 171) #[] #[]])
  case hB=>kernel_rfl
  case hr=>exact fun β=>rk_call (.of rfl) (.cons (.of rfl) (.cons (.of rfl) (.cons (.of rfl) .nil))) inferInstance rfl
  case hi=>exact ind0x
  case hd=>rfl
  case hc=>
    intro β w' hb'
    have m2:=hb'.at 2 (by simp) (s:=⟨fun β=>β 2,fun β=>[row 271 3 (β 2) (vwL a n).length (snsL (vwL a n)).flatten]⟩) (by kernel_rfl)
    have m5:=hb'.at 5 (by simp) (s:=⟨fun β=>β 5,fun β=>[row 271 3 (β 5) (vwL b n).length (snsL (vwL b n)).flatten]⟩) (by kernel_rfl)
    dsimp only [List.cons_append,List.nil_append] at m2 m5
    exact eqSn_c (rdSns m2 (by exact .here) rfl) (rdSns m5 (by exact .here) rfl)
  (refine am_val (fun β=>(rk_not (.of rfl))) ind0x rfl ?_;refine am_val (fun β=>(rk_assign (.of rfl))) ind0x rfl ?_)
  refine am_end fun β=>?_
  dsimp only [resAll,List.nil_append,List.cons_append,List.append_eq,Nat.reduceAdd]
  with_reducible refine left_done (by kernel_rfl) ?_
  (refine tr_then ?_;refine tr_ret ?_;refine tr_retE rfl (ends1 rfl rfl) ?_)
  unfold dfB
  rw [decide_not]
end Go.Proofs.A1
namespace Go.SL
open Go
theorem Mem.takeGives {c:Cx} {As hs':List Asn} {w:World} (hm:Mem c (As++hs') w):∃ fp:List Nat,fp.Nodup ∧ Sats (hp w) As fp ∧
    ∀ (Bs:List Asn) (w':World),Keeps fp w w' → (∃ fp':List Nat,fp'.Nodup ∧ Sats (hp w') Bs fp' ∧ ∀ b ∈ fp',b ∈ fp ∨ w.heap.size ≤ b) → Mem c (Bs++hs') w':=by
  obtain ⟨kk,fp,hn,hsat,hb⟩:=hm
  obtain ⟨f1,f2,rfl,h1,h2⟩:=Sats.append_iff.1 hsat
  obtain ⟨n1,n2,n12⟩:=List.nodup_append.1 hn
  refine ⟨f1,n1,h1,fun Bs w' hk ⟨fp',hn',hs',hf'⟩=>?_⟩
  have hlt:∀ b ∈ f2,b < w.heap.size:=fun b hb'=>let ⟨o,ho⟩:=h2.own b hb';hp_lt ho
  refine ⟨?_,fp'++f2,?_,Sats.append_iff.2 ⟨fp',f2,rfl,hs',h2.loc fun b hb'=>?_⟩,?_⟩
  · refine ⟨hk.os.trans kk.os,hk.tape.trans kk.tape,hk.output.trans kk.output,Nat.le_trans kk.size hk.size,fun b hb' hm=>?_⟩
    rw [← kk.block b hb' hm]
    refine hk.block b (Nat.lt_of_lt_of_le hb' kk.size) (fun hf=>?_)
    rcases hb b (List.mem_append_left _ hf) with h | h
    · omega
    · exact hm h
  · refine List.nodup_append.2 ⟨hn',n2,fun x hx y hy e=>?_⟩
    subst e
    rcases hf' x hx with h | h
    · exact n12 x h x hy rfl
    · have:=hlt x hy;omega
  · exact hk.block b (hlt b hb') (fun hf=>n12 b hf b hb' rfl)
  · intro b hb'
    rcases List.mem_append.1 hb' with h | h
    · rcases hf' b h with h | h
      · exact hb b (List.mem_append_left _ h)
      · exact .inl (Nat.le_trans kk.size h)
    · exact hb b (List.mem_append_right _ h)
theorem resF_split {β:Nat → Value} (p q:Nat → Bool):∀ (S:List StepP) (i:Nat),(resF β p S i).Perm (resF β (fun j=>p j && q j) S i++resF β (fun j=>p j && !q j) S i)
  | [],_=>.nil
  | s :: S, i => by
    have ih:=resF_split (β:=β) p q S (i + 1)
    unfold resF
    cases hp:p i <;> cases hq:q i <;> simp only [Bool.and_true,Bool.and_false,Bool.not_true,Bool.not_false,Bool.false_and,Bool.true_and,if_true,if_false,List.nil_append,reduceIte]
    · simpa using ih
    · simpa using ih
    · simp only [Bool.false_eq_true,if_false,List.nil_append]
      refine (ih.append_left _).trans ?_
      rw [← List.append_assoc,← List.append_assoc]
      exact List.perm_append_comm.append_right _
    · simp only [Bool.false_eq_true,if_false,List.nil_append]
      rw [List.append_assoc]
      exact ih.append_left _
theorem resF_cut {β:Nat → Value} {q:Nat → Bool}:∀ {S:List StepP} {n i:Nat},(∀ j,i + n ≤ j → q j = false) → resF β q S i = resF β q (S.take n) i
  | [],n,i,_=>by rw [List.take_nil]
  | s :: S, 0, i, h => by
    rw [List.take_zero]
    unfold resF
    rw [h i (by omega),resF_cut (n:=0) fun j hj=>h j (by omega),List.take_zero];rfl
  | s :: S, n + 1, i, h => by
    rw [List.take_succ_cons]
    unfold resF
    rw [resF_cut (n:=n) (i:=i + 1) fun j hj=>h j (by omega)]
def waitsT (l:List Oper) (o:Oper) (j:Nat):Bool:=waitsOn o j || (List.range l.length).any fun k=>waitsOn o k && (match l[k]? with | some q=>waitsOn q j | none=>false)
def pk (tk:Nat → Nat) (lst:Nat → Bool) (j:Nat):Bool:=lst j && !(Nat.blt 0 (tk j) && lst (tk j))
def takenB (tk:Nat → Nat) (i j:Nat):Bool:=Nat.blt 0 i && Nat.beq (tk j) i
section
variable {P:Program} {c:Cx} {D:List Nat} {sl:Slots} {hs:List Asn} {Q:Exit → Act → World → Prop} {l:List Oper} {m:Nat} {tk:Nat → Nat}
def MOutK (i:Nat) (s:StepP) (β:Nat → Value) (w:World) (fp0:List Nat) (v:Value) (w':World):Prop:=∃ x,v = s.F (upd β i x) ∧ Keeps fp0 w w' ∧ ∃ fp:List Nat,fp.Nodup ∧ Sats (hp w') (s.A (upd β i x)) fp ∧ ∀ b ∈ fp,b ∈ fp0 ∨ w.heap.size ≤ b
structure StepK (P:Program) (c:Cx) (hs:List Asn) (l:List Oper) (tk:Nat → Nat) (i:Nat) (o:Oper) (SL:(Nat → Value) → Slots) (S:List StepP) (s:StepP):Prop where
  indF:Indep l i s.F
  indA:Indep l i s.A
  run:∃ B:List Nat,(∀ j ∈ B,waitsT l o j = true ∧ tk j = 0) ∧ ∀ β a w fp0,SlotsOk (SL β) a → Borrow c hs S B β w → Sats (hp w) (resF β (takenB tk i) S 0) fp0 → if Region.wanted o (yielded l.toArray a.tmps) = true then MRun P o a w (MOutK i s β w fp0) else MOutK i s β w fp0 undef w
  waits:∀ j,tk j = i → 0 < i → waitsOn o j = true
inductive PlanK (P:Program) (c:Cx) (hs:List Asn) (l:List Oper) (tk:Nat → Nat):Nat → List Oper → ((Nat → Value) → Slots) → List StepP → List StepP → ((Nat → Value) → Slots) → Prop
  | nil {i:Nat} {SL:(Nat → Value) → Slots} {S:List StepP}:PlanK P c hs l tk i [] SL S S SL
  | step {i d:Nat} {o:Oper} {rest:List Oper} {SL SL':(Nat → Value) → Slots} {S S':List StepP} {s:StepP} (hd:o.dst = some d) (hdn:d < c.nt) (h:StepK P c hs l tk i o SL S s)
      (t:PlanK P c hs l tk (i + 1) rest (fun β=>(d,s.F β) :: SL β) (S++[s]) S' SL'):PlanK P c hs l tk i (o :: rest) SL S S' SL'
theorem PlanK.spec {i:Nat} {rest:List Oper} {SL SL':(Nat → Value) → Slots} {S S':List StepP} (h:PlanK P c hs l tk i rest SL S S' SL'):∀ pre:List Oper,pre.length = i → S.length = i → PreOk sl pre SL S →
    S'.length = i + rest.length ∧ S <+: S' ∧ PreOk sl (pre++rest) SL' S' ∧ ∀ k o,i ≤ k → (pre++rest)[k]? = some o → ∃ d SLk s,o.dst = some d ∧ d < c.nt ∧ S'[k]? = some s ∧ PreOk sl ((pre++rest).take k) SLk (S'.take k) ∧ StepK P c hs l tk k o SLk (S'.take k) s:=by
  induction h with
  | @nil i SL S =>
    intro pre hp hS hpre
    refine ⟨by simpa using hS,List.prefix_rfl,by simpa using hpre,fun k o hk ho=>?_⟩
    have:=(List.getElem?_eq_some_iff.1 ho).1
    simp at this;omega
  | @step i d o rest SL SL' S S' s hd hdn hst t ih =>
    intro pre hp hS hpre
    obtain ⟨h1,h2,h3,h4⟩:=ih (pre++[o]) (by simp [hp]) (by simp [hS]) (hpre.step (by omega) hd)
    rw [List.append_assoc,List.singleton_append] at h3 h4
    have hpx:S <+: S':=(List.prefix_append S [s]).trans h2
    have hSi:S'[i]? = some s:=by
      obtain ⟨r,rfl⟩:=h2
      rw [List.append_assoc,List.getElem?_append_right (by omega),hS];simp
    have hSt:S'.take i = S:=by
      obtain ⟨r,rfl⟩:=hpx
      rw [← hS];simp
    refine ⟨by rw [h1];simp;omega,hpx,h3,fun k ok hk ho=>?_⟩
    by_cases e:k = i
    · subst e
      have ho':ok = o:=by
        rw [List.getElem?_append_right (by omega),hp] at ho
        simpa using ho.symm
      subst ho'
      have htk:(pre++ok :: rest).take k = pre:=by rw [← hp];simp
      rw [htk,hSt]
      exact ⟨d,SL,s,hd,hdn,hSi,hpre,hst⟩
    · exact h4 k ok (by omega) ho
structure InvK (c:Cx) (D:List Nat) (hs:List Asn) (l:List Oper) (tk:Nat → Nat) (m:Nat) (S:List StepP) (a0:Act) (fuel:Nat) (listed:Array Bool) (a:Act) (w:World):Prop where
  sz:listed.size = l.length
  dc:DC l (Ls listed)
  hi:∀ k,m ≤ k → ¬ Ls listed k
  defers:a.defers = D.map mark
  size:a.tmps.size = c.nt
  old:∀ t,(∀ (j:Nat) (o:Oper),l[j]? = some o → Ls listed j → o.dst ≠ some t) → a.tmps[t]? = a0.tmps[t]?
  left:∃ U:List Nat,U.Nodup ∧ (∀ i,i ∈ U ↔ i < l.length ∧ ¬ Ls listed i) ∧ U.length = fuel
  own:∃ β:Nat → Value,Mem c (resF β (pk tk (fun i=>listed.getD i false)) S 0++(hs++mks D)) w ∧ ∀ (j:Nat) (o:Oper) (d:Nat) (s:StepP),l[j]? = some o → o.dst = some d → S[j]? = some s → Ls listed j → a.tmps[d]? = some (s.F β)
theorem phaseK {p:Nat} (hc:ChkL l m p) (hpx:p < m → PureAt l p) (hQp:∀ c a w,¬ Q (.panic c) a w) {S:List StepP} {SL':(Nat → Value) → Slots} (hpM:PlanK P c hs l tk 0 (l.take m) (fun _=>sl) [] S SL') {a0:Act} (h0:SlotsOk sl a0) (hn0:a0.tmps.size = c.nt)
    (tail:∀ β a w,St c D (SL' β) (resF β (pk tk (fun i=>Nat.blt i m)) S 0++hs) a w → wpAnyIn (FR none) 0 P .any l.toArray Q (l.length - m) (Lend l.length m) a w) :
    ∀ (fuel:Nat) (listed:Array Bool) (a:Act) (w:World),InvK c D hs l tk m S a0 fuel listed a w → wpAnyIn (FR none) 0 P .any l.toArray Q fuel listed a w:=by
  have hle:=hc.le
  have hp0:PreOk sl [] (fun _=>sl) []:=fun β t v hv=>.inr ⟨fun oj h=>(List.not_mem_nil h).elim,hv⟩
  obtain ⟨hSlen,_,hpre,hstep⟩:=hpM.spec (sl:=sl) [] rfl rfl hp0
  rw [List.nil_append] at hpre hstep
  rw [Nat.zero_add,List.length_take,Nat.min_eq_left hle] at hSlen
  have htake:∀ (j:Nat) (o:Oper),j < m → l[j]? = some o → (l.take m)[j]? = some o:=fun j o hj ho=>by rw [List.getElem?_take,if_pos hj];exact ho
  have htake':∀ (j:Nat) (o:Oper),(l.take m)[j]? = some o → j < m ∧ l[j]? = some o:=fun j o ho=>by
    rw [List.getElem?_take] at ho
    split at ho
    · exact ⟨by assumption,ho⟩
    · cases ho
  have hSget:∀ j,j < m → ∃ s,S[j]? = some s:=fun j hj=>⟨S[j]'(by omega),List.getElem?_eq_getElem (by omega)⟩
  have hfin:∀ fuel listed a w,InvK c D hs l tk m S a0 fuel listed a w → (∀ i,i < m → Ls listed i) → wpAnyIn (FR none) 0 P .any l.toArray Q fuel listed a w:=by
    intro fuel listed a w hI hall
    have hL:∀ i,i < l.length → (Ls listed i ↔ i < m):=fun i _=>⟨fun h=>Nat.lt_of_not_le fun hm=>hI.hi i hm h,hall i⟩
    obtain ⟨U,hU1,hU2,hU3⟩:=hI.left
    have hperm:U.Perm (List.range' m (l.length - m)):=by
      rw [List.perm_ext_iff_of_nodup hU1 (List.nodup_range')]
      intro i
      rw [hU2 i,List.mem_range'_1]
      constructor
      · rintro ⟨h1,h2⟩
        exact ⟨Nat.le_of_not_lt fun h=>h2 (hall i h),by omega⟩
      · rintro ⟨h1,h2⟩
        exact ⟨by omega,hI.hi i h1⟩
    have hlen:fuel = l.length - m:=by rw [← hU3,hperm.length_eq,List.length_range']
    have hlst:listed = Lend l.length m:=by
      have hsz2:(Lend l.length m).size = l.length:=by simp [Lend];omega
      apply Array.ext
      · rw [hI.sz,hsz2]
      · intro i h1 h2
        rw [hI.sz] at h1
        have h3:=hL i h1
        unfold Ls at h3
        rw [Array.getD_eq_getD_getElem?,Array.getElem?_eq_getElem (by rw [hI.sz];exact h1),Option.getD_some] at h3
        have h4:(Lend l.length m)[i] = decide (i < m):=by
          simp only [Lend,List.getElem_toArray]
          by_cases hi:i < m
          · rw [List.getElem_append_left (by simpa using hi)];simp [hi]
          · rw [List.getElem_append_right (by simpa using hi)];simp [hi]
        rw [h4]
        by_cases hi:i < m
        · rw [h3.2 hi];simp [hi]
        · have:¬ listed[i] = true:=fun h=>hi (h3.1 h)
          simp [hi,this]
    subst hlen
    rw [hlst]
    obtain ⟨β,hm,hval⟩:=hI.own
    have hll:∀ i,listed.getD i false = Nat.blt i m:=fun i=>by
      by_cases hi:i < m
      · rw [show Nat.blt i m = true from by simpa [Nat.blt_eq] using hi];exact hall i hi
      · have h1:¬ listed.getD i false = true:=hI.hi i (by omega)
        have h2:¬ Nat.blt i m = true:=by simpa [Nat.blt_eq] using hi
        rw [Bool.not_eq_true] at h1 h2
        rw [h1,h2]
    have e:resF β (pk tk (fun i=>listed.getD i false)) S 0 = resF β (pk tk (fun i=>Nat.blt i m)) S 0:=resF_same fun j s hj=>⟨by unfold pk;simp only [hll],fun _=>rfl⟩
    rw [e] at hm
    refine tail β a w ⟨by rw [List.append_assoc];exact hm,fun t v hv=>?_,hI.size,hI.defers⟩
    rcases hpre β t v hv with ⟨j,oj,s,h1,h2,h3,h4⟩ | ⟨h1,h2⟩
    · obtain ⟨hjm,hj'⟩:=htake' j oj h1
      rw [h4];exact hval j oj t s hj' h2 h3 (hall j hjm)
    · rw [hI.old t fun j oj hj hLj=>h1 oj (List.mem_of_getElem? (htake j oj (Nat.lt_of_not_le fun hm=>hI.hi j hm hLj) hj))]
      exact h0 t v h2
  intro fuel
  induction fuel with
  | zero =>
    intro listed a w hI
    obtain ⟨U,_,hU2,hU3⟩:=hI.left
    have hU:U = []:=List.length_eq_zero_iff.1 hU3
    refine hfin 0 listed a w hI fun i hi=>Classical.byContradiction fun hn=>?_
    have:=(hU2 i).2 ⟨by omega,hn⟩
    rw [hU] at this;cases this
  | succ fuel ih =>
    intro listed a w hI
    by_cases hall:∀ i,i < m → Ls listed i
    · exact hfin _ listed a w hI hall
    · have hex:∃ i,i < m ∧ ¬ Ls listed i:=Classical.byContradiction fun hh=>hall fun i hi=>Classical.byContradiction fun hn=>hh ⟨i,hi,hn⟩
      obtain ⟨i0,hi0,hn0'⟩:=hex
      have main:∀ i,i ∈ Region.ready .any l.toArray listed → i < m → wpOpIn (FR none) 0 P l.toArray Q i (wpAnyIn (FR none) 0 P .any l.toArray Q fuel (listed.setIfInBounds i true)) a w ∧ (i = p → wpAnyIn (FR none) 0 P .any l.toArray Q (fuel + 1) listed a w):=by
        intro i hi him
        obtain ⟨o,ho,hn,hdeps⟩:=(mem_ready' hI.sz).1 hi
        obtain ⟨d,SLk,s,hd,hdn,hSi,hprek,hok⟩:=hstep i o (Nat.zero_le _) (htake i o him ho)
        obtain ⟨indF,indA,⟨B,hB,hrun⟩,hwaits⟩:=hok
        obtain ⟨β,hm,hval⟩:=hI.own
        have hwait:∀ (j:Nat),waitsOn o j = true → Ls listed j:=fun j hw=>by
          obtain ⟨e,he,hb,hon⟩:=waitsOn_spec hw
          rw [← hon];exact hdeps e he hb
        have hwaitT:∀ (j:Nat),waitsT l o j = true → Ls listed j:=fun j hw=>by
          unfold waitsT at hw
          rw [Bool.or_eq_true] at hw
          rcases hw with hw | hw
          · exact hwait j hw
          · obtain ⟨k,_,hk⟩:=List.any_eq_true.1 hw
            rw [Bool.and_eq_true] at hk
            have hLk:=hwait k hk.1
            cases hq:l[k]? with
            | none=>rw [hq] at hk;cases hk.2
            | some q =>
              rw [hq] at hk
              obtain ⟨e,he,hb,hon⟩:=waitsOn_spec hk.2
              rw [← hon]
              exact hI.dc k q hq hLk e he hb
        have hdist:∀ (j:Nat) (oj:Oper) (e:Nat),l[j]? = some oj → j < m → j ≠ i → oj.dst = some e → d ≠ e:=by
          intro j oj e hj hjm hne he
          rcases Nat.lt_or_ge j i with h | h
          · exact fun e'=>(pair_spec (pair_atL hc h him hj ho) he hd).1 e'.symm
          · exact (pair_spec (pair_atL hc (show i < j by omega) hjm ho hj) hd he).1
        have hil:i < listed.size:=by rw [hI.sz];omega
        have hoo:opOk o = true:=hc.op o (List.mem_of_getElem? ho)
        -- the slots that the operation looks at
        have hT:∀ t ∈ o.looksAt l.toArray,∀ v,sget (SLk β) t = some v → a.tmps[t]? = some v:=by
          intro t ht v hv
          rcases hprek β t v hv with ⟨j,oj,sj,h1,h2,h3,h4⟩ | ⟨h1,h2⟩
          · have hji:j < i:=by have:=(List.getElem?_eq_some_iff.1 h1).1;rw [List.length_take] at this;omega
            rw [List.getElem?_take,if_pos hji] at h1 h3
            obtain ⟨hjm,hj'⟩:=htake' j oj h1
            have hLj:=hwait j ((pair_spec (pair_atL hc hji him hj' ho) h2 hd).2 (.inl ht))
            rw [h4];exact hval j oj t sj hj' h2 h3 hLj
          · rw [hI.old t fun j oj hj hLj hdj=>?_]
            · exact h0 t v h2
            · have hjm:j < m:=Nat.lt_of_not_le fun hm=>hI.hi j hm hLj
              rcases Nat.lt_trichotomy j i with h | h | h
              · exact h1 oj (List.mem_of_getElem? (by rw [List.getElem?_take,if_pos h];exact htake j oj hjm hj)) hdj
              · subst h;exact hn hLj
              · have hw:=(pair_spec (pair_atL hc h hjm ho hj) hd hdj).2 (.inr ht)
                obtain ⟨e,he,hb,hon⟩:=waitsOn_spec hw
                have:=hI.dc j oj hj hLj e he hb
                rw [hon] at this
                exact hn this
        have hkey:∀ t v,sget (SLk β) t = some v → t < c.nt:=by
          intro t v hv
          rcases hprek β t v hv with ⟨j,oj,sj,h1,h2,_,_⟩ | ⟨_,h2⟩
          · have hji:j < i:=by have:=(List.getElem?_eq_some_iff.1 h1).1;rw [List.length_take] at this;omega
            rw [List.getElem?_take,if_pos hji] at h1
            obtain ⟨d',_,_,hd',hdn',_⟩:=hstep j oj (Nat.zero_le _) h1
            rw [h2] at hd';cases hd'
            exact hdn'
          · have:=h0 t v h2
            rw [← hn0]
            exact (Array.getElem?_eq_some_iff.1 this).1
        obtain ⟨a',ha1,ha2,_⟩:=fill_act hI.size hkey hT
        have hbor:Borrow c hs (S.take i) B β w:=by
          rintro A (rfl | ⟨j,hj,sj,h1,rfl⟩)
          · exact hm.sublist ((List.sublist_append_left _ _).trans (List.sublist_append_right _ _))
          · have hji:j < i:=by have:=(List.getElem?_eq_some_iff.1 h1).1;rw [List.length_take] at this;omega
            rw [List.getElem?_take,if_pos hji] at h1
            have hLj:=hwaitT j (hB j hj).1
            exact hm.sublist ((resF_sub (lst:=pk tk (fun i=>listed.getD i false)) (i:=0) h1 (by rw [Nat.zero_add];unfold pk;dsimp only;rw [(hB j hj).2,show listed.getD j false = true from hLj];rfl)).append (List.sublist_append_left _ _))
        have hli:listed.getD i false = false:=by have h:¬ listed.getD i false = true:=hn;simpa using h
        have htw:∀ j,takenB tk i j = true → waitsOn o j = true:=fun j h=>by
          unfold takenB at h
          rw [Bool.and_eq_true] at h
          exact hwaits j (by simpa using h.2) (by simpa [Nat.blt_eq] using h.1)
        have htj:∀ j,takenB tk i j = true → j < i:=fun j h=>by
          obtain ⟨e,he,hb,hon⟩:=waitsOn_spec (htw j h)
          have:=acyc_spec hc.ac ho e he hb
          omega
        have hpk:∀ j,takenB tk i j = true → pk tk (fun i=>listed.getD i false) j = true:=fun j h=>by
          have h1:listed.getD j false = true:=hwait j (htw j h)
          have h2:tk j = i:=by unfold takenB at h;rw [Bool.and_eq_true] at h;simpa using h.2
          unfold pk;dsimp only
          rw [h1,h2,hli]
          simp
        have etk:resF β (fun j=>pk tk (fun i=>listed.getD i false) j && takenB tk i j) S 0 = resF β (takenB tk i) (S.take i) 0:=by
          rw [resF_cut (n:=i) fun j hj=>by
            rw [Nat.zero_add] at hj
            cases ht:takenB tk i j with
            | false=>rw [Bool.and_false]
            | true=>have:=htj j ht;omega]
          refine resF_same fun j sj _=>⟨?_,fun _=>rfl⟩
          rw [Nat.zero_add]
          cases ht:takenB tk i j with
          | false=>rw [Bool.and_false]
          | true=>rw [hpk j ht];rfl
        have hmS:=hm.perm ((resF_split (β:=β) (pk tk (fun i=>listed.getD i false)) (takenB tk i) S 0).append_right _)
        rw [List.append_assoc,etk] at hmS
        obtain ⟨fp0,_,hsat0,hgive⟩:=Mem.takeGives hmS
        have hq:=hrun β a' w fp0 ha1 hbor hsat0
        have hex:=exec_of_same (o:=o) (ops:=l.toArray) hoo ha2
        -- what a done operation says does not hang on this one
        have hdone:∀ j,Ls listed j → ∀ x k,ancB l j k = true → β k = upd β i x k:=by
          intro j hLj x k hk
          refine (upd_ne fun e=>?_).symm
          subst e
          unfold ancB at hk
          rw [Bool.or_eq_true] at hk
          rcases hk with hk | hk
          · have:j = k:=by simpa using hk
            subst this;exact hn hLj
          · have hjl:j < l.length:=by
              have hjm:j < m:=Nat.lt_of_not_le fun hm=>hI.hi j hm hLj
              omega
            exact hn (masks_sound hI.dc hc.ac j hjl hLj k hk)
        have hnext:∀ v w',MOutK i s β w fp0 v w' → wpAnyIn (FR none) 0 P .any l.toArray Q fuel (listed.setIfInBounds i true) (a.put o.dst v) w':=by
          rintro v w' ⟨x,rfl,hk,fp,hnd,hsat,hfr⟩
          refine ih _ _ _ ⟨by simpa using hI.sz,?_,?_,by rw [hd];exact hI.defers,by simpa [Act.put,hd] using hI.size,?_,?_,upd β i x,?_,?_⟩
          · intro k ok hk' hL e he hb
            rw [getD_set hil] at hL ⊢
            rcases hL with e' | hL
            · subst e'
              rw [ho] at hk';cases hk'
              exact .inr (hdeps e he hb)
            · exact .inr (hI.dc k ok hk' hL e he hb)
          · intro k hk' hL
            rw [getD_set hil] at hL
            rcases hL with e | hL
            · omega
            · exact hI.hi k hk' hL
          · intro t ht
            have h1:d ≠ t:=fun e=>by subst e;exact ht i o ho ((getD_set hil).2 (.inl rfl)) hd
            rw [hd]
            simp only [Act.put,Array.getElem?_setIfInBounds_ne h1]
            exact hI.old t fun j oj hj hL=>ht j oj hj ((getD_set hil).2 (.inr hL))
          · obtain ⟨U,hU1,hU2,hU3⟩:=hI.left
            refine ⟨U.erase i,hU1.erase i,fun k=>?_,?_⟩
            · rw [hU1.mem_erase_iff,hU2 k,getD_set hil]
              constructor
              · rintro ⟨h1,h2,h3⟩
                exact ⟨h2,fun h=>h.elim h1 h3⟩
              · rintro ⟨h1,h2⟩
                exact ⟨fun e=>h2 (.inl e),h1,fun h=>h2 (.inr h)⟩
            · have hiU:i ∈ U:=(hU2 i).2 ⟨by omega,hn⟩
              rw [List.length_erase_of_mem hiU,hU3];rfl
          · have hm2:=hgive _ w' hk ⟨fp,hnd,hsat,hfr⟩
            have e1:resF β (fun j=>pk tk (fun i=>listed.getD i false) j && !takenB tk i j) S 0 = resF (upd β i x) (fun j=>pk tk (fun i=>listed.getD i false) j && !takenB tk i j) S 0:=resF_same fun j sj hj=>by
              refine ⟨rfl,fun hl=>?_⟩
              rw [Nat.zero_add] at hl
              have hl:listed.getD j false = true:=by
                unfold pk at hl
                simp only [Bool.and_eq_true] at hl
                exact hl.1.1
              have hjm:j < m:=by have:=(List.getElem?_eq_some_iff.1 hj).1;omega
              obtain ⟨oj,hoj⟩:∃ oj,l[j]? = some oj:=⟨l[j]'(by omega),List.getElem?_eq_getElem (by omega)⟩
              obtain ⟨_,_,s2,_,_,hs2,_,hok2⟩:=hstep j oj (Nat.zero_le _) (htake j oj hjm hoj)
              rw [hj] at hs2;cases hs2
              exact hok2.indA _ _ (hdone j hl x)
            rw [e1,← List.append_assoc] at hm2
            have hset:∀ k,(listed.setIfInBounds i true).getD k false = (listed.getD k false || Nat.beq k i):=fun k=>by
              by_cases hki:k = i
              · subst hki
                rw [show Nat.beq k k = true by simp,Bool.or_true]
                exact (getD_set hil).2 (.inl rfl)
              · rw [show Nat.beq k i = false from Bool.eq_false_iff.2 fun h=>hki (Nat.eq_of_beq_eq_true h),Bool.or_false]
                simp [Array.getD_eq_getD_getElem?,Array.getElem?_setIfInBounds_ne (Ne.symm hki)]
            refine hm2.perm ((resF_add (k:=i) hSi ?_ ?_ ?_).append_right _)
            · rw [Nat.zero_add]
              unfold pk;dsimp only
              rw [hli];rfl
            · rw [Nat.zero_add]
              unfold pk;dsimp only
              rw [hset,show Nat.beq i i = true by simp,Bool.or_true,Bool.true_and]
              by_cases ht0:tk i = 0
              · rw [ht0];rfl
              · have htp:0 < tk i:=Nat.pos_of_ne_zero ht0
                have hnl:listed.getD (tk i) false = false:=by
                  cases hh:listed.getD (tk i) false with
                  | false=>rfl
                  | true =>
                    exfalso
                    have hLt:Ls listed (tk i):=hh
                    have htm:tk i < m:=Nat.lt_of_not_le fun hm=>hI.hi _ hm hLt
                    obtain ⟨ot,hot⟩:∃ ot,l[tk i]? = some ot:=⟨l[tk i]'(by omega),List.getElem?_eq_getElem (by omega)⟩
                    obtain ⟨_,_,_,_,_,_,_,hokt⟩:=hstep (tk i) ot (Nat.zero_le _) (htake _ ot htm hot)
                    obtain ⟨e,he,hb,hon⟩:=waitsOn_spec (hokt.waits i rfl htp)
                    have:=hI.dc (tk i) ot hot hLt e he hb
                    rw [hon] at this
                    exact hn this
                have hne:Nat.beq (tk i) i = false:=by
                  cases hh:Nat.beq (tk i) i with
                  | false=>rfl
                  | true =>
                    exfalso
                    have e:tk i = i:=by simpa using hh
                    have:=htj i (by unfold takenB;rw [hh,Bool.and_true];rw [e] at htp;simpa [Nat.blt_eq] using htp)
                    omega
                rw [hset,hnl,hne];simp
            · intro j hj
              rw [Nat.zero_add] at hj
              unfold pk;dsimp only
              rw [hset,hset,show Nat.beq j i = false from Bool.eq_false_iff.2 fun h=>hj (Nat.eq_of_beq_eq_true h),Bool.or_false]
              unfold takenB
              cases h1:Nat.beq (tk j) i with
              | false=>simp
              | true =>
                have e:tk j = i:=by simpa using h1
                rw [e,hli]
                cases Nat.blt 0 i <;> simp
          · intro j oj e sj hj he hSj hL
            rw [getD_set hil] at hL
            by_cases hji:j = i
            · subst hji
              rw [ho] at hj;cases hj
              rw [hd] at he;cases he
              rw [hSi] at hSj;cases hSj
              rw [hd]
              simp [Act.put,hI.size,hdn]
            · have hL':=hL.resolve_left hji
              have hjm:j < m:=Nat.lt_of_not_le fun hm=>hI.hi j hm hL'
              obtain ⟨_,_,s2,_,_,hs2,_,hok2⟩:=hstep j oj (Nat.zero_le _) (htake j oj hjm hj)
              rw [hSj] at hs2;cases hs2
              rw [hd]
              simp only [Act.put,Array.getElem?_setIfInBounds_ne (hdist j oj e hj hjm hji he)]
              rw [← hok2.indF _ _ (hdone j hL' x)]
              exact hval j oj e sj hj he hSj hL'
        have hq0:=hq
        refine ⟨?_,fun hip=>?_⟩
        rotate_left
        · subst hip
          obtain ⟨d',x',k',ty',pos',af',hl',hsel,hfree⟩:=hpx him
          rw [ho] at hl';cases hl'
          rw [if_pos (by simp [Region.wanted])] at hq0
          unfold MRun at hq0
          obtain ⟨v,hv,hall2⟩:=ext_pure hq0
          have hfr:Region.free .any l.toArray listed i = true:=free_mono hfree fun j hj hne hb=>by
            have hj':j < l.length:=by simpa using hj
            have hb':((masks l []).getD i 0).testBit j = true:=by
              rw [Array.getD_eq_getD_getElem?] at hb
              simpa [hj'] using hb
            have hjs:j < listed.size:=by rw [hI.sz];exact hj'
            rcases ready_anc hc.ac hI.sz hI.dc hi hb' with e | hL
            · exact absurd e hne
            · unfold Ls at hL
              rw [Array.getD_eq_getD_getElem?,Array.getElem?_eq_getElem hjs] at hL ⊢
              exact hL
          refine wpAnyIn_take (oi:=⟨some d',.extract x' k',ty',pos',af',none⟩) (v:=v) rfl (by simpa using ho) hsel hfr (by simpa using hi) (fun c a w h=>(hQp c _ w h).elim) ⟨.inl ⟨by simp [Region.wanted],fun w2=>by rw [← hex];exact hall2 w2⟩,fun w2=>rfl⟩ (hnext v w hv)
        unfold wpOpIn
        rw [show l.toArray[i]? = some o from by simpa using ho]
        simp only []
        rw [wanted_of_same ha2] at hq
        split
        · rename_i hw
          rw [if_pos hw] at hq
          refine ⟨fr_about _ _ _ _ _,?_⟩
          rw [Oper.semAt_eq _ _ _ (fun cc he=>by simp [opOk,he] at hoo),← hex]
          unfold MRun at hq
          revert hq
          generalize (execOp a'.eval o).run P w = res
          intro hq
          match res,hq with
          | .ok (.value v) w',hq=>exact hnext v w' hq
          | .ok (.enter f args) w', ⟨e, hcall⟩ =>
            subst e
            refine ⟨by simp [FR,Fence.wide],(calls_wide hcall).mono fun e w'' h=>?_⟩
            obtain ⟨v,rfl,hq⟩:=h
            exact hnext v w'' hq
        · rename_i hw
          rw [if_neg hw] at hq
          exact ⟨fun _ _=>trivial,hnext undef w hq⟩
      by_cases hp:p < m ∧ p ∈ Region.ready .any l.toArray listed
      · exact (main p hp.2 hp.1).2 rfl
      · refine ⟨fun hr=>?_,fun i hi=>?_⟩
        · obtain ⟨i,hi⟩:=least_ready hI.sz hc.ac ⟨i0,by omega,hn0'⟩
          rw [hr] at hi;cases hi
        · have him:i < m:=Nat.lt_of_not_le fun hm=>by
            have hmk:=ready_maskL hc hI.sz hI.dc hi hm
            by_cases hpm:p < m
            · by_cases hLp:Ls listed p
              · exact hn0' (by
                  by_cases e:i0 = p
                  · rw [e];exact hLp
                  · exact hmk i0 hi0 e)
              · refine hp ⟨hpm,(mem_ready' hI.sz).2 ⟨l[p]'(by omega),List.getElem?_eq_getElem (by omega),hLp,fun e he hb=>?_⟩⟩
                have hlt:=acyc_spec hc.ac (List.getElem?_eq_getElem (show p < l.length by omega)) e he hb
                exact hmk e.on (by omega) (by omega)
            · exact hn0' (hmk i0 hi0 (by omega))
          exact (main i hi him).1
def AnyK (tk:Nat → Nat) (P:Program) (c:Cx) (D:List Nat) (hs:List Asn) (l:List Oper) (Q:Exit → Act → World → Prop) (m i n:Nat) (rest:List Oper) (SL:(Nat → Value) → Slots) (S:List StepP):Prop:=
  ∃ S' SL',PlanK P c hs l tk i (rest.take n) SL S S' SL' ∧ ∀ β,Tr c D (SL' β) (resF β (pk tk (fun i=>Nat.blt i m)) S' 0++hs) (Left P l.toArray Q (l.length - m) (Lend l.length m))
theorem tr_drawK {id:Nat} (m:Nat) (tk:Nat → Nat) [hmix:Mix P] (hck:regOkL l m = true) (k:AnyK tk P c D hs l Q m 0 m l (fun _=>sl) []):Tr c D sl hs (WP P none (.region id l.toArray true) Q):=fun a w hst=>by
  obtain ⟨S,SL',hp,ht⟩:=k
  have h:(Code.region id l.toArray true).wpIn (FR none) 0 P (NP Q) a w:=wpIn_region_any hmix.eq (by
    refine phaseK (tk:=tk) (p:=m) (regOkP_spec hck) (fun h=>absurd h (Nat.lt_irrefl _)) (fun c a w h=>h.elim) hp hst.slots hst.size (fun β a w hst=>ht β a w hst) l.toArray.size _ _ _ ⟨by simp,?_,?_,hst.defers,hst.size,fun t _=>rfl,?_,fun _=>undef,?_,?_⟩
    · exact fun k o _ hL=>absurd hL (not_Ls _ _)
    · exact fun k _ hL=>not_Ls _ _ hL
    · exact ⟨List.range l.length,List.nodup_range,fun i=>⟨fun h=>⟨by simpa using h,not_Ls _ _⟩,fun h=>by simpa using h.1⟩,by simp⟩
    · have e:∀ (T:List StepP) (i:Nat),resF (fun _=>undef) (pk tk (fun i=>(Array.replicate l.toArray.size false).getD i false)) T i = []:=by
        intro T
        induction T with
        | nil=>intro i;rfl
        | cons s T ih =>
          intro i
          have:=not_Ls l.toArray.size i
          unfold Ls at this
          unfold resF
          rw [if_neg (by unfold pk;simp only [Bool.and_eq_true];exact fun h=>this h.1),ih];rfl
      rw [e]
      exact hst.mem.drew
    · exact fun j o d s _ _ _ hL=>absurd hL (not_Ls _ _))
  exact wpIn_mono h fun e a' w' h=>by
    cases e with
    | panic c=>exact h.elim
    | _=>exact h
end
end Go.SL
