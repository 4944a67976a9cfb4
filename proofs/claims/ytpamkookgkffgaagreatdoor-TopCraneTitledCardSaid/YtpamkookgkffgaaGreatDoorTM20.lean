/- Parts of the proof: EW5 ES80p ES84p. -/
import Derived.Test.YtpamkookgkffgaaGreatDoorTM10
import Derived.Test.YtpamkookgkffgaaGreatDoorTM15
import Derived.Test.YtpamkookgkffgaaGreatDoorTM19
import Derived.Test.YtpamkookgkffgaaGreatDoorTM06
set_option linter.unusedSectionVars false
set_option linter.unusedVariables false
set_option linter.unusedSimpArgs false
namespace Go.Proofs.A1
open Go Go.SL
theorem cpTL_sz {es:List En} (hs:Sound es):∀ x ∈ cpTL es es.length,x.tx.size ≤ 1000000000:=fun x hx=>by
  obtain ⟨i,hi,rfl⟩:=List.mem_map.1 hx
  rw [List.mem_range] at hi
  have:=(name_in (hs.all.ok i hi).nm).2.1
  show (nth es i).nm.size ≤ 1000000000
  omega
theorem tm_at {es:List En} {i:Nat} (h:i < es.length) (cur:List Value):cellsAt ((spL es es.length).flatMap duoV++cur) (i * 2) 2 = [.int .i64 (fr es i),.int .i64 (to es i)]:=by
  rw [cellsAt_app (by rw [List.flatMap_def];rw [flat_len (sz:=2) (fun r hr=>by obtain ⟨x,_,rfl⟩:=List.mem_map.1 hr;rfl),List.length_map,spL_length];omega)]
  rw [cellsAt_eq,List.flatMap_def]
  have e:∀ t,t < 2 → (((spL es es.length).map duoV).flatten)[i * 2 + t]? = (duoV (fr es i,to es i))[t]?:=fun t ht=>by
    have e2:(duoV (fr es i,to es i))[t]? = some ((duoV (fr es i,to es i))[t]'(by exact ht)):=List.getElem?_eq_getElem (by exact ht)
    rw [e2]
    refine flatten_get (sz:=2) _ i (fun r hr=>by obtain ⟨x,_,rfl⟩:=List.mem_map.1 hr;rfl) ?_ e2
    simp [spL,h]
  apply List.ext_getElem?
  intro t
  by_cases ht:t < 2
  · rw [List.getElem?_take_of_lt ht,List.getElem?_drop,e t ht];rfl
  · rw [List.getElem?_eq_none (by rw [List.length_take];omega),List.getElem?_eq_none (by show 2 ≤ t;omega)]
theorem cpsV_next (es:List En) (k:Nat):cpsV (cpTL es (k + 1)) = cpsV (cpTL es k)++[.int .i64 (fr es k),.int .i64 (to es k),.int .i64 ((k:Int) % 2),.int .i64 0,.string (nth es k).nm]:=by
  rw [cpTL_succ,cpsV_app,show (k:Int) % 2 = ((k % 2:Nat):Int) by omega];rfl
theorem rng_set {f g:Nat → Value} {v:Value} {j:Nat} (hj:j < 8) (hv:v = g j) (ho:∀ r,r ≠ j → f r = g r):setCells ((List.range 8).map f) (j * 1) [v] = (List.range 8).map g:=by
  apply List.ext_getElem?
  intro k
  rw [setCells_get _ _ _ _ (by rw [List.length_map,List.length_range];show j * 1 + 1 ≤ 8;omega)]
  by_cases hk:k < 8
  · by_cases e:k = j
    · subst e
      rw [if_pos (by show k * 1 ≤ k ∧ k < k * 1 + 1;omega)]
      simp [hk,hv]
    · rw [if_neg (by show ¬ (j * 1 ≤ k ∧ k < j * 1 + 1);omega)]
      simp [hk,ho k e]
  · rw [if_neg (by show ¬ (j * 1 ≤ k ∧ k < j * 1 + 1);omega)]
    simp [hk]
def iniW (j:Nat):List Value:=(List.range 8).map fun r=>Value.string (if r < j then lineT ⟨#[]⟩ else ⟨#[]⟩)
theorem iniW_set {j:Nat} (h:j < 8):setCells (iniW j) (j * 1) [.string (lineT ⟨#[]⟩)] = iniW (j + 1):=by
  refine rng_set h ?_ fun r hr=>?_
  · rw [if_pos (by omega)]
  · by_cases hlt:r < j
    · rw [if_pos hlt,if_pos (by omega)]
    · rw [if_neg hlt,if_neg (by omega)]
def wntW (es:List En) (L:List Nat) (i:Nat):List Value:=(List.range 8).map fun r=>Value.string (wnt es (L.take i) r)
theorem wntW_zero (es:List En) (L:List Nat):iniW 8 = wntW es L 0:=by
  unfold iniW wntW
  refine List.map_congr_left fun r hr=>?_
  rw [List.mem_range] at hr
  rw [if_pos hr,List.take_zero];rfl
theorem wntW_set {es:List En} {L:List Nat} {i:Nat} (h:i < L.length):setCells (wntW es L i) (L[i] % 2 * 1) [.string (lineT (nth es L[i]).nm)] = wntW es L (i + 1):=by
  have e:∀ r,wnt es (L.take (i + 1)) r = if L[i] % 2 = r then lineT (nth es L[i]).nm else wnt es (L.take i) r:=fun r=>by
    rw [List.take_succ_eq_append_getElem h];unfold wnt;rw [List.foldl_append];rfl
  refine rng_set (by omega) ?_ fun r hr=>?_
  · rw [e,if_pos rfl]
  · rw [e,if_neg (fun h=>hr h.symm)]
theorem wntW_all (es:List En) (L:List Nat):wntW es L L.length = [.string (wnt es L 0),.string (wnt es L 1),.string (wnt es L 2),.string (wnt es L 3),.string (wnt es L 4),.string (wnt es L 5),.string (wnt es L 6),.string (wnt es L 7)]:=by
  unfold wntW;rw [List.take_length];rfl
theorem sh_at {es:List En} {t:Int} {L:List Nat} (hidx:(shF es t).map (fun x=>x.1) = L.map fun (i:Nat)=>(i:Int)) {i:Nat} (h:i < L.length) (cur:List Value):∃ u v,cellsAt ((shF es t).flatMap triV++cur) (i * 3) 3 = [.int .i64 (L[i]:Int),.int .i64 u,.int .i64 v]:=by
  have hl:(shF es t).length = L.length:=by
    have:=congrArg List.length hidx
    rwa [List.length_map,List.length_map] at this
  have hi:i < (shF es t).length:=by omega
  have e1:((shF es t)[i]).1 = (L[i]:Int):=by
    have:=congrArg (·[i]?) hidx
    simpa [hi,h] using this
  refine ⟨((shF es t)[i]).2.1,((shF es t)[i]).2.2,?_⟩
  rw [← e1,cellsAt_app (by rw [List.flatMap_def,flat_len (sz:=3) (fun r hr=>by obtain ⟨x,_,rfl⟩:=List.mem_map.1 hr;rfl),List.length_map];omega)]
  rw [cellsAt_eq,List.flatMap_def]
  have e:∀ q,q < 3 → (((shF es t).map triV).flatten)[i * 3 + q]? = (triV (shF es t)[i])[q]?:=fun q hq=>by
    have e2:(triV (shF es t)[i])[q]? = some ((triV (shF es t)[i])[q]'(by exact hq)):=List.getElem?_eq_getElem (by exact hq)
    rw [e2]
    refine flatten_get (sz:=3) _ i (fun r hr=>by obtain ⟨x,_,rfl⟩:=List.mem_map.1 hr;rfl) ?_ e2
    simp [hi]
  apply List.ext_getElem?
  intro q
  by_cases hq:q < 3
  · rw [List.getElem?_take_of_lt hq,List.getElem?_drop,e q hq];rfl
  · rw [List.getElem?_eq_none (by rw [List.length_take];omega),List.getElem?_eq_none (by show 3 ≤ q;omega)]
theorem nm_le {es:List En} (hs:Sound es) {i:Nat} (h:i < es.length):(nth es i).nm.size ≤ 32:=by
  have:=(name_in (hs.all.ok i h).nm).2.1;omega
theorem rk_lenM {κ:Type} [DecidableEq κ] {kv:κ → Value} {P:Program} {c:Cx} {sl:Slots} {hs:List Asn} {dst:Option Tmp} {ty:TypeId} {pos:String} {af:Array Edge} {g:Option (Nat × Bool)} {t kt et:TypeId} {x:Operand} {b:Nat} {l:List (κ × Value)} [hu:Und P t (.map kt et)] (hx:Is sl x (.map (some b))) (hl:Looks c hs b kv l) :
    RunV P c sl hs ⟨dst,.call ⟨.builtin .len,#[x],#[t]⟩,ty,pos,af,g⟩ (.int .i64 l.length):=
  ⟨by simp,fun a w ha hm=>by
    obtain ⟨es,ck,h1,h2⟩:=hl w hm
    have hg:(getObj b).run P w = .ok (.map es ck) w:=by simp [getObj,Sem.run,h1]
    have hn:es.size = l.length:=by
      have:=congrArg List.length h2.eq
      simpa using this
    simp [execOp,hx a ha,resolve,invoke,builtin,Builtin.len_,rk_underlying hu.eq,goInt,hg,hn]⟩
theorem rk_neqiS {P:Program} {c:Cx} {sl:Slots} {hs:List Asn} {dst:Option Tmp} {ty:TypeId} {pos:String} {af:Array Edge} {g:Option (Nat × Bool)} {k:IntKind} {t u:TypeId} {x y:Operand} {a b:Int} (hx:Is sl x (.int k a)) (hy:Is sl y (.int k b)) (e:a = b) :
    RunV P c sl hs ⟨dst,.binOp .neq t x y u,ty,pos,af,g⟩ (.bool false):=by
  have:=rk_neq (P:=P) (c:=c) (hs:=hs) (dst:=dst) (ty:=ty) (pos:=pos) (af:=af) (g:=g) (t:=t) (u:=u) hx hy
  rwa [decide_eq_false (fun h=>h e)] at this
theorem rk_pickB {P:Program} {c:Cx} {sl:Slots} {hs:List Asn} {dst:Option Tmp} {ty:TypeId} {pos:String} {af:Array Edge} {g:Option (Nat × Bool)} {x y z:Operand} {q:Bool} {v u V:Value} (hx:Is sl x (.bool q)) (hy:Is sl y v) (hz:Is sl z u) (e:(bif q then v else u) = V):RunV P c sl hs ⟨dst,.pick x y z,ty,pos,af,g⟩ V:=e ▸ rk_pick hx hy hz
set_option maxHeartbeats 4000000 in
theorem screen_c {sv:Value} {es:List En} {w:World} (h1:Rd w sv 6 (ensL es)) (hz:chkF es = 0) (hG:Glob w):GivesV Tryz.prog 7 [.agg #[sv]] w (.bool true):=by
  have hs:=Sound.of hz
  have h24:=hs.all.few
  have hok:=cpT_ok hs h24
  have hcz:=capE_zero.2 hok
  have htx:=cpTL_sz hs
  have h1':=h1
  obtain ⟨a,cap,b,o,rfl,hcap,hmax,ha,hc⟩:=h1'
  rw [ensL_length] at *
  unfold maxLen at hmax
  have htm:tmL es = spL es es.length:=by unfold tmL;rw [if_pos hz]
  refine givesV_of_tr Tryz.func7 rfl rfl ?_
  (refine s_r ?_;refine tr_new (rk_box (.of rfl) rfl) rfl (fun _ _=>?_);refine a_s rfl rfl ?_;refine n_r ?_;refine tr_val (rk_loadB (.of rfl) .here norm_ (by rfl)) rfl ?_)
  rename_i b1 hb1
  with_reducible apply tr_call
  case hr=>exact rk_call (.of rfl) (.cons (.of rfl) .nil) inferInstance normc_
  case hd=>rfl
  case ht=>exact Takes.nil
  case hc=>
    intro w1 fp hm1 _ hs1
    obtain rfl:fp = []:=hs1
    exact times_c (h1.keeps hm1.keeps) (hG.keeps hm1.keeps)
  intro tv _
  dsimp only [id_eq,List.cons_append,List.nil_append]
  rw [htm,hz]
  have htl:((spL es es.length)).length = es.length:=spL_length es es.length
  rw [htl]
  refine tr_rowSl (E:=45) (sz:=2) (v:=tv) (by exact .here) fun at_ ct e=>?_
  subst e
  (refine m_v rfl rfl ?_;refine tr_val (rk_extract (.of rfl) rfl) rfl ?_;refine tr_val (rk_extract (.of rfl) rfl) rfl ?_;refine a_s rfl rfl ?_;refine a_s rfl rfl ?_;refine n_t ?_;refine tr_seq ?_;refine s_r ?_;refine m_v rfl rfl ?_;refine tr_val (rk_neq (.of rfl) (.of rfl)) rfl ?_;refine m_v rfl rfl ?_;refine v_g rfl rfl rfl rfl ?_;refine tr_vG1 rfl rfl inferInstance (fun hg hgp=>(rk_len_slice (.ofg hg rfl))) rfl ?_;refine tr_vG1 rfl rfl inferInstance (fun hg hgp=>(rk_fieldAddr (.of rfl) norm0_)) rfl ?_;refine tr_vG1 rfl rfl inferInstance (fun hg hgp=>(rk_load1 (.ofg hg rfl) (At.lit (.there .here) rfl))) rfl ?_;refine tr_vG1 rfl rfl inferInstance (fun hg hgp=>(rk_len_slice (.ofg hg rfl))) rfl ?_;refine tr_vG1 rfl rfl inferInstance (fun hg hgp=>(rk_neq (.ofg hg rfl) (.ofg hg rfl))) rfl ?_;refine tr_val (rk_pick_or (.of rfl) rfl) rfl ?_;refine n_t ?_;refine c_d rfl (fun _=>by omega) (fun hcd=>?_);refine s_t ?_;refine s_r ?_;refine a_s rfl rfl ?_;refine n_r ?_)
  with_reducible apply tr_makeMapI
  case hd=>rfl
  intro bm hbm
  (refine a_s rfl rfl ?_;refine n_t ?_;refine tr_seq ?_;refine s_r ?_;refine m_v rfl rfl ?_;refine tr_val (rk_len_slice (.of rfl)) rfl ?_;refine m_v rfl rfl ?_;refine n_t ?_;refine tr_block ?_)
  refine tr_rowNil 83 5 ?_
  refine tr_for (ι:=Nat × List (Int × Value) × Value) (fun x=>x.1 ≤ es.length ∧ EndM (cpTL es es.length) x.1 x.2.1 ∧ AllT x.2.1 ∧ x.2.1.length ≤ 2 * x.1) (fun x=>[(41,.int .i64 (x.1:Nat)),(40,.int .i64 es.length),(39,.slice at_ es.length ct),(5,x.2.2),(6,.map (some bm)),(1,.pointer (some ⟨b1,0,none⟩))]) (fun x=>[row 83 5 x.2.2 x.1 (cpsV (cpTL es x.1)),row 45 2 (.slice at_ es.length ct) es.length ((spL es es.length).flatMap duoV),mp (fun n:Int=>Value.int .i64 n) bm x.2.1,blk b1 (.cells #[.slice a es.length cap] 40 (0,0))]) (fun x=>es.length - x.1) ?_ ?_
  · apply tr_start (0,[],.slice none 0 0) ⟨Nat.zero_le _,EndM.zero _,AllT.nil,Nat.zero_le _⟩
    case hs1=>exact .cons rfl (.cons rfl (.cons rfl (.cons rfl (.cons rfl (.cons rfl .nil)))))
    case ht=>
      show Takes _ [row 83 5 (.slice none 0 0) 0 [],row 45 2 (.slice at_ es.length ct) es.length ((spL es es.length).flatMap duoV),mp (fun n:Int=>Value.int .i64 n) bm [],blk b1 (.cells #[.slice a es.length cap] 40 (0,0))] _
      exact .cons .here (.cons (.there .here) (.cons .here (.cons .here .nil)))
  rintro ⟨j,m,v5⟩ ⟨hj,hE,hA,hml⟩
  dsimp only at hj hE hA hml ⊢
  by_cases hlt:j < es.length
  · have ha':=ha (ensL_ne hlt)
    have hcell:=(hc j _ (ensL_get hlt)).2
    unfold En.cells at hcell
    have hnmc:=hcell 0 _ rfl
    have hjl:j < (cpTL es es.length).length:=by rw [cpTL_len];exact hlt
    have hnx:=fun (x y:Int) (u v:Value) hab=>hE.next (a:=x) (b:=y) hjl u v hab
    have hgj:(cpTL es es.length)[j] = cpT es j:=by rw [← nthC_get hjl,cpTL_get hlt]
    rw [hgj] at hnx
    have hnext:=cpsV_next es j
    (refine s_r ?_;refine tr_val (rk_lss (.of rfl) (.of rfl)) rfl ?_;refine n_t ?_;refine tr_seq ?_;refine c_d rfl (fun hcd=>?_) (fun _=>by omega);refine s_t ?_;refine tr_seq ?_;refine tr_block ?_;refine s_r ?_;refine m_v rfl rfl ?_)
    refine tr_rowOpen (E:=45) (sz:=2) (by exact Take.there .here) (show 0 < es.length by omega) ?_
    rintro g2 cap2 cur2 e hcap2 hmx2 hsz2 hxl2
    cases e
    have hct:=tm_at hlt cur2
    (refine tr_val (rk_indexAddr (.of rfl) (.of rfl) rfl (by omega) hcd norm1_) rfl ?_;refine tr_val (rk_loadB (.of rfl) .here hct rfl) rfl ?_;refine tr_new (rk_alloc rfl) rfl (fun _ _=>?_);refine a_s rfl rfl ?_;refine tr_store (.of rfl) (.of rfl) .here rfl rfl (okc_cons rfl (okc_cons rfl okc_nil)) (lenb rfl) norm_ ?_;refine n_t ?_;refine tr_seq ?_)
    refine tr_rowShut (E:=45) (n:=es.length) (cap:=ct) (sz:=2) (cur:=cur2) (xs:=(spL es es.length).flatMap duoV) (by exact Take.there .here) hcap2 hmx2 hsz2 hxl2 ?_
    with_reducible refine tr_drawO 12 (by kernel_rfl) ?_
    (refine ao_val (rk_move (.of rfl)) rfl ?_;refine ao_val (rk_loadB (.of rfl) (.there .here) norm_ (by rfl)) rfl ?_;refine ao_val (rk_move (.of rfl)) rfl ?_;refine ao_val (rk_rem (.of rfl) (.of rfl) (by omega) (by omega)) rfl ?_;refine ao_val (rk_fieldAddr (.of rfl) norm0_) rfl ?_;refine ao_val (rk_load1 (.of rfl) (At.lit (.there (.there (.there (.there .here)))) rfl)) rfl ?_;refine ao_val (rk_move (.of rfl)) rfl ?_;refine ao_val (rk_indexAddr (.of rfl) (.of rfl) ha' (by omega) hcd norm1_) rfl ?_;refine ao_val (rk_fieldAddr (.of rfl) norm0_) rfl ?_;refine ao_val (rk_load1 (.of rfl) (At.base hnmc rfl)) rfl ?_;refine ao_val (rk_buildL (.cons (.of rfl) (.cons (.of rfl) (.cons (.of rfl) .nil))) norm_) rfl ?_;refine ao_new (rk_sliceLitN (.cons (.of rfl) .nil) rfl rfl normp_ normp_ norm_) rfl rfl ?_)
    with_reducible refine ao_end1 rfl fun bq hbq=>?_
    skip
    refine tr_appendB (.of rfl) (.of rfl) (.there (.there (.there .here))) .here norm_ (by rfl) (okc_cons rfl (okc_cons rfl (okc_cons rfl (okc_cons rfl (okc_cons rfl okc_nil))))) (by rfl) (by rfl) (by rfl) lenx_ (by rfl) ?_
    intro v6
    refine tr_rowAs (E:=83) (sz:=5) (v:=v6) (ys:=cpsV (cpTL es (j + 1))) (m:=j + 1) (by exact .here) (by exact hnext.symm) (by exact rfl) ?_
    (refine a_s rfl rfl ?_;refine n_t ?_)
    with_reducible refine tr_left 8 rfl ?_
    (refine left_take 0 rfl kr_ kr_ kr_ (fun w ρ=>rfl) (fun w=>(rk_move (.of rfl))) rfl ?_;refine left_take 1 rfl kr_ kr_ kr_ (fun w ρ=>rfl) (fun w=>(rk_fieldAddr (.of rfl) norm0_)) rfl ?_;refine left_take 3 rfl kr_ kr_ kr_ (fun w ρ=>rfl) (fun w=>(rk_move (.of rfl))) rfl ?_;refine left_take 4 rfl kr_ kr_ kr_ (fun w ρ=>rfl) (fun w=>(rk_fieldAddr (.of rfl) norm0_)) rfl ?_)
    refine left_ready (rs:=[2,5]) (by kernel_rfl) (by simp) (List.forall_mem_cons.2 ⟨?_,List.forall_mem_cons.2 ⟨?_,fun _ h=>absurd h List.not_mem_nil⟩⟩)
    · refine next_step rfl ?_
      (refine tr_val (rk_load1 (.of rfl) (At.lit (.there (.there (.there .here))) rfl)) rfl ?_;refine n_t ?_)
      refine left_ready (rs:=[5,6]) (by kernel_rfl) (by simp) (List.forall_mem_cons.2 ⟨?_,List.forall_mem_cons.2 ⟨?_,fun _ h=>absurd h List.not_mem_nil⟩⟩)
      · refine next_step rfl ?_
        (refine tr_val (rk_load1 (.of rfl) (At.lit (.there (.there (.there .here))) rfl)) rfl ?_;refine n_t ?_)
        refine left_ready (rs:=[6]) (by kernel_rfl) (by simp) (List.forall_mem_cons.2 ⟨?_,fun _ h=>absurd h List.not_mem_nil⟩)
        refine next_step rfl ?_
        refine tr_mapUpdate keyI (.of rfl) (.of rfl) (.of rfl) (.there (.there (.there (.there .here)))) ?_
        (refine n_t ?_)
        refine left_ready (rs:=[7]) (by kernel_rfl) (by simp) (List.forall_mem_cons.2 ⟨?_,fun _ h=>absurd h List.not_mem_nil⟩)
        refine next_step rfl ?_
        refine tr_mapUpdate keyI (.of rfl) (.of rfl) (.of rfl) .here ?_
        (refine n_t ?_)
        with_reducible refine left_done (by kernel_rfl) ?_
        (refine tr_blk_normal ?_;refine tr_then ?_;refine tr_region ?_;refine tr_val (rk_add (.of rfl) (.of rfl) (ini (by omega))) rfl ?_;refine m_v rfl rfl ?_;refine n_t ?_)
        apply tr_next (j + 1,aset (to es j) (.bool true) (aset (fr es j) (.bool true) m),v6) ⟨show j + 1 ≤ es.length by omega,hnx _ _ _ _ (.inl ⟨rfl,rfl⟩),(hA.set _).set _,Nat.le_trans (aset_len _ _ _) (by have:=aset_len (fr es j) (.bool true) m;omega)⟩ (show es.length - (j + 1) < es.length - j by omega)
        case hs1=>exact .cons rfl (.cons rfl (.cons rfl (.cons rfl (.cons rfl (.cons rfl .nil)))))
        case ht=>exact .cons (.there .here) (.cons (.there (.there .here)) (.cons .here (.cons (.there (.there .here)) .nil)))
      · refine next_step rfl ?_
        refine tr_mapUpdate keyI (.of rfl) (.of rfl) (.of rfl) (.there (.there (.there (.there .here)))) ?_
        (refine n_t ?_)
        refine left_ready (rs:=[5]) (by kernel_rfl) (by simp) (List.forall_mem_cons.2 ⟨?_,fun _ h=>absurd h List.not_mem_nil⟩)
        refine next_step rfl ?_
        (refine tr_val (rk_load1 (.of rfl) (At.lit (.there (.there (.there (.there .here)))) rfl)) rfl ?_;refine n_t ?_)
        refine left_ready (rs:=[7]) (by kernel_rfl) (by simp) (List.forall_mem_cons.2 ⟨?_,fun _ h=>absurd h List.not_mem_nil⟩)
        refine next_step rfl ?_
        refine tr_mapUpdate keyI (.of rfl) (.of rfl) (.of rfl) .here ?_
        (refine n_t ?_)
        with_reducible refine left_done (by kernel_rfl) ?_
        (refine tr_blk_normal ?_;refine tr_then ?_;refine tr_region ?_;refine tr_val (rk_add (.of rfl) (.of rfl) (ini (by omega))) rfl ?_;refine m_v rfl rfl ?_;refine n_t ?_)
        apply tr_next (j + 1,aset (to es j) (.bool true) (aset (fr es j) (.bool true) m),v6) ⟨show j + 1 ≤ es.length by omega,hnx _ _ _ _ (.inl ⟨rfl,rfl⟩),(hA.set _).set _,Nat.le_trans (aset_len _ _ _) (by have:=aset_len (fr es j) (.bool true) m;omega)⟩ (show es.length - (j + 1) < es.length - j by omega)
        case hs1=>exact .cons rfl (.cons rfl (.cons rfl (.cons rfl (.cons rfl (.cons rfl .nil)))))
        case ht=>exact .cons (.there .here) (.cons (.there (.there .here)) (.cons .here (.cons (.there (.there .here)) .nil)))
    · refine next_step rfl ?_
      (refine tr_val (rk_load1 (.of rfl) (At.lit (.there (.there (.there .here))) rfl)) rfl ?_;refine n_t ?_)
      refine left_ready (rs:=[2]) (by kernel_rfl) (by simp) (List.forall_mem_cons.2 ⟨?_,fun _ h=>absurd h List.not_mem_nil⟩)
      refine next_step rfl ?_
      (refine tr_val (rk_load1 (.of rfl) (At.lit (.there (.there (.there .here))) rfl)) rfl ?_;refine n_t ?_)
      refine left_ready (rs:=[6]) (by kernel_rfl) (by simp) (List.forall_mem_cons.2 ⟨?_,fun _ h=>absurd h List.not_mem_nil⟩)
      refine next_step rfl ?_
      refine tr_mapUpdate keyI (.of rfl) (.of rfl) (.of rfl) (.there (.there (.there (.there .here)))) ?_
      (refine n_t ?_)
      refine left_ready (rs:=[7]) (by kernel_rfl) (by simp) (List.forall_mem_cons.2 ⟨?_,fun _ h=>absurd h List.not_mem_nil⟩)
      refine next_step rfl ?_
      refine tr_mapUpdate keyI (.of rfl) (.of rfl) (.of rfl) .here ?_
      (refine n_t ?_)
      with_reducible refine left_done (by kernel_rfl) ?_
      (refine tr_blk_normal ?_;refine tr_then ?_;refine tr_region ?_;refine tr_val (rk_add (.of rfl) (.of rfl) (ini (by omega))) rfl ?_;refine m_v rfl rfl ?_;refine n_t ?_)
      apply tr_next (j + 1,aset (to es j) (.bool true) (aset (fr es j) (.bool true) m),v6) ⟨show j + 1 ≤ es.length by omega,hnx _ _ _ _ (.inl ⟨rfl,rfl⟩),(hA.set _).set _,Nat.le_trans (aset_len _ _ _) (by have:=aset_len (fr es j) (.bool true) m;omega)⟩ (show es.length - (j + 1) < es.length - j by omega)
      case hs1=>exact .cons rfl (.cons rfl (.cons rfl (.cons rfl (.cons rfl (.cons rfl .nil)))))
      case ht=>exact .cons (.there .here) (.cons (.there (.there .here)) (.cons .here (.cons (.there (.there .here)) .nil)))
  obtain rfl:j = es.length:=by omega
  have hkl:(cpTL es es.length).length = es.length:=cpTL_len es es.length
  have hmlen:=chT_len hs hE
  (refine s_r ?_;refine tr_val (rk_lss (.of rfl) (.of rfl)) rfl ?_;refine n_t ?_;refine tr_seq ?_;refine c_d rfl (fun _=>by omega) (fun hcd=>?_);refine x_t ?_;refine tr_then_exit ?_;refine tr_blk_exit ?_;refine tr_then ?_;refine tr_seq ?_;refine s_r ?_;refine m_v rfl rfl ?_)
  with_reducible apply tr_callV
  case hr=>exact rk_call (.of rfl) (.cons (.of rfl) .nil) inferInstance normc_
  case hd=>rfl
  case hc=>
    intro w' hm'
    exact chkCaps_c (cps_rd (E:=83) (v:=v5) hm' (by exact .here) hkl) htx
  rw [hcz]
  (refine tr_val (rk_neq (.of rfl) (.of rfl)) rfl ?_;refine n_t ?_;refine c_d rfl (fun _=>by omega) (fun hcd=>?_);refine s_t ?_;refine s_r ?_)
  with_reducible apply tr_new
  case hr=>exact rk_sliceLit0
  case hd=>rfl
  intro bq hbq
  refine m_v rfl rfl ?_
  refine tr_rowLitE9 (g:=bq) (E:=83) (ys:=[]) 0 5 (by exact .here) rfl rfl rfl ?_
  with_reducible apply tr_appendR
  case hx=>exact Is.of rfl
  case hy=>exact Is.of rfl
  case ht=>exact .here
  case hsrc=>exact fun w' hm'=>cps_rd (E:=83) (v:=v5) hm' (by exact Take.there .here) hkl
  case h1=>exact cps_one _
  case hz=>rfl
  case hsz=>rfl
  case hb0=>rfl
  case hb=>rw [cps_length,hkl];omega
  case hd=>rfl
  intro v7
  rw [cps_length,hkl,Nat.zero_add,List.nil_append,← cps_flat]
  skip
  have hchx:chX (cpTL es es.length) = (chL (cpTL es es.length)).map fun (n:Nat)=>(n:Int):=by unfold chX;rw [if_pos hcz]
  have hcll:(chX (cpTL es es.length)).length = (chL (cpTL es es.length)).length:=by rw [hchx,List.length_map]
  with_reducible apply tr_call
  case hr=>exact rk_call (.of rfl) (.cons (.of rfl) .nil) inferInstance normc_
  case hd=>rfl
  case ht=>exact Takes.nil
  case hc=>
    intro w1 fp hm1 _ hs1
    obtain rfl:fp = []:=hs1
    exact changes_c (cps_rd (E:=83) (v:=v7) hm1 (by exact .here) hkl) htx
  intro v9 _
  dsimp only [id_eq,List.cons_append,List.nil_append]
  rw [hcz,hcll]
  refine tr_rowSl (E:=3) (sz:=1) (v:=v9) (by exact .here) fun a9 c9 e=>?_
  subst e
  (refine m_v rfl rfl ?_;refine tr_val (rk_extract (.of rfl) rfl) rfl ?_;refine tr_val (rk_extract (.of rfl) rfl) rfl ?_;refine a_s rfl rfl ?_;refine a_s rfl rfl ?_;refine n_t ?_;refine tr_seq ?_;refine s_r ?_;refine m_v rfl rfl ?_;refine tr_val (rk_neqiS (.of rfl) (.of rfl) rfl) rfl ?_;refine m_v rfl rfl ?_;refine tr_gOn rfl rfl ?_;refine m_v rfl rfl ?_;refine tr_gOn rfl rfl ?_;refine tr_val (rk_len_slice (.of rfl)) rfl ?_;refine tr_gOn rfl rfl ?_;refine m_v rfl rfl ?_;refine tr_gOn rfl rfl ?_)
  refine tr_val (rk_lenM (.of rfl) (Looks.mp (by exact Take.there (.there (.there (.there .here)))))) rfl ?_
  rw [hmlen]
  (refine tr_gOn rfl rfl ?_;refine tr_val (rk_neqiS (.of rfl) (.of rfl) rfl) rfl ?_;refine tr_val (rk_pickB (.of rfl) (.of rfl) (.of rfl) rfl) rfl ?_;refine n_t ?_;refine tr_cond_f (.of rfl) ?_;refine s_t ?_;refine tr_seq ?_;refine s_r ?_;refine m_v rfl rfl ?_;refine tr_val (rk_len_slice (.of rfl)) rfl ?_;refine m_v rfl rfl ?_;refine n_t ?_;refine tr_block ?_)
  generalize hcl:chL (cpTL es es.length) = cl at hcll hmlen hchx ⊢
  have hmem:∀ k (h:k < cl.length),endB (cpTL es es.length) ((cl[k]:Nat):Int) = true ∧ cl[k] ≤ 10000000:=fun k h=>by
    have hm0:cl[k] ∈ chL (cpTL es es.length):=by rw [hcl];exact List.getElem_mem _
    exact ⟨(chT_mem hs).1 hm0,chT_in hs hm0⟩
  refine tr_for (fun k:Nat=>k ≤ cl.length) (fun k=>[(87,.int .i64 k),(86,.int .i64 cl.length),(85,.slice a9 cl.length c9),(6,.map (some bm)),(5,v5),(1,.pointer (some ⟨b1,0,none⟩))]) (fun _=>[row 3 1 (.slice a9 cl.length c9) cl.length (intgV (chX (cpTL es es.length))),row 83 5 v5 es.length (cpsV (cpTL es es.length)),mp (fun n:Int=>Value.int .i64 n) bm m,blk b1 (.cells #[.slice a es.length cap] 40 (0,0))]) (fun k=>cl.length - k) ?_ ?_
  · apply tr_start 0 (show 0 ≤ cl.length from Nat.zero_le _)
    case hs1=>exact .cons rfl (.cons rfl (.cons rfl (.cons rfl (.cons rfl (.cons rfl .nil)))))
    case ht=>exact .cons .here (.cons (.there .here) (.cons (.there (.there .here)) (.cons (.there (.there .here)) .nil)))
  intro k hk
  by_cases hkl2:k < cl.length
  · obtain ⟨hme,hmt⟩:=hmem k hkl2
    generalize hf:cl[k] = f at hme hmt
    have hcx:(intgV (chX (cpTL es es.length)))[k]? = some (.int .i64 (f:Int)):=by
      rw [hchx,intgV_eq,List.getElem?_map,List.getElem?_map,List.getElem?_eq_getElem hkl2,hf];rfl
    have hlook:alook (f:Int) m = some (.bool true):=hA.look ((hE.mem _).2 (by rw [List.take_of_length_le (by rw [hkl];exact Nat.le_refl _)];exact hme))
    (refine s_r ?_;refine tr_val (rk_lss (.of rfl) (.of rfl)) rfl ?_;refine n_t ?_;refine tr_seq ?_;refine c_d rfl (fun hcd=>?_) (fun _=>by omega);refine s_t ?_;refine tr_seq ?_;refine tr_block ?_;refine s_r ?_)
    refine tr_rowOpen (E:=3) (sz:=1) (by exact .here) (show 0 < cl.length by omega) ?_
    rintro g3 cap3 cur3 e hcap3 hmx3 hsz3 hxl3
    cases e
    have hcx2:(intgV (chX (cpTL es es.length))++cur3)[k * 1]? = some (.int .i64 (f:Int)):=by
      rw [Nat.mul_one,List.getElem?_append_left (by rw [hxl3];omega)];exact hcx
    (refine tr_val (rk_indexAddr (.of rfl) (.of rfl) rfl (by omega) hcd norm1_) rfl ?_;refine tr_val (rk_load1 (.of rfl) (At.blkL .here hcx2)) rfl ?_;refine a_s rfl rfl ?_;refine n_t ?_;refine tr_seq ?_;refine s_r ?_;refine m_v rfl rfl ?_;refine m_v rfl rfl ?_;refine tr_val (rk_lookup keyI (.of rfl) (.of rfl) (Looks.mp (.there (.there .here)))) rfl ?_)
    rw [hlook]
    dsimp only [Option.getD_some]
    (refine tr_val (rk_not (.of rfl)) rfl ?_;refine n_t ?_;refine tr_cond_f (.of rfl) ?_;refine s_t ?_;refine s_r ?_;refine m_v rfl rfl ?_;refine tr_val (rk_sub (.of rfl) (.of rfl) (ini (by omega))) rfl ?_;refine m_v rfl rfl ?_;refine tr_new (rk_sliceLit (.cons (.of rfl) (.cons (.of rfl) .nil)) rfl rfl rfl rfl) rfl (fun _ _=>?_);refine tr_val (rk_len_slice (.of rfl)) rfl ?_;refine m_v rfl rfl ?_;refine n_t ?_;refine tr_block ?_)
    rename_i bl hbl
    refine tr_for (fun q:Nat=>q ≤ 2) (fun q=>[(100,.int .i64 q),(99,.int .i64 2),(98,.slice (some ⟨bl,0,none⟩) 2 2),(87,.int .i64 k),(86,.int .i64 cl.length),(85,.slice (some ⟨g3,0,none⟩) cl.length c9),(6,.map (some bm)),(5,v5),(1,.pointer (some ⟨b1,0,none⟩))]) (fun _=>[blk bl (.cells #[.int .i64 ((f:Int) - 1),.int .i64 (f:Int)] 3 (0,0)),blk g3 (.cells (intgV (chX (cpTL es es.length))++cur3).toArray 3 (0,0)),row 83 5 v5 es.length (cpsV (cpTL es es.length)),mp (fun n:Int=>Value.int .i64 n) bm m,blk b1 (.cells #[.slice a es.length cap] 40 (0,0))]) (fun q=>2 - q) ?_ ?_
    · apply tr_start 0 (show 0 ≤ 2 from Nat.zero_le _)
      case hs1=>exact .cons rfl (.cons rfl (.cons rfl (.cons rfl (.cons rfl (.cons rfl (.cons rfl (.cons rfl (.cons rfl .nil))))))))
      case ht=>exact .cons .here (.cons .here (.cons .here (.cons .here (.cons .here .nil))))
    intro q hq
    by_cases hq2:q < 2
    · have hac:([.int .i64 ((f:Int) - 1),.int .i64 (f:Int)]:List Value)[q * 1]? = some (.int .i64 ((f:Int) - 1 + q)):=by
        match q,hq2 with
        | 0,_=>simp
        | 1,_=>simp
      generalize ht_:(f:Int) - 1 + q = t at hac
      have ht0:-1 ≤ t ∧ t ≤ 10000000:=by omega
      (refine s_r ?_;refine tr_val (rk_lss (.of rfl) (.of rfl)) rfl ?_;refine n_t ?_;refine tr_seq ?_;refine c_d rfl (fun hcd=>?_) (fun _=>by omega);refine s_t ?_;refine tr_seq ?_;refine tr_block ?_;refine s_r ?_;refine tr_val (rk_indexAddr (.of rfl) (.of rfl) rfl (by omega) hcd norm1_) rfl ?_;refine tr_val (rk_load1 (.of rfl) (At.blkL .here hac)) rfl ?_;refine a_s rfl rfl ?_;refine n_t ?_;refine tr_seq ?_;refine s_r ?_;refine m_v rfl rfl ?_;refine tr_val (rk_lss (.of rfl) (.of rfl)) rfl ?_;refine n_t ?_;refine c_d rfl (fun hcd=>?_) (fun hcd=>?_);refine x_t ?_;refine tr_blk_exit ?_;refine tr_then ?_;refine tr_region ?_;refine tr_val (rk_add (.of rfl) (.of rfl) (ini (by omega))) rfl ?_;refine m_v rfl rfl ?_;refine n_t ?_;rotate_left;refine s_t ?_;refine s_r ?_;refine tr_val (rk_loadB (.of rfl) (.there (.there (.there (.there .here)))) norm_ (by rfl)) rfl ?_;refine m_v rfl rfl ?_;rotate_right)
      · apply tr_next (q + 1) (show q + 1 ≤ 2 by omega) (show 2 - (q + 1) < 2 - q by omega)
        case hs1=>exact .cons rfl (.cons rfl (.cons rfl (.cons rfl (.cons rfl (.cons rfl (.cons rfl (.cons rfl (.cons rfl .nil))))))))
        case ht=>(try simp only [List.take_zero,List.map_nil,List.nil_append]);exact .cons .here (.cons .here (.cons .here (.cons .here (.cons .here .nil))))
      have hair:airE es t = 0:=airE_in hz (by omega) ht0.2
      have hal:airL es t = shF es t:=by unfold airL;rw [if_pos hair]
      have hse:shnE (cpTL es es.length) t = 0:=shnE_zero.2 ⟨hok,by omega,ht0.2⟩
      have hscr:(shnX (cpTL es es.length) t).map Value.string = [.string (wnt es (onL es t es.length) 0),.string (wnt es (onL es t es.length) 1),.string (wnt es (onL es t es.length) 2),.string (wnt es (onL es t es.length) 3),.string (wnt es (onL es t es.length) 4),.string (wnt es (onL es t es.length) 5),.string (wnt es (onL es t es.length) 6),.string (wnt es (onL es t es.length) 7)]:=by
        unfold shnX
        rw [if_pos hse,scr_cpT hs];rfl
      have hidx:=hs.shF_at t
      generalize hLL:onL es t es.length = L at hscr hidx
      have hLm:∀ i ∈ L,i < es.length:=fun i hi=>by
        rw [← hLL] at hi
        exact List.mem_range.1 (List.mem_filter.1 hi).1
      have hL2:L.length ≤ 2:=by
        rw [← hLL]
        rcases hs.onL t es.length (Nat.le_refl _) with e | ⟨i,_,_,e⟩ | ⟨i,_,_,_,e⟩ <;> rw [e] <;> simp
      have hsl:(shF es t).length = L.length:=by
        have:=congrArg List.length hidx
        rwa [List.length_map,List.length_map] at this
      with_reducible apply tr_call
      case hr=>exact rk_call (.of rfl) (.cons (.of rfl) (.cons (.of rfl) .nil)) inferInstance normc_
      case hd=>rfl
      case ht=>exact Takes.nil
      case hc=>
        intro w1 fp hm1 _ hs1
        obtain rfl:fp = []:=hs1
        exact onAir_c (h1.keeps hm1.keeps) (hG.keeps hm1.keeps)
      intro av _
      dsimp only [id_eq,List.cons_append,List.nil_append]
      rw [hair,hal,hsl]
      refine tr_rowSl (E:=97) (sz:=3) (v:=av) (by exact .here) fun aa ca e=>?_
      subst e
      (refine m_v rfl rfl ?_;refine tr_val (rk_extract (.of rfl) rfl) rfl ?_;refine tr_val (rk_extract (.of rfl) rfl) rfl ?_;refine a_s rfl rfl ?_;refine a_s rfl rfl ?_;refine n_r ?_)
      with_reducible apply tr_new
      case hr=>exact rk_sliceLit0
      case hd=>rfl
      intro bq2 hbq2
      refine m_v rfl rfl ?_
      refine tr_rowLitE9 (g:=bq2) (E:=83) (ys:=[]) 0 5 (by exact .here) rfl rfl rfl ?_
      with_reducible apply tr_appendR
      case hx=>exact Is.of rfl
      case hy=>exact Is.of rfl
      case ht=>exact .here
      case hsrc=>exact fun w' hm'=>cps_rd (E:=83) (v:=v5) hm' (by exact Take.there (.there (.there (.there .here)))) hkl
      case h1=>exact cps_one _
      case hz=>rfl
      case hsz=>rfl
      case hb0=>rfl
      case hb=>rw [cps_length,hkl];omega
      case hd=>rfl
      intro v8
      rw [cps_length,hkl,Nat.zero_add,List.nil_append,← cps_flat]
      refine m_v rfl rfl ?_
      with_reducible apply tr_callV
      case hr=>exact rk_call (.of rfl) (.cons (.of rfl) (.cons (.of rfl) .nil)) inferInstance normc_
      case hd=>rfl
      case hc=>
        intro w' hm'
        exact shownX_c (cps_rd (E:=83) (v:=v8) hm' (by exact .here) hkl) htx
      rw [hse,hscr]
      (refine m_v rfl rfl ?_;refine tr_val (rk_extract (.of rfl) rfl) rfl ?_;refine tr_val (rk_extract (.of rfl) rfl) rfl ?_;refine tr_new (rk_alloc rfl) rfl (fun _ _=>?_);refine tr_store (.of rfl) (.of rfl) .here rfl rfl (okc_cons rfl (okc_cons rfl (okc_cons rfl (okc_cons rfl (okc_cons rfl (okc_cons rfl (okc_cons rfl (okc_cons rfl okc_nil)))))))) (lenb rfl) norm_ ?_;refine a_s rfl rfl ?_;refine n_t ?_;refine tr_seq ?_;refine s_r ?_;refine m_v rfl rfl ?_;refine tr_val (rk_neqiS (.of rfl) (.of rfl) rfl) rfl ?_;refine m_v rfl rfl ?_;refine tr_gOn rfl rfl ?_;refine m_v rfl rfl ?_;refine tr_gOn rfl rfl ?_;refine tr_val (rk_neqiS (.of rfl) (.of rfl) rfl) rfl ?_;refine tr_val (rk_pickB (.of rfl) (.of rfl) (.of rfl) rfl) rfl ?_;refine m_v rfl rfl ?_;refine tr_gOn rfl rfl ?_;refine m_v rfl rfl ?_;refine tr_gOn rfl rfl ?_;refine tr_val (rk_len_slice (.of rfl)) rfl ?_;refine tr_gOn rfl rfl ?_;refine tr_val (rk_gtr (.of rfl) (.of rfl)) rfl ?_)
      have h2L:decide ((2:Int) < (L.length:Int)) = false:=by rw [decide_eq_false_iff_not];omega
      rw [h2L]
      (refine tr_val (rk_pickB (.of rfl) (.of rfl) (.of rfl) rfl) rfl ?_;refine n_t ?_;refine tr_cond_f (.of rfl) ?_;refine s_t ?_;refine s_r ?_;refine tr_new (rk_alloc rfl) rfl (fun _ _=>?_);refine n_t ?_;refine tr_seq ?_;refine s_r ?_;refine m_v rfl rfl ?_;refine n_t ?_;refine tr_block ?_)
      rename_i b17 hb17 b19 hb19
      have hnl0:(⟨#[]⟩:ByteArray).size ≤ 32:=by decide
      rw [show (#[.string ⟨#[]⟩,.string ⟨#[]⟩,.string ⟨#[]⟩,.string ⟨#[]⟩,.string ⟨#[]⟩,.string ⟨#[]⟩,.string ⟨#[]⟩,.string ⟨#[]⟩]:Array Value) = (iniW 0).toArray from rfl]
      refine tr_for (fun r:Nat=>r ≤ 8) (fun r=>[(131,.int .i64 r),(15,.slice aa L.length ca),(17,.pointer (some ⟨b17,0,none⟩)),(19,.pointer (some ⟨b19,0,none⟩)),(100,.int .i64 q),(99,.int .i64 2),(98,.slice (some ⟨bl,0,none⟩) 2 2),(87,.int .i64 k),(86,.int .i64 cl.length),(85,.slice (some ⟨g3,0,none⟩) cl.length c9),(6,.map (some bm)),(5,v5),(1,.pointer (some ⟨b1,0,none⟩))]) (fun r=>[blk b19 (.cells (iniW r).toArray 90 (0,0)),blk b17 (.cells #[.string (wnt es L 0),.string (wnt es L 1),.string (wnt es L 2),.string (wnt es L 3),.string (wnt es L 4),.string (wnt es L 5),.string (wnt es L 6),.string (wnt es L 7)] 90 (0,0)),row 97 3 (.slice aa L.length ca) L.length ((shF es t).flatMap triV),blk bl (.cells #[.int .i64 ((f:Int) - 1),.int .i64 (f:Int)] 3 (0,0)),blk g3 (.cells (intgV (chX (cpTL es es.length))++cur3).toArray 3 (0,0)),row 83 5 v5 es.length (cpsV (cpTL es es.length)),mp (fun n:Int=>Value.int .i64 n) bm m,blk b1 (.cells #[.slice a es.length cap] 40 (0,0))]) (fun r=>8 - r) ?_ ?_
      · apply tr_start 0 (show 0 ≤ 8 from Nat.zero_le _)
        case hs1=>exact .cons rfl (.cons rfl (.cons rfl (.cons rfl (.cons rfl (.cons rfl (.cons rfl (.cons rfl (.cons rfl (.cons rfl (.cons rfl (.cons rfl (.cons rfl .nil))))))))))))
        case ht=>(try simp only [List.take_zero,List.map_nil,List.nil_append]);exact .cons .here (.cons .here (.cons (.there .here) (.cons (.there .here) (.cons (.there .here) (.cons (.there .here) (.cons (.there .here) (.cons (.there .here) .nil)))))))
      intro r hr
      have hil:(iniW r).length = 8:=by unfold iniW;rw [List.length_map,List.length_range]
      by_cases hr8:r < 8
      · have hst:=iniW_set hr8
        have hso:r * 1 + 1 ≤ (iniW r).length:=by omega
        (refine s_r ?_;refine tr_val (rk_lss (.of rfl) (.of rfl)) rfl ?_;refine n_t ?_;refine tr_seq ?_;refine c_d rfl (fun hcd=>?_) (fun _=>by omega);refine s_t ?_;refine tr_seq ?_;refine tr_block ?_;refine s_r ?_;refine m_v rfl rfl ?_;refine a_s rfl rfl ?_;refine n_t ?_;refine tr_region ?_;refine m_v rfl rfl ?_;refine tr_callV (rk_call (.of rfl) (.cons (.of rfl) .nil) inferInstance normc_) rfl (fun w' hm'=>(line_c _ hnl0 w')) ?_;refine tr_val (rk_indexAddrA (.of rfl) (.of rfl) (by omega) hcd norm1_) rfl ?_;refine tr_store (.of rfl) (.of rfl) .here rfl rfl (okc_cons rfl okc_nil) hso hst ?_;refine tr_nil ?_;refine tr_blk_normal ?_;refine tr_then ?_;refine tr_region ?_;refine tr_val (rk_add (.of rfl) (.of rfl) (ini (by omega))) rfl ?_;refine m_v rfl rfl ?_;refine n_t ?_)
        apply tr_next (r + 1) (show r + 1 ≤ 8 by omega) (show 8 - (r + 1) < 8 - r by omega)
        case hs1=>exact .cons rfl (.cons rfl (.cons rfl (.cons rfl (.cons rfl (.cons rfl (.cons rfl (.cons rfl (.cons rfl (.cons rfl (.cons rfl (.cons rfl (.cons rfl .nil))))))))))))
        case ht=>(try simp only [List.take_zero,List.map_nil,List.nil_append]);exact .cons .here (.cons .here (.cons .here (.cons .here (.cons .here (.cons .here (.cons .here (.cons .here .nil)))))))
      obtain rfl:r = 8:=by omega
      rw [wntW_zero es L]
      (refine s_r ?_;refine tr_val (rk_lss (.of rfl) (.of rfl)) rfl ?_;refine n_t ?_;refine tr_seq ?_;refine c_d rfl (fun _=>by omega) (fun hcd=>?_);refine x_t ?_;refine tr_then_exit ?_;refine tr_blk_exit ?_;refine tr_then ?_;refine tr_seq ?_;refine s_r ?_;refine m_v rfl rfl ?_;refine tr_val (rk_len_slice (.of rfl)) rfl ?_;refine m_v rfl rfl ?_;refine n_t ?_;refine tr_block ?_)
      refine tr_for (fun i:Nat=>i ≤ L.length) (fun i=>[(140,.int .i64 i),(139,.int .i64 L.length),(138,.slice aa L.length ca),(15,.slice aa L.length ca),(17,.pointer (some ⟨b17,0,none⟩)),(19,.pointer (some ⟨b19,0,none⟩)),(100,.int .i64 q),(99,.int .i64 2),(98,.slice (some ⟨bl,0,none⟩) 2 2),(87,.int .i64 k),(86,.int .i64 cl.length),(85,.slice (some ⟨g3,0,none⟩) cl.length c9),(6,.map (some bm)),(5,v5),(1,.pointer (some ⟨b1,0,none⟩))]) (fun i=>[blk b19 (.cells (wntW es L i).toArray 90 (0,0)),blk b17 (.cells #[.string (wnt es L 0),.string (wnt es L 1),.string (wnt es L 2),.string (wnt es L 3),.string (wnt es L 4),.string (wnt es L 5),.string (wnt es L 6),.string (wnt es L 7)] 90 (0,0)),row 97 3 (.slice aa L.length ca) L.length ((shF es t).flatMap triV),blk bl (.cells #[.int .i64 ((f:Int) - 1),.int .i64 (f:Int)] 3 (0,0)),blk g3 (.cells (intgV (chX (cpTL es es.length))++cur3).toArray 3 (0,0)),row 83 5 v5 es.length (cpsV (cpTL es es.length)),mp (fun n:Int=>Value.int .i64 n) bm m,blk b1 (.cells #[.slice a es.length cap] 40 (0,0))]) (fun i=>L.length - i) ?_ ?_
      · apply tr_start 0 (show 0 ≤ L.length from Nat.zero_le _)
        case hs1=>exact .cons rfl (.cons rfl (.cons rfl (.cons rfl (.cons rfl (.cons rfl (.cons rfl (.cons rfl (.cons rfl (.cons rfl (.cons rfl (.cons rfl (.cons rfl (.cons rfl (.cons rfl .nil))))))))))))))
        case ht=>(try simp only [List.take_zero,List.map_nil,List.nil_append]);exact .cons .here (.cons .here (.cons .here (.cons .here (.cons .here (.cons .here (.cons .here (.cons .here .nil)))))))
      intro i hi
      have hwl:(wntW es L i).length = 8:=by unfold wntW;rw [List.length_map,List.length_range]
      by_cases hiL:i < L.length
      · (refine s_r ?_;refine tr_val (rk_lss (.of rfl) (.of rfl)) rfl ?_;refine n_t ?_;refine tr_seq ?_;refine c_d rfl (fun hcd=>?_) (fun _=>by omega);refine s_t ?_;refine tr_seq ?_;refine tr_block ?_;refine s_r ?_)
        refine tr_rowOpen (E:=97) (sz:=3) (by exact Take.there (.there .here)) (show 0 < L.length by omega) ?_
        rintro g4 cap4 cur4 e hcap4 hmx4 hsz4 hxl4
        cases e
        obtain ⟨u1,u2,hsc⟩:=sh_at hidx hiL cur4
        have hws:=wntW_set (es:=es) hiL
        have hie:=hLm L[i] (List.getElem_mem _)
        generalize hli:L[i] = x at hsc hws hie
        have hnl:=nm_le hs hie
        have hwo:x % 2 * 1 + 1 ≤ (wntW es L i).length:=by omega
        have ha':=ha (ensL_ne hie)
        have hcell:=(hc x _ (ensL_get hie)).2
        unfold En.cells at hcell
        have hnmc:=hcell 0 _ rfl
        (refine tr_val (rk_indexAddr (.of rfl) (.of rfl) rfl (by omega) hcd norm1_) rfl ?_;refine tr_val (rk_loadB (.of rfl) .here hsc rfl) rfl ?_;refine tr_new (rk_alloc rfl) rfl (fun _ _=>?_);refine tr_store (.of rfl) (.of rfl) .here rfl rfl (okc_cons rfl (okc_cons rfl (okc_cons rfl okc_nil))) (lenb rfl) norm_ ?_;refine n_t ?_;refine tr_seq ?_;refine s_r ?_;refine f_a rfl rfl norm0_ ?_;refine tr_val (rk_load1 (.of rfl) (At.lit .here rfl)) rfl ?_;refine tr_val (rk_lss (.of rfl) (.of rfl)) rfl ?_;refine m_v rfl rfl ?_;refine tr_vG1 rfl rfl inferInstance (fun hg hgp=>(rk_fieldAddr (.of rfl) norm0_)) rfl ?_;refine tr_vG1 rfl rfl inferInstance (fun hg hgp=>(rk_load1 (.ofg hg rfl) (At.lit .here rfl))) rfl ?_;refine tr_vG1 rfl rfl inferInstance (fun hg hgp=>(rk_fieldAddr (.of rfl) norm0_)) rfl ?_;refine tr_vG1 rfl rfl inferInstance (fun hg hgp=>(rk_load1 (.ofg hg rfl) (At.lit (.there (.there (.there (.there (.there (.there (.there (.there .here)))))))) rfl))) rfl ?_;refine tr_vG1 rfl rfl inferInstance (fun hg hgp=>(rk_len_slice (.ofg hg rfl))) rfl ?_;refine tr_vG1 rfl rfl inferInstance (fun hg hgp=>(rk_geq (.ofg hg rfl) (.ofg hg rfl))) rfl ?_;refine tr_val (rk_pick_or (.of rfl) rfl) rfl ?_;refine n_t ?_;refine c_d rfl (fun _=>by omega) (fun hcd=>?_);refine s_t ?_)
        refine tr_rowShut (E:=97) (n:=L.length) (cap:=ca) (sz:=3) (cur:=cur4) (xs:=(shF es t).flatMap triV) (by exact Take.there .here) hcap4 hmx4 hsz4 hxl4 ?_
        with_reducible refine tr_draw 12 (by kernel_rfl) ?_
        (refine a_f rfl rfl norm0_ ?_;refine any_val (rk_load1 (.of rfl) (At.lit (.there .here) rfl)) rfl ?_;refine any_val (rk_rem (.of rfl) (.of rfl) (by omega) (by omega)) rfl ?_;refine a_f rfl rfl norm0_ ?_;refine any_val (rk_load1 (.of rfl) (At.lit (.there (.there (.there (.there (.there (.there (.there (.there .here)))))))) rfl)) rfl ?_;refine a_f rfl rfl norm0_ ?_;refine any_val (rk_load1 (.of rfl) (At.lit (.there .here) rfl)) rfl ?_;refine any_val (rk_indexAddr (.of rfl) (.of rfl) ha' (by omega) (by omega) norm1_) rfl ?_;refine a_f rfl rfl norm0_ ?_;refine any_val (rk_load1 (.of rfl) (At.base hnmc rfl)) rfl ?_;refine any_call (rk_call (.of rfl) (.cons (.of rfl) .nil) inferInstance normc_) rfl (fun w' hm'=>(line_c _ hnl w')) ?_;refine any_val (rk_indexAddrA (.of rfl) (.of rfl) (by omega) (by omega) norm1_) rfl ?_)
        with_reducible refine any_end ?_
        (refine tr_store (.of rfl) (.of rfl) (.there (.there .here)) rfl rfl (okc_cons rfl okc_nil) hwo hws ?_;refine tr_nil ?_;refine tr_blk_normal ?_;refine tr_then ?_;refine tr_region ?_;refine tr_val (rk_add (.of rfl) (.of rfl) (ini (by omega))) rfl ?_;refine m_v rfl rfl ?_;refine n_t ?_)
        apply tr_next (i + 1) (show i + 1 ≤ L.length by omega) (show L.length - (i + 1) < L.length - i by omega)
        case hs1=>exact .cons rfl (.cons rfl (.cons rfl (.cons rfl (.cons rfl (.cons rfl (.cons rfl (.cons rfl (.cons rfl (.cons rfl (.cons rfl (.cons rfl (.cons rfl (.cons rfl (.cons rfl .nil))))))))))))))
        case ht=>(try simp only [List.take_zero,List.map_nil,List.nil_append]);exact .cons .here (.cons (.there (.there .here)) (.cons .here (.cons (.there .here) (.cons (.there .here) (.cons (.there .here) (.cons (.there .here) (.cons (.there .here) .nil)))))))
      obtain rfl:i = L.length:=by omega
      rw [wntW_all]
      (refine s_r ?_;refine tr_val (rk_lss (.of rfl) (.of rfl)) rfl ?_;refine n_t ?_;refine tr_seq ?_;refine c_d rfl (fun _=>by omega) (fun hcd=>?_);refine x_t ?_;refine tr_then_exit ?_;refine tr_blk_exit ?_;refine tr_then ?_;refine s_r ?_;refine tr_val (rk_loadB (.of rfl) (.there .here) norm_ (by rfl)) rfl ?_;refine tr_val (rk_loadB (.of rfl) .here norm_ (by rfl)) rfl ?_;refine tr_val (rk_neqA (.of rfl) (.of rfl) (okL_string (okL_string (okL_string (okL_string (okL_string (okL_string (okL_string (okL_string okL_nil)))))))) rfl) rfl ?_;refine n_t ?_;refine c_b rfl (fun hcd=>?_) (fun hcd=>?_);refine s_r ?_;refine a_s rfl rfl ?_;refine n_t ?_;refine tr_ret ?_;refine tr_blk_ret ?_;refine tr_then_ret ?_;refine tr_then_ret ?_;refine tr_blk_ret ?_;refine tr_blk_ret ?_;refine tr_then_ret ?_;refine tr_then_ret ?_;refine tr_blk_ret ?_;refine tr_then_ret ?_;refine tr_retE rfl (ends1 rfl rfl) ?_;rotate_left;refine tr_skip ?_;refine tr_blk_normal ?_;refine tr_then ?_;refine tr_region ?_;refine tr_val (rk_add (.of rfl) (.of rfl) (ini (by omega))) rfl ?_;refine m_v rfl rfl ?_;refine n_t ?_;rotate_right)
      · exact absurd hcd (by simp)
      apply tr_next (q + 1) (show q + 1 ≤ 2 by omega) (show 2 - (q + 1) < 2 - q by omega)
      case hs1=>exact .cons rfl (.cons rfl (.cons rfl (.cons rfl (.cons rfl (.cons rfl (.cons rfl (.cons rfl (.cons rfl .nil))))))))
      case ht=>(try simp only [List.take_zero,List.map_nil,List.nil_append]);exact .cons (.there (.there (.there .here))) (.cons (.there (.there (.there .here))) (.cons (.there (.there (.there .here))) (.cons (.there (.there (.there .here))) (.cons (.there (.there (.there .here))) .nil))))
    obtain rfl:q = 2:=by omega
    refine tr_rowShut (E:=3) (n:=cl.length) (cap:=c9) (sz:=1) (cur:=cur3) (xs:=intgV (chX (cpTL es es.length))) (by exact Take.there .here) hcap3 hmx3 hsz3 hxl3 ?_
    (refine s_r ?_;refine tr_val (rk_lss (.of rfl) (.of rfl)) rfl ?_;refine n_t ?_;refine tr_seq ?_;refine c_d rfl (fun _=>by omega) (fun hcd=>?_);refine x_t ?_;refine tr_then_exit ?_;refine tr_blk_exit ?_;refine tr_blk_normal ?_;refine tr_then ?_;refine tr_region ?_;refine tr_val (rk_add (.of rfl) (.of rfl) (ini (by omega))) rfl ?_;refine m_v rfl rfl ?_;refine n_t ?_)
    apply tr_next (k + 1) (show k + 1 ≤ cl.length by omega) (show cl.length - (k + 1) < cl.length - k by omega)
    case hs1=>exact .cons rfl (.cons rfl (.cons rfl (.cons rfl (.cons rfl (.cons rfl .nil)))))
    case ht=>(try simp only [List.take_zero,List.map_nil,List.nil_append]);exact .cons .here (.cons (.there .here) (.cons (.there .here) (.cons (.there .here) .nil)))
  obtain rfl:k = cl.length:=by omega
  (refine s_r ?_;refine tr_val (rk_lss (.of rfl) (.of rfl)) rfl ?_;refine n_t ?_;refine tr_seq ?_;refine c_d rfl (fun _=>by omega) (fun hcd=>?_);refine x_t ?_;refine tr_then_exit ?_;refine tr_blk_exit ?_;refine tr_then ?_;refine s_r ?_;refine a_s rfl rfl ?_;refine n_t ?_;refine tr_ret ?_;refine tr_retE rfl (ends1 rfl rfl) ?_)
  rfl
end Go.Proofs.A1
namespace Go.Proofs.A1
open Go Go.SL
def vwL (es:List En) (f:Int):List (ByteArray × Int × Int):=(shF es f).map fun x=>((nth es x.1.toNat).nm,x.2)
theorem vw_off {es:List En} {n:Int} (h:∀ k,k < es.length → n < fr es k ∨ to es k ≤ n):vwL es n = []:=by
  unfold vwL
  rw [shF_off fun k hk=>?_];rfl
  have:=h k hk
  unfold onB
  rw [Bool.and_eq_false_iff,decide_eq_false_iff_not,decide_eq_false_iff_not]
  omega
def dfB (a b:List En) (n:Int):Bool:=decide (vwL a n ≠ vwL b n)
structure ChSp (D:Int → Bool) (p q:Int):Prop where
  p1:D p = true
  p0:∀ n,n < p → D n = false
  q1:D (q - 1) = true
  q0:∀ n,q ≤ n → D n = false
theorem ChSp.same {D:Int → Bool} {p q p' q':Int} (h:ChSp D p q) (h':ChSp D p' q'):p = p' ∧ q = q':=by
  constructor
  · apply Classical.byContradiction
    intro hn
    by_cases hl:p < p'
    · have:=h'.p0 p hl;rw [h.p1] at this;cases this
    · have:=h.p0 p' (by omega);rw [h'.p1] at this;cases this
  · apply Classical.byContradiction
    intro hn
    by_cases hl:q < q'
    · have:=h.q0 (q' - 1) (by omega);rw [h'.q1] at this;cases this
    · have:=h'.q0 (q - 1) (by omega);rw [h.q1] at this;cases this
structure Turns (D:Int → Bool) (T:List Int):Prop where
  st:∀ n,n ∉ T → D n = D (n - 1)
  neg:∀ n,n < 0 → D n = false
  inc:T.Pairwise (· < ·)
theorem Turns.lt {D:Int → Bool} {T:List Int} (h:Turns D T) {i j:Nat} (hij:i < j) (hj:j < T.length):T[i]'(by omega) < T[j]:=
  List.pairwise_iff_getElem.1 h.inc i j (by omega) hj hij
theorem Turns.ahead {D:Int → Bool} {T:List Int} (h:Turns D T) {m:Int} (hm:∀ t ∈ T,t < m → D t = false):∀ n,n < m → D n = false:=by
  have key:∀ k:Nat,((k:Int) - 1) < m → D ((k:Int) - 1) = false:=by
    intro k
    induction k with
    | zero=>intro _;exact h.neg _ (by omega)
    | succ k ih =>
      intro hk
      by_cases ht:(((k + 1:Nat):Int) - 1) ∈ T
      · exact hm _ ht hk
      · rw [h.st _ ht,show ((k + 1:Nat):Int) - 1 - 1 = (k:Int) - 1 by omega]
        exact ih (by omega)
  intro n hn
  by_cases h0:n < 0
  · exact h.neg n h0
  · have:=key (n + 1).toNat (by omega)
    rwa [show (((n + 1).toNat:Nat):Int) - 1 = n by omega] at this
theorem Turns.none {D:Int → Bool} {T:List Int} (h:Turns D T) (hz:∀ t ∈ T,D t = false):∀ n,D n = false:=
  fun n=>h.ahead (m:=n + 1) (fun t ht _=>hz t ht) n (by omega)
end Go.Proofs.A1
namespace Go.Proofs.A1
open Go Go.SL
def ChOk (a b:List En) (x:Int × Int × Int):Prop:=(∃ p q,x = (p,q,0) ∧ ChSp (dfB a b) p q) ∨ (x = (0,0,7) ∧ ∀ n,dfB a b n = false)
theorem ChOk.same {a b:List En} {x y:Int × Int × Int} (hx:ChOk a b x) (hy:ChOk a b y):x = y:=by
  rcases hx with ⟨p,q,rfl,h⟩ | ⟨rfl,h⟩ <;> rcases hy with ⟨p',q',rfl,h'⟩ | ⟨rfl,h'⟩
  · obtain ⟨rfl,rfl⟩:=h.same h';rfl
  · have:=h.p1;rw [h' p] at this;cases this
  · have:=h'.p1;rw [h p'] at this;cases this
  · rfl
def chE (a b:List En):Int:=firstF [chkF a,chkF b]
def ChR (a b:List En) (x:Int × Int × Int):Prop:=(chE a b ≠ 0 ∧ x = (0,0,chE a b)) ∨ (chE a b = 0 ∧ ChOk a b x)
end Go.Proofs.A1
