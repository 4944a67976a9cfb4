/- Parts of the proof: U5A. -/
import Derived.Test.YthhidjfahmcekaaGreatDoorVM19
import Derived.Test.YthhidjfahmcekaaGreatDoorVM08
import Derived.Test.YthhidjfahmcekaaGreatDoorVM11
import Derived.Test.YthhidjfahmcekaaGreatDoorVM06
set_option linter.unusedSectionVars false
set_option linter.unusedVariables false
set_option linter.unusedSimpArgs false
namespace Go.Proofs.A1
open Go Go.SL
theorem wc_byts (W:List Int):(wcells W).map (fun v=>[v]) = byts W:=by unfold wcells byts;rw [List.map_map];rfl
theorem wc_len (W:List Int):(wcells W).length = W.length:=by unfold wcells;rw [List.length_map]
theorem strm_snoc (L:List Stm) (x:Stm):strmL (L++[x]) = strmL L++wordF x:=by unfold strmL;simp
theorem cut_kF {A B:Prop} (h:A → B) (k:A):B:=h k
theorem rk_neqiF {P:Program} {c:Cx} {sl:Slots} {hs:List Asn} {dst:Option Tmp} {ty:TypeId} {pos:String} {af:Array Edge} {g:Option (Nat × Bool)} {k:IntKind} {t u:TypeId} {x y:Operand} {a b:Int} (hx:Is sl x (.int k a)) (hy:Is sl y (.int k b)) (e:a = b) :
    RunV P c sl hs ⟨dst,.binOp .neq t x y u,ty,pos,af,g⟩ (.bool false):=by
  have:=rk_neq (P:=P) (c:=c) (hs:=hs) (dst:=dst) (ty:=ty) (pos:=pos) (af:=af) (g:=g) (t:=t) (u:=u) hx hy
  rwa [decide_eq_false (fun h=>h e)] at this
theorem rk_neqsF {P:Program} {c:Cx} {sl:Slots} {hs:List Asn} {dst:Option Tmp} {ty:TypeId} {pos:String} {af:Array Edge} {g:Option (Nat × Bool)} {t u:TypeId} {x y:Operand} {a b:ByteArray} (hx:Is sl x (.string a)) (hy:Is sl y (.string b)) (e:a = b) :
    RunV P c sl hs ⟨dst,.binOp .neq t x y u,ty,pos,af,g⟩ (.bool false):=by
  have:=rk_neqs (P:=P) (c:=c) (hs:=hs) (dst:=dst) (ty:=ty) (pos:=pos) (af:=af) (g:=g) (t:=t) (u:=u) hx hy
  rwa [decide_eq_false (fun h=>h e)] at this
theorem rk_tmodE {P:Program} {c:Cx} {sl:Slots} {hs:List Asn} {dst:Option Tmp} {ty:TypeId} {pos:String} {af:Array Edge} {g:Option (Nat × Bool)} {t u:TypeId} {x y:Operand} {a b:Int} (q:Int) (hx:Is sl x (.int .i64 a)) (hy:Is sl y (.int .i64 b)) (hb:b ≠ 0) (e:a.tmod b = q):RunV P c sl hs ⟨dst,.binOp .rem t x y u,ty,pos,af,g⟩ (.int .i64 q):=e ▸ rk_remT hx hy hb
theorem rk_shlE {P:Program} {c:Cx} {sl:Slots} {hs:List Asn} {dst:Option Tmp} {ty:TypeId} {pos:String} {af:Array Edge} {g:Option (Nat × Bool)} {t u:TypeId} {x y:Operand} {k yk:IntKind} {a n:Int} (q:Int) (hx:Is sl x (.int k a)) (hy:Is sl y (.int yk n)) (h0:0 ≤ n) (h1:n ≤ k.bits) (e:k.wrap (a * 2 ^ n.toNat) = q):RunV P c sl hs ⟨dst,.binOp .shl t x y u,ty,pos,af,g⟩ (.int k q):=e ▸ rk_shl hx hy h0 h1
theorem shl_bitF:∀ b:Nat,b < 8 → IntKind.u8.wrap (1 * 2 ^ b) = ((2 ^ b:Nat):Int):=by decide
theorem bytsV_wc:∀ l:List Int,bytsV l = wcells l
  | []=>rfl
  | x :: l => by
    show [Value.int .u8 x]++bytsV l = _
    rw [bytsV_wc l];rfl
theorem stsE_ok {L:List Stm} (h:∀ x ∈ L,StOk x) (hl:L.length ≤ 256):stsE L = 0:=by
  unfold stsE
  rw [if_neg (by omega)]
  exact errE_ok.2 fun k hk=>by
    rw [nthS_get hk]
    exact stmE_zero.2 (h _ (List.getElem_mem hk))
theorem suc_all {s:Stm} (h:StOk s) (n:Nat):∀ x ∈ sucL s n,StOk x:=by
  intro x hx
  unfold sucL at hx
  obtain ⟨k,_,rfl⟩:=List.mem_map.1 hx
  exact suc_ok h k
theorem strm_bytes {L:List Stm} (h:∀ x ∈ L,StOk x):∀ y ∈ strmL L,0 ≤ y ∧ y ≤ 255:=by
  intro y hy
  unfold strmL at hy
  obtain ⟨l,hl,hyl⟩:=List.mem_flatten.1 hy
  obtain ⟨x,hx,rfl⟩:=List.mem_map.1 hl
  unfold wordF at hyl
  rw [List.mem_append] at hyl
  rcases hyl with hyl | hyl
  · exact w7_bytes (h x hx) y hyl
  · simp only [List.mem_cons,List.not_mem_nil,or_false] at hyl
    rcases hyl with rfl | rfl | rfl
    · exact parF_byte _
    · decide
    · decide
set_option maxHeartbeats 4000000 in
theorem found_law (s:Stm) (n:Int) (hn:0 ≤ n ∧ n ≤ 255) (n0 n1 n2 n3:Int) (h0:0 ≤ n0 ∧ n0 ≤ 255) (h1:0 ≤ n1 ∧ n1 ≤ 255) (h2:0 ≤ n2 ∧ n2 ≤ 255) (h3:0 ≤ n3 ∧ n3 ≤ 255) (w:World) (hG:GlobR w) (hT:Tab10 w):GivesV Tryz.prog 13 [.agg s.cells.toArray,.int .u8 n,.agg #[.int .u8 n0,.int .u8 n1,.int .u8 n2,.int .u8 n3]] w (.bool true):=by
  have hsq:∀ w',GivesV Tryz.prog 37 [.agg #[.int .i64 s.ra.fr,.bool s.ra.dr,.int .i64 s.la.h,.int .i64 s.la.m,.int .i64 s.la.s,.int .i64 s.la.f,.int .i64 s.us]] w' (.int .i64 (stmE s)):=fun w'=>stmQ_c s w'
  unfold Stm.cells
  by_cases hz:stmE s = 0
  case neg=>
    refine givesV_of_tr Tryz.func13 rfl rfl ?_
    generalize stmE s = sE at *
    (refine s_r ?_;refine tr_new (rk_box (.of rfl) rfl) rfl (fun _ _=>?_);refine tr_new (rk_box (.of rfl) rfl) rfl (fun _ _=>?_);refine a_s rfl rfl ?_;refine n_t ?_;refine tr_seq ?_;refine s_r ?_;refine tr_val (rk_loadB (.of rfl) (.there .here) norm_ (by rfl)) rfl ?_;refine tr_callV (rk_call (.of rfl) (.cons (.of rfl) .nil) inferInstance normc_) rfl (fun w' hm'=>(hsq w')) ?_;refine tr_val (rk_neq (.of rfl) (.of rfl)) rfl ?_;refine n_t ?_;refine c_d rfl (fun hcd=>?_) (fun _=>by omega);refine s_r ?_;refine tr_callV (rk_call (.of rfl) .nil inferInstance normc_) rfl (fun w' hm'=>(awake_c w' (GlobR.keeps hG (Mem.keeps hm')) (Tab10.keeps hT (Mem.keeps hm')))) ?_;refine a_s rfl rfl ?_;refine n_t ?_;refine r_t ?_;refine tr_retE rfl (ends1 rfl rfl) ?_)
    rfl
  rw [hz] at hsq
  have hs:=stmE_zero.1 hz
  clear hz
  obtain ⟨N,hN,hN1⟩:∃ N:Nat,1 + (IntKind.i64.wrap n).tmod 6 = (N:Nat) ∧ 1 ≤ N ∧ N ≤ 6:=by
    rw [i64w (by omega),Int.tmod_eq_emod_of_nonneg hn.1]
    exact ⟨(1 + n % 6).toNat,by omega,by omega,by omega⟩
  refine givesV_of_tr Tryz.func13 rfl rfl ?_
  (refine s_r ?_;refine tr_new (rk_box (.of rfl) rfl) rfl (fun _ _=>?_);refine tr_new (rk_box (.of rfl) rfl) rfl (fun _ _=>?_);refine a_s rfl rfl ?_;refine n_t ?_;refine tr_seq ?_;refine s_r ?_;refine tr_val (rk_loadB (.of rfl) (.there .here) norm_ (by rfl)) rfl ?_;refine tr_callV (rk_call (.of rfl) (.cons (.of rfl) .nil) inferInstance normc_) rfl (fun w' hm'=>(hsq w')) ?_;refine tr_val (rk_neq (.of rfl) (.of rfl)) rfl ?_;refine n_t ?_;refine c_d rfl (fun _=>by omega) (fun hcd=>?_);refine s_t ?_;refine s_r ?_;refine a_s rfl rfl ?_;refine n_r ?_;refine a_s rfl rfl ?_;refine n_t ?_;refine tr_seq ?_;refine s_r ?_;refine m_v rfl rfl ?_;refine tr_val (rk_conv (.of rfl)) rfl ?_;refine tr_val (rk_remT (.of rfl) (.of rfl) (by omega)) rfl ?_;refine tr_val (rk_add (.of rfl) (.of rfl) (ini (by omega))) rfl ?_;refine m_v rfl rfl ?_;refine n_t ?_;refine tr_block ?_)
  rename_i b3 hb3 b5 hb5
  rw [hN]
  refine tr_rowNil 50 7 ?_
  refine tr_rowNil 5 1 ?_
  refine tr_for (ι:=Nat × Value × Value) (fun x=>x.1 ≤ N) (fun x=>[(45,.int .i64 (x.1:Nat)),(44,.int .i64 (N:Nat)),(3,.pointer (some ⟨b3,0,none⟩)),(5,.pointer (some ⟨b5,0,none⟩)),(7,x.2.1),(8,x.2.2)]) (fun x=>[row 50 7 x.2.1 x.1 (stmsV (sucL s x.1)),row 5 1 x.2.2 (10 * x.1) (bytsV (strmL (sucL s x.1))),blk b3 (.cells #[.int .i64 s.ra.fr,.bool s.ra.dr,.int .i64 s.la.h,.int .i64 s.la.m,.int .i64 s.la.s,.int .i64 s.la.f,.int .i64 s.us] 50 (0,0)),blk b5 (.cells #[.int .u8 n0,.int .u8 n1,.int .u8 n2,.int .u8 n3] 135 (0,0))]) (fun x=>N - x.1) ?_ ?_
  · apply tr_start (0,.slice none 0 0,.slice none 0 0) (Nat.zero_le _)
    case hs1=>exact .cons rfl (.cons rfl (.cons rfl (.cons rfl (.cons rfl (.cons rfl .nil)))))
    case ht=>
      show Takes _ [row 50 7 (.slice none 0 0) 0 [],row 5 1 (.slice none 0 0) 0 [],blk b3 (.cells #[.int .i64 s.ra.fr,.bool s.ra.dr,.int .i64 s.la.h,.int .i64 s.la.m,.int .i64 s.la.s,.int .i64 s.la.f,.int .i64 s.us] 50 (0,0)),blk b5 (.cells #[.int .u8 n0,.int .u8 n1,.int .u8 n2,.int .u8 n3] 135 (0,0))] _
      exact .cons (.there .here) (.cons .here (.cons (.there .here) (.cons .here .nil)))
  rintro ⟨i,lv,sv⟩ hi
  dsimp only at hi ⊢
  by_cases hlt:i < N
  · have hadd:∀ w',Keeps [] w w' → GivesV Tryz.prog 29 [.agg #[.int .i64 s.ra.fr,.bool s.ra.dr],.agg #[.int .i64 s.la.h,.int .i64 s.la.m,.int .i64 s.la.s,.int .i64 s.la.f],.int .i64 (i:Nat)] w' (.tuple #[.agg (addF s.ra s.la (i:Nat)).cells.toArray,.int .i64 0]):=fun w' hkk=>by
      have:=addedX_c s.ra s.la (i:Nat) w' (hG.keeps hkk)
      have he:=addE_zero.2 ⟨hs.la,show (-10000000:Int) ≤ (i:Nat) ∧ ((i:Nat):Int) ≤ 10000000 by omega⟩
      rwa [he,show addX s.ra s.la (i:Nat) = addF s.ra s.la (i:Nat) by unfold addX;rw [if_pos he]] at this
    have hrate:∀ w',GivesV Tryz.prog 18 [.agg #[.int .i64 s.ra.fr,.bool s.ra.dr]] w' (.agg #[.int .i64 s.ra.fr,.bool s.ra.dr]):=fun w'=>rate_v s.ra w'
    have hlab:∀ w',GivesV Tryz.prog 20 [.agg #[.int .i64 s.la.h,.int .i64 s.la.m,.int .i64 s.la.s,.int .i64 s.la.f]] w' (.agg #[.int .i64 s.la.h,.int .i64 s.la.m,.int .i64 s.la.s,.int .i64 s.la.f]):=fun w'=>label_v s.la w'
    have hsc:=sucL_succ s i
    have hok:=suc_ok hs (i:Nat)
    obtain ⟨q,hq⟩:∃ q,addF s.ra s.la (i:Nat) = q:=⟨_,rfl⟩
    rw [hq] at hadd hsc hok
    clear hq
    unfold Lb.cells at hadd
    have hxe:stmE ⟨s.ra,q,s.us⟩ = 0:=stmE_zero.2 hok
    have hgv:∀ w',GivesV Tryz.prog 35 [.agg #[.int .i64 s.ra.fr,.bool s.ra.dr,.int .i64 q.h,.int .i64 q.m,.int .i64 q.s,.int .i64 q.f,.int .i64 s.us]] w' (.agg #[.int .i64 s.ra.fr,.bool s.ra.dr,.int .i64 q.h,.int .i64 q.m,.int .i64 q.s,.int .i64 q.f,.int .i64 s.us]):=fun w'=>given_v ⟨s.ra,q,s.us⟩ w'
    have hwr:∀ w',Keeps [] w w' → GivesV Tryz.prog 34 [.agg #[.int .i64 s.ra.fr,.bool s.ra.dr,.int .i64 q.h,.int .i64 q.m,.int .i64 q.s,.int .i64 q.f,.int .i64 s.us]] w' (.tuple #[.agg (wcells (wordF ⟨s.ra,q,s.us⟩)).toArray,.int .i64 0]):=fun w' hk=>by
      have:=written_c ⟨s.ra,q,s.us⟩ w' (hG.keeps hk)
      rwa [hxe,show wrtF ⟨s.ra,q,s.us⟩ = wordF ⟨s.ra,q,s.us⟩ by unfold wrtF;rw [if_pos hxe]] at this
    obtain ⟨W,hW⟩:∃ W,wordF ⟨s.ra,q,s.us⟩ = W:=⟨_,rfl⟩
    have hW10:W.length = 10:=by rw [← hW];rfl
    have hol:(stmsV (sucL s i)).length = i * 7:=by rw [stmsV_len,sucL_len]
    have hol2:(bytsV (strmL (sucL s i))).length = 10 * i * 1:=by rw [bytsV_len,strm_len,sucL_len]
    (refine s_r ?_;refine tr_val (rk_lss (.of rfl) (.of rfl)) rfl ?_;refine n_t ?_;refine tr_seq ?_;refine c_d rfl (fun hcd=>?_) (fun _=>by omega);refine s_t ?_;refine tr_seq ?_;refine tr_block ?_;refine s_r ?_;refine m_v rfl rfl ?_;refine a_s rfl rfl ?_;refine n_t ?_;refine tr_seq ?_)
    with_reducible refine tr_drawP 12 10 (by kernel_rfl) (pure_at rfl (by kernel_rfl) (by kernel_rfl)) ?_
    (refine am_val (fun β=>(rk_fieldAddr (.of rfl) norm0_)) ind0 rfl ?_;refine am_val (fun β=>(rk_loadB (.of rfl) (.there (.there .here)) norm_ (by rfl))) ind0 rfl ?_)
    dsimp only [Nat.zero_add,Nat.reduceAdd]
    with_reducible apply am_callV (B:=[]) (F:=fun _=>.agg #[.int .i64 s.ra.fr,.bool s.ra.dr]) (args:=fun _=>[.agg #[.int .i64 s.ra.fr,.bool s.ra.dr]])
    case hB=>rfl
    case hr=>exact fun β=>rk_call (.of rfl) (.cons (.of rfl) .nil) inferInstance rfl
    case hi=>exact ind0
    case hd=>rfl
    case hc=>exact fun β w' hb=>hrate w'
    dsimp only [Nat.reduceAdd]
    (refine am_val (fun β=>(rk_fieldAddr (.of rfl) norm0_)) ind0 rfl ?_;refine am_val (fun β=>(rk_loadB (.of rfl) (.there (.there .here)) norm_ (by rfl))) ind0 rfl ?_)
    dsimp only [Nat.zero_add,Nat.reduceAdd]
    with_reducible apply am_callV (B:=[]) (F:=fun _=>.agg #[.int .i64 s.la.h,.int .i64 s.la.m,.int .i64 s.la.s,.int .i64 s.la.f]) (args:=fun _=>[.agg #[.int .i64 s.la.h,.int .i64 s.la.m,.int .i64 s.la.s,.int .i64 s.la.f]])
    case hB=>rfl
    case hr=>exact fun β=>rk_call (.of rfl) (.cons (.of rfl) .nil) inferInstance rfl
    case hi=>exact ind0
    case hd=>rfl
    case hc=>exact fun β w' hb=>hlab w'
    dsimp only [Nat.reduceAdd]
    refine am_val (fun β=>(rk_move (.of rfl))) ind0 rfl ?_
    dsimp only [Nat.zero_add,Nat.reduceAdd]
    with_reducible apply am_callV (B:=[]) (F:=fun _=>.tuple #[.agg #[.int .i64 q.h,.int .i64 q.m,.int .i64 q.s,.int .i64 q.f],.int .i64 0]) (args:=fun _=>[.agg #[.int .i64 s.ra.fr,.bool s.ra.dr],.agg #[.int .i64 s.la.h,.int .i64 s.la.m,.int .i64 s.la.s,.int .i64 s.la.f],.int .i64 (i:Nat)])
    case hB=>rfl
    case hr=>exact fun β=>rk_call (.of rfl) (.cons (.of rfl) (.cons (.of rfl) (.cons (.of rfl) .nil))) inferInstance rfl
    case hi=>exact ind0
    case hd=>rfl
    case hc=>exact fun β w' hb=>hadd w' hb.mem.keeps
    dsimp only [Nat.reduceAdd]
    (refine am_val (fun β=>(rk_move (.of rfl))) ind0 rfl ?_;refine am_val (fun β=>(rk_extract (.of rfl) rfl)) ind0 rfl ?_;refine am_val (fun β=>(rk_extract (.of rfl) rfl)) ind0 rfl ?_)
    refine am_new (fun β=>(rk_alloc rfl)) (fun _ _ _=>rfl) rfl ?_
    refine am_end fun β=>?_
    dsimp only [resAll,List.nil_append,List.cons_append,List.append_eq,Nat.reduceAdd]
    generalize gnat (β 11) = b10
    clear β
    refine left_ready (rs:=[12]) (by kernel_rfl) (by simp) (List.forall_mem_cons.2 ⟨?_,fun _ h=>absurd h List.not_mem_nil⟩)
    refine next_step rfl ?_
    (refine tr_store (.of rfl) (.of rfl) .here rfl rfl (okc_cons rfl (okc_cons rfl (okc_cons rfl (okc_cons rfl okc_nil)))) (lenb rfl) norm_ ?_;refine n_t ?_)
    refine left_ready (rs:=[13]) (by kernel_rfl) (by simp) (List.forall_mem_cons.2 ⟨?_,fun _ h=>absurd h List.not_mem_nil⟩)
    refine next_step rfl ?_
    (refine a_s rfl rfl ?_;refine n_t ?_)
    with_reducible refine left_done (by kernel_rfl) ?_
    (refine tr_then ?_;refine tr_seq ?_;refine s_r ?_;refine m_v rfl rfl ?_;refine tr_val (rk_neq (.of rfl) (.of rfl)) rfl ?_;refine n_t ?_;refine c_d rfl (fun _=>by omega) (fun hcd=>?_);refine s_t ?_;refine s_r ?_;refine f_a rfl rfl norm0_ ?_;refine tr_val (rk_loadB (.of rfl) (.there (.there (.there .here))) norm_ (by rfl)) rfl ?_;refine tr_val (rk_loadB (.of rfl) .here norm_ (by rfl)) rfl ?_;refine f_a rfl rfl norm0_ ?_;refine tr_val (rk_load1 (.of rfl) (At.lit (.there (.there (.there .here))) rfl)) rfl ?_;refine tr_val (rk_buildL (.cons (.of rfl) (.cons (.of rfl) (.cons (.of rfl) .nil))) norm_) rfl ?_;refine tr_new (rk_alloc rfl) rfl (fun _ _=>?_);refine tr_store (.of rfl) (.of rfl) .here rfl rfl (okc_cons rfl (okc_cons rfl (okc_cons rfl (okc_cons rfl (okc_cons rfl (okc_cons rfl (okc_cons rfl okc_nil))))))) (lenb rfl) norm_ ?_;refine n_r ?_;refine tr_val (rk_loadB (.of rfl) .here norm_ (by rfl)) rfl ?_;refine tr_callV (rk_call (.of rfl) (.cons (.of rfl) .nil) inferInstance normc_) rfl (fun w' hm'=>(hgv w')) ?_;refine tr_callV (rk_call (.of rfl) (.cons (.of rfl) .nil) inferInstance normc_) rfl (fun w' hm'=>(hwr w' (Mem.keeps hm'))) ?_;refine m_v rfl rfl ?_;refine tr_val (rk_extract (.of rfl) rfl) rfl ?_;refine tr_val (rk_extract (.of rfl) rfl) rfl ?_;refine tr_new (rk_alloc rfl) rfl (fun _ _=>?_);refine tr_store (.of rfl) (.of rfl) .here rfl rfl (okc_cons rfl (okc_cons rfl (okc_cons rfl (okc_cons rfl (okc_cons rfl (okc_cons rfl (okc_cons rfl (okc_cons rfl (okc_cons rfl (okc_cons rfl okc_nil)))))))))) (lenb rfl) norm_ ?_;refine a_s rfl rfl ?_;refine n_t ?_;refine tr_seq ?_;refine s_r ?_;refine m_v rfl rfl ?_;refine tr_val (rk_neq (.of rfl) (.of rfl)) rfl ?_;refine n_t ?_;refine c_d rfl (fun _=>by omega) (fun hcd=>?_);refine s_t ?_)
    rw [setCells_full (by rw [wc_len];rfl),hW]
    with_reducible refine tr_left 9 rfl ?_
    refine left_take 0 rfl kr_ kr_ kr_ (fun w ρ=>rfl) (fun w=>(rk_move (.of rfl))) rfl ?_
    refine left_take 4 rfl kr_ kr_ kr_ (fun w ρ=>rfl) (fun w=>(rk_move (.of rfl))) rfl ?_
    refine left_take 5 rfl kr_ kr_ kr_ (fun w ρ=>rfl) (fun w=>(rk_sliceA (.of rfl))) rfl ?_
    refine left_ready (rs:=[1]) (by kernel_rfl) (by simp) (List.forall_mem_cons.2 ⟨?_,fun _ h=>absurd h List.not_mem_nil⟩)
    refine next_step rfl ?_
    (refine tr_val (rk_loadB (.of rfl) (.there .here) norm_ (by rfl)) rfl ?_;refine n_t ?_)
    refine left_ready (rs:=[2]) (by kernel_rfl) (by simp) (List.forall_mem_cons.2 ⟨?_,fun _ h=>absurd h List.not_mem_nil⟩)
    refine next_step rfl ?_
    (refine tr_new (rk_sliceLitN (.cons (.of rfl) .nil) rfl rfl normp_ normp_ norm_) rfl (fun _ _=>?_);refine n_t ?_)
    refine left_ready (rs:=[3]) (by kernel_rfl) (by simp) (List.forall_mem_cons.2 ⟨?_,fun _ h=>absurd h List.not_mem_nil⟩)
    refine next_step rfl ?_
    refine tr_appendB (.of rfl) (.of rfl) (.there (.there (.there (.there .here)))) .here norm_ (by rfl) (okc_cons rfl (okc_cons rfl (okc_cons rfl (okc_cons rfl (okc_cons rfl (okc_cons rfl (okc_cons rfl okc_nil))))))) (by rfl) (by rfl) (by rfl) lenx_ (by rfl) ?_
    intro lv'
    (refine n_t ?_)
    refine left_ready (rs:=[6]) (by kernel_rfl) (by simp) (List.forall_mem_cons.2 ⟨?_,fun _ h=>absurd h List.not_mem_nil⟩)
    refine next_step rfl ?_
    with_reducible apply tr_appendR (news:=byts W)
    case hx=>exact Is.of rfl
    case hy=>exact Is.of rfl
    case ht=>exact Take.there (.there (.there (.there (.there .here))))
    case hsrc=>
      intro w' hm'
      have:=Mem.rdBlk hm' (n:=10) (cs:=wcells W) (by exact Take.there (.there .here)) (by rw [wc_len,hW10]) rfl
      rwa [wc_byts] at this
    case h1=>exact byts_one W
    case hz=>exact rfl
    case hsz=>exact rfl
    case hb0=>exact rfl
    case hb=>rw [byts_length,hW10];omega
    case hd=>rfl
    intro sv'
    rw [byts_length,hW10,← byts_flat]
    (refine n_t ?_)
    refine left_ready (rs:=[7]) (by kernel_rfl) (by simp) (List.forall_mem_cons.2 ⟨?_,fun _ h=>absurd h List.not_mem_nil⟩)
    refine next_step rfl ?_
    (refine a_s rfl rfl ?_;refine n_t ?_)
    refine left_ready (rs:=[8]) (by kernel_rfl) (by simp) (List.forall_mem_cons.2 ⟨?_,fun _ h=>absurd h List.not_mem_nil⟩)
    refine next_step rfl ?_
    (refine a_s rfl rfl ?_;refine n_t ?_)
    with_reducible refine left_done (by kernel_rfl) ?_
    (refine tr_blk_normal ?_;refine tr_then ?_;refine tr_region ?_;refine tr_val (rk_add (.of rfl) (.of rfl) (ini (by omega))) rfl ?_;refine m_v rfl rfl ?_;refine n_t ?_)
    apply tr_next (i + 1,lv',sv') (show i + 1 ≤ N from hlt) (show N - (i + 1) < N - i by omega)
    case hs1=>exact .cons rfl (.cons rfl (.cons rfl (.cons rfl (.cons rfl (.cons rfl .nil)))))
    case ht=>
      show Takes _ [row 50 7 lv' (i + 1) (stmsV (sucL s (i + 1))),row 5 1 sv' (10 * i + 10) (bytsV (strmL (sucL s (i + 1)))),blk b3 (.cells #[.int .i64 s.ra.fr,.bool s.ra.dr,.int .i64 s.la.h,.int .i64 s.la.m,.int .i64 s.la.s,.int .i64 s.la.f,.int .i64 s.us] 50 (0,0)),blk b5 (.cells #[.int .u8 n0,.int .u8 n1,.int .u8 n2,.int .u8 n3] 135 (0,0))] _
      rw [hsc,stmsV_app,strm_snoc,bytsV_app,hW,show stmsV [⟨s.ra,q,s.us⟩] = [.int .i64 s.ra.fr,.bool s.ra.dr,.int .i64 q.h,.int .i64 q.m,.int .i64 q.s,.int .i64 q.f,.int .i64 s.us] from rfl]
      exact .cons (.there .here) (.cons .here (.cons (.there (.there (.there (.there .here)))) (.cons (.there (.there (.there (.there .here)))) .nil)))
  obtain rfl:i = N:=by omega
  have hLl:(sucL s i).length = i:=sucL_len s i
  have hSl:(strmL (sucL s i)).length = 10 * i:=by rw [strm_len,hLl]
  have hsr:∀ x ∈ strmL (sucL s i),0 ≤ x ∧ x ≤ 255:=strm_bytes (suc_all hs i)
  have hoA:∀ x ∈ sucL s i,StOk x:=suc_all hs i
  have hcut:∀ o,o < i → _:=fun o ho=>jmp_cut hs (n:=i) (o:=o) ho
  have hjs:=jmp_suc hs i
  have hnth:sucL s i ≠ []:=fun e=>by rw [e] at hLl;simp at hLl;omega
  generalize hLS:sucL s i = LS at *
  refine tr_rowOpen (E:=50) (sz:=7) (v:=lv) (by exact .here) (show 0 < i by omega) ?_
  rintro g7 c7 cur7 rfl hc7 hm7 hz7 hx7
  refine tr_rowShut (g:=g7) (E:=50) (sz:=7) (n:=i) (cap:=c7) (xs:=stmsV LS) (cur:=cur7) (by exact .here) hc7 hm7 hz7 hx7 ?_
  refine tr_rowOpen (E:=5) (sz:=1) (v:=sv) (by exact Take.there .here) (show 0 < 10 * i by omega) ?_
  rintro g8 c8 cur8 rfl hc8 hm8 hz8 hx8
  refine tr_rowShut (g:=g8) (E:=5) (sz:=1) (n:=10 * i) (cap:=c8) (xs:=bytsV (strmL LS)) (cur:=cur8) (by exact .here) hc8 hm8 hz8 hx8 ?_
  obtain ⟨f,hf⟩:∃ f:Nat,(IntKind.i64.wrap n0).tmod 10 = (f:Nat) ∧ f < 10:=by
    rw [i64w (by omega),Int.tmod_eq_emod_of_nonneg h0.1]
    exact ⟨(n0 % 10).toNat,by omega,by omega⟩
  obtain ⟨hf,hf10⟩:=hf
  apply cut_kF (A:=∀ (al:Option Addr) (cl:Nat) (LT:List Stm),LT = (if f = 0 then LS else LS.drop 1) → (∀ w',Rd w' (.slice (some ⟨g7,0,none⟩) i c7) 7 (stms LS) → Rd w' (.slice al LT.length cl) 7 (stms LT)) → Tr _ [] [(95,sliced (some ⟨g8,0,none⟩) f (10 * i) c8 1),(16,.slice al LT.length cl),(3,.pointer (some ⟨b3,0,none⟩)),(5,.pointer (some ⟨b5,0,none⟩)),(7,.slice (some ⟨g7,0,none⟩) i c7),(8,.slice (some ⟨g8,0,none⟩) (10 * i) c8),(15,.int .i64 (f:Nat))] [row 5 1 (.slice (some ⟨g8,0,none⟩) (10 * i) c8) (10 * i) (bytsV (strmL LS)),row 50 7 (.slice (some ⟨g7,0,none⟩) i c7) i (stmsV LS),blk b3 (.cells #[.int .i64 s.ra.fr,.bool s.ra.dr,.int .i64 s.la.h,.int .i64 s.la.m,.int .i64 s.la.s,.int .i64 s.la.f,.int .i64 s.us] 50 (0,0)),blk b5 (.cells #[.int .u8 n0,.int .u8 n1,.int .u8 n2,.int .u8 n3] 135 (0,0))] _)
  · intro key
    (refine s_r ?_;refine tr_val (rk_lss (.of rfl) (.of rfl)) rfl ?_;refine n_t ?_;refine tr_seq ?_;refine c_d rfl (fun _=>by omega) (fun hcd=>?_);refine x_t ?_;refine tr_then_exit ?_;refine tr_blk_exit ?_;refine tr_then ?_;refine s_r ?_;refine tr_val (rk_indexAddrA (.of rfl) (.of rfl) (by omega) (by omega) norm1_) rfl ?_;refine tr_val (rk_load1 (.of rfl) (At.lit (.there (.there (.there .here))) rfl)) rfl ?_;refine tr_val (rk_conv (.of rfl)) rfl ?_;refine tr_val (rk_remT (.of rfl) (.of rfl) (by omega)) rfl ?_;refine a_s rfl rfl ?_;refine n_r ?_;refine m_v rfl rfl ?_;refine a_s rfl rfl ?_;refine n_t ?_;refine tr_seq ?_;refine s_r ?_;refine m_v rfl rfl ?_;refine tr_val (rk_gtr (.of rfl) (.of rfl)) rfl ?_;refine n_t ?_;refine c_d rfl (fun hcd=>?_) (fun hcd=>?_);refine tr_region ?_;refine m_v rfl rfl ?_;refine tr_val (rk_slice_l (.of rfl) (.of rfl) (by omega) (by omega)) rfl ?_;refine a_s rfl rfl ?_;refine n_r ?_;refine m_v rfl rfl ?_;refine m_v rfl rfl ?_;refine tr_val (rk_slice_l (.of rfl) (.of rfl) (by omega) (by omega)) rfl ?_;rotate_left;refine s_t ?_;refine s_r ?_;refine m_v rfl rfl ?_;refine m_v rfl rfl ?_;refine tr_val (rk_slice_l (.of rfl) (.of rfl) (by omega) (by omega)) rfl ?_;rotate_right)
    · rw [hf] at hcd ⊢
      rw [Int.toNat_natCast]
      obtain ⟨al,he⟩:∃ al,sliced (some ⟨g7,0,none⟩) (Int.toNat 1) i c7 7 = .slice al (i - 1) (c7 - 1):=⟨_,rfl⟩
      have hd:(LS.drop 1).length = i - 1:=by rw [List.length_drop,hLl]
      have hk:=key al (c7 - 1) (LS.drop 1) (by rw [if_neg (by omega)]) (fun w' h=>by
        have:=h.sliced (l:=1) (m:=i) (by omega) (Nat.le_refl _)
        rw [show sliced (some ⟨g7,0,none⟩) 1 i c7 7 = .slice al (i - 1) (c7 - 1) from he,List.take_of_length_le (by rw [stms_length,hLl];exact Nat.le_refl _)] at this
        rw [hd]
        unfold stms at this ⊢
        rwa [← List.map_drop] at this)
      rw [hd] at hk
      rw [he]
      exact tr_cutW _ _ (by exact .cons rfl (.cons rfl (.cons rfl (.cons rfl (.cons rfl (.cons rfl (.cons rfl .nil))))))) (by exact .cons .here (.cons .here (.cons .here (.cons .here .nil)))) hk
    · rw [hf] at hcd ⊢
      rw [Int.toNat_natCast]
      have hk:=key (some ⟨g7,0,none⟩) c7 LS (by rw [if_pos (by omega)]) (fun w' h=>by rwa [hLl])
      rw [hLl] at hk
      exact tr_cutW _ _ (by exact .cons rfl (.cons rfl (.cons rfl (.cons rfl (.cons rfl (.cons rfl (.cons rfl .nil))))))) (by exact .cons .here (.cons .here (.cons .here (.cons .here .nil)))) hk
  intro al cl LT hLT hlr
  have hS':((strmL LS).drop f).length ≤ 60:=by rw [List.length_drop,hSl];omega
  have hSr:∀ x ∈ (strmL LS).drop f,0 ≤ x ∧ x ≤ 255:=fun x hx=>hsr x (List.mem_of_mem_drop hx)
  have hsd:∀ w',Rd w' (.slice (some ⟨g8,0,none⟩) (10 * i) c8) 1 (byts (strmL LS)) → Rd w' (sliced (some ⟨g8,0,none⟩) f (10 * i) c8 1) 1 (byts ((strmL LS).drop f)):=fun w' h=>by
    have:=h.sliced (l:=f) (m:=10 * i) (by omega) (Nat.le_refl _)
    rw [List.take_of_length_le (by rw [byts_length,hSl];exact Nat.le_refl _)] at this
    unfold byts at this ⊢
    rwa [← List.map_drop] at this
  have hz1:hrdE ((strmL LS).drop f).length = 0:=by unfold hrdE;rw [if_neg (by omega)]
  have hfd:fndL ((strmL LS).drop f) = hitL ((strmL LS).drop f) 0:=by unfold fndL;rw [if_pos hz1]
  have hhf:=strm_from hoA hf10 hnth
  have hf1:(hitL ((strmL LS).drop f) 0).map (·.1) = LT:=by
    rw [hhf,hLT]
    split
    · exact run_fst _ _
    · rw [List.map_map]
      exact run_fst (LS.drop 1) 10
  have hf2:(hitL ((strmL LS).drop f) 0).map (·.2) = (List.range LT.length).map fun j=>10 * j + (10 - f) % 10:=by
    rw [hhf,hLT]
    split
    · rename_i h0'
      rw [run_snd,h0']
      refine List.map_congr_left fun j _=>by omega
    · rename_i h0'
      rw [List.map_map,show ((fun x:Stm × Nat=>x.2) ∘ fun x:Stm × Nat=>(x.1,x.2 - f)) = (fun y=>y - f) ∘ (fun x:Stm × Nat=>x.2) from rfl,← List.map_map,run_snd,List.map_map]
      refine List.map_congr_left fun j _=>?_
      show 10 + 10 * j - f = 10 * j + (10 - f) % 10
      omega
  with_reducible apply tr_call
  case hr=>exact rk_call (.of rfl) (.cons (.of rfl) .nil) inferInstance normc_
  case hd=>rfl
  case ht=>exact Takes.nil
  case hc=>
    intro w1 fp hm1 _ hs1
    obtain rfl:fp = []:=hs1
    exact bysV_c (hsd _ (byts_rd (E:=5) (v:=.slice (some ⟨g8,0,none⟩) (10 * i) c8) hm1 (by exact .here) hSl)) (by omega)
  intro v1 _
  dsimp only [id_eq,List.cons_append,List.nil_append]
  skip
  with_reducible apply tr_call
  case hr=>exact rk_call (.of rfl) (.cons (.of rfl) .nil) inferInstance normc_
  case hd=>rfl
  case ht=>exact Takes.nil
  case hc=>
    intro w1 fp hm1 _ hs1
    obtain rfl:fp = []:=hs1
    exact found_c (byts_rd (E:=5) (v:=v1) hm1 (by exact .here) rfl) hSr (hG.keeps hm1.keeps)
  intro ⟨f1,f2⟩ _
  dsimp only [id_eq,List.cons_append,List.nil_append]
  unfold hsV hnV
  rw [hz1,hfd]
  rw [hf1,hf2]
  have hhn:(hitL ((strmL LS).drop f) 0).length = LT.length:=by rw [← hf1,List.length_map]
  rw [hhn]
  refine tr_rowSl (E:=3) (sz:=1) (v:=f2) (by exact Take.there .here) fun a2 c2 e=>?_
  subst e
  (refine m_v rfl rfl ?_;refine tr_val (rk_extract (.of rfl) rfl) rfl ?_;refine tr_val (rk_extract (.of rfl) rfl) rfl ?_;refine tr_val (rk_extract (.of rfl) rfl) rfl ?_;refine a_s rfl rfl ?_;refine a_s rfl rfl ?_;refine a_s rfl rfl ?_;refine n_t ?_;refine tr_seq ?_;refine s_r ?_;refine m_v rfl rfl ?_;refine tr_val (rk_neqiF (.of rfl) (.of rfl) rfl) rfl ?_;refine m_v rfl rfl ?_;refine tr_gOn rfl rfl ?_;refine m_v rfl rfl ?_;refine tr_gOn rfl rfl ?_)
  have hLT6:LT.length ≤ 6:=by
    rw [hLT]
    split
    · omega
    · rw [List.length_drop];omega
  with_reducible apply tr_call
  case hr=>exact rk_call (.of rfl) (.cons (.of rfl) .nil) inferInstance normc_
  case hd=>rfl
  case ht=>exact Takes.nil
  case hc=>
    intro w1 fp hm1 _ hs1
    obtain rfl:fp = []:=hs1
    exact heardV_c (stms_rd (E:=55) (v:=f1) hm1 (by exact .here) rfl) (by omega)
  intro v4 _
  dsimp only [id_eq,List.cons_append,List.nil_append]
  (refine tr_gOn rfl rfl ?_;refine m_v rfl rfl ?_;refine tr_gOn rfl rfl ?_)
  with_reducible apply tr_callV
  case hr=>exact rk_call (.of rfl) (.cons (.of rfl) (.cons (.of rfl) .nil)) inferInstance normc_
  case hd=>rfl
  case hc=>
    intro w' hm'
    have s1:=stms_rd (E:=50) (v:=v4) hm' (by exact .here) rfl
    have s2:=hlr _ (stms_rd (E:=50) (v:=.slice (some ⟨g7,0,none⟩) i c7) hm' (by exact Take.there (.there (.there (.there (.there .here))))) hLl)
    have s3:=sameS_t s1 s2
    rw [decide_eq_true rfl] at s3
    exact s3
  (refine tr_gOn rfl rfl ?_;refine tr_val (rk_not (.of rfl)) rfl ?_;refine tr_val (rk_pickB (.of rfl) (.of rfl) (.of rfl) rfl) rfl ?_;refine m_v rfl rfl ?_;refine tr_gOn rfl rfl ?_;refine m_v rfl rfl ?_;refine tr_gOn rfl rfl ?_;refine tr_val (rk_len_slice (.of rfl)) rfl ?_;refine tr_gOn rfl rfl ?_;refine m_v rfl rfl ?_;refine tr_gOn rfl rfl ?_;refine tr_val (rk_len_slice (.of rfl)) rfl ?_;refine tr_gOn rfl rfl ?_;refine tr_val (rk_neqiF (.of rfl) (.of rfl) rfl) rfl ?_;refine tr_val (rk_pickB (.of rfl) (.of rfl) (.of rfl) rfl) rfl ?_;refine n_t ?_;refine tr_cond_f (.of rfl) ?_;refine s_t ?_;refine tr_seq ?_;refine s_r ?_;refine m_v rfl rfl ?_;refine tr_val (rk_len_slice (.of rfl)) rfl ?_;refine m_v rfl rfl ?_;refine n_t ?_;refine tr_block ?_)
  apply cut_kF (A:=Tr _ [] [(134,.slice (some ⟨g8,0,none⟩) (10 * i) c8),(3,.pointer (some ⟨b3,0,none⟩)),(5,.pointer (some ⟨b5,0,none⟩)),(7,.slice (some ⟨g7,0,none⟩) i c7),(8,.slice (some ⟨g8,0,none⟩) (10 * i) c8)] [row 5 1 (.slice (some ⟨g8,0,none⟩) (10 * i) c8) (10 * i) (bytsV (strmL LS)),row 50 7 (.slice (some ⟨g7,0,none⟩) i c7) i (stmsV LS),blk b3 (.cells #[.int .i64 s.ra.fr,.bool s.ra.dr,.int .i64 s.la.h,.int .i64 s.la.m,.int .i64 s.la.s,.int .i64 s.la.f,.int .i64 s.us] 50 (0,0)),blk b5 (.cells #[.int .u8 n0,.int .u8 n1,.int .u8 n2,.int .u8 n3] 135 (0,0))] _)
  · intro key
    by_cases hT0:0 < LT.length
    · refine tr_rowOpen (E:=3) (sz:=1) (v:=.slice a2 LT.length c2) (by exact Take.there (.there .here)) hT0 ?_
      intro g2 cap2 cur2 he2 hcap2 hmx2 hsz2 hxl2
      cases he2
      refine tr_for (ι:=Nat) (fun k=>k ≤ LT.length) (fun k=>[(119,.int .i64 (k:Nat)),(118,.int .i64 (LT.length:Nat)),(117,.slice (some ⟨g2,0,none⟩) LT.length c2),(3,.pointer (some ⟨b3,0,none⟩)),(5,.pointer (some ⟨b5,0,none⟩)),(7,.slice (some ⟨g7,0,none⟩) i c7),(8,.slice (some ⟨g8,0,none⟩) (10 * i) c8),(15,.int .i64 (f:Nat))]) (fun _=>[blk g2 (.cells (natsV ((List.range LT.length).map fun j=>10 * j + (10 - f) % 10)++cur2).toArray 3 (0,0)),row 5 1 (.slice (some ⟨g8,0,none⟩) (10 * i) c8) (10 * i) (bytsV (strmL LS)),row 50 7 (.slice (some ⟨g7,0,none⟩) i c7) i (stmsV LS),blk b3 (.cells #[.int .i64 s.ra.fr,.bool s.ra.dr,.int .i64 s.la.h,.int .i64 s.la.m,.int .i64 s.la.s,.int .i64 s.la.f,.int .i64 s.us] 50 (0,0)),blk b5 (.cells #[.int .u8 n0,.int .u8 n1,.int .u8 n2,.int .u8 n3] 135 (0,0))]) (fun k=>LT.length - k) ?_ ?_
      · apply tr_start 0 (show (0:Nat) ≤ LT.length from Nat.zero_le _)
        case hs1=>exact .cons rfl (.cons rfl (.cons rfl (.cons rfl (.cons rfl (.cons rfl (.cons rfl (.cons rfl .nil)))))))
        case ht=>exact .cons .here (.cons (.there (.there (.there .here))) (.cons (.there (.there (.there .here))) (.cons (.there (.there (.there .here))) (.cons (.there (.there (.there .here))) .nil))))
      intro k hk
      by_cases hkl:k < LT.length
      · have q0:(natsV ((List.range LT.length).map fun j=>10 * j + (10 - f) % 10)++cur2)[k * 1]? = some (.int .i64 ((10 * k + (10 - f) % 10:Nat):Int)):=by
          rw [Nat.mul_one,List.getElem?_append_left (by rw [natsV_len,List.length_map,List.length_range];omega),natsV_one,List.getElem?_map,List.getElem?_map,List.getElem?_range hkl];rfl
        generalize hxx:10 * k + (10 - f) % 10 = xx at q0
        (refine s_r ?_;refine tr_val (rk_lss (.of rfl) (.of rfl)) rfl ?_;refine n_t ?_;refine tr_seq ?_;refine c_d rfl (fun hcd=>?_) (fun _=>by omega);refine s_t ?_;refine tr_seq ?_;refine tr_block ?_;refine s_r ?_;refine m_v rfl rfl ?_;refine tr_val (rk_indexAddr (.of rfl) (.of rfl) rfl (by omega) hcd norm1_) rfl ?_;refine tr_val (rk_load1 (.of rfl) (At.blkL .here q0)) rfl ?_;refine a_s rfl rfl ?_;refine a_s rfl rfl ?_;refine n_r ?_;refine m_v rfl rfl ?_;refine m_v rfl rfl ?_;refine tr_val (rk_mul (.of rfl) (.of rfl) (ini (by omega))) rfl ?_;refine m_v rfl rfl ?_;refine tr_val (rk_sub (.of rfl) (.of rfl) (ini (by omega))) rfl ?_;refine tr_val (rk_rem (.of rfl) (.of rfl) (by omega) (by omega)) rfl ?_;refine tr_val (rk_add (.of rfl) (.of rfl) (ini (by omega))) rfl ?_;refine tr_val (rk_neq (.of rfl) (.of rfl)) rfl ?_;refine n_t ?_;refine c_d rfl (fun _=>by omega) (fun hcd=>?_);refine tr_skip ?_;refine tr_blk_normal ?_;refine tr_then ?_;refine tr_region ?_;refine tr_val (rk_add (.of rfl) (.of rfl) (ini (by omega))) rfl ?_;refine m_v rfl rfl ?_;refine n_t ?_)
        apply tr_next (k + 1) (show k + 1 ≤ LT.length from hkl) (show LT.length - (k + 1) < LT.length - k by omega)
        case hs1=>exact .cons rfl (.cons rfl (.cons rfl (.cons rfl (.cons rfl (.cons rfl (.cons rfl (.cons rfl .nil)))))))
        case ht=>exact .cons .here (.cons .here (.cons .here (.cons .here (.cons .here .nil))))
      · obtain rfl:k = LT.length:=by omega
        (refine s_r ?_;refine tr_val (rk_lss (.of rfl) (.of rfl)) rfl ?_;refine n_t ?_;refine tr_seq ?_;refine c_d rfl (fun _=>by omega) (fun hcd=>?_);refine x_t ?_;refine tr_then_exit ?_;refine tr_blk_exit ?_;refine tr_then ?_;refine s_r ?_;refine m_v rfl rfl ?_)
        exact tr_cutW _ _ (by exact .cons rfl (.cons rfl (.cons rfl (.cons rfl (.cons rfl .nil))))) (by exact .cons (.there .here) (.cons (.there .here) (.cons (.there .here) (.cons (.there .here) .nil)))) key
    · refine tr_for (ι:=Nat) (fun _=>True) (fun _=>[(119,.int .i64 0),(118,.int .i64 (LT.length:Nat)),(117,.slice a2 LT.length c2),(3,.pointer (some ⟨b3,0,none⟩)),(5,.pointer (some ⟨b5,0,none⟩)),(7,.slice (some ⟨g7,0,none⟩) i c7),(8,.slice (some ⟨g8,0,none⟩) (10 * i) c8)]) (fun _=>[row 5 1 (.slice (some ⟨g8,0,none⟩) (10 * i) c8) (10 * i) (bytsV (strmL LS)),row 50 7 (.slice (some ⟨g7,0,none⟩) i c7) i (stmsV LS),blk b3 (.cells #[.int .i64 s.ra.fr,.bool s.ra.dr,.int .i64 s.la.h,.int .i64 s.la.m,.int .i64 s.la.s,.int .i64 s.la.f,.int .i64 s.us] 50 (0,0)),blk b5 (.cells #[.int .u8 n0,.int .u8 n1,.int .u8 n2,.int .u8 n3] 135 (0,0))]) (fun k=>k) ?_ ?_
      · apply tr_start 0 trivial
        case hs1=>exact .cons rfl (.cons rfl (.cons rfl (.cons rfl (.cons rfl (.cons rfl (.cons rfl .nil))))))
        case ht=>exact .cons (.there (.there (.there (.there .here)))) (.cons (.there (.there (.there (.there .here)))) (.cons (.there (.there (.there (.there .here)))) (.cons (.there (.there (.there (.there .here)))) .nil)))
      intro k _
      (refine s_r ?_;refine tr_val (rk_lss (.of rfl) (.of rfl)) rfl ?_;refine n_t ?_;refine tr_seq ?_;refine c_d rfl (fun _=>by omega) (fun hcd=>?_);refine x_t ?_;refine tr_then_exit ?_;refine tr_blk_exit ?_;refine tr_then ?_;refine s_r ?_;refine m_v rfl rfl ?_)
      exact tr_cutW _ _ (by exact .cons rfl (.cons rfl (.cons rfl (.cons rfl (.cons rfl .nil))))) (by exact .cons .here (.cons .here (.cons .here (.cons .here .nil)))) key
  clear hsd hhf hf1 hf2 hhn hfd hz1 hSr hS' hlr
  have hz0:hrdE (strmL LS).length = 0:=by unfold hrdE;rw [if_neg (by omega)]
  have hrl:(revL (strmL LS)).length = 10 * i:=by unfold revL;rw [List.length_reverse,List.length_map,hSl]
  have hz0':hrdE (revL (strmL LS)).length = 0:=by unfold hrdE;rw [if_neg (by omega)]
  have hrb:∀ x ∈ revL (strmL LS),0 ≤ x ∧ x ≤ 255:=by
    intro x hx
    unfold revL at hx
    rw [List.mem_reverse,List.mem_map] at hx
    obtain ⟨y,hy,rfl⟩:=hx
    exact ⟨(trn_byte (hsr y hy)).2.1,(trn_byte (hsr y hy)).2.2.1⟩
  have hrr:=rev_rev hsr
  obtain ⟨k,hk,hki⟩:∃ k:Nat,(IntKind.i64.wrap n1).tmod ((i:Nat):Int) = (k:Nat) ∧ k < i:=by
    rw [i64w (by omega),Int.tmod_eq_emod_of_nonneg h1.1]
    have e0:=Int.emod_nonneg n1 (show ((i:Nat):Int) ≠ 0 by omega)
    have e1:=Int.emod_lt_of_pos n1 (show (0:Int) < (i:Nat) by omega)
    exact ⟨(n1 % ((i:Nat):Int)).toNat,by omega,by omega⟩
  with_reducible apply tr_call
  case hr=>exact rk_call (.of rfl) (.cons (.of rfl) .nil) inferInstance normc_
  case hd=>rfl
  case ht=>exact Takes.nil
  case hc=>
    intro w1 fp hm1 _ hs1
    obtain rfl:fp = []:=hs1
    exact bysV_c (byts_rd (E:=5) (v:=.slice (some ⟨g8,0,none⟩) (10 * i) c8) hm1 (by exact .here) hSl) (by omega)
  intro u1 _
  dsimp only [id_eq,List.cons_append,List.nil_append]
  skip
  with_reducible apply tr_call
  case hr=>exact rk_call (.of rfl) (.cons (.of rfl) .nil) inferInstance normc_
  case hd=>rfl
  case ht=>exact Takes.nil
  case hc=>
    intro w1 fp hm1 _ hs1
    obtain rfl:fp = []:=hs1
    exact reversed_c (byts_rd (E:=5) (v:=u1) hm1 (by exact .here) rfl) hsr
  intro r1 _
  dsimp only [id_eq,List.cons_append,List.nil_append]
  rw [hz0,show revX (strmL LS) = revL (strmL LS) by unfold revX;rw [if_pos hz0]]
  (refine m_v rfl rfl ?_;refine tr_val (rk_extract (.of rfl) rfl) rfl ?_;refine tr_val (rk_extract (.of rfl) rfl) rfl ?_;refine a_s rfl rfl ?_;refine a_s rfl rfl ?_;refine n_r ?_;refine m_v rfl rfl ?_)
  with_reducible apply tr_call
  case hr=>exact rk_call (.of rfl) (.cons (.of rfl) .nil) inferInstance normc_
  case hd=>rfl
  case ht=>exact Takes.nil
  case hc=>
    intro w1 fp hm1 _ hs1
    obtain rfl:fp = []:=hs1
    exact bysV_c (byts_rd (E:=5) (v:=r1) hm1 (by exact .here) rfl) (by omega)
  intro u2 _
  dsimp only [id_eq,List.cons_append,List.nil_append]
  skip
  with_reducible apply tr_call
  case hr=>exact rk_call (.of rfl) (.cons (.of rfl) .nil) inferInstance normc_
  case hd=>rfl
  case ht=>exact Takes.nil
  case hc=>
    intro w1 fp hm1 _ hs1
    obtain rfl:fp = []:=hs1
    exact reversed_c (byts_rd (E:=5) (v:=u2) hm1 (by exact .here) rfl) hrb
  intro r2 _
  dsimp only [id_eq,List.cons_append,List.nil_append]
  rw [hz0',show revX (revL (strmL LS)) = strmL LS by unfold revX;rw [if_pos hz0',hrr]]
  (refine m_v rfl rfl ?_;refine tr_val (rk_extract (.of rfl) rfl) rfl ?_;refine tr_val (rk_extract (.of rfl) rfl) rfl ?_;refine a_s rfl rfl ?_;refine a_s rfl rfl ?_;refine n_t ?_;refine tr_seq ?_;refine s_r ?_;refine m_v rfl rfl ?_;refine m_v rfl rfl ?_;refine tr_val (rk_add (.of rfl) (.of rfl) (ini (by omega))) rfl ?_;refine tr_val (rk_neq (.of rfl) (.of rfl)) rfl ?_;refine m_v rfl rfl ?_;refine tr_gOn rfl rfl ?_;refine m_v rfl rfl ?_;refine tr_gOn rfl rfl ?_)
  refine tr_val (rk_convRd (v:=r2) (l:=strmL LS) (.of rfl) (fun w' hm'=>(byts_rd (E:=5) (v:=r2) hm' (by exact .here) rfl))) rfl ?_
  (refine tr_gOn rfl rfl ?_;refine m_v rfl rfl ?_;refine tr_gOn rfl rfl ?_)
  refine tr_val (rk_convRd (v:=.slice (some ⟨g8,0,none⟩) (10 * i) c8) (l:=strmL LS) (.of rfl) (fun w' hm'=>byts_rd (E:=5) (v:=.slice (some ⟨g8,0,none⟩) (10 * i) c8) hm' (by exact Take.there (.there (.there (.there .here)))) hSl)) rfl ?_
  (refine tr_gOn rfl rfl ?_;refine tr_val (rk_neqsF (.of rfl) (.of rfl) rfl) rfl ?_;refine tr_val (rk_pickB (.of rfl) (.of rfl) (.of rfl) rfl) rfl ?_;refine n_t ?_;refine tr_cond_f (.of rfl) ?_;refine s_t ?_;refine s_r ?_;refine tr_val (rk_indexAddrA (.of rfl) (.of rfl) (by omega) (by omega) norm1_) rfl ?_;refine tr_val (rk_load1 (.of rfl) (At.lit (.there (.there (.there (.there (.there (.there (.there .here))))))) rfl)) rfl ?_;refine tr_val (rk_conv (.of rfl)) rfl ?_;refine m_v rfl rfl ?_;refine tr_val (rk_len_slice (.of rfl)) rfl ?_;refine tr_val (rk_remT (.of rfl) (.of rfl) (by omega)) rfl ?_;refine a_s rfl rfl ?_;refine n_r ?_;refine m_v rfl rfl ?_)
  rw [hk]
  with_reducible apply tr_call
  case hr=>exact rk_call (.of rfl) (.cons (.of rfl) .nil) inferInstance normc_
  case hd=>rfl
  case ht=>exact Takes.nil
  case hc=>
    intro w1 fp hm1 _ hs1
    obtain rfl:fp = []:=hs1
    exact bysV_c (byts_rd (E:=5) (v:=.slice (some ⟨g8,0,none⟩) (10 * i) c8) hm1 (by exact Take.there (.there (.there (.there .here)))) hSl) (by omega)
  intro dv _
  dsimp only [id_eq,List.cons_append,List.nil_append]
  (refine a_s rfl rfl ?_;refine n_t ?_;refine tr_seq ?_)
  refine tr_cutW [(27,dv),(26,.int .i64 (k:Nat)),(3,.pointer (some ⟨b3,0,none⟩)),(5,.pointer (some ⟨b5,0,none⟩)),(7,.slice (some ⟨g7,0,none⟩) i c7),(8,.slice (some ⟨g8,0,none⟩) (10 * i) c8)] [row 5 1 dv (strmL LS).length (bytsV (strmL LS)),row 5 1 (.slice (some ⟨g8,0,none⟩) (10 * i) c8) (10 * i) (bytsV (strmL LS)),row 50 7 (.slice (some ⟨g7,0,none⟩) i c7) i (stmsV LS),blk b3 (.cells #[.int .i64 s.ra.fr,.bool s.ra.dr,.int .i64 s.la.h,.int .i64 s.la.m,.int .i64 s.la.s,.int .i64 s.la.f,.int .i64 s.us] 50 (0,0)),blk b5 (.cells #[.int .u8 n0,.int .u8 n1,.int .u8 n2,.int .u8 n3] 135 (0,0))] (by exact .cons rfl (.cons rfl (.cons rfl (.cons rfl (.cons rfl (.cons rfl .nil)))))) (by exact .cons .here (.cons (.there (.there (.there (.there .here)))) (.cons (.there (.there (.there (.there .here)))) (.cons (.there (.there (.there (.there .here)))) (.cons (.there (.there (.there (.there .here)))) .nil))))) ?_
  rw [hSl]
  obtain ⟨m,hm,hm10⟩:∃ m:Nat,(IntKind.i64.wrap n2).tmod 10 = (m:Nat) ∧ m < 10:=by
    rw [i64w (by omega),Int.tmod_eq_emod_of_nonneg h2.1]
    exact ⟨(n2 % 10).toNat,by omega,by omega⟩
  obtain ⟨b,hb⟩:∃ b:Nat,n2 / 32 = b:=⟨(n2 / 32).toNat,by omega⟩
  have hb8:b < 8:=by omega
  have hkL:k < LS.length:=by omega
  have hbit:=strm_bit hoA hkL hm10 hb8
  have hpl:10 * k + m < (strmL LS).length:=by omega
  have hxb:=xorF_byte (wa (strmL LS) (10 * k + m)) ((2 ^ b:Nat):Int)
  refine tr_rowOpen (E:=5) (sz:=1) (v:=dv) (by exact .here) (show 0 < 10 * i by omega) ?_
  rintro gd cd curd rfl hcd1 hmd hzd hxd
  have e1:(((k:Nat):Int) * 10 + ((m:Nat):Int)).toNat * 1 = 10 * k + m:=by omega
  have g0:(bytsV (strmL LS)++curd)[(((k:Nat):Int) * 10 + ((m:Nat):Int)).toNat * 1]? = some (.int .u8 (wa (strmL LS) (10 * k + m))):=by
    rw [e1,bytsV_wc,List.getElem?_append_left (by rw [wc_len];omega)]
    unfold wcells wa
    rw [List.getElem?_map,List.getElem?_eq_getElem hpl,List.getD_eq_getElem?_getD,List.getElem?_eq_getElem hpl];rfl
  have g1:setCells (bytsV (strmL LS)++curd) ((((k:Nat):Int) * 10 + ((m:Nat):Int)).toNat * 1) [.int .u8 (xorF (wa (strmL LS) (10 * k + m)) ((2 ^ b:Nat):Int))] = bytsV ((strmL LS).set (10 * k + m) (xorF (wa (strmL LS) (10 * k + m)) ((2 ^ b:Nat):Int)))++curd:=by
    rw [e1,bytsV_wc,bytsV_wc]
    show (wcells (strmL LS)++curd).set (10 * k + m) _ = _
    rw [List.set_append_left _ _ (by rw [wc_len];exact hpl)]
    unfold wcells
    rw [List.map_set]
  have g2:(((k:Nat):Int) * 10 + ((m:Nat):Int)).toNat * 1 + 1 ≤ (bytsV (strmL LS)++curd).length:=by rw [e1,List.length_append,bytsV_len];omega
  with_reducible refine tr_draw 16 (by kernel_rfl) ?_
  refine a_m rfl rfl ?_
  refine a_m rfl rfl ?_
  refine any_val (rk_mul (.of rfl) (.of rfl) (ini (by omega))) rfl ?_
  refine any_val (rk_indexAddrA (.of rfl) (.of rfl) (by omega) (by omega) norm1_) rfl ?_
  refine any_val (rk_load1 (.of rfl) (At.lit (.there (.there (.there (.there .here)))) rfl)) rfl ?_
  refine any_val (rk_conv (.of rfl)) rfl ?_
  refine any_val (rk_tmodE ((m:Nat):Int) (.of rfl) (.of rfl) (by decide) hm) rfl ?_
  refine any_val (rk_add (.of rfl) (.of rfl) (ini (by omega))) rfl ?_
  refine any_val (rk_indexAddr (.of rfl) (.of rfl) rfl (by omega) (by omega) norm1_) rfl ?_
  refine any_val (rk_load1 (.of rfl) (At.blkL .here g0)) rfl ?_
  refine any_val (rk_indexAddrA (.of rfl) (.of rfl) (by omega) (by omega) norm1_) rfl ?_
  refine any_val (rk_load1 (.of rfl) (At.lit (.there (.there (.there (.there .here)))) rfl)) rfl ?_
  refine any_val (rk_quo8 (.of rfl) (.of rfl) h2 (by decide)) rfl ?_
  refine any_val (rk_shlE ((2 ^ b:Nat):Int) (.of rfl) (.of rfl) (by omega) (by show n2 / 32 ≤ 8;omega) (by rw [show (n2 / 32).toNat = b by omega];exact shl_bitF b hb8)) rfl ?_
  (refine any_val (rk_xor8 (.of rfl) (.of rfl)) rfl ?_;refine any_val (rk_indexAddr (.of rfl) (.of rfl) rfl (by omega) (by omega) norm1_) rfl ?_)
  with_reducible refine any_end ?_
  (refine tr_store (.of rfl) (.of rfl) .here rfl rfl (okc_cons rfl okc_nil) g2 g1 ?_;refine n_r ?_;refine m_v rfl rfl ?_)
  have hDl:((strmL LS).set (10 * k + m) (xorF (wa (strmL LS) (10 * k + m)) ((2 ^ b:Nat):Int))).length = 10 * i:=by rw [List.length_set,hSl]
  have hDb:∀ x ∈ (strmL LS).set (10 * k + m) (xorF (wa (strmL LS) (10 * k + m)) ((2 ^ b:Nat):Int)),0 ≤ x ∧ x ≤ 255:=fun x hx=>by
    rcases List.mem_or_eq_of_mem_set hx with h | h
    · exact hsr x h
    · rw [h];exact hxb
  refine tr_rowShut (g:=gd) (E:=5) (sz:=1) (n:=10 * i) (cap:=cd) (xs:=bytsV ((strmL LS).set (10 * k + m) (xorF (wa (strmL LS) (10 * k + m)) ((2 ^ b:Nat):Int)))) (cur:=curd) (by exact .here) hcd1 hmd (by rw [List.length_append,bytsV_len,hDl];rw [List.length_append,bytsV_len,hSl] at hzd;exact hzd) (by rw [bytsV_len,hDl]) ?_
  generalize (strmL LS).set (10 * k + m) (xorF (wa (strmL LS) (10 * k + m)) ((2 ^ b:Nat):Int)) = DS at *
  have hzD:hrdE DS.length = 0:=by unfold hrdE;rw [if_neg (by omega)]
  have hfD:fndL DS = hitL DS 0:=by unfold fndL;rw [if_pos hzD]
  have hfst:(hitL DS 0).map (·.1) = LS.take k++LS.drop (k + 1):=by rw [hbit,List.map_append,run_fst,run_fst]
  have hfl:(hitL DS 0).length = (LS.take k++LS.drop (k + 1)).length:=by rw [← hfst,List.length_map]
  with_reducible apply tr_call
  case hr=>exact rk_call (.of rfl) (.cons (.of rfl) .nil) inferInstance normc_
  case hd=>rfl
  case ht=>exact Takes.nil
  case hc=>
    intro w1 fp hm1 _ hs1
    obtain rfl:fp = []:=hs1
    exact found_c (byts_rd (E:=5) (v:=.slice (some ⟨gd,0,none⟩) (10 * i) cd) hm1 (by exact .here) hDl) hDb (hG.keeps hm1.keeps)
  intro ⟨d1,d2⟩ _
  dsimp only [id_eq,List.cons_append,List.nil_append]
  unfold hsV hnV
  rw [hzD,hfD]
  rw [hfst,hfl]
  generalize natsV (List.map (·.2) (hitL DS 0)) = junk
  (refine m_v rfl rfl ?_;refine tr_val (rk_extract (.of rfl) rfl) rfl ?_;refine tr_val (rk_extract (.of rfl) rfl) rfl ?_;refine tr_val (rk_extract (.of rfl) rfl) rfl ?_;refine a_s rfl rfl ?_;refine a_s rfl rfl ?_;refine a_s rfl rfl ?_;refine n_t ?_;refine tr_seq ?_)
  refine tr_cutW [(28,d1),(30,.int .i64 0),(26,.int .i64 (k:Nat)),(3,.pointer (some ⟨b3,0,none⟩)),(5,.pointer (some ⟨b5,0,none⟩)),(7,.slice (some ⟨g7,0,none⟩) i c7),(8,.slice (some ⟨g8,0,none⟩) (10 * i) c8)] [row 55 7 d1 (LS.take k++LS.drop (k + 1)).length (stmsV (LS.take k++LS.drop (k + 1))),row 5 1 (.slice (some ⟨g8,0,none⟩) (10 * i) c8) (10 * i) (bytsV (strmL LS)),row 50 7 (.slice (some ⟨g7,0,none⟩) i c7) i (stmsV LS),blk b3 (.cells #[.int .i64 s.ra.fr,.bool s.ra.dr,.int .i64 s.la.h,.int .i64 s.la.m,.int .i64 s.la.s,.int .i64 s.la.f,.int .i64 s.us] 50 (0,0)),blk b5 (.cells #[.int .u8 n0,.int .u8 n1,.int .u8 n2,.int .u8 n3] 135 (0,0))] (by exact .cons rfl (.cons rfl (.cons rfl (.cons rfl (.cons rfl (.cons rfl (.cons rfl .nil))))))) (by exact .cons .here (.cons (.there (.there .here)) (.cons (.there (.there .here)) (.cons (.there (.there .here)) (.cons (.there (.there .here)) .nil))))) ?_
  generalize hREST:LS.take k++LS.drop (k + 1) = REST at *
  have htk:LS.take k++LS.drop (k + 1) = REST:=hREST
  have hsl1:∀ j,(LS.take j).length ≤ 6:=fun j=>by rw [List.length_take];omega
  have hsl2:∀ j,(LS.drop j).length ≤ 6:=fun j=>by rw [List.length_drop];omega
  have hsT:∀ j,j ≤ i → ∀ w',Rd w' (.slice (some ⟨g7,0,none⟩) i c7) 7 (stms LS) → Rd w' (sliced (some ⟨g7,0,none⟩) 0 ((j:Nat):Int).toNat c7 7) 7 (stms (LS.take j)):=fun j hj w' h=>by
    have:=h.sliced (l:=0) (m:=j) (Nat.zero_le _) hj
    rw [List.drop_zero] at this
    unfold stms at this ⊢
    rwa [← List.map_take] at this
  have hsD:∀ j,j < i → ∀ w',Rd w' (.slice (some ⟨g7,0,none⟩) i c7) 7 (stms LS) → Rd w' (sliced (some ⟨g7,0,none⟩) (((j:Nat):Int) + 1).toNat i c7 7) 7 (stms (LS.drop (j + 1))):=fun j hj w' h=>by
    have:=h.sliced (l:=j + 1) (m:=i) (by omega) (Nat.le_refl _)
    rw [List.take_of_length_le (by rw [stms_length,hLl];exact Nat.le_refl _)] at this
    unfold stms at this ⊢
    rwa [← List.map_drop] at this
  have hREl:REST.length ≤ 12:=by
    rw [← htk,List.length_append]
    have:=hsl1 k;have:=hsl2 (k + 1);omega
  with_reducible refine tr_left 11 rfl ?_
  refine left_take 1 rfl kr_ kr_ kr_ (fun w ρ=>rfl) (fun w=>(rk_move (.of rfl))) rfl ?_
  refine left_take 2 rfl kr_ kr_ kr_ (fun w ρ=>rfl) (fun w=>(rk_move (.of rfl))) rfl ?_
  refine left_take 3 rfl kr_ kr_ kr_ (fun w ρ=>rfl) (fun w=>(rk_slice_h (.of rfl) (.of rfl) (by omega) (by omega))) rfl ?_
  refine left_take 5 rfl kr_ kr_ kr_ (fun w ρ=>rfl) (fun w=>(rk_move (.of rfl))) rfl ?_
  refine left_take 6 rfl kr_ kr_ kr_ (fun w ρ=>rfl) (fun w=>(rk_move (.of rfl))) rfl ?_
  refine left_take 7 rfl kr_ kr_ kr_ (fun w ρ=>rfl) (fun w=>(rk_add (.of rfl) (.of rfl) (ini (by omega)))) rfl ?_
  refine left_take 8 rfl kr_ kr_ kr_ (fun w ρ=>rfl) (fun w=>(rk_slice_l (.of rfl) (.of rfl) (by omega) (by omega))) rfl ?_
  refine left_ready (rs:=[0]) (by kernel_rfl) (by simp) (List.forall_mem_cons.2 ⟨?_,fun _ h=>absurd h List.not_mem_nil⟩)
  refine next_step rfl ?_
  with_reducible apply tr_new
  case hr=>exact rk_build0
  case hd=>rfl
  intro bq hbq
  (refine n_t ?_)
  refine tr_rowLitE (g:=bq) (E:=50) (ys:=[]) 0 7 (by exact .here) rfl rfl rfl ?_
  refine left_ready (rs:=[4]) (by kernel_rfl) (by simp) (List.forall_mem_cons.2 ⟨?_,fun _ h=>absurd h List.not_mem_nil⟩)
  refine next_step rfl ?_
  with_reducible apply tr_appendR (news:=stms (LS.take k))
  case hx=>exact Is.of rfl
  case hy=>exact Is.of rfl
  case ht=>exact .here
  case hsrc=>exact fun w' hm'=>hsT k (by omega) w' (stms_rd (E:=50) (v:=.slice (some ⟨g7,0,none⟩) i c7) hm' (by exact Take.there (.there (.there .here))) hLl)
  case h1=>exact stms_one _
  case hz=>exact rfl
  case hsz=>exact rfl
  case hb0=>exact rfl
  case hb=>rw [stms_length];have:=hsl1 k;omega
  case hd=>rfl
  intro y1
  rw [stms_length,List.nil_append,← stms_flat,Nat.zero_add]
  (refine n_t ?_)
  refine left_ready (rs:=[9]) (by kernel_rfl) (by simp) (List.forall_mem_cons.2 ⟨?_,fun _ h=>absurd h List.not_mem_nil⟩)
  refine next_step rfl ?_
  with_reducible apply tr_appendR (news:=stms (LS.drop (k + 1)))
  case hx=>exact Is.of rfl
  case hy=>exact Is.of rfl
  case ht=>exact .here
  case hsrc=>exact fun w' hm'=>hsD k (by omega) w' (stms_rd (E:=50) (v:=.slice (some ⟨g7,0,none⟩) i c7) hm' (by exact Take.there (.there (.there .here))) hLl)
  case h1=>exact stms_one _
  case hz=>exact rfl
  case hsz=>exact rfl
  case hb0=>exact rfl
  case hb=>rw [stms_length];have:=hsl1 k;have:=hsl2 (k + 1);omega
  case hd=>rfl
  intro y2
  rw [stms_length,← stms_flat,← stmsV_app,← List.length_append,htk]
  (refine n_t ?_)
  refine left_ready (rs:=[10]) (by kernel_rfl) (by simp) (List.forall_mem_cons.2 ⟨?_,fun _ h=>absurd h List.not_mem_nil⟩)
  refine next_step rfl ?_
  (refine a_s rfl rfl ?_;refine n_t ?_)
  with_reducible refine left_done (by kernel_rfl) ?_
  (refine tr_then ?_;refine tr_seq ?_;refine s_r ?_;refine m_v rfl rfl ?_;refine tr_val (rk_neqiF (.of rfl) (.of rfl) rfl) rfl ?_;refine m_v rfl rfl ?_;refine tr_gOn rfl rfl ?_;refine m_v rfl rfl ?_;refine tr_gOn rfl rfl ?_)
  with_reducible apply tr_call
  case hr=>exact rk_call (.of rfl) (.cons (.of rfl) .nil) inferInstance normc_
  case hd=>rfl
  case ht=>exact Takes.nil
  case hc=>
    intro w1 fp hm1 _ hs1
    obtain rfl:fp = []:=hs1
    exact heardV_c (stms_rd (E:=55) (v:=d1) hm1 (by exact Take.there .here) rfl) (by omega)
  intro v6 _
  dsimp only [id_eq,List.cons_append,List.nil_append]
  (refine tr_gOn rfl rfl ?_;refine m_v rfl rfl ?_;refine tr_gOn rfl rfl ?_)
  with_reducible apply tr_callV
  case hr=>exact rk_call (.of rfl) (.cons (.of rfl) (.cons (.of rfl) .nil)) inferInstance normc_
  case hd=>rfl
  case hc=>
    intro w' hm'
    have s1:=stms_rd (E:=50) (v:=v6) hm' (by exact .here) rfl
    have s2:=stms_rd (E:=50) (v:=y2) hm' (by exact Take.there .here) rfl
    have s3:=sameS_t s1 s2
    rw [decide_eq_true rfl] at s3
    exact s3
  (refine tr_gOn rfl rfl ?_;refine tr_val (rk_not (.of rfl)) rfl ?_;refine tr_val (rk_pickB (.of rfl) (.of rfl) (.of rfl) rfl) rfl ?_;refine n_t ?_;refine tr_cond_f (.of rfl) ?_;refine s_t ?_;refine s_r ?_;refine m_v rfl rfl ?_)
  with_reducible apply tr_call
  case hr=>exact rk_call (.of rfl) (.cons (.of rfl) .nil) inferInstance normc_
  case hd=>rfl
  case ht=>exact Takes.nil
  case hc=>
    intro w1 fp hm1 _ hs1
    obtain rfl:fp = []:=hs1
    exact stampsV_c (stms_rd (E:=50) (v:=.slice (some ⟨g7,0,none⟩) i c7) hm1 (by exact Take.there (.there (.there (.there .here)))) hLl) (by omega)
  intro v7 _
  dsimp only [id_eq,List.cons_append,List.nil_append]
  skip
  with_reducible apply tr_call
  case hr=>exact rk_call (.of rfl) (.cons (.of rfl) .nil) inferInstance normc_
  case hd=>rfl
  case ht=>exact Takes.nil
  case hc=>
    intro w1 fp hm1 _ hs1
    obtain rfl:fp = []:=hs1
    exact jumps_c (stms_rd (E:=55) (v:=v7) hm1 (by exact .here) rfl) (hG.keeps hm1.keeps)
  intro j1 _
  dsimp only [id_eq,List.cons_append,List.nil_append]
  rw [stsE_ok hoA (by omega),show jmpX LS = [] by unfold jmpX;rw [if_pos (stsE_ok hoA (by omega)),hLl];exact hjs]
  refine tr_rowSl (E:=3) (sz:=1) (v:=j1) (by exact .here) fun aj cj e=>?_
  subst e
  (refine m_v rfl rfl ?_;refine tr_val (rk_extract (.of rfl) rfl) rfl ?_;refine tr_val (rk_extract (.of rfl) rfl) rfl ?_;refine a_s rfl rfl ?_;refine a_s rfl rfl ?_;refine n_t ?_;refine tr_seq ?_;refine s_r ?_;refine m_v rfl rfl ?_;refine tr_val (rk_neqiF (.of rfl) (.of rfl) rfl) rfl ?_;refine m_v rfl rfl ?_;refine tr_gOn rfl rfl ?_;refine m_v rfl rfl ?_;refine tr_gOn rfl rfl ?_;refine tr_val (rk_len_slice (.of rfl)) rfl ?_;refine tr_gOn rfl rfl ?_;refine tr_val (rk_neq (.of rfl) (.of rfl)) rfl ?_;refine tr_val (rk_pickB (.of rfl) (.of rfl) (.of rfl) rfl) rfl ?_;refine n_t ?_;refine tr_cond_f (.of rfl) ?_;refine s_t ?_;refine s_r ?_;refine tr_val (rk_indexAddrA (.of rfl) (.of rfl) (by omega) (by omega) norm1_) rfl ?_;refine tr_val (rk_load1 (.of rfl) (At.lit (.there (.there (.there (.there (.there (.there (.there (.there .here)))))))) rfl)) rfl ?_;refine tr_val (rk_conv (.of rfl)) rfl ?_;refine m_v rfl rfl ?_;refine tr_val (rk_len_slice (.of rfl)) rfl ?_;refine tr_val (rk_remT (.of rfl) (.of rfl) (by omega)) rfl ?_;refine a_s rfl rfl ?_;refine n_t ?_;refine tr_seq ?_)
  obtain ⟨o,ho,hoi⟩:∃ o:Nat,(IntKind.i64.wrap n3).tmod ((i:Nat):Int) = (o:Nat) ∧ o < i:=by
    rw [i64w (by omega),Int.tmod_eq_emod_of_nonneg h3.1]
    have e0:=Int.emod_nonneg n3 (show ((i:Nat):Int) ≠ 0 by omega)
    have e1:=Int.emod_lt_of_pos n3 (show (0:Int) < (i:Nat) by omega)
    exact ⟨(n3 % ((i:Nat):Int)).toNat,by omega,by omega⟩
  rw [ho]
  refine tr_cutW [(34,.int .i64 (o:Nat)),(3,.pointer (some ⟨b3,0,none⟩)),(5,.pointer (some ⟨b5,0,none⟩)),(7,.slice (some ⟨g7,0,none⟩) i c7),(8,.slice (some ⟨g8,0,none⟩) (10 * i) c8)] [row 5 1 (.slice (some ⟨g8,0,none⟩) (10 * i) c8) (10 * i) (bytsV (strmL LS)),row 50 7 (.slice (some ⟨g7,0,none⟩) i c7) i (stmsV LS),blk b3 (.cells #[.int .i64 s.ra.fr,.bool s.ra.dr,.int .i64 s.la.h,.int .i64 s.la.m,.int .i64 s.la.s,.int .i64 s.la.f,.int .i64 s.us] 50 (0,0)),blk b5 (.cells #[.int .u8 n0,.int .u8 n1,.int .u8 n2,.int .u8 n3] 135 (0,0))] (by exact .cons rfl (.cons rfl (.cons rfl (.cons rfl (.cons rfl .nil))))) (by exact .cons (.there (.there (.there (.there (.there .here))))) (.cons (.there (.there (.there (.there (.there .here))))) (.cons (.there (.there (.there (.there (.there .here))))) (.cons (.there (.there (.there (.there (.there .here))))) .nil)))) ?_
  have hco:=hcut o hoi
  have hCl:(LS.take o++LS.drop (o + 1)).length = i - 1:=by rw [List.length_append,List.length_take,List.length_drop,hLl];omega
  have hCo:∀ x ∈ LS.take o++LS.drop (o + 1),StOk x:=fun x hx=>by
    rcases List.mem_append.1 hx with h | h
    · exact hoA x (List.mem_of_mem_take h)
    · exact hoA x (List.mem_of_mem_drop h)
  obtain ⟨CUT,hCUT⟩:∃ C,LS.take o++LS.drop (o + 1) = C:=⟨_,rfl⟩
  rw [hCUT] at hco hCl hCo
  have hse:=stsE_ok hCo (by omega)
  have hjx:jmpX CUT = if o = 0 ∨ o = i - 1 then [] else [o]:=by unfold jmpX;rw [if_pos hse,hCl];exact hco
  with_reducible refine tr_left 17 rfl ?_
  refine left_take 1 rfl kr_ kr_ kr_ (fun w ρ=>rfl) (fun w=>(rk_move (.of rfl))) rfl ?_
  refine left_take 2 rfl kr_ kr_ kr_ (fun w ρ=>rfl) (fun w=>(rk_move (.of rfl))) rfl ?_
  refine left_take 3 rfl kr_ kr_ kr_ (fun w ρ=>rfl) (fun w=>(rk_slice_h (.of rfl) (.of rfl) (by omega) (by omega))) rfl ?_
  refine left_take 5 rfl kr_ kr_ kr_ (fun w ρ=>rfl) (fun w=>(rk_move (.of rfl))) rfl ?_
  refine left_take 6 rfl kr_ kr_ kr_ (fun w ρ=>rfl) (fun w=>(rk_move (.of rfl))) rfl ?_
  refine left_take 7 rfl kr_ kr_ kr_ (fun w ρ=>rfl) (fun w=>(rk_add (.of rfl) (.of rfl) (ini (by omega)))) rfl ?_
  refine left_take 8 rfl kr_ kr_ kr_ (fun w ρ=>rfl) (fun w=>(rk_slice_l (.of rfl) (.of rfl) (by omega) (by omega))) rfl ?_
  refine left_ready (rs:=[0]) (by kernel_rfl) (by simp) (List.forall_mem_cons.2 ⟨?_,fun _ h=>absurd h List.not_mem_nil⟩)
  refine next_step rfl ?_
  with_reducible apply tr_new
  case hr=>exact rk_build0
  case hd=>rfl
  intro bq hbq
  (refine n_t ?_)
  refine tr_rowLitE (g:=bq) (E:=50) (ys:=[]) 0 7 (by exact .here) rfl rfl rfl ?_
  refine left_ready (rs:=[4]) (by kernel_rfl) (by simp) (List.forall_mem_cons.2 ⟨?_,fun _ h=>absurd h List.not_mem_nil⟩)
  refine next_step rfl ?_
  with_reducible apply tr_appendR (news:=stms (LS.take o))
  case hx=>exact Is.of rfl
  case hy=>exact Is.of rfl
  case ht=>exact .here
  case hsrc=>exact fun w' hm'=>hsT o (by omega) w' (stms_rd (E:=50) (v:=.slice (some ⟨g7,0,none⟩) i c7) hm' (by exact Take.there (.there .here)) hLl)
  case h1=>exact stms_one _
  case hz=>exact rfl
  case hsz=>exact rfl
  case hb0=>exact rfl
  case hb=>rw [stms_length];have:=hsl1 o;omega
  case hd=>rfl
  intro y3
  rw [stms_length,List.nil_append,← stms_flat,Nat.zero_add]
  (refine n_t ?_)
  refine left_ready (rs:=[9]) (by kernel_rfl) (by simp) (List.forall_mem_cons.2 ⟨?_,fun _ h=>absurd h List.not_mem_nil⟩)
  refine next_step rfl ?_
  with_reducible apply tr_appendR (news:=stms (LS.drop (o + 1)))
  case hx=>exact Is.of rfl
  case hy=>exact Is.of rfl
  case ht=>exact .here
  case hsrc=>exact fun w' hm'=>hsD o (by omega) w' (stms_rd (E:=50) (v:=.slice (some ⟨g7,0,none⟩) i c7) hm' (by exact Take.there (.there .here)) hLl)
  case h1=>exact stms_one _
  case hz=>exact rfl
  case hsz=>exact rfl
  case hb0=>exact rfl
  case hb=>rw [stms_length];have:=hsl1 o;have:=hsl2 (o + 1);omega
  case hd=>rfl
  intro y4
  rw [stms_length,← stms_flat,← stmsV_app,← List.length_append,hCUT]
  (refine n_t ?_)
  refine left_ready (rs:=[10]) (by kernel_rfl) (by simp) (List.forall_mem_cons.2 ⟨?_,fun _ h=>absurd h List.not_mem_nil⟩)
  refine next_step rfl ?_
  with_reducible apply tr_call
  case hr=>exact rk_call (.of rfl) (.cons (.of rfl) .nil) inferInstance normc_
  case hd=>rfl
  case ht=>exact Takes.nil
  case hc=>
    intro w1 fp hm1 _ hs1
    obtain rfl:fp = []:=hs1
    exact stampsV_c (stms_rd (E:=50) (v:=y4) hm1 (by exact .here) rfl) (by omega)
  intro v8 _
  dsimp only [id_eq,List.cons_append,List.nil_append]
  (refine n_t ?_)
  refine left_ready (rs:=[11]) (by kernel_rfl) (by simp) (List.forall_mem_cons.2 ⟨?_,fun _ h=>absurd h List.not_mem_nil⟩)
  refine next_step rfl ?_
  with_reducible apply tr_call
  case hr=>exact rk_call (.of rfl) (.cons (.of rfl) .nil) inferInstance normc_
  case hd=>rfl
  case ht=>exact Takes.nil
  case hc=>
    intro w1 fp hm1 _ hs1
    obtain rfl:fp = []:=hs1
    exact jumps_c (stms_rd (E:=55) (v:=v8) hm1 (by exact .here) rfl) (hG.keeps hm1.keeps)
  intro j2 _
  dsimp only [id_eq,List.cons_append,List.nil_append]
  rw [hse,hjx]
  (refine n_t ?_)
  refine left_take 12 rfl kr_ kr_ kr_ (fun w ρ=>rfl) (fun w=>(rk_move (.of rfl))) rfl ?_
  refine left_take 13 rfl kr_ kr_ kr_ (fun w ρ=>rfl) (fun w=>(rk_extract (.of rfl) rfl)) rfl ?_
  refine left_take 14 rfl kr_ kr_ kr_ (fun w ρ=>rfl) (fun w=>(rk_extract (.of rfl) rfl)) rfl ?_
  refine left_take 15 rfl kr_ kr_ kr_ (fun w ρ=>rfl) (fun w=>(rk_assign (.of rfl))) rfl ?_
  refine left_take 16 rfl kr_ kr_ kr_ (fun w ρ=>rfl) (fun w=>(rk_assign (.of rfl))) rfl ?_
  with_reducible refine left_done (by kernel_rfl) ?_
  refine tr_cutW [(34,.int .i64 (o:Nat)),(35,j2),(36,.int .i64 0),(3,.pointer (some ⟨b3,0,none⟩)),(5,.pointer (some ⟨b5,0,none⟩)),(7,.slice (some ⟨g7,0,none⟩) i c7),(8,.slice (some ⟨g8,0,none⟩) (10 * i) c8)] [row 3 1 j2 (if o = 0 ∨ o = i - 1 then ([]:List Nat) else [o]).length (natsV (if o = 0 ∨ o = i - 1 then ([]:List Nat) else [o])),row 5 1 (.slice (some ⟨g8,0,none⟩) (10 * i) c8) (10 * i) (bytsV (strmL LS)),row 50 7 (.slice (some ⟨g7,0,none⟩) i c7) i (stmsV LS),blk b3 (.cells #[.int .i64 s.ra.fr,.bool s.ra.dr,.int .i64 s.la.h,.int .i64 s.la.m,.int .i64 s.la.s,.int .i64 s.la.f,.int .i64 s.us] 50 (0,0)),blk b5 (.cells #[.int .u8 n0,.int .u8 n1,.int .u8 n2,.int .u8 n3] 135 (0,0))] (by exact .cons rfl (.cons rfl (.cons rfl (.cons rfl (.cons rfl (.cons rfl (.cons rfl .nil))))))) (by exact .cons .here (.cons (.there (.there .here)) (.cons (.there (.there .here)) (.cons (.there (.there .here)) (.cons (.there (.there .here)) .nil))))) ?_
  by_cases hoc:o = 0 ∨ o = i - 1
  · rw [if_pos hoc]
    refine tr_rowSl (E:=3) (sz:=1) (v:=j2) (by exact .here) fun aj cj e=>?_
    subst e
    (refine tr_then ?_;refine tr_seq ?_;refine s_r ?_;refine m_v rfl rfl ?_;refine tr_val (rk_eql (.of rfl) (.of rfl)) rfl ?_;refine m_v rfl rfl ?_;refine v_g rfl rfl rfl rfl ?_;refine v_g rfl rfl rfl rfl ?_;refine tr_vG1 rfl rfl inferInstance (fun hg hgp=>(rk_len_slice (.ofg hg rfl))) rfl ?_;refine tr_vG1 rfl rfl inferInstance (fun hg hgp=>(rk_sub (.ofg hg rfl) (.of rfl) (ini (by omega)))) rfl ?_;refine tr_vG1 rfl rfl inferInstance (fun hg hgp=>(rk_eql (.ofg hg rfl) (.ofg hg rfl))) rfl ?_;refine tr_val (rk_pick_or (.of rfl) rfl) rfl ?_;refine n_t ?_;refine c_b rfl (fun hcd=>?_) (fun _=>by omega);refine s_r ?_;refine m_v rfl rfl ?_;refine tr_val (rk_eqlT (.of rfl) (.of rfl) rfl) rfl ?_;refine m_v rfl rfl ?_;refine tr_gOn rfl rfl ?_;refine m_v rfl rfl ?_;refine tr_gOn rfl rfl ?_;refine tr_val (rk_len_slice (.of rfl)) rfl ?_;refine tr_gOn rfl rfl ?_;refine tr_val (rk_eqlT (.of rfl) (.of rfl) rfl) rfl ?_;refine tr_val (rk_pickB (.of rfl) (.of rfl) (.of rfl) rfl) rfl ?_;refine m_v rfl rfl ?_;refine tr_gOn rfl rfl ?_)
    with_reducible apply tr_callV (V:=Value.bool true)
    case hr=>exact rk_call (.of rfl) .nil inferInstance normc_
    case hd=>rfl
    case hc=>
      intro w' hm'
      exact awake_c _ (hG.keeps hm'.keeps) (hT.keeps hm'.keeps)
    (refine tr_val (rk_pickB (.of rfl) (.of rfl) (.of rfl) rfl) rfl ?_;refine a_s rfl rfl ?_;refine n_t ?_;refine r_t ?_;refine tr_retE rfl (ends1 rfl rfl) ?_)
    rfl
  · rw [if_neg hoc]
    (refine tr_then ?_;refine tr_seq ?_;refine s_r ?_;refine m_v rfl rfl ?_;refine tr_val (rk_eql (.of rfl) (.of rfl)) rfl ?_;refine m_v rfl rfl ?_;refine v_g rfl rfl rfl rfl ?_;refine v_g rfl rfl rfl rfl ?_;refine tr_vG1 rfl rfl inferInstance (fun hg hgp=>(rk_len_slice (.ofg hg rfl))) rfl ?_;refine tr_vG1 rfl rfl inferInstance (fun hg hgp=>(rk_sub (.ofg hg rfl) (.of rfl) (ini (by omega)))) rfl ?_;refine tr_vG1 rfl rfl inferInstance (fun hg hgp=>(rk_eql (.ofg hg rfl) (.ofg hg rfl))) rfl ?_;refine tr_val (rk_pick_or (.of rfl) rfl) rfl ?_;refine n_t ?_;refine c_b rfl (fun _=>by omega) (fun hcd=>?_);refine s_t ?_;refine s_r ?_;refine m_v rfl rfl ?_;refine tr_val (rk_eqlT (.of rfl) (.of rfl) rfl) rfl ?_;refine m_v rfl rfl ?_;refine tr_gOn rfl rfl ?_;refine m_v rfl rfl ?_;refine tr_gOn rfl rfl ?_;refine m_v rfl rfl ?_;refine tr_gOn rfl rfl ?_;refine tr_new (rk_sliceLit (.cons (.of rfl) .nil) rfl rfl rfl rfl) rfl (fun _ _=>?_);refine tr_gOn rfl rfl ?_)
    with_reducible apply tr_callV
    case hr=>exact rk_call (.of rfl) (.cons (.of rfl) (.cons (.of rfl) .nil)) inferInstance normc_
    case hd=>rfl
    case hc=>
      intro w' hm'
      have s1:=intg_rd (E:=3) (v:=j2) (l:=([o]:List Nat).map fun (n:Nat)=>(n:Int)) (n:=([o]:List Nat).length) hm' (by rw [← natsV_intg];exact Take.there .here) (by simp)
      have s2:Rd w' _ 1 (intg [(o:Int)]):=Mem.rdBlk hm' (by exact .here) rfl rfl
      have s3:=sameI_t s1 s2
      rw [decide_eq_true (by rfl)] at s3
      exact s3
    (refine tr_val (rk_pickB (.of rfl) (.of rfl) (.of rfl) rfl) rfl ?_;refine m_v rfl rfl ?_;refine tr_gOn rfl rfl ?_)
    with_reducible apply tr_callV (V:=Value.bool true)
    case hr=>exact rk_call (.of rfl) .nil inferInstance normc_
    case hd=>rfl
    case hc=>
      intro w' hm'
      exact awake_c _ (hG.keeps hm'.keeps) (hT.keeps hm'.keeps)
    (refine tr_val (rk_pickB (.of rfl) (.of rfl) (.of rfl) rfl) rfl ?_;refine a_s rfl rfl ?_;refine n_t ?_;refine tr_ret ?_;refine tr_retE rfl (ends1 rfl rfl) ?_)
    rfl
end Go.Proofs.A1
