/- Parts of the proof: V19. -/
import Derived.Test.YtfbgbipclgljaaaGreatDoorWM24
import Derived.Test.YtfbgbipclgljaaaGreatDoorWM25
import Derived.Test.YtfbgbipclgljaaaGreatDoorWM26
import Derived.Test.YtfbgbipclgljaaaGreatDoorWM22
import Derived.Test.YtfbgbipclgljaaaGreatDoorWM06
set_option linter.unusedSectionVars false
set_option linter.unusedVariables false
set_option linter.unusedSimpArgs false
namespace Go.Proofs.A1
open Go Go.SL
theorem Gives.sliceW {P:Program} {f:FuncId} {args:List Value} {w:World} {md:List Nat} {E:TypeId} {sz n:Nat} {xs:List Value} {val:Value → Value} (h:Gives P f args w md (fun _:Value=>True) val (fun v=>[row E sz v n xs])) :
    Gives P f args w md (fun _:Option Addr × Nat=>True) (fun x=>val (.slice x.1 n x.2)) (fun x=>[row E sz (.slice x.1 n x.2) n xs]):=
  Calls.mono h fun e w' ⟨v,he,_,hk,fp,hn,hs,hf⟩=>by
    have hv:∃ x:Option Addr × Nat,v = .slice x.1 n x.2:=by
      obtain ⟨f1,f2,_,⟨_,_,⟨e1,e2⟩ | ⟨g,cap,cur,e1,_⟩⟩,_⟩:=hs
      · exact ⟨(none,0),by rw [e1,e2]⟩
      · exact ⟨(_,cap),e1⟩
    obtain ⟨x,rfl⟩:=hv
    exact ⟨x,he,trivial,hk,fp,hn,hs,hf⟩
def gsW:Value → Option Addr × Nat
  | .slice a _ c=>(a,c)
  | _=>(none,0)
theorem gsW_of (x:Option Addr × Nat):∃ v,gsW v = x:=⟨.slice x.1 0 x.2,rfl⟩
theorem rk_neqiF {P:Program} {c:Cx} {sl:Slots} {hs:List Asn} {dst:Option Tmp} {ty:TypeId} {pos:String} {af:Array Edge} {g:Option (Nat × Bool)} {k:IntKind} {t u:TypeId} {x y:Operand} {a b:Int} (hx:Is sl x (.int k a)) (hy:Is sl y (.int k b)) (e:a = b) :
    RunV P c sl hs ⟨dst,.binOp .neq t x y u,ty,pos,af,g⟩ (.bool false):=by
  have:=rk_neq (P:=P) (c:=c) (hs:=hs) (dst:=dst) (ty:=ty) (pos:=pos) (af:=af) (g:=g) (t:=t) (u:=u) hx hy
  rwa [decide_eq_false (by rw [e];simp)] at this
theorem spV_flat (es:List En) (k:Nat):(spL es k).flatMap duoV = spV es k:=rfl
theorem timesV_c {sv:Value} {es:List En} {w:World} (h1:Rd w sv 6 (ensL es)) (hG:Glob w) (hz:chkF es = 0) :
    Gives Tryz.prog 19 [.agg #[sv]] w [] (fun _:Value=>True) (fun v=>.tuple #[v,.int .i64 0]) (fun v=>[row 66 2 v es.length (spV es es.length)]):=by
  have:=times_c h1 hG
  have hl:(spL es es.length).length = es.length:=by simp [spL]
  rw [hz,show tmL es = spL es es.length by rw [tmL,if_pos hz],hl,spV_flat] at this
  exact this
set_option maxHeartbeats 4000000 in
theorem back_law {sv:Value} {es:List En} {s:ByteArray} {n:Int} {w:World} (h1:Rd w sv 6 (ensL es)) (hM:MaxL w) (hG:Glob w) (hT:Tab10 w) :
    GivesV Tryz.prog 13 [.agg #[sv],.string s,.int .i64 n] w (.bool true):=by
  have hone1:=Rd.one h1
  have h1':=h1
  obtain ⟨a,cap,bb,o,rfl,hcap,hmax,ha,hc⟩:=h1'
  rw [ensL_length] at *
  unfold maxLen at hmax
  have haw:∀ w',Keeps [] w w' → GivesV Tryz.prog 17 [] w' (.bool true):=fun w' hk=>awake_c w' (hG.keeps hk) (hT.keeps hk)
  have hva1:∀ w',Keeps [] w w' → GivesV Tryz.prog 59 [.agg #[.slice a es.length cap]] w' (.bool (validB es)):=fun w' hk=>valid_c (h1.keeps hk)
  refine givesV_of_tr Tryz.func13 rfl rfl ?_
  (refine s_r ?_;refine tr_new (rk_box (.of rfl) rfl) rfl (fun _ _=>?_);refine a_s rfl rfl ?_;refine n_t ?_;refine tr_seq ?_;refine s_r ?_;refine tr_callV (rk_call (.of rfl) .nil inferInstance normc_) rfl (fun w' hm'=>(haw w' (Mem.keeps hm'))) ?_;refine tr_val (rk_not (.of rfl)) rfl ?_;refine m_v rfl rfl ?_;refine tr_vG1 rfl rfl inferInstance (fun hg hgp=>(rk_loadB (.of rfl) .here norm_ (by rfl))) rfl ?_;refine tr_callVG1 rfl rfl (fun hg=>(rk_call (.of rfl) (.cons (.ofg hg rfl) .nil) inferInstance normc_)) rfl (fun hg w' hm'=>(hva1 w' (Mem.keeps hm'))) ?_;refine tr_vG1 rfl rfl inferInstance (fun hg hgp=>(rk_not (.ofg hgp rfl))) rfl ?_;refine tr_val (rk_pick_or (.of rfl) rfl) rfl ?_;refine m_v rfl rfl ?_;refine v_g rfl rfl rfl rfl ?_;refine tr_vG1 rfl rfl inferInstance (fun hg hgp=>(rk_len_string (.ofg hg rfl))) rfl ?_;refine tr_vG1 rfl rfl inferInstance (fun hg hgp=>(rk_gtr (.ofg hg rfl) (.of rfl))) rfl ?_;refine tr_val (rk_pick_or (.of rfl) rfl) rfl ?_;refine m_v rfl rfl ?_;refine v_g rfl rfl rfl rfl ?_;refine tr_callVG1 rfl rfl (fun hg=>(rk_call (.of rfl) (.cons (.ofg hg rfl) (.cons (.of rfl) (.cons (.of rfl) .nil))) inferInstance normc_)) rfl (fun hg w' hm'=>(range_q n _ 10000000 w')) ?_;refine tr_vG1 rfl rfl inferInstance (fun hg hgp=>(rk_neq (.ofg hg rfl) (.of rfl))) rfl ?_;refine tr_val (rk_pick_or (.of rfl) rfl) rfl ?_;refine n_t ?_;refine c_b rfl (fun hcd=>?_) (fun hcd=>?_);refine s_r ?_;refine tr_callV (rk_call (.of rfl) .nil inferInstance normc_) rfl (fun w' hm'=>(haw w' (Mem.keeps hm'))) ?_;refine a_s rfl rfl ?_;refine n_t ?_;refine r_t ?_;refine tr_retE rfl (ends1 rfl rfl) ?_;rotate_left;refine s_t ?_;refine s_r ?_;refine tr_val (rk_loadB (.of rfl) .here norm_ (by rfl)) rfl ?_;rotate_right)
  · rfl
  rename_i b3 hb3
  obtain ⟨⟨⟨-,hvb⟩,hsz0⟩,hwn⟩:=hcd
  obtain ⟨hsho,h8,hz⟩:=validB_iff hvb
  have hsz:s.size ≤ 4900:=by omega
  have hn:-10000000 ≤ n ∧ n ≤ 10000000:=by
    have:withinF n (-10000000) 10000000 = 0:=Decidable.not_not.1 hwn
    rwa [withinF_zero] at this
  clear hwn hsz0 hvb
  have hfe:es.length ≤ 1000:=by omega
  have hOw:∀ (v:Value) (l:List En) w',l.length ≤ 1000 → Rd w' v 6 (ensL l) → _:=fun v l w' hl r=>own_c r hl
  have hcode:=sf_code hz hn
  have hback:=fun h=>sf_back hz hn h
  have hLl:(sfL es n).length ≤ 1000:=by
    unfold sfL
    split
    · rw [shK_len];exact hfe
    · exact Nat.zero_le _
  have hSh:∀ (v1:Value) w',Keeps [] w w' → Rd w' v1 6 (ensL es) → _:=fun v1 w' hk r=>shiftedX_c (by':=n) r (hG.keeps hk)
  have hSb:sfE es n = 0 → ∀ (v1:Value) w',Keeps [] w w' → Rd w' v1 6 (ensL (sfL es n)) → Gives Tryz.prog 88 [.agg #[v1],.int .i64 (-n)] w' [] (fun _:Value=>True) (fun v=>.tuple #[.agg #[v],.int .i64 0]) (fun v=>[row 138 6 v es.length (ensL es).flatten]):=fun h0 v1 w' hk r=>by
    have:=shiftedX_c (by':=-n) r (hG.keeps hk)
    rwa [(hback h0).2.1,(hback h0).2.2.1] at this
  have hTe:∀ (v:Value) w',Keeps [] w w' → Rd w' v 6 (ensL es) → _:=fun v w' hk r=>timesV_c r (hG.keeps hk) hz
  have hTl:sfE es n = 0 → ∀ (v:Value) w',Keeps [] w w' → Rd w' v 6 (ensL (sfL es n)) → Gives Tryz.prog 19 [.agg #[v]] w' [] (fun _:Value=>True) (fun v=>.tuple #[v,.int .i64 0]) (fun v=>[row 66 2 v es.length (spV (sfL es n) es.length)]):=fun h0 v w' hk r=>by
    have:=timesV_c r (hG.keeps hk) (hback h0).1
    rwa [(hback h0).2.2.2.1] at this
  have hLe:sfE es n = 0 → (sfL es n).length = es.length:=fun h0=>(hback h0).2.2.2.1
  have hfr:sfE es n = 0 → ∀ i,i < es.length → fr (sfL es n) i = fr es i + n ∧ to (sfL es n) i = to es i + n:=fun h0=>(hback h0).2.2.2.2
  clear hback
  obtain ⟨r1,r2,r3,r4⟩:=pr_read hz
  have hpl:=pr_len hz
  have hnil:=pr_nil hz
  have hcut:=fun hne t ht=>pr_cut (t:=t) hz hne ht
  have hend:=fun hne=>pr_end hz hne
  have hPr:∀ (v:Value) w',Keeps [] w w' → Rd w' v 6 (ensL es) → GivesV Tryz.prog 81 [.agg #[v]] w' (.tuple #[.string (prF es),.int .i64 0]):=fun v w' hk r=>by
    have:=print_c r (hG.keeps hk) (hT.keeps hk)
    rwa [hz] at this
  generalize prF es = pr at hPr hnil hcut hend hpl r1 r2 r3 r4
  have hprs:pr.size ≤ 4900:=by rw [size_toL];omega
  have hPa:∀ w',Keeps [] w w' → Gives Tryz.prog 82 [.string pr] w' [] (fun _:Value=>True) (fun v=>.tuple #[.agg #[v],.int .i64 0,.int .i64 0]) (fun v=>[row 138 6 v es.length (ensL es).flatten]):=fun w' hk=>by
    have:=parse_c hprs (hM.keeps hk) (hG.keeps hk)
    rwa [r1,r2,r3] at this
  have hSpl:∀ w',Gives Tryz.prog 89 [.string pr,.int .u8 10] w' [] (fun _:Option Addr × Nat=>True) (fun z=>.slice z.1 (es.length + 1) z.2) (fun z=>[row 9 1 (.slice z.1 (es.length + 1) z.2) (es.length + 1) (strs (splL 10 (toL pr)))]):=fun w'=>by
    have:=Gives.sliceW (split_q (c:=10) (by omega:pr.size ≤ 5000) w')
    rwa [r4] at this
  have hPs:∀ w',Keeps [] w w' → _:=fun w' hk=>parse_c hsz (hM.keeps hk) (hG.keeps hk)
  have hfl:=txL_few (toL s)
  have htx:=fun h=>tx_print (s:=s) h
  have hP2:txE (toL s) = 0 → ∀ (v:Value) w',Keeps [] w w' → Rd w' v 6 (ensL (txL (toL s))) → GivesV Tryz.prog 81 [.agg #[v]] w' (.tuple #[.string s,.int .i64 0]):=fun h0 v w' hk r=>by
    have:=print_c r (hG.keeps hk) (hT.keeps hk)
    rwa [(htx h0).1,(htx h0).2] at this
  clear htx
  generalize txL (toL s) = L2 at hPs hfl hP2
  generalize txI (toL s) = I2 at hPs
  generalize txE (toL s) = T2 at hPs hP2
  have hPc:pr ≠ ⟨#[]⟩ → ∀ w',Keeps [] w w' → Gives Tryz.prog 82 [.string (pr.extract 0 (((pr.size:Int) - 1).toNat))] w' [] (fun _:Value=>True) (fun v=>.tuple #[.agg #[v],.int .i64 ((es.length:Int) - 1),.int .i64 25]) (fun v=>[row 138 6 v 0 []]):=fun hne w' hk=>by
    have hes:es ≠ []:=fun e=>hne (hnil.2 e)
    obtain ⟨t,ht⟩:=hend hes
    have e1:pr.size = t.length + 1:=by rw [size_toL,ht,List.length_append,List.length_singleton]
    have e2:toL (pr.extract 0 (((pr.size:Int) - 1).toNat)) = t:=by
      rw [toL_extract,List.drop_zero,ht,e1,show (((t.length + 1:Nat):Int) - 1).toNat = t.length by omega,List.take_left]
    have:=parse_c (s:=pr.extract 0 (((pr.size:Int) - 1).toNat)) (by rw [size_toL,e2];omega) (hM.keeps hk) (hG.keeps hk)
    rw [e2] at this
    obtain ⟨c1,c2,c3⟩:=hcut hes t ht
    rwa [c1,c2,c3] at this
  have hpos:pr ≠ ⟨#[]⟩ → 1 ≤ pr.size:=fun hne=>by
    obtain ⟨t,ht⟩:=hend fun e=>hne (hnil.2 e)
    rw [size_toL,ht,List.length_append,List.length_singleton];omega
  have hlen1:((es.length + 1:Nat):Int) = (es.length:Int) + 1:=rfl
  clear hcut hend hnil r1 r2 r3 r4
  generalize sfE es n = Es at hSh hSb hTl hLe hfr hcode
  generalize sfL es n = Ls at hSh hSb hTl hLe hfr hLl
  with_reducible apply tr_call
  case hr=>exact rk_call (.of rfl) (.cons (.of rfl) .nil) inferInstance normc_
  case hd=>rfl
  case ht=>exact Takes.nil
  case hc=>
    intro w1 fp hm1 _ hs1
    obtain rfl:fp = []:=hs1
    exact hOw (.slice a es.length cap) es w1 hfe (h1.keeps hm1.keeps)
  intro v1 _
  dsimp only [id_eq,List.cons_append,List.nil_append]
  refine m_v rfl rfl ?_
  with_reducible apply tr_call
  case hr=>exact rk_call (.of rfl) (.cons (.of rfl) (.cons (.of rfl) .nil)) inferInstance normc_
  case hd=>rfl
  case ht=>exact Takes.nil
  case hc=>
    intro w1 fp hm1 _ hs1
    obtain rfl:fp = []:=hs1
    exact hSh v1 w1 hm1.keeps (rdEn hm1 (by exact .here))
  intro v2 _
  dsimp only [id_eq,List.cons_append,List.nil_append]
  refine tr_rowSl (E:=138) (sz:=6) (v:=v2) (by exact .here) fun x2 y2 e2=>?_
  subst e2
  (refine m_v rfl rfl ?_;refine tr_val (rk_extract (.of rfl) rfl) rfl ?_;refine tr_val (rk_extract (.of rfl) rfl) rfl ?_;refine tr_new (rk_alloc rfl) rfl (fun _ _=>?_);refine tr_store (.of rfl) (.of rfl) .here rfl rfl (okc_cons rfl okc_nil) (lenb rfl) norm_ ?_;refine a_s rfl rfl ?_;refine n_t ?_;refine tr_seq ?_;refine s_r ?_;refine m_v rfl rfl ?_;refine tr_val (rk_eql (.of rfl) (.of rfl)) rfl ?_;refine n_t ?_;refine c_d rfl (fun hcd=>?_) (fun hcd=>?_);refine s_r ?_;refine tr_val (rk_loadB (.of rfl) .here norm_ (by rfl)) rfl ?_;rotate_left;refine s_r ?_;refine m_v rfl rfl ?_;refine tr_val (rk_neq (.of rfl) (.of rfl)) rfl ?_;refine m_v rfl rfl ?_;refine v_g rfl rfl rfl rfl ?_;refine tr_vG1 rfl rfl inferInstance (fun hg hgp=>(rk_neq (.ofg hg rfl) (.of rfl))) rfl ?_;refine tr_val (rk_pick_and (.of rfl) rfl) rfl ?_;refine n_t ?_;refine c_b rfl (fun _=>by omega) (fun hcd=>?_);refine s_t ?_;refine s_r ?_;refine tr_val (rk_loadB (.of rfl) (.there (.there (.there .here))) norm_ (by rfl)) rfl ?_;rotate_right)
  · rename_i b7 hb7
    subst hcd
    have hSb:=hSb rfl;have hTl:=hTl rfl;have hLe:=hLe rfl;have hfr:=hfr rfl
    refine tr_cut [(57,.agg #[.slice x2 Ls.length y2]),(7,.pointer (some ⟨b7,0,none⟩)),(8,.int .i64 0),(3,.pointer (some ⟨b3,0,none⟩)),(2,.int .i64 n),(1,.string s)] [blk b7 (.cells #[.slice x2 Ls.length y2] 33),row 138 6 (.slice x2 Ls.length y2) Ls.length (ensL Ls).flatten,blk b3 (.cells #[.slice a es.length cap] 24)] (by exact .cons rfl (.cons rfl (.cons rfl (.cons rfl (.cons rfl (.cons rfl .nil)))))) (by exact .cons .here (.cons .here (.cons (.there .here) .nil))) ?_
    with_reducible apply tr_call
    case hr=>exact rk_call (.of rfl) (.cons (.of rfl) .nil) inferInstance normc_
    case hd=>rfl
    case ht=>exact Takes.nil
    case hc=>
      intro w1 fp hm1 _ hs1
      obtain rfl:fp = []:=hs1
      exact told_c (rdEnF (v:=.slice x2 Ls.length y2) hm1 (by exact Take.there .here) rfl) hLl
    intro v3 _
    dsimp only [id_eq,List.cons_append,List.nil_append]
    skip
    with_reducible apply tr_call
    case hr=>exact rk_call (.of rfl) (.cons (.of rfl) .nil) inferInstance normc_
    case hd=>rfl
    case ht=>exact Takes.nil
    case hc=>
      intro w1 fp hm1 _ hs1
      obtain rfl:fp = []:=hs1
      exact hOw v3 Ls w1 hLl (rdEn hm1 (by exact .here))
    intro v4 _
    dsimp only [id_eq,List.cons_append,List.nil_append]
    (refine m_v rfl rfl ?_;refine tr_val (rk_neg (.of rfl) (ini (by omega))) rfl ?_)
    with_reducible apply tr_call
    case hr=>exact rk_call (.of rfl) (.cons (.of rfl) (.cons (.of rfl) .nil)) inferInstance normc_
    case hd=>rfl
    case ht=>exact Takes.nil
    case hc=>
      intro w1 fp hm1 _ hs1
      obtain rfl:fp = []:=hs1
      exact hSb v4 w1 hm1.keeps (rdEn hm1 (by exact .here))
    intro v5 _
    dsimp only [id_eq,List.cons_append,List.nil_append]
    refine tr_rowSl (E:=138) (sz:=6) (v:=v5) (by exact .here) fun x5 y5 e5=>?_
    subst e5
    (refine m_v rfl rfl ?_;refine tr_val (rk_extract (.of rfl) rfl) rfl ?_;refine tr_val (rk_extract (.of rfl) rfl) rfl ?_;refine tr_new (rk_alloc rfl) rfl (fun _ _=>?_);refine tr_store (.of rfl) (.of rfl) .here rfl rfl (okc_cons rfl okc_nil) (lenb rfl) norm_ ?_;refine a_s rfl rfl ?_;refine n_r ?_;refine tr_val (rk_loadB (.of rfl) (.there (.there (.there (.there (.there (.there .here)))))) norm_ (by rfl)) rfl ?_)
    with_reducible apply tr_call
    case hr=>exact rk_call (.of rfl) (.cons (.of rfl) .nil) inferInstance normc_
    case hd=>rfl
    case ht=>exact Takes.nil
    case hc=>
      intro w1 fp hm1 _ hs1
      obtain rfl:fp = []:=hs1
      exact hOw (.slice a es.length cap) es w1 hfe (h1.keeps hm1.keeps)
    intro v6 _
    dsimp only [id_eq,List.cons_append,List.nil_append]
    skip
    with_reducible apply tr_call
    case hr=>exact rk_call (.of rfl) (.cons (.of rfl) .nil) inferInstance normc_
    case hd=>rfl
    case ht=>exact Takes.nil
    case hc=>
      intro w1 fp hm1 _ hs1
      obtain rfl:fp = []:=hs1
      exact hTe v6 w1 hm1.keeps (rdEn hm1 (by exact .here))
    intro v7 _
    dsimp only [id_eq,List.cons_append,List.nil_append]
    refine tr_rowSl (E:=66) (sz:=2) (v:=v7) (by exact .here) fun x7 y7 e7=>?_
    subst e7
    (refine m_v rfl rfl ?_;refine tr_val (rk_extract (.of rfl) rfl) rfl ?_;refine tr_val (rk_extract (.of rfl) rfl) rfl ?_;refine a_s rfl rfl ?_;refine a_s rfl rfl ?_;refine n_r ?_;refine tr_val (rk_loadB (.of rfl) (.there (.there (.there (.there (.there (.there .here)))))) norm_ (by rfl)) rfl ?_)
    with_reducible apply tr_call
    case hr=>exact rk_call (.of rfl) (.cons (.of rfl) .nil) inferInstance normc_
    case hd=>rfl
    case ht=>exact Takes.nil
    case hc=>
      intro w1 fp hm1 _ hs1
      obtain rfl:fp = []:=hs1
      exact told_c (rdEnF (v:=.slice x2 Ls.length y2) hm1 (by exact Take.there (.there (.there (.there (.there (.there (.there .here))))))) rfl) hLl
    intro v8 _
    dsimp only [id_eq,List.cons_append,List.nil_append]
    skip
    with_reducible apply tr_call
    case hr=>exact rk_call (.of rfl) (.cons (.of rfl) .nil) inferInstance normc_
    case hd=>rfl
    case ht=>exact Takes.nil
    case hc=>
      intro w1 fp hm1 _ hs1
      obtain rfl:fp = []:=hs1
      exact hOw v8 Ls w1 hLl (rdEn hm1 (by exact .here))
    intro v9 _
    dsimp only [id_eq,List.cons_append,List.nil_append]
    skip
    with_reducible apply tr_call
    case hr=>exact rk_call (.of rfl) (.cons (.of rfl) .nil) inferInstance normc_
    case hd=>rfl
    case ht=>exact Takes.nil
    case hc=>
      intro w1 fp hm1 _ hs1
      obtain rfl:fp = []:=hs1
      exact hTl v9 w1 hm1.keeps (rdEn hm1 (by exact .here))
    intro va _
    dsimp only [id_eq,List.cons_append,List.nil_append]
    refine tr_rowSl (E:=66) (sz:=2) (v:=va) (by exact .here) fun xa ya ea=>?_
    subst ea
    (refine m_v rfl rfl ?_;refine tr_val (rk_extract (.of rfl) rfl) rfl ?_;refine tr_val (rk_extract (.of rfl) rfl) rfl ?_;refine a_s rfl rfl ?_;refine a_s rfl rfl ?_;refine n_t ?_;refine tr_seq ?_;refine tr_seq ?_)
    rename_i b9 hb9
    with_reducible refine tr_drawM 24 (by kernel_rfl) ?_
    (refine am_val (fun β=>(rk_move (.of rfl))) ind0w rfl ?_;refine am_val (fun β=>(rk_neqiF (.of rfl) (.of rfl) rfl)) ind0w rfl ?_;refine am_val (fun β=>(rk_move (.of rfl))) ind0w rfl ?_;refine am_gOn rfl (fun _=>rfl) ?_;refine am_val (fun β=>(rk_move (.of rfl))) ind0w rfl ?_;refine am_gOn rfl (fun _=>rfl) ?_;refine am_val (fun β=>(rk_neqiF (.of rfl) (.of rfl) rfl)) ind0w rfl ?_;refine am_val (fun β=>(rk_pickB (.of rfl) (.of rfl) (.of rfl) rfl)) ind0w rfl ?_;refine am_val (fun β=>(rk_move (.of rfl))) ind0w rfl ?_;refine am_gOn rfl (fun _=>rfl) ?_;refine am_val (fun β=>(rk_move (.of rfl))) ind0w rfl ?_;refine am_gOn rfl (fun _=>rfl) ?_;refine am_val (fun β=>(rk_neqiF (.of rfl) (.of rfl) rfl)) ind0w rfl ?_;refine am_val (fun β=>(rk_pickB (.of rfl) (.of rfl) (.of rfl) rfl)) ind0w rfl ?_;refine am_val (fun β=>(rk_move (.of rfl))) ind0w rfl ?_;refine am_gOn rfl (fun _=>rfl) ?_;refine am_val (fun β=>(rk_loadB (.of rfl) (.there (.there (.there (.there (.there .here))))) norm_ (by rfl))) ind0w rfl ?_)
    dsimp only [Nat.zero_add,Nat.reduceAdd]
    refine am_gOn rfl (fun _=>rfl) ?_
    with_reducible apply am_call (ι:=Value) (Φ:=fun _=>True) (val:=fun v=>.agg #[v]) (own:=fun v=>[row 115 6 v es.length (enR es es.length)]) (g:=id) (B:=[]) (args:=fun _=>[.agg #[.slice x5 es.length y5]])
    case hg=>exact fun x=>⟨x,rfl⟩
    case hB=>rfl
    case hr=>exact fun β=>rk_call (.of rfl) (.cons (.of rfl) .nil) inferInstance rfl
    case hd=>rfl
    case hc=>exact fun β w' hb=>told_c (rdEnF (v:=.slice x5 es.length y5) hb.mem (by exact Take.there (.there (.there (.there (.there (.there .here)))))) rfl) hfe
    dsimp only [id_eq,Nat.reduceAdd]
    (refine am_gOn rfl (fun _=>rfl) ?_;refine am_val (fun β=>(rk_loadB (.of rfl) (.there (.there (.there (.there (.there (.there (.there (.there (.there (.there (.there .here))))))))))) norm_ (by rfl))) ind0w rfl ?_)
    dsimp only [Nat.reduceAdd]
    refine am_gOn rfl (fun _=>rfl) ?_
    with_reducible apply am_callV (B:=[12]) (F:=fun _=>.bool true) (args:=fun β=>[.agg #[β 12],.agg #[.slice a es.length cap]])
    case hB=>kernel_rfl
    case hr=>exact fun β=>rk_call (.of rfl) (.cons (.of rfl) (.cons (.of rfl) .nil)) inferInstance rfl
    case hi=>exact ind0w
    case hd=>rfl
    case hc=>
      intro β w' hb
      have m12:=hb.at 12 (by simp) (s:=⟨fun β=>.agg #[β 12],fun β=>[row 115 6 (β 12) es.length (enR es es.length)]⟩) (by kernel_rfl)
      dsimp only [List.cons_append,List.nil_append] at m12
      have:=sameQ_c (rdEn m12 (by exact .here)) (h1.keeps hb.mem.keeps)
      rwa [decide_eq_true rfl] at this
    (refine am_gOn rfl (fun _=>rfl) ?_;refine am_val (fun β=>(rk_not (.of rfl))) ind0w rfl ?_;refine am_val (fun β=>(rk_pickB (.of rfl) (.of rfl) (.of rfl) rfl)) ind0w rfl ?_;refine am_val (fun β=>(rk_move (.of rfl))) ind0w rfl ?_;refine am_gOn rfl (fun _=>rfl) ?_;refine am_val (fun β=>(rk_move (.of rfl))) ind0w rfl ?_;refine am_gOn rfl (fun _=>rfl) ?_;refine am_val (fun β=>(rk_len_slice (.of rfl))) ind0w rfl ?_;refine am_gOn rfl (fun _=>rfl) ?_;refine am_val (fun β=>(rk_move (.of rfl))) ind0w rfl ?_;refine am_gOn rfl (fun _=>rfl) ?_;refine am_val (fun β=>(rk_len_slice (.of rfl))) ind0w rfl ?_;refine am_gOn rfl (fun _=>rfl) ?_;refine am_val (fun β=>(rk_neqiF (.of rfl) (.of rfl) rfl)) ind0w rfl ?_;refine am_val (fun β=>(rk_pickB (.of rfl) (.of rfl) (.of rfl) rfl)) ind0w rfl ?_)
    refine am_end fun β=>?_
    dsimp only [resAll,List.nil_append,List.cons_append,List.append_eq,Nat.reduceAdd]
    with_reducible refine left_done (by kernel_rfl) ?_
    (refine tr_then ?_;refine tr_cond_f (.of rfl) ?_;refine s_t ?_;refine s_r ?_;refine m_v rfl rfl ?_;refine tr_val (rk_len_slice (.of rfl)) rfl ?_;refine m_v rfl rfl ?_;refine n_t ?_;refine tr_block ?_)
    by_cases hn0:0 < es.length
    · refine tr_rowOpen (E:=66) (sz:=2) (v:=.slice x7 es.length y7) (by exact Take.there (.there (.there (.there .here)))) hn0 fun gT tc2 curT e hkT hxT hzT hlT=>?_
      obtain ⟨rfl,-,rfl⟩:=Value.slice.inj e
      refine tr_rowOpen (E:=66) (sz:=2) (v:=.slice xa es.length ya) (by exact Take.there (.there .here)) hn0 fun gL lc2 curL e hkL hxL hzL hlL=>?_
      obtain ⟨rfl,-,rfl⟩:=Value.slice.inj e
      refine tr_for (ι:=Nat) (fun k=>k ≤ es.length) (fun k=>[(104,.int .i64 (k:Int)),(103,.int .i64 es.length),(13,.slice (some ⟨gL,0,none⟩) es.length ya),(11,.slice (some ⟨gT,0,none⟩) es.length y7),(3,.pointer (some ⟨b3,0,none⟩)),(2,.int .i64 n),(1,.string s)]) (fun _=>[blk gT (.cells (spV es es.length++curT).toArray 66),blk gL (.cells (spV Ls es.length++curL).toArray 66),blk b3 (.cells #[.slice a es.length cap] 24)]) (fun k=>es.length - k) ?_ ?_
      · apply tr_start (0:Nat) (show (0:Nat) ≤ es.length from Nat.zero_le _)
        case hs1=>exact .cons rfl (.cons rfl (.cons rfl (.cons rfl (.cons rfl (.cons rfl (.cons rfl .nil))))))
        case ht=>exact .cons (.there .here) (.cons .here (.cons (.there (.there (.there (.there (.there (.there (.there (.there (.there (.there .here)))))))))) .nil))
      intro k hk
      by_cases hlt:k < es.length
      · have p0:(spV es es.length++curT)[k * 2]? = some (.int .i64 (fr es k)):=spV_at (j:=0) (by omega) curT hlt
        have p1:(spV es es.length++curT)[k * 2 + 1]? = some (.int .i64 (to es k)):=spV_at (j:=1) (by omega) curT hlt
        have q0:(spV Ls es.length++curL)[k * 2]? = some (.int .i64 (fr Ls k)):=spV_at (j:=0) (by omega) curL hlt
        have q1:(spV Ls es.length++curL)[k * 2 + 1]? = some (.int .i64 (to Ls k)):=spV_at (j:=1) (by omega) curL hlt
        obtain ⟨f1,f2⟩:=hfr k hlt
        rw [f1] at q0
        rw [f2] at q1
        have hnn:=(Sound.of hz).fr_nn hlt
        (refine s_r ?_;refine tr_val (rk_lss (.of rfl) (.of rfl)) rfl ?_;refine n_t ?_;refine tr_seq ?_;refine c_d rfl (fun hcd=>?_) (fun _=>by omega);refine s_t ?_;refine tr_seq ?_;refine tr_block ?_;refine s_r ?_;refine m_v rfl rfl ?_;refine a_s rfl rfl ?_;refine n_t ?_;refine tr_seq ?_)
        with_reducible refine tr_draw 28 (by kernel_rfl) ?_
        (refine a_m rfl rfl ?_;refine a_m rfl rfl ?_;refine any_val (rk_indexAddr (.of rfl) (.of rfl) rfl (by omega) hcd norm1_) rfl ?_;refine a_f rfl rfl norm0_ ?_;refine any_val (rk_load1 (.of rfl) (At.blkL (.there .here) q0)) rfl ?_;refine a_m rfl rfl ?_;refine a_m rfl rfl ?_;refine any_val (rk_indexAddr (.of rfl) (.of rfl) rfl (by omega) hcd norm1_) rfl ?_;refine a_f rfl rfl norm0_ ?_;refine any_val (rk_load1 (.of rfl) (At.blkL .here p0)) rfl ?_;refine a_m rfl rfl ?_;refine any_val (rk_add (.of rfl) (.of rfl) (ini (by omega))) rfl ?_;refine any_val (rk_neq (.of rfl) (.of rfl)) rfl ?_;refine a_m rfl rfl ?_;refine any_vG1 rfl rfl inferInstance (fun hg hgp=>(rk_move (.of rfl))) rfl ?_;refine any_vG1 rfl rfl inferInstance (fun hg hgp=>(rk_move (.of rfl))) rfl ?_;refine any_vG1 rfl rfl inferInstance (fun hg hgp=>(rk_indexAddr (.ofg hg rfl) (.ofg hg rfl) rfl (by omega) hcd norm1_)) rfl ?_;refine any_vG1 rfl rfl inferInstance (fun hg hgp=>(rk_fieldAddr (.ofg hg rfl) norm0_)) rfl ?_;refine any_vG1 rfl rfl inferInstance (fun hg hgp=>(rk_load1 (.ofg hg rfl) (At.blkL (.there .here) q1))) rfl ?_;refine any_vG1 rfl rfl inferInstance (fun hg hgp=>(rk_move (.of rfl))) rfl ?_;refine any_vG1 rfl rfl inferInstance (fun hg hgp=>(rk_move (.of rfl))) rfl ?_;refine any_vG1 rfl rfl inferInstance (fun hg hgp=>(rk_indexAddr (.ofg hg rfl) (.ofg hg rfl) rfl (by omega) hcd norm1_)) rfl ?_;refine any_vG1 rfl rfl inferInstance (fun hg hgp=>(rk_fieldAddr (.ofg hg rfl) norm0_)) rfl ?_;refine any_vG1 rfl rfl inferInstance (fun hg hgp=>(rk_load1 (.ofg hg rfl) (At.blkL .here p1))) rfl ?_;refine any_vG1 rfl rfl inferInstance (fun hg hgp=>(rk_move (.of rfl))) rfl ?_;refine any_vG1 rfl rfl inferInstance (fun hg hgp=>(rk_add (.ofg hg rfl) (.ofg hg rfl) (ini (by omega)))) rfl ?_;refine any_vG1 rfl rfl inferInstance (fun hg hgp=>(rk_neq (.ofg hg rfl) (.ofg hg rfl))) rfl ?_;refine any_val (rk_pick_or (.of rfl) rfl) rfl ?_)
        with_reducible refine any_end ?_
        (refine n_t ?_;refine c_b rfl (fun _=>by omega) (fun hcd=>?_);refine tr_skip ?_;refine tr_blk_normal ?_;refine tr_then ?_;refine tr_region ?_;refine tr_val (rk_add (.of rfl) (.of rfl) (ini (by omega))) rfl ?_;refine m_v rfl rfl ?_;refine n_t ?_)
        apply tr_next (k + 1) (show (fun k:Nat=>k ≤ es.length) (k + 1) from hlt) (by show es.length - (k + 1) < es.length - k;omega)
        case hs1=>exact .cons rfl (.cons rfl (.cons rfl (.cons rfl (.cons rfl (.cons rfl (.cons rfl .nil))))))
        case ht=>exact .cons .here (.cons .here (.cons .here .nil))
      · obtain rfl:k = es.length:=by omega
        (refine s_r ?_;refine tr_val (rk_lss (.of rfl) (.of rfl)) rfl ?_;refine n_t ?_;refine tr_seq ?_;refine c_d rfl (fun _=>by omega) (fun hcd=>?_);refine x_t ?_;refine tr_then_exit ?_;refine tr_blk_exit ?_;refine tr_then ?_;refine s_r ?_;refine tr_val (rk_loadB (.of rfl) (.there (.there .here)) norm_ (by rfl)) rfl ?_)
        refine tr_cut [(143,.agg #[.slice a es.length cap]),(3,.pointer (some ⟨b3,0,none⟩)),(1,.string s)] [blk b3 (.cells #[.slice a es.length cap] 24)] (by exact .cons rfl (.cons rfl (.cons rfl .nil))) (by exact .cons (.there (.there .here)) .nil) ?_
        with_reducible apply tr_call
        case hr=>exact rk_call (.of rfl) (.cons (.of rfl) .nil) inferInstance normc_
        case hd=>rfl
        case ht=>exact Takes.nil
        case hc=>
          intro w1 fp hm1 _ hs1
          obtain rfl:fp = []:=hs1
          exact hOw (.slice a es.length cap) es w1 hfe (h1.keeps hm1.keeps)
        intro vb _
        dsimp only [id_eq,List.cons_append,List.nil_append]
        skip
        with_reducible apply tr_callV
        case hr=>exact rk_call (.of rfl) (.cons (.of rfl) .nil) inferInstance normc_
        case hd=>rfl
        case hc=>
          intro w' hm'
          exact hPr vb w' hm'.keeps (rdEn hm' (by exact .here))
        (refine m_v rfl rfl ?_;refine tr_val (rk_extract (.of rfl) rfl) rfl ?_;refine tr_val (rk_extract (.of rfl) rfl) rfl ?_;refine a_s rfl rfl ?_;refine a_s rfl rfl ?_;refine n_r ?_;refine m_v rfl rfl ?_)
        with_reducible apply tr_call
        case hr=>exact rk_call (.of rfl) (.cons (.of rfl) .nil) inferInstance normc_
        case hd=>rfl
        case ht=>exact Takes.nil
        case hc=>
          intro w1 fp hm1 _ hs1
          obtain rfl:fp = []:=hs1
          exact hPa w1 hm1.keeps
        intro vc _
        dsimp only [id_eq,List.cons_append,List.nil_append]
        refine tr_rowSl (E:=138) (sz:=6) (v:=vc) (by exact .here) fun xc yc ec=>?_
        subst ec
        (refine m_v rfl rfl ?_;refine tr_val (rk_extract (.of rfl) rfl) rfl ?_;refine tr_val (rk_extract (.of rfl) rfl) rfl ?_;refine tr_val (rk_extract (.of rfl) rfl) rfl ?_;refine tr_new (rk_alloc rfl) rfl (fun _ _=>?_);refine tr_store (.of rfl) (.of rfl) .here rfl rfl (okc_cons rfl okc_nil) (lenb rfl) norm_ ?_;refine a_s rfl rfl ?_;refine a_s rfl rfl ?_;refine n_t ?_;refine tr_seq ?_;refine tr_seq ?_)
        rename_i b18 hb18
        with_reducible refine tr_drawM 27 (by kernel_rfl) ?_
        (refine am_val (fun β=>(rk_move (.of rfl))) ind0w rfl ?_;refine am_val (fun β=>(rk_neqiF (.of rfl) (.of rfl) rfl)) ind0w rfl ?_;refine am_val (fun β=>(rk_move (.of rfl))) ind0w rfl ?_;refine am_gOn rfl (fun _=>rfl) ?_;refine am_val (fun β=>(rk_move (.of rfl))) ind0w rfl ?_;refine am_gOn rfl (fun _=>rfl) ?_;refine am_val (fun β=>(rk_neqiF (.of rfl) (.of rfl) rfl)) ind0w rfl ?_;refine am_val (fun β=>(rk_pickB (.of rfl) (.of rfl) (.of rfl) rfl)) ind0w rfl ?_;refine am_val (fun β=>(rk_move (.of rfl))) ind0w rfl ?_;refine am_gOn rfl (fun _=>rfl) ?_;refine am_val (fun β=>(rk_move (.of rfl))) ind0w rfl ?_;refine am_gOn rfl (fun _=>rfl) ?_;refine am_val (fun β=>(rk_neqiF (.of rfl) (.of rfl) rfl)) ind0w rfl ?_;refine am_val (fun β=>(rk_pickB (.of rfl) (.of rfl) (.of rfl) rfl)) ind0w rfl ?_;refine am_val (fun β=>(rk_move (.of rfl))) ind0w rfl ?_;refine am_gOn rfl (fun _=>rfl) ?_;refine am_val (fun β=>(rk_loadB (.of rfl) .here norm_ (by rfl))) ind0w rfl ?_)
        dsimp only [Nat.zero_add,Nat.reduceAdd]
        refine am_gOn rfl (fun _=>rfl) ?_
        with_reducible apply am_call (ι:=Value) (Φ:=fun _=>True) (val:=fun v=>.agg #[v]) (own:=fun v=>[row 115 6 v es.length (enR es es.length)]) (g:=id) (B:=[]) (args:=fun _=>[.agg #[.slice xc es.length yc]])
        case hg=>exact fun x=>⟨x,rfl⟩
        case hB=>rfl
        case hr=>exact fun β=>rk_call (.of rfl) (.cons (.of rfl) .nil) inferInstance rfl
        case hd=>rfl
        case hc=>exact fun β w' hb=>told_c (rdEnF (v:=.slice xc es.length yc) hb.mem (by exact Take.there .here) rfl) hfe
        dsimp only [id_eq,Nat.reduceAdd]
        (refine am_gOn rfl (fun _=>rfl) ?_;refine am_val (fun β=>(rk_loadB (.of rfl) (.there (.there (.there .here))) norm_ (by rfl))) ind0w rfl ?_)
        dsimp only [Nat.reduceAdd]
        refine am_gOn rfl (fun _=>rfl) ?_
        with_reducible apply am_callV (B:=[12]) (F:=fun _=>.bool true) (args:=fun β=>[.agg #[β 12],.agg #[.slice a es.length cap]])
        case hB=>kernel_rfl
        case hr=>exact fun β=>rk_call (.of rfl) (.cons (.of rfl) (.cons (.of rfl) .nil)) inferInstance rfl
        case hi=>exact ind0w
        case hd=>rfl
        case hc=>
          intro β w' hb
          have m12:=hb.at 12 (by simp) (s:=⟨fun β=>.agg #[β 12],fun β=>[row 115 6 (β 12) es.length (enR es es.length)]⟩) (by kernel_rfl)
          dsimp only [List.cons_append,List.nil_append] at m12
          have:=sameQ_c (rdEn m12 (by exact .here)) (h1.keeps hb.mem.keeps)
          rwa [decide_eq_true rfl] at this
        (refine am_gOn rfl (fun _=>rfl) ?_;refine am_val (fun β=>(rk_not (.of rfl))) ind0w rfl ?_;refine am_val (fun β=>(rk_pickB (.of rfl) (.of rfl) (.of rfl) rfl)) ind0w rfl ?_;refine am_val (fun β=>(rk_move (.of rfl))) ind0w rfl ?_;refine am_gOn rfl (fun _=>rfl) ?_;refine am_val (fun β=>(rk_move (.of rfl))) ind0w rfl ?_)
        dsimp only [Nat.reduceAdd]
        refine am_gOn rfl (fun _=>rfl) ?_
        with_reducible apply am_call (ι:=Option Addr × Nat) (Φ:=fun _=>True) (val:=fun z=>.slice z.1 (es.length + 1) z.2) (own:=fun z=>[row 9 1 (.slice z.1 (es.length + 1) z.2) (es.length + 1) (strs (splL 10 (toL pr)))]) (g:=gsW) (B:=[]) (args:=fun _=>[.string pr,.int .u8 10])
        case hg=>exact gsW_of
        case hB=>rfl
        case hr=>exact fun β=>rk_call (.of rfl) (.cons (.of rfl) (.cons (.of rfl) .nil)) inferInstance rfl
        case hd=>rfl
        case hc=>exact fun β w' hb=>hSpl w'
        dsimp only [Nat.reduceAdd]
        (refine am_gOn rfl (fun _=>rfl) ?_;refine am_val (fun β=>(rk_len_slice (.of rfl))) ind0w rfl ?_;refine am_gOn rfl (fun _=>rfl) ?_;refine am_val (fun β=>(rk_fieldAddr (.of rfl) norm0_)) ind0w rfl ?_;refine am_gOn rfl (fun _=>rfl) ?_;refine am_val (fun β=>(rk_load1 (.of rfl) (At.lit (.there (.there (.there .here))) rfl))) ind0w rfl ?_;refine am_gOn rfl (fun _=>rfl) ?_;refine am_val (fun β=>(rk_len_slice (.of rfl))) ind0w rfl ?_;refine am_gOn rfl (fun _=>rfl) ?_;refine am_val (fun β=>(rk_add (.of rfl) (.of rfl) (ini (by omega)))) ind0w rfl ?_;refine am_gOn rfl (fun _=>rfl) ?_;refine am_val (fun β=>(rk_neqiF (.of rfl) (.of rfl) hlen1)) ind0w rfl ?_;refine am_val (fun β=>(rk_pickB (.of rfl) (.of rfl) (.of rfl) rfl)) ind0w rfl ?_)
        refine am_end fun β=>?_
        dsimp only [resAll,List.nil_append,List.cons_append,List.append_eq,Nat.reduceAdd]
        with_reducible refine left_done (by kernel_rfl) ?_
        (refine tr_then ?_;refine tr_cond_f (.of rfl) ?_;refine s_t ?_;refine tr_seq ?_;refine s_r ?_;refine m_v rfl rfl ?_)
        refine tr_cut [(182,.string s),(16,.string pr),(3,.pointer (some ⟨b3,0,none⟩)),(1,.string s)] [blk b3 (.cells #[.slice a es.length cap] 24)] (by exact .cons rfl (.cons rfl (.cons rfl (.cons rfl .nil)))) (by exact .cons (.there (.there (.there (.there (.there .here))))) .nil) ?_
        with_reducible apply tr_call
        case hr=>exact rk_call (.of rfl) (.cons (.of rfl) .nil) inferInstance normc_
        case hd=>rfl
        case ht=>exact Takes.nil
        case hc=>
          intro w1 fp hm1 _ hs1
          obtain rfl:fp = []:=hs1
          exact hPs w1 hm1.keeps
        intro vd _
        dsimp only [id_eq,List.cons_append,List.nil_append]
        refine tr_rowSl (E:=138) (sz:=6) (v:=vd) (by exact .here) fun xd yd ed=>?_
        subst ed
        (refine m_v rfl rfl ?_;refine tr_val (rk_extract (.of rfl) rfl) rfl ?_;refine tr_val (rk_extract (.of rfl) rfl) rfl ?_;refine tr_val (rk_extract (.of rfl) rfl) rfl ?_;refine tr_new (rk_alloc rfl) rfl (fun _ _=>?_);refine tr_store (.of rfl) (.of rfl) .here rfl rfl (okc_cons rfl okc_nil) (lenb rfl) norm_ ?_;refine a_s rfl rfl ?_;refine a_s rfl rfl ?_;refine n_r ?_;refine m_v rfl rfl ?_;refine tr_val (rk_eql (.of rfl) (.of rfl)) rfl ?_;refine n_t ?_;refine c_d rfl (fun hcd=>?_) (fun hcd=>?_);refine s_r ?_;refine tr_val (rk_loadB (.of rfl) .here norm_ (by rfl)) rfl ?_;rotate_left;refine s_t ?_;refine tr_seq ?_;refine s_r ?_;refine m_v rfl rfl ?_;refine tr_val (rk_eqls (.of rfl) (.of rfl)) rfl ?_;refine n_t ?_;refine c_d rfl (fun hcd=>?_) (fun hcd=>?_);refine s_r ?_;refine a_s rfl rfl ?_;refine n_t ?_;refine r_t ?_;refine tr_retE rfl (ends1 rfl rfl) ?_;rotate_left;refine s_t ?_;refine s_r ?_;refine m_v rfl rfl ?_;refine m_v rfl rfl ?_;refine tr_val (rk_len_string (.of rfl)) rfl ?_;refine tr_val (rk_sub (.of rfl) (.of rfl) (ini (by omega))) rfl ?_;rotate_right;rotate_right)
        · rename_i b21 hb21
          with_reducible apply tr_callV
          case hr=>exact rk_call (.of rfl) (.cons (.of rfl) .nil) inferInstance normc_
          case hd=>rfl
          case hc=>
            intro w' hm'
            exact hP2 hcd (.slice xd L2.length yd) w' hm'.keeps (rdEnF hm' (by exact Take.there .here) rfl)
          (refine m_v rfl rfl ?_;refine tr_val (rk_extract (.of rfl) rfl) rfl ?_;refine tr_val (rk_extract (.of rfl) rfl) rfl ?_;refine a_s rfl rfl ?_;refine a_s rfl rfl ?_;refine n_r ?_;refine m_v rfl rfl ?_;refine tr_val (rk_neq (.of rfl) (.of rfl)) rfl ?_;refine m_v rfl rfl ?_;refine v_g rfl rfl rfl rfl ?_;refine v_g rfl rfl rfl rfl ?_;refine tr_vG1 rfl rfl inferInstance (fun hg hgp=>(rk_neqs (.ofg hg rfl) (.ofg hg rfl))) rfl ?_;refine tr_val (rk_pick_or (.of rfl) rfl) rfl ?_;refine n_t ?_;refine c_d rfl (fun hcd=>?_) (fun hcd=>?_);refine s_r ?_;refine a_s rfl rfl ?_;refine n_t ?_;refine r_t ?_;refine tr_retE rfl (ends1 rfl rfl) ?_;rotate_left;refine s_t ?_;refine tr_seq ?_;refine s_r ?_;refine m_v rfl rfl ?_;refine tr_val (rk_eqls (.of rfl) (.of rfl)) rfl ?_;refine n_t ?_;refine c_d rfl (fun hcd=>?_) (fun hcd=>?_);refine s_r ?_;refine a_s rfl rfl ?_;refine n_t ?_;refine r_t ?_;refine tr_retE rfl (ends1 rfl rfl) ?_;rotate_left;refine s_t ?_;refine s_r ?_;refine m_v rfl rfl ?_;refine m_v rfl rfl ?_;refine tr_val (rk_len_string (.of rfl)) rfl ?_;refine tr_val (rk_sub (.of rfl) (.of rfl) (ini (by omega))) rfl ?_;rotate_right;rotate_right)
          · exact absurd rfl hcd
          · rfl
          · have hne:pr ≠ ⟨#[]⟩:=hcd
            have hp1:=hpos hne
            refine tr_val (rk_sliceS_h (.of rfl) (.of rfl) (by omega) (by omega)) rfl ?_
            with_reducible apply tr_call
            case hr=>exact rk_call (.of rfl) (.cons (.of rfl) .nil) inferInstance normc_
            case hd=>rfl
            case ht=>exact Takes.nil
            case hc=>
              intro w1 fp hm1 _ hs1
              obtain rfl:fp = []:=hs1
              exact hPc hne w1 hm1.keeps
            intro vf _
            dsimp only [id_eq,List.cons_append,List.nil_append]
            refine tr_rowSl (E:=138) (sz:=6) (v:=vf) (by exact .here) fun xf yf ef=>?_
            subst ef
            (refine m_v rfl rfl ?_;refine tr_val (rk_extract (.of rfl) rfl) rfl ?_;refine tr_val (rk_extract (.of rfl) rfl) rfl ?_;refine tr_val (rk_extract (.of rfl) rfl) rfl ?_;refine tr_new (rk_alloc rfl) rfl (fun _ _=>?_);refine tr_store (.of rfl) (.of rfl) .here rfl rfl (okc_cons rfl okc_nil) (lenb rfl) norm_ ?_;refine a_s rfl rfl ?_;refine a_s rfl rfl ?_;refine n_r ?_;refine m_v rfl rfl ?_;refine tr_val (rk_eql (.of rfl) (.of rfl)) rfl ?_;refine m_v rfl rfl ?_;refine v_g rfl rfl rfl rfl ?_;refine tr_vG1 rfl rfl inferInstance (fun hg hgp=>(rk_fieldAddr (.of rfl) norm0_)) rfl ?_;refine tr_vG1 rfl rfl inferInstance (fun hg hgp=>(rk_load1 (.ofg hg rfl) (At.lit (.there (.there (.there (.there .here)))) rfl))) rfl ?_;refine tr_vG1 rfl rfl inferInstance (fun hg hgp=>(rk_len_slice (.ofg hg rfl))) rfl ?_;refine tr_vG1 rfl rfl inferInstance (fun hg hgp=>(rk_sub (.ofg hg rfl) (.of rfl) (ini (by omega)))) rfl ?_;refine tr_vG1 rfl rfl inferInstance (fun hg hgp=>(rk_eql (.ofg hg rfl) (.ofg hg rfl))) rfl ?_;refine tr_val (rk_pick_and (.of rfl) rfl) rfl ?_;refine a_s rfl rfl ?_;refine n_t ?_;refine tr_ret ?_;refine tr_retE rfl (ends1 rfl rfl) ?_)
            simp
        · rfl
        · have hne:pr ≠ ⟨#[]⟩:=hcd
          have hp1:=hpos hne
          refine tr_val (rk_sliceS_h (.of rfl) (.of rfl) (by omega) (by omega)) rfl ?_
          with_reducible apply tr_call
          case hr=>exact rk_call (.of rfl) (.cons (.of rfl) .nil) inferInstance normc_
          case hd=>rfl
          case ht=>exact Takes.nil
          case hc=>
            intro w1 fp hm1 _ hs1
            obtain rfl:fp = []:=hs1
            exact hPc hne w1 hm1.keeps
          intro vf _
          dsimp only [id_eq,List.cons_append,List.nil_append]
          refine tr_rowSl (E:=138) (sz:=6) (v:=vf) (by exact .here) fun xf yf ef=>?_
          subst ef
          (refine m_v rfl rfl ?_;refine tr_val (rk_extract (.of rfl) rfl) rfl ?_;refine tr_val (rk_extract (.of rfl) rfl) rfl ?_;refine tr_val (rk_extract (.of rfl) rfl) rfl ?_;refine tr_new (rk_alloc rfl) rfl (fun _ _=>?_);refine tr_store (.of rfl) (.of rfl) .here rfl rfl (okc_cons rfl okc_nil) (lenb rfl) norm_ ?_;refine a_s rfl rfl ?_;refine a_s rfl rfl ?_;refine n_r ?_;refine m_v rfl rfl ?_;refine tr_val (rk_eql (.of rfl) (.of rfl)) rfl ?_;refine m_v rfl rfl ?_;refine v_g rfl rfl rfl rfl ?_;refine tr_vG1 rfl rfl inferInstance (fun hg hgp=>(rk_fieldAddr (.of rfl) norm0_)) rfl ?_;refine tr_vG1 rfl rfl inferInstance (fun hg hgp=>(rk_load1 (.ofg hg rfl) (At.lit (.there (.there (.there (.there .here)))) rfl))) rfl ?_;refine tr_vG1 rfl rfl inferInstance (fun hg hgp=>(rk_len_slice (.ofg hg rfl))) rfl ?_;refine tr_vG1 rfl rfl inferInstance (fun hg hgp=>(rk_sub (.ofg hg rfl) (.of rfl) (ini (by omega)))) rfl ?_;refine tr_vG1 rfl rfl inferInstance (fun hg hgp=>(rk_eql (.ofg hg rfl) (.ofg hg rfl))) rfl ?_;refine tr_val (rk_pick_and (.of rfl) rfl) rfl ?_;refine a_s rfl rfl ?_;refine n_t ?_;refine tr_ret ?_;refine tr_retE rfl (ends1 rfl rfl) ?_)
          simp
    · obtain rfl:es = []:=List.length_eq_zero_iff.1 (by omega)
      refine tr_for (ι:=Unit) (fun _=>True) (fun _=>[(104,.int .i64 0),(103,.int .i64 0),(3,.pointer (some ⟨b3,0,none⟩)),(2,.int .i64 n),(1,.string s)]) (fun _=>[blk b3 (.cells #[.slice a (List.length ([]:List En)) cap] 24)]) (fun _=>0) ?_ ?_
      · apply tr_start () trivial
        case hs1=>exact .cons rfl (.cons rfl (.cons rfl (.cons rfl (.cons rfl .nil))))
        case ht=>exact .cons (.there (.there (.there (.there (.there (.there (.there (.there (.there (.there (.there (.there .here)))))))))))) .nil
      rintro ⟨⟩ -
      generalize hes:([]:List En) = es at *
      (refine s_r ?_;refine tr_val (rk_lss (.of rfl) (.of rfl)) rfl ?_;refine n_t ?_;refine tr_seq ?_;refine c_d rfl (fun _=>by omega) (fun hcd=>?_);refine x_t ?_;refine tr_then_exit ?_;refine tr_blk_exit ?_;refine tr_then ?_;refine s_r ?_;refine tr_val (rk_loadB (.of rfl) .here norm_ (by rfl)) rfl ?_)
      refine tr_cut [(143,.agg #[.slice a es.length cap]),(3,.pointer (some ⟨b3,0,none⟩)),(1,.string s)] [blk b3 (.cells #[.slice a es.length cap] 24)] (by exact .cons rfl (.cons rfl (.cons rfl .nil))) (by exact .cons .here .nil) ?_
      with_reducible apply tr_call
      case hr=>exact rk_call (.of rfl) (.cons (.of rfl) .nil) inferInstance normc_
      case hd=>rfl
      case ht=>exact Takes.nil
      case hc=>
        intro w1 fp hm1 _ hs1
        obtain rfl:fp = []:=hs1
        exact hOw (.slice a es.length cap) es w1 hfe (h1.keeps hm1.keeps)
      intro vb _
      dsimp only [id_eq,List.cons_append,List.nil_append]
      skip
      with_reducible apply tr_callV
      case hr=>exact rk_call (.of rfl) (.cons (.of rfl) .nil) inferInstance normc_
      case hd=>rfl
      case hc=>
        intro w' hm'
        exact hPr vb w' hm'.keeps (rdEn hm' (by exact .here))
      (refine m_v rfl rfl ?_;refine tr_val (rk_extract (.of rfl) rfl) rfl ?_;refine tr_val (rk_extract (.of rfl) rfl) rfl ?_;refine a_s rfl rfl ?_;refine a_s rfl rfl ?_;refine n_r ?_;refine m_v rfl rfl ?_)
      with_reducible apply tr_call
      case hr=>exact rk_call (.of rfl) (.cons (.of rfl) .nil) inferInstance normc_
      case hd=>rfl
      case ht=>exact Takes.nil
      case hc=>
        intro w1 fp hm1 _ hs1
        obtain rfl:fp = []:=hs1
        exact hPa w1 hm1.keeps
      intro vc _
      dsimp only [id_eq,List.cons_append,List.nil_append]
      refine tr_rowSl (E:=138) (sz:=6) (v:=vc) (by exact .here) fun xc yc ec=>?_
      subst ec
      (refine m_v rfl rfl ?_;refine tr_val (rk_extract (.of rfl) rfl) rfl ?_;refine tr_val (rk_extract (.of rfl) rfl) rfl ?_;refine tr_val (rk_extract (.of rfl) rfl) rfl ?_;refine tr_new (rk_alloc rfl) rfl (fun _ _=>?_);refine tr_store (.of rfl) (.of rfl) .here rfl rfl (okc_cons rfl okc_nil) (lenb rfl) norm_ ?_;refine a_s rfl rfl ?_;refine a_s rfl rfl ?_;refine n_t ?_;refine tr_seq ?_;refine tr_seq ?_)
      rename_i b18 hb18
      with_reducible refine tr_drawM 27 (by kernel_rfl) ?_
      (refine am_val (fun β=>(rk_move (.of rfl))) ind0w rfl ?_;refine am_val (fun β=>(rk_neqiF (.of rfl) (.of rfl) rfl)) ind0w rfl ?_;refine am_val (fun β=>(rk_move (.of rfl))) ind0w rfl ?_;refine am_gOn rfl (fun _=>rfl) ?_;refine am_val (fun β=>(rk_move (.of rfl))) ind0w rfl ?_;refine am_gOn rfl (fun _=>rfl) ?_;refine am_val (fun β=>(rk_neqiF (.of rfl) (.of rfl) rfl)) ind0w rfl ?_;refine am_val (fun β=>(rk_pickB (.of rfl) (.of rfl) (.of rfl) rfl)) ind0w rfl ?_;refine am_val (fun β=>(rk_move (.of rfl))) ind0w rfl ?_;refine am_gOn rfl (fun _=>rfl) ?_;refine am_val (fun β=>(rk_move (.of rfl))) ind0w rfl ?_;refine am_gOn rfl (fun _=>rfl) ?_;refine am_val (fun β=>(rk_neqiF (.of rfl) (.of rfl) rfl)) ind0w rfl ?_;refine am_val (fun β=>(rk_pickB (.of rfl) (.of rfl) (.of rfl) rfl)) ind0w rfl ?_;refine am_val (fun β=>(rk_move (.of rfl))) ind0w rfl ?_;refine am_gOn rfl (fun _=>rfl) ?_;refine am_val (fun β=>(rk_loadB (.of rfl) .here norm_ (by rfl))) ind0w rfl ?_)
      dsimp only [Nat.zero_add,Nat.reduceAdd]
      refine am_gOn rfl (fun _=>rfl) ?_
      with_reducible apply am_call (ι:=Value) (Φ:=fun _=>True) (val:=fun v=>.agg #[v]) (own:=fun v=>[row 115 6 v es.length (enR es es.length)]) (g:=id) (B:=[]) (args:=fun _=>[.agg #[.slice xc es.length yc]])
      case hg=>exact fun x=>⟨x,rfl⟩
      case hB=>rfl
      case hr=>exact fun β=>rk_call (.of rfl) (.cons (.of rfl) .nil) inferInstance rfl
      case hd=>rfl
      case hc=>exact fun β w' hb=>told_c (rdEnF (v:=.slice xc es.length yc) hb.mem (by exact Take.there .here) rfl) hfe
      dsimp only [id_eq,Nat.reduceAdd]
      (refine am_gOn rfl (fun _=>rfl) ?_;refine am_val (fun β=>(rk_loadB (.of rfl) (.there (.there (.there .here))) norm_ (by rfl))) ind0w rfl ?_)
      dsimp only [Nat.reduceAdd]
      refine am_gOn rfl (fun _=>rfl) ?_
      with_reducible apply am_callV (B:=[12]) (F:=fun _=>.bool true) (args:=fun β=>[.agg #[β 12],.agg #[.slice a es.length cap]])
      case hB=>kernel_rfl
      case hr=>exact fun β=>rk_call (.of rfl) (.cons (.of rfl) (.cons (.of rfl) .nil)) inferInstance rfl
      case hi=>exact ind0w
      case hd=>rfl
      case hc=>
        intro β w' hb
        have m12:=hb.at 12 (by simp) (s:=⟨fun β=>.agg #[β 12],fun β=>[row 115 6 (β 12) es.length (enR es es.length)]⟩) (by kernel_rfl)
        dsimp only [List.cons_append,List.nil_append] at m12
        have:=sameQ_c (rdEn m12 (by exact .here)) (h1.keeps hb.mem.keeps)
        rwa [decide_eq_true rfl] at this
      (refine am_gOn rfl (fun _=>rfl) ?_;refine am_val (fun β=>(rk_not (.of rfl))) ind0w rfl ?_;refine am_val (fun β=>(rk_pickB (.of rfl) (.of rfl) (.of rfl) rfl)) ind0w rfl ?_;refine am_val (fun β=>(rk_move (.of rfl))) ind0w rfl ?_;refine am_gOn rfl (fun _=>rfl) ?_;refine am_val (fun β=>(rk_move (.of rfl))) ind0w rfl ?_)
      dsimp only [Nat.reduceAdd]
      refine am_gOn rfl (fun _=>rfl) ?_
      with_reducible apply am_call (ι:=Option Addr × Nat) (Φ:=fun _=>True) (val:=fun z=>.slice z.1 (es.length + 1) z.2) (own:=fun z=>[row 9 1 (.slice z.1 (es.length + 1) z.2) (es.length + 1) (strs (splL 10 (toL pr)))]) (g:=gsW) (B:=[]) (args:=fun _=>[.string pr,.int .u8 10])
      case hg=>exact gsW_of
      case hB=>rfl
      case hr=>exact fun β=>rk_call (.of rfl) (.cons (.of rfl) (.cons (.of rfl) .nil)) inferInstance rfl
      case hd=>rfl
      case hc=>exact fun β w' hb=>hSpl w'
      dsimp only [Nat.reduceAdd]
      (refine am_gOn rfl (fun _=>rfl) ?_;refine am_val (fun β=>(rk_len_slice (.of rfl))) ind0w rfl ?_;refine am_gOn rfl (fun _=>rfl) ?_;refine am_val (fun β=>(rk_fieldAddr (.of rfl) norm0_)) ind0w rfl ?_;refine am_gOn rfl (fun _=>rfl) ?_;refine am_val (fun β=>(rk_load1 (.of rfl) (At.lit (.there (.there (.there .here))) rfl))) ind0w rfl ?_;refine am_gOn rfl (fun _=>rfl) ?_;refine am_val (fun β=>(rk_len_slice (.of rfl))) ind0w rfl ?_;refine am_gOn rfl (fun _=>rfl) ?_;refine am_val (fun β=>(rk_add (.of rfl) (.of rfl) (ini (by omega)))) ind0w rfl ?_;refine am_gOn rfl (fun _=>rfl) ?_;refine am_val (fun β=>(rk_neqiF (.of rfl) (.of rfl) hlen1)) ind0w rfl ?_;refine am_val (fun β=>(rk_pickB (.of rfl) (.of rfl) (.of rfl) rfl)) ind0w rfl ?_)
      refine am_end fun β=>?_
      dsimp only [resAll,List.nil_append,List.cons_append,List.append_eq,Nat.reduceAdd]
      with_reducible refine left_done (by kernel_rfl) ?_
      (refine tr_then ?_;refine tr_cond_f (.of rfl) ?_;refine s_t ?_;refine tr_seq ?_;refine s_r ?_;refine m_v rfl rfl ?_)
      refine tr_cut [(182,.string s),(16,.string pr),(3,.pointer (some ⟨b3,0,none⟩)),(1,.string s)] [blk b3 (.cells #[.slice a es.length cap] 24)] (by exact .cons rfl (.cons rfl (.cons rfl (.cons rfl .nil)))) (by exact .cons (.there (.there (.there (.there (.there .here))))) .nil) ?_
      with_reducible apply tr_call
      case hr=>exact rk_call (.of rfl) (.cons (.of rfl) .nil) inferInstance normc_
      case hd=>rfl
      case ht=>exact Takes.nil
      case hc=>
        intro w1 fp hm1 _ hs1
        obtain rfl:fp = []:=hs1
        exact hPs w1 hm1.keeps
      intro vd _
      dsimp only [id_eq,List.cons_append,List.nil_append]
      refine tr_rowSl (E:=138) (sz:=6) (v:=vd) (by exact .here) fun xd yd ed=>?_
      subst ed
      (refine m_v rfl rfl ?_;refine tr_val (rk_extract (.of rfl) rfl) rfl ?_;refine tr_val (rk_extract (.of rfl) rfl) rfl ?_;refine tr_val (rk_extract (.of rfl) rfl) rfl ?_;refine tr_new (rk_alloc rfl) rfl (fun _ _=>?_);refine tr_store (.of rfl) (.of rfl) .here rfl rfl (okc_cons rfl okc_nil) (lenb rfl) norm_ ?_;refine a_s rfl rfl ?_;refine a_s rfl rfl ?_;refine n_r ?_;refine m_v rfl rfl ?_;refine tr_val (rk_eql (.of rfl) (.of rfl)) rfl ?_;refine n_t ?_;refine c_d rfl (fun hcd=>?_) (fun hcd=>?_);refine s_r ?_;refine tr_val (rk_loadB (.of rfl) .here norm_ (by rfl)) rfl ?_;rotate_left;refine s_t ?_;refine tr_seq ?_;refine s_r ?_;refine m_v rfl rfl ?_;refine tr_val (rk_eqls (.of rfl) (.of rfl)) rfl ?_;refine n_t ?_;refine c_d rfl (fun hcd=>?_) (fun hcd=>?_);refine s_r ?_;refine a_s rfl rfl ?_;refine n_t ?_;refine r_t ?_;refine tr_retE rfl (ends1 rfl rfl) ?_;rotate_left;refine s_t ?_;refine s_r ?_;refine m_v rfl rfl ?_;refine m_v rfl rfl ?_;refine tr_val (rk_len_string (.of rfl)) rfl ?_;refine tr_val (rk_sub (.of rfl) (.of rfl) (ini (by omega))) rfl ?_;rotate_right;rotate_right)
      · rename_i b21 hb21
        with_reducible apply tr_callV
        case hr=>exact rk_call (.of rfl) (.cons (.of rfl) .nil) inferInstance normc_
        case hd=>rfl
        case hc=>
          intro w' hm'
          exact hP2 hcd (.slice xd L2.length yd) w' hm'.keeps (rdEnF hm' (by exact Take.there .here) rfl)
        (refine m_v rfl rfl ?_;refine tr_val (rk_extract (.of rfl) rfl) rfl ?_;refine tr_val (rk_extract (.of rfl) rfl) rfl ?_;refine a_s rfl rfl ?_;refine a_s rfl rfl ?_;refine n_r ?_;refine m_v rfl rfl ?_;refine tr_val (rk_neq (.of rfl) (.of rfl)) rfl ?_;refine m_v rfl rfl ?_;refine v_g rfl rfl rfl rfl ?_;refine v_g rfl rfl rfl rfl ?_;refine tr_vG1 rfl rfl inferInstance (fun hg hgp=>(rk_neqs (.ofg hg rfl) (.ofg hg rfl))) rfl ?_;refine tr_val (rk_pick_or (.of rfl) rfl) rfl ?_;refine n_t ?_;refine c_d rfl (fun hcd=>?_) (fun hcd=>?_);refine s_r ?_;refine a_s rfl rfl ?_;refine n_t ?_;refine r_t ?_;refine tr_retE rfl (ends1 rfl rfl) ?_;rotate_left;refine s_t ?_;refine tr_seq ?_;refine s_r ?_;refine m_v rfl rfl ?_;refine tr_val (rk_eqls (.of rfl) (.of rfl)) rfl ?_;refine n_t ?_;refine c_d rfl (fun hcd=>?_) (fun hcd=>?_);refine s_r ?_;refine a_s rfl rfl ?_;refine n_t ?_;refine r_t ?_;refine tr_retE rfl (ends1 rfl rfl) ?_;rotate_left;refine s_t ?_;refine s_r ?_;refine m_v rfl rfl ?_;refine m_v rfl rfl ?_;refine tr_val (rk_len_string (.of rfl)) rfl ?_;refine tr_val (rk_sub (.of rfl) (.of rfl) (ini (by omega))) rfl ?_;rotate_right;rotate_right)
        · exact absurd rfl hcd
        · rfl
        · have hne:pr ≠ ⟨#[]⟩:=hcd
          have hp1:=hpos hne
          refine tr_val (rk_sliceS_h (.of rfl) (.of rfl) (by omega) (by omega)) rfl ?_
          with_reducible apply tr_call
          case hr=>exact rk_call (.of rfl) (.cons (.of rfl) .nil) inferInstance normc_
          case hd=>rfl
          case ht=>exact Takes.nil
          case hc=>
            intro w1 fp hm1 _ hs1
            obtain rfl:fp = []:=hs1
            exact hPc hne w1 hm1.keeps
          intro vf _
          dsimp only [id_eq,List.cons_append,List.nil_append]
          refine tr_rowSl (E:=138) (sz:=6) (v:=vf) (by exact .here) fun xf yf ef=>?_
          subst ef
          (refine m_v rfl rfl ?_;refine tr_val (rk_extract (.of rfl) rfl) rfl ?_;refine tr_val (rk_extract (.of rfl) rfl) rfl ?_;refine tr_val (rk_extract (.of rfl) rfl) rfl ?_;refine tr_new (rk_alloc rfl) rfl (fun _ _=>?_);refine tr_store (.of rfl) (.of rfl) .here rfl rfl (okc_cons rfl okc_nil) (lenb rfl) norm_ ?_;refine a_s rfl rfl ?_;refine a_s rfl rfl ?_;refine n_r ?_;refine m_v rfl rfl ?_;refine tr_val (rk_eql (.of rfl) (.of rfl)) rfl ?_;refine m_v rfl rfl ?_;refine v_g rfl rfl rfl rfl ?_;refine tr_vG1 rfl rfl inferInstance (fun hg hgp=>(rk_fieldAddr (.of rfl) norm0_)) rfl ?_;refine tr_vG1 rfl rfl inferInstance (fun hg hgp=>(rk_load1 (.ofg hg rfl) (At.lit (.there (.there (.there (.there .here)))) rfl))) rfl ?_;refine tr_vG1 rfl rfl inferInstance (fun hg hgp=>(rk_len_slice (.ofg hg rfl))) rfl ?_;refine tr_vG1 rfl rfl inferInstance (fun hg hgp=>(rk_sub (.ofg hg rfl) (.of rfl) (ini (by omega)))) rfl ?_;refine tr_vG1 rfl rfl inferInstance (fun hg hgp=>(rk_eql (.ofg hg rfl) (.ofg hg rfl))) rfl ?_;refine tr_val (rk_pick_and (.of rfl) rfl) rfl ?_;refine a_s rfl rfl ?_;refine n_t ?_;refine tr_ret ?_;refine tr_retE rfl (ends1 rfl rfl) ?_)
          simp
      · rfl
      · have hne:pr ≠ ⟨#[]⟩:=hcd
        have hp1:=hpos hne
        refine tr_val (rk_sliceS_h (.of rfl) (.of rfl) (by omega) (by omega)) rfl ?_
        with_reducible apply tr_call
        case hr=>exact rk_call (.of rfl) (.cons (.of rfl) .nil) inferInstance normc_
        case hd=>rfl
        case ht=>exact Takes.nil
        case hc=>
          intro w1 fp hm1 _ hs1
          obtain rfl:fp = []:=hs1
          exact hPc hne w1 hm1.keeps
        intro vf _
        dsimp only [id_eq,List.cons_append,List.nil_append]
        refine tr_rowSl (E:=138) (sz:=6) (v:=vf) (by exact .here) fun xf yf ef=>?_
        subst ef
        (refine m_v rfl rfl ?_;refine tr_val (rk_extract (.of rfl) rfl) rfl ?_;refine tr_val (rk_extract (.of rfl) rfl) rfl ?_;refine tr_val (rk_extract (.of rfl) rfl) rfl ?_;refine tr_new (rk_alloc rfl) rfl (fun _ _=>?_);refine tr_store (.of rfl) (.of rfl) .here rfl rfl (okc_cons rfl okc_nil) (lenb rfl) norm_ ?_;refine a_s rfl rfl ?_;refine a_s rfl rfl ?_;refine n_r ?_;refine m_v rfl rfl ?_;refine tr_val (rk_eql (.of rfl) (.of rfl)) rfl ?_;refine m_v rfl rfl ?_;refine v_g rfl rfl rfl rfl ?_;refine tr_vG1 rfl rfl inferInstance (fun hg hgp=>(rk_fieldAddr (.of rfl) norm0_)) rfl ?_;refine tr_vG1 rfl rfl inferInstance (fun hg hgp=>(rk_load1 (.ofg hg rfl) (At.lit (.there (.there (.there (.there .here)))) rfl))) rfl ?_;refine tr_vG1 rfl rfl inferInstance (fun hg hgp=>(rk_len_slice (.ofg hg rfl))) rfl ?_;refine tr_vG1 rfl rfl inferInstance (fun hg hgp=>(rk_sub (.ofg hg rfl) (.of rfl) (ini (by omega)))) rfl ?_;refine tr_vG1 rfl rfl inferInstance (fun hg hgp=>(rk_eql (.ofg hg rfl) (.ofg hg rfl))) rfl ?_;refine tr_val (rk_pick_and (.of rfl) rfl) rfl ?_;refine a_s rfl rfl ?_;refine n_t ?_;refine tr_ret ?_;refine tr_retE rfl (ends1 rfl rfl) ?_)
        simp
  · skip
    refine tr_cut [(143,.agg #[.slice a es.length cap]),(3,.pointer (some ⟨b3,0,none⟩)),(1,.string s)] [blk b3 (.cells #[.slice a es.length cap] 24)] (by exact .cons rfl (.cons rfl (.cons rfl .nil))) (by exact .cons (.there (.there (.there .here))) .nil) ?_
    with_reducible apply tr_call
    case hr=>exact rk_call (.of rfl) (.cons (.of rfl) .nil) inferInstance normc_
    case hd=>rfl
    case ht=>exact Takes.nil
    case hc=>
      intro w1 fp hm1 _ hs1
      obtain rfl:fp = []:=hs1
      exact hOw (.slice a es.length cap) es w1 hfe (h1.keeps hm1.keeps)
    intro vb _
    dsimp only [id_eq,List.cons_append,List.nil_append]
    skip
    with_reducible apply tr_callV
    case hr=>exact rk_call (.of rfl) (.cons (.of rfl) .nil) inferInstance normc_
    case hd=>rfl
    case hc=>
      intro w' hm'
      exact hPr vb w' hm'.keeps (rdEn hm' (by exact .here))
    (refine m_v rfl rfl ?_;refine tr_val (rk_extract (.of rfl) rfl) rfl ?_;refine tr_val (rk_extract (.of rfl) rfl) rfl ?_;refine a_s rfl rfl ?_;refine a_s rfl rfl ?_;refine n_r ?_;refine m_v rfl rfl ?_)
    with_reducible apply tr_call
    case hr=>exact rk_call (.of rfl) (.cons (.of rfl) .nil) inferInstance normc_
    case hd=>rfl
    case ht=>exact Takes.nil
    case hc=>
      intro w1 fp hm1 _ hs1
      obtain rfl:fp = []:=hs1
      exact hPa w1 hm1.keeps
    intro vc _
    dsimp only [id_eq,List.cons_append,List.nil_append]
    refine tr_rowSl (E:=138) (sz:=6) (v:=vc) (by exact .here) fun xc yc ec=>?_
    subst ec
    (refine m_v rfl rfl ?_;refine tr_val (rk_extract (.of rfl) rfl) rfl ?_;refine tr_val (rk_extract (.of rfl) rfl) rfl ?_;refine tr_val (rk_extract (.of rfl) rfl) rfl ?_;refine tr_new (rk_alloc rfl) rfl (fun _ _=>?_);refine tr_store (.of rfl) (.of rfl) .here rfl rfl (okc_cons rfl okc_nil) (lenb rfl) norm_ ?_;refine a_s rfl rfl ?_;refine a_s rfl rfl ?_;refine n_t ?_;refine tr_seq ?_;refine tr_seq ?_)
    rename_i b18 hb18
    with_reducible refine tr_drawM 27 (by kernel_rfl) ?_
    (refine am_val (fun β=>(rk_move (.of rfl))) ind0w rfl ?_;refine am_val (fun β=>(rk_neqiF (.of rfl) (.of rfl) rfl)) ind0w rfl ?_;refine am_val (fun β=>(rk_move (.of rfl))) ind0w rfl ?_;refine am_gOn rfl (fun _=>rfl) ?_;refine am_val (fun β=>(rk_move (.of rfl))) ind0w rfl ?_;refine am_gOn rfl (fun _=>rfl) ?_;refine am_val (fun β=>(rk_neqiF (.of rfl) (.of rfl) rfl)) ind0w rfl ?_;refine am_val (fun β=>(rk_pickB (.of rfl) (.of rfl) (.of rfl) rfl)) ind0w rfl ?_;refine am_val (fun β=>(rk_move (.of rfl))) ind0w rfl ?_;refine am_gOn rfl (fun _=>rfl) ?_;refine am_val (fun β=>(rk_move (.of rfl))) ind0w rfl ?_;refine am_gOn rfl (fun _=>rfl) ?_;refine am_val (fun β=>(rk_neqiF (.of rfl) (.of rfl) rfl)) ind0w rfl ?_;refine am_val (fun β=>(rk_pickB (.of rfl) (.of rfl) (.of rfl) rfl)) ind0w rfl ?_;refine am_val (fun β=>(rk_move (.of rfl))) ind0w rfl ?_;refine am_gOn rfl (fun _=>rfl) ?_;refine am_val (fun β=>(rk_loadB (.of rfl) .here norm_ (by rfl))) ind0w rfl ?_)
    dsimp only [Nat.zero_add,Nat.reduceAdd]
    refine am_gOn rfl (fun _=>rfl) ?_
    with_reducible apply am_call (ι:=Value) (Φ:=fun _=>True) (val:=fun v=>.agg #[v]) (own:=fun v=>[row 115 6 v es.length (enR es es.length)]) (g:=id) (B:=[]) (args:=fun _=>[.agg #[.slice xc es.length yc]])
    case hg=>exact fun x=>⟨x,rfl⟩
    case hB=>rfl
    case hr=>exact fun β=>rk_call (.of rfl) (.cons (.of rfl) .nil) inferInstance rfl
    case hd=>rfl
    case hc=>exact fun β w' hb=>told_c (rdEnF (v:=.slice xc es.length yc) hb.mem (by exact Take.there .here) rfl) hfe
    dsimp only [id_eq,Nat.reduceAdd]
    (refine am_gOn rfl (fun _=>rfl) ?_;refine am_val (fun β=>(rk_loadB (.of rfl) (.there (.there (.there .here))) norm_ (by rfl))) ind0w rfl ?_)
    dsimp only [Nat.reduceAdd]
    refine am_gOn rfl (fun _=>rfl) ?_
    with_reducible apply am_callV (B:=[12]) (F:=fun _=>.bool true) (args:=fun β=>[.agg #[β 12],.agg #[.slice a es.length cap]])
    case hB=>kernel_rfl
    case hr=>exact fun β=>rk_call (.of rfl) (.cons (.of rfl) (.cons (.of rfl) .nil)) inferInstance rfl
    case hi=>exact ind0w
    case hd=>rfl
    case hc=>
      intro β w' hb
      have m12:=hb.at 12 (by simp) (s:=⟨fun β=>.agg #[β 12],fun β=>[row 115 6 (β 12) es.length (enR es es.length)]⟩) (by kernel_rfl)
      dsimp only [List.cons_append,List.nil_append] at m12
      have:=sameQ_c (rdEn m12 (by exact .here)) (h1.keeps hb.mem.keeps)
      rwa [decide_eq_true rfl] at this
    (refine am_gOn rfl (fun _=>rfl) ?_;refine am_val (fun β=>(rk_not (.of rfl))) ind0w rfl ?_;refine am_val (fun β=>(rk_pickB (.of rfl) (.of rfl) (.of rfl) rfl)) ind0w rfl ?_;refine am_val (fun β=>(rk_move (.of rfl))) ind0w rfl ?_;refine am_gOn rfl (fun _=>rfl) ?_;refine am_val (fun β=>(rk_move (.of rfl))) ind0w rfl ?_)
    dsimp only [Nat.reduceAdd]
    refine am_gOn rfl (fun _=>rfl) ?_
    with_reducible apply am_call (ι:=Option Addr × Nat) (Φ:=fun _=>True) (val:=fun z=>.slice z.1 (es.length + 1) z.2) (own:=fun z=>[row 9 1 (.slice z.1 (es.length + 1) z.2) (es.length + 1) (strs (splL 10 (toL pr)))]) (g:=gsW) (B:=[]) (args:=fun _=>[.string pr,.int .u8 10])
    case hg=>exact gsW_of
    case hB=>rfl
    case hr=>exact fun β=>rk_call (.of rfl) (.cons (.of rfl) (.cons (.of rfl) .nil)) inferInstance rfl
    case hd=>rfl
    case hc=>exact fun β w' hb=>hSpl w'
    dsimp only [Nat.reduceAdd]
    (refine am_gOn rfl (fun _=>rfl) ?_;refine am_val (fun β=>(rk_len_slice (.of rfl))) ind0w rfl ?_;refine am_gOn rfl (fun _=>rfl) ?_;refine am_val (fun β=>(rk_fieldAddr (.of rfl) norm0_)) ind0w rfl ?_;refine am_gOn rfl (fun _=>rfl) ?_;refine am_val (fun β=>(rk_load1 (.of rfl) (At.lit (.there (.there (.there .here))) rfl))) ind0w rfl ?_;refine am_gOn rfl (fun _=>rfl) ?_;refine am_val (fun β=>(rk_len_slice (.of rfl))) ind0w rfl ?_;refine am_gOn rfl (fun _=>rfl) ?_;refine am_val (fun β=>(rk_add (.of rfl) (.of rfl) (ini (by omega)))) ind0w rfl ?_;refine am_gOn rfl (fun _=>rfl) ?_;refine am_val (fun β=>(rk_neqiF (.of rfl) (.of rfl) hlen1)) ind0w rfl ?_;refine am_val (fun β=>(rk_pickB (.of rfl) (.of rfl) (.of rfl) rfl)) ind0w rfl ?_)
    refine am_end fun β=>?_
    dsimp only [resAll,List.nil_append,List.cons_append,List.append_eq,Nat.reduceAdd]
    with_reducible refine left_done (by kernel_rfl) ?_
    (refine tr_then ?_;refine tr_cond_f (.of rfl) ?_;refine s_t ?_;refine tr_seq ?_;refine s_r ?_;refine m_v rfl rfl ?_)
    refine tr_cut [(182,.string s),(16,.string pr),(3,.pointer (some ⟨b3,0,none⟩)),(1,.string s)] [blk b3 (.cells #[.slice a es.length cap] 24)] (by exact .cons rfl (.cons rfl (.cons rfl (.cons rfl .nil)))) (by exact .cons (.there (.there (.there (.there (.there .here))))) .nil) ?_
    with_reducible apply tr_call
    case hr=>exact rk_call (.of rfl) (.cons (.of rfl) .nil) inferInstance normc_
    case hd=>rfl
    case ht=>exact Takes.nil
    case hc=>
      intro w1 fp hm1 _ hs1
      obtain rfl:fp = []:=hs1
      exact hPs w1 hm1.keeps
    intro vd _
    dsimp only [id_eq,List.cons_append,List.nil_append]
    refine tr_rowSl (E:=138) (sz:=6) (v:=vd) (by exact .here) fun xd yd ed=>?_
    subst ed
    (refine m_v rfl rfl ?_;refine tr_val (rk_extract (.of rfl) rfl) rfl ?_;refine tr_val (rk_extract (.of rfl) rfl) rfl ?_;refine tr_val (rk_extract (.of rfl) rfl) rfl ?_;refine tr_new (rk_alloc rfl) rfl (fun _ _=>?_);refine tr_store (.of rfl) (.of rfl) .here rfl rfl (okc_cons rfl okc_nil) (lenb rfl) norm_ ?_;refine a_s rfl rfl ?_;refine a_s rfl rfl ?_;refine n_r ?_;refine m_v rfl rfl ?_;refine tr_val (rk_eql (.of rfl) (.of rfl)) rfl ?_;refine n_t ?_;refine c_d rfl (fun hcd=>?_) (fun hcd=>?_);refine s_r ?_;refine tr_val (rk_loadB (.of rfl) .here norm_ (by rfl)) rfl ?_;rotate_left;refine s_t ?_;refine tr_seq ?_;refine s_r ?_;refine m_v rfl rfl ?_;refine tr_val (rk_eqls (.of rfl) (.of rfl)) rfl ?_;refine n_t ?_;refine c_d rfl (fun hcd=>?_) (fun hcd=>?_);refine s_r ?_;refine a_s rfl rfl ?_;refine n_t ?_;refine r_t ?_;refine tr_retE rfl (ends1 rfl rfl) ?_;rotate_left;refine s_t ?_;refine s_r ?_;refine m_v rfl rfl ?_;refine m_v rfl rfl ?_;refine tr_val (rk_len_string (.of rfl)) rfl ?_;refine tr_val (rk_sub (.of rfl) (.of rfl) (ini (by omega))) rfl ?_;rotate_right;rotate_right)
    · rename_i b21 hb21
      with_reducible apply tr_callV
      case hr=>exact rk_call (.of rfl) (.cons (.of rfl) .nil) inferInstance normc_
      case hd=>rfl
      case hc=>
        intro w' hm'
        exact hP2 hcd (.slice xd L2.length yd) w' hm'.keeps (rdEnF hm' (by exact Take.there .here) rfl)
      (refine m_v rfl rfl ?_;refine tr_val (rk_extract (.of rfl) rfl) rfl ?_;refine tr_val (rk_extract (.of rfl) rfl) rfl ?_;refine a_s rfl rfl ?_;refine a_s rfl rfl ?_;refine n_r ?_;refine m_v rfl rfl ?_;refine tr_val (rk_neq (.of rfl) (.of rfl)) rfl ?_;refine m_v rfl rfl ?_;refine v_g rfl rfl rfl rfl ?_;refine v_g rfl rfl rfl rfl ?_;refine tr_vG1 rfl rfl inferInstance (fun hg hgp=>(rk_neqs (.ofg hg rfl) (.ofg hg rfl))) rfl ?_;refine tr_val (rk_pick_or (.of rfl) rfl) rfl ?_;refine n_t ?_;refine c_d rfl (fun hcd=>?_) (fun hcd=>?_);refine s_r ?_;refine a_s rfl rfl ?_;refine n_t ?_;refine r_t ?_;refine tr_retE rfl (ends1 rfl rfl) ?_;rotate_left;refine s_t ?_;refine tr_seq ?_;refine s_r ?_;refine m_v rfl rfl ?_;refine tr_val (rk_eqls (.of rfl) (.of rfl)) rfl ?_;refine n_t ?_;refine c_d rfl (fun hcd=>?_) (fun hcd=>?_);refine s_r ?_;refine a_s rfl rfl ?_;refine n_t ?_;refine r_t ?_;refine tr_retE rfl (ends1 rfl rfl) ?_;rotate_left;refine s_t ?_;refine s_r ?_;refine m_v rfl rfl ?_;refine m_v rfl rfl ?_;refine tr_val (rk_len_string (.of rfl)) rfl ?_;refine tr_val (rk_sub (.of rfl) (.of rfl) (ini (by omega))) rfl ?_;rotate_right;rotate_right)
      · exact absurd rfl hcd
      · rfl
      · have hne:pr ≠ ⟨#[]⟩:=hcd
        have hp1:=hpos hne
        refine tr_val (rk_sliceS_h (.of rfl) (.of rfl) (by omega) (by omega)) rfl ?_
        with_reducible apply tr_call
        case hr=>exact rk_call (.of rfl) (.cons (.of rfl) .nil) inferInstance normc_
        case hd=>rfl
        case ht=>exact Takes.nil
        case hc=>
          intro w1 fp hm1 _ hs1
          obtain rfl:fp = []:=hs1
          exact hPc hne w1 hm1.keeps
        intro vf _
        dsimp only [id_eq,List.cons_append,List.nil_append]
        refine tr_rowSl (E:=138) (sz:=6) (v:=vf) (by exact .here) fun xf yf ef=>?_
        subst ef
        (refine m_v rfl rfl ?_;refine tr_val (rk_extract (.of rfl) rfl) rfl ?_;refine tr_val (rk_extract (.of rfl) rfl) rfl ?_;refine tr_val (rk_extract (.of rfl) rfl) rfl ?_;refine tr_new (rk_alloc rfl) rfl (fun _ _=>?_);refine tr_store (.of rfl) (.of rfl) .here rfl rfl (okc_cons rfl okc_nil) (lenb rfl) norm_ ?_;refine a_s rfl rfl ?_;refine a_s rfl rfl ?_;refine n_r ?_;refine m_v rfl rfl ?_;refine tr_val (rk_eql (.of rfl) (.of rfl)) rfl ?_;refine m_v rfl rfl ?_;refine v_g rfl rfl rfl rfl ?_;refine tr_vG1 rfl rfl inferInstance (fun hg hgp=>(rk_fieldAddr (.of rfl) norm0_)) rfl ?_;refine tr_vG1 rfl rfl inferInstance (fun hg hgp=>(rk_load1 (.ofg hg rfl) (At.lit (.there (.there (.there (.there .here)))) rfl))) rfl ?_;refine tr_vG1 rfl rfl inferInstance (fun hg hgp=>(rk_len_slice (.ofg hg rfl))) rfl ?_;refine tr_vG1 rfl rfl inferInstance (fun hg hgp=>(rk_sub (.ofg hg rfl) (.of rfl) (ini (by omega)))) rfl ?_;refine tr_vG1 rfl rfl inferInstance (fun hg hgp=>(rk_eql (.ofg hg rfl) (.ofg hg rfl))) rfl ?_;refine tr_val (rk_pick_and (.of rfl) rfl) rfl ?_;refine a_s rfl rfl ?_;refine n_t ?_;refine tr_ret ?_;refine tr_retE rfl (ends1 rfl rfl) ?_)
        simp
    · rfl
    · have hne:pr ≠ ⟨#[]⟩:=hcd
      have hp1:=hpos hne
      refine tr_val (rk_sliceS_h (.of rfl) (.of rfl) (by omega) (by omega)) rfl ?_
      with_reducible apply tr_call
      case hr=>exact rk_call (.of rfl) (.cons (.of rfl) .nil) inferInstance normc_
      case hd=>rfl
      case ht=>exact Takes.nil
      case hc=>
        intro w1 fp hm1 _ hs1
        obtain rfl:fp = []:=hs1
        exact hPc hne w1 hm1.keeps
      intro vf _
      dsimp only [id_eq,List.cons_append,List.nil_append]
      refine tr_rowSl (E:=138) (sz:=6) (v:=vf) (by exact .here) fun xf yf ef=>?_
      subst ef
      (refine m_v rfl rfl ?_;refine tr_val (rk_extract (.of rfl) rfl) rfl ?_;refine tr_val (rk_extract (.of rfl) rfl) rfl ?_;refine tr_val (rk_extract (.of rfl) rfl) rfl ?_;refine tr_new (rk_alloc rfl) rfl (fun _ _=>?_);refine tr_store (.of rfl) (.of rfl) .here rfl rfl (okc_cons rfl okc_nil) (lenb rfl) norm_ ?_;refine a_s rfl rfl ?_;refine a_s rfl rfl ?_;refine n_r ?_;refine m_v rfl rfl ?_;refine tr_val (rk_eql (.of rfl) (.of rfl)) rfl ?_;refine m_v rfl rfl ?_;refine v_g rfl rfl rfl rfl ?_;refine tr_vG1 rfl rfl inferInstance (fun hg hgp=>(rk_fieldAddr (.of rfl) norm0_)) rfl ?_;refine tr_vG1 rfl rfl inferInstance (fun hg hgp=>(rk_load1 (.ofg hg rfl) (At.lit (.there (.there (.there (.there .here)))) rfl))) rfl ?_;refine tr_vG1 rfl rfl inferInstance (fun hg hgp=>(rk_len_slice (.ofg hg rfl))) rfl ?_;refine tr_vG1 rfl rfl inferInstance (fun hg hgp=>(rk_sub (.ofg hg rfl) (.of rfl) (ini (by omega)))) rfl ?_;refine tr_vG1 rfl rfl inferInstance (fun hg hgp=>(rk_eql (.ofg hg rfl) (.ofg hg rfl))) rfl ?_;refine tr_val (rk_pick_and (.of rfl) rfl) rfl ?_;refine a_s rfl rfl ?_;refine n_t ?_;refine tr_ret ?_;refine tr_retE rfl (ends1 rfl rfl) ?_)
      simp
end Go.Proofs.A1
