/- Parts of the proof: EW6. -/
import Derived.Test.YtpamkookgkffgaaGreatDoorTM20
import Derived.Test.YtpamkookgkffgaaGreatDoorTM22
import Derived.Test.YtpamkookgkffgaaGreatDoorTM21
import Derived.Test.YtpamkookgkffgaaGreatDoorTM14
import Derived.Test.YtpamkookgkffgaaGreatDoorTM07
import Derived.Test.YtpamkookgkffgaaGreatDoorTM06
set_option linter.unusedSectionVars false
set_option linter.unusedVariables false
set_option linter.unusedSimpArgs false
namespace Go.Proofs.A1
open Go Go.SL
def gq3:Value → Value × Value × Value
  | .agg cs=>(cs.getD 1 undef,cs.getD 2 undef,cs.getD 3 undef)
  | _=>(undef,undef,undef)
theorem gq3_of (x:Value × Value × Value):∃ v,gq3 v = x:=⟨.agg #[undef,x.1,x.2.1,x.2.2],rfl⟩
theorem find_ne {es:List En} {s:ByteArray} (h:findF es s es.length < 0):∀ i,i < es.length → (nth es i).nm ≠ s:=fun i hi e=>by
  have h2:=findF_le es s es.length
  rw [decide_eq_false (by omega)] at h2
  unfold knw at h2
  have h3:=h2.symm
  rw [List.any_eq_false] at h3
  exact h3 i (List.mem_range.2 hi) (decide_eq_true e)
theorem shortBr_few {b:Br} (h:shortBr b = true):b.sp.length ≤ 9 ∧ b.cm.length ≤ 9 ∧ b.ex.length ≤ 17:=by
  unfold shortBr at h
  simp only [Bool.and_eq_true,Bool.or_eq_true,decide_eq_true_eq] at h
  omega
theorem briefB_iff {es:List En} (h:briefB es = true):shortB es = true ∧ chkF es = 0 ∧ enE es ≤ 1000:=by
  unfold briefB at h
  rw [Bool.and_eq_true,Bool.and_eq_true,decide_eq_true_eq,decide_eq_true_eq] at h
  exact ⟨h.1.1,h.1.2,h.2⟩
theorem fill_cs {es:List En} {b:Br} {gi:Nat} {x:Int × Int × Int} (hz:chkF es = 0) (h8:es.length ≤ 8) (hb:brE b = 0) (hx:(gpL es es.length)[gi]? = some x) (hn:b.n = x.2.2 - x.2.1) (hnm:∀ i j,i < es.length → j < b.sp.length → (nth es i).nm ≠ (nthS9 b.sp j).nm) :
    ∃ l:List En,l.length = (fillF b).length ∧ ∃ k:Nat,x.1 = (k:Int) ∧ k + 1 < es.length ∧ plL' es (gi:Int) b (natI (fillF b)) = fil es l k:=by
  have hs:=Sound.of hz
  have hbo:=BrOk.of hb
  have ho:=fillF_ok hbo
  obtain ⟨k0,hk0,F⟩:=fill_ok hz h8 hb hx hn hnm
  have hpl:=F.pl
  generalize fillF b = o at ho hpl
  obtain ⟨k,hk,hg,rfl,hgi⟩:=gpL_at hx
  refine ⟨plEn b (to es k) o o.length,plEn_length b (to es k) o o.length,k,rfl,hk,?_⟩
  have hpg:plGap es gi = ((k:Int),to es k,fr es (k + 1)):=by
    unfold plGap
    rw [List.getD_eq_getElem?_getD,hx];rfl
  have hpe:plEs es b (natI o) ((k:Int),to es k,fr es (k + 1)) = fil es (plEn b (to es k) o o.length) k:=by
    unfold plEs fil
    rw [cfO_nat,Int.toNat_natCast]
  unfold plL'
  rw [if_pos hpl,Int.toNat_natCast,hpg,hpe]
theorem natI_len (o:List Nat):(natI o).length = o.length:=by unfold natI;rw [List.length_map]
theorem natsV_fl (o:List Nat):natsV9 o = (ints (natI o)).flatten:=by
  induction o with
  | nil=>rfl
  | cons x l ih =>
    show [Value.int .i64 (x:Int)]++natsV9 l = _
    rw [ih];rfl
theorem Gives.sliceV {P:Program} {f:FuncId} {args:List Value} {w:World} {md:List Nat} {E:TypeId} {sz n:Nat} {xs:List Value} {val:Value → Value} (h:Gives P f args w md (fun _:Value=>True) val (fun v=>[row E sz v n xs])) :
    Gives P f args w md (fun _:Option Addr × Nat=>True) (fun x=>val (.slice x.1 n x.2)) (fun x=>[row E sz (.slice x.1 n x.2) n xs]):=
  Calls.mono h fun e w' ⟨v,he,_,hk,fp,hn,hs,hf⟩=>by
    have hv:∃ x:Option Addr × Nat,v = .slice x.1 n x.2:=by
      obtain ⟨f1,f2,_,⟨_,_,⟨e1,e2⟩ | ⟨g,cap,cur,e1,_⟩⟩,_⟩:=hs
      · exact ⟨(none,0),by rw [e1,e2]⟩
      · exact ⟨(_,cap),e1⟩
    obtain ⟨x,rfl⟩:=hv
    exact ⟨x,he,trivial,hk,fp,hn,hs,hf⟩
theorem rk_neqsS {P:Program} {c:Cx} {sl:Slots} {hs:List Asn} {dst:Option Tmp} {ty:TypeId} {pos:String} {af:Array Edge} {g:Option (Nat × Bool)} {t u:TypeId} {x y:Operand} {a b:ByteArray} (hx:Is sl x (.string a)) (hy:Is sl y (.string b)) (e:a = b) :
    RunV P c sl hs ⟨dst,.binOp .neq t x y u,ty,pos,af,g⟩ (.bool false):=by
  have:=rk_neqs (P:=P) (c:=c) (hs:=hs) (dst:=dst) (ty:=ty) (pos:=pos) (af:=af) (g:=g) (t:=t) (u:=u) hx hy
  rwa [decide_eq_false (fun h=>h e)] at this
theorem cells_1 {cs r:List Value} {o n:Nat} {v:Value} (h:cellsAt cs o (n + 1) = v :: r):cs[o]? = some v:=by
  rw [cellsAt_eq] at h
  have:=congrArg (fun l=>l[0]?) h
  rw [List.getElem?_take_of_lt (by omega),List.getElem?_drop] at this
  simpa using this
theorem cells_2 {cs r:List Value} {o n:Nat} {u v:Value} (h:cellsAt cs o (n + 2) = u :: v :: r):cs[o + 1]? = some v:=by
  rw [cellsAt_eq] at h
  have:=congrArg (fun l=>l[1]?) h
  rw [List.getElem?_take_of_lt (by omega),List.getElem?_drop] at this
  simpa using this
theorem rk_convS {P:Program} {c:Cx} {sl:Slots} {hs:List Asn} {dst:Option Tmp} {pos:String} {af:Array Edge} {g:Option (Nat × Bool)} {ty t u:TypeId} {k':IntKind} {x:Operand} {n:Int} [ht:Und P t (.int k')] [hu:Und P u (.int .i64)] (hx:Is sl x (.int k' n)) (h:0 ≤ n ∧ n < 9223372036854775808) :
    RunV P c sl hs ⟨dst,.convert t u x,ty,pos,af,g⟩ (.int .i64 n):=by
  have:=rk_conv (P:=P) (c:=c) (hs:=hs) (dst:=dst) (ty:=ty) (pos:=pos) (af:=af) (g:=g) (t:=t) (u:=u) (k:=.i64) hx
  rwa [show IntKind.i64.wrap n = n by unfold IntKind.wrap;simp [IntKind.signed,IntKind.bits];omega] at this
theorem rk_neqAF {P:Program} {c:Cx} {sl:Slots} {hs:List Asn} {dst:Option Tmp} {ty:TypeId} {pos:String} {af:Array Edge} {g:Option (Nat × Bool)} {t u:TypeId} {ts:List TypeId} [h:Leaf P t ts] {x y:Operand} {a b a' b':Int} (hx:Is sl x (.agg #[.int .i64 a,.int .i64 b])) (hy:Is sl y (.agg #[.int .i64 a',.int .i64 b'])) (hok:okL P ts [.int .i64 a,.int .i64 b] = true) (e:a = a' ∧ b = b') :
    RunV P c sl hs ⟨dst,.binOp .neq t x y u,ty,pos,af,g⟩ (.bool false):=by
  obtain ⟨rfl,rfl⟩:=e
  exact rk_neqA (b:=true) (xs:=[.int .i64 a,.int .i64 b]) (ys:=[.int .i64 a,.int .i64 b]) hx hy hok (by simp [eqL,leq])
theorem cells_tail {cs:List Value} {o:Nat} {a b c:Value} (h:cellsAt cs o 3 = [a,b,c]):cellsAt cs (o + 1) 2 = [b,c]:=by
  rw [cellsAt_eq] at h ⊢
  have e:(cs.drop (o + 1)).take 2 = ((cs.drop o).take 3).drop 1:=by rw [List.drop_take,List.drop_drop]
  rw [e,h];rfl
set_option maxHeartbeats 8000000 in
set_option maxRecDepth 100000 in
theorem titled_law {sv pv cv xv:Value} {es:List En} {b:Br} {m:Int} {w:World} (h1:Rd w sv 6 (ensL es)) (h2:Rd w pv 4 (spsL b.sp)) (h3:Rd w cv 1 (ints b.cm)) (h4:Rd w xv 2 (prsL b.ex)) (hm:0 ≤ m ∧ m ≤ 255) (hGR:GlobR w) (hG:Glob w) :
    GivesV Tryz.prog 3 [.agg #[sv],.agg #[.int .i64 b.n,pv,cv,xv],.int .u8 m] w (.bool true):=by
  have hone1:=Rd.one h1
  have hone2:=Rd.one h2
  have hone3:=Rd.one h3
  have hone4:=Rd.one h4
  have h1':=h1
  obtain ⟨a1,cap1,bs1,os1,rfl,hcap1,hmax1,ha1,hc1⟩:=h1'
  rw [ensL_length] at *
  unfold maxLen at hmax1
  have h2':=h2
  obtain ⟨a2,cap2,bs2,os2,rfl,hcap2,hmax2,ha2,hc2⟩:=h2'
  rw [spsL_length] at *
  unfold maxLen at hmax2
  refine givesV_of_tr Tryz.func3 rfl rfl ?_
  (refine s_r ?_;refine tr_new (rk_box (.of rfl) rfl) rfl (fun _ _=>?_);refine tr_new (rk_box (.of rfl) rfl) rfl (fun _ _=>?_);refine a_s rfl rfl ?_;refine n_t ?_;refine tr_seq ?_;refine s_r ?_;refine tr_callV (rk_call (.of rfl) .nil inferInstance normc_) rfl (fun w' hm'=>(craneD_c w' (GlobR.keeps hGR (Mem.keeps hm')) (Glob.keeps hG (Mem.keeps hm')))) ?_;refine tr_val (rk_not (.of rfl)) rfl ?_;refine m_v rfl rfl ?_;refine tr_vG1 rfl rfl inferInstance (fun hg hgp=>(rk_loadB (.of rfl) (.there .here) norm_ (by rfl))) rfl ?_;refine tr_callVG1 rfl rfl (fun hg=>(rk_call (.of rfl) (.cons (.ofg hg rfl) .nil) inferInstance normc_)) rfl (fun hg w' hm'=>(brief_c (Rd.keeps h1 (Mem.keeps hm')))) ?_;refine tr_vG1 rfl rfl inferInstance (fun hg hgp=>(rk_not (.ofg hgp rfl))) rfl ?_;refine tr_val (rk_pick_or (.of rfl) rfl) rfl ?_;refine m_v rfl rfl ?_;refine tr_vG1 rfl rfl inferInstance (fun hg hgp=>(rk_fieldAddr (.of rfl) norm0_)) rfl ?_;refine tr_vG1 rfl rfl inferInstance (fun hg hgp=>(rk_load1 (.ofg hg rfl) (At.lit (.there .here) rfl))) rfl ?_;refine tr_vG1 rfl rfl inferInstance (fun hg hgp=>(rk_len_slice (.ofg hg rfl))) rfl ?_;refine tr_vG1 rfl rfl inferInstance (fun hg hgp=>(rk_gtr (.ofg hg rfl) (.of rfl))) rfl ?_;refine tr_val (rk_pick_or (.of rfl) rfl) rfl ?_;refine m_v rfl rfl ?_;refine tr_vG1 rfl rfl inferInstance (fun hg hgp=>(rk_loadB (.of rfl) .here norm_ (by rfl))) rfl ?_;refine tr_callVG1 rfl rfl (fun hg=>(rk_call (.of rfl) (.cons (.ofg hg rfl) .nil) inferInstance normc_)) rfl (fun hg w' hm'=>(shortBr_c (Rd.keeps h2 (Mem.keeps hm')) (Rd.keeps h3 (Mem.keeps hm')) (Rd.keeps h4 (Mem.keeps hm')))) ?_;refine tr_vG1 rfl rfl inferInstance (fun hg hgp=>(rk_not (.ofg hg rfl))) rfl ?_;refine tr_val (rk_pick_or (.of rfl) rfl) rfl ?_;refine m_v rfl rfl ?_;refine tr_vG1 rfl rfl inferInstance (fun hg hgp=>(rk_fieldAddr (.of rfl) norm0_)) rfl ?_;refine tr_vG1 rfl rfl inferInstance (fun hg hgp=>(rk_load1 (.ofg hg rfl) (At.lit .here rfl))) rfl ?_;refine tr_vG1 rfl rfl inferInstance (fun hg hgp=>(rk_len_slice (.ofg hg rfl))) rfl ?_;refine tr_vG1 rfl rfl inferInstance (fun hg hgp=>(rk_gtr (.ofg hg rfl) (.of rfl))) rfl ?_;refine tr_val (rk_pick_or (.of rfl) rfl) rfl ?_;refine n_t ?_;refine c_b rfl (fun hcd=>?_) (fun hcd=>?_);refine s_r ?_;refine tr_callV (rk_call (.of rfl) .nil inferInstance normc_) rfl (fun w' hm'=>(craneD_c w' (GlobR.keeps hGR (Mem.keeps hm')) (Glob.keeps hG (Mem.keeps hm')))) ?_;refine a_s rfl rfl ?_;refine n_t ?_;refine r_t ?_;refine tr_retE rfl (ends1 rfl rfl) ?_;rotate_left;refine s_t ?_;refine tr_seq ?_;refine s_r ?_;refine f_a rfl rfl norm0_ ?_;refine tr_val (rk_load1 (.of rfl) (At.lit (.there .here) rfl)) rfl ?_;refine tr_val (rk_len_slice (.of rfl)) rfl ?_;refine m_v rfl rfl ?_;refine n_t ?_;refine tr_block ?_;rotate_right)
  · rfl
  obtain ⟨⟨⟨⟨-,hbb⟩,h8⟩,hss⟩,h6⟩:=hcd
  obtain ⟨hsh,hz,hend⟩:=briefB_iff hbb
  have hs:=Sound.of hz
  have hfb:=shortBr_few hss
  rename_i b3 hb3 b4 hb4
  refine tr_for (fun k:Nat=>k ≤ es.length) (fun k=>[(52,.int .i64 k),(51,.int .i64 es.length),(50,.slice a1 es.length cap1),(2,.int .u8 m),(3,.pointer (some ⟨b3,0,none⟩)),(4,.pointer (some ⟨b4,0,none⟩))]) (fun _=>[blk b3 (.cells #[.slice a1 es.length cap1] 24 (0,0)),blk b4 (.cells #[.int .i64 b.n,.slice a2 b.sp.length cap2,cv,xv] 29 (0,0))]) (fun k=>es.length - k) ?_ ?_
  · apply tr_start 0 (show 0 ≤ es.length from Nat.zero_le _)
    case hs1=>exact .cons rfl (.cons rfl (.cons rfl (.cons rfl (.cons rfl (.cons rfl .nil)))))
    case ht=>(try simp only [List.take_zero,List.map_nil,List.nil_append]);exact .cons (.there .here) (.cons .here .nil)
  intro k hk
  by_cases hlt:k < es.length
  · have ha':=ha1 (ensL_ne hlt)
    have hcell:=(hc1 k _ (ensL_get hlt)).2
    unfold En.cells at hcell
    (refine s_r ?_;refine tr_val (rk_lss (.of rfl) (.of rfl)) rfl ?_;refine n_t ?_;refine tr_seq ?_;refine c_d rfl (fun hcd=>?_) (fun _=>by omega);refine s_t ?_;refine tr_seq ?_;refine tr_block ?_;refine s_r ?_;refine tr_val (rk_indexAddr (.of rfl) (.of rfl) ha' (by omega) hcd norm1_) rfl ?_;refine tr_val (rk_loadN (.of rfl) (Ats.base hcell rfl) rfl) rfl ?_;refine tr_new (rk_alloc rfl) rfl (fun _ _=>?_);refine tr_store (.of rfl) (.of rfl) .here rfl rfl (okc_cons rfl (okc_cons rfl (okc_cons rfl (okc_cons rfl (okc_cons rfl (okc_cons rfl okc_nil)))))) (lenb rfl) norm_ ?_;refine n_r ?_;refine f_a rfl rfl norm0_ ?_;refine tr_val (rk_load1 (.of rfl) (At.lit .here rfl)) rfl ?_;refine tr_val (rk_len_string (.of rfl)) rfl ?_;refine tr_val (rk_gtr (.of rfl) (.of rfl)) rfl ?_;refine n_t ?_;refine c_d rfl (fun hcd=>?_) (fun hcd=>?_);refine s_r ?_;refine a_s rfl rfl ?_;refine n_t ?_;refine tr_ret ?_;refine tr_blk_ret ?_;refine tr_then_ret ?_;refine tr_then_ret ?_;refine tr_blk_ret ?_;refine tr_then_ret ?_;refine tr_retE rfl (ends1 rfl rfl) ?_;rotate_left;refine tr_skip ?_;refine tr_blk_normal ?_;refine tr_then ?_;refine tr_region ?_;refine tr_val (rk_add (.of rfl) (.of rfl) (ini (by omega))) rfl ?_;refine m_v rfl rfl ?_;refine n_t ?_;rotate_right)
    · rfl
    apply tr_next (k + 1) (show k + 1 ≤ es.length by omega) (show es.length - (k + 1) < es.length - k by omega)
    case hs1=>exact .cons rfl (.cons rfl (.cons rfl (.cons rfl (.cons rfl (.cons rfl .nil)))))
    case ht=>(try simp only [List.take_zero,List.map_nil,List.nil_append]);exact .cons (.there .here) (.cons (.there .here) .nil)
  obtain rfl:k = es.length:=by omega
  (refine s_r ?_;refine tr_val (rk_lss (.of rfl) (.of rfl)) rfl ?_;refine n_t ?_;refine tr_seq ?_;refine c_d rfl (fun _=>by omega) (fun hcd=>?_);refine x_t ?_;refine tr_then_exit ?_;refine tr_blk_exit ?_;refine tr_then ?_;refine tr_seq ?_;refine s_r ?_;refine tr_val (rk_loadB (.of rfl) .here norm_ (by rfl)) rfl ?_)
  with_reducible apply tr_call
  case hr=>exact rk_call (.of rfl) (.cons (.of rfl) .nil) inferInstance normc_
  case hd=>rfl
  case ht=>exact Takes.nil
  case hc=>
    intro w1 fp hm1 _ hs1
    obtain rfl:fp = []:=hs1
    exact craneS_c (h1.keeps hm1.keeps) (by omega)
  intro s2 _
  dsimp only [id_eq,List.cons_append,List.nil_append]
  skip
  with_reducible apply tr_callV
  case hr=>exact rk_call (.of rfl) (.cons (.of rfl) .nil) inferInstance normc_
  case hd=>rfl
  case hc=>
    intro w' hm'
    exact screen_c (rdEn (E:=67) (v:=s2) hm' (by exact .here)) hz (hG.keeps hm'.keeps)
  (refine tr_val (rk_not (.of rfl)) rfl ?_;refine n_t ?_;refine tr_cond_f (.of rfl) ?_;refine s_t ?_;refine s_r ?_;refine tr_val (rk_loadB (.of rfl) (.there .here) norm_ (by rfl)) rfl ?_)
  with_reducible apply tr_call
  case hr=>exact rk_call (.of rfl) (.cons (.of rfl) .nil) inferInstance normc_
  case hd=>rfl
  case ht=>exact Takes.nil
  case hc=>
    intro w1 fp hm1 _ hs1
    obtain rfl:fp = []:=hs1
    exact gapsQ_c (h1.keeps hm1.keeps) hs
  intro g0 _
  dsimp only [id_eq,List.cons_append,List.nil_append]
  refine tr_rowSl (E:=47) (sz:=3) (v:=g0) (by exact .here) fun ga gc e=>?_
  subst e
  (refine a_s rfl rfl ?_;refine n_t ?_;refine tr_seq ?_;refine s_r ?_;refine m_v rfl rfl ?_;refine tr_val (rk_len_slice (.of rfl)) rfl ?_;refine tr_val (rk_eql (.of rfl) (.of rfl)) rfl ?_;refine n_t ?_;refine c_d rfl (fun hcd=>?_) (fun hcd=>?_);refine s_r ?_;refine a_s rfl rfl ?_;refine n_t ?_;refine r_t ?_;refine tr_retE rfl (ends1 rfl rfl) ?_;rotate_left;refine s_t ?_;refine s_r ?_;refine m_v rfl rfl ?_;refine tr_val (rk_convS (.of rfl) (by omega)) rfl ?_;refine m_v rfl rfl ?_;refine tr_val (rk_len_slice (.of rfl)) rfl ?_;refine tr_val (rk_rem (.of rfl) (.of rfl) (by omega) hcd) rfl ?_;refine a_s rfl rfl ?_;refine n_t ?_;refine tr_seq ?_;rotate_right)
  · rfl
  have hgl:0 < (gpL es es.length).length:=by omega
  have hgr:0 ≤ m % ((gpL es es.length).length:Int) ∧ m % ((gpL es es.length).length:Int) < ((gpL es es.length).length:Int):=⟨Int.emod_nonneg _ (by omega),Int.emod_lt_of_pos _ (by omega)⟩
  generalize m % ((gpL es es.length).length:Int) = gi' at hgr
  obtain ⟨gi,rfl⟩:=Int.eq_ofNat_of_zero_le hgr.1
  have hgi:gi < (gpL es es.length).length:=by omega
  obtain ⟨x,hx⟩:∃ x,(gpL es es.length)[gi]? = some x:=⟨_,List.getElem?_eq_getElem hgi⟩
  obtain ⟨kk,hkl,hkg,hxe,_⟩:=gpL_at hx
  generalize hff:to es kk = ff at hkg hxe
  generalize htt:fr es (kk + 1) = tt at hkg hxe
  have hfn:=hs.fr_nn (k:=kk) (by omega)
  have hfn2:=hs.fr_nn (k:=kk + 1) (by omega)
  rw [hff] at hfn
  rw [htt] at hfn2
  subst hxe
  refine tr_rowOpen (E:=47) (sz:=3) (v:=.slice ga (gpL es es.length).length gc) (by exact .here) hgl fun gg gcap gcur e hk1 hx1 hz1 hl1=>?_
  obtain ⟨rfl,-,rfl⟩:=Value.slice.inj e
  have hx1':=hx1
  unfold maxLen at hx1'
  have q0:cellsAt (gpR es es.length++gcur) (gi * 3) 3 = [.int .i64 (kk:Int),.int .i64 ff,.int .i64 tt]:=by
    rw [gpR,trisL_flat]
    exact flat_cellsAt (trisL_sz _) (by rw [trisL,List.getElem?_map,hx];rfl)
  have q1:=cells_1 q0
  have q2:=cells_1 (cells_tail q0)
  have q3:=cells_2 (cells_tail q0)
  skip
  with_reducible refine tr_draw 14 (by kernel_rfl) ?_
  (refine a_m rfl rfl ?_;refine a_m rfl rfl ?_;refine any_val (rk_indexAddr (.of rfl) (.of rfl) rfl (by omega) (by omega) norm1_) rfl ?_;refine a_f rfl rfl norm0_ ?_;refine a_f rfl rfl norm0_ ?_;refine any_val (rk_load1 (.of rfl) (At.blkL .here q3)) rfl ?_;refine a_m rfl rfl ?_;refine a_m rfl rfl ?_;refine any_val (rk_indexAddr (.of rfl) (.of rfl) rfl (by omega) (by omega) norm1_) rfl ?_;refine a_f rfl rfl norm0_ ?_;refine a_f rfl rfl norm0_ ?_;refine any_val (rk_load1 (.of rfl) (At.blkL .here q2)) rfl ?_;refine any_val (rk_sub (.of rfl) (.of rfl) (ini (by omega))) rfl ?_;refine a_f rfl rfl norm0_ ?_)
  with_reducible refine any_end ?_
  (refine tr_store (.of rfl) (.of rfl) (.there (.there (.there .here))) rfl rfl (okc_cons rfl okc_nil) (lenb rfl) norm_ ?_;refine n_t ?_;refine tr_seq ?_;refine s_r ?_;refine tr_val (rk_loadB (.of rfl) .here norm_ (by rfl)) rfl ?_)
  with_reducible apply tr_callV
  case hr=>exact rk_call (.of rfl) (.cons (.of rfl) .nil) inferInstance normc_
  case hd=>rfl
  case hc=>
    intro w' hm'
    exact brkQ_c (b:=⟨tt - ff,b.sp,b.cm,b.ex⟩) (h2.keeps hm'.keeps) (h3.keeps hm'.keeps) (h4.keeps hm'.keeps)
  (refine tr_val (rk_neq (.of rfl) (.of rfl)) rfl ?_;refine n_t ?_;refine c_d rfl (fun hcd=>?_) (fun hcd=>?_);refine s_r ?_;refine a_s rfl rfl ?_;refine n_t ?_;refine r_t ?_;refine tr_retE rfl (ends1 rfl rfl) ?_;rotate_left;refine s_t ?_;refine tr_seq ?_;refine s_r ?_;refine f_a rfl rfl norm0_ ?_;refine tr_val (rk_load1 (.of rfl) (At.lit .here rfl)) rfl ?_;refine tr_val (rk_len_slice (.of rfl)) rfl ?_;refine m_v rfl rfl ?_;refine n_t ?_;refine tr_block ?_;rotate_right)
  · rfl
  have hbz:brE ⟨tt - ff,b.sp,b.cm,b.ex⟩ = 0:=by omega
  clear hcd
  refine tr_for (ι:=Nat) (fun k=>k ≤ b.sp.length ∧ ∀ j,j < k → findF es (nthS9 b.sp j).nm es.length < 0) (fun k=>[(95,.int .i64 (k:Int)),(94,.int .i64 (b.sp.length:Int)),(93,.slice a2 b.sp.length cap2),(10,.int .i64 (gi:Int)),(9,.slice (some ⟨gg,0,none⟩) (gpL es es.length).length gc),(3,.pointer (some ⟨b3,0,none⟩)),(4,.pointer (some ⟨b4,0,none⟩))])
    (fun _=>[blk gg (.cells (gpR es es.length++gcur).toArray 47 (0,0)),blk b3 (.cells #[.slice a1 es.length cap1] 24 (0,0)),blk b4 (.cells #[.int .i64 (tt - ff),.slice a2 b.sp.length cap2,cv,xv] 29 (0,0))]) (fun k=>b.sp.length - k) ?_ ?_
  · apply tr_start 0 ⟨Nat.zero_le _,fun j hj=>absurd hj (Nat.not_lt_zero _)⟩
    case hs1=>exact .cons rfl (.cons rfl (.cons rfl (.cons rfl (.cons rfl (.cons rfl (.cons rfl .nil))))))
    case ht=>(try simp only [List.take_zero,List.map_nil,List.nil_append]);exact .cons (.there .here) (.cons (.there (.there .here)) (.cons .here .nil))
  rintro k ⟨hk,hfnd⟩
  by_cases hlt:k < b.sp.length
  · have ha':=ha2 (spsL_ne hlt)
    have hcell:=(hc2 k _ (spsL_get hlt)).2
    unfold Sp.cells at hcell
    have hfq:∀ w',Keeps [] w w' → GivesV Tryz.prog 11 [.agg #[.slice a1 es.length cap1],.string (nthS9 b.sp k).nm,.int .i64 es.length] w' (.int .i64 (findF es (nthS9 b.sp k).nm es.length)):=fun w' hk=>findQ_c (nthS9 b.sp k).nm es.length (h1.keeps hk) (Nat.le_refl _)
    (refine s_r ?_;refine tr_val (rk_lss (.of rfl) (.of rfl)) rfl ?_;refine n_t ?_;refine tr_seq ?_;refine c_d rfl (fun hcd=>?_) (fun _=>by omega);refine s_t ?_;refine tr_seq ?_;refine tr_block ?_;refine s_r ?_;refine tr_val (rk_indexAddr (.of rfl) (.of rfl) ha' (by omega) hcd norm1_) rfl ?_;refine tr_val (rk_loadN (.of rfl) (Ats.base hcell rfl) rfl) rfl ?_;refine tr_new (rk_alloc rfl) rfl (fun _ _=>?_);refine tr_store (.of rfl) (.of rfl) .here rfl rfl (okc_cons rfl (okc_cons rfl (okc_cons rfl (okc_cons rfl okc_nil)))) (lenb rfl) norm_ ?_;refine n_r ?_;refine f_a rfl rfl norm0_ ?_;refine tr_val (rk_load1 (.of rfl) (At.lit .here rfl)) rfl ?_;refine tr_val (rk_len_string (.of rfl)) rfl ?_;refine tr_val (rk_gtr (.of rfl) (.of rfl)) rfl ?_;refine m_v rfl rfl ?_;refine tr_vG1 rfl rfl inferInstance (fun hg hgp=>(rk_loadB (.of rfl) (.there (.there .here)) norm_ (by rfl))) rfl ?_;refine tr_vG1 rfl rfl inferInstance (fun hg hgp=>(rk_fieldAddr (.of rfl) norm0_)) rfl ?_;refine tr_vG1 rfl rfl inferInstance (fun hg hgp=>(rk_load1 (.ofg hg rfl) (At.lit .here rfl))) rfl ?_;refine tr_vG1 rfl rfl inferInstance (fun hg hgp=>(rk_fieldAddr (.of rfl) norm0_)) rfl ?_;refine tr_vG1 rfl rfl inferInstance (fun hg hgp=>(rk_load1 (.ofg hg rfl) (At.lit (.there (.there .here)) rfl))) rfl ?_;refine tr_vG1 rfl rfl inferInstance (fun hg hgp=>(rk_len_slice (.ofg hg rfl))) rfl ?_;refine tr_callVG1 rfl rfl (fun hg=>(rk_call (.of rfl) (.cons (.ofg hg rfl) (.cons (.ofg hg rfl) (.cons (.ofg hg rfl) .nil))) inferInstance normc_)) rfl (fun hg w' hm'=>(hfq w' (Mem.keeps hm'))) ?_;refine tr_vG1 rfl rfl inferInstance (fun hg hgp=>(rk_geq (.ofg hg rfl) (.of rfl))) rfl ?_;refine tr_val (rk_pick_or (.of rfl) rfl) rfl ?_;refine n_t ?_;refine c_b rfl (fun hcd=>?_) (fun hcd=>?_);refine s_r ?_;refine a_s rfl rfl ?_;refine n_t ?_;refine tr_ret ?_;refine tr_blk_ret ?_;refine tr_then_ret ?_;refine tr_then_ret ?_;refine tr_blk_ret ?_;refine tr_then_ret ?_;refine tr_retE rfl (ends1 rfl rfl) ?_;rotate_left;refine tr_skip ?_;refine tr_blk_normal ?_;refine tr_then ?_;refine tr_region ?_;refine tr_val (rk_add (.of rfl) (.of rfl) (ini (by omega))) rfl ?_;refine m_v rfl rfl ?_;refine n_t ?_;rotate_right)
    · rfl
    apply tr_next (k + 1) (show k + 1 ≤ b.sp.length ∧ ∀ j,j < k + 1 → findF es (nthS9 b.sp j).nm es.length < 0 from ⟨hlt,fun j hj=>by
      by_cases e:j = k
      · rw [e];have:=hcd.2;omega
      · exact hfnd j (by omega)⟩) (show b.sp.length - (k + 1) < b.sp.length - k by omega)
    case hs1=>exact .cons rfl (.cons rfl (.cons rfl (.cons rfl (.cons rfl (.cons rfl (.cons rfl .nil))))))
    case ht=>(try simp only [List.take_zero,List.map_nil,List.nil_append]);exact .cons (.there .here) (.cons (.there .here) (.cons (.there .here) .nil))
  obtain rfl:k = b.sp.length:=by omega
  obtain ⟨_,hkk,F⟩:=fill_ok (gi:=gi) hz (by omega) hbz hx rfl (fun i j hi hj=>find_ne (hfnd j hj) i hi)
  obtain rfl:=Int.ofNat.inj hkk
  dsimp only at F
  have hcsF:=fill_cs (gi:=gi) hz (by omega) hbz hx rfl (fun i j hi hj=>find_ne (hfnd j hj) i hi)
  have hok:=BrOk.of hbz
  have hfiV:fiV ⟨tt - ff,b.sp,b.cm,b.ex⟩ = (tV b.sp (fillF ⟨tt - ff,b.sp,b.cm,b.ex⟩) (fillF ⟨tt - ff,b.sp,b.cm,b.ex⟩).length,tL b.sp (fillF ⟨tt - ff,b.sp,b.cm,b.ex⟩) (fillF ⟨tt - ff,b.sp,b.cm,b.ex⟩).length):=by rw [fiV,if_pos hbz]
  have hfiL:fiL ⟨tt - ff,b.sp,b.cm,b.ex⟩ = fillF ⟨tt - ff,b.sp,b.cm,b.ex⟩:=by rw [fiL,if_pos hbz]
  generalize plL' es (gi:Int) ⟨tt - ff,b.sp,b.cm,b.ex⟩ (natI (fillF ⟨tt - ff,b.sp,b.cm,b.ex⟩)) = cs at F hcsF
  generalize fillF ⟨tt - ff,b.sp,b.cm,b.ex⟩ = o at F hfiL hfiV hcsF
  generalize hV1:tV b.sp o o.length = V1 at hfiV
  have Ffew:=F.few
  have Flen:=F.len
  dsimp only at Ffew
  have hoc:cs.length ≤ 1000:=by omega
  have hFill:∀ (x1 x2 x3:Value) w',Rd w' x1 4 (spsL b.sp) → Rd w' x2 1 (ints b.cm) → Rd w' x3 2 (prsL b.ex) → Gives Tryz.prog 12 [.agg #[.int .i64 (tt - ff),x1,x2,x3]] w' [] (fun _:Value=>True) (fun v=>.tuple #[v,.agg #[.int .i64 V1,.int .i64 (tL b.sp o o.length)],.int .i64 0]) (fun v=>[row 3 1 v o.length (natsV9 o)]):=fun x1 x2 x3 w' r1 r2 r3=>by
    have:=fill_c (b:=⟨tt - ff,b.sp,b.cm,b.ex⟩) r1 r2 r3
    rw [hfiV,hfiL,hbz] at this
    exact this
  have hgv:∀ w',Keeps [] w w' → _:=fun w' hk=>craneB_c (b:=⟨tt - ff,b.sp,b.cm,b.ex⟩) (h2.keeps hk) (h3.keeps hk) (h4.keeps hk) (Nat.le_trans hfb.1 (by decide)) (Nat.le_trans hfb.2.1 (by decide)) (Nat.le_trans hfb.2.2 (by decide))
  have hPl:∀ (sv' pv' cv' xv' ov':Value) w',Keeps [] w w' → Rd w' sv' 6 (ensL es) → Rd w' pv' 4 (spsL b.sp) → Rd w' cv' 1 (ints b.cm) → Rd w' xv' 2 (prsL b.ex) → Rd w' ov' 1 (ints (natI o)) → Gives Tryz.prog 14 [.agg #[sv'],.int .i64 (gi:Int),.agg #[.int .i64 (tt - ff),pv',cv',xv'],ov'] w' [] (fun _:Value=>True) (fun v=>.tuple #[.agg #[v],.int .i64 0]) (fun v=>[row 67 6 v cs.length (ensL cs).flatten]):=fun sv' pv' cv' xv' ov' w' hk r1 r2 r3 r4 r5=>by
    have:=placed_c (b:=⟨tt - ff,b.sp,b.cm,b.ex⟩) (gap:=(gi:Int)) r1 r2 r3 r4 r5 (hG.keeps hk)
    rw [F.pl,F.pcs] at this
    exact this
  (refine s_r ?_;refine tr_val (rk_lss (.of rfl) (.of rfl)) rfl ?_;refine n_t ?_;refine tr_seq ?_;refine c_d rfl (fun _=>by omega) (fun hcd=>?_);refine x_t ?_;refine tr_then_exit ?_;refine tr_blk_exit ?_;refine tr_then ?_;refine s_r ?_;refine tr_val (rk_loadB (.of rfl) (.there (.there .here)) norm_ (by rfl)) rfl ?_)
  with_reducible apply tr_call
  case hr=>exact rk_call (.of rfl) (.cons (.of rfl) .nil) inferInstance normc_
  case hd=>rfl
  case ht=>exact Takes.nil
  case hc=>
    intro w1 fp hm1 _ hs1
    obtain rfl:fp = []:=hs1
    exact hgv w1 hm1.keeps
  intro xx _
  dsimp only [id_eq,List.cons_append,List.nil_append]
  obtain ⟨x11,x12,x13⟩:=xx
  dsimp only
  skip
  with_reducible apply tr_call
  case hr=>exact rk_call (.of rfl) (.cons (.of rfl) .nil) inferInstance normc_
  case hd=>rfl
  case ht=>exact Takes.nil
  case hc=>
    intro w1 fp hm1 _ hs1
    obtain rfl:fp = []:=hs1
    exact hFill x11 x12 x13 w1 (Mem.rdRow hm1 (E:=112) (v:=x11) (by exact .here) rfl (spsL_sz _) (spsL_length _)) (Mem.rdRowE hm1 (E:=3) (v:=x12) (by exact Take.there .here) rfl (ints_sz _) (ints_length _)) (Mem.rdRowE hm1 (E:=52) (v:=x13) (by exact Take.there (.there .here)) rfl (prsL_sz _) (prsL_length _))
  intro fv _
  dsimp only [id_eq,List.cons_append,List.nil_append]
  refine tr_rowSl (E:=3) (sz:=1) (v:=fv) (by exact .here) fun fa fc e=>?_
  subst e
  (refine m_v rfl rfl ?_;refine tr_val (rk_extract (.of rfl) rfl) rfl ?_;refine tr_val (rk_extract (.of rfl) rfl) rfl ?_;refine tr_val (rk_extract (.of rfl) rfl) rfl ?_;refine tr_new (rk_alloc rfl) rfl (fun _ _=>?_);refine a_s rfl rfl ?_;refine tr_store (.of rfl) (.of rfl) .here rfl rfl (okc_cons rfl (okc_cons rfl okc_nil)) (lenb rfl) norm_ ?_;refine a_s rfl rfl ?_;refine n_t ?_;refine tr_seq ?_;refine s_r ?_;refine m_v rfl rfl ?_;refine tr_val (rk_neq (.of rfl) (.of rfl)) rfl ?_;refine m_v rfl rfl ?_;refine v_g rfl rfl rfl rfl ?_;refine tr_vG1 rfl rfl inferInstance (fun hg hgp=>(rk_len_slice (.ofg hg rfl))) rfl ?_;refine tr_vG1 rfl rfl inferInstance (fun hg hgp=>(rk_fieldAddr (.of rfl) norm0_)) rfl ?_;refine tr_vG1 rfl rfl inferInstance (fun hg hgp=>(rk_load1 (.ofg hg rfl) (At.lit (.there (.there (.there (.there (.there (.there (.there .here))))))) rfl))) rfl ?_;refine tr_vG1 rfl rfl inferInstance (fun hg hgp=>(rk_len_slice (.ofg hg rfl))) rfl ?_;refine tr_vG1 rfl rfl inferInstance (fun hg hgp=>(rk_gtr (.ofg hg rfl) (.ofg hg rfl))) rfl ?_;refine tr_val (rk_pick_or (.of rfl) rfl) rfl ?_;refine n_t ?_;refine c_d rfl (fun _=>by omega) (fun hcd=>?_);refine s_t ?_;refine tr_seq ?_)
  with_reducible refine tr_drawP 13 11 (by kernel_rfl) (pure_at rfl (by kernel_rfl) (by kernel_rfl)) ?_
  refine am_val (fun β=>(rk_loadB (.of rfl) (.there (.there (.there (.there (.there (.there .here)))))) norm_ (by rfl))) ind0 rfl ?_
  try dsimp only [Nat.zero_add,Nat.reduceAdd]
  with_reducible apply am_call (ι:=Value) (Φ:=fun _=>True) (val:=fun v=>.agg #[v]) (own:=fun v=>[row 67 6 v es.length (enR es es.length)]) (g:=id) (B:=[]) (args:=fun β=>[.agg #[.slice a1 es.length cap1]])
  case hg=>exact fun x=>⟨x,rfl⟩
  case hB=>first | rfl | kernel_rfl
  case hr=>exact fun β=>rk_call (.of rfl) (.cons (.of rfl) .nil) inferInstance rfl
  case hd=>rfl
  case hc=>exact fun β w' hb=>craneS_c (h1.keeps hb.mem.keeps) (by omega)
  dsimp only [id_eq,Nat.reduceAdd]
  (refine am_val (fun β=>(rk_move (.of rfl))) ind0 rfl ?_;refine am_val (fun β=>(rk_loadB (.of rfl) (.there (.there (.there (.there (.there (.there (.there .here))))))) norm_ (by rfl))) ind0 rfl ?_)
  try dsimp only [Nat.reduceAdd]
  with_reducible apply am_call (ι:=Value × Value × Value) (Φ:=fun _=>True) (val:=fun x=>.agg #[.int .i64 (tt - ff),x.1,x.2.1,x.2.2]) (own:=fun x=>[row 112 4 x.1 b.sp.length (spsL b.sp).flatten,rowE 3 1 x.2.1 b.cm.length (ints b.cm).flatten,rowE 52 2 x.2.2 b.ex.length (prsL b.ex).flatten]) (g:=gq3) (B:=[]) (args:=fun _=>[.agg #[.int .i64 (tt - ff),.slice a2 b.sp.length cap2,cv,xv]])
  case hg=>exact gq3_of
  case hB=>rfl
  case hr=>exact fun β=>rk_call (.of rfl) (.cons (.of rfl) .nil) inferInstance rfl
  case hd=>rfl
  case hc=>exact fun β w' hb=>hgv w' hb.mem.keeps
  try dsimp only [Nat.reduceAdd]
  refine am_new (ob:=fun _=>.cells #[] 3 (0,0)) (fun β=>rk_sliceLit0) (fun _ _ _=>rfl) rfl ?_
  refine am_val (fun β=>(rk_move (.of rfl))) ind0 rfl ?_
  try dsimp only [Nat.reduceAdd]
  with_reducible apply am_append0 (kx:=5) (Vy:=fun _=>.slice fa o.length fc) (news:=ints (natI o))
  case hS=>rfl
  case hw=>kernel_rfl
  case hx=>exact fun β=>.of rfl
  case hy=>exact fun β=>.of rfl
  case hsrc=>exact fun β w' hm'=>Mem.rdRow hm' (E:=3) (v:=.slice fa o.length fc) (by exact Take.there .here) (natsV_fl o) (ints_sz _) (by rw [ints_length,natI_len])
  case h1=>exact ints_one _
  case hz=>exact rfl
  case hsz=>exact rfl
  case hb0=>exact rfl
  case hb=>rw [ints_length,natI_len];omega
  case hd=>rfl
  rw [ints_length,natI_len]
  try dsimp only [Nat.reduceAdd]
  with_reducible apply am_call (ι:=Option Addr × Nat) (Φ:=fun _=>True) (val:=fun x=>.tuple #[.agg #[.slice x.1 cs.length x.2],.int .i64 0]) (own:=fun x=>[row 67 6 (.slice x.1 cs.length x.2) cs.length (ensL cs).flatten]) (g:=gsl) (B:=[1,4,7]) (args:=fun β=>[.agg #[β 1],.int .i64 (gi:Int),.agg #[.int .i64 (tt - ff),(gq3 (β 4)).1,(gq3 (β 4)).2.1,(gq3 (β 4)).2.2],.slice (gsl (β 7)).1 o.length (gsl (β 7)).2])
  case hg=>exact gsl_of
  case hB=>kernel_rfl
  case hr=>exact fun β=>rk_call (.of rfl) (.cons (.of rfl) (.cons (.of rfl) (.cons (.of rfl) (.cons (.of rfl) .nil)))) inferInstance rfl
  case hd=>rfl
  case hc=>
    intro β w' hb
    have m1:=hb.at 1 (by simp) (s:=⟨fun β=>.agg #[β 1],fun β=>[row 67 6 (β 1) es.length (enR es es.length)]⟩) (by kernel_rfl)
    have m4:=hb.at 4 (by simp) (s:=⟨fun β=>.agg #[.int .i64 (tt - ff),(gq3 (β 4)).1,(gq3 (β 4)).2.1,(gq3 (β 4)).2.2],fun β=>[row 112 4 (gq3 (β 4)).1 b.sp.length (spsL b.sp).flatten,rowE 3 1 (gq3 (β 4)).2.1 b.cm.length (ints b.cm).flatten,rowE 52 2 (gq3 (β 4)).2.2 b.ex.length (prsL b.ex).flatten]⟩) (by kernel_rfl)
    have m7:=hb.at 7 (by simp) (s:=⟨fun β=>.slice (gsl (β 7)).1 o.length (gsl (β 7)).2,fun β=>[rowE 3 1 (.slice (gsl (β 7)).1 o.length (gsl (β 7)).2) o.length (ints (natI o)).flatten]⟩) (by kernel_rfl)
    dsimp only [List.cons_append,List.nil_append] at m1 m4 m7
    exact Gives.sliceV (hPl _ _ _ _ _ w' hb.mem.keeps (rdEn m1 (by exact .here)) (Mem.rdRow m4 (E:=112) (by exact .here) rfl (spsL_sz _) (spsL_length _)) (Mem.rdRowE m4 (E:=3) (by exact Take.there .here) rfl (ints_sz _) (ints_length _)) (Mem.rdRowE m4 (E:=52) (by exact Take.there (.there .here)) rfl (prsL_sz _) (prsL_length _)) (Mem.rdRowE m7 (E:=3) (by exact .here) rfl (ints_sz _) (by rw [ints_length,natI_len])))
  dsimp only [Nat.reduceAdd]
  refine am_val (F:=fun β=>.tuple #[.agg #[.slice (gsl (β 8)).1 (cs).length (gsl (β 8)).2],.int .i64 (0)]) (fun β=>rk_move (.of rfl)) (fun β β' h=>by simp only [h 8 (by kernel_rfl)]) rfl ?_
  refine am_val (F:=fun β=>.agg #[.slice (gsl (β 8)).1 (cs).length (gsl (β 8)).2]) (fun β=>rk_extract (.of rfl) rfl) (fun β β' h=>by simp only [h 8 (by kernel_rfl)]) rfl ?_
  refine am_val (F:=fun β=>.int .i64 (0)) (fun β=>rk_extract (.of rfl) rfl) ind0 rfl ?_
  dsimp only [Nat.reduceAdd]
  refine am_new (fun β=>(rk_alloc rfl)) (fun _ _ _=>rfl) rfl ?_
  refine am_end fun β=>?_
  dsimp only [resAll,List.nil_append,List.cons_append,List.append_eq,Nat.reduceAdd]
  generalize gsl (β 8) = y15
  generalize gnat (β 12) = b15
  obtain ⟨q15,p15⟩:=y15
  dsimp only
  refine left_ready (rs:=[13]) (by kernel_rfl) (by simp) (List.forall_mem_cons.2 ⟨?_,fun _ h=>absurd h List.not_mem_nil⟩)
  refine next_step rfl ?_
  (refine tr_store (.of rfl) (.of rfl) (.there (.there (.there (.there (.there (.there (.there .here))))))) rfl rfl (okc_cons rfl okc_nil) (lenb rfl) norm_ ?_;refine n_t ?_)
  refine left_ready (rs:=[14]) (by kernel_rfl) (by simp) (List.forall_mem_cons.2 ⟨?_,fun _ h=>absurd h List.not_mem_nil⟩)
  refine next_step rfl ?_
  (refine a_s rfl rfl ?_;refine n_t ?_)
  with_reducible refine left_done (by kernel_rfl) ?_
  (refine tr_then ?_;refine tr_seq ?_;refine s_r ?_;refine m_v rfl rfl ?_;refine tr_val (rk_neq (.of rfl) (.of rfl)) rfl ?_;refine m_v rfl rfl ?_;refine tr_vG1 rfl rfl inferInstance (fun hg hgp=>(rk_fieldAddr (.of rfl) norm0_)) rfl ?_;refine tr_vG1 rfl rfl inferInstance (fun hg hgp=>(rk_load1 (.ofg hg rfl) (At.lit .here rfl))) rfl ?_;refine tr_vG1 rfl rfl inferInstance (fun hg hgp=>(rk_len_slice (.ofg hg rfl))) rfl ?_;refine tr_vG1 rfl rfl inferInstance (fun hg hgp=>(rk_fieldAddr (.of rfl) norm0_)) rfl ?_;refine tr_vG1 rfl rfl inferInstance (fun hg hgp=>(rk_load1 (.ofg hg rfl) (At.lit (.there (.there (.there (.there (.there (.there (.there (.there (.there (.there (.there (.there (.there (.there .here)))))))))))))) rfl))) rfl ?_;refine tr_vG1 rfl rfl inferInstance (fun hg hgp=>(rk_len_slice (.ofg hg rfl))) rfl ?_;refine v_g rfl rfl rfl rfl ?_;refine tr_vG1 rfl rfl inferInstance (fun hg hgp=>(rk_len_slice (.ofg hg rfl))) rfl ?_;refine tr_vG1 rfl rfl inferInstance (fun hg hgp=>(rk_add (.ofg hg rfl) (.ofg hg rfl) (ini (by omega)))) rfl ?_;refine tr_vG1 rfl rfl inferInstance (fun hg hgp=>(rk_neq (.ofg hg rfl) (.ofg hg rfl))) rfl ?_;refine tr_val (rk_pick_or (.of rfl) rfl) rfl ?_;refine m_v rfl rfl ?_;refine tr_vG1 rfl rfl inferInstance (fun hg hgp=>(rk_loadB (.of rfl) .here norm_ (by rfl))) rfl ?_;refine tr_callVG1 rfl rfl (fun hg=>(rk_call (.of rfl) (.cons (.ofg hg rfl) .nil) inferInstance normc_)) rfl (fun hg w' hm'=>(screen_c (Mem.rdRow hm' (.there (.there (.there (.there (.there (.there (.there .here))))))) rfl (ensL_sz cs) (ensL_length cs)) (FillOk.snd F) (Glob.keeps hG (Mem.keeps hm')))) ?_;refine tr_vG1 rfl rfl inferInstance (fun hg hgp=>(rk_not (.ofg hg rfl))) rfl ?_;refine tr_val (rk_pick_or (.of rfl) rfl) rfl ?_;refine n_t ?_;refine c_b rfl (fun hcd=>?_) (fun hcd=>?_);refine s_r ?_;refine a_s rfl rfl ?_;refine n_t ?_;refine r_t ?_;refine tr_retE rfl (ends1 rfl rfl) ?_;rotate_left;refine s_t ?_;refine s_r ?_;refine tr_val (rk_loadB (.of rfl) (.there (.there (.there (.there (.there (.there (.there (.there (.there (.there (.there (.there (.there (.there .here)))))))))))))) norm_ (by rfl)) rfl ?_;rotate_right)
  · exfalso;rcases hcd with (h | h) | h;exact h rfl;omega;exact Bool.noConfusion h
  clear hcd
  have hTm:∀ (v:Value) (ls:List En) w',Keeps [] w w' → chkF ls = 0 → Rd w' v 6 (ensL ls) → Gives Tryz.prog 15 [.agg #[v]] w' [] (fun _:Value=>True) (fun v=>.tuple #[v,.int .i64 0]) (fun v=>[row 45 2 v ls.length ((spL ls ls.length).flatMap duoV)]):=fun v ls w' hk h0 hr=>by
    have:=times_c hr (hG.keeps hk)
    rwa [tmL,if_pos h0,spL_length,h0] at this
  with_reducible apply tr_call
  case hr=>exact rk_call (.of rfl) (.cons (.of rfl) .nil) inferInstance normc_
  case hd=>rfl
  case ht=>exact Takes.nil
  case hc=>
    intro w1 fp hm1 _ hs1
    obtain rfl:fp = []:=hs1
    exact craneS_c (h1.keeps hm1.keeps) (by omega)
  intro va _
  dsimp only [id_eq,List.cons_append,List.nil_append]
  skip
  with_reducible apply tr_call
  case hr=>exact rk_call (.of rfl) (.cons (.of rfl) .nil) inferInstance normc_
  case hd=>rfl
  case ht=>exact Takes.nil
  case hc=>
    intro w1 fp hm1 _ hs1
    obtain rfl:fp = []:=hs1
    exact hTm va es w1 hm1.keeps hz (rdEn (E:=67) (v:=va) hm1 (by exact .here))
  intro tv _
  dsimp only [id_eq,List.cons_append,List.nil_append]
  refine tr_rowSl (E:=45) (sz:=2) (v:=tv) (by exact .here) fun ta tc e=>?_
  subst e
  (refine m_v rfl rfl ?_;refine tr_val (rk_extract (.of rfl) rfl) rfl ?_;refine tr_val (rk_extract (.of rfl) rfl) rfl ?_;refine a_s rfl rfl ?_;refine a_s rfl rfl ?_;refine n_r ?_;refine tr_val (rk_loadB (.of rfl) (.there (.there .here)) norm_ (by rfl)) rfl ?_)
  with_reducible apply tr_call
  case hr=>exact rk_call (.of rfl) (.cons (.of rfl) .nil) inferInstance normc_
  case hd=>rfl
  case ht=>exact Takes.nil
  case hc=>
    intro w1 fp hm1 _ hs1
    obtain rfl:fp = []:=hs1
    exact hTm (.slice q15 cs.length p15) cs w1 hm1.keeps F.snd (Mem.rdRow hm1 (E:=67) (by exact Take.there (.there (.there (.there (.there (.there (.there (.there (.there .here))))))))) rfl (ensL_sz _) (ensL_length _))
  intro uv _
  dsimp only [id_eq,List.cons_append,List.nil_append]
  refine tr_rowSl (E:=45) (sz:=2) (v:=uv) (by exact .here) fun ua uc e=>?_
  subst e
  (refine m_v rfl rfl ?_;refine tr_val (rk_extract (.of rfl) rfl) rfl ?_;refine tr_val (rk_extract (.of rfl) rfl) rfl ?_;refine a_s rfl rfl ?_;refine a_s rfl rfl ?_;refine n_t ?_;refine tr_seq ?_;refine s_r ?_;refine m_v rfl rfl ?_;refine tr_val (rk_neq (.of rfl) (.of rfl)) rfl ?_;refine m_v rfl rfl ?_;refine v_g rfl rfl rfl rfl ?_;refine tr_vG1 rfl rfl inferInstance (fun hg hgp=>(rk_neq (.ofg hg rfl) (.of rfl))) rfl ?_;refine tr_val (rk_pick_or (.of rfl) rfl) rfl ?_;refine m_v rfl rfl ?_;refine v_g rfl rfl rfl rfl ?_;refine tr_vG1 rfl rfl inferInstance (fun hg hgp=>(rk_len_slice (.ofg hg rfl))) rfl ?_;refine tr_vG1 rfl rfl inferInstance (fun hg hgp=>(rk_fieldAddr (.of rfl) norm0_)) rfl ?_;refine tr_vG1 rfl rfl inferInstance (fun hg hgp=>(rk_load1 (.ofg hg rfl) (At.lit (.there (.there (.there (.there (.there (.there (.there (.there (.there (.there (.there (.there (.there (.there (.there (.there (.there .here))))))))))))))))) rfl))) rfl ?_;refine tr_vG1 rfl rfl inferInstance (fun hg hgp=>(rk_len_slice (.ofg hg rfl))) rfl ?_;refine tr_vG1 rfl rfl inferInstance (fun hg hgp=>(rk_neq (.ofg hg rfl) (.ofg hg rfl))) rfl ?_;refine tr_val (rk_pick_or (.of rfl) rfl) rfl ?_;refine m_v rfl rfl ?_;refine v_g rfl rfl rfl rfl ?_;refine tr_vG1 rfl rfl inferInstance (fun hg hgp=>(rk_len_slice (.ofg hg rfl))) rfl ?_;refine tr_vG1 rfl rfl inferInstance (fun hg hgp=>(rk_fieldAddr (.of rfl) norm0_)) rfl ?_;refine tr_vG1 rfl rfl inferInstance (fun hg hgp=>(rk_load1 (.ofg hg rfl) (At.lit (.there (.there (.there .here))) rfl))) rfl ?_;refine tr_vG1 rfl rfl inferInstance (fun hg hgp=>(rk_len_slice (.ofg hg rfl))) rfl ?_;refine tr_vG1 rfl rfl inferInstance (fun hg hgp=>(rk_neq (.ofg hg rfl) (.ofg hg rfl))) rfl ?_;refine tr_val (rk_pick_or (.of rfl) rfl) rfl ?_;refine n_t ?_;refine c_b rfl (fun _=>by omega) (fun hcd=>?_);refine s_t ?_;refine tr_seq ?_;refine s_r ?_;refine m_v rfl rfl ?_;refine tr_val (rk_len_slice (.of rfl)) rfl ?_;refine m_v rfl rfl ?_;refine n_t ?_;refine tr_block ?_)
  refine tr_for (fun k:Nat=>k ≤ es.length) (fun k=>[(197,.int .i64 k),(196,.int .i64 es.length),(195,.slice ta es.length tc),(18,.slice ta es.length tc),(20,.slice ua cs.length uc),(13,.slice fa o.length fc),(16,.pointer (some ⟨b15,0,none⟩)),(10,.int .i64 (gi:Int)),(9,.slice (some ⟨gg,0,none⟩) (gpL es es.length).length gc),(3,.pointer (some ⟨b3,0,none⟩))])
    (fun _=>[row 45 2 (.slice ta es.length tc) es.length ((spL es es.length).flatMap duoV),row 45 2 (.slice ua cs.length uc) cs.length ((spL cs cs.length).flatMap duoV),row 67 6 (.slice q15 cs.length p15) cs.length (ensL cs).flatten,blk b15 (.cells #[.slice q15 cs.length p15] 40 (0,0)),blk gg (.cells (gpR es es.length++gcur).toArray 47 (0,0)),blk b3 (.cells #[.slice a1 es.length cap1] 24 (0,0))]) (fun k=>es.length - k) ?_ ?_
  · apply tr_start 0 (show 0 ≤ es.length from Nat.zero_le _)
    case hs1=>exact .cons rfl (.cons rfl (.cons rfl (.cons rfl (.cons rfl (.cons rfl (.cons rfl (.cons rfl (.cons rfl (.cons rfl .nil)))))))))
    case ht=>(try simp only [List.take_zero,List.map_nil,List.nil_append]);exact .cons (.there .here) (.cons .here (.cons (.there (.there (.there (.there (.there (.there (.there (.there .here)))))))) (.cons (.there .here) (.cons (.there (.there (.there (.there (.there (.there (.there (.there (.there (.there (.there (.there .here)))))))))))) (.cons (.there (.there (.there (.there (.there (.there (.there (.there (.there (.there (.there (.there .here)))))))))))) .nil)))))
  intro k hk
  by_cases hlt:k < es.length
  · have ha':=ha1 (ensL_ne hlt)
    have hcell:=(hc1 k _ (ensL_get hlt)).2
    unfold En.cells at hcell
    have hnmc:=hcell 0 _ rfl
    by_cases hik:k ≤ kk
    · have hat:k < cs.length:=by omega
      have hfa:fr cs k = fr es k:=(F.bef k hik).1
      have hta:to cs k = to es k:=(F.bef k hik).2
      have hna:(nth cs k).nm = (nth es k).nm:=by
        obtain ⟨l,hl,k',hk',hk2,hcs⟩:=hcsF
        rw [hcs,nth_fil1 (by omega) (by have:=Int.ofNat.inj hk';omega)]
      (refine s_r ?_;refine tr_val (rk_lss (.of rfl) (.of rfl)) rfl ?_;refine n_t ?_;refine tr_seq ?_;refine c_d rfl (fun hcd=>?_) (fun _=>by omega);refine s_t ?_;refine tr_seq ?_;refine tr_block ?_;refine s_r ?_;refine m_v rfl rfl ?_;refine a_s rfl rfl ?_;refine n_r ?_;refine m_v rfl rfl ?_;refine a_s rfl rfl ?_;refine n_t ?_;refine tr_seq ?_;refine s_r ?_;refine m_v rfl rfl ?_;refine m_v rfl rfl ?_;refine m_v rfl rfl ?_;refine tr_val (rk_indexAddr (.of rfl) (.of rfl) rfl (by omega) (by omega) norm1_) rfl ?_;refine f_a rfl rfl norm0_ ?_;refine tr_val (rk_load1 (.of rfl) (At.blkL (.there (.there (.there (.there .here)))) q1)) rfl ?_;refine tr_val (rk_gtr (.of rfl) (.of rfl)) rfl ?_;refine n_t ?_;refine c_d rfl (fun _=>by omega) (fun hcd=>?_);refine s_t ?_;refine tr_seq ?_)
      refine tr_rowOpen (E:=45) (sz:=2) (v:=.slice ta es.length tc) (by exact .here) (show 0 < es.length by omega) ?_
      rintro gt ct1 curt e kt1 kt2 kt3 kt4
      cases e
      refine tr_rowOpen (E:=45) (sz:=2) (v:=.slice ua cs.length uc) (by exact Take.there .here) (show 0 < cs.length by omega) ?_
      rintro gu cu1 curu e ku1 ku2 ku3 ku4
      cases e
      refine tr_rowOpen (E:=67) (sz:=6) (v:=.slice q15 cs.length p15) (by exact Take.there (.there .here)) (show 0 < cs.length by omega) ?_
      rintro gx cx1 curx e kx1 kx2 kx3 kx4
      cases e
      have w1:=tm_at hlt curt
      have w2:=tm_at (es:=cs) (i:=k) hat curu
      rw [hfa,hta] at w2
      have w3:((ensL cs).flatten++curx)[k * 6]? = some (.string (nth es k).nm):=by
        rw [List.getElem?_append_left (by rw [kx4];omega),← hna]
        exact flatten_get (sz:=6) (j:=0) (ensL cs) (k) (ensL_sz cs) (ensL_get hat) rfl
      with_reducible refine tr_drawM 24 (by kernel_rfl) ?_
      (refine am_val (fun β=>(rk_move (.of rfl))) ind0 rfl ?_;refine am_val (fun β=>(rk_move (.of rfl))) ind0 rfl ?_;refine am_val (fun β=>(rk_indexAddr (.of rfl) (.of rfl) rfl (by omega) (by omega) norm1_)) ind0 rfl ?_;refine am_val (fun β=>(rk_loadB (.of rfl) (.there .here) w2 rfl)) ind0 rfl ?_;refine am_val (fun β=>(rk_move (.of rfl))) ind0 rfl ?_;refine am_val (fun β=>(rk_move (.of rfl))) ind0 rfl ?_;refine am_val (fun β=>(rk_indexAddr (.of rfl) (.of rfl) rfl (by omega) (by assumption) norm1_)) ind0 rfl ?_;refine am_val (fun β=>(rk_loadB (.of rfl) (.there (.there .here)) w1 rfl)) ind0 rfl ?_;refine am_val (fun β=>(rk_neqAF (.of rfl) (.of rfl) rfl (And.intro rfl rfl))) ind0 rfl ?_;refine am_val (fun β=>(rk_move (.of rfl))) ind0 rfl ?_;refine am_gOn rfl (fun _=>rfl) ?_;refine am_val (fun β=>(rk_fieldAddr (.of rfl) norm0_)) ind0 rfl ?_;refine am_gOn rfl (fun _=>rfl) ?_;refine am_val (fun β=>(rk_load1 (.of rfl) (At.lit (.there (.there (.there .here))) rfl))) ind0 rfl ?_;refine am_gOn rfl (fun _=>rfl) ?_;refine am_val (fun β=>(rk_move (.of rfl))) ind0 rfl ?_;refine am_gOn rfl (fun _=>rfl) ?_;refine am_val (fun β=>(rk_indexAddr (.of rfl) (.of rfl) rfl (by omega) (by omega) norm1_)) ind0 rfl ?_;refine am_gOn rfl (fun _=>rfl) ?_;refine am_val (fun β=>(rk_fieldAddr (.of rfl) norm0_)) ind0 rfl ?_;refine am_gOn rfl (fun _=>rfl) ?_;refine am_val (fun β=>(rk_load1 (.of rfl) (At.blkL .here w3))) ind0 rfl ?_;refine am_gOn rfl (fun _=>rfl) ?_;refine am_val (fun β=>(rk_fieldAddr (.of rfl) norm0_)) ind0 rfl ?_;refine am_gOn rfl (fun _=>rfl) ?_;refine am_val (fun β=>(rk_load1 (.of rfl) (At.lit (.there (.there (.there (.there (.there .here))))) rfl))) ind0 rfl ?_;refine am_gOn rfl (fun _=>rfl) ?_;refine am_val (fun β=>(rk_move (.of rfl))) ind0 rfl ?_;refine am_gOn rfl (fun _=>rfl) ?_;refine am_val (fun β=>(rk_indexAddr (.of rfl) (.of rfl) ha' (by omega) (by assumption) norm1_)) ind0 rfl ?_;refine am_gOn rfl (fun _=>rfl) ?_;refine am_val (fun β=>(rk_fieldAddr (.of rfl) norm0_)) ind0 rfl ?_;refine am_gOn rfl (fun _=>rfl) ?_;refine am_val (fun β=>(rk_load1 (.of rfl) (At.base hnmc rfl))) ind0 rfl ?_;refine am_gOn rfl (fun _=>rfl) ?_;refine am_val (fun β=>(rk_neqsS (.of rfl) (.of rfl) rfl)) indC rfl ?_;refine am_val (fun β=>(rk_pickB (.of rfl) (.of rfl) (.of rfl) rfl)) indC rfl ?_)
      refine am_end fun β=>?_
      dsimp only [resAll,List.nil_append,List.cons_append,List.append_eq,Nat.reduceAdd]
      with_reducible refine left_done (by kernel_rfl) ?_
      (refine tr_then ?_;refine tr_cond_f (.of rfl) ?_;refine tr_skip ?_;refine tr_blk_normal ?_;refine tr_then ?_;refine tr_region ?_;refine tr_val (rk_add (.of rfl) (.of rfl) (ini (by omega))) rfl ?_;refine m_v rfl rfl ?_;refine n_t ?_)
      refine tr_rowShut (E:=45) (n:=es.length) (cap:=tc) (sz:=2) (cur:=curt) (xs:=(spL es es.length).flatMap duoV) (by exact Take.there (.there .here)) kt1 kt2 kt3 kt4 ?_
      refine tr_rowShut (E:=45) (n:=cs.length) (cap:=uc) (sz:=2) (cur:=curu) (xs:=(spL cs cs.length).flatMap duoV) (by exact Take.there (.there .here)) ku1 ku2 ku3 ku4 ?_
      refine tr_rowShut (E:=67) (n:=cs.length) (cap:=p15) (sz:=6) (cur:=curx) (xs:=(ensL cs).flatten) (by exact Take.there (.there .here)) kx1 kx2 kx3 kx4 ?_
      apply tr_next (k + 1) (show k + 1 ≤ es.length by omega) (show es.length - (k + 1) < es.length - k by omega)
      case hs1=>exact .cons rfl (.cons rfl (.cons rfl (.cons rfl (.cons rfl (.cons rfl (.cons rfl (.cons rfl (.cons rfl (.cons rfl .nil)))))))))
      case ht=>(try simp only [List.take_zero,List.map_nil,List.nil_append]);exact .cons (.there (.there .here)) (.cons (.there .here) (.cons .here (.cons .here (.cons .here (.cons .here .nil)))))
    have hat:k + o.length < cs.length:=by omega
    have hf0:=F.aft (k + o.length) (by omega) hat
    rw [Nat.add_sub_cancel] at hf0
    have hfa:fr cs (k + o.length) = fr es k:=hf0.1
    have hta:to cs (k + o.length) = to es k:=hf0.2
    have hna:(nth cs (k + o.length)).nm = (nth es k).nm:=by
      obtain ⟨l,hl,k',hk',hk2,hcs⟩:=hcsF
      have hke:=Int.ofNat.inj hk'
      rw [hcs,show k + o.length = k' + 1 + l.length + (k - kk - 1) by omega,nth_fil3 (by omega),show k' + 1 + (k - kk - 1) = k by omega]
    (refine s_r ?_;refine tr_val (rk_lss (.of rfl) (.of rfl)) rfl ?_;refine n_t ?_;refine tr_seq ?_;refine c_d rfl (fun hcd=>?_) (fun _=>by omega);refine s_t ?_;refine tr_seq ?_;refine tr_block ?_;refine s_r ?_;refine m_v rfl rfl ?_;refine a_s rfl rfl ?_;refine n_r ?_;refine m_v rfl rfl ?_;refine a_s rfl rfl ?_;refine n_t ?_;refine tr_seq ?_;refine s_r ?_;refine m_v rfl rfl ?_;refine m_v rfl rfl ?_;refine m_v rfl rfl ?_;refine tr_val (rk_indexAddr (.of rfl) (.of rfl) rfl (by omega) (by omega) norm1_) rfl ?_;refine f_a rfl rfl norm0_ ?_;refine tr_val (rk_load1 (.of rfl) (At.blkL (.there (.there (.there (.there .here)))) q1)) rfl ?_;refine tr_val (rk_gtr (.of rfl) (.of rfl)) rfl ?_;refine n_t ?_;refine c_d rfl (fun hcd=>?_) (fun _=>by omega);refine tr_region ?_;refine m_v rfl rfl ?_;refine m_v rfl rfl ?_;refine tr_val (rk_len_slice (.of rfl)) rfl ?_;refine tr_val (rk_add (.of rfl) (.of rfl) (ini (by omega))) rfl ?_;refine a_s rfl rfl ?_;refine n_t ?_;refine tr_seq ?_)
    rw [show (k:Int) + (o.length:Int) = ((k + o.length:Nat):Int) from (Int.natCast_add k o.length).symm]
    refine tr_rowOpen (E:=45) (sz:=2) (v:=.slice ta es.length tc) (by exact .here) (show 0 < es.length by omega) ?_
    rintro gt ct1 curt e kt1 kt2 kt3 kt4
    cases e
    refine tr_rowOpen (E:=45) (sz:=2) (v:=.slice ua cs.length uc) (by exact Take.there .here) (show 0 < cs.length by omega) ?_
    rintro gu cu1 curu e ku1 ku2 ku3 ku4
    cases e
    refine tr_rowOpen (E:=67) (sz:=6) (v:=.slice q15 cs.length p15) (by exact Take.there (.there .here)) (show 0 < cs.length by omega) ?_
    rintro gx cx1 curx e kx1 kx2 kx3 kx4
    cases e
    have w1:=tm_at hlt curt
    have w2:=tm_at (es:=cs) (i:=(k + o.length)) hat curu
    rw [hfa,hta] at w2
    have w3:((ensL cs).flatten++curx)[(k + o.length) * 6]? = some (.string (nth es k).nm):=by
      rw [List.getElem?_append_left (by rw [kx4];omega),← hna]
      exact flatten_get (sz:=6) (j:=0) (ensL cs) ((k + o.length)) (ensL_sz cs) (ensL_get hat) rfl
    with_reducible refine tr_drawM 24 (by kernel_rfl) ?_
    (refine am_val (fun β=>(rk_move (.of rfl))) ind0 rfl ?_;refine am_val (fun β=>(rk_move (.of rfl))) ind0 rfl ?_;refine am_val (fun β=>(rk_indexAddr (.of rfl) (.of rfl) rfl (by omega) (by omega) norm1_)) ind0 rfl ?_;refine am_val (fun β=>(rk_loadB (.of rfl) (.there .here) w2 rfl)) ind0 rfl ?_;refine am_val (fun β=>(rk_move (.of rfl))) ind0 rfl ?_;refine am_val (fun β=>(rk_move (.of rfl))) ind0 rfl ?_;refine am_val (fun β=>(rk_indexAddr (.of rfl) (.of rfl) rfl (by omega) (by assumption) norm1_)) ind0 rfl ?_;refine am_val (fun β=>(rk_loadB (.of rfl) (.there (.there .here)) w1 rfl)) ind0 rfl ?_;refine am_val (fun β=>(rk_neqAF (.of rfl) (.of rfl) rfl (And.intro rfl rfl))) ind0 rfl ?_;refine am_val (fun β=>(rk_move (.of rfl))) ind0 rfl ?_;refine am_gOn rfl (fun _=>rfl) ?_;refine am_val (fun β=>(rk_fieldAddr (.of rfl) norm0_)) ind0 rfl ?_;refine am_gOn rfl (fun _=>rfl) ?_;refine am_val (fun β=>(rk_load1 (.of rfl) (At.lit (.there (.there (.there .here))) rfl))) ind0 rfl ?_;refine am_gOn rfl (fun _=>rfl) ?_;refine am_val (fun β=>(rk_move (.of rfl))) ind0 rfl ?_;refine am_gOn rfl (fun _=>rfl) ?_;refine am_val (fun β=>(rk_indexAddr (.of rfl) (.of rfl) rfl (by omega) (by omega) norm1_)) ind0 rfl ?_;refine am_gOn rfl (fun _=>rfl) ?_;refine am_val (fun β=>(rk_fieldAddr (.of rfl) norm0_)) ind0 rfl ?_;refine am_gOn rfl (fun _=>rfl) ?_;refine am_val (fun β=>(rk_load1 (.of rfl) (At.blkL .here w3))) ind0 rfl ?_;refine am_gOn rfl (fun _=>rfl) ?_;refine am_val (fun β=>(rk_fieldAddr (.of rfl) norm0_)) ind0 rfl ?_;refine am_gOn rfl (fun _=>rfl) ?_;refine am_val (fun β=>(rk_load1 (.of rfl) (At.lit (.there (.there (.there (.there (.there .here))))) rfl))) ind0 rfl ?_;refine am_gOn rfl (fun _=>rfl) ?_;refine am_val (fun β=>(rk_move (.of rfl))) ind0 rfl ?_;refine am_gOn rfl (fun _=>rfl) ?_;refine am_val (fun β=>(rk_indexAddr (.of rfl) (.of rfl) ha' (by omega) (by assumption) norm1_)) ind0 rfl ?_;refine am_gOn rfl (fun _=>rfl) ?_;refine am_val (fun β=>(rk_fieldAddr (.of rfl) norm0_)) ind0 rfl ?_;refine am_gOn rfl (fun _=>rfl) ?_;refine am_val (fun β=>(rk_load1 (.of rfl) (At.base hnmc rfl))) ind0 rfl ?_;refine am_gOn rfl (fun _=>rfl) ?_;refine am_val (fun β=>(rk_neqsS (.of rfl) (.of rfl) rfl)) indC rfl ?_;refine am_val (fun β=>(rk_pickB (.of rfl) (.of rfl) (.of rfl) rfl)) indC rfl ?_)
    refine am_end fun β=>?_
    dsimp only [resAll,List.nil_append,List.cons_append,List.append_eq,Nat.reduceAdd]
    with_reducible refine left_done (by kernel_rfl) ?_
    (refine tr_then ?_;refine tr_cond_f (.of rfl) ?_;refine tr_skip ?_;refine tr_blk_normal ?_;refine tr_then ?_;refine tr_region ?_;refine tr_val (rk_add (.of rfl) (.of rfl) (ini (by omega))) rfl ?_;refine m_v rfl rfl ?_;refine n_t ?_)
    refine tr_rowShut (E:=45) (n:=es.length) (cap:=tc) (sz:=2) (cur:=curt) (xs:=(spL es es.length).flatMap duoV) (by exact Take.there (.there .here)) kt1 kt2 kt3 kt4 ?_
    refine tr_rowShut (E:=45) (n:=cs.length) (cap:=uc) (sz:=2) (cur:=curu) (xs:=(spL cs cs.length).flatMap duoV) (by exact Take.there (.there .here)) ku1 ku2 ku3 ku4 ?_
    refine tr_rowShut (E:=67) (n:=cs.length) (cap:=p15) (sz:=6) (cur:=curx) (xs:=(ensL cs).flatten) (by exact Take.there (.there .here)) kx1 kx2 kx3 kx4 ?_
    apply tr_next (k + 1) (show k + 1 ≤ es.length by omega) (show es.length - (k + 1) < es.length - k by omega)
    case hs1=>exact .cons rfl (.cons rfl (.cons rfl (.cons rfl (.cons rfl (.cons rfl (.cons rfl (.cons rfl (.cons rfl (.cons rfl .nil)))))))))
    case ht=>(try simp only [List.take_zero,List.map_nil,List.nil_append]);exact .cons (.there (.there .here)) (.cons (.there .here) (.cons .here (.cons .here (.cons .here (.cons .here .nil)))))
  obtain rfl:k = es.length:=by omega
  (refine s_r ?_;refine tr_val (rk_lss (.of rfl) (.of rfl)) rfl ?_;refine n_t ?_;refine tr_seq ?_;refine c_d rfl (fun _=>by omega) (fun hcd=>?_);refine x_t ?_;refine tr_then_exit ?_;refine tr_blk_exit ?_;refine tr_then ?_;refine s_r ?_;refine a_s rfl rfl ?_;refine n_t ?_;refine tr_ret ?_;refine tr_retE rfl (ends1 rfl rfl) ?_)
  rfl
end Go.Proofs.A1
