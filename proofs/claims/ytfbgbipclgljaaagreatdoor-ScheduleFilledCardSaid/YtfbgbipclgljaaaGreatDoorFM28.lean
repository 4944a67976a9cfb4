/- Parts of the proof: S95. -/
import Derived.Test.YtfbgbipclgljaaaGreatDoorFM27
import Derived.Test.YtfbgbipclgljaaaGreatDoorFM24
import Derived.Test.YtfbgbipclgljaaaGreatDoorFM25
import Derived.Test.YtfbgbipclgljaaaGreatDoorFM10
import Derived.Test.YtfbgbipclgljaaaGreatDoorFM23
import Derived.Test.YtfbgbipclgljaaaGreatDoorFM17
import Derived.Test.YtfbgbipclgljaaaGreatDoorFM06
set_option linter.unusedSectionVars false
set_option linter.unusedVariables false
set_option linter.unusedSimpArgs false
namespace Go.Proofs.A1
open Go Go.SL
def gq3:Value → Value × Value × Value
  | .agg cs=>(cs.getD 1 undef,cs.getD 2 undef,cs.getD 3 undef)
  | _=>(undef,undef,undef)
theorem gq3_of (x:Value × Value × Value):∃ v,gq3 v = x:=⟨.agg #[undef,x.1,x.2.1,x.2.2],rfl⟩
theorem rk_convS {P:Program} {c:Cx} {sl:Slots} {hs:List Asn} {dst:Option Tmp} {pos:String} {af:Array Edge} {g:Option (Nat × Bool)} {ty t u:TypeId} {k':IntKind} {x:Operand} {n:Int} [ht:Und P t (.int k')] [hu:Und P u (.int .i64)] (hx:Is sl x (.int k' n)) (h:0 ≤ n ∧ n < 9223372036854775808) :
    RunV P c sl hs ⟨dst,.convert t u x,ty,pos,af,g⟩ (.int .i64 n):=by
  have:=rk_conv (P:=P) (c:=c) (hs:=hs) (dst:=dst) (ty:=ty) (pos:=pos) (af:=af) (g:=g) (t:=t) (u:=u) (k:=.i64) hx
  rwa [show IntKind.i64.wrap n = n by unfold IntKind.wrap;simp [IntKind.signed,IntKind.bits];omega] at this
theorem rk_gtrT {P:Program} {c:Cx} {sl:Slots} {hs:List Asn} {dst:Option Tmp} {ty:TypeId} {pos:String} {af:Array Edge} {g:Option (Nat × Bool)} {k:IntKind} {t u:TypeId} {x y:Operand} {a b:Int} (hx:Is sl x (.int k a)) (hy:Is sl y (.int k b)) (e:b < a) :
    RunV P c sl hs ⟨dst,.binOp .gtr t x y u,ty,pos,af,g⟩ (.bool true):=by
  have:=rk_gtr (P:=P) (c:=c) (hs:=hs) (dst:=dst) (ty:=ty) (pos:=pos) (af:=af) (g:=g) (t:=t) (u:=u) hx hy
  rwa [decide_eq_true e] at this
theorem rk_gtrF {P:Program} {c:Cx} {sl:Slots} {hs:List Asn} {dst:Option Tmp} {ty:TypeId} {pos:String} {af:Array Edge} {g:Option (Nat × Bool)} {k:IntKind} {t u:TypeId} {x y:Operand} {a b:Int} (hx:Is sl x (.int k a)) (hy:Is sl y (.int k b)) (e:¬ b < a) :
    RunV P c sl hs ⟨dst,.binOp .gtr t x y u,ty,pos,af,g⟩ (.bool false):=by
  have:=rk_gtr (P:=P) (c:=c) (hs:=hs) (dst:=dst) (ty:=ty) (pos:=pos) (af:=af) (g:=g) (t:=t) (u:=u) hx hy
  rwa [decide_eq_false e] at this
theorem rk_neqAF {P:Program} {c:Cx} {sl:Slots} {hs:List Asn} {dst:Option Tmp} {ty:TypeId} {pos:String} {af:Array Edge} {g:Option (Nat × Bool)} {t u:TypeId} {ts:List TypeId} [h:Leaf P t ts] {x y:Operand} {a b a' b':Int} (hx:Is sl x (.agg #[.int .i64 a,.int .i64 b])) (hy:Is sl y (.agg #[.int .i64 a',.int .i64 b'])) (hok:okL P ts [.int .i64 a,.int .i64 b] = true) (e:a = a' ∧ b = b') :
    RunV P c sl hs ⟨dst,.binOp .neq t x y u,ty,pos,af,g⟩ (.bool false):=by
  obtain ⟨rfl,rfl⟩:=e
  exact rk_neqA (b:=true) (xs:=[.int .i64 a,.int .i64 b]) (ys:=[.int .i64 a,.int .i64 b]) hx hy hok (by simp [eqL,leq])
theorem cells_tail {cs:List Value} {o:Nat} {a b c:Value} (h:cellsAt cs o 3 = [a,b,c]):cellsAt cs (o + 1) 2 = [b,c]:=by
  rw [cellsAt_eq] at h ⊢
  have e:(cs.drop (o + 1)).take 2 = ((cs.drop o).take 3).drop 1:=by rw [List.drop_take,List.drop_drop]
  rw [e,h];rfl
theorem find_ne {es:List En} {s:ByteArray} (h:findF es s es.length < 0):∀ i,i < es.length → (nth es i).nm ≠ s:=fun i hi e=>by
  have h2:=findF_le es s es.length
  rw [decide_eq_false (by omega)] at h2
  unfold knw at h2
  have h3:=h2.symm
  rw [List.any_eq_false] at h3
  exact h3 i (List.mem_range.2 hi) (decide_eq_true e)
set_option maxHeartbeats 8000000 in
set_option maxRecDepth 100000 in
theorem filled_law {sv pv cv xv:Value} {es:List En} {b:Br} {m:Int} {w:World} (h1:Rd w sv 6 (ensL es)) (h2:Rd w pv 4 (spsL b.sp)) (h3:Rd w cv 1 (ints b.cm)) (h4:Rd w xv 2 (prsL b.ex)) (hm:0 ≤ m ∧ m ≤ 255) (hG:Glob w) (hT:Tab10 w) :
    GivesV Tryz.prog 14 [.agg #[sv],.agg #[.int .i64 b.n,pv,cv,xv],.int .u8 m] w (.bool true):=by
  have haw:∀ w',Keeps [] w w' → GivesV Tryz.prog 17 [] w' (.bool true):=fun w' hk=>awake_c w' (hG.keeps hk) (hT.keeps hk)
  have hone1:=Rd.one h1
  have hone2:=Rd.one h2
  have hone3:=Rd.one h3
  have hone4:=Rd.one h4
  have h1':=h1
  obtain ⟨a1,cap1,bs1,os1,rfl,hcap1,hmax1,ha1,hc1⟩:=h1'
  rw [ensL_length] at *
  unfold maxLen at hmax1
  have h2':=h2
  obtain ⟨a2,cap2,bs2,os2,rfl,hcap2,hmax2,ha2,hc2⟩:=h2'
  rw [spsL_length] at *
  unfold maxLen at hmax2
  refine givesV_of_tr Tryz.func14 rfl rfl ?_
  (refine s_r ?_;refine tr_new (rk_box (.of rfl) rfl) rfl (fun _ _=>?_);refine tr_new (rk_box (.of rfl) rfl) rfl (fun _ _=>?_);refine a_s rfl rfl ?_;refine n_t ?_;refine tr_seq ?_;refine s_r ?_)
  rename_i b3 hb3 b4 hb4
  cases hvv:validB es with
  | false =>
    have hva:∀ w',Keeps [] w w' → GivesV Tryz.prog 59 [.agg #[.slice a1 es.length cap1]] w' (.bool false):=fun w' hk=>by
      have:=valid_c (h1.keeps hk)
      rwa [hvv] at this
    (refine tr_callV (rk_call (.of rfl) .nil inferInstance normc_) rfl (fun w' hm'=>(haw w' (Mem.keeps hm'))) ?_;refine tr_val (rk_not (.of rfl)) rfl ?_;refine m_v rfl rfl ?_;refine tr_gOn rfl rfl ?_;refine tr_val (rk_loadB (.of rfl) (.there .here) norm_ (by rfl)) rfl ?_;refine tr_gOn rfl rfl ?_;refine tr_callV (rk_call (.of rfl) (.cons (.of rfl) .nil) inferInstance normc_) rfl (fun w' hm'=>(hva w' (Mem.keeps hm'))) ?_;refine tr_gOn rfl rfl ?_;refine tr_val (rk_not (.of rfl)) rfl ?_;refine tr_val (rk_pickB (.of rfl) (.of rfl) (.of rfl) rfl) rfl ?_;refine m_v rfl rfl ?_;refine tr_gOff rfl rfl rfl ?_;refine tr_gOff rfl rfl rfl ?_;refine tr_gOff rfl rfl rfl ?_;refine tr_val (rk_pickB (.of rfl) (.of rfl) (.of rfl) rfl) rfl ?_;refine m_v rfl rfl ?_;refine tr_gOff rfl rfl rfl ?_;refine tr_gOff rfl rfl rfl ?_;refine tr_gOff rfl rfl rfl ?_;refine tr_val (rk_pickB (.of rfl) (.of rfl) (.of rfl) rfl) rfl ?_;refine m_v rfl rfl ?_;refine tr_gOff rfl rfl rfl ?_;refine tr_gOff rfl rfl rfl ?_;refine tr_gOff rfl rfl rfl ?_;refine tr_gOff rfl rfl rfl ?_;refine tr_val (rk_pickB (.of rfl) (.of rfl) (.of rfl) rfl) rfl ?_;refine m_v rfl rfl ?_;refine tr_gOff rfl rfl rfl ?_;refine tr_gOff rfl rfl rfl ?_;refine tr_gOff rfl rfl rfl ?_;refine tr_gOff rfl rfl rfl ?_;refine tr_val (rk_pickB (.of rfl) (.of rfl) (.of rfl) rfl) rfl ?_;refine n_t ?_;refine tr_cond_t (.of rfl) ?_;refine s_r ?_;refine tr_callV (rk_call (.of rfl) .nil inferInstance normc_) rfl (fun w' hm'=>(haw w' (Mem.keeps hm'))) ?_;refine a_s rfl rfl ?_;refine n_t ?_;refine r_t ?_;refine tr_retE rfl (ends1 rfl rfl) ?_)
    rfl
  | true=>
  have hva:∀ w',Keeps [] w w' → GivesV Tryz.prog 59 [.agg #[.slice a1 es.length cap1]] w' (.bool true):=fun w' hk=>by
    have:=valid_c (h1.keeps hk)
    rwa [hvv] at this
  cases hbb:briefB es with
  | false =>
    have hbr:∀ w',Keeps [] w w' → GivesV Tryz.prog 90 [.agg #[.slice a1 es.length cap1]] w' (.bool false):=fun w' hk=>by
      have:=brief_c (h1.keeps hk)
      rwa [hbb] at this
    (refine tr_callV (rk_call (.of rfl) .nil inferInstance normc_) rfl (fun w' hm'=>(haw w' (Mem.keeps hm'))) ?_;refine tr_val (rk_not (.of rfl)) rfl ?_;refine m_v rfl rfl ?_;refine tr_gOn rfl rfl ?_;refine tr_val (rk_loadB (.of rfl) (.there .here) norm_ (by rfl)) rfl ?_;refine tr_gOn rfl rfl ?_;refine tr_callV (rk_call (.of rfl) (.cons (.of rfl) .nil) inferInstance normc_) rfl (fun w' hm'=>(hva w' (Mem.keeps hm'))) ?_;refine tr_gOn rfl rfl ?_;refine tr_val (rk_not (.of rfl)) rfl ?_;refine tr_val (rk_pickB (.of rfl) (.of rfl) (.of rfl) rfl) rfl ?_;refine m_v rfl rfl ?_;refine tr_gOn rfl rfl ?_;refine tr_val (rk_loadB (.of rfl) (.there .here) norm_ (by rfl)) rfl ?_;refine tr_gOn rfl rfl ?_;refine tr_callV (rk_call (.of rfl) (.cons (.of rfl) .nil) inferInstance normc_) rfl (fun w' hm'=>(hbr w' (Mem.keeps hm'))) ?_;refine tr_gOn rfl rfl ?_;refine tr_val (rk_not (.of rfl)) rfl ?_;refine tr_val (rk_pickB (.of rfl) (.of rfl) (.of rfl) rfl) rfl ?_;refine m_v rfl rfl ?_;refine tr_gOff rfl rfl rfl ?_;refine tr_gOff rfl rfl rfl ?_;refine tr_gOff rfl rfl rfl ?_;refine tr_val (rk_pickB (.of rfl) (.of rfl) (.of rfl) rfl) rfl ?_;refine m_v rfl rfl ?_;refine tr_gOff rfl rfl rfl ?_;refine tr_gOff rfl rfl rfl ?_;refine tr_gOff rfl rfl rfl ?_;refine tr_gOff rfl rfl rfl ?_;refine tr_val (rk_pickB (.of rfl) (.of rfl) (.of rfl) rfl) rfl ?_;refine m_v rfl rfl ?_;refine tr_gOff rfl rfl rfl ?_;refine tr_gOff rfl rfl rfl ?_;refine tr_gOff rfl rfl rfl ?_;refine tr_gOff rfl rfl rfl ?_;refine tr_val (rk_pickB (.of rfl) (.of rfl) (.of rfl) rfl) rfl ?_;refine n_t ?_;refine tr_cond_t (.of rfl) ?_;refine s_r ?_;refine tr_callV (rk_call (.of rfl) .nil inferInstance normc_) rfl (fun w' hm'=>(haw w' (Mem.keeps hm'))) ?_;refine a_s rfl rfl ?_;refine n_t ?_;refine r_t ?_;refine tr_retE rfl (ends1 rfl rfl) ?_)
    rfl
  | true=>
  have hbr:∀ w',Keeps [] w w' → GivesV Tryz.prog 90 [.agg #[.slice a1 es.length cap1]] w' (.bool true):=fun w' hk=>by
    have:=brief_c (h1.keeps hk)
    rwa [hbb] at this
  cases hss:shortBr b with
  | false =>
    have hsb:∀ w',Keeps [] w w' → GivesV Tryz.prog 43 [.agg #[.int .i64 b.n,.slice a2 b.sp.length cap2,cv,xv]] w' (.bool false):=fun w' hk=>by
      have:=shortBr_c (h2.keeps hk) (h3.keeps hk) (h4.keeps hk)
      rwa [hss] at this
    (refine tr_callV (rk_call (.of rfl) .nil inferInstance normc_) rfl (fun w' hm'=>(haw w' (Mem.keeps hm'))) ?_;refine tr_val (rk_not (.of rfl)) rfl ?_;refine m_v rfl rfl ?_;refine tr_gOn rfl rfl ?_;refine tr_val (rk_loadB (.of rfl) (.there .here) norm_ (by rfl)) rfl ?_;refine tr_gOn rfl rfl ?_;refine tr_callV (rk_call (.of rfl) (.cons (.of rfl) .nil) inferInstance normc_) rfl (fun w' hm'=>(hva w' (Mem.keeps hm'))) ?_;refine tr_gOn rfl rfl ?_;refine tr_val (rk_not (.of rfl)) rfl ?_;refine tr_val (rk_pickB (.of rfl) (.of rfl) (.of rfl) rfl) rfl ?_;refine m_v rfl rfl ?_;refine tr_gOn rfl rfl ?_;refine tr_val (rk_loadB (.of rfl) (.there .here) norm_ (by rfl)) rfl ?_;refine tr_gOn rfl rfl ?_;refine tr_callV (rk_call (.of rfl) (.cons (.of rfl) .nil) inferInstance normc_) rfl (fun w' hm'=>(hbr w' (Mem.keeps hm'))) ?_;refine tr_gOn rfl rfl ?_;refine tr_val (rk_not (.of rfl)) rfl ?_;refine tr_val (rk_pickB (.of rfl) (.of rfl) (.of rfl) rfl) rfl ?_;refine m_v rfl rfl ?_;refine tr_gOn rfl rfl ?_;refine tr_val (rk_loadB (.of rfl) .here norm_ (by rfl)) rfl ?_;refine tr_gOn rfl rfl ?_;refine tr_callV (rk_call (.of rfl) (.cons (.of rfl) .nil) inferInstance normc_) rfl (fun w' hm'=>(hsb w' (Mem.keeps hm'))) ?_;refine tr_gOn rfl rfl ?_;refine tr_val (rk_not (.of rfl)) rfl ?_;refine tr_val (rk_pickB (.of rfl) (.of rfl) (.of rfl) rfl) rfl ?_;refine m_v rfl rfl ?_;refine tr_gOff rfl rfl rfl ?_;refine tr_gOff rfl rfl rfl ?_;refine tr_gOff rfl rfl rfl ?_;refine tr_gOff rfl rfl rfl ?_;refine tr_val (rk_pickB (.of rfl) (.of rfl) (.of rfl) rfl) rfl ?_;refine m_v rfl rfl ?_;refine tr_gOff rfl rfl rfl ?_;refine tr_gOff rfl rfl rfl ?_;refine tr_gOff rfl rfl rfl ?_;refine tr_gOff rfl rfl rfl ?_;refine tr_val (rk_pickB (.of rfl) (.of rfl) (.of rfl) rfl) rfl ?_;refine n_t ?_;refine tr_cond_t (.of rfl) ?_;refine s_r ?_;refine tr_callV (rk_call (.of rfl) .nil inferInstance normc_) rfl (fun w' hm'=>(haw w' (Mem.keeps hm'))) ?_;refine a_s rfl rfl ?_;refine n_t ?_;refine r_t ?_;refine tr_retE rfl (ends1 rfl rfl) ?_)
    rfl
  | true=>
  have hsb:∀ w',Keeps [] w w' → GivesV Tryz.prog 43 [.agg #[.int .i64 b.n,.slice a2 b.sp.length cap2,cv,xv]] w' (.bool true):=fun w' hk=>by
    have:=shortBr_c (h2.keeps hk) (h3.keeps hk) (h4.keeps hk)
    rwa [hss] at this
  by_cases h6:(6:Int) < (b.sp.length:Int)
  · (refine tr_callV (rk_call (.of rfl) .nil inferInstance normc_) rfl (fun w' hm'=>(haw w' (Mem.keeps hm'))) ?_;refine tr_val (rk_not (.of rfl)) rfl ?_;refine m_v rfl rfl ?_;refine tr_gOn rfl rfl ?_;refine tr_val (rk_loadB (.of rfl) (.there .here) norm_ (by rfl)) rfl ?_;refine tr_gOn rfl rfl ?_;refine tr_callV (rk_call (.of rfl) (.cons (.of rfl) .nil) inferInstance normc_) rfl (fun w' hm'=>(hva w' (Mem.keeps hm'))) ?_;refine tr_gOn rfl rfl ?_;refine tr_val (rk_not (.of rfl)) rfl ?_;refine tr_val (rk_pickB (.of rfl) (.of rfl) (.of rfl) rfl) rfl ?_;refine m_v rfl rfl ?_;refine tr_gOn rfl rfl ?_;refine tr_val (rk_loadB (.of rfl) (.there .here) norm_ (by rfl)) rfl ?_;refine tr_gOn rfl rfl ?_;refine tr_callV (rk_call (.of rfl) (.cons (.of rfl) .nil) inferInstance normc_) rfl (fun w' hm'=>(hbr w' (Mem.keeps hm'))) ?_;refine tr_gOn rfl rfl ?_;refine tr_val (rk_not (.of rfl)) rfl ?_;refine tr_val (rk_pickB (.of rfl) (.of rfl) (.of rfl) rfl) rfl ?_;refine m_v rfl rfl ?_;refine tr_gOn rfl rfl ?_;refine tr_val (rk_loadB (.of rfl) .here norm_ (by rfl)) rfl ?_;refine tr_gOn rfl rfl ?_;refine tr_callV (rk_call (.of rfl) (.cons (.of rfl) .nil) inferInstance normc_) rfl (fun w' hm'=>(hsb w' (Mem.keeps hm'))) ?_;refine tr_gOn rfl rfl ?_;refine tr_val (rk_not (.of rfl)) rfl ?_;refine tr_val (rk_pickB (.of rfl) (.of rfl) (.of rfl) rfl) rfl ?_;refine m_v rfl rfl ?_;refine tr_gOn rfl rfl ?_;refine f_a rfl rfl norm0_ ?_;refine tr_gOn rfl rfl ?_;refine tr_val (rk_load1 (.of rfl) (At.lit .here rfl)) rfl ?_;refine tr_gOn rfl rfl ?_;refine tr_val (rk_len_slice (.of rfl)) rfl ?_;refine tr_gOn rfl rfl ?_;refine tr_val (rk_gtrT (.of rfl) (.of rfl) h6) rfl ?_;refine tr_val (rk_pickB (.of rfl) (.of rfl) (.of rfl) rfl) rfl ?_;refine m_v rfl rfl ?_;refine tr_gOff rfl rfl rfl ?_;refine tr_gOff rfl rfl rfl ?_;refine tr_gOff rfl rfl rfl ?_;refine tr_gOff rfl rfl rfl ?_;refine tr_val (rk_pickB (.of rfl) (.of rfl) (.of rfl) rfl) rfl ?_;refine n_t ?_;refine tr_cond_t (.of rfl) ?_;refine s_r ?_;refine tr_callV (rk_call (.of rfl) .nil inferInstance normc_) rfl (fun w' hm'=>(haw w' (Mem.keeps hm'))) ?_;refine a_s rfl rfl ?_;refine n_t ?_;refine r_t ?_;refine tr_retE rfl (ends1 rfl rfl) ?_)
    rfl
  obtain ⟨hshb,hl8,hz⟩:=validB_iff (es:=es) hvv
  have hs:=Sound.of hz
  have hfe:es.length ≤ 1000:=by omega
  have hfb:=shortBr_few hss
  (refine tr_callV (rk_call (.of rfl) .nil inferInstance normc_) rfl (fun w' hm'=>(haw w' (Mem.keeps hm'))) ?_;refine tr_val (rk_not (.of rfl)) rfl ?_;refine m_v rfl rfl ?_;refine tr_gOn rfl rfl ?_;refine tr_val (rk_loadB (.of rfl) (.there .here) norm_ (by rfl)) rfl ?_;refine tr_gOn rfl rfl ?_;refine tr_callV (rk_call (.of rfl) (.cons (.of rfl) .nil) inferInstance normc_) rfl (fun w' hm'=>(hva w' (Mem.keeps hm'))) ?_;refine tr_gOn rfl rfl ?_;refine tr_val (rk_not (.of rfl)) rfl ?_;refine tr_val (rk_pickB (.of rfl) (.of rfl) (.of rfl) rfl) rfl ?_;refine m_v rfl rfl ?_;refine tr_gOn rfl rfl ?_;refine tr_val (rk_loadB (.of rfl) (.there .here) norm_ (by rfl)) rfl ?_;refine tr_gOn rfl rfl ?_;refine tr_callV (rk_call (.of rfl) (.cons (.of rfl) .nil) inferInstance normc_) rfl (fun w' hm'=>(hbr w' (Mem.keeps hm'))) ?_;refine tr_gOn rfl rfl ?_;refine tr_val (rk_not (.of rfl)) rfl ?_;refine tr_val (rk_pickB (.of rfl) (.of rfl) (.of rfl) rfl) rfl ?_;refine m_v rfl rfl ?_;refine tr_gOn rfl rfl ?_;refine tr_val (rk_loadB (.of rfl) .here norm_ (by rfl)) rfl ?_;refine tr_gOn rfl rfl ?_;refine tr_callV (rk_call (.of rfl) (.cons (.of rfl) .nil) inferInstance normc_) rfl (fun w' hm'=>(hsb w' (Mem.keeps hm'))) ?_;refine tr_gOn rfl rfl ?_;refine tr_val (rk_not (.of rfl)) rfl ?_;refine tr_val (rk_pickB (.of rfl) (.of rfl) (.of rfl) rfl) rfl ?_;refine m_v rfl rfl ?_;refine tr_gOn rfl rfl ?_;refine f_a rfl rfl norm0_ ?_;refine tr_gOn rfl rfl ?_;refine tr_val (rk_load1 (.of rfl) (At.lit .here rfl)) rfl ?_;refine tr_gOn rfl rfl ?_;refine tr_val (rk_len_slice (.of rfl)) rfl ?_;refine tr_gOn rfl rfl ?_;refine tr_val (rk_gtrF (.of rfl) (.of rfl) h6) rfl ?_;refine tr_val (rk_pickB (.of rfl) (.of rfl) (.of rfl) rfl) rfl ?_;refine m_v rfl rfl ?_;refine tr_gOn rfl rfl ?_;refine tr_val (rk_loadB (.of rfl) (.there .here) norm_ (by rfl)) rfl ?_;refine tr_gOn rfl rfl ?_)
  with_reducible apply tr_call
  case hr=>exact rk_call (.of rfl) (.cons (.of rfl) .nil) inferInstance normc_
  case hd=>rfl
  case ht=>exact Takes.nil
  case hc=>
    intro w1 fp hm1 _ hs1
    obtain rfl:fp = []:=hs1
    exact (gapsQ_c (h1.keeps hm1.keeps) hs)
  intro g0 _
  dsimp only [id_eq,List.cons_append,List.nil_append]
  refine tr_rowSl (E:=170) (sz:=3) (v:=g0) (by exact .here) fun ga0 gc0 e=>?_
  subst e
  by_cases hc:((gpL es es.length).length:Int) = 0
  · (refine tr_gOn rfl rfl ?_;refine tr_val (rk_len_slice (.of rfl)) rfl ?_;refine tr_gOn rfl rfl ?_;refine tr_val (rk_eqlT (.of rfl) (.of rfl) hc) rfl ?_;refine tr_val (rk_pickB (.of rfl) (.of rfl) (.of rfl) rfl) rfl ?_;refine n_t ?_;refine tr_cond_t (.of rfl) ?_;refine s_r ?_;refine tr_callV (rk_call (.of rfl) .nil inferInstance normc_) rfl (fun w' hm'=>(haw w' (Mem.keeps hm'))) ?_;refine a_s rfl rfl ?_;refine n_t ?_;refine r_t ?_;refine tr_retE rfl (ends1 rfl rfl) ?_)
    rfl
  (refine tr_gOn rfl rfl ?_;refine tr_val (rk_len_slice (.of rfl)) rfl ?_;refine tr_gOn rfl rfl ?_;refine tr_val (rk_eqlF (.of rfl) (.of rfl) hc) rfl ?_;refine tr_val (rk_pickB (.of rfl) (.of rfl) (.of rfl) rfl) rfl ?_;refine n_t ?_;refine tr_cond_f (.of rfl) ?_;refine s_t ?_;refine s_r ?_;refine m_v rfl rfl ?_;refine tr_val (rk_convS (.of rfl) (by omega)) rfl ?_;refine tr_val (rk_loadB (.of rfl) (.there (.there .here)) norm_ (by rfl)) rfl ?_)
  with_reducible apply tr_call
  case hr=>exact rk_call (.of rfl) (.cons (.of rfl) .nil) inferInstance normc_
  case hd=>rfl
  case ht=>exact Takes.nil
  case hc=>
    intro w1 fp hm1 _ hs1
    obtain rfl:fp = []:=hs1
    exact (gapsQ_c (h1.keeps hm1.keeps) hs)
  intro g1 _
  dsimp only [id_eq,List.cons_append,List.nil_append]
  refine tr_rowSl (E:=170) (sz:=3) (v:=g1) (by exact .here) fun ga1 gc1 e=>?_
  subst e
  have hgl:0 < (gpL es es.length).length:=by omega
  (refine tr_val (rk_len_slice (.of rfl)) rfl ?_;refine tr_val (rk_rem (.of rfl) (.of rfl) (by omega) hc) rfl ?_;refine a_s rfl rfl ?_;refine n_r ?_;refine tr_val (rk_loadB (.of rfl) (.there (.there (.there .here))) norm_ (by rfl)) rfl ?_)
  have hgr:0 ≤ m % ((gpL es es.length).length:Int) ∧ m % ((gpL es es.length).length:Int) < ((gpL es es.length).length:Int):=⟨Int.emod_nonneg _ hc,Int.emod_lt_of_pos _ (by omega)⟩
  generalize m % ((gpL es es.length).length:Int) = gi' at hgr
  obtain ⟨gi,rfl⟩:=Int.eq_ofNat_of_zero_le hgr.1
  have hgi:gi < (gpL es es.length).length:=by omega
  obtain ⟨x,hx⟩:∃ x,(gpL es es.length)[gi]? = some x:=⟨_,List.getElem?_eq_getElem hgi⟩
  obtain ⟨kk,hkl,hkg,hxe,_⟩:=gpL_at hx
  generalize hff:to es kk = ff at hkg hxe
  generalize htt:fr es (kk + 1) = tt at hkg hxe
  have hfn:=hs.fr_nn (k:=kk) (by omega)
  have hfn2:=hs.fr_nn (k:=kk + 1) (by omega)
  rw [hff] at hfn
  rw [htt] at hfn2
  subst hxe
  with_reducible apply tr_call
  case hr=>exact rk_call (.of rfl) (.cons (.of rfl) .nil) inferInstance normc_
  case hd=>rfl
  case ht=>exact Takes.nil
  case hc=>
    intro w1 fp hm1 _ hs1
    obtain rfl:fp = []:=hs1
    exact (gapsQ_c (h1.keeps hm1.keeps) hs)
  intro g2 _
  dsimp only [id_eq,List.cons_append,List.nil_append]
  refine tr_rowSl (E:=170) (sz:=3) (v:=g2) (by exact .here) fun ga2 gc2 e=>?_
  subst e
  refine tr_rowOpen (E:=170) (sz:=3) (v:=.slice ga2 (gpL es es.length).length gc2) (by exact .here) hgl fun gg gcap gcur e hk1 hx1 hz1 hl1=>?_
  obtain ⟨rfl,-,rfl⟩:=Value.slice.inj e
  unfold maxLen at hx1
  have q0:cellsAt (gpR es es.length++gcur) (gi * 3) 3 = [.int .i64 (kk:Int),.int .i64 ff,.int .i64 tt]:=by
    rw [gpR,trisL_flat]
    exact flat_cellsAt (trisL_sz _) (by rw [trisL,List.getElem?_map,hx];rfl)
  (refine m_v rfl rfl ?_;refine tr_val (rk_indexAddr (.of rfl) (.of rfl) rfl (by omega) (by omega) norm1_) rfl ?_;refine tr_val (rk_loadB (.of rfl) .here q0 rfl) rfl ?_;refine tr_new (rk_alloc rfl) rfl (fun _ _=>?_);refine tr_store (.of rfl) (.of rfl) .here rfl rfl (okc_cons rfl (okc_cons rfl (okc_cons rfl okc_nil))) (lenb rfl) norm_ ?_;refine n_r ?_;refine f_a rfl rfl norm0_ ?_;refine f_a rfl rfl norm0_ ?_;refine tr_val (rk_load1 (.of rfl) (At.lit .here rfl)) rfl ?_;refine f_a rfl rfl norm0_ ?_;refine f_a rfl rfl norm0_ ?_;refine tr_val (rk_load1 (.of rfl) (At.lit .here rfl)) rfl ?_;refine tr_val (rk_sub (.of rfl) (.of rfl) (ini (by omega))) rfl ?_;refine f_a rfl rfl norm0_ ?_;refine tr_store (.of rfl) (.of rfl) (.there (.there (.there (.there .here)))) rfl rfl (okc_cons rfl okc_nil) (lenb rfl) norm_ ?_;refine n_t ?_;refine tr_seq ?_;refine s_r ?_;refine tr_val (rk_loadB (.of rfl) .here norm_ (by rfl)) rfl ?_)
  rename_i b8 hb8
  with_reducible apply tr_callV
  case hr=>exact rk_call (.of rfl) (.cons (.of rfl) .nil) inferInstance normc_
  case hd=>rfl
  case hc=>
    intro w' hm'
    exact brkQ_c (b:=⟨tt - ff,b.sp,b.cm,b.ex⟩) (h2.keeps hm'.keeps) (h3.keeps hm'.keeps) (h4.keeps hm'.keeps)
  (refine tr_val (rk_neq (.of rfl) (.of rfl)) rfl ?_;refine n_t ?_;refine c_d rfl (fun hcd=>?_) (fun hcd=>?_);refine s_r ?_;refine a_s rfl rfl ?_;refine n_t ?_;refine r_t ?_;refine tr_retE rfl (ends1 rfl rfl) ?_;rotate_left;refine s_t ?_;refine tr_seq ?_;refine s_r ?_;refine f_a rfl rfl norm0_ ?_;refine tr_val (rk_load1 (.of rfl) (At.lit .here rfl)) rfl ?_;refine tr_val (rk_len_slice (.of rfl)) rfl ?_;refine m_v rfl rfl ?_;refine n_t ?_;refine tr_block ?_;rotate_right)
  · rfl
  have hbz:brE ⟨tt - ff,b.sp,b.cm,b.ex⟩ = 0:=by omega
  clear hcd
  skip
  refine tr_for (ι:=Nat) (fun k=>k ≤ b.sp.length ∧ ∀ j,j < k → findF es (nthS b.sp j).nm es.length < 0) (fun k=>[(85,.int .i64 (k:Int)),(84,.int .i64 (b.sp.length:Int)),(83,.slice a2 b.sp.length cap2),(7,.int .i64 (gi:Int)),(8,.pointer (some ⟨b8,0,none⟩)),(3,.pointer (some ⟨b3,0,none⟩)),(4,.pointer (some ⟨b4,0,none⟩))])
    (fun _=>[blk b8 (.cells #[.int .i64 (kk:Int),.int .i64 ff,.int .i64 tt] 170),blk b3 (.cells #[.slice a1 es.length cap1] 24),blk b4 (.cells #[.int .i64 (tt - ff),.slice a2 b.sp.length cap2,cv,xv] 83)]) (fun k=>b.sp.length - k) ?_ ?_
  · apply tr_start 0 ⟨Nat.zero_le _,fun j hj=>absurd hj (Nat.not_lt_zero _)⟩
    case hs1=>exact .cons rfl (.cons rfl (.cons rfl (.cons rfl (.cons rfl (.cons rfl (.cons rfl .nil))))))
    case ht=>exact .cons (.there .here) (.cons (.there (.there (.there (.there .here)))) (.cons .here .nil))
  rintro k ⟨hk,hfnd⟩
  by_cases hlt:k < b.sp.length
  · have ha':=ha2 (spsL_ne hlt)
    have hcell:=(hc2 k _ (spsL_get hlt)).2
    unfold Sp.cells at hcell
    (refine s_r ?_;refine tr_val (rk_lss (.of rfl) (.of rfl)) rfl ?_;refine n_t ?_;refine tr_seq ?_;refine c_d rfl (fun hcd=>?_) (fun _=>by omega);refine s_t ?_;refine tr_seq ?_;refine tr_block ?_;refine s_r ?_;refine tr_val (rk_indexAddr (.of rfl) (.of rfl) ha' (by omega) hcd norm1_) rfl ?_;refine tr_val (rk_loadN (.of rfl) (Ats.base hcell rfl) rfl) rfl ?_;refine tr_new (rk_alloc rfl) rfl (fun _ _=>?_);refine tr_store (.of rfl) (.of rfl) .here rfl rfl (okc_cons rfl (okc_cons rfl (okc_cons rfl (okc_cons rfl okc_nil)))) (lenb rfl) norm_ ?_;refine n_r ?_;refine tr_val (rk_loadB (.of rfl) (.there (.there .here)) norm_ (by rfl)) rfl ?_;refine f_a rfl rfl norm0_ ?_;refine tr_val (rk_load1 (.of rfl) (At.lit .here rfl)) rfl ?_;refine f_a rfl rfl norm0_ ?_;refine tr_val (rk_load1 (.of rfl) (At.lit (.there (.there .here)) rfl)) rfl ?_;refine tr_val (rk_len_slice (.of rfl)) rfl ?_)
    with_reducible apply tr_callV
    case hr=>exact rk_call (.of rfl) (.cons (.of rfl) (.cons (.of rfl) (.cons (.of rfl) .nil))) inferInstance normc_
    case hd=>rfl
    case hc=>
      intro w' hm'
      exact findQ_c (nthS b.sp k).nm es.length (h1.keeps hm'.keeps) (Nat.le_refl _)
    (refine tr_val (rk_geq (.of rfl) (.of rfl)) rfl ?_;refine n_t ?_;refine c_d rfl (fun hcd=>?_) (fun hcd=>?_);refine s_r ?_;refine a_s rfl rfl ?_;refine n_t ?_;refine tr_ret ?_;refine tr_blk_ret ?_;refine tr_then_ret ?_;refine tr_then_ret ?_;refine tr_blk_ret ?_;refine tr_then_ret ?_;refine tr_retE rfl (ends1 rfl rfl) ?_;rotate_left;refine tr_skip ?_;refine tr_blk_normal ?_;refine tr_then ?_;refine tr_region ?_;refine tr_val (rk_add (.of rfl) (.of rfl) (ini (by omega))) rfl ?_;refine m_v rfl rfl ?_;refine n_t ?_;rotate_right)
    · rfl
    · apply tr_next (k + 1) (show k + 1 ≤ b.sp.length ∧ ∀ j,j < k + 1 → findF es (nthS b.sp j).nm es.length < 0 from ⟨hlt,fun j hj=>by
        by_cases e:j = k
        · rw [e];omega
        · exact hfnd j (by omega)⟩) (by show b.sp.length - (k + 1) < b.sp.length - k;omega)
      case hs1=>exact .cons rfl (.cons rfl (.cons rfl (.cons rfl (.cons rfl (.cons rfl (.cons rfl .nil))))))
      case ht=>exact .cons (.there .here) (.cons (.there .here) (.cons (.there .here) .nil))
  obtain rfl:k = b.sp.length:=by omega
  obtain ⟨_,hkk,F⟩:=fill_ok (gi:=gi) hz hl8 hbz hx rfl (fun i j hi hj=>find_ne (hfnd j hj) i hi)
  obtain rfl:=Int.ofNat.inj hkk
  dsimp only at F
  have hok:=BrOk.of hbz
  have hfiV:fiV ⟨tt - ff,b.sp,b.cm,b.ex⟩ = (tV b.sp (fillF ⟨tt - ff,b.sp,b.cm,b.ex⟩) (fillF ⟨tt - ff,b.sp,b.cm,b.ex⟩).length,tL b.sp (fillF ⟨tt - ff,b.sp,b.cm,b.ex⟩) (fillF ⟨tt - ff,b.sp,b.cm,b.ex⟩).length):=by rw [fiV,if_pos hbz]
  have hfiL:fiL ⟨tt - ff,b.sp,b.cm,b.ex⟩ = fillF ⟨tt - ff,b.sp,b.cm,b.ex⟩:=by rw [fiL,if_pos hbz]
  generalize plL' es (gi:Int) ⟨tt - ff,b.sp,b.cm,b.ex⟩ (natI (fillF ⟨tt - ff,b.sp,b.cm,b.ex⟩)) = cs at F
  generalize fillF ⟨tt - ff,b.sp,b.cm,b.ex⟩ = o at F hfiL hfiV
  generalize hV1:tV b.sp o o.length = V1 at hfiV
  have Ffew:=F.few
  have Flen:=F.len
  dsimp only at Ffew
  have hoc:cs.length ≤ 1000:=by omega
  have hFill:∀ (x1 x2 x3:Value) w',Rd w' x1 4 (spsL b.sp) → Rd w' x2 1 (ints b.cm) → Rd w' x3 2 (prsL b.ex) → Gives Tryz.prog 62 [.agg #[.int .i64 (tt - ff),x1,x2,x3]] w' [] (fun _:Value=>True) (fun v=>.tuple #[v,.agg #[.int .i64 V1,.int .i64 (tL b.sp o o.length)],.int .i64 0]) (fun v=>[row 3 1 v o.length (natsV o)]):=fun x1 x2 x3 w' r1 r2 r3=>by
    have:=fill_c (b:=⟨tt - ff,b.sp,b.cm,b.ex⟩) r1 r2 r3
    rw [hfiV,hfiL,hbz] at this
    exact this
  have hgv:∀ w',Keeps [] w w' → _:=fun w' hk=>given_c (b:=⟨tt - ff,b.sp,b.cm,b.ex⟩) (h2.keeps hk) (h3.keeps hk) (h4.keeps hk) (Nat.le_trans hfb.1 (by decide)) (Nat.le_trans hfb.2.1 (by decide)) (Nat.le_trans hfb.2.2 (by decide))
  have hPl:∀ (sv' pv' cv' xv' ov':Value) w',Keeps [] w w' → Rd w' sv' 6 (ensL es) → Rd w' pv' 4 (spsL b.sp) → Rd w' cv' 1 (ints b.cm) → Rd w' xv' 2 (prsL b.ex) → Rd w' ov' 1 (ints (natI o)) → Gives Tryz.prog 52 [.agg #[sv'],.int .i64 (gi:Int),.agg #[.int .i64 (tt - ff),pv',cv',xv'],ov'] w' [] (fun _:Value=>True) (fun v=>.tuple #[.agg #[v],.int .i64 0]) (fun v=>[row 138 6 v cs.length (ensL cs).flatten]):=fun sv' pv' cv' xv' ov' w' hk r1 r2 r3 r4 r5=>by
    have:=placed_c (b:=⟨tt - ff,b.sp,b.cm,b.ex⟩) (gap:=(gi:Int)) r1 r2 r3 r4 r5 (hG.keeps hk)
    rw [F.pl,F.pcs] at this
    exact this
  (refine s_r ?_;refine tr_val (rk_lss (.of rfl) (.of rfl)) rfl ?_;refine n_t ?_;refine tr_seq ?_;refine c_d rfl (fun _=>by omega) (fun hcd=>?_);refine x_t ?_;refine tr_then_exit ?_;refine tr_blk_exit ?_;refine tr_then ?_;refine s_r ?_;refine tr_val (rk_loadB (.of rfl) (.there (.there .here)) norm_ (by rfl)) rfl ?_)
  with_reducible apply tr_call
  case hr=>exact rk_call (.of rfl) (.cons (.of rfl) .nil) inferInstance normc_
  case hd=>rfl
  case ht=>exact Takes.nil
  case hc=>
    intro w1 fp hm1 _ hs1
    obtain rfl:fp = []:=hs1
    exact hgv w1 hm1.keeps
  rintro ⟨x11,x12,x13⟩ _
  dsimp only [id_eq,List.cons_append,List.nil_append]
  skip
  with_reducible apply tr_call
  case hr=>exact rk_call (.of rfl) (.cons (.of rfl) .nil) inferInstance normc_
  case hd=>rfl
  case ht=>exact Takes.nil
  case hc=>
    intro w1 fp hm1 _ hs1
    obtain rfl:fp = []:=hs1
    exact hFill x11 x12 x13 w1 (Mem.rdRow hm1 (E:=218) (v:=x11) (by exact .here) rfl (spsL_sz _) (spsL_length _)) (Mem.rdRow hm1 (E:=3) (v:=x12) (by exact Take.there .here) rfl (ints_sz _) (ints_length _)) (Mem.rdRowE hm1 (E:=121) (v:=x13) (by exact Take.there (.there .here)) rfl (prsL_sz _) (prsL_length _))
  intro fv _
  dsimp only [id_eq,List.cons_append,List.nil_append]
  refine tr_rowSl (E:=3) (sz:=1) (v:=fv) (by exact .here) fun fa fc e=>?_
  subst e
  (refine m_v rfl rfl ?_;refine tr_val (rk_extract (.of rfl) rfl) rfl ?_;refine tr_val (rk_extract (.of rfl) rfl) rfl ?_;refine tr_val (rk_extract (.of rfl) rfl) rfl ?_;refine tr_new (rk_alloc rfl) rfl (fun _ _=>?_);refine a_s rfl rfl ?_;refine tr_store (.of rfl) (.of rfl) .here rfl rfl (okc_cons rfl (okc_cons rfl okc_nil)) (lenb rfl) norm_ ?_;refine a_s rfl rfl ?_;refine n_t ?_;refine tr_seq ?_)
  rename_i b12 hb12
  with_reducible refine tr_drawP 12 10 (by kernel_rfl) (pure_at rfl (by kernel_rfl) (by kernel_rfl)) ?_
  refine am_val (fun β=>(rk_loadB (.of rfl) (.there (.there (.there (.there (.there (.there .here)))))) norm_ (by rfl))) ind0x rfl ?_
  dsimp only [Nat.zero_add,Nat.reduceAdd]
  with_reducible apply am_call (ι:=Value) (Φ:=fun _=>True) (val:=fun v=>.agg #[v]) (own:=fun v=>[row 138 6 v es.length (enR es es.length)]) (g:=id) (B:=[]) (args:=fun β=>[.agg #[.slice a1 es.length cap1]])
  case hg=>exact fun x=>⟨x,rfl⟩
  case hB=>first | rfl | kernel_rfl
  case hr=>exact fun β=>rk_call (.of rfl) (.cons (.of rfl) .nil) inferInstance rfl
  case hd=>rfl
  case hc=>exact fun β w' hb=>own_c (h1.keeps hb.mem.keeps) hfe
  dsimp only [id_eq,Nat.reduceAdd]
  (refine am_val (fun β=>(rk_move (.of rfl))) ind0x rfl ?_;refine am_val (fun β=>(rk_loadB (.of rfl) (.there (.there (.there (.there (.there (.there (.there .here))))))) norm_ (by rfl))) ind0x rfl ?_)
  dsimp only [Nat.reduceAdd]
  with_reducible apply am_call (ι:=Value × Value × Value) (Φ:=fun _=>True) (val:=fun x=>.agg #[.int .i64 (tt - ff),x.1,x.2.1,x.2.2]) (own:=fun x=>[row 218 4 x.1 b.sp.length (spsL b.sp).flatten,row 3 1 x.2.1 b.cm.length (ints b.cm).flatten,rowE 121 2 x.2.2 b.ex.length (prsL b.ex).flatten]) (g:=gq3) (B:=[]) (args:=fun _=>[.agg #[.int .i64 (tt - ff),.slice a2 b.sp.length cap2,cv,xv]])
  case hg=>exact gq3_of
  case hB=>rfl
  case hr=>exact fun β=>rk_call (.of rfl) (.cons (.of rfl) .nil) inferInstance rfl
  case hd=>rfl
  case hc=>exact fun β w' hb=>hgv w' hb.mem.keeps
  refine am_val (fun β=>(rk_move (.of rfl))) ind0x rfl ?_
  dsimp only [Nat.reduceAdd]
  with_reducible apply am_call (ι:=Value) (Φ:=fun _=>True) (val:=id) (own:=fun v=>[row 3 1 v (natI o).length (ints (natI o)).flatten]) (g:=id) (B:=[]) (args:=fun _=>[.slice fa o.length fc])
  case hg=>exact fun x=>⟨x,rfl⟩
  case hB=>rfl
  case hr=>exact fun β=>rk_call (.of rfl) (.cons (.of rfl) .nil) inferInstance rfl
  case hd=>rfl
  case hc=>exact fun β w' hb=>ints_c (rdNatN (l:=o) (v:=.slice fa o.length fc) hb.mem (by exact Take.there .here) rfl) (by rw [natI_length];omega)
  dsimp only [id_eq,Nat.reduceAdd]
  with_reducible apply am_call (ι:=Option Addr × Nat) (Φ:=fun _=>True) (val:=fun x=>.tuple #[.agg #[.slice x.1 cs.length x.2],.int .i64 0]) (own:=fun x=>[row 138 6 (.slice x.1 cs.length x.2) cs.length (ensL cs).flatten]) (g:=gsl) (B:=[1,4,6]) (args:=fun β=>[.agg #[β 1],.int .i64 (gi:Int),.agg #[.int .i64 (tt - ff),(gq3 (β 4)).1,(gq3 (β 4)).2.1,(gq3 (β 4)).2.2],β 6])
  case hg=>exact gsl_of
  case hB=>kernel_rfl
  case hr=>exact fun β=>rk_call (.of rfl) (.cons (.of rfl) (.cons (.of rfl) (.cons (.of rfl) (.cons (.of rfl) .nil)))) inferInstance rfl
  case hd=>rfl
  case hc=>
    intro β w' hb
    have m1:=hb.at 1 (by simp) (s:=⟨fun β=>.agg #[β 1],fun β=>[row 138 6 (β 1) es.length (enR es es.length)]⟩) (by kernel_rfl)
    have m4:=hb.at 4 (by simp) (s:=⟨fun β=>.agg #[.int .i64 (tt - ff),(gq3 (β 4)).1,(gq3 (β 4)).2.1,(gq3 (β 4)).2.2],fun β=>[row 218 4 (gq3 (β 4)).1 b.sp.length (spsL b.sp).flatten,row 3 1 (gq3 (β 4)).2.1 b.cm.length (ints b.cm).flatten,rowE 121 2 (gq3 (β 4)).2.2 b.ex.length (prsL b.ex).flatten]⟩) (by kernel_rfl)
    have m6:=hb.at 6 (by simp) (s:=⟨fun β=>β 6,fun β=>[row 3 1 (β 6) (natI o).length (ints (natI o)).flatten]⟩) (by kernel_rfl)
    dsimp only [List.cons_append,List.nil_append] at m1 m4 m6
    exact Gives.sliceV (hPl _ _ _ _ _ w' hb.mem.keeps (rdEn m1 (by exact .here)) (Mem.rdRow m4 (E:=218) (by exact .here) rfl (spsL_sz _) (spsL_length _)) (Mem.rdRow m4 (E:=3) (by exact Take.there .here) rfl (ints_sz _) (ints_length _)) (Mem.rdRowE m4 (E:=121) (by exact Take.there (.there .here)) rfl (prsL_sz _) (prsL_length _)) (Mem.rdRow m6 (E:=3) (by exact .here) rfl (ints_sz _) (ints_length _)))
  dsimp only [Nat.reduceAdd]
  refine am_val (F:=fun β=>.tuple #[.agg #[.slice (gsl (β 7)).1 (cs).length (gsl (β 7)).2],.int .i64 (0)]) (fun β=>rk_move (.of rfl)) (fun β β' h=>by simp only [h 7 (by kernel_rfl)]) rfl ?_
  refine am_val (F:=fun β=>.agg #[.slice (gsl (β 7)).1 (cs).length (gsl (β 7)).2]) (fun β=>rk_extract (.of rfl) rfl) (fun β β' h=>by simp only [h 7 (by kernel_rfl)]) rfl ?_
  refine am_val (F:=fun β=>.int .i64 (0)) (fun β=>rk_extract (.of rfl) rfl) ind0x rfl ?_
  dsimp only [Nat.reduceAdd]
  refine am_new (fun β=>(rk_alloc rfl)) (fun _ _ _=>rfl) rfl ?_
  refine am_end fun β=>?_
  dsimp only [resAll,List.nil_append,List.cons_append,List.append_eq,Nat.reduceAdd]
  generalize gsl (β 7) = y15
  generalize gnat (β 11) = b15
  obtain ⟨q15,p15⟩:=y15
  dsimp only
  refine left_ready (rs:=[12]) (by kernel_rfl) (by simp) (List.forall_mem_cons.2 ⟨?_,fun _ h=>absurd h List.not_mem_nil⟩)
  refine next_step rfl ?_
  (refine tr_store (.of rfl) (.of rfl) (.there (.there (.there (.there (.there (.there .here)))))) rfl rfl (okc_cons rfl okc_nil) (lenb rfl) norm_ ?_;refine n_t ?_)
  refine left_ready (rs:=[13]) (by kernel_rfl) (by simp) (List.forall_mem_cons.2 ⟨?_,fun _ h=>absurd h List.not_mem_nil⟩)
  refine next_step rfl ?_
  (refine a_s rfl rfl ?_;refine n_t ?_)
  with_reducible refine left_done (by kernel_rfl) ?_
  (refine tr_then ?_;refine tr_seq ?_;refine s_r ?_;refine m_v rfl rfl ?_;refine tr_val (rk_neq (.of rfl) (.of rfl)) rfl ?_;refine m_v rfl rfl ?_;refine v_g rfl rfl rfl rfl ?_;refine tr_vG1 rfl rfl inferInstance (fun hg hgp=>(rk_neq (.ofg hg rfl) (.of rfl))) rfl ?_;refine tr_val (rk_pick_or (.of rfl) rfl) rfl ?_;refine m_v rfl rfl ?_;refine v_g rfl rfl rfl rfl ?_;refine tr_vG1 rfl rfl inferInstance (fun hg hgp=>(rk_len_slice (.ofg hg rfl))) rfl ?_;refine tr_vG1 rfl rfl inferInstance (fun hg hgp=>(rk_fieldAddr (.of rfl) norm0_)) rfl ?_;refine tr_vG1 rfl rfl inferInstance (fun hg hgp=>(rk_load1 (.ofg hg rfl) (At.lit (.there (.there (.there (.there (.there (.there (.there (.there (.there (.there (.there (.there (.there (.there .here)))))))))))))) rfl))) rfl ?_;refine tr_vG1 rfl rfl inferInstance (fun hg hgp=>(rk_len_slice (.ofg hg rfl))) rfl ?_;refine tr_vG1 rfl rfl inferInstance (fun hg hgp=>(rk_gtr (.ofg hg rfl) (.ofg hg rfl))) rfl ?_;refine tr_val (rk_pick_or (.of rfl) rfl) rfl ?_;refine m_v rfl rfl ?_;refine tr_vG1 rfl rfl inferInstance (fun hg hgp=>(rk_fieldAddr (.of rfl) norm0_)) rfl ?_;refine tr_vG1 rfl rfl inferInstance (fun hg hgp=>(rk_load1 (.ofg hg rfl) (At.lit .here rfl))) rfl ?_;refine tr_vG1 rfl rfl inferInstance (fun hg hgp=>(rk_len_slice (.ofg hg rfl))) rfl ?_;refine tr_vG1 rfl rfl inferInstance (fun hg hgp=>(rk_fieldAddr (.of rfl) norm0_)) rfl ?_;refine tr_vG1 rfl rfl inferInstance (fun hg hgp=>(rk_load1 (.ofg hg rfl) (At.lit (.there (.there (.there (.there (.there (.there (.there (.there (.there (.there (.there (.there (.there .here))))))))))))) rfl))) rfl ?_;refine tr_vG1 rfl rfl inferInstance (fun hg hgp=>(rk_len_slice (.ofg hg rfl))) rfl ?_;refine v_g rfl rfl rfl rfl ?_;refine tr_vG1 rfl rfl inferInstance (fun hg hgp=>(rk_len_slice (.ofg hg rfl))) rfl ?_;refine tr_vG1 rfl rfl inferInstance (fun hg hgp=>(rk_add (.ofg hg rfl) (.ofg hg rfl) (ini (by omega)))) rfl ?_;refine tr_vG1 rfl rfl inferInstance (fun hg hgp=>(rk_neq (.ofg hg rfl) (.ofg hg rfl))) rfl ?_;refine tr_val (rk_pick_or (.of rfl) rfl) rfl ?_;refine n_t ?_;refine c_b rfl (fun _=>by omega) (fun hcd=>?_);refine s_t ?_;refine s_r ?_;refine tr_val (rk_loadB (.of rfl) (.there (.there (.there (.there (.there (.there (.there (.there (.there (.there (.there (.there (.there .here))))))))))))) norm_ (by rfl)) rfl ?_)
  clear hcd
  have hOw:∀ (v:Value) (ls:List En) w',ls.length ≤ 1000 → Rd w' v 6 (ensL ls) → _:=fun v ls w' hl hr=>own_c (es:=ls) hr hl
  have hTm:∀ (v:Value) (ls:List En) w',Keeps [] w w' → chkF ls = 0 → Rd w' v 6 (ensL ls) → Gives Tryz.prog 19 [.agg #[v]] w' [] (fun _:Value=>True) (fun v=>.tuple #[v,.int .i64 0]) (fun v=>[row 66 2 v ls.length ((spL ls ls.length).flatMap duoV)]):=fun v ls w' hk h0 hr=>by
    have:=times_c hr (hG.keeps hk)
    rwa [tmL,if_pos h0,spL_length,h0] at this
  have hGp:∀ (v:Value) (ls:List En) w',Keeps [] w w' → chkF ls = 0 → Rd w' v 6 (ensL ls) → Gives Tryz.prog 21 [.agg #[v]] w' [] (fun _:Value=>True) (fun v=>.tuple #[v,.int .i64 0]) (fun v=>[row 120 3 v (gpL ls ls.length).length ((gpL ls ls.length).flatMap triV)]):=fun v ls w' hk h0 hr=>by
    have:=gapsX_c hr (hG.keeps hk)
    rwa [gpsL,if_pos h0,h0] at this
  with_reducible apply tr_call
  case hr=>exact rk_call (.of rfl) (.cons (.of rfl) .nil) inferInstance normc_
  case hd=>rfl
  case ht=>exact Takes.nil
  case hc=>
    intro w1 fp hm1 _ hs1
    obtain rfl:fp = []:=hs1
    exact hOw _ es w1 hfe (h1.keeps hm1.keeps)
  intro va _
  dsimp only [id_eq,List.cons_append,List.nil_append]
  skip
  with_reducible apply tr_call
  case hr=>exact rk_call (.of rfl) (.cons (.of rfl) .nil) inferInstance normc_
  case hd=>rfl
  case ht=>exact Takes.nil
  case hc=>
    intro w1 fp hm1 _ hs1
    obtain rfl:fp = []:=hs1
    exact hTm va es w1 hm1.keeps hz (rdEn hm1 (by exact .here))
  intro tv _
  dsimp only [id_eq,List.cons_append,List.nil_append]
  refine tr_rowSl (E:=66) (sz:=2) (by exact .here) fun ta tc e=>?_
  subst e
  (refine m_v rfl rfl ?_;refine tr_val (rk_extract (.of rfl) rfl) rfl ?_;refine tr_val (rk_extract (.of rfl) rfl) rfl ?_;refine a_s rfl rfl ?_;refine a_s rfl rfl ?_;refine n_r ?_;refine tr_val (rk_loadB (.of rfl) (.there (.there .here)) norm_ (by rfl)) rfl ?_)
  with_reducible apply tr_call
  case hr=>exact rk_call (.of rfl) (.cons (.of rfl) .nil) inferInstance normc_
  case hd=>rfl
  case ht=>exact Takes.nil
  case hc=>
    intro w1 fp hm1 _ hs1
    obtain rfl:fp = []:=hs1
    exact told_c (rdEnF (v:=.slice q15 cs.length p15) hm1 (by exact Take.there (.there (.there (.there (.there (.there (.there (.there .here)))))))) rfl) hoc
  intro vb _
  dsimp only [id_eq,List.cons_append,List.nil_append]
  skip
  with_reducible apply tr_call
  case hr=>exact rk_call (.of rfl) (.cons (.of rfl) .nil) inferInstance normc_
  case hd=>rfl
  case ht=>exact Takes.nil
  case hc=>
    intro w1 fp hm1 _ hs1
    obtain rfl:fp = []:=hs1
    exact hOw vb cs w1 hoc (rdEn hm1 (by exact .here))
  intro vc _
  dsimp only [id_eq,List.cons_append,List.nil_append]
  skip
  with_reducible apply tr_call
  case hr=>exact rk_call (.of rfl) (.cons (.of rfl) .nil) inferInstance normc_
  case hd=>rfl
  case ht=>exact Takes.nil
  case hc=>
    intro w1 fp hm1 _ hs1
    obtain rfl:fp = []:=hs1
    exact hTm vc cs w1 hm1.keeps F.snd (rdEn hm1 (by exact .here))
  intro uv _
  dsimp only [id_eq,List.cons_append,List.nil_append]
  refine tr_rowSl (E:=66) (sz:=2) (by exact .here) fun ua uc e=>?_
  subst e
  (refine m_v rfl rfl ?_;refine tr_val (rk_extract (.of rfl) rfl) rfl ?_;refine tr_val (rk_extract (.of rfl) rfl) rfl ?_;refine a_s rfl rfl ?_;refine a_s rfl rfl ?_;refine n_r ?_;refine tr_val (rk_loadB (.of rfl) (.there (.there (.there (.there (.there .here))))) norm_ (by rfl)) rfl ?_)
  with_reducible apply tr_call
  case hr=>exact rk_call (.of rfl) (.cons (.of rfl) .nil) inferInstance normc_
  case hd=>rfl
  case ht=>exact Takes.nil
  case hc=>
    intro w1 fp hm1 _ hs1
    obtain rfl:fp = []:=hs1
    exact told_c (rdEnF (v:=.slice q15 cs.length p15) hm1 (by exact Take.there (.there (.there (.there (.there (.there (.there (.there (.there (.there (.there .here))))))))))) rfl) hoc
  intro vd _
  dsimp only [id_eq,List.cons_append,List.nil_append]
  skip
  with_reducible apply tr_call
  case hr=>exact rk_call (.of rfl) (.cons (.of rfl) .nil) inferInstance normc_
  case hd=>rfl
  case ht=>exact Takes.nil
  case hc=>
    intro w1 fp hm1 _ hs1
    obtain rfl:fp = []:=hs1
    exact hOw vd cs w1 hoc (rdEn hm1 (by exact .here))
  intro ve _
  dsimp only [id_eq,List.cons_append,List.nil_append]
  skip
  with_reducible apply tr_call
  case hr=>exact rk_call (.of rfl) (.cons (.of rfl) .nil) inferInstance normc_
  case hd=>rfl
  case ht=>exact Takes.nil
  case hc=>
    intro w1 fp hm1 _ hs1
    obtain rfl:fp = []:=hs1
    exact hGp ve cs w1 hm1.keeps F.snd (rdEn hm1 (by exact .here))
  intro gv _
  dsimp only [id_eq,List.cons_append,List.nil_append]
  refine tr_rowSl (E:=120) (sz:=3) (by exact .here) fun gva gvc e=>?_
  subst e
  (refine m_v rfl rfl ?_;refine tr_val (rk_extract (.of rfl) rfl) rfl ?_;refine tr_val (rk_extract (.of rfl) rfl) rfl ?_;refine a_s rfl rfl ?_;refine a_s rfl rfl ?_;refine n_r ?_;refine tr_val (rk_loadB (.of rfl) (.there (.there (.there (.there (.there (.there (.there (.there (.there (.there (.there (.there (.there (.there (.there (.there (.there (.there (.there (.there (.there .here))))))))))))))))))))) norm_ (by rfl)) rfl ?_)
  with_reducible apply tr_call
  case hr=>exact rk_call (.of rfl) (.cons (.of rfl) .nil) inferInstance normc_
  case hd=>rfl
  case ht=>exact Takes.nil
  case hc=>
    intro w1 fp hm1 _ hs1
    obtain rfl:fp = []:=hs1
    exact hOw _ es w1 hfe (h1.keeps hm1.keeps)
  intro vf _
  dsimp only [id_eq,List.cons_append,List.nil_append]
  skip
  with_reducible apply tr_call
  case hr=>exact rk_call (.of rfl) (.cons (.of rfl) .nil) inferInstance normc_
  case hd=>rfl
  case ht=>exact Takes.nil
  case hc=>
    intro w1 fp hm1 _ hs1
    obtain rfl:fp = []:=hs1
    exact hGp vf es w1 hm1.keeps hz (rdEn hm1 (by exact .here))
  intro ow _
  dsimp only [id_eq,List.cons_append,List.nil_append]
  refine tr_rowSl (E:=120) (sz:=3) (by exact .here) fun owa owc e=>?_
  subst e
  (refine m_v rfl rfl ?_;refine tr_val (rk_extract (.of rfl) rfl) rfl ?_;refine tr_val (rk_extract (.of rfl) rfl) rfl ?_;refine a_s rfl rfl ?_;refine a_s rfl rfl ?_;refine n_t ?_;refine tr_seq ?_;refine s_r ?_;refine m_v rfl rfl ?_;refine tr_val (rk_neq (.of rfl) (.of rfl)) rfl ?_;refine m_v rfl rfl ?_;refine v_g rfl rfl rfl rfl ?_;refine tr_vG1 rfl rfl inferInstance (fun hg hgp=>(rk_neq (.ofg hg rfl) (.of rfl))) rfl ?_;refine tr_val (rk_pick_or (.of rfl) rfl) rfl ?_;refine m_v rfl rfl ?_;refine v_g rfl rfl rfl rfl ?_;refine tr_vG1 rfl rfl inferInstance (fun hg hgp=>(rk_neq (.ofg hg rfl) (.of rfl))) rfl ?_;refine tr_val (rk_pick_or (.of rfl) rfl) rfl ?_;refine m_v rfl rfl ?_;refine v_g rfl rfl rfl rfl ?_;refine tr_vG1 rfl rfl inferInstance (fun hg hgp=>(rk_neq (.ofg hg rfl) (.of rfl))) rfl ?_;refine tr_val (rk_pick_or (.of rfl) rfl) rfl ?_;refine m_v rfl rfl ?_;refine v_g rfl rfl rfl rfl ?_;refine tr_vG1 rfl rfl inferInstance (fun hg hgp=>(rk_len_slice (.ofg hg rfl))) rfl ?_;refine tr_vG1 rfl rfl inferInstance (fun hg hgp=>(rk_fieldAddr (.of rfl) norm0_)) rfl ?_;refine tr_vG1 rfl rfl inferInstance (fun hg hgp=>(rk_load1 (.ofg hg rfl) (At.lit (.there (.there (.there (.there (.there (.there (.there (.there (.there (.there (.there (.there (.there (.there (.there (.there (.there (.there (.there (.there (.there (.there (.there .here))))))))))))))))))))))) rfl))) rfl ?_;refine tr_vG1 rfl rfl inferInstance (fun hg hgp=>(rk_len_slice (.ofg hg rfl))) rfl ?_;refine tr_vG1 rfl rfl inferInstance (fun hg hgp=>(rk_neq (.ofg hg rfl) (.ofg hg rfl))) rfl ?_;refine tr_val (rk_pick_or (.of rfl) rfl) rfl ?_;refine m_v rfl rfl ?_;refine v_g rfl rfl rfl rfl ?_;refine tr_vG1 rfl rfl inferInstance (fun hg hgp=>(rk_len_slice (.ofg hg rfl))) rfl ?_;refine tr_vG1 rfl rfl inferInstance (fun hg hgp=>(rk_fieldAddr (.of rfl) norm0_)) rfl ?_;refine tr_vG1 rfl rfl inferInstance (fun hg hgp=>(rk_load1 (.ofg hg rfl) (At.lit (.there (.there (.there (.there (.there (.there (.there (.there (.there (.there .here)))))))))) rfl))) rfl ?_;refine tr_vG1 rfl rfl inferInstance (fun hg hgp=>(rk_len_slice (.ofg hg rfl))) rfl ?_;refine tr_vG1 rfl rfl inferInstance (fun hg hgp=>(rk_neq (.ofg hg rfl) (.ofg hg rfl))) rfl ?_;refine tr_val (rk_pick_or (.of rfl) rfl) rfl ?_;refine n_t ?_;refine c_b rfl (fun _=>by omega) (fun hcd=>?_);refine s_t ?_;refine s_r ?_;refine f_a rfl rfl norm0_ ?_;refine f_a rfl rfl norm0_ ?_;refine tr_val (rk_load1 (.of rfl) (At.lit (.there (.there (.there (.there (.there (.there (.there (.there (.there (.there (.there (.there (.there (.there (.there (.there (.there (.there (.there (.there (.there (.there .here)))))))))))))))))))))) rfl)) rfl ?_;refine a_s rfl rfl ?_;refine n_t ?_;refine tr_seq ?_;refine s_r ?_;refine m_v rfl rfl ?_;refine tr_val (rk_len_slice (.of rfl)) rfl ?_;refine m_v rfl rfl ?_;refine n_t ?_;refine tr_block ?_)
  clear hcd
  have Flt:=F.lt
  have Fle:=F.le
  have Ftl:=F.tl o.length (Nat.le_refl _)
  have Fgps:=F.gps
  have Frst:=F.rst
  have Fbef:=F.bef
  have Fwth:=F.wth
  have Faft:=F.aft
  dsimp only at Fle Ftl Fgps Frst Fwth
  obtain ⟨fA,hfA⟩:∃ fA:Nat → Int,∀ i,fA i = ff + tL b.sp o (min (i - (kk + 1)) o.length):=⟨_,fun _=>rfl⟩
  have hfA0:fA 0 = ff:=by rw [hfA,show min (0 - (kk + 1)) o.length = 0 by omega];show ff + 0 = ff;omega
  have hfAe:fA cs.length = ff + tL b.sp o o.length:=by rw [hfA,show min (cs.length - (kk + 1)) o.length = o.length by omega]
  refine tr_rowOpen (E:=66) (sz:=2) (v:=.slice ta es.length tc) (by exact Take.there (.there (.there (.there (.there (.there (.there (.there .here)))))))) (by omega) fun tg tcap tcur e hkt hxt0 hzt hlt0=>?_
  obtain ⟨rfl,-,rfl⟩:=Value.slice.inj e
  refine tr_rowOpen (E:=66) (sz:=2) (v:=.slice ua cs.length uc) (by exact Take.there (.there (.there (.there (.there (.there .here)))))) (by omega) fun ug ucap ucur e hku hxu hzu hlu=>?_
  obtain ⟨rfl,-,rfl⟩:=Value.slice.inj e
  unfold maxLen at hxt0 hxu
  have qs:∀ (ls:List En) (cur:List Value) i,i < ls.length → cellsAt ((spL ls ls.length).flatMap duoV++cur) (i * 2) 2 = [.int .i64 (fr ls i),.int .i64 (to ls i)]:=fun ls cur i hi=>by
    rw [List.flatMap_def]
    exact flat_cellsAt (sz:=2) (fun r hr=>by obtain ⟨x,_,rfl⟩:=List.mem_map.1 hr;rfl) (by rw [List.getElem?_map,spL,List.getElem?_map,List.getElem?_range hi];rfl)
  refine tr_for (ι:=Nat) (fun i=>i ≤ cs.length) (fun i=>[(24,.int .i64 (fA i)),(203,.int .i64 (i:Int)),(202,.int .i64 (cs.length:Int)),(201,.slice (some ⟨ug,0,none⟩) cs.length uc),(7,.int .i64 (gi:Int)),(8,.pointer (some ⟨b8,0,none⟩)),(3,.pointer (some ⟨b3,0,none⟩)),(4,.pointer (some ⟨b4,0,none⟩)),(11,.slice fa o.length fc),(12,.pointer (some ⟨b12,0,none⟩)),(14,.pointer (some ⟨b15,0,none⟩)),(16,.slice (some ⟨tg,0,none⟩) es.length tc),(20,.slice gva (gpL cs cs.length).length gvc),(22,.slice owa (gpL es es.length).length owc)])
    (fun _=>[blk b8 (.cells #[.int .i64 (kk:Int),.int .i64 ff,.int .i64 tt] 170),blk b3 (.cells #[.slice a1 es.length cap1] 24),blk b4 (.cells #[.int .i64 (tt - ff),.slice a2 b.sp.length cap2,cv,xv] 83),blk b12 (.cells #[.int .i64 V1,.int .i64 (tL b.sp o o.length)] 121),blk b15 (.cells #[.slice q15 cs.length p15] 33),row 138 6 (.slice q15 cs.length p15) cs.length (ensL cs).flatten,blk tg (.cells ((spL es es.length).flatMap duoV++tcur).toArray 66),blk ug (.cells ((spL cs cs.length).flatMap duoV++ucur).toArray 66),row 120 3 (.slice gva (gpL cs cs.length).length gvc) (gpL cs cs.length).length ((gpL cs cs.length).flatMap triV)]) (fun i=>cs.length - i) ?_ ?_
  · apply tr_start 0 (show (fun i:Nat=>i ≤ cs.length) 0 from Nat.zero_le _)
    case hs1=>
      rw [hfA0]
      exact .cons rfl (.cons rfl (.cons rfl (.cons rfl (.cons rfl (.cons rfl (.cons rfl (.cons rfl (.cons rfl (.cons rfl (.cons rfl (.cons rfl (.cons rfl (.cons rfl .nil)))))))))))))
    case ht=>exact .cons (.there (.there (.there (.there (.there (.there (.there (.there (.there (.there (.there (.there (.there (.there (.there (.there (.there (.there (.there (.there (.there (.there .here)))))))))))))))))))))) (.cons (.there (.there (.there (.there (.there (.there (.there (.there (.there (.there (.there (.there (.there (.there (.there (.there (.there (.there (.there (.there (.there (.there .here)))))))))))))))))))))) (.cons (.there (.there (.there (.there (.there (.there (.there (.there (.there (.there (.there (.there (.there (.there (.there (.there (.there (.there (.there (.there (.there (.there .here)))))))))))))))))))))) (.cons (.there (.there (.there (.there (.there (.there (.there (.there (.there (.there (.there (.there (.there (.there (.there (.there (.there .here))))))))))))))))) (.cons (.there (.there (.there (.there (.there (.there (.there (.there (.there (.there .here)))))))))) (.cons (.there (.there (.there (.there (.there (.there (.there (.there (.there (.there (.there (.there (.there (.there (.there .here))))))))))))))) (.cons (.there .here) (.cons .here (.cons (.there (.there .here)) .nil))))))))
  rintro i hi
  by_cases hlt:i < cs.length
  · have qu:=qs cs ucur i hlt
    (refine s_r ?_;refine tr_val (rk_lss (.of rfl) (.of rfl)) rfl ?_;refine n_t ?_;refine tr_seq ?_;refine c_d rfl (fun hcd=>?_) (fun _=>by omega);refine s_t ?_;refine tr_seq ?_;refine tr_block ?_;refine s_r ?_;refine m_v rfl rfl ?_;refine tr_val (rk_indexAddr (.of rfl) (.of rfl) rfl (by omega) hcd norm1_) rfl ?_;refine tr_val (rk_loadB (.of rfl) (.there (.there (.there (.there (.there (.there (.there .here))))))) qu rfl) rfl ?_;refine tr_new (rk_alloc rfl) rfl (fun _ _=>?_);refine a_s rfl rfl ?_;refine tr_store (.of rfl) (.of rfl) .here rfl rfl (okc_cons rfl (okc_cons rfl okc_nil)) (lenb rfl) norm_ ?_;refine n_t ?_;refine tr_block ?_;refine s_r ?_;refine m_v rfl rfl ?_;refine f_a rfl rfl norm0_ ?_;refine tr_val (rk_load1 (.of rfl) (At.lit (.there .here) rfl)) rfl ?_;refine tr_val (rk_leq (.of rfl) (.of rfl)) rfl ?_;refine a_s rfl rfl ?_;refine n_t ?_;refine c_d rfl (fun hcd=>?_) (fun hcd=>?_);refine tr_seq ?_;rotate_left;refine s_r ?_;refine m_v rfl rfl ?_;refine f_a rfl rfl norm0_ ?_;refine tr_val (rk_load1 (.of rfl) (At.lit (.there .here) rfl)) rfl ?_;refine m_v rfl rfl ?_;refine tr_val (rk_len_slice (.of rfl)) rfl ?_;refine tr_val (rk_add (.of rfl) (.of rfl) (ini (by omega))) rfl ?_;refine tr_val (rk_gtr (.of rfl) (.of rfl)) rfl ?_;refine a_s rfl rfl ?_;refine n_t ?_;refine c_d rfl (fun hcd=>?_) (fun hcd=>?_);refine tr_seq ?_;rotate_left;refine tr_seq ?_;refine s_r ?_;refine f_a rfl rfl norm0_ ?_;refine tr_val (rk_load1 (.of rfl) (At.lit .here rfl)) rfl ?_;refine m_v rfl rfl ?_;refine tr_val (rk_neq (.of rfl) (.of rfl)) rfl ?_;refine m_v rfl rfl ?_;refine tr_vG1 rfl rfl inferInstance (fun hg hgp=>(rk_fieldAddr (.of rfl) norm0_)) rfl ?_;refine tr_vG1 rfl rfl inferInstance (fun hg hgp=>(rk_load1 (.ofg hg rfl) (At.lit .here rfl))) rfl ?_;refine tr_vG1 rfl rfl inferInstance (fun hg hgp=>(rk_fieldAddr (.of rfl) norm0_)) rfl ?_;refine tr_vG1 rfl rfl inferInstance (fun hg hgp=>(rk_load1 (.ofg hg rfl) (At.lit .here rfl))) rfl ?_;refine tr_vG1 rfl rfl inferInstance (fun hg hgp=>(rk_geq (.ofg hg rfl) (.ofg hg rfl))) rfl ?_;refine tr_val (rk_pick_or (.of rfl) rfl) rfl ?_;refine n_t ?_;refine c_b rfl (fun hcd=>?_) (fun hcd=>?_);refine s_r ?_;refine a_s rfl rfl ?_;refine n_t ?_;refine r_t ?_;refine tr_blk_ret ?_;refine tr_blk_ret ?_;refine tr_then_ret ?_;refine tr_then_ret ?_;refine tr_blk_ret ?_;refine tr_then_ret ?_;refine tr_retE rfl (ends1 rfl rfl) ?_;rotate_left;refine s_t ?_;refine tr_region ?_;refine f_a rfl rfl norm0_ ?_;refine tr_val (rk_load1 (.of rfl) (At.lit .here rfl)) rfl ?_;refine a_s rfl rfl ?_;refine tr_nil ?_;refine tr_blk_normal ?_;refine tr_blk_normal ?_;refine tr_then ?_;refine tr_region ?_;refine tr_val (rk_add (.of rfl) (.of rfl) (ini (by omega))) rfl ?_;refine m_v rfl rfl ?_;refine n_t ?_;rotate_right;rotate_right;rotate_right)
    · have hxt:=Fbef i (by omega)
      have qt:=qs es tcur i (by omega)
      have e24:fA i = fA (i + 1):=by rw [hfA,hfA,show min (i - (kk + 1)) o.length = 0 by omega,show min (i + 1 - (kk + 1)) o.length = 0 by omega]
      with_reducible refine tr_draw 6 (by kernel_rfl) ?_
      (refine any_val (rk_loadB (.of rfl) .here norm_ (by rfl)) rfl ?_;refine a_m rfl rfl ?_;refine a_m rfl rfl ?_;refine any_val (rk_indexAddr (.of rfl) (.of rfl) rfl (by omega) (by omega) norm1_) rfl ?_;refine any_val (rk_loadB (.of rfl) (.there (.there (.there (.there (.there (.there (.there .here))))))) qt rfl) rfl ?_;refine any_val (rk_neqAF (.of rfl) (.of rfl) rfl hxt) rfl ?_)
      with_reducible refine any_end ?_
      (refine n_t ?_;refine tr_cond_f (.of rfl) ?_;refine tr_skip ?_;refine tr_blk_normal ?_;refine tr_blk_normal ?_;refine tr_then ?_;refine tr_region ?_;refine tr_val (rk_add (.of rfl) (.of rfl) (ini (by omega))) rfl ?_;refine m_v rfl rfl ?_;refine n_t ?_)
      rw [e24]
      apply tr_next (i + 1) (show (fun i:Nat=>i ≤ cs.length) (i + 1) from hlt) (by show cs.length - (i + 1) < cs.length - i;omega)
      case hs1=>exact .cons rfl (.cons rfl (.cons rfl (.cons rfl (.cons rfl (.cons rfl (.cons rfl (.cons rfl (.cons rfl (.cons rfl (.cons rfl (.cons rfl (.cons rfl (.cons rfl .nil)))))))))))))
      case ht=>exact .cons (.there .here) (.cons (.there .here) (.cons (.there .here) (.cons (.there .here) (.cons (.there .here) (.cons (.there .here) (.cons (.there .here) (.cons (.there .here) (.cons (.there .here) .nil))))))))
    · have hxt:=Faft i (by omega) hlt
      have qt:cellsAt ((spL es es.length).flatMap duoV++tcur) (((i:Int) - (o.length:Int)).toNat * 2) 2 = [.int .i64 (fr es (i - o.length)),.int .i64 (to es (i - o.length))]:=by
        rw [show ((i:Int) - (o.length:Int)).toNat = i - o.length by omega]
        exact qs es tcur _ (by omega)
      have e24:fA i = fA (i + 1):=by rw [hfA,hfA,show min (i - (kk + 1)) o.length = o.length by omega,show min (i + 1 - (kk + 1)) o.length = o.length by omega]
      with_reducible refine tr_draw 9 (by kernel_rfl) ?_
      (refine any_val (rk_loadB (.of rfl) .here norm_ (by rfl)) rfl ?_;refine a_m rfl rfl ?_;refine a_m rfl rfl ?_;refine a_m rfl rfl ?_;refine any_val (rk_len_slice (.of rfl)) rfl ?_;refine any_val (rk_sub (.of rfl) (.of rfl) (ini (by omega))) rfl ?_;refine any_val (rk_indexAddr (.of rfl) (.of rfl) rfl (by omega) (by omega) norm1_) rfl ?_;refine any_val (rk_loadB (.of rfl) (.there (.there (.there (.there (.there (.there (.there .here))))))) qt rfl) rfl ?_;refine any_val (rk_neqAF (.of rfl) (.of rfl) rfl hxt) rfl ?_)
      with_reducible refine any_end ?_
      (refine n_t ?_;refine tr_cond_f (.of rfl) ?_;refine tr_skip ?_;refine tr_blk_normal ?_;refine tr_blk_normal ?_;refine tr_then ?_;refine tr_region ?_;refine tr_val (rk_add (.of rfl) (.of rfl) (ini (by omega))) rfl ?_;refine m_v rfl rfl ?_;refine n_t ?_)
      rw [e24]
      apply tr_next (i + 1) (show (fun i:Nat=>i ≤ cs.length) (i + 1) from hlt) (by show cs.length - (i + 1) < cs.length - i;omega)
      case hs1=>exact .cons rfl (.cons rfl (.cons rfl (.cons rfl (.cons rfl (.cons rfl (.cons rfl (.cons rfl (.cons rfl (.cons rfl (.cons rfl (.cons rfl (.cons rfl (.cons rfl .nil)))))))))))))
      case ht=>exact .cons (.there .here) (.cons (.there .here) (.cons (.there .here) (.cons (.there .here) (.cons (.there .here) (.cons (.there .here) (.cons (.there .here) (.cons (.there .here) (.cons (.there .here) .nil))))))))
    · exfalso
      have hw:=Fwth (i - (kk + 1)) (by omega)
      rw [show kk + 1 + (i - (kk + 1)) = i by omega] at hw
      have e0:fA i = ff + tL b.sp o (i - (kk + 1)):=by rw [hfA,show min (i - (kk + 1)) o.length = i - (kk + 1) by omega]
      omega
    · have hw:=Fwth (i - (kk + 1)) (by omega)
      rw [show kk + 1 + (i - (kk + 1)) = i by omega] at hw
      have e24:to cs i = fA (i + 1):=by rw [hfA,show min (i + 1 - (kk + 1)) o.length = i - (kk + 1) + 1 by omega];exact hw.2.1
      rw [e24]
      apply tr_next (i + 1) (show (fun i:Nat=>i ≤ cs.length) (i + 1) from hlt) (by show cs.length - (i + 1) < cs.length - i;omega)
      case hs1=>exact .cons rfl (.cons rfl (.cons rfl (.cons rfl (.cons rfl (.cons rfl (.cons rfl (.cons rfl (.cons rfl (.cons rfl (.cons rfl (.cons rfl (.cons rfl (.cons rfl .nil)))))))))))))
      case ht=>exact .cons (.there .here) (.cons (.there .here) (.cons (.there .here) (.cons (.there .here) (.cons (.there .here) (.cons (.there .here) (.cons (.there .here) (.cons (.there .here) (.cons (.there .here) .nil))))))))
  obtain rfl:i = cs.length:=by omega
  rw [hfAe]
  have hch:(o.length = 0 ∧ chX es cs = (0,0,7)) ∨ (0 < o.length ∧ chX es cs = (ff,ff + tL b.sp o o.length,0)):=by
    by_cases e:o.length = 0
    · exact .inl ⟨e,F.ch0 e⟩
    · exact .inr ⟨by omega,F.ch1 (by omega)⟩
  have hCh:∀ (v1 v2:Value) w',Keeps [] w w' → Rd w' v1 6 (ensL es) → Rd w' v2 6 (ensL cs) → GivesV Tryz.prog 92 [.agg #[v1],.agg #[v2]] w' (.tuple #[.agg #[.int .i64 (chX es cs).1,.int .i64 (chX es cs).2.1],.int .i64 (chX es cs).2.2]):=fun v1 v2 w' hk r1 r2=>changedV_c r1 r2 (hG.keeps hk)
  generalize chX es cs = X at hch hCh
  obtain ⟨p,q,er⟩:=X
  dsimp only at hch hCh
  have hxt:ff = ff ∧ ff + tL b.sp o o.length = ff + tL b.sp o o.length:=⟨rfl,rfl⟩
  by_cases hful:tL b.sp o o.length = tt - ff
  · rw [if_pos hful] at Fgps
    have hlss:¬ tL b.sp o o.length < tt - ff:=by omega
    (refine s_r ?_;refine tr_val (rk_lss (.of rfl) (.of rfl)) rfl ?_;refine n_t ?_;refine tr_seq ?_;refine c_d rfl (fun _=>by omega) (fun hcd=>?_);refine x_t ?_;refine tr_then_exit ?_;refine tr_blk_exit ?_;refine tr_then ?_;refine tr_seq ?_;refine s_r ?_;refine m_v rfl rfl ?_;refine f_a rfl rfl norm0_ ?_;refine f_a rfl rfl norm0_ ?_;refine tr_val (rk_load1 (.of rfl) (At.lit .here rfl)) rfl ?_;refine tr_val (rk_sub (.of rfl) (.of rfl) (ini (by omega))) rfl ?_;refine tr_val (rk_indexAddrA (.of rfl) (.of rfl) (by omega) (by omega) norm1_) rfl ?_;refine tr_val (rk_load1 (.of rfl) (At.lit (.there (.there (.there .here))) rfl)) rfl ?_;refine tr_val (rk_neq (.of rfl) (.of rfl)) rfl ?_;refine n_t ?_;refine c_d rfl (fun _=>by omega) (fun hcd=>?_);refine s_t ?_;refine s_r ?_;refine m_v rfl rfl ?_;refine tr_val (rk_len_slice (.of rfl)) rfl ?_;refine a_s rfl rfl ?_;refine n_t ?_;refine tr_seq ?_;refine s_r ?_;refine tr_val (rk_indexAddrA (.of rfl) (.of rfl) (by omega) (by omega) norm1_) rfl ?_;refine tr_val (rk_load1 (.of rfl) (At.lit (.there (.there (.there .here))) rfl)) rfl ?_;refine f_a rfl rfl norm0_ ?_;refine tr_val (rk_load1 (.of rfl) (At.lit (.there (.there .here)) rfl)) rfl ?_;refine tr_val (rk_eql (.of rfl) (.of rfl)) rfl ?_;refine n_t ?_;refine c_d rfl (fun hcd=>?_) (fun _=>by omega);refine tr_region ?_;refine m_v rfl rfl ?_;refine tr_val (rk_sub (.of rfl) (.of rfl) (ini (by omega))) rfl ?_;refine a_s rfl rfl ?_;refine n_t ?_;refine tr_seq ?_;refine s_r ?_;refine m_v rfl rfl ?_;refine tr_val (rk_len_slice (.of rfl)) rfl ?_;refine m_v rfl rfl ?_;refine tr_val (rk_neq (.of rfl) (.of rfl)) rfl ?_;refine n_t ?_;refine c_d rfl (fun _=>by omega) (fun hcd=>?_);refine s_t ?_;refine tr_seq ?_;refine tr_seq ?_)
    with_reducible refine tr_drawM 18 (by kernel_rfl) ?_
    (refine am_val (fun β=>(rk_indexAddrA (.of rfl) (.of rfl) (by omega) (by omega) norm1_)) ind0x rfl ?_;refine am_val (fun β=>(rk_load1 (.of rfl) (At.lit (.there (.there (.there .here))) rfl))) ind0x rfl ?_;refine am_val (fun β=>(rk_fieldAddr (.of rfl) norm0_)) ind0x rfl ?_;refine am_val (fun β=>(rk_load1 (.of rfl) (At.lit (.there (.there .here)) rfl))) ind0x rfl ?_;refine am_val (fun β=>(rk_lssF (.of rfl) (.of rfl) hlss)) ind0x rfl ?_;refine am_val (fun β=>(rk_move (.of rfl))) ind0x rfl ?_;refine am_gOff rfl (fun _=>rfl) (Or.inr rfl) rfl ?_;refine am_gOff rfl (fun _=>rfl) (Or.inr rfl) rfl ?_;refine am_gOff rfl (fun _=>rfl) (Or.inr rfl) rfl ?_;refine am_gOff rfl (fun _=>rfl) (Or.inr rfl) rfl ?_;refine am_gOff rfl (fun _=>rfl) (Or.inr rfl) rfl ?_;refine am_gOff rfl (fun _=>rfl) (Or.inr rfl) rfl ?_;refine am_gOff rfl (fun _=>rfl) (Or.inr rfl) rfl ?_;refine am_gOff rfl (fun _=>rfl) (Or.inr rfl) rfl ?_;refine am_gOff rfl (fun _=>rfl) (Or.inr rfl) rfl ?_;refine am_gOff rfl (fun _=>rfl) (Or.inr rfl) rfl ?_;refine am_gOff rfl (fun _=>rfl) (Or.inr rfl) rfl ?_;refine am_val (fun β=>(rk_pickB (.of rfl) (.of rfl) (.of rfl) rfl)) ind0x rfl ?_)
    dsimp only [Nat.zero_add,Nat.reduceAdd]
    refine am_end fun β=>?_
    dsimp only [resAll,List.nil_append,List.cons_append,List.append_eq,Nat.reduceAdd]
    with_reducible refine left_done (by kernel_rfl) ?_
    (refine tr_then ?_;refine tr_cond_f (.of rfl) ?_;refine s_t ?_;refine tr_seq ?_)
    with_reducible refine tr_drawP 10 8 (by kernel_rfl) (pure_at rfl (by kernel_rfl) (by kernel_rfl)) ?_
    refine am_val (fun β=>(rk_loadB (.of rfl) (.there .here) norm_ (by rfl))) ind0x rfl ?_
    dsimp only [Nat.zero_add,Nat.reduceAdd]
    with_reducible apply am_call (ι:=Value) (Φ:=fun _=>True) (val:=fun v=>.agg #[v]) (own:=fun v=>[row 138 6 v es.length (enR es es.length)]) (g:=id) (B:=[]) (args:=fun β=>[.agg #[.slice a1 es.length cap1]])
    case hg=>exact fun x=>⟨x,rfl⟩
    case hB=>first | rfl | kernel_rfl
    case hr=>exact fun β=>rk_call (.of rfl) (.cons (.of rfl) .nil) inferInstance rfl
    case hd=>rfl
    case hc=>exact fun β w' hb=>hOw _ es w' hfe (h1.keeps hb.mem.keeps)
    dsimp only [id_eq,Nat.reduceAdd]
    refine am_val (fun β=>(rk_loadB (.of rfl) (.there (.there (.there (.there .here)))) norm_ (by rfl))) ind0x rfl ?_
    dsimp only [Nat.reduceAdd]
    with_reducible apply am_call (ι:=Value) (Φ:=fun _=>True) (val:=fun v=>.agg #[v]) (own:=fun v=>[row 115 6 v cs.length (enR cs cs.length)]) (g:=id) (B:=[]) (args:=fun β=>[.agg #[.slice q15 cs.length p15]])
    case hg=>exact fun x=>⟨x,rfl⟩
    case hB=>first | rfl | kernel_rfl
    case hr=>exact fun β=>rk_call (.of rfl) (.cons (.of rfl) .nil) inferInstance rfl
    case hd=>rfl
    case hc=>exact fun β w' hb=>told_c (rdEnF (v:=.slice q15 cs.length p15) hb.mem (by exact Take.there (.there (.there (.there (.there .here))))) rfl) hoc
    dsimp only [id_eq,Nat.reduceAdd]
    with_reducible apply am_call (ι:=Value) (Φ:=fun _=>True) (val:=fun v=>.agg #[v]) (own:=fun v=>[row 138 6 v cs.length (enR cs cs.length)]) (g:=id) (B:=[3]) (args:=fun β=>[.agg #[β 3]])
    case hg=>exact fun x=>⟨x,rfl⟩
    case hB=>first | rfl | kernel_rfl
    case hr=>exact fun β=>rk_call (.of rfl) (.cons (.of rfl) .nil) inferInstance rfl
    case hd=>rfl
    case hc=>
      intro β w' hb
      have m3:=hb.at 3 (by simp) (s:=⟨fun β=>.agg #[β 3],fun β=>[row 115 6 (β 3) cs.length (enR cs cs.length)]⟩) (by kernel_rfl)
      dsimp only [List.cons_append,List.nil_append] at m3
      exact hOw _ _ w' hoc (rdEn m3 (by exact .here))
    dsimp only [id_eq,Nat.reduceAdd]
    with_reducible apply am_callV (B:=[1,4]) (F:=fun _=>.tuple #[.agg #[.int .i64 p,.int .i64 q],.int .i64 er]) (args:=fun β=>[.agg #[β 1],.agg #[β 4]])
    case hB=>kernel_rfl
    case hr=>exact fun β=>rk_call (.of rfl) (.cons (.of rfl) (.cons (.of rfl) .nil)) inferInstance rfl
    case hi=>exact ind0x
    case hd=>rfl
    case hc=>
      intro β w' hb
      have m1:=hb.at 1 (by simp) (s:=⟨fun β=>.agg #[β 1],fun β=>[row 138 6 (β 1) es.length (enR es es.length)]⟩) (by kernel_rfl)
      dsimp only [List.cons_append,List.nil_append] at m1
      have m4:=hb.at 4 (by simp) (s:=⟨fun β=>.agg #[β 4],fun β=>[row 138 6 (β 4) cs.length (enR cs cs.length)]⟩) (by kernel_rfl)
      dsimp only [List.cons_append,List.nil_append] at m4
      exact hCh _ _ w' hb.mem.keeps (rdEn m1 (by exact .here)) (rdEn m4 (by exact .here))
    (refine am_val (fun β=>(rk_move (.of rfl))) ind0x rfl ?_;refine am_val (fun β=>(rk_extract (.of rfl) rfl)) ind0x rfl ?_;refine am_val (fun β=>(rk_extract (.of rfl) rfl)) ind0x rfl ?_)
    dsimp only [Nat.reduceAdd]
    refine am_new (fun β=>(rk_alloc rfl)) (fun _ _ _=>rfl) rfl ?_
    refine am_end fun β=>?_
    dsimp only [resAll,List.nil_append,List.cons_append,List.append_eq,Nat.reduceAdd]
    refine left_ready (rs:=[10]) (by kernel_rfl) (by simp) (List.forall_mem_cons.2 ⟨?_,fun _ h=>absurd h List.not_mem_nil⟩)
    refine next_step rfl ?_
    (refine tr_store (.of rfl) (.of rfl) (.there (.there (.there .here))) rfl rfl (okc_cons rfl (okc_cons rfl okc_nil)) (lenb rfl) norm_ ?_;refine n_t ?_)
    refine left_ready (rs:=[11]) (by kernel_rfl) (by simp) (List.forall_mem_cons.2 ⟨?_,fun _ h=>absurd h List.not_mem_nil⟩)
    refine next_step rfl ?_
    (refine a_s rfl rfl ?_;refine n_t ?_)
    with_reducible refine left_done (by kernel_rfl) ?_
    rcases hch with ⟨h0,e⟩ | ⟨h0,e⟩
    · cases e
      (refine tr_then ?_;refine tr_seq ?_;refine s_r ?_;refine m_v rfl rfl ?_;refine tr_val (rk_len_slice (.of rfl)) rfl ?_;refine tr_val (rk_eql (.of rfl) (.of rfl)) rfl ?_;refine n_t ?_;refine c_d rfl (fun hcd=>?_) (fun _=>by omega);refine s_r ?_;refine m_v rfl rfl ?_;refine tr_val (rk_eql (.of rfl) (.of rfl)) rfl ?_;refine a_s rfl rfl ?_;refine n_t ?_;refine r_t ?_;refine tr_retE rfl (ends1 rfl rfl) ?_)
      all_goals rfl
    · cases e
      (refine tr_then ?_;refine tr_seq ?_;refine s_r ?_;refine m_v rfl rfl ?_;refine tr_val (rk_len_slice (.of rfl)) rfl ?_;refine tr_val (rk_eql (.of rfl) (.of rfl)) rfl ?_;refine n_t ?_;refine c_d rfl (fun _=>by omega) (fun hcd=>?_);refine s_t ?_;refine s_r ?_;refine m_v rfl rfl ?_;refine tr_val (rk_eql (.of rfl) (.of rfl)) rfl ?_;refine m_v rfl rfl ?_;refine tr_vG1 rfl rfl inferInstance (fun hg hgp=>(rk_loadB (.of rfl) .here norm_ (by rfl))) rfl ?_;refine tr_vG1 rfl rfl inferInstance (fun hg hgp=>(rk_fieldAddr (.of rfl) norm0_)) rfl ?_;refine tr_vG1 rfl rfl inferInstance (fun hg hgp=>(rk_fieldAddr (.ofg hg rfl) norm0_)) rfl ?_;refine tr_vG1 rfl rfl inferInstance (fun hg hgp=>(rk_load1 (.ofg hg rfl) (At.lit (.there (.there (.there (.there .here)))) rfl))) rfl ?_;refine v_g rfl rfl rfl rfl ?_;refine tr_vG1 rfl rfl inferInstance (fun hg hgp=>(rk_buildL (.cons (.ofg hg rfl) (.cons (.ofg hg rfl) .nil)) norm_)) rfl ?_;refine tr_vG1 rfl rfl inferInstance (fun hg hgp=>(rk_eqlA (.ofg hg rfl) (.ofg hg rfl) (okL_int (okL_int okL_nil)) rfl)) rfl ?_;refine tr_val (rk_pick_and (.of rfl) rfl) rfl ?_;refine a_s rfl rfl ?_;refine n_t ?_;refine tr_ret ?_;refine tr_retE rfl (ends1 rfl rfl) ?_)
      skip
      all_goals simp
  · rw [if_neg hful] at Fgps
    have hlss:tL b.sp o o.length < tt - ff:=by omega
    have hgq:=Frst hlss
    have hgi2:=(List.getElem?_eq_some_iff.1 hgq).1
    (refine s_r ?_;refine tr_val (rk_lss (.of rfl) (.of rfl)) rfl ?_;refine n_t ?_;refine tr_seq ?_;refine c_d rfl (fun _=>by omega) (fun hcd=>?_);refine x_t ?_;refine tr_then_exit ?_;refine tr_blk_exit ?_;refine tr_then ?_;refine tr_seq ?_;refine s_r ?_;refine m_v rfl rfl ?_;refine f_a rfl rfl norm0_ ?_;refine f_a rfl rfl norm0_ ?_;refine tr_val (rk_load1 (.of rfl) (At.lit .here rfl)) rfl ?_;refine tr_val (rk_sub (.of rfl) (.of rfl) (ini (by omega))) rfl ?_;refine tr_val (rk_indexAddrA (.of rfl) (.of rfl) (by omega) (by omega) norm1_) rfl ?_;refine tr_val (rk_load1 (.of rfl) (At.lit (.there (.there (.there .here))) rfl)) rfl ?_;refine tr_val (rk_neq (.of rfl) (.of rfl)) rfl ?_;refine n_t ?_;refine c_d rfl (fun _=>by omega) (fun hcd=>?_);refine s_t ?_;refine s_r ?_;refine m_v rfl rfl ?_;refine tr_val (rk_len_slice (.of rfl)) rfl ?_;refine a_s rfl rfl ?_;refine n_t ?_;refine tr_seq ?_;refine s_r ?_;refine tr_val (rk_indexAddrA (.of rfl) (.of rfl) (by omega) (by omega) norm1_) rfl ?_;refine tr_val (rk_load1 (.of rfl) (At.lit (.there (.there (.there .here))) rfl)) rfl ?_;refine f_a rfl rfl norm0_ ?_;refine tr_val (rk_load1 (.of rfl) (At.lit (.there (.there .here)) rfl)) rfl ?_;refine tr_val (rk_eql (.of rfl) (.of rfl)) rfl ?_;refine n_t ?_;refine c_d rfl (fun _=>by omega) (fun hcd=>?_);refine s_t ?_;refine tr_seq ?_;refine s_r ?_;refine m_v rfl rfl ?_;refine tr_val (rk_len_slice (.of rfl)) rfl ?_;refine m_v rfl rfl ?_;refine tr_val (rk_neq (.of rfl) (.of rfl)) rfl ?_;refine n_t ?_;refine c_d rfl (fun _=>by omega) (fun hcd=>?_);refine s_t ?_;refine tr_seq ?_;refine tr_seq ?_)
    refine tr_rowOpen (E:=120) (sz:=3) (v:=.slice gva (gpL cs cs.length).length gvc) (by exact Take.there (.there (.there (.there (.there (.there (.there (.there .here)))))))) (by omega) fun tq qcap qcur e hkq hxq hzq hlq=>?_
    obtain ⟨rfl,-,rfl⟩:=Value.slice.inj e
    unfold maxLen at hxq
    have q1:cellsAt ((gpL cs cs.length).flatMap triV++qcur) (gi * 3) 3 = [.int .i64 ((kk + o.length:Nat):Int),.int .i64 (ff + tL b.sp o o.length),.int .i64 tt]:=by
      rw [trisL_flat]
      exact flat_cellsAt (trisL_sz _) (by rw [trisL,List.getElem?_map,hgq];rfl)
    have q2:=cells_tail q1
    have hxt:ff + tL b.sp o o.length = ff + tL b.sp o o.length ∧ tt = tt:=⟨rfl,rfl⟩
    with_reducible refine tr_drawM 18 (by kernel_rfl) ?_
    (refine am_val (fun β=>(rk_indexAddrA (.of rfl) (.of rfl) (by omega) (by omega) norm1_)) ind0x rfl ?_;refine am_val (fun β=>(rk_load1 (.of rfl) (At.lit (.there (.there (.there (.there .here)))) rfl))) ind0x rfl ?_;refine am_val (fun β=>(rk_fieldAddr (.of rfl) norm0_)) ind0x rfl ?_;refine am_val (fun β=>(rk_load1 (.of rfl) (At.lit (.there (.there (.there .here))) rfl))) ind0x rfl ?_;refine am_val (fun β=>(rk_lssT (.of rfl) (.of rfl) hlss)) ind0x rfl ?_;refine am_val (fun β=>(rk_move (.of rfl))) ind0x rfl ?_;refine am_gOn rfl (fun _=>rfl) ?_;refine am_val (fun β=>(rk_move (.of rfl))) ind0x rfl ?_;refine am_gOn rfl (fun _=>rfl) ?_;refine am_val (fun β=>(rk_move (.of rfl))) ind0x rfl ?_;refine am_gOn rfl (fun _=>rfl) ?_;refine am_val (fun β=>(rk_indexAddr (.of rfl) (.of rfl) rfl (by omega) (by omega) norm1_)) ind0x rfl ?_;refine am_gOn rfl (fun _=>rfl) ?_;refine am_val (fun β=>(rk_fieldAddr (.of rfl) norm0_)) ind0x rfl ?_;refine am_gOn rfl (fun _=>rfl) ?_;refine am_val (fun β=>(rk_loadB (.of rfl) .here q2 rfl)) ind0x rfl ?_;refine am_gOn rfl (fun _=>rfl) ?_;refine am_val (fun β=>(rk_move (.of rfl))) ind0x rfl ?_;refine am_gOn rfl (fun _=>rfl) ?_;refine am_val (fun β=>(rk_fieldAddr (.of rfl) norm0_)) ind0x rfl ?_;refine am_gOn rfl (fun _=>rfl) ?_;refine am_val (fun β=>(rk_fieldAddr (.of rfl) norm0_)) ind0x rfl ?_;refine am_gOn rfl (fun _=>rfl) ?_;refine am_val (fun β=>(rk_load1 (.of rfl) (At.lit (.there .here) rfl))) ind0x rfl ?_;refine am_gOn rfl (fun _=>rfl) ?_;refine am_val (fun β=>(rk_buildL (.cons (.of rfl) (.cons (.of rfl) .nil)) norm_)) ind0x rfl ?_;refine am_gOn rfl (fun _=>rfl) ?_;refine am_val (fun β=>(rk_neqAF (.of rfl) (.of rfl) rfl hxt)) ind0x rfl ?_;refine am_val (fun β=>(rk_pickB (.of rfl) (.of rfl) (.of rfl) rfl)) ind0x rfl ?_)
    dsimp only [Nat.zero_add,Nat.reduceAdd]
    have hxt:ff = ff ∧ ff + tL b.sp o o.length = ff + tL b.sp o o.length:=⟨rfl,rfl⟩
    refine am_end fun β=>?_
    dsimp only [resAll,List.nil_append,List.cons_append,List.append_eq,Nat.reduceAdd]
    with_reducible refine left_done (by kernel_rfl) ?_
    (refine tr_then ?_;refine tr_cond_f (.of rfl) ?_;refine s_t ?_;refine tr_seq ?_)
    with_reducible refine tr_drawP 10 8 (by kernel_rfl) (pure_at rfl (by kernel_rfl) (by kernel_rfl)) ?_
    refine am_val (fun β=>(rk_loadB (.of rfl) (.there (.there .here)) norm_ (by rfl))) ind0x rfl ?_
    dsimp only [Nat.zero_add,Nat.reduceAdd]
    with_reducible apply am_call (ι:=Value) (Φ:=fun _=>True) (val:=fun v=>.agg #[v]) (own:=fun v=>[row 138 6 v es.length (enR es es.length)]) (g:=id) (B:=[]) (args:=fun β=>[.agg #[.slice a1 es.length cap1]])
    case hg=>exact fun x=>⟨x,rfl⟩
    case hB=>first | rfl | kernel_rfl
    case hr=>exact fun β=>rk_call (.of rfl) (.cons (.of rfl) .nil) inferInstance rfl
    case hd=>rfl
    case hc=>exact fun β w' hb=>hOw _ es w' hfe (h1.keeps hb.mem.keeps)
    dsimp only [id_eq,Nat.reduceAdd]
    refine am_val (fun β=>(rk_loadB (.of rfl) (.there (.there (.there (.there (.there .here))))) norm_ (by rfl))) ind0x rfl ?_
    dsimp only [Nat.reduceAdd]
    with_reducible apply am_call (ι:=Value) (Φ:=fun _=>True) (val:=fun v=>.agg #[v]) (own:=fun v=>[row 115 6 v cs.length (enR cs cs.length)]) (g:=id) (B:=[]) (args:=fun β=>[.agg #[.slice q15 cs.length p15]])
    case hg=>exact fun x=>⟨x,rfl⟩
    case hB=>first | rfl | kernel_rfl
    case hr=>exact fun β=>rk_call (.of rfl) (.cons (.of rfl) .nil) inferInstance rfl
    case hd=>rfl
    case hc=>exact fun β w' hb=>told_c (rdEnF (v:=.slice q15 cs.length p15) hb.mem (by exact Take.there (.there (.there (.there (.there (.there .here)))))) rfl) hoc
    dsimp only [id_eq,Nat.reduceAdd]
    with_reducible apply am_call (ι:=Value) (Φ:=fun _=>True) (val:=fun v=>.agg #[v]) (own:=fun v=>[row 138 6 v cs.length (enR cs cs.length)]) (g:=id) (B:=[3]) (args:=fun β=>[.agg #[β 3]])
    case hg=>exact fun x=>⟨x,rfl⟩
    case hB=>first | rfl | kernel_rfl
    case hr=>exact fun β=>rk_call (.of rfl) (.cons (.of rfl) .nil) inferInstance rfl
    case hd=>rfl
    case hc=>
      intro β w' hb
      have m3:=hb.at 3 (by simp) (s:=⟨fun β=>.agg #[β 3],fun β=>[row 115 6 (β 3) cs.length (enR cs cs.length)]⟩) (by kernel_rfl)
      dsimp only [List.cons_append,List.nil_append] at m3
      exact hOw _ _ w' hoc (rdEn m3 (by exact .here))
    dsimp only [id_eq,Nat.reduceAdd]
    with_reducible apply am_callV (B:=[1,4]) (F:=fun _=>.tuple #[.agg #[.int .i64 p,.int .i64 q],.int .i64 er]) (args:=fun β=>[.agg #[β 1],.agg #[β 4]])
    case hB=>kernel_rfl
    case hr=>exact fun β=>rk_call (.of rfl) (.cons (.of rfl) (.cons (.of rfl) .nil)) inferInstance rfl
    case hi=>exact ind0x
    case hd=>rfl
    case hc=>
      intro β w' hb
      have m1:=hb.at 1 (by simp) (s:=⟨fun β=>.agg #[β 1],fun β=>[row 138 6 (β 1) es.length (enR es es.length)]⟩) (by kernel_rfl)
      dsimp only [List.cons_append,List.nil_append] at m1
      have m4:=hb.at 4 (by simp) (s:=⟨fun β=>.agg #[β 4],fun β=>[row 138 6 (β 4) cs.length (enR cs cs.length)]⟩) (by kernel_rfl)
      dsimp only [List.cons_append,List.nil_append] at m4
      exact hCh _ _ w' hb.mem.keeps (rdEn m1 (by exact .here)) (rdEn m4 (by exact .here))
    (refine am_val (fun β=>(rk_move (.of rfl))) ind0x rfl ?_;refine am_val (fun β=>(rk_extract (.of rfl) rfl)) ind0x rfl ?_;refine am_val (fun β=>(rk_extract (.of rfl) rfl)) ind0x rfl ?_)
    dsimp only [Nat.reduceAdd]
    refine am_new (fun β=>(rk_alloc rfl)) (fun _ _ _=>rfl) rfl ?_
    refine am_end fun β=>?_
    dsimp only [resAll,List.nil_append,List.cons_append,List.append_eq,Nat.reduceAdd]
    refine left_ready (rs:=[10]) (by kernel_rfl) (by simp) (List.forall_mem_cons.2 ⟨?_,fun _ h=>absurd h List.not_mem_nil⟩)
    refine next_step rfl ?_
    (refine tr_store (.of rfl) (.of rfl) (.there (.there (.there .here))) rfl rfl (okc_cons rfl (okc_cons rfl okc_nil)) (lenb rfl) norm_ ?_;refine n_t ?_)
    refine left_ready (rs:=[11]) (by kernel_rfl) (by simp) (List.forall_mem_cons.2 ⟨?_,fun _ h=>absurd h List.not_mem_nil⟩)
    refine next_step rfl ?_
    (refine a_s rfl rfl ?_;refine n_t ?_)
    with_reducible refine left_done (by kernel_rfl) ?_
    rcases hch with ⟨h0,e⟩ | ⟨h0,e⟩
    · cases e
      (refine tr_then ?_;refine tr_seq ?_;refine s_r ?_;refine m_v rfl rfl ?_;refine tr_val (rk_len_slice (.of rfl)) rfl ?_;refine tr_val (rk_eql (.of rfl) (.of rfl)) rfl ?_;refine n_t ?_;refine c_d rfl (fun hcd=>?_) (fun _=>by omega);refine s_r ?_;refine m_v rfl rfl ?_;refine tr_val (rk_eql (.of rfl) (.of rfl)) rfl ?_;refine a_s rfl rfl ?_;refine n_t ?_;refine r_t ?_;refine tr_retE rfl (ends1 rfl rfl) ?_)
      all_goals rfl
    · cases e
      (refine tr_then ?_;refine tr_seq ?_;refine s_r ?_;refine m_v rfl rfl ?_;refine tr_val (rk_len_slice (.of rfl)) rfl ?_;refine tr_val (rk_eql (.of rfl) (.of rfl)) rfl ?_;refine n_t ?_;refine c_d rfl (fun _=>by omega) (fun hcd=>?_);refine s_t ?_;refine s_r ?_;refine m_v rfl rfl ?_;refine tr_val (rk_eql (.of rfl) (.of rfl)) rfl ?_;refine m_v rfl rfl ?_;refine tr_vG1 rfl rfl inferInstance (fun hg hgp=>(rk_loadB (.of rfl) .here norm_ (by rfl))) rfl ?_;refine tr_vG1 rfl rfl inferInstance (fun hg hgp=>(rk_fieldAddr (.of rfl) norm0_)) rfl ?_;refine tr_vG1 rfl rfl inferInstance (fun hg hgp=>(rk_fieldAddr (.ofg hg rfl) norm0_)) rfl ?_;refine tr_vG1 rfl rfl inferInstance (fun hg hgp=>(rk_load1 (.ofg hg rfl) (At.lit (.there (.there (.there (.there (.there .here))))) rfl))) rfl ?_;refine v_g rfl rfl rfl rfl ?_;refine tr_vG1 rfl rfl inferInstance (fun hg hgp=>(rk_buildL (.cons (.ofg hg rfl) (.cons (.ofg hg rfl) .nil)) norm_)) rfl ?_;refine tr_vG1 rfl rfl inferInstance (fun hg hgp=>(rk_eqlA (.ofg hg rfl) (.ofg hg rfl) (okL_int (okL_int okL_nil)) rfl)) rfl ?_;refine tr_val (rk_pick_and (.of rfl) rfl) rfl ?_;refine a_s rfl rfl ?_;refine n_t ?_;refine tr_ret ?_;refine tr_retE rfl (ends1 rfl rfl) ?_)
      skip
      all_goals simp
end Go.Proofs.A1
