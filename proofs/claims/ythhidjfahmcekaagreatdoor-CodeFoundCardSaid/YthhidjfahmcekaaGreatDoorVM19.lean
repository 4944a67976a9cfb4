/- Parts of the proof: U3C U3D U3E GkPool U3F U39 U37 U3A U3G U31 U32. -/
import Derived.Test.YthhidjfahmcekaaGreatDoorVM18
import Derived.Test.YthhidjfahmcekaaGreatDoorVM06
import Derived.Test.YthhidjfahmcekaaGreatDoorVM13
import Derived.Test.YthhidjfahmcekaaGreatDoorVM11
import Derived.Test.YthhidjfahmcekaaGreatDoorVM05
set_option linter.unusedSectionVars false
set_option linter.unusedVariables false
set_option linter.unusedSimpArgs false
namespace Go.Proofs.A1
open Go Go.SL
instance decRt:DecidableEq Rt:=fun a b=>decidable_of_iff (a.fr = b.fr ∧ a.dr = b.dr) (by cases a;cases b;simp)
instance decLb:DecidableEq Lb:=fun a b=>decidable_of_iff (a.h = b.h ∧ a.m = b.m ∧ a.s = b.s ∧ a.f = b.f) (by cases a;cases b;simp)
instance decStm:DecidableEq Stm:=fun a b=>decidable_of_iff (a.ra = b.ra ∧ a.la = b.la ∧ a.us = b.us) (by cases a;cases b;simp)
theorem sameS_t {v1 v2:Value} {l m:List Stm} {w:World} (h1:Rd w v1 7 (stms l)) (h2:Rd w v2 7 (stms m)) :
    GivesV Tryz.prog 79 [v1,v2] w (.bool (decide (l = m))):=by
  obtain ⟨a1,cp1,b1,o1,rfl,hcap1,hmax1,ha1,hc1⟩:=h1
  obtain ⟨a2,cp2,b2,o2,rfl,hcap2,hmax2,ha2,hc2⟩:=h2
  rw [stms_length] at *
  rw [stms_length] at *
  unfold maxLen at hmax1 hmax2
  refine givesV_of_tr Tryz.func79 rfl rfl ?_
  (refine s_r ?_;refine a_s rfl rfl ?_;refine n_t ?_;refine tr_seq ?_;refine s_r ?_;refine m_v rfl rfl ?_;refine tr_val (rk_len_slice (.of rfl)) rfl ?_;refine m_v rfl rfl ?_;refine tr_val (rk_len_slice (.of rfl)) rfl ?_;refine tr_val (rk_neq (.of rfl) (.of rfl)) rfl ?_;refine n_t ?_;refine c_d rfl (fun hcd=>?_) (fun hcd=>?_);refine s_r ?_;refine a_s rfl rfl ?_;refine n_t ?_;refine r_t ?_;refine tr_retE rfl (ends1 rfl rfl) ?_;rotate_left;refine s_t ?_;refine tr_seq ?_;refine s_r ?_;refine a_s rfl rfl ?_;refine n_t ?_;refine tr_block ?_;rotate_right)
  · rw [decide_eq_false fun e=>hcd (by rw [e])]
  have hlm:l.length = m.length:=by omega
  refine tr_for (ι:=Nat) (fun k=>k ≤ l.length ∧ (l = m ↔ l.drop k = m.drop k)) (fun k=>[(5,.int .i64 (k:Int)),(0,.slice a1 l.length cp1),(1,.slice a2 m.length cp2)]) (fun _=>[]) (fun k=>l.length - k) ?_ ?_
  · apply tr_start (0:Nat) ⟨Nat.zero_le _,Iff.rfl⟩
    case hs1=>exact .cons rfl (.cons rfl (.cons rfl .nil))
    case ht=>(try simp only [List.take_zero,List.map_nil,List.nil_append]);exact .nil
  rintro k ⟨hk,hf⟩
  by_cases hlt:k < l.length
  · have hlt2:k < m.length:=by omega
    have ha1':=ha1 (stms_ne hlt)
    have ha2':=ha2 (stms_ne hlt2)
    have hcell1:=(hc1 k _ (stms_get hlt)).2
    have hcell2:=(hc2 k _ (stms_get hlt2)).2
    have hd:=drop_eq_of (l:=l) (m:=m) hlt hlt2
    have hdn:l[k] ≠ m[k] → l.drop k ≠ m.drop k:=fun hne e=>hne (by
      rw [List.drop_eq_getElem_cons hlt,List.drop_eq_getElem_cons hlt2] at e
      exact (List.cons.inj e).1)
    generalize l[k] = x at hcell1 hd hdn
    generalize m[k] = y at hcell2 hd hdn
    obtain ⟨⟨x0,x1⟩,⟨x2,x3,x4,x5⟩,x6⟩:=x
    obtain ⟨⟨y0,y1⟩,⟨y2,y3,y4,y5⟩,y6⟩:=y
    dsimp only [Stm.cells] at hcell1 hcell2
    (refine tr_seq ?_;refine s_r ?_;refine m_v rfl rfl ?_;refine m_v rfl rfl ?_;refine tr_val (rk_len_slice (.of rfl)) rfl ?_;refine tr_val (rk_lss (.of rfl) (.of rfl)) rfl ?_;refine n_t ?_;refine c_d rfl (fun hcd=>?_) (fun _=>by omega);refine s_t ?_;refine tr_seq ?_;refine tr_block ?_;refine tr_seq ?_)
    with_reducible refine tr_draw 9 (by kernel_rfl) ?_
    (refine a_m rfl rfl ?_;refine a_m rfl rfl ?_;refine any_val (rk_indexAddr (.of rfl) (.of rfl) ha1' (by omega) hcd norm1_) rfl ?_;refine any_val (rk_loadN (.of rfl) (Ats.base hcell1 rfl) rfl) rfl ?_;refine a_m rfl rfl ?_;refine a_m rfl rfl ?_;refine any_val (rk_indexAddr (.of rfl) (.of rfl) ha2' (by omega) (by omega) norm1_) rfl ?_;refine any_val (rk_loadN (.of rfl) (Ats.base hcell2 rfl) rfl) rfl ?_;refine any_val (rk_neqA (.of rfl) (.of rfl) (okL_int (okL_bool (okL_int (okL_int (okL_int (okL_int (okL_int okL_nil))))))) rfl) rfl ?_)
    with_reducible refine any_end ?_
    (refine n_t ?_;refine c_b rfl (fun hcd=>?_) (fun hcd=>?_);refine s_r ?_;refine a_s rfl rfl ?_;refine n_t ?_;refine tr_ret ?_;refine tr_blk_ret ?_;refine tr_then_ret ?_;refine tr_then_ret ?_;refine tr_blk_ret ?_;refine tr_then_ret ?_;refine tr_retE rfl (ends1 rfl rfl) ?_;rotate_left;refine tr_skip ?_;refine tr_blk_normal ?_;refine tr_then ?_;refine tr_region ?_;refine m_v rfl rfl ?_;refine tr_val (rk_add (.of rfl) (.of rfl) (ini (by omega))) rfl ?_;refine a_s rfl rfl ?_;refine n_t ?_;rotate_right)
    · have hne:(⟨⟨x0,x1⟩,⟨x2,x3,x4,x5⟩,x6⟩:Stm) ≠ ⟨⟨y0,y1⟩,⟨y2,y3,y4,y5⟩,y6⟩:=by
        rintro e
        cases e
        simp at hcd
      rw [decide_eq_false fun e=>hdn hne (hf.1 e)]
    · have he:(⟨⟨x0,x1⟩,⟨x2,x3,x4,x5⟩,x6⟩:Stm) = ⟨⟨y0,y1⟩,⟨y2,y3,y4,y5⟩,y6⟩:=by
        simp at hcd
        obtain ⟨e0,e1,e2,e3,e4,e5,e6⟩:=hcd
        subst e0 e1 e2 e3 e4 e5 e6
        rfl
      clear hcd
      apply tr_next (k + 1) ⟨(show k + 1 ≤ l.length from hlt),hf.trans (hd he)⟩ (show l.length - (k + 1) < l.length - k by omega)
      case hs1=>exact .cons rfl (.cons rfl (.cons rfl .nil))
      case ht=>(try simp only [List.take_zero,List.map_nil,List.nil_append]);exact .nil
  · obtain rfl:k = l.length:=by omega
    have:l = m:=hf.2 (by rw [List.drop_length,hlm,List.drop_length])
    (refine tr_seq ?_;refine s_r ?_;refine m_v rfl rfl ?_;refine m_v rfl rfl ?_;refine tr_val (rk_len_slice (.of rfl)) rfl ?_;refine tr_val (rk_lss (.of rfl) (.of rfl)) rfl ?_;refine n_t ?_;refine c_d rfl (fun _=>by omega) (fun hcd=>?_);refine x_t ?_;refine tr_then_exit ?_;refine tr_blk_exit ?_;refine tr_then ?_;refine s_r ?_;refine a_s rfl rfl ?_;refine n_t ?_;refine tr_ret ?_;refine tr_retE rfl (ends1 rfl rfl) ?_)
    rw [decide_eq_true this]
theorem stampsV_c {lv:Value} {l:List Stm} {w:World} (h:Rd w lv 7 (stms l)) (hfew:l.length ≤ 4000) :
    Gives Tryz.prog 74 [lv] w [] (fun _:Value=>True) id (fun v=>[row 55 7 v l.length (stmsV l)]):=by
  obtain ⟨a,cp,b,o,rfl,hcap,hmax,ha,hc⟩:=h
  rw [stms_length] at *
  unfold maxLen at hmax
  refine gives_of_tr Tryz.func74 rfl rfl ?_
  (refine s_r ?_;refine a_s rfl rfl ?_;refine n_r ?_;refine a_s rfl rfl ?_;refine n_t ?_;refine tr_seq ?_;refine s_r ?_;refine m_v rfl rfl ?_;refine tr_val (rk_len_slice (.of rfl)) rfl ?_;refine m_v rfl rfl ?_;refine n_t ?_;refine tr_block ?_)
  refine tr_rowNil 55 7 ?_
  refine tr_for (ι:=Nat × Value) (fun x=>x.1 ≤ l.length) (fun x=>[(8,.int .i64 x.1),(7,.int .i64 l.length),(6,.slice a l.length cp),(3,x.2)]) (fun x=>[row 55 7 x.2 x.1 (stmsV (l.take x.1))]) (fun x=>l.length - x.1) ?_ ?_
  · apply tr_start (0,.slice none 0 0) (Nat.zero_le _)
    case hs1=>exact .cons rfl (.cons rfl (.cons rfl (.cons rfl .nil)))
    case ht=>
      show Takes _ [row 55 7 (.slice none 0 0) 0 []] _
      exact .cons .here .nil
  rintro ⟨k,v⟩ hk
  dsimp only at hk ⊢
  by_cases hlt:k < l.length
  · have ha':=ha (stms_ne hlt)
    have hcell:=(hc k _ (stms_get hlt)).2
    have htk:=stmsV_take hlt
    have hlk:(l.take k).length = k:=List.length_take_of_le (by omega)
    have hol:(stmsV (l.take k)).length = k * 7:=by rw [stmsV_len,hlk]
    have hcl:∀ w,GivesV Tryz.prog 35 [.agg (l[k]).cells.toArray] w (.agg (l[k]).cells.toArray):=fun w=>given_v _ w
    generalize l[k] = x at hcell htk hcl
    obtain ⟨⟨x0,x1⟩,⟨x2,x3,x4,x5⟩,x6⟩:=x
    dsimp only [Stm.cells] at hcell htk hcl
    (refine s_r ?_;refine tr_val (rk_lss (.of rfl) (.of rfl)) rfl ?_;refine n_t ?_;refine tr_seq ?_;refine c_d rfl (fun hcd=>?_) (fun _=>by omega);refine s_t ?_;refine tr_seq ?_;refine tr_block ?_;refine s_r ?_;refine tr_val (rk_indexAddr (.of rfl) (.of rfl) ha' (by omega) hcd norm1_) rfl ?_;refine tr_val (rk_loadN (.of rfl) (Ats.base hcell rfl) rfl) rfl ?_;refine tr_new (rk_alloc rfl) rfl (fun _ _=>?_);refine tr_store (.of rfl) (.of rfl) .here rfl rfl (okc_cons rfl (okc_cons rfl (okc_cons rfl (okc_cons rfl (okc_cons rfl (okc_cons rfl (okc_cons rfl okc_nil))))))) (lenb rfl) norm_ ?_;refine n_t ?_;refine tr_region ?_;refine m_v rfl rfl ?_;refine tr_val (rk_loadB (.of rfl) .here norm_ (by rfl)) rfl ?_;refine tr_callV (rk_call (.of rfl) (.cons (.of rfl) .nil) inferInstance normc_) rfl (fun w' hm'=>(hcl w')) ?_;refine tr_new (rk_sliceLitN (.cons (.of rfl) .nil) rfl rfl normp_ normp_ norm_) rfl (fun _ _=>?_))
    refine tr_appendB (.of rfl) (.of rfl) (.there (.there .here)) .here norm_ (by rfl) (okc_cons rfl (okc_cons rfl (okc_cons rfl (okc_cons rfl (okc_cons rfl (okc_cons rfl (okc_cons rfl okc_nil))))))) (by rfl) (by rfl) (by rfl) lenx_ (by rfl) ?_
    intro v'
    (refine a_s rfl rfl ?_;refine tr_nil ?_;refine tr_blk_normal ?_;refine tr_then ?_;refine tr_region ?_;refine tr_val (rk_add (.of rfl) (.of rfl) (ini (by omega))) rfl ?_;refine m_v rfl rfl ?_;refine n_t ?_)
    apply tr_next (k + 1,v') (by show k + 1 ≤ l.length;omega) (by show l.length - (k + 1) < l.length - k;omega)
    case hs1=>exact .cons rfl (.cons rfl (.cons rfl (.cons rfl .nil)))
    case ht=>
      show Takes _ [row 55 7 v' (k + 1) (stmsV (l.take (k + 1)))] _
      rw [htk]
      exact .cons .here .nil
  · obtain rfl:k = l.length:=by omega
    rw [List.take_length]
    (refine s_r ?_;refine tr_val (rk_lss (.of rfl) (.of rfl)) rfl ?_;refine n_t ?_;refine tr_seq ?_;refine c_d rfl (fun _=>by omega) (fun hcd=>?_);refine x_t ?_;refine tr_then_exit ?_;refine tr_blk_exit ?_;refine tr_then ?_;refine s_r ?_;refine m_v rfl rfl ?_;refine a_s rfl rfl ?_;refine n_t ?_;refine tr_ret ?_)
    first | with_reducible apply tr_retM | with_reducible apply tr_endM
    case he=>exact ends1 rfl rfl
    case hR=>
      intro w' hm'
      exact gives_end v trivial (by exact .cons .here .nil) hm' rfl
theorem heardV_c {lv:Value} {l:List Stm} {w:World} (h:Rd w lv 7 (stms l)) (hfew:l.length ≤ 4000) :
    Gives Tryz.prog 80 [lv] w [] (fun _:Value=>True) id (fun v=>[row 50 7 v l.length (stmsV l)]):=by
  obtain ⟨a,cp,b,o,rfl,hcap,hmax,ha,hc⟩:=h
  rw [stms_length] at *
  unfold maxLen at hmax
  refine gives_of_tr Tryz.func80 rfl rfl ?_
  (refine s_r ?_;refine a_s rfl rfl ?_;refine n_r ?_;refine a_s rfl rfl ?_;refine n_t ?_;refine tr_seq ?_;refine s_r ?_;refine m_v rfl rfl ?_;refine tr_val (rk_len_slice (.of rfl)) rfl ?_;refine m_v rfl rfl ?_;refine n_t ?_;refine tr_block ?_)
  refine tr_rowNil 50 7 ?_
  refine tr_for (ι:=Nat × Value) (fun x=>x.1 ≤ l.length) (fun x=>[(8,.int .i64 x.1),(7,.int .i64 l.length),(6,.slice a l.length cp),(3,x.2)]) (fun x=>[row 50 7 x.2 x.1 (stmsV (l.take x.1))]) (fun x=>l.length - x.1) ?_ ?_
  · apply tr_start (0,.slice none 0 0) (Nat.zero_le _)
    case hs1=>exact .cons rfl (.cons rfl (.cons rfl (.cons rfl .nil)))
    case ht=>
      show Takes _ [row 50 7 (.slice none 0 0) 0 []] _
      exact .cons .here .nil
  rintro ⟨k,v⟩ hk
  dsimp only at hk ⊢
  by_cases hlt:k < l.length
  · have ha':=ha (stms_ne hlt)
    have hcell:=(hc k _ (stms_get hlt)).2
    have htk:=stmsV_take hlt
    have hlk:(l.take k).length = k:=List.length_take_of_le (by omega)
    have hol:(stmsV (l.take k)).length = k * 7:=by rw [stmsV_len,hlk]
    have hcl:∀ w,GivesV Tryz.prog 41 [.agg (l[k]).cells.toArray] w (.agg (l[k]).cells.toArray):=fun w=>told_v _ w
    generalize l[k] = x at hcell htk hcl
    obtain ⟨⟨x0,x1⟩,⟨x2,x3,x4,x5⟩,x6⟩:=x
    dsimp only [Stm.cells] at hcell htk hcl
    (refine s_r ?_;refine tr_val (rk_lss (.of rfl) (.of rfl)) rfl ?_;refine n_t ?_;refine tr_seq ?_;refine c_d rfl (fun hcd=>?_) (fun _=>by omega);refine s_t ?_;refine tr_seq ?_;refine tr_block ?_;refine s_r ?_;refine tr_val (rk_indexAddr (.of rfl) (.of rfl) ha' (by omega) hcd norm1_) rfl ?_;refine tr_val (rk_loadN (.of rfl) (Ats.base hcell rfl) rfl) rfl ?_;refine tr_new (rk_alloc rfl) rfl (fun _ _=>?_);refine tr_store (.of rfl) (.of rfl) .here rfl rfl (okc_cons rfl (okc_cons rfl (okc_cons rfl (okc_cons rfl (okc_cons rfl (okc_cons rfl (okc_cons rfl okc_nil))))))) (lenb rfl) norm_ ?_;refine n_t ?_;refine tr_region ?_;refine m_v rfl rfl ?_;refine tr_val (rk_loadB (.of rfl) .here norm_ (by rfl)) rfl ?_;refine tr_callV (rk_call (.of rfl) (.cons (.of rfl) .nil) inferInstance normc_) rfl (fun w' hm'=>(hcl w')) ?_;refine tr_new (rk_sliceLitN (.cons (.of rfl) .nil) rfl rfl normp_ normp_ norm_) rfl (fun _ _=>?_))
    refine tr_appendB (.of rfl) (.of rfl) (.there (.there .here)) .here norm_ (by rfl) (okc_cons rfl (okc_cons rfl (okc_cons rfl (okc_cons rfl (okc_cons rfl (okc_cons rfl (okc_cons rfl okc_nil))))))) (by rfl) (by rfl) (by rfl) lenx_ (by rfl) ?_
    intro v'
    (refine a_s rfl rfl ?_;refine tr_nil ?_;refine tr_blk_normal ?_;refine tr_then ?_;refine tr_region ?_;refine tr_val (rk_add (.of rfl) (.of rfl) (ini (by omega))) rfl ?_;refine m_v rfl rfl ?_;refine n_t ?_)
    apply tr_next (k + 1,v') (by show k + 1 ≤ l.length;omega) (by show l.length - (k + 1) < l.length - k;omega)
    case hs1=>exact .cons rfl (.cons rfl (.cons rfl (.cons rfl .nil)))
    case ht=>
      show Takes _ [row 50 7 v' (k + 1) (stmsV (l.take (k + 1)))] _
      rw [htk]
      exact .cons .here .nil
  · obtain rfl:k = l.length:=by omega
    rw [List.take_length]
    (refine s_r ?_;refine tr_val (rk_lss (.of rfl) (.of rfl)) rfl ?_;refine n_t ?_;refine tr_seq ?_;refine c_d rfl (fun _=>by omega) (fun hcd=>?_);refine x_t ?_;refine tr_then_exit ?_;refine tr_blk_exit ?_;refine tr_then ?_;refine s_r ?_;refine m_v rfl rfl ?_;refine a_s rfl rfl ?_;refine n_t ?_;refine tr_ret ?_)
    first | with_reducible apply tr_retM | with_reducible apply tr_endM
    case he=>exact ends1 rfl rfl
    case hR=>
      intro w' hm'
      exact gives_end v trivial (by exact .cons .here .nil) hm' rfl
end Go.Proofs.A1
namespace Go.Proofs.A1
open Go Go.SL
end Go.Proofs.A1
namespace Go.Proofs.A1
open Go Go.SL
theorem stsE_zero {l:List Stm}:stsE l = 0 → l.length ≤ 256 ∧ ∀ i,i < l.length → StOk (nthS l i):=fun h=>by
  unfold stsE at h
  by_cases h2:256 < l.length
  · rw [if_pos h2] at h;cases h
  · rw [if_neg h2] at h
    exact ⟨by omega,fun i hi=>stmE_zero.1 (errE_ok.1 h i hi)⟩
end Go.Proofs.A1
namespace Go.SL
open Go
def stA (As:List Asn):Asn where
  sat h fp:=Sats h As fp
  loc:=fun hs hb=>hs.loc hb
  own:=fun hs b hb=>hs.own b hb
def poolL (E:TypeId):List Value → List (List Value) → List Asn
  | v :: vs,x :: xs=>row E 1 v x.length x :: poolL E vs xs
  | _,_=>[]
def pool (E:TypeId) (vs:List Value) (xs:List (List Value)):Asn:=stA (poolL E vs xs)
section
variable {P:Program} {r:Option Nat} {c:Cx} {D:List Nat} {sl:Slots} {hs hs':List Asn} {X:Act → World → Prop} {Q:Exit → Act → World → Prop} {ι:Type}
variable {ops:Array Oper} {d:Nat} {ty:TypeId} {pos:String} {af:Array Edge} {rest:List Oper}
theorem YieldsB.conv {l:Nat} {args:List Value} {w0:World} {md:List Nat} {pre pre':Asn} {post post':Bool → Asn} (h:YieldsB P l args w0 md pre post) (h1:∀ g fp,pre'.sat g fp → pre.sat g fp) (h2:∀ b g fp,(post b).sat g fp → (post' b).sat g fp):YieldsB P l args w0 md pre' post':=by
  intro W fp hk hb hn hs
  obtain ⟨f,tmps,asg,body,e,hr⟩:=h W fp hk hb hn (h1 _ _ hs)
  exact ⟨f,tmps,asg,body,e,hr.mono fun e w' ⟨b,he,hk',fp',hn',hs',hf'⟩=>⟨b,he,hk',fp',hn',h2 _ _ _ hs',hf'⟩⟩
theorem any_vOff1 {rl:RSlots} {m j g:Nat} {want q:Bool} {op:Op} (hj:((ops[j]?).bind (·.dst)) = some g) (hq:sget sl g = some (.bool q)) (hn:(q == want) = false) (hd:Nat.blt d c.nt = true) (k:AnyT P r c D hs ops Q m rest ((d,gv (q == want) (.bool false)) :: sl) rl) :
    AnyT P r c D hs ops Q (m + 1) (⟨some d,op,ty,pos,af,some (j,want)⟩ :: rest) sl rl:=any_valG1 hj hq (fun e=>absurd (hn.symm.trans e) (by decide)) hd k
end
end Go.SL
namespace Go.Proofs.A1
open Go Go.SL
def stV (l:List Stm):List Value:=intgV (l.map stmE)
theorem stV_len (l:List Stm):(stV l).length = l.length * 1:=by unfold stV;rw [intgV_len,List.length_map]
theorem mapSt_c {lv:Value} {l:List Stm} {w:World} (h:Rd w lv 7 (stms l)) (hfew:l.length ≤ 4000) (hG:GlobR w) :
    Gives Tryz.prog 142 [lv,.func (.func 40) #[] #[]] w [] (fun _:Value=>True) id (fun v=>[row 26 1 v l.length (stV l)]):=by
  obtain ⟨a,cp,b,o,rfl,hcap,hmax,ha,hc⟩:=h
  rw [stms_length] at *
  unfold maxLen at hmax
  refine gives_of_tr Tryz.func142 rfl rfl ?_
  (refine s_r ?_;refine a_s rfl rfl ?_;refine n_r ?_;refine a_s rfl rfl ?_;refine n_t ?_;refine tr_seq ?_;refine s_r ?_;refine m_v rfl rfl ?_;refine tr_val (rk_len_slice (.of rfl)) rfl ?_;refine m_v rfl rfl ?_;refine n_t ?_;refine tr_block ?_)
  refine tr_rowNil 26 1 ?_
  refine tr_for (ι:=Nat × Value) (fun x=>x.1 ≤ l.length) (fun x=>[(10,.int .i64 x.1),(9,.int .i64 l.length),(8,.slice a l.length cp),(5,x.2),(1,.func (.func 40) #[] #[])]) (fun x=>[row 26 1 x.2 x.1 (stV (l.take x.1))]) (fun x=>l.length - x.1) ?_ ?_
  · apply tr_start (0,.slice none 0 0) (Nat.zero_le _)
    case hs1=>exact .cons rfl (.cons rfl (.cons rfl (.cons rfl (.cons rfl .nil))))
    case ht=>
      show Takes _ [row 26 1 (.slice none 0 0) 0 []] _
      exact .cons .here .nil
  rintro ⟨k,v⟩ hk
  dsimp only at hk ⊢
  by_cases hlt:k < l.length
  · have ha':=ha (stms_ne hlt)
    have hcell:=(hc k _ (stms_get hlt)).2
    have htk:stV (l.take (k + 1)) = stV (l.take k)++[.int .i64 (stmE l[k])]:=by rw [List.take_succ_eq_append_getElem hlt];unfold stV;rw [List.map_append,intgV_app];rfl
    have hlk:(l.take k).length = k:=List.length_take_of_le (by omega)
    have hol:(stV (l.take k)).length = k * 1:=by rw [stV_len,hlk]
    have hcl:∀ w',Keeps [] w w' → GivesV Tryz.prog 40 [.agg (l[k]).cells.toArray] w' (.int .i64 (stmE l[k])):=fun w' hk=>chkStamp_c _ w' (hG.keeps hk)
    generalize stmE l[k] = E at htk hcl
    generalize l[k] = x at hcell hcl
    obtain ⟨⟨x0,x1⟩,⟨x2,x3,x4,x5⟩,x6⟩:=x
    dsimp only [Stm.cells] at hcell hcl
    (refine s_r ?_;refine tr_val (rk_lss (.of rfl) (.of rfl)) rfl ?_;refine n_t ?_;refine tr_seq ?_;refine c_d rfl (fun hcd=>?_) (fun _=>by omega);refine s_t ?_;refine tr_seq ?_;refine tr_block ?_;refine s_r ?_;refine tr_val (rk_indexAddr (.of rfl) (.of rfl) ha' (by omega) hcd norm1_) rfl ?_;refine tr_val (rk_loadN (.of rfl) (Ats.base hcell rfl) rfl) rfl ?_;refine tr_new (rk_alloc rfl) rfl (fun _ _=>?_);refine tr_store (.of rfl) (.of rfl) .here rfl rfl (okc_cons rfl (okc_cons rfl (okc_cons rfl (okc_cons rfl (okc_cons rfl (okc_cons rfl (okc_cons rfl okc_nil))))))) (lenb rfl) norm_ ?_;refine n_t ?_;refine tr_region ?_;refine m_v rfl rfl ?_;refine m_v rfl rfl ?_;refine tr_val (rk_loadB (.of rfl) .here norm_ (by rfl)) rfl ?_;refine tr_callV (rk_call (.of rfl) (.cons (.of rfl) .nil) inferInstance normc_) rfl (fun w' hm'=>(hcl w' (Mem.keeps hm'))) ?_;refine tr_new (rk_sliceLit (.cons (.of rfl) .nil) rfl rfl rfl rfl) rfl (fun _ _=>?_))
    refine tr_appendB (.of rfl) (.of rfl) (.there (.there .here)) .here norm_ (by rfl) (okc_cons rfl okc_nil) (by rfl) (by rfl) (by rfl) lenx_ (by rfl) ?_
    intro v'
    (refine a_s rfl rfl ?_;refine tr_nil ?_;refine tr_blk_normal ?_;refine tr_then ?_;refine tr_region ?_;refine tr_val (rk_add (.of rfl) (.of rfl) (ini (by omega))) rfl ?_;refine m_v rfl rfl ?_;refine n_t ?_)
    apply tr_next (k + 1,v') (by show k + 1 ≤ l.length;omega) (by show l.length - (k + 1) < l.length - k;omega)
    case hs1=>exact .cons rfl (.cons rfl (.cons rfl (.cons rfl (.cons rfl .nil))))
    case ht=>
      show Takes _ [row 26 1 v' (k + 1) (stV (l.take (k + 1)))] _
      rw [htk]
      exact .cons .here .nil
  · obtain rfl:k = l.length:=by omega
    rw [List.take_length]
    (refine s_r ?_;refine tr_val (rk_lss (.of rfl) (.of rfl)) rfl ?_;refine n_t ?_;refine tr_seq ?_;refine c_d rfl (fun _=>by omega) (fun hcd=>?_);refine x_t ?_;refine tr_then_exit ?_;refine tr_blk_exit ?_;refine tr_then ?_;refine s_r ?_;refine m_v rfl rfl ?_;refine a_s rfl rfl ?_;refine n_t ?_;refine tr_ret ?_)
    first | with_reducible apply tr_retM | with_reducible apply tr_endM
    case he=>exact ends1 rfl rfl
    case hR=>
      intro w' hm'
      exact gives_end v trivial (by exact .cons .here .nil) hm' rfl
theorem follows_c (x y:Stm) (i j:Int) (hy:StOk y) (w:World):GivesV Tryz.prog 143 [.agg #[.int .i64 x.ra.fr,.bool x.ra.dr,.int .i64 x.la.h,.int .i64 x.la.m,.int .i64 x.la.s,.int .i64 x.la.f,.int .i64 x.us,.int .i64 i],.agg #[.int .i64 y.ra.fr,.bool y.ra.dr,.int .i64 y.la.h,.int .i64 y.la.m,.int .i64 y.la.s,.int .i64 y.la.f,.int .i64 y.us,.int .i64 j]] w (.bool (folB x y)):=by
  obtain ⟨⟨x0,x1⟩,⟨x2,x3,x4,x5⟩,x6⟩:=x
  obtain ⟨⟨y0,y1⟩,⟨y2,y3,y4,y5⟩,y6⟩:=y
  have hF:folB ⟨⟨x0,x1⟩,⟨x2,x3,x4,x5⟩,x6⟩ ⟨⟨y0,y1⟩,⟨y2,y3,y4,y5⟩,y6⟩ = (rtQ ⟨x0,x1⟩ ⟨y0,y1⟩ && lbQ ⟨x2,x3,x4,x5⟩ (addF ⟨y0,y1⟩ ⟨y2,y3,y4,y5⟩ 1)):=rfl
  have hcl:∀ w,GivesV Tryz.prog 111 [.agg #[.int .i64 y2,.int .i64 y3,.int .i64 y4,.int .i64 y5],.agg #[.int .i64 y0,.bool y1],.int .i64 1] w (.agg (addF ⟨y0,y1⟩ ⟨y2,y3,y4,y5⟩ 1).cells.toArray):=fun w=>added_c ⟨y2,y3,y4,y5⟩ ⟨y0,y1⟩ 1 hy.la (by omega) w
  generalize addF ⟨y0,y1⟩ ⟨y2,y3,y4,y5⟩ 1 = q at hF hcl
  obtain ⟨q0,q1,q2,q3⟩:=q
  rw [hF]
  dsimp only [Lb.cells,rtQ,lbQ] at hcl ⊢
  refine givesV_of_tr Tryz.func143 rfl rfl ?_
  (refine s_r ?_;refine tr_new (rk_box (.of rfl) rfl) rfl (fun _ _=>?_);refine tr_new (rk_box (.of rfl) rfl) rfl (fun _ _=>?_);refine a_s rfl rfl ?_;refine n_t ?_;refine tr_seq ?_)
  with_reducible refine tr_draw 21 (by kernel_rfl) ?_
  (refine a_f rfl rfl norm0_ ?_;refine a_f rfl rfl norm0_ ?_;refine any_val (rk_loadB (.of rfl) (.there .here) norm_ (by rfl)) rfl ?_;refine a_f rfl rfl norm0_ ?_;refine a_f rfl rfl norm0_ ?_;refine any_val (rk_loadB (.of rfl) .here norm_ (by rfl)) rfl ?_;refine any_val (rk_eqlA (.of rfl) (.of rfl) (okL_int (okL_bool okL_nil)) rfl) rfl ?_;refine a_m rfl rfl ?_;refine any_vG1 rfl rfl inferInstance (fun hg hgp=>(rk_fieldAddr (.of rfl) norm0_)) rfl ?_;refine any_vG1 rfl rfl inferInstance (fun hg hgp=>(rk_fieldAddr (.ofg hg rfl) norm0_)) rfl ?_;refine any_vG1 rfl rfl inferInstance (fun hg hgp=>(rk_loadB (.ofg hg rfl) (.there .here) norm_ (by rfl))) rfl ?_;refine any_vG1 rfl rfl inferInstance (fun hg hgp=>(rk_fieldAddr (.of rfl) norm0_)) rfl ?_;refine any_vG1 rfl rfl inferInstance (fun hg hgp=>(rk_fieldAddr (.ofg hg rfl) norm0_)) rfl ?_;refine any_vG1 rfl rfl inferInstance (fun hg hgp=>(rk_loadB (.ofg hg rfl) .here norm_ (by rfl))) rfl ?_;refine any_vG1 rfl rfl inferInstance (fun hg hgp=>(rk_fieldAddr (.of rfl) norm0_)) rfl ?_;refine any_vG1 rfl rfl inferInstance (fun hg hgp=>(rk_fieldAddr (.ofg hg rfl) norm0_)) rfl ?_;refine any_vG1 rfl rfl inferInstance (fun hg hgp=>(rk_loadB (.ofg hg rfl) .here norm_ (by rfl))) rfl ?_;refine any_callG1 rfl rfl (fun hg=>(rk_call (.of rfl) (.cons (.ofg hg rfl) (.cons (.ofg hg rfl) (.cons (.of rfl) .nil))) inferInstance normc_)) rfl (fun hg w' hm'=>(hcl w')) ?_;refine any_vG1 rfl rfl inferInstance (fun hg hgp=>(rk_eqlA (.ofg hg rfl) (.ofg hg rfl) (okL_int (okL_int (okL_int (okL_int okL_nil)))) rfl)) rfl ?_;refine any_val (rk_pick_and (.of rfl) rfl) rfl ?_;refine any_val (rk_assign (.of rfl)) rfl ?_)
  with_reducible refine any_end ?_
  (refine n_t ?_;refine tr_ret ?_;refine tr_retE rfl (ends1 rfl rfl) ?_)
  rfl
theorem firstE_first {l:List Stm}:∀ n k,k + n = l.length → firstE (fun k=>stmE (nthS l k)) k n = firstF ((l.drop k).map stmE)
  | 0,k,h=>by rw [List.drop_of_length_le (by omega)];rfl
  | n + 1, k, h => by
    have hk:k < l.length:=by omega
    rw [List.drop_eq_getElem_cons hk,List.map_cons]
    unfold firstE
    rw [firstE_first n (k + 1) (by omega),nthS_get hk]
    by_cases h0:stmE l[k] = 0 <;> simp [firstF,h0]
theorem stsE_eq {l:List Stm} (h:¬ 256 < l.length):stsE l = firstF (l.map stmE):=by
  rw [stsE,if_neg h]
  have:=firstE_first (l:=l) l.length 0 (by omega)
  rwa [List.drop_zero] at this
def jmpX (l:List Stm):List Nat:=if stsE l = 0 then jmpK l l.length else []
set_option maxHeartbeats 2000000 in
theorem jumps_c {lv:Value} {l:List Stm} {w:World} (h:Rd w lv 7 (stms l)) (hG:GlobR w) :
    Gives Tryz.prog 73 [lv] w [] (fun _:Value=>True) (fun v=>.tuple #[v,.int .i64 (stsE l)]) (fun v=>[row 3 1 v (jmpX l).length (natsV (jmpX l))]):=by
  have h1:=h
  obtain ⟨a,cp,b,o,rfl,hcap,hmax,ha,hc⟩:=h1
  rw [stms_length] at *
  unfold maxLen at hmax
  refine gives_of_tr Tryz.func73 rfl rfl ?_
  by_cases hmany:256 < l.length
  · have e:stsE l = 5:=by rw [stsE,if_pos hmany]
    have ew:whenF (decide ((256:Int) < (l.length:Nat))) 5 = 5:=by rw [whenF_if,if_pos (by omega)]
    have hwn:∀ w',GivesV Tryz.prog 102 [.bool (decide ((256:Int) < (l.length:Nat))),.int .i64 5] w' (.int .i64 5):=fun w'=>by have:=when_c (decide ((256:Int) < (l.length:Nat))) 5 w';rwa [ew] at this
    rw [jmpX,e,if_neg (by decide)]
    (refine s_r ?_;refine a_s rfl rfl ?_;refine a_s rfl rfl ?_;refine n_t ?_;refine tr_seq ?_;refine s_r ?_;refine m_v rfl rfl ?_;refine tr_val (rk_len_slice (.of rfl)) rfl ?_;refine tr_val (rk_gtr (.of rfl) (.of rfl)) rfl ?_;refine tr_callV (rk_call (.of rfl) (.cons (.of rfl) (.cons (.of rfl) .nil)) inferInstance normc_) rfl (fun w' hm'=>(hwn w')) ?_;refine a_s rfl rfl ?_;refine n_r ?_;refine m_v rfl rfl ?_;refine tr_val (rk_neq (.of rfl) (.of rfl)) rfl ?_;refine n_t ?_;refine c_d rfl (fun hcd=>?_) (fun _=>by omega);refine s_r ?_;refine m_v rfl rfl ?_;refine a_s rfl rfl ?_;refine a_s rfl rfl ?_;refine n_t ?_;refine r_t ?_)
    refine tr_rowNil 3 1 ?_
    first | with_reducible apply tr_retM | with_reducible apply tr_endM
    case he=>exact ends2 rfl rfl rfl
    case hR=>
      intro w' hm'
      exact gives_end (.slice none 0 0) trivial (show Takes _ [row 3 1 (.slice none 0 0) 0 []] _ by exact .cons .here .nil) hm' rfl
  · have e:=stsE_eq hmany
    have ew:whenF (decide ((256:Int) < (l.length:Nat))) 5 = 0:=by rw [whenF_if,if_neg (by omega)]
    have hwn:∀ w',GivesV Tryz.prog 102 [.bool (decide ((256:Int) < (l.length:Nat))),.int .i64 5] w' (.int .i64 0):=fun w'=>by have:=when_c (decide ((256:Int) < (l.length:Nat))) 5 w';rwa [ew] at this
    (refine s_r ?_;refine a_s rfl rfl ?_;refine a_s rfl rfl ?_;refine n_t ?_;refine tr_seq ?_;refine s_r ?_;refine m_v rfl rfl ?_;refine tr_val (rk_len_slice (.of rfl)) rfl ?_;refine tr_val (rk_gtr (.of rfl) (.of rfl)) rfl ?_;refine tr_callV (rk_call (.of rfl) (.cons (.of rfl) (.cons (.of rfl) .nil)) inferInstance normc_) rfl (fun w' hm'=>(hwn w')) ?_;refine a_s rfl rfl ?_;refine n_r ?_;refine m_v rfl rfl ?_;refine tr_val (rk_neq (.of rfl) (.of rfl)) rfl ?_;refine n_t ?_;refine c_d rfl (fun _=>by omega) (fun hcd=>?_);refine s_t ?_;refine tr_seq ?_;refine s_r ?_;refine m_v rfl rfl ?_)
    with_reducible apply tr_call
    case hr=>exact rk_call (.of rfl) (.cons (.of rfl) (.cons (.of rfl) .nil)) inferInstance normc_
    case hd=>rfl
    case ht=>exact Takes.nil
    case hc=>
      intro w1 fp hm1 _ hs1
      obtain rfl:fp = []:=hs1
      exact mapSt_c (h.keeps hm1.keeps) (by omega) (hG.keeps hm1.keeps)
    intro v _
    dsimp only [id_eq,List.cons_append,List.nil_append,stV]
    with_reducible apply tr_callV
    case hr=>exact rk_call (.of rfl) (.cons (.of rfl) .nil) inferInstance normc_
    case hd=>rfl
    case hc=>
      intro w' hm'
      exact first_c v _ w' (intg_rd (E:=26) (v:=v) (l:=l.map stmE) (n:=l.length) hm' (by exact .here) (by simp))
    rw [← e]
    (refine a_s rfl rfl ?_;refine n_r ?_;refine m_v rfl rfl ?_;refine tr_val (rk_neq (.of rfl) (.of rfl)) rfl ?_;refine n_t ?_;refine c_d rfl (fun hcd=>?_) (fun hcd=>?_);refine s_r ?_;refine m_v rfl rfl ?_;refine a_s rfl rfl ?_;refine a_s rfl rfl ?_;refine n_t ?_;refine r_t ?_;rotate_left;refine s_t ?_;refine s_r ?_;refine a_s rfl rfl ?_;refine n_t ?_;refine tr_seq ?_;refine s_r ?_;refine m_v rfl rfl ?_;refine tr_val (rk_len_slice (.of rfl)) rfl ?_;refine m_v rfl rfl ?_;refine n_t ?_;refine tr_block ?_;rotate_right)
    · rw [jmpX,if_neg hcd]
      refine tr_rowNil 3 1 ?_
      first | with_reducible apply tr_retM | with_reducible apply tr_endM
      case he=>exact ends2 rfl rfl rfl
      case hR=>
        intro w' hm'
        exact gives_end (.slice none 0 0) trivial (show Takes _ [row 3 1 (.slice none 0 0) 0 []] _ by exact .cons .here .nil) hm' rfl
    have hz:stsE l = 0:=Decidable.not_not.1 hcd
    obtain ⟨hfew,hok⟩:=stsE_zero hz
    rw [jmpX,if_pos hz,hz]
    refine tr_rowNil 3 1 ?_
    refine tr_for (ι:=Nat × Value) (fun x=>x.1 ≤ l.length) (fun x=>[(23,.int .i64 (x.1:Nat)),(22,.int .i64 l.length),(21,.slice a l.length cp),(0,.slice a l.length cp),(6,x.2)]) (fun x=>[row 3 1 x.2 (jmpK l x.1).length (natsV (jmpK l x.1))]) (fun x=>l.length - x.1) ?_ ?_
    · apply tr_start (0,.slice none 0 0) (Nat.zero_le _)
      case hs1=>exact .cons rfl (.cons rfl (.cons rfl (.cons rfl (.cons rfl .nil))))
      case ht=>
        show Takes _ [row 3 1 (.slice none 0 0) 0 []] _
        exact .cons .here .nil
    rintro ⟨k,v⟩ hk
    dsimp only at hk ⊢
    by_cases hlt:k < l.length
    · have hs:=jmpK_succ l k
      have hl:=jmpK_len l k
      have ha':=ha (stms_ne hlt)
      by_cases hk0:k = 0
      · subst hk0
        have hb:jmpB l 0 = false:=rfl
        rw [hb,if_neg (by decide),List.append_nil] at hs
        (refine s_r ?_;refine tr_val (rk_lss (.of rfl) (.of rfl)) rfl ?_;refine n_t ?_;refine tr_seq ?_;refine c_d rfl (fun hcd=>?_) (fun _=>by omega);refine s_t ?_;refine tr_seq ?_;refine tr_block ?_;refine s_r ?_;refine m_v rfl rfl ?_;refine a_s rfl rfl ?_;refine n_t ?_;refine tr_seq ?_)
        with_reducible refine tr_draw 20 (by kernel_rfl) ?_
        refine a_m rfl rfl ?_
        refine any_val (rk_gtr (.of rfl) (.of rfl)) rfl ?_
        refine a_m rfl rfl ?_
        iterate 16 refine any_vOff1 rfl rfl (by decide) rfl ?_
        refine any_val (V:=Value.bool false) (rk_pickB (.of rfl) (.of rfl) (.of rfl) rfl) rfl ?_
        with_reducible refine any_end ?_
        (refine n_t ?_;refine tr_cond_f (.of rfl) ?_;refine tr_skip ?_;refine tr_blk_normal ?_;refine tr_then ?_;refine tr_region ?_;refine tr_val (rk_add (.of rfl) (.of rfl) (ini (by omega))) rfl ?_;refine m_v rfl rfl ?_;refine n_t ?_)
        apply tr_next (0 + 1,v) (show 0 + 1 ≤ l.length by omega) (show l.length - (0 + 1) < l.length - 0 by omega)
        case hs1=>exact .cons rfl (.cons rfl (.cons rfl (.cons rfl (.cons rfl .nil))))
        case ht=>
          show Takes _ [row 3 1 v (jmpK l (0 + 1)).length (natsV (jmpK l (0 + 1)))] _
          rw [hs]
          exact .cons .here .nil
      · have hkm:k - 1 < l.length:=by omega
        have hk0':0 < k:=by omega
        have hcell:=(hc k _ (stms_get hlt)).2
        have hcell2:=(hc (k - 1) _ (stms_get hkm)).2
        have ok1:=hok (k - 1) hkm
        have e1:nthS l k = l[k]:=nthS_get hlt
        have e2:nthS l (k - 1) = l[k - 1]:=nthS_get hkm
        have hJ:jmpB l k = !folB (nthS l k) (nthS l (k - 1)):=by unfold jmpB;rw [decide_eq_true (by omega),Bool.true_and]
        rw [e1,e2] at hJ
        rw [e2] at ok1
        clear e1 e2
        have em:((k:Int) - 1).toNat = k - 1:=by omega
        have hfo:∀ w,GivesV Tryz.prog 143 _ w _:=fun w=>follows_c l[k] l[k - 1] k ((k:Int) - 1) ok1 w
        generalize folB l[k] l[k - 1] = F at hfo hJ
        generalize l[k] = x at hcell hfo
        generalize l[k - 1] = y at hcell2 hfo
        obtain ⟨⟨x0,x1⟩,⟨x2,x3,x4,x5⟩,x6⟩:=x
        obtain ⟨⟨y0,y1⟩,⟨y2,y3,y4,y5⟩,y6⟩:=y
        dsimp only [Stm.cells] at hcell hcell2 hfo
        rw [← em] at hcell2
        clear ok1
        (refine s_r ?_;refine tr_val (rk_lss (.of rfl) (.of rfl)) rfl ?_;refine n_t ?_;refine tr_seq ?_;refine c_d rfl (fun hcd=>?_) (fun _=>by omega);refine s_t ?_;refine tr_seq ?_;refine tr_block ?_;refine s_r ?_;refine m_v rfl rfl ?_;refine a_s rfl rfl ?_;refine n_t ?_;refine tr_seq ?_)
        with_reducible refine tr_draw 20 (by kernel_rfl) ?_
        (refine a_m rfl rfl ?_;refine any_val (rk_gtr (.of rfl) (.of rfl)) rfl ?_;refine a_m rfl rfl ?_;refine any_vG1 rfl rfl inferInstance (fun hg hgp=>(rk_move (.of rfl))) rfl ?_;refine any_vG1 rfl rfl inferInstance (fun hg hgp=>(rk_move (.of rfl))) rfl ?_;refine any_vG1 rfl rfl inferInstance (fun hg hgp=>(rk_indexAddr (.ofg hg rfl) (.ofg hg rfl) ha' (by omega) hcd norm1_)) rfl ?_;refine any_vG1 rfl rfl inferInstance (fun hg hgp=>(rk_loadN (.ofg hg rfl) (Ats.base hcell rfl) rfl)) rfl ?_;refine any_vG1 rfl rfl inferInstance (fun hg hgp=>(rk_move (.of rfl))) rfl ?_;refine any_vG1 rfl rfl inferInstance (fun hg hgp=>(rk_buildL (.cons (.ofg hg rfl) (.cons (.ofg hg rfl) .nil)) norm_)) rfl ?_;refine any_vG1 rfl rfl inferInstance (fun hg hgp=>(rk_move (.of rfl))) rfl ?_;refine any_vG1 rfl rfl inferInstance (fun hg hgp=>(rk_move (.of rfl))) rfl ?_;refine any_vG1 rfl rfl inferInstance (fun hg hgp=>(rk_sub (.ofg hg rfl) (.of rfl) (ini (by omega)))) rfl ?_;refine any_vG1 rfl rfl inferInstance (fun hg hgp=>(rk_indexAddr (.ofg hg rfl) (.ofg hg rfl) ha' (by omega) (by omega) norm1_)) rfl ?_;refine any_vG1 rfl rfl inferInstance (fun hg hgp=>(rk_loadN (.ofg hg rfl) (Ats.base hcell2 rfl) rfl)) rfl ?_;refine any_vG1 rfl rfl inferInstance (fun hg hgp=>(rk_move (.of rfl))) rfl ?_;refine any_vG1 rfl rfl inferInstance (fun hg hgp=>(rk_sub (.ofg hg rfl) (.of rfl) (ini (by omega)))) rfl ?_;refine any_vG1 rfl rfl inferInstance (fun hg hgp=>(rk_buildL (.cons (.ofg hg rfl) (.cons (.ofg hg rfl) .nil)) norm_)) rfl ?_;refine any_callG1 rfl rfl (fun hg=>(rk_call (.of rfl) (.cons (.ofg hg rfl) (.cons (.ofg hg rfl) .nil)) inferInstance normc_)) rfl (fun hg w' hm'=>(hfo w')) ?_;refine any_vG1 rfl rfl inferInstance (fun hg hgp=>(rk_not (.ofg hg rfl))) rfl ?_;refine any_val (rk_pick_and (.of rfl) rfl) rfl ?_)
        with_reducible refine any_end ?_
        (refine n_t ?_;refine c_b rfl (fun hcd=>?_) (fun hcd=>?_);refine tr_region ?_;refine m_v rfl rfl ?_;refine m_v rfl rfl ?_;refine tr_new (rk_sliceLit (.cons (.of rfl) .nil) rfl rfl rfl rfl) rfl (fun _ _=>?_);rotate_left;refine tr_skip ?_;refine tr_blk_normal ?_;refine tr_then ?_;refine tr_region ?_;refine tr_val (rk_add (.of rfl) (.of rfl) (ini (by omega))) rfl ?_;refine m_v rfl rfl ?_;refine n_t ?_;rotate_right)
        · have hb:jmpB l k = true:=by
            rw [hJ]
            simp at hcd
            rw [hcd.2];rfl
          rw [hb,if_pos rfl] at hs
          have hsv:natsV (jmpK l (k + 1)) = natsV (jmpK l k)++[.int .i64 (k:Nat)]:=by rw [hs,natsV_app];rfl
          have hsn:(jmpK l (k + 1)).length = (jmpK l k).length + 1:=by rw [hs];simp
          have hol:(natsV (jmpK l k)).length = (jmpK l k).length * 1:=natsV_len _
          refine tr_appendB (.of rfl) (.of rfl) (.there .here) .here norm_ (by rfl) (okc_cons rfl okc_nil) (by rfl) (by rfl) (by rfl) lenx_ (by rfl) ?_
          intro v'
          (refine a_s rfl rfl ?_;refine tr_nil ?_;refine tr_blk_normal ?_;refine tr_then ?_;refine tr_region ?_;refine tr_val (rk_add (.of rfl) (.of rfl) (ini (by omega))) rfl ?_;refine m_v rfl rfl ?_;refine n_t ?_)
          apply tr_next (k + 1,v') (show k + 1 ≤ l.length by omega) (show l.length - (k + 1) < l.length - k by omega)
          case hs1=>exact .cons rfl (.cons rfl (.cons rfl (.cons rfl (.cons rfl .nil))))
          case ht=>
            show Takes _ [row 3 1 v' (jmpK l (k + 1)).length (natsV (jmpK l (k + 1)))] _
            rw [hsn,hsv]
            exact .cons .here .nil
        · have hb:jmpB l k = false:=by
            rw [hJ]
            simp at hcd
            rcases hcd with h | h
            · omega
            · rw [h];rfl
          rw [hb,if_neg (by decide),List.append_nil] at hs
          apply tr_next (k + 1,v) (show k + 1 ≤ l.length by omega) (show l.length - (k + 1) < l.length - k by omega)
          case hs1=>exact .cons rfl (.cons rfl (.cons rfl (.cons rfl (.cons rfl .nil))))
          case ht=>
            show Takes _ [row 3 1 v (jmpK l (k + 1)).length (natsV (jmpK l (k + 1)))] _
            rw [hs]
            exact .cons .here .nil
    · obtain rfl:k = l.length:=by omega
      (refine s_r ?_;refine tr_val (rk_lss (.of rfl) (.of rfl)) rfl ?_;refine n_t ?_;refine tr_seq ?_;refine c_d rfl (fun _=>by omega) (fun hcd=>?_);refine x_t ?_;refine tr_then_exit ?_;refine tr_blk_exit ?_;refine tr_then ?_;refine s_r ?_;refine m_v rfl rfl ?_;refine a_s rfl rfl ?_;refine a_s rfl rfl ?_;refine n_t ?_;refine tr_ret ?_)
      first | with_reducible apply tr_retM | with_reducible apply tr_endM
      case he=>exact ends2 rfl rfl rfl
      case hR=>
        intro w' hm'
        exact gives_end v trivial (by exact .cons .here .nil) hm' rfl
end Go.Proofs.A1
namespace Go.Proofs.A1
open Go Go.SL
section
variable {P:Program} {c:Cx} {sl:Slots} {hs:List Asn} {dst:Option Tmp} {ty:TypeId} {pos:String} {af:Array Edge} {g:Option (Nat × Bool)}
theorem rk_quo8 {t u:TypeId} {x y:Operand} {a b:Int} (hx:Is sl x (.int .u8 a)) (hy:Is sl y (.int .u8 b)) (h0:0 ≤ a ∧ a ≤ 255) (hb:0 < b) :
    RunV P c sl hs ⟨dst,.binOp .quo t x y u,ty,pos,af,g⟩ (.int .u8 (a / b)):=
  rk_bin hx hy fun w=>by
    have hw:IntKind.u8.wrap (a.tdiv b) = a / b:=by
      rw [Int.tdiv_eq_ediv_of_nonneg h0.1]
      have h2:0 ≤ a / b:=Int.ediv_nonneg h0.1 (by omega)
      have h3:a / b ≤ a:=Int.ediv_le_self _ h0.1
      exact u8w ⟨by omega,by omega⟩
    simp [eqGuard_int,binOp,Op.intDiv,show ¬ b = 0 from by omega,hw]
end
end Go.Proofs.A1
namespace Go.Proofs.A1
open Go Go.SL
theorem rk_eqlT {P:Program} {c:Cx} {sl:Slots} {hs:List Asn} {dst:Option Tmp} {ty:TypeId} {pos:String} {af:Array Edge} {g:Option (Nat × Bool)} {k:IntKind} {t u:TypeId} {x y:Operand} {a b:Int} (hx:Is sl x (.int k a)) (hy:Is sl y (.int k b)) (e:a = b) :
    RunV P c sl hs ⟨dst,.binOp .eql t x y u,ty,pos,af,g⟩ (.bool true):=by
  have:=rk_eql (P:=P) (c:=c) (hs:=hs) (dst:=dst) (ty:=ty) (pos:=pos) (af:=af) (g:=g) (t:=t) (u:=u) hx hy
  rwa [decide_eq_true e] at this
end Go.Proofs.A1
namespace Go.Proofs.A1
open Go Go.SL
theorem rk_convRd {P:Program} {c:Cx} {sl:Slots} {hs:List Asn} {dst:Option Tmp} {ty:TypeId} {pos:String} {af:Array Edge} {g:Option (Nat × Bool)} {t u e:TypeId} {x:Operand} {v:Value} {l:List Int} [ht:Und P t (.slice e)] [he:Und P e (.int .u8)] [hu:Und P u .string] (hx:Is sl x v) (hr:∀ w,Mem c hs w → Rd w v 1 (byts l)) :
    RunV P c sl hs ⟨dst,.convert t u x,ty,pos,af,g⟩ (.string (strOf l)):=
  ⟨by simp,fun ac w ha hm=>by
    obtain ⟨a,cp,b,o,rfl,_,_,ha',hc⟩:=hr w hm
    have h1:(Conv.bytesToString (.slice a (byts l).length cp)).run P w = .ok (.string (strOf l)) w:=by
      cases l with
      | nil =>
        cases a with
        | none=>simp [Conv.bytesToString,byts];rfl
        | some ad=>exact run_bytesToString w ad 0 cp [] (by simp [loadCells,loadCellsFrom])
      | cons y r =>
        have:=ha' (by simp [byts])
        subst this
        rw [byts_length]
        refine run_bytesToString w _ _ cp (y :: r) (rk_loadCells (by simp) (fun j v h=>?_))
        have h2:(byts (y :: r))[j]? = some [v]:=by
          rw [List.getElem?_map] at h
          unfold byts
          rw [List.getElem?_map]
          cases hj:(y :: r)[j]? with
          | none=>rw [hj] at h;cases h
          | some z=>rw [hj] at h;cases h;rfl
        have:=(hc j _ h2).2 0 v rfl
        simpa using this
    simp only [execOp,hx ac ha]
    refine value_of ?_
    rw [run_convert_bytes_string w t u e _ _ _ ht.eq he.eq hu.eq,h1]⟩
theorem natsV_intg (l:List Nat):natsV l = intgV (l.map fun (n:Nat)=>(n:Int)):=by
  unfold natsV intgV
  rw [List.flatMap_map]
end Go.Proofs.A1
namespace Go.Proofs.A1
open Go Go.SL
end Go.Proofs.A1
namespace Go.Proofs.A1
open Go Go.SL
end Go.Proofs.A1
namespace Go.Proofs.A1
open Go Go.SL
theorem pure_at {l:List Oper} {p d k:Nat} {x:Operand} {ty:TypeId} {pos:String} {af:Array Edge} (h:l[p]? = some ⟨some d,.extract x k,ty,pos,af,none⟩) (h2:Region.noSelect l.toArray = true) (h3:Region.free .any l.toArray ((List.range l.length).map fun j=>((masks l []).getD p 0).testBit j).toArray p = true):PureAt l p:=⟨d,x,k,ty,pos,af,h,h2,h3⟩
end Go.Proofs.A1
