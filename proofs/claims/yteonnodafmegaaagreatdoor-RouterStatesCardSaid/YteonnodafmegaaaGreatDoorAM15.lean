/- Parts of the proof: PS. -/
import Derived.Test.YteonnodafmegaaaGreatDoorAM14
import Derived.Test.YteonnodafmegaaaGreatDoorAM04
import Derived.Test.YteonnodafmegaaaGreatDoorAM06
set_option linter.unusedSectionVars false
set_option linter.unusedVariables false
set_option linter.unusedSimpArgs false
namespace Go.Proofs.A1
open Go Go.SL
theorem lK {l:List Int}:aV (0::l)=aV l:=by
 conv=>lhs;unfold aV
 rw [if_neg (by decide)]
theorem nW (a:Int):aV [a]=a:=by
 unfold aV
 split
 ·rfl
 ·rename_i q;rw [Decidable.not_not] at q;rw [q];rfl
theorem lJ {a:Int} {l:List Int} (h:a≠0):aV (a::l)=a:=by unfold aV;rw [if_pos h]
theorem IA {r:Ro} {o:ByteArray} (h:pn r o=0):o∈cm r:=by
 have:=(bH (by decide)).1 h
 exact Classical.byContradiction fun q=>absurd (bT.2 q) (of_decide_eq_false this)
theorem Lw {l1 l2:List ByteArray} {e bad:Int} (h1:e=bad) (h2:bad≠0→l1=[]) (h3:bad=0→l1=l2):O0 l1 l2 e bad=true:=by
 subst h1
 unfold O0
 by_cases h:e=0
 ·rw [h3 h,h];simp
 ·rw [h2 h];simp [h]
theorem cB {v1 v2:Value} {l1 l2:List ByteArray} {e bad:Int} {w:World} (h1:Rd w v1 1 (fg l1)) (h2:Rd w v2 1 (fg l2)) (e1:e=bad) (e2:bad≠0→l1=[]) (e3:bad=0→l1=l2):aj Tryz.prog 35 [v1,.int .i64 e,.int .i64 bad,v2] w (.bool true):=by
 have:=Lz (e:=e) (bad:=bad) h1 h2
 rwa [Lw e1 e2 e3] at this
set_option maxRecDepth 20000 in
set_option maxHeartbeats 4000000 in
theorem Cn {r:Ro} {s d t p:Value} {w:World} (h:RR w r s d t p) (v:Int) (so de:ByteArray):aj Tryz.prog 3 [RA r s d t p,.agg #[.int .i64 v,.string so,.string de]] w (.bool true):=by
 have h1:=Rd.one h.sr
 have h2:=Rd.one h.de
 have h3:=Rd.one h.ti
 have h4:=Rd.one h.po
 have U3:∀ {w'},aF [] w w'→aj Tryz.prog 18 [.agg #[.int .i64 r.lv,.int .i64 r.ma,s,d,t,p]] w' (.bool (AF r)):=fun hk=>KZ (h.keeps hk)
 have Wd:∀ w',aj Tryz.prog 19 [.agg #[.int .i64 v,.string so,.string de]] w' (.bool (Tw so de)):=fun w'=>Dq v so de w'
 have SI:mi r→∀ {w'},aF [] w w'→aj Tryz.prog 25 [.agg #[.int .i64 r.lv,.int .i64 r.ma,s,d,t,p]] w' (.int .i64 (fN r)):=fun hf _ hk=>vY (h.keeps hk) hf
 have qT:∀ {w'},aF [] w w'→aj Tryz.prog 26 [.agg #[.int .i64 r.lv,.int .i64 r.ma,s,d,t,p],.string de] w' (.int .i64 (pn r de)):=fun hk=>Di de (h.keeps hk)
 have H5:∀ {w'},aF [] w w'→aj Tryz.prog 27 [.agg #[.int .i64 r.lv,.int .i64 r.ma,s,d,t,p],.int .i64 v] w' (.int .i64 (tA r v)):=fun hk=>zH v (h.keeps hk)
 have hsrc:∀ {w'},aF [] w w'→aj Tryz.prog 29 [.agg #[.int .i64 r.lv,.int .i64 r.ma,s,d,t,p],.string so] w' (.int .i64 (Az r so)):=fun hk=>Dh so (h.keeps hk)
 unfold RA
 refine ah Tryz.func3 rfl rfl ?_
 (refine Jr<|Jy rfl rfl fun _ _=>Jy rfl rfl fun _ _=>Ja rfl<|Jn<|Jq<|Jr<|ag ng rfl (fun w' az=>(EI w')) ?_;refine JH rfl<|Jv rfl<|aI rfl rfl inferInstance (fun hg bL=>(cF (.of rfl) (.there .here) ak (by rfl))) rfl ?_;refine mq rfl rfl (fun hg=>(bh (.of rfl) (.cons (.cA hg rfl) .nil) inferInstance gJ)) rfl (fun hg w' az=>(U3 (Mem.keeps az))) ?_;refine aI rfl rfl inferInstance (fun hg bL=>(fG (.cA bL rfl))) rfl ?_;refine ab (bW (.of rfl) rfl) rfl ?_;refine Jv rfl<|aI rfl rfl inferInstance (fun hg bL=>(cF (.of rfl) .here ak (by rfl))) rfl ?_;refine mq rfl rfl (fun hg=>(bh (.of rfl) (.cons (.cA hg rfl) .nil) inferInstance gJ)) rfl (fun hg w' az=>(Wd w')) ?_;refine aI rfl rfl inferInstance (fun hg bL=>(fG (.cA hg rfl))) rfl ?_;refine ab (bW (.of rfl) rfl) rfl ?_;refine Jn<|pV rfl (fun aq=>?_) fun aq=>?_;refine Jr<|ag ng rfl (fun w' az=>(EI w')) ?_;refine Ja rfl<|Jn<|Ju<|JT ?_;rotate_left;refine Jk<|Jq ?_;rotate_right)
 ·rfl
 have hA:vL r=true:=by
  have hb:AF r=true:=aq.1.2
  unfold AF at hb
  exact (Bool.and_eq_true _ _ ▸ hb).1
 have hF:=GJ hA
 have xG:=AG hA
 have Xm:=fun {w'}=>SI xG (w':=w')
 clear aq SI
 rename_i b2 sQ b3 rG
 skip
 with_reducible refine dM 10 (by kernel_rfl) ?_
 refine au (fun β=>(cF (.of rfl) (.there .here) ak (by rfl))) bB rfl ?_
 dsimp only [Nat.zero_add,Nat.reduceAdd]
 with_reducible apply fb (ι:=Value×Value×Value×Value) (Φ:=fun _=>True) (val:=fun x=>.agg #[.int .i64 r.lv,.int .i64 r.ma,x.1,x.2.1,x.2.2.1,x.2.2.2]) (own:=fun x=>rb r x) (g:=g4) (B:=[]) (args:=fun _=>[.agg #[.int .i64 r.lv,.int .i64 r.ma,s,d,t,p]])
 case hg=>exact uX
 case hB=>rfl
 case hr=>exact fun β=>bh (.of rfl) (.cons (.of rfl) .nil) inferInstance rfl
 case hd=>rfl
 case hc=>exact fun β w' hb=>fj (h.keeps hb.mem.keeps) xG
 dsimp only [Nat.reduceAdd]
 (refine au (fun β=>(ar (.of rfl) ae)) bB rfl ?_;refine au (fun β=>(ai (.of rfl) (At.lit .here rfl))) bB rfl ?_)
 dsimp only [Nat.reduceAdd]
 with_reducible apply fb (ι:=Value) (Φ:=fun _=>True) (val:=fun x=>.tuple #[x,.int .i64 (sP r de)]) (own:=fun x=>[row 9 1 x (kE r de).length (aM (kE r de))]) (g:=id) (B:=[1]) (args:=fun β=>[.agg #[.int .i64 r.lv,.int .i64 r.ma,(g4 (β 1)).1,(g4 (β 1)).2.1,(g4 (β 1)).2.2.1,(g4 (β 1)).2.2.2],.string de])
 case hg=>exact fun x=>⟨x,rfl⟩
 case hB=>kernel_rfl
 case hr=>exact fun β=>bh (.of rfl) ((.cons (.of rfl) (.cons (.of rfl) .nil))) inferInstance rfl
 case hd=>rfl
 case hc=>
  intro β w' hb
  have m1:=hb.at 1 List.mem_cons_self rfl
  dsimp only at m1
  exact N3 de (DT m1 (a8 _ _)) hF rfl rfl
 dsimp only [id_eq,Nat.reduceAdd]
 with_reducible apply au (F:=fun β=>.tuple #[β 4,.int .i64 (sP r de)])
 case hr=>(intro β;exact aY (.of rfl))
 case hi=>exact fun β β' h=>by simp only [h 4 (by kernel_rfl)]
 case hd=>rfl
 dsimp only [Nat.reduceAdd]
 with_reducible apply au (F:=fun β=>β 4)
 case hr=>(intro β;exact dG (.of rfl) rfl)
 case hi=>exact fun β β' h=>by simp only [h 4 (by kernel_rfl)]
 case hd=>rfl
 dsimp only [Nat.reduceAdd]
 with_reducible apply au (F:=fun β=>.int .i64 (sP r de))
 case hr=>(intro β;exact dG (.of rfl) rfl)
 case hi=>exact bB
 case hd=>rfl
 dsimp only [Nat.reduceAdd]
 with_reducible apply au (F:=fun β=>β 4)
 case hr=>(intro β;exact cq (.of rfl))
 case hi=>exact fun β β' h=>by simp only [h 4 (by kernel_rfl)]
 case hd=>rfl
 dsimp only [Nat.reduceAdd]
 with_reducible apply au (F:=fun β=>.int .i64 (sP r de))
 case hr=>(intro β;exact cq (.of rfl))
 case hi=>exact bB
 case hd=>rfl
 dsimp only [Nat.reduceAdd]
 refine fC fun β=>?_
 unfold rb
 dsimp only [eI,List.nil_append,List.cons_append,List.append_eq,Nat.reduceAdd]
 generalize β 4=xh
 generalize g4 (β 1)=ya
 clear β
 with_reducible refine cW (by kernel_rfl) ?_
 refine eb [JQ b2 r s d t p,bD b3 (.cells #[.int .i64 v,.string so,.string de] 29 (0,0)),JW xh (kE r de)] (by exact .cons oq (.cons eC (.cons ei .nil))) ?_
 refine Jt<|Jq ?_
 with_reducible refine dM 12 (by kernel_rfl) ?_
 refine au (fun β=>(cF (.of rfl) .here ak (by rfl))) bB rfl ?_
 dsimp only [Nat.zero_add,Nat.reduceAdd]
 with_reducible apply fb (ι:=Value×Value×Value×Value) (Φ:=fun _=>True) (val:=fun x=>.agg #[.int .i64 r.lv,.int .i64 r.ma,x.1,x.2.1,x.2.2.1,x.2.2.2]) (own:=fun x=>rb r x) (g:=g4) (B:=[]) (args:=fun _=>[.agg #[.int .i64 r.lv,.int .i64 r.ma,s,d,t,p]])
 case hg=>exact uX
 case hB=>rfl
 case hr=>exact fun β=>bh (.of rfl) (.cons (.of rfl) .nil) inferInstance rfl
 case hd=>rfl
 case hc=>exact fun β w' hb=>fj (h.keeps hb.mem.keeps) xG
 dsimp only [Nat.reduceAdd]
 (refine au (fun β=>(ar (.of rfl) ae)) bB rfl ?_;refine au (fun β=>(ai (.of rfl) (At.lit (.there .here) rfl))) bB rfl ?_;refine au (fun β=>(ar (.of rfl) ae)) bB rfl ?_;refine au (fun β=>(ai (.of rfl) (At.lit (.there .here) rfl))) bB rfl ?_)
 dsimp only [Nat.reduceAdd]
 with_reducible apply fb (ι:=Value) (Φ:=fun _=>True) (val:=fun x=>.tuple #[x,.int .i64 (nq r v de)]) (own:=fun x=>[row 9 1 x (kS r v de).length (aM (kS r v de))]) (g:=id) (B:=[1]) (args:=fun β=>[.agg #[.int .i64 r.lv,.int .i64 r.ma,(g4 (β 1)).1,(g4 (β 1)).2.1,(g4 (β 1)).2.2.1,(g4 (β 1)).2.2.2],.int .i64 v,.string de])
 case hg=>exact fun x=>⟨x,rfl⟩
 case hB=>kernel_rfl
 case hr=>exact fun β=>bh (.of rfl) ((.cons (.of rfl) (.cons (.of rfl) (.cons (.of rfl) .nil)))) inferInstance rfl
 case hd=>rfl
 case hc=>
  intro β w' hb
  have m1:=hb.at 1 List.mem_cons_self rfl
  dsimp only at m1
  exact N0 v de (DT m1 (a8 _ _)) hF rfl rfl
 dsimp only [id_eq,Nat.reduceAdd]
 with_reducible apply au (F:=fun β=>.tuple #[β 6,.int .i64 (nq r v de)])
 case hr=>(intro β;exact aY (.of rfl))
 case hi=>exact fun β β' h=>by simp only [h 6 (by kernel_rfl)]
 case hd=>rfl
 dsimp only [Nat.reduceAdd]
 with_reducible apply au (F:=fun β=>β 6)
 case hr=>(intro β;exact dG (.of rfl) rfl)
 case hi=>exact fun β β' h=>by simp only [h 6 (by kernel_rfl)]
 case hd=>rfl
 dsimp only [Nat.reduceAdd]
 with_reducible apply au (F:=fun β=>.int .i64 (nq r v de))
 case hr=>(intro β;exact dG (.of rfl) rfl)
 case hi=>exact bB
 case hd=>rfl
 dsimp only [Nat.reduceAdd]
 with_reducible apply au (F:=fun β=>β 6)
 case hr=>(intro β;exact cq (.of rfl))
 case hi=>exact fun β β' h=>by simp only [h 6 (by kernel_rfl)]
 case hd=>rfl
 dsimp only [Nat.reduceAdd]
 with_reducible apply au (F:=fun β=>.int .i64 (nq r v de))
 case hr=>(intro β;exact cq (.of rfl))
 case hi=>exact bB
 case hd=>rfl
 dsimp only [Nat.reduceAdd]
 refine fC fun β=>?_
 unfold rb
 dsimp only [eI,List.nil_append,List.cons_append,List.append_eq,Nat.reduceAdd]
 generalize β 6=xt
 generalize g4 (β 1)=ya
 clear β
 with_reducible refine cW (by kernel_rfl) ?_
 refine eb [JQ b2 r s d t p,bD b3 (.cells #[.int .i64 v,.string so,.string de] 29 (0,0)),JW xh (kE r de),JW xt (kS r v de)] (by exact .cons eC (.cons eC (.cons eC (.cons ei .nil)))) ?_
 refine Jt<|Jq ?_
 with_reducible refine dM 10 (by kernel_rfl) ?_
 refine au (fun β=>(cF (.of rfl) .here ak (by rfl))) bB rfl ?_
 dsimp only [Nat.zero_add,Nat.reduceAdd]
 with_reducible apply fb (ι:=Value×Value×Value×Value) (Φ:=fun _=>True) (val:=fun x=>.agg #[.int .i64 r.lv,.int .i64 r.ma,x.1,x.2.1,x.2.2.1,x.2.2.2]) (own:=fun x=>rb r x) (g:=g4) (B:=[]) (args:=fun _=>[.agg #[.int .i64 r.lv,.int .i64 r.ma,s,d,t,p]])
 case hg=>exact uX
 case hB=>rfl
 case hr=>exact fun β=>bh (.of rfl) (.cons (.of rfl) .nil) inferInstance rfl
 case hd=>rfl
 case hc=>exact fun β w' hb=>fj (h.keeps hb.mem.keeps) xG
 dsimp only [Nat.reduceAdd]
 (refine au (fun β=>(ar (.of rfl) ae)) bB rfl ?_;refine au (fun β=>(ai (.of rfl) (At.lit (.there .here) rfl))) bB rfl ?_)
 dsimp only [Nat.reduceAdd]
 with_reducible apply fb (ι:=Value) (Φ:=fun _=>True) (val:=fun x=>.tuple #[x,.int .i64 (sX r v)]) (own:=fun x=>[row 9 1 x (lL r v).length (aM (lL r v))]) (g:=id) (B:=[1]) (args:=fun β=>[.agg #[.int .i64 r.lv,.int .i64 r.ma,(g4 (β 1)).1,(g4 (β 1)).2.1,(g4 (β 1)).2.2.1,(g4 (β 1)).2.2.2],.int .i64 v])
 case hg=>exact fun x=>⟨x,rfl⟩
 case hB=>kernel_rfl
 case hr=>exact fun β=>bh (.of rfl) ((.cons (.of rfl) (.cons (.of rfl) .nil))) inferInstance rfl
 case hd=>rfl
 case hc=>
  intro β w' hb
  have m1:=hb.at 1 List.mem_cons_self rfl
  dsimp only at m1
  exact N4 v (DT m1 (a8 _ _)) hF rfl rfl
 dsimp only [id_eq,Nat.reduceAdd]
 with_reducible apply au (F:=fun β=>.tuple #[β 4,.int .i64 (sX r v)])
 case hr=>(intro β;exact aY (.of rfl))
 case hi=>exact fun β β' h=>by simp only [h 4 (by kernel_rfl)]
 case hd=>rfl
 dsimp only [Nat.reduceAdd]
 with_reducible apply au (F:=fun β=>β 4)
 case hr=>(intro β;exact dG (.of rfl) rfl)
 case hi=>exact fun β β' h=>by simp only [h 4 (by kernel_rfl)]
 case hd=>rfl
 dsimp only [Nat.reduceAdd]
 with_reducible apply au (F:=fun β=>.int .i64 (sX r v))
 case hr=>(intro β;exact dG (.of rfl) rfl)
 case hi=>exact bB
 case hd=>rfl
 dsimp only [Nat.reduceAdd]
 with_reducible apply au (F:=fun β=>β 4)
 case hr=>(intro β;exact cq (.of rfl))
 case hi=>exact fun β β' h=>by simp only [h 4 (by kernel_rfl)]
 case hd=>rfl
 dsimp only [Nat.reduceAdd]
 with_reducible apply au (F:=fun β=>.int .i64 (sX r v))
 case hr=>(intro β;exact cq (.of rfl))
 case hi=>exact bB
 case hd=>rfl
 dsimp only [Nat.reduceAdd]
 refine fC fun β=>?_
 unfold rb
 dsimp only [eI,List.nil_append,List.cons_append,List.append_eq,Nat.reduceAdd]
 generalize β 4=xb
 generalize g4 (β 1)=ya
 clear β
 with_reducible refine cW (by kernel_rfl) ?_
 refine eb [JQ b2 r s d t p,bD b3 (.cells #[.int .i64 v,.string so,.string de] 29 (0,0)),JW xh (kE r de),JW xt (kS r v de),JW xb (lL r v)] (by exact .cons eC (.cons eC (.cons eC (.cons eC (.cons ei .nil))))) ?_
 refine Jt<|Jq ?_
 with_reducible refine dM 12 (by kernel_rfl) ?_
 refine au (fun β=>(cF (.of rfl) .here ak (by rfl))) bB rfl ?_
 dsimp only [Nat.zero_add,Nat.reduceAdd]
 with_reducible apply fb (ι:=Value×Value×Value×Value) (Φ:=fun _=>True) (val:=fun x=>.agg #[.int .i64 r.lv,.int .i64 r.ma,x.1,x.2.1,x.2.2.1,x.2.2.2]) (own:=fun x=>rb r x) (g:=g4) (B:=[]) (args:=fun _=>[.agg #[.int .i64 r.lv,.int .i64 r.ma,s,d,t,p]])
 case hg=>exact uX
 case hB=>rfl
 case hr=>exact fun β=>bh (.of rfl) (.cons (.of rfl) .nil) inferInstance rfl
 case hd=>rfl
 case hc=>exact fun β w' hb=>fj (h.keeps hb.mem.keeps) xG
 dsimp only [Nat.reduceAdd]
 (refine au (fun β=>(ar (.of rfl) ae)) bB rfl ?_;refine au (fun β=>(ai (.of rfl) (At.lit (.there .here) rfl))) bB rfl ?_;refine au (fun β=>(ar (.of rfl) ae)) bB rfl ?_;refine au (fun β=>(ai (.of rfl) (At.lit (.there .here) rfl))) bB rfl ?_)
 dsimp only [Nat.reduceAdd]
 with_reducible apply fb (ι:=Value) (Φ:=fun _=>True) (val:=fun x=>.tuple #[x,.int .i64 (lA r v so)]) (own:=fun x=>[row 9 1 x (lR r v so).length (aM (lR r v so))]) (g:=id) (B:=[1]) (args:=fun β=>[.agg #[.int .i64 r.lv,.int .i64 r.ma,(g4 (β 1)).1,(g4 (β 1)).2.1,(g4 (β 1)).2.2.1,(g4 (β 1)).2.2.2],.int .i64 v,.string so])
 case hg=>exact fun x=>⟨x,rfl⟩
 case hB=>kernel_rfl
 case hr=>exact fun β=>bh (.of rfl) ((.cons (.of rfl) (.cons (.of rfl) (.cons (.of rfl) .nil)))) inferInstance rfl
 case hd=>rfl
 case hc=>
  intro β w' hb
  have m1:=hb.at 1 List.mem_cons_self rfl
  dsimp only at m1
  exact NY v so (DT m1 (a8 _ _)) hF rfl rfl
 dsimp only [id_eq,Nat.reduceAdd]
 with_reducible apply au (F:=fun β=>.tuple #[β 6,.int .i64 (lA r v so)])
 case hr=>(intro β;exact aY (.of rfl))
 case hi=>exact fun β β' h=>by simp only [h 6 (by kernel_rfl)]
 case hd=>rfl
 dsimp only [Nat.reduceAdd]
 with_reducible apply au (F:=fun β=>β 6)
 case hr=>(intro β;exact dG (.of rfl) rfl)
 case hi=>exact fun β β' h=>by simp only [h 6 (by kernel_rfl)]
 case hd=>rfl
 dsimp only [Nat.reduceAdd]
 with_reducible apply au (F:=fun β=>.int .i64 (lA r v so))
 case hr=>(intro β;exact dG (.of rfl) rfl)
 case hi=>exact bB
 case hd=>rfl
 dsimp only [Nat.reduceAdd]
 with_reducible apply au (F:=fun β=>β 6)
 case hr=>(intro β;exact cq (.of rfl))
 case hi=>exact fun β β' h=>by simp only [h 6 (by kernel_rfl)]
 case hd=>rfl
 dsimp only [Nat.reduceAdd]
 with_reducible apply au (F:=fun β=>.int .i64 (lA r v so))
 case hr=>(intro β;exact cq (.of rfl))
 case hi=>exact bB
 case hd=>rfl
 dsimp only [Nat.reduceAdd]
 refine fC fun β=>?_
 unfold rb
 dsimp only [eI,List.nil_append,List.cons_append,List.append_eq,Nat.reduceAdd]
 generalize β 6=xu
 generalize g4 (β 1)=ya
 clear β
 with_reducible refine cW (by kernel_rfl) ?_
 refine eb [JQ b2 r s d t p,bD b3 (.cells #[.int .i64 v,.string so,.string de] 29 (0,0)),JW xh (kE r de),JW xt (kS r v de),JW xb (lL r v),JW xu (lR r v so)] (by exact .cons eC (.cons eC (.cons eC (.cons eC (.cons eC (.cons ei .nil)))))) ?_
 by_cases hb:fN r=0
 ·have hOk:=xj hb
  have Uh:=tH hb
  have q1:sP r de=pn r de:=by unfold sP;rw [hb,lK,nW]
  have q2:nq r v de=aV [tA r v,pn r de]:=by unfold nq;rw [hb,lK]
  have q3:sX r v=tA r v:=by unfold sX;rw [hb,lK,nW]
  have q4:lA r v so=aV [tA r v,Az r so]:=by unfold lA;rw [hb,lK]
  (refine Jt<|Jr<|ab (cr .here) rfl ?_;refine ag bC rfl (fun w' az=>(Xm (Mem.keeps az))) ?_;refine Ja rfl<|Ji<|Jv rfl<|Jv rfl<|Jv rfl<|Jv rfl<|Ja rfl<|Ja rfl<|Ja rfl<|Ja rfl<|Ji<|Ja rfl<|Ja rfl<|Ja rfl<|Ja rfl<|Jn<|Jq<|Jr<|Jv rfl<|JC rfl<|Jn<|Jd rfl fun aq=>Jq ?_)
  with_reducible refine dN 10 (by kernel_rfl) ?_
  (refine aH (cr .here) rfl ?_;refine np rfl rfl ae ?_;refine aH (gp (.there .here)) rfl ?_;refine eZ aZ rfl (fun w' az=>(qT (Mem.keeps az))) ?_;refine aH (cr .here) rfl ?_;refine np rfl rfl ae ?_;refine aH (gp (.there .here)) rfl ?_;refine eZ aZ rfl (fun w' az=>(H5 (Mem.keeps az))) ?_;refine aH (cq (.of rfl)) rfl ?_;refine aH (cq (.of rfl)) rfl ?_)
  with_reducible refine dW ?_
  refine Jn ?_
  with_reducible refine dM 13 (by kernel_rfl) ?_
  (refine au (fun β=>(aY (.of rfl))) bB rfl ?_;refine au (fun β=>(aY (.of rfl))) bB rfl ?_)
  dsimp only [Nat.zero_add,Nat.reduceAdd]
  refine kP (fun β=>(aA (.cons (.of rfl) (.cons (.of rfl) .nil)) rfl rfl rfl rfl)) (fun _ _ _=>rfl) rfl ?_
  dsimp only [Nat.reduceAdd]
  with_reducible apply cH (B:=[2]) (F:=fun _=>.int .i64 (nq r v de)) (args:=fun β=>[.slice (some ⟨eQ (β 2),0,none⟩) 2 2])
  case hB=>first | rfl | kernel_rfl
  case hr=>exact fun β=>bh (.of rfl) (.cons (.of rfl) .nil) inferInstance rfl
  case hi=>exact bB
  case hd=>rfl
  case hc=>
   intro β w' hb
   have m2:=hb.at 2 List.mem_cons_self (s:=⟨fun β=>.slice (some ⟨eQ (β 2),0,none⟩) 2 2,fun β=>[bD (eQ (β 2)) (.cells #[.int .i64 (tA r v),.int .i64 (pn r de)] 3 (0,0))]⟩) (by kernel_rfl)
   dsimp only [List.cons_append,List.nil_append] at m2
   rw [q2]
   exact zw _ [tA r v,pn r de] w' (Mem.dh m2 (by exact .here) rfl rfl)
  dsimp only [Nat.reduceAdd]
  (refine au (fun β=>(aY (.of rfl))) bB rfl ?_;refine au (fun β=>(cF (.of rfl) .here ak (by rfl))) bB rfl ?_;refine au (fun β=>(ar (.of rfl) ae)) bB rfl ?_;refine au (fun β=>(ai (.of rfl) (At.lit (.there .here) rfl))) bB rfl ?_)
  dsimp only [Nat.reduceAdd]
  with_reducible apply cH (B:=[]) (F:=fun _=>.int .i64 (Az r so)) (args:=fun β=>[.agg #[.int .i64 r.lv,.int .i64 r.ma,s,d,t,p],.string so])
  case hB=>first | rfl | kernel_rfl
  case hr=>exact fun β=>bh (.of rfl) (.cons (.of rfl) (.cons (.of rfl) .nil)) inferInstance rfl
  case hi=>exact bB
  case hd=>rfl
  case hc=>exact fun β w' hb=>hsrc hb.mem.keeps
  dsimp only [Nat.reduceAdd]
  refine kP (fun β=>(aA (.cons (.of rfl) (.cons (.of rfl) .nil)) rfl rfl rfl rfl)) (fun _ _ _=>rfl) rfl ?_
  dsimp only [Nat.reduceAdd]
  with_reducible apply cH (B:=[9]) (F:=fun _=>.int .i64 (lA r v so)) (args:=fun β=>[.slice (some ⟨eQ (β 9),0,none⟩) 2 2])
  case hB=>first | rfl | kernel_rfl
  case hr=>exact fun β=>bh (.of rfl) (.cons (.of rfl) .nil) inferInstance rfl
  case hi=>exact bB
  case hd=>rfl
  case hc=>
   intro β w' hb
   have m2:=hb.at 9 List.mem_cons_self (s:=⟨fun β=>.slice (some ⟨eQ (β 9),0,none⟩) 2 2,fun β=>[bD (eQ (β 9)) (.cells #[.int .i64 (tA r v),.int .i64 (Az r so)] 3 (0,0))]⟩) (by kernel_rfl)
   dsimp only [List.cons_append,List.nil_append] at m2
   rw [q4]
   exact zw _ [tA r v,Az r so] w' (Mem.dh m2 (by exact .here) rfl rfl)
  dsimp only [Nat.reduceAdd]
  (refine au (fun β=>(cq (.of rfl))) bB rfl ?_;refine au (fun β=>(cq (.of rfl))) bB rfl ?_)
  dsimp only [Nat.reduceAdd]
  refine fC fun β=>?_
  dsimp only [eI,List.nil_append,List.cons_append,List.append_eq,Nat.reduceAdd]
  generalize eQ (β 2)=g2
  generalize eQ (β 9)=g9
  clear β
  with_reducible refine cW (by kernel_rfl) ?_
  refine eb [JQ b2 r s d t p,bD b3 (.cells #[.int .i64 v,.string so,.string de] 29 (0,0)),JW xh (kE r de),JW xt (kS r v de),JW xb (lL r v),JW xu (lR r v so)] (by exact .cons bI (.cons bI (.cons bI (.cons bI (.cons bI (.cons bI .nil)))))) ?_
  have zi:=hOk.lim.2.1
  by_cases hV:tA r v=0
  ·by_cases hD:pn r de=0
   ·have Nw:=IA hD
    have hne:de≠⟨#[]⟩:=Uh.ne (.inr (.inl Nw))
    have z2:nq r v de=0:=by rw [q2];rw [hV,lK,nW];exact hD
    by_cases hS:Az r so=0
    ·have z4:lA r v so=0:=by rw [q4];rw [hV,lK,nW];exact hS
     (refine Jt<|Jq<|Jr<|Jv rfl<|JC rfl<|Jn<|Jd rfl fun aq=>Jg<|ab (cr .here) rfl ?_;refine bF rfl rfl ae ?_;refine JL rfl (.there .here) rfl ?_)
     refine JN aZ rfl (fun w1 aJ=>zl de hne (by omega) (h.keeps aJ.keeps)) ?_
     rintro yh _
     try dsimp only [id_eq,List.cons_append,List.nil_append]
     (refine Ja rfl<|Jn<|Jq<|Jr<|Jv rfl<|JC rfl<|Jn<|Jd rfl fun aq=>Jg<|ab (cr (.there .here)) rfl ?_;refine bF rfl rfl ae ?_;refine JL rfl bI rfl<|bF rfl rfl ae ?_;refine JL rfl bI rfl ?_)
     refine JN dK rfl (fun w1 aJ=>yl v de hne (h.keeps aJ.keeps)) ?_
     rintro yt _
     try dsimp only [id_eq,List.cons_append,List.nil_append]
     (refine Ja rfl<|Jn<|Jq<|Jr<|Jv rfl<|JC rfl<|Jn<|Jd rfl fun aq=>Jg<|ab (cr bI) rfl ?_;refine bF rfl rfl ae ?_;refine JL rfl cY rfl ?_)
     refine JN aZ rfl (fun w1 aJ=>zL v (h.keeps aJ.keeps) xG) ?_
     rintro yb _
     try dsimp only [id_eq,List.cons_append,List.nil_append]
     (refine Ja rfl<|Jn<|Jq<|Jr<|Jv rfl<|JC rfl<|Jn<|Jd rfl fun aq=>Jg<|ab (cr cY) rfl ?_;refine bF rfl rfl ae ?_;refine JL rfl ei rfl<|bF rfl rfl ae ?_;refine JL rfl ei rfl ?_)
     refine JN dK rfl (fun w1 aJ=>DA v so (fun x hx=>Uh.ne (.inr (.inl hx))) (h.keeps aJ.keeps) xG) ?_
     rintro yu _
     try dsimp only [id_eq,List.cons_append,List.nil_append]
     refine Ja rfl<|Ji<|ab (cr ei) rfl ?_
     refine JN bC rfl (fun w1 aJ=>fj (h.keeps aJ.keeps) xG) ?_
     rintro ⟨o1,o2,o3,o4⟩ _
     try dsimp only [id_eq,List.cons_append,List.nil_append]
     refine cP (r:=r) (s:=o1) (d:=o2) (t:=o3) (p:=o4) (a8 _ _) fun ma mb mc md=>?_
     skip
     refine ag bC rfl (fun w1 aJ=>bZ ⟨cE aJ (by exact .here) rfl,cG aJ (by exact Take.there .here) rfl,cD aJ bI rfl,cy aJ cY rfl⟩ hF) ?_
     (refine Jv rfl<|ab (iZ (.of rfl) (.of rfl) rfl) rfl ?_;refine Jv rfl<|JK rfl rfl<|Jv rfl<|JK rfl rfl<|Jv rfl<|JK rfl rfl<|Jv rfl<|JK rfl rfl<|Jv rfl<|JK rfl rfl ?_)
     refine ag eS rfl (fun w1 aJ=>cB (l1:=kE r de) (l2:=jV r de) (br aJ jL rfl) (br aJ tL rfl) q1 (fun q=>absurd hD q) (fun _=>(if_neg (not_not_intro (q1.trans hD))).trans (qS hb hne).symm)) ?_
     (refine ab (bJ (.of rfl) (.of rfl) (.of rfl) rfl) rfl ?_;refine Jv rfl<|JK rfl rfl<|Jv rfl<|JK rfl rfl<|Jv rfl<|JK rfl rfl<|Jv rfl<|JK rfl rfl<|Jv rfl<|JK rfl rfl ?_)
     refine ag eS rfl (fun w1 aJ=>cB (l1:=kS r v de) (l2:=sL r v de) (br aJ vp rfl) (br aJ oq rfl) rfl (fun q=>if_pos q) (fun _=>(if_neg (not_not_intro z2)).trans (DE hb v Nw).symm)) ?_
     (refine ab (bJ (.of rfl) (.of rfl) (.of rfl) rfl) rfl ?_;refine Jv rfl<|JK rfl rfl<|Jv rfl<|JK rfl rfl<|Jv rfl<|JK rfl rfl<|Jv rfl<|JK rfl rfl<|Jv rfl<|JK rfl rfl ?_)
     refine ag eS rfl (fun w1 aJ=>cB (l1:=lL r v) (l2:=zM r v) (br aJ kl rfl) (br aJ eC rfl) q3 (fun q=>absurd hV q) (fun _=>(if_neg (not_not_intro (q3.trans hV))).trans (tJ hb v).symm)) ?_
     (refine ab (bJ (.of rfl) (.of rfl) (.of rfl) rfl) rfl ?_;refine Jv rfl<|JK rfl rfl<|Jv rfl<|JK rfl rfl<|Jv rfl<|JK rfl rfl<|Jv rfl<|JK rfl rfl<|Jv rfl<|JK rfl rfl ?_)
     refine ag eS rfl (fun w1 aJ=>cB (l1:=lR r v so) (l2:=Ce r v so) (br aJ MT rfl) (br aJ ei rfl) rfl (fun q=>if_pos q) (fun _=>(if_neg (not_not_intro z4)).trans (DB hb v so).symm)) ?_
     (refine ab (bJ (.of rfl) (.of rfl) (.of rfl) rfl) rfl ?_;refine Ja rfl<|Jn<|Je<|JT ?_)
     rfl
    ·have z4:lA r v so≠0:=by rw [q4];rw [hV,lK,nW];exact hS
     (refine Jt<|Jq<|Jr<|Jv rfl<|JC rfl<|Jn<|Jd rfl fun aq=>Jg<|ab (cr .here) rfl ?_;refine bF rfl rfl ae ?_;refine JL rfl (.there .here) rfl ?_)
     refine JN aZ rfl (fun w1 aJ=>zl de hne (by omega) (h.keeps aJ.keeps)) ?_
     rintro yh _
     try dsimp only [id_eq,List.cons_append,List.nil_append]
     (refine Ja rfl<|Jn<|Jq<|Jr<|Jv rfl<|JC rfl<|Jn<|Jd rfl fun aq=>Jg<|ab (cr (.there .here)) rfl ?_;refine bF rfl rfl ae ?_;refine JL rfl bI rfl<|bF rfl rfl ae ?_;refine JL rfl bI rfl ?_)
     refine JN dK rfl (fun w1 aJ=>yl v de hne (h.keeps aJ.keeps)) ?_
     rintro yt _
     try dsimp only [id_eq,List.cons_append,List.nil_append]
     (refine Ja rfl<|Jn<|Jq<|Jr<|Jv rfl<|JC rfl<|Jn<|Jd rfl fun aq=>Jg<|ab (cr bI) rfl ?_;refine bF rfl rfl ae ?_;refine JL rfl cY rfl ?_)
     refine JN aZ rfl (fun w1 aJ=>zL v (h.keeps aJ.keeps) xG) ?_
     rintro yb _
     try dsimp only [id_eq,List.cons_append,List.nil_append]
     refine Ja rfl<|Jn<|Jq<|Jr<|Jv rfl<|JC rfl<|Jn<|Jc rfl fun aq=>Jk<|Jr<|ab (cr cY) rfl ?_
     refine JN bC rfl (fun w1 aJ=>fj (h.keeps aJ.keeps) xG) ?_
     rintro ⟨o1,o2,o3,o4⟩ _
     try dsimp only [id_eq,List.cons_append,List.nil_append]
     refine cP (r:=r) (s:=o1) (d:=o2) (t:=o3) (p:=o4) (a8 _ _) fun ma mb mc md=>?_
     skip
     refine ag bC rfl (fun w1 aJ=>bZ ⟨cE aJ (by exact .here) rfl,cG aJ (by exact Take.there .here) rfl,cD aJ bI rfl,cy aJ cY rfl⟩ hF) ?_
     (refine Jv rfl<|ab (iZ (.of rfl) (.of rfl) rfl) rfl ?_;refine Jv rfl<|JK rfl rfl<|Jv rfl<|JK rfl rfl<|Jv rfl<|JK rfl rfl<|Jv rfl<|JK rfl rfl<|Jv rfl<|JK rfl rfl ?_)
     refine ag eS rfl (fun w1 aJ=>cB (l1:=kE r de) (l2:=jV r de) (br aJ gC rfl) (br aJ oq rfl) q1 (fun q=>absurd hD q) (fun _=>(if_neg (not_not_intro (q1.trans hD))).trans (qS hb hne).symm)) ?_
     (refine ab (bJ (.of rfl) (.of rfl) (.of rfl) rfl) rfl ?_;refine Jv rfl<|JK rfl rfl<|Jv rfl<|JK rfl rfl<|Jv rfl<|JK rfl rfl<|Jv rfl<|JK rfl rfl<|Jv rfl<|JK rfl rfl ?_)
     refine ag eS rfl (fun w1 aJ=>cB (l1:=kS r v de) (l2:=sL r v de) (br aJ jL rfl) (br aJ eC rfl) rfl (fun q=>if_pos q) (fun _=>(if_neg (not_not_intro z2)).trans (DE hb v Nw).symm)) ?_
     (refine ab (bJ (.of rfl) (.of rfl) (.of rfl) rfl) rfl ?_;refine Jv rfl<|JK rfl rfl<|Jv rfl<|JK rfl rfl<|Jv rfl<|JK rfl rfl<|Jv rfl<|JK rfl rfl<|Jv rfl<|JK rfl rfl ?_)
     refine ag eS rfl (fun w1 aJ=>cB (l1:=lL r v) (l2:=zM r v) (br aJ vp rfl) (br aJ ei rfl) q3 (fun q=>absurd hV q) (fun _=>(if_neg (not_not_intro (q3.trans hV))).trans (tJ hb v).symm)) ?_
     (refine ab (bJ (.of rfl) (.of rfl) (.of rfl) rfl) rfl ?_;refine Jv rfl<|JK rfl rfl<|Jv rfl<|JK rfl rfl<|Jv rfl<|JK rfl rfl<|Jv rfl<|JK rfl rfl<|Jv rfl<|JK rfl rfl ?_)
     refine ag eS rfl (fun w1 aJ=>cB (l1:=lR r v so) (l2:=[]) (br aJ kl rfl) (show Rd _ (.slice none 0 0) 1 (fg []) from Rd.nil _ 1) rfl (fun q=>if_pos q) (fun q=>absurd q z4)) ?_
     (refine ab (bJ (.of rfl) (.of rfl) (.of rfl) rfl) rfl ?_;refine Ja rfl<|Jn<|Je<|JT ?_)
     rfl
   ·skip
    have z2:nq r v de≠0:=by rw [q2];rw [hV,lK,nW];exact hD
    by_cases hS:Az r so=0
    ·have z4:lA r v so=0:=by rw [q4];rw [hV,lK,nW];exact hS
     (refine Jt<|Jq<|Jr<|Jv rfl<|JC rfl<|Jn<|Jc rfl fun aq=>Jk<|Jq<|Jr<|Jv rfl<|JC rfl<|Jn<|Jc rfl fun aq=>Jk<|Jq<|Jr<|Jv rfl<|JC rfl<|Jn<|Jd rfl fun aq=>Jg<|ab (cr .here) rfl ?_;refine bF rfl rfl ae ?_;refine JL rfl (.there .here) rfl ?_)
     refine JN aZ rfl (fun w1 aJ=>zL v (h.keeps aJ.keeps) xG) ?_
     rintro yb _
     try dsimp only [id_eq,List.cons_append,List.nil_append]
     (refine Ja rfl<|Jn<|Jq<|Jr<|Jv rfl<|JC rfl<|Jn<|Jd rfl fun aq=>Jg<|ab (cr (.there .here)) rfl ?_;refine bF rfl rfl ae ?_;refine JL rfl bI rfl<|bF rfl rfl ae ?_;refine JL rfl bI rfl ?_)
     refine JN dK rfl (fun w1 aJ=>DA v so (fun x hx=>Uh.ne (.inr (.inl hx))) (h.keeps aJ.keeps) xG) ?_
     rintro yu _
     try dsimp only [id_eq,List.cons_append,List.nil_append]
     refine Ja rfl<|Ji<|ab (cr bI) rfl ?_
     refine JN bC rfl (fun w1 aJ=>fj (h.keeps aJ.keeps) xG) ?_
     rintro ⟨o1,o2,o3,o4⟩ _
     try dsimp only [id_eq,List.cons_append,List.nil_append]
     refine cP (r:=r) (s:=o1) (d:=o2) (t:=o3) (p:=o4) (a8 _ _) fun ma mb mc md=>?_
     skip
     refine ag bC rfl (fun w1 aJ=>bZ ⟨cE aJ (by exact .here) rfl,cG aJ (by exact Take.there .here) rfl,cD aJ bI rfl,cy aJ cY rfl⟩ hF) ?_
     (refine Jv rfl<|ab (iZ (.of rfl) (.of rfl) rfl) rfl ?_;refine Jv rfl<|JK rfl rfl<|Jv rfl<|JK rfl rfl<|Jv rfl<|JK rfl rfl<|Jv rfl<|JK rfl rfl<|Jv rfl<|JK rfl rfl ?_)
     refine ag eS rfl (fun w1 aJ=>cB (l1:=kE r de) (l2:=[]) (br aJ B6 rfl) (show Rd _ (.slice none 0 0) 1 (fg []) from Rd.nil _ 1) q1 (fun q=>if_pos (by rw [q1];exact q)) (fun q=>absurd q hD)) ?_
     (refine ab (bJ (.of rfl) (.of rfl) (.of rfl) rfl) rfl ?_;refine Jv rfl<|JK rfl rfl<|Jv rfl<|JK rfl rfl<|Jv rfl<|JK rfl rfl<|Jv rfl<|JK rfl rfl<|Jv rfl<|JK rfl rfl ?_)
     refine ag eS rfl (fun w1 aJ=>cB (l1:=kS r v de) (l2:=[]) (br aJ gC rfl) (show Rd _ (.slice none 0 0) 1 (fg []) from Rd.nil _ 1) rfl (fun q=>if_pos q) (fun q=>absurd q z2)) ?_
     (refine ab (bJ (.of rfl) (.of rfl) (.of rfl) rfl) rfl ?_;refine Jv rfl<|JK rfl rfl<|Jv rfl<|JK rfl rfl<|Jv rfl<|JK rfl rfl<|Jv rfl<|JK rfl rfl<|Jv rfl<|JK rfl rfl ?_)
     refine ag eS rfl (fun w1 aJ=>cB (l1:=lL r v) (l2:=zM r v) (br aJ jL rfl) (br aJ eC rfl) q3 (fun q=>absurd hV q) (fun _=>(if_neg (not_not_intro (q3.trans hV))).trans (tJ hb v).symm)) ?_
     (refine ab (bJ (.of rfl) (.of rfl) (.of rfl) rfl) rfl ?_;refine Jv rfl<|JK rfl rfl<|Jv rfl<|JK rfl rfl<|Jv rfl<|JK rfl rfl<|Jv rfl<|JK rfl rfl<|Jv rfl<|JK rfl rfl ?_)
     refine ag eS rfl (fun w1 aJ=>cB (l1:=lR r v so) (l2:=Ce r v so) (br aJ vp rfl) (br aJ ei rfl) rfl (fun q=>if_pos q) (fun _=>(if_neg (not_not_intro z4)).trans (DB hb v so).symm)) ?_
     (refine ab (bJ (.of rfl) (.of rfl) (.of rfl) rfl) rfl ?_;refine Ja rfl<|Jn<|Je<|JT ?_)
     rfl
    ·have z4:lA r v so≠0:=by rw [q4];rw [hV,lK,nW];exact hS
     (refine Jt<|Jq<|Jr<|Jv rfl<|JC rfl<|Jn<|Jc rfl fun aq=>Jk<|Jq<|Jr<|Jv rfl<|JC rfl<|Jn<|Jc rfl fun aq=>Jk<|Jq<|Jr<|Jv rfl<|JC rfl<|Jn<|Jd rfl fun aq=>Jg<|ab (cr .here) rfl ?_;refine bF rfl rfl ae ?_;refine JL rfl (.there .here) rfl ?_)
     refine JN aZ rfl (fun w1 aJ=>zL v (h.keeps aJ.keeps) xG) ?_
     rintro yb _
     try dsimp only [id_eq,List.cons_append,List.nil_append]
     refine Ja rfl<|Jn<|Jq<|Jr<|Jv rfl<|JC rfl<|Jn<|Jc rfl fun aq=>Jk<|Jr<|ab (cr (.there .here)) rfl ?_
     refine JN bC rfl (fun w1 aJ=>fj (h.keeps aJ.keeps) xG) ?_
     rintro ⟨o1,o2,o3,o4⟩ _
     try dsimp only [id_eq,List.cons_append,List.nil_append]
     refine cP (r:=r) (s:=o1) (d:=o2) (t:=o3) (p:=o4) (a8 _ _) fun ma mb mc md=>?_
     skip
     refine ag bC rfl (fun w1 aJ=>bZ ⟨cE aJ (by exact .here) rfl,cG aJ (by exact Take.there .here) rfl,cD aJ bI rfl,cy aJ cY rfl⟩ hF) ?_
     (refine Jv rfl<|ab (iZ (.of rfl) (.of rfl) rfl) rfl ?_;refine Jv rfl<|JK rfl rfl<|Jv rfl<|JK rfl rfl<|Jv rfl<|JK rfl rfl<|Jv rfl<|JK rfl rfl<|Jv rfl<|JK rfl rfl ?_)
     refine ag eS rfl (fun w1 aJ=>cB (l1:=kE r de) (l2:=[]) (br aJ tL rfl) (show Rd _ (.slice none 0 0) 1 (fg []) from Rd.nil _ 1) q1 (fun q=>if_pos (by rw [q1];exact q)) (fun q=>absurd q hD)) ?_
     (refine ab (bJ (.of rfl) (.of rfl) (.of rfl) rfl) rfl ?_;refine Jv rfl<|JK rfl rfl<|Jv rfl<|JK rfl rfl<|Jv rfl<|JK rfl rfl<|Jv rfl<|JK rfl rfl<|Jv rfl<|JK rfl rfl ?_)
     refine ag eS rfl (fun w1 aJ=>cB (l1:=kS r v de) (l2:=[]) (br aJ B6 rfl) (show Rd _ (.slice none 0 0) 1 (fg []) from Rd.nil _ 1) rfl (fun q=>if_pos q) (fun q=>absurd q z2)) ?_
     (refine ab (bJ (.of rfl) (.of rfl) (.of rfl) rfl) rfl ?_;refine Jv rfl<|JK rfl rfl<|Jv rfl<|JK rfl rfl<|Jv rfl<|JK rfl rfl<|Jv rfl<|JK rfl rfl<|Jv rfl<|JK rfl rfl ?_)
     refine ag eS rfl (fun w1 aJ=>cB (l1:=lL r v) (l2:=zM r v) (br aJ gC rfl) (br aJ ei rfl) q3 (fun q=>absurd hV q) (fun _=>(if_neg (not_not_intro (q3.trans hV))).trans (tJ hb v).symm)) ?_
     (refine ab (bJ (.of rfl) (.of rfl) (.of rfl) rfl) rfl ?_;refine Jv rfl<|JK rfl rfl<|Jv rfl<|JK rfl rfl<|Jv rfl<|JK rfl rfl<|Jv rfl<|JK rfl rfl<|Jv rfl<|JK rfl rfl ?_)
     refine ag eS rfl (fun w1 aJ=>cB (l1:=lR r v so) (l2:=[]) (br aJ jL rfl) (show Rd _ (.slice none 0 0) 1 (fg []) from Rd.nil _ 1) rfl (fun q=>if_pos q) (fun q=>absurd q z4)) ?_
     (refine ab (bJ (.of rfl) (.of rfl) (.of rfl) rfl) rfl ?_;refine Ja rfl<|Jn<|Je<|JT ?_)
     rfl
  ·by_cases hD:pn r de=0
   ·have Nw:=IA hD
    have hne:de≠⟨#[]⟩:=Uh.ne (.inr (.inl Nw))
    have z2:nq r v de≠0:=by rw [q2];rw [lJ hV];exact hV
    by_cases hS:Az r so=0
    ·have z4:lA r v so≠0:=by rw [q4];rw [lJ hV];exact hV
     (refine Jt<|Jq<|Jr<|Jv rfl<|JC rfl<|Jn<|Jd rfl fun aq=>Jg<|ab (cr .here) rfl ?_;refine bF rfl rfl ae ?_;refine JL rfl (.there .here) rfl ?_)
     refine JN aZ rfl (fun w1 aJ=>zl de hne (by omega) (h.keeps aJ.keeps)) ?_
     rintro yh _
     try dsimp only [id_eq,List.cons_append,List.nil_append]
     refine Ja rfl<|Jn<|Jq<|Jr<|Jv rfl<|JC rfl<|Jn<|Jc rfl fun aq=>Jk<|Jq<|Jr<|Jv rfl<|JC rfl<|Jn<|Jc rfl fun aq=>Jk<|Jq<|Jr<|Jv rfl<|JC rfl<|Jn<|Jc rfl fun aq=>Jk<|Jr<|ab (cr (.there .here)) rfl ?_
     refine JN bC rfl (fun w1 aJ=>fj (h.keeps aJ.keeps) xG) ?_
     rintro ⟨o1,o2,o3,o4⟩ _
     try dsimp only [id_eq,List.cons_append,List.nil_append]
     refine cP (r:=r) (s:=o1) (d:=o2) (t:=o3) (p:=o4) (a8 _ _) fun ma mb mc md=>?_
     skip
     refine ag bC rfl (fun w1 aJ=>bZ ⟨cE aJ (by exact .here) rfl,cG aJ (by exact Take.there .here) rfl,cD aJ bI rfl,cy aJ cY rfl⟩ hF) ?_
     (refine Jv rfl<|ab (iZ (.of rfl) (.of rfl) rfl) rfl ?_;refine Jv rfl<|JK rfl rfl<|Jv rfl<|JK rfl rfl<|Jv rfl<|JK rfl rfl<|Jv rfl<|JK rfl rfl<|Jv rfl<|JK rfl rfl ?_)
     refine ag eS rfl (fun w1 aJ=>cB (l1:=kE r de) (l2:=jV r de) (br aJ tL rfl) (br aJ ei rfl) q1 (fun q=>absurd hD q) (fun _=>(if_neg (not_not_intro (q1.trans hD))).trans (qS hb hne).symm)) ?_
     (refine ab (bJ (.of rfl) (.of rfl) (.of rfl) rfl) rfl ?_;refine Jv rfl<|JK rfl rfl<|Jv rfl<|JK rfl rfl<|Jv rfl<|JK rfl rfl<|Jv rfl<|JK rfl rfl<|Jv rfl<|JK rfl rfl ?_)
     refine ag eS rfl (fun w1 aJ=>cB (l1:=kS r v de) (l2:=[]) (br aJ B6 rfl) (show Rd _ (.slice none 0 0) 1 (fg []) from Rd.nil _ 1) rfl (fun q=>if_pos q) (fun q=>absurd q z2)) ?_
     (refine ab (bJ (.of rfl) (.of rfl) (.of rfl) rfl) rfl ?_;refine Jv rfl<|JK rfl rfl<|Jv rfl<|JK rfl rfl<|Jv rfl<|JK rfl rfl<|Jv rfl<|JK rfl rfl<|Jv rfl<|JK rfl rfl ?_)
     refine ag eS rfl (fun w1 aJ=>cB (l1:=lL r v) (l2:=[]) (br aJ gC rfl) (show Rd _ (.slice none 0 0) 1 (fg []) from Rd.nil _ 1) q3 (fun q=>if_pos (by rw [q3];exact q)) (fun q=>absurd q hV)) ?_
     (refine ab (bJ (.of rfl) (.of rfl) (.of rfl) rfl) rfl ?_;refine Jv rfl<|JK rfl rfl<|Jv rfl<|JK rfl rfl<|Jv rfl<|JK rfl rfl<|Jv rfl<|JK rfl rfl<|Jv rfl<|JK rfl rfl ?_)
     refine ag eS rfl (fun w1 aJ=>cB (l1:=lR r v so) (l2:=[]) (br aJ jL rfl) (show Rd _ (.slice none 0 0) 1 (fg []) from Rd.nil _ 1) rfl (fun q=>if_pos q) (fun q=>absurd q z4)) ?_
     (refine ab (bJ (.of rfl) (.of rfl) (.of rfl) rfl) rfl ?_;refine Ja rfl<|Jn<|Je<|JT ?_)
     rfl
    ·have z4:lA r v so≠0:=by rw [q4];rw [lJ hV];exact hV
     (refine Jt<|Jq<|Jr<|Jv rfl<|JC rfl<|Jn<|Jd rfl fun aq=>Jg<|ab (cr .here) rfl ?_;refine bF rfl rfl ae ?_;refine JL rfl (.there .here) rfl ?_)
     refine JN aZ rfl (fun w1 aJ=>zl de hne (by omega) (h.keeps aJ.keeps)) ?_
     rintro yh _
     try dsimp only [id_eq,List.cons_append,List.nil_append]
     refine Ja rfl<|Jn<|Jq<|Jr<|Jv rfl<|JC rfl<|Jn<|Jc rfl fun aq=>Jk<|Jq<|Jr<|Jv rfl<|JC rfl<|Jn<|Jc rfl fun aq=>Jk<|Jq<|Jr<|Jv rfl<|JC rfl<|Jn<|Jc rfl fun aq=>Jk<|Jr<|ab (cr (.there .here)) rfl ?_
     refine JN bC rfl (fun w1 aJ=>fj (h.keeps aJ.keeps) xG) ?_
     rintro ⟨o1,o2,o3,o4⟩ _
     try dsimp only [id_eq,List.cons_append,List.nil_append]
     refine cP (r:=r) (s:=o1) (d:=o2) (t:=o3) (p:=o4) (a8 _ _) fun ma mb mc md=>?_
     skip
     refine ag bC rfl (fun w1 aJ=>bZ ⟨cE aJ (by exact .here) rfl,cG aJ (by exact Take.there .here) rfl,cD aJ bI rfl,cy aJ cY rfl⟩ hF) ?_
     (refine Jv rfl<|ab (iZ (.of rfl) (.of rfl) rfl) rfl ?_;refine Jv rfl<|JK rfl rfl<|Jv rfl<|JK rfl rfl<|Jv rfl<|JK rfl rfl<|Jv rfl<|JK rfl rfl<|Jv rfl<|JK rfl rfl ?_)
     refine ag eS rfl (fun w1 aJ=>cB (l1:=kE r de) (l2:=jV r de) (br aJ tL rfl) (br aJ ei rfl) q1 (fun q=>absurd hD q) (fun _=>(if_neg (not_not_intro (q1.trans hD))).trans (qS hb hne).symm)) ?_
     (refine ab (bJ (.of rfl) (.of rfl) (.of rfl) rfl) rfl ?_;refine Jv rfl<|JK rfl rfl<|Jv rfl<|JK rfl rfl<|Jv rfl<|JK rfl rfl<|Jv rfl<|JK rfl rfl<|Jv rfl<|JK rfl rfl ?_)
     refine ag eS rfl (fun w1 aJ=>cB (l1:=kS r v de) (l2:=[]) (br aJ B6 rfl) (show Rd _ (.slice none 0 0) 1 (fg []) from Rd.nil _ 1) rfl (fun q=>if_pos q) (fun q=>absurd q z2)) ?_
     (refine ab (bJ (.of rfl) (.of rfl) (.of rfl) rfl) rfl ?_;refine Jv rfl<|JK rfl rfl<|Jv rfl<|JK rfl rfl<|Jv rfl<|JK rfl rfl<|Jv rfl<|JK rfl rfl<|Jv rfl<|JK rfl rfl ?_)
     refine ag eS rfl (fun w1 aJ=>cB (l1:=lL r v) (l2:=[]) (br aJ gC rfl) (show Rd _ (.slice none 0 0) 1 (fg []) from Rd.nil _ 1) q3 (fun q=>if_pos (by rw [q3];exact q)) (fun q=>absurd q hV)) ?_
     (refine ab (bJ (.of rfl) (.of rfl) (.of rfl) rfl) rfl ?_;refine Jv rfl<|JK rfl rfl<|Jv rfl<|JK rfl rfl<|Jv rfl<|JK rfl rfl<|Jv rfl<|JK rfl rfl<|Jv rfl<|JK rfl rfl ?_)
     refine ag eS rfl (fun w1 aJ=>cB (l1:=lR r v so) (l2:=[]) (br aJ jL rfl) (show Rd _ (.slice none 0 0) 1 (fg []) from Rd.nil _ 1) rfl (fun q=>if_pos q) (fun q=>absurd q z4)) ?_
     (refine ab (bJ (.of rfl) (.of rfl) (.of rfl) rfl) rfl ?_;refine Ja rfl<|Jn<|Je<|JT ?_)
     rfl
   ·skip
    have z2:nq r v de≠0:=by rw [q2];rw [lJ hV];exact hV
    by_cases hS:Az r so=0
    ·have z4:lA r v so≠0:=by rw [q4];rw [lJ hV];exact hV
     refine Jt<|Jq<|Jr<|Jv rfl<|JC rfl<|Jn<|Jc rfl fun aq=>Jk<|Jq<|Jr<|Jv rfl<|JC rfl<|Jn<|Jc rfl fun aq=>Jk<|Jq<|Jr<|Jv rfl<|JC rfl<|Jn<|Jc rfl fun aq=>Jk<|Jq<|Jr<|Jv rfl<|JC rfl<|Jn<|Jc rfl fun aq=>Jk<|Jr<|ab (cr .here) rfl ?_
     refine JN bC rfl (fun w1 aJ=>fj (h.keeps aJ.keeps) xG) ?_
     rintro ⟨o1,o2,o3,o4⟩ _
     try dsimp only [id_eq,List.cons_append,List.nil_append]
     refine cP (r:=r) (s:=o1) (d:=o2) (t:=o3) (p:=o4) (a8 _ _) fun ma mb mc md=>?_
     skip
     refine ag bC rfl (fun w1 aJ=>bZ ⟨cE aJ (by exact .here) rfl,cG aJ (by exact Take.there .here) rfl,cD aJ bI rfl,cy aJ cY rfl⟩ hF) ?_
     (refine Jv rfl<|ab (iZ (.of rfl) (.of rfl) rfl) rfl ?_;refine Jv rfl<|JK rfl rfl<|Jv rfl<|JK rfl rfl<|Jv rfl<|JK rfl rfl<|Jv rfl<|JK rfl rfl<|Jv rfl<|JK rfl rfl ?_)
     refine ag eS rfl (fun w1 aJ=>cB (l1:=kE r de) (l2:=[]) (br aJ oq rfl) (show Rd _ (.slice none 0 0) 1 (fg []) from Rd.nil _ 1) q1 (fun q=>if_pos (by rw [q1];exact q)) (fun q=>absurd q hD)) ?_
     (refine ab (bJ (.of rfl) (.of rfl) (.of rfl) rfl) rfl ?_;refine Jv rfl<|JK rfl rfl<|Jv rfl<|JK rfl rfl<|Jv rfl<|JK rfl rfl<|Jv rfl<|JK rfl rfl<|Jv rfl<|JK rfl rfl ?_)
     refine ag eS rfl (fun w1 aJ=>cB (l1:=kS r v de) (l2:=[]) (br aJ tL rfl) (show Rd _ (.slice none 0 0) 1 (fg []) from Rd.nil _ 1) rfl (fun q=>if_pos q) (fun q=>absurd q z2)) ?_
     (refine ab (bJ (.of rfl) (.of rfl) (.of rfl) rfl) rfl ?_;refine Jv rfl<|JK rfl rfl<|Jv rfl<|JK rfl rfl<|Jv rfl<|JK rfl rfl<|Jv rfl<|JK rfl rfl<|Jv rfl<|JK rfl rfl ?_)
     refine ag eS rfl (fun w1 aJ=>cB (l1:=lL r v) (l2:=[]) (br aJ B6 rfl) (show Rd _ (.slice none 0 0) 1 (fg []) from Rd.nil _ 1) q3 (fun q=>if_pos (by rw [q3];exact q)) (fun q=>absurd q hV)) ?_
     (refine ab (bJ (.of rfl) (.of rfl) (.of rfl) rfl) rfl ?_;refine Jv rfl<|JK rfl rfl<|Jv rfl<|JK rfl rfl<|Jv rfl<|JK rfl rfl<|Jv rfl<|JK rfl rfl<|Jv rfl<|JK rfl rfl ?_)
     refine ag eS rfl (fun w1 aJ=>cB (l1:=lR r v so) (l2:=[]) (br aJ gC rfl) (show Rd _ (.slice none 0 0) 1 (fg []) from Rd.nil _ 1) rfl (fun q=>if_pos q) (fun q=>absurd q z4)) ?_
     (refine ab (bJ (.of rfl) (.of rfl) (.of rfl) rfl) rfl ?_;refine Ja rfl<|Jn<|Je<|JT ?_)
     rfl
    ·have z4:lA r v so≠0:=by rw [q4];rw [lJ hV];exact hV
     refine Jt<|Jq<|Jr<|Jv rfl<|JC rfl<|Jn<|Jc rfl fun aq=>Jk<|Jq<|Jr<|Jv rfl<|JC rfl<|Jn<|Jc rfl fun aq=>Jk<|Jq<|Jr<|Jv rfl<|JC rfl<|Jn<|Jc rfl fun aq=>Jk<|Jq<|Jr<|Jv rfl<|JC rfl<|Jn<|Jc rfl fun aq=>Jk<|Jr<|ab (cr .here) rfl ?_
     refine JN bC rfl (fun w1 aJ=>fj (h.keeps aJ.keeps) xG) ?_
     rintro ⟨o1,o2,o3,o4⟩ _
     try dsimp only [id_eq,List.cons_append,List.nil_append]
     refine cP (r:=r) (s:=o1) (d:=o2) (t:=o3) (p:=o4) (a8 _ _) fun ma mb mc md=>?_
     skip
     refine ag bC rfl (fun w1 aJ=>bZ ⟨cE aJ (by exact .here) rfl,cG aJ (by exact Take.there .here) rfl,cD aJ bI rfl,cy aJ cY rfl⟩ hF) ?_
     (refine Jv rfl<|ab (iZ (.of rfl) (.of rfl) rfl) rfl ?_;refine Jv rfl<|JK rfl rfl<|Jv rfl<|JK rfl rfl<|Jv rfl<|JK rfl rfl<|Jv rfl<|JK rfl rfl<|Jv rfl<|JK rfl rfl ?_)
     refine ag eS rfl (fun w1 aJ=>cB (l1:=kE r de) (l2:=[]) (br aJ oq rfl) (show Rd _ (.slice none 0 0) 1 (fg []) from Rd.nil _ 1) q1 (fun q=>if_pos (by rw [q1];exact q)) (fun q=>absurd q hD)) ?_
     (refine ab (bJ (.of rfl) (.of rfl) (.of rfl) rfl) rfl ?_;refine Jv rfl<|JK rfl rfl<|Jv rfl<|JK rfl rfl<|Jv rfl<|JK rfl rfl<|Jv rfl<|JK rfl rfl<|Jv rfl<|JK rfl rfl ?_)
     refine ag eS rfl (fun w1 aJ=>cB (l1:=kS r v de) (l2:=[]) (br aJ tL rfl) (show Rd _ (.slice none 0 0) 1 (fg []) from Rd.nil _ 1) rfl (fun q=>if_pos q) (fun q=>absurd q z2)) ?_
     (refine ab (bJ (.of rfl) (.of rfl) (.of rfl) rfl) rfl ?_;refine Jv rfl<|JK rfl rfl<|Jv rfl<|JK rfl rfl<|Jv rfl<|JK rfl rfl<|Jv rfl<|JK rfl rfl<|Jv rfl<|JK rfl rfl ?_)
     refine ag eS rfl (fun w1 aJ=>cB (l1:=lL r v) (l2:=[]) (br aJ B6 rfl) (show Rd _ (.slice none 0 0) 1 (fg []) from Rd.nil _ 1) q3 (fun q=>if_pos (by rw [q3];exact q)) (fun q=>absurd q hV)) ?_
     (refine ab (bJ (.of rfl) (.of rfl) (.of rfl) rfl) rfl ?_;refine Jv rfl<|JK rfl rfl<|Jv rfl<|JK rfl rfl<|Jv rfl<|JK rfl rfl<|Jv rfl<|JK rfl rfl<|Jv rfl<|JK rfl rfl ?_)
     refine ag eS rfl (fun w1 aJ=>cB (l1:=lR r v so) (l2:=[]) (br aJ gC rfl) (show Rd _ (.slice none 0 0) 1 (fg []) from Rd.nil _ 1) rfl (fun q=>if_pos q) (fun q=>absurd q z4)) ?_
     (refine ab (bJ (.of rfl) (.of rfl) (.of rfl) rfl) rfl ?_;refine Ja rfl<|Jn<|Je<|JT ?_)
     rfl
 ·have q1:sP r de=fN r:=lJ hb
  have q2:nq r v de=fN r:=lJ hb
  have q3:sX r v=fN r:=lJ hb
  have q4:lA r v so=fN r:=lJ hb
  have l1:kE r de=[]:=if_pos (by rw [q1];exact hb)
  have l2:kS r v de=[]:=if_pos (by rw [q2];exact hb)
  have l3:lL r v=[]:=if_pos (by rw [q3];exact hb)
  have l4:lR r v so=[]:=if_pos (by rw [q4];exact hb)
  (refine Jt<|Jr<|ab (cr .here) rfl ?_;refine ag bC rfl (fun w' az=>(Xm (Mem.keeps az))) ?_;refine Ja rfl<|Ji<|Jv rfl<|Jv rfl<|Jv rfl<|Jv rfl<|Ja rfl<|Ja rfl<|Ja rfl<|Ja rfl<|Ji<|Ja rfl<|Ja rfl<|Ja rfl<|Ja rfl<|Jn<|Jq<|Jr<|Jv rfl<|JC rfl<|Jn<|Jc rfl fun aq=>Jk<|Jq<|Jr<|Jv rfl<|JC rfl<|Jn<|Jc rfl fun aq=>Jk<|Jq<|Jr<|Jv rfl<|JC rfl<|Jn<|Jc rfl fun aq=>Jk<|Jq<|Jr<|Jv rfl ?_;refine JC rfl<|Jn<|Jc rfl fun aq=>Jk<|Jq<|Jr<|Jv rfl<|JC rfl<|Jn<|Jc rfl fun aq=>Jk<|Jr<|ab (cr .here) rfl ?_)
  refine JN bC rfl (fun w1 aJ=>fj (h.keeps aJ.keeps) xG) ?_
  rintro ⟨o1,o2,o3,o4⟩ _
  try dsimp only [id_eq,List.cons_append,List.nil_append]
  refine cP (r:=r) (s:=o1) (d:=o2) (t:=o3) (p:=o4) (a8 _ _) fun ma mb mc md=>?_
  skip
  refine ag bC rfl (fun w1 aJ=>bZ ⟨cE aJ (by exact .here) rfl,cG aJ (by exact Take.there .here) rfl,cD aJ bI rfl,cy aJ cY rfl⟩ hF) ?_
  (refine Jv rfl<|ab (iZ (.of rfl) (.of rfl) rfl) rfl ?_;refine Jv rfl<|JK rfl rfl<|Jv rfl<|JK rfl rfl<|Jv rfl<|JK rfl rfl<|Jv rfl<|JK rfl rfl<|Jv rfl<|JK rfl rfl ?_)
  refine ag eS rfl (fun w1 aJ=>cB (l1:=kE r de) (l2:=[]) (br aJ oq rfl) (show Rd _ (.slice none 0 0) 1 (fg []) from Rd.nil _ 1) q1 (fun _=>l1) (fun q=>absurd q hb)) ?_
  (refine ab (bJ (.of rfl) (.of rfl) (.of rfl) rfl) rfl ?_;refine Jv rfl<|JK rfl rfl<|Jv rfl<|JK rfl rfl<|Jv rfl<|JK rfl rfl<|Jv rfl<|JK rfl rfl<|Jv rfl<|JK rfl rfl ?_)
  refine ag eS rfl (fun w1 aJ=>cB (l1:=kS r v de) (l2:=[]) (br aJ tL rfl) (show Rd _ (.slice none 0 0) 1 (fg []) from Rd.nil _ 1) q2 (fun _=>l2) (fun q=>absurd q hb)) ?_
  (refine ab (bJ (.of rfl) (.of rfl) (.of rfl) rfl) rfl ?_;refine Jv rfl<|JK rfl rfl<|Jv rfl<|JK rfl rfl<|Jv rfl<|JK rfl rfl<|Jv rfl<|JK rfl rfl<|Jv rfl<|JK rfl rfl ?_)
  refine ag eS rfl (fun w1 aJ=>cB (l1:=lL r v) (l2:=[]) (br aJ B6 rfl) (show Rd _ (.slice none 0 0) 1 (fg []) from Rd.nil _ 1) q3 (fun _=>l3) (fun q=>absurd q hb)) ?_
  (refine ab (bJ (.of rfl) (.of rfl) (.of rfl) rfl) rfl ?_;refine Jv rfl<|JK rfl rfl<|Jv rfl<|JK rfl rfl<|Jv rfl<|JK rfl rfl<|Jv rfl<|JK rfl rfl<|Jv rfl<|JK rfl rfl ?_)
  refine ag eS rfl (fun w1 aJ=>cB (l1:=lR r v so) (l2:=[]) (br aJ gC rfl) (show Rd _ (.slice none 0 0) 1 (fg []) from Rd.nil _ 1) q4 (fun _=>l4) (fun q=>absurd q hb)) ?_
  (refine ab (bJ (.of rfl) (.of rfl) (.of rfl) rfl) rfl ?_;refine Ja rfl<|Jn<|Je<|JT ?_)
  rfl
end Go.Proofs.A1
