/- Parts of the proof: PC. -/
import Derived.Test.YteonnodafmegaaaGreatDoorBM14
import Derived.Test.YteonnodafmegaaaGreatDoorBM04
set_option linter.unusedSectionVars false
set_option linter.unusedVariables false
set_option linter.unusedSimpArgs false
namespace Go.Proofs.A1
open Go Go.SL
theorem M4 {r:Ro} {v:Int} {so de:ByteArray} (dB:oF r) (hb:jn r v so de=0) (L:List Int):IW r v so de L=if yH r L≠0 then yH r L else if Fp r v so de L=true then 0 else 19:=by
 have e:M9 r L=Cz r L:=(funext (Pq r L)).symm
 have e2:=Mc (v:=v) (so:=so) (de:=de) dB L
 unfold IW QZ QY yH
 rw [hb,IH,QM,e]
 by_cases h4:(4:Int)<(L.length:Nat)
 ·rw [if_pos h4,decide_eq_true h4]
  rfl
 ·rw [if_neg h4,decide_eq_false h4]
  rw [if_neg (show ¬ bO false 5≠0 by decide)]
  by_cases h5:iL (Cz r L) L.length=0
  ·rw [if_neg (not_not_intro h5),if_neg (not_not_intro h5),e2]
   cases M6 r v so de L <;> rfl
  ·rw [if_pos h5,if_pos h5]
theorem Gk {r:Ro} {v:Int} {so de:ByteArray} (h:jn r v so de=0):fU r=0:=by
 unfold jn at h
 rw [bX] at h
 exact h _ List.mem_cons_self
theorem Hd {r:Ro} {v:Int} {so de:ByteArray} (h:Sk r v so de≠0):NM r v so de=[]:=by
 unfold NM
 unfold Sk at h
 by_cases q:AJ r v so (j6 r de)=true
 ·rw [if_pos q]
 ·rw [if_neg q] at h;exact absurd rfl h
theorem T6 {r:Ro} {v:Int} {so de:ByteArray} (h:jn r v so de=0):rZ r v so de=Sk r v so de∧mT r v so de=NM r v so de:=by
 unfold rZ mT
 rw [if_neg (not_not_intro h),if_neg (not_not_intro h)]
 exact ⟨rfl,rfl⟩
set_option maxRecDepth 20000 in
set_option maxHeartbeats 4000000 in
theorem IT {r:Ro} {s d t p cv:Value} {L:List Int} {w:World} (h:RR w r s d t p) (v:Int) (so de:ByteArray) (hc:Rd w cv 1 (ints L)):aj Tryz.prog 4 [RA r s d t p,.agg #[.int .i64 v,.string so,.string de],cv] w (.bool true):=by
 have h1:=Rd.one h.sr
 have h2:=Rd.one h.de
 have h3:=Rd.one h.ti
 have h4:=Rd.one h.po
 have h5:=Rd.one hc
 have zO:=hc
 obtain ⟨ac,Q2,bc,oc,rfl,Yl,X5,RH,Qz⟩:=zO
 rw [bW] at *
 have VS:∀ {w'},aG [] w w'→aj Tryz.prog 18 [.agg #[.int .i64 r.lv,.int .i64 r.ma,s,d,t,p]] w' (.bool (An r)):=fun hk=>Lk (h.keeps hk)
 have Xc:∀ w',aj Tryz.prog 19 [.agg #[.int .i64 v,.string so,.string de]] w' (.bool (Un so de)):=fun w'=>Dk v so de w'
 have Oj:mX r→∀ {w'},aG [] w w'→aj Tryz.prog 39 [.agg #[.int .i64 v,.string so,.string de],.agg #[.int .i64 r.lv,.int .i64 r.ma,s,d,t,p]] w' (.int .i64 (jn r v so de)):=fun hf _ hk=>J8 v so de (h.keeps hk) hf
 have WD:∀ {w'},aG [] w w'→aj Tryz.prog 41 [.agg #[.int .i64 r.lv,.int .i64 r.ma,s,d,t,p],.slice ac L.length Q2] w' (.int .i64 (yH r L)):=fun hk=>Db (h.keeps hk) (Rd.keeps hc hk)
 have N8:fU r=0→so∈cm r→de∈ct r→∀ {w'},aG [] w w'→aj Tryz.prog 42 [.agg #[.int .i64 r.lv,.int .i64 r.ma,s,d,t,p],.int .i64 v,.string so,.string de,.slice ac L.length Q2] w' (.bool (Fp r v so de L)):=fun a b c _ hk=>Mb v so de (h.keeps hk) a b c (Rd.keeps hc hk)
 unfold RA
 refine ah Tryz.func4 rfl rfl ?_
 (refine Jr<|Jy rfl rfl fun _ _=>Jy rfl rfl fun _ _=>Ja rfl<|Jn<|Jq<|Jr<|ai ns rfl (fun w' au=>(EH w')) ?_;refine JH rfl<|Jv rfl<|aF rfl rfl inferInstance (fun hg bj=>(cA (.of rfl) (.there .here) an (by rfl))) rfl ?_;refine kK rfl rfl (fun hg=>(bh (.of rfl) (.cons (.bE hg rfl) .nil) inferInstance e9)) rfl (fun hg w' au=>(VS (Mem.keeps au))) ?_;refine aF rfl rfl inferInstance (fun hg bj=>(eU (.bE bj rfl))) rfl ?_;refine ab (bR (.of rfl) rfl) rfl ?_;refine Jv rfl<|aF rfl rfl inferInstance (fun hg bj=>(cA (.of rfl) .here an (by rfl))) rfl ?_;refine kK rfl rfl (fun hg=>(bh (.of rfl) (.cons (.bE hg rfl) .nil) inferInstance e9)) rfl (fun hg w' au=>(Xc w')) ?_;refine aF rfl rfl inferInstance (fun hg bj=>(eU (.bE hg rfl))) rfl ?_;refine ab (bR (.of rfl) rfl) rfl ?_;refine Jv rfl<|je rfl rfl rfl rfl ?_;refine aF rfl rfl inferInstance (fun hg bj=>(bZ (.bE hg rfl))) rfl ?_;refine aF rfl rfl inferInstance (fun hg bj=>(kM (.bE hg rfl) (.of rfl))) rfl ?_;refine ab (bR (.of rfl) rfl) rfl ?_;refine Jn<|nB rfl (fun ar=>?_) fun ar=>?_;refine Jr<|ai ns rfl (fun w' au=>(EH w')) ?_;refine Ja rfl<|Jn<|Ju<|JT ?_;rotate_left;refine Jk<|Jq ?_;rotate_right)
 ·rfl
 have hA:vU r=true:=by
  have hb:An r=true:=ar.1.1.2
  unfold An at hb
  exact (Bool.and_eq_true _ _ ▸ hb).1
 have hL6:L.length≤1000000:=by have:=ar.2;omega
 have hF:=GW hA
 have Xl:=Ao hA
 have TH:=fun {w'}=>Oj Xl (w':=w')
 clear ar Oj
 rename_i b2 tb b3 sZ
 skip
 with_reducible refine eN 14 (by kernel_rfl) ?_
 refine aD (fun β=>(cA (.of rfl) (.there .here) an (by rfl))) bG rfl ?_
 dsimp only [Nat.zero_add,Nat.reduceAdd]
 with_reducible apply gI (ι:=Value×Value×Value×Value) (Φ:=fun _=>True) (val:=fun x=>.agg #[.int .i64 r.lv,.int .i64 r.ma,x.1,x.2.1,x.2.2.1,x.2.2.2]) (own:=fun x=>tt r x) (g:=g4) (B:=[]) (args:=fun _=>[.agg #[.int .i64 r.lv,.int .i64 r.ma,s,d,t,p]])
 case hg=>exact Bn
 case hB=>rfl
 case hr=>exact fun β=>bh (.of rfl) (.cons (.of rfl) .nil) inferInstance rfl
 case hd=>rfl
 case hc=>exact fun β w' hb=>kZ (h.keeps hb.mem.keeps) Xl
 dsimp only [Nat.reduceAdd]
 (refine aD (fun β=>(ao (.of rfl) ae)) bG rfl ?_;refine aD (fun β=>(ag (.of rfl) (At.lit .here rfl))) bG rfl ?_;refine aD (fun β=>(ao (.of rfl) ae)) bG rfl ?_;refine aD (fun β=>(ag (.of rfl) (At.lit .here rfl))) bG rfl ?_;refine aD (fun β=>(ao (.of rfl) ae)) bG rfl ?_;refine aD (fun β=>(ag (.of rfl) (At.lit .here rfl))) bG rfl ?_)
 dsimp only [Nat.reduceAdd]
 with_reducible apply gI (ι:=Value) (Φ:=fun _=>True) (val:=fun x=>.tuple #[x,.int .i64 (rZ r v so de)]) (own:=fun x=>[row 3 1 x (mT r v so de).length ((mT r v so de).map (Value.int .i64))]) (g:=id) (B:=[1]) (args:=fun β=>[.agg #[.int .i64 r.lv,.int .i64 r.ma,(g4 (β 1)).1,(g4 (β 1)).2.1,(g4 (β 1)).2.2.1,(g4 (β 1)).2.2.2],.int .i64 v,.string so,.string de])
 case hg=>exact fun x=>⟨x,rfl⟩
 case hB=>kernel_rfl
 case hr=>exact fun β=>bh (.of rfl) ((.cons (.of rfl) (.cons (.of rfl) (.cons (.of rfl) (.cons (.of rfl) .nil))))) inferInstance rfl
 case hd=>rfl
 case hc=>
  intro β w' hb
  have m1:=hb.at 1 List.mem_cons_self rfl
  dsimp only at m1
  exact J7 v so de (NK m1 (bz _ _)) hF rfl rfl
 dsimp only [id_eq,Nat.reduceAdd]
 with_reducible apply aD (F:=fun β=>.tuple #[β 8,.int .i64 (rZ r v so de)])
 case hr=>(intro β;exact aR (.of rfl))
 case hi=>exact fun β β' h=>by simp only [h 8 (by kernel_rfl)]
 case hd=>rfl
 dsimp only [Nat.reduceAdd]
 with_reducible apply aD (F:=fun β=>β 8)
 case hr=>(intro β;exact fY (.of rfl) rfl)
 case hi=>exact fun β β' h=>by simp only [h 8 (by kernel_rfl)]
 case hd=>rfl
 dsimp only [Nat.reduceAdd]
 with_reducible apply aD (F:=fun β=>.int .i64 (rZ r v so de))
 case hr=>(intro β;exact fY (.of rfl) rfl)
 case hi=>exact bG
 case hd=>rfl
 dsimp only [Nat.reduceAdd]
 with_reducible apply aD (F:=fun β=>β 8)
 case hr=>(intro β;exact dw (.of rfl))
 case hi=>exact fun β β' h=>by simp only [h 8 (by kernel_rfl)]
 case hd=>rfl
 dsimp only [Nat.reduceAdd]
 with_reducible apply aD (F:=fun β=>.int .i64 (rZ r v so de))
 case hr=>(intro β;exact dw (.of rfl))
 case hi=>exact bG
 case hd=>rfl
 dsimp only [Nat.reduceAdd]
 refine gE fun β=>?_
 unfold tt
 dsimp only [fq,Za,Zb,List.append_eq,Nat.reduceAdd]
 generalize β 8=xc
 generalize g4 (β 1)=ya
 clear β
 with_reducible refine dj (by kernel_rfl) ?_
 refine eS [JQ b2 r s d t p,bA b3 (.cells #[.int .i64 v,.string so,.string de] 29 (0,0)),row 3 1 xc (mT r v so de).length ((mT r v so de).map (Value.int .i64))] (by exact .cons qm (.cons fg (.cons eR .nil))) ?_
 refine Jt<|Jq ?_
 with_reducible refine eN 12 (by kernel_rfl) ?_
 refine aD (fun β=>(cA (.of rfl) .here an (by rfl))) bG rfl ?_
 dsimp only [Nat.zero_add,Nat.reduceAdd]
 with_reducible apply gI (ι:=Value×Value×Value×Value) (Φ:=fun _=>True) (val:=fun x=>.agg #[.int .i64 r.lv,.int .i64 r.ma,x.1,x.2.1,x.2.2.1,x.2.2.2]) (own:=fun x=>tt r x) (g:=g4) (B:=[]) (args:=fun _=>[.agg #[.int .i64 r.lv,.int .i64 r.ma,s,d,t,p]])
 case hg=>exact Bn
 case hB=>rfl
 case hr=>exact fun β=>bh (.of rfl) (.cons (.of rfl) .nil) inferInstance rfl
 case hd=>rfl
 case hc=>exact fun β w' hb=>kZ (h.keeps hb.mem.keeps) Xl
 dsimp only [Nat.reduceAdd]
 (refine aD (fun β=>(ao (.of rfl) ae)) bG rfl ?_;refine aD (fun β=>(ag (.of rfl) (At.lit (.there .here) rfl))) bG rfl ?_;refine aD (fun β=>(ao (.of rfl) ae)) bG rfl ?_;refine aD (fun β=>(ag (.of rfl) (At.lit (.there .here) rfl))) bG rfl ?_;refine aD (fun β=>(ao (.of rfl) ae)) bG rfl ?_;refine aD (fun β=>(ag (.of rfl) (At.lit (.there .here) rfl))) bG rfl ?_;refine aD (fun β=>(aR (.of rfl))) bG rfl ?_)
 dsimp only [Nat.reduceAdd]
 with_reducible apply gI (ι:=Value) (Φ:=fun _=>True) (val:=id) (own:=fun x=>[row 3 1 x L.length (ints L).flatten]) (g:=id) (B:=[]) (args:=fun _=>[.slice ac L.length Q2])
 case hg=>exact fun x=>⟨x,rfl⟩
 case hB=>rfl
 case hr=>exact fun β=>bh (.of rfl) (.cons (.of rfl) .nil) inferInstance rfl
 case hd=>rfl
 case hc=>exact fun β w' hb=>Me (Rd.keeps hc hb.mem.keeps) hL6
 dsimp only [id_eq,Nat.reduceAdd]
 with_reducible apply cP (B:=[1,9]) (F:=fun _=>.int .i64 (IW r v so de L)) (args:=fun β=>[.agg #[.int .i64 r.lv,.int .i64 r.ma,(g4 (β 1)).1,(g4 (β 1)).2.1,(g4 (β 1)).2.2.1,(g4 (β 1)).2.2.2],.int .i64 v,.string so,.string de,β 9])
 case hB=>kernel_rfl
 case hr=>exact fun β=>bh (.of rfl) (.cons (.of rfl) (.cons (.of rfl) (.cons (.of rfl) (.cons (.of rfl) (.cons (.of rfl) .nil))))) inferInstance rfl
 case hi=>exact bG
 case hd=>rfl
 case hc=>
  intro β w' hb
  have m1:=hb.at 1 List.mem_cons_self rfl
  have m2:=hb.at 9 (List.mem_cons_of_mem _ List.mem_cons_self) rfl
  dsimp only at m1
  dsimp only [Zb,Za] at m2
  rw [← rM] at m2
  have m3:=gi (E:=3) (v:=β 9) (n:=L.length) m2 (by exact .here) rfl
  exact vE v so de (NK m1 (bz _ _)) hF m3
 dsimp only [Nat.reduceAdd]
 refine aD (fun β=>(dw (.of rfl))) bG rfl ?_
 dsimp only [Nat.reduceAdd]
 refine gE fun β=>?_
 unfold tt
 dsimp only [fq,Za,Zb,List.append_eq,Nat.reduceAdd]
 generalize β 9=yi
 generalize g4 (β 1)=ya
 clear β
 with_reducible refine dj (by kernel_rfl) ?_
 refine eS [JQ b2 r s d t p,bA b3 (.cells #[.int .i64 v,.string so,.string de] 29 (0,0)),row 3 1 xc (mT r v so de).length ((mT r v so de).map (Value.int .i64))] (by exact .cons fg (.cons fg (.cons fg .nil))) ?_
 by_cases hb:jn r v so de=0
 ·obtain ⟨hOk,-,hs,hd⟩:=tl hb
  have iQ:=Gk hb
  have WB:=fun {w'}=>N8 iQ hs hd (w':=w')
  obtain ⟨x1,x2⟩:=T6 hb
  have x3:=M4 hOk hb L
  clear N8
  (refine Jt<|Jr<|ab (cz (.there .here)) rfl ?_;refine ab (cz .here) rfl ?_;refine ai aZ rfl (fun w' au=>(TH (Mem.keeps au))) ?_;refine Ja rfl<|Ji<|Jv rfl<|Ja rfl<|Ji<|Ja rfl<|Jn<|Jq<|Jr<|Jv rfl<|JC rfl<|Jn<|Jd rfl fun ar=>Jr<|ab (cz .here) rfl ?_;refine bF rfl rfl ae ?_;refine JL rfl (.there .here) rfl<|bF rfl rfl ae ?_;refine JL rfl (.there .here) rfl<|bF rfl rfl ae ?_;refine JL rfl (.there .here) rfl ?_)
  refine JN pb rfl (fun w1 aS=>T7 v so de (h.keeps aS.keeps) iQ hs hd) ?_
  rintro yc _
  try dsimp only [id_eq,Zb,Za]
  (refine Jv rfl<|JJ rfl rfl<|JJ rfl rfl<|Ja rfl<|Ja rfl<|Ji<|ab (cz (.there .here)) rfl ?_;refine Jv rfl<|ai aZ rfl (fun w' au=>(WD (Mem.keeps au))) ?_;refine Ja rfl<|Ji<|Jv rfl<|JC rfl<|Jv rfl<|aF rfl rfl inferInstance (fun hg bj=>(cA (.of rfl) (.there .here) an (by rfl))) rfl ?_;refine aF rfl rfl inferInstance (fun hg bj=>(ao (.of rfl) ae)) rfl ?_;refine aF rfl rfl inferInstance (fun hg bj=>(ag (.bE hg rfl) (At.lit bN rfl))) rfl ?_;refine aF rfl rfl inferInstance (fun hg bj=>(ao (.of rfl) ae)) rfl ?_;refine aF rfl rfl inferInstance (fun hg bj=>(ag (.bE hg rfl) (At.lit bN rfl))) rfl ?_;refine aF rfl rfl inferInstance (fun hg bj=>(ao (.of rfl) ae)) rfl ?_;refine aF rfl rfl inferInstance (fun hg bj=>(ag (.bE hg rfl) (At.lit bN rfl))) rfl ?_;refine je rfl rfl rfl rfl ?_;refine kK rfl rfl (fun hg=>(bh (.of rfl) (.cons (.bE hg rfl) (.cons (.bE hg rfl) (.cons (.bE hg rfl) (.cons (.bE hg rfl) (.cons (.bE hg rfl) .nil))))) inferInstance e9)) rfl (fun hg w' au=>(WB (Mem.keeps au))) ?_;refine aF rfl rfl inferInstance (fun hg bj=>(eU (.bE hg rfl))) rfl ?_;refine ab (bV (.of rfl) rfl) rfl ?_;refine Jn<|nB rfl (fun ar=>?_) fun ar=>?_;refine Jg<|Ja rfl<|Ji<|Jv rfl<|Jv rfl<|Jv rfl<|Jv rfl ?_;rotate_left;refine Jk<|Jr<|Jv rfl<|Jv rfl<|Jv rfl<|Jv rfl ?_;rotate_right)
  ·have x4:IW r v so de L=19:=by rw [x3,if_neg (not_not_intro ar.1),if_neg (by rw [ar.2];decide)]
   rw [x4]
   refine ai pb rfl (fun w1 aS=>uM (l1:=mT r v so de) (l2:=NM r v so de) (gi aS cX rfl) (gi aS (by exact .here) rfl) x1 (fun q=>x2.trans (Hd q)) (fun _=>x2)) ?_
   (refine Jv rfl<|je rfl rfl rfl rfl ?_;refine je rfl rfl rfl rfl ?_;refine aF rfl rfl inferInstance (fun hg bj=>(kN (.bE bj rfl) (.bE bj rfl))) rfl ?_;refine ab (bV (.of rfl) rfl) rfl ?_;refine Ja rfl<|Jn<|Je<|JT ?_)
   rfl
  ·have x4:IW r v so de L=yH r L:=by
    rw [x3]
    by_cases q:yH r L=0
    ·rw [if_neg (not_not_intro q),if_pos (ar.resolve_left (not_not_intro q)),q]
    ·rw [if_pos q]
   rw [x4]
   refine ai pb rfl (fun w1 aS=>uM (l1:=mT r v so de) (l2:=NM r v so de) (gi aS cX rfl) (gi aS (by exact .here) rfl) x1 (fun q=>x2.trans (Hd q)) (fun _=>x2)) ?_
   (refine Jv rfl<|je rfl rfl rfl rfl ?_;refine je rfl rfl rfl rfl ?_;refine aF rfl rfl inferInstance (fun hg bj=>(kN (.bE bj rfl) (.bE bj rfl))) rfl ?_;refine ab (bV (.of rfl) rfl) rfl ?_;refine Ja rfl<|Jn<|Je<|JT ?_)
   simp
 ·have x1:rZ r v so de=jn r v so de:=by unfold rZ;rw [if_pos hb]
  have x2:mT r v so de=[]:=by unfold mT;rw [if_pos hb]
  have x4:IW r v so de L=jn r v so de:=by
   have e:QZ r v so de L=jn r v so de:=by unfold QZ;exact IG hb
   unfold IW
   rw [e,if_pos hb]
  rw [x4]
  (refine Jt<|Jr<|ab (cz (.there .here)) rfl ?_;refine ab (cz .here) rfl ?_;refine ai aZ rfl (fun w' au=>(TH (Mem.keeps au))) ?_;refine Ja rfl<|Ji<|Jv rfl<|Ja rfl<|Ji<|Ja rfl<|Jn<|Jq<|Jr<|Jv rfl<|JC rfl<|Jn<|Jc rfl fun ar=>Jk<|Jr<|Jv rfl<|Jv rfl<|Jv rfl<|Jv rfl ?_)
  refine ai pb rfl (fun w1 aS=>uM (l1:=mT r v so de) (l2:=[]) (gi aS bN rfl) (show Rd _ (.slice none 0 0) 1 (ints []) from Rd.nil _ 1) x1 (fun _=>x2) (fun q=>absurd q hb)) ?_
  (refine Jv rfl<|je rfl rfl rfl rfl ?_;refine je rfl rfl rfl rfl ?_;refine aF rfl rfl inferInstance (fun hg bj=>(kN (.bE bj rfl) (.bE bj rfl))) rfl ?_;refine ab (bV (.of rfl) rfl) rfl ?_;refine Ja rfl<|Jn<|Je<|JT ?_)
  simp
end Go.Proofs.A1
