/- Parts of the proof: GkRegO GkCopy GkZ K2 K3 KZz GkPool K4. -/
import Derived.Test.YteonnodafmegaaaGreatDoorPM03
import Derived.Lib.AppendZerosOnto
import Derived.Test.YteonnodafmegaaaGreatDoorPM01
import Derived.Laws.RangeAny
import Derived.Laws.RangeString
import Derived.Test.YteonnodafmegaaaGreatDoorPM02
set_option linter.unusedSectionVars false
set_option linter.unusedVariables false
set_option linter.unusedSimpArgs false
namespace Go.SL
open Go
inductive Step where
 | rel (R:Rel)
 | new (V:Nat->Value) (ob:Obj)
def Step.r:Step->Rel
 | .rel R=>R
 | .new V ob=>Et V ob
section
variable {P:Program} {r:Option Nat} {c:Cx} {D:List Nat} {sl jV:aN} {rl lE:fv} {hs:List bd} {Q:Exit->Act->World->Prop} {l:List Oper} {ops:Array Oper} {m:Nat} {S:List Step}
inductive nQ (P:Program) (c:Cx) (hs:List bd) (ops:Array Oper):List Oper->aN->fv->List Step->aN->fv->Prop
 | nil {sl:aN} {rl:fv}:nQ P c hs ops [] sl rl [] sl rl
 | val {o:Oper} {l:List Oper} {sl jV:aN} {rl lE:fv} {d:Nat} {V:Value} {S:List Step} (hd:o.dst=some d) (gl:d<c.nt) (h:uI P c hs ops sl rl o (.val V)) (t:nQ P c hs ops l ((d,V)::sl) rl S jV lE) :
   nQ P c hs ops (o::l) sl rl (.rel (.val V)::S) jV lE
 | new {o:Oper} {l:List Oper} {sl jV:aN} {rl lE:fv} {d:Nat} {V:Nat->Value} {ob:Obj} {S:List Step} (hd:o.dst=some d) (gl:d<c.nt) (hn:dj sl d=none) (hg:o.guard=none)
   (hr:qR P c sl hs o V ob) (t:nQ P c hs ops l sl ((d,Et V ob)::rl) S jV lE):nQ P c hs ops (o::l) sl rl (.new V ob::S) jV lE
theorem nQ.V1 {sl jV:aN} {rl lE:fv} (h:nQ P c hs ops l sl rl S jV lE):tT P c hs ops l sl rl (S.map Step.r) jV lE:=by
 induction h with
 | nil=>exact .nil
 | val hd gl h _ ih=>exact .val hd gl h ih
 | @new o l sl jV rl lE d V ob S hd gl hn hg hr _ ih =>
  refine .rel hd gl hn (pn hg fun a w h1 _ h3=>?_) ih;unfold yJ;rw [hr.2 a w h1 h3];exact ⟨.alloc _ _ _,w.heap.size,I,World.alloc_heap_new w ob⟩
theorem nQ.UM {sl jV:aN} {rl lE:fv} (h:nQ P c hs ops l sl rl S jV lE) :
  ∀ (i : Nat) (o : Oper) (V : Nat -> Value) (ob : Obj), l[i]? = some o -> S[i]? = some (.new V ob) -> ∃ ve, o.guard = none /\ qR P c ve hs o V ob /\
   (∀ t v,dj ve t=some v->(∃ (j:Nat) (oj:Oper),j<i/\l[j]? = some oj/\oj.dst=some t/\(S.map Step.r)[j]? = some (.val v))\/((∀ (j:Nat) (oj:Oper),j<i->l[j]? = some oj->oj.dst≠some t)/\dj sl t=some v)):=by
 induction h with
 | nil=>intro i o V ob h;simp at h
 | @val o0 l sl jV rl lE d V0 S hd gl bb t ih =>
  intro i o V ob ho hS;cases i with
  | zero=>simp at hS
  | succ i =>
   obtain ⟨ve,hg,hr,h1⟩:=ih i o V ob (by simpa using ho) (by simpa using hS);refine ⟨ve,hg,hr,fun t v hv=>?_⟩;rcases h1 t v hv with ⟨j,oj,hj,jt,jG,lu⟩ | ⟨rq,nW⟩
   ·exact .inl ⟨j+1,oj,by omega,by simpa using jt,jG,by simpa using lu⟩
   ·by_cases yx:d=t
    ·subst yx;rw [gr] at nW;cases nW;exact .inl ⟨0,o0,by omega,I,hd,I⟩
    ·rw [gq yx] at nW;refine .inr ⟨fun j oj hj jt=>?_,nW⟩;cases j with
     | zero=>simp at jt;subst jt;rw [hd];simp [yx]
     | succ j=>exact rq j oj (by omega) (by simpa using jt)
 | @new o0 l sl jV rl lE d V0 ob0 S hd gl hn hg0 Nr t ih =>
  intro i o V ob ho hS;cases i with
  | zero =>
   simp at ho hS;subst ho;obtain ⟨rfl,rfl⟩:=hS;exact ⟨sl,hg0,Nr,fun t v hv=>.inr ⟨fun j _ hj=>by omega,hv⟩⟩
  | succ i =>
   obtain ⟨ve,hg,hr,h1⟩:=ih i o V ob (by simpa using ho) (by simpa using hS);refine ⟨ve,hg,hr,fun t v hv=>?_⟩;rcases h1 t v hv with ⟨j,oj,hj,jt,jG,lu⟩ | ⟨rq,nW⟩
   ·exact .inl ⟨j+1,oj,by omega,by simpa using jt,jG,by simpa using lu⟩
   ·have yx:d≠t:=fun e=>by subst e;rw [hn] at nW;cases nW
    refine .inr ⟨fun j oj hj jt=>?_,nW⟩;cases j with
    | zero=>simp at jt;subst jt;rw [hd];simp [yx]
    | succ j=>exact rq j oj (by omega) (by simpa using jt)
def rR (β:Nat->Nat) (lst:Nat->Bool):List Step->Nat->List bd
 | [],_=>[]
 | .new _ ob::S,i=>if lst i then bu (β i) ob::rR β lst S (i+1) else rR β lst S (i+1)
 | .rel _::S,i=>rR β lst S (i+1)
theorem qf {β β':Nat->Nat} {lst oC:Nat->Bool}:∀ {S:List Step} {i:Nat},(∀ j V ob,S[j]? = some (.new V ob)->lst (i+j)=oC (i+j)/\(lst (i+j)=true->β (i+j)=β' (i+j)))->rR β lst S i=rR β' oC S i
 | [],_,_=>rfl
 | .rel _ :: S, i, h => by
  unfold rR;exact qf fun j V ob hj=>by have:=h (j+1) V ob (by simpa using hj);rwa [show i+(j+1)=i+1+j from by omega] at this
 | .new V ob :: S, i, h => by
  have h0:=h 0 V ob I;have ih:rR β lst S (i+1)=rR β' oC S (i+1):=qf fun j V ob hj=>by have:=h (j+1) V ob (by simpa using hj);rwa [show i+(j+1)=i+1+j from by omega] at this
  simp only [Zas] at h0;unfold rR;rw [ih,<- h0.1];by_cases hl:lst i=true
  ·rw [if_pos hl,if_pos hl,h0.2 hl]
  ·rw [if_neg hl,if_neg hl]
theorem BM {β β':Nat->Nat} {lst oC:Nat->Bool} {k b:Nat} {V:Nat->Value} {ob:Obj}:∀ {S:List Step} {i:Nat},S[k]? = some (.new V ob)->lst (i+k)=false->oC (i+k)=true->β' (i+k)=b->(∀ j,j≠i+k->oC j=lst j/\β' j=β j) ->
  (bu b ob::rR β lst S i).Perm (rR β' oC S i)
 | [],_,h,_,_,_,_=>by simp at h
 | .rel _ :: S, i, h, h1, h2, h3, h4 => by
  cases k with
  | zero=>simp at h
  | succ k =>
   unfold rR;refine BM (k:=k) (V:=V) (by simpa using h) ?_ ?_ ?_ ?_
   all_goals rw [show i+1+k=i+(k+1) from by omega];assumption
 | .new V0 ob0 :: S, i, h, h1, h2, h3, h4 => by
  cases k with
  | zero =>
   simp at h;obtain ⟨rfl,rfl⟩:=h;have e:rR β lst S (i+1)=rR β' oC S (i+1):=qf fun j V ob hj=>by
    obtain ⟨e1,e2⟩:=h4 (i+1+j) (by omega);exact ⟨e1.symm,fun _=>e2.symm⟩
   simp only [Zas] at h1 h2 h3;unfold rR;rw [if_neg (by simp [h1]),if_pos h2,h3,e]
  | succ k =>
   have ih:(bu b ob::rR β lst S (i+1)).Perm (rR β' oC S (i+1)):=by
    refine BM (k:=k) (V:=V) (by simpa using h) ?_ ?_ ?_ ?_
    all_goals rw [show i+1+k=i+(k+1) from by omega];assumption
   obtain ⟨e1,e2⟩:=h4 i (by omega);unfold rR;rw [e1,e2];by_cases hl:lst i=true
   ·rw [if_pos hl,if_pos hl];exact (List.Perm.swap _ _ _).trans (ih.cons _)
   ·rw [if_neg hl,if_neg hl];exact ih
theorem cy.perm {h:Nat->Option Obj} {l1 l2:List bd} (hp:l1.Perm l2):∀ {fp:List Nat},cy h l1 fp->∃ mE,cy h l2 mE/\fp.Perm mE:=by
 induction hp with
 | nil=>intro fp hf;exact ⟨fp,hf,.refl _⟩
 | cons A _ ih =>
  rintro fp ⟨f1,f2,rfl,h1,h2⟩;obtain ⟨g,hg,YF⟩:=ih h2;exact ⟨f1++g,⟨f1,g,I,h1,hg⟩,YF.append_left f1⟩
 | swap A B l =>
  rintro fp ⟨f1,_,rfl,h1,f2,f3,rfl,h2,h3⟩;refine ⟨f2++(f1++f3),⟨f2,f1++f3,I,h2,f1,f3,I,h1,h3⟩,?_⟩;rw [<- Zh,<- Zh];exact List.perm_append_comm.append_right f3
 | trans _ _ ih1 ih2 =>
  intro fp hf;obtain ⟨g,hg,h1⟩:=ih1 hf;obtain ⟨g',hg',h2⟩:=ih2 hg;exact ⟨g',hg',h1.trans h2⟩
theorem Mem.perm {c:Cx} {l1 l2:List bd} {w:World} (h:Mem c l1 w) (hp:l1.Perm l2):Mem c l2 w:=by
 obtain ⟨k,fp,hn,hs,hb⟩:=h;obtain ⟨g,hg,YF⟩:=hs.perm hp;exact ⟨k,g,YF.nodup_iff.1 hn,hg,fun b dQ=>hb b (YF.mem_iff.2 dQ)⟩
def Ij (c:Cx) (D:List Nat) (hs:List bd) (l:List Oper) (S:List Step) (listed:Array Bool) (a:Act) (w:World):Prop:=
 ∃ β : Nat -> Nat, Mem c (rR β (fun i => listed.getD i false) S 0 ++ (hs ++ nF D)) w /\ (∀ i, c.w0.heap.size <= β i \/ ¬ Ls listed i \/ ∀ V ob, S[i]? ≠ some (.new V ob)) /\
  ∀ (i:Nat) (o:Oper) (d:Nat) (V:Nat->Value) (ob:Obj),l[i]? = some o->o.dst=some d->S[i]? = some (.new V ob)->Ls listed i->a.tmps[d]? = some (V (β i))
theorem OQ (hc:US l m) (hpO:nQ P c hs l.toArray (l.take m) sl [] S jV lE) {a0:Act} (h0:bZ sl a0) (PH:a0.tmps.size=c.nt)
  (tail:∀ listed a w,(∀ i,i<m->Ls listed i)->St c D jV hs a w->Ij c D hs (l.take m) S listed a w->WL P r l.toArray Q (l.drop m) a w) :
  ∀ (fuel:Nat) (listed:Array Bool) (a:Act) (w:World),Inv1 c D hs l m (S.map Step.r) a0 fuel listed a w->Ij c D hs (l.take m) S listed a w->wpAnyIn (FR r) 0 P .any l.toArray Q fuel listed a w:=by
 have hp:=hpO.V1;have sG:=hp.end_;have fD:∀ (j:Nat) (o:Oper),j<m->l[j]? = some o->(l.take m)[j]? = some o:=fun j o hj ho=>by rw [ZN,if_pos hj];exact ho
 have ie:∀ (j:Nat) (o:Oper),(l.take m)[j]? = some o->j<m/\l[j]? = some o:=fun j o ho=>by
  rw [ZN] at ho;split at ho
  ·exact ⟨by assumption,ho⟩
  ·cases ho
 have pQ:∀ fuel listed a w,Inv1 c D hs l m (S.map Step.r) a0 fuel listed a w->Ij c D hs (l.take m) S listed a w->(∀ i,i<m->Ls listed i)->wpAnyIn (FR r) 0 P .any l.toArray Q fuel listed a w:=by
  intro fuel listed a w hI hO fj;have hL:∀ i,i<l.length->(Ls listed i↔i<m):=fun i _=>⟨fun h=>ZZ fun hm=>hI.hi i hm h,fj i⟩
  obtain ⟨U,DY,vB,yA⟩:=hI.left;have jE:U.Perm (List.range' m (l.length-m)):=by
   rw [ZaQ DY (List.nodup_range')];intro i;rw [vB i,Zbb];constructor
   ·rintro ⟨h1,h2⟩;exact ⟨Zbj fun h=>h2 (fj i h),by omega⟩
   ·rintro ⟨h1,h2⟩;exact ⟨by omega,hI.hi i h1⟩
  have hlen:fuel=l.length-m:=by rw [<- yA,jE.length_eq,List.length_range']
  refine Ez hc fuel m listed a w (Zv _) (by have:=hc.le;omega) hI.sz hL (tail listed a w fj ⟨hI.mem,?_,hI.size,hI.defers⟩ hO)
  ·intro t v hv;rcases sG.1 t v hv with ⟨j,oj,hj,jG,lu⟩ | ⟨rq,nW⟩
   ·obtain ⟨kS,pP⟩:=ie j oj hj;obtain ⟨u,hu,mD⟩:=hI.new j oj pP (fj j kS) t _ jG lu;rw [hu,show u=v from mD]
   ·rw [hI.F9 t fun j oj hj np=>rq j oj (fD j oj (ZZ fun hm=>hI.hi j hm np) hj)]
    exact h0 t v nW
 intro fuel
 induction fuel with
 | zero =>
  intro listed a w hI hO;obtain ⟨U,_,vB,yA⟩:=hI.left;have hU:U=[]:=Zav.1 yA;refine pQ 0 listed a w hI hO fun i hi=>Classical.byContradiction fun hn=>?_;have:=(vB i).2 ⟨by have:=hc.le;omega,hn⟩;rw [hU] at this;cases this
 | succ fuel ih =>
  intro listed a w hI hO;by_cases fj:∀ i,i<m->Ls listed i
  ·exact pQ _ listed a w hI hO fj
  ·have hex:∃ i,i<m/\¬ Ls listed i:=Classical.byContradiction fun hh=>fj fun i hi=>Classical.byContradiction fun hn=>hh ⟨i,hi,hn⟩
   obtain ⟨i0,vA,uO⟩:=hex;refine ⟨fun hr=>?_,fun i hi=>?_⟩
   ·obtain ⟨i,hi⟩:=k8 hI.sz hc.ac ⟨i0,by have:=hc.le;omega,uO⟩;rw [hr] at hi;cases hi
   ·have tH:i<m:=ZZ fun hm=>uO (re hc hI.sz hI.dc hi hm i0 (by omega))
    obtain ⟨o,ho,hn,pR⟩:=(eI hI.sz).1 hi;obtain ⟨ve,Nj,R,Ui,iY,hs1,hs2⟩:=hp.at_ i o (fD i o tH ho);obtain ⟨d,R',hd,gl,uC⟩:=sG.2.2 i o (fD i o tH ho);rw [Ui] at uC;cases uC;have oN:∀ (j:Nat),fG o j=true->Ls listed j:=fun j hw=>by
     obtain ⟨e,he,hb,rN⟩:=eo hw;rw [<- rN];exact pR e he hb
    have Dq:∀ (j t:Nat) (oj:Oper),j<i->(l.take m)[j]? = some oj->oj.dst=some t->t∈o.looksAt l.toArray->Ls listed j:=by
     intro j t oj hj jt jG ht;obtain ⟨kS,pP⟩:=ie j oj jt;exact oN j ((eQ (mP hc hj tH pP ho) jG hd).2 (.inl ht))
    have Rr:∀ ve:aN,(∀ t v,dj ve t=some v->(∃ (j:Nat) (oj:Oper),j<i/\(l.take m)[j]? = some oj/\oj.dst=some t/\(S.map Step.r)[j]? = some (.val v))\/((∀ (j:Nat) (oj:Oper),j<i->(l.take m)[j]? = some oj->oj.dst≠some t)/\dj sl t=some v)) ->
      ∃ a':Act,bZ ve a'/\∀ t∈o.looksAt l.toArray,a'.tmps[t]? = a.tmps[t]?:=by
     intro ve hs1;have hT:∀ t∈o.looksAt l.toArray,∀ v,dj ve t=some v->a.tmps[t]? = some v:=by
      intro t ht v hv;rcases hs1 t v hv with ⟨j,oj,hj,jt,jG,lu⟩ | ⟨rq,nW⟩
      ·obtain ⟨u,hu,mD⟩:=hI.new j oj (ie j oj jt).2 (Dq j t oj hj jt jG ht) t _ jG lu;rw [hu,show u=v from mD]
      ·rw [hI.F9 t fun j oj hj np jG=>?_]
       ·exact h0 t v nW
       ·have kS:j<m:=ZZ fun hm=>hI.hi j hm np
        rcases Zau j i with h | h | h
        ·exact rq j oj h (fD j oj kS hj) jG
        ·subst h;exact hn np
        ·have hw:=(eQ (mP hc h kS ho hj) hd jG).2 (.inr ht);obtain ⟨e,he,hb,rN⟩:=eo hw;have:=hI.dc j oj hj np e he hb;rw [rN] at this;exact hn this
     have Be:∀ t v,dj ve t=some v->t<c.nt:=by
      intro t v hv;rcases hs1 t v hv with ⟨j,oj,_,jt,jG,_⟩ | ⟨_,nW⟩
      ·obtain ⟨d',_,Bk,Bi,_⟩:=sG.2.2 j oj jt;rw [jG] at Bk;cases Bk;exact Bi
      ·have:=h0 t v nW;rw [<- PH];exact (Z3.1 this).1
     obtain ⟨a',mz,jU,_⟩:=sP hI.size Be hT;exact ⟨a',mz,jU⟩
    have uB:∀ (j:Nat) (oj:Oper) (e:Nat),l[j]? = some oj->j<m->j≠i->oj.dst=some e->d≠e:=by
     intro j oj e hj kS hne he;rcases Zbx j i with h | h
     ·exact fun e'=>(eQ (mP hc h tH hj ho) he hd).1 e'.symm
     ·exact (eQ (mP hc (show i<j by omega) kS ho hj) hd he).1
    have kr:i<listed.size:=by rw [hI.sz];have:=hc.le;omega
    have HL:pD o=true:=hc.op o (Z2 ho);have kd:∀ v w',aI [] w w'->R.p v w'->Ij c D hs (l.take m) S (listed.setIfInBounds i true) (a.put o.dst v) w'->wpAnyIn (FR r) 0 P .any l.toArray Q fuel (listed.setIfInBounds i true) (a.put o.dst v) w':=fun v w' hk hv Xs=>
     ih _ _ _ (C7 hc hc.le hI hi tH ho hd gl Ui (fun j oj hj jt=>let ⟨e,_,he,_⟩:=sG.2.2 j oj (fD j oj hj jt);⟨e,he⟩) hk hv) Xs
    unfold wpOpIn;rw [show l.toArray[i]? = some o from by simpa using ho];simp only [];have uC:∃ st,S[i]? = some st/\st.r=R:=by
     rw [ZG] at Ui;obtain ⟨st,h1,h2⟩:=Zam.1 Ui;exact ⟨st,h1,h2⟩
    obtain ⟨st,uC,bb⟩:=uC;have LR:∀ j,j≠i->(listed.setIfInBounds i true).getD j false=listed.getD j false:=fun j hj=>by
     simp [ZJ,ZO (Ne.symm hj)]
    cases st with
    | new V ob =>
     obtain ⟨sln,hgn,TN,aaQ⟩:=hpO.UM i o V ob (fD i o tH ho) uC;obtain ⟨a',mz,jU⟩:=Rr sln aaQ;have hex:=kh (o:=o) (ops:=l.toArray) HL jU;have iE:=TN.2 a' w mz hI.mem.mn;rw [if_pos (by simp [Region.wanted,hgn])];refine ⟨eh _ _ _ _ _,?_⟩;rw [Oper.semAt_eq _ _ _ (fun cc he=>by simp [pD,he] at HL),<- hex,iE]
     refine kd _ _ (.alloc _ _ _) (by rw [<- bb];exact ⟨w.heap.size,I,World.alloc_heap_new w ob⟩) ?_;obtain ⟨β,hm,hb,uv⟩:=hO;refine ⟨fun k=>if k=i then w.heap.size else β k,?_,?_,?_⟩
     ·refine Mem.perm (hm.alloc ob) ((BM (k:=i) (V:=V) uC ?_ ?_ ?_ ?_).append_right _)
      ·rw [ZF];show listed.getD i false=false;have:¬ listed.getD i false=true:=hn;simpa using this
      ·rw [ZF];exact (dA kr).2 (.inl I)
      ·simp
      ·intro j hj;rw [ZF] at hj;exact ⟨LR j hj,by simp [hj]⟩
     ·intro j;by_cases e:j=i
      ·subst e;left;simp;exact hI.mem.keeps.size
      ·rcases hb j with h | h | h
       ·left;simpa [e] using h
       ·right;left;intro h';exact h (((dA kr).1 h').resolve_left e)
       ·exact .inr (.inr h)
     ·intro j oj e V' Tf hj jG lu np;by_cases ej:j=i
      ·subst ej;rw [uC] at lu;cases lu;obtain ⟨kS,pP⟩:=ie j oj hj;rw [ho] at pP;cases pP;rw [hd] at jG;cases jG;rw [hd];simp [Act.put,hI.size,gl]
      ·obtain ⟨kS,pP⟩:=ie j oj hj;have Gs:=((dA kr).1 np).resolve_left ej;have:=uv j oj e V' Tf hj jG lu Gs;rw [hd];simp only [Act.put,ZO (uB j oj e pP kS ej jG),if_neg ej];exact this
    | rel R0 =>
     have Xs:∀ v w',aI [] w w'->Ij c D hs (l.take m) S (listed.setIfInBounds i true) (a.put o.dst v) w':=by
      intro v w' hk;obtain ⟨β,hm,hb,uv⟩:=hO;refine ⟨β,?_,?_,?_⟩
      ·have e:rR β (fun j=>(listed.setIfInBounds i true).getD j false) S 0=rR β (fun j=>listed.getD j false) S 0:=qf fun j V ob hj=>by
        have:j≠i:=fun e=>by subst e;rw [uC] at hj;cases hj
        rw [ZF];exact ⟨LR j this,fun _=>rfl⟩
       rw [e];exact hm.sx hk
      ·intro j;by_cases e:j=i
       ·subst e;right;right;intro V ob h;rw [uC] at h;cases h
       ·rcases hb j with h | h | h
        ·exact .inl h
        ·right;left;intro h';exact h (((dA kr).1 h').resolve_left e)
        ·exact .inr (.inr h)
      ·intro j oj e V' Tf hj jG lu np;have ej:j≠i:=fun e=>by subst e;rw [uC] at lu;cases lu
       obtain ⟨kS,pP⟩:=ie j oj hj;have Gs:=((dA kr).1 np).resolve_left ej;have:=uv j oj e V' Tf hj jG lu Gs;rw [hd];simp only [Act.put,ZO (uB j oj e pP kS ej jG)];exact this
     obtain ⟨a',mz,jU⟩:=Rr ve hs1;have TO:BU (o.looksAt l.toArray) Nj a' w:=by
      intro t Rt hm ht;rcases hs2 t Rt hm with ⟨j,oj,hj,jt,jG,lu⟩ | aB
      ·obtain ⟨v,hv,mD⟩:=hI.new j oj (ie j oj jt).2 (Dq j t oj hj jt jG ht) t _ jG lu;exact ⟨v,by rw [jU t ht];exact hv,mD⟩
      ·cases aB
     have hq:=iY a' w mz TO hI.mem.mn;have hex:=kh (o:=o) (ops:=l.toArray) HL jU;rw [j4 jU] at hq;split
     ·rename_i hw;rw [if_pos hw] at hq;refine ⟨eh _ _ _ _ _,?_⟩;rw [Oper.semAt_eq _ _ _ (fun cc he=>by simp [pD,he] at HL),<- hex]
      unfold yJ at hq
      revert hq
      generalize (execOp a'.eval o).run P w=res;intro hq
      match res,hq with
      | .ok (.value v) w',⟨hk,hv⟩=>exact kd v w' hk hv (Xs v w' hk)
      | .ok (.enter f args) w', ⟨e, cV⟩ =>
       subst e;refine ⟨by simp [FR,Fence.wide],(jN cV).mono fun e z8 h=>?_⟩;obtain ⟨v,rfl,hk,hv⟩:=h;exact kd v z8 hk hv (Xs v z8 hk)
     ·rename_i hw;rw [if_neg hw] at hq;exact ⟨fun _ _=>trivial,kd undef w (.refl _ _) hq (Xs undef w (.refl _ _))⟩
theorem xK {β:Nat->Nat} {lst:Nat->Bool} (h:∀ i,lst i=false):∀ {S:List Step} {i:Nat},rR β lst S i=[]
 | [],_=>rfl
 | .rel _::S,i=>by unfold rR;exact xK h
 | .new _ _::S,i=>by unfold rR;rw [if_neg (by simp [h]),xK h]
variable {id:Nat}
theorem yf (sD:P.follows .mixedOrders=true) (fP:zi l m=true) (hp:nQ P c hs l.toArray (l.take m) sl [] S jV lE)
  (tail:∀ listed a w,(∀ i,i<m->Ls listed i)->St c D jV hs a w->Ij c D hs (l.take m) S listed a w->WL P r l.toArray Q (l.drop m) a w):Tr c D sl hs (WP P r (.region id l.toArray true) Q):=fun a w bb=>by
 unfold WP;refine wpIn_region_any sD ?_;refine OQ (wz fP) hp bb.dw bb.size tail l.toArray.size _ a _ ⟨by simp,?_,?_,?_,bb.defers,bb.size,fun t _=>rfl,?_,List.range l.length,ZbD,?_,by simp⟩ ?_
 ·exact fun k o _ hL=>absurd hL (gQ _ _)
 ·exact fun k _ hL=>gQ _ _ hL
 ·exact bb.mem.drew
 ·exact fun j o _ hL=>absurd hL (gQ _ _)
 ·exact fun i=>⟨fun h=>⟨by simpa using h,gQ _ _⟩,fun h=>by simpa using h.1⟩
 ·refine ⟨fun _=>c.w0.heap.size,?_,fun i=>.inl (Zv _),fun i o d V ob _ _ _ hL=>absurd hL (gQ _ _)⟩;rw [xK fun i=>by have:=gQ l.toArray.size i;unfold Ls at this;simpa using this]
  exact bb.mem.drew
def Nh (β:Nat->Nat):List Oper->List Step->Nat->aN
 | o::l,.new V _::S,i=>(o.dst.getD 0,V (β i))::Nh β l S (i+1)
 | _::l,.rel _::S,i=>Nh β l S (i+1)
 | _,_,_=>[]
theorem Ar {β:Nat->Nat}:∀ {l:List Oper} {S:List Step} {i:Nat} {p:Nat×Value},p∈Nh β l S i->∃ (j:Nat) (o:Oper) (V:Nat->Value) (ob:Obj),l[j]? = some o/\S[j]? = some (.new V ob)/\p=(o.dst.getD 0,V (β (i+j)))
 | [],_,_,_,h=>by cases h
 | _::_,[],_,_,h=>by cases h
 | o :: l, .new V ob :: S, i, p, h => by
  unfold Nh at h;rcases ZQ.1 h with h | h
  ·exact ⟨0,o,V,ob,I,I,h⟩
  ·obtain ⟨j,o',V',Tf,h1,h2,h3⟩:=Ar h;exact ⟨j+1,o',V',Tf,by simpa using h1,by simpa using h2,by rw [h3,show i+1+j=i+(j+1) from by omega]⟩
 | o :: l, .rel R :: S, i, p, h => by
  unfold Nh at h;obtain ⟨j,o',V',Tf,h1,h2,h3⟩:=Ar h;exact ⟨j+1,o',V',Tf,by simpa using h1,by simpa using h2,by rw [h3,show i+1+j=i+(j+1) from by omega]⟩
theorem vW {L s:aN} {a:Act} (h:∀ p∈L,a.tmps[p.1]? = some p.2) (hs:bZ s a):bZ (L++s) a:=by
 induction L with
 | nil=>exact hs
 | cons p L ih =>
  intro t v hv;obtain ⟨d,u⟩:=p;by_cases e:d=t
  ·subst e;rw [Zb,gr] at hv;cases hv;exact h (d,v) (by simp)
  ·rw [Zb,gq e] at hv;exact ih (fun p hp=>h p (by simp [hp])) t v hv
def zs (nl:List (Nat×(Nat->Value)×Obj)) (bs:List Nat):aN:=(nl.zip bs).map fun x=>(x.1.1,x.1.2.1 x.2)
def zb (nl:List (Nat×(Nat->Value)×Obj)) (bs:List Nat):List bd:=(nl.zip bs).map fun x=>bu x.2 x.1.2.2
def sY (P:Program) (r:Option Nat) (c:Cx) (D:List Nat) (hs:List bd) (ops:Array Oper) (Q:Exit->Act->World->Prop) (nl:List (Nat×(Nat->Value)×Obj)) (m:Nat) (l:List Oper) (sl:aN) (rl:fv):Prop:=
 ∃ S jV lE, nQ P c hs ops (l.take m) sl rl S jV lE /\ ∀ (bs : List Nat) (β : Nat -> Nat) (i0 : Nat), bs.length = nl.length -> (∀ b ∈ bs, c.w0.heap.size <= b) -> (∀ i V ob, S[i]? = some (.new V ob) -> c.w0.heap.size <= β (i0 + i)) ->
  Tr c D (zs nl bs++Nh β (l.take m) S i0++jV) (zb nl bs++rR β (fun _=>true) S i0++hs) (WL P r ops Q (l.drop m))
theorem db {l:List Oper} (m:Nat) [sD:UQ P] (fP:zi l m=true) (k:sY P r c D hs l.toArray Q [] m l sl []):Tr c D sl hs (WP P r (.region id l.toArray true) Q):=by
 obtain ⟨S,jV,lE,hp,ht⟩:=k;have sG:=hp.V1.end_;have hlen:∀ i V ob,S[i]? = some (.new V ob)->i<m:=by
  intro i V ob h;have h1:=(Zl.1 h).1;have aaD:∀ {l0:Array Oper} {l:List Oper} {sl jV:aN} {rl lE:fv} {S:List Step},nQ P c hs l0 l sl rl S jV lE->S.length=l.length:=by
   intro l0 l sl jV rl lE S h
   induction h with
   | nil=>rfl
   | val _ _ _ _ ih=>simp [ih]
   | new _ _ _ _ _ _ ih=>simp [ih]
  rw [aaD hp,Zs] at h1;omega
 refine yf sD.eq fP hp fun listed a w fj bb hO=>?_;obtain ⟨β,hm,hb,uv⟩:=hO;have L8:∀ i V ob,S[i]? = some (.new V ob)->Ls listed i:=fun i V ob h=>fj i (hlen i V ob h)
 have B1:∀ i V ob,S[i]? = some (.new V ob)->c.w0.heap.size<=β (0+i):=fun i V ob h=>by
  rw [ZF];rcases hb i with h1 | h1 | h1
  ·exact h1
  ·exact absurd (L8 i V ob h) h1
  ·exact absurd h (h1 V ob)
 refine ht [] β 0 I (fun b hb=>by cases hb) B1 a w ⟨?_,?_,bb.size,bb.defers⟩
 ·have e:rR β (fun i=>listed.getD i false) S 0=rR β (fun _=>true) S 0:=qf fun j V ob hj=>by
   rw [ZF];exact ⟨L8 j V ob hj,fun _=>rfl⟩
  rw [e] at hm;simpa [zb,Zh] using hm
 ·refine vW (L:=zs [] []++Nh β (List.take m l) S 0) (fun p mD=>?_) bb.dw;obtain ⟨j,o,V,ob,h1,h2,rfl⟩:=Ar (by simpa [zs] using mD);obtain ⟨d,R,hd,gl,_⟩:=sG.2.2 j o h1;rw [hd,ZF];exact uv j o d V ob h1 hd h2 (L8 j V ob h2)
section
variable {nl:List (Nat×(Nat->Value)×Obj)} {d:Nat} {op:Op} {ty:TypeId} {pos:String} {af:Array Edge} {rest:List Oper}
variable {V:Value} {ob:Obj}
theorem dI {V:Nat->Value} {l:List Oper} (hn:nl=[(d,V,ob)]) (k:∀ b,c.w0.heap.size<=b->Tr c D ((d,V b)::sl) (bu b ob::hs) (WL P r ops Q l)):sY P r c D hs ops Q nl 0 l sl rl:=
 ⟨[],sl,rl,.nil,fun bs β i0 hl hb _=>by
  subst hn
  match bs,hl with
  | [b],_=>simpa [zs,zb,Nh,rR] using k b (hb b (by simp))⟩
theorem xJ {o:Oper} (ho:o.dst=some d) (hd:Nat.blt d c.nt=true) (h:uI P c hs ops sl rl o (.val V)) (k:sY P r c D hs ops Q nl m rest ((d,V)::sl) rl):sY P r c D hs ops Q nl (m+1) (o::rest) sl rl:=by
 obtain ⟨S,jV,lE,hp,ht⟩:=k;refine ⟨_,_,_,.val ho (by simpa [Z8] using hd) h hp,fun bs β i0 h1 h2 h3=>?_⟩;have:=ht bs β (i0+1) h1 h2 fun i V ob hi=>by have:=h3 (i+1) V ob (by simpa using hi);rwa [show i0+(i+1)=i0+1+i from by omega] at this
 simpa [Nh,rR] using this
theorem eM {V:Nat->Value} (hr:qR P c sl hs ⟨some d,op,ty,pos,af,none⟩ V ob) (hd:Nat.blt d c.nt=true) (hn:dj sl d=none) (k:sY P r c D hs ops Q (nl++[(d,V,ob)]) m rest sl ((d,Et V ob)::rl)) :
  sY P r c D hs ops Q nl (m+1) (⟨some d,op,ty,pos,af,none⟩::rest) sl rl:=by
 obtain ⟨S,jV,lE,hp,ht⟩:=k;refine ⟨_,_,_,.new I (by simpa [Z8] using hd) hn I hr hp,fun bs β i0 h1 h2 h3=>?_⟩;have hb0:=h3 0 V ob I;rw [Zas] at hb0;have:=ht (bs++[β i0]) β (i0+1) (by simp [h1]) (fun b hb=>by
  rcases Zz.1 hb with h | h
  ·exact h2 b h
  ·rw [ZD.1 h];exact hb0) fun i V ob hi=>by have:=h3 (i+1) V ob (by simpa using hi);rwa [show i0+(i+1)=i0+1+i from by omega] at this
 simpa [Nh,rR,zs,zb,List.zip_append h1.symm,Zh] using this
theorem az (hr:du P c sl hs ⟨some d,op,ty,pos,af,none⟩ V) (hd:Nat.blt d c.nt=true) (k:sY P r c D hs ops Q nl m rest ((d,V)::sl) rl) :
  sY P r c D hs ops Q nl (m+1) (⟨some d,op,ty,pos,af,none⟩::rest) sl rl:=
 xJ I hd (pn I fun _ _ h1 _ h3=>r8 hr h1 h3) k
theorem aZ {f:FuncId} {args:List Value} (hr:mH P sl ⟨some d,op,ty,pos,af,none⟩ f args) (hd:Nat.blt d c.nt=true) (hc:∀ w,Mem c hs w->an P f args w V) (k:sY P r c D hs ops Q nl m rest ((d,V)::sl) rl) :
  sY P r c D hs ops Q nl (m+1) (⟨some d,op,ty,pos,af,none⟩::rest) sl rl:=
 xJ I hd (pn I fun _ w h1 _ h3=>tz hr h1 (hc w h3)) k
theorem X6 {p p':Prop} {j gs:Nat} {want c0 q:Bool} (hj:((ops[j]?).bind (·.dst))=some gs) (hq:dj sl gs=some (gv c0 (.bool q))) (hb:BP (c0&&(q==want)) p p')
  (hr:(c0&&(q==want))=true->p->du P c sl hs ⟨some d,op,ty,pos,af,some (j,want)⟩ V) (hd:Nat.blt d c.nt=true) (k:sY P r c D hs ops Q nl m rest ((d,gv (c0&&(q==want)) V)::sl) rl) :
  sY P r c D hs ops Q nl (m+1) (⟨some d,op,ty,pos,af,some (j,want)⟩::rest) sl rl:=
 xJ I hd (pq I hj hq fun hc _ _ h1 h3=>r8 (hr hc (hb.t hc)) h1 h3) k
theorem tS {p p':Prop} {j gs:Nat} {want q:Bool} (hj:((ops[j]?).bind (·.dst))=some gs) (hq:dj sl gs=some (.bool q)) [hb:BP (q==want) p p']
  (hr:(q==want)=true->p->du P c sl hs ⟨some d,op,ty,pos,af,some (j,want)⟩ V) (hd:Nat.blt d c.nt=true) (k:sY P r c D hs ops Q nl m rest ((d,gv (q==want) V)::sl) rl) :
  sY P r c D hs ops Q nl (m+1) (⟨some d,op,ty,pos,af,some (j,want)⟩::rest) sl rl:=
 X6 (c0:=true) (p:=p) (p':=p') hj (by rw [hq];rfl) (by simpa using hb) (by simpa using hr) hd (by simpa using k)
end
end
end Go.SL
namespace Go.SL
open Go
theorem kI {w:World} {b sz:Nat}:∀ {xs:List (List Value)} {o:Nat},(∀ i r,xs[i]? = some r->r.length=sz/\∀ j u,r[j]? = some u->w.cell? ⟨b,o+i*sz+j,none⟩=some u)->∀ (k:Nat) u,xs.flatten[k]? = some u->w.cell? ⟨b,o+k,none⟩=some u
 | [],o,_,k,u,hu=>by simp at hu
 | x :: xs, o, h, k, u, hu => by
  obtain ⟨hl,h0⟩:=h 0 x rfl;rw [Zak,List.getElem?_append] at hu;split at hu
  ·have:=h0 k u hu;rwa [Zbh,Zas] at this
  ·rename_i hk;have ih:=kI (xs:=xs) (o:=o+sz) (fun i r hr=>⟨(h (i+1) r (by simpa using hr)).1,fun j v hv=>by
    have:=(h (i+1) r (by simpa using hr)).2 j v hv;rwa [Zac,show o+(i*sz+sz)+j=o+sz+i*sz+j by omega] at this⟩) (k-x.length) u hu
   rwa [hl,show o+sz+(k-sz)=o+k by omega] at ih
theorem fU {sz:Nat}:∀ {xs:List (List Value)},(∀ r∈xs,r.length=sz)->xs.flatten.length=xs.length*sz
 | [],_=>by simp
 | x :: xs, h => by
  rw [Zak,Zg,fU (fun r hr=>h r (by simp [hr])),h x (by simp),ZB,Zac,Nat.add_comm]
theorem Rd.sz {w:World} {v:Value} {sz:Nat} {xs:List (List Value)} (h:Rd w v sz xs):∀ r∈xs,r.length=sz:=by
 obtain ⟨a,cap,b,o,rfl,h1,h2,h3,h4⟩:=h;intro r hr;obtain ⟨i,hi,rfl⟩:=ZA hr;exact (h4 i _ (Zc hi)).1
section
variable {P:Program} {r:Option Nat} {c:Cx} {D:List Nat} {sl:aN} {hs hs':List bd} {ops:Array Oper} {Q:Exit->Act->World->Prop} {d:Nat} {ty:TypeId} {pos:String} {af:Array Edge} {rest:List Oper}
variable {V:Value} {agg:Bool} {news:List (List Value)} {size:Nat} {v:Value} {x y:Operand} {z:Value}
theorem Oh {sz:Nat} {xs:List (List Value)} {b o cap:Nat} (hsrc:∀ w,Mem c hs w->Rd w V sz xs) (hne:xs≠[]) (hV:V=.slice (some ⟨b,o,none⟩) xs.length cap):fo c hs b o xs.flatten:=by
 refine fo.wH fun j u hu w hm=>?_;obtain ⟨a',iv,b',o',e',_,_,cY,YS⟩:=hsrc w hm;rw [hV] at e';simp only [Value.slice.injEq] at e';obtain ⟨e1,_,_⟩:=e';have:=cY hne;rw [<- e1] at this;simp only [Option.some.injEq,Addr.mk.injEq,and_true] at this;obtain ⟨rfl,rfl⟩:=this;exact kI YS j u hu
theorem tZ {t e:TypeId} {w:World} [hu:iI P t (.slice e)] [hT:Ty P e agg size] {a:Option Addr} {cp n:Nat} (hv:(v=.z/\n=0)\/∃ g cap,v=.w g n cap/\n<=cap) :
  (Builtin.append_ #[t,t] ty #[v,.slice a 0 cp]).run P w=.ok v w:=by
 obtain ⟨de,i,kz,hi,_,gK⟩:=Ty.parts (P:=P) (t:=e) (agg:=agg) (n:=size);rcases hv with ⟨rfl,rfl⟩ | ⟨g,cap,rfl,hc⟩
 ·cases a <;> simp [Builtin.append_,aX hu.eq,sizeOf,typeInfo,hi,Builtin.lenOf,Builtin.firstCells,loadCells,loadCellsFrom]
 ·cases a <;> simp [Builtin.append_,aX hu.eq,sizeOf,typeInfo,hi,Builtin.lenOf,Builtin.firstCells,loadCells,loadCellsFrom,hc,storeCells]
theorem eX {t e:TypeId} {size bytes:Nat} {n:Nat} {xs:List Value} [hu:iI P t (.slice e)] [hT:Ty P e agg size] [hZ:mA P e z] [hB:uW P e bytes]
  (hx:Is sl x v) (hy:Is sl y V) (ht:Take hs (row e size v n xs) hs') (hsrc:∀ w,Mem c hs w->Rd w V size news) (h1:∀ r∈news,∀ u∈r,u.oneCell'=true) (hz:z.cells.size=size) (hsz:Nat.blt 0 size=true) (hb0:Nat.blt 0 bytes=true)
  (hb:(n+news.length)*bytes<=140737488355328) (hd:Nat.blt d c.nt=true)
  (k:∀ v',Tr c D ((d,v')::sl) (row e size v' (n+news.length) (xs++news.flatten)::hs') (WL P r ops Q rest)) :
  Tr c D sl hs (WL P r ops Q (⟨some d,.call ⟨.builtin .append,#[x,y],#[t,t]⟩,ty,pos,af,none⟩::rest)):=fun a w bb=>by
 have hR:=hsrc w bb.pE;have hlen:=fU hR.sz;by_cases hne:news=[]
 ·subst hne;obtain ⟨aa,cap,b,o,rfl,_⟩:=hR;have hm:=bb.mem.take (ht.append _);have hrow:(v=.slice none 0 0/\n=0)\/∃ g cap,v=.slice (some ⟨g,0,none⟩) n cap/\n<=cap:=by
   obtain ⟨_,fp,_,⟨f1,f2,_,⟨_,_,h1⟩,_⟩,_⟩:=hm;exact h1.imp id fun ⟨g,cap,cur,e,_,hc,_⟩=>⟨g,cap,e,hc⟩
  refine mJ I ⟨eh _ _ _ _ _,?_⟩;rw [Oper.semAt_eq _ _ _ (by simp)];have:(execOp a.eval ⟨some d,.call ⟨.builtin .append,#[x,y],#[t,t]⟩,ty,pos,af,none⟩).run P w=.ok (.value v) w:=by
   have:=tZ (P:=P) (t:=t) (e:=e) (ty:=ty) (w:=w) (agg:=agg) (size:=size) (a:=aa) (cp:=cap) hrow;simp only [Zaf] at hy;simp [execOp,resolve,invoke,builtin,hx a bb.dw,hy a bb.dw,this]
  rw [this];have k2:=k v;simp only [Zaf,Zas,List.flatten_nil,ZK] at k2;exact k2 _ _ ((bb.put (by simpa [Z8] using hd) v).heap hm)
 ·obtain ⟨aa,cap,b,o,hV,dC,ch,ha,hc⟩:=hR;have:=ha hne;subst this;rw [hV] at hy;exact yY hx hy ht (Oh hsrc hne hV) hlen (fun u hu=>by obtain ⟨r,hr,Pv⟩:=Zbu.1 hu;exact h1 r hr u Pv) hz hsz hb0 hb hd k a w bb
theorem J7 {t t2 e:TypeId} {g n cap:Nat} {E:TypeId} {cs:List Value} [hu:iI P t (.slice e)] [hT:Ty P e agg size]
  (hx:Is sl x (.w g n cap)) (hy:Is sl y V) (ht:Take hs (bu g (.cells cs.toArray E (0,0))) hs') (hsrc:∀ w,Mem c hs w->Rd w V size news) (h1:∀ r∈news,∀ u∈r,u.oneCell'=true) (hfit:n*size<=cs.length) (hd:Nat.blt d c.nt=true)
  (k:Tr c D ((d,.q (Nat.min news.length n:Nat))::sl) (bu g (.cells (setCells cs 0 (news.take n).flatten).toArray E (0,0))::hs') (WL P r ops Q rest)) :
  Tr c D sl hs (WL P r ops Q (⟨some d,.call ⟨.builtin .copy,#[x,y],#[t,t2]⟩,ty,pos,af,none⟩::rest)):=fun a w bb=>by
 have hR:=hsrc w bb.pE;obtain ⟨de,i,kz,hi,_,gK⟩:=Ty.parts (P:=P) (t:=e) (agg:=agg) (n:=size);have hlen:(news.take n).flatten.length=Nat.min news.length n*size:=by
  rw [fU (fun r hr=>hR.sz r (Zax hr)),Zs]
  show min n news.length*size=min news.length n*size;rw [Nat.min_comm]
 have hle:Nat.min news.length n<=n:=ZbC _ _;have hm:=bb.mem.take (ht.append _);have hg:w.heap[g]? = some (.cells cs.toArray E (0,0)):=hm.bu .here;obtain ⟨w',h3,h4,h5⟩:=iy (P:=P) (o:=0) (news.take n).flatten 0 cs w hg (fun u hu=>by
  obtain ⟨r,hr,Pv⟩:=Zbu.1 hu;exact h1 r (Zax hr) u Pv) (by
  rw [hlen];have:Nat.min news.length n*size<=n*size:=Z0 _ hle;omega)
 have LK:(Builtin.firstCells size (Nat.min news.length n) V).run P w=.ok (news.take n).flatten.toArray w:=by
  obtain ⟨aa,c8,b,o,hV,jS,ch,ha,hc⟩:=hR;subst hV;by_cases hne:news=[]
  ·subst hne;cases aa <;> simp [Builtin.firstCells,loadCells,loadCellsFrom]
  ·have:=ha hne;subst this;simp only [Builtin.firstCells];refine og hlen fun j u hu=>?_;refine kI (sz:=size) (xs:=news.take n) (fun i r hr=>?_) j u hu;rw [ZN] at hr;split at hr
   ·exact hc i r hr
   ·cases hr
 have LL:(Builtin.lenOf V).run P w=.ok news.length w:=by
  obtain ⟨aa,c8,b,o,hV,_⟩:=hR;subst hV
  rfl
 refine mJ I ⟨eh _ _ _ _ _,?_⟩;rw [Oper.semAt_eq _ _ _ (by simp)];have:(execOp a.eval ⟨some d,.call ⟨.builtin .copy,#[x,y],#[t,t2]⟩,ty,pos,af,none⟩).run P w=.ok (.value (.q (Nat.min news.length n:Nat))) w':=by
  simp [execOp,resolve,invoke,builtin,hx a bb.dw,hy a bb.dw,Builtin.copy_,aX hu.eq,LL,sizeOf,typeInfo,hi,gK,LK,h3,goInt]
 rw [this];have me:=Mem.store hm h4 h5;rw [show (0+0:Nat)=0 from I] at me;exact k _ _ ((bb.put (by simpa [Z8] using hd) _).heap me)
theorem Ea {t tn e:TypeId} {kn:IntKind} {size bytes m:Nat} [hu:iI P t (.slice e)] [TD:iI P tn (.int kn)] [hT:Ty P e agg size] [hZ:mA P e z] [hB:uW P e bytes]
  (hx:Is sl x (.z)) (hy:Is sl y (.q m)) (h0:0<m) (hz:z.cells.size=size) (hsz:Nat.blt 0 size=true) (hb0:Nat.blt 0 bytes=true) (hb:m*bytes<=140737488355328) (hd:Nat.blt d c.nt=true)
  (k:∀ v',Tr c D ((d,v')::sl) (row e size v' m (Builtin.zeroCells z.cells m).toList::hs) (WL P r ops Q rest)) :
  Tr c D sl hs (WL P r ops Q (⟨some d,.call ⟨.builtin .append,#[x,y],#[t,tn]⟩,ty,pos,af,none⟩::rest)):=fun a w bb=>by
 obtain ⟨de,i,kz,hi,_,gK⟩:=Ty.parts (P:=P) (t:=e) (agg:=agg) (n:=size);have hzero:i.zero=some z:=by have:=hZ.eq;rw [hi] at this;simpa using this
 have gG:i.bytes=bytes:=by have:=hB.eq;rw [hi] at this;simpa using this
 have hs0:0<size:=by simpa [Z8] using hsz
 have abX:0<bytes:=by simpa [Z8] using hb0
 have aT:m*1<=m*bytes:=Zbg _ abX;have iE:=Lib.run_append_grow_zeros (P:=P) w t tn ty e i z .i64 kn hu.eq TD.eq hi hzero none 0 0 [] (by simp [Builtin.firstCells]) m h0 (by omega) (by omega) (by omega) (by rw [gG];omega) (growslice_fits (by omega) (by rw [gG];simpa using hb));simp only [ZF] at iE;have LS:=grownCap_ge w m 0 e;have hle:=grownCap_le_maxLen w m 0 e (by unfold maxLen;omega);refine mJ I ⟨eh _ _ _ _ _,?_⟩;rw [Oper.semAt_eq _ _ _ (by simp)];generalize grownCap w m 0 e=G at iE LS hle;have:(execOp a.eval ⟨some d,.call ⟨.builtin .append,#[x,y],#[t,tn]⟩,ty,pos,af,none⟩).run P w=.ok (.value (.slice (some ⟨w.heap.size,0,none⟩) m G)) (w.drew.alloc (.cells (#[]++Builtin.zeroCells z.cells m++Builtin.zeroCells z.cells (G-m)) e)):=by
  simp [execOp,resolve,invoke,builtin,hx a bb.dw,hy a bb.dw,iE]
 rw [this];have EO:∀ q,(Builtin.zeroCells z.cells q).size=q*size:=fun q=>by rw [size_zeroCells,hz]
 have me:=(bb.mem.drew.alloc (.cells (#[]++Builtin.zeroCells z.cells m++Builtin.zeroCells z.cells (G-m)) e (0,0)));refine k _ _ _ ((bb.put (by simpa [Z8] using hd) _).heap ?_);obtain ⟨kk,fp,hn,⟨f1,f2,rfl,⟨e1,h1⟩,h2⟩,Bh⟩:=me;refine ⟨kk,f1++f2,hn,⟨f1,f2,I,⟨by rw [e1];rfl,by simp [EO],.inr ⟨w.heap.size,G,_,I,h1,LS,hle,?_,?_⟩⟩,h2⟩,Bh⟩
 ·simp only [Array.size_append,EO];simp only [Array.size_empty,ZF,<- Nat.add_mul];congr 1;omega
 ·simp only [Array.toList_append,Array.toList_empty,Za];rw [List.take_left' (by rw [ZaR,EO])]
theorem lF {dst:Option Tmp} {g:Option (Nat×Bool)} {t e:TypeId} [hu:iI P t (.slice e)] [hT:Ty P e agg size] :
  qR P c sl hs ⟨dst,.buildSlice t 0 #[],ty,pos,af,g⟩ (fun b=>.w b 0 0) (.cells #[] e):=
 kP (ps:=#[]) (fun a _=>by simp) fun w=>by
  unfold Instr.buildSlice;simp only [Sem.run_bind,aX hu.eq,Result.andThen_ok,gj (t:=e) (agg:=agg) (n:=size),Zbh];simp [Instr.fill,newRow,show Array.range 0=#[] from I]
theorem r5 {dst:Option Tmp} {g:Option (Nat×Bool)} {t e:TypeId} {a:Option Addr} {n cp:Nat} [hu:iI P t (.slice e)] (hx:Is sl x (.slice a n cp)) :
  du P c sl hs ⟨dst,.call ⟨.builtin .cap,#[x],#[t]⟩,ty,pos,af,g⟩ (.q cp):=
 ⟨by simp,fun ac w ha _=>by simp [execOp,hx ac ha,resolve,invoke,builtin,Builtin.cap_,aX hu.eq,goInt]⟩
theorem Cq (g cap sz:Nat):Go.sliced (some ⟨g,0,none⟩) 0 0 cap sz=.w g 0 cap:=by
 unfold Go.sliced;by_cases h:cap=0
 ·rw [if_pos h];simp
 ·rw [if_neg h];simp [eO]
theorem Av:∀ (vs cs:List Value),vs.length<=cs.length->setCells cs 0 vs=vs++cs.drop vs.length:=by
 intro vs cs h;apply Zat;intro k;rw [hG _ _ _ _ (by omega),List.getElem?_append];by_cases hk:k<vs.length
 ·rw [if_pos (by omega),if_pos hk,Nat.sub_zero]
 ·rw [if_neg (by omega),if_neg hk,Zbl];congr 1;omega
end
end Go.SL
namespace Go.SL
open Go
theorem bc {α:Type} {b:Bool} {o:Option α} {v:α} (h:(bif b then o else none)=some v):b=true/\o=some v:=by cases b <;> simp_all
theorem bp {α β:Type} {o:Option α} {q:Option β} {v:α} {u:β} (h:(o.bind fun a=>q.map fun b=>(a,b))=some (v,u)):o=some v/\q=some u:=by
 cases o <;> cases q <;> simp_all
section
variable {P:Program} {r:Option Nat} {c:Cx} {D:List Nat} {sl:aN} {rl:fv} {hs hs':List bd} {Q:Exit->Act->World->Prop} {ops:Array Oper} {m d:Nat} {op:Op} {ty:TypeId} {pos:String} {af:Array Edge} {rest:List Oper} {dst:Option Tmp} {g:Option (Nat×Bool)}
theorem Jq {P:Program} {r:Option Nat} {c:Cx} {D:List Nat} {sl:aN} {hs:List bd} {x y:Code} {Q:Exit->Act->World->Prop}
  (h:Tr c D sl hs (WP P r x (Exit.then (WP P r y Q) Q))):Tr c D sl hs (WP P r (.seq x y) Q):=pg h
variable {N:Act->World->Prop} {a b:Int} {cs:List Value} {id:Nat} {k:IntKind} {p:Prop} {v:Value} {x y:Operand}
theorem Jt {c:Cx} {D:List Nat} {sl:aN} {hs:List bd} {Q:Exit->Act->World->Prop}
  (h:Tr c D sl hs N):Tr c D sl hs (Exit.then N Q .normal):=uZ h
theorem J0 {P:Program} {r:Option Nat} {c:Cx} {D:List Nat} {sl:aN} {hs:List bd} {x:Code} {Q:Exit->Act->World->Prop}
  (h:Tr c D sl hs (WP P r x (Exit.inBlock id Q))):Tr c D sl hs (WP P r (.block id x) Q):=J9 h
theorem Je {P:Program} {r:Option Nat} {c:Cx} {D:List Nat} {sl:aN} {hs:List bd} {Q:Exit->Act->World->Prop}
  (h:Tr c D sl hs (Q .ret)):Tr c D sl hs (WP P r .ret Q):=JY h
theorem Jg {P:Program} {r:Option Nat} {c:Cx} {D:List Nat} {sl:aN} {hs:List bd} {l:List Oper} {Q:Exit->Act->World->Prop}
  (h:Tr c D sl hs (WL P r l.toArray Q l)):Tr c D sl hs (WP P r (.region id l.toArray false) Q):=ny h
theorem Jh {c:Cx} {D:List Nat} {sl:aN} {hs:List bd} {Q:Exit->Act->World->Prop}
  (h:Tr c D sl hs (Q .ret)):Tr c D sl hs (Exit.then N Q .ret):=B9 h
theorem Ji {l:List Oper} {y:Code} {Q':Exit->Act->World->Prop} (h:Tr c D sl hs (WL P r l.toArray (Exit.then (WP P r y Q) Q) l)):Tr c D sl hs (WL P r ops (Exit.then (WP P r (.seq (.region id l.toArray false) y) Q) Q') []):=n_r h
theorem Jj {c:Cx} {D:List Nat} {sl:aN} {hs:List bd} {Q:Exit->Act->World->Prop}
  (h:Tr c D sl hs (Q .normal)):Tr c D sl hs (Exit.inBlock id Q .normal):=qW h
theorem Jk (h:Tr c D sl hs N):Tr c D sl hs (WP P r .skip (Exit.then N Q)):=s_t h
theorem Jl {c:Cx} {D:List Nat} {sl:aN} {hs:List bd} {Q:Exit->Act->World->Prop}
  (h:Tr c D sl hs (Q (.exit id))):Tr c D sl hs (Exit.then N Q (.exit id)):=Ai h
theorem Jm {c:Cx} {D:List Nat} {sl:aN} {hs:List bd} {Q:Exit->Act->World->Prop}
  (h:Tr c D sl hs (Q .ret)):Tr c D sl hs (Exit.inBlock id Q .ret):=D9 h
theorem Jo {c:Cx} {D:List Nat} {sl:aN} {hs:List bd} {Q:Exit->Act->World->Prop}
  (h:Tr c D sl hs (Q .normal)):Tr c D sl hs (Exit.inBlock id Q (.exit id)):=Cj h
theorem Jp (h:Tr c D sl hs (Q (.exit id))):Tr c D sl hs (WP P r (.exit id) (Exit.then N Q)):=x_t h
theorem Jn (h:Tr c D sl hs N):Tr c D sl hs (WL P r ops (Exit.then N Q) []):=n_t h
theorem Jr {l:List Oper} {y:Code} (h:Tr c D sl hs (WL P r l.toArray (Exit.then (WP P r y Q) Q) l)):Tr c D sl hs (WP P r (.seq (.region id l.toArray false) y) Q):=s_r h
theorem Ju (h:Tr c D sl hs (Q .ret)):Tr c D sl hs (WP P r .ret (Exit.then N Q)):=r_t h
theorem Jw {P:Program} {r:Option Nat} {c:Cx} {D:List Nat} {sl:aN} {hs:List bd} {Q:Exit->Act->World->Prop}
  (h:Tr c D sl hs (Q .normal)):Tr c D sl hs (WP P r .skip Q):=FI h
theorem Jx {P:Program} {r:Option Nat} {c:Cx} {D:List Nat} {sl:aN} {hs:List bd} {ops:Array Oper} {Q:Exit->Act->World->Prop}
  (h:Tr c D sl hs (Q .normal)):Tr c D sl hs (WL P r ops Q []):=vQ h
theorem Jv (h:(bif Nat.blt d c.nt then ev sl x else none)=some v) (k:Tr c D ((d,v)::sl) hs (WL P r ops Q rest)):Tr c D sl hs (WL P r ops Q (⟨some d,.move x,ty,pos,af,none⟩::rest)):=Q8 (bc h).2 (bc h).1 k
theorem Ja (h:(bif Nat.blt d c.nt then ev sl x else none)=some v) (k:Tr c D ((d,v)::sl) hs (WL P r ops Q rest)):Tr c D sl hs (WL P r ops Q (⟨some d,.assign x,ty,pos,af,none⟩::rest)):=a_s (bc h).2 (bc h).1 k
theorem JA {t u:TypeId} (h:(bif Nat.blt d c.nt then ((ev sl x).bind fun a=>(ev sl y).map fun b=>(a,b)) else none)=some (.int k a,.int k b)) (k:Tr c D ((d,.bool (decide (a<b)))::sl) hs (WL P r ops Q rest)):Tr c D sl hs (WL P r ops Q (⟨some d,.binOp .lss t x y u,ty,pos,af,none⟩::rest)):=ab (l7 (.of (bp (bc h).2).1) (.of (bp (bc h).2).2)) (bc h).1 k
theorem JC {t u:TypeId} (h:(bif Nat.blt d c.nt then ((ev sl x).bind fun a=>(ev sl y).map fun b=>(a,b)) else none)=some (.int k a,.int k b)) (k:Tr c D ((d,.bool (decide (a=b)))::sl) hs (WL P r ops Q rest)):Tr c D sl hs (WL P r ops Q (⟨some d,.binOp .eql t x y u,ty,pos,af,none⟩::rest)):=ab (oh (.of (bp (bc h).2).1) (.of (bp (bc h).2).2)) (bc h).1 k
theorem JD {t u:TypeId} (h:(bif Nat.blt d c.nt then ((ev sl x).bind fun a=>(ev sl y).map fun b=>(a,b)) else none)=some (.int k a,.int k b)) (k:Tr c D ((d,.bool (decide (a≠b)))::sl) hs (WL P r ops Q rest)):Tr c D sl hs (WL P r ops Q (⟨some d,.binOp .neq t x y u,ty,pos,af,none⟩::rest)):=ab (j7 (.of (bp (bc h).2).1) (.of (bp (bc h).2).2)) (bc h).1 k
theorem JE {t u:TypeId} (h:(bif Nat.blt d c.nt then ((ev sl x).bind fun a=>(ev sl y).map fun b=>(a,b)) else none)=some (.int k a,.int k b)) (k:Tr c D ((d,.bool (decide (b<a)))::sl) hs (WL P r ops Q rest)):Tr c D sl hs (WL P r ops Q (⟨some d,.binOp .gtr t x y u,ty,pos,af,none⟩::rest)):=ab (ni (.of (bp (bc h).2).1) (.of (bp (bc h).2).2)) (bc h).1 k
theorem JF {t u:TypeId} (h:(bif Nat.blt d c.nt then ((ev sl x).bind fun a=>(ev sl y).map fun b=>(a,b)) else none)=some (.int k a,.int k b)) (k:Tr c D ((d,.bool (decide (a<=b)))::sl) hs (WL P r ops Q rest)):Tr c D sl hs (WL P r ops Q (⟨some d,.binOp .leq t x y u,ty,pos,af,none⟩::rest)):=ab (nh (.of (bp (bc h).2).1) (.of (bp (bc h).2).2)) (bc h).1 k
theorem JG {t u:TypeId} (h:(bif Nat.blt d c.nt then ((ev sl x).bind fun a=>(ev sl y).map fun b=>(a,b)) else none)=some (.int k a,.int k b)) (k:Tr c D ((d,.bool (decide (b<=a)))::sl) hs (WL P r ops Q rest)):Tr c D sl hs (WL P r ops Q (⟨some d,.binOp .geq t x y u,ty,pos,af,none⟩::rest)):=ab (AF (.of (bp (bc h).2).1) (.of (bp (bc h).2).2)) (bc h).1 k
theorem JB {t u:TypeId} (h:(bif Nat.blt d c.nt then ((ev sl x).bind fun a=>(ev sl y).map fun b=>(a,b)) else none)=some (.q a,.q b)) (hb:-9223372036854775808<=a+b/\a+b<=9223372036854775807) (k:Tr c D ((d,.q (a+b))::sl) hs (WL P r ops Q rest)):Tr c D sl hs (WL P r ops Q (⟨some d,.binOp .add t x y u,ty,pos,af,none⟩::rest)):=ab (Er (.of (bp (bc h).2).1) (.of (bp (bc h).2).2) (Re hb)) (bc h).1 k
theorem JS {t u:TypeId} (h:(bif Nat.blt d c.nt then ((ev sl x).bind fun a=>(ev sl y).map fun b=>(a,b)) else none)=some (.q a,.q b)) (hb:-9223372036854775808<=a-b/\a-b<=9223372036854775807) (k:Tr c D ((d,.q (a-b))::sl) hs (WL P r ops Q rest)):Tr c D sl hs (WL P r ops Q (⟨some d,.binOp .sub t x y u,ty,pos,af,none⟩::rest)):=ab (tw (.of (bp (bc h).2).1) (.of (bp (bc h).2).2) (Re hb)) (bc h).1 k
theorem JH {t:TypeId} {b:Bool} (h:(bif Nat.blt d c.nt then ev sl x else none)=some (.bool b)) (k:Tr c D ((d,.bool (!b))::sl) hs (WL P r ops Q rest)):Tr c D sl hs (WL P r ops Q (⟨some d,.unOp .not t x,ty,pos,af,none⟩::rest)):=ab (fu (.of (bc h).2)) (bc h).1 k
theorem JI {t e:TypeId} {b:Option Addr} {n cap:Nat} [iI P t (.slice e)] (h:(bif Nat.blt d c.nt then ev sl x else none)=some (.slice b n cap)) (k:Tr c D ((d,.q n)::sl) hs (WL P r ops Q rest)):Tr c D sl hs (WL P r ops Q (⟨some d,.call ⟨.builtin .len,#[x],#[t]⟩,ty,pos,af,none⟩::rest)):=ab (cR (e:=e) (.of (bc h).2)) (bc h).1 k
theorem JJ {i:Nat} {vs:List Value} (h:(bif Nat.blt d c.nt then ev sl x else none)=some (.tuple vs.toArray)) (hv:uM vs i=some v) (k:Tr c D ((d,v)::sl) hs (WL P r ops Q rest)):Tr c D sl hs (WL P r ops Q (⟨some d,.extract x i,ty,pos,af,none⟩::rest)):=ab (dG (.of (bc h).2) hv) (bc h).1 k
theorem JK {r:Option Nat} {D:List Nat} {ops:Array Oper} {Q:Exit->Act->World->Prop} {d:Option Tmp} {op:Op} {rest:List Oper} {j gs:Nat} {want:Bool} (hj:((ops[j]?).bind (·.dst))=some gs) (hq:dj sl gs=some (.bool want))
  (k:Tr c D sl hs (WL P r ops Q (⟨d,op,ty,pos,af,none⟩::rest))):Tr c D sl hs (WL P r ops Q (⟨d,op,ty,pos,af,some (j,want)⟩::rest)):=Sp hj hq k
theorem JL {t:TypeId} {n:Nat} {b o:Nat} {E:TypeId} {fz:Nat×Nat} [Ty P t false n] (h:(bif Nat.blt d c.nt then ev sl x else none)=some (.pointer (some ⟨b,o,none⟩))) (ht:Take hs (SL.bu b (.cells cs.toArray E fz)) hs') (hv:uM cs o=some v) (k:Tr c D ((d,v)::sl) hs (WL P r ops Q rest)):Tr c D sl hs (WL P r ops Q (⟨some d,.load t x,ty,pos,af,none⟩::rest)):=ab (ag (.of (bc h).2) (At.lit ht hv)) (bc h).1 k
theorem Jc {inst:Decidable p} {u v:Code} (hx:ev sl x=some (.bool (decide p))) (hf:¬ p->Tr c D sl hs (WP P r v Q)) (ht:p->Tr c D sl hs (WP P r u Q):=by intro h;exfalso;omega):Tr c D sl hs (WP P r (.cond x u v) Q):=gL hx ht hf
theorem Jd {inst:Decidable p} {u v:Code} (hx:ev sl x=some (.bool (decide p))) (ht:p->Tr c D sl hs (WP P r u Q)) (hf:¬ p->Tr c D sl hs (WP P r v Q):=by intro h;exfalso;omega):Tr c D sl hs (WP P r (.cond x u v) Q):=gL hx ht hf
theorem Jy {t:TypeId} (h:(bif Nat.blt d c.nt then ev sl x else none)=some v) (hc:v.cells=cs.toArray) (k:∀ b,c.w0.heap.size<=b->Tr c D ((d,.p b)::sl) (bu b (.cells cs.toArray t)::hs) (WL P r ops Q rest)):Tr c D sl hs (WL P r ops Q (⟨some d,.box t x,ty,pos,af,none⟩::rest)):=bh (KA (.of (bc h).2) hc) (bc h).1 k
theorem Jz {t:TypeId} {z:Value} [mA P t z] (hc:z.cells=cs.toArray) (hd:Nat.blt d c.nt=true) (k:∀ b,c.w0.heap.size<=b->Tr c D ((d,.p b)::sl) (bu b (.cells cs.toArray t)::hs) (WL P r ops Q rest)):Tr c D sl hs (WL P r ops Q (⟨some d,.alloc t,ty,pos,af,none⟩::rest)):=bh (kY hc) hd k
end
theorem JN {P:Program} {r:Option Nat} {c:Cx} {D:List Nat} {sl:aN} {hs:List bd} {Q:Exit->Act->World->Prop} {ops:Array Oper} {d:Nat} {op:Op} {ty:TypeId} {pos:String} {af:Array Edge} {rest:List Oper} {f:FuncId} {args:List Value} {ι:Type} {Φ:ι->Prop} {val:ι->Value} {own:ι->List bd} (hr:mH P sl ⟨some d,op,ty,pos,af,none⟩ f args) (hd:Nat.blt d c.nt=true) (hc:∀ w,Mem c hs w->a8 P f args w [] Φ val own)
  (k:∀ x,Φ x->Tr c D ((d,val x)::sl) (own x++hs) (WL P r ops Q rest)):Tr c D sl hs (WL P r ops Q (⟨some d,op,ty,pos,af,none⟩::rest)):=jd hr hd bj.nil (fun w fp hm _ hs=>by obtain rfl:fp=[]:=hs;exact hc w hm) k
section
variable {P:Program} {r:Option Nat} {c:Cx} {sl:aN} {hs hs':List bd} {d:Nat} {dst:Option Tmp} {ty:TypeId} {pos:String} {af:Array Edge} {g:Option (Nat×Bool)}
variable {b:Nat} {cs:List Value} {fz:Nat×Nat} {n o:Nat} {v:Value} {vs:List Value} {x:Operand}
theorem gn {t:TypeId} {E:TypeId} [Ty P t false n] (ht:Take hs (SL.bu b (.cells cs.toArray E fz)) hs') (hx:Is sl x (.pointer (some ⟨b,o,none⟩)):=by exact Is.of I) (hv:uM cs o=some v:=by exact I):du P c sl hs ⟨dst,.load t x,ty,pos,af,g⟩ v:=ag hx (At.lit ht hv)
theorem bU {t:TypeId} {E:TypeId} [Ty P t true n] (ht:Take hs (SL.bu b (.cells cs.toArray E fz)) hs') (hx:Is sl x (.pointer (some ⟨b,o,none⟩)):=by exact Is.of I) (hv:eL cs o n=vs:=by exact ai) (hl:vs.length=n:=by rfl):du P c sl hs ⟨dst,.load t x,ty,pos,af,g⟩ (.agg vs.toArray):=bQ hx ht hv hl
theorem lP {t:TypeId} {i o:Nat} {b k q:Nat} [eB P t i o] (hx:Is sl x (.pointer (some ⟨b,k,none⟩)):=by exact Is.of I) (he:k+o=q:=by exact ae):du P c sl hs ⟨dst,.fieldAddr t x i,ty,pos,af,g⟩ (.pointer (some ⟨b,q,none⟩)):=ar hx he
theorem mw (hx:Is sl x v:=by exact Is.of I):du P c sl hs ⟨dst,.move x,ty,pos,af,g⟩ v:=aQ hx
theorem ja {t:TypeId} [Ty P t true n] (hv:fo c hs b o vs) (hx:Is sl x (.pointer (some ⟨b,o,none⟩)):=by exact Is.of I) (hl:vs.length=n:=by exact I):du P c sl hs ⟨dst,.load t x,ty,pos,af,g⟩ (.agg vs.toArray):=jC hx hv hl
theorem gE {t e:TypeId} {agg:Bool} {x y:Operand} {a0:Option Addr} {b o len cap q:Nat} {k:IntKind} {i:Int} [hu:iI P t (.slice e)] [Ty P e agg n] (ha:a0=some ⟨b,o,none⟩) (h1:i<len) (hx:Is sl x (.slice a0 len cap):=by exact Is.of I) (hy:Is sl y (.int k i):=by exact Is.of I) (h0:0<=i:=by omega) (he:o+i.toNat*n=q:=by exact aW):du P c sl hs ⟨dst,.indexAddr t x y,ty,pos,af,g⟩ (.pointer (some ⟨b,q,none⟩)):=ao hx hy ha h0 h1 he
theorem JT {fn:Func} {v v':Value} {t:Tmp} (hv:v'=v) (HM:c.md=[]:=by exact I) (h1:fn.results=#[.tmp t]:=by exact I) (h2:dj sl t=some v':=by exact I):Tr c [] sl hs (bodyPostM (FR r) 0 P fn (fun e w'=>e=.returned v/\aI [] c.w0 w') .ret):=qk HM (dN h1 h2) hv
end
variable {args cap:List Value} {f:FuncId} {first:List Value} {h:List bd} {ts:Array TypeId}
theorem bE {A x0 x1:bd}:Take (x0::x1::A::h) A (x0::x1::h):=.there (.there .here)
theorem cI {A x0 x1 x2:bd}:Take (x0::x1::x2::A::h) A (x0::x1::x2::h):=.there bE
theorem c7 {A x0 x1 x2 x3:bd}:Take (x0::x1::x2::x3::A::h) A (x0::x1::x2::x3::h):=.there cI
theorem ek {A x0 x1 x2 x3 x4:bd}:Take (x0::x1::x2::x3::x4::A::h) A (x0::x1::x2::x3::x4::h):=.there c7
theorem nR {A x0 x1 x2 x3 x4 x5:bd}:Take (x0::x1::x2::x3::x4::x5::A::h) A (x0::x1::x2::x3::x4::x5::h):=.there ek
theorem tV {A x0 x1 x2 x3 x4 x5 x6:bd}:Take (x0::x1::x2::x3::x4::x5::x6::A::h) A (x0::x1::x2::x3::x4::x5::x6::h):=.there nR
theorem DR {A x0 x1 x2 x3 x4 x5 x6 x7:bd}:Take (x0::x1::x2::x3::x4::x5::x6::x7::A::h) A (x0::x1::x2::x3::x4::x5::x6::x7::h):=.there tV
theorem jl {A x0 x1 x2 x3 x4 x5 x6 x7 x8:bd}:Take (x0::x1::x2::x3::x4::x5::x6::x7::x8::A::h) A (x0::x1::x2::x3::x4::x5::x6::x7::x8::h):=.there DR
theorem lB {A x0 x1 x2 x3 x4 x5 x6 x7 x8 x9:bd}:Take (x0::x1::x2::x3::x4::x5::x6::x7::x8::x9::A::h) A (x0::x1::x2::x3::x4::x5::x6::x7::x8::x9::h):=.there jl
theorem tW {A x0 x1 x2 x3 x4 x5 x6 x7 x8 x9 yK:bd}:Take (x0::x1::x2::x3::x4::x5::x6::x7::x8::x9::yK::A::h) A (x0::x1::x2::x3::x4::x5::x6::x7::x8::x9::yK::h):=.there lB
theorem lA {A x0 x1 x2 x3 x4 x5 x6 x7 x8 x9 yK Fv:bd}:Take (x0::x1::x2::x3::x4::x5::x6::x7::x8::x9::yK::Fv::A::h) A (x0::x1::x2::x3::x4::x5::x6::x7::x8::x9::yK::Fv::h):=.there tW
theorem Ik {A x0 x1 x2 x3 x4 x5 x6 x7 x8 x9 yK Fv Io:bd}:Take (x0::x1::x2::x3::x4::x5::x6::x7::x8::x9::yK::Fv::Io::A::h) A (x0::x1::x2::x3::x4::x5::x6::x7::x8::x9::yK::Fv::Io::h):=.there lA
theorem uV {A x0 x1 x2 x3 x4 x5 x6 x7 x8 x9 yK Fv Io QI:bd}:Take (x0::x1::x2::x3::x4::x5::x6::x7::x8::x9::yK::Fv::Io::QI::A::h) A (x0::x1::x2::x3::x4::x5::x6::x7::x8::x9::yK::Fv::Io::QI::h):=.there Ik
theorem iQ {A x0 x1 x2 x3 x4 x5 x6 x7 x8 x9 yK Fv Io QI Sc:bd}:Take (x0::x1::x2::x3::x4::x5::x6::x7::x8::x9::yK::Fv::Io::QI::Sc::A::h) A (x0::x1::x2::x3::x4::x5::x6::x7::x8::x9::yK::Fv::Io::QI::Sc::h):=.there uV
theorem fx {A x0 x1 x2 x3 x4 x5 x6 x7 x8 x9 yK Fv Io QI Sc x15:bd}:Take (x0::x1::x2::x3::x4::x5::x6::x7::x8::x9::yK::Fv::Io::QI::Sc::x15::A::h) A (x0::x1::x2::x3::x4::x5::x6::x7::x8::x9::yK::Fv::Io::QI::Sc::x15::h):=.there iQ
theorem dE {v0:Value} (h0:v0.oneCell'=true):∀ u∈[v0],u.oneCell'=true:=bR h0 (ib)
theorem ix {v0 v1:Value} (h0:v0.oneCell'=true) (h1:v1.oneCell'=true):∀ u∈[v0,v1],u.oneCell'=true:=bR h0 (bR h1 (ib))
theorem fc {v0 v1 v2:Value} (h0:v0.oneCell'=true) (h1:v1.oneCell'=true) (h2:v2.oneCell'=true):∀ u∈[v0,v1,v2],u.oneCell'=true:=bR h0 (bR h1 (bR h2 (ib)))
theorem dO {v0 v1 v2 v3 v4 v5:Value} (h0:v0.oneCell'=true) (h1:v1.oneCell'=true) (h2:v2.oneCell'=true) (h3:v3.oneCell'=true) (h4:v4.oneCell'=true) (h5:v5.oneCell'=true):∀ u∈[v0,v1,v2,v3,v4,v5],u.oneCell'=true:=bR h0 (bR h1 (bR h2 (bR h3 (bR h4 (bR h5 (ib))))))
theorem Yb {v0 v1 v2 v3 v4 v5 v6 v7:Value} (h0:v0.oneCell'=true) (h1:v1.oneCell'=true) (h2:v2.oneCell'=true) (h3:v3.oneCell'=true) (h4:v4.oneCell'=true) (h5:v5.oneCell'=true) (h6:v6.oneCell'=true) (h7:v7.oneCell'=true):∀ u∈[v0,v1,v2,v3,v4,v5,v6,v7],u.oneCell'=true:=bR h0 (bR h1 (bR h2 (bR h3 (bR h4 (bR h5 (bR h6 (bR h7 (ib))))))))
theorem bT {sl w:aN} (h:mu sl w:=by repeat' first | with_reducible exact mu.nil | ((with_reducible apply mu.cons);(case h=>exact I))):mu sl w:=h
theorem jv {hs w q:List bd} (h:bj hs w q:=by repeat' first | with_reducible exact bj.nil | with_reducible apply bj.cons | with_reducible exact Take.here | with_reducible apply Take.there):bj hs w q:=h
theorem nq {P:Program} {sl:aN} {dst:Option Tmp} {ty:TypeId} {pos:String} {af:Array Edge} {g:Option (Nat×Bool)} {x :Operand} (hx:Is sl x (.func (.func f) first.toArray cap.toArray):=by exact Is.of I)  (hb:bN P f:=by exact inferInstance) (he:first++[]++cap=args:=by exact gF):mH P sl ⟨dst,.call ⟨.value x,#[],ts⟩,ty,pos,af,g⟩ f args:=a7 (xs:=[]) hx (.nil) hb he
theorem bJ {P:Program} {sl:aN} {dst:Option Tmp} {ty:TypeId} {pos:String} {af:Array Edge} {g:Option (Nat×Bool)} {x y0:Operand} {w0:Value} (hx:Is sl x (.func (.func f) first.toArray cap.toArray):=by exact Is.of I) (h0:Is sl y0 w0:=by exact Is.of I) (hb:bN P f:=by exact inferInstance) (he:first++[w0]++cap=args:=by exact gF):mH P sl ⟨dst,.call ⟨.value x,#[y0],ts⟩,ty,pos,af,g⟩ f args:=a7 (xs:=[y0]) hx (.cons h0 (.nil)) hb he
theorem bn {P:Program} {sl:aN} {dst:Option Tmp} {ty:TypeId} {pos:String} {af:Array Edge} {g:Option (Nat×Bool)} {x y0 y1:Operand} {w0 w1:Value} (hx:Is sl x (.func (.func f) first.toArray cap.toArray):=by exact Is.of I) (h0:Is sl y0 w0:=by exact Is.of I) (h1:Is sl y1 w1:=by exact Is.of I) (hb:bN P f:=by exact inferInstance) (he:first++[w0,w1]++cap=args:=by exact gF):mH P sl ⟨dst,.call ⟨.value x,#[y0,y1],ts⟩,ty,pos,af,g⟩ f args:=a7 (xs:=[y0,y1]) hx (.cons h0 (.cons h1 (.nil))) hb he
theorem dU {P:Program} {sl:aN} {dst:Option Tmp} {ty:TypeId} {pos:String} {af:Array Edge} {g:Option (Nat×Bool)} {x y0 y1 y2:Operand} {w0 w1 w2:Value} (hx:Is sl x (.func (.func f) first.toArray cap.toArray):=by exact Is.of I) (h0:Is sl y0 w0:=by exact Is.of I) (h1:Is sl y1 w1:=by exact Is.of I) (h2:Is sl y2 w2:=by exact Is.of I) (hb:bN P f:=by exact inferInstance) (he:first++[w0,w1,w2]++cap=args:=by exact gF):mH P sl ⟨dst,.call ⟨.value x,#[y0,y1,y2],ts⟩,ty,pos,af,g⟩ f args:=a7 (xs:=[y0,y1,y2]) hx (.cons h0 (.cons h1 (.cons h2 (.nil)))) hb he
theorem mI {P:Program} {sl:aN} {dst:Option Tmp} {ty:TypeId} {pos:String} {af:Array Edge} {g:Option (Nat×Bool)} {x y0 y1 y2 y3:Operand} {w0 w1 w2 w3:Value} (hx:Is sl x (.func (.func f) first.toArray cap.toArray):=by exact Is.of I) (h0:Is sl y0 w0:=by exact Is.of I) (h1:Is sl y1 w1:=by exact Is.of I) (h2:Is sl y2 w2:=by exact Is.of I) (h3:Is sl y3 w3:=by exact Is.of I) (hb:bN P f:=by exact inferInstance) (he:first++[w0,w1,w2,w3]++cap=args:=by exact gF):mH P sl ⟨dst,.call ⟨.value x,#[y0,y1,y2,y3],ts⟩,ty,pos,af,g⟩ f args:=a7 (xs:=[y0,y1,y2,y3]) hx (.cons h0 (.cons h1 (.cons h2 (.cons h3 (.nil))))) hb he
theorem DS {P:Program} {sl:aN} {dst:Option Tmp} {ty:TypeId} {pos:String} {af:Array Edge} {g:Option (Nat×Bool)} {x y0 y1 y2 y3 y4:Operand} {w0 w1 w2 w3 w4:Value} (hx:Is sl x (.func (.func f) first.toArray cap.toArray):=by exact Is.of I) (h0:Is sl y0 w0:=by exact Is.of I) (h1:Is sl y1 w1:=by exact Is.of I) (h2:Is sl y2 w2:=by exact Is.of I) (h3:Is sl y3 w3:=by exact Is.of I) (h4:Is sl y4 w4:=by exact Is.of I) (hb:bN P f:=by exact inferInstance) (he:first++[w0,w1,w2,w3,w4]++cap=args:=by exact gF):mH P sl ⟨dst,.call ⟨.value x,#[y0,y1,y2,y3,y4],ts⟩,ty,pos,af,g⟩ f args:=a7 (xs:=[y0,y1,y2,y3,y4]) hx (.cons h0 (.cons h1 (.cons h2 (.cons h3 (.cons h4 (.nil)))))) hb he
end Go.SL
namespace Go.Proofs.A1
open Go Go.SL
open Tryz
open Tryz renaming prog->T_
def ints (es:List Int):List (List Value):=es.map fun e=>[.q e]
theorem dz (es:List Int):(ints es).length=es.length:=by simp [ints]
variable {cs:List Value} {es:List Int} {k n p:Nat} {s:ByteArray} {v:Value} {w:World}
theorem iV (h:k<es.length):(ints es)[k]? = some [.q es[k]]:=by simp [ints,h]
theorem kc (h:k<es.length):ints es≠[]:=by intro e;have:=congrArg List.length e;rw [dz] at this;simp at this;subst this;simp at h
inductive cr:List Value->List Int->Prop
 | nil:cr [] []
 | cons {e:Int} {vs:List Value} {es:List Int} (h:cr vs es):cr (.int .i64 e::vs) (e::es)
theorem cr.eq {vs:List Value} (h:cr vs es):(vs.map fun v=>[v])=ints es:=by
 induction h with
 | nil=>rfl
 | cons h ih=>simp only [Z4,ints,ih]
theorem Rb (c:Int) (w:World):an T_ 323 [.int .u8 c] w (.bool (HE c)):=by
 refine aj func323 I I ?_
 (refine Jr<|Ja I<|Ji<|Jv I<|JF I<|Jv I<|jZ I I I I<|aM I I (fun hg bH=>(nh (.bW hg I) (.of I))) I<|ab (cM (.of I) I) I<|Jv I<|jZ I I I I<|aM I I (fun hg bH=>(nh (.of I) (.bW hg I))) I<|aM I I (fun hg bH=>(aQ (.bW hg I))) I<|gV I I (fun hg bH=>(aQ (.of I))) I<|gV I I (fun hg bH=>(nh (.bW hg I) (.of I))) I<|aM I I (fun hg bH=>(jg hg (.bW hg I) I)) I<|ab (bV (.of I) I) I<|Ja I<|Jn<|Je<|JT ?_)
 rfl
theorem Wf (c:Int) (w:World):an T_ 324 [.int .u8 c] w (.bool (Wg c)):=by
 refine aj func324 I I ?_
 (refine Jr<|Ja I<|Ji<|Jv I<|JF I<|Jv I<|jZ I I I I<|aM I I (fun hg bH=>(nh (.bW hg I) (.of I))) I<|ab (cM (.of I) I) I<|Ja I<|Jn<|Je<|JT ?_)
 rfl
theorem lW (h:Bool) (e:Int) (w:World):an T_ 129 [.bool h,.q e] w (.q (bL h e)):=by
 refine aj func129 I I ?_
 (refine Jr<|Ja I<|Jn<|Jq<|Jr<|Jv I<|Jn<|oK I (fun aA=>?_) fun aA=>?_;refine Jr<|Jv I<|Ja I<|Jn<|Ju<|JT ?_;rotate_left;refine Jk<|Jr<|Ja I<|Jn<|Je<|JT ?_;rotate_right)
 all_goals simp [bL, *]
theorem AJ (n l m:Int) (w:World):an T_ 67 [.q n,.q l,.q m] w (.q (gX n l m)):=by
 refine aj func67 I I ?_
 (refine Jr<|Ja I<|Ji<|Jv I<|Jv I<|JA I<|Jv I<|jZ I I I I<|jZ I I I I<|aM I I (fun hg bH=>(ni (.bW hg I) (.bW hg I))) I<|ab (bV (.of I) I) I<|ah bn I (fun w' aB=>(lW _ 3 w'))<|Ja I<|Jn<|Je<|JT ?_)
 rfl
theorem Tg (s:ByteArray) (w:World):an T_ 270 [.string s] w (.bool (jm s)):=by
 refine aj func270 I I ?_
 (refine Jr<|Ja I<|Jn<|Jq<|Jr<|Jv I<|ab (iz (.of I)) I<|JC I<|Jv I<|jZ I I I I<|aM I I (fun hg bH=>(iz (.bW hg I))) I<|aM I I (fun hg bH=>(ni (.bW hg I) (.of I))) I<|ab (bV (.of I) I) I<|Jv I<|jZ I I I I<|aM I I (fun hg bH=>(qv (.bW hg I) (.of I) (by omega) (by omega))) I<|l5 I I (fun hg=>(a7 (.of I) (.cons (.bW hg I) .nil) inferInstance gF)) I (fun hg w' aB=>(Rb _ w'))<|aM I I (fun hg bH=>(fu (.bW hg I))) I<|ab (bV (.of I) I) I<|Jn<|oK I (fun aA=>?_) fun aA=>?_;refine Jr<|Ja I<|Jn<|Ju<|JT ?_;rotate_left;refine Jk<|Jq<|Jr<|Ja I<|Jn<|J0 ?_;rotate_right)
 ·congr 1;symm;change (_\/_)\/HE (bt s 0)=false at aA;unfold jm;rcases aA with (h | h) | h
  ·simp;omega
  ·simp;omega
  ·simp [h]
 change (_/\_)/\HE (bt s 0)=true at aA;obtain ⟨⟨h0,h1⟩,h2⟩:=aA;have hN:jm s=okF s 1:=by
  unfold jm;rw [h2,decide_eq_true (by omega),decide_eq_true (by omega)];rfl
 rw [hN];refine aV (fun k:Nat=>1<=k/\k<=s.size/\okF s 1=okF s k) (fun k=>[(3,.q k),(0,.string s)]) (fun _=>[]) (fun k=>s.size-k) ?_ ?_
 ·apply aH 1 ⟨by omega,by omega,I⟩
  case hs1=>exact bT
  case ht=>(try simp only [Ze,Zf,Za]);exact .nil
 intro k ⟨Rp,hk,hf⟩;rw [hf];by_cases aL:k<s.size
 ·rw [AU aL]
  (refine Jq<|Jr<|Jv I<|Jv I<|ab (iz (.of I)) I<|JA I<|Jn<|Jd I fun aA=>Jk<|Jq<|J0<|Jr<|Jv I<|Jv I<|ab (qv (.of I) (.of I) (by omega) aA) I<|ah bJ I (fun w' aB=>(Rb _ w'))<|JH I<|Jv I<|jZ I I I I<|jZ I I I I<|aM I I (fun hg bH=>(qv (.bW hg I) (.bW hg I) (by omega) aA)) I<|l5 I I (fun hg=>(a7 (.of I) (.cons (.bW hg I) .nil) inferInstance gF)) I (fun hg w' aB=>(Wf _ w'))<|aM I I (fun hg bH=>(fu (.bW hg I))) I<|ab (cM (.of I) I) I<|Jv I<|jZ I I I I<|jZ I I I I<|aM I I (fun hg bH=>(qv (.bW hg I) (.bW hg I) (by omega) aA)) I<|aM I I (fun hg bH=>(j7 (.bW hg I) (.of I))) I<|ab (cM (.of I) I) I<|Jn<|oK I (fun aA=>?_) fun aA=>?_;refine Jr<|Ja I<|Jn<|Je<|Jm<|Jh<|Jh<|Jm<|Jh<|JT ?_;rotate_left;refine Jw<|Jj<|Jt<|Jg<|Jv I<|JB I (by omega)<|Ja I<|Jn ?_;rotate_right)
  ·congr 1;symm;change (HE (bt s k)=false/\Wg (bt s k)=false)/\bt s k≠95 at aA;simp [okB,aA]
  ·have ho:okB (bt s k)=true:=by
    change (HE (bt s k)=true\/Wg (bt s k)=true)\/¬ bt s k≠95 at aA;rcases aA with (h | h) | h
    ·simp [okB,h]
    ·simp [okB,h]
    ·simp [okB,Zq.1 h]
   rw [ho,Zaz];rw [AU aL,ho,Zaz] at hf;rw [<- hf];apply aG (k+1) ⟨by omega,by omega,hf⟩ (by omega)
   case hs1=>exact bT
   case ht=>(try simp only [Ze,Zf,Za]);exact .nil
 ·(refine Jq<|Jr<|Jv I<|Jv I<|ab (iz (.of I)) I<|JA I<|Jn<|Jc I fun aA=>Jp<|Jl<|Jo<|Jt<|Jr<|Ja I<|Jn<|Je<|JT ?_)
  rw [Gb (by omega)]
theorem V7 (s:ByteArray) (w:World):an T_ 189 [.string s] w (.q (V8 s)):=by
 refine aj func189 I I ?_
 (refine Jr<|Ja I<|Ji<|Jv I<|ah bJ I (fun w' aB=>(Tg s w'))<|JH I<|ah bn I (fun w' aB=>(lW _ 8 w'))<|Ja I<|Jn<|Je<|JT ?_)
 rfl
theorem GD (v:Value) (es:List Int) (w:World) (h:Rd w v 1 (ints es)):an T_ 28 [v] w (.q (aY es)):=by
 obtain ⟨a,cap,b,o,rfl,dC,ch,ha,hc⟩:=h;rw [dz] at *;unfold maxLen at ch;refine aj func28 I I ?_;refine Jr<|Ja I<|Jn<|Jq<|Jr<|Ja I<|Jn<|J0 ?_;refine aV (fun k:Nat=>k<=es.length/\aY es=aY (es.drop k)) (fun k=>[(3,.int .i64 k),(0,.slice a es.length cap)]) (fun _=>[]) (fun k=>es.length-k) ?_ ?_
 ·apply aH 0 ⟨Zi _,I⟩
  case hs1=>exact bT
  case ht=>(try simp only [Ze,Zf,Za]);exact .nil
 intro k ⟨hk,hf⟩;by_cases aL:k<es.length
 ·have cY:=ha (kc aL);have aF:=rd1 hc (iV aL);have hs:=tN aL
  (refine Jq<|Jr<|Jv I<|Jv I<|JI I<|JA I<|Jn<|Jd I fun aA=>Jk<|Jq<|J0<|Jr<|Jv I<|Jv I<|ab (gE cY aA) I<|ab (ag (.of I) (At.base aF I)) I<|JD I<|Jn<|gL I (fun aA=>?_) fun aA=>?_;refine Jr<|Jv I<|Jv I<|ab (ao (.of I) (.of I) cY (by omega) (by assumption) aW) I<|ab (ag (.of I) (At.base aF I)) I<|Ja I<|Jn<|Je<|Jm<|Jh<|Jh<|Jm<|Jh<|JT ?_;rotate_left;refine Jw<|Jj<|Jt<|Jg<|Jv I<|JB I (by omega)<|Ja I<|Jn ?_;rotate_right)
  ·rw [hf,hs,if_pos aA]
  ·apply aG (k+1) ⟨by omega,by rw [hf,hs,if_neg aA]⟩ (by omega)
   case hs1=>exact bT
   case ht=>(try simp only [Ze,Zf,Za]);exact .nil
 ·refine Jq<|Jr<|Jv I<|Jv I<|JI I<|JA I<|Jn<|Jc I fun aA=>Jp<|Jl<|Jo<|Jt<|Jr<|Ja I<|Jn<|Je<|JT ?_;rw [hf,Zbi (by omega)];rfl
theorem nJ (h:Rd w v 1 (cs.map fun v=>[v])) (hl:cr cs es):an T_ 28 [v] w (.q (aY es)):=
 GD v es w (by rw [<- hl.eq];exact h)
theorem ef (h:Bool) (e:Int) (w:World):an T_ 147 [.bool h,.q e] w (.q (bL h e)):=by
 refine aj func147 I I ?_
 (refine Jr<|Ja I<|Jn<|Jq<|Jr<|Jv I<|Jn<|oK I (fun aA=>?_) fun aA=>?_;refine Jr<|Jv I<|Ja I<|Jn<|Ju<|JT ?_;rotate_left;refine Jk<|Jr<|Ja I<|Jn<|Je<|JT ?_;rotate_right)
 all_goals simp [bL, *]
theorem nw (n l m:Int) (w:World):an T_ 134 [.q n,.q l,.q m] w (.q (gX n l m)):=by
 refine aj func134 I I ?_
 (refine Jr<|Ja I<|Ji<|Jv I<|Jv I<|JA I<|Jv I<|jZ I I I I<|jZ I I I I<|aM I I (fun hg bH=>(ni (.bW hg I) (.bW hg I))) I<|ab (bV (.of I) I) I<|ah bn I (fun w' aB=>(ef _ 3 w'))<|Ja I<|Jn<|Je<|JT ?_)
 rfl
theorem GF (v:Value) (es:List Int) (w:World) (h:Rd w v 1 (ints es)):an T_ 111 [v] w (.q (aY es)):=by
 obtain ⟨a,cap,b,o,rfl,dC,ch,ha,hc⟩:=h;rw [dz] at *;unfold maxLen at ch;refine aj func111 I I ?_;refine Jr<|Ja I<|Jn<|Jq<|Jr<|Jv I<|JI I<|Jv I<|Jn<|J0 ?_;refine aV (fun k:Nat=>k<=es.length/\aY es=aY (es.drop k)) (fun k=>[(7,.int .i64 k),(6,.int .i64 es.length),(5,.slice a es.length cap)]) (fun _=>[]) (fun k=>es.length-k) ?_ ?_
 ·apply aH 0 ⟨Zi _,I⟩
  case hs1=>exact bT
  case ht=>(try simp only [Ze,Zf,Za]);exact .nil
 intro k ⟨hk,hf⟩;by_cases aL:k<es.length
 ·have cY:=ha (kc aL);have aF:=rd1 hc (iV aL);have hs:=tN aL
  (refine Jr<|JA I<|Jn<|Jq<|Jd I fun aA=>Jk<|Jq<|J0<|Jr<|ab (gE cY aA) I<|ab (ag (.of I) (At.base aF I)) I<|Ja I<|Ji<|Jv I<|JD I<|Jn<|gL I (fun aA=>?_) fun aA=>?_;refine Jr<|Jv I<|Ja I<|Jn<|Je<|Jm<|Jh<|Jh<|Jm<|Jh<|JT ?_;rotate_left;refine Jw<|Jj<|Jt<|Jg<|JB I (by omega)<|Jv I<|Jn ?_;rotate_right)
  ·rw [hf,hs,if_pos aA]
  ·apply aG (k+1) ⟨by omega,by rw [hf,hs,if_neg aA]⟩ (by omega)
   case hs1=>exact bT
   case ht=>(try simp only [Ze,Zf,Za]);exact .nil
 ·refine Jr<|JA I<|Jn<|Jq<|Jc I fun aA=>Jp<|Jl<|Jo<|Jt<|Jr<|Ja I<|Jn<|Je<|JT ?_;rw [hf,Zbi (by omega)];rfl
theorem dV (h:Rd w v 1 (cs.map fun v=>[v])) (hl:cr cs es):an T_ 111 [v] w (.q (aY es)):=
 GF v es w (by rw [<- hl.eq];exact h)
theorem XW (h:p<s.size):bt s p=((s[p]'h).toNat:Nat):=by
 unfold bt;have:s.data.toList[p]? = some (s[p]'h):=by
  rw [ZaH];exact getElem?_pos s.data p h
 rw [this];rfl
theorem zL (h:p<s.size):(bt s p<128/\((Utf8.decode s p).1:Int)=bt s p/\(Utf8.decode s p).2=1)\/(128<=bt s p/\(128:Int)<=(Utf8.decode s p).1/\1<=(Utf8.decode s p).2):=by
 rw [XW h];by_cases ha:(s[p]'h).toNat<128
 ·have:=decode_ascii s p h ha
  left;rw [this];exact ⟨by omega,I,I⟩
 ·have:=decode_high s p h (by omega)
  right;omega
theorem CY :s.size=0↔s=⟨#[]⟩:=by
 constructor
 ·intro h;have:s.data=#[]:=Array.eq_empty_of_size_eq_zero h;cases s;simp_all
 ·rintro rfl;rfl
theorem Gh {c:Int}:HE c=true↔(65<=c/\c<=90)\/(97<=c/\c<=122):=by simp [HE]
theorem AV {c:Int}:okB c=true↔((65<=c/\c<=90)\/(97<=c/\c<=122))\/(48<=c/\c<=57)\/c=95:=by simp [okB,HE,Wg,or_assoc]
theorem AY (s:ByteArray) (w:World):an T_ 187 [.string s] w (.bool (jm s)):=by
 refine aj func187 I I ?_
 (refine Jr<|Ja I<|Jn<|Jq<|Jr<|Jv I<|bh (Hk (.of I)) I fun _ _=>Jn<|J0 ?_)
 rename_i bi hbi;refine aV (fun p:Nat=>p<=s.size/\(p=0\/(1<=p/\HE (bt s 0)=true/\okF s 1=okF s p))) (fun _=>[(7,.p bi),(0,.string s)]) (fun p=>[bu bi (.stringIter s p)]) (fun p=>s.size-p) ?_ ?_
 ·apply aH 0 ⟨by omega,.inl I⟩
  case hs1=>exact bT
  case ht=>(try simp only [Ze,Zf,Za]);exact .h1 .nil
 intro p ⟨hp,hI⟩
 (refine Jr<|JZ (.of I) .here I (fun aL=>?_) fun aL=>?_;refine JJ I I<|Jn<|Jq<|c5 (.of I)<|Jk<|J0<|Jr<|JJ I I<|JJ I I<|Ja I<|Ja I<|Ji<|Jv I<|JG I<|Jv I<|jZ I I I I<|aM I I (fun hg bH=>(nh (.bW hg I) (.of I))) I<|ab (cM (.of I) I) I<|Jv I<|jZ I I I I<|aM I I (fun hg bH=>(AF (.bW hg I) (.of I))) I<|aM I I (fun hg bH=>(aQ (.bW hg I))) I<|gV I I (fun hg bH=>(aQ (.of I))) I<|gV I I (fun hg bH=>(nh (.bW hg I) (.of I))) I<|aM I I (fun hg bH=>(jg hg (.bW hg I) I)) I<|ab (bV (.of I) I) I<|Ja I<|Ji<|Jv I<|JH I<|Jv I<|jZ I I I I<|aM I I (fun hg bH=>(oh (.bW hg I) (.of I))) I<|aM I I (fun hg bH=>(aQ (.bW hg I))) I<|gV I I (fun hg bH=>(aQ (.of I))) I<|gV I I (fun hg bH=>(l7 (.bW hg I) (.of I))) I<|gV I I (fun hg bH=>(aQ (.bW hg I))) I<|gV I I (fun hg bH=>(aQ (.of I))) I<|gV I I (fun hg bH=>(ni (.bW hg I) (.of I))) I<|gV I I (fun hg bH=>(kX hg (.bW hg I) I)) I<|gV I I (fun hg bH=>(aQ (.bW hg I))) I<|gV I I (fun hg bH=>(aQ (.of I))) I<|gV I I (fun hg bH=>(j7 (.bW hg I) (.of I))) I<|gV I I (fun hg bH=>(jg hg (.bW hg I) I)) I<|aM I I (fun hg bH=>(kX hg (.bW hg I) I)) I<|ab (cM (.of I) I) I<|Jn<|oK I (fun aA=>?_) fun aA=>?_;refine Jr<|Ja I<|Jn<|Je<|Jm<|Jh<|Jm<|Jh<|JT ?_;rotate_left;refine Jw<|Jj<|Jt ?_;rotate_right;rotate_left 2;refine JJ I I<|Jn<|Jq<|cd (.of I)<|Jp<|Jl<|Jo<|Jt<|Jr<|Jv I<|ab (gz (.of I) (.of I)) I<|Jv I<|jZ I I I I<|aM I I (fun hg bH=>(iz (.bW hg I))) I<|aM I I (fun hg bH=>(nh (.bW hg I) (.of I))) I<|ab (cM (.of I) I) I<|Ja I<|Jn<|Je<|JT ?_;rotate_right 2)
 ·congr 1;symm;unfold jm;have hd:=zL aL;rcases hI with rfl | ⟨h1,h2,h3⟩
  ·have:HE (bt s 0)=false:=by rw [<- Zar,Gh];omega
   simp [this]
  ·have:okF s p=false:=by
    rw [AU aL];have:okB (bt s p)=false:=by rw [<- Zar,AV];omega
    rw [this];rfl
   rw [h3,this];simp
 ·have hd:=zL aL;have ho:okB (bt s p)=true:=by rw [AV];omega
  have hw:(Utf8.decode s p).2=1:=by rw [AV] at ho;omega
  rw [hw];have hn:HE (bt s 0)=true/\okF s 1=okF s (p+1):=by
   rcases hI with rfl | ⟨h1,h2,h3⟩
   ·refine ⟨?_,I⟩;rw [Gh];omega
   ·exact ⟨h2,by rw [h3,AU aL,ho];rfl⟩
  apply aG (p+1) ⟨by omega,.inr ⟨by omega,hn⟩⟩ (by omega)
  case hs1=>exact bT
  case ht=>(try simp only [Ze,Zf,Za]);exact .h1 .nil
 ·unfold jm;congr 1;by_cases h0:s.size=0
  ·have:s=⟨#[]⟩:=CY.1 h0;rw [decide_eq_false (p:=s≠⟨#[]⟩) (fun h=>h this),decide_eq_false (p:=0<s.size) (by omega)];rfl
  ·rw [decide_eq_true (p:=s≠⟨#[]⟩) (fun h=>h0 (CY.2 h)),decide_eq_true (p:=0<s.size) (by omega)]
   rcases hI with rfl | ⟨h1,h2,h3⟩
   ·omega
   ·rw [h2,h3,Gb (by omega)];simp;omega
def Sr.cells (x:Sr):List Value:=[.string x.nm,.q x.mx]
def vV (l:List Sr):List (List Value):=l.map Sr.cells
def il (l:List Sr):List Value:=(vV l).flatten
theorem cG (l:List Sr):(vV l).length=l.length:=by simp [vV]
theorem fW {l:List Sr} (h:k<l.length):(vV l)[k]? = some ((Sr.cells) l[k]):=by simp [vV,h]
theorem iD {l:List Sr} (h:k<l.length):vV l≠[]:=by intro e;have:=congrArg List.length e;rw [cG] at this;simp at this;subst this;simp at h
theorem Kj (l:List Sr):∀ r∈vV l,r.length=2:=fun r hr=>by obtain ⟨x,_,rfl⟩:=Zw.1 hr;rfl
theorem FV (l:List Sr):∀ r∈vV l,∀ u∈r,u.oneCell'=true:=fun r hr=>by obtain ⟨x,_,rfl⟩:=Zw.1 hr;exact bR rfl (bR rfl (ib))
theorem vd (l:List Sr):(il l).length=l.length*2:=by unfold il;rw [fU (Kj l),cG]
theorem Oj (a b:List Sr):il (a++b)=il a++il b:=by unfold il vV;rw [Zy,Zag]
theorem Co {l:List Sr} (h:k<l.length):il (l.take (k+1))=il (l.take k)++(Sr.cells) l[k]:=by rw [Zm h,Oj];unfold il vV;simp
theorem cF {c:Cx} {hs hs':List bd} {l:List Sr} {E:TypeId} (hm:Mem c hs w) (ht:Take hs (row E 2 v n (il l)) hs') (hn:l.length=n):Rd w v 2 (vV l):=hm.qY ht I (Kj l) (by rw [cG,hn])
def De.cells (x:De):List Value:=[.string x.nm,.q x.mx,.bool x.pr]
def vG (l:List De):List (List Value):=l.map De.cells
def gm (l:List De):List Value:=(vG l).flatten
theorem bY (l:List De):(vG l).length=l.length:=by simp [vG]
theorem fM {l:List De} (h:k<l.length):(vG l)[k]? = some ((De.cells) l[k]):=by simp [vG,h]
theorem ij {l:List De} (h:k<l.length):vG l≠[]:=by intro e;have:=congrArg List.length e;rw [bY] at this;simp at this;subst this;simp at h
theorem E8 (l:List De):∀ r∈vG l,r.length=3:=fun r hr=>by obtain ⟨x,_,rfl⟩:=Zw.1 hr;rfl
theorem GL (l:List De):∀ r∈vG l,∀ u∈r,u.oneCell'=true:=fun r hr=>by obtain ⟨x,_,rfl⟩:=Zw.1 hr;exact bR rfl (bR rfl (bR rfl (ib)))
theorem vF (l:List De):(gm l).length=l.length*3:=by unfold gm;rw [fU (E8 l),bY]
theorem Qi (a b:List De):gm (a++b)=gm a++gm b:=by unfold gm vG;rw [Zy,Zag]
theorem Dy {l:List De} (h:k<l.length):gm (l.take (k+1))=gm (l.take k)++(De.cells) l[k]:=by rw [Zm h,Qi];unfold gm vG;simp
theorem cH {c:Cx} {hs hs':List bd} {l:List De} {E:TypeId} (hm:Mem c hs w) (ht:Take hs (row E 3 v n (gm l)) hs') (hn:l.length=n):Rd w v 3 (vG l):=hm.qY ht I (E8 l) (by rw [bY,hn])
def Ti.cells (x:Ti):List Value:=[.string x.nm,.q x.fr,.q x.to]
def u7 (l:List Ti):List (List Value):=l.map Ti.cells
def iC (l:List Ti):List Value:=(u7 l).flatten
theorem bS (l:List Ti):(u7 l).length=l.length:=by simp [u7]
theorem ep {l:List Ti} (h:k<l.length):(u7 l)[k]? = some ((Ti.cells) l[k]):=by simp [u7,h]
theorem fq {l:List Ti} (h:k<l.length):u7 l≠[]:=by intro e;have:=congrArg List.length e;rw [bS] at this;simp at this;subst this;simp at h
theorem Kc (l:List Ti):∀ r∈u7 l,r.length=3:=fun r hr=>by obtain ⟨x,_,rfl⟩:=Zw.1 hr;rfl
theorem FQ (l:List Ti):∀ r∈u7 l,∀ u∈r,u.oneCell'=true:=fun r hr=>by obtain ⟨x,_,rfl⟩:=Zw.1 hr;exact bR rfl (bR rfl (bR rfl (ib)))
theorem u6 (l:List Ti):(iC l).length=l.length*3:=by unfold iC;rw [fU (Kc l),bS]
theorem N4 (a b:List Ti):iC (a++b)=iC a++iC b:=by unfold iC u7;rw [Zy,Zag]
theorem Cm {l:List Ti} (h:k<l.length):iC (l.take (k+1))=iC (l.take k)++(Ti.cells) l[k]:=by rw [Zm h,N4];unfold iC u7;simp
theorem cE {c:Cx} {hs hs':List bd} {l:List Ti} {E:TypeId} (hm:Mem c hs w) (ht:Take hs (row E 3 v n (iC l)) hs') (hn:l.length=n):Rd w v 3 (u7 l):=hm.qY ht I (Kc l) (by rw [bS,hn])
def Po.cells (x:Po):List Value:=[.q x.lv,.string x.ou,.string x.ip]
def uf (l:List Po):List (List Value):=l.map Po.cells
def eF (l:List Po):List Value:=(uf l).flatten
theorem cT (l:List Po):(uf l).length=l.length:=by simp [uf]
theorem ia {l:List Po} (h:k<l.length):(uf l)[k]? = some ((Po.cells) l[k]):=by simp [uf,h]
theorem j8 {l:List Po} (h:k<l.length):uf l≠[]:=by intro e;have:=congrArg List.length e;rw [cT] at this;simp at this;subst this;simp at h
theorem KQ (l:List Po):∀ r∈uf l,r.length=3:=fun r hr=>by obtain ⟨x,_,rfl⟩:=Zw.1 hr;rfl
theorem AR (l:List Po):∀ r∈uf l,∀ u∈r,u.oneCell'=true:=fun r hr=>by obtain ⟨x,_,rfl⟩:=Zw.1 hr;exact bR rfl (bR rfl (bR rfl (ib)))
theorem gA (l:List Po):(eF l).length=l.length*3:=by unfold eF;rw [fU (KQ l),cT]
theorem AQ (a b:List Po):eF (a++b)=eF a++eF b:=by unfold eF uf;rw [Zy,Zag]
theorem CR {l:List Po} (h:k<l.length):eF (l.take (k+1))=eF (l.take k)++(Po.cells) l[k]:=by rw [Zm h,AQ];unfold eF uf;simp
theorem cq {c:Cx} {hs hs':List bd} {l:List Po} {E:TypeId} (hm:Mem c hs w) (ht:Take hs (row E 3 v n (eF l)) hs') (hn:l.length=n):Rd w v 3 (uf l):=hm.qY ht I (KQ l) (by rw [cT,hn])
def fN (l:List ByteArray):List (List Value):=l.map fun s=>[.string s]
def aR (l:List ByteArray):List Value:=l.map Value.string
theorem bG (l:List ByteArray):(fN l).length=l.length:=by simp [fN]
theorem fH {l:List ByteArray} (h:k<l.length):(fN l)[k]? = some [.string l[k]]:=by simp [fN,h]
theorem iU {l:List ByteArray} (h:k<l.length):fN l≠[]:=by intro e;have:=congrArg List.length e;rw [bG] at this;simp at this;subst this;simp at h
theorem Ke (l:List ByteArray):∀ r∈fN l,r.length=1:=fun r hr=>by obtain ⟨x,_,rfl⟩:=Zw.1 hr;rfl
theorem u9 (l:List ByteArray):∀ r∈fN l,∀ u∈r,u.oneCell'=true:=fun r hr=>by obtain ⟨x,_,rfl⟩:=Zw.1 hr;exact bR rfl ib
theorem ph (l:List ByteArray):aR l=(fN l).flatten:=by
 induction l with
 | nil=>rfl
 | cons x l ih=>show [Value.string x]++aR l=_;rw [ih];rfl
theorem dx (l:List ByteArray):(aR l).length=l.length:=by simp [aR]
theorem eU (a b:List ByteArray):aR (a++b)=aR a++aR b:=by simp [aR]
theorem ez {c:Cx} {hs hs':List bd} {l:List ByteArray} {E:TypeId} (hm:Mem c hs w) (ht:Take hs (row E 1 v n (aR l)) hs') (hn:l.length=n):Rd w v 1 (fN l):=hm.qY ht (ph l) (Ke l) (by rw [bG,hn])
structure RR (w:World) (r:Ro) (s d t p:Value):Prop where
 sr:Rd w s 2 (vV r.sr)
 de:Rd w d 3 (vG r.de)
 ti:Rd w t 3 (u7 r.ti)
 po:Rd w p 3 (uf r.po)
theorem RR.keeps {w w':World} {r:Ro} {s d t p:Value} (h:RR w r s d t p) (hk:aI [] w w'):RR w' r s d t p:=⟨h.sr.keeps hk,h.de.keeps hk,h.ti.keeps hk,h.po.keeps hk⟩
def RA (r:Ro) (s d t p:Value):Value:=.agg #[.q r.lv,.q r.ma,s,d,t,p]
abbrev JQ (b:Nat) (r:Ro) (s d t p:Value):bd:=bu b (.cells #[.q r.lv,.q r.ma,s,d,t,p] 27 (0,0))
abbrev JP (b:Nat) (r:Ro) (s d t p:Value):bd:=bu b (.cells #[.q r.lv,.q r.ma,s,d,t,p] 41 (0,0))
abbrev J1 (r:Ro) (v:Value):bd:=row 186 2 v r.sr.length (il r.sr)
abbrev J2 (r:Ro) (v:Value):bd:=row 90 3 v r.de.length (gm r.de)
abbrev J3 (r:Ro) (v:Value):bd:=row 187 3 v r.ti.length (iC r.ti)
abbrev J4 (r:Ro) (v:Value):bd:=row 188 3 v r.po.length (eF r.po)
abbrev JW (v:Value) (l:List ByteArray):bd:=row 9 1 v l.length (aR l)
end Go.Proofs.A1
namespace Go.SL
open Go
def Ng (As:List bd):bd where
 sat h fp:=cy h As fp
 loc:=fun hs hb=>hs.loc hb
 own:=fun hs b hb=>hs.own b hb
def fR (E:TypeId):List Value->List (List Value)->List bd
 | v::vs,x::xs=>row E 1 v x.length x::fR E vs xs
 | _,_=>[]
def iM (E:TypeId) (vs:List Value) (xs:List (List Value)):bd:=Ng (fR E vs xs)
theorem zk {E:TypeId} {v:Value} {x:List Value}:∀ {vs:List Value} {xs:List (List Value)} {j:Nat},vs[j]? = some v->xs[j]? = some x->∃ r,Take (fR E vs xs) (row E 1 v x.length x) r
 | [],_,j,h,_=>by simp at h
 | _::_,[],j,_,h=>by simp at h
 | v' :: vs, x' :: xs, 0, h1, h2 => by
  simp only [ZaC,Option.some.injEq] at h1 h2;subst h1 h2;exact ⟨_,.here⟩
 | v' :: vs, x' :: xs, j + 1, h1, h2 => by
  simp only [Zba] at h1 h2;obtain ⟨r,hr⟩:=zk h1 h2;exact ⟨_,.there hr⟩
theorem zm {E:TypeId} {v:Value} {x:List Value}:∀ {vs:List Value} {xs:List (List Value)},vs.length=xs.length->fR E (vs++[v]) (xs++[x])=fR E vs xs++[row E 1 v x.length x]
 | [],[],_=>rfl
 | [],_::_,h=>by simp at h
 | _::_,[],h=>by simp at h
 | v' :: vs, x' :: xs, h => by
  simp only [ZB,Nat.add_right_cancel_iff] at h;simp only [Zb,fR,zm h]
theorem Mem.wA {c:Cx} {hs hs':List bd} {w:World} {E:TypeId} {vs:List Value} {xs:List (List Value)} {j:Nat} {v:Value} {x:List Value} (hm:Mem c hs w) (ht:Take hs (iM E vs xs) hs') (hv:vs[j]? = some v) (hx:xs[j]? = some x):Rd w v 1 (x.map fun u=>[u]):=by
 obtain ⟨k,fp,hn,⟨f1,f2,rfl,h1,h2⟩,hb⟩:=hm.take ht;have me:Mem c (fR E vs xs++hs') w:=⟨k,f1++f2,hn,cy.append_iff.2 ⟨f1,f2,I,h1,h2⟩,hb⟩;obtain ⟨r,hr⟩:=zk (E:=E) hv hx;exact me.KD (hr.append hs') I
section
variable {P:Program} {r:Option Nat} {c:Cx} {D:List Nat} {sl:aN} {hs hs':List bd} {X:Act->World->Prop} {Q:Exit->Act->World->Prop} {ι:Type}
variable {ops:Array Oper} {d:Nat} {ty:TypeId} {pos:String} {af:Array Edge} {rest:List Oper}
theorem lZ {E:TypeId} {vs:List Value} {xs:List (List Value)} {v:Value} {x:List Value} {n:Nat} {h1 h2:List bd} (ht:Take hs (iM E vs xs) h1) (ht2:Take h1 (row E 1 v n x) h2) (hn:n=x.length) (hl:vs.length=xs.length)
  (k:Tr c D sl (iM E (vs++[v]) (xs++[x])::h2) X):Tr c D sl hs X:=fun a w bb=>by
 subst hn;have hT:bj hs [iM E vs xs,row E 1 v x.length x] h2:=.cons ht (.cons ht2 .nil);have hm:=bb.mem.jA (hT.append (nF D));obtain ⟨kk,fp,uy,⟨f1,f2',rfl,g1,⟨f2,f3,rfl,g2,g3⟩⟩,hb⟩:=hm;refine k a w (bb.heap ⟨kk,(f1++f2)++f3,by rw [Zh];exact uy,⟨f1++f2,f3,I,?_,g3⟩,by rw [Zh];exact hb⟩);show cy (hp w) (fR E (vs++[v]) (xs++[x])) (f1++f2);rw [zm hl];exact cy.append_iff.2 ⟨f1,f2,I,g1,⟨f2,[],by simp,g2,I⟩⟩
theorem kE (E:TypeId) (k:Tr c D sl (iM E [] []::hs) X):Tr c D sl hs X:=fun a w bb=>
 k a w (bb.heap (Mem.change (As := []) (Bs := [iM E [] []]) bb.mem fun fp _ hf => by
  rw [show fp=[] from hf];exact ⟨.refl _ _,[],Zao,⟨[],[],I,I,I⟩,by simp⟩))
variable {As:List bd}
theorem yU (ht:Take hs (Ng As) hs') (k:Tr c D sl (As++hs') X):Tr c D sl hs X:=fun a w bb=>by
 obtain ⟨kk,fp,hn,⟨f1,f2,rfl,h1,h2⟩,hb⟩:=bb.mem.take (ht.append _);exact k a w (bb.heap ⟨kk,f1++f2,hn,by rw [Zh];exact cy.append_iff.2 ⟨f1,f2,I,h1,h2⟩,hb⟩)
theorem tf (ht:bj hs As hs') (k:Tr c D sl (Ng As::hs') X):Tr c D sl hs X:=fun a w bb=>by
 obtain ⟨kk,fp,hn,gi,hb⟩:=bb.mem.jA (ht.append (nF D));obtain ⟨f1,f2,rfl,h1,h2⟩:=cy.append_iff.1 gi;exact k a w (bb.heap ⟨kk,f1++f2,hn,⟨f1,f2,I,h1,h2⟩,hb⟩)
theorem eH {op:Op} {f:FuncId} {args:List Value} {Φ:ι->Prop} {val:ι->Value} {own:ι->List bd} (hr:mH P sl ⟨some d,op,ty,pos,af,none⟩ f args) (hd:Nat.blt d c.nt=true) (ht:bj hs As hs')
  (hc:∀ w fp,Mem c hs w->fp.Nodup->cy (hp w) As fp->(∀ b∈fp,b∈c.md\/c.w0.heap.size<=b)->(∀ b o h2,Take hs' (bu b o) h2->b ∉ fp)->a8 P f args w fp Φ val own)
  (k:∀ x,Φ x->Tr c D ((d,val x)::sl) (own x++hs') (WL P r ops Q rest)):Tr c D sl hs (WL P r ops Q (⟨some d,op,ty,pos,af,none⟩::rest)):=fun a w bb=>by
 have hm:=bb.mem.jA (ht.append (nF D));obtain ⟨kk,fp,hn,gi,hb⟩:=hm;obtain ⟨f1,f2,rfl,h1,h2⟩:=cy.append_iff.1 gi;obtain ⟨n1,n2,n12⟩:=ZI.1 hn;have ku:∀ b o h3,Take hs' (bu b o) h3->b ∉ f1:=fun b o h3 htk PT=>by
  obtain ⟨g1,g2,⟨e1,_⟩,_,hp⟩:=cy.take (htk.append (nF D)) h2;have:b∈f2:=hp.mem_iff.2 (ZH _ (by rw [e1];simp));exact n12 b PT b this I
 refine zY I hr bb.dw (hc w f1 bb.pE n1 h1 (fun b dQ=>(hb b (ZH _ dQ)).symm) ku) fun e w' ⟨x,he,hx,hk,mE,uy,hs',zC⟩=>⟨val x,he,k x hx _ _ ((bb.put (by simpa [Z8] using hd) (val x)).heap ?_)⟩;have aL:∀ b∈f2,b<w.heap.size:=fun b dQ=>let ⟨o,ho⟩:=h2.own b dQ;lf ho
 rw [Zh];refine ⟨?_,mE++f2,?_,cy.append_iff.2 ⟨mE,f2,I,hs',h2.loc fun b dQ=>?_⟩,?_⟩
 ·refine ⟨hk.os.trans kk.os,hk.tape.trans kk.tape,hk.output.trans kk.output,ZP kk.dr hk.dr,ZP kk.size hk.size,fun b dQ hm=>?_⟩;rw [<- kk.block b dQ hm];refine hk.block b (ZaK dQ kk.size) (fun hf=>?_);rcases hb b (ZH _ hf) with h | h
  ·omega
  ·exact hm h
 ·refine ZI.2 ⟨uy,n2,fun x hx y hy e=>?_⟩;subst e;rcases zC x hx with h | h
  ·exact n12 x h x hy I
  ·have:=aL x hy;omega
 ·exact hk.block b (aL b dQ) (fun hf=>n12 b hf b dQ I)
 ·intro b dQ;rcases Zz.1 dQ with h | h
  ·rcases zC b h with h | h
   ·exact hb b (ZH _ h)
   ·exact .inl (ZP kk.size h)
  ·exact hb b (ZT _ h)
end
end Go.SL
namespace Go.Proofs.A1
open Go Go.SL
open Tryz
open Tryz renaming prog->T_
def iN {α:Type} (p:α->Bool) (l:List α):Int:=((List.range l.length).find? fun i=>(l[i]?.map p).getD false).elim (-1) (fun i=>(i:Int))
theorem gN {α:Type} {p:α->Bool} {l:List α} {k:Nat} (h:∀ i,i<k->(l[i]?.map p).getD false=false) (hk:k<l.length) (hp:p l[k]=true):iN p l=k:=by
 unfold iN;have:(List.range l.length).find? (fun i=>(l[i]?.map p).getD false)=some k:=by
  rw [List.find?_range_eq_some];exact ⟨by simp [hk,hp],by simpa using hk,fun i hi=>by simpa using h i hi⟩
 rw [this];rfl
theorem fO {α:Type} {p:α->Bool} {l:List α} (h:∀ i,i<l.length->(l[i]?.map p).getD false=false):iN p l = -1:=by
 unfold iN;have:(List.range l.length).find? (fun i=>(l[i]?.map p).getD false)=none:=by
  rw [ZaM];intro i hi;simp [h i (ZU.1 hi)]
 rw [this];rfl
theorem lb {α:Type} (p:α->Bool) (l:List α):decide (0<=iN p l)=l.any p:=by
 unfold iN;cases h:(List.range l.length).find? fun i=>(l[i]?.map p).getD false with
 | none =>
  have:l.any p=false:=by
   rw [Zaw];intro x hx;obtain ⟨i,hi,rfl⟩:=ZA hx;have:=ZaM.1 h i (ZU.2 hi);simpa [hi] using this
  rw [this];rfl
 | some i =>
  have h1:=ZU.1 (List.mem_of_find?_eq_some h);have h2:=List.find?_some h;have:l.any p=true:=by
   rw [ZR];exact ⟨l[i],Zj h1,by simpa [h1] using h2⟩
  rw [this];simp
variable {cap:List Value} {f:FuncId} {first:List Value} {lv:Value}
theorem Gl {l:List Sr} {p:Sr->Bool} [bN T_ f] {w:World} (h:Rd w lv 2 (vV l)) (cV:∀ x∈l,∀ w',aI [] w w'->an T_ f (first++[.agg x.cells.toArray]++cap) w' (.bool (p x))) :
  an T_ 263 [lv,.func (.func f) first.toArray cap.toArray] w (.q (iN p l)):=by
 obtain ⟨a,cp,b,o,rfl,dC,ch,ha,hc⟩:=h;rw [cG] at *;unfold maxLen at ch;refine aj func263 I I ?_;refine Jr<|Ja I<|Jn<|Jq<|Jr<|Jv I<|JI I<|Jv I<|Jn<|J0 ?_;refine aV (fun k:Nat=>k<=l.length/\∀ i,i<k->(l[i]?.map p).getD false=false) (fun k=>[(8,.int .i64 k),(7,.int .i64 l.length),(0,.slice a l.length cp),(1,.func (.func f) first.toArray cap.toArray)]) (fun _=>[]) (fun k=>l.length-k) ?_ ?_
 ·apply aH 0 ⟨Zi _,fun i h=>by omega⟩
  case hs1=>exact bT
  case ht=>(try simp only [Ze,Zf,Za]);exact .nil
 rintro k ⟨hk,hf⟩;by_cases aL:k<l.length
 ·have cY:=ha (iD aL);have aF:=(hc k _ (fW aL)).2;have iZ:=cV _ (Zj aL);have hps:(l[k]?.map p).getD false=p l[k]:=by simp [aL]
  unfold Sr.cells at aF iZ
  (refine Jr<|JA I<|Jn<|Jq<|Jd I fun aA=>Jk<|Jq<|J0<|Jr<|Jv I<|Ja I<|Ji<|Jv I<|Jv I<|Jv I<|ab (gE cY aA) I<|ab (ja (fo.base aF I)) I<|ah bJ I (fun w' aB=>(iZ w' (Mem.keeps aB)))<|Jn<|oK I (fun aA=>?_) fun aA=>?_;refine Jr<|Jv I<|Ja I<|Jn<|Je<|Jm<|Jh<|Jh<|Jm<|Jh<|JT ?_;rotate_left;refine Jw<|Jj<|Jt<|Jg<|JB I (by omega)<|Jv I<|Jn ?_;rotate_right)
  ·rw [gN hf aL aA]
  ·apply aG (k+1) ⟨by omega,fun i hi=>by
    by_cases e:i=k
    ·rw [e,hps];exact aA
    ·exact hf i (by omega)⟩ (by omega)
   case hs1=>exact bT
   case ht=>(try simp only [Ze,Zf,Za]);exact .nil
 ·obtain rfl:k=l.length:=by omega
  refine Jr<|JA I<|Jn<|Jq<|Jc I fun aA=>Jp<|Jl<|Jo<|Jt<|Jr<|Ja I<|Jn<|Je<|JT ?_;rw [fO hf]
theorem PV {l:List Sr} {p:Sr->Bool} [bN T_ f] {w:World} (h:Rd w lv 2 (vV l)) (cV:∀ x∈l,∀ w',aI [] w w'->an T_ f (first++[.agg x.cells.toArray]++cap) w' (.bool (p x))) :
  an T_ 227 [lv,.func (.func f) first.toArray cap.toArray] w (.bool (l.any p)):=by
 have iZ:∀ w',aI [] w w'->an T_ 263 [lv,.func (.func f) first.toArray cap.toArray] w' (.q (iN p l)):=fun w' hk=>
  Gl (h.keeps hk) fun x hx w2 fg=>cV x hx w2 (hk.trans fg)
 rw [<- lb];refine aj func227 I I ?_
 (refine Jr<|Ja I<|Ji<|Jv I<|Jv I<|ah bn I (fun w' aB=>(iZ w' (Mem.keeps aB)))<|JG I<|Ja I<|Jn<|Je<|JT ?_)
 rfl
theorem Pt {l:List De} {p:De->Bool} [bN T_ f] {w:World} (h:Rd w lv 3 (vG l)) (cV:∀ x∈l,∀ w',aI [] w w'->an T_ f (first++[.agg x.cells.toArray]++cap) w' (.bool (p x))) :
  an T_ 242 [lv,.func (.func f) first.toArray cap.toArray] w (.q (iN p l)):=by
 obtain ⟨a,cp,b,o,rfl,dC,ch,ha,hc⟩:=h;rw [bY] at *;unfold maxLen at ch;refine aj func242 I I ?_;refine Jr<|Ja I<|Jn<|Jq<|Jr<|Jv I<|JI I<|Jv I<|Jn<|J0 ?_;refine aV (fun k:Nat=>k<=l.length/\∀ i,i<k->(l[i]?.map p).getD false=false) (fun k=>[(8,.int .i64 k),(7,.int .i64 l.length),(0,.slice a l.length cp),(1,.func (.func f) first.toArray cap.toArray)]) (fun _=>[]) (fun k=>l.length-k) ?_ ?_
 ·apply aH 0 ⟨Zi _,fun i h=>by omega⟩
  case hs1=>exact bT
  case ht=>(try simp only [Ze,Zf,Za]);exact .nil
 rintro k ⟨hk,hf⟩;by_cases aL:k<l.length
 ·have cY:=ha (ij aL);have aF:=(hc k _ (fM aL)).2;have iZ:=cV _ (Zj aL);have hps:(l[k]?.map p).getD false=p l[k]:=by simp [aL]
  unfold De.cells at aF iZ
  (refine Jr<|JA I<|Jn<|Jq<|Jd I fun aA=>Jk<|Jq<|J0<|Jr<|Jv I<|Ja I<|Ji<|Jv I<|Jv I<|Jv I<|ab (gE cY aA) I<|ab (ja (fo.base aF I)) I<|ah bJ I (fun w' aB=>(iZ w' (Mem.keeps aB)))<|Jn<|oK I (fun aA=>?_) fun aA=>?_;refine Jr<|Jv I<|Ja I<|Jn<|Je<|Jm<|Jh<|Jh<|Jm<|Jh<|JT ?_;rotate_left;refine Jw<|Jj<|Jt<|Jg<|JB I (by omega)<|Jv I<|Jn ?_;rotate_right)
  ·rw [gN hf aL aA]
  ·apply aG (k+1) ⟨by omega,fun i hi=>by
    by_cases e:i=k
    ·rw [e,hps];exact aA
    ·exact hf i (by omega)⟩ (by omega)
   case hs1=>exact bT
   case ht=>(try simp only [Ze,Zf,Za]);exact .nil
 ·obtain rfl:k=l.length:=by omega
  refine Jr<|JA I<|Jn<|Jq<|Jc I fun aA=>Jp<|Jl<|Jo<|Jt<|Jr<|Ja I<|Jn<|Je<|JT ?_;rw [fO hf]
theorem Pr {l:List Ti} {p:Ti->Bool} [bN T_ f] {w:World} (h:Rd w lv 3 (u7 l)) (cV:∀ x∈l,∀ w',aI [] w w'->an T_ f (first++[.agg x.cells.toArray]++cap) w' (.bool (p x))) :
  an T_ 246 [lv,.func (.func f) first.toArray cap.toArray] w (.q (iN p l)):=by
 obtain ⟨a,cp,b,o,rfl,dC,ch,ha,hc⟩:=h;rw [bS] at *;unfold maxLen at ch;refine aj func246 I I ?_;refine Jr<|Ja I<|Jn<|Jq<|Jr<|Jv I<|JI I<|Jv I<|Jn<|J0 ?_;refine aV (fun k:Nat=>k<=l.length/\∀ i,i<k->(l[i]?.map p).getD false=false) (fun k=>[(8,.int .i64 k),(7,.int .i64 l.length),(0,.slice a l.length cp),(1,.func (.func f) first.toArray cap.toArray)]) (fun _=>[]) (fun k=>l.length-k) ?_ ?_
 ·apply aH 0 ⟨Zi _,fun i h=>by omega⟩
  case hs1=>exact bT
  case ht=>(try simp only [Ze,Zf,Za]);exact .nil
 rintro k ⟨hk,hf⟩;by_cases aL:k<l.length
 ·have cY:=ha (fq aL);have aF:=(hc k _ (ep aL)).2;have iZ:=cV _ (Zj aL);have hps:(l[k]?.map p).getD false=p l[k]:=by simp [aL]
  unfold Ti.cells at aF iZ
  (refine Jr<|JA I<|Jn<|Jq<|Jd I fun aA=>Jk<|Jq<|J0<|Jr<|Jv I<|Ja I<|Ji<|Jv I<|Jv I<|Jv I<|ab (gE cY aA) I<|ab (ja (fo.base aF I)) I<|ah bJ I (fun w' aB=>(iZ w' (Mem.keeps aB)))<|Jn<|oK I (fun aA=>?_) fun aA=>?_;refine Jr<|Jv I<|Ja I<|Jn<|Je<|Jm<|Jh<|Jh<|Jm<|Jh<|JT ?_;rotate_left;refine Jw<|Jj<|Jt<|Jg<|JB I (by omega)<|Jv I<|Jn ?_;rotate_right)
  ·rw [gN hf aL aA]
  ·apply aG (k+1) ⟨by omega,fun i hi=>by
    by_cases e:i=k
    ·rw [e,hps];exact aA
    ·exact hf i (by omega)⟩ (by omega)
   case hs1=>exact bT
   case ht=>(try simp only [Ze,Zf,Za]);exact .nil
 ·obtain rfl:k=l.length:=by omega
  refine Jr<|JA I<|Jn<|Jq<|Jc I fun aA=>Jp<|Jl<|Jo<|Jt<|Jr<|Ja I<|Jn<|Je<|JT ?_;rw [fO hf]
theorem Bn {l:List Ti} {p:Ti->Bool} [bN T_ f] {w:World} (h:Rd w lv 3 (u7 l)) (cV:∀ x∈l,∀ w',aI [] w w'->an T_ f (first++[.agg x.cells.toArray]++cap) w' (.bool (p x))) :
  an T_ 159 [lv,.func (.func f) first.toArray cap.toArray] w (.bool (l.any p)):=by
 have iZ:∀ w',aI [] w w'->an T_ 246 [lv,.func (.func f) first.toArray cap.toArray] w' (.q (iN p l)):=fun w' hk=>
  Pr (h.keeps hk) fun x hx w2 fg=>cV x hx w2 (hk.trans fg)
 rw [<- lb];refine aj func159 I I ?_
 (refine Jr<|Ja I<|Ji<|Jv I<|Jv I<|ah bn I (fun w' aB=>(iZ w' (Mem.keeps aB)))<|JG I<|Ja I<|Jn<|Je<|JT ?_)
 rfl
theorem A6 {l:List Po} {p:Po->Bool} [bN T_ f] {w:World} (h:Rd w lv 3 (uf l)) (cV:∀ x∈l,∀ w',aI [] w w'->an T_ f (first++[.agg x.cells.toArray]++cap) w' (.bool (p x))) :
  an T_ 297 [lv,.func (.func f) first.toArray cap.toArray] w (.q (iN p l)):=by
 obtain ⟨a,cp,b,o,rfl,dC,ch,ha,hc⟩:=h;rw [cT] at *;unfold maxLen at ch;refine aj func297 I I ?_;refine Jr<|Ja I<|Jn<|Jq<|Jr<|Jv I<|JI I<|Jv I<|Jn<|J0 ?_;refine aV (fun k:Nat=>k<=l.length/\∀ i,i<k->(l[i]?.map p).getD false=false) (fun k=>[(8,.int .i64 k),(7,.int .i64 l.length),(0,.slice a l.length cp),(1,.func (.func f) first.toArray cap.toArray)]) (fun _=>[]) (fun k=>l.length-k) ?_ ?_
 ·apply aH 0 ⟨Zi _,fun i h=>by omega⟩
  case hs1=>exact bT
  case ht=>(try simp only [Ze,Zf,Za]);exact .nil
 rintro k ⟨hk,hf⟩;by_cases aL:k<l.length
 ·have cY:=ha (j8 aL);have aF:=(hc k _ (ia aL)).2;have iZ:=cV _ (Zj aL);have hps:(l[k]?.map p).getD false=p l[k]:=by simp [aL]
  unfold Po.cells at aF iZ
  (refine Jr<|JA I<|Jn<|Jq<|Jd I fun aA=>Jk<|Jq<|J0<|Jr<|Jv I<|Ja I<|Ji<|Jv I<|Jv I<|Jv I<|ab (gE cY aA) I<|ab (ja (fo.base aF I)) I<|ah bJ I (fun w' aB=>(iZ w' (Mem.keeps aB)))<|Jn<|oK I (fun aA=>?_) fun aA=>?_;refine Jr<|Jv I<|Ja I<|Jn<|Je<|Jm<|Jh<|Jh<|Jm<|Jh<|JT ?_;rotate_left;refine Jw<|Jj<|Jt<|Jg<|JB I (by omega)<|Jv I<|Jn ?_;rotate_right)
  ·rw [gN hf aL aA]
  ·apply aG (k+1) ⟨by omega,fun i hi=>by
    by_cases e:i=k
    ·rw [e,hps];exact aA
    ·exact hf i (by omega)⟩ (by omega)
   case hs1=>exact bT
   case ht=>(try simp only [Ze,Zf,Za]);exact .nil
 ·obtain rfl:k=l.length:=by omega
  refine Jr<|JA I<|Jn<|Jq<|Jc I fun aA=>Jp<|Jl<|Jo<|Jt<|Jr<|Ja I<|Jn<|Je<|JT ?_;rw [fO hf]
theorem PW {l:List Po} {p:Po->Bool} [bN T_ f] {w:World} (h:Rd w lv 3 (uf l)) (cV:∀ x∈l,∀ w',aI [] w w'->an T_ f (first++[.agg x.cells.toArray]++cap) w' (.bool (p x))) :
  an T_ 301 [lv,.func (.func f) first.toArray cap.toArray] w (.bool (l.any p)):=by
 have iZ:∀ w',aI [] w w'->an T_ 297 [lv,.func (.func f) first.toArray cap.toArray] w' (.q (iN p l)):=fun w' hk=>
  A6 (h.keeps hk) fun x hx w2 fg=>cV x hx w2 (hk.trans fg)
 rw [<- lb];refine aj func301 I I ?_
 (refine Jr<|Ja I<|Ji<|Jv I<|Jv I<|ah bn I (fun w' aB=>(iZ w' (Mem.keeps aB)))<|JG I<|Ja I<|Jn<|Je<|JT ?_)
 rfl
end Go.Proofs.A1
