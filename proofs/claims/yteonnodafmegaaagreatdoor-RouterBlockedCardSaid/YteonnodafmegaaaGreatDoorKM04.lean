/- Parts of the proof: GkRegO GkCopy GkZ K2 K3 KZz GkPool K4. -/
import Derived.Test.YteonnodafmegaaaGreatDoorKM03
import Derived.Lib.AppendZerosOnto
import Derived.Test.YteonnodafmegaaaGreatDoorKM01
import Derived.Laws.RangeAny
import Derived.Laws.RangeString
import Derived.Test.YteonnodafmegaaaGreatDoorKM02
set_option linter.unusedSectionVars false
set_option linter.unusedVariables false
set_option linter.unusedSimpArgs false
namespace Go.SL
open Go
inductive Step where
 | rel (R:Rel)
 | new (V:Nat->Value) (ob:Obj)
def Step.r:Step->Rel
 | .rel R=>R
 | .new V ob=>DT V ob
section
variable {P:Program} {r:Option Nat} {c:Cx} {D:List Nat} {sl jr:aD} {rl kT:eX} {hs:List bh} {Q:Exit->Act->World->Prop} {l:List Oper} {ops:Array Oper} {m:Nat} {S:List Step}
inductive nb (P:Program) (c:Cx) (hs:List bh) (ops:Array Oper):List Oper->aD->eX->List Step->aD->eX->Prop
 | nil {sl:aD} {rl:eX}:nb P c hs ops [] sl rl [] sl rl
 | val {o:Oper} {l:List Oper} {sl jr:aD} {rl kT:eX} {d:Nat} {V:Value} {S:List Step} (hd:o.dst=some d) (fF:d<c.nt) (h:ui P c hs ops sl rl o (.val V)) (t:nb P c hs ops l ((d,V)::sl) rl S jr kT) :
   nb P c hs ops (o::l) sl rl (.rel (.val V)::S) jr kT
 | new {o:Oper} {l:List Oper} {sl jr:aD} {rl kT:eX} {d:Nat} {V:Nat->Value} {ob:Obj} {S:List Step} (hd:o.dst=some d) (fF:d<c.nt) (hn:cW sl d=none) (hg:o.guard=none)
   (hr:pt P c sl hs o V ob) (t:nb P c hs ops l sl ((d,DT V ob)::rl) S jr kT):nb P c hs ops (o::l) sl rl (.new V ob::S) jr kT
theorem nb.T2 {sl jr:aD} {rl kT:eX} (h:nb P c hs ops l sl rl S jr kT):tB P c hs ops l sl rl (S.map Step.r) jr kT:=by
 induction h with
 | nil=>exact .nil
 | val hd fF h _ ih=>exact .val hd fF h ih
 | @new o l sl jr rl kT d V ob S hd fF hn hg hr _ ih =>
  refine .rel hd fF hn (oA hg fun a w h1 _ h3=>?_) ih;unfold ym;rw [hr.2 a w h1 h3];exact ⟨.alloc _ _ _,w.heap.size,I,World.alloc_heap_new w ob⟩
theorem nb.Bd {sl jr:aD} {rl kT:eX} (h:nb P c hs ops l sl rl S jr kT) :
  ∀ (i : Nat) (o : Oper) (V : Nat -> Value) (ob : Obj), l[i]? = some o -> S[i]? = some (.new V ob) -> ∃ uI, o.guard = none /\ pt P c uI hs o V ob /\
   (∀ t v,cW uI t=some v->(∃ (j:Nat) (oj:Oper),j<i/\l[j]? = some oj/\oj.dst=some t/\(S.map Step.r)[j]? = some (.val v))\/((∀ (j:Nat) (oj:Oper),j<i->l[j]? = some oj->oj.dst≠some t)/\cW sl t=some v)):=by
 induction h with
 | nil=>intro i o V ob h;simp at h
 | @val o0 l sl jr rl kT d V0 S hd fF bj t ih =>
  intro i o V ob ho hS;cases i with
  | zero=>simp at hS
  | succ i =>
   obtain ⟨uI,hg,hr,h1⟩:=ih i o V ob (by simpa using ho) (by simpa using hS);refine ⟨uI,hg,hr,fun t v hv=>?_⟩;rcases h1 t v hv with ⟨j,oj,hj,iW,iR,jY⟩ | ⟨tU,ng⟩
   ·exact .inl ⟨j+1,oj,by omega,by simpa using iW,iR,by simpa using jY⟩
   ·by_cases xY:d=t
    ·subst xY;rw [fO] at ng;cases ng;exact .inl ⟨0,o0,by omega,I,hd,I⟩
    ·rw [fN xY] at ng;refine .inr ⟨fun j oj hj iW=>?_,ng⟩;cases j with
     | zero=>simp at iW;subst iW;rw [hd];simp [xY]
     | succ j=>exact tU j oj (by omega) (by simpa using iW)
 | @new o0 l sl jr rl kT d V0 ob0 S hd fF hn Mr WG t ih =>
  intro i o V ob ho hS;cases i with
  | zero =>
   simp at ho hS;subst ho;obtain ⟨rfl,rfl⟩:=hS;exact ⟨sl,Mr,WG,fun t v hv=>.inr ⟨fun j _ hj=>by omega,hv⟩⟩
  | succ i =>
   obtain ⟨uI,hg,hr,h1⟩:=ih i o V ob (by simpa using ho) (by simpa using hS);refine ⟨uI,hg,hr,fun t v hv=>?_⟩;rcases h1 t v hv with ⟨j,oj,hj,iW,iR,jY⟩ | ⟨tU,ng⟩
   ·exact .inl ⟨j+1,oj,by omega,by simpa using iW,iR,by simpa using jY⟩
   ·have xY:d≠t:=fun e=>by subst e;rw [hn] at ng;cases ng
    refine .inr ⟨fun j oj hj iW=>?_,ng⟩;cases j with
    | zero=>simp at iW;subst iW;rw [hd];simp [xY]
    | succ j=>exact tU j oj (by omega) (by simpa using iW)
def q5 (β:Nat->Nat) (lst:Nat->Bool):List Step->Nat->List bh
 | [],_=>[]
 | .new _ ob::S,i=>if lst i then bA (β i) ob::q5 β lst S (i+1) else q5 β lst S (i+1)
 | .rel _::S,i=>q5 β lst S (i+1)
theorem pq {β β':Nat->Nat} {lst nD:Nat->Bool}:∀ {S:List Step} {i:Nat},(∀ j V ob,S[j]? = some (.new V ob)->lst (i+j)=nD (i+j)/\(lst (i+j)=true->β (i+j)=β' (i+j)))->q5 β lst S i=q5 β' nD S i
 | [],_,_=>rfl
 | .rel _ :: S, i, h => by
  unfold q5;exact pq fun j V ob hj=>by have:=h (j+1) V ob (by simpa using hj);rwa [show i+(j+1)=i+1+j from by omega] at this
 | .new V ob :: S, i, h => by
  have h0:=h 0 V ob I;have ih:q5 β lst S (i+1)=q5 β' nD S (i+1):=pq fun j V ob hj=>by have:=h (j+1) V ob (by simpa using hj);rwa [show i+(j+1)=i+1+j from by omega] at this
  simp only [Zay] at h0;unfold q5;rw [ih,<- h0.1];by_cases hl:lst i=true
  ·rw [if_pos hl,if_pos hl,h0.2 hl]
  ·rw [if_neg hl,if_neg hl]
theorem Bf {β β':Nat->Nat} {lst nD:Nat->Bool} {k b:Nat} {V:Nat->Value} {ob:Obj}:∀ {S:List Step} {i:Nat},S[k]? = some (.new V ob)->lst (i+k)=false->nD (i+k)=true->β' (i+k)=b->(∀ j,j≠i+k->nD j=lst j/\β' j=β j) ->
  (bA b ob::q5 β lst S i).Perm (q5 β' nD S i)
 | [],_,h,_,_,_,_=>by simp at h
 | .rel _ :: S, i, h, h1, h2, h3, h4 => by
  cases k with
  | zero=>simp at h
  | succ k =>
   unfold q5;refine Bf (k:=k) (V:=V) (by simpa using h) ?_ ?_ ?_ ?_
   all_goals rw [show i+1+k=i+(k+1) from by omega];assumption
 | .new V0 ob0 :: S, i, h, h1, h2, h3, h4 => by
  cases k with
  | zero =>
   simp at h;obtain ⟨rfl,rfl⟩:=h;have e:q5 β lst S (i+1)=q5 β' nD S (i+1):=pq fun j V ob hj=>by
    obtain ⟨e1,e2⟩:=h4 (i+1+j) (by omega);exact ⟨e1.symm,fun _=>e2.symm⟩
   simp only [Zay] at h1 h2 h3;unfold q5;rw [if_neg (by simp [h1]),if_pos h2,h3,e]
  | succ k =>
   have ih:(bA b ob::q5 β lst S (i+1)).Perm (q5 β' nD S (i+1)):=by
    refine Bf (k:=k) (V:=V) (by simpa using h) ?_ ?_ ?_ ?_
    all_goals rw [show i+1+k=i+(k+1) from by omega];assumption
   obtain ⟨e1,e2⟩:=h4 i (by omega);unfold q5;rw [e1,e2];by_cases hl:lst i=true
   ·rw [if_pos hl,if_pos hl];exact (List.Perm.swap _ _ _).trans (ih.cons _)
   ·rw [if_neg hl,if_neg hl];exact ih
theorem cA.perm {h:Nat->Option Obj} {l1 l2:List bh} (hp:l1.Perm l2):∀ {fp:List Nat},cA h l1 fp->∃ lO,cA h l2 lO/\fp.Perm lO:=by
 induction hp with
 | nil=>intro fp hf;exact ⟨fp,hf,.refl _⟩
 | cons A _ ih =>
  rintro fp ⟨f1,f2,rfl,h1,h2⟩;obtain ⟨g,hg,WH⟩:=ih h2;exact ⟨f1++g,⟨f1,g,I,h1,hg⟩,WH.append_left f1⟩
 | swap A B l =>
  rintro fp ⟨f1,_,rfl,h1,f2,f3,rfl,h2,h3⟩;refine ⟨f2++(f1++f3),⟨f2,f1++f3,I,h2,f1,f3,I,h1,h3⟩,?_⟩;rw [<- Zh,<- Zh];exact List.perm_append_comm.append_right f3
 | trans _ _ ih1 ih2 =>
  intro fp hf;obtain ⟨g,hg,h1⟩:=ih1 hf;obtain ⟨g',hg',h2⟩:=ih2 hg;exact ⟨g',hg',h1.trans h2⟩
theorem Mem.perm {c:Cx} {l1 l2:List bh} {w:World} (h:Mem c l1 w) (hp:l1.Perm l2):Mem c l2 w:=by
 obtain ⟨k,fp,hn,hs,hb⟩:=h;obtain ⟨g,hg,WH⟩:=hs.perm hp;exact ⟨k,g,WH.nodup_iff.1 hn,hg,fun b dK=>hb b (WH.mem_iff.2 dK)⟩
def Hs (c:Cx) (D:List Nat) (hs:List bh) (l:List Oper) (S:List Step) (listed:Array Bool) (a:Act) (w:World):Prop:=
 ∃ β : Nat -> Nat, Mem c (q5 β (fun i => listed.getD i false) S 0 ++ (hs ++ mN D)) w /\ (∀ i, c.w0.heap.size <= β i \/ ¬ Ls listed i \/ ∀ V ob, S[i]? ≠ some (.new V ob)) /\
  ∀ (i:Nat) (o:Oper) (d:Nat) (V:Nat->Value) (ob:Obj),l[i]? = some o->o.dst=some d->S[i]? = some (.new V ob)->Ls listed i->a.tmps[d]? = some (V (β i))
theorem NC (hc:Tb l m) (hpO:nb P c hs l.toArray (l.take m) sl [] S jr kT) {a0:Act} (h0:bW sl a0) (KH:a0.tmps.size=c.nt)
  (tail:∀ listed a w,(∀ i,i<m->Ls listed i)->St c D jr hs a w->Hs c D hs (l.take m) S listed a w->WL P r l.toArray Q (l.drop m) a w) :
  ∀ (fuel:Nat) (listed:Array Bool) (a:Act) (w:World),Inv1 c D hs l m (S.map Step.r) a0 fuel listed a w->Hs c D hs (l.take m) S listed a w->wpAnyIn (FR r) 0 P .any l.toArray Q fuel listed a w:=by
 have hp:=hpO.T2;have rU:=hp.end_;have eo:∀ (j:Nat) (o:Oper),j<m->l[j]? = some o->(l.take m)[j]? = some o:=fun j o hj ho=>by rw [ZH,if_pos hj];exact ho
 have fJ:∀ (j:Nat) (o:Oper),(l.take m)[j]? = some o->j<m/\l[j]? = some o:=fun j o ho=>by
  rw [ZH] at ho;split at ho
  ·exact ⟨by assumption,ho⟩
  ·cases ho
 have mR:∀ fuel listed a w,Inv1 c D hs l m (S.map Step.r) a0 fuel listed a w->Hs c D hs (l.take m) S listed a w->(∀ i,i<m->Ls listed i)->wpAnyIn (FR r) 0 P .any l.toArray Q fuel listed a w:=by
  intro fuel listed a w hI hO dZ;have hL:∀ i,i<l.length->(Ls listed i↔i<m):=fun i _=>⟨fun h=>ZS fun hm=>hI.hi i hm h,dZ i⟩
  obtain ⟨U,yf,qI,sY⟩:=hI.left;have iB:U.Perm (List.range' m (l.length-m)):=by
   rw [ZaA yf (ZbB)];intro i;rw [qI i,ZaF];constructor
   ·rintro ⟨h1,h2⟩;exact ⟨ZaV fun h=>h2 (dZ i h),by omega⟩
   ·rintro ⟨h1,h2⟩;exact ⟨by omega,hI.hi i h1⟩
  have hlen:fuel=l.length-m:=by rw [<- sY,iB.length_eq,Zbx]
  refine D3 hc fuel m listed a w (ZC _) (by have:=hc.le;omega) hI.sz hL (tail listed a w dZ ⟨hI.mem,?_,hI.size,hI.defers⟩ hO)
  ·intro t v hv;rcases rU.1 t v hv with ⟨j,oj,hj,iR,jY⟩ | ⟨tU,ng⟩
   ·obtain ⟨iQ,nh⟩:=fJ j oj hj;obtain ⟨u,hu,l5⟩:=hI.new j oj nh (dZ j iQ) t _ iR jY;rw [hu,show u=v from l5]
   ·rw [hI.Bo t fun j oj hj jU=>tU j oj (eo j oj (ZS fun hm=>hI.hi j hm jU) hj)]
    exact h0 t v ng
 intro fuel
 induction fuel with
 | zero =>
  intro listed a w hI hO;obtain ⟨U,_,qI,sY⟩:=hI.left;have hU:U=[]:=Zaq.1 sY;refine mR 0 listed a w hI hO fun i hi=>Classical.byContradiction fun hn=>?_;have:=(qI i).2 ⟨by have:=hc.le;omega,hn⟩;rw [hU] at this;cases this
 | succ fuel ih =>
  intro listed a w hI hO;by_cases dZ:∀ i,i<m->Ls listed i
  ·exact mR _ listed a w hI hO dZ
  ·have hex:∃ i,i<m/\¬ Ls listed i:=Classical.byContradiction fun hh=>dZ fun i hi=>Classical.byContradiction fun hn=>hh ⟨i,hi,hn⟩
   obtain ⟨i0,uX,qH⟩:=hex;refine ⟨fun hr=>?_,fun i hi=>?_⟩
   ·obtain ⟨i,hi⟩:=jq hI.sz hc.ac ⟨i0,by have:=hc.le;omega,qH⟩;rw [hr] at hi;cases hi
   ·have oV:i<m:=ZS fun hm=>qH (qz hc hI.sz hI.dc hi hm i0 (by omega))
    obtain ⟨o,ho,hn,l6⟩:=(dQ hI.sz).1 hi;obtain ⟨uI,Md,R,Sy,fI,hs1,hs2⟩:=hp.at_ i o (eo i o oV ho);obtain ⟨d,R',hd,fF,qJ⟩:=rU.2.2 i o (eo i o oV ho);rw [Sy] at qJ;cases qJ;have km:∀ (j:Nat),dR o j=true->Ls listed j:=fun j hw=>by
     obtain ⟨e,he,hb,nG⟩:=cR hw;rw [<- nG];exact l6 e he hb
    have CF:∀ (j t:Nat) (oj:Oper),j<i->(l.take m)[j]? = some oj->oj.dst=some t->t∈o.looksAt l.toArray->Ls listed j:=by
     intro j t oj hj iW iR ht;obtain ⟨iQ,nh⟩:=fJ j oj iW;exact km j ((eB (lY hc hj oV nh ho) iR hd).2 (.inl ht))
    have PK:∀ uI:aD,(∀ t v,cW uI t=some v->(∃ (j:Nat) (oj:Oper),j<i/\(l.take m)[j]? = some oj/\oj.dst=some t/\(S.map Step.r)[j]? = some (.val v))\/((∀ (j:Nat) (oj:Oper),j<i->(l.take m)[j]? = some oj->oj.dst≠some t)/\cW sl t=some v)) ->
      ∃ a':Act,bW uI a'/\∀ t∈o.looksAt l.toArray,a'.tmps[t]? = a.tmps[t]?:=by
     intro uI hs1;have hT:∀ t∈o.looksAt l.toArray,∀ v,cW uI t=some v->a.tmps[t]? = some v:=by
      intro t ht v hv;rcases hs1 t v hv with ⟨j,oj,hj,iW,iR,jY⟩ | ⟨tU,ng⟩
      ·obtain ⟨u,hu,l5⟩:=hI.new j oj (fJ j oj iW).2 (CF j t oj hj iW iR ht) t _ iR jY;rw [hu,show u=v from l5]
      ·rw [hI.Bo t fun j oj hj jU iR=>?_]
       ·exact h0 t v ng
       ·have iQ:j<m:=ZS fun hm=>hI.hi j hm jU
        rcases Zao j i with h | h | h
        ·exact tU j oj h (eo j oj iQ hj) iR
        ·subst h;exact hn jU
        ·have hw:=(eB (lY hc h iQ ho hj) hd iR).2 (.inr ht);obtain ⟨e,he,hb,nG⟩:=cR hw;have:=hI.dc j oj hj jU e he hb;rw [nG] at this;exact hn this
     have wu:∀ t v,cW uI t=some v->t<c.nt:=by
      intro t v hv;rcases hs1 t v hv with ⟨j,oj,_,iW,iR,_⟩ | ⟨_,ng⟩
      ·obtain ⟨d',_,AQ,AO,_⟩:=rU.2.2 j oj iW;rw [iR] at AQ;cases AQ;exact AO
      ·have:=h0 t v ng;rw [<- KH];exact (Z0.1 this).1
     obtain ⟨a',l7,js,_⟩:=o6 hI.size wu hT;exact ⟨a',l7,js⟩
    have qn:∀ (j:Nat) (oj:Oper) (e:Nat),l[j]? = some oj->j<m->j≠i->oj.dst=some e->d≠e:=by
     intro j oj e hj iQ hne he;rcases Zbp j i with h | h
     ·exact fun e'=>(eB (lY hc h oV hj ho) he hd).1 e'.symm
     ·exact (eB (lY hc (show i<j by omega) iQ ho hj) hd he).1
    have iY:i<listed.size:=by rw [hI.sz];have:=hc.le;omega
    have Dh:mo o=true:=hc.op o (ZV ho);have ia:∀ v w',aH [] w w'->R.p v w'->Hs c D hs (l.take m) S (listed.setIfInBounds i true) (a.put o.dst v) w'->wpAnyIn (FR r) 0 P .any l.toArray Q fuel (listed.setIfInBounds i true) (a.put o.dst v) w':=fun v w' hk hv Vp=>
     ih _ _ _ (Ct hc hc.le hI hi oV ho hd fF Sy (fun j oj hj iW=>let ⟨e,_,he,_⟩:=rU.2.2 j oj (eo j oj hj iW);⟨e,he⟩) hk hv) Vp
    unfold wpOpIn;rw [show l.toArray[i]? = some o from by simpa using ho];simp only [];have qJ:∃ st,S[i]? = some st/\st.r=R:=by
     rw [ZJ] at Sy;obtain ⟨st,h1,h2⟩:=Zak.1 Sy;exact ⟨st,h1,h2⟩
    obtain ⟨st,qJ,bj⟩:=qJ;have KP:∀ j,j≠i->(listed.setIfInBounds i true).getD j false=listed.getD j false:=fun j hj=>by
     simp [ZF,ZK (Ne.symm hj)]
    cases st with
    | new V ob =>
     obtain ⟨sln,hgn,WE,XU⟩:=hpO.Bd i o V ob (eo i o oV ho) qJ;obtain ⟨a',l7,js⟩:=PK sln XU;have hex:=iL (o:=o) (ops:=l.toArray) Dh js;have ij:=WE.2 a' w l7 hI.mem.lD;rw [if_pos (by simp [Region.wanted,hgn])];refine ⟨eb _ _ _ _ _,?_⟩;rw [Oper.semAt_eq _ _ _ (fun cc he=>by simp [mo,he] at Dh),<- hex,ij]
     refine ia _ _ (.alloc _ _ _) (by rw [<- bj];exact ⟨w.heap.size,I,World.alloc_heap_new w ob⟩) ?_;obtain ⟨β,hm,hb,ss⟩:=hO;refine ⟨fun k=>if k=i then w.heap.size else β k,?_,?_,?_⟩
     ·refine Mem.perm (hm.alloc ob) ((Bf (k:=i) (V:=V) qJ ?_ ?_ ?_ ?_).append_right _)
      ·rw [ZE];show listed.getD i false=false;have:¬ listed.getD i false=true:=hn;simpa using this
      ·rw [ZE];exact (cH iY).2 (.inl I)
      ·simp
      ·intro j hj;rw [ZE] at hj;exact ⟨KP j hj,by simp [hj]⟩
     ·intro j;by_cases e:j=i
      ·subst e;left;simp;exact hI.mem.keeps.size
      ·rcases hb j with h | h | h
       ·left;simpa [e] using h
       ·right;left;intro h';exact h (((cH iY).1 h').resolve_left e)
       ·exact .inr (.inr h)
     ·intro j oj e V' Rr hj iR jY jU;by_cases ej:j=i
      ·subst ej;rw [qJ] at jY;cases jY;obtain ⟨iQ,nh⟩:=fJ j oj hj;rw [ho] at nh;cases nh;rw [hd] at iR;cases iR;rw [hd];simp [Act.put,hI.size,fF]
      ·obtain ⟨iQ,nh⟩:=fJ j oj hj;have Bv:=((cH iY).1 jU).resolve_left ej;have:=ss j oj e V' Rr hj iR jY Bv;rw [hd];simp only [Act.put,ZK (qn j oj e nh iQ ej iR),if_neg ej];exact this
    | rel R0 =>
     have Vp:∀ v w',aH [] w w'->Hs c D hs (l.take m) S (listed.setIfInBounds i true) (a.put o.dst v) w':=by
      intro v w' hk;obtain ⟨β,hm,hb,ss⟩:=hO;refine ⟨β,?_,?_,?_⟩
      ·have e:q5 β (fun j=>(listed.setIfInBounds i true).getD j false) S 0=q5 β (fun j=>listed.getD j false) S 0:=pq fun j V ob hj=>by
        have:j≠i:=fun e=>by subst e;rw [qJ] at hj;cases hj
        rw [ZE];exact ⟨KP j this,fun _=>rfl⟩
       rw [e];exact hm.rL hk
      ·intro j;by_cases e:j=i
       ·subst e;right;right;intro V ob h;rw [qJ] at h;cases h
       ·rcases hb j with h | h | h
        ·exact .inl h
        ·right;left;intro h';exact h (((cH iY).1 h').resolve_left e)
        ·exact .inr (.inr h)
      ·intro j oj e V' Rr hj iR jY jU;have ej:j≠i:=fun e=>by subst e;rw [qJ] at jY;cases jY
       obtain ⟨iQ,nh⟩:=fJ j oj hj;have Bv:=((cH iY).1 jU).resolve_left ej;have:=ss j oj e V' Rr hj iR jY Bv;rw [hd];simp only [Act.put,ZK (qn j oj e nh iQ ej iR)];exact this
     obtain ⟨a',l7,js⟩:=PK uI hs1;have R2:Bk (o.looksAt l.toArray) Md a' w:=by
      intro t Rt hm ht;rcases hs2 t Rt hm with ⟨j,oj,hj,iW,iR,jY⟩ | az
      ·obtain ⟨v,hv,l5⟩:=hI.new j oj (fJ j oj iW).2 (CF j t oj hj iW iR ht) t _ iR jY;exact ⟨v,by rw [js t ht];exact hv,l5⟩
      ·cases az
     have hq:=fI a' w l7 R2 hI.mem.lD;have hex:=iL (o:=o) (ops:=l.toArray) Dh js;rw [iq js] at hq;split
     ·rename_i hw;rw [if_pos hw] at hq;refine ⟨eb _ _ _ _ _,?_⟩;rw [Oper.semAt_eq _ _ _ (fun cc he=>by simp [mo,he] at Dh),<- hex]
      unfold ym at hq
      revert hq
      generalize (execOp a'.eval o).run P w=res;intro hq
      match res,hq with
      | .ok (.value v) w',⟨hk,hv⟩=>exact ia v w' hk hv (Vp v w' hk)
      | .ok (.enter f args) w', ⟨e, cG⟩ =>
       subst e;refine ⟨by simp [FR,Fence.wide],(iC cG).mono fun e vf h=>?_⟩;obtain ⟨v,rfl,hk,hv⟩:=h;exact ia v vf hk hv (Vp v vf hk)
     ·rename_i hw;rw [if_neg hw] at hq;exact ⟨fun _ _=>trivial,ia undef w (.refl _ _) hq (Vp undef w (.refl _ _))⟩
theorem xi {β:Nat->Nat} {lst:Nat->Bool} (h:∀ i,lst i=false):∀ {S:List Step} {i:Nat},q5 β lst S i=[]
 | [],_=>rfl
 | .rel _::S,i=>by unfold q5;exact xi h
 | .new _ _::S,i=>by unfold q5;rw [if_neg (by simp [h]),xi h]
variable {id:Nat}
theorem xI (qd:P.follows .mixedOrders=true) (fB:yR l m=true) (hp:nb P c hs l.toArray (l.take m) sl [] S jr kT)
  (tail:∀ listed a w,(∀ i,i<m->Ls listed i)->St c D jr hs a w->Hs c D hs (l.take m) S listed a w->WL P r l.toArray Q (l.drop m) a w):Tr c D sl hs (WP P r (.region id l.toArray true) Q):=fun a w bj=>by
 unfold WP;refine wpIn_region_any qd ?_;refine NC (vE fB) hp bj.dh bj.size tail l.toArray.size _ a _ ⟨by simp,?_,?_,?_,bj.defers,bj.size,fun t _=>rfl,?_,List.range l.length,Zbu,?_,by simp⟩ ?_
 ·exact fun k o _ hL=>absurd hL (fb _ _)
 ·exact fun k _ hL=>fb _ _ hL
 ·exact bj.mem.drew
 ·exact fun j o _ hL=>absurd hL (fb _ _)
 ·exact fun i=>⟨fun h=>⟨by simpa using h,fb _ _⟩,fun h=>by simpa using h.1⟩
 ·refine ⟨fun _=>c.w0.heap.size,?_,fun i=>.inl (ZC _),fun i o d V ob _ _ _ hL=>absurd hL (fb _ _)⟩;rw [xi fun i=>by have:=fb l.toArray.size i;unfold Ls at this;simpa using this]
  exact bj.mem.drew
def Mc (β:Nat->Nat):List Oper->List Step->Nat->aD
 | o::l,.new V _::S,i=>(o.dst.getD 0,V (β i))::Mc β l S (i+1)
 | _::l,.rel _::S,i=>Mc β l S (i+1)
 | _,_,_=>[]
theorem zX {β:Nat->Nat}:∀ {l:List Oper} {S:List Step} {i:Nat} {p:Nat×Value},p∈Mc β l S i->∃ (j:Nat) (o:Oper) (V:Nat->Value) (ob:Obj),l[j]? = some o/\S[j]? = some (.new V ob)/\p=(o.dst.getD 0,V (β (i+j)))
 | [],_,_,_,h=>by cases h
 | _::_,[],_,_,h=>by cases h
 | o :: l, .new V ob :: S, i, p, h => by
  unfold Mc at h;rcases ZO.1 h with h | h
  ·exact ⟨0,o,V,ob,I,I,h⟩
  ·obtain ⟨j,o',V',Rr,h1,h2,h3⟩:=zX h;exact ⟨j+1,o',V',Rr,by simpa using h1,by simpa using h2,by rw [h3,show i+1+j=i+(j+1) from by omega]⟩
 | o :: l, .rel R :: S, i, p, h => by
  unfold Mc at h;obtain ⟨j,o',V',Rr,h1,h2,h3⟩:=zX h;exact ⟨j+1,o',V',Rr,by simpa using h1,by simpa using h2,by rw [h3,show i+1+j=i+(j+1) from by omega]⟩
theorem vp {L s:aD} {a:Act} (h:∀ p∈L,a.tmps[p.1]? = some p.2) (hs:bW s a):bW (L++s) a:=by
 induction L with
 | nil=>exact hs
 | cons p L ih =>
  intro t v hv;obtain ⟨d,u⟩:=p;by_cases e:d=t
  ·subst e;rw [Zb,fO] at hv;cases hv;exact h (d,v) (by simp)
  ·rw [Zb,fN e] at hv;exact ih (fun p hp=>h p (by simp [hp])) t v hv
def zs (nl:List (Nat×(Nat->Value)×Obj)) (bs:List Nat):aD:=(nl.zip bs).map fun x=>(x.1.1,x.1.2.1 x.2)
def zb (nl:List (Nat×(Nat->Value)×Obj)) (bs:List Nat):List bh:=(nl.zip bs).map fun x=>bA x.2 x.1.2.2
def sn (P:Program) (r:Option Nat) (c:Cx) (D:List Nat) (hs:List bh) (ops:Array Oper) (Q:Exit->Act->World->Prop) (nl:List (Nat×(Nat->Value)×Obj)) (m:Nat) (l:List Oper) (sl:aD) (rl:eX):Prop:=
 ∃ S jr kT, nb P c hs ops (l.take m) sl rl S jr kT /\ ∀ (bs : List Nat) (β : Nat -> Nat) (i0 : Nat), bs.length = nl.length -> (∀ b ∈ bs, c.w0.heap.size <= b) -> (∀ i V ob, S[i]? = some (.new V ob) -> c.w0.heap.size <= β (i0 + i)) ->
  Tr c D (zs nl bs++Mc β (l.take m) S i0++jr) (zb nl bs++q5 β (fun _=>true) S i0++hs) (WL P r ops Q (l.drop m))
theorem cS {l:List Oper} (m:Nat) [qd:Qm P] (fB:yR l m=true) (k:sn P r c D hs l.toArray Q [] m l sl []):Tr c D sl hs (WP P r (.region id l.toArray true) Q):=by
 obtain ⟨S,jr,kT,hp,ht⟩:=k;have rU:=hp.T2.end_;have hlen:∀ i V ob,S[i]? = some (.new V ob)->i<m:=by
  intro i V ob h;have h1:=(Zl.1 h).1;have XF:∀ {l0:Array Oper} {l:List Oper} {sl jr:aD} {rl kT:eX} {S:List Step},nb P c hs l0 l sl rl S jr kT->S.length=l.length:=by
   intro l0 l sl jr rl kT S h
   induction h with
   | nil=>rfl
   | val _ _ _ _ ih=>simp [ih]
   | new _ _ _ _ _ _ ih=>simp [ih]
  rw [XF hp,Zs] at h1;omega
 refine xI qd.eq fB hp fun listed a w dZ bj hO=>?_;obtain ⟨β,hm,hb,ss⟩:=hO;have K5:∀ i V ob,S[i]? = some (.new V ob)->Ls listed i:=fun i V ob h=>dZ i (hlen i V ob h)
 have sB:∀ i V ob,S[i]? = some (.new V ob)->c.w0.heap.size<=β (0+i):=fun i V ob h=>by
  rw [ZE];rcases hb i with h1 | h1 | h1
  ·exact h1
  ·exact absurd (K5 i V ob h) h1
  ·exact absurd h (h1 V ob)
 refine ht [] β 0 I (fun b hb=>by cases hb) sB a w ⟨?_,?_,bj.size,bj.defers⟩
 ·have e:q5 β (fun i=>listed.getD i false) S 0=q5 β (fun _=>true) S 0:=pq fun j V ob hj=>by
   rw [ZE];exact ⟨K5 j V ob hj,fun _=>rfl⟩
  rw [e] at hm;simpa [zb,Zh] using hm
 ·refine vp (L:=zs [] []++Mc β (List.take m l) S 0) (fun p l5=>?_) bj.dh;obtain ⟨j,o,V,ob,h1,h2,rfl⟩:=zX (by simpa [zs] using l5);obtain ⟨d,R,hd,fF,_⟩:=rU.2.2 j o h1;rw [hd,ZE];exact ss j o d V ob h1 hd h2 (K5 j V ob h2)
section
variable {nl:List (Nat×(Nat->Value)×Obj)} {d:Nat} {op:Op} {ty:TypeId} {pos:String} {af:Array Edge} {rest:List Oper}
variable {V:Value} {ob:Obj}
theorem dz {V:Nat->Value} {l:List Oper} (hn:nl=[(d,V,ob)]) (k:∀ b,c.w0.heap.size<=b->Tr c D ((d,V b)::sl) (bA b ob::hs) (WL P r ops Q l)):sn P r c D hs ops Q nl 0 l sl rl:=
 ⟨[],sl,rl,.nil,fun bs β i0 hl hb _=>by
  subst hn
  match bs,hl with
  | [b],_=>simpa [zs,zb,Mc,q5] using k b (hb b (by simp))⟩
theorem xg {o:Oper} (ho:o.dst=some d) (hd:Nat.blt d c.nt=true) (h:ui P c hs ops sl rl o (.val V)) (k:sn P r c D hs ops Q nl m rest ((d,V)::sl) rl):sn P r c D hs ops Q nl (m+1) (o::rest) sl rl:=by
 obtain ⟨S,jr,kT,hp,ht⟩:=k;refine ⟨_,_,_,.val ho (by simpa [Z1] using hd) h hp,fun bs β i0 h1 h2 h3=>?_⟩;have:=ht bs β (i0+1) h1 h2 fun i V ob hi=>by have:=h3 (i+1) V ob (by simpa using hi);rwa [show i0+(i+1)=i0+1+i from by omega] at this
 simpa [Mc,q5] using this
theorem eA {V:Nat->Value} (hr:pt P c sl hs ⟨some d,op,ty,pos,af,none⟩ V ob) (hd:Nat.blt d c.nt=true) (hn:cW sl d=none) (k:sn P r c D hs ops Q (nl++[(d,V,ob)]) m rest sl ((d,DT V ob)::rl)) :
  sn P r c D hs ops Q nl (m+1) (⟨some d,op,ty,pos,af,none⟩::rest) sl rl:=by
 obtain ⟨S,jr,kT,hp,ht⟩:=k;refine ⟨_,_,_,.new I (by simpa [Z1] using hd) hn I hr hp,fun bs β i0 h1 h2 h3=>?_⟩;have hb0:=h3 0 V ob I;rw [Zay] at hb0;have:=ht (bs++[β i0]) β (i0+1) (by simp [h1]) (fun b hb=>by
  rcases Zq.1 hb with h | h
  ·exact h2 b h
  ·rw [ZB.1 h];exact hb0) fun i V ob hi=>by have:=h3 (i+1) V ob (by simpa using hi);rwa [show i0+(i+1)=i0+1+i from by omega] at this
 simpa [Mc,q5,zs,zb,List.zip_append h1.symm,Zh] using this
theorem ar (hr:cM P c sl hs ⟨some d,op,ty,pos,af,none⟩ V) (hd:Nat.blt d c.nt=true) (k:sn P r c D hs ops Q nl m rest ((d,V)::sl) rl) :
  sn P r c D hs ops Q nl (m+1) (⟨some d,op,ty,pos,af,none⟩::rest) sl rl:=
 xg I hd (oA I fun _ _ h1 _ h3=>rn hr h1 h3) k
theorem aZ {f:FuncId} {args:List Value} (hr:lR P sl ⟨some d,op,ty,pos,af,none⟩ f args) (hd:Nat.blt d c.nt=true) (hc:∀ w,Mem c hs w->ao P f args w V) (k:sn P r c D hs ops Q nl m rest ((d,V)::sl) rl) :
  sn P r c D hs ops Q nl (m+1) (⟨some d,op,ty,pos,af,none⟩::rest) sl rl:=
 xg I hd (oA I fun _ w h1 _ h3=>sO hr h1 (hc w h3)) k
theorem Wb {p p':Prop} {j gs:Nat} {want c0 q:Bool} (hj:((ops[j]?).bind (·.dst))=some gs) (hq:cW sl gs=some (gv c0 (.bool q))) (hb:BP (c0&&(q==want)) p p')
  (hr:(c0&&(q==want))=true->p->cM P c sl hs ⟨some d,op,ty,pos,af,some (j,want)⟩ V) (hd:Nat.blt d c.nt=true) (k:sn P r c D hs ops Q nl m rest ((d,gv (c0&&(q==want)) V)::sl) rl) :
  sn P r c D hs ops Q nl (m+1) (⟨some d,op,ty,pos,af,some (j,want)⟩::rest) sl rl:=
 xg I hd (oB I hj hq fun hc _ _ h1 h3=>rn (hr hc (hb.t hc)) h1 h3) k
theorem tz {p p':Prop} {j gs:Nat} {want q:Bool} (hj:((ops[j]?).bind (·.dst))=some gs) (hq:cW sl gs=some (.bool q)) [hb:BP (q==want) p p']
  (hr:(q==want)=true->p->cM P c sl hs ⟨some d,op,ty,pos,af,some (j,want)⟩ V) (hd:Nat.blt d c.nt=true) (k:sn P r c D hs ops Q nl m rest ((d,gv (q==want) V)::sl) rl) :
  sn P r c D hs ops Q nl (m+1) (⟨some d,op,ty,pos,af,some (j,want)⟩::rest) sl rl:=
 Wb (c0:=true) (p:=p) (p':=p') hj (by rw [hq];rfl) (by simpa using hb) (by simpa using hr) hd (by simpa using k)
end
end
end Go.SL
namespace Go.SL
open Go
theorem nJ {w:World} {b sz:Nat}:∀ {xs:List (List Value)} {o:Nat},(∀ i r,xs[i]? = some r->r.length=sz/\∀ j u,r[j]? = some u->w.cell? ⟨b,o+i*sz+j,none⟩=some u)->∀ (k:Nat) u,xs.flatten[k]? = some u->w.cell? ⟨b,o+k,none⟩=some u
 | [],o,_,k,u,hu=>by simp at hu
 | x :: xs, o, h, k, u, hu => by
  obtain ⟨hl,h0⟩:=h 0 x rfl;rw [ZaD,List.getElem?_append] at hu;split at hu
  ·have:=h0 k u hu;rwa [Zbn,Zay] at this
  ·rename_i hk;have ih:=nJ (xs:=xs) (o:=o+sz) (fun i r hr=>⟨(h (i+1) r (by simpa using hr)).1,fun j v hv=>by
    have:=(h (i+1) r (by simpa using hr)).2 j v hv;rwa [Zaj,show o+(i*sz+sz)+j=o+sz+i*sz+j by omega] at this⟩) (k-x.length) u hu
   rwa [hl,show o+sz+(k-sz)=o+k by omega] at ih
theorem gj {sz:Nat}:∀ {xs:List (List Value)},(∀ r∈xs,r.length=sz)->xs.flatten.length=xs.length*sz
 | [],_=>by simp
 | x :: xs, h => by
  rw [ZaD,Zg,gj (fun r hr=>h r (by simp [hr])),h x (by simp),ZL,Zaj,Nat.add_comm]
theorem Rd.sz {w:World} {v:Value} {sz:Nat} {xs:List (List Value)} (h:Rd w v sz xs):∀ r∈xs,r.length=sz:=by
 obtain ⟨a,cap,b,o,rfl,h1,h2,h3,h4⟩:=h;intro r hr;obtain ⟨i,hi,rfl⟩:=Zu hr;exact (h4 i _ (Zc hi)).1
section
variable {P:Program} {r:Option Nat} {c:Cx} {D:List Nat} {sl:aD} {hs hs':List bh} {ops:Array Oper} {Q:Exit->Act->World->Prop} {d:Nat} {ty:TypeId} {pos:String} {af:Array Edge} {rest:List Oper}
variable {V:Value} {agg:Bool} {news:List (List Value)} {size:Nat} {v:Value} {x y:Operand} {z:Value}
theorem M7 {sz:Nat} {xs:List (List Value)} {b o cap:Nat} (hsrc:∀ w,Mem c hs w->Rd w V sz xs) (hne:xs≠[]) (hV:V=.slice (some ⟨b,o,none⟩) xs.length cap):eO c hs b o xs.flatten:=by
 refine eO.vK fun j u hu w hm=>?_;obtain ⟨a',il,b',o',e',_,_,c8,Oo⟩:=hsrc w hm;rw [hV] at e';simp only [Value.slice.injEq] at e';obtain ⟨e1,_,_⟩:=e';have:=c8 hne;rw [<- e1] at this;simp only [Option.some.injEq,Addr.mk.injEq,and_true] at this;obtain ⟨rfl,rfl⟩:=this;exact nJ Oo j u hu
theorem B0 {t e:TypeId} {w:World} [hu:gJ P t (.slice e)] [hT:Ty P e agg size] {a:Option Addr} {cp n:Nat} (hv:(v=.z/\n=0)\/∃ g cap,v=.w g n cap/\n<=cap) :
  (Builtin.append_ #[t,t] ty #[v,.slice a 0 cp]).run P w=.ok v w:=by
 obtain ⟨de,i,lp,hi,_,iP⟩:=Ty.parts (P:=P) (t:=e) (agg:=agg) (n:=size);rcases hv with ⟨rfl,rfl⟩ | ⟨g,cap,rfl,hc⟩
 ·cases a <;> simp [Builtin.append_,aW hu.eq,sizeOf,typeInfo,hi,Builtin.lenOf,Builtin.firstCells,loadCells,loadCellsFrom]
 ·cases a <;> simp [Builtin.append_,aW hu.eq,sizeOf,typeInfo,hi,Builtin.lenOf,Builtin.firstCells,loadCells,loadCellsFrom,hc,storeCells]
theorem eK {t e:TypeId} {size bytes:Nat} {n:Nat} {xs:List Value} [hu:gJ P t (.slice e)] [hT:Ty P e agg size] [hZ:lQ P e z] [hB:u9 P e bytes]
  (hx:Is sl x v) (hy:Is sl y V) (ht:Take hs (row e size v n xs) hs') (hsrc:∀ w,Mem c hs w->Rd w V size news) (h1:∀ r∈news,∀ u∈r,u.oneCell'=true) (hz:z.cells.size=size) (hsz:Nat.blt 0 size=true) (hb0:Nat.blt 0 bytes=true)
  (hb:(n+news.length)*bytes<=140737488355328) (hd:Nat.blt d c.nt=true)
  (k:∀ v',Tr c D ((d,v')::sl) (row e size v' (n+news.length) (xs++news.flatten)::hs') (WL P r ops Q rest)) :
  Tr c D sl hs (WL P r ops Q (⟨some d,.call ⟨.builtin .append,#[x,y],#[t,t]⟩,ty,pos,af,none⟩::rest)):=fun a w bj=>by
 have hR:=hsrc w bj.rG;have hlen:=gj hR.sz;by_cases hne:news=[]
 ·subst hne;obtain ⟨aa,cap,b,o,rfl,_⟩:=hR;have hm:=bj.mem.take (ht.append _);have hrow:(v=.slice none 0 0/\n=0)\/∃ g cap,v=.slice (some ⟨g,0,none⟩) n cap/\n<=cap:=by
   obtain ⟨_,fp,_,⟨f1,f2,_,⟨_,_,h1⟩,_⟩,_⟩:=hm;exact h1.imp id fun ⟨g,cap,cur,e,_,hc,_⟩=>⟨g,cap,e,hc⟩
  refine mB I ⟨eb _ _ _ _ _,?_⟩;rw [Oper.semAt_eq _ _ _ (by simp)];have:(execOp a.eval ⟨some d,.call ⟨.builtin .append,#[x,y],#[t,t]⟩,ty,pos,af,none⟩).run P w=.ok (.value v) w:=by
   have:=B0 (P:=P) (t:=t) (e:=e) (ty:=ty) (w:=w) (agg:=agg) (size:=size) (a:=aa) (cp:=cap) hrow;simp only [Zan] at hy;simp [execOp,resolve,invoke,builtin,hx a bj.dh,hy a bj.dh,this]
  rw [this];have k2:=k v;simp only [Zan,Zay,List.flatten_nil,ZQ] at k2;exact k2 _ _ ((bj.put (by simpa [Z1] using hd) v).heap hm)
 ·obtain ⟨aa,cap,b,o,hV,dD,cr,ha,hc⟩:=hR;have:=ha hne;subst this;rw [hV] at hy;exact yC hx hy ht (M7 hsrc hne hV) hlen (fun u hu=>by obtain ⟨r,hr,Un⟩:=List.mem_flatten.1 hu;exact h1 r hr u Un) hz hsz hb0 hb hd k a w bj
theorem H0 {t t2 e:TypeId} {g n cap:Nat} {E:TypeId} {cs:List Value} [hu:gJ P t (.slice e)] [hT:Ty P e agg size]
  (hx:Is sl x (.w g n cap)) (hy:Is sl y V) (ht:Take hs (bA g (.cells cs.toArray E (0,0))) hs') (hsrc:∀ w,Mem c hs w->Rd w V size news) (h1:∀ r∈news,∀ u∈r,u.oneCell'=true) (hfit:n*size<=cs.length) (hd:Nat.blt d c.nt=true)
  (k:Tr c D ((d,.q (Nat.min news.length n:Nat))::sl) (bA g (.cells (setCells cs 0 (news.take n).flatten).toArray E (0,0))::hs') (WL P r ops Q rest)) :
  Tr c D sl hs (WL P r ops Q (⟨some d,.call ⟨.builtin .copy,#[x,y],#[t,t2]⟩,ty,pos,af,none⟩::rest)):=fun a w bj=>by
 have hR:=hsrc w bj.rG;obtain ⟨de,i,lp,hi,_,iP⟩:=Ty.parts (P:=P) (t:=e) (agg:=agg) (n:=size);have hlen:(news.take n).flatten.length=Nat.min news.length n*size:=by
  rw [gj (fun r hr=>hR.sz r (Zbo hr)),Zs]
  show min n news.length*size=min news.length n*size;rw [Nat.min_comm]
 have hle:Nat.min news.length n<=n:=Nat.min_le_right _ _;have hm:=bj.mem.take (ht.append _);have hg:w.heap[g]? = some (.cells cs.toArray E (0,0)):=hm.bA .here;obtain ⟨w',h3,h4,h5⟩:=ja (P:=P) (o:=0) (news.take n).flatten 0 cs w hg (fun u hu=>by
  obtain ⟨r,hr,Un⟩:=List.mem_flatten.1 hu;exact h1 r (Zbo hr) u Un) (by
  rw [hlen];have:Nat.min news.length n*size<=n*size:=Z9 _ hle;omega)
 have UT:(Builtin.firstCells size (Nat.min news.length n) V).run P w=.ok (news.take n).flatten.toArray w:=by
  obtain ⟨aa,dL,b,o,hV,kp,cr,ha,hc⟩:=hR;subst hV;by_cases hne:news=[]
  ·subst hne;cases aa <;> simp [Builtin.firstCells,loadCells,loadCellsFrom]
  ·have:=ha hne;subst this;simp only [Builtin.firstCells];refine re hlen fun j u hu=>?_;refine nJ (sz:=size) (xs:=news.take n) (fun i r hr=>?_) j u hu;rw [ZH] at hr;split at hr
   ·exact hc i r hr
   ·cases hr
 have UW:(Builtin.lenOf V).run P w=.ok news.length w:=by
  obtain ⟨aa,dL,b,o,hV,_⟩:=hR;subst hV
  rfl
 refine mB I ⟨eb _ _ _ _ _,?_⟩;rw [Oper.semAt_eq _ _ _ (by simp)];have:(execOp a.eval ⟨some d,.call ⟨.builtin .copy,#[x,y],#[t,t2]⟩,ty,pos,af,none⟩).run P w=.ok (.value (.q (Nat.min news.length n:Nat))) w':=by
  simp [execOp,resolve,invoke,builtin,hx a bj.dh,hy a bj.dh,Builtin.copy_,aW hu.eq,UW,sizeOf,typeInfo,hi,iP,UT,h3,goInt]
 rw [this];have mr:=Mem.store hm h4 h5;rw [show (0+0:Nat)=0 from I] at mr;exact k _ _ ((bj.put (by simpa [Z1] using hd) _).heap mr)
theorem DD {t tn e:TypeId} {kn:IntKind} {size bytes m:Nat} [hu:gJ P t (.slice e)] [RN:gJ P tn (.int kn)] [hT:Ty P e agg size] [hZ:lQ P e z] [hB:u9 P e bytes]
  (hx:Is sl x (.z)) (hy:Is sl y (.q m)) (h0:0<m) (hz:z.cells.size=size) (hsz:Nat.blt 0 size=true) (hb0:Nat.blt 0 bytes=true) (hb:m*bytes<=140737488355328) (hd:Nat.blt d c.nt=true)
  (k:∀ v',Tr c D ((d,v')::sl) (row e size v' m (Builtin.zeroCells z.cells m).toList::hs) (WL P r ops Q rest)) :
  Tr c D sl hs (WL P r ops Q (⟨some d,.call ⟨.builtin .append,#[x,y],#[t,tn]⟩,ty,pos,af,none⟩::rest)):=fun a w bj=>by
 obtain ⟨de,i,lp,hi,_,iP⟩:=Ty.parts (P:=P) (t:=e) (agg:=agg) (n:=size);have hzero:i.zero=some z:=by have:=hZ.eq;rw [hi] at this;simpa using this
 have gZ:i.bytes=bytes:=by have:=hB.eq;rw [hi] at this;simpa using this
 have hs0:0<size:=by simpa [Z1] using hsz
 have Y8:0<bytes:=by simpa [Z1] using hb0
 have aY:m*1<=m*bytes:=Zbr _ Y8;have ij:=Lib.run_append_grow_zeros (P:=P) w t tn ty e i z .i64 kn hu.eq RN.eq hi hzero none 0 0 [] (by simp [Builtin.firstCells]) m h0 (by omega) (by omega) (by omega) (by rw [gZ];omega) (growslice_fits (by omega) (by rw [gZ];simpa using hb));simp only [ZE] at ij;have KQ:=grownCap_ge w m 0 e;have hle:=grownCap_le_maxLen w m 0 e (by unfold maxLen;omega);refine mB I ⟨eb _ _ _ _ _,?_⟩;rw [Oper.semAt_eq _ _ _ (by simp)];generalize grownCap w m 0 e=G at ij KQ hle;have:(execOp a.eval ⟨some d,.call ⟨.builtin .append,#[x,y],#[t,tn]⟩,ty,pos,af,none⟩).run P w=.ok (.value (.slice (some ⟨w.heap.size,0,none⟩) m G)) (w.drew.alloc (.cells (#[]++Builtin.zeroCells z.cells m++Builtin.zeroCells z.cells (G-m)) e)):=by
  simp [execOp,resolve,invoke,builtin,hx a bj.dh,hy a bj.dh,ij]
 rw [this];have Ej:∀ q,(Builtin.zeroCells z.cells q).size=q*size:=fun q=>by rw [size_zeroCells,hz]
 have mr:=(bj.mem.drew.alloc (.cells (#[]++Builtin.zeroCells z.cells m++Builtin.zeroCells z.cells (G-m)) e (0,0)));refine k _ _ _ ((bj.put (by simpa [Z1] using hd) _).heap ?_);obtain ⟨kk,fp,hn,⟨f1,f2,rfl,⟨e1,h1⟩,h2⟩,Ep⟩:=mr;refine ⟨kk,f1++f2,hn,⟨f1,f2,I,⟨by rw [e1];rfl,by simp [Ej],.inr ⟨w.heap.size,G,_,I,h1,KQ,hle,?_,?_⟩⟩,h2⟩,Ep⟩
 ·simp only [Array.size_append,Ej];simp only [Array.size_empty,ZE,<- Nat.add_mul];congr 1;omega
 ·simp only [Array.toList_append,Array.toList_empty,Za];rw [List.take_left' (by rw [ZaR,Ej])]
theorem kU {dst:Option Tmp} {g:Option (Nat×Bool)} {t e:TypeId} [hu:gJ P t (.slice e)] [hT:Ty P e agg size] :
  pt P c sl hs ⟨dst,.buildSlice t 0 #[],ty,pos,af,g⟩ (fun b=>.w b 0 0) (.cells #[] e):=
 j9 (ps:=#[]) (fun a _=>by simp) fun w=>by
  unfold Instr.buildSlice;simp only [Sem.run_bind,aW hu.eq,Result.andThen_ok,fK (t:=e) (agg:=agg) (n:=size),Zbn];simp [Instr.fill,newRow,show Array.range 0=#[] from I]
theorem ri {dst:Option Tmp} {g:Option (Nat×Bool)} {t e:TypeId} {a:Option Addr} {n cp:Nat} [hu:gJ P t (.slice e)] (hx:Is sl x (.slice a n cp)) :
  cM P c sl hs ⟨dst,.call ⟨.builtin .cap,#[x],#[t]⟩,ty,pos,af,g⟩ (.q cp):=
 ⟨by simp,fun ac w ha _=>by simp [execOp,hx ac ha,resolve,invoke,builtin,Builtin.cap_,aW hu.eq,goInt]⟩
theorem BS (g cap sz:Nat):Go.sliced (some ⟨g,0,none⟩) 0 0 cap sz=.w g 0 cap:=by
 unfold Go.sliced;by_cases h:cap=0
 ·rw [if_pos h];simp
 ·rw [if_neg h];simp [eW]
theorem zZ:∀ (vs cs:List Value),vs.length<=cs.length->setCells cs 0 vs=vs++cs.drop vs.length:=by
 intro vs cs h;apply Zat;intro k;rw [iH _ _ _ _ (by omega),List.getElem?_append];by_cases hk:k<vs.length
 ·rw [if_pos (by omega),if_pos hk,Nat.sub_zero]
 ·rw [if_neg (by omega),if_neg hk,Zbg];congr 1;omega
end
end Go.SL
namespace Go.SL
open Go
theorem bc {α:Type} {b:Bool} {o:Option α} {v:α} (h:(bif b then o else none)=some v):b=true/\o=some v:=by cases b <;> simp_all
theorem bp {α β:Type} {o:Option α} {q:Option β} {v:α} {u:β} (h:(o.bind fun a=>q.map fun b=>(a,b))=some (v,u)):o=some v/\q=some u:=by
 cases o <;> cases q <;> simp_all
section
variable {P:Program} {r:Option Nat} {c:Cx} {D:List Nat} {sl:aD} {rl:eX} {hs hs':List bh} {Q:Exit->Act->World->Prop} {ops:Array Oper} {m d:Nat} {op:Op} {ty:TypeId} {pos:String} {af:Array Edge} {rest:List Oper} {dst:Option Tmp} {g:Option (Nat×Bool)}
theorem Jq {P:Program} {r:Option Nat} {c:Cx} {D:List Nat} {sl:aD} {hs:List bh} {x y:Code} {Q:Exit->Act->World->Prop}
  (h:Tr c D sl hs (WP P r x (Exit.then (WP P r y Q) Q))):Tr c D sl hs (WP P r (.seq x y) Q):=Dy h
variable {N:Act->World->Prop} {a b:Int} {cs:List Value} {id:Nat} {k:IntKind} {p:Prop} {v:Value} {x y:Operand}
theorem Jt {c:Cx} {D:List Nat} {sl:aD} {hs:List bh} {Q:Exit->Act->World->Prop}
  (h:Tr c D sl hs N):Tr c D sl hs (Exit.then N Q .normal):=MP h
theorem J0 {P:Program} {r:Option Nat} {c:Cx} {D:List Nat} {sl:aD} {hs:List bh} {x:Code} {Q:Exit->Act->World->Prop}
  (h:Tr c D sl hs (WP P r x (Exit.inBlock id Q))):Tr c D sl hs (WP P r (.block id x) Q):=H3 h
theorem Je {P:Program} {r:Option Nat} {c:Cx} {D:List Nat} {sl:aD} {hs:List bh} {Q:Exit->Act->World->Prop}
  (h:Tr c D sl hs (Q .ret)):Tr c D sl hs (WP P r .ret Q):=HU h
theorem Jg {P:Program} {r:Option Nat} {c:Cx} {D:List Nat} {sl:aD} {hs:List bh} {l:List Oper} {Q:Exit->Act->World->Prop}
  (h:Tr c D sl hs (WL P r l.toArray Q l)):Tr c D sl hs (WP P r (.region id l.toArray false) Q):=sF h
theorem Jh {c:Cx} {D:List Nat} {sl:aD} {hs:List bh} {Q:Exit->Act->World->Prop}
  (h:Tr c D sl hs (Q .ret)):Tr c D sl hs (Exit.then N Q .ret):=BC h
theorem Ji {l:List Oper} {y:Code} {Q':Exit->Act->World->Prop} (h:Tr c D sl hs (WL P r l.toArray (Exit.then (WP P r y Q) Q) l)):Tr c D sl hs (WL P r ops (Exit.then (WP P r (.seq (.region id l.toArray false) y) Q) Q') []):=n_r h
theorem Jj {c:Cx} {D:List Nat} {sl:aD} {hs:List bh} {Q:Exit->Act->World->Prop}
  (h:Tr c D sl hs (Q .normal)):Tr c D sl hs (Exit.inBlock id Q .normal):=qj h
theorem Jk (h:Tr c D sl hs N):Tr c D sl hs (WP P r .skip (Exit.then N Q)):=s_t h
theorem Jl {c:Cx} {D:List Nat} {sl:aD} {hs:List bh} {Q:Exit->Act->World->Prop}
  (h:Tr c D sl hs (Q (.exit id))):Tr c D sl hs (Exit.then N Q (.exit id)):=zP h
theorem Jm {c:Cx} {D:List Nat} {sl:aD} {hs:List bh} {Q:Exit->Act->World->Prop}
  (h:Tr c D sl hs (Q .ret)):Tr c D sl hs (Exit.inBlock id Q .ret):=DB h
theorem Jo {c:Cx} {D:List Nat} {sl:aD} {hs:List bh} {Q:Exit->Act->World->Prop}
  (h:Tr c D sl hs (Q .normal)):Tr c D sl hs (Exit.inBlock id Q (.exit id)):=BJ h
theorem Jp (h:Tr c D sl hs (Q (.exit id))):Tr c D sl hs (WP P r (.exit id) (Exit.then N Q)):=x_t h
theorem Jn (h:Tr c D sl hs N):Tr c D sl hs (WL P r ops (Exit.then N Q) []):=n_t h
theorem Jr {l:List Oper} {y:Code} (h:Tr c D sl hs (WL P r l.toArray (Exit.then (WP P r y Q) Q) l)):Tr c D sl hs (WP P r (.seq (.region id l.toArray false) y) Q):=s_r h
theorem Ju (h:Tr c D sl hs (Q .ret)):Tr c D sl hs (WP P r .ret (Exit.then N Q)):=r_t h
theorem Jw {P:Program} {r:Option Nat} {c:Cx} {D:List Nat} {sl:aD} {hs:List bh} {Q:Exit->Act->World->Prop}
  (h:Tr c D sl hs (Q .normal)):Tr c D sl hs (WP P r .skip Q):=E1 h
theorem Jx {P:Program} {r:Option Nat} {c:Cx} {D:List Nat} {sl:aD} {hs:List bh} {ops:Array Oper} {Q:Exit->Act->World->Prop}
  (h:Tr c D sl hs (Q .normal)):Tr c D sl hs (WL P r ops Q []):=HV h
theorem Jv (h:(bif Nat.blt d c.nt then ev sl x else none)=some v) (k:Tr c D ((d,v)::sl) hs (WL P r ops Q rest)):Tr c D sl hs (WL P r ops Q (⟨some d,.move x,ty,pos,af,none⟩::rest)):=Pv (bc h).2 (bc h).1 k
theorem Ja (h:(bif Nat.blt d c.nt then ev sl x else none)=some v) (k:Tr c D ((d,v)::sl) hs (WL P r ops Q rest)):Tr c D sl hs (WL P r ops Q (⟨some d,.assign x,ty,pos,af,none⟩::rest)):=a_s (bc h).2 (bc h).1 k
theorem JA {t u:TypeId} (h:(bif Nat.blt d c.nt then ((ev sl x).bind fun a=>(ev sl y).map fun b=>(a,b)) else none)=some (.int k a,.int k b)) (k:Tr c D ((d,.bool (decide (a<b)))::sl) hs (WL P r ops Q rest)):Tr c D sl hs (WL P r ops Q (⟨some d,.binOp .lss t x y u,ty,pos,af,none⟩::rest)):=ab (oF (.of (bp (bc h).2).1) (.of (bp (bc h).2).2)) (bc h).1 k
theorem JC {t u:TypeId} (h:(bif Nat.blt d c.nt then ((ev sl x).bind fun a=>(ev sl y).map fun b=>(a,b)) else none)=some (.int k a,.int k b)) (k:Tr c D ((d,.bool (decide (a=b)))::sl) hs (WL P r ops Q rest)):Tr c D sl hs (WL P r ops Q (⟨some d,.binOp .eql t x y u,ty,pos,af,none⟩::rest)):=ab (fR (.of (bp (bc h).2).1) (.of (bp (bc h).2).2)) (bc h).1 k
theorem JD {t u:TypeId} (h:(bif Nat.blt d c.nt then ((ev sl x).bind fun a=>(ev sl y).map fun b=>(a,b)) else none)=some (.int k a,.int k b)) (k:Tr c D ((d,.bool (decide (a≠b)))::sl) hs (WL P r ops Q rest)):Tr c D sl hs (WL P r ops Q (⟨some d,.binOp .neq t x y u,ty,pos,af,none⟩::rest)):=ab (eE (.of (bp (bc h).2).1) (.of (bp (bc h).2).2)) (bc h).1 k
theorem JE {t u:TypeId} (h:(bif Nat.blt d c.nt then ((ev sl x).bind fun a=>(ev sl y).map fun b=>(a,b)) else none)=some (.int k a,.int k b)) (k:Tr c D ((d,.bool (decide (b<a)))::sl) hs (WL P r ops Q rest)):Tr c D sl hs (WL P r ops Q (⟨some d,.binOp .gtr t x y u,ty,pos,af,none⟩::rest)):=ab (mj (.of (bp (bc h).2).1) (.of (bp (bc h).2).2)) (bc h).1 k
theorem JF {t u:TypeId} (h:(bif Nat.blt d c.nt then ((ev sl x).bind fun a=>(ev sl y).map fun b=>(a,b)) else none)=some (.int k a,.int k b)) (k:Tr c D ((d,.bool (decide (a<=b)))::sl) hs (WL P r ops Q rest)):Tr c D sl hs (WL P r ops Q (⟨some d,.binOp .leq t x y u,ty,pos,af,none⟩::rest)):=ab (mi (.of (bp (bc h).2).1) (.of (bp (bc h).2).2)) (bc h).1 k
theorem JG {t u:TypeId} (h:(bif Nat.blt d c.nt then ((ev sl x).bind fun a=>(ev sl y).map fun b=>(a,b)) else none)=some (.int k a,.int k b)) (k:Tr c D ((d,.bool (decide (b<=a)))::sl) hs (WL P r ops Q rest)):Tr c D sl hs (WL P r ops Q (⟨some d,.binOp .geq t x y u,ty,pos,af,none⟩::rest)):=ab (Af (.of (bp (bc h).2).1) (.of (bp (bc h).2).2)) (bc h).1 k
theorem JB {t u:TypeId} (h:(bif Nat.blt d c.nt then ((ev sl x).bind fun a=>(ev sl y).map fun b=>(a,b)) else none)=some (.q a,.q b)) (hb:-9223372036854775808<=a+b/\a+b<=9223372036854775807) (k:Tr c D ((d,.q (a+b))::sl) hs (WL P r ops Q rest)):Tr c D sl hs (WL P r ops Q (⟨some d,.binOp .add t x y u,ty,pos,af,none⟩::rest)):=ab (IF (.of (bp (bc h).2).1) (.of (bp (bc h).2).2) (Ug hb)) (bc h).1 k
theorem JS {t u:TypeId} (h:(bif Nat.blt d c.nt then ((ev sl x).bind fun a=>(ev sl y).map fun b=>(a,b)) else none)=some (.q a,.q b)) (hb:-9223372036854775808<=a-b/\a-b<=9223372036854775807) (k:Tr c D ((d,.q (a-b))::sl) hs (WL P r ops Q rest)):Tr c D sl hs (WL P r ops Q (⟨some d,.binOp .sub t x y u,ty,pos,af,none⟩::rest)):=ab (Ab (.of (bp (bc h).2).1) (.of (bp (bc h).2).2) (Ug hb)) (bc h).1 k
theorem JH {t:TypeId} {b:Bool} (h:(bif Nat.blt d c.nt then ev sl x else none)=some (.bool b)) (k:Tr c D ((d,.bool (!b))::sl) hs (WL P r ops Q rest)):Tr c D sl hs (WL P r ops Q (⟨some d,.unOp .not t x,ty,pos,af,none⟩::rest)):=ab (fC (.of (bc h).2)) (bc h).1 k
theorem JI {t e:TypeId} {b:Option Addr} {n cap:Nat} [gJ P t (.slice e)] (h:(bif Nat.blt d c.nt then ev sl x else none)=some (.slice b n cap)) (k:Tr c D ((d,.q n)::sl) hs (WL P r ops Q rest)):Tr c D sl hs (WL P r ops Q (⟨some d,.call ⟨.builtin .len,#[x],#[t]⟩,ty,pos,af,none⟩::rest)):=ab (bz (e:=e) (.of (bc h).2)) (bc h).1 k
theorem JJ {i:Nat} {vs:List Value} (h:(bif Nat.blt d c.nt then ev sl x else none)=some (.tuple vs.toArray)) (hv:uq vs i=some v) (k:Tr c D ((d,v)::sl) hs (WL P r ops Q rest)):Tr c D sl hs (WL P r ops Q (⟨some d,.extract x i,ty,pos,af,none⟩::rest)):=ab (cC (.of (bc h).2) hv) (bc h).1 k
theorem JK {r:Option Nat} {D:List Nat} {ops:Array Oper} {Q:Exit->Act->World->Prop} {d:Option Tmp} {op:Op} {rest:List Oper} {j gs:Nat} {want:Bool} (hj:((ops[j]?).bind (·.dst))=some gs) (hq:cW sl gs=some (.bool want))
  (k:Tr c D sl hs (WL P r ops Q (⟨d,op,ty,pos,af,none⟩::rest))):Tr c D sl hs (WL P r ops Q (⟨d,op,ty,pos,af,some (j,want)⟩::rest)):=DA hj hq k
theorem JL {t:TypeId} {n:Nat} {b o:Nat} {E:TypeId} {fz:Nat×Nat} [Ty P t false n] (h:(bif Nat.blt d c.nt then ev sl x else none)=some (.pointer (some ⟨b,o,none⟩))) (ht:Take hs (SL.bA b (.cells cs.toArray E fz)) hs') (hv:uq cs o=some v) (k:Tr c D ((d,v)::sl) hs (WL P r ops Q rest)):Tr c D sl hs (WL P r ops Q (⟨some d,.load t x,ty,pos,af,none⟩::rest)):=ab (ag (.of (bc h).2) (At.lit ht hv)) (bc h).1 k
theorem Jc {inst:Decidable p} {u v:Code} (hx:ev sl x=some (.bool (decide p))) (hf:¬ p->Tr c D sl hs (WP P r v Q)) (ht:p->Tr c D sl hs (WP P r u Q):=by intro h;exfalso;omega):Tr c D sl hs (WP P r (.cond x u v) Q):=gR hx ht hf
theorem Jd {inst:Decidable p} {u v:Code} (hx:ev sl x=some (.bool (decide p))) (ht:p->Tr c D sl hs (WP P r u Q)) (hf:¬ p->Tr c D sl hs (WP P r v Q):=by intro h;exfalso;omega):Tr c D sl hs (WP P r (.cond x u v) Q):=gR hx ht hf
theorem Jy {t:TypeId} (h:(bif Nat.blt d c.nt then ev sl x else none)=some v) (hc:v.cells=cs.toArray) (k:∀ b,c.w0.heap.size<=b->Tr c D ((d,.p b)::sl) (bA b (.cells cs.toArray t)::hs) (WL P r ops Q rest)):Tr c D sl hs (WL P r ops Q (⟨some d,.box t x,ty,pos,af,none⟩::rest)):=bn (QS (.of (bc h).2) hc) (bc h).1 k
theorem Jz {t:TypeId} {z:Value} [lQ P t z] (hc:z.cells=cs.toArray) (hd:Nat.blt d c.nt=true) (k:∀ b,c.w0.heap.size<=b->Tr c D ((d,.p b)::sl) (bA b (.cells cs.toArray t)::hs) (WL P r ops Q rest)):Tr c D sl hs (WL P r ops Q (⟨some d,.alloc t,ty,pos,af,none⟩::rest)):=bn (kh hc) hd k
end
theorem JN {P:Program} {r:Option Nat} {c:Cx} {D:List Nat} {sl:aD} {hs:List bh} {Q:Exit->Act->World->Prop} {ops:Array Oper} {d:Nat} {op:Op} {ty:TypeId} {pos:String} {af:Array Edge} {rest:List Oper} {f:FuncId} {args:List Value} {ι:Type} {Φ:ι->Prop} {val:ι->Value} {own:ι->List bh} (hr:lR P sl ⟨some d,op,ty,pos,af,none⟩ f args) (hd:Nat.blt d c.nt=true) (hc:∀ w,Mem c hs w->bB P f args w [] Φ val own)
  (k:∀ x,Φ x->Tr c D ((d,val x)::sl) (own x++hs) (WL P r ops Q rest)):Tr c D sl hs (WL P r ops Q (⟨some d,op,ty,pos,af,none⟩::rest)):=jt hr hd bK.nil (fun w fp hm _ hs=>by obtain rfl:fp=[]:=hs;exact hc w hm) k
section
variable {P:Program} {r:Option Nat} {c:Cx} {sl:aD} {hs hs':List bh} {d:Nat} {dst:Option Tmp} {ty:TypeId} {pos:String} {af:Array Edge} {g:Option (Nat×Bool)}
variable {b:Nat} {cs:List Value} {fz:Nat×Nat} {n o:Nat} {v:Value} {vs:List Value} {x:Operand}
theorem ic {t:TypeId} {E:TypeId} [Ty P t false n] (ht:Take hs (SL.bA b (.cells cs.toArray E fz)) hs') (hx:Is sl x (.pointer (some ⟨b,o,none⟩)):=by exact Is.of I) (hv:uq cs o=some v:=by exact I):cM P c sl hs ⟨dst,.load t x,ty,pos,af,g⟩ v:=ag hx (At.lit ht hv)
theorem cN {t:TypeId} {E:TypeId} [Ty P t true n] (ht:Take hs (SL.bA b (.cells cs.toArray E fz)) hs') (hx:Is sl x (.pointer (some ⟨b,o,none⟩)):=by exact Is.of I) (hv:eu cs o n=vs:=by exact an) (hl:vs.length=n:=by rfl):cM P c sl hs ⟨dst,.load t x,ty,pos,af,g⟩ (.agg vs.toArray):=bL hx ht hv hl
theorem k9 {t:TypeId} {i o:Nat} {b k q:Nat} [ef P t i o] (hx:Is sl x (.pointer (some ⟨b,k,none⟩)):=by exact Is.of I) (he:k+o=q:=by exact ae):cM P c sl hs ⟨dst,.fieldAddr t x i,ty,pos,af,g⟩ (.pointer (some ⟨b,q,none⟩)):=ai hx he
theorem kL (hx:Is sl x v:=by exact Is.of I):cM P c sl hs ⟨dst,.move x,ty,pos,af,g⟩ v:=aL hx
theorem iD {t:TypeId} [Ty P t true n] (hv:eO c hs b o vs) (hx:Is sl x (.pointer (some ⟨b,o,none⟩)):=by exact Is.of I) (hl:vs.length=n:=by exact I):cM P c sl hs ⟨dst,.load t x,ty,pos,af,g⟩ (.agg vs.toArray):=iw hx hv hl
theorem gr {t e:TypeId} {agg:Bool} {x y:Operand} {a0:Option Addr} {b o len cap q:Nat} {k:IntKind} {i:Int} [hu:gJ P t (.slice e)] [Ty P e agg n] (ha:a0=some ⟨b,o,none⟩) (h1:i<len) (hx:Is sl x (.slice a0 len cap):=by exact Is.of I) (hy:Is sl y (.int k i):=by exact Is.of I) (h0:0<=i:=by omega) (he:o+i.toNat*n=q:=by exact bu):cM P c sl hs ⟨dst,.indexAddr t x y,ty,pos,af,g⟩ (.pointer (some ⟨b,q,none⟩)):=aC hx hy ha h0 h1 he
theorem JT {fn:Func} {v v':Value} {t:Tmp} (hv:v'=v) (G2:c.md=[]:=by exact I) (h1:fn.results=#[.tmp t]:=by exact I) (h2:cW sl t=some v':=by exact I):Tr c [] sl hs (bodyPostM (FR r) 0 P fn (fun e w'=>e=.returned v/\aH [] c.w0 w') .ret):=pA G2 (dS h1 h2) hv
end
variable {args cap:List Value} {f:FuncId} {first:List Value} {h:List bh} {ts:Array TypeId}
theorem bO {A x0 x1:bh}:Take (x0::x1::A::h) A (x0::x1::h):=.there (.there .here)
theorem c6 {A x0 x1 x2:bh}:Take (x0::x1::x2::A::h) A (x0::x1::x2::h):=.there bO
theorem dF {A x0 x1 x2 x3:bh}:Take (x0::x1::x2::x3::A::h) A (x0::x1::x2::x3::h):=.there c6
theorem fx {A x0 x1 x2 x3 x4:bh}:Take (x0::x1::x2::x3::x4::A::h) A (x0::x1::x2::x3::x4::h):=.there dF
theorem qY {A x0 x1 x2 x3 x4 x5:bh}:Take (x0::x1::x2::x3::x4::x5::A::h) A (x0::x1::x2::x3::x4::x5::h):=.there fx
theorem nR {A x0 x1 x2 x3 x4 x5 x6:bh}:Take (x0::x1::x2::x3::x4::x5::x6::A::h) A (x0::x1::x2::x3::x4::x5::x6::h):=.there qY
theorem zD {A x0 x1 x2 x3 x4 x5 x6 x7:bh}:Take (x0::x1::x2::x3::x4::x5::x6::x7::A::h) A (x0::x1::x2::x3::x4::x5::x6::x7::h):=.there nR
theorem jh {A x0 x1 x2 x3 x4 x5 x6 x7 x8:bh}:Take (x0::x1::x2::x3::x4::x5::x6::x7::x8::A::h) A (x0::x1::x2::x3::x4::x5::x6::x7::x8::h):=.there zD
theorem lT {A x0 x1 x2 x3 x4 x5 x6 x7 x8 x9:bh}:Take (x0::x1::x2::x3::x4::x5::x6::x7::x8::x9::A::h) A (x0::x1::x2::x3::x4::x5::x6::x7::x8::x9::h):=.there jh
theorem Dc {A x0 x1 x2 x3 x4 x5 x6 x7 x8 x9 yn:bh}:Take (x0::x1::x2::x3::x4::x5::x6::x7::x8::x9::yn::A::h) A (x0::x1::x2::x3::x4::x5::x6::x7::x8::x9::yn::h):=.there lT
theorem lS {A x0 x1 x2 x3 x4 x5 x6 x7 x8 x9 yn EV:bh}:Take (x0::x1::x2::x3::x4::x5::x6::x7::x8::x9::yn::EV::A::h) A (x0::x1::x2::x3::x4::x5::x6::x7::x8::x9::yn::EV::h):=.there Dc
theorem S9 {A x0 x1 x2 x3 x4 x5 x6 x7 x8 x9 yn EV Hu:bh}:Take (x0::x1::x2::x3::x4::x5::x6::x7::x8::x9::yn::EV::Hu::A::h) A (x0::x1::x2::x3::x4::x5::x6::x7::x8::x9::yn::EV::Hu::h):=.there lS
theorem Db {A x0 x1 x2 x3 x4 x5 x6 x7 x8 x9 yn EV Hu Ph:bh}:Take (x0::x1::x2::x3::x4::x5::x6::x7::x8::x9::yn::EV::Hu::Ph::A::h) A (x0::x1::x2::x3::x4::x5::x6::x7::x8::x9::yn::EV::Hu::Ph::h):=.there S9
theorem je {A x0 x1 x2 x3 x4 x5 x6 x7 x8 x9 yn EV Hu Ph Qo:bh}:Take (x0::x1::x2::x3::x4::x5::x6::x7::x8::x9::yn::EV::Hu::Ph::Qo::A::h) A (x0::x1::x2::x3::x4::x5::x6::x7::x8::x9::yn::EV::Hu::Ph::Qo::h):=.there Db
theorem kB {A x0 x1 x2 x3 x4 x5 x6 x7 x8 x9 yn EV Hu Ph Qo x15:bh}:Take (x0::x1::x2::x3::x4::x5::x6::x7::x8::x9::yn::EV::Hu::Ph::Qo::x15::A::h) A (x0::x1::x2::x3::x4::x5::x6::x7::x8::x9::yn::EV::Hu::Ph::Qo::x15::h):=.there je
theorem dG {v0:Value} (h0:v0.oneCell'=true):∀ u∈[v0],u.oneCell'=true:=aU h0 (eS)
theorem gK {v0 v1:Value} (h0:v0.oneCell'=true) (h1:v1.oneCell'=true):∀ u∈[v0,v1],u.oneCell'=true:=aU h0 (aU h1 (eS))
theorem fc {v0 v1 v2:Value} (h0:v0.oneCell'=true) (h1:v1.oneCell'=true) (h2:v2.oneCell'=true):∀ u∈[v0,v1,v2],u.oneCell'=true:=aU h0 (aU h1 (aU h2 (eS)))
theorem hG {v0 v1 v2 v3 v4 v5:Value} (h0:v0.oneCell'=true) (h1:v1.oneCell'=true) (h2:v2.oneCell'=true) (h3:v3.oneCell'=true) (h4:v4.oneCell'=true) (h5:v5.oneCell'=true):∀ u∈[v0,v1,v2,v3,v4,v5],u.oneCell'=true:=aU h0 (aU h1 (aU h2 (aU h3 (aU h4 (aU h5 (eS))))))
theorem Wf {v0 v1 v2 v3 v4 v5 v6 v7:Value} (h0:v0.oneCell'=true) (h1:v1.oneCell'=true) (h2:v2.oneCell'=true) (h3:v3.oneCell'=true) (h4:v4.oneCell'=true) (h5:v5.oneCell'=true) (h6:v6.oneCell'=true) (h7:v7.oneCell'=true):∀ u∈[v0,v1,v2,v3,v4,v5,v6,v7],u.oneCell'=true:=aU h0 (aU h1 (aU h2 (aU h3 (aU h4 (aU h5 (aU h6 (aU h7 (eS))))))))
theorem cB {sl w:aD} (h:lH sl w:=by repeat' first | with_reducible exact lH.nil | ((with_reducible apply lH.cons);(case h=>exact I))):lH sl w:=h
theorem qv {hs w q:List bh} (h:bK hs w q:=by repeat' first | with_reducible exact bK.nil | with_reducible apply bK.cons | with_reducible exact Take.here | with_reducible apply Take.there):bK hs w q:=h
theorem k8 {P:Program} {sl:aD} {dst:Option Tmp} {ty:TypeId} {pos:String} {af:Array Edge} {g:Option (Nat×Bool)} {x :Operand} (hx:Is sl x (.func (.func f) first.toArray cap.toArray):=by exact Is.of I)  (hb:bQ P f:=by exact inferInstance) (he:first++[]++cap=args:=by exact gF):lR P sl ⟨dst,.call ⟨.value x,#[],ts⟩,ty,pos,af,g⟩ f args:=a8 (xs:=[]) hx (.nil) hb he
theorem bS {P:Program} {sl:aD} {dst:Option Tmp} {ty:TypeId} {pos:String} {af:Array Edge} {g:Option (Nat×Bool)} {x y0:Operand} {w0:Value} (hx:Is sl x (.func (.func f) first.toArray cap.toArray):=by exact Is.of I) (h0:Is sl y0 w0:=by exact Is.of I) (hb:bQ P f:=by exact inferInstance) (he:first++[w0]++cap=args:=by exact gF):lR P sl ⟨dst,.call ⟨.value x,#[y0],ts⟩,ty,pos,af,g⟩ f args:=a8 (xs:=[y0]) hx (.cons h0 (.nil)) hb he
theorem bo {P:Program} {sl:aD} {dst:Option Tmp} {ty:TypeId} {pos:String} {af:Array Edge} {g:Option (Nat×Bool)} {x y0 y1:Operand} {w0 w1:Value} (hx:Is sl x (.func (.func f) first.toArray cap.toArray):=by exact Is.of I) (h0:Is sl y0 w0:=by exact Is.of I) (h1:Is sl y1 w1:=by exact Is.of I) (hb:bQ P f:=by exact inferInstance) (he:first++[w0,w1]++cap=args:=by exact gF):lR P sl ⟨dst,.call ⟨.value x,#[y0,y1],ts⟩,ty,pos,af,g⟩ f args:=a8 (xs:=[y0,y1]) hx (.cons h0 (.cons h1 (.nil))) hb he
theorem ek {P:Program} {sl:aD} {dst:Option Tmp} {ty:TypeId} {pos:String} {af:Array Edge} {g:Option (Nat×Bool)} {x y0 y1 y2:Operand} {w0 w1 w2:Value} (hx:Is sl x (.func (.func f) first.toArray cap.toArray):=by exact Is.of I) (h0:Is sl y0 w0:=by exact Is.of I) (h1:Is sl y1 w1:=by exact Is.of I) (h2:Is sl y2 w2:=by exact Is.of I) (hb:bQ P f:=by exact inferInstance) (he:first++[w0,w1,w2]++cap=args:=by exact gF):lR P sl ⟨dst,.call ⟨.value x,#[y0,y1,y2],ts⟩,ty,pos,af,g⟩ f args:=a8 (xs:=[y0,y1,y2]) hx (.cons h0 (.cons h1 (.cons h2 (.nil)))) hb he
theorem uA {P:Program} {sl:aD} {dst:Option Tmp} {ty:TypeId} {pos:String} {af:Array Edge} {g:Option (Nat×Bool)} {x y0 y1 y2 y3:Operand} {w0 w1 w2 w3:Value} (hx:Is sl x (.func (.func f) first.toArray cap.toArray):=by exact Is.of I) (h0:Is sl y0 w0:=by exact Is.of I) (h1:Is sl y1 w1:=by exact Is.of I) (h2:Is sl y2 w2:=by exact Is.of I) (h3:Is sl y3 w3:=by exact Is.of I) (hb:bQ P f:=by exact inferInstance) (he:first++[w0,w1,w2,w3]++cap=args:=by exact gF):lR P sl ⟨dst,.call ⟨.value x,#[y0,y1,y2,y3],ts⟩,ty,pos,af,g⟩ f args:=a8 (xs:=[y0,y1,y2,y3]) hx (.cons h0 (.cons h1 (.cons h2 (.cons h3 (.nil))))) hb he
theorem L6 {P:Program} {sl:aD} {dst:Option Tmp} {ty:TypeId} {pos:String} {af:Array Edge} {g:Option (Nat×Bool)} {x y0 y1 y2 y3 y4:Operand} {w0 w1 w2 w3 w4:Value} (hx:Is sl x (.func (.func f) first.toArray cap.toArray):=by exact Is.of I) (h0:Is sl y0 w0:=by exact Is.of I) (h1:Is sl y1 w1:=by exact Is.of I) (h2:Is sl y2 w2:=by exact Is.of I) (h3:Is sl y3 w3:=by exact Is.of I) (h4:Is sl y4 w4:=by exact Is.of I) (hb:bQ P f:=by exact inferInstance) (he:first++[w0,w1,w2,w3,w4]++cap=args:=by exact gF):lR P sl ⟨dst,.call ⟨.value x,#[y0,y1,y2,y3,y4],ts⟩,ty,pos,af,g⟩ f args:=a8 (xs:=[y0,y1,y2,y3,y4]) hx (.cons h0 (.cons h1 (.cons h2 (.cons h3 (.cons h4 (.nil)))))) hb he
end Go.SL
namespace Go.Proofs.A1
open Go Go.SL
open Tryz
open Tryz renaming prog->T_
def ints (es:List Int):List (List Value):=es.map fun e=>[.q e]
theorem cU (es:List Int):(ints es).length=es.length:=by simp [ints]
variable {cs:List Value} {es:List Int} {k n p:Nat} {s:ByteArray} {v:Value} {w:World}
theorem iz (h:k<es.length):(ints es)[k]? = some [.q es[k]]:=by simp [ints,h]
theorem jG (h:k<es.length):ints es≠[]:=by intro e;have:=congrArg List.length e;rw [cU] at this;simp at this;subst this;simp at h
inductive cg:List Value->List Int->Prop
 | nil:cg [] []
 | cons {e:Int} {vs:List Value} {es:List Int} (h:cg vs es):cg (.int .i64 e::vs) (e::es)
theorem cg.eq {vs:List Value} (h:cg vs es):(vs.map fun v=>[v])=ints es:=by
 induction h with
 | nil=>rfl
 | cons h ih=>simp only [Zaf,ints,ih]
theorem Py (c:Int) (w:World):ao T_ 323 [.int .u8 c] w (.bool (GS c)):=by
 refine ak func323 I I ?_
 (refine Jr<|Ja I<|Ji<|Jv I<|JF I<|Jv I<|gy I I I I<|au I I (fun hg bG=>(mi (.bX hg I) (.of I))) I<|ab (cE (.of I) I) I<|Jv I<|gy I I I I<|au I I (fun hg bG=>(mi (.of I) (.bX hg I))) I<|au I I (fun hg bG=>(aL (.bX hg I))) I<|iO I I (fun hg bG=>(aL (.of I))) I<|iO I I (fun hg bG=>(mi (.bX hg I) (.of I))) I<|au I I (fun hg bG=>(iJ hg (.bX hg I) I)) I<|ab (bE (.of I) I) I<|Ja I<|Jn<|Je<|JT ?_)
 rfl
theorem Ue (c:Int) (w:World):ao T_ 324 [.int .u8 c] w (.bool (Uf c)):=by
 refine ak func324 I I ?_
 (refine Jr<|Ja I<|Ji<|Jv I<|JF I<|Jv I<|gy I I I I<|au I I (fun hg bG=>(mi (.bX hg I) (.of I))) I<|ab (cE (.of I) I) I<|Ja I<|Jn<|Je<|JT ?_)
 rfl
theorem oy (h:Bool) (e:Int) (w:World):ao T_ 129 [.bool h,.q e] w (.q (bT h e)):=by
 refine ak func129 I I ?_
 (refine Jr<|Ja I<|Jn<|Jq<|Jr<|Jv I<|Jn<|oq I (fun aA=>?_) fun aA=>?_;refine Jr<|Jv I<|Ja I<|Jn<|Ju<|JT ?_;rotate_left;refine Jk<|Jr<|Ja I<|Jn<|Je<|JT ?_;rotate_right)
 all_goals simp [bT, *]
theorem Aj (n l m:Int) (w:World):ao T_ 67 [.q n,.q l,.q m] w (.q (gC n l m)):=by
 refine ak func67 I I ?_
 (refine Jr<|Ja I<|Ji<|Jv I<|Jv I<|JA I<|Jv I<|gy I I I I<|gy I I I I<|au I I (fun hg bG=>(mj (.bX hg I) (.bX hg I))) I<|ab (bE (.of I) I) I<|aj bo I (fun w' az=>(oy _ 3 w'))<|Ja I<|Jn<|Je<|JT ?_)
 rfl
theorem Rs (s:ByteArray) (w:World):ao T_ 270 [.string s] w (.bool (jD s)):=by
 refine ak func270 I I ?_
 (refine Jr<|Ja I<|Jn<|Jq<|Jr<|Jv I<|ab (gT (.of I)) I<|JC I<|Jv I<|gy I I I I<|au I I (fun hg bG=>(gT (.bX hg I))) I<|au I I (fun hg bG=>(mj (.bX hg I) (.of I))) I<|ab (bE (.of I) I) I<|Jv I<|gy I I I I<|au I I (fun hg bG=>(pK (.bX hg I) (.of I) (by omega) (by omega))) I<|jj I I (fun hg=>(a8 (.of I) (.cons (.bX hg I) .nil) inferInstance gF)) I (fun hg w' az=>(Py _ w'))<|au I I (fun hg bG=>(fC (.bX hg I))) I<|ab (bE (.of I) I) I<|Jn<|oq I (fun aA=>?_) fun aA=>?_;refine Jr<|Ja I<|Jn<|Ju<|JT ?_;rotate_left;refine Jk<|Jq<|Jr<|Ja I<|Jn<|J0 ?_;rotate_right)
 ·congr 1;symm;change (_\/_)\/GS (bt s 0)=false at aA;unfold jD;rcases aA with (h | h) | h
  ·simp;omega
  ·simp;omega
  ·simp [h]
 change (_/\_)/\GS (bt s 0)=true at aA;obtain ⟨⟨h0,h1⟩,h2⟩:=aA;have hN:jD s=okF s 1:=by
  unfold jD;rw [h2,decide_eq_true (by omega),decide_eq_true (by omega)];rfl
 rw [hN];refine bd (fun k:Nat=>1<=k/\k<=s.size/\okF s 1=okF s k) (fun k=>[(3,.q k),(0,.string s)]) (fun _=>[]) (fun k=>s.size-k) ?_ ?_
 ·apply aJ 1 ⟨by omega,by omega,I⟩
  case hs1=>exact cB
  case ht=>(try simp only [Ze,Zf,Za]);exact .nil
 intro k ⟨Tu,hk,hf⟩;rw [hf];by_cases aN:k<s.size
 ·rw [Aw aN]
  (refine Jq<|Jr<|Jv I<|Jv I<|ab (gT (.of I)) I<|JA I<|Jn<|Jd I fun aA=>Jk<|Jq<|J0<|Jr<|Jv I<|Jv I<|ab (pK (.of I) (.of I) (by omega) aA) I<|aj bS I (fun w' az=>(Py _ w'))<|JH I<|Jv I<|gy I I I I<|gy I I I I<|au I I (fun hg bG=>(pK (.bX hg I) (.bX hg I) (by omega) aA)) I<|jj I I (fun hg=>(a8 (.of I) (.cons (.bX hg I) .nil) inferInstance gF)) I (fun hg w' az=>(Ue _ w'))<|au I I (fun hg bG=>(fC (.bX hg I))) I<|ab (cE (.of I) I) I<|Jv I<|gy I I I I<|gy I I I I<|au I I (fun hg bG=>(pK (.bX hg I) (.bX hg I) (by omega) aA)) I<|au I I (fun hg bG=>(eE (.bX hg I) (.of I))) I<|ab (cE (.of I) I) I<|Jn<|oq I (fun aA=>?_) fun aA=>?_;refine Jr<|Ja I<|Jn<|Je<|Jm<|Jh<|Jh<|Jm<|Jh<|JT ?_;rotate_left;refine Jw<|Jj<|Jt<|Jg<|Jv I<|JB I (by omega)<|Ja I<|Jn ?_;rotate_right)
  ·congr 1;symm;change (GS (bt s k)=false/\Uf (bt s k)=false)/\bt s k≠95 at aA;simp [okB,aA]
  ·have ho:okB (bt s k)=true:=by
    change (GS (bt s k)=true\/Uf (bt s k)=true)\/¬ bt s k≠95 at aA;rcases aA with (h | h) | h
    ·simp [okB,h]
    ·simp [okB,h]
    ·simp [okB,Zr.1 h]
   rw [ho,Zav];rw [Aw aN,ho,Zav] at hf;rw [<- hf];apply aI (k+1) ⟨by omega,by omega,hf⟩ (by omega)
   case hs1=>exact cB
   case ht=>(try simp only [Ze,Zf,Za]);exact .nil
 ·(refine Jq<|Jr<|Jv I<|Jv I<|ab (gT (.of I)) I<|JA I<|Jn<|Jc I fun aA=>Jp<|Jl<|Jo<|Jt<|Jr<|Ja I<|Jn<|Je<|JT ?_)
  rw [Fw (by omega)]
theorem Xs (s:ByteArray) (w:World):ao T_ 189 [.string s] w (.q (nmF s)):=by
 refine ak func189 I I ?_
 (refine Jr<|Ja I<|Ji<|Jv I<|aj bS I (fun w' az=>(Rs s w'))<|JH I<|aj bo I (fun w' az=>(oy _ 8 w'))<|Ja I<|Jn<|Je<|JT ?_)
 rfl
theorem OD (v:Value) (es:List Int) (w:World) (h:Rd w v 1 (ints es)):ao T_ 28 [v] w (.q (ba es)):=by
 obtain ⟨a,cap,b,o,rfl,dD,cr,ha,hc⟩:=h;rw [cU] at *;unfold maxLen at cr;refine ak func28 I I ?_;refine Jr<|Ja I<|Jn<|Jq<|Jr<|Ja I<|Jn<|J0 ?_;refine bd (fun k:Nat=>k<=es.length/\ba es=ba (es.drop k)) (fun k=>[(3,.int .i64 k),(0,.slice a es.length cap)]) (fun _=>[]) (fun k=>es.length-k) ?_ ?_
 ·apply aJ 0 ⟨Zi _,I⟩
  case hs1=>exact cB
  case ht=>(try simp only [Ze,Zf,Za]);exact .nil
 intro k ⟨hk,hf⟩;by_cases aN:k<es.length
 ·have c8:=ha (jG aN);have aG:=rd1 hc (iz aN);have hs:=tg aN
  (refine Jq<|Jr<|Jv I<|Jv I<|JI I<|JA I<|Jn<|Jd I fun aA=>Jk<|Jq<|J0<|Jr<|Jv I<|Jv I<|ab (gr c8 aA) I<|ab (ag (.of I) (At.base aG I)) I<|JD I<|Jn<|gR I (fun aA=>?_) fun aA=>?_;refine Jr<|Jv I<|Jv I<|ab (aC (.of I) (.of I) c8 (by omega) (by assumption) bu) I<|ab (ag (.of I) (At.base aG I)) I<|Ja I<|Jn<|Je<|Jm<|Jh<|Jh<|Jm<|Jh<|JT ?_;rotate_left;refine Jw<|Jj<|Jt<|Jg<|Jv I<|JB I (by omega)<|Ja I<|Jn ?_;rotate_right)
  ·rw [hf,hs,if_pos aA]
  ·apply aI (k+1) ⟨by omega,by rw [hf,hs,if_neg aA]⟩ (by omega)
   case hs1=>exact cB
   case ht=>(try simp only [Ze,Zf,Za]);exact .nil
 ·refine Jq<|Jr<|Jv I<|Jv I<|JI I<|JA I<|Jn<|Jc I fun aA=>Jp<|Jl<|Jo<|Jt<|Jr<|Ja I<|Jn<|Je<|JT ?_;rw [hf,Zbd (by omega)];rfl
theorem mT (h:Rd w v 1 (cs.map fun v=>[v])) (hl:cg cs es):ao T_ 28 [v] w (.q (ba es)):=
 OD v es w (by rw [<- hl.eq];exact h)
theorem dO (h:Bool) (e:Int) (w:World):ao T_ 147 [.bool h,.q e] w (.q (bT h e)):=by
 refine ak func147 I I ?_
 (refine Jr<|Ja I<|Jn<|Jq<|Jr<|Jv I<|Jn<|oq I (fun aA=>?_) fun aA=>?_;refine Jr<|Jv I<|Ja I<|Jn<|Ju<|JT ?_;rotate_left;refine Jk<|Jr<|Ja I<|Jn<|Je<|JT ?_;rotate_right)
 all_goals simp [bT, *]
theorem mC (n l m:Int) (w:World):ao T_ 134 [.q n,.q l,.q m] w (.q (gC n l m)):=by
 refine ak func134 I I ?_
 (refine Jr<|Ja I<|Ji<|Jv I<|Jv I<|JA I<|Jv I<|gy I I I I<|gy I I I I<|au I I (fun hg bG=>(mj (.bX hg I) (.bX hg I))) I<|ab (bE (.of I) I) I<|aj bo I (fun w' az=>(dO _ 3 w'))<|Ja I<|Jn<|Je<|JT ?_)
 rfl
theorem OE (v:Value) (es:List Int) (w:World) (h:Rd w v 1 (ints es)):ao T_ 111 [v] w (.q (ba es)):=by
 obtain ⟨a,cap,b,o,rfl,dD,cr,ha,hc⟩:=h;rw [cU] at *;unfold maxLen at cr;refine ak func111 I I ?_;refine Jr<|Ja I<|Jn<|Jq<|Jr<|Jv I<|JI I<|Jv I<|Jn<|J0 ?_;refine bd (fun k:Nat=>k<=es.length/\ba es=ba (es.drop k)) (fun k=>[(7,.int .i64 k),(6,.int .i64 es.length),(5,.slice a es.length cap)]) (fun _=>[]) (fun k=>es.length-k) ?_ ?_
 ·apply aJ 0 ⟨Zi _,I⟩
  case hs1=>exact cB
  case ht=>(try simp only [Ze,Zf,Za]);exact .nil
 intro k ⟨hk,hf⟩;by_cases aN:k<es.length
 ·have c8:=ha (jG aN);have aG:=rd1 hc (iz aN);have hs:=tg aN
  (refine Jr<|JA I<|Jn<|Jq<|Jd I fun aA=>Jk<|Jq<|J0<|Jr<|ab (gr c8 aA) I<|ab (ag (.of I) (At.base aG I)) I<|Ja I<|Ji<|Jv I<|JD I<|Jn<|gR I (fun aA=>?_) fun aA=>?_;refine Jr<|Jv I<|Ja I<|Jn<|Je<|Jm<|Jh<|Jh<|Jm<|Jh<|JT ?_;rotate_left;refine Jw<|Jj<|Jt<|Jg<|JB I (by omega)<|Jv I<|Jn ?_;rotate_right)
  ·rw [hf,hs,if_pos aA]
  ·apply aI (k+1) ⟨by omega,by rw [hf,hs,if_neg aA]⟩ (by omega)
   case hs1=>exact cB
   case ht=>(try simp only [Ze,Zf,Za]);exact .nil
 ·refine Jr<|JA I<|Jn<|Jq<|Jc I fun aA=>Jp<|Jl<|Jo<|Jt<|Jr<|Ja I<|Jn<|Je<|JT ?_;rw [hf,Zbd (by omega)];rfl
theorem dE (h:Rd w v 1 (cs.map fun v=>[v])) (hl:cg cs es):ao T_ 111 [v] w (.q (ba es)):=
 OE v es w (by rw [<- hl.eq];exact h)
theorem VY (h:p<s.size):bt s p=((s[p]'h).toNat:Nat):=by
 unfold bt;have:s.data.toList[p]? = some (s[p]'h):=by
  rw [ZaG];exact getElem?_pos s.data p h
 rw [this];rfl
theorem zo (h:p<s.size):(bt s p<128/\((Utf8.decode s p).1:Int)=bt s p/\(Utf8.decode s p).2=1)\/(128<=bt s p/\(128:Int)<=(Utf8.decode s p).1/\1<=(Utf8.decode s p).2):=by
 rw [VY h];by_cases ha:(s[p]'h).toNat<128
 ·have:=decode_ascii s p h ha
  left;rw [this];exact ⟨by omega,I,I⟩
 ·have:=decode_high s p h (by omega)
  right;omega
theorem Cn :s.size=0↔s=⟨#[]⟩:=by
 constructor
 ·intro h;have:s.data=#[]:=Array.eq_empty_of_size_eq_zero h;cases s;simp_all
 ·rintro rfl;rfl
theorem FC {c:Int}:GS c=true↔(65<=c/\c<=90)\/(97<=c/\c<=122):=by simp [GS]
theorem Ay {c:Int}:okB c=true↔((65<=c/\c<=90)\/(97<=c/\c<=122))\/(48<=c/\c<=57)\/c=95:=by simp [okB,GS,Uf,or_assoc]
theorem Eb (s:ByteArray) (w:World):ao T_ 187 [.string s] w (.bool (jD s)):=by
 refine ak func187 I I ?_
 (refine Jr<|Ja I<|Jn<|Jq<|Jr<|Jv I<|bn (GD (.of I)) I fun _ _=>Jn<|J0 ?_)
 rename_i bi hbi;refine bd (fun p:Nat=>p<=s.size/\(p=0\/(1<=p/\GS (bt s 0)=true/\okF s 1=okF s p))) (fun _=>[(7,.p bi),(0,.string s)]) (fun p=>[bA bi (.stringIter s p)]) (fun p=>s.size-p) ?_ ?_
 ·apply aJ 0 ⟨by omega,.inl I⟩
  case hs1=>exact cB
  case ht=>(try simp only [Ze,Zf,Za]);exact .h1 .nil
 intro p ⟨hp,hI⟩
 (refine Jr<|HW (.of I) .here I (fun aN=>?_) fun aN=>?_;refine JJ I I<|Jn<|Jq<|ch (.of I)<|Jk<|J0<|Jr<|JJ I I<|JJ I I<|Ja I<|Ja I<|Ji<|Jv I<|JG I<|Jv I<|gy I I I I<|au I I (fun hg bG=>(mi (.bX hg I) (.of I))) I<|ab (cE (.of I) I) I<|Jv I<|gy I I I I<|au I I (fun hg bG=>(Af (.bX hg I) (.of I))) I<|au I I (fun hg bG=>(aL (.bX hg I))) I<|iO I I (fun hg bG=>(aL (.of I))) I<|iO I I (fun hg bG=>(mi (.bX hg I) (.of I))) I<|au I I (fun hg bG=>(iJ hg (.bX hg I) I)) I<|ab (bE (.of I) I) I<|Ja I<|Ji<|Jv I<|JH I<|Jv I<|gy I I I I<|au I I (fun hg bG=>(fR (.bX hg I) (.of I))) I<|au I I (fun hg bG=>(aL (.bX hg I))) I<|iO I I (fun hg bG=>(aL (.of I))) I<|iO I I (fun hg bG=>(oF (.bX hg I) (.of I))) I<|iO I I (fun hg bG=>(aL (.bX hg I))) I<|iO I I (fun hg bG=>(aL (.of I))) I<|iO I I (fun hg bG=>(mj (.bX hg I) (.of I))) I<|iO I I (fun hg bG=>(oE hg (.bX hg I) I)) I<|iO I I (fun hg bG=>(aL (.bX hg I))) I<|iO I I (fun hg bG=>(aL (.of I))) I<|iO I I (fun hg bG=>(eE (.bX hg I) (.of I))) I<|iO I I (fun hg bG=>(iJ hg (.bX hg I) I)) I<|au I I (fun hg bG=>(oE hg (.bX hg I) I)) I<|ab (cE (.of I) I) I<|Jn<|oq I (fun aA=>?_) fun aA=>?_;refine Jr<|Ja I<|Jn<|Je<|Jm<|Jh<|Jm<|Jh<|JT ?_;rotate_left;refine Jw<|Jj<|Jt ?_;rotate_right;rotate_left 2;refine JJ I I<|Jn<|Jq<|bJ (.of I)<|Jp<|Jl<|Jo<|Jt<|Jr<|Jv I<|ab (jv (.of I) (.of I)) I<|Jv I<|gy I I I I<|au I I (fun hg bG=>(gT (.bX hg I))) I<|au I I (fun hg bG=>(mi (.bX hg I) (.of I))) I<|ab (cE (.of I) I) I<|Ja I<|Jn<|Je<|JT ?_;rotate_right 2)
 ·congr 1;symm;unfold jD;have hd:=zo aN;rcases hI with rfl | ⟨h1,h2,h3⟩
  ·have:GS (bt s 0)=false:=by rw [<- Zae,FC];omega
   simp [this]
  ·have:okF s p=false:=by
    rw [Aw aN];have:okB (bt s p)=false:=by rw [<- Zae,Ay];omega
    rw [this];rfl
   rw [h3,this];simp
 ·have hd:=zo aN;have ho:okB (bt s p)=true:=by rw [Ay];omega
  have hw:(Utf8.decode s p).2=1:=by rw [Ay] at ho;omega
  rw [hw];have hn:GS (bt s 0)=true/\okF s 1=okF s (p+1):=by
   rcases hI with rfl | ⟨h1,h2,h3⟩
   ·refine ⟨?_,I⟩;rw [FC];omega
   ·exact ⟨h2,by rw [h3,Aw aN,ho];rfl⟩
  apply aI (p+1) ⟨by omega,.inr ⟨by omega,hn⟩⟩ (by omega)
  case hs1=>exact cB
  case ht=>(try simp only [Ze,Zf,Za]);exact .h1 .nil
 ·unfold jD;congr 1;by_cases h0:s.size=0
  ·have:s=⟨#[]⟩:=Cn.1 h0;rw [decide_eq_false (p:=s≠⟨#[]⟩) (fun h=>h this),decide_eq_false (p:=0<s.size) (by omega)];rfl
  ·rw [decide_eq_true (p:=s≠⟨#[]⟩) (fun h=>h0 (Cn.2 h)),decide_eq_true (p:=0<s.size) (by omega)]
   rcases hI with rfl | ⟨h1,h2,h3⟩
   ·omega
   ·rw [h2,h3,Fw (by omega)];simp;omega
def Sr.cells (x:Sr):List Value:=[.string x.nm,.q x.mx]
def uj (l:List Sr):List (List Value):=l.map Sr.cells
def mw (l:List Sr):List Value:=(uj l).flatten
theorem cy (l:List Sr):(uj l).length=l.length:=by simp [uj]
theorem fG {l:List Sr} (h:k<l.length):(uj l)[k]? = some ((Sr.cells) l[k]):=by simp [uj,h]
theorem gW {l:List Sr} (h:k<l.length):uj l≠[]:=by intro e;have:=congrArg List.length e;rw [cy] at this;simp at this;subst this;simp at h
theorem Ie (l:List Sr):∀ r∈uj l,r.length=2:=fun r hr=>by obtain ⟨x,_,rfl⟩:=Zw.1 hr;rfl
theorem Fg (l:List Sr):∀ r∈uj l,∀ u∈r,u.oneCell'=true:=fun r hr=>by obtain ⟨x,_,rfl⟩:=Zw.1 hr;exact aU rfl (aU rfl (eS))
theorem Ff (l:List Sr):(mw l).length=l.length*2:=by unfold mw;rw [gj (Ie l),cy]
theorem M9 (a b:List Sr):mw (a++b)=mw a++mw b:=by unfold mw uj;rw [Zz,Zab]
theorem BO {l:List Sr} (h:k<l.length):mw (l.take (k+1))=mw (l.take k)++(Sr.cells) l[k]:=by rw [Zn h,M9];unfold mw uj;simp
theorem df {c:Cx} {hs hs':List bh} {l:List Sr} {E:TypeId} (hm:Mem c hs w) (ht:Take hs (row E 2 v n (mw l)) hs') (hn:l.length=n):Rd w v 2 (uj l):=hm.qm ht I (Ie l) (by rw [cy,hn])
def De.cells (x:De):List Value:=[.string x.nm,.q x.mx,.bool x.pr]
def ue (l:List De):List (List Value):=l.map De.cells
def j5 (l:List De):List Value:=(ue l).flatten
theorem bZ (l:List De):(ue l).length=l.length:=by simp [ue]
theorem fq {l:List De} (h:k<l.length):(ue l)[k]? = some ((De.cells) l[k]):=by simp [ue,h]
theorem gI {l:List De} (h:k<l.length):ue l≠[]:=by intro e;have:=congrArg List.length e;rw [bZ] at this;simp at this;subst this;simp at h
theorem ED (l:List De):∀ r∈ue l,r.length=3:=fun r hr=>by obtain ⟨x,_,rfl⟩:=Zw.1 hr;rfl
theorem F6 (l:List De):∀ r∈ue l,∀ u∈r,u.oneCell'=true:=fun r hr=>by obtain ⟨x,_,rfl⟩:=Zw.1 hr;exact aU rfl (aU rfl (aU rfl (eS)))
theorem u6 (l:List De):(j5 l).length=l.length*3:=by unfold j5;rw [gj (ED l),bZ]
theorem F5 (a b:List De):j5 (a++b)=j5 a++j5 b:=by unfold j5 ue;rw [Zz,Zab]
theorem CN {l:List De} (h:k<l.length):j5 (l.take (k+1))=j5 (l.take k)++(De.cells) l[k]:=by rw [Zn h,F5];unfold j5 ue;simp
theorem di {c:Cx} {hs hs':List bh} {l:List De} {E:TypeId} (hm:Mem c hs w) (ht:Take hs (row E 3 v n (j5 l)) hs') (hn:l.length=n):Rd w v 3 (ue l):=hm.qm ht I (ED l) (by rw [bZ,hn])
def Ti.cells (x:Ti):List Value:=[.string x.nm,.q x.fr,.q x.to]
def tE (l:List Ti):List (List Value):=l.map Ti.cells
def nN (l:List Ti):List Value:=(tE l).flatten
theorem bU (l:List Ti):(tE l).length=l.length:=by simp [tE]
theorem ed {l:List Ti} (h:k<l.length):(tE l)[k]? = some ((Ti.cells) l[k]):=by simp [tE,h]
theorem eV {l:List Ti} (h:k<l.length):tE l≠[]:=by intro e;have:=congrArg List.length e;rw [bU] at this;simp at this;subst this;simp at h
theorem H7 (l:List Ti):∀ r∈tE l,r.length=3:=fun r hr=>by obtain ⟨x,_,rfl⟩:=Zw.1 hr;rfl
theorem E9 (l:List Ti):∀ r∈tE l,∀ u∈r,u.oneCell'=true:=fun r hr=>by obtain ⟨x,_,rfl⟩:=Zw.1 hr;exact aU rfl (aU rfl (aU rfl (eS)))
theorem E8 (l:List Ti):(nN l).length=l.length*3:=by unfold nN;rw [gj (H7 l),bU]
theorem MX (a b:List Ti):nN (a++b)=nN a++nN b:=by unfold nN tE;rw [Zz,Zab]
theorem BL {l:List Ti} (h:k<l.length):nN (l.take (k+1))=nN (l.take k)++(Ti.cells) l[k]:=by rw [Zn h,MX];unfold nN tE;simp
theorem dd {c:Cx} {hs hs':List bh} {l:List Ti} {E:TypeId} (hm:Mem c hs w) (ht:Take hs (row E 3 v n (nN l)) hs') (hn:l.length=n):Rd w v 3 (tE l):=hm.qm ht I (H7 l) (by rw [bU,hn])
def Po.cells (x:Po):List Value:=[.q x.lv,.string x.ou,.string x.ip]
def sq (l:List Po):List (List Value):=l.map Po.cells
def jb (l:List Po):List Value:=(sq l).flatten
theorem cO (l:List Po):(sq l).length=l.length:=by simp [sq]
theorem iK {l:List Po} (h:k<l.length):(sq l)[k]? = some ((Po.cells) l[k]):=by simp [sq,h]
theorem kE {l:List Po} (h:k<l.length):sq l≠[]:=by intro e;have:=congrArg List.length e;rw [cO] at this;simp at this;subst this;simp at h
theorem IW (l:List Po):∀ r∈sq l,r.length=3:=fun r hr=>by obtain ⟨x,_,rfl⟩:=Zw.1 hr;rfl
theorem Aq (l:List Po):∀ r∈sq l,∀ u∈r,u.oneCell'=true:=fun r hr=>by obtain ⟨x,_,rfl⟩:=Zw.1 hr;exact aU rfl (aU rfl (aU rfl (eS)))
theorem jz (l:List Po):(jb l).length=l.length*3:=by unfold jb;rw [gj (IW l),cO]
theorem Ny (a b:List Po):jb (a++b)=jb a++jb b:=by unfold jb sq;rw [Zz,Zab]
theorem Cj {l:List Po} (h:k<l.length):jb (l.take (k+1))=jb (l.take k)++(Po.cells) l[k]:=by rw [Zn h,Ny];unfold jb sq;simp
theorem c7 {c:Cx} {hs hs':List bh} {l:List Po} {E:TypeId} (hm:Mem c hs w) (ht:Take hs (row E 3 v n (jb l)) hs') (hn:l.length=n):Rd w v 3 (sq l):=hm.qm ht I (IW l) (by rw [cO,hn])
def ie (l:List ByteArray):List (List Value):=l.map fun s=>[.string s]
def aO (l:List ByteArray):List Value:=l.map Value.string
theorem cu (l:List ByteArray):(ie l).length=l.length:=by simp [ie]
theorem jf {l:List ByteArray} (h:k<l.length):(ie l)[k]? = some [.string l[k]]:=by simp [ie,h]
theorem lk {l:List ByteArray} (h:k<l.length):ie l≠[]:=by intro e;have:=congrArg List.length e;rw [cu] at this;simp at this;subst this;simp at h
theorem H9 (l:List ByteArray):∀ r∈ie l,r.length=1:=fun r hr=>by obtain ⟨x,_,rfl⟩:=Zw.1 hr;rfl
theorem zW (l:List ByteArray):∀ r∈ie l,∀ u∈r,u.oneCell'=true:=fun r hr=>by obtain ⟨x,_,rfl⟩:=Zw.1 hr;exact aU rfl eS
theorem q6 (l:List ByteArray):aO l=(ie l).flatten:=by
 induction l with
 | nil=>rfl
 | cons x l ih=>show [Value.string x]++aO l=_;rw [ih];rfl
theorem dj (l:List ByteArray):(aO l).length=l.length:=by simp [aO]
theorem fg (a b:List ByteArray):aO (a++b)=aO a++aO b:=by simp [aO]
theorem dA {c:Cx} {hs hs':List bh} {l:List ByteArray} {E:TypeId} (hm:Mem c hs w) (ht:Take hs (row E 1 v n (aO l)) hs') (hn:l.length=n):Rd w v 1 (ie l):=hm.qm ht (q6 l) (H9 l) (by rw [cu,hn])
structure RR (w:World) (r:Ro) (s d t p:Value):Prop where
 sr:Rd w s 2 (uj r.sr)
 de:Rd w d 3 (ue r.de)
 ti:Rd w t 3 (tE r.ti)
 po:Rd w p 3 (sq r.po)
theorem RR.keeps {w w':World} {r:Ro} {s d t p:Value} (h:RR w r s d t p) (hk:aH [] w w'):RR w' r s d t p:=⟨h.sr.keeps hk,h.de.keeps hk,h.ti.keeps hk,h.po.keeps hk⟩
def RA (r:Ro) (s d t p:Value):Value:=.agg #[.q r.lv,.q r.ma,s,d,t,p]
abbrev JQ (b:Nat) (r:Ro) (s d t p:Value):bh:=bA b (.cells #[.q r.lv,.q r.ma,s,d,t,p] 27 (0,0))
abbrev JP (b:Nat) (r:Ro) (s d t p:Value):bh:=bA b (.cells #[.q r.lv,.q r.ma,s,d,t,p] 41 (0,0))
abbrev J1 (r:Ro) (v:Value):bh:=row 186 2 v r.sr.length (mw r.sr)
abbrev J2 (r:Ro) (v:Value):bh:=row 90 3 v r.de.length (j5 r.de)
abbrev J3 (r:Ro) (v:Value):bh:=row 187 3 v r.ti.length (nN r.ti)
abbrev J4 (r:Ro) (v:Value):bh:=row 188 3 v r.po.length (jb r.po)
abbrev JW (v:Value) (l:List ByteArray):bh:=row 9 1 v l.length (aO l)
end Go.Proofs.A1
namespace Go.SL
open Go
def Mb (As:List bh):bh where
 sat h fp:=cA h As fp
 loc:=fun hs hb=>hs.loc hb
 own:=fun hs b hb=>hs.own b hb
def gz (E:TypeId):List Value->List (List Value)->List bh
 | v::vs,x::xs=>row E 1 v x.length x::gz E vs xs
 | _,_=>[]
def nu (E:TypeId) (vs:List Value) (xs:List (List Value)):bh:=Mb (gz E vs xs)
theorem yV {E:TypeId} {v:Value} {x:List Value}:∀ {vs:List Value} {xs:List (List Value)} {j:Nat},vs[j]? = some v->xs[j]? = some x->∃ r,Take (gz E vs xs) (row E 1 v x.length x) r
 | [],_,j,h,_=>by simp at h
 | _::_,[],j,_,h=>by simp at h
 | v' :: vs, x' :: xs, 0, h1, h2 => by
  simp only [Zaz,Option.some.injEq] at h1 h2;subst h1 h2;exact ⟨_,.here⟩
 | v' :: vs, x' :: xs, j + 1, h1, h2 => by
  simp only [Zba] at h1 h2;obtain ⟨r,hr⟩:=yV h1 h2;exact ⟨_,.there hr⟩
theorem yW {E:TypeId} {v:Value} {x:List Value}:∀ {vs:List Value} {xs:List (List Value)},vs.length=xs.length->gz E (vs++[v]) (xs++[x])=gz E vs xs++[row E 1 v x.length x]
 | [],[],_=>rfl
 | [],_::_,h=>by simp at h
 | _::_,[],h=>by simp at h
 | v' :: vs, x' :: xs, h => by
  simp only [ZL,Nat.add_right_cancel_iff] at h;simp only [Zb,gz,yW h]
theorem Mem.DW {c:Cx} {hs hs':List bh} {w:World} {E:TypeId} {vs:List Value} {xs:List (List Value)} {j:Nat} {v:Value} {x:List Value} (hm:Mem c hs w) (ht:Take hs (nu E vs xs) hs') (hv:vs[j]? = some v) (hx:xs[j]? = some x):Rd w v 1 (x.map fun u=>[u]):=by
 obtain ⟨k,fp,hn,⟨f1,f2,rfl,h1,h2⟩,hb⟩:=hm.take ht;have mr:Mem c (gz E vs xs++hs') w:=⟨k,f1++f2,hn,cA.append_iff.2 ⟨f1,f2,I,h1,h2⟩,hb⟩;obtain ⟨r,hr⟩:=yV (E:=E) hv hx;exact mr.QX (hr.append hs') I
section
variable {P:Program} {r:Option Nat} {c:Cx} {D:List Nat} {sl:aD} {hs hs':List bh} {X:Act->World->Prop} {Q:Exit->Act->World->Prop} {ι:Type}
variable {ops:Array Oper} {d:Nat} {ty:TypeId} {pos:String} {af:Array Edge} {rest:List Oper}
theorem nj {E:TypeId} {vs:List Value} {xs:List (List Value)} {v:Value} {x:List Value} {n:Nat} {h1 h2:List bh} (ht:Take hs (nu E vs xs) h1) (ht2:Take h1 (row E 1 v n x) h2) (hn:n=x.length) (hl:vs.length=xs.length)
  (k:Tr c D sl (nu E (vs++[v]) (xs++[x])::h2) X):Tr c D sl hs X:=fun a w bj=>by
 subst hn;have hT:bK hs [nu E vs xs,row E 1 v x.length x] h2:=.cons ht (.cons ht2 .nil);have hm:=bj.mem.jo (hT.append (mN D));obtain ⟨kk,fp,uW,⟨f1,f2',rfl,g1,⟨f2,f3,rfl,g2,g3⟩⟩,hb⟩:=hm;refine k a w (bj.heap ⟨kk,(f1++f2)++f3,by rw [Zh];exact uW,⟨f1++f2,f3,I,?_,g3⟩,by rw [Zh];exact hb⟩);show cA (hp w) (gz E (vs++[v]) (xs++[x])) (f1++f2);rw [yW hl];exact cA.append_iff.2 ⟨f1,f2,I,g1,⟨f2,[],by simp,g2,I⟩⟩
theorem lj (E:TypeId) (k:Tr c D sl (nu E [] []::hs) X):Tr c D sl hs X:=fun a w bj=>
 k a w (bj.heap (Mem.change (As := []) (Bs := [nu E [] []]) bj.mem fun fp _ hf => by
  rw [show fp=[] from hf];exact ⟨.refl _ _,[],Zah,⟨[],[],I,I,I⟩,by simp⟩))
variable {As:List bh}
theorem yy (ht:Take hs (Mb As) hs') (k:Tr c D sl (As++hs') X):Tr c D sl hs X:=fun a w bj=>by
 obtain ⟨kk,fp,hn,⟨f1,f2,rfl,h1,h2⟩,hb⟩:=bj.mem.take (ht.append _);exact k a w (bj.heap ⟨kk,f1++f2,hn,by rw [Zh];exact cA.append_iff.2 ⟨f1,f2,I,h1,h2⟩,hb⟩)
theorem sE (ht:bK hs As hs') (k:Tr c D sl (Mb As::hs') X):Tr c D sl hs X:=fun a w bj=>by
 obtain ⟨kk,fp,hn,gY,hb⟩:=bj.mem.jo (ht.append (mN D));obtain ⟨f1,f2,rfl,h1,h2⟩:=cA.append_iff.1 gY;exact k a w (bj.heap ⟨kk,f1++f2,hn,⟨f1,f2,I,h1,h2⟩,hb⟩)
theorem fW {op:Op} {f:FuncId} {args:List Value} {Φ:ι->Prop} {val:ι->Value} {own:ι->List bh} (hr:lR P sl ⟨some d,op,ty,pos,af,none⟩ f args) (hd:Nat.blt d c.nt=true) (ht:bK hs As hs')
  (hc:∀ w fp,Mem c hs w->fp.Nodup->cA (hp w) As fp->(∀ b∈fp,b∈c.md\/c.w0.heap.size<=b)->(∀ b o h2,Take hs' (bA b o) h2->b ∉ fp)->bB P f args w fp Φ val own)
  (k:∀ x,Φ x->Tr c D ((d,val x)::sl) (own x++hs') (WL P r ops Q rest)):Tr c D sl hs (WL P r ops Q (⟨some d,op,ty,pos,af,none⟩::rest)):=fun a w bj=>by
 have hm:=bj.mem.jo (ht.append (mN D));obtain ⟨kk,fp,hn,gY,hb⟩:=hm;obtain ⟨f1,f2,rfl,h1,h2⟩:=cA.append_iff.1 gY;obtain ⟨n1,n2,n12⟩:=Zx.1 hn;have kY:∀ b o h3,Take hs' (bA b o) h3->b ∉ f1:=fun b o h3 htk Dl=>by
  obtain ⟨g1,g2,⟨e1,_⟩,_,hp⟩:=cA.take (htk.append (mN D)) h2;have:b∈f2:=hp.mem_iff.2 (ZD _ (by rw [e1];simp));exact n12 b Dl b this I
 refine zI I hr bj.dh (hc w f1 bj.rG n1 h1 (fun b dK=>(hb b (ZD _ dK)).symm) kY) fun e w' ⟨x,he,hx,hk,lO,uW,hs',zi⟩=>⟨val x,he,k x hx _ _ ((bj.put (by simpa [Z1] using hd) (val x)).heap ?_)⟩;have aN:∀ b∈f2,b<w.heap.size:=fun b dK=>let ⟨o,ho⟩:=h2.own b dK;ko ho
 rw [Zh];refine ⟨?_,lO++f2,?_,cA.append_iff.2 ⟨lO,f2,I,hs',h2.loc fun b dK=>?_⟩,?_⟩
 ·refine ⟨hk.os.trans kk.os,hk.tape.trans kk.tape,hk.output.trans kk.output,ZZ kk.dr hk.dr,ZZ kk.size hk.size,fun b dK hm=>?_⟩;rw [<- kk.block b dK hm];refine hk.block b (ZaJ dK kk.size) (fun hf=>?_);rcases hb b (ZD _ hf) with h | h
  ·omega
  ·exact hm h
 ·refine Zx.2 ⟨uW,n2,fun x hx y hy e=>?_⟩;subst e;rcases zi x hx with h | h
  ·exact n12 x h x hy I
  ·have:=aN x hy;omega
 ·exact hk.block b (aN b dK) (fun hf=>n12 b hf b dK I)
 ·intro b dK;rcases Zq.1 dK with h | h
  ·rcases zi b h with h | h
   ·exact hb b (ZD _ h)
   ·exact .inl (ZZ kk.size h)
  ·exact hb b (ZM _ h)
end
end Go.SL
namespace Go.Proofs.A1
open Go Go.SL
open Tryz
open Tryz renaming prog->T_
def gH {α:Type} (p:α->Bool) (l:List α):Int:=((List.range l.length).find? fun i=>(l[i]?.map p).getD false).elim (-1) (fun i=>(i:Int))
theorem gG {α:Type} {p:α->Bool} {l:List α} {k:Nat} (h:∀ i,i<k->(l[i]?.map p).getD false=false) (hk:k<l.length) (hp:p l[k]=true):gH p l=k:=by
 unfold gH;have:(List.range l.length).find? (fun i=>(l[i]?.map p).getD false)=some k:=by
  rw [List.find?_range_eq_some];exact ⟨by simp [hk,hp],by simpa using hk,fun i hi=>by simpa using h i hi⟩
 rw [this];rfl
theorem fL {α:Type} {p:α->Bool} {l:List α} (h:∀ i,i<l.length->(l[i]?.map p).getD false=false):gH p l = -1:=by
 unfold gH;have:(List.range l.length).find? (fun i=>(l[i]?.map p).getD false)=none:=by
  rw [ZaM];intro i hi;simp [h i (ZU.1 hi)]
 rw [this];rfl
theorem kl {α:Type} (p:α->Bool) (l:List α):decide (0<=gH p l)=l.any p:=by
 unfold gH;cases h:(List.range l.length).find? fun i=>(l[i]?.map p).getD false with
 | none =>
  have:l.any p=false:=by
   rw [Zap];intro x hx;obtain ⟨i,hi,rfl⟩:=Zu hx;have:=ZaM.1 h i (ZU.2 hi);simpa [hi] using this
  rw [this];rfl
 | some i =>
  have h1:=ZU.1 (List.mem_of_find?_eq_some h);have h2:=List.find?_some h;have:l.any p=true:=by
   rw [ZR];exact ⟨l[i],Zj h1,by simpa [h1] using h2⟩
  rw [this];simp
variable {cap:List Value} {f:FuncId} {first:List Value} {lv:Value}
theorem FG {l:List Sr} {p:Sr->Bool} [bQ T_ f] {w:World} (h:Rd w lv 2 (uj l)) (cG:∀ x∈l,∀ w',aH [] w w'->ao T_ f (first++[.agg x.cells.toArray]++cap) w' (.bool (p x))) :
  ao T_ 263 [lv,.func (.func f) first.toArray cap.toArray] w (.q (gH p l)):=by
 obtain ⟨a,cp,b,o,rfl,dD,cr,ha,hc⟩:=h;rw [cy] at *;unfold maxLen at cr;refine ak func263 I I ?_;refine Jr<|Ja I<|Jn<|Jq<|Jr<|Jv I<|JI I<|Jv I<|Jn<|J0 ?_;refine bd (fun k:Nat=>k<=l.length/\∀ i,i<k->(l[i]?.map p).getD false=false) (fun k=>[(8,.int .i64 k),(7,.int .i64 l.length),(0,.slice a l.length cp),(1,.func (.func f) first.toArray cap.toArray)]) (fun _=>[]) (fun k=>l.length-k) ?_ ?_
 ·apply aJ 0 ⟨Zi _,fun i h=>by omega⟩
  case hs1=>exact cB
  case ht=>(try simp only [Ze,Zf,Za]);exact .nil
 rintro k ⟨hk,hf⟩;by_cases aN:k<l.length
 ·have c8:=ha (gW aN);have aG:=(hc k _ (fG aN)).2;have iE:=cG _ (Zj aN);have hps:(l[k]?.map p).getD false=p l[k]:=by simp [aN]
  unfold Sr.cells at aG iE
  (refine Jr<|JA I<|Jn<|Jq<|Jd I fun aA=>Jk<|Jq<|J0<|Jr<|Jv I<|Ja I<|Ji<|Jv I<|Jv I<|Jv I<|ab (gr c8 aA) I<|ab (iD (eO.base aG I)) I<|aj bS I (fun w' az=>(iE w' (Mem.keeps az)))<|Jn<|oq I (fun aA=>?_) fun aA=>?_;refine Jr<|Jv I<|Ja I<|Jn<|Je<|Jm<|Jh<|Jh<|Jm<|Jh<|JT ?_;rotate_left;refine Jw<|Jj<|Jt<|Jg<|JB I (by omega)<|Jv I<|Jn ?_;rotate_right)
  ·rw [gG hf aN aA]
  ·apply aI (k+1) ⟨by omega,fun i hi=>by
    by_cases e:i=k
    ·rw [e,hps];exact aA
    ·exact hf i (by omega)⟩ (by omega)
   case hs1=>exact cB
   case ht=>(try simp only [Ze,Zf,Za]);exact .nil
 ·obtain rfl:k=l.length:=by omega
  refine Jr<|JA I<|Jn<|Jq<|Jc I fun aA=>Jp<|Jl<|Jo<|Jt<|Jr<|Ja I<|Jn<|Je<|JT ?_;rw [fL hf]
theorem Ou {l:List Sr} {p:Sr->Bool} [bQ T_ f] {w:World} (h:Rd w lv 2 (uj l)) (cG:∀ x∈l,∀ w',aH [] w w'->ao T_ f (first++[.agg x.cells.toArray]++cap) w' (.bool (p x))) :
  ao T_ 227 [lv,.func (.func f) first.toArray cap.toArray] w (.bool (l.any p)):=by
 have iE:∀ w',aH [] w w'->ao T_ 263 [lv,.func (.func f) first.toArray cap.toArray] w' (.q (gH p l)):=fun w' hk=>
  FG (h.keeps hk) fun x hx w2 eL=>cG x hx w2 (hk.trans eL)
 rw [<- kl];refine ak func227 I I ?_
 (refine Jr<|Ja I<|Ji<|Jv I<|Jv I<|aj bo I (fun w' az=>(iE w' (Mem.keeps az)))<|JG I<|Ja I<|Jn<|Je<|JT ?_)
 rfl
theorem N4 {l:List De} {p:De->Bool} [bQ T_ f] {w:World} (h:Rd w lv 3 (ue l)) (cG:∀ x∈l,∀ w',aH [] w w'->ao T_ f (first++[.agg x.cells.toArray]++cap) w' (.bool (p x))) :
  ao T_ 242 [lv,.func (.func f) first.toArray cap.toArray] w (.q (gH p l)):=by
 obtain ⟨a,cp,b,o,rfl,dD,cr,ha,hc⟩:=h;rw [bZ] at *;unfold maxLen at cr;refine ak func242 I I ?_;refine Jr<|Ja I<|Jn<|Jq<|Jr<|Jv I<|JI I<|Jv I<|Jn<|J0 ?_;refine bd (fun k:Nat=>k<=l.length/\∀ i,i<k->(l[i]?.map p).getD false=false) (fun k=>[(8,.int .i64 k),(7,.int .i64 l.length),(0,.slice a l.length cp),(1,.func (.func f) first.toArray cap.toArray)]) (fun _=>[]) (fun k=>l.length-k) ?_ ?_
 ·apply aJ 0 ⟨Zi _,fun i h=>by omega⟩
  case hs1=>exact cB
  case ht=>(try simp only [Ze,Zf,Za]);exact .nil
 rintro k ⟨hk,hf⟩;by_cases aN:k<l.length
 ·have c8:=ha (gI aN);have aG:=(hc k _ (fq aN)).2;have iE:=cG _ (Zj aN);have hps:(l[k]?.map p).getD false=p l[k]:=by simp [aN]
  unfold De.cells at aG iE
  (refine Jr<|JA I<|Jn<|Jq<|Jd I fun aA=>Jk<|Jq<|J0<|Jr<|Jv I<|Ja I<|Ji<|Jv I<|Jv I<|Jv I<|ab (gr c8 aA) I<|ab (iD (eO.base aG I)) I<|aj bS I (fun w' az=>(iE w' (Mem.keeps az)))<|Jn<|oq I (fun aA=>?_) fun aA=>?_;refine Jr<|Jv I<|Ja I<|Jn<|Je<|Jm<|Jh<|Jh<|Jm<|Jh<|JT ?_;rotate_left;refine Jw<|Jj<|Jt<|Jg<|JB I (by omega)<|Jv I<|Jn ?_;rotate_right)
  ·rw [gG hf aN aA]
  ·apply aI (k+1) ⟨by omega,fun i hi=>by
    by_cases e:i=k
    ·rw [e,hps];exact aA
    ·exact hf i (by omega)⟩ (by omega)
   case hs1=>exact cB
   case ht=>(try simp only [Ze,Zf,Za]);exact .nil
 ·obtain rfl:k=l.length:=by omega
  refine Jr<|JA I<|Jn<|Jq<|Jc I fun aA=>Jp<|Jl<|Jo<|Jt<|Jr<|Ja I<|Jn<|Je<|JT ?_;rw [fL hf]
theorem N2 {l:List Ti} {p:Ti->Bool} [bQ T_ f] {w:World} (h:Rd w lv 3 (tE l)) (cG:∀ x∈l,∀ w',aH [] w w'->ao T_ f (first++[.agg x.cells.toArray]++cap) w' (.bool (p x))) :
  ao T_ 246 [lv,.func (.func f) first.toArray cap.toArray] w (.q (gH p l)):=by
 obtain ⟨a,cp,b,o,rfl,dD,cr,ha,hc⟩:=h;rw [bU] at *;unfold maxLen at cr;refine ak func246 I I ?_;refine Jr<|Ja I<|Jn<|Jq<|Jr<|Jv I<|JI I<|Jv I<|Jn<|J0 ?_;refine bd (fun k:Nat=>k<=l.length/\∀ i,i<k->(l[i]?.map p).getD false=false) (fun k=>[(8,.int .i64 k),(7,.int .i64 l.length),(0,.slice a l.length cp),(1,.func (.func f) first.toArray cap.toArray)]) (fun _=>[]) (fun k=>l.length-k) ?_ ?_
 ·apply aJ 0 ⟨Zi _,fun i h=>by omega⟩
  case hs1=>exact cB
  case ht=>(try simp only [Ze,Zf,Za]);exact .nil
 rintro k ⟨hk,hf⟩;by_cases aN:k<l.length
 ·have c8:=ha (eV aN);have aG:=(hc k _ (ed aN)).2;have iE:=cG _ (Zj aN);have hps:(l[k]?.map p).getD false=p l[k]:=by simp [aN]
  unfold Ti.cells at aG iE
  (refine Jr<|JA I<|Jn<|Jq<|Jd I fun aA=>Jk<|Jq<|J0<|Jr<|Jv I<|Ja I<|Ji<|Jv I<|Jv I<|Jv I<|ab (gr c8 aA) I<|ab (iD (eO.base aG I)) I<|aj bS I (fun w' az=>(iE w' (Mem.keeps az)))<|Jn<|oq I (fun aA=>?_) fun aA=>?_;refine Jr<|Jv I<|Ja I<|Jn<|Je<|Jm<|Jh<|Jh<|Jm<|Jh<|JT ?_;rotate_left;refine Jw<|Jj<|Jt<|Jg<|JB I (by omega)<|Jv I<|Jn ?_;rotate_right)
  ·rw [gG hf aN aA]
  ·apply aI (k+1) ⟨by omega,fun i hi=>by
    by_cases e:i=k
    ·rw [e,hps];exact aA
    ·exact hf i (by omega)⟩ (by omega)
   case hs1=>exact cB
   case ht=>(try simp only [Ze,Zf,Za]);exact .nil
 ·obtain rfl:k=l.length:=by omega
  refine Jr<|JA I<|Jn<|Jq<|Jc I fun aA=>Jp<|Jl<|Jo<|Jt<|Jr<|Ja I<|Jn<|Je<|JT ?_;rw [fL hf]
theorem AU {l:List Ti} {p:Ti->Bool} [bQ T_ f] {w:World} (h:Rd w lv 3 (tE l)) (cG:∀ x∈l,∀ w',aH [] w w'->ao T_ f (first++[.agg x.cells.toArray]++cap) w' (.bool (p x))) :
  ao T_ 159 [lv,.func (.func f) first.toArray cap.toArray] w (.bool (l.any p)):=by
 have iE:∀ w',aH [] w w'->ao T_ 246 [lv,.func (.func f) first.toArray cap.toArray] w' (.q (gH p l)):=fun w' hk=>
  N2 (h.keeps hk) fun x hx w2 eL=>cG x hx w2 (hk.trans eL)
 rw [<- kl];refine ak func159 I I ?_
 (refine Jr<|Ja I<|Ji<|Jv I<|Jv I<|aj bo I (fun w' az=>(iE w' (Mem.keeps az)))<|JG I<|Ja I<|Jn<|Je<|JT ?_)
 rfl
theorem AL {l:List Po} {p:Po->Bool} [bQ T_ f] {w:World} (h:Rd w lv 3 (sq l)) (cG:∀ x∈l,∀ w',aH [] w w'->ao T_ f (first++[.agg x.cells.toArray]++cap) w' (.bool (p x))) :
  ao T_ 297 [lv,.func (.func f) first.toArray cap.toArray] w (.q (gH p l)):=by
 obtain ⟨a,cp,b,o,rfl,dD,cr,ha,hc⟩:=h;rw [cO] at *;unfold maxLen at cr;refine ak func297 I I ?_;refine Jr<|Ja I<|Jn<|Jq<|Jr<|Jv I<|JI I<|Jv I<|Jn<|J0 ?_;refine bd (fun k:Nat=>k<=l.length/\∀ i,i<k->(l[i]?.map p).getD false=false) (fun k=>[(8,.int .i64 k),(7,.int .i64 l.length),(0,.slice a l.length cp),(1,.func (.func f) first.toArray cap.toArray)]) (fun _=>[]) (fun k=>l.length-k) ?_ ?_
 ·apply aJ 0 ⟨Zi _,fun i h=>by omega⟩
  case hs1=>exact cB
  case ht=>(try simp only [Ze,Zf,Za]);exact .nil
 rintro k ⟨hk,hf⟩;by_cases aN:k<l.length
 ·have c8:=ha (kE aN);have aG:=(hc k _ (iK aN)).2;have iE:=cG _ (Zj aN);have hps:(l[k]?.map p).getD false=p l[k]:=by simp [aN]
  unfold Po.cells at aG iE
  (refine Jr<|JA I<|Jn<|Jq<|Jd I fun aA=>Jk<|Jq<|J0<|Jr<|Jv I<|Ja I<|Ji<|Jv I<|Jv I<|Jv I<|ab (gr c8 aA) I<|ab (iD (eO.base aG I)) I<|aj bS I (fun w' az=>(iE w' (Mem.keeps az)))<|Jn<|oq I (fun aA=>?_) fun aA=>?_;refine Jr<|Jv I<|Ja I<|Jn<|Je<|Jm<|Jh<|Jh<|Jm<|Jh<|JT ?_;rotate_left;refine Jw<|Jj<|Jt<|Jg<|JB I (by omega)<|Jv I<|Jn ?_;rotate_right)
  ·rw [gG hf aN aA]
  ·apply aI (k+1) ⟨by omega,fun i hi=>by
    by_cases e:i=k
    ·rw [e,hps];exact aA
    ·exact hf i (by omega)⟩ (by omega)
   case hs1=>exact cB
   case ht=>(try simp only [Ze,Zf,Za]);exact .nil
 ·obtain rfl:k=l.length:=by omega
  refine Jr<|JA I<|Jn<|Jq<|Jc I fun aA=>Jp<|Jl<|Jo<|Jt<|Jr<|Ja I<|Jn<|Je<|JT ?_;rw [fL hf]
theorem Ov {l:List Po} {p:Po->Bool} [bQ T_ f] {w:World} (h:Rd w lv 3 (sq l)) (cG:∀ x∈l,∀ w',aH [] w w'->ao T_ f (first++[.agg x.cells.toArray]++cap) w' (.bool (p x))) :
  ao T_ 301 [lv,.func (.func f) first.toArray cap.toArray] w (.bool (l.any p)):=by
 have iE:∀ w',aH [] w w'->ao T_ 297 [lv,.func (.func f) first.toArray cap.toArray] w' (.q (gH p l)):=fun w' hk=>
  AL (h.keeps hk) fun x hx w2 eL=>cG x hx w2 (hk.trans eL)
 rw [<- kl];refine ak func301 I I ?_
 (refine Jr<|Ja I<|Ji<|Jv I<|Jv I<|aj bo I (fun w' az=>(iE w' (Mem.keeps az)))<|JG I<|Ja I<|Jn<|Je<|JT ?_)
 rfl
end Go.Proofs.A1
