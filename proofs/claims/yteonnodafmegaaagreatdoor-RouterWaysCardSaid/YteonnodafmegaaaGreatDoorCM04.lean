/- Parts of the proof: GkRegO GkCopy GkZ K2 K3 KZz GkPool K4. -/
import Derived.Test.YteonnodafmegaaaGreatDoorCM03
import Derived.Lib.AppendZerosOnto
import Derived.Test.YteonnodafmegaaaGreatDoorCM01
import Derived.Laws.RangeAny
import Derived.Laws.RangeString
import Derived.Test.YteonnodafmegaaaGreatDoorCM02
set_option linter.unusedSectionVars false
set_option linter.unusedVariables false
set_option linter.unusedSimpArgs false
namespace Go.SL
open Go
inductive Step where
 | rel (R:Rel)
 | new (V:Nat->Value) (ob:Obj)
def Step.r:Step->Rel
 | .rel R=>R
 | .new V ob=>C4 V ob
section
variable {P:Program} {r:Option Nat} {c:Cx} {D:List Nat} {sl jy:aI} {rl kO:eT} {hs:List a8} {Q:Exit->Act->World->Prop} {l:List Oper} {ops:Array Oper} {m:Nat} {S:List Step}
inductive nh (P:Program) (c:Cx) (hs:List a8) (ops:Array Oper):List Oper->aI->eT->List Step->aI->eT->Prop
 | nil {sl:aI} {rl:eT}:nh P c hs ops [] sl rl [] sl rl
 | val {o:Oper} {l:List Oper} {sl jy:aI} {rl kO:eT} {d:Nat} {V:Value} {S:List Step} (hd:o.dst=some d) (fH:d<c.nt) (h:tY P c hs ops sl rl o (.val V)) (t:nh P c hs ops l ((d,V)::sl) rl S jy kO) :
   nh P c hs ops (o::l) sl rl (.rel (.val V)::S) jy kO
 | new {o:Oper} {l:List Oper} {sl jy:aI} {rl kO:eT} {d:Nat} {V:Nat->Value} {ob:Obj} {S:List Step} (hd:o.dst=some d) (fH:d<c.nt) (hn:cJ sl d=none) (hg:o.guard=none)
   (hr:qp P c sl hs o V ob) (t:nh P c hs ops l sl ((d,C4 V ob)::rl) S jy kO):nh P c hs ops (o::l) sl rl (.new V ob::S) jy kO
theorem nh.Tx {sl jy:aI} {rl kO:eT} (h:nh P c hs ops l sl rl S jy kO):th P c hs ops l sl rl (S.map Step.r) jy kO:=by
 induction h with
 | nil=>exact .nil
 | val hd fH h _ ih=>exact .val hd fH h ih
 | @new o l sl jy rl kO d V ob S hd fH hn hg hr _ ih =>
  refine .rel hd fH hn (oF hg fun a w h1 _ h3=>?_) ih;unfold xL;rw [hr.2 a w h1 h3];exact ⟨.alloc _ _ _,w.heap.size,I,World.alloc_heap_new w ob⟩
theorem nh.Sh {sl jy:aI} {rl kO:eT} (h:nh P c hs ops l sl rl S jy kO) :
  ∀ (i : Nat) (o : Oper) (V : Nat -> Value) (ob : Obj), l[i]? = some o -> S[i]? = some (.new V ob) -> ∃ uz, o.guard = none /\ qp P c uz hs o V ob /\
   (∀ t v,cJ uz t=some v->(∃ (j:Nat) (oj:Oper),j<i/\l[j]? = some oj/\oj.dst=some t/\(S.map Step.r)[j]? = some (.val v))\/((∀ (j:Nat) (oj:Oper),j<i->l[j]? = some oj->oj.dst≠some t)/\cJ sl t=some v)):=by
 induction h with
 | nil=>intro i o V ob h;simp at h
 | @val o0 l sl jy rl kO d V0 S hd fH a7 t ih =>
  intro i o V ob ho hS;cases i with
  | zero=>simp at hS
  | succ i =>
   obtain ⟨uz,hg,hr,h1⟩:=ih i o V ob (by simpa using ho) (by simpa using hS);refine ⟨uz,hg,hr,fun t v hv=>?_⟩;rcases h1 t v hv with ⟨j,oj,hj,iZ,iF,jA⟩ | ⟨vP,nn⟩
   ·exact .inl ⟨j+1,oj,by omega,by simpa using iZ,iF,by simpa using jA⟩
   ·by_cases xB:d=t
    ·subst xB;rw [fR] at nn;cases nn;exact .inl ⟨0,o0,by omega,I,hd,I⟩
    ·rw [fQ xB] at nn;refine .inr ⟨fun j oj hj iZ=>?_,nn⟩;cases j with
     | zero=>simp at iZ;subst iZ;rw [hd];simp [xB]
     | succ j=>exact vP j oj (by omega) (by simpa using iZ)
 | @new o0 l sl jy rl kO d V0 ob0 S hd fH hn SG Lz t ih =>
  intro i o V ob ho hS;cases i with
  | zero =>
   simp at ho hS;subst ho;obtain ⟨rfl,rfl⟩:=hS;exact ⟨sl,SG,Lz,fun t v hv=>.inr ⟨fun j _ hj=>by omega,hv⟩⟩
  | succ i =>
   obtain ⟨uz,hg,hr,h1⟩:=ih i o V ob (by simpa using ho) (by simpa using hS);refine ⟨uz,hg,hr,fun t v hv=>?_⟩;rcases h1 t v hv with ⟨j,oj,hj,iZ,iF,jA⟩ | ⟨vP,nn⟩
   ·exact .inl ⟨j+1,oj,by omega,by simpa using iZ,iF,by simpa using jA⟩
   ·have xB:d≠t:=fun e=>by subst e;rw [hn] at nn;cases nn
    refine .inr ⟨fun j oj hj iZ=>?_,nn⟩;cases j with
    | zero=>simp at iZ;subst iZ;rw [hd];simp [xB]
    | succ j=>exact vP j oj (by omega) (by simpa using iZ)
def ri (β:Nat->Nat) (lst:Nat->Bool):List Step->Nat->List a8
 | [],_=>[]
 | .new _ ob::S,i=>if lst i then bC (β i) ob::ri β lst S (i+1) else ri β lst S (i+1)
 | .rel _::S,i=>ri β lst S (i+1)
theorem pA {β β':Nat->Nat} {lst nC:Nat->Bool}:∀ {S:List Step} {i:Nat},(∀ j V ob,S[j]? = some (.new V ob)->lst (i+j)=nC (i+j)/\(lst (i+j)=true->β (i+j)=β' (i+j)))->ri β lst S i=ri β' nC S i
 | [],_,_=>rfl
 | .rel _ :: S, i, h => by
  unfold ri;exact pA fun j V ob hj=>by have:=h (j+1) V ob (by simpa using hj);rwa [show i+(j+1)=i+1+j from by omega] at this
 | .new V ob :: S, i, h => by
  have h0:=h 0 V ob I;have ih:ri β lst S (i+1)=ri β' nC S (i+1):=pA fun j V ob hj=>by have:=h (j+1) V ob (by simpa using hj);rwa [show i+(j+1)=i+1+j from by omega] at this
  simp only [Nat.add_zero] at h0;unfold ri;rw [ih,<- h0.1];by_cases hl:lst i=true
  ·rw [if_pos hl,if_pos hl,h0.2 hl]
  ·rw [if_neg hl,if_neg hl]
theorem AG {β β':Nat->Nat} {lst nC:Nat->Bool} {k b:Nat} {V:Nat->Value} {ob:Obj}:∀ {S:List Step} {i:Nat},S[k]? = some (.new V ob)->lst (i+k)=false->nC (i+k)=true->β' (i+k)=b->(∀ j,j≠i+k->nC j=lst j/\β' j=β j) ->
  (bC b ob::ri β lst S i).Perm (ri β' nC S i)
 | [],_,h,_,_,_,_=>by simp at h
 | .rel _ :: S, i, h, h1, h2, h3, h4 => by
  cases k with
  | zero=>simp at h
  | succ k =>
   unfold ri;refine AG (k:=k) (V:=V) (by simpa using h) ?_ ?_ ?_ ?_
   all_goals rw [show i+1+k=i+(k+1) from by omega];assumption
 | .new V0 ob0 :: S, i, h, h1, h2, h3, h4 => by
  cases k with
  | zero =>
   simp at h;obtain ⟨rfl,rfl⟩:=h;have e:ri β lst S (i+1)=ri β' nC S (i+1):=pA fun j V ob hj=>by
    obtain ⟨e1,e2⟩:=h4 (i+1+j) (by omega);exact ⟨e1.symm,fun _=>e2.symm⟩
   simp only [Nat.add_zero] at h1 h2 h3;unfold ri;rw [if_neg (by simp [h1]),if_pos h2,h3,e]
  | succ k =>
   have ih:(bC b ob::ri β lst S (i+1)).Perm (ri β' nC S (i+1)):=by
    refine AG (k:=k) (V:=V) (by simpa using h) ?_ ?_ ?_ ?_
    all_goals rw [show i+1+k=i+(k+1) from by omega];assumption
   obtain ⟨e1,e2⟩:=h4 i (by omega);unfold ri;rw [e1,e2];by_cases hl:lst i=true
   ·rw [if_pos hl,if_pos hl];exact (List.Perm.swap _ _ _).trans (ih.cons _)
   ·rw [if_neg hl,if_neg hl];exact ih
theorem ch.perm {h:Nat->Option Obj} {l1 l2:List a8} (hp:l1.Perm l2):∀ {fp:List Nat},ch h l1 fp->∃ lN,ch h l2 lN/\fp.Perm lN:=by
 induction hp with
 | nil=>intro fp hf;exact ⟨fp,hf,.refl _⟩
 | cons A _ ih =>
  rintro fp ⟨f1,f2,rfl,h1,h2⟩;obtain ⟨g,hg,VO⟩:=ih h2;exact ⟨f1++g,⟨f1,g,I,h1,hg⟩,VO.append_left f1⟩
 | swap A B l =>
  rintro fp ⟨f1,_,rfl,h1,f2,f3,rfl,h2,h3⟩;refine ⟨f2++(f1++f3),⟨f2,f1++f3,I,h2,f1,f3,I,h1,h3⟩,?_⟩;rw [<- Zh,<- Zh];exact List.perm_append_comm.append_right f3
 | trans _ _ ih1 ih2 =>
  intro fp hf;obtain ⟨g,hg,h1⟩:=ih1 hf;obtain ⟨g',hg',h2⟩:=ih2 hg;exact ⟨g',hg',h1.trans h2⟩
theorem Mem.perm {c:Cx} {l1 l2:List a8} {w:World} (h:Mem c l1 w) (hp:l1.Perm l2):Mem c l2 w:=by
 obtain ⟨k,fp,hn,hs,hb⟩:=h;obtain ⟨g,hg,VO⟩:=hs.perm hp;exact ⟨k,g,VO.nodup_iff.1 hn,hg,fun b dD=>hb b (VO.mem_iff.2 dD)⟩
def GQ (c:Cx) (D:List Nat) (hs:List a8) (l:List Oper) (S:List Step) (listed:Array Bool) (a:Act) (w:World):Prop:=
 ∃ β : Nat -> Nat, Mem c (ri β (fun i => listed.getD i false) S 0 ++ (hs ++ mC D)) w /\ (∀ i, c.w0.heap.size <= β i \/ ¬ Ls listed i \/ ∀ V ob, S[i]? ≠ some (.new V ob)) /\
  ∀ (i:Nat) (o:Oper) (d:Nat) (V:Nat->Value) (ob:Obj),l[i]? = some o->o.dst=some d->S[i]? = some (.new V ob)->Ls listed i->a.tmps[d]? = some (V (β i))
theorem MN (hc:Sp l m) (Y6:nh P c hs l.toArray (l.take m) sl [] S jy kO) {a0:Act} (h0:bS sl a0) (Gm:a0.tmps.size=c.nt)
  (tail:∀ listed a w,(∀ i,i<m->Ls listed i)->St c D jy hs a w->GQ c D hs (l.take m) S listed a w->WL P r l.toArray Q (l.drop m) a w) :
  ∀ (fuel:Nat) (listed:Array Bool) (a:Act) (w:World),Inv1 c D hs l m (S.map Step.r) a0 fuel listed a w->GQ c D hs (l.take m) S listed a w->wpAnyIn (FR r) 0 P .any l.toArray Q fuel listed a w:=by
 have hp:=Y6.Tx;have rW:=hp.end_;have dI:∀ (j:Nat) (o:Oper),j<m->l[j]? = some o->(l.take m)[j]? = some o:=fun j o hj ho=>by rw [List.getElem?_take,if_pos hj];exact ho
 have eZ:∀ (j:Nat) (o:Oper),(l.take m)[j]? = some o->j<m/\l[j]? = some o:=fun j o ho=>by
  rw [List.getElem?_take] at ho;split at ho
  ·exact ⟨by assumption,ho⟩
  ·cases ho
 have lk:∀ fuel listed a w,Inv1 c D hs l m (S.map Step.r) a0 fuel listed a w->GQ c D hs (l.take m) S listed a w->(∀ i,i<m->Ls listed i)->wpAnyIn (FR r) 0 P .any l.toArray Q fuel listed a w:=by
  intro fuel listed a w hI hO dC;have hL:∀ i,i<l.length->(Ls listed i↔i<m):=fun i _=>⟨fun h=>Nat.lt_of_not_le fun hm=>hI.hi i hm h,dC i⟩
  obtain ⟨U,tS,nX,qm⟩:=hI.left;have gZ:U.Perm (List.range' m (l.length-m)):=by
   rw [List.perm_ext_iff_of_nodup tS (List.nodup_range')];intro i;rw [nX i,List.mem_range'_1];constructor
   ·rintro ⟨h1,h2⟩;exact ⟨Nat.le_of_not_lt fun h=>h2 (dC i h),by omega⟩
   ·rintro ⟨h1,h2⟩;exact ⟨by omega,hI.hi i h1⟩
  have hlen:fuel=l.length-m:=by rw [<- qm,gZ.length_eq,List.length_range']
  refine Dc hc fuel m listed a w (Nat.le_refl _) (by have:=hc.le;omega) hI.sz hL (tail listed a w dC ⟨hI.mem,?_,hI.size,hI.defers⟩ hO)
  ·intro t v hv;rcases rW.1 t v hv with ⟨j,oj,hj,iF,jA⟩ | ⟨vP,nn⟩
   ·obtain ⟨gm,kH⟩:=eZ j oj hj;obtain ⟨u,hu,nQ⟩:=hI.new j oj kH (dC j gm) t _ iF jA;rw [hu,show u=v from nQ]
   ·rw [hI.yF t fun j oj hj iG=>vP j oj (dI j oj (Nat.lt_of_not_le fun hm=>hI.hi j hm iG) hj)]
    exact h0 t v nn
 intro fuel
 induction fuel with
 | zero =>
  intro listed a w hI hO;obtain ⟨U,_,nX,qm⟩:=hI.left;have hU:U=[]:=List.length_eq_zero_iff.1 qm;refine lk 0 listed a w hI hO fun i hi=>Classical.byContradiction fun hn=>?_;have:=(nX i).2 ⟨by have:=hc.le;omega,hn⟩;rw [hU] at this;cases this
 | succ fuel ih =>
  intro listed a w hI hO;by_cases dC:∀ i,i<m->Ls listed i
  ·exact lk _ listed a w hI hO dC
  ·have hex:∃ i,i<m/\¬ Ls listed i:=Classical.byContradiction fun hh=>dC fun i hi=>Classical.byContradiction fun hn=>hh ⟨i,hi,hn⟩
   obtain ⟨i0,pW,mV⟩:=hex;refine ⟨fun hr=>?_,fun i hi=>?_⟩
   ·obtain ⟨i,hi⟩:=iA hI.sz hc.ac ⟨i0,by have:=hc.le;omega,mV⟩;rw [hr] at hi;cases hi
   ·have mz:i<m:=Nat.lt_of_not_le fun hm=>mV (qK hc hI.sz hI.dc hi hm i0 (by omega))
    obtain ⟨o,ho,hn,ko⟩:=(dz hI.sz).1 hi;obtain ⟨uz,Lm,R,RI,eI,hs1,hs2⟩:=hp.at_ i o (dI i o mz ho);obtain ⟨d,R',hd,fH,qB⟩:=rW.2.2 i o (dI i o mz ho);rw [RI] at qB;cases qB;have jJ:∀ (j:Nat),eL o j=true->Ls listed j:=fun j hw=>by
     obtain ⟨e,he,hb,mU⟩:=cH hw;rw [<- mU];exact ko e he hb
    have B3:∀ (j t:Nat) (oj:Oper),j<i->(l.take m)[j]? = some oj->oj.dst=some t->t∈o.looksAt l.toArray->Ls listed j:=by
     intro j t oj hj iZ iF ht;obtain ⟨gm,kH⟩:=eZ j oj iZ;exact jJ j ((cO (lY hc hj mz kH ho) iF hd).2 (.inl ht))
    have Pc:∀ uz:aI,(∀ t v,cJ uz t=some v->(∃ (j:Nat) (oj:Oper),j<i/\(l.take m)[j]? = some oj/\oj.dst=some t/\(S.map Step.r)[j]? = some (.val v))\/((∀ (j:Nat) (oj:Oper),j<i->(l.take m)[j]? = some oj->oj.dst≠some t)/\cJ sl t=some v)) ->
      ∃ a':Act,bS uz a'/\∀ t∈o.looksAt l.toArray,a'.tmps[t]? = a.tmps[t]?:=by
     intro uz hs1;have hT:∀ t∈o.looksAt l.toArray,∀ v,cJ uz t=some v->a.tmps[t]? = some v:=by
      intro t ht v hv;rcases hs1 t v hv with ⟨j,oj,hj,iZ,iF,jA⟩ | ⟨vP,nn⟩
      ·obtain ⟨u,hu,nQ⟩:=hI.new j oj (eZ j oj iZ).2 (B3 j t oj hj iZ iF ht) t _ iF jA;rw [hu,show u=v from nQ]
      ·rw [hI.yF t fun j oj hj iG iF=>?_]
       ·exact h0 t v nn
       ·have gm:j<m:=Nat.lt_of_not_le fun hm=>hI.hi j hm iG
        rcases Nat.lt_trichotomy j i with h | h | h
        ·exact vP j oj h (dI j oj gm hj) iF
        ·subst h;exact hn iG
        ·have hw:=(cO (lY hc h gm ho hj) hd iF).2 (.inr ht);obtain ⟨e,he,hb,mU⟩:=cH hw;have:=hI.dc j oj hj iG e he hb;rw [mU] at this;exact hn this
     have sR:∀ t v,cJ uz t=some v->t<c.nt:=by
      intro t v hv;rcases hs1 t v hv with ⟨j,oj,_,iZ,iF,_⟩ | ⟨_,nn⟩
      ·obtain ⟨d',_,ug,vW,_⟩:=rW.2.2 j oj iZ;rw [iF] at ug;cases ug;exact vW
      ·have:=h0 t v nn;rw [<- Gm];exact (Array.getElem?_eq_some_iff.1 this).1
     obtain ⟨a',kK,iT,_⟩:=mW hI.size sR hT;exact ⟨a',kK,iT⟩
    have nR:∀ (j:Nat) (oj:Oper) (e:Nat),l[j]? = some oj->j<m->j≠i->oj.dst=some e->d≠e:=by
     intro j oj e hj gm hne he;rcases Nat.lt_or_ge j i with h | h
     ·exact fun e'=>(cO (lY hc h mz hj ho) he hd).1 e'.symm
     ·exact (cO (lY hc (show i<j by omega) gm ho hj) hd he).1
    have il:i<listed.size:=by rw [hI.sz];have:=hc.le;omega
    have Ah:mu o=true:=hc.op o (List.mem_of_getElem? ho);have fT:∀ v w',aD [] w w'->R.p v w'->GQ c D hs (l.take m) S (listed.setIfInBounds i true) (a.put o.dst v) w'->wpAnyIn (FR r) 0 P .any l.toArray Q fuel (listed.setIfInBounds i true) (a.put o.dst v) w':=fun v w' hk hv UM=>
     ih _ _ _ (BM hc hc.le hI hi mz ho hd fH RI (fun j oj hj iZ=>let ⟨e,_,he,_⟩:=rW.2.2 j oj (dI j oj hj iZ);⟨e,he⟩) hk hv) UM
    unfold wpOpIn;rw [show l.toArray[i]? = some o from by simpa using ho];simp only [];have qB:∃ st,S[i]? = some st/\st.r=R:=by
     rw [List.getElem?_map] at RI;obtain ⟨st,h1,h2⟩:=Option.map_eq_some_iff.1 RI;exact ⟨st,h1,h2⟩
    obtain ⟨st,qB,a7⟩:=qB;have J6:∀ j,j≠i->(listed.setIfInBounds i true).getD j false=listed.getD j false:=fun j hj=>by
     simp [Array.getD_eq_getD_getElem?,Array.getElem?_setIfInBounds_ne (Ne.symm hj)]
    cases st with
    | new V ob =>
     obtain ⟨sln,hgn,VN,W8⟩:=Y6.Sh i o V ob (dI i o mz ho) qB;obtain ⟨a',kK,iT⟩:=Pc sln W8;have hex:=gR (o:=o) (ops:=l.toArray) Ah iT;have gA:=VN.2 a' w kK hI.mem.lA;rw [if_pos (by simp [Region.wanted,hgn])];refine ⟨dO _ _ _ _ _,?_⟩;rw [Oper.semAt_eq _ _ _ (fun cc he=>by simp [mu,he] at Ah),<- hex,gA]
     refine fT _ _ (.alloc _ _ _) (by rw [<- a7];exact ⟨w.heap.size,I,World.alloc_heap_new w ob⟩) ?_;obtain ⟨β,hm,hb,rf⟩:=hO;refine ⟨fun k=>if k=i then w.heap.size else β k,?_,?_,?_⟩
     ·refine Mem.perm (hm.alloc ob) ((AG (k:=i) (V:=V) qB ?_ ?_ ?_ ?_).append_right _)
      ·rw [Nat.zero_add];show listed.getD i false=false;have:¬ listed.getD i false=true:=hn;simpa using this
      ·rw [Nat.zero_add];exact (bP il).2 (.inl I)
      ·simp
      ·intro j hj;rw [Nat.zero_add] at hj;exact ⟨J6 j hj,by simp [hj]⟩
     ·intro j;by_cases e:j=i
      ·subst e;left;simp;exact hI.mem.keeps.size
      ·rcases hb j with h | h | h
       ·left;simpa [e] using h
       ·right;left;intro h';exact h (((bP il).1 h').resolve_left e)
       ·exact .inr (.inr h)
     ·intro j oj e V' QD hj iF jA iG;by_cases ej:j=i
      ·subst ej;rw [qB] at jA;cases jA;obtain ⟨gm,kH⟩:=eZ j oj hj;rw [ho] at kH;cases kH;rw [hd] at iF;cases iF;rw [hd];simp [Act.put,hI.size,fH]
      ·obtain ⟨gm,kH⟩:=eZ j oj hj;have w7:=((bP il).1 iG).resolve_left ej;have:=rf j oj e V' QD hj iF jA w7;rw [hd];simp only [Act.put,Array.getElem?_setIfInBounds_ne (nR j oj e kH gm ej iF),if_neg ej];exact this
    | rel R0 =>
     have UM:∀ v w',aD [] w w'->GQ c D hs (l.take m) S (listed.setIfInBounds i true) (a.put o.dst v) w':=by
      intro v w' hk;obtain ⟨β,hm,hb,rf⟩:=hO;refine ⟨β,?_,?_,?_⟩
      ·have e:ri β (fun j=>(listed.setIfInBounds i true).getD j false) S 0=ri β (fun j=>listed.getD j false) S 0:=pA fun j V ob hj=>by
        have:j≠i:=fun e=>by subst e;rw [qB] at hj;cases hj
        rw [Nat.zero_add];exact ⟨J6 j this,fun _=>rfl⟩
       rw [e];exact hm.rN hk
      ·intro j;by_cases e:j=i
       ·subst e;right;right;intro V ob h;rw [qB] at h;cases h
       ·rcases hb j with h | h | h
        ·exact .inl h
        ·right;left;intro h';exact h (((bP il).1 h').resolve_left e)
        ·exact .inr (.inr h)
      ·intro j oj e V' QD hj iF jA iG;have ej:j≠i:=fun e=>by subst e;rw [qB] at jA;cases jA
       obtain ⟨gm,kH⟩:=eZ j oj hj;have w7:=((bP il).1 iG).resolve_left ej;have:=rf j oj e V' QD hj iF jA w7;rw [hd];simp only [Act.put,Array.getElem?_setIfInBounds_ne (nR j oj e kH gm ej iF)];exact this
     obtain ⟨a',kK,iT⟩:=Pc uz hs1;have Q6:AK (o.looksAt l.toArray) Lm a' w:=by
      intro t Rt hm ht;rcases hs2 t Rt hm with ⟨j,oj,hj,iZ,iF,jA⟩ | aq
      ·obtain ⟨v,hv,nQ⟩:=hI.new j oj (eZ j oj iZ).2 (B3 j t oj hj iZ iF ht) t _ iF jA;exact ⟨v,by rw [iT t ht];exact hv,nQ⟩
      ·cases aq
     have hq:=eI a' w kK Q6 hI.mem.lA;have hex:=gR (o:=o) (ops:=l.toArray) Ah iT;rw [gn iT] at hq;split
     ·rename_i hw;rw [if_pos hw] at hq;refine ⟨dO _ _ _ _ _,?_⟩;rw [Oper.semAt_eq _ _ _ (fun cc he=>by simp [mu,he] at Ah),<- hex]
      unfold xL at hq
      revert hq
      generalize (execOp a'.eval o).run P w=res;intro hq
      match res,hq with
      | .ok (.value v) w',⟨hk,hv⟩=>exact fT v w' hk hv (UM v w' hk)
      | .ok (.enter f args) w', ⟨e, cn⟩ =>
       subst e;refine ⟨by simp [FR,Fence.wide],(gT cn).mono fun e uZ h=>?_⟩;obtain ⟨v,rfl,hk,hv⟩:=h;exact fT v uZ hk hv (UM v uZ hk)
     ·rename_i hw;rw [if_neg hw] at hq;exact ⟨fun _ _=>trivial,fT undef w (.refl _ _) hq (UM undef w (.refl _ _))⟩
theorem wL {β:Nat->Nat} {lst:Nat->Bool} (h:∀ i,lst i=false):∀ {S:List Step} {i:Nat},ri β lst S i=[]
 | [],_=>rfl
 | .rel _::S,i=>by unfold ri;exact wL h
 | .new _ _::S,i=>by unfold ri;rw [if_neg (by simp [h]),wL h]
theorem xi {id:Nat} (pf:P.follows .mixedOrders=true) (jk:yw l m=true) (hp:nh P c hs l.toArray (l.take m) sl [] S jy kO)
  (tail:∀ listed a w,(∀ i,i<m->Ls listed i)->St c D jy hs a w->GQ c D hs (l.take m) S listed a w->WL P r l.toArray Q (l.drop m) a w):Tr c D sl hs (WP P r (.region id l.toArray true) Q):=fun a w a7=>by
 unfold WP;refine wpIn_region_any pf ?_;refine MN (vp jk) hp a7.cP a7.size tail l.toArray.size _ a _ ⟨by simp,?_,?_,?_,a7.defers,a7.size,fun t _=>rfl,?_,List.range l.length,List.nodup_range,?_,by simp⟩ ?_
 ·exact fun k o _ hL=>absurd hL (ei _ _)
 ·exact fun k _ hL=>ei _ _ hL
 ·exact a7.mem.drew
 ·exact fun j o _ hL=>absurd hL (ei _ _)
 ·exact fun i=>⟨fun h=>⟨by simpa using h,ei _ _⟩,fun h=>by simpa using h.1⟩
 ·refine ⟨fun _=>c.w0.heap.size,?_,fun i=>.inl (Nat.le_refl _),fun i o d V ob _ _ _ hL=>absurd hL (ei _ _)⟩;rw [wL fun i=>by have:=ei l.toArray.size i;unfold Ls at this;simpa using this]
  exact a7.mem.drew
def Ll (β:Nat->Nat):List Oper->List Step->Nat->aI
 | o::l,.new V _::S,i=>(o.dst.getD 0,V (β i))::Ll β l S (i+1)
 | _::l,.rel _::S,i=>Ll β l S (i+1)
 | _,_,_=>[]
theorem zy {β:Nat->Nat}:∀ {l:List Oper} {S:List Step} {i:Nat} {p:Nat×Value},p∈Ll β l S i->∃ (j:Nat) (o:Oper) (V:Nat->Value) (ob:Obj),l[j]? = some o/\S[j]? = some (.new V ob)/\p=(o.dst.getD 0,V (β (i+j)))
 | [],_,_,_,h=>by cases h
 | _::_,[],_,_,h=>by cases h
 | o :: l, .new V ob :: S, i, p, h => by
  unfold Ll at h;rcases List.mem_cons.1 h with h | h
  ·exact ⟨0,o,V,ob,I,I,h⟩
  ·obtain ⟨j,o',V',QD,h1,h2,h3⟩:=zy h;exact ⟨j+1,o',V',QD,by simpa using h1,by simpa using h2,by rw [h3,show i+1+j=i+(j+1) from by omega]⟩
 | o :: l, .rel R :: S, i, p, h => by
  unfold Ll at h;obtain ⟨j,o',V',QD,h1,h2,h3⟩:=zy h;exact ⟨j+1,o',V',QD,by simpa using h1,by simpa using h2,by rw [h3,show i+1+j=i+(j+1) from by omega]⟩
theorem ve {L s:aI} {a:Act} (h:∀ p∈L,a.tmps[p.1]? = some p.2) (hs:bS s a):bS (L++s) a:=by
 induction L with
 | nil=>exact hs
 | cons p L ih =>
  intro t v hv;obtain ⟨d,u⟩:=p;by_cases e:d=t
  ·subst e;rw [Zb,fR] at hv;cases hv;exact h (d,v) (by simp)
  ·rw [Zb,fQ e] at hv;exact ih (fun p hp=>h p (by simp [hp])) t v hv
def zs (nl:List (Nat×(Nat->Value)×Obj)) (bs:List Nat):aI:=(nl.zip bs).map fun x=>(x.1.1,x.1.2.1 x.2)
def zb (nl:List (Nat×(Nat->Value)×Obj)) (bs:List Nat):List a8:=(nl.zip bs).map fun x=>bC x.2 x.1.2.2
def sn (P:Program) (r:Option Nat) (c:Cx) (D:List Nat) (hs:List a8) (ops:Array Oper) (Q:Exit->Act->World->Prop) (nl:List (Nat×(Nat->Value)×Obj)) (m:Nat) (l:List Oper) (sl:aI) (rl:eT):Prop:=
 ∃ S jy kO, nh P c hs ops (l.take m) sl rl S jy kO /\ ∀ (bs : List Nat) (β : Nat -> Nat) (i0 : Nat), bs.length = nl.length -> (∀ b ∈ bs, c.w0.heap.size <= b) -> (∀ i V ob, S[i]? = some (.new V ob) -> c.w0.heap.size <= β (i0 + i)) ->
  Tr c D (zs nl bs++Ll β (l.take m) S i0++jy) (zb nl bs++ri β (fun _=>true) S i0++hs) (WL P r ops Q (l.drop m))
theorem cC {id:Nat} {l:List Oper} (m:Nat) [pf:PO P] (jk:yw l m=true) (k:sn P r c D hs l.toArray Q [] m l sl []):Tr c D sl hs (WP P r (.region id l.toArray true) Q):=by
 obtain ⟨S,jy,kO,hp,ht⟩:=k;have rW:=hp.Tx.end_;have hlen:∀ i V ob,S[i]? = some (.new V ob)->i<m:=by
  intro i V ob h;have h1:=(List.getElem?_eq_some_iff.1 h).1;have WU:∀ {l0:Array Oper} {l:List Oper} {sl jy:aI} {rl kO:eT} {S:List Step},nh P c hs l0 l sl rl S jy kO->S.length=l.length:=by
   intro l0 l sl jy rl kO S h
   induction h with
   | nil=>rfl
   | val _ _ _ _ ih=>simp [ih]
   | new _ _ _ _ _ _ ih=>simp [ih]
  rw [WU hp,List.length_take] at h1;omega
 refine xi pf.eq jk hp fun listed a w dC a7 hO=>?_;obtain ⟨β,hm,hb,rf⟩:=hO;have Kg:∀ i V ob,S[i]? = some (.new V ob)->Ls listed i:=fun i V ob h=>dC i (hlen i V ob h)
 have sq:∀ i V ob,S[i]? = some (.new V ob)->c.w0.heap.size<=β (0+i):=fun i V ob h=>by
  rw [Nat.zero_add];rcases hb i with h1 | h1 | h1
  ·exact h1
  ·exact absurd (Kg i V ob h) h1
  ·exact absurd h (h1 V ob)
 refine ht [] β 0 I (fun b hb=>by cases hb) sq a w ⟨?_,?_,a7.size,a7.defers⟩
 ·have e:ri β (fun i=>listed.getD i false) S 0=ri β (fun _=>true) S 0:=pA fun j V ob hj=>by
   rw [Nat.zero_add];exact ⟨Kg j V ob hj,fun _=>rfl⟩
  rw [e] at hm;simpa [zb,Zh] using hm
 ·refine ve (L:=zs [] []++Ll β (List.take m l) S 0) (fun p nQ=>?_) a7.cP;obtain ⟨j,o,V,ob,h1,h2,rfl⟩:=zy (by simpa [zs] using nQ);obtain ⟨d,R,hd,fH,_⟩:=rW.2.2 j o h1;rw [hd,Nat.zero_add];exact rf j o d V ob h1 hd h2 (Kg j V ob h2)
section
variable {nl:List (Nat×(Nat->Value)×Obj)} {d:Nat} {op:Op} {ty:TypeId} {pos:String} {af:Array Edge} {rest:List Oper}
theorem cY {V:Nat->Value} {ob:Obj} {l:List Oper} (hn:nl=[(d,V,ob)]) (k:∀ b,c.w0.heap.size<=b->Tr c D ((d,V b)::sl) (bC b ob::hs) (WL P r ops Q l)):sn P r c D hs ops Q nl 0 l sl rl:=
 ⟨[],sl,rl,.nil,fun bs β i0 hl hb _=>by
  subst hn
  match bs,hl with
  | [b],_=>simpa [zs,zb,Ll,ri] using k b (hb b (by simp))⟩
theorem wJ {o:Oper} {V:Value} (ho:o.dst=some d) (hd:Nat.blt d c.nt=true) (h:tY P c hs ops sl rl o (.val V)) (k:sn P r c D hs ops Q nl m rest ((d,V)::sl) rl):sn P r c D hs ops Q nl (m+1) (o::rest) sl rl:=by
 obtain ⟨S,jy,kO,hp,ht⟩:=k;refine ⟨_,_,_,.val ho (by simpa [Nat.blt_eq] using hd) h hp,fun bs β i0 h1 h2 h3=>?_⟩;have:=ht bs β (i0+1) h1 h2 fun i V ob hi=>by have:=h3 (i+1) V ob (by simpa using hi);rwa [show i0+(i+1)=i0+1+i from by omega] at this
 simpa [Ll,ri] using this
theorem dX {V:Nat->Value} {ob:Obj} (hr:qp P c sl hs ⟨some d,op,ty,pos,af,none⟩ V ob) (hd:Nat.blt d c.nt=true) (hn:cJ sl d=none) (k:sn P r c D hs ops Q (nl++[(d,V,ob)]) m rest sl ((d,C4 V ob)::rl)) :
  sn P r c D hs ops Q nl (m+1) (⟨some d,op,ty,pos,af,none⟩::rest) sl rl:=by
 obtain ⟨S,jy,kO,hp,ht⟩:=k;refine ⟨_,_,_,.new I (by simpa [Nat.blt_eq] using hd) hn I hr hp,fun bs β i0 h1 h2 h3=>?_⟩;have hb0:=h3 0 V ob I;rw [Nat.add_zero] at hb0;have:=ht (bs++[β i0]) β (i0+1) (by simp [h1]) (fun b hb=>by
  rcases List.mem_append.1 hb with h | h
  ·exact h2 b h
  ·rw [List.mem_singleton.1 h];exact hb0) fun i V ob hi=>by have:=h3 (i+1) V ob (by simpa using hi);rwa [show i0+(i+1)=i0+1+i from by omega] at this
 simpa [Ll,ri,zs,zb,List.zip_append h1.symm,Zh] using this
theorem ak {V:Value} (hr:cQ P c sl hs ⟨some d,op,ty,pos,af,none⟩ V) (hd:Nat.blt d c.nt=true) (k:sn P r c D hs ops Q nl m rest ((d,V)::sl) rl) :
  sn P r c D hs ops Q nl (m+1) (⟨some d,op,ty,pos,af,none⟩::rest) sl rl:=
 wJ I hd (oF I fun _ _ h1 _ h3=>rF hr h1 h3) k
theorem aQ {f:FuncId} {args:List Value} {V:Value} (hr:lR P sl ⟨some d,op,ty,pos,af,none⟩ f args) (hd:Nat.blt d c.nt=true) (hc:∀ w,Mem c hs w->aj P f args w V) (k:sn P r c D hs ops Q nl m rest ((d,V)::sl) rl) :
  sn P r c D hs ops Q nl (m+1) (⟨some d,op,ty,pos,af,none⟩::rest) sl rl:=
 wJ I hd (oF I fun _ w h1 _ h3=>sG hr h1 (hc w h3)) k
theorem Vm {V:Value} {p p':Prop} {j gs:Nat} {want c0 q:Bool} (hj:((ops[j]?).bind (·.dst))=some gs) (hq:cJ sl gs=some (gv c0 (.bool q))) (hb:BP (c0&&(q==want)) p p')
  (hr:(c0&&(q==want))=true->p->cQ P c sl hs ⟨some d,op,ty,pos,af,some (j,want)⟩ V) (hd:Nat.blt d c.nt=true) (k:sn P r c D hs ops Q nl m rest ((d,gv (c0&&(q==want)) V)::sl) rl) :
  sn P r c D hs ops Q nl (m+1) (⟨some d,op,ty,pos,af,some (j,want)⟩::rest) sl rl:=
 wJ I hd (oG I hj hq fun hc _ _ h1 h3=>rF (hr hc (hb.t hc)) h1 h3) k
theorem tf {V:Value} {p p':Prop} {j gs:Nat} {want q:Bool} (hj:((ops[j]?).bind (·.dst))=some gs) (hq:cJ sl gs=some (.bool q)) (hb:BP (q==want) p p')
  (hr:(q==want)=true->p->cQ P c sl hs ⟨some d,op,ty,pos,af,some (j,want)⟩ V) (hd:Nat.blt d c.nt=true) (k:sn P r c D hs ops Q nl m rest ((d,gv (q==want) V)::sl) rl) :
  sn P r c D hs ops Q nl (m+1) (⟨some d,op,ty,pos,af,some (j,want)⟩::rest) sl rl:=
 Vm (c0:=true) (p:=p) (p':=p') hj (by rw [hq];rfl) (by simpa using hb) (by simpa using hr) hd (by simpa using k)
end
end
end Go.SL
namespace Go.SL
open Go
theorem lu {w:World} {b sz:Nat}:∀ {xs:List (List Value)} {o:Nat},(∀ i r,xs[i]? = some r->r.length=sz/\∀ j u,r[j]? = some u->w.cell? ⟨b,o+i*sz+j,none⟩=some u)->∀ (k:Nat) u,xs.flatten[k]? = some u->w.cell? ⟨b,o+k,none⟩=some u
 | [],o,_,k,u,hu=>by simp at hu
 | x :: xs, o, h, k, u, hu => by
  obtain ⟨hl,h0⟩:=h 0 x rfl;rw [List.flatten_cons,List.getElem?_append] at hu;split at hu
  ·have:=h0 k u hu;rwa [Nat.zero_mul,Nat.add_zero] at this
  ·rename_i hk;have ih:=lu (xs:=xs) (o:=o+sz) (fun i r hr=>⟨(h (i+1) r (by simpa using hr)).1,fun j v hv=>by
    have:=(h (i+1) r (by simpa using hr)).2 j v hv;rwa [Nat.succ_mul,show o+(i*sz+sz)+j=o+sz+i*sz+j by omega] at this⟩) (k-x.length) u hu
   rwa [hl,show o+sz+(k-sz)=o+k by omega] at ih
theorem fU {sz:Nat}:∀ {xs:List (List Value)},(∀ r∈xs,r.length=sz)->xs.flatten.length=xs.length*sz
 | [],_=>by simp
 | x :: xs, h => by
  rw [List.flatten_cons,Zg,fU (fun r hr=>h r (by simp [hr])),h x (by simp),List.length_cons,Nat.succ_mul,Nat.add_comm]
theorem Rd.sz {w:World} {v:Value} {sz:Nat} {xs:List (List Value)} (h:Rd w v sz xs):∀ r∈xs,r.length=sz:=by
 obtain ⟨a,cap,b,o,rfl,h1,h2,h3,h4⟩:=h;intro r hr;obtain ⟨i,hi,rfl⟩:=List.getElem_of_mem hr;exact (h4 i _ (Zc hi)).1
section
variable {P:Program} {r:Option Nat} {c:Cx} {D:List Nat} {sl:aI} {hs hs':List a8} {ops:Array Oper} {Q:Exit->Act->World->Prop} {d:Nat} {ty:TypeId} {pos:String} {af:Array Edge} {rest:List Oper}
theorem Mn {V:Value} {sz:Nat} {xs:List (List Value)} {b o cap:Nat} (hsrc:∀ w,Mem c hs w->Rd w V sz xs) (hne:xs≠[]) (hV:V=.slice (some ⟨b,o,none⟩) xs.length cap):eU c hs b o xs.flatten:=by
 refine eU.vz fun j u hu w hm=>?_;obtain ⟨a',iu,b',o',e',_,_,cM,V6⟩:=hsrc w hm;rw [hV] at e';simp only [Value.slice.injEq] at e';obtain ⟨e1,_,_⟩:=e';have:=cM hne;rw [<- e1] at this;simp only [Option.some.injEq,Addr.mk.injEq,and_true] at this;obtain ⟨rfl,rfl⟩:=this;exact lu V6 j u hu
theorem tr {t e:TypeId} {w:World} {v:Value} {agg:Bool} {size:Nat} [hu:iU P t (.slice e)] [hT:Ty P e agg size] {a:Option Addr} {cp n:Nat} (hv:(v=.slice none 0 0/\n=0)\/∃ g cap,v=.slice (some ⟨g,0,none⟩) n cap/\n<=cap) :
  (Builtin.append_ #[t,t] ty #[v,.slice a 0 cp]).run P w=.ok v w:=by
 obtain ⟨de,i,lM,hi,_,gG⟩:=Ty.parts (P:=P) (t:=e) (agg:=agg) (n:=size);rcases hv with ⟨rfl,rfl⟩ | ⟨g,cap,rfl,hc⟩
 ·cases a <;> simp [Builtin.append_,aU hu.eq,sizeOf,typeInfo,hi,Builtin.lenOf,Builtin.firstCells,loadCells,loadCellsFrom]
 ·cases a <;> simp [Builtin.append_,aU hu.eq,sizeOf,typeInfo,hi,Builtin.lenOf,Builtin.firstCells,loadCells,loadCellsFrom,hc,storeCells]
theorem gK {t e:TypeId} {agg:Bool} {size bytes:Nat} {z:Value} {x y:Operand} {v V:Value} {n:Nat} {xs:List Value} {news:List (List Value)} [hu:iU P t (.slice e)] [hT:Ty P e agg size] [hZ:lQ P e z] [hB:wV P e bytes]
  (hx:Is sl x v) (hy:Is sl y V) (ht:Take hs (row e size v n xs) hs') (hsrc:∀ w,Mem c hs w->Rd w V size news) (h1:∀ r∈news,∀ u∈r,u.oneCell'=true) (hz:z.cells.size=size) (hsz:Nat.blt 0 size=true) (hb0:Nat.blt 0 bytes=true)
  (hb:(n+news.length)*bytes<=140737488355328) (hd:Nat.blt d c.nt=true)
  (k:∀ v',Tr c D ((d,v')::sl) (row e size v' (n+news.length) (xs++news.flatten)::hs') (WL P r ops Q rest)) :
  Tr c D sl hs (WL P r ops Q (⟨some d,.call ⟨.builtin .append,#[x,y],#[t,t]⟩,ty,pos,af,none⟩::rest)):=fun a w a7=>by
 have hR:=hsrc w a7.qP;have hlen:=fU hR.sz;by_cases hne:news=[]
 ·subst hne;obtain ⟨aa,cap,b,o,rfl,_⟩:=hR;have hm:=a7.mem.take (ht.append _);have hrow:(v=.slice none 0 0/\n=0)\/∃ g cap,v=.slice (some ⟨g,0,none⟩) n cap/\n<=cap:=by
   obtain ⟨_,fp,_,⟨f1,f2,_,⟨_,_,h1⟩,_⟩,_⟩:=hm;exact h1.imp id fun ⟨g,cap,cur,e,_,hc,_⟩=>⟨g,cap,e,hc⟩
  refine mH I ⟨dO _ _ _ _ _,?_⟩;rw [Oper.semAt_eq _ _ _ (by simp)];have:(execOp a.eval ⟨some d,.call ⟨.builtin .append,#[x,y],#[t,t]⟩,ty,pos,af,none⟩).run P w=.ok (.value v) w:=by
   have:=tr (P:=P) (t:=t) (e:=e) (ty:=ty) (w:=w) (agg:=agg) (size:=size) (a:=aa) (cp:=cap) hrow;simp only [List.length_nil] at hy;simp [execOp,resolve,invoke,builtin,hx a a7.cP,hy a a7.cP,this]
  rw [this];have k2:=k v;simp only [List.length_nil,Nat.add_zero,List.flatten_nil,List.append_nil] at k2;exact k2 _ _ ((a7.put (by simpa [Nat.blt_eq] using hd) v).heap hm)
 ·obtain ⟨aa,cap,b,o,hV,c8,bV,ha,hc⟩:=hR;have:=ha hne;subst this;rw [hV] at hy;exact ye hx hy ht (Mn hsrc hne hV) hlen (fun u hu=>by obtain ⟨r,hr,QV⟩:=List.mem_flatten.1 hu;exact h1 r hr u QV) hz hsz hb0 hb hd k a w a7
theorem Hw {t t2 e:TypeId} {agg:Bool} {size:Nat} {x y:Operand} {V:Value} {g n cap:Nat} {E:TypeId} {cs:List Value} {news:List (List Value)} [hu:iU P t (.slice e)] [hT:Ty P e agg size]
  (hx:Is sl x (.slice (some ⟨g,0,none⟩) n cap)) (hy:Is sl y V) (ht:Take hs (bC g (.cells cs.toArray E (0,0))) hs') (hsrc:∀ w,Mem c hs w->Rd w V size news) (h1:∀ r∈news,∀ u∈r,u.oneCell'=true) (hfit:n*size<=cs.length) (hd:Nat.blt d c.nt=true)
  (k:Tr c D ((d,.int .i64 (Nat.min news.length n:Nat))::sl) (bC g (.cells (setCells cs 0 (news.take n).flatten).toArray E (0,0))::hs') (WL P r ops Q rest)) :
  Tr c D sl hs (WL P r ops Q (⟨some d,.call ⟨.builtin .copy,#[x,y],#[t,t2]⟩,ty,pos,af,none⟩::rest)):=fun a w a7=>by
 have hR:=hsrc w a7.qP;obtain ⟨de,i,lM,hi,_,gG⟩:=Ty.parts (P:=P) (t:=e) (agg:=agg) (n:=size);have hlen:(news.take n).flatten.length=Nat.min news.length n*size:=by
  rw [fU (fun r hr=>hR.sz r (List.mem_of_mem_take hr)),List.length_take]
  show min n news.length*size=min news.length n*size;rw [Nat.min_comm]
 have hle:Nat.min news.length n<=n:=Nat.min_le_right _ _;have hm:=a7.mem.take (ht.append _);have hg:w.heap[g]? = some (.cells cs.toArray E (0,0)):=hm.bC .here;obtain ⟨w',h3,h4,h5⟩:=je (P:=P) (o:=0) (news.take n).flatten 0 cs w hg (fun u hu=>by
  obtain ⟨r,hr,QV⟩:=List.mem_flatten.1 hu;exact h1 r (List.mem_of_mem_take hr) u QV) (by
  rw [hlen];have:Nat.min news.length n*size<=n*size:=Nat.mul_le_mul_right _ hle;omega)
 have Um:(Builtin.firstCells size (Nat.min news.length n) V).run P w=.ok (news.take n).flatten.toArray w:=by
  obtain ⟨aa,dB,b,o,hV,jK,bV,ha,hc⟩:=hR;subst hV;by_cases hne:news=[]
  ·subst hne;cases aa <;> simp [Builtin.firstCells,loadCells,loadCellsFrom]
  ·have:=ha hne;subst this;simp only [Builtin.firstCells];refine rB hlen fun j u hu=>?_;refine lu (sz:=size) (xs:=news.take n) (fun i r hr=>?_) j u hu;rw [List.getElem?_take] at hr;split at hr
   ·exact hc i r hr
   ·cases hr
 have Uo:(Builtin.lenOf V).run P w=.ok news.length w:=by
  obtain ⟨aa,dB,b,o,hV,_⟩:=hR;subst hV
  rfl
 refine mH I ⟨dO _ _ _ _ _,?_⟩;rw [Oper.semAt_eq _ _ _ (by simp)];have:(execOp a.eval ⟨some d,.call ⟨.builtin .copy,#[x,y],#[t,t2]⟩,ty,pos,af,none⟩).run P w=.ok (.value (.int .i64 (Nat.min news.length n:Nat))) w':=by
  simp [execOp,resolve,invoke,builtin,hx a a7.cP,hy a a7.cP,Builtin.copy_,aU hu.eq,Uo,sizeOf,typeInfo,hi,gG,Um,h3,goInt]
 rw [this];have k9:=Mem.store hm h4 h5;rw [show (0+0:Nat)=0 from I] at k9;exact k _ _ ((a7.put (by simpa [Nat.blt_eq] using hd) _).heap k9)
theorem CO {t tn e:TypeId} {kn:IntKind} {agg:Bool} {size bytes m:Nat} {z:Value} {x y:Operand} [hu:iU P t (.slice e)] [QX:iU P tn (.int kn)] [hT:Ty P e agg size] [hZ:lQ P e z] [hB:wV P e bytes]
  (hx:Is sl x (.slice none 0 0)) (hy:Is sl y (.int .i64 m)) (h0:0<m) (hz:z.cells.size=size) (hsz:Nat.blt 0 size=true) (hb0:Nat.blt 0 bytes=true) (hb:m*bytes<=140737488355328) (hd:Nat.blt d c.nt=true)
  (k:∀ v',Tr c D ((d,v')::sl) (row e size v' m (Builtin.zeroCells z.cells m).toList::hs) (WL P r ops Q rest)) :
  Tr c D sl hs (WL P r ops Q (⟨some d,.call ⟨.builtin .append,#[x,y],#[t,tn]⟩,ty,pos,af,none⟩::rest)):=fun a w a7=>by
 obtain ⟨de,i,lM,hi,_,gG⟩:=Ty.parts (P:=P) (t:=e) (agg:=agg) (n:=size);have hzero:i.zero=some z:=by have:=hZ.eq;rw [hi] at this;simpa using this
 have gi:i.bytes=bytes:=by have:=hB.eq;rw [hi] at this;simpa using this
 have hs0:0<size:=by simpa [Nat.blt_eq] using hsz
 have Yi:0<bytes:=by simpa [Nat.blt_eq] using hb0
 have aS:m*1<=m*bytes:=Nat.mul_le_mul_left _ Yi;have gA:=Lib.run_append_grow_zeros (P:=P) w t tn ty e i z .i64 kn hu.eq QX.eq hi hzero none 0 0 [] (by simp [Builtin.firstCells]) m h0 (by omega) (by omega) (by omega) (by rw [gi];omega) (growslice_fits (by omega) (by rw [gi];simpa using hb));simp only [Nat.zero_add] at gA;have J7:=grownCap_ge w m 0 e;have hle:=grownCap_le_maxLen w m 0 e (by unfold maxLen;omega);refine mH I ⟨dO _ _ _ _ _,?_⟩;rw [Oper.semAt_eq _ _ _ (by simp)];generalize grownCap w m 0 e=G at gA J7 hle;have:(execOp a.eval ⟨some d,.call ⟨.builtin .append,#[x,y],#[t,tn]⟩,ty,pos,af,none⟩).run P w=.ok (.value (.slice (some ⟨w.heap.size,0,none⟩) m G)) (w.drew.alloc (.cells (#[]++Builtin.zeroCells z.cells m++Builtin.zeroCells z.cells (G-m)) e)):=by
  simp [execOp,resolve,invoke,builtin,hx a a7.cP,hy a a7.cP,gA]
 rw [this];have Dy:∀ q,(Builtin.zeroCells z.cells q).size=q*size:=fun q=>by rw [size_zeroCells,hz]
 have k9:=(a7.mem.drew.alloc (.cells (#[]++Builtin.zeroCells z.cells m++Builtin.zeroCells z.cells (G-m)) e (0,0)));refine k _ _ _ ((a7.put (by simpa [Nat.blt_eq] using hd) _).heap ?_);obtain ⟨kk,fp,hn,⟨f1,f2,rfl,⟨e1,h1⟩,h2⟩,Aj⟩:=k9;refine ⟨kk,f1++f2,hn,⟨f1,f2,I,⟨by rw [e1];rfl,by simp [Dy],.inr ⟨w.heap.size,G,_,I,h1,J7,hle,?_,?_⟩⟩,h2⟩,Aj⟩
 ·simp only [Array.size_append,Dy];simp only [Array.size_empty,Nat.zero_add,<- Nat.add_mul];congr 1;omega
 ·simp only [Array.toList_append,Array.toList_empty,Za];rw [List.take_left' (by rw [Array.length_toList,Dy])]
theorem kP {dst:Option Tmp} {g:Option (Nat×Bool)} {t e:TypeId} {agg:Bool} {size:Nat} [hu:iU P t (.slice e)] [hT:Ty P e agg size] :
  qp P c sl hs ⟨dst,.buildSlice t 0 #[],ty,pos,af,g⟩ (fun b=>.slice (some ⟨b,0,none⟩) 0 0) (.cells #[] e):=
 mo (ps:=#[]) (fun a _=>by simp) fun w=>by
  unfold Instr.buildSlice;simp only [Sem.run_bind,aU hu.eq,Result.andThen_ok,gr (t:=e) (agg:=agg) (n:=size),Nat.zero_mul];simp [Instr.fill,newRow,show Array.range 0=#[] from I]
theorem rE {dst:Option Tmp} {g:Option (Nat×Bool)} {t e:TypeId} {x:Operand} {a:Option Addr} {n cp:Nat} [hu:iU P t (.slice e)] (hx:Is sl x (.slice a n cp)) :
  cQ P c sl hs ⟨dst,.call ⟨.builtin .cap,#[x],#[t]⟩,ty,pos,af,g⟩ (.int .i64 cp):=
 ⟨by simp,fun ac w ha _=>by simp [execOp,hx ac ha,resolve,invoke,builtin,Builtin.cap_,aU hu.eq,goInt]⟩
theorem Be (g cap sz:Nat):Go.sliced (some ⟨g,0,none⟩) 0 0 cap sz=.slice (some ⟨g,0,none⟩) 0 cap:=by
 unfold Go.sliced;by_cases h:cap=0
 ·rw [if_pos h];simp
 ·rw [if_neg h];simp [ez]
theorem zB:∀ (vs cs:List Value),vs.length<=cs.length->setCells cs 0 vs=vs++cs.drop vs.length:=by
 intro vs cs h;apply List.ext_getElem?;intro k;rw [iL _ _ _ _ (by omega),List.getElem?_append];by_cases hk:k<vs.length
 ·rw [if_pos (by omega),if_pos hk,Nat.sub_zero]
 ·rw [if_neg (by omega),if_neg hk,List.getElem?_drop];congr 1;omega
end
end Go.SL
namespace Go.SL
open Go
theorem bc {α:Type} {b:Bool} {o:Option α} {v:α} (h:(bif b then o else none)=some v):b=true/\o=some v:=by cases b <;> simp_all
theorem bp {α β:Type} {o:Option α} {q:Option β} {v:α} {u:β} (h:(o.bind fun a=>q.map fun b=>(a,b))=some (v,u)):o=some v/\q=some u:=by
 cases o <;> cases q <;> simp_all
section
variable {P:Program} {r:Option Nat} {c:Cx} {D:List Nat} {sl:aI} {rl:eT} {hs hs':List a8} {Q:Exit->Act->World->Prop} {ops:Array Oper} {m d:Nat} {op:Op} {ty:TypeId} {pos:String} {af:Array Edge} {rest:List Oper} {dst:Option Tmp} {g:Option (Nat×Bool)}
theorem Jq {P:Program} {r:Option Nat} {c:Cx} {D:List Nat} {sl:aI} {hs:List a8} {x y:Code} {Q:Exit->Act->World->Prop}
  (h:Tr c D sl hs (WP P r x (Exit.then (WP P r y Q) Q))):Tr c D sl hs (WP P r (.seq x y) Q):=qG h
theorem Jt {c:Cx} {D:List Nat} {sl:aI} {hs:List a8} {N:Act->World->Prop} {Q:Exit->Act->World->Prop}
  (h:Tr c D sl hs N):Tr c D sl hs (Exit.then N Q .normal):=uq h
theorem J0 {P:Program} {r:Option Nat} {c:Cx} {D:List Nat} {sl:aI} {hs:List a8} {id:Nat} {x:Code} {Q:Exit->Act->World->Prop}
  (h:Tr c D sl hs (WP P r x (Exit.inBlock id Q))):Tr c D sl hs (WP P r (.block id x) Q):=Hy h
theorem Je {P:Program} {r:Option Nat} {c:Cx} {D:List Nat} {sl:aI} {hs:List a8} {Q:Exit->Act->World->Prop}
  (h:Tr c D sl hs (Q .ret)):Tr c D sl hs (WP P r .ret Q):=Hs h
theorem Jg {P:Program} {r:Option Nat} {c:Cx} {D:List Nat} {sl:aI} {hs:List a8} {id:Nat} {l:List Oper} {Q:Exit->Act->World->Prop}
  (h:Tr c D sl hs (WL P r l.toArray Q l)):Tr c D sl hs (WP P r (.region id l.toArray false) Q):=mJ h
theorem Jh {c:Cx} {D:List Nat} {sl:aI} {hs:List a8} {N:Act->World->Prop} {Q:Exit->Act->World->Prop}
  (h:Tr c D sl hs (Q .ret)):Tr c D sl hs (Exit.then N Q .ret):=AX h
theorem Ji {id:Nat} {l:List Oper} {y:Code} {Q':Exit->Act->World->Prop} (h:Tr c D sl hs (WL P r l.toArray (Exit.then (WP P r y Q) Q) l)):Tr c D sl hs (WL P r ops (Exit.then (WP P r (.seq (.region id l.toArray false) y) Q) Q') []):=n_r h
theorem Jj {c:Cx} {D:List Nat} {sl:aI} {hs:List a8} {id:Nat} {Q:Exit->Act->World->Prop}
  (h:Tr c D sl hs (Q .normal)):Tr c D sl hs (Exit.inBlock id Q .normal):=qu h
theorem Jk {N:Act->World->Prop} (h:Tr c D sl hs N):Tr c D sl hs (WP P r .skip (Exit.then N Q)):=s_t h
theorem Jl {c:Cx} {D:List Nat} {sl:aI} {hs:List a8} {N:Act->World->Prop} {Q:Exit->Act->World->Prop} {id:Nat}
  (h:Tr c D sl hs (Q (.exit id))):Tr c D sl hs (Exit.then N Q (.exit id)):=zr h
theorem Jm {c:Cx} {D:List Nat} {sl:aI} {hs:List a8} {id:Nat} {Q:Exit->Act->World->Prop}
  (h:Tr c D sl hs (Q .ret)):Tr c D sl hs (Exit.inBlock id Q .ret):=CN h
theorem Jo {c:Cx} {D:List Nat} {sl:aI} {hs:List a8} {id:Nat} {Q:Exit->Act->World->Prop}
  (h:Tr c D sl hs (Q .normal)):Tr c D sl hs (Exit.inBlock id Q (.exit id)):=A6 h
theorem Jp {N:Act->World->Prop} {id:Nat} (h:Tr c D sl hs (Q (.exit id))):Tr c D sl hs (WP P r (.exit id) (Exit.then N Q)):=x_t h
theorem Jn {N:Act->World->Prop} (h:Tr c D sl hs N):Tr c D sl hs (WL P r ops (Exit.then N Q) []):=n_t h
theorem Jr {id:Nat} {l:List Oper} {y:Code} (h:Tr c D sl hs (WL P r l.toArray (Exit.then (WP P r y Q) Q) l)):Tr c D sl hs (WP P r (.seq (.region id l.toArray false) y) Q):=s_r h
theorem Ju {N:Act->World->Prop} (h:Tr c D sl hs (Q .ret)):Tr c D sl hs (WP P r .ret (Exit.then N Q)):=r_t h
theorem Jw {P:Program} {r:Option Nat} {c:Cx} {D:List Nat} {sl:aI} {hs:List a8} {Q:Exit->Act->World->Prop}
  (h:Tr c D sl hs (Q .normal)):Tr c D sl hs (WP P r .skip Q):=Em h
theorem Jx {P:Program} {r:Option Nat} {c:Cx} {D:List Nat} {sl:aI} {hs:List a8} {ops:Array Oper} {Q:Exit->Act->World->Prop}
  (h:Tr c D sl hs (Q .normal)):Tr c D sl hs (WL P r ops Q []):=u4 h
theorem Jv {x:Operand} {v:Value} (h:(bif Nat.blt d c.nt then ev sl x else none)=some v) (k:Tr c D ((d,v)::sl) hs (WL P r ops Q rest)):Tr c D sl hs (WL P r ops Q (⟨some d,.move x,ty,pos,af,none⟩::rest)):=OU (bc h).2 (bc h).1 k
theorem Ja {x:Operand} {v:Value} (h:(bif Nat.blt d c.nt then ev sl x else none)=some v) (k:Tr c D ((d,v)::sl) hs (WL P r ops Q rest)):Tr c D sl hs (WL P r ops Q (⟨some d,.assign x,ty,pos,af,none⟩::rest)):=YN (bc h).2 (bc h).1 k
theorem JA {k:IntKind} {t u:TypeId} {x y:Operand} {a b:Int} (h:(bif Nat.blt d c.nt then ((ev sl x).bind fun a=>(ev sl y).map fun b=>(a,b)) else none)=some (.int k a,.int k b)) (k:Tr c D ((d,.bool (decide (a<b)))::sl) hs (WL P r ops Q rest)):Tr c D sl hs (WL P r ops Q (⟨some d,.binOp .lss t x y u,ty,pos,af,none⟩::rest)):=ab (mm (.of (bp (bc h).2).1) (.of (bp (bc h).2).2)) (bc h).1 k
theorem JC {k:IntKind} {t u:TypeId} {x y:Operand} {a b:Int} (h:(bif Nat.blt d c.nt then ((ev sl x).bind fun a=>(ev sl y).map fun b=>(a,b)) else none)=some (.int k a,.int k b)) (k:Tr c D ((d,.bool (decide (a=b)))::sl) hs (WL P r ops Q rest)):Tr c D sl hs (WL P r ops Q (⟨some d,.binOp .eql t x y u,ty,pos,af,none⟩::rest)):=ab (jE (.of (bp (bc h).2).1) (.of (bp (bc h).2).2)) (bc h).1 k
theorem JD {k:IntKind} {t u:TypeId} {x y:Operand} {a b:Int} (h:(bif Nat.blt d c.nt then ((ev sl x).bind fun a=>(ev sl y).map fun b=>(a,b)) else none)=some (.int k a,.int k b)) (k:Tr c D ((d,.bool (decide (a≠b)))::sl) hs (WL P r ops Q rest)):Tr c D sl hs (WL P r ops Q (⟨some d,.binOp .neq t x y u,ty,pos,af,none⟩::rest)):=ab (fZ (.of (bp (bc h).2).1) (.of (bp (bc h).2).2)) (bc h).1 k
theorem JE {k:IntKind} {t u:TypeId} {x y:Operand} {a b:Int} (h:(bif Nat.blt d c.nt then ((ev sl x).bind fun a=>(ev sl y).map fun b=>(a,b)) else none)=some (.int k a,.int k b)) (k:Tr c D ((d,.bool (decide (b<a)))::sl) hs (WL P r ops Q rest)):Tr c D sl hs (WL P r ops Q (⟨some d,.binOp .gtr t x y u,ty,pos,af,none⟩::rest)):=ab (mn (.of (bp (bc h).2).1) (.of (bp (bc h).2).2)) (bc h).1 k
theorem JF {k:IntKind} {t u:TypeId} {x y:Operand} {a b:Int} (h:(bif Nat.blt d c.nt then ((ev sl x).bind fun a=>(ev sl y).map fun b=>(a,b)) else none)=some (.int k a,.int k b)) (k:Tr c D ((d,.bool (decide (a<=b)))::sl) hs (WL P r ops Q rest)):Tr c D sl hs (WL P r ops Q (⟨some d,.binOp .leq t x y u,ty,pos,af,none⟩::rest)):=ab (lh (.of (bp (bc h).2).1) (.of (bp (bc h).2).2)) (bc h).1 k
theorem JG {k:IntKind} {t u:TypeId} {x y:Operand} {a b:Int} (h:(bif Nat.blt d c.nt then ((ev sl x).bind fun a=>(ev sl y).map fun b=>(a,b)) else none)=some (.int k a,.int k b)) (k:Tr c D ((d,.bool (decide (b<=a)))::sl) hs (WL P r ops Q rest)):Tr c D sl hs (WL P r ops Q (⟨some d,.binOp .geq t x y u,ty,pos,af,none⟩::rest)):=ab (zK (.of (bp (bc h).2).1) (.of (bp (bc h).2).2)) (bc h).1 k
theorem JB {t u:TypeId} {x y:Operand} {a b:Int} (h:(bif Nat.blt d c.nt then ((ev sl x).bind fun a=>(ev sl y).map fun b=>(a,b)) else none)=some (.int .i64 a,.int .i64 b)) (hb:-9223372036854775808<=a+b/\a+b<=9223372036854775807) (k:Tr c D ((d,.int .i64 (a+b))::sl) hs (WL P r ops Q rest)):Tr c D sl hs (WL P r ops Q (⟨some d,.binOp .add t x y u,ty,pos,af,none⟩::rest)):=ab (H0 (.of (bp (bc h).2).1) (.of (bp (bc h).2).2) (QO hb)) (bc h).1 k
theorem JS {t u:TypeId} {x y:Operand} {a b:Int} (h:(bif Nat.blt d c.nt then ((ev sl x).bind fun a=>(ev sl y).map fun b=>(a,b)) else none)=some (.int .i64 a,.int .i64 b)) (hb:-9223372036854775808<=a-b/\a-b<=9223372036854775807) (k:Tr c D ((d,.int .i64 (a-b))::sl) hs (WL P r ops Q rest)):Tr c D sl hs (WL P r ops Q (⟨some d,.binOp .sub t x y u,ty,pos,af,none⟩::rest)):=ab (sD (.of (bp (bc h).2).1) (.of (bp (bc h).2).2) (QO hb)) (bc h).1 k
theorem JH {t:TypeId} {x:Operand} {b:Bool} (h:(bif Nat.blt d c.nt then ev sl x else none)=some (.bool b)) (k:Tr c D ((d,.bool (!b))::sl) hs (WL P r ops Q rest)):Tr c D sl hs (WL P r ops Q (⟨some d,.unOp .not t x,ty,pos,af,none⟩::rest)):=ab (eY (.of (bc h).2)) (bc h).1 k
theorem JI {t e:TypeId} {x:Operand} {b:Option Addr} {n cap:Nat} [iU P t (.slice e)] (h:(bif Nat.blt d c.nt then ev sl x else none)=some (.slice b n cap)) (k:Tr c D ((d,.int .i64 n)::sl) hs (WL P r ops Q rest)):Tr c D sl hs (WL P r ops Q (⟨some d,.call ⟨.builtin .len,#[x],#[t]⟩,ty,pos,af,none⟩::rest)):=ab (cg (e:=e) (.of (bc h).2)) (bc h).1 k
theorem JJ {x:Operand} {i:Nat} {vs:List Value} {v:Value} (h:(bif Nat.blt d c.nt then ev sl x else none)=some (.tuple vs.toArray)) (hv:uf vs i=some v) (k:Tr c D ((d,v)::sl) hs (WL P r ops Q rest)):Tr c D sl hs (WL P r ops Q (⟨some d,.extract x i,ty,pos,af,none⟩::rest)):=ab (gN (.of (bc h).2) hv) (bc h).1 k
theorem JK {r:Option Nat} {D:List Nat} {ops:Array Oper} {Q:Exit->Act->World->Prop} {d:Option Tmp} {op:Op} {rest:List Oper} {j gs:Nat} {want:Bool} (hj:((ops[j]?).bind (·.dst))=some gs) (hq:cJ sl gs=some (.bool want))
  (k:Tr c D sl hs (WL P r ops Q (⟨d,op,ty,pos,af,none⟩::rest))):Tr c D sl hs (WL P r ops Q (⟨d,op,ty,pos,af,some (j,want)⟩::rest)):=P6 hj hq k
theorem JL {t:TypeId} {n:Nat} {x:Operand} {b o:Nat} {cs:List Value} {E:TypeId} {fz:Nat×Nat} {v:Value} [Ty P t false n] (h:(bif Nat.blt d c.nt then ev sl x else none)=some (.pointer (some ⟨b,o,none⟩))) (ht:Take hs (SL.bC b (.cells cs.toArray E fz)) hs') (hv:uf cs o=some v) (k:Tr c D ((d,v)::sl) hs (WL P r ops Q rest)):Tr c D sl hs (WL P r ops Q (⟨some d,.load t x,ty,pos,af,none⟩::rest)):=ab (ag (.of (bc h).2) (At.lit ht hv)) (bc h).1 k
theorem Jc {x:Operand} {p:Prop} {inst:Decidable p} {u v:Code} (hx:ev sl x=some (.bool (decide p))) (hf:¬ p->Tr c D sl hs (WP P r v Q)) (ht:p->Tr c D sl hs (WP P r u Q):=by intro h;exfalso;omega):Tr c D sl hs (WP P r (.cond x u v) Q):=gl hx ht hf
theorem Jd {x:Operand} {p:Prop} {inst:Decidable p} {u v:Code} (hx:ev sl x=some (.bool (decide p))) (ht:p->Tr c D sl hs (WP P r u Q)) (hf:¬ p->Tr c D sl hs (WP P r v Q):=by intro h;exfalso;omega):Tr c D sl hs (WP P r (.cond x u v) Q):=gl hx ht hf
theorem Jy {t:TypeId} {x:Operand} {v:Value} {cs:List Value} (h:(bif Nat.blt d c.nt then ev sl x else none)=some v) (hc:v.cells=cs.toArray) (k:∀ b,c.w0.heap.size<=b->Tr c D ((d,.pointer (some ⟨b,0,none⟩))::sl) (bC b (.cells cs.toArray t)::hs) (WL P r ops Q rest)):Tr c D sl hs (WL P r ops Q (⟨some d,.box t x,ty,pos,af,none⟩::rest)):=bb (HZ (.of (bc h).2) hc) (bc h).1 k
theorem Jz {t:TypeId} {z:Value} {cs:List Value} [lQ P t z] (hc:z.cells=cs.toArray) (hd:Nat.blt d c.nt=true) (k:∀ b,c.w0.heap.size<=b->Tr c D ((d,.pointer (some ⟨b,0,none⟩))::sl) (bC b (.cells cs.toArray t)::hs) (WL P r ops Q rest)):Tr c D sl hs (WL P r ops Q (⟨some d,.alloc t,ty,pos,af,none⟩::rest)):=bb (oM hc) hd k
end
theorem JN {P:Program} {r:Option Nat} {c:Cx} {D:List Nat} {sl:aI} {hs:List a8} {Q:Exit->Act->World->Prop} {ops:Array Oper} {d:Nat} {op:Op} {ty:TypeId} {pos:String} {af:Array Edge} {rest:List Oper} {f:FuncId} {args:List Value} {ι:Type} {Φ:ι->Prop} {val:ι->Value} {own:ι->List a8} (hr:lR P sl ⟨some d,op,ty,pos,af,none⟩ f args) (hd:Nat.blt d c.nt=true) (hc:∀ w,Mem c hs w->bh P f args w [] Φ val own)
  (k:∀ x,Φ x->Tr c D ((d,val x)::sl) (own x++hs) (WL P r ops Q rest)):Tr c D sl hs (WL P r ops Q (⟨some d,op,ty,pos,af,none⟩::rest)):=jh hr hd bn.nil (fun w fp hm _ hs=>by obtain rfl:fp=[]:=hs;exact hc w hm) k
section
variable {P:Program} {r:Option Nat} {c:Cx} {sl:aI} {hs hs':List a8} {d:Nat} {dst:Option Tmp} {ty:TypeId} {pos:String} {af:Array Edge} {g:Option (Nat×Bool)}
theorem gD {t:TypeId} {n:Nat} {x:Operand} {b o:Nat} {cs:List Value} {E:TypeId} {fz:Nat×Nat} {v:Value} [Ty P t false n] (ht:Take hs (SL.bC b (.cells cs.toArray E fz)) hs') (hx:Is sl x (.pointer (some ⟨b,o,none⟩)):=by exact Is.of I) (hv:uf cs o=some v:=by exact I):cQ P c sl hs ⟨dst,.load t x,ty,pos,af,g⟩ v:=ag hx (At.lit ht hv)
theorem cr {t:TypeId} {n:Nat} {x:Operand} {b o:Nat} {cs vs:List Value} {E:TypeId} {fz:Nat×Nat} [Ty P t true n] (ht:Take hs (SL.bC b (.cells cs.toArray E fz)) hs') (hx:Is sl x (.pointer (some ⟨b,o,none⟩)):=by exact Is.of I) (hv:eu cs o n=vs:=by exact an) (hl:vs.length=n:=by rfl):cQ P c sl hs ⟨dst,.load t x,ty,pos,af,g⟩ (.agg vs.toArray):=cm hx ht hv hl
theorem kA {t:TypeId} {i o:Nat} {x:Operand} {b k q:Nat} [eH P t i o] (hx:Is sl x (.pointer (some ⟨b,k,none⟩)):=by exact Is.of I) (he:k+o=q:=by exact ae):cQ P c sl hs ⟨dst,.fieldAddr t x i,ty,pos,af,g⟩ (.pointer (some ⟨b,q,none⟩)):=ao hx he
theorem jP {x:Operand} {v:Value} (hx:Is sl x v:=by exact Is.of I):cQ P c sl hs ⟨dst,.move x,ty,pos,af,g⟩ v:=aZ hx
theorem iI {t:TypeId} {n:Nat} {x:Operand} {b o:Nat} {vs:List Value} [Ty P t true n] (hv:eU c hs b o vs) (hx:Is sl x (.pointer (some ⟨b,o,none⟩)):=by exact Is.of I) (hl:vs.length=n:=by exact I):cQ P c sl hs ⟨dst,.load t x,ty,pos,af,g⟩ (.agg vs.toArray):=jD hx hv hl
theorem gj {t e:TypeId} {n:Nat} {agg:Bool} {x y:Operand} {a0:Option Addr} {b o len cap q:Nat} {k:IntKind} {i:Int} [hu:iU P t (.slice e)] [Ty P e agg n] (ha:a0=some ⟨b,o,none⟩) (h1:i<len) (hx:Is sl x (.slice a0 len cap):=by exact Is.of I) (hy:Is sl y (.int k i):=by exact Is.of I) (h0:0<=i:=by omega) (he:o+i.toNat*n=q:=by exact ba):cQ P c sl hs ⟨dst,.indexAddr t x y,ty,pos,af,g⟩ (.pointer (some ⟨b,q,none⟩)):=az hx hy ha h0 h1 he
theorem JT {fn:Func} {v v':Value} {t:Tmp} (hv:v'=v) (Gn:c.md=[]:=by exact I) (h1:fn.results=#[.tmp t]:=by exact I) (h2:cJ sl t=some v':=by exact I):Tr c [] sl hs (bodyPostM (FR r) 0 P fn (fun e w'=>e=.returned v/\aD [] c.w0 w') .ret):=pG Gn (dJ h1 h2) hv
end
theorem bT {A x0 x1:a8} {h:List a8}:Take (x0::x1::A::h) A (x0::x1::h):=.there (.there .here)
theorem db {A x0 x1 x2:a8} {h:List a8}:Take (x0::x1::x2::A::h) A (x0::x1::x2::h):=.there bT
theorem fg {A x0 x1 x2 x3:a8} {h:List a8}:Take (x0::x1::x2::x3::A::h) A (x0::x1::x2::x3::h):=.there db
theorem fy {A x0 x1 x2 x3 x4:a8} {h:List a8}:Take (x0::x1::x2::x3::x4::A::h) A (x0::x1::x2::x3::x4::h):=.there fg
theorem re {A x0 x1 x2 x3 x4 x5:a8} {h:List a8}:Take (x0::x1::x2::x3::x4::x5::A::h) A (x0::x1::x2::x3::x4::x5::h):=.there fy
theorem Cu {A x0 x1 x2 x3 x4 x5 x6:a8} {h:List a8}:Take (x0::x1::x2::x3::x4::x5::x6::A::h) A (x0::x1::x2::x3::x4::x5::x6::h):=.there re
theorem OB {A x0 x1 x2 x3 x4 x5 x6 x7:a8} {h:List a8}:Take (x0::x1::x2::x3::x4::x5::x6::x7::A::h) A (x0::x1::x2::x3::x4::x5::x6::x7::h):=.there Cu
theorem jm {A x0 x1 x2 x3 x4 x5 x6 x7 x8:a8} {h:List a8}:Take (x0::x1::x2::x3::x4::x5::x6::x7::x8::A::h) A (x0::x1::x2::x3::x4::x5::x6::x7::x8::h):=.there OB
theorem nj {A x0 x1 x2 x3 x4 x5 x6 x7 x8 x9:a8} {h:List a8}:Take (x0::x1::x2::x3::x4::x5::x6::x7::x8::x9::A::h) A (x0::x1::x2::x3::x4::x5::x6::x7::x8::x9::h):=.there jm
theorem Cw {A x0 x1 x2 x3 x4 x5 x6 x7 x8 x9 xM:a8} {h:List a8}:Take (x0::x1::x2::x3::x4::x5::x6::x7::x8::x9::xM::A::h) A (x0::x1::x2::x3::x4::x5::x6::x7::x8::x9::xM::h):=.there nj
theorem lS {A x0 x1 x2 x3 x4 x5 x6 x7 x8 x9 xM Ef:a8} {h:List a8}:Take (x0::x1::x2::x3::x4::x5::x6::x7::x8::x9::xM::Ef::A::h) A (x0::x1::x2::x3::x4::x5::x6::x7::x8::x9::xM::Ef::h):=.there Cw
theorem Sm {A x0 x1 x2 x3 x4 x5 x6 x7 x8 x9 xM Ef GU:a8} {h:List a8}:Take (x0::x1::x2::x3::x4::x5::x6::x7::x8::x9::xM::Ef::GU::A::h) A (x0::x1::x2::x3::x4::x5::x6::x7::x8::x9::xM::Ef::GU::h):=.there lS
theorem Cv {A x0 x1 x2 x3 x4 x5 x6 x7 x8 x9 xM Ef GU OG:a8} {h:List a8}:Take (x0::x1::x2::x3::x4::x5::x6::x7::x8::x9::xM::Ef::GU::OG::A::h) A (x0::x1::x2::x3::x4::x5::x6::x7::x8::x9::xM::Ef::GU::OG::h):=.there Sm
theorem jg {A x0 x1 x2 x3 x4 x5 x6 x7 x8 x9 xM Ef GU OG PS:a8} {h:List a8}:Take (x0::x1::x2::x3::x4::x5::x6::x7::x8::x9::xM::Ef::GU::OG::PS::A::h) A (x0::x1::x2::x3::x4::x5::x6::x7::x8::x9::xM::Ef::GU::OG::PS::h):=.there Cv
theorem ni {A x0 x1 x2 x3 x4 x5 x6 x7 x8 x9 xM Ef GU OG PS YP:a8} {h:List a8}:Take (x0::x1::x2::x3::x4::x5::x6::x7::x8::x9::xM::Ef::GU::OG::PS::YP::A::h) A (x0::x1::x2::x3::x4::x5::x6::x7::x8::x9::xM::Ef::GU::OG::PS::YP::h):=.there jg
theorem eF {v0:Value} (h0:v0.oneCell'=true):∀ u∈[v0],u.oneCell'=true:=bJ h0 (gO)
theorem ie {v0 v1:Value} (h0:v0.oneCell'=true) (h1:v1.oneCell'=true):∀ u∈[v0,v1],u.oneCell'=true:=bJ h0 (bJ h1 (gO))
theorem fx {v0 v1 v2:Value} (h0:v0.oneCell'=true) (h1:v1.oneCell'=true) (h2:v2.oneCell'=true):∀ u∈[v0,v1,v2],u.oneCell'=true:=bJ h0 (bJ h1 (bJ h2 (gO)))
theorem iS {v0 v1 v2 v3 v4 v5:Value} (h0:v0.oneCell'=true) (h1:v1.oneCell'=true) (h2:v2.oneCell'=true) (h3:v3.oneCell'=true) (h4:v4.oneCell'=true) (h5:v5.oneCell'=true):∀ u∈[v0,v1,v2,v3,v4,v5],u.oneCell'=true:=bJ h0 (bJ h1 (bJ h2 (bJ h3 (bJ h4 (bJ h5 (gO))))))
theorem Vr {v0 v1 v2 v3 v4 v5 v6 v7:Value} (h0:v0.oneCell'=true) (h1:v1.oneCell'=true) (h2:v2.oneCell'=true) (h3:v3.oneCell'=true) (h4:v4.oneCell'=true) (h5:v5.oneCell'=true) (h6:v6.oneCell'=true) (h7:v7.oneCell'=true):∀ u∈[v0,v1,v2,v3,v4,v5,v6,v7],u.oneCell'=true:=bJ h0 (bJ h1 (bJ h2 (bJ h3 (bJ h4 (bJ h5 (bJ h6 (bJ h7 (gO))))))))
theorem cj {sl w:aI} (h:lF sl w:=by repeat' first | with_reducible exact lF.nil | ((with_reducible apply lF.cons);(case h=>exact I))):lF sl w:=h
theorem oA {hs w q:List a8} (h:bn hs w q:=by repeat' first | with_reducible exact bn.nil | with_reducible apply bn.cons | with_reducible exact Take.here | with_reducible apply Take.there):bn hs w q:=h
theorem om {P:Program} {sl:aI} {dst:Option Tmp} {ty:TypeId} {pos:String} {af:Array Edge} {g:Option (Nat×Bool)} {x :Operand} {ts:Array TypeId} {f:FuncId} {first cap args:List Value} (hx:Is sl x (.func (.func f) first.toArray cap.toArray):=by exact Is.of I)  (hb:bU P f:=by exact inferInstance) (he:first++[]++cap=args:=by exact fL):lR P sl ⟨dst,.call ⟨.value x,#[],ts⟩,ty,pos,af,g⟩ f args:=bj (xs:=[]) hx (.nil) hb he
theorem bN {P:Program} {sl:aI} {dst:Option Tmp} {ty:TypeId} {pos:String} {af:Array Edge} {g:Option (Nat×Bool)} {x y0:Operand} {ts:Array TypeId} {f:FuncId} {first cap args:List Value} {w0:Value} (hx:Is sl x (.func (.func f) first.toArray cap.toArray):=by exact Is.of I) (h0:Is sl y0 w0:=by exact Is.of I) (hb:bU P f:=by exact inferInstance) (he:first++[w0]++cap=args:=by exact fL):lR P sl ⟨dst,.call ⟨.value x,#[y0],ts⟩,ty,pos,af,g⟩ f args:=bj (xs:=[y0]) hx (.cons h0 (.nil)) hb he
theorem aX {P:Program} {sl:aI} {dst:Option Tmp} {ty:TypeId} {pos:String} {af:Array Edge} {g:Option (Nat×Bool)} {x y0 y1:Operand} {ts:Array TypeId} {f:FuncId} {first cap args:List Value} {w0 w1:Value} (hx:Is sl x (.func (.func f) first.toArray cap.toArray):=by exact Is.of I) (h0:Is sl y0 w0:=by exact Is.of I) (h1:Is sl y1 w1:=by exact Is.of I) (hb:bU P f:=by exact inferInstance) (he:first++[w0,w1]++cap=args:=by exact fL):lR P sl ⟨dst,.call ⟨.value x,#[y0,y1],ts⟩,ty,pos,af,g⟩ f args:=bj (xs:=[y0,y1]) hx (.cons h0 (.cons h1 (.nil))) hb he
theorem dH {P:Program} {sl:aI} {dst:Option Tmp} {ty:TypeId} {pos:String} {af:Array Edge} {g:Option (Nat×Bool)} {x y0 y1 y2:Operand} {ts:Array TypeId} {f:FuncId} {first cap args:List Value} {w0 w1 w2:Value} (hx:Is sl x (.func (.func f) first.toArray cap.toArray):=by exact Is.of I) (h0:Is sl y0 w0:=by exact Is.of I) (h1:Is sl y1 w1:=by exact Is.of I) (h2:Is sl y2 w2:=by exact Is.of I) (hb:bU P f:=by exact inferInstance) (he:first++[w0,w1,w2]++cap=args:=by exact fL):lR P sl ⟨dst,.call ⟨.value x,#[y0,y1,y2],ts⟩,ty,pos,af,g⟩ f args:=bj (xs:=[y0,y1,y2]) hx (.cons h0 (.cons h1 (.cons h2 (.nil)))) hb he
theorem nO {P:Program} {sl:aI} {dst:Option Tmp} {ty:TypeId} {pos:String} {af:Array Edge} {g:Option (Nat×Bool)} {x y0 y1 y2 y3:Operand} {ts:Array TypeId} {f:FuncId} {first cap args:List Value} {w0 w1 w2 w3:Value} (hx:Is sl x (.func (.func f) first.toArray cap.toArray):=by exact Is.of I) (h0:Is sl y0 w0:=by exact Is.of I) (h1:Is sl y1 w1:=by exact Is.of I) (h2:Is sl y2 w2:=by exact Is.of I) (h3:Is sl y3 w3:=by exact Is.of I) (hb:bU P f:=by exact inferInstance) (he:first++[w0,w1,w2,w3]++cap=args:=by exact fL):lR P sl ⟨dst,.call ⟨.value x,#[y0,y1,y2,y3],ts⟩,ty,pos,af,g⟩ f args:=bj (xs:=[y0,y1,y2,y3]) hx (.cons h0 (.cons h1 (.cons h2 (.cons h3 (.nil))))) hb he
theorem Cy {P:Program} {sl:aI} {dst:Option Tmp} {ty:TypeId} {pos:String} {af:Array Edge} {g:Option (Nat×Bool)} {x y0 y1 y2 y3 y4:Operand} {ts:Array TypeId} {f:FuncId} {first cap args:List Value} {w0 w1 w2 w3 w4:Value} (hx:Is sl x (.func (.func f) first.toArray cap.toArray):=by exact Is.of I) (h0:Is sl y0 w0:=by exact Is.of I) (h1:Is sl y1 w1:=by exact Is.of I) (h2:Is sl y2 w2:=by exact Is.of I) (h3:Is sl y3 w3:=by exact Is.of I) (h4:Is sl y4 w4:=by exact Is.of I) (hb:bU P f:=by exact inferInstance) (he:first++[w0,w1,w2,w3,w4]++cap=args:=by exact fL):lR P sl ⟨dst,.call ⟨.value x,#[y0,y1,y2,y3,y4],ts⟩,ty,pos,af,g⟩ f args:=bj (xs:=[y0,y1,y2,y3,y4]) hx (.cons h0 (.cons h1 (.cons h2 (.cons h3 (.cons h4 (.nil)))))) hb he
end Go.SL
namespace Go.Proofs.A1
open Go Go.SL
open Tryz
open Tryz renaming prog->T_
def ints (es:List Int):List (List Value):=es.map fun e=>[.int .i64 e]
theorem c5 (es:List Int):(ints es).length=es.length:=by simp [ints]
theorem iC {es:List Int} {k:Nat} (h:k<es.length):(ints es)[k]? = some [.int .i64 es[k]]:=by simp [ints,h]
theorem jI {es:List Int} {k:Nat} (h:k<es.length):ints es≠[]:=by intro e;have:=congrArg List.length e;rw [c5] at this;simp at this;subst this;simp at h
inductive bQ:List Value->List Int->Prop
 | nil:bQ [] []
 | cons {e:Int} {vs:List Value} {es:List Int} (h:bQ vs es):bQ (.int .i64 e::vs) (e::es)
theorem bQ.eq {vs:List Value} {es:List Int} (h:bQ vs es):(vs.map fun v=>[v])=ints es:=by
 induction h with
 | nil=>rfl
 | cons h ih=>simp only [List.map_cons,ints,ih]
theorem OX (c:Int) (w:World):aj T_ 323 [.int .u8 c] w (.bool (Ge c)):=by
 refine ah func323 I I ?_
 (refine Jr<|Ja I<|Ji<|Jv I<|JF I<|Jv I<|fM I I I I ?_;refine aC I I inferInstance (fun hg br=>(lh (.bL hg I) (.of I))) I ?_;refine ab (bH (.of I) I) I ?_;refine Jv I<|fM I I I I ?_;refine aC I I inferInstance (fun hg br=>(lh (.of I) (.bL hg I))) I ?_;refine aC I I inferInstance (fun hg br=>(aZ (.bL hg I))) I ?_;refine ek I I inferInstance (fun hg br=>(aZ (.of I))) I ?_;refine ek I I inferInstance (fun hg br=>(lh (.bL hg I) (.of I))) I ?_;refine aC I I inferInstance (fun hg br=>(gM hg (.bL hg I) I)) I ?_;refine ab (bX (.of I) I) I ?_;refine Ja I<|Jn<|Je<|JT ?_)
 rfl
theorem TJ (c:Int) (w:World):aj T_ 324 [.int .u8 c] w (.bool (TK c)):=by
 refine ah func324 I I ?_
 (refine Jr<|Ja I<|Ji<|Jv I<|JF I<|Jv I<|fM I I I I ?_;refine aC I I inferInstance (fun hg br=>(lh (.bL hg I) (.of I))) I ?_;refine ab (bH (.of I) I) I ?_;refine Ja I<|Jn<|Je<|JT ?_)
 rfl
theorem kB (h:Bool) (e:Int) (w:World):aj T_ 129 [.bool h,.int .i64 e] w (.int .i64 (bG h e)):=by
 refine ah func129 I I ?_
 (refine Jr<|Ja I<|Jn<|Jq<|Jr<|Jv I<|Jn<|oz I (fun ar=>?_) fun ar=>?_;refine Jr<|Jv I<|Ja I<|Jn<|Ju<|JT ?_;rotate_left;refine Jk<|Jr<|Ja I<|Jn<|Je<|JT ?_;rotate_right)
 all_goals simp [bG, *]
theorem uE (n l m:Int) (w:World):aj T_ 67 [.int .i64 n,.int .i64 l,.int .i64 m] w (.int .i64 (gH n l m)):=by
 refine ah func67 I I ?_
 (refine Jr<|Ja I<|Ji<|Jv I<|Jv I<|JA I<|Jv I<|fM I I I I ?_;refine fM I I I I ?_;refine aC I I inferInstance (fun hg br=>(mn (.bL hg I) (.bL hg I))) I ?_;refine ab (bX (.of I) I) I ?_;refine ai aX I (fun w' aq=>(kB _ 3 w')) ?_;refine Ja I<|Jn<|Je<|JT ?_)
 rfl
theorem QF (s:ByteArray) (w:World):aj T_ 270 [.string s] w (.bool (kg s)):=by
 refine ah func270 I I ?_
 (refine Jr<|Ja I<|Jn<|Jq<|Jr<|Jv I<|ab (fv (.of I)) I ?_;refine JC I<|Jv I<|fM I I I I ?_;refine aC I I inferInstance (fun hg br=>(fv (.bL hg I))) I ?_;refine aC I I inferInstance (fun hg br=>(mn (.bL hg I) (.of I))) I ?_;refine ab (bX (.of I) I) I ?_;refine Jv I<|fM I I I I ?_;refine aC I I inferInstance (fun hg br=>(pP (.bL hg I) (.of I) (by omega) (by omega))) I ?_;refine gJ I I (fun hg=>(bj (.of I) (.cons (.bL hg I) .nil) inferInstance fL)) I (fun hg w' aq=>(OX _ w')) ?_;refine aC I I inferInstance (fun hg br=>(eY (.bL hg I))) I ?_;refine ab (bX (.of I) I) I ?_;refine Jn<|oz I (fun ar=>?_) fun ar=>?_;refine Jr<|Ja I<|Jn<|Ju<|JT ?_;rotate_left;refine Jk<|Jq<|Jr<|Ja I<|Jn<|J0 ?_;rotate_right)
 ·congr 1;symm;change (_\/_)\/Ge (bt s 0)=false at ar;unfold kg;rcases ar with (h | h) | h
  ·simp;omega
  ·simp;omega
  ·simp [h]
 change (_/\_)/\Ge (bt s 0)=true at ar;obtain ⟨⟨h0,h1⟩,h2⟩:=ar;have hN:kg s=okF s 1:=by
  unfold kg;rw [h2,decide_eq_true (by omega),decide_eq_true (by omega)];rfl
 rw [hN];refine aY (fun k:Nat=>1<=k/\k<=s.size/\okF s 1=okF s k) (fun k=>[(3,.int .i64 k),(0,.string s)]) (fun _=>[]) (fun k=>s.size-k) ?_ ?_
 ·apply aK 1 ⟨by omega,by omega,I⟩
  case hs1=>exact cj
  case ht=>(try simp only [Ze,Zf,Za]);exact .nil
 intro k ⟨SF,hk,hf⟩;rw [hf];by_cases aL:k<s.size
 ·rw [zV aL]
  (refine Jq<|Jr<|Jv I<|Jv I<|ab (fv (.of I)) I ?_;refine JA I<|Jn<|Jd I fun ar=>Jk<|Jq<|J0<|Jr<|Jv I<|Jv I<|ab (pP (.of I) (.of I) (by omega) ar) I ?_;refine ai bN I (fun w' aq=>(OX _ w')) ?_;refine JH I<|Jv I<|fM I I I I ?_;refine fM I I I I ?_;refine aC I I inferInstance (fun hg br=>(pP (.bL hg I) (.bL hg I) (by omega) ar)) I ?_;refine gJ I I (fun hg=>(bj (.of I) (.cons (.bL hg I) .nil) inferInstance fL)) I (fun hg w' aq=>(TJ _ w')) ?_;refine aC I I inferInstance (fun hg br=>(eY (.bL hg I))) I ?_;refine ab (bH (.of I) I) I ?_;refine Jv I<|fM I I I I ?_;refine fM I I I I ?_;refine aC I I inferInstance (fun hg br=>(pP (.bL hg I) (.bL hg I) (by omega) ar)) I ?_;refine aC I I inferInstance (fun hg br=>(fZ (.bL hg I) (.of I))) I ?_;refine ab (bH (.of I) I) I ?_;refine Jn<|oz I (fun ar=>?_) fun ar=>?_;refine Jr<|Ja I<|Jn<|Je<|Jm<|Jh<|Jh<|Jm<|Jh<|JT ?_;rotate_left;refine Jw<|Jj<|Jt<|Jg<|Jv I<|JB I (by omega)<|Ja I<|Jn ?_;rotate_right)
  ·congr 1;symm;change (Ge (bt s k)=false/\TK (bt s k)=false)/\bt s k≠95 at ar;simp [okB,ar]
  ·have ho:okB (bt s k)=true:=by
    change (Ge (bt s k)=true\/TK (bt s k)=true)\/¬ bt s k≠95 at ar;rcases ar with (h | h) | h
    ·simp [okB,h]
    ·simp [okB,h]
    ·simp [okB,Decidable.not_not.1 h]
   rw [ho,Bool.true_and];rw [zV aL,ho,Bool.true_and] at hf;rw [<- hf];apply aJ (k+1) ⟨by omega,by omega,hf⟩ (by omega)
   case hs1=>exact cj
   case ht=>(try simp only [Ze,Zf,Za]);exact .nil
 ·(refine Jq<|Jr<|Jv I<|Jv I<|ab (fv (.of I)) I ?_;refine JA I<|Jn<|Jc I fun ar=>Jp<|Jl<|Jo<|Jt<|Jr<|Ja I<|Jn<|Je<|JT ?_)
  rw [EM (by omega)]
theorem WI (s:ByteArray) (w:World):aj T_ 189 [.string s] w (.int .i64 (nmF s)):=by
 refine ah func189 I I ?_
 (refine Jr<|Ja I<|Ji<|Jv I<|ai bN I (fun w' aq=>(QF s w')) ?_;refine JH I<|ai aX I (fun w' aq=>(kB _ 8 w')) ?_;refine Ja I<|Jn<|Je<|JT ?_)
 rfl
theorem NS (v:Value) (es:List Int) (w:World) (h:Rd w v 1 (ints es)):aj T_ 28 [v] w (.int .i64 (aV es)):=by
 obtain ⟨a,cap,b,o,rfl,c8,bV,ha,hc⟩:=h;rw [c5] at *;unfold maxLen at bV;refine ah func28 I I ?_;refine Jr<|Ja I<|Jn<|Jq<|Jr<|Ja I<|Jn<|J0 ?_;refine aY (fun k:Nat=>k<=es.length/\aV es=aV (es.drop k)) (fun k=>[(3,.int .i64 k),(0,.slice a es.length cap)]) (fun _=>[]) (fun k=>es.length-k) ?_ ?_
 ·apply aK 0 ⟨Zi _,I⟩
  case hs1=>exact cj
  case ht=>(try simp only [Ze,Zf,Za]);exact .nil
 intro k ⟨hk,hf⟩;by_cases aL:k<es.length
 ·have cM:=ha (jI aL);have aF:=YU hc (iC aL);have hs:=sX aL
  (refine Jq<|Jr<|Jv I<|Jv I<|JI I<|JA I<|Jn<|Jd I fun ar=>Jk<|Jq<|J0<|Jr<|Jv I<|Jv I<|ab (gj cM ar) I ?_;refine ab (ag (.of I) (At.base aF I)) I ?_;refine JD I<|Jn<|gl I (fun ar=>?_) fun ar=>?_;refine Jr<|Jv I<|Jv I<|ab (az (.of I) (.of I) cM (by omega) (by assumption) ba) I ?_;refine ab (ag (.of I) (At.base aF I)) I ?_;refine Ja I<|Jn<|Je<|Jm<|Jh<|Jh<|Jm<|Jh<|JT ?_;rotate_left;refine Jw<|Jj<|Jt<|Jg<|Jv I<|JB I (by omega)<|Ja I<|Jn ?_;rotate_right)
  ·rw [hf,hs,if_pos ar]
  ·apply aJ (k+1) ⟨by omega,by rw [hf,hs,if_neg ar]⟩ (by omega)
   case hs1=>exact cj
   case ht=>(try simp only [Ze,Zf,Za]);exact .nil
 ·refine Jq<|Jr<|Jv I<|Jv I<|JI I<|JA I<|Jn<|Jc I fun ar=>Jp<|Jl<|Jo<|Jt<|Jr<|Ja I<|Jn<|Je<|JT ?_;rw [hf,List.drop_of_length_le (by omega)];rfl
theorem kq {v:Value} {cs:List Value} {es:List Int} {w:World} (h:Rd w v 1 (cs.map fun v=>[v])) (hl:bQ cs es):aj T_ 28 [v] w (.int .i64 (aV es)):=
 NS v es w (by rw [<- hl.eq];exact h)
theorem dP (h:Bool) (e:Int) (w:World):aj T_ 147 [.bool h,.int .i64 e] w (.int .i64 (bG h e)):=by
 refine ah func147 I I ?_
 (refine Jr<|Ja I<|Jn<|Jq<|Jr<|Jv I<|Jn<|oz I (fun ar=>?_) fun ar=>?_;refine Jr<|Jv I<|Ja I<|Jn<|Ju<|JT ?_;rotate_left;refine Jk<|Jr<|Ja I<|Jn<|Je<|JT ?_;rotate_right)
 all_goals simp [bG, *]
theorem mI (n l m:Int) (w:World):aj T_ 134 [.int .i64 n,.int .i64 l,.int .i64 m] w (.int .i64 (gH n l m)):=by
 refine ah func134 I I ?_
 (refine Jr<|Ja I<|Ji<|Jv I<|Jv I<|JA I<|Jv I<|fM I I I I ?_;refine fM I I I I ?_;refine aC I I inferInstance (fun hg br=>(mn (.bL hg I) (.bL hg I))) I ?_;refine ab (bX (.of I) I) I ?_;refine ai aX I (fun w' aq=>(dP _ 3 w')) ?_;refine Ja I<|Jn<|Je<|JT ?_)
 rfl
theorem NT (v:Value) (es:List Int) (w:World) (h:Rd w v 1 (ints es)):aj T_ 111 [v] w (.int .i64 (aV es)):=by
 obtain ⟨a,cap,b,o,rfl,c8,bV,ha,hc⟩:=h;rw [c5] at *;unfold maxLen at bV;refine ah func111 I I ?_;refine Jr<|Ja I<|Jn<|Jq<|Jr<|Jv I<|JI I<|Jv I<|Jn<|J0 ?_;refine aY (fun k:Nat=>k<=es.length/\aV es=aV (es.drop k)) (fun k=>[(7,.int .i64 k),(6,.int .i64 es.length),(5,.slice a es.length cap)]) (fun _=>[]) (fun k=>es.length-k) ?_ ?_
 ·apply aK 0 ⟨Zi _,I⟩
  case hs1=>exact cj
  case ht=>(try simp only [Ze,Zf,Za]);exact .nil
 intro k ⟨hk,hf⟩;by_cases aL:k<es.length
 ·have cM:=ha (jI aL);have aF:=YU hc (iC aL);have hs:=sX aL
  (refine Jr<|JA I<|Jn<|Jq<|Jd I fun ar=>Jk<|Jq<|J0<|Jr<|ab (gj cM ar) I ?_;refine ab (ag (.of I) (At.base aF I)) I ?_;refine Ja I<|Ji<|Jv I<|JD I<|Jn<|gl I (fun ar=>?_) fun ar=>?_;refine Jr<|Jv I<|Ja I<|Jn<|Je<|Jm<|Jh<|Jh<|Jm<|Jh<|JT ?_;rotate_left;refine Jw<|Jj<|Jt<|Jg<|JB I (by omega)<|Jv I<|Jn ?_;rotate_right)
  ·rw [hf,hs,if_pos ar]
  ·apply aJ (k+1) ⟨by omega,by rw [hf,hs,if_neg ar]⟩ (by omega)
   case hs1=>exact cj
   case ht=>(try simp only [Ze,Zf,Za]);exact .nil
 ·refine Jr<|JA I<|Jn<|Jq<|Jc I fun ar=>Jp<|Jl<|Jo<|Jt<|Jr<|Ja I<|Jn<|Je<|JT ?_;rw [hf,List.drop_of_length_le (by omega)];rfl
theorem dF {v:Value} {cs:List Value} {es:List Int} {w:World} (h:Rd w v 1 (cs.map fun v=>[v])) (hl:bQ cs es):aj T_ 111 [v] w (.int .i64 (aV es)):=
 NT v es w (by rw [<- hl.eq];exact h)
theorem Vd {s:ByteArray} {p:Nat} (h:p<s.size):bt s p=((s[p]'h).toNat:Nat):=by
 unfold bt;have:s.data.toList[p]? = some (s[p]'h):=by
  rw [Array.getElem?_toList];exact getElem?_pos s.data p h
 rw [this];rfl
theorem yZ {s:ByteArray} {p:Nat} (h:p<s.size):(bt s p<128/\((Utf8.decode s p).1:Int)=bt s p/\(Utf8.decode s p).2=1)\/(128<=bt s p/\(128:Int)<=(Utf8.decode s p).1/\1<=(Utf8.decode s p).2):=by
 rw [Vd h];by_cases ha:(s[p]'h).toNat<128
 ·have:=decode_ascii s p h ha
  left;rw [this];exact ⟨by omega,I,I⟩
 ·have:=decode_high s p h (by omega)
  right;omega
theorem BF {s:ByteArray}:s.size=0↔s=⟨#[]⟩:=by
 constructor
 ·intro h;have:s.data=#[]:=Array.eq_empty_of_size_eq_zero h;cases s;simp_all
 ·rintro rfl;rfl
theorem EW {c:Int}:Ge c=true↔(65<=c/\c<=90)\/(97<=c/\c<=122):=by simp [Ge]
theorem zW {c:Int}:okB c=true↔((65<=c/\c<=90)\/(97<=c/\c<=122))\/(48<=c/\c<=57)\/c=95:=by simp [okB,Ge,TK,or_assoc]
theorem Dn (s:ByteArray) (w:World):aj T_ 187 [.string s] w (.bool (kg s)):=by
 refine ah func187 I I ?_
 (refine Jr<|Ja I<|Jn<|Jq<|Jr<|Jv I<|bb (FX (.of I)) I fun _ _=>?_;refine Jn<|J0 ?_)
 rename_i bi hbi;refine aY (fun p:Nat=>p<=s.size/\(p=0\/(1<=p/\Ge (bt s 0)=true/\okF s 1=okF s p))) (fun _=>[(7,.pointer (some ⟨bi,0,none⟩)),(0,.string s)]) (fun p=>[bC bi (.stringIter s p)]) (fun p=>s.size-p) ?_ ?_
 ·apply aK 0 ⟨by omega,.inl I⟩
  case hs1=>exact cj
  case ht=>(try simp only [Ze,Zf,Za]);exact .cons .here .nil
 intro p ⟨hp,hI⟩
 (refine Jr<|Ht (.of I) .here I (fun aL=>?_) fun aL=>?_;refine JJ I I<|Jn<|Jq<|cE (.of I) ?_;refine Jk<|J0<|Jr<|JJ I I<|JJ I I<|Ja I<|Ja I<|Ji<|Jv I<|JG I<|Jv I<|fM I I I I ?_;refine aC I I inferInstance (fun hg br=>(lh (.bL hg I) (.of I))) I ?_;refine ab (bH (.of I) I) I ?_;refine Jv I<|fM I I I I ?_;refine aC I I inferInstance (fun hg br=>(zK (.bL hg I) (.of I))) I ?_;refine aC I I inferInstance (fun hg br=>(aZ (.bL hg I))) I ?_;refine ek I I inferInstance (fun hg br=>(aZ (.of I))) I ?_;refine ek I I inferInstance (fun hg br=>(lh (.bL hg I) (.of I))) I ?_;refine aC I I inferInstance (fun hg br=>(gM hg (.bL hg I) I)) I ?_;refine ab (bX (.of I) I) I ?_;refine Ja I<|Ji<|Jv I<|JH I<|Jv I<|fM I I I I ?_;refine aC I I inferInstance (fun hg br=>(jE (.bL hg I) (.of I))) I ?_;refine aC I I inferInstance (fun hg br=>(aZ (.bL hg I))) I ?_;refine ek I I inferInstance (fun hg br=>(aZ (.of I))) I ?_;refine ek I I inferInstance (fun hg br=>(mm (.bL hg I) (.of I))) I ?_;refine ek I I inferInstance (fun hg br=>(aZ (.bL hg I))) I ?_;refine ek I I inferInstance (fun hg br=>(aZ (.of I))) I ?_;refine ek I I inferInstance (fun hg br=>(mn (.bL hg I) (.of I))) I ?_;refine ek I I inferInstance (fun hg br=>(ju hg (.bL hg I) I)) I ?_;refine ek I I inferInstance (fun hg br=>(aZ (.bL hg I))) I ?_;refine ek I I inferInstance (fun hg br=>(aZ (.of I))) I ?_;refine ek I I inferInstance (fun hg br=>(fZ (.bL hg I) (.of I))) I ?_;refine ek I I inferInstance (fun hg br=>(gM hg (.bL hg I) I)) I ?_;refine aC I I inferInstance (fun hg br=>(ju hg (.bL hg I) I)) I ?_;refine ab (bH (.of I) I) I ?_;refine Jn<|oz I (fun ar=>?_) fun ar=>?_;refine Jr<|Ja I<|Jn<|Je<|Jm<|Jh<|Jm<|Jh<|JT ?_;rotate_left;refine Jw<|Jj<|Jt ?_;rotate_right;rotate_left 2;refine JJ I I<|Jn<|Jq<|bR (.of I) ?_;refine Jp<|Jl<|Jo<|Jt<|Jr<|Jv I<|ab (ig (.of I) (.of I)) I ?_;refine Jv I<|fM I I I I ?_;refine aC I I inferInstance (fun hg br=>(fv (.bL hg I))) I ?_;refine aC I I inferInstance (fun hg br=>(lh (.bL hg I) (.of I))) I ?_;refine ab (bH (.of I) I) I ?_;refine Ja I<|Jn<|Je<|JT ?_;rotate_right 2)
 ·congr 1;symm;unfold kg;have hd:=yZ aL;rcases hI with rfl | ⟨h1,h2,h3⟩
  ·have:Ge (bt s 0)=false:=by rw [<- Bool.not_eq_true,EW];omega
   simp [this]
  ·have:okF s p=false:=by
    rw [zV aL];have:okB (bt s p)=false:=by rw [<- Bool.not_eq_true,zW];omega
    rw [this];rfl
   rw [h3,this];simp
 ·have hd:=yZ aL;have ho:okB (bt s p)=true:=by rw [zW];omega
  have hw:(Utf8.decode s p).2=1:=by rw [zW] at ho;omega
  rw [hw];have hn:Ge (bt s 0)=true/\okF s 1=okF s (p+1):=by
   rcases hI with rfl | ⟨h1,h2,h3⟩
   ·refine ⟨?_,I⟩;rw [EW];omega
   ·exact ⟨h2,by rw [h3,zV aL,ho];rfl⟩
  apply aJ (p+1) ⟨by omega,.inr ⟨by omega,hn⟩⟩ (by omega)
  case hs1=>exact cj
  case ht=>(try simp only [Ze,Zf,Za]);exact .cons .here .nil
 ·unfold kg;congr 1;by_cases h0:s.size=0
  ·have:s=⟨#[]⟩:=BF.1 h0;rw [decide_eq_false (p:=s≠⟨#[]⟩) (fun h=>h this),decide_eq_false (p:=0<s.size) (by omega)];rfl
  ·rw [decide_eq_true (p:=s≠⟨#[]⟩) (fun h=>h0 (BF.2 h)),decide_eq_true (p:=0<s.size) (by omega)]
   rcases hI with rfl | ⟨h1,h2,h3⟩
   ·omega
   ·rw [h2,h3,EM (by omega)];simp;omega
def Sr.cells (x:Sr):List Value:=[.string x.nm,.int .i64 x.mx]
def wW (l:List Sr):List (List Value):=l.map Sr.cells
def oH (l:List Sr):List Value:=(wW l).flatten
theorem cu (l:List Sr):(wW l).length=l.length:=by simp [wW]
theorem fk {l:List Sr} {k:Nat} (h:k<l.length):(wW l)[k]? = some ((Sr.cells) l[k]):=by simp [wW,h]
theorem gL {l:List Sr} {k:Nat} (h:k<l.length):wW l≠[]:=by intro e;have:=congrArg List.length e;rw [cu] at this;simp at this;subst this;simp at h
theorem HI (l:List Sr):∀ r∈wW l,r.length=2:=fun r hr=>by obtain ⟨x,_,rfl⟩:=List.mem_map.1 hr;rfl
theorem Mq (l:List Sr):∀ r∈wW l,∀ u∈r,u.oneCell'=true:=fun r hr=>by obtain ⟨x,_,rfl⟩:=List.mem_map.1 hr;exact bJ rfl (bJ rfl (gO))
theorem Ex (l:List Sr):(oH l).length=l.length*2:=by unfold oH;rw [fU (HI l),cu]
theorem Mp (a b:List Sr):oH (a++b)=oH a++oH b:=by unfold oH wW;rw [List.map_append,List.flatten_append]
theorem Bc {l:List Sr} {k:Nat} (h:k<l.length):oH (l.take (k+1))=oH (l.take k)++(Sr.cells) l[k]:=by rw [List.take_succ_eq_append_getElem h,Mp];unfold oH wW;simp
theorem du {c:Cx} {hs hs':List a8} {w:World} {l:List Sr} {E:TypeId} {v:Value} {n:Nat} (hm:Mem c hs w) (ht:Take hs (row E 2 v n (oH l)) hs') (hn:l.length=n):Rd w v 2 (wW l):=hm.qx ht I (HI l) (by rw [cu,hn])
def De.cells (x:De):List Value:=[.string x.nm,.int .i64 x.mx,.bool x.pr]
def wq (l:List De):List (List Value):=l.map De.cells
def l7 (l:List De):List Value:=(wq l).flatten
theorem bZ (l:List De):(wq l).length=l.length:=by simp [wq]
theorem fu {l:List De} {k:Nat} (h:k<l.length):(wq l)[k]? = some ((De.cells) l[k]):=by simp [wq,h]
theorem gS {l:List De} {k:Nat} (h:k<l.length):wq l≠[]:=by intro e;have:=congrArg List.length e;rw [bZ] at this;simp at this;subst this;simp at h
theorem DP (l:List De):∀ r∈wq l,r.length=3:=fun r hr=>by obtain ⟨x,_,rfl⟩:=List.mem_map.1 hr;rfl
theorem N7 (l:List De):∀ r∈wq l,∀ u∈r,u.oneCell'=true:=fun r hr=>by obtain ⟨x,_,rfl⟩:=List.mem_map.1 hr;exact bJ rfl (bJ rfl (bJ rfl (gO)))
theorem Fl (l:List De):(l7 l).length=l.length*3:=by unfold l7;rw [fU (DP l),bZ]
theorem N6 (a b:List De):l7 (a++b)=l7 a++l7 b:=by unfold l7 wq;rw [List.map_append,List.flatten_append]
theorem Ca {l:List De} {k:Nat} (h:k<l.length):l7 (l.take (k+1))=l7 (l.take k)++(De.cells) l[k]:=by rw [List.take_succ_eq_append_getElem h,N6];unfold l7 wq;simp
theorem dw {c:Cx} {hs hs':List a8} {w:World} {l:List De} {E:TypeId} {v:Value} {n:Nat} (hm:Mem c hs w) (ht:Take hs (row E 3 v n (l7 l)) hs') (hn:l.length=n):Rd w v 3 (wq l):=hm.qx ht I (DP l) (by rw [bZ,hn])
def Ti.cells (x:Ti):List Value:=[.string x.nm,.int .i64 x.fr,.int .i64 x.to]
def u9 (l:List Ti):List (List Value):=l.map Ti.cells
def qH (l:List Ti):List Value:=(u9 l).flatten
theorem bO (l:List Ti):(u9 l).length=l.length:=by simp [u9]
theorem dY {l:List Ti} {k:Nat} (h:k<l.length):(u9 l)[k]? = some ((Ti.cells) l[k]):=by simp [u9,h]
theorem eO {l:List Ti} {k:Nat} (h:k<l.length):u9 l≠[]:=by intro e;have:=congrArg List.length e;rw [bO] at this;simp at this;subst this;simp at h
theorem HC (l:List Ti):∀ r∈u9 l,r.length=3:=fun r hr=>by obtain ⟨x,_,rfl⟩:=List.mem_map.1 hr;rfl
theorem Md (l:List Ti):∀ r∈u9 l,∀ u∈r,u.oneCell'=true:=fun r hr=>by obtain ⟨x,_,rfl⟩:=List.mem_map.1 hr;exact bJ rfl (bJ rfl (bJ rfl (gO)))
theorem Et (l:List Ti):(qH l).length=l.length*3:=by unfold qH;rw [fU (HC l),bO]
theorem Mc (a b:List Ti):qH (a++b)=qH a++qH b:=by unfold qH u9;rw [List.map_append,List.flatten_append]
theorem Ba {l:List Ti} {k:Nat} (h:k<l.length):qH (l.take (k+1))=qH (l.take k)++(Ti.cells) l[k]:=by rw [List.take_succ_eq_append_getElem h,Mc];unfold qH u9;simp
theorem dq {c:Cx} {hs hs':List a8} {w:World} {l:List Ti} {E:TypeId} {v:Value} {n:Nat} (hm:Mem c hs w) (ht:Take hs (row E 3 v n (qH l)) hs') (hn:l.length=n):Rd w v 3 (u9 l):=hm.qx ht I (HC l) (by rw [bO,hn])
def Po.cells (x:Po):List Value:=[.int .i64 x.lv,.string x.ou,.string x.ip]
def ud (l:List Po):List (List Value):=l.map Po.cells
def jC (l:List Po):List Value:=(ud l).flatten
theorem cT (l:List Po):(ud l).length=l.length:=by simp [ud]
theorem iN {l:List Po} {k:Nat} (h:k<l.length):(ud l)[k]? = some ((Po.cells) l[k]):=by simp [ud,h]
theorem kD {l:List Po} {k:Nat} (h:k<l.length):ud l≠[]:=by intro e;have:=congrArg List.length e;rw [cT] at this;simp at this;subst this;simp at h
theorem Ii (l:List Po):∀ r∈ud l,r.length=3:=fun r hr=>by obtain ⟨x,_,rfl⟩:=List.mem_map.1 hr;rfl
theorem EH (l:List Po):∀ r∈ud l,∀ u∈r,u.oneCell'=true:=fun r hr=>by obtain ⟨x,_,rfl⟩:=List.mem_map.1 hr;exact bJ rfl (bJ rfl (bJ rfl (gO)))
theorem jF (l:List Po):(jC l).length=l.length*3:=by unfold jC;rw [fU (Ii l),cT]
theorem MJ (a b:List Po):jC (a++b)=jC a++jC b:=by unfold jC ud;rw [List.map_append,List.flatten_append]
theorem Bz {l:List Po} {k:Nat} (h:k<l.length):jC (l.take (k+1))=jC (l.take k)++(Po.cells) l[k]:=by rw [List.take_succ_eq_append_getElem h,MJ];unfold jC ud;simp
theorem cX {c:Cx} {hs hs':List a8} {w:World} {l:List Po} {E:TypeId} {v:Value} {n:Nat} (hm:Mem c hs w) (ht:Take hs (row E 3 v n (jC l)) hs') (hn:l.length=n):Rd w v 3 (ud l):=hm.qx ht I (Ii l) (by rw [cT,hn])
def fG (l:List ByteArray):List (List Value):=l.map fun s=>[.string s]
def aM (l:List ByteArray):List Value:=l.map Value.string
theorem bA (l:List ByteArray):(fG l).length=l.length:=by simp [fG]
theorem fF {l:List ByteArray} {k:Nat} (h:k<l.length):(fG l)[k]? = some [.string l[k]]:=by simp [fG,h]
theorem iy {l:List ByteArray} {k:Nat} (h:k<l.length):fG l≠[]:=by intro e;have:=congrArg List.length e;rw [bA] at this;simp at this;subst this;simp at h
theorem HE (l:List ByteArray):∀ r∈fG l,r.length=1:=fun r hr=>by obtain ⟨x,_,rfl⟩:=List.mem_map.1 hr;rfl
theorem ux (l:List ByteArray):∀ r∈fG l,∀ u∈r,u.oneCell'=true:=fun r hr=>by obtain ⟨x,_,rfl⟩:=List.mem_map.1 hr;exact bJ rfl gO
theorem oD (l:List ByteArray):aM l=(fG l).flatten:=by
 induction l with
 | nil=>rfl
 | cons x l ih=>show [Value.string x]++aM l=_;rw [ih];rfl
theorem dd (l:List ByteArray):(aM l).length=l.length:=by simp [aM]
theorem eQ (a b:List ByteArray):aM (a++b)=aM a++aM b:=by simp [aM]
theorem dL {c:Cx} {hs hs':List a8} {w:World} {l:List ByteArray} {E:TypeId} {v:Value} {n:Nat} (hm:Mem c hs w) (ht:Take hs (row E 1 v n (aM l)) hs') (hn:l.length=n):Rd w v 1 (fG l):=hm.qx ht (oD l) (HE l) (by rw [bA,hn])
structure RR (w:World) (r:Ro) (s d t p:Value):Prop where
 sr:Rd w s 2 (wW r.sr)
 de:Rd w d 3 (wq r.de)
 ti:Rd w t 3 (u9 r.ti)
 po:Rd w p 3 (ud r.po)
theorem RR.keeps {w w':World} {r:Ro} {s d t p:Value} (h:RR w r s d t p) (hk:aD [] w w'):RR w' r s d t p:=⟨h.sr.keeps hk,h.de.keeps hk,h.ti.keeps hk,h.po.keeps hk⟩
def RA (r:Ro) (s d t p:Value):Value:=.agg #[.int .i64 r.lv,.int .i64 r.ma,s,d,t,p]
abbrev JQ (b:Nat) (r:Ro) (s d t p:Value):a8:=bC b (.cells #[.int .i64 r.lv,.int .i64 r.ma,s,d,t,p] 27 (0,0))
abbrev JP (b:Nat) (r:Ro) (s d t p:Value):a8:=bC b (.cells #[.int .i64 r.lv,.int .i64 r.ma,s,d,t,p] 41 (0,0))
abbrev J1 (r:Ro) (v:Value):a8:=row 186 2 v r.sr.length (oH r.sr)
abbrev J2 (r:Ro) (v:Value):a8:=row 90 3 v r.de.length (l7 r.de)
abbrev J3 (r:Ro) (v:Value):a8:=row 187 3 v r.ti.length (qH r.ti)
abbrev J4 (r:Ro) (v:Value):a8:=row 188 3 v r.po.length (jC r.po)
abbrev JW (v:Value) (l:List ByteArray):a8:=row 9 1 v l.length (aM l)
end Go.Proofs.A1
namespace Go.SL
open Go
def Lj (As:List a8):a8 where
 sat h fp:=ch h As fp
 loc:=fun hs hb=>hs.loc hb
 own:=fun hs b hb=>hs.own b hb
def fA (E:TypeId):List Value->List (List Value)->List a8
 | v::vs,x::xs=>row E 1 v x.length x::fA E vs xs
 | _,_=>[]
def jn (E:TypeId) (vs:List Value) (xs:List (List Value)):a8:=Lj (fA E vs xs)
theorem yA {E:TypeId} {v:Value} {x:List Value}:∀ {vs:List Value} {xs:List (List Value)} {j:Nat},vs[j]? = some v->xs[j]? = some x->∃ r,Take (fA E vs xs) (row E 1 v x.length x) r
 | [],_,j,h,_=>by simp at h
 | _::_,[],j,_,h=>by simp at h
 | v' :: vs, x' :: xs, 0, h1, h2 => by
  simp only [List.getElem?_cons_zero,Option.some.injEq] at h1 h2;subst h1 h2;exact ⟨_,.here⟩
 | v' :: vs, x' :: xs, j + 1, h1, h2 => by
  simp only [List.getElem?_cons_succ] at h1 h2;obtain ⟨r,hr⟩:=yA h1 h2;exact ⟨_,.there hr⟩
theorem yC {E:TypeId} {v:Value} {x:List Value}:∀ {vs:List Value} {xs:List (List Value)},vs.length=xs.length->fA E (vs++[v]) (xs++[x])=fA E vs xs++[row E 1 v x.length x]
 | [],[],_=>rfl
 | [],_::_,h=>by simp at h
 | _::_,[],h=>by simp at h
 | v' :: vs, x' :: xs, h => by
  simp only [List.length_cons,Nat.add_right_cancel_iff] at h;simp only [Zb,fA,yC h]
theorem Mem.vq {c:Cx} {hs hs':List a8} {w:World} {E:TypeId} {vs:List Value} {xs:List (List Value)} {j:Nat} {v:Value} {x:List Value} (hm:Mem c hs w) (ht:Take hs (jn E vs xs) hs') (hv:vs[j]? = some v) (hx:xs[j]? = some x):Rd w v 1 (x.map fun u=>[u]):=by
 obtain ⟨k,fp,hn,⟨f1,f2,rfl,h1,h2⟩,hb⟩:=hm.take ht;have k9:Mem c (fA E vs xs++hs') w:=⟨k,f1++f2,hn,ch.append_iff.2 ⟨f1,f2,I,h1,h2⟩,hb⟩;obtain ⟨r,hr⟩:=yA (E:=E) hv hx;exact k9.H4 (hr.append hs') I
section
variable {P:Program} {r:Option Nat} {c:Cx} {D:List Nat} {sl:aI} {hs hs':List a8} {X:Act->World->Prop} {Q:Exit->Act->World->Prop} {ι:Type}
variable {ops:Array Oper} {d:Nat} {ty:TypeId} {pos:String} {af:Array Edge} {rest:List Oper}
theorem lg {E:TypeId} {vs:List Value} {xs:List (List Value)} {v:Value} {x:List Value} {n:Nat} {h1 h2:List a8} (ht:Take hs (jn E vs xs) h1) (ht2:Take h1 (row E 1 v n x) h2) (hn:n=x.length) (hl:vs.length=xs.length)
  (k:Tr c D sl (jn E (vs++[v]) (xs++[x])::h2) X):Tr c D sl hs X:=fun a w a7=>by
 subst hn;have hT:bn hs [jn E vs xs,row E 1 v x.length x] h2:=.cons ht (.cons ht2 .nil);have hm:=a7.mem.jd (hT.append (mC D));obtain ⟨kk,fp,tK,⟨f1,Z2,rfl,g1,⟨f2,f3,rfl,g2,g3⟩⟩,hb⟩:=hm;refine k a w (a7.heap ⟨kk,(f1++f2)++f3,by rw [Zh];exact tK,⟨f1++f2,f3,I,?_,g3⟩,by rw [Zh];exact hb⟩);show ch (hp w) (fA E (vs++[v]) (xs++[x])) (f1++f2);rw [yC hl];exact ch.append_iff.2 ⟨f1,f2,I,g1,⟨f2,[],by simp,g2,I⟩⟩
theorem jY (E:TypeId) (k:Tr c D sl (jn E [] []::hs) X):Tr c D sl hs X:=fun a w a7=>
 k a w (a7.heap (Mem.change (As := []) (Bs := [jn E [] []]) a7.mem fun fp _ hf => by
  rw [show fp=[] from hf];exact ⟨.refl _ _,[],List.nodup_nil,⟨[],[],I,I,I⟩,by simp⟩))
theorem xV {As:List a8} (ht:Take hs (Lj As) hs') (k:Tr c D sl (As++hs') X):Tr c D sl hs X:=fun a w a7=>by
 obtain ⟨kk,fp,hn,⟨f1,f2,rfl,h1,h2⟩,hb⟩:=a7.mem.take (ht.append _);exact k a w (a7.heap ⟨kk,f1++f2,hn,by rw [Zh];exact ch.append_iff.2 ⟨f1,f2,I,h1,h2⟩,hb⟩)
theorem su {As:List a8} (ht:bn hs As hs') (k:Tr c D sl (Lj As::hs') X):Tr c D sl hs X:=fun a w a7=>by
 obtain ⟨kk,fp,hn,gQ,hb⟩:=a7.mem.jd (ht.append (mC D));obtain ⟨f1,f2,rfl,h1,h2⟩:=ch.append_iff.1 gQ;exact k a w (a7.heap ⟨kk,f1++f2,hn,⟨f1,f2,I,h1,h2⟩,hb⟩)
theorem gp {op:Op} {f:FuncId} {args:List Value} {As:List a8} {Φ:ι->Prop} {val:ι->Value} {own:ι->List a8} (hr:lR P sl ⟨some d,op,ty,pos,af,none⟩ f args) (hd:Nat.blt d c.nt=true) (ht:bn hs As hs')
  (hc:∀ w fp,Mem c hs w->fp.Nodup->ch (hp w) As fp->(∀ b∈fp,b∈c.md\/c.w0.heap.size<=b)->(∀ b o h2,Take hs' (bC b o) h2->b ∉ fp)->bh P f args w fp Φ val own)
  (k:∀ x,Φ x->Tr c D ((d,val x)::sl) (own x++hs') (WL P r ops Q rest)):Tr c D sl hs (WL P r ops Q (⟨some d,op,ty,pos,af,none⟩::rest)):=fun a w a7=>by
 have hm:=a7.mem.jd (ht.append (mC D));obtain ⟨kk,fp,hn,gQ,hb⟩:=hm;obtain ⟨f1,f2,rfl,h1,h2⟩:=ch.append_iff.1 gQ;obtain ⟨n1,n2,n12⟩:=List.nodup_append.1 hn;have kU:∀ b o h3,Take hs' (bC b o) h3->b ∉ f1:=fun b o h3 htk NF=>by
  obtain ⟨g1,g2,⟨e1,_⟩,_,hp⟩:=ch.take (htk.append (mC D)) h2;have:b∈f2:=hp.mem_iff.2 (List.mem_append_left _ (by rw [e1];simp));exact n12 b NF b this I
 refine zl I hr a7.cP (hc w f1 a7.qP n1 h1 (fun b dD=>(hb b (List.mem_append_left _ dD)).symm) kU) fun e w' ⟨x,he,hx,hk,lN,tK,hs',yS⟩=>⟨val x,he,k x hx _ _ ((a7.put (by simpa [Nat.blt_eq] using hd) (val x)).heap ?_)⟩;have aL:∀ b∈f2,b<w.heap.size:=fun b dD=>let ⟨o,ho⟩:=h2.own b dD;ki ho
 rw [Zh];refine ⟨?_,lN++f2,?_,ch.append_iff.2 ⟨lN,f2,I,hs',h2.loc fun b dD=>?_⟩,?_⟩
 ·refine ⟨hk.os.trans kk.os,hk.tape.trans kk.tape,hk.output.trans kk.output,Nat.le_trans kk.dr hk.dr,Nat.le_trans kk.size hk.size,fun b dD hm=>?_⟩;rw [<- kk.block b dD hm];refine hk.block b (Nat.lt_of_lt_of_le dD kk.size) (fun hf=>?_);rcases hb b (List.mem_append_left _ hf) with h | h
  ·omega
  ·exact hm h
 ·refine List.nodup_append.2 ⟨tK,n2,fun x hx y hy e=>?_⟩;subst e;rcases yS x hx with h | h
  ·exact n12 x h x hy I
  ·have:=aL x hy;omega
 ·exact hk.block b (aL b dD) (fun hf=>n12 b hf b dD I)
 ·intro b dD;rcases List.mem_append.1 dD with h | h
  ·rcases yS b h with h | h
   ·exact hb b (List.mem_append_left _ h)
   ·exact .inl (Nat.le_trans kk.size h)
  ·exact hb b (List.mem_append_right _ h)
end
end Go.SL
namespace Go.Proofs.A1
open Go Go.SL
open Tryz
open Tryz renaming prog->T_
def ia {α:Type} (p:α->Bool) (l:List α):Int:=((List.range l.length).find? fun i=>(l[i]?.map p).getD false).elim (-1) (fun i=>(i:Int))
theorem gP {α:Type} {p:α->Bool} {l:List α} {k:Nat} (h:∀ i,i<k->(l[i]?.map p).getD false=false) (hk:k<l.length) (hp:p l[k]=true):ia p l=k:=by
 unfold ia;have:(List.range l.length).find? (fun i=>(l[i]?.map p).getD false)=some k:=by
  rw [List.find?_range_eq_some];exact ⟨by simp [hk,hp],by simpa using hk,fun i hi=>by simpa using h i hi⟩
 rw [this];rfl
theorem fO {α:Type} {p:α->Bool} {l:List α} (h:∀ i,i<l.length->(l[i]?.map p).getD false=false):ia p l = -1:=by
 unfold ia;have:(List.range l.length).find? (fun i=>(l[i]?.map p).getD false)=none:=by
  rw [List.find?_eq_none];intro i hi;simp [h i (List.mem_range.1 hi)]
 rw [this];rfl
theorem kh {α:Type} (p:α->Bool) (l:List α):decide (0<=ia p l)=l.any p:=by
 unfold ia;cases h:(List.range l.length).find? fun i=>(l[i]?.map p).getD false with
 | none =>
  have:l.any p=false:=by
   rw [List.any_eq_false];intro x hx;obtain ⟨i,hi,rfl⟩:=List.getElem_of_mem hx;have:=List.find?_eq_none.1 h i (List.mem_range.2 hi);simpa [hi] using this
  rw [this];rfl
 | some i =>
  have h1:=List.mem_range.1 (List.mem_of_find?_eq_some h);have h2:=List.find?_some h;have:l.any p=true:=by
   rw [List.any_eq_true];exact ⟨l[i],Zj h1,by simpa [h1] using h2⟩
  rw [this];simp
theorem EZ {lv:Value} {l:List Sr} {p:Sr->Bool} {f:FuncId} {first cap:List Value} [bU T_ f] {w:World} (h:Rd w lv 2 (wW l)) (cn:∀ x∈l,∀ w',aD [] w w'->aj T_ f (first++[.agg x.cells.toArray]++cap) w' (.bool (p x))) :
  aj T_ 263 [lv,.func (.func f) first.toArray cap.toArray] w (.int .i64 (ia p l)):=by
 obtain ⟨a,cp,b,o,rfl,c8,bV,ha,hc⟩:=h;rw [cu] at *;unfold maxLen at bV;refine ah func263 I I ?_;refine Jr<|Ja I<|Jn<|Jq<|Jr<|Jv I<|JI I<|Jv I<|Jn<|J0 ?_;refine aY (fun k:Nat=>k<=l.length/\∀ i,i<k->(l[i]?.map p).getD false=false) (fun k=>[(8,.int .i64 k),(7,.int .i64 l.length),(0,.slice a l.length cp),(1,.func (.func f) first.toArray cap.toArray)]) (fun _=>[]) (fun k=>l.length-k) ?_ ?_
 ·apply aK 0 ⟨Zi _,fun i h=>by omega⟩
  case hs1=>exact cj
  case ht=>(try simp only [Ze,Zf,Za]);exact .nil
 rintro k ⟨hk,hf⟩;by_cases aL:k<l.length
 ·have cM:=ha (gL aL);have aF:=(hc k _ (fk aL)).2;have iH:=cn _ (Zj aL);have hps:(l[k]?.map p).getD false=p l[k]:=by simp [aL]
  unfold Sr.cells at aF iH
  (refine Jr<|JA I<|Jn<|Jq<|Jd I fun ar=>Jk<|Jq<|J0<|Jr<|Jv I<|Ja I<|Ji<|Jv I<|Jv I<|Jv I<|ab (gj cM ar) I ?_;refine ab (iI (eU.base aF I)) I ?_;refine ai bN I (fun w' aq=>(iH w' (Mem.keeps aq))) ?_;refine Jn<|oz I (fun ar=>?_) fun ar=>?_;refine Jr<|Jv I<|Ja I<|Jn<|Je<|Jm<|Jh<|Jh<|Jm<|Jh<|JT ?_;rotate_left;refine Jw<|Jj<|Jt<|Jg<|JB I (by omega)<|Jv I<|Jn ?_;rotate_right)
  ·rw [gP hf aL ar]
  ·apply aJ (k+1) ⟨by omega,fun i hi=>by
    by_cases e:i=k
    ·rw [e,hps];exact ar
    ·exact hf i (by omega)⟩ (by omega)
   case hs1=>exact cj
   case ht=>(try simp only [Ze,Zf,Za]);exact .nil
 ·obtain rfl:k=l.length:=by omega
  refine Jr<|JA I<|Jn<|Jq<|Jc I fun ar=>Jp<|Jl<|Jo<|Jt<|Jr<|Ja I<|Jn<|Je<|JT ?_;rw [fO hf]
theorem NH {lv:Value} {l:List Sr} {p:Sr->Bool} {f:FuncId} {first cap:List Value} [bU T_ f] {w:World} (h:Rd w lv 2 (wW l)) (cn:∀ x∈l,∀ w',aD [] w w'->aj T_ f (first++[.agg x.cells.toArray]++cap) w' (.bool (p x))) :
  aj T_ 227 [lv,.func (.func f) first.toArray cap.toArray] w (.bool (l.any p)):=by
 have iH:∀ w',aD [] w w'->aj T_ 263 [lv,.func (.func f) first.toArray cap.toArray] w' (.int .i64 (ia p l)):=fun w' hk=>
  EZ (h.keeps hk) fun x hx w2 eR=>cn x hx w2 (hk.trans eR)
 rw [<- kh];refine ah func227 I I ?_
 (refine Jr<|Ja I<|Ji<|Jv I<|Jv I<|ai aX I (fun w' aq=>(iH w' (Mem.keeps aq))) ?_;refine JG I<|Ja I<|Jn<|Je<|JT ?_)
 rfl
theorem Nl {lv:Value} {l:List De} {p:De->Bool} {f:FuncId} {first cap:List Value} [bU T_ f] {w:World} (h:Rd w lv 3 (wq l)) (cn:∀ x∈l,∀ w',aD [] w w'->aj T_ f (first++[.agg x.cells.toArray]++cap) w' (.bool (p x))) :
  aj T_ 242 [lv,.func (.func f) first.toArray cap.toArray] w (.int .i64 (ia p l)):=by
 obtain ⟨a,cp,b,o,rfl,c8,bV,ha,hc⟩:=h;rw [bZ] at *;unfold maxLen at bV;refine ah func242 I I ?_;refine Jr<|Ja I<|Jn<|Jq<|Jr<|Jv I<|JI I<|Jv I<|Jn<|J0 ?_;refine aY (fun k:Nat=>k<=l.length/\∀ i,i<k->(l[i]?.map p).getD false=false) (fun k=>[(8,.int .i64 k),(7,.int .i64 l.length),(0,.slice a l.length cp),(1,.func (.func f) first.toArray cap.toArray)]) (fun _=>[]) (fun k=>l.length-k) ?_ ?_
 ·apply aK 0 ⟨Zi _,fun i h=>by omega⟩
  case hs1=>exact cj
  case ht=>(try simp only [Ze,Zf,Za]);exact .nil
 rintro k ⟨hk,hf⟩;by_cases aL:k<l.length
 ·have cM:=ha (gS aL);have aF:=(hc k _ (fu aL)).2;have iH:=cn _ (Zj aL);have hps:(l[k]?.map p).getD false=p l[k]:=by simp [aL]
  unfold De.cells at aF iH
  (refine Jr<|JA I<|Jn<|Jq<|Jd I fun ar=>Jk<|Jq<|J0<|Jr<|Jv I<|Ja I<|Ji<|Jv I<|Jv I<|Jv I<|ab (gj cM ar) I ?_;refine ab (iI (eU.base aF I)) I ?_;refine ai bN I (fun w' aq=>(iH w' (Mem.keeps aq))) ?_;refine Jn<|oz I (fun ar=>?_) fun ar=>?_;refine Jr<|Jv I<|Ja I<|Jn<|Je<|Jm<|Jh<|Jh<|Jm<|Jh<|JT ?_;rotate_left;refine Jw<|Jj<|Jt<|Jg<|JB I (by omega)<|Jv I<|Jn ?_;rotate_right)
  ·rw [gP hf aL ar]
  ·apply aJ (k+1) ⟨by omega,fun i hi=>by
    by_cases e:i=k
    ·rw [e,hps];exact ar
    ·exact hf i (by omega)⟩ (by omega)
   case hs1=>exact cj
   case ht=>(try simp only [Ze,Zf,Za]);exact .nil
 ·obtain rfl:k=l.length:=by omega
  refine Jr<|JA I<|Jn<|Jq<|Jc I fun ar=>Jp<|Jl<|Jo<|Jt<|Jr<|Ja I<|Jn<|Je<|JT ?_;rw [fO hf]
theorem Nj {lv:Value} {l:List Ti} {p:Ti->Bool} {f:FuncId} {first cap:List Value} [bU T_ f] {w:World} (h:Rd w lv 3 (u9 l)) (cn:∀ x∈l,∀ w',aD [] w w'->aj T_ f (first++[.agg x.cells.toArray]++cap) w' (.bool (p x))) :
  aj T_ 246 [lv,.func (.func f) first.toArray cap.toArray] w (.int .i64 (ia p l)):=by
 obtain ⟨a,cp,b,o,rfl,c8,bV,ha,hc⟩:=h;rw [bO] at *;unfold maxLen at bV;refine ah func246 I I ?_;refine Jr<|Ja I<|Jn<|Jq<|Jr<|Jv I<|JI I<|Jv I<|Jn<|J0 ?_;refine aY (fun k:Nat=>k<=l.length/\∀ i,i<k->(l[i]?.map p).getD false=false) (fun k=>[(8,.int .i64 k),(7,.int .i64 l.length),(0,.slice a l.length cp),(1,.func (.func f) first.toArray cap.toArray)]) (fun _=>[]) (fun k=>l.length-k) ?_ ?_
 ·apply aK 0 ⟨Zi _,fun i h=>by omega⟩
  case hs1=>exact cj
  case ht=>(try simp only [Ze,Zf,Za]);exact .nil
 rintro k ⟨hk,hf⟩;by_cases aL:k<l.length
 ·have cM:=ha (eO aL);have aF:=(hc k _ (dY aL)).2;have iH:=cn _ (Zj aL);have hps:(l[k]?.map p).getD false=p l[k]:=by simp [aL]
  unfold Ti.cells at aF iH
  (refine Jr<|JA I<|Jn<|Jq<|Jd I fun ar=>Jk<|Jq<|J0<|Jr<|Jv I<|Ja I<|Ji<|Jv I<|Jv I<|Jv I<|ab (gj cM ar) I ?_;refine ab (iI (eU.base aF I)) I ?_;refine ai bN I (fun w' aq=>(iH w' (Mem.keeps aq))) ?_;refine Jn<|oz I (fun ar=>?_) fun ar=>?_;refine Jr<|Jv I<|Ja I<|Jn<|Je<|Jm<|Jh<|Jh<|Jm<|Jh<|JT ?_;rotate_left;refine Jw<|Jj<|Jt<|Jg<|JB I (by omega)<|Jv I<|Jn ?_;rotate_right)
  ·rw [gP hf aL ar]
  ·apply aJ (k+1) ⟨by omega,fun i hi=>by
    by_cases e:i=k
    ·rw [e,hps];exact ar
    ·exact hf i (by omega)⟩ (by omega)
   case hs1=>exact cj
   case ht=>(try simp only [Ze,Zf,Za]);exact .nil
 ·obtain rfl:k=l.length:=by omega
  refine Jr<|JA I<|Jn<|Jq<|Jc I fun ar=>Jp<|Jl<|Jo<|Jt<|Jr<|Ja I<|Jn<|Je<|JT ?_;rw [fO hf]
theorem Al {lv:Value} {l:List Ti} {p:Ti->Bool} {f:FuncId} {first cap:List Value} [bU T_ f] {w:World} (h:Rd w lv 3 (u9 l)) (cn:∀ x∈l,∀ w',aD [] w w'->aj T_ f (first++[.agg x.cells.toArray]++cap) w' (.bool (p x))) :
  aj T_ 159 [lv,.func (.func f) first.toArray cap.toArray] w (.bool (l.any p)):=by
 have iH:∀ w',aD [] w w'->aj T_ 246 [lv,.func (.func f) first.toArray cap.toArray] w' (.int .i64 (ia p l)):=fun w' hk=>
  Nj (h.keeps hk) fun x hx w2 eR=>cn x hx w2 (hk.trans eR)
 rw [<- kh];refine ah func159 I I ?_
 (refine Jr<|Ja I<|Ji<|Jv I<|Jv I<|ai aX I (fun w' aq=>(iH w' (Mem.keeps aq))) ?_;refine JG I<|Ja I<|Jn<|Je<|JT ?_)
 rfl
theorem Ag {lv:Value} {l:List Po} {p:Po->Bool} {f:FuncId} {first cap:List Value} [bU T_ f] {w:World} (h:Rd w lv 3 (ud l)) (cn:∀ x∈l,∀ w',aD [] w w'->aj T_ f (first++[.agg x.cells.toArray]++cap) w' (.bool (p x))) :
  aj T_ 297 [lv,.func (.func f) first.toArray cap.toArray] w (.int .i64 (ia p l)):=by
 obtain ⟨a,cp,b,o,rfl,c8,bV,ha,hc⟩:=h;rw [cT] at *;unfold maxLen at bV;refine ah func297 I I ?_;refine Jr<|Ja I<|Jn<|Jq<|Jr<|Jv I<|JI I<|Jv I<|Jn<|J0 ?_;refine aY (fun k:Nat=>k<=l.length/\∀ i,i<k->(l[i]?.map p).getD false=false) (fun k=>[(8,.int .i64 k),(7,.int .i64 l.length),(0,.slice a l.length cp),(1,.func (.func f) first.toArray cap.toArray)]) (fun _=>[]) (fun k=>l.length-k) ?_ ?_
 ·apply aK 0 ⟨Zi _,fun i h=>by omega⟩
  case hs1=>exact cj
  case ht=>(try simp only [Ze,Zf,Za]);exact .nil
 rintro k ⟨hk,hf⟩;by_cases aL:k<l.length
 ·have cM:=ha (kD aL);have aF:=(hc k _ (iN aL)).2;have iH:=cn _ (Zj aL);have hps:(l[k]?.map p).getD false=p l[k]:=by simp [aL]
  unfold Po.cells at aF iH
  (refine Jr<|JA I<|Jn<|Jq<|Jd I fun ar=>Jk<|Jq<|J0<|Jr<|Jv I<|Ja I<|Ji<|Jv I<|Jv I<|Jv I<|ab (gj cM ar) I ?_;refine ab (iI (eU.base aF I)) I ?_;refine ai bN I (fun w' aq=>(iH w' (Mem.keeps aq))) ?_;refine Jn<|oz I (fun ar=>?_) fun ar=>?_;refine Jr<|Jv I<|Ja I<|Jn<|Je<|Jm<|Jh<|Jh<|Jm<|Jh<|JT ?_;rotate_left;refine Jw<|Jj<|Jt<|Jg<|JB I (by omega)<|Jv I<|Jn ?_;rotate_right)
  ·rw [gP hf aL ar]
  ·apply aJ (k+1) ⟨by omega,fun i hi=>by
    by_cases e:i=k
    ·rw [e,hps];exact ar
    ·exact hf i (by omega)⟩ (by omega)
   case hs1=>exact cj
   case ht=>(try simp only [Ze,Zf,Za]);exact .nil
 ·obtain rfl:k=l.length:=by omega
  refine Jr<|JA I<|Jn<|Jq<|Jc I fun ar=>Jp<|Jl<|Jo<|Jt<|Jr<|Ja I<|Jn<|Je<|JT ?_;rw [fO hf]
theorem NI {lv:Value} {l:List Po} {p:Po->Bool} {f:FuncId} {first cap:List Value} [bU T_ f] {w:World} (h:Rd w lv 3 (ud l)) (cn:∀ x∈l,∀ w',aD [] w w'->aj T_ f (first++[.agg x.cells.toArray]++cap) w' (.bool (p x))) :
  aj T_ 301 [lv,.func (.func f) first.toArray cap.toArray] w (.bool (l.any p)):=by
 have iH:∀ w',aD [] w w'->aj T_ 297 [lv,.func (.func f) first.toArray cap.toArray] w' (.int .i64 (ia p l)):=fun w' hk=>
  Ag (h.keeps hk) fun x hx w2 eR=>cn x hx w2 (hk.trans eR)
 rw [<- kh];refine ah func301 I I ?_
 (refine Jr<|Ja I<|Ji<|Jv I<|Jv I<|ai aX I (fun w' aq=>(iH w' (Mem.keeps aq))) ?_;refine JG I<|Ja I<|Jn<|Je<|JT ?_)
 rfl
end Go.Proofs.A1
