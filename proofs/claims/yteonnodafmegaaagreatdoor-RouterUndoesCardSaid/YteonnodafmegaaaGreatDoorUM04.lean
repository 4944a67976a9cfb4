/- Parts of the proof: GkRegO GkCopy GkZ K2 K3 KZz GkPool K4. -/
import Derived.Test.YteonnodafmegaaaGreatDoorUM03
import Derived.Lib.AppendZerosOnto
import Derived.Test.YteonnodafmegaaaGreatDoorUM01
import Derived.Laws.RangeAny
import Derived.Laws.RangeString
import Derived.Test.YteonnodafmegaaaGreatDoorUM02
set_option linter.unusedSectionVars false
set_option linter.unusedVariables false
set_option linter.unusedSimpArgs false
namespace Go.SL
open Go
inductive Step where
 | rel (R:Rel)
 | new (V:Nat->Value) (ob:Obj)
def Step.r:Step->Rel
 | .rel R=>R
 | .new V ob=>Ep V ob
section
variable {P:Program} {r:Option Nat} {c:Cx} {D:List Nat} {sl js:aH} {rl kI:eU} {hs:List bd} {Q:Exit->Act->World->Prop} {l:List Oper} {ops:Array Oper} {m:Nat} {S:List Step}
inductive mY (P:Program) (c:Cx) (hs:List bd) (ops:Array Oper):List Oper->aH->eU->List Step->aH->eU->Prop
 | nil {sl:aH} {rl:eU}:mY P c hs ops [] sl rl [] sl rl
 | val {o:Oper} {l:List Oper} {sl js:aH} {rl kI:eU} {d:Nat} {V:Value} {S:List Step} (hd:o.dst=some d) (fH:d<c.nt) (h:tW P c hs ops sl rl o (.val V)) (t:mY P c hs ops l ((d,V)::sl) rl S js kI) :
   mY P c hs ops (o::l) sl rl (.rel (.val V)::S) js kI
 | new {o:Oper} {l:List Oper} {sl js:aH} {rl kI:eU} {d:Nat} {V:Nat->Value} {ob:Obj} {S:List Step} (hd:o.dst=some d) (fH:d<c.nt) (hn:cX sl d=none) (hg:o.guard=none)
   (hr:qZ P c sl hs o V ob) (t:mY P c hs ops l sl ((d,Ep V ob)::rl) S js kI):mY P c hs ops (o::l) sl rl (.new V ob::S) js kI
theorem mY.UO {sl js:aH} {rl kI:eU} (h:mY P c hs ops l sl rl S js kI):tp P c hs ops l sl rl (S.map Step.r) js kI:=by
 induction h with
 | nil=>exact .nil
 | val hd fH h _ ih=>exact .val hd fH h ih
 | @new o l sl js rl kI d V ob S hd fH hn hg hr _ ih =>
  refine .rel hd fH hn (oC hg fun a w h1 _ h3=>?_) ih;unfold xW;rw [hr.2 a w h1 h3];exact ⟨.alloc _ _ _,w.heap.size,I,World.alloc_heap_new w ob⟩
theorem mY.TI {sl js:aH} {rl kI:eU} (h:mY P c hs ops l sl rl S js kI) :
  ∀ (i : Nat) (o : Oper) (V : Nat -> Value) (ob : Obj), l[i]? = some o -> S[i]? = some (.new V ob) -> ∃ uB, o.guard = none /\ qZ P c uB hs o V ob /\
   (∀ t v,cX uB t=some v->(∃ (j:Nat) (oj:Oper),j<i/\l[j]? = some oj/\oj.dst=some t/\(S.map Step.r)[j]? = some (.val v))\/((∀ (j:Nat) (oj:Oper),j<i->l[j]? = some oj->oj.dst≠some t)/\cX sl t=some v)):=by
 induction h with
 | nil=>intro i o V ob h;simp at h
 | @val o0 l sl js rl kI d V0 S hd fH bh t ih =>
  intro i o V ob ho hS;cases i with
  | zero=>simp at hS
  | succ i =>
   obtain ⟨uB,hg,hr,h1⟩:=ih i o V ob (by simpa using ho) (by simpa using hS);refine ⟨uB,hg,hr,fun t v hv=>?_⟩;rcases h1 t v hv with ⟨j,oj,hj,iP,jd,kB⟩ | ⟨rf,mF⟩
   ·exact .inl ⟨j+1,oj,by omega,by simpa using iP,jd,by simpa using kB⟩
   ·by_cases xL:d=t
    ·subst xL;rw [fL] at mF;cases mF;exact .inl ⟨0,o0,by omega,I,hd,I⟩
    ·rw [fK xL] at mF;refine .inr ⟨fun j oj hj iP=>?_,mF⟩;cases j with
     | zero=>simp at iP;subst iP;rw [hd];simp [xL]
     | succ j=>exact rf j oj (by omega) (by simpa using iP)
 | @new o0 l sl js rl kI d V0 ob0 S hd fH hn hg0 Xp t ih =>
  intro i o V ob ho hS;cases i with
  | zero =>
   simp at ho hS;subst ho;obtain ⟨rfl,rfl⟩:=hS;exact ⟨sl,hg0,Xp,fun t v hv=>.inr ⟨fun j _ hj=>by omega,hv⟩⟩
  | succ i =>
   obtain ⟨uB,hg,hr,h1⟩:=ih i o V ob (by simpa using ho) (by simpa using hS);refine ⟨uB,hg,hr,fun t v hv=>?_⟩;rcases h1 t v hv with ⟨j,oj,hj,iP,jd,kB⟩ | ⟨rf,mF⟩
   ·exact .inl ⟨j+1,oj,by omega,by simpa using iP,jd,by simpa using kB⟩
   ·have xL:d≠t:=fun e=>by subst e;rw [hn] at mF;cases mF
    refine .inr ⟨fun j oj hj iP=>?_,mF⟩;cases j with
    | zero=>simp at iP;subst iP;rw [hd];simp [xL]
    | succ j=>exact rf j oj (by omega) (by simpa using iP)
def rh (β:Nat->Nat) (lst:Nat->Bool):List Step->Nat->List bd
 | [],_=>[]
 | .new _ ob::S,i=>if lst i then bo (β i) ob::rh β lst S (i+1) else rh β lst S (i+1)
 | .rel _::S,i=>rh β lst S (i+1)
theorem pq {β β':Nat->Nat} {lst nE:Nat->Bool}:∀ {S:List Step} {i:Nat},(∀ j V ob,S[j]? = some (.new V ob)->lst (i+j)=nE (i+j)/\(lst (i+j)=true->β (i+j)=β' (i+j)))->rh β lst S i=rh β' nE S i
 | [],_,_=>rfl
 | .rel _ :: S, i, h => by
  unfold rh;exact pq fun j V ob hj=>by have:=h (j+1) V ob (by simpa using hj);rwa [show i+(j+1)=i+1+j from by omega] at this
 | .new V ob :: S, i, h => by
  have h0:=h 0 V ob I;have ih:rh β lst S (i+1)=rh β' nE S (i+1):=pq fun j V ob hj=>by have:=h (j+1) V ob (by simpa using hj);rwa [show i+(j+1)=i+1+j from by omega] at this
  simp only [Zau] at h0;unfold rh;rw [ih,<- h0.1];by_cases hl:lst i=true
  ·rw [if_pos hl,if_pos hl,h0.2 hl]
  ·rw [if_neg hl,if_neg hl]
theorem Bk {β β':Nat->Nat} {lst nE:Nat->Bool} {k b:Nat} {V:Nat->Value} {ob:Obj}:∀ {S:List Step} {i:Nat},S[k]? = some (.new V ob)->lst (i+k)=false->nE (i+k)=true->β' (i+k)=b->(∀ j,j≠i+k->nE j=lst j/\β' j=β j) ->
  (bo b ob::rh β lst S i).Perm (rh β' nE S i)
 | [],_,h,_,_,_,_=>by simp at h
 | .rel _ :: S, i, h, h1, h2, h3, h4 => by
  cases k with
  | zero=>simp at h
  | succ k =>
   unfold rh;refine Bk (k:=k) (V:=V) (by simpa using h) ?_ ?_ ?_ ?_
   all_goals rw [show i+1+k=i+(k+1) from by omega];assumption
 | .new V0 ob0 :: S, i, h, h1, h2, h3, h4 => by
  cases k with
  | zero =>
   simp at h;obtain ⟨rfl,rfl⟩:=h;have e:rh β lst S (i+1)=rh β' nE S (i+1):=pq fun j V ob hj=>by
    obtain ⟨e1,e2⟩:=h4 (i+1+j) (by omega);exact ⟨e1.symm,fun _=>e2.symm⟩
   simp only [Zau] at h1 h2 h3;unfold rh;rw [if_neg (by simp [h1]),if_pos h2,h3,e]
  | succ k =>
   have ih:(bo b ob::rh β lst S (i+1)).Perm (rh β' nE S (i+1)):=by
    refine Bk (k:=k) (V:=V) (by simpa using h) ?_ ?_ ?_ ?_
    all_goals rw [show i+1+k=i+(k+1) from by omega];assumption
   obtain ⟨e1,e2⟩:=h4 i (by omega);unfold rh;rw [e1,e2];by_cases hl:lst i=true
   ·rw [if_pos hl,if_pos hl];exact (List.Perm.swap _ _ _).trans (ih.cons _)
   ·rw [if_neg hl,if_neg hl];exact ih
theorem cC.perm {h:Nat->Option Obj} {l1 l2:List bd} (hp:l1.Perm l2):∀ {fp:List Nat},cC h l1 fp->∃ lS,cC h l2 lS/\fp.Perm lS:=by
 induction hp with
 | nil=>intro fp hf;exact ⟨fp,hf,.refl _⟩
 | cons A _ ih =>
  rintro fp ⟨f1,f2,rfl,h1,h2⟩;obtain ⟨g,hg,Xr⟩:=ih h2;exact ⟨f1++g,⟨f1,g,I,h1,hg⟩,Xr.append_left f1⟩
 | swap A B l =>
  rintro fp ⟨f1,_,rfl,h1,f2,f3,rfl,h2,h3⟩;refine ⟨f2++(f1++f3),⟨f2,f1++f3,I,h2,f1,f3,I,h1,h3⟩,?_⟩;rw [<- Zh,<- Zh];exact List.perm_append_comm.append_right f3
 | trans _ _ ih1 ih2 =>
  intro fp hf;obtain ⟨g,hg,h1⟩:=ih1 hf;obtain ⟨g',hg',h2⟩:=ih2 hg;exact ⟨g',hg',h1.trans h2⟩
theorem Mem.perm {c:Cx} {l1 l2:List bd} {w:World} (h:Mem c l1 w) (hp:l1.Perm l2):Mem c l2 w:=by
 obtain ⟨k,fp,hn,hs,hb⟩:=h;obtain ⟨g,hg,Xr⟩:=hs.perm hp;exact ⟨k,g,Xr.nodup_iff.1 hn,hg,fun b dF=>hb b (Xr.mem_iff.2 dF)⟩
def H6 (c:Cx) (D:List Nat) (hs:List bd) (l:List Oper) (S:List Step) (listed:Array Bool) (a:Act) (w:World):Prop:=
 ∃ β : Nat -> Nat, Mem c (rh β (fun i => listed.getD i false) S 0 ++ (hs ++ nb D)) w /\ (∀ i, c.w0.heap.size <= β i \/ ¬ Ls listed i \/ ∀ V ob, S[i]? ≠ some (.new V ob)) /\
  ∀ (i:Nat) (o:Oper) (d:Nat) (V:Nat->Value) (ob:Obj),l[i]? = some o->o.dst=some d->S[i]? = some (.new V ob)->Ls listed i->a.tmps[d]? = some (V (β i))
theorem Oa (hc:TO l m) (hpO:mY P c hs l.toArray (l.take m) sl [] S js kI) {a0:Act} (h0:bZ sl a0) (OW:a0.tmps.size=c.nt)
  (tail:∀ listed a w,(∀ i,i<m->Ls listed i)->St c D js hs a w->H6 c D hs (l.take m) S listed a w->WL P r l.toArray Q (l.drop m) a w) :
  ∀ (fuel:Nat) (listed:Array Bool) (a:Act) (w:World),Inv1 c D hs l m (S.map Step.r) a0 fuel listed a w->H6 c D hs (l.take m) S listed a w->wpAnyIn (FR r) 0 P .any l.toArray Q fuel listed a w:=by
 have hp:=hpO.UO;have rZ:=hp.end_;have fc:∀ (j:Nat) (o:Oper),j<m->l[j]? = some o->(l.take m)[j]? = some o:=fun j o hj ho=>by rw [ZK,if_pos hj];exact ho
 have gH:∀ (j:Nat) (o:Oper),(l.take m)[j]? = some o->j<m/\l[j]? = some o:=fun j o ho=>by
  rw [ZK] at ho;split at ho
  ·exact ⟨by assumption,ho⟩
  ·cases ho
 have oR:∀ fuel listed a w,Inv1 c D hs l m (S.map Step.r) a0 fuel listed a w->H6 c D hs (l.take m) S listed a w->(∀ i,i<m->Ls listed i)->wpAnyIn (FR r) 0 P .any l.toArray Q fuel listed a w:=by
  intro fuel listed a w hI hO eR;have hL:∀ i,i<l.length->(Ls listed i↔i<m):=fun i _=>⟨fun h=>ZY fun hm=>hI.hi i hm h,eR i⟩
  obtain ⟨U,DM,uS,xN⟩:=hI.left;have jb:U.Perm (List.range' m (l.length-m)):=by
   rw [ZaK DM (List.nodup_range')];intro i;rw [uS i,ZaZ];constructor
   ·rintro ⟨h1,h2⟩;exact ⟨Zbh fun h=>h2 (eR i h),by omega⟩
   ·rintro ⟨h1,h2⟩;exact ⟨by omega,hI.hi i h1⟩
  have hlen:fuel=l.length-m:=by rw [<- xN,jb.length_eq,List.length_range']
  refine Ew hc fuel m listed a w (Zz _) (by have:=hc.le;omega) hI.sz hL (tail listed a w eR ⟨hI.mem,?_,hI.size,hI.defers⟩ hO)
  ·intro t v hv;rcases rZ.1 t v hv with ⟨j,oj,hj,jd,kB⟩ | ⟨rf,mF⟩
   ·obtain ⟨kb,nZ⟩:=gH j oj hj;obtain ⟨u,hu,nQ⟩:=hI.new j oj nZ (eR j kb) t _ jd kB;rw [hu,show u=v from nQ]
   ·rw [hI.FX t fun j oj hj mA=>rf j oj (fc j oj (ZY fun hm=>hI.hi j hm mA) hj)]
    exact h0 t v mF
 intro fuel
 induction fuel with
 | zero =>
  intro listed a w hI hO;obtain ⟨U,_,uS,xN⟩:=hI.left;have hU:U=[]:=Zaw.1 xN;refine oR 0 listed a w hI hO fun i hi=>Classical.byContradiction fun hn=>?_;have:=(uS i).2 ⟨by have:=hc.le;omega,hn⟩;rw [hU] at this;cases this
 | succ fuel ih =>
  intro listed a w hI hO;by_cases eR:∀ i,i<m->Ls listed i
  ·exact oR _ listed a w hI hO eR
  ·have hex:∃ i,i<m/\¬ Ls listed i:=Classical.byContradiction fun hh=>eR fun i hi=>Classical.byContradiction fun hn=>hh ⟨i,hi,hn⟩
   obtain ⟨i0,Bz,ug⟩:=hex;refine ⟨fun hr=>?_,fun i hi=>?_⟩
   ·obtain ⟨i,hi⟩:=kg hI.sz hc.ac ⟨i0,by have:=hc.le;omega,ug⟩;rw [hr] at hi;cases hi
   ·have sW:i<m:=ZY fun hm=>ug (qA hc hI.sz hI.dc hi hm i0 (by omega))
    obtain ⟨o,ho,hn,oS⟩:=(ek hI.sz).1 hi;obtain ⟨uB,ML,R,Ta,iZ,hs1,hs2⟩:=hp.at_ i o (fc i o sW ho);obtain ⟨d,R',hd,fH,tO⟩:=rZ.2.2 i o (fc i o sW ho);rw [Ta] at tO;cases tO;have nP:∀ (j:Nat),fD o j=true->Ls listed j:=fun j hw=>by
     obtain ⟨e,he,hb,re⟩:=dS hw;rw [<- re];exact oS e he hb
    have C6:∀ (j t:Nat) (oj:Oper),j<i->(l.take m)[j]? = some oj->oj.dst=some t->t∈o.looksAt l.toArray->Ls listed j:=by
     intro j t oj hj iP jd ht;obtain ⟨kb,nZ⟩:=gH j oj iP;exact nP j ((eu (mc hc hj sW nZ ho) jd hd).2 (.inl ht))
    have Qr:∀ uB:aH,(∀ t v,cX uB t=some v->(∃ (j:Nat) (oj:Oper),j<i/\(l.take m)[j]? = some oj/\oj.dst=some t/\(S.map Step.r)[j]? = some (.val v))\/((∀ (j:Nat) (oj:Oper),j<i->(l.take m)[j]? = some oj->oj.dst≠some t)/\cX sl t=some v)) ->
      ∃ a':Act,bZ uB a'/\∀ t∈o.looksAt l.toArray,a'.tmps[t]? = a.tmps[t]?:=by
     intro uB hs1;have hT:∀ t∈o.looksAt l.toArray,∀ v,cX uB t=some v->a.tmps[t]? = some v:=by
      intro t ht v hv;rcases hs1 t v hv with ⟨j,oj,hj,iP,jd,kB⟩ | ⟨rf,mF⟩
      ·obtain ⟨u,hu,nQ⟩:=hI.new j oj (gH j oj iP).2 (C6 j t oj hj iP jd ht) t _ jd kB;rw [hu,show u=v from nQ]
      ·rw [hI.FX t fun j oj hj mA jd=>?_]
       ·exact h0 t v mF
       ·have kb:j<m:=ZY fun hm=>hI.hi j hm mA
        rcases Zas j i with h | h | h
        ·exact rf j oj h (fc j oj kb hj) jd
        ·subst h;exact hn mA
        ·have hw:=(eu (mc hc h kb ho hj) hd jd).2 (.inr ht);obtain ⟨e,he,hb,re⟩:=dS hw;have:=hI.dc j oj hj mA e he hb;rw [re] at this;exact hn this
     have AQ:∀ t v,cX uB t=some v->t<c.nt:=by
      intro t v hv;rcases hs1 t v hv with ⟨j,oj,_,iP,jd,_⟩ | ⟨_,mF⟩
      ·obtain ⟨d',_,xu,EY,_⟩:=rZ.2.2 j oj iP;rw [jd] at xu;cases xu;exact EY
      ·have:=h0 t v mF;rw [<- OW];exact (Z2.1 this).1
     obtain ⟨a',mG,jT,_⟩:=r8 hI.size AQ hT;exact ⟨a',mG,jT⟩
    have tL:∀ (j:Nat) (oj:Oper) (e:Nat),l[j]? = some oj->j<m->j≠i->oj.dst=some e->d≠e:=by
     intro j oj e hj kb hne he;rcases ZbC j i with h | h
     ·exact fun e'=>(eu (mc hc h sW hj ho) he hd).1 e'.symm
     ·exact (eu (mc hc (show i<j by omega) kb ho hj) hd he).1
    have ju:i<listed.size:=by rw [hI.sz];have:=hc.le;omega
    have HA:oJ o=true:=hc.op o (Z1 ho);have jH:∀ v w',aK [] w w'->R.p v w'->H6 c D hs (l.take m) S (listed.setIfInBounds i true) (a.put o.dst v) w'->wpAnyIn (FR r) 0 P .any l.toArray Q fuel (listed.setIfInBounds i true) (a.put o.dst v) w':=fun v w' hk hv Wg=>
     ih _ _ _ (CO hc hc.le hI hi sW ho hd fH Ta (fun j oj hj iP=>let ⟨e,_,he,_⟩:=rZ.2.2 j oj (fc j oj hj iP);⟨e,he⟩) hk hv) Wg
    unfold wpOpIn;rw [show l.toArray[i]? = some o from by simpa using ho];simp only [];have tO:∃ st,S[i]? = some st/\st.r=R:=by
     rw [ZA] at Ta;obtain ⟨st,h1,h2⟩:=Zak.1 Ta;exact ⟨st,h1,h2⟩
    obtain ⟨st,tO,bh⟩:=tO;have Lj:∀ j,j≠i->(listed.setIfInBounds i true).getD j false=listed.getD j false:=fun j hj=>by
     simp [ZG,ZM (Ne.symm hj)]
    cases st with
    | new V ob =>
     obtain ⟨sln,hgn,Xo,Yz⟩:=hpO.TI i o V ob (fc i o sW ho) tO;obtain ⟨a',mG,jT⟩:=Qr sln Yz;have hex:=jI (o:=o) (ops:=l.toArray) HA jT;have ja:=Xo.2 a' w mG hI.mem.lE;rw [if_pos (by simp [Region.wanted,hgn])];refine ⟨dQ _ _ _ _ _,?_⟩;rw [Oper.semAt_eq _ _ _ (fun cc he=>by simp [oJ,he] at HA),<- hex,ja]
     refine jH _ _ (.alloc _ _ _) (by rw [<- bh];exact ⟨w.heap.size,I,World.alloc_heap_new w ob⟩) ?_;obtain ⟨β,hm,hb,vY⟩:=hO;refine ⟨fun k=>if k=i then w.heap.size else β k,?_,?_,?_⟩
     ·refine Mem.perm (hm.alloc ob) ((Bk (k:=i) (V:=V) tO ?_ ?_ ?_ ?_).append_right _)
      ·rw [ZH];show listed.getD i false=false;have:¬ listed.getD i false=true:=hn;simpa using this
      ·rw [ZH];exact (c8 ju).2 (.inl I)
      ·simp
      ·intro j hj;rw [ZH] at hj;exact ⟨Lj j hj,by simp [hj]⟩
     ·intro j;by_cases e:j=i
      ·subst e;left;simp;exact hI.mem.keeps.size
      ·rcases hb j with h | h | h
       ·left;simpa [e] using h
       ·right;left;intro h';exact h (((c8 ju).1 h').resolve_left e)
       ·exact .inr (.inr h)
     ·intro j oj e V' Sa hj jd kB mA;by_cases ej:j=i
      ·subst ej;rw [tO] at kB;cases kB;obtain ⟨kb,nZ⟩:=gH j oj hj;rw [ho] at nZ;cases nZ;rw [hd] at jd;cases jd;rw [hd];simp [Act.put,hI.size,fH]
      ·obtain ⟨kb,nZ⟩:=gH j oj hj;have Gh:=((c8 ju).1 mA).resolve_left ej;have:=vY j oj e V' Sa hj jd kB Gh;rw [hd];simp only [Act.put,ZM (tL j oj e nZ kb ej jd),if_neg ej];exact this
    | rel R0 =>
     have Wg:∀ v w',aK [] w w'->H6 c D hs (l.take m) S (listed.setIfInBounds i true) (a.put o.dst v) w':=by
      intro v w' hk;obtain ⟨β,hm,hb,vY⟩:=hO;refine ⟨β,?_,?_,?_⟩
      ·have e:rh β (fun j=>(listed.setIfInBounds i true).getD j false) S 0=rh β (fun j=>listed.getD j false) S 0:=pq fun j V ob hj=>by
        have:j≠i:=fun e=>by subst e;rw [tO] at hj;cases hj
        rw [ZH];exact ⟨Lj j this,fun _=>rfl⟩
       rw [e];exact hm.rS hk
      ·intro j;by_cases e:j=i
       ·subst e;right;right;intro V ob h;rw [tO] at h;cases h
       ·rcases hb j with h | h | h
        ·exact .inl h
        ·right;left;intro h';exact h (((c8 ju).1 h').resolve_left e)
        ·exact .inr (.inr h)
      ·intro j oj e V' Sa hj jd kB mA;have ej:j≠i:=fun e=>by subst e;rw [tO] at kB;cases kB
       obtain ⟨kb,nZ⟩:=gH j oj hj;have Gh:=((c8 ju).1 mA).resolve_left ej;have:=vY j oj e V' Sa hj jd kB Gh;rw [hd];simp only [Act.put,ZM (tL j oj e nZ kb ej jd)];exact this
     obtain ⟨a',mG,jT⟩:=Qr uB hs1;have SE:Bq (o.looksAt l.toArray) ML a' w:=by
      intro t Rt hm ht;rcases hs2 t Rt hm with ⟨j,oj,hj,iP,jd,kB⟩ | aA
      ·obtain ⟨v,hv,nQ⟩:=hI.new j oj (gH j oj iP).2 (C6 j t oj hj iP jd ht) t _ jd kB;exact ⟨v,by rw [jT t ht];exact hv,nQ⟩
      ·cases aA
     have hq:=iZ a' w mG SE hI.mem.lE;have hex:=jI (o:=o) (ops:=l.toArray) HA jT;rw [jw jT] at hq;split
     ·rename_i hw;rw [if_pos hw] at hq;refine ⟨dQ _ _ _ _ _,?_⟩;rw [Oper.semAt_eq _ _ _ (fun cc he=>by simp [oJ,he] at HA),<- hex]
      unfold xW at hq
      revert hq
      generalize (execOp a'.eval o).run P w=res;intro hq
      match res,hq with
      | .ok (.value v) w',⟨hk,hv⟩=>exact jH v w' hk hv (Wg v w' hk)
      | .ok (.enter f args) w', ⟨e, cJ⟩ =>
       subst e;refine ⟨by simp [FR,Fence.wide],(jm cJ).mono fun e zq h=>?_⟩;obtain ⟨v,rfl,hk,hv⟩:=h;exact jH v zq hk hv (Wg v zq hk)
     ·rename_i hw;rw [if_neg hw] at hq;exact ⟨fun _ _=>trivial,jH undef w (.refl _ _) hq (Wg undef w (.refl _ _))⟩
theorem wU {β:Nat->Nat} {lst:Nat->Bool} (h:∀ i,lst i=false):∀ {S:List Step} {i:Nat},rh β lst S i=[]
 | [],_=>rfl
 | .rel _::S,i=>by unfold rh;exact wU h
 | .new _ _::S,i=>by unfold rh;rw [if_neg (by simp [h]),wU h]
variable {id:Nat}
theorem xz (rY:P.follows .mixedOrders=true) (dD:yD l m=true) (hp:mY P c hs l.toArray (l.take m) sl [] S js kI)
  (tail:∀ listed a w,(∀ i,i<m->Ls listed i)->St c D js hs a w->H6 c D hs (l.take m) S listed a w->WL P r l.toArray Q (l.drop m) a w):Tr c D sl hs (WP P r (.region id l.toArray true) Q):=fun a w bh=>by
 unfold WP;refine wpIn_region_any rY ?_;refine Oa (vD dD) hp bh.cZ bh.size tail l.toArray.size _ a _ ⟨by simp,?_,?_,?_,bh.defers,bh.size,fun t _=>rfl,?_,List.range l.length,ZbG,?_,by simp⟩ ?_
 ·exact fun k o _ hL=>absurd hL (gm _ _)
 ·exact fun k _ hL=>gm _ _ hL
 ·exact bh.mem.drew
 ·exact fun j o _ hL=>absurd hL (gm _ _)
 ·exact fun i=>⟨fun h=>⟨by simpa using h,gm _ _⟩,fun h=>by simpa using h.1⟩
 ·refine ⟨fun _=>c.w0.heap.size,?_,fun i=>.inl (Zz _),fun i o d V ob _ _ _ hL=>absurd hL (gm _ _)⟩;rw [wU fun i=>by have:=gm l.toArray.size i;unfold Ls at this;simpa using this]
  exact bh.mem.drew
def MJ (β:Nat->Nat):List Oper->List Step->Nat->aH
 | o::l,.new V _::S,i=>(o.dst.getD 0,V (β i))::MJ β l S (i+1)
 | _::l,.rel _::S,i=>MJ β l S (i+1)
 | _,_,_=>[]
theorem zR {β:Nat->Nat}:∀ {l:List Oper} {S:List Step} {i:Nat} {p:Nat×Value},p∈MJ β l S i->∃ (j:Nat) (o:Oper) (V:Nat->Value) (ob:Obj),l[j]? = some o/\S[j]? = some (.new V ob)/\p=(o.dst.getD 0,V (β (i+j)))
 | [],_,_,_,h=>by cases h
 | _::_,[],_,_,h=>by cases h
 | o :: l, .new V ob :: S, i, p, h => by
  unfold MJ at h;rcases ZO.1 h with h | h
  ·exact ⟨0,o,V,ob,I,I,h⟩
  ·obtain ⟨j,o',V',Sa,h1,h2,h3⟩:=zR h;exact ⟨j+1,o',V',Sa,by simpa using h1,by simpa using h2,by rw [h3,show i+1+j=i+(j+1) from by omega]⟩
 | o :: l, .rel R :: S, i, p, h => by
  unfold MJ at h;obtain ⟨j,o',V',Sa,h1,h2,h3⟩:=zR h;exact ⟨j+1,o',V',Sa,by simpa using h1,by simpa using h2,by rw [h3,show i+1+j=i+(j+1) from by omega]⟩
theorem vn {L s:aH} {a:Act} (h:∀ p∈L,a.tmps[p.1]? = some p.2) (hs:bZ s a):bZ (L++s) a:=by
 induction L with
 | nil=>exact hs
 | cons p L ih =>
  intro t v hv;obtain ⟨d,u⟩:=p;by_cases e:d=t
  ·subst e;rw [Zb,fL] at hv;cases hv;exact h (d,v) (by simp)
  ·rw [Zb,fK e] at hv;exact ih (fun p hp=>h p (by simp [hp])) t v hv
def zs (nl:List (Nat×(Nat->Value)×Obj)) (bs:List Nat):aH:=(nl.zip bs).map fun x=>(x.1.1,x.1.2.1 x.2)
def zb (nl:List (Nat×(Nat->Value)×Obj)) (bs:List Nat):List bd:=(nl.zip bs).map fun x=>bo x.2 x.1.2.2
def sn (P:Program) (r:Option Nat) (c:Cx) (D:List Nat) (hs:List bd) (ops:Array Oper) (Q:Exit->Act->World->Prop) (nl:List (Nat×(Nat->Value)×Obj)) (m:Nat) (l:List Oper) (sl:aH) (rl:eU):Prop:=
 ∃ S js kI, mY P c hs ops (l.take m) sl rl S js kI /\ ∀ (bs : List Nat) (β : Nat -> Nat) (i0 : Nat), bs.length = nl.length -> (∀ b ∈ bs, c.w0.heap.size <= b) -> (∀ i V ob, S[i]? = some (.new V ob) -> c.w0.heap.size <= β (i0 + i)) ->
  Tr c D (zs nl bs++MJ β (l.take m) S i0++js) (zb nl bs++rh β (fun _=>true) S i0++hs) (WL P r ops Q (l.drop m))
theorem cW {l:List Oper} (m:Nat) [rY:TM P] (dD:yD l m=true) (k:sn P r c D hs l.toArray Q [] m l sl []):Tr c D sl hs (WP P r (.region id l.toArray true) Q):=by
 obtain ⟨S,js,kI,hp,ht⟩:=k;have rZ:=hp.UO.end_;have hlen:∀ i V ob,S[i]? = some (.new V ob)->i<m:=by
  intro i V ob h;have h1:=(Zm.1 h).1;have Yh:∀ {l0:Array Oper} {l:List Oper} {sl js:aH} {rl kI:eU} {S:List Step},mY P c hs l0 l sl rl S js kI->S.length=l.length:=by
   intro l0 l sl js rl kI S h
   induction h with
   | nil=>rfl
   | val _ _ _ _ ih=>simp [ih]
   | new _ _ _ _ _ _ ih=>simp [ih]
  rw [Yh hp,Zs] at h1;omega
 refine xz rY.eq dD hp fun listed a w eR bh hO=>?_;obtain ⟨β,hm,hb,vY⟩:=hO;have LA:∀ i V ob,S[i]? = some (.new V ob)->Ls listed i:=fun i V ob h=>eR i (hlen i V ob h)
 have BD:∀ i V ob,S[i]? = some (.new V ob)->c.w0.heap.size<=β (0+i):=fun i V ob h=>by
  rw [ZH];rcases hb i with h1 | h1 | h1
  ·exact h1
  ·exact absurd (LA i V ob h) h1
  ·exact absurd h (h1 V ob)
 refine ht [] β 0 I (fun b hb=>by cases hb) BD a w ⟨?_,?_,bh.size,bh.defers⟩
 ·have e:rh β (fun i=>listed.getD i false) S 0=rh β (fun _=>true) S 0:=pq fun j V ob hj=>by
   rw [ZH];exact ⟨LA j V ob hj,fun _=>rfl⟩
  rw [e] at hm;simpa [zb,Zh] using hm
 ·refine vn (L:=zs [] []++MJ β (List.take m l) S 0) (fun p nQ=>?_) bh.cZ;obtain ⟨j,o,V,ob,h1,h2,rfl⟩:=zR (by simpa [zs] using nQ);obtain ⟨d,R,hd,fH,_⟩:=rZ.2.2 j o h1;rw [hd,ZH];exact vY j o d V ob h1 hd h2 (LA j V ob h2)
section
variable {nl:List (Nat×(Nat->Value)×Obj)} {d:Nat} {op:Op} {ty:TypeId} {pos:String} {af:Array Edge} {rest:List Oper}
variable {V:Value} {ob:Obj}
theorem dw {V:Nat->Value} {l:List Oper} (hn:nl=[(d,V,ob)]) (k:∀ b,c.w0.heap.size<=b->Tr c D ((d,V b)::sl) (bo b ob::hs) (WL P r ops Q l)):sn P r c D hs ops Q nl 0 l sl rl:=
 ⟨[],sl,rl,.nil,fun bs β i0 hl hb _=>by
  subst hn
  match bs,hl with
  | [b],_=>simpa [zs,zb,MJ,rh] using k b (hb b (by simp))⟩
theorem wO {o:Oper} (ho:o.dst=some d) (hd:Nat.blt d c.nt=true) (h:tW P c hs ops sl rl o (.val V)) (k:sn P r c D hs ops Q nl m rest ((d,V)::sl) rl):sn P r c D hs ops Q nl (m+1) (o::rest) sl rl:=by
 obtain ⟨S,js,kI,hp,ht⟩:=k;refine ⟨_,_,_,.val ho (by simpa [Z9] using hd) h hp,fun bs β i0 h1 h2 h3=>?_⟩;have:=ht bs β (i0+1) h1 h2 fun i V ob hi=>by have:=h3 (i+1) V ob (by simpa using hi);rwa [show i0+(i+1)=i0+1+i from by omega] at this
 simpa [MJ,rh] using this
theorem eC {V:Nat->Value} (hr:qZ P c sl hs ⟨some d,op,ty,pos,af,none⟩ V ob) (hd:Nat.blt d c.nt=true) (hn:cX sl d=none) (k:sn P r c D hs ops Q (nl++[(d,V,ob)]) m rest sl ((d,Ep V ob)::rl)) :
  sn P r c D hs ops Q nl (m+1) (⟨some d,op,ty,pos,af,none⟩::rest) sl rl:=by
 obtain ⟨S,js,kI,hp,ht⟩:=k;refine ⟨_,_,_,.new I (by simpa [Z9] using hd) hn I hr hp,fun bs β i0 h1 h2 h3=>?_⟩;have hb0:=h3 0 V ob I;rw [Zau] at hb0;have:=ht (bs++[β i0]) β (i0+1) (by simp [h1]) (fun b hb=>by
  rcases Zv.1 hb with h | h
  ·exact h2 b h
  ·rw [ZE.1 h];exact hb0) fun i V ob hi=>by have:=h3 (i+1) V ob (by simpa using hi);rwa [show i0+(i+1)=i0+1+i from by omega] at this
 simpa [MJ,rh,zs,zb,List.zip_append h1.symm,Zh] using this
theorem ao (hr:cY P c sl hs ⟨some d,op,ty,pos,af,none⟩ V) (hd:Nat.blt d c.nt=true) (k:sn P r c D hs ops Q nl m rest ((d,V)::sl) rl) :
  sn P r c D hs ops Q nl (m+1) (⟨some d,op,ty,pos,af,none⟩::rest) sl rl:=
 wO I hd (oC I fun _ _ h1 _ h3=>rH hr h1 h3) k
theorem a8 {f:FuncId} {args:List Value} (hr:lV P sl ⟨some d,op,ty,pos,af,none⟩ f args) (hd:Nat.blt d c.nt=true) (hc:∀ w,Mem c hs w->aj P f args w V) (k:sn P r c D hs ops Q nl m rest ((d,V)::sl) rl) :
  sn P r c D hs ops Q nl (m+1) (⟨some d,op,ty,pos,af,none⟩::rest) sl rl:=
 wO I hd (oC I fun _ w h1 _ h3=>sL hr h1 (hc w h3)) k
theorem WV {p p':Prop} {j gs:Nat} {want c0 q:Bool} (hj:((ops[j]?).bind (·.dst))=some gs) (hq:cX sl gs=some (gv c0 (.bool q))) (hb:BP (c0&&(q==want)) p p')
  (hr:(c0&&(q==want))=true->p->cY P c sl hs ⟨some d,op,ty,pos,af,some (j,want)⟩ V) (hd:Nat.blt d c.nt=true) (k:sn P r c D hs ops Q nl m rest ((d,gv (c0&&(q==want)) V)::sl) rl) :
  sn P r c D hs ops Q nl (m+1) (⟨some d,op,ty,pos,af,some (j,want)⟩::rest) sl rl:=
 wO I hd (oD I hj hq fun hc _ _ h1 h3=>rH (hr hc (hb.t hc)) h1 h3) k
theorem tj {p p':Prop} {j gs:Nat} {want q:Bool} (hj:((ops[j]?).bind (·.dst))=some gs) (hq:cX sl gs=some (.bool q)) [hb:BP (q==want) p p']
  (hr:(q==want)=true->p->cY P c sl hs ⟨some d,op,ty,pos,af,some (j,want)⟩ V) (hd:Nat.blt d c.nt=true) (k:sn P r c D hs ops Q nl m rest ((d,gv (q==want) V)::sl) rl) :
  sn P r c D hs ops Q nl (m+1) (⟨some d,op,ty,pos,af,some (j,want)⟩::rest) sl rl:=
 WV (c0:=true) (p:=p) (p':=p') hj (by rw [hq];rfl) (by simpa using hb) (by simpa using hr) hd (by simpa using k)
end
end
end Go.SL
namespace Go.SL
open Go
theorem lz {w:World} {b sz:Nat}:∀ {xs:List (List Value)} {o:Nat},(∀ i r,xs[i]? = some r->r.length=sz/\∀ j u,r[j]? = some u->w.cell? ⟨b,o+i*sz+j,none⟩=some u)->∀ (k:Nat) u,xs.flatten[k]? = some u->w.cell? ⟨b,o+k,none⟩=some u
 | [],o,_,k,u,hu=>by simp at hu
 | x :: xs, o, h, k, u, hu => by
  obtain ⟨hl,h0⟩:=h 0 x rfl;rw [Zam,List.getElem?_append] at hu;split at hu
  ·have:=h0 k u hu;rwa [Zbt,Zau] at this
  ·rename_i hk;have ih:=lz (xs:=xs) (o:=o+sz) (fun i r hr=>⟨(h (i+1) r (by simpa using hr)).1,fun j v hv=>by
    have:=(h (i+1) r (by simpa using hr)).2 j v hv;rwa [Zab,show o+(i*sz+sz)+j=o+sz+i*sz+j by omega] at this⟩) (k-x.length) u hu
   rwa [hl,show o+sz+(k-sz)=o+k by omega] at ih
theorem fC {sz:Nat}:∀ {xs:List (List Value)},(∀ r∈xs,r.length=sz)->xs.flatten.length=xs.length*sz
 | [],_=>by simp
 | x :: xs, h => by
  rw [Zam,Zg,fC (fun r hr=>h r (by simp [hr])),h x (by simp),ZI,Zab,Nat.add_comm]
theorem Rd.sz {w:World} {v:Value} {sz:Nat} {xs:List (List Value)} (h:Rd w v sz xs):∀ r∈xs,r.length=sz:=by
 obtain ⟨a,cap,b,o,rfl,h1,h2,h3,h4⟩:=h;intro r hr;obtain ⟨i,hi,rfl⟩:=Zx hr;exact (h4 i _ (Zc hi)).1
section
variable {P:Program} {r:Option Nat} {c:Cx} {D:List Nat} {sl:aH} {hs hs':List bd} {ops:Array Oper} {Q:Exit->Act->World->Prop} {d:Nat} {ty:TypeId} {pos:String} {af:Array Edge} {rest:List Oper}
variable {V:Value} {agg:Bool} {news:List (List Value)} {size:Nat} {v:Value} {x y:Operand} {z:Value}
theorem NA {sz:Nat} {xs:List (List Value)} {b o cap:Nat} (hsrc:∀ w,Mem c hs w->Rd w V sz xs) (hne:xs≠[]) (hV:V=.slice (some ⟨b,o,none⟩) xs.length cap):eV c hs b o xs.flatten:=by
 refine eV.vK fun j u hu w hm=>?_;obtain ⟨a',ic,b',o',e',_,_,cP,XC⟩:=hsrc w hm;rw [hV] at e';simp only [Value.slice.injEq] at e';obtain ⟨e1,_,_⟩:=e';have:=cP hne;rw [<- e1] at this;simp only [Option.some.injEq,Addr.mk.injEq,and_true] at this;obtain ⟨rfl,rfl⟩:=this;exact lz XC j u hu
theorem Cd {t e:TypeId} {w:World} [hu:ij P t (.slice e)] [hT:Ty P e agg size] {a:Option Addr} {cp n:Nat} (hv:(v=.z/\n=0)\/∃ g cap,v=.w g n cap/\n<=cap) :
  (Builtin.append_ #[t,t] ty #[v,.slice a 0 cp]).run P w=.ok v w:=by
 obtain ⟨de,i,lR,hi,_,hG⟩:=Ty.parts (P:=P) (t:=e) (agg:=agg) (n:=size);rcases hv with ⟨rfl,rfl⟩ | ⟨g,cap,rfl,hc⟩
 ·cases a <;> simp [Builtin.append_,aV hu.eq,sizeOf,typeInfo,hi,Builtin.lenOf,Builtin.firstCells,loadCells,loadCellsFrom]
 ·cases a <;> simp [Builtin.append_,aV hu.eq,sizeOf,typeInfo,hi,Builtin.lenOf,Builtin.firstCells,loadCells,loadCellsFrom,hc,storeCells]
theorem il {t e:TypeId} {size bytes:Nat} {n:Nat} {xs:List Value} [hu:ij P t (.slice e)] [hT:Ty P e agg size] [hZ:lU P e z] [hB:u0 P e bytes]
  (hx:Is sl x v) (hy:Is sl y V) (ht:Take hs (row e size v n xs) hs') (hsrc:∀ w,Mem c hs w->Rd w V size news) (h1:∀ r∈news,∀ u∈r,u.oneCell'=true) (hz:z.cells.size=size) (hsz:Nat.blt 0 size=true) (hb0:Nat.blt 0 bytes=true)
  (hb:(n+news.length)*bytes<=140737488355328) (hd:Nat.blt d c.nt=true)
  (k:∀ v',Tr c D ((d,v')::sl) (row e size v' (n+news.length) (xs++news.flatten)::hs') (WL P r ops Q rest)) :
  Tr c D sl hs (WL P r ops Q (⟨some d,.call ⟨.builtin .append,#[x,y],#[t,t]⟩,ty,pos,af,none⟩::rest)):=fun a w bh=>by
 have hR:=hsrc w bh.qD;have hlen:=fC hR.sz;by_cases hne:news=[]
 ·subst hne;obtain ⟨aa,cap,b,o,rfl,_⟩:=hR;have hm:=bh.mem.take (ht.append _);have hrow:(v=.slice none 0 0/\n=0)\/∃ g cap,v=.slice (some ⟨g,0,none⟩) n cap/\n<=cap:=by
   obtain ⟨_,fp,_,⟨f1,f2,_,⟨_,_,h1⟩,_⟩,_⟩:=hm;exact h1.imp id fun ⟨g,cap,cur,e,_,hc,_⟩=>⟨g,cap,e,hc⟩
  refine lY I ⟨dQ _ _ _ _ _,?_⟩;rw [Oper.semAt_eq _ _ _ (by simp)];have:(execOp a.eval ⟨some d,.call ⟨.builtin .append,#[x,y],#[t,t]⟩,ty,pos,af,none⟩).run P w=.ok (.value v) w:=by
   have:=Cd (P:=P) (t:=t) (e:=e) (ty:=ty) (w:=w) (agg:=agg) (size:=size) (a:=aa) (cp:=cap) hrow;simp only [Zaj] at hy;simp [execOp,resolve,invoke,builtin,hx a bh.cZ,hy a bh.cZ,this]
  rw [this];have k2:=k v;simp only [Zaj,Zau,List.flatten_nil,ZS] at k2;exact k2 _ _ ((bh.put (by simpa [Z9] using hd) v).heap hm)
 ·obtain ⟨aa,cap,b,o,hV,dp,bY,ha,hc⟩:=hR;have:=ha hne;subst this;rw [hV] at hy;exact yo hx hy ht (NA hsrc hne hV) hlen (fun u hu=>by obtain ⟨r,hr,Sp⟩:=ZbE.1 hu;exact h1 r hr u Sp) hz hsz hb0 hb hd k a w bh
theorem II {t t2 e:TypeId} {g n cap:Nat} {E:TypeId} {cs:List Value} [hu:ij P t (.slice e)] [hT:Ty P e agg size]
  (hx:Is sl x (.w g n cap)) (hy:Is sl y V) (ht:Take hs (bo g (.cells cs.toArray E (0,0))) hs') (hsrc:∀ w,Mem c hs w->Rd w V size news) (h1:∀ r∈news,∀ u∈r,u.oneCell'=true) (hfit:n*size<=cs.length) (hd:Nat.blt d c.nt=true)
  (k:Tr c D ((d,.q (Nat.min news.length n:Nat))::sl) (bo g (.cells (setCells cs 0 (news.take n).flatten).toArray E (0,0))::hs') (WL P r ops Q rest)) :
  Tr c D sl hs (WL P r ops Q (⟨some d,.call ⟨.builtin .copy,#[x,y],#[t,t2]⟩,ty,pos,af,none⟩::rest)):=fun a w bh=>by
 have hR:=hsrc w bh.qD;obtain ⟨de,i,lR,hi,_,hG⟩:=Ty.parts (P:=P) (t:=e) (agg:=agg) (n:=size);have hlen:(news.take n).flatten.length=Nat.min news.length n*size:=by
  rw [fC (fun r hr=>hR.sz r (ZaG hr)),Zs]
  show min n news.length*size=min news.length n*size;rw [Nat.min_comm]
 have hle:Nat.min news.length n<=n:=ZbF _ _;have hm:=bh.mem.take (ht.append _);have hg:w.heap[g]? = some (.cells cs.toArray E (0,0)):=hm.bo .here;obtain ⟨w',h3,h4,h5⟩:=gR (P:=P) (o:=0) (news.take n).flatten 0 cs w hg (fun u hu=>by
  obtain ⟨r,hr,Sp⟩:=ZbE.1 hu;exact h1 r (ZaG hr) u Sp) (by
  rw [hlen];have:Nat.min news.length n*size<=n*size:=Z4 _ hle;omega)
 have Le:(Builtin.firstCells size (Nat.min news.length n) V).run P w=.ok (news.take n).flatten.toArray w:=by
  obtain ⟨aa,dB,b,o,hV,ki,bY,ha,hc⟩:=hR;subst hV;by_cases hne:news=[]
  ·subst hne;cases aa <;> simp [Builtin.firstCells,loadCells,loadCellsFrom]
  ·have:=ha hne;subst this;simp only [Builtin.firstCells];refine ns hlen fun j u hu=>?_;refine lz (sz:=size) (xs:=news.take n) (fun i r hr=>?_) j u hu;rw [ZK] at hr;split at hr
   ·exact hc i r hr
   ·cases hr
 have Lf:(Builtin.lenOf V).run P w=.ok news.length w:=by
  obtain ⟨aa,dB,b,o,hV,_⟩:=hR;subst hV
  rfl
 refine lY I ⟨dQ _ _ _ _ _,?_⟩;rw [Oper.semAt_eq _ _ _ (by simp)];have:(execOp a.eval ⟨some d,.call ⟨.builtin .copy,#[x,y],#[t,t2]⟩,ty,pos,af,none⟩).run P w=.ok (.value (.q (Nat.min news.length n:Nat))) w':=by
  simp [execOp,resolve,invoke,builtin,hx a bh.cZ,hy a bh.cZ,Builtin.copy_,aV hu.eq,Lf,sizeOf,typeInfo,hi,hG,Le,h3,goInt]
 rw [this];have k6:=Mem.store hm h4 h5;rw [show (0+0:Nat)=0 from I] at k6;exact k _ _ ((bh.put (by simpa [Z9] using hd) _).heap k6)
theorem D4 {t tn e:TypeId} {kn:IntKind} {size bytes m:Nat} [hu:ij P t (.slice e)] [Ss:ij P tn (.int kn)] [hT:Ty P e agg size] [hZ:lU P e z] [hB:u0 P e bytes]
  (hx:Is sl x (.z)) (hy:Is sl y (.q m)) (h0:0<m) (hz:z.cells.size=size) (hsz:Nat.blt 0 size=true) (hb0:Nat.blt 0 bytes=true) (hb:m*bytes<=140737488355328) (hd:Nat.blt d c.nt=true)
  (k:∀ v',Tr c D ((d,v')::sl) (row e size v' m (Builtin.zeroCells z.cells m).toList::hs) (WL P r ops Q rest)) :
  Tr c D sl hs (WL P r ops Q (⟨some d,.call ⟨.builtin .append,#[x,y],#[t,tn]⟩,ty,pos,af,none⟩::rest)):=fun a w bh=>by
 obtain ⟨de,i,lR,hi,_,hG⟩:=Ty.parts (P:=P) (t:=e) (agg:=agg) (n:=size);have hzero:i.zero=some z:=by have:=hZ.eq;rw [hi] at this;simpa using this
 have gV:i.bytes=bytes:=by have:=hB.eq;rw [hi] at this;simpa using this
 have hs0:0<size:=by simpa [Z9] using hsz
 have aaT:0<bytes:=by simpa [Z9] using hb0
 have aG:m*1<=m*bytes:=Zbx _ aaT;have ja:=Lib.run_append_grow_zeros (P:=P) w t tn ty e i z .i64 kn hu.eq Ss.eq hi hzero none 0 0 [] (by simp [Builtin.firstCells]) m h0 (by omega) (by omega) (by omega) (by rw [gV];omega) (growslice_fits (by omega) (by rw [gV];simpa using hb));simp only [ZH] at ja;have Lk:=grownCap_ge w m 0 e;have hle:=grownCap_le_maxLen w m 0 e (by unfold maxLen;omega);refine lY I ⟨dQ _ _ _ _ _,?_⟩;rw [Oper.semAt_eq _ _ _ (by simp)];generalize grownCap w m 0 e=G at ja Lk hle;have:(execOp a.eval ⟨some d,.call ⟨.builtin .append,#[x,y],#[t,tn]⟩,ty,pos,af,none⟩).run P w=.ok (.value (.slice (some ⟨w.heap.size,0,none⟩) m G)) (w.drew.alloc (.cells (#[]++Builtin.zeroCells z.cells m++Builtin.zeroCells z.cells (G-m)) e)):=by
  simp [execOp,resolve,invoke,builtin,hx a bh.cZ,hy a bh.cZ,ja]
 rw [this];have EO:∀ q,(Builtin.zeroCells z.cells q).size=q*size:=fun q=>by rw [size_zeroCells,hz]
 have k6:=(bh.mem.drew.alloc (.cells (#[]++Builtin.zeroCells z.cells m++Builtin.zeroCells z.cells (G-m)) e (0,0)));refine k _ _ _ ((bh.put (by simpa [Z9] using hd) _).heap ?_);obtain ⟨kk,fp,hn,⟨f1,f2,rfl,⟨e1,h1⟩,h2⟩,EW⟩:=k6;refine ⟨kk,f1++f2,hn,⟨f1,f2,I,⟨by rw [e1];rfl,by simp [EO],.inr ⟨w.heap.size,G,_,I,h1,Lk,hle,?_,?_⟩⟩,h2⟩,EW⟩
 ·simp only [Array.size_append,EO];simp only [Array.size_empty,ZH,<- Nat.add_mul];congr 1;omega
 ·simp only [Array.toList_append,Array.toList_empty,Za];rw [List.take_left' (by rw [ZaN,EO])]
theorem kJ {dst:Option Tmp} {g:Option (Nat×Bool)} {t e:TypeId} [hu:ij P t (.slice e)] [hT:Ty P e agg size] :
  qZ P c sl hs ⟨dst,.buildSlice t 0 #[],ty,pos,af,g⟩ (fun b=>.w b 0 0) (.cells #[] e):=
 mu (ps:=#[]) (fun a _=>by simp) fun w=>by
  unfold Instr.buildSlice;simp only [Sem.run_bind,aV hu.eq,Result.andThen_ok,gj (t:=e) (agg:=agg) (n:=size),Zbt];simp [Instr.fill,newRow,show Array.range 0=#[] from I]
theorem rD {dst:Option Tmp} {g:Option (Nat×Bool)} {t e:TypeId} {a:Option Addr} {n cp:Nat} [hu:ij P t (.slice e)] (hx:Is sl x (.slice a n cp)) :
  cY P c sl hs ⟨dst,.call ⟨.builtin .cap,#[x],#[t]⟩,ty,pos,af,g⟩ (.q cp):=
 ⟨by simp,fun ac w ha _=>by simp [execOp,hx ac ha,resolve,invoke,builtin,Builtin.cap_,aV hu.eq,goInt]⟩
theorem B4 (g cap sz:Nat):Go.sliced (some ⟨g,0,none⟩) 0 0 cap sz=.w g 0 cap:=by
 unfold Go.sliced;by_cases h:cap=0
 ·rw [if_pos h];simp
 ·rw [if_neg h];simp [eT]
theorem zT:∀ (vs cs:List Value),vs.length<=cs.length->setCells cs 0 vs=vs++cs.drop vs.length:=by
 intro vs cs h;apply Zan;intro k;rw [gE _ _ _ _ (by omega),List.getElem?_append];by_cases hk:k<vs.length
 ·rw [if_pos (by omega),if_pos hk,Nat.sub_zero]
 ·rw [if_neg (by omega),if_neg hk,Zbj];congr 1;omega
end
end Go.SL
namespace Go.SL
open Go
theorem bc {α:Type} {b:Bool} {o:Option α} {v:α} (h:(bif b then o else none)=some v):b=true/\o=some v:=by cases b <;> simp_all
theorem bp {α β:Type} {o:Option α} {q:Option β} {v:α} {u:β} (h:(o.bind fun a=>q.map fun b=>(a,b))=some (v,u)):o=some v/\q=some u:=by
 cases o <;> cases q <;> simp_all
section
variable {P:Program} {r:Option Nat} {c:Cx} {D:List Nat} {sl:aH} {rl:eU} {hs hs':List bd} {Q:Exit->Act->World->Prop} {ops:Array Oper} {m d:Nat} {op:Op} {ty:TypeId} {pos:String} {af:Array Edge} {rest:List Oper} {dst:Option Tmp} {g:Option (Nat×Bool)}
theorem Jq {P:Program} {r:Option Nat} {c:Cx} {D:List Nat} {sl:aH} {hs:List bd} {x y:Code} {Q:Exit->Act->World->Prop}
  (h:Tr c D sl hs (WP P r x (Exit.then (WP P r y Q) Q))):Tr c D sl hs (WP P r (.seq x y) Q):=vg h
variable {N:Act->World->Prop} {a b:Int} {cs:List Value} {id:Nat} {k:IntKind} {p:Prop} {v:Value} {x y:Operand}
theorem Jt {c:Cx} {D:List Nat} {sl:aH} {hs:List bd} {Q:Exit->Act->World->Prop}
  (h:Tr c D sl hs N):Tr c D sl hs (Exit.then N Q .normal):=zA h
theorem J0 {P:Program} {r:Option Nat} {c:Cx} {D:List Nat} {sl:aH} {hs:List bd} {x:Code} {Q:Exit->Act->World->Prop}
  (h:Tr c D sl hs (WP P r x (Exit.inBlock id Q))):Tr c D sl hs (WP P r (.block id x) Q):=IK h
theorem Je {P:Program} {r:Option Nat} {c:Cx} {D:List Nat} {sl:aH} {hs:List bd} {Q:Exit->Act->World->Prop}
  (h:Tr c D sl hs (Q .ret)):Tr c D sl hs (WP P r .ret Q):=IE h
theorem Jg {P:Program} {r:Option Nat} {c:Cx} {D:List Nat} {sl:aH} {hs:List bd} {l:List Oper} {Q:Exit->Act->World->Prop}
  (h:Tr c D sl hs (WL P r l.toArray Q l)):Tr c D sl hs (WP P r (.region id l.toArray false) Q):=su h
theorem Jh {c:Cx} {D:List Nat} {sl:aH} {hs:List bd} {Q:Exit->Act->World->Prop}
  (h:Tr c D sl hs (Q .ret)):Tr c D sl hs (Exit.then N Q .ret):=BK h
theorem Ji {l:List Oper} {y:Code} {Q':Exit->Act->World->Prop} (h:Tr c D sl hs (WL P r l.toArray (Exit.then (WP P r y Q) Q) l)):Tr c D sl hs (WL P r ops (Exit.then (WP P r (.seq (.region id l.toArray false) y) Q) Q') []):=n_r h
theorem Jj {c:Cx} {D:List Nat} {sl:aH} {hs:List bd} {Q:Exit->Act->World->Prop}
  (h:Tr c D sl hs (Q .normal)):Tr c D sl hs (Exit.inBlock id Q .normal):=qk h
theorem Jk (h:Tr c D sl hs N):Tr c D sl hs (WP P r .skip (Exit.then N Q)):=s_t h
theorem Jl {c:Cx} {D:List Nat} {sl:aH} {hs:List bd} {Q:Exit->Act->World->Prop}
  (h:Tr c D sl hs (Q (.exit id))):Tr c D sl hs (Exit.then N Q (.exit id)):=zy h
theorem Jm {c:Cx} {D:List Nat} {sl:aH} {hs:List bd} {Q:Exit->Act->World->Prop}
  (h:Tr c D sl hs (Q .ret)):Tr c D sl hs (Exit.inBlock id Q .ret):=D3 h
theorem Jo {c:Cx} {D:List Nat} {sl:aH} {hs:List bd} {Q:Exit->Act->World->Prop}
  (h:Tr c D sl hs (Q .normal)):Tr c D sl hs (Exit.inBlock id Q (.exit id)):=BW h
theorem Jp (h:Tr c D sl hs (Q (.exit id))):Tr c D sl hs (WP P r (.exit id) (Exit.then N Q)):=x_t h
theorem Jn (h:Tr c D sl hs N):Tr c D sl hs (WL P r ops (Exit.then N Q) []):=n_t h
theorem Jr {l:List Oper} {y:Code} (h:Tr c D sl hs (WL P r l.toArray (Exit.then (WP P r y Q) Q) l)):Tr c D sl hs (WP P r (.seq (.region id l.toArray false) y) Q):=s_r h
theorem Ju (h:Tr c D sl hs (Q .ret)):Tr c D sl hs (WP P r .ret (Exit.then N Q)):=r_t h
theorem Jw {P:Program} {r:Option Nat} {c:Cx} {D:List Nat} {sl:aH} {hs:List bd} {Q:Exit->Act->World->Prop}
  (h:Tr c D sl hs (Q .normal)):Tr c D sl hs (WP P r .skip Q):=zB h
theorem Jx {P:Program} {r:Option Nat} {c:Cx} {D:List Nat} {sl:aH} {hs:List bd} {ops:Array Oper} {Q:Exit->Act->World->Prop}
  (h:Tr c D sl hs (Q .normal)):Tr c D sl hs (WL P r ops Q []):=DZ h
theorem Jv (h:(bif Nat.blt d c.nt then ev sl x else none)=some v) (k:Tr c D ((d,v)::sl) hs (WL P r ops Q rest)):Tr c D sl hs (WL P r ops Q (⟨some d,.move x,ty,pos,af,none⟩::rest)):=xi (bc h).2 (bc h).1 k
theorem Ja (h:(bif Nat.blt d c.nt then ev sl x else none)=some v) (k:Tr c D ((d,v)::sl) hs (WL P r ops Q rest)):Tr c D sl hs (WL P r ops Q (⟨some d,.assign x,ty,pos,af,none⟩::rest)):=a_s (bc h).2 (bc h).1 k
theorem JA {t u:TypeId} (h:(bif Nat.blt d c.nt then ((ev sl x).bind fun a=>(ev sl y).map fun b=>(a,b)) else none)=some (.int k a,.int k b)) (k:Tr c D ((d,.bool (decide (a<b)))::sl) hs (WL P r ops Q rest)):Tr c D sl hs (WL P r ops Q (⟨some d,.binOp .lss t x y u,ty,pos,af,none⟩::rest)):=ab (nq (.of (bp (bc h).2).1) (.of (bp (bc h).2).2)) (bc h).1 k
theorem JC {t u:TypeId} (h:(bif Nat.blt d c.nt then ((ev sl x).bind fun a=>(ev sl y).map fun b=>(a,b)) else none)=some (.int k a,.int k b)) (k:Tr c D ((d,.bool (decide (a=b)))::sl) hs (WL P r ops Q rest)):Tr c D sl hs (WL P r ops Q (⟨some d,.binOp .eql t x y u,ty,pos,af,none⟩::rest)):=ab (mr (.of (bp (bc h).2).1) (.of (bp (bc h).2).2)) (bc h).1 k
theorem JD {t u:TypeId} (h:(bif Nat.blt d c.nt then ((ev sl x).bind fun a=>(ev sl y).map fun b=>(a,b)) else none)=some (.int k a,.int k b)) (k:Tr c D ((d,.bool (decide (a≠b)))::sl) hs (WL P r ops Q rest)):Tr c D sl hs (WL P r ops Q (⟨some d,.binOp .neq t x y u,ty,pos,af,none⟩::rest)):=ab (gU (.of (bp (bc h).2).1) (.of (bp (bc h).2).2)) (bc h).1 k
theorem JE {t u:TypeId} (h:(bif Nat.blt d c.nt then ((ev sl x).bind fun a=>(ev sl y).map fun b=>(a,b)) else none)=some (.int k a,.int k b)) (k:Tr c D ((d,.bool (decide (b<a)))::sl) hs (WL P r ops Q rest)):Tr c D sl hs (WL P r ops Q (⟨some d,.binOp .gtr t x y u,ty,pos,af,none⟩::rest)):=ab (ln (.of (bp (bc h).2).1) (.of (bp (bc h).2).2)) (bc h).1 k
theorem JF {t u:TypeId} (h:(bif Nat.blt d c.nt then ((ev sl x).bind fun a=>(ev sl y).map fun b=>(a,b)) else none)=some (.int k a,.int k b)) (k:Tr c D ((d,.bool (decide (a<=b)))::sl) hs (WL P r ops Q rest)):Tr c D sl hs (WL P r ops Q (⟨some d,.binOp .leq t x y u,ty,pos,af,none⟩::rest)):=ab (mq (.of (bp (bc h).2).1) (.of (bp (bc h).2).2)) (bc h).1 k
theorem JG {t u:TypeId} (h:(bif Nat.blt d c.nt then ((ev sl x).bind fun a=>(ev sl y).map fun b=>(a,b)) else none)=some (.int k a,.int k b)) (k:Tr c D ((d,.bool (decide (b<=a)))::sl) hs (WL P r ops Q rest)):Tr c D sl hs (WL P r ops Q (⟨some d,.binOp .geq t x y u,ty,pos,af,none⟩::rest)):=ab (Ab (.of (bp (bc h).2).1) (.of (bp (bc h).2).2)) (bc h).1 k
theorem JB {t u:TypeId} (h:(bif Nat.blt d c.nt then ((ev sl x).bind fun a=>(ev sl y).map fun b=>(a,b)) else none)=some (.q a,.q b)) (hb:-9223372036854775808<=a+b/\a+b<=9223372036854775807) (k:Tr c D ((d,.q (a+b))::sl) hs (WL P r ops Q rest)):Tr c D sl hs (WL P r ops Q (⟨some d,.binOp .add t x y u,ty,pos,af,none⟩::rest)):=ab (Em (.of (bp (bc h).2).1) (.of (bp (bc h).2).2) (TX hb)) (bc h).1 k
theorem JS {t u:TypeId} (h:(bif Nat.blt d c.nt then ((ev sl x).bind fun a=>(ev sl y).map fun b=>(a,b)) else none)=some (.q a,.q b)) (hb:-9223372036854775808<=a-b/\a-b<=9223372036854775807) (k:Tr c D ((d,.q (a-b))::sl) hs (WL P r ops Q rest)):Tr c D sl hs (WL P r ops Q (⟨some d,.binOp .sub t x y u,ty,pos,af,none⟩::rest)):=ab (z8 (.of (bp (bc h).2).1) (.of (bp (bc h).2).2) (TX hb)) (bc h).1 k
theorem JH {t:TypeId} {b:Bool} (h:(bif Nat.blt d c.nt then ev sl x else none)=some (.bool b)) (k:Tr c D ((d,.bool (!b))::sl) hs (WL P r ops Q rest)):Tr c D sl hs (WL P r ops Q (⟨some d,.unOp .not t x,ty,pos,af,none⟩::rest)):=ab (dX (.of (bc h).2)) (bc h).1 k
theorem JI {t e:TypeId} {b:Option Addr} {n cap:Nat} [ij P t (.slice e)] (h:(bif Nat.blt d c.nt then ev sl x else none)=some (.slice b n cap)) (k:Tr c D ((d,.q n)::sl) hs (WL P r ops Q rest)):Tr c D sl hs (WL P r ops Q (⟨some d,.call ⟨.builtin .len,#[x],#[t]⟩,ty,pos,af,none⟩::rest)):=ab (cI (e:=e) (.of (bc h).2)) (bc h).1 k
theorem JJ {i:Nat} {vs:List Value} (h:(bif Nat.blt d c.nt then ev sl x else none)=some (.tuple vs.toArray)) (hv:ue vs i=some v) (k:Tr c D ((d,v)::sl) hs (WL P r ops Q rest)):Tr c D sl hs (WL P r ops Q (⟨some d,.extract x i,ty,pos,af,none⟩::rest)):=ab (di (.of (bc h).2) hv) (bc h).1 k
theorem JK {r:Option Nat} {D:List Nat} {ops:Array Oper} {Q:Exit->Act->World->Prop} {d:Option Tmp} {op:Op} {rest:List Oper} {j gs:Nat} {want:Bool} (hj:((ops[j]?).bind (·.dst))=some gs) (hq:cX sl gs=some (.bool want))
  (k:Tr c D sl hs (WL P r ops Q (⟨d,op,ty,pos,af,none⟩::rest))):Tr c D sl hs (WL P r ops Q (⟨d,op,ty,pos,af,some (j,want)⟩::rest)):=zD hj hq k
theorem JL {t:TypeId} {n:Nat} {b o:Nat} {E:TypeId} {fz:Nat×Nat} [Ty P t false n] (h:(bif Nat.blt d c.nt then ev sl x else none)=some (.pointer (some ⟨b,o,none⟩))) (ht:Take hs (SL.bo b (.cells cs.toArray E fz)) hs') (hv:ue cs o=some v) (k:Tr c D ((d,v)::sl) hs (WL P r ops Q rest)):Tr c D sl hs (WL P r ops Q (⟨some d,.load t x,ty,pos,af,none⟩::rest)):=ab (ag (.of (bc h).2) (At.lit ht hv)) (bc h).1 k
theorem Jc {inst:Decidable p} {u v:Code} (hx:ev sl x=some (.bool (decide p))) (hf:¬ p->Tr c D sl hs (WP P r v Q)) (ht:p->Tr c D sl hs (WP P r u Q):=by intro h;exfalso;omega):Tr c D sl hs (WP P r (.cond x u v) Q):=gB hx ht hf
theorem Jd {inst:Decidable p} {u v:Code} (hx:ev sl x=some (.bool (decide p))) (ht:p->Tr c D sl hs (WP P r u Q)) (hf:¬ p->Tr c D sl hs (WP P r v Q):=by intro h;exfalso;omega):Tr c D sl hs (WP P r (.cond x u v) Q):=gB hx ht hf
theorem Jy {t:TypeId} (h:(bif Nat.blt d c.nt then ev sl x else none)=some v) (hc:v.cells=cs.toArray) (k:∀ b,c.w0.heap.size<=b->Tr c D ((d,.p b)::sl) (bo b (.cells cs.toArray t)::hs) (WL P r ops Q rest)):Tr c D sl hs (WL P r ops Q (⟨some d,.box t x,ty,pos,af,none⟩::rest)):=bu (RE (.of (bc h).2) hc) (bc h).1 k
theorem Jz {t:TypeId} {z:Value} [lU P t z] (hc:z.cells=cs.toArray) (hd:Nat.blt d c.nt=true) (k:∀ b,c.w0.heap.size<=b->Tr c D ((d,.p b)::sl) (bo b (.cells cs.toArray t)::hs) (WL P r ops Q rest)):Tr c D sl hs (WL P r ops Q (⟨some d,.alloc t,ty,pos,af,none⟩::rest)):=bu (rE hc) hd k
end
theorem JN {P:Program} {r:Option Nat} {c:Cx} {D:List Nat} {sl:aH} {hs:List bd} {Q:Exit->Act->World->Prop} {ops:Array Oper} {d:Nat} {op:Op} {ty:TypeId} {pos:String} {af:Array Edge} {rest:List Oper} {f:FuncId} {args:List Value} {ι:Type} {Φ:ι->Prop} {val:ι->Value} {own:ι->List bd} (hr:lV P sl ⟨some d,op,ty,pos,af,none⟩ f args) (hd:Nat.blt d c.nt=true) (hc:∀ w,Mem c hs w->bb P f args w [] Φ val own)
  (k:∀ x,Φ x->Tr c D ((d,val x)::sl) (own x++hs) (WL P r ops Q rest)):Tr c D sl hs (WL P r ops Q (⟨some d,op,ty,pos,af,none⟩::rest)):=jy hr hd bj.nil (fun w fp hm _ hs=>by obtain rfl:fp=[]:=hs;exact hc w hm) k
section
variable {P:Program} {r:Option Nat} {c:Cx} {sl:aH} {hs hs':List bd} {d:Nat} {dst:Option Tmp} {ty:TypeId} {pos:String} {af:Array Edge} {g:Option (Nat×Bool)}
variable {b:Nat} {cs:List Value} {fz:Nat×Nat} {n o:Nat} {v:Value} {vs:List Value} {x:Operand}
theorem ie {t:TypeId} {E:TypeId} [Ty P t false n] (ht:Take hs (SL.bo b (.cells cs.toArray E fz)) hs') (hx:Is sl x (.pointer (some ⟨b,o,none⟩)):=by exact Is.of I) (hv:ue cs o=some v:=by exact I):cY P c sl hs ⟨dst,.load t x,ty,pos,af,g⟩ v:=ag hx (At.lit ht hv)
theorem cK {t:TypeId} {E:TypeId} [Ty P t true n] (ht:Take hs (SL.bo b (.cells cs.toArray E fz)) hs') (hx:Is sl x (.pointer (some ⟨b,o,none⟩)):=by exact Is.of I) (hv:eo cs o n=vs:=by exact ak) (hl:vs.length=n:=by rfl):cY P c sl hs ⟨dst,.load t x,ty,pos,af,g⟩ (.agg vs.toArray):=bV hx ht hv hl
theorem lf {t:TypeId} {i o:Nat} {b k q:Nat} [eb P t i o] (hx:Is sl x (.pointer (some ⟨b,k,none⟩)):=by exact Is.of I) (he:k+o=q:=by exact ae):cY P c sl hs ⟨dst,.fieldAddr t x i,ty,pos,af,g⟩ (.pointer (some ⟨b,q,none⟩)):=az hx he
theorem lX (hx:Is sl x v:=by exact Is.of I):cY P c sl hs ⟨dst,.move x,ty,pos,af,g⟩ v:=aX hx
theorem iA {t:TypeId} [Ty P t true n] (hv:eV c hs b o vs) (hx:Is sl x (.pointer (some ⟨b,o,none⟩)):=by exact Is.of I) (hl:vs.length=n:=by exact I):cY P c sl hs ⟨dst,.load t x,ty,pos,af,g⟩ (.agg vs.toArray):=jB hx hv hl
theorem fZ {t e:TypeId} {agg:Bool} {x y:Operand} {a0:Option Addr} {b o len cap q:Nat} {k:IntKind} {i:Int} [hu:ij P t (.slice e)] [Ty P e agg n] (ha:a0=some ⟨b,o,none⟩) (h1:i<len) (hx:Is sl x (.slice a0 len cap):=by exact Is.of I) (hy:Is sl y (.int k i):=by exact Is.of I) (h0:0<=i:=by omega) (he:o+i.toNat*n=q:=by exact bn):cY P c sl hs ⟨dst,.indexAddr t x y,ty,pos,af,g⟩ (.pointer (some ⟨b,q,none⟩)):=au hx hy ha h0 h1 he
theorem JT {fn:Func} {v v':Value} {t:Tmp} (hv:v'=v) (HD:c.md=[]:=by exact I) (h1:fn.results=#[.tmp t]:=by exact I) (h2:cX sl t=some v':=by exact I):Tr c [] sl hs (bodyPostM (FR r) 0 P fn (fun e w'=>e=.returned v/\aK [] c.w0 w') .ret):=pC HD (dH h1 h2) hv
end
variable {args cap:List Value} {f:FuncId} {first:List Value} {h:List bd} {ts:Array TypeId}
theorem bF {A x0 x1:bd}:Take (x0::x1::A::h) A (x0::x1::h):=.there (.there .here)
theorem cA {A x0 x1 x2:bd}:Take (x0::x1::x2::A::h) A (x0::x1::x2::h):=.there bF
theorem df {A x0 x1 x2 x3:bd}:Take (x0::x1::x2::x3::A::h) A (x0::x1::x2::x3::h):=.there cA
theorem eG {A x0 x1 x2 x3 x4:bd}:Take (x0::x1::x2::x3::x4::A::h) A (x0::x1::x2::x3::x4::h):=.there df
theorem kU {A x0 x1 x2 x3 x4 x5:bd}:Take (x0::x1::x2::x3::x4::x5::A::h) A (x0::x1::x2::x3::x4::x5::h):=.there eG
theorem uZ {A x0 x1 x2 x3 x4 x5 x6:bd}:Take (x0::x1::x2::x3::x4::x5::x6::A::h) A (x0::x1::x2::x3::x4::x5::x6::h):=.there kU
theorem fW {A x0 x1 x2 x3 x4 x5 x6 x7:bd}:Take (x0::x1::x2::x3::x4::x5::x6::x7::A::h) A (x0::x1::x2::x3::x4::x5::x6::x7::h):=.there uZ
theorem iS {A x0 x1 x2 x3 x4 x5 x6 x7 x8:bd}:Take (x0::x1::x2::x3::x4::x5::x6::x7::x8::A::h) A (x0::x1::x2::x3::x4::x5::x6::x7::x8::h):=.there fW
theorem lW {A x0 x1 x2 x3 x4 x5 x6 x7 x8 x9:bd}:Take (x0::x1::x2::x3::x4::x5::x6::x7::x8::x9::A::h) A (x0::x1::x2::x3::x4::x5::x6::x7::x8::x9::h):=.there iS
theorem Bu {A x0 x1 x2 x3 x4 x5 x6 x7 x8 x9 xX:bd}:Take (x0::x1::x2::x3::x4::x5::x6::x7::x8::x9::xX::A::h) A (x0::x1::x2::x3::x4::x5::x6::x7::x8::x9::xX::h):=.there lW
theorem kV {A x0 x1 x2 x3 x4 x5 x6 x7 x8 x9 xX Ft:bd}:Take (x0::x1::x2::x3::x4::x5::x6::x7::x8::x9::xX::Ft::A::h) A (x0::x1::x2::x3::x4::x5::x6::x7::x8::x9::xX::Ft::h):=.there Bu
theorem uu {A x0 x1 x2 x3 x4 x5 x6 x7 x8 x9 xX Ft H9:bd}:Take (x0::x1::x2::x3::x4::x5::x6::x7::x8::x9::xX::Ft::H9::A::h) A (x0::x1::x2::x3::x4::x5::x6::x7::x8::x9::xX::Ft::H9::h):=.there kV
theorem DA {A x0 x1 x2 x3 x4 x5 x6 x7 x8 x9 xX Ft H9 PX:bd}:Take (x0::x1::x2::x3::x4::x5::x6::x7::x8::x9::xX::Ft::H9::PX::A::h) A (x0::x1::x2::x3::x4::x5::x6::x7::x8::x9::xX::Ft::H9::PX::h):=.there uu
theorem fO {A x0 x1 x2 x3 x4 x5 x6 x7 x8 x9 xX Ft H9 PX Q5:bd}:Take (x0::x1::x2::x3::x4::x5::x6::x7::x8::x9::xX::Ft::H9::PX::Q5::A::h) A (x0::x1::x2::x3::x4::x5::x6::x7::x8::x9::xX::Ft::H9::PX::Q5::h):=.there DA
theorem lJ {A x0 x1 x2 x3 x4 x5 x6 x7 x8 x9 xX Ft H9 PX Q5 x15:bd}:Take (x0::x1::x2::x3::x4::x5::x6::x7::x8::x9::xX::Ft::H9::PX::Q5::x15::A::h) A (x0::x1::x2::x3::x4::x5::x6::x7::x8::x9::xX::Ft::H9::PX::Q5::x15::h):=.there fO
theorem eL {v0:Value} (h0:v0.oneCell'=true):∀ u∈[v0],u.oneCell'=true:=aM h0 (dT)
theorem gJ {v0 v1:Value} (h0:v0.oneCell'=true) (h1:v1.oneCell'=true):∀ u∈[v0,v1],u.oneCell'=true:=aM h0 (aM h1 (dT))
theorem fq {v0 v1 v2:Value} (h0:v0.oneCell'=true) (h1:v1.oneCell'=true) (h2:v2.oneCell'=true):∀ u∈[v0,v1,v2],u.oneCell'=true:=aM h0 (aM h1 (aM h2 (dT)))
theorem gr {v0 v1 v2 v3 v4 v5:Value} (h0:v0.oneCell'=true) (h1:v1.oneCell'=true) (h2:v2.oneCell'=true) (h3:v3.oneCell'=true) (h4:v4.oneCell'=true) (h5:v5.oneCell'=true):∀ u∈[v0,v1,v2,v3,v4,v5],u.oneCell'=true:=aM h0 (aM h1 (aM h2 (aM h3 (aM h4 (aM h5 (dT))))))
theorem WZ {v0 v1 v2 v3 v4 v5 v6 v7:Value} (h0:v0.oneCell'=true) (h1:v1.oneCell'=true) (h2:v2.oneCell'=true) (h3:v3.oneCell'=true) (h4:v4.oneCell'=true) (h5:v5.oneCell'=true) (h6:v6.oneCell'=true) (h7:v7.oneCell'=true):∀ u∈[v0,v1,v2,v3,v4,v5,v6,v7],u.oneCell'=true:=aM h0 (aM h1 (aM h2 (aM h3 (aM h4 (aM h5 (aM h6 (aM h7 (dT))))))))
theorem cu {sl w:aH} (h:lI sl w:=by repeat' first | with_reducible exact lI.nil | ((with_reducible apply lI.cons);(case h=>exact I))):lI sl w:=h
theorem ng {hs w q:List bd} (h:bj hs w q:=by repeat' first | with_reducible exact bj.nil | with_reducible apply bj.cons | with_reducible exact Take.here | with_reducible apply Take.there):bj hs w q:=h
theorem lK {P:Program} {sl:aH} {dst:Option Tmp} {ty:TypeId} {pos:String} {af:Array Edge} {g:Option (Nat×Bool)} {x :Operand} (hx:Is sl x (.func (.func f) first.toArray cap.toArray):=by exact Is.of I)  (hb:bO P f:=by exact inferInstance) (he:first++[]++cap=args:=by exact eQ):lV P sl ⟨dst,.call ⟨.value x,#[],ts⟩,ty,pos,af,g⟩ f args:=aZ (xs:=[]) hx (.nil) hb he
theorem bz {P:Program} {sl:aH} {dst:Option Tmp} {ty:TypeId} {pos:String} {af:Array Edge} {g:Option (Nat×Bool)} {x y0:Operand} {w0:Value} (hx:Is sl x (.func (.func f) first.toArray cap.toArray):=by exact Is.of I) (h0:Is sl y0 w0:=by exact Is.of I) (hb:bO P f:=by exact inferInstance) (he:first++[w0]++cap=args:=by exact eQ):lV P sl ⟨dst,.call ⟨.value x,#[y0],ts⟩,ty,pos,af,g⟩ f args:=aZ (xs:=[y0]) hx (.cons h0 (.nil)) hb he
theorem ba {P:Program} {sl:aH} {dst:Option Tmp} {ty:TypeId} {pos:String} {af:Array Edge} {g:Option (Nat×Bool)} {x y0 y1:Operand} {w0 w1:Value} (hx:Is sl x (.func (.func f) first.toArray cap.toArray):=by exact Is.of I) (h0:Is sl y0 w0:=by exact Is.of I) (h1:Is sl y1 w1:=by exact Is.of I) (hb:bO P f:=by exact inferInstance) (he:first++[w0,w1]++cap=args:=by exact eQ):lV P sl ⟨dst,.call ⟨.value x,#[y0,y1],ts⟩,ty,pos,af,g⟩ f args:=aZ (xs:=[y0,y1]) hx (.cons h0 (.cons h1 (.nil))) hb he
theorem eK {P:Program} {sl:aH} {dst:Option Tmp} {ty:TypeId} {pos:String} {af:Array Edge} {g:Option (Nat×Bool)} {x y0 y1 y2:Operand} {w0 w1 w2:Value} (hx:Is sl x (.func (.func f) first.toArray cap.toArray):=by exact Is.of I) (h0:Is sl y0 w0:=by exact Is.of I) (h1:Is sl y1 w1:=by exact Is.of I) (h2:Is sl y2 w2:=by exact Is.of I) (hb:bO P f:=by exact inferInstance) (he:first++[w0,w1,w2]++cap=args:=by exact eQ):lV P sl ⟨dst,.call ⟨.value x,#[y0,y1,y2],ts⟩,ty,pos,af,g⟩ f args:=aZ (xs:=[y0,y1,y2]) hx (.cons h0 (.cons h1 (.cons h2 (.nil)))) hb he
theorem wZ {P:Program} {sl:aH} {dst:Option Tmp} {ty:TypeId} {pos:String} {af:Array Edge} {g:Option (Nat×Bool)} {x y0 y1 y2 y3:Operand} {w0 w1 w2 w3:Value} (hx:Is sl x (.func (.func f) first.toArray cap.toArray):=by exact Is.of I) (h0:Is sl y0 w0:=by exact Is.of I) (h1:Is sl y1 w1:=by exact Is.of I) (h2:Is sl y2 w2:=by exact Is.of I) (h3:Is sl y3 w3:=by exact Is.of I) (hb:bO P f:=by exact inferInstance) (he:first++[w0,w1,w2,w3]++cap=args:=by exact eQ):lV P sl ⟨dst,.call ⟨.value x,#[y0,y1,y2,y3],ts⟩,ty,pos,af,g⟩ f args:=aZ (xs:=[y0,y1,y2,y3]) hx (.cons h0 (.cons h1 (.cons h2 (.cons h3 (.nil))))) hb he
theorem MG {P:Program} {sl:aH} {dst:Option Tmp} {ty:TypeId} {pos:String} {af:Array Edge} {g:Option (Nat×Bool)} {x y0 y1 y2 y3 y4:Operand} {w0 w1 w2 w3 w4:Value} (hx:Is sl x (.func (.func f) first.toArray cap.toArray):=by exact Is.of I) (h0:Is sl y0 w0:=by exact Is.of I) (h1:Is sl y1 w1:=by exact Is.of I) (h2:Is sl y2 w2:=by exact Is.of I) (h3:Is sl y3 w3:=by exact Is.of I) (h4:Is sl y4 w4:=by exact Is.of I) (hb:bO P f:=by exact inferInstance) (he:first++[w0,w1,w2,w3,w4]++cap=args:=by exact eQ):lV P sl ⟨dst,.call ⟨.value x,#[y0,y1,y2,y3,y4],ts⟩,ty,pos,af,g⟩ f args:=aZ (xs:=[y0,y1,y2,y3,y4]) hx (.cons h0 (.cons h1 (.cons h2 (.cons h3 (.cons h4 (.nil)))))) hb he
end Go.SL
namespace Go.Proofs.A1
open Go Go.SL
open Tryz
open Tryz renaming prog->T_
def ints (es:List Int):List (List Value):=es.map fun e=>[.q e]
theorem c7 (es:List Int):(ints es).length=es.length:=by simp [ints]
variable {cs:List Value} {es:List Int} {k n p:Nat} {s:ByteArray} {v:Value} {w:World}
theorem iw (h:k<es.length):(ints es)[k]? = some [.q es[k]]:=by simp [ints,h]
theorem jG (h:k<es.length):ints es≠[]:=by intro e;have:=congrArg List.length e;rw [c7] at this;simp at this;subst this;simp at h
inductive cm:List Value->List Int->Prop
 | nil:cm [] []
 | cons {e:Int} {vs:List Value} {es:List Int} (h:cm vs es):cm (.int .i64 e::vs) (e::es)
theorem cm.eq {vs:List Value} (h:cm vs es):(vs.map fun v=>[v])=ints es:=by
 induction h with
 | nil=>rfl
 | cons h ih=>simp only [ZZ,ints,ih]
theorem Qc (c:Int) (w:World):aj T_ 323 [.int .u8 c] w (.bool (Hs c)):=by
 refine ah func323 I I ?_
 (refine Jr<|Ja I<|Ji<|Jv I<|JF I<|Jv I<|iT I I I I<|aF I I (fun hg bT=>(mq (.cD hg I) (.of I))) I<|ab (c6 (.of I) I) I<|Jv I<|iT I I I I<|aF I I (fun hg bT=>(mq (.of I) (.cD hg I))) I<|aF I I (fun hg bT=>(aX (.cD hg I))) I<|lZ I I (fun hg bT=>(aX (.of I))) I<|lZ I I (fun hg bT=>(mq (.cD hg I) (.of I))) I<|aF I I (fun hg bT=>(kK hg (.cD hg I) I)) I<|ab (bC (.of I) I) I<|Ja I<|Jn<|Je<|JT ?_)
 rfl
theorem U0 (c:Int) (w:World):aj T_ 324 [.int .u8 c] w (.bool (U1 c)):=by
 refine ah func324 I I ?_
 (refine Jr<|Ja I<|Ji<|Jv I<|JF I<|Jv I<|iT I I I I<|aF I I (fun hg bT=>(mq (.cD hg I) (.of I))) I<|ab (c6 (.of I) I) I<|Ja I<|Jn<|Je<|JT ?_)
 rfl
theorem lg (h:Bool) (e:Int) (w:World):aj T_ 129 [.bool h,.q e] w (.q (bQ h e)):=by
 refine ah func129 I I ?_
 (refine Jr<|Ja I<|Jn<|Jq<|Jr<|Jv I<|Jn<|qv I (fun ar=>?_) fun ar=>?_;refine Jr<|Jv I<|Ja I<|Jn<|Ju<|JT ?_;rotate_left;refine Jk<|Jr<|Ja I<|Jn<|Je<|JT ?_;rotate_right)
 all_goals simp [bQ, *]
theorem Ag (n l m:Int) (w:World):aj T_ 67 [.q n,.q l,.q m] w (.q (gD n l m)):=by
 refine ah func67 I I ?_
 (refine Jr<|Ja I<|Ji<|Jv I<|Jv I<|JA I<|Jv I<|iT I I I I<|iT I I I I<|aF I I (fun hg bT=>(ln (.cD hg I) (.cD hg I))) I<|ab (bC (.of I) I) I<|ai ba I (fun w' aA=>(lg _ 3 w'))<|Ja I<|Jn<|Je<|JT ?_)
 rfl
theorem Sb (s:ByteArray) (w:World):aj T_ 270 [.string s] w (.bool (fA s)):=by
 refine ah func270 I I ?_
 (refine Jr<|Ja I<|Jn<|Jq<|Jr<|Jv I<|ab (fP (.of I)) I<|JC I<|Jv I<|iT I I I I<|aF I I (fun hg bT=>(fP (.cD hg I))) I<|aF I I (fun hg bT=>(ln (.cD hg I) (.of I))) I<|ab (bC (.of I) I) I<|Jv I<|iT I I I I<|aF I I (fun hg bT=>(pJ (.cD hg I) (.of I) (by omega) (by omega))) I<|eh I I (fun hg=>(aZ (.of I) (.cons (.cD hg I) .nil) inferInstance eQ)) I (fun hg w' aA=>(Qc _ w'))<|aF I I (fun hg bT=>(dX (.cD hg I))) I<|ab (bC (.of I) I) I<|Jn<|qv I (fun ar=>?_) fun ar=>?_;refine Jr<|Ja I<|Jn<|Ju<|JT ?_;rotate_left;refine Jk<|Jq<|Jr<|Ja I<|Jn<|J0 ?_;rotate_right)
 ·congr 1;symm;change (_\/_)\/Hs (bt s 0)=false at ar;unfold fA;rcases ar with (h | h) | h
  ·simp;omega
  ·simp;omega
  ·simp [h]
 change (_/\_)/\Hs (bt s 0)=true at ar;obtain ⟨⟨h0,h1⟩,h2⟩:=ar;have hN:fA s=okF s 1:=by
  unfold fA;rw [h2,decide_eq_true (by omega),decide_eq_true (by omega)];rfl
 rw [hN];refine a7 (fun k:Nat=>1<=k/\k<=s.size/\okF s 1=okF s k) (fun k=>[(3,.q k),(0,.string s)]) (fun _=>[]) (fun k=>s.size-k) ?_ ?_
 ·apply aI 1 ⟨by omega,by omega,I⟩
  case hs1=>exact cu
  case ht=>(try simp only [Ze,Zf,Za]);exact .nil
 intro k ⟨xJ,hk,hf⟩;rw [hf];by_cases aN:k<s.size
 ·rw [Ar aN]
  (refine Jq<|Jr<|Jv I<|Jv I<|ab (fP (.of I)) I<|JA I<|Jn<|Jd I fun ar=>Jk<|Jq<|J0<|Jr<|Jv I<|Jv I<|ab (pJ (.of I) (.of I) (by omega) ar) I<|ai bz I (fun w' aA=>(Qc _ w'))<|JH I<|Jv I<|iT I I I I<|iT I I I I<|aF I I (fun hg bT=>(pJ (.cD hg I) (.cD hg I) (by omega) ar)) I<|eh I I (fun hg=>(aZ (.of I) (.cons (.cD hg I) .nil) inferInstance eQ)) I (fun hg w' aA=>(U0 _ w'))<|aF I I (fun hg bT=>(dX (.cD hg I))) I<|ab (c6 (.of I) I) I<|Jv I<|iT I I I I<|iT I I I I<|aF I I (fun hg bT=>(pJ (.cD hg I) (.cD hg I) (by omega) ar)) I<|aF I I (fun hg bT=>(gU (.cD hg I) (.of I))) I<|ab (c6 (.of I) I) I<|Jn<|qv I (fun ar=>?_) fun ar=>?_;refine Jr<|Ja I<|Jn<|Je<|Jm<|Jh<|Jh<|Jm<|Jh<|JT ?_;rotate_left;refine Jw<|Jj<|Jt<|Jg<|Jv I<|JB I (by omega)<|Ja I<|Jn ?_;rotate_right)
  ·congr 1;symm;change (Hs (bt s k)=false/\U1 (bt s k)=false)/\bt s k≠95 at ar;simp [okB,ar]
  ·have ho:okB (bt s k)=true:=by
    change (Hs (bt s k)=true\/U1 (bt s k)=true)\/¬ bt s k≠95 at ar;rcases ar with (h | h) | h
    ·simp [okB,h]
    ·simp [okB,h]
    ·simp [okB,Zq.1 h]
   rw [ho,Zaz];rw [Ar aN,ho,Zaz] at hf;rw [<- hf];apply aL (k+1) ⟨by omega,by omega,hf⟩ (by omega)
   case hs1=>exact cu
   case ht=>(try simp only [Ze,Zf,Za]);exact .nil
 ·(refine Jq<|Jr<|Jv I<|Jv I<|ab (fP (.of I)) I<|JA I<|Jn<|Jc I fun ar=>Jp<|Jl<|Jo<|Jt<|Jr<|Ja I<|Jn<|Je<|JT ?_)
  rw [FZ (by omega)]
theorem X7 (s:ByteArray) (w:World):aj T_ 189 [.string s] w (.q (X8 s)):=by
 refine ah func189 I I ?_
 (refine Jr<|Ja I<|Ji<|Jv I<|ai bz I (fun w' aA=>(Sb s w'))<|JH I<|ai ba I (fun w' aA=>(lg _ 8 w'))<|Ja I<|Jn<|Je<|JT ?_)
 rfl
theorem Pg (v:Value) (es:List Int) (w:World) (h:Rd w v 1 (ints es)):aj T_ 28 [v] w (.q (aW es)):=by
 obtain ⟨a,cap,b,o,rfl,dp,bY,ha,hc⟩:=h;rw [c7] at *;unfold maxLen at bY;refine ah func28 I I ?_;refine Jr<|Ja I<|Jn<|Jq<|Jr<|Ja I<|Jn<|J0 ?_;refine a7 (fun k:Nat=>k<=es.length/\aW es=aW (es.drop k)) (fun k=>[(3,.int .i64 k),(0,.slice a es.length cap)]) (fun _=>[]) (fun k=>es.length-k) ?_ ?_
 ·apply aI 0 ⟨Zi _,I⟩
  case hs1=>exact cu
  case ht=>(try simp only [Ze,Zf,Za]);exact .nil
 intro k ⟨hk,hf⟩;by_cases aN:k<es.length
 ·have cP:=ha (jG aN);have aB:=rd1 hc (iw aN);have hs:=td aN
  (refine Jq<|Jr<|Jv I<|Jv I<|JI I<|JA I<|Jn<|Jd I fun ar=>Jk<|Jq<|J0<|Jr<|Jv I<|Jv I<|ab (fZ cP ar) I<|ab (ag (.of I) (At.base aB I)) I<|JD I<|Jn<|gB I (fun ar=>?_) fun ar=>?_;refine Jr<|Jv I<|Jv I<|ab (au (.of I) (.of I) cP (by omega) (by assumption) bn) I<|ab (ag (.of I) (At.base aB I)) I<|Ja I<|Jn<|Je<|Jm<|Jh<|Jh<|Jm<|Jh<|JT ?_;rotate_left;refine Jw<|Jj<|Jt<|Jg<|Jv I<|JB I (by omega)<|Ja I<|Jn ?_;rotate_right)
  ·rw [hf,hs,if_pos ar]
  ·apply aL (k+1) ⟨by omega,by rw [hf,hs,if_neg ar]⟩ (by omega)
   case hs1=>exact cu
   case ht=>(try simp only [Ze,Zf,Za]);exact .nil
 ·refine Jq<|Jr<|Jv I<|Jv I<|JI I<|JA I<|Jn<|Jc I fun ar=>Jp<|Jl<|Jo<|Jt<|Jr<|Ja I<|Jn<|Je<|JT ?_;rw [hf,Zbg (by omega)];rfl
theorem lA (h:Rd w v 1 (cs.map fun v=>[v])) (hl:cm cs es):aj T_ 28 [v] w (.q (aW es)):=
 Pg v es w (by rw [<- hl.eq];exact h)
theorem dO (h:Bool) (e:Int) (w:World):aj T_ 147 [.bool h,.q e] w (.q (bQ h e)):=by
 refine ah func147 I I ?_
 (refine Jr<|Ja I<|Jn<|Jq<|Jr<|Jv I<|Jn<|qv I (fun ar=>?_) fun ar=>?_;refine Jr<|Jv I<|Ja I<|Jn<|Ju<|JT ?_;rotate_left;refine Jk<|Jr<|Ja I<|Jn<|Je<|JT ?_;rotate_right)
 all_goals simp [bQ, *]
theorem mH (n l m:Int) (w:World):aj T_ 134 [.q n,.q l,.q m] w (.q (gD n l m)):=by
 refine ah func134 I I ?_
 (refine Jr<|Ja I<|Ji<|Jv I<|Jv I<|JA I<|Jv I<|iT I I I I<|iT I I I I<|aF I I (fun hg bT=>(ln (.cD hg I) (.cD hg I))) I<|ab (bC (.of I) I) I<|ai ba I (fun w' aA=>(dO _ 3 w'))<|Ja I<|Jn<|Je<|JT ?_)
 rfl
theorem Gu (v:Value) (es:List Int) (w:World) (h:Rd w v 1 (ints es)):aj T_ 111 [v] w (.q (aW es)):=by
 obtain ⟨a,cap,b,o,rfl,dp,bY,ha,hc⟩:=h;rw [c7] at *;unfold maxLen at bY;refine ah func111 I I ?_;refine Jr<|Ja I<|Jn<|Jq<|Jr<|Jv I<|JI I<|Jv I<|Jn<|J0 ?_;refine a7 (fun k:Nat=>k<=es.length/\aW es=aW (es.drop k)) (fun k=>[(7,.int .i64 k),(6,.int .i64 es.length),(5,.slice a es.length cap)]) (fun _=>[]) (fun k=>es.length-k) ?_ ?_
 ·apply aI 0 ⟨Zi _,I⟩
  case hs1=>exact cu
  case ht=>(try simp only [Ze,Zf,Za]);exact .nil
 intro k ⟨hk,hf⟩;by_cases aN:k<es.length
 ·have cP:=ha (jG aN);have aB:=rd1 hc (iw aN);have hs:=td aN
  (refine Jr<|JA I<|Jn<|Jq<|Jd I fun ar=>Jk<|Jq<|J0<|Jr<|ab (fZ cP ar) I<|ab (ag (.of I) (At.base aB I)) I<|Ja I<|Ji<|Jv I<|JD I<|Jn<|gB I (fun ar=>?_) fun ar=>?_;refine Jr<|Jv I<|Ja I<|Jn<|Je<|Jm<|Jh<|Jh<|Jm<|Jh<|JT ?_;rotate_left;refine Jw<|Jj<|Jt<|Jg<|JB I (by omega)<|Jv I<|Jn ?_;rotate_right)
  ·rw [hf,hs,if_pos ar]
  ·apply aL (k+1) ⟨by omega,by rw [hf,hs,if_neg ar]⟩ (by omega)
   case hs1=>exact cu
   case ht=>(try simp only [Ze,Zf,Za]);exact .nil
 ·refine Jr<|JA I<|Jn<|Jq<|Jc I fun ar=>Jp<|Jl<|Jo<|Jt<|Jr<|Ja I<|Jn<|Je<|JT ?_;rw [hf,Zbg (by omega)];rfl
theorem dG (h:Rd w v 1 (cs.map fun v=>[v])) (hl:cm cs es):aj T_ 111 [v] w (.q (aW es)):=
 Gu v es w (by rw [<- hl.eq];exact h)
theorem WM (h:p<s.size):bt s p=((s[p]'h).toNat:Nat):=by
 unfold bt;have:s.data.toList[p]? = some (s[p]'h):=by
  rw [ZaB];exact getElem?_pos s.data p h
 rw [this];rfl
theorem y8 (h:p<s.size):(bt s p<128/\((Utf8.decode s p).1:Int)=bt s p/\(Utf8.decode s p).2=1)\/(128<=bt s p/\(128:Int)<=(Utf8.decode s p).1/\1<=(Utf8.decode s p).2):=by
 rw [WM h];by_cases ha:(s[p]'h).toNat<128
 ·have:=decode_ascii s p h ha
  left;rw [this];exact ⟨by omega,I,I⟩
 ·have:=decode_high s p h (by omega)
  right;omega
theorem CF :s.size=0↔s=⟨#[]⟩:=by
 constructor
 ·intro h;have:s.data=#[]:=Array.eq_empty_of_size_eq_zero h;cases s;simp_all
 ·rintro rfl;rfl
theorem F4 {c:Int}:Hs c=true↔(65<=c/\c<=90)\/(97<=c/\c<=122):=by simp [Hs]
theorem Au {c:Int}:okB c=true↔((65<=c/\c<=90)\/(97<=c/\c<=122))\/(48<=c/\c<=57)\/c=95:=by simp [okB,Hs,U1,or_assoc]
theorem AA (s:ByteArray) (w:World):aj T_ 187 [.string s] w (.bool (fA s)):=by
 refine ah func187 I I ?_
 (refine Jr<|Ja I<|Jn<|Jq<|Jr<|Jv I<|bu (Ha (.of I)) I fun _ _=>Jn<|J0 ?_)
 rename_i bi hbi;refine a7 (fun p:Nat=>p<=s.size/\(p=0\/(1<=p/\Hs (bt s 0)=true/\okF s 1=okF s p))) (fun _=>[(7,.p bi),(0,.string s)]) (fun p=>[bo bi (.stringIter s p)]) (fun p=>s.size-p) ?_ ?_
 ·apply aI 0 ⟨by omega,.inl I⟩
  case hs1=>exact cu
  case ht=>(try simp only [Ze,Zf,Za]);exact .h1 .nil
 intro p ⟨hp,hI⟩
 (refine Jr<|IF (.of I) .here I (fun aN=>?_) fun aN=>?_;refine JJ I I<|Jn<|Jq<|cL (.of I)<|Jk<|J0<|Jr<|JJ I I<|JJ I I<|Ja I<|Ja I<|Ji<|Jv I<|JG I<|Jv I<|iT I I I I<|aF I I (fun hg bT=>(mq (.cD hg I) (.of I))) I<|ab (c6 (.of I) I) I<|Jv I<|iT I I I I<|aF I I (fun hg bT=>(Ab (.cD hg I) (.of I))) I<|aF I I (fun hg bT=>(aX (.cD hg I))) I<|lZ I I (fun hg bT=>(aX (.of I))) I<|lZ I I (fun hg bT=>(mq (.cD hg I) (.of I))) I<|aF I I (fun hg bT=>(kK hg (.cD hg I) I)) I<|ab (bC (.of I) I) I<|Ja I<|Ji<|Jv I<|JH I<|Jv I<|iT I I I I<|aF I I (fun hg bT=>(mr (.cD hg I) (.of I))) I<|aF I I (fun hg bT=>(aX (.cD hg I))) I<|lZ I I (fun hg bT=>(aX (.of I))) I<|lZ I I (fun hg bT=>(nq (.cD hg I) (.of I))) I<|lZ I I (fun hg bT=>(aX (.cD hg I))) I<|lZ I I (fun hg bT=>(aX (.of I))) I<|lZ I I (fun hg bT=>(ln (.cD hg I) (.of I))) I<|lZ I I (fun hg bT=>(tw hg (.cD hg I) I)) I<|lZ I I (fun hg bT=>(aX (.cD hg I))) I<|lZ I I (fun hg bT=>(aX (.of I))) I<|lZ I I (fun hg bT=>(gU (.cD hg I) (.of I))) I<|lZ I I (fun hg bT=>(kK hg (.cD hg I) I)) I<|aF I I (fun hg bT=>(tw hg (.cD hg I) I)) I<|ab (c6 (.of I) I) I<|Jn<|qv I (fun ar=>?_) fun ar=>?_;refine Jr<|Ja I<|Jn<|Je<|Jm<|Jh<|Jm<|Jh<|JT ?_;rotate_left;refine Jw<|Jj<|Jt ?_;rotate_right;rotate_left 2;refine JJ I I<|Jn<|Jq<|bE (.of I)<|Jp<|Jl<|Jo<|Jt<|Jr<|Jv I<|ab (gY (.of I) (.of I)) I<|Jv I<|iT I I I I<|aF I I (fun hg bT=>(fP (.cD hg I))) I<|aF I I (fun hg bT=>(mq (.cD hg I) (.of I))) I<|ab (c6 (.of I) I) I<|Ja I<|Jn<|Je<|JT ?_;rotate_right 2)
 ·congr 1;symm;unfold fA;have hd:=y8 aN;rcases hI with rfl | ⟨h1,h2,h3⟩
  ·have:Hs (bt s 0)=false:=by rw [<- Zax,F4];omega
   simp [this]
  ·have:okF s p=false:=by
    rw [Ar aN];have:okB (bt s p)=false:=by rw [<- Zax,Au];omega
    rw [this];rfl
   rw [h3,this];simp
 ·have hd:=y8 aN;have ho:okB (bt s p)=true:=by rw [Au];omega
  have hw:(Utf8.decode s p).2=1:=by rw [Au] at ho;omega
  rw [hw];have hn:Hs (bt s 0)=true/\okF s 1=okF s (p+1):=by
   rcases hI with rfl | ⟨h1,h2,h3⟩
   ·refine ⟨?_,I⟩;rw [F4];omega
   ·exact ⟨h2,by rw [h3,Ar aN,ho];rfl⟩
  apply aL (p+1) ⟨by omega,.inr ⟨by omega,hn⟩⟩ (by omega)
  case hs1=>exact cu
  case ht=>(try simp only [Ze,Zf,Za]);exact .h1 .nil
 ·unfold fA;congr 1;by_cases h0:s.size=0
  ·have:s=⟨#[]⟩:=CF.1 h0;rw [decide_eq_false (p:=s≠⟨#[]⟩) (fun h=>h this),decide_eq_false (p:=0<s.size) (by omega)];rfl
  ·rw [decide_eq_true (p:=s≠⟨#[]⟩) (fun h=>h0 (CF.2 h)),decide_eq_true (p:=0<s.size) (by omega)]
   rcases hI with rfl | ⟨h1,h2,h3⟩
   ·omega
   ·rw [h2,h3,FZ (by omega)];simp;omega
def Sr.cells (x:Sr):List Value:=[.string x.nm,.q x.mx]
def w9 (l:List Sr):List (List Value):=l.map Sr.cells
def kY (l:List Sr):List Value:=(w9 l).flatten
theorem cR (l:List Sr):(w9 l).length=l.length:=by simp [w9]
theorem fY {l:List Sr} (h:k<l.length):(w9 l)[k]? = some ((Sr.cells) l[k]):=by simp [w9,h]
theorem iK {l:List Sr} (h:k<l.length):w9 l≠[]:=by intro e;have:=congrArg List.length e;rw [cR] at this;simp at this;subst this;simp at h
theorem IT (l:List Sr):∀ r∈w9 l,r.length=2:=fun r hr=>by obtain ⟨x,_,rfl⟩:=Zo.1 hr;rfl
theorem ND (l:List Sr):∀ r∈w9 l,∀ u∈r,u.oneCell'=true:=fun r hr=>by obtain ⟨x,_,rfl⟩:=Zo.1 hr;exact aM rfl (aM rfl (dT))
theorem zQ (l:List Sr):(kY l).length=l.length*2:=by unfold kY;rw [fC (IT l),cR]
theorem NC (a b:List Sr):kY (a++b)=kY a++kY b:=by unfold kY w9;rw [Zt,Zad]
theorem B2 {l:List Sr} (h:k<l.length):kY (l.take (k+1))=kY (l.take k)++(Sr.cells) l[k]:=by rw [Zn h,NC];unfold kY w9;simp
theorem bM {c:Cx} {hs hs':List bd} {l:List Sr} {E:TypeId} (hm:Mem c hs w) (ht:Take hs (row E 2 v n (kY l)) hs') (hn:l.length=n):Rd w v 2 (w9 l):=hm.qm ht I (IT l) (by rw [cR,hn])
def De.cells (x:De):List Value:=[.string x.nm,.q x.mx,.bool x.pr]
def wz (l:List De):List (List Value):=l.map De.cells
def jQ (l:List De):List Value:=(wz l).flatten
theorem cB (l:List De):(wz l).length=l.length:=by simp [wz]
theorem fm {l:List De} (h:k<l.length):(wz l)[k]? = some ((De.cells) l[k]):=by simp [wz,h]
theorem gI {l:List De} (h:k<l.length):wz l≠[]:=by intro e;have:=congrArg List.length e;rw [cB] at this;simp at this;subst this;simp at h
theorem Fa (l:List De):∀ r∈wz l,r.length=3:=fun r hr=>by obtain ⟨x,_,rfl⟩:=Zo.1 hr;rfl
theorem Pw (l:List De):∀ r∈wz l,∀ u∈r,u.oneCell'=true:=fun r hr=>by obtain ⟨x,_,rfl⟩:=Zo.1 hr;exact aM rfl (aM rfl (aM rfl (dT)))
theorem A7 (l:List De):(jQ l).length=l.length*3:=by unfold jQ;rw [fC (Fa l),cB]
theorem Pv (a b:List De):jQ (a++b)=jQ a++jQ b:=by unfold jQ wz;rw [Zt,Zad]
theorem Dd {l:List De} (h:k<l.length):jQ (l.take (k+1))=jQ (l.take k)++(De.cells) l[k]:=by rw [Zn h,Pv];unfold jQ wz;simp
theorem bN {c:Cx} {hs hs':List bd} {l:List De} {E:TypeId} (hm:Mem c hs w) (ht:Take hs (row E 3 v n (jQ l)) hs') (hn:l.length=n):Rd w v 3 (wz l):=hm.qm ht I (Fa l) (by rw [cB,hn])
def Ti.cells (x:Ti):List Value:=[.string x.nm,.q x.fr,.q x.to]
def vk (l:List Ti):List (List Value):=l.map Ti.cells
def l6 (l:List Ti):List Value:=(vk l).flatten
theorem cr (l:List Ti):(vk l).length=l.length:=by simp [vk]
theorem eO {l:List Ti} (h:k<l.length):(vk l)[k]? = some ((Ti.cells) l[k]):=by simp [vk,h]
theorem fF {l:List Ti} (h:k<l.length):vk l≠[]:=by intro e;have:=congrArg List.length e;rw [cr] at this;simp at this;subst this;simp at h
theorem IL (l:List Ti):∀ r∈vk l,r.length=3:=fun r hr=>by obtain ⟨x,_,rfl⟩:=Zo.1 hr;rfl
theorem Nr (l:List Ti):∀ r∈vk l,∀ u∈r,u.oneCell'=true:=fun r hr=>by obtain ⟨x,_,rfl⟩:=Zo.1 hr;exact aM rfl (aM rfl (aM rfl (dT)))
theorem zK (l:List Ti):(l6 l).length=l.length*3:=by unfold l6;rw [fC (IL l),cr]
theorem Nq (a b:List Ti):l6 (a++b)=l6 a++l6 b:=by unfold l6 vk;rw [Zt,Zad]
theorem BY {l:List Ti} (h:k<l.length):l6 (l.take (k+1))=l6 (l.take k)++(Ti.cells) l[k]:=by rw [Zn h,Nq];unfold l6 vk;simp
theorem bL {c:Cx} {hs hs':List bd} {l:List Ti} {E:TypeId} (hm:Mem c hs w) (ht:Take hs (row E 3 v n (l6 l)) hs') (hn:l.length=n):Rd w v 3 (vk l):=hm.qm ht I (IL l) (by rw [cr,hn])
def Po.cells (x:Po):List Value:=[.q x.lv,.string x.ou,.string x.ip]
def ud (l:List Po):List (List Value):=l.map Po.cells
def gK (l:List Po):List Value:=(ud l).flatten
theorem c5 (l:List Po):(ud l).length=l.length:=by simp [ud]
theorem iE {l:List Po} (h:k<l.length):(ud l)[k]? = some ((Po.cells) l[k]):=by simp [ud,h]
theorem ku {l:List Po} (h:k<l.length):ud l≠[]:=by intro e;have:=congrArg List.length e;rw [c5] at this;simp at this;subst this;simp at h
theorem Kj (l:List Po):∀ r∈ud l,r.length=3:=fun r hr=>by obtain ⟨x,_,rfl⟩:=Zo.1 hr;rfl
theorem FU (l:List Po):∀ r∈ud l,∀ u∈r,u.oneCell'=true:=fun r hr=>by obtain ⟨x,_,rfl⟩:=Zo.1 hr;exact aM rfl (aM rfl (aM rfl (dT)))
theorem jg (l:List Po):(gK l).length=l.length*3:=by unfold gK;rw [fC (Kj l),c5]
theorem N6 (a b:List Po):gK (a++b)=gK a++gK b:=by unfold gK ud;rw [Zt,Zad]
theorem Cy {l:List Po} (h:k<l.length):gK (l.take (k+1))=gK (l.take k)++(Po.cells) l[k]:=by rw [Zn h,N6];unfold gK ud;simp
theorem bJ {c:Cx} {hs hs':List bd} {l:List Po} {E:TypeId} (hm:Mem c hs w) (ht:Take hs (row E 3 v n (gK l)) hs') (hn:l.length=n):Rd w v 3 (ud l):=hm.qm ht I (Kj l) (by rw [c5,hn])
def fX (l:List ByteArray):List (List Value):=l.map fun s=>[.string s]
def aJ (l:List ByteArray):List Value:=l.map Value.string
theorem bX (l:List ByteArray):(fX l).length=l.length:=by simp [fX]
theorem jf {l:List ByteArray} (h:k<l.length):(fX l)[k]? = some [.string l[k]]:=by simp [fX,h]
theorem mm {l:List ByteArray} (h:k<l.length):fX l≠[]:=by intro e;have:=congrArg List.length e;rw [bX] at this;simp at this;subst this;simp at h
theorem IN (l:List ByteArray):∀ r∈fX l,r.length=1:=fun r hr=>by obtain ⟨x,_,rfl⟩:=Zo.1 hr;rfl
theorem zO (l:List ByteArray):∀ r∈fX l,∀ u∈r,u.oneCell'=true:=fun r hr=>by obtain ⟨x,_,rfl⟩:=Zo.1 hr;exact aM rfl dT
theorem rn (l:List ByteArray):aJ l=(fX l).flatten:=by
 induction l with
 | nil=>rfl
 | cons x l ih=>show [Value.string x]++aJ l=_;rw [ih];rfl
theorem dq (l:List ByteArray):(aJ l).length=l.length:=by simp [aJ]
theorem fw (a b:List ByteArray):aJ (a++b)=aJ a++aJ b:=by simp [aJ]
theorem dz {c:Cx} {hs hs':List bd} {l:List ByteArray} {E:TypeId} (hm:Mem c hs w) (ht:Take hs (row E 1 v n (aJ l)) hs') (hn:l.length=n):Rd w v 1 (fX l):=hm.qm ht (rn l) (IN l) (by rw [bX,hn])
structure RR (w:World) (r:Ro) (s d t p:Value):Prop where
 sr:Rd w s 2 (w9 r.sr)
 de:Rd w d 3 (wz r.de)
 ti:Rd w t 3 (vk r.ti)
 po:Rd w p 3 (ud r.po)
theorem RR.keeps {w w':World} {r:Ro} {s d t p:Value} (h:RR w r s d t p) (hk:aK [] w w'):RR w' r s d t p:=⟨h.sr.keeps hk,h.de.keeps hk,h.ti.keeps hk,h.po.keeps hk⟩
def RA (r:Ro) (s d t p:Value):Value:=.agg #[.q r.lv,.q r.ma,s,d,t,p]
abbrev JQ (b:Nat) (r:Ro) (s d t p:Value):bd:=bo b (.cells #[.q r.lv,.q r.ma,s,d,t,p] 27 (0,0))
abbrev JP (b:Nat) (r:Ro) (s d t p:Value):bd:=bo b (.cells #[.q r.lv,.q r.ma,s,d,t,p] 41 (0,0))
abbrev J1 (r:Ro) (v:Value):bd:=row 186 2 v r.sr.length (kY r.sr)
abbrev J2 (r:Ro) (v:Value):bd:=row 90 3 v r.de.length (jQ r.de)
abbrev J3 (r:Ro) (v:Value):bd:=row 187 3 v r.ti.length (l6 r.ti)
abbrev J4 (r:Ro) (v:Value):bd:=row 188 3 v r.po.length (gK r.po)
abbrev JW (v:Value) (l:List ByteArray):bd:=row 9 1 v l.length (aJ l)
end Go.Proofs.A1
namespace Go.SL
open Go
def MI (As:List bd):bd where
 sat h fp:=cC h As fp
 loc:=fun hs hb=>hs.loc hb
 own:=fun hs b hb=>hs.own b hb
def gA (E:TypeId):List Value->List (List Value)->List bd
 | v::vs,x::xs=>row E 1 v x.length x::gA E vs xs
 | _,_=>[]
def mN (E:TypeId) (vs:List Value) (xs:List (List Value)):bd:=MI (gA E vs xs)
theorem yG {E:TypeId} {v:Value} {x:List Value}:∀ {vs:List Value} {xs:List (List Value)} {j:Nat},vs[j]? = some v->xs[j]? = some x->∃ r,Take (gA E vs xs) (row E 1 v x.length x) r
 | [],_,j,h,_=>by simp at h
 | _::_,[],j,_,h=>by simp at h
 | v' :: vs, x' :: xs, 0, h1, h2 => by
  simp only [Zav,Option.some.injEq] at h1 h2;subst h1 h2;exact ⟨_,.here⟩
 | v' :: vs, x' :: xs, j + 1, h1, h2 => by
  simp only [ZaY] at h1 h2;obtain ⟨r,hr⟩:=yG h1 h2;exact ⟨_,.there hr⟩
theorem yH {E:TypeId} {v:Value} {x:List Value}:∀ {vs:List Value} {xs:List (List Value)},vs.length=xs.length->gA E (vs++[v]) (xs++[x])=gA E vs xs++[row E 1 v x.length x]
 | [],[],_=>rfl
 | [],_::_,h=>by simp at h
 | _::_,[],h=>by simp at h
 | v' :: vs, x' :: xs, h => by
  simp only [ZI,Nat.add_right_cancel_iff] at h;simp only [Zb,gA,yH h]
theorem Mem.Es {c:Cx} {hs hs':List bd} {w:World} {E:TypeId} {vs:List Value} {xs:List (List Value)} {j:Nat} {v:Value} {x:List Value} (hm:Mem c hs w) (ht:Take hs (mN E vs xs) hs') (hv:vs[j]? = some v) (hx:xs[j]? = some x):Rd w v 1 (x.map fun u=>[u]):=by
 obtain ⟨k,fp,hn,⟨f1,f2,rfl,h1,h2⟩,hb⟩:=hm.take ht;have k6:Mem c (gA E vs xs++hs') w:=⟨k,f1++f2,hn,cC.append_iff.2 ⟨f1,f2,I,h1,h2⟩,hb⟩;obtain ⟨r,hr⟩:=yG (E:=E) hv hx;exact k6.RJ (hr.append hs') I
section
variable {P:Program} {r:Option Nat} {c:Cx} {D:List Nat} {sl:aH} {hs hs':List bd} {X:Act->World->Prop} {Q:Exit->Act->World->Prop} {ι:Type}
variable {ops:Array Oper} {d:Nat} {ty:TypeId} {pos:String} {af:Array Edge} {rest:List Oper}
theorem lj {E:TypeId} {vs:List Value} {xs:List (List Value)} {v:Value} {x:List Value} {n:Nat} {h1 h2:List bd} (ht:Take hs (mN E vs xs) h1) (ht2:Take h1 (row E 1 v n x) h2) (hn:n=x.length) (hl:vs.length=xs.length)
  (k:Tr c D sl (mN E (vs++[v]) (xs++[x])::h2) X):Tr c D sl hs X:=fun a w bh=>by
 subst hn;have hT:bj hs [mN E vs xs,row E 1 v x.length x] h2:=.cons ht (.cons ht2 .nil);have hm:=bh.mem.jo (hT.append (nb D));obtain ⟨kk,fp,uP,⟨f1,f2',rfl,g1,⟨f2,f3,rfl,g2,g3⟩⟩,hb⟩:=hm;refine k a w (bh.heap ⟨kk,(f1++f2)++f3,by rw [Zh];exact uP,⟨f1++f2,f3,I,?_,g3⟩,by rw [Zh];exact hb⟩);show cC (hp w) (gA E (vs++[v]) (xs++[x])) (f1++f2);rw [yH hl];exact cC.append_iff.2 ⟨f1,f2,I,g1,⟨f2,[],by simp,g2,I⟩⟩
theorem jU (E:TypeId) (k:Tr c D sl (mN E [] []::hs) X):Tr c D sl hs X:=fun a w bh=>
 k a w (bh.heap (Mem.change (As := []) (Bs := [mN E [] []]) bh.mem fun fp _ hf => by
  rw [show fp=[] from hf];exact ⟨.refl _ _,[],Zao,⟨[],[],I,I,I⟩,by simp⟩))
variable {As:List bd}
theorem yk (ht:Take hs (MI As) hs') (k:Tr c D sl (As++hs') X):Tr c D sl hs X:=fun a w bh=>by
 obtain ⟨kk,fp,hn,⟨f1,f2,rfl,h1,h2⟩,hb⟩:=bh.mem.take (ht.append _);exact k a w (bh.heap ⟨kk,f1++f2,hn,by rw [Zh];exact cC.append_iff.2 ⟨f1,f2,I,h1,h2⟩,hb⟩)
theorem ss (ht:bj hs As hs') (k:Tr c D sl (MI As::hs') X):Tr c D sl hs X:=fun a w bh=>by
 obtain ⟨kk,fp,hn,fV,hb⟩:=bh.mem.jo (ht.append (nb D));obtain ⟨f1,f2,rfl,h1,h2⟩:=cC.append_iff.1 fV;exact k a w (bh.heap ⟨kk,f1++f2,hn,⟨f1,f2,I,h1,h2⟩,hb⟩)
theorem eH {op:Op} {f:FuncId} {args:List Value} {Φ:ι->Prop} {val:ι->Value} {own:ι->List bd} (hr:lV P sl ⟨some d,op,ty,pos,af,none⟩ f args) (hd:Nat.blt d c.nt=true) (ht:bj hs As hs')
  (hc:∀ w fp,Mem c hs w->fp.Nodup->cC (hp w) As fp->(∀ b∈fp,b∈c.md\/c.w0.heap.size<=b)->(∀ b o h2,Take hs' (bo b o) h2->b ∉ fp)->bb P f args w fp Φ val own)
  (k:∀ x,Φ x->Tr c D ((d,val x)::sl) (own x++hs') (WL P r ops Q rest)):Tr c D sl hs (WL P r ops Q (⟨some d,op,ty,pos,af,none⟩::rest)):=fun a w bh=>by
 have hm:=bh.mem.jo (ht.append (nb D));obtain ⟨kk,fp,hn,fV,hb⟩:=hm;obtain ⟨f1,f2,rfl,h1,h2⟩:=cC.append_iff.1 fV;obtain ⟨n1,n2,n12⟩:=ZB.1 hn;have jZ:∀ b o h3,Take hs' (bo b o) h3->b ∉ f1:=fun b o h3 htk O5=>by
  obtain ⟨g1,g2,⟨e1,_⟩,_,hp⟩:=cC.take (htk.append (nb D)) h2;have:b∈f2:=hp.mem_iff.2 (ZC _ (by rw [e1];simp));exact n12 b O5 b this I
 refine zn I hr bh.cZ (hc w f1 bh.qD n1 h1 (fun b dF=>(hb b (ZC _ dF)).symm) jZ) fun e w' ⟨x,he,hx,hk,lS,uP,hs',yU⟩=>⟨val x,he,k x hx _ _ ((bh.put (by simpa [Z9] using hd) (val x)).heap ?_)⟩;have aN:∀ b∈f2,b<w.heap.size:=fun b dF=>let ⟨o,ho⟩:=h2.own b dF;kh ho
 rw [Zh];refine ⟨?_,lS++f2,?_,cC.append_iff.2 ⟨lS,f2,I,hs',h2.loc fun b dF=>?_⟩,?_⟩
 ·refine ⟨hk.os.trans kk.os,hk.tape.trans kk.tape,hk.output.trans kk.output,ZX kk.dr hk.dr,ZX kk.size hk.size,fun b dF hm=>?_⟩;rw [<- kk.block b dF hm];refine hk.block b (ZaD dF kk.size) (fun hf=>?_);rcases hb b (ZC _ hf) with h | h
  ·omega
  ·exact hm h
 ·refine ZB.2 ⟨uP,n2,fun x hx y hy e=>?_⟩;subst e;rcases yU x hx with h | h
  ·exact n12 x h x hy I
  ·have:=aN x hy;omega
 ·exact hk.block b (aN b dF) (fun hf=>n12 b hf b dF I)
 ·intro b dF;rcases Zv.1 dF with h | h
  ·rcases yU b h with h | h
   ·exact hb b (ZC _ h)
   ·exact .inl (ZX kk.size h)
  ·exact hb b (ZT _ h)
end
end Go.SL
namespace Go.Proofs.A1
open Go Go.SL
open Tryz
open Tryz renaming prog->T_
def fU {α:Type} (p:α->Bool) (l:List α):Int:=((List.range l.length).find? fun i=>(l[i]?.map p).getD false).elim (-1) (fun i=>(i:Int))
theorem gG {α:Type} {p:α->Bool} {l:List α} {k:Nat} (h:∀ i,i<k->(l[i]?.map p).getD false=false) (hk:k<l.length) (hp:p l[k]=true):fU p l=k:=by
 unfold fU;have:(List.range l.length).find? (fun i=>(l[i]?.map p).getD false)=some k:=by
  rw [List.find?_range_eq_some];exact ⟨by simp [hk,hp],by simpa using hk,fun i hi=>by simpa using h i hi⟩
 rw [this];rfl
theorem fG {α:Type} {p:α->Bool} {l:List α} (h:∀ i,i<l.length->(l[i]?.map p).getD false=false):fU p l = -1:=by
 unfold fU;have:(List.range l.length).find? (fun i=>(l[i]?.map p).getD false)=none:=by
  rw [ZaF];intro i hi;simp [h i (ZP.1 hi)]
 rw [this];rfl
theorem iY {α:Type} (p:α->Bool) (l:List α):decide (0<=fU p l)=l.any p:=by
 unfold fU;cases h:(List.range l.length).find? fun i=>(l[i]?.map p).getD false with
 | none =>
  have:l.any p=false:=by
   rw [Zac];intro x hx;obtain ⟨i,hi,rfl⟩:=Zx hx;have:=ZaF.1 h i (ZP.2 hi);simpa [hi] using this
  rw [this];rfl
 | some i =>
  have h1:=ZP.1 (ZaR h);have h2:=List.find?_some h;have:l.any p=true:=by
   rw [ZN];exact ⟨l[i],Zj h1,by simpa [h1] using h2⟩
  rw [this];simp
variable {cap:List Value} {f:FuncId} {first:List Value} {lv:Value}
theorem Ga {l:List Sr} {p:Sr->Bool} [bO T_ f] {w:World} (h:Rd w lv 2 (w9 l)) (cJ:∀ x∈l,∀ w',aK [] w w'->aj T_ f (first++[.agg x.cells.toArray]++cap) w' (.bool (p x))) :
  aj T_ 263 [lv,.func (.func f) first.toArray cap.toArray] w (.q (fU p l)):=by
 obtain ⟨a,cp,b,o,rfl,dp,bY,ha,hc⟩:=h;rw [cR] at *;unfold maxLen at bY;refine ah func263 I I ?_;refine Jr<|Ja I<|Jn<|Jq<|Jr<|Jv I<|JI I<|Jv I<|Jn<|J0 ?_;refine a7 (fun k:Nat=>k<=l.length/\∀ i,i<k->(l[i]?.map p).getD false=false) (fun k=>[(8,.int .i64 k),(7,.int .i64 l.length),(0,.slice a l.length cp),(1,.func (.func f) first.toArray cap.toArray)]) (fun _=>[]) (fun k=>l.length-k) ?_ ?_
 ·apply aI 0 ⟨Zi _,fun i h=>by omega⟩
  case hs1=>exact cu
  case ht=>(try simp only [Ze,Zf,Za]);exact .nil
 rintro k ⟨hk,hf⟩;by_cases aN:k<l.length
 ·have cP:=ha (iK aN);have aB:=(hc k _ (fY aN)).2;have iz:=cJ _ (Zj aN);have hps:(l[k]?.map p).getD false=p l[k]:=by simp [aN]
  unfold Sr.cells at aB iz
  (refine Jr<|JA I<|Jn<|Jq<|Jd I fun ar=>Jk<|Jq<|J0<|Jr<|Jv I<|Ja I<|Ji<|Jv I<|Jv I<|Jv I<|ab (fZ cP ar) I<|ab (iA (eV.base aB I)) I<|ai bz I (fun w' aA=>(iz w' (Mem.keeps aA)))<|Jn<|qv I (fun ar=>?_) fun ar=>?_;refine Jr<|Jv I<|Ja I<|Jn<|Je<|Jm<|Jh<|Jh<|Jm<|Jh<|JT ?_;rotate_left;refine Jw<|Jj<|Jt<|Jg<|JB I (by omega)<|Jv I<|Jn ?_;rotate_right)
  ·rw [gG hf aN ar]
  ·apply aL (k+1) ⟨by omega,fun i hi=>by
    by_cases e:i=k
    ·rw [e,hps];exact ar
    ·exact hf i (by omega)⟩ (by omega)
   case hs1=>exact cu
   case ht=>(try simp only [Ze,Zf,Za]);exact .nil
 ·obtain rfl:k=l.length:=by omega
  refine Jr<|JA I<|Jn<|Jq<|Jc I fun ar=>Jp<|Jl<|Jo<|Jt<|Jr<|Ja I<|Jn<|Je<|JT ?_;rw [fG hf]
theorem O7 {l:List Sr} {p:Sr->Bool} [bO T_ f] {w:World} (h:Rd w lv 2 (w9 l)) (cJ:∀ x∈l,∀ w',aK [] w w'->aj T_ f (first++[.agg x.cells.toArray]++cap) w' (.bool (p x))) :
  aj T_ 227 [lv,.func (.func f) first.toArray cap.toArray] w (.bool (l.any p)):=by
 have iz:∀ w',aK [] w w'->aj T_ 263 [lv,.func (.func f) first.toArray cap.toArray] w' (.q (fU p l)):=fun w' hk=>
  Ga (h.keeps hk) fun x hx w2 eM=>cJ x hx w2 (hk.trans eM)
 rw [<- iY];refine ah func227 I I ?_
 (refine Jr<|Ja I<|Ji<|Jv I<|Jv I<|ai ba I (fun w' aA=>(iz w' (Mem.keeps aA)))<|JG I<|Ja I<|Jn<|Je<|JT ?_)
 rfl
theorem OJ {l:List De} {p:De->Bool} [bO T_ f] {w:World} (h:Rd w lv 3 (wz l)) (cJ:∀ x∈l,∀ w',aK [] w w'->aj T_ f (first++[.agg x.cells.toArray]++cap) w' (.bool (p x))) :
  aj T_ 242 [lv,.func (.func f) first.toArray cap.toArray] w (.q (fU p l)):=by
 obtain ⟨a,cp,b,o,rfl,dp,bY,ha,hc⟩:=h;rw [cB] at *;unfold maxLen at bY;refine ah func242 I I ?_;refine Jr<|Ja I<|Jn<|Jq<|Jr<|Jv I<|JI I<|Jv I<|Jn<|J0 ?_;refine a7 (fun k:Nat=>k<=l.length/\∀ i,i<k->(l[i]?.map p).getD false=false) (fun k=>[(8,.int .i64 k),(7,.int .i64 l.length),(0,.slice a l.length cp),(1,.func (.func f) first.toArray cap.toArray)]) (fun _=>[]) (fun k=>l.length-k) ?_ ?_
 ·apply aI 0 ⟨Zi _,fun i h=>by omega⟩
  case hs1=>exact cu
  case ht=>(try simp only [Ze,Zf,Za]);exact .nil
 rintro k ⟨hk,hf⟩;by_cases aN:k<l.length
 ·have cP:=ha (gI aN);have aB:=(hc k _ (fm aN)).2;have iz:=cJ _ (Zj aN);have hps:(l[k]?.map p).getD false=p l[k]:=by simp [aN]
  unfold De.cells at aB iz
  (refine Jr<|JA I<|Jn<|Jq<|Jd I fun ar=>Jk<|Jq<|J0<|Jr<|Jv I<|Ja I<|Ji<|Jv I<|Jv I<|Jv I<|ab (fZ cP ar) I<|ab (iA (eV.base aB I)) I<|ai bz I (fun w' aA=>(iz w' (Mem.keeps aA)))<|Jn<|qv I (fun ar=>?_) fun ar=>?_;refine Jr<|Jv I<|Ja I<|Jn<|Je<|Jm<|Jh<|Jh<|Jm<|Jh<|JT ?_;rotate_left;refine Jw<|Jj<|Jt<|Jg<|JB I (by omega)<|Jv I<|Jn ?_;rotate_right)
  ·rw [gG hf aN ar]
  ·apply aL (k+1) ⟨by omega,fun i hi=>by
    by_cases e:i=k
    ·rw [e,hps];exact ar
    ·exact hf i (by omega)⟩ (by omega)
   case hs1=>exact cu
   case ht=>(try simp only [Ze,Zf,Za]);exact .nil
 ·obtain rfl:k=l.length:=by omega
  refine Jr<|JA I<|Jn<|Jq<|Jc I fun ar=>Jp<|Jl<|Jo<|Jt<|Jr<|Ja I<|Jn<|Je<|JT ?_;rw [fG hf]
theorem OH {l:List Ti} {p:Ti->Bool} [bO T_ f] {w:World} (h:Rd w lv 3 (vk l)) (cJ:∀ x∈l,∀ w',aK [] w w'->aj T_ f (first++[.agg x.cells.toArray]++cap) w' (.bool (p x))) :
  aj T_ 246 [lv,.func (.func f) first.toArray cap.toArray] w (.q (fU p l)):=by
 obtain ⟨a,cp,b,o,rfl,dp,bY,ha,hc⟩:=h;rw [cr] at *;unfold maxLen at bY;refine ah func246 I I ?_;refine Jr<|Ja I<|Jn<|Jq<|Jr<|Jv I<|JI I<|Jv I<|Jn<|J0 ?_;refine a7 (fun k:Nat=>k<=l.length/\∀ i,i<k->(l[i]?.map p).getD false=false) (fun k=>[(8,.int .i64 k),(7,.int .i64 l.length),(0,.slice a l.length cp),(1,.func (.func f) first.toArray cap.toArray)]) (fun _=>[]) (fun k=>l.length-k) ?_ ?_
 ·apply aI 0 ⟨Zi _,fun i h=>by omega⟩
  case hs1=>exact cu
  case ht=>(try simp only [Ze,Zf,Za]);exact .nil
 rintro k ⟨hk,hf⟩;by_cases aN:k<l.length
 ·have cP:=ha (fF aN);have aB:=(hc k _ (eO aN)).2;have iz:=cJ _ (Zj aN);have hps:(l[k]?.map p).getD false=p l[k]:=by simp [aN]
  unfold Ti.cells at aB iz
  (refine Jr<|JA I<|Jn<|Jq<|Jd I fun ar=>Jk<|Jq<|J0<|Jr<|Jv I<|Ja I<|Ji<|Jv I<|Jv I<|Jv I<|ab (fZ cP ar) I<|ab (iA (eV.base aB I)) I<|ai bz I (fun w' aA=>(iz w' (Mem.keeps aA)))<|Jn<|qv I (fun ar=>?_) fun ar=>?_;refine Jr<|Jv I<|Ja I<|Jn<|Je<|Jm<|Jh<|Jh<|Jm<|Jh<|JT ?_;rotate_left;refine Jw<|Jj<|Jt<|Jg<|JB I (by omega)<|Jv I<|Jn ?_;rotate_right)
  ·rw [gG hf aN ar]
  ·apply aL (k+1) ⟨by omega,fun i hi=>by
    by_cases e:i=k
    ·rw [e,hps];exact ar
    ·exact hf i (by omega)⟩ (by omega)
   case hs1=>exact cu
   case ht=>(try simp only [Ze,Zf,Za]);exact .nil
 ·obtain rfl:k=l.length:=by omega
  refine Jr<|JA I<|Jn<|Jq<|Jc I fun ar=>Jp<|Jl<|Jo<|Jt<|Jr<|Ja I<|Jn<|Je<|JT ?_;rw [fG hf]
theorem AU {l:List Ti} {p:Ti->Bool} [bO T_ f] {w:World} (h:Rd w lv 3 (vk l)) (cJ:∀ x∈l,∀ w',aK [] w w'->aj T_ f (first++[.agg x.cells.toArray]++cap) w' (.bool (p x))) :
  aj T_ 159 [lv,.func (.func f) first.toArray cap.toArray] w (.bool (l.any p)):=by
 have iz:∀ w',aK [] w w'->aj T_ 246 [lv,.func (.func f) first.toArray cap.toArray] w' (.q (fU p l)):=fun w' hk=>
  OH (h.keeps hk) fun x hx w2 eM=>cJ x hx w2 (hk.trans eM)
 rw [<- iY];refine ah func159 I I ?_
 (refine Jr<|Ja I<|Ji<|Jv I<|Jv I<|ai ba I (fun w' aA=>(iz w' (Mem.keeps aA)))<|JG I<|Ja I<|Jn<|Je<|JT ?_)
 rfl
theorem AM {l:List Po} {p:Po->Bool} [bO T_ f] {w:World} (h:Rd w lv 3 (ud l)) (cJ:∀ x∈l,∀ w',aK [] w w'->aj T_ f (first++[.agg x.cells.toArray]++cap) w' (.bool (p x))) :
  aj T_ 297 [lv,.func (.func f) first.toArray cap.toArray] w (.q (fU p l)):=by
 obtain ⟨a,cp,b,o,rfl,dp,bY,ha,hc⟩:=h;rw [c5] at *;unfold maxLen at bY;refine ah func297 I I ?_;refine Jr<|Ja I<|Jn<|Jq<|Jr<|Jv I<|JI I<|Jv I<|Jn<|J0 ?_;refine a7 (fun k:Nat=>k<=l.length/\∀ i,i<k->(l[i]?.map p).getD false=false) (fun k=>[(8,.int .i64 k),(7,.int .i64 l.length),(0,.slice a l.length cp),(1,.func (.func f) first.toArray cap.toArray)]) (fun _=>[]) (fun k=>l.length-k) ?_ ?_
 ·apply aI 0 ⟨Zi _,fun i h=>by omega⟩
  case hs1=>exact cu
  case ht=>(try simp only [Ze,Zf,Za]);exact .nil
 rintro k ⟨hk,hf⟩;by_cases aN:k<l.length
 ·have cP:=ha (ku aN);have aB:=(hc k _ (iE aN)).2;have iz:=cJ _ (Zj aN);have hps:(l[k]?.map p).getD false=p l[k]:=by simp [aN]
  unfold Po.cells at aB iz
  (refine Jr<|JA I<|Jn<|Jq<|Jd I fun ar=>Jk<|Jq<|J0<|Jr<|Jv I<|Ja I<|Ji<|Jv I<|Jv I<|Jv I<|ab (fZ cP ar) I<|ab (iA (eV.base aB I)) I<|ai bz I (fun w' aA=>(iz w' (Mem.keeps aA)))<|Jn<|qv I (fun ar=>?_) fun ar=>?_;refine Jr<|Jv I<|Ja I<|Jn<|Je<|Jm<|Jh<|Jh<|Jm<|Jh<|JT ?_;rotate_left;refine Jw<|Jj<|Jt<|Jg<|JB I (by omega)<|Jv I<|Jn ?_;rotate_right)
  ·rw [gG hf aN ar]
  ·apply aL (k+1) ⟨by omega,fun i hi=>by
    by_cases e:i=k
    ·rw [e,hps];exact ar
    ·exact hf i (by omega)⟩ (by omega)
   case hs1=>exact cu
   case ht=>(try simp only [Ze,Zf,Za]);exact .nil
 ·obtain rfl:k=l.length:=by omega
  refine Jr<|JA I<|Jn<|Jq<|Jc I fun ar=>Jp<|Jl<|Jo<|Jt<|Jr<|Ja I<|Jn<|Je<|JT ?_;rw [fG hf]
theorem O8 {l:List Po} {p:Po->Bool} [bO T_ f] {w:World} (h:Rd w lv 3 (ud l)) (cJ:∀ x∈l,∀ w',aK [] w w'->aj T_ f (first++[.agg x.cells.toArray]++cap) w' (.bool (p x))) :
  aj T_ 301 [lv,.func (.func f) first.toArray cap.toArray] w (.bool (l.any p)):=by
 have iz:∀ w',aK [] w w'->aj T_ 297 [lv,.func (.func f) first.toArray cap.toArray] w' (.q (fU p l)):=fun w' hk=>
  AM (h.keeps hk) fun x hx w2 eM=>cJ x hx w2 (hk.trans eM)
 rw [<- iY];refine ah func301 I I ?_
 (refine Jr<|Ja I<|Ji<|Jv I<|Jv I<|ai ba I (fun w' aA=>(iz w' (Mem.keeps aA)))<|JG I<|Ja I<|Jn<|Je<|JT ?_)
 rfl
end Go.Proofs.A1
