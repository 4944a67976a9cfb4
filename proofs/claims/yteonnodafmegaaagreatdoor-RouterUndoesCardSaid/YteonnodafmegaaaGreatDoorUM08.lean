/- Parts of the proof: GkRegK GkRegL GkRegR GkRegS KJ KL KM KNq TryzSort KN. -/
import Derived.Test.YteonnodafmegaaaGreatDoorUM06
import Derived.Test.YteonnodafmegaaaGreatDoorUM07
import Derived.Test.YteonnodafmegaaaGreatDoorUM04
import Derived.Test.YteonnodafmegaaaGreatDoorUM03
import Derived.Test.YteonnodafmegaaaGreatDoorUM02
import Derived.Shelf.Sort.Plain
import Derived.Ground.NamesProg
import Derived.Ground.Names2Prog
import Derived.Test.YteonnodafmegaaaGreatDoorProg
import Derived.Shelf.Slices.In.SortNone
set_option linter.unusedSectionVars false
set_option linter.unusedVariables false
set_option linter.unusedSimpArgs false
namespace Go.SL
open Go
theorem Mem.G4 {c:Cx} {As hs':List bd} {w:World} (hm:Mem c (As++hs') w):∃ fp:List Nat,fp.Nodup/\cC (hp w) As fp /\
  ∀ (Bs:List bd) (w':World),aK fp w w'->(∃ lS:List Nat,lS.Nodup/\cC (hp w') Bs lS/\∀ b∈lS,b∈fp\/w.heap.size<=b)->Mem c (Bs++hs') w':=by
 obtain ⟨kk,fp,hn,fV,hb⟩:=hm;obtain ⟨f1,f2,rfl,h1,h2⟩:=cC.append_iff.1 fV;obtain ⟨n1,n2,n12⟩:=ZB.1 hn;refine ⟨f1,n1,h1,fun Bs w' hk ⟨lS,uP,hs',yU⟩=>?_⟩;have aN:∀ b∈f2,b<w.heap.size:=fun b dF=>let ⟨o,ho⟩:=h2.own b dF;kh ho
 refine ⟨?_,lS++f2,?_,cC.append_iff.2 ⟨lS,f2,I,hs',h2.loc fun b dF=>?_⟩,?_⟩
 ·refine ⟨hk.os.trans kk.os,hk.tape.trans kk.tape,hk.output.trans kk.output,ZX kk.dr hk.dr,ZX kk.size hk.size,fun b dF hm=>?_⟩;rw [<- kk.block b dF hm];refine hk.block b (ZaD dF kk.size) (fun hf=>?_);rcases hb b (ZC _ hf) with h | h
  ·omega
  ·exact hm h
 ·refine ZB.2 ⟨uP,n2,fun x hx y hy e=>?_⟩;subst e;rcases yU x hx with h | h
  ·exact n12 x h x hy I
  ·have:=aN x hy;omega
 ·exact hk.block b (aN b dF) (fun hf=>n12 b hf b dF I)
 ·intro b dF;rcases Zv.1 dF with h | h
  ·rcases yU b h with h | h
   ·exact hb b (ZC _ h)
   ·exact .inl (ZX kk.size h)
  ·exact hb b (ZT _ h)
theorem vz {β:Nat->Value} (p q:Nat->Bool):∀ (S:List cT) (i:Nat),(eP β p S i).Perm (eP β (fun j=>p j&&q j) S i++eP β (fun j=>p j&&!q j) S i)
 | [],_=>.nil
 | s :: S, i => by
  have ih:=vz (β:=β) p q S (i+1);unfold eP;cases hp:p i <;> cases hq:q i <;> simp only [Bool.and_true,Bool.and_false,Bool.not_true,Bool.not_false,Bool.false_and,Zaz,if_true,if_false,Za,reduceIte]
  ·simpa using ih
  ·simpa using ih
  ·simp only [ZaT,if_false,Za];refine (ih.append_left _).trans ?_;rw [<- Zh,<- Zh];exact List.perm_append_comm.append_right _
  ·simp only [ZaT,if_false,Za];rw [Zh];exact ih.append_left _
theorem rF {β:Nat->Value} {q:Nat->Bool}:∀ {S:List cT} {n i:Nat},(∀ j,i+n<=j->q j=false)->eP β q S i=eP β q (S.take n) i
 | [],n,i,_=>by rw [List.take_nil]
 | s :: S, 0, i, h => by
  rw [Ze];unfold eP;rw [h i (by omega),rF (n:=0) fun j hj=>h j (by omega),Ze];rfl
 | s :: S, n + 1, i, h => by
  rw [List.take_succ_cons];unfold eP;rw [rF (n:=n) (i:=i+1) fun j hj=>h j (by omega)]
def pk (tk:Nat->Nat) (lst:Nat->Bool) (j:Nat):Bool:=lst j&&!(Nat.blt 0 (tk j)&&lst (tk j))
def iJ (tk:Nat->Nat) (i j:Nat):Bool:=Nat.blt 0 i&&Nat.beq (tk j) i
section
variable {P:Program} {c:Cx} {D:List Nat} {sl:aH} {hs:List bd} {Q:Exit->Act->World->Prop} {l:List Oper} {m:Nat} {tk:Nat->Nat}
def ME (i:Nat) (s:cT) (β:Nat->Value) (w:World) (um:List Nat) (v:Value) (w':World):Prop:=∃ x,v=s.F (zu β i x)/\aK um w w'/\∃ fp:List Nat,fp.Nodup/\cC (hp w') (s.A (zu β i x)) fp/\∀ b∈fp,b∈um\/w.heap.size<=b
structure MA (P:Program) (c:Cx) (hs:List bd) (l:List Oper) (tk:Nat->Nat) (i:Nat) (o:Oper) (SL:(Nat->Value)->aH) (S:List cT) (s:cT):Prop where
 EJ:nW l i s.F
 EK:nW l i s.A
 run:∃ B:List Nat,(∀ j∈B,ml l o j=true/\tk j=0)/\∀ β a w um,bZ (SL β) a->j6 c hs S B β w->cC (hp w) (eP β (iJ tk i) S 0) um->if Region.wanted o (yielded l.toArray a.tmps)=true then si P o a w (ME i s β w um) else ME i s β w um undef w
 waits:∀ j,tk j=i->0<i->fD o j=true
inductive wW (P:Program) (c:Cx) (hs:List bd) (l:List Oper) (tk:Nat->Nat):Nat->List Oper->((Nat->Value)->aH)->List cT->List cT->((Nat->Value)->aH)->Prop
 | nil {i:Nat} {SL:(Nat->Value)->aH} {S:List cT}:wW P c hs l tk i [] SL S S SL
 | step {i d:Nat} {o:Oper} {rest:List Oper} {SL qg:(Nat->Value)->aH} {S S':List cT} {s:cT} (hd:o.dst=some d) (fH:d<c.nt) (h:MA P c hs l tk i o SL S s)
   (t:wW P c hs l tk (i+1) rest (fun β=>(d,s.F β)::SL β) (S++[s]) S' qg):wW P c hs l tk i (o::rest) SL S S' qg
theorem wW.spec {i:Nat} {rest:List Oper} {SL qg:(Nat->Value)->aH} {S S':List cT} (h:wW P c hs l tk i rest SL S S' qg):∀ pre:List Oper,pre.length=i->S.length=i->py sl pre SL S ->
  S'.length=i+rest.length/\S <+: S'/\py sl (pre++rest) qg S'/\∀ k o,i<=k->(pre++rest)[k]? = some o->∃ d MC s,o.dst=some d/\d<c.nt/\S'[k]? = some s/\py sl ((pre++rest).take k) MC (S'.take k)/\MA P c hs l tk k o MC (S'.take k) s:=by
 induction h with
 | @nil i SL S =>
  intro pre hp hS mz;refine ⟨by simpa using hS,List.prefix_rfl,by simpa using mz,fun k o hk ho=>?_⟩;have:=(Zm.1 ho).1;simp at this;omega
 | @step i d o rest SL qg S S' s hd fH bh t ih =>
  intro pre hp hS mz;obtain ⟨h1,h2,h3,h4⟩:=ih (pre++[o]) (by simp [hp]) (by simp [hS]) (mz.step (by omega) hd);rw [Zh,List.singleton_append] at h3 h4;have K9:S <+: S':=(Zbl S [s]).trans h2;have tO:S'[i]? = some s:=by
   obtain ⟨r,rfl⟩:=h2;rw [Zh,ZJ (by omega),hS];simp
  have hSt:S'.take i=S:=by
   obtain ⟨r,rfl⟩:=K9;rw [<- hS];simp
  refine ⟨by rw [h1];simp;omega,K9,h3,fun k ok hk ho=>?_⟩;by_cases e:k=i
  ·subst e;have Gb:ok=o:=by
    rw [ZJ (by omega),hp] at ho;simpa using ho.symm
   subst Gb;have htk:(pre++ok::rest).take k=pre:=by rw [<- hp];simp
   rw [htk,hSt];exact ⟨d,SL,s,hd,fH,tO,mz,bh⟩
  ·exact h4 k ok (by omega) ho
structure W5 (c:Cx) (D:List Nat) (hs:List bd) (l:List Oper) (tk:Nat->Nat) (m:Nat) (S:List cT) (a0:Act) (fuel:Nat) (listed:Array Bool) (a:Act) (w:World):Prop where
 sz:listed.size=l.length
 dc:DC l (Ls listed)
 hi:∀ k,m<=k->¬ Ls listed k
 defers:a.defers=D.map mark
 size:a.tmps.size=c.nt
 FX:∀ t,(∀ (j:Nat) (o:Oper),l[j]? = some o->Ls listed j->o.dst≠some t)->a.tmps[t]? = a0.tmps[t]?
 left:∃ U:List Nat,U.Nodup/\(∀ i,i∈U↔i<l.length/\¬ Ls listed i)/\U.length=fuel
 own:∃ β:Nat->Value,Mem c (eP β (pk tk (fun i=>listed.getD i false)) S 0++(hs++nb D)) w/\∀ (j:Nat) (o:Oper) (d:Nat) (s:cT),l[j]? = some o->o.dst=some d->S[j]? = some s->Ls listed j->a.tmps[d]? = some (s.F β)
end
end Go.SL
namespace Go.SL
open Go
def lk:List (Nat×Nat)->Nat->Nat
 | [],_=>0
 | p::r,j=>bif Nat.beq p.1 j then p.2 else lk r j
theorem uy:∀ {sq:List (Nat×Nat)} {i j:Nat},(sq.all fun p=>!Nat.beq p.2 i)=true->lk sq j=i->0<i->False
 | [], i, j, _, h, hp => by
  have h:0=i:=h;omega
 | p :: r, i, j, h, h2, hp => by
  rw [List.all_cons,Zl] at h;unfold lk at h2;cases e:Nat.beq p.1 j with
  | true=>rw [e] at h2;have h2:p.2=i:=h2;rw [h2] at h;simp at h
  | false=>rw [e] at h2;exact uy h.2 h2 hp
theorem yp:∀ {sq:List (Nat×Nat)} {i jx:Nat},(sq.all fun p=>!Nat.beq p.2 i||Nat.beq p.1 jx)=true->Nat.blt 0 i=true->∀ k,lk sq k=i->k=jx
 | [], i, jx, _, h0, k, h => by
  have h:0=i:=h;subst h;cases h0
 | p :: r, i, jx, h, h0, k, hk => by
  rw [List.all_cons,Zl] at h;unfold lk at hk;cases e:Nat.beq p.1 k with
  | true =>
   rw [e] at hk;have hk:p.2=i:=hk;have h1:=h.1;rw [hk,show Nat.beq i i=true by simp] at h1;have e1:=Zah e;have e2:=Zah (show Nat.beq p.1 jx=true by simpa using h1);omega
  | false=>rw [e] at hk;exact yp h.2 h0 k hk
section
variable {P:Program} {c:Cx} {D:List Nat} {sl:aH} {hs hs':List bd} {X:Act->World->Prop} {Q:Exit->Act->World->Prop} {l:List Oper} {m i n d:Nat} {sq:List (Nat×Nat)} {op:Op} {ty:TypeId} {pos:String} {af:Array Edge} {rest:List Oper} {SL:(Nat->Value)->aH} {S:List cT}
theorem Cr {β:Nat->Value} {p:Nat->Bool} {s:cT}:∀ {S:List cT} {i jx:Nat},S[jx]? = some s->(∀ k,p k=Nat.beq k (i+jx))->eP β p S i=s.A β
 | [],_,_,h,_=>by simp at h
 | s0 :: S, i, 0, h, hp => by
  simp only [Zav,Option.some.injEq] at h;subst h;unfold eP;rw [hp i,show Nat.beq i (i+0)=true by simp,if_pos I];have:eP β p S (i+1)=[]:=by
   have h:=rF (β:=β) (q:=p) (S:=S) (n:=0) (i:=i+1) fun j hj=>by
    rw [hp j];exact ZaL.2 fun e=>by have:=Zah e;omega
   rw [h,Ze];rfl
  rw [this,ZS]
 | s0 :: S, i, jx + 1, h, hp => by
  unfold eP;rw [hp i,show Nat.beq i (i+(jx+1))=false from ZaL.2 fun e=>by have:=Zah e;omega]
  simp only [ZaT,if_false,Za];exact Cr (i:=i+1) (jx:=jx) (by simpa using h) fun k=>by rw [hp k,show i+(jx+1)=i+1+jx by omega]
end
end Go.SL
namespace Go.SL.KR
open Go Go.SL
section
variable {P:Program} {c:Cx} {D:List Nat} {sl:aH} {hs:List bd} {Q:Exit->Act->World->Prop} {l:List Oper} {m:Nat} {tk:Nat->Nat}
variable {r0:Option Nat}
theorem RX {p:Nat} (hc:PU l m p) (K9:p<m->False) (hQp:∀ c a w,¬ Q (.panic c) a w) {S:List cT} {qg:(Nat->Value)->aH} (YN:wW P c hs l tk 0 (l.take m) (fun _=>sl) [] S qg) {a0:Act} (h0:bZ sl a0) (OW:a0.tmps.size=c.nt)
  (tail:∀ β a w,St c D (qg β) (eP β (pk tk (fun i=>Nat.blt i m)) S 0++hs) a w->wpAnyIn (FR r0) 0 P .any l.toArray Q (l.length-m) (qi l.length m) a w) :
  ∀ (fuel:Nat) (listed:Array Bool) (a:Act) (w:World),W5 c D hs l tk m S a0 fuel listed a w->wpAnyIn (FR r0) 0 P .any l.toArray Q fuel listed a w:=by
 have hle:=hc.le;have OU:py sl [] (fun _=>sl) []:=fun β t v hv=>.inr ⟨fun oj h=>(Zp h).elim,hv⟩
 obtain ⟨LC,_,mz,iZ⟩:=YN.spec (sl:=sl) [] rfl rfl OU;rw [Za] at mz iZ;rw [ZH,Zs,Zbd hle] at LC;have fc:∀ (j:Nat) (o:Oper),j<m->l[j]? = some o->(l.take m)[j]? = some o:=fun j o hj ho=>by rw [ZK,if_pos hj];exact ho
 have gH:∀ (j:Nat) (o:Oper),(l.take m)[j]? = some o->j<m/\l[j]? = some o:=fun j o ho=>by
  rw [ZK] at ho;split at ho
  ·exact ⟨by assumption,ho⟩
  ·cases ho
 have Wd:∀ j,j<m->∃ s,S[j]? = some s:=fun j hj=>⟨S[j]'(by omega),Zc (by omega)⟩
 have oR:∀ fuel listed a w,W5 c D hs l tk m S a0 fuel listed a w->(∀ i,i<m->Ls listed i)->wpAnyIn (FR r0) 0 P .any l.toArray Q fuel listed a w:=by
  intro fuel listed a w hI eR;have hL:∀ i,i<l.length->(Ls listed i↔i<m):=fun i _=>⟨fun h=>ZY fun hm=>hI.hi i hm h,eR i⟩
  obtain ⟨U,DM,uS,xN⟩:=hI.left;have jb:U.Perm (List.range' m (l.length-m)):=by
   rw [ZaK DM (List.nodup_range')];intro i;rw [uS i,ZaZ];constructor
   ·rintro ⟨h1,h2⟩;exact ⟨Zbh fun h=>h2 (eR i h),by omega⟩
   ·rintro ⟨h1,h2⟩;exact ⟨by omega,hI.hi i h1⟩
  have hlen:fuel=l.length-m:=by rw [<- xN,jb.length_eq,List.length_range']
  have SO:listed=qi l.length m:=by
   have AO:(qi l.length m).size=l.length:=by simp [qi];omega
   apply Array.ext
   ·rw [hI.sz,AO]
   ·intro i h1 h2;rw [hI.sz] at h1;have h3:=hL i h1;unfold Ls at h3;rw [ZG,ZaQ (by rw [hI.sz];exact h1),Zal] at h3;have h4:(qi l.length m)[i]=decide (i<m):=by
     simp only [qi,List.getElem_toArray];by_cases hi:i<m
     ·rw [ZaC (by simpa using hi)];simp [hi]
     ·rw [Zar (by simpa using hi)];simp [hi]
    rw [h4];by_cases hi:i<m
    ·rw [h3.2 hi];simp [hi]
    ·have:¬ listed[i]=true:=fun h=>hi (h3.1 h)
     simp [hi,this]
  subst hlen;rw [SO];obtain ⟨β,hm,jj⟩:=hI.own;have SP:∀ i,listed.getD i false=Nat.blt i m:=fun i=>by
   by_cases hi:i<m
   ·rw [show Nat.blt i m=true from by simpa [Z9] using hi];exact eR i hi
   ·have h1:¬ listed.getD i false=true:=hI.hi i (by omega);have h2:¬ Nat.blt i m=true:=by simpa [Z9] using hi
    rw [Zax] at h1 h2;rw [h1,h2]
  have e:eP β (pk tk (fun i=>listed.getD i false)) S 0=eP β (pk tk (fun i=>Nat.blt i m)) S 0:=jX fun j s hj=>⟨by unfold pk;simp only [SP],fun _=>rfl⟩
  rw [e] at hm;refine tail β a w ⟨by rw [Zh];exact hm,fun t v hv=>?_,hI.size,hI.defers⟩;rcases mz β t v hv with ⟨j,oj,s,h1,h2,h3,h4⟩ | ⟨h1,h2⟩
  ·obtain ⟨kb,nZ⟩:=gH j oj h1;rw [h4];exact jj j oj t s nZ h2 h3 (eR j kb)
  ·rw [hI.FX t fun j oj hj mA=>h1 oj (Z1 (fc j oj (ZY fun hm=>hI.hi j hm mA) hj))]
   exact h0 t v h2
 intro fuel
 induction fuel with
 | zero =>
  intro listed a w hI;obtain ⟨U,_,uS,xN⟩:=hI.left;have hU:U=[]:=Zaw.1 xN;refine oR 0 listed a w hI fun i hi=>Classical.byContradiction fun hn=>?_;have:=(uS i).2 ⟨by omega,hn⟩;rw [hU] at this;cases this
 | succ fuel ih =>
  intro listed a w hI;by_cases eR:∀ i,i<m->Ls listed i
  ·exact oR _ listed a w hI eR
  ·have hex:∃ i,i<m/\¬ Ls listed i:=Classical.byContradiction fun hh=>eR fun i hi=>Classical.byContradiction fun hn=>hh ⟨i,hi,hn⟩
   obtain ⟨i0,Bz,ug⟩:=hex;have main:∀ i,i∈Region.ready .any l.toArray listed->i<m->wpOpIn (FR r0) 0 P l.toArray Q i (wpAnyIn (FR r0) 0 P .any l.toArray Q fuel (listed.setIfInBounds i true)) a w/\(i=p->wpAnyIn (FR r0) 0 P .any l.toArray Q (fuel+1) listed a w):=by
    intro i hi sW;obtain ⟨o,ho,hn,oS⟩:=(ek hI.sz).1 hi;obtain ⟨d,MC,s,hd,fH,tO,CT,ee⟩:=iZ i o (Zi _) (fc i o sW ho);obtain ⟨EJ,EK,⟨B,hB,ja⟩,Sn⟩:=ee;obtain ⟨β,hm,jj⟩:=hI.own;have nP:∀ (j:Nat),fD o j=true->Ls listed j:=fun j hw=>by
     obtain ⟨e,he,hb,re⟩:=dS hw;rw [<- re];exact oS e he hb
    have EM:∀ (j:Nat),ml l o j=true->Ls listed j:=fun j hw=>by
     unfold ml at hw;rw [ZQ] at hw;rcases hw with hw | hw
     ·exact nP j hw
     ·obtain ⟨k,_,hk⟩:=ZN.1 hw;rw [Zl] at hk;have LD:=nP k hk.1;cases hq:l[k]? with
      | none=>rw [hq] at hk;cases hk.2
      | some q =>
       rw [hq] at hk;obtain ⟨e,he,hb,re⟩:=dS hk.2;rw [<- re];exact hI.dc k q hq LD e he hb
    have tL:∀ (j:Nat) (oj:Oper) (e:Nat),l[j]? = some oj->j<m->j≠i->oj.dst=some e->d≠e:=by
     intro j oj e hj kb hne he;rcases ZbC j i with h | h
     ·exact fun e'=>(eu (rN hc h sW hj ho) he hd).1 e'.symm
     ·exact (eu (rN hc (show i<j by omega) kb ho hj) hd he).1
    have ju:i<listed.size:=by rw [hI.sz];omega
    have HA:oJ o=true:=hc.op o (Z1 ho)
    -- DF cZ Uy DF operation looks at
    have hT:∀ t∈o.looksAt l.toArray,∀ v,cX (MC β) t=some v->a.tmps[t]? = some v:=by
     intro t ht v hv;rcases CT β t v hv with ⟨j,oj,sj,h1,h2,h3,h4⟩ | ⟨h1,h2⟩
     ·have sV:j<i:=by have:=(Zm.1 h1).1;rw [Zs] at this;omega
      rw [ZK,if_pos sV] at h1 h3;obtain ⟨kb,nZ⟩:=gH j oj h1;have mA:=nP j ((eu (rN hc sV sW nZ ho) h2 hd).2 (.inl ht));rw [h4];exact jj j oj t sj nZ h2 h3 mA
     ·rw [hI.FX t fun j oj hj mA jd=>?_]
      ·exact h0 t v h2
      ·have kb:j<m:=ZY fun hm=>hI.hi j hm mA
       rcases Zas j i with h | h | h
       ·exact h1 oj (Z1 (by rw [ZK,if_pos h];exact fc j oj kb hj)) jd
       ·subst h;exact hn mA
       ·have hw:=(eu (rN hc h kb ho hj) hd jd).2 (.inr ht);obtain ⟨e,he,hb,re⟩:=dS hw;have:=hI.dc j oj hj mA e he hb;rw [re] at this;exact hn this
    have AQ:∀ t v,cX (MC β) t=some v->t<c.nt:=by
     intro t v hv;rcases CT β t v hv with ⟨j,oj,sj,h1,h2,_,_⟩ | ⟨_,h2⟩
     ·have sV:j<i:=by have:=(Zm.1 h1).1;rw [Zs] at this;omega
      rw [ZK,if_pos sV] at h1;obtain ⟨d',_,_,xu,EY,_⟩:=iZ j oj (Zi _) h1;rw [h2] at xu;cases xu;exact EY
     ·have:=h0 t v h2;rw [<- OW];exact (Z2.1 this).1
    obtain ⟨a',mG,jT,_⟩:=r8 hI.size AQ hT;have E1:j6 c hs (S.take i) B β w:=by
     rintro A (rfl | ⟨j,hj,sj,h1,rfl⟩)
     ·exact hm.sublist ((Zbw _ _).trans (Zbr _ _))
     ·have sV:j<i:=by have:=(Zm.1 h1).1;rw [Zs] at this;omega
      rw [ZK,if_pos sV] at h1;have mA:=EM j (hB j hj).1;exact hm.sublist ((vw (lst:=pk tk (fun i=>listed.getD i false)) (i:=0) h1 (by rw [Nat.zero_add];unfold pk;dsimp only;rw [(hB j hj).2,show listed.getD j false=true from mA];rfl)).append (List.sublist_append_left _ _))
    have Y6:listed.getD i false=false:=by have h:¬ listed.getD i false=true:=hn;simpa using h
    have htw:∀ j,iJ tk i j=true->fD o j=true:=fun j h=>by
     unfold iJ at h;rw [Zl] at h;exact Sn j (by simpa using h.2) (by simpa [Z9] using h.1)
    have htj:∀ j,iJ tk i j=true->j<i:=fun j h=>by
     obtain ⟨e,he,hb,re⟩:=dS (htw j h);have:=k9 hc.ac ho e he hb;omega
    have hpk:∀ j,iJ tk i j=true->pk tk (fun i=>listed.getD i false) j=true:=fun j h=>by
     have h1:listed.getD j false=true:=nP j (htw j h);have h2:tk j=i:=by unfold iJ at h;rw [Zl] at h;simpa using h.2
     unfold pk;dsimp only;rw [h1,h2,Y6];simp
    have etk:eP β (fun j=>pk tk (fun i=>listed.getD i false) j&&iJ tk i j) S 0=eP β (iJ tk i) (S.take i) 0:=by
     rw [rF (n:=i) fun j hj=>by
      rw [ZH] at hj;cases ht:iJ tk i j with
      | false=>rw [Bool.and_false]
      | true=>have:=htj j ht;omega]
     refine jX fun j sj _=>⟨?_,fun _=>rfl⟩;rw [ZH];cases ht:iJ tk i j with
     | false=>rw [Bool.and_false]
     | true=>rw [hpk j ht];rfl
    have hmS:=hm.perm ((vz (β:=β) (pk tk (fun i=>listed.getD i false)) (iJ tk i) S 0).append_right _)
    rw [Zh,etk] at hmS;obtain ⟨um,_,Vj,VT⟩:=Mem.G4 hmS;have hq:=ja β a' w um mG E1 Vj;have hex:=jI (o:=o) (ops:=l.toArray) HA jT
    -- Um a done operation XS abk not aaY on this one
    have tK:∀ j,Ls listed j->∀ x k,Bj l j k=true->β k=zu β i x k:=by
     intro j mA x k hk;refine (zt fun e=>?_).symm;subst e;unfold Bj at hk;rw [ZQ] at hk;rcases hk with hk | hk
     ·have:j=k:=by simpa using hk
      subst this;exact hn mA
     ·have VM:j<l.length:=by
       have kb:j<m:=ZY fun hm=>hI.hi j hm mA
       omega
      exact hn (jq hI.dc hc.ac j VM mA k hk)
    have jH:∀ v w',ME i s β w um v w'->wpAnyIn (FR r0) 0 P .any l.toArray Q fuel (listed.setIfInBounds i true) (a.put o.dst v) w':=by
     rintro v w' ⟨x,rfl,hk,fp,jv,fV,C2⟩;refine ih _ _ _ ⟨by simpa using hI.sz,?_,?_,by rw [hd];exact hI.defers,by simpa [Act.put,hd] using hI.size,?_,?_,zu β i x,?_,?_⟩
     ·intro k ok xl hL e he hb;rw [c8 ju] at hL ⊢;rcases hL with e' | hL
      ·subst e';rw [ho] at xl;cases xl;exact .inr (oS e he hb)
      ·exact .inr (hI.dc k ok xl hL e he hb)
     ·intro k xl hL;rw [c8 ju] at hL;rcases hL with e | hL
      ·omega
      ·exact hI.hi k xl hL
     ·intro t ht;have h1:d≠t:=fun e=>by subst e;exact ht i o ho ((c8 ju).2 (.inl rfl)) hd
      rw [hd];simp only [Act.put,ZM h1];exact hI.FX t fun j oj hj hL=>ht j oj hj ((c8 ju).2 (.inr hL))
     ·obtain ⟨U,DM,uS,xN⟩:=hI.left;refine ⟨U.erase i,DM.erase i,fun k=>?_,?_⟩
      ·rw [DM.mem_erase_iff,uS k,c8 ju];constructor
       ·rintro ⟨h1,h2,h3⟩;exact ⟨h2,fun h=>h.elim h1 h3⟩
       ·rintro ⟨h1,h2⟩;exact ⟨fun e=>h2 (.inl e),h1,fun h=>h2 (.inr h)⟩
      ·have VQ:i∈U:=(uS i).2 ⟨by omega,hn⟩;rw [ZaV VQ,xN];rfl
     ·have k6:=VT _ w' hk ⟨fp,jv,fV,C2⟩;have e1:eP β (fun j=>pk tk (fun i=>listed.getD i false) j&&!iJ tk i j) S 0=eP (zu β i x) (fun j=>pk tk (fun i=>listed.getD i false) j&&!iJ tk i j) S 0:=jX fun j sj hj=>by
       refine ⟨I,fun hl=>?_⟩;rw [ZH] at hl;have hl:listed.getD j false=true:=by
        unfold pk at hl;simp only [Zl] at hl;exact hl.1.1
       have kb:j<m:=by have:=(Zm.1 hj).1;omega
       obtain ⟨oj,OV⟩:∃ oj,l[j]? = some oj:=⟨l[j]'(by omega),Zc (by omega)⟩;obtain ⟨_,_,s2,_,_,hs2,_,ES⟩:=iZ j oj (Zi _) (fc j oj kb OV);rw [hj] at hs2;cases hs2;exact ES.EK _ _ (tK j hl x)
      rw [e1,<- Zh] at k6;have qe:∀ k,(listed.setIfInBounds i true).getD k false=(listed.getD k false||Nat.beq k i):=fun k=>by
       by_cases SR:k=i
       ·subst SR;rw [show Nat.beq k k=true by simp,Bool.or_true];exact (c8 ju).2 (.inl I)
       ·rw [show Nat.beq k i=false from ZaL.2 fun h=>SR (Zah h),Bool.or_false]
        simp [ZG,ZM (Ne.symm SR)]
      refine k6.perm ((vA (k:=i) tO ?_ ?_ ?_).append_right _)
      ·rw [ZH];unfold pk;dsimp only;rw [Y6];rfl
      ·rw [ZH];unfold pk;dsimp only;rw [qe,show Nat.beq i i=true by simp,Bool.or_true,Zaz];by_cases Sx:tk i=0
       ·rw [Sx];rfl
       ·have Yq:0<tk i:=Nat.pos_of_ne_zero Sx;have qH:listed.getD (tk i) false=false:=by
         cases hh:listed.getD (tk i) false with
         | false=>rfl
         | true =>
          exfalso;have hLt:Ls listed (tk i):=hh;have Xm:tk i<m:=ZY fun hm=>hI.hi _ hm hLt
          obtain ⟨ot,hot⟩:∃ ot,l[tk i]? = some ot:=⟨l[tk i]'(by omega),Zc (by omega)⟩;obtain ⟨_,_,_,_,_,_,_,YQ⟩:=iZ (tk i) ot (Zi _) (fc _ ot Xm hot);obtain ⟨e,he,hb,re⟩:=dS (YQ.waits i rfl Yq);have:=hI.dc (tk i) ot hot hLt e he hb;rw [re] at this;exact hn this
        have hne:Nat.beq (tk i) i=false:=by
         cases hh:Nat.beq (tk i) i with
         | false=>rfl
         | true =>
          exfalso;have e:tk i=i:=by simpa using hh
          have:=htj i (by unfold iJ;rw [hh,Bool.and_true];rw [e] at Yq;simpa [Z9] using Yq);omega
        rw [qe,qH,hne];simp
      ·intro j hj;rw [ZH] at hj;unfold pk;dsimp only;rw [qe,qe,show Nat.beq j i=false from ZaL.2 fun h=>hj (Zah h),Bool.or_false]
       unfold iJ;cases h1:Nat.beq (tk j) i with
       | false=>simp
       | true =>
        have e:tk j=i:=by simpa using h1
        rw [e,Y6];cases Nat.blt 0 i <;> simp
     ·intro j oj e sj hj he kB hL;rw [c8 ju] at hL;by_cases sV:j=i
      ·subst sV;rw [ho] at hj;cases hj;rw [hd] at he;cases he;rw [tO] at kB;cases kB;rw [hd];simp [Act.put,hI.size,fH]
      ·have Gh:=hL.resolve_left sV;have kb:j<m:=ZY fun hm=>hI.hi j hm Gh
       obtain ⟨_,_,s2,_,_,hs2,_,ES⟩:=iZ j oj (Zi _) (fc j oj kb hj);rw [kB] at hs2;cases hs2;rw [hd];simp only [Act.put,ZM (tL j oj e hj kb sV he)];rw [<- ES.EJ _ _ (tK j Gh x)];exact jj j oj e sj hj he kB Gh
    have Xq:=hq;refine ⟨?_,fun hip=>?_⟩
    rotate_left
    ·subst hip;exact (K9 sW).elim
    unfold wpOpIn;rw [show l.toArray[i]? = some o from by simpa using ho];simp only [];rw [jw jT] at hq;split
    ·rename_i hw;rw [if_pos hw] at hq;refine ⟨dQ _ _ _ _ _,?_⟩;rw [Oper.semAt_eq _ _ _ (fun cc he=>by simp [oJ,he] at HA),<- hex]
     unfold si at hq
     revert hq
     generalize (execOp a'.eval o).run P w=res;intro hq
     match res,hq with
     | .ok (.value v) w',hq=>exact jH v w' hq
     | .ok (.enter f args) w', ⟨e, cJ⟩ =>
      subst e;refine ⟨by simp [FR,Fence.wide],(jm cJ).mono fun e zq h=>?_⟩;obtain ⟨v,rfl,hq⟩:=h;exact jH v zq hq
    ·rename_i hw;rw [if_neg hw] at hq;exact ⟨fun _ _=>trivial,jH undef w hq⟩
   by_cases hp:p<m/\p∈Region.ready .any l.toArray listed
   ·exact (main p hp.2 hp.1).2 I
   ·refine ⟨fun hr=>?_,fun i hi=>?_⟩
    ·obtain ⟨i,hi⟩:=kg hI.sz hc.ac ⟨i0,by omega,ug⟩;rw [hr] at hi;cases hi
    ·have sW:i<m:=ZY fun hm=>by
      have T4:=Cv hc hI.sz hI.dc hi hm;by_cases OS:p<m
      ·by_cases hLp:Ls listed p
       ·exact ug (by
         by_cases e:i0=p
         ·rw [e];exact hLp
         ·exact T4 i0 Bz e)
       ·refine hp ⟨OS,(ek hI.sz).2 ⟨l[p]'(by omega),Zc (by omega),hLp,fun e he hb=>?_⟩⟩;have aN:=k9 hc.ac (Zc (show p<l.length by omega)) e he hb;exact T4 e.on (by omega) (by omega)
      ·exact ug (T4 i0 Bz (by omega))
     exact (main i hi sW).1
def uv (tk:Nat->Nat) (P:Program) (r0:Option Nat) (c:Cx) (D:List Nat) (hs:List bd) (l:List Oper) (Q:Exit->Act->World->Prop) (m i n:Nat) (rest:List Oper) (SL:(Nat->Value)->aH) (S:List cT):Prop:=
 ∃ S' qg,wW P c hs l tk i (rest.take n) SL S S' qg/\∀ β,Tr c D (qg β) (eP β (pk tk (fun i=>Nat.blt i m)) S' 0++hs) (zk P r0 l.toArray Q (l.length-m) (qi l.length m))
theorem IH {id:Nat} (m:Nat) (tk:Nat->Nat) [rY:TM P] (dD:RG l m=true) (k:uv tk P r0 c D hs l Q m 0 m l (fun _=>sl) []):Tr c D sl hs (WP P r0 (.region id l.toArray true) Q):=fun a w bh=>by
 obtain ⟨S,qg,hp,ht⟩:=k;have h:(Code.region id l.toArray true).wpIn (FR r0) 0 P (NP Q) a w:=wpIn_region_any rY.eq (by
  refine RX (tk:=tk) (p:=m) (Cu dD) (fun h=>absurd h (Nat.lt_irrefl _)) (fun c a w h=>h.elim) hp bh.cZ bh.size (fun β a w bh=>ht β a w bh) l.toArray.size _ _ _ ⟨by simp,?_,?_,bh.defers,bh.size,fun t _=>rfl,?_,fun _=>undef,?_,?_⟩
  ·exact fun k o _ hL=>absurd hL (gm _ _)
  ·exact fun k _ hL=>gm _ _ hL
  ·exact ⟨List.range l.length,ZbG,fun i=>⟨fun h=>⟨by simpa using h,gm _ _⟩,fun h=>by simpa using h.1⟩,by simp⟩
  ·have e:∀ (T:List cT) (i:Nat),eP (fun _=>undef) (pk tk (fun i=>(Array.replicate l.toArray.size false).getD i false)) T i=[]:=by
    intro T
    induction T with
    | nil=>intro i;rfl
    | cons s T ih =>
     intro i;have:=gm l.toArray.size i;unfold Ls at this;unfold eP;rw [if_neg (by unfold pk;simp only [Zl];exact fun h=>this h.1),ih];rfl
   rw [e];exact bh.mem.drew
  ·exact fun j o d s _ _ _ hL=>absurd hL (gm _ _))
 exact wpIn_mono h fun e a' w' h=>by
  cases e with
  | panic c=>exact h.elim
  | _=>exact h
end
section
variable {P:Program} {c:Cx} {D:List Nat} {sl:aH} {hs hs':List bd} {X:Act->World->Prop} {Q:Exit->Act->World->Prop} {l:List Oper} {m i n d:Nat} {sq:List (Nat×Nat)} {op:Op} {ty:TypeId} {pos:String} {af:Array Edge} {rest:List Oper} {SL:(Nat->Value)->aH} {S:List cT}
variable {r0:Option Nat}
theorem uY {o:Oper} {s:cT} (hd:o.dst=some d) (fH:Nat.blt d c.nt=true) (h:MA P c hs l (lk sq) i o SL S s) (k:uv (lk sq) P r0 c D hs l Q m (i+1) n rest (fun β=>(d,s.F β)::SL β) (S++[s])):uv (lk sq) P r0 c D hs l Q m i (n+1) (o::rest) SL S:=by
 obtain ⟨S',qg,hp,ht⟩:=k;exact ⟨S',qg,.step hd (by simpa [Z9] using fH) h hp,ht⟩
theorem TK (k:∀ β,Tr c D (SL β) (eP β (pk (lk sq) (fun i=>Nat.blt i m)) S 0++hs) (zk P r0 l.toArray Q (l.length-m) (qi l.length m))):uv (lk sq) P r0 c D hs l Q m i 0 rest SL S:=
 ⟨S,SL,.nil,k⟩
theorem My {ι:Type} {Φ:ι->Prop} {val:ι->Value} {own:ι->List bd} (g:Value->ι) (hg:∀ x,∃ v,g v=x) {f:FuncId} {args:(Nat->Value)->List Value} (B:List Nat)
  (hB:(B.all fun j=>ml l ⟨some d,op,ty,pos,af,none⟩ j&&Nat.beq (lk sq j) 0)=true) (hn:(sq.all fun p=>!Nat.beq p.2 i)=true)
  (hr:∀ β,lV P (SL β) ⟨some d,op,ty,pos,af,none⟩ f (args β)) (hd:Nat.blt d c.nt=true) (hc:∀ β w,j6 c hs S B β w->bb P f (args β) w [] Φ val own)
  (k:uv (lk sq) P r0 c D hs l Q m (i+1) n rest (fun β=>(d,val (g (β i)))::SL β) (S++[⟨fun β=>val (g (β i)),fun β=>own (g (β i))⟩])) :
  uv (lk sq) P r0 c D hs l Q m i (n+1) (⟨some d,op,ty,pos,af,none⟩::rest) SL S:=by
 refine uY (s:=⟨fun β=>val (g (β i)),fun β=>own (g (β i))⟩) I hd ⟨fun β β' h=>by simp only [h i (je l i)],fun β β' h=>by simp only [h i (je l i)],⟨B,fun j hj=>?_,fun β a w um vY E1 _=>?_⟩,fun j hj hp=>(uy hn hj hp).elim⟩ k
 ·have:=Z6.1 hB j hj;rw [Zl] at this;exact ⟨this.1,by simpa using this.2⟩
 rw [if_pos (by simp [Region.wanted])];unfold si;rw [(hr β).2 a w vY];refine ⟨I,(hc β w E1).mono fun e w' ⟨x,he,_,hk,fp,hn,hs',hf⟩=>?_⟩;obtain ⟨v,hv⟩:=hg x;refine ⟨val x,he,v,by simp only [kq,hv],hk.mono (by simp),fp,hn,by simp only [kq,hv];exact hs',fun b hb=>?_⟩;rcases hf b hb with h | h
 ·cases h
 ·exact .inr h
theorem mi {F:(Nat->Value)->Value} (hr:∀ β,cY P c (SL β) hs ⟨some d,op,ty,pos,af,none⟩ (F β)) (hi:nW l i F) (hd:Nat.blt d c.nt=true) (hn:(sq.all fun p=>!Nat.beq p.2 i)=true) (k:uv (lk sq) P r0 c D hs l Q m (i+1) n rest (fun β=>(d,F β)::SL β) (S++[⟨F,fun _=>[]⟩])) :
  uv (lk sq) P r0 c D hs l Q m i (n+1) (⟨some d,op,ty,pos,af,none⟩::rest) SL S:=
 uY (s:=⟨F,fun _=>[]⟩) I hd ⟨hi,fun _ _ _=>rfl,⟨[],by simp,fun β a w um h1 h2 _=>by
  rw [if_pos (by simp [Region.wanted])];unfold si;rw [(hr β).2 a w h1 h2.mem];exact ⟨β i,by rw [ve],.refl _ _,[],Zao,I,by simp⟩⟩,fun j hj hp=>(uy hn hj hp).elim⟩ k
theorem GL {V:Nat->Value} {ob:(Nat->Value)->Obj} (hr:∀ β,qZ P c (SL β) hs ⟨some d,op,ty,pos,af,none⟩ V (ob β)) (hi:∀ β β',(∀ k,k≠i->Bj l i k=true->β k=β' k)->ob β=ob β') (hd:Nat.blt d c.nt=true) (hn:(sq.all fun p=>!Nat.beq p.2 i)=true)
  (k:uv (lk sq) P r0 c D hs l Q m (i+1) n rest (fun β=>(d,V (fk (β i)))::SL β) (S++[⟨fun β=>V (fk (β i)),fun β=>[bo (fk (β i)) (ob β)]⟩])) :
  uv (lk sq) P r0 c D hs l Q m i (n+1) (⟨some d,op,ty,pos,af,none⟩::rest) SL S:=
 uY (s:=⟨fun β=>V (fk (β i)),fun β=>[bo (fk (β i)) (ob β)]⟩) I hd ⟨fun β β' h=>by simp only [h i (je l i)],fun β β' h=>by simp only [h i (je l i),hi β β' fun k _ hk=>h k hk],⟨[],by simp,fun β a w um h1 h2 _=>by
  rw [if_pos (by simp [Region.wanted])];unfold si;rw [(hr β).2 a w h1 h2.mem];have e:ob (zu β i (.q (w.heap.size:Int)))=ob β:=hi _ _ fun k hk _=>zt hk
  exact ⟨.q (w.heap.size:Int),by simp only [kq,pU],.alloc _ _ _,[w.heap.size],by simp,⟨[w.heap.size],[],I,⟨by simp only [kq,pU],by simp only [kq,pU];rw [e];exact World.alloc_heap_new w (ob β)⟩,I⟩,by simp⟩⟩,fun j hj hp=>(uy hn hj hp).elim⟩ k
end
end Go.SL.KR
namespace Go.SL.KR
open Go Go.SL
section
variable {P:Program} {c:Cx} {D:List Nat} {sl:aH} {hs hs':List bd} {X:Act->World->Prop} {Q:Exit->Act->World->Prop} {l:List Oper} {m i n d:Nat} {sq:List (Nat×Nat)} {op:Op} {ty:TypeId} {pos:String} {af:Array Edge} {rest:List Oper} {SL:(Nat->Value)->aH} {S:List cT}
variable {r0:Option Nat}
theorem Fl {t e:TypeId} {agg:Bool} {size bytes jx n0:Nat} {z:Value} {x y:Operand} {Vx Vy:(Nat->Value)->Value} {Ax:(Nat->Value)->List bd} {xs:List Value} {news:List (List Value)} [hu:ij P t (.slice e)] [hT:Ty P e agg size] [hZ:lU P e z] [hBy:u0 P e bytes] (B:List Nat)
  (hB:(B.all fun j=>ml l ⟨some d,.call ⟨.builtin .append,#[x,y],#[t,t]⟩,ty,pos,af,none⟩ j&&Nat.beq (lk sq j) 0)=true)
  (hS:S[jx]? = some ⟨Vx,Ax⟩) (hrow:∀ β w fp,cC (hp w) (Ax β) fp->(row e size (Vx β) n0 xs).sat (hp w) fp)
  (htk:∀ k,lk sq k=i->k=jx) (hti:lk sq jx=i) (h0:Nat.blt 0 i=true) (hwx:fD ⟨some d,.call ⟨.builtin .append,#[x,y],#[t,t]⟩,ty,pos,af,none⟩ jx=true)
  (hx:∀ β,Is (SL β) x (Vx β)) (hy:∀ β,Is (SL β) y (Vy β)) (hsrc:∀ β w,j6 c hs S B β w->Rd w (Vy β) size news) (h1:∀ r∈news,∀ u∈r,u.oneCell'=true) (hz:z.cells.size=size) (hsz:Nat.blt 0 size=true) (hb0:Nat.blt 0 bytes=true)
  (hb:(n0+news.length)*bytes<=140737488355328) (hd:Nat.blt d c.nt=true) (hne:news≠[])
  (k:uv (lk sq) P r0 c D hs l Q m (i+1) n rest (fun β=>(d,.slice (tP (β i)).1 (n0+news.length) (tP (β i)).2)::SL β) (S++[⟨fun β=>.slice (tP (β i)).1 (n0+news.length) (tP (β i)).2,fun β=>[row e size (.slice (tP (β i)).1 (n0+news.length) (tP (β i)).2) (n0+news.length) (xs++news.flatten)]⟩])) :
  uv (lk sq) P r0 c D hs l Q m i (n+1) (⟨some d,.call ⟨.builtin .append,#[x,y],#[t,t]⟩,ty,pos,af,none⟩::rest) SL S:=by
 refine uY (s:=⟨fun β=>.slice (tP (β i)).1 (n0+news.length) (tP (β i)).2,fun β=>[row e size (.slice (tP (β i)).1 (n0+news.length) (tP (β i)).2) (n0+news.length) (xs++news.flatten)]⟩) I hd ⟨fun β β' h=>by simp only [h i (je l i)],fun β β' h=>by simp only [h i (je l i)],⟨B,fun j hj=>?_,fun β a w um vY E1 fV=>?_⟩,fun j hj _=>by rw [htk j hj];exact hwx⟩ k
 ·have:=Z6.1 hB j hj;rw [Zl] at this;exact ⟨this.1,by simpa using this.2⟩
 rw [if_pos (by simp [Region.wanted])];rw [Cr (i:=0) hS fun k=>by
  rw [ZH];unfold iJ;rw [h0,Zaz];by_cases e:k=jx
  ·subst e;rw [hti];simp
  ·rw [show Nat.beq k jx=false from ZaL.2 fun h=>e (Zah h)]
   exact ZaL.2 fun h=>e (htk k (Zah h))] at fV
 have Xp:=hrow β w um fV;have hR:=hsrc β w E1;have hvx:=hx β a vY;have hvy:=hy β a vY;have hlen:=fC hR.sz;obtain ⟨aa,cap,b2,o2,hV,dp,bY,haa,hcc⟩:=hR;have:=haa hne;subst this;rw [hV] at hvy;obtain ⟨de,ii,lR,Ic,_,hG⟩:=Ty.parts (P:=P) (t:=e) (agg:=agg) (n:=size);have hzero:ii.zero=some z:=by have:=hZ.eq;rw [Ic] at this;simpa using this
 have gV:ii.bytes=bytes:=by have:=hBy.eq;rw [Ic] at this;simpa using this
 have C5:0<bytes:=by simpa using hb0
 have rW:=Cg Xp;have Ql:n0+news.length<=maxLen:=by
  have:(n0+news.length)*1<=(n0+news.length)*bytes:=Zbx _ C5;unfold maxLen;omega
 have hn:∀ (j:Nat) (u:Value),news.flatten[j]? = some u->w.cell? ⟨b2,o2+j,none⟩=some u:=lz hcc;have DO:∀ u∈news.flatten,u.oneCell'=true:=fun u hu=>by obtain ⟨r,hr,Sp⟩:=ZbE.1 hu;exact h1 r hr u Sp
 obtain ⟨v',w',ja,rV,wg,_⟩:=run_append_own (P:=P) w 0 t ty e ii z size bytes hu.eq Ic hzero hG gV hz (by simpa using hsz) (Vx β) n0 xs rW ⟨b2,o2,none⟩ news.length cap news.flatten hlen
  (fun j u hj=>by rw [eT];exact hn j u hj) DO Ql hb (Zi _)
 have xI:=qT (P:=P) (t:=t) (ty:=ty) hu.eq Ic hzero (by rw [hG];exact rW) (a:=⟨b2,o2,none⟩) (m:=news.length) (cp:=cap) (by rw [hG];exact hlen) (fun j u hj=>by rw [eT];exact hn j u hj) DO Ql (by rw [gV];exact hb) ja
 have hex:(execOp a.eval ⟨some d,.call ⟨.builtin .append,#[x,y],#[t,t]⟩,ty,pos,af,none⟩).run P w=.ok (.value v') w':=by
  simp [execOp,resolve,invoke,builtin,hvx,hvy,ja]
 unfold si;rw [hex];have HF:um=(Vx β).ownBlock.toList:=Xp.1;have hN:0<n0+news.length:=by have:=Zby.2 hne;omega
 have hsv:v'=.slice (tP v').1 (n0+news.length) (tP v').2:=by
  rcases rV.2 with ⟨_,e2⟩ | ⟨g,cp,cur,e2,_⟩
  ·omega
  ·rw [e2];rfl
 refine ⟨v',by simp only [kq];exact hsv,⟨wg.os,wg.tape,wg.output,xI.2,wg.size,fun q hq YS=>wg.block q hq (fun he=>YS ?_)⟩,v'.ownBlock.toList,by cases v'.ownBlock <;> simp,⟨v'.ownBlock.toList,[],(ZS _).symm,by simp only [kq];rw [<- hsv];exact l9 rV,I⟩,fun q hq=>?_⟩
 ·rw [HF,<- he];simp
 ·have xj:v'.ownBlock=some q:=by simpa [Option.mem_toList] using hq
  rcases xI.1 with h | h
  ·left;rw [HF,<- h,xj];simp
  ·right
   rw [h] at xj;cases xj;exact Zz _
end
end Go.SL.KR
namespace Go.Proofs.A1
open Go Go.SL
open Tryz
open Tryz renaming prog->T_
def Bf (x:Wy):bd:=row 3 1 x.v (gp x.p).length (gp x.p)
theorem Bg:∀ kD:List Wy,gA 3 (kD.map Wy.v) (kD.map fun x=>gp x.p)=kD.map Bf
 | []=>rfl
 | x::l=>by simp only [ZZ,gA,Bg l];rfl
theorem BZ:∀ (l:List bd) (A:bd) (m:List bd),Take (l++A::m) A (l++m)
 | [],_,_=>.here
 | _::l,A,m=>.there (BZ l A m)
theorem yq (A:bd):∀ (l m:List bd),bj (A::(l++m)) l (A::m)
 | [],_=>.nil
 | _::l,m=>.cons (.there .here) (yq A l m)
theorem vj {c:Cx} {D:List Nat} {sl:aH} {hs hs':List bd} {X:Act->World->Prop} {kD:List Wy} {x:Wy} (hx:x∈kD) (ht:Take hs (iH kD) hs')
  (k:∀ og,(∀ y,y∈kD↔y=x\/y∈og)->Tr c D sl (iH og::row 3 1 x.v x.p.length (gp x.p)::hs') X):Tr c D sl hs X:=by
 obtain ⟨l1,l2,rfl⟩:=List.append_of_mem hx;have hk:=k (l1++l2) (fun y=>by simp only [Zv,ZO];constructor <;> (intro h;rcases h with h | h | h <;> simp [h]))
 refine yk (As:=gA 3 ((l1++x::l2).map Wy.v) ((l1++x::l2).map fun x=>gp x.p)) (show Take hs (MI (gA 3 ((l1++x::l2).map Wy.v) ((l1++x::l2).map fun x=>gp x.p))) hs' from ht) ?_;rw [Bg,Zt,ZZ,Zh,Zb];refine uw (BZ (l1.map Bf) (Bf x) (l2.map Bf++hs')) (fun _ _ h=>h) ?_;rw [<- Zh,<- Zt];refine ss (yq (Bf x) ((l1++l2).map Bf) hs') ?_;have e:iH (l1++l2)=MI ((l1++l2).map Bf):=by rw [<- Bg];rfl
 rw [<- e];have e2:Bf x=row 3 1 x.v x.p.length (gp x.p):=by unfold Bf gp;rw [Zd]
 rw [e2];exact hk
theorem KB (p:List Nat):(gp p).length=p.length:=by unfold gp;rw [Zd]
variable {de:ByteArray} {p:List Nat} {r:Ro} {so:ByteArray} {v:Int}
theorem CG {k:Nat} (h:k<p.length) (cur:List Value):(gp p++cur)[k*1]? = some (.q (p[k]:Nat)):=by
 rw [Zap,ZD (by rw [KB];exact h)];unfold gp;rw [ZA,Zc h];rfl
theorem CE (p:List Nat) (i:Nat):(nz p).contains (i:Int)=p.contains i:=by
 induction p with
 | nil=>rfl
 | cons x l ih =>
  show (((i:Int)==(x:Int))||(nz l).contains (i:Int))=((i==x)||l.contains i);rw [ih];congr 1;rw [Zbe,beq_iff_eq,beq_iff_eq];omega
theorem vW {α:Type} {l:List Oper} {i:Nat} {x:α}:nW l i (fun _:Nat->Value=>x):=fun _ _ _=>rfl
theorem Hr {N:Wn} {dm:Int} (h:N.Fj=dm):N.least dm []:=by
 refine ⟨N.sN,h,fun q _ _=>?_⟩;rcases Wn.KF (N:=N) (show [] <+: q from List.nil_prefix) with e | e
 ·rw [<- e];exact N.lt_irrefl []
 ·cases hb:N.lt q [] with
  | false=>rfl
  | true=>have:=Wn.lt_trans e hb;rw [N.lt_irrefl] at this;cases this
set_option maxHeartbeats 4000000 in
theorem PY {s d t p:Value} (v:Int) (so de:ByteArray) {w:World} (h:RR w r s d t p) (hn:qw r) (hV:gT r r.po) (hd:DB r) (sT:so∈cG r) (fH:de∈bU r) :
  bb T_ 175 [RA r s d t p,.q v,.string so,.string de] w [] (fun x:Bool×Wy×List Wy=>(x.1=true->(fJ r r.po v so).least (oq r de) x.2.1.p/\(x.2.1∈x.2.2\/x.2.1=⟨.z,[],0⟩))/\(x.1=false->∀ q,(fJ r r.po v so).ok q->(fJ r r.po v so).fin q≠oq r de)/\x.2.1.v.oneCell'=true)
   (fun x=>.tuple #[.agg x.2.1.cells.toArray,.bool x.1]) (fun x=>[iH x.2.2]):=by
 have h6:r.ti.length<=6:=by have:=hn.TR;unfold cN at this;rwa [Zd] at this
 obtain ⟨h1,h2,h3,h4⟩:=h.one;have hti:=h.ti;obtain ⟨a,cp,b,o',rfl,dp,bY,ha,hc⟩:=hti;have Sy:=h.sr;obtain ⟨a2,oy,b2,o2,rfl,ki,fB,jT,jS⟩:=Sy;have lR:=h.de;obtain ⟨a3,tg,b3,o3,rfl,nR,gP,uh,qI⟩:=lR;rw [cr] at *;rw [cR] at *;rw [cB] at *;unfold maxLen at bY fB gP;obtain ⟨i0,Bz⟩:∃ i:Nat,bA (cG r) so=(i:Nat):=⟨(bA (cG r) so).toNat,by have:=eE sT;omega⟩;have Li:i0<r.sr.length:=by
  obtain ⟨hl,_⟩:=eF (l:=cG r) (s:=so) (by omega);rw [Bz,ZF] at hl;unfold cG at hl;rwa [Zd] at hl
 obtain ⟨j0,AR⟩:∃ i:Nat,bA (bU r) de=(i:Nat):=⟨(bA (bU r) de).toNat,by have:=eE fH;omega⟩;have CZ:j0<r.de.length:=by
  obtain ⟨hl,_⟩:=eF (l:=bU r) (s:=de) (by omega);rw [AR,ZF] at hl;unfold bU at hl;rwa [Zd] at hl
 have sU:rq r so=(r.sr[i0]).mx:=by unfold rq;rw [Bz,ZF,Zk,Zc Li];rfl
 have T9:oq r de=(r.de[j0]).mx:=by unfold oq;rw [AR,ZF,Zk,Zc CZ];rfl
 have hsrc:∀ w',aK [] w w'->aj T_ 180 [.agg #[.q r.lv,.q r.ma,.slice a2 r.sr.length oy,.slice a3 r.de.length tg,.slice a r.ti.length cp,p],.string so] w' (.q (i0:Nat)):=fun w' hk=>Bz ▸ oE so (h.keeps hk)
 have xM:∀ w',aK [] w w'->aj T_ 155 [.agg #[.q r.lv,.q r.ma,.slice a2 r.sr.length oy,.slice a3 r.de.length tg,.slice a r.ti.length cp,p],.string de] w' (.q (j0:Nat)):=fun w' hk=>AR ▸ fS de (h.keeps hk)
 have ui:=jT (iK Li);have eZ:=(jS i0 _ (fY Li)).2;unfold Sr.cells at eZ;have T5:=eZ 1 _ I;have HJ:=uh (gI CZ);have oT:=(qI j0 _ (fm CZ)).2;unfold De.cells at oT;have xr:=oT 1 _ I;unfold RA;refine aT func175 I I ?_
 (refine Jr<|Jy I I fun _ _=>Jz I I fun _ _=>Ja I<|Jn<|ID<|Jq ?_)
 rename_i b4 uQ b8 hb8
 with_reducible refine ef 18 (by kernel_rfl) ?_
 (refine pt I I ae<|aO (ie (.there .here)) I<|aO (cK (.there .here)) I<|lH I I<|gQ ba I (fun w' aA=>(hsrc w' (Mem.keeps aA)))<|aO (au (.of I) (.of I) ui (by omega) (by omega) bn) I<|pt I I ae<|aO (ag (.of I) (At.base T5 I)) I<|pt I I ae<|aO (ie (.there .here)) I<|aO (cK (.there .here)) I<|lH I I<|gQ ba I (fun w' aA=>(xM w' (Mem.keeps aA)))<|aO (au (.of I) (.of I) HJ (by omega) (by omega) bn) I<|pt I I ae<|aO (ag (.of I) (At.base xr I)) I<|aO (cS (.of I)) I<|aO (cS (.of I)) I ?_)
 with_reducible refine er ?_
 rw [<- sU,<- T9]
 (refine Jn<|Jq<|Jr<|Jv I<|Jv I<|JC I<|Jn<|gB I (fun ar=>?_) fun ar=>?_;refine Jr<|ab (aU .nil ak) I<|an (.of I) (.of I) .here I I (gJ I I) (bG I) ak<|Ja I<|Jn<|Ju<|sx ?_;rotate_left;refine Jk<|Jr<|ab (cK (.there .here)) I<|Jv I<|Jv I ?_;rotate_right)
 ·refine yn ?_
  with_reducible first|apply aR|apply aS
  case he=>exact lC I inferInstance I (.there .here) ak (by rfl) (by rfl)
  case hR=>
   intro w' aA;exact aD (true,⟨.z,[],0⟩,[]) ⟨fun _=>⟨Hr (show jP r so=_ by rw [sA sT];exact ar),.inr I⟩,(fun e=>by cases e),I⟩ (by exact .h1 .nil) aA I
 refine JN eK I (fun w1 aG=>Ml (s:=.slice a2 r.sr.length oy) (d:=.slice a3 r.de.length tg) (t:=.slice a r.ti.length cp) (p:=p) v so (h.keeps aG.keeps) (by omega) sT) ?_;rintro ⟨wv,W⟩ hW;have hS:=qf.begin hn hV v (de:=de) sT h6 ar hW;clear ar;dsimp only [id_eq,Zb,Za];refine aY (E:=244) (sz:=2) (by exact .here) fun va vc e=>?_;subst e
 (refine Jz I I fun _ _=>an (.of I) (.of I) .here I I (eL I) (bG I) ak<|Ji<|Jz I I fun _ _=>Ji<|Ja I<|Jn<|Jq<|IG<|Jt<|Jq<|J0 ?_)
 rename_i Mo aaR QT ah4;refine GV (E:=244) (sz:=2) bF ?_
 refine FC (ι:=Value×List Wy×List Wy) (fun x=>qf (fJ r r.po v so) (oq r de) x.2.1 x.2.2)
  (fun x=>[(14,.bool false),(13,.p QT),(12,.p Mo),(11,.q (oq r de)),(8,.p b8),(4,.p b4),(1,.q v)])
  (fun x=>[bo Mo (.cells #[x.1] 329 (0,0)),kH 244 2 x.1 x.2.1.length (mZ x.2.1),iH x.2.2,bo QT (.cells #[.z,.q 0] 244 (0,0)),bo b8 (.cells #[.z,.q 0] 244 (0,0)),
   JP b4 r (.slice a2 r.sr.length oy) (.slice a3 r.de.length tg) (.slice a r.ti.length cp) p]) (fun x=>(fJ r r.po v so).wt (x.2.1.map Wy.p)) ?_ ?_
 ·apply yj (.slice va W.length vc,W,W) hS
  case hs1=>exact cu
  case ht=>
   show bj _ [bo Mo (.cells #[.slice va W.length vc] 329 (0,0)),kH 244 2 (.slice va W.length vc) W.length (mZ W),iH W,bo QT (.cells #[.z,.q 0] 244 (0,0)),bo b8 (.cells #[.z,.q 0] 244 (0,0)),
    JP b4 r (.slice a2 r.sr.length oy) (.slice a3 r.de.length tg) (.slice a r.ti.length cp) p] _
   exact .cons bF (.h1 (.cons (.there .here) (.h3 .nil)))
 rintro ⟨wv,Q,kD⟩ hS D;dsimp only at hS ⊢;have hQl:=hS.len;refine yl (by exact Take.there .here) fun qa qc e T3 YH=>?_;subst e;by_cases XF:Q.length=0
 ·have Ld:Q=[]:=Z5 XF;subst Ld
  (refine Jq<|Jr<|JL I .here I<|JI I<|JE I<|Jn<|Jc I fun ar=>Jp<|Jl<|Jo<|Jt<|Jr<|ab (cK cA) I<|Jv I<|an (.of I) (.of I) df I I (gJ I I) (bG I) ak<|Ja I<|Jn<|Je<|sx ?_)
  with_reducible first|apply aR|apply aS
  case he=>exact lC I inferInstance I .here ak (by rfl) (by rfl)
  case hR=>
   intro w' aA;exact aD (false,⟨.z,[],0⟩,kD) ⟨(fun e=>by cases e),(fun _=>Wn.KS hS.inv),I⟩ (by exact .cons cA .nil) aA I
 ·refine Jq<|Jr<|JL I .here I<|JI I<|JE I<|Jn<|Jd I fun ar=>Jk<|J0<|Jr<|JL I .here I ?_
  with_reducible apply eH (As:=[kH 244 2 (.slice qa Q.length qc) Q.length (mZ Q),iH kD])
  case hr=>exact ba
  case hd=>rfl
  case ht=>exact ng
  case hc=>
   intro w1 BE aG uf hs1 DN _;exact IU uf hs1 I hS.sub (by omega) hS.one
  rintro Q' ⟨jb,Vh⟩;have Wf:Q'.length=Q.length:=jb.length_eq
  replace hS:=hS.perm jb
  dsimp only [id_eq,Zb,Za];have hwt:=Wn.Fu (N:=fJ r r.po v so) (jb.map Wy.p);rw [<- Wf] at XF hQl T3 ⊢;clear jb;cases Q' with
  | nil=>exact absurd rfl XF
  | cons x R =>
   clear XF Wf;obtain ⟨xv,xp,xf⟩:=x;have Xj:=hS.sub ⟨xv,xp,xf⟩ (by simp);have Xk:xv.oneCell'=true:=hS.one ⟨xv,xp,xf⟩ Xj;have tJ:(fJ r r.po v so).ok xp/\xp≠[]:=hS.inv.ok xp (by simp);have hwx:mZ (⟨xv,xp,xf⟩::R)=[xv,.int .i64 (xf:Nat)]++mZ R:=rfl;have hlR:((⟨xv,xp,xf⟩:Wy)::R).length=R.length+1:=rfl;rw [hlR] at T3 hQl;rw [hlR,hwx];refine Ji<|JL I bF I ?_;refine BO (by exact .here) (Nat.succ_pos _) fun g off ic pre cur e mz kc aG hfit hlen=>?_;cases e;have c0:eo (pre++([xv,.int .i64 (xf:Nat)]++mZ R)++cur) (off+0*2) 2=[xv,.int .i64 (xf:Nat)]:=by
    rw [jl,Zh,Zbt,Zau,<- mz,List.drop_left];rfl
   (refine ab (au (.of I) (.of I) I (by omega) (by omega) bn) I<|ab (bV (.of I) .here c0 I) I<|Jz I I fun _ _=>an (.of I) (.of I) .here I I (gJ Xk I) (bG I) ak<|Ji<|JL I cA I<|ab (np (.of I) (.of I) (by omega) (by omega)) I<|an (.of I) (.of I) cA I I (eL I) (bG I) ak<|Jn<|Jq ?_)
   rename_i TF aaQ;refine BN (n:=R.length+1) (sz:=2) (cap:=qc) bF mz kc aG hfit hlen ?_;refine BM (by exact .here) ?_;rw [show ([xv,.q (xf:Nat)]++mZ R).drop 2=mZ R from I];refine vj Xj cA fun og S5=>?_;have Qd:0<xp.length:=Zby.2 tJ.2;have Xi:xp.length<=r.ti.length:=Wn.vJ tJ.1;have hxf:xf<=6:=by
    have h0:xf=(fJ r r.po v so).uk xp:=hS.uk ⟨xv,xp,xf⟩ (by simp);have:=List.countP_le_length (p:=(fJ r r.po v so).fe) (l:=xp);unfold Wn.uk at h0;omega
   refine cQ (by exact Take.there .here) Qd fun g2 dB abl e S4 Y1 AO Gc=>?_;cases e;obtain ⟨l,hl⟩:∃ l,xp[xp.length-1]=l:=⟨_,rfl⟩;have SP:l<r.ti.length:=Wn.CC tJ.1 l (hl ▸ Zj _);have c1:(gp xp++abl)[((xp.length:Int)-1).toNat*1]? = some (.int .i64 (l:Nat)):=by
    rw [show ((xp.length:Int)-1).toNat=xp.length-1 by omega,CG (by omega),hl]
   have S7:=ha (fF SP);have iz:=(hc l _ (eO SP)).2;unfold Ti.cells at iz;have aaF:=iz 2 _ I;have oR:(fJ r r.po v so).fin xp=(r.ti[l]).to:=by
    unfold Wn.fin;rw [List.getLast?_eq_getElem?,Zc (by omega),hl];show (iI r l).to=_;rw [nj SP]
   with_reducible refine ef 14 (by kernel_rfl) ?_
   (refine pt I I ae ?_;refine aO (ie uZ) I ?_;refine pt I I ae ?_;refine aO (ie df) I ?_;refine pt I I ae ?_;refine aO (ie df) I ?_;refine aO (cI (.of I)) I ?_;refine aO (z8 (.of I) (.of I) (TX (by omega))) I ?_;refine aO (au (.of I) (.of I) I (by omega) (by omega) bn) I ?_;refine aO (ag (.of I) (At.mW .here c1)) I ?_;refine aO (au (.of I) (.of I) S7 (by omega) (by omega) bn) I ?_;refine pt I I ae ?_;refine aO (ag (.of I) (At.base aaF I)) I ?_;refine aO (cS (.of I)) I ?_)
   with_reducible refine er ?_
   rw [<- oR];refine cH (by exact .here) S4 Y1 AO Gc ?_;refine pE (W:=og) ⟨.w g2 xp.length dB,xp,xf⟩ (n:=xp.length) (x:=gp xp) (by exact Take.there .here) (by exact .here) I I ?_;have V2:∀ y,y∈og++[(⟨.w g2 xp.length dB,xp,xf⟩:Wy)]↔y∈kD:=fun y=>by rw [S5,Zv,ZE];exact Or.comm
   generalize og++[(⟨.w g2 xp.length dB,xp,xf⟩:Wy)]=TE at V2 ⊢
   (refine Jn<|Jq<|Jr<|Jv I<|Jv I<|JC I<|Jn<|gB I (fun ar=>?_) fun ar=>?_;refine Jr<|ab (cK cA) I<|an (.of I) (.of I) df I I (gJ I I) (bG I) ak<|Ja I<|Jn<|Jp<|vi I<|Jl<|Jo<|Jt<|Jr<|ab (cK .here) I<|Jv I<|an (.of I) (.of I) eG I I (gJ I I) (bG I) ak<|Ja I<|Jn<|Je<|sx ?_;rotate_left;refine Jk<|Jr<|ab (cK kU) I<|Jv I<|Jv I ?_;rotate_right)
   ·with_reducible first|apply aR|apply aS
    case he=>exact lC I inferInstance I .here ak (by rfl) (by rfl)
    case hR=>
     intro w' aA;exact aD (true,⟨.w g2 xp.length dB,xp,xf⟩,TE) ⟨(fun _=>⟨qf.found hS Vh ar,.inl ((V2 _).2 Xj)⟩),(fun e=>by cases e),I⟩ (by exact .cons bF .nil) aA I
   with_reducible apply jy
   case hr=>exact eK
   case hd=>rfl
   case ht=>exact bj.nil
   case hc=>
    intro w1 fp aG _ hs1;obtain rfl:fp=[]:=hs1;exact sS (s:=.slice a2 r.sr.length oy) (d:=.slice a3 r.de.length tg) (t:=.slice a r.ti.length cp) (p:=p) v ((fJ r r.po v so).fin xp) (h.keeps aG.keeps)
   intro y _;dsimp only [id_eq,Zb,Za];have sX:(fE r v ((fJ r r.po v so).fin xp) r.ti.length).length<=r.ti.length:=by
    have:=Z8 (C7 r v ((fJ r r.po v so).fin xp)) (List.range r.ti.length);rw [ZaM] at this;exact this
   refine Jn<|J0 ?_
   refine jn (ps:=[73,74]) (f:=240) (first:=[]) (cap:=[.pointer (some ⟨y.1,0,none⟩),.pointer (some ⟨y.2.1,0,none⟩),.pointer (some ⟨y.2.2,0,none⟩)]) (ι:=Value×List Wy×List Wy) (κ:=Empty)
    (rst:=[bo QT (.cells #[.z,.q 0] 244 (0,0)),bo b8 (.cells #[.z,.q 0] 244 (0,0)),JP b4 r (.slice a2 r.sr.length oy) (.slice a3 r.de.length tg) (.slice a r.ti.length cp) p]) ?hg
    [JP y.1 r (.slice a2 r.sr.length oy) (.slice a3 r.de.length tg) (.slice a r.ti.length cp) p,bo y.2.1 (.cells #[.q ((fJ r r.po v so).fin xp)] 3 (0,0)),bo y.2.2 (.cells #[.q v] 3 (0,0))] (MR r v ((fJ r r.po v so).fin xp)) ?hit
    (fun k x=>x.2.1.map wk=(((fE r v ((fJ r r.po v so).fin xp) r.ti.length).take k).filter fun i=>!xp.contains i).map (fun i=>(xf+1,xp++[i]))/\(∀ z∈R++x.2.1,z∈x.2.2)/\(∀ z∈x.2.2,z.v.oneCell'=true)/\(⟨.w g2 xp.length dB,xp,xf⟩:Wy)∈x.2.2)
    (fun x=>[bo Mo (.cells #[x.1] 329 (0,0)),kH 244 2 x.1 (R.length+x.2.1.length) (mZ (R++x.2.1)),iH x.2.2,bo TF (.cells #[.w g2 xp.length dB,.q (xf:Nat)] 244 (0,0))])
    (fun _=>False) (fun _=>[]) (fun _=>.ret) (Go.sliced (some ⟨g,off,none⟩) 1 (R.length+1) qc 2,[],TE) ⟨I,(fun z hz=>(V2 z).2 (hS.sub z (by rw [ZS] at hz;exact ZW _ hz))),(fun z hz=>hS.one z ((V2 z).1 hz)),(V2 _).2 Xj⟩ ?ht ?hlen ?hps ?round ?kn ?kj
   case hg=>exact Is.of I
   case hit=>intro w' aA;exact KE v _ h RO.nil (by omega)
   case ht=>
    show bj _ [bo Mo (.cells #[Go.sliced (some ⟨g,off,none⟩) 1 (R.length+1) qc 2] 329 (0,0)),kH 244 2 (Go.sliced (some ⟨g,off,none⟩) 1 (R.length+1) qc 2) R.length (mZ (R++[])),iH TE,bo TF (.cells #[.w g2 xp.length dB,.q (xf:Nat)] 244 (0,0)),
     JP y.1 r (.slice a2 r.sr.length oy) (.slice a3 r.de.length tg) (.slice a r.ti.length cp) p,bo y.2.1 (.cells #[.q ((fJ r r.po v so).fin xp)] 3 (0,0)),bo y.2.2 (.cells #[.q v] 3 (0,0))] _
    rw [ZS];exact .cons eG (.cons df (.cons cA (.cons cA (.h3 .nil))))
   case hlen=>intro vs oQ;obtain ⟨x,_,rfl⟩:=Zo.1 oQ;rfl
   case hps=>intro t ht;simp only [ZO,Zp,or_false] at ht;rcases ht with rfl | rfl <;> exact Zay rfl
   case kj=>intro y;cases y
   case kn=>
    rintro ⟨Q7,W,Dt⟩ D2 ⟨hW,iO,ia,EL⟩;dsimp only [Zb,Za] at hW iO ia EL ⊢;rw [uM,ZL] at hW;obtain ⟨XE,fQ⟩:=qf.next hS ar iO ia hW;refine Jj<|Jj<|Jt ?_;apply BQ (Q7,R++W,Dt) XE (by rw [<- hwt];exact fQ)
    case hs1=>exact cu
    case ht=>
     show bj _ [bo Mo (.cells #[Q7] 329 (0,0)),kH 244 2 Q7 (R++W).length (mZ (R++W)),iH Dt,bo QT (.cells #[.z,.q 0] 244 (0,0)),bo b8 (.cells #[.z,.q 0] 244 (0,0)),
      JP b4 r (.slice a2 r.sr.length oy) (.slice a3 r.de.length tg) (.slice a r.ti.length cp) p] _
     rw [Zg];exact .h3 (.cons df (.cons df (.cons df .nil)))
   case round=>
    rintro l2 rc W2 Wr k ⟨Q7,W,Dt⟩ vs hsz hk ⟨hW,iO,ia,EL⟩ hB hF;dsimp only at hW iO ia EL;obtain ⟨i,hi,rfl,ju,Xy⟩:=EE hk;obtain ⟨xk,Lk⟩:=Zm.1 hi;have htk:(fE r v ((fJ r r.po v so).fin xp) r.ti.length).take (k+1)=(fE r v ((fJ r r.po v so).fin xp) r.ti.length).take k++[i]:=by rw [Zn xk,Lk]
    have S8:(mZ (R++W)).length=(R.length+W.length)*2:=by rw [pA,Zg]
    have hWk:W.length<=6:=by
     have:=congrArg List.length hW;rw [Zd,Zd] at this;rw [this];refine ZX (Z8 _ _) ?_;rw [Zs];omega
    dsimp only [Ti.cells,List.zip_cons_cons,List.zip_nil_right,mw,Zb,Za];refine Jg<|Ja I<|Jn ?_
    with_reducible apply mI
    case ht=>exact .here
    (refine J0<|Jr<|bP I I ae<|JL I df I<|Jv I ?_)
    refine ai ba I (fun w' aA=>lF (l:=nz xp) (i:Nat) (Fi aA cA EL)) ?_;rw [CE];cases HI:xp.contains i with
    | true =>
     have xq:((fE r v ((fJ r r.po v so).fin xp) r.ti.length).take (k+1)).filter (fun i=>!xp.contains i)=((fE r v ((fJ r r.po v so).fin xp) r.ti.length).take k).filter (fun i=>!xp.contains i):=by
      rw [htk,Zbk];simp only [List.filter_cons,HI,List.filter_nil];simp
     (refine JH I<|Jn<|bE (.of I)<|Jw<|Jj ?_)
     apply l5 (Q7,W,Dt)
     case ht=>exact .here
     case hx=>exact ⟨by rw [xq];exact hW,iO,ia,EL⟩
     case h2=>exact .h4 .nil
    | false =>
     have xq:((fE r v ((fJ r r.po v so).fin xp) r.ti.length).take (k+1)).filter (fun i=>!xp.contains i)=((fE r v ((fJ r r.po v so).fin xp) r.ti.length).take k).filter (fun i=>!xp.contains i)++[i]:=by
      rw [htk,Zbk];simp only [List.filter_cons,HI,List.filter_nil];simp
     refine JH I<|Jn<|cL (.of I) ?_;have qH:(nz xp).length=xp.length:=sP xp;have VC:(nz xp).map (Value.int .i64)=gp xp:=by unfold nz gp;rw [Zat];rfl
     with_reducible refine KR.IH 12 (lk [(3,6)]) (by kernel_rfl) ?_
     refine KR.mi (fun β=>(ag (.of I) (At.lit (.there .here) I))) vW I I ?_;refine KR.mi (fun β=>(az (.of I) ae)) vW I I ?_;refine KR.mi (fun β=>(ag (.of I) (At.lit df I))) vW I I ?_;dsimp only [Nat.zero_add,Nat.reduceAdd]
     with_reducible apply KR.My (ι:=Value) (Φ:=fun _=>True) (val:=id) (own:=fun v=>[row 3 1 v xp.length (gp xp)]) (g:=id) (B:=[]) (args:=fun _=>[.w g2 xp.length dB])
     case hg=>exact fun x=>⟨x,I⟩
     case hB=>rfl
     case hr=>exact fun β=>aZ (.of I) (.o I .nil) inferInstance I
     case hd=>rfl
     case hn=>rfl
     case hc=>
      intro β w' hb;have:=PA (l:=nz xp) (Fi hb.mem cA EL) (by rw [sP];omega);rwa [qH,VC] at this
     dsimp only [id_eq,Nat.reduceAdd];refine KR.mi (fun β=>(aX (.of I))) vW I I ?_;refine KR.GL (fun β=>(aC (.o I .nil) I I I I)) (fun _ _ _=>rfl) I I ?_;dsimp only [Nat.reduceAdd]
     with_reducible apply KR.Fl (jx:=3) (n0:=xp.length) (xs:=gp xp) (news:=[[.q (i:Nat)]]) (Vx:=fun β=>β 3) (Vy:=fun β=>.slice (some ⟨fk (β 5),0,none⟩) 1 1) (Ax:=fun β=>[row 3 1 (β 3) xp.length (gp xp)]) (B:=[5])
     case hB=>kernel_rfl
     case hS=>rfl
     case hrow=>exact fun β w' fp ⟨f1,f2,e,h,h0⟩=>by obtain rfl:f2=[]:=h0;rw [e,ZS];exact h
     case htk=>exact yp I I
     case hti=>rfl
     case h0=>rfl
     case hwx=>kernel_rfl
     case hx=>exact fun β=>.of I
     case hy=>exact fun β=>.of I
     case hsrc=>
      intro β w' hb;have m6:=hb.at 5 (by simp) (s:=⟨fun β=>.slice (some ⟨fk (β 5),0,none⟩) 1 1,fun β=>[bo (fk (β 5)) (.cells #[.q (i:Nat)] 3 (0,0))]⟩) (by kernel_rfl)
      dsimp only [Zb,Za] at m6;exact Mem.dh m6 (by exact .here) I I
     case h1=>
      intro r hr u hu;simp only [ZE] at hr;subst hr;simp only [ZE] at hu;subst hu;rfl
     case hz=>rfl
     case hsz=>rfl
     case hb0=>rfl
     case hb=>simp only [Zbp];omega
     case hd=>rfl
     case hne=>simp
     rw [show ([[Value.int .i64 (i:Nat)]]:List (List Value)).flatten=[.q (i:Nat)] from I,show ([[Value.int .i64 (i:Nat)]]:List (List Value)).length=1 from I];dsimp only [Nat.reduceAdd];refine KR.mi (fun β=>(az (.of I) ae)) vW I I ?_;refine KR.mi (fun β=>(ag (.of I) (At.lit df I))) vW I I ?_;refine KR.mi (fun β=>(Em (.of I) (.of I) (TX (by omega)))) vW I I ?_
     with_reducible apply KR.mi (F:=fun β=>.agg #[.slice (tP (β 6)).1 (xp.length+1) (tP (β 6)).2,.q ((xf:Nat)+1)])
     case hr=>(intro β;exact aU (.o I (.o I .nil)) ak)
     case hi=>exact fun β β' h=>by simp only [h 6 (by kernel_rfl)]
     case hd=>rfl
     case hn=>rfl
     dsimp only [Nat.reduceAdd]
     with_reducible apply KR.GL (V:=fun b=>.w b 1 1) (ob:=fun β=>.cells #[.slice (tP (β 6)).1 (xp.length+1) (tP (β 6)).2,.q ((xf:Nat)+1)] 244 (0,0))
     case hr=>(intro β;exact bB (.o I .nil) I I bR bR ak)
     case hi=>exact fun β β' h=>by simp only [h 6 (by decide) (by kernel_rfl)]
     case hd=>rfl
     case hn=>rfl
     dsimp only [Nat.reduceAdd];refine KR.TK fun β=>?_
     change Tr _ _ _ [bo (fk (β 5)) (.cells #[.q (i:Nat)] 3 (0,0)),row 3 1 (.slice (tP (β 6)).1 (xp.length+1) (tP (β 6)).2) (xp.length+1) (gp xp++[.q (i:Nat)]),bo (fk (β 11)) (.cells #[.slice (tP (β 6)).1 (xp.length+1) (tP (β 6)).2,.q ((xf:Nat)+1)] 244 (0,0)),
      bo l2 (gl rc .busy none),bo Mo (.cells #[Q7] 329 (0,0)),kH 244 2 Q7 (R.length+W.length) (mZ (R++W)),iH Dt,bo TF (.cells #[.w g2 xp.length dB,.q (xf:Nat)] 244 (0,0))] _
     generalize fk (β 5)=b5;generalize fk (β 11)=QU;generalize (tP (β 6)).1=ea;generalize (tP (β 6)).2=ec;refine tD (rs:=[12]) (by kernel_rfl) (by simp) (Zw.2 ⟨?_,fun _ h=>absurd h Zp⟩);refine vL I ?_
     with_reducible apply D5
     case hx=>exact Is.of I
     case hy=>exact Is.of I
     case ht=>exact eG
     case hn=>exact eV.bo bF (show eo [.slice ea (xp.length+1) ec,.q ((xf:Nat)+1)] 0 2=[.slice ea (xp.length+1) ec,.q ((xf:Nat)+1)] from I)
     case hl=>rfl
     case h1=>exact aM I (eL I)
     case hz=>exact I
     case hsz=>exact I
     case hb0=>exact I
     case hb=>omega
     case hd=>rfl
     intro v';refine yl (by exact .here) fun a' ic e OR yR=>?_;subst e;refine Jn ?_;refine tD (rs:=[13]) (by kernel_rfl) (by simp) (Zw.2 ⟨?_,fun _ h=>absurd h Zp⟩);refine vL I ?_
     (refine an (.of I) (.of I) eG I I (eL I) (bG I) ak<|Jn ?_)
     with_reducible refine EF (by kernel_rfl) ?_
     refine qk ?_;refine pE (W:=Dt) ⟨.slice ea (xp.length+1) ec,xp++[i],xf+1⟩ (n:=xp.length+1) (x:=gp xp++[.q (i:Nat)]) kU cA (by simp) (by unfold gp;rw [Zt];rfl) ?_;have U7:mZ (R++(W++[⟨.slice ea (xp.length+1) ec,xp++[i],xf+1⟩]))=mZ (R++W)++[.slice ea (xp.length+1) ec,.q ((xf:Nat)+1)]:=by rw [<- Zh];exact zm (R++W) _
     have U6:R.length+(W++[(⟨.slice ea (xp.length+1) ec,xp++[i],xf+1⟩:Wy)]).length=R.length+W.length+1:=by simp [Nat.add_assoc]
     apply l5 (.slice a' (R.length+W.length+1) ic,W++[⟨.slice ea (xp.length+1) ec,xp++[i],xf+1⟩],Dt++[⟨.slice ea (xp.length+1) ec,xp++[i],xf+1⟩])
     case ht=>exact eG
     case hx=>
      refine ⟨?_,?_,?_,?_⟩
      ·rw [xq,Zt,Zt,hW];rfl
      ·intro z hz;rw [<- Zh] at hz;rcases Zv.1 hz with hz | hz
       ·exact ZC _ (iO z hz)
       ·exact ZT _ hz
      ·intro z hz;rcases Zv.1 hz with hz | hz
       ·exact ia z hz
       ·rw [ZE.1 hz];rfl
      ·exact ZC _ EL
     case h2=>
      show bj _ [bo Mo (.cells #[.slice a' (R.length+W.length+1) ic] 329 (0,0)),kH 244 2 (.slice a' (R.length+W.length+1) ic) (R.length+(W++[(⟨.slice ea (xp.length+1) ec,xp++[i],xf+1⟩:Wy)]).length) (mZ (R++(W++[⟨.slice ea (xp.length+1) ec,xp++[i],xf+1⟩]))),iH (Dt++[⟨.slice ea (xp.length+1) ec,xp++[i],xf+1⟩]),bo TF (.cells #[.w g2 xp.length dB,.q (xf:Nat)] 244 (0,0))] _;rw [U6,U7];exact .cons (.there .here) (.cons (.there .here) (.h1 (.cons bF .nil)))
def ri (r:Ro) (v:Int) (so de:ByteArray):Option (List Nat):=match (fJ r r.po v so).all (oq r de) ((fJ r r.po v so).n+1) [] with
 | []=>none
 | a::l=>some (tV (fJ r r.po v so).lt a l)
theorem yf (h:(fJ r r.po v so).least (oq r de) p):ri r v so de=some p:=by
 unfold ri;split
 ·rename_i e;exact absurd h.2.1 (Wn.all_none e p h.1)
 ·rename_i a l e;rw [Wn.EG (Wn.TB e) h]
theorem yg (h:∀ q,(fJ r r.po v so).ok q->(fJ r r.po v so).fin q≠oq r de):ri r v so de=none:=by
 unfold ri;split
 ·rfl
 ·rename_i a l e;have:=Wn.TB e;exact absurd this.2.1 (h _ this.1)
theorem Nb (h:(fJ r r.po v so).least (oq r de) p):∀ i∈p,i<r.ti.length:=Wn.CC h.1
def qx (r:Ro) (v:Int) (so de:ByteArray):Int:=aW [ew r,DH r v,Rq r so,mB r de]
theorem Io {n:Int} (h0:0<=n) (h1:n<9223372036854775808):IntKind.i64.wrap n=n:=by simp [IntKind.wrap,IntKind.bits,IntKind.signed];omega
theorem zo (h:qx r v so de=0):tY r/\(0<=v/\v<r.lv)/\so∈cG r/\de∈bU r:=by
 unfold qx at h;rw [bS] at h;have h1:=rO (h _ Zr);have h2:=h (DH r v) (by simp);have h3:=(bI (by decide)).1 (h (Rq r so) (by simp));have h4:=(bI (by decide)).1 (h (mB r de) (by simp));have hl:=h1.lim;unfold DH at h2;rw [Io (by omega) (by omega),gC] at h2;rw [decide_eq_false_iff_not,cg,Classical.not_not] at h3 h4;exact ⟨h1,by omega,h3,h4⟩
theorem qQ {s d t p:Value} (v:Int) (so de:ByteArray) {w:World} (h:RR w r s d t p) (cO:kE r):aj T_ 151 [RA r s d t p,.q v,.string so,.string de] w (.q (qx r v so de)):=by
 obtain ⟨h1,h2,h3,h4⟩:=h.one;have dD:∀ w',aK [] w w'->aj T_ 34 [.agg #[.int .i64 r.lv,.int .i64 r.ma,s,d,t,p]] w' (.int .i64 (ew r)):=fun w' hk=>dR (h.keeps hk) cO
 have hle:∀ w',aK [] w w'->aj T_ 114 [.agg #[.q r.lv,.q r.ma,s,d,t,p],.q v] w' (.q (DH r v)):=fun w' hk=>kS v (h.keeps hk)
 have AP:∀ w',aK [] w w'->aj T_ 122 [.agg #[.q r.lv,.q r.ma,s,d,t,p],.string so] w' (.q (Rq r so)):=fun w' hk=>qt so (h.keeps hk)
 have lR:∀ w',aK [] w w'->aj T_ 112 [.agg #[.q r.lv,.q r.ma,s,d,t,p],.string de] w' (.q (mB r de)):=fun w' hk=>dY de (h.keeps hk)
 unfold RA;refine ah func151 I I ?_;refine Jr<|Jy I I fun _ _=>Ja I<|Jn<|Jq ?_
 with_reducible refine cW 12 (by kernel_rfl) ?_
 (refine ao (cK .here) I<|a8 bz I (fun w' aA=>(dD w' (Mem.keeps aA)))<|ao (cK .here) I<|ao lX I<|a8 ba I (fun w' aA=>(hle w' (Mem.keeps aA)))<|ao (cK .here) I<|ao lX I<|a8 ba I (fun w' aA=>(AP w' (Mem.keeps aA)))<|ao (cK .here) I<|ao lX I<|a8 ba I (fun w' aA=>(lR w' (Mem.keeps aA)))<|eC (aC (.o I (.o I (.o I (.o I .nil)))) I I I I) I I ?_)
 with_reducible refine dw I fun bq nf=>?_
 (refine ai bz I (fun w' aA=>(dG (Mem.dh aA .here I I) (cm.cons (cm.cons (cm.cons (cm.cons cm.nil))))))<|Ja I<|Jn<|Je<|JT ?_)
 rfl
theorem Sf {lv:Value} {l:List Nat} {g:Nat->ByteArray} {f:FuncId} {first cap:List Value} [bO T_ f] {w:World} (h:Rd w lv 1 (ints (nz l))) (hn:l.length<=1000000)
  (cJ:∀ i∈l,∀ w',aK [] w w'->aj T_ f (first++[.q (i:Nat)]++cap) w' (.string (g i))) :
  bb T_ 176 [lv,.func (.func f) first.toArray cap.toArray] w [] (fun _:Value=>True) id (fun v=>[row 9 1 v l.length (aJ (l.map g))]):=by
 obtain ⟨a,cp,b,o,rfl,dp,bY,ha,hc⟩:=h;rw [c7,sP] at *;unfold maxLen at bY;refine aT func176 I I ?_;refine Jr<|Ja I<|Ji<|Ja I<|Jn<|Jq<|Jr<|Jv I<|JI I<|Jv I<|Jn<|J0 ?_;refine aP 9 1 ?_;refine a7 (ι:=Nat×Value) (fun x=>x.1<=l.length) (fun x=>[(10,.int .i64 x.1),(9,.int .i64 l.length),(8,.slice a l.length cp),(5,x.2),(1,.func (.func f) first.toArray cap.toArray)]) (fun x=>[row 9 1 x.2 x.1 (aJ ((l.take x.1).map g))]) (fun x=>l.length-x.1) ?_ ?_
 ·apply aI (0,.z) (Zi _)
  case hs1=>exact cu
  case ht=>
   exact .h1 .nil
 rintro ⟨k,v⟩ hk;dsimp only at hk ⊢;by_cases aN:k<l.length
 ·have Xv:k<(nz l).length:=by rw [sP];exact aN
  have cP:=ha (jG Xv);have hgz:(nz l)[k]=((l[k]:Nat):Int):=by simp [nz]
  have c0:w.cell? ⟨b,o+k*1,none⟩=some (.q (l[k]:Nat)):=by rw [<- hgz];exact (hc k _ (iw Xv)).2 0 _ I
  have iz:=cJ _ (Zj aN);have K2:aJ ((l.take (k+1)).map g)=aJ ((l.take k).map g)++[.string (g l[k])]:=by
   rw [Zn aN,Zt,fw];rfl
  have xk:(aJ ((l.take k).map g)).length=k*1:=by rw [dq,Zd,ZaI (by omega),Zap]
  generalize g l[k]=gk at iz K2
  (refine Jr<|JA I<|Jn<|Jq<|Jd I fun ar=>Jk<|Jq<|J0<|Jr<|ab (fZ cP ar) I<|ab (ag (.of I) (At.base c0 I)) I<|Ja I<|Jn<|Jg<|Jv I<|Jv I<|Jv I ?_)
  refine ai bz I (fun w' aA=>(iz w' (Mem.keeps aA))) ?_;refine bu (aC (.o I .nil) I I I I) I (fun _ _=>?_);refine bK (.of I) (.of I) (.there .here) .here ak (by rfl) (eL I) (by rfl) (by rfl) (by rfl) fa (by rfl) ?_;intro v';refine Ja I<|Jx<|Jj<|Jt<|Jg<|JB I (by omega)<|Jv I<|Jn ?_;apply aL (k+1,v') (by show k+1<=l.length;omega) (by show l.length-(k+1)<l.length-k;omega)
  case hs1=>exact cu
  case ht=>
   show bj _ [row 9 1 v' (k+1) (aJ ((l.take (k+1)).map g))] _;rw [K2];exact .h1 .nil
 ·obtain rfl:k=l.length:=by omega
  rw [ZL];refine Jr<|JA I<|Jn<|Jq<|Jc I fun ar=>Jp<|Jl<|Jo<|Jt<|Jr<|Jv I<|Ja I<|Jn<|Je ?_
  with_reducible first|apply aR|apply aS
  case he=>exact dH I I
  case hR=>
   intro w' aA;exact aD v trivial (by exact .h1 .nil) aA I
theorem Ra {s d t p:Value} (i:Nat) (hi:i<r.ti.length) {b1:Nat} {w:World} (h:RR w r s d t p) (hA:BR w b1 (RC r s d t p)) :
  aj T_ 177 [.q (i:Nat),.p b1] w (.string (hP r i)):=by
 have yP:hP r i=(r.ti[i]).nm:=by unfold hP;rw [nj hi]
 have hti:=h.ti;obtain ⟨a,cp,b,o',rfl,dp,bY,ha,hc⟩:=hti;rw [cr] at *;have cP:=ha (fF hi);have aB:=(hc i _ (eO hi)).2;unfold Ti.cells at aB;have c0:=aB 0 _ I;have c4:w.cell? ⟨b1,4,none⟩=some (.slice a r.ti.length cp):=hA 4 _ I;rw [yP];refine ah func177 I I ?_
 (refine Jr<|Ja I<|Ji<|bP I I ae<|ab (ag (.of I) (At.base c4 I)) I<|Jv I<|ab (au (.of I) (.of I) cP (by omega) (by omega) bn) I<|bP I I ae<|ab (ag (.of I) (At.base c0 I)) I<|Ja I<|Jn<|Je<|JT ?_)
 rfl
def GO (r:Ro) (v:Int) (so de:ByteArray):Int:=if qx r v so de≠0 then qx r v so de else if (ri r v so de).isNone then 18 else 0
def DV (r:Ro) (v:Int) (so de:ByteArray):List ByteArray:=if qx r v so de≠0 then [] else ((ri r v so de).getD []).map (hP r)
theorem WW {s d t p:Value} (v:Int) (so de:ByteArray) {w:World} (h:RR w r s d t p) (cO:kE r):bb T_ 70 [RA r s d t p,.q v,.string so,.string de] w [] (fun _:Value=>True) (fun x=>.tuple #[x,.q (GO r v so de)]) (fun x=>[row 9 1 x (DV r v so de).length (aJ (DV r v so de))]):=by
 obtain ⟨h1,h2,h3,h4⟩:=h.one;unfold RA;refine aT func70 I I ?_
 (refine Jr<|Jy I I fun _ _=>Ja I<|Ja I<|Jn<|Jq<|Jr<|ab (cK .here) I<|Jv I<|Jv I<|Jv I ?_)
 rename_i b4 uQ;refine ai wZ I (fun w' aA=>qQ (s:=s) (d:=d) (t:=t) (p:=p) v so de (h.keeps aA.keeps) cO) ?_
 (refine Ja I<|Ji<|Jv I<|JD I<|Jn<|gB I (fun ar=>?_) fun ar=>?_;refine Jr<|Jv I<|Ja I<|Ja I<|Jn<|Ju ?_;rotate_left;refine Jk<|Jr<|ab (cK .here) I<|Jv I<|Jv I<|Jv I ?_;rotate_right)
 ·have e1:DV r v so de=[]:=if_pos ar;have e2:GO r v so de=qx r v so de:=if_pos ar;rw [e1,e2];refine aP 9 1 ?_
  with_reducible first|apply aR|apply aS
  case he=>exact gq I I I
  case hR=>
   intro w' aA;exact aD (.z) trivial (by exact .h1 .nil) aA I
 have e0:qx r v so de=0:=Zq.1 ar;obtain ⟨ee,hv,sT,fH⟩:=zo e0;have e1:DV r v so de=((ri r v so de).getD []).map (hP r):=if_neg ar;have e2:GO r v so de=if (ri r v so de).isNone then 18 else 0:=if_neg ar
 clear ar;rw [e1,e2];refine JN wZ I (fun w1 aG=>PY (s:=s) (d:=d) (t:=t) (p:=p) v so de (h.keeps aG.keeps) ee.uL ee.val ee.Ii sT fH) ?_;rintro ⟨XI,⟨xv,xp,xf⟩,kD⟩ ⟨Xk,TY,U5⟩;dsimp only [Wy.cells] at Xk TY U5 ⊢;dsimp only [id_eq,Zb,Za];cases XI with
 | false =>
  rw [yg (TY I)]
  (refine Jv I<|JJ I I<|JJ I I<|Jz I I fun _ _=>an (.of I) (.of I) .here I I (gJ U5 I) (bG I) ak<|Ja I<|Jn<|Jq<|Jr<|Jv I<|JH I<|Jn<|cL (.of I)<|Jr<|Ja I<|Ja I<|Jn<|Ju ?_)
  refine aP 9 1 ?_
  with_reducible first|apply aR|apply aS
  case he=>exact gq I I I
  case hR=>
   intro w' aA;exact aD (.z) trivial (by exact .h1 .nil) aA I
 | true =>
  obtain ⟨hl,n9⟩:=Xk rfl;rw [yf hl];have hrw:(((some xp).getD []:List Nat).map (hP r)).length=xp.length:=by simp
  rw [hrw];have aN:=Nb hl;have aca:xp.length<=6:=ZX (Wn.vJ hl.1) ee.len.2.2
  (refine Jv I<|JJ I I<|JJ I I<|Jz I I fun _ _=>an (.of I) (.of I) .here I I (gJ U5 I) (bG I) ak<|Ja I<|Jn<|Jq<|Jr<|Jv I<|JH I<|Jn<|bE (.of I)<|Jk<|Jr<|bP I I ae<|JL I .here I<|ab (bD .nil (.o I .nil)) I ?_)
  with_reducible apply jy
  case hr=>exact ba
  case hd=>rfl
  case ht=>exact bj.nil
  case hc=>
   intro w1 fp aG _ hs1;obtain rfl:fp=[]:=hs1;have hA:BR w1 b4 [.int .i64 r.lv,.int .i64 r.ma,s,d,t,p]:=BR.of aG bF;have hR:=h.keeps aG.keeps;have hrd:Rd w1 xv 1 (ints (nz xp)):=by
    rcases n9 with n9 | n9
    ·exact Fi aG (by exact Take.there .here) n9
    ·cases n9;exact Rd.nil w1 1
   exact Sf (f:=177) (g:=hP r) (first:=[]) (cap:=[.p b4]) hrd (by omega) (fun i hi w2 eM=>Ra i (aN i hi) (hR.keeps eM) (hA.keeps eM))
  intro x _;dsimp only [id_eq,Zb,Za];refine Ja I<|Ja I<|Jn<|Je ?_
  with_reducible first|apply aR|apply aS
  case he=>exact gq I I I
  case hR=>
   intro w' aA;exact aD x trivial (by exact .h1 .nil) aA I

def gM (r:Ro) (v:Int) (so:ByteArray):Nat->List Int
  | 0=>[rq r so]
  | k+1=>if xT r v so k&&!(gM r v so k).contains (iI r k).to then gM r v so k++[(iI r k).to] else gM r v so k
theorem Ch (r:Ro) (v:Int) (so:ByteArray):∀ k,(gM r v so k).length<=k+1
  | 0=>Zz _
  | k + 1 => by
    have:=Ch r v so k;unfold gM;split
    · rw [Zg];simp;omega
    · omega
theorem vp (r:Ro) (v:Int) (so:ByteArray):∀ k,(gM r v so k).Nodup
  | 0=>by simp [gM]
  | k + 1 => by
    have:=vp r v so k;unfold gM;split
    · rename_i h
      rw [Zl] at h;rw [ZB];refine ⟨this,by simp,fun a ha b hb e=>?_⟩;rw [ZE] at hb;subst hb;subst e;have:=h.2;rw [Zbq.2 ha] at this;cases this
    · exact this
theorem yA (r:Ro) (v:Int) (so:ByteArray) {m:Int}:∀ {a b:Nat},a<=b->m∈gM r v so a->m∈gM r v so b:=by
  intro a b h
  induction h with
  | refl=>exact id
  | step _ ih =>
    intro hm;have:=ih hm;rw [gM];split
    · exact ZC _ this
    · exact this
theorem Jf (r:Ro) (v:Int) (so:ByteArray) (k:Nat):rq r so∈gM r v so k:=yA r v so (Zi k) (by simp [gM])
theorem NS {k t:Nat} (ht:t<k) (h:xT r v so t=true):(iI r t).to∈gM r v so k:=by
  refine yA r v so (show t+1<=k from ht) ?_;rw [gM];split
  · exact ZT _ (by simp)
  · rename_i hc
    rw [h,Zaz,Zbu,Bool.not_eq_false] at hc;exact Zbq.1 hc
theorem z7 {r:Ro} (ee:tY r) {v:Int} {so:ByteArray} (hs:so∈cG r):∀ k,k<=r.ti.length->∀ m∈gM r v so k,(fJ r r.po v so).Rc m
  | 0, _, m, hm => by
    rw [gM,ZE] at hm;subst hm;rw [<- sA hs];exact Wn.Rc.Fj
  | k + 1, hk, m, hm => by
    rw [gM] at hm;split at hm
    · rename_i h
      rcases Zv.1 hm with hm | hm
      · exact z7 ee hs k (by omega) m hm
      · rw [ZE] at hm
        subst hm;rw [Zl,wM ee.uL ee.val] at h;exact Wn.Rc.ca (N:=fJ r r.po v so) (show k<r.ti.length from hk) h.1
    · exact z7 ee hs k (by omega) m hm
theorem vE (ee:tY r) {v:Int} {so:ByteArray} (hs:so∈cG r) {m:Int} (h:(fJ r r.po v so).Rc m):0<=m/\m<r.ma:=by
  have TZ:∀ i,i<r.ti.length->0<=(iI r i).to/\(iI r i).to<r.ma:=fun i hi=>by
    rw [nj hi];exact (ee.tm _ (Zj hi)).2.1
  cases h with
  | Fj =>
    show 0<=jP r so/\jP r so<r.ma;rw [sA hs];unfold rq;obtain ⟨hl,_⟩:=eF (l:=cG r) (s:=so) (eE hs);have Gd:(bA (cG r) so).toNat<r.sr.length:=by
                                                           have e:(cG r).length=r.sr.length:=by unfold cG;rw [Zd]
                                                           omega
    rw [Zk,Zc Gd];exact ee.sm _ (Zj Gd)
  | ca hi _=>exact TZ _ hi
  | fe hi _ _=>exact TZ _ hi
structure w8 (r:Ro) (v:Int) (so:ByteArray) (L:List Int) (i:Nat):Prop where
  nd:L.Nodup
  rc:∀ m∈L,(fJ r r.po v so).Rc m
  rt:∀ m∈gM r v so r.ti.length,m∈L
  dn:∀ j x,j<i->L[j]? = some x->∀ t,t<r.ti.length->C7 r v x t=true->(iI r t).to∈L
theorem F5 {L:List Int} {n:Nat} (jv:L.Nodup) (h:∀ m∈L,0<=m/\m<(n:Nat)):L.length<=n:=by
  have:=kZ n (L.map Int.toNat) (by
    show List.Pairwise (fun a b=>a≠b) (L.map Int.toNat)
    rw [Zba];refine List.Pairwise.imp_of_mem (fun {a b} ha hb hne e=>hne ?_) jv;have:=h a ha;have:=h b hb;omega) (fun x hx=>by
    obtain ⟨m,hm,rfl⟩:=Zo.1 hx;have:=h m hm;omega)
  rwa [Zd] at this
theorem w8.y6 (ee:tY r) {v:Int} {so:ByteArray} (hs:so∈cG r) {L:List Int} {i:Nat} (h:w8 r v so L i):L.length<=4:=by
  have hl:=ee.lim;refine F5 h.nd fun m hm=>?_;have:=vE ee hs (h.rc m hm);omega
theorem w8.begin (ee:tY r) {v:Int} {so:ByteArray} (hs:so∈cG r):w8 r v so (gM r v so r.ti.length) 0:=
  ⟨vp r v so _,z7 ee hs _ (Zz _),fun _ h=>h,fun j x h=>absurd h (ZR _)⟩
theorem w8.done (ee:tY r) {v:Int} {so:ByteArray} (hs:so∈cG r) {L:List Int} (h:w8 r v so L L.length) (m:Int):m∈L↔(fJ r r.po v so).Rc m:=by
  refine Wn.N2 (S:=fun m=>m∈L) ⟨?_,fun i hi hc=>?_⟩ (fun m hm=>h.rc m hm) m
  · show jP r so∈L
    rw [sA hs];exact h.rt _ (Jf r v so _)
  · rcases hc with hc | ⟨hf,C2⟩
    · rw [<- wM ee.uL ee.val] at hc
      exact h.rt _ (NS hi hc)
    · obtain ⟨j,hj,e⟩:=Zx C2
      refine h.dn j _ hj (Zc hj) i hi ?_;rw [qJ v so,e,hf];simp
def MM (r:Ro) (v:Int) (so:ByteArray) (m:Int):Bool:=!((fJ r r.po v so).all m ((fJ r r.po v so).n+1) []).isEmpty
theorem J6 (r:Ro) (v:Int) (so:ByteArray) (m:Int):MM r v so m=true↔(fJ r r.po v so).Rc m:=by
  unfold MM;rw [Zbu,List.isEmpty_eq_false_iff];constructor
  · intro h
    obtain ⟨q,hq⟩:=List.exists_mem_of_ne_nil _ h;obtain ⟨h1,h2⟩:=Wn.AD (Wn.sN _) hq;rw [<- h2];exact Wn.UH h1
  · intro h e
    obtain ⟨p,hp,hf⟩:=Wn.UU h;exact Wn.all_none e p hp hf
def wA (r:Ro) (v:Int) (so:ByteArray):List Int:=((List.range r.ma.toNat).map fun i:Nat=>(i:Int)).filter (MM r v so)
theorem Dg (r:Ro) (v:Int) (so:ByteArray):(wA r v so).Pairwise (fun a b=>a<b):=by
  unfold wA;refine List.Pairwise.filter _ ?_;rw [Zba];exact List.pairwise_lt_range.imp fun h=>by omega
theorem L4 (ee:tY r) {v:Int} {so:ByteArray} (hs:so∈cG r) {m:Int}:m∈wA r v so↔(fJ r r.po v so).Rc m:=by
  unfold wA;rw [Zy,J6];constructor
  · exact fun h=>h.2
  · intro h
    have:=vE ee hs h;exact ⟨Zo.2 ⟨m.toNat,ZP.2 (by omega),by omega⟩,h⟩
theorem LY (ee:tY r) {v:Int} {so:ByteArray} (hs:so∈cG r) {L S:List Int} (jv:L.Nodup) (hL:∀ m,m∈L↔(fJ r r.po v so).Rc m) (hp:S.Perm L) (OM:S.Pairwise (fun a b=>a<=b)):S=wA r v so:=by
  have hSn:S.Nodup:=hp.nodup_iff.2 jv;have hSs:S.Pairwise (fun a b=>a<b):=(OM.and hSn).imp fun ⟨h1,h2⟩=>by omega
  refine oB (R:=fun a b:Int=>a<b) (fun a b h h'=>by omega) hSs (Dg r v so) ?_;refine (ZaK hSn ((Dg r v so).imp fun h=>by omega)).2 fun m=>?_;rw [hp.mem_iff,hL,L4 ee hs]
end Go.Proofs.A1
namespace Go.Proofs
open Go.Shelf
def Tryz.CM:Go.Shelf.Ren:=⟨fun | 189=>156 | 125=>245 | 257=>244 | 128=>312 | 129=>313 | 294=>303 | 295=>304 | 296=>305 | 297=>306 | 298=>307 | 299=>308 | 216=>309 | 300=>310 | 301=>311 | 328=>343 | 329=>344 | 330=>345 | 331=>346 | 332=>347 | 215=>342 | 343=>367 | n=>n,fun | 28=>49 | 3=>3 | 46=>318 | 0=>0 | 51=>381 | 53=>383 | 4=>4 | 183=>374 | 182=>373 | 131=>272 | 5=>5 | 9=>9 | 218=>409 | 222=>413 | 228=>428 | 229=>359 | n=>n,fun | n=>n⟩
theorem Tryz.F2:Go.Proofs.Lays.n189 Tryz.prog Tryz.CM:={
 mixed:=by kernel_rfl
 f125:=Tryz.func245.trans (congrArg some (by kernel_rfl))
 f128:=Tryz.func312.trans (congrArg some (by kernel_rfl))
 f129:=Tryz.func313.trans (congrArg some (by kernel_rfl))
 f189:=Tryz.func156.trans (congrArg some (by kernel_rfl))
 f215:=Tryz.func342.trans (congrArg some (by kernel_rfl))
 f216:=Tryz.func309.trans (congrArg some (by kernel_rfl))
 f257:=Tryz.func244.trans (congrArg some (by kernel_rfl))
 f294:=Tryz.func303.trans (congrArg some (by kernel_rfl))
 f295:=Tryz.func304.trans (congrArg some (by kernel_rfl))
 f296:=Tryz.func305.trans (congrArg some (by kernel_rfl))
 f297:=Tryz.func306.trans (congrArg some (by kernel_rfl))
 f298:=Tryz.func307.trans (congrArg some (by kernel_rfl))
 f299:=Tryz.func308.trans (congrArg some (by kernel_rfl))
 f300:=Tryz.func310.trans (congrArg some (by kernel_rfl))
 f301:=Tryz.func311.trans (congrArg some (by kernel_rfl))
 f328:=Tryz.func343.trans (congrArg some (by kernel_rfl))
 f329:=Tryz.func344.trans (congrArg some (by kernel_rfl))
 f330:=Tryz.func345.trans (congrArg some (by kernel_rfl))
 f331:=Tryz.func346.trans (congrArg some (by kernel_rfl))
 f332:=Tryz.func347.trans (congrArg some (by kernel_rfl))
 f343:=Tryz.func367.trans (congrArg some (by kernel_rfl))
 t0:=Tryz.underlying0
 a0:=Tryz.isAgg0
 z0:=Tryz.sizeOf0
 v0:=Tryz.zeroValue0
 t3:=Tryz.underlying3
 a3:=Tryz.isAgg3
 z3:=Tryz.sizeOf3
 v3:=Tryz.zeroValue3
 t4:=Tryz.underlying4
 a4:=Tryz.isAgg4
 z4:=Tryz.sizeOf4
 v4:=Tryz.zeroValue4
 t5:=Tryz.underlying5
 a5:=Tryz.isAgg5
 z5:=Tryz.sizeOf5
 v5:=Tryz.zeroValue5
 t9:=Tryz.underlying9
 a9:=Tryz.isAgg9
 z9:=Tryz.sizeOf9
 v9:=Tryz.zeroValue9
 t28:=Tryz.underlying49
 a28:=Tryz.isAgg49
 z28:=Tryz.sizeOf49
 v28:=Tryz.zeroValue49
 t46:=Tryz.underlying318
 a46:=Tryz.isAgg318
 z46:=Tryz.sizeOf318
 v46:=Tryz.zeroValue318
 t51:=Tryz.underlying381
 a51:=Tryz.isAgg381
 z51:=Tryz.sizeOf381
 v51:=Tryz.zeroValue381
 t53:=Tryz.underlying383
 a53:=Tryz.isAgg383
 z53:=Tryz.sizeOf383
 v53:=Tryz.zeroValue383
 t131:=Tryz.underlying272
 a131:=Tryz.isAgg272
 z131:=Tryz.sizeOf272
 v131:=Tryz.zeroValue272
 t182:=Tryz.underlying373
 a182:=Tryz.isAgg373
 z182:=Tryz.sizeOf373
 v182:=Tryz.zeroValue373
 t183:=Tryz.underlying374
 a183:=Tryz.isAgg374
 z183:=Tryz.sizeOf374
 v183:=Tryz.zeroValue374
 t218:=Tryz.underlying409
 a218:=Tryz.isAgg409
 z218:=Tryz.sizeOf409
 v218:=Tryz.zeroValue409
 t222:=Tryz.underlying413
 a222:=Tryz.isAgg413
 z222:=Tryz.sizeOf413
 v222:=Tryz.zeroValue413
 t228:=Tryz.underlying428
 a228:=Tryz.isAgg428
 z228:=Tryz.sizeOf428
 v228:=Tryz.zeroValue428
 t229:=Tryz.underlying359
 a229:=Tryz.isAgg359
 z229:=Tryz.sizeOf359
 v229:=Tryz.zeroValue359 }
open Go.Sort Go.RowKit in
theorem Tryz.slices_Sort_int (bo off cap:Nat) (zs:List Int) (w:World) (hH:Holds (Value.int .i64) w bo off zs.toArray) (hblk:bo<w.heap.size) (hsz:zs.length<4611686018427387904) :
  Calls Tryz.prog 156 #[.slice (some ⟨bo,off,none⟩) zs.length cap] w fun e w'=>
   e=.returned (.tuple #[])/\∃ n os,w'=grow (putRow (Value.int .i64) (Sort.ahead w n) bo off (zs.mergeSort fun x y=>decide (x<=y)).toArray) os:=Any.slices_Sort_int Tryz.F2 bo off cap zs w hH hblk hsz
end Go.Proofs
namespace Go.Proofs.A1
open Go Go.SL
open Tryz
open Tryz renaming prog->T_
theorem OB (l:List Int):∀ r∈ints l,r.length=1:=fun r hr=>by obtain ⟨x,_,rfl⟩:=Zo.1 hr;rfl
theorem kP {c:Cx} {hs hs':List bd} {w:World} {l:List Int} {E:TypeId} {v:Value} {n:Nat} (hm:Mem c hs w) (ht:Take hs (row E 1 v n (l.map (Value.int .i64))) hs') (hn:l.length=n):Rd w v 1 (ints l):=hm.qm ht (yO l) (OB l) (by rw [c7,hn])
set_option maxHeartbeats 1000000 in
theorem FM {r:Ro} {s d t p:Value} (v:Int) (so:ByteArray) {w:World} (h:RR w r s d t p) (cO:r.ti.length<=1000) (SB:so∈cG r) :
  bb T_ 152 [RA r s d t p,.q v,.string so] w [] (fun _:Value=>True) id (fun x=>[row 3 1 x (gM r v so r.ti.length).length ((gM r v so r.ti.length).map (Value.int .i64))]):=by
 obtain ⟨h1,h2,h3,h4⟩:=h.one;have hti:=h.ti;obtain ⟨a,cp,b,o',rfl,dp,bY,ha,hc⟩:=hti;have Sy:=h.sr;obtain ⟨a2,oy,b2,o2,rfl,ki,fB,jT,jS⟩:=Sy;rw [cr] at *;rw [cR] at *;unfold maxLen at bY fB;obtain ⟨i0,Bz⟩:∃ i:Nat,bA (cG r) so=(i:Nat):=⟨(bA (cG r) so).toNat,by have:=eE SB;omega⟩;have Li:i0<r.sr.length:=by
  obtain ⟨hl,_⟩:=eF (l:=cG r) (s:=so) (by omega);rw [Bz,ZF] at hl;unfold cG at hl;rwa [Zd] at hl
 have sU:rq r so=(r.sr[i0]).mx:=by unfold rq;rw [Bz,ZF,Zk,Zc Li];rfl
 have hsrc:∀ w',aK [] w w'->aj T_ 180 [.agg #[.q r.lv,.q r.ma,.slice a2 r.sr.length oy,d,.slice a r.ti.length cp,p],.string so] w' (.q (i0:Nat)):=fun w' hk=>Bz ▸ oE so (h.keeps hk)
 have ui:=jT (iK Li);have eZ:=(jS i0 _ (fY Li)).2;unfold Sr.cells at eZ;have T5:=eZ 1 _ I;unfold RA;refine aT func152 I I ?_;refine Jr<|Jy I I fun _ _=>Ja I<|Jn<|Jq ?_;rename_i b3 uR
 with_reducible refine cW 9 (by kernel_rfl) ?_
 (refine ao lf I<|ao (ie .here) I<|ao (cK .here) I<|ao lX I<|a8 ba I (fun w' aA=>(hsrc w' (Mem.keeps aA)))<|ao (au (.of I) (.of I) ui (by omega) (by omega) bn) I<|ao lf I<|ao (ag (.of I) (At.base T5 I)) I<|eC (aC (.o I .nil) I I I I) I I ?_)
 with_reducible refine dw I fun bq nf=>?_
 rw [<- sU]
 (refine Ja I<|Jn<|Jq<|Jr<|bP I I ae<|JL I (.there .here) I<|JI I<|Jv I<|Jn<|J0 ?_)
 refine ch (g:=bq) (E:=3) (ys:=[.q (rq r so)]) 1 1 (by exact .here) I I I ?_
 refine a7 (ι:=Nat×Value) (fun x=>x.1<=r.ti.length) (fun x=>[(22,.q (x.1:Nat)),(21,.q (r.ti.length:Nat)),(20,.slice a r.ti.length cp),(7,x.2),(3,.p b3),(1,.q v),(2,.string so)])
  (fun x=>[row 3 1 x.2 (gM r v so x.1).length ((gM r v so x.1).map (Value.int .i64)),JP b3 r (.slice a2 r.sr.length oy) d (.slice a r.ti.length cp) p]) (fun x=>r.ti.length-x.1) ?_ ?_
 ·apply aI (0,.w bq 1 1) (Zi _)
  case hs1=>exact cu
  case ht=>
   exact .h2 .nil
 rintro ⟨k,ov⟩ hk;dsimp only at hk ⊢;have YC:=Ch r v so k;by_cases aN:k<r.ti.length
 ·have cP:=ha (fF aN);have aB:=(hc k _ (eO aN)).2;unfold Ti.cells at aB;have AN:=nj aN;have yP:hP r k=(r.ti[k]).nm:=by unfold hP;rw [AN]
  have YA:gM r v so (k+1)=if xT r v so k&&!(gM r v so k).contains (r.ti[k]).to then gM r v so k++[(r.ti[k]).to] else gM r v so k:=by rw [gM,AN]
  generalize hL:gM r v so k=L at YC YA ⊢;have HL:L.length=L.length:=rfl;have C3:∀ w',aK [] w w'->aj T_ 121 [.agg #[.q r.lv,.q r.ma,.slice a2 r.sr.length oy,d,.slice a r.ti.length cp,p],.q v,.string (r.ti[k]).nm] w' (.bool (ig r.po v (r.ti[k]).nm)):=fun w' hk=>qS v _ (h.keeps hk)
  have BB:∀ w',aK [] w w'->aj T_ 126 [.agg #[.q r.lv,.q r.ma,.slice a2 r.sr.length oy,d,.slice a r.ti.length cp,p],.q v,.string (r.ti[k]).nm] w' (.string (k8 r v (r.ti[k]).nm)):=fun w' hk=>pY v _ (h.keeps hk) (by omega)
  have Lq:∀ (w':World),Rd w' ov 1 (ints L)->aj T_ 154 [ov,.q (r.ti[k]).to] w' (.bool (L.contains (r.ti[k]).to)):=fun w' hr=>lF _ hr
  have skip:(xT r v so k&&!L.contains (r.ti[k]).to)=false->gM r v so (k+1)=L:=fun e=>by rw [YA,e];rfl
  cases BD:ig r.po v (r.ti[k]).nm with
  | false =>
   have C4:∀ w',aK [] w w'->aj T_ 121 [.agg #[.q r.lv,.q r.ma,.slice a2 r.sr.length oy,d,.slice a r.ti.length cp,p],.q v,.string (r.ti[k]).nm] w' (.bool false):=fun w' hk=>BD ▸ C3 w' hk
   have Vi:=skip (by unfold xT;rw [yP,BD];rfl)
   (refine Jr<|JA I<|Jn<|Jq<|Jd I fun ar=>Jk<|Jq<|J0<|Jr<|ab (fZ cP ar) I<|ab (iA (eV.base aB I)) I<|Jz I I fun _ _=>an (.of I) (.of I) .here I I (fq I I I) (bG I) ak<|Ji<|ab (cK bF) I<|Jv I<|bP I I ae<|JL I .here I<|ai eK I (fun w' aA=>(C4 w' (Mem.keeps aA)))<|Jv I<|aF I I (fun hg bT=>(bV (.of I) bF ak (by rfl))) I<|iT I I I I<|aF I I (fun hg bT=>(az (.of I) ae)) I<|aF I I (fun hg bT=>(ag (.cD bT I) (At.lit .here I))) I<|dx I I I I<|iT I I I I<|dx I I I I<|ab (cV (.of I) (.of I) (.of I) I) I<|Jv I<|iT I I I I<|aF I I (fun hg bT=>(az (.of I) ae)) I<|aF I I (fun hg bT=>(ag (.cD bT I) (At.lit .here I))) I<|dx I I I I<|aF I I (fun hg bT=>(dX (.cD bT I))) I<|ab (cV (.of I) (.of I) (.of I) I) I<|Jn<|bE (.of I)<|Jw<|Jj<|Jt<|Jg<|JB I (by omega)<|Jv I<|Jn ?_)
   apply aL (k+1,ov) (show k+1<=r.ti.length by omega) (show r.ti.length-(k+1)<r.ti.length-k by omega)
   case hs1=>exact cu
   case ht=>
    rw [Vi];exact .cons (.there .here) (.cons (.there .here) .nil)
  | true =>
   have C4:∀ w',aK [] w w'->aj T_ 121 [.agg #[.q r.lv,.q r.ma,.slice a2 r.sr.length oy,d,.slice a r.ti.length cp,p],.q v,.string (r.ti[k]).nm] w' (.bool true):=fun w' hk=>BD ▸ C3 w' hk
   by_cases AP:k8 r v (r.ti[k]).nm=so
   ·cases HI:L.contains (r.ti[k]).to with
    | true =>
     have O4:∀ (w':World),Rd w' ov 1 (ints L)->aj T_ 154 [ov,.q (r.ti[k]).to] w' (.bool true):=fun w' hr=>HI ▸ Lq w' hr
     have Vi:=skip (by rw [HI,Bool.not_true,Bool.and_false])
     (refine Jr<|JA I<|Jn<|Jq<|Jd I fun ar=>Jk<|Jq<|J0<|Jr<|ab (fZ cP ar) I<|ab (iA (eV.base aB I)) I<|Jz I I fun _ _=>an (.of I) (.of I) .here I I (fq I I I) (bG I) ak<|Ji<|ab (cK bF) I<|Jv I<|bP I I ae<|JL I .here I<|ai eK I (fun w' aA=>(C4 w' (Mem.keeps aA)))<|Jv I<|JK I I<|ab (cK bF) I<|JK I I<|Jv I<|JK I I<|bP I I ae<|JK I I<|JL I .here I<|JK I I<|ai eK I (fun w' aA=>(BB w' (Mem.keeps aA)))<|JK I I<|Jv I<|JK I I<|ab (vu (.of I) (.of I) AP) I<|ab (eW (.of I) (.of I) (.of I) I) I<|Jv I<|JK I I<|Jv I<|JK I I<|bP I I ae<|JK I I<|JL I .here I<|JK I I<|ai ba I (fun w' aA=>(O4 w' (kP aA (.there .here) HL)))<|JK I I<|JH I<|ab (cV (.of I) (.of I) (.of I) I) I<|Jn<|bE (.of I)<|Jw<|Jj<|Jt<|Jg<|JB I (by omega)<|Jv I<|Jn ?_)
     apply aL (k+1,ov) (show k+1<=r.ti.length by omega) (show r.ti.length-(k+1)<r.ti.length-k by omega)
     case hs1=>exact cu
     case ht=>
      rw [Vi];exact .cons (.there .here) (.cons (.there .here) .nil)
    | false =>
     have O4:∀ (w':World),Rd w' ov 1 (ints L)->aj T_ 154 [ov,.q (r.ti[k]).to] w' (.bool false):=fun w' hr=>HI ▸ Lq w' hr
     have re:gM r v so (k+1)=L++[(r.ti[k]).to]:=by rw [YA,HI];unfold xT;rw [yP,BD,decide_eq_true AP];rfl
     have SP:(L.map (Value.int .i64)).length=L.length*1:=by rw [Zd,Zap]
     (refine Jr<|JA I<|Jn<|Jq<|Jd I fun ar=>Jk<|Jq<|J0<|Jr<|ab (fZ cP ar) I<|ab (iA (eV.base aB I)) I<|Jz I I fun _ _=>an (.of I) (.of I) .here I I (fq I I I) (bG I) ak<|Ji<|ab (cK bF) I<|Jv I<|bP I I ae<|JL I .here I<|ai eK I (fun w' aA=>(C4 w' (Mem.keeps aA)))<|Jv I<|JK I I<|ab (cK bF) I<|JK I I<|Jv I<|JK I I<|bP I I ae<|JK I I<|JL I .here I<|JK I I<|ai eK I (fun w' aA=>(BB w' (Mem.keeps aA)))<|JK I I<|Jv I<|JK I I<|ab (vu (.of I) (.of I) AP) I<|ab (eW (.of I) (.of I) (.of I) I) I<|Jv I<|JK I I<|Jv I<|JK I I<|bP I I ae<|JK I I<|JL I .here I<|JK I I<|ai ba I (fun w' aA=>(O4 w' (kP aA (.there .here) HL)))<|JK I I<|JH I<|ab (eW (.of I) (.of I) (.of I) I) I<|Jn<|cL (.of I)<|Jg<|Jv I<|bP I I ae<|JL I .here I<|bu (aC (.o I .nil) I I I I) I fun _ _=>?_)
     refine bK (.of I) (.of I) bF .here ak (by rfl) (eL I) (by rfl) (by rfl) (by rfl) fa (by rfl) ?_;intro v';refine Ja I<|Jx<|Jj<|Jt<|Jg<|JB I (by omega)<|Jv I<|Jn ?_;apply aL (k+1,v') (show k+1<=r.ti.length by omega) (show r.ti.length-(k+1)<r.ti.length-k by omega)
     case hs1=>exact cu
     case ht=>
      rw [re,Zg,Zt];exact .h1 (.cons bF .nil)
   ·have Vi:=skip (by unfold xT;rw [yP,BD,decide_eq_false AP];rfl)
    (refine Jr<|JA I<|Jn<|Jq<|Jd I fun ar=>Jk<|Jq<|J0<|Jr<|ab (fZ cP ar) I<|ab (iA (eV.base aB I)) I<|Jz I I fun _ _=>an (.of I) (.of I) .here I I (fq I I I) (bG I) ak<|Ji<|ab (cK bF) I<|Jv I<|bP I I ae<|JL I .here I<|ai eK I (fun w' aA=>(C4 w' (Mem.keeps aA)))<|Jv I<|JK I I<|ab (cK bF) I<|JK I I<|Jv I<|JK I I<|bP I I ae<|JK I I<|JL I .here I<|JK I I<|ai eK I (fun w' aA=>(BB w' (Mem.keeps aA)))<|JK I I<|Jv I<|JK I I<|ab (Cq (.of I) (.of I) AP) I<|ab (cV (.of I) (.of I) (.of I) I) I<|Jv I<|iT I I I I<|aF I I (fun hg bT=>(az (.of I) ae)) I<|aF I I (fun hg bT=>(ag (.cD bT I) (At.lit .here I))) I<|dx I I I I<|aF I I (fun hg bT=>(dX (.cD bT I))) I<|ab (cV (.of I) (.of I) (.of I) I) I<|Jn<|bE (.of I)<|Jw<|Jj<|Jt<|Jg<|JB I (by omega)<|Jv I<|Jn ?_)
    apply aL (k+1,ov) (show k+1<=r.ti.length by omega) (show r.ti.length-(k+1)<r.ti.length-k by omega)
    case hs1=>exact cu
    case ht=>
     rw [Vi];exact .cons (.there .here) (.cons (.there .here) .nil)
 ·obtain rfl:k=r.ti.length:=by omega
  refine Jr<|JA I<|Jn<|Jq<|Jc I fun ar=>Jp<|Jl<|Jo<|Jt<|Jr<|Jv I<|Ja I<|Jn<|Je ?_
  with_reducible first|apply aR|apply aS
  case he=>exact dH I I
  case hR=>
   intro w' aA;exact aD ov trivial (by exact .h1 .nil) aA I
end Go.Proofs.A1
