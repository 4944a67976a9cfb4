/- Parts of the proof: GkRegK GkRegL GkRegR GkRegS KJ KL KM KNq TryzSort. -/
import Derived.Test.YteonnodafmegaaaGreatDoorKM06
import Derived.Test.YteonnodafmegaaaGreatDoorKM07
import Derived.Test.YteonnodafmegaaaGreatDoorKM04
import Derived.Test.YteonnodafmegaaaGreatDoorKM03
import Derived.Test.YteonnodafmegaaaGreatDoorKM02
import Derived.Shelf.Sort.Plain
import Derived.Ground.NamesProg
import Derived.Ground.Names2Prog
import Derived.Test.YteonnodafmegaaaGreatDoorProg
set_option linter.unusedSectionVars false
set_option linter.unusedVariables false
set_option linter.unusedSimpArgs false
namespace Go.SL
open Go
theorem Mem.yG {c:Cx} {As hs':List bh} {w:World} (hm:Mem c (As++hs') w):∃ fp:List Nat,fp.Nodup/\cA (hp w) As fp /\
  ∀ (Bs:List bh) (w':World),aH fp w w'->(∃ lO:List Nat,lO.Nodup/\cA (hp w') Bs lO/\∀ b∈lO,b∈fp\/w.heap.size<=b)->Mem c (Bs++hs') w':=by
 obtain ⟨kk,fp,hn,gY,hb⟩:=hm;obtain ⟨f1,f2,rfl,h1,h2⟩:=cA.append_iff.1 gY;obtain ⟨n1,n2,n12⟩:=Zx.1 hn;refine ⟨f1,n1,h1,fun Bs w' hk ⟨lO,uW,hs',zi⟩=>?_⟩;have aN:∀ b∈f2,b<w.heap.size:=fun b dK=>let ⟨o,ho⟩:=h2.own b dK;ko ho
 refine ⟨?_,lO++f2,?_,cA.append_iff.2 ⟨lO,f2,I,hs',h2.loc fun b dK=>?_⟩,?_⟩
 ·refine ⟨hk.os.trans kk.os,hk.tape.trans kk.tape,hk.output.trans kk.output,ZZ kk.dr hk.dr,ZZ kk.size hk.size,fun b dK hm=>?_⟩;rw [<- kk.block b dK hm];refine hk.block b (ZaJ dK kk.size) (fun hf=>?_);rcases hb b (ZD _ hf) with h | h
  ·omega
  ·exact hm h
 ·refine Zx.2 ⟨uW,n2,fun x hx y hy e=>?_⟩;subst e;rcases zi x hx with h | h
  ·exact n12 x h x hy I
  ·have:=aN x hy;omega
 ·exact hk.block b (aN b dK) (fun hf=>n12 b hf b dK I)
 ·intro b dK;rcases Zq.1 dK with h | h
  ·rcases zi b h with h | h
   ·exact hb b (ZD _ h)
   ·exact .inl (ZZ kk.size h)
  ·exact hb b (ZM _ h)
theorem qy {β:Nat->Value} (p q:Nat->Bool):∀ (S:List cj) (i:Nat),(dM β p S i).Perm (dM β (fun j=>p j&&q j) S i++dM β (fun j=>p j&&!q j) S i)
 | [],_=>.nil
 | s :: S, i => by
  have ih:=qy (β:=β) p q S (i+1);unfold dM;cases hp:p i <;> cases hq:q i <;> simp only [Bool.and_true,Zbv,Bool.not_true,Bool.not_false,Bool.false_and,Zav,if_true,if_false,Za,reduceIte]
  ·simpa using ih
  ·simpa using ih
  ·simp only [ZaW,if_false,Za];refine (ih.append_left _).trans ?_;rw [<- Zh,<- Zh];exact List.perm_append_comm.append_right _
  ·simp only [ZaW,if_false,Za];rw [Zh];exact ih.append_left _
theorem oH {β:Nat->Value} {q:Nat->Bool}:∀ {S:List cj} {n i:Nat},(∀ j,i+n<=j->q j=false)->dM β q S i=dM β q (S.take n) i
 | [],n,i,_=>by rw [List.take_nil]
 | s :: S, 0, i, h => by
  rw [Ze];unfold dM;rw [h i (by omega),oH (n:=0) fun j hj=>h j (by omega),Ze];rfl
 | s :: S, n + 1, i, h => by
  rw [List.take_succ_cons];unfold dM;rw [oH (n:=n) (i:=i+1) fun j hj=>h j (by omega)]
def pk (tk:Nat->Nat) (lst:Nat->Bool) (j:Nat):Bool:=lst j&&!(Nat.blt 0 (tk j)&&lst (tk j))
def dW (tk:Nat->Nat) (i j:Nat):Bool:=Nat.blt 0 i&&Nat.beq (tk j) i
section
variable {P:Program} {c:Cx} {D:List Nat} {sl:aD} {hs:List bh} {Q:Exit->Act->World->Prop} {l:List Oper} {m:Nat} {tk:Nat->Nat}
def zy (i:Nat) (s:cj) (β:Nat->Value) (w:World) (oZ:List Nat) (v:Value) (w':World):Prop:=∃ x,v=s.F (uE β i x)/\aH oZ w w'/\∃ fp:List Nat,fp.Nodup/\cA (hp w') (s.A (uE β i x)) fp/\∀ b∈fp,b∈oZ\/w.heap.size<=b
structure LZ (P:Program) (c:Cx) (hs:List bh) (l:List Oper) (tk:Nat->Nat) (i:Nat) (o:Oper) (SL:(Nat->Value)->aD) (S:List cj) (s:cj):Prop where
 xQ:lI l i s.F
 xR:lI l i s.A
 run:∃ B:List Nat,(∀ j∈B,jZ l o j=true/\tk j=0)/\∀ β a w oZ,bW (SL β) a->jm c hs S B β w->cA (hp w) (dM β (dW tk i) S 0) oZ->if Region.wanted o (yielded l.toArray a.tmps)=true then od P o a w (zy i s β w oZ) else zy i s β w oZ undef w
 waits:∀ j,tk j=i->0<i->dR o j=true
inductive xl (P:Program) (c:Cx) (hs:List bh) (l:List Oper) (tk:Nat->Nat):Nat->List Oper->((Nat->Value)->aD)->List cj->List cj->((Nat->Value)->aD)->Prop
 | nil {i:Nat} {SL:(Nat->Value)->aD} {S:List cj}:xl P c hs l tk i [] SL S S SL
 | step {i d:Nat} {o:Oper} {rest:List Oper} {SL kJ:(Nat->Value)->aD} {S S':List cj} {s:cj} (hd:o.dst=some d) (fF:d<c.nt) (h:LZ P c hs l tk i o SL S s)
   (t:xl P c hs l tk (i+1) rest (fun β=>(d,s.F β)::SL β) (S++[s]) S' kJ):xl P c hs l tk i (o::rest) SL S S' kJ
theorem xl.spec {i:Nat} {rest:List Oper} {SL kJ:(Nat->Value)->aD} {S S':List cj} (h:xl P c hs l tk i rest SL S S' kJ):∀ pre:List Oper,pre.length=i->S.length=i->jP sl pre SL S ->
  S'.length=i+rest.length/\S <+: S'/\jP sl (pre++rest) kJ S'/\∀ k o,i<=k->(pre++rest)[k]? = some o->∃ d C8 s,o.dst=some d/\d<c.nt/\S'[k]? = some s/\jP sl ((pre++rest).take k) C8 (S'.take k)/\LZ P c hs l tk k o C8 (S'.take k) s:=by
 induction h with
 | @nil i SL S =>
  intro pre hp hS jI;refine ⟨by simpa using hS,List.prefix_rfl,by simpa using jI,fun k o hk ho=>?_⟩;have:=(Zl.1 ho).1;simp at this;omega
 | @step i d o rest SL kJ S S' s hd fF bj t ih =>
  intro pre hp hS jI;obtain ⟨h1,h2,h3,h4⟩:=ih (pre++[o]) (by simp [hp]) (by simp [hS]) (jI.step (by omega) hd);rw [Zh,List.singleton_append] at h3 h4;have FH:S <+: S':=(ZaL S [s]).trans h2;have qJ:S'[i]? = some s:=by
   obtain ⟨r,rfl⟩:=h2;rw [Zh,ZI (by omega),hS];simp
  have Vm:S'.take i=S:=by
   obtain ⟨r,rfl⟩:=FH;rw [<- hS];simp
  refine ⟨by rw [h1];simp;omega,FH,h3,fun k ok hk ho=>?_⟩;by_cases e:k=i
  ·subst e;have Di:ok=o:=by
    rw [ZI (by omega),hp] at ho;simpa using ho.symm
   subst Di;have htk:(pre++ok::rest).take k=pre:=by rw [<- hp];simp
   rw [htk,Vm];exact ⟨d,SL,s,hd,fF,qJ,jI,bj⟩
  ·exact h4 k ok (by omega) ho
structure Wi (c:Cx) (D:List Nat) (hs:List bh) (l:List Oper) (tk:Nat->Nat) (m:Nat) (S:List cj) (a0:Act) (fuel:Nat) (listed:Array Bool) (a:Act) (w:World):Prop where
 sz:listed.size=l.length
 dc:DC l (Ls listed)
 hi:∀ k,m<=k->¬ Ls listed k
 defers:a.defers=D.map mark
 size:a.tmps.size=c.nt
 Bo:∀ t,(∀ (j:Nat) (o:Oper),l[j]? = some o->Ls listed j->o.dst≠some t)->a.tmps[t]? = a0.tmps[t]?
 left:∃ U:List Nat,U.Nodup/\(∀ i,i∈U↔i<l.length/\¬ Ls listed i)/\U.length=fuel
 own:∃ β:Nat->Value,Mem c (dM β (pk tk (fun i=>listed.getD i false)) S 0++(hs++mN D)) w/\∀ (j:Nat) (o:Oper) (d:Nat) (s:cj),l[j]? = some o->o.dst=some d->S[j]? = some s->Ls listed j->a.tmps[d]? = some (s.F β)
end
end Go.SL
namespace Go.SL
open Go
def gD:List (Nat×Nat)->Nat->Nat
 | [],_=>0
 | p::r,j=>bif Nat.beq p.1 j then p.2 else gD r j
theorem pE:∀ {lJ:List (Nat×Nat)} {i j:Nat},(lJ.all fun p=>!Nat.beq p.2 i)=true->gD lJ j=i->0<i->False
 | [], i, j, _, h, hp => by
  have h:0=i:=h;omega
 | p :: r, i, j, h, h2, hp => by
  rw [List.all_cons,Zm] at h;unfold gD at h2;cases e:Nat.beq p.1 j with
  | true=>rw [e] at h2;have h2:p.2=i:=h2;rw [h2] at h;simp at h
  | false=>rw [e] at h2;exact pE h.2 h2 hp
theorem pD:∀ {lJ:List (Nat×Nat)} {i jx:Nat},(lJ.all fun p=>!Nat.beq p.2 i||Nat.beq p.1 jx)=true->Nat.blt 0 i=true->∀ k,gD lJ k=i->k=jx
 | [], i, jx, _, h0, k, h => by
  have h:0=i:=h;subst h;cases h0
 | p :: r, i, jx, h, h0, k, hk => by
  rw [List.all_cons,Zm] at h;unfold gD at hk;cases e:Nat.beq p.1 k with
  | true =>
   rw [e] at hk;have hk:p.2=i:=hk;have h1:=h.1;rw [hk,show Nat.beq i i=true by simp] at h1;have e1:=Z3 e;have e2:=Z3 (show Nat.beq p.1 jx=true by simpa using h1);omega
  | false=>rw [e] at hk;exact pD h.2 h0 k hk
section
variable {P:Program} {c:Cx} {D:List Nat} {sl:aD} {hs hs':List bh} {X:Act->World->Prop} {Q:Exit->Act->World->Prop} {l:List Oper} {m i n d:Nat} {lJ:List (Nat×Nat)} {op:Op} {ty:TypeId} {pos:String} {af:Array Edge} {rest:List Oper} {SL:(Nat->Value)->aD} {S:List cj}
theorem vD {β:Nat->Value} {p:Nat->Bool} {s:cj}:∀ {S:List cj} {i jx:Nat},S[jx]? = some s->(∀ k,p k=Nat.beq k (i+jx))->dM β p S i=s.A β
 | [],_,_,h,_=>by simp at h
 | s0 :: S, i, 0, h, hp => by
  simp only [Zaz,Option.some.injEq] at h;subst h;unfold dM;rw [hp i,show Nat.beq i (i+0)=true by simp,if_pos I];have:dM β p S (i+1)=[]:=by
   have h:=oH (β:=β) (q:=p) (S:=S) (n:=0) (i:=i+1) fun j hj=>by
    rw [hp j];exact Zau.2 fun e=>by have:=Z3 e;omega
   rw [h,Ze];rfl
  rw [this,ZQ]
 | s0 :: S, i, jx + 1, h, hp => by
  unfold dM;rw [hp i,show Nat.beq i (i+(jx+1))=false from Zau.2 fun e=>by have:=Z3 e;omega]
  simp only [ZaW,if_false,Za];exact vD (i:=i+1) (jx:=jx) (by simpa using h) fun k=>by rw [hp k,show i+(jx+1)=i+1+jx by omega]
end
end Go.SL
namespace Go.SL.KR
open Go Go.SL
section
variable {P:Program} {c:Cx} {D:List Nat} {sl:aD} {hs:List bh} {Q:Exit->Act->World->Prop} {l:List Oper} {m:Nat} {tk:Nat->Nat}
variable {r0:Option Nat}
theorem Q8 {p:Nat} (hc:Pe l m p) (FH:p<m->False) (hQp:∀ c a w,¬ Q (.panic c) a w) {S:List cj} {kJ:(Nat->Value)->aD} (UH:xl P c hs l tk 0 (l.take m) (fun _=>sl) [] S kJ) {a0:Act} (h0:bW sl a0) (KH:a0.tmps.size=c.nt)
  (tail:∀ β a w,St c D (kJ β) (dM β (pk tk (fun i=>Nat.blt i m)) S 0++hs) a w->wpAnyIn (FR r0) 0 P .any l.toArray Q (l.length-m) (kK l.length m) a w) :
  ∀ (fuel:Nat) (listed:Array Bool) (a:Act) (w:World),Wi c D hs l tk m S a0 fuel listed a w->wpAnyIn (FR r0) 0 P .any l.toArray Q fuel listed a w:=by
 have hle:=hc.le;have KE:jP sl [] (fun _=>sl) []:=fun β t v hv=>.inr ⟨fun oj h=>(Zo h).elim,hv⟩
 obtain ⟨CH,_,jI,fI⟩:=UH.spec (sl:=sl) [] rfl rfl KE;rw [Za] at jI fI;rw [ZE,Zs,Zbk hle] at CH;have eo:∀ (j:Nat) (o:Oper),j<m->l[j]? = some o->(l.take m)[j]? = some o:=fun j o hj ho=>by rw [ZH,if_pos hj];exact ho
 have fJ:∀ (j:Nat) (o:Oper),(l.take m)[j]? = some o->j<m/\l[j]? = some o:=fun j o ho=>by
  rw [ZH] at ho;split at ho
  ·exact ⟨by assumption,ho⟩
  ·cases ho
 have PT:∀ j,j<m->∃ s,S[j]? = some s:=fun j hj=>⟨S[j]'(by omega),Zc (by omega)⟩
 have mR:∀ fuel listed a w,Wi c D hs l tk m S a0 fuel listed a w->(∀ i,i<m->Ls listed i)->wpAnyIn (FR r0) 0 P .any l.toArray Q fuel listed a w:=by
  intro fuel listed a w hI dZ;have hL:∀ i,i<l.length->(Ls listed i↔i<m):=fun i _=>⟨fun h=>ZS fun hm=>hI.hi i hm h,dZ i⟩
  obtain ⟨U,yf,qI,sY⟩:=hI.left;have iB:U.Perm (List.range' m (l.length-m)):=by
   rw [ZaA yf (ZbB)];intro i;rw [qI i,ZaF];constructor
   ·rintro ⟨h1,h2⟩;exact ⟨ZaV fun h=>h2 (dZ i h),by omega⟩
   ·rintro ⟨h1,h2⟩;exact ⟨by omega,hI.hi i h1⟩
  have hlen:fuel=l.length-m:=by rw [<- sY,iB.length_eq,Zbx]
  have KI:listed=kK l.length m:=by
   have we:(kK l.length m).size=l.length:=by simp [kK];omega
   apply Array.ext
   ·rw [hI.sz,we]
   ·intro i h1 h2;rw [hI.sz] at h1;have h3:=hL i h1;unfold Ls at h3;rw [ZF,ZaC (by rw [hI.sz];exact h1),Zam] at h3;have h4:(kK l.length m)[i]=decide (i<m):=by
     simp only [kK,List.getElem_toArray];by_cases hi:i<m
     ·rw [Zac (by simpa using hi)];simp [hi]
     ·rw [Zag (by simpa using hi)];simp [hi]
    rw [h4];by_cases hi:i<m
    ·rw [h3.2 hi];simp [hi]
    ·have:¬ listed[i]=true:=fun h=>hi (h3.1 h)
     simp [hi,this]
  subst hlen;rw [KI];obtain ⟨β,hm,fZ⟩:=hI.own;have Of:∀ i,listed.getD i false=Nat.blt i m:=fun i=>by
   by_cases hi:i<m
   ·rw [show Nat.blt i m=true from by simpa [Z1] using hi];exact dZ i hi
   ·have h1:¬ listed.getD i false=true:=hI.hi i (by omega);have h2:¬ Nat.blt i m=true:=by simpa [Z1] using hi
    rw [Zae] at h1 h2;rw [h1,h2]
  have e:dM β (pk tk (fun i=>listed.getD i false)) S 0=dM β (pk tk (fun i=>Nat.blt i m)) S 0:=gU fun j s hj=>⟨by unfold pk;simp only [Of],fun _=>rfl⟩
  rw [e] at hm;refine tail β a w ⟨by rw [Zh];exact hm,fun t v hv=>?_,hI.size,hI.defers⟩;rcases jI β t v hv with ⟨j,oj,s,h1,h2,h3,h4⟩ | ⟨h1,h2⟩
  ·obtain ⟨iQ,nh⟩:=fJ j oj h1;rw [h4];exact fZ j oj t s nh h2 h3 (dZ j iQ)
  ·rw [hI.Bo t fun j oj hj jU=>h1 oj (ZV (eo j oj (ZS fun hm=>hI.hi j hm jU) hj))]
   exact h0 t v h2
 intro fuel
 induction fuel with
 | zero =>
  intro listed a w hI;obtain ⟨U,_,qI,sY⟩:=hI.left;have hU:U=[]:=Zaq.1 sY;refine mR 0 listed a w hI fun i hi=>Classical.byContradiction fun hn=>?_;have:=(qI i).2 ⟨by omega,hn⟩;rw [hU] at this;cases this
 | succ fuel ih =>
  intro listed a w hI;by_cases dZ:∀ i,i<m->Ls listed i
  ·exact mR _ listed a w hI dZ
  ·have hex:∃ i,i<m/\¬ Ls listed i:=Classical.byContradiction fun hh=>dZ fun i hi=>Classical.byContradiction fun hn=>hh ⟨i,hi,hn⟩
   obtain ⟨i0,uX,qH⟩:=hex;have main:∀ i,i∈Region.ready .any l.toArray listed->i<m->wpOpIn (FR r0) 0 P l.toArray Q i (wpAnyIn (FR r0) 0 P .any l.toArray Q fuel (listed.setIfInBounds i true)) a w/\(i=p->wpAnyIn (FR r0) 0 P .any l.toArray Q (fuel+1) listed a w):=by
    intro i hi oV;obtain ⟨o,ho,hn,l6⟩:=(dQ hI.sz).1 hi;obtain ⟨d,C8,s,hd,fF,qJ,tT,dw⟩:=fI i o (Zi _) (eo i o oV ho);obtain ⟨xQ,xR,⟨B,hB,ij⟩,Eh⟩:=dw;obtain ⟨β,hm,fZ⟩:=hI.own;have km:∀ (j:Nat),dR o j=true->Ls listed j:=fun j hw=>by
     obtain ⟨e,he,hb,nG⟩:=cR hw;rw [<- nG];exact l6 e he hb
    have wb:∀ (j:Nat),jZ l o j=true->Ls listed j:=fun j hw=>by
     unfold jZ at hw;rw [ZP] at hw;rcases hw with hw | hw
     ·exact km j hw
     ·obtain ⟨k,_,hk⟩:=ZR.1 hw;rw [Zm] at hk;have Ha:=km k hk.1;cases hq:l[k]? with
      | none=>rw [hq] at hk;cases hk.2
      | some q =>
       rw [hq] at hk;obtain ⟨e,he,hb,nG⟩:=cR hk.2;rw [<- nG];exact hI.dc k q hq Ha e he hb
    have qn:∀ (j:Nat) (oj:Oper) (e:Nat),l[j]? = some oj->j<m->j≠i->oj.dst=some e->d≠e:=by
     intro j oj e hj iQ hne he;rcases Zbp j i with h | h
     ·exact fun e'=>(eB (rB hc h oV hj ho) he hd).1 e'.symm
     ·exact (eB (rB hc (show i<j by omega) iQ ho hj) hd he).1
    have iY:i<listed.size:=by rw [hI.sz];omega
    have Dh:mo o=true:=hc.op o (ZV ho)
    -- Bn dh QF Bn operation looks at
    have hT:∀ t∈o.looksAt l.toArray,∀ v,cW (C8 β) t=some v->a.tmps[t]? = some v:=by
     intro t ht v hv;rcases tT β t v hv with ⟨j,oj,sj,h1,h2,h3,h4⟩ | ⟨h1,h2⟩
     ·have nP:j<i:=by have:=(Zl.1 h1).1;rw [Zs] at this;omega
      rw [ZH,if_pos nP] at h1 h3;obtain ⟨iQ,nh⟩:=fJ j oj h1;have jU:=km j ((eB (rB hc nP oV nh ho) h2 hd).2 (.inl ht));rw [h4];exact fZ j oj t sj nh h2 h3 jU
     ·rw [hI.Bo t fun j oj hj jU iR=>?_]
      ·exact h0 t v h2
      ·have iQ:j<m:=ZS fun hm=>hI.hi j hm jU
       rcases Zao j i with h | h | h
       ·exact h1 oj (ZV (by rw [ZH,if_pos h];exact eo j oj iQ hj)) iR
       ·subst h;exact hn jU
       ·have hw:=(eB (rB hc h iQ ho hj) hd iR).2 (.inr ht);obtain ⟨e,he,hb,nG⟩:=cR hw;have:=hI.dc j oj hj jU e he hb;rw [nG] at this;exact hn this
    have wu:∀ t v,cW (C8 β) t=some v->t<c.nt:=by
     intro t v hv;rcases tT β t v hv with ⟨j,oj,sj,h1,h2,_,_⟩ | ⟨_,h2⟩
     ·have nP:j<i:=by have:=(Zl.1 h1).1;rw [Zs] at this;omega
      rw [ZH,if_pos nP] at h1;obtain ⟨d',_,_,AQ,AO,_⟩:=fI j oj (Zi _) h1;rw [h2] at AQ;cases AQ;exact AO
     ·have:=h0 t v h2;rw [<- KH];exact (Z0.1 this).1
    obtain ⟨a',l7,js,_⟩:=o6 hI.size wu hT;have ye:jm c hs (S.take i) B β w:=by
     rintro A (rfl | ⟨j,hj,sj,h1,rfl⟩)
     ·exact hm.sublist ((ZaY _ _).trans (ZaT _ _))
     ·have nP:j<i:=by have:=(Zl.1 h1).1;rw [Zs] at this;omega
      rw [ZH,if_pos nP] at h1;have jU:=wb j (hB j hj).1;exact hm.sublist ((rj (lst:=pk tk (fun i=>listed.getD i false)) (i:=0) h1 (by rw [Nat.zero_add];unfold pk;dsimp only;rw [(hB j hj).2,show listed.getD j false=true from jU];rfl)).append (List.sublist_append_left _ _))
    have Sc:listed.getD i false=false:=by have h:¬ listed.getD i false=true:=hn;simpa using h
    have Uo:∀ j,dW tk i j=true->dR o j=true:=fun j h=>by
     unfold dW at h;rw [Zm] at h;exact Eh j (by simpa using h.2) (by simpa [Z1] using h.1)
    have Us:∀ j,dW tk i j=true->j<i:=fun j h=>by
     obtain ⟨e,he,hb,nG⟩:=cR (Uo j h);have:=j7 hc.ac ho e he hb;omega
    have X8:∀ j,dW tk i j=true->pk tk (fun i=>listed.getD i false) j=true:=fun j h=>by
     have h1:listed.getD j false=true:=km j (Uo j h);have h2:tk j=i:=by unfold dW at h;rw [Zm] at h;simpa using h.2
     unfold pk;dsimp only;rw [h1,h2,Sc];simp
    have etk:dM β (fun j=>pk tk (fun i=>listed.getD i false) j&&dW tk i j) S 0=dM β (dW tk i) (S.take i) 0:=by
     rw [oH (n:=i) fun j hj=>by
      rw [ZE] at hj;cases ht:dW tk i j with
      | false=>rw [Zbv]
      | true=>have:=Us j ht;omega]
     refine gU fun j sj _=>⟨?_,fun _=>rfl⟩;rw [ZE];cases ht:dW tk i j with
     | false=>rw [Zbv]
     | true=>rw [X8 j ht];rfl
    have UR:=hm.perm ((qy (β:=β) (pk tk (fun i=>listed.getD i false)) (dW tk i) S 0).append_right _)
    rw [Zh,etk] at UR;obtain ⟨oZ,_,Kz,KO⟩:=Mem.yG UR;have hq:=ij β a' w oZ l7 ye Kz;have hex:=iL (o:=o) (ops:=l.toArray) Dh js
    -- Qt a done operation TP VM not Vi on this one
    have oW:∀ j,Ls listed j->∀ x k,uz l j k=true->β k=uE β i x k:=by
     intro j jU x k hk;refine (vg fun e=>?_).symm;subst e;unfold uz at hk;rw [ZP] at hk;rcases hk with hk | hk
     ·have:j=k:=by simpa using hk
      subst this;exact hn jU
     ·have KN:j<l.length:=by
       have iQ:j<m:=ZS fun hm=>hI.hi j hm jU
       omega
      exact hn (gA hI.dc hc.ac j KN jU k hk)
    have ia:∀ v w',zy i s β w oZ v w'->wpAnyIn (FR r0) 0 P .any l.toArray Q fuel (listed.setIfInBounds i true) (a.put o.dst v) w':=by
     rintro v w' ⟨x,rfl,hk,fp,jX,gY,sA⟩;refine ih _ _ _ ⟨by simpa using hI.sz,?_,?_,by rw [hd];exact hI.defers,by simpa [Act.put,hd] using hI.size,?_,?_,uE β i x,?_,?_⟩
     ·intro k ok sy hL e he hb;rw [cH iY] at hL ⊢;rcases hL with e' | hL
      ·subst e';rw [ho] at sy;cases sy;exact .inr (l6 e he hb)
      ·exact .inr (hI.dc k ok sy hL e he hb)
     ·intro k sy hL;rw [cH iY] at hL;rcases hL with e | hL
      ·omega
      ·exact hI.hi k sy hL
     ·intro t ht;have h1:d≠t:=fun e=>by subst e;exact ht i o ho ((cH iY).2 (.inl rfl)) hd
      rw [hd];simp only [Act.put,ZK h1];exact hI.Bo t fun j oj hj hL=>ht j oj hj ((cH iY).2 (.inr hL))
     ·obtain ⟨U,yf,qI,sY⟩:=hI.left;refine ⟨U.erase i,yf.erase i,fun k=>?_,?_⟩
      ·rw [yf.mem_erase_iff,qI k,cH iY];constructor
       ·rintro ⟨h1,h2,h3⟩;exact ⟨h2,fun h=>h.elim h1 h3⟩
       ·rintro ⟨h1,h2⟩;exact ⟨fun e=>h2 (.inl e),h1,fun h=>h2 (.inr h)⟩
      ·have Sf:i∈U:=(qI i).2 ⟨by omega,hn⟩;rw [ZaH Sf,sY];rfl
     ·have mr:=KO _ w' hk ⟨fp,jX,gY,sA⟩;have e1:dM β (fun j=>pk tk (fun i=>listed.getD i false) j&&!dW tk i j) S 0=dM (uE β i x) (fun j=>pk tk (fun i=>listed.getD i false) j&&!dW tk i j) S 0:=gU fun j sj hj=>by
       refine ⟨I,fun hl=>?_⟩;rw [ZE] at hl;have hl:listed.getD j false=true:=by
        unfold pk at hl;simp only [Zm] at hl;exact hl.1.1
       have iQ:j<m:=by have:=(Zl.1 hj).1;omega
       obtain ⟨oj,CA⟩:∃ oj,l[j]? = some oj:=⟨l[j]'(by omega),Zc (by omega)⟩;obtain ⟨_,_,s2,_,_,hs2,_,wj⟩:=fI j oj (Zi _) (eo j oj iQ CA);rw [hj] at hs2;cases hs2;exact wj.xR _ _ (oW j hl x)
      rw [e1,<- Zh] at mr;have mq:∀ k,(listed.setIfInBounds i true).getD k false=(listed.getD k false||Nat.beq k i):=fun k=>by
       by_cases KM:k=i
       ·subst KM;rw [show Nat.beq k k=true by simp,Bool.or_true];exact (cH iY).2 (.inl I)
       ·rw [show Nat.beq k i=false from Zau.2 fun h=>KM (Z3 h),Bool.or_false]
        simp [ZF,ZK (Ne.symm KM)]
      refine mr.perm ((rk (k:=i) qJ ?_ ?_ ?_).append_right _)
      ·rw [ZE];unfold pk;dsimp only;rw [Sc];rfl
      ·rw [ZE];unfold pk;dsimp only;rw [mq,show Nat.beq i i=true by simp,Bool.or_true,Zav];by_cases Ml:tk i=0
       ·rw [Ml];rfl
       ·have RS:0<tk i:=Nat.pos_of_ne_zero Ml;have rS:listed.getD (tk i) false=false:=by
         cases hh:listed.getD (tk i) false with
         | false=>rfl
         | true =>
          exfalso;have Vq:Ls listed (tk i):=hh;have To:tk i<m:=ZS fun hm=>hI.hi _ hm Vq
          obtain ⟨ot,UJ⟩:∃ ot,l[tk i]? = some ot:=⟨l[tk i]'(by omega),Zc (by omega)⟩;obtain ⟨_,_,_,_,_,_,_,R9⟩:=fI (tk i) ot (Zi _) (eo _ ot To UJ);obtain ⟨e,he,hb,nG⟩:=cR (R9.waits i rfl RS);have:=hI.dc (tk i) ot UJ Vq e he hb;rw [nG] at this;exact hn this
        have hne:Nat.beq (tk i) i=false:=by
         cases hh:Nat.beq (tk i) i with
         | false=>rfl
         | true =>
          exfalso;have e:tk i=i:=by simpa using hh
          have:=Us i (by unfold dW;rw [hh,Bool.and_true];rw [e] at RS;simpa [Z1] using RS);omega
        rw [mq,rS,hne];simp
      ·intro j hj;rw [ZE] at hj;unfold pk;dsimp only;rw [mq,mq,show Nat.beq j i=false from Zau.2 fun h=>hj (Z3 h),Bool.or_false]
       unfold dW;cases h1:Nat.beq (tk j) i with
       | false=>simp
       | true =>
        have e:tk j=i:=by simpa using h1
        rw [e,Sc];cases Nat.blt 0 i <;> simp
     ·intro j oj e sj hj he jY hL;rw [cH iY] at hL;by_cases nP:j=i
      ·subst nP;rw [ho] at hj;cases hj;rw [hd] at he;cases he;rw [qJ] at jY;cases jY;rw [hd];simp [Act.put,hI.size,fF]
      ·have Bv:=hL.resolve_left nP;have iQ:j<m:=ZS fun hm=>hI.hi j hm Bv
       obtain ⟨_,_,s2,_,_,hs2,_,wj⟩:=fI j oj (Zi _) (eo j oj iQ hj);rw [jY] at hs2;cases hs2;rw [hd];simp only [Act.put,ZK (qn j oj e hj iQ nP he)];rw [<- wj.xQ _ _ (oW j Bv x)];exact fZ j oj e sj hj he jY Bv
    have UE:=hq;refine ⟨?_,fun YC=>?_⟩
    rotate_left
    ·subst YC;exact (FH oV).elim
    unfold wpOpIn;rw [show l.toArray[i]? = some o from by simpa using ho];simp only [];rw [iq js] at hq;split
    ·rename_i hw;rw [if_pos hw] at hq;refine ⟨eb _ _ _ _ _,?_⟩;rw [Oper.semAt_eq _ _ _ (fun cc he=>by simp [mo,he] at Dh),<- hex]
     unfold od at hq
     revert hq
     generalize (execOp a'.eval o).run P w=res;intro hq
     match res,hq with
     | .ok (.value v) w',hq=>exact ia v w' hq
     | .ok (.enter f args) w', ⟨e, cG⟩ =>
      subst e;refine ⟨by simp [FR,Fence.wide],(iC cG).mono fun e vf h=>?_⟩;obtain ⟨v,rfl,hq⟩:=h;exact ia v vf hq
    ·rename_i hw;rw [if_neg hw] at hq;exact ⟨fun _ _=>trivial,ia undef w hq⟩
   by_cases hp:p<m/\p∈Region.ready .any l.toArray listed
   ·exact (main p hp.2 hp.1).2 I
   ·refine ⟨fun hr=>?_,fun i hi=>?_⟩
    ·obtain ⟨i,hi⟩:=jq hI.sz hc.ac ⟨i0,by omega,qH⟩;rw [hr] at hi;cases hi
    ·have oV:i<m:=ZS fun hm=>by
      have Tt:=Ch hc hI.sz hI.dc hi hm;by_cases Ob:p<m
      ·by_cases hLp:Ls listed p
       ·exact qH (by
         by_cases e:i0=p
         ·rw [e];exact hLp
         ·exact Tt i0 uX e)
       ·refine hp ⟨Ob,(dQ hI.sz).2 ⟨l[p]'(by omega),Zc (by omega),hLp,fun e he hb=>?_⟩⟩;have aN:=j7 hc.ac (Zc (show p<l.length by omega)) e he hb;exact Tt e.on (by omega) (by omega)
      ·exact qH (Tt i0 uX (by omega))
     exact (main i hi oV).1
def uB (tk:Nat->Nat) (P:Program) (r0:Option Nat) (c:Cx) (D:List Nat) (hs:List bh) (l:List Oper) (Q:Exit->Act->World->Prop) (m i n:Nat) (rest:List Oper) (SL:(Nat->Value)->aD) (S:List cj):Prop:=
 ∃ S' kJ,xl P c hs l tk i (rest.take n) SL S S' kJ/\∀ β,Tr c D (kJ β) (dM β (pk tk (fun i=>Nat.blt i m)) S' 0++hs) (zC P r0 l.toArray Q (l.length-m) (kK l.length m))
theorem HZ {id:Nat} (m:Nat) (tk:Nat->Nat) [qd:Qm P] (fB:QT l m=true) (k:uB tk P r0 c D hs l Q m 0 m l (fun _=>sl) []):Tr c D sl hs (WP P r0 (.region id l.toArray true) Q):=fun a w bj=>by
 obtain ⟨S,kJ,hp,ht⟩:=k;have h:(Code.region id l.toArray true).wpIn (FR r0) 0 P (NP Q) a w:=wpIn_region_any qd.eq (by
  refine Q8 (tk:=tk) (p:=m) (Ce fB) (fun h=>absurd h (Nat.lt_irrefl _)) (fun c a w h=>h.elim) hp bj.dh bj.size (fun β a w bj=>ht β a w bj) l.toArray.size _ _ _ ⟨by simp,?_,?_,bj.defers,bj.size,fun t _=>rfl,?_,fun _=>undef,?_,?_⟩
  ·exact fun k o _ hL=>absurd hL (fb _ _)
  ·exact fun k _ hL=>fb _ _ hL
  ·exact ⟨List.range l.length,Zbu,fun i=>⟨fun h=>⟨by simpa using h,fb _ _⟩,fun h=>by simpa using h.1⟩,by simp⟩
  ·have e:∀ (T:List cj) (i:Nat),dM (fun _=>undef) (pk tk (fun i=>(Array.replicate l.toArray.size false).getD i false)) T i=[]:=by
    intro T
    induction T with
    | nil=>intro i;rfl
    | cons s T ih =>
     intro i;have:=fb l.toArray.size i;unfold Ls at this;unfold dM;rw [if_neg (by unfold pk;simp only [Zm];exact fun h=>this h.1),ih];rfl
   rw [e];exact bj.mem.drew
  ·exact fun j o d s _ _ _ hL=>absurd hL (fb _ _))
 exact wpIn_mono h fun e a' w' h=>by
  cases e with
  | panic c=>exact h.elim
  | _=>exact h
end
section
variable {P:Program} {c:Cx} {D:List Nat} {sl:aD} {hs hs':List bh} {X:Act->World->Prop} {Q:Exit->Act->World->Prop} {l:List Oper} {m i n d:Nat} {lJ:List (Nat×Nat)} {op:Op} {ty:TypeId} {pos:String} {af:Array Edge} {rest:List Oper} {SL:(Nat->Value)->aD} {S:List cj}
variable {r0:Option Nat}
theorem u7 {o:Oper} {s:cj} (hd:o.dst=some d) (fF:Nat.blt d c.nt=true) (h:LZ P c hs l (gD lJ) i o SL S s) (k:uB (gD lJ) P r0 c D hs l Q m (i+1) n rest (fun β=>(d,s.F β)::SL β) (S++[s])):uB (gD lJ) P r0 c D hs l Q m i (n+1) (o::rest) SL S:=by
 obtain ⟨S',kJ,hp,ht⟩:=k;exact ⟨S',kJ,.step hd (by simpa [Z1] using fF) h hp,ht⟩
theorem S5 (k:∀ β,Tr c D (SL β) (dM β (pk (gD lJ) (fun i=>Nat.blt i m)) S 0++hs) (zC P r0 l.toArray Q (l.length-m) (kK l.length m))):uB (gD lJ) P r0 c D hs l Q m i 0 rest SL S:=
 ⟨S,SL,.nil,k⟩
theorem LV {ι:Type} {Φ:ι->Prop} {val:ι->Value} {own:ι->List bh} (g:Value->ι) (hg:∀ x,∃ v,g v=x) {f:FuncId} {args:(Nat->Value)->List Value} (B:List Nat)
  (hB:(B.all fun j=>jZ l ⟨some d,op,ty,pos,af,none⟩ j&&Nat.beq (gD lJ j) 0)=true) (hn:(lJ.all fun p=>!Nat.beq p.2 i)=true)
  (hr:∀ β,lR P (SL β) ⟨some d,op,ty,pos,af,none⟩ f (args β)) (hd:Nat.blt d c.nt=true) (hc:∀ β w,jm c hs S B β w->bB P f (args β) w [] Φ val own)
  (k:uB (gD lJ) P r0 c D hs l Q m (i+1) n rest (fun β=>(d,val (g (β i)))::SL β) (S++[⟨fun β=>val (g (β i)),fun β=>own (g (β i))⟩])) :
  uB (gD lJ) P r0 c D hs l Q m i (n+1) (⟨some d,op,ty,pos,af,none⟩::rest) SL S:=by
 refine u7 (s:=⟨fun β=>val (g (β i)),fun β=>own (g (β i))⟩) I hd ⟨fun β β' h=>by simp only [h i (gS l i)],fun β β' h=>by simp only [h i (gS l i)],⟨B,fun j hj=>?_,fun β a w oZ ss ye _=>?_⟩,fun j hj hp=>(pE hn hj hp).elim⟩ k
 ·have:=Z7.1 hB j hj;rw [Zm] at this;exact ⟨this.1,by simpa using this.2⟩
 rw [if_pos (by simp [Region.wanted])];unfold od;rw [(hr β).2 a w ss];refine ⟨I,(hc β w ye).mono fun e w' ⟨x,he,_,hk,fp,hn,hs',hf⟩=>?_⟩;obtain ⟨v,hv⟩:=hg x;refine ⟨val x,he,v,by simp only [ji,hv],hk.mono (by simp),fp,hn,by simp only [ji,hv];exact hs',fun b hb=>?_⟩;rcases hf b hb with h | h
 ·cases h
 ·exact .inr h
theorem mc {F:(Nat->Value)->Value} (hr:∀ β,cM P c (SL β) hs ⟨some d,op,ty,pos,af,none⟩ (F β)) (hi:lI l i F) (hd:Nat.blt d c.nt=true) (hn:(lJ.all fun p=>!Nat.beq p.2 i)=true) (k:uB (gD lJ) P r0 c D hs l Q m (i+1) n rest (fun β=>(d,F β)::SL β) (S++[⟨F,fun _=>[]⟩])) :
  uB (gD lJ) P r0 c D hs l Q m i (n+1) (⟨some d,op,ty,pos,af,none⟩::rest) SL S:=
 u7 (s:=⟨F,fun _=>[]⟩) I hd ⟨hi,fun _ _ _=>rfl,⟨[],by simp,fun β a w oZ h1 h2 _=>by
  rw [if_pos (by simp [Region.wanted])];unfold od;rw [(hr β).2 a w h1 h2.mem];exact ⟨β i,by rw [mD],.refl _ _,[],Zah,I,by simp⟩⟩,fun j hj hp=>(pE hn hj hp).elim⟩ k
theorem Gf {V:Nat->Value} {ob:(Nat->Value)->Obj} (hr:∀ β,pt P c (SL β) hs ⟨some d,op,ty,pos,af,none⟩ V (ob β)) (hi:∀ β β',(∀ k,k≠i->uz l i k=true->β k=β' k)->ob β=ob β') (hd:Nat.blt d c.nt=true) (hn:(lJ.all fun p=>!Nat.beq p.2 i)=true)
  (k:uB (gD lJ) P r0 c D hs l Q m (i+1) n rest (fun β=>(d,V (ep (β i)))::SL β) (S++[⟨fun β=>V (ep (β i)),fun β=>[bA (ep (β i)) (ob β)]⟩])) :
  uB (gD lJ) P r0 c D hs l Q m i (n+1) (⟨some d,op,ty,pos,af,none⟩::rest) SL S:=
 u7 (s:=⟨fun β=>V (ep (β i)),fun β=>[bA (ep (β i)) (ob β)]⟩) I hd ⟨fun β β' h=>by simp only [h i (gS l i)],fun β β' h=>by simp only [h i (gS l i),hi β β' fun k _ hk=>h k hk],⟨[],by simp,fun β a w oZ h1 h2 _=>by
  rw [if_pos (by simp [Region.wanted])];unfold od;rw [(hr β).2 a w h1 h2.mem];have e:ob (uE β i (.q (w.heap.size:Int)))=ob β:=hi _ _ fun k hk _=>vg hk
  exact ⟨.q (w.heap.size:Int),by simp only [ji,kZ],.alloc _ _ _,[w.heap.size],by simp,⟨[w.heap.size],[],I,⟨by simp only [ji,kZ],by simp only [ji,kZ];rw [e];exact World.alloc_heap_new w (ob β)⟩,I⟩,by simp⟩⟩,fun j hj hp=>(pE hn hj hp).elim⟩ k
end
end Go.SL.KR
namespace Go.SL.KR
open Go Go.SL
section
variable {P:Program} {c:Cx} {D:List Nat} {sl:aD} {hs hs':List bh} {X:Act->World->Prop} {Q:Exit->Act->World->Prop} {l:List Oper} {m i n d:Nat} {lJ:List (Nat×Nat)} {op:Op} {ty:TypeId} {pos:String} {af:Array Edge} {rest:List Oper} {SL:(Nat->Value)->aD} {S:List cj}
variable {r0:Option Nat}
theorem EO {t e:TypeId} {agg:Bool} {size bytes jx n0:Nat} {z:Value} {x y:Operand} {Vx Vy:(Nat->Value)->Value} {Ax:(Nat->Value)->List bh} {xs:List Value} {news:List (List Value)} [hu:gJ P t (.slice e)] [hT:Ty P e agg size] [hZ:lQ P e z] [hBy:u9 P e bytes] (B:List Nat)
  (hB:(B.all fun j=>jZ l ⟨some d,.call ⟨.builtin .append,#[x,y],#[t,t]⟩,ty,pos,af,none⟩ j&&Nat.beq (gD lJ j) 0)=true)
  (hS:S[jx]? = some ⟨Vx,Ax⟩) (hrow:∀ β w fp,cA (hp w) (Ax β) fp->(row e size (Vx β) n0 xs).sat (hp w) fp)
  (htk:∀ k,gD lJ k=i->k=jx) (hti:gD lJ jx=i) (h0:Nat.blt 0 i=true) (hwx:dR ⟨some d,.call ⟨.builtin .append,#[x,y],#[t,t]⟩,ty,pos,af,none⟩ jx=true)
  (hx:∀ β,Is (SL β) x (Vx β)) (hy:∀ β,Is (SL β) y (Vy β)) (hsrc:∀ β w,jm c hs S B β w->Rd w (Vy β) size news) (h1:∀ r∈news,∀ u∈r,u.oneCell'=true) (hz:z.cells.size=size) (hsz:Nat.blt 0 size=true) (hb0:Nat.blt 0 bytes=true)
  (hb:(n0+news.length)*bytes<=140737488355328) (hd:Nat.blt d c.nt=true) (hne:news≠[])
  (k:uB (gD lJ) P r0 c D hs l Q m (i+1) n rest (fun β=>(d,.slice (xC (β i)).1 (n0+news.length) (xC (β i)).2)::SL β) (S++[⟨fun β=>.slice (xC (β i)).1 (n0+news.length) (xC (β i)).2,fun β=>[row e size (.slice (xC (β i)).1 (n0+news.length) (xC (β i)).2) (n0+news.length) (xs++news.flatten)]⟩])) :
  uB (gD lJ) P r0 c D hs l Q m i (n+1) (⟨some d,.call ⟨.builtin .append,#[x,y],#[t,t]⟩,ty,pos,af,none⟩::rest) SL S:=by
 refine u7 (s:=⟨fun β=>.slice (xC (β i)).1 (n0+news.length) (xC (β i)).2,fun β=>[row e size (.slice (xC (β i)).1 (n0+news.length) (xC (β i)).2) (n0+news.length) (xs++news.flatten)]⟩) I hd ⟨fun β β' h=>by simp only [h i (gS l i)],fun β β' h=>by simp only [h i (gS l i)],⟨B,fun j hj=>?_,fun β a w oZ ss ye gY=>?_⟩,fun j hj _=>by rw [htk j hj];exact hwx⟩ k
 ·have:=Z7.1 hB j hj;rw [Zm] at this;exact ⟨this.1,by simpa using this.2⟩
 rw [if_pos (by simp [Region.wanted])];rw [vD (i:=0) hS fun k=>by
  rw [ZE];unfold dW;rw [h0,Zav];by_cases e:k=jx
  ·subst e;rw [hti];simp
  ·rw [show Nat.beq k jx=false from Zau.2 fun h=>e (Z3 h)]
   exact Zau.2 fun h=>e (htk k (Z3 h))] at gY
 have WG:=hrow β w oZ gY;have hR:=hsrc β w ye;have hvx:=hx β a ss;have hvy:=hy β a ss;have hlen:=gj hR.sz;obtain ⟨aa,cap,b2,o2,hV,dD,cr,haa,W0⟩:=hR;have:=haa hne;subst this;rw [hV] at hvy;obtain ⟨de,ii,lp,Hw,_,iP⟩:=Ty.parts (P:=P) (t:=e) (agg:=agg) (n:=size);have hzero:ii.zero=some z:=by have:=hZ.eq;rw [Hw] at this;simpa using this
 have gZ:ii.bytes=bytes:=by have:=hBy.eq;rw [Hw] at this;simpa using this
 have CE:0<bytes:=by simpa using hb0
 have rR:=B1 WG;have PG:n0+news.length<=maxLen:=by
  have:(n0+news.length)*1<=(n0+news.length)*bytes:=Zbr _ CE;unfold maxLen;omega
 have hn:∀ (j:Nat) (u:Value),news.flatten[j]? = some u->w.cell? ⟨b2,o2+j,none⟩=some u:=nJ W0;have Dn:∀ u∈news.flatten,u.oneCell'=true:=fun u hu=>by obtain ⟨r,hr,Un⟩:=List.mem_flatten.1 hu;exact h1 r hr u Un
 obtain ⟨v',w',ij,rQ,wC,_⟩:=run_append_own (P:=P) w 0 t ty e ii z size bytes hu.eq Hw hzero iP gZ hz (by simpa using hsz) (Vx β) n0 xs rR ⟨b2,o2,none⟩ news.length cap news.flatten hlen
  (fun j u hj=>by rw [eW];exact hn j u hj) Dn PG hb (Zi _)
 have xU:=qS (P:=P) (t:=t) (ty:=ty) hu.eq Hw hzero (by rw [iP];exact rR) (a:=⟨b2,o2,none⟩) (m:=news.length) (cp:=cap) (by rw [iP];exact hlen) (fun j u hj=>by rw [eW];exact hn j u hj) Dn PG (by rw [gZ];exact hb) ij
 have hex:(execOp a.eval ⟨some d,.call ⟨.builtin .append,#[x,y],#[t,t]⟩,ty,pos,af,none⟩).run P w=.ok (.value v') w':=by
  simp [execOp,resolve,invoke,builtin,hvx,hvy,ij]
 unfold od;rw [hex];have G5:oZ=(Vx β).ownBlock.toList:=WG.1;have hN:0<n0+news.length:=by have:=List.length_pos_iff.2 hne;omega
 have hsv:v'=.slice (xC v').1 (n0+news.length) (xC v').2:=by
  rcases rQ.2 with ⟨_,e2⟩ | ⟨g,cp,cur,e2,_⟩
  ·omega
  ·rw [e2];rfl
 refine ⟨v',by simp only [ji];exact hsv,⟨wC.os,wC.tape,wC.output,xU.2,wC.size,fun q hq Yf=>wC.block q hq (fun he=>Yf ?_)⟩,v'.ownBlock.toList,by cases v'.ownBlock <;> simp,⟨v'.ownBlock.toList,[],(ZQ _).symm,by simp only [ji];rw [<- hsv];exact lX rQ,I⟩,fun q hq=>?_⟩
 ·rw [G5,<- he];simp
 ·have xA:v'.ownBlock=some q:=by simpa [Option.mem_toList] using hq
  rcases xU.1 with h | h
  ·left;rw [G5,<- h,xA];simp
  ·right
   rw [h] at xA;cases xA;exact ZC _
end
end Go.SL.KR
namespace Go.Proofs.A1
open Go Go.SL
open Tryz
open Tryz renaming prog->T_
def Ba (x:Wy):bh:=row 3 1 x.v (fY x.p).length (fY x.p)
theorem Bb:∀ kI:List Wy,gz 3 (kI.map Wy.v) (kI.map fun x=>fY x.p)=kI.map Ba
 | []=>rfl
 | x::l=>by simp only [Zaf,gz,Bb l];rfl
theorem BM:∀ (l:List bh) (A:bh) (m:List bh),Take (l++A::m) A (l++m)
 | [],_,_=>.here
 | _::l,A,m=>.there (BM l A m)
theorem yD (A:bh):∀ (l m:List bh),bK (A::(l++m)) l (A::m)
 | [],_=>.nil
 | _::l,m=>.cons (.there .here) (yD A l m)
theorem vk {c:Cx} {D:List Nat} {sl:aD} {hs hs':List bh} {X:Act->World->Prop} {kI:List Wy} {x:Wy} (hx:x∈kI) (ht:Take hs (iN kI) hs')
  (k:∀ nZ,(∀ y,y∈kI↔y=x\/y∈nZ)->Tr c D sl (iN nZ::row 3 1 x.v x.p.length (fY x.p)::hs') X):Tr c D sl hs X:=by
 obtain ⟨l1,l2,rfl⟩:=List.append_of_mem hx;have hk:=k (l1++l2) (fun y=>by simp only [Zq,ZO];constructor <;> (intro h;rcases h with h | h | h <;> simp [h]))
 refine yy (As:=gz 3 ((l1++x::l2).map Wy.v) ((l1++x::l2).map fun x=>fY x.p)) (show Take hs (Mb (gz 3 ((l1++x::l2).map Wy.v) ((l1++x::l2).map fun x=>fY x.p))) hs' from ht) ?_;rw [Bb,Zz,Zaf,Zh,Zb];refine uF (BM (l1.map Ba) (Ba x) (l2.map Ba++hs')) (fun _ _ h=>h) ?_;rw [<- Zh,<- Zz];refine sE (yD (Ba x) ((l1++l2).map Ba) hs') ?_;have e:iN (l1++l2)=Mb ((l1++l2).map Ba):=by rw [<- Bb];rfl
 rw [<- e];have e2:Ba x=row 3 1 x.v x.p.length (fY x.p):=by unfold Ba fY;rw [Zd]
 rw [e2];exact hk
theorem JU (p:List Nat):(fY p).length=p.length:=by unfold fY;rw [Zd]
variable {de:ByteArray} {dst:Option Tmp} {g:Option (Nat×Bool)} {k:IntKind} {p:List Nat} {r:Ro} {so:ByteArray} {v:Int}
theorem Co {k:Nat} (h:k<p.length) (cur:List Value):(fY p++cur)[k*1]? = some (.q (p[k]:Nat)):=by
 rw [Zas,ZG (by rw [JU];exact h)];unfold fY;rw [ZJ,Zc h];rfl
theorem Cm (p:List Nat) (i:Nat):(nz p).contains (i:Int)=p.contains i:=by
 induction p with
 | nil=>rfl
 | cons x l ih =>
  show (((i:Int)==(x:Int))||(nz l).contains (i:Int))=((i==x)||l.contains i);rw [ih];congr 1;rw [ZaS,beq_iff_eq,beq_iff_eq];omega
theorem vZ {α:Type} {l:List Oper} {i:Nat} {x:α}:lI l i (fun _:Nat->Value=>x):=fun _ _ _=>rfl
theorem y8 {N:Wn} {dm:Int} (h:N.zu=dm):N.least dm []:=by
 refine ⟨N.qD,h,fun q _ _=>?_⟩;rcases Wn.J8 (N:=N) (show [] <+: q from List.nil_prefix) with e | e
 ·rw [<- e];exact N.lt_irrefl []
 ·cases hb:N.lt q [] with
  | false=>rfl
  | true=>have:=Wn.lt_trans e hb;rw [N.lt_irrefl] at this;cases this
set_option maxHeartbeats 4000000 in
theorem Pk {s d t p:Value} (v:Int) (so de:ByteArray) {w:World} (h:RR w r s d t p) (hn:n9 r) (hV:gV r r.po) (hd:Dq r) (rO:so∈cz r) (fF:de∈bY r) :
  bB T_ 175 [RA r s d t p,.q v,.string so,.string de] w [] (fun x:Bool×Wy×List Wy=>(x.1=true->(eh r r.po v so).least (gQ r de) x.2.1.p/\(x.2.1∈x.2.2\/x.2.1=⟨.z,[],0⟩))/\(x.1=false->∀ q,(eh r r.po v so).ok q->(eh r r.po v so).fin q≠gQ r de)/\x.2.1.v.oneCell'=true)
   (fun x=>.tuple #[.agg x.2.1.cells.toArray,.bool x.1]) (fun x=>[iN x.2.2]):=by
 have h6:r.ti.length<=6:=by have:=hn.Te;unfold ct at this;rwa [Zd] at this
 obtain ⟨h1,h2,h3,h4⟩:=h.one;have hti:=h.ti;obtain ⟨a,cp,b,o',rfl,dD,cr,ha,hc⟩:=hti;have GY:=h.sr;obtain ⟨a2,l9,b2,o2,rfl,kp,fh,js,jT⟩:=GY;have lp:=h.de;obtain ⟨a3,pb,b3,o3,rfl,mS,gi,sX,qe⟩:=lp;rw [bU] at *;rw [cy] at *;rw [bZ] at *;unfold maxLen at cr fh gi;obtain ⟨i0,uX⟩:∃ i:Nat,br (cz r) so=(i:Nat):=⟨(br (cz r) so).toNat,by have:=cF rO;omega⟩;have Eo:i0<r.sr.length:=by
  obtain ⟨hl,_⟩:=ei (l:=cz r) (s:=so) (by omega);rw [uX,Zy] at hl;unfold cz at hl;rwa [Zd] at hl
 obtain ⟨j0,wz⟩:∃ i:Nat,br (bY r) de=(i:Nat):=⟨(br (bY r) de).toNat,by have:=cF fF;omega⟩;have xW:j0<r.de.length:=by
  obtain ⟨hl,_⟩:=ei (l:=bY r) (s:=de) (by omega);rw [wz,Zy] at hl;unfold bY at hl;rwa [Zd] at hl
 have xT:mJ r so=(r.sr[i0]).mx:=by unfold mJ;rw [uX,Zy,Zk,Zc Eo];rfl
 have Om:gQ r de=(r.de[j0]).mx:=by unfold gQ;rw [wz,Zy,Zk,Zc xW];rfl
 have hsrc:∀ w',aH [] w w'->ao T_ 180 [.agg #[.q r.lv,.q r.ma,.slice a2 r.sr.length l9,.slice a3 r.de.length pb,.slice a r.ti.length cp,p],.string so] w' (.q (i0:Nat)):=fun w' hk=>uX ▸ mI so (h.keeps hk)
 have xZ:∀ w',aH [] w w'->ao T_ 155 [.agg #[.q r.lv,.q r.ma,.slice a2 r.sr.length l9,.slice a3 r.de.length pb,.slice a r.ti.length cp,p],.string de] w' (.q (j0:Nat)):=fun w' hk=>wz ▸ fw de (h.keeps hk)
 have rX:=js (gW Eo);have eF:=(jT i0 _ (fG Eo)).2;unfold Sr.cells at eF;have PF:=eF 1 _ I;have CG:=sX (gI xW);have lq:=(qe j0 _ (fq xW)).2;unfold De.cells at lq;have ur:=lq 1 _ I;unfold RA;refine aV func175 I I ?_
 (refine Jr<|Jy I I fun _ _=>Jz I I fun _ _=>Ja I<|Jn<|HT<|Jq ?_)
 rename_i b4 xB b8 hb8
 with_reducible refine eP 18 (by kernel_rfl) ?_
 (refine pZ I I ae<|aM (ic (.there .here)) I<|aM (cN (.there .here)) I<|mZ I I<|fQ bo I (fun w' az=>(hsrc w' (Mem.keeps az)))<|aM (aC (.of I) (.of I) rX (by omega) (by omega) bu) I<|pZ I I ae<|aM (ag (.of I) (At.base PF I)) I<|pZ I I ae<|aM (ic (.there .here)) I<|aM (cN (.there .here)) I<|mZ I I<|fQ bo I (fun w' az=>(xZ w' (Mem.keeps az)))<|aM (aC (.of I) (.of I) CG (by omega) (by omega) bu) I<|pZ I I ae<|aM (ag (.of I) (At.base ur I)) I<|aM (cd (.of I)) I<|aM (cd (.of I)) I ?_)
 with_reducible refine eU ?_
 rw [<- xT,<- Om]
 (refine Jn<|Jq<|Jr<|Jv I<|Jv I<|JC I<|Jn<|gR I (fun aA=>?_) fun aA=>?_;refine Jr<|ab (aX .nil an) I<|aq (.of I) (.of I) .here I I (gK I I) (bF I) an<|Ja I<|Jn<|Ju<|sG ?_;rotate_left;refine Jk<|Jr<|ab (cN (.there .here)) I<|Jv I<|Jv I ?_;rotate_right)
 ·refine yB ?_
  with_reducible first|apply aP|apply aQ
  case he=>exact tl I inferInstance I (.there .here) an (by rfl) (by rfl)
  case hR=>
   intro w' az;exact aF (true,⟨.z,[],0⟩,[]) ⟨fun _=>⟨y8 (show jH r so=_ by rw [nr rO];exact aA),.inr I⟩,(fun e=>by cases e),I⟩ (by exact .h1 .nil) az I
 refine JN ek I (fun w1 aY=>LI (s:=.slice a2 r.sr.length l9) (d:=.slice a3 r.de.length pb) (t:=.slice a r.ti.length cp) (p:=p) v so (h.keeps aY.keeps) (by omega) rO) ?_;rintro ⟨wv,W⟩ hW;have hS:=qg.begin hn hV v (de:=de) rO h6 aA hW;clear aA;dsimp only [id_eq,Zb,Za];refine aT (E:=244) (sz:=2) (by exact .here) fun va vc e=>?_;subst e
 (refine Jz I I fun _ _=>aq (.of I) (.of I) .here I I (dG I) (bF I) an<|Ji<|Jz I I fun _ _=>Ji<|Ja I<|Jn<|Jq<|HX<|Jt<|Jq<|J0 ?_)
 rename_i Bc Su Hq Vf;refine Gp (E:=244) (sz:=2) bO ?_
 refine E2 (ι:=Value×List Wy×List Wy) (fun x=>qg (eh r r.po v so) (gQ r de) x.2.1 x.2.2)
  (fun x=>[(14,.bool false),(13,.p Hq),(12,.p Bc),(11,.q (gQ r de)),(8,.p b8),(4,.p b4),(1,.q v)])
  (fun x=>[bA Bc (.cells #[x.1] 329 (0,0)),kS 244 2 x.1 x.2.1.length (nf x.2.1),iN x.2.2,bA Hq (.cells #[.z,.q 0] 244 (0,0)),bA b8 (.cells #[.z,.q 0] 244 (0,0)),
   JP b4 r (.slice a2 r.sr.length l9) (.slice a3 r.de.length pb) (.slice a r.ti.length cp) p]) (fun x=>(eh r r.po v so).wt (x.2.1.map Wy.p)) ?_ ?_
 ·apply yx (.slice va W.length vc,W,W) hS
  case hs1=>exact cB
  case ht=>
   show bK _ [bA Bc (.cells #[.slice va W.length vc] 329 (0,0)),kS 244 2 (.slice va W.length vc) W.length (nf W),iN W,bA Hq (.cells #[.z,.q 0] 244 (0,0)),bA b8 (.cells #[.z,.q 0] 244 (0,0)),
    JP b4 r (.slice a2 r.sr.length l9) (.slice a3 r.de.length pb) (.slice a r.ti.length cp) p] _
   exact .cons bO (.h1 (.cons (.there .here) (.h3 .nil)))
 rintro ⟨wv,Q,kI⟩ hS D;dsimp only at hS ⊢;have hQl:=hS.len;refine yz (by exact Take.there .here) fun qa qc e Ts X3=>?_;subst e;by_cases W5:Q.length=0
 ·have KG:Q=[]:=Z4 W5;subst KG
  (refine Jq<|Jr<|JL I .here I<|JI I<|JE I<|Jn<|Jc I fun aA=>Jp<|Jl<|Jo<|Jt<|Jr<|ab (cN c6) I<|Jv I<|aq (.of I) (.of I) dF I I (gK I I) (bF I) an<|Ja I<|Jn<|Je<|sG ?_)
  with_reducible first|apply aP|apply aQ
  case he=>exact tl I inferInstance I .here an (by rfl) (by rfl)
  case hR=>
   intro w' az;exact aF (false,⟨.z,[],0⟩,kI) ⟨(fun e=>by cases e),(fun _=>Wn.Kl hS.inv),I⟩ (by exact .cons c6 .nil) az I
 ·refine Jq<|Jr<|JL I .here I<|JI I<|JE I<|Jn<|Jd I fun aA=>Jk<|J0<|Jr<|JL I .here I ?_
  with_reducible apply fW (As:=[kS 244 2 (.slice qa Q.length qc) Q.length (nf Q),iN kI])
  case hr=>exact bo
  case hd=>rfl
  case ht=>exact qv
  case hc=>
   intro w1 Bx aY wm hs1 Dm _;exact Ig wm hs1 I hS.sub (by omega) hS.one
  rintro Q' ⟨iB,Uy⟩;have Vo:Q'.length=Q.length:=iB.length_eq
  replace hS:=hS.perm iB
  dsimp only [id_eq,Zb,Za];have hwt:=Wn.EW (N:=eh r r.po v so) (iB.map Wy.p);rw [<- Vo] at W5 hQl Ts ⊢;clear iB;cases Q' with
  | nil=>exact absurd rfl W5
  | cons x R =>
   clear W5 Vo;obtain ⟨xv,xp,xf⟩:=x;have Wv:=hS.sub ⟨xv,xp,xf⟩ (by simp);have Wx:xv.oneCell'=true:=hS.one ⟨xv,xp,xf⟩ Wv;have tS:(eh r r.po v so).ok xp/\xp≠[]:=hS.inv.ok xp (by simp);have hwx:nf (⟨xv,xp,xf⟩::R)=[xv,.int .i64 (xf:Nat)]++nf R:=rfl;have hlR:((⟨xv,xp,xf⟩:Wy)::R).length=R.length+1:=rfl;rw [hlR] at Ts hQl;rw [hlR,hwx];refine Ji<|JL I bO I ?_;refine BF (by exact .here) (Nat.succ_pos _) fun g off il pre cur e jI kM aY hfit hlen=>?_;cases e;have c0:eu (pre++([xv,.int .i64 (xf:Nat)]++nf R)++cur) (off+0*2) 2=[xv,.int .i64 (xf:Nat)]:=by
    rw [jl,Zh,Zbn,Zay,<- jI,List.drop_left];rfl
   (refine ab (aC (.of I) (.of I) I (by omega) (by omega) bu) I<|ab (bL (.of I) .here c0 I) I<|Jz I I fun _ _=>aq (.of I) (.of I) .here I I (gK Wx I) (bF I) an<|Ji<|JL I c6 I<|ab (qx (.of I) (.of I) (by omega) (by omega)) I<|aq (.of I) (.of I) c6 I I (dG I) (bF I) an<|Jn<|Jq ?_)
   rename_i S1 Y6;refine BE (n:=R.length+1) (sz:=2) (cap:=qc) bO jI kM aY hfit hlen ?_;refine BD (by exact .here) ?_;rw [show ([xv,.q (xf:Nat)]++nf R).drop 2=nf R from I];refine vk Wv c6 fun nZ Ss=>?_;have Pz:0<xp.length:=List.length_pos_iff.2 tS.2;have Wu:xp.length<=r.ti.length:=Wn.sP tS.1;have hxf:xf<=6:=by
    have h0:xf=(eh r r.po v so).uv xp:=hS.uv ⟨xv,xp,xf⟩ (by simp);have:=List.countP_le_length (p:=(eh r r.po v so).fe) (l:=xp);unfold Wn.uv at h0;omega
   refine dP (by exact Take.there .here) Pz fun g2 dL aax e Sq Yl we FJ=>?_;cases e;obtain ⟨l,hl⟩:∃ l,xp[xp.length-1]=l:=⟨_,rfl⟩;have Of:l<r.ti.length:=Wn.vJ tS.1 l (hl ▸ Zj _);have c1:(fY xp++aax)[((xp.length:Int)-1).toNat*1]? = some (.int .i64 (l:Nat)):=by
    rw [show ((xp.length:Int)-1).toNat=xp.length-1 by omega,Co (by omega),hl]
   have Ox:=ha (eV Of);have iE:=(hc l _ (ed Of)).2;unfold Ti.cells at iE;have Y1:=iE 2 _ I;have mR:(eh r r.po v so).fin xp=(r.ti[l]).to:=by
    unfold Wn.fin;rw [List.getLast?_eq_getElem?,Zc (by omega),hl];show (fM r l).to=_;rw [iG Of]
   with_reducible refine eP 14 (by kernel_rfl) ?_
   (refine pZ I I ae ?_;refine aM (ic nR) I ?_;refine pZ I I ae ?_;refine aM (ic dF) I ?_;refine pZ I I ae ?_;refine aM (ic dF) I ?_;refine aM (bz (.of I)) I ?_;refine aM (Ab (.of I) (.of I) (Ug (by omega))) I ?_;refine aM (aC (.of I) (.of I) I (by omega) (by omega) bu) I ?_;refine aM (ag (.of I) (At.pj .here c1)) I ?_;refine aM (aC (.of I) (.of I) Ox (by omega) (by omega) bu) I ?_;refine pZ I I ae ?_;refine aM (ag (.of I) (At.base Y1 I)) I ?_;refine aM (cd (.of I)) I ?_)
   with_reducible refine eU ?_
   rw [<- mR];refine dq (by exact .here) Sq Yl we FJ ?_;refine pB (W:=nZ) ⟨.w g2 xp.length dL,xp,xf⟩ (n:=xp.length) (x:=fY xp) (by exact Take.there .here) (by exact .here) I I ?_;have Vd:∀ y,y∈nZ++[(⟨.w g2 xp.length dL,xp,xf⟩:Wy)]↔y∈kI:=fun y=>by rw [Ss,Zq,ZB];exact Or.comm
   generalize nZ++[(⟨.w g2 xp.length dL,xp,xf⟩:Wy)]=S0 at Vd ⊢
   (refine Jn<|Jq<|Jr<|Jv I<|Jv I<|JC I<|Jn<|gR I (fun aA=>?_) fun aA=>?_;refine Jr<|ab (cN c6) I<|aq (.of I) (.of I) dF I I (gK I I) (bF I) an<|Ja I<|Jn<|Jp<|vj I<|Jl<|Jo<|Jt<|Jr<|ab (cN .here) I<|Jv I<|aq (.of I) (.of I) fx I I (gK I I) (bF I) an<|Ja I<|Jn<|Je<|sG ?_;rotate_left;refine Jk<|Jr<|ab (cN qY) I<|Jv I<|Jv I ?_;rotate_right)
   ·with_reducible first|apply aP|apply aQ
    case he=>exact tl I inferInstance I .here an (by rfl) (by rfl)
    case hR=>
     intro w' az;exact aF (true,⟨.w g2 xp.length dL,xp,xf⟩,S0) ⟨(fun _=>⟨qg.found hS Uy aA,.inl ((Vd _).2 Wv)⟩),(fun e=>by cases e),I⟩ (by exact .cons bO .nil) az I
   with_reducible apply jt
   case hr=>exact ek
   case hd=>rfl
   case ht=>exact bK.nil
   case hc=>
    intro w1 fp aY _ hs1;obtain rfl:fp=[]:=hs1;exact sU (s:=.slice a2 r.sr.length l9) (d:=.slice a3 r.de.length pb) (t:=.slice a r.ti.length cp) (p:=p) v ((eh r r.po v so).fin xp) (h.keeps aY.keeps)
   intro y _;dsimp only [id_eq,Zb,Za];have tV:(fH r v ((eh r r.po v so).fin xp) r.ti.length).length<=r.ti.length:=by
    have:=Z5 (CI r v ((eh r r.po v so).fin xp)) (List.range r.ti.length);rw [Zar] at this;exact this
   refine Jn<|J0 ?_
   refine jn (ps:=[73,74]) (f:=240) (first:=[]) (cap:=[.pointer (some ⟨y.1,0,none⟩),.pointer (some ⟨y.2.1,0,none⟩),.pointer (some ⟨y.2.2,0,none⟩)]) (ι:=Value×List Wy×List Wy) (κ:=Empty)
    (rst:=[bA Hq (.cells #[.z,.q 0] 244 (0,0)),bA b8 (.cells #[.z,.q 0] 244 (0,0)),JP b4 r (.slice a2 r.sr.length l9) (.slice a3 r.de.length pb) (.slice a r.ti.length cp) p]) ?hg
    [JP y.1 r (.slice a2 r.sr.length l9) (.slice a3 r.de.length pb) (.slice a r.ti.length cp) p,bA y.2.1 (.cells #[.q ((eh r r.po v so).fin xp)] 3 (0,0)),bA y.2.2 (.cells #[.q v] 3 (0,0))] (Mi r v ((eh r r.po v so).fin xp)) ?hit
    (fun k x=>x.2.1.map wk=(((fH r v ((eh r r.po v so).fin xp) r.ti.length).take k).filter fun i=>!xp.contains i).map (fun i=>(xf+1,xp++[i]))/\(∀ z∈R++x.2.1,z∈x.2.2)/\(∀ z∈x.2.2,z.v.oneCell'=true)/\(⟨.w g2 xp.length dL,xp,xf⟩:Wy)∈x.2.2)
    (fun x=>[bA Bc (.cells #[x.1] 329 (0,0)),kS 244 2 x.1 (R.length+x.2.1.length) (nf (R++x.2.1)),iN x.2.2,bA S1 (.cells #[.w g2 xp.length dL,.q (xf:Nat)] 244 (0,0))])
    (fun _=>False) (fun _=>[]) (fun _=>.ret) (Go.sliced (some ⟨g,off,none⟩) 1 (R.length+1) qc 2,[],S0) ⟨I,(fun z hz=>(Vd z).2 (hS.sub z (by rw [ZQ] at hz;exact ZT _ hz))),(fun z hz=>hS.one z ((Vd z).1 hz)),(Vd _).2 Wv⟩ ?ht ?hlen ?hps ?round ?kn ?kj
   case hg=>exact Is.of I
   case hit=>intro w' az;exact J7 v _ h RO.nil (by omega)
   case ht=>
    show bK _ [bA Bc (.cells #[Go.sliced (some ⟨g,off,none⟩) 1 (R.length+1) qc 2] 329 (0,0)),kS 244 2 (Go.sliced (some ⟨g,off,none⟩) 1 (R.length+1) qc 2) R.length (nf (R++[])),iN S0,bA S1 (.cells #[.w g2 xp.length dL,.q (xf:Nat)] 244 (0,0)),
     JP y.1 r (.slice a2 r.sr.length l9) (.slice a3 r.de.length pb) (.slice a r.ti.length cp) p,bA y.2.1 (.cells #[.q ((eh r r.po v so).fin xp)] 3 (0,0)),bA y.2.2 (.cells #[.q v] 3 (0,0))] _
    rw [ZQ];exact .cons fx (.cons dF (.cons c6 (.cons c6 (.h3 .nil))))
   case hlen=>intro vs oS;obtain ⟨x,_,rfl⟩:=Zw.1 oS;rfl
   case hps=>intro t ht;simp only [ZO,Zo,or_false] at ht;rcases ht with rfl | rfl <;> exact Zax rfl
   case kj=>intro y;cases y
   case kn=>
    rintro ⟨Qq,W,C2⟩ D2 ⟨hW,iV,jc,Eg⟩;dsimp only [Zb,Za] at hW iV jc Eg ⊢;rw [uT,ZN] at hW;obtain ⟨W4,fS⟩:=qg.next hS aA iV jc hW;refine Jj<|Jj<|Jt ?_;apply BG (Qq,R++W,C2) W4 (by rw [<- hwt];exact fS)
    case hs1=>exact cB
    case ht=>
     show bK _ [bA Bc (.cells #[Qq] 329 (0,0)),kS 244 2 Qq (R++W).length (nf (R++W)),iN C2,bA Hq (.cells #[.z,.q 0] 244 (0,0)),bA b8 (.cells #[.z,.q 0] 244 (0,0)),
      JP b4 r (.slice a2 r.sr.length l9) (.slice a3 r.de.length pb) (.slice a r.ti.length cp) p] _
     rw [Zg];exact .h3 (.cons dF (.cons dF (.cons dF .nil)))
   case round=>
    rintro l2 rc W2 VD k ⟨Qq,W,C2⟩ vs hsz hk ⟨hW,iV,jc,Eg⟩ hB hF;dsimp only at hW iV jc Eg;obtain ⟨i,hi,rfl,iY,WW⟩:=Ec hk;obtain ⟨su,KQ⟩:=Zl.1 hi;have htk:(fH r v ((eh r r.po v so).fin xp) r.ti.length).take (k+1)=(fH r v ((eh r r.po v so).fin xp) r.ti.length).take k++[i]:=by rw [Zn su,KQ]
    have PR:(nf (R++W)).length=(R.length+W.length)*2:=by rw [pz,Zg]
    have hWk:W.length<=6:=by
     have:=congrArg List.length hW;rw [Zd,Zd] at this;rw [this];refine ZZ (Z5 _ _) ?_;rw [Zs];omega
    dsimp only [Ti.cells,List.zip_cons_cons,List.zip_nil_right,ml,Zb,Za];refine Jg<|Ja I<|Jn ?_
    with_reducible apply mF
    case ht=>exact .here
    (refine J0<|Jr<|bN I I ae<|JL I dF I<|Jv I ?_)
    refine aj bo I (fun w' az=>lE (l:=nz xp) (i:Nat) (EK az c6 Eg)) ?_;rw [Cm];cases G8:xp.contains i with
    | true =>
     have Bt:((fH r v ((eh r r.po v so).fin xp) r.ti.length).take (k+1)).filter (fun i=>!xp.contains i)=((fH r v ((eh r r.po v so).fin xp) r.ti.length).take k).filter (fun i=>!xp.contains i):=by
      rw [htk,Zbh];simp only [List.filter_cons,G8,List.filter_nil];simp
     (refine JH I<|Jn<|bJ (.of I)<|Jw<|Jj ?_)
     apply lU (Qq,W,C2)
     case ht=>exact .here
     case hx=>exact ⟨by rw [Bt];exact hW,iV,jc,Eg⟩
     case h2=>exact .h4 .nil
    | false =>
     have Bt:((fH r v ((eh r r.po v so).fin xp) r.ti.length).take (k+1)).filter (fun i=>!xp.contains i)=((fH r v ((eh r r.po v so).fin xp) r.ti.length).take k).filter (fun i=>!xp.contains i)++[i]:=by
      rw [htk,Zbh];simp only [List.filter_cons,G8,List.filter_nil];simp
     refine JH I<|Jn<|ch (.of I) ?_;have rS:(nz xp).length=xp.length:=sR xp;have UQ:(nz xp).map (Value.int .i64)=fY xp:=by unfold nz fY;rw [ZaI];rfl
     with_reducible refine KR.HZ 12 (gD [(3,6)]) (by kernel_rfl) ?_
     refine KR.mc (fun β=>(ag (.of I) (At.lit (.there .here) I))) vZ I I ?_;refine KR.mc (fun β=>(ai (.of I) ae)) vZ I I ?_;refine KR.mc (fun β=>(ag (.of I) (At.lit dF I))) vZ I I ?_;dsimp only [Nat.zero_add,Nat.reduceAdd]
     with_reducible apply KR.LV (ι:=Value) (Φ:=fun _=>True) (val:=id) (own:=fun v=>[row 3 1 v xp.length (fY xp)]) (g:=id) (B:=[]) (args:=fun _=>[.w g2 xp.length dL])
     case hg=>exact fun x=>⟨x,I⟩
     case hB=>rfl
     case hr=>exact fun β=>a8 (.of I) (.o I .nil) inferInstance I
     case hd=>rfl
     case hn=>rfl
     case hc=>
      intro β w' hb;have:=OW (l:=nz xp) (EK hb.mem c6 Eg) (by rw [sR];omega);rwa [rS,UQ] at this
     dsimp only [id_eq,Nat.reduceAdd];refine KR.mc (fun β=>(aL (.of I))) vZ I I ?_;refine KR.Gf (fun β=>(aB (.o I .nil) I I I I)) (fun _ _ _=>rfl) I I ?_;dsimp only [Nat.reduceAdd]
     with_reducible apply KR.EO (jx:=3) (n0:=xp.length) (xs:=fY xp) (news:=[[.q (i:Nat)]]) (Vx:=fun β=>β 3) (Vy:=fun β=>.slice (some ⟨ep (β 5),0,none⟩) 1 1) (Ax:=fun β=>[row 3 1 (β 3) xp.length (fY xp)]) (B:=[5])
     case hB=>kernel_rfl
     case hS=>rfl
     case hrow=>exact fun β w' fp ⟨f1,f2,e,h,h0⟩=>by obtain rfl:f2=[]:=h0;rw [e,ZQ];exact h
     case htk=>exact pD I I
     case hti=>rfl
     case h0=>rfl
     case hwx=>kernel_rfl
     case hx=>exact fun β=>.of I
     case hy=>exact fun β=>.of I
     case hsrc=>
      intro β w' hb;have m6:=hb.at 5 (by simp) (s:=⟨fun β=>.slice (some ⟨ep (β 5),0,none⟩) 1 1,fun β=>[bA (ep (β 5)) (.cells #[.q (i:Nat)] 3 (0,0))]⟩) (by kernel_rfl)
      dsimp only [Zb,Za] at m6;exact Mem.dB m6 (by exact .here) I I
     case h1=>
      intro r hr u hu;simp only [ZB] at hr;subst hr;simp only [ZB] at hu;subst hu;rfl
     case hz=>rfl
     case hsz=>rfl
     case hb0=>rfl
     case hb=>simp only [Zbj];omega
     case hd=>rfl
     case hne=>simp
     rw [show ([[Value.int .i64 (i:Nat)]]:List (List Value)).flatten=[.q (i:Nat)] from I,show ([[Value.int .i64 (i:Nat)]]:List (List Value)).length=1 from I];dsimp only [Nat.reduceAdd];refine KR.mc (fun β=>(ai (.of I) ae)) vZ I I ?_;refine KR.mc (fun β=>(ag (.of I) (At.lit dF I))) vZ I I ?_;refine KR.mc (fun β=>(IF (.of I) (.of I) (Ug (by omega)))) vZ I I ?_
     with_reducible apply KR.mc (F:=fun β=>.agg #[.slice (xC (β 6)).1 (xp.length+1) (xC (β 6)).2,.q ((xf:Nat)+1)])
     case hr=>(intro β;exact aX (.o I (.o I .nil)) an)
     case hi=>exact fun β β' h=>by simp only [h 6 (by kernel_rfl)]
     case hd=>rfl
     case hn=>rfl
     dsimp only [Nat.reduceAdd]
     with_reducible apply KR.Gf (V:=fun b=>.w b 1 1) (ob:=fun β=>.cells #[.slice (xC (β 6)).1 (xp.length+1) (xC (β 6)).2,.q ((xf:Nat)+1)] 244 (0,0))
     case hr=>(intro β;exact bD (.o I .nil) I I bV bV an)
     case hi=>exact fun β β' h=>by simp only [h 6 (by decide) (by kernel_rfl)]
     case hd=>rfl
     case hn=>rfl
     dsimp only [Nat.reduceAdd];refine KR.S5 fun β=>?_
     change Tr _ _ _ [bA (ep (β 5)) (.cells #[.q (i:Nat)] 3 (0,0)),row 3 1 (.slice (xC (β 6)).1 (xp.length+1) (xC (β 6)).2) (xp.length+1) (fY xp++[.q (i:Nat)]),bA (ep (β 11)) (.cells #[.slice (xC (β 6)).1 (xp.length+1) (xC (β 6)).2,.q ((xf:Nat)+1)] 244 (0,0)),
      bA l2 (fX rc .busy none),bA Bc (.cells #[Qq] 329 (0,0)),kS 244 2 Qq (R.length+W.length) (nf (R++W)),iN C2,bA S1 (.cells #[.w g2 xp.length dL,.q (xf:Nat)] 244 (0,0))] _
     generalize ep (β 5)=b5;generalize ep (β 11)=Qf;generalize (xC (β 6)).1=ea;generalize (xC (β 6)).2=ec;refine tN (rs:=[12]) (by kernel_rfl) (by simp) (Zt.2 ⟨?_,fun _ h=>absurd h Zo⟩);refine vL I ?_
     with_reducible apply DE
     case hx=>exact Is.of I
     case hy=>exact Is.of I
     case ht=>exact fx
     case hn=>exact eO.bA bO (show eu [.slice ea (xp.length+1) ec,.q ((xf:Nat)+1)] 0 2=[.slice ea (xp.length+1) ec,.q ((xf:Nat)+1)] from I)
     case hl=>rfl
     case h1=>exact aU I (dG I)
     case hz=>exact I
     case hsz=>exact I
     case hb0=>exact I
     case hb=>omega
     case hd=>rfl
     intro v';refine yz (by exact .here) fun a' il e Mo xS=>?_;subst e;refine Jn ?_;refine tN (rs:=[13]) (by kernel_rfl) (by simp) (Zt.2 ⟨?_,fun _ h=>absurd h Zo⟩);refine vL I ?_
     (refine aq (.of I) (.of I) fx I I (dG I) (bF I) an<|Jn ?_)
     with_reducible refine Ed (by kernel_rfl) ?_
     refine qj ?_;refine pB (W:=C2) ⟨.slice ea (xp.length+1) ec,xp++[i],xf+1⟩ (n:=xp.length+1) (x:=fY xp++[.q (i:Nat)]) qY c6 (by simp) (by unfold fY;rw [Zz];rfl) ?_;have Um:nf (R++(W++[⟨.slice ea (xp.length+1) ec,xp++[i],xf+1⟩]))=nf (R++W)++[.slice ea (xp.length+1) ec,.q ((xf:Nat)+1)]:=by rw [<- Zh];exact zG (R++W) _
     have Ul:R.length+(W++[(⟨.slice ea (xp.length+1) ec,xp++[i],xf+1⟩:Wy)]).length=R.length+W.length+1:=by simp [Nat.add_assoc]
     apply lU (.slice a' (R.length+W.length+1) il,W++[⟨.slice ea (xp.length+1) ec,xp++[i],xf+1⟩],C2++[⟨.slice ea (xp.length+1) ec,xp++[i],xf+1⟩])
     case ht=>exact fx
     case hx=>
      refine ⟨?_,?_,?_,?_⟩
      ·rw [Bt,Zz,Zz,hW];rfl
      ·intro z hz;rw [<- Zh] at hz;rcases Zq.1 hz with hz | hz
       ·exact ZD _ (iV z hz)
       ·exact ZM _ hz
      ·intro z hz;rcases Zq.1 hz with hz | hz
       ·exact jc z hz
       ·rw [ZB.1 hz];rfl
      ·exact ZD _ Eg
     case h2=>
      show bK _ [bA Bc (.cells #[.slice a' (R.length+W.length+1) il] 329 (0,0)),kS 244 2 (.slice a' (R.length+W.length+1) il) (R.length+(W++[(⟨.slice ea (xp.length+1) ec,xp++[i],xf+1⟩:Wy)]).length) (nf (R++(W++[⟨.slice ea (xp.length+1) ec,xp++[i],xf+1⟩]))),iN (C2++[⟨.slice ea (xp.length+1) ec,xp++[i],xf+1⟩]),bA S1 (.cells #[.w g2 xp.length dL,.q (xf:Nat)] 244 (0,0))] _;rw [Ul,Um];exact .cons (.there .here) (.cons (.there .here) (.h1 (.cons bO .nil)))
def kO (r:Ro) (v:Int) (so de:ByteArray):Option (List Nat):=match (eh r r.po v so).all (gQ r de) ((eh r r.po v so).n+1) [] with
 | []=>none
 | a::l=>some (uh (eh r r.po v so).lt a l)
theorem yr (h:(eh r r.po v so).least (gQ r de) p):kO r v so de=some p:=by
 unfold kO;split
 ·rename_i e;exact absurd h.2.1 (Wn.all_none e p h.1)
 ·rename_i a l e;rw [Wn.vS (Wn.SY e) h]
theorem yt (h:∀ q,(eh r r.po v so).ok q->(eh r r.po v so).fin q≠gQ r de):kO r v so de=none:=by
 unfold kO;split
 ·rfl
 ·rename_i a l e;have:=Wn.SY e;exact absurd this.2.1 (h _ this.1)
theorem MJ (h:(eh r r.po v so).least (gQ r de) p):∀ i∈p,i<r.ti.length:=Wn.vJ h.1
def kP (r:Ro) (v:Int) (so de:ByteArray):Int:=ba [fT r,Dg r v,Na r so,ux r de]
theorem Pj {n:Int} (h0:0<=n) (h1:n<9223372036854775808):IntKind.i64.wrap n=n:=by simp [IntKind.wrap,IntKind.bits,IntKind.signed];omega
theorem uD (h:kP r v so de=0):qX r/\(0<=v/\v<r.lv)/\so∈cz r/\de∈bY r:=by
 unfold kP at h;rw [bP] at h;have h1:=uo (h _ Zp);have h2:=h (Dg r v) (by simp);have h3:=(bC (by decide)).1 (h (Na r so) (by simp));have h4:=(bC (by decide)).1 (h (ux r de) (by simp));have hl:=h1.lim;unfold Dg at h2;rw [Pj (by omega) (by omega),gB] at h2;rw [decide_eq_false_iff_not,cm,Classical.not_not] at h3 h4;exact ⟨h1,by omega,h3,h4⟩
theorem nL {s d t p:Value} (v:Int) (so de:ByteArray) {w:World} (h:RR w r s d t p) (cJ:me r):ao T_ 151 [RA r s d t p,.q v,.string so,.string de] w (.q (kP r v so de)):=by
 obtain ⟨h1,h2,h3,h4⟩:=h.one;have fB:∀ w',aH [] w w'->ao T_ 34 [.agg #[.int .i64 r.lv,.int .i64 r.ma,s,d,t,p]] w' (.int .i64 (fT r)):=fun w' hk=>eT (h.keeps hk) cJ
 have hle:∀ w',aH [] w w'->ao T_ 114 [.agg #[.q r.lv,.q r.ma,s,d,t,p],.q v] w' (.q (Dg r v)):=fun w' hk=>k6 v (h.keeps hk)
 have rN:∀ w',aH [] w w'->ao T_ 122 [.agg #[.q r.lv,.q r.ma,s,d,t,p],.string so] w' (.q (Na r so)):=fun w' hk=>qu so (h.keeps hk)
 have lp:∀ w',aH [] w w'->ao T_ 112 [.agg #[.q r.lv,.q r.ma,s,d,t,p],.string de] w' (.q (ux r de)):=fun w' hk=>eM de (h.keeps hk)
 unfold RA;refine ak func151 I I ?_;refine Jr<|Jy I I fun _ _=>Ja I<|Jn<|Jq ?_
 with_reducible refine cS 12 (by kernel_rfl) ?_
 (refine ar (cN .here) I<|aZ bS I (fun w' az=>(fB w' (Mem.keeps az)))<|ar (cN .here) I<|ar kL I<|aZ bo I (fun w' az=>(hle w' (Mem.keeps az)))<|ar (cN .here) I<|ar kL I<|aZ bo I (fun w' az=>(rN w' (Mem.keeps az)))<|ar (cN .here) I<|ar kL I<|aZ bo I (fun w' az=>(lp w' (Mem.keeps az)))<|eA (aB (.o I (.o I (.o I (.o I .nil)))) I I I I) I I ?_)
 with_reducible refine dz I fun bq lN=>?_
 (refine aj bS I (fun w' az=>(dE (Mem.dB az .here I I) (cg.cons (cg.cons (cg.cons (cg.cons cg.nil))))))<|Ja I<|Jn<|Je<|JT ?_)
 rfl
theorem Rw {lv:Value} {l:List Nat} {g:Nat->ByteArray} {f:FuncId} {first cap:List Value} [bQ T_ f] {w:World} (h:Rd w lv 1 (ints (nz l))) (hn:l.length<=1000000)
  (cG:∀ i∈l,∀ w',aH [] w w'->ao T_ f (first++[.q (i:Nat)]++cap) w' (.string (g i))) :
  bB T_ 176 [lv,.func (.func f) first.toArray cap.toArray] w [] (fun _:Value=>True) id (fun v=>[row 9 1 v l.length (aO (l.map g))]):=by
 obtain ⟨a,cp,b,o,rfl,dD,cr,ha,hc⟩:=h;rw [cU,sR] at *;unfold maxLen at cr;refine aV func176 I I ?_;refine Jr<|Ja I<|Ji<|Ja I<|Jn<|Jq<|Jr<|Jv I<|JI I<|Jv I<|Jn<|J0 ?_;refine aR 9 1 ?_;refine bd (ι:=Nat×Value) (fun x=>x.1<=l.length) (fun x=>[(10,.int .i64 x.1),(9,.int .i64 l.length),(8,.slice a l.length cp),(5,x.2),(1,.func (.func f) first.toArray cap.toArray)]) (fun x=>[row 9 1 x.2 x.1 (aO ((l.take x.1).map g))]) (fun x=>l.length-x.1) ?_ ?_
 ·apply aJ (0,.z) (Zi _)
  case hs1=>exact cB
  case ht=>
   exact .h1 .nil
 rintro ⟨k,v⟩ hk;dsimp only at hk ⊢;by_cases aN:k<l.length
 ·have Yo:k<(nz l).length:=by rw [sR];exact aN
  have c8:=ha (jG Yo);have hgz:(nz l)[k]=((l[k]:Nat):Int):=by simp [nz]
  have c0:w.cell? ⟨b,o+k*1,none⟩=some (.q (l[k]:Nat)):=by rw [<- hgz];exact (hc k _ (iz Yo)).2 0 _ I
  have iE:=cG _ (Zj aN);have Ku:aO ((l.take (k+1)).map g)=aO ((l.take k).map g)++[.string (g l[k])]:=by
   rw [Zn aN,Zz,fg];rfl
  have su:(aO ((l.take k).map g)).length=k*1:=by rw [dj,Zd,ZaO (by omega),Zas]
  generalize g l[k]=gk at iE Ku
  (refine Jr<|JA I<|Jn<|Jq<|Jd I fun aA=>Jk<|Jq<|J0<|Jr<|ab (gr c8 aA) I<|ab (ag (.of I) (At.base c0 I)) I<|Ja I<|Jn<|Jg<|Jv I<|Jv I<|Jv I ?_)
  refine aj bS I (fun w' az=>(iE w' (Mem.keeps az))) ?_;refine bn (aB (.o I .nil) I I I I) I (fun _ _=>?_);refine bH (.of I) (.of I) (.there .here) .here an (by rfl) (dG I) (by rfl) (by rfl) (by rfl) eC (by rfl) ?_;intro v';refine Ja I<|Jx<|Jj<|Jt<|Jg<|JB I (by omega)<|Jv I<|Jn ?_;apply aI (k+1,v') (by show k+1<=l.length;omega) (by show l.length-(k+1)<l.length-k;omega)
  case hs1=>exact cB
  case ht=>
   show bK _ [row 9 1 v' (k+1) (aO ((l.take (k+1)).map g))] _;rw [Ku];exact .h1 .nil
 ·obtain rfl:k=l.length:=by omega
  rw [ZN];refine Jr<|JA I<|Jn<|Jq<|Jc I fun aA=>Jp<|Jl<|Jo<|Jt<|Jr<|Jv I<|Ja I<|Jn<|Je ?_
  with_reducible first|apply aP|apply aQ
  case he=>exact dS I I
  case hR=>
   intro w' az;exact aF v trivial (by exact .h1 .nil) az I
theorem Qv {s d t p:Value} (i:Nat) (hi:i<r.ti.length) {b1:Nat} {w:World} (h:RR w r s d t p) (hA:BR w b1 (RC r s d t p)) :
  ao T_ 177 [.q (i:Nat),.p b1] w (.string (eY r i)):=by
 have uV:eY r i=(r.ti[i]).nm:=by unfold eY;rw [iG hi]
 have hti:=h.ti;obtain ⟨a,cp,b,o',rfl,dD,cr,ha,hc⟩:=hti;rw [bU] at *;have c8:=ha (eV hi);have aG:=(hc i _ (ed hi)).2;unfold Ti.cells at aG;have c0:=aG 0 _ I;have c4:w.cell? ⟨b1,4,none⟩=some (.slice a r.ti.length cp):=hA 4 _ I;rw [uV];refine ak func177 I I ?_
 (refine Jr<|Ja I<|Ji<|bN I I ae<|ab (ag (.of I) (At.base c4 I)) I<|Jv I<|ab (aC (.of I) (.of I) c8 (by omega) (by omega) bu) I<|bN I I ae<|ab (ag (.of I) (At.base c0 I)) I<|Ja I<|Jn<|Je<|JT ?_)
 rfl
def sC (r:Ro) (v:Int) (so de:ByteArray):Int:=if kP r v so de≠0 then kP r v so de else if (kO r v so de).isNone then 18 else 0
def qw (r:Ro) (v:Int) (so de:ByteArray):List ByteArray:=if kP r v so de≠0 then [] else ((kO r v so de).getD []).map (eY r)
theorem Wc {s d t p:Value} (v:Int) (so de:ByteArray) {w:World} (h:RR w r s d t p) (cJ:me r):bB T_ 70 [RA r s d t p,.q v,.string so,.string de] w [] (fun _:Value=>True) (fun x=>.tuple #[x,.q (sC r v so de)]) (fun x=>[row 9 1 x (qw r v so de).length (aO (qw r v so de))]):=by
 obtain ⟨h1,h2,h3,h4⟩:=h.one;unfold RA;refine aV func70 I I ?_
 (refine Jr<|Jy I I fun _ _=>Ja I<|Ja I<|Jn<|Jq<|Jr<|ab (cN .here) I<|Jv I<|Jv I<|Jv I ?_)
 rename_i b4 xB;refine aj uA I (fun w' az=>nL (s:=s) (d:=d) (t:=t) (p:=p) v so de (h.keeps az.keeps) cJ) ?_
 (refine Ja I<|Ji<|Jv I<|JD I<|Jn<|gR I (fun aA=>?_) fun aA=>?_;refine Jr<|Jv I<|Ja I<|Ja I<|Jn<|Ju ?_;rotate_left;refine Jk<|Jr<|ab (cN .here) I<|Jv I<|Jv I<|Jv I ?_;rotate_right)
 ·have e1:qw r v so de=[]:=if_pos aA;have e2:sC r v so de=kP r v so de:=if_pos aA;rw [e1,e2];refine aR 9 1 ?_
  with_reducible first|apply aP|apply aQ
  case he=>exact gl I I I
  case hR=>
   intro w' az;exact aF (.z) trivial (by exact .h1 .nil) az I
 have e0:kP r v so de=0:=Zr.1 aA;obtain ⟨dw,hv,rO,fF⟩:=uD e0;have e1:qw r v so de=((kO r v so de).getD []).map (eY r):=if_neg aA;have e2:sC r v so de=if (kO r v so de).isNone then 18 else 0:=if_neg aA
 clear aA;rw [e1,e2];refine JN uA I (fun w1 aY=>Pk (s:=s) (d:=d) (t:=t) (p:=p) v so de (h.keeps aY.keeps) dw.tL dw.val dw.EC rO fF) ?_;rintro ⟨W7,⟨xv,xp,xf⟩,kI⟩ ⟨Wx,Ww,Uk⟩;dsimp only [Wy.cells] at Wx Ww Uk ⊢;dsimp only [id_eq,Zb,Za];cases W7 with
 | false =>
  rw [yt (Ww I)]
  (refine Jv I<|JJ I I<|JJ I I<|Jz I I fun _ _=>aq (.of I) (.of I) .here I I (gK Uk I) (bF I) an<|Ja I<|Jn<|Jq<|Jr<|Jv I<|JH I<|Jn<|ch (.of I)<|Jr<|Ja I<|Ja I<|Jn<|Ju ?_)
  refine aR 9 1 ?_
  with_reducible first|apply aP|apply aQ
  case he=>exact gl I I I
  case hR=>
   intro w' az;exact aF (.z) trivial (by exact .h1 .nil) az I
 | true =>
  obtain ⟨hl,oU⟩:=Wx rfl;rw [yr hl];have hrw:(((some xp).getD []:List Nat).map (eY r)).length=xp.length:=by simp
  rw [hrw];have aN:=MJ hl;have abk:xp.length<=6:=ZZ (Wn.sP hl.1) dw.len.2.2
  (refine Jv I<|JJ I I<|JJ I I<|Jz I I fun _ _=>aq (.of I) (.of I) .here I I (gK Uk I) (bF I) an<|Ja I<|Jn<|Jq<|Jr<|Jv I<|JH I<|Jn<|bJ (.of I)<|Jk<|Jr<|bN I I ae<|JL I .here I<|ab (bI .nil (.o I .nil)) I ?_)
  with_reducible apply jt
  case hr=>exact bo
  case hd=>rfl
  case ht=>exact bK.nil
  case hc=>
   intro w1 fp aY _ hs1;obtain rfl:fp=[]:=hs1;have hA:BR w1 b4 [.int .i64 r.lv,.int .i64 r.ma,s,d,t,p]:=BR.of aY bO;have hR:=h.keeps aY.keeps;have hrd:Rd w1 xv 1 (ints (nz xp)):=by
    rcases oU with oU | oU
    ·exact EK aY (by exact Take.there .here) oU
    ·cases oU;exact Rd.nil w1 1
   exact Rw (f:=177) (g:=eY r) (first:=[]) (cap:=[.p b4]) hrd (by omega) (fun i hi w2 eL=>Qv i (aN i hi) (hR.keeps eL) (hA.keeps eL))
  intro x _;dsimp only [id_eq,Zb,Za];refine Ja I<|Ja I<|Jn<|Je ?_
  with_reducible first|apply aP|apply aQ
  case he=>exact gl I I I
  case hR=>
   intro w' az;exact aF x trivial (by exact .h1 .nil) az I
def Du (r:Ro) (wy:List ByteArray) (k:Nat):Int:=(wy[k]?.map fun x=>ba [bT (!fy (ct r) x) 10,bT (fy (wy.take k) x) 9]).getD 0
theorem uC {wy:List ByteArray} {k:Nat} (h:k<wy.length):Du r wy k=ba [bT (!fy (ct r) wy[k]) 10,bT (fy (wy.take k) wy[k]) 9]:=by
 unfold Du;rw [Zc h];rfl
def VQ (r:Ro) (v:Int) (so de:ByteArray) (wy:List ByteArray):Int:=ba [kP r v so de,bT (decide ((6:Int)<(wy.length:Nat))) 5]
def OT (r:Ro) (wy:List ByteArray):Int:=jK (Du r wy) wy.length
def Hi (r:Ro) (v:Int) (so de:ByteArray) (wy:List ByteArray):Int:=match L8 r r.po v so true (mJ r so) wy with
 | none=>19
 | some m=>bT (decide (m≠gQ r de)) 19
def SR (r:Ro) (v:Int) (so de:ByteArray) (wy:List ByteArray):Int:=if VQ r v so de wy≠0 then VQ r v so de wy else if OT r wy≠0 then OT r wy else Hi r v so de wy
theorem rb {P:Program} {c:Cx} {sl:aD} {hs:List bh} {ty:TypeId} {pos:String} {af:Array Edge} {t u:TypeId} {x y:Operand} {a b:Int} (hx:Is sl x (.int k a)) (hy:Is sl y (.int k b)) (e:a≠b) :
  cM P c sl hs ⟨dst,.binOp .neq t x y u,ty,pos,af,g⟩ (.bool true):=by
 have:=eE (P:=P) (c:=c) (hs:=hs) (dst:=dst) (ty:=ty) (pos:=pos) (af:=af) (g:=g) (t:=t) (u:=u) hx hy;rwa [decide_eq_true e] at this
theorem Fm {P:Program} {c:Cx} {sl:aD} {hs:List bh} {ty:TypeId} {pos:String} {af:Array Edge} {t u:TypeId} {x y:Operand} {a b:Int} (hx:Is sl x (.int k a)) (hy:Is sl y (.int k b)) (e:a=b) :
  cM P c sl hs ⟨dst,.binOp .neq t x y u,ty,pos,af,g⟩ (.bool false):=by
 have:=eE (P:=P) (c:=c) (hs:=hs) (dst:=dst) (ty:=ty) (pos:=pos) (af:=af) (g:=g) (t:=t) (u:=u) hx hy;rwa [decide_eq_false (not_not_intro e)] at this
theorem OC (dw:qX r) {x:ByteArray} (hx:x∈ct r):∃ l,l<r.ti.length/\eY r l=x/\gH (fun y=>decide (x=y)) (ct r)=(l:Nat)/\jR r x=(fM r l).fr/\jH r x=(fM r l).to:=by
 obtain ⟨l,hl,e⟩:=Zu hx;have xV:l<r.ti.length:=by unfold ct at hl;rwa [Zd] at hl
 have uV:eY r l=x:=by rw [<- nn xV];exact e
 obtain ⟨_,_,n3,_,_,_⟩:=dw.EC.parts;refine ⟨l,xV,uV,?_,?_,?_⟩
 ·have h1:=v8 (fun y:ByteArray=>y) (ct r) x
  rw [List.map_id'] at h1;have h2:(fun y=>decide (x=y))=fun y:ByteArray=>decide (y=x):=funext fun y=>by rw [decide_eq_decide];exact eq_comm
  rw [h2,h1];exact pS n3 hl e
 ·rw [<- uV];exact rC dw.tL n3 xV
 ·rw [<- uV];exact pQ dw.tL n3 xV
set_option maxHeartbeats 2000000 in
theorem ET {s d t p wv:Value} (v:Int) (so de:ByteArray) {wy:List ByteArray} {w:World} (h:RR w r s d t p) (cJ:me r) (hw:Rd w wv 1 (ie wy)) :
  ao T_ 71 [RA r s d t p,.q v,.string so,.string de,wv] w (.q (SR r v so de wy)):=by
 obtain ⟨h1,h2,h3,h4⟩:=h.one;have Bp:=hw;obtain ⟨aw,cw,bw,ow,rfl,KZ,wo,PO,CD⟩:=hw;rw [cu] at *;unfold maxLen at wo;have Sm:∀ w',aH [] w w'->ao T_ 151 [.agg #[.int .i64 r.lv,.int .i64 r.ma,s,d,t,p],.int .i64 v,.string so,.string de] w' (.int .i64 (kP r v so de)):=fun w' hk=>nL v so de (h.keeps hk) cJ
 unfold RA;refine ak func71 I I ?_
 (refine Jr<|Jy I I fun _ _=>Ja I<|Jn<|Jq<|Jr<|ab (cN .here) I<|Jv I<|Jv I<|Jv I<|aj uA I (fun w' az=>(Sm w' (Mem.keeps az)))<|Jv I<|JI I<|JE I<|aj bo I (fun w' az=>(dO _ 5 w'))<|bn (aB (.o I (.o I .nil)) I I I I) I fun _ _=>aj bS I (fun w' az=>(dE (Mem.dB az .here I I) (cg.cons (cg.cons cg.nil))))<|Ja I<|Ji<|Jv I<|JD I<|Jn<|gR I (fun aA=>?_) fun aA=>?_;refine Jr<|Jv I<|Ja I<|Jn<|Ju<|JT ?_;rotate_left;refine Jk<|Jr<|bN I I ae<|JL I (.there .here) I ?_;rotate_right)
 ·have e1:SR r v so de wy=VQ r v so de wy:=if_pos aA;rw [e1];rfl
 have Bw:VQ r v so de wy=0:=Zr.1 aA;have hX:SR r v so de wy=if OT r wy≠0 then OT r wy else Hi r v so de wy:=if_neg aA
 clear aA;obtain ⟨dw,hv,rO,fF⟩:=uD (bP.1 Bw _ Zp);have h6:wy.length<=6:=by
  have:=(bC (by decide)).1 (bP.1 Bw (bT (decide ((6:Int)<(wy.length:Nat))) 5) (by simp));simp only [decide_eq_false_iff_not] at this;omega
 have ht6:=dw.len.2.2;rename_i b5 Mu bq lN;refine JN bo I (fun w1 aY=>Fx (f:=119) (first:=[]) (cap:=[]) (g:=Ti.nm) (h.keeps aY.keeps).ti (by omega) (fun x _ w2 _=>D9 x w2)) ?_
 intro nv _;dsimp only [id_eq,Zb,Za];refine aT (by exact .here) fun na nc e=>?_;subst e;have rS:(ct r).length=r.ti.length:=by unfold ct;rw [Zd]
 rw [show r.ti.map Ti.nm=ct r from I];refine Ja I<|Jn<|Jq<|Jr<|Jv I<|JI I<|Jv I<|Jn<|J0 ?_
 refine bd (fun k:Nat=>k<=wy.length/\∀ i,i<k->Du r wy i=0) (fun k=>[(41,.q (k:Nat)),(40,.q (wy.length:Nat)),(39,.slice aw wy.length cw),(12,.slice na r.ti.length nc),(4,.slice aw wy.length cw),(5,.p b5),(1,.q v),(2,.string so),(3,.string de)])
  (fun k=>[row 9 1 (.slice na r.ti.length nc) r.ti.length (aO (ct r)),JP b5 r s d t p]) (fun k=>wy.length-k) ?_ ?_
 ·apply aJ 0 ⟨Zi _,fun i hi=>by omega⟩
  case hs1=>exact cB
  case ht=>(try simp only [Ze,Zf,Za]);exact .h1 (.cons (.there .here) .nil)
 rintro k ⟨hk,hf⟩;by_cases aN:k<wy.length
 ·have AT:=PO (lk aN);have c0:w.cell? ⟨bw,ow+k*1,none⟩=some (.string wy[k]):=(CD k _ (jf aN)).2 0 _ I;have jJ:=uC (r:=r) aN;have YV:∀ (w':World),Rd w' (.slice na r.ti.length nc) 1 (ie (ct r))->ao T_ 179 [.slice na r.ti.length nc,.string wy[k]] w' (.bool (fy (ct r) wy[k])):=fun w' hr=>kz _ hr
  have ss:Rd w (Go.sliced aw 0 (k:Int).toNat cw 1) 1 (ie (wy.take k)):=by
   have:=Bp.sliced (l:=0) (m:=k) (Zi _) (by omega);rw [Zy];rwa [List.drop_zero,show (ie wy).take k=ie (wy.take k) by unfold ie;rw [ZaN]] at this
  have YU:∀ w',aH [] w w'->ao T_ 179 [Go.sliced aw 0 (k:Int).toNat cw 1,.string wy[k]] w' (.bool (fy (wy.take k) wy[k])):=fun w' hk=>kz _ (ss.keeps hk)
  (refine Jr<|JA I<|Jn<|Jq<|Jd I fun aA=>Jk<|Jq<|J0<|Jr<|Jv I<|ab (aC (.of I) (.of I) AT (by omega) aA bu) I<|ab (ag (.of I) (At.base c0 I)) I<|Ja I<|Ja I<|Jn<|Jq ?_)
  with_reducible refine cS 12 (by kernel_rfl) ?_
  (refine ar kL I<|ar kL I<|aZ bo I (fun w' az=>(YV w' (dA az .here rS)))<|ar (fC (.of I)) I<|aZ bo I (fun w' az=>(dO _ 10 w'))<|ar kL I<|ar kL I<|ar (gE (.of I) (.of I) (by omega) (by omega)) I<|ar kL I<|aZ bo I (fun w' az=>(YU w' (Mem.keeps az)))<|aZ bo I (fun w' az=>(dO _ 9 w'))<|eA (aB (.o I (.o I .nil)) I I I I) I I ?_)
  with_reducible refine dz I fun bq lN=>?_
  (refine aj bS I (fun w' az=>(dE (Mem.dB az .here I I) (cg.cons (cg.cons cg.nil))))<|Ja I<|Ji<|Jv I<|JD I<|Jn<|gR I (fun aA=>?_) fun aA=>?_;refine Jr<|Jv I<|Ja I<|Jn<|Je<|Jm<|Jh<|Jh<|Jm<|Jh<|JT ?_;rotate_left;refine Jw<|Jj<|Jt<|Jg<|JB I (by omega)<|Jv I<|Jn ?_;rotate_right)
  ·rw [<- jJ] at aA ⊢;have hB:OT r wy=Du r wy k:=fj hf aN aA;rw [<- hB] at aA ⊢;rw [hX,if_pos aA]
  have hz:Du r wy k=0:=by rw [jJ];exact Zr.1 aA
  apply aI (k+1) ⟨by omega,fun i hi=>by
   by_cases e:i=k
   ·rw [e];exact hz
   ·exact hf i (by omega)⟩ (by omega)
  case hs1=>exact cB
  case ht=>(try simp only [Ze,Zf,Za]);exact .cons (.there .here) (.cons (.there .here) .nil)
 ·obtain rfl:k=wy.length:=by omega
  have SC:OT r wy=0:=dC.2 hf;rw [hX,if_neg (by rw [SC];decide)];refine Jr<|JA I<|Jn<|Jq<|Jc I fun aA=>Jp<|Jl<|Jo<|Jt<|Jq ?_;have hti:=h.ti;obtain ⟨a,cp,b,o',rfl,dD,cr,ha,hc⟩:=hti;have GY:=h.sr;obtain ⟨a2,l9,b2,o2,rfl,kp,fh,js,jT⟩:=GY;have lp:=h.de;obtain ⟨a3,pb,b3,o3,rfl,mS,gi,sX,qe⟩:=lp;rw [bU] at *;rw [cy] at *;rw [bZ] at *;unfold maxLen at cr fh gi;obtain ⟨i0,uX⟩:∃ i:Nat,br (cz r) so=(i:Nat):=⟨(br (cz r) so).toNat,by have:=cF rO;omega⟩;have Eo:i0<r.sr.length:=by
   obtain ⟨hl,_⟩:=ei (l:=cz r) (s:=so) (by omega);rw [uX,Zy] at hl;unfold cz at hl;rwa [Zd] at hl
  obtain ⟨j0,wz⟩:∃ i:Nat,br (bY r) de=(i:Nat):=⟨(br (bY r) de).toNat,by have:=cF fF;omega⟩;have xW:j0<r.de.length:=by
   obtain ⟨hl,_⟩:=ei (l:=bY r) (s:=de) (by omega);rw [wz,Zy] at hl;unfold bY at hl;rwa [Zd] at hl
  have xT:mJ r so=(r.sr[i0]).mx:=by unfold mJ;rw [uX,Zy,Zk,Zc Eo];rfl
  have Om:gQ r de=(r.de[j0]).mx:=by unfold gQ;rw [wz,Zy,Zk,Zc xW];rfl
  have hsrc:∀ w',aH [] w w'->ao T_ 180 [.agg #[.q r.lv,.q r.ma,.slice a2 r.sr.length l9,.slice a3 r.de.length pb,.slice a r.ti.length cp,p],.string so] w' (.q (i0:Nat)):=fun w' hk=>uX ▸ mI so (h.keeps hk)
  have xZ:∀ w',aH [] w w'->ao T_ 155 [.agg #[.q r.lv,.q r.ma,.slice a2 r.sr.length l9,.slice a3 r.de.length pb,.slice a r.ti.length cp,p],.string de] w' (.q (j0:Nat)):=fun w' hk=>wz ▸ fw de (h.keeps hk)
  have rX:=js (gW Eo);have eF:=(jT i0 _ (fG Eo)).2;unfold Sr.cells at eF;have PF:=eF 1 _ I;have CG:=sX (gI xW);have lq:=(qe j0 _ (fq xW)).2;unfold De.cells at lq;have ur:=lq 1 _ I;have dZ:∀ x∈wy,x∈ct r:=fun x hx=>by
   obtain ⟨k,hk,rfl⟩:=Zu hx;have:=hf k hk;rw [uC hk,bP] at this;have h0:=(bC (by decide)).1 (this (bT (!fy (ct r) wy[k]) 10) (by simp));exact dN.1 (by simpa using h0)
  clear hX hf
  with_reducible refine eP 9 (by kernel_rfl) ?_
  (refine pZ I I ae<|aM (ic (.there .here)) I<|aM (cN (.there .here)) I<|mZ I I<|fQ bo I (fun w' az=>(hsrc w' (Mem.keeps az)))<|aM (aC (.of I) (.of I) rX (by omega) (by omega) bu) I<|pZ I I ae<|aM (ag (.of I) (At.base PF I)) I<|aM (cd (.of I)) I ?_)
  with_reducible refine eU ?_
  rw [<- xT];refine Jn<|Jq<|Jr<|Jv I<|JI I<|Jv I<|Jn<|J0 ?_
  refine bd (ι:=Nat×Int) (fun x=>x.1<=wy.length/\L8 r r.po v so true (mJ r so) wy=L8 r r.po v so (decide (x.1=0)) x.2 (wy.drop x.1)) (fun x=>[(73,.q (x.1:Nat)),(72,.q (wy.length:Nat)),(71,.slice aw wy.length cw),(16,.q x.2),(12,.slice na r.ti.length nc),(5,.p b5),(1,.q v),(2,.string so),(3,.string de)])
   (fun _=>[row 9 1 (.slice na r.ti.length nc) r.ti.length (aO (ct r)),JP b5 r (.slice a2 r.sr.length l9) (.slice a3 r.de.length pb) (.slice a r.ti.length cp) p]) (fun x=>wy.length-x.1) ?_ ?_
  ·apply aJ (0,mJ r so) ⟨Zi _,I⟩
   case hs1=>exact cB
   case ht=>(try simp only [Ze,Zf,Za]);exact .h2 .nil
  rintro ⟨k,at_⟩ ⟨hk,Ks⟩;dsimp only at hk Ks ⊢;by_cases aN:k<wy.length
  ·have AT:=PO (lk aN);have c0:w.cell? ⟨bw,ow+k*1,none⟩=some (.string wy[k]):=(CD k _ (jf aN)).2 0 _ I;obtain ⟨l,hl,htl,YD,hom,oV⟩:=OC dw (dZ _ (Zj aN));rw [Zv aN,L8,hom,oV,<- tw dw.tL dw.val] at Ks;have WS:∀ (w':World),Rd w' (.slice na r.ti.length nc) 1 (ie (ct r))->ao T_ 181 [.slice na r.ti.length nc,.string wy[k]] w' (.int .i64 (l:Nat)):=fun w' hr=>YD ▸ Cv wy[k] hr
   have wI:∀ w',aH [] w w'->ao T_ 121 [.agg #[.q r.lv,.q r.ma,.slice a2 r.sr.length l9,.slice a3 r.de.length pb,.slice a r.ti.length cp,p],.q v,.string wy[k]] w' (.bool (ib r.po v wy[k])):=fun w' hk=>ph v _ (h.keeps hk)
   have wH:∀ w',aH [] w w'->ao T_ 126 [.agg #[.q r.lv,.q r.ma,.slice a2 r.sr.length l9,.slice a3 r.de.length pb,.slice a r.ti.length cp,p],.q v,.string wy[k]] w' (.string (kN r v wy[k])):=fun w' hk=>mX v _ (h.keeps hk) (by omega)
   have Ox:=ha (eV hl);have iE:=(hc l _ (ed hl)).2;unfold Ti.cells at iE;have oT:=iG hl
   (refine Jr<|JA I<|Jn<|Jq<|Jd I fun aA=>Jk<|Jq<|J0<|Jr<|Jv I<|ab (aC (.of I) (.of I) AT (by omega) aA bu) I<|ab (ag (.of I) (At.base c0 I)) I<|Ja I<|Ja I<|Jn<|Jq ?_)
   with_reducible refine cS 8 (by kernel_rfl) ?_
   (refine ar k9 I<|ar (ic (.there .here)) I<|ar kL I<|ar kL I<|aZ bo I (fun w' az=>(WS w' (dA az .here rS)))<|ar (aC (.of I) (.of I) Ox (by omega) (by omega) bu) I<|ar (iD (eO.base iE I)) I<|eA (kh I) I I ?_)
   with_reducible refine dz I fun b19 afT=>?_
   (refine aq (.of I) (.of I) .here I I (fc I I I) (bF I) an<|Ji<|ab (cN bO) I<|Jv I<|Jv I ?_)
   cases sB:ib r.po v wy[k] with
   | true =>
    have tW:∀ w',aH [] w w'->ao T_ 121 [.agg #[.q r.lv,.q r.ma,.slice a2 r.sr.length l9,.slice a3 r.de.length pb,.slice a r.ti.length cp,p],.q v,.string wy[k]] w' (.bool true):=fun w' hk=>sB ▸ wI w' hk
    by_cases WO:k=0
    ·have wx:((k:Nat):Int)=0:=by omega
     by_cases rN:kN r v wy[k]=so
     ·have Cy:=Ks;rw [if_pos (by rw [decide_eq_true WO,sB,decide_eq_true rN];rfl),oT] at Cy
      (refine aj ek I (fun w' az=>(tW w' (Mem.keeps az)))<|Ja I<|Ji<|Jv I<|ab (fV (.of I) (.of I) wx) I<|Jv I<|JK I I<|Jv I<|ab (cP (.of I) (.of I) (.of I) I) I<|Jv I<|JK I I<|ab (cN bO) I<|JK I I<|Jv I<|JK I I<|Jv I<|JK I I<|aj ek I (fun w' az=>(wH w' (Mem.keeps az)))<|JK I I<|Jv I<|JK I I<|ab (rh (.of I) (.of I) rN) I<|ab (cP (.of I) (.of I) (.of I) I) I<|Ja I<|Jn<|Jq<|Jr<|Jv I<|JH I<|Jv I<|gy I I I I<|au I I (fun hg bG=>(aL (.bX hg I))) I<|iO I I (fun hg bG=>(ai (.of I) ae)) I<|iO I I (fun hg bG=>(have Mr:=(A9 hg);(ag (.bX Mr I) (At.lit .here I)))) I<|iO I I (fun hg bG=>(aL (.of I))) I<|iO I I (fun hg bG=>(have Mr:=(A9 hg);(eE (.bX Mr I) (.bX Mr I)))) I<|au I I (fun hg bG=>(oE hg (.bX hg I) I)) I<|ab (bM (.of I) (.of I) (.of I) I) I<|Jn<|bJ (.of I)<|Jk<|Jg<|bN I I ae<|JL I .here I<|Ja I<|Jx<|Jj<|Jt<|Jg<|JB I (by omega)<|Jv I<|Jn ?_)
      apply aI (k+1,(r.ti[l]).to) ⟨show k+1<=wy.length by omega,by rw [Cy,decide_eq_false (show ¬ k+1=0 by omega)]⟩ (show wy.length-(k+1)<wy.length-k by omega)
      case hs1=>exact cB
      case ht=>(try simp only [Ze,Zf,Za]);exact .cons (.there .here) (.cons (.there .here) .nil)
     ·have hC:Hi r v so de wy=19:=by unfold Hi;rw [Ks,if_neg (by rw [sB,decide_eq_false rN];simp)]
      (refine aj ek I (fun w' az=>(tW w' (Mem.keeps az)))<|Ja I<|Ji<|Jv I<|ab (fV (.of I) (.of I) wx) I<|Jv I<|JK I I<|Jv I<|ab (cP (.of I) (.of I) (.of I) I) I<|Jv I<|JK I I<|ab (cN bO) I<|JK I I<|Jv I<|JK I I<|Jv I<|JK I I<|aj ek I (fun w' az=>(wH w' (Mem.keeps az)))<|JK I I<|Jv I<|JK I I<|ab (vA (.of I) (.of I) rN) I<|ab (bM (.of I) (.of I) (.of I) I) I<|Ja I<|Jn<|Jq<|Jr<|Jv I<|JH I<|Jv I<|JK I I<|Jv I<|JK I I<|Jv I<|au I I (fun hg bG=>(ai (.of I) ae)) I<|au I I (fun hg bG=>(ag (.bX hg I) (At.lit .here I))) I<|gy I I I I<|au I I (fun hg bG=>(eE (.bX hg I) (.bX hg I))) I<|JK I I<|ab (cP (.of I) (.of I) (.of I) I) I<|ab (cP (.of I) (.of I) (.of I) I) I<|Jn<|ch (.of I)<|Jr<|Ja I<|Jn<|Ju<|Jm<|Jh<|Jh<|Jm<|Jh<|JT ?_)
      rw [hC]
    ·have wx:((k:Nat):Int)≠0:=by omega
     have hC:Hi r v so de wy=19:=by unfold Hi;rw [Ks,if_neg (by simp [WO,sB])]
     (refine aj ek I (fun w' az=>(tW w' (Mem.keeps az)))<|Ja I<|Ji<|Jv I<|ab (hP (.of I) (.of I) wx) I<|Jv I<|gy I I I I<|ab (bM (.of I) (.of I) (.of I) I) I<|Jv I<|au I I (fun hg bG=>(bL (.of I) bO an (by rfl))) I<|gy I I I I<|gy I I I I<|cK I I I I<|gy I I I I<|cK I I I I<|ab (bM (.of I) (.of I) (.of I) I) I<|Ja I<|Jn<|Jq<|Jr<|Jv I<|JH I<|Jv I<|JK I I<|Jv I<|JK I I<|Jv I<|au I I (fun hg bG=>(ai (.of I) ae)) I<|au I I (fun hg bG=>(ag (.bX hg I) (At.lit .here I))) I<|gy I I I I<|au I I (fun hg bG=>(eE (.bX hg I) (.bX hg I))) I<|JK I I<|ab (cP (.of I) (.of I) (.of I) I) I<|ab (cP (.of I) (.of I) (.of I) I) I<|Jn<|ch (.of I)<|Jr<|Ja I<|Jn<|Ju<|Jm<|Jh<|Jh<|Jm<|Jh<|JT ?_)
     rw [hC]
   | false =>
    have tW:∀ w',aH [] w w'->ao T_ 121 [.agg #[.q r.lv,.q r.ma,.slice a2 r.sr.length l9,.slice a3 r.de.length pb,.slice a r.ti.length cp,p],.q v,.string wy[k]] w' (.bool false):=fun w' hk=>sB ▸ wI w' hk
    by_cases sA:(r.ti[l]).fr=at_
    ·by_cases WO:k=0
     ·have wx:((k:Nat):Int)=0:=by omega
      have Cy:=Ks;rw [if_pos (by simp [sB,oT,sA]),oT] at Cy
      (refine aj ek I (fun w' az=>(tW w' (Mem.keeps az)))<|Ja I<|Ji<|Jv I<|ab (fV (.of I) (.of I) wx) I<|Jv I<|JK I I<|Jv I<|ab (bM (.of I) (.of I) (.of I) I) I<|Jv I<|au I I (fun hg bG=>(bL (.of I) bO an (by rfl))) I<|gy I I I I<|gy I I I I<|cK I I I I<|gy I I I I<|cK I I I I<|ab (bM (.of I) (.of I) (.of I) I) I<|Ja I<|Jn<|Jq<|Jr<|Jv I<|JH I<|Jv I<|JK I I<|Jv I<|JK I I<|Jv I<|JK I I<|bN I I ae<|JK I I<|JL I .here I<|JK I I<|Jv I<|JK I I<|ab (Fm (.of I) (.of I) sA) I<|JK I I<|ab (bM (.of I) (.of I) (.of I) I) I<|ab (bM (.of I) (.of I) (.of I) I) I<|Jn<|bJ (.of I)<|Jk<|Jg<|bN I I ae<|JL I .here I<|Ja I<|Jx<|Jj<|Jt<|Jg<|JB I (by omega)<|Jv I<|Jn ?_)
      apply aI (k+1,(r.ti[l]).to) ⟨show k+1<=wy.length by omega,by rw [Cy,decide_eq_false (show ¬ k+1=0 by omega)]⟩ (show wy.length-(k+1)<wy.length-k by omega)
      case hs1=>exact cB
      case ht=>(try simp only [Ze,Zf,Za]);exact .cons (.there .here) (.cons (.there .here) .nil)
     ·have wx:((k:Nat):Int)≠0:=by omega
      have Cy:=Ks;rw [if_pos (by simp [sB,oT,sA]),oT] at Cy
      (refine aj ek I (fun w' az=>(tW w' (Mem.keeps az)))<|Ja I<|Ji<|Jv I<|ab (hP (.of I) (.of I) wx) I<|Jv I<|gy I I I I<|ab (bM (.of I) (.of I) (.of I) I) I<|Jv I<|au I I (fun hg bG=>(bL (.of I) bO an (by rfl))) I<|gy I I I I<|gy I I I I<|cK I I I I<|gy I I I I<|cK I I I I<|ab (bM (.of I) (.of I) (.of I) I) I<|Ja I<|Jn<|Jq<|Jr<|Jv I<|JH I<|Jv I<|JK I I<|Jv I<|JK I I<|Jv I<|JK I I<|bN I I ae<|JK I I<|JL I .here I<|JK I I<|Jv I<|JK I I<|ab (Fm (.of I) (.of I) sA) I<|JK I I<|ab (bM (.of I) (.of I) (.of I) I) I<|ab (bM (.of I) (.of I) (.of I) I) I<|Jn<|bJ (.of I)<|Jk<|Jg<|bN I I ae<|JL I .here I<|Ja I<|Jx<|Jj<|Jt<|Jg<|JB I (by omega)<|Jv I<|Jn ?_)
      apply aI (k+1,(r.ti[l]).to) ⟨show k+1<=wy.length by omega,by rw [Cy,decide_eq_false (show ¬ k+1=0 by omega)]⟩ (show wy.length-(k+1)<wy.length-k by omega)
      case hs1=>exact cB
      case ht=>(try simp only [Ze,Zf,Za]);exact .cons (.there .here) (.cons (.there .here) .nil)
    ·by_cases WO:k=0
     ·have wx:((k:Nat):Int)=0:=by omega
      have hC:Hi r v so de wy=19:=by unfold Hi;rw [Ks,if_neg (by simp [sB,oT,sA])]
      (refine aj ek I (fun w' az=>(tW w' (Mem.keeps az)))<|Ja I<|Ji<|Jv I<|ab (fV (.of I) (.of I) wx) I<|Jv I<|JK I I<|Jv I<|ab (bM (.of I) (.of I) (.of I) I) I<|Jv I<|au I I (fun hg bG=>(bL (.of I) bO an (by rfl))) I<|gy I I I I<|gy I I I I<|cK I I I I<|gy I I I I<|cK I I I I<|ab (bM (.of I) (.of I) (.of I) I) I<|Ja I<|Jn<|Jq<|Jr<|Jv I<|JH I<|Jv I<|JK I I<|Jv I<|JK I I<|Jv I<|JK I I<|bN I I ae<|JK I I<|JL I .here I<|JK I I<|Jv I<|JK I I<|ab (rb (.of I) (.of I) sA) I<|JK I I<|ab (cP (.of I) (.of I) (.of I) I) I<|ab (cP (.of I) (.of I) (.of I) I) I<|Jn<|ch (.of I)<|Jr<|Ja I<|Jn<|Ju<|Jm<|Jh<|Jh<|Jm<|Jh<|JT ?_)
      rw [hC]
     ·have wx:((k:Nat):Int)≠0:=by omega
      have hC:Hi r v so de wy=19:=by unfold Hi;rw [Ks,if_neg (by simp [sB,oT,sA])]
      (refine aj ek I (fun w' az=>(tW w' (Mem.keeps az)))<|Ja I<|Ji<|Jv I<|ab (hP (.of I) (.of I) wx) I<|Jv I<|gy I I I I<|ab (bM (.of I) (.of I) (.of I) I) I<|Jv I<|au I I (fun hg bG=>(bL (.of I) bO an (by rfl))) I<|gy I I I I<|gy I I I I<|cK I I I I<|gy I I I I<|cK I I I I<|ab (bM (.of I) (.of I) (.of I) I) I<|Ja I<|Jn<|Jq<|Jr<|Jv I<|JH I<|Jv I<|JK I I<|Jv I<|JK I I<|Jv I<|JK I I<|bN I I ae<|JK I I<|JL I .here I<|JK I I<|Jv I<|JK I I<|ab (rb (.of I) (.of I) sA) I<|JK I I<|ab (cP (.of I) (.of I) (.of I) I) I<|ab (cP (.of I) (.of I) (.of I) I) I<|Jn<|ch (.of I)<|Jr<|Ja I<|Jn<|Ju<|Jm<|Jh<|Jh<|Jm<|Jh<|JT ?_)
      rw [hC]
  ·obtain rfl:k=wy.length:=by omega
   rw [Zbz (ZC _)] at Ks;have hC:Hi r v so de wy=bT (decide (at_≠gQ r de)) 19:=by unfold Hi;rw [Ks];rfl
   rw [hC,Om];refine Jr<|JA I<|Jn<|Jq<|Jc I fun aA=>Jp<|Jl<|Jo<|Jt<|Jq ?_
   with_reducible refine eP 12 (by kernel_rfl) ?_
   (refine mZ I I<|pZ I I ae<|aM (ic (.there .here)) I<|aM (cN (.there .here)) I<|mZ I I<|fQ bo I (fun w' az=>(xZ w' (Mem.keeps az)))<|aM (aC (.of I) (.of I) CG (by omega) (by omega) bu) I<|pZ I I ae<|aM (ag (.of I) (At.base ur I)) I<|aM (eE (.of I) (.of I)) I<|fQ bo I (fun w' az=>(dO _ 19 w'))<|aM (cd (.of I)) I ?_)
   with_reducible refine eU ?_
   refine Jn<|Je<|JT ?_
   rfl
def gM (r:Ro) (v:Int) (so:ByteArray):Nat->List Int
  | 0=>[mJ r so]
  | k+1=>if xE r v so k&&!(gM r v so k).contains (fM r k).to then gM r v so k++[(fM r k).to] else gM r v so k
theorem B3 (r:Ro) (v:Int) (so:ByteArray):∀ k,(gM r v so k).length<=k+1
  | 0=>ZC _
  | k + 1 => by
    have:=B3 r v so k;unfold gM;split
    · rw [Zg];simp;omega
    · omega
theorem vr (r:Ro) (v:Int) (so:ByteArray):∀ k,(gM r v so k).Nodup
  | 0=>by simp [gM]
  | k + 1 => by
    have:=vr r v so k;unfold gM;split
    · rename_i h
      rw [Zm] at h;rw [Zx];refine ⟨this,by simp,fun a ha b hb e=>?_⟩;rw [ZB] at hb;subst hb;subst e;have:=h.2;rw [ZaU.2 ha] at this;cases this
    · exact this
theorem yN (r:Ro) (v:Int) (so:ByteArray) {m:Int}:∀ {a b:Nat},a<=b->m∈gM r v so a->m∈gM r v so b:=by
  intro a b h
  induction h with
  | refl=>exact id
  | step _ ih =>
    intro hm;have:=ih hm;rw [gM];split
    · exact ZD _ this
    · exact this
theorem IC (r:Ro) (v:Int) (so:ByteArray) (k:Nat):mJ r so∈gM r v so k:=yN r v so (Zi k) (by simp [gM])
theorem Nn {k t:Nat} (ht:t<k) (h:xE r v so t=true):(fM r t).to∈gM r v so k:=by
  refine yN r v so (show t+1<=k from ht) ?_;rw [gM];split
  · exact ZM _ (by simp)
  · rename_i hc
    rw [h,Zav,ZaP,Bool.not_eq_false] at hc;exact ZaU.1 hc
theorem uJ {r:Ro} (dw:qX r) {v:Int} {so:ByteArray} (hs:so∈cz r):∀ k,k<=r.ti.length->∀ m∈gM r v so k,(eh r r.po v so).Rc m
  | 0, _, m, hm => by
    rw [gM,ZB] at hm;subst hm;rw [<- nr hs];exact Wn.Rc.zu
  | k + 1, hk, m, hm => by
    rw [gM] at hm;split at hm
    · rename_i h
      rcases Zq.1 hm with hm | hm
      · exact uJ dw hs k (by omega) m hm
      · rw [ZB] at hm
        subst hm;rw [Zm,tx dw.tL dw.val] at h;exact Wn.Rc.ca (N:=eh r r.po v so) (show k<r.ti.length from hk) h.1
    · exact uJ dw hs k (by omega) m hm
theorem rm (dw:qX r) {v:Int} {so:ByteArray} (hs:so∈cz r) {m:Int} (h:(eh r r.po v so).Rc m):0<=m/\m<r.ma:=by
  have Tn:∀ i,i<r.ti.length->0<=(fM r i).to/\(fM r i).to<r.ma:=fun i hi=>by
    rw [iG hi];exact (dw.tm _ (Zj hi)).2.1
  cases h with
  | zu =>
    show 0<=jH r so/\jH r so<r.ma;rw [nr hs];unfold mJ;obtain ⟨hl,_⟩:=ei (l:=cz r) (s:=so) (cF hs);have xV:(br (cz r) so).toNat<r.sr.length:=by
                                                           have e:(cz r).length=r.sr.length:=by unfold cz;rw [Zd]
                                                           omega
    rw [Zk,Zc xV];exact dw.sm _ (Zj xV)
  | ca hi _=>exact Tn _ hi
  | fe hi _ _=>exact Tn _ hi
structure xu (r:Ro) (v:Int) (so:ByteArray) (L:List Int) (i:Nat):Prop where
  nd:L.Nodup
  rc:∀ m∈L,(eh r r.po v so).Rc m
  rt:∀ m∈gM r v so r.ti.length,m∈L
  dn:∀ j x,j<i->L[j]? = some x->∀ t,t<r.ti.length->CI r v x t=true->(fM r t).to∈L
theorem FD {L:List Int} {n:Nat} (jX:L.Nodup) (h:∀ m∈L,0<=m/\m<(n:Nat)):L.length<=n:=by
  have:=lf n (L.map Int.toNat) (by
    show List.Pairwise (fun a b=>a≠b) (L.map Int.toNat)
    rw [Zbq];refine List.Pairwise.imp_of_mem (fun {a b} ha hb hne e=>hne ?_) jX;have:=h a ha;have:=h b hb;omega) (fun x hx=>by
    obtain ⟨m,hm,rfl⟩:=Zw.1 hx;have:=h m hm;omega)
  rwa [Zd] at this
theorem xu.Ez (dw:qX r) {v:Int} {so:ByteArray} (hs:so∈cz r) {L:List Int} {i:Nat} (h:xu r v so L i):L.length<=4:=by
  have hl:=dw.lim;refine FD h.nd fun m hm=>?_;have:=rm dw hs (h.rc m hm);omega
theorem xu.begin (dw:qX r) {v:Int} {so:ByteArray} (hs:so∈cz r):xu r v so (gM r v so r.ti.length) 0:=
  ⟨vr r v so _,uJ dw hs _ (ZC _),fun _ h=>h,fun j x h=>absurd h (ZW _)⟩
theorem xu.done (dw:qX r) {v:Int} {so:ByteArray} (hs:so∈cz r) {L:List Int} (h:xu r v so L L.length) (m:Int):m∈L↔(eh r r.po v so).Rc m:=by
  refine Wn.Nt (S:=fun m=>m∈L) ⟨?_,fun i hi hc=>?_⟩ (fun m hm=>h.rc m hm) m
  · show jH r so∈L
    rw [nr hs];exact h.rt _ (IC r v so _)
  · rcases hc with hc | ⟨hf,sA⟩
    · rw [<- tx dw.tL dw.val] at hc
      exact h.rt _ (Nn hi hc)
    · obtain ⟨j,hj,e⟩:=Zu sA
      refine h.dn j _ hj (Zc hj) i hi ?_;rw [qK v so,e,hf];simp
def Hv (r:Ro) (v:Int) (so:ByteArray) (m:Int):Bool:=!((eh r r.po v so).all m ((eh r r.po v so).n+1) []).isEmpty
theorem DY (r:Ro) (v:Int) (so:ByteArray) (m:Int):Hv r v so m=true↔(eh r r.po v so).Rc m:=by
  unfold Hv;rw [ZaP,List.isEmpty_eq_false_iff];constructor
  · intro h
    obtain ⟨q,hq⟩:=List.exists_mem_of_ne_nil _ h;obtain ⟨h1,h2⟩:=Wn.AB (Wn.qD _) hq;rw [<- h2];exact Wn.TV h1
  · intro h e
    obtain ⟨p,hp,hf⟩:=Wn.T8 h;exact Wn.all_none e p hp hf
def o9 (r:Ro) (v:Int) (so:ByteArray):List Int:=((List.range r.ma.toNat).map fun i:Nat=>(i:Int)).filter (Hv r v so)
theorem wV (r:Ro) (v:Int) (so:ByteArray):(o9 r v so).Pairwise (fun a b=>a<b):=by
  unfold o9;refine List.Pairwise.filter _ ?_;rw [Zbq];exact List.pairwise_lt_range.imp fun h=>by omega
theorem wW (dw:qX r) {v:Int} {so:ByteArray} (hs:so∈cz r) {m:Int}:m∈o9 r v so↔(eh r r.po v so).Rc m:=by
  unfold o9;rw [ZA,DY];constructor
  · exact fun h=>h.2
  · intro h
    have:=rm dw hs h;exact ⟨Zw.2 ⟨m.toNat,ZU.2 (by omega),by omega⟩,h⟩
theorem Lp (dw:qX r) {v:Int} {so:ByteArray} (hs:so∈cz r) {L S:List Int} (jX:L.Nodup) (hL:∀ m,m∈L↔(eh r r.po v so).Rc m) (hp:S.Perm L) (N7:S.Pairwise (fun a b=>a<=b)):S=o9 r v so:=by
  have hSn:S.Nodup:=hp.nodup_iff.2 jX;have hSs:S.Pairwise (fun a b=>a<b):=(N7.and hSn).imp fun ⟨h1,h2⟩=>by omega
  refine oz (R:=fun a b:Int=>a<b) (fun a b h h'=>by omega) hSs (wV r v so) ?_;refine (ZaA hSn ((wV r v so).imp fun h=>by omega)).2 fun m=>?_;rw [hp.mem_iff,hL,wW dw hs]
end Go.Proofs.A1
namespace Go.Proofs
open Go.Shelf
def Tryz.Cs:Go.Shelf.Ren:=⟨fun | 189=>156 | 125=>245 | 257=>244 | 128=>312 | 129=>313 | 294=>303 | 295=>304 | 296=>305 | 297=>306 | 298=>307 | 299=>308 | 216=>309 | 300=>310 | 301=>311 | 328=>343 | 329=>344 | 330=>345 | 331=>346 | 332=>347 | 215=>342 | 343=>367 | n=>n,fun | 28=>49 | 3=>3 | 46=>318 | 0=>0 | 51=>381 | 53=>383 | 4=>4 | 183=>374 | 182=>373 | 131=>272 | 5=>5 | 9=>9 | 218=>409 | 222=>413 | 228=>428 | 229=>359 | n=>n,fun | n=>n⟩
theorem Tryz.FA:Go.Proofs.Lays.n189 Tryz.prog Tryz.Cs:={
 mixed:=by kernel_rfl
 f125:=Tryz.func245.trans (congrArg some (by kernel_rfl))
 f128:=Tryz.func312.trans (congrArg some (by kernel_rfl))
 f129:=Tryz.func313.trans (congrArg some (by kernel_rfl))
 f189:=Tryz.func156.trans (congrArg some (by kernel_rfl))
 f215:=Tryz.func342.trans (congrArg some (by kernel_rfl))
 f216:=Tryz.func309.trans (congrArg some (by kernel_rfl))
 f257:=Tryz.func244.trans (congrArg some (by kernel_rfl))
 f294:=Tryz.func303.trans (congrArg some (by kernel_rfl))
 f295:=Tryz.func304.trans (congrArg some (by kernel_rfl))
 f296:=Tryz.func305.trans (congrArg some (by kernel_rfl))
 f297:=Tryz.func306.trans (congrArg some (by kernel_rfl))
 f298:=Tryz.func307.trans (congrArg some (by kernel_rfl))
 f299:=Tryz.func308.trans (congrArg some (by kernel_rfl))
 f300:=Tryz.func310.trans (congrArg some (by kernel_rfl))
 f301:=Tryz.func311.trans (congrArg some (by kernel_rfl))
 f328:=Tryz.func343.trans (congrArg some (by kernel_rfl))
 f329:=Tryz.func344.trans (congrArg some (by kernel_rfl))
 f330:=Tryz.func345.trans (congrArg some (by kernel_rfl))
 f331:=Tryz.func346.trans (congrArg some (by kernel_rfl))
 f332:=Tryz.func347.trans (congrArg some (by kernel_rfl))
 f343:=Tryz.func367.trans (congrArg some (by kernel_rfl))
 t0:=Tryz.underlying0
 a0:=Tryz.isAgg0
 z0:=Tryz.sizeOf0
 v0:=Tryz.zeroValue0
 t3:=Tryz.underlying3
 a3:=Tryz.isAgg3
 z3:=Tryz.sizeOf3
 v3:=Tryz.zeroValue3
 t4:=Tryz.underlying4
 a4:=Tryz.isAgg4
 z4:=Tryz.sizeOf4
 v4:=Tryz.zeroValue4
 t5:=Tryz.underlying5
 a5:=Tryz.isAgg5
 z5:=Tryz.sizeOf5
 v5:=Tryz.zeroValue5
 t9:=Tryz.underlying9
 a9:=Tryz.isAgg9
 z9:=Tryz.sizeOf9
 v9:=Tryz.zeroValue9
 t28:=Tryz.underlying49
 a28:=Tryz.isAgg49
 z28:=Tryz.sizeOf49
 v28:=Tryz.zeroValue49
 t46:=Tryz.underlying318
 a46:=Tryz.isAgg318
 z46:=Tryz.sizeOf318
 v46:=Tryz.zeroValue318
 t51:=Tryz.underlying381
 a51:=Tryz.isAgg381
 z51:=Tryz.sizeOf381
 v51:=Tryz.zeroValue381
 t53:=Tryz.underlying383
 a53:=Tryz.isAgg383
 z53:=Tryz.sizeOf383
 v53:=Tryz.zeroValue383
 t131:=Tryz.underlying272
 a131:=Tryz.isAgg272
 z131:=Tryz.sizeOf272
 v131:=Tryz.zeroValue272
 t182:=Tryz.underlying373
 a182:=Tryz.isAgg373
 z182:=Tryz.sizeOf373
 v182:=Tryz.zeroValue373
 t183:=Tryz.underlying374
 a183:=Tryz.isAgg374
 z183:=Tryz.sizeOf374
 v183:=Tryz.zeroValue374
 t218:=Tryz.underlying409
 a218:=Tryz.isAgg409
 z218:=Tryz.sizeOf409
 v218:=Tryz.zeroValue409
 t222:=Tryz.underlying413
 a222:=Tryz.isAgg413
 z222:=Tryz.sizeOf413
 v222:=Tryz.zeroValue413
 t228:=Tryz.underlying428
 a228:=Tryz.isAgg428
 z228:=Tryz.sizeOf428
 v228:=Tryz.zeroValue428
 t229:=Tryz.underlying359
 a229:=Tryz.isAgg359
 z229:=Tryz.sizeOf359
 v229:=Tryz.zeroValue359 }
open Go.Sort Go.RowKit in
theorem Tryz.slices_Sort_int (bA off cap:Nat) (zs:List Int) (w:World) (hH:Holds (Value.int .i64) w bA off zs.toArray) (hblk:bA<w.heap.size) (hsz:zs.length<4611686018427387904) :
  Calls Tryz.prog 156 #[.slice (some ⟨bA,off,none⟩) zs.length cap] w fun e w'=>
   e=.returned (.tuple #[])/\∃ n os,w'=grow (putRow (Value.int .i64) (Sort.ahead w n) bA off (zs.mergeSort fun x y=>decide (x<=y)).toArray) os:=Any.slices_Sort_int Tryz.FA bA off cap zs w hH hblk hsz
end Go.Proofs
