/- Parts of the proof: GkRegK GkRegL GkRegR GkRegS KJ KL KM KNq TryzSort KN. -/
import Derived.Test.YteonnodafmegaaaGreatDoorPM06
import Derived.Test.YteonnodafmegaaaGreatDoorPM07
import Derived.Test.YteonnodafmegaaaGreatDoorPM04
import Derived.Test.YteonnodafmegaaaGreatDoorPM03
import Derived.Test.YteonnodafmegaaaGreatDoorPM02
import Derived.Shelf.Sort.Plain
import Derived.Ground.NamesProg
import Derived.Ground.Names2Prog
import Derived.Test.YteonnodafmegaaaGreatDoorProg
import Derived.Shelf.Slices.In.SortNone
set_option linter.unusedSectionVars false
set_option linter.unusedVariables false
set_option linter.unusedSimpArgs false
namespace Go.SL
open Go
theorem Mem.Hf {c:Cx} {As hs':List bd} {w:World} (hm:Mem c (As++hs') w):∃ fp:List Nat,fp.Nodup/\cy (hp w) As fp /\
  ∀ (Bs:List bd) (w':World),aI fp w w'->(∃ mE:List Nat,mE.Nodup/\cy (hp w') Bs mE/\∀ b∈mE,b∈fp\/w.heap.size<=b)->Mem c (Bs++hs') w':=by
 obtain ⟨kk,fp,hn,gi,hb⟩:=hm;obtain ⟨f1,f2,rfl,h1,h2⟩:=cy.append_iff.1 gi;obtain ⟨n1,n2,n12⟩:=ZI.1 hn;refine ⟨f1,n1,h1,fun Bs w' hk ⟨mE,uy,hs',zC⟩=>?_⟩;have aL:∀ b∈f2,b<w.heap.size:=fun b dQ=>let ⟨o,ho⟩:=h2.own b dQ;lf ho
 refine ⟨?_,mE++f2,?_,cy.append_iff.2 ⟨mE,f2,I,hs',h2.loc fun b dQ=>?_⟩,?_⟩
 ·refine ⟨hk.os.trans kk.os,hk.tape.trans kk.tape,hk.output.trans kk.output,ZP kk.dr hk.dr,ZP kk.size hk.size,fun b dQ hm=>?_⟩;rw [<- kk.block b dQ hm];refine hk.block b (ZaK dQ kk.size) (fun hf=>?_);rcases hb b (ZH _ hf) with h | h
  ·omega
  ·exact hm h
 ·refine ZI.2 ⟨uy,n2,fun x hx y hy e=>?_⟩;subst e;rcases zC x hx with h | h
  ·exact n12 x h x hy I
  ·have:=aL x hy;omega
 ·exact hk.block b (aL b dQ) (fun hf=>n12 b hf b dQ I)
 ·intro b dQ;rcases Zz.1 dQ with h | h
  ·rcases zC b h with h | h
   ·exact hb b (ZH _ h)
   ·exact .inl (ZP kk.size h)
  ·exact hb b (ZT _ h)
theorem wm {β:Nat->Value} (p q:Nat->Bool):∀ (S:List dd) (i:Nat),(fh β p S i).Perm (fh β (fun j=>p j&&q j) S i++fh β (fun j=>p j&&!q j) S i)
 | [],_=>.nil
 | s :: S, i => by
  have ih:=wm (β:=β) p q S (i+1);unfold fh;cases hp:p i <;> cases hq:q i <;> simp only [Bool.and_true,Bool.and_false,Bool.not_true,Bool.not_false,Bool.false_and,Zaz,if_true,if_false,Za,reduceIte]
  ·simpa using ih
  ·simpa using ih
  ·simp only [ZaV,if_false,Za];refine (ih.append_left _).trans ?_;rw [<- Zh,<- Zh];exact List.perm_append_comm.append_right _
  ·simp only [ZaV,if_false,Za];rw [Zh];exact ih.append_left _
theorem r6 {β:Nat->Value} {q:Nat->Bool}:∀ {S:List dd} {n i:Nat},(∀ j,i+n<=j->q j=false)->fh β q S i=fh β q (S.take n) i
 | [],n,i,_=>by rw [List.take_nil]
 | s :: S, 0, i, h => by
  rw [Ze];unfold fh;rw [h i (by omega),r6 (n:=0) fun j hj=>h j (by omega),Ze];rfl
 | s :: S, n + 1, i, h => by
  rw [List.take_succ_cons];unfold fh;rw [r6 (n:=n) (i:=i+1) fun j hj=>h j (by omega)]
def pk (tk:Nat->Nat) (lst:Nat->Bool) (j:Nat):Bool:=lst j&&!(Nat.blt 0 (tk j)&&lst (tk j))
def iS (tk:Nat->Nat) (i j:Nat):Bool:=Nat.blt 0 i&&Nat.beq (tk j) i
section
variable {P:Program} {c:Cx} {D:List Nat} {sl:aN} {hs:List bd} {Q:Exit->Act->World->Prop} {l:List Oper} {m:Nat} {tk:Nat->Nat}
def M9 (i:Nat) (s:dd) (β:Nat->Value) (w:World) (rQ:List Nat) (v:Value) (w':World):Prop:=∃ x,v=s.F (Af β i x)/\aI rQ w w'/\∃ fp:List Nat,fp.Nodup/\cy (hp w') (s.A (Af β i x)) fp/\∀ b∈fp,b∈rQ\/w.heap.size<=b
structure M6 (P:Program) (c:Cx) (hs:List bd) (l:List Oper) (tk:Nat->Nat) (i:Nat) (o:Oper) (SL:(Nat->Value)->aN) (S:List dd) (s:dd):Prop where
 EK:oT l i s.F
 EL:oT l i s.A
 run:∃ B:List Nat,(∀ j∈B,lX l o j=true/\tk j=0)/\∀ β a w rQ,bZ (SL β) a->kq c hs S B β w->cy (hp w) (fh β (iS tk i) S 0) rQ->if Region.wanted o (yielded l.toArray a.tmps)=true then qT P o a w (M9 i s β w rQ) else M9 i s β w rQ undef w
 waits:∀ j,tk j=i->0<i->fG o j=true
inductive xM (P:Program) (c:Cx) (hs:List bd) (l:List Oper) (tk:Nat->Nat):Nat->List Oper->((Nat->Value)->aN)->List dd->List dd->((Nat->Value)->aN)->Prop
 | nil {i:Nat} {SL:(Nat->Value)->aN} {S:List dd}:xM P c hs l tk i [] SL S S SL
 | step {i d:Nat} {o:Oper} {rest:List Oper} {SL qQ:(Nat->Value)->aN} {S S':List dd} {s:dd} (hd:o.dst=some d) (gl:d<c.nt) (h:M6 P c hs l tk i o SL S s)
   (t:xM P c hs l tk (i+1) rest (fun β=>(d,s.F β)::SL β) (S++[s]) S' qQ):xM P c hs l tk i (o::rest) SL S S' qQ
theorem xM.spec {i:Nat} {rest:List Oper} {SL qQ:(Nat->Value)->aN} {S S':List dd} (h:xM P c hs l tk i rest SL S S' qQ):∀ pre:List Oper,pre.length=i->S.length=i->qh sl pre SL S ->
  S'.length=i+rest.length/\S <+: S'/\qh sl (pre++rest) qQ S'/\∀ k o,i<=k->(pre++rest)[k]? = some o->∃ d M7 s,o.dst=some d/\d<c.nt/\S'[k]? = some s/\qh sl ((pre++rest).take k) M7 (S'.take k)/\M6 P c hs l tk k o M7 (S'.take k) s:=by
 induction h with
 | @nil i SL S =>
  intro pre hp hS nn;refine ⟨by simpa using hS,List.prefix_rfl,by simpa using nn,fun k o hk ho=>?_⟩;have:=(Zl.1 ho).1;simp at this;omega
 | @step i d o rest SL qQ S S' s hd gl bb t ih =>
  intro pre hp hS nn;obtain ⟨h1,h2,h3,h4⟩:=ih (pre++[o]) (by simp [hp]) (by simp [hS]) (nn.step (by omega) hd);rw [Zh,List.singleton_append] at h3 h4;have LG:S <+: S':=(ZaW S [s]).trans h2;have uC:S'[i]? = some s:=by
   obtain ⟨r,rfl⟩:=h2;rw [Zh,ZC (by omega),hS];simp
  have hSt:S'.take i=S:=by
   obtain ⟨r,rfl⟩:=LG;rw [<- hS];simp
  refine ⟨by rw [h1];simp;omega,LG,h3,fun k ok hk ho=>?_⟩;by_cases e:k=i
  ·subst e;have Gn:ok=o:=by
    rw [ZC (by omega),hp] at ho;simpa using ho.symm
   subst Gn;have htk:(pre++ok::rest).take k=pre:=by rw [<- hp];simp
   rw [htk,hSt];exact ⟨d,SL,s,hd,gl,uC,nn,bb⟩
  ·exact h4 k ok (by omega) ho
structure Yd (c:Cx) (D:List Nat) (hs:List bd) (l:List Oper) (tk:Nat->Nat) (m:Nat) (S:List dd) (a0:Act) (fuel:Nat) (listed:Array Bool) (a:Act) (w:World):Prop where
 sz:listed.size=l.length
 dc:DC l (Ls listed)
 hi:∀ k,m<=k->¬ Ls listed k
 defers:a.defers=D.map mark
 size:a.tmps.size=c.nt
 F9:∀ t,(∀ (j:Nat) (o:Oper),l[j]? = some o->Ls listed j->o.dst≠some t)->a.tmps[t]? = a0.tmps[t]?
 left:∃ U:List Nat,U.Nodup/\(∀ i,i∈U↔i<l.length/\¬ Ls listed i)/\U.length=fuel
 own:∃ β:Nat->Value,Mem c (fh β (pk tk (fun i=>listed.getD i false)) S 0++(hs++nF D)) w/\∀ (j:Nat) (o:Oper) (d:Nat) (s:dd),l[j]? = some o->o.dst=some d->S[j]? = some s->Ls listed j->a.tmps[d]? = some (s.F β)
end
end Go.SL
namespace Go.SL
open Go
def j6:List (Nat×Nat)->Nat->Nat
 | [],_=>0
 | p::r,j=>bif Nat.beq p.1 j then p.2 else j6 r j
theorem u5:∀ {qM:List (Nat×Nat)} {i j:Nat},(qM.all fun p=>!Nat.beq p.2 i)=true->j6 qM j=i->0<i->False
 | [], i, j, _, h, hp => by
  have h:0=i:=h;omega
 | p :: r, i, j, h, h2, hp => by
  rw [List.all_cons,Zn] at h;unfold j6 at h2;cases e:Nat.beq p.1 j with
  | true=>rw [e] at h2;have h2:p.2=i:=h2;rw [h2] at h;simp at h
  | false=>rw [e] at h2;exact u5 h.2 h2 hp
theorem qn:∀ {qM:List (Nat×Nat)} {i jx:Nat},(qM.all fun p=>!Nat.beq p.2 i||Nat.beq p.1 jx)=true->Nat.blt 0 i=true->∀ k,j6 qM k=i->k=jx
 | [], i, jx, _, h0, k, h => by
  have h:0=i:=h;subst h;cases h0
 | p :: r, i, jx, h, h0, k, hk => by
  rw [List.all_cons,Zn] at h;unfold j6 at hk;cases e:Nat.beq p.1 k with
  | true =>
   rw [e] at hk;have hk:p.2=i:=hk;have h1:=h.1;rw [hk,show Nat.beq i i=true by simp] at h1;have e1:=Zad e;have e2:=Zad (show Nat.beq p.1 jx=true by simpa using h1);omega
  | false=>rw [e] at hk;exact qn h.2 h0 k hk
section
variable {P:Program} {c:Cx} {D:List Nat} {sl:aN} {hs hs':List bd} {X:Act->World->Prop} {Q:Exit->Act->World->Prop} {l:List Oper} {m i n d:Nat} {qM:List (Nat×Nat)} {op:Op} {ty:TypeId} {pos:String} {af:Array Edge} {rest:List Oper} {SL:(Nat->Value)->aN} {S:List dd}
theorem wq {β:Nat->Value} {p:Nat->Bool} {s:dd}:∀ {S:List dd} {i jx:Nat},S[jx]? = some s->(∀ k,p k=Nat.beq k (i+jx))->fh β p S i=s.A β
 | [],_,_,h,_=>by simp at h
 | s0 :: S, i, 0, h, hp => by
  simp only [ZaC,Option.some.injEq] at h;subst h;unfold fh;rw [hp i,show Nat.beq i (i+0)=true by simp,if_pos I];have:fh β p S (i+1)=[]:=by
   have h:=r6 (β:=β) (q:=p) (S:=S) (n:=0) (i:=i+1) fun j hj=>by
    rw [hp j];exact ZaG.2 fun e=>by have:=Zad e;omega
   rw [h,Ze];rfl
  rw [this,ZK]
 | s0 :: S, i, jx + 1, h, hp => by
  unfold fh;rw [hp i,show Nat.beq i (i+(jx+1))=false from ZaG.2 fun e=>by have:=Zad e;omega]
  simp only [ZaV,if_false,Za];exact wq (i:=i+1) (jx:=jx) (by simpa using h) fun k=>by rw [hp k,show i+(jx+1)=i+1+jx by omega]
end
end Go.SL
namespace Go.SL.KR
open Go Go.SL
section
variable {P:Program} {c:Cx} {D:List Nat} {sl:aN} {hs:List bd} {Q:Exit->Act->World->Prop} {l:List Oper} {m:Nat} {tk:Nat->Nat}
variable {r0:Option Nat}
theorem S3 {p:Nat} (hc:QG l m p) (LG:p<m->False) (hQp:∀ c a w,¬ Q (.panic c) a w) {S:List dd} {qQ:(Nat->Value)->aN} (hpM:xM P c hs l tk 0 (l.take m) (fun _=>sl) [] S qQ) {a0:Act} (h0:bZ sl a0) (PH:a0.tmps.size=c.nt)
  (tail:∀ β a w,St c D (qQ β) (fh β (pk tk (fun i=>Nat.blt i m)) S 0++hs) a w->wpAnyIn (FR r0) 0 P .any l.toArray Q (l.length-m) (qU l.length m) a w) :
  ∀ (fuel:Nat) (listed:Array Bool) (a:Act) (w:World),Yd c D hs l tk m S a0 fuel listed a w->wpAnyIn (FR r0) 0 P .any l.toArray Q fuel listed a w:=by
 have hle:=hc.le;have PF:qh sl [] (fun _=>sl) []:=fun β t v hv=>.inr ⟨fun oj h=>(Zo h).elim,hv⟩
 obtain ⟨Ma,_,nn,iY⟩:=hpM.spec (sl:=sl) [] rfl rfl PF;rw [Za] at nn iY;rw [ZF,Zs,Zbf hle] at Ma;have fD:∀ (j:Nat) (o:Oper),j<m->l[j]? = some o->(l.take m)[j]? = some o:=fun j o hj ho=>by rw [ZN,if_pos hj];exact ho
 have ie:∀ (j:Nat) (o:Oper),(l.take m)[j]? = some o->j<m/\l[j]? = some o:=fun j o ho=>by
  rw [ZN] at ho;split at ho
  ·exact ⟨by assumption,ho⟩
  ·cases ho
 have Xp:∀ j,j<m->∃ s,S[j]? = some s:=fun j hj=>⟨S[j]'(by omega),Zc (by omega)⟩
 have pQ:∀ fuel listed a w,Yd c D hs l tk m S a0 fuel listed a w->(∀ i,i<m->Ls listed i)->wpAnyIn (FR r0) 0 P .any l.toArray Q fuel listed a w:=by
  intro fuel listed a w hI fj;have hL:∀ i,i<l.length->(Ls listed i↔i<m):=fun i _=>⟨fun h=>ZZ fun hm=>hI.hi i hm h,fj i⟩
  obtain ⟨U,DY,vB,yA⟩:=hI.left;have jE:U.Perm (List.range' m (l.length-m)):=by
   rw [ZaQ DY (List.nodup_range')];intro i;rw [vB i,Zbb];constructor
   ·rintro ⟨h1,h2⟩;exact ⟨Zbj fun h=>h2 (fj i h),by omega⟩
   ·rintro ⟨h1,h2⟩;exact ⟨by omega,hI.hi i h1⟩
  have hlen:fuel=l.length-m:=by rw [<- yA,jE.length_eq,List.length_range']
  have TX:listed=qU l.length m:=by
   have A8:(qU l.length m).size=l.length:=by simp [qU];omega
   apply Array.ext
   ·rw [hI.sz,A8]
   ·intro i h1 h2;rw [hI.sz] at h1;have h3:=hL i h1;unfold Ls at h3;rw [ZJ,ZaT (by rw [hI.sz];exact h1),Zaq] at h3;have h4:(qU l.length m)[i]=decide (i<m):=by
     simp only [qU,List.getElem_toArray];by_cases hi:i<m
     ·rw [ZaJ (by simpa using hi)];simp [hi]
     ·rw [Zap (by simpa using hi)];simp [hi]
    rw [h4];by_cases hi:i<m
    ·rw [h3.2 hi];simp [hi]
    ·have:¬ listed[i]=true:=fun h=>hi (h3.1 h)
     simp [hi,this]
  subst hlen;rw [TX];obtain ⟨β,hm,pL⟩:=hI.own;have TY:∀ i,listed.getD i false=Nat.blt i m:=fun i=>by
   by_cases hi:i<m
   ·rw [show Nat.blt i m=true from by simpa [Z8] using hi];exact fj i hi
   ·have h1:¬ listed.getD i false=true:=hI.hi i (by omega);have h2:¬ Nat.blt i m=true:=by simpa [Z8] using hi
    rw [Zar] at h1 h2;rw [h1,h2]
  have e:fh β (pk tk (fun i=>listed.getD i false)) S 0=fh β (pk tk (fun i=>Nat.blt i m)) S 0:=kG fun j s hj=>⟨by unfold pk;simp only [TY],fun _=>rfl⟩
  rw [e] at hm;refine tail β a w ⟨by rw [Zh];exact hm,fun t v hv=>?_,hI.size,hI.defers⟩;rcases nn β t v hv with ⟨j,oj,s,h1,h2,h3,h4⟩ | ⟨h1,h2⟩
  ·obtain ⟨kS,pP⟩:=ie j oj h1;rw [h4];exact pL j oj t s pP h2 h3 (fj j kS)
  ·rw [hI.F9 t fun j oj hj np=>h1 oj (Z2 (fD j oj (ZZ fun hm=>hI.hi j hm np) hj))]
   exact h0 t v h2
 intro fuel
 induction fuel with
 | zero =>
  intro listed a w hI;obtain ⟨U,_,vB,yA⟩:=hI.left;have hU:U=[]:=Zav.1 yA;refine pQ 0 listed a w hI fun i hi=>Classical.byContradiction fun hn=>?_;have:=(vB i).2 ⟨by omega,hn⟩;rw [hU] at this;cases this
 | succ fuel ih =>
  intro listed a w hI;by_cases fj:∀ i,i<m->Ls listed i
  ·exact pQ _ listed a w hI fj
  ·have hex:∃ i,i<m/\¬ Ls listed i:=Classical.byContradiction fun hh=>fj fun i hi=>Classical.byContradiction fun hn=>hh ⟨i,hi,hn⟩
   obtain ⟨i0,vA,uO⟩:=hex;have main:∀ i,i∈Region.ready .any l.toArray listed->i<m->wpOpIn (FR r0) 0 P l.toArray Q i (wpAnyIn (FR r0) 0 P .any l.toArray Q fuel (listed.setIfInBounds i true)) a w/\(i=p->wpAnyIn (FR r0) 0 P .any l.toArray Q (fuel+1) listed a w):=by
    intro i hi tH;obtain ⟨o,ho,hn,pR⟩:=(eI hI.sz).1 hi;obtain ⟨d,M7,s,hd,gl,uC,Dc,dP⟩:=iY i o (Zi _) (fD i o tH ho);obtain ⟨EK,EL,⟨B,hB,iE⟩,Tz⟩:=dP;obtain ⟨β,hm,pL⟩:=hI.own;have oN:∀ (j:Nat),fG o j=true->Ls listed j:=fun j hw=>by
     obtain ⟨e,he,hb,rN⟩:=eo hw;rw [<- rN];exact pR e he hb
    have EN:∀ (j:Nat),lX l o j=true->Ls listed j:=fun j hw=>by
     unfold lX at hw;rw [ZS] at hw;rcases hw with hw | hw
     ·exact oN j hw
     ·obtain ⟨k,_,hk⟩:=ZR.1 hw;rw [Zn] at hk;have IE:=oN k hk.1;cases hq:l[k]? with
      | none=>rw [hq] at hk;cases hk.2
      | some q =>
       rw [hq] at hk;obtain ⟨e,he,hb,rN⟩:=eo hk.2;rw [<- rN];exact hI.dc k q hq IE e he hb
    have uB:∀ (j:Nat) (oj:Oper) (e:Nat),l[j]? = some oj->j<m->j≠i->oj.dst=some e->d≠e:=by
     intro j oj e hj kS hne he;rcases Zbx j i with h | h
     ·exact fun e'=>(eQ (sn hc h tH hj ho) he hd).1 e'.symm
     ·exact (eQ (sn hc (show i<j by omega) kS ho hj) hd he).1
    have kr:i<listed.size:=by rw [hI.sz];omega
    have HL:pD o=true:=hc.op o (Z2 ho)
    -- DV dw VJ DV operation looks at
    have hT:∀ t∈o.looksAt l.toArray,∀ v,dj (M7 β) t=some v->a.tmps[t]? = some v:=by
     intro t ht v hv;rcases Dc β t v hv with ⟨j,oj,sj,h1,h2,h3,h4⟩ | ⟨h1,h2⟩
     ·have td:j<i:=by have:=(Zl.1 h1).1;rw [Zs] at this;omega
      rw [ZN,if_pos td] at h1 h3;obtain ⟨kS,pP⟩:=ie j oj h1;have np:=oN j ((eQ (sn hc td tH pP ho) h2 hd).2 (.inl ht));rw [h4];exact pL j oj t sj pP h2 h3 np
     ·rw [hI.F9 t fun j oj hj np jG=>?_]
      ·exact h0 t v h2
      ·have kS:j<m:=ZZ fun hm=>hI.hi j hm np
       rcases Zau j i with h | h | h
       ·exact h1 oj (Z2 (by rw [ZN,if_pos h];exact fD j oj kS hj)) jG
       ·subst h;exact hn np
       ·have hw:=(eQ (sn hc h kS ho hj) hd jG).2 (.inr ht);obtain ⟨e,he,hb,rN⟩:=eo hw;have:=hI.dc j oj hj np e he hb;rw [rN] at this;exact hn this
    have Be:∀ t v,dj (M7 β) t=some v->t<c.nt:=by
     intro t v hv;rcases Dc β t v hv with ⟨j,oj,sj,h1,h2,_,_⟩ | ⟨_,h2⟩
     ·have td:j<i:=by have:=(Zl.1 h1).1;rw [Zs] at this;omega
      rw [ZN,if_pos td] at h1;obtain ⟨d',_,_,Bk,Bi,_⟩:=iY j oj (Zi _) h1;rw [h2] at Bk;cases Bk;exact Bi
     ·have:=h0 t v h2;rw [<- PH];exact (Z3.1 this).1
    obtain ⟨a',mz,jU,_⟩:=sP hI.size Be hT;have Bl:kq c hs (S.take i) B β w:=by
     rintro A (rfl | ⟨j,hj,sj,h1,rfl⟩)
     ·exact hm.sublist ((Zbs _ _).trans (Zbo _ _))
     ·have td:j<i:=by have:=(Zl.1 h1).1;rw [Zs] at this;omega
      rw [ZN,if_pos td] at h1;have np:=EN j (hB j hj).1;exact hm.sublist ((wj (lst:=pk tk (fun i=>listed.getD i false)) (i:=0) h1 (by rw [Nat.zero_add];unfold pk;dsimp only;rw [(hB j hj).2,show listed.getD j false=true from np];rfl)).append (List.sublist_append_left _ _))
    have WT:listed.getD i false=false:=by have h:¬ listed.getD i false=true:=hn;simpa using h
    have htw:∀ j,iS tk i j=true->fG o j=true:=fun j h=>by
     unfold iS at h;rw [Zn] at h;exact Tz j (by simpa using h.2) (by simpa [Z8] using h.1)
    have htj:∀ j,iS tk i j=true->j<i:=fun j h=>by
     obtain ⟨e,he,hb,rN⟩:=eo (htw j h);have:=lV hc.ac ho e he hb;omega
    have hpk:∀ j,iS tk i j=true->pk tk (fun i=>listed.getD i false) j=true:=fun j h=>by
     have h1:listed.getD j false=true:=oN j (htw j h);have h2:tk j=i:=by unfold iS at h;rw [Zn] at h;simpa using h.2
     unfold pk;dsimp only;rw [h1,h2,WT];simp
    have etk:fh β (fun j=>pk tk (fun i=>listed.getD i false) j&&iS tk i j) S 0=fh β (iS tk i) (S.take i) 0:=by
     rw [r6 (n:=i) fun j hj=>by
      rw [ZF] at hj;cases ht:iS tk i j with
      | false=>rw [Bool.and_false]
      | true=>have:=htj j ht;omega]
     refine kG fun j sj _=>⟨?_,fun _=>rfl⟩;rw [ZF];cases ht:iS tk i j with
     | false=>rw [Bool.and_false]
     | true=>rw [hpk j ht];rfl
    have hmS:=hm.perm ((wm (β:=β) (pk tk (fun i=>listed.getD i false)) (iS tk i) S 0).append_right _)
    rw [Zh,etk] at hmS;obtain ⟨rQ,_,Wv,W4⟩:=Mem.Hf hmS;have hq:=iE β a' w rQ mz Bl Wv;have hex:=kh (o:=o) (ops:=l.toArray) HL jU
    -- VC a done operation aab acr not abY on this one
    have uA:∀ j,Ls listed j->∀ x k,BL l j k=true->β k=Af β i x k:=by
     intro j np x k hk;refine (Ae fun e=>?_).symm;subst e;unfold BL at hk;rw [ZS] at hk;rcases hk with hk | hk
     ·have:j=k:=by simpa using hk
      subst this;exact hn np
     ·have IB:j<l.length:=by
       have kS:j<m:=ZZ fun hm=>hI.hi j hm np
       omega
      exact hn (jR hI.dc hc.ac j IB np k hk)
    have kd:∀ v w',M9 i s β w rQ v w'->wpAnyIn (FR r0) 0 P .any l.toArray Q fuel (listed.setIfInBounds i true) (a.put o.dst v) w':=by
     rintro v w' ⟨x,rfl,hk,fp,iB,gi,Bg⟩;refine ih _ _ _ ⟨by simpa using hI.sz,?_,?_,by rw [hd];exact hI.defers,by simpa [Act.put,hd] using hI.size,?_,?_,Af β i x,?_,?_⟩
     ·intro k ok xV hL e he hb;rw [dA kr] at hL ⊢;rcases hL with e' | hL
      ·subst e';rw [ho] at xV;cases xV;exact .inr (pR e he hb)
      ·exact .inr (hI.dc k ok xV hL e he hb)
     ·intro k xV hL;rw [dA kr] at hL;rcases hL with e | hL
      ·omega
      ·exact hI.hi k xV hL
     ·intro t ht;have h1:d≠t:=fun e=>by subst e;exact ht i o ho ((dA kr).2 (.inl rfl)) hd
      rw [hd];simp only [Act.put,ZO h1];exact hI.F9 t fun j oj hj hL=>ht j oj hj ((dA kr).2 (.inr hL))
     ·obtain ⟨U,DY,vB,yA⟩:=hI.left;refine ⟨U.erase i,DY.erase i,fun k=>?_,?_⟩
      ·rw [DY.mem_erase_iff,vB k,dA kr];constructor
       ·rintro ⟨h1,h2,h3⟩;exact ⟨h2,fun h=>h.elim h1 h3⟩
       ·rintro ⟨h1,h2⟩;exact ⟨fun e=>h2 (.inl e),h1,fun h=>h2 (.inr h)⟩
      ·have WZ:i∈U:=(vB i).2 ⟨by omega,hn⟩;rw [ZaY WZ,yA];rfl
     ·have me:=W4 _ w' hk ⟨fp,iB,gi,Bg⟩;have e1:fh β (fun j=>pk tk (fun i=>listed.getD i false) j&&!iS tk i j) S 0=fh (Af β i x) (fun j=>pk tk (fun i=>listed.getD i false) j&&!iS tk i j) S 0:=kG fun j sj hj=>by
       refine ⟨I,fun hl=>?_⟩;rw [ZF] at hl;have hl:listed.getD j false=true:=by
        unfold pk at hl;simp only [Zn] at hl;exact hl.1.1
       have kS:j<m:=by have:=(Zl.1 hj).1;omega
       obtain ⟨oj,PG⟩:∃ oj,l[j]? = some oj:=⟨l[j]'(by omega),Zc (by omega)⟩;obtain ⟨_,_,s2,_,_,hs2,_,Bc⟩:=iY j oj (Zi _) (fD j oj kS PG);rw [hj] at hs2;cases hs2;exact Bc.EL _ _ (uA j hl x)
      rw [e1,<- Zh] at me;have qN:∀ k,(listed.setIfInBounds i true).getD k false=(listed.getD k false||Nat.beq k i):=fun k=>by
       by_cases T1:k=i
       ·subst T1;rw [show Nat.beq k k=true by simp,Bool.or_true];exact (dA kr).2 (.inl I)
       ·rw [show Nat.beq k i=false from ZaG.2 fun h=>T1 (Zad h),Bool.or_false]
        simp [ZJ,ZO (Ne.symm T1)]
      refine me.perm ((wu (k:=i) uC ?_ ?_ ?_).append_right _)
      ·rw [ZF];unfold pk;dsimp only;rw [WT];rfl
      ·rw [ZF];unfold pk;dsimp only;rw [qN,show Nat.beq i i=true by simp,Bool.or_true,Zaz];by_cases TH:tk i=0
       ·rw [TH];rfl
       ·have htp:0<tk i:=Nat.pos_of_ne_zero TH;have vw:listed.getD (tk i) false=false:=by
         cases hh:listed.getD (tk i) false with
         | false=>rfl
         | true =>
          exfalso;have hLt:Ls listed (tk i):=hh;have YC:tk i<m:=ZZ fun hm=>hI.hi _ hm hLt
          obtain ⟨ot,hot⟩:∃ ot,l[tk i]? = some ot:=⟨l[tk i]'(by omega),Zc (by omega)⟩;obtain ⟨_,_,_,_,_,_,_,abb⟩:=iY (tk i) ot (Zi _) (fD _ ot YC hot);obtain ⟨e,he,hb,rN⟩:=eo (abb.waits i rfl htp);have:=hI.dc (tk i) ot hot hLt e he hb;rw [rN] at this;exact hn this
        have hne:Nat.beq (tk i) i=false:=by
         cases hh:Nat.beq (tk i) i with
         | false=>rfl
         | true =>
          exfalso;have e:tk i=i:=by simpa using hh
          have:=htj i (by unfold iS;rw [hh,Bool.and_true];rw [e] at htp;simpa [Z8] using htp);omega
        rw [qN,vw,hne];simp
      ·intro j hj;rw [ZF] at hj;unfold pk;dsimp only;rw [qN,qN,show Nat.beq j i=false from ZaG.2 fun h=>hj (Zad h),Bool.or_false]
       unfold iS;cases h1:Nat.beq (tk j) i with
       | false=>simp
       | true =>
        have e:tk j=i:=by simpa using h1
        rw [e,WT];cases Nat.blt 0 i <;> simp
     ·intro j oj e sj hj he lu hL;rw [dA kr] at hL;by_cases td:j=i
      ·subst td;rw [ho] at hj;cases hj;rw [hd] at he;cases he;rw [uC] at lu;cases lu;rw [hd];simp [Act.put,hI.size,gl]
      ·have Gs:=hL.resolve_left td;have kS:j<m:=ZZ fun hm=>hI.hi j hm Gs
       obtain ⟨_,_,s2,_,_,hs2,_,Bc⟩:=iY j oj (Zi _) (fD j oj kS hj);rw [lu] at hs2;cases hs2;rw [hd];simp only [Act.put,ZO (uB j oj e hj kS td he)];rw [<- Bc.EK _ _ (uA j Gs x)];exact pL j oj e sj hj he lu Gs
    have YE:=hq;refine ⟨?_,fun Vf=>?_⟩
    rotate_left
    ·subst Vf;exact (LG tH).elim
    unfold wpOpIn;rw [show l.toArray[i]? = some o from by simpa using ho];simp only [];rw [j4 jU] at hq;split
    ·rename_i hw;rw [if_pos hw] at hq;refine ⟨eh _ _ _ _ _,?_⟩;rw [Oper.semAt_eq _ _ _ (fun cc he=>by simp [pD,he] at HL),<- hex]
     unfold qT at hq
     revert hq
     generalize (execOp a'.eval o).run P w=res;intro hq
     match res,hq with
     | .ok (.value v) w',hq=>exact kd v w' hq
     | .ok (.enter f args) w', ⟨e, cV⟩ =>
      subst e;refine ⟨by simp [FR,Fence.wide],(jN cV).mono fun e z8 h=>?_⟩;obtain ⟨v,rfl,hq⟩:=h;exact kd v z8 hq
    ·rename_i hw;rw [if_neg hw] at hq;exact ⟨fun _ _=>trivial,kd undef w hq⟩
   by_cases hp:p<m/\p∈Region.ready .any l.toArray listed
   ·exact (main p hp.2 hp.1).2 I
   ·refine ⟨fun hr=>?_,fun i hi=>?_⟩
    ·obtain ⟨i,hi⟩:=k8 hI.sz hc.ac ⟨i0,by omega,uO⟩;rw [hr] at hi;cases hi
    ·have tH:i<m:=ZZ fun hm=>by
      have Vc:=CO hc hI.sz hI.dc hi hm;by_cases IA:p<m
      ·by_cases hLp:Ls listed p
       ·exact uO (by
         by_cases e:i0=p
         ·rw [e];exact hLp
         ·exact Vc i0 vA e)
       ·refine hp ⟨IA,(eI hI.sz).2 ⟨l[p]'(by omega),Zc (by omega),hLp,fun e he hb=>?_⟩⟩;have aL:=lV hc.ac (Zc (show p<l.length by omega)) e he hb;exact Vc e.on (by omega) (by omega)
      ·exact uO (Vc i0 vA (by omega))
     exact (main i hi tH).1
def sZ (tk:Nat->Nat) (P:Program) (r0:Option Nat) (c:Cx) (D:List Nat) (hs:List bd) (l:List Oper) (Q:Exit->Act->World->Prop) (m i n:Nat) (rest:List Oper) (SL:(Nat->Value)->aN) (S:List dd):Prop:=
 ∃ S' qQ,xM P c hs l tk i (rest.take n) SL S S' qQ/\∀ β,Tr c D (qQ β) (fh β (pk tk (fun i=>Nat.blt i m)) S' 0++hs) (zV P r0 l.toArray Q (l.length-m) (qU l.length m))
theorem Cg {id:Nat} (m:Nat) (tk:Nat->Nat) [sD:UQ P] (fP:SP l m=true) (k:sZ tk P r0 c D hs l Q m 0 m l (fun _=>sl) []):Tr c D sl hs (WP P r0 (.region id l.toArray true) Q):=fun a w bb=>by
 obtain ⟨S,qQ,hp,ht⟩:=k;have h:(Code.region id l.toArray true).wpIn (FR r0) 0 P (NP Q) a w:=wpIn_region_any sD.eq (by
  refine S3 (tk:=tk) (p:=m) (CN fP) (fun h=>absurd h (Nat.lt_irrefl _)) (fun c a w h=>h.elim) hp bb.dw bb.size (fun β a w bb=>ht β a w bb) l.toArray.size _ _ _ ⟨by simp,?_,?_,bb.defers,bb.size,fun t _=>rfl,?_,fun _=>undef,?_,?_⟩
  ·exact fun k o _ hL=>absurd hL (gQ _ _)
  ·exact fun k _ hL=>gQ _ _ hL
  ·exact ⟨List.range l.length,ZbD,fun i=>⟨fun h=>⟨by simpa using h,gQ _ _⟩,fun h=>by simpa using h.1⟩,by simp⟩
  ·have e:∀ (T:List dd) (i:Nat),fh (fun _=>undef) (pk tk (fun i=>(Array.replicate l.toArray.size false).getD i false)) T i=[]:=by
    intro T
    induction T with
    | nil=>intro i;rfl
    | cons s T ih =>
     intro i;have:=gQ l.toArray.size i;unfold Ls at this;unfold fh;rw [if_neg (by unfold pk;simp only [Zn];exact fun h=>this h.1),ih];rfl
   rw [e];exact bb.mem.drew
  ·exact fun j o d s _ _ _ hL=>absurd hL (gQ _ _))
 exact wpIn_mono h fun e a' w' h=>by
  cases e with
  | panic c=>exact h.elim
  | _=>exact h
end
section
variable {P:Program} {c:Cx} {D:List Nat} {sl:aN} {hs hs':List bd} {X:Act->World->Prop} {Q:Exit->Act->World->Prop} {l:List Oper} {m i n d:Nat} {qM:List (Nat×Nat)} {op:Op} {ty:TypeId} {pos:String} {af:Array Edge} {rest:List Oper} {SL:(Nat->Value)->aN} {S:List dd}
variable {r0:Option Nat}
theorem sV {o:Oper} {s:dd} (hd:o.dst=some d) (gl:Nat.blt d c.nt=true) (h:M6 P c hs l (j6 qM) i o SL S s) (k:sZ (j6 qM) P r0 c D hs l Q m (i+1) n rest (fun β=>(d,s.F β)::SL β) (S++[s])):sZ (j6 qM) P r0 c D hs l Q m i (n+1) (o::rest) SL S:=by
 obtain ⟨S',qQ,hp,ht⟩:=k;exact ⟨S',qQ,.step hd (by simpa [Z8] using gl) h hp,ht⟩
theorem M1 (k:∀ β,Tr c D (SL β) (fh β (pk (j6 qM) (fun i=>Nat.blt i m)) S 0++hs) (zV P r0 l.toArray Q (l.length-m) (qU l.length m))):sZ (j6 qM) P r0 c D hs l Q m i 0 rest SL S:=
 ⟨S,SL,.nil,k⟩
theorem zS {t e:TypeId} {agg:Bool} {size bytes jx n0:Nat} {z:Value} {x y:Operand} {Vx Vy:(Nat->Value)->Value} {Ax:(Nat->Value)->List bd} {xs:List Value} {news:List (List Value)} [hu:iI P t (.slice e)] [hT:Ty P e agg size] [hZ:mA P e z] [hBy:uW P e bytes] (B:List Nat)
  (hB:(B.all fun j=>lX l ⟨some d,.call ⟨.builtin .append,#[x,y],#[t,t]⟩,ty,pos,af,none⟩ j&&Nat.beq (j6 qM j) 0)=true)
  (hS:S[jx]? = some ⟨Vx,Ax⟩) (hrow:∀ β w fp,cy (hp w) (Ax β) fp->(row e size (Vx β) n0 xs).sat (hp w) fp)
  (htk:∀ k,j6 qM k=i->k=jx) (hti:j6 qM jx=i) (h0:Nat.blt 0 i=true) (hwx:fG ⟨some d,.call ⟨.builtin .append,#[x,y],#[t,t]⟩,ty,pos,af,none⟩ jx=true)
  (hx:∀ β,Is (SL β) x (Vx β)) (hy:∀ β,Is (SL β) y (Vy β)) (hsrc:∀ β w,kq c hs S B β w->Rd w (Vy β) size news) (h1:∀ r∈news,∀ u∈r,u.oneCell'=true) (hz:z.cells.size=size) (hsz:Nat.blt 0 size=true) (hb0:Nat.blt 0 bytes=true)
  (hb:(n0+news.length)*bytes<=140737488355328) (hd:Nat.blt d c.nt=true)
  (k:sZ (j6 qM) P r0 c D hs l Q m (i+1) n rest (fun β=>(d,β i)::SL β) (S++[⟨fun β=>β i,fun β=>[row e size (β i) (n0+news.length) (xs++news.flatten)]⟩])) :
  sZ (j6 qM) P r0 c D hs l Q m i (n+1) (⟨some d,.call ⟨.builtin .append,#[x,y],#[t,t]⟩,ty,pos,af,none⟩::rest) SL S:=by
 refine sV (s:=⟨fun β=>β i,fun β=>[row e size (β i) (n0+news.length) (xs++news.flatten)]⟩) I hd ⟨fun β β' h=>by simp only [h i (iw l i)],fun β β' h=>by simp only [h i (iw l i)],⟨B,fun j hj=>?_,fun β a w rQ uv Bl gi=>?_⟩,fun j hj _=>by rw [htk j hj];exact hwx⟩ k
 ·have:=Zaj.1 hB j hj;rw [Zn] at this;exact ⟨this.1,by simpa using this.2⟩
 rw [if_pos (by simp [Region.wanted])];rw [wq (i:=0) hS fun k=>by
  rw [ZF];unfold iS;rw [h0,Zaz];by_cases e:k=jx
  ·subst e;rw [hti];simp
  ·rw [show Nat.beq k jx=false from ZaG.2 fun h=>e (Zad h)]
   exact ZaG.2 fun h=>e (htk k (Zad h))] at gi
 have Nr:=hrow β w rQ gi;have hR:=hsrc β w Bl;have YB:=hx β a uv;have Rf:=hy β a uv;have hlen:=fU hR.sz;by_cases hne:news=[]
 ·subst hne;obtain ⟨aa,cap,b,o,hV,_⟩:=hR;rw [hV] at Rf;have U8:(Vx β=.slice none 0 0/\n0=0)\/∃ g cap,Vx β=.slice (some ⟨g,0,none⟩) n0 cap/\n0<=cap:=by
   obtain ⟨_,_,h1⟩:=Nr;exact h1.imp id fun ⟨g,cap,cur,e,_,hc,_⟩=>⟨g,cap,e,hc⟩
  have iE:(execOp a.eval ⟨some d,.call ⟨.builtin .append,#[x,y],#[t,t]⟩,ty,pos,af,none⟩).run P w=.ok (.value (Vx β)) w:=by
   have:=tZ (P:=P) (t:=t) (e:=e) (ty:=ty) (w:=w) (agg:=agg) (size:=size) (a:=aa) (cp:=cap) U8;simp only [Zaf] at Rf;simp [execOp,resolve,invoke,builtin,YB,Rf,this]
  unfold qT;rw [iE];refine ⟨Vx β,by simp only [jo],.refl _ _,rQ,?_,⟨rQ,[],by simp,?_,I⟩,fun b hb=>.inl hb⟩
  ·rw [Nr.1];cases (Vx β).ownBlock <;> simp
  ·simp only [jo,Zaf,Zas,List.flatten_nil,ZK];exact Nr
 ·obtain ⟨aa,cap,b2,o2,hV,dC,ch,haa,hcc⟩:=hR;have:=haa hne;subst this;rw [hV] at Rf;obtain ⟨de,ii,kz,Dj,_,gK⟩:=Ty.parts (P:=P) (t:=e) (agg:=agg) (n:=size);have hzero:ii.zero=some z:=by have:=hZ.eq;rw [Dj] at this;simpa using this
  have gG:ii.bytes=bytes:=by have:=hBy.eq;rw [Dj] at this;simpa using this
  have xi:0<bytes:=by simpa using hb0
  have pN:=vY Nr;have Dh:n0+news.length<=maxLen:=by
   have:(n0+news.length)*1<=(n0+news.length)*bytes:=Zbg _ xi;unfold maxLen;omega
  have hn:∀ (j:Nat) (u:Value),news.flatten[j]? = some u->w.cell? ⟨b2,o2+j,none⟩=some u:=kI hcc;have Bp:∀ u∈news.flatten,u.oneCell'=true:=fun u hu=>by obtain ⟨r,hr,Pv⟩:=Zbu.1 hu;exact h1 r hr u Pv
  obtain ⟨v',w',iE,pM,sE,_⟩:=run_append_own (P:=P) w 0 t ty e ii z size bytes hu.eq Dj hzero gK gG hz (by simpa using hsz) (Vx β) n0 xs pN ⟨b2,o2,none⟩ news.length cap news.flatten hlen
   (fun j u hj=>by rw [eO];exact hn j u hj) Bp Dh hb (Zi _)
  have tG:=oL (P:=P) (t:=t) (ty:=ty) hu.eq Dj hzero (by rw [gK];exact pN) (a:=⟨b2,o2,none⟩) (m:=news.length) (cp:=cap) (by rw [gK];exact hlen) (fun j u hj=>by rw [eO];exact hn j u hj) Bp Dh (by rw [gG];exact hb) iE
  have hex:(execOp a.eval ⟨some d,.call ⟨.builtin .append,#[x,y],#[t,t]⟩,ty,pos,af,none⟩).run P w=.ok (.value v') w':=by
   simp [execOp,resolve,invoke,builtin,YB,Rf,iE]
  unfold qT;rw [hex];have BX:rQ=(Vx β).ownBlock.toList:=Nr.1;refine ⟨v',by simp only [jo],⟨sE.os,sE.tape,sE.output,tG.2,sE.size,fun q hq WN=>sE.block q hq (fun he=>WN ?_)⟩,v'.ownBlock.toList,by cases v'.ownBlock <;> simp,⟨v'.ownBlock.toList,[],(ZK _).symm,by simp only [jo];exact kW pM,I⟩,fun q hq=>?_⟩
  ·rw [BX,<- he];simp
  ·have ux:v'.ownBlock=some q:=by simpa [Option.mem_toList] using hq
   rcases tG.1 with h | h
   ·left;rw [BX,<- h,ux];simp
   ·right
    rw [h] at ux;cases ux;exact Zv _
theorem M3 {ι:Type} {Φ:ι->Prop} {val:ι->Value} {own:ι->List bd} (g:Value->ι) (hg:∀ x,∃ v,g v=x) {f:FuncId} {args:(Nat->Value)->List Value} (B:List Nat)
  (hB:(B.all fun j=>lX l ⟨some d,op,ty,pos,af,none⟩ j&&Nat.beq (j6 qM j) 0)=true) (hn:(qM.all fun p=>!Nat.beq p.2 i)=true)
  (hr:∀ β,mH P (SL β) ⟨some d,op,ty,pos,af,none⟩ f (args β)) (hd:Nat.blt d c.nt=true) (hc:∀ β w,kq c hs S B β w->a8 P f (args β) w [] Φ val own)
  (k:sZ (j6 qM) P r0 c D hs l Q m (i+1) n rest (fun β=>(d,val (g (β i)))::SL β) (S++[⟨fun β=>val (g (β i)),fun β=>own (g (β i))⟩])) :
  sZ (j6 qM) P r0 c D hs l Q m i (n+1) (⟨some d,op,ty,pos,af,none⟩::rest) SL S:=by
 refine sV (s:=⟨fun β=>val (g (β i)),fun β=>own (g (β i))⟩) I hd ⟨fun β β' h=>by simp only [h i (iw l i)],fun β β' h=>by simp only [h i (iw l i)],⟨B,fun j hj=>?_,fun β a w rQ uv Bl _=>?_⟩,fun j hj hp=>(u5 hn hj hp).elim⟩ k
 ·have:=Zaj.1 hB j hj;rw [Zn] at this;exact ⟨this.1,by simpa using this.2⟩
 rw [if_pos (by simp [Region.wanted])];unfold qT;rw [(hr β).2 a w uv];refine ⟨I,(hc β w Bl).mono fun e w' ⟨x,he,_,hk,fp,hn,hs',hf⟩=>?_⟩;obtain ⟨v,hv⟩:=hg x;refine ⟨val x,he,v,by simp only [jo,hv],hk.mono (by simp),fp,hn,by simp only [jo,hv];exact hs',fun b hb=>?_⟩;rcases hf b hb with h | h
 ·cases h
 ·exact .inr h
theorem jK {F:(Nat->Value)->Value} (hr:∀ β,du P c (SL β) hs ⟨some d,op,ty,pos,af,none⟩ (F β)) (hi:oT l i F) (hd:Nat.blt d c.nt=true) (hn:(qM.all fun p=>!Nat.beq p.2 i)=true) (k:sZ (j6 qM) P r0 c D hs l Q m (i+1) n rest (fun β=>(d,F β)::SL β) (S++[⟨F,fun _=>[]⟩])) :
  sZ (j6 qM) P r0 c D hs l Q m i (n+1) (⟨some d,op,ty,pos,af,none⟩::rest) SL S:=
 sV (s:=⟨F,fun _=>[]⟩) I hd ⟨hi,fun _ _ _=>rfl,⟨[],by simp,fun β a w rQ h1 h2 _=>by
  rw [if_pos (by simp [Region.wanted])];unfold qT;rw [(hr β).2 a w h1 h2.mem];exact ⟨β i,by rw [vN],.refl _ _,[],Zao,I,by simp⟩⟩,fun j hj hp=>(u5 hn hj hp).elim⟩ k
theorem vJ {V:Nat->Value} {ob:(Nat->Value)->Obj} (hr:∀ β,qR P c (SL β) hs ⟨some d,op,ty,pos,af,none⟩ V (ob β)) (hi:∀ β β',(∀ k,k≠i->BL l i k=true->β k=β' k)->ob β=ob β') (hd:Nat.blt d c.nt=true) (hn:(qM.all fun p=>!Nat.beq p.2 i)=true)
  (k:sZ (j6 qM) P r0 c D hs l Q m (i+1) n rest (fun β=>(d,V (eu (β i)))::SL β) (S++[⟨fun β=>V (eu (β i)),fun β=>[bu (eu (β i)) (ob β)]⟩])) :
  sZ (j6 qM) P r0 c D hs l Q m i (n+1) (⟨some d,op,ty,pos,af,none⟩::rest) SL S:=
 sV (s:=⟨fun β=>V (eu (β i)),fun β=>[bu (eu (β i)) (ob β)]⟩) I hd ⟨fun β β' h=>by simp only [h i (iw l i)],fun β β' h=>by simp only [h i (iw l i),hi β β' fun k _ hk=>h k hk],⟨[],by simp,fun β a w rQ h1 h2 _=>by
  rw [if_pos (by simp [Region.wanted])];unfold qT;rw [(hr β).2 a w h1 h2.mem];have e:ob (Af β i (.q (w.heap.size:Int)))=ob β:=hi _ _ fun k hk _=>Ae hk
  exact ⟨.q (w.heap.size:Int),by simp only [jo,qC],.alloc _ _ _,[w.heap.size],by simp,⟨[w.heap.size],[],I,⟨by simp only [jo,qC],by simp only [jo,qC];rw [e];exact World.alloc_heap_new w (ob β)⟩,I⟩,by simp⟩⟩,fun j hj hp=>(u5 hn hj hp).elim⟩ k
end
end Go.SL.KR
namespace Go.SL.KR
open Go Go.SL
section
variable {P:Program} {c:Cx} {D:List Nat} {sl:aN} {hs hs':List bd} {X:Act->World->Prop} {Q:Exit->Act->World->Prop} {l:List Oper} {m i n d:Nat} {qM:List (Nat×Nat)} {op:Op} {ty:TypeId} {pos:String} {af:Array Edge} {rest:List Oper} {SL:(Nat->Value)->aN} {S:List dd}
variable {r0:Option Nat}
theorem Fm {t e:TypeId} {agg:Bool} {size bytes jx n0:Nat} {z:Value} {x y:Operand} {Vx Vy:(Nat->Value)->Value} {Ax:(Nat->Value)->List bd} {xs:List Value} {news:List (List Value)} [hu:iI P t (.slice e)] [hT:Ty P e agg size] [hZ:mA P e z] [hBy:uW P e bytes] (B:List Nat)
  (hB:(B.all fun j=>lX l ⟨some d,.call ⟨.builtin .append,#[x,y],#[t,t]⟩,ty,pos,af,none⟩ j&&Nat.beq (j6 qM j) 0)=true)
  (hS:S[jx]? = some ⟨Vx,Ax⟩) (hrow:∀ β w fp,cy (hp w) (Ax β) fp->(row e size (Vx β) n0 xs).sat (hp w) fp)
  (htk:∀ k,j6 qM k=i->k=jx) (hti:j6 qM jx=i) (h0:Nat.blt 0 i=true) (hwx:fG ⟨some d,.call ⟨.builtin .append,#[x,y],#[t,t]⟩,ty,pos,af,none⟩ jx=true)
  (hx:∀ β,Is (SL β) x (Vx β)) (hy:∀ β,Is (SL β) y (Vy β)) (hsrc:∀ β w,kq c hs S B β w->Rd w (Vy β) size news) (h1:∀ r∈news,∀ u∈r,u.oneCell'=true) (hz:z.cells.size=size) (hsz:Nat.blt 0 size=true) (hb0:Nat.blt 0 bytes=true)
  (hb:(n0+news.length)*bytes<=140737488355328) (hd:Nat.blt d c.nt=true) (hne:news≠[])
  (k:sZ (j6 qM) P r0 c D hs l Q m (i+1) n rest (fun β=>(d,.slice (uD (β i)).1 (n0+news.length) (uD (β i)).2)::SL β) (S++[⟨fun β=>.slice (uD (β i)).1 (n0+news.length) (uD (β i)).2,fun β=>[row e size (.slice (uD (β i)).1 (n0+news.length) (uD (β i)).2) (n0+news.length) (xs++news.flatten)]⟩])) :
  sZ (j6 qM) P r0 c D hs l Q m i (n+1) (⟨some d,.call ⟨.builtin .append,#[x,y],#[t,t]⟩,ty,pos,af,none⟩::rest) SL S:=by
 refine sV (s:=⟨fun β=>.slice (uD (β i)).1 (n0+news.length) (uD (β i)).2,fun β=>[row e size (.slice (uD (β i)).1 (n0+news.length) (uD (β i)).2) (n0+news.length) (xs++news.flatten)]⟩) I hd ⟨fun β β' h=>by simp only [h i (iw l i)],fun β β' h=>by simp only [h i (iw l i)],⟨B,fun j hj=>?_,fun β a w rQ uv Bl gi=>?_⟩,fun j hj _=>by rw [htk j hj];exact hwx⟩ k
 ·have:=Zaj.1 hB j hj;rw [Zn] at this;exact ⟨this.1,by simpa using this.2⟩
 rw [if_pos (by simp [Region.wanted])];rw [wq (i:=0) hS fun k=>by
  rw [ZF];unfold iS;rw [h0,Zaz];by_cases e:k=jx
  ·subst e;rw [hti];simp
  ·rw [show Nat.beq k jx=false from ZaG.2 fun h=>e (Zad h)]
   exact ZaG.2 fun h=>e (htk k (Zad h))] at gi
 have Nr:=hrow β w rQ gi;have hR:=hsrc β w Bl;have YB:=hx β a uv;have Rf:=hy β a uv;have hlen:=fU hR.sz;obtain ⟨aa,cap,b2,o2,hV,dC,ch,haa,hcc⟩:=hR;have:=haa hne;subst this;rw [hV] at Rf;obtain ⟨de,ii,kz,Dj,_,gK⟩:=Ty.parts (P:=P) (t:=e) (agg:=agg) (n:=size);have hzero:ii.zero=some z:=by have:=hZ.eq;rw [Dj] at this;simpa using this
 have gG:ii.bytes=bytes:=by have:=hBy.eq;rw [Dj] at this;simpa using this
 have xi:0<bytes:=by simpa using hb0
 have pN:=vY Nr;have Dh:n0+news.length<=maxLen:=by
  have:(n0+news.length)*1<=(n0+news.length)*bytes:=Zbg _ xi;unfold maxLen;omega
 have hn:∀ (j:Nat) (u:Value),news.flatten[j]? = some u->w.cell? ⟨b2,o2+j,none⟩=some u:=kI hcc;have Bp:∀ u∈news.flatten,u.oneCell'=true:=fun u hu=>by obtain ⟨r,hr,Pv⟩:=Zbu.1 hu;exact h1 r hr u Pv
 obtain ⟨v',w',iE,pM,sE,_⟩:=run_append_own (P:=P) w 0 t ty e ii z size bytes hu.eq Dj hzero gK gG hz (by simpa using hsz) (Vx β) n0 xs pN ⟨b2,o2,none⟩ news.length cap news.flatten hlen
  (fun j u hj=>by rw [eO];exact hn j u hj) Bp Dh hb (Zi _)
 have tG:=oL (P:=P) (t:=t) (ty:=ty) hu.eq Dj hzero (by rw [gK];exact pN) (a:=⟨b2,o2,none⟩) (m:=news.length) (cp:=cap) (by rw [gK];exact hlen) (fun j u hj=>by rw [eO];exact hn j u hj) Bp Dh (by rw [gG];exact hb) iE
 have hex:(execOp a.eval ⟨some d,.call ⟨.builtin .append,#[x,y],#[t,t]⟩,ty,pos,af,none⟩).run P w=.ok (.value v') w':=by
  simp [execOp,resolve,invoke,builtin,YB,Rf,iE]
 unfold qT;rw [hex];have BX:rQ=(Vx β).ownBlock.toList:=Nr.1;have hN:0<n0+news.length:=by have:=List.length_pos_iff.2 hne;omega
 have YD:v'=.slice (uD v').1 (n0+news.length) (uD v').2:=by
  rcases pM.2 with ⟨_,e2⟩ | ⟨g,cp,cur,e2,_⟩
  ·omega
  ·rw [e2];rfl
 refine ⟨v',by simp only [jo];exact YD,⟨sE.os,sE.tape,sE.output,tG.2,sE.size,fun q hq WN=>sE.block q hq (fun he=>WN ?_)⟩,v'.ownBlock.toList,by cases v'.ownBlock <;> simp,⟨v'.ownBlock.toList,[],(ZK _).symm,by simp only [jo];rw [<- YD];exact kW pM,I⟩,fun q hq=>?_⟩
 ·rw [BX,<- he];simp
 ·have ux:v'.ownBlock=some q:=by simpa [Option.mem_toList] using hq
  rcases tG.1 with h | h
  ·left;rw [BX,<- h,ux];simp
  ·right
   rw [h] at ux;cases ux;exact Zv _
end
end Go.SL.KR
namespace Go.Proofs.A1
open Go Go.SL
open Tryz
open Tryz renaming prog->T_
def BI (x:Wy):bd:=row 3 1 x.v (gR x.p).length (gR x.p)
theorem BJ:∀ ly:List Wy,fR 3 (ly.map Wy.v) (ly.map fun x=>gR x.p)=ly.map BI
 | []=>rfl
 | x::l=>by simp only [Z4,fR,BJ l];rfl
theorem Cn:∀ (l:List bd) (A:bd) (m:List bd),Take (l++A::m) A (l++m)
 | [],_,_=>.here
 | _::l,A,m=>.there (Cn l A m)
theorem yZ (A:bd):∀ (l m:List bd),bj (A::(l++m)) l (A::m)
 | [],_=>.nil
 | _::l,m=>.cons (.there .here) (yZ A l m)
theorem vS {c:Cx} {D:List Nat} {sl:aN} {hs hs':List bd} {X:Act->World->Prop} {ly:List Wy} {x:Wy} (hx:x∈ly) (ht:Take hs (jk ly) hs')
  (k:∀ oY,(∀ y,y∈ly↔y=x\/y∈oY)->Tr c D sl (jk oY::row 3 1 x.v x.p.length (gR x.p)::hs') X):Tr c D sl hs X:=by
 obtain ⟨l1,l2,rfl⟩:=List.append_of_mem hx;have hk:=k (l1++l2) (fun y=>by simp only [Zz,ZQ];constructor <;> (intro h;rcases h with h | h | h <;> simp [h]))
 refine yU (As:=fR 3 ((l1++x::l2).map Wy.v) ((l1++x::l2).map fun x=>gR x.p)) (show Take hs (Ng (fR 3 ((l1++x::l2).map Wy.v) ((l1++x::l2).map fun x=>gR x.p))) hs' from ht) ?_;rw [BJ,Zy,Z4,Zh,Zb];refine u3 (Cn (l1.map BI) (BI x) (l2.map BI++hs')) (fun _ _ h=>h) ?_;rw [<- Zh,<- Zy];refine tf (yZ (BI x) ((l1++l2).map BI) hs') ?_;have e:jk (l1++l2)=Ng ((l1++l2).map BI):=by rw [<- BJ];rfl
 rw [<- e];have e2:BI x=row 3 1 x.v x.p.length (gR x.p):=by unfold BI gR;rw [Zd]
 rw [e2];exact hk
theorem K6 (p:List Nat):(gR p).length=p.length:=by unfold gR;rw [Zd]
variable {de:ByteArray} {p:List Nat} {r:Ro} {so:ByteArray} {v:Int}
theorem CZ {k:Nat} (h:k<p.length) (cur:List Value):(gR p++cur)[k*1]? = some (.q (p[k]:Nat)):=by
 rw [Zan,Zx (by rw [K6];exact h)];unfold gR;rw [ZG,Zc h];rfl
theorem CX (p:List Nat) (i:Nat):(nz p).contains (i:Int)=p.contains i:=by
 induction p with
 | nil=>rfl
 | cons x l ih =>
  show (((i:Int)==(x:Int))||(nz l).contains (i:Int))=((i==x)||l.contains i);rw [ih];congr 1;rw [ZaS,beq_iff_eq,beq_iff_eq];omega
theorem q6 {α:Type} {l:List Oper} {i:Nat} {x:α}:oT l i (fun _:Nat->Value=>x):=fun _ _ _=>rfl
theorem HD {N:Wn} {dm:Int} (h:N.Fk=dm):N.least dm []:=by
 refine ⟨N.oz,h,fun q _ _=>?_⟩;rcases Wn.Lb (N:=N) (show [] <+: q from List.nil_prefix) with e | e
 ·rw [<- e];exact N.lt_irrefl []
 ·cases hb:N.lt q [] with
  | false=>rfl
  | true=>have:=Wn.lt_trans e hb;rw [N.lt_irrefl] at this;cases this
set_option maxHeartbeats 4000000 in
theorem QK {s d t p:Value} (v:Int) (so de:ByteArray) {w:World} (h:RR w r s d t p) (hn:oS r) (hV:jy r r.po) (hd:DT r) (rp:so∈cN r) (gl:de∈cu r) :
  a8 T_ 175 [RA r s d t p,.q v,.string so,.string de] w [] (fun x:Bool×Wy×List Wy=>(x.1=true->(dJ r r.po v so).least (ll r de) x.2.1.p/\(x.2.1∈x.2.2\/x.2.1=⟨.z,[],0⟩))/\(x.1=false->∀ q,(dJ r r.po v so).ok q->(dJ r r.po v so).fin q≠ll r de)/\x.2.1.v.oneCell'=true)
   (fun x=>.tuple #[.agg x.2.1.cells.toArray,.bool x.1]) (fun x=>[jk x.2.2]):=by
 have h6:r.ti.length<=6:=by have:=hn.UZ;unfold cQ at this;rwa [Zd] at this
 obtain ⟨h1,h2,h3,h4⟩:=h.one;have hti:=h.ti;obtain ⟨a,cp,b,o',rfl,dC,ch,ha,hc⟩:=hti;have TI:=h.sr;obtain ⟨a2,pe,b2,o2,rfl,jS,eV,jU,kg⟩:=TI;have kz:=h.de;obtain ⟨a3,tP,b3,o3,rfl,mU,gB,rP,pb⟩:=kz;rw [bS] at *;rw [cG] at *;rw [bY] at *;unfold maxLen at ch eV gB;obtain ⟨i0,vA⟩:∃ i:Nat,bB (cN r) so=(i:Nat):=⟨(bB (cN r) so).toNat,by have:=dK rp;omega⟩;have EV:i0<r.sr.length:=by
  obtain ⟨hl,_⟩:=fk (l:=cN r) (s:=so) (by omega);rw [vA,ZE] at hl;unfold cN at hl;rwa [Zd] at hl
 obtain ⟨j0,rO⟩:∃ i:Nat,bB (cu r) de=(i:Nat):=⟨(bB (cu r) de).toNat,by have:=dK gl;omega⟩;have Bf:j0<r.de.length:=by
  obtain ⟨hl,_⟩:=fk (l:=cu r) (s:=de) (by omega);rw [rO,ZE] at hl;unfold cu at hl;rwa [Zd] at hl
 have pO:oV r so=(r.sr[i0]).mx:=by unfold oV;rw [vA,ZE,Zk,Zc EV];rfl
 have W7:ll r de=(r.de[j0]).mx:=by unfold ll;rw [rO,ZE,Zk,Zc Bf];rfl
 have hsrc:∀ w',aI [] w w'->an T_ 180 [.agg #[.q r.lv,.q r.ma,.slice a2 r.sr.length pe,.slice a3 r.de.length tP,.slice a r.ti.length cp,p],.string so] w' (.q (i0:Nat)):=fun w' hk=>vA ▸ pt so (h.keeps hk)
 have uP:∀ w',aI [] w w'->an T_ 155 [.agg #[.q r.lv,.q r.ma,.slice a2 r.sr.length pe,.slice a3 r.de.length tP,.slice a r.ti.length cp,p],.string de] w' (.q (j0:Nat)):=fun w' hk=>rO ▸ gH de (h.keeps hk)
 have qO:=jU (iD EV);have fB:=(kg i0 _ (fW EV)).2;unfold Sr.cells at fB;have Vd:=fB 1 _ I;have yz:=rP (ij Bf);have pS:=(pb j0 _ (fM Bf)).2;unfold De.cells at pS;have Bj:=pS 1 _ I;unfold RA;refine aS func175 I I ?_
 (refine Jr<|Jy I I fun _ _=>Jz I I fun _ _=>Ja I<|Jn<|JX<|Jq ?_)
 rename_i b4 sH b8 YV
 with_reducible refine cz 18 (by kernel_rfl) ?_
 (refine jH I I ae<|aq (gn (.there .here)) I<|aq (bU (.there .here)) I<|fw I I<|cW bn I (fun w' aB=>(hsrc w' (Mem.keeps aB)))<|aq (ao (.of I) (.of I) qO (by omega) (by omega) aW) I<|jH I I ae<|aq (ag (.of I) (At.base Vd I)) I<|jH I I ae<|aq (gn (.there .here)) I<|aq (bU (.there .here)) I<|fw I I<|cW bn I (fun w' aB=>(uP w' (Mem.keeps aB)))<|aq (ao (.of I) (.of I) yz (by omega) (by omega) aW) I<|jH I I ae<|aq (ag (.of I) (At.base Bj I)) I<|aq (cX (.of I)) I<|aq (cX (.of I)) I ?_)
 with_reducible refine cC ?_
 rw [<- pO,<- W7]
 (refine Jn<|Jq<|Jr<|Jv I<|Jv I<|JC I<|Jn<|gL I (fun aA=>?_) fun aA=>?_;refine Jr<|ab (aU .nil ai) I<|ak (.of I) (.of I) .here I I (ix I I) (br I) ai<|Ja I<|Jn<|Ju<|th ?_;rotate_left;refine Jk<|Jr<|ab (bU (.there .here)) I<|Jv I<|Jv I ?_;rotate_right)
 ·refine yX ?_
  with_reducible first|apply aO|apply aP
  case he=>exact kl I inferInstance I (.there .here) ai (by rfl) (by rfl)
  case hR=>
   intro w' aB;exact aC (true,⟨.z,[],0⟩,[]) ⟨fun _=>⟨HD (show kD r so=_ by rw [px rp];exact aA),.inr I⟩,(fun e=>by cases e),I⟩ (by exact .h1 .nil) aB I
 refine JN dU I (fun w1 aT=>MO (s:=.slice a2 r.sr.length pe) (d:=.slice a3 r.de.length tP) (t:=.slice a r.ti.length cp) (p:=p) v so (h.keeps aT.keeps) (by omega) rp) ?_;rintro ⟨wv,W⟩ hW;have hS:=qP.begin hn hV v (de:=de) rp h6 aA hW;clear aA;dsimp only [id_eq,Zb,Za];refine aK (E:=244) (sz:=2) (by exact .here) fun va vc e=>?_;subst e
 (refine Jz I I fun _ _=>ak (.of I) (.of I) .here I I (dE I) (br I) ai<|Ji<|Jz I I fun _ _=>Ji<|Ja I<|Jn<|Jq<|J5<|Jt<|Jq<|J0 ?_)
 rename_i MR abV RZ aix;refine G6 (E:=244) (sz:=2) bE ?_
 refine FK (ι:=Value×List Wy×List Wy) (fun x=>qP (dJ r r.po v so) (ll r de) x.2.1 x.2.2)
  (fun x=>[(14,.bool false),(13,.p RZ),(12,.p MR),(11,.q (ll r de)),(8,.p b8),(4,.p b4),(1,.q v)])
  (fun x=>[bu MR (.cells #[x.1] 329 (0,0)),lD 244 2 x.1 x.2.1.length (nS x.2.1),jk x.2.2,bu RZ (.cells #[.z,.q 0] 244 (0,0)),bu b8 (.cells #[.z,.q 0] 244 (0,0)),
   JP b4 r (.slice a2 r.sr.length pe) (.slice a3 r.de.length tP) (.slice a r.ti.length cp) p]) (fun x=>(dJ r r.po v so).wt (x.2.1.map Wy.p)) ?_ ?_
 ·apply yT (.slice va W.length vc,W,W) hS
  case hs1=>exact bT
  case ht=>
   show bj _ [bu MR (.cells #[.slice va W.length vc] 329 (0,0)),lD 244 2 (.slice va W.length vc) W.length (nS W),jk W,bu RZ (.cells #[.z,.q 0] 244 (0,0)),bu b8 (.cells #[.z,.q 0] 244 (0,0)),
    JP b4 r (.slice a2 r.sr.length pe) (.slice a3 r.de.length tP) (.slice a r.ti.length cp) p] _
   exact .cons bE (.h1 (.cons (.there .here) (.h3 .nil)))
 rintro ⟨wv,Q,ly⟩ hS D;dsimp only at hS ⊢;have hQl:=hS.len;refine yV (by exact Take.there .here) fun qa qc e Vb WC=>?_;subst e;by_cases YW:Q.length=0
 ·have LI:Q=[]:=Z5 YW;subst LI
  (refine Jq<|Jr<|JL I .here I<|JI I<|JE I<|Jn<|Jc I fun aA=>Jp<|Jl<|Jo<|Jt<|Jr<|ab (bU cI) I<|Jv I<|ak (.of I) (.of I) c7 I I (ix I I) (br I) ai<|Ja I<|Jn<|Je<|th ?_)
  with_reducible first|apply aO|apply aP
  case he=>exact kl I inferInstance I .here ai (by rfl) (by rfl)
  case hR=>
   intro w' aB;exact aC (false,⟨.z,[],0⟩,ly) ⟨(fun e=>by cases e),(fun _=>Wn.Lq hS.inv),I⟩ (by exact .cons cI .nil) aB I
 ·refine Jq<|Jr<|JL I .here I<|JI I<|JE I<|Jn<|Jd I fun aA=>Jk<|J0<|Jr<|JL I .here I ?_
  with_reducible apply eH (As:=[lD 244 2 (.slice qa Q.length qc) Q.length (nS Q),jk ly])
  case hr=>exact bn
  case hd=>rfl
  case ht=>exact jv
  case hc=>
   intro w1 Bt aT uN hs1 Ds _;exact Kk uN hs1 I hS.sub (by omega) hS.one
  rintro Q' ⟨jE,Wt⟩;have Xr:Q'.length=Q.length:=jE.length_eq
  replace hS:=hS.perm jE
  dsimp only [id_eq,Zb,Za];have hwt:=Wn.Fw (N:=dJ r r.po v so) (jE.map Wy.p);rw [<- Xr] at YW hQl Vb ⊢;clear jE;cases Q' with
  | nil=>exact absurd rfl YW
  | cons x R =>
   clear YW Xr;obtain ⟨xv,xp,xf⟩:=x;have Yy:=hS.sub ⟨xv,xp,xf⟩ (by simp);have YA:xv.oneCell'=true:=hS.one ⟨xv,xp,xf⟩ Yy;have ur:(dJ r r.po v so).ok xp/\xp≠[]:=hS.inv.ok xp (by simp);have hwx:nS (⟨xv,xp,xf⟩::R)=[xv,.int .i64 (xf:Nat)]++nS R:=rfl;have hlR:((⟨xv,xp,xf⟩:Wy)::R).length=R.length+1:=rfl;rw [hlR] at Vb hQl;rw [hlR,hwx];refine Ji<|JL I bE I ?_;refine Cc (by exact .here) (Nat.succ_pos _) fun g off iv pre cur e nn kT aT hfit hlen=>?_;cases e;have c0:eL (pre++([xv,.int .i64 (xf:Nat)]++nS R)++cur) (off+0*2) 2=[xv,.int .i64 (xf:Nat)]:=by
    rw [jM,Zh,Zbh,Zas,<- nn,List.drop_left];rfl
   (refine ab (ao (.of I) (.of I) I (by omega) (by omega) aW) I<|ab (bQ (.of I) .here c0 I) I<|Jz I I fun _ _=>ak (.of I) (.of I) .here I I (ix YA I) (br I) ai<|Ji<|JL I cI I<|ab (od (.of I) (.of I) (by omega) (by omega)) I<|ak (.of I) (.of I) cI I I (dE I) (br I) ai<|Jn<|Jq ?_)
   rename_i RY Xh;refine Cb (n:=R.length+1) (sz:=2) (cap:=qc) bE nn kT aT hfit hlen ?_;refine Ca (by exact .here) ?_;rw [show ([xv,.q (xf:Nat)]++nS R).drop 2=nS R from I];refine vS Yy cI fun oY Uc=>?_;have Pu:0<xp.length:=List.length_pos_iff.2 ur.2;have Yx:xp.length<=r.ti.length:=Wn.ri ur.1;have hxf:xf<=6:=by
    have h0:xf=(dJ r r.po v so).sK xp:=hS.sK ⟨xv,xp,xf⟩ (by simp);have:=List.countP_le_length (p:=(dJ r r.po v so).fe) (l:=xp);unfold Wn.sK at h0;omega
   refine cm (by exact Take.there .here) Pu fun g2 c8 acs e Ua abh A8 ET=>?_;cases e;obtain ⟨l,hl⟩:∃ l,xp[xp.length-1]=l:=⟨_,rfl⟩;have TY:l<r.ti.length:=Wn.sq ur.1 l (hl ▸ Zj _);have c1:(gR xp++acs)[((xp.length:Int)-1).toNat*1]? = some (.int .i64 (l:Nat)):=by
    rw [show ((xp.length:Int)-1).toNat=xp.length-1 by omega,CZ (by omega),hl]
   have Uf:=ha (fq TY);have iZ:=(hc l _ (ep TY)).2;unfold Ti.cells at iZ;have abQ:=iZ 2 _ I;have pQ:(dJ r r.po v so).fin xp=(r.ti[l]).to:=by
    unfold Wn.fin;rw [List.getLast?_eq_getElem?,Zc (by omega),hl];show (gZ r l).to=_;rw [nZ TY]
   with_reducible refine cz 14 (by kernel_rfl) ?_
   (refine jH I I ae ?_;refine aq (gn tV) I ?_;refine jH I I ae ?_;refine aq (gn c7) I ?_;refine jH I I ae ?_;refine aq (gn c7) I ?_;refine aq (cR (.of I)) I ?_;refine aq (tw (.of I) (.of I) (Re (by omega))) I ?_;refine aq (ao (.of I) (.of I) I (by omega) (by omega) aW) I ?_;refine aq (ag (.of I) (At.kB .here c1)) I ?_;refine aq (ao (.of I) (.of I) Uf (by omega) (by omega) aW) I ?_;refine jH I I ae ?_;refine aq (ag (.of I) (At.base abQ I)) I ?_;refine aq (cX (.of I)) I ?_)
   with_reducible refine cC ?_
   rw [<- pQ];refine ct (by exact .here) Ua abh A8 ET ?_;refine ql (W:=oY) ⟨.w g2 xp.length c8,xp,xf⟩ (n:=xp.length) (x:=gR xp) (by exact Take.there .here) (by exact .here) I I ?_;have Xf:∀ y,y∈oY++[(⟨.w g2 xp.length c8,xp,xf⟩:Wy)]↔y∈ly:=fun y=>by rw [Uc,Zz,ZD];exact Or.comm
   generalize oY++[(⟨.w g2 xp.length c8,xp,xf⟩:Wy)]=UJ at Xf ⊢
   (refine Jn<|Jq<|Jr<|Jv I<|Jv I<|JC I<|Jn<|gL I (fun aA=>?_) fun aA=>?_;refine Jr<|ab (bU cI) I<|ak (.of I) (.of I) c7 I I (ix I I) (br I) ai<|Ja I<|Jn<|Jp<|vR I<|Jl<|Jo<|Jt<|Jr<|ab (bU .here) I<|Jv I<|ak (.of I) (.of I) ek I I (ix I I) (br I) ai<|Ja I<|Jn<|Je<|th ?_;rotate_left;refine Jk<|Jr<|ab (bU nR) I<|Jv I<|Jv I ?_;rotate_right)
   ·with_reducible first|apply aO|apply aP
    case he=>exact kl I inferInstance I .here ai (by rfl) (by rfl)
    case hR=>
     intro w' aB;exact aC (true,⟨.w g2 xp.length c8,xp,xf⟩,UJ) ⟨(fun _=>⟨qP.found hS Wt aA,.inl ((Xf _).2 Yy)⟩),(fun e=>by cases e),I⟩ (by exact .cons bE .nil) aB I
   with_reducible apply jd
   case hr=>exact dU
   case hd=>rfl
   case ht=>exact bj.nil
   case hc=>
    intro w1 fp aT _ hs1;obtain rfl:fp=[]:=hs1;exact tE (s:=.slice a2 r.sr.length pe) (d:=.slice a3 r.de.length tP) (t:=.slice a r.ti.length cp) (p:=p) v ((dJ r r.po v so).fin xp) (h.keeps aT.keeps)
   intro y _;dsimp only [id_eq,Zb,Za];have uz:(fY r v ((dJ r r.po v so).fin xp) r.ti.length).length<=r.ti.length:=by
    have:=ZW (Dt r v ((dJ r r.po v so).fin xp)) (List.range r.ti.length);rw [ZaB] at this;exact this
   refine Jn<|J0 ?_
   refine jO (ps:=[73,74]) (f:=240) (first:=[]) (cap:=[.pointer (some ⟨y.1,0,none⟩),.pointer (some ⟨y.2.1,0,none⟩),.pointer (some ⟨y.2.2,0,none⟩)]) (ι:=Value×List Wy×List Wy) (κ:=Empty)
    (rst:=[bu RZ (.cells #[.z,.q 0] 244 (0,0)),bu b8 (.cells #[.z,.q 0] 244 (0,0)),JP b4 r (.slice a2 r.sr.length pe) (.slice a3 r.de.length tP) (.slice a r.ti.length cp) p]) ?hg
    [JP y.1 r (.slice a2 r.sr.length pe) (.slice a3 r.de.length tP) (.slice a r.ti.length cp) p,bu y.2.1 (.cells #[.q ((dJ r r.po v so).fin xp)] 3 (0,0)),bu y.2.2 (.cells #[.q v] 3 (0,0))] (Np r v ((dJ r r.po v so).fin xp)) ?hit
    (fun k x=>x.2.1.map wk=(((fY r v ((dJ r r.po v so).fin xp) r.ti.length).take k).filter fun i=>!xp.contains i).map (fun i=>(xf+1,xp++[i]))/\(∀ z∈R++x.2.1,z∈x.2.2)/\(∀ z∈x.2.2,z.v.oneCell'=true)/\(⟨.w g2 xp.length c8,xp,xf⟩:Wy)∈x.2.2)
    (fun x=>[bu MR (.cells #[x.1] 329 (0,0)),lD 244 2 x.1 (R.length+x.2.1.length) (nS (R++x.2.1)),jk x.2.2,bu RY (.cells #[.w g2 xp.length c8,.q (xf:Nat)] 244 (0,0))])
    (fun _=>False) (fun _=>[]) (fun _=>.ret) (Go.sliced (some ⟨g,off,none⟩) 1 (R.length+1) qc 2,[],UJ) ⟨I,(fun z hz=>(Xf z).2 (hS.sub z (by rw [ZK] at hz;exact ZM _ hz))),(fun z hz=>hS.one z ((Xf z).1 hz)),(Xf _).2 Yy⟩ ?ht ?hlen ?hps ?round ?kn ?kj
   case hg=>exact Is.of I
   case hit=>intro w' aB;exact La v _ h RO.nil (by omega)
   case ht=>
    show bj _ [bu MR (.cells #[Go.sliced (some ⟨g,off,none⟩) 1 (R.length+1) qc 2] 329 (0,0)),lD 244 2 (Go.sliced (some ⟨g,off,none⟩) 1 (R.length+1) qc 2) R.length (nS (R++[])),jk UJ,bu RY (.cells #[.w g2 xp.length c8,.q (xf:Nat)] 244 (0,0)),
     JP y.1 r (.slice a2 r.sr.length pe) (.slice a3 r.de.length tP) (.slice a r.ti.length cp) p,bu y.2.1 (.cells #[.q ((dJ r r.po v so).fin xp)] 3 (0,0)),bu y.2.2 (.cells #[.q v] 3 (0,0))] _
    rw [ZK];exact .cons ek (.cons c7 (.cons cI (.cons cI (.h3 .nil))))
   case hlen=>intro vs pK;obtain ⟨x,_,rfl⟩:=Zw.1 pK;rfl
   case hps=>intro t ht;simp only [ZQ,Zo,or_false] at ht;rcases ht with rfl | rfl <;> exact ZaA rfl
   case kj=>intro y;cases y
   case kn=>
    rintro ⟨Se,W,DL⟩ D2 ⟨hW,js,iO,EM⟩;dsimp only [Zb,Za] at hW js iO EM ⊢;rw [vr,ZL] at hW;obtain ⟨Vo,fT⟩:=qP.next hS aA js iO hW;refine Jj<|Jj<|Jt ?_;apply Ce (Se,R++W,DL) Vo (by rw [<- hwt];exact fT)
    case hs1=>exact bT
    case ht=>
     show bj _ [bu MR (.cells #[Se] 329 (0,0)),lD 244 2 Se (R++W).length (nS (R++W)),jk DL,bu RZ (.cells #[.z,.q 0] 244 (0,0)),bu b8 (.cells #[.z,.q 0] 244 (0,0)),
      JP b4 r (.slice a2 r.sr.length pe) (.slice a3 r.de.length tP) (.slice a r.ti.length cp) p] _
     rw [Zg];exact .h3 (.cons c7 (.cons c7 (.cons c7 .nil)))
   case round=>
    rintro l2 rc W2 XF k ⟨Se,W,DL⟩ vs hsz hk ⟨hW,js,iO,EM⟩ hB hF;dsimp only at hW js iO EM;obtain ⟨i,hi,rfl,kr,T3⟩:=EG hk;obtain ⟨nu,LS⟩:=Zl.1 hi;have htk:(fY r v ((dJ r r.po v so).fin xp) r.ti.length).take (k+1)=(fY r v ((dJ r r.po v so).fin xp) r.ti.length).take k++[i]:=by rw [Zm nu,LS]
    have Ry:(nS (R++W)).length=(R.length+W.length)*2:=by rw [qj,Zg]
    have hWk:W.length<=6:=by
     have:=congrArg List.length hW;rw [Zd,Zd] at this;rw [this];refine ZP (ZW _ _) ?_;rw [Zs];omega
    dsimp only [Ti.cells,List.zip_cons_cons,List.zip_nil_right,nj,Zb,Za];refine Jg<|Ja I<|Jn ?_
    with_reducible apply nA
    case ht=>exact .here
    (refine J0<|Jr<|bD I I ae<|JL I c7 I<|Jv I ?_)
    refine ah bn I (fun w' aB=>mo (l:=nz xp) (i:Nat) (Fi aB cI EM)) ?_;rw [CX];cases HQ:xp.contains i with
    | true =>
     have BY:((fY r v ((dJ r r.po v so).fin xp) r.ti.length).take (k+1)).filter (fun i=>!xp.contains i)=((fY r v ((dJ r r.po v so).fin xp) r.ti.length).take k).filter (fun i=>!xp.contains i):=by
      rw [htk,ZaL];simp only [List.filter_cons,HQ,List.filter_nil];simp
     (refine JH I<|Jn<|cd (.of I)<|Jw<|Jj ?_)
     apply mL (Se,W,DL)
     case ht=>exact .here
     case hx=>exact ⟨by rw [BY];exact hW,js,iO,EM⟩
     case h2=>exact .h4 .nil
    | false =>
     have BY:((fY r v ((dJ r r.po v so).fin xp) r.ti.length).take (k+1)).filter (fun i=>!xp.contains i)=((fY r v ((dJ r r.po v so).fin xp) r.ti.length).take k).filter (fun i=>!xp.contains i)++[i]:=by
      rw [htk,ZaL];simp only [List.filter_cons,HQ,List.filter_nil];simp
     refine JH I<|Jn<|c5 (.of I) ?_;have vw:(nz xp).length=xp.length:=tB xp;have WR:(nz xp).map (Value.int .i64)=gR xp:=by unfold nz gR;rw [ZaE];rfl
     with_reducible refine KR.Cg 12 (j6 [(3,6)]) (by kernel_rfl) ?_
     refine KR.jK (fun β=>(ag (.of I) (At.lit (.there .here) I))) q6 I I ?_;refine KR.jK (fun β=>(ar (.of I) ae)) q6 I I ?_;refine KR.jK (fun β=>(ag (.of I) (At.lit c7 I))) q6 I I ?_;dsimp only [Nat.zero_add,Nat.reduceAdd]
     with_reducible apply KR.M3 (ι:=Value) (Φ:=fun _=>True) (val:=id) (own:=fun v=>[row 3 1 v xp.length (gR xp)]) (g:=id) (B:=[]) (args:=fun _=>[.w g2 xp.length c8])
     case hg=>exact fun x=>⟨x,I⟩
     case hB=>rfl
     case hr=>exact fun β=>a7 (.of I) (.o I .nil) inferInstance I
     case hd=>rfl
     case hn=>rfl
     case hc=>
      intro β w' hb;have:=Qp (l:=nz xp) (Fi hb.mem cI EM) (by rw [tB];omega);rwa [vw,WR] at this
     dsimp only [id_eq,Nat.reduceAdd];refine KR.jK (fun β=>(aQ (.of I))) q6 I I ?_;refine KR.vJ (fun β=>(aD (.o I .nil) I I I I)) (fun _ _ _=>rfl) I I ?_;dsimp only [Nat.reduceAdd]
     with_reducible apply KR.Fm (jx:=3) (n0:=xp.length) (xs:=gR xp) (news:=[[.q (i:Nat)]]) (Vx:=fun β=>β 3) (Vy:=fun β=>.slice (some ⟨eu (β 5),0,none⟩) 1 1) (Ax:=fun β=>[row 3 1 (β 3) xp.length (gR xp)]) (B:=[5])
     case hB=>kernel_rfl
     case hS=>rfl
     case hrow=>exact fun β w' fp ⟨f1,f2,e,h,h0⟩=>by obtain rfl:f2=[]:=h0;rw [e,ZK];exact h
     case htk=>exact qn I I
     case hti=>rfl
     case h0=>rfl
     case hwx=>kernel_rfl
     case hx=>exact fun β=>.of I
     case hy=>exact fun β=>.of I
     case hsrc=>
      intro β w' hb;have m6:=hb.at 5 (by simp) (s:=⟨fun β=>.slice (some ⟨eu (β 5),0,none⟩) 1 1,fun β=>[bu (eu (β 5)) (.cells #[.q (i:Nat)] 3 (0,0))]⟩) (by kernel_rfl)
      dsimp only [Zb,Za] at m6;exact Mem.dy m6 (by exact .here) I I
     case h1=>
      intro r hr u hu;simp only [ZD] at hr;subst hr;simp only [ZD] at hu;subst hu;rfl
     case hz=>rfl
     case hsz=>rfl
     case hb0=>rfl
     case hb=>simp only [Z7];omega
     case hd=>rfl
     case hne=>simp
     rw [show ([[Value.int .i64 (i:Nat)]]:List (List Value)).flatten=[.q (i:Nat)] from I,show ([[Value.int .i64 (i:Nat)]]:List (List Value)).length=1 from I];dsimp only [Nat.reduceAdd];refine KR.jK (fun β=>(ar (.of I) ae)) q6 I I ?_;refine KR.jK (fun β=>(ag (.of I) (At.lit c7 I))) q6 I I ?_;refine KR.jK (fun β=>(Er (.of I) (.of I) (Re (by omega)))) q6 I I ?_
     with_reducible apply KR.jK (F:=fun β=>.agg #[.slice (uD (β 6)).1 (xp.length+1) (uD (β 6)).2,.q ((xf:Nat)+1)])
     case hr=>(intro β;exact aU (.o I (.o I .nil)) ai)
     case hi=>exact fun β β' h=>by simp only [h 6 (by kernel_rfl)]
     case hd=>rfl
     case hn=>rfl
     dsimp only [Nat.reduceAdd]
     with_reducible apply KR.vJ (V:=fun b=>.w b 1 1) (ob:=fun β=>.cells #[.slice (uD (β 6)).1 (xp.length+1) (uD (β 6)).2,.q ((xf:Nat)+1)] 244 (0,0))
     case hr=>(intro β;exact bz (.o I .nil) I I bI bI ai)
     case hi=>exact fun β β' h=>by simp only [h 6 (by decide) (by kernel_rfl)]
     case hd=>rfl
     case hn=>rfl
     dsimp only [Nat.reduceAdd];refine KR.M1 fun β=>?_
     change Tr _ _ _ [bu (eu (β 5)) (.cells #[.q (i:Nat)] 3 (0,0)),row 3 1 (.slice (uD (β 6)).1 (xp.length+1) (uD (β 6)).2) (xp.length+1) (gR xp++[.q (i:Nat)]),bu (eu (β 11)) (.cells #[.slice (uD (β 6)).1 (xp.length+1) (uD (β 6)).2,.q ((xf:Nat)+1)] 244 (0,0)),
      bu l2 (gP rc .busy none),bu MR (.cells #[Se] 329 (0,0)),lD 244 2 Se (R.length+W.length) (nS (R++W)),jk DL,bu RY (.cells #[.w g2 xp.length c8,.q (xf:Nat)] 244 (0,0))] _
     generalize eu (β 5)=b5;generalize eu (β 11)=R1;generalize (uD (β 6)).1=ea;generalize (uD (β 6)).2=ec;refine ui (rs:=[12]) (by kernel_rfl) (by simp) (Zp.2 ⟨?_,fun _ h=>absurd h Zo⟩);refine wI I ?_
     with_reducible apply Eb
     case hx=>exact Is.of I
     case hy=>exact Is.of I
     case ht=>exact ek
     case hn=>exact fo.bu bE (show eL [.slice ea (xp.length+1) ec,.q ((xf:Nat)+1)] 0 2=[.slice ea (xp.length+1) ec,.q ((xf:Nat)+1)] from I)
     case hl=>rfl
     case h1=>exact bR I (dE I)
     case hz=>exact I
     case hsz=>exact I
     case hb0=>exact I
     case hb=>omega
     case hd=>rfl
     intro v';refine yV (by exact .here) fun a' iv e o8 my=>?_;subst e;refine Jn ?_;refine ui (rs:=[13]) (by kernel_rfl) (by simp) (Zp.2 ⟨?_,fun _ h=>absurd h Zo⟩);refine wI I ?_
     (refine ak (.of I) (.of I) ek I I (dE I) (br I) ai<|Jn ?_)
     with_reducible refine wU (by kernel_rfl) ?_
     refine qW ?_;refine ql (W:=DL) ⟨.slice ea (xp.length+1) ec,xp++[i],xf+1⟩ (n:=xp.length+1) (x:=gR xp++[.q (i:Nat)]) nR cI (by simp) (by unfold gR;rw [Zy];rfl) ?_;have TA:nS (R++(W++[⟨.slice ea (xp.length+1) ec,xp++[i],xf+1⟩]))=nS (R++W)++[.slice ea (xp.length+1) ec,.q ((xf:Nat)+1)]:=by rw [<- Zh];exact zX (R++W) _
     have Wk:R.length+(W++[(⟨.slice ea (xp.length+1) ec,xp++[i],xf+1⟩:Wy)]).length=R.length+W.length+1:=by simp [Nat.add_assoc]
     apply mL (.slice a' (R.length+W.length+1) iv,W++[⟨.slice ea (xp.length+1) ec,xp++[i],xf+1⟩],DL++[⟨.slice ea (xp.length+1) ec,xp++[i],xf+1⟩])
     case ht=>exact ek
     case hx=>
      refine ⟨?_,?_,?_,?_⟩
      ·rw [BY,Zy,Zy,hW];rfl
      ·intro z hz;rw [<- Zh] at hz;rcases Zz.1 hz with hz | hz
       ·exact ZH _ (js z hz)
       ·exact ZT _ hz
      ·intro z hz;rcases Zz.1 hz with hz | hz
       ·exact iO z hz
       ·rw [ZD.1 hz];rfl
      ·exact ZH _ EM
     case h2=>
      show bj _ [bu MR (.cells #[.slice a' (R.length+W.length+1) iv] 329 (0,0)),lD 244 2 (.slice a' (R.length+W.length+1) iv) (R.length+(W++[(⟨.slice ea (xp.length+1) ec,xp++[i],xf+1⟩:Wy)]).length) (nS (R++(W++[⟨.slice ea (xp.length+1) ec,xp++[i],xf+1⟩]))),jk (DL++[⟨.slice ea (xp.length+1) ec,xp++[i],xf+1⟩]),bu RY (.cells #[.w g2 xp.length c8,.q (xf:Nat)] 244 (0,0))] _;rw [Wk,TA];exact .cons (.there .here) (.cons (.there .here) (.h1 (.cons bE .nil)))
def ln (r:Ro) (v:Int) (so de:ByteArray):Option (List Nat):=match (dJ r r.po v so).all (ll r de) ((dJ r r.po v so).n+1) [] with
 | []=>none
 | a::l=>some (km (dJ r r.po v so).lt a l)
theorem yP (h:(dJ r r.po v so).least (ll r de) p):ln r v so de=some p:=by
 unfold ln;split
 ·rename_i e;exact absurd h.2.1 (Wn.all_none e p h.1)
 ·rename_i a l e;rw [Wn.EH (Wn.UH e) h]
theorem yQ (h:∀ q,(dJ r r.po v so).ok q->(dJ r r.po v so).fin q≠ll r de):ln r v so de=none:=by
 unfold ln;split
 ·rfl
 ·rename_i a l e;have:=Wn.UH e;exact absurd this.2.1 (h _ this.1)
theorem NQ (h:(dJ r r.po v so).least (ll r de) p):∀ i∈p,i<r.ti.length:=Wn.sq h.1
def rb (r:Ro) (v:Int) (so de:ByteArray):Int:=aY [fm r,Ge r v,SF r so,mF r de]
theorem QJ {n:Int} (h0:0<=n) (h1:n<9223372036854775808):IntKind.i64.wrap n=n:=by simp [IntKind.wrap,IntKind.bits,IntKind.signed];omega
theorem z6 (h:rb r v so de=0):rS r/\(0<=v/\v<r.lv)/\so∈cN r/\de∈cu r:=by
 unfold rb at h;rw [bX] at h;have h1:=yn (h _ Zr);have h2:=h (Ge r v) (by simp);have h3:=(bO (by decide)).1 (h (SF r so) (by simp));have h4:=(bO (by decide)).1 (h (mF r de) (by simp));have hl:=h1.lim;unfold Ge at h2;rw [QJ (by omega) (by omega),jb] at h2;rw [decide_eq_false_iff_not,cJ,Classical.not_not] at h3 h4;exact ⟨h1,by omega,h3,h4⟩
theorem rF {s d t p:Value} (v:Int) (so de:ByteArray) {w:World} (h:RR w r s d t p) (c6:mX r):an T_ 151 [RA r s d t p,.q v,.string so,.string de] w (.q (rb r v so de)):=by
 obtain ⟨h1,h2,h3,h4⟩:=h.one;have fP:∀ w',aI [] w w'->an T_ 34 [.agg #[.int .i64 r.lv,.int .i64 r.ma,s,d,t,p]] w' (.int .i64 (fm r)):=fun w' hk=>ei (h.keeps hk) c6
 have hle:∀ w',aI [] w w'->an T_ 114 [.agg #[.q r.lv,.q r.ma,s,d,t,p],.q v] w' (.q (Ge r v)):=fun w' hk=>lN v (h.keeps hk)
 have A9:∀ w',aI [] w w'->an T_ 122 [.agg #[.q r.lv,.q r.ma,s,d,t,p],.string so] w' (.q (SF r so)):=fun w' hk=>q9 so (h.keeps hk)
 have kz:∀ w',aI [] w w'->an T_ 112 [.agg #[.q r.lv,.q r.ma,s,d,t,p],.string de] w' (.q (mF r de)):=fun w' hk=>eA de (h.keeps hk)
 unfold RA;refine aj func151 I I ?_;refine Jr<|Jy I I fun _ _=>Ja I<|Jn<|Jq ?_
 with_reducible refine db 12 (by kernel_rfl) ?_
 (refine az (bU .here) I<|aZ bJ I (fun w' aB=>(fP w' (Mem.keeps aB)))<|az (bU .here) I<|az mw I<|aZ bn I (fun w' aB=>(hle w' (Mem.keeps aB)))<|az (bU .here) I<|az mw I<|aZ bn I (fun w' aB=>(A9 w' (Mem.keeps aB)))<|az (bU .here) I<|az mw I<|aZ bn I (fun w' aB=>(kz w' (Mem.keeps aB)))<|eM (aD (.o I (.o I (.o I (.o I .nil)))) I I I I) I I ?_)
 with_reducible refine dI I fun bq mV=>?_
 (refine ah bJ I (fun w' aB=>(dV (Mem.dy aB .here I I) (cr.cons (cr.cons (cr.cons (cr.cons cr.nil))))))<|Ja I<|Jn<|Je<|JT ?_)
 rfl
theorem Tl {lv:Value} {l:List Nat} {g:Nat->ByteArray} {f:FuncId} {first cap:List Value} [bN T_ f] {w:World} (h:Rd w lv 1 (ints (nz l))) (hn:l.length<=1000000)
  (cV:∀ i∈l,∀ w',aI [] w w'->an T_ f (first++[.q (i:Nat)]++cap) w' (.string (g i))) :
  a8 T_ 176 [lv,.func (.func f) first.toArray cap.toArray] w [] (fun _:Value=>True) id (fun v=>[row 9 1 v l.length (aR (l.map g))]):=by
 obtain ⟨a,cp,b,o,rfl,dC,ch,ha,hc⟩:=h;rw [dz,tB] at *;unfold maxLen at ch;refine aS func176 I I ?_;refine Jr<|Ja I<|Ji<|Ja I<|Jn<|Jq<|Jr<|Jv I<|JI I<|Jv I<|Jn<|J0 ?_;refine aJ 9 1 ?_;refine aV (ι:=Nat×Value) (fun x=>x.1<=l.length) (fun x=>[(10,.int .i64 x.1),(9,.int .i64 l.length),(8,.slice a l.length cp),(5,x.2),(1,.func (.func f) first.toArray cap.toArray)]) (fun x=>[row 9 1 x.2 x.1 (aR ((l.take x.1).map g))]) (fun x=>l.length-x.1) ?_ ?_
 ·apply aH (0,.z) (Zi _)
  case hs1=>exact bT
  case ht=>
   exact .h1 .nil
 rintro ⟨k,v⟩ hk;dsimp only at hk ⊢;by_cases aL:k<l.length
 ·have hlz:k<(nz l).length:=by rw [tB];exact aL
  have cY:=ha (kc hlz);have hgz:(nz l)[k]=((l[k]:Nat):Int):=by simp [nz]
  have c0:w.cell? ⟨b,o+k*1,none⟩=some (.q (l[k]:Nat)):=by rw [<- hgz];exact (hc k _ (iV hlz)).2 0 _ I
  have iZ:=cV _ (Zj aL);have LB:aR ((l.take (k+1)).map g)=aR ((l.take k).map g)++[.string (g l[k])]:=by
   rw [Zm aL,Zy,eU];rfl
  have nu:(aR ((l.take k).map g)).length=k*1:=by rw [dx,Zd,ZaO (by omega),Zan]
  generalize g l[k]=gk at iZ LB
  (refine Jr<|JA I<|Jn<|Jq<|Jd I fun aA=>Jk<|Jq<|J0<|Jr<|ab (gE cY aA) I<|ab (ag (.of I) (At.base c0 I)) I<|Ja I<|Jn<|Jg<|Jv I<|Jv I<|Jv I ?_)
  refine ah bJ I (fun w' aB=>(iZ w' (Mem.keeps aB))) ?_;refine bh (aD (.o I .nil) I I I I) I (fun _ _=>?_);refine bA (.of I) (.of I) (.there .here) .here ai (by rfl) (dE I) (by rfl) (by rfl) (by rfl) eC (by rfl) ?_;intro v';refine Ja I<|Jx<|Jj<|Jt<|Jg<|JB I (by omega)<|Jv I<|Jn ?_;apply aG (k+1,v') (by show k+1<=l.length;omega) (by show l.length-(k+1)<l.length-k;omega)
  case hs1=>exact bT
  case ht=>
   show bj _ [row 9 1 v' (k+1) (aR ((l.take (k+1)).map g))] _;rw [LB];exact .h1 .nil
 ·obtain rfl:k=l.length:=by omega
  rw [ZL];refine Jr<|JA I<|Jn<|Jq<|Jc I fun aA=>Jp<|Jl<|Jo<|Jt<|Jr<|Jv I<|Ja I<|Jn<|Je ?_
  with_reducible first|apply aO|apply aP
  case he=>exact dN I I
  case hR=>
   intro w' aB;exact aC v trivial (by exact .h1 .nil) aB I
theorem Sj {s d t p:Value} (i:Nat) (hi:i<r.ti.length) {b1:Nat} {w:World} (h:RR w r s d t p) (hA:BR w b1 (RC r s d t p)) :
  an T_ 177 [.q (i:Nat),.p b1] w (.string (dq r i)):=by
 have uu:dq r i=(r.ti[i]).nm:=by unfold dq;rw [nZ hi]
 have hti:=h.ti;obtain ⟨a,cp,b,o',rfl,dC,ch,ha,hc⟩:=hti;rw [bS] at *;have cY:=ha (fq hi);have aF:=(hc i _ (ep hi)).2;unfold Ti.cells at aF;have c0:=aF 0 _ I;have c4:w.cell? ⟨b1,4,none⟩=some (.slice a r.ti.length cp):=hA 4 _ I;rw [uu];refine aj func177 I I ?_
 (refine Jr<|Ja I<|Ji<|bD I I ae<|ab (ag (.of I) (At.base c4 I)) I<|Jv I<|ab (ao (.of I) (.of I) cY (by omega) (by omega) aW) I<|bD I I ae<|ab (ag (.of I) (At.base c0 I)) I<|Ja I<|Jn<|Je<|JT ?_)
 rfl
def GX (r:Ro) (v:Int) (so de:ByteArray):Int:=if rb r v so de≠0 then rb r v so de else if (ln r v so de).isNone then 18 else 0
def D7 (r:Ro) (v:Int) (so de:ByteArray):List ByteArray:=if rb r v so de≠0 then [] else ((ln r v so de).getD []).map (dq r)
theorem X7 {s d t p:Value} (v:Int) (so de:ByteArray) {w:World} (h:RR w r s d t p) (c6:mX r):a8 T_ 70 [RA r s d t p,.q v,.string so,.string de] w [] (fun _:Value=>True) (fun x=>.tuple #[x,.q (GX r v so de)]) (fun x=>[row 9 1 x (D7 r v so de).length (aR (D7 r v so de))]):=by
 obtain ⟨h1,h2,h3,h4⟩:=h.one;unfold RA;refine aS func70 I I ?_
 (refine Jr<|Jy I I fun _ _=>Ja I<|Ja I<|Jn<|Jq<|Jr<|ab (bU .here) I<|Jv I<|Jv I<|Jv I ?_)
 rename_i b4 sH;refine ah mI I (fun w' aB=>rF (s:=s) (d:=d) (t:=t) (p:=p) v so de (h.keeps aB.keeps) c6) ?_
 (refine Ja I<|Ji<|Jv I<|JD I<|Jn<|gL I (fun aA=>?_) fun aA=>?_;refine Jr<|Jv I<|Ja I<|Ja I<|Jn<|Ju ?_;rotate_left;refine Jk<|Jr<|ab (bU .here) I<|Jv I<|Jv I<|Jv I ?_;rotate_right)
 ·have e1:D7 r v so de=[]:=if_pos aA;have e2:GX r v so de=rb r v so de:=if_pos aA;rw [e1,e2];refine aJ 9 1 ?_
  with_reducible first|apply aO|apply aP
  case he=>exact gD I I I
  case hR=>
   intro w' aB;exact aC (.z) trivial (by exact .h1 .nil) aB I
 have e0:rb r v so de=0:=Zq.1 aA;obtain ⟨dP,hv,rp,gl⟩:=z6 e0;have e1:D7 r v so de=((ln r v so de).getD []).map (dq r):=if_neg aA;have e2:GX r v so de=if (ln r v so de).isNone then 18 else 0:=if_neg aA
 clear aA;rw [e1,e2];refine JN mI I (fun w1 aT=>QK (s:=s) (d:=d) (t:=t) (p:=p) v so de (h.keeps aT.keeps) dP.wJ dP.val dP.Qf rp gl) ?_;rintro ⟨Y0,⟨xv,xp,xf⟩,ly⟩ ⟨YA,Yz,Wj⟩;dsimp only [Wy.cells] at YA Yz Wj ⊢;dsimp only [id_eq,Zb,Za];cases Y0 with
 | false =>
  rw [yQ (Yz I)]
  (refine Jv I<|JJ I I<|JJ I I<|Jz I I fun _ _=>ak (.of I) (.of I) .here I I (ix Wj I) (br I) ai<|Ja I<|Jn<|Jq<|Jr<|Jv I<|JH I<|Jn<|c5 (.of I)<|Jr<|Ja I<|Ja I<|Jn<|Ju ?_)
  refine aJ 9 1 ?_
  with_reducible first|apply aO|apply aP
  case he=>exact gD I I I
  case hR=>
   intro w' aB;exact aC (.z) trivial (by exact .h1 .nil) aB I
 | true =>
  obtain ⟨hl,mT⟩:=YA rfl;rw [yP hl];have hrw:(((some xp).getD []:List Nat).map (dq r)).length=xp.length:=by simp
  rw [hrw];have aL:=NQ hl;have ads:xp.length<=6:=ZP (Wn.ri hl.1) dP.len.2.2
  (refine Jv I<|JJ I I<|JJ I I<|Jz I I fun _ _=>ak (.of I) (.of I) .here I I (ix Wj I) (br I) ai<|Ja I<|Jn<|Jq<|Jr<|Jv I<|JH I<|Jn<|cd (.of I)<|Jk<|Jr<|bD I I ae<|JL I .here I<|ab (bC .nil (.o I .nil)) I ?_)
  with_reducible apply jd
  case hr=>exact bn
  case hd=>rfl
  case ht=>exact bj.nil
  case hc=>
   intro w1 fp aT _ hs1;obtain rfl:fp=[]:=hs1;have hA:BR w1 b4 [.int .i64 r.lv,.int .i64 r.ma,s,d,t,p]:=BR.of aT bE;have hR:=h.keeps aT.keeps;have hrd:Rd w1 xv 1 (ints (nz xp)):=by
    rcases mT with mT | mT
    ·exact Fi aT (by exact Take.there .here) mT
    ·cases mT;exact Rd.nil w1 1
   exact Tl (f:=177) (g:=dq r) (first:=[]) (cap:=[.p b4]) hrd (by omega) (fun i hi w2 fg=>Sj i (aL i hi) (hR.keeps fg) (hA.keeps fg))
  intro x _;dsimp only [id_eq,Zb,Za];refine Ja I<|Ja I<|Jn<|Je ?_
  with_reducible first|apply aO|apply aP
  case he=>exact gD I I I
  case hR=>
   intro w' aB;exact aC x trivial (by exact .h1 .nil) aB I

def im (r:Ro) (v:Int) (so:ByteArray):Nat->List Int
  | 0=>[oV r so]
  | k+1=>if xX r v so k&&!(im r v so k).contains (gZ r k).to then im r v so k++[(gZ r k).to] else im r v so k
theorem CC (r:Ro) (v:Int) (so:ByteArray):∀ k,(im r v so k).length<=k+1
  | 0=>Zv _
  | k + 1 => by
    have:=CC r v so k;unfold im;split
    · rw [Zg];simp;omega
    · omega
theorem vZ (r:Ro) (v:Int) (so:ByteArray):∀ k,(im r v so k).Nodup
  | 0=>by simp [im]
  | k + 1 => by
    have:=vZ r v so k;unfold im;split
    · rename_i h
      rw [Zn] at h;rw [ZI];refine ⟨this,by simp,fun a ha b hb e=>?_⟩;rw [ZD] at hb;subst hb;subst e;have:=h.2;rw [ZaI.2 ha] at this;cases this
    · exact this
theorem zf (r:Ro) (v:Int) (so:ByteArray) {m:Int}:∀ {a b:Nat},a<=b->m∈im r v so a->m∈im r v so b:=by
  intro a b h
  induction h with
  | refl=>exact id
  | step _ ih =>
    intro hm;have:=ih hm;rw [im];split
    · exact ZH _ this
    · exact this
theorem Ky (r:Ro) (v:Int) (so:ByteArray) (k:Nat):oV r so∈im r v so k:=zf r v so (Zi k) (by simp [im])
theorem OC {k t:Nat} (ht:t<k) (h:xX r v so t=true):(gZ r t).to∈im r v so k:=by
  refine zf r v so (show t+1<=k from ht) ?_;rw [im];split
  · exact ZT _ (by simp)
  · rename_i hc
    rw [h,Zaz,Zbc,Bool.not_eq_false] at hc;exact ZaI.1 hc
theorem AD {r:Ro} (dP:rS r) {v:Int} {so:ByteArray} (hs:so∈cN r):∀ k,k<=r.ti.length->∀ m∈im r v so k,(dJ r r.po v so).Rc m
  | 0, _, m, hm => by
    rw [im,ZD] at hm;subst hm;rw [<- px hs];exact Wn.Rc.Fk
  | k + 1, hk, m, hm => by
    rw [im] at hm;split at hm
    · rename_i h
      rcases Zz.1 hm with hm | hm
      · exact AD dP hs k (by omega) m hm
      · rw [ZD] at hm
        subst hm;rw [Zn,rH dP.wJ dP.val] at h;exact Wn.Rc.ca (N:=dJ r r.po v so) (show k<r.ti.length from hk) h.1
    · exact AD dP hs k (by omega) m hm
theorem wB (dP:rS r) {v:Int} {so:ByteArray} (hs:so∈cN r) {m:Int} (h:(dJ r r.po v so).Rc m):0<=m/\m<r.ma:=by
  have U7:∀ i,i<r.ti.length->0<=(gZ r i).to/\(gZ r i).to<r.ma:=fun i hi=>by
    rw [nZ hi];exact (dP.tm _ (Zj hi)).2.1
  cases h with
  | Fk =>
    show 0<=kD r so/\kD r so<r.ma;rw [px hs];unfold oV;obtain ⟨hl,_⟩:=fk (l:=cN r) (s:=so) (dK hs);have EU:(bB (cN r) so).toNat<r.sr.length:=by
                                                           have e:(cN r).length=r.sr.length:=by unfold cN;rw [Zd]
                                                           omega
    rw [Zk,Zc EU];exact dP.sm _ (Zj EU)
  | ca hi _=>exact U7 _ hi
  | fe hi _ _=>exact U7 _ hi
structure xQ (r:Ro) (v:Int) (so:ByteArray) (L:List Int) (i:Nat):Prop where
  nd:L.Nodup
  rc:∀ m∈L,(dJ r r.po v so).Rc m
  rt:∀ m∈im r v so r.ti.length,m∈L
  dn:∀ j x,j<i->L[j]? = some x->∀ t,t<r.ti.length->Dt r v x t=true->(gZ r t).to∈L
theorem Gi {L:List Int} {n:Nat} (iB:L.Nodup) (h:∀ m∈L,0<=m/\m<(n:Nat)):L.length<=n:=by
  have:=lS n (L.map Int.toNat) (by
    show List.Pairwise (fun a b=>a≠b) (L.map Int.toNat)
    rw [ZbB];refine List.Pairwise.imp_of_mem (fun {a b} ha hb hne e=>hne ?_) iB;have:=h a ha;have:=h b hb;omega) (fun x hx=>by
    obtain ⟨m,hm,rfl⟩:=Zw.1 hx;have:=h m hm;omega)
  rwa [Zd] at this
theorem xQ.B2 (dP:rS r) {v:Int} {so:ByteArray} (hs:so∈cN r) {L:List Int} {i:Nat} (h:xQ r v so L i):L.length<=4:=by
  have hl:=dP.lim;refine Gi h.nd fun m hm=>?_;have:=wB dP hs (h.rc m hm);omega
theorem xQ.begin (dP:rS r) {v:Int} {so:ByteArray} (hs:so∈cN r):xQ r v so (im r v so r.ti.length) 0:=
  ⟨vZ r v so _,AD dP hs _ (Zv _),fun _ h=>h,fun j x h=>absurd h (ZV _)⟩
theorem xQ.done (dP:rS r) {v:Int} {so:ByteArray} (hs:so∈cN r) {L:List Int} (h:xQ r v so L L.length) (m:Int):m∈L↔(dJ r r.po v so).Rc m:=by
  refine Wn.OH (S:=fun m=>m∈L) ⟨?_,fun i hi hc=>?_⟩ (fun m hm=>h.rc m hm) m
  · show kD r so∈L
    rw [px hs];exact h.rt _ (Ky r v so _)
  · rcases hc with hc | ⟨hf,Bg⟩
    · rw [<- rH dP.wJ dP.val] at hc
      exact h.rt _ (OC hi hc)
    · obtain ⟨j,hj,e⟩:=ZA Bg
      refine h.dn j _ hj (Zc hj) i hi ?_;rw [rA v so,e,hf];simp
def Nk (r:Ro) (v:Int) (so:ByteArray) (m:Int):Bool:=!((dJ r r.po v so).all m ((dJ r r.po v so).n+1) []).isEmpty
theorem KF (r:Ro) (v:Int) (so:ByteArray) (m:Int):Nk r v so m=true↔(dJ r r.po v so).Rc m:=by
  unfold Nk;rw [Zbc,List.isEmpty_eq_false_iff];constructor
  · intro h
    obtain ⟨q,hq⟩:=List.exists_mem_of_ne_nil _ h;obtain ⟨h1,h2⟩:=Wn.vq (Wn.oz _) hq;rw [<- h2];exact Wn.VT h1
  · intro h e
    obtain ⟨p,hp,hf⟩:=Wn.V6 h;exact Wn.all_none e p hp hf
def xw (r:Ro) (v:Int) (so:ByteArray):List Int:=((List.range r.ma.toNat).map fun i:Nat=>(i:Int)).filter (Nk r v so)
theorem Dz (r:Ro) (v:Int) (so:ByteArray):(xw r v so).Pairwise (fun a b=>a<b):=by
  unfold xw;refine List.Pairwise.filter _ ?_;rw [ZbB];exact List.pairwise_lt_range.imp fun h=>by omega
theorem Mv (dP:rS r) {v:Int} {so:ByteArray} (hs:so∈cN r) {m:Int}:m∈xw r v so↔(dJ r r.po v so).Rc m:=by
  unfold xw;rw [Zu,KF];constructor
  · exact fun h=>h.2
  · intro h
    have:=wB dP hs h;exact ⟨Zw.2 ⟨m.toNat,ZU.2 (by omega),by omega⟩,h⟩
theorem Mt (dP:rS r) {v:Int} {so:ByteArray} (hs:so∈cN r) {L S:List Int} (iB:L.Nodup) (hL:∀ m,m∈L↔(dJ r r.po v so).Rc m) (hp:S.Perm L) (Px:S.Pairwise (fun a b=>a<=b)):S=xw r v so:=by
  have hSn:S.Nodup:=hp.nodup_iff.2 iB;have hSs:S.Pairwise (fun a b=>a<b):=(Px.and hSn).imp fun ⟨h1,h2⟩=>by omega
  refine pj (R:=fun a b:Int=>a<b) (fun a b h h'=>by omega) hSs (Dz r v so) ?_;refine (ZaQ hSn ((Dz r v so).imp fun h=>by omega)).2 fun m=>?_;rw [hp.mem_iff,hL,Mv dP hs]
end Go.Proofs.A1
namespace Go.Proofs
open Go.Shelf
def Tryz.C5:Go.Shelf.Ren:=⟨fun | 189=>156 | 125=>245 | 257=>244 | 128=>312 | 129=>313 | 294=>303 | 295=>304 | 296=>305 | 297=>306 | 298=>307 | 299=>308 | 216=>309 | 300=>310 | 301=>311 | 328=>343 | 329=>344 | 330=>345 | 331=>346 | 332=>347 | 215=>342 | 343=>367 | n=>n,fun | 28=>49 | 3=>3 | 46=>318 | 0=>0 | 51=>381 | 53=>383 | 4=>4 | 183=>374 | 182=>373 | 131=>272 | 5=>5 | 9=>9 | 218=>409 | 222=>413 | 228=>428 | 229=>359 | n=>n,fun | n=>n⟩
theorem Tryz.Gf:Go.Proofs.Lays.n189 Tryz.prog Tryz.C5:={
 mixed:=by kernel_rfl
 f125:=Tryz.func245.trans (congrArg some (by kernel_rfl))
 f128:=Tryz.func312.trans (congrArg some (by kernel_rfl))
 f129:=Tryz.func313.trans (congrArg some (by kernel_rfl))
 f189:=Tryz.func156.trans (congrArg some (by kernel_rfl))
 f215:=Tryz.func342.trans (congrArg some (by kernel_rfl))
 f216:=Tryz.func309.trans (congrArg some (by kernel_rfl))
 f257:=Tryz.func244.trans (congrArg some (by kernel_rfl))
 f294:=Tryz.func303.trans (congrArg some (by kernel_rfl))
 f295:=Tryz.func304.trans (congrArg some (by kernel_rfl))
 f296:=Tryz.func305.trans (congrArg some (by kernel_rfl))
 f297:=Tryz.func306.trans (congrArg some (by kernel_rfl))
 f298:=Tryz.func307.trans (congrArg some (by kernel_rfl))
 f299:=Tryz.func308.trans (congrArg some (by kernel_rfl))
 f300:=Tryz.func310.trans (congrArg some (by kernel_rfl))
 f301:=Tryz.func311.trans (congrArg some (by kernel_rfl))
 f328:=Tryz.func343.trans (congrArg some (by kernel_rfl))
 f329:=Tryz.func344.trans (congrArg some (by kernel_rfl))
 f330:=Tryz.func345.trans (congrArg some (by kernel_rfl))
 f331:=Tryz.func346.trans (congrArg some (by kernel_rfl))
 f332:=Tryz.func347.trans (congrArg some (by kernel_rfl))
 f343:=Tryz.func367.trans (congrArg some (by kernel_rfl))
 t0:=Tryz.underlying0
 a0:=Tryz.isAgg0
 z0:=Tryz.sizeOf0
 v0:=Tryz.zeroValue0
 t3:=Tryz.underlying3
 a3:=Tryz.isAgg3
 z3:=Tryz.sizeOf3
 v3:=Tryz.zeroValue3
 t4:=Tryz.underlying4
 a4:=Tryz.isAgg4
 z4:=Tryz.sizeOf4
 v4:=Tryz.zeroValue4
 t5:=Tryz.underlying5
 a5:=Tryz.isAgg5
 z5:=Tryz.sizeOf5
 v5:=Tryz.zeroValue5
 t9:=Tryz.underlying9
 a9:=Tryz.isAgg9
 z9:=Tryz.sizeOf9
 v9:=Tryz.zeroValue9
 t28:=Tryz.underlying49
 a28:=Tryz.isAgg49
 z28:=Tryz.sizeOf49
 v28:=Tryz.zeroValue49
 t46:=Tryz.underlying318
 a46:=Tryz.isAgg318
 z46:=Tryz.sizeOf318
 v46:=Tryz.zeroValue318
 t51:=Tryz.underlying381
 a51:=Tryz.isAgg381
 z51:=Tryz.sizeOf381
 v51:=Tryz.zeroValue381
 t53:=Tryz.underlying383
 a53:=Tryz.isAgg383
 z53:=Tryz.sizeOf383
 v53:=Tryz.zeroValue383
 t131:=Tryz.underlying272
 a131:=Tryz.isAgg272
 z131:=Tryz.sizeOf272
 v131:=Tryz.zeroValue272
 t182:=Tryz.underlying373
 a182:=Tryz.isAgg373
 z182:=Tryz.sizeOf373
 v182:=Tryz.zeroValue373
 t183:=Tryz.underlying374
 a183:=Tryz.isAgg374
 z183:=Tryz.sizeOf374
 v183:=Tryz.zeroValue374
 t218:=Tryz.underlying409
 a218:=Tryz.isAgg409
 z218:=Tryz.sizeOf409
 v218:=Tryz.zeroValue409
 t222:=Tryz.underlying413
 a222:=Tryz.isAgg413
 z222:=Tryz.sizeOf413
 v222:=Tryz.zeroValue413
 t228:=Tryz.underlying428
 a228:=Tryz.isAgg428
 z228:=Tryz.sizeOf428
 v228:=Tryz.zeroValue428
 t229:=Tryz.underlying359
 a229:=Tryz.isAgg359
 z229:=Tryz.sizeOf359
 v229:=Tryz.zeroValue359 }
open Go.Sort Go.RowKit in
theorem Tryz.slices_Sort_int (bu off cap:Nat) (zs:List Int) (w:World) (hH:Holds (Value.int .i64) w bu off zs.toArray) (hblk:bu<w.heap.size) (hsz:zs.length<4611686018427387904) :
  Calls Tryz.prog 156 #[.slice (some ⟨bu,off,none⟩) zs.length cap] w fun e w'=>
   e=.returned (.tuple #[])/\∃ n os,w'=grow (putRow (Value.int .i64) (Sort.ahead w n) bu off (zs.mergeSort fun x y=>decide (x<=y)).toArray) os:=Any.slices_Sort_int Tryz.Gf bu off cap zs w hH hblk hsz
end Go.Proofs
namespace Go.Proofs.A1
open Go Go.SL
open Tryz
open Tryz renaming prog->T_
theorem Pf (l:List Int):∀ r∈ints l,r.length=1:=fun r hr=>by obtain ⟨x,_,rfl⟩:=Zw.1 hr;rfl
theorem lJ {c:Cx} {hs hs':List bd} {w:World} {l:List Int} {E:TypeId} {v:Value} {n:Nat} (hm:Mem c hs w) (ht:Take hs (row E 1 v n (l.map (Value.int .i64))) hs') (hn:l.length=n):Rd w v 1 (ints l):=hm.qY ht (zv l) (Pf l) (by rw [dz,hn])
set_option maxHeartbeats 1000000 in
theorem FZ {r:Ro} {s d t p:Value} (v:Int) (so:ByteArray) {w:World} (h:RR w r s d t p) (c6:r.ti.length<=1000) (TL:so∈cN r) :
  a8 T_ 152 [RA r s d t p,.q v,.string so] w [] (fun _:Value=>True) id (fun x=>[row 3 1 x (im r v so r.ti.length).length ((im r v so r.ti.length).map (Value.int .i64))]):=by
 obtain ⟨h1,h2,h3,h4⟩:=h.one;have hti:=h.ti;obtain ⟨a,cp,b,o',rfl,dC,ch,ha,hc⟩:=hti;have TI:=h.sr;obtain ⟨a2,pe,b2,o2,rfl,jS,eV,jU,kg⟩:=TI;rw [bS] at *;rw [cG] at *;unfold maxLen at ch eV;obtain ⟨i0,vA⟩:∃ i:Nat,bB (cN r) so=(i:Nat):=⟨(bB (cN r) so).toNat,by have:=dK TL;omega⟩;have EV:i0<r.sr.length:=by
  obtain ⟨hl,_⟩:=fk (l:=cN r) (s:=so) (by omega);rw [vA,ZE] at hl;unfold cN at hl;rwa [Zd] at hl
 have pO:oV r so=(r.sr[i0]).mx:=by unfold oV;rw [vA,ZE,Zk,Zc EV];rfl
 have hsrc:∀ w',aI [] w w'->an T_ 180 [.agg #[.q r.lv,.q r.ma,.slice a2 r.sr.length pe,d,.slice a r.ti.length cp,p],.string so] w' (.q (i0:Nat)):=fun w' hk=>vA ▸ pt so (h.keeps hk)
 have qO:=jU (iD EV);have fB:=(kg i0 _ (fW EV)).2;unfold Sr.cells at fB;have Vd:=fB 1 _ I;unfold RA;refine aS func152 I I ?_;refine Jr<|Jy I I fun _ _=>Ja I<|Jn<|Jq ?_;rename_i b3 rz
 with_reducible refine db 9 (by kernel_rfl) ?_
 (refine az lP I<|az (gn .here) I<|az (bU .here) I<|az mw I<|aZ bn I (fun w' aB=>(hsrc w' (Mem.keeps aB)))<|az (ao (.of I) (.of I) qO (by omega) (by omega) aW) I<|az lP I<|az (ag (.of I) (At.base Vd I)) I<|eM (aD (.o I .nil) I I I I) I I ?_)
 with_reducible refine dI I fun bq mV=>?_
 rw [<- pO]
 (refine Ja I<|Jn<|Jq<|Jr<|bD I I ae<|JL I (.there .here) I<|JI I<|Jv I<|Jn<|J0 ?_)
 refine bP (g:=bq) (E:=3) (ys:=[.q (oV r so)]) 1 1 (by exact .here) I I I ?_
 refine aV (ι:=Nat×Value) (fun x=>x.1<=r.ti.length) (fun x=>[(22,.q (x.1:Nat)),(21,.q (r.ti.length:Nat)),(20,.slice a r.ti.length cp),(7,x.2),(3,.p b3),(1,.q v),(2,.string so)])
  (fun x=>[row 3 1 x.2 (im r v so x.1).length ((im r v so x.1).map (Value.int .i64)),JP b3 r (.slice a2 r.sr.length pe) d (.slice a r.ti.length cp) p]) (fun x=>r.ti.length-x.1) ?_ ?_
 ·apply aH (0,.w bq 1 1) (Zi _)
  case hs1=>exact bT
  case ht=>
   exact .h2 .nil
 rintro ⟨k,ov⟩ hk;dsimp only at hk ⊢;have Ww:=CC r v so k;by_cases aL:k<r.ti.length
 ·have cY:=ha (fq aL);have aF:=(hc k _ (ep aL)).2;unfold Ti.cells at aF;have A7:=nZ aL;have uu:dq r k=(r.ti[k]).nm:=by unfold dq;rw [A7]
  have hrs:im r v so (k+1)=if xX r v so k&&!(im r v so k).contains (r.ti[k]).to then im r v so k++[(r.ti[k]).to] else im r v so k:=by rw [im,A7]
  generalize hL:im r v so k=L at Ww hrs ⊢;have Dr:L.length=L.length:=rfl;have Dn:∀ w',aI [] w w'->an T_ 121 [.agg #[.q r.lv,.q r.ma,.slice a2 r.sr.length pe,d,.slice a r.ti.length cp,p],.q v,.string (r.ti[k]).nm] w' (.bool (gI r.po v (r.ti[k]).nm)):=fun w' hk=>rI v _ (h.keeps hk)
  have te:∀ w',aI [] w w'->an T_ 126 [.agg #[.q r.lv,.q r.ma,.slice a2 r.sr.length pe,d,.slice a r.ti.length cp,p],.q v,.string (r.ti[k]).nm] w' (.string (jY r v (r.ti[k]).nm)):=fun w' hk=>qJ v _ (h.keeps hk) (by omega)
  have LY:∀ (w':World),Rd w' ov 1 (ints L)->an T_ 154 [ov,.q (r.ti[k]).to] w' (.bool (L.contains (r.ti[k]).to)):=fun w' hr=>mo _ hr
  have skip:(xX r v so k&&!L.contains (r.ti[k]).to)=false->im r v so (k+1)=L:=fun e=>by rw [hrs,e];rfl
  cases B1:gI r.po v (r.ti[k]).nm with
  | false =>
   have Dp:∀ w',aI [] w w'->an T_ 121 [.agg #[.q r.lv,.q r.ma,.slice a2 r.sr.length pe,d,.slice a r.ti.length cp,p],.q v,.string (r.ti[k]).nm] w' (.bool false):=fun w' hk=>B1 ▸ Dn w' hk
   have Wu:=skip (by unfold xX;rw [uu,B1];rfl)
   (refine Jr<|JA I<|Jn<|Jq<|Jd I fun aA=>Jk<|Jq<|J0<|Jr<|ab (gE cY aA) I<|ab (ja (fo.base aF I)) I<|Jz I I fun _ _=>ak (.of I) (.of I) .here I I (fc I I I) (br I) ai<|Ji<|ab (bU bE) I<|Jv I<|bD I I ae<|JL I .here I<|ah dU I (fun w' aB=>(Dp w' (Mem.keeps aB)))<|Jv I<|aM I I (fun hg bH=>(bQ (.of I) bE ai (by rfl))) I<|jZ I I I I<|aM I I (fun hg bH=>(ar (.of I) ae)) I<|aM I I (fun hg bH=>(ag (.bW bH I) (At.lit .here I))) I<|eG I I I I<|jZ I I I I<|eG I I I I<|ab (di (.of I) (.of I) (.of I) I) I<|Jv I<|jZ I I I I<|aM I I (fun hg bH=>(ar (.of I) ae)) I<|aM I I (fun hg bH=>(ag (.bW bH I) (At.lit .here I))) I<|eG I I I I<|aM I I (fun hg bH=>(fu (.bW bH I))) I<|ab (di (.of I) (.of I) (.of I) I) I<|Jn<|cd (.of I)<|Jw<|Jj<|Jt<|Jg<|JB I (by omega)<|Jv I<|Jn ?_)
   apply aG (k+1,ov) (show k+1<=r.ti.length by omega) (show r.ti.length-(k+1)<r.ti.length-k by omega)
   case hs1=>exact bT
   case ht=>
    rw [Wu];exact .cons (.there .here) (.cons (.there .here) .nil)
  | true =>
   have Dp:∀ w',aI [] w w'->an T_ 121 [.agg #[.q r.lv,.q r.ma,.slice a2 r.sr.length pe,d,.slice a r.ti.length cp,p],.q v,.string (r.ti[k]).nm] w' (.bool true):=fun w' hk=>B1 ▸ Dn w' hk
   by_cases A9:jY r v (r.ti[k]).nm=so
   ·cases HQ:L.contains (r.ti[k]).to with
    | true =>
     have PQ:∀ (w':World),Rd w' ov 1 (ints L)->an T_ 154 [ov,.q (r.ti[k]).to] w' (.bool true):=fun w' hr=>HQ ▸ LY w' hr
     have Wu:=skip (by rw [HQ,Bool.not_true,Bool.and_false])
     (refine Jr<|JA I<|Jn<|Jq<|Jd I fun aA=>Jk<|Jq<|J0<|Jr<|ab (gE cY aA) I<|ab (ja (fo.base aF I)) I<|Jz I I fun _ _=>ak (.of I) (.of I) .here I I (fc I I I) (br I) ai<|Ji<|ab (bU bE) I<|Jv I<|bD I I ae<|JL I .here I<|ah dU I (fun w' aB=>(Dp w' (Mem.keeps aB)))<|Jv I<|JK I I<|ab (bU bE) I<|JK I I<|Jv I<|JK I I<|bD I I ae<|JK I I<|JL I .here I<|JK I I<|ah dU I (fun w' aB=>(te w' (Mem.keeps aB)))<|JK I I<|Jv I<|JK I I<|ab (wh (.of I) (.of I) A9) I<|ab (fy (.of I) (.of I) (.of I) I) I<|Jv I<|JK I I<|Jv I<|JK I I<|bD I I ae<|JK I I<|JL I .here I<|JK I I<|ah bn I (fun w' aB=>(PQ w' (lJ aB (.there .here) Dr)))<|JK I I<|JH I<|ab (di (.of I) (.of I) (.of I) I) I<|Jn<|cd (.of I)<|Jw<|Jj<|Jt<|Jg<|JB I (by omega)<|Jv I<|Jn ?_)
     apply aG (k+1,ov) (show k+1<=r.ti.length by omega) (show r.ti.length-(k+1)<r.ti.length-k by omega)
     case hs1=>exact bT
     case ht=>
      rw [Wu];exact .cons (.there .here) (.cons (.there .here) .nil)
    | false =>
     have PQ:∀ (w':World),Rd w' ov 1 (ints L)->an T_ 154 [ov,.q (r.ti[k]).to] w' (.bool false):=fun w' hr=>HQ ▸ LY w' hr
     have rN:im r v so (k+1)=L++[(r.ti[k]).to]:=by rw [hrs,HQ];unfold xX;rw [uu,B1,decide_eq_true A9];rfl
     have TY:(L.map (Value.int .i64)).length=L.length*1:=by rw [Zd,Zan]
     (refine Jr<|JA I<|Jn<|Jq<|Jd I fun aA=>Jk<|Jq<|J0<|Jr<|ab (gE cY aA) I<|ab (ja (fo.base aF I)) I<|Jz I I fun _ _=>ak (.of I) (.of I) .here I I (fc I I I) (br I) ai<|Ji<|ab (bU bE) I<|Jv I<|bD I I ae<|JL I .here I<|ah dU I (fun w' aB=>(Dp w' (Mem.keeps aB)))<|Jv I<|JK I I<|ab (bU bE) I<|JK I I<|Jv I<|JK I I<|bD I I ae<|JK I I<|JL I .here I<|JK I I<|ah dU I (fun w' aB=>(te w' (Mem.keeps aB)))<|JK I I<|Jv I<|JK I I<|ab (wh (.of I) (.of I) A9) I<|ab (fy (.of I) (.of I) (.of I) I) I<|Jv I<|JK I I<|Jv I<|JK I I<|bD I I ae<|JK I I<|JL I .here I<|JK I I<|ah bn I (fun w' aB=>(PQ w' (lJ aB (.there .here) Dr)))<|JK I I<|JH I<|ab (fy (.of I) (.of I) (.of I) I) I<|Jn<|c5 (.of I)<|Jg<|Jv I<|bD I I ae<|JL I .here I<|bh (aD (.o I .nil) I I I I) I fun _ _=>?_)
     refine bA (.of I) (.of I) bE .here ai (by rfl) (dE I) (by rfl) (by rfl) (by rfl) eC (by rfl) ?_;intro v';refine Ja I<|Jx<|Jj<|Jt<|Jg<|JB I (by omega)<|Jv I<|Jn ?_;apply aG (k+1,v') (show k+1<=r.ti.length by omega) (show r.ti.length-(k+1)<r.ti.length-k by omega)
     case hs1=>exact bT
     case ht=>
      rw [rN,Zg,Zy];exact .h1 (.cons bE .nil)
   ·have Wu:=skip (by unfold xX;rw [uu,B1,decide_eq_false A9];rfl)
    (refine Jr<|JA I<|Jn<|Jq<|Jd I fun aA=>Jk<|Jq<|J0<|Jr<|ab (gE cY aA) I<|ab (ja (fo.base aF I)) I<|Jz I I fun _ _=>ak (.of I) (.of I) .here I I (fc I I I) (br I) ai<|Ji<|ab (bU bE) I<|Jv I<|bD I I ae<|JL I .here I<|ah dU I (fun w' aB=>(Dp w' (Mem.keeps aB)))<|Jv I<|JK I I<|ab (bU bE) I<|JK I I<|Jv I<|JK I I<|bD I I ae<|JK I I<|JL I .here I<|JK I I<|ah dU I (fun w' aB=>(te w' (Mem.keeps aB)))<|JK I I<|Jv I<|JK I I<|ab (CL (.of I) (.of I) A9) I<|ab (di (.of I) (.of I) (.of I) I) I<|Jv I<|jZ I I I I<|aM I I (fun hg bH=>(ar (.of I) ae)) I<|aM I I (fun hg bH=>(ag (.bW bH I) (At.lit .here I))) I<|eG I I I I<|aM I I (fun hg bH=>(fu (.bW bH I))) I<|ab (di (.of I) (.of I) (.of I) I) I<|Jn<|cd (.of I)<|Jw<|Jj<|Jt<|Jg<|JB I (by omega)<|Jv I<|Jn ?_)
    apply aG (k+1,ov) (show k+1<=r.ti.length by omega) (show r.ti.length-(k+1)<r.ti.length-k by omega)
    case hs1=>exact bT
    case ht=>
     rw [Wu];exact .cons (.there .here) (.cons (.there .here) .nil)
 ·obtain rfl:k=r.ti.length:=by omega
  refine Jr<|JA I<|Jn<|Jq<|Jc I fun aA=>Jp<|Jl<|Jo<|Jt<|Jr<|Jv I<|Ja I<|Jn<|Je ?_
  with_reducible first|apply aO|apply aP
  case he=>exact dN I I
  case hR=>
   intro w' aB;exact aC ov trivial (by exact .h1 .nil) aB I
end Go.Proofs.A1
