/- Parts of the proof: GkRegK GkRegL GkRegR GkRegS KJ KL KM KNq TryzSort KN. -/
import Derived.Test.YteonnodafmegaaaGreatDoorOM06
import Derived.Test.YteonnodafmegaaaGreatDoorOM07
import Derived.Test.YteonnodafmegaaaGreatDoorOM04
import Derived.Test.YteonnodafmegaaaGreatDoorOM03
import Derived.Test.YteonnodafmegaaaGreatDoorOM02
import Derived.Shelf.Sort.Plain
import Derived.Ground.NamesProg
import Derived.Ground.Names2Prog
import Derived.Test.YteonnodafmegaaaGreatDoorProg
import Derived.Shelf.Slices.In.SortNone
set_option linter.unusedSectionVars false
set_option linter.unusedVariables false
set_option linter.unusedSimpArgs false
namespace Go.SL
open Go
theorem Mem.Hy {c:Cx} {As hs':List bd} {w:World} (hm:Mem c (As++hs') w):∃ fp:List Nat,fp.Nodup/\cr (hp w) As fp /\
  ∀ (Bs:List bd) (w':World),aJ fp w w'->(∃ mw:List Nat,mw.Nodup/\cr (hp w') Bs mw/\∀ b∈mw,b∈fp\/w.heap.size<=b)->Mem c (Bs++hs') w':=by
 obtain ⟨kk,fp,hn,iZ,hb⟩:=hm;obtain ⟨f1,f2,rfl,h1,h2⟩:=cr.append_iff.1 iZ;obtain ⟨n1,n2,n12⟩:=ZG.1 hn;refine ⟨f1,n1,h1,fun Bs w' hk ⟨mw,uD,hs',zL⟩=>?_⟩;have aK:∀ b∈f2,b<w.heap.size:=fun b dK=>let ⟨o,ho⟩:=h2.own b dK;kV ho
 refine ⟨?_,mw++f2,?_,cr.append_iff.2 ⟨mw,f2,I,hs',h2.loc fun b dK=>?_⟩,?_⟩
 ·refine ⟨hk.os.trans kk.os,hk.tape.trans kk.tape,hk.output.trans kk.output,ZQ kk.dr hk.dr,ZQ kk.size hk.size,fun b dK hm=>?_⟩;rw [<- kk.block b dK hm];refine hk.block b (ZaK dK kk.size) (fun hf=>?_);rcases hb b (ZF _ hf) with h | h
  ·omega
  ·exact hm h
 ·refine ZG.2 ⟨uD,n2,fun x hx y hy e=>?_⟩;subst e;rcases zL x hx with h | h
  ·exact n12 x h x hy I
  ·have:=aK x hy;omega
 ·exact hk.block b (aK b dK) (fun hf=>n12 b hf b dK I)
 ·intro b dK;rcases Zz.1 dK with h | h
  ·rcases zL b h with h | h
   ·exact hb b (ZF _ h)
   ·exact .inl (ZQ kk.size h)
  ·exact hb b (ZU _ h)
theorem wm {β:Nat->Value} (p q:Nat->Bool):∀ (S:List c5) (i:Nat),(fh β p S i).Perm (fh β (fun j=>p j&&q j) S i++fh β (fun j=>p j&&!q j) S i)
 | [],_=>.nil
 | s :: S, i => by
  have ih:=wm (β:=β) p q S (i+1);unfold fh;cases hp:p i <;> cases hq:q i <;> simp only [Bool.and_true,Bool.and_false,Bool.not_true,Bool.not_false,Bool.false_and,Zao,if_true,if_false,Za,reduceIte]
  ·simpa using ih
  ·simpa using ih
  ·simp only [ZaT,if_false,Za];refine (ih.append_left _).trans ?_;rw [<- Zh,<- Zh];exact List.perm_append_comm.append_right _
  ·simp only [ZaT,if_false,Za];rw [Zh];exact ih.append_left _
theorem r6 {β:Nat->Value} {q:Nat->Bool}:∀ {S:List c5} {n i:Nat},(∀ j,i+n<=j->q j=false)->fh β q S i=fh β q (S.take n) i
 | [],n,i,_=>by rw [List.take_nil]
 | s :: S, 0, i, h => by
  rw [Ze];unfold fh;rw [h i (by omega),r6 (n:=0) fun j hj=>h j (by omega),Ze];rfl
 | s :: S, n + 1, i, h => by
  rw [List.take_succ_cons];unfold fh;rw [r6 (n:=n) (i:=i+1) fun j hj=>h j (by omega)]
def pk (tk:Nat->Nat) (lst:Nat->Bool) (j:Nat):Bool:=lst j&&!(Nat.blt 0 (tk j)&&lst (tk j))
def iS (tk:Nat->Nat) (i j:Nat):Bool:=Nat.blt 0 i&&Nat.beq (tk j) i
section
variable {P:Program} {c:Cx} {D:List Nat} {sl:aL} {hs:List bd} {Q:Exit->Act->World->Prop} {l:List Oper} {m:Nat} {tk:Nat->Nat}
def NW (i:Nat) (s:c5) (β:Nat->Value) (w:World) (rO:List Nat) (v:Value) (w':World):Prop:=∃ x,v=s.F (An β i x)/\aJ rO w w'/\∃ fp:List Nat,fp.Nodup/\cr (hp w') (s.A (An β i x)) fp/\∀ b∈fp,b∈rO\/w.heap.size<=b
structure NT (P:Program) (c:Cx) (hs:List bd) (l:List Oper) (tk:Nat->Nat) (i:Nat) (o:Oper) (SL:(Nat->Value)->aL) (S:List c5) (s:c5):Prop where
 EX:oF l i s.F
 EY:oF l i s.A
 run:∃ B:List Nat,(∀ j∈B,lT l o j=true/\tk j=0)/\∀ β a w rO,cg (SL β) a->km c hs S B β w->cr (hp w) (fh β (iS tk i) S 0) rO->if Region.wanted o (yielded l.toArray a.tmps)=true then qM P o a w (NW i s β w rO) else NW i s β w rO undef w
 waits:∀ j,tk j=i->0<i->fL o j=true
inductive xP (P:Program) (c:Cx) (hs:List bd) (l:List Oper) (tk:Nat->Nat):Nat->List Oper->((Nat->Value)->aL)->List c5->List c5->((Nat->Value)->aL)->Prop
 | nil {i:Nat} {SL:(Nat->Value)->aL} {S:List c5}:xP P c hs l tk i [] SL S S SL
 | step {i d:Nat} {o:Oper} {rest:List Oper} {SL qK:(Nat->Value)->aL} {S S':List c5} {s:c5} (hd:o.dst=some d) (gq:d<c.nt) (h:NT P c hs l tk i o SL S s)
   (t:xP P c hs l tk (i+1) rest (fun β=>(d,s.F β)::SL β) (S++[s]) S' qK):xP P c hs l tk i (o::rest) SL S S' qK
theorem xP.spec {i:Nat} {rest:List Oper} {SL qK:(Nat->Value)->aL} {S S':List c5} (h:xP P c hs l tk i rest SL S S' qK):∀ pre:List Oper,pre.length=i->S.length=i->pX sl pre SL S ->
  S'.length=i+rest.length/\S <+: S'/\pX sl (pre++rest) qK S'/\∀ k o,i<=k->(pre++rest)[k]? = some o->∃ d NV s,o.dst=some d/\d<c.nt/\S'[k]? = some s/\pX sl ((pre++rest).take k) NV (S'.take k)/\NT P c hs l tk k o NV (S'.take k) s:=by
 induction h with
 | @nil i SL S =>
  intro pre hp hS mY;refine ⟨by simpa using hS,List.prefix_rfl,by simpa using mY,fun k o hk ho=>?_⟩;have:=(Zn.1 ho).1;simp at this;omega
 | @step i d o rest SL qK S S' s hd gq ba t ih =>
  intro pre hp hS mY;obtain ⟨h1,h2,h3,h4⟩:=ih (pre++[o]) (by simp [hp]) (by simp [hS]) (mY.step (by omega) hd);rw [Zh,List.singleton_append] at h3 h4;have Mj:S <+: S':=(ZaU S [s]).trans h2;have uK:S'[i]? = some s:=by
   obtain ⟨r,rfl⟩:=h2;rw [Zh,ZC (by omega),hS];simp
  have hSt:S'.take i=S:=by
   obtain ⟨r,rfl⟩:=Mj;rw [<- hS];simp
  refine ⟨by rw [h1];simp;omega,Mj,h3,fun k ok hk ho=>?_⟩;by_cases e:k=i
  ·subst e;have GL:ok=o:=by
    rw [ZC (by omega),hp] at ho;simpa using ho.symm
   subst GL;have htk:(pre++ok::rest).take k=pre:=by rw [<- hp];simp
   rw [htk,hSt];exact ⟨d,SL,s,hd,gq,uK,mY,ba⟩
  ·exact h4 k ok (by omega) ho
structure aad (c:Cx) (D:List Nat) (hs:List bd) (l:List Oper) (tk:Nat->Nat) (m:Nat) (S:List c5) (a0:Act) (fuel:Nat) (listed:Array Bool) (a:Act) (w:World):Prop where
 sz:listed.size=l.length
 dc:DC l (Ls listed)
 hi:∀ k,m<=k->¬ Ls listed k
 defers:a.defers=D.map mark
 size:a.tmps.size=c.nt
 Gs:∀ t,(∀ (j:Nat) (o:Oper),l[j]? = some o->Ls listed j->o.dst≠some t)->a.tmps[t]? = a0.tmps[t]?
 left:∃ U:List Nat,U.Nodup/\(∀ i,i∈U↔i<l.length/\¬ Ls listed i)/\U.length=fuel
 own:∃ β:Nat->Value,Mem c (fh β (pk tk (fun i=>listed.getD i false)) S 0++(hs++nB D)) w/\∀ (j:Nat) (o:Oper) (d:Nat) (s:c5),l[j]? = some o->o.dst=some d->S[j]? = some s->Ls listed j->a.tmps[d]? = some (s.F β)
end
end Go.SL
namespace Go.SL
open Go
def j6:List (Nat×Nat)->Nat->Nat
 | [],_=>0
 | p::r,j=>bif Nat.beq p.1 j then p.2 else j6 r j
theorem vg:∀ {qG:List (Nat×Nat)} {i j:Nat},(qG.all fun p=>!Nat.beq p.2 i)=true->j6 qG j=i->0<i->False
 | [], i, j, _, h, hp => by
  have h:0=i:=h;omega
 | p :: r, i, j, h, h2, hp => by
  rw [List.all_cons,Zm] at h;unfold j6 at h2;cases e:Nat.beq p.1 j with
  | true=>rw [e] at h2;have h2:p.2=i:=h2;rw [h2] at h;simp at h
  | false=>rw [e] at h2;exact vg h.2 h2 hp
theorem qh:∀ {qG:List (Nat×Nat)} {i jx:Nat},(qG.all fun p=>!Nat.beq p.2 i||Nat.beq p.1 jx)=true->Nat.blt 0 i=true->∀ k,j6 qG k=i->k=jx
 | [], i, jx, _, h0, k, h => by
  have h:0=i:=h;subst h;cases h0
 | p :: r, i, jx, h, h0, k, hk => by
  rw [List.all_cons,Zm] at h;unfold j6 at hk;cases e:Nat.beq p.1 k with
  | true =>
   rw [e] at hk;have hk:p.2=i:=hk;have h1:=h.1;rw [hk,show Nat.beq i i=true by simp] at h1;have e1:=Zae e;have e2:=Zae (show Nat.beq p.1 jx=true by simpa using h1);omega
  | false=>rw [e] at hk;exact qh h.2 h0 k hk
section
variable {P:Program} {c:Cx} {D:List Nat} {sl:aL} {hs hs':List bd} {X:Act->World->Prop} {Q:Exit->Act->World->Prop} {l:List Oper} {m i n d:Nat} {qG:List (Nat×Nat)} {op:Op} {ty:TypeId} {pos:String} {af:Array Edge} {rest:List Oper} {SL:(Nat->Value)->aL} {S:List c5}
theorem wq {β:Nat->Value} {p:Nat->Bool} {s:c5}:∀ {S:List c5} {i jx:Nat},S[jx]? = some s->(∀ k,p k=Nat.beq k (i+jx))->fh β p S i=s.A β
 | [],_,_,h,_=>by simp at h
 | s0 :: S, i, 0, h, hp => by
  simp only [ZaC,Option.some.injEq] at h;subst h;unfold fh;rw [hp i,show Nat.beq i (i+0)=true by simp,if_pos I];have:fh β p S (i+1)=[]:=by
   have h:=r6 (β:=β) (q:=p) (S:=S) (n:=0) (i:=i+1) fun j hj=>by
    rw [hp j];exact ZaG.2 fun e=>by have:=Zae e;omega
   rw [h,Ze];rfl
  rw [this,ZJ]
 | s0 :: S, i, jx + 1, h, hp => by
  unfold fh;rw [hp i,show Nat.beq i (i+(jx+1))=false from ZaG.2 fun e=>by have:=Zae e;omega]
  simp only [ZaT,if_false,Za];exact wq (i:=i+1) (jx:=jx) (by simpa using h) fun k=>by rw [hp k,show i+(jx+1)=i+1+jx by omega]
end
end Go.SL
namespace Go.SL.KR
open Go Go.SL
section
variable {P:Program} {c:Cx} {D:List Nat} {sl:aL} {hs:List bd} {Q:Exit->Act->World->Prop} {l:List Oper} {m:Nat} {tk:Nat->Nat}
variable {r0:Option Nat}
theorem TR {p:Nat} (hc:Rw l m p) (Mj:p<m->False) (hQp:∀ c a w,¬ Q (.panic c) a w) {S:List c5} {qK:(Nat->Value)->aL} (hpM:xP P c hs l tk 0 (l.take m) (fun _=>sl) [] S qK) {a0:Act} (h0:cg sl a0) (Qt:a0.tmps.size=c.nt)
  (tail:∀ β a w,St c D (qK β) (fh β (pk tk (fun i=>Nat.blt i m)) S 0++hs) a w->wpAnyIn (FR r0) 0 P .any l.toArray Q (l.length-m) (qN l.length m) a w) :
  ∀ (fuel:Nat) (listed:Array Bool) (a:Act) (w:World),aad c D hs l tk m S a0 fuel listed a w->wpAnyIn (FR r0) 0 P .any l.toArray Q fuel listed a w:=by
 have hle:=hc.le;have Qr:pX sl [] (fun _=>sl) []:=fun β t v hv=>.inr ⟨fun oj h=>(Zo h).elim,hv⟩
 obtain ⟨MO,_,mY,iY⟩:=hpM.spec (sl:=sl) [] rfl rfl Qr;rw [Za] at mY iY;rw [ZD,Zs,Zbv hle] at MO;have fH:∀ (j:Nat) (o:Oper),j<m->l[j]? = some o->(l.take m)[j]? = some o:=fun j o hj ho=>by rw [ZP,if_pos hj];exact ho
 have il:∀ (j:Nat) (o:Oper),(l.take m)[j]? = some o->j<m/\l[j]? = some o:=fun j o ho=>by
  rw [ZP] at ho;split at ho
  ·exact ⟨by assumption,ho⟩
  ·cases ho
 have Ym:∀ j,j<m->∃ s,S[j]? = some s:=fun j hj=>⟨S[j]'(by omega),Zc (by omega)⟩
 have pG:∀ fuel listed a w,aad c D hs l tk m S a0 fuel listed a w->(∀ i,i<m->Ls listed i)->wpAnyIn (FR r0) 0 P .any l.toArray Q fuel listed a w:=by
  intro fuel listed a w hI eO;have hL:∀ i,i<l.length->(Ls listed i↔i<m):=fun i _=>⟨fun h=>Z2 fun hm=>hI.hi i hm h,eO i⟩
  obtain ⟨U,D7,vC,yD⟩:=hI.left;have jD:U.Perm (List.range' m (l.length-m)):=by
   rw [ZaO D7 (List.nodup_range')];intro i;rw [vC i,Zba];constructor
   ·rintro ⟨h1,h2⟩;exact ⟨Zbg fun h=>h2 (eO i h),by omega⟩
   ·rintro ⟨h1,h2⟩;exact ⟨by omega,hI.hi i h1⟩
  have hlen:fuel=l.length-m:=by rw [<- yD,jD.length_eq,List.length_range']
  have UI:listed=qN l.length m:=by
   have yu:(qN l.length m).size=l.length:=by simp [qN];omega
   apply Array.ext
   ·rw [hI.sz,yu]
   ·intro i h1 h2;rw [hI.sz] at h1;have h3:=hL i h1;unfold Ls at h3;rw [ZI,ZaR (by rw [hI.sz];exact h1),Zaj] at h3;have h4:(qN l.length m)[i]=decide (i<m):=by
     simp only [qN,List.getElem_toArray];by_cases hi:i<m
     ·rw [ZaJ (by simpa using hi)];simp [hi]
     ·rw [Zav (by simpa using hi)];simp [hi]
    rw [h4];by_cases hi:i<m
    ·rw [h3.2 hi];simp [hi]
    ·have:¬ listed[i]=true:=fun h=>hi (h3.1 h)
     simp [hi,this]
  subst hlen;rw [UI];obtain ⟨β,hm,jZ⟩:=hI.own;have UJ:∀ i,listed.getD i false=Nat.blt i m:=fun i=>by
   by_cases hi:i<m
   ·rw [show Nat.blt i m=true from by simpa [Zac] using hi];exact eO i hi
   ·have h1:¬ listed.getD i false=true:=hI.hi i (by omega);have h2:¬ Nat.blt i m=true:=by simpa [Zac] using hi
    rw [Zap] at h1 h2;rw [h1,h2]
  have e:fh β (pk tk (fun i=>listed.getD i false)) S 0=fh β (pk tk (fun i=>Nat.blt i m)) S 0:=kA fun j s hj=>⟨by unfold pk;simp only [UJ],fun _=>rfl⟩
  rw [e] at hm;refine tail β a w ⟨by rw [Zh];exact hm,fun t v hv=>?_,hI.size,hI.defers⟩;rcases mY β t v hv with ⟨j,oj,s,h1,h2,h3,h4⟩ | ⟨h1,h2⟩
  ·obtain ⟨kK,pF⟩:=il j oj h1;rw [h4];exact jZ j oj t s pF h2 h3 (eO j kK)
  ·rw [hI.Gs t fun j oj hj nb=>h1 oj (Z5 (fH j oj (Z2 fun hm=>hI.hi j hm nb) hj))]
   exact h0 t v h2
 intro fuel
 induction fuel with
 | zero =>
  intro listed a w hI;obtain ⟨U,_,vC,yD⟩:=hI.left;have hU:U=[]:=Zas.1 yD;refine pG 0 listed a w hI fun i hi=>Classical.byContradiction fun hn=>?_;have:=(vC i).2 ⟨by omega,hn⟩;rw [hU] at this;cases this
 | succ fuel ih =>
  intro listed a w hI;by_cases eO:∀ i,i<m->Ls listed i
  ·exact pG _ listed a w hI eO
  ·have hex:∃ i,i<m/\¬ Ls listed i:=Classical.byContradiction fun hh=>eO fun i hi=>Classical.byContradiction fun hn=>hh ⟨i,hi,hn⟩
   obtain ⟨i0,vB,uW⟩:=hex;have main:∀ i,i∈Region.ready .any l.toArray listed->i<m->wpOpIn (FR r0) 0 P l.toArray Q i (wpAnyIn (FR r0) 0 P .any l.toArray Q fuel (listed.setIfInBounds i true)) a w/\(i=p->wpAnyIn (FR r0) 0 P .any l.toArray Q (fuel+1) listed a w):=by
    intro i hi tQ;obtain ⟨o,ho,hn,pH⟩:=(eI hI.sz).1 hi;obtain ⟨d,NV,s,hd,gq,uK,Dc,dU⟩:=iY i o (Zi _) (fH i o tQ ho);obtain ⟨EX,EY,⟨B,hB,iH⟩,Ui⟩:=dU;obtain ⟨β,hm,jZ⟩:=hI.own;have oz:∀ (j:Nat),fL o j=true->Ls listed j:=fun j hw=>by
     obtain ⟨e,he,hb,rK⟩:=eh hw;rw [<- rK];exact pH e he hb
    have E5:∀ (j:Nat),lT l o j=true->Ls listed j:=fun j hw=>by
     unfold lT at hw;rw [ZT] at hw;rcases hw with hw | hw
     ·exact oz j hw
     ·obtain ⟨k,_,hk⟩:=ZR.1 hw;rw [Zm] at hk;have I3:=oz k hk.1;cases hq:l[k]? with
      | none=>rw [hq] at hk;cases hk.2
      | some q =>
       rw [hq] at hk;obtain ⟨e,he,hb,rK⟩:=eh hk.2;rw [<- rK];exact hI.dc k q hq I3 e he hb
    have uI:∀ (j:Nat) (oj:Oper) (e:Nat),l[j]? = some oj->j<m->j≠i->oj.dst=some e->d≠e:=by
     intro j oj e hj kK hne he;rcases Zbt j i with h | h
     ·exact fun e'=>(eN (sn hc h tQ hj ho) he hd).1 e'.symm
     ·exact (eN (sn hc (show i<j by omega) kK ho hj) hd he).1
    have jO:i<listed.size:=by rw [hI.sz];omega
    have H3:ph o=true:=hc.op o (Z5 ho)
    -- DZ du WH DZ operation looks at
    have hT:∀ t∈o.looksAt l.toArray,∀ v,db (NV β) t=some v->a.tmps[t]? = some v:=by
     intro t ht v hv;rcases Dc β t v hv with ⟨j,oj,sj,h1,h2,h3,h4⟩ | ⟨h1,h2⟩
     ·have tq:j<i:=by have:=(Zn.1 h1).1;rw [Zs] at this;omega
      rw [ZP,if_pos tq] at h1 h3;obtain ⟨kK,pF⟩:=il j oj h1;have nb:=oz j ((eN (sn hc tq tQ pF ho) h2 hd).2 (.inl ht));rw [h4];exact jZ j oj t sj pF h2 h3 nb
     ·rw [hI.Gs t fun j oj hj nb jF=>?_]
      ·exact h0 t v h2
      ·have kK:j<m:=Z2 fun hm=>hI.hi j hm nb
       rcases Zaq j i with h | h | h
       ·exact h1 oj (Z5 (by rw [ZP,if_pos h];exact fH j oj kK hj)) jF
       ·subst h;exact hn nb
       ·have hw:=(eN (sn hc h kK ho hj) hd jF).2 (.inr ht);obtain ⟨e,he,hb,rK⟩:=eh hw;have:=hI.dc j oj hj nb e he hb;rw [rK] at this;exact hn this
    have Bk:∀ t v,db (NV β) t=some v->t<c.nt:=by
     intro t v hv;rcases Dc β t v hv with ⟨j,oj,sj,h1,h2,_,_⟩ | ⟨_,h2⟩
     ·have tq:j<i:=by have:=(Zn.1 h1).1;rw [Zs] at this;omega
      rw [ZP,if_pos tq] at h1;obtain ⟨d',_,_,Bp,Bn,_⟩:=iY j oj (Zi _) h1;rw [h2] at Bp;cases Bp;exact Bn
     ·have:=h0 t v h2;rw [<- Qt];exact (Z6.1 this).1
    obtain ⟨a',mm,jV,_⟩:=sV hI.size Bk hT;have Bq:km c hs (S.take i) B β w:=by
     rintro A (rfl | ⟨j,hj,sj,h1,rfl⟩)
     ·exact hm.sublist ((Zbp _ _).trans (Zbl _ _))
     ·have tq:j<i:=by have:=(Zn.1 h1).1;rw [Zs] at this;omega
      rw [ZP,if_pos tq] at h1;have nb:=E5 j (hB j hj).1;exact hm.sublist ((wj (lst:=pk tk (fun i=>listed.getD i false)) (i:=0) h1 (by rw [Nat.zero_add];unfold pk;dsimp only;rw [(hB j hj).2,show listed.getD j false=true from nb];rfl)).append (List.sublist_append_left _ _))
    have XQ:listed.getD i false=false:=by have h:¬ listed.getD i false=true:=hn;simpa using h
    have htw:∀ j,iS tk i j=true->fL o j=true:=fun j h=>by
     unfold iS at h;rw [Zm] at h;exact Ui j (by simpa using h.2) (by simpa [Zac] using h.1)
    have htj:∀ j,iS tk i j=true->j<i:=fun j h=>by
     obtain ⟨e,he,hb,rK⟩:=eh (htw j h);have:=lR hc.ac ho e he hb;omega
    have hpk:∀ j,iS tk i j=true->pk tk (fun i=>listed.getD i false) j=true:=fun j h=>by
     have h1:listed.getD j false=true:=oz j (htw j h);have h2:tk j=i:=by unfold iS at h;rw [Zm] at h;simpa using h.2
     unfold pk;dsimp only;rw [h1,h2,XQ];simp
    have etk:fh β (fun j=>pk tk (fun i=>listed.getD i false) j&&iS tk i j) S 0=fh β (iS tk i) (S.take i) 0:=by
     rw [r6 (n:=i) fun j hj=>by
      rw [ZD] at hj;cases ht:iS tk i j with
      | false=>rw [Bool.and_false]
      | true=>have:=htj j ht;omega]
     refine kA fun j sj _=>⟨?_,fun _=>rfl⟩;rw [ZD];cases ht:iS tk i j with
     | false=>rw [Bool.and_false]
     | true=>rw [hpk j ht];rfl
    have hmS:=hm.perm ((wm (β:=β) (pk tk (fun i=>listed.getD i false)) (iS tk i) S 0).append_right _)
    rw [Zh,etk] at hmS;obtain ⟨rO,_,Xv,X1⟩:=Mem.Hy hmS;have hq:=iH β a' w rO mm Bq Xv;have hex:=kg (o:=o) (ops:=l.toArray) H3 jV
    -- Wt a done operation abd adF not ac9 on this one
    have uH:∀ j,Ls listed j->∀ x k,BM l j k=true->β k=An β i x k:=by
     intro j nb x k hk;refine (Am fun e=>?_).symm;subst e;unfold BM at hk;rw [ZT] at hk;rcases hk with hk | hk
     ·have:j=k:=by simpa using hk
      subst this;exact hn nb
     ·have IX:j<l.length:=by
       have kK:j<m:=Z2 fun hm=>hI.hi j hm nb
       omega
      exact hn (jT hI.dc hc.ac j IX nb k hk)
    have kc:∀ v w',NW i s β w rO v w'->wpAnyIn (FR r0) 0 P .any l.toArray Q fuel (listed.setIfInBounds i true) (a.put o.dst v) w':=by
     rintro v w' ⟨x,rfl,hk,fp,jw,iZ,Bl⟩;refine ih _ _ _ ⟨by simpa using hI.sz,?_,?_,by rw [hd];exact hI.defers,by simpa [Act.put,hd] using hI.size,?_,?_,An β i x,?_,?_⟩
     ·intro k ok xY hL e he hb;rw [dx jO] at hL ⊢;rcases hL with e' | hL
      ·subst e';rw [ho] at xY;cases xY;exact .inr (pH e he hb)
      ·exact .inr (hI.dc k ok xY hL e he hb)
     ·intro k xY hL;rw [dx jO] at hL;rcases hL with e | hL
      ·omega
      ·exact hI.hi k xY hL
     ·intro t ht;have h1:d≠t:=fun e=>by subst e;exact ht i o ho ((dx jO).2 (.inl rfl)) hd
      rw [hd];simp only [Act.put,ZO h1];exact hI.Gs t fun j oj hj hL=>ht j oj hj ((dx jO).2 (.inr hL))
     ·obtain ⟨U,D7,vC,yD⟩:=hI.left;refine ⟨U.erase i,D7.erase i,fun k=>?_,?_⟩
      ·rw [D7.mem_erase_iff,vC k,dx jO];constructor
       ·rintro ⟨h1,h2,h3⟩;exact ⟨h2,fun h=>h.elim h1 h3⟩
       ·rintro ⟨h1,h2⟩;exact ⟨fun e=>h2 (.inl e),h1,fun h=>h2 (.inr h)⟩
      ·have XX:i∈U:=(vC i).2 ⟨by omega,hn⟩;rw [ZaW XX,yD];rfl
     ·have ni:=X1 _ w' hk ⟨fp,jw,iZ,Bl⟩;have e1:fh β (fun j=>pk tk (fun i=>listed.getD i false) j&&!iS tk i j) S 0=fh (An β i x) (fun j=>pk tk (fun i=>listed.getD i false) j&&!iS tk i j) S 0:=kA fun j sj hj=>by
       refine ⟨I,fun hl=>?_⟩;rw [ZD] at hl;have hl:listed.getD j false=true:=by
        unfold pk at hl;simp only [Zm] at hl;exact hl.1.1
       have kK:j<m:=by have:=(Zn.1 hj).1;omega
       obtain ⟨oj,Qs⟩:∃ oj,l[j]? = some oj:=⟨l[j]'(by omega),Zc (by omega)⟩;obtain ⟨_,_,s2,_,_,hs2,_,Bi⟩:=iY j oj (Zi _) (fH j oj kK Qs);rw [hj] at hs2;cases hs2;exact Bi.EY _ _ (uH j hl x)
      rw [e1,<- Zh] at ni;have qH:∀ k,(listed.setIfInBounds i true).getD k false=(listed.getD k false||Nat.beq k i):=fun k=>by
       by_cases UO:k=i
       ·subst UO;rw [show Nat.beq k k=true by simp,Bool.or_true];exact (dx jO).2 (.inl I)
       ·rw [show Nat.beq k i=false from ZaG.2 fun h=>UO (Zae h),Bool.or_false]
        simp [ZI,ZO (Ne.symm UO)]
      refine ni.perm ((wu (k:=i) uK ?_ ?_ ?_).append_right _)
      ·rw [ZD];unfold pk;dsimp only;rw [XQ];rfl
      ·rw [ZD];unfold pk;dsimp only;rw [qH,show Nat.beq i i=true by simp,Bool.or_true,Zao];by_cases Ur:tk i=0
       ·rw [Ur];rfl
       ·have htp:0<tk i:=Nat.pos_of_ne_zero Ur;have nL:listed.getD (tk i) false=false:=by
         cases hh:listed.getD (tk i) false with
         | false=>rfl
         | true =>
          exfalso;have hLt:Ls listed (tk i):=hh;have htm:tk i<m:=Z2 fun hm=>hI.hi _ hm hLt
          obtain ⟨ot,hot⟩:∃ ot,l[tk i]? = some ot:=⟨l[tk i]'(by omega),Zc (by omega)⟩;obtain ⟨_,_,_,_,_,_,_,acd⟩:=iY (tk i) ot (Zi _) (fH _ ot htm hot);obtain ⟨e,he,hb,rK⟩:=eh (acd.waits i rfl htp);have:=hI.dc (tk i) ot hot hLt e he hb;rw [rK] at this;exact hn this
        have hne:Nat.beq (tk i) i=false:=by
         cases hh:Nat.beq (tk i) i with
         | false=>rfl
         | true =>
          exfalso;have e:tk i=i:=by simpa using hh
          have:=htj i (by unfold iS;rw [hh,Bool.and_true];rw [e] at htp;simpa [Zac] using htp);omega
        rw [qH,nL,hne];simp
      ·intro j hj;rw [ZD] at hj;unfold pk;dsimp only;rw [qH,qH,show Nat.beq j i=false from ZaG.2 fun h=>hj (Zae h),Bool.or_false]
       unfold iS;cases h1:Nat.beq (tk j) i with
       | false=>simp
       | true =>
        have e:tk j=i:=by simpa using h1
        rw [e,XQ];cases Nat.blt 0 i <;> simp
     ·intro j oj e sj hj he lq hL;rw [dx jO] at hL;by_cases tq:j=i
      ·subst tq;rw [ho] at hj;cases hj;rw [hd] at he;cases he;rw [uK] at lq;cases lq;rw [hd];simp [Act.put,hI.size,gq]
      ·have GP:=hL.resolve_left tq;have kK:j<m:=Z2 fun hm=>hI.hi j hm GP
       obtain ⟨_,_,s2,_,_,hs2,_,Bi⟩:=iY j oj (Zi _) (fH j oj kK hj);rw [lq] at hs2;cases hs2;rw [hd];simp only [Act.put,ZO (uI j oj e hj kK tq he)];rw [<- Bi.EX _ _ (uH j GP x)];exact jZ j oj e sj hj he lq GP
    have hq0:=hq;refine ⟨?_,fun V4=>?_⟩
    rotate_left
    ·subst V4;exact (Mj tQ).elim
    unfold wpOpIn;rw [show l.toArray[i]? = some o from by simpa using ho];simp only [];rw [j5 jV] at hq;split
    ·rename_i hw;rw [if_pos hw] at hq;refine ⟨eA _ _ _ _ _,?_⟩;rw [Oper.semAt_eq _ _ _ (fun cc he=>by simp [ph,he] at H3),<- hex]
     unfold qM at hq
     revert hq
     generalize (execOp a'.eval o).run P w=res;intro hq
     match res,hq with
     | .ok (.value v) w',hq=>exact kc v w' hq
     | .ok (.enter f args) w', ⟨e, cV⟩ =>
      subst e;refine ⟨by simp [FR,Fence.wide],(jQ cV).mono fun e Ah h=>?_⟩;obtain ⟨v,rfl,hq⟩:=h;exact kc v Ah hq
    ·rename_i hw;rw [if_neg hw] at hq;exact ⟨fun _ _=>trivial,kc undef w hq⟩
   by_cases hp:p<m/\p∈Region.ready .any l.toArray listed
   ·exact (main p hp.2 hp.1).2 I
   ·refine ⟨fun hr=>?_,fun i hi=>?_⟩
    ·obtain ⟨i,hi⟩:=kS hI.sz hc.ac ⟨i0,by omega,uW⟩;rw [hr] at hi;cases hi
    ·have tQ:i<m:=Z2 fun hm=>by
      have V1:=CS hc hI.sz hI.dc hi hm;by_cases IW:p<m
      ·by_cases hLp:Ls listed p
       ·exact uW (by
         by_cases e:i0=p
         ·rw [e];exact hLp
         ·exact V1 i0 vB e)
       ·refine hp ⟨IW,(eI hI.sz).2 ⟨l[p]'(by omega),Zc (by omega),hLp,fun e he hb=>?_⟩⟩;have aK:=lR hc.ac (Zc (show p<l.length by omega)) e he hb;exact V1 e.on (by omega) (by omega)
      ·exact uW (V1 i0 vB (by omega))
     exact (main i hi tQ).1
def tl (tk:Nat->Nat) (P:Program) (r0:Option Nat) (c:Cx) (D:List Nat) (hs:List bd) (l:List Oper) (Q:Exit->Act->World->Prop) (m i n:Nat) (rest:List Oper) (SL:(Nat->Value)->aL) (S:List c5):Prop:=
 ∃ S' qK,xP P c hs l tk i (rest.take n) SL S S' qK/\∀ β,Tr c D (qK β) (fh β (pk tk (fun i=>Nat.blt i m)) S' 0++hs) (Aa P r0 l.toArray Q (l.length-m) (qN l.length m))
theorem Ci {id:Nat} (m:Nat) (tk:Nat->Nat) [sH:VI P] (gr:TH l m=true) (k:tl tk P r0 c D hs l Q m 0 m l (fun _=>sl) []):Tr c D sl hs (WP P r0 (.region id l.toArray true) Q):=fun a w ba=>by
 obtain ⟨S,qK,hp,ht⟩:=k;have h:(Code.region id l.toArray true).wpIn (FR r0) 0 P (NP Q) a w:=wpIn_region_any sH.eq (by
  refine TR (tk:=tk) (p:=m) (CP gr) (fun h=>absurd h (Nat.lt_irrefl _)) (fun c a w h=>h.elim) hp ba.du ba.size (fun β a w ba=>ht β a w ba) l.toArray.size _ _ _ ⟨by simp,?_,?_,ba.defers,ba.size,fun t _=>rfl,?_,fun _=>undef,?_,?_⟩
  ·exact fun k o _ hL=>absurd hL (gS _ _)
  ·exact fun k _ hL=>gS _ _ hL
  ·exact ⟨List.range l.length,Zbz,fun i=>⟨fun h=>⟨by simpa using h,gS _ _⟩,fun h=>by simpa using h.1⟩,by simp⟩
  ·have e:∀ (T:List c5) (i:Nat),fh (fun _=>undef) (pk tk (fun i=>(Array.replicate l.toArray.size false).getD i false)) T i=[]:=by
    intro T
    induction T with
    | nil=>intro i;rfl
    | cons s T ih =>
     intro i;have:=gS l.toArray.size i;unfold Ls at this;unfold fh;rw [if_neg (by unfold pk;simp only [Zm];exact fun h=>this h.1),ih];rfl
   rw [e];exact ba.mem.drew
  ·exact fun j o d s _ _ _ hL=>absurd hL (gS _ _))
 exact wpIn_mono h fun e a' w' h=>by
  cases e with
  | panic c=>exact h.elim
  | _=>exact h
end
section
variable {P:Program} {c:Cx} {D:List Nat} {sl:aL} {hs hs':List bd} {X:Act->World->Prop} {Q:Exit->Act->World->Prop} {l:List Oper} {m i n d:Nat} {qG:List (Nat×Nat)} {op:Op} {ty:TypeId} {pos:String} {af:Array Edge} {rest:List Oper} {SL:(Nat->Value)->aL} {S:List c5}
variable {r0:Option Nat}
theorem td {o:Oper} {s:c5} (hd:o.dst=some d) (gq:Nat.blt d c.nt=true) (h:NT P c hs l (j6 qG) i o SL S s) (k:tl (j6 qG) P r0 c D hs l Q m (i+1) n rest (fun β=>(d,s.F β)::SL β) (S++[s])):tl (j6 qG) P r0 c D hs l Q m i (n+1) (o::rest) SL S:=by
 obtain ⟨S',qK,hp,ht⟩:=k;exact ⟨S',qK,.step hd (by simpa [Zac] using gq) h hp,ht⟩
theorem NO (k:∀ β,Tr c D (SL β) (fh β (pk (j6 qG) (fun i=>Nat.blt i m)) S 0++hs) (Aa P r0 l.toArray Q (l.length-m) (qN l.length m))):tl (j6 qG) P r0 c D hs l Q m i 0 rest SL S:=
 ⟨S,SL,.nil,k⟩
theorem z6 {t e:TypeId} {agg:Bool} {size bytes jx n0:Nat} {z:Value} {x y:Operand} {Vx Vy:(Nat->Value)->Value} {Ax:(Nat->Value)->List bd} {xs:List Value} {news:List (List Value)} [hu:ja P t (.slice e)] [hT:Ty P e agg size] [hZ:mn P e z] [hBy:u6 P e bytes] (B:List Nat)
  (hB:(B.all fun j=>lT l ⟨some d,.call ⟨.builtin .append,#[x,y],#[t,t]⟩,ty,pos,af,none⟩ j&&Nat.beq (j6 qG j) 0)=true)
  (hS:S[jx]? = some ⟨Vx,Ax⟩) (hrow:∀ β w fp,cr (hp w) (Ax β) fp->(row e size (Vx β) n0 xs).sat (hp w) fp)
  (htk:∀ k,j6 qG k=i->k=jx) (hti:j6 qG jx=i) (h0:Nat.blt 0 i=true) (hwx:fL ⟨some d,.call ⟨.builtin .append,#[x,y],#[t,t]⟩,ty,pos,af,none⟩ jx=true)
  (hx:∀ β,Is (SL β) x (Vx β)) (hy:∀ β,Is (SL β) y (Vy β)) (hsrc:∀ β w,km c hs S B β w->Rd w (Vy β) size news) (h1:∀ r∈news,∀ u∈r,u.oneCell'=true) (hz:z.cells.size=size) (hsz:Nat.blt 0 size=true) (hb0:Nat.blt 0 bytes=true)
  (hb:(n0+news.length)*bytes<=140737488355328) (hd:Nat.blt d c.nt=true)
  (k:tl (j6 qG) P r0 c D hs l Q m (i+1) n rest (fun β=>(d,β i)::SL β) (S++[⟨fun β=>β i,fun β=>[row e size (β i) (n0+news.length) (xs++news.flatten)]⟩])) :
  tl (j6 qG) P r0 c D hs l Q m i (n+1) (⟨some d,.call ⟨.builtin .append,#[x,y],#[t,t]⟩,ty,pos,af,none⟩::rest) SL S:=by
 refine td (s:=⟨fun β=>β i,fun β=>[row e size (β i) (n0+news.length) (xs++news.flatten)]⟩) I hd ⟨fun β β' h=>by simp only [h i (iA l i)],fun β β' h=>by simp only [h i (iA l i)],⟨B,fun j hj=>?_,fun β a w rO uB Bq iZ=>?_⟩,fun j hj _=>by rw [htk j hj];exact hwx⟩ k
 ·have:=Z4.1 hB j hj;rw [Zm] at this;exact ⟨this.1,by simpa using this.2⟩
 rw [if_pos (by simp [Region.wanted])];rw [wq (i:=0) hS fun k=>by
  rw [ZD];unfold iS;rw [h0,Zao];by_cases e:k=jx
  ·subst e;rw [hti];simp
  ·rw [show Nat.beq k jx=false from ZaG.2 fun h=>e (Zae h)]
   exact ZaG.2 fun h=>e (htk k (Zae h))] at iZ
 have N7:=hrow β w rO iZ;have hR:=hsrc β w Bq;have hvx:=hx β a uB;have R4:=hy β a uB;have hlen:=fv hR.sz;by_cases hne:news=[]
 ·subst hne;obtain ⟨aa,cap,b,o,hV,_⟩:=hR;rw [hV] at R4;have VX:(Vx β=.slice none 0 0/\n0=0)\/∃ g cap,Vx β=.slice (some ⟨g,0,none⟩) n0 cap/\n0<=cap:=by
   obtain ⟨_,_,h1⟩:=N7;exact h1.imp id fun ⟨g,cap,cur,e,_,hc,_⟩=>⟨g,cap,e,hc⟩
  have iH:(execOp a.eval ⟨some d,.call ⟨.builtin .append,#[x,y],#[t,t]⟩,ty,pos,af,none⟩).run P w=.ok (.value (Vx β)) w:=by
   have:=uj (P:=P) (t:=t) (e:=e) (ty:=ty) (w:=w) (agg:=agg) (size:=size) (a:=aa) (cp:=cap) VX;simp only [Zaa] at R4;simp [execOp,resolve,invoke,builtin,hvx,R4,this]
  unfold qM;rw [iH];refine ⟨Vx β,by simp only [jk],.refl _ _,rO,?_,⟨rO,[],by simp,?_,I⟩,fun b hb=>.inl hb⟩
  ·rw [N7.1];cases (Vx β).ownBlock <;> simp
  ·simp only [jk,Zaa,Zaw,List.flatten_nil,ZJ];exact N7
 ·obtain ⟨aa,cap,b2,o2,hV,dd,bO,haa,hcc⟩:=hR;have:=haa hne;subst this;rw [hV] at R4;obtain ⟨de,ii,mZ,Dl,_,gY⟩:=Ty.parts (P:=P) (t:=e) (agg:=agg) (n:=size);have hzero:ii.zero=some z:=by have:=hZ.eq;rw [Dl] at this;simpa using this
  have gJ:ii.bytes=bytes:=by have:=hBy.eq;rw [Dl] at this;simpa using this
  have xj:0<bytes:=by simpa using hb0
  have pE:=vX N7;have Di:n0+news.length<=maxLen:=by
   have:(n0+news.length)*1<=(n0+news.length)*bytes:=Zbd _ xj;unfold maxLen;omega
  have hn:∀ (j:Nat) (u:Value),news.flatten[j]? = some u->w.cell? ⟨b2,o2+j,none⟩=some u:=l5 hcc;have yE:∀ u∈news.flatten,u.oneCell'=true:=fun u hu=>by obtain ⟨r,hr,Ul⟩:=Zby.1 hu;exact h1 r hr u Ul
  obtain ⟨v',w',iH,pD,sJ,_⟩:=run_append_own (P:=P) w 0 t ty e ii z size bytes hu.eq Dl hzero gY gJ hz (by simpa using hsz) (Vx β) n0 xs pE ⟨b2,o2,none⟩ news.length cap news.flatten hlen
   (fun j u hj=>by rw [eM];exact hn j u hj) yE Di hb (Zi _)
  have tP:=oq (P:=P) (t:=t) (ty:=ty) hu.eq Dl hzero (by rw [gY];exact pE) (a:=⟨b2,o2,none⟩) (m:=news.length) (cp:=cap) (by rw [gY];exact hlen) (fun j u hj=>by rw [eM];exact hn j u hj) yE Di (by rw [gJ];exact hb) iH
  have hex:(execOp a.eval ⟨some d,.call ⟨.builtin .append,#[x,y],#[t,t]⟩,ty,pos,af,none⟩).run P w=.ok (.value v') w':=by
   simp [execOp,resolve,invoke,builtin,hvx,R4,iH]
  unfold qM;rw [hex];have B0:rO=(Vx β).ownBlock.toList:=N7.1;refine ⟨v',by simp only [jk],⟨sJ.os,sJ.tape,sJ.output,tP.2,sJ.size,fun q hq XK=>sJ.block q hq (fun he=>XK ?_)⟩,v'.ownBlock.toList,by cases v'.ownBlock <;> simp,⟨v'.ownBlock.toList,[],(ZJ _).symm,by simp only [jk];exact kO pD,I⟩,fun q hq=>?_⟩
  ·rw [B0,<- he];simp
  ·have uC:v'.ownBlock=some q:=by simpa [Option.mem_toList] using hq
   rcases tP.1 with h | h
   ·left;rw [B0,<- h,uC];simp
   ·right
    rw [h] at uC;cases uC;exact Zy _
theorem NQ {ι:Type} {Φ:ι->Prop} {val:ι->Value} {own:ι->List bd} (g:Value->ι) (hg:∀ x,∃ v,g v=x) {f:FuncId} {args:(Nat->Value)->List Value} (B:List Nat)
  (hB:(B.all fun j=>lT l ⟨some d,op,ty,pos,af,none⟩ j&&Nat.beq (j6 qG j) 0)=true) (hn:(qG.all fun p=>!Nat.beq p.2 i)=true)
  (hr:∀ β,mA P (SL β) ⟨some d,op,ty,pos,af,none⟩ f (args β)) (hd:Nat.blt d c.nt=true) (hc:∀ β w,km c hs S B β w->a8 P f (args β) w [] Φ val own)
  (k:tl (j6 qG) P r0 c D hs l Q m (i+1) n rest (fun β=>(d,val (g (β i)))::SL β) (S++[⟨fun β=>val (g (β i)),fun β=>own (g (β i))⟩])) :
  tl (j6 qG) P r0 c D hs l Q m i (n+1) (⟨some d,op,ty,pos,af,none⟩::rest) SL S:=by
 refine td (s:=⟨fun β=>val (g (β i)),fun β=>own (g (β i))⟩) I hd ⟨fun β β' h=>by simp only [h i (iA l i)],fun β β' h=>by simp only [h i (iA l i)],⟨B,fun j hj=>?_,fun β a w rO uB Bq _=>?_⟩,fun j hj hp=>(vg hn hj hp).elim⟩ k
 ·have:=Z4.1 hB j hj;rw [Zm] at this;exact ⟨this.1,by simpa using this.2⟩
 rw [if_pos (by simp [Region.wanted])];unfold qM;rw [(hr β).2 a w uB];refine ⟨I,(hc β w Bq).mono fun e w' ⟨x,he,_,hk,fp,hn,hs',hf⟩=>?_⟩;obtain ⟨v,hv⟩:=hg x;refine ⟨val x,he,v,by simp only [jk,hv],hk.mono (by simp),fp,hn,by simp only [jk,hv];exact hs',fun b hb=>?_⟩;rcases hf b hb with h | h
 ·cases h
 ·exact .inr h
theorem jK {F:(Nat->Value)->Value} (hr:∀ β,di P c (SL β) hs ⟨some d,op,ty,pos,af,none⟩ (F β)) (hi:oF l i F) (hd:Nat.blt d c.nt=true) (hn:(qG.all fun p=>!Nat.beq p.2 i)=true) (k:tl (j6 qG) P r0 c D hs l Q m (i+1) n rest (fun β=>(d,F β)::SL β) (S++[⟨F,fun _=>[]⟩])) :
  tl (j6 qG) P r0 c D hs l Q m i (n+1) (⟨some d,op,ty,pos,af,none⟩::rest) SL S:=
 td (s:=⟨F,fun _=>[]⟩) I hd ⟨hi,fun _ _ _=>rfl,⟨[],by simp,fun β a w rO h1 h2 _=>by
  rw [if_pos (by simp [Region.wanted])];unfold qM;rw [(hr β).2 a w h1 h2.mem];exact ⟨β i,by rw [vL],.refl _ _,[],Zan,I,by simp⟩⟩,fun j hj hp=>(vg hn hj hp).elim⟩ k
theorem vI {V:Nat->Value} {ob:(Nat->Value)->Obj} (hr:∀ β,qL P c (SL β) hs ⟨some d,op,ty,pos,af,none⟩ V (ob β)) (hi:∀ β β',(∀ k,k≠i->BM l i k=true->β k=β' k)->ob β=ob β') (hd:Nat.blt d c.nt=true) (hn:(qG.all fun p=>!Nat.beq p.2 i)=true)
  (k:tl (j6 qG) P r0 c D hs l Q m (i+1) n rest (fun β=>(d,V (fu (β i)))::SL β) (S++[⟨fun β=>V (fu (β i)),fun β=>[bE (fu (β i)) (ob β)]⟩])) :
  tl (j6 qG) P r0 c D hs l Q m i (n+1) (⟨some d,op,ty,pos,af,none⟩::rest) SL S:=
 td (s:=⟨fun β=>V (fu (β i)),fun β=>[bE (fu (β i)) (ob β)]⟩) I hd ⟨fun β β' h=>by simp only [h i (iA l i)],fun β β' h=>by simp only [h i (iA l i),hi β β' fun k _ hk=>h k hk],⟨[],by simp,fun β a w rO h1 h2 _=>by
  rw [if_pos (by simp [Region.wanted])];unfold qM;rw [(hr β).2 a w h1 h2.mem];have e:ob (An β i (.q (w.heap.size:Int)))=ob β:=hi _ _ fun k hk _=>Am hk
  exact ⟨.q (w.heap.size:Int),by simp only [jk,qv],.alloc _ _ _,[w.heap.size],by simp,⟨[w.heap.size],[],I,⟨by simp only [jk,qv],by simp only [jk,qv];rw [e];exact World.alloc_heap_new w (ob β)⟩,I⟩,by simp⟩⟩,fun j hj hp=>(vg hn hj hp).elim⟩ k
end
end Go.SL.KR
namespace Go.SL.KR
open Go Go.SL
section
variable {P:Program} {c:Cx} {D:List Nat} {sl:aL} {hs hs':List bd} {X:Act->World->Prop} {Q:Exit->Act->World->Prop} {l:List Oper} {m i n d:Nat} {qG:List (Nat×Nat)} {op:Op} {ty:TypeId} {pos:String} {af:Array Edge} {rest:List Oper} {SL:(Nat->Value)->aL} {S:List c5}
variable {r0:Option Nat}
theorem FD {t e:TypeId} {agg:Bool} {size bytes jx n0:Nat} {z:Value} {x y:Operand} {Vx Vy:(Nat->Value)->Value} {Ax:(Nat->Value)->List bd} {xs:List Value} {news:List (List Value)} [hu:ja P t (.slice e)] [hT:Ty P e agg size] [hZ:mn P e z] [hBy:u6 P e bytes] (B:List Nat)
  (hB:(B.all fun j=>lT l ⟨some d,.call ⟨.builtin .append,#[x,y],#[t,t]⟩,ty,pos,af,none⟩ j&&Nat.beq (j6 qG j) 0)=true)
  (hS:S[jx]? = some ⟨Vx,Ax⟩) (hrow:∀ β w fp,cr (hp w) (Ax β) fp->(row e size (Vx β) n0 xs).sat (hp w) fp)
  (htk:∀ k,j6 qG k=i->k=jx) (hti:j6 qG jx=i) (h0:Nat.blt 0 i=true) (hwx:fL ⟨some d,.call ⟨.builtin .append,#[x,y],#[t,t]⟩,ty,pos,af,none⟩ jx=true)
  (hx:∀ β,Is (SL β) x (Vx β)) (hy:∀ β,Is (SL β) y (Vy β)) (hsrc:∀ β w,km c hs S B β w->Rd w (Vy β) size news) (h1:∀ r∈news,∀ u∈r,u.oneCell'=true) (hz:z.cells.size=size) (hsz:Nat.blt 0 size=true) (hb0:Nat.blt 0 bytes=true)
  (hb:(n0+news.length)*bytes<=140737488355328) (hd:Nat.blt d c.nt=true) (hne:news≠[])
  (k:tl (j6 qG) P r0 c D hs l Q m (i+1) n rest (fun β=>(d,.slice (xZ (β i)).1 (n0+news.length) (xZ (β i)).2)::SL β) (S++[⟨fun β=>.slice (xZ (β i)).1 (n0+news.length) (xZ (β i)).2,fun β=>[row e size (.slice (xZ (β i)).1 (n0+news.length) (xZ (β i)).2) (n0+news.length) (xs++news.flatten)]⟩])) :
  tl (j6 qG) P r0 c D hs l Q m i (n+1) (⟨some d,.call ⟨.builtin .append,#[x,y],#[t,t]⟩,ty,pos,af,none⟩::rest) SL S:=by
 refine td (s:=⟨fun β=>.slice (xZ (β i)).1 (n0+news.length) (xZ (β i)).2,fun β=>[row e size (.slice (xZ (β i)).1 (n0+news.length) (xZ (β i)).2) (n0+news.length) (xs++news.flatten)]⟩) I hd ⟨fun β β' h=>by simp only [h i (iA l i)],fun β β' h=>by simp only [h i (iA l i)],⟨B,fun j hj=>?_,fun β a w rO uB Bq iZ=>?_⟩,fun j hj _=>by rw [htk j hj];exact hwx⟩ k
 ·have:=Z4.1 hB j hj;rw [Zm] at this;exact ⟨this.1,by simpa using this.2⟩
 rw [if_pos (by simp [Region.wanted])];rw [wq (i:=0) hS fun k=>by
  rw [ZD];unfold iS;rw [h0,Zao];by_cases e:k=jx
  ·subst e;rw [hti];simp
  ·rw [show Nat.beq k jx=false from ZaG.2 fun h=>e (Zae h)]
   exact ZaG.2 fun h=>e (htk k (Zae h))] at iZ
 have N7:=hrow β w rO iZ;have hR:=hsrc β w Bq;have hvx:=hx β a uB;have R4:=hy β a uB;have hlen:=fv hR.sz;obtain ⟨aa,cap,b2,o2,hV,dd,bO,haa,hcc⟩:=hR;have:=haa hne;subst this;rw [hV] at R4;obtain ⟨de,ii,mZ,Dl,_,gY⟩:=Ty.parts (P:=P) (t:=e) (agg:=agg) (n:=size);have hzero:ii.zero=some z:=by have:=hZ.eq;rw [Dl] at this;simpa using this
 have gJ:ii.bytes=bytes:=by have:=hBy.eq;rw [Dl] at this;simpa using this
 have xj:0<bytes:=by simpa using hb0
 have pE:=vX N7;have Di:n0+news.length<=maxLen:=by
  have:(n0+news.length)*1<=(n0+news.length)*bytes:=Zbd _ xj;unfold maxLen;omega
 have hn:∀ (j:Nat) (u:Value),news.flatten[j]? = some u->w.cell? ⟨b2,o2+j,none⟩=some u:=l5 hcc;have yE:∀ u∈news.flatten,u.oneCell'=true:=fun u hu=>by obtain ⟨r,hr,Ul⟩:=Zby.1 hu;exact h1 r hr u Ul
 obtain ⟨v',w',iH,pD,sJ,_⟩:=run_append_own (P:=P) w 0 t ty e ii z size bytes hu.eq Dl hzero gY gJ hz (by simpa using hsz) (Vx β) n0 xs pE ⟨b2,o2,none⟩ news.length cap news.flatten hlen
  (fun j u hj=>by rw [eM];exact hn j u hj) yE Di hb (Zi _)
 have tP:=oq (P:=P) (t:=t) (ty:=ty) hu.eq Dl hzero (by rw [gY];exact pE) (a:=⟨b2,o2,none⟩) (m:=news.length) (cp:=cap) (by rw [gY];exact hlen) (fun j u hj=>by rw [eM];exact hn j u hj) yE Di (by rw [gJ];exact hb) iH
 have hex:(execOp a.eval ⟨some d,.call ⟨.builtin .append,#[x,y],#[t,t]⟩,ty,pos,af,none⟩).run P w=.ok (.value v') w':=by
  simp [execOp,resolve,invoke,builtin,hvx,R4,iH]
 unfold qM;rw [hex];have B0:rO=(Vx β).ownBlock.toList:=N7.1;have hN:0<n0+news.length:=by have:=List.length_pos_iff.2 hne;omega
 have hsv:v'=.slice (xZ v').1 (n0+news.length) (xZ v').2:=by
  rcases pD.2 with ⟨_,e2⟩ | ⟨g,cp,cur,e2,_⟩
  ·omega
  ·rw [e2];rfl
 refine ⟨v',by simp only [jk];exact hsv,⟨sJ.os,sJ.tape,sJ.output,tP.2,sJ.size,fun q hq XK=>sJ.block q hq (fun he=>XK ?_)⟩,v'.ownBlock.toList,by cases v'.ownBlock <;> simp,⟨v'.ownBlock.toList,[],(ZJ _).symm,by simp only [jk];rw [<- hsv];exact kO pD,I⟩,fun q hq=>?_⟩
 ·rw [B0,<- he];simp
 ·have uC:v'.ownBlock=some q:=by simpa [Option.mem_toList] using hq
  rcases tP.1 with h | h
  ·left;rw [B0,<- h,uC];simp
  ·right
   rw [h] at uC;cases uC;exact Zy _
end
end Go.SL.KR
namespace Go.Proofs.A1
open Go Go.SL
open Tryz
open Tryz renaming prog->T_
def BJ (x:Wy):bd:=row 3 1 x.v (gT x.p).length (gT x.p)
theorem BK:∀ lu:List Wy,fW 3 (lu.map Wy.v) (lu.map fun x=>gT x.p)=lu.map BJ
 | []=>rfl
 | x::l=>by simp only [Z3,fW,BK l];rfl
theorem Co:∀ (l:List bd) (A:bd) (m:List bd),Take (l++A::m) A (l++m)
 | [],_,_=>.here
 | _::l,A,m=>.there (Co l A m)
theorem y9 (A:bd):∀ (l m:List bd),bB (A::(l++m)) l (A::m)
 | [],_=>.nil
 | _::l,m=>.cons (.there .here) (y9 A l m)
theorem vQ {c:Cx} {D:List Nat} {sl:aL} {hs hs':List bd} {X:Act->World->Prop} {lu:List Wy} {x:Wy} (hx:x∈lu) (ht:Take hs (jg lu) hs')
  (k:∀ oM,(∀ y,y∈lu↔y=x\/y∈oM)->Tr c D sl (jg oM::row 3 1 x.v x.p.length (gT x.p)::hs') X):Tr c D sl hs X:=by
 obtain ⟨l1,l2,rfl⟩:=List.append_of_mem hx;have hk:=k (l1++l2) (fun y=>by simp only [Zz,ZS];constructor <;> (intro h;rcases h with h | h | h <;> simp [h]))
 refine yY (As:=fW 3 ((l1++x::l2).map Wy.v) ((l1++x::l2).map fun x=>gT x.p)) (show Take hs (Gb (fW 3 ((l1++x::l2).map Wy.v) ((l1++x::l2).map fun x=>gT x.p))) hs' from ht) ?_;rw [BK,Zv,Z3,Zh,Zb];refine ve (Co (l1.map BJ) (BJ x) (l2.map BJ++hs')) (fun _ _ h=>h) ?_;rw [<- Zh,<- Zv];refine qb (y9 (BJ x) ((l1++l2).map BJ) hs') ?_;have e:jg (l1++l2)=Gb ((l1++l2).map BJ):=by rw [<- BK];rfl
 rw [<- e];have e2:BJ x=row 3 1 x.v x.p.length (gT x.p):=by unfold BJ gT;rw [Zd]
 rw [e2];exact hk
theorem LH (p:List Nat):(gT p).length=p.length:=by unfold gT;rw [Zd]
variable {de:ByteArray} {p:List Nat} {r:Ro} {so:ByteArray} {v:Int}
theorem C0 {k:Nat} (h:k<p.length) (cur:List Value):(gT p++cur)[k*1]? = some (.q (p[k]:Nat)):=by
 rw [Zar,ZB (by rw [LH];exact h)];unfold gT;rw [ZE,Zc h];rfl
theorem CY (p:List Nat) (i:Nat):(nz p).contains (i:Int)=p.contains i:=by
 induction p with
 | nil=>rfl
 | cons x l ih =>
  show (((i:Int)==(x:Int))||(nz l).contains (i:Int))=((i==x)||l.contains i);rw [ih];congr 1;rw [ZaQ,beq_iff_eq,beq_iff_eq];omega
theorem qS {α:Type} {l:List Oper} {i:Nat} {x:α}:oF l i (fun _:Nat->Value=>x):=fun _ _ _=>rfl
theorem HU {N:Wn} {dm:Int} (h:N.FA=dm):N.least dm []:=by
 refine ⟨N.nW,h,fun q _ _=>?_⟩;rcases Wn.LM (N:=N) (show [] <+: q from List.nil_prefix) with e | e
 ·rw [<- e];exact N.lt_irrefl []
 ·cases hb:N.lt q [] with
  | false=>rfl
  | true=>have:=Wn.lt_trans e hb;rw [N.lt_irrefl] at this;cases this
set_option maxHeartbeats 4000000 in
theorem Rz {s d t p:Value} (v:Int) (so de:ByteArray) {w:World} (h:RR w r s d t p) (hn:oE r) (hV:jh r r.po) (hd:Ea r) (oK:so∈cK r) (gq:de∈cE r) :
  a8 T_ 175 [RA r s d t p,.q v,.string so,.string de] w [] (fun x:Bool×Wy×List Wy=>(x.1=true->(dG r r.po v so).least (k7 r de) x.2.1.p/\(x.2.1∈x.2.2\/x.2.1=⟨.z,[],0⟩))/\(x.1=false->∀ q,(dG r r.po v so).ok q->(dG r r.po v so).fin q≠k7 r de)/\x.2.1.v.oneCell'=true)
   (fun x=>.tuple #[.agg x.2.1.cells.toArray,.bool x.1]) (fun x=>[jg x.2.2]):=by
 have h6:r.ti.length<=6:=by have:=hn.VQ;unfold cQ at this;rwa [Zd] at this
 obtain ⟨h1,h2,h3,h4⟩:=h.one;have hti:=h.ti;obtain ⟨a,cp,b,o',rfl,dd,bO,ha,hc⟩:=hti;have Us:=h.sr;obtain ⟨a2,oS,b2,o2,rfl,kd,eU,jV,ke⟩:=Us;have mZ:=h.de;obtain ⟨a3,ud,b3,o3,rfl,mP,gF,rN,oR⟩:=mZ;rw [bV] at *;rw [cy] at *;rw [cd] at *;unfold maxLen at bO eU gF;obtain ⟨i0,vB⟩:∃ i:Nat,bC (cK r) so=(i:Nat):=⟨(bC (cK r) so).toNat,by have:=dP oK;omega⟩;have Fc:i0<r.sr.length:=by
  obtain ⟨hl,_⟩:=fD (l:=cK r) (s:=so) (by omega);rw [vB,ZH] at hl;unfold cK at hl;rwa [Zd] at hl
 obtain ⟨j0,uF⟩:∃ i:Nat,bC (cE r) de=(i:Nat):=⟨(bC (cE r) de).toNat,by have:=dP gq;omega⟩;have Dk:j0<r.de.length:=by
  obtain ⟨hl,_⟩:=fD (l:=cE r) (s:=de) (by omega);rw [uF,ZH] at hl;unfold cE at hl;rwa [Zd] at hl
 have Bj:oH r so=(r.sr[i0]).mx:=by unfold oH;rw [vB,ZH,Zk,Zc Fc];rfl
 have X6:k7 r de=(r.de[j0]).mx:=by unfold k7;rw [uF,ZH,Zk,Zc Dk];rfl
 have hsrc:∀ w',aJ [] w w'->aj T_ 180 [.agg #[.q r.lv,.q r.ma,.slice a2 r.sr.length oS,.slice a3 r.de.length ud,.slice a r.ti.length cp,p],.string so] w' (.q (i0:Nat)):=fun w' hk=>vB ▸ oY so (h.keeps hk)
 have uX:∀ w',aJ [] w w'->aj T_ 155 [.agg #[.q r.lv,.q r.ma,.slice a2 r.sr.length oS,.slice a3 r.de.length ud,.slice a r.ti.length cp,p],.string de] w' (.q (j0:Nat)):=fun w' hk=>uF ▸ gK de (h.keeps hk)
 have qI:=jV (iF Fc);have fF:=(ke i0 _ (fZ Fc)).2;unfold Sr.cells at fF;have V2:=fF 1 _ I;have yC:=rN (iq Dk);have pI:=(oR j0 _ (fR Dk)).2;unfold De.cells at pI;have Bo:=pI 1 _ I;unfold RA;refine aS func175 I I ?_
 (refine Jr<|Jy I I fun _ _=>Jz I I fun _ _=>Ja I<|Jn<|Ko<|Jq ?_)
 rename_i b4 tS b8 hb8
 with_reducible refine cN 18 (by kernel_rfl) ?_
 (refine lS I I ae<|aA (gX (.there .here)) I<|aA (cm (.there .here)) I<|gn I I<|dp bb I (fun w' aB=>(hsrc w' (Mem.keeps aB)))<|aA (an (.of I) (.of I) qI (by omega) (by omega) aW) I<|lS I I ae<|aA (ag (.of I) (At.base V2 I)) I<|lS I I ae<|aA (gX (.there .here)) I<|aA (cm (.there .here)) I<|gn I I<|dp bb I (fun w' aB=>(uX w' (Mem.keeps aB)))<|aA (an (.of I) (.of I) yC (by omega) (by omega) aW) I<|lS I I ae<|aA (ag (.of I) (At.base Bo I)) I<|aA (cM (.of I)) I<|aA (cM (.of I)) I ?_)
 with_reducible refine cT ?_
 rw [<- Bj,<- X6]
 (refine Jn<|Jq<|Jr<|Jv I<|Jv I<|JC I<|Jn<|gm I (fun az=>?_) fun az=>?_;refine Jr<|ab (aU .nil ak) I<|ao (.of I) (.of I) .here I I (gO I I) (bz I) ak<|Ja I<|Jn<|Ju<|tu ?_;rotate_left;refine Jk<|Jr<|ab (cm (.there .here)) I<|Jv I<|Jv I ?_;rotate_right)
 ·refine y7 ?_
  with_reducible first|apply aO|apply aQ
  case he=>exact tY I inferInstance I (.there .here) ak (by rfl) (by rfl)
  case hR=>
   intro w' aB;exact aD (true,⟨.z,[],0⟩,[]) ⟨fun _=>⟨HU (show kq r so=_ by rw [oZ oK];exact az),.inr I⟩,(fun e=>by cases e),I⟩ (by exact .h1 .nil) aB I
 refine JN ef I (fun w1 aT=>Ny (s:=.slice a2 r.sr.length oS) (d:=.slice a3 r.de.length ud) (t:=.slice a r.ti.length cp) (p:=p) v so (h.keeps aT.keeps) (by omega) oK) ?_;rintro ⟨wv,W⟩ hW;have hS:=qJ.begin hn hV v (de:=de) oK h6 az hW;clear az;dsimp only [id_eq,Zb,Za];refine aM (E:=244) (sz:=2) (by exact .here) fun va vc e=>?_;subst e
 (refine Jz I I fun _ _=>ao (.of I) (.of I) .here I I (dR I) (bz I) ak<|Ji<|Jz I I fun _ _=>Ji<|Ja I<|Jn<|Jq<|Kt<|Jt<|Jq<|J0 ?_)
 rename_i ND ac5 VA ajo;refine Hq (E:=244) (sz:=2) bL ?_
 refine F1 (ι:=Value×List Wy×List Wy) (fun x=>qJ (dG r r.po v so) (k7 r de) x.2.1 x.2.2)
  (fun x=>[(14,.bool false),(13,.p VA),(12,.p ND),(11,.q (k7 r de)),(8,.p b8),(4,.p b4),(1,.q v)])
  (fun x=>[bE ND (.cells #[x.1] 329 (0,0)),lz 244 2 x.1 x.2.1.length (nJ x.2.1),jg x.2.2,bE VA (.cells #[.z,.q 0] 244 (0,0)),bE b8 (.cells #[.z,.q 0] 244 (0,0)),
   JP b4 r (.slice a2 r.sr.length oS) (.slice a3 r.de.length ud) (.slice a r.ti.length cp) p]) (fun x=>(dG r r.po v so).wt (x.2.1.map Wy.p)) ?_ ?_
 ·apply yX (.slice va W.length vc,W,W) hS
  case hs1=>exact bS
  case ht=>
   show bB _ [bE ND (.cells #[.slice va W.length vc] 329 (0,0)),lz 244 2 (.slice va W.length vc) W.length (nJ W),jg W,bE VA (.cells #[.z,.q 0] 244 (0,0)),bE b8 (.cells #[.z,.q 0] 244 (0,0)),
    JP b4 r (.slice a2 r.sr.length oS) (.slice a3 r.de.length ud) (.slice a r.ti.length cp) p] _
   exact .cons bL (.h1 (.cons (.there .here) (.h3 .nil)))
 rintro ⟨wv,Q,lu⟩ hS D;dsimp only at hS ⊢;have hQl:=hS.len;refine yZ (by exact Take.there .here) fun qa qc e VZ XB=>?_;subst e;by_cases hQ0:Q.length=0
 ·have Ml:Q=[]:=Z8 hQ0;subst Ml
  (refine Jq<|Jr<|JL I .here I<|JI I<|JE I<|Jn<|Jc I fun az=>Jp<|Jl<|Jo<|Jt<|Jr<|ab (cm cX) I<|Jv I<|ao (.of I) (.of I) dD I I (gO I I) (bz I) ak<|Ja I<|Jn<|Je<|tu ?_)
  with_reducible first|apply aO|apply aQ
  case he=>exact tY I inferInstance I .here ak (by rfl) (by rfl)
  case hR=>
   intro w' aB;exact aD (false,⟨.z,[],0⟩,lu) ⟨(fun e=>by cases e),(fun _=>Wn.L5 hS.inv),I⟩ (by exact .cons cX .nil) aB I
 ·refine Jq<|Jr<|JL I .here I<|JI I<|JE I<|Jn<|Jd I fun az=>Jk<|J0<|Jr<|JL I .here I ?_
  with_reducible apply gA (As:=[lz 244 2 (.slice qa Q.length qc) Q.length (nJ Q),jg lu])
  case hr=>exact bb
  case hd=>rfl
  case ht=>exact iP
  case hc=>
   intro w1 Bv aT uV hs1 Dt _;exact KI uV hs1 I hS.sub (by omega) hS.one
  rintro Q' ⟨jD,Xt⟩;have Yo:Q'.length=Q.length:=jD.length_eq
  replace hS:=hS.perm jD
  dsimp only [id_eq,Zb,Za];have hwt:=Wn.FL (N:=dG r r.po v so) (jD.map Wy.p);rw [<- Yo] at hQ0 hQl VZ ⊢;clear jD;cases Q' with
  | nil=>exact absurd rfl hQ0
  | cons x R =>
   clear hQ0 Yo;obtain ⟨xv,xp,xf⟩:=x;have hxb:=hS.sub ⟨xv,xp,xf⟩ (by simp);have hx1:xv.oneCell'=true:=hS.one ⟨xv,xp,xf⟩ hxb;have uz:(dG r r.po v so).ok xp/\xp≠[]:=hS.inv.ok xp (by simp);have hwx:nJ (⟨xv,xp,xf⟩::R)=[xv,.int .i64 (xf:Nat)]++nJ R:=rfl;have hlR:((⟨xv,xp,xf⟩:Wy)::R).length=R.length+1:=rfl;rw [hlR] at VZ hQl;rw [hlR,hwx];refine Ji<|JL I bL I ?_;refine Ce (by exact .here) (Nat.succ_pos _) fun g off iz pre cur e mY kL aT hfit hlen=>?_;cases e;have c0:eK (pre++([xv,.int .i64 (xf:Nat)]++nJ R)++cur) (off+0*2) 2=[xv,.int .i64 (xf:Nat)]:=by
    rw [jP,Zh,Zbo,Zaw,<- mY,List.drop_left];rfl
   (refine ab (an (.of I) (.of I) I (by omega) (by omega) aW) I<|ab (bK (.of I) .here c0 I) I<|Jz I I fun _ _=>ao (.of I) (.of I) .here I I (gO hx1 I) (bz I) ak<|Ji<|JL I cX I<|ab (rb (.of I) (.of I) (by omega) (by omega)) I<|ao (.of I) (.of I) cX I I (dR I) (bz I) ak<|Jn<|Jq ?_)
   rename_i On Ye;refine Cd (n:=R.length+1) (sz:=2) (cap:=qc) bL mY kL aT hfit hlen ?_;refine Cc (by exact .here) ?_;rw [show ([xv,.q (xf:Nat)]++nJ R).drop 2=nJ R from I];refine vQ hxb cX fun oM UZ=>?_;have Qh:0<xp.length:=List.length_pos_iff.2 uz.2;have hxn:xp.length<=r.ti.length:=Wn.rk uz.1;have hxf:xf<=6:=by
    have h0:xf=(dG r r.po v so).sO xp:=hS.sO ⟨xv,xp,xf⟩ (by simp);have:=List.countP_le_length (p:=(dG r r.po v so).fe) (l:=xp);unfold Wn.sO at h0;omega
   refine dy (by exact Take.there .here) Qh fun g2 c6 adG e UY ack yu D5=>?_;cases e;obtain ⟨l,hl⟩:∃ l,xp[xp.length-1]=l:=⟨_,rfl⟩;have UJ:l<r.ti.length:=Wn.sq uz.1 l (hl ▸ Zj _);have c1:(gT xp++adG)[((xp.length:Int)-1).toNat*1]? = some (.int .i64 (l:Nat)):=by
    rw [show ((xp.length:Int)-1).toNat=xp.length-1 by omega,C0 (by omega),hl]
   have U1:=ha (fm UJ);have jq:=(hc l _ (ei UJ)).2;unfold Ti.cells at jq;have ac1:=jq 2 _ I;have pG:(dG r r.po v so).fin xp=(r.ti[l]).to:=by
    unfold Wn.fin;rw [List.getLast?_eq_getElem?,Zc (by omega),hl];show (ia r l).to=_;rw [nR UJ]
   with_reducible refine cN 14 (by kernel_rfl) ?_
   (refine lS I I ae ?_;refine aA (gX tt) I ?_;refine lS I I ae ?_;refine aA (gX dD) I ?_;refine lS I I ae ?_;refine aA (gX dD) I ?_;refine aA (bZ (.of I)) I ?_;refine aA (q8 (.of I) (.of I) (R3 (by omega))) I ?_;refine aA (an (.of I) (.of I) I (by omega) (by omega) aW) I ?_;refine aA (ag (.of I) (At.mz .here c1)) I ?_;refine aA (an (.of I) (.of I) U1 (by omega) (by omega) aW) I ?_;refine lS I I ae ?_;refine aA (ag (.of I) (At.base ac1 I)) I ?_;refine aA (cM (.of I)) I ?_)
   with_reducible refine cT ?_
   rw [<- pG];refine dC (by exact .here) UY ack yu D5 ?_;refine qf (W:=oM) ⟨.w g2 xp.length c6,xp,xf⟩ (n:=xp.length) (x:=gT xp) (by exact Take.there .here) (by exact .here) I I ?_;have Yd:∀ y,y∈oM++[(⟨.w g2 xp.length c6,xp,xf⟩:Wy)]↔y∈lu:=fun y=>by rw [UZ,Zz,ZL];exact Or.comm
   generalize oM++[(⟨.w g2 xp.length c6,xp,xf⟩:Wy)]=Vz at Yd ⊢
   (refine Jn<|Jq<|Jr<|Jv I<|Jv I<|JC I<|Jn<|gm I (fun az=>?_) fun az=>?_;refine Jr<|ab (cm cX) I<|ao (.of I) (.of I) dD I I (gO I I) (bz I) ak<|Ja I<|Jn<|Jp<|vP I<|Jl<|Jo<|Jt<|Jr<|ab (cm .here) I<|Jv I<|ao (.of I) (.of I) eu I I (gO I I) (bz I) ak<|Ja I<|Jn<|Je<|tu ?_;rotate_left;refine Jk<|Jr<|ab (cm kr) I<|Jv I<|Jv I ?_;rotate_right)
   ·with_reducible first|apply aO|apply aQ
    case he=>exact tY I inferInstance I .here ak (by rfl) (by rfl)
    case hR=>
     intro w' aB;exact aD (true,⟨.w g2 xp.length c6,xp,xf⟩,Vz) ⟨(fun _=>⟨qJ.found hS Xt az,.inl ((Yd _).2 hxb)⟩),(fun e=>by cases e),I⟩ (by exact .cons bL .nil) aB I
   with_reducible apply jH
   case hr=>exact ef
   case hd=>rfl
   case ht=>exact bB.nil
   case hc=>
    intro w1 fp aT _ hs1;obtain rfl:fp=[]:=hs1;exact tM (s:=.slice a2 r.sr.length oS) (d:=.slice a3 r.de.length ud) (t:=.slice a r.ti.length cp) (p:=p) v ((dG r r.po v so).fin xp) (h.keeps aT.keeps)
   intro y _;dsimp only [id_eq,Zb,Za];have sK:(gj r v ((dG r r.po v so).fin xp) r.ti.length).length<=r.ti.length:=by
    have:=ZV (Dv r v ((dG r r.po v so).fin xp)) (List.range r.ti.length);rw [Zau] at this;exact this
   refine Jn<|J0 ?_
   refine jR (ps:=[73,74]) (f:=240) (first:=[]) (cap:=[.pointer (some ⟨y.1,0,none⟩),.pointer (some ⟨y.2.1,0,none⟩),.pointer (some ⟨y.2.2,0,none⟩)]) (ι:=Value×List Wy×List Wy) (κ:=Empty)
    (rst:=[bE VA (.cells #[.z,.q 0] 244 (0,0)),bE b8 (.cells #[.z,.q 0] 244 (0,0)),JP b4 r (.slice a2 r.sr.length oS) (.slice a3 r.de.length ud) (.slice a r.ti.length cp) p]) ?hg
    [JP y.1 r (.slice a2 r.sr.length oS) (.slice a3 r.de.length ud) (.slice a r.ti.length cp) p,bE y.2.1 (.cells #[.q ((dG r r.po v so).fin xp)] 3 (0,0)),bE y.2.2 (.cells #[.q v] 3 (0,0))] (N5 r v ((dG r r.po v so).fin xp)) ?hit
    (fun k x=>x.2.1.map wk=(((gj r v ((dG r r.po v so).fin xp) r.ti.length).take k).filter fun i=>!xp.contains i).map (fun i=>(xf+1,xp++[i]))/\(∀ z∈R++x.2.1,z∈x.2.2)/\(∀ z∈x.2.2,z.v.oneCell'=true)/\(⟨.w g2 xp.length c6,xp,xf⟩:Wy)∈x.2.2)
    (fun x=>[bE ND (.cells #[x.1] 329 (0,0)),lz 244 2 x.1 (R.length+x.2.1.length) (nJ (R++x.2.1)),jg x.2.2,bE On (.cells #[.w g2 xp.length c6,.q (xf:Nat)] 244 (0,0))])
    (fun _=>False) (fun _=>[]) (fun _=>.ret) (Go.sliced (some ⟨g,off,none⟩) 1 (R.length+1) qc 2,[],Vz) ⟨I,(fun z hz=>(Yd z).2 (hS.sub z (by rw [ZJ] at hz;exact ZM _ hz))),(fun z hz=>hS.one z ((Yd z).1 hz)),(Yd _).2 hxb⟩ ?ht ?hlen ?hps ?round ?kn ?kj
   case hg=>exact Is.of I
   case hit=>intro w' aB;exact LL v _ h RO.nil (by omega)
   case ht=>
    show bB _ [bE ND (.cells #[Go.sliced (some ⟨g,off,none⟩) 1 (R.length+1) qc 2] 329 (0,0)),lz 244 2 (Go.sliced (some ⟨g,off,none⟩) 1 (R.length+1) qc 2) R.length (nJ (R++[])),jg Vz,bE On (.cells #[.w g2 xp.length c6,.q (xf:Nat)] 244 (0,0)),
     JP y.1 r (.slice a2 r.sr.length oS) (.slice a3 r.de.length ud) (.slice a r.ti.length cp) p,bE y.2.1 (.cells #[.q ((dG r r.po v so).fin xp)] 3 (0,0)),bE y.2.2 (.cells #[.q v] 3 (0,0))] _
    rw [ZJ];exact .cons eu (.cons dD (.cons cX (.cons cX (.h3 .nil))))
   case hlen=>intro vs pC;obtain ⟨x,_,rfl⟩:=Zx.1 pC;rfl
   case hps=>intro t ht;simp only [ZS,Zo,or_false] at ht;rcases ht with rfl | rfl <;> exact ZaA rfl
   case kj=>intro y;cases y
   case kn=>
    rintro ⟨S6,W,DO⟩ D2 ⟨hW,jn,fo,E4⟩;dsimp only [Zb,Za] at hW jn fo E4 ⊢;rw [vv,ZK] at hW;obtain ⟨hS2,fY⟩:=qJ.next hS az jn fo hW;refine Jj<|Jj<|Jt ?_;apply Cg (S6,R++W,DO) hS2 (by rw [<- hwt];exact fY)
    case hs1=>exact bS
    case ht=>
     show bB _ [bE ND (.cells #[S6] 329 (0,0)),lz 244 2 S6 (R++W).length (nJ (R++W)),jg DO,bE VA (.cells #[.z,.q 0] 244 (0,0)),bE b8 (.cells #[.z,.q 0] 244 (0,0)),
      JP b4 r (.slice a2 r.sr.length oS) (.slice a3 r.de.length ud) (.slice a r.ti.length cp) p] _
     rw [Zg];exact .h3 (.cons dD (.cons dD (.cons dD .nil)))
   case round=>
    rintro l2 rc W2 YD k ⟨S6,W,DO⟩ vs hsz hk ⟨hW,jn,fo,E4⟩ hB hF;dsimp only at hW jn fo E4;obtain ⟨i,hi,rfl,jO,UQ⟩:=ET hk;obtain ⟨nM,Mt⟩:=Zn.1 hi;have htk:(gj r v ((dG r r.po v so).fin xp) r.ti.length).take (k+1)=(gj r v ((dG r r.po v so).fin xp) r.ti.length).take k++[i]:=by rw [Zl nM,Mt]
    have Og:(nJ (R++W)).length=(R.length+W.length)*2:=by rw [pZ,Zg]
    have hWk:W.length<=6:=by
     have:=congrArg List.length hW;rw [Zd,Zd] at this;rw [this];refine ZQ (ZV _ _) ?_;rw [Zs];omega
    dsimp only [Ti.cells,List.zip_cons_cons,List.zip_nil_right,mV,Zb,Za];refine Jg<|Ja I<|Jn ?_
    with_reducible apply ns
    case ht=>exact .here
    (refine J0<|Jr<|bJ I I ae<|JL I dD I<|Jv I ?_)
    refine ai bb I (fun w' aB=>l9 (l:=nz xp) (i:Nat) (Fy aB cX E4)) ?_;rw [CY];cases Dp:xp.contains i with
    | true =>
     have uG:((gj r v ((dG r r.po v so).fin xp) r.ti.length).take (k+1)).filter (fun i=>!xp.contains i)=((gj r v ((dG r r.po v so).fin xp) r.ti.length).take k).filter (fun i=>!xp.contains i):=by
      rw [htk,Zay];simp only [ZbA,Dp,List.filter_nil];simp
     (refine JH I<|Jn<|ch (.of I)<|Jw<|Jj ?_)
     apply mC (S6,W,DO)
     case ht=>exact .here
     case hx=>exact ⟨by rw [uG];exact hW,jn,fo,E4⟩
     case h2=>exact .h4 .nil
    | false =>
     have uG:((gj r v ((dG r r.po v so).fin xp) r.ti.length).take (k+1)).filter (fun i=>!xp.contains i)=((gj r v ((dG r r.po v so).fin xp) r.ti.length).take k).filter (fun i=>!xp.contains i)++[i]:=by
      rw [htk,Zay];simp only [ZbA,Dp,List.filter_nil];simp
     refine JH I<|Jn<|cW (.of I) ?_;have nL:(nz xp).length=xp.length:=tJ xp;have XM:(nz xp).map (Value.int .i64)=gT xp:=by unfold nz gT;rw [ZaE];rfl
     with_reducible refine KR.Ci 12 (j6 [(3,6)]) (by kernel_rfl) ?_
     refine KR.jK (fun β=>(ag (.of I) (At.lit (.there .here) I))) qS I I ?_;refine KR.jK (fun β=>(aq (.of I) ae)) qS I I ?_;refine KR.jK (fun β=>(ag (.of I) (At.lit dD I))) qS I I ?_;dsimp only [Nat.zero_add,Nat.reduceAdd]
     with_reducible apply KR.NQ (ι:=Value) (Φ:=fun _=>True) (val:=id) (own:=fun v=>[row 3 1 v xp.length (gT xp)]) (g:=id) (B:=[]) (args:=fun _=>[.w g2 xp.length c6])
     case hg=>exact fun x=>⟨x,I⟩
     case hB=>rfl
     case hr=>exact fun β=>a7 (.of I) (.o I .nil) inferInstance I
     case hd=>rfl
     case hn=>rfl
     case hc=>
      intro β w' hb;have:=Re (l:=nz xp) (Fy hb.mem cX E4) (by rw [tJ];omega);rwa [nL,XM] at this
     dsimp only [id_eq,Nat.reduceAdd];refine KR.jK (fun β=>(aP (.of I))) qS I I ?_;refine KR.vI (fun β=>(aG (.o I .nil) I I I I)) (fun _ _ _=>rfl) I I ?_;dsimp only [Nat.reduceAdd]
     with_reducible apply KR.FD (jx:=3) (n0:=xp.length) (xs:=gT xp) (news:=[[.q (i:Nat)]]) (Vx:=fun β=>β 3) (Vy:=fun β=>.slice (some ⟨fu (β 5),0,none⟩) 1 1) (Ax:=fun β=>[row 3 1 (β 3) xp.length (gT xp)]) (B:=[5])
     case hB=>kernel_rfl
     case hS=>rfl
     case hrow=>exact fun β w' fp ⟨f1,f2,e,h,h0⟩=>by obtain rfl:f2=[]:=h0;rw [e,ZJ];exact h
     case htk=>exact qh I I
     case hti=>rfl
     case h0=>rfl
     case hwx=>kernel_rfl
     case hx=>exact fun β=>.of I
     case hy=>exact fun β=>.of I
     case hsrc=>
      intro β w' hb;have m6:=hb.at 5 (by simp) (s:=⟨fun β=>.slice (some ⟨fu (β 5),0,none⟩) 1 1,fun β=>[bE (fu (β 5)) (.cells #[.q (i:Nat)] 3 (0,0))]⟩) (by kernel_rfl)
      dsimp only [Zb,Za] at m6;exact Mem.dz m6 (by exact .here) I I
     case h1=>
      intro r hr u hu;simp only [ZL] at hr;subst hr;simp only [ZL] at hu;subst hu;rfl
     case hz=>rfl
     case hsz=>rfl
     case hb0=>rfl
     case hb=>simp only [Z9];omega
     case hd=>rfl
     case hne=>simp
     rw [show ([[Value.int .i64 (i:Nat)]]:List (List Value)).flatten=[.q (i:Nat)] from I,show ([[Value.int .i64 (i:Nat)]]:List (List Value)).length=1 from I];dsimp only [Nat.reduceAdd];refine KR.jK (fun β=>(aq (.of I) ae)) qS I I ?_;refine KR.jK (fun β=>(ag (.of I) (At.lit dD I))) qS I I ?_;refine KR.jK (fun β=>(K6 (.of I) (.of I) (R3 (by omega)))) qS I I ?_
     with_reducible apply KR.jK (F:=fun β=>.agg #[.slice (xZ (β 6)).1 (xp.length+1) (xZ (β 6)).2,.q ((xf:Nat)+1)])
     case hr=>(intro β;exact aU (.o I (.o I .nil)) ak)
     case hi=>exact fun β β' h=>by simp only [h 6 (by kernel_rfl)]
     case hd=>rfl
     case hn=>rfl
     dsimp only [Nat.reduceAdd]
     with_reducible apply KR.vI (V:=fun b=>.w b 1 1) (ob:=fun β=>.cells #[.slice (xZ (β 6)).1 (xp.length+1) (xZ (β 6)).2,.q ((xf:Nat)+1)] 244 (0,0))
     case hr=>(intro β;exact bn (.o I .nil) I I bH bH ak)
     case hi=>exact fun β β' h=>by simp only [h 6 (by decide) (by kernel_rfl)]
     case hd=>rfl
     case hn=>rfl
     dsimp only [Nat.reduceAdd];refine KR.NO fun β=>?_
     change Tr _ _ _ [bE (fu (β 5)) (.cells #[.q (i:Nat)] 3 (0,0)),row 3 1 (.slice (xZ (β 6)).1 (xp.length+1) (xZ (β 6)).2) (xp.length+1) (gT xp++[.q (i:Nat)]),bE (fu (β 11)) (.cells #[.slice (xZ (β 6)).1 (xp.length+1) (xZ (β 6)).2,.q ((xf:Nat)+1)] 244 (0,0)),
      bE l2 (gR rc .busy none),bE ND (.cells #[S6] 329 (0,0)),lz 244 2 S6 (R.length+W.length) (nJ (R++W)),jg DO,bE On (.cells #[.w g2 xp.length c6,.q (xf:Nat)] 244 (0,0))] _
     generalize fu (β 5)=b5;generalize fu (β 11)=SR;generalize (xZ (β 6)).1=ea;generalize (xZ (β 6)).2=ec;refine ur (rs:=[12]) (by kernel_rfl) (by simp) (Zq.2 ⟨?_,fun _ h=>absurd h Zo⟩);refine wI I ?_
     with_reducible apply El
     case hx=>exact Is.of I
     case hy=>exact Is.of I
     case ht=>exact eu
     case hn=>exact eZ.bE bL (show eK [.slice ea (xp.length+1) ec,.q ((xf:Nat)+1)] 0 2=[.slice ea (xp.length+1) ec,.q ((xf:Nat)+1)] from I)
     case hl=>rfl
     case h1=>exact bR I (dR I)
     case hz=>exact I
     case hsz=>exact I
     case hb0=>exact I
     case hb=>omega
     case hd=>rfl
     intro v';refine yZ (by exact .here) fun a' iz e oA lo=>?_;subst e;refine Jn ?_;refine ur (rs:=[13]) (by kernel_rfl) (by simp) (Zq.2 ⟨?_,fun _ h=>absurd h Zo⟩);refine wI I ?_
     (refine ao (.of I) (.of I) eu I I (dR I) (bz I) ak<|Jn ?_)
     with_reducible refine wU (by kernel_rfl) ?_
     refine qP ?_;refine qf (W:=DO) ⟨.slice ea (xp.length+1) ec,xp++[i],xf+1⟩ (n:=xp.length+1) (x:=gT xp++[.q (i:Nat)]) kr cX (by simp) (by unfold gT;rw [Zv];rfl) ?_;have Uj:nJ (R++(W++[⟨.slice ea (xp.length+1) ec,xp++[i],xf+1⟩]))=nJ (R++W)++[.slice ea (xp.length+1) ec,.q ((xf:Nat)+1)]:=by rw [<- Zh];exact Ac (R++W) _
     have Xj:R.length+(W++[(⟨.slice ea (xp.length+1) ec,xp++[i],xf+1⟩:Wy)]).length=R.length+W.length+1:=by simp [Nat.add_assoc]
     apply mC (.slice a' (R.length+W.length+1) iz,W++[⟨.slice ea (xp.length+1) ec,xp++[i],xf+1⟩],DO++[⟨.slice ea (xp.length+1) ec,xp++[i],xf+1⟩])
     case ht=>exact eu
     case hx=>
      refine ⟨?_,?_,?_,?_⟩
      ·rw [uG,Zv,Zv,hW];rfl
      ·intro z hz;rw [<- Zh] at hz;rcases Zz.1 hz with hz | hz
       ·exact ZF _ (jn z hz)
       ·exact ZU _ hz
      ·intro z hz;rcases Zz.1 hz with hz | hz
       ·exact fo z hz
       ·rw [ZL.1 hz];rfl
      ·exact ZF _ E4
     case h2=>
      show bB _ [bE ND (.cells #[.slice a' (R.length+W.length+1) iz] 329 (0,0)),lz 244 2 (.slice a' (R.length+W.length+1) iz) (R.length+(W++[(⟨.slice ea (xp.length+1) ec,xp++[i],xf+1⟩:Wy)]).length) (nJ (R++(W++[⟨.slice ea (xp.length+1) ec,xp++[i],xf+1⟩]))),jg (DO++[⟨.slice ea (xp.length+1) ec,xp++[i],xf+1⟩]),bE On (.cells #[.w g2 xp.length c6,.q (xf:Nat)] 244 (0,0))] _;rw [Xj,Uj];exact .cons (.there .here) (.cons (.there .here) (.h1 (.cons bL .nil)))
def lf (r:Ro) (v:Int) (so de:ByteArray):Option (List Nat):=match (dG r r.po v so).all (k7 r de) ((dG r r.po v so).n+1) [] with
 | []=>none
 | a::l=>some (kh (dG r r.po v so).lt a l)
theorem yT (h:(dG r r.po v so).least (k7 r de) p):lf r v so de=some p:=by
 unfold lf;split
 ·rename_i e;exact absurd h.2.1 (Wn.all_none e p h.1)
 ·rename_i a l e;rw [Wn.EU (Wn.Vv e) h]
theorem yU (h:∀ q,(dG r r.po v so).ok q->(dG r r.po v so).fin q≠k7 r de):lf r v so de=none:=by
 unfold lf;split
 ·rfl
 ·rename_i a l e;have:=Wn.Vv e;exact absurd this.2.1 (h _ this.1)
theorem OB (h:(dG r r.po v so).least (k7 r de) p):∀ i∈p,i<r.ti.length:=Wn.sq h.1
def qY (r:Ro) (v:Int) (so de:ByteArray):Int:=aZ [gy r,GA r v,Tz r so,oL r de]
theorem Wk {n:Int} (h0:0<=n) (h1:n<9223372036854775808):IntKind.i64.wrap n=n:=by simp [IntKind.wrap,IntKind.bits,IntKind.signed];omega
theorem Af (h:qY r v so de=0):rQ r/\(0<=v/\v<r.lv)/\so∈cK r/\de∈cE r:=by
 unfold qY at h;rw [cz] at h;have h1:=A2 (h _ Zu);have h2:=h (GA r v) (by simp);have h3:=(bT (by decide)).1 (h (Tz r so) (by simp));have h4:=(bT (by decide)).1 (h (oL r de) (by simp));have hl:=h1.lim;unfold GA at h2;rw [Wk (by omega) (by omega),gZ] at h2;rw [decide_eq_false_iff_not,cH,Classical.not_not] at h3 h4;exact ⟨h1,by omega,h3,h4⟩
theorem rC {s d t p:Value} (v:Int) (so de:ByteArray) {w:World} (h:RR w r s d t p) (cZ:nk r):aj T_ 151 [RA r s d t p,.q v,.string so,.string de] w (.q (qY r v so de)):=by
 obtain ⟨h1,h2,h3,h4⟩:=h.one;have gr:∀ w',aJ [] w w'->aj T_ 34 [.agg #[.int .i64 r.lv,.int .i64 r.ma,s,d,t,p]] w' (.int .i64 (gy r)):=fun w' hk=>fj (h.keeps hk) cZ
 have hle:∀ w',aJ [] w w'->aj T_ 114 [.agg #[.q r.lv,.q r.ma,s,d,t,p],.q v] w' (.q (GA r v)):=fun w' hk=>lJ v (h.keeps hk)
 have Be:∀ w',aJ [] w w'->aj T_ 122 [.agg #[.q r.lv,.q r.ma,s,d,t,p],.string so] w' (.q (Tz r so)):=fun w' hk=>qW so (h.keeps hk)
 have mZ:∀ w',aJ [] w w'->aj T_ 112 [.agg #[.q r.lv,.q r.ma,s,d,t,p],.string de] w' (.q (oL r de)):=fun w' hk=>eY de (h.keeps hk)
 unfold RA;refine ah func151 I I ?_;refine Jr<|Jy I I fun _ _=>Ja I<|Jn<|Jq ?_
 with_reducible refine cY 12 (by kernel_rfl) ?_
 (refine ar (cm .here) I<|aX bM I (fun w' aB=>(gr w' (Mem.keeps aB)))<|ar (cm .here) I<|ar k8 I<|aX bb I (fun w' aB=>(hle w' (Mem.keeps aB)))<|ar (cm .here) I<|ar k8 I<|aX bb I (fun w' aB=>(Be w' (Mem.keeps aB)))<|ar (cm .here) I<|ar k8 I<|aX bb I (fun w' aB=>(mZ w' (Mem.keeps aB)))<|eC (aG (.o I (.o I (.o I (.o I .nil)))) I I I I) I I ?_)
 with_reducible refine dA I fun bq ml=>?_
 (refine ai bM I (fun w' aB=>(ee (Mem.dz aB .here I I) (bY.cons (bY.cons (bY.cons (bY.cons bY.nil))))))<|Ja I<|Jn<|Je<|JT ?_)
 rfl
theorem T6 {lv:Value} {l:List Nat} {g:Nat->ByteArray} {f:FuncId} {first cap:List Value} [bW T_ f] {w:World} (h:Rd w lv 1 (ints (nz l))) (hn:l.length<=1000000)
  (cV:∀ i∈l,∀ w',aJ [] w w'->aj T_ f (first++[.q (i:Nat)]++cap) w' (.string (g i))) :
  a8 T_ 176 [lv,.func (.func f) first.toArray cap.toArray] w [] (fun _:Value=>True) id (fun v=>[row 9 1 v l.length (aR (l.map g))]):=by
 obtain ⟨a,cp,b,o,rfl,dd,bO,ha,hc⟩:=h;rw [dw,tJ] at *;unfold maxLen at bO;refine aS func176 I I ?_;refine Jr<|Ja I<|Ji<|Ja I<|Jn<|Jq<|Jr<|Jv I<|JI I<|Jv I<|Jn<|J0 ?_;refine aN 9 1 ?_;refine aV (ι:=Nat×Value) (fun x=>x.1<=l.length) (fun x=>[(10,.int .i64 x.1),(9,.int .i64 l.length),(8,.slice a l.length cp),(5,x.2),(1,.func (.func f) first.toArray cap.toArray)]) (fun x=>[row 9 1 x.2 x.1 (aR ((l.take x.1).map g))]) (fun x=>l.length-x.1) ?_ ?_
 ·apply aI (0,.z) (Zi _)
  case hs1=>exact bS
  case ht=>
   exact .h1 .nil
 rintro ⟨k,v⟩ hk;dsimp only at hk ⊢;by_cases aK:k<l.length
 ·have hlz:k<(nz l).length:=by rw [tJ];exact aK
  have cq:=ha (kb hlz);have hgz:(nz l)[k]=((l[k]:Nat):Int):=by simp [nz]
  have c0:w.cell? ⟨b,o+k*1,none⟩=some (.q (l[k]:Nat)):=by rw [<- hgz];exact (hc k _ (iV hlz)).2 0 _ I
  have jq:=cV _ (Zj aK);have Md:aR ((l.take (k+1)).map g)=aR ((l.take k).map g)++[.string (g l[k])]:=by
   rw [Zl aK,Zv,eT];rfl
  have nM:(aR ((l.take k).map g)).length=k*1:=by rw [dj,Zd,ZaN (by omega),Zar]
  generalize g l[k]=gk at jq Md
  (refine Jr<|JA I<|Jn<|Jq<|Jd I fun az=>Jk<|Jq<|J0<|Jr<|ab (fT cq az) I<|ab (ag (.of I) (At.base c0 I)) I<|Ja I<|Jn<|Jg<|Jv I<|Jv I<|Jv I ?_)
  refine ai bM I (fun w' aB=>(jq w' (Mem.keeps aB))) ?_;refine bj (aG (.o I .nil) I I I I) I (fun _ _=>?_);refine bu (.of I) (.of I) (.there .here) .here ak (by rfl) (dR I) (by rfl) (by rfl) (by rfl) ed (by rfl) ?_;intro v';refine Ja I<|Jx<|Jj<|Jt<|Jg<|JB I (by omega)<|Jv I<|Jn ?_;apply aH (k+1,v') (by show k+1<=l.length;omega) (by show l.length-(k+1)<l.length-k;omega)
  case hs1=>exact bS
  case ht=>
   show bB _ [row 9 1 v' (k+1) (aR ((l.take (k+1)).map g))] _;rw [Md];exact .h1 .nil
 ·obtain rfl:k=l.length:=by omega
  rw [ZK];refine Jr<|JA I<|Jn<|Jq<|Jc I fun az=>Jp<|Jl<|Jo<|Jt<|Jr<|Jv I<|Ja I<|Jn<|Je ?_
  with_reducible first|apply aO|apply aQ
  case he=>exact dB I I
  case hR=>
   intro w' aB;exact aD v trivial (by exact .h1 .nil) aB I
theorem Tb {s d t p:Value} (i:Nat) (hi:i<r.ti.length) {b1:Nat} {w:World} (h:RR w r s d t p) (hA:BR w b1 (RC r s d t p)) :
  aj T_ 177 [.q (i:Nat),.p b1] w (.string (dh r i)):=by
 have uA:dh r i=(r.ti[i]).nm:=by unfold dh;rw [nR hi]
 have hti:=h.ti;obtain ⟨a,cp,b,o',rfl,dd,bO,ha,hc⟩:=hti;rw [bV] at *;have cq:=ha (fm hi);have aC:=(hc i _ (ei hi)).2;unfold Ti.cells at aC;have c0:=aC 0 _ I;have c4:w.cell? ⟨b1,4,none⟩=some (.slice a r.ti.length cp):=hA 4 _ I;rw [uA];refine ah func177 I I ?_
 (refine Jr<|Ja I<|Ji<|bJ I I ae<|ab (ag (.of I) (At.base c4 I)) I<|Jv I<|ab (an (.of I) (.of I) cq (by omega) (by omega) aW) I<|bJ I I ae<|ab (ag (.of I) (At.base c0 I)) I<|Ja I<|Jn<|Je<|JT ?_)
 rfl
def Hh (r:Ro) (v:Int) (so de:ByteArray):Int:=if qY r v so de≠0 then qY r v so de else if (lf r v so de).isNone then 18 else 0
def Eg (r:Ro) (v:Int) (so de:ByteArray):List ByteArray:=if qY r v so de≠0 then [] else ((lf r v so de).getD []).map (dh r)
theorem Y6 {s d t p:Value} (v:Int) (so de:ByteArray) {w:World} (h:RR w r s d t p) (cZ:nk r):a8 T_ 70 [RA r s d t p,.q v,.string so,.string de] w [] (fun _:Value=>True) (fun x=>.tuple #[x,.q (Hh r v so de)]) (fun x=>[row 9 1 x (Eg r v so de).length (aR (Eg r v so de))]):=by
 obtain ⟨h1,h2,h3,h4⟩:=h.one;unfold RA;refine aS func70 I I ?_
 (refine Jr<|Jy I I fun _ _=>Ja I<|Ja I<|Jn<|Jq<|Jr<|ab (cm .here) I<|Jv I<|Jv I<|Jv I ?_)
 rename_i b4 tS;refine ai mi I (fun w' aB=>rC (s:=s) (d:=d) (t:=t) (p:=p) v so de (h.keeps aB.keeps) cZ) ?_
 (refine Ja I<|Ji<|Jv I<|JD I<|Jn<|gm I (fun az=>?_) fun az=>?_;refine Jr<|Jv I<|Ja I<|Ja I<|Jn<|Ju ?_;rotate_left;refine Jk<|Jr<|ab (cm .here) I<|Jv I<|Jv I<|Jv I ?_;rotate_right)
 ·have e1:Eg r v so de=[]:=if_pos az;have e2:Hh r v so de=qY r v so de:=if_pos az;rw [e1,e2];refine aN 9 1 ?_
  with_reducible first|apply aO|apply aQ
  case he=>exact gH I I I
  case hR=>
   intro w' aB;exact aD (.z) trivial (by exact .h1 .nil) aB I
 have e0:qY r v so de=0:=Zp.1 az;obtain ⟨dU,hv,oK,gq⟩:=Af e0;have e1:Eg r v so de=((lf r v so de).getD []).map (dh r):=if_neg az;have e2:Hh r v so de=if (lf r v so de).isNone then 18 else 0:=if_neg az
 clear az;rw [e1,e2];refine JN mi I (fun w1 aT=>Rz (s:=s) (d:=d) (t:=t) (p:=p) v so de (h.keeps aT.keeps) dU.wJ dU.val dU.SK oK gq) ?_;rintro ⟨fnd,⟨xv,xp,xf⟩,lu⟩ ⟨hx1,hx2,Xi⟩;dsimp only [Wy.cells] at hx1 hx2 Xi ⊢;dsimp only [id_eq,Zb,Za];cases fnd with
 | false =>
  rw [yU (hx2 I)]
  (refine Jv I<|JJ I I<|JJ I I<|Jz I I fun _ _=>ao (.of I) (.of I) .here I I (gO Xi I) (bz I) ak<|Ja I<|Jn<|Jq<|Jr<|Jv I<|JH I<|Jn<|cW (.of I)<|Jr<|Ja I<|Ja I<|Jn<|Ju ?_)
  refine aN 9 1 ?_
  with_reducible first|apply aO|apply aQ
  case he=>exact gH I I I
  case hR=>
   intro w' aB;exact aD (.z) trivial (by exact .h1 .nil) aB I
 | true =>
  obtain ⟨hl,mN⟩:=hx1 rfl;rw [yT hl];have hrw:(((some xp).getD []:List Nat).map (dh r)).length=xp.length:=by simp
  rw [hrw];have aK:=OB hl;have aes:xp.length<=6:=ZQ (Wn.rk hl.1) dU.len.2.2
  (refine Jv I<|JJ I I<|JJ I I<|Jz I I fun _ _=>ao (.of I) (.of I) .here I I (gO Xi I) (bz I) ak<|Ja I<|Jn<|Jq<|Jr<|Jv I<|JH I<|Jn<|ch (.of I)<|Jk<|Jr<|bJ I I ae<|JL I .here I<|ab (bD .nil (.o I .nil)) I ?_)
  with_reducible apply jH
  case hr=>exact bb
  case hd=>rfl
  case ht=>exact bB.nil
  case hc=>
   intro w1 fp aT _ hs1;obtain rfl:fp=[]:=hs1;have hA:BR w1 b4 [.int .i64 r.lv,.int .i64 r.ma,s,d,t,p]:=BR.of aT bL;have hR:=h.keeps aT.keeps;have hrd:Rd w1 xv 1 (ints (nz xp)):=by
    rcases mN with mN | mN
    ·exact Fy aT (by exact Take.there .here) mN
    ·cases mN;exact Rd.nil w1 1
   exact T6 (f:=177) (g:=dh r) (first:=[]) (cap:=[.p b4]) hrd (by omega) (fun i hi w2 fq=>Tb i (aK i hi) (hR.keeps fq) (hA.keeps fq))
  intro x _;dsimp only [id_eq,Zb,Za];refine Ja I<|Ja I<|Jn<|Je ?_
  with_reducible first|apply aO|apply aQ
  case he=>exact gH I I I
  case hR=>
   intro w' aB;exact aD x trivial (by exact .h1 .nil) aB I

def iu (r:Ro) (v:Int) (so:ByteArray):Nat->List Int
  | 0=>[oH r so]
  | k+1=>if ye r v so k&&!(iu r v so k).contains (ia r k).to then iu r v so k++[(ia r k).to] else iu r v so k
theorem CE (r:Ro) (v:Int) (so:ByteArray):∀ k,(iu r v so k).length<=k+1
  | 0=>Zy _
  | k + 1 => by
    have:=CE r v so k;unfold iu;split
    · rw [Zg];simp;omega
    · omega
theorem vY (r:Ro) (v:Int) (so:ByteArray):∀ k,(iu r v so k).Nodup
  | 0=>by simp [iu]
  | k + 1 => by
    have:=vY r v so k;unfold iu;split
    · rename_i h
      rw [Zm] at h;rw [ZG];refine ⟨this,by simp,fun a ha b hb e=>?_⟩;rw [ZL] at hb;subst hb;subst e;have:=h.2;rw [ZaI.2 ha] at this;cases this
    · exact this
theorem zk (r:Ro) (v:Int) (so:ByteArray) {m:Int}:∀ {a b:Nat},a<=b->m∈iu r v so a->m∈iu r v so b:=by
  intro a b h
  induction h with
  | refl=>exact id
  | step _ ih =>
    intro hm;have:=ih hm;rw [iu];split
    · exact ZF _ this
    · exact this
theorem K3 (r:Ro) (v:Int) (so:ByteArray) (k:Nat):oH r so∈iu r v so k:=zk r v so (Zi k) (by simp [iu])
theorem Pk {k t:Nat} (ht:t<k) (h:ye r v so t=true):(ia r t).to∈iu r v so k:=by
  refine zk r v so (show t+1<=k from ht) ?_;rw [iu];split
  · exact ZU _ (by simp)
  · rename_i hc
    rw [h,Zao,Zbb,Bool.not_eq_false] at hc;exact ZaI.1 hc
theorem AM {r:Ro} (dU:rQ r) {v:Int} {so:ByteArray} (hs:so∈cK r):∀ k,k<=r.ti.length->∀ m∈iu r v so k,(dG r r.po v so).Rc m
  | 0, _, m, hm => by
    rw [iu,ZL] at hm;subst hm;rw [<- oZ hs];exact Wn.Rc.FA
  | k + 1, hk, m, hm => by
    rw [iu] at hm;split at hm
    · rename_i h
      rcases Zz.1 hm with hm | hm
      · exact AM dU hs k (by omega) m hm
      · rw [ZL] at hm
        subst hm;rw [Zm,rE dU.wJ dU.val] at h;exact Wn.Rc.ca (N:=dG r r.po v so) (show k<r.ti.length from hk) h.1
    · exact AM dU hs k (by omega) m hm
theorem wz (dU:rQ r) {v:Int} {so:ByteArray} (hs:so∈cK r) {m:Int} (h:(dG r r.po v so).Rc m):0<=m/\m<r.ma:=by
  have VW:∀ i,i<r.ti.length->0<=(ia r i).to/\(ia r i).to<r.ma:=fun i hi=>by
    rw [nR hi];exact (dU.tm _ (Zj hi)).2.1
  cases h with
  | FA =>
    show 0<=kq r so/\kq r so<r.ma;rw [oZ hs];unfold oH;obtain ⟨hl,_⟩:=fD (l:=cK r) (s:=so) (dP hs);have Fb:(bC (cK r) so).toNat<r.sr.length:=by
                                                           have e:(cK r).length=r.sr.length:=by unfold cK;rw [Zd]
                                                           omega
    rw [Zk,Zc Fb];exact dU.sm _ (Zj Fb)
  | ca hi _=>exact VW _ hi
  | fe hi _ _=>exact VW _ hi
structure xT (r:Ro) (v:Int) (so:ByteArray) (L:List Int) (i:Nat):Prop where
  nd:L.Nodup
  rc:∀ m∈L,(dG r r.po v so).Rc m
  rt:∀ m∈iu r v so r.ti.length,m∈L
  dn:∀ j x,j<i->L[j]? = some x->∀ t,t<r.ti.length->Dv r v x t=true->(ia r t).to∈L
theorem GF {L:List Int} {n:Nat} (jw:L.Nodup) (h:∀ m∈L,0<=m/\m<(n:Nat)):L.length<=n:=by
  have:=lO n (L.map Int.toNat) (by
    show List.Pairwise (fun a b=>a≠b) (L.map Int.toNat)
    rw [Zbx];refine List.Pairwise.imp_of_mem (fun {a b} ha hb hne e=>hne ?_) jw;have:=h a ha;have:=h b hb;omega) (fun x hx=>by
    obtain ⟨m,hm,rfl⟩:=Zx.1 hx;have:=h m hm;omega)
  rwa [Zd] at this
theorem xT.B4 (dU:rQ r) {v:Int} {so:ByteArray} (hs:so∈cK r) {L:List Int} {i:Nat} (h:xT r v so L i):L.length<=4:=by
  have hl:=dU.lim;refine GF h.nd fun m hm=>?_;have:=wz dU hs (h.rc m hm);omega
theorem xT.begin (dU:rQ r) {v:Int} {so:ByteArray} (hs:so∈cK r):xT r v so (iu r v so r.ti.length) 0:=
  ⟨vY r v so _,AM dU hs _ (Zy _),fun _ h=>h,fun j x h=>absurd h (ZN _)⟩
theorem xT.done (dU:rQ r) {v:Int} {so:ByteArray} (hs:so∈cK r) {L:List Int} (h:xT r v so L L.length) (m:Int):m∈L↔(dG r r.po v so).Rc m:=by
  refine Wn.Ps (S:=fun m=>m∈L) ⟨?_,fun i hi hc=>?_⟩ (fun m hm=>h.rc m hm) m
  · show kq r so∈L
    rw [oZ hs];exact h.rt _ (K3 r v so _)
  · rcases hc with hc | ⟨hf,Bl⟩
    · rw [<- rE dU.wJ dU.val] at hc
      exact h.rt _ (Pk hi hc)
    · obtain ⟨j,hj,e⟩:=Zw Bl
      refine h.dn j _ hj (Zc hj) i hi ?_;rw [rr v so,e,hf];simp
def N2 (r:Ro) (v:Int) (so:ByteArray) (m:Int):Bool:=!((dG r r.po v so).all m ((dG r r.po v so).n+1) []).isEmpty
theorem Lc (r:Ro) (v:Int) (so:ByteArray) (m:Int):N2 r v so m=true↔(dG r r.po v so).Rc m:=by
  unfold N2;rw [Zbb,List.isEmpty_eq_false_iff];constructor
  · intro h
    obtain ⟨q,hq⟩:=List.exists_mem_of_ne_nil _ h;obtain ⟨h1,h2⟩:=Wn.vu (Wn.nW _) hq;rw [<- h2];exact Wn.WV h1
  · intro h e
    obtain ⟨p,hp,hf⟩:=Wn.W8 h;exact Wn.all_none e p hp hf
def xz (r:Ro) (v:Int) (so:ByteArray):List Int:=((List.range r.ma.toNat).map fun i:Nat=>(i:Int)).filter (N2 r v so)
theorem DD (r:Ro) (v:Int) (so:ByteArray):(xz r v so).Pairwise (fun a b=>a<b):=by
  unfold xz;refine List.Pairwise.filter _ ?_;rw [Zbx];exact List.pairwise_lt_range.imp fun h=>by omega
theorem Ng (dU:rQ r) {v:Int} {so:ByteArray} (hs:so∈cK r) {m:Int}:m∈xz r v so↔(dG r r.po v so).Rc m:=by
  unfold xz;rw [Zr,Lc];constructor
  · exact fun h=>h.2
  · intro h
    have:=wz dU hs h;exact ⟨Zx.2 ⟨m.toNat,ZW.2 (by omega),by omega⟩,h⟩
theorem Nc (dU:rQ r) {v:Int} {so:ByteArray} (hs:so∈cK r) {L S:List Int} (jw:L.Nodup) (hL:∀ m,m∈L↔(dG r r.po v so).Rc m) (hp:S.Perm L) (Qj:S.Pairwise (fun a b=>a<=b)):S=xz r v so:=by
  have hSn:S.Nodup:=hp.nodup_iff.2 jw;have hSs:S.Pairwise (fun a b=>a<b):=(Qj.and hSn).imp fun ⟨h1,h2⟩=>by omega
  refine oV (R:=fun a b:Int=>a<b) (fun a b h h'=>by omega) hSs (DD r v so) ?_;refine (ZaO hSn ((DD r v so).imp fun h=>by omega)).2 fun m=>?_;rw [hp.mem_iff,hL,Ng dU hs]
end Go.Proofs.A1
namespace Go.Proofs
open Go.Shelf
def Tryz.C4:Go.Shelf.Ren:=⟨fun | 189=>156 | 125=>245 | 257=>244 | 128=>312 | 129=>313 | 294=>303 | 295=>304 | 296=>305 | 297=>306 | 298=>307 | 299=>308 | 216=>309 | 300=>310 | 301=>311 | 328=>343 | 329=>344 | 330=>345 | 331=>346 | 332=>347 | 215=>342 | 343=>367 | n=>n,fun | 28=>49 | 3=>3 | 46=>318 | 0=>0 | 51=>381 | 53=>383 | 4=>4 | 183=>374 | 182=>373 | 131=>272 | 5=>5 | 9=>9 | 218=>409 | 222=>413 | 228=>428 | 229=>359 | n=>n,fun | n=>n⟩
theorem Tryz.GB:Go.Proofs.Lays.n189 Tryz.prog Tryz.C4:={
 mixed:=by kernel_rfl
 f125:=Tryz.func245.trans (congrArg some (by kernel_rfl))
 f128:=Tryz.func312.trans (congrArg some (by kernel_rfl))
 f129:=Tryz.func313.trans (congrArg some (by kernel_rfl))
 f189:=Tryz.func156.trans (congrArg some (by kernel_rfl))
 f215:=Tryz.func342.trans (congrArg some (by kernel_rfl))
 f216:=Tryz.func309.trans (congrArg some (by kernel_rfl))
 f257:=Tryz.func244.trans (congrArg some (by kernel_rfl))
 f294:=Tryz.func303.trans (congrArg some (by kernel_rfl))
 f295:=Tryz.func304.trans (congrArg some (by kernel_rfl))
 f296:=Tryz.func305.trans (congrArg some (by kernel_rfl))
 f297:=Tryz.func306.trans (congrArg some (by kernel_rfl))
 f298:=Tryz.func307.trans (congrArg some (by kernel_rfl))
 f299:=Tryz.func308.trans (congrArg some (by kernel_rfl))
 f300:=Tryz.func310.trans (congrArg some (by kernel_rfl))
 f301:=Tryz.func311.trans (congrArg some (by kernel_rfl))
 f328:=Tryz.func343.trans (congrArg some (by kernel_rfl))
 f329:=Tryz.func344.trans (congrArg some (by kernel_rfl))
 f330:=Tryz.func345.trans (congrArg some (by kernel_rfl))
 f331:=Tryz.func346.trans (congrArg some (by kernel_rfl))
 f332:=Tryz.func347.trans (congrArg some (by kernel_rfl))
 f343:=Tryz.func367.trans (congrArg some (by kernel_rfl))
 t0:=Tryz.underlying0
 a0:=Tryz.isAgg0
 z0:=Tryz.sizeOf0
 v0:=Tryz.zeroValue0
 t3:=Tryz.underlying3
 a3:=Tryz.isAgg3
 z3:=Tryz.sizeOf3
 v3:=Tryz.zeroValue3
 t4:=Tryz.underlying4
 a4:=Tryz.isAgg4
 z4:=Tryz.sizeOf4
 v4:=Tryz.zeroValue4
 t5:=Tryz.underlying5
 a5:=Tryz.isAgg5
 z5:=Tryz.sizeOf5
 v5:=Tryz.zeroValue5
 t9:=Tryz.underlying9
 a9:=Tryz.isAgg9
 z9:=Tryz.sizeOf9
 v9:=Tryz.zeroValue9
 t28:=Tryz.underlying49
 a28:=Tryz.isAgg49
 z28:=Tryz.sizeOf49
 v28:=Tryz.zeroValue49
 t46:=Tryz.underlying318
 a46:=Tryz.isAgg318
 z46:=Tryz.sizeOf318
 v46:=Tryz.zeroValue318
 t51:=Tryz.underlying381
 a51:=Tryz.isAgg381
 z51:=Tryz.sizeOf381
 v51:=Tryz.zeroValue381
 t53:=Tryz.underlying383
 a53:=Tryz.isAgg383
 z53:=Tryz.sizeOf383
 v53:=Tryz.zeroValue383
 t131:=Tryz.underlying272
 a131:=Tryz.isAgg272
 z131:=Tryz.sizeOf272
 v131:=Tryz.zeroValue272
 t182:=Tryz.underlying373
 a182:=Tryz.isAgg373
 z182:=Tryz.sizeOf373
 v182:=Tryz.zeroValue373
 t183:=Tryz.underlying374
 a183:=Tryz.isAgg374
 z183:=Tryz.sizeOf374
 v183:=Tryz.zeroValue374
 t218:=Tryz.underlying409
 a218:=Tryz.isAgg409
 z218:=Tryz.sizeOf409
 v218:=Tryz.zeroValue409
 t222:=Tryz.underlying413
 a222:=Tryz.isAgg413
 z222:=Tryz.sizeOf413
 v222:=Tryz.zeroValue413
 t228:=Tryz.underlying428
 a228:=Tryz.isAgg428
 z228:=Tryz.sizeOf428
 v228:=Tryz.zeroValue428
 t229:=Tryz.underlying359
 a229:=Tryz.isAgg359
 z229:=Tryz.sizeOf359
 v229:=Tryz.zeroValue359 }
open Go.Sort Go.RowKit in
theorem Tryz.slices_Sort_int (bE off cap:Nat) (zs:List Int) (w:World) (hH:Holds (Value.int .i64) w bE off zs.toArray) (hblk:bE<w.heap.size) (hsz:zs.length<4611686018427387904) :
  Calls Tryz.prog 156 #[.slice (some ⟨bE,off,none⟩) zs.length cap] w fun e w'=>
   e=.returned (.tuple #[])/\∃ n os,w'=grow (putRow (Value.int .i64) (Sort.ahead w n) bE off (zs.mergeSort fun x y=>decide (x<=y)).toArray) os:=Any.slices_Sort_int Tryz.GB bE off cap zs w hH hblk hsz
end Go.Proofs
namespace Go.Proofs.A1
open Go Go.SL
open Tryz
open Tryz renaming prog->T_
theorem P4 (l:List Int):∀ r∈ints l,r.length=1:=fun r hr=>by obtain ⟨x,_,rfl⟩:=Zx.1 hr;rfl
theorem lF {c:Cx} {hs hs':List bd} {w:World} {l:List Int} {E:TypeId} {v:Value} {n:Nat} (hm:Mem c hs w) (ht:Take hs (row E 1 v n (l.map (Value.int .i64))) hs') (hn:l.length=n):Rd w v 1 (ints l):=hm.o9 ht (zG l) (P4 l) (by rw [dw,hn])
set_option maxHeartbeats 1000000 in
theorem Gg {r:Ro} {s d t p:Value} (v:Int) (so:ByteArray) {w:World} (h:RR w r s d t p) (cZ:r.ti.length<=1000) (Uv:so∈cK r) :
  a8 T_ 152 [RA r s d t p,.q v,.string so] w [] (fun _:Value=>True) id (fun x=>[row 3 1 x (iu r v so r.ti.length).length ((iu r v so r.ti.length).map (Value.int .i64))]):=by
 obtain ⟨h1,h2,h3,h4⟩:=h.one;have hti:=h.ti;obtain ⟨a,cp,b,o',rfl,dd,bO,ha,hc⟩:=hti;have Us:=h.sr;obtain ⟨a2,oS,b2,o2,rfl,kd,eU,jV,ke⟩:=Us;rw [bV] at *;rw [cy] at *;unfold maxLen at bO eU;obtain ⟨i0,vB⟩:∃ i:Nat,bC (cK r) so=(i:Nat):=⟨(bC (cK r) so).toNat,by have:=dP Uv;omega⟩;have Fc:i0<r.sr.length:=by
  obtain ⟨hl,_⟩:=fD (l:=cK r) (s:=so) (by omega);rw [vB,ZH] at hl;unfold cK at hl;rwa [Zd] at hl
 have Bj:oH r so=(r.sr[i0]).mx:=by unfold oH;rw [vB,ZH,Zk,Zc Fc];rfl
 have hsrc:∀ w',aJ [] w w'->aj T_ 180 [.agg #[.q r.lv,.q r.ma,.slice a2 r.sr.length oS,d,.slice a r.ti.length cp,p],.string so] w' (.q (i0:Nat)):=fun w' hk=>vB ▸ oY so (h.keeps hk)
 have qI:=jV (iF Fc);have fF:=(ke i0 _ (fZ Fc)).2;unfold Sr.cells at fF;have V2:=fF 1 _ I;unfold RA;refine aS func152 I I ?_;refine Jr<|Jy I I fun _ _=>Ja I<|Jn<|Jq ?_;rename_i b3 tr
 with_reducible refine cY 9 (by kernel_rfl) ?_
 (refine ar k6 I<|ar (gX .here) I<|ar (cm .here) I<|ar k8 I<|aX bb I (fun w' aB=>(hsrc w' (Mem.keeps aB)))<|ar (an (.of I) (.of I) qI (by omega) (by omega) aW) I<|ar k6 I<|ar (ag (.of I) (At.base V2 I)) I<|eC (aG (.o I .nil) I I I I) I I ?_)
 with_reducible refine dA I fun bq ml=>?_
 rw [<- Bj]
 (refine Ja I<|Jn<|Jq<|Jr<|bJ I I ae<|JL I (.there .here) I<|JI I<|Jv I<|Jn<|J0 ?_)
 refine bU (g:=bq) (E:=3) (ys:=[.q (oH r so)]) 1 1 (by exact .here) I I I ?_
 refine aV (ι:=Nat×Value) (fun x=>x.1<=r.ti.length) (fun x=>[(22,.q (x.1:Nat)),(21,.q (r.ti.length:Nat)),(20,.slice a r.ti.length cp),(7,x.2),(3,.p b3),(1,.q v),(2,.string so)])
  (fun x=>[row 3 1 x.2 (iu r v so x.1).length ((iu r v so x.1).map (Value.int .i64)),JP b3 r (.slice a2 r.sr.length oS) d (.slice a r.ti.length cp) p]) (fun x=>r.ti.length-x.1) ?_ ?_
 ·apply aI (0,.w bq 1 1) (Zi _)
  case hs1=>exact bS
  case ht=>
   exact .h2 .nil
 rintro ⟨k,ov⟩ hk;dsimp only at hk ⊢;have Xw:=CE r v so k;by_cases aK:k<r.ti.length
 ·have cq:=ha (fm aK);have aC:=(hc k _ (ei aK)).2;unfold Ti.cells at aC;have Bd:=nR aK;have uA:dh r k=(r.ti[k]).nm:=by unfold dh;rw [Bd]
  have hrs:iu r v so (k+1)=if ye r v so k&&!(iu r v so k).contains (r.ti[k]).to then iu r v so k++[(r.ti[k]).to] else iu r v so k:=by rw [iu,Bd]
  generalize hL:iu r v so k=L at Xw hrs ⊢;have D8:L.length=L.length:=rfl;have Dq:∀ w',aJ [] w w'->aj T_ 121 [.agg #[.q r.lv,.q r.ma,.slice a2 r.sr.length oS,d,.slice a r.ti.length cp,p],.q v,.string (r.ti[k]).nm] w' (.bool (gL r.po v (r.ti[k]).nm)):=fun w' hk=>rF v _ (h.keeps hk)
  have rL:∀ w',aJ [] w w'->aj T_ 126 [.agg #[.q r.lv,.q r.ma,.slice a2 r.sr.length oS,d,.slice a r.ti.length cp,p],.q v,.string (r.ti[k]).nm] w' (.string (j4 r v (r.ti[k]).nm)):=fun w' hk=>qD v _ (h.keeps hk) (by omega)
  have MD:∀ (w':World),Rd w' ov 1 (ints L)->aj T_ 154 [ov,.q (r.ti[k]).to] w' (.bool (L.contains (r.ti[k]).to)):=fun w' hr=>l9 _ hr
  have skip:(ye r v so k&&!L.contains (r.ti[k]).to)=false->iu r v so (k+1)=L:=fun e=>by rw [hrs,e];rfl
  cases B3:gL r.po v (r.ti[k]).nm with
  | false =>
   have Dr:∀ w',aJ [] w w'->aj T_ 121 [.agg #[.q r.lv,.q r.ma,.slice a2 r.sr.length oS,d,.slice a r.ti.length cp,p],.q v,.string (r.ti[k]).nm] w' (.bool false):=fun w' hk=>B3 ▸ Dq w' hk
   have Xu:=skip (by unfold ye;rw [uA,B3];rfl)
   (refine Jr<|JA I<|Jn<|Jq<|Jd I fun az=>Jk<|Jq<|J0<|Jr<|ab (fT cq az) I<|ab (iO (eZ.base aC I)) I<|Jz I I fun _ _=>ao (.of I) (.of I) .here I I (fx I I I) (bz I) ak<|Ji<|ab (cm bL) I<|Jv I<|bJ I I ae<|JL I .here I<|ai ef I (fun w' aB=>(Dr w' (Mem.keeps aB)))<|Jv I<|aF I I inferInstance (fun hg br=>(bK (.of I) bL ak (by rfl))) I<|iQ I I I I<|aF I I inferInstance (fun hg br=>(aq (.of I) ae)) I<|aF I I inferInstance (fun hg br=>(ag (.bF br I) (At.lit .here I))) I<|ew I I I I<|iQ I I I I<|ew I I I I<|ab (c8 (.of I) (.of I) (.of I) I) I<|Jv I<|iQ I I I I<|aF I I inferInstance (fun hg br=>(aq (.of I) ae)) I<|aF I I inferInstance (fun hg br=>(ag (.bF br I) (At.lit .here I))) I<|ew I I I I<|aF I I inferInstance (fun hg br=>(dN (.bF br I))) I<|ab (c8 (.of I) (.of I) (.of I) I) I<|Jn<|ch (.of I)<|Jw<|Jj<|Jt<|Jg<|JB I (by omega)<|Jv I<|Jn ?_)
   apply aH (k+1,ov) (show k+1<=r.ti.length by omega) (show r.ti.length-(k+1)<r.ti.length-k by omega)
   case hs1=>exact bS
   case ht=>
    rw [Xu];exact .cons (.there .here) (.cons (.there .here) .nil)
  | true =>
   have Dr:∀ w',aJ [] w w'->aj T_ 121 [.agg #[.q r.lv,.q r.ma,.slice a2 r.sr.length oS,d,.slice a r.ti.length cp,p],.q v,.string (r.ti[k]).nm] w' (.bool true):=fun w' hk=>B3 ▸ Dq w' hk
   by_cases Be:j4 r v (r.ti[k]).nm=so
   ·cases Dp:L.contains (r.ti[k]).to with
    | true =>
     have QA:∀ (w':World),Rd w' ov 1 (ints L)->aj T_ 154 [ov,.q (r.ti[k]).to] w' (.bool true):=fun w' hr=>Dp ▸ MD w' hr
     have Xu:=skip (by rw [Dp,Bool.not_true,Bool.and_false])
     (refine Jr<|JA I<|Jn<|Jq<|Jd I fun az=>Jk<|Jq<|J0<|Jr<|ab (fT cq az) I<|ab (iO (eZ.base aC I)) I<|Jz I I fun _ _=>ao (.of I) (.of I) .here I I (fx I I I) (bz I) ak<|Ji<|ab (cm bL) I<|Jv I<|bJ I I ae<|JL I .here I<|ai ef I (fun w' aB=>(Dr w' (Mem.keeps aB)))<|Jv I<|JK I I<|ab (cm bL) I<|JK I I<|Jv I<|JK I I<|bJ I I ae<|JK I I<|JL I .here I<|JK I I<|ai ef I (fun w' aB=>(rL w' (Mem.keeps aB)))<|JK I I<|Jv I<|JK I I<|ab (wh (.of I) (.of I) Be) I<|ab (fA (.of I) (.of I) (.of I) I) I<|Jv I<|JK I I<|Jv I<|JK I I<|bJ I I ae<|JK I I<|JL I .here I<|JK I I<|ai bb I (fun w' aB=>(QA w' (lF aB (.there .here) D8)))<|JK I I<|JH I<|ab (c8 (.of I) (.of I) (.of I) I) I<|Jn<|ch (.of I)<|Jw<|Jj<|Jt<|Jg<|JB I (by omega)<|Jv I<|Jn ?_)
     apply aH (k+1,ov) (show k+1<=r.ti.length by omega) (show r.ti.length-(k+1)<r.ti.length-k by omega)
     case hs1=>exact bS
     case ht=>
      rw [Xu];exact .cons (.there .here) (.cons (.there .here) .nil)
    | false =>
     have QA:∀ (w':World),Rd w' ov 1 (ints L)->aj T_ 154 [ov,.q (r.ti[k]).to] w' (.bool false):=fun w' hr=>Dp ▸ MD w' hr
     have rK:iu r v so (k+1)=L++[(r.ti[k]).to]:=by rw [hrs,Dp];unfold ye;rw [uA,B3,decide_eq_true Be];rfl
     have UJ:(L.map (Value.int .i64)).length=L.length*1:=by rw [Zd,Zar]
     (refine Jr<|JA I<|Jn<|Jq<|Jd I fun az=>Jk<|Jq<|J0<|Jr<|ab (fT cq az) I<|ab (iO (eZ.base aC I)) I<|Jz I I fun _ _=>ao (.of I) (.of I) .here I I (fx I I I) (bz I) ak<|Ji<|ab (cm bL) I<|Jv I<|bJ I I ae<|JL I .here I<|ai ef I (fun w' aB=>(Dr w' (Mem.keeps aB)))<|Jv I<|JK I I<|ab (cm bL) I<|JK I I<|Jv I<|JK I I<|bJ I I ae<|JK I I<|JL I .here I<|JK I I<|ai ef I (fun w' aB=>(rL w' (Mem.keeps aB)))<|JK I I<|Jv I<|JK I I<|ab (wh (.of I) (.of I) Be) I<|ab (fA (.of I) (.of I) (.of I) I) I<|Jv I<|JK I I<|Jv I<|JK I I<|bJ I I ae<|JK I I<|JL I .here I<|JK I I<|ai bb I (fun w' aB=>(QA w' (lF aB (.there .here) D8)))<|JK I I<|JH I<|ab (fA (.of I) (.of I) (.of I) I) I<|Jn<|cW (.of I)<|Jg<|Jv I<|bJ I I ae<|JL I .here I<|bj (aG (.o I .nil) I I I I) I fun _ _=>?_)
     refine bu (.of I) (.of I) bL .here ak (by rfl) (dR I) (by rfl) (by rfl) (by rfl) ed (by rfl) ?_;intro v';refine Ja I<|Jx<|Jj<|Jt<|Jg<|JB I (by omega)<|Jv I<|Jn ?_;apply aH (k+1,v') (show k+1<=r.ti.length by omega) (show r.ti.length-(k+1)<r.ti.length-k by omega)
     case hs1=>exact bS
     case ht=>
      rw [rK,Zg,Zv];exact .h1 (.cons bL .nil)
   ·have Xu:=skip (by unfold ye;rw [uA,B3,decide_eq_false Be];rfl)
    (refine Jr<|JA I<|Jn<|Jq<|Jd I fun az=>Jk<|Jq<|J0<|Jr<|ab (fT cq az) I<|ab (iO (eZ.base aC I)) I<|Jz I I fun _ _=>ao (.of I) (.of I) .here I I (fx I I I) (bz I) ak<|Ji<|ab (cm bL) I<|Jv I<|bJ I I ae<|JL I .here I<|ai ef I (fun w' aB=>(Dr w' (Mem.keeps aB)))<|Jv I<|JK I I<|ab (cm bL) I<|JK I I<|Jv I<|JK I I<|bJ I I ae<|JK I I<|JL I .here I<|JK I I<|ai ef I (fun w' aB=>(rL w' (Mem.keeps aB)))<|JK I I<|Jv I<|JK I I<|ab (CN (.of I) (.of I) Be) I<|ab (c8 (.of I) (.of I) (.of I) I) I<|Jv I<|iQ I I I I<|aF I I inferInstance (fun hg br=>(aq (.of I) ae)) I<|aF I I inferInstance (fun hg br=>(ag (.bF br I) (At.lit .here I))) I<|ew I I I I<|aF I I inferInstance (fun hg br=>(dN (.bF br I))) I<|ab (c8 (.of I) (.of I) (.of I) I) I<|Jn<|ch (.of I)<|Jw<|Jj<|Jt<|Jg<|JB I (by omega)<|Jv I<|Jn ?_)
    apply aH (k+1,ov) (show k+1<=r.ti.length by omega) (show r.ti.length-(k+1)<r.ti.length-k by omega)
    case hs1=>exact bS
    case ht=>
     rw [Xu];exact .cons (.there .here) (.cons (.there .here) .nil)
 ·obtain rfl:k=r.ti.length:=by omega
  refine Jr<|JA I<|Jn<|Jq<|Jc I fun az=>Jp<|Jl<|Jo<|Jt<|Jr<|Jv I<|Ja I<|Jn<|Je ?_
  with_reducible first|apply aO|apply aQ
  case he=>exact dB I I
  case hR=>
   intro w' aB;exact aD ov trivial (by exact .h1 .nil) aB I
end Go.Proofs.A1
