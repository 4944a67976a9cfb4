/- Parts of the proof: GkRegO GkCopy GkZ K2 K3 KZz GkPool K4. -/
import Derived.Test.YteonnodafmegaaaGreatDoorFM03
import Derived.Lib.AppendZerosOnto
import Derived.Test.YteonnodafmegaaaGreatDoorFM01
import Derived.Laws.RangeAny
import Derived.Laws.RangeString
import Derived.Test.YteonnodafmegaaaGreatDoorFM02
set_option linter.unusedSectionVars false
set_option linter.unusedVariables false
set_option linter.unusedSimpArgs false
namespace Go.SL
open Go
inductive Step where
 | rel (R:Rel)
 | new (V:Nat->Value) (ob:Obj)
def Step.r:Step->Rel
 | .rel R=>R
 | .new V ob=>Ez V ob
section
variable {P:Program} {r:Option Nat} {c:Cx} {D:List Nat} {sl kd:aL} {rl lJ:fu} {hs:List bd} {Q:Exit->Act->World->Prop} {l:List Oper} {ops:Array Oper} {m:Nat} {S:List Step}
inductive n9 (P:Program) (c:Cx) (hs:List bd) (ops:Array Oper):List Oper->aL->fu->List Step->aL->fu->Prop
 | nil {sl:aL} {rl:fu}:n9 P c hs ops [] sl rl [] sl rl
 | val {o:Oper} {l:List Oper} {sl kd:aL} {rl lJ:fu} {d:Nat} {V:Value} {S:List Step} (hd:o.dst=some d) (fO:d<c.nt) (h:uZ P c hs ops sl rl o (.val V)) (t:n9 P c hs ops l ((d,V)::sl) rl S kd lJ) :
   n9 P c hs ops (o::l) sl rl (.rel (.val V)::S) kd lJ
 | new {o:Oper} {l:List Oper} {sl kd:aL} {rl lJ:fu} {d:Nat} {V:Nat->Value} {ob:Obj} {S:List Step} (hd:o.dst=some d) (fO:d<c.nt) (hn:c5 sl d=none) (hg:o.guard=none)
   (hr:ql P c sl hs o V ob) (t:n9 P c hs ops l sl ((d,Ez V ob)::rl) S kd lJ):n9 P c hs ops (o::l) sl rl (.new V ob::S) kd lJ
theorem n9.Wf {sl kd:aL} {rl lJ:fu} (h:n9 P c hs ops l sl rl S kd lJ):ux P c hs ops l sl rl (S.map Step.r) kd lJ:=by
 induction h with
 | nil=>exact .nil
 | val hd fO h _ ih=>exact .val hd fO h ih
 | @new o l sl kd rl lJ d V ob S hd fO hn hg hr _ ih =>
  refine .rel hd fO hn (pq hg fun a w h1 _ h3=>?_) ih;unfold yP;rw [hr.2 a w h1 h3];exact ⟨.alloc _ _ _,w.heap.size,I,World.alloc_heap_new w ob⟩
theorem n9.UY {sl kd:aL} {rl lJ:fu} (h:n9 P c hs ops l sl rl S kd lJ) :
  ∀ (i : Nat) (o : Oper) (V : Nat -> Value) (ob : Obj), l[i]? = some o -> S[i]? = some (.new V ob) -> ∃ vp, o.guard = none /\ ql P c vp hs o V ob /\
   (∀ t v,c5 vp t=some v->(∃ (j:Nat) (oj:Oper),j<i/\l[j]? = some oj/\oj.dst=some t/\(S.map Step.r)[j]? = some (.val v))\/((∀ (j:Nat) (oj:Oper),j<i->l[j]? = some oj->oj.dst≠some t)/\c5 sl t=some v)):=by
 induction h with
 | nil=>intro i o V ob h;simp at h
 | @val o0 l sl kd rl lJ d V0 S hd fO a7 t ih =>
  intro i o V ob ho hS;cases i with
  | zero=>simp at hS
  | succ i =>
   obtain ⟨vp,hg,hr,h1⟩:=ih i o V ob (by simpa using ho) (by simpa using hS);refine ⟨vp,hg,hr,fun t v hv=>?_⟩;rcases h1 t v hv with ⟨j,oj,hj,jJ,jh,ke⟩ | ⟨oN,oe⟩
   ·exact .inl ⟨j+1,oj,by omega,by simpa using jJ,jh,by simpa using ke⟩
   ·by_cases yE:d=t
    ·subst yE;rw [gy] at oe;cases oe;exact .inl ⟨0,o0,by omega,I,hd,I⟩
    ·rw [gr yE] at oe;refine .inr ⟨fun j oj hj jJ=>?_,oe⟩;cases j with
     | zero=>simp at jJ;subst jJ;rw [hd];simp [yE]
     | succ j=>exact oN j oj (by omega) (by simpa using jJ)
 | @new o0 l sl kd rl lJ d V0 ob0 S hd fO hn hg0 NB t ih =>
  intro i o V ob ho hS;cases i with
  | zero =>
   simp at ho hS;subst ho;obtain ⟨rfl,rfl⟩:=hS;exact ⟨sl,hg0,NB,fun t v hv=>.inr ⟨fun j _ hj=>by omega,hv⟩⟩
  | succ i =>
   obtain ⟨vp,hg,hr,h1⟩:=ih i o V ob (by simpa using ho) (by simpa using hS);refine ⟨vp,hg,hr,fun t v hv=>?_⟩;rcases h1 t v hv with ⟨j,oj,hj,jJ,jh,ke⟩ | ⟨oN,oe⟩
   ·exact .inl ⟨j+1,oj,by omega,by simpa using jJ,jh,by simpa using ke⟩
   ·have yE:d≠t:=fun e=>by subst e;rw [hn] at oe;cases oe
    refine .inr ⟨fun j oj hj jJ=>?_,oe⟩;cases j with
    | zero=>simp at jJ;subst jJ;rw [hd];simp [yE]
    | succ j=>exact oN j oj (by omega) (by simpa using jJ)
def sf (β:Nat->Nat) (lst:Nat->Bool):List Step->Nat->List bd
 | [],_=>[]
 | .new _ ob::S,i=>if lst i then bz (β i) ob::sf β lst S (i+1) else sf β lst S (i+1)
 | .rel _::S,i=>sf β lst S (i+1)
theorem qk {β β':Nat->Nat} {lst oC:Nat->Bool}:∀ {S:List Step} {i:Nat},(∀ j V ob,S[j]? = some (.new V ob)->lst (i+j)=oC (i+j)/\(lst (i+j)=true->β (i+j)=β' (i+j)))->sf β lst S i=sf β' oC S i
 | [],_,_=>rfl
 | .rel _ :: S, i, h => by
  unfold sf;exact qk fun j V ob hj=>by have:=h (j+1) V ob (by simpa using hj);rwa [show i+(j+1)=i+1+j from by omega] at this
 | .new V ob :: S, i, h => by
  have h0:=h 0 V ob I;have ih:sf β lst S (i+1)=sf β' oC S (i+1):=qk fun j V ob hj=>by have:=h (j+1) V ob (by simpa using hj);rwa [show i+(j+1)=i+1+j from by omega] at this
  simp only [Zaz] at h0;unfold sf;rw [ih,<- h0.1];by_cases hl:lst i=true
  ·rw [if_pos hl,if_pos hl,h0.2 hl]
  ·rw [if_neg hl,if_neg hl]
theorem BN {β β':Nat->Nat} {lst oC:Nat->Bool} {k b:Nat} {V:Nat->Value} {ob:Obj}:∀ {S:List Step} {i:Nat},S[k]? = some (.new V ob)->lst (i+k)=false->oC (i+k)=true->β' (i+k)=b->(∀ j,j≠i+k->oC j=lst j/\β' j=β j) ->
  (bz b ob::sf β lst S i).Perm (sf β' oC S i)
 | [],_,h,_,_,_,_=>by simp at h
 | .rel _ :: S, i, h, h1, h2, h3, h4 => by
  cases k with
  | zero=>simp at h
  | succ k =>
   unfold sf;refine BN (k:=k) (V:=V) (by simpa using h) ?_ ?_ ?_ ?_
   all_goals rw [show i+1+k=i+(k+1) from by omega];assumption
 | .new V0 ob0 :: S, i, h, h1, h2, h3, h4 => by
  cases k with
  | zero =>
   simp at h;obtain ⟨rfl,rfl⟩:=h;have e:sf β lst S (i+1)=sf β' oC S (i+1):=qk fun j V ob hj=>by
    obtain ⟨e1,e2⟩:=h4 (i+1+j) (by omega);exact ⟨e1.symm,fun _=>e2.symm⟩
   simp only [Zaz] at h1 h2 h3;unfold sf;rw [if_neg (by simp [h1]),if_pos h2,h3,e]
  | succ k =>
   have ih:(bz b ob::sf β lst S (i+1)).Perm (sf β' oC S (i+1)):=by
    refine BN (k:=k) (V:=V) (by simpa using h) ?_ ?_ ?_ ?_
    all_goals rw [show i+1+k=i+(k+1) from by omega];assumption
   obtain ⟨e1,e2⟩:=h4 i (by omega);unfold sf;rw [e1,e2];by_cases hl:lst i=true
   ·rw [if_pos hl,if_pos hl];exact (List.Perm.swap _ _ _).trans (ih.cons _)
   ·rw [if_neg hl,if_neg hl];exact ih
theorem cr.perm {h:Nat->Option Obj} {l1 l2:List bd} (hp:l1.Perm l2):∀ {fp:List Nat},cr h l1 fp->∃ mH,cr h l2 mH/\fp.Perm mH:=by
 induction hp with
 | nil=>intro fp hf;exact ⟨fp,hf,.refl _⟩
 | cons A _ ih =>
  rintro fp ⟨f1,f2,rfl,h1,h2⟩;obtain ⟨g,hg,YO⟩:=ih h2;exact ⟨f1++g,⟨f1,g,I,h1,hg⟩,YO.append_left f1⟩
 | swap A B l =>
  rintro fp ⟨f1,_,rfl,h1,f2,f3,rfl,h2,h3⟩;refine ⟨f2++(f1++f3),⟨f2,f1++f3,I,h2,f1,f3,I,h1,h3⟩,?_⟩;rw [<- Zh,<- Zh];exact List.perm_append_comm.append_right f3
 | trans _ _ ih1 ih2 =>
  intro fp hf;obtain ⟨g,hg,h1⟩:=ih1 hf;obtain ⟨g',hg',h2⟩:=ih2 hg;exact ⟨g',hg',h1.trans h2⟩
theorem Mem.perm {c:Cx} {l1 l2:List bd} {w:World} (h:Mem c l1 w) (hp:l1.Perm l2):Mem c l2 w:=by
 obtain ⟨k,fp,hn,hs,hb⟩:=h;obtain ⟨g,hg,YO⟩:=hs.perm hp;exact ⟨k,g,YO.nodup_iff.1 hn,hg,fun b dM=>hb b (YO.mem_iff.2 dM)⟩
def Iw (c:Cx) (D:List Nat) (hs:List bd) (l:List Oper) (S:List Step) (listed:Array Bool) (a:Act) (w:World):Prop:=
 ∃ β : Nat -> Nat, Mem c (sf β (fun i => listed.getD i false) S 0 ++ (hs ++ nE D)) w /\ (∀ i, c.w0.heap.size <= β i \/ ¬ Ls listed i \/ ∀ V ob, S[i]? ≠ some (.new V ob)) /\
  ∀ (i:Nat) (o:Oper) (d:Nat) (V:Nat->Value) (ob:Obj),l[i]? = some o->o.dst=some d->S[i]? = some (.new V ob)->Ls listed i->a.tmps[d]? = some (V (β i))
theorem OW (hc:U3 l m) (hpO:n9 P c hs l.toArray (l.take m) sl [] S kd lJ) {a0:Act} (h0:bU sl a0) (HZ:a0.tmps.size=c.nt)
  (tail:∀ listed a w,(∀ i,i<m->Ls listed i)->St c D kd hs a w->Iw c D hs (l.take m) S listed a w->WL P r l.toArray Q (l.drop m) a w) :
  ∀ (fuel:Nat) (listed:Array Bool) (a:Act) (w:World),Inv1 c D hs l m (S.map Step.r) a0 fuel listed a w->Iw c D hs (l.take m) S listed a w->wpAnyIn (FR r) 0 P .any l.toArray Q fuel listed a w:=by
 have hp:=hpO.Wf;have sU:=hp.end_;have dP:∀ (j:Nat) (o:Oper),j<m->l[j]? = some o->(l.take m)[j]? = some o:=fun j o hj ho=>by rw [ZC,if_pos hj];exact ho
 have fD:∀ (j:Nat) (o:Oper),(l.take m)[j]? = some o->j<m/\l[j]? = some o:=fun j o ho=>by
  rw [ZC] at ho;split at ho
  ·exact ⟨by assumption,ho⟩
  ·cases ho
 have mf:∀ fuel listed a w,Inv1 c D hs l m (S.map Step.r) a0 fuel listed a w->Iw c D hs (l.take m) S listed a w->(∀ i,i<m->Ls listed i)->wpAnyIn (FR r) 0 P .any l.toArray Q fuel listed a w:=by
  intro fuel listed a w hI hO dK;have hL:∀ i,i<l.length->(Ls listed i↔i<m):=fun i _=>⟨fun h=>ZM fun hm=>hI.hi i hm h,dK i⟩
  obtain ⟨U,uU,oR,qV⟩:=hI.left;have iH:U.Perm (List.range' m (l.length-m)):=by
   rw [Zaw uU (Zbt)];intro i;rw [oR i,ZaL];constructor
   ·rintro ⟨h1,h2⟩;exact ⟨ZaS fun h=>h2 (dK i h),by omega⟩
   ·rintro ⟨h1,h2⟩;exact ⟨by omega,hI.hi i h1⟩
  have hlen:fuel=l.length-m:=by rw [<- qV,iH.length_eq,Zbn]
  refine EH hc fuel m listed a w (Zz _) (by have:=hc.le;omega) hI.sz hL (tail listed a w dK ⟨hI.mem,?_,hI.size,hI.defers⟩ hO)
  ·intro t v hv;rcases sU.1 t v hv with ⟨j,oj,hj,jh,ke⟩ | ⟨oN,oe⟩
   ·obtain ⟨gR,ly⟩:=fD j oj hj;obtain ⟨u,hu,mF⟩:=hI.new j oj ly (dK j gR) t _ jh ke;rw [hu,show u=v from mF]
   ·rw [hI.zD t fun j oj hj ji=>oN j oj (dP j oj (ZM fun hm=>hI.hi j hm ji) hj)]
    exact h0 t v oe
 intro fuel
 induction fuel with
 | zero =>
  intro listed a w hI hO;obtain ⟨U,_,oR,qV⟩:=hI.left;have hU:U=[]:=Zak.1 qV;refine mf 0 listed a w hI hO fun i hi=>Classical.byContradiction fun hn=>?_;have:=(oR i).2 ⟨by have:=hc.le;omega,hn⟩;rw [hU] at this;cases this
 | succ fuel ih =>
  intro listed a w hI hO;by_cases dK:∀ i,i<m->Ls listed i
  ·exact mf _ listed a w hI hO dK
  ·have hex:∃ i,i<m/\¬ Ls listed i:=Classical.byContradiction fun hh=>dK fun i hi=>Classical.byContradiction fun hn=>hh ⟨i,hi,hn⟩
   obtain ⟨i0,r7,nO⟩:=hex;refine ⟨fun hr=>?_,fun i hi=>?_⟩
   ·obtain ⟨i,hi⟩:=jc hI.sz hc.ac ⟨i0,by have:=hc.le;omega,nO⟩;rw [hr] at hi;cases hi
   ·have nP:i<m:=ZM fun hm=>nO (rC hc hI.sz hI.dc hi hm i0 (by omega))
    obtain ⟨o,ho,hn,lh⟩:=(dD hI.sz).1 hi;obtain ⟨vp,Nt,R,Ur,fg,hs1,hs2⟩:=hp.at_ i o (dP i o nP ho);obtain ⟨d,R',hd,fO,rh⟩:=sU.2.2 i o (dP i o nP ho);rw [Ur] at rh;cases rh;have jU:∀ (j:Nat),eO o j=true->Ls listed j:=fun j hw=>by
     obtain ⟨e,he,hb,mG⟩:=cz hw;rw [<- mG];exact lh e he hb
    have Dp:∀ (j t:Nat) (oj:Oper),j<i->(l.take m)[j]? = some oj->oj.dst=some t->t∈o.looksAt l.toArray->Ls listed j:=by
     intro j t oj hj jJ jh ht;obtain ⟨gR,ly⟩:=fD j oj jJ;exact jU j ((dh (mT hc hj nP ly ho) jh hd).2 (.inl ht))
    have Rr:∀ vp:aL,(∀ t v,c5 vp t=some v->(∃ (j:Nat) (oj:Oper),j<i/\(l.take m)[j]? = some oj/\oj.dst=some t/\(S.map Step.r)[j]? = some (.val v))\/((∀ (j:Nat) (oj:Oper),j<i->(l.take m)[j]? = some oj->oj.dst≠some t)/\c5 sl t=some v)) ->
      ∃ a':Act,bU vp a'/\∀ t∈o.looksAt l.toArray,a'.tmps[t]? = a.tmps[t]?:=by
     intro vp hs1;have hT:∀ t∈o.looksAt l.toArray,∀ v,c5 vp t=some v->a.tmps[t]? = some v:=by
      intro t ht v hv;rcases hs1 t v hv with ⟨j,oj,hj,jJ,jh,ke⟩ | ⟨oN,oe⟩
      ·obtain ⟨u,hu,mF⟩:=hI.new j oj (fD j oj jJ).2 (Dp j t oj hj jJ jh ht) t _ jh ke;rw [hu,show u=v from mF]
      ·rw [hI.zD t fun j oj hj ji jh=>?_]
       ·exact h0 t v oe
       ·have gR:j<m:=ZM fun hm=>hI.hi j hm ji
        rcases Zal j i with h | h | h
        ·exact oN j oj h (dP j oj gR hj) jh
        ·subst h;exact hn ji
        ·have hw:=(dh (mT hc h gR ho hj) hd jh).2 (.inr ht);obtain ⟨e,he,hb,mG⟩:=cz hw;have:=hI.dc j oj hj ji e he hb;rw [mG] at this;exact hn this
     have tY:∀ t v,c5 vp t=some v->t<c.nt:=by
      intro t v hv;rcases hs1 t v hv with ⟨j,oj,_,jJ,jh,_⟩ | ⟨_,oe⟩
      ·obtain ⟨d',_,u9,ub,_⟩:=sU.2.2 j oj jJ;rw [jh] at u9;cases u9;exact ub
      ·have:=h0 t v oe;rw [<- HZ];exact (Z1.1 this).1
     obtain ⟨a',lF,jB,_⟩:=nQ hI.size tY hT;exact ⟨a',lF,jB⟩
    have oO:∀ (j:Nat) (oj:Oper) (e:Nat),l[j]? = some oj->j<m->j≠i->oj.dst=some e->d≠e:=by
     intro j oj e hj gR hne he;rcases Zbi j i with h | h
     ·exact fun e'=>(dh (mT hc h nP hj ho) he hd).1 e'.symm
     ·exact (dh (mT hc (show i<j by omega) gR ho hj) hd he).1
    have iw:i<listed.size:=by rw [hI.sz];have:=hc.le;omega
    have Bl:nw o=true:=hc.op o (ZV ho);have gB:∀ v w',aJ [] w w'->R.p v w'->Iw c D hs (l.take m) S (listed.setIfInBounds i true) (a.put o.dst v) w'->wpAnyIn (FR r) 0 P .any l.toArray Q fuel (listed.setIfInBounds i true) (a.put o.dst v) w':=fun v w' hk hv XD=>
     ih _ _ _ (C4 hc hc.le hI hi nP ho hd fO Ur (fun j oj hj jJ=>let ⟨e,_,he,_⟩:=sU.2.2 j oj (dP j oj hj jJ);⟨e,he⟩) hk hv) XD
    unfold wpOpIn;rw [show l.toArray[i]? = some o from by simpa using ho];simp only [];have rh:∃ st,S[i]? = some st/\st.r=R:=by
     rw [ZI] at Ur;obtain ⟨st,h1,h2⟩:=Zaq.1 Ur;exact ⟨st,h1,h2⟩
    obtain ⟨st,rh,a7⟩:=rh;have Me:∀ j,j≠i->(listed.setIfInBounds i true).getD j false=listed.getD j false:=fun j hj=>by
     simp [Zv,ZF (Ne.symm hj)]
    cases st with
    | new V ob =>
     obtain ⟨sln,hgn,TT,aa2⟩:=hpO.UY i o V ob (dP i o nP ho) rh;obtain ⟨a',lF,jB⟩:=Rr sln aa2;have hex:=ix (o:=o) (ops:=l.toArray) Bl jB;have gW:=TT.2 a' w lF hI.mem.mq;rw [if_pos (by simp [Region.wanted,hgn])];refine ⟨dT _ _ _ _ _,?_⟩;rw [Oper.semAt_eq _ _ _ (fun cc he=>by simp [nw,he] at Bl),<- hex,gW]
     refine gB _ _ (.alloc _ _ _) (by rw [<- a7];exact ⟨w.heap.size,I,World.alloc_heap_new w ob⟩) ?_;obtain ⟨β,hm,hb,uP⟩:=hO;refine ⟨fun k=>if k=i then w.heap.size else β k,?_,?_,?_⟩
     ·refine Mem.perm (hm.alloc ob) ((BN (k:=i) (V:=V) rh ?_ ?_ ?_ ?_).append_right _)
      ·rw [Zx];show listed.getD i false=false;have:¬ listed.getD i false=true:=hn;simpa using this
      ·rw [Zx];exact (bX iw).2 (.inl I)
      ·simp
      ·intro j hj;rw [Zx] at hj;exact ⟨Me j hj,by simp [hj]⟩
     ·intro j;by_cases e:j=i
      ·subst e;left;simp;exact hI.mem.keeps.size
      ·rcases hb j with h | h | h
       ·left;simpa [e] using h
       ·right;left;intro h';exact h (((bX iw).1 h').resolve_left e)
       ·exact .inr (.inr h)
     ·intro j oj e V' Tm hj jh ke ji;by_cases ej:j=i
      ·subst ej;rw [rh] at ke;cases ke;obtain ⟨gR,ly⟩:=fD j oj hj;rw [ho] at ly;cases ly;rw [hd] at jh;cases jh;rw [hd];simp [Act.put,hI.size,fO]
      ·obtain ⟨gR,ly⟩:=fD j oj hj;have yh:=((bX iw).1 ji).resolve_left ej;have:=uP j oj e V' Tm hj jh ke yh;rw [hd];simp only [Act.put,ZF (oO j oj e ly gR ej jh),if_neg ej];exact this
    | rel R0 =>
     have XD:∀ v w',aJ [] w w'->Iw c D hs (l.take m) S (listed.setIfInBounds i true) (a.put o.dst v) w':=by
      intro v w' hk;obtain ⟨β,hm,hb,uP⟩:=hO;refine ⟨β,?_,?_,?_⟩
      ·have e:sf β (fun j=>(listed.setIfInBounds i true).getD j false) S 0=sf β (fun j=>listed.getD j false) S 0:=qk fun j V ob hj=>by
        have:j≠i:=fun e=>by subst e;rw [rh] at hj;cases hj
        rw [Zx];exact ⟨Me j this,fun _=>rfl⟩
       rw [e];exact hm.sP hk
      ·intro j;by_cases e:j=i
       ·subst e;right;right;intro V ob h;rw [rh] at h;cases h
       ·rcases hb j with h | h | h
        ·exact .inl h
        ·right;left;intro h';exact h (((bX iw).1 h').resolve_left e)
        ·exact .inr (.inr h)
      ·intro j oj e V' Tm hj jh ke ji;have ej:j≠i:=fun e=>by subst e;rw [rh] at ke;cases ke
       obtain ⟨gR,ly⟩:=fD j oj hj;have yh:=((bX iw).1 ji).resolve_left ej;have:=uP j oj e V' Tm hj jh ke yh;rw [hd];simp only [Act.put,ZF (oO j oj e ly gR ej jh)];exact this
     obtain ⟨a',lF,jB⟩:=Rr vp hs1;have TU:BV (o.looksAt l.toArray) Nt a' w:=by
      intro t Rt hm ht;rcases hs2 t Rt hm with ⟨j,oj,hj,jJ,jh,ke⟩ | aB
      ·obtain ⟨v,hv,mF⟩:=hI.new j oj (fD j oj jJ).2 (Dp j t oj hj jJ jh ht) t _ jh ke;exact ⟨v,by rw [jB t ht];exact hv,mF⟩
      ·cases aB
     have hq:=fg a' w lF TU hI.mem.mq;have hex:=ix (o:=o) (ops:=l.toArray) Bl jB;rw [gS jB] at hq;split
     ·rename_i hw;rw [if_pos hw] at hq;refine ⟨dT _ _ _ _ _,?_⟩;rw [Oper.semAt_eq _ _ _ (fun cc he=>by simp [nw,he] at Bl),<- hex]
      unfold yP at hq
      revert hq
      generalize (execOp a'.eval o).run P w=res;intro hq
      match res,hq with
      | .ok (.value v) w',⟨hk,hv⟩=>exact gB v w' hk hv (XD v w' hk)
      | .ok (.enter f args) w', ⟨e, cF⟩ =>
       subst e;refine ⟨by simp [FR,Fence.wide],(iA cF).mono fun e vP h=>?_⟩;obtain ⟨v,rfl,hk,hv⟩:=h;exact gB v vP hk hv (XD v vP hk)
     ·rename_i hw;rw [if_neg hw] at hq;exact ⟨fun _ _=>trivial,gB undef w (.refl _ _) hq (XD undef w (.refl _ _))⟩
theorem xQ {β:Nat->Nat} {lst:Nat->Bool} (h:∀ i,lst i=false):∀ {S:List Step} {i:Nat},sf β lst S i=[]
 | [],_=>rfl
 | .rel _::S,i=>by unfold sf;exact xQ h
 | .new _ _::S,i=>by unfold sf;rw [if_neg (by simp [h]),xQ h]
variable {id:Nat}
theorem yn (pW:P.follows .mixedOrders=true) (gD:zu l m=true) (hp:n9 P c hs l.toArray (l.take m) sl [] S kd lJ)
  (tail:∀ listed a w,(∀ i,i<m->Ls listed i)->St c D kd hs a w->Iw c D hs (l.take m) S listed a w->WL P r l.toArray Q (l.drop m) a w):Tr c D sl hs (WP P r (.region id l.toArray true) Q):=fun a w a7=>by
 unfold WP;refine wpIn_region_any pW ?_;refine OW (wz gD) hp a7.dj a7.size tail l.toArray.size _ a _ ⟨by simp,?_,?_,?_,a7.defers,a7.size,fun t _=>rfl,?_,List.range l.length,Zbk,?_,by simp⟩ ?_
 ·exact fun k o _ hL=>absurd hL (eA _ _)
 ·exact fun k _ hL=>eA _ _ hL
 ·exact a7.mem.drew
 ·exact fun j o _ hL=>absurd hL (eA _ _)
 ·exact fun i=>⟨fun h=>⟨by simpa using h,eA _ _⟩,fun h=>by simpa using h.1⟩
 ·refine ⟨fun _=>c.w0.heap.size,?_,fun i=>.inl (Zz _),fun i o d V ob _ _ _ hL=>absurd hL (eA _ _)⟩;rw [xQ fun i=>by have:=eA l.toArray.size i;unfold Ls at this;simpa using this]
  exact a7.mem.drew
def Ns (β:Nat->Nat):List Oper->List Step->Nat->aL
 | o::l,.new V _::S,i=>(o.dst.getD 0,V (β i))::Ns β l S (i+1)
 | _::l,.rel _::S,i=>Ns β l S (i+1)
 | _,_,_=>[]
theorem AG {β:Nat->Nat}:∀ {l:List Oper} {S:List Step} {i:Nat} {p:Nat×Value},p∈Ns β l S i->∃ (j:Nat) (o:Oper) (V:Nat->Value) (ob:Obj),l[j]? = some o/\S[j]? = some (.new V ob)/\p=(o.dst.getD 0,V (β (i+j)))
 | [],_,_,_,h=>by cases h
 | _::_,[],_,_,h=>by cases h
 | o :: l, .new V ob :: S, i, p, h => by
  unfold Ns at h;rcases ZT.1 h with h | h
  ·exact ⟨0,o,V,ob,I,I,h⟩
  ·obtain ⟨j,o',V',Tm,h1,h2,h3⟩:=AG h;exact ⟨j+1,o',V',Tm,by simpa using h1,by simpa using h2,by rw [h3,show i+1+j=i+(j+1) from by omega]⟩
 | o :: l, .rel R :: S, i, p, h => by
  unfold Ns at h;obtain ⟨j,o',V',Tm,h1,h2,h3⟩:=AG h;exact ⟨j+1,o',V',Tm,by simpa using h1,by simpa using h2,by rw [h3,show i+1+j=i+(j+1) from by omega]⟩
theorem v8 {L s:aL} {a:Act} (h:∀ p∈L,a.tmps[p.1]? = some p.2) (hs:bU s a):bU (L++s) a:=by
 induction L with
 | nil=>exact hs
 | cons p L ih =>
  intro t v hv;obtain ⟨d,u⟩:=p;by_cases e:d=t
  ·subst e;rw [Zb,gy] at hv;cases hv;exact h (d,v) (by simp)
  ·rw [Zb,gr e] at hv;exact ih (fun p hp=>h p (by simp [hp])) t v hv
def zs (nl:List (Nat×(Nat->Value)×Obj)) (bs:List Nat):aL:=(nl.zip bs).map fun x=>(x.1.1,x.1.2.1 x.2)
def zb (nl:List (Nat×(Nat->Value)×Obj)) (bs:List Nat):List bd:=(nl.zip bs).map fun x=>bz x.2 x.1.2.2
def tw (P:Program) (r:Option Nat) (c:Cx) (D:List Nat) (hs:List bd) (ops:Array Oper) (Q:Exit->Act->World->Prop) (nl:List (Nat×(Nat->Value)×Obj)) (m:Nat) (l:List Oper) (sl:aL) (rl:fu):Prop:=
 ∃ S kd lJ, n9 P c hs ops (l.take m) sl rl S kd lJ /\ ∀ (bs : List Nat) (β : Nat -> Nat) (i0 : Nat), bs.length = nl.length -> (∀ b ∈ bs, c.w0.heap.size <= b) -> (∀ i V ob, S[i]? = some (.new V ob) -> c.w0.heap.size <= β (i0 + i)) ->
  Tr c D (zs nl bs++Ns β (l.take m) S i0++kd) (zb nl bs++sf β (fun _=>true) S i0++hs) (WL P r ops Q (l.drop m))
theorem di {l:List Oper} (m:Nat) [pW:Sa P] (gD:zu l m=true) (k:tw P r c D hs l.toArray Q [] m l sl []):Tr c D sl hs (WP P r (.region id l.toArray true) Q):=by
 obtain ⟨S,kd,lJ,hp,ht⟩:=k;have sU:=hp.Wf.end_;have hlen:∀ i V ob,S[i]? = some (.new V ob)->i<m:=by
  intro i V ob h;have h1:=(Zl.1 h).1;have aaN:∀ {l0:Array Oper} {l:List Oper} {sl kd:aL} {rl lJ:fu} {S:List Step},n9 P c hs l0 l sl rl S kd lJ->S.length=l.length:=by
   intro l0 l sl kd rl lJ S h
   induction h with
   | nil=>rfl
   | val _ _ _ _ ih=>simp [ih]
   | new _ _ _ _ _ _ ih=>simp [ih]
  rw [aaN hp,Zq] at h1;omega
 refine yn pW.eq gD hp fun listed a w dK a7 hO=>?_;obtain ⟨β,hm,hb,uP⟩:=hO;have Ms:∀ i V ob,S[i]? = some (.new V ob)->Ls listed i:=fun i V ob h=>dK i (hlen i V ob h)
 have B4:∀ i V ob,S[i]? = some (.new V ob)->c.w0.heap.size<=β (0+i):=fun i V ob h=>by
  rw [Zx];rcases hb i with h1 | h1 | h1
  ·exact h1
  ·exact absurd (Ms i V ob h) h1
  ·exact absurd h (h1 V ob)
 refine ht [] β 0 I (fun b hb=>by cases hb) B4 a w ⟨?_,?_,a7.size,a7.defers⟩
 ·have e:sf β (fun i=>listed.getD i false) S 0=sf β (fun _=>true) S 0:=qk fun j V ob hj=>by
   rw [Zx];exact ⟨Ms j V ob hj,fun _=>rfl⟩
  rw [e] at hm;simpa [zb,Zh] using hm
 ·refine v8 (L:=zs [] []++Ns β (List.take m l) S 0) (fun p mF=>?_) a7.dj;obtain ⟨j,o,V,ob,h1,h2,rfl⟩:=AG (by simpa [zs] using mF);obtain ⟨d,R,hd,fO,_⟩:=sU.2.2 j o h1;rw [hd,Zx];exact uP j o d V ob h1 hd h2 (Ms j V ob h2)
section
variable {nl:List (Nat×(Nat->Value)×Obj)} {d:Nat} {op:Op} {ty:TypeId} {pos:String} {af:Array Edge} {rest:List Oper}
variable {V:Value} {ob:Obj}
theorem dN {V:Nat->Value} {l:List Oper} (hn:nl=[(d,V,ob)]) (k:∀ b,c.w0.heap.size<=b->Tr c D ((d,V b)::sl) (bz b ob::hs) (WL P r ops Q l)):tw P r c D hs ops Q nl 0 l sl rl:=
 ⟨[],sl,rl,.nil,fun bs β i0 hl hb _=>by
  subst hn
  match bs,hl with
  | [b],_=>simpa [zs,zb,Ns,sf] using k b (hb b (by simp))⟩
theorem xP {o:Oper} (ho:o.dst=some d) (hd:Nat.blt d c.nt=true) (h:uZ P c hs ops sl rl o (.val V)) (k:tw P r c D hs ops Q nl m rest ((d,V)::sl) rl):tw P r c D hs ops Q nl (m+1) (o::rest) sl rl:=by
 obtain ⟨S,kd,lJ,hp,ht⟩:=k;refine ⟨_,_,_,.val ho (by simpa [Z4] using hd) h hp,fun bs β i0 h1 h2 h3=>?_⟩;have:=ht bs β (i0+1) h1 h2 fun i V ob hi=>by have:=h3 (i+1) V ob (by simpa using hi);rwa [show i0+(i+1)=i0+1+i from by omega] at this
 simpa [Ns,sf] using this
theorem eN {V:Nat->Value} (hr:ql P c sl hs ⟨some d,op,ty,pos,af,none⟩ V ob) (hd:Nat.blt d c.nt=true) (hn:c5 sl d=none) (k:tw P r c D hs ops Q (nl++[(d,V,ob)]) m rest sl ((d,Ez V ob)::rl)) :
  tw P r c D hs ops Q nl (m+1) (⟨some d,op,ty,pos,af,none⟩::rest) sl rl:=by
 obtain ⟨S,kd,lJ,hp,ht⟩:=k;refine ⟨_,_,_,.new I (by simpa [Z4] using hd) hn I hr hp,fun bs β i0 h1 h2 h3=>?_⟩;have hb0:=h3 0 V ob I;rw [Zaz] at hb0;have:=ht (bs++[β i0]) β (i0+1) (by simp [h1]) (fun b hb=>by
  rcases ZB.1 hb with h | h
  ·exact h2 b h
  ·rw [ZG.1 h];exact hb0) fun i V ob hi=>by have:=h3 (i+1) V ob (by simpa using hi);rwa [show i0+(i+1)=i0+1+i from by omega] at this
 simpa [Ns,sf,zs,zb,List.zip_append h1.symm,Zh] using this
theorem az (hr:du P c sl hs ⟨some d,op,ty,pos,af,none⟩ V) (hd:Nat.blt d c.nt=true) (k:tw P r c D hs ops Q nl m rest ((d,V)::sl) rl) :
  tw P r c D hs ops Q nl (m+1) (⟨some d,op,ty,pos,af,none⟩::rest) sl rl:=
 xP I hd (pq I fun _ _ h1 _ h3=>sC hr h1 h3) k
theorem aY {f:FuncId} {args:List Value} (hr:mM P sl ⟨some d,op,ty,pos,af,none⟩ f args) (hd:Nat.blt d c.nt=true) (hc:∀ w,Mem c hs w->ak P f args w V) (k:tw P r c D hs ops Q nl m rest ((d,V)::sl) rl) :
  tw P r c D hs ops Q nl (m+1) (⟨some d,op,ty,pos,af,none⟩::rest) sl rl:=
 xP I hd (pq I fun _ w h1 _ h3=>tN hr h1 (hc w h3)) k
theorem Yg {p p':Prop} {j gs:Nat} {want c0 q:Bool} (hj:((ops[j]?).bind (·.dst))=some gs) (hq:c5 sl gs=some (gv c0 (.bool q))) (hb:BP (c0&&(q==want)) p p')
  (hr:(c0&&(q==want))=true->p->du P c sl hs ⟨some d,op,ty,pos,af,some (j,want)⟩ V) (hd:Nat.blt d c.nt=true) (k:tw P r c D hs ops Q nl m rest ((d,gv (c0&&(q==want)) V)::sl) rl) :
  tw P r c D hs ops Q nl (m+1) (⟨some d,op,ty,pos,af,some (j,want)⟩::rest) sl rl:=
 xP I hd (pt I hj hq fun hc _ _ h1 h3=>sC (hr hc (hb.t hc)) h1 h3) k
theorem uw {p p':Prop} {j gs:Nat} {want q:Bool} (hj:((ops[j]?).bind (·.dst))=some gs) (hq:c5 sl gs=some (.bool q)) (hb:BP (q==want) p p')
  (hr:(q==want)=true->p->du P c sl hs ⟨some d,op,ty,pos,af,some (j,want)⟩ V) (hd:Nat.blt d c.nt=true) (k:tw P r c D hs ops Q nl m rest ((d,gv (q==want) V)::sl) rl) :
  tw P r c D hs ops Q nl (m+1) (⟨some d,op,ty,pos,af,some (j,want)⟩::rest) sl rl:=
 Yg (c0:=true) (p:=p) (p':=p') hj (by rw [hq];rfl) (by simpa using hb) (by simpa using hr) hd (by simpa using k)
end
end
end Go.SL
namespace Go.SL
open Go
theorem ml {w:World} {b sz:Nat}:∀ {xs:List (List Value)} {o:Nat},(∀ i r,xs[i]? = some r->r.length=sz/\∀ j u,r[j]? = some u->w.cell? ⟨b,o+i*sz+j,none⟩=some u)->∀ (k:Nat) u,xs.flatten[k]? = some u->w.cell? ⟨b,o+k,none⟩=some u
 | [],o,_,k,u,hu=>by simp at hu
 | x :: xs, o, h, k, u, hu => by
  obtain ⟨hl,h0⟩:=h 0 x rfl;rw [ZaE,List.getElem?_append] at hu;split at hu
  ·have:=h0 k u hu;rwa [Zbs,Zaz] at this
  ·rename_i hk;have ih:=ml (xs:=xs) (o:=o+sz) (fun i r hr=>⟨(h (i+1) r (by simpa using hr)).1,fun j v hv=>by
    have:=(h (i+1) r (by simpa using hr)).2 j v hv;rwa [Zaj,show o+(i*sz+sz)+j=o+sz+i*sz+j by omega] at this⟩) (k-x.length) u hu
   rwa [hl,show o+sz+(k-sz)=o+k by omega] at ih
theorem fH {sz:Nat}:∀ {xs:List (List Value)},(∀ r∈xs,r.length=sz)->xs.flatten.length=xs.length*sz
 | [],_=>by simp
 | x :: xs, h => by
  rw [ZaE,Zg,fH (fun r hr=>h r (by simp [hr])),h x (by simp),ZE,Zaj,Nat.add_comm]
theorem Rd.sz {w:World} {v:Value} {sz:Nat} {xs:List (List Value)} (h:Rd w v sz xs):∀ r∈xs,r.length=sz:=by
 obtain ⟨a,cap,b,o,rfl,h1,h2,h3,h4⟩:=h;intro r hr;obtain ⟨i,hi,rfl⟩:=ZA hr;exact (h4 i _ (Zc hi)).1
section
variable {P:Program} {r:Option Nat} {c:Cx} {D:List Nat} {sl:aL} {hs hs':List bd} {ops:Array Oper} {Q:Exit->Act->World->Prop} {d:Nat} {ty:TypeId} {pos:String} {af:Array Edge} {rest:List Oper}
variable {V:Value} {agg:Bool} {news:List (List Value)} {size:Nat} {v:Value} {x y:Operand} {z:Value}
theorem Ow {sz:Nat} {xs:List (List Value)} {b o cap:Nat} (hsrc:∀ w,Mem c hs w->Rd w V sz xs) (hne:xs≠[]) (hV:V=.slice (some ⟨b,o,none⟩) xs.length cap):eR c hs b o xs.flatten:=by
 refine eR.tP fun j u hu w hm=>?_;obtain ⟨a',iz,b',o',e',_,_,cu,Y1⟩:=hsrc w hm;rw [hV] at e';simp only [Value.slice.injEq] at e';obtain ⟨e1,_,_⟩:=e';have:=cu hne;rw [<- e1] at this;simp only [Option.some.injEq,Addr.mk.injEq,and_true] at this;obtain ⟨rfl,rfl⟩:=this;exact ml Y1 j u hu
theorem uB {t e:TypeId} {w:World} [hu:jw P t (.slice e)] [hT:Ty P e agg size] {a:Option Addr} {cp n:Nat} (hv:(v=.z/\n=0)\/∃ g cap,v=.w g n cap/\n<=cap) :
  (Builtin.append_ #[t,t] ty #[v,.slice a 0 cp]).run P w=.ok v w:=by
 obtain ⟨de,i,nA,hi,_,hY⟩:=Ty.parts (P:=P) (t:=e) (agg:=agg) (n:=size);rcases hv with ⟨rfl,rfl⟩ | ⟨g,cap,rfl,hc⟩
 ·cases a <;> simp [Builtin.append_,aX hu.eq,sizeOf,typeInfo,hi,Builtin.lenOf,Builtin.firstCells,loadCells,loadCellsFrom]
 ·cases a <;> simp [Builtin.append_,aX hu.eq,sizeOf,typeInfo,hi,Builtin.lenOf,Builtin.firstCells,loadCells,loadCellsFrom,hc,storeCells]
theorem eX {t e:TypeId} {size bytes:Nat} {n:Nat} {xs:List Value} [hu:jw P t (.slice e)] [hT:Ty P e agg size] [hZ:mL P e z] [hB:xX P e bytes]
  (hx:Is sl x v) (hy:Is sl y V) (ht:Take hs (row e size v n xs) hs') (hsrc:∀ w,Mem c hs w->Rd w V size news) (h1:∀ r∈news,∀ u∈r,u.oneCell'=true) (hz:z.cells.size=size) (hsz:Nat.blt 0 size=true) (hb0:Nat.blt 0 bytes=true)
  (hb:(n+news.length)*bytes<=140737488355328) (hd:Nat.blt d c.nt=true)
  (k:∀ v',Tr c D ((d,v')::sl) (row e size v' (n+news.length) (xs++news.flatten)::hs') (WL P r ops Q rest)) :
  Tr c D sl hs (WL P r ops Q (⟨some d,.call ⟨.builtin .append,#[x,y],#[t,t]⟩,ty,pos,af,none⟩::rest)):=fun a w a7=>by
 have hR:=hsrc w a7.qS;have hlen:=fH hR.sz;by_cases hne:news=[]
 ·subst hne;obtain ⟨aa,cap,b,o,rfl,_⟩:=hR;have hm:=a7.mem.take (ht.append _);have hrow:(v=.slice none 0 0/\n=0)\/∃ g cap,v=.slice (some ⟨g,0,none⟩) n cap/\n<=cap:=by
   obtain ⟨_,fp,_,⟨f1,f2,_,⟨_,_,h1⟩,_⟩,_⟩:=hm;exact h1.imp id fun ⟨g,cap,cur,e,_,hc,_⟩=>⟨g,cap,e,hc⟩
  refine nH I ⟨dT _ _ _ _ _,?_⟩;rw [Oper.semAt_eq _ _ _ (by simp)];have:(execOp a.eval ⟨some d,.call ⟨.builtin .append,#[x,y],#[t,t]⟩,ty,pos,af,none⟩).run P w=.ok (.value v) w:=by
   have:=uB (P:=P) (t:=t) (e:=e) (ty:=ty) (w:=w) (agg:=agg) (size:=size) (a:=aa) (cp:=cap) hrow;simp only [Zae] at hy;simp [execOp,resolve,invoke,builtin,hx a a7.dj,hy a a7.dj,this]
  rw [this];have k2:=k v;simp only [Zae,Zaz,List.flatten_nil,ZN] at k2;exact k2 _ _ ((a7.put (by simpa [Z4] using hd) v).heap hm)
 ·obtain ⟨aa,cap,b,o,hV,dy,bT,ha,hc⟩:=hR;have:=ha hne;subst this;rw [hV] at hy;exact zd hx hy ht (Ow hsrc hne hV) hlen (fun u hu=>by obtain ⟨r,hr,TG⟩:=ZbC.1 hu;exact h1 r hr u TG) hz hsz hb0 hb hd k a w a7
theorem Ko {t t2 e:TypeId} {g n cap:Nat} {E:TypeId} {cs:List Value} [hu:jw P t (.slice e)] [hT:Ty P e agg size]
  (hx:Is sl x (.w g n cap)) (hy:Is sl y V) (ht:Take hs (bz g (.cells cs.toArray E (0,0))) hs') (hsrc:∀ w,Mem c hs w->Rd w V size news) (h1:∀ r∈news,∀ u∈r,u.oneCell'=true) (hfit:n*size<=cs.length) (hd:Nat.blt d c.nt=true)
  (k:Tr c D ((d,.q (Nat.min news.length n:Nat))::sl) (bz g (.cells (setCells cs 0 (news.take n).flatten).toArray E (0,0))::hs') (WL P r ops Q rest)) :
  Tr c D sl hs (WL P r ops Q (⟨some d,.call ⟨.builtin .copy,#[x,y],#[t,t2]⟩,ty,pos,af,none⟩::rest)):=fun a w a7=>by
 have hR:=hsrc w a7.qS;obtain ⟨de,i,nA,hi,_,hY⟩:=Ty.parts (P:=P) (t:=e) (agg:=agg) (n:=size);have hlen:(news.take n).flatten.length=Nat.min news.length n*size:=by
  rw [fH (fun r hr=>hR.sz r (ZaR hr)),Zq]
  show min n news.length*size=min news.length n*size;rw [Nat.min_comm]
 have hle:Nat.min news.length n<=n:=Nat.min_le_right _ _;have hm:=a7.mem.take (ht.append _);have hg:w.heap[g]? = some (.cells cs.toArray E (0,0)):=hm.bz .here;obtain ⟨w',h3,h4,h5⟩:=jS (P:=P) (o:=0) (news.take n).flatten 0 cs w hg (fun u hu=>by
  obtain ⟨r,hr,TG⟩:=ZbC.1 hu;exact h1 r (ZaR hr) u TG) (by
  rw [hlen];have:Nat.min news.length n*size<=n*size:=Zaa _ hle;omega)
 have W6:(Builtin.firstCells size (Nat.min news.length n) V).run P w=.ok (news.take n).flatten.toArray w:=by
  obtain ⟨aa,db,b,o,hV,kq,bT,ha,hc⟩:=hR;subst hV;by_cases hne:news=[]
  ·subst hne;cases aa <;> simp [Builtin.firstCells,loadCells,loadCellsFrom]
  ·have:=ha hne;subst this;simp only [Builtin.firstCells];refine sy hlen fun j u hu=>?_;refine ml (sz:=size) (xs:=news.take n) (fun i r hr=>?_) j u hu;rw [ZC] at hr;split at hr
   ·exact hc i r hr
   ·cases hr
 have W8:(Builtin.lenOf V).run P w=.ok news.length w:=by
  obtain ⟨aa,db,b,o,hV,_⟩:=hR;subst hV
  rfl
 refine nH I ⟨dT _ _ _ _ _,?_⟩;rw [Oper.semAt_eq _ _ _ (by simp)];have:(execOp a.eval ⟨some d,.call ⟨.builtin .copy,#[x,y],#[t,t2]⟩,ty,pos,af,none⟩).run P w=.ok (.value (.q (Nat.min news.length n:Nat))) w':=by
  simp [execOp,resolve,invoke,builtin,hx a a7.dj,hy a a7.dj,Builtin.copy_,aX hu.eq,W8,sizeOf,typeInfo,hi,hY,W6,h3,goInt]
 rw [this];have l5:=Mem.store hm h4 h5;rw [show (0+0:Nat)=0 from I] at l5;exact k _ _ ((a7.put (by simpa [Z4] using hd) _).heap l5)
theorem Ee {t tn e:TypeId} {kn:IntKind} {size bytes m:Nat} [hu:jw P t (.slice e)] [TI:jw P tn (.int kn)] [hT:Ty P e agg size] [hZ:mL P e z] [hB:xX P e bytes]
  (hx:Is sl x (.z)) (hy:Is sl y (.q m)) (h0:0<m) (hz:z.cells.size=size) (hsz:Nat.blt 0 size=true) (hb0:Nat.blt 0 bytes=true) (hb:m*bytes<=140737488355328) (hd:Nat.blt d c.nt=true)
  (k:∀ v',Tr c D ((d,v')::sl) (row e size v' m (Builtin.zeroCells z.cells m).toList::hs) (WL P r ops Q rest)) :
  Tr c D sl hs (WL P r ops Q (⟨some d,.call ⟨.builtin .append,#[x,y],#[t,tn]⟩,ty,pos,af,none⟩::rest)):=fun a w a7=>by
 obtain ⟨de,i,nA,hi,_,hY⟩:=Ty.parts (P:=P) (t:=e) (agg:=agg) (n:=size);have hzero:i.zero=some z:=by have:=hZ.eq;rw [hi] at this;simpa using this
 have gK:i.bytes=bytes:=by have:=hB.eq;rw [hi] at this;simpa using this
 have hs0:0<size:=by simpa [Z4] using hsz
 have acg:0<bytes:=by simpa [Z4] using hb0
 have aT:m*1<=m*bytes:=Zbg _ acg;have gW:=Lib.run_append_grow_zeros (P:=P) w t tn ty e i z .i64 kn hu.eq TI.eq hi hzero none 0 0 [] (by simp [Builtin.firstCells]) m h0 (by omega) (by omega) (by omega) (by rw [gK];omega) (growslice_fits (by omega) (by rw [gK];simpa using hb));simp only [Zx] at gW;have Mf:=grownCap_ge w m 0 e;have hle:=grownCap_le_maxLen w m 0 e (by unfold maxLen;omega);refine nH I ⟨dT _ _ _ _ _,?_⟩;rw [Oper.semAt_eq _ _ _ (by simp)];generalize grownCap w m 0 e=G at gW Mf hle;have:(execOp a.eval ⟨some d,.call ⟨.builtin .append,#[x,y],#[t,tn]⟩,ty,pos,af,none⟩).run P w=.ok (.value (.slice (some ⟨w.heap.size,0,none⟩) m G)) (w.drew.alloc (.cells (#[]++Builtin.zeroCells z.cells m++Builtin.zeroCells z.cells (G-m)) e)):=by
  simp [execOp,resolve,invoke,builtin,hx a a7.dj,hy a a7.dj,gW]
 rw [this];have EX:∀ q,(Builtin.zeroCells z.cells q).size=q*size:=fun q=>by rw [size_zeroCells,hz]
 have l5:=(a7.mem.drew.alloc (.cells (#[]++Builtin.zeroCells z.cells m++Builtin.zeroCells z.cells (G-m)) e (0,0)));refine k _ _ _ ((a7.put (by simpa [Z4] using hd) _).heap ?_);obtain ⟨kk,fp,hn,⟨f1,f2,rfl,⟨e1,h1⟩,h2⟩,Bn⟩:=l5;refine ⟨kk,f1++f2,hn,⟨f1,f2,I,⟨by rw [e1];rfl,by simp [EX],.inr ⟨w.heap.size,G,_,I,h1,Mf,hle,?_,?_⟩⟩,h2⟩,Bn⟩
 ·simp only [Array.size_append,EX];simp only [Array.size_empty,Zx,<- Nat.add_mul];congr 1;omega
 ·simp only [Array.toList_append,Array.toList_empty,Za];rw [List.take_left' (by rw [ZaV,EX])]
theorem lK {dst:Option Tmp} {g:Option (Nat×Bool)} {t e:TypeId} [hu:jw P t (.slice e)] [hT:Ty P e agg size] :
  ql P c sl hs ⟨dst,.buildSlice t 0 #[],ty,pos,af,g⟩ (fun b=>.w b 0 0) (.cells #[] e):=
 kP (ps:=#[]) (fun a _=>by simp) fun w=>by
  unfold Instr.buildSlice;simp only [Sem.run_bind,aX hu.eq,Result.andThen_ok,gl (t:=e) (agg:=agg) (n:=size),Zbs];simp [Instr.fill,newRow,show Array.range 0=#[] from I]
theorem sB {dst:Option Tmp} {g:Option (Nat×Bool)} {t e:TypeId} {a:Option Addr} {n cp:Nat} [hu:jw P t (.slice e)] (hx:Is sl x (.slice a n cp)) :
  du P c sl hs ⟨dst,.call ⟨.builtin .cap,#[x],#[t]⟩,ty,pos,af,g⟩ (.q cp):=
 ⟨by simp,fun ac w ha _=>by simp [execOp,hx ac ha,resolve,invoke,builtin,Builtin.cap_,aX hu.eq,goInt]⟩
theorem Ct (g cap sz:Nat):Go.sliced (some ⟨g,0,none⟩) 0 0 cap sz=.w g 0 cap:=by
 unfold Go.sliced;by_cases h:cap=0
 ·rw [if_pos h];simp
 ·rw [if_neg h];simp [eJ]
theorem AK:∀ (vs cs:List Value),vs.length<=cs.length->setCells cs 0 vs=vs++cs.drop vs.length:=by
 intro vs cs h;apply Zax;intro k;rw [jl _ _ _ _ (by omega),List.getElem?_append];by_cases hk:k<vs.length
 ·rw [if_pos (by omega),if_pos hk,Nat.sub_zero]
 ·rw [if_neg (by omega),if_neg hk,Zbm];congr 1;omega
end
end Go.SL
namespace Go.SL
open Go
theorem bc {α:Type} {b:Bool} {o:Option α} {v:α} (h:(bif b then o else none)=some v):b=true/\o=some v:=by cases b <;> simp_all
theorem bp {α β:Type} {o:Option α} {q:Option β} {v:α} {u:β} (h:(o.bind fun a=>q.map fun b=>(a,b))=some (v,u)):o=some v/\q=some u:=by
 cases o <;> cases q <;> simp_all
section
variable {P:Program} {r:Option Nat} {c:Cx} {D:List Nat} {sl:aL} {rl:fu} {hs hs':List bd} {Q:Exit->Act->World->Prop} {ops:Array Oper} {m d:Nat} {op:Op} {ty:TypeId} {pos:String} {af:Array Edge} {rest:List Oper} {dst:Option Tmp} {g:Option (Nat×Bool)}
theorem Jq {P:Program} {r:Option Nat} {c:Cx} {D:List Nat} {sl:aL} {hs:List bd} {x y:Code} {Q:Exit->Act->World->Prop}
  (h:Tr c D sl hs (WP P r x (Exit.then (WP P r y Q) Q))):Tr c D sl hs (WP P r (.seq x y) Q):=j6 h
variable {N:Act->World->Prop} {a b:Int} {cs:List Value} {id:Nat} {k:IntKind} {p:Prop} {v:Value} {x y:Operand}
theorem Jt {c:Cx} {D:List Nat} {sl:aL} {hs:List bd} {Q:Exit->Act->World->Prop}
  (h:Tr c D sl hs N):Tr c D sl hs (Exit.then N Q .normal):=iM h
theorem J0 {P:Program} {r:Option Nat} {c:Cx} {D:List Nat} {sl:aL} {hs:List bd} {x:Code} {Q:Exit->Act->World->Prop}
  (h:Tr c D sl hs (WP P r x (Exit.inBlock id Q))):Tr c D sl hs (WP P r (.block id x) Q):=Kq h
theorem Je {P:Program} {r:Option Nat} {c:Cx} {D:List Nat} {sl:aL} {hs:List bd} {Q:Exit->Act->World->Prop}
  (h:Tr c D sl hs (Q .ret)):Tr c D sl hs (WP P r .ret Q):=Kl h
theorem Jg {P:Program} {r:Option Nat} {c:Cx} {D:List Nat} {sl:aL} {hs:List bd} {l:List Oper} {Q:Exit->Act->World->Prop}
  (h:Tr c D sl hs (WL P r l.toArray Q l)):Tr c D sl hs (WP P r (.region id l.toArray false) Q):=gj h
theorem Jh {c:Cx} {D:List Nat} {sl:aL} {hs:List bd} {Q:Exit->Act->World->Prop}
  (h:Tr c D sl hs (Q .ret)):Tr c D sl hs (Exit.then N Q .ret):=Cf h
theorem Ji {l:List Oper} {y:Code} {Q':Exit->Act->World->Prop} (h:Tr c D sl hs (WL P r l.toArray (Exit.then (WP P r y Q) Q) l)):Tr c D sl hs (WL P r ops (Exit.then (WP P r (.seq (.region id l.toArray false) y) Q) Q') []):=n_r h
theorem Jj {c:Cx} {D:List Nat} {sl:aL} {hs:List bd} {Q:Exit->Act->World->Prop}
  (h:Tr c D sl hs (Q .normal)):Tr c D sl hs (Exit.inBlock id Q .normal):=qZ h
theorem Jk (h:Tr c D sl hs N):Tr c D sl hs (WP P r .skip (Exit.then N Q)):=s_t h
theorem Jl {c:Cx} {D:List Nat} {sl:aL} {hs:List bd} {Q:Exit->Act->World->Prop}
  (h:Tr c D sl hs (Q (.exit id))):Tr c D sl hs (Exit.then N Q (.exit id)):=Aw h
theorem Jm {c:Cx} {D:List Nat} {sl:aL} {hs:List bd} {Q:Exit->Act->World->Prop}
  (h:Tr c D sl hs (Q .ret)):Tr c D sl hs (Exit.inBlock id Q .ret):=Ed h
theorem Jo {c:Cx} {D:List Nat} {sl:aL} {hs:List bd} {Q:Exit->Act->World->Prop}
  (h:Tr c D sl hs (Q .normal)):Tr c D sl hs (Exit.inBlock id Q (.exit id)):=Cn h
theorem Jp (h:Tr c D sl hs (Q (.exit id))):Tr c D sl hs (WP P r (.exit id) (Exit.then N Q)):=x_t h
theorem Jn (h:Tr c D sl hs N):Tr c D sl hs (WL P r ops (Exit.then N Q) []):=n_t h
theorem Jr {l:List Oper} {y:Code} (h:Tr c D sl hs (WL P r l.toArray (Exit.then (WP P r y Q) Q) l)):Tr c D sl hs (WP P r (.seq (.region id l.toArray false) y) Q):=s_r h
theorem Ju (h:Tr c D sl hs (Q .ret)):Tr c D sl hs (WP P r .ret (Exit.then N Q)):=r_t h
theorem Jw {P:Program} {r:Option Nat} {c:Cx} {D:List Nat} {sl:aL} {hs:List bd} {Q:Exit->Act->World->Prop}
  (h:Tr c D sl hs (Q .normal)):Tr c D sl hs (WP P r .skip Q):=Ay h
theorem Jx {P:Program} {r:Option Nat} {c:Cx} {D:List Nat} {sl:aL} {hs:List bd} {ops:Array Oper} {Q:Exit->Act->World->Prop}
  (h:Tr c D sl hs (Q .normal)):Tr c D sl hs (WL P r ops Q []):=kJ h
theorem Jv (h:(bif Nat.blt d c.nt then ev sl x else none)=some v) (k:Tr c D ((d,v)::sl) hs (WL P r ops Q rest)):Tr c D sl hs (WL P r ops Q (⟨some d,.move x,ty,pos,af,none⟩::rest)):=HK (bc h).2 (bc h).1 k
theorem Ja (h:(bif Nat.blt d c.nt then ev sl x else none)=some v) (k:Tr c D ((d,v)::sl) hs (WL P r ops Q rest)):Tr c D sl hs (WL P r ops Q (⟨some d,.assign x,ty,pos,af,none⟩::rest)):=R7 (bc h).2 (bc h).1 k
theorem JA {t u:TypeId} (h:(bif Nat.blt d c.nt then ((ev sl x).bind fun a=>(ev sl y).map fun b=>(a,b)) else none)=some (.int k a,.int k b)) (k:Tr c D ((d,.bool (decide (a<b)))::sl) hs (WL P r ops Q rest)):Tr c D sl hs (WL P r ops Q (⟨some d,.binOp .lss t x y u,ty,pos,af,none⟩::rest)):=ab (lr (.of (bp (bc h).2).1) (.of (bp (bc h).2).2)) (bc h).1 k
theorem JC {t u:TypeId} (h:(bif Nat.blt d c.nt then ((ev sl x).bind fun a=>(ev sl y).map fun b=>(a,b)) else none)=some (.int k a,.int k b)) (k:Tr c D ((d,.bool (decide (a=b)))::sl) hs (WL P r ops Q rest)):Tr c D sl hs (WL P r ops Q (⟨some d,.binOp .eql t x y u,ty,pos,af,none⟩::rest)):=ab (oo (.of (bp (bc h).2).1) (.of (bp (bc h).2).2)) (bc h).1 k
theorem JD {t u:TypeId} (h:(bif Nat.blt d c.nt then ((ev sl x).bind fun a=>(ev sl y).map fun b=>(a,b)) else none)=some (.int k a,.int k b)) (k:Tr c D ((d,.bool (decide (a≠b)))::sl) hs (WL P r ops Q rest)):Tr c D sl hs (WL P r ops Q (⟨some d,.binOp .neq t x y u,ty,pos,af,none⟩::rest)):=ab (j8 (.of (bp (bc h).2).1) (.of (bp (bc h).2).2)) (bc h).1 k
theorem JE {t u:TypeId} (h:(bif Nat.blt d c.nt then ((ev sl x).bind fun a=>(ev sl y).map fun b=>(a,b)) else none)=some (.int k a,.int k b)) (k:Tr c D ((d,.bool (decide (b<a)))::sl) hs (WL P r ops Q rest)):Tr c D sl hs (WL P r ops Q (⟨some d,.binOp .gtr t x y u,ty,pos,af,none⟩::rest)):=ab (nr (.of (bp (bc h).2).1) (.of (bp (bc h).2).2)) (bc h).1 k
theorem JF {t u:TypeId} (h:(bif Nat.blt d c.nt then ((ev sl x).bind fun a=>(ev sl y).map fun b=>(a,b)) else none)=some (.int k a,.int k b)) (k:Tr c D ((d,.bool (decide (a<=b)))::sl) hs (WL P r ops Q rest)):Tr c D sl hs (WL P r ops Q (⟨some d,.binOp .leq t x y u,ty,pos,af,none⟩::rest)):=ab (nq (.of (bp (bc h).2).1) (.of (bp (bc h).2).2)) (bc h).1 k
theorem JG {t u:TypeId} (h:(bif Nat.blt d c.nt then ((ev sl x).bind fun a=>(ev sl y).map fun b=>(a,b)) else none)=some (.int k a,.int k b)) (k:Tr c D ((d,.bool (decide (b<=a)))::sl) hs (WL P r ops Q rest)):Tr c D sl hs (WL P r ops Q (⟨some d,.binOp .geq t x y u,ty,pos,af,none⟩::rest)):=ab (AR (.of (bp (bc h).2).1) (.of (bp (bc h).2).2)) (bc h).1 k
theorem JB {t u:TypeId} (h:(bif Nat.blt d c.nt then ((ev sl x).bind fun a=>(ev sl y).map fun b=>(a,b)) else none)=some (.q a,.q b)) (hb:-9223372036854775808<=a+b/\a+b<=9223372036854775807) (k:Tr c D ((d,.q (a+b))::sl) hs (WL P r ops Q rest)):Tr c D sl hs (WL P r ops Q (⟨some d,.binOp .add t x y u,ty,pos,af,none⟩::rest)):=ab (KO (.of (bp (bc h).2).1) (.of (bp (bc h).2).2) (Tx hb)) (bc h).1 k
theorem JS {t u:TypeId} (h:(bif Nat.blt d c.nt then ((ev sl x).bind fun a=>(ev sl y).map fun b=>(a,b)) else none)=some (.q a,.q b)) (hb:-9223372036854775808<=a-b/\a-b<=9223372036854775807) (k:Tr c D ((d,.q (a-b))::sl) hs (WL P r ops Q rest)):Tr c D sl hs (WL P r ops Q (⟨some d,.binOp .sub t x y u,ty,pos,af,none⟩::rest)):=ab (tK (.of (bp (bc h).2).1) (.of (bp (bc h).2).2) (Tx hb)) (bc h).1 k
theorem JH {t:TypeId} {b:Bool} (h:(bif Nat.blt d c.nt then ev sl x else none)=some (.bool b)) (k:Tr c D ((d,.bool (!b))::sl) hs (WL P r ops Q rest)):Tr c D sl hs (WL P r ops Q (⟨some d,.unOp .not t x,ty,pos,af,none⟩::rest)):=ab (eF (.of (bc h).2)) (bc h).1 k
theorem JI {t e:TypeId} {b:Option Addr} {n cap:Nat} [jw P t (.slice e)] (h:(bif Nat.blt d c.nt then ev sl x else none)=some (.slice b n cap)) (k:Tr c D ((d,.q n)::sl) hs (WL P r ops Q rest)):Tr c D sl hs (WL P r ops Q (⟨some d,.call ⟨.builtin .len,#[x],#[t]⟩,ty,pos,af,none⟩::rest)):=ab (cq (e:=e) (.of (bc h).2)) (bc h).1 k
theorem JJ {i:Nat} {vs:List Value} (h:(bif Nat.blt d c.nt then ev sl x else none)=some (.tuple vs.toArray)) (hv:u6 vs i=some v) (k:Tr c D ((d,v)::sl) hs (WL P r ops Q rest)):Tr c D sl hs (WL P r ops Q (⟨some d,.extract x i,ty,pos,af,none⟩::rest)):=ab (fR (.of (bc h).2) hv) (bc h).1 k
theorem JK {r:Option Nat} {D:List Nat} {ops:Array Oper} {Q:Exit->Act->World->Prop} {d:Option Tmp} {op:Op} {rest:List Oper} {j gs:Nat} {want:Bool} (hj:((ops[j]?).bind (·.dst))=some gs) (hq:c5 sl gs=some (.bool want))
  (k:Tr c D sl hs (WL P r ops Q (⟨d,op,ty,pos,af,none⟩::rest))):Tr c D sl hs (WL P r ops Q (⟨d,op,ty,pos,af,some (j,want)⟩::rest)):=Sx hj hq k
theorem JL {t:TypeId} {n:Nat} {b o:Nat} {E:TypeId} {fz:Nat×Nat} [Ty P t false n] (h:(bif Nat.blt d c.nt then ev sl x else none)=some (.pointer (some ⟨b,o,none⟩))) (ht:Take hs (SL.bz b (.cells cs.toArray E fz)) hs') (hv:u6 cs o=some v) (k:Tr c D ((d,v)::sl) hs (WL P r ops Q rest)):Tr c D sl hs (WL P r ops Q (⟨some d,.load t x,ty,pos,af,none⟩::rest)):=ab (ag (.of (bc h).2) (At.lit ht hv)) (bc h).1 k
theorem Jc {inst:Decidable p} {u v:Code} (hx:ev sl x=some (.bool (decide p))) (hf:¬ p->Tr c D sl hs (WP P r v Q)) (ht:p->Tr c D sl hs (WP P r u Q):=by intro h;exfalso;omega):Tr c D sl hs (WP P r (.cond x u v) Q):=gG hx ht hf
theorem Jd {inst:Decidable p} {u v:Code} (hx:ev sl x=some (.bool (decide p))) (ht:p->Tr c D sl hs (WP P r u Q)) (hf:¬ p->Tr c D sl hs (WP P r v Q):=by intro h;exfalso;omega):Tr c D sl hs (WP P r (.cond x u v) Q):=gG hx ht hf
theorem Jy {t:TypeId} (h:(bif Nat.blt d c.nt then ev sl x else none)=some v) (hc:v.cells=cs.toArray) (k:∀ b,c.w0.heap.size<=b->Tr c D ((d,.p b)::sl) (bz b (.cells cs.toArray t)::hs) (WL P r ops Q rest)):Tr c D sl hs (WL P r ops Q (⟨some d,.box t x,ty,pos,af,none⟩::rest)):=a8 (Ex (.of (bc h).2) hc) (bc h).1 k
theorem Jz {t:TypeId} {z:Value} [mL P t z] (hc:z.cells=cs.toArray) (hd:Nat.blt d c.nt=true) (k:∀ b,c.w0.heap.size<=b->Tr c D ((d,.p b)::sl) (bz b (.cells cs.toArray t)::hs) (WL P r ops Q rest)):Tr c D sl hs (WL P r ops Q (⟨some d,.alloc t,ty,pos,af,none⟩::rest)):=a8 (kZ hc) hd k
end
theorem JN {P:Program} {r:Option Nat} {c:Cx} {D:List Nat} {sl:aL} {hs:List bd} {Q:Exit->Act->World->Prop} {ops:Array Oper} {d:Nat} {op:Op} {ty:TypeId} {pos:String} {af:Array Edge} {rest:List Oper} {f:FuncId} {args:List Value} {ι:Type} {Φ:ι->Prop} {val:ι->Value} {own:ι->List bd} (hr:mM P sl ⟨some d,op,ty,pos,af,none⟩ f args) (hd:Nat.blt d c.nt=true) (hc:∀ w,Mem c hs w->bh P f args w [] Φ val own)
  (k:∀ x,Φ x->Tr c D ((d,val x)::sl) (own x++hs) (WL P r ops Q rest)):Tr c D sl hs (WL P r ops Q (⟨some d,op,ty,pos,af,none⟩::rest)):=jZ hr hd bC.nil (fun w fp hm _ hs=>by obtain rfl:fp=[]:=hs;exact hc w hm) k
section
variable {P:Program} {r:Option Nat} {c:Cx} {sl:aL} {hs hs':List bd} {d:Nat} {dst:Option Tmp} {ty:TypeId} {pos:String} {af:Array Edge} {g:Option (Nat×Bool)}
variable {b:Nat} {cs:List Value} {fz:Nat×Nat} {n o:Nat} {v:Value} {vs:List Value} {x:Operand}
theorem iB {t:TypeId} {E:TypeId} [Ty P t false n] (ht:Take hs (SL.bz b (.cells cs.toArray E fz)) hs') (hx:Is sl x (.pointer (some ⟨b,o,none⟩)):=by exact Is.of I) (hv:u6 cs o=some v:=by exact I):du P c sl hs ⟨dst,.load t x,ty,pos,af,g⟩ v:=ag hx (At.lit ht hv)
theorem cm {t:TypeId} {E:TypeId} [Ty P t true n] (ht:Take hs (SL.bz b (.cells cs.toArray E fz)) hs') (hx:Is sl x (.pointer (some ⟨b,o,none⟩)):=by exact Is.of I) (hv:eH cs o n=vs:=by exact ai) (hl:vs.length=n:=by rfl):du P c sl hs ⟨dst,.load t x,ty,pos,af,g⟩ (.agg vs.toArray):=bK hx ht hv hl
theorem lV {t:TypeId} {i o:Nat} {b k q:Nat} [eW P t i o] (hx:Is sl x (.pointer (some ⟨b,k,none⟩)):=by exact Is.of I) (he:k+o=q:=by exact ae):du P c sl hs ⟨dst,.fieldAddr t x i,ty,pos,af,g⟩ (.pointer (some ⟨b,q,none⟩)):=aq hx he
theorem mB (hx:Is sl x v:=by exact Is.of I):du P c sl hs ⟨dst,.move x,ty,pos,af,g⟩ v:=aS hx
theorem iU {t:TypeId} [Ty P t true n] (hv:eR c hs b o vs) (hx:Is sl x (.pointer (some ⟨b,o,none⟩)):=by exact Is.of I) (hl:vs.length=n:=by exact I):du P c sl hs ⟨dst,.load t x,ty,pos,af,g⟩ (.agg vs.toArray):=ja hx hv hl
theorem fY {t e:TypeId} {agg:Bool} {x y:Operand} {a0:Option Addr} {b o len cap q:Nat} {k:IntKind} {i:Int} [hu:jw P t (.slice e)] [Ty P e agg n] (ha:a0=some ⟨b,o,none⟩) (h1:i<len) (hx:Is sl x (.slice a0 len cap):=by exact Is.of I) (hy:Is sl y (.int k i):=by exact Is.of I) (h0:0<=i:=by omega) (he:o+i.toNat*n=q:=by exact aW):du P c sl hs ⟨dst,.indexAddr t x y,ty,pos,af,g⟩ (.pointer (some ⟨b,q,none⟩)):=an hx hy ha h0 h1 he
theorem JT {fn:Func} {v v':Value} {t:Tmp} (hv:v'=v) (H0:c.md=[]:=by exact I) (h1:fn.results=#[.tmp t]:=by exact I) (h2:c5 sl t=some v':=by exact I):Tr c [] sl hs (bodyPostM (FR r) 0 P fn (fun e w'=>e=.returned v/\aJ [] c.w0 w') .ret):=qp H0 (dI h1 h2) hv
end
variable {args cap:List Value} {f:FuncId} {first:List Value} {h:List bd} {ts:Array TypeId}
theorem bI {A x0 x1:bd}:Take (x0::x1::A::h) A (x0::x1::h):=.there (.there .here)
theorem cZ {A x0 x1 x2:bd}:Take (x0::x1::x2::A::h) A (x0::x1::x2::h):=.there bI
theorem dL {A x0 x1 x2 x3:bd}:Take (x0::x1::x2::x3::A::h) A (x0::x1::x2::x3::h):=.there cZ
theorem eD {A x0 x1 x2 x3 x4:bd}:Take (x0::x1::x2::x3::x4::A::h) A (x0::x1::x2::x3::x4::h):=.there dL
theorem mN {A x0 x1 x2 x3 x4 x5:bd}:Take (x0::x1::x2::x3::x4::x5::A::h) A (x0::x1::x2::x3::x4::x5::h):=.there eD
theorem oL {A x0 x1 x2 x3 x4 x5 x6:bd}:Take (x0::x1::x2::x3::x4::x5::x6::A::h) A (x0::x1::x2::x3::x4::x5::x6::h):=.there mN
theorem Iy {A x0 x1 x2 x3 x4 x5 x6 x7:bd}:Take (x0::x1::x2::x3::x4::x5::x6::x7::A::h) A (x0::x1::x2::x3::x4::x5::x6::x7::h):=.there oL
theorem jY {A x0 x1 x2 x3 x4 x5 x6 x7 x8:bd}:Take (x0::x1::x2::x3::x4::x5::x6::x7::x8::A::h) A (x0::x1::x2::x3::x4::x5::x6::x7::x8::h):=.there Iy
theorem nB {A x0 x1 x2 x3 x4 x5 x6 x7 x8 x9:bd}:Take (x0::x1::x2::x3::x4::x5::x6::x7::x8::x9::A::h) A (x0::x1::x2::x3::x4::x5::x6::x7::x8::x9::h):=.there jY
theorem xU {A x0 x1 x2 x3 x4 x5 x6 x7 x8 x9 yQ:bd}:Take (x0::x1::x2::x3::x4::x5::x6::x7::x8::x9::yQ::A::h) A (x0::x1::x2::x3::x4::x5::x6::x7::x8::x9::yQ::h):=.there nB
theorem lD {A x0 x1 x2 x3 x4 x5 x6 x7 x8 x9 yQ FD:bd}:Take (x0::x1::x2::x3::x4::x5::x6::x7::x8::x9::yQ::FD::A::h) A (x0::x1::x2::x3::x4::x5::x6::x7::x8::x9::yQ::FD::h):=.there xU
theorem Iz {A x0 x1 x2 x3 x4 x5 x6 x7 x8 x9 yQ FD IC:bd}:Take (x0::x1::x2::x3::x4::x5::x6::x7::x8::x9::yQ::FD::IC::A::h) A (x0::x1::x2::x3::x4::x5::x6::x7::x8::x9::yQ::FD::IC::h):=.there lD
theorem BX {A x0 x1 x2 x3 x4 x5 x6 x7 x8 x9 yQ FD IC QI:bd}:Take (x0::x1::x2::x3::x4::x5::x6::x7::x8::x9::yQ::FD::IC::QI::A::h) A (x0::x1::x2::x3::x4::x5::x6::x7::x8::x9::yQ::FD::IC::QI::h):=.there Iz
theorem jy {A x0 x1 x2 x3 x4 x5 x6 x7 x8 x9 yQ FD IC QI Sf:bd}:Take (x0::x1::x2::x3::x4::x5::x6::x7::x8::x9::yQ::FD::IC::QI::Sf::A::h) A (x0::x1::x2::x3::x4::x5::x6::x7::x8::x9::yQ::FD::IC::QI::Sf::h):=.there BX
theorem jN {A x0 x1 x2 x3 x4 x5 x6 x7 x8 x9 yQ FD IC QI Sf x15:bd}:Take (x0::x1::x2::x3::x4::x5::x6::x7::x8::x9::yQ::FD::IC::QI::Sf::x15::A::h) A (x0::x1::x2::x3::x4::x5::x6::x7::x8::x9::yQ::FD::IC::QI::Sf::x15::h):=.there jy
theorem dG {v0:Value} (h0:v0.oneCell'=true):∀ u∈[v0],u.oneCell'=true:=bO h0 (ir)
theorem gO {v0 v1:Value} (h0:v0.oneCell'=true) (h1:v1.oneCell'=true):∀ u∈[v0,v1],u.oneCell'=true:=bO h0 (bO h1 (ir))
theorem fv {v0 v1 v2:Value} (h0:v0.oneCell'=true) (h1:v1.oneCell'=true) (h2:v2.oneCell'=true):∀ u∈[v0,v1,v2],u.oneCell'=true:=bO h0 (bO h1 (bO h2 (ir)))
theorem fk {v0 v1 v2 v3 v4 v5:Value} (h0:v0.oneCell'=true) (h1:v1.oneCell'=true) (h2:v2.oneCell'=true) (h3:v3.oneCell'=true) (h4:v4.oneCell'=true) (h5:v5.oneCell'=true):∀ u∈[v0,v1,v2,v3,v4,v5],u.oneCell'=true:=bO h0 (bO h1 (bO h2 (bO h3 (bO h4 (bO h5 (ir))))))
theorem Yn {v0 v1 v2 v3 v4 v5 v6 v7:Value} (h0:v0.oneCell'=true) (h1:v1.oneCell'=true) (h2:v2.oneCell'=true) (h3:v3.oneCell'=true) (h4:v4.oneCell'=true) (h5:v5.oneCell'=true) (h6:v6.oneCell'=true) (h7:v7.oneCell'=true):∀ u∈[v0,v1,v2,v3,v4,v5,v6,v7],u.oneCell'=true:=bO h0 (bO h1 (bO h2 (bO h3 (bO h4 (bO h5 (bO h6 (bO h7 (ir))))))))
theorem bS {sl w:aL} (h:my sl w:=by repeat' first | with_reducible exact my.nil | ((with_reducible apply my.cons);(case h=>exact I))):my sl w:=h
theorem iQ {hs w q:List bd} (h:bC hs w q:=by repeat' first | with_reducible exact bC.nil | with_reducible apply bC.cons | with_reducible exact Take.here | with_reducible apply Take.there):bC hs w q:=h
theorem nC {P:Program} {sl:aL} {dst:Option Tmp} {ty:TypeId} {pos:String} {af:Array Edge} {g:Option (Nat×Bool)} {x :Operand} (hx:Is sl x (.func (.func f) first.toArray cap.toArray):=by exact Is.of I)  (hb:bV P f:=by exact inferInstance) (he:first++[]++cap=args:=by exact eY):mM P sl ⟨dst,.call ⟨.value x,#[],ts⟩,ty,pos,af,g⟩ f args:=bj (xs:=[]) hx (.nil) hb he
theorem bN {P:Program} {sl:aL} {dst:Option Tmp} {ty:TypeId} {pos:String} {af:Array Edge} {g:Option (Nat×Bool)} {x y0:Operand} {w0:Value} (hx:Is sl x (.func (.func f) first.toArray cap.toArray):=by exact Is.of I) (h0:Is sl y0 w0:=by exact Is.of I) (hb:bV P f:=by exact inferInstance) (he:first++[w0]++cap=args:=by exact eY):mM P sl ⟨dst,.call ⟨.value x,#[y0],ts⟩,ty,pos,af,g⟩ f args:=bj (xs:=[y0]) hx (.cons h0 (.nil)) hb he
theorem bb {P:Program} {sl:aL} {dst:Option Tmp} {ty:TypeId} {pos:String} {af:Array Edge} {g:Option (Nat×Bool)} {x y0 y1:Operand} {w0 w1:Value} (hx:Is sl x (.func (.func f) first.toArray cap.toArray):=by exact Is.of I) (h0:Is sl y0 w0:=by exact Is.of I) (h1:Is sl y1 w1:=by exact Is.of I) (hb:bV P f:=by exact inferInstance) (he:first++[w0,w1]++cap=args:=by exact eY):mM P sl ⟨dst,.call ⟨.value x,#[y0,y1],ts⟩,ty,pos,af,g⟩ f args:=bj (xs:=[y0,y1]) hx (.cons h0 (.cons h1 (.nil))) hb he
theorem eo {P:Program} {sl:aL} {dst:Option Tmp} {ty:TypeId} {pos:String} {af:Array Edge} {g:Option (Nat×Bool)} {x y0 y1 y2:Operand} {w0 w1 w2:Value} (hx:Is sl x (.func (.func f) first.toArray cap.toArray):=by exact Is.of I) (h0:Is sl y0 w0:=by exact Is.of I) (h1:Is sl y1 w1:=by exact Is.of I) (h2:Is sl y2 w2:=by exact Is.of I) (hb:bV P f:=by exact inferInstance) (he:first++[w0,w1,w2]++cap=args:=by exact eY):mM P sl ⟨dst,.call ⟨.value x,#[y0,y1,y2],ts⟩,ty,pos,af,g⟩ f args:=bj (xs:=[y0,y1,y2]) hx (.cons h0 (.cons h1 (.cons h2 (.nil)))) hb he
theorem rZ {P:Program} {sl:aL} {dst:Option Tmp} {ty:TypeId} {pos:String} {af:Array Edge} {g:Option (Nat×Bool)} {x y0 y1 y2 y3:Operand} {w0 w1 w2 w3:Value} (hx:Is sl x (.func (.func f) first.toArray cap.toArray):=by exact Is.of I) (h0:Is sl y0 w0:=by exact Is.of I) (h1:Is sl y1 w1:=by exact Is.of I) (h2:Is sl y2 w2:=by exact Is.of I) (h3:Is sl y3 w3:=by exact Is.of I) (hb:bV P f:=by exact inferInstance) (he:first++[w0,w1,w2,w3]++cap=args:=by exact eY):mM P sl ⟨dst,.call ⟨.value x,#[y0,y1,y2,y3],ts⟩,ty,pos,af,g⟩ f args:=bj (xs:=[y0,y1,y2,y3]) hx (.cons h0 (.cons h1 (.cons h2 (.cons h3 (.nil))))) hb he
theorem DT {P:Program} {sl:aL} {dst:Option Tmp} {ty:TypeId} {pos:String} {af:Array Edge} {g:Option (Nat×Bool)} {x y0 y1 y2 y3 y4:Operand} {w0 w1 w2 w3 w4:Value} (hx:Is sl x (.func (.func f) first.toArray cap.toArray):=by exact Is.of I) (h0:Is sl y0 w0:=by exact Is.of I) (h1:Is sl y1 w1:=by exact Is.of I) (h2:Is sl y2 w2:=by exact Is.of I) (h3:Is sl y3 w3:=by exact Is.of I) (h4:Is sl y4 w4:=by exact Is.of I) (hb:bV P f:=by exact inferInstance) (he:first++[w0,w1,w2,w3,w4]++cap=args:=by exact eY):mM P sl ⟨dst,.call ⟨.value x,#[y0,y1,y2,y3,y4],ts⟩,ty,pos,af,g⟩ f args:=bj (xs:=[y0,y1,y2,y3,y4]) hx (.cons h0 (.cons h1 (.cons h2 (.cons h3 (.cons h4 (.nil)))))) hb he
end Go.SL
namespace Go.Proofs.A1
open Go Go.SL
open Tryz
open Tryz renaming prog->T_
def ints (es:List Int):List (List Value):=es.map fun e=>[.q e]
theorem dz (es:List Int):(ints es).length=es.length:=by simp [ints]
variable {cs:List Value} {es:List Int} {k n p:Nat} {s:ByteArray} {v:Value} {w:World}
theorem jd (h:k<es.length):(ints es)[k]? = some [.q es[k]]:=by simp [ints,h]
theorem kp (h:k<es.length):ints es≠[]:=by intro e;have:=congrArg List.length e;rw [dz] at this;simp at this;subst this;simp at h
inductive cg:List Value->List Int->Prop
 | nil:cg [] []
 | cons {e:Int} {vs:List Value} {es:List Int} (h:cg vs es):cg (.int .i64 e::vs) (e::es)
theorem cg.eq {vs:List Value} (h:cg vs es):(vs.map fun v=>[v])=ints es:=by
 induction h with
 | nil=>rfl
 | cons h ih=>simp only [Z9,ints,ih]
theorem Ra (c:Int) (w:World):ak T_ 323 [.int .u8 c] w (.bool (HR c)):=by
 refine ah func323 I I ?_
 (refine Jr<|Ja I<|Ji<|Jv I<|JF I<|Jv I<|jz I I I I<|aH I I inferInstance (fun hg bE=>(nq (.bM hg I) (.of I))) I<|ab (ch (.of I) I) I<|Jv I<|jz I I I I<|aH I I inferInstance (fun hg bE=>(nq (.of I) (.bM hg I))) I<|aH I I inferInstance (fun hg bE=>(aS (.bM hg I))) I<|gZ I I inferInstance (fun hg bE=>(aS (.of I))) I<|gZ I I inferInstance (fun hg bE=>(nq (.bM hg I) (.of I))) I<|aH I I inferInstance (fun hg bE=>(jn hg (.bM hg I) I)) I<|ab (bH (.of I) I) I<|Ja I<|Jn<|Je<|JT ?_)
 rfl
theorem Wq (c:Int) (w:World):ak T_ 324 [.int .u8 c] w (.bool (Wr c)):=by
 refine ah func324 I I ?_
 (refine Jr<|Ja I<|Ji<|Jv I<|JF I<|Jv I<|jz I I I I<|aH I I inferInstance (fun hg bE=>(nq (.bM hg I) (.of I))) I<|ab (ch (.of I) I) I<|Ja I<|Jn<|Je<|JT ?_)
 rfl
theorem l8 (h:Bool) (e:Int) (w:World):ak T_ 129 [.bool h,.q e] w (.q (cn h e)):=by
 refine ah func129 I I ?_
 (refine Jr<|Ja I<|Jn<|Jq<|Jr<|Jv I<|Jn<|nW I (fun au=>?_) fun au=>?_;refine Jr<|Jv I<|Ja I<|Jn<|Ju<|JT ?_;rotate_left;refine Jk<|Jr<|Ja I<|Jn<|Je<|JT ?_;rotate_right)
 all_goals simp [cn, *]
theorem AV (n l m:Int) (w:World):ak T_ 67 [.q n,.q l,.q m] w (.q (ia n l m)):=by
 refine ah func67 I I ?_
 (refine Jr<|Ja I<|Ji<|Jv I<|Jv I<|JA I<|Jv I<|jz I I I I<|jz I I I I<|aH I I inferInstance (fun hg bE=>(nr (.bM hg I) (.bM hg I))) I<|ab (bH (.of I) I) I<|aj bb I (fun w' aB=>(l8 _ 3 w'))<|Ja I<|Jn<|Je<|JT ?_)
 rfl
theorem Tn (s:ByteArray) (w:World):ak T_ 270 [.string s] w (.bool (k7 s)):=by
 refine ah func270 I I ?_
 (refine Jr<|Ja I<|Jn<|Jq<|Jr<|Jv I<|ab (gI (.of I)) I<|JC I<|Jv I<|jz I I I I<|aH I I inferInstance (fun hg bE=>(gI (.bM hg I))) I<|aH I I inferInstance (fun hg bE=>(nr (.bM hg I) (.of I))) I<|ab (bH (.of I) I) I<|Jv I<|jz I I I I<|aH I I inferInstance (fun hg bE=>(qB (.bM hg I) (.of I) (by omega) (by omega))) I<|fQ I I (fun hg=>(bj (.of I) (.cons (.bM hg I) .nil) inferInstance eY)) I (fun hg w' aB=>(Ra _ w'))<|aH I I inferInstance (fun hg bE=>(eF (.bM hg I))) I<|ab (bH (.of I) I) I<|Jn<|nW I (fun au=>?_) fun au=>?_;refine Jr<|Ja I<|Jn<|Ju<|JT ?_;rotate_left;refine Jk<|Jq<|Jr<|Ja I<|Jn<|J0 ?_;rotate_right)
 ·congr 1;symm;change (_\/_)\/HR (bt s 0)=false at au;unfold k7;rcases au with (h | h) | h
  ·simp;omega
  ·simp;omega
  ·simp [h]
 change (_/\_)/\HR (bt s 0)=true at au;obtain ⟨⟨h0,h1⟩,h2⟩:=au;have hN:k7 s=okF s 1:=by
  unfold k7;rw [h2,decide_eq_true (by omega),decide_eq_true (by omega)];rfl
 rw [hN];refine aV (fun k:Nat=>1<=k/\k<=s.size/\okF s 1=okF s k) (fun k=>[(3,.q k),(0,.string s)]) (fun _=>[]) (fun k=>s.size-k) ?_ ?_
 ·apply aI 1 ⟨by omega,by omega,I⟩
  case hs1=>exact bS
  case ht=>(try simp only [Ze,Zf,Za]);exact .nil
 intro k ⟨Vm,hk,hf⟩;rw [hf];by_cases aM:k<s.size
 ·rw [A7 aM]
  (refine Jq<|Jr<|Jv I<|Jv I<|ab (gI (.of I)) I<|JA I<|Jn<|Jd I fun au=>Jk<|Jq<|J0<|Jr<|Jv I<|Jv I<|ab (qB (.of I) (.of I) (by omega) au) I<|aj bN I (fun w' aB=>(Ra _ w'))<|JH I<|Jv I<|jz I I I I<|jz I I I I<|aH I I inferInstance (fun hg bE=>(qB (.bM hg I) (.bM hg I) (by omega) au)) I<|fQ I I (fun hg=>(bj (.of I) (.cons (.bM hg I) .nil) inferInstance eY)) I (fun hg w' aB=>(Wq _ w'))<|aH I I inferInstance (fun hg bE=>(eF (.bM hg I))) I<|ab (ch (.of I) I) I<|Jv I<|jz I I I I<|jz I I I I<|aH I I inferInstance (fun hg bE=>(qB (.bM hg I) (.bM hg I) (by omega) au)) I<|aH I I inferInstance (fun hg bE=>(j8 (.bM hg I) (.of I))) I<|ab (ch (.of I) I) I<|Jn<|nW I (fun au=>?_) fun au=>?_;refine Jr<|Ja I<|Jn<|Je<|Jm<|Jh<|Jh<|Jm<|Jh<|JT ?_;rotate_left;refine Jw<|Jj<|Jt<|Jg<|Jv I<|JB I (by omega)<|Ja I<|Jn ?_;rotate_right)
  ·congr 1;symm;change (HR (bt s k)=false/\Wr (bt s k)=false)/\bt s k≠95 at au;simp [okB,au]
  ·have ho:okB (bt s k)=true:=by
    change (HR (bt s k)=true\/Wr (bt s k)=true)\/¬ bt s k≠95 at au;rcases au with (h | h) | h
    ·simp [okB,h]
    ·simp [okB,h]
    ·simp [okB,Zo.1 h]
   rw [ho,Zau];rw [A7 aM,ho,Zau] at hf;rw [<- hf];apply aG (k+1) ⟨by omega,by omega,hf⟩ (by omega)
   case hs1=>exact bS
   case ht=>(try simp only [Ze,Zf,Za]);exact .nil
 ·(refine Jq<|Jr<|Jv I<|Jv I<|ab (gI (.of I)) I<|JA I<|Jn<|Jc I fun au=>Jp<|Jl<|Jo<|Jt<|Jr<|Ja I<|Jn<|Je<|JT ?_)
  rw [Gn (by omega)]
theorem aaD (s:ByteArray) (w:World):ak T_ 189 [.string s] w (.q (nmF s)):=by
 refine ah func189 I I ?_
 (refine Jr<|Ja I<|Ji<|Jv I<|aj bN I (fun w' aB=>(Tn s w'))<|JH I<|aj bb I (fun w' aB=>(l8 _ 8 w'))<|Ja I<|Jn<|Je<|JT ?_)
 rfl
theorem P5 (v:Value) (es:List Int) (w:World) (h:Rd w v 1 (ints es)):ak T_ 28 [v] w (.q (aZ es)):=by
 obtain ⟨a,cap,b,o,rfl,dy,bT,ha,hc⟩:=h;rw [dz] at *;unfold maxLen at bT;refine ah func28 I I ?_;refine Jr<|Ja I<|Jn<|Jq<|Jr<|Ja I<|Jn<|J0 ?_;refine aV (fun k:Nat=>k<=es.length/\aZ es=aZ (es.drop k)) (fun k=>[(3,.int .i64 k),(0,.slice a es.length cap)]) (fun _=>[]) (fun k=>es.length-k) ?_ ?_
 ·apply aI 0 ⟨Zi _,I⟩
  case hs1=>exact bS
  case ht=>(try simp only [Ze,Zf,Za]);exact .nil
 intro k ⟨hk,hf⟩;by_cases aM:k<es.length
 ·have cu:=ha (kp aM);have aC:=rd1 hc (jd aM);have hs:=uk aM
  (refine Jq<|Jr<|Jv I<|Jv I<|JI I<|JA I<|Jn<|Jd I fun au=>Jk<|Jq<|J0<|Jr<|Jv I<|Jv I<|ab (fY cu au) I<|ab (ag (.of I) (At.base aC I)) I<|JD I<|Jn<|gG I (fun au=>?_) fun au=>?_;refine Jr<|Jv I<|Jv I<|ab (an (.of I) (.of I) cu (by omega) (by assumption) aW) I<|ab (ag (.of I) (At.base aC I)) I<|Ja I<|Jn<|Je<|Jm<|Jh<|Jh<|Jm<|Jh<|JT ?_;rotate_left;refine Jw<|Jj<|Jt<|Jg<|Jv I<|JB I (by omega)<|Ja I<|Jn ?_;rotate_right)
  ·rw [hf,hs,if_pos au]
  ·apply aG (k+1) ⟨by omega,by rw [hf,hs,if_neg au]⟩ (by omega)
   case hs1=>exact bS
   case ht=>(try simp only [Ze,Zf,Za]);exact .nil
 ·refine Jq<|Jr<|Jv I<|Jv I<|JI I<|JA I<|Jn<|Jc I fun au=>Jp<|Jl<|Jo<|Jt<|Jr<|Ja I<|Jn<|Je<|JT ?_;rw [hf,Zbh (by omega)];rfl
theorem mm (h:Rd w v 1 (cs.map fun v=>[v])) (hl:cg cs es):ak T_ 28 [v] w (.q (aZ es)):=
 P5 v es w (by rw [<- hl.eq];exact h)
theorem eE (h:Bool) (e:Int) (w:World):ak T_ 147 [.bool h,.q e] w (.q (cn h e)):=by
 refine ah func147 I I ?_
 (refine Jr<|Ja I<|Jn<|Jq<|Jr<|Jv I<|Jn<|nW I (fun au=>?_) fun au=>?_;refine Jr<|Jv I<|Ja I<|Jn<|Ju<|JT ?_;rotate_left;refine Jk<|Jr<|Ja I<|Jn<|Je<|JT ?_;rotate_right)
 all_goals simp [cn, *]
theorem nI (n l m:Int) (w:World):ak T_ 134 [.q n,.q l,.q m] w (.q (ia n l m)):=by
 refine ah func134 I I ?_
 (refine Jr<|Ja I<|Ji<|Jv I<|Jv I<|JA I<|Jv I<|jz I I I I<|jz I I I I<|aH I I inferInstance (fun hg bE=>(nr (.bM hg I) (.bM hg I))) I<|ab (bH (.of I) I) I<|aj bb I (fun w' aB=>(eE _ 3 w'))<|Ja I<|Jn<|Je<|JT ?_)
 rfl
theorem P6 (v:Value) (es:List Int) (w:World) (h:Rd w v 1 (ints es)):ak T_ 111 [v] w (.q (aZ es)):=by
 obtain ⟨a,cap,b,o,rfl,dy,bT,ha,hc⟩:=h;rw [dz] at *;unfold maxLen at bT;refine ah func111 I I ?_;refine Jr<|Ja I<|Jn<|Jq<|Jr<|Jv I<|JI I<|Jv I<|Jn<|J0 ?_;refine aV (fun k:Nat=>k<=es.length/\aZ es=aZ (es.drop k)) (fun k=>[(7,.int .i64 k),(6,.int .i64 es.length),(5,.slice a es.length cap)]) (fun _=>[]) (fun k=>es.length-k) ?_ ?_
 ·apply aI 0 ⟨Zi _,I⟩
  case hs1=>exact bS
  case ht=>(try simp only [Ze,Zf,Za]);exact .nil
 intro k ⟨hk,hf⟩;by_cases aM:k<es.length
 ·have cu:=ha (kp aM);have aC:=rd1 hc (jd aM);have hs:=uk aM
  (refine Jr<|JA I<|Jn<|Jq<|Jd I fun au=>Jk<|Jq<|J0<|Jr<|ab (fY cu au) I<|ab (ag (.of I) (At.base aC I)) I<|Ja I<|Ji<|Jv I<|JD I<|Jn<|gG I (fun au=>?_) fun au=>?_;refine Jr<|Jv I<|Ja I<|Jn<|Je<|Jm<|Jh<|Jh<|Jm<|Jh<|JT ?_;rotate_left;refine Jw<|Jj<|Jt<|Jg<|JB I (by omega)<|Jv I<|Jn ?_;rotate_right)
  ·rw [hf,hs,if_pos au]
  ·apply aG (k+1) ⟨by omega,by rw [hf,hs,if_neg au]⟩ (by omega)
   case hs1=>exact bS
   case ht=>(try simp only [Ze,Zf,Za]);exact .nil
 ·refine Jr<|JA I<|Jn<|Jq<|Jc I fun au=>Jp<|Jl<|Jo<|Jt<|Jr<|Ja I<|Jn<|Je<|JT ?_;rw [hf,Zbh (by omega)];rfl
theorem ee (h:Rd w v 1 (cs.map fun v=>[v])) (hl:cg cs es):ak T_ 111 [v] w (.q (aZ es)):=
 P6 v es w (by rw [<- hl.eq];exact h)
theorem X7 (h:p<s.size):bt s p=((s[p]'h).toNat:Nat):=by
 unfold bt;have:s.data.toList[p]? = some (s[p]'h):=by
  rw [ZaM];exact getElem?_pos s.data p h
 rw [this];rfl
theorem zZ (h:p<s.size):(bt s p<128/\((Utf8.decode s p).1:Int)=bt s p/\(Utf8.decode s p).2=1)\/(128<=bt s p/\(128:Int)<=(Utf8.decode s p).1/\1<=(Utf8.decode s p).2):=by
 rw [X7 h];by_cases ha:(s[p]'h).toNat<128
 ·have:=decode_ascii s p h ha
  left;rw [this];exact ⟨by omega,I,I⟩
 ·have:=decode_high s p h (by omega)
  right;omega
theorem CX :s.size=0↔s=⟨#[]⟩:=by
 constructor
 ·intro h;have:s.data=#[]:=Array.eq_empty_of_size_eq_zero h;cases s;simp_all
 ·rintro rfl;rfl
theorem Gv {c:Int}:HR c=true↔(65<=c/\c<=90)\/(97<=c/\c<=122):=by simp [HR]
theorem A8 {c:Int}:okB c=true↔((65<=c/\c<=90)\/(97<=c/\c<=122))\/(48<=c/\c<=57)\/c=95:=by simp [okB,HR,Wr,or_assoc]
theorem EO (s:ByteArray) (w:World):ak T_ 187 [.string s] w (.bool (k7 s)):=by
 refine ah func187 I I ?_
 (refine Jr<|Ja I<|Jn<|Jq<|Jr<|Jv I<|a8 (Hz (.of I)) I fun _ _=>Jn<|J0 ?_)
 rename_i bi hbi;refine aV (fun p:Nat=>p<=s.size/\(p=0\/(1<=p/\HR (bt s 0)=true/\okF s 1=okF s p))) (fun _=>[(7,.p bi),(0,.string s)]) (fun p=>[bz bi (.stringIter s p)]) (fun p=>s.size-p) ?_ ?_
 ·apply aI 0 ⟨by omega,.inl I⟩
  case hs1=>exact bS
  case ht=>(try simp only [Ze,Zf,Za]);exact .h1 .nil
 intro p ⟨hp,hI⟩
 (refine Jr<|Km (.of I) .here I (fun aM=>?_) fun aM=>?_;refine JJ I I<|Jn<|Jq<|cY (.of I)<|Jk<|J0<|Jr<|JJ I I<|JJ I I<|Ja I<|Ja I<|Ji<|Jv I<|JG I<|Jv I<|jz I I I I<|aH I I inferInstance (fun hg bE=>(nq (.bM hg I) (.of I))) I<|ab (ch (.of I) I) I<|Jv I<|jz I I I I<|aH I I inferInstance (fun hg bE=>(AR (.bM hg I) (.of I))) I<|aH I I inferInstance (fun hg bE=>(aS (.bM hg I))) I<|gZ I I inferInstance (fun hg bE=>(aS (.of I))) I<|gZ I I inferInstance (fun hg bE=>(nq (.bM hg I) (.of I))) I<|aH I I inferInstance (fun hg bE=>(jn hg (.bM hg I) I)) I<|ab (bH (.of I) I) I<|Ja I<|Ji<|Jv I<|JH I<|Jv I<|jz I I I I<|aH I I inferInstance (fun hg bE=>(oo (.bM hg I) (.of I))) I<|aH I I inferInstance (fun hg bE=>(aS (.bM hg I))) I<|gZ I I inferInstance (fun hg bE=>(aS (.of I))) I<|gZ I I inferInstance (fun hg bE=>(lr (.bM hg I) (.of I))) I<|gZ I I inferInstance (fun hg bE=>(aS (.bM hg I))) I<|gZ I I inferInstance (fun hg bE=>(aS (.of I))) I<|gZ I I inferInstance (fun hg bE=>(nr (.bM hg I) (.of I))) I<|gZ I I inferInstance (fun hg bE=>(kY hg (.bM hg I) I)) I<|gZ I I inferInstance (fun hg bE=>(aS (.bM hg I))) I<|gZ I I inferInstance (fun hg bE=>(aS (.of I))) I<|gZ I I inferInstance (fun hg bE=>(j8 (.bM hg I) (.of I))) I<|gZ I I inferInstance (fun hg bE=>(jn hg (.bM hg I) I)) I<|aH I I inferInstance (fun hg bE=>(kY hg (.bM hg I) I)) I<|ab (ch (.of I) I) I<|Jn<|nW I (fun au=>?_) fun au=>?_;refine Jr<|Ja I<|Jn<|Je<|Jm<|Jh<|Jm<|Jh<|JT ?_;rotate_left;refine Jw<|Jj<|Jt ?_;rotate_right;rotate_left 2;refine JJ I I<|Jn<|Jq<|bZ (.of I)<|Jp<|Jl<|Jo<|Jt<|Jr<|Jv I<|ab (fy (.of I) (.of I)) I<|Jv I<|jz I I I I<|aH I I inferInstance (fun hg bE=>(gI (.bM hg I))) I<|aH I I inferInstance (fun hg bE=>(nq (.bM hg I) (.of I))) I<|ab (ch (.of I) I) I<|Ja I<|Jn<|Je<|JT ?_;rotate_right 2)
 ·congr 1;symm;unfold k7;have hd:=zZ aM;rcases hI with rfl | ⟨h1,h2,h3⟩
  ·have:HR (bt s 0)=false:=by rw [<- Zar,Gv];omega
   simp [this]
  ·have:okF s p=false:=by
    rw [A7 aM];have:okB (bt s p)=false:=by rw [<- Zar,A8];omega
    rw [this];rfl
   rw [h3,this];simp
 ·have hd:=zZ aM;have ho:okB (bt s p)=true:=by rw [A8];omega
  have hw:(Utf8.decode s p).2=1:=by rw [A8] at ho;omega
  rw [hw];have hn:HR (bt s 0)=true/\okF s 1=okF s (p+1):=by
   rcases hI with rfl | ⟨h1,h2,h3⟩
   ·refine ⟨?_,I⟩;rw [Gv];omega
   ·exact ⟨h2,by rw [h3,A7 aM,ho];rfl⟩
  apply aG (p+1) ⟨by omega,.inr ⟨by omega,hn⟩⟩ (by omega)
  case hs1=>exact bS
  case ht=>(try simp only [Ze,Zf,Za]);exact .h1 .nil
 ·unfold k7;congr 1;by_cases h0:s.size=0
  ·have:s=⟨#[]⟩:=CX.1 h0;rw [decide_eq_false (p:=s≠⟨#[]⟩) (fun h=>h this),decide_eq_false (p:=0<s.size) (by omega)];rfl
  ·rw [decide_eq_true (p:=s≠⟨#[]⟩) (fun h=>h0 (CX.2 h)),decide_eq_true (p:=0<s.size) (by omega)]
   rcases hI with rfl | ⟨h1,h2,h3⟩
   ·omega
   ·rw [h2,h3,Gn (by omega)];simp;omega
def Sr.cells (x:Sr):List Value:=[.string x.nm,.q x.mx]
def vZ (l:List Sr):List (List Value):=l.map Sr.cells
def kG (l:List Sr):List Value:=(vZ l).flatten
theorem ct (l:List Sr):(vZ l).length=l.length:=by simp [vZ]
theorem fV {l:List Sr} (h:k<l.length):(vZ l)[k]? = some ((Sr.cells) l[k]):=by simp [vZ,h]
theorem iK {l:List Sr} (h:k<l.length):vZ l≠[]:=by intro e;have:=congrArg List.length e;rw [ct] at this;simp at this;subst this;simp at h
theorem Ky (l:List Sr):∀ r∈vZ l,r.length=2:=fun r hr=>by obtain ⟨x,_,rfl⟩:=Zy.1 hr;rfl
theorem F5 (l:List Sr):∀ r∈vZ l,∀ u∈r,u.oneCell'=true:=fun r hr=>by obtain ⟨x,_,rfl⟩:=Zy.1 hr;exact bO rfl (bO rfl (ir))
theorem F4 (l:List Sr):(kG l).length=l.length*2:=by unfold kG;rw [fH (Ky l),ct]
theorem Oy (a b:List Sr):kG (a++b)=kG a++kG b:=by unfold kG vZ;rw [Zt,Zaf]
theorem Cr {l:List Sr} (h:k<l.length):kG (l.take (k+1))=kG (l.take k)++(Sr.cells) l[k]:=by rw [Zm h,Oy];unfold kG vZ;simp
theorem cV {c:Cx} {hs hs':List bd} {l:List Sr} {E:TypeId} (hm:Mem c hs w) (ht:Take hs (row E 2 v n (kG l)) hs') (hn:l.length=n):Rd w v 2 (vZ l):=hm.pH ht I (Ky l) (by rw [ct,hn])
def De.cells (x:De):List Value:=[.string x.nm,.q x.mx,.bool x.pr]
def vJ (l:List De):List (List Value):=l.map De.cells
def jX (l:List De):List Value:=(vJ l).flatten
theorem bY (l:List De):(vJ l).length=l.length:=by simp [vJ]
theorem fN {l:List De} (h:k<l.length):(vJ l)[k]? = some ((De.cells) l[k]):=by simp [vJ,h]
theorem iy {l:List De} (h:k<l.length):vJ l≠[]:=by intro e;have:=congrArg List.length e;rw [bY] at this;simp at this;subst this;simp at h
theorem Fh (l:List De):∀ r∈vJ l,r.length=3:=fun r hr=>by obtain ⟨x,_,rfl⟩:=Zy.1 hr;rfl
theorem GX (l:List De):∀ r∈vJ l,∀ u∈r,u.oneCell'=true:=fun r hr=>by obtain ⟨x,_,rfl⟩:=Zy.1 hr;exact bO rfl (bO rfl (bO rfl (ir)))
theorem GW (l:List De):(jX l).length=l.length*3:=by unfold jX;rw [fH (Fh l),bY]
theorem Qj (a b:List De):jX (a++b)=jX a++jX b:=by unfold jX vJ;rw [Zt,Zaf]
theorem Dx {l:List De} (h:k<l.length):jX (l.take (k+1))=jX (l.take k)++(De.cells) l[k]:=by rw [Zm h,Qj];unfold jX vJ;simp
theorem cW {c:Cx} {hs hs':List bd} {l:List De} {E:TypeId} (hm:Mem c hs w) (ht:Take hs (row E 3 v n (jX l)) hs') (hn:l.length=n):Rd w v 3 (vJ l):=hm.pH ht I (Fh l) (by rw [bY,hn])
def Ti.cells (x:Ti):List Value:=[.string x.nm,.q x.fr,.q x.to]
def vm (l:List Ti):List (List Value):=l.map Ti.cells
def kU (l:List Ti):List Value:=(vm l).flatten
theorem bQ (l:List Ti):(vm l).length=l.length:=by simp [vm]
theorem ef {l:List Ti} (h:k<l.length):(vm l)[k]? = some ((Ti.cells) l[k]):=by simp [vm,h]
theorem fm {l:List Ti} (h:k<l.length):vm l≠[]:=by intro e;have:=congrArg List.length e;rw [bQ] at this;simp at this;subst this;simp at h
theorem Ks (l:List Ti):∀ r∈vm l,r.length=3:=fun r hr=>by obtain ⟨x,_,rfl⟩:=Zy.1 hr;rfl
theorem FZ (l:List Ti):∀ r∈vm l,∀ u∈r,u.oneCell'=true:=fun r hr=>by obtain ⟨x,_,rfl⟩:=Zy.1 hr;exact bO rfl (bO rfl (bO rfl (ir)))
theorem FY (l:List Ti):(kU l).length=l.length*3:=by unfold kU;rw [fH (Ks l),bQ]
theorem Og (a b:List Ti):kU (a++b)=kU a++kU b:=by unfold kU vm;rw [Zt,Zaf]
theorem Cp {l:List Ti} (h:k<l.length):kU (l.take (k+1))=kU (l.take k)++(Ti.cells) l[k]:=by rw [Zm h,Og];unfold kU vm;simp
theorem cU {c:Cx} {hs hs':List bd} {l:List Ti} {E:TypeId} (hm:Mem c hs w) (ht:Take hs (row E 3 v n (kU l)) hs') (hn:l.length=n):Rd w v 3 (vm l):=hm.pH ht I (Ks l) (by rw [bQ,hn])
def Po.cells (x:Po):List Value:=[.q x.lv,.string x.ou,.string x.ip]
def uE (l:List Po):List (List Value):=l.map Po.cells
def gA (l:List Po):List Value:=(uE l).flatten
theorem cT (l:List Po):(uE l).length=l.length:=by simp [uE]
theorem iq {l:List Po} (h:k<l.length):(uE l)[k]? = some ((Po.cells) l[k]):=by simp [uE,h]
theorem kl {l:List Po} (h:k<l.length):uE l≠[]:=by intro e;have:=congrArg List.length e;rw [cT] at this;simp at this;subst this;simp at h
theorem K4 (l:List Po):∀ r∈uE l,r.length=3:=fun r hr=>by obtain ⟨x,_,rfl⟩:=Zy.1 hr;rfl
theorem A3 (l:List Po):∀ r∈uE l,∀ u∈r,u.oneCell'=true:=fun r hr=>by obtain ⟨x,_,rfl⟩:=Zy.1 hr;exact bO rfl (bO rfl (bO rfl (ir)))
theorem im (l:List Po):(gA l).length=l.length*3:=by unfold gA;rw [fH (K4 l),cT]
theorem A2 (a b:List Po):gA (a++b)=gA a++gA b:=by unfold gA uE;rw [Zt,Zaf]
theorem CR {l:List Po} (h:k<l.length):gA (l.take (k+1))=gA (l.take k)++(Po.cells) l[k]:=by rw [Zm h,A2];unfold gA uE;simp
theorem cH {c:Cx} {hs hs':List bd} {l:List Po} {E:TypeId} (hm:Mem c hs w) (ht:Take hs (row E 3 v n (gA l)) hs') (hn:l.length=n):Rd w v 3 (uE l):=hm.pH ht I (K4 l) (by rw [cT,hn])
def gT (l:List ByteArray):List (List Value):=l.map fun s=>[.string s]
def aP (l:List ByteArray):List Value:=l.map Value.string
theorem bF (l:List ByteArray):(gT l).length=l.length:=by simp [gT]
theorem fw {l:List ByteArray} (h:k<l.length):(gT l)[k]? = some [.string l[k]]:=by simp [gT,h]
theorem ij {l:List ByteArray} (h:k<l.length):gT l≠[]:=by intro e;have:=congrArg List.length e;rw [bF] at this;simp at this;subst this;simp at h
theorem Ku (l:List ByteArray):∀ r∈gT l,r.length=1:=fun r hr=>by obtain ⟨x,_,rfl⟩:=Zy.1 hr;rfl
theorem vn (l:List ByteArray):∀ r∈gT l,∀ u∈r,u.oneCell'=true:=fun r hr=>by obtain ⟨x,_,rfl⟩:=Zy.1 hr;exact bO rfl ir
theorem pj (l:List ByteArray):aP l=(gT l).flatten:=by
 induction l with
 | nil=>rfl
 | cons x l ih=>show [Value.string x]++aP l=_;rw [ih];rfl
theorem c6 (l:List ByteArray):(aP l).length=l.length:=by simp [aP]
theorem eT (a b:List ByteArray):aP (a++b)=aP a++aP b:=by simp [aP]
theorem eM {c:Cx} {hs hs':List bd} {l:List ByteArray} {E:TypeId} (hm:Mem c hs w) (ht:Take hs (row E 1 v n (aP l)) hs') (hn:l.length=n):Rd w v 1 (gT l):=hm.pH ht (pj l) (Ku l) (by rw [bF,hn])
structure RR (w:World) (r:Ro) (s d t p:Value):Prop where
 sr:Rd w s 2 (vZ r.sr)
 de:Rd w d 3 (vJ r.de)
 ti:Rd w t 3 (vm r.ti)
 po:Rd w p 3 (uE r.po)
theorem RR.keeps {w w':World} {r:Ro} {s d t p:Value} (h:RR w r s d t p) (hk:aJ [] w w'):RR w' r s d t p:=⟨h.sr.keeps hk,h.de.keeps hk,h.ti.keeps hk,h.po.keeps hk⟩
def RA (r:Ro) (s d t p:Value):Value:=.agg #[.q r.lv,.q r.ma,s,d,t,p]
abbrev JQ (b:Nat) (r:Ro) (s d t p:Value):bd:=bz b (.cells #[.q r.lv,.q r.ma,s,d,t,p] 27 (0,0))
abbrev JP (b:Nat) (r:Ro) (s d t p:Value):bd:=bz b (.cells #[.q r.lv,.q r.ma,s,d,t,p] 41 (0,0))
abbrev J1 (r:Ro) (v:Value):bd:=row 186 2 v r.sr.length (kG r.sr)
abbrev J2 (r:Ro) (v:Value):bd:=row 90 3 v r.de.length (jX r.de)
abbrev J3 (r:Ro) (v:Value):bd:=row 187 3 v r.ti.length (kU r.ti)
abbrev J4 (r:Ro) (v:Value):bd:=row 188 3 v r.po.length (gA r.po)
abbrev JW (v:Value) (l:List ByteArray):bd:=row 9 1 v l.length (aP l)
end Go.Proofs.A1
namespace Go.SL
open Go
def Nr (As:List bd):bd where
 sat h fp:=cr h As fp
 loc:=fun hs hb=>hs.loc hb
 own:=fun hs b hb=>hs.own b hb
def fS (E:TypeId):List Value->List (List Value)->List bd
 | v::vs,x::xs=>row E 1 v x.length x::fS E vs xs
 | _,_=>[]
def gY (E:TypeId) (vs:List Value) (xs:List (List Value)):bd:=Nr (fS E vs xs)
theorem zy {E:TypeId} {v:Value} {x:List Value}:∀ {vs:List Value} {xs:List (List Value)} {j:Nat},vs[j]? = some v->xs[j]? = some x->∃ r,Take (fS E vs xs) (row E 1 v x.length x) r
 | [],_,j,h,_=>by simp at h
 | _::_,[],j,_,h=>by simp at h
 | v' :: vs, x' :: xs, 0, h1, h2 => by
  simp only [ZaG,Option.some.injEq] at h1 h2;subst h1 h2;exact ⟨_,.here⟩
 | v' :: vs, x' :: xs, j + 1, h1, h2 => by
  simp only [Zbc] at h1 h2;obtain ⟨r,hr⟩:=zy h1 h2;exact ⟨_,.there hr⟩
theorem zB {E:TypeId} {v:Value} {x:List Value}:∀ {vs:List Value} {xs:List (List Value)},vs.length=xs.length->fS E (vs++[v]) (xs++[x])=fS E vs xs++[row E 1 v x.length x]
 | [],[],_=>rfl
 | [],_::_,h=>by simp at h
 | _::_,[],h=>by simp at h
 | v' :: vs, x' :: xs, h => by
  simp only [ZE,Nat.add_right_cancel_iff] at h;simp only [Zb,fS,zB h]
theorem Mem.wA {c:Cx} {hs hs':List bd} {w:World} {E:TypeId} {vs:List Value} {xs:List (List Value)} {j:Nat} {v:Value} {x:List Value} (hm:Mem c hs w) (ht:Take hs (gY E vs xs) hs') (hv:vs[j]? = some v) (hx:xs[j]? = some x):Rd w v 1 (x.map fun u=>[u]):=by
 obtain ⟨k,fp,hn,⟨f1,f2,rfl,h1,h2⟩,hb⟩:=hm.take ht;have l5:Mem c (fS E vs xs++hs') w:=⟨k,f1++f2,hn,cr.append_iff.2 ⟨f1,f2,I,h1,h2⟩,hb⟩;obtain ⟨r,hr⟩:=zy (E:=E) hv hx;exact l5.KS (hr.append hs') I
section
variable {P:Program} {r:Option Nat} {c:Cx} {D:List Nat} {sl:aL} {hs hs':List bd} {X:Act->World->Prop} {Q:Exit->Act->World->Prop} {ι:Type}
variable {ops:Array Oper} {d:Nat} {ty:TypeId} {pos:String} {af:Array Edge} {rest:List Oper}
theorem j7 {E:TypeId} {vs:List Value} {xs:List (List Value)} {v:Value} {x:List Value} {n:Nat} {h1 h2:List bd} (ht:Take hs (gY E vs xs) h1) (ht2:Take h1 (row E 1 v n x) h2) (hn:n=x.length) (hl:vs.length=xs.length)
  (k:Tr c D sl (gY E (vs++[v]) (xs++[x])::h2) X):Tr c D sl hs X:=fun a w a7=>by
 subst hn;have hT:bC hs [gY E vs xs,row E 1 v x.length x] h2:=.cons ht (.cons ht2 .nil);have hm:=a7.mem.jR (hT.append (nE D));obtain ⟨kk,fp,uR,⟨f1,f2',rfl,g1,⟨f2,f3,rfl,g2,g3⟩⟩,hb⟩:=hm;refine k a w (a7.heap ⟨kk,(f1++f2)++f3,by rw [Zh];exact uR,⟨f1++f2,f3,I,?_,g3⟩,by rw [Zh];exact hb⟩);show cr (hp w) (fS E (vs++[v]) (xs++[x])) (f1++f2);rw [zB hl];exact cr.append_iff.2 ⟨f1,f2,I,g1,⟨f2,[],by simp,g2,I⟩⟩
theorem ie (E:TypeId) (k:Tr c D sl (gY E [] []::hs) X):Tr c D sl hs X:=fun a w a7=>
 k a w (a7.heap (Mem.change (As := []) (Bs := [gY E [] []]) a7.mem fun fp _ hf => by
  rw [show fp=[] from hf];exact ⟨.refl _ _,[],Zah,⟨[],[],I,I,I⟩,by simp⟩))
variable {As:List bd}
theorem y6 (ht:Take hs (Nr As) hs') (k:Tr c D sl (As++hs') X):Tr c D sl hs X:=fun a w a7=>by
 obtain ⟨kk,fp,hn,⟨f1,f2,rfl,h1,h2⟩,hb⟩:=a7.mem.take (ht.append _);exact k a w (a7.heap ⟨kk,f1++f2,hn,by rw [Zh];exact cr.append_iff.2 ⟨f1,f2,I,h1,h2⟩,hb⟩)
theorem tB (ht:bC hs As hs') (k:Tr c D sl (Nr As::hs') X):Tr c D sl hs X:=fun a w a7=>by
 obtain ⟨kk,fp,hn,iv,hb⟩:=a7.mem.jR (ht.append (nE D));obtain ⟨f1,f2,rfl,h1,h2⟩:=cr.append_iff.1 iv;exact k a w (a7.heap ⟨kk,f1++f2,hn,⟨f1,f2,I,h1,h2⟩,hb⟩)
theorem gq {op:Op} {f:FuncId} {args:List Value} {Φ:ι->Prop} {val:ι->Value} {own:ι->List bd} (hr:mM P sl ⟨some d,op,ty,pos,af,none⟩ f args) (hd:Nat.blt d c.nt=true) (ht:bC hs As hs')
  (hc:∀ w fp,Mem c hs w->fp.Nodup->cr (hp w) As fp->(∀ b∈fp,b∈c.md\/c.w0.heap.size<=b)->(∀ b o h2,Take hs' (bz b o) h2->b ∉ fp)->bh P f args w fp Φ val own)
  (k:∀ x,Φ x->Tr c D ((d,val x)::sl) (own x++hs') (WL P r ops Q rest)):Tr c D sl hs (WL P r ops Q (⟨some d,op,ty,pos,af,none⟩::rest)):=fun a w a7=>by
 have hm:=a7.mem.jR (ht.append (nE D));obtain ⟨kk,fp,hn,iv,hb⟩:=hm;obtain ⟨f1,f2,rfl,h1,h2⟩:=cr.append_iff.1 iv;obtain ⟨n1,n2,n12⟩:=ZK.1 hn;have lz:∀ b o h3,Take hs' (bz b o) h3->b ∉ f1:=fun b o h3 htk PV=>by
  obtain ⟨g1,g2,⟨e1,_⟩,_,hp⟩:=cr.take (htk.append (nE D)) h2;have:b∈f2:=hp.mem_iff.2 (ZJ _ (by rw [e1];simp));exact n12 b PV b this I
 refine Ak I hr a7.dj (hc w f1 a7.qS n1 h1 (fun b dM=>(hb b (ZJ _ dM)).symm) lz) fun e w' ⟨x,he,hx,hk,mH,uR,hs',zQ⟩=>⟨val x,he,k x hx _ _ ((a7.put (by simpa [Z4] using hd) (val x)).heap ?_)⟩;have aM:∀ b∈f2,b<w.heap.size:=fun b dM=>let ⟨o,ho⟩:=h2.own b dM;lg ho
 rw [Zh];refine ⟨?_,mH++f2,?_,cr.append_iff.2 ⟨mH,f2,I,hs',h2.loc fun b dM=>?_⟩,?_⟩
 ·refine ⟨hk.os.trans kk.os,hk.tape.trans kk.tape,hk.output.trans kk.output,ZS kk.dr hk.dr,ZS kk.size hk.size,fun b dM hm=>?_⟩;rw [<- kk.block b dM hm];refine hk.block b (ZaO dM kk.size) (fun hf=>?_);rcases hb b (ZJ _ hf) with h | h
  ·omega
  ·exact hm h
 ·refine ZK.2 ⟨uR,n2,fun x hx y hy e=>?_⟩;subst e;rcases zQ x hx with h | h
  ·exact n12 x h x hy I
  ·have:=aM x hy;omega
 ·exact hk.block b (aM b dM) (fun hf=>n12 b hf b dM I)
 ·intro b dM;rcases ZB.1 dM with h | h
  ·rcases zQ b h with h | h
   ·exact hb b (ZJ _ h)
   ·exact .inl (ZS kk.size h)
  ·exact hb b (ZW _ h)
end
end Go.SL
namespace Go.Proofs.A1
open Go Go.SL
open Tryz
open Tryz renaming prog->T_
def iT {α:Type} (p:α->Bool) (l:List α):Int:=((List.range l.length).find? fun i=>(l[i]?.map p).getD false).elim (-1) (fun i=>(i:Int))
theorem gQ {α:Type} {p:α->Bool} {l:List α} {k:Nat} (h:∀ i,i<k->(l[i]?.map p).getD false=false) (hk:k<l.length) (hp:p l[k]=true):iT p l=k:=by
 unfold iT;have:(List.range l.length).find? (fun i=>(l[i]?.map p).getD false)=some k:=by
  rw [List.find?_range_eq_some];exact ⟨by simp [hk,hp],by simpa using hk,fun i hi=>by simpa using h i hi⟩
 rw [this];rfl
theorem fP {α:Type} {p:α->Bool} {l:List α} (h:∀ i,i<l.length->(l[i]?.map p).getD false=false):iT p l = -1:=by
 unfold iT;have:(List.range l.length).find? (fun i=>(l[i]?.map p).getD false)=none:=by
  rw [ZaQ];intro i hi;simp [h i (ZX.1 hi)]
 rw [this];rfl
theorem lf {α:Type} (p:α->Bool) (l:List α):decide (0<=iT p l)=l.any p:=by
 unfold iT;cases h:(List.range l.length).find? fun i=>(l[i]?.map p).getD false with
 | none =>
  have:l.any p=false:=by
   rw [Zas];intro x hx;obtain ⟨i,hi,rfl⟩:=ZA hx;have:=ZaQ.1 h i (ZX.2 hi);simpa [hi] using this
  rw [this];rfl
 | some i =>
  have h1:=ZX.1 (List.mem_of_find?_eq_some h);have h2:=List.find?_some h;have:l.any p=true:=by
   rw [ZQ];exact ⟨l[i],Zj h1,by simpa [h1] using h2⟩
  rw [this];simp
variable {cap:List Value} {f:FuncId} {first:List Value} {lv:Value}
theorem Gz {l:List Sr} {p:Sr->Bool} [bV T_ f] {w:World} (h:Rd w lv 2 (vZ l)) (cF:∀ x∈l,∀ w',aJ [] w w'->ak T_ f (first++[.agg x.cells.toArray]++cap) w' (.bool (p x))) :
  ak T_ 263 [lv,.func (.func f) first.toArray cap.toArray] w (.q (iT p l)):=by
 obtain ⟨a,cp,b,o,rfl,dy,bT,ha,hc⟩:=h;rw [ct] at *;unfold maxLen at bT;refine ah func263 I I ?_;refine Jr<|Ja I<|Jn<|Jq<|Jr<|Jv I<|JI I<|Jv I<|Jn<|J0 ?_;refine aV (fun k:Nat=>k<=l.length/\∀ i,i<k->(l[i]?.map p).getD false=false) (fun k=>[(8,.int .i64 k),(7,.int .i64 l.length),(0,.slice a l.length cp),(1,.func (.func f) first.toArray cap.toArray)]) (fun _=>[]) (fun k=>l.length-k) ?_ ?_
 ·apply aI 0 ⟨Zi _,fun i h=>by omega⟩
  case hs1=>exact bS
  case ht=>(try simp only [Ze,Zf,Za]);exact .nil
 rintro k ⟨hk,hf⟩;by_cases aM:k<l.length
 ·have cu:=ha (iK aM);have aC:=(hc k _ (fV aM)).2;have jK:=cF _ (Zj aM);have hps:(l[k]?.map p).getD false=p l[k]:=by simp [aM]
  unfold Sr.cells at aC jK
  (refine Jr<|JA I<|Jn<|Jq<|Jd I fun au=>Jk<|Jq<|J0<|Jr<|Jv I<|Ja I<|Ji<|Jv I<|Jv I<|Jv I<|ab (fY cu au) I<|ab (iU (eR.base aC I)) I<|aj bN I (fun w' aB=>(jK w' (Mem.keeps aB)))<|Jn<|nW I (fun au=>?_) fun au=>?_;refine Jr<|Jv I<|Ja I<|Jn<|Je<|Jm<|Jh<|Jh<|Jm<|Jh<|JT ?_;rotate_left;refine Jw<|Jj<|Jt<|Jg<|JB I (by omega)<|Jv I<|Jn ?_;rotate_right)
  ·rw [gQ hf aM au]
  ·apply aG (k+1) ⟨by omega,fun i hi=>by
    by_cases e:i=k
    ·rw [e,hps];exact au
    ·exact hf i (by omega)⟩ (by omega)
   case hs1=>exact bS
   case ht=>(try simp only [Ze,Zf,Za]);exact .nil
 ·obtain rfl:k=l.length:=by omega
  refine Jr<|JA I<|Jn<|Jq<|Jc I fun au=>Jp<|Jl<|Jo<|Jt<|Jr<|Ja I<|Jn<|Je<|JT ?_;rw [fP hf]
theorem PX {l:List Sr} {p:Sr->Bool} [bV T_ f] {w:World} (h:Rd w lv 2 (vZ l)) (cF:∀ x∈l,∀ w',aJ [] w w'->ak T_ f (first++[.agg x.cells.toArray]++cap) w' (.bool (p x))) :
  ak T_ 227 [lv,.func (.func f) first.toArray cap.toArray] w (.bool (l.any p)):=by
 have jK:∀ w',aJ [] w w'->ak T_ 263 [lv,.func (.func f) first.toArray cap.toArray] w' (.q (iT p l)):=fun w' hk=>
  Gz (h.keeps hk) fun x hx w2 fo=>cF x hx w2 (hk.trans fo)
 rw [<- lf];refine ah func227 I I ?_
 (refine Jr<|Ja I<|Ji<|Jv I<|Jv I<|aj bb I (fun w' aB=>(jK w' (Mem.keeps aB)))<|JG I<|Ja I<|Jn<|Je<|JT ?_)
 rfl
theorem Px {l:List De} {p:De->Bool} [bV T_ f] {w:World} (h:Rd w lv 3 (vJ l)) (cF:∀ x∈l,∀ w',aJ [] w w'->ak T_ f (first++[.agg x.cells.toArray]++cap) w' (.bool (p x))) :
  ak T_ 242 [lv,.func (.func f) first.toArray cap.toArray] w (.q (iT p l)):=by
 obtain ⟨a,cp,b,o,rfl,dy,bT,ha,hc⟩:=h;rw [bY] at *;unfold maxLen at bT;refine ah func242 I I ?_;refine Jr<|Ja I<|Jn<|Jq<|Jr<|Jv I<|JI I<|Jv I<|Jn<|J0 ?_;refine aV (fun k:Nat=>k<=l.length/\∀ i,i<k->(l[i]?.map p).getD false=false) (fun k=>[(8,.int .i64 k),(7,.int .i64 l.length),(0,.slice a l.length cp),(1,.func (.func f) first.toArray cap.toArray)]) (fun _=>[]) (fun k=>l.length-k) ?_ ?_
 ·apply aI 0 ⟨Zi _,fun i h=>by omega⟩
  case hs1=>exact bS
  case ht=>(try simp only [Ze,Zf,Za]);exact .nil
 rintro k ⟨hk,hf⟩;by_cases aM:k<l.length
 ·have cu:=ha (iy aM);have aC:=(hc k _ (fN aM)).2;have jK:=cF _ (Zj aM);have hps:(l[k]?.map p).getD false=p l[k]:=by simp [aM]
  unfold De.cells at aC jK
  (refine Jr<|JA I<|Jn<|Jq<|Jd I fun au=>Jk<|Jq<|J0<|Jr<|Jv I<|Ja I<|Ji<|Jv I<|Jv I<|Jv I<|ab (fY cu au) I<|ab (iU (eR.base aC I)) I<|aj bN I (fun w' aB=>(jK w' (Mem.keeps aB)))<|Jn<|nW I (fun au=>?_) fun au=>?_;refine Jr<|Jv I<|Ja I<|Jn<|Je<|Jm<|Jh<|Jh<|Jm<|Jh<|JT ?_;rotate_left;refine Jw<|Jj<|Jt<|Jg<|JB I (by omega)<|Jv I<|Jn ?_;rotate_right)
  ·rw [gQ hf aM au]
  ·apply aG (k+1) ⟨by omega,fun i hi=>by
    by_cases e:i=k
    ·rw [e,hps];exact au
    ·exact hf i (by omega)⟩ (by omega)
   case hs1=>exact bS
   case ht=>(try simp only [Ze,Zf,Za]);exact .nil
 ·obtain rfl:k=l.length:=by omega
  refine Jr<|JA I<|Jn<|Jq<|Jc I fun au=>Jp<|Jl<|Jo<|Jt<|Jr<|Ja I<|Jn<|Je<|JT ?_;rw [fP hf]
theorem Pv {l:List Ti} {p:Ti->Bool} [bV T_ f] {w:World} (h:Rd w lv 3 (vm l)) (cF:∀ x∈l,∀ w',aJ [] w w'->ak T_ f (first++[.agg x.cells.toArray]++cap) w' (.bool (p x))) :
  ak T_ 246 [lv,.func (.func f) first.toArray cap.toArray] w (.q (iT p l)):=by
 obtain ⟨a,cp,b,o,rfl,dy,bT,ha,hc⟩:=h;rw [bQ] at *;unfold maxLen at bT;refine ah func246 I I ?_;refine Jr<|Ja I<|Jn<|Jq<|Jr<|Jv I<|JI I<|Jv I<|Jn<|J0 ?_;refine aV (fun k:Nat=>k<=l.length/\∀ i,i<k->(l[i]?.map p).getD false=false) (fun k=>[(8,.int .i64 k),(7,.int .i64 l.length),(0,.slice a l.length cp),(1,.func (.func f) first.toArray cap.toArray)]) (fun _=>[]) (fun k=>l.length-k) ?_ ?_
 ·apply aI 0 ⟨Zi _,fun i h=>by omega⟩
  case hs1=>exact bS
  case ht=>(try simp only [Ze,Zf,Za]);exact .nil
 rintro k ⟨hk,hf⟩;by_cases aM:k<l.length
 ·have cu:=ha (fm aM);have aC:=(hc k _ (ef aM)).2;have jK:=cF _ (Zj aM);have hps:(l[k]?.map p).getD false=p l[k]:=by simp [aM]
  unfold Ti.cells at aC jK
  (refine Jr<|JA I<|Jn<|Jq<|Jd I fun au=>Jk<|Jq<|J0<|Jr<|Jv I<|Ja I<|Ji<|Jv I<|Jv I<|Jv I<|ab (fY cu au) I<|ab (iU (eR.base aC I)) I<|aj bN I (fun w' aB=>(jK w' (Mem.keeps aB)))<|Jn<|nW I (fun au=>?_) fun au=>?_;refine Jr<|Jv I<|Ja I<|Jn<|Je<|Jm<|Jh<|Jh<|Jm<|Jh<|JT ?_;rotate_left;refine Jw<|Jj<|Jt<|Jg<|JB I (by omega)<|Jv I<|Jn ?_;rotate_right)
  ·rw [gQ hf aM au]
  ·apply aG (k+1) ⟨by omega,fun i hi=>by
    by_cases e:i=k
    ·rw [e,hps];exact au
    ·exact hf i (by omega)⟩ (by omega)
   case hs1=>exact bS
   case ht=>(try simp only [Ze,Zf,Za]);exact .nil
 ·obtain rfl:k=l.length:=by omega
  refine Jr<|JA I<|Jn<|Jq<|Jc I fun au=>Jp<|Jl<|Jo<|Jt<|Jr<|Ja I<|Jn<|Je<|JT ?_;rw [fP hf]
theorem Bp {l:List Ti} {p:Ti->Bool} [bV T_ f] {w:World} (h:Rd w lv 3 (vm l)) (cF:∀ x∈l,∀ w',aJ [] w w'->ak T_ f (first++[.agg x.cells.toArray]++cap) w' (.bool (p x))) :
  ak T_ 159 [lv,.func (.func f) first.toArray cap.toArray] w (.bool (l.any p)):=by
 have jK:∀ w',aJ [] w w'->ak T_ 246 [lv,.func (.func f) first.toArray cap.toArray] w' (.q (iT p l)):=fun w' hk=>
  Pv (h.keeps hk) fun x hx w2 fo=>cF x hx w2 (hk.trans fo)
 rw [<- lf];refine ah func159 I I ?_
 (refine Jr<|Ja I<|Ji<|Jv I<|Jv I<|aj bb I (fun w' aB=>(jK w' (Mem.keeps aB)))<|JG I<|Ja I<|Jn<|Je<|JT ?_)
 rfl
theorem Bi {l:List Po} {p:Po->Bool} [bV T_ f] {w:World} (h:Rd w lv 3 (uE l)) (cF:∀ x∈l,∀ w',aJ [] w w'->ak T_ f (first++[.agg x.cells.toArray]++cap) w' (.bool (p x))) :
  ak T_ 297 [lv,.func (.func f) first.toArray cap.toArray] w (.q (iT p l)):=by
 obtain ⟨a,cp,b,o,rfl,dy,bT,ha,hc⟩:=h;rw [cT] at *;unfold maxLen at bT;refine ah func297 I I ?_;refine Jr<|Ja I<|Jn<|Jq<|Jr<|Jv I<|JI I<|Jv I<|Jn<|J0 ?_;refine aV (fun k:Nat=>k<=l.length/\∀ i,i<k->(l[i]?.map p).getD false=false) (fun k=>[(8,.int .i64 k),(7,.int .i64 l.length),(0,.slice a l.length cp),(1,.func (.func f) first.toArray cap.toArray)]) (fun _=>[]) (fun k=>l.length-k) ?_ ?_
 ·apply aI 0 ⟨Zi _,fun i h=>by omega⟩
  case hs1=>exact bS
  case ht=>(try simp only [Ze,Zf,Za]);exact .nil
 rintro k ⟨hk,hf⟩;by_cases aM:k<l.length
 ·have cu:=ha (kl aM);have aC:=(hc k _ (iq aM)).2;have jK:=cF _ (Zj aM);have hps:(l[k]?.map p).getD false=p l[k]:=by simp [aM]
  unfold Po.cells at aC jK
  (refine Jr<|JA I<|Jn<|Jq<|Jd I fun au=>Jk<|Jq<|J0<|Jr<|Jv I<|Ja I<|Ji<|Jv I<|Jv I<|Jv I<|ab (fY cu au) I<|ab (iU (eR.base aC I)) I<|aj bN I (fun w' aB=>(jK w' (Mem.keeps aB)))<|Jn<|nW I (fun au=>?_) fun au=>?_;refine Jr<|Jv I<|Ja I<|Jn<|Je<|Jm<|Jh<|Jh<|Jm<|Jh<|JT ?_;rotate_left;refine Jw<|Jj<|Jt<|Jg<|JB I (by omega)<|Jv I<|Jn ?_;rotate_right)
  ·rw [gQ hf aM au]
  ·apply aG (k+1) ⟨by omega,fun i hi=>by
    by_cases e:i=k
    ·rw [e,hps];exact au
    ·exact hf i (by omega)⟩ (by omega)
   case hs1=>exact bS
   case ht=>(try simp only [Ze,Zf,Za]);exact .nil
 ·obtain rfl:k=l.length:=by omega
  refine Jr<|JA I<|Jn<|Jq<|Jc I fun au=>Jp<|Jl<|Jo<|Jt<|Jr<|Ja I<|Jn<|Je<|JT ?_;rw [fP hf]
theorem PY {l:List Po} {p:Po->Bool} [bV T_ f] {w:World} (h:Rd w lv 3 (uE l)) (cF:∀ x∈l,∀ w',aJ [] w w'->ak T_ f (first++[.agg x.cells.toArray]++cap) w' (.bool (p x))) :
  ak T_ 301 [lv,.func (.func f) first.toArray cap.toArray] w (.bool (l.any p)):=by
 have jK:∀ w',aJ [] w w'->ak T_ 297 [lv,.func (.func f) first.toArray cap.toArray] w' (.q (iT p l)):=fun w' hk=>
  Bi (h.keeps hk) fun x hx w2 fo=>cF x hx w2 (hk.trans fo)
 rw [<- lf];refine ah func301 I I ?_
 (refine Jr<|Ja I<|Ji<|Jv I<|Jv I<|aj bb I (fun w' aB=>(jK w' (Mem.keeps aB)))<|JG I<|Ja I<|Jn<|Je<|JT ?_)
 rfl
end Go.Proofs.A1
