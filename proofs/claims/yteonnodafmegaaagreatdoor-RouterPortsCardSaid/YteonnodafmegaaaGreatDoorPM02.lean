/- Parts of the proof: P5h P5i P5j P5k P5l P5m P5n P5o GkMem GkAny GkReg GkEq GkPlan. -/
import Derived.Test.YteonnodafmegaaaGreatDoorPM01
import Derived.Laws.StructEq
set_option linter.unusedSectionVars false
set_option linter.unusedVariables false
set_option linter.unusedSimpArgs false
namespace Go.Proofs.A1
open Go Go.SL
def Ti.zero:Ti:=⟨⟨#[]⟩,0,0⟩
def gZ (r:Ro) (i:Nat):Ti:=r.ti.getD i Ti.zero
def dq (r:Ro) (i:Nat):ByteArray:=(gZ r i).nm
variable {N:Wn} {i:Nat} {p:List Nat} {po:List Po} {s:ByteArray} {v:Int}
theorem qm {r:Ro} (h:i<r.ti.length):(cQ r)[i]'(by unfold cQ;rw [Zd];exact h)=dq r i:=by
 unfold cQ dq gZ;rw [Z1,Zk,Zc h];rfl
theorem mM {r:Ro} (h:i<r.ti.length):dq r i∈cQ r:=by rw [<- qm h];exact Zj _
theorem u4 {r:Ro} (hd:(cQ r).Nodup) {i j:Nat} (hi:i<r.ti.length) (hj:j<r.ti.length) (h:dq r i=dq r j):i=j:=by
 have hl:(cQ r).length=r.ti.length:=by unfold cQ;rw [Zd]
 rw [<- qm hi,<- qm hj] at h;rcases Zau i j with aL | he | aL
 ·exact absurd h (Zab.1 hd i j (by omega) (by omega) aL)
 ·exact he
 ·exact absurd h.symm (Zab.1 hd j i (by omega) (by omega) aL)
theorem sL {r:Ro} (hd:(cQ r).Nodup) {i:Nat} (hi:i<r.ti.length):bB (cQ r) (dq r i)=(i:Nat):=by
 have hl:(cQ r).length=r.ti.length:=by unfold cQ;rw [Zd]
 refine rC (by omega) (qm hi) fun j hj e=>?_;rw [qm (by omega)] at e;have:=u4 hd (by omega) hi e;omega
theorem AS {r:Ro} (hn:oS r) (hd:(cQ r).Nodup) {i:Nat} (hi:i<r.ti.length):k6 r (dq r i)=(gZ r i).fr:=by
 have h1:¬ 0<=bB (cu r) (dq r i):=fun h=>by
  have:dq r i∈cu r:=Classical.byContradiction fun hq=>by have:=cJ.2 hq;omega
  exact hn.dt _ this (mM hi)
 unfold k6;rw [if_neg h1,sL hd hi,if_pos (by omega),ZE];rfl
theorem vv {r:Ro} (hn:oS r) (hd:(cQ r).Nodup) {i:Nat} (hi:i<r.ti.length):kD r (dq r i)=(gZ r i).to:=by
 have h1:¬ 0<=bB (cN r) (dq r i):=fun h=>by
  have:dq r i∈cN r:=Classical.byContradiction fun hq=>by have:=cJ.2 hq;omega
  exact hn.st _ this (mM hi)
 unfold kD;rw [if_neg h1,sL hd hi,if_pos (by omega),ZE];rfl
def dJ (r:Ro) (po:List Po) (v:Int) (s:ByteArray):Wn:=⟨r.ti.length,fun i=>gI po v (dq r i)&&decide (qF po v (cN r) (dq r i)=s),fun i=>!gI po v (dq r i),fun i=>(gZ r i).fr,fun i=>(gZ r i).to,kD r s⟩
def gY (r:Ro) (v:Int):List Po->ByteArray->List Nat->List Po×ByteArray
 | po,x,[]=>(po,x)
 | po,x,i::p=>gY r v (if gI po v (dq r i) then po else eJ r ⟨v,dq r i,x⟩ po) (dq r i) p
def kV (r:Ro) (po:List Po) (v:Int) (s:ByteArray) (p:List Nat) (d:ByteArray):List Po:=eJ r ⟨v,d,(gY r v po s p).2⟩ (gY r v po s p).1
theorem D6 {r:Ro} {po:List Po} {v:Int} {s:ByteArray} (hn:oS r) (hd:(cQ r).Nodup) (hv:0<=v/\v<r.lv) (o9:jy r po):∀ (q u:List Nat) (qw:List Po) (x:ByteArray),(dJ r po v s).ok (u++q)->rL r qw v x->(x∈cN r\/x∈cQ r)->kD r x=(dJ r po v s).fin u->iF qw v 7 x=s->(∀ i,i<r.ti.length->i ∉ u->gI qw v (dq r i)=gI po v (dq r i))->(u=[]->qw=po) ->
  rL r (gY r v qw x q).1 v (gY r v qw x q).2/\((gY r v qw x q).2∈cN r\/(gY r v qw x q).2∈cQ r)/\kD r (gY r v qw x q).2=(dJ r po v s).fin (u++q)/\iF (gY r v qw x q).1 v 7 (gY r v qw x q).2=s /\
  (∀ w y,y∈cu r->eD (gY r v qw x q).1 w y=eD qw w y)/\(∀ w y S,y∈cu r->qF (gY r v qw x q).1 w S y=qF qw w S y)
 | [], u, qw, x, _, h1, h2, h3, h4, _, _ => by
  rw [ZK];exact ⟨h1,h2,h3,h4,fun _ _ _=>rfl,fun _ _ _ _=>rfl⟩
 | i :: q, u, qw, x, dP, h1, h2, h3, h4, h5, h6 => by
  have e:u++i::q=(u++[i])++q:=by simp
  rw [e] at dP ⊢;have bb:=(Wn.jI.1 (Wn.wF dP (ZaW (u++[i]) q))).2;have hi:i<r.ti.length:=Wn.qq bb;have hiu:i ∉ u:=Wn.vU bb;have iP:=mM hi;have Ub:=h5 i hi hiu;unfold Wn.step at bb;simp only [Zn,ZS,decide_eq_true_eq] at bb;obtain ⟨_,_,LH⟩:=bb;rw [gY];by_cases hb:gI qw v (dq r i)=true
  ·rw [if_pos hb];rw [Ub] at hb;rcases LH with ⟨hu,te⟩ | ⟨T4,_⟩
   ·have hu:u=[]:=List.isEmpty_iff.1 hu;have hpp:=h6 hu;subst hpp;have te:(gI qw v (dq r i)&&decide (qF qw v (cN r) (dq r i)=s))=true:=te;rw [Zn,decide_eq_true_eq] at te;refine D6 hn hd hv o9 q (u++[i]) qw (dq r i) dP (o9.V5 fun _=>hb) (.inr iP) ?_ ?_ (fun j hj hju=>rfl) (fun h=>by simp at h)
    ·rw [vv hn hd hi,Wn.ml];rfl
    ·rw [<- zO hn o9 (show (eD qw v (dq r i)).isSome=true from hb)];exact te.2
   ·have T4:(!gI po v (dq r i))=true:=T4;rw [hb] at T4;cases T4
  ·rw [if_neg hb];have fA:eD qw v (dq r i)=none:=by
    unfold gI at hb;cases hq:eD qw v (dq r i) with
    | none=>rfl
    | some z=>rw [hq] at hb;exact absurd rfl hb
   have hm:k6 r (dq r i)=kD r x:=by
    rcases LH with ⟨_,te⟩ | ⟨_,hf⟩
    ·have te:(gI po v (dq r i)&&decide (qF po v (cN r) (dq r i)=s))=true:=te;rw [Zn,<- Ub] at te;exact absurd te.1 hb
    ·rw [AS hn hd hi,h3];exact hf
   have hs:=pJ (p:=⟨v,dq r i,x⟩) h1.rV h1.out (.inr iP) fA;have mT:=sy (p:=⟨v,dq r i,x⟩) (jy.one hs) (jy.one h1.rV)
   obtain ⟨g1,g2,g3,g4,g5,g6⟩:=D6 hn hd hv o9 q (u++[i]) (eJ r ⟨v,dq r i,x⟩ qw) (dq r i) dP (h1.add hn hv h2 (.inr iP) fA hm) (.inr iP) (by rw [vv hn hd hi,Wn.ml];rfl)
    (by rw [Dx hn h1 hv h2 (.inr iP) fA hm,h4])
    (fun j hj hju=>by
     have hne:dq r i≠dq r j:=fun e=>hju (by rw [u4 hd hi hj e];simp)
     unfold gI;rw [mT,if_neg fun e=>hne e.2]
     exact h5 j hj fun e=>hju (Zz.2 (.inl e))) (fun h=>by simp at h)
   refine ⟨g1,g2,g3,g4,fun w y hy=>?_,fun w y S hy=>?_⟩
   ·rw [g5 w y hy,mT,if_neg (fun e=>hn.dt y hy (by rw [<- e.2];exact iP))]
   ·rw [g6 w y S hy,GM hn h1 h2 (.inr iP) fA (fun e=>hn.dt y hy (by rw [e.2];exact iP))]
theorem Kq {r:Ro} {s d:ByteArray} (hn:oS r) (hd:(cQ r).Nodup) (hv:0<=v/\v<r.lv) (o9:jy r po) (hs:s∈cN r) (kz:d∈cu r) (fA:eD po v d=none) {p:List Nat} (dP:(dJ r po v s).ok p) (pQ:(dJ r po v s).fin p=k6 r d) :
  jy r (kV r po v s p d)/\qF (kV r po v s p d) v (cN r) d=s/\(∀ w y,y∈cu r->¬(w=v/\y=d)->qF (kV r po v s p d) w (cN r) y=qF po w (cN r) y/\eD (kV r po v s p d) w y=eD po w y):=by
 have bb:s ∉ cQ r:=hn.st s hs;have WO:eD po v s=none:=iX.2 fun q hq e=>by
  rcases o9.out q hq with h | h
  ·exact hn.sd s hs (e.2 ▸ h)
  ·exact bb (e.2 ▸ h)
 obtain ⟨g1,g2,g3,g4,g5,g6⟩:=D6 hn hd hv o9 p [] po s dP (o9.V5 fun h=>absurd h bb) (.inl hs) rfl (tO WO) (fun _ _ _=>rfl) (fun _=>rfl);have PN:eD (gY r v po s p).1 v d=none:=by rw [g5 v d kz,fA]
 have hm:k6 r d=kD r (gY r v po s p).2:=by rw [g3];exact pQ.symm
 have hA:=g1.add hn hv g2 (.inl kz) PN hm;have hV:=hA.val (hn.dt d kz);have TI:=pJ (p:=⟨v,d,(gY r v po s p).2⟩) g1.rV g1.out (.inl kz) PN;have mT:=sy (p:=⟨v,d,(gY r v po s p).2⟩) (jy.one TI) (jy.one g1.rV);refine ⟨hV,?_,fun w y hy hne=>⟨?_,?_⟩⟩
 ·have h9:(eD (eJ r ⟨v,d,(gY r v po s p).2⟩ (gY r v po s p).1) v d).isSome=true:=by
   rw [mT,if_pos ⟨I,I⟩];rfl
  have h8:=zO hn hV h9;unfold kV;rw [h8,Dx hn g1 hv g2 (.inl kz) PN hm,g4]
 ·unfold kV;rw [GM hn g1 g2 (.inl kz) PN hne,g6 w y _ hy]
 ·unfold kV;rw [mT,if_neg fun e=>hne ⟨e.1.symm,e.2.symm⟩,g5 w y hy]
theorem Ll {g f:Po->Bool}:(po.filter g).filter f=po.filter fun p=>g p&&f p:=by
 rw [Zbz];refine Zbe fun p _=>?_;rw [Bool.and_comm]
theorem Qc {r:Ro} (hn:oS r) (h:jy r po) {g f:Po->Bool} (hg:∀ p∈po,p.ou∈cQ r->g p=true)
  (Rs:∀ p∈po.filter g,p.ou∈cu r->f p=true) (PN:∀ p∈po.filter g,∀ q∈po.filter g,f q=true->q.lv=p.lv->q.ip=p.ou->f p=true) (W6:∀ p∈po.filter g,f p=true->p.ou∈cu r\/∃ q∈po.filter g,f q=true/\q.lv=p.lv/\q.ip=p.ou) :
  jy r ((po.filter g).filter f)/\(∀ v y,y∈cu r->(∀ p∈po,p.lv=v->p.ou=y->g p=true)->eD ((po.filter g).filter f) v y=eD po v y/\qF ((po.filter g).filter f) v (cN r) y=qF po v (cN r) y) /\
  (∀ v y,(∀ p∈po,p.lv=v->p.ou=y->g p=false)->eD ((po.filter g).filter f) v y=none):=by
 have h1:=jy.one h.rV;have hm:∀ p,p∈po.filter g↔p∈po/\g p=true:=fun p=>Zu
 have hk:∀ {p:Po},(g p&&f p)=true↔g p=true/\f p=true:=fun {p}=>Zn _ _ ▸ Iff.rfl
 rw [Ll];have gl:∀ q∈po,(g q&&f q)=true->∀ p∈po,p.lv=q.lv->p.ou=q.ip->(g p&&f p)=true:=by
  intro q hq hkq p hp hv ho;obtain ⟨o8,my⟩:=hk.1 hkq;have ht:p.ou∈cQ r:=by
   rcases h.xU q hq with hs | ht
   ·rcases h.out p hp with hd | hd
    ·exact absurd hd (by rw [ho];exact hn.sd _ hs)
    ·exact hd
   ·rw [ho];exact ht
  have bH:=hg p hp ht;exact hk.2 ⟨bH,PN p ((hm p).2 ⟨hp,bH⟩) q ((hm q).2 ⟨hq,o8⟩) my hv.symm ho.symm⟩
 refine ⟨jy.filter hn h _ (fun p hp ht q hq hkq hv hi=>gl q hq hkq p hp hv.symm hi.symm) (fun p hp ht hkp=>?_),fun v y hy bb=>?_,fun v y yy=>?_⟩
 ·obtain ⟨BW,PE⟩:=hk.1 hkp;rcases W6 p ((hm p).2 ⟨hp,BW⟩) PE with hd | ⟨q,hq,my,uw,hq4⟩
  ·exact absurd ht (hn.dt _ hd)
  ·exact ⟨q,((hm q).1 hq).1,hk.2 ⟨((hm q).1 hq).2,my⟩,uw,hq4⟩
 ·have fj:∀ p∈po,p.lv=v->p.ou=y->(g p&&f p)=true:=fun p hp Nu o9=>by
   have bH:=bb p hp Nu o9;exact hk.2 ⟨bH,Rs p ((hm p).2 ⟨hp,bH⟩) (by rw [o9];exact hy)⟩
  refine ⟨?_,?_⟩
  ·cases hi:eD po v y with
   | none=>exact iX.2 fun p hp=>iX.1 hi p (Zu.1 hp).1
   | some u =>
    obtain ⟨q,hq,Nt,Ri,rfl⟩:=fC hi;have:=lK (h1.filter fun p=>g p&&f p) (Zu.2 ⟨hq,fj q hq Nt Ri⟩)
    rwa [Nt,Ri] at this
  ·unfold qF iF;rw [xE (f:=fun p=>g p&&f p) h1 gl fj]
 ·refine iX.2 fun p hp e=>?_;obtain ⟨BW,PE⟩:=Zu.1 hp;have:=yy p BW e.1 e.2;rw [(hk.1 PE).1] at this;cases this
structure Jb where
 v:Int
 s:ByteArray
 d:ByteArray
def tq (r:Ro) (W:List Po->Jb->Option (List Nat)):List Po->List Jb->Option (List Po)
 | po,[]=>some po
 | po, j :: l => match W po j with
  | none=>none
  | some p=>tq r W (kV r po j.v j.s p j.d) l
theorem AA {r:Ro} {W:List Po->Jb->Option (List Nat)} (hn:oS r) (hd:(cQ r).Nodup) (hW:∀ po j p,W po j=some p->(dJ r po j.v j.s).ok p/\(dJ r po j.v j.s).fin p=k6 r j.d) :
  ∀ (l:List Jb) (po qw:List Po),jy r po->(∀ j∈l,(0<=j.v/\j.v<r.lv)/\j.s∈cN r/\j.d∈cu r/\eD po j.v j.d=none)->l.Pairwise (fun a b=>¬(b.v=a.v/\b.d=a.d))->tq r W po l=some qw ->
  jy r qw/\(∀ j∈l,qF qw j.v (cN r) j.d=j.s)/\∀ v y,y∈cu r->(∀ j∈l,¬(v=j.v/\y=j.d))->qF qw v (cN r) y=qF po v (cN r) y/\eD qw v y=eD po v y
 | [], po, qw, hv, _, _, hr => by
  rw [tq] at hr;cases hr;exact ⟨hv,fun j hj=>absurd hj Zo,fun _ _ _ _=>⟨I,I⟩⟩
 | j :: l, po, qw, hv, hj, hp, hr => by
  rw [tq] at hr;cases hw:W po j with
  | none=>rw [hw] at hr;cases hr
  | some p =>
   rw [hw] at hr;obtain ⟨tb,hs,kz,Bg⟩:=hj j Zr;obtain ⟨dP,pQ⟩:=hW po j p hw;obtain ⟨hV,hc,ho⟩:=Kq hn hd tb hv hs kz Bg dP pQ;obtain ⟨BW,PE⟩:=ZaX.1 hp;obtain ⟨k1,k2,k3⟩:=AA hn hd hW l _ qw hV (fun x hx=>by
    obtain ⟨a1,a2,a3,a4⟩:=hj x (ZM _ hx);exact ⟨a1,a2,a3,by rw [(ho x.v x.d a3 (BW x hx)).2];exact a4⟩) PE hr
   refine ⟨k1,fun x hx=>?_,fun v y hy hne=>?_⟩
   ·rcases ZQ.1 hx with rfl | hx
    ·rw [(k3 x.v x.d kz fun z hz e=>BW z hz ⟨e.1.symm,e.2.symm⟩).1]
     exact hc
    ·exact k2 x hx
   ·obtain ⟨b1,b2⟩:=k3 v y hy fun z hz=>hne z (ZM _ hz);obtain ⟨c1,c2⟩:=ho v y hy (hne j Zr);exact ⟨b1.trans c1,b2.trans c2⟩
def km {α:Type} (lt:α->α->Bool):α->List α->α
 | b,[]=>b
 | b,x::l=>km lt (if lt x b then x else b) l
theorem mW {α:Type} {lt:α->α->Bool} (TG:∀ {a b c},lt a b=true->lt b c=true->lt a c=true) (U7:∀ {a b},a≠b->lt a b=true\/lt b a=true) (hir:∀ a,lt a a=false) :
  ∀ (l:List α) (b:α),km lt b l∈b::l/\∀ q∈b::l,lt q (km lt b l)=false
 | [],b=>⟨Zr,fun q hq=>by
   rcases ZQ.1 hq with rfl | hq
   ·exact hir _
   ·exact absurd hq Zo⟩
 | x :: l, b => by
  rw [km];by_cases hx:lt x b=true
  ·rw [if_pos hx];obtain ⟨h1,h2⟩:=mW (lt:=lt) TG U7 hir l x;refine ⟨ZM _ h1,fun q hq=>?_⟩;rcases ZQ.1 hq with rfl | hq
   ·cases hb:lt q (km lt x l) with
    | false=>rfl
    | true =>
     have:=TG hx hb;rw [h2 x Zr] at this;exact this.symm
   ·exact h2 q hq
  ·rw [if_neg hx];obtain ⟨h1,h2⟩:=mW (lt:=lt) TG U7 hir l b;refine ⟨?_,fun q hq=>?_⟩
   ·rcases ZQ.1 h1 with h | h
    ·rw [h];exact Zr
    ·exact ZM _ (ZM _ h)
   ·rcases ZQ.1 hq with rfl | hq
    ·exact h2 q Zr
    ·rcases ZQ.1 hq with rfl | hq
     ·cases hb:lt q (km lt b l) with
      | false=>rfl
      | true =>
       by_cases he:q=b
       ·subst he;rw [h2 q Zr] at hb;exact hb.symm
       ·have:=TG ((U7 he).resolve_left hx) hb;rw [h2 b Zr] at this;exact this.symm
     ·exact h2 q (ZM _ hq)
theorem Wn.UH {d:Int} {a:List Nat} {l:List (List Nat)} (h:N.all d (N.n+1) []=a::l):N.least d (km N.lt a l):=by
 obtain ⟨h1,h2⟩:=mW (lt:=N.lt) (fun {_ _ _}=>N.lt_trans) (fun {_ _}=>N.wN) N.lt_irrefl l a;rw [<- h] at h1 h2;obtain ⟨k1,k2⟩:=Wn.vq N.oz h1;refine ⟨k1,k2,fun q hq hf=>h2 q ?_⟩;exact Wn.BN (p:=[]) (r:=q) hq hf (Nat.lt_succ_of_le (Wn.ri hq))
theorem Wn.all_none {d:Int} (h:N.all d (N.n+1) []=[]) (p:List Nat) (hp:N.ok p):N.fin p≠d:=fun hf=>by
 have:=Wn.BN (p:=[]) (r:=p) (k:=N.n+1) hp hf (Nat.lt_succ_of_le (Wn.ri hp));rw [h] at this;exact absurd this Zo
def HC (f:ByteArray->Int):List ByteArray->List ByteArray->Bool
 | x::a,y::b=>if x=y then HC f a b else decide (f x<f y)
 | _,_=>false
theorem zr {r:Ro} (hd:(cQ r).Nodup):∀ {a b:List Nat},(∀ i∈a,i<r.ti.length)->(∀ i∈b,i<r.ti.length)->a.length=b.length->HC (bB (cQ r)) (a.map (dq r)) (b.map (dq r))=lexB a b
 | [],[],_,_,_=>rfl
 | i :: a, j :: b, ha, hb, hl => by
  have hi:=ha i Zr;have hj:=hb j Zr;have ih:=zr hd (fun x hx=>ha x (ZM _ hx)) (fun x hx=>hb x (ZM _ hx)) (by simpa using hl) (a:=a) (b:=b)
  rw [Z4,Z4,HC,lexB,ih];by_cases h:i=j
  ·subst h;rw [if_pos I];simp
  ·rw [if_neg fun e=>h (u4 hd hi hj e),sL hd hi,sL hd hj]
   by_cases aL:i<j
   ·simp [aL]
   ·simp [aL,h]
def yC (po:List Po) (v:Int) (l:List ByteArray):Nat:=l.countP fun x=>!gI po v x
theorem zF {r:Ro} (p:List Nat):yC po v (p.map (dq r))=(dJ r po v s).sK p:=by
 unfold yC Wn.sK;rw [List.countP_map]
 rfl
def lsN (r:Ro) (po:List Po) (v:Int) (a b:List ByteArray):Bool:=
 if yC po v a≠yC po v b then decide (yC po v a<yC po v b) else if a.length≠b.length then decide (a.length<b.length) else HC (bB (cQ r)) a b
theorem Ld {r:Ro} (hd:(cQ r).Nodup) {a b:List Nat} (ha:∀ i∈a,i<r.ti.length) (hb:∀ i∈b,i<r.ti.length):lsN r po v (a.map (dq r)) (b.map (dq r))=(dJ r po v s).lt a b:=by
 unfold lsN Wn.lt;rw [zF (s:=s) a,zF (s:=s) b,Zd,Zd];by_cases h1:(dJ r po v s).sK a=(dJ r po v s).sK b
 ·rw [if_neg (by simp [h1])];by_cases h2:a.length=b.length
  ·rw [if_neg (by simp [h2]),zr hd ha hb h2];simp [h1,h2]
  ·rw [if_pos h2];simp [h1,h2]
 ·rw [if_pos h1];simp [h1]
def UW (r:Ro) (po:List Po) (v:Int) (s:ByteArray):Bool->Int->List ByteArray->Option Int
 | _,m,[]=>some m
 | b,m,x::l=>if (b&&(gI po v x&&decide (qF po v (cN r) x=s)))||(!gI po v x&&decide (k6 r x=m)) then UW r po v s false (kD r x) l else none
theorem IV {r:Ro} {po:List Po} {v:Int} {s:ByteArray} (hn:oS r) (hd:(cQ r).Nodup) {m:Int}:∀ (q u:List Nat),(dJ r po v s).ok u->(u++q).Nodup->(∀ i∈q,i<r.ti.length) ->
  (UW r po v s u.isEmpty ((dJ r po v s).fin u) (q.map (dq r))=some m↔(dJ r po v s).ok (u++q)/\(dJ r po v s).fin (u++q)=m)
 | [], u, hu, _, _ => by
  rw [ZK];show some _=some _↔_;rw [Option.some.injEq];exact ⟨fun h=>⟨hu,h⟩,fun h=>h.2⟩
 | i :: q, u, hu, iB, hq => by
  have hi:=hq i Zr;have e:u++i::q=(u++[i])++q:=by simp
  have hiu:i ∉ u:=fun h=>by
   have:=(ZI.1 iB).2.2 i h i Zr;exact this I
  have hc:u.contains i=false:=by
   cases hx:u.contains i with
   | false=>rfl
   | true=>exact absurd (ZaI.1 hx) hiu
  have iY:(dJ r po v s).step u i=((u.isEmpty&&(gI po v (dq r i)&&decide (qF po v (cN r) (dq r i)=s)))||(!gI po v (dq r i)&&decide (k6 r (dq r i)=(dJ r po v s).fin u))):=by
   unfold Wn.step;rw [hc,AS hn hd hi];have:decide (i<(dJ r po v s).n)=true:=decide_eq_true hi;rw [this];rfl
  rw [Z4,UW,<- iY];by_cases hs:(dJ r po v s).step u i=true
  ·rw [if_pos hs,e];have TF:=Wn.jI.2 ⟨hu,hs⟩;have ih:=IV hn hd (m:=m) q (u++[i]) TF (by rw [<- e];exact iB) fun x hx=>hq x (ZM _ hx)
   rw [Wn.ml] at ih;have he:(u++[i]).isEmpty=false:=by simp
   rw [he] at ih;rw [vv hn hd hi];exact ih
  ·rw [if_neg hs];refine ⟨fun h=>(by cases h),fun h=>?_⟩;rw [e] at h;exact absurd (Wn.jI.1 (Wn.wF h.1 (ZaW (u++[i]) q))).2 hs
theorem We {r:Ro} (hn:oS r) (hd:(cQ r).Nodup) {m:Int} {q:List Nat} (iB:q.Nodup) (hq:∀ i∈q,i<r.ti.length) :
  UW r po v s true (kD r s) (q.map (dq r))=some m↔(dJ r po v s).ok q/\(dJ r po v s).fin q=m:=
 IV hn hd q [] (Wn.oz _) iB hq
inductive Wn.Rc (N:Wn):Int->Prop
 | Fk:Wn.Rc N N.Fk
 | ca {i:Nat}:i<N.n->N.ca i=true->Wn.Rc N (N.to i)
 | fe {i:Nat}:i<N.n->N.fe i=true->Wn.Rc N (N.fr i)->Wn.Rc N (N.to i)
theorem y5 {k:Nat} (h:k<p.length):p.take (k+1)=p.take k++[p[k]]:=by
 rw [Zm h]
theorem Wn.F3 (h:N.ok p):∀ k,k<=p.length->N.Rc (N.fin (p.take k))
 | 0,_=>by rw [Ze];exact .Fk
 | k + 1, hk => by
  have ih:=Wn.F3 h k (by omega);have hs:=h k (by omega);rw [y5 (by omega),Wn.ml];have aL:=Wn.qq hs;unfold Wn.step at hs;simp only [Zn,ZS,decide_eq_true_eq] at hs;rcases hs.2.2 with ⟨_,hc⟩ | ⟨hf,he⟩
  ·exact .ca aL hc
  ·exact .fe aL hf (he ▸ ih)
theorem Wn.VT (h:N.ok p):N.Rc (N.fin p):=by
 have:=Wn.F3 h p.length (Zv _);rwa [ZL] at this
theorem Wn.V6 {m:Int} (h:N.Rc m):∃ p,N.ok p/\N.fin p=m:=by
 induction h with
 | Fk=>exact ⟨[],N.oz,rfl⟩
 | @ca i hi hc =>
  refine ⟨[]++[i],Wn.jI.2 ⟨N.oz,?_⟩,Wn.ml _ _ _⟩;unfold Wn.step;simp [hi,hc]
 | @fe i hi hf _ ih =>
  obtain ⟨p,hp,he⟩:=ih;by_cases hm:i∈p
  ·obtain ⟨k,hk,rfl⟩:=ZA hm;exact ⟨p.take (k+1),Wn.Ga hp _,by rw [y5 hk,Wn.ml]⟩
  ·refine ⟨p++[i],Wn.jI.2 ⟨hp,?_⟩,Wn.ml _ _ _⟩;unfold Wn.step;simp [hi,hf,he,hm]
def Wn.X9 (N:Wn) (S:Int->Prop):Prop:=S N.Fk/\∀ i,i<N.n->(N.ca i=true\/N.fe i=true/\S (N.fr i))->S (N.to i)
theorem Wn.VU {S:Int->Prop} (h:N.X9 S) {m:Int} (hm:N.Rc m):S m:=by
 induction hm with
 | Fk=>exact h.1
 | ca hi hc=>exact h.2 _ hi (.inl hc)
 | fe hi hf _ ih=>exact h.2 _ hi (.inr ⟨hf,ih⟩)
theorem Wn.OH {S:Int->Prop} (h:N.X9 S) (hS:∀ m,S m->N.Rc m) (m:Int):S m↔N.Rc m:=⟨hS m,Wn.VU h⟩
theorem MN {o:ByteArray}:gI po v o=true↔∃ p∈po,p.lv=v/\p.ou=o:=by
 unfold gI;constructor
 ·intro h;obtain ⟨i,hi⟩:=Zah.1 h;obtain ⟨p,hp,h1,h2,_⟩:=fC hi;exact ⟨p,hp,h1,h2⟩
 ·rintro ⟨p,hp,h1,h2⟩;cases hq:eD po v o with
  | some _=>rfl
  | none=>exact absurd ⟨h1,h2⟩ (iX.1 hq p hp)
theorem Qx {po qo:List Po} (h:po.Perm qo) (v:Int) (o:ByteArray):gI po v o=gI qo v o:=by
 rw [ZaS,MN,MN];exact ⟨fun ⟨p,hp,e⟩=>⟨p,h.mem_iff.1 hp,e⟩,fun ⟨p,hp,e⟩=>⟨p,h.mem_iff.2 hp,e⟩⟩
def rJ (r:Ro) (v:Int):List Po->ByteArray->List Nat->List Po×ByteArray
 | po,x,[]=>(po,x)
 | po,x,i::p=>rJ r v (if gI po v (dq r i) then po else po++[⟨v,dq r i,x⟩]) (dq r i) p
theorem vM {r:Ro} {v:Int}:∀ (q:List Nat) (po qo:List Po) (x:ByteArray),po.Perm qo->(gY r v po x q).1.Perm (rJ r v qo x q).1/\(gY r v po x q).2=(rJ r v qo x q).2
 | [],po,qo,x,h=>⟨h,rfl⟩
 | i :: q, po, qo, x, h => by
  rw [gY,rJ,Qx h v (dq r i)];by_cases hb:gI qo v (dq r i)=true
  ·rw [if_pos hb,if_pos hb];exact vM q po qo _ h
  ·rw [if_neg hb,if_neg hb];exact vM q _ _ _ ((lT r _ po).trans ((h.cons _).trans (List.perm_append_singleton _ _).symm))
theorem set_perm {r:Ro} {s d:ByteArray}:(kV r po v s p d).Perm ((rJ r v po s p).1++[⟨v,d,(rJ r v po s p).2⟩]):=by
 obtain ⟨h1,h2⟩:=vM (r:=r) (v:=v) p po po s (List.Perm.refl _);unfold kV;rw [h2];exact (lT r _ _).trans ((h1.cons _).trans (List.perm_append_singleton _ _).symm)
theorem Kp {r:Ro} {po S:List Po} {s d:ByteArray} (hv:(kV r po v s p d).Pairwise (fun a b=>ns r a b=true)) (hS:S.Perm ((rJ r v po s p).1++[⟨v,d,(rJ r v po s p).2⟩])) (hs:S.Pairwise (fun a b=>¬ ns r b a=true)):S=kV r po v s p d:=by
 have hp:(kV r po v s p d).Perm S:=set_perm.trans hS.symm;have hk:S.Pairwise (fun a b=>ns r a b=true\/ns r b a=true):=(List.Perm.pairwise_iff (fun {_ _} h=>h.symm) hp).1 (hv.imp fun h=>.inl h)
 have bb:S.Pairwise (fun a b=>ns r a b=true):=(List.Pairwise.and hk hs).imp fun h=>h.1.resolve_right h.2
 exact pj (fun a b h=>Hz a b h) bb hv hp.symm
end Go.Proofs.A1
namespace Go.SL
open Go
def qR (P:Program) (c:Cx) (sl:aN) (hs:List bd) (o:Oper) (V:Nat->Value) (ob:Obj):Prop:=
 (∀ d,o.op≠.defer d)/\∀ a w,bZ sl a->Mem c hs w->(execOp a.eval o).run P w=.ok (.value (V w.heap.size)) (w.alloc ob)
section
variable {P:Program} {r:Option Nat} {c:Cx} {D:List Nat} {sl:aN} {hs hs':List bd} {ops:Array Oper} {Q:Exit->Act->World->Prop} {d:Nat} {dst:Option Tmp} {op:Op} {ty:TypeId} {pos:String} {af:Array Edge} {g:Option (Nat×Bool)} {rest:List Oper}
variable {As:List bd} {R:Ending->World->Prop} {V:Nat->Value} {agg:Bool} {args:List Value} {b:Nat} {cs:List Value} {f:FuncId} {n:Nat} {ob:Obj} {places:List (Nat×Nat)} {vs:List Value} {x:Operand} {xs:List (Nat×Operand)} {z:Value}
theorem bh 
  (hr:qR P c sl hs ⟨some d,op,ty,pos,af,none⟩ V ob) (hd:Nat.blt d c.nt=true) (k:∀ b,c.w0.heap.size<=b->Tr c D ((d,V b)::sl) (bu b ob::hs) (WL P r ops Q rest)) :
  Tr c D sl hs (WL P r ops Q (⟨some d,op,ty,pos,af,none⟩::rest)):=fun a w bb=>by
 refine mJ I ⟨eh _ _ _ _ _,?_⟩;rw [Oper.semAt_eq _ _ _ hr.1,hr.2 a w bb.dw bb.pE];have h1:=(bb.put (by simpa [Z8] using hd) (V w.heap.size));exact k w.heap.size bb.pE.keeps.size _ _ (h1.heap (bb.mem.alloc ob))
theorem KA {t:TypeId} {v:Value} (hx:Is sl x v) (hc:v.cells=cs.toArray):qR P c sl hs ⟨dst,.box t x,ty,pos,af,g⟩ (fun b=>.p b) (.cells cs.toArray t):=
 ⟨by simp,fun a w ha _=>by simp [execOp,hx a ha,Instr.box,newVar,newRow,hc]⟩
theorem kY {t:TypeId} [mA P t z] (hc:z.cells=cs.toArray):qR P c sl hs ⟨dst,.alloc t,ty,pos,af,g⟩ (fun b=>.p b) (.cells cs.toArray t):=
 ⟨by simp,fun a w _ _=>by simp [execOp,Instr.alloc,jf (t:=t) (v:=z),newVar,newRow,hc]⟩
theorem Eo {t:TypeId}:qR P c sl hs ⟨dst,.makeMap t none,ty,pos,af,g⟩ (fun b=>.map (some b)) (.map #[] 0):=
 ⟨by simp,fun a w _ _=>by simp [execOp,Instr.makeMap]⟩
theorem kP {t:TypeId} {parts:Array (Nat×Operand)} {ps:Array (Nat×Value)}
  (hp:∀ a,bZ sl a->(parts.map fun (i,x)=>(i,a.eval x))=ps) (hb:∀ w,(Instr.buildSlice t n ps).run P w=.ok (V w.heap.size) (w.alloc ob)) :
  qR P c sl hs ⟨dst,.buildSlice t n parts,ty,pos,af,g⟩ V ob:=
 ⟨by simp,fun a w ha _=>by simp only [execOp,hp a ha,Sem.run_bind,hb w,Result.andThen_ok,Sem.run_pure]⟩
def wE (vs:List Value):Array (Nat×Value):=(vs.zipIdx.map fun (v,i)=>(i,v)).toArray
theorem zJ:∀ (vs:List Value) (k:Nat) (acc:List Value),(∀ v∈vs,v.oneCell'=true)->k+vs.length<=acc.length ->
  Instr.fill (fun i=>some (i*1,1)) acc.toArray ((vs.zipIdx k).map fun (v,i)=>(i,v))=some (acc.take k++vs++acc.drop (k+vs.length)).toArray
 | [],k,acc,_,_=>by simp [Instr.fill]
 | v :: vs, k, acc, h1, h2 => by
  have hv:=h1 v (by simp);have hc:v.cells=#[v]:=by cases v <;> simp_all [Value.cells,Value.oneCell']
  simp only [ZB] at h2;have e:Array.foldl (fun cs (x:Value×Nat)=>cs.setIfInBounds (k*1+x.2) x.1) acc.toArray #[v].zipIdx=(acc.set k v).toArray:=by
   simp
  simp only [List.zipIdx_cons,Z4,Instr.fill,hc];rw [if_neg (by simp;omega)];simp only [e];rw [zJ vs (k+1) (acc.set k v) (fun u hu=>h1 u (by simp [hu])) (by simp;omega)]
  congr 1;have hk:k<acc.length:=by omega
  simp only [ZB,Zh,Zb];rw [List.take_set,List.drop_set_of_lt (by omega)];rw [show k+1+vs.length=k+(vs.length+1) from by omega];congr 1;rw [Zm hk];rw [Zbm _ _ (by simp;omega)];simp [Zbf (Nat.le_of_lt hk)]
theorem wi {t e:TypeId} [hu:iI P t (.slice e)] [Ty P e false 1] [mA P e z] {vs:List Value} (hl:vs.length=n) (hn:n<=1000) (hz:z.oneCell'=true) (hv:∀ v∈vs,v.oneCell'=true) (w:World) :
  (Instr.buildSlice t n (wE vs)).run P w=.ok (.slice (some ⟨w.heap.size,0,none⟩) n n) (w.alloc (.cells vs.toArray e)):=by
 have hzc:z.cells=#[z]:=by cases z <;> simp_all [Value.cells,Value.oneCell']
 unfold Instr.buildSlice;simp only [Sem.run_bind,aX hu.eq,Result.andThen_ok,gj (t:=e) (agg:=false) (n:=1),Zan];rw [if_neg (by omega)];have hf:∀ (zz:Array Value),zz.size=n->Instr.fill (fun i=>some (i,1)) zz (wE vs).toList=some vs.toArray:=by
  intro zz Yw;have:=zJ vs 0 zz.toList hv (by simp [hl,Yw]);simp only [ZaZ,Zan] at this;simp only [wE];rw [this];simp [hl,Yw]
 by_cases h0:n=0
 ·subst h0;simp only [if_true,Sem.run_bind,Sem.run_pure,Result.andThen_ok];rw [hf _ (by simp)];simp [newRow]
 ·rw [if_neg h0];simp only [Sem.run_bind,jf (t:=e) (v:=z),Result.andThen_ok,Sem.run_pure,hzc];rw [hf _ (by simp)];simp [newRow]
def setCells:List Value->Nat->List Value->List Value
 | cs,_,[]=>cs
 | cs,o,v::vs=>setCells (cs.set o v) (o+1) vs
theorem lp:∀ (vs:List Value) (cs:List Value) (o:Nat),(setCells cs o vs).length=cs.length
 | [],_,_=>rfl
 | v::vs,cs,o=>by simp [setCells,lp vs]
def setBlock (w:World) (b:Nat) (ob:Obj):World:={ w with heap:=w.heap.setIfInBounds b ob }
theorem aI.setBlock (w:World) (b:Nat) (ob:Obj):aI [b] w (setBlock w b ob):=
 ⟨I,I,I,Zv _,by simp [SL.setBlock],fun k hk hm=>by
  have:b≠k:=fun e=>hm (by simp [e])
  simp [SL.setBlock,ZO this]⟩
theorem nb {w:World} (h:b<w.heap.size):(setBlock w b ob).heap[b]? = some ob:=by simp [setBlock,h]
theorem uQ {w:World} {cs:Array Value} {E:TypeId} (h:w.heap[b]? = some (.cells cs E (0,0))) (o:Nat):w.frozen? ⟨b,o,none⟩=false:=by
 simp [World.frozen?,h]
theorem yj {w:World} {E:TypeId} (h:w.heap[b]? = some (.cells cs.toArray E (0,0))) (o:Nat) (v:Value):w.setCell ⟨b,o,none⟩ v=setBlock w b (.cells (cs.set o v).toArray E (0,0)):=by
 unfold World.setCell setBlock;congr 1;apply Array.ext_getElem?;intro k;rw [Zbn];by_cases hk:b=k
 ·subst hk;have:=lf (w:=w) h;rw [if_pos I,h,Array.getElem?_setIfInBounds_self_of_lt this];simp
 ·rw [if_neg hk,ZO hk]
theorem iy {b o:Nat} {E:TypeId}:∀ (vs:List Value) (i:Nat) (cs:List Value) (w:World),w.heap[b]? = some (.cells cs.toArray E (0,0))->(∀ v∈vs,v.oneCell'=true)->o+i+vs.length<=cs.length ->
  ∃ w',(storeCells ⟨b,o,none⟩ vs i).run P w=.ok () w'/\aI [b] w w'/\w'.heap[b]? = some (.cells (setCells cs (o+i) vs).toArray E (0,0))
 | [],i,cs,w,h,_,_=>⟨w,rfl,.refl _ _,h⟩
 | v :: vs, i, cs, w, h, h1, h2 => by
  simp only [ZB] at h2;have aL:=lf (w:=w) h;have bb:(store (Addr.add ⟨b,o,none⟩ i) v).run P w=.ok () (setBlock w b (.cells (cs.set (o+i) v).toArray E (0,0))):=by
   rw [eO,run_store P w _ v .plain (h1 v (by simp)),cell_of_block h];have:(cs.toArray)[o+i]? = some (cs[o+i]'(by omega)):=by simp
   rw [this];simp only [uQ h,ZaV,if_false,yj h]
  obtain ⟨w',h3,h4,h5⟩:=iy (o:=o) vs (i+1) (cs.set (o+i) v) (setBlock w b (.cells (cs.set (o+i) v).toArray E (0,0))) (nb aL) (fun u hu=>h1 u (by simp [hu])) (by simp;omega);refine ⟨w',?_,(aI.setBlock w b _).trans h4,by rw [h5];rfl⟩;simp only [storeCells,Sem.run_bind,bb,Result.andThen_ok,h3]
theorem CD {t:TypeId} [Ty P t agg n] {b o:Nat} {E:TypeId} {v:Value} {vs cs:List Value} {w:World} (h:w.heap[b]? = some (.cells cs.toArray E (0,0))) (hv:v.cells=vs.toArray) (hl:vs.length=n)
  (h1:∀ u∈vs,u.oneCell'=true) (h2:o+n<=cs.length) :
  ∃ w',(storeVar t ⟨b,o,none⟩ v).run P w=.ok () w'/\aI [b] w w'/\w'.heap[b]? = some (.cells (setCells cs o vs).toArray E (0,0)):=by
 obtain ⟨w',h3,h4,h5⟩:=iy (P:=P) (o:=o) vs 0 cs w h h1 (by omega);refine ⟨w',?_,h4,h5⟩;unfold storeVar;rw [Sem.run_bind,gj (t:=t) (agg:=agg) (n:=n),Result.andThen_ok,if_neg (by simp [hv,hl])];simpa [hv] using h3
theorem ak {t:TypeId} [Ty P t agg n] {x y:Operand} {b o:Nat} {E:TypeId} {v:Value} {vs cs RU:List Value} (hx:Is sl x (.pointer (some ⟨b,o,none⟩))) (hy:Is sl y v)
  (ht:Take hs (bu b (.cells cs.toArray E (0,0))) hs') (hv:v.cells=vs.toArray) (hl:vs.length=n) (h1:∀ u∈vs,u.oneCell'=true) (h2:o+n<=cs.length) (he:setCells cs o vs=RU)
  (k:Tr c D sl (bu b (.cells RU.toArray E (0,0))::hs') (WL P r ops Q rest)) :
  Tr c D sl hs (WL P r ops Q (⟨none,.store t x y,ty,pos,af,none⟩::rest)):=fun a w bb=>by
 subst he;have hm:=bb.mem.take (ht.append _);obtain ⟨w',h3,h4,h5⟩:=CD (P:=P) (t:=t) (o:=o) (hm.bu .here) hv hl h1 h2;refine mJ I ⟨eh _ _ _ _ _,?_⟩;rw [Oper.semAt_eq _ _ _ (by simp)];have:(execOp a.eval ⟨none,.store t x y,ty,pos,af,none⟩).run P w=.ok .skip w':=by
  simp [execOp,hx a bb.dw,hy a bb.dw,Instr.storeAt,Instr.sureAddr,h3]
 rw [this];exact k _ _ (bb.heap (Mem.store hm h4 h5))
theorem Du (off:Nat):∀ (vs:List Value) (k:Nat) (cs:List Value),(vs.zipIdx k).foldl (fun (cs:Array Value) (x:Value×Nat)=>cs.setIfInBounds (off+x.2) x.1) cs.toArray=(setCells cs (off+k) vs).toArray
 | [],_,_=>rfl
 | v :: vs, k, cs => by
  simp only [List.zipIdx_cons,List.foldl_cons,List.setIfInBounds_toArray,setCells];exact Du off vs (k+1) (cs.set (off+k) v)
def uE (places:List (Nat×Nat)):List Value->List (Nat×Value)->Option (List Value)
 | cs,[]=>some cs
 | cs, (i, v) :: rest =>
  match places[i]? with
  | some (off,size)=>if v.cells.size=size/\off+size<=cs.length then uE places (setCells cs off v.cells.toList) rest else none
  | none=>none
theorem fill_eq {places:List (Nat×Nat)} {f:Nat->Option (Nat×Nat)} (hf:∀ i x,places[i]? = some x->f i=some x):∀ (ps:List (Nat×Value)) (cs RU:List Value),uE places cs ps=some RU->Instr.fill f cs.toArray ps=some RU.toArray
 | [],cs,RU,h=>by simp only [uE,Option.some.injEq] at h;simp [Instr.fill,h]
 | (i, v) :: rest, cs, RU, h => by
  unfold uE at h;split at h
  ·rename_i off size hp;split at h
   ·rename_i hc;have h2:=fill_eq hf rest _ _ h;unfold Instr.fill;simp only [hf i _ hp];rw [if_neg (by simp [hc.1];omega)];rw [<- h2];congr 1;have:=Du off v.cells.toList 0 cs;simp only [Zas] at this;rw [<- this,<- Array.foldl_toList];simp
   ·cases h
  ·cases h
def zP (P:Program) (t:TypeId):Option (List (Nat×Nat)×List Value):=
 match P.underlying t,P.info? t with
 | some (.struct fs), some i => match i.zero, fs.toList.mapM (fun f => (P.info? f.type).map fun j => (f.offset, j.size)) with
  | some z,some ps=>some (ps,z.cells.toList)
  | _,_=>none
 | some (.array n e), some i => match i.zero, P.info? e with
  | some z,some j=>some ((List.range n).map (fun k=>(k*j.size,j.size)),z.cells.toList)
  | _,_=>none
 | _,_=>none
class DU (P:Program) (t:TypeId) (ps:outParam (List (Nat×Nat))) (z:outParam (List Value)):Prop where
 eq:zP P t=some (ps,z):=by kernel_rfl
theorem wL {w:World}:∀ (fs:List Field) (ps:List (Nat×Nat)),fs.mapM (fun f=>(P.info? f.type).map fun j=>(f.offset,j.size))=some ps ->
  (fs.mapM (fun (f:Field)=>(do pure (f.offset,<- sizeOf f.type):Sem (Nat×Nat)))).run P w=.ok ps w
 | [],ps,h=>by simp at h;simp [h]
 | f :: fs, ps, h => by
  simp only [List.mapM_cons,Option.bind_eq_bind,Option.bind_eq_some_iff,Zam,Option.pure_def,Option.some.injEq] at h;obtain ⟨_,⟨j,hj,rfl⟩,qs,hq,rfl⟩:=h;have:=wL (w:=w) fs qs hq;have hsz:(sizeOf f.type).run P w=.ok j.size w:=by simp [sizeOf,gy hj]
  rw [List.mapM_cons];simp only [Sem.run_bind,hsz,Result.andThen_ok,Sem.run_pure,this]
theorem Hn {t:TypeId} {z cs:List Value} [h:DU P t places z] {ps:List (Nat×Value)} (hf:uE places z ps=some cs) (w:World):(Instr.build t ps.toArray).run P w=.ok (.agg cs.toArray) w:=by
 have h0:=h.eq;unfold zP at h0;split at h0
 ·rename_i fs i hu hi;split at h0
  ·rename_i zz qs hz hq;simp only [Option.some.injEq,Prod.mk.injEq] at h0;obtain ⟨rfl,rfl⟩:=h0;have h1:(zeroValue t).run P w=.ok zz w:=by simp [zeroValue,gy hi,hz]
   have h2:(fs.mapM (fun (f:Field)=>(do pure (f.offset,<- sizeOf f.type):Sem (Nat×Nat)))).run P w=.ok qs.toArray w:=by
    have:=wL (P:=P) (w:=w) fs.toList qs hq;rw [<- ZaZ (xs:=fs),List.mapM_toArray,Sem.run_map,this]
    rfl
   have h3:=fill_eq (f:=fun i=>qs.toArray[i]?) (fun i x hx=>by simpa using hx) ps zz.cells.toList cs hf
   unfold Instr.build;simp only [Sem.run_bind,h1,Result.andThen_ok,aX hu,h2];simp only [ZaZ] at h3;rw [h3]
   rfl
  ·cases h0
 ·rename_i n e i hu hi;split at h0
  ·rename_i zz j hz hj;simp only [Option.some.injEq,Prod.mk.injEq] at h0;obtain ⟨rfl,rfl⟩:=h0;have h1:(zeroValue t).run P w=.ok zz w:=by simp [zeroValue,gy hi,hz]
   have h2:(sizeOf e).run P w=.ok j.size w:=by simp [sizeOf,gy hj]
   have h3:=fill_eq (f:=fun i=>some (i*j.size,j.size)) (fun i x hx=>by
    rw [ZG] at hx;obtain ⟨y,hy,rfl⟩:=Zam.1 hx;have:=Zl.1 hy;obtain ⟨aL,he⟩:=this;simp at he;rw [he]) ps zz.cells.toList cs hf
   unfold Instr.build;simp only [Sem.run_bind,h1,Result.andThen_ok,aX hu,h2];simp only [ZaZ] at h3;rw [h3]
   rfl
  ·cases h0
 ·cases h0
inductive xN (sl:aN):List (Nat×Operand)->List (Nat×Value)->Prop
 | nil:xN sl [] []
 | cons {i:Nat} {x:Operand} {xs:List (Nat×Operand)} {v:Value} {vs:List (Nat×Value)} (h:Is sl x v) (t:xN sl xs vs):xN sl ((i,x)::xs) ((i,v)::vs)
theorem xN.map {vs:List (Nat×Value)} (h:xN sl xs vs) {a:Act} (ha:bZ sl a):(xs.map fun (i,x)=>(i,a.eval x))=vs:=by
 induction h with
 | nil=>rfl
 | cons h _ ih=>simp [h a ha];simpa using ih
theorem aU {t:TypeId} {ps:List (Nat×Value)} {z cs:List Value} [DU P t places z] (hp:xN sl xs ps) (hf:uE places z ps=some cs) :
  du P c sl hs ⟨dst,.build t xs.toArray,ty,pos,af,g⟩ (.agg cs.toArray):=
 Kz (ps:=ps.toArray) (fun a ha=>by simp [<- hp.map ha]) (fun w=>Hn hf w)
inductive tU (sl:aN):Nat->List (Nat×Operand)->List Value->Prop
 | nil {i:Nat}:tU sl i [] []
 | cons {i:Nat} {x:Operand} {xs:List (Nat×Operand)} {v:Value} {vs:List Value} (h:Is sl x v) (t:tU sl (i+1) xs vs):tU sl i ((i,x)::xs) (v::vs)
theorem tU.map {i:Nat} (h:tU sl i xs vs) {a:Act} (ha:bZ sl a):(xs.map fun (i,x)=>(i,a.eval x))=(vs.zipIdx i).map fun (v,i)=>(i,v):=by
 induction h with
 | nil=>rfl
 | cons h _ ih=>simp [h a ha];simpa using ih
theorem aD {t e:TypeId} [hu:iI P t (.slice e)] [Ty P e false 1] [mA P e z] (hp:tU sl 0 xs vs)
  (hl:vs.length=n) (hn:Nat.ble n 1000=true) (hz:z.oneCell'=true) (h1:vs.all Value.oneCell'=true) :
  qR P c sl hs ⟨dst,.buildSlice t n xs.toArray,ty,pos,af,g⟩ (fun b=>.w b n n) (.cells vs.toArray e):=
 kP (ps:=wE vs) (fun a ha=>by simp only [wE,<- hp.map ha];simp) (fun w=>wi hl (by simpa using hn) hz (by simpa [Zaj] using h1) w)
class bN (P:Program) (f:FuncId):Prop where
 eq:((P.funcs[f]?).map fun fn=>(fn.name == "runtime.NumGoroutine" || fn.body.isNone))=some false:=by kernel_rfl
theorem ud [h:bN P f] (args:Array Value) (w:World):(callFunc f args).run P w=.ok (.enter f args) w:=by
 have:=h.eq;cases hf:P.funcs[f]? with
 | none=>rw [hf] at this;cases this
 | some fn =>
  rw [hf] at this;simp only [Zbp,Option.some.injEq,Bool.or_eq_false_iff] at this;obtain ⟨h1,h2⟩:=this;simp only [callFunc,Sem.run_bind,run_program,Result.andThen_ok,hf,h1,h2]
  rfl
inductive Il (sl:aN):List Operand->List Value->Prop
 | nil:Il sl [] []
 | cons {x:Operand} {xs:List Operand} {v:Value} {vs:List Value} (h:Is sl x v) (t:Il sl xs vs):Il sl (x::xs) (v::vs)
theorem Il.map {sl:aN} {xs:List Operand} (h:Il sl xs vs) {a:Act} (ha:bZ sl a):xs.map a.eval=vs:=by
 induction h with
 | nil=>rfl
 | cons h _ ih=>simp [h a ha,ih]
def mH (P:Program) (sl:aN) (o:Oper) (f:FuncId) (args:List Value):Prop:=
 (∀ d,o.op≠.defer d)/\∀ a w,bZ sl a->(execOp a.eval o).run P w=.ok (.enter f args.toArray) w
theorem a7 {xs:List Operand} {ts:Array TypeId} {first vs cap args:List Value} (hx:Is sl x (.func (.func f) first.toArray cap.toArray)) (ha:Il sl xs vs) (hb:bN P f) (he:first++vs++cap=args) :
  mH P sl ⟨dst,.call ⟨.value x,xs.toArray,ts⟩,ty,pos,af,g⟩ f args:=
 ⟨by simp,fun a w hs=>by
  subst he;have h1:=ha.map hs;simp only [execOp,resolve,hx a hs,Deferred.ofValue,Sem.run_bind,Sem.run_pure,Result.andThen_ok,invoke,List.map_toArray,h1,List.append_toArray];exact ud (h:=hb) _ _⟩
theorem bC {f:Fn} {xs ys:List Operand} {vs us:List Value} (h1:Il sl xs vs) (h2:Il sl ys us) :
  du P c sl hs ⟨dst,.makeFunc f xs.toArray ys.toArray,ty,pos,af,g⟩ (.func f vs.toArray us.toArray):=
 CJ (fun a ha=>by simp [h1.map ha]) (fun a ha=>by simp [h2.map ha])
def a8 (P:Program) (f:FuncId) (args:List Value) (w:World) (md:List Nat) {ι:Type} (Φ:ι->Prop) (val:ι->Value) (own:ι->List bd):Prop:=
 Calls P f args.toArray w fun e w'=>∃ x,e=.returned (val x)/\Φ x/\aI md w w'/\∃ fp:List Nat,fp.Nodup/\cy (hp w') (own x) fp/\∀ b∈fp,b∈md\/w.heap.size<=b
def an (P:Program) (f:FuncId) (args:List Value) (w:World) (V:Value):Prop:=
 Calls P f args.toArray w fun e w'=>e=.returned V/\aI [] w w'
theorem jN {args:Array Value} {w:World} (h:Calls P f args w R):CallsIn (FR r) n P f args w R:=
 (callsIn_wide (n:=n)).2 h
theorem zY {o:Oper} {a:Act} {w:World} (hg:o.guard=none) (hr:mH P sl o f args) (hs:bZ sl a) (hc:Calls P f args.toArray w R)
  (k:∀ e w',R e w'->∃ v,e=.returned v/\WL P r ops Q rest (a.put o.dst v) w'):WL P r ops Q (o::rest) a w:=by
 refine mJ hg ⟨eh _ _ _ _ _,?_⟩;rw [Oper.semAt_eq _ _ _ hr.1,hr.2 a w hs];refine ⟨by simp [FR,Fence.wide],(jN hc).mono fun e w' h=>?_⟩;obtain ⟨v,rfl,hk⟩:=k e w' h;exact hk
theorem ah {V:Value} (hr:mH P sl ⟨some d,op,ty,pos,af,none⟩ f args) (hd:Nat.blt d c.nt=true) (hc:∀ w,Mem c hs w->an P f args w V)
  (k:Tr c D ((d,V)::sl) hs (WL P r ops Q rest)):Tr c D sl hs (WL P r ops Q (⟨some d,op,ty,pos,af,none⟩::rest)):=fun a w bb=>
 zY I hr bb.dw (hc w bb.pE) fun e w' ⟨he,hk⟩=>⟨V,he,k _ _ ((bb.put (by simpa [Z8] using hd) V).heap (bb.mem.sx hk))⟩
inductive bj:List bd->List bd->List bd->Prop
 | nil {hs:List bd}:bj hs [] hs
 | cons {hs h1 h2:List bd} {A:bd} {As:List bd} (h:Take hs A h1) (t:bj h1 As h2):bj hs (A::As) h2
theorem bj.h1 {A:bd} {r s t:List bd} (h:bj r s t):bj (A::r) (A::s) t:=.cons .here h
theorem bj.h2 {A B:bd} {r s t:List bd} (h:bj r s t):bj (A::B::r) (A::B::s) t:=.cons .here (.h1 h)
theorem bj.h3 {A B C:bd} {r s t:List bd} (h:bj r s t):bj (A::B::C::r) (A::B::C::s) t:=.cons .here (.h2 h)
theorem bj.h4 {A B C E:bd} {r s t:List bd} (h:bj r s t):bj (A::B::C::E::r) (A::B::C::E::s) t:=.cons .here (.h3 h)
theorem bj.h5 {A B C E F:bd} {r s t:List bd} (h:bj r s t):bj (A::B::C::E::F::r) (A::B::C::E::F::s) t:=.cons .here (.h4 h)
theorem bj.h6 {A B C E F G:bd} {r s t:List bd} (h:bj r s t):bj (A::B::C::E::F::G::r) (A::B::C::E::F::G::s) t:=.cons .here (.h5 h)
theorem bj.h7 {A B C E F G J:bd} {r s t:List bd} (h:bj r s t):bj (A::B::C::E::F::G::J::r) (A::B::C::E::F::G::J::s) t:=.cons .here (.h6 h)
theorem bj.h8 {A B C E F G J K:bd} {r s t:List bd} (h:bj r s t):bj (A::B::C::E::F::G::J::K::r) (A::B::C::E::F::G::J::K::s) t:=.cons .here (.h7 h)
theorem cy.jA {h:Nat->Option Obj} {hs As hs':List bd} (ht:bj hs As hs'):∀ {fp:List Nat},cy h hs fp->∃ f1 f2,cy h As f1/\cy h hs' f2/\fp.Perm (f1++f2):=by
 induction ht with
 | nil=>intro fp hf;exact ⟨[],fp,rfl,hf,.refl _⟩
 | cons h _ ih =>
  intro fp hf;obtain ⟨f1,f2,h1,h2,hp⟩:=hf.take h;obtain ⟨g1,g2,h3,h4,hq⟩:=ih h2;exact ⟨f1++g1,g2,⟨f1,g1,I,h1,h3⟩,h4,hp.trans (by rw [Zh];exact hq.append_left f1)⟩
theorem Mem.jA {w:World} (h:Mem c hs w) (ht:bj hs As hs'):Mem c (As++hs') w:=by
 obtain ⟨k,fp,hn,hs,hb⟩:=h;obtain ⟨f1,f2,h1,h2,hp⟩:=hs.jA ht;exact ⟨k,f1++f2,hp.nodup_iff.1 hn,cy.append_iff.2 ⟨f1,f2,I,h1,h2⟩,fun b dQ=>hb b (hp.mem_iff.2 dQ)⟩
theorem bj.append (h:bj hs As hs') (m:List bd):bj (hs++m) As (hs'++m):=by
 induction h with
 | nil=>exact .nil
 | cons h _ ih=>exact .cons (h.append m) ih
theorem Mem.XC {As Bs:List bd} {w w':World} (hm:Mem c (As++hs') w)
  (hs0:∀ fp,fp.Nodup->cy (hp w) As fp->aI fp w w'/\∃ mE:List Nat,mE.Nodup/\cy (hp w') Bs mE/\∀ b∈mE,b∈fp\/w.heap.size<=b):Mem c (Bs++hs') w':=Mem.change hm hs0
theorem jd {ι:Type} {Φ:ι->Prop} {val:ι->Value} {own:ι->List bd} (hr:mH P sl ⟨some d,op,ty,pos,af,none⟩ f args) (hd:Nat.blt d c.nt=true) (ht:bj hs As hs')
  (hc:∀ w fp,Mem c hs w->fp.Nodup->cy (hp w) As fp->a8 P f args w fp Φ val own)
  (k:∀ x,Φ x->Tr c D ((d,val x)::sl) (own x++hs') (WL P r ops Q rest)):Tr c D sl hs (WL P r ops Q (⟨some d,op,ty,pos,af,none⟩::rest)):=fun a w bb=>by
 have hm:=bb.mem.jA (ht.append (nF D));obtain ⟨kk,fp,hn,gi,hb⟩:=hm;obtain ⟨f1,f2,rfl,h1,h2⟩:=cy.append_iff.1 gi;refine zY I hr bb.dw (hc w f1 bb.pE (ZI.1 hn).1 h1) fun e w' ⟨x,he,hx,hk,mE,uy,hs',zC⟩=>⟨val x,he,k x hx _ _ ((bb.put (by simpa [Z8] using hd) (val x)).heap ?_)⟩;obtain ⟨n1,n2,n12⟩:=ZI.1 hn;have aL:∀ b∈f2,b<w.heap.size:=fun b dQ=>let ⟨o,ho⟩:=h2.own b dQ;lf ho
 rw [Zh];refine ⟨?_,mE++f2,?_,cy.append_iff.2 ⟨mE,f2,I,hs',h2.loc fun b dQ=>?_⟩,?_⟩
 ·refine ⟨hk.os.trans kk.os,hk.tape.trans kk.tape,hk.output.trans kk.output,ZP kk.dr hk.dr,ZP kk.size hk.size,fun b dQ hm=>?_⟩;rw [<- kk.block b dQ hm];refine hk.block b (ZaK dQ kk.size) (fun hf=>?_);rcases hb b (ZH _ hf) with h | h
  ·omega
  ·exact hm h
 ·refine ZI.2 ⟨uy,n2,fun x hx y hy e=>?_⟩;subst e;rcases zC x hx with h | h
  ·exact n12 x h x hy I
  ·have:=aL x hy;omega
 ·exact hk.block b (aL b dQ) (fun hf=>n12 b hf b dQ I)
 ·intro b dQ;rcases Zz.1 dQ with h | h
  ·rcases zC b h with h | h
   ·exact hb b (ZH _ h)
   ·exact .inl (ZP kk.size h)
  ·exact hb b (ZT _ h)
def kp:Nat->List Value->aN
 | _,[]=>[]
 | i,v::vs=>(i,v)::kp (i+1) vs
theorem qX:∀ (vs:List Value) (i t:Nat) (v:Value),dj (kp i vs) t=some v->∃ j,t=i+j/\vs[j]? = some v
 | [],_,_,_,h=>by simp [kp,dj] at h
 | u :: us, i, t, v, h => by
  by_cases hit:i=t
  ·subst hit;rw [kp,gr] at h;exact ⟨0,I,by simpa using h⟩
  ·rw [kp,gq hit] at h;obtain ⟨j,e,hj⟩:=qX us (i+1) t v h;exact ⟨j+1,by omega,by simpa using hj⟩
theorem qe {fn:Func} {code:Code} {w:World} {md:List Nat} {hs0:List bd} (hf:P.funcs[f]? = some fn) (hb:fn.body=some code) (hl:args.length<=fn.ntmps)
  (h0:∃ fp:List Nat,fp.Nodup/\cy (hp w) hs0 fp/\∀ b∈fp,b∈md)
  (h:Tr ⟨w,md,fn.ntmps⟩ [] (kp 0 args) hs0 (WP P none code (bodyPostM (FR none) 0 P fn R))):Calls P f args.toArray w R:=by
 have hc:=callsIn_of_wp_marks (F:=FR none) (n:=0) (P:=P) (f:=f) (R:=R) (w:=w) (args:=args.toArray) hf hb trivial
  (h { tmps:=args.toArray++Array.replicate (fn.ntmps-args.toArray.size) undef,defers:=[] } w ⟨⟨.refl _ _,?_⟩,?_,?_,I⟩)
 ·exact (callsIn_wide (n:=0)).1 hc
 ·obtain ⟨fp,hn,gi,hm⟩:=h0;exact ⟨fp,hn,by simpa [nF] using gi,fun b dQ=>.inr (hm b dQ)⟩
 ·intro t v hv;obtain ⟨j,e,hj⟩:=qX args 0 t v hv;have:t=j:=by omega
  subst this;obtain ⟨aL,nW⟩:=Zl.1 hj;simp [Array.getElem?_append,aL,nW]
 ·simp;omega
end
end Go.SL
namespace Go.SL
open Go
structure Rel where
 p:Value->World->Prop
 st:∀ {v:Value} {w w':World},p v w->aI [] w w'->p v w'
def Rel.val (V:Value):Rel:=⟨fun v _=>v=V,fun h _=>h⟩
abbrev fv:=List (Nat×Rel)
def BU (T:List Nat) (rl:fv) (a:Act) (w:World):Prop:=∀ d R,(d,R)∈rl->d∈T->∃ v,a.tmps[d]? = some v/\R.p v w
def yJ (P:Program) (o:Oper) (a:Act) (w:World) (R:Rel):Prop:=
 match (execOp a.eval o).run P w with
 | .ok (.value v) w'=>aI [] w w'/\R.p v w'
 | .ok (.enter f args) w'=>w'=w/\Calls P f args w (fun e z8=>∃ v,e=.returned v/\aI [] w z8/\R.p v z8)
 | _=>False
def uI (P:Program) (c:Cx) (hs:List bd) (ops:Array Oper) (sl:aN) (rl:fv) (o:Oper) (R:Rel):Prop:=
 ∀ a w,bZ sl a->BU (o.looksAt ops) rl a w->Mem c hs w->if Region.wanted o (yielded ops a.tmps) then yJ P o a w R else R.p undef w
def NC (e:Edge):Bool:=Region.binds .any e
def pD (o:Oper):Bool:=match o.op with | .select ..=>false | .defer _=>false | _=>true
def fG (o:Oper) (i:Nat):Bool:=o.after.toList.any fun e=>NC e&&Nat.beq e.on i
def has (l:List Nat) (t:Nat):Bool:=l.any (Nat.beq t)
theorem Gp {l:List Nat} {t:Nat}:has l t=true↔t∈l:=by
 simp [has,ZR]
def rf (ops:Array Oper) (x y:Oper) (i:Nat):Bool:=
 match x.dst,y.dst with
 | some d,some e=>!Nat.beq d e&&((!has (y.looksAt ops) d&&!has (x.looksAt ops) e)||fG y i)
 | _,_=>false
def lH (ops:Array Oper):List Oper->Nat->Bool
 | [],_=>true
 | x::r,i=>r.all (fun y=>rf ops x y i)&&lH ops r (i+1)
def uU:List Oper->Nat->Bool
 | [],_=>true
 | o::r,k=>o.after.toList.all (fun e=>!NC e||Nat.blt e.on k)&&uU r (k+1)
def rk (acc:List Nat) (o:Oper):Nat:=o.after.toList.foldl (fun s e=>if NC e then s ||| 2 ^ e.on ||| acc.getD e.on 0 else s) 0
def jD:List Oper->List Nat->List Nat
 | [],acc=>acc
 | o::r,acc=>jD r (acc++[rk acc o])
def Ap (ms:List Nat):List Nat->Bool
 | []=>true
 | k::r=>(List.range k).all (fun i=>(ms.getD k 0).testBit i)&&Ap ms r
def zi (l:List Oper) (m:Nat):Bool:=
 l.all pD&&uU l 0&&lH l.toArray (l.take m) 0&&(l.take m).all (fun o=>o.dst.isSome)&&Ap (jD l []) (List.range' m (l.length-m))&&Nat.ble m l.length
theorem lV {l:List Oper}:∀ {s:Nat},uU l s=true->∀ {k:Nat} {o:Oper},l[k]? = some o->∀ e∈o.after,NC e=true->e.on<s+k:=by
 induction l with
 | nil=>intro s _ k o h;simp at h
 | cons x r ih =>
  intro s h k o hk e he hb;simp only [uU,Zn,Zaj] at h;cases k with
  | zero =>
   simp at hk;subst hk;have:=h.1 e (by simpa using he);simpa [hb,Z8] using this
  | succ k =>
   have:=ih h.2 (k:=k) (by simpa using hk) e he hb;omega
theorem ss:∀ (l:List Oper) (acc:List Nat),∃ t,jD l acc=acc++t/\t.length=l.length
 | [],acc=>⟨[],by simp [jD]⟩
 | o :: r, acc => by
  obtain ⟨t,h,hl⟩:=ss r (acc++[rk acc o]);exact ⟨rk acc o::t,by simp [jD,h],by simp [hl]⟩
theorem wK:∀ (l:List Oper) (acc:List Nat) (k:Nat) (o:Oper),l[k]? = some o->(jD l acc).getD (acc.length+k) 0=rk ((jD l acc).take (acc.length+k)) o
 | [],_,_,_,h=>by simp at h
 | x :: r, acc, k, o, h => by
  obtain ⟨t,ht,hl⟩:=ss r (acc++[rk acc x]);cases k with
  | zero =>
   simp at h;subst h;simp [jD,ht]
  | succ k =>
   have:=wK r (acc++[rk acc x]) k o (by simpa using h);simp only [Zg,ZB,Zaf] at this;rw [show acc.length+(k+1)=acc.length+(0+1)+k from by omega];exact this
theorem uh (acc:List Nat) (i:Nat):∀ (es:List Edge) (s:Nat),(es.foldl (fun s e=>if NC e then s ||| 2 ^ e.on ||| acc.getD e.on 0 else s) s).testBit i=true ->
  s.testBit i=true\/∃ e∈es,NC e=true/\(i=e.on\/(acc.getD e.on 0).testBit i=true)
 | [],s,h=>.inl h
 | e :: es, s, h => by
  simp only [List.foldl_cons] at h;rcases uh acc i es _ h with h | ⟨e',ID,hb,h⟩
  ·by_cases hb:NC e=true
   ·simp only [hb,if_true,Nat.testBit_or,ZS,Nat.testBit_two_pow,decide_eq_true_eq] at h;rcases h with (h | h) | h
    ·exact .inl h
    ·exact .inr ⟨e,by simp,hb,.inl h.symm⟩
    ·exact .inr ⟨e,by simp,hb,.inr h⟩
   ·simp only [hb] at h;exact .inl h
  ·exact .inr ⟨e',by simp [ID],hb,h⟩
def DC (l:List Oper) (L:Nat->Prop):Prop:=∀ k o,l[k]? = some o->L k->∀ e∈o.after,NC e=true->L e.on
theorem jR {l:List Oper} {L:Nat->Prop} (Bj:DC l L) (Xl:uU l 0=true):∀ (k:Nat),k<l.length->L k->∀ i,((jD l []).getD k 0).testBit i=true->L i:=by
 intro k
 induction k using Nat.strongRecOn with
 | _ k ih =>
  intro hk hL i hi;have ho:l[k]? = some l[k]:=Zc hk;have hm:=wK l [] k _ ho;simp only [Zaf,ZF] at hm;rw [hm] at hi;unfold rk at hi;rcases uh _ i _ 0 hi with h | ⟨e,he,hb,h⟩
  ·simp at h
  ·have ID:e∈l[k].after:=by simpa using he
   have aL:e.on<k:=by have:=lV Xl ho e ID hb;omega
   have hLe:=Bj k _ ho hL e ID hb;rcases h with h | h
   ·rw [h];exact hLe
   ·refine ih e.on aL (by omega) hLe i ?_;have:((jD l []).take k).getD e.on 0=(jD l []).getD e.on 0:=by
     simp [Zk,aL]
    rwa [this] at h
theorem oy {ops:Array Oper} {l:List Oper}:∀ {s:Nat},lH ops l s=true->∀ {i j:Nat} {x y:Oper},i<j->l[i]? = some x->l[j]? = some y->rf ops x y (s+i)=true:=by
 induction l with
 | nil=>intro s _ i j x y _ h;simp at h
 | cons o r ih =>
  intro s h i j x y zB hx hy;simp only [lH,Zn,Zaj] at h;cases j with
  | zero=>omega
  | succ j =>
   cases i with
   | zero =>
    simp at hx;subst hx;exact h.1 y (Z2 (by simpa using hy))
   | succ i =>
    have:=ih h.2 (i:=i) (j:=j) (by omega) (by simpa using hx) (by simpa using hy);rwa [show s+1+i=s+(i+1) from by omega] at this
variable {a a':Act} {o:Oper}
theorem sP {sl:aN} {T:List Nat} {nt:Nat} (hn:a.tmps.size=nt) (hk:∀ t v,dj sl t=some v->t<nt) (hT:∀ t∈T,∀ v,dj sl t=some v->a.tmps[t]? = some v) :
  ∃ a':Act,bZ sl a'/\(∀ t∈T,a'.tmps[t]? = a.tmps[t]?)/\a'.tmps.size=nt:=by
 refine ⟨⟨Array.ofFn (n:=nt) fun t=>if (t:Nat)∈T then a.tmps.getD t undef else (dj sl t).getD undef,a.defers⟩,?_,?_,by simp⟩
 ·intro t v hv;have aL:=hk t v hv;simp only [Array.getElem?_ofFn,aL,dif_pos];by_cases ht:t∈T
  ·have:=hT t ht v hv;simp [ht,ZJ,this]
  ·simp [ht,hv]
 ·intro t ht;by_cases aL:t<nt
  ·have:a.tmps[t]? = some (a.tmps[t]'(by omega)):=ZaT (by omega);simp [ht,aL,ZJ,this]
  ·rw [Zbw (by simp;omega),Zbw (by omega)]
theorem Bw {x:Operand} (h:∀ t,x=.tmp t->a'.tmps[t]? = a.tmps[t]?):a'.eval x=a.eval x:=by
 cases x with
 | tmp t=>simp [Act.eval,ZJ,h t rfl]
 | _=>rfl
theorem kh {ops:Array Oper} (ho:pD o=true) (h:∀ t∈o.looksAt ops,a'.tmps[t]? = a.tmps[t]?):execOp a'.eval o=execOp a.eval o:=by
 refine execOp_congr o (fun cs b he=>by simp [pD,he] at ho) fun x hx=>Bw fun t ht=>h t ?_;subst ht;unfold Oper.looksAt;refine ZH _ ?_;simp only [List.mem_filterMap];exact ⟨_,by simpa using hx,I⟩
theorem j4 {ops:Array Oper} (h:∀ t∈o.looksAt ops,a'.tmps[t]? = a.tmps[t]?):Region.wanted o (yielded ops a'.tmps)=Region.wanted o (yielded ops a.tmps):=by
 unfold Region.wanted;cases hg:o.guard with
 | none=>rfl
 | some gw =>
  obtain ⟨j,want⟩:=gw;simp only [];have:yielded ops a'.tmps j=yielded ops a.tmps j:=by
   unfold yielded;cases hd:(ops[j]?).bind (·.dst) with
   | none=>rfl
   | some d =>
    have:=h d (by unfold Oper.looksAt;exact ZT _ (by simp [hg,hd]));simp [this]
  rw [this]
inductive tT (P:Program) (c:Cx) (hs:List bd) (ops:Array Oper):List Oper->aN->fv->List Rel->aN->fv->Prop
 | nil {sl:aN} {rl:fv}:tT P c hs ops [] sl rl [] sl rl
 | val {o:Oper} {l:List Oper} {sl jV:aN} {rl lE:fv} {d:Nat} {V:Value} {S:List Rel} (hd:o.dst=some d) (gl:d<c.nt) (h:uI P c hs ops sl rl o (.val V)) (t:tT P c hs ops l ((d,V)::sl) rl S jV lE) :
   tT P c hs ops (o::l) sl rl (.val V::S) jV lE
 | rel {o:Oper} {l:List Oper} {sl jV:aN} {rl lE:fv} {d:Nat} {R:Rel} {S:List Rel} (hd:o.dst=some d) (gl:d<c.nt) (hn:dj sl d=none) (h:uI P c hs ops sl rl o R) (t:tT P c hs ops l sl ((d,R)::rl) S jV lE) :
   tT P c hs ops (o::l) sl rl (R::S) jV lE
theorem tT.at_ {P:Program} {c:Cx} {hs:List bd} {ops:Array Oper} {l:List Oper} {sl jV:aN} {rl lE:fv} {S:List Rel} (h:tT P c hs ops l sl rl S jV lE) :
  ∀ (i : Nat) (o : Oper), l[i]? = some o -> ∃ ve Nj R, S[i]? = some R /\ uI P c hs ops ve Nj o R /\
   (∀ t v,dj ve t=some v->(∃ (j:Nat) (oj:Oper),j<i/\l[j]? = some oj/\oj.dst=some t/\S[j]? = some (.val v))\/((∀ (j:Nat) (oj:Oper),j<i->l[j]? = some oj->oj.dst≠some t)/\dj sl t=some v)) /\
   (∀ t Rt,(t,Rt)∈Nj->(∃ (j:Nat) (oj:Oper),j<i/\l[j]? = some oj/\oj.dst=some t/\S[j]? = some Rt)\/(t,Rt)∈rl):=by
 induction h with
 | nil=>intro i o h;simp at h
 | @val o0 l sl jV rl lE d V S hd gl bb t ih =>
  intro i o ho;cases i with
  | zero =>
   simp at ho;subst ho;exact ⟨sl,rl,.val V,I,bb,fun t v hv=>.inr ⟨fun j _ hj=>by omega,hv⟩,fun t Rt hm=>.inr hm⟩
  | succ i =>
   obtain ⟨ve,Nj,R,hR,hs',h1,h2⟩:=ih i o (by simpa using ho);refine ⟨ve,Nj,R,by simpa using hR,hs',fun t v hv=>?_,fun t Rt hm=>?_⟩
   ·rcases h1 t v hv with ⟨j,oj,hj,jt,jG,lu⟩ | ⟨rq,nW⟩
    ·exact .inl ⟨j+1,oj,by omega,by simpa using jt,jG,by simpa using lu⟩
    ·by_cases yx:d=t
     ·subst yx;rw [gr] at nW;cases nW;exact .inl ⟨0,o0,by omega,I,hd,I⟩
     ·rw [gq yx] at nW;refine .inr ⟨fun j oj hj jt=>?_,nW⟩;cases j with
      | zero=>simp at jt;subst jt;rw [hd];simp [yx]
      | succ j=>exact rq j oj (by omega) (by simpa using jt)
   ·rcases h2 t Rt hm with ⟨j,oj,hj,jt,jG,lu⟩ | aB
    ·exact .inl ⟨j+1,oj,by omega,by simpa using jt,jG,by simpa using lu⟩
    ·exact .inr aB
 | @rel o0 l sl jV rl lE d R0 S hd gl hn bb t ih =>
  intro i o ho;cases i with
  | zero =>
   simp at ho;subst ho;exact ⟨sl,rl,R0,I,bb,fun t v hv=>.inr ⟨fun j _ hj=>by omega,hv⟩,fun t Rt hm=>.inr hm⟩
  | succ i =>
   obtain ⟨ve,Nj,R,hR,hs',h1,h2⟩:=ih i o (by simpa using ho);refine ⟨ve,Nj,R,by simpa using hR,hs',fun t v hv=>?_,fun t Rt hm=>?_⟩
   ·rcases h1 t v hv with ⟨j,oj,hj,jt,jG,lu⟩ | ⟨rq,nW⟩
    ·exact .inl ⟨j+1,oj,by omega,by simpa using jt,jG,by simpa using lu⟩
    ·have yx:d≠t:=fun e=>by subst e;rw [hn] at nW;cases nW
     refine .inr ⟨fun j oj hj jt=>?_,nW⟩;cases j with
     | zero=>simp at jt;subst jt;rw [hd];simp [yx]
     | succ j=>exact rq j oj (by omega) (by simpa using jt)
   ·rcases h2 t Rt hm with ⟨j,oj,hj,jt,jG,lu⟩ | aB
    ·exact .inl ⟨j+1,oj,by omega,by simpa using jt,jG,by simpa using lu⟩
    ·rcases ZQ.1 aB with e | TW
     ·cases e;exact .inl ⟨0,o0,by omega,I,hd,I⟩
     ·exact .inr TW
theorem tT.end_ {P:Program} {c:Cx} {hs:List bd} {ops:Array Oper} {l:List Oper} {sl jV:aN} {rl lE:fv} {S:List Rel} (h:tT P c hs ops l sl rl S jV lE) :
   (∀ t v,dj jV t=some v->(∃ (j:Nat) (oj:Oper),l[j]? = some oj/\oj.dst=some t/\S[j]? = some (.val v))\/((∀ (j:Nat) (oj:Oper),l[j]? = some oj->oj.dst≠some t)/\dj sl t=some v)) /\
   (∀ t Rt,(t,Rt)∈lE->(∃ (j:Nat) (oj:Oper),l[j]? = some oj/\oj.dst=some t/\S[j]? = some Rt)\/(t,Rt)∈rl) /\
   (∀ (j:Nat) (oj:Oper),l[j]? = some oj->∃ d R,oj.dst=some d/\d<c.nt/\S[j]? = some R):=by
 induction h with
 | nil=>exact ⟨fun t v hv=>.inr ⟨fun j oj h=>by simp at h,hv⟩,fun t Rt hm=>.inr hm,fun j oj h=>by simp at h⟩
 | @val o0 l sl jV rl lE d V S hd gl bb t ih =>
  obtain ⟨h1,h2,h3⟩:=ih;refine ⟨fun t v hv=>?_,fun t Rt hm=>?_,fun j oj hj=>?_⟩
  ·rcases h1 t v hv with ⟨j,oj,jt,jG,lu⟩ | ⟨rq,nW⟩
   ·exact .inl ⟨j+1,oj,by simpa using jt,jG,by simpa using lu⟩
   ·by_cases yx:d=t
    ·subst yx;rw [gr] at nW;cases nW;exact .inl ⟨0,o0,I,hd,I⟩
    ·rw [gq yx] at nW;refine .inr ⟨fun j oj jt=>?_,nW⟩;cases j with
     | zero=>simp at jt;subst jt;rw [hd];simp [yx]
     | succ j=>exact rq j oj (by simpa using jt)
  ·rcases h2 t Rt hm with ⟨j,oj,jt,jG,lu⟩ | aB
   ·exact .inl ⟨j+1,oj,by simpa using jt,jG,by simpa using lu⟩
   ·exact .inr aB
  ·cases j with
   | zero=>simp at hj;subst hj;exact ⟨d,_,hd,gl,rfl⟩
   | succ j=>obtain ⟨d',R',h⟩:=h3 j oj (by simpa using hj);exact ⟨d',R',by simpa using h⟩
 | @rel o0 l sl jV rl lE d R0 S hd gl hn bb t ih =>
  obtain ⟨h1,h2,h3⟩:=ih;refine ⟨fun t v hv=>?_,fun t Rt hm=>?_,fun j oj hj=>?_⟩
  ·rcases h1 t v hv with ⟨j,oj,jt,jG,lu⟩ | ⟨rq,nW⟩
   ·exact .inl ⟨j+1,oj,by simpa using jt,jG,by simpa using lu⟩
   ·have yx:d≠t:=fun e=>by subst e;rw [hn] at nW;cases nW
    refine .inr ⟨fun j oj jt=>?_,nW⟩;cases j with
    | zero=>simp at jt;subst jt;rw [hd];simp [yx]
    | succ j=>exact rq j oj (by simpa using jt)
  ·rcases h2 t Rt hm with ⟨j,oj,jt,jG,lu⟩ | aB
   ·exact .inl ⟨j+1,oj,by simpa using jt,jG,by simpa using lu⟩
   ·rcases ZQ.1 aB with e | TW
    ·cases e;exact .inl ⟨0,o0,I,hd,I⟩
    ·exact .inr TW
  ·cases j with
   | zero=>simp at hj;subst hj;exact ⟨d,_,hd,gl,rfl⟩
   | succ j=>obtain ⟨d',R',h⟩:=h3 j oj (by simpa using hj);exact ⟨d',R',by simpa using h⟩
end Go.SL
namespace Go.SL
open Go
section
variable {P:Program} {r:Option Nat} {c:Cx} {D:List Nat} {sl jV:aN} {lE:fv} {hs:List bd} {Q:Exit->Act->World->Prop} {l:List Oper} {m:Nat} {S:List Rel}
def Ls (listed:Array Bool) (i:Nat):Prop:=listed.getD i false=true
theorem gQ (n i:Nat):¬ Ls (Array.replicate n false) i:=by
 unfold Ls;rw [ZJ,Array.getElem?_replicate];split <;> simp
variable {i:Nat} {listed:Array Bool} {o:Oper}
theorem dA {i j:Nat} (hi:i<listed.size):Ls (listed.setIfInBounds i true) j↔(j=i\/Ls listed j):=by
 unfold Ls;by_cases h:i=j
 ·subst h;simp [ZJ,hi]
 ·have h':¬ j=i:=fun e=>h e.symm
  simp [ZJ,ZO h,h']
theorem Gt (hi:i<listed.size):listed.getD i true=false↔¬ Ls listed i:=by
 unfold Ls;simp [ZJ,hi]
theorem eI (hsz:listed.size=l.length) {i:Nat}:i∈Region.ready .any l.toArray listed↔∃ o,l[i]? = some o/\¬ Ls listed i/\∀ e∈o.after,NC e=true->Ls listed e.on:=by
 rw [mem_ready];constructor
 ·rintro ⟨h1,o,ho,h2⟩;have Gn:l[i]? = some o:=by simpa using ho
  have hi:i<listed.size:=by rw [hsz];exact (Zl.1 Gn).1
  exact ⟨o,Gn,(Gt hi).1 h1,h2⟩
 ·rintro ⟨o,ho,h1,h2⟩;have hi:i<listed.size:=by rw [hsz];exact (Zl.1 ho).1
  exact ⟨(Gt hi).2 h1,o,by simpa using ho,h2⟩
theorem k8 (hsz:listed.size=l.length) (Xl:uU l 0=true) (h:∃ i,i<l.length/\¬ Ls listed i):∃ i,i∈Region.ready .any l.toArray listed:=by
 obtain ⟨i,hi,hn⟩:=h
 induction i using Nat.strongRecOn with
 | _ i ih =>
  by_cases fj:∀ j,j<i->Ls listed j
  ·refine ⟨i,(eI hsz).2 ⟨l[i],Zc hi,hn,fun e he hb=>fj _ ?_⟩⟩;have:=lV Xl (Zc hi) e he hb;omega
  ·have:∃ j,j<i/\¬ Ls listed j:=by
    apply Classical.byContradiction;intro hc;exact fj fun j hj=>Classical.byContradiction fun uy=>hc ⟨j,hj,uy⟩
   obtain ⟨j,hj,hnj⟩:=this;exact ih j hj (by omega) hnj
theorem tX {ms:List Nat}:∀ {ks:List Nat},Ap ms ks=true->∀ k∈ks,∀ i,i<k->(ms.getD k 0).testBit i=true
 | [],_,k,hk=>by cases hk
 | x :: ks, h, k, hk => by
  simp only [Ap,Zn,Zaj,ZU] at h;rcases ZQ.1 hk with e | hk
  ·subst e;exact h.1
  ·exact tX h.2 k hk
structure US (l:List Oper) (m:Nat):Prop where
 op:∀ o∈l,pD o=true
 ac:uU l 0=true
 CS:lH l.toArray (l.take m) 0=true
 tail:∀ k,m<=k->k<l.length->∀ i,i<k->((jD l []).getD k 0).testBit i=true
 le:m<=l.length
theorem wz (h:zi l m=true):US l m:=by
 simp only [zi,Zn,Zaj] at h;obtain ⟨⟨⟨⟨⟨h1,h2⟩,h3⟩,_⟩,h5⟩,h6⟩:=h;refine ⟨h1,h2,h3,fun k hk aL=>tX h5 k ?_,by simpa using h6⟩;rw [Zbb];omega
theorem re (hc:US l m) {listed:Array Bool} (hsz:listed.size=l.length) (Bj:DC l (Ls listed)) {i:Nat} (hi:i∈Region.ready .any l.toArray listed) (hm:m<=i):∀ j,j<i->Ls listed j:=by
 intro j hj;obtain ⟨o,ho,hn,hd⟩:=(eI hsz).1 hi;have aL:i<l.length:=(Zl.1 ho).1;have EX:DC l (fun k=>k=i\/Ls listed k):=by
  intro k ok hk hL e he hb;rcases hL with e' | hL
  ·subst e';rw [ho] at hk;cases hk;exact .inr (hd e he hb)
  ·exact .inr (Bj k ok hk hL e he hb)
 rcases jR EX hc.ac i aL (.inl rfl) j (hc.tail i hm aL j hj) with h | h
 ·omega
 ·exact h
theorem D5 {rest:List Oper} {ops:Array Oper} {K:Act->World->Prop} {a:Act} {w:World} (hi:ops[i]? = some o) (hK:∀ a w,WL P r ops Q rest a w->K a w) (h:WL P r ops Q (o::rest) a w):wpOpIn (FR r) 0 P ops Q i K a w:=by
 unfold wpOpIn;simp only [hi];unfold WL at h;split
 ·rename_i hw;rw [if_pos hw] at h;exact Oper.wpIn_mono hK h
 ·rename_i hw;rw [if_neg hw] at h;exact ⟨fun _ _=>trivial,hK _ _ h⟩
theorem Ez (hc:US l m):∀ (fuel k:Nat) (listed:Array Bool) (a:Act) (w:World),m<=k->k+fuel=l.length->listed.size=l.length->(∀ i,i<l.length->(Ls listed i↔i<k)) ->
  WL P r l.toArray Q (l.drop k) a w->wpAnyIn (FR r) 0 P .any l.toArray Q fuel listed a w
 | 0, k, listed, a, w, _, hk, hsz, hL, h => by
  refine ⟨?_,by rw [Zbi (by omega)] at h;exact h⟩;apply List.eq_nil_iff_forall_not_mem.2;intro i hi;obtain ⟨o,ho,hn,_⟩:=(eI hsz).1 hi;have aL:=(Zl.1 ho).1;exact hn ((hL i aL).2 (by omega))
 | fuel + 1, k, listed, a, w, Vc, hk, hsz, hL, h => by
  have Bj:DC l (Ls listed):=fun k' o' Gn IE e he hb=>by
   have aL:=(Zl.1 Gn).1;have:=lV hc.ac Gn e he hb;exact (hL e.on (by omega)).2 (by have:=(hL k' aL).1 IE;omega)
  have PK:k<l.length:=by omega
  refine ⟨fun h0=>?_,fun i hi=>?_⟩
  ·obtain ⟨i,hi⟩:=k8 hsz hc.ac ⟨k,PK,fun hh=>by have:=(hL k PK).1 hh;omega⟩;rw [h0] at hi;cases hi
  ·obtain ⟨o,ho,hn,_⟩:=(eI hsz).1 hi;have aL:=(Zl.1 ho).1;have T1:k<=i:=Zbj fun hh=>hn ((hL i aL).2 hh)
   have:i=k:=by
    rcases Zbx k i with hh | hh
    ·have:=(hL k PK).1 (re hc hsz Bj hi (by omega) k hh);omega
    ·omega
   subst this;rw [Zt aL] at h;have Gn:l[i]=o:=by rw [Zc aL] at ho;exact Option.some.inj ho
   rw [Gn] at h;refine D5 (by simpa using ho) (fun a' w' h'=>Ez hc fuel (i+1) _ a' w' (by omega) (by omega) (by simpa using hsz) (fun j hj=>?_) h') h;rw [dA (by omega)];have:=hL j hj;constructor
   ·rintro (e | hh)
    ·omega
    ·have:=this.1 hh;omega
   ·intro hh;by_cases e:j=i
    ·exact .inl e
    ·exact .inr (this.2 (by omega))
structure Inv1 (c:Cx) (D:List Nat) (hs:List bd) (l:List Oper) (m:Nat) (S:List Rel) (a0:Act) (fuel:Nat) (listed:Array Bool) (a:Act) (w:World):Prop where
 sz:listed.size=l.length
 dc:DC l (Ls listed)
 hi:∀ k,m<=k->¬ Ls listed k
 mem:Mem c (hs++nF D) w
 defers:a.defers=D.map mark
 size:a.tmps.size=c.nt
 F9:∀ t,(∀ (j:Nat) (o:Oper),l[j]? = some o->Ls listed j->o.dst≠some t)->a.tmps[t]? = a0.tmps[t]?
 new:∀ (j:Nat) (o:Oper),l[j]? = some o->Ls listed j->∀ d R,o.dst=some d->S[j]? = some R->∃ v,a.tmps[d]? = some v/\R.p v w
 left:∃ U:List Nat,U.Nodup/\(∀ i,i∈U↔i<l.length/\¬ Ls listed i)/\U.length=fuel
theorem mP (hc:US l m) {i j:Nat} {x y:Oper} (zB:i<j) (hj:j<m) (hx:l[i]? = some x) (hy:l[j]? = some y):rf l.toArray x y i=true:=by
 have:=oy hc.CS (i:=i) (j:=j) zB (by rw [ZN,if_pos (by omega)];exact hx) (by rw [ZN,if_pos hj];exact hy);simpa using this
theorem eQ {ops:Array Oper} {x y:Oper} {i d e:Nat} (h:rf ops x y i=true) (hx:x.dst=some d) (hy:y.dst=some e):d≠e/\((d∈y.looksAt ops\/e∈x.looksAt ops)->fG y i=true):=by
 simp only [rf,hx,hy,Zn,Zbc,ZS] at h;obtain ⟨h1,h2⟩:=h;refine ⟨fun e'=>by subst e';simp at h1,fun h3=>?_⟩;rcases h2 with ⟨h4,h5⟩ | h2
 ·rcases h3 with h3 | h3
  ·rw [Gp.2 h3] at h4;cases h4
  ·rw [Gp.2 h3] at h5;cases h5
 ·exact h2
theorem eo (h:fG o i=true):∃ e∈o.after,NC e=true/\e.on=i:=by
 simp only [fG,ZR,Zn] at h;obtain ⟨e,he,hb,rN⟩:=h;exact ⟨e,by simpa using he,hb,Zad rN⟩
theorem C7 (hc:US l m) (hl:m<=l.length) {a0 a:Act} {w w':World} {fuel i d:Nat} {listed:Array Bool} {o:Oper} {R:Rel} {v:Value} (hI:Inv1 c D hs l m S a0 (fuel+1) listed a w)
  (hi:i∈Region.ready .any l.toArray listed) (tH:i<m) (ho:l[i]? = some o) (hd:o.dst=some d) (gl:d<c.nt) (uC:S[i]? = some R)
  (abG:∀ (j:Nat) (oj:Oper),j<m->l[j]? = some oj->∃ e,oj.dst=some e) (hk:aI [] w w') (hv:R.p v w'):Inv1 c D hs l m S a0 fuel (listed.setIfInBounds i true) (a.put o.dst v) w':=by
 obtain ⟨o',Gn,hn,pR⟩:=(eI hI.sz).1 hi;rw [ho] at Gn;cases Gn;have kr:i<listed.size:=by rw [hI.sz];omega
 have _:=abG;have uB:∀ (j:Nat) (oj:Oper) (e:Nat),l[j]? = some oj->j<m->j≠i->oj.dst=some e->e≠d:=by
  intro j oj e hj kS hne he;rcases Zbx j i with h | h
  ·exact (eQ (mP hc h tH hj ho) he hd).1
  ·exact fun e'=>(eQ (mP hc (show i<j by omega) kS ho hj) hd he).1 e'.symm
 rw [hd];refine ⟨by simpa using hI.sz,?_,?_,hI.mem.sx hk,hI.defers,by simpa [Act.put] using hI.size,?_,?_,?_⟩
 ·intro k ok xV hL e he hb;rw [dA kr] at hL ⊢;rcases hL with e' | hL
  ·subst e';rw [ho] at xV;cases xV;exact .inr (pR e he hb)
  ·exact .inr (hI.dc k ok xV hL e he hb)
 ·intro k xV hL;rw [dA kr] at hL;rcases hL with e | hL
  ·omega
  ·exact hI.hi k xV hL
 ·intro t ht;have h1:d≠t:=fun e=>by subst e;exact ht i o ho ((dA kr).2 (.inl rfl)) hd
  simp only [Act.put,ZO h1];exact hI.F9 t fun j oj hj hL=>ht j oj hj ((dA kr).2 (.inr hL))
 ·intro j oj hj hL e Rj he hRj;rw [dA kr] at hL;by_cases td:j=i
  ·subst td;rw [ho] at hj;cases hj;rw [hd] at he;cases he;rw [uC] at hRj;cases hRj;exact ⟨v,by simp [Act.put,hI.size,gl],hv⟩
  ·have Gs:=hL.resolve_left td;obtain ⟨u,hu,hp⟩:=hI.new j oj hj Gs e Rj he hRj;have kS:j<m:=ZZ fun h=>hI.hi j h Gs
   have hne:e≠d:=uB j oj e hj kS td he;refine ⟨u,?_,Rj.st hp hk⟩;simp only [Act.put,ZO (Ne.symm hne)];exact hu
 ·obtain ⟨U,DY,vB,yA⟩:=hI.left;have WZ:i∈U:=(vB i).2 ⟨by omega,hn⟩;refine ⟨U.erase i,DY.erase i,fun j=>?_,by rw [ZaY WZ,yA];rfl⟩;rw [DY.mem_erase_iff,vB j,dA kr];constructor
  ·rintro ⟨h1,h2,h3⟩;exact ⟨h2,fun h=>h.elim h1 h3⟩
  ·rintro ⟨h1,h2⟩;exact ⟨fun e=>h2 (.inl e),h1,fun h=>h2 (.inr h)⟩
def Fq (rl:fv) (a:Act) (w:World):Prop:=∀ d R,(d,R)∈rl->∃ v,a.tmps[d]? = some v/\R.p v w
theorem S4 (hc:US l m) (hp:tT P c hs l.toArray (l.take m) sl [] S jV lE) {a0:Act} (h0:bZ sl a0) (PH:a0.tmps.size=c.nt)
  (tail:∀ a w,St c D jV hs a w->Fq lE a w->WL P r l.toArray Q (l.drop m) a w) :
  ∀ (fuel:Nat) (listed:Array Bool) (a:Act) (w:World),Inv1 c D hs l m S a0 fuel listed a w->wpAnyIn (FR r) 0 P .any l.toArray Q fuel listed a w:=by
 have sG:=hp.end_;have fD:∀ (j:Nat) (o:Oper),j<m->l[j]? = some o->(l.take m)[j]? = some o:=fun j o hj ho=>by rw [ZN,if_pos hj];exact ho
 have ie:∀ (j:Nat) (o:Oper),(l.take m)[j]? = some o->j<m/\l[j]? = some o:=fun j o ho=>by
  rw [ZN] at ho;split at ho
  ·exact ⟨by assumption,ho⟩
  ·cases ho
 have pQ:∀ fuel listed a w,Inv1 c D hs l m S a0 fuel listed a w->(∀ i,i<m->Ls listed i)->wpAnyIn (FR r) 0 P .any l.toArray Q fuel listed a w:=by
  intro fuel listed a w hI fj;have hL:∀ i,i<l.length->(Ls listed i↔i<m):=fun i _=>⟨fun h=>ZZ fun hm=>hI.hi i hm h,fj i⟩
  obtain ⟨U,DY,vB,yA⟩:=hI.left;have jE:U.Perm (List.range' m (l.length-m)):=by
   rw [ZaQ DY (List.nodup_range')];intro i;rw [vB i,Zbb];constructor
   ·rintro ⟨h1,h2⟩;exact ⟨Zbj fun h=>h2 (fj i h),by omega⟩
   ·rintro ⟨h1,h2⟩;exact ⟨by omega,hI.hi i h1⟩
  have hlen:fuel=l.length-m:=by rw [<- yA,jE.length_eq,List.length_range']
  refine Ez hc fuel m listed a w (Zv _) (by have:=hc.le;omega) hI.sz hL (tail a w ⟨hI.mem,?_,hI.size,hI.defers⟩ ?_)
  ·intro t v hv;rcases sG.1 t v hv with ⟨j,oj,hj,jG,lu⟩ | ⟨rq,nW⟩
   ·obtain ⟨kS,pP⟩:=ie j oj hj;obtain ⟨u,hu,mD⟩:=hI.new j oj pP (fj j kS) t _ jG lu;rw [hu,show u=v from mD]
   ·rw [hI.F9 t fun j oj hj np=>rq j oj (fD j oj (ZZ fun hm=>hI.hi j hm np) hj)]
    exact h0 t v nW
  ·intro d R hm;rcases sG.2.1 d R hm with ⟨j,oj,hj,jG,lu⟩ | aB
   ·obtain ⟨kS,pP⟩:=ie j oj hj;exact hI.new j oj pP (fj j kS) d R jG lu
   ·cases aB
 intro fuel
 induction fuel with
 | zero =>
  intro listed a w hI;obtain ⟨U,_,vB,yA⟩:=hI.left;have hU:U=[]:=Zav.1 yA;refine pQ 0 listed a w hI fun i hi=>Classical.byContradiction fun hn=>?_;have:=(vB i).2 ⟨by have:=hc.le;omega,hn⟩;rw [hU] at this;cases this
 | succ fuel ih =>
  intro listed a w hI;by_cases fj:∀ i,i<m->Ls listed i
  ·exact pQ _ listed a w hI fj
  ·have hex:∃ i,i<m/\¬ Ls listed i:=Classical.byContradiction fun hh=>fj fun i hi=>Classical.byContradiction fun hn=>hh ⟨i,hi,hn⟩
   obtain ⟨i0,vA,uO⟩:=hex;refine ⟨fun hr=>?_,fun i hi=>?_⟩
   ·obtain ⟨i,hi⟩:=k8 hI.sz hc.ac ⟨i0,by have:=hc.le;omega,uO⟩;rw [hr] at hi;cases hi
   ·have tH:i<m:=ZZ fun hm=>uO (re hc hI.sz hI.dc hi hm i0 (by omega))
    obtain ⟨o,ho,hn,pR⟩:=(eI hI.sz).1 hi;obtain ⟨ve,Nj,R,Ui,iY,hs1,hs2⟩:=hp.at_ i o (fD i o tH ho);obtain ⟨d,R',hd,gl,uC⟩:=sG.2.2 i o (fD i o tH ho);rw [Ui] at uC;cases uC;have oN:∀ (j:Nat),fG o j=true->Ls listed j:=fun j hw=>by
     obtain ⟨e,he,hb,rN⟩:=eo hw;rw [<- rN];exact pR e he hb
    have Dq:∀ (j t:Nat) (oj:Oper),j<i->(l.take m)[j]? = some oj->oj.dst=some t->t∈o.looksAt l.toArray->Ls listed j:=by
     intro j t oj hj jt jG ht;obtain ⟨kS,pP⟩:=ie j oj jt;exact oN j ((eQ (mP hc hj tH pP ho) jG hd).2 (.inl ht))
    have hT:∀ t∈o.looksAt l.toArray,∀ v,dj ve t=some v->a.tmps[t]? = some v:=by
     intro t ht v hv;rcases hs1 t v hv with ⟨j,oj,hj,jt,jG,lu⟩ | ⟨rq,nW⟩
     ·obtain ⟨u,hu,mD⟩:=hI.new j oj (ie j oj jt).2 (Dq j t oj hj jt jG ht) t _ jG lu;rw [hu,show u=v from mD]
     ·rw [hI.F9 t fun j oj hj np jG=>?_]
      ·exact h0 t v nW
      ·have kS:j<m:=ZZ fun hm=>hI.hi j hm np
       rcases Zau j i with h | h | h
       ·exact rq j oj h (fD j oj kS hj) jG
       ·subst h;exact hn np
       ·have hw:=(eQ (mP hc h kS ho hj) hd jG).2 (.inr ht);obtain ⟨e,he,hb,rN⟩:=eo hw;have:=hI.dc j oj hj np e he hb;rw [rN] at this;exact hn this
    have Be:∀ t v,dj ve t=some v->t<c.nt:=by
     intro t v hv;rcases hs1 t v hv with ⟨j,oj,_,jt,jG,_⟩ | ⟨_,nW⟩
     ·obtain ⟨d',_,Bk,Bi,_⟩:=sG.2.2 j oj jt;rw [jG] at Bk;cases Bk;exact Bi
     ·have:=h0 t v nW;rw [<- PH];exact (Z3.1 this).1
    obtain ⟨a',mz,jU,_⟩:=sP hI.size Be hT;have TO:BU (o.looksAt l.toArray) Nj a' w:=by
     intro t Rt hm ht;rcases hs2 t Rt hm with ⟨j,oj,hj,jt,jG,lu⟩ | aB
     ·obtain ⟨v,hv,mD⟩:=hI.new j oj (ie j oj jt).2 (Dq j t oj hj jt jG ht) t _ jG lu;exact ⟨v,by rw [jU t ht];exact hv,mD⟩
     ·cases aB
    have hq:=iY a' w mz TO hI.mem.mn;have HL:pD o=true:=hc.op o (Z2 ho);have hex:=kh (o:=o) (ops:=l.toArray) HL jU;rw [j4 jU] at hq;have kd:∀ v w',aI [] w w'->R.p v w'->wpAnyIn (FR r) 0 P .any l.toArray Q fuel (listed.setIfInBounds i true) (a.put o.dst v) w':=fun v w' hk hv=>
     ih _ _ _ (C7 hc hc.le hI hi tH ho hd gl Ui (fun j oj hj jt=>let ⟨e,_,he,_⟩:=sG.2.2 j oj (fD j oj hj jt);⟨e,he⟩) hk hv)
    unfold wpOpIn;rw [show l.toArray[i]? = some o from by simpa using ho];simp only [];split
    ·rename_i hw;rw [if_pos hw] at hq;refine ⟨eh _ _ _ _ _,?_⟩;rw [Oper.semAt_eq _ _ _ (fun cc he=>by simp [pD,he] at HL),<- hex]
     unfold yJ at hq
     revert hq
     generalize (execOp a'.eval o).run P w=res;intro hq
     match res,hq with
     | .ok (.value v) w',⟨hk,hv⟩=>exact kd v w' hk hv
     | .ok (.enter f args) w', ⟨e, cV⟩ =>
      subst e;refine ⟨by simp [FR,Fence.wide],(jN cV).mono fun e z8 h=>?_⟩;obtain ⟨v,rfl,hk,hv⟩:=h;exact kd v z8 hk hv
    ·rename_i hw;rw [if_neg hw] at hq;exact ⟨fun _ _=>trivial,kd undef w (.refl _ _) hq⟩
theorem Ak {id:Nat} (sD:P.follows .mixedOrders=true) (fP:zi l m=true) (hp:tT P c hs l.toArray (l.take m) sl [] S jV lE)
  (tail:∀ a w,St c D jV hs a w->Fq lE a w->WL P r l.toArray Q (l.drop m) a w):Tr c D sl hs (WP P r (.region id l.toArray true) Q):=fun a w bb=>by
 unfold WP;refine wpIn_region_any sD ?_;refine S4 (wz fP) hp bb.dw bb.size tail l.toArray.size _ a _ ⟨by simp,?_,?_,?_,bb.defers,bb.size,fun t _=>rfl,?_,List.range l.length,ZbD,?_,by simp⟩
 ·exact fun k o _ hL=>absurd hL (gQ _ _)
 ·exact fun k _ hL=>gQ _ _ hL
 ·exact bb.mem.drew
 ·exact fun j o _ hL=>absurd hL (gQ _ _)
 ·exact fun i=>⟨fun h=>⟨by simpa using h,gQ _ _⟩,fun h=>by simpa using h.1⟩
end
end Go.SL
namespace Go.SL
open Go
def leq:Value->Value->Option Bool
 | .int k a,.int k' b=>if k=k' then some (decide (a=b)) else none
 | .string a,.string b=>some (decide (a=b))
 | .bool a,.bool b=>some (a==b)
 | _,_=>none
def xW:List Value->List Value->Option Bool
 | [],[]=>some true
 | x :: xs, y :: ys => match leq x y, xW xs ys with
  | some p,some q=>some (p&&q)
  | _,_=>none
 | _,_=>none
def Lo:Option TypeDesc->Bool
 | some (.int _) | some .string | some .bool=>true
 | _=>false
section
variable {P:Program} {w:World}
theorem Gd {d:Nat} {t:TypeId} {x y:Value} {b:Bool} (hl:Lo (P.underlying t)=true) (hk:∀ k,P.underlying t=some (.int k)->∃ a,x=.int k a) (hs:P.underlying t=some .string->∃ a,x=.string a) (hb:P.underlying t=some .bool->∃ a,x=.bool a)
  (h:leq x y=some b):(Op.equalIn (d+1) t x y).run P w=.ok b w:=by
 cases hu:P.underlying t with
 | none=>rw [hu] at hl;cases hl
 | some D =>
  rw [hu] at hl;cases D with
  | int k =>
   obtain ⟨a,rfl⟩:=hk k hu;cases y <;> simp only [leq] at h <;> try cases h
   rename_i k' b';split at h
   ·rename_i e;subst e;cases h;rw [run_equalIn_int w d t k k a b' hu];congr 1
   ·cases h
  | string =>
   obtain ⟨a,rfl⟩:=hs hu;cases y <;> simp only [leq,Option.some.injEq] at h <;> try cases h
   rw [run_equalIn_string w d t a _ hu,vb]
  | bool =>
   obtain ⟨a,rfl⟩:=hb hu;cases y <;> simp only [leq,Option.some.injEq] at h <;> try cases h
   rw [run_equalIn_bool' w d t a _ hu]
  | _=>cases hl
end
def wV (D:Option TypeDesc) (x:Value):Bool:=
 match D,x with
 | some (.int k),.int k' _=>decide (k=k')
 | some .string,.string _=>true
 | some .bool,.bool _=>true
 | _,_=>false
def q8 (P:Program) (g:TypeId->Option (List TypeId)) (acc:Option (List TypeId)) (f:Field):Option (List TypeId):=
 match acc,g f.type,P.info? f.type with
 | some a,some m,some i=>if f.offset=a.length/\f.name ≠ "_" /\ i.size=m.length then some (a++m) else none
 | _,_,_=>none
theorem rB (P:Program) (g:TypeId->Option (List TypeId)):∀ (fl:List Field),fl.foldl (q8 P g) none=none
 | []=>rfl
 | f::fl=>by simp only [List.foldl_cons,q8];exact rB P g fl
theorem zG (P:Program) (g:TypeId->Option (List TypeId)):∀ (fl:List Field) (A ts:List TypeId),fl.foldl (q8 P g) (some A)=some ts->∃ rest,ts=A++rest
 | [],A,ts,h=>⟨[],by simpa using h.symm⟩
 | f :: fl, A, ts, h => by
  simp only [List.foldl_cons] at h;cases hs:q8 P g (some A) f with
  | none=>rw [hs,rB] at h;cases h
  | some B =>
   rw [hs] at h;obtain ⟨r,hr⟩:=zG P g fl B ts h;unfold q8 at hs;split at hs
   ·rename_i a m i e1 _ _;cases e1;split at hs
    ·cases hs;exact ⟨m++r,by rw [hr];simp⟩
    ·cases hs
   ·cases hs
theorem E0 {P:Program} {g:TypeId->Option (List TypeId)} {a B:List TypeId} {f:Field} (hs:q8 P g (some a) f=some B) :
  ∃ m i,g f.type=some m/\P.info? f.type=some i/\f.offset=a.length/\f.name ≠ "_" /\ i.size=m.length/\B=a++m:=by
 unfold q8 at hs;split at hs
 ·rename_i a' m i e1 e2 e3;cases e1;split at hs
  ·rename_i h;cases hs;exact ⟨m,i,e2,e3,h.1,h.2.1,h.2.2,I⟩
  ·cases hs
 ·cases hs
theorem Bx:∀ {xs ys:List Value} {b:Bool},xW xs ys=some b->xs.length=ys.length
 | [],[],_,_=>rfl
 | [],_::_,_,h=>by simp [xW] at h
 | _::_,[],_,h=>by simp [xW] at h
 | x :: xs, y :: ys, b, h => by
  simp only [xW] at h;split at h
  ·rename_i p q hp hq;simp [Bx hq]
  ·cases h
def lI (P:Program):Nat->TypeId->Option (List TypeId)
 | 0,_=>none
 | d + 1, t =>
  match P.underlying t with
  | some (.int _) | some .string | some .bool=>some [t]
  | some (.struct fs) =>
   if P.stoodInHeld t then none else
   fs.toList.foldl (q8 P (lI P d)) (some [])
  | some (.array n e) => match lI P d e, P.info? e with
   | some m,some i=>if i.size=m.length then some ((List.replicate n m).flatten) else none
   | _,_=>none
  | _=>none
def tA (P:Program):List TypeId->List Value->Bool
 | [],[]=>true
 | t::ts,x::xs=>wV (P.underlying t) x&&tA P ts xs
 | _,_=>false
section
variable {P:Program}
theorem oA:∀ {ts:List TypeId} {xs:List Value},tA P ts xs=true->xs.length=ts.length
 | [],[],_=>rfl
 | [],_::_,h=>by cases h
 | _::_,[],h=>by cases h
 | t :: ts, x :: xs, h => by
  simp only [tA,Zn] at h;simp [oA h.2]
theorem oB:∀ {ts us:List TypeId} {xs:List Value},tA P (ts++us) xs=true->tA P ts (xs.take ts.length)=true/\tA P us (xs.drop ts.length)=true
 | [],us,xs,h=>by simpa [tA] using h
 | t::ts,us,[],h=>by simp [tA] at h
 | t :: ts, us, x :: xs, h => by
  simp only [Zb,tA,Zn] at h;have:=oB h.2;simp [tA,h.1,this]
theorem rE:∀ {n:Nat} {xs ys:List Value} {b:Bool},n<=xs.length->xW xs ys=some b->∃ p q,xW (xs.take n) (ys.take n)=some p/\xW (xs.drop n) (ys.drop n)=some q/\b=(p&&q)
 | 0,xs,ys,b,_,h=>⟨true,b,by simp [xW],by simpa using h,by simp⟩
 | n+1,[],ys,b,hn,h=>by simp at hn
 | n+1,x::xs,[],b,_,h=>by simp [xW] at h
 | n + 1, x :: xs, y :: ys, b, hn, h => by
  simp only [xW] at h;split at h
  ·rename_i p q hp hq;cases h;obtain ⟨p',q',h1,h2,e⟩:=rE (n:=n) (by simpa using hn) hq;exact ⟨p&&p',q',by simp [xW,hp,h1],by simpa using h2,by rw [e,Bool.and_assoc]⟩
  ·cases h
theorem uk {d:Nat} {t:TypeId} {m:List TypeId} (h:lI P d t=some m):∃ D,P.underlying t=some D/\(lr D=false->m.length=1):=by
 cases d with
 | zero=>cases h
 | succ d =>
  unfold lI at h;cases hu:P.underlying t with
  | none=>rw [hu] at h;cases h
  | some D =>
   refine ⟨D,I,fun hD=>?_⟩;rw [hu] at h;cases D with
   | int k=>cases h;rfl
   | string=>cases h;rfl
   | bool=>cases h;rfl
   | struct fs=>cases hD
   | array n e=>cases hD
   | _=>cases h
theorem vl {t:TypeId} {D:TypeDesc} {i:TypeInfo} {n o:Nat} {zs:List Value} {w:World} (hu:P.underlying t=some D) (hi:P.info? t=some i) (hn:i.size=n) (h1:lr D=false->n=1) (hz:o+n<=zs.length) :
  ∃ v,(part t zs.toArray o).run P w=.ok v w/\(lr D=true->v=.agg ((zs.drop o).take n).toArray)/\(lr D=false->(zs.drop o).take n=[v]):=by
 have hag:(isAgg t).run P w=.ok (lr D) w:=by
  unfold isAgg;rw [Sem.run_bind,aX hu,Result.andThen_ok];cases D <;> rfl
 unfold part;rw [Sem.run_bind,hag,Result.andThen_ok];cases hD:lr D with
 | true =>
  refine ⟨.agg (zs.toArray.extract o (o+n)),by simp [sizeOf,gy hi,hn],fun _=>?_,fun h=>by cases h⟩;congr 1;simp [List.extract_eq_take_drop]
 | false =>
  have e:=h1 hD;subst e;refine ⟨zs[o]'(by omega),by simp [show o<zs.length from by omega],fun h=>(by cases h),fun _=>?_⟩;rw [Zt (by omega),List.take_succ_cons,Ze]
theorem EI (d k:Nat):∀ (t:TypeId) (ts:List TypeId),lI P d t=some ts->∀ (xs ys:List Value) (b:Bool) (w:World),tA P ts xs=true->xW xs ys=some b ->
  ∀ x y,(lr ((P.underlying t).getD .bool)=true->x=.agg xs.toArray/\y=.agg ys.toArray)->(lr ((P.underlying t).getD .bool)=false->xs=[x]/\ys=[y])->(Op.equalIn (d+k) t x y).run P w=.ok b w:=by
 induction d with
 | zero=>intro t ts h;cases h
 | succ d ih =>
  intro t ts h xs ys b w dP heq x y h1 h2;rw [show d+1+k=(d+k)+1 from by omega];have LM:∀ (hl:Lo (P.underlying t)=true) (Wm:ts=[t]) (hna:lr ((P.underlying t).getD .bool)=false),(Op.equalIn (d+k+1) t x y).run P w=.ok b w:=by
   intro hl Wm hna;obtain ⟨rfl,rfl⟩:=h2 hna;subst Wm;simp only [tA,Bool.and_true] at dP;have hq:leq x y=some b:=by
    simp only [xW] at heq;split at heq
    ·rename_i p q hp ux;cases ux;cases heq;simpa using hp
    ·cases heq
   refine Gd hl (fun kk hu=>?_) (fun hu=>?_) (fun hu=>?_) hq <;> rw [hu] at dP <;> cases x <;> simp_all [wV]
  unfold lI at h;split at h
  ·rename_i kk hu;exact LM (by rw [hu];rfl) (Option.some.inj h).symm (by rw [hu];rfl)
  ·rename_i hu;exact LM (by rw [hu];rfl) (Option.some.inj h).symm (by rw [hu];rfl)
  ·rename_i hu;exact LM (by rw [hu];rfl) (Option.some.inj h).symm (by rw [hu];rfl)
  ·rename_i fs hu;split at h
   ·cases h
   ·rename_i bb;obtain ⟨rfl,rfl⟩:=h1 (by rw [hu];rfl);have hf:P.fieldsOf t=fs:=by simp [Program.fieldsOf,hu]
    rw [run_equalIn_struct w (d+k) t _ _ (by rw [hf];exact hu) (by simpa using bb),hf]
    -- DV fields,one after DV other
    have key:∀ (fl:List Field) (acc:List TypeId),fl.foldl (q8 P (lI P d)) (some acc)=some ts->∀ c,xW (xs.drop acc.length) (ys.drop acc.length)=some c->acc.length<=xs.length->(Op.eqFields (d+k) xs.toArray ys.toArray fl).run P w=.ok c w:=by
     intro fl
     induction fl with
     | nil =>
      intro acc ha c hc _;simp only [List.foldl_nil,Option.some.injEq] at ha;have hlen:=oA dP;rw [ha,<- hlen,ZY] at hc;have:c=true:=by
       cases hy:ys.drop xs.length with
       | nil=>rw [hy] at hc;simpa [xW] using hc.symm
       | cons=>rw [hy] at hc;simp [xW] at hc
      simp [Op.eqFields,this]
     | cons f fl ihf =>
      intro acc ha c hc hle;simp only [List.foldl_cons] at ha;cases hB:q8 P (lI P d) (some acc) f with
      | none=>rw [hB,rB] at ha;cases ha
      | some B =>
       rw [hB] at ha;obtain ⟨m,i,hm,hi,ho,hn,hsz,rfl⟩:=E0 hB
       -- ts=acc++m++..
       have nn:∃ rest,ts=acc++m++rest:=zG P _ fl _ _ ha;obtain ⟨rest,Wm⟩:=nn;have hlen:=oA dP;have abc:tA P m ((xs.drop acc.length).take m.length)=true:=by
        rw [Wm,Zh] at dP;exact (oB (oB dP).2).1
       have YJ:acc.length+m.length<=xs.length:=by rw [hlen,Wm];simp
       obtain ⟨p,q,hp,hq,rfl⟩:=rE (n:=m.length) (by simp;omega) hc;have hly:acc.length+m.length<=ys.length:=by have:=Bx heq;omega
       obtain ⟨Df,Pw,iO⟩:=uk hm;obtain ⟨vx,rx,ax,bx⟩:=vl (w:=w) Pw hi hsz iO YJ;obtain ⟨vy,ry,ay,by'⟩:=vl (w:=w) Pw hi hsz iO hly;rw [<- ho] at rx ry;have hr:=ih f.type m hm _ _ p w abc hp vx vy (by rw [Pw];exact fun hA=>⟨ax hA,ay hA⟩) (by rw [Pw];exact fun hA=>⟨bx hA,by' hA⟩)
       have Wz:=ihf (acc++m) ha q (by simpa [Zbk] using hq) (by simp;omega);simp only [Op.eqFields,ne_eq,hn,not_false_eq_true,if_true,Sem.run_bind,rx,Result.andThen_ok,ry,hr];cases p
       ·simp
       ·simpa using Wz
    exact key fs.toList [] h b (by simpa using heq) (by simp)
  ·rename_i n e hu;split at h
   ·rename_i m i hm hi;split at h
    ·rename_i hsz;obtain ⟨rfl,rfl⟩:=h1 (by rw [hu];rfl);simp only [Option.some.injEq] at h;subst h;have hlen:=oA dP;have abi:xs.length=ys.length:=Bx heq;have hL:xs.length=n*m.length:=by rw [hlen];simp
     have aaM:(sizeOf e).run P w=.ok m.length w:=by simp [sizeOf,gy hi,hsz]
     obtain ⟨De,Pw,iO⟩:=uk hm
     have abD:∀ (c j:Nat) (p:Bool),j+c=n->xW (xs.drop (j*m.length)) (ys.drop (j*m.length))=some p->tA P ((List.replicate c m).flatten) (xs.drop (j*m.length))=true ->
       ((forIn (List.range' j c) ((none, ()) : Option Bool × Unit) fun i r => (do
        let a <- part e xs.toArray (i*m.length)
        let b <- part e ys.toArray (i*m.length)
        let r' <- Op.equalIn (d+k) e a b
        if (!r')=true then pure (ForInStep.done (some false,())) else pure (ForInStep.yield (none,()))):Sem (Option Bool×Unit)).run P w)=.ok (bif p then none else some false,()) w:=by
      intro c
      induction c with
      | zero =>
       intro j p hj hp _;have hz:xs.drop (j*m.length)=[]:=by apply Zbi;rw [hL,show j=n from by omega];exact Zv _
       have Ly:ys.drop (j*m.length)=[]:=by apply Zbi;rw [<- abi,hL,show j=n from by omega];exact Zv _
       rw [hz,Ly] at hp;simp only [xW,Option.some.injEq] at hp;subst hp;simp
      | succ c ihc =>
       intro j p hj hp WK;have tJ:j*m.length+m.length<=xs.length:=by
        rw [hL,<- Zac];exact Z0 _ (by omega)
       obtain ⟨vx,rx,ax,bx⟩:=vl (w:=w) Pw hi hsz iO tJ;obtain ⟨vy,ry,ay,by'⟩:=vl (w:=w) Pw hi hsz iO (show j*m.length+m.length<=ys.length by omega);obtain ⟨p1,p2,BW,PE,rfl⟩:=rE (n:=m.length) (by simp;omega) hp;rw [List.replicate_succ,Zak] at WK;have ho:=oB WK;have hr:=ih e m hm _ _ p1 w ho.1 BW vx vy (by rw [Pw];exact fun hA=>⟨ax hA,ay hA⟩) (by rw [Pw];exact fun hA=>⟨bx hA,by' hA⟩)
       simp only [List.range'_succ,List.forIn_cons,Sem.run_bind,rx,ry,hr,Result.andThen_ok];cases p1
       ·simp
       ·have kd:=ihc (j+1) p2 (by omega) (by rw [Zac,<- Zbk,<- Zbk];exact PE) (by rw [Zac,<- Zbk];exact ho.2);simp only [Bool.not_true,ZaV,if_false,Sem.run_pure,Result.andThen_ok,Zaz];exact kd
     have hf:=abD n 0 b (by omega) (by simpa using heq) (by simpa using dP);simp only [Op.equalIn,Sem.run_bind,aX hu,Result.andThen_ok,aaM];rw [Std.Legacy.Range.forIn_eq_forIn_range'];simp only [Std.Legacy.Range.size,Nat.sub_zero,Zay,Nat.div_one];rw [hf];cases b <;> simp
    ·cases h
   ·cases h
  ·cases h
class BV (P:Program) (t:TypeId) (ts:outParam (List TypeId)):Prop where
 eq:lI P 20 t=some ts:=by kernel_rfl
 agg:lr ((P.underlying t).getD .bool)=true:=by kernel_rfl
 guard:P.eqGuardType P.depth t=false:=by kernel_rfl
variable {c:Cx} {sl:aN} {hs:List bd} {dst:Option Tmp} {ty:TypeId} {pos:String} {af:Array Edge} {g:Option (Nat×Bool)}
variable {ts:List TypeId} {xs:List Value}
theorem rZ {t:TypeId} [h:BV P t ts] {xs ys:List Value} {b:Bool} (dP:tA P ts xs=true) (heq:xW xs ys=some b) (w:World):(Op.equalIn 10000 t (.agg xs.toArray) (.agg ys.toArray)).run P w=.ok b w:=
 EI 20 9980 t ts h.eq xs ys b w dP heq _ _ (fun _=>⟨I,I⟩) (fun hn=>by rw [h.agg] at hn;cases hn)
theorem vi {t u:TypeId} [h:BV P t ts] {x y:Operand} {xs ys:List Value} {b:Bool} (hx:Is sl x (.agg xs.toArray)) (hy:Is sl y (.agg ys.toArray)) (dP:tA P ts xs=true) (heq:xW xs ys=some b) :
  du P c sl hs ⟨dst,.binOp .eql t x y u,ty,pos,af,g⟩ (.bool b):=
 jr hx hy fun w=>by
  rw [Sem.run_bind,run_eqGuard_agg w _ _ _ _ _ _ h.guard,Result.andThen_ok,run_eql_struct,rZ dP heq];rfl
theorem vg {t u:TypeId} [h:BV P t ts] {x y:Operand} {xs ys:List Value} {b:Bool} (hx:Is sl x (.agg xs.toArray)) (hy:Is sl y (.agg ys.toArray)) (dP:tA P ts xs=true) (heq:xW xs ys=some b) :
  du P c sl hs ⟨dst,.binOp .neq t x y u,ty,pos,af,g⟩ (.bool (!b)):=
 jr hx hy fun w=>by
  rw [Sem.run_bind,run_eqGuard_agg w _ _ _ _ _ _ h.guard,Result.andThen_ok,run_neq_struct,rZ dP heq];rfl
theorem mQ:tA P [] []=true:=rfl
theorem kQ {t:TypeId} {k:IntKind} {n:Int} [h:iI P t (.int k)] (hr:tA P ts xs=true):tA P (t::ts) (.int k n::xs)=true:=by
 simp [tA,wV,h.eq,hr]
theorem fS {t:TypeId} {s:ByteArray} [h:iI P t .string] (hr:tA P ts xs=true):tA P (t::ts) (.string s::xs)=true:=by
 simp [tA,wV,h.eq,hr]
theorem K2 {t:TypeId} {b:Bool} [h:iI P t .bool] (hr:tA P ts xs=true):tA P (t::ts) (.bool b::xs)=true:=by
 simp [tA,wV,h.eq,hr]
end
end Go.SL
namespace Go.SL
open Go
def ev (sl:aN):Operand->Option Value
 | .tmp t=>dj sl t
 | .const v=>some v
 | .global g=>some (.pointer (some ⟨g,0,none⟩))
 | .func f=>some (.func (.func f) #[] #[])
variable {i:Nat} {v:Value} {vs:List Value} {x:Operand} {xs:List (Nat×Operand)}
theorem Is.of {sl:aN} (h:ev sl x=some v):Is sl x v:=fun a ha=>by
 cases x with
 | tmp t=>exact ha.eval h
 | const u=>exact Option.some.inj h
 | global g=>exact Option.some.inj h
 | func f=>exact Option.some.inj h
theorem xN.o {sl:aN} {vs:List (Nat×Value)} (h:ev sl x=some v) (t:xN sl xs vs):xN sl ((i,x)::xs) ((i,v)::vs):=.cons (.of h) t
theorem tU.o {sl:aN} (h:ev sl x=some v) (t:tU sl (i+1) xs vs):tU sl i ((i,x)::xs) (v::vs):=.cons (.of h) t
theorem Il.o {sl:aN} {xs:List Operand} (h:ev sl x=some v) (t:Il sl xs vs):Il sl (x::xs) (v::vs):=.cons (.of h) t
theorem Is.bW {sl:aN} {c:Bool} (hc:c=true) (h:ev sl x=some (SL.gv c v)):Is sl x v:=(vC hc (v:=v)) ▸ Is.of h
class UQ (P:Program):Prop where
 eq:P.follows .mixedOrders=true:=by kernel_rfl
section
variable {P:Program} {r:Option Nat} {c:Cx} {D:List Nat} {sl:aN} {rl:fv} {hs hs':List bd} {Q:Exit->Act->World->Prop} {ops:Array Oper} {m d:Nat} {dst:Option Tmp} {op:Op} {ty:TypeId} {pos:String} {af:Array Edge} {g:Option (Nat×Bool)} {rest:List Oper}
def lQ (P:Program) (r:Option Nat) (c:Cx) (D:List Nat) (hs:List bd) (ops:Array Oper) (Q:Exit->Act->World->Prop) (m:Nat) (l:List Oper) (sl:aN) (rl:fv):Prop:=
 ∃ S jV lE,tT P c hs ops (l.take m) sl rl S jV lE/\∀ a w,St c D jV hs a w->Fq lE a w->WL P r ops Q (l.drop m) a w
theorem cz {id:Nat} {l:List Oper} (m:Nat) [sD:UQ P] (fP:zi l m=true) (k:lQ P r c D hs l.toArray Q m l sl []):Tr c D sl hs (WP P r (.region id l.toArray true) Q):=by
 obtain ⟨S,jV,lE,hp,ht⟩:=k;exact Ak sD.eq fP hp ht
theorem cC {l:List Oper} (k:Tr c D sl hs (WL P r ops Q l)):lQ P r c D hs ops Q 0 l sl rl:=
 ⟨[],sl,rl,.nil,fun a w bb _=>k a w bb⟩
variable {R:Ending->World->Prop} {V:Value} {args:List Value} {c0:Bool} {code:Code} {f:FuncId} {fn:Func} {gs j:Nat} {o:Oper} {q:Bool} {t:Tmp} {v:Value} {vs:List Value} {want:Bool} {xs:List ResultVar}
theorem qK (ho:o.dst=some d) (hd:Nat.blt d c.nt=true) (h:uI P c hs ops sl rl o (.val V)) (k:lQ P r c D hs ops Q m rest ((d,V)::sl) rl):lQ P r c D hs ops Q (m+1) (o::rest) sl rl:=by
 obtain ⟨S,jV,lE,hp,ht⟩:=k;exact ⟨_,_,_,.val ho (by simpa [Z8] using hd) h hp,ht⟩
theorem pn {R:Rel} (hg:o.guard=none) (h:∀ a w,bZ sl a->BU (o.looksAt ops) rl a w->Mem c hs w->yJ P o a w R):uI P c hs ops sl rl o R:=fun a w h1 h2 h3=>by
 rw [if_pos (by simp [Region.wanted,hg])];exact h a w h1 h2 h3
theorem r8 (hr:du P c sl hs o V) {a:Act} {w:World} (h1:bZ sl a) (h3:Mem c hs w):yJ P o a w (.val V):=by
 unfold yJ;rw [hr.2 a w h1 h3];exact ⟨.refl _ _,I⟩
theorem tz (hr:mH P sl o f args) {a:Act} {w:World} (h1:bZ sl a) (hc:an P f args w V):yJ P o a w (.val V):=by
 unfold yJ;rw [hr.2 a w h1];exact ⟨I,hc.mono fun e w' ⟨he,hk⟩=>⟨V,he,hk,I⟩⟩
theorem aq (hr:du P c sl hs ⟨some d,op,ty,pos,af,none⟩ V) (hd:Nat.blt d c.nt=true) (k:lQ P r c D hs ops Q m rest ((d,V)::sl) rl) :
  lQ P r c D hs ops Q (m+1) (⟨some d,op,ty,pos,af,none⟩::rest) sl rl:=
 qK I hd (pn I fun _ _ h1 _ h3=>r8 hr h1 h3) k
theorem cW (hr:mH P sl ⟨some d,op,ty,pos,af,none⟩ f args) (hd:Nat.blt d c.nt=true) (hc:∀ w,Mem c hs w->an P f args w V) (k:lQ P r c D hs ops Q m rest ((d,V)::sl) rl) :
  lQ P r c D hs ops Q (m+1) (⟨some d,op,ty,pos,af,none⟩::rest) sl rl:=
 qK I hd (pn I fun _ w h1 _ h3=>tz hr h1 (hc w h3)) k
theorem pq (hg:o.guard=some (j,want)) (hj:((ops[j]?).bind (·.dst))=some gs) (hq:dj sl gs=some (gv c0 (.bool q)))
  (h:(c0&&(q==want))=true->∀ a w,bZ sl a->Mem c hs w->yJ P o a w (.val V)):uI P c hs ops sl rl o (.val (gv (c0&&(q==want)) V)):=fun a w h1 _ h3=>by
 rw [lR hg hj h1 hq];by_cases hc:(c0&&(q==want))=true
 ·rw [if_pos hc,vC hc];exact h hc a w h1 h3
 ·rw [if_neg hc,xl (by simpa using hc)]
  rfl
theorem DN (hj:((ops[j]?).bind (·.dst))=some gs) (hq:dj sl gs=some (gv c0 (.bool q)))
  (hr:(c0&&(q==want))=true->du P c sl hs ⟨some d,op,ty,pos,af,some (j,want)⟩ V) (hd:Nat.blt d c.nt=true) (k:lQ P r c D hs ops Q m rest ((d,gv (c0&&(q==want)) V)::sl) rl) :
  lQ P r c D hs ops Q (m+1) (⟨some d,op,ty,pos,af,some (j,want)⟩::rest) sl rl:=
 qK I hd (pq I hj hq fun hc _ _ h1 h3=>r8 (hr hc) h1 h3) k
theorem Ie (hj:((ops[j]?).bind (·.dst))=some gs) (hq:dj sl gs=some (.bool q))
  (hr:(q==want)=true->du P c sl hs ⟨some d,op,ty,pos,af,some (j,want)⟩ V) (hd:Nat.blt d c.nt=true) (k:lQ P r c D hs ops Q m rest ((d,gv (q==want) V)::sl) rl) :
  lQ P r c D hs ops Q (m+1) (⟨some d,op,ty,pos,af,some (j,want)⟩::rest) sl rl:=
 DN (c0:=true) hj (by rw [hq];rfl) (by simpa using hr) hd (by simpa using k)
theorem nP (hj:((ops[j]?).bind (·.dst))=some gs) (hq:dj sl gs=some (gv c0 (.bool q)))
  (hr:(c0&&(q==want))=true->mH P sl ⟨some d,op,ty,pos,af,some (j,want)⟩ f args) (hd:Nat.blt d c.nt=true) (hc:(c0&&(q==want))=true->∀ w,Mem c hs w->an P f args w V) (k:lQ P r c D hs ops Q m rest ((d,gv (c0&&(q==want)) V)::sl) rl) :
  lQ P r c D hs ops Q (m+1) (⟨some d,op,ty,pos,af,some (j,want)⟩::rest) sl rl:=
 qK I hd (pq I hj hq fun h _ w h1 h3=>tz (hr h) h1 (hc h w h3)) k
theorem oM (hj:((ops[j]?).bind (·.dst))=some gs) (hq:dj sl gs=some (.bool q))
  (hr:(q==want)=true->mH P sl ⟨some d,op,ty,pos,af,some (j,want)⟩ f args) (hd:Nat.blt d c.nt=true) (hc:(q==want)=true->∀ w,Mem c hs w->an P f args w V) (k:lQ P r c D hs ops Q m rest ((d,gv (q==want) V)::sl) rl) :
  lQ P r c D hs ops Q (m+1) (⟨some d,op,ty,pos,af,some (j,want)⟩::rest) sl rl:=
 nP (c0:=true) hj (by rw [hq];rfl) (by simpa using hr) hd (by simpa using hc) (by simpa using k)
theorem Hc (hj:((ops[j]?).bind (·.dst))=some gs) (hq:dj sl gs=some (gv c0 (.bool q)))
  (hr:(c0&&(q==want))=true->mH P sl ⟨some d,op,ty,pos,af,some (j,want)⟩ f args) (hd:Nat.blt d c.nt=true) (hc:(c0&&(q==want))=true->∀ w,Mem c hs w->an P f args w V)
  (k:Tr c D ((d,gv (c0&&(q==want)) V)::sl) hs (WL P r ops Q rest)):Tr c D sl hs (WL P r ops Q (⟨some d,op,ty,pos,af,some (j,want)⟩::rest)):=fun a w bb=>by
 unfold WL;rw [lR I hj bb.dw hq];by_cases h:(c0&&(q==want))=true
 ·rw [if_pos h];rw [vC h] at k;refine ⟨eh _ _ _ _ _,?_⟩;rw [Oper.semAt_eq _ _ _ (hr h).1,(hr h).2 a w bb.dw];exact ⟨by simp [FR,Fence.wide],(jN (hc h w bb.pE)).mono fun e w' ⟨he,hk⟩=>by
   subst he;exact k _ _ ((bb.put (by simpa [Z8] using hd) V).heap (bb.mem.sx hk))⟩
 ·rw [if_neg h];rw [xl (by simpa using h)] at k;exact k _ _ (bb.put (by simpa [Z8] using hd) undef)
theorem l5 (hj:((ops[j]?).bind (·.dst))=some gs) (hq:dj sl gs=some (.bool q))
  (hr:(q==want)=true->mH P sl ⟨some d,op,ty,pos,af,some (j,want)⟩ f args) (hd:Nat.blt d c.nt=true) (hc:(q==want)=true->∀ w,Mem c hs w->an P f args w V)
  (k:Tr c D ((d,gv (q==want) V)::sl) hs (WL P r ops Q rest)):Tr c D sl hs (WL P r ops Q (⟨some d,op,ty,pos,af,some (j,want)⟩::rest)):=
 Hc (c0:=true) hj (by rw [hq];rfl) (by simpa using hr) hd (by simpa using hc) (by simpa using k)
def Et (V:Nat->Value) (ob:Obj):Rel:=⟨fun v w=>∃ b,v=V b/\w.heap[b]? = some ob,fun ⟨b,e,h⟩ hk=>⟨b,e,by rw [hk.block b (lf h) (by simp)];exact h⟩⟩
theorem CF (h:fn.results=#[.tmp t]) {sl:aN} {v:Value} (hv:dj sl t=some v) {a:Act} (ha:bZ sl a) (w:World):(results fn a.tmps).run P w=.ok v w:=by
 have:=ha t v hv;simp [results,h,ZJ,this]
theorem CE {t u:Tmp} (h:fn.results=#[.tmp t,.tmp u]) {sl:aN} {v x:Value} (hv:dj sl t=some v) (hx:dj sl u=some x) {a:Act} (ha:bZ sl a) (w:World):(results fn a.tmps).run P w=.ok (.tuple #[v,x]) w:=by
 have h1:=ha t v hv;have h2:=ha u x hx;simp [results,h,ZJ,h1,h2]
theorem CG (h:fn.results=#[]) {a:Act} (w:World):(results fn a.tmps).run P w=.ok (.tuple #[]) w:=by
 simp [results,h]
def Ends (P:Program) (fn:Func) (c:Cx) (sl:aN) (hs:List bd) (v:Value):Prop:=∀ a w,bZ sl a->Mem c hs w->(results fn a.tmps).run P w=.ok v w
theorem dN (h:fn.results=#[.tmp t]) (hv:dj sl t=some v):Ends P fn c sl hs v:=fun _ w ha _=>CF h hv ha w
theorem gD {t u:Tmp} {v x:Value} (h:fn.results=#[.tmp t,.tmp u]) (hv:dj sl t=some v) (hx:dj sl u=some x):Ends P fn c sl hs (.tuple #[v,x]):=fun _ w ha _=>CE h hv hx ha w
theorem oQ (h:fn.results=#[]):Ends P fn c sl hs (.tuple #[]):=fun _ w _ _=>CG h w
theorem Ux {T:TypeId} {b o n:Nat} [Ty P T false n] (h:fn.results=#[.cell t T]) (hp:dj sl t=some (.pointer (some ⟨b,o,none⟩))) (hv:At c hs b o v):Ends P fn c sl hs v:=fun a w ha hm=>by
 have h1:=ha t _ hp;simp [results,h,ZJ,h1,asAddr,ub (hv w hm)]
theorem P9 {T:TypeId} {b o n:Nat} [Ty P T true n] (h:fn.results=#[.cell t T]) (hp:dj sl t=some (.pointer (some ⟨b,o,none⟩))) (hv:fo c hs b o vs) (hl:vs.length=n):Ends P fn c sl hs (.agg vs.toArray):=fun a w ha hm=>by
 have h1:=ha t _ hp;simp [results,h,ZJ,h1,asAddr,pA hl (fun j v h=>hv.get j v h w hm)]
def R9 (P:Program) (c:Cx) (hs:List bd) (T:TypeId) (b o:Nat) (v:Value):Prop:=∀ w,Mem c hs w->(loadVar T ⟨b,o,none⟩).run P w=.ok v w
theorem Lf {T:TypeId} {b o n:Nat} [Ty P T true n] (hv:fo c hs b o vs) (hl:vs.length=n):R9 P c hs T b o (.agg vs.toArray):=fun w hm=>pA hl (fun j v h=>hv.get j v h w hm)
inductive RV (P:Program) (c:Cx) (sl:aN) (hs:List bd):ResultVar->Value->Prop
 | tmp {t:Tmp} {v:Value} (h:dj sl t=some v):RV P c sl hs (.tmp t) v
 | cell {t:Tmp} {T:TypeId} {b o:Nat} {v:Value} (h:dj sl t=some (.pointer (some ⟨b,o,none⟩))) (hl:R9 P c hs T b o v):RV P c sl hs (.cell t T) v
inductive IJ (P:Program) (c:Cx) (sl:aN) (hs:List bd):List ResultVar->List Value->Prop
 | nil:IJ P c sl hs [] []
 | cons {x:ResultVar} {xs:List ResultVar} {v:Value} {vs:List Value} (h:RV P c sl hs x v) (t:IJ P c sl hs xs vs):IJ P c sl hs (x::xs) (v::vs)
def CA (tmps:Array Value):ResultVar->Sem Value
 | .tmp t=>pure (tmps.getD t undef)
 | .cell a t=>do loadVar t (<- asAddr (tmps.getD a undef))
theorem Oy (h:IJ P c sl hs xs vs) {a:Act} {w:World} (ha:bZ sl a) (hm:Mem c hs w):(xs.mapM (CA a.tmps)).run P w=.ok vs w:=by
 induction h with
 | nil=>simp
 | cons h _ ih =>
  cases h with
  | tmp h=>simp [CA,ZJ,ha _ _ h,ih]
  | cell h hl=>simp [CA,ZJ,ha _ _ h,asAddr,hl w hm,ih]
theorem RP (hx:fn.results=xs.toArray) (h:IJ P c sl hs xs vs) (hl:vs.length≠1):Ends P fn c sl hs (.tuple vs.toArray):=fun a w ha hm=>by
 have:=Oy h ha hm;have h2:(Array.mapM (CA a.tmps) xs.toArray).run P w=.ok vs.toArray w:=by
  rw [List.mapM_toArray];simp [this]
 unfold results;rw [hx];change Sem.run P (Array.mapM (CA a.tmps) xs.toArray >>= fun vs=>pure (if h:vs.size=1 then vs[0] else Value.tuple vs)) w=_
 rw [Sem.run_bind,h2,Result.andThen_ok,Sem.run_pure];rw [dif_neg (by simpa using hl)]
theorem N0 (HM:c.md=[]) (he:Ends P fn c sl hs v) :
  Tr c [] sl hs (bodyPostM (FR r) 0 P fn (fun e w'=>e=.returned v/\aI [] c.w0 w') .ret):=fun a w bb=>by
 have hm:=bb.pE;show LeavesInM (FR r) 0 P fn a.tmps _ a.defers .returning w;rw [bb.defers];exact ⟨v,he a w bb.dw hm,I,by rw [<- HM];exact hm.keeps⟩
theorem qk {v v':Value} (HM:c.md=[]) (he:Ends P fn c sl hs v') (hv:v'=v) :
  Tr c [] sl hs (bodyPostM (FR r) 0 P fn (fun e w'=>e=.returned v/\aI [] c.w0 w') .ret):=hv ▸ N0 HM he
theorem su {fn:Func} {v:Value} {R:Ending->World->Prop}:∀ (D:List Nat) (w:World) (a:Act),a.defers=D.map mark->bZ sl a->Mem c (hs++nF D) w->Ends P fn c sl hs v ->
  (∀ w',Mem c hs w'->R (.returned v) w')->LeavesInM (FR r) 0 P fn a.tmps R (D.map mark) .returning w
 | [],w,a,_,ha,hm,he,hR=>⟨v,he a w ha (by simpa [nF] using hm),hR w (by simpa [nF] using hm)⟩
 | b :: D, w, a, _, ha, hm, he, hR => by
  have fD:Take (hs++nF (b::D)) (bu b (.deferred (some []))) (hs++nF D):=by
   clear hm he hR
   induction hs with
   | nil=>exact .here
   | cons A hs ih=>exact .there ih
  have me:=hm.take fD;have hb:w.heap[b]? = some (.deferred (some [])):=me.bu .here;refine ⟨by simp,.inl ⟨b,w.putObj b (.deferred none),I,run_takeDeferred hb,?_⟩⟩;have hk:aI [b] w (w.putObj b (.deferred none)):=⟨I,I,I,Zv _,by simp,fun k _ hn=>World.putObj_heap_other (by simpa using hn)⟩
  have YH:Mem c (hs++nF D) (w.putObj b (.deferred none)):=(Mem.store me hk (World.putObj_heap_same (lf (w:=w) hb))).xu;exact su D _ { a with defers:=D.map mark } I ha YH he hR
theorem aO (he:Ends P fn c sl hs v) (hR:∀ w',Mem c hs w'->R (.returned v) w') :
  Tr c D sl hs (bodyPostM (FR r) 0 P fn R .ret):=fun a w bb=>by
 show LeavesInM (FR r) 0 P fn a.tmps R a.defers .returning w;rw [bb.defers];exact su D w a bb.defers bb.dw bb.mem he hR
theorem aP (he:Ends P fn c sl hs v) (hR:∀ w',Mem c hs w'->R (.returned v) w') :
  Tr c D sl hs (bodyPostM (FR r) 0 P fn R .normal):=aO (r:=r) he hR
theorem aj {w:World} (hf:P.funcs[f]? = some fn) (hb:fn.body=some code) (hl:Nat.ble args.length fn.ntmps=true)
  (h:Tr ⟨w,[],fn.ntmps⟩ [] (kp 0 args) [] (WP P none code (bodyPostM (FR none) 0 P fn (fun e w'=>e=.returned V/\aI [] w w')))):an P f args w V:=
 qe (hs0:=[]) hf hb (by simpa using hl) ⟨[],Zao,I,fun _ h=>by cases h⟩ h
theorem aS {w:World} {ι:Type} {Φ:ι->Prop} {val:ι->Value} {own:ι->List bd} (hf:P.funcs[f]? = some fn) (hb:fn.body=some code) (hl:Nat.ble args.length fn.ntmps=true)
  (h:Tr ⟨w,[],fn.ntmps⟩ [] (kp 0 args) [] (WP P none code (bodyPostM (FR none) 0 P fn (fun e w'=>∃ x,e=.returned (val x)/\Φ x/\aI [] w w'/\∃ fp:List Nat,fp.Nodup/\cy (hp w') (own x) fp/\∀ b∈fp,b∈([]:List Nat)\/w.heap.size<=b)))) :
  a8 P f args w [] Φ val own:=
 qe (hs0:=[]) hf hb (by simpa using hl) ⟨[],Zao,I,fun _ h=>by cases h⟩ h
theorem dT {w:World} {rQ:List Nat} {As:List bd} {ι:Type} {Φ:ι->Prop} {val:ι->Value} {own:ι->List bd} (hf:P.funcs[f]? = some fn) (hb:fn.body=some code) (hl:Nat.ble args.length fn.ntmps=true)
  (hn:rQ.Nodup) (hs0:cy (hp w) As rQ)
  (h:Tr ⟨w,rQ,fn.ntmps⟩ [] (kp 0 args) As (WP P none code (bodyPostM (FR none) 0 P fn (fun e w'=>∃ x,e=.returned (val x)/\Φ x/\aI rQ w w'/\∃ fp:List Nat,fp.Nodup/\cy (hp w') (own x) fp/\∀ b∈fp,b∈rQ\/w.heap.size<=b)))) :
  a8 P f args w rQ Φ val own:=
 qe hf hb (by simpa using hl) ⟨rQ,hn,hs0,fun _ h=>h⟩ h
theorem aC {ι:Type} {Φ:ι->Prop} {val:ι->Value} {own:ι->List bd} (x:ι) (hx:Φ x) {As:List bd} (ht:bj hs (own x) As) {w':World} (hm:Mem c hs w') {v:Value} (hv:v=val x) :
  ∃ x,Ending.returned v=.returned (val x)/\Φ x/\aI c.md c.w0 w'/\∃ fp:List Nat,fp.Nodup/\cy (hp w') (own x) fp/\∀ b∈fp,b∈c.md\/c.w0.heap.size<=b:=by
 have h2:=(hm.jA ht).mn;obtain ⟨k,fp,hn,gi,hb⟩:=h2;exact ⟨x,by rw [hv],hx,k,fp,hn,gi,fun b dQ=>(hb b dQ).symm⟩
end
end Go.SL
