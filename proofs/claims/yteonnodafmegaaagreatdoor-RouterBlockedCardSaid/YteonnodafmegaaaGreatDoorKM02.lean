/- Parts of the proof: P5h P5i P5j P5k P5l P5m P5n P5o GkMem GkAny GkReg GkEq GkPlan. -/
import Derived.Test.YteonnodafmegaaaGreatDoorKM01
import Derived.Laws.StructEq
set_option linter.unusedSectionVars false
set_option linter.unusedVariables false
set_option linter.unusedSimpArgs false
namespace Go.Proofs.A1
open Go Go.SL
def Ti.zero:Ti:=⟨⟨#[]⟩,0,0⟩
def fM (r:Ro) (i:Nat):Ti:=r.ti.getD i Ti.zero
def eY (r:Ro) (i:Nat):ByteArray:=(fM r i).nm
variable {N:Wn} {i:Nat} {p:List Nat} {po:List Po} {v:Int}
theorem nn {r:Ro} (h:i<r.ti.length):(ct r)[i]'(by unfold ct;rw [Zd];exact h)=eY r i:=by
 unfold ct eY fM;rw [Z2,Zk,Zc h];rfl
theorem pC {r:Ro} (h:i<r.ti.length):eY r i∈ct r:=by rw [<- nn h];exact Zj _
theorem zS {r:Ro} (hd:(ct r).Nodup) {i j:Nat} (hi:i<r.ti.length) (hj:j<r.ti.length) (h:eY r i=eY r j):i=j:=by
 have hl:(ct r).length=r.ti.length:=by unfold ct;rw [Zd]
 rw [<- nn hi,<- nn hj] at h;rcases Zao i j with aN | he | aN
 ·exact absurd h (ZY.1 hd i j (by omega) (by omega) aN)
 ·exact he
 ·exact absurd h.symm (ZY.1 hd j i (by omega) (by omega) aN)
theorem FN {r:Ro} (hd:(ct r).Nodup) {i:Nat} (hi:i<r.ti.length):br (ct r) (eY r i)=(i:Nat):=by
 have hl:(ct r).length=r.ti.length:=by unfold ct;rw [Zd]
 refine lx (by omega) (nn hi) fun j hj e=>?_;rw [nn (by omega)] at e;have:=zS hd (by omega) hi e;omega
theorem rC {r:Ro} (hn:n9 r) (hd:(ct r).Nodup) {i:Nat} (hi:i<r.ti.length):jR r (eY r i)=(fM r i).fr:=by
 have h1:¬ 0<=br (bY r) (eY r i):=fun h=>by
  have:eY r i∈bY r:=Classical.byContradiction fun hq=>by have:=cm.2 hq;omega
  exact hn.dt _ this (pC hi)
 unfold jR;rw [if_neg h1,FN hd hi,if_pos (by omega),Zy];rfl
theorem pQ {r:Ro} (hn:n9 r) (hd:(ct r).Nodup) {i:Nat} (hi:i<r.ti.length):jH r (eY r i)=(fM r i).to:=by
 have h1:¬ 0<=br (cz r) (eY r i):=fun h=>by
  have:eY r i∈cz r:=Classical.byContradiction fun hq=>by have:=cm.2 hq;omega
  exact hn.st _ this (pC hi)
 unfold jH;rw [if_neg h1,FN hd hi,if_pos (by omega),Zy];rfl
def eh (r:Ro) (po:List Po) (v:Int) (s:ByteArray):Wn:=⟨r.ti.length,fun i=>ib po v (eY r i)&&decide (pV po v (cz r) (eY r i)=s),fun i=>!ib po v (eY r i),fun i=>(fM r i).fr,fun i=>(fM r i).to,jH r s⟩
def lK (r:Ro) (v:Int):List Po->ByteArray->List Nat->List Po×ByteArray
 | po,x,[]=>(po,x)
 | po,x,i::p=>lK r v (if ib po v (eY r i) then po else iU r ⟨v,eY r i,x⟩ po) (eY r i) p
def lL (r:Ro) (po:List Po) (v:Int) (s:ByteArray) (p:List Nat) (d:ByteArray):List Po:=iU r ⟨v,d,(lK r v po s p).2⟩ (lK r v po s p).1
theorem Dw {r:Ro} {po:List Po} {v:Int} {s:ByteArray} (hn:n9 r) (hd:(ct r).Nodup) (hv:0<=v/\v<r.lv) (om:gV r po):∀ (q u:List Nat) (pM:List Po) (x:ByteArray),(eh r po v s).ok (u++q)->qW r pM v x->(x∈cz r\/x∈ct r)->jH r x=(eh r po v s).fin u->gp pM v 7 x=s->(∀ i,i<r.ti.length->i ∉ u->ib pM v (eY r i)=ib po v (eY r i))->(u=[]->pM=po) ->
  qW r (lK r v pM x q).1 v (lK r v pM x q).2/\((lK r v pM x q).2∈cz r\/(lK r v pM x q).2∈ct r)/\jH r (lK r v pM x q).2=(eh r po v s).fin (u++q)/\gp (lK r v pM x q).1 v 7 (lK r v pM x q).2=s /\
  (∀ w y,y∈bY r->eJ (lK r v pM x q).1 w y=eJ pM w y)/\(∀ w y S,y∈bY r->pV (lK r v pM x q).1 w S y=pV pM w S y)
 | [], u, pM, x, _, h1, h2, h3, h4, _, _ => by
  rw [ZQ];exact ⟨h1,h2,h3,h4,fun _ _ _=>rfl,fun _ _ _ _=>rfl⟩
 | i :: q, u, pM, x, dw, h1, h2, h3, h4, h5, h6 => by
  have e:u++i::q=(u++[i])++q:=by simp
  rw [e] at dw ⊢;have bj:=(Wn.jB.1 (Wn.vI dw (ZaL (u++[i]) q))).2;have hi:i<r.ti.length:=Wn.pH bj;have Yz:i ∉ u:=Wn.vn bj;have jS:=pC hi;have hbs:=h5 i hi Yz;unfold Wn.step at bj;simp only [Zm,ZP,decide_eq_true_eq] at bj;obtain ⟨_,_,KF⟩:=bj;rw [lK];by_cases hb:ib pM v (eY r i)=true
  ·rw [if_pos hb];rw [hbs] at hb;rcases KF with ⟨hu,wH⟩ | ⟨WX,_⟩
   ·have hu:u=[]:=List.isEmpty_iff.1 hu;have hpp:=h6 hu;subst hpp;have wH:(ib pM v (eY r i)&&decide (pV pM v (cz r) (eY r i)=s))=true:=wH;rw [Zm,decide_eq_true_eq] at wH;refine Dw hn hd hv om q (u++[i]) pM (eY r i) dw (om.T7 fun _=>hb) (.inr jS) ?_ ?_ (fun j hj Yv=>rfl) (fun h=>by simp at h)
    ·rw [pQ hn hd hi,Wn.lA];rfl
    ·rw [<- tu hn om (show (eJ pM v (eY r i)).isSome=true from hb)];exact wH.2
   ·have WX:(!ib po v (eY r i))=true:=WX;rw [hb] at WX;cases WX
  ·rw [if_neg hb];have fu:eJ pM v (eY r i)=none:=by
    unfold ib at hb;cases hq:eJ pM v (eY r i) with
    | none=>rfl
    | some z=>rw [hq] at hb;exact absurd rfl hb
   have hm:jR r (eY r i)=jH r x:=by
    rcases KF with ⟨_,wH⟩ | ⟨_,hf⟩
    ·have wH:(ib po v (eY r i)&&decide (pV po v (cz r) (eY r i)=s))=true:=wH;rw [Zm,<- hbs] at wH;exact absurd wH.1 hb
    ·rw [rC hn hd hi,h3];exact hf
   have hs:=oR (p:=⟨v,eY r i,x⟩) h1.qZ h1.out (.inr jS) fu;have oU:=rM (p:=⟨v,eY r i,x⟩) (gV.one hs) (gV.one h1.qZ)
   obtain ⟨g1,g2,g3,g4,g5,g6⟩:=Dw hn hd hv om q (u++[i]) (iU r ⟨v,eY r i,x⟩ pM) (eY r i) dw (h1.add hn hv h2 (.inr jS) fu hm) (.inr jS) (by rw [pQ hn hd hi,Wn.lA];rfl)
    (by rw [CM hn h1 hv h2 (.inr jS) fu hm,h4])
    (fun j hj Yv=>by
     have hne:eY r i≠eY r j:=fun e=>Yv (by rw [zS hd hi hj e];simp)
     unfold ib;rw [oU,if_neg fun e=>hne e.2]
     exact h5 j hj fun e=>Yv (Zq.2 (.inl e))) (fun h=>by simp at h)
   refine ⟨g1,g2,g3,g4,fun w y hy=>?_,fun w y S hy=>?_⟩
   ·rw [g5 w y hy,oU,if_neg (fun e=>hn.dt y hy (by rw [<- e.2];exact jS))]
   ·rw [g6 w y S hy,F7 hn h1 h2 (.inr jS) fu (fun e=>hn.dt y hy (by rw [e.2];exact jS))]
theorem Ip {r:Ro} {s d:ByteArray} (hn:n9 r) (hd:(ct r).Nodup) (hv:0<=v/\v<r.lv) (om:gV r po) (hs:s∈cz r) (lp:d∈bY r) (fu:eJ po v d=none) {p:List Nat} (dw:(eh r po v s).ok p) (mR:(eh r po v s).fin p=jR r d) :
  gV r (lL r po v s p d)/\pV (lL r po v s p d) v (cz r) d=s/\(∀ w y,y∈bY r->¬(w=v/\y=d)->pV (lL r po v s p d) w (cz r) y=pV po w (cz r) y/\eJ (lL r po v s p d) w y=eJ po w y):=by
 have bj:s ∉ ct r:=hn.st s hs;have UN:eJ po v s=none:=gP.2 fun q hq e=>by
  rcases om.out q hq with h | h
  ·exact hn.sd s hs (e.2 ▸ h)
  ·exact bj (e.2 ▸ h)
 obtain ⟨g1,g2,g3,g4,g5,g6⟩:=Dw hn hd hv om p [] po s dw (om.T7 fun h=>absurd h bj) (.inl hs) rfl (pU UN) (fun _ _ _=>rfl) (fun _=>rfl);have Ms:eJ (lK r v po s p).1 v d=none:=by rw [g5 v d lp,fu]
 have hm:jR r d=jH r (lK r v po s p).2:=by rw [g3];exact mR.symm
 have hA:=g1.add hn hv g2 (.inl lp) Ms hm;have hV:=hA.val (hn.dt d lp);have GY:=oR (p:=⟨v,d,(lK r v po s p).2⟩) g1.qZ g1.out (.inl lp) Ms;have oU:=rM (p:=⟨v,d,(lK r v po s p).2⟩) (gV.one GY) (gV.one g1.qZ);refine ⟨hV,?_,fun w y hy hne=>⟨?_,?_⟩⟩
 ·have h9:(eJ (iU r ⟨v,d,(lK r v po s p).2⟩ (lK r v po s p).1) v d).isSome=true:=by
   rw [oU,if_pos ⟨I,I⟩];rfl
  have h8:=tu hn hV h9;unfold lL;rw [h8,CM hn g1 hv g2 (.inl lp) Ms hm,g4]
 ·unfold lL;rw [F7 hn g1 g2 (.inl lp) Ms hne,g6 w y _ hy]
 ·unfold lL;rw [oU,if_neg fun e=>hne ⟨e.1.symm,e.2.symm⟩,g5 w y hy]
theorem Kh {g f:Po->Bool}:(po.filter g).filter f=po.filter fun p=>g p&&f p:=by
 rw [ZbA];refine Zbb fun p _=>?_;rw [Bool.and_comm]
theorem OM {r:Ro} (hn:n9 r) (h:gV r po) {g f:Po->Bool} (hg:∀ p∈po,p.ou∈ct r->g p=true)
  (Er:∀ p∈po.filter g,p.ou∈bY r->f p=true) (Ms:∀ p∈po.filter g,∀ q∈po.filter g,f q=true->q.lv=p.lv->q.ip=p.ou->f p=true) (YP:∀ p∈po.filter g,f p=true->p.ou∈bY r\/∃ q∈po.filter g,f q=true/\q.lv=p.lv/\q.ip=p.ou) :
  gV r ((po.filter g).filter f)/\(∀ v y,y∈bY r->(∀ p∈po,p.lv=v->p.ou=y->g p=true)->eJ ((po.filter g).filter f) v y=eJ po v y/\pV ((po.filter g).filter f) v (cz r) y=pV po v (cz r) y) /\
  (∀ v y,(∀ p∈po,p.lv=v->p.ou=y->g p=false)->eJ ((po.filter g).filter f) v y=none):=by
 have h1:=gV.one h.qZ;have hm:∀ p,p∈po.filter g↔p∈po/\g p=true:=fun p=>ZA
 have hk:∀ {p:Po},(g p&&f p)=true↔g p=true/\f p=true:=fun {p}=>Zm _ _ ▸ Iff.rfl
 rw [Kh];have fF:∀ q∈po,(g q&&f q)=true->∀ p∈po,p.lv=q.lv->p.ou=q.ip->(g p&&f p)=true:=by
  intro q hq Ys p hp hv ho;obtain ⟨Mo,xS⟩:=hk.1 Ys;have ht:p.ou∈ct r:=by
   rcases h.vY q hq with hs | ht
   ·rcases h.out p hp with hd | hd
    ·exact absurd hd (by rw [ho];exact hn.sd _ hs)
    ·exact hd
   ·rw [ho];exact ht
  have bG:=hg p hp ht;exact hk.2 ⟨bG,Ms p ((hm p).2 ⟨hp,bG⟩) q ((hm q).2 ⟨hq,Mo⟩) xS hv.symm ho.symm⟩
 refine ⟨gV.filter hn h _ (fun p hp ht q hq Ys hv hi=>fF q hq Ys p hp hv.symm hi.symm) (fun p hp ht hkp=>?_),fun v y hy bj=>?_,fun v y Es=>?_⟩
 ·obtain ⟨Br,Oc⟩:=hk.1 hkp;rcases YP p ((hm p).2 ⟨hp,Br⟩) Oc with hd | ⟨q,hq,xS,UD,X4⟩
  ·exact absurd ht (hn.dt _ hd)
  ·exact ⟨q,((hm q).1 hq).1,hk.2 ⟨((hm q).1 hq).2,xS⟩,UD,X4⟩
 ·have dZ:∀ p∈po,p.lv=v->p.ou=y->(g p&&f p)=true:=fun p hp Mp om=>by
   have bG:=bj p hp Mp om;exact hk.2 ⟨bG,Er p ((hm p).2 ⟨hp,bG⟩) (by rw [om];exact hy)⟩
  refine ⟨?_,?_⟩
  ·cases hi:eJ po v y with
   | none=>exact gP.2 fun p hp=>gP.1 hi p (ZA.1 hp).1
   | some u =>
    obtain ⟨q,hq,Mn,PE,rfl⟩:=fE hi;have:=nF (h1.filter fun p=>g p&&f p) (ZA.2 ⟨hq,dZ q hq Mn PE⟩)
    rwa [Mn,PE] at this
  ·unfold pV gp;rw [w9 (f:=fun p=>g p&&f p) h1 fF dZ]
 ·refine gP.2 fun p hp e=>?_;obtain ⟨Br,Oc⟩:=ZA.1 hp;have:=Es p Br e.1 e.2;rw [(hk.1 Oc).1] at this;cases this
structure Jb where
 v:Int
 s:ByteArray
 d:ByteArray
def sK (r:Ro) (W:List Po->Jb->Option (List Nat)):List Po->List Jb->Option (List Po)
 | po,[]=>some po
 | po, j :: l => match W po j with
  | none=>none
  | some p=>sK r W (lL r po j.v j.s p j.d) l
theorem Aa {r:Ro} {W:List Po->Jb->Option (List Nat)} (hn:n9 r) (hd:(ct r).Nodup) (hW:∀ po j p,W po j=some p->(eh r po j.v j.s).ok p/\(eh r po j.v j.s).fin p=jR r j.d) :
  ∀ (l:List Jb) (po pM:List Po),gV r po->(∀ j∈l,(0<=j.v/\j.v<r.lv)/\j.s∈cz r/\j.d∈bY r/\eJ po j.v j.d=none)->l.Pairwise (fun a b=>¬(b.v=a.v/\b.d=a.d))->sK r W po l=some pM ->
  gV r pM/\(∀ j∈l,pV pM j.v (cz r) j.d=j.s)/\∀ v y,y∈bY r->(∀ j∈l,¬(v=j.v/\y=j.d))->pV pM v (cz r) y=pV po v (cz r) y/\eJ pM v y=eJ po v y
 | [], po, pM, hv, _, _, hr => by
  rw [sK] at hr;cases hr;exact ⟨hv,fun j hj=>absurd hj Zo,fun _ _ _ _=>⟨I,I⟩⟩
 | j :: l, po, pM, hv, hj, hp, hr => by
  rw [sK] at hr;cases hw:W po j with
  | none=>rw [hw] at hr;cases hr
  | some p =>
   rw [hw] at hr;obtain ⟨AM,hs,lp,sA⟩:=hj j Zp;obtain ⟨dw,mR⟩:=hW po j p hw;obtain ⟨hV,hc,ho⟩:=Ip hn hd AM hv hs lp sA dw mR;obtain ⟨Br,Oc⟩:=ZaX.1 hp;obtain ⟨k1,k2,k3⟩:=Aa hn hd hW l _ pM hV (fun x hx=>by
    obtain ⟨a1,a2,a3,a4⟩:=hj x (ZT _ hx);exact ⟨a1,a2,a3,by rw [(ho x.v x.d a3 (Br x hx)).2];exact a4⟩) Oc hr
   refine ⟨k1,fun x hx=>?_,fun v y hy hne=>?_⟩
   ·rcases ZO.1 hx with rfl | hx
    ·rw [(k3 x.v x.d lp fun z hz e=>Br z hz ⟨e.1.symm,e.2.symm⟩).1]
     exact hc
    ·exact k2 x hx
   ·obtain ⟨b1,b2⟩:=k3 v y hy fun z hz=>hne z (ZT _ hz);obtain ⟨c1,c2⟩:=ho v y hy (hne j Zp);exact ⟨b1.trans c1,b2.trans c2⟩
def uh {α:Type} (lt:α->α->Bool):α->List α->α
 | b,[]=>b
 | b,x::l=>uh lt (if lt x b then x else b) l
theorem pn {α:Type} {lt:α->α->Bool} (WB:∀ {a b c},lt a b=true->lt b c=true->lt a c=true) (Tn:∀ {a b},a≠b->lt a b=true\/lt b a=true) (YB:∀ a,lt a a=false) :
  ∀ (l:List α) (b:α),uh lt b l∈b::l/\∀ q∈b::l,lt q (uh lt b l)=false
 | [],b=>⟨Zp,fun q hq=>by
   rcases ZO.1 hq with rfl | hq
   ·exact YB _
   ·exact absurd hq Zo⟩
 | x :: l, b => by
  rw [uh];by_cases hx:lt x b=true
  ·rw [if_pos hx];obtain ⟨h1,h2⟩:=pn (lt:=lt) WB Tn YB l x;refine ⟨ZT _ h1,fun q hq=>?_⟩;rcases ZO.1 hq with rfl | hq
   ·cases hb:lt q (uh lt x l) with
    | false=>rfl
    | true =>
     have:=WB hx hb;rw [h2 x Zp] at this;exact this.symm
   ·exact h2 q hq
  ·rw [if_neg hx];obtain ⟨h1,h2⟩:=pn (lt:=lt) WB Tn YB l b;refine ⟨?_,fun q hq=>?_⟩
   ·rcases ZO.1 h1 with h | h
    ·rw [h];exact Zp
    ·exact ZT _ (ZT _ h)
   ·rcases ZO.1 hq with rfl | hq
    ·exact h2 q Zp
    ·rcases ZO.1 hq with rfl | hq
     ·cases hb:lt q (uh lt b l) with
      | false=>rfl
      | true =>
       by_cases he:q=b
       ·subst he;rw [h2 q Zp] at hb;exact hb.symm
       ·have:=WB ((Tn he).resolve_left hx) hb;rw [h2 b Zp] at this;exact this.symm
     ·exact h2 q (ZT _ hq)
theorem Wn.SY {d:Int} {a:List Nat} {l:List (List Nat)} (h:N.all d (N.n+1) []=a::l):N.least d (uh N.lt a l):=by
 obtain ⟨h1,h2⟩:=pn (lt:=N.lt) (fun {_ _ _}=>N.lt_trans) (fun {_ _}=>N.Cq) N.lt_irrefl l a;rw [<- h] at h1 h2;obtain ⟨k1,k2⟩:=Wn.AB N.qD h1;refine ⟨k1,k2,fun q hq hf=>h2 q ?_⟩;exact Wn.Bg (p:=[]) (r:=q) hq hf (Nat.lt_succ_of_le (Wn.sP hq))
theorem Wn.all_none {d:Int} (h:N.all d (N.n+1) []=[]) (p:List Nat) (hp:N.ok p):N.fin p≠d:=fun hf=>by
 have:=Wn.Bg (p:=[]) (r:=p) (k:=N.n+1) hp hf (Nat.lt_succ_of_le (Wn.sP hp));rw [h] at this;exact absurd this Zo

def L8 (r:Ro) (po:List Po) (v:Int) (s:ByteArray):Bool->Int->List ByteArray->Option Int
 | _,m,[]=>some m
 | b,m,x::l=>if (b&&(ib po v x&&decide (pV po v (cz r) x=s)))||(!ib po v x&&decide (jR r x=m)) then L8 r po v s false (jH r x) l else none
theorem HH {r:Ro} {po:List Po} {v:Int} {s:ByteArray} (hn:n9 r) (hd:(ct r).Nodup) {m:Int}:∀ (q u:List Nat),(eh r po v s).ok u->(u++q).Nodup->(∀ i∈q,i<r.ti.length) ->
  (L8 r po v s u.isEmpty ((eh r po v s).fin u) (q.map (eY r))=some m↔(eh r po v s).ok (u++q)/\(eh r po v s).fin (u++q)=m)
 | [], u, hu, _, _ => by
  rw [ZQ];show some _=some _↔_;rw [Option.some.injEq];exact ⟨fun h=>⟨hu,h⟩,fun h=>h.2⟩
 | i :: q, u, hu, jX, hq => by
  have hi:=hq i Zp;have e:u++i::q=(u++[i])++q:=by simp
  have Yz:i ∉ u:=fun h=>by
   have:=(Zx.1 jX).2.2 i h i Zp;exact this I
  have hc:u.contains i=false:=by
   cases hx:u.contains i with
   | false=>rfl
   | true=>exact absurd (ZaU.1 hx) Yz
  have fI:(eh r po v s).step u i=((u.isEmpty&&(ib po v (eY r i)&&decide (pV po v (cz r) (eY r i)=s)))||(!ib po v (eY r i)&&decide (jR r (eY r i)=(eh r po v s).fin u))):=by
   unfold Wn.step;rw [hc,rC hn hd hi];have:decide (i<(eh r po v s).n)=true:=decide_eq_true hi;rw [this];rfl
  rw [Zaf,L8,<- fI];by_cases hs:(eh r po v s).step u i=true
  ·rw [if_pos hs,e];have RQ:=Wn.jB.2 ⟨hu,hs⟩;have ih:=HH hn hd (m:=m) q (u++[i]) RQ (by rw [<- e];exact jX) fun x hx=>hq x (ZT _ hx)
   rw [Wn.lA] at ih;have he:(u++[i]).isEmpty=false:=by simp
   rw [he] at ih;rw [pQ hn hd hi];exact ih
  ·rw [if_neg hs];refine ⟨fun h=>(by cases h),fun h=>?_⟩;rw [e] at h;exact absurd (Wn.jB.1 (Wn.vI h.1 (ZaL (u++[i]) q))).2 hs
theorem Ud {r:Ro} {s:ByteArray} (hn:n9 r) (hd:(ct r).Nodup) {m:Int} {q:List Nat} (jX:q.Nodup) (hq:∀ i∈q,i<r.ti.length) :
  L8 r po v s true (jH r s) (q.map (eY r))=some m↔(eh r po v s).ok q/\(eh r po v s).fin q=m:=
 HH hn hd q [] (Wn.qD _) jX hq
inductive Wn.Rc (N:Wn):Int->Prop
 | zu:Wn.Rc N N.zu
 | ca {i:Nat}:i<N.n->N.ca i=true->Wn.Rc N (N.to i)
 | fe {i:Nat}:i<N.n->N.fe i=true->Wn.Rc N (N.fr i)->Wn.Rc N (N.to i)
theorem yE {k:Nat} (h:k<p.length):p.take (k+1)=p.take k++[p[k]]:=by
 rw [Zn h]
theorem Wn.Fo (h:N.ok p):∀ k,k<=p.length->N.Rc (N.fin (p.take k))
 | 0,_=>by rw [Ze];exact .zu
 | k + 1, hk => by
  have ih:=Wn.Fo h k (by omega);have hs:=h k (by omega);rw [yE (by omega),Wn.lA];have aN:=Wn.pH hs;unfold Wn.step at hs;simp only [Zm,ZP,decide_eq_true_eq] at hs;rcases hs.2.2 with ⟨_,hc⟩ | ⟨hf,he⟩
  ·exact .ca aN hc
  ·exact .fe aN hf (he ▸ ih)
theorem Wn.TV (h:N.ok p):N.Rc (N.fin p):=by
 have:=Wn.Fo h p.length (ZC _);rwa [ZN] at this
theorem Wn.T8 {m:Int} (h:N.Rc m):∃ p,N.ok p/\N.fin p=m:=by
 induction h with
 | zu=>exact ⟨[],N.qD,rfl⟩
 | @ca i hi hc =>
  refine ⟨[]++[i],Wn.jB.2 ⟨N.qD,?_⟩,Wn.lA _ _ _⟩;unfold Wn.step;simp [hi,hc]
 | @fe i hi hf _ ih =>
  obtain ⟨p,hp,he⟩:=ih;by_cases hm:i∈p
  ·obtain ⟨k,hk,rfl⟩:=Zu hm;exact ⟨p.take (k+1),Wn.Fv hp _,by rw [yE hk,Wn.lA]⟩
  ·refine ⟨p++[i],Wn.jB.2 ⟨hp,?_⟩,Wn.lA _ _ _⟩;unfold Wn.step;simp [hi,hf,he,hm]
def Wn.Wd (N:Wn) (S:Int->Prop):Prop:=S N.zu/\∀ i,i<N.n->(N.ca i=true\/N.fe i=true/\S (N.fr i))->S (N.to i)
theorem Wn.TW {S:Int->Prop} (h:N.Wd S) {m:Int} (hm:N.Rc m):S m:=by
 induction hm with
 | zu=>exact h.1
 | ca hi hc=>exact h.2 _ hi (.inl hc)
 | fe hi hf _ ih=>exact h.2 _ hi (.inr ⟨hf,ih⟩)
theorem Wn.Nt {S:Int->Prop} (h:N.Wd S) (hS:∀ m,S m->N.Rc m) (m:Int):S m↔N.Rc m:=⟨hS m,Wn.TW h⟩
theorem EI {o:ByteArray}:ib po v o=true↔∃ p∈po,p.lv=v/\p.ou=o:=by
 unfold ib;constructor
 ·intro h;obtain ⟨i,hi⟩:=Z6.1 h;obtain ⟨p,hp,h1,h2,_⟩:=fE hi;exact ⟨p,hp,h1,h2⟩
 ·rintro ⟨p,hp,h1,h2⟩;cases hq:eJ po v o with
  | some _=>rfl
  | none=>exact absurd ⟨h1,h2⟩ (gP.1 hq p hp)
theorem O4 {po qo:List Po} (h:po.Perm qo) (v:Int) (o:ByteArray):ib po v o=ib qo v o:=by
 rw [ZaS,EI,EI];exact ⟨fun ⟨p,hp,e⟩=>⟨p,h.mem_iff.1 hp,e⟩,fun ⟨p,hp,e⟩=>⟨p,h.mem_iff.2 hp,e⟩⟩
def qT (r:Ro) (v:Int):List Po->ByteArray->List Nat->List Po×ByteArray
 | po,x,[]=>(po,x)
 | po,x,i::p=>qT r v (if ib po v (eY r i) then po else po++[⟨v,eY r i,x⟩]) (eY r i) p
theorem vd {r:Ro} {v:Int}:∀ (q:List Nat) (po qo:List Po) (x:ByteArray),po.Perm qo->(lK r v po x q).1.Perm (qT r v qo x q).1/\(lK r v po x q).2=(qT r v qo x q).2
 | [],po,qo,x,h=>⟨h,rfl⟩
 | i :: q, po, qo, x, h => by
  rw [lK,qT,O4 h v (eY r i)];by_cases hb:ib qo v (eY r i)=true
  ·rw [if_pos hb,if_pos hb];exact vd q po qo _ h
  ·rw [if_neg hb,if_neg hb];exact vd q _ _ _ ((pP r _ po).trans ((h.cons _).trans (List.perm_append_singleton _ _).symm))
theorem set_perm {r:Ro} {s d:ByteArray}:(lL r po v s p d).Perm ((qT r v po s p).1++[⟨v,d,(qT r v po s p).2⟩]):=by
 obtain ⟨h1,h2⟩:=vd (r:=r) (v:=v) p po po s (List.Perm.refl _);unfold lL;rw [h2];exact (pP r _ _).trans ((h1.cons _).trans (List.perm_append_singleton _ _).symm)
theorem Io {r:Ro} {po S:List Po} {s d:ByteArray} (hv:(lL r po v s p d).Pairwise (fun a b=>oM r a b=true)) (hS:S.Perm ((qT r v po s p).1++[⟨v,d,(qT r v po s p).2⟩])) (hs:S.Pairwise (fun a b=>¬ oM r b a=true)):S=lL r po v s p d:=by
 have hp:(lL r po v s p d).Perm S:=set_perm.trans hS.symm;have hk:S.Pairwise (fun a b=>oM r a b=true\/oM r b a=true):=(List.Perm.pairwise_iff (fun {_ _} h=>h.symm) hp).1 (hv.imp fun h=>.inl h)
 have bj:S.Pairwise (fun a b=>oM r a b=true):=(List.Pairwise.and hk hs).imp fun h=>h.1.resolve_right h.2
 exact oz (fun a b h=>GQ a b h) bj hv hp.symm
end Go.Proofs.A1
namespace Go.SL
open Go
def pt (P:Program) (c:Cx) (sl:aD) (hs:List bh) (o:Oper) (V:Nat->Value) (ob:Obj):Prop:=
 (∀ d,o.op≠.defer d)/\∀ a w,bW sl a->Mem c hs w->(execOp a.eval o).run P w=.ok (.value (V w.heap.size)) (w.alloc ob)
section
variable {P:Program} {r:Option Nat} {c:Cx} {D:List Nat} {sl:aD} {hs hs':List bh} {ops:Array Oper} {Q:Exit->Act->World->Prop} {d:Nat} {dst:Option Tmp} {op:Op} {ty:TypeId} {pos:String} {af:Array Edge} {g:Option (Nat×Bool)} {rest:List Oper}
variable {As:List bh} {R:Ending->World->Prop} {V:Nat->Value} {agg:Bool} {args:List Value} {b:Nat} {cs:List Value} {f:FuncId} {n:Nat} {ob:Obj} {places:List (Nat×Nat)} {vs:List Value} {x:Operand} {xs:List (Nat×Operand)} {z:Value}
theorem bn 
  (hr:pt P c sl hs ⟨some d,op,ty,pos,af,none⟩ V ob) (hd:Nat.blt d c.nt=true) (k:∀ b,c.w0.heap.size<=b->Tr c D ((d,V b)::sl) (bA b ob::hs) (WL P r ops Q rest)) :
  Tr c D sl hs (WL P r ops Q (⟨some d,op,ty,pos,af,none⟩::rest)):=fun a w bj=>by
 refine mB I ⟨eb _ _ _ _ _,?_⟩;rw [Oper.semAt_eq _ _ _ hr.1,hr.2 a w bj.dh bj.rG];have h1:=(bj.put (by simpa [Z1] using hd) (V w.heap.size));exact k w.heap.size bj.rG.keeps.size _ _ (h1.heap (bj.mem.alloc ob))
theorem QS {t:TypeId} {v:Value} (hx:Is sl x v) (hc:v.cells=cs.toArray):pt P c sl hs ⟨dst,.box t x,ty,pos,af,g⟩ (fun b=>.p b) (.cells cs.toArray t):=
 ⟨by simp,fun a w ha _=>by simp [execOp,hx a ha,Instr.box,newVar,newRow,hc]⟩
theorem kh {t:TypeId} [lQ P t z] (hc:z.cells=cs.toArray):pt P c sl hs ⟨dst,.alloc t,ty,pos,af,g⟩ (fun b=>.p b) (.cells cs.toArray t):=
 ⟨by simp,fun a w _ _=>by simp [execOp,Instr.alloc,iI (t:=t) (v:=z),newVar,newRow,hc]⟩
theorem DQ {t:TypeId}:pt P c sl hs ⟨dst,.makeMap t none,ty,pos,af,g⟩ (fun b=>.map (some b)) (.map #[] 0):=
 ⟨by simp,fun a w _ _=>by simp [execOp,Instr.makeMap]⟩
theorem j9 {t:TypeId} {parts:Array (Nat×Operand)} {ps:Array (Nat×Value)}
  (hp:∀ a,bW sl a->(parts.map fun (i,x)=>(i,a.eval x))=ps) (hb:∀ w,(Instr.buildSlice t n ps).run P w=.ok (V w.heap.size) (w.alloc ob)) :
  pt P c sl hs ⟨dst,.buildSlice t n parts,ty,pos,af,g⟩ V ob:=
 ⟨by simp,fun a w ha _=>by simp only [execOp,hp a ha,Sem.run_bind,hb w,Result.andThen_ok,Sem.run_pure]⟩
def vG (vs:List Value):Array (Nat×Value):=(vs.zipIdx.map fun (v,i)=>(i,v)).toArray
theorem zn:∀ (vs:List Value) (k:Nat) (acc:List Value),(∀ v∈vs,v.oneCell'=true)->k+vs.length<=acc.length ->
  Instr.fill (fun i=>some (i*1,1)) acc.toArray ((vs.zipIdx k).map fun (v,i)=>(i,v))=some (acc.take k++vs++acc.drop (k+vs.length)).toArray
 | [],k,acc,_,_=>by simp [Instr.fill]
 | v :: vs, k, acc, h1, h2 => by
  have hv:=h1 v (by simp);have hc:v.cells=#[v]:=by cases v <;> simp_all [Value.cells,Value.oneCell']
  simp only [ZL] at h2;have e:Array.foldl (fun cs (x:Value×Nat)=>cs.setIfInBounds (k*1+x.2) x.1) acc.toArray #[v].zipIdx=(acc.set k v).toArray:=by
   simp
  simp only [List.zipIdx_cons,Zaf,Instr.fill,hc];rw [if_neg (by simp;omega)];simp only [e];rw [zn vs (k+1) (acc.set k v) (fun u hu=>h1 u (by simp [hu])) (by simp;omega)]
  congr 1;have hk:k<acc.length:=by omega
  simp only [ZL,Zh,Zb];rw [List.take_set,List.drop_set_of_lt (by omega)];rw [show k+1+vs.length=k+(vs.length+1) from by omega];congr 1;rw [Zn hk];rw [List.set_append_right _ _ (by simp;omega)];simp [Zbk (Nat.le_of_lt hk)]
theorem vC {t e:TypeId} [hu:gJ P t (.slice e)] [Ty P e false 1] [lQ P e z] {vs:List Value} (hl:vs.length=n) (hn:n<=1000) (hz:z.oneCell'=true) (hv:∀ v∈vs,v.oneCell'=true) (w:World) :
  (Instr.buildSlice t n (vG vs)).run P w=.ok (.slice (some ⟨w.heap.size,0,none⟩) n n) (w.alloc (.cells vs.toArray e)):=by
 have hzc:z.cells=#[z]:=by cases z <;> simp_all [Value.cells,Value.oneCell']
 unfold Instr.buildSlice;simp only [Sem.run_bind,aW hu.eq,Result.andThen_ok,fK (t:=e) (agg:=false) (n:=1),Zas];rw [if_neg (by omega)];have hf:∀ (zz:Array Value),zz.size=n->Instr.fill (fun i=>some (i,1)) zz (vG vs).toList=some vs.toArray:=by
  intro zz Wt;have:=zn vs 0 zz.toList hv (by simp [hl,Wt]);simp only [ZaZ,Zas] at this;simp only [vG];rw [this];simp [hl,Wt]
 by_cases h0:n=0
 ·subst h0;simp only [if_true,Sem.run_bind,Sem.run_pure,Result.andThen_ok];rw [hf _ (by simp)];simp [newRow]
 ·rw [if_neg h0];simp only [Sem.run_bind,iI (t:=e) (v:=z),Result.andThen_ok,Sem.run_pure,hzc];rw [hf _ (by simp)];simp [newRow]
def setCells:List Value->Nat->List Value->List Value
 | cs,_,[]=>cs
 | cs,o,v::vs=>setCells (cs.set o v) (o+1) vs
theorem kD:∀ (vs:List Value) (cs:List Value) (o:Nat),(setCells cs o vs).length=cs.length
 | [],_,_=>rfl
 | v::vs,cs,o=>by simp [setCells,kD vs]
def setBlock (w:World) (b:Nat) (ob:Obj):World:={ w with heap:=w.heap.setIfInBounds b ob }
theorem aH.setBlock (w:World) (b:Nat) (ob:Obj):aH [b] w (setBlock w b ob):=
 ⟨I,I,I,ZC _,by simp [SL.setBlock],fun k hk hm=>by
  have:b≠k:=fun e=>hm (by simp [e])
  simp [SL.setBlock,ZK this]⟩
theorem mg {w:World} (h:b<w.heap.size):(setBlock w b ob).heap[b]? = some ob:=by simp [setBlock,h]
theorem uu {w:World} {cs:Array Value} {E:TypeId} (h:w.heap[b]? = some (.cells cs E (0,0))) (o:Nat):w.frozen? ⟨b,o,none⟩=false:=by
 simp [World.frozen?,h]
theorem xL {w:World} {E:TypeId} (h:w.heap[b]? = some (.cells cs.toArray E (0,0))) (o:Nat) (v:Value):w.setCell ⟨b,o,none⟩ v=setBlock w b (.cells (cs.set o v).toArray E (0,0)):=by
 unfold World.setCell setBlock;congr 1;apply Array.ext_getElem?;intro k;rw [Zbi];by_cases hk:b=k
 ·subst hk;have:=ko (w:=w) h;rw [if_pos I,h,Array.getElem?_setIfInBounds_self_of_lt this];simp
 ·rw [if_neg hk,ZK hk]
theorem ja {b o:Nat} {E:TypeId}:∀ (vs:List Value) (i:Nat) (cs:List Value) (w:World),w.heap[b]? = some (.cells cs.toArray E (0,0))->(∀ v∈vs,v.oneCell'=true)->o+i+vs.length<=cs.length ->
  ∃ w',(storeCells ⟨b,o,none⟩ vs i).run P w=.ok () w'/\aH [b] w w'/\w'.heap[b]? = some (.cells (setCells cs (o+i) vs).toArray E (0,0))
 | [],i,cs,w,h,_,_=>⟨w,rfl,.refl _ _,h⟩
 | v :: vs, i, cs, w, h, h1, h2 => by
  simp only [ZL] at h2;have aN:=ko (w:=w) h;have bj:(store (Addr.add ⟨b,o,none⟩ i) v).run P w=.ok () (setBlock w b (.cells (cs.set (o+i) v).toArray E (0,0))):=by
   rw [eW,run_store P w _ v .plain (h1 v (by simp)),cell_of_block h];have:(cs.toArray)[o+i]? = some (cs[o+i]'(by omega)):=by simp
   rw [this];simp only [uu h,ZaW,if_false,xL h]
  obtain ⟨w',h3,h4,h5⟩:=ja (o:=o) vs (i+1) (cs.set (o+i) v) (setBlock w b (.cells (cs.set (o+i) v).toArray E (0,0))) (mg aN) (fun u hu=>h1 u (by simp [hu])) (by simp;omega);refine ⟨w',?_,(aH.setBlock w b _).trans h4,by rw [h5];rfl⟩;simp only [storeCells,Sem.run_bind,bj,Result.andThen_ok,h3]
theorem tH {t:TypeId} [Ty P t agg n] {b o:Nat} {E:TypeId} {v:Value} {vs cs:List Value} {w:World} (h:w.heap[b]? = some (.cells cs.toArray E (0,0))) (hv:v.cells=vs.toArray) (hl:vs.length=n)
  (h1:∀ u∈vs,u.oneCell'=true) (h2:o+n<=cs.length) :
  ∃ w',(storeVar t ⟨b,o,none⟩ v).run P w=.ok () w'/\aH [b] w w'/\w'.heap[b]? = some (.cells (setCells cs o vs).toArray E (0,0)):=by
 obtain ⟨w',h3,h4,h5⟩:=ja (P:=P) (o:=o) vs 0 cs w h h1 (by omega);refine ⟨w',?_,h4,h5⟩;unfold storeVar;rw [Sem.run_bind,fK (t:=t) (agg:=agg) (n:=n),Result.andThen_ok,if_neg (by simp [hv,hl])];simpa [hv] using h3
theorem aq {t:TypeId} [Ty P t agg n] {x y:Operand} {b o:Nat} {E:TypeId} {v:Value} {vs cs Qa:List Value} (hx:Is sl x (.pointer (some ⟨b,o,none⟩))) (hy:Is sl y v)
  (ht:Take hs (bA b (.cells cs.toArray E (0,0))) hs') (hv:v.cells=vs.toArray) (hl:vs.length=n) (h1:∀ u∈vs,u.oneCell'=true) (h2:o+n<=cs.length) (he:setCells cs o vs=Qa)
  (k:Tr c D sl (bA b (.cells Qa.toArray E (0,0))::hs') (WL P r ops Q rest)) :
  Tr c D sl hs (WL P r ops Q (⟨none,.store t x y,ty,pos,af,none⟩::rest)):=fun a w bj=>by
 subst he;have hm:=bj.mem.take (ht.append _);obtain ⟨w',h3,h4,h5⟩:=tH (P:=P) (t:=t) (o:=o) (hm.bA .here) hv hl h1 h2;refine mB I ⟨eb _ _ _ _ _,?_⟩;rw [Oper.semAt_eq _ _ _ (by simp)];have:(execOp a.eval ⟨none,.store t x y,ty,pos,af,none⟩).run P w=.ok .skip w':=by
  simp [execOp,hx a bj.dh,hy a bj.dh,Instr.storeAt,Instr.sureAddr,h3]
 rw [this];exact k _ _ (bj.heap (Mem.store hm h4 h5))
theorem CJ (off:Nat):∀ (vs:List Value) (k:Nat) (cs:List Value),(vs.zipIdx k).foldl (fun (cs:Array Value) (x:Value×Nat)=>cs.setIfInBounds (off+x.2) x.1) cs.toArray=(setCells cs (off+k) vs).toArray
 | [],_,_=>rfl
 | v :: vs, k, cs => by
  simp only [List.zipIdx_cons,List.foldl_cons,List.setIfInBounds_toArray,setCells];exact CJ off vs (k+1) (cs.set (off+k) v)
def ub (places:List (Nat×Nat)):List Value->List (Nat×Value)->Option (List Value)
 | cs,[]=>some cs
 | cs, (i, v) :: rest =>
  match places[i]? with
  | some (off,size)=>if v.cells.size=size/\off+size<=cs.length then ub places (setCells cs off v.cells.toList) rest else none
  | none=>none
theorem fill_eq {places:List (Nat×Nat)} {f:Nat->Option (Nat×Nat)} (hf:∀ i x,places[i]? = some x->f i=some x):∀ (ps:List (Nat×Value)) (cs Qa:List Value),ub places cs ps=some Qa->Instr.fill f cs.toArray ps=some Qa.toArray
 | [],cs,Qa,h=>by simp only [ub,Option.some.injEq] at h;simp [Instr.fill,h]
 | (i, v) :: rest, cs, Qa, h => by
  unfold ub at h;split at h
  ·rename_i off size hp;split at h
   ·rename_i hc;have h2:=fill_eq hf rest _ _ h;unfold Instr.fill;simp only [hf i _ hp];rw [if_neg (by simp [hc.1];omega)];rw [<- h2];congr 1;have:=CJ off v.cells.toList 0 cs;simp only [Zay] at this;rw [<- this,<- Array.foldl_toList];simp
   ·cases h
  ·cases h
def zt (P:Program) (t:TypeId):Option (List (Nat×Nat)×List Value):=
 match P.underlying t,P.info? t with
 | some (.struct fs), some i => match i.zero, fs.toList.mapM (fun f => (P.info? f.type).map fun j => (f.offset, j.size)) with
  | some z,some ps=>some (ps,z.cells.toList)
  | _,_=>none
 | some (.array n e), some i => match i.zero, P.info? e with
  | some z,some j=>some ((List.range n).map (fun k=>(k*j.size,j.size)),z.cells.toList)
  | _,_=>none
 | _,_=>none
class Bz (P:Program) (t:TypeId) (ps:outParam (List (Nat×Nat))) (z:outParam (List Value)):Prop where
 eq:zt P t=some (ps,z):=by kernel_rfl
theorem vO {w:World}:∀ (fs:List Field) (ps:List (Nat×Nat)),fs.mapM (fun f=>(P.info? f.type).map fun j=>(f.offset,j.size))=some ps ->
  (fs.mapM (fun (f:Field)=>(do pure (f.offset,<- sizeOf f.type):Sem (Nat×Nat)))).run P w=.ok ps w
 | [],ps,h=>by simp at h;simp [h]
 | f :: fs, ps, h => by
  simp only [List.mapM_cons,Option.bind_eq_bind,Option.bind_eq_some_iff,Zak,Option.pure_def,Option.some.injEq] at h;obtain ⟨_,⟨j,hj,rfl⟩,qs,hq,rfl⟩:=h;have:=vO (w:=w) fs qs hq;have hsz:(sizeOf f.type).run P w=.ok j.size w:=by simp [sizeOf,fP hj]
  rw [List.mapM_cons];simp only [Sem.run_bind,hsz,Result.andThen_ok,Sem.run_pure,this]
theorem GH {t:TypeId} {z cs:List Value} [h:Bz P t places z] {ps:List (Nat×Value)} (hf:ub places z ps=some cs) (w:World):(Instr.build t ps.toArray).run P w=.ok (.agg cs.toArray) w:=by
 have h0:=h.eq;unfold zt at h0;split at h0
 ·rename_i fs i hu hi;split at h0
  ·rename_i zz qs hz hq;simp only [Option.some.injEq,Prod.mk.injEq] at h0;obtain ⟨rfl,rfl⟩:=h0;have h1:(zeroValue t).run P w=.ok zz w:=by simp [zeroValue,fP hi,hz]
   have h2:(fs.mapM (fun (f:Field)=>(do pure (f.offset,<- sizeOf f.type):Sem (Nat×Nat)))).run P w=.ok qs.toArray w:=by
    have:=vO (P:=P) (w:=w) fs.toList qs hq;rw [<- ZaZ (xs:=fs),List.mapM_toArray,Sem.run_map,this]
    rfl
   have h3:=fill_eq (f:=fun i=>qs.toArray[i]?) (fun i x hx=>by simpa using hx) ps zz.cells.toList cs hf
   unfold Instr.build;simp only [Sem.run_bind,h1,Result.andThen_ok,aW hu,h2];simp only [ZaZ] at h3;rw [h3]
   rfl
  ·cases h0
 ·rename_i n e i hu hi;split at h0
  ·rename_i zz j hz hj;simp only [Option.some.injEq,Prod.mk.injEq] at h0;obtain ⟨rfl,rfl⟩:=h0;have h1:(zeroValue t).run P w=.ok zz w:=by simp [zeroValue,fP hi,hz]
   have h2:(sizeOf e).run P w=.ok j.size w:=by simp [sizeOf,fP hj]
   have h3:=fill_eq (f:=fun i=>some (i*j.size,j.size)) (fun i x hx=>by
    rw [ZJ] at hx;obtain ⟨y,hy,rfl⟩:=Zak.1 hx;have:=Zl.1 hy;obtain ⟨aN,he⟩:=this;simp at he;rw [he]) ps zz.cells.toList cs hf
   unfold Instr.build;simp only [Sem.run_bind,h1,Result.andThen_ok,aW hu,h2];simp only [ZaZ] at h3;rw [h3]
   rfl
  ·cases h0
 ·cases h0
inductive xo (sl:aD):List (Nat×Operand)->List (Nat×Value)->Prop
 | nil:xo sl [] []
 | cons {i:Nat} {x:Operand} {xs:List (Nat×Operand)} {v:Value} {vs:List (Nat×Value)} (h:Is sl x v) (t:xo sl xs vs):xo sl ((i,x)::xs) ((i,v)::vs)
theorem xo.map {vs:List (Nat×Value)} (h:xo sl xs vs) {a:Act} (ha:bW sl a):(xs.map fun (i,x)=>(i,a.eval x))=vs:=by
 induction h with
 | nil=>rfl
 | cons h _ ih=>simp [h a ha];simpa using ih
theorem aX {t:TypeId} {ps:List (Nat×Value)} {z cs:List Value} [Bz P t places z] (hp:xo sl xs ps) (hf:ub places z ps=some cs) :
  cM P c sl hs ⟨dst,.build t xs.toArray,ty,pos,af,g⟩ (.agg cs.toArray):=
 IE (ps:=ps.toArray) (fun a ha=>by simp [<- hp.map ha]) (fun w=>GH hf w)
inductive tC (sl:aD):Nat->List (Nat×Operand)->List Value->Prop
 | nil {i:Nat}:tC sl i [] []
 | cons {i:Nat} {x:Operand} {xs:List (Nat×Operand)} {v:Value} {vs:List Value} (h:Is sl x v) (t:tC sl (i+1) xs vs):tC sl i ((i,x)::xs) (v::vs)
theorem tC.map {i:Nat} (h:tC sl i xs vs) {a:Act} (ha:bW sl a):(xs.map fun (i,x)=>(i,a.eval x))=(vs.zipIdx i).map fun (v,i)=>(i,v):=by
 induction h with
 | nil=>rfl
 | cons h _ ih=>simp [h a ha];simpa using ih
theorem aB {t e:TypeId} [hu:gJ P t (.slice e)] [Ty P e false 1] [lQ P e z] (hp:tC sl 0 xs vs)
  (hl:vs.length=n) (hn:Nat.ble n 1000=true) (hz:z.oneCell'=true) (h1:vs.all Value.oneCell'=true) :
  pt P c sl hs ⟨dst,.buildSlice t n xs.toArray,ty,pos,af,g⟩ (fun b=>.w b n n) (.cells vs.toArray e):=
 j9 (ps:=vG vs) (fun a ha=>by simp only [vG,<- hp.map ha];simp) (fun w=>vC hl (by simpa using hn) hz (by simpa [Z7] using h1) w)
class bQ (P:Program) (f:FuncId):Prop where
 eq:((P.funcs[f]?).map fun fn=>(fn.name == "runtime.NumGoroutine" || fn.body.isNone))=some false:=by kernel_rfl
theorem tJ [h:bQ P f] (args:Array Value) (w:World):(callFunc f args).run P w=.ok (.enter f args) w:=by
 have:=h.eq;cases hf:P.funcs[f]? with
 | none=>rw [hf] at this;cases this
 | some fn =>
  rw [hf] at this;simp only [Zbl,Option.some.injEq,Bool.or_eq_false_iff] at this;obtain ⟨h1,h2⟩:=this;simp only [callFunc,Sem.run_bind,run_program,Result.andThen_ok,hf,h1,h2]
  rfl
inductive Ht (sl:aD):List Operand->List Value->Prop
 | nil:Ht sl [] []
 | cons {x:Operand} {xs:List Operand} {v:Value} {vs:List Value} (h:Is sl x v) (t:Ht sl xs vs):Ht sl (x::xs) (v::vs)
theorem Ht.map {sl:aD} {xs:List Operand} (h:Ht sl xs vs) {a:Act} (ha:bW sl a):xs.map a.eval=vs:=by
 induction h with
 | nil=>rfl
 | cons h _ ih=>simp [h a ha,ih]
def lR (P:Program) (sl:aD) (o:Oper) (f:FuncId) (args:List Value):Prop:=
 (∀ d,o.op≠.defer d)/\∀ a w,bW sl a->(execOp a.eval o).run P w=.ok (.enter f args.toArray) w
theorem a8 {xs:List Operand} {ts:Array TypeId} {first vs cap args:List Value} (hx:Is sl x (.func (.func f) first.toArray cap.toArray)) (ha:Ht sl xs vs) (hb:bQ P f) (he:first++vs++cap=args) :
  lR P sl ⟨dst,.call ⟨.value x,xs.toArray,ts⟩,ty,pos,af,g⟩ f args:=
 ⟨by simp,fun a w hs=>by
  subst he;have h1:=ha.map hs;simp only [execOp,resolve,hx a hs,Deferred.ofValue,Sem.run_bind,Sem.run_pure,Result.andThen_ok,invoke,List.map_toArray,h1,List.append_toArray];exact tJ (h:=hb) _ _⟩
theorem bI {f:Fn} {xs ys:List Operand} {vs us:List Value} (h1:Ht sl xs vs) (h2:Ht sl ys us) :
  cM P c sl hs ⟨dst,.makeFunc f xs.toArray ys.toArray,ty,pos,af,g⟩ (.func f vs.toArray us.toArray):=
 B9 (fun a ha=>by simp [h1.map ha]) (fun a ha=>by simp [h2.map ha])
def bB (P:Program) (f:FuncId) (args:List Value) (w:World) (md:List Nat) {ι:Type} (Φ:ι->Prop) (val:ι->Value) (own:ι->List bh):Prop:=
 Calls P f args.toArray w fun e w'=>∃ x,e=.returned (val x)/\Φ x/\aH md w w'/\∃ fp:List Nat,fp.Nodup/\cA (hp w') (own x) fp/\∀ b∈fp,b∈md\/w.heap.size<=b
def ao (P:Program) (f:FuncId) (args:List Value) (w:World) (V:Value):Prop:=
 Calls P f args.toArray w fun e w'=>e=.returned V/\aH [] w w'
theorem iC {args:Array Value} {w:World} (h:Calls P f args w R):CallsIn (FR r) n P f args w R:=
 (callsIn_wide (n:=n)).2 h
theorem zI {o:Oper} {a:Act} {w:World} (hg:o.guard=none) (hr:lR P sl o f args) (hs:bW sl a) (hc:Calls P f args.toArray w R)
  (k:∀ e w',R e w'->∃ v,e=.returned v/\WL P r ops Q rest (a.put o.dst v) w'):WL P r ops Q (o::rest) a w:=by
 refine mB hg ⟨eb _ _ _ _ _,?_⟩;rw [Oper.semAt_eq _ _ _ hr.1,hr.2 a w hs];refine ⟨by simp [FR,Fence.wide],(iC hc).mono fun e w' h=>?_⟩;obtain ⟨v,rfl,hk⟩:=k e w' h;exact hk
theorem aj {V:Value} (hr:lR P sl ⟨some d,op,ty,pos,af,none⟩ f args) (hd:Nat.blt d c.nt=true) (hc:∀ w,Mem c hs w->ao P f args w V)
  (k:Tr c D ((d,V)::sl) hs (WL P r ops Q rest)):Tr c D sl hs (WL P r ops Q (⟨some d,op,ty,pos,af,none⟩::rest)):=fun a w bj=>
 zI I hr bj.dh (hc w bj.rG) fun e w' ⟨he,hk⟩=>⟨V,he,k _ _ ((bj.put (by simpa [Z1] using hd) V).heap (bj.mem.rL hk))⟩
inductive bK:List bh->List bh->List bh->Prop
 | nil {hs:List bh}:bK hs [] hs
 | cons {hs h1 h2:List bh} {A:bh} {As:List bh} (h:Take hs A h1) (t:bK h1 As h2):bK hs (A::As) h2
theorem bK.h1 {A:bh} {r s t:List bh} (h:bK r s t):bK (A::r) (A::s) t:=.cons .here h
theorem bK.h2 {A B:bh} {r s t:List bh} (h:bK r s t):bK (A::B::r) (A::B::s) t:=.cons .here (.h1 h)
theorem bK.h3 {A B C:bh} {r s t:List bh} (h:bK r s t):bK (A::B::C::r) (A::B::C::s) t:=.cons .here (.h2 h)
theorem bK.h4 {A B C E:bh} {r s t:List bh} (h:bK r s t):bK (A::B::C::E::r) (A::B::C::E::s) t:=.cons .here (.h3 h)
theorem bK.h5 {A B C E F:bh} {r s t:List bh} (h:bK r s t):bK (A::B::C::E::F::r) (A::B::C::E::F::s) t:=.cons .here (.h4 h)
theorem bK.h6 {A B C E F G:bh} {r s t:List bh} (h:bK r s t):bK (A::B::C::E::F::G::r) (A::B::C::E::F::G::s) t:=.cons .here (.h5 h)
theorem bK.h7 {A B C E F G J:bh} {r s t:List bh} (h:bK r s t):bK (A::B::C::E::F::G::J::r) (A::B::C::E::F::G::J::s) t:=.cons .here (.h6 h)
theorem bK.h8 {A B C E F G J K:bh} {r s t:List bh} (h:bK r s t):bK (A::B::C::E::F::G::J::K::r) (A::B::C::E::F::G::J::K::s) t:=.cons .here (.h7 h)
theorem cA.jo {h:Nat->Option Obj} {hs As hs':List bh} (ht:bK hs As hs'):∀ {fp:List Nat},cA h hs fp->∃ f1 f2,cA h As f1/\cA h hs' f2/\fp.Perm (f1++f2):=by
 induction ht with
 | nil=>intro fp hf;exact ⟨[],fp,rfl,hf,.refl _⟩
 | cons h _ ih =>
  intro fp hf;obtain ⟨f1,f2,h1,h2,hp⟩:=hf.take h;obtain ⟨g1,g2,h3,h4,hq⟩:=ih h2;exact ⟨f1++g1,g2,⟨f1,g1,I,h1,h3⟩,h4,hp.trans (by rw [Zh];exact hq.append_left f1)⟩
theorem Mem.jo {w:World} (h:Mem c hs w) (ht:bK hs As hs'):Mem c (As++hs') w:=by
 obtain ⟨k,fp,hn,hs,hb⟩:=h;obtain ⟨f1,f2,h1,h2,hp⟩:=hs.jo ht;exact ⟨k,f1++f2,hp.nodup_iff.1 hn,cA.append_iff.2 ⟨f1,f2,I,h1,h2⟩,fun b dK=>hb b (hp.mem_iff.2 dK)⟩
theorem bK.append (h:bK hs As hs') (m:List bh):bK (hs++m) As (hs'++m):=by
 induction h with
 | nil=>exact .nil
 | cons h _ ih=>exact .cons (h.append m) ih
theorem Mem.VA {As Bs:List bh} {w w':World} (hm:Mem c (As++hs') w)
  (hs0:∀ fp,fp.Nodup->cA (hp w) As fp->aH fp w w'/\∃ lO:List Nat,lO.Nodup/\cA (hp w') Bs lO/\∀ b∈lO,b∈fp\/w.heap.size<=b):Mem c (Bs++hs') w':=Mem.change hm hs0
theorem jt {ι:Type} {Φ:ι->Prop} {val:ι->Value} {own:ι->List bh} (hr:lR P sl ⟨some d,op,ty,pos,af,none⟩ f args) (hd:Nat.blt d c.nt=true) (ht:bK hs As hs')
  (hc:∀ w fp,Mem c hs w->fp.Nodup->cA (hp w) As fp->bB P f args w fp Φ val own)
  (k:∀ x,Φ x->Tr c D ((d,val x)::sl) (own x++hs') (WL P r ops Q rest)):Tr c D sl hs (WL P r ops Q (⟨some d,op,ty,pos,af,none⟩::rest)):=fun a w bj=>by
 have hm:=bj.mem.jo (ht.append (mN D));obtain ⟨kk,fp,hn,gY,hb⟩:=hm;obtain ⟨f1,f2,rfl,h1,h2⟩:=cA.append_iff.1 gY;refine zI I hr bj.dh (hc w f1 bj.rG (Zx.1 hn).1 h1) fun e w' ⟨x,he,hx,hk,lO,uW,hs',zi⟩=>⟨val x,he,k x hx _ _ ((bj.put (by simpa [Z1] using hd) (val x)).heap ?_)⟩;obtain ⟨n1,n2,n12⟩:=Zx.1 hn;have aN:∀ b∈f2,b<w.heap.size:=fun b dK=>let ⟨o,ho⟩:=h2.own b dK;ko ho
 rw [Zh];refine ⟨?_,lO++f2,?_,cA.append_iff.2 ⟨lO,f2,I,hs',h2.loc fun b dK=>?_⟩,?_⟩
 ·refine ⟨hk.os.trans kk.os,hk.tape.trans kk.tape,hk.output.trans kk.output,ZZ kk.dr hk.dr,ZZ kk.size hk.size,fun b dK hm=>?_⟩;rw [<- kk.block b dK hm];refine hk.block b (ZaJ dK kk.size) (fun hf=>?_);rcases hb b (ZD _ hf) with h | h
  ·omega
  ·exact hm h
 ·refine Zx.2 ⟨uW,n2,fun x hx y hy e=>?_⟩;subst e;rcases zi x hx with h | h
  ·exact n12 x h x hy I
  ·have:=aN x hy;omega
 ·exact hk.block b (aN b dK) (fun hf=>n12 b hf b dK I)
 ·intro b dK;rcases Zq.1 dK with h | h
  ·rcases zi b h with h | h
   ·exact hb b (ZD _ h)
   ·exact .inl (ZZ kk.size h)
  ·exact hb b (ZM _ h)
def jO:Nat->List Value->aD
 | _,[]=>[]
 | i,v::vs=>(i,v)::jO (i+1) vs
theorem qk:∀ (vs:List Value) (i t:Nat) (v:Value),cW (jO i vs) t=some v->∃ j,t=i+j/\vs[j]? = some v
 | [],_,_,_,h=>by simp [jO,cW] at h
 | u :: us, i, t, v, h => by
  by_cases hit:i=t
  ·subst hit;rw [jO,fO] at h;exact ⟨0,I,by simpa using h⟩
  ·rw [jO,fN hit] at h;obtain ⟨j,e,hj⟩:=qk us (i+1) t v h;exact ⟨j+1,by omega,by simpa using hj⟩
theorem pg {fn:Func} {code:Code} {w:World} {md:List Nat} {hs0:List bh} (hf:P.funcs[f]? = some fn) (hb:fn.body=some code) (hl:args.length<=fn.ntmps)
  (h0:∃ fp:List Nat,fp.Nodup/\cA (hp w) hs0 fp/\∀ b∈fp,b∈md)
  (h:Tr ⟨w,md,fn.ntmps⟩ [] (jO 0 args) hs0 (WP P none code (bodyPostM (FR none) 0 P fn R))):Calls P f args.toArray w R:=by
 have hc:=callsIn_of_wp_marks (F:=FR none) (n:=0) (P:=P) (f:=f) (R:=R) (w:=w) (args:=args.toArray) hf hb trivial
  (h { tmps:=args.toArray++Array.replicate (fn.ntmps-args.toArray.size) undef,defers:=[] } w ⟨⟨.refl _ _,?_⟩,?_,?_,I⟩)
 ·exact (callsIn_wide (n:=0)).1 hc
 ·obtain ⟨fp,hn,gY,hm⟩:=h0;exact ⟨fp,hn,by simpa [mN] using gY,fun b dK=>.inr (hm b dK)⟩
 ·intro t v hv;obtain ⟨j,e,hj⟩:=qk args 0 t v hv;have:t=j:=by omega
  subst this;obtain ⟨aN,ng⟩:=Zl.1 hj;simp [Array.getElem?_append,aN,ng]
 ·simp;omega
end
end Go.SL
namespace Go.SL
open Go
structure Rel where
 p:Value->World->Prop
 st:∀ {v:Value} {w w':World},p v w->aH [] w w'->p v w'
def Rel.val (V:Value):Rel:=⟨fun v _=>v=V,fun h _=>h⟩
abbrev eX:=List (Nat×Rel)
def Bk (T:List Nat) (rl:eX) (a:Act) (w:World):Prop:=∀ d R,(d,R)∈rl->d∈T->∃ v,a.tmps[d]? = some v/\R.p v w
def ym (P:Program) (o:Oper) (a:Act) (w:World) (R:Rel):Prop:=
 match (execOp a.eval o).run P w with
 | .ok (.value v) w'=>aH [] w w'/\R.p v w'
 | .ok (.enter f args) w'=>w'=w/\Calls P f args w (fun e vf=>∃ v,e=.returned v/\aH [] w vf/\R.p v vf)
 | _=>False
def ui (P:Program) (c:Cx) (hs:List bh) (ops:Array Oper) (sl:aD) (rl:eX) (o:Oper) (R:Rel):Prop:=
 ∀ a w,bW sl a->Bk (o.looksAt ops) rl a w->Mem c hs w->if Region.wanted o (yielded ops a.tmps) then ym P o a w R else R.p undef w
def Mw (e:Edge):Bool:=Region.binds .any e
def mo (o:Oper):Bool:=match o.op with | .select ..=>false | .defer _=>false | _=>true
def dR (o:Oper) (i:Nat):Bool:=o.after.toList.any fun e=>Mw e&&Nat.beq e.on i
def has (l:List Nat) (t:Nat):Bool:=l.any (Nat.beq t)
theorem uZ {l:List Nat} {t:Nat}:has l t=true↔t∈l:=by
 simp [has,ZR]
def qB (ops:Array Oper) (x y:Oper) (i:Nat):Bool:=
 match x.dst,y.dst with
 | some d,some e=>!Nat.beq d e&&((!has (y.looksAt ops) d&&!has (x.looksAt ops) e)||dR y i)
 | _,_=>false
def kV (ops:Array Oper):List Oper->Nat->Bool
 | [],_=>true
 | x::r,i=>r.all (fun y=>qB ops x y i)&&kV ops r (i+1)
def si:List Oper->Nat->Bool
 | [],_=>true
 | o::r,k=>o.after.toList.all (fun e=>!Mw e||Nat.blt e.on k)&&si r (k+1)
def qE (acc:List Nat) (o:Oper):Nat:=o.after.toList.foldl (fun s e=>if Mw e then s ||| 2 ^ e.on ||| acc.getD e.on 0 else s) 0
def ix:List Oper->List Nat->List Nat
 | [],acc=>acc
 | o::r,acc=>ix r (acc++[qE acc o])
def zU (ms:List Nat):List Nat->Bool
 | []=>true
 | k::r=>(List.range k).all (fun i=>(ms.getD k 0).testBit i)&&zU ms r
def yR (l:List Oper) (m:Nat):Bool:=
 l.all mo&&si l 0&&kV l.toArray (l.take m) 0&&(l.take m).all (fun o=>o.dst.isSome)&&zU (ix l []) (List.range' m (l.length-m))&&Nat.ble m l.length
theorem j7 {l:List Oper}:∀ {s:Nat},si l s=true->∀ {k:Nat} {o:Oper},l[k]? = some o->∀ e∈o.after,Mw e=true->e.on<s+k:=by
 induction l with
 | nil=>intro s _ k o h;simp at h
 | cons x r ih =>
  intro s h k o hk e he hb;simp only [si,Zm,Z7] at h;cases k with
  | zero =>
   simp at hk;subst hk;have:=h.1 e (by simpa using he);simpa [hb,Z1] using this
  | succ k =>
   have:=ih h.2 (k:=k) (by simpa using hk) e he hb;omega
theorem rH:∀ (l:List Oper) (acc:List Nat),∃ t,ix l acc=acc++t/\t.length=l.length
 | [],acc=>⟨[],by simp [ix]⟩
 | o :: r, acc => by
  obtain ⟨t,h,hl⟩:=rH r (acc++[qE acc o]);exact ⟨qE acc o::t,by simp [ix,h],by simp [hl]⟩
theorem vN:∀ (l:List Oper) (acc:List Nat) (k:Nat) (o:Oper),l[k]? = some o->(ix l acc).getD (acc.length+k) 0=qE ((ix l acc).take (acc.length+k)) o
 | [],_,_,_,h=>by simp at h
 | x :: r, acc, k, o, h => by
  obtain ⟨t,ht,hl⟩:=rH r (acc++[qE acc x]);cases k with
  | zero =>
   simp at h;subst h;simp [ix,ht]
  | succ k =>
   have:=vN r (acc++[qE acc x]) k o (by simpa using h);simp only [Zg,ZL,Zan] at this;rw [show acc.length+(k+1)=acc.length+(0+1)+k from by omega];exact this
theorem tM (acc:List Nat) (i:Nat):∀ (es:List Edge) (s:Nat),(es.foldl (fun s e=>if Mw e then s ||| 2 ^ e.on ||| acc.getD e.on 0 else s) s).testBit i=true ->
  s.testBit i=true\/∃ e∈es,Mw e=true/\(i=e.on\/(acc.getD e.on 0).testBit i=true)
 | [],s,h=>.inl h
 | e :: es, s, h => by
  simp only [List.foldl_cons] at h;rcases tM acc i es _ h with h | ⟨e',Hz,hb,h⟩
  ·by_cases hb:Mw e=true
   ·simp only [hb,if_true,Nat.testBit_or,ZP,Nat.testBit_two_pow,decide_eq_true_eq] at h;rcases h with (h | h) | h
    ·exact .inl h
    ·exact .inr ⟨e,by simp,hb,.inl h.symm⟩
    ·exact .inr ⟨e,by simp,hb,.inr h⟩
   ·simp only [hb] at h;exact .inl h
  ·exact .inr ⟨e',by simp [Hz],hb,h⟩
def DC (l:List Oper) (L:Nat->Prop):Prop:=∀ k o,l[k]? = some o->L k->∀ e∈o.after,Mw e=true->L e.on
theorem gA {l:List Oper} {L:Nat->Prop} (ur:DC l L) (Vj:si l 0=true):∀ (k:Nat),k<l.length->L k->∀ i,((ix l []).getD k 0).testBit i=true->L i:=by
 intro k
 induction k using Nat.strongRecOn with
 | _ k ih =>
  intro hk hL i hi;have ho:l[k]? = some l[k]:=Zc hk;have hm:=vN l [] k _ ho;simp only [Zan,ZE] at hm;rw [hm] at hi;unfold qE at hi;rcases tM _ i _ 0 hi with h | ⟨e,he,hb,h⟩
  ·simp at h
  ·have Hz:e∈l[k].after:=by simpa using he
   have aN:e.on<k:=by have:=j7 Vj ho e Hz hb;omega
   have hLe:=ur k _ ho hL e Hz hb;rcases h with h | h
   ·rw [h];exact hLe
   ·refine ih e.on aN (by omega) hLe i ?_;have:((ix l []).take k).getD e.on 0=(ix l []).getD e.on 0:=by
     simp [Zk,aN]
    rwa [this] at h
theorem ny {ops:Array Oper} {l:List Oper}:∀ {s:Nat},kV ops l s=true->∀ {i j:Nat} {x y:Oper},i<j->l[i]? = some x->l[j]? = some y->qB ops x y (s+i)=true:=by
 induction l with
 | nil=>intro s _ i j x y _ h;simp at h
 | cons o r ih =>
  intro s h i j x y wA hx hy;simp only [kV,Zm,Z7] at h;cases j with
  | zero=>omega
  | succ j =>
   cases i with
   | zero =>
    simp at hx;subst hx;exact h.1 y (ZV (by simpa using hy))
   | succ i =>
    have:=ih h.2 (i:=i) (j:=j) (by omega) (by simpa using hx) (by simpa using hy);rwa [show s+1+i=s+(i+1) from by omega] at this
variable {a a':Act} {o:Oper}
theorem o6 {sl:aD} {T:List Nat} {nt:Nat} (hn:a.tmps.size=nt) (hk:∀ t v,cW sl t=some v->t<nt) (hT:∀ t∈T,∀ v,cW sl t=some v->a.tmps[t]? = some v) :
  ∃ a':Act,bW sl a'/\(∀ t∈T,a'.tmps[t]? = a.tmps[t]?)/\a'.tmps.size=nt:=by
 refine ⟨⟨Array.ofFn (n:=nt) fun t=>if (t:Nat)∈T then a.tmps.getD t undef else (cW sl t).getD undef,a.defers⟩,?_,?_,by simp⟩
 ·intro t v hv;have aN:=hk t v hv;simp only [Array.getElem?_ofFn,aN,dif_pos];by_cases ht:t∈T
  ·have:=hT t ht v hv;simp [ht,ZF,this]
  ·simp [ht,hv]
 ·intro t ht;by_cases aN:t<nt
  ·have:a.tmps[t]? = some (a.tmps[t]'(by omega)):=ZaC (by omega);simp [ht,aN,ZF,this]
  ·rw [Zbw (by simp;omega),Zbw (by omega)]
theorem A0 {x:Operand} (h:∀ t,x=.tmp t->a'.tmps[t]? = a.tmps[t]?):a'.eval x=a.eval x:=by
 cases x with
 | tmp t=>simp [Act.eval,ZF,h t rfl]
 | _=>rfl
theorem iL {ops:Array Oper} (ho:mo o=true) (h:∀ t∈o.looksAt ops,a'.tmps[t]? = a.tmps[t]?):execOp a'.eval o=execOp a.eval o:=by
 refine execOp_congr o (fun cs b he=>by simp [mo,he] at ho) fun x hx=>A0 fun t ht=>h t ?_;subst ht;unfold Oper.looksAt;refine ZD _ ?_;simp only [List.mem_filterMap];exact ⟨_,by simpa using hx,I⟩
theorem iq {ops:Array Oper} (h:∀ t∈o.looksAt ops,a'.tmps[t]? = a.tmps[t]?):Region.wanted o (yielded ops a'.tmps)=Region.wanted o (yielded ops a.tmps):=by
 unfold Region.wanted;cases hg:o.guard with
 | none=>rfl
 | some gw =>
  obtain ⟨j,want⟩:=gw;simp only [];have:yielded ops a'.tmps j=yielded ops a.tmps j:=by
   unfold yielded;cases hd:(ops[j]?).bind (·.dst) with
   | none=>rfl
   | some d =>
    have:=h d (by unfold Oper.looksAt;exact ZM _ (by simp [hg,hd]));simp [this]
  rw [this]
inductive tB (P:Program) (c:Cx) (hs:List bh) (ops:Array Oper):List Oper->aD->eX->List Rel->aD->eX->Prop
 | nil {sl:aD} {rl:eX}:tB P c hs ops [] sl rl [] sl rl
 | val {o:Oper} {l:List Oper} {sl jr:aD} {rl kT:eX} {d:Nat} {V:Value} {S:List Rel} (hd:o.dst=some d) (fF:d<c.nt) (h:ui P c hs ops sl rl o (.val V)) (t:tB P c hs ops l ((d,V)::sl) rl S jr kT) :
   tB P c hs ops (o::l) sl rl (.val V::S) jr kT
 | rel {o:Oper} {l:List Oper} {sl jr:aD} {rl kT:eX} {d:Nat} {R:Rel} {S:List Rel} (hd:o.dst=some d) (fF:d<c.nt) (hn:cW sl d=none) (h:ui P c hs ops sl rl o R) (t:tB P c hs ops l sl ((d,R)::rl) S jr kT) :
   tB P c hs ops (o::l) sl rl (R::S) jr kT
theorem tB.at_ {P:Program} {c:Cx} {hs:List bh} {ops:Array Oper} {l:List Oper} {sl jr:aD} {rl kT:eX} {S:List Rel} (h:tB P c hs ops l sl rl S jr kT) :
  ∀ (i : Nat) (o : Oper), l[i]? = some o -> ∃ uI Md R, S[i]? = some R /\ ui P c hs ops uI Md o R /\
   (∀ t v,cW uI t=some v->(∃ (j:Nat) (oj:Oper),j<i/\l[j]? = some oj/\oj.dst=some t/\S[j]? = some (.val v))\/((∀ (j:Nat) (oj:Oper),j<i->l[j]? = some oj->oj.dst≠some t)/\cW sl t=some v)) /\
   (∀ t Rt,(t,Rt)∈Md->(∃ (j:Nat) (oj:Oper),j<i/\l[j]? = some oj/\oj.dst=some t/\S[j]? = some Rt)\/(t,Rt)∈rl):=by
 induction h with
 | nil=>intro i o h;simp at h
 | @val o0 l sl jr rl kT d V S hd fF bj t ih =>
  intro i o ho;cases i with
  | zero =>
   simp at ho;subst ho;exact ⟨sl,rl,.val V,I,bj,fun t v hv=>.inr ⟨fun j _ hj=>by omega,hv⟩,fun t Rt hm=>.inr hm⟩
  | succ i =>
   obtain ⟨uI,Md,R,hR,hs',h1,h2⟩:=ih i o (by simpa using ho);refine ⟨uI,Md,R,by simpa using hR,hs',fun t v hv=>?_,fun t Rt hm=>?_⟩
   ·rcases h1 t v hv with ⟨j,oj,hj,iW,iR,jY⟩ | ⟨tU,ng⟩
    ·exact .inl ⟨j+1,oj,by omega,by simpa using iW,iR,by simpa using jY⟩
    ·by_cases xY:d=t
     ·subst xY;rw [fO] at ng;cases ng;exact .inl ⟨0,o0,by omega,I,hd,I⟩
     ·rw [fN xY] at ng;refine .inr ⟨fun j oj hj iW=>?_,ng⟩;cases j with
      | zero=>simp at iW;subst iW;rw [hd];simp [xY]
      | succ j=>exact tU j oj (by omega) (by simpa using iW)
   ·rcases h2 t Rt hm with ⟨j,oj,hj,iW,iR,jY⟩ | az
    ·exact .inl ⟨j+1,oj,by omega,by simpa using iW,iR,by simpa using jY⟩
    ·exact .inr az
 | @rel o0 l sl jr rl kT d R0 S hd fF hn bj t ih =>
  intro i o ho;cases i with
  | zero =>
   simp at ho;subst ho;exact ⟨sl,rl,R0,I,bj,fun t v hv=>.inr ⟨fun j _ hj=>by omega,hv⟩,fun t Rt hm=>.inr hm⟩
  | succ i =>
   obtain ⟨uI,Md,R,hR,hs',h1,h2⟩:=ih i o (by simpa using ho);refine ⟨uI,Md,R,by simpa using hR,hs',fun t v hv=>?_,fun t Rt hm=>?_⟩
   ·rcases h1 t v hv with ⟨j,oj,hj,iW,iR,jY⟩ | ⟨tU,ng⟩
    ·exact .inl ⟨j+1,oj,by omega,by simpa using iW,iR,by simpa using jY⟩
    ·have xY:d≠t:=fun e=>by subst e;rw [hn] at ng;cases ng
     refine .inr ⟨fun j oj hj iW=>?_,ng⟩;cases j with
     | zero=>simp at iW;subst iW;rw [hd];simp [xY]
     | succ j=>exact tU j oj (by omega) (by simpa using iW)
   ·rcases h2 t Rt hm with ⟨j,oj,hj,iW,iR,jY⟩ | az
    ·exact .inl ⟨j+1,oj,by omega,by simpa using iW,iR,by simpa using jY⟩
    ·rcases ZO.1 az with e | Sb
     ·cases e;exact .inl ⟨0,o0,by omega,I,hd,I⟩
     ·exact .inr Sb
theorem tB.end_ {P:Program} {c:Cx} {hs:List bh} {ops:Array Oper} {l:List Oper} {sl jr:aD} {rl kT:eX} {S:List Rel} (h:tB P c hs ops l sl rl S jr kT) :
   (∀ t v,cW jr t=some v->(∃ (j:Nat) (oj:Oper),l[j]? = some oj/\oj.dst=some t/\S[j]? = some (.val v))\/((∀ (j:Nat) (oj:Oper),l[j]? = some oj->oj.dst≠some t)/\cW sl t=some v)) /\
   (∀ t Rt,(t,Rt)∈kT->(∃ (j:Nat) (oj:Oper),l[j]? = some oj/\oj.dst=some t/\S[j]? = some Rt)\/(t,Rt)∈rl) /\
   (∀ (j:Nat) (oj:Oper),l[j]? = some oj->∃ d R,oj.dst=some d/\d<c.nt/\S[j]? = some R):=by
 induction h with
 | nil=>exact ⟨fun t v hv=>.inr ⟨fun j oj h=>by simp at h,hv⟩,fun t Rt hm=>.inr hm,fun j oj h=>by simp at h⟩
 | @val o0 l sl jr rl kT d V S hd fF bj t ih =>
  obtain ⟨h1,h2,h3⟩:=ih;refine ⟨fun t v hv=>?_,fun t Rt hm=>?_,fun j oj hj=>?_⟩
  ·rcases h1 t v hv with ⟨j,oj,iW,iR,jY⟩ | ⟨tU,ng⟩
   ·exact .inl ⟨j+1,oj,by simpa using iW,iR,by simpa using jY⟩
   ·by_cases xY:d=t
    ·subst xY;rw [fO] at ng;cases ng;exact .inl ⟨0,o0,I,hd,I⟩
    ·rw [fN xY] at ng;refine .inr ⟨fun j oj iW=>?_,ng⟩;cases j with
     | zero=>simp at iW;subst iW;rw [hd];simp [xY]
     | succ j=>exact tU j oj (by simpa using iW)
  ·rcases h2 t Rt hm with ⟨j,oj,iW,iR,jY⟩ | az
   ·exact .inl ⟨j+1,oj,by simpa using iW,iR,by simpa using jY⟩
   ·exact .inr az
  ·cases j with
   | zero=>simp at hj;subst hj;exact ⟨d,_,hd,fF,rfl⟩
   | succ j=>obtain ⟨d',R',h⟩:=h3 j oj (by simpa using hj);exact ⟨d',R',by simpa using h⟩
 | @rel o0 l sl jr rl kT d R0 S hd fF hn bj t ih =>
  obtain ⟨h1,h2,h3⟩:=ih;refine ⟨fun t v hv=>?_,fun t Rt hm=>?_,fun j oj hj=>?_⟩
  ·rcases h1 t v hv with ⟨j,oj,iW,iR,jY⟩ | ⟨tU,ng⟩
   ·exact .inl ⟨j+1,oj,by simpa using iW,iR,by simpa using jY⟩
   ·have xY:d≠t:=fun e=>by subst e;rw [hn] at ng;cases ng
    refine .inr ⟨fun j oj iW=>?_,ng⟩;cases j with
    | zero=>simp at iW;subst iW;rw [hd];simp [xY]
    | succ j=>exact tU j oj (by simpa using iW)
  ·rcases h2 t Rt hm with ⟨j,oj,iW,iR,jY⟩ | az
   ·exact .inl ⟨j+1,oj,by simpa using iW,iR,by simpa using jY⟩
   ·rcases ZO.1 az with e | Sb
    ·cases e;exact .inl ⟨0,o0,I,hd,I⟩
    ·exact .inr Sb
  ·cases j with
   | zero=>simp at hj;subst hj;exact ⟨d,_,hd,fF,rfl⟩
   | succ j=>obtain ⟨d',R',h⟩:=h3 j oj (by simpa using hj);exact ⟨d',R',by simpa using h⟩
end Go.SL
namespace Go.SL
open Go
section
variable {P:Program} {r:Option Nat} {c:Cx} {D:List Nat} {sl jr:aD} {kT:eX} {hs:List bh} {Q:Exit->Act->World->Prop} {l:List Oper} {m:Nat} {S:List Rel}
def Ls (listed:Array Bool) (i:Nat):Prop:=listed.getD i false=true
theorem fb (n i:Nat):¬ Ls (Array.replicate n false) i:=by
 unfold Ls;rw [ZF,Array.getElem?_replicate];split <;> simp
variable {i:Nat} {listed:Array Bool} {o:Oper}
theorem cH {i j:Nat} (hi:i<listed.size):Ls (listed.setIfInBounds i true) j↔(j=i\/Ls listed j):=by
 unfold Ls;by_cases h:i=j
 ·subst h;simp [ZF,hi]
 ·have h':¬ j=i:=fun e=>h e.symm
  simp [ZF,ZK h,h']
theorem FL (hi:i<listed.size):listed.getD i true=false↔¬ Ls listed i:=by
 unfold Ls;simp [ZF,hi]
theorem dQ (hsz:listed.size=l.length) {i:Nat}:i∈Region.ready .any l.toArray listed↔∃ o,l[i]? = some o/\¬ Ls listed i/\∀ e∈o.after,Mw e=true->Ls listed e.on:=by
 rw [mem_ready];constructor
 ·rintro ⟨h1,o,ho,h2⟩;have Di:l[i]? = some o:=by simpa using ho
  have hi:i<listed.size:=by rw [hsz];exact (Zl.1 Di).1
  exact ⟨o,Di,(FL hi).1 h1,h2⟩
 ·rintro ⟨o,ho,h1,h2⟩;have hi:i<listed.size:=by rw [hsz];exact (Zl.1 ho).1
  exact ⟨(FL hi).2 h1,o,by simpa using ho,h2⟩
theorem jq (hsz:listed.size=l.length) (Vj:si l 0=true) (h:∃ i,i<l.length/\¬ Ls listed i):∃ i,i∈Region.ready .any l.toArray listed:=by
 obtain ⟨i,hi,hn⟩:=h
 induction i using Nat.strongRecOn with
 | _ i ih =>
  by_cases dZ:∀ j,j<i->Ls listed j
  ·refine ⟨i,(dQ hsz).2 ⟨l[i],Zc hi,hn,fun e he hb=>dZ _ ?_⟩⟩;have:=j7 Vj (Zc hi) e he hb;omega
  ·have:∃ j,j<i/\¬ Ls listed j:=by
    apply Classical.byContradiction;intro hc;exact dZ fun j hj=>Classical.byContradiction fun uW=>hc ⟨j,hj,uW⟩
   obtain ⟨j,hj,hnj⟩:=this;exact ih j hj (by omega) hnj
theorem tF {ms:List Nat}:∀ {ks:List Nat},zU ms ks=true->∀ k∈ks,∀ i,i<k->(ms.getD k 0).testBit i=true
 | [],_,k,hk=>by cases hk
 | x :: ks, h, k, hk => by
  simp only [zU,Zm,Z7,ZU] at h;rcases ZO.1 hk with e | hk
  ·subst e;exact h.1
  ·exact tF h.2 k hk
structure Tb (l:List Oper) (m:Nat):Prop where
 op:∀ o∈l,mo o=true
 ac:si l 0=true
 vH:kV l.toArray (l.take m) 0=true
 tail:∀ k,m<=k->k<l.length->∀ i,i<k->((ix l []).getD k 0).testBit i=true
 le:m<=l.length
theorem vE (h:yR l m=true):Tb l m:=by
 simp only [yR,Zm,Z7] at h;obtain ⟨⟨⟨⟨⟨h1,h2⟩,h3⟩,_⟩,h5⟩,h6⟩:=h;refine ⟨h1,h2,h3,fun k hk aN=>tF h5 k ?_,by simpa using h6⟩;rw [ZaF];omega
theorem qz (hc:Tb l m) {listed:Array Bool} (hsz:listed.size=l.length) (ur:DC l (Ls listed)) {i:Nat} (hi:i∈Region.ready .any l.toArray listed) (hm:m<=i):∀ j,j<i->Ls listed j:=by
 intro j hj;obtain ⟨o,ho,hn,hd⟩:=(dQ hsz).1 hi;have aN:i<l.length:=(Zl.1 ho).1;have AP:DC l (fun k=>k=i\/Ls listed k):=by
  intro k ok hk hL e he hb;rcases hL with e' | hL
  ·subst e';rw [ho] at hk;cases hk;exact .inr (hd e he hb)
  ·exact .inr (ur k ok hk hL e he hb)
 rcases gA AP hc.ac i aN (.inl rfl) j (hc.tail i hm aN j hj) with h | h
 ·omega
 ·exact h
theorem Dv {rest:List Oper} {ops:Array Oper} {K:Act->World->Prop} {a:Act} {w:World} (hi:ops[i]? = some o) (hK:∀ a w,WL P r ops Q rest a w->K a w) (h:WL P r ops Q (o::rest) a w):wpOpIn (FR r) 0 P ops Q i K a w:=by
 unfold wpOpIn;simp only [hi];unfold WL at h;split
 ·rename_i hw;rw [if_pos hw] at h;exact Oper.wpIn_mono hK h
 ·rename_i hw;rw [if_neg hw] at h;exact ⟨fun _ _=>trivial,hK _ _ h⟩
theorem D3 (hc:Tb l m):∀ (fuel k:Nat) (listed:Array Bool) (a:Act) (w:World),m<=k->k+fuel=l.length->listed.size=l.length->(∀ i,i<l.length->(Ls listed i↔i<k)) ->
  WL P r l.toArray Q (l.drop k) a w->wpAnyIn (FR r) 0 P .any l.toArray Q fuel listed a w
 | 0, k, listed, a, w, _, hk, hsz, hL, h => by
  refine ⟨?_,by rw [Zbd (by omega)] at h;exact h⟩;apply List.eq_nil_iff_forall_not_mem.2;intro i hi;obtain ⟨o,ho,hn,_⟩:=(dQ hsz).1 hi;have aN:=(Zl.1 ho).1;exact hn ((hL i aN).2 (by omega))
 | fuel + 1, k, listed, a, w, Tt, hk, hsz, hL, h => by
  have ur:DC l (Ls listed):=fun k' o' Di Ha e he hb=>by
   have aN:=(Zl.1 Di).1;have:=j7 hc.ac Di e he hb;exact (hL e.on (by omega)).2 (by have:=(hL k' aN).1 Ha;omega)
  have En:k<l.length:=by omega
  refine ⟨fun h0=>?_,fun i hi=>?_⟩
  ·obtain ⟨i,hi⟩:=jq hsz hc.ac ⟨k,En,fun hh=>by have:=(hL k En).1 hh;omega⟩;rw [h0] at hi;cases hi
  ·obtain ⟨o,ho,hn,_⟩:=(dQ hsz).1 hi;have aN:=(Zl.1 ho).1;have KM:k<=i:=ZaV fun hh=>hn ((hL i aN).2 hh)
   have:i=k:=by
    rcases Zbp k i with hh | hh
    ·have:=(hL k En).1 (qz hc hsz ur hi (by omega) k hh);omega
    ·omega
   subst this;rw [Zv aN] at h;have Di:l[i]=o:=by rw [Zc aN] at ho;exact Option.some.inj ho
   rw [Di] at h;refine Dv (by simpa using ho) (fun a' w' h'=>D3 hc fuel (i+1) _ a' w' (by omega) (by omega) (by simpa using hsz) (fun j hj=>?_) h') h;rw [cH (by omega)];have:=hL j hj;constructor
   ·rintro (e | hh)
    ·omega
    ·have:=this.1 hh;omega
   ·intro hh;by_cases e:j=i
    ·exact .inl e
    ·exact .inr (this.2 (by omega))
structure Inv1 (c:Cx) (D:List Nat) (hs:List bh) (l:List Oper) (m:Nat) (S:List Rel) (a0:Act) (fuel:Nat) (listed:Array Bool) (a:Act) (w:World):Prop where
 sz:listed.size=l.length
 dc:DC l (Ls listed)
 hi:∀ k,m<=k->¬ Ls listed k
 mem:Mem c (hs++mN D) w
 defers:a.defers=D.map mark
 size:a.tmps.size=c.nt
 Bo:∀ t,(∀ (j:Nat) (o:Oper),l[j]? = some o->Ls listed j->o.dst≠some t)->a.tmps[t]? = a0.tmps[t]?
 new:∀ (j:Nat) (o:Oper),l[j]? = some o->Ls listed j->∀ d R,o.dst=some d->S[j]? = some R->∃ v,a.tmps[d]? = some v/\R.p v w
 left:∃ U:List Nat,U.Nodup/\(∀ i,i∈U↔i<l.length/\¬ Ls listed i)/\U.length=fuel
theorem lY (hc:Tb l m) {i j:Nat} {x y:Oper} (wA:i<j) (hj:j<m) (hx:l[i]? = some x) (hy:l[j]? = some y):qB l.toArray x y i=true:=by
 have:=ny hc.vH (i:=i) (j:=j) wA (by rw [ZH,if_pos (by omega)];exact hx) (by rw [ZH,if_pos hj];exact hy);simpa using this
theorem eB {ops:Array Oper} {x y:Oper} {i d e:Nat} (h:qB ops x y i=true) (hx:x.dst=some d) (hy:y.dst=some e):d≠e/\((d∈y.looksAt ops\/e∈x.looksAt ops)->dR y i=true):=by
 simp only [qB,hx,hy,Zm,ZaP,ZP] at h;obtain ⟨h1,h2⟩:=h;refine ⟨fun e'=>by subst e';simp at h1,fun h3=>?_⟩;rcases h2 with ⟨h4,h5⟩ | h2
 ·rcases h3 with h3 | h3
  ·rw [uZ.2 h3] at h4;cases h4
  ·rw [uZ.2 h3] at h5;cases h5
 ·exact h2
theorem cR (h:dR o i=true):∃ e∈o.after,Mw e=true/\e.on=i:=by
 simp only [dR,ZR,Zm] at h;obtain ⟨e,he,hb,nG⟩:=h;exact ⟨e,by simpa using he,hb,Z3 nG⟩
theorem Ct (hc:Tb l m) (hl:m<=l.length) {a0 a:Act} {w w':World} {fuel i d:Nat} {listed:Array Bool} {o:Oper} {R:Rel} {v:Value} (hI:Inv1 c D hs l m S a0 (fuel+1) listed a w)
  (hi:i∈Region.ready .any l.toArray listed) (oV:i<m) (ho:l[i]? = some o) (hd:o.dst=some d) (fF:d<c.nt) (qJ:S[i]? = some R)
  (YR:∀ (j:Nat) (oj:Oper),j<m->l[j]? = some oj->∃ e,oj.dst=some e) (hk:aH [] w w') (hv:R.p v w'):Inv1 c D hs l m S a0 fuel (listed.setIfInBounds i true) (a.put o.dst v) w':=by
 obtain ⟨o',Di,hn,l6⟩:=(dQ hI.sz).1 hi;rw [ho] at Di;cases Di;have iY:i<listed.size:=by rw [hI.sz];omega
 have _:=YR;have qn:∀ (j:Nat) (oj:Oper) (e:Nat),l[j]? = some oj->j<m->j≠i->oj.dst=some e->e≠d:=by
  intro j oj e hj iQ hne he;rcases Zbp j i with h | h
  ·exact (eB (lY hc h oV hj ho) he hd).1
  ·exact fun e'=>(eB (lY hc (show i<j by omega) iQ ho hj) hd he).1 e'.symm
 rw [hd];refine ⟨by simpa using hI.sz,?_,?_,hI.mem.rL hk,hI.defers,by simpa [Act.put] using hI.size,?_,?_,?_⟩
 ·intro k ok sy hL e he hb;rw [cH iY] at hL ⊢;rcases hL with e' | hL
  ·subst e';rw [ho] at sy;cases sy;exact .inr (l6 e he hb)
  ·exact .inr (hI.dc k ok sy hL e he hb)
 ·intro k sy hL;rw [cH iY] at hL;rcases hL with e | hL
  ·omega
  ·exact hI.hi k sy hL
 ·intro t ht;have h1:d≠t:=fun e=>by subst e;exact ht i o ho ((cH iY).2 (.inl rfl)) hd
  simp only [Act.put,ZK h1];exact hI.Bo t fun j oj hj hL=>ht j oj hj ((cH iY).2 (.inr hL))
 ·intro j oj hj hL e Rj he hRj;rw [cH iY] at hL;by_cases nP:j=i
  ·subst nP;rw [ho] at hj;cases hj;rw [hd] at he;cases he;rw [qJ] at hRj;cases hRj;exact ⟨v,by simp [Act.put,hI.size,fF],hv⟩
  ·have Bv:=hL.resolve_left nP;obtain ⟨u,hu,hp⟩:=hI.new j oj hj Bv e Rj he hRj;have iQ:j<m:=ZS fun h=>hI.hi j h Bv
   have hne:e≠d:=qn j oj e hj iQ nP he;refine ⟨u,?_,Rj.st hp hk⟩;simp only [Act.put,ZK (Ne.symm hne)];exact hu
 ·obtain ⟨U,yf,qI,sY⟩:=hI.left;have Sf:i∈U:=(qI i).2 ⟨by omega,hn⟩;refine ⟨U.erase i,yf.erase i,fun j=>?_,by rw [ZaH Sf,sY];rfl⟩;rw [yf.mem_erase_iff,qI j,cH iY];constructor
  ·rintro ⟨h1,h2,h3⟩;exact ⟨h2,fun h=>h.elim h1 h3⟩
  ·rintro ⟨h1,h2⟩;exact ⟨fun e=>h2 (.inl e),h1,fun h=>h2 (.inr h)⟩
def ER (rl:eX) (a:Act) (w:World):Prop:=∀ d R,(d,R)∈rl->∃ v,a.tmps[d]? = some v/\R.p v w
theorem Q9 (hc:Tb l m) (hp:tB P c hs l.toArray (l.take m) sl [] S jr kT) {a0:Act} (h0:bW sl a0) (KH:a0.tmps.size=c.nt)
  (tail:∀ a w,St c D jr hs a w->ER kT a w->WL P r l.toArray Q (l.drop m) a w) :
  ∀ (fuel:Nat) (listed:Array Bool) (a:Act) (w:World),Inv1 c D hs l m S a0 fuel listed a w->wpAnyIn (FR r) 0 P .any l.toArray Q fuel listed a w:=by
 have rU:=hp.end_;have eo:∀ (j:Nat) (o:Oper),j<m->l[j]? = some o->(l.take m)[j]? = some o:=fun j o hj ho=>by rw [ZH,if_pos hj];exact ho
 have fJ:∀ (j:Nat) (o:Oper),(l.take m)[j]? = some o->j<m/\l[j]? = some o:=fun j o ho=>by
  rw [ZH] at ho;split at ho
  ·exact ⟨by assumption,ho⟩
  ·cases ho
 have mR:∀ fuel listed a w,Inv1 c D hs l m S a0 fuel listed a w->(∀ i,i<m->Ls listed i)->wpAnyIn (FR r) 0 P .any l.toArray Q fuel listed a w:=by
  intro fuel listed a w hI dZ;have hL:∀ i,i<l.length->(Ls listed i↔i<m):=fun i _=>⟨fun h=>ZS fun hm=>hI.hi i hm h,dZ i⟩
  obtain ⟨U,yf,qI,sY⟩:=hI.left;have iB:U.Perm (List.range' m (l.length-m)):=by
   rw [ZaA yf (ZbB)];intro i;rw [qI i,ZaF];constructor
   ·rintro ⟨h1,h2⟩;exact ⟨ZaV fun h=>h2 (dZ i h),by omega⟩
   ·rintro ⟨h1,h2⟩;exact ⟨by omega,hI.hi i h1⟩
  have hlen:fuel=l.length-m:=by rw [<- sY,iB.length_eq,Zbx]
  refine D3 hc fuel m listed a w (ZC _) (by have:=hc.le;omega) hI.sz hL (tail a w ⟨hI.mem,?_,hI.size,hI.defers⟩ ?_)
  ·intro t v hv;rcases rU.1 t v hv with ⟨j,oj,hj,iR,jY⟩ | ⟨tU,ng⟩
   ·obtain ⟨iQ,nh⟩:=fJ j oj hj;obtain ⟨u,hu,l5⟩:=hI.new j oj nh (dZ j iQ) t _ iR jY;rw [hu,show u=v from l5]
   ·rw [hI.Bo t fun j oj hj jU=>tU j oj (eo j oj (ZS fun hm=>hI.hi j hm jU) hj)]
    exact h0 t v ng
  ·intro d R hm;rcases rU.2.1 d R hm with ⟨j,oj,hj,iR,jY⟩ | az
   ·obtain ⟨iQ,nh⟩:=fJ j oj hj;exact hI.new j oj nh (dZ j iQ) d R iR jY
   ·cases az
 intro fuel
 induction fuel with
 | zero =>
  intro listed a w hI;obtain ⟨U,_,qI,sY⟩:=hI.left;have hU:U=[]:=Zaq.1 sY;refine mR 0 listed a w hI fun i hi=>Classical.byContradiction fun hn=>?_;have:=(qI i).2 ⟨by have:=hc.le;omega,hn⟩;rw [hU] at this;cases this
 | succ fuel ih =>
  intro listed a w hI;by_cases dZ:∀ i,i<m->Ls listed i
  ·exact mR _ listed a w hI dZ
  ·have hex:∃ i,i<m/\¬ Ls listed i:=Classical.byContradiction fun hh=>dZ fun i hi=>Classical.byContradiction fun hn=>hh ⟨i,hi,hn⟩
   obtain ⟨i0,uX,qH⟩:=hex;refine ⟨fun hr=>?_,fun i hi=>?_⟩
   ·obtain ⟨i,hi⟩:=jq hI.sz hc.ac ⟨i0,by have:=hc.le;omega,qH⟩;rw [hr] at hi;cases hi
   ·have oV:i<m:=ZS fun hm=>qH (qz hc hI.sz hI.dc hi hm i0 (by omega))
    obtain ⟨o,ho,hn,l6⟩:=(dQ hI.sz).1 hi;obtain ⟨uI,Md,R,Sy,fI,hs1,hs2⟩:=hp.at_ i o (eo i o oV ho);obtain ⟨d,R',hd,fF,qJ⟩:=rU.2.2 i o (eo i o oV ho);rw [Sy] at qJ;cases qJ;have km:∀ (j:Nat),dR o j=true->Ls listed j:=fun j hw=>by
     obtain ⟨e,he,hb,nG⟩:=cR hw;rw [<- nG];exact l6 e he hb
    have CF:∀ (j t:Nat) (oj:Oper),j<i->(l.take m)[j]? = some oj->oj.dst=some t->t∈o.looksAt l.toArray->Ls listed j:=by
     intro j t oj hj iW iR ht;obtain ⟨iQ,nh⟩:=fJ j oj iW;exact km j ((eB (lY hc hj oV nh ho) iR hd).2 (.inl ht))
    have hT:∀ t∈o.looksAt l.toArray,∀ v,cW uI t=some v->a.tmps[t]? = some v:=by
     intro t ht v hv;rcases hs1 t v hv with ⟨j,oj,hj,iW,iR,jY⟩ | ⟨tU,ng⟩
     ·obtain ⟨u,hu,l5⟩:=hI.new j oj (fJ j oj iW).2 (CF j t oj hj iW iR ht) t _ iR jY;rw [hu,show u=v from l5]
     ·rw [hI.Bo t fun j oj hj jU iR=>?_]
      ·exact h0 t v ng
      ·have iQ:j<m:=ZS fun hm=>hI.hi j hm jU
       rcases Zao j i with h | h | h
       ·exact tU j oj h (eo j oj iQ hj) iR
       ·subst h;exact hn jU
       ·have hw:=(eB (lY hc h iQ ho hj) hd iR).2 (.inr ht);obtain ⟨e,he,hb,nG⟩:=cR hw;have:=hI.dc j oj hj jU e he hb;rw [nG] at this;exact hn this
    have wu:∀ t v,cW uI t=some v->t<c.nt:=by
     intro t v hv;rcases hs1 t v hv with ⟨j,oj,_,iW,iR,_⟩ | ⟨_,ng⟩
     ·obtain ⟨d',_,AQ,AO,_⟩:=rU.2.2 j oj iW;rw [iR] at AQ;cases AQ;exact AO
     ·have:=h0 t v ng;rw [<- KH];exact (Z0.1 this).1
    obtain ⟨a',l7,js,_⟩:=o6 hI.size wu hT;have R2:Bk (o.looksAt l.toArray) Md a' w:=by
     intro t Rt hm ht;rcases hs2 t Rt hm with ⟨j,oj,hj,iW,iR,jY⟩ | az
     ·obtain ⟨v,hv,l5⟩:=hI.new j oj (fJ j oj iW).2 (CF j t oj hj iW iR ht) t _ iR jY;exact ⟨v,by rw [js t ht];exact hv,l5⟩
     ·cases az
    have hq:=fI a' w l7 R2 hI.mem.lD;have Dh:mo o=true:=hc.op o (ZV ho);have hex:=iL (o:=o) (ops:=l.toArray) Dh js;rw [iq js] at hq;have ia:∀ v w',aH [] w w'->R.p v w'->wpAnyIn (FR r) 0 P .any l.toArray Q fuel (listed.setIfInBounds i true) (a.put o.dst v) w':=fun v w' hk hv=>
     ih _ _ _ (Ct hc hc.le hI hi oV ho hd fF Sy (fun j oj hj iW=>let ⟨e,_,he,_⟩:=rU.2.2 j oj (eo j oj hj iW);⟨e,he⟩) hk hv)
    unfold wpOpIn;rw [show l.toArray[i]? = some o from by simpa using ho];simp only [];split
    ·rename_i hw;rw [if_pos hw] at hq;refine ⟨eb _ _ _ _ _,?_⟩;rw [Oper.semAt_eq _ _ _ (fun cc he=>by simp [mo,he] at Dh),<- hex]
     unfold ym at hq
     revert hq
     generalize (execOp a'.eval o).run P w=res;intro hq
     match res,hq with
     | .ok (.value v) w',⟨hk,hv⟩=>exact ia v w' hk hv
     | .ok (.enter f args) w', ⟨e, cG⟩ =>
      subst e;refine ⟨by simp [FR,Fence.wide],(iC cG).mono fun e vf h=>?_⟩;obtain ⟨v,rfl,hk,hv⟩:=h;exact ia v vf hk hv
    ·rename_i hw;rw [if_neg hw] at hq;exact ⟨fun _ _=>trivial,ia undef w (.refl _ _) hq⟩
theorem zR {id:Nat} (qd:P.follows .mixedOrders=true) (fB:yR l m=true) (hp:tB P c hs l.toArray (l.take m) sl [] S jr kT)
  (tail:∀ a w,St c D jr hs a w->ER kT a w->WL P r l.toArray Q (l.drop m) a w):Tr c D sl hs (WP P r (.region id l.toArray true) Q):=fun a w bj=>by
 unfold WP;refine wpIn_region_any qd ?_;refine Q9 (vE fB) hp bj.dh bj.size tail l.toArray.size _ a _ ⟨by simp,?_,?_,?_,bj.defers,bj.size,fun t _=>rfl,?_,List.range l.length,Zbu,?_,by simp⟩
 ·exact fun k o _ hL=>absurd hL (fb _ _)
 ·exact fun k _ hL=>fb _ _ hL
 ·exact bj.mem.drew
 ·exact fun j o _ hL=>absurd hL (fb _ _)
 ·exact fun i=>⟨fun h=>⟨by simpa using h,fb _ _⟩,fun h=>by simpa using h.1⟩
end
end Go.SL
namespace Go.SL
open Go
def leq:Value->Value->Option Bool
 | .int k a,.int k' b=>if k=k' then some (decide (a=b)) else none
 | .string a,.string b=>some (decide (a=b))
 | .bool a,.bool b=>some (a==b)
 | _,_=>none
def xD:List Value->List Value->Option Bool
 | [],[]=>some true
 | x :: xs, y :: ys => match leq x y, xD xs ys with
  | some p,some q=>some (p&&q)
  | _,_=>none
 | _,_=>none
def Kk:Option TypeDesc->Bool
 | some (.int _) | some .string | some .bool=>true
 | _=>false
section
variable {P:Program} {w:World}
theorem AE {d:Nat} {t:TypeId} {x y:Value} {b:Bool} (hl:Kk (P.underlying t)=true) (hk:∀ k,P.underlying t=some (.int k)->∃ a,x=.int k a) (hs:P.underlying t=some .string->∃ a,x=.string a) (hb:P.underlying t=some .bool->∃ a,x=.bool a)
  (h:leq x y=some b):(Op.equalIn (d+1) t x y).run P w=.ok b w:=by
 cases hu:P.underlying t with
 | none=>rw [hu] at hl;cases hl
 | some D =>
  rw [hu] at hl;cases D with
  | int k =>
   obtain ⟨a,rfl⟩:=hk k hu;cases y <;> simp only [leq] at h <;> try cases h
   rename_i k' b';split at h
   ·rename_i e;subst e;cases h;rw [run_equalIn_int w d t k k a b' hu];congr 1
   ·cases h
  | string =>
   obtain ⟨a,rfl⟩:=hs hu;cases y <;> simp only [leq,Option.some.injEq] at h <;> try cases h
   rw [run_equalIn_string w d t a _ hu,uH]
  | bool =>
   obtain ⟨a,rfl⟩:=hb hu;cases y <;> simp only [leq,Option.some.injEq] at h <;> try cases h
   rw [run_equalIn_bool' w d t a _ hu]
  | _=>cases hl
end
def vT (D:Option TypeDesc) (x:Value):Bool:=
 match D,x with
 | some (.int k),.int k' _=>decide (k=k')
 | some .string,.string _=>true
 | some .bool,.bool _=>true
 | _,_=>false
def qq (P:Program) (g:TypeId->Option (List TypeId)) (acc:Option (List TypeId)) (f:Field):Option (List TypeId):=
 match acc,g f.type,P.info? f.type with
 | some a,some m,some i=>if f.offset=a.length/\f.name ≠ "_" /\ i.size=m.length then some (a++m) else none
 | _,_,_=>none
theorem qL (P:Program) (g:TypeId->Option (List TypeId)):∀ (fl:List Field),fl.foldl (qq P g) none=none
 | []=>rfl
 | f::fl=>by simp only [List.foldl_cons,qq];exact qL P g fl
theorem zk (P:Program) (g:TypeId->Option (List TypeId)):∀ (fl:List Field) (A ts:List TypeId),fl.foldl (qq P g) (some A)=some ts->∃ rest,ts=A++rest
 | [],A,ts,h=>⟨[],by simpa using h.symm⟩
 | f :: fl, A, ts, h => by
  simp only [List.foldl_cons] at h;cases hs:qq P g (some A) f with
  | none=>rw [hs,qL] at h;cases h
  | some B =>
   rw [hs] at h;obtain ⟨r,hr⟩:=zk P g fl B ts h;unfold qq at hs;split at hs
   ·rename_i a m i e1 _ _;cases e1;split at hs
    ·cases hs;exact ⟨m++r,by rw [hr];simp⟩
    ·cases hs
   ·cases hs
theorem Ew {P:Program} {g:TypeId->Option (List TypeId)} {a B:List TypeId} {f:Field} (hs:qq P g (some a) f=some B) :
  ∃ m i,g f.type=some m/\P.info? f.type=some i/\f.offset=a.length/\f.name ≠ "_" /\ i.size=m.length/\B=a++m:=by
 unfold qq at hs;split at hs
 ·rename_i a' m i e1 e2 e3;cases e1;split at hs
  ·rename_i h;cases hs;exact ⟨m,i,e2,e3,h.1,h.2.1,h.2.2,I⟩
  ·cases hs
 ·cases hs
theorem A2:∀ {xs ys:List Value} {b:Bool},xD xs ys=some b->xs.length=ys.length
 | [],[],_,_=>rfl
 | [],_::_,_,h=>by simp [xD] at h
 | _::_,[],_,h=>by simp [xD] at h
 | x :: xs, y :: ys, b, h => by
  simp only [xD] at h;split at h
  ·rename_i p q hp hq;simp [A2 hq]
  ·cases h
def kX (P:Program):Nat->TypeId->Option (List TypeId)
 | 0,_=>none
 | d + 1, t =>
  match P.underlying t with
  | some (.int _) | some .string | some .bool=>some [t]
  | some (.struct fs) =>
   if P.stoodInHeld t then none else
   fs.toList.foldl (qq P (kX P d)) (some [])
  | some (.array n e) => match kX P d e, P.info? e with
   | some m,some i=>if i.size=m.length then some ((List.replicate n m).flatten) else none
   | _,_=>none
  | _=>none
def sQ (P:Program):List TypeId->List Value->Bool
 | [],[]=>true
 | t::ts,x::xs=>vT (P.underlying t) x&&sQ P ts xs
 | _,_=>false
section
variable {P:Program}
theorem nA:∀ {ts:List TypeId} {xs:List Value},sQ P ts xs=true->xs.length=ts.length
 | [],[],_=>rfl
 | [],_::_,h=>by cases h
 | _::_,[],h=>by cases h
 | t :: ts, x :: xs, h => by
  simp only [sQ,Zm] at h;simp [nA h.2]
theorem nB:∀ {ts us:List TypeId} {xs:List Value},sQ P (ts++us) xs=true->sQ P ts (xs.take ts.length)=true/\sQ P us (xs.drop ts.length)=true
 | [],us,xs,h=>by simpa [sQ] using h
 | t::ts,us,[],h=>by simp [sQ] at h
 | t :: ts, us, x :: xs, h => by
  simp only [Zb,sQ,Zm] at h;have:=nB h.2;simp [sQ,h.1,this]
theorem qN:∀ {n:Nat} {xs ys:List Value} {b:Bool},n<=xs.length->xD xs ys=some b->∃ p q,xD (xs.take n) (ys.take n)=some p/\xD (xs.drop n) (ys.drop n)=some q/\b=(p&&q)
 | 0,xs,ys,b,_,h=>⟨true,b,by simp [xD],by simpa using h,by simp⟩
 | n+1,[],ys,b,hn,h=>by simp at hn
 | n+1,x::xs,[],b,_,h=>by simp [xD] at h
 | n + 1, x :: xs, y :: ys, b, hn, h => by
  simp only [xD] at h;split at h
  ·rename_i p q hp hq;cases h;obtain ⟨p',q',h1,h2,e⟩:=qN (n:=n) (by simpa using hn) hq;exact ⟨p&&p',q',by simp [xD,hp,h1],by simpa using h2,by rw [e,Bool.and_assoc]⟩
  ·cases h
theorem tO {d:Nat} {t:TypeId} {m:List TypeId} (h:kX P d t=some m):∃ D,P.underlying t=some D/\(kG D=false->m.length=1):=by
 cases d with
 | zero=>cases h
 | succ d =>
  unfold kX at h;cases hu:P.underlying t with
  | none=>rw [hu] at h;cases h
  | some D =>
   refine ⟨D,I,fun hD=>?_⟩;rw [hu] at h;cases D with
   | int k=>cases h;rfl
   | string=>cases h;rfl
   | bool=>cases h;rfl
   | struct fs=>cases hD
   | array n e=>cases hD
   | _=>cases h
theorem uP {t:TypeId} {D:TypeDesc} {i:TypeInfo} {n o:Nat} {zs:List Value} {w:World} (hu:P.underlying t=some D) (hi:P.info? t=some i) (hn:i.size=n) (h1:kG D=false->n=1) (hz:o+n<=zs.length) :
  ∃ v,(part t zs.toArray o).run P w=.ok v w/\(kG D=true->v=.agg ((zs.drop o).take n).toArray)/\(kG D=false->(zs.drop o).take n=[v]):=by
 have hag:(isAgg t).run P w=.ok (kG D) w:=by
  unfold isAgg;rw [Sem.run_bind,aW hu,Result.andThen_ok];cases D <;> rfl
 unfold part;rw [Sem.run_bind,hag,Result.andThen_ok];cases hD:kG D with
 | true =>
  refine ⟨.agg (zs.toArray.extract o (o+n)),by simp [sizeOf,fP hi,hn],fun _=>?_,fun h=>by cases h⟩;congr 1;simp [List.extract_eq_take_drop]
 | false =>
  have e:=h1 hD;subst e;refine ⟨zs[o]'(by omega),by simp [show o<zs.length from by omega],fun h=>(by cases h),fun _=>?_⟩;rw [Zv (by omega),List.take_succ_cons,Ze]
theorem Ee (d k:Nat):∀ (t:TypeId) (ts:List TypeId),kX P d t=some ts->∀ (xs ys:List Value) (b:Bool) (w:World),sQ P ts xs=true->xD xs ys=some b ->
  ∀ x y,(kG ((P.underlying t).getD .bool)=true->x=.agg xs.toArray/\y=.agg ys.toArray)->(kG ((P.underlying t).getD .bool)=false->xs=[x]/\ys=[y])->(Op.equalIn (d+k) t x y).run P w=.ok b w:=by
 induction d with
 | zero=>intro t ts h;cases h
 | succ d ih =>
  intro t ts h xs ys b w dw heq x y h1 h2;rw [show d+1+k=(d+k)+1 from by omega];have KK:∀ (hl:Kk (P.underlying t)=true) (Up:ts=[t]) (hna:kG ((P.underlying t).getD .bool)=false),(Op.equalIn (d+k+1) t x y).run P w=.ok b w:=by
   intro hl Up hna;obtain ⟨rfl,rfl⟩:=h2 hna;subst Up;simp only [sQ,Bool.and_true] at dw;have hq:leq x y=some b:=by
    simp only [xD] at heq;split at heq
    ·rename_i p q hp xA;cases xA;cases heq;simpa using hp
    ·cases heq
   refine AE hl (fun kk hu=>?_) (fun hu=>?_) (fun hu=>?_) hq <;> rw [hu] at dw <;> cases x <;> simp_all [vT]
  unfold kX at h;split at h
  ·rename_i kk hu;exact KK (by rw [hu];rfl) (Option.some.inj h).symm (by rw [hu];rfl)
  ·rename_i hu;exact KK (by rw [hu];rfl) (Option.some.inj h).symm (by rw [hu];rfl)
  ·rename_i hu;exact KK (by rw [hu];rfl) (Option.some.inj h).symm (by rw [hu];rfl)
  ·rename_i fs hu;split at h
   ·cases h
   ·rename_i bj;obtain ⟨rfl,rfl⟩:=h1 (by rw [hu];rfl);have hf:P.fieldsOf t=fs:=by simp [Program.fieldsOf,hu]
    rw [run_equalIn_struct w (d+k) t _ _ (by rw [hf];exact hu) (by simpa using bj),hf]
    -- Bn fields,one after Bn other
    have key:∀ (fl:List Field) (acc:List TypeId),fl.foldl (qq P (kX P d)) (some acc)=some ts->∀ c,xD (xs.drop acc.length) (ys.drop acc.length)=some c->acc.length<=xs.length->(Op.eqFields (d+k) xs.toArray ys.toArray fl).run P w=.ok c w:=by
     intro fl
     induction fl with
     | nil =>
      intro acc ha c hc _;simp only [List.foldl_nil,Option.some.injEq] at ha;have hlen:=nA dw;rw [ha,<- hlen,Z8] at hc;have:c=true:=by
       cases hy:ys.drop xs.length with
       | nil=>rw [hy] at hc;simpa [xD] using hc.symm
       | cons=>rw [hy] at hc;simp [xD] at hc
      simp [Op.eqFields,this]
     | cons f fl ihf =>
      intro acc ha c hc hle;simp only [List.foldl_cons] at ha;cases hB:qq P (kX P d) (some acc) f with
      | none=>rw [hB,qL] at ha;cases ha
      | some B =>
       rw [hB] at ha;obtain ⟨m,i,hm,hi,ho,hn,hsz,rfl⟩:=Ew hB
       -- ts=acc++m++..
       have jI:∃ rest,ts=acc++m++rest:=zk P _ fl _ _ ha;obtain ⟨rest,Up⟩:=jI;have hlen:=nA dw;have Ye:sQ P m ((xs.drop acc.length).take m.length)=true:=by
        rw [Up,Zh] at dw;exact (nB (nB dw).2).1
       have WK:acc.length+m.length<=xs.length:=by rw [hlen,Up];simp
       obtain ⟨p,q,hp,hq,rfl⟩:=qN (n:=m.length) (by simp;omega) hc;have hly:acc.length+m.length<=ys.length:=by have:=A2 heq;omega
       obtain ⟨Df,N6,jc⟩:=tO hm;obtain ⟨vx,rx,ax,bx⟩:=uP (w:=w) N6 hi hsz jc WK;obtain ⟨vy,ry,ay,by'⟩:=uP (w:=w) N6 hi hsz jc hly;rw [<- ho] at rx ry;have hr:=ih f.type m hm _ _ p w Ye hp vx vy (by rw [N6];exact fun hA=>⟨ax hA,ay hA⟩) (by rw [N6];exact fun hA=>⟨bx hA,by' hA⟩)
       have UB:=ihf (acc++m) ha q (by simpa [Zbf] using hq) (by simp;omega);simp only [Op.eqFields,ne_eq,hn,not_false_eq_true,if_true,Sem.run_bind,rx,Result.andThen_ok,ry,hr];cases p
       ·simp
       ·simpa using UB
    exact key fs.toList [] h b (by simpa using heq) (by simp)
  ·rename_i n e hu;split at h
   ·rename_i m i hm hi;split at h
    ·rename_i hsz;obtain ⟨rfl,rfl⟩:=h1 (by rw [hu];rfl);simp only [Option.some.injEq] at h;subst h;have hlen:=nA dw;have Yp:xs.length=ys.length:=A2 heq;have hL:xs.length=n*m.length:=by rw [hlen];simp
     have XP:(sizeOf e).run P w=.ok m.length w:=by simp [sizeOf,fP hi,hsz]
     obtain ⟨De,N6,jc⟩:=tO hm
     have YO:∀ (c j:Nat) (p:Bool),j+c=n->xD (xs.drop (j*m.length)) (ys.drop (j*m.length))=some p->sQ P ((List.replicate c m).flatten) (xs.drop (j*m.length))=true ->
       ((forIn (List.range' j c) ((none, ()) : Option Bool × Unit) fun i r => (do
        let a <- part e xs.toArray (i*m.length)
        let b <- part e ys.toArray (i*m.length)
        let r' <- Op.equalIn (d+k) e a b
        if (!r')=true then pure (ForInStep.done (some false,())) else pure (ForInStep.yield (none,()))):Sem (Option Bool×Unit)).run P w)=.ok (bif p then none else some false,()) w:=by
      intro c
      induction c with
      | zero =>
       intro j p hj hp _;have hz:xs.drop (j*m.length)=[]:=by apply Zbd;rw [hL,show j=n from by omega];exact ZC _
       have Kr:ys.drop (j*m.length)=[]:=by apply Zbd;rw [<- Yp,hL,show j=n from by omega];exact ZC _
       rw [hz,Kr] at hp;simp only [xD,Option.some.injEq] at hp;subst hp;simp
      | succ c ihc =>
       intro j p hj hp UM;have rW:j*m.length+m.length<=xs.length:=by
        rw [hL,<- Zaj];exact Z9 _ (by omega)
       obtain ⟨vx,rx,ax,bx⟩:=uP (w:=w) N6 hi hsz jc rW;obtain ⟨vy,ry,ay,by'⟩:=uP (w:=w) N6 hi hsz jc (show j*m.length+m.length<=ys.length by omega);obtain ⟨p1,p2,Br,Oc,rfl⟩:=qN (n:=m.length) (by simp;omega) hp;rw [List.replicate_succ,ZaD] at UM;have ho:=nB UM;have hr:=ih e m hm _ _ p1 w ho.1 Br vx vy (by rw [N6];exact fun hA=>⟨ax hA,ay hA⟩) (by rw [N6];exact fun hA=>⟨bx hA,by' hA⟩)
       simp only [List.range'_succ,List.forIn_cons,Sem.run_bind,rx,ry,hr,Result.andThen_ok];cases p1
       ·simp
       ·have ia:=ihc (j+1) p2 (by omega) (by rw [Zaj,<- Zbf,<- Zbf];exact Oc) (by rw [Zaj,<- Zbf];exact ho.2);simp only [Bool.not_true,ZaW,if_false,Sem.run_pure,Result.andThen_ok,Zav];exact ia
     have hf:=YO n 0 b (by omega) (by simpa using heq) (by simpa using dw);simp only [Op.equalIn,Sem.run_bind,aW hu,Result.andThen_ok,XP];rw [Std.Legacy.Range.forIn_eq_forIn_range'];simp only [Std.Legacy.Range.size,Nat.sub_zero,ZaK,Nat.div_one];rw [hf];cases b <;> simp
    ·cases h
   ·cases h
  ·cases h
class Bl (P:Program) (t:TypeId) (ts:outParam (List TypeId)):Prop where
 eq:kX P 20 t=some ts:=by kernel_rfl
 agg:kG ((P.underlying t).getD .bool)=true:=by kernel_rfl
 guard:P.eqGuardType P.depth t=false:=by kernel_rfl
variable {c:Cx} {sl:aD} {hs:List bh} {dst:Option Tmp} {ty:TypeId} {pos:String} {af:Array Edge} {g:Option (Nat×Bool)}
variable {ts:List TypeId} {xs:List Value}
theorem rf {t:TypeId} [h:Bl P t ts] {xs ys:List Value} {b:Bool} (dw:sQ P ts xs=true) (heq:xD xs ys=some b) (w:World):(Op.equalIn 10000 t (.agg xs.toArray) (.agg ys.toArray)).run P w=.ok b w:=
 Ee 20 9980 t ts h.eq xs ys b w dw heq _ _ (fun _=>⟨I,I⟩) (fun hn=>by rw [h.agg] at hn;cases hn)
theorem uM {t u:TypeId} [h:Bl P t ts] {x y:Operand} {xs ys:List Value} {b:Bool} (hx:Is sl x (.agg xs.toArray)) (hy:Is sl y (.agg ys.toArray)) (dw:sQ P ts xs=true) (heq:xD xs ys=some b) :
  cM P c sl hs ⟨dst,.binOp .eql t x y u,ty,pos,af,g⟩ (.bool b):=
 gX hx hy fun w=>by
  rw [Sem.run_bind,run_eqGuard_agg w _ _ _ _ _ _ h.guard,Result.andThen_ok,run_eql_struct,rf dw heq];rfl
theorem uL {t u:TypeId} [h:Bl P t ts] {x y:Operand} {xs ys:List Value} {b:Bool} (hx:Is sl x (.agg xs.toArray)) (hy:Is sl y (.agg ys.toArray)) (dw:sQ P ts xs=true) (heq:xD xs ys=some b) :
  cM P c sl hs ⟨dst,.binOp .neq t x y u,ty,pos,af,g⟩ (.bool (!b)):=
 gX hx hy fun w=>by
  rw [Sem.run_bind,run_eqGuard_agg w _ _ _ _ _ _ h.guard,Result.andThen_ok,run_neq_struct,rf dw heq];rfl
theorem lZ:sQ P [] []=true:=rfl
theorem ka {t:TypeId} {k:IntKind} {n:Int} [h:gJ P t (.int k)] (hr:sQ P ts xs=true):sQ P (t::ts) (.int k n::xs)=true:=by
 simp [sQ,vT,h.eq,hr]
theorem fD {t:TypeId} {s:ByteArray} [h:gJ P t .string] (hr:sQ P ts xs=true):sQ P (t::ts) (.string s::xs)=true:=by
 simp [sQ,vT,h.eq,hr]
theorem Js {t:TypeId} {b:Bool} [h:gJ P t .bool] (hr:sQ P ts xs=true):sQ P (t::ts) (.bool b::xs)=true:=by
 simp [sQ,vT,h.eq,hr]
end
end Go.SL
namespace Go.SL
open Go
def ev (sl:aD):Operand->Option Value
 | .tmp t=>cW sl t
 | .const v=>some v
 | .global g=>some (.pointer (some ⟨g,0,none⟩))
 | .func f=>some (.func (.func f) #[] #[])
variable {i:Nat} {v:Value} {vs:List Value} {x:Operand} {xs:List (Nat×Operand)}
theorem Is.of {sl:aD} (h:ev sl x=some v):Is sl x v:=fun a ha=>by
 cases x with
 | tmp t=>exact ha.eval h
 | const u=>exact Option.some.inj h
 | global g=>exact Option.some.inj h
 | func f=>exact Option.some.inj h
theorem xo.o {sl:aD} {vs:List (Nat×Value)} (h:ev sl x=some v) (t:xo sl xs vs):xo sl ((i,x)::xs) ((i,v)::vs):=.cons (.of h) t
theorem tC.o {sl:aD} (h:ev sl x=some v) (t:tC sl (i+1) xs vs):tC sl i ((i,x)::xs) (v::vs):=.cons (.of h) t
theorem Ht.o {sl:aD} {xs:List Operand} (h:ev sl x=some v) (t:Ht sl xs vs):Ht sl (x::xs) (v::vs):=.cons (.of h) t
theorem Is.bX {sl:aD} {c:Bool} (hc:c=true) (h:ev sl x=some (SL.gv c v)):Is sl x v:=(u3 hc (v:=v)) ▸ Is.of h
class Qm (P:Program):Prop where
 eq:P.follows .mixedOrders=true:=by kernel_rfl
section
variable {P:Program} {r:Option Nat} {c:Cx} {D:List Nat} {sl:aD} {rl:eX} {hs hs':List bh} {Q:Exit->Act->World->Prop} {ops:Array Oper} {m d:Nat} {dst:Option Tmp} {op:Op} {ty:TypeId} {pos:String} {af:Array Edge} {g:Option (Nat×Bool)} {rest:List Oper}
def im (P:Program) (r:Option Nat) (c:Cx) (D:List Nat) (hs:List bh) (ops:Array Oper) (Q:Exit->Act->World->Prop) (m:Nat) (l:List Oper) (sl:aD) (rl:eX):Prop:=
 ∃ S jr kT,tB P c hs ops (l.take m) sl rl S jr kT/\∀ a w,St c D jr hs a w->ER kT a w->WL P r ops Q (l.drop m) a w
theorem eP {id:Nat} {l:List Oper} (m:Nat) [qd:Qm P] (fB:yR l m=true) (k:im P r c D hs l.toArray Q m l sl []):Tr c D sl hs (WP P r (.region id l.toArray true) Q):=by
 obtain ⟨S,jr,kT,hp,ht⟩:=k;exact zR qd.eq fB hp ht
theorem eU {l:List Oper} (k:Tr c D sl hs (WL P r ops Q l)):im P r c D hs ops Q 0 l sl rl:=
 ⟨[],sl,rl,.nil,fun a w bj _=>k a w bj⟩
variable {R:Ending->World->Prop} {V:Value} {args:List Value} {c0:Bool} {code:Code} {f:FuncId} {fn:Func} {gs j:Nat} {o:Oper} {q:Bool} {t:Tmp} {v:Value} {vs:List Value} {want:Bool} {xs:List ResultVar}
theorem pY (ho:o.dst=some d) (hd:Nat.blt d c.nt=true) (h:ui P c hs ops sl rl o (.val V)) (k:im P r c D hs ops Q m rest ((d,V)::sl) rl):im P r c D hs ops Q (m+1) (o::rest) sl rl:=by
 obtain ⟨S,jr,kT,hp,ht⟩:=k;exact ⟨_,_,_,.val ho (by simpa [Z1] using hd) h hp,ht⟩
theorem oA {R:Rel} (hg:o.guard=none) (h:∀ a w,bW sl a->Bk (o.looksAt ops) rl a w->Mem c hs w->ym P o a w R):ui P c hs ops sl rl o R:=fun a w h1 h2 h3=>by
 rw [if_pos (by simp [Region.wanted,hg])];exact h a w h1 h2 h3
theorem rn (hr:cM P c sl hs o V) {a:Act} {w:World} (h1:bW sl a) (h3:Mem c hs w):ym P o a w (.val V):=by
 unfold ym;rw [hr.2 a w h1 h3];exact ⟨.refl _ _,I⟩
theorem sO (hr:lR P sl o f args) {a:Act} {w:World} (h1:bW sl a) (hc:ao P f args w V):ym P o a w (.val V):=by
 unfold ym;rw [hr.2 a w h1];exact ⟨I,hc.mono fun e w' ⟨he,hk⟩=>⟨V,he,hk,I⟩⟩
theorem aM (hr:cM P c sl hs ⟨some d,op,ty,pos,af,none⟩ V) (hd:Nat.blt d c.nt=true) (k:im P r c D hs ops Q m rest ((d,V)::sl) rl) :
  im P r c D hs ops Q (m+1) (⟨some d,op,ty,pos,af,none⟩::rest) sl rl:=
 pY I hd (oA I fun _ _ h1 _ h3=>rn hr h1 h3) k
theorem fQ (hr:lR P sl ⟨some d,op,ty,pos,af,none⟩ f args) (hd:Nat.blt d c.nt=true) (hc:∀ w,Mem c hs w->ao P f args w V) (k:im P r c D hs ops Q m rest ((d,V)::sl) rl) :
  im P r c D hs ops Q (m+1) (⟨some d,op,ty,pos,af,none⟩::rest) sl rl:=
 pY I hd (oA I fun _ w h1 _ h3=>sO hr h1 (hc w h3)) k
theorem oB (hg:o.guard=some (j,want)) (hj:((ops[j]?).bind (·.dst))=some gs) (hq:cW sl gs=some (gv c0 (.bool q)))
  (h:(c0&&(q==want))=true->∀ a w,bW sl a->Mem c hs w->ym P o a w (.val V)):ui P c hs ops sl rl o (.val (gv (c0&&(q==want)) V)):=fun a w h1 _ h3=>by
 rw [lb hg hj h1 hq];by_cases hc:(c0&&(q==want))=true
 ·rw [if_pos hc,u3 hc];exact h hc a w h1 h3
 ·rw [if_neg hc,wK (by simpa using hc)]
  rfl
theorem C5 (hj:((ops[j]?).bind (·.dst))=some gs) (hq:cW sl gs=some (gv c0 (.bool q)))
  (hr:(c0&&(q==want))=true->cM P c sl hs ⟨some d,op,ty,pos,af,some (j,want)⟩ V) (hd:Nat.blt d c.nt=true) (k:im P r c D hs ops Q m rest ((d,gv (c0&&(q==want)) V)::sl) rl) :
  im P r c D hs ops Q (m+1) (⟨some d,op,ty,pos,af,some (j,want)⟩::rest) sl rl:=
 pY I hd (oB I hj hq fun hc _ _ h1 h3=>rn (hr hc) h1 h3) k
theorem Hr (hj:((ops[j]?).bind (·.dst))=some gs) (hq:cW sl gs=some (.bool q))
  (hr:(q==want)=true->cM P c sl hs ⟨some d,op,ty,pos,af,some (j,want)⟩ V) (hd:Nat.blt d c.nt=true) (k:im P r c D hs ops Q m rest ((d,gv (q==want) V)::sl) rl) :
  im P r c D hs ops Q (m+1) (⟨some d,op,ty,pos,af,some (j,want)⟩::rest) sl rl:=
 C5 (c0:=true) hj (by rw [hq];rfl) (by simpa using hr) hd (by simpa using k)
theorem tA (hj:((ops[j]?).bind (·.dst))=some gs) (hq:cW sl gs=some (gv c0 (.bool q)))
  (hr:(c0&&(q==want))=true->lR P sl ⟨some d,op,ty,pos,af,some (j,want)⟩ f args) (hd:Nat.blt d c.nt=true) (hc:(c0&&(q==want))=true->∀ w,Mem c hs w->ao P f args w V) (k:im P r c D hs ops Q m rest ((d,gv (c0&&(q==want)) V)::sl) rl) :
  im P r c D hs ops Q (m+1) (⟨some d,op,ty,pos,af,some (j,want)⟩::rest) sl rl:=
 pY I hd (oB I hj hq fun h _ w h1 h3=>sO (hr h) h1 (hc h w h3)) k
theorem xh (hj:((ops[j]?).bind (·.dst))=some gs) (hq:cW sl gs=some (.bool q))
  (hr:(q==want)=true->lR P sl ⟨some d,op,ty,pos,af,some (j,want)⟩ f args) (hd:Nat.blt d c.nt=true) (hc:(q==want)=true->∀ w,Mem c hs w->ao P f args w V) (k:im P r c D hs ops Q m rest ((d,gv (q==want) V)::sl) rl) :
  im P r c D hs ops Q (m+1) (⟨some d,op,ty,pos,af,some (j,want)⟩::rest) sl rl:=
 tA (c0:=true) hj (by rw [hq];rfl) (by simpa using hr) hd (by simpa using hc) (by simpa using k)
theorem Gv (hj:((ops[j]?).bind (·.dst))=some gs) (hq:cW sl gs=some (gv c0 (.bool q)))
  (hr:(c0&&(q==want))=true->lR P sl ⟨some d,op,ty,pos,af,some (j,want)⟩ f args) (hd:Nat.blt d c.nt=true) (hc:(c0&&(q==want))=true->∀ w,Mem c hs w->ao P f args w V)
  (k:Tr c D ((d,gv (c0&&(q==want)) V)::sl) hs (WL P r ops Q rest)):Tr c D sl hs (WL P r ops Q (⟨some d,op,ty,pos,af,some (j,want)⟩::rest)):=fun a w bj=>by
 unfold WL;rw [lb I hj bj.dh hq];by_cases h:(c0&&(q==want))=true
 ·rw [if_pos h];rw [u3 h] at k;refine ⟨eb _ _ _ _ _,?_⟩;rw [Oper.semAt_eq _ _ _ (hr h).1,(hr h).2 a w bj.dh];exact ⟨by simp [FR,Fence.wide],(iC (hc h w bj.rG)).mono fun e w' ⟨he,hk⟩=>by
   subst he;exact k _ _ ((bj.put (by simpa [Z1] using hd) V).heap (bj.mem.rL hk))⟩
 ·rw [if_neg h];rw [wK (by simpa using h)] at k;exact k _ _ (bj.put (by simpa [Z1] using hd) undef)
theorem jj (hj:((ops[j]?).bind (·.dst))=some gs) (hq:cW sl gs=some (.bool q))
  (hr:(q==want)=true->lR P sl ⟨some d,op,ty,pos,af,some (j,want)⟩ f args) (hd:Nat.blt d c.nt=true) (hc:(q==want)=true->∀ w,Mem c hs w->ao P f args w V)
  (k:Tr c D ((d,gv (q==want) V)::sl) hs (WL P r ops Q rest)):Tr c D sl hs (WL P r ops Q (⟨some d,op,ty,pos,af,some (j,want)⟩::rest)):=
 Gv (c0:=true) hj (by rw [hq];rfl) (by simpa using hr) hd (by simpa using hc) (by simpa using k)
def DT (V:Nat->Value) (ob:Obj):Rel:=⟨fun v w=>∃ b,v=V b/\w.heap[b]? = some ob,fun ⟨b,e,h⟩ hk=>⟨b,e,by rw [hk.block b (ko h) (by simp)];exact h⟩⟩
theorem B5 (h:fn.results=#[.tmp t]) {sl:aD} {v:Value} (hv:cW sl t=some v) {a:Act} (ha:bW sl a) (w:World):(results fn a.tmps).run P w=.ok v w:=by
 have:=ha t v hv;simp [results,h,ZF,this]
theorem B4 {t u:Tmp} (h:fn.results=#[.tmp t,.tmp u]) {sl:aD} {v x:Value} (hv:cW sl t=some v) (hx:cW sl u=some x) {a:Act} (ha:bW sl a) (w:World):(results fn a.tmps).run P w=.ok (.tuple #[v,x]) w:=by
 have h1:=ha t v hv;have h2:=ha u x hx;simp [results,h,ZF,h1,h2]
theorem B6 (h:fn.results=#[]) {a:Act} (w:World):(results fn a.tmps).run P w=.ok (.tuple #[]) w:=by
 simp [results,h]
def Ends (P:Program) (fn:Func) (c:Cx) (sl:aD) (hs:List bh) (v:Value):Prop:=∀ a w,bW sl a->Mem c hs w->(results fn a.tmps).run P w=.ok v w
theorem dS (h:fn.results=#[.tmp t]) (hv:cW sl t=some v):Ends P fn c sl hs v:=fun _ w ha _=>B5 h hv ha w
theorem gl {t u:Tmp} {v x:Value} (h:fn.results=#[.tmp t,.tmp u]) (hv:cW sl t=some v) (hx:cW sl u=some x):Ends P fn c sl hs (.tuple #[v,x]):=fun _ w ha _=>B4 h hv hx ha w
theorem qt (h:fn.results=#[]):Ends P fn c sl hs (.tuple #[]):=fun _ w _ _=>B6 h w
theorem SJ {T:TypeId} {b o n:Nat} [Ty P T false n] (h:fn.results=#[.cell t T]) (hp:cW sl t=some (.pointer (some ⟨b,o,none⟩))) (hv:At c hs b o v):Ends P fn c sl hs v:=fun a w ha hm=>by
 have h1:=ha t _ hp;simp [results,h,ZF,h1,asAddr,tI (hv w hm)]
theorem OK {T:TypeId} {b o n:Nat} [Ty P T true n] (h:fn.results=#[.cell t T]) (hp:cW sl t=some (.pointer (some ⟨b,o,none⟩))) (hv:eO c hs b o vs) (hl:vs.length=n):Ends P fn c sl hs (.agg vs.toArray):=fun a w ha hm=>by
 have h1:=ha t _ hp;simp [results,h,ZF,h1,asAddr,oG hl (fun j v h=>hv.get j v h w hm)]
def Qn (P:Program) (c:Cx) (hs:List bh) (T:TypeId) (b o:Nat) (v:Value):Prop:=∀ w,Mem c hs w->(loadVar T ⟨b,o,none⟩).run P w=.ok v w
theorem Kc {T:TypeId} {b o n:Nat} [Ty P T true n] (hv:eO c hs b o vs) (hl:vs.length=n):Qn P c hs T b o (.agg vs.toArray):=fun w hm=>oG hl (fun j v h=>hv.get j v h w hm)
inductive RV (P:Program) (c:Cx) (sl:aD) (hs:List bh):ResultVar->Value->Prop
 | tmp {t:Tmp} {v:Value} (h:cW sl t=some v):RV P c sl hs (.tmp t) v
 | cell {t:Tmp} {T:TypeId} {b o:Nat} {v:Value} (h:cW sl t=some (.pointer (some ⟨b,o,none⟩))) (hl:Qn P c hs T b o v):RV P c sl hs (.cell t T) v
inductive HC (P:Program) (c:Cx) (sl:aD) (hs:List bh):List ResultVar->List Value->Prop
 | nil:HC P c sl hs [] []
 | cons {x:ResultVar} {xs:List ResultVar} {v:Value} {vs:List Value} (h:RV P c sl hs x v) (t:HC P c sl hs xs vs):HC P c sl hs (x::xs) (v::vs)
def BZ (tmps:Array Value):ResultVar->Sem Value
 | .tmp t=>pure (tmps.getD t undef)
 | .cell a t=>do loadVar t (<- asAddr (tmps.getD a undef))
theorem Ni (h:HC P c sl hs xs vs) {a:Act} {w:World} (ha:bW sl a) (hm:Mem c hs w):(xs.mapM (BZ a.tmps)).run P w=.ok vs w:=by
 induction h with
 | nil=>simp
 | cons h _ ih =>
  cases h with
  | tmp h=>simp [BZ,ZF,ha _ _ h,ih]
  | cell h hl=>simp [BZ,ZF,ha _ _ h,asAddr,hl w hm,ih]
theorem P8 (hx:fn.results=xs.toArray) (h:HC P c sl hs xs vs) (hl:vs.length≠1):Ends P fn c sl hs (.tuple vs.toArray):=fun a w ha hm=>by
 have:=Ni h ha hm;have h2:(Array.mapM (BZ a.tmps) xs.toArray).run P w=.ok vs.toArray w:=by
  rw [List.mapM_toArray];simp [this]
 unfold results;rw [hx];change Sem.run P (Array.mapM (BZ a.tmps) xs.toArray >>= fun vs=>pure (if h:vs.size=1 then vs[0] else Value.tuple vs)) w=_
 rw [Sem.run_bind,h2,Result.andThen_ok,Sem.run_pure];rw [dif_neg (by simpa using hl)]
theorem MR (G2:c.md=[]) (he:Ends P fn c sl hs v) :
  Tr c [] sl hs (bodyPostM (FR r) 0 P fn (fun e w'=>e=.returned v/\aH [] c.w0 w') .ret):=fun a w bj=>by
 have hm:=bj.rG;show LeavesInM (FR r) 0 P fn a.tmps _ a.defers .returning w;rw [bj.defers];exact ⟨v,he a w bj.dh hm,I,by rw [<- G2];exact hm.keeps⟩
theorem pA {v v':Value} (G2:c.md=[]) (he:Ends P fn c sl hs v') (hv:v'=v) :
  Tr c [] sl hs (bodyPostM (FR r) 0 P fn (fun e w'=>e=.returned v/\aH [] c.w0 w') .ret):=hv ▸ MR G2 he
theorem rJ {fn:Func} {v:Value} {R:Ending->World->Prop}:∀ (D:List Nat) (w:World) (a:Act),a.defers=D.map mark->bW sl a->Mem c (hs++mN D) w->Ends P fn c sl hs v ->
  (∀ w',Mem c hs w'->R (.returned v) w')->LeavesInM (FR r) 0 P fn a.tmps R (D.map mark) .returning w
 | [],w,a,_,ha,hm,he,hR=>⟨v,he a w ha (by simpa [mN] using hm),hR w (by simpa [mN] using hm)⟩
 | b :: D, w, a, _, ha, hm, he, hR => by
  have eo:Take (hs++mN (b::D)) (bA b (.deferred (some []))) (hs++mN D):=by
   clear hm he hR
   induction hs with
   | nil=>exact .here
   | cons A hs ih=>exact .there ih
  have mr:=hm.take eo;have hb:w.heap[b]? = some (.deferred (some [])):=mr.bA .here;refine ⟨by simp,.inl ⟨b,w.putObj b (.deferred none),I,run_takeDeferred hb,?_⟩⟩;have hk:aH [b] w (w.putObj b (.deferred none)):=⟨I,I,I,ZC _,by simp,fun k _ hn=>World.putObj_heap_other (by simpa using hn)⟩
  have WI:Mem c (hs++mN D) (w.putObj b (.deferred none)):=(Mem.store mr hk (World.putObj_heap_same (ko (w:=w) hb))).wQ;exact rJ D _ { a with defers:=D.map mark } I ha WI he hR
theorem aP (he:Ends P fn c sl hs v) (hR:∀ w',Mem c hs w'->R (.returned v) w') :
  Tr c D sl hs (bodyPostM (FR r) 0 P fn R .ret):=fun a w bj=>by
 show LeavesInM (FR r) 0 P fn a.tmps R a.defers .returning w;rw [bj.defers];exact rJ D w a bj.defers bj.dh bj.mem he hR
theorem aQ (he:Ends P fn c sl hs v) (hR:∀ w',Mem c hs w'->R (.returned v) w') :
  Tr c D sl hs (bodyPostM (FR r) 0 P fn R .normal):=aP (r:=r) he hR
theorem ak {w:World} (hf:P.funcs[f]? = some fn) (hb:fn.body=some code) (hl:Nat.ble args.length fn.ntmps=true)
  (h:Tr ⟨w,[],fn.ntmps⟩ [] (jO 0 args) [] (WP P none code (bodyPostM (FR none) 0 P fn (fun e w'=>e=.returned V/\aH [] w w')))):ao P f args w V:=
 pg (hs0:=[]) hf hb (by simpa using hl) ⟨[],Zah,I,fun _ h=>by cases h⟩ h
theorem aV {w:World} {ι:Type} {Φ:ι->Prop} {val:ι->Value} {own:ι->List bh} (hf:P.funcs[f]? = some fn) (hb:fn.body=some code) (hl:Nat.ble args.length fn.ntmps=true)
  (h:Tr ⟨w,[],fn.ntmps⟩ [] (jO 0 args) [] (WP P none code (bodyPostM (FR none) 0 P fn (fun e w'=>∃ x,e=.returned (val x)/\Φ x/\aH [] w w'/\∃ fp:List Nat,fp.Nodup/\cA (hp w') (own x) fp/\∀ b∈fp,b∈([]:List Nat)\/w.heap.size<=b)))) :
  bB P f args w [] Φ val own:=
 pg (hs0:=[]) hf hb (by simpa using hl) ⟨[],Zah,I,fun _ h=>by cases h⟩ h
theorem er {w:World} {oZ:List Nat} {As:List bh} {ι:Type} {Φ:ι->Prop} {val:ι->Value} {own:ι->List bh} (hf:P.funcs[f]? = some fn) (hb:fn.body=some code) (hl:Nat.ble args.length fn.ntmps=true)
  (hn:oZ.Nodup) (hs0:cA (hp w) As oZ)
  (h:Tr ⟨w,oZ,fn.ntmps⟩ [] (jO 0 args) As (WP P none code (bodyPostM (FR none) 0 P fn (fun e w'=>∃ x,e=.returned (val x)/\Φ x/\aH oZ w w'/\∃ fp:List Nat,fp.Nodup/\cA (hp w') (own x) fp/\∀ b∈fp,b∈oZ\/w.heap.size<=b)))) :
  bB P f args w oZ Φ val own:=
 pg hf hb (by simpa using hl) ⟨oZ,hn,hs0,fun _ h=>h⟩ h
theorem aF {ι:Type} {Φ:ι->Prop} {val:ι->Value} {own:ι->List bh} (x:ι) (hx:Φ x) {As:List bh} (ht:bK hs (own x) As) {w':World} (hm:Mem c hs w') {v:Value} (hv:v=val x) :
  ∃ x,Ending.returned v=.returned (val x)/\Φ x/\aH c.md c.w0 w'/\∃ fp:List Nat,fp.Nodup/\cA (hp w') (own x) fp/\∀ b∈fp,b∈c.md\/c.w0.heap.size<=b:=by
 have h2:=(hm.jo ht).lD;obtain ⟨k,fp,hn,gY,hb⟩:=h2;exact ⟨x,by rw [hv],hx,k,fp,hn,gY,fun b dK=>(hb b dK).symm⟩
end
end Go.SL
