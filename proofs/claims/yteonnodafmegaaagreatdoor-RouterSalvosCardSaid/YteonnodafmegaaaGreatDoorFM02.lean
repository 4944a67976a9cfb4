/- Parts of the proof: P5h P5i P5j P5k P5l P5m P5n P5o GkMem GkAny GkReg GkEq GkPlan. -/
import Derived.Test.YteonnodafmegaaaGreatDoorFM01
import Derived.Laws.StructEq
set_option linter.unusedSectionVars false
set_option linter.unusedVariables false
set_option linter.unusedSimpArgs false
namespace Go.Proofs.A1
open Go Go.SL
def Ti.zero:Ti:=⟨⟨#[]⟩,0,0⟩
def ig (r:Ro) (i:Nat):Ti:=r.ti.getD i Ti.zero
def dw (r:Ro) (i:Nat):ByteArray:=(ig r i).nm
variable {N:Wn} {i:Nat} {p:List Nat} {po:List Po} {s:ByteArray} {v:Int}
theorem qu {r:Ro} (h:i<r.ti.length):(cR r)[i]'(by unfold cR;rw [Zd];exact h)=dw r i:=by
 unfold cR dw ig;rw [Z2,Zk,Zc h];rfl
theorem mP {r:Ro} (h:i<r.ti.length):dw r i∈cR r:=by rw [<- qu h];exact Zj _
theorem vj {r:Ro} (hd:(cR r).Nodup) {i j:Nat} (hi:i<r.ti.length) (hj:j<r.ti.length) (h:dw r i=dw r j):i=j:=by
 have hl:(cR r).length=r.ti.length:=by unfold cR;rw [Zd]
 rw [<- qu hi,<- qu hj] at h;rcases Zal i j with aM | he | aM
 ·exact absurd h (Zac.1 hd i j (by omega) (by omega) aM)
 ·exact he
 ·exact absurd h.symm (Zac.1 hd j i (by omega) (by omega) aM)
theorem sW {r:Ro} (hd:(cR r).Nodup) {i:Nat} (hi:i<r.ti.length):bA (cR r) (dw r i)=(i:Nat):=by
 have hl:(cR r).length=r.ti.length:=by unfold cR;rw [Zd]
 refine rP (by omega) (qu hi) fun j hj e=>?_;rw [qu (by omega)] at e;have:=vj hd (by omega) hi e;omega
theorem A5 {r:Ro} (hn:oT r) (hd:(cR r).Nodup) {i:Nat} (hi:i<r.ti.length):k6 r (dw r i)=(ig r i).fr:=by
 have h1:¬ 0<=bA (cy r) (dw r i):=fun h=>by
  have:dw r i∈cy r:=Classical.byContradiction fun hq=>by have:=cM.2 hq;omega
  exact hn.dt _ this (mP hi)
 unfold k6;rw [if_neg h1,sW hd hi,if_pos (by omega),ZL];rfl
theorem vF {r:Ro} (hn:oT r) (hd:(cR r).Nodup) {i:Nat} (hi:i<r.ti.length):kI r (dw r i)=(ig r i).to:=by
 have h1:¬ 0<=bA (cK r) (dw r i):=fun h=>by
  have:dw r i∈cK r:=Classical.byContradiction fun hq=>by have:=cM.2 hq;omega
  exact hn.st _ this (mP hi)
 unfold kI;rw [if_neg h1,sW hd hi,if_pos (by omega),ZL];rfl
def dJ (r:Ro) (po:List Po) (v:Int) (s:ByteArray):Wn:=⟨r.ti.length,fun i=>gM po v (dw r i)&&decide (qK po v (cK r) (dw r i)=s),fun i=>!gM po v (dw r i),fun i=>(ig r i).fr,fun i=>(ig r i).to,kI r s⟩
def ib (r:Ro) (v:Int):List Po->ByteArray->List Nat->List Po×ByteArray
 | po,x,[]=>(po,x)
 | po,x,i::p=>ib r v (if gM po v (dw r i) then po else eG r ⟨v,dw r i,x⟩ po) (dw r i) p
def kV (r:Ro) (po:List Po) (v:Int) (s:ByteArray) (p:List Nat) (d:ByteArray):List Po:=eG r ⟨v,d,(ib r v po s p).2⟩ (ib r v po s p).1
theorem D9 {r:Ro} {po:List Po} {v:Int} {s:ByteArray} (hn:oT r) (hd:(cR r).Nodup) (hv:0<=v/\v<r.lv) (o8:jP r po):∀ (q u:List Nat) (qD:List Po) (x:ByteArray),(dJ r po v s).ok (u++q)->rY r qD v x->(x∈cK r\/x∈cR r)->kI r x=(dJ r po v s).fin u->iL qD v 7 x=s->(∀ i,i<r.ti.length->i ∉ u->gM qD v (dw r i)=gM po v (dw r i))->(u=[]->qD=po) ->
  rY r (ib r v qD x q).1 v (ib r v qD x q).2/\((ib r v qD x q).2∈cK r\/(ib r v qD x q).2∈cR r)/\kI r (ib r v qD x q).2=(dJ r po v s).fin (u++q)/\iL (ib r v qD x q).1 v 7 (ib r v qD x q).2=s /\
  (∀ w y,y∈cy r->eB (ib r v qD x q).1 w y=eB qD w y)/\(∀ w y S,y∈cy r->qK (ib r v qD x q).1 w S y=qK qD w S y)
 | [], u, qD, x, _, h1, h2, h3, h4, _, _ => by
  rw [ZN];exact ⟨h1,h2,h3,h4,fun _ _ _=>rfl,fun _ _ _ _=>rfl⟩
 | i :: q, u, qD, x, dU, h1, h2, h3, h4, h5, h6 => by
  have e:u++i::q=(u++[i])++q:=by simp
  rw [e] at dU ⊢;have a7:=(Wn.j4.1 (Wn.wG dU (ZaY (u++[i]) q))).2;have hi:i<r.ti.length:=Wn.qy a7;have hiu:i ∉ u:=Wn.vX a7;have gJ:=mP hi;have Vr:=h5 i hi hiu;unfold Wn.step at a7;simp only [Zn,ZR,decide_eq_true_eq] at a7;obtain ⟨_,_,L4⟩:=a7;rw [ib];by_cases hb:gM qD v (dw r i)=true
  ·rw [if_pos hb];rw [Vr] at hb;rcases L4 with ⟨hu,r8⟩ | ⟨Ud,_⟩
   ·have hu:u=[]:=List.isEmpty_iff.1 hu;have hpp:=h6 hu;subst hpp;have r8:(gM qD v (dw r i)&&decide (qK qD v (cK r) (dw r i)=s))=true:=r8;rw [Zn,decide_eq_true_eq] at r8;refine D9 hn hd hv o8 q (u++[i]) qD (dw r i) dU (o8.Wk fun _=>hb) (.inr gJ) ?_ ?_ (fun j hj hju=>rfl) (fun h=>by simp at h)
    ·rw [vF hn hd hi,Wn.mn];rfl
    ·rw [<- Aa hn o8 (show (eB qD v (dw r i)).isSome=true from hb)];exact r8.2
   ·have Ud:(!gM po v (dw r i))=true:=Ud;rw [hb] at Ud;cases Ud
  ·rw [if_neg hb];have eK:eB qD v (dw r i)=none:=by
    unfold gM at hb;cases hq:eB qD v (dw r i) with
    | none=>rfl
    | some z=>rw [hq] at hb;exact absurd rfl hb
   have hm:k6 r (dw r i)=kI r x:=by
    rcases L4 with ⟨_,r8⟩ | ⟨_,hf⟩
    ·have r8:(gM po v (dw r i)&&decide (qK po v (cK r) (dw r i)=s))=true:=r8;rw [Zn,<- Vr] at r8;exact absurd r8.1 hb
    ·rw [A5 hn hd hi,h3];exact hf
   have hs:=pP (p:=⟨v,dw r i,x⟩) h1.sq h1.out (.inr gJ) eK;have mY:=sQ (p:=⟨v,dw r i,x⟩) (jP.one hs) (jP.one h1.sq)
   obtain ⟨g1,g2,g3,g4,g5,g6⟩:=D9 hn hd hv o8 q (u++[i]) (eG r ⟨v,dw r i,x⟩ qD) (dw r i) dU (h1.add hn hv h2 (.inr gJ) eK hm) (.inr gJ) (by rw [vF hn hd hi,Wn.mn];rfl)
    (by rw [Dw hn h1 hv h2 (.inr gJ) eK hm,h4])
    (fun j hj hju=>by
     have hne:dw r i≠dw r j:=fun e=>hju (by rw [vj hd hi hj e];simp)
     unfold gM;rw [mY,if_neg fun e=>hne e.2]
     exact h5 j hj fun e=>hju (ZB.2 (.inl e))) (fun h=>by simp at h)
   refine ⟨g1,g2,g3,g4,fun w y hy=>?_,fun w y S hy=>?_⟩
   ·rw [g5 w y hy,mY,if_neg (fun e=>hn.dt y hy (by rw [<- e.2];exact gJ))]
   ·rw [g6 w y S hy,GY hn h1 h2 (.inr gJ) eK (fun e=>hn.dt y hy (by rw [e.2];exact gJ))]
theorem KF {r:Ro} {s d:ByteArray} (hn:oT r) (hd:(cR r).Nodup) (hv:0<=v/\v<r.lv) (o8:jP r po) (hs:s∈cK r) (nA:d∈cy r) (eK:eB po v d=none) {p:List Nat} (dU:(dJ r po v s).ok p) (mf:(dJ r po v s).fin p=k6 r d) :
  jP r (kV r po v s p d)/\qK (kV r po v s p d) v (cK r) d=s/\(∀ w y,y∈cy r->¬(w=v/\y=d)->qK (kV r po v s p d) w (cK r) y=qK po w (cK r) y/\eB (kV r po v s p d) w y=eB po w y):=by
 have a7:s ∉ cR r:=hn.st s hs;have W1:eB po v s=none:=jf.2 fun q hq e=>by
  rcases o8.out q hq with h | h
  ·exact hn.sd s hs (e.2 ▸ h)
  ·exact a7 (e.2 ▸ h)
 obtain ⟨g1,g2,g3,g4,g5,g6⟩:=D9 hn hd hv o8 p [] po s dU (o8.Wk fun h=>absurd h a7) (.inl hs) rfl (uo W1) (fun _ _ _=>rfl) (fun _=>rfl);have H4:eB (ib r v po s p).1 v d=none:=by rw [g5 v d nA,eK]
 have hm:k6 r d=kI r (ib r v po s p).2:=by rw [g3];exact mf.symm
 have hA:=g1.add hn hv g2 (.inl nA) H4 hm;have hV:=hA.val (hn.dt d nA);have TN:=pP (p:=⟨v,d,(ib r v po s p).2⟩) g1.sq g1.out (.inl nA) H4;have mY:=sQ (p:=⟨v,d,(ib r v po s p).2⟩) (jP.one TN) (jP.one g1.sq);refine ⟨hV,?_,fun w y hy hne=>⟨?_,?_⟩⟩
 ·have h9:(eB (eG r ⟨v,d,(ib r v po s p).2⟩ (ib r v po s p).1) v d).isSome=true:=by
   rw [mY,if_pos ⟨I,I⟩];rfl
  have h8:=Aa hn hV h9;unfold kV;rw [h8,Dw hn g1 hv g2 (.inl nA) H4 hm,g4]
 ·unfold kV;rw [GY hn g1 g2 (.inl nA) H4 hne,g6 w y _ hy]
 ·unfold kV;rw [mY,if_neg fun e=>hne ⟨e.1.symm,e.2.symm⟩,g5 w y hy]
theorem LA {g f:Po->Bool}:(po.filter g).filter f=po.filter fun p=>g p&&f p:=by
 rw [ZbA];refine Zbe fun p _=>?_;rw [Bool.and_comm]
theorem Qe {r:Ro} (hn:oT r) (h:jP r po) {g f:Po->Bool} (hg:∀ p∈po,p.ou∈cR r->g p=true)
  (IQ:∀ p∈po.filter g,p.ou∈cy r->f p=true) (H4:∀ p∈po.filter g,∀ q∈po.filter g,f q=true->q.lv=p.lv->q.ip=p.ou->f p=true) (Xk:∀ p∈po.filter g,f p=true->p.ou∈cy r\/∃ q∈po.filter g,f q=true/\q.lv=p.lv/\q.ip=p.ou) :
  jP r ((po.filter g).filter f)/\(∀ v y,y∈cy r->(∀ p∈po,p.lv=v->p.ou=y->g p=true)->eB ((po.filter g).filter f) v y=eB po v y/\qK ((po.filter g).filter f) v (cK r) y=qK po v (cK r) y) /\
  (∀ v y,(∀ p∈po,p.lv=v->p.ou=y->g p=false)->eB ((po.filter g).filter f) v y=none):=by
 have h1:=jP.one h.sq;have hm:∀ p,p∈po.filter g↔p∈po/\g p=true:=fun p=>Zr
 have hk:∀ {p:Po},(g p&&f p)=true↔g p=true/\f p=true:=fun {p}=>Zn _ _ ▸ Iff.rfl
 rw [LA];have fO:∀ q∈po,(g q&&f q)=true->∀ p∈po,p.lv=q.lv->p.ou=q.ip->(g p&&f p)=true:=by
  intro q hq hkq p hp hv ho;obtain ⟨B0,rb⟩:=hk.1 hkq;have ht:p.ou∈cR r:=by
   rcases h.yf q hq with hs | ht
   ·rcases h.out p hp with hd | hd
    ·exact absurd hd (by rw [ho];exact hn.sd _ hs)
    ·exact hd
   ·rw [ho];exact ht
  have bE:=hg p hp ht;exact hk.2 ⟨bE,H4 p ((hm p).2 ⟨hp,bE⟩) q ((hm q).2 ⟨hq,B0⟩) rb hv.symm ho.symm⟩
 refine ⟨jP.filter hn h _ (fun p hp ht q hq hkq hv hi=>fO q hq hkq p hp hv.symm hi.symm) (fun p hp ht hkp=>?_),fun v y hy a7=>?_,fun v y yF=>?_⟩
 ·obtain ⟨B1,PG⟩:=hk.1 hkp;rcases Xk p ((hm p).2 ⟨hp,B1⟩) PG with hd | ⟨q,hq,rb,Rl,hq4⟩
  ·exact absurd ht (hn.dt _ hd)
  ·exact ⟨q,((hm q).1 hq).1,hk.2 ⟨((hm q).1 hq).2,rb⟩,Rl,hq4⟩
 ·have dK:∀ p∈po,p.lv=v->p.ou=y->(g p&&f p)=true:=fun p hp NF o8=>by
   have bE:=a7 p hp NF o8;exact hk.2 ⟨bE,IQ p ((hm p).2 ⟨hp,bE⟩) (by rw [o8];exact hy)⟩
  refine ⟨?_,?_⟩
  ·cases hi:eB po v y with
   | none=>exact jf.2 fun p hp=>jf.1 hi p (Zr.1 hp).1
   | some u =>
    obtain ⟨q,hq,ND,Rh,rfl⟩:=fF hi;have:=lO (h1.filter fun p=>g p&&f p) (Zr.2 ⟨hq,dK q hq ND Rh⟩)
    rwa [ND,Rh] at this
  ·unfold qK iL;rw [xJ (f:=fun p=>g p&&f p) h1 fO dK]
 ·refine jf.2 fun p hp e=>?_;obtain ⟨B1,PG⟩:=Zr.1 hp;have:=yF p B1 e.1 e.2;rw [(hk.1 PG).1] at this;cases this
structure Jb where
 v:Int
 s:ByteArray
 d:ByteArray
def tG (r:Ro) (W:List Po->Jb->Option (List Nat)):List Po->List Jb->Option (List Po)
 | po,[]=>some po
 | po, j :: l => match W po j with
  | none=>none
  | some p=>tG r W (kV r po j.v j.s p j.d) l
theorem AO {r:Ro} {W:List Po->Jb->Option (List Nat)} (hn:oT r) (hd:(cR r).Nodup) (hW:∀ po j p,W po j=some p->(dJ r po j.v j.s).ok p/\(dJ r po j.v j.s).fin p=k6 r j.d) :
  ∀ (l:List Jb) (po qD:List Po),jP r po->(∀ j∈l,(0<=j.v/\j.v<r.lv)/\j.s∈cK r/\j.d∈cy r/\eB po j.v j.d=none)->l.Pairwise (fun a b=>¬(b.v=a.v/\b.d=a.d))->tG r W po l=some qD ->
  jP r qD/\(∀ j∈l,qK qD j.v (cK r) j.d=j.s)/\∀ v y,y∈cy r->(∀ j∈l,¬(v=j.v/\y=j.d))->qK qD v (cK r) y=qK po v (cK r) y/\eB qD v y=eB po v y
 | [], po, qD, hv, _, _, hr => by
  rw [tG] at hr;cases hr;exact ⟨hv,fun j hj=>absurd hj Zp,fun _ _ _ _=>⟨I,I⟩⟩
 | j :: l, po, qD, hv, hj, hp, hr => by
  rw [tG] at hr;cases hw:W po j with
  | none=>rw [hw] at hr;cases hr
  | some p =>
   rw [hw] at hr;obtain ⟨tW,hs,nA,tZ⟩:=hj j Zs;obtain ⟨dU,mf⟩:=hW po j p hw;obtain ⟨hV,hc,ho⟩:=KF hn hd tW hv hs nA tZ dU mf;obtain ⟨B1,PG⟩:=ZaZ.1 hp;obtain ⟨k1,k2,k3⟩:=AO hn hd hW l _ qD hV (fun x hx=>by
    obtain ⟨a1,a2,a3,a4⟩:=hj x (ZP _ hx);exact ⟨a1,a2,a3,by rw [(ho x.v x.d a3 (B1 x hx)).2];exact a4⟩) PG hr
   refine ⟨k1,fun x hx=>?_,fun v y hy hne=>?_⟩
   ·rcases ZT.1 hx with rfl | hx
    ·rw [(k3 x.v x.d nA fun z hz e=>B1 z hz ⟨e.1.symm,e.2.symm⟩).1]
     exact hc
    ·exact k2 x hx
   ·obtain ⟨b1,b2⟩:=k3 v y hy fun z hz=>hne z (ZP _ hz);obtain ⟨c1,c2⟩:=ho v y hy (hne j Zs);exact ⟨b1.trans c1,b2.trans c2⟩
def kA {α:Type} (lt:α->α->Bool):α->List α->α
 | b,[]=>b
 | b,x::l=>kA lt (if lt x b then x else b) l
theorem ng {α:Type} {lt:α->α->Bool} (TL:∀ {a b c},lt a b=true->lt b c=true->lt a c=true) (Vf:∀ {a b},a≠b->lt a b=true\/lt b a=true) (hir:∀ a,lt a a=false) :
  ∀ (l:List α) (b:α),kA lt b l∈b::l/\∀ q∈b::l,lt q (kA lt b l)=false
 | [],b=>⟨Zs,fun q hq=>by
   rcases ZT.1 hq with rfl | hq
   ·exact hir _
   ·exact absurd hq Zp⟩
 | x :: l, b => by
  rw [kA];by_cases hx:lt x b=true
  ·rw [if_pos hx];obtain ⟨h1,h2⟩:=ng (lt:=lt) TL Vf hir l x;refine ⟨ZP _ h1,fun q hq=>?_⟩;rcases ZT.1 hq with rfl | hq
   ·cases hb:lt q (kA lt x l) with
    | false=>rfl
    | true =>
     have:=TL hx hb;rw [h2 x Zs] at this;exact this.symm
   ·exact h2 q hq
  ·rw [if_neg hx];obtain ⟨h1,h2⟩:=ng (lt:=lt) TL Vf hir l b;refine ⟨?_,fun q hq=>?_⟩
   ·rcases ZT.1 h1 with h | h
    ·rw [h];exact Zs
    ·exact ZP _ (ZP _ h)
   ·rcases ZT.1 hq with rfl | hq
    ·exact h2 q Zs
    ·rcases ZT.1 hq with rfl | hq
     ·cases hb:lt q (kA lt b l) with
      | false=>rfl
      | true =>
       by_cases he:q=b
       ·subst he;rw [h2 q Zs] at hb;exact hb.symm
       ·have:=TL ((Vf he).resolve_left hx) hb;rw [h2 b Zs] at this;exact this.symm
     ·exact h2 q (ZP _ hq)
theorem Wn.UP {d:Int} {a:List Nat} {l:List (List Nat)} (h:N.all d (N.n+1) []=a::l):N.least d (kA N.lt a l):=by
 obtain ⟨h1,h2⟩:=ng (lt:=N.lt) (fun {_ _ _}=>N.lt_trans) (fun {_ _}=>N.wN) N.lt_irrefl l a;rw [<- h] at h1 h2;obtain ⟨k1,k2⟩:=Wn.vB N.oz h1;refine ⟨k1,k2,fun q hq hf=>h2 q ?_⟩;exact Wn.BO (p:=[]) (r:=q) hq hf (Nat.lt_succ_of_le (Wn.rG hq))
theorem Wn.all_none {d:Int} (h:N.all d (N.n+1) []=[]) (p:List Nat) (hp:N.ok p):N.fin p≠d:=fun hf=>by
 have:=Wn.BO (p:=[]) (r:=p) (k:=N.n+1) hp hf (Nat.lt_succ_of_le (Wn.rG hp));rw [h] at this;exact absurd this Zp
def HP (f:ByteArray->Int):List ByteArray->List ByteArray->Bool
 | x::a,y::b=>if x=y then HP f a b else decide (f x<f y)
 | _,_=>false
theorem zI {r:Ro} (hd:(cR r).Nodup):∀ {a b:List Nat},(∀ i∈a,i<r.ti.length)->(∀ i∈b,i<r.ti.length)->a.length=b.length->HP (bA (cR r)) (a.map (dw r)) (b.map (dw r))=lexB a b
 | [],[],_,_,_=>rfl
 | i :: a, j :: b, ha, hb, hl => by
  have hi:=ha i Zs;have hj:=hb j Zs;have ih:=zI hd (fun x hx=>ha x (ZP _ hx)) (fun x hx=>hb x (ZP _ hx)) (by simpa using hl) (a:=a) (b:=b)
  rw [Z9,Z9,HP,lexB,ih];by_cases h:i=j
  ·subst h;rw [if_pos I];simp
  ·rw [if_neg fun e=>h (vj hd hi hj e),sW hd hi,sW hd hj]
   by_cases aM:i<j
   ·simp [aM]
   ·simp [aM,h]
def yJ (po:List Po) (v:Int) (l:List ByteArray):Nat:=l.countP fun x=>!gM po v x
theorem zT {r:Ro} (p:List Nat):yJ po v (p.map (dw r))=(dJ r po v s).sV p:=by
 unfold yJ Wn.sV;rw [List.countP_map]
 rfl
def lsN (r:Ro) (po:List Po) (v:Int) (a b:List ByteArray):Bool:=
 if yJ po v a≠yJ po v b then decide (yJ po v a<yJ po v b) else if a.length≠b.length then decide (a.length<b.length) else HP (bA (cR r)) a b
theorem Lr {r:Ro} (hd:(cR r).Nodup) {a b:List Nat} (ha:∀ i∈a,i<r.ti.length) (hb:∀ i∈b,i<r.ti.length):lsN r po v (a.map (dw r)) (b.map (dw r))=(dJ r po v s).lt a b:=by
 unfold lsN Wn.lt;rw [zT (s:=s) a,zT (s:=s) b,Zd,Zd];by_cases h1:(dJ r po v s).sV a=(dJ r po v s).sV b
 ·rw [if_neg (by simp [h1])];by_cases h2:a.length=b.length
  ·rw [if_neg (by simp [h2]),zI hd ha hb h2];simp [h1,h2]
  ·rw [if_pos h2];simp [h1,h2]
 ·rw [if_pos h1];simp [h1]
def U6 (r:Ro) (po:List Po) (v:Int) (s:ByteArray):Bool->Int->List ByteArray->Option Int
 | _,m,[]=>some m
 | b,m,x::l=>if (b&&(gM po v x&&decide (qK po v (cK r) x=s)))||(!gM po v x&&decide (k6 r x=m)) then U6 r po v s false (kI r x) l else none
theorem Jf {r:Ro} {po:List Po} {v:Int} {s:ByteArray} (hn:oT r) (hd:(cR r).Nodup) {m:Int}:∀ (q u:List Nat),(dJ r po v s).ok u->(u++q).Nodup->(∀ i∈q,i<r.ti.length) ->
  (U6 r po v s u.isEmpty ((dJ r po v s).fin u) (q.map (dw r))=some m↔(dJ r po v s).ok (u++q)/\(dJ r po v s).fin (u++q)=m)
 | [], u, hu, _, _ => by
  rw [ZN];show some _=some _↔_;rw [Option.some.injEq];exact ⟨fun h=>⟨hu,h⟩,fun h=>h.2⟩
 | i :: q, u, hu, jq, hq => by
  have hi:=hq i Zs;have e:u++i::q=(u++[i])++q:=by simp
  have hiu:i ∉ u:=fun h=>by
   have:=(ZK.1 jq).2.2 i h i Zs;exact this I
  have hc:u.contains i=false:=by
   cases hx:u.contains i with
   | false=>rfl
   | true=>exact absurd (ZaN.1 hx) hiu
  have fg:(dJ r po v s).step u i=((u.isEmpty&&(gM po v (dw r i)&&decide (qK po v (cK r) (dw r i)=s)))||(!gM po v (dw r i)&&decide (k6 r (dw r i)=(dJ r po v s).fin u))):=by
   unfold Wn.step;rw [hc,A5 hn hd hi];have:decide (i<(dJ r po v s).n)=true:=decide_eq_true hi;rw [this];rfl
  rw [Z9,U6,<- fg];by_cases hs:(dJ r po v s).step u i=true
  ·rw [if_pos hs,e];have TK:=Wn.j4.2 ⟨hu,hs⟩;have ih:=Jf hn hd (m:=m) q (u++[i]) TK (by rw [<- e];exact jq) fun x hx=>hq x (ZP _ hx)
   rw [Wn.mn] at ih;have he:(u++[i]).isEmpty=false:=by simp
   rw [he] at ih;rw [vF hn hd hi];exact ih
  ·rw [if_neg hs];refine ⟨fun h=>(by cases h),fun h=>?_⟩;rw [e] at h;exact absurd (Wn.j4.1 (Wn.wG h.1 (ZaY (u++[i]) q))).2 hs
theorem Wp {r:Ro} (hn:oT r) (hd:(cR r).Nodup) {m:Int} {q:List Nat} (jq:q.Nodup) (hq:∀ i∈q,i<r.ti.length) :
  U6 r po v s true (kI r s) (q.map (dw r))=some m↔(dJ r po v s).ok q/\(dJ r po v s).fin q=m:=
 Jf hn hd q [] (Wn.oz _) jq hq
inductive Wn.Rc (N:Wn):Int->Prop
 | Fu:Wn.Rc N N.Fu
 | ca {i:Nat}:i<N.n->N.ca i=true->Wn.Rc N (N.to i)
 | fe {i:Nat}:i<N.n->N.fe i=true->Wn.Rc N (N.fr i)->Wn.Rc N (N.to i)
theorem zg {k:Nat} (h:k<p.length):p.take (k+1)=p.take k++[p[k]]:=by
 rw [Zm h]
theorem Wn.Gf (h:N.ok p):∀ k,k<=p.length->N.Rc (N.fin (p.take k))
 | 0,_=>by rw [Ze];exact .Fu
 | k + 1, hk => by
  have ih:=Wn.Gf h k (by omega);have hs:=h k (by omega);rw [zg (by omega),Wn.mn];have aM:=Wn.qy hs;unfold Wn.step at hs;simp only [Zn,ZR,decide_eq_true_eq] at hs;rcases hs.2.2 with ⟨_,hc⟩ | ⟨hf,he⟩
  ·exact .ca aM hc
  ·exact .fe aM hf (he ▸ ih)
theorem Wn.V8 (h:N.ok p):N.Rc (N.fin p):=by
 have:=Wn.Gf h p.length (Zz _);rwa [ZO] at this
theorem Wn.Wl {m:Int} (h:N.Rc m):∃ p,N.ok p/\N.fin p=m:=by
 induction h with
 | Fu=>exact ⟨[],N.oz,rfl⟩
 | @ca i hi hc =>
  refine ⟨[]++[i],Wn.j4.2 ⟨N.oz,?_⟩,Wn.mn _ _ _⟩;unfold Wn.step;simp [hi,hc]
 | @fe i hi hf _ ih =>
  obtain ⟨p,hp,he⟩:=ih;by_cases hm:i∈p
  ·obtain ⟨k,hk,rfl⟩:=ZA hm;exact ⟨p.take (k+1),Wn.Gm hp _,by rw [zg hk,Wn.mn]⟩
  ·refine ⟨p++[i],Wn.j4.2 ⟨hp,?_⟩,Wn.mn _ _ _⟩;unfold Wn.step;simp [hi,hf,he,hm]
def Wn.Yl (N:Wn) (S:Int->Prop):Prop:=S N.Fu/\∀ i,i<N.n->(N.ca i=true\/N.fe i=true/\S (N.fr i))->S (N.to i)
theorem Wn.V9 {S:Int->Prop} (h:N.Yl S) {m:Int} (hm:N.Rc m):S m:=by
 induction hm with
 | Fu=>exact h.1
 | ca hi hc=>exact h.2 _ hi (.inl hc)
 | fe hi hf _ ih=>exact h.2 _ hi (.inr ⟨hf,ih⟩)
theorem Wn.OO {S:Int->Prop} (h:N.Yl S) (hS:∀ m,S m->N.Rc m) (m:Int):S m↔N.Rc m:=⟨hS m,Wn.V9 h⟩
theorem M5 {o:ByteArray}:gM po v o=true↔∃ p∈po,p.lv=v/\p.ou=o:=by
 unfold gM;constructor
 ·intro h;obtain ⟨i,hi⟩:=Zag.1 h;obtain ⟨p,hp,h1,h2,_⟩:=fF hi;exact ⟨p,hp,h1,h2⟩
 ·rintro ⟨p,hp,h1,h2⟩;cases hq:eB po v o with
  | some _=>rfl
  | none=>exact absurd ⟨h1,h2⟩ (jf.1 hq p hp)
theorem Qx {po qo:List Po} (h:po.Perm qo) (v:Int) (o:ByteArray):gM po v o=gM qo v o:=by
 rw [ZaW,M5,M5];exact ⟨fun ⟨p,hp,e⟩=>⟨p,h.mem_iff.1 hp,e⟩,fun ⟨p,hp,e⟩=>⟨p,h.mem_iff.2 hp,e⟩⟩
def rW (r:Ro) (v:Int):List Po->ByteArray->List Nat->List Po×ByteArray
 | po,x,[]=>(po,x)
 | po,x,i::p=>rW r v (if gM po v (dw r i) then po else po++[⟨v,dw r i,x⟩]) (dw r i) p
theorem vO {r:Ro} {v:Int}:∀ (q:List Nat) (po qo:List Po) (x:ByteArray),po.Perm qo->(ib r v po x q).1.Perm (rW r v qo x q).1/\(ib r v po x q).2=(rW r v qo x q).2
 | [],po,qo,x,h=>⟨h,rfl⟩
 | i :: q, po, qo, x, h => by
  rw [ib,rW,Qx h v (dw r i)];by_cases hb:gM qo v (dw r i)=true
  ·rw [if_pos hb,if_pos hb];exact vO q po qo _ h
  ·rw [if_neg hb,if_neg hb];exact vO q _ _ _ ((lZ r _ po).trans ((h.cons _).trans (List.perm_append_singleton _ _).symm))
theorem set_perm {r:Ro} {s d:ByteArray}:(kV r po v s p d).Perm ((rW r v po s p).1++[⟨v,d,(rW r v po s p).2⟩]):=by
 obtain ⟨h1,h2⟩:=vO (r:=r) (v:=v) p po po s (List.Perm.refl _);unfold kV;rw [h2];exact (lZ r _ _).trans ((h1.cons _).trans (List.perm_append_singleton _ _).symm)
theorem KE {r:Ro} {po S:List Po} {s d:ByteArray} (hv:(kV r po v s p d).Pairwise (fun a b=>nF r a b=true)) (hS:S.Perm ((rW r v po s p).1++[⟨v,d,(rW r v po s p).2⟩])) (hs:S.Pairwise (fun a b=>¬ nF r b a=true)):S=kV r po v s p d:=by
 have hp:(kV r po v s p d).Perm S:=set_perm.trans hS.symm;have hk:S.Pairwise (fun a b=>nF r a b=true\/nF r b a=true):=(List.Perm.pairwise_iff (fun {_ _} h=>h.symm) hp).1 (hv.imp fun h=>.inl h)
 have a7:S.Pairwise (fun a b=>nF r a b=true):=(List.Pairwise.and hk hs).imp fun h=>h.1.resolve_right h.2
 exact pn (fun a b h=>HM a b h) a7 hv hp.symm
end Go.Proofs.A1
namespace Go.SL
open Go
def ql (P:Program) (c:Cx) (sl:aL) (hs:List bd) (o:Oper) (V:Nat->Value) (ob:Obj):Prop:=
 (∀ d,o.op≠.defer d)/\∀ a w,bU sl a->Mem c hs w->(execOp a.eval o).run P w=.ok (.value (V w.heap.size)) (w.alloc ob)
section
variable {P:Program} {r:Option Nat} {c:Cx} {D:List Nat} {sl:aL} {hs hs':List bd} {ops:Array Oper} {Q:Exit->Act->World->Prop} {d:Nat} {dst:Option Tmp} {op:Op} {ty:TypeId} {pos:String} {af:Array Edge} {g:Option (Nat×Bool)} {rest:List Oper}
variable {As:List bd} {R:Ending->World->Prop} {V:Nat->Value} {agg:Bool} {args:List Value} {b:Nat} {cs:List Value} {f:FuncId} {n:Nat} {ob:Obj} {places:List (Nat×Nat)} {vs:List Value} {x:Operand} {xs:List (Nat×Operand)} {z:Value}
theorem a8 
  (hr:ql P c sl hs ⟨some d,op,ty,pos,af,none⟩ V ob) (hd:Nat.blt d c.nt=true) (k:∀ b,c.w0.heap.size<=b->Tr c D ((d,V b)::sl) (bz b ob::hs) (WL P r ops Q rest)) :
  Tr c D sl hs (WL P r ops Q (⟨some d,op,ty,pos,af,none⟩::rest)):=fun a w a7=>by
 refine nH I ⟨dT _ _ _ _ _,?_⟩;rw [Oper.semAt_eq _ _ _ hr.1,hr.2 a w a7.dj a7.qS];have h1:=(a7.put (by simpa [Z4] using hd) (V w.heap.size));exact k w.heap.size a7.qS.keeps.size _ _ (h1.heap (a7.mem.alloc ob))
theorem Ex {t:TypeId} {v:Value} (hx:Is sl x v) (hc:v.cells=cs.toArray):ql P c sl hs ⟨dst,.box t x,ty,pos,af,g⟩ (fun b=>.p b) (.cells cs.toArray t):=
 ⟨by simp,fun a w ha _=>by simp [execOp,hx a ha,Instr.box,newVar,newRow,hc]⟩
theorem kZ {t:TypeId} [mL P t z] (hc:z.cells=cs.toArray):ql P c sl hs ⟨dst,.alloc t,ty,pos,af,g⟩ (fun b=>.p b) (.cells cs.toArray t):=
 ⟨by simp,fun a w _ _=>by simp [execOp,Instr.alloc,jm (t:=t) (v:=z),newVar,newRow,hc]⟩
theorem Ev {t:TypeId}:ql P c sl hs ⟨dst,.makeMap t none,ty,pos,af,g⟩ (fun b=>.map (some b)) (.map #[] 0):=
 ⟨by simp,fun a w _ _=>by simp [execOp,Instr.makeMap]⟩
theorem kP {t:TypeId} {parts:Array (Nat×Operand)} {ps:Array (Nat×Value)}
  (hp:∀ a,bU sl a->(parts.map fun (i,x)=>(i,a.eval x))=ps) (hb:∀ w,(Instr.buildSlice t n ps).run P w=.ok (V w.heap.size) (w.alloc ob)) :
  ql P c sl hs ⟨dst,.buildSlice t n parts,ty,pos,af,g⟩ V ob:=
 ⟨by simp,fun a w ha _=>by simp only [execOp,hp a ha,Sem.run_bind,hb w,Result.andThen_ok,Sem.run_pure]⟩
def wE (vs:List Value):Array (Nat×Value):=(vs.zipIdx.map fun (v,i)=>(i,v)).toArray
theorem zX:∀ (vs:List Value) (k:Nat) (acc:List Value),(∀ v∈vs,v.oneCell'=true)->k+vs.length<=acc.length ->
  Instr.fill (fun i=>some (i*1,1)) acc.toArray ((vs.zipIdx k).map fun (v,i)=>(i,v))=some (acc.take k++vs++acc.drop (k+vs.length)).toArray
 | [],k,acc,_,_=>by simp [Instr.fill]
 | v :: vs, k, acc, h1, h2 => by
  have hv:=h1 v (by simp);have hc:v.cells=#[v]:=by cases v <;> simp_all [Value.cells,Value.oneCell']
  simp only [ZE] at h2;have e:Array.foldl (fun cs (x:Value×Nat)=>cs.setIfInBounds (k*1+x.2) x.1) acc.toArray #[v].zipIdx=(acc.set k v).toArray:=by
   simp
  simp only [List.zipIdx_cons,Z9,Instr.fill,hc];rw [if_neg (by simp;omega)];simp only [e];rw [zX vs (k+1) (acc.set k v) (fun u hu=>h1 u (by simp [hu])) (by simp;omega)]
  congr 1;have hk:k<acc.length:=by omega
  simp only [ZE,Zh,Zb];rw [List.take_set,List.drop_set_of_lt (by omega)];rw [show k+1+vs.length=k+(vs.length+1) from by omega];congr 1;rw [Zm hk];rw [List.set_append_right _ _ (by simp;omega)];simp [Zbf (Nat.le_of_lt hk)]
theorem wx {t e:TypeId} [hu:jw P t (.slice e)] [Ty P e false 1] [mL P e z] {vs:List Value} (hl:vs.length=n) (hn:n<=1000) (hz:z.oneCell'=true) (hv:∀ v∈vs,v.oneCell'=true) (w:World) :
  (Instr.buildSlice t n (wE vs)).run P w=.ok (.slice (some ⟨w.heap.size,0,none⟩) n n) (w.alloc (.cells vs.toArray e)):=by
 have hzc:z.cells=#[z]:=by cases z <;> simp_all [Value.cells,Value.oneCell']
 unfold Instr.buildSlice;simp only [Sem.run_bind,aX hu.eq,Result.andThen_ok,gl (t:=e) (agg:=false) (n:=1),Zav];rw [if_neg (by omega)];have hf:∀ (zz:Array Value),zz.size=n->Instr.fill (fun i=>some (i,1)) zz (wE vs).toList=some vs.toArray:=by
  intro zz YD;have:=zX vs 0 zz.toList hv (by simp [hl,YD]);simp only [Zbb,Zav] at this;simp only [wE];rw [this];simp [hl,YD]
 by_cases h0:n=0
 ·subst h0;simp only [if_true,Sem.run_bind,Sem.run_pure,Result.andThen_ok];rw [hf _ (by simp)];simp [newRow]
 ·rw [if_neg h0];simp only [Sem.run_bind,jm (t:=e) (v:=z),Result.andThen_ok,Sem.run_pure,hzc];rw [hf _ (by simp)];simp [newRow]
def setCells:List Value->Nat->List Value->List Value
 | cs,_,[]=>cs
 | cs,o,v::vs=>setCells (cs.set o v) (o+1) vs
theorem lq:∀ (vs:List Value) (cs:List Value) (o:Nat),(setCells cs o vs).length=cs.length
 | [],_,_=>rfl
 | v::vs,cs,o=>by simp [setCells,lq vs]
def setBlock (w:World) (b:Nat) (ob:Obj):World:={ w with heap:=w.heap.setIfInBounds b ob }
theorem aJ.setBlock (w:World) (b:Nat) (ob:Obj):aJ [b] w (setBlock w b ob):=
 ⟨I,I,I,Zz _,by simp [SL.setBlock],fun k hk hm=>by
  have:b≠k:=fun e=>hm (by simp [e])
  simp [SL.setBlock,ZF this]⟩
theorem nn {w:World} (h:b<w.heap.size):(setBlock w b ob).heap[b]? = some ob:=by simp [setBlock,h]
theorem vb {w:World} {cs:Array Value} {E:TypeId} (h:w.heap[b]? = some (.cells cs E (0,0))) (o:Nat):w.frozen? ⟨b,o,none⟩=false:=by
 simp [World.frozen?,h]
theorem yt {w:World} {E:TypeId} (h:w.heap[b]? = some (.cells cs.toArray E (0,0))) (o:Nat) (v:Value):w.setCell ⟨b,o,none⟩ v=setBlock w b (.cells (cs.set o v).toArray E (0,0)):=by
 unfold World.setCell setBlock;congr 1;apply Array.ext_getElem?;intro k;rw [Zbo];by_cases hk:b=k
 ·subst hk;have:=lg (w:=w) h;rw [if_pos I,h,Array.getElem?_setIfInBounds_self_of_lt this];simp
 ·rw [if_neg hk,ZF hk]
theorem jS {b o:Nat} {E:TypeId}:∀ (vs:List Value) (i:Nat) (cs:List Value) (w:World),w.heap[b]? = some (.cells cs.toArray E (0,0))->(∀ v∈vs,v.oneCell'=true)->o+i+vs.length<=cs.length ->
  ∃ w',(storeCells ⟨b,o,none⟩ vs i).run P w=.ok () w'/\aJ [b] w w'/\w'.heap[b]? = some (.cells (setCells cs (o+i) vs).toArray E (0,0))
 | [],i,cs,w,h,_,_=>⟨w,rfl,.refl _ _,h⟩
 | v :: vs, i, cs, w, h, h1, h2 => by
  simp only [ZE] at h2;have aM:=lg (w:=w) h;have a7:(store (Addr.add ⟨b,o,none⟩ i) v).run P w=.ok () (setBlock w b (.cells (cs.set (o+i) v).toArray E (0,0))):=by
   rw [eJ,run_store P w _ v .plain (h1 v (by simp)),cell_of_block h];have:(cs.toArray)[o+i]? = some (cs[o+i]'(by omega)):=by simp
   rw [this];simp only [vb h,ZaX,if_false,yt h]
  obtain ⟨w',h3,h4,h5⟩:=jS (o:=o) vs (i+1) (cs.set (o+i) v) (setBlock w b (.cells (cs.set (o+i) v).toArray E (0,0))) (nn aM) (fun u hu=>h1 u (by simp [hu])) (by simp;omega);refine ⟨w',?_,(aJ.setBlock w b _).trans h4,by rw [h5];rfl⟩;simp only [storeCells,Sem.run_bind,a7,Result.andThen_ok,h3]
theorem CG {t:TypeId} [Ty P t agg n] {b o:Nat} {E:TypeId} {v:Value} {vs cs:List Value} {w:World} (h:w.heap[b]? = some (.cells cs.toArray E (0,0))) (hv:v.cells=vs.toArray) (hl:vs.length=n)
  (h1:∀ u∈vs,u.oneCell'=true) (h2:o+n<=cs.length) :
  ∃ w',(storeVar t ⟨b,o,none⟩ v).run P w=.ok () w'/\aJ [b] w w'/\w'.heap[b]? = some (.cells (setCells cs o vs).toArray E (0,0)):=by
 obtain ⟨w',h3,h4,h5⟩:=jS (P:=P) (o:=o) vs 0 cs w h h1 (by omega);refine ⟨w',?_,h4,h5⟩;unfold storeVar;rw [Sem.run_bind,gl (t:=t) (agg:=agg) (n:=n),Result.andThen_ok,if_neg (by simp [hv,hl])];simpa [hv] using h3
theorem ao {t:TypeId} [Ty P t agg n] {x y:Operand} {b o:Nat} {E:TypeId} {v:Value} {vs cs R1:List Value} (hx:Is sl x (.pointer (some ⟨b,o,none⟩))) (hy:Is sl y v)
  (ht:Take hs (bz b (.cells cs.toArray E (0,0))) hs') (hv:v.cells=vs.toArray) (hl:vs.length=n) (h1:∀ u∈vs,u.oneCell'=true) (h2:o+n<=cs.length) (he:setCells cs o vs=R1)
  (k:Tr c D sl (bz b (.cells R1.toArray E (0,0))::hs') (WL P r ops Q rest)) :
  Tr c D sl hs (WL P r ops Q (⟨none,.store t x y,ty,pos,af,none⟩::rest)):=fun a w a7=>by
 subst he;have hm:=a7.mem.take (ht.append _);obtain ⟨w',h3,h4,h5⟩:=CG (P:=P) (t:=t) (o:=o) (hm.bz .here) hv hl h1 h2;refine nH I ⟨dT _ _ _ _ _,?_⟩;rw [Oper.semAt_eq _ _ _ (by simp)];have:(execOp a.eval ⟨none,.store t x y,ty,pos,af,none⟩).run P w=.ok .skip w':=by
  simp [execOp,hx a a7.dj,hy a a7.dj,Instr.storeAt,Instr.sureAddr,h3]
 rw [this];exact k _ _ (a7.heap (Mem.store hm h4 h5))
theorem Dt (off:Nat):∀ (vs:List Value) (k:Nat) (cs:List Value),(vs.zipIdx k).foldl (fun (cs:Array Value) (x:Value×Nat)=>cs.setIfInBounds (off+x.2) x.1) cs.toArray=(setCells cs (off+k) vs).toArray
 | [],_,_=>rfl
 | v :: vs, k, cs => by
  simp only [List.zipIdx_cons,List.foldl_cons,List.setIfInBounds_toArray,setCells];exact Dt off vs (k+1) (cs.set (off+k) v)
def uV (places:List (Nat×Nat)):List Value->List (Nat×Value)->Option (List Value)
 | cs,[]=>some cs
 | cs, (i, v) :: rest =>
  match places[i]? with
  | some (off,size)=>if v.cells.size=size/\off+size<=cs.length then uV places (setCells cs off v.cells.toList) rest else none
  | none=>none
theorem fill_eq {places:List (Nat×Nat)} {f:Nat->Option (Nat×Nat)} (hf:∀ i x,places[i]? = some x->f i=some x):∀ (ps:List (Nat×Value)) (cs R1:List Value),uV places cs ps=some R1->Instr.fill f cs.toArray ps=some R1.toArray
 | [],cs,R1,h=>by simp only [uV,Option.some.injEq] at h;simp [Instr.fill,h]
 | (i, v) :: rest, cs, R1, h => by
  unfold uV at h;split at h
  ·rename_i off size hp;split at h
   ·rename_i hc;have h2:=fill_eq hf rest _ _ h;unfold Instr.fill;simp only [hf i _ hp];rw [if_neg (by simp [hc.1];omega)];rw [<- h2];congr 1;have:=Dt off v.cells.toList 0 cs;simp only [Zaz] at this;rw [<- this,<- Array.foldl_toList];simp
   ·cases h
  ·cases h
def Ab (P:Program) (t:TypeId):Option (List (Nat×Nat)×List Value):=
 match P.underlying t,P.info? t with
 | some (.struct fs), some i => match i.zero, fs.toList.mapM (fun f => (P.info? f.type).map fun j => (f.offset, j.size)) with
  | some z,some ps=>some (ps,z.cells.toList)
  | _,_=>none
 | some (.array n e), some i => match i.zero, P.info? e with
  | some z,some j=>some ((List.range n).map (fun k=>(k*j.size,j.size)),z.cells.toList)
  | _,_=>none
 | _,_=>none
class DU (P:Program) (t:TypeId) (ps:outParam (List (Nat×Nat))) (z:outParam (List Value)):Prop where
 eq:Ab P t=some (ps,z)
theorem wL {w:World}:∀ (fs:List Field) (ps:List (Nat×Nat)),fs.mapM (fun f=>(P.info? f.type).map fun j=>(f.offset,j.size))=some ps ->
  (fs.mapM (fun (f:Field)=>(do pure (f.offset,<- sizeOf f.type):Sem (Nat×Nat)))).run P w=.ok ps w
 | [],ps,h=>by simp at h;simp [h]
 | f :: fs, ps, h => by
  simp only [List.mapM_cons,Option.bind_eq_bind,Option.bind_eq_some_iff,Zaq,Option.pure_def,Option.some.injEq] at h;obtain ⟨_,⟨j,hj,rfl⟩,qs,hq,rfl⟩:=h;have:=wL (w:=w) fs qs hq;have hsz:(sizeOf f.type).run P w=.ok j.size w:=by simp [sizeOf,gz hj]
  rw [List.mapM_cons];simp only [Sem.run_bind,hsz,Result.andThen_ok,Sem.run_pure,this]
theorem HC {t:TypeId} {z cs:List Value} [h:DU P t places z] {ps:List (Nat×Value)} (hf:uV places z ps=some cs) (w:World):(Instr.build t ps.toArray).run P w=.ok (.agg cs.toArray) w:=by
 have h0:=h.eq;unfold Ab at h0;split at h0
 ·rename_i fs i hu hi;split at h0
  ·rename_i zz qs hz hq;simp only [Option.some.injEq,Prod.mk.injEq] at h0;obtain ⟨rfl,rfl⟩:=h0;have h1:(zeroValue t).run P w=.ok zz w:=by simp [zeroValue,gz hi,hz]
   have h2:(fs.mapM (fun (f:Field)=>(do pure (f.offset,<- sizeOf f.type):Sem (Nat×Nat)))).run P w=.ok qs.toArray w:=by
    have:=wL (P:=P) (w:=w) fs.toList qs hq;rw [<- Zbb (xs:=fs),List.mapM_toArray,Sem.run_map,this]
    rfl
   have h3:=fill_eq (f:=fun i=>qs.toArray[i]?) (fun i x hx=>by simpa using hx) ps zz.cells.toList cs hf
   unfold Instr.build;simp only [Sem.run_bind,h1,Result.andThen_ok,aX hu,h2];simp only [Zbb] at h3;rw [h3]
   rfl
  ·cases h0
 ·rename_i n e i hu hi;split at h0
  ·rename_i zz j hz hj;simp only [Option.some.injEq,Prod.mk.injEq] at h0;obtain ⟨rfl,rfl⟩:=h0;have h1:(zeroValue t).run P w=.ok zz w:=by simp [zeroValue,gz hi,hz]
   have h2:(sizeOf e).run P w=.ok j.size w:=by simp [sizeOf,gz hj]
   have h3:=fill_eq (f:=fun i=>some (i*j.size,j.size)) (fun i x hx=>by
    rw [ZI] at hx;obtain ⟨y,hy,rfl⟩:=Zaq.1 hx;have:=Zl.1 hy;obtain ⟨aM,he⟩:=this;simp at he;rw [he]) ps zz.cells.toList cs hf
   unfold Instr.build;simp only [Sem.run_bind,h1,Result.andThen_ok,aX hu,h2];simp only [Zbb] at h3;rw [h3]
   rfl
  ·cases h0
 ·cases h0
inductive xS (sl:aL):List (Nat×Operand)->List (Nat×Value)->Prop
 | nil:xS sl [] []
 | cons {i:Nat} {x:Operand} {xs:List (Nat×Operand)} {v:Value} {vs:List (Nat×Value)} (h:Is sl x v) (t:xS sl xs vs):xS sl ((i,x)::xs) ((i,v)::vs)
theorem xS.map {vs:List (Nat×Value)} (h:xS sl xs vs) {a:Act} (ha:bU sl a):(xs.map fun (i,x)=>(i,a.eval x))=vs:=by
 induction h with
 | nil=>rfl
 | cons h _ ih=>simp [h a ha];simpa using ih
theorem aU {t:TypeId} {ps:List (Nat×Value)} {z cs:List Value} [DU P t places z] (hp:xS sl xs ps) (hf:uV places z ps=some cs) :
  du P c sl hs ⟨dst,.build t xs.toArray,ty,pos,af,g⟩ (.agg cs.toArray):=
 KN (ps:=ps.toArray) (fun a ha=>by simp [<- hp.map ha]) (fun w=>HC hf w)
inductive uy (sl:aL):Nat->List (Nat×Operand)->List Value->Prop
 | nil {i:Nat}:uy sl i [] []
 | cons {i:Nat} {x:Operand} {xs:List (Nat×Operand)} {v:Value} {vs:List Value} (h:Is sl x v) (t:uy sl (i+1) xs vs):uy sl i ((i,x)::xs) (v::vs)
theorem uy.map {i:Nat} (h:uy sl i xs vs) {a:Act} (ha:bU sl a):(xs.map fun (i,x)=>(i,a.eval x))=(vs.zipIdx i).map fun (v,i)=>(i,v):=by
 induction h with
 | nil=>rfl
 | cons h _ ih=>simp [h a ha];simpa using ih
theorem aD {t e:TypeId} [hu:jw P t (.slice e)] [Ty P e false 1] [mL P e z] (hp:uy sl 0 xs vs)
  (hl:vs.length=n) (hn:Nat.ble n 1000=true) (hz:z.oneCell'=true) (h1:vs.all Value.oneCell'=true) :
  ql P c sl hs ⟨dst,.buildSlice t n xs.toArray,ty,pos,af,g⟩ (fun b=>.w b n n) (.cells vs.toArray e):=
 kP (ps:=wE vs) (fun a ha=>by simp only [wE,<- hp.map ha];simp) (fun w=>wx hl (by simpa using hn) hz (by simpa [Zad] using h1) w)
class bV (P:Program) (f:FuncId):Prop where
 eq:((P.funcs[f]?).map fun fn=>(fn.name == "runtime.NumGoroutine" || fn.body.isNone))=some false
theorem uD [h:bV P f] (args:Array Value) (w:World):(callFunc f args).run P w=.ok (.enter f args) w:=by
 have:=h.eq;cases hf:P.funcs[f]? with
 | none=>rw [hf] at this;cases this
 | some fn =>
  rw [hf] at this;simp only [Zbp,Option.some.injEq,Bool.or_eq_false_iff] at this;obtain ⟨h1,h2⟩:=this;simp only [callFunc,Sem.run_bind,run_program,Result.andThen_ok,hf,h1,h2]
  rfl
inductive IA (sl:aL):List Operand->List Value->Prop
 | nil:IA sl [] []
 | cons {x:Operand} {xs:List Operand} {v:Value} {vs:List Value} (h:Is sl x v) (t:IA sl xs vs):IA sl (x::xs) (v::vs)
theorem IA.map {sl:aL} {xs:List Operand} (h:IA sl xs vs) {a:Act} (ha:bU sl a):xs.map a.eval=vs:=by
 induction h with
 | nil=>rfl
 | cons h _ ih=>simp [h a ha,ih]
def mM (P:Program) (sl:aL) (o:Oper) (f:FuncId) (args:List Value):Prop:=
 (∀ d,o.op≠.defer d)/\∀ a w,bU sl a->(execOp a.eval o).run P w=.ok (.enter f args.toArray) w
theorem bj {xs:List Operand} {ts:Array TypeId} {first vs cap args:List Value} (hx:Is sl x (.func (.func f) first.toArray cap.toArray)) (ha:IA sl xs vs) (hb:bV P f) (he:first++vs++cap=args) :
  mM P sl ⟨dst,.call ⟨.value x,xs.toArray,ts⟩,ty,pos,af,g⟩ f args:=
 ⟨by simp,fun a w hs=>by
  subst he;have h1:=ha.map hs;simp only [execOp,resolve,hx a hs,Deferred.ofValue,Sem.run_bind,Sem.run_pure,Result.andThen_ok,invoke,List.map_toArray,h1,List.append_toArray];exact uD (h:=hb) _ _⟩
theorem bD {f:Fn} {xs ys:List Operand} {vs us:List Value} (h1:IA sl xs vs) (h2:IA sl ys us) :
  du P c sl hs ⟨dst,.makeFunc f xs.toArray ys.toArray,ty,pos,af,g⟩ (.func f vs.toArray us.toArray):=
 CM (fun a ha=>by simp [h1.map ha]) (fun a ha=>by simp [h2.map ha])
def bh (P:Program) (f:FuncId) (args:List Value) (w:World) (md:List Nat) {ι:Type} (Φ:ι->Prop) (val:ι->Value) (own:ι->List bd):Prop:=
 Calls P f args.toArray w fun e w'=>∃ x,e=.returned (val x)/\Φ x/\aJ md w w'/\∃ fp:List Nat,fp.Nodup/\cr (hp w') (own x) fp/\∀ b∈fp,b∈md\/w.heap.size<=b
def ak (P:Program) (f:FuncId) (args:List Value) (w:World) (V:Value):Prop:=
 Calls P f args.toArray w fun e w'=>e=.returned V/\aJ [] w w'
theorem iA {args:Array Value} {w:World} (h:Calls P f args w R):CallsIn (FR r) n P f args w R:=
 (callsIn_wide (n:=n)).2 h
theorem Ak {o:Oper} {a:Act} {w:World} (hg:o.guard=none) (hr:mM P sl o f args) (hs:bU sl a) (hc:Calls P f args.toArray w R)
  (k:∀ e w',R e w'->∃ v,e=.returned v/\WL P r ops Q rest (a.put o.dst v) w'):WL P r ops Q (o::rest) a w:=by
 refine nH hg ⟨dT _ _ _ _ _,?_⟩;rw [Oper.semAt_eq _ _ _ hr.1,hr.2 a w hs];refine ⟨by simp [FR,Fence.wide],(iA hc).mono fun e w' h=>?_⟩;obtain ⟨v,rfl,hk⟩:=k e w' h;exact hk
theorem aj {V:Value} (hr:mM P sl ⟨some d,op,ty,pos,af,none⟩ f args) (hd:Nat.blt d c.nt=true) (hc:∀ w,Mem c hs w->ak P f args w V)
  (k:Tr c D ((d,V)::sl) hs (WL P r ops Q rest)):Tr c D sl hs (WL P r ops Q (⟨some d,op,ty,pos,af,none⟩::rest)):=fun a w a7=>
 Ak I hr a7.dj (hc w a7.qS) fun e w' ⟨he,hk⟩=>⟨V,he,k _ _ ((a7.put (by simpa [Z4] using hd) V).heap (a7.mem.sP hk))⟩
inductive bC:List bd->List bd->List bd->Prop
 | nil {hs:List bd}:bC hs [] hs
 | cons {hs h1 h2:List bd} {A:bd} {As:List bd} (h:Take hs A h1) (t:bC h1 As h2):bC hs (A::As) h2
theorem bC.h1 {A:bd} {r s t:List bd} (h:bC r s t):bC (A::r) (A::s) t:=.cons .here h
theorem bC.h2 {A B:bd} {r s t:List bd} (h:bC r s t):bC (A::B::r) (A::B::s) t:=.cons .here (.h1 h)
theorem bC.h3 {A B C:bd} {r s t:List bd} (h:bC r s t):bC (A::B::C::r) (A::B::C::s) t:=.cons .here (.h2 h)
theorem bC.h4 {A B C E:bd} {r s t:List bd} (h:bC r s t):bC (A::B::C::E::r) (A::B::C::E::s) t:=.cons .here (.h3 h)
theorem bC.h5 {A B C E F:bd} {r s t:List bd} (h:bC r s t):bC (A::B::C::E::F::r) (A::B::C::E::F::s) t:=.cons .here (.h4 h)
theorem bC.h6 {A B C E F G:bd} {r s t:List bd} (h:bC r s t):bC (A::B::C::E::F::G::r) (A::B::C::E::F::G::s) t:=.cons .here (.h5 h)
theorem bC.h7 {A B C E F G J:bd} {r s t:List bd} (h:bC r s t):bC (A::B::C::E::F::G::J::r) (A::B::C::E::F::G::J::s) t:=.cons .here (.h6 h)
theorem bC.h8 {A B C E F G J K:bd} {r s t:List bd} (h:bC r s t):bC (A::B::C::E::F::G::J::K::r) (A::B::C::E::F::G::J::K::s) t:=.cons .here (.h7 h)
theorem cr.jR {h:Nat->Option Obj} {hs As hs':List bd} (ht:bC hs As hs'):∀ {fp:List Nat},cr h hs fp->∃ f1 f2,cr h As f1/\cr h hs' f2/\fp.Perm (f1++f2):=by
 induction ht with
 | nil=>intro fp hf;exact ⟨[],fp,rfl,hf,.refl _⟩
 | cons h _ ih =>
  intro fp hf;obtain ⟨f1,f2,h1,h2,hp⟩:=hf.take h;obtain ⟨g1,g2,h3,h4,hq⟩:=ih h2;exact ⟨f1++g1,g2,⟨f1,g1,I,h1,h3⟩,h4,hp.trans (by rw [Zh];exact hq.append_left f1)⟩
theorem Mem.jR {w:World} (h:Mem c hs w) (ht:bC hs As hs'):Mem c (As++hs') w:=by
 obtain ⟨k,fp,hn,hs,hb⟩:=h;obtain ⟨f1,f2,h1,h2,hp⟩:=hs.jR ht;exact ⟨k,f1++f2,hp.nodup_iff.1 hn,cr.append_iff.2 ⟨f1,f2,I,h1,h2⟩,fun b dM=>hb b (hp.mem_iff.2 dM)⟩
theorem bC.append (h:bC hs As hs') (m:List bd):bC (hs++m) As (hs'++m):=by
 induction h with
 | nil=>exact .nil
 | cons h _ ih=>exact .cons (h.append m) ih
theorem Mem.RF {As Bs:List bd} {w w':World} (hm:Mem c (As++hs') w)
  (hs0:∀ fp,fp.Nodup->cr (hp w) As fp->aJ fp w w'/\∃ mH:List Nat,mH.Nodup/\cr (hp w') Bs mH/\∀ b∈mH,b∈fp\/w.heap.size<=b):Mem c (Bs++hs') w':=Mem.change hm hs0
theorem jZ {ι:Type} {Φ:ι->Prop} {val:ι->Value} {own:ι->List bd} (hr:mM P sl ⟨some d,op,ty,pos,af,none⟩ f args) (hd:Nat.blt d c.nt=true) (ht:bC hs As hs')
  (hc:∀ w fp,Mem c hs w->fp.Nodup->cr (hp w) As fp->bh P f args w fp Φ val own)
  (k:∀ x,Φ x->Tr c D ((d,val x)::sl) (own x++hs') (WL P r ops Q rest)):Tr c D sl hs (WL P r ops Q (⟨some d,op,ty,pos,af,none⟩::rest)):=fun a w a7=>by
 have hm:=a7.mem.jR (ht.append (nE D));obtain ⟨kk,fp,hn,iv,hb⟩:=hm;obtain ⟨f1,f2,rfl,h1,h2⟩:=cr.append_iff.1 iv;refine Ak I hr a7.dj (hc w f1 a7.qS (ZK.1 hn).1 h1) fun e w' ⟨x,he,hx,hk,mH,uR,hs',zQ⟩=>⟨val x,he,k x hx _ _ ((a7.put (by simpa [Z4] using hd) (val x)).heap ?_)⟩;obtain ⟨n1,n2,n12⟩:=ZK.1 hn;have aM:∀ b∈f2,b<w.heap.size:=fun b dM=>let ⟨o,ho⟩:=h2.own b dM;lg ho
 rw [Zh];refine ⟨?_,mH++f2,?_,cr.append_iff.2 ⟨mH,f2,I,hs',h2.loc fun b dM=>?_⟩,?_⟩
 ·refine ⟨hk.os.trans kk.os,hk.tape.trans kk.tape,hk.output.trans kk.output,ZS kk.dr hk.dr,ZS kk.size hk.size,fun b dM hm=>?_⟩;rw [<- kk.block b dM hm];refine hk.block b (ZaO dM kk.size) (fun hf=>?_);rcases hb b (ZJ _ hf) with h | h
  ·omega
  ·exact hm h
 ·refine ZK.2 ⟨uR,n2,fun x hx y hy e=>?_⟩;subst e;rcases zQ x hx with h | h
  ·exact n12 x h x hy I
  ·have:=aM x hy;omega
 ·exact hk.block b (aM b dM) (fun hf=>n12 b hf b dM I)
 ·intro b dM;rcases ZB.1 dM with h | h
  ·rcases zQ b h with h | h
   ·exact hb b (ZJ _ h)
   ·exact .inl (ZS kk.size h)
  ·exact hb b (ZW _ h)
def kC:Nat->List Value->aL
 | _,[]=>[]
 | i,v::vs=>(i,v)::kC (i+1) vs
theorem q5:∀ (vs:List Value) (i t:Nat) (v:Value),c5 (kC i vs) t=some v->∃ j,t=i+j/\vs[j]? = some v
 | [],_,_,_,h=>by simp [kC,c5] at h
 | u :: us, i, t, v, h => by
  by_cases hit:i=t
  ·subst hit;rw [kC,gy] at h;exact ⟨0,I,by simpa using h⟩
  ·rw [kC,gr hit] at h;obtain ⟨j,e,hj⟩:=q5 us (i+1) t v h;exact ⟨j+1,by omega,by simpa using hj⟩
theorem qj {fn:Func} {code:Code} {w:World} {md:List Nat} {hs0:List bd} (hf:P.funcs[f]? = some fn) (hb:fn.body=some code) (hl:args.length<=fn.ntmps)
  (h0:∃ fp:List Nat,fp.Nodup/\cr (hp w) hs0 fp/\∀ b∈fp,b∈md)
  (h:Tr ⟨w,md,fn.ntmps⟩ [] (kC 0 args) hs0 (WP P none code (bodyPostM (FR none) 0 P fn R))):Calls P f args.toArray w R:=by
 have hc:=callsIn_of_wp_marks (F:=FR none) (n:=0) (P:=P) (f:=f) (R:=R) (w:=w) (args:=args.toArray) hf hb trivial
  (h { tmps:=args.toArray++Array.replicate (fn.ntmps-args.toArray.size) undef,defers:=[] } w ⟨⟨.refl _ _,?_⟩,?_,?_,I⟩)
 ·exact (callsIn_wide (n:=0)).1 hc
 ·obtain ⟨fp,hn,iv,hm⟩:=h0;exact ⟨fp,hn,by simpa [nE] using iv,fun b dM=>.inr (hm b dM)⟩
 ·intro t v hv;obtain ⟨j,e,hj⟩:=q5 args 0 t v hv;have:t=j:=by omega
  subst this;obtain ⟨aM,oe⟩:=Zl.1 hj;simp [Array.getElem?_append,aM,oe]
 ·simp;omega
end
end Go.SL
namespace Go.SL
open Go
structure Rel where
 p:Value->World->Prop
 st:∀ {v:Value} {w w':World},p v w->aJ [] w w'->p v w'
def Rel.val (V:Value):Rel:=⟨fun v _=>v=V,fun h _=>h⟩
abbrev fu:=List (Nat×Rel)
def BV (T:List Nat) (rl:fu) (a:Act) (w:World):Prop:=∀ d R,(d,R)∈rl->d∈T->∃ v,a.tmps[d]? = some v/\R.p v w
def yP (P:Program) (o:Oper) (a:Act) (w:World) (R:Rel):Prop:=
 match (execOp a.eval o).run P w with
 | .ok (.value v) w'=>aJ [] w w'/\R.p v w'
 | .ok (.enter f args) w'=>w'=w/\Calls P f args w (fun e vP=>∃ v,e=.returned v/\aJ [] w vP/\R.p v vP)
 | _=>False
def uZ (P:Program) (c:Cx) (hs:List bd) (ops:Array Oper) (sl:aL) (rl:fu) (o:Oper) (R:Rel):Prop:=
 ∀ a w,bU sl a->BV (o.looksAt ops) rl a w->Mem c hs w->if Region.wanted o (yielded ops a.tmps) then yP P o a w R else R.p undef w
def NO (e:Edge):Bool:=Region.binds .any e
def nw (o:Oper):Bool:=match o.op with | .select ..=>false | .defer _=>false | _=>true
def eO (o:Oper) (i:Nat):Bool:=o.after.toList.any fun e=>NO e&&Nat.beq e.on i
def has (l:List Nat) (t:Nat):Bool:=l.any (Nat.beq t)
theorem GC {l:List Nat} {t:Nat}:has l t=true↔t∈l:=by
 simp [has,ZQ]
def rE (ops:Array Oper) (x y:Oper) (i:Nat):Bool:=
 match x.dst,y.dst with
 | some d,some e=>!Nat.beq d e&&((!has (y.looksAt ops) d&&!has (x.looksAt ops) e)||eO y i)
 | _,_=>false
def lL (ops:Array Oper):List Oper->Nat->Bool
 | [],_=>true
 | x::r,i=>r.all (fun y=>rE ops x y i)&&lL ops r (i+1)
def vf:List Oper->Nat->Bool
 | [],_=>true
 | o::r,k=>o.after.toList.all (fun e=>!NO e||Nat.blt e.on k)&&vf r (k+1)
def rI (acc:List Nat) (o:Oper):Nat:=o.after.toList.foldl (fun s e=>if NO e then s ||| 2 ^ e.on ||| acc.getD e.on 0 else s) 0
def jb:List Oper->List Nat->List Nat
 | [],acc=>acc
 | o::r,acc=>jb r (acc++[rI acc o])
def AE (ms:List Nat):List Nat->Bool
 | []=>true
 | k::r=>(List.range k).all (fun i=>(ms.getD k 0).testBit i)&&AE ms r
def zu (l:List Oper) (m:Nat):Bool:=
 l.all nw&&vf l 0&&lL l.toArray (l.take m) 0&&(l.take m).all (fun o=>o.dst.isSome)&&AE (jb l []) (List.range' m (l.length-m))&&Nat.ble m l.length
theorem jv {l:List Oper}:∀ {s:Nat},vf l s=true->∀ {k:Nat} {o:Oper},l[k]? = some o->∀ e∈o.after,NO e=true->e.on<s+k:=by
 induction l with
 | nil=>intro s _ k o h;simp at h
 | cons x r ih =>
  intro s h k o hk e he hb;simp only [vf,Zn,Zad] at h;cases k with
  | zero =>
   simp at hk;subst hk;have:=h.1 e (by simpa using he);simpa [hb,Z4] using this
  | succ k =>
   have:=ih h.2 (k:=k) (by simpa using hk) e he hb;omega
theorem sN:∀ (l:List Oper) (acc:List Nat),∃ t,jb l acc=acc++t/\t.length=l.length
 | [],acc=>⟨[],by simp [jb]⟩
 | o :: r, acc => by
  obtain ⟨t,h,hl⟩:=sN r (acc++[rI acc o]);exact ⟨rI acc o::t,by simp [jb,h],by simp [hl]⟩
theorem wK:∀ (l:List Oper) (acc:List Nat) (k:Nat) (o:Oper),l[k]? = some o->(jb l acc).getD (acc.length+k) 0=rI ((jb l acc).take (acc.length+k)) o
 | [],_,_,_,h=>by simp at h
 | x :: r, acc, k, o, h => by
  obtain ⟨t,ht,hl⟩:=sN r (acc++[rI acc x]);cases k with
  | zero =>
   simp at h;subst h;simp [jb,ht]
  | succ k =>
   have:=wK r (acc++[rI acc x]) k o (by simpa using h);simp only [Zg,ZE,Zae] at this;rw [show acc.length+(k+1)=acc.length+(0+1)+k from by omega];exact this
theorem uH (acc:List Nat) (i:Nat):∀ (es:List Edge) (s:Nat),(es.foldl (fun s e=>if NO e then s ||| 2 ^ e.on ||| acc.getD e.on 0 else s) s).testBit i=true ->
  s.testBit i=true\/∃ e∈es,NO e=true/\(i=e.on\/(acc.getD e.on 0).testBit i=true)
 | [],s,h=>.inl h
 | e :: es, s, h => by
  simp only [List.foldl_cons] at h;rcases uH acc i es _ h with h | ⟨e',IS,hb,h⟩
  ·by_cases hb:NO e=true
   ·simp only [hb,if_true,Nat.testBit_or,ZR,Nat.testBit_two_pow,decide_eq_true_eq] at h;rcases h with (h | h) | h
    ·exact .inl h
    ·exact .inr ⟨e,by simp,hb,.inl h.symm⟩
    ·exact .inr ⟨e,by simp,hb,.inr h⟩
   ·simp only [hb] at h;exact .inl h
  ·exact .inr ⟨e',by simp [IS],hb,h⟩
def DC (l:List Oper) (L:Nat->Prop):Prop:=∀ k o,l[k]? = some o->L k->∀ e∈o.after,NO e=true->L e.on
theorem hG {l:List Oper} {L:Nat->Prop} (Bo:DC l L) (Xz:vf l 0=true):∀ (k:Nat),k<l.length->L k->∀ i,((jb l []).getD k 0).testBit i=true->L i:=by
 intro k
 induction k using Nat.strongRecOn with
 | _ k ih =>
  intro hk hL i hi;have ho:l[k]? = some l[k]:=Zc hk;have hm:=wK l [] k _ ho;simp only [Zae,Zx] at hm;rw [hm] at hi;unfold rI at hi;rcases uH _ i _ 0 hi with h | ⟨e,he,hb,h⟩
  ·simp at h
  ·have IS:e∈l[k].after:=by simpa using he
   have aM:e.on<k:=by have:=jv Xz ho e IS hb;omega
   have hLe:=Bo k _ ho hL e IS hb;rcases h with h | h
   ·rw [h];exact hLe
   ·refine ih e.on aM (by omega) hLe i ?_;have:((jb l []).take k).getD e.on 0=(jb l []).getD e.on 0:=by
     simp [Zk,aM]
    rwa [this] at h
theorem oy {ops:Array Oper} {l:List Oper}:∀ {s:Nat},lL ops l s=true->∀ {i j:Nat} {x y:Oper},i<j->l[i]? = some x->l[j]? = some y->rE ops x y (s+i)=true:=by
 induction l with
 | nil=>intro s _ i j x y _ h;simp at h
 | cons o r ih =>
  intro s h i j x y yC hx hy;simp only [lL,Zn,Zad] at h;cases j with
  | zero=>omega
  | succ j =>
   cases i with
   | zero =>
    simp at hx;subst hx;exact h.1 y (ZV (by simpa using hy))
   | succ i =>
    have:=ih h.2 (i:=i) (j:=j) (by omega) (by simpa using hx) (by simpa using hy);rwa [show s+1+i=s+(i+1) from by omega] at this
variable {a a':Act} {o:Oper}
theorem nQ {sl:aL} {T:List Nat} {nt:Nat} (hn:a.tmps.size=nt) (hk:∀ t v,c5 sl t=some v->t<nt) (hT:∀ t∈T,∀ v,c5 sl t=some v->a.tmps[t]? = some v) :
  ∃ a':Act,bU sl a'/\(∀ t∈T,a'.tmps[t]? = a.tmps[t]?)/\a'.tmps.size=nt:=by
 refine ⟨⟨Array.ofFn (n:=nt) fun t=>if (t:Nat)∈T then a.tmps.getD t undef else (c5 sl t).getD undef,a.defers⟩,?_,?_,by simp⟩
 ·intro t v hv;have aM:=hk t v hv;simp only [Array.getElem?_ofFn,aM,dif_pos];by_cases ht:t∈T
  ·have:=hT t ht v hv;simp [ht,Zv,this]
  ·simp [ht,hv]
 ·intro t ht;by_cases aM:t<nt
  ·have:a.tmps[t]? = some (a.tmps[t]'(by omega)):=Zao (by omega);simp [ht,aM,Zv,this]
  ·rw [Zby (by simp;omega),Zby (by omega)]
theorem BA {x:Operand} (h:∀ t,x=.tmp t->a'.tmps[t]? = a.tmps[t]?):a'.eval x=a.eval x:=by
 cases x with
 | tmp t=>simp [Act.eval,Zv,h t rfl]
 | _=>rfl
theorem ix {ops:Array Oper} (ho:nw o=true) (h:∀ t∈o.looksAt ops,a'.tmps[t]? = a.tmps[t]?):execOp a'.eval o=execOp a.eval o:=by
 refine execOp_congr o (fun cs b he=>by simp [nw,he] at ho) fun x hx=>BA fun t ht=>h t ?_;subst ht;unfold Oper.looksAt;refine ZJ _ ?_;simp only [List.mem_filterMap];exact ⟨_,by simpa using hx,I⟩
theorem gS {ops:Array Oper} (h:∀ t∈o.looksAt ops,a'.tmps[t]? = a.tmps[t]?):Region.wanted o (yielded ops a'.tmps)=Region.wanted o (yielded ops a.tmps):=by
 unfold Region.wanted;cases hg:o.guard with
 | none=>rfl
 | some gw =>
  obtain ⟨j,want⟩:=gw;simp only [];have:yielded ops a'.tmps j=yielded ops a.tmps j:=by
   unfold yielded;cases hd:(ops[j]?).bind (·.dst) with
   | none=>rfl
   | some d =>
    have:=h d (by unfold Oper.looksAt;exact ZW _ (by simp [hg,hd]));simp [this]
  rw [this]
inductive ux (P:Program) (c:Cx) (hs:List bd) (ops:Array Oper):List Oper->aL->fu->List Rel->aL->fu->Prop
 | nil {sl:aL} {rl:fu}:ux P c hs ops [] sl rl [] sl rl
 | val {o:Oper} {l:List Oper} {sl kd:aL} {rl lJ:fu} {d:Nat} {V:Value} {S:List Rel} (hd:o.dst=some d) (fO:d<c.nt) (h:uZ P c hs ops sl rl o (.val V)) (t:ux P c hs ops l ((d,V)::sl) rl S kd lJ) :
   ux P c hs ops (o::l) sl rl (.val V::S) kd lJ
 | rel {o:Oper} {l:List Oper} {sl kd:aL} {rl lJ:fu} {d:Nat} {R:Rel} {S:List Rel} (hd:o.dst=some d) (fO:d<c.nt) (hn:c5 sl d=none) (h:uZ P c hs ops sl rl o R) (t:ux P c hs ops l sl ((d,R)::rl) S kd lJ) :
   ux P c hs ops (o::l) sl rl (R::S) kd lJ
theorem ux.at_ {P:Program} {c:Cx} {hs:List bd} {ops:Array Oper} {l:List Oper} {sl kd:aL} {rl lJ:fu} {S:List Rel} (h:ux P c hs ops l sl rl S kd lJ) :
  ∀ (i : Nat) (o : Oper), l[i]? = some o -> ∃ vp Nt R, S[i]? = some R /\ uZ P c hs ops vp Nt o R /\
   (∀ t v,c5 vp t=some v->(∃ (j:Nat) (oj:Oper),j<i/\l[j]? = some oj/\oj.dst=some t/\S[j]? = some (.val v))\/((∀ (j:Nat) (oj:Oper),j<i->l[j]? = some oj->oj.dst≠some t)/\c5 sl t=some v)) /\
   (∀ t Rt,(t,Rt)∈Nt->(∃ (j:Nat) (oj:Oper),j<i/\l[j]? = some oj/\oj.dst=some t/\S[j]? = some Rt)\/(t,Rt)∈rl):=by
 induction h with
 | nil=>intro i o h;simp at h
 | @val o0 l sl kd rl lJ d V S hd fO a7 t ih =>
  intro i o ho;cases i with
  | zero =>
   simp at ho;subst ho;exact ⟨sl,rl,.val V,I,a7,fun t v hv=>.inr ⟨fun j _ hj=>by omega,hv⟩,fun t Rt hm=>.inr hm⟩
  | succ i =>
   obtain ⟨vp,Nt,R,hR,hs',h1,h2⟩:=ih i o (by simpa using ho);refine ⟨vp,Nt,R,by simpa using hR,hs',fun t v hv=>?_,fun t Rt hm=>?_⟩
   ·rcases h1 t v hv with ⟨j,oj,hj,jJ,jh,ke⟩ | ⟨oN,oe⟩
    ·exact .inl ⟨j+1,oj,by omega,by simpa using jJ,jh,by simpa using ke⟩
    ·by_cases yE:d=t
     ·subst yE;rw [gy] at oe;cases oe;exact .inl ⟨0,o0,by omega,I,hd,I⟩
     ·rw [gr yE] at oe;refine .inr ⟨fun j oj hj jJ=>?_,oe⟩;cases j with
      | zero=>simp at jJ;subst jJ;rw [hd];simp [yE]
      | succ j=>exact oN j oj (by omega) (by simpa using jJ)
   ·rcases h2 t Rt hm with ⟨j,oj,hj,jJ,jh,ke⟩ | aB
    ·exact .inl ⟨j+1,oj,by omega,by simpa using jJ,jh,by simpa using ke⟩
    ·exact .inr aB
 | @rel o0 l sl kd rl lJ d R0 S hd fO hn a7 t ih =>
  intro i o ho;cases i with
  | zero =>
   simp at ho;subst ho;exact ⟨sl,rl,R0,I,a7,fun t v hv=>.inr ⟨fun j _ hj=>by omega,hv⟩,fun t Rt hm=>.inr hm⟩
  | succ i =>
   obtain ⟨vp,Nt,R,hR,hs',h1,h2⟩:=ih i o (by simpa using ho);refine ⟨vp,Nt,R,by simpa using hR,hs',fun t v hv=>?_,fun t Rt hm=>?_⟩
   ·rcases h1 t v hv with ⟨j,oj,hj,jJ,jh,ke⟩ | ⟨oN,oe⟩
    ·exact .inl ⟨j+1,oj,by omega,by simpa using jJ,jh,by simpa using ke⟩
    ·have yE:d≠t:=fun e=>by subst e;rw [hn] at oe;cases oe
     refine .inr ⟨fun j oj hj jJ=>?_,oe⟩;cases j with
     | zero=>simp at jJ;subst jJ;rw [hd];simp [yE]
     | succ j=>exact oN j oj (by omega) (by simpa using jJ)
   ·rcases h2 t Rt hm with ⟨j,oj,hj,jJ,jh,ke⟩ | aB
    ·exact .inl ⟨j+1,oj,by omega,by simpa using jJ,jh,by simpa using ke⟩
    ·rcases ZT.1 aB with e | T5
     ·cases e;exact .inl ⟨0,o0,by omega,I,hd,I⟩
     ·exact .inr T5
theorem ux.end_ {P:Program} {c:Cx} {hs:List bd} {ops:Array Oper} {l:List Oper} {sl kd:aL} {rl lJ:fu} {S:List Rel} (h:ux P c hs ops l sl rl S kd lJ) :
   (∀ t v,c5 kd t=some v->(∃ (j:Nat) (oj:Oper),l[j]? = some oj/\oj.dst=some t/\S[j]? = some (.val v))\/((∀ (j:Nat) (oj:Oper),l[j]? = some oj->oj.dst≠some t)/\c5 sl t=some v)) /\
   (∀ t Rt,(t,Rt)∈lJ->(∃ (j:Nat) (oj:Oper),l[j]? = some oj/\oj.dst=some t/\S[j]? = some Rt)\/(t,Rt)∈rl) /\
   (∀ (j:Nat) (oj:Oper),l[j]? = some oj->∃ d R,oj.dst=some d/\d<c.nt/\S[j]? = some R):=by
 induction h with
 | nil=>exact ⟨fun t v hv=>.inr ⟨fun j oj h=>by simp at h,hv⟩,fun t Rt hm=>.inr hm,fun j oj h=>by simp at h⟩
 | @val o0 l sl kd rl lJ d V S hd fO a7 t ih =>
  obtain ⟨h1,h2,h3⟩:=ih;refine ⟨fun t v hv=>?_,fun t Rt hm=>?_,fun j oj hj=>?_⟩
  ·rcases h1 t v hv with ⟨j,oj,jJ,jh,ke⟩ | ⟨oN,oe⟩
   ·exact .inl ⟨j+1,oj,by simpa using jJ,jh,by simpa using ke⟩
   ·by_cases yE:d=t
    ·subst yE;rw [gy] at oe;cases oe;exact .inl ⟨0,o0,I,hd,I⟩
    ·rw [gr yE] at oe;refine .inr ⟨fun j oj jJ=>?_,oe⟩;cases j with
     | zero=>simp at jJ;subst jJ;rw [hd];simp [yE]
     | succ j=>exact oN j oj (by simpa using jJ)
  ·rcases h2 t Rt hm with ⟨j,oj,jJ,jh,ke⟩ | aB
   ·exact .inl ⟨j+1,oj,by simpa using jJ,jh,by simpa using ke⟩
   ·exact .inr aB
  ·cases j with
   | zero=>simp at hj;subst hj;exact ⟨d,_,hd,fO,rfl⟩
   | succ j=>obtain ⟨d',R',h⟩:=h3 j oj (by simpa using hj);exact ⟨d',R',by simpa using h⟩
 | @rel o0 l sl kd rl lJ d R0 S hd fO hn a7 t ih =>
  obtain ⟨h1,h2,h3⟩:=ih;refine ⟨fun t v hv=>?_,fun t Rt hm=>?_,fun j oj hj=>?_⟩
  ·rcases h1 t v hv with ⟨j,oj,jJ,jh,ke⟩ | ⟨oN,oe⟩
   ·exact .inl ⟨j+1,oj,by simpa using jJ,jh,by simpa using ke⟩
   ·have yE:d≠t:=fun e=>by subst e;rw [hn] at oe;cases oe
    refine .inr ⟨fun j oj jJ=>?_,oe⟩;cases j with
    | zero=>simp at jJ;subst jJ;rw [hd];simp [yE]
    | succ j=>exact oN j oj (by simpa using jJ)
  ·rcases h2 t Rt hm with ⟨j,oj,jJ,jh,ke⟩ | aB
   ·exact .inl ⟨j+1,oj,by simpa using jJ,jh,by simpa using ke⟩
   ·rcases ZT.1 aB with e | T5
    ·cases e;exact .inl ⟨0,o0,I,hd,I⟩
    ·exact .inr T5
  ·cases j with
   | zero=>simp at hj;subst hj;exact ⟨d,_,hd,fO,rfl⟩
   | succ j=>obtain ⟨d',R',h⟩:=h3 j oj (by simpa using hj);exact ⟨d',R',by simpa using h⟩
end Go.SL
namespace Go.SL
open Go
section
variable {P:Program} {r:Option Nat} {c:Cx} {D:List Nat} {sl kd:aL} {lJ:fu} {hs:List bd} {Q:Exit->Act->World->Prop} {l:List Oper} {m:Nat} {S:List Rel}
def Ls (listed:Array Bool) (i:Nat):Prop:=listed.getD i false=true
theorem eA (n i:Nat):¬ Ls (Array.replicate n false) i:=by
 unfold Ls;rw [Zv,Array.getElem?_replicate];split <;> simp
variable {i:Nat} {listed:Array Bool} {o:Oper}
theorem bX {i j:Nat} (hi:i<listed.size):Ls (listed.setIfInBounds i true) j↔(j=i\/Ls listed j):=by
 unfold Ls;by_cases h:i=j
 ·subst h;simp [Zv,hi]
 ·have h':¬ j=i:=fun e=>h e.symm
  simp [Zv,ZF h,h']
theorem GH (hi:i<listed.size):listed.getD i true=false↔¬ Ls listed i:=by
 unfold Ls;simp [Zv,hi]
theorem dD (hsz:listed.size=l.length) {i:Nat}:i∈Region.ready .any l.toArray listed↔∃ o,l[i]? = some o/\¬ Ls listed i/\∀ e∈o.after,NO e=true->Ls listed e.on:=by
 rw [mem_ready];constructor
 ·rintro ⟨h1,o,ho,h2⟩;have GA:l[i]? = some o:=by simpa using ho
  have hi:i<listed.size:=by rw [hsz];exact (Zl.1 GA).1
  exact ⟨o,GA,(GH hi).1 h1,h2⟩
 ·rintro ⟨o,ho,h1,h2⟩;have hi:i<listed.size:=by rw [hsz];exact (Zl.1 ho).1
  exact ⟨(GH hi).2 h1,o,by simpa using ho,h2⟩
theorem jc (hsz:listed.size=l.length) (Xz:vf l 0=true) (h:∃ i,i<l.length/\¬ Ls listed i):∃ i,i∈Region.ready .any l.toArray listed:=by
 obtain ⟨i,hi,hn⟩:=h
 induction i using Nat.strongRecOn with
 | _ i ih =>
  by_cases dK:∀ j,j<i->Ls listed j
  ·refine ⟨i,(dD hsz).2 ⟨l[i],Zc hi,hn,fun e he hb=>dK _ ?_⟩⟩;have:=jv Xz (Zc hi) e he hb;omega
  ·have:∃ j,j<i/\¬ Ls listed j:=by
    apply Classical.byContradiction;intro hc;exact dK fun j hj=>Classical.byContradiction fun uR=>hc ⟨j,hj,uR⟩
   obtain ⟨j,hj,hnj⟩:=this;exact ih j hj (by omega) hnj
theorem uz {ms:List Nat}:∀ {ks:List Nat},AE ms ks=true->∀ k∈ks,∀ i,i<k->(ms.getD k 0).testBit i=true
 | [],_,k,hk=>by cases hk
 | x :: ks, h, k, hk => by
  simp only [AE,Zn,Zad,ZX] at h;rcases ZT.1 hk with e | hk
  ·subst e;exact h.1
  ·exact uz h.2 k hk
structure U3 (l:List Oper) (m:Nat):Prop where
 op:∀ o∈l,nw o=true
 ac:vf l 0=true
 CS:lL l.toArray (l.take m) 0=true
 tail:∀ k,m<=k->k<l.length->∀ i,i<k->((jb l []).getD k 0).testBit i=true
 le:m<=l.length
theorem wz (h:zu l m=true):U3 l m:=by
 simp only [zu,Zn,Zad] at h;obtain ⟨⟨⟨⟨⟨h1,h2⟩,h3⟩,_⟩,h5⟩,h6⟩:=h;refine ⟨h1,h2,h3,fun k hk aM=>uz h5 k ?_,by simpa using h6⟩;rw [ZaL];omega
theorem rC (hc:U3 l m) {listed:Array Bool} (hsz:listed.size=l.length) (Bo:DC l (Ls listed)) {i:Nat} (hi:i∈Region.ready .any l.toArray listed) (hm:m<=i):∀ j,j<i->Ls listed j:=by
 intro j hj;obtain ⟨o,ho,hn,hd⟩:=(dD hsz).1 hi;have aM:i<l.length:=(Zl.1 ho).1;have E7:DC l (fun k=>k=i\/Ls listed k):=by
  intro k ok hk hL e he hb;rcases hL with e' | hL
  ·subst e';rw [ho] at hk;cases hk;exact .inr (hd e he hb)
  ·exact .inr (Bo k ok hk hL e he hb)
 rcases hG E7 hc.ac i aM (.inl rfl) j (hc.tail i hm aM j hj) with h | h
 ·omega
 ·exact h
theorem D8 {rest:List Oper} {ops:Array Oper} {K:Act->World->Prop} {a:Act} {w:World} (hi:ops[i]? = some o) (hK:∀ a w,WL P r ops Q rest a w->K a w) (h:WL P r ops Q (o::rest) a w):wpOpIn (FR r) 0 P ops Q i K a w:=by
 unfold wpOpIn;simp only [hi];unfold WL at h;split
 ·rename_i hw;rw [if_pos hw] at h;exact Oper.wpIn_mono hK h
 ·rename_i hw;rw [if_neg hw] at h;exact ⟨fun _ _=>trivial,hK _ _ h⟩
theorem EH (hc:U3 l m):∀ (fuel k:Nat) (listed:Array Bool) (a:Act) (w:World),m<=k->k+fuel=l.length->listed.size=l.length->(∀ i,i<l.length->(Ls listed i↔i<k)) ->
  WL P r l.toArray Q (l.drop k) a w->wpAnyIn (FR r) 0 P .any l.toArray Q fuel listed a w
 | 0, k, listed, a, w, _, hk, hsz, hL, h => by
  refine ⟨?_,by rw [Zbh (by omega)] at h;exact h⟩;apply List.eq_nil_iff_forall_not_mem.2;intro i hi;obtain ⟨o,ho,hn,_⟩:=(dD hsz).1 hi;have aM:=(Zl.1 ho).1;exact hn ((hL i aM).2 (by omega))
 | fuel + 1, k, listed, a, w, GB, hk, hsz, hL, h => by
  have Bo:DC l (Ls listed):=fun k' o' GA DZ e he hb=>by
   have aM:=(Zl.1 GA).1;have:=jv hc.ac GA e he hb;exact (hL e.on (by omega)).2 (by have:=(hL k' aM).1 DZ;omega)
  have PL:k<l.length:=by omega
  refine ⟨fun h0=>?_,fun i hi=>?_⟩
  ·obtain ⟨i,hi⟩:=jc hsz hc.ac ⟨k,PL,fun hh=>by have:=(hL k PL).1 hh;omega⟩;rw [h0] at hi;cases hi
  ·obtain ⟨o,ho,hn,_⟩:=(dD hsz).1 hi;have aM:=(Zl.1 ho).1;have Mb:k<=i:=ZaS fun hh=>hn ((hL i aM).2 hh)
   have:i=k:=by
    rcases Zbi k i with hh | hh
    ·have:=(hL k PL).1 (rC hc hsz Bo hi (by omega) k hh);omega
    ·omega
   subst this;rw [Zu aM] at h;have GA:l[i]=o:=by rw [Zc aM] at ho;exact Option.some.inj ho
   rw [GA] at h;refine D8 (by simpa using ho) (fun a' w' h'=>EH hc fuel (i+1) _ a' w' (by omega) (by omega) (by simpa using hsz) (fun j hj=>?_) h') h;rw [bX (by omega)];have:=hL j hj;constructor
   ·rintro (e | hh)
    ·omega
    ·have:=this.1 hh;omega
   ·intro hh;by_cases e:j=i
    ·exact .inl e
    ·exact .inr (this.2 (by omega))
structure Inv1 (c:Cx) (D:List Nat) (hs:List bd) (l:List Oper) (m:Nat) (S:List Rel) (a0:Act) (fuel:Nat) (listed:Array Bool) (a:Act) (w:World):Prop where
 sz:listed.size=l.length
 dc:DC l (Ls listed)
 hi:∀ k,m<=k->¬ Ls listed k
 mem:Mem c (hs++nE D) w
 defers:a.defers=D.map mark
 size:a.tmps.size=c.nt
 zD:∀ t,(∀ (j:Nat) (o:Oper),l[j]? = some o->Ls listed j->o.dst≠some t)->a.tmps[t]? = a0.tmps[t]?
 new:∀ (j:Nat) (o:Oper),l[j]? = some o->Ls listed j->∀ d R,o.dst=some d->S[j]? = some R->∃ v,a.tmps[d]? = some v/\R.p v w
 left:∃ U:List Nat,U.Nodup/\(∀ i,i∈U↔i<l.length/\¬ Ls listed i)/\U.length=fuel
theorem mT (hc:U3 l m) {i j:Nat} {x y:Oper} (yC:i<j) (hj:j<m) (hx:l[i]? = some x) (hy:l[j]? = some y):rE l.toArray x y i=true:=by
 have:=oy hc.CS (i:=i) (j:=j) yC (by rw [ZC,if_pos (by omega)];exact hx) (by rw [ZC,if_pos hj];exact hy);simpa using this
theorem dh {ops:Array Oper} {x y:Oper} {i d e:Nat} (h:rE ops x y i=true) (hx:x.dst=some d) (hy:y.dst=some e):d≠e/\((d∈y.looksAt ops\/e∈x.looksAt ops)->eO y i=true):=by
 simp only [rE,hx,hy,Zn,Zbd,ZR] at h;obtain ⟨h1,h2⟩:=h;refine ⟨fun e'=>by subst e';simp at h1,fun h3=>?_⟩;rcases h2 with ⟨h4,h5⟩ | h2
 ·rcases h3 with h3 | h3
  ·rw [GC.2 h3] at h4;cases h4
  ·rw [GC.2 h3] at h5;cases h5
 ·exact h2
theorem cz (h:eO o i=true):∃ e∈o.after,NO e=true/\e.on=i:=by
 simp only [eO,ZQ,Zn] at h;obtain ⟨e,he,hb,mG⟩:=h;exact ⟨e,by simpa using he,hb,Z7 mG⟩
theorem C4 (hc:U3 l m) (hl:m<=l.length) {a0 a:Act} {w w':World} {fuel i d:Nat} {listed:Array Bool} {o:Oper} {R:Rel} {v:Value} (hI:Inv1 c D hs l m S a0 (fuel+1) listed a w)
  (hi:i∈Region.ready .any l.toArray listed) (nP:i<m) (ho:l[i]? = some o) (hd:o.dst=some d) (fO:d<c.nt) (rh:S[i]? = some R)
  (abU:∀ (j:Nat) (oj:Oper),j<m->l[j]? = some oj->∃ e,oj.dst=some e) (hk:aJ [] w w') (hv:R.p v w'):Inv1 c D hs l m S a0 fuel (listed.setIfInBounds i true) (a.put o.dst v) w':=by
 obtain ⟨o',GA,hn,lh⟩:=(dD hI.sz).1 hi;rw [ho] at GA;cases GA;have iw:i<listed.size:=by rw [hI.sz];omega
 have _:=abU;have oO:∀ (j:Nat) (oj:Oper) (e:Nat),l[j]? = some oj->j<m->j≠i->oj.dst=some e->e≠d:=by
  intro j oj e hj gR hne he;rcases Zbi j i with h | h
  ·exact (dh (mT hc h nP hj ho) he hd).1
  ·exact fun e'=>(dh (mT hc (show i<j by omega) gR ho hj) hd he).1 e'.symm
 rw [hd];refine ⟨by simpa using hI.sz,?_,?_,hI.mem.sP hk,hI.defers,by simpa [Act.put] using hI.size,?_,?_,?_⟩
 ·intro k ok qH hL e he hb;rw [bX iw] at hL ⊢;rcases hL with e' | hL
  ·subst e';rw [ho] at qH;cases qH;exact .inr (lh e he hb)
  ·exact .inr (hI.dc k ok qH hL e he hb)
 ·intro k qH hL;rw [bX iw] at hL;rcases hL with e | hL
  ·omega
  ·exact hI.hi k qH hL
 ·intro t ht;have h1:d≠t:=fun e=>by subst e;exact ht i o ho ((bX iw).2 (.inl rfl)) hd
  simp only [Act.put,ZF h1];exact hI.zD t fun j oj hj hL=>ht j oj hj ((bX iw).2 (.inr hL))
 ·intro j oj hj hL e Rj he hRj;rw [bX iw] at hL;by_cases lE:j=i
  ·subst lE;rw [ho] at hj;cases hj;rw [hd] at he;cases he;rw [rh] at hRj;cases hRj;exact ⟨v,by simp [Act.put,hI.size,fO],hv⟩
  ·have yh:=hL.resolve_left lE;obtain ⟨u,hu,hp⟩:=hI.new j oj hj yh e Rj he hRj;have gR:j<m:=ZM fun h=>hI.hi j h yh
   have hne:e≠d:=oO j oj e hj gR lE he;refine ⟨u,?_,Rj.st hp hk⟩;simp only [Act.put,ZF (Ne.symm hne)];exact hu
 ·obtain ⟨U,uU,oR,qV⟩:=hI.left;have PN:i∈U:=(oR i).2 ⟨by omega,hn⟩;refine ⟨U.erase i,uU.erase i,fun j=>?_,by rw [ZaB PN,qV];rfl⟩;rw [uU.mem_erase_iff,oR j,bX iw];constructor
  ·rintro ⟨h1,h2,h3⟩;exact ⟨h2,fun h=>h.elim h1 h3⟩
  ·rintro ⟨h1,h2⟩;exact ⟨fun e=>h2 (.inl e),h1,fun h=>h2 (.inr h)⟩
def FA (rl:fu) (a:Act) (w:World):Prop:=∀ d R,(d,R)∈rl->∃ v,a.tmps[d]? = some v/\R.p v w
theorem S9 (hc:U3 l m) (hp:ux P c hs l.toArray (l.take m) sl [] S kd lJ) {a0:Act} (h0:bU sl a0) (HZ:a0.tmps.size=c.nt)
  (tail:∀ a w,St c D kd hs a w->FA lJ a w->WL P r l.toArray Q (l.drop m) a w) :
  ∀ (fuel:Nat) (listed:Array Bool) (a:Act) (w:World),Inv1 c D hs l m S a0 fuel listed a w->wpAnyIn (FR r) 0 P .any l.toArray Q fuel listed a w:=by
 have sU:=hp.end_;have dP:∀ (j:Nat) (o:Oper),j<m->l[j]? = some o->(l.take m)[j]? = some o:=fun j o hj ho=>by rw [ZC,if_pos hj];exact ho
 have fD:∀ (j:Nat) (o:Oper),(l.take m)[j]? = some o->j<m/\l[j]? = some o:=fun j o ho=>by
  rw [ZC] at ho;split at ho
  ·exact ⟨by assumption,ho⟩
  ·cases ho
 have mf:∀ fuel listed a w,Inv1 c D hs l m S a0 fuel listed a w->(∀ i,i<m->Ls listed i)->wpAnyIn (FR r) 0 P .any l.toArray Q fuel listed a w:=by
  intro fuel listed a w hI dK;have hL:∀ i,i<l.length->(Ls listed i↔i<m):=fun i _=>⟨fun h=>ZM fun hm=>hI.hi i hm h,dK i⟩
  obtain ⟨U,uU,oR,qV⟩:=hI.left;have iH:U.Perm (List.range' m (l.length-m)):=by
   rw [Zaw uU (Zbt)];intro i;rw [oR i,ZaL];constructor
   ·rintro ⟨h1,h2⟩;exact ⟨ZaS fun h=>h2 (dK i h),by omega⟩
   ·rintro ⟨h1,h2⟩;exact ⟨by omega,hI.hi i h1⟩
  have hlen:fuel=l.length-m:=by rw [<- qV,iH.length_eq,Zbn]
  refine EH hc fuel m listed a w (Zz _) (by have:=hc.le;omega) hI.sz hL (tail a w ⟨hI.mem,?_,hI.size,hI.defers⟩ ?_)
  ·intro t v hv;rcases sU.1 t v hv with ⟨j,oj,hj,jh,ke⟩ | ⟨oN,oe⟩
   ·obtain ⟨gR,ly⟩:=fD j oj hj;obtain ⟨u,hu,mF⟩:=hI.new j oj ly (dK j gR) t _ jh ke;rw [hu,show u=v from mF]
   ·rw [hI.zD t fun j oj hj ji=>oN j oj (dP j oj (ZM fun hm=>hI.hi j hm ji) hj)]
    exact h0 t v oe
  ·intro d R hm;rcases sU.2.1 d R hm with ⟨j,oj,hj,jh,ke⟩ | aB
   ·obtain ⟨gR,ly⟩:=fD j oj hj;exact hI.new j oj ly (dK j gR) d R jh ke
   ·cases aB
 intro fuel
 induction fuel with
 | zero =>
  intro listed a w hI;obtain ⟨U,_,oR,qV⟩:=hI.left;have hU:U=[]:=Zak.1 qV;refine mf 0 listed a w hI fun i hi=>Classical.byContradiction fun hn=>?_;have:=(oR i).2 ⟨by have:=hc.le;omega,hn⟩;rw [hU] at this;cases this
 | succ fuel ih =>
  intro listed a w hI;by_cases dK:∀ i,i<m->Ls listed i
  ·exact mf _ listed a w hI dK
  ·have hex:∃ i,i<m/\¬ Ls listed i:=Classical.byContradiction fun hh=>dK fun i hi=>Classical.byContradiction fun hn=>hh ⟨i,hi,hn⟩
   obtain ⟨i0,r7,nO⟩:=hex;refine ⟨fun hr=>?_,fun i hi=>?_⟩
   ·obtain ⟨i,hi⟩:=jc hI.sz hc.ac ⟨i0,by have:=hc.le;omega,nO⟩;rw [hr] at hi;cases hi
   ·have nP:i<m:=ZM fun hm=>nO (rC hc hI.sz hI.dc hi hm i0 (by omega))
    obtain ⟨o,ho,hn,lh⟩:=(dD hI.sz).1 hi;obtain ⟨vp,Nt,R,Ur,fg,hs1,hs2⟩:=hp.at_ i o (dP i o nP ho);obtain ⟨d,R',hd,fO,rh⟩:=sU.2.2 i o (dP i o nP ho);rw [Ur] at rh;cases rh;have jU:∀ (j:Nat),eO o j=true->Ls listed j:=fun j hw=>by
     obtain ⟨e,he,hb,mG⟩:=cz hw;rw [<- mG];exact lh e he hb
    have Dp:∀ (j t:Nat) (oj:Oper),j<i->(l.take m)[j]? = some oj->oj.dst=some t->t∈o.looksAt l.toArray->Ls listed j:=by
     intro j t oj hj jJ jh ht;obtain ⟨gR,ly⟩:=fD j oj jJ;exact jU j ((dh (mT hc hj nP ly ho) jh hd).2 (.inl ht))
    have hT:∀ t∈o.looksAt l.toArray,∀ v,c5 vp t=some v->a.tmps[t]? = some v:=by
     intro t ht v hv;rcases hs1 t v hv with ⟨j,oj,hj,jJ,jh,ke⟩ | ⟨oN,oe⟩
     ·obtain ⟨u,hu,mF⟩:=hI.new j oj (fD j oj jJ).2 (Dp j t oj hj jJ jh ht) t _ jh ke;rw [hu,show u=v from mF]
     ·rw [hI.zD t fun j oj hj ji jh=>?_]
      ·exact h0 t v oe
      ·have gR:j<m:=ZM fun hm=>hI.hi j hm ji
       rcases Zal j i with h | h | h
       ·exact oN j oj h (dP j oj gR hj) jh
       ·subst h;exact hn ji
       ·have hw:=(dh (mT hc h gR ho hj) hd jh).2 (.inr ht);obtain ⟨e,he,hb,mG⟩:=cz hw;have:=hI.dc j oj hj ji e he hb;rw [mG] at this;exact hn this
    have tY:∀ t v,c5 vp t=some v->t<c.nt:=by
     intro t v hv;rcases hs1 t v hv with ⟨j,oj,_,jJ,jh,_⟩ | ⟨_,oe⟩
     ·obtain ⟨d',_,u9,ub,_⟩:=sU.2.2 j oj jJ;rw [jh] at u9;cases u9;exact ub
     ·have:=h0 t v oe;rw [<- HZ];exact (Z1.1 this).1
    obtain ⟨a',lF,jB,_⟩:=nQ hI.size tY hT;have TU:BV (o.looksAt l.toArray) Nt a' w:=by
     intro t Rt hm ht;rcases hs2 t Rt hm with ⟨j,oj,hj,jJ,jh,ke⟩ | aB
     ·obtain ⟨v,hv,mF⟩:=hI.new j oj (fD j oj jJ).2 (Dp j t oj hj jJ jh ht) t _ jh ke;exact ⟨v,by rw [jB t ht];exact hv,mF⟩
     ·cases aB
    have hq:=fg a' w lF TU hI.mem.mq;have Bl:nw o=true:=hc.op o (ZV ho);have hex:=ix (o:=o) (ops:=l.toArray) Bl jB;rw [gS jB] at hq;have gB:∀ v w',aJ [] w w'->R.p v w'->wpAnyIn (FR r) 0 P .any l.toArray Q fuel (listed.setIfInBounds i true) (a.put o.dst v) w':=fun v w' hk hv=>
     ih _ _ _ (C4 hc hc.le hI hi nP ho hd fO Ur (fun j oj hj jJ=>let ⟨e,_,he,_⟩:=sU.2.2 j oj (dP j oj hj jJ);⟨e,he⟩) hk hv)
    unfold wpOpIn;rw [show l.toArray[i]? = some o from by simpa using ho];simp only [];split
    ·rename_i hw;rw [if_pos hw] at hq;refine ⟨dT _ _ _ _ _,?_⟩;rw [Oper.semAt_eq _ _ _ (fun cc he=>by simp [nw,he] at Bl),<- hex]
     unfold yP at hq
     revert hq
     generalize (execOp a'.eval o).run P w=res;intro hq
     match res,hq with
     | .ok (.value v) w',⟨hk,hv⟩=>exact gB v w' hk hv
     | .ok (.enter f args) w', ⟨e, cF⟩ =>
      subst e;refine ⟨by simp [FR,Fence.wide],(iA cF).mono fun e vP h=>?_⟩;obtain ⟨v,rfl,hk,hv⟩:=h;exact gB v vP hk hv
    ·rename_i hw;rw [if_neg hw] at hq;exact ⟨fun _ _=>trivial,gB undef w (.refl _ _) hq⟩
theorem AA {id:Nat} (pW:P.follows .mixedOrders=true) (gD:zu l m=true) (hp:ux P c hs l.toArray (l.take m) sl [] S kd lJ)
  (tail:∀ a w,St c D kd hs a w->FA lJ a w->WL P r l.toArray Q (l.drop m) a w):Tr c D sl hs (WP P r (.region id l.toArray true) Q):=fun a w a7=>by
 unfold WP;refine wpIn_region_any pW ?_;refine S9 (wz gD) hp a7.dj a7.size tail l.toArray.size _ a _ ⟨by simp,?_,?_,?_,a7.defers,a7.size,fun t _=>rfl,?_,List.range l.length,Zbk,?_,by simp⟩
 ·exact fun k o _ hL=>absurd hL (eA _ _)
 ·exact fun k _ hL=>eA _ _ hL
 ·exact a7.mem.drew
 ·exact fun j o _ hL=>absurd hL (eA _ _)
 ·exact fun i=>⟨fun h=>⟨by simpa using h,eA _ _⟩,fun h=>by simpa using h.1⟩
end
end Go.SL
namespace Go.SL
open Go
def leq:Value->Value->Option Bool
 | .int k a,.int k' b=>if k=k' then some (decide (a=b)) else none
 | .string a,.string b=>some (decide (a=b))
 | .bool a,.bool b=>some (a==b)
 | _,_=>none
def yj:List Value->List Value->Option Bool
 | [],[]=>some true
 | x :: xs, y :: ys => match leq x y, yj xs ys with
  | some p,some q=>some (p&&q)
  | _,_=>none
 | _,_=>none
def LD:Option TypeDesc->Bool
 | some (.int _) | some .string | some .bool=>true
 | _=>false
section
variable {P:Program} {w:World}
theorem Gr {d:Nat} {t:TypeId} {x y:Value} {b:Bool} (hl:LD (P.underlying t)=true) (hk:∀ k,P.underlying t=some (.int k)->∃ a,x=.int k a) (hs:P.underlying t=some .string->∃ a,x=.string a) (hb:P.underlying t=some .bool->∃ a,x=.bool a)
  (h:leq x y=some b):(Op.equalIn (d+1) t x y).run P w=.ok b w:=by
 cases hu:P.underlying t with
 | none=>rw [hu] at hl;cases hl
 | some D =>
  rw [hu] at hl;cases D with
  | int k =>
   obtain ⟨a,rfl⟩:=hk k hu;cases y <;> simp only [leq] at h <;> try cases h
   rename_i k' b';split at h
   ·rename_i e;subst e;cases h;rw [run_equalIn_int w d t k k a b' hu];congr 1
   ·cases h
  | string =>
   obtain ⟨a,rfl⟩:=hs hu;cases y <;> simp only [leq,Option.some.injEq] at h <;> try cases h
   rw [run_equalIn_string w d t a _ hu,vo]
  | bool =>
   obtain ⟨a,rfl⟩:=hb hu;cases y <;> simp only [leq,Option.some.injEq] at h <;> try cases h
   rw [run_equalIn_bool' w d t a _ hu]
  | _=>cases hl
end
def wU (D:Option TypeDesc) (x:Value):Bool:=
 match D,x with
 | some (.int k),.int k' _=>decide (k=k')
 | some .string,.string _=>true
 | some .bool,.bool _=>true
 | _,_=>false
def rj (P:Program) (g:TypeId->Option (List TypeId)) (acc:Option (List TypeId)) (f:Field):Option (List TypeId):=
 match acc,g f.type,P.info? f.type with
 | some a,some m,some i=>if f.offset=a.length/\f.name ≠ "_" /\ i.size=m.length then some (a++m) else none
 | _,_,_=>none
theorem rO (P:Program) (g:TypeId->Option (List TypeId)):∀ (fl:List Field),fl.foldl (rj P g) none=none
 | []=>rfl
 | f::fl=>by simp only [List.foldl_cons,rj];exact rO P g fl
theorem zU (P:Program) (g:TypeId->Option (List TypeId)):∀ (fl:List Field) (A ts:List TypeId),fl.foldl (rj P g) (some A)=some ts->∃ rest,ts=A++rest
 | [],A,ts,h=>⟨[],by simpa using h.symm⟩
 | f :: fl, A, ts, h => by
  simp only [List.foldl_cons] at h;cases hs:rj P g (some A) f with
  | none=>rw [hs,rO] at h;cases h
  | some B =>
   rw [hs] at h;obtain ⟨r,hr⟩:=zU P g fl B ts h;unfold rj at hs;split at hs
   ·rename_i a m i e1 _ _;cases e1;split at hs
    ·cases hs;exact ⟨m++r,by rw [hr];simp⟩
    ·cases hs
   ·cases hs
theorem Fa {P:Program} {g:TypeId->Option (List TypeId)} {a B:List TypeId} {f:Field} (hs:rj P g (some a) f=some B) :
  ∃ m i,g f.type=some m/\P.info? f.type=some i/\f.offset=a.length/\f.name ≠ "_" /\ i.size=m.length/\B=a++m:=by
 unfold rj at hs;split at hs
 ·rename_i a' m i e1 e2 e3;cases e1;split at hs
  ·rename_i h;cases hs;exact ⟨m,i,e2,e3,h.1,h.2.1,h.2.2,I⟩
  ·cases hs
 ·cases hs
theorem BB:∀ {xs ys:List Value} {b:Bool},yj xs ys=some b->xs.length=ys.length
 | [],[],_,_=>rfl
 | [],_::_,_,h=>by simp [yj] at h
 | _::_,[],_,h=>by simp [yj] at h
 | x :: xs, y :: ys, b, h => by
  simp only [yj] at h;split at h
  ·rename_i p q hp hq;simp [BB hq]
  ·cases h
def lM (P:Program):Nat->TypeId->Option (List TypeId)
 | 0,_=>none
 | d + 1, t =>
  match P.underlying t with
  | some (.int _) | some .string | some .bool=>some [t]
  | some (.struct fs) =>
   if P.stoodInHeld t then none else
   fs.toList.foldl (rj P (lM P d)) (some [])
  | some (.array n e) => match lM P d e, P.info? e with
   | some m,some i=>if i.size=m.length then some ((List.replicate n m).flatten) else none
   | _,_=>none
  | _=>none
def tO (P:Program):List TypeId->List Value->Bool
 | [],[]=>true
 | t::ts,x::xs=>wU (P.underlying t) x&&tO P ts xs
 | _,_=>false
section
variable {P:Program}
theorem oA:∀ {ts:List TypeId} {xs:List Value},tO P ts xs=true->xs.length=ts.length
 | [],[],_=>rfl
 | [],_::_,h=>by cases h
 | _::_,[],h=>by cases h
 | t :: ts, x :: xs, h => by
  simp only [tO,Zn] at h;simp [oA h.2]
theorem oB:∀ {ts us:List TypeId} {xs:List Value},tO P (ts++us) xs=true->tO P ts (xs.take ts.length)=true/\tO P us (xs.drop ts.length)=true
 | [],us,xs,h=>by simpa [tO] using h
 | t::ts,us,[],h=>by simp [tO] at h
 | t :: ts, us, x :: xs, h => by
  simp only [Zb,tO,Zn] at h;have:=oB h.2;simp [tO,h.1,this]
theorem rR:∀ {n:Nat} {xs ys:List Value} {b:Bool},n<=xs.length->yj xs ys=some b->∃ p q,yj (xs.take n) (ys.take n)=some p/\yj (xs.drop n) (ys.drop n)=some q/\b=(p&&q)
 | 0,xs,ys,b,_,h=>⟨true,b,by simp [yj],by simpa using h,by simp⟩
 | n+1,[],ys,b,hn,h=>by simp at hn
 | n+1,x::xs,[],b,_,h=>by simp [yj] at h
 | n + 1, x :: xs, y :: ys, b, hn, h => by
  simp only [yj] at h;split at h
  ·rename_i p q hp hq;cases h;obtain ⟨p',q',h1,h2,e⟩:=rR (n:=n) (by simpa using hn) hq;exact ⟨p&&p',q',by simp [yj,hp,h1],by simpa using h2,by rw [e,Bool.and_assoc]⟩
  ·cases h
theorem uK {d:Nat} {t:TypeId} {m:List TypeId} (h:lM P d t=some m):∃ D,P.underlying t=some D/\(lx D=false->m.length=1):=by
 cases d with
 | zero=>cases h
 | succ d =>
  unfold lM at h;cases hu:P.underlying t with
  | none=>rw [hu] at h;cases h
  | some D =>
   refine ⟨D,I,fun hD=>?_⟩;rw [hu] at h;cases D with
   | int k=>cases h;rfl
   | string=>cases h;rfl
   | bool=>cases h;rfl
   | struct fs=>cases hD
   | array n e=>cases hD
   | _=>cases h
theorem vw {t:TypeId} {D:TypeDesc} {i:TypeInfo} {n o:Nat} {zs:List Value} {w:World} (hu:P.underlying t=some D) (hi:P.info? t=some i) (hn:i.size=n) (h1:lx D=false->n=1) (hz:o+n<=zs.length) :
  ∃ v,(part t zs.toArray o).run P w=.ok v w/\(lx D=true->v=.agg ((zs.drop o).take n).toArray)/\(lx D=false->(zs.drop o).take n=[v]):=by
 have hag:(isAgg t).run P w=.ok (lx D) w:=by
  unfold isAgg;rw [Sem.run_bind,aX hu,Result.andThen_ok];cases D <;> rfl
 unfold part;rw [Sem.run_bind,hag,Result.andThen_ok];cases hD:lx D with
 | true =>
  refine ⟨.agg (zs.toArray.extract o (o+n)),by simp [sizeOf,gz hi,hn],fun _=>?_,fun h=>by cases h⟩;congr 1;simp [List.extract_eq_take_drop]
 | false =>
  have e:=h1 hD;subst e;refine ⟨zs[o]'(by omega),by simp [show o<zs.length from by omega],fun h=>(by cases h),fun _=>?_⟩;rw [Zu (by omega),List.take_succ_cons,Ze]
theorem ET (d k:Nat):∀ (t:TypeId) (ts:List TypeId),lM P d t=some ts->∀ (xs ys:List Value) (b:Bool) (w:World),tO P ts xs=true->yj xs ys=some b ->
  ∀ x y,(lx ((P.underlying t).getD .bool)=true->x=.agg xs.toArray/\y=.agg ys.toArray)->(lx ((P.underlying t).getD .bool)=false->xs=[x]/\ys=[y])->(Op.equalIn (d+k) t x y).run P w=.ok b w:=by
 induction d with
 | zero=>intro t ts h;cases h
 | succ d ih =>
  intro t ts h xs ys b w dU heq x y h1 h2;rw [show d+1+k=(d+k)+1 from by omega];have L8:∀ (hl:LD (P.underlying t)=true) (WA:ts=[t]) (hna:lx ((P.underlying t).getD .bool)=false),(Op.equalIn (d+k+1) t x y).run P w=.ok b w:=by
   intro hl WA hna;obtain ⟨rfl,rfl⟩:=h2 hna;subst WA;simp only [tO,Bool.and_true] at dU;have hq:leq x y=some b:=by
    simp only [yj] at heq;split at heq
    ·rename_i p q hp uQ;cases uQ;cases heq;simpa using hp
    ·cases heq
   refine Gr hl (fun kk hu=>?_) (fun hu=>?_) (fun hu=>?_) hq <;> rw [hu] at dU <;> cases x <;> simp_all [wU]
  unfold lM at h;split at h
  ·rename_i kk hu;exact L8 (by rw [hu];rfl) (Option.some.inj h).symm (by rw [hu];rfl)
  ·rename_i hu;exact L8 (by rw [hu];rfl) (Option.some.inj h).symm (by rw [hu];rfl)
  ·rename_i hu;exact L8 (by rw [hu];rfl) (Option.some.inj h).symm (by rw [hu];rfl)
  ·rename_i fs hu;split at h
   ·cases h
   ·rename_i a7;obtain ⟨rfl,rfl⟩:=h1 (by rw [hu];rfl);have hf:P.fieldsOf t=fs:=by simp [Program.fieldsOf,hu]
    rw [run_equalIn_struct w (d+k) t _ _ (by rw [hf];exact hu) (by simpa using a7),hf]
    -- ze fields,one after ze other
    have key:∀ (fl:List Field) (acc:List TypeId),fl.foldl (rj P (lM P d)) (some acc)=some ts->∀ c,yj (xs.drop acc.length) (ys.drop acc.length)=some c->acc.length<=xs.length->(Op.eqFields (d+k) xs.toArray ys.toArray fl).run P w=.ok c w:=by
     intro fl
     induction fl with
     | nil =>
      intro acc ha c hc _;simp only [List.foldl_nil,Option.some.injEq] at ha;have hlen:=oA dU;rw [ha,<- hlen,Z3] at hc;have:c=true:=by
       cases hy:ys.drop xs.length with
       | nil=>rw [hy] at hc;simpa [yj] using hc.symm
       | cons=>rw [hy] at hc;simp [yj] at hc
      simp [Op.eqFields,this]
     | cons f fl ihf =>
      intro acc ha c hc hle;simp only [List.foldl_cons] at ha;cases hB:rj P (lM P d) (some acc) f with
      | none=>rw [hB,rO] at ha;cases ha
      | some B =>
       rw [hB] at ha;obtain ⟨m,i,hm,hi,ho,hn,hsz,rfl⟩:=Fa hB
       -- ts=acc++m++..
       have kL:∃ rest,ts=acc++m++rest:=zU P _ fl _ _ ha;obtain ⟨rest,WA⟩:=kL;have hlen:=oA dU;have abk:tO P m ((xs.drop acc.length).take m.length)=true:=by
        rw [WA,Zh] at dU;exact (oB (oB dU).2).1
       have YT:acc.length+m.length<=xs.length:=by rw [hlen,WA];simp
       obtain ⟨p,q,hp,hq,rfl⟩:=rR (n:=m.length) (by simp;omega) hc;have hly:acc.length+m.length<=ys.length:=by have:=BB heq;omega
       obtain ⟨Df,Pz,gi⟩:=uK hm;obtain ⟨vx,rx,ax,bx⟩:=vw (w:=w) Pz hi hsz gi YT;obtain ⟨vy,ry,ay,by'⟩:=vw (w:=w) Pz hi hsz gi hly;rw [<- ho] at rx ry;have hr:=ih f.type m hm _ _ p w abk hp vx vy (by rw [Pz];exact fun hA=>⟨ax hA,ay hA⟩) (by rw [Pz];exact fun hA=>⟨bx hA,by' hA⟩)
       have WN:=ihf (acc++m) ha q (by simpa [Zbl] using hq) (by simp;omega);simp only [Op.eqFields,ne_eq,hn,not_false_eq_true,if_true,Sem.run_bind,rx,Result.andThen_ok,ry,hr];cases p
       ·simp
       ·simpa using WN
    exact key fs.toList [] h b (by simpa using heq) (by simp)
  ·rename_i n e hu;split at h
   ·rename_i m i hm hi;split at h
    ·rename_i hsz;obtain ⟨rfl,rfl⟩:=h1 (by rw [hu];rfl);simp only [Option.some.injEq] at h;subst h;have hlen:=oA dU;have abt:xs.length=ys.length:=BB heq;have hL:xs.length=n*m.length:=by rw [hlen];simp
     have aaW:(sizeOf e).run P w=.ok m.length w:=by simp [sizeOf,gz hi,hsz]
     obtain ⟨De,Pz,gi⟩:=uK hm
     have abQ:∀ (c j:Nat) (p:Bool),j+c=n->yj (xs.drop (j*m.length)) (ys.drop (j*m.length))=some p->tO P ((List.replicate c m).flatten) (xs.drop (j*m.length))=true ->
       ((forIn (List.range' j c) ((none, ()) : Option Bool × Unit) fun i r => (do
        let a <- part e xs.toArray (i*m.length)
        let b <- part e ys.toArray (i*m.length)
        let r' <- Op.equalIn (d+k) e a b
        if (!r')=true then pure (ForInStep.done (some false,())) else pure (ForInStep.yield (none,()))):Sem (Option Bool×Unit)).run P w)=.ok (bif p then none else some false,()) w:=by
      intro c
      induction c with
      | zero =>
       intro j p hj hp _;have hz:xs.drop (j*m.length)=[]:=by apply Zbh;rw [hL,show j=n from by omega];exact Zz _
       have LN:ys.drop (j*m.length)=[]:=by apply Zbh;rw [<- abt,hL,show j=n from by omega];exact Zz _
       rw [hz,LN] at hp;simp only [yj,Option.some.injEq] at hp;subst hp;simp
      | succ c ihc =>
       intro j p hj hp WY;have r9:j*m.length+m.length<=xs.length:=by
        rw [hL,<- Zaj];exact Zaa _ (by omega)
       obtain ⟨vx,rx,ax,bx⟩:=vw (w:=w) Pz hi hsz gi r9;obtain ⟨vy,ry,ay,by'⟩:=vw (w:=w) Pz hi hsz gi (show j*m.length+m.length<=ys.length by omega);obtain ⟨p1,p2,B1,PG,rfl⟩:=rR (n:=m.length) (by simp;omega) hp;rw [List.replicate_succ,ZaE] at WY;have ho:=oB WY;have hr:=ih e m hm _ _ p1 w ho.1 B1 vx vy (by rw [Pz];exact fun hA=>⟨ax hA,ay hA⟩) (by rw [Pz];exact fun hA=>⟨bx hA,by' hA⟩)
       simp only [List.range'_succ,List.forIn_cons,Sem.run_bind,rx,ry,hr,Result.andThen_ok];cases p1
       ·simp
       ·have gB:=ihc (j+1) p2 (by omega) (by rw [Zaj,<- Zbl,<- Zbl];exact PG) (by rw [Zaj,<- Zbl];exact ho.2);simp only [Bool.not_true,ZaX,if_false,Sem.run_pure,Result.andThen_ok,Zau];exact gB
     have hf:=abQ n 0 b (by omega) (by simpa using heq) (by simpa using dU);simp only [Op.equalIn,Sem.run_bind,aX hu,Result.andThen_ok,aaW];rw [Std.Legacy.Range.forIn_eq_forIn_range'];simp only [Std.Legacy.Range.size,Nat.sub_zero,ZaA,Nat.div_one];rw [hf];cases b <;> simp
    ·cases h
   ·cases h
  ·cases h
class BW (P:Program) (t:TypeId) (ts:outParam (List TypeId)):Prop where
 eq:lM P 20 t=some ts
 agg:lx ((P.underlying t).getD .bool)=true
 guard:P.eqGuardType P.depth t=false
variable {c:Cx} {sl:aL} {hs:List bd} {dst:Option Tmp} {ty:TypeId} {pos:String} {af:Array Edge} {g:Option (Nat×Bool)}
variable {ts:List TypeId} {xs:List Value}
theorem sA {t:TypeId} [h:BW P t ts] {xs ys:List Value} {b:Bool} (dU:tO P ts xs=true) (heq:yj xs ys=some b) (w:World):(Op.equalIn 10000 t (.agg xs.toArray) (.agg ys.toArray)).run P w=.ok b w:=
 ET 20 9980 t ts h.eq xs ys b w dU heq _ _ (fun _=>⟨I,I⟩) (fun hn=>by rw [h.agg] at hn;cases hn)
theorem vt {t u:TypeId} [h:BW P t ts] {x y:Operand} {xs ys:List Value} {b:Bool} (hx:Is sl x (.agg xs.toArray)) (hy:Is sl y (.agg ys.toArray)) (dU:tO P ts xs=true) (heq:yj xs ys=some b) :
  du P c sl hs ⟨dst,.binOp .eql t x y u,ty,pos,af,g⟩ (.bool b):=
 jH hx hy fun w=>by
  rw [Sem.run_bind,run_eqGuard_agg w _ _ _ _ _ _ h.guard,Result.andThen_ok,run_eql_struct,sA dU heq];rfl
theorem vr {t u:TypeId} [h:BW P t ts] {x y:Operand} {xs ys:List Value} {b:Bool} (hx:Is sl x (.agg xs.toArray)) (hy:Is sl y (.agg ys.toArray)) (dU:tO P ts xs=true) (heq:yj xs ys=some b) :
  du P c sl hs ⟨dst,.binOp .neq t x y u,ty,pos,af,g⟩ (.bool (!b)):=
 jH hx hy fun w=>by
  rw [Sem.run_bind,run_eqGuard_agg w _ _ _ _ _ _ h.guard,Result.andThen_ok,run_neq_struct,sA dU heq];rfl
theorem mU:tO P [] []=true:=rfl
theorem kQ {t:TypeId} {k:IntKind} {n:Int} [h:jw P t (.int k)] (hr:tO P ts xs=true):tO P (t::ts) (.int k n::xs)=true:=by
 simp [tO,wU,h.eq,hr]
theorem fT {t:TypeId} {s:ByteArray} [h:jw P t .string] (hr:tO P ts xs=true):tO P (t::ts) (.string s::xs)=true:=by
 simp [tO,wU,h.eq,hr]
theorem Lg {t:TypeId} {b:Bool} [h:jw P t .bool] (hr:tO P ts xs=true):tO P (t::ts) (.bool b::xs)=true:=by
 simp [tO,wU,h.eq,hr]
end
end Go.SL
namespace Go.SL
open Go
def ev (sl:aL):Operand->Option Value
 | .tmp t=>c5 sl t
 | .const v=>some v
 | .global g=>some (.pointer (some ⟨g,0,none⟩))
 | .func f=>some (.func (.func f) #[] #[])
variable {i:Nat} {v:Value} {vs:List Value} {x:Operand} {xs:List (Nat×Operand)}
theorem Is.of {sl:aL} (h:ev sl x=some v):Is sl x v:=fun a ha=>by
 cases x with
 | tmp t=>exact ha.eval h
 | const u=>exact Option.some.inj h
 | global g=>exact Option.some.inj h
 | func f=>exact Option.some.inj h
theorem xS.o {sl:aL} {vs:List (Nat×Value)} (h:ev sl x=some v) (t:xS sl xs vs):xS sl ((i,x)::xs) ((i,v)::vs):=.cons (.of h) t
theorem uy.o {sl:aL} (h:ev sl x=some v) (t:uy sl (i+1) xs vs):uy sl i ((i,x)::xs) (v::vs):=.cons (.of h) t
theorem IA.o {sl:aL} {xs:List Operand} (h:ev sl x=some v) (t:IA sl xs vs):IA sl (x::xs) (v::vs):=.cons (.of h) t
theorem Is.bM {sl:aL} {c:Bool} (hc:c=true) (h:ev sl x=some (SL.gv c v)):Is sl x v:=(vH hc (v:=v)) ▸ Is.of h
class Sa (P:Program):Prop where
 eq:P.follows .mixedOrders=true
section
variable {P:Program} {r:Option Nat} {c:Cx} {D:List Nat} {sl:aL} {rl:fu} {hs hs':List bd} {Q:Exit->Act->World->Prop} {ops:Array Oper} {m d:Nat} {dst:Option Tmp} {op:Op} {ty:TypeId} {pos:String} {af:Array Edge} {g:Option (Nat×Bool)} {rest:List Oper}
def lW (P:Program) (r:Option Nat) (c:Cx) (D:List Nat) (hs:List bd) (ops:Array Oper) (Q:Exit->Act->World->Prop) (m:Nat) (l:List Oper) (sl:aL) (rl:fu):Prop:=
 ∃ S kd lJ,ux P c hs ops (l.take m) sl rl S kd lJ/\∀ a w,St c D kd hs a w->FA lJ a w->WL P r ops Q (l.drop m) a w
theorem cJ {id:Nat} {l:List Oper} (m:Nat) [pW:Sa P] (gD:zu l m=true) (k:lW P r c D hs l.toArray Q m l sl []):Tr c D sl hs (WP P r (.region id l.toArray true) Q):=by
 obtain ⟨S,kd,lJ,hp,ht⟩:=k;exact AA pW.eq gD hp ht
theorem cN {l:List Oper} (k:Tr c D sl hs (WL P r ops Q l)):lW P r c D hs ops Q 0 l sl rl:=
 ⟨[],sl,rl,.nil,fun a w a7 _=>k a w a7⟩
variable {R:Ending->World->Prop} {V:Value} {args:List Value} {c0:Bool} {code:Code} {f:FuncId} {fn:Func} {gs j:Nat} {o:Oper} {q:Bool} {t:Tmp} {v:Value} {vs:List Value} {want:Bool} {xs:List ResultVar}
theorem qQ (ho:o.dst=some d) (hd:Nat.blt d c.nt=true) (h:uZ P c hs ops sl rl o (.val V)) (k:lW P r c D hs ops Q m rest ((d,V)::sl) rl):lW P r c D hs ops Q (m+1) (o::rest) sl rl:=by
 obtain ⟨S,kd,lJ,hp,ht⟩:=k;exact ⟨_,_,_,.val ho (by simpa [Z4] using hd) h hp,ht⟩
theorem pq {R:Rel} (hg:o.guard=none) (h:∀ a w,bU sl a->BV (o.looksAt ops) rl a w->Mem c hs w->yP P o a w R):uZ P c hs ops sl rl o R:=fun a w h1 h2 h3=>by
 rw [if_pos (by simp [Region.wanted,hg])];exact h a w h1 h2 h3
theorem sC (hr:du P c sl hs o V) {a:Act} {w:World} (h1:bU sl a) (h3:Mem c hs w):yP P o a w (.val V):=by
 unfold yP;rw [hr.2 a w h1 h3];exact ⟨.refl _ _,I⟩
theorem tN (hr:mM P sl o f args) {a:Act} {w:World} (h1:bU sl a) (hc:ak P f args w V):yP P o a w (.val V):=by
 unfold yP;rw [hr.2 a w h1];exact ⟨I,hc.mono fun e w' ⟨he,hk⟩=>⟨V,he,hk,I⟩⟩
theorem ar (hr:du P c sl hs ⟨some d,op,ty,pos,af,none⟩ V) (hd:Nat.blt d c.nt=true) (k:lW P r c D hs ops Q m rest ((d,V)::sl) rl) :
  lW P r c D hs ops Q (m+1) (⟨some d,op,ty,pos,af,none⟩::rest) sl rl:=
 qQ I hd (pq I fun _ _ h1 _ h3=>sC hr h1 h3) k
theorem dp (hr:mM P sl ⟨some d,op,ty,pos,af,none⟩ f args) (hd:Nat.blt d c.nt=true) (hc:∀ w,Mem c hs w->ak P f args w V) (k:lW P r c D hs ops Q m rest ((d,V)::sl) rl) :
  lW P r c D hs ops Q (m+1) (⟨some d,op,ty,pos,af,none⟩::rest) sl rl:=
 qQ I hd (pq I fun _ w h1 _ h3=>tN hr h1 (hc w h3)) k
theorem pt (hg:o.guard=some (j,want)) (hj:((ops[j]?).bind (·.dst))=some gs) (hq:c5 sl gs=some (gv c0 (.bool q)))
  (h:(c0&&(q==want))=true->∀ a w,bU sl a->Mem c hs w->yP P o a w (.val V)):uZ P c hs ops sl rl o (.val (gv (c0&&(q==want)) V)):=fun a w h1 _ h3=>by
 rw [lX hg hj h1 hq];by_cases hc:(c0&&(q==want))=true
 ·rw [if_pos hc,vH hc];exact h hc a w h1 h3
 ·rw [if_neg hc,xw (by simpa using hc)]
  rfl
theorem DM (hj:((ops[j]?).bind (·.dst))=some gs) (hq:c5 sl gs=some (gv c0 (.bool q)))
  (hr:(c0&&(q==want))=true->du P c sl hs ⟨some d,op,ty,pos,af,some (j,want)⟩ V) (hd:Nat.blt d c.nt=true) (k:lW P r c D hs ops Q m rest ((d,gv (c0&&(q==want)) V)::sl) rl) :
  lW P r c D hs ops Q (m+1) (⟨some d,op,ty,pos,af,some (j,want)⟩::rest) sl rl:=
 qQ I hd (pt I hj hq fun hc _ _ h1 h3=>sC (hr hc) h1 h3) k
theorem It (hj:((ops[j]?).bind (·.dst))=some gs) (hq:c5 sl gs=some (.bool q))
  (hr:(q==want)=true->du P c sl hs ⟨some d,op,ty,pos,af,some (j,want)⟩ V) (hd:Nat.blt d c.nt=true) (k:lW P r c D hs ops Q m rest ((d,gv (q==want) V)::sl) rl) :
  lW P r c D hs ops Q (m+1) (⟨some d,op,ty,pos,af,some (j,want)⟩::rest) sl rl:=
 DM (c0:=true) hj (by rw [hq];rfl) (by simpa using hr) hd (by simpa using k)
theorem nY (hj:((ops[j]?).bind (·.dst))=some gs) (hq:c5 sl gs=some (gv c0 (.bool q)))
  (hr:(c0&&(q==want))=true->mM P sl ⟨some d,op,ty,pos,af,some (j,want)⟩ f args) (hd:Nat.blt d c.nt=true) (hc:(c0&&(q==want))=true->∀ w,Mem c hs w->ak P f args w V) (k:lW P r c D hs ops Q m rest ((d,gv (c0&&(q==want)) V)::sl) rl) :
  lW P r c D hs ops Q (m+1) (⟨some d,op,ty,pos,af,some (j,want)⟩::rest) sl rl:=
 qQ I hd (pt I hj hq fun h _ w h1 h3=>tN (hr h) h1 (hc h w h3)) k
theorem oK (hj:((ops[j]?).bind (·.dst))=some gs) (hq:c5 sl gs=some (.bool q))
  (hr:(q==want)=true->mM P sl ⟨some d,op,ty,pos,af,some (j,want)⟩ f args) (hd:Nat.blt d c.nt=true) (hc:(q==want)=true->∀ w,Mem c hs w->ak P f args w V) (k:lW P r c D hs ops Q m rest ((d,gv (q==want) V)::sl) rl) :
  lW P r c D hs ops Q (m+1) (⟨some d,op,ty,pos,af,some (j,want)⟩::rest) sl rl:=
 nY (c0:=true) hj (by rw [hq];rfl) (by simpa using hr) hd (by simpa using hc) (by simpa using k)
theorem Hr (hj:((ops[j]?).bind (·.dst))=some gs) (hq:c5 sl gs=some (gv c0 (.bool q)))
  (hr:(c0&&(q==want))=true->mM P sl ⟨some d,op,ty,pos,af,some (j,want)⟩ f args) (hd:Nat.blt d c.nt=true) (hc:(c0&&(q==want))=true->∀ w,Mem c hs w->ak P f args w V)
  (k:Tr c D ((d,gv (c0&&(q==want)) V)::sl) hs (WL P r ops Q rest)):Tr c D sl hs (WL P r ops Q (⟨some d,op,ty,pos,af,some (j,want)⟩::rest)):=fun a w a7=>by
 unfold WL;rw [lX I hj a7.dj hq];by_cases h:(c0&&(q==want))=true
 ·rw [if_pos h];rw [vH h] at k;refine ⟨dT _ _ _ _ _,?_⟩;rw [Oper.semAt_eq _ _ _ (hr h).1,(hr h).2 a w a7.dj];exact ⟨by simp [FR,Fence.wide],(iA (hc h w a7.qS)).mono fun e w' ⟨he,hk⟩=>by
   subst he;exact k _ _ ((a7.put (by simpa [Z4] using hd) V).heap (a7.mem.sP hk))⟩
 ·rw [if_neg h];rw [xw (by simpa using h)] at k;exact k _ _ (a7.put (by simpa [Z4] using hd) undef)
theorem fQ (hj:((ops[j]?).bind (·.dst))=some gs) (hq:c5 sl gs=some (.bool q))
  (hr:(q==want)=true->mM P sl ⟨some d,op,ty,pos,af,some (j,want)⟩ f args) (hd:Nat.blt d c.nt=true) (hc:(q==want)=true->∀ w,Mem c hs w->ak P f args w V)
  (k:Tr c D ((d,gv (q==want) V)::sl) hs (WL P r ops Q rest)):Tr c D sl hs (WL P r ops Q (⟨some d,op,ty,pos,af,some (j,want)⟩::rest)):=
 Hr (c0:=true) hj (by rw [hq];rfl) (by simpa using hr) hd (by simpa using hc) (by simpa using k)
def Ez (V:Nat->Value) (ob:Obj):Rel:=⟨fun v w=>∃ b,v=V b/\w.heap[b]? = some ob,fun ⟨b,e,h⟩ hk=>⟨b,e,by rw [hk.block b (lg h) (by simp)];exact h⟩⟩
theorem CI (h:fn.results=#[.tmp t]) {sl:aL} {v:Value} (hv:c5 sl t=some v) {a:Act} (ha:bU sl a) (w:World):(results fn a.tmps).run P w=.ok v w:=by
 have:=ha t v hv;simp [results,h,Zv,this]
theorem CH {t u:Tmp} (h:fn.results=#[.tmp t,.tmp u]) {sl:aL} {v x:Value} (hv:c5 sl t=some v) (hx:c5 sl u=some x) {a:Act} (ha:bU sl a) (w:World):(results fn a.tmps).run P w=.ok (.tuple #[v,x]) w:=by
 have h1:=ha t v hv;have h2:=ha u x hx;simp [results,h,Zv,h1,h2]
theorem CJ (h:fn.results=#[]) {a:Act} (w:World):(results fn a.tmps).run P w=.ok (.tuple #[]) w:=by
 simp [results,h]
def Ends (P:Program) (fn:Func) (c:Cx) (sl:aL) (hs:List bd) (v:Value):Prop:=∀ a w,bU sl a->Mem c hs w->(results fn a.tmps).run P w=.ok v w
theorem dI (h:fn.results=#[.tmp t]) (hv:c5 sl t=some v):Ends P fn c sl hs v:=fun _ w ha _=>CI h hv ha w
theorem gF {t u:Tmp} {v x:Value} (h:fn.results=#[.tmp t,.tmp u]) (hv:c5 sl t=some v) (hx:c5 sl u=some x):Ends P fn c sl hs (.tuple #[v,x]):=fun _ w ha _=>CH h hv hx ha w
theorem rk (h:fn.results=#[]):Ends P fn c sl hs (.tuple #[]):=fun _ w _ _=>CJ h w
theorem UD {T:TypeId} {b o n:Nat} [Ty P T false n] (h:fn.results=#[.cell t T]) (hp:c5 sl t=some (.pointer (some ⟨b,o,none⟩))) (hv:At c hs b o v):Ends P fn c sl hs v:=fun a w ha hm=>by
 have h1:=ha t _ hp;simp [results,h,Zv,h1,asAddr,uC (hv w hm)]
theorem Qb {T:TypeId} {b o n:Nat} [Ty P T true n] (h:fn.results=#[.cell t T]) (hp:c5 sl t=some (.pointer (some ⟨b,o,none⟩))) (hv:eR c hs b o vs) (hl:vs.length=n):Ends P fn c sl hs (.agg vs.toArray):=fun a w ha hm=>by
 have h1:=ha t _ hp;simp [results,h,Zv,h1,asAddr,pB hl (fun j v h=>hv.get j v h w hm)]
def Sc (P:Program) (c:Cx) (hs:List bd) (T:TypeId) (b o:Nat) (v:Value):Prop:=∀ w,Mem c hs w->(loadVar T ⟨b,o,none⟩).run P w=.ok v w
theorem Lu {T:TypeId} {b o n:Nat} [Ty P T true n] (hv:eR c hs b o vs) (hl:vs.length=n):Sc P c hs T b o (.agg vs.toArray):=fun w hm=>pB hl (fun j v h=>hv.get j v h w hm)
inductive RV (P:Program) (c:Cx) (sl:aL) (hs:List bd):ResultVar->Value->Prop
 | tmp {t:Tmp} {v:Value} (h:c5 sl t=some v):RV P c sl hs (.tmp t) v
 | cell {t:Tmp} {T:TypeId} {b o:Nat} {v:Value} (h:c5 sl t=some (.pointer (some ⟨b,o,none⟩))) (hl:Sc P c hs T b o v):RV P c sl hs (.cell t T) v
inductive IY (P:Program) (c:Cx) (sl:aL) (hs:List bd):List ResultVar->List Value->Prop
 | nil:IY P c sl hs [] []
 | cons {x:ResultVar} {xs:List ResultVar} {v:Value} {vs:List Value} (h:RV P c sl hs x v) (t:IY P c sl hs xs vs):IY P c sl hs (x::xs) (v::vs)
def CE (tmps:Array Value):ResultVar->Sem Value
 | .tmp t=>pure (tmps.getD t undef)
 | .cell a t=>do loadVar t (<- asAddr (tmps.getD a undef))
theorem OF (h:IY P c sl hs xs vs) {a:Act} {w:World} (ha:bU sl a) (hm:Mem c hs w):(xs.mapM (CE a.tmps)).run P w=.ok vs w:=by
 induction h with
 | nil=>simp
 | cons h _ ih =>
  cases h with
  | tmp h=>simp [CE,Zv,ha _ _ h,ih]
  | cell h hl=>simp [CE,Zv,ha _ _ h,asAddr,hl w hm,ih]
theorem RT (hx:fn.results=xs.toArray) (h:IY P c sl hs xs vs) (hl:vs.length≠1):Ends P fn c sl hs (.tuple vs.toArray):=fun a w ha hm=>by
 have:=OF h ha hm;have h2:(Array.mapM (CE a.tmps) xs.toArray).run P w=.ok vs.toArray w:=by
  rw [List.mapM_toArray];simp [this]
 unfold results;rw [hx];change Sem.run P (Array.mapM (CE a.tmps) xs.toArray >>= fun vs=>pure (if h:vs.size=1 then vs[0] else Value.tuple vs)) w=_
 rw [Sem.run_bind,h2,Result.andThen_ok,Sem.run_pure];rw [dif_neg (by simpa using hl)]
theorem Oa (H0:c.md=[]) (he:Ends P fn c sl hs v) :
  Tr c [] sl hs (bodyPostM (FR r) 0 P fn (fun e w'=>e=.returned v/\aJ [] c.w0 w') .ret):=fun a w a7=>by
 have hm:=a7.qS;show LeavesInM (FR r) 0 P fn a.tmps _ a.defers .returning w;rw [a7.defers];exact ⟨v,he a w a7.dj hm,I,by rw [<- H0];exact hm.keeps⟩
theorem qp {v v':Value} (H0:c.md=[]) (he:Ends P fn c sl hs v') (hv:v'=v) :
  Tr c [] sl hs (bodyPostM (FR r) 0 P fn (fun e w'=>e=.returned v/\aJ [] c.w0 w') .ret):=hv ▸ Oa H0 he
theorem sO {fn:Func} {v:Value} {R:Ending->World->Prop}:∀ (D:List Nat) (w:World) (a:Act),a.defers=D.map mark->bU sl a->Mem c (hs++nE D) w->Ends P fn c sl hs v ->
  (∀ w',Mem c hs w'->R (.returned v) w')->LeavesInM (FR r) 0 P fn a.tmps R (D.map mark) .returning w
 | [],w,a,_,ha,hm,he,hR=>⟨v,he a w ha (by simpa [nE] using hm),hR w (by simpa [nE] using hm)⟩
 | b :: D, w, a, _, ha, hm, he, hR => by
  have dP:Take (hs++nE (b::D)) (bz b (.deferred (some []))) (hs++nE D):=by
   clear hm he hR
   induction hs with
   | nil=>exact .here
   | cons A hs ih=>exact .there ih
  have l5:=hm.take dP;have hb:w.heap[b]? = some (.deferred (some [])):=l5.bz .here;refine ⟨by simp,.inl ⟨b,w.putObj b (.deferred none),I,run_takeDeferred hb,?_⟩⟩;have hk:aJ [b] w (w.putObj b (.deferred none)):=⟨I,I,I,Zz _,by simp,fun k _ hn=>World.putObj_heap_other (by simpa using hn)⟩
  have YR:Mem c (hs++nE D) (w.putObj b (.deferred none)):=(Mem.store l5 hk (World.putObj_heap_same (lg (w:=w) hb))).xA;exact sO D _ { a with defers:=D.map mark } I ha YR he hR
theorem aO (he:Ends P fn c sl hs v) (hR:∀ w',Mem c hs w'->R (.returned v) w') :
  Tr c D sl hs (bodyPostM (FR r) 0 P fn R .ret):=fun a w a7=>by
 show LeavesInM (FR r) 0 P fn a.tmps R a.defers .returning w;rw [a7.defers];exact sO D w a a7.defers a7.dj a7.mem he hR
theorem aQ (he:Ends P fn c sl hs v) (hR:∀ w',Mem c hs w'->R (.returned v) w') :
  Tr c D sl hs (bodyPostM (FR r) 0 P fn R .normal):=aO (r:=r) he hR
theorem ah {w:World} (hf:P.funcs[f]? = some fn) (hb:fn.body=some code) (hl:Nat.ble args.length fn.ntmps=true)
  (h:Tr ⟨w,[],fn.ntmps⟩ [] (kC 0 args) [] (WP P none code (bodyPostM (FR none) 0 P fn (fun e w'=>e=.returned V/\aJ [] w w')))):ak P f args w V:=
 qj (hs0:=[]) hf hb (by simpa using hl) ⟨[],Zah,I,fun _ h=>by cases h⟩ h
theorem aR {w:World} {ι:Type} {Φ:ι->Prop} {val:ι->Value} {own:ι->List bd} (hf:P.funcs[f]? = some fn) (hb:fn.body=some code) (hl:Nat.ble args.length fn.ntmps=true)
  (h:Tr ⟨w,[],fn.ntmps⟩ [] (kC 0 args) [] (WP P none code (bodyPostM (FR none) 0 P fn (fun e w'=>∃ x,e=.returned (val x)/\Φ x/\aJ [] w w'/\∃ fp:List Nat,fp.Nodup/\cr (hp w') (own x) fp/\∀ b∈fp,b∈([]:List Nat)\/w.heap.size<=b)))) :
  bh P f args w [] Φ val own:=
 qj (hs0:=[]) hf hb (by simpa using hl) ⟨[],Zah,I,fun _ h=>by cases h⟩ h
theorem eh {w:World} {oY:List Nat} {As:List bd} {ι:Type} {Φ:ι->Prop} {val:ι->Value} {own:ι->List bd} (hf:P.funcs[f]? = some fn) (hb:fn.body=some code) (hl:Nat.ble args.length fn.ntmps=true)
  (hn:oY.Nodup) (hs0:cr (hp w) As oY)
  (h:Tr ⟨w,oY,fn.ntmps⟩ [] (kC 0 args) As (WP P none code (bodyPostM (FR none) 0 P fn (fun e w'=>∃ x,e=.returned (val x)/\Φ x/\aJ oY w w'/\∃ fp:List Nat,fp.Nodup/\cr (hp w') (own x) fp/\∀ b∈fp,b∈oY\/w.heap.size<=b)))) :
  bh P f args w oY Φ val own:=
 qj hf hb (by simpa using hl) ⟨oY,hn,hs0,fun _ h=>h⟩ h
theorem aF {ι:Type} {Φ:ι->Prop} {val:ι->Value} {own:ι->List bd} (x:ι) (hx:Φ x) {As:List bd} (ht:bC hs (own x) As) {w':World} (hm:Mem c hs w') {v:Value} (hv:v=val x) :
  ∃ x,Ending.returned v=.returned (val x)/\Φ x/\aJ c.md c.w0 w'/\∃ fp:List Nat,fp.Nodup/\cr (hp w') (own x) fp/\∀ b∈fp,b∈c.md\/c.w0.heap.size<=b:=by
 have h2:=(hm.jR ht).mq;obtain ⟨k,fp,hn,iv,hb⟩:=h2;exact ⟨x,by rw [hv],hx,k,fp,hn,iv,fun b dM=>(hb b dM).symm⟩
end
end Go.SL
