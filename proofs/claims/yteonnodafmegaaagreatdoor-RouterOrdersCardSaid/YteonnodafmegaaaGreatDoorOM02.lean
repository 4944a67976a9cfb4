/- Parts of the proof: P5h P5i P5j P5k P5l P5m P5n P5o GkMem GkAny GkReg GkEq GkPlan. -/
import Derived.Test.YteonnodafmegaaaGreatDoorOM01
import Derived.Laws.StructEq
set_option linter.unusedSectionVars false
set_option linter.unusedVariables false
set_option linter.unusedSimpArgs false
namespace Go.Proofs.A1
open Go Go.SL
def Ti.zero:Ti:=⟨⟨#[]⟩,0,0⟩
def ia (r:Ro) (i:Nat):Ti:=r.ti.getD i Ti.zero
def dh (r:Ro) (i:Nat):ByteArray:=(ia r i).nm
variable {N:Wn} {i:Nat} {p:List Nat} {po:List Po} {s:ByteArray} {v:Int}
theorem qg {r:Ro} (h:i<r.ti.length):(cQ r)[i]'(by unfold cQ;rw [Zd];exact h)=dh r i:=by
 unfold cQ dh ia;rw [ZZ,Zk,Zc h];rfl
theorem mD {r:Ro} (h:i<r.ti.length):dh r i∈cQ r:=by rw [<- qg h];exact Zj _
theorem vf {r:Ro} (hd:(cQ r).Nodup) {i j:Nat} (hi:i<r.ti.length) (hj:j<r.ti.length) (h:dh r i=dh r j):i=j:=by
 have hl:(cQ r).length=r.ti.length:=by unfold cQ;rw [Zd]
 rw [<- qg hi,<- qg hj] at h;rcases Zaq i j with aK | he | aK
 ·exact absurd h (Zad.1 hd i j (by omega) (by omega) aK)
 ·exact he
 ·exact absurd h.symm (Zad.1 hd j i (by omega) (by omega) aK)
theorem sP {r:Ro} (hd:(cQ r).Nodup) {i:Nat} (hi:i<r.ti.length):bC (cQ r) (dh r i)=(i:Nat):=by
 have hl:(cQ r).length=r.ti.length:=by unfold cQ;rw [Zd]
 refine rz (by omega) (qg hi) fun j hj e=>?_;rw [qg (by omega)] at e;have:=vf hd (by omega) hi e;omega
theorem AZ {r:Ro} (hn:oE r) (hd:(cQ r).Nodup) {i:Nat} (hi:i<r.ti.length):kP r (dh r i)=(ia r i).fr:=by
 have h1:¬ 0<=bC (cE r) (dh r i):=fun h=>by
  have:dh r i∈cE r:=Classical.byContradiction fun hq=>by have:=cH.2 hq;omega
  exact hn.dt _ this (mD hi)
 unfold kP;rw [if_neg h1,sP hd hi,if_pos (by omega),ZH];rfl
theorem vA {r:Ro} (hn:oE r) (hd:(cQ r).Nodup) {i:Nat} (hi:i<r.ti.length):kq r (dh r i)=(ia r i).to:=by
 have h1:¬ 0<=bC (cK r) (dh r i):=fun h=>by
  have:dh r i∈cK r:=Classical.byContradiction fun hq=>by have:=cH.2 hq;omega
  exact hn.st _ this (mD hi)
 unfold kq;rw [if_neg h1,sP hd hi,if_pos (by omega),ZH];rfl
def dG (r:Ro) (po:List Po) (v:Int) (s:ByteArray):Wn:=⟨r.ti.length,fun i=>gL po v (dh r i)&&decide (qy po v (cK r) (dh r i)=s),fun i=>!gL po v (dh r i),fun i=>(ia r i).fr,fun i=>(ia r i).to,kq r s⟩
def hG (r:Ro) (v:Int):List Po->ByteArray->List Nat->List Po×ByteArray
 | po,x,[]=>(po,x)
 | po,x,i::p=>hG r v (if gL po v (dh r i) then po else eJ r ⟨v,dh r i,x⟩ po) (dh r i) p
def kN (r:Ro) (po:List Po) (v:Int) (s:ByteArray) (p:List Nat) (d:ByteArray):List Po:=eJ r ⟨v,d,(hG r v po s p).2⟩ (hG r v po s p).1
theorem Ef {r:Ro} {po:List Po} {v:Int} {s:ByteArray} (hn:oE r) (hd:(cQ r).Nodup) (hv:0<=v/\v<r.lv) (oQ:jh r po):∀ (q u:List Nat) (qn:List Po) (x:ByteArray),(dG r po v s).ok (u++q)->rI r qn v x->(x∈cK r\/x∈cQ r)->kq r x=(dG r po v s).fin u->iI qn v 7 x=s->(∀ i,i<r.ti.length->i ∉ u->gL qn v (dh r i)=gL po v (dh r i))->(u=[]->qn=po) ->
  rI r (hG r v qn x q).1 v (hG r v qn x q).2/\((hG r v qn x q).2∈cK r\/(hG r v qn x q).2∈cQ r)/\kq r (hG r v qn x q).2=(dG r po v s).fin (u++q)/\iI (hG r v qn x q).1 v 7 (hG r v qn x q).2=s /\
  (∀ w y,y∈cE r->eD (hG r v qn x q).1 w y=eD qn w y)/\(∀ w y S,y∈cE r->qy (hG r v qn x q).1 w S y=qy qn w S y)
 | [], u, qn, x, _, h1, h2, h3, h4, _, _ => by
  rw [ZJ];exact ⟨h1,h2,h3,h4,fun _ _ _=>rfl,fun _ _ _ _=>rfl⟩
 | i :: q, u, qn, x, dU, h1, h2, h3, h4, h5, h6 => by
  have e:u++i::q=(u++[i])++q:=by simp
  rw [e] at dU ⊢;have ba:=(Wn.jI.1 (Wn.wE dU (ZaU (u++[i]) q))).2;have hi:i<r.ti.length:=Wn.qj ba;have hiu:i ∉ u:=Wn.vT ba;have gN:=mD hi;have V8:=h5 i hi hiu;unfold Wn.step at ba;simp only [Zm,ZT,decide_eq_true_eq] at ba;obtain ⟨_,_,H2⟩:=ba;rw [hG];by_cases hb:gL qn v (dh r i)=true
  ·rw [if_pos hb];rw [V8] at hb;rcases H2 with ⟨hu,rL⟩ | ⟨UR,_⟩
   ·have hu:u=[]:=List.isEmpty_iff.1 hu;have hpp:=h6 hu;subst hpp;have rL:(gL qn v (dh r i)&&decide (qy qn v (cK r) (dh r i)=s))=true:=rL;rw [Zm,decide_eq_true_eq] at rL;refine Ef hn hd hv oQ q (u++[i]) qn (dh r i) dU (oQ.W7 fun _=>hb) (.inr gN) ?_ ?_ (fun j hj hju=>rfl) (fun h=>by simp at h)
    ·rw [vA hn hd hi,Wn.l6];rfl
    ·rw [<- zW hn oQ (show (eD qn v (dh r i)).isSome=true from hb)];exact rL.2
   ·have UR:(!gL po v (dh r i))=true:=UR;rw [hb] at UR;cases UR
  ·rw [if_neg hb];have fC:eD qn v (dh r i)=none:=by
    unfold gL at hb;cases hq:eD qn v (dh r i) with
    | none=>rfl
    | some z=>rw [hq] at hb;exact absurd rfl hb
   have hm:kP r (dh r i)=kq r x:=by
    rcases H2 with ⟨_,rL⟩ | ⟨_,hf⟩
    ·have rL:(gL po v (dh r i)&&decide (qy po v (cK r) (dh r i)=s))=true:=rL;rw [Zm,<- V8] at rL;exact absurd rL.1 hb
    ·rw [AZ hn hd hi,h3];exact hf
   have hs:=pB (p:=⟨v,dh r i,x⟩) h1.rU h1.out (.inr gN) fC;have mN:=sD (p:=⟨v,dh r i,x⟩) (jh.one hs) (jh.one h1.rU)
   obtain ⟨g1,g2,g3,g4,g5,g6⟩:=Ef hn hd hv oQ q (u++[i]) (eJ r ⟨v,dh r i,x⟩ qn) (dh r i) dU (h1.add hn hv h2 (.inr gN) fC hm) (.inr gN) (by rw [vA hn hd hi,Wn.l6];rfl)
    (by rw [Dz hn h1 hv h2 (.inr gN) fC hm,h4])
    (fun j hj hju=>by
     have hne:dh r i≠dh r j:=fun e=>hju (by rw [vf hd hi hj e];simp)
     unfold gL;rw [mN,if_neg fun e=>hne e.2]
     exact h5 j hj fun e=>hju (Zz.2 (.inl e))) (fun h=>by simp at h)
   refine ⟨g1,g2,g3,g4,fun w y hy=>?_,fun w y S hy=>?_⟩
   ·rw [g5 w y hy,mN,if_neg (fun e=>hn.dt y hy (by rw [<- e.2];exact gN))]
   ·rw [g6 w y S hy,G7 hn h1 h2 (.inr gN) fC (fun e=>hn.dt y hy (by rw [e.2];exact gN))]
theorem KN {r:Ro} {s d:ByteArray} (hn:oE r) (hd:(cQ r).Nodup) (hv:0<=v/\v<r.lv) (oQ:jh r po) (hs:s∈cK r) (mZ:d∈cE r) (fC:eD po v d=none) {p:List Nat} (dU:(dG r po v s).ok p) (pG:(dG r po v s).fin p=kP r d) :
  jh r (kN r po v s p d)/\qy (kN r po v s p d) v (cK r) d=s/\(∀ w y,y∈cE r->¬(w=v/\y=d)->qy (kN r po v s p d) w (cK r) y=qy po w (cK r) y/\eD (kN r po v s p d) w y=eD po w y):=by
 have ba:s ∉ cQ r:=hn.st s hs;have XL:eD po v s=none:=iX.2 fun q hq e=>by
  rcases oQ.out q hq with h | h
  ·exact hn.sd s hs (e.2 ▸ h)
  ·exact ba (e.2 ▸ h)
 obtain ⟨g1,g2,g3,g4,g5,g6⟩:=Ef hn hd hv oQ p [] po s dU (oQ.W7 fun h=>absurd h ba) (.inl hs) rfl (tZ XL) (fun _ _ _=>rfl) (fun _=>rfl);have H7:eD (hG r v po s p).1 v d=none:=by rw [g5 v d mZ,fC]
 have hm:kP r d=kq r (hG r v po s p).2:=by rw [g3];exact pG.symm
 have hA:=g1.add hn hv g2 (.inl mZ) H7 hm;have hV:=hA.val (hn.dt d mZ);have Us:=pB (p:=⟨v,d,(hG r v po s p).2⟩) g1.rU g1.out (.inl mZ) H7;have mN:=sD (p:=⟨v,d,(hG r v po s p).2⟩) (jh.one Us) (jh.one g1.rU);refine ⟨hV,?_,fun w y hy hne=>⟨?_,?_⟩⟩
 ·have h9:(eD (eJ r ⟨v,d,(hG r v po s p).2⟩ (hG r v po s p).1) v d).isSome=true:=by
   rw [mN,if_pos ⟨I,I⟩];rfl
  have h8:=zW hn hV h9;unfold kN;rw [h8,Dz hn g1 hv g2 (.inl mZ) H7 hm,g4]
 ·unfold kN;rw [G7 hn g1 g2 (.inl mZ) H7 hne,g6 w y _ hy]
 ·unfold kN;rw [mN,if_neg fun e=>hne ⟨e.1.symm,e.2.symm⟩,g5 w y hy]
theorem LW {g f:Po->Bool}:(po.filter g).filter f=po.filter fun p=>g p&&f p:=by
 rw [Zbu];refine Zbc fun p _=>?_;rw [Bool.and_comm]
theorem Q0 {r:Ro} (hn:oE r) (h:jh r po) {g f:Po->Bool} (hg:∀ p∈po,p.ou∈cQ r->g p=true)
  (D6:∀ p∈po.filter g,p.ou∈cE r->f p=true) (H7:∀ p∈po.filter g,∀ q∈po.filter g,f q=true->q.lv=p.lv->q.ip=p.ou->f p=true) (X5:∀ p∈po.filter g,f p=true->p.ou∈cE r\/∃ q∈po.filter g,f q=true/\q.lv=p.lv/\q.ip=p.ou) :
  jh r ((po.filter g).filter f)/\(∀ v y,y∈cE r->(∀ p∈po,p.lv=v->p.ou=y->g p=true)->eD ((po.filter g).filter f) v y=eD po v y/\qy ((po.filter g).filter f) v (cK r) y=qy po v (cK r) y) /\
  (∀ v y,(∀ p∈po,p.lv=v->p.ou=y->g p=false)->eD ((po.filter g).filter f) v y=none):=by
 have h1:=jh.one h.rU;have hm:∀ p,p∈po.filter g↔p∈po/\g p=true:=fun p=>Zr
 have hk:∀ {p:Po},(g p&&f p)=true↔g p=true/\f p=true:=fun {p}=>Zm _ _ ▸ Iff.rfl
 rw [LW];have gq:∀ q∈po,(g q&&f q)=true->∀ p∈po,p.lv=q.lv->p.ou=q.ip->(g p&&f p)=true:=by
  intro q hq hkq p hp hv ho;obtain ⟨oA,lo⟩:=hk.1 hkq;have ht:p.ou∈cQ r:=by
   rcases h.xX q hq with hs | ht
   ·rcases h.out p hp with hd | hd
    ·exact absurd hd (by rw [ho];exact hn.sd _ hs)
    ·exact hd
   ·rw [ho];exact ht
  have br:=hg p hp ht;exact hk.2 ⟨br,H7 p ((hm p).2 ⟨hp,br⟩) q ((hm q).2 ⟨hq,oA⟩) lo hv.symm ho.symm⟩
 refine ⟨jh.filter hn h _ (fun p hp ht q hq hkq hv hi=>gq q hq hkq p hp hv.symm hi.symm) (fun p hp ht hkp=>?_),fun v y hy ba=>?_,fun v y yB=>?_⟩
 ·obtain ⟨BZ,Qq⟩:=hk.1 hkp;rcases X5 p ((hm p).2 ⟨hp,BZ⟩) Qq with hd | ⟨q,hq,lo,tp,hq4⟩
  ·exact absurd ht (hn.dt _ hd)
  ·exact ⟨q,((hm q).1 hq).1,hk.2 ⟨((hm q).1 hq).2,lo⟩,tp,hq4⟩
 ·have eO:∀ p∈po,p.lv=v->p.ou=y->(g p&&f p)=true:=fun p hp Oa oQ=>by
   have br:=ba p hp Oa oQ;exact hk.2 ⟨br,D6 p ((hm p).2 ⟨hp,br⟩) (by rw [oQ];exact hy)⟩
  refine ⟨?_,?_⟩
  ·cases hi:eD po v y with
   | none=>exact iX.2 fun p hp=>iX.1 hi p (Zr.1 hp).1
   | some u =>
    obtain ⟨q,hq,N9,R7,rfl⟩:=fG hi;have:=lG (h1.filter fun p=>g p&&f p) (Zr.2 ⟨hq,eO q hq N9 R7⟩)
    rwa [N9,R7] at this
  ·unfold qy iI;rw [xH (f:=fun p=>g p&&f p) h1 gq eO]
 ·refine iX.2 fun p hp e=>?_;obtain ⟨BZ,Qq⟩:=Zr.1 hp;have:=yB p BZ e.1 e.2;rw [(hk.1 Qq).1] at this;cases this
structure Jb where
 v:Int
 s:ByteArray
 d:ByteArray
def tA (r:Ro) (W:List Po->Jb->Option (List Nat)):List Po->List Jb->Option (List Po)
 | po,[]=>some po
 | po, j :: l => match W po j with
  | none=>none
  | some p=>tA r W (kN r po j.v j.s p j.d) l
theorem AL {r:Ro} {W:List Po->Jb->Option (List Nat)} (hn:oE r) (hd:(cQ r).Nodup) (hW:∀ po j p,W po j=some p->(dG r po j.v j.s).ok p/\(dG r po j.v j.s).fin p=kP r j.d) :
  ∀ (l:List Jb) (po qn:List Po),jh r po->(∀ j∈l,(0<=j.v/\j.v<r.lv)/\j.s∈cK r/\j.d∈cE r/\eD po j.v j.d=none)->l.Pairwise (fun a b=>¬(b.v=a.v/\b.d=a.d))->tA r W po l=some qn ->
  jh r qn/\(∀ j∈l,qy qn j.v (cK r) j.d=j.s)/\∀ v y,y∈cE r->(∀ j∈l,¬(v=j.v/\y=j.d))->qy qn v (cK r) y=qy po v (cK r) y/\eD qn v y=eD po v y
 | [], po, qn, hv, _, _, hr => by
  rw [tA] at hr;cases hr;exact ⟨hv,fun j hj=>absurd hj Zo,fun _ _ _ _=>⟨I,I⟩⟩
 | j :: l, po, qn, hv, hj, hp, hr => by
  rw [tA] at hr;cases hw:W po j with
  | none=>rw [hw] at hr;cases hr
  | some p =>
   rw [hw] at hr;obtain ⟨tO,hs,mZ,Bl⟩:=hj j Zu;obtain ⟨dU,pG⟩:=hW po j p hw;obtain ⟨hV,hc,ho⟩:=KN hn hd tO hv hs mZ Bl dU pG;obtain ⟨BZ,Qq⟩:=ZaV.1 hp;obtain ⟨k1,k2,k3⟩:=AL hn hd hW l _ qn hV (fun x hx=>by
    obtain ⟨a1,a2,a3,a4⟩:=hj x (ZM _ hx);exact ⟨a1,a2,a3,by rw [(ho x.v x.d a3 (BZ x hx)).2];exact a4⟩) Qq hr
   refine ⟨k1,fun x hx=>?_,fun v y hy hne=>?_⟩
   ·rcases ZS.1 hx with rfl | hx
    ·rw [(k3 x.v x.d mZ fun z hz e=>BZ z hz ⟨e.1.symm,e.2.symm⟩).1]
     exact hc
    ·exact k2 x hx
   ·obtain ⟨b1,b2⟩:=k3 v y hy fun z hz=>hne z (ZM _ hz);obtain ⟨c1,c2⟩:=ho v y hy (hne j Zu);exact ⟨b1.trans c1,b2.trans c2⟩
def kh {α:Type} (lt:α->α->Bool):α->List α->α
 | b,[]=>b
 | b,x::l=>kh lt (if lt x b then x else b) l
theorem mQ {α:Type} {lt:α->α->Bool} (Uq:∀ {a b c},lt a b=true->lt b c=true->lt a c=true) (VW:∀ {a b},a≠b->lt a b=true\/lt b a=true) (hir:∀ a,lt a a=false) :
  ∀ (l:List α) (b:α),kh lt b l∈b::l/\∀ q∈b::l,lt q (kh lt b l)=false
 | [],b=>⟨Zu,fun q hq=>by
   rcases ZS.1 hq with rfl | hq
   ·exact hir _
   ·exact absurd hq Zo⟩
 | x :: l, b => by
  rw [kh];by_cases hx:lt x b=true
  ·rw [if_pos hx];obtain ⟨h1,h2⟩:=mQ (lt:=lt) Uq VW hir l x;refine ⟨ZM _ h1,fun q hq=>?_⟩;rcases ZS.1 hq with rfl | hq
   ·cases hb:lt q (kh lt x l) with
    | false=>rfl
    | true =>
     have:=Uq hx hb;rw [h2 x Zu] at this;exact this.symm
   ·exact h2 q hq
  ·rw [if_neg hx];obtain ⟨h1,h2⟩:=mQ (lt:=lt) Uq VW hir l b;refine ⟨?_,fun q hq=>?_⟩
   ·rcases ZS.1 h1 with h | h
    ·rw [h];exact Zu
    ·exact ZM _ (ZM _ h)
   ·rcases ZS.1 hq with rfl | hq
    ·exact h2 q Zu
    ·rcases ZS.1 hq with rfl | hq
     ·cases hb:lt q (kh lt b l) with
      | false=>rfl
      | true =>
       by_cases he:q=b
       ·subst he;rw [h2 q Zu] at hb;exact hb.symm
       ·have:=Uq ((VW he).resolve_left hx) hb;rw [h2 b Zu] at this;exact this.symm
     ·exact h2 q (ZM _ hq)
theorem Wn.Vv {d:Int} {a:List Nat} {l:List (List Nat)} (h:N.all d (N.n+1) []=a::l):N.least d (kh N.lt a l):=by
 obtain ⟨h1,h2⟩:=mQ (lt:=N.lt) (fun {_ _ _}=>N.lt_trans) (fun {_ _}=>N.wN) N.lt_irrefl l a;rw [<- h] at h1 h2;obtain ⟨k1,k2⟩:=Wn.vu N.nW h1;refine ⟨k1,k2,fun q hq hf=>h2 q ?_⟩;exact Wn.BO (p:=[]) (r:=q) hq hf (Nat.lt_succ_of_le (Wn.rk hq))
theorem Wn.all_none {d:Int} (h:N.all d (N.n+1) []=[]) (p:List Nat) (hp:N.ok p):N.fin p≠d:=fun hf=>by
 have:=Wn.BO (p:=[]) (r:=p) (k:=N.n+1) hp hf (Nat.lt_succ_of_le (Wn.rk hp));rw [h] at this;exact absurd this Zo
def HT (f:ByteArray->Int):List ByteArray->List ByteArray->Bool
 | x::a,y::b=>if x=y then HT f a b else decide (f x<f y)
 | _,_=>false
theorem zC {r:Ro} (hd:(cQ r).Nodup):∀ {a b:List Nat},(∀ i∈a,i<r.ti.length)->(∀ i∈b,i<r.ti.length)->a.length=b.length->HT (bC (cQ r)) (a.map (dh r)) (b.map (dh r))=lexB a b
 | [],[],_,_,_=>rfl
 | i :: a, j :: b, ha, hb, hl => by
  have hi:=ha i Zu;have hj:=hb j Zu;have ih:=zC hd (fun x hx=>ha x (ZM _ hx)) (fun x hx=>hb x (ZM _ hx)) (by simpa using hl) (a:=a) (b:=b)
  rw [Z3,Z3,HT,lexB,ih];by_cases h:i=j
  ·subst h;rw [if_pos I];simp
  ·rw [if_neg fun e=>h (vf hd hi hj e),sP hd hi,sP hd hj]
   by_cases aK:i<j
   ·simp [aK]
   ·simp [aK,h]
def yG (po:List Po) (v:Int) (l:List ByteArray):Nat:=l.countP fun x=>!gL po v x
theorem zN {r:Ro} (p:List Nat):yG po v (p.map (dh r))=(dG r po v s).sO p:=by
 unfold yG Wn.sO;rw [List.countP_map]
 rfl
def lsN (r:Ro) (po:List Po) (v:Int) (a b:List ByteArray):Bool:=
 if yG po v a≠yG po v b then decide (yG po v a<yG po v b) else if a.length≠b.length then decide (a.length<b.length) else HT (bC (cQ r)) a b
theorem LN {r:Ro} (hd:(cQ r).Nodup) {a b:List Nat} (ha:∀ i∈a,i<r.ti.length) (hb:∀ i∈b,i<r.ti.length):lsN r po v (a.map (dh r)) (b.map (dh r))=(dG r po v s).lt a b:=by
 unfold lsN Wn.lt;rw [zN (s:=s) a,zN (s:=s) b,Zd,Zd];by_cases h1:(dG r po v s).sO a=(dG r po v s).sO b
 ·rw [if_neg (by simp [h1])];by_cases h2:a.length=b.length
  ·rw [if_neg (by simp [h2]),zC hd ha hb h2];simp [h1,h2]
  ·rw [if_pos h2];simp [h1,h2]
 ·rw [if_pos h1];simp [h1]
def VN (r:Ro) (po:List Po) (v:Int) (s:ByteArray):Bool->Int->List ByteArray->Option Int
 | _,m,[]=>some m
 | b,m,x::l=>if (b&&(gL po v x&&decide (qy po v (cK r) x=s)))||(!gL po v x&&decide (kP r x=m)) then VN r po v s false (kq r x) l else none
theorem JY {r:Ro} {po:List Po} {v:Int} {s:ByteArray} (hn:oE r) (hd:(cQ r).Nodup) {m:Int}:∀ (q u:List Nat),(dG r po v s).ok u->(u++q).Nodup->(∀ i∈q,i<r.ti.length) ->
  (VN r po v s u.isEmpty ((dG r po v s).fin u) (q.map (dh r))=some m↔(dG r po v s).ok (u++q)/\(dG r po v s).fin (u++q)=m)
 | [], u, hu, _, _ => by
  rw [ZJ];show some _=some _↔_;rw [Option.some.injEq];exact ⟨fun h=>⟨hu,h⟩,fun h=>h.2⟩
 | i :: q, u, hu, jw, hq => by
  have hi:=hq i Zu;have e:u++i::q=(u++[i])++q:=by simp
  have hiu:i ∉ u:=fun h=>by
   have:=(ZG.1 jw).2.2 i h i Zu;exact this I
  have hc:u.contains i=false:=by
   cases hx:u.contains i with
   | false=>rfl
   | true=>exact absurd (ZaI.1 hx) hiu
  have iY:(dG r po v s).step u i=((u.isEmpty&&(gL po v (dh r i)&&decide (qy po v (cK r) (dh r i)=s)))||(!gL po v (dh r i)&&decide (kP r (dh r i)=(dG r po v s).fin u))):=by
   unfold Wn.step;rw [hc,AZ hn hd hi];have:decide (i<(dG r po v s).n)=true:=decide_eq_true hi;rw [this];rfl
  rw [Z3,VN,<- iY];by_cases hs:(dG r po v s).step u i=true
  ·rw [if_pos hs,e];have Up:=Wn.jI.2 ⟨hu,hs⟩;have ih:=JY hn hd (m:=m) q (u++[i]) Up (by rw [<- e];exact jw) fun x hx=>hq x (ZM _ hx)
   rw [Wn.l6] at ih;have he:(u++[i]).isEmpty=false:=by simp
   rw [he] at ih;rw [vA hn hd hi];exact ih
  ·rw [if_neg hs];refine ⟨fun h=>(by cases h),fun h=>?_⟩;rw [e] at h;exact absurd (Wn.jI.1 (Wn.wE h.1 (ZaU (u++[i]) q))).2 hs
theorem Xd {r:Ro} (hn:oE r) (hd:(cQ r).Nodup) {m:Int} {q:List Nat} (jw:q.Nodup) (hq:∀ i∈q,i<r.ti.length) :
  VN r po v s true (kq r s) (q.map (dh r))=some m↔(dG r po v s).ok q/\(dG r po v s).fin q=m:=
 JY hn hd q [] (Wn.nW _) jw hq
inductive Wn.Rc (N:Wn):Int->Prop
 | FA:Wn.Rc N N.FA
 | ca {i:Nat}:i<N.n->N.ca i=true->Wn.Rc N (N.to i)
 | fe {i:Nat}:i<N.n->N.fe i=true->Wn.Rc N (N.fr i)->Wn.Rc N (N.to i)
theorem zd {k:Nat} (h:k<p.length):p.take (k+1)=p.take k++[p[k]]:=by
 rw [Zl h]
theorem Wn.Gj (h:N.ok p):∀ k,k<=p.length->N.Rc (N.fin (p.take k))
 | 0,_=>by rw [Ze];exact .FA
 | k + 1, hk => by
  have ih:=Wn.Gj h k (by omega);have hs:=h k (by omega);rw [zd (by omega),Wn.l6];have aK:=Wn.qj hs;unfold Wn.step at hs;simp only [Zm,ZT,decide_eq_true_eq] at hs;rcases hs.2.2 with ⟨_,hc⟩ | ⟨hf,he⟩
  ·exact .ca aK hc
  ·exact .fe aK hf (he ▸ ih)
theorem Wn.WV (h:N.ok p):N.Rc (N.fin p):=by
 have:=Wn.Gj h p.length (Zy _);rwa [ZK] at this
theorem Wn.W8 {m:Int} (h:N.Rc m):∃ p,N.ok p/\N.fin p=m:=by
 induction h with
 | FA=>exact ⟨[],N.nW,rfl⟩
 | @ca i hi hc =>
  refine ⟨[]++[i],Wn.jI.2 ⟨N.nW,?_⟩,Wn.l6 _ _ _⟩;unfold Wn.step;simp [hi,hc]
 | @fe i hi hf _ ih =>
  obtain ⟨p,hp,he⟩:=ih;by_cases hm:i∈p
  ·obtain ⟨k,hk,rfl⟩:=Zw hm;exact ⟨p.take (k+1),Wn.Gt hp _,by rw [zd hk,Wn.l6]⟩
  ·refine ⟨p++[i],Wn.jI.2 ⟨hp,?_⟩,Wn.l6 _ _ _⟩;unfold Wn.step;simp [hi,hf,he,hm]
def Wn.Y8 (N:Wn) (S:Int->Prop):Prop:=S N.FA/\∀ i,i<N.n->(N.ca i=true\/N.fe i=true/\S (N.fr i))->S (N.to i)
theorem Wn.WW {S:Int->Prop} (h:N.Y8 S) {m:Int} (hm:N.Rc m):S m:=by
 induction hm with
 | FA=>exact h.1
 | ca hi hc=>exact h.2 _ hi (.inl hc)
 | fe hi hf _ ih=>exact h.2 _ hi (.inr ⟨hf,ih⟩)
theorem Wn.Ps {S:Int->Prop} (h:N.Y8 S) (hS:∀ m,S m->N.Rc m) (m:Int):S m↔N.Rc m:=⟨hS m,Wn.WW h⟩
theorem Nx {o:ByteArray}:gL po v o=true↔∃ p∈po,p.lv=v/\p.ou=o:=by
 unfold gL;constructor
 ·intro h;obtain ⟨i,hi⟩:=Zag.1 h;obtain ⟨p,hp,h1,h2,_⟩:=fG hi;exact ⟨p,hp,h1,h2⟩
 ·rintro ⟨p,hp,h1,h2⟩;cases hq:eD po v o with
  | some _=>rfl
  | none=>exact absurd ⟨h1,h2⟩ (iX.1 hq p hp)
theorem Rp {po qo:List Po} (h:po.Perm qo) (v:Int) (o:ByteArray):gL po v o=gL qo v o:=by
 rw [ZaQ,Nx,Nx];exact ⟨fun ⟨p,hp,e⟩=>⟨p,h.mem_iff.1 hp,e⟩,fun ⟨p,hp,e⟩=>⟨p,h.mem_iff.2 hp,e⟩⟩
def rG (r:Ro) (v:Int):List Po->ByteArray->List Nat->List Po×ByteArray
 | po,x,[]=>(po,x)
 | po,x,i::p=>rG r v (if gL po v (dh r i) then po else po++[⟨v,dh r i,x⟩]) (dh r i) p
theorem vK {r:Ro} {v:Int}:∀ (q:List Nat) (po qo:List Po) (x:ByteArray),po.Perm qo->(hG r v po x q).1.Perm (rG r v qo x q).1/\(hG r v po x q).2=(rG r v qo x q).2
 | [],po,qo,x,h=>⟨h,rfl⟩
 | i :: q, po, qo, x, h => by
  rw [hG,rG,Rp h v (dh r i)];by_cases hb:gL qo v (dh r i)=true
  ·rw [if_pos hb,if_pos hb];exact vK q po qo _ h
  ·rw [if_neg hb,if_neg hb];exact vK q _ _ _ ((lP r _ po).trans ((h.cons _).trans (List.perm_append_singleton _ _).symm))
theorem set_perm {r:Ro} {s d:ByteArray}:(kN r po v s p d).Perm ((rG r v po s p).1++[⟨v,d,(rG r v po s p).2⟩]):=by
 obtain ⟨h1,h2⟩:=vK (r:=r) (v:=v) p po po s (List.Perm.refl _);unfold kN;rw [h2];exact (lP r _ _).trans ((h1.cons _).trans (List.perm_append_singleton _ _).symm)
theorem KM {r:Ro} {po S:List Po} {s d:ByteArray} (hv:(kN r po v s p d).Pairwise (fun a b=>ng r a b=true)) (hS:S.Perm ((rG r v po s p).1++[⟨v,d,(rG r v po s p).2⟩])) (hs:S.Pairwise (fun a b=>¬ ng r b a=true)):S=kN r po v s p d:=by
 have hp:(kN r po v s p d).Perm S:=set_perm.trans hS.symm;have hk:S.Pairwise (fun a b=>ng r a b=true\/ng r b a=true):=(List.Perm.pairwise_iff (fun {_ _} h=>h.symm) hp).1 (hv.imp fun h=>.inl h)
 have ba:S.Pairwise (fun a b=>ng r a b=true):=(List.Pairwise.and hk hs).imp fun h=>h.1.resolve_right h.2
 exact oV (fun a b h=>HP a b h) ba hv hp.symm
end Go.Proofs.A1
namespace Go.SL
open Go
def qL (P:Program) (c:Cx) (sl:aL) (hs:List bd) (o:Oper) (V:Nat->Value) (ob:Obj):Prop:=
 (∀ d,o.op≠.defer d)/\∀ a w,cg sl a->Mem c hs w->(execOp a.eval o).run P w=.ok (.value (V w.heap.size)) (w.alloc ob)
section
variable {P:Program} {r:Option Nat} {c:Cx} {D:List Nat} {sl:aL} {hs hs':List bd} {ops:Array Oper} {Q:Exit->Act->World->Prop} {d:Nat} {dst:Option Tmp} {op:Op} {ty:TypeId} {pos:String} {af:Array Edge} {g:Option (Nat×Bool)} {rest:List Oper}
variable {As:List bd} {R:Ending->World->Prop} {V:Nat->Value} {agg:Bool} {args:List Value} {b:Nat} {cs:List Value} {f:FuncId} {n:Nat} {ob:Obj} {places:List (Nat×Nat)} {vs:List Value} {x:Operand} {xs:List (Nat×Operand)} {z:Value}
theorem bj 
  (hr:qL P c sl hs ⟨some d,op,ty,pos,af,none⟩ V ob) (hd:Nat.blt d c.nt=true) (k:∀ b,c.w0.heap.size<=b->Tr c D ((d,V b)::sl) (bE b ob::hs) (WL P r ops Q rest)) :
  Tr c D sl hs (WL P r ops Q (⟨some d,op,ty,pos,af,none⟩::rest)):=fun a w ba=>by
 refine nn I ⟨eA _ _ _ _ _,?_⟩;rw [Oper.semAt_eq _ _ _ hr.1,hr.2 a w ba.du ba.pq];have h1:=(ba.put (by simpa [Zac] using hd) (V w.heap.size));exact k w.heap.size ba.pq.keeps.size _ _ (h1.heap (ba.mem.alloc ob))
theorem K5 {t:TypeId} {v:Value} (hx:Is sl x v) (hc:v.cells=cs.toArray):qL P c sl hs ⟨dst,.box t x,ty,pos,af,g⟩ (fun b=>.p b) (.cells cs.toArray t):=
 ⟨by simp,fun a w ha _=>by simp [execOp,hx a ha,Instr.box,newVar,newRow,hc]⟩
theorem o8 {t:TypeId} [mn P t z] (hc:z.cells=cs.toArray):qL P c sl hs ⟨dst,.alloc t,ty,pos,af,g⟩ (fun b=>.p b) (.cells cs.toArray t):=
 ⟨by simp,fun a w _ _=>by simp [execOp,Instr.alloc,jc (t:=t) (v:=z),newVar,newRow,hc]⟩
theorem EB {t:TypeId}:qL P c sl hs ⟨dst,.makeMap t none,ty,pos,af,g⟩ (fun b=>.map (some b)) (.map #[] 0):=
 ⟨by simp,fun a w _ _=>by simp [execOp,Instr.makeMap]⟩
theorem kH {t:TypeId} {parts:Array (Nat×Operand)} {ps:Array (Nat×Value)}
  (hp:∀ a,cg sl a->(parts.map fun (i,x)=>(i,a.eval x))=ps) (hb:∀ w,(Instr.buildSlice t n ps).run P w=.ok (V w.heap.size) (w.alloc ob)) :
  qL P c sl hs ⟨dst,.buildSlice t n parts,ty,pos,af,g⟩ V ob:=
 ⟨by simp,fun a w ha _=>by simp only [execOp,hp a ha,Sem.run_bind,hb w,Result.andThen_ok,Sem.run_pure]⟩
def wB (vs:List Value):Array (Nat×Value):=(vs.zipIdx.map fun (v,i)=>(i,v)).toArray
theorem zR:∀ (vs:List Value) (k:Nat) (acc:List Value),(∀ v∈vs,v.oneCell'=true)->k+vs.length<=acc.length ->
  Instr.fill (fun i=>some (i*1,1)) acc.toArray ((vs.zipIdx k).map fun (v,i)=>(i,v))=some (acc.take k++vs++acc.drop (k+vs.length)).toArray
 | [],k,acc,_,_=>by simp [Instr.fill]
 | v :: vs, k, acc, h1, h2 => by
  have hv:=h1 v (by simp);have hc:v.cells=#[v]:=by cases v <;> simp_all [Value.cells,Value.oneCell']
  simp only [ZA] at h2;have e:Array.foldl (fun cs (x:Value×Nat)=>cs.setIfInBounds (k*1+x.2) x.1) acc.toArray #[v].zipIdx=(acc.set k v).toArray:=by
   simp
  simp only [List.zipIdx_cons,Z3,Instr.fill,hc];rw [if_neg (by simp;omega)];simp only [e];rw [zR vs (k+1) (acc.set k v) (fun u hu=>h1 u (by simp [hu])) (by simp;omega)]
  congr 1;have hk:k<acc.length:=by omega
  simp only [ZA,Zh,Zb];rw [List.take_set,List.drop_set_of_lt (by omega)];rw [show k+1+vs.length=k+(vs.length+1) from by omega];congr 1;rw [Zl hk];rw [List.set_append_right _ _ (by simp;omega)];simp [Zbv (Nat.le_of_lt hk)]
theorem wi {t e:TypeId} [hu:ja P t (.slice e)] [Ty P e false 1] [mn P e z] {vs:List Value} (hl:vs.length=n) (hn:n<=1000) (hz:z.oneCell'=true) (hv:∀ v∈vs,v.oneCell'=true) (w:World) :
  (Instr.buildSlice t n (wB vs)).run P w=.ok (.slice (some ⟨w.heap.size,0,none⟩) n n) (w.alloc (.cells vs.toArray e)):=by
 have hzc:z.cells=#[z]:=by cases z <;> simp_all [Value.cells,Value.oneCell']
 unfold Instr.buildSlice;simp only [Sem.run_bind,aY hu.eq,Result.andThen_ok,gp (t:=e) (agg:=false) (n:=1),Zar];rw [if_neg (by omega)];have hf:∀ (zz:Array Value),zz.size=n->Instr.fill (fun i=>some (i,1)) zz (wB vs).toList=some vs.toArray:=by
  intro zz hzz;have:=zR vs 0 zz.toList hv (by simp [hl,hzz]);simp only [ZaY,Zar] at this;simp only [wB];rw [this];simp [hl,hzz]
 by_cases h0:n=0
 ·subst h0;simp only [if_true,Sem.run_bind,Sem.run_pure,Result.andThen_ok];rw [hf _ (by simp)];simp [newRow]
 ·rw [if_neg h0];simp only [Sem.run_bind,jc (t:=e) (v:=z),Result.andThen_ok,Sem.run_pure,hzc];rw [hf _ (by simp)];simp [newRow]
def setCells:List Value->Nat->List Value->List Value
 | cs,_,[]=>cs
 | cs,o,v::vs=>setCells (cs.set o v) (o+1) vs
theorem lg:∀ (vs:List Value) (cs:List Value) (o:Nat),(setCells cs o vs).length=cs.length
 | [],_,_=>rfl
 | v::vs,cs,o=>by simp [setCells,lg vs]
def setBlock (w:World) (b:Nat) (ob:Obj):World:={ w with heap:=w.heap.setIfInBounds b ob }
theorem aJ.setBlock (w:World) (b:Nat) (ob:Obj):aJ [b] w (setBlock w b ob):=
 ⟨I,I,I,Zy _,by simp [SL.setBlock],fun k hk hm=>by
  have:b≠k:=fun e=>hm (by simp [e])
  simp [SL.setBlock,ZO this]⟩
theorem mT {w:World} (h:b<w.heap.size):(setBlock w b ob).heap[b]? = some ob:=by simp [setBlock,h]
theorem uY {w:World} {cs:Array Value} {E:TypeId} (h:w.heap[b]? = some (.cells cs E (0,0))) (o:Nat):w.frozen? ⟨b,o,none⟩=false:=by
 simp [World.frozen?,h]
theorem yo {w:World} {E:TypeId} (h:w.heap[b]? = some (.cells cs.toArray E (0,0))) (o:Nat) (v:Value):w.setCell ⟨b,o,none⟩ v=setBlock w b (.cells (cs.set o v).toArray E (0,0)):=by
 unfold World.setCell setBlock;congr 1;apply Array.ext_getElem?;intro k;rw [Zbk];by_cases hk:b=k
 ·subst hk;have:=kV (w:=w) h;rw [if_pos I,h,Array.getElem?_setIfInBounds_self_of_lt this];simp
 ·rw [if_neg hk,ZO hk]
theorem jz {b o:Nat} {E:TypeId}:∀ (vs:List Value) (i:Nat) (cs:List Value) (w:World),w.heap[b]? = some (.cells cs.toArray E (0,0))->(∀ v∈vs,v.oneCell'=true)->o+i+vs.length<=cs.length ->
  ∃ w',(storeCells ⟨b,o,none⟩ vs i).run P w=.ok () w'/\aJ [b] w w'/\w'.heap[b]? = some (.cells (setCells cs (o+i) vs).toArray E (0,0))
 | [],i,cs,w,h,_,_=>⟨w,rfl,.refl _ _,h⟩
 | v :: vs, i, cs, w, h, h1, h2 => by
  simp only [ZA] at h2;have aK:=kV (w:=w) h;have ba:(store (Addr.add ⟨b,o,none⟩ i) v).run P w=.ok () (setBlock w b (.cells (cs.set (o+i) v).toArray E (0,0))):=by
   rw [eM,run_store P w _ v .plain (h1 v (by simp)),cell_of_block h];have:(cs.toArray)[o+i]? = some (cs[o+i]'(by omega)):=by simp
   rw [this];simp only [uY h,ZaT,if_false,yo h]
  obtain ⟨w',h3,h4,h5⟩:=jz (o:=o) vs (i+1) (cs.set (o+i) v) (setBlock w b (.cells (cs.set (o+i) v).toArray E (0,0))) (mT aK) (fun u hu=>h1 u (by simp [hu])) (by simp;omega);refine ⟨w',?_,(aJ.setBlock w b _).trans h4,by rw [h5];rfl⟩;simp only [storeCells,Sem.run_bind,ba,Result.andThen_ok,h3]
theorem CF {t:TypeId} [Ty P t agg n] {b o:Nat} {E:TypeId} {v:Value} {vs cs:List Value} {w:World} (h:w.heap[b]? = some (.cells cs.toArray E (0,0))) (hv:v.cells=vs.toArray) (hl:vs.length=n)
  (h1:∀ u∈vs,u.oneCell'=true) (h2:o+n<=cs.length) :
  ∃ w',(storeVar t ⟨b,o,none⟩ v).run P w=.ok () w'/\aJ [b] w w'/\w'.heap[b]? = some (.cells (setCells cs o vs).toArray E (0,0)):=by
 obtain ⟨w',h3,h4,h5⟩:=jz (P:=P) (o:=o) vs 0 cs w h h1 (by omega);refine ⟨w',?_,h4,h5⟩;unfold storeVar;rw [Sem.run_bind,gp (t:=t) (agg:=agg) (n:=n),Result.andThen_ok,if_neg (by simp [hv,hl])];simpa [hv] using h3
theorem ao {t:TypeId} [Ty P t agg n] {x y:Operand} {b o:Nat} {E:TypeId} {v:Value} {vs cs SP:List Value} (hx:Is sl x (.pointer (some ⟨b,o,none⟩))) (hy:Is sl y v)
  (ht:Take hs (bE b (.cells cs.toArray E (0,0))) hs') (hv:v.cells=vs.toArray) (hl:vs.length=n) (h1:∀ u∈vs,u.oneCell'=true) (h2:o+n<=cs.length) (he:setCells cs o vs=SP)
  (k:Tr c D sl (bE b (.cells SP.toArray E (0,0))::hs') (WL P r ops Q rest)) :
  Tr c D sl hs (WL P r ops Q (⟨none,.store t x y,ty,pos,af,none⟩::rest)):=fun a w ba=>by
 subst he;have hm:=ba.mem.take (ht.append _);obtain ⟨w',h3,h4,h5⟩:=CF (P:=P) (t:=t) (o:=o) (hm.bE .here) hv hl h1 h2;refine nn I ⟨eA _ _ _ _ _,?_⟩;rw [Oper.semAt_eq _ _ _ (by simp)];have:(execOp a.eval ⟨none,.store t x y,ty,pos,af,none⟩).run P w=.ok .skip w':=by
  simp [execOp,hx a ba.du,hy a ba.du,Instr.storeAt,Instr.sureAddr,h3]
 rw [this];exact k _ _ (ba.heap (Mem.store hm h4 h5))
theorem Dw (off:Nat):∀ (vs:List Value) (k:Nat) (cs:List Value),(vs.zipIdx k).foldl (fun (cs:Array Value) (x:Value×Nat)=>cs.setIfInBounds (off+x.2) x.1) cs.toArray=(setCells cs (off+k) vs).toArray
 | [],_,_=>rfl
 | v :: vs, k, cs => by
  simp only [List.zipIdx_cons,List.foldl_cons,List.setIfInBounds_toArray,setCells];exact Dw off vs (k+1) (cs.set (off+k) v)
def uL (places:List (Nat×Nat)):List Value->List (Nat×Value)->Option (List Value)
 | cs,[]=>some cs
 | cs, (i, v) :: rest =>
  match places[i]? with
  | some (off,size)=>if v.cells.size=size/\off+size<=cs.length then uL places (setCells cs off v.cells.toList) rest else none
  | none=>none
theorem fill_eq {places:List (Nat×Nat)} {f:Nat->Option (Nat×Nat)} (hf:∀ i x,places[i]? = some x->f i=some x):∀ (ps:List (Nat×Value)) (cs SP:List Value),uL places cs ps=some SP->Instr.fill f cs.toArray ps=some SP.toArray
 | [],cs,SP,h=>by simp only [uL,Option.some.injEq] at h;simp [Instr.fill,h]
 | (i, v) :: rest, cs, SP, h => by
  unfold uL at h;split at h
  ·rename_i off size hp;split at h
   ·rename_i hc;have h2:=fill_eq hf rest _ _ h;unfold Instr.fill;simp only [hf i _ hp];rw [if_neg (by simp [hc.1];omega)];rw [<- h2];congr 1;have:=Dw off v.cells.toList 0 cs;simp only [Zaw] at this;rw [<- this,<- Array.foldl_toList];simp
   ·cases h
  ·cases h
def zX (P:Program) (t:TypeId):Option (List (Nat×Nat)×List Value):=
 match P.underlying t,P.info? t with
 | some (.struct fs), some i => match i.zero, fs.toList.mapM (fun f => (P.info? f.type).map fun j => (f.offset, j.size)) with
  | some z,some ps=>some (ps,z.cells.toList)
  | _,_=>none
 | some (.array n e), some i => match i.zero, P.info? e with
  | some z,some j=>some ((List.range n).map (fun k=>(k*j.size,j.size)),z.cells.toList)
  | _,_=>none
 | _,_=>none
class DX (P:Program) (t:TypeId) (ps:outParam (List (Nat×Nat))) (z:outParam (List Value)):Prop where
 eq:zX P t=some (ps,z)
theorem wL {w:World}:∀ (fs:List Field) (ps:List (Nat×Nat)),fs.mapM (fun f=>(P.info? f.type).map fun j=>(f.offset,j.size))=some ps ->
  (fs.mapM (fun (f:Field)=>(do pure (f.offset,<- sizeOf f.type):Sem (Nat×Nat)))).run P w=.ok ps w
 | [],ps,h=>by simp at h;simp [h]
 | f :: fs, ps, h => by
  simp only [List.mapM_cons,Option.bind_eq_bind,Option.bind_eq_some_iff,Zal,Option.pure_def,Option.some.injEq] at h;obtain ⟨_,⟨j,hj,rfl⟩,qs,hq,rfl⟩:=h;have:=wL (w:=w) fs qs hq;have hsz:(sizeOf f.type).run P w=.ok j.size w:=by simp [sizeOf,gD hj]
  rw [List.mapM_cons];simp only [Sem.run_bind,hsz,Result.andThen_ok,Sem.run_pure,this]
theorem HF {t:TypeId} {z cs:List Value} [h:DX P t places z] {ps:List (Nat×Value)} (hf:uL places z ps=some cs) (w:World):(Instr.build t ps.toArray).run P w=.ok (.agg cs.toArray) w:=by
 have h0:=h.eq;unfold zX at h0;split at h0
 ·rename_i fs i hu hi;split at h0
  ·rename_i zz qs hz hq;simp only [Option.some.injEq,Prod.mk.injEq] at h0;obtain ⟨rfl,rfl⟩:=h0;have h1:(zeroValue t).run P w=.ok zz w:=by simp [zeroValue,gD hi,hz]
   have h2:(fs.mapM (fun (f:Field)=>(do pure (f.offset,<- sizeOf f.type):Sem (Nat×Nat)))).run P w=.ok qs.toArray w:=by
    have:=wL (P:=P) (w:=w) fs.toList qs hq;rw [<- ZaY (xs:=fs),List.mapM_toArray,Sem.run_map,this]
    rfl
   have h3:=fill_eq (f:=fun i=>qs.toArray[i]?) (fun i x hx=>by simpa using hx) ps zz.cells.toList cs hf
   unfold Instr.build;simp only [Sem.run_bind,h1,Result.andThen_ok,aY hu,h2];simp only [ZaY] at h3;rw [h3]
   rfl
  ·cases h0
 ·rename_i n e i hu hi;split at h0
  ·rename_i zz j hz hj;simp only [Option.some.injEq,Prod.mk.injEq] at h0;obtain ⟨rfl,rfl⟩:=h0;have h1:(zeroValue t).run P w=.ok zz w:=by simp [zeroValue,gD hi,hz]
   have h2:(sizeOf e).run P w=.ok j.size w:=by simp [sizeOf,gD hj]
   have h3:=fill_eq (f:=fun i=>some (i*j.size,j.size)) (fun i x hx=>by
    rw [ZE] at hx;obtain ⟨y,hy,rfl⟩:=Zal.1 hx;have:=Zn.1 hy;obtain ⟨aK,he⟩:=this;simp at he;rw [he]) ps zz.cells.toList cs hf
   unfold Instr.build;simp only [Sem.run_bind,h1,Result.andThen_ok,aY hu,h2];simp only [ZaY] at h3;rw [h3]
   rfl
  ·cases h0
 ·cases h0
inductive xQ (sl:aL):List (Nat×Operand)->List (Nat×Value)->Prop
 | nil:xQ sl [] []
 | cons {i:Nat} {x:Operand} {xs:List (Nat×Operand)} {v:Value} {vs:List (Nat×Value)} (h:Is sl x v) (t:xQ sl xs vs):xQ sl ((i,x)::xs) ((i,v)::vs)
theorem xQ.map {vs:List (Nat×Value)} (h:xQ sl xs vs) {a:Act} (ha:cg sl a):(xs.map fun (i,x)=>(i,a.eval x))=vs:=by
 induction h with
 | nil=>rfl
 | cons h _ ih=>simp [h a ha];simpa using ih
theorem aU {t:TypeId} {ps:List (Nat×Value)} {z cs:List Value} [DX P t places z] (hp:xQ sl xs ps) (hf:uL places z ps=some cs) :
  di P c sl hs ⟨dst,.build t xs.toArray,ty,pos,af,g⟩ (.agg cs.toArray):=
 K4 (ps:=ps.toArray) (fun a ha=>by simp [<- hp.map ha]) (fun w=>HF hf w)
inductive ug (sl:aL):Nat->List (Nat×Operand)->List Value->Prop
 | nil {i:Nat}:ug sl i [] []
 | cons {i:Nat} {x:Operand} {xs:List (Nat×Operand)} {v:Value} {vs:List Value} (h:Is sl x v) (t:ug sl (i+1) xs vs):ug sl i ((i,x)::xs) (v::vs)
theorem ug.map {i:Nat} (h:ug sl i xs vs) {a:Act} (ha:cg sl a):(xs.map fun (i,x)=>(i,a.eval x))=(vs.zipIdx i).map fun (v,i)=>(i,v):=by
 induction h with
 | nil=>rfl
 | cons h _ ih=>simp [h a ha];simpa using ih
theorem aG {t e:TypeId} [hu:ja P t (.slice e)] [Ty P e false 1] [mn P e z] (hp:ug sl 0 xs vs)
  (hl:vs.length=n) (hn:Nat.ble n 1000=true) (hz:z.oneCell'=true) (h1:vs.all Value.oneCell'=true) :
  qL P c sl hs ⟨dst,.buildSlice t n xs.toArray,ty,pos,af,g⟩ (fun b=>.w b n n) (.cells vs.toArray e):=
 kH (ps:=wB vs) (fun a ha=>by simp only [wB,<- hp.map ha];simp) (fun w=>wi hl (by simpa using hn) hz (by simpa [Z4] using h1) w)
class bW (P:Program) (f:FuncId):Prop where
 eq:((P.funcs[f]?).map fun fn=>(fn.name == "runtime.NumGoroutine" || fn.body.isNone))=some false
theorem um [h:bW P f] (args:Array Value) (w:World):(callFunc f args).run P w=.ok (.enter f args) w:=by
 have:=h.eq;cases hf:P.funcs[f]? with
 | none=>rw [hf] at this;cases this
 | some fn =>
  rw [hf] at this;simp only [Zbm,Option.some.injEq,Bool.or_eq_false_iff] at this;obtain ⟨h1,h2⟩:=this;simp only [callFunc,Sem.run_bind,run_program,Result.andThen_ok,hf,h1,h2]
  rfl
inductive IH (sl:aL):List Operand->List Value->Prop
 | nil:IH sl [] []
 | cons {x:Operand} {xs:List Operand} {v:Value} {vs:List Value} (h:Is sl x v) (t:IH sl xs vs):IH sl (x::xs) (v::vs)
theorem IH.map {sl:aL} {xs:List Operand} (h:IH sl xs vs) {a:Act} (ha:cg sl a):xs.map a.eval=vs:=by
 induction h with
 | nil=>rfl
 | cons h _ ih=>simp [h a ha,ih]
def mA (P:Program) (sl:aL) (o:Oper) (f:FuncId) (args:List Value):Prop:=
 (∀ d,o.op≠.defer d)/\∀ a w,cg sl a->(execOp a.eval o).run P w=.ok (.enter f args.toArray) w
theorem a7 {xs:List Operand} {ts:Array TypeId} {first vs cap args:List Value} (hx:Is sl x (.func (.func f) first.toArray cap.toArray)) (ha:IH sl xs vs) (hb:bW P f) (he:first++vs++cap=args) :
  mA P sl ⟨dst,.call ⟨.value x,xs.toArray,ts⟩,ty,pos,af,g⟩ f args:=
 ⟨by simp,fun a w hs=>by
  subst he;have h1:=ha.map hs;simp only [execOp,resolve,hx a hs,Deferred.ofValue,Sem.run_bind,Sem.run_pure,Result.andThen_ok,invoke,List.map_toArray,h1,List.append_toArray];exact um (h:=hb) _ _⟩
theorem bD {f:Fn} {xs ys:List Operand} {vs us:List Value} (h1:IH sl xs vs) (h2:IH sl ys us) :
  di P c sl hs ⟨dst,.makeFunc f xs.toArray ys.toArray,ty,pos,af,g⟩ (.func f vs.toArray us.toArray):=
 CL (fun a ha=>by simp [h1.map ha]) (fun a ha=>by simp [h2.map ha])
def a8 (P:Program) (f:FuncId) (args:List Value) (w:World) (md:List Nat) {ι:Type} (Φ:ι->Prop) (val:ι->Value) (own:ι->List bd):Prop:=
 Calls P f args.toArray w fun e w'=>∃ x,e=.returned (val x)/\Φ x/\aJ md w w'/\∃ fp:List Nat,fp.Nodup/\cr (hp w') (own x) fp/\∀ b∈fp,b∈md\/w.heap.size<=b
def aj (P:Program) (f:FuncId) (args:List Value) (w:World) (V:Value):Prop:=
 Calls P f args.toArray w fun e w'=>e=.returned V/\aJ [] w w'
theorem jQ {args:Array Value} {w:World} (h:Calls P f args w R):CallsIn (FR r) n P f args w R:=
 (callsIn_wide (n:=n)).2 h
theorem Ad {o:Oper} {a:Act} {w:World} (hg:o.guard=none) (hr:mA P sl o f args) (hs:cg sl a) (hc:Calls P f args.toArray w R)
  (k:∀ e w',R e w'->∃ v,e=.returned v/\WL P r ops Q rest (a.put o.dst v) w'):WL P r ops Q (o::rest) a w:=by
 refine nn hg ⟨eA _ _ _ _ _,?_⟩;rw [Oper.semAt_eq _ _ _ hr.1,hr.2 a w hs];refine ⟨by simp [FR,Fence.wide],(jQ hc).mono fun e w' h=>?_⟩;obtain ⟨v,rfl,hk⟩:=k e w' h;exact hk
theorem ai {V:Value} (hr:mA P sl ⟨some d,op,ty,pos,af,none⟩ f args) (hd:Nat.blt d c.nt=true) (hc:∀ w,Mem c hs w->aj P f args w V)
  (k:Tr c D ((d,V)::sl) hs (WL P r ops Q rest)):Tr c D sl hs (WL P r ops Q (⟨some d,op,ty,pos,af,none⟩::rest)):=fun a w ba=>
 Ad I hr ba.du (hc w ba.pq) fun e w' ⟨he,hk⟩=>⟨V,he,k _ _ ((ba.put (by simpa [Zac] using hd) V).heap (ba.mem.sC hk))⟩
inductive bB:List bd->List bd->List bd->Prop
 | nil {hs:List bd}:bB hs [] hs
 | cons {hs h1 h2:List bd} {A:bd} {As:List bd} (h:Take hs A h1) (t:bB h1 As h2):bB hs (A::As) h2
theorem bB.h1 {A:bd} {r s t:List bd} (h:bB r s t):bB (A::r) (A::s) t:=.cons .here h
theorem bB.h2 {A B:bd} {r s t:List bd} (h:bB r s t):bB (A::B::r) (A::B::s) t:=.cons .here (.h1 h)
theorem bB.h3 {A B C:bd} {r s t:List bd} (h:bB r s t):bB (A::B::C::r) (A::B::C::s) t:=.cons .here (.h2 h)
theorem bB.h4 {A B C E:bd} {r s t:List bd} (h:bB r s t):bB (A::B::C::E::r) (A::B::C::E::s) t:=.cons .here (.h3 h)
theorem bB.h5 {A B C E F:bd} {r s t:List bd} (h:bB r s t):bB (A::B::C::E::F::r) (A::B::C::E::F::s) t:=.cons .here (.h4 h)
theorem bB.h6 {A B C E F G:bd} {r s t:List bd} (h:bB r s t):bB (A::B::C::E::F::G::r) (A::B::C::E::F::G::s) t:=.cons .here (.h5 h)
theorem bB.h7 {A B C E F G J:bd} {r s t:List bd} (h:bB r s t):bB (A::B::C::E::F::G::J::r) (A::B::C::E::F::G::J::s) t:=.cons .here (.h6 h)
theorem bB.h8 {A B C E F G J K:bd} {r s t:List bd} (h:bB r s t):bB (A::B::C::E::F::G::J::K::r) (A::B::C::E::F::G::J::K::s) t:=.cons .here (.h7 h)
theorem cr.jj {h:Nat->Option Obj} {hs As hs':List bd} (ht:bB hs As hs'):∀ {fp:List Nat},cr h hs fp->∃ f1 f2,cr h As f1/\cr h hs' f2/\fp.Perm (f1++f2):=by
 induction ht with
 | nil=>intro fp hf;exact ⟨[],fp,rfl,hf,.refl _⟩
 | cons h _ ih =>
  intro fp hf;obtain ⟨f1,f2,h1,h2,hp⟩:=hf.take h;obtain ⟨g1,g2,h3,h4,hq⟩:=ih h2;exact ⟨f1++g1,g2,⟨f1,g1,I,h1,h3⟩,h4,hp.trans (by rw [Zh];exact hq.append_left f1)⟩
theorem Mem.jj {w:World} (h:Mem c hs w) (ht:bB hs As hs'):Mem c (As++hs') w:=by
 obtain ⟨k,fp,hn,hs,hb⟩:=h;obtain ⟨f1,f2,h1,h2,hp⟩:=hs.jj ht;exact ⟨k,f1++f2,hp.nodup_iff.1 hn,cr.append_iff.2 ⟨f1,f2,I,h1,h2⟩,fun b dK=>hb b (hp.mem_iff.2 dK)⟩
theorem bB.append (h:bB hs As hs') (m:List bd):bB (hs++m) As (hs'++m):=by
 induction h with
 | nil=>exact .nil
 | cons h _ ih=>exact .cons (h.append m) ih
theorem Mem.Yy {As Bs:List bd} {w w':World} (hm:Mem c (As++hs') w)
  (hs0:∀ fp,fp.Nodup->cr (hp w) As fp->aJ fp w w'/\∃ mw:List Nat,mw.Nodup/\cr (hp w') Bs mw/\∀ b∈mw,b∈fp\/w.heap.size<=b):Mem c (Bs++hs') w':=Mem.change hm hs0
theorem jH {ι:Type} {Φ:ι->Prop} {val:ι->Value} {own:ι->List bd} (hr:mA P sl ⟨some d,op,ty,pos,af,none⟩ f args) (hd:Nat.blt d c.nt=true) (ht:bB hs As hs')
  (hc:∀ w fp,Mem c hs w->fp.Nodup->cr (hp w) As fp->a8 P f args w fp Φ val own)
  (k:∀ x,Φ x->Tr c D ((d,val x)::sl) (own x++hs') (WL P r ops Q rest)):Tr c D sl hs (WL P r ops Q (⟨some d,op,ty,pos,af,none⟩::rest)):=fun a w ba=>by
 have hm:=ba.mem.jj (ht.append (nB D));obtain ⟨kk,fp,hn,iZ,hb⟩:=hm;obtain ⟨f1,f2,rfl,h1,h2⟩:=cr.append_iff.1 iZ;refine Ad I hr ba.du (hc w f1 ba.pq (ZG.1 hn).1 h1) fun e w' ⟨x,he,hx,hk,mw,uD,hs',zL⟩=>⟨val x,he,k x hx _ _ ((ba.put (by simpa [Zac] using hd) (val x)).heap ?_)⟩;obtain ⟨n1,n2,n12⟩:=ZG.1 hn;have aK:∀ b∈f2,b<w.heap.size:=fun b dK=>let ⟨o,ho⟩:=h2.own b dK;kV ho
 rw [Zh];refine ⟨?_,mw++f2,?_,cr.append_iff.2 ⟨mw,f2,I,hs',h2.loc fun b dK=>?_⟩,?_⟩
 ·refine ⟨hk.os.trans kk.os,hk.tape.trans kk.tape,hk.output.trans kk.output,ZQ kk.dr hk.dr,ZQ kk.size hk.size,fun b dK hm=>?_⟩;rw [<- kk.block b dK hm];refine hk.block b (ZaK dK kk.size) (fun hf=>?_);rcases hb b (ZF _ hf) with h | h
  ·omega
  ·exact hm h
 ·refine ZG.2 ⟨uD,n2,fun x hx y hy e=>?_⟩;subst e;rcases zL x hx with h | h
  ·exact n12 x h x hy I
  ·have:=aK x hy;omega
 ·exact hk.block b (aK b dK) (fun hf=>n12 b hf b dK I)
 ·intro b dK;rcases Zz.1 dK with h | h
  ·rcases zL b h with h | h
   ·exact hb b (ZF _ h)
   ·exact .inl (ZQ kk.size h)
  ·exact hb b (ZU _ h)
def kl:Nat->List Value->aL
 | _,[]=>[]
 | i,v::vs=>(i,v)::kl (i+1) vs
theorem qQ:∀ (vs:List Value) (i t:Nat) (v:Value),db (kl i vs) t=some v->∃ j,t=i+j/\vs[j]? = some v
 | [],_,_,_,h=>by simp [kl,db] at h
 | u :: us, i, t, v, h => by
  by_cases hit:i=t
  ·subst hit;rw [kl,gC] at h;exact ⟨0,I,by simpa using h⟩
  ·rw [kl,gB hit] at h;obtain ⟨j,e,hj⟩:=qQ us (i+1) t v h;exact ⟨j+1,by omega,by simpa using hj⟩
theorem pU {fn:Func} {code:Code} {w:World} {md:List Nat} {hs0:List bd} (hf:P.funcs[f]? = some fn) (hb:fn.body=some code) (hl:args.length<=fn.ntmps)
  (h0:∃ fp:List Nat,fp.Nodup/\cr (hp w) hs0 fp/\∀ b∈fp,b∈md)
  (h:Tr ⟨w,md,fn.ntmps⟩ [] (kl 0 args) hs0 (WP P none code (bodyPostM (FR none) 0 P fn R))):Calls P f args.toArray w R:=by
 have hc:=callsIn_of_wp_marks (F:=FR none) (n:=0) (P:=P) (f:=f) (R:=R) (w:=w) (args:=args.toArray) hf hb trivial
  (h { tmps:=args.toArray++Array.replicate (fn.ntmps-args.toArray.size) undef,defers:=[] } w ⟨⟨.refl _ _,?_⟩,?_,?_,I⟩)
 ·exact (callsIn_wide (n:=0)).1 hc
 ·obtain ⟨fp,hn,iZ,hm⟩:=h0;exact ⟨fp,hn,by simpa [nB] using iZ,fun b dK=>.inr (hm b dK)⟩
 ·intro t v hv;obtain ⟨j,e,hj⟩:=qQ args 0 t v hv;have:t=j:=by omega
  subst this;obtain ⟨aK,nK⟩:=Zn.1 hj;simp [Array.getElem?_append,aK,nK]
 ·simp;omega
end
end Go.SL
namespace Go.SL
open Go
structure Rel where
 p:Value->World->Prop
 st:∀ {v:Value} {w w':World},p v w->aJ [] w w'->p v w'
def Rel.val (V:Value):Rel:=⟨fun v _=>v=V,fun h _=>h⟩
abbrev fw:=List (Nat×Rel)
def BV (T:List Nat) (rl:fw) (a:Act) (w:World):Prop:=∀ d R,(d,R)∈rl->d∈T->∃ v,a.tmps[d]? = some v/\R.p v w
def yM (P:Program) (o:Oper) (a:Act) (w:World) (R:Rel):Prop:=
 match (execOp a.eval o).run P w with
 | .ok (.value v) w'=>aJ [] w w'/\R.p v w'
 | .ok (.enter f args) w'=>w'=w/\Calls P f args w (fun e Ah=>∃ v,e=.returned v/\aJ [] w Ah/\R.p v Ah)
 | _=>False
def uP (P:Program) (c:Cx) (hs:List bd) (ops:Array Oper) (sl:aL) (rl:fw) (o:Oper) (R:Rel):Prop:=
 ∀ a w,cg sl a->BV (o.looksAt ops) rl a w->Mem c hs w->if Region.wanted o (yielded ops a.tmps) then yM P o a w R else R.p undef w
def Om (e:Edge):Bool:=Region.binds .any e
def ph (o:Oper):Bool:=match o.op with | .select ..=>false | .defer _=>false | _=>true
def fL (o:Oper) (i:Nat):Bool:=o.after.toList.any fun e=>Om e&&Nat.beq e.on i
def has (l:List Nat) (t:Nat):Bool:=l.any (Nat.beq t)
theorem GN {l:List Nat} {t:Nat}:has l t=true↔t∈l:=by
 simp [has,ZR]
def rh (ops:Array Oper) (x y:Oper) (i:Nat):Bool:=
 match x.dst,y.dst with
 | some d,some e=>!Nat.beq d e&&((!has (y.looksAt ops) d&&!has (x.looksAt ops) e)||fL y i)
 | _,_=>false
def lD (ops:Array Oper):List Oper->Nat->Bool
 | [],_=>true
 | x::r,i=>r.all (fun y=>rh ops x y i)&&lD ops r (i+1)
def u4:List Oper->Nat->Bool
 | [],_=>true
 | o::r,k=>o.after.toList.all (fun e=>!Om e||Nat.blt e.on k)&&u4 r (k+1)
def rn (acc:List Nat) (o:Oper):Nat:=o.after.toList.foldl (fun s e=>if Om e then s ||| 2 ^ e.on ||| acc.getD e.on 0 else s) 0
def jB:List Oper->List Nat->List Nat
 | [],acc=>acc
 | o::r,acc=>jB r (acc++[rn acc o])
def AA (ms:List Nat):List Nat->Bool
 | []=>true
 | k::r=>(List.range k).all (fun i=>(ms.getD k 0).testBit i)&&AA ms r
def zo (l:List Oper) (m:Nat):Bool:=
 l.all ph&&u4 l 0&&lD l.toArray (l.take m) 0&&(l.take m).all (fun o=>o.dst.isSome)&&AA (jB l []) (List.range' m (l.length-m))&&Nat.ble m l.length
theorem lR {l:List Oper}:∀ {s:Nat},u4 l s=true->∀ {k:Nat} {o:Oper},l[k]? = some o->∀ e∈o.after,Om e=true->e.on<s+k:=by
 induction l with
 | nil=>intro s _ k o h;simp at h
 | cons x r ih =>
  intro s h k o hk e he hb;simp only [u4,Zm,Z4] at h;cases k with
  | zero =>
   simp at hk;subst hk;have:=h.1 e (by simpa using he);simpa [hb,Zac] using this
  | succ k =>
   have:=ih h.2 (k:=k) (by simpa using hk) e he hb;omega
theorem sA:∀ (l:List Oper) (acc:List Nat),∃ t,jB l acc=acc++t/\t.length=l.length
 | [],acc=>⟨[],by simp [jB]⟩
 | o :: r, acc => by
  obtain ⟨t,h,hl⟩:=sA r (acc++[rn acc o]);exact ⟨rn acc o::t,by simp [jB,h],by simp [hl]⟩
theorem wK:∀ (l:List Oper) (acc:List Nat) (k:Nat) (o:Oper),l[k]? = some o->(jB l acc).getD (acc.length+k) 0=rn ((jB l acc).take (acc.length+k)) o
 | [],_,_,_,h=>by simp at h
 | x :: r, acc, k, o, h => by
  obtain ⟨t,ht,hl⟩:=sA r (acc++[rn acc x]);cases k with
  | zero =>
   simp at h;subst h;simp [jB,ht]
  | succ k =>
   have:=wK r (acc++[rn acc x]) k o (by simpa using h);simp only [Zg,ZA,Zaa] at this;rw [show acc.length+(k+1)=acc.length+(0+1)+k from by omega];exact this
theorem uq (acc:List Nat) (i:Nat):∀ (es:List Edge) (s:Nat),(es.foldl (fun s e=>if Om e then s ||| 2 ^ e.on ||| acc.getD e.on 0 else s) s).testBit i=true ->
  s.testBit i=true\/∃ e∈es,Om e=true/\(i=e.on\/(acc.getD e.on 0).testBit i=true)
 | [],s,h=>.inl h
 | e :: es, s, h => by
  simp only [List.foldl_cons] at h;rcases uq acc i es _ h with h | ⟨e',I0,hb,h⟩
  ·by_cases hb:Om e=true
   ·simp only [hb,if_true,Nat.testBit_or,ZT,Nat.testBit_two_pow,decide_eq_true_eq] at h;rcases h with (h | h) | h
    ·exact .inl h
    ·exact .inr ⟨e,by simp,hb,.inl h.symm⟩
    ·exact .inr ⟨e,by simp,hb,.inr h⟩
   ·simp only [hb] at h;exact .inl h
  ·exact .inr ⟨e',by simp [I0],hb,h⟩
def DC (l:List Oper) (L:Nat->Prop):Prop:=∀ k o,l[k]? = some o->L k->∀ e∈o.after,Om e=true->L e.on
theorem jT {l:List Oper} {L:Nat->Prop} (Bo:DC l L) (Yj:u4 l 0=true):∀ (k:Nat),k<l.length->L k->∀ i,((jB l []).getD k 0).testBit i=true->L i:=by
 intro k
 induction k using Nat.strongRecOn with
 | _ k ih =>
  intro hk hL i hi;have ho:l[k]? = some l[k]:=Zc hk;have hm:=wK l [] k _ ho;simp only [Zaa,ZD] at hm;rw [hm] at hi;unfold rn at hi;rcases uq _ i _ 0 hi with h | ⟨e,he,hb,h⟩
  ·simp at h
  ·have I0:e∈l[k].after:=by simpa using he
   have aK:e.on<k:=by have:=lR Yj ho e I0 hb;omega
   have hLe:=Bo k _ ho hL e I0 hb;rcases h with h | h
   ·rw [h];exact hLe
   ·refine ih e.on aK (by omega) hLe i ?_;have:((jB l []).take k).getD e.on 0=(jB l []).getD e.on 0:=by
     simp [Zk,aK]
    rwa [this] at h
theorem nV {ops:Array Oper} {l:List Oper}:∀ {s:Nat},lD ops l s=true->∀ {i j:Nat} {x y:Oper},i<j->l[i]? = some x->l[j]? = some y->rh ops x y (s+i)=true:=by
 induction l with
 | nil=>intro s _ i j x y _ h;simp at h
 | cons o r ih =>
  intro s h i j x y yy hx hy;simp only [lD,Zm,Z4] at h;cases j with
  | zero=>omega
  | succ j =>
   cases i with
   | zero =>
    simp at hx;subst hx;exact h.1 y (Z5 (by simpa using hy))
   | succ i =>
    have:=ih h.2 (i:=i) (j:=j) (by omega) (by simpa using hx) (by simpa using hy);rwa [show s+1+i=s+(i+1) from by omega] at this
variable {a a':Act} {o:Oper}
theorem sV {sl:aL} {T:List Nat} {nt:Nat} (hn:a.tmps.size=nt) (hk:∀ t v,db sl t=some v->t<nt) (hT:∀ t∈T,∀ v,db sl t=some v->a.tmps[t]? = some v) :
  ∃ a':Act,cg sl a'/\(∀ t∈T,a'.tmps[t]? = a.tmps[t]?)/\a'.tmps.size=nt:=by
 refine ⟨⟨Array.ofFn (n:=nt) fun t=>if (t:Nat)∈T then a.tmps.getD t undef else (db sl t).getD undef,a.defers⟩,?_,?_,by simp⟩
 ·intro t v hv;have aK:=hk t v hv;simp only [Array.getElem?_ofFn,aK,dif_pos];by_cases ht:t∈T
  ·have:=hT t ht v hv;simp [ht,ZI,this]
  ·simp [ht,hv]
 ·intro t ht;by_cases aK:t<nt
  ·have:a.tmps[t]? = some (a.tmps[t]'(by omega)):=ZaR (by omega);simp [ht,aK,ZI,this]
  ·rw [Zbs (by simp;omega),Zbs (by omega)]
theorem By {x:Operand} (h:∀ t,x=.tmp t->a'.tmps[t]? = a.tmps[t]?):a'.eval x=a.eval x:=by
 cases x with
 | tmp t=>simp [Act.eval,ZI,h t rfl]
 | _=>rfl
theorem kg {ops:Array Oper} (ho:ph o=true) (h:∀ t∈o.looksAt ops,a'.tmps[t]? = a.tmps[t]?):execOp a'.eval o=execOp a.eval o:=by
 refine execOp_congr o (fun cs b he=>by simp [ph,he] at ho) fun x hx=>By fun t ht=>h t ?_;subst ht;unfold Oper.looksAt;refine ZF _ ?_;simp only [List.mem_filterMap];exact ⟨_,by simpa using hx,I⟩
theorem j5 {ops:Array Oper} (h:∀ t∈o.looksAt ops,a'.tmps[t]? = a.tmps[t]?):Region.wanted o (yielded ops a'.tmps)=Region.wanted o (yielded ops a.tmps):=by
 unfold Region.wanted;cases hg:o.guard with
 | none=>rfl
 | some gw =>
  obtain ⟨j,want⟩:=gw;simp only [];have:yielded ops a'.tmps j=yielded ops a.tmps j:=by
   unfold yielded;cases hd:(ops[j]?).bind (·.dst) with
   | none=>rfl
   | some d =>
    have:=h d (by unfold Oper.looksAt;exact ZU _ (by simp [hg,hd]));simp [this]
  rw [this]
inductive uf (P:Program) (c:Cx) (hs:List bd) (ops:Array Oper):List Oper->aL->fw->List Rel->aL->fw->Prop
 | nil {sl:aL} {rl:fw}:uf P c hs ops [] sl rl [] sl rl
 | val {o:Oper} {l:List Oper} {sl jX:aL} {rl lA:fw} {d:Nat} {V:Value} {S:List Rel} (hd:o.dst=some d) (gq:d<c.nt) (h:uP P c hs ops sl rl o (.val V)) (t:uf P c hs ops l ((d,V)::sl) rl S jX lA) :
   uf P c hs ops (o::l) sl rl (.val V::S) jX lA
 | rel {o:Oper} {l:List Oper} {sl jX:aL} {rl lA:fw} {d:Nat} {R:Rel} {S:List Rel} (hd:o.dst=some d) (gq:d<c.nt) (hn:db sl d=none) (h:uP P c hs ops sl rl o R) (t:uf P c hs ops l sl ((d,R)::rl) S jX lA) :
   uf P c hs ops (o::l) sl rl (R::S) jX lA
theorem uf.at_ {P:Program} {c:Cx} {hs:List bd} {ops:Array Oper} {l:List Oper} {sl jX:aL} {rl lA:fw} {S:List Rel} (h:uf P c hs ops l sl rl S jX lA) :
  ∀ (i : Nat) (o : Oper), l[i]? = some o -> ∃ vl N1 R, S[i]? = some R /\ uP P c hs ops vl N1 o R /\
   (∀ t v,db vl t=some v->(∃ (j:Nat) (oj:Oper),j<i/\l[j]? = some oj/\oj.dst=some t/\S[j]? = some (.val v))\/((∀ (j:Nat) (oj:Oper),j<i->l[j]? = some oj->oj.dst≠some t)/\db sl t=some v)) /\
   (∀ t Rt,(t,Rt)∈N1->(∃ (j:Nat) (oj:Oper),j<i/\l[j]? = some oj/\oj.dst=some t/\S[j]? = some Rt)\/(t,Rt)∈rl):=by
 induction h with
 | nil=>intro i o h;simp at h
 | @val o0 l sl jX rl lA d V S hd gq ba t ih =>
  intro i o ho;cases i with
  | zero =>
   simp at ho;subst ho;exact ⟨sl,rl,.val V,I,ba,fun t v hv=>.inr ⟨fun j _ hj=>by omega,hv⟩,fun t Rt hm=>.inr hm⟩
  | succ i =>
   obtain ⟨vl,N1,R,hR,hs',h1,h2⟩:=ih i o (by simpa using ho);refine ⟨vl,N1,R,by simpa using hR,hs',fun t v hv=>?_,fun t Rt hm=>?_⟩
   ·rcases h1 t v hv with ⟨j,oj,hj,jo,jF,lq⟩ | ⟨oB,nK⟩
    ·exact .inl ⟨j+1,oj,by omega,by simpa using jo,jF,by simpa using lq⟩
    ·by_cases yA:d=t
     ·subst yA;rw [gC] at nK;cases nK;exact .inl ⟨0,o0,by omega,I,hd,I⟩
     ·rw [gB yA] at nK;refine .inr ⟨fun j oj hj jo=>?_,nK⟩;cases j with
      | zero=>simp at jo;subst jo;rw [hd];simp [yA]
      | succ j=>exact oB j oj (by omega) (by simpa using jo)
   ·rcases h2 t Rt hm with ⟨j,oj,hj,jo,jF,lq⟩ | aB
    ·exact .inl ⟨j+1,oj,by omega,by simpa using jo,jF,by simpa using lq⟩
    ·exact .inr aB
 | @rel o0 l sl jX rl lA d R0 S hd gq hn ba t ih =>
  intro i o ho;cases i with
  | zero =>
   simp at ho;subst ho;exact ⟨sl,rl,R0,I,ba,fun t v hv=>.inr ⟨fun j _ hj=>by omega,hv⟩,fun t Rt hm=>.inr hm⟩
  | succ i =>
   obtain ⟨vl,N1,R,hR,hs',h1,h2⟩:=ih i o (by simpa using ho);refine ⟨vl,N1,R,by simpa using hR,hs',fun t v hv=>?_,fun t Rt hm=>?_⟩
   ·rcases h1 t v hv with ⟨j,oj,hj,jo,jF,lq⟩ | ⟨oB,nK⟩
    ·exact .inl ⟨j+1,oj,by omega,by simpa using jo,jF,by simpa using lq⟩
    ·have yA:d≠t:=fun e=>by subst e;rw [hn] at nK;cases nK
     refine .inr ⟨fun j oj hj jo=>?_,nK⟩;cases j with
     | zero=>simp at jo;subst jo;rw [hd];simp [yA]
     | succ j=>exact oB j oj (by omega) (by simpa using jo)
   ·rcases h2 t Rt hm with ⟨j,oj,hj,jo,jF,lq⟩ | aB
    ·exact .inl ⟨j+1,oj,by omega,by simpa using jo,jF,by simpa using lq⟩
    ·rcases ZS.1 aB with e | UH
     ·cases e;exact .inl ⟨0,o0,by omega,I,hd,I⟩
     ·exact .inr UH
theorem uf.end_ {P:Program} {c:Cx} {hs:List bd} {ops:Array Oper} {l:List Oper} {sl jX:aL} {rl lA:fw} {S:List Rel} (h:uf P c hs ops l sl rl S jX lA) :
   (∀ t v,db jX t=some v->(∃ (j:Nat) (oj:Oper),l[j]? = some oj/\oj.dst=some t/\S[j]? = some (.val v))\/((∀ (j:Nat) (oj:Oper),l[j]? = some oj->oj.dst≠some t)/\db sl t=some v)) /\
   (∀ t Rt,(t,Rt)∈lA->(∃ (j:Nat) (oj:Oper),l[j]? = some oj/\oj.dst=some t/\S[j]? = some Rt)\/(t,Rt)∈rl) /\
   (∀ (j:Nat) (oj:Oper),l[j]? = some oj->∃ d R,oj.dst=some d/\d<c.nt/\S[j]? = some R):=by
 induction h with
 | nil=>exact ⟨fun t v hv=>.inr ⟨fun j oj h=>by simp at h,hv⟩,fun t Rt hm=>.inr hm,fun j oj h=>by simp at h⟩
 | @val o0 l sl jX rl lA d V S hd gq ba t ih =>
  obtain ⟨h1,h2,h3⟩:=ih;refine ⟨fun t v hv=>?_,fun t Rt hm=>?_,fun j oj hj=>?_⟩
  ·rcases h1 t v hv with ⟨j,oj,jo,jF,lq⟩ | ⟨oB,nK⟩
   ·exact .inl ⟨j+1,oj,by simpa using jo,jF,by simpa using lq⟩
   ·by_cases yA:d=t
    ·subst yA;rw [gC] at nK;cases nK;exact .inl ⟨0,o0,I,hd,I⟩
    ·rw [gB yA] at nK;refine .inr ⟨fun j oj jo=>?_,nK⟩;cases j with
     | zero=>simp at jo;subst jo;rw [hd];simp [yA]
     | succ j=>exact oB j oj (by simpa using jo)
  ·rcases h2 t Rt hm with ⟨j,oj,jo,jF,lq⟩ | aB
   ·exact .inl ⟨j+1,oj,by simpa using jo,jF,by simpa using lq⟩
   ·exact .inr aB
  ·cases j with
   | zero=>simp at hj;subst hj;exact ⟨d,_,hd,gq,rfl⟩
   | succ j=>obtain ⟨d',R',h⟩:=h3 j oj (by simpa using hj);exact ⟨d',R',by simpa using h⟩
 | @rel o0 l sl jX rl lA d R0 S hd gq hn ba t ih =>
  obtain ⟨h1,h2,h3⟩:=ih;refine ⟨fun t v hv=>?_,fun t Rt hm=>?_,fun j oj hj=>?_⟩
  ·rcases h1 t v hv with ⟨j,oj,jo,jF,lq⟩ | ⟨oB,nK⟩
   ·exact .inl ⟨j+1,oj,by simpa using jo,jF,by simpa using lq⟩
   ·have yA:d≠t:=fun e=>by subst e;rw [hn] at nK;cases nK
    refine .inr ⟨fun j oj jo=>?_,nK⟩;cases j with
    | zero=>simp at jo;subst jo;rw [hd];simp [yA]
    | succ j=>exact oB j oj (by simpa using jo)
  ·rcases h2 t Rt hm with ⟨j,oj,jo,jF,lq⟩ | aB
   ·exact .inl ⟨j+1,oj,by simpa using jo,jF,by simpa using lq⟩
   ·rcases ZS.1 aB with e | UH
    ·cases e;exact .inl ⟨0,o0,I,hd,I⟩
    ·exact .inr UH
  ·cases j with
   | zero=>simp at hj;subst hj;exact ⟨d,_,hd,gq,rfl⟩
   | succ j=>obtain ⟨d',R',h⟩:=h3 j oj (by simpa using hj);exact ⟨d',R',by simpa using h⟩
end Go.SL
namespace Go.SL
open Go
section
variable {P:Program} {r:Option Nat} {c:Cx} {D:List Nat} {sl jX:aL} {lA:fw} {hs:List bd} {Q:Exit->Act->World->Prop} {l:List Oper} {m:Nat} {S:List Rel}
def Ls (listed:Array Bool) (i:Nat):Prop:=listed.getD i false=true
theorem gS (n i:Nat):¬ Ls (Array.replicate n false) i:=by
 unfold Ls;rw [ZI,Array.getElem?_replicate];split <;> simp
variable {i:Nat} {listed:Array Bool} {o:Oper}
theorem dx {i j:Nat} (hi:i<listed.size):Ls (listed.setIfInBounds i true) j↔(j=i\/Ls listed j):=by
 unfold Ls;by_cases h:i=j
 ·subst h;simp [ZI,hi]
 ·have h':¬ j=i:=fun e=>h e.symm
  simp [ZI,ZO h,h']
theorem GQ (hi:i<listed.size):listed.getD i true=false↔¬ Ls listed i:=by
 unfold Ls;simp [ZI,hi]
theorem eI (hsz:listed.size=l.length) {i:Nat}:i∈Region.ready .any l.toArray listed↔∃ o,l[i]? = some o/\¬ Ls listed i/\∀ e∈o.after,Om e=true->Ls listed e.on:=by
 rw [mem_ready];constructor
 ·rintro ⟨h1,o,ho,h2⟩;have GL:l[i]? = some o:=by simpa using ho
  have hi:i<listed.size:=by rw [hsz];exact (Zn.1 GL).1
  exact ⟨o,GL,(GQ hi).1 h1,h2⟩
 ·rintro ⟨o,ho,h1,h2⟩;have hi:i<listed.size:=by rw [hsz];exact (Zn.1 ho).1
  exact ⟨(GQ hi).2 h1,o,by simpa using ho,h2⟩
theorem kS (hsz:listed.size=l.length) (Yj:u4 l 0=true) (h:∃ i,i<l.length/\¬ Ls listed i):∃ i,i∈Region.ready .any l.toArray listed:=by
 obtain ⟨i,hi,hn⟩:=h
 induction i using Nat.strongRecOn with
 | _ i ih =>
  by_cases eO:∀ j,j<i->Ls listed j
  ·refine ⟨i,(eI hsz).2 ⟨l[i],Zc hi,hn,fun e he hb=>eO _ ?_⟩⟩;have:=lR Yj (Zc hi) e he hb;omega
  ·have:∃ j,j<i/\¬ Ls listed j:=by
    apply Classical.byContradiction;intro hc;exact eO fun j hj=>Classical.byContradiction fun uD=>hc ⟨j,hj,uD⟩
   obtain ⟨j,hj,hnj⟩:=this;exact ih j hj (by omega) hnj
theorem uh {ms:List Nat}:∀ {ks:List Nat},AA ms ks=true->∀ k∈ks,∀ i,i<k->(ms.getD k 0).testBit i=true
 | [],_,k,hk=>by cases hk
 | x :: ks, h, k, hk => by
  simp only [AA,Zm,Z4,ZW] at h;rcases ZS.1 hk with e | hk
  ·subst e;exact h.1
  ·exact uh h.2 k hk
structure VK (l:List Oper) (m:Nat):Prop where
 op:∀ o∈l,ph o=true
 ac:u4 l 0=true
 CV:lD l.toArray (l.take m) 0=true
 tail:∀ k,m<=k->k<l.length->∀ i,i<k->((jB l []).getD k 0).testBit i=true
 le:m<=l.length
theorem wx (h:zo l m=true):VK l m:=by
 simp only [zo,Zm,Z4] at h;obtain ⟨⟨⟨⟨⟨h1,h2⟩,h3⟩,_⟩,h5⟩,h6⟩:=h;refine ⟨h1,h2,h3,fun k hk aK=>uh h5 k ?_,by simpa using h6⟩;rw [Zba];omega
theorem re (hc:VK l m) {listed:Array Bool} (hsz:listed.size=l.length) (Bo:DC l (Ls listed)) {i:Nat} (hi:i∈Region.ready .any l.toArray listed) (hm:m<=i):∀ j,j<i->Ls listed j:=by
 intro j hj;obtain ⟨o,ho,hn,hd⟩:=(eI hsz).1 hi;have aK:i<l.length:=(Zn.1 ho).1;have Fe:DC l (fun k=>k=i\/Ls listed k):=by
  intro k ok hk hL e he hb;rcases hL with e' | hL
  ·subst e';rw [ho] at hk;cases hk;exact .inr (hd e he hb)
  ·exact .inr (Bo k ok hk hL e he hb)
 rcases jT Fe hc.ac i aK (.inl rfl) j (hc.tail i hm aK j hj) with h | h
 ·omega
 ·exact h
theorem Ee {rest:List Oper} {ops:Array Oper} {K:Act->World->Prop} {a:Act} {w:World} (hi:ops[i]? = some o) (hK:∀ a w,WL P r ops Q rest a w->K a w) (h:WL P r ops Q (o::rest) a w):wpOpIn (FR r) 0 P ops Q i K a w:=by
 unfold wpOpIn;simp only [hi];unfold WL at h;split
 ·rename_i hw;rw [if_pos hw] at h;exact Oper.wpIn_mono hK h
 ·rename_i hw;rw [if_neg hw] at h;exact ⟨fun _ _=>trivial,hK _ _ h⟩
theorem EJ (hc:VK l m):∀ (fuel k:Nat) (listed:Array Bool) (a:Act) (w:World),m<=k->k+fuel=l.length->listed.size=l.length->(∀ i,i<l.length->(Ls listed i↔i<k)) ->
  WL P r l.toArray Q (l.drop k) a w->wpAnyIn (FR r) 0 P .any l.toArray Q fuel listed a w
 | 0, k, listed, a, w, _, hk, hsz, hL, h => by
  refine ⟨?_,by rw [Zbf (by omega)] at h;exact h⟩;apply List.eq_nil_iff_forall_not_mem.2;intro i hi;obtain ⟨o,ho,hn,_⟩:=(eI hsz).1 hi;have aK:=(Zn.1 ho).1;exact hn ((hL i aK).2 (by omega))
 | fuel + 1, k, listed, a, w, V1, hk, hsz, hL, h => by
  have Bo:DC l (Ls listed):=fun k' o' GL I3 e he hb=>by
   have aK:=(Zn.1 GL).1;have:=lR hc.ac GL e he hb;exact (hL e.on (by omega)).2 (by have:=(hL k' aK).1 I3;omega)
  have Qv:k<l.length:=by omega
  refine ⟨fun h0=>?_,fun i hi=>?_⟩
  ·obtain ⟨i,hi⟩:=kS hsz hc.ac ⟨k,Qv,fun hh=>by have:=(hL k Qv).1 hh;omega⟩;rw [h0] at hi;cases hi
  ·obtain ⟨o,ho,hn,_⟩:=(eI hsz).1 hi;have aK:=(Zn.1 ho).1;have UO:k<=i:=Zbg fun hh=>hn ((hL i aK).2 hh)
   have:i=k:=by
    rcases Zbt k i with hh | hh
    ·have:=(hL k Qv).1 (re hc hsz Bo hi (by omega) k hh);omega
    ·omega
   subst this;rw [Zt aK] at h;have GL:l[i]=o:=by rw [Zc aK] at ho;exact Option.some.inj ho
   rw [GL] at h;refine Ee (by simpa using ho) (fun a' w' h'=>EJ hc fuel (i+1) _ a' w' (by omega) (by omega) (by simpa using hsz) (fun j hj=>?_) h') h;rw [dx (by omega)];have:=hL j hj;constructor
   ·rintro (e | hh)
    ·omega
    ·have:=this.1 hh;omega
   ·intro hh;by_cases e:j=i
    ·exact .inl e
    ·exact .inr (this.2 (by omega))
structure Inv1 (c:Cx) (D:List Nat) (hs:List bd) (l:List Oper) (m:Nat) (S:List Rel) (a0:Act) (fuel:Nat) (listed:Array Bool) (a:Act) (w:World):Prop where
 sz:listed.size=l.length
 dc:DC l (Ls listed)
 hi:∀ k,m<=k->¬ Ls listed k
 mem:Mem c (hs++nB D) w
 defers:a.defers=D.map mark
 size:a.tmps.size=c.nt
 Gs:∀ t,(∀ (j:Nat) (o:Oper),l[j]? = some o->Ls listed j->o.dst≠some t)->a.tmps[t]? = a0.tmps[t]?
 new:∀ (j:Nat) (o:Oper),l[j]? = some o->Ls listed j->∀ d R,o.dst=some d->S[j]? = some R->∃ v,a.tmps[d]? = some v/\R.p v w
 left:∃ U:List Nat,U.Nodup/\(∀ i,i∈U↔i<l.length/\¬ Ls listed i)/\U.length=fuel
theorem mI (hc:VK l m) {i j:Nat} {x y:Oper} (yy:i<j) (hj:j<m) (hx:l[i]? = some x) (hy:l[j]? = some y):rh l.toArray x y i=true:=by
 have:=nV hc.CV (i:=i) (j:=j) yy (by rw [ZP,if_pos (by omega)];exact hx) (by rw [ZP,if_pos hj];exact hy);simpa using this
theorem eN {ops:Array Oper} {x y:Oper} {i d e:Nat} (h:rh ops x y i=true) (hx:x.dst=some d) (hy:y.dst=some e):d≠e/\((d∈y.looksAt ops\/e∈x.looksAt ops)->fL y i=true):=by
 simp only [rh,hx,hy,Zm,Zbb,ZT] at h;obtain ⟨h1,h2⟩:=h;refine ⟨fun e'=>by subst e';simp at h1,fun h3=>?_⟩;rcases h2 with ⟨h4,h5⟩ | h2
 ·rcases h3 with h3 | h3
  ·rw [GN.2 h3] at h4;cases h4
  ·rw [GN.2 h3] at h5;cases h5
 ·exact h2
theorem eh (h:fL o i=true):∃ e∈o.after,Om e=true/\e.on=i:=by
 simp only [fL,ZR,Zm] at h;obtain ⟨e,he,hb,rK⟩:=h;exact ⟨e,by simpa using he,hb,Zae rK⟩
theorem C6 (hc:VK l m) (hl:m<=l.length) {a0 a:Act} {w w':World} {fuel i d:Nat} {listed:Array Bool} {o:Oper} {R:Rel} {v:Value} (hI:Inv1 c D hs l m S a0 (fuel+1) listed a w)
  (hi:i∈Region.ready .any l.toArray listed) (tQ:i<m) (ho:l[i]? = some o) (hd:o.dst=some d) (gq:d<c.nt) (uK:S[i]? = some R)
  (acO:∀ (j:Nat) (oj:Oper),j<m->l[j]? = some oj->∃ e,oj.dst=some e) (hk:aJ [] w w') (hv:R.p v w'):Inv1 c D hs l m S a0 fuel (listed.setIfInBounds i true) (a.put o.dst v) w':=by
 obtain ⟨o',GL,hn,pH⟩:=(eI hI.sz).1 hi;rw [ho] at GL;cases GL;have jO:i<listed.size:=by rw [hI.sz];omega
 have _:=acO;have uI:∀ (j:Nat) (oj:Oper) (e:Nat),l[j]? = some oj->j<m->j≠i->oj.dst=some e->e≠d:=by
  intro j oj e hj kK hne he;rcases Zbt j i with h | h
  ·exact (eN (mI hc h tQ hj ho) he hd).1
  ·exact fun e'=>(eN (mI hc (show i<j by omega) kK ho hj) hd he).1 e'.symm
 rw [hd];refine ⟨by simpa using hI.sz,?_,?_,hI.mem.sC hk,hI.defers,by simpa [Act.put] using hI.size,?_,?_,?_⟩
 ·intro k ok xY hL e he hb;rw [dx jO] at hL ⊢;rcases hL with e' | hL
  ·subst e';rw [ho] at xY;cases xY;exact .inr (pH e he hb)
  ·exact .inr (hI.dc k ok xY hL e he hb)
 ·intro k xY hL;rw [dx jO] at hL;rcases hL with e | hL
  ·omega
  ·exact hI.hi k xY hL
 ·intro t ht;have h1:d≠t:=fun e=>by subst e;exact ht i o ho ((dx jO).2 (.inl rfl)) hd
  simp only [Act.put,ZO h1];exact hI.Gs t fun j oj hj hL=>ht j oj hj ((dx jO).2 (.inr hL))
 ·intro j oj hj hL e Rj he hRj;rw [dx jO] at hL;by_cases tq:j=i
  ·subst tq;rw [ho] at hj;cases hj;rw [hd] at he;cases he;rw [uK] at hRj;cases hRj;exact ⟨v,by simp [Act.put,hI.size,gq],hv⟩
  ·have GP:=hL.resolve_left tq;obtain ⟨u,hu,hp⟩:=hI.new j oj hj GP e Rj he hRj;have kK:j<m:=Z2 fun h=>hI.hi j h GP
   have hne:e≠d:=uI j oj e hj kK tq he;refine ⟨u,?_,Rj.st hp hk⟩;simp only [Act.put,ZO (Ne.symm hne)];exact hu
 ·obtain ⟨U,D7,vC,yD⟩:=hI.left;have XX:i∈U:=(vC i).2 ⟨by omega,hn⟩;refine ⟨U.erase i,D7.erase i,fun j=>?_,by rw [ZaW XX,yD];rfl⟩;rw [D7.mem_erase_iff,vC j,dx jO];constructor
  ·rintro ⟨h1,h2,h3⟩;exact ⟨h2,fun h=>h.elim h1 h3⟩
  ·rintro ⟨h1,h2⟩;exact ⟨fun e=>h2 (.inl e),h1,fun h=>h2 (.inr h)⟩
def FG (rl:fw) (a:Act) (w:World):Prop:=∀ d R,(d,R)∈rl->∃ v,a.tmps[d]? = some v/\R.p v w
theorem TS (hc:VK l m) (hp:uf P c hs l.toArray (l.take m) sl [] S jX lA) {a0:Act} (h0:cg sl a0) (Qt:a0.tmps.size=c.nt)
  (tail:∀ a w,St c D jX hs a w->FG lA a w->WL P r l.toArray Q (l.drop m) a w) :
  ∀ (fuel:Nat) (listed:Array Bool) (a:Act) (w:World),Inv1 c D hs l m S a0 fuel listed a w->wpAnyIn (FR r) 0 P .any l.toArray Q fuel listed a w:=by
 have sL:=hp.end_;have fH:∀ (j:Nat) (o:Oper),j<m->l[j]? = some o->(l.take m)[j]? = some o:=fun j o hj ho=>by rw [ZP,if_pos hj];exact ho
 have il:∀ (j:Nat) (o:Oper),(l.take m)[j]? = some o->j<m/\l[j]? = some o:=fun j o ho=>by
  rw [ZP] at ho;split at ho
  ·exact ⟨by assumption,ho⟩
  ·cases ho
 have pG:∀ fuel listed a w,Inv1 c D hs l m S a0 fuel listed a w->(∀ i,i<m->Ls listed i)->wpAnyIn (FR r) 0 P .any l.toArray Q fuel listed a w:=by
  intro fuel listed a w hI eO;have hL:∀ i,i<l.length->(Ls listed i↔i<m):=fun i _=>⟨fun h=>Z2 fun hm=>hI.hi i hm h,eO i⟩
  obtain ⟨U,D7,vC,yD⟩:=hI.left;have jD:U.Perm (List.range' m (l.length-m)):=by
   rw [ZaO D7 (List.nodup_range')];intro i;rw [vC i,Zba];constructor
   ·rintro ⟨h1,h2⟩;exact ⟨Zbg fun h=>h2 (eO i h),by omega⟩
   ·rintro ⟨h1,h2⟩;exact ⟨by omega,hI.hi i h1⟩
  have hlen:fuel=l.length-m:=by rw [<- yD,jD.length_eq,List.length_range']
  refine EJ hc fuel m listed a w (Zy _) (by have:=hc.le;omega) hI.sz hL (tail a w ⟨hI.mem,?_,hI.size,hI.defers⟩ ?_)
  ·intro t v hv;rcases sL.1 t v hv with ⟨j,oj,hj,jF,lq⟩ | ⟨oB,nK⟩
   ·obtain ⟨kK,pF⟩:=il j oj hj;obtain ⟨u,hu,mu⟩:=hI.new j oj pF (eO j kK) t _ jF lq;rw [hu,show u=v from mu]
   ·rw [hI.Gs t fun j oj hj nb=>oB j oj (fH j oj (Z2 fun hm=>hI.hi j hm nb) hj)]
    exact h0 t v nK
  ·intro d R hm;rcases sL.2.1 d R hm with ⟨j,oj,hj,jF,lq⟩ | aB
   ·obtain ⟨kK,pF⟩:=il j oj hj;exact hI.new j oj pF (eO j kK) d R jF lq
   ·cases aB
 intro fuel
 induction fuel with
 | zero =>
  intro listed a w hI;obtain ⟨U,_,vC,yD⟩:=hI.left;have hU:U=[]:=Zas.1 yD;refine pG 0 listed a w hI fun i hi=>Classical.byContradiction fun hn=>?_;have:=(vC i).2 ⟨by have:=hc.le;omega,hn⟩;rw [hU] at this;cases this
 | succ fuel ih =>
  intro listed a w hI;by_cases eO:∀ i,i<m->Ls listed i
  ·exact pG _ listed a w hI eO
  ·have hex:∃ i,i<m/\¬ Ls listed i:=Classical.byContradiction fun hh=>eO fun i hi=>Classical.byContradiction fun hn=>hh ⟨i,hi,hn⟩
   obtain ⟨i0,vB,uW⟩:=hex;refine ⟨fun hr=>?_,fun i hi=>?_⟩
   ·obtain ⟨i,hi⟩:=kS hI.sz hc.ac ⟨i0,by have:=hc.le;omega,uW⟩;rw [hr] at hi;cases hi
   ·have tQ:i<m:=Z2 fun hm=>uW (re hc hI.sz hI.dc hi hm i0 (by omega))
    obtain ⟨o,ho,hn,pH⟩:=(eI hI.sz).1 hi;obtain ⟨vl,N1,R,U3,iY,hs1,hs2⟩:=hp.at_ i o (fH i o tQ ho);obtain ⟨d,R',hd,gq,uK⟩:=sL.2.2 i o (fH i o tQ ho);rw [U3] at uK;cases uK;have oz:∀ (j:Nat),fL o j=true->Ls listed j:=fun j hw=>by
     obtain ⟨e,he,hb,rK⟩:=eh hw;rw [<- rK];exact pH e he hb
    have Ds:∀ (j t:Nat) (oj:Oper),j<i->(l.take m)[j]? = some oj->oj.dst=some t->t∈o.looksAt l.toArray->Ls listed j:=by
     intro j t oj hj jo jF ht;obtain ⟨kK,pF⟩:=il j oj jo;exact oz j ((eN (mI hc hj tQ pF ho) jF hd).2 (.inl ht))
    have hT:∀ t∈o.looksAt l.toArray,∀ v,db vl t=some v->a.tmps[t]? = some v:=by
     intro t ht v hv;rcases hs1 t v hv with ⟨j,oj,hj,jo,jF,lq⟩ | ⟨oB,nK⟩
     ·obtain ⟨u,hu,mu⟩:=hI.new j oj (il j oj jo).2 (Ds j t oj hj jo jF ht) t _ jF lq;rw [hu,show u=v from mu]
     ·rw [hI.Gs t fun j oj hj nb jF=>?_]
      ·exact h0 t v nK
      ·have kK:j<m:=Z2 fun hm=>hI.hi j hm nb
       rcases Zaq j i with h | h | h
       ·exact oB j oj h (fH j oj kK hj) jF
       ·subst h;exact hn nb
       ·have hw:=(eN (mI hc h kK ho hj) hd jF).2 (.inr ht);obtain ⟨e,he,hb,rK⟩:=eh hw;have:=hI.dc j oj hj nb e he hb;rw [rK] at this;exact hn this
    have Bk:∀ t v,db vl t=some v->t<c.nt:=by
     intro t v hv;rcases hs1 t v hv with ⟨j,oj,_,jo,jF,_⟩ | ⟨_,nK⟩
     ·obtain ⟨d',_,Bp,Bn,_⟩:=sL.2.2 j oj jo;rw [jF] at Bp;cases Bp;exact Bn
     ·have:=h0 t v nK;rw [<- Qt];exact (Z6.1 this).1
    obtain ⟨a',mm,jV,_⟩:=sV hI.size Bk hT;have Uy:BV (o.looksAt l.toArray) N1 a' w:=by
     intro t Rt hm ht;rcases hs2 t Rt hm with ⟨j,oj,hj,jo,jF,lq⟩ | aB
     ·obtain ⟨v,hv,mu⟩:=hI.new j oj (il j oj jo).2 (Ds j t oj hj jo jF ht) t _ jF lq;exact ⟨v,by rw [jV t ht];exact hv,mu⟩
     ·cases aB
    have hq:=iY a' w mm Uy hI.mem.l8;have H3:ph o=true:=hc.op o (Z5 ho);have hex:=kg (o:=o) (ops:=l.toArray) H3 jV;rw [j5 jV] at hq;have kc:∀ v w',aJ [] w w'->R.p v w'->wpAnyIn (FR r) 0 P .any l.toArray Q fuel (listed.setIfInBounds i true) (a.put o.dst v) w':=fun v w' hk hv=>
     ih _ _ _ (C6 hc hc.le hI hi tQ ho hd gq U3 (fun j oj hj jo=>let ⟨e,_,he,_⟩:=sL.2.2 j oj (fH j oj hj jo);⟨e,he⟩) hk hv)
    unfold wpOpIn;rw [show l.toArray[i]? = some o from by simpa using ho];simp only [];split
    ·rename_i hw;rw [if_pos hw] at hq;refine ⟨eA _ _ _ _ _,?_⟩;rw [Oper.semAt_eq _ _ _ (fun cc he=>by simp [ph,he] at H3),<- hex]
     unfold yM at hq
     revert hq
     generalize (execOp a'.eval o).run P w=res;intro hq
     match res,hq with
     | .ok (.value v) w',⟨hk,hv⟩=>exact kc v w' hk hv
     | .ok (.enter f args) w', ⟨e, cV⟩ =>
      subst e;refine ⟨by simp [FR,Fence.wide],(jQ cV).mono fun e Ah h=>?_⟩;obtain ⟨v,rfl,hk,hv⟩:=h;exact kc v Ah hk hv
    ·rename_i hw;rw [if_neg hw] at hq;exact ⟨fun _ _=>trivial,kc undef w (.refl _ _) hq⟩
theorem Au {id:Nat} (sH:P.follows .mixedOrders=true) (gr:zo l m=true) (hp:uf P c hs l.toArray (l.take m) sl [] S jX lA)
  (tail:∀ a w,St c D jX hs a w->FG lA a w->WL P r l.toArray Q (l.drop m) a w):Tr c D sl hs (WP P r (.region id l.toArray true) Q):=fun a w ba=>by
 unfold WP;refine wpIn_region_any sH ?_;refine TS (wx gr) hp ba.du ba.size tail l.toArray.size _ a _ ⟨by simp,?_,?_,?_,ba.defers,ba.size,fun t _=>rfl,?_,List.range l.length,Zbz,?_,by simp⟩
 ·exact fun k o _ hL=>absurd hL (gS _ _)
 ·exact fun k _ hL=>gS _ _ hL
 ·exact ba.mem.drew
 ·exact fun j o _ hL=>absurd hL (gS _ _)
 ·exact fun i=>⟨fun h=>⟨by simpa using h,gS _ _⟩,fun h=>by simpa using h.1⟩
end
end Go.SL
namespace Go.SL
open Go
def leq:Value->Value->Option Bool
 | .int k a,.int k' b=>if k=k' then some (decide (a=b)) else none
 | .string a,.string b=>some (decide (a=b))
 | .bool a,.bool b=>some (a==b)
 | _,_=>none
def yb:List Value->List Value->Option Bool
 | [],[]=>some true
 | x :: xs, y :: ys => match leq x y, yb xs ys with
  | some p,some q=>some (p&&q)
  | _,_=>none
 | _,_=>none
def LZ:Option TypeDesc->Bool
 | some (.int _) | some .string | some .bool=>true
 | _=>false
section
variable {P:Program} {w:World}
theorem Gz {d:Nat} {t:TypeId} {x y:Value} {b:Bool} (hl:LZ (P.underlying t)=true) (hk:∀ k,P.underlying t=some (.int k)->∃ a,x=.int k a) (hs:P.underlying t=some .string->∃ a,x=.string a) (hb:P.underlying t=some .bool->∃ a,x=.bool a)
  (h:leq x y=some b):(Op.equalIn (d+1) t x y).run P w=.ok b w:=by
 cases hu:P.underlying t with
 | none=>rw [hu] at hl;cases hl
 | some D =>
  rw [hu] at hl;cases D with
  | int k =>
   obtain ⟨a,rfl⟩:=hk k hu;cases y <;> simp only [leq] at h <;> try cases h
   rename_i k' b';split at h
   ·rename_i e;subst e;cases h;rw [run_equalIn_int w d t k k a b' hu];congr 1
   ·cases h
  | string =>
   obtain ⟨a,rfl⟩:=hs hu;cases y <;> simp only [leq,Option.some.injEq] at h <;> try cases h
   rw [run_equalIn_string w d t a _ hu,vj]
  | bool =>
   obtain ⟨a,rfl⟩:=hb hu;cases y <;> simp only [leq,Option.some.injEq] at h <;> try cases h
   rw [run_equalIn_bool' w d t a _ hu]
  | _=>cases hl
end
def wV (D:Option TypeDesc) (x:Value):Bool:=
 match D,x with
 | some (.int k),.int k' _=>decide (k=k')
 | some .string,.string _=>true
 | some .bool,.bool _=>true
 | _,_=>false
def qU (P:Program) (g:TypeId->Option (List TypeId)) (acc:Option (List TypeId)) (f:Field):Option (List TypeId):=
 match acc,g f.type,P.info? f.type with
 | some a,some m,some i=>if f.offset=a.length/\f.name ≠ "_" /\ i.size=m.length then some (a++m) else none
 | _,_,_=>none
theorem ru (P:Program) (g:TypeId->Option (List TypeId)):∀ (fl:List Field),fl.foldl (qU P g) none=none
 | []=>rfl
 | f::fl=>by simp only [List.foldl_cons,qU];exact ru P g fl
theorem zO (P:Program) (g:TypeId->Option (List TypeId)):∀ (fl:List Field) (A ts:List TypeId),fl.foldl (qU P g) (some A)=some ts->∃ rest,ts=A++rest
 | [],A,ts,h=>⟨[],by simpa using h.symm⟩
 | f :: fl, A, ts, h => by
  simp only [List.foldl_cons] at h;cases hs:qU P g (some A) f with
  | none=>rw [hs,ru] at h;cases h
  | some B =>
   rw [hs] at h;obtain ⟨r,hr⟩:=zO P g fl B ts h;unfold qU at hs;split at hs
   ·rename_i a m i e1 _ _;cases e1;split at hs
    ·cases hs;exact ⟨m++r,by rw [hr];simp⟩
    ·cases hs
   ·cases hs
theorem Fi {P:Program} {g:TypeId->Option (List TypeId)} {a B:List TypeId} {f:Field} (hs:qU P g (some a) f=some B) :
  ∃ m i,g f.type=some m/\P.info? f.type=some i/\f.offset=a.length/\f.name ≠ "_" /\ i.size=m.length/\B=a++m:=by
 unfold qU at hs;split at hs
 ·rename_i a' m i e1 e2 e3;cases e1;split at hs
  ·rename_i h;cases hs;exact ⟨m,i,e2,e3,h.1,h.2.1,h.2.2,I⟩
  ·cases hs
 ·cases hs
theorem Bz:∀ {xs ys:List Value} {b:Bool},yb xs ys=some b->xs.length=ys.length
 | [],[],_,_=>rfl
 | [],_::_,_,h=>by simp [yb] at h
 | _::_,[],_,h=>by simp [yb] at h
 | x :: xs, y :: ys, b, h => by
  simp only [yb] at h;split at h
  ·rename_i p q hp hq;simp [Bz hq]
  ·cases h
def lE (P:Program):Nat->TypeId->Option (List TypeId)
 | 0,_=>none
 | d + 1, t =>
  match P.underlying t with
  | some (.int _) | some .string | some .bool=>some [t]
  | some (.struct fs) =>
   if P.stoodInHeld t then none else
   fs.toList.foldl (qU P (lE P d)) (some [])
  | some (.array n e) => match lE P d e, P.info? e with
   | some m,some i=>if i.size=m.length then some ((List.replicate n m).flatten) else none
   | _,_=>none
  | _=>none
def tI (P:Program):List TypeId->List Value->Bool
 | [],[]=>true
 | t::ts,x::xs=>wV (P.underlying t) x&&tI P ts xs
 | _,_=>false
section
variable {P:Program}
theorem nX:∀ {ts:List TypeId} {xs:List Value},tI P ts xs=true->xs.length=ts.length
 | [],[],_=>rfl
 | [],_::_,h=>by cases h
 | _::_,[],h=>by cases h
 | t :: ts, x :: xs, h => by
  simp only [tI,Zm] at h;simp [nX h.2]
theorem nY:∀ {ts us:List TypeId} {xs:List Value},tI P (ts++us) xs=true->tI P ts (xs.take ts.length)=true/\tI P us (xs.drop ts.length)=true
 | [],us,xs,h=>by simpa [tI] using h
 | t::ts,us,[],h=>by simp [tI] at h
 | t :: ts, us, x :: xs, h => by
  simp only [Zb,tI,Zm] at h;have:=nY h.2;simp [tI,h.1,this]
theorem rB:∀ {n:Nat} {xs ys:List Value} {b:Bool},n<=xs.length->yb xs ys=some b->∃ p q,yb (xs.take n) (ys.take n)=some p/\yb (xs.drop n) (ys.drop n)=some q/\b=(p&&q)
 | 0,xs,ys,b,_,h=>⟨true,b,by simp [yb],by simpa using h,by simp⟩
 | n+1,[],ys,b,hn,h=>by simp at hn
 | n+1,x::xs,[],b,_,h=>by simp [yb] at h
 | n + 1, x :: xs, y :: ys, b, hn, h => by
  simp only [yb] at h;split at h
  ·rename_i p q hp hq;cases h;obtain ⟨p',q',h1,h2,e⟩:=rB (n:=n) (by simpa using hn) hq;exact ⟨p&&p',q',by simp [yb,hp,h1],by simpa using h2,by rw [e,Bool.and_assoc]⟩
  ·cases h
theorem uv {d:Nat} {t:TypeId} {m:List TypeId} (h:lE P d t=some m):∃ D,P.underlying t=some D/\(ln D=false->m.length=1):=by
 cases d with
 | zero=>cases h
 | succ d =>
  unfold lE at h;cases hu:P.underlying t with
  | none=>rw [hu] at h;cases h
  | some D =>
   refine ⟨D,I,fun hD=>?_⟩;rw [hu] at h;cases D with
   | int k=>cases h;rfl
   | string=>cases h;rfl
   | bool=>cases h;rfl
   | struct fs=>cases hD
   | array n e=>cases hD
   | _=>cases h
theorem vr {t:TypeId} {D:TypeDesc} {i:TypeInfo} {n o:Nat} {zs:List Value} {w:World} (hu:P.underlying t=some D) (hi:P.info? t=some i) (hn:i.size=n) (h1:ln D=false->n=1) (hz:o+n<=zs.length) :
  ∃ v,(part t zs.toArray o).run P w=.ok v w/\(ln D=true->v=.agg ((zs.drop o).take n).toArray)/\(ln D=false->(zs.drop o).take n=[v]):=by
 have hag:(isAgg t).run P w=.ok (ln D) w:=by
  unfold isAgg;rw [Sem.run_bind,aY hu,Result.andThen_ok];cases D <;> rfl
 unfold part;rw [Sem.run_bind,hag,Result.andThen_ok];cases hD:ln D with
 | true =>
  refine ⟨.agg (zs.toArray.extract o (o+n)),by simp [sizeOf,gD hi,hn],fun _=>?_,fun h=>by cases h⟩;congr 1;simp [List.extract_eq_take_drop]
 | false =>
  have e:=h1 hD;subst e;refine ⟨zs[o]'(by omega),by simp [show o<zs.length from by omega],fun h=>(by cases h),fun _=>?_⟩;rw [Zt (by omega),List.take_succ_cons,Ze]
theorem EV (d k:Nat):∀ (t:TypeId) (ts:List TypeId),lE P d t=some ts->∀ (xs ys:List Value) (b:Bool) (w:World),tI P ts xs=true->yb xs ys=some b ->
  ∀ x y,(ln ((P.underlying t).getD .bool)=true->x=.agg xs.toArray/\y=.agg ys.toArray)->(ln ((P.underlying t).getD .bool)=false->xs=[x]/\ys=[y])->(Op.equalIn (d+k) t x y).run P w=.ok b w:=by
 induction d with
 | zero=>intro t ts h;cases h
 | succ d ih =>
  intro t ts h xs ys b w dU heq x y h1 h2;rw [show d+1+k=(d+k)+1 from by omega];have Mn:∀ (hl:LZ (P.underlying t)=true) (Xm:ts=[t]) (hna:ln ((P.underlying t).getD .bool)=false),(Op.equalIn (d+k+1) t x y).run P w=.ok b w:=by
   intro hl Xm hna;obtain ⟨rfl,rfl⟩:=h2 hna;subst Xm;simp only [tI,Bool.and_true] at dU;have hq:leq x y=some b:=by
    simp only [yb] at heq;split at heq
    ·rename_i p q hp uC;cases uC;cases heq;simpa using hp
    ·cases heq
   refine Gz hl (fun kk hu=>?_) (fun hu=>?_) (fun hu=>?_) hq <;> rw [hu] at dU <;> cases x <;> simp_all [wV]
  unfold lE at h;split at h
  ·rename_i kk hu;exact Mn (by rw [hu];rfl) (Option.some.inj h).symm (by rw [hu];rfl)
  ·rename_i hu;exact Mn (by rw [hu];rfl) (Option.some.inj h).symm (by rw [hu];rfl)
  ·rename_i hu;exact Mn (by rw [hu];rfl) (Option.some.inj h).symm (by rw [hu];rfl)
  ·rename_i fs hu;split at h
   ·cases h
   ·rename_i ba;obtain ⟨rfl,rfl⟩:=h1 (by rw [hu];rfl);have hf:P.fieldsOf t=fs:=by simp [Program.fieldsOf,hu]
    rw [run_equalIn_struct w (d+k) t _ _ (by rw [hf];exact hu) (by simpa using ba),hf]
    -- DZ fields,one after DZ other
    have key:∀ (fl:List Field) (acc:List TypeId),fl.foldl (qU P (lE P d)) (some acc)=some ts->∀ c,yb (xs.drop acc.length) (ys.drop acc.length)=some c->acc.length<=xs.length->(Op.eqFields (d+k) xs.toArray ys.toArray fl).run P w=.ok c w:=by
     intro fl
     induction fl with
     | nil =>
      intro acc ha c hc _;simp only [List.foldl_nil,Option.some.injEq] at ha;have hlen:=nX dU;rw [ha,<- hlen,Z1] at hc;have:c=true:=by
       cases hy:ys.drop xs.length with
       | nil=>rw [hy] at hc;simpa [yb] using hc.symm
       | cons=>rw [hy] at hc;simp [yb] at hc
      simp [Op.eqFields,this]
     | cons f fl ihf =>
      intro acc ha c hc hle;simp only [List.foldl_cons] at ha;cases hB:qU P (lE P d) (some acc) f with
      | none=>rw [hB,ru] at ha;cases ha
      | some B =>
       rw [hB] at ha;obtain ⟨m,i,hm,hi,ho,hn,hsz,rfl⟩:=Fi hB
       -- ts=acc++m++..
       have mY:∃ rest,ts=acc++m++rest:=zO P _ fl _ _ ha;obtain ⟨rest,Xm⟩:=mY;have hlen:=nX dU;have ace:tI P m ((xs.drop acc.length).take m.length)=true:=by
        rw [Xm,Zh] at dU;exact (nY (nY dU).2).1
       have hlx:acc.length+m.length<=xs.length:=by rw [hlen,Xm];simp
       obtain ⟨p,q,hp,hq,rfl⟩:=rB (n:=m.length) (by simp;omega) hc;have hly:acc.length+m.length<=ys.length:=by have:=Bz heq;omega
       obtain ⟨Df,Qi,fo⟩:=uv hm;obtain ⟨vx,rx,ax,bx⟩:=vr (w:=w) Qi hi hsz fo hlx;obtain ⟨vy,ry,ay,by'⟩:=vr (w:=w) Qi hi hsz fo hly;rw [<- ho] at rx ry;have hr:=ih f.type m hm _ _ p w ace hp vx vy (by rw [Qi];exact fun hA=>⟨ax hA,ay hA⟩) (by rw [Qi];exact fun hA=>⟨bx hA,by' hA⟩)
       have Xy:=ihf (acc++m) ha q (by simpa [Zbh] using hq) (by simp;omega);simp only [Op.eqFields,ne_eq,hn,not_false_eq_true,if_true,Sem.run_bind,rx,Result.andThen_ok,ry,hr];cases p
       ·simp
       ·simpa using Xy
    exact key fs.toList [] h b (by simpa using heq) (by simp)
  ·rename_i n e hu;split at h
   ·rename_i m i hm hi;split at h
    ·rename_i hsz;obtain ⟨rfl,rfl⟩:=h1 (by rw [hu];rfl);simp only [Option.some.injEq] at h;subst h;have hlen:=nX dU;have acn:xs.length=ys.length:=Bz heq;have hL:xs.length=n*m.length:=by rw [hlen];simp
     have abN:(sizeOf e).run P w=.ok m.length w:=by simp [sizeOf,gD hi,hsz]
     obtain ⟨De,Qi,fo⟩:=uv hm
     have acM:∀ (c j:Nat) (p:Bool),j+c=n->yb (xs.drop (j*m.length)) (ys.drop (j*m.length))=some p->tI P ((List.replicate c m).flatten) (xs.drop (j*m.length))=true ->
       ((forIn (List.range' j c) ((none, ()) : Option Bool × Unit) fun i r => (do
        let a <- part e xs.toArray (i*m.length)
        let b <- part e ys.toArray (i*m.length)
        let r' <- Op.equalIn (d+k) e a b
        if (!r')=true then pure (ForInStep.done (some false,())) else pure (ForInStep.yield (none,()))):Sem (Option Bool×Unit)).run P w)=.ok (bif p then none else some false,()) w:=by
      intro c
      induction c with
      | zero =>
       intro j p hj hp _;have hz:xs.drop (j*m.length)=[]:=by apply Zbf;rw [hL,show j=n from by omega];exact Zy _
       have Mc:ys.drop (j*m.length)=[]:=by apply Zbf;rw [<- acn,hL,show j=n from by omega];exact Zy _
       rw [hz,Mc] at hp;simp only [yb,Option.some.injEq] at hp;subst hp;simp
      | succ c ihc =>
       intro j p hj hp XI;have tT:j*m.length+m.length<=xs.length:=by
        rw [hL,<- Zai];exact Z7 _ (by omega)
       obtain ⟨vx,rx,ax,bx⟩:=vr (w:=w) Qi hi hsz fo tT;obtain ⟨vy,ry,ay,by'⟩:=vr (w:=w) Qi hi hsz fo (show j*m.length+m.length<=ys.length by omega);obtain ⟨p1,p2,BZ,Qq,rfl⟩:=rB (n:=m.length) (by simp;omega) hp;rw [List.replicate_succ,ZaB] at XI;have ho:=nY XI;have hr:=ih e m hm _ _ p1 w ho.1 BZ vx vy (by rw [Qi];exact fun hA=>⟨ax hA,ay hA⟩) (by rw [Qi];exact fun hA=>⟨bx hA,by' hA⟩)
       simp only [List.range'_succ,List.forIn_cons,Sem.run_bind,rx,ry,hr,Result.andThen_ok];cases p1
       ·simp
       ·have kc:=ihc (j+1) p2 (by omega) (by rw [Zai,<- Zbh,<- Zbh];exact Qq) (by rw [Zai,<- Zbh];exact ho.2);simp only [Bool.not_true,ZaT,if_false,Sem.run_pure,Result.andThen_ok,Zao];exact kc
     have hf:=acM n 0 b (by omega) (by simpa using heq) (by simpa using dU);simp only [Op.equalIn,Sem.run_bind,aY hu,Result.andThen_ok,abN];rw [Std.Legacy.Range.forIn_eq_forIn_range'];simp only [Std.Legacy.Range.size,Nat.sub_zero,Zax,Nat.div_one];rw [hf];cases b <;> simp
    ·cases h
   ·cases h
  ·cases h
class BW (P:Program) (t:TypeId) (ts:outParam (List TypeId)):Prop where
 eq:lE P 20 t=some ts
 agg:ln ((P.underlying t).getD .bool)=true
 guard:P.eqGuardType P.depth t=false
variable {c:Cx} {sl:aL} {hs:List bd} {dst:Option Tmp} {ty:TypeId} {pos:String} {af:Array Edge} {g:Option (Nat×Bool)}
variable {ts:List TypeId} {xs:List Value}
theorem rZ {t:TypeId} [h:BW P t ts] {xs ys:List Value} {b:Bool} (dU:tI P ts xs=true) (heq:yb xs ys=some b) (w:World):(Op.equalIn 10000 t (.agg xs.toArray) (.agg ys.toArray)).run P w=.ok b w:=
 EV 20 9980 t ts h.eq xs ys b w dU heq _ _ (fun _=>⟨I,I⟩) (fun hn=>by rw [h.agg] at hn;cases hn)
theorem vo {t u:TypeId} [h:BW P t ts] {x y:Operand} {xs ys:List Value} {b:Bool} (hx:Is sl x (.agg xs.toArray)) (hy:Is sl y (.agg ys.toArray)) (dU:tI P ts xs=true) (heq:yb xs ys=some b) :
  di P c sl hs ⟨dst,.binOp .eql t x y u,ty,pos,af,g⟩ (.bool b):=
 jm hx hy fun w=>by
  rw [Sem.run_bind,run_eqGuard_agg w _ _ _ _ _ _ h.guard,Result.andThen_ok,run_eql_struct,rZ dU heq];rfl
theorem vn {t u:TypeId} [h:BW P t ts] {x y:Operand} {xs ys:List Value} {b:Bool} (hx:Is sl x (.agg xs.toArray)) (hy:Is sl y (.agg ys.toArray)) (dU:tI P ts xs=true) (heq:yb xs ys=some b) :
  di P c sl hs ⟨dst,.binOp .neq t x y u,ty,pos,af,g⟩ (.bool (!b)):=
 jm hx hy fun w=>by
  rw [Sem.run_bind,run_eqGuard_agg w _ _ _ _ _ _ h.guard,Result.andThen_ok,run_neq_struct,rZ dU heq];rfl
theorem mJ:tI P [] []=true:=rfl
theorem kI {t:TypeId} {k:IntKind} {n:Int} [h:ja P t (.int k)] (hr:tI P ts xs=true):tI P (t::ts) (.int k n::xs)=true:=by
 simp [tI,wV,h.eq,hr]
theorem fX {t:TypeId} {s:ByteArray} [h:ja P t .string] (hr:tI P ts xs=true):tI P (t::ts) (.string s::xs)=true:=by
 simp [tI,wV,h.eq,hr]
theorem Lz {t:TypeId} {b:Bool} [h:ja P t .bool] (hr:tI P ts xs=true):tI P (t::ts) (.bool b::xs)=true:=by
 simp [tI,wV,h.eq,hr]
end
end Go.SL
namespace Go.SL
open Go
def ev (sl:aL):Operand->Option Value
 | .tmp t=>db sl t
 | .const v=>some v
 | .global g=>some (.pointer (some ⟨g,0,none⟩))
 | .func f=>some (.func (.func f) #[] #[])
variable {i:Nat} {v:Value} {vs:List Value} {x:Operand} {xs:List (Nat×Operand)}
theorem Is.of {sl:aL} (h:ev sl x=some v):Is sl x v:=fun a ha=>by
 cases x with
 | tmp t=>exact ha.eval h
 | const u=>exact Option.some.inj h
 | global g=>exact Option.some.inj h
 | func f=>exact Option.some.inj h
theorem xQ.o {sl:aL} {vs:List (Nat×Value)} (h:ev sl x=some v) (t:xQ sl xs vs):xQ sl ((i,x)::xs) ((i,v)::vs):=.cons (.of h) t
theorem ug.o {sl:aL} (h:ev sl x=some v) (t:ug sl (i+1) xs vs):ug sl i ((i,x)::xs) (v::vs):=.cons (.of h) t
theorem IH.o {sl:aL} {xs:List Operand} (h:ev sl x=some v) (t:IH sl xs vs):IH sl (x::xs) (v::vs):=.cons (.of h) t
theorem Is.bF {sl:aL} {c:Bool} (hc:c=true) (h:ev sl x=some (SL.gv c v)):Is sl x v:=(vD hc (v:=v)) ▸ Is.of h
class VI (P:Program):Prop where
 eq:P.follows .mixedOrders=true
section
variable {P:Program} {r:Option Nat} {c:Cx} {D:List Nat} {sl:aL} {rl:fw} {hs hs':List bd} {Q:Exit->Act->World->Prop} {ops:Array Oper} {m d:Nat} {dst:Option Tmp} {op:Op} {ty:TypeId} {pos:String} {af:Array Edge} {g:Option (Nat×Bool)} {rest:List Oper}
def lM (P:Program) (r:Option Nat) (c:Cx) (D:List Nat) (hs:List bd) (ops:Array Oper) (Q:Exit->Act->World->Prop) (m:Nat) (l:List Oper) (sl:aL) (rl:fw):Prop:=
 ∃ S jX lA,uf P c hs ops (l.take m) sl rl S jX lA/\∀ a w,St c D jX hs a w->FG lA a w->WL P r ops Q (l.drop m) a w
theorem cN {id:Nat} {l:List Oper} (m:Nat) [sH:VI P] (gr:zo l m=true) (k:lM P r c D hs l.toArray Q m l sl []):Tr c D sl hs (WP P r (.region id l.toArray true) Q):=by
 obtain ⟨S,jX,lA,hp,ht⟩:=k;exact Au sH.eq gr hp ht
theorem cT {l:List Oper} (k:Tr c D sl hs (WL P r ops Q l)):lM P r c D hs ops Q 0 l sl rl:=
 ⟨[],sl,rl,.nil,fun a w ba _=>k a w ba⟩
variable {R:Ending->World->Prop} {V:Value} {args:List Value} {c0:Bool} {code:Code} {f:FuncId} {fn:Func} {gs j:Nat} {o:Oper} {q:Bool} {t:Tmp} {v:Value} {vs:List Value} {want:Bool} {xs:List ResultVar}
theorem qE (ho:o.dst=some d) (hd:Nat.blt d c.nt=true) (h:uP P c hs ops sl rl o (.val V)) (k:lM P r c D hs ops Q m rest ((d,V)::sl) rl):lM P r c D hs ops Q (m+1) (o::rest) sl rl:=by
 obtain ⟨S,jX,lA,hp,ht⟩:=k;exact ⟨_,_,_,.val ho (by simpa [Zac] using hd) h hp,ht⟩
theorem oW {R:Rel} (hg:o.guard=none) (h:∀ a w,cg sl a->BV (o.looksAt ops) rl a w->Mem c hs w->yM P o a w R):uP P c hs ops sl rl o R:=fun a w h1 h2 h3=>by
 rw [if_pos (by simp [Region.wanted,hg])];exact h a w h1 h2 h3
theorem r8 (hr:di P c sl hs o V) {a:Act} {w:World} (h1:cg sl a) (h3:Mem c hs w):yM P o a w (.val V):=by
 unfold yM;rw [hr.2 a w h1 h3];exact ⟨.refl _ _,I⟩
theorem tF (hr:mA P sl o f args) {a:Act} {w:World} (h1:cg sl a) (hc:aj P f args w V):yM P o a w (.val V):=by
 unfold yM;rw [hr.2 a w h1];exact ⟨I,hc.mono fun e w' ⟨he,hk⟩=>⟨V,he,hk,I⟩⟩
theorem aA (hr:di P c sl hs ⟨some d,op,ty,pos,af,none⟩ V) (hd:Nat.blt d c.nt=true) (k:lM P r c D hs ops Q m rest ((d,V)::sl) rl) :
  lM P r c D hs ops Q (m+1) (⟨some d,op,ty,pos,af,none⟩::rest) sl rl:=
 qE I hd (oW I fun _ _ h1 _ h3=>r8 hr h1 h3) k
theorem dp (hr:mA P sl ⟨some d,op,ty,pos,af,none⟩ f args) (hd:Nat.blt d c.nt=true) (hc:∀ w,Mem c hs w->aj P f args w V) (k:lM P r c D hs ops Q m rest ((d,V)::sl) rl) :
  lM P r c D hs ops Q (m+1) (⟨some d,op,ty,pos,af,none⟩::rest) sl rl:=
 qE I hd (oW I fun _ w h1 _ h3=>tF hr h1 (hc w h3)) k
theorem oX (hg:o.guard=some (j,want)) (hj:((ops[j]?).bind (·.dst))=some gs) (hq:db sl gs=some (gv c0 (.bool q)))
  (h:(c0&&(q==want))=true->∀ a w,cg sl a->Mem c hs w->yM P o a w (.val V)):uP P c hs ops sl rl o (.val (gv (c0&&(q==want)) V)):=fun a w h1 _ h3=>by
 rw [lN hg hj h1 hq];by_cases hc:(c0&&(q==want))=true
 ·rw [if_pos hc,vD hc];exact h hc a w h1 h3
 ·rw [if_neg hc,xo (by simpa using hc)]
  rfl
theorem DQ (hj:((ops[j]?).bind (·.dst))=some gs) (hq:db sl gs=some (gv c0 (.bool q)))
  (hr:(c0&&(q==want))=true->di P c sl hs ⟨some d,op,ty,pos,af,some (j,want)⟩ V) (hd:Nat.blt d c.nt=true) (k:lM P r c D hs ops Q m rest ((d,gv (c0&&(q==want)) V)::sl) rl) :
  lM P r c D hs ops Q (m+1) (⟨some d,op,ty,pos,af,some (j,want)⟩::rest) sl rl:=
 qE I hd (oX I hj hq fun hc _ _ h1 h3=>r8 (hr hc) h1 h3) k
theorem Iz (hj:((ops[j]?).bind (·.dst))=some gs) (hq:db sl gs=some (.bool q))
  (hr:(q==want)=true->di P c sl hs ⟨some d,op,ty,pos,af,some (j,want)⟩ V) (hd:Nat.blt d c.nt=true) (k:lM P r c D hs ops Q m rest ((d,gv (q==want) V)::sl) rl) :
  lM P r c D hs ops Q (m+1) (⟨some d,op,ty,pos,af,some (j,want)⟩::rest) sl rl:=
 DQ (c0:=true) hj (by rw [hq];rfl) (by simpa using hr) hd (by simpa using k)
theorem nH (hj:((ops[j]?).bind (·.dst))=some gs) (hq:db sl gs=some (gv c0 (.bool q)))
  (hr:(c0&&(q==want))=true->mA P sl ⟨some d,op,ty,pos,af,some (j,want)⟩ f args) (hd:Nat.blt d c.nt=true) (hc:(c0&&(q==want))=true->∀ w,Mem c hs w->aj P f args w V) (k:lM P r c D hs ops Q m rest ((d,gv (c0&&(q==want)) V)::sl) rl) :
  lM P r c D hs ops Q (m+1) (⟨some d,op,ty,pos,af,some (j,want)⟩::rest) sl rl:=
 qE I hd (oX I hj hq fun h _ w h1 h3=>tF (hr h) h1 (hc h w h3)) k
theorem oy (hj:((ops[j]?).bind (·.dst))=some gs) (hq:db sl gs=some (.bool q))
  (hr:(q==want)=true->mA P sl ⟨some d,op,ty,pos,af,some (j,want)⟩ f args) (hd:Nat.blt d c.nt=true) (hc:(q==want)=true->∀ w,Mem c hs w->aj P f args w V) (k:lM P r c D hs ops Q m rest ((d,gv (q==want) V)::sl) rl) :
  lM P r c D hs ops Q (m+1) (⟨some d,op,ty,pos,af,some (j,want)⟩::rest) sl rl:=
 nH (c0:=true) hj (by rw [hq];rfl) (by simpa using hr) hd (by simpa using hc) (by simpa using k)
theorem y6 (hj:((ops[j]?).bind (·.dst))=some gs) (hq:db sl gs=some (gv c0 (.bool q)))
  (hr:(c0&&(q==want))=true->mA P sl ⟨some d,op,ty,pos,af,some (j,want)⟩ f args) (hd:Nat.blt d c.nt=true) (hc:(c0&&(q==want))=true->∀ w,Mem c hs w->aj P f args w V)
  (k:Tr c D ((d,gv (c0&&(q==want)) V)::sl) hs (WL P r ops Q rest)):Tr c D sl hs (WL P r ops Q (⟨some d,op,ty,pos,af,some (j,want)⟩::rest)):=fun a w ba=>by
 unfold WL;rw [lN I hj ba.du hq];by_cases h:(c0&&(q==want))=true
 ·rw [if_pos h];rw [vD h] at k;refine ⟨eA _ _ _ _ _,?_⟩;rw [Oper.semAt_eq _ _ _ (hr h).1,(hr h).2 a w ba.du];exact ⟨by simp [FR,Fence.wide],(jQ (hc h w ba.pq)).mono fun e w' ⟨he,hk⟩=>by
   subst he;exact k _ _ ((ba.put (by simpa [Zac] using hd) V).heap (ba.mem.sC hk))⟩
 ·rw [if_neg h];rw [xo (by simpa using h)] at k;exact k _ _ (ba.put (by simpa [Zac] using hd) undef)
theorem ep (hj:((ops[j]?).bind (·.dst))=some gs) (hq:db sl gs=some (.bool q))
  (hr:(q==want)=true->mA P sl ⟨some d,op,ty,pos,af,some (j,want)⟩ f args) (hd:Nat.blt d c.nt=true) (hc:(q==want)=true->∀ w,Mem c hs w->aj P f args w V)
  (k:Tr c D ((d,gv (q==want) V)::sl) hs (WL P r ops Q rest)):Tr c D sl hs (WL P r ops Q (⟨some d,op,ty,pos,af,some (j,want)⟩::rest)):=
 y6 (c0:=true) hj (by rw [hq];rfl) (by simpa using hr) hd (by simpa using hc) (by simpa using k)
def EE (V:Nat->Value) (ob:Obj):Rel:=⟨fun v w=>∃ b,v=V b/\w.heap[b]? = some ob,fun ⟨b,e,h⟩ hk=>⟨b,e,by rw [hk.block b (kV h) (by simp)];exact h⟩⟩
theorem CH (h:fn.results=#[.tmp t]) {sl:aL} {v:Value} (hv:db sl t=some v) {a:Act} (ha:cg sl a) (w:World):(results fn a.tmps).run P w=.ok v w:=by
 have:=ha t v hv;simp [results,h,ZI,this]
theorem CG {t u:Tmp} (h:fn.results=#[.tmp t,.tmp u]) {sl:aL} {v x:Value} (hv:db sl t=some v) (hx:db sl u=some x) {a:Act} (ha:cg sl a) (w:World):(results fn a.tmps).run P w=.ok (.tuple #[v,x]) w:=by
 have h1:=ha t v hv;have h2:=ha u x hx;simp [results,h,ZI,h1,h2]
theorem CI (h:fn.results=#[]) {a:Act} (w:World):(results fn a.tmps).run P w=.ok (.tuple #[]) w:=by
 simp [results,h]
def Ends (P:Program) (fn:Func) (c:Cx) (sl:aL) (hs:List bd) (v:Value):Prop:=∀ a w,cg sl a->Mem c hs w->(results fn a.tmps).run P w=.ok v w
theorem dB (h:fn.results=#[.tmp t]) (hv:db sl t=some v):Ends P fn c sl hs v:=fun _ w ha _=>CH h hv ha w
theorem gH {t u:Tmp} {v x:Value} (h:fn.results=#[.tmp t,.tmp u]) (hv:db sl t=some v) (hx:db sl u=some x):Ends P fn c sl hs (.tuple #[v,x]):=fun _ w ha _=>CG h hv hx ha w
theorem qV (h:fn.results=#[]):Ends P fn c sl hs (.tuple #[]):=fun _ w _ _=>CI h w
theorem Vh {T:TypeId} {b o n:Nat} [Ty P T false n] (h:fn.results=#[.cell t T]) (hp:db sl t=some (.pointer (some ⟨b,o,none⟩))) (hv:At c hs b o v):Ends P fn c sl hs v:=fun a w ha hm=>by
 have h1:=ha t _ hp;simp [results,h,ZI,h1,asAddr,uk (hv w hm)]
theorem QX {T:TypeId} {b o n:Nat} [Ty P T true n] (h:fn.results=#[.cell t T]) (hp:db sl t=some (.pointer (some ⟨b,o,none⟩))) (hv:eZ c hs b o vs) (hl:vs.length=n):Ends P fn c sl hs (.agg vs.toArray):=fun a w ha hm=>by
 have h1:=ha t _ hp;simp [results,h,ZI,h1,asAddr,o7 hl (fun j v h=>hv.get j v h w hm)]
def S1 (P:Program) (c:Cx) (hs:List bd) (T:TypeId) (b o:Nat) (v:Value):Prop:=∀ w,Mem c hs w->(loadVar T ⟨b,o,none⟩).run P w=.ok v w
theorem LP {T:TypeId} {b o n:Nat} [Ty P T true n] (hv:eZ c hs b o vs) (hl:vs.length=n):S1 P c hs T b o (.agg vs.toArray):=fun w hm=>o7 hl (fun j v h=>hv.get j v h w hm)
inductive RV (P:Program) (c:Cx) (sl:aL) (hs:List bd):ResultVar->Value->Prop
 | tmp {t:Tmp} {v:Value} (h:db sl t=some v):RV P c sl hs (.tmp t) v
 | cell {t:Tmp} {T:TypeId} {b o:Nat} {v:Value} (h:db sl t=some (.pointer (some ⟨b,o,none⟩))) (hl:S1 P c hs T b o v):RV P c sl hs (.cell t T) v
inductive I9 (P:Program) (c:Cx) (sl:aL) (hs:List bd):List ResultVar->List Value->Prop
 | nil:I9 P c sl hs [] []
 | cons {x:ResultVar} {xs:List ResultVar} {v:Value} {vs:List Value} (h:RV P c sl hs x v) (t:I9 P c sl hs xs vs):I9 P c sl hs (x::xs) (v::vs)
def CC (tmps:Array Value):ResultVar->Sem Value
 | .tmp t=>pure (tmps.getD t undef)
 | .cell a t=>do loadVar t (<- asAddr (tmps.getD a undef))
theorem Pf (h:I9 P c sl hs xs vs) {a:Act} {w:World} (ha:cg sl a) (hm:Mem c hs w):(xs.mapM (CC a.tmps)).run P w=.ok vs w:=by
 induction h with
 | nil=>simp
 | cons h _ ih =>
  cases h with
  | tmp h=>simp [CC,ZI,ha _ _ h,ih]
  | cell h hl=>simp [CC,ZI,ha _ _ h,asAddr,hl w hm,ih]
theorem SJ (hx:fn.results=xs.toArray) (h:I9 P c sl hs xs vs) (hl:vs.length≠1):Ends P fn c sl hs (.tuple vs.toArray):=fun a w ha hm=>by
 have:=Pf h ha hm;have h2:(Array.mapM (CC a.tmps) xs.toArray).run P w=.ok vs.toArray w:=by
  rw [List.mapM_toArray];simp [this]
 unfold results;rw [hx];change Sem.run P (Array.mapM (CC a.tmps) xs.toArray >>= fun vs=>pure (if h:vs.size=1 then vs[0] else Value.tuple vs)) w=_
 rw [Sem.run_bind,h2,Result.andThen_ok,Sem.run_pure];rw [dif_neg (by simpa using hl)]
theorem OL (H4:c.md=[]) (he:Ends P fn c sl hs v) :
  Tr c [] sl hs (bodyPostM (FR r) 0 P fn (fun e w'=>e=.returned v/\aJ [] c.w0 w') .ret):=fun a w ba=>by
 have hm:=ba.pq;show LeavesInM (FR r) 0 P fn a.tmps _ a.defers .returning w;rw [ba.defers];exact ⟨v,he a w ba.du hm,I,by rw [<- H4];exact hm.keeps⟩
theorem qe {v v':Value} (H4:c.md=[]) (he:Ends P fn c sl hs v') (hv:v'=v) :
  Tr c [] sl hs (bodyPostM (FR r) 0 P fn (fun e w'=>e=.returned v/\aJ [] c.w0 w') .ret):=hv ▸ OL H4 he
theorem sB {fn:Func} {v:Value} {R:Ending->World->Prop}:∀ (D:List Nat) (w:World) (a:Act),a.defers=D.map mark->cg sl a->Mem c (hs++nB D) w->Ends P fn c sl hs v ->
  (∀ w',Mem c hs w'->R (.returned v) w')->LeavesInM (FR r) 0 P fn a.tmps R (D.map mark) .returning w
 | [],w,a,_,ha,hm,he,hR=>⟨v,he a w ha (by simpa [nB] using hm),hR w (by simpa [nB] using hm)⟩
 | b :: D, w, a, _, ha, hm, he, hR => by
  have fH:Take (hs++nB (b::D)) (bE b (.deferred (some []))) (hs++nB D):=by
   clear hm he hR
   induction hs with
   | nil=>exact .here
   | cons A hs ih=>exact .there ih
  have ni:=hm.take fH;have hb:w.heap[b]? = some (.deferred (some [])):=ni.bE .here;refine ⟨by simp,.inl ⟨b,w.putObj b (.deferred none),I,run_takeDeferred hb,?_⟩⟩;have hk:aJ [b] w (w.putObj b (.deferred none)):=⟨I,I,I,Zy _,by simp,fun k _ hn=>World.putObj_heap_other (by simpa using hn)⟩
  have hm3:Mem c (hs++nB D) (w.putObj b (.deferred none)):=(Mem.store ni hk (World.putObj_heap_same (kV (w:=w) hb))).xy;exact sB D _ { a with defers:=D.map mark } I ha hm3 he hR
theorem aO (he:Ends P fn c sl hs v) (hR:∀ w',Mem c hs w'->R (.returned v) w') :
  Tr c D sl hs (bodyPostM (FR r) 0 P fn R .ret):=fun a w ba=>by
 show LeavesInM (FR r) 0 P fn a.tmps R a.defers .returning w;rw [ba.defers];exact sB D w a ba.defers ba.du ba.mem he hR
theorem aQ (he:Ends P fn c sl hs v) (hR:∀ w',Mem c hs w'->R (.returned v) w') :
  Tr c D sl hs (bodyPostM (FR r) 0 P fn R .normal):=aO (r:=r) he hR
theorem ah {w:World} (hf:P.funcs[f]? = some fn) (hb:fn.body=some code) (hl:Nat.ble args.length fn.ntmps=true)
  (h:Tr ⟨w,[],fn.ntmps⟩ [] (kl 0 args) [] (WP P none code (bodyPostM (FR none) 0 P fn (fun e w'=>e=.returned V/\aJ [] w w')))):aj P f args w V:=
 pU (hs0:=[]) hf hb (by simpa using hl) ⟨[],Zan,I,fun _ h=>by cases h⟩ h
theorem aS {w:World} {ι:Type} {Φ:ι->Prop} {val:ι->Value} {own:ι->List bd} (hf:P.funcs[f]? = some fn) (hb:fn.body=some code) (hl:Nat.ble args.length fn.ntmps=true)
  (h:Tr ⟨w,[],fn.ntmps⟩ [] (kl 0 args) [] (WP P none code (bodyPostM (FR none) 0 P fn (fun e w'=>∃ x,e=.returned (val x)/\Φ x/\aJ [] w w'/\∃ fp:List Nat,fp.Nodup/\cr (hp w') (own x) fp/\∀ b∈fp,b∈([]:List Nat)\/w.heap.size<=b)))) :
  a8 P f args w [] Φ val own:=
 pU (hs0:=[]) hf hb (by simpa using hl) ⟨[],Zan,I,fun _ h=>by cases h⟩ h
theorem ek {w:World} {rO:List Nat} {As:List bd} {ι:Type} {Φ:ι->Prop} {val:ι->Value} {own:ι->List bd} (hf:P.funcs[f]? = some fn) (hb:fn.body=some code) (hl:Nat.ble args.length fn.ntmps=true)
  (hn:rO.Nodup) (hs0:cr (hp w) As rO)
  (h:Tr ⟨w,rO,fn.ntmps⟩ [] (kl 0 args) As (WP P none code (bodyPostM (FR none) 0 P fn (fun e w'=>∃ x,e=.returned (val x)/\Φ x/\aJ rO w w'/\∃ fp:List Nat,fp.Nodup/\cr (hp w') (own x) fp/\∀ b∈fp,b∈rO\/w.heap.size<=b)))) :
  a8 P f args w rO Φ val own:=
 pU hf hb (by simpa using hl) ⟨rO,hn,hs0,fun _ h=>h⟩ h
theorem aD {ι:Type} {Φ:ι->Prop} {val:ι->Value} {own:ι->List bd} (x:ι) (hx:Φ x) {As:List bd} (ht:bB hs (own x) As) {w':World} (hm:Mem c hs w') {v:Value} (hv:v=val x) :
  ∃ x,Ending.returned v=.returned (val x)/\Φ x/\aJ c.md c.w0 w'/\∃ fp:List Nat,fp.Nodup/\cr (hp w') (own x) fp/\∀ b∈fp,b∈c.md\/c.w0.heap.size<=b:=by
 have h2:=(hm.jj ht).l8;obtain ⟨k,fp,hn,iZ,hb⟩:=h2;exact ⟨x,by rw [hv],hx,k,fp,hn,iZ,fun b dK=>(hb b dK).symm⟩
end
end Go.SL
