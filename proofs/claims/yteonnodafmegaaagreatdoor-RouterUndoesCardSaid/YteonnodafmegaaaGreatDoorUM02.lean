/- Parts of the proof: P5h P5i P5j P5k P5l P5m P5n P5o GkMem GkAny GkReg GkEq GkPlan. -/
import Derived.Test.YteonnodafmegaaaGreatDoorUM01
import Derived.Laws.StructEq
set_option linter.unusedSectionVars false
set_option linter.unusedVariables false
set_option linter.unusedSimpArgs false
namespace Go.Proofs.A1
open Go Go.SL
def Ti.zero:Ti:=⟨⟨#[]⟩,0,0⟩
def iI (r:Ro) (i:Nat):Ti:=r.ti.getD i Ti.zero
def hP (r:Ro) (i:Nat):ByteArray:=(iI r i).nm
variable {N:Wn} {i:Nat} {p:List Nat} {po:List Po} {v:Int}
theorem rk {r:Ro} (h:i<r.ti.length):(cN r)[i]'(by unfold cN;rw [Zd];exact h)=hP r i:=by
 unfold cN hP iI;rw [Z0,Zk,Zc h];rfl
theorem ux {r:Ro} (h:i<r.ti.length):hP r i∈cN r:=by rw [<- rk h];exact Zj _
theorem FE {r:Ro} (hd:(cN r).Nodup) {i j:Nat} (hi:i<r.ti.length) (hj:j<r.ti.length) (h:hP r i=hP r j):i=j:=by
 have hl:(cN r).length=r.ti.length:=by unfold cN;rw [Zd]
 rw [<- rk hi,<- rk hj] at h;rcases Zas i j with aN | he | aN
 ·exact absurd h (Zaa.1 hd i j (by omega) (by omega) aN)
 ·exact he
 ·exact absurd h.symm (Zaa.1 hd j i (by omega) (by omega) aN)
theorem Gl {r:Ro} (hd:(cN r).Nodup) {i:Nat} (hi:i<r.ti.length):bA (cN r) (hP r i)=(i:Nat):=by
 have hl:(cN r).length=r.ti.length:=by unfold cN;rw [Zd]
 refine qL (by omega) (rk hi) fun j hj e=>?_;rw [rk (by omega)] at e;have:=FE hd (by omega) hi e;omega
theorem Oi {r:Ro} (hn:qw r) (hd:(cN r).Nodup) {i:Nat} (hi:i<r.ti.length):jO r (hP r i)=(iI r i).fr:=by
 have h1:¬ 0<=bA (bU r) (hP r i):=fun h=>by
  have:hP r i∈bU r:=Classical.byContradiction fun hq=>by have:=cg.2 hq;omega
  exact hn.dt _ this (ux hi)
 unfold jO;rw [if_neg h1,Gl hd hi,if_pos (by omega),ZF];rfl
theorem F8 {r:Ro} (hn:qw r) (hd:(cN r).Nodup) {i:Nat} (hi:i<r.ti.length):jP r (hP r i)=(iI r i).to:=by
 have h1:¬ 0<=bA (cG r) (hP r i):=fun h=>by
  have:hP r i∈cG r:=Classical.byContradiction fun hq=>by have:=cg.2 hq;omega
  exact hn.st _ this (ux hi)
 unfold jP;rw [if_neg h1,Gl hd hi,if_pos (by omega),ZF];rfl
def fJ (r:Ro) (po:List Po) (v:Int) (s:ByteArray):Wn:=⟨r.ti.length,fun i=>ig po v (hP r i)&&decide (qP po v (cG r) (hP r i)=s),fun i=>!ig po v (hP r i),fun i=>(iI r i).fr,fun i=>(iI r i).to,jP r s⟩
def lM (r:Ro) (v:Int):List Po->ByteArray->List Nat->List Po×ByteArray
 | po,x,[]=>(po,x)
 | po,x,i::p=>lM r v (if ig po v (hP r i) then po else iN r ⟨v,hP r i,x⟩ po) (hP r i) p
def lN (r:Ro) (po:List Po) (v:Int) (s:ByteArray) (p:List Nat) (d:ByteArray):List Po:=iN r ⟨v,d,(lM r v po s p).2⟩ (lM r v po s p).1
theorem DU {r:Ro} {po:List Po} {v:Int} {s:ByteArray} (hn:qw r) (hd:(cN r).Nodup) (hv:0<=v/\v<r.lv) (rb:gT r po):∀ (q u:List Nat) (pM:List Po) (x:ByteArray),(fJ r po v s).ok (u++q)->qX r pM v x->(x∈cG r\/x∈cN r)->jP r x=(fJ r po v s).fin u->fR pM v 7 x=s->(∀ i,i<r.ti.length->i ∉ u->ig pM v (hP r i)=ig po v (hP r i))->(u=[]->pM=po) ->
  qX r (lM r v pM x q).1 v (lM r v pM x q).2/\((lM r v pM x q).2∈cG r\/(lM r v pM x q).2∈cN r)/\jP r (lM r v pM x q).2=(fJ r po v s).fin (u++q)/\fR (lM r v pM x q).1 v 7 (lM r v pM x q).2=s /\
  (∀ w y,y∈bU r->ed (lM r v pM x q).1 w y=ed pM w y)/\(∀ w y S,y∈bU r->qP (lM r v pM x q).1 w S y=qP pM w S y)
 | [], u, pM, x, _, h1, h2, h3, h4, _, _ => by
  rw [ZS];exact ⟨h1,h2,h3,h4,fun _ _ _=>rfl,fun _ _ _ _=>rfl⟩
 | i :: q, u, pM, x, ee, h1, h2, h3, h4, h5, h6 => by
  have e:u++i::q=(u++[i])++q:=by simp
  rw [e] at ee ⊢;have bh:=(Wn.kN.1 (Wn.Aq ee (Zbl (u++[i]) q))).2;have hi:i<r.ti.length:=Wn.pG bh;have hiu:i ∉ u:=Wn.vm bh;have jk:=ux hi;have hbs:=h5 i hi hiu;unfold Wn.step at bh;simp only [Zl,ZQ,decide_eq_true_eq] at bh;obtain ⟨_,_,Lb⟩:=bh;rw [lM];by_cases hb:ig pM v (hP r i)=true
  ·rw [if_pos hb];rw [hbs] at hb;rcases Lb with ⟨hu,BB⟩ | ⟨Xz,_⟩
   ·have hu:u=[]:=List.isEmpty_iff.1 hu;have hpp:=h6 hu;subst hpp;have BB:(ig pM v (hP r i)&&decide (qP pM v (cG r) (hP r i)=s))=true:=BB;rw [Zl,decide_eq_true_eq] at BB;refine DU hn hd hv rb q (u++[i]) pM (hP r i) ee (rb.UT fun _=>hb) (.inr jk) ?_ ?_ (fun j hj hju=>rfl) (fun h=>by simp at h)
    ·rw [F8 hn hd hi,Wn.mS];rfl
    ·rw [<- ze hn rb (show (ed pM v (hP r i)).isSome=true from hb)];exact BB.2
   ·have Xz:(!ig po v (hP r i))=true:=Xz;rw [hb] at Xz;cases Xz
  ·rw [if_neg hb];have fu:ed pM v (hP r i)=none:=by
    unfold ig at hb;cases hq:ed pM v (hP r i) with
    | none=>rfl
    | some z=>rw [hq] at hb;exact absurd rfl hb
   have hm:jO r (hP r i)=jP r x:=by
    rcases Lb with ⟨_,BB⟩ | ⟨_,hf⟩
    ·have BB:(ig po v (hP r i)&&decide (qP po v (cG r) (hP r i)=s))=true:=BB;rw [Zl,<- hbs] at BB;exact absurd BB.1 hb
    ·rw [Oi hn hd hi,h3];exact hf
   have hs:=oP (p:=⟨v,hP r i,x⟩) h1.qd h1.out (.inr jk) fu;have n9:=rT (p:=⟨v,hP r i,x⟩) (gT.one hs) (gT.one h1.qd)
   obtain ⟨g1,g2,g3,g4,g5,g6⟩:=DU hn hd hv rb q (u++[i]) (iN r ⟨v,hP r i,x⟩ pM) (hP r i) ee (h1.add hn hv h2 (.inr jk) fu hm) (.inr jk) (by rw [F8 hn hd hi,Wn.mS];rfl)
    (by rw [Db hn h1 hv h2 (.inr jk) fu hm,h4])
    (fun j hj hju=>by
     have hne:hP r i≠hP r j:=fun e=>hju (by rw [FE hd hi hj e];simp)
     unfold ig;rw [n9,if_neg fun e=>hne e.2]
     exact h5 j hj fun e=>hju (Zv.2 (.inl e))) (fun h=>by simp at h)
   refine ⟨g1,g2,g3,g4,fun w y hy=>?_,fun w y S hy=>?_⟩
   ·rw [g5 w y hy,n9,if_neg (fun e=>hn.dt y hy (by rw [<- e.2];exact jk))]
   ·rw [g6 w y S hy,GA hn h1 h2 (.inr jk) fu (fun e=>hn.dt y hy (by rw [e.2];exact jk))]
theorem IZ {r:Ro} {s d:ByteArray} (hn:qw r) (hd:(cN r).Nodup) (hv:0<=v/\v<r.lv) (rb:gT r po) (hs:s∈cG r) (lR:d∈bU r) (fu:ed po v d=none) {p:List Nat} (ee:(fJ r po v s).ok p) (oR:(fJ r po v s).fin p=jO r d) :
  gT r (lN r po v s p d)/\qP (lN r po v s p d) v (cG r) d=s/\(∀ w y,y∈bU r->¬(w=v/\y=d)->qP (lN r po v s p d) w (cG r) y=qP po w (cG r) y/\ed (lN r po v s p d) w y=ed po w y):=by
 have bh:s ∉ cN r:=hn.st s hs;have VA:ed po v s=none:=iy.2 fun q hq e=>by
  rcases rb.out q hq with h | h
  ·exact hn.sd s hs (e.2 ▸ h)
  ·exact bh (e.2 ▸ h)
 obtain ⟨g1,g2,g3,g4,g5,g6⟩:=DU hn hd hv rb p [] po s ee (rb.UT fun h=>absurd h bh) (.inl hs) rfl (pV VA) (fun _ _ _=>rfl) (fun _=>rfl);have Qs:ed (lM r v po s p).1 v d=none:=by rw [g5 v d lR,fu]
 have hm:jO r d=jP r (lM r v po s p).2:=by rw [g3];exact oR.symm
 have hA:=g1.add hn hv g2 (.inl lR) Qs hm;have hV:=hA.val (hn.dt d lR);have Sy:=oP (p:=⟨v,d,(lM r v po s p).2⟩) g1.qd g1.out (.inl lR) Qs;have n9:=rT (p:=⟨v,d,(lM r v po s p).2⟩) (gT.one Sy) (gT.one g1.qd);refine ⟨hV,?_,fun w y hy hne=>⟨?_,?_⟩⟩
 ·have h9:(ed (iN r ⟨v,d,(lM r v po s p).2⟩ (lM r v po s p).1) v d).isSome=true:=by
   rw [n9,if_pos ⟨I,I⟩];rfl
  have h8:=ze hn hV h9;unfold lN;rw [h8,Db hn g1 hv g2 (.inl lR) Qs hm,g4]
 ·unfold lN;rw [GA hn g1 g2 (.inl lR) Qs hne,g6 w y _ hy]
 ·unfold lN;rw [n9,if_neg fun e=>hne ⟨e.1.symm,e.2.symm⟩,g5 w y hy]
theorem KN {g f:Po->Bool}:(po.filter g).filter f=po.filter fun p=>g p&&f p:=by
 rw [ZbD];refine Zbb fun p _=>?_;rw [Bool.and_comm]
theorem Pq {r:Ro} (hn:qw r) (h:gT r po) {g f:Po->Bool} (hg:∀ p∈po,p.ou∈cN r->g p=true)
  (Lm:∀ p∈po.filter g,p.ou∈bU r->f p=true) (Qs:∀ p∈po.filter g,∀ q∈po.filter g,f q=true->q.lv=p.lv->q.ip=p.ou->f p=true) (hf3:∀ p∈po.filter g,f p=true->p.ou∈bU r\/∃ q∈po.filter g,f q=true/\q.lv=p.lv/\q.ip=p.ou) :
  gT r ((po.filter g).filter f)/\(∀ v y,y∈bU r->(∀ p∈po,p.lv=v->p.ou=y->g p=true)->ed ((po.filter g).filter f) v y=ed po v y/\qP ((po.filter g).filter f) v (cG r) y=qP po v (cG r) y) /\
  (∀ v y,(∀ p∈po,p.lv=v->p.ou=y->g p=false)->ed ((po.filter g).filter f) v y=none):=by
 have h1:=gT.one h.qd;have hm:∀ p,p∈po.filter g↔p∈po/\g p=true:=fun p=>Zy
 have hk:∀ {p:Po},(g p&&f p)=true↔g p=true/\f p=true:=fun {p}=>Zl _ _ ▸ Iff.rfl
 rw [KN];have fH:∀ q∈po,(g q&&f q)=true->∀ p∈po,p.lv=q.lv->p.ou=q.ip->(g p&&f p)=true:=by
  intro q hq Qo p hp hv ho;obtain ⟨OR,yR⟩:=hk.1 Qo;have ht:p.ou∈cN r:=by
   rcases h.uO q hq with hs | ht
   ·rcases h.out p hp with hd | hd
    ·exact absurd hd (by rw [ho];exact hn.sd _ hs)
    ·exact hd
   ·rw [ho];exact ht
  have bT:=hg p hp ht;exact hk.2 ⟨bT,Qs p ((hm p).2 ⟨hp,bT⟩) q ((hm q).2 ⟨hq,OR⟩) yR hv.symm ho.symm⟩
 refine ⟨gT.filter hn h _ (fun p hp ht q hq Qo hv hi=>fH q hq Qo p hp hv.symm hi.symm) (fun p hp ht hkp=>?_),fun v y hy bh=>?_,fun v y EX=>?_⟩
 ·obtain ⟨Bx,OT⟩:=hk.1 hkp;rcases hf3 p ((hm p).2 ⟨hp,Bx⟩) OT with hd | ⟨q,hq,yR,Vp,YI⟩
  ·exact absurd ht (hn.dt _ hd)
  ·exact ⟨q,((hm q).1 hq).1,hk.2 ⟨((hm q).1 hq).2,yR⟩,Vp,YI⟩
 ·have eR:∀ p∈po,p.lv=v->p.ou=y->(g p&&f p)=true:=fun p hp MV rb=>by
   have bT:=bh p hp MV rb;exact hk.2 ⟨bT,Lm p ((hm p).2 ⟨hp,bT⟩) (by rw [rb];exact hy)⟩
  refine ⟨?_,?_⟩
  ·cases hi:ed po v y with
   | none=>exact iy.2 fun p hp=>iy.1 hi p (Zy.1 hp).1
   | some u =>
    obtain ⟨q,hq,MU,Qh,rfl⟩:=fb hi;have:=mg (h1.filter fun p=>g p&&f p) (Zy.2 ⟨hq,eR q hq MU Qh⟩)
    rwa [MU,Qh] at this
  ·unfold qP fR;rw [wK (f:=fun p=>g p&&f p) h1 fH eR]
 ·refine iy.2 fun p hp e=>?_;obtain ⟨Bx,OT⟩:=Zy.1 hp;have:=EX p Bx e.1 e.2;rw [(hk.1 OT).1] at this;cases this
structure Jb where
 v:Int
 s:ByteArray
 d:ByteArray
def sF (r:Ro) (W:List Po->Jb->Option (List Nat)):List Po->List Jb->Option (List Po)
 | po,[]=>some po
 | po, j :: l => match W po j with
  | none=>none
  | some p=>sF r W (lN r po j.v j.s p j.d) l
theorem zZ {r:Ro} {W:List Po->Jb->Option (List Nat)} (hn:qw r) (hd:(cN r).Nodup) (hW:∀ po j p,W po j=some p->(fJ r po j.v j.s).ok p/\(fJ r po j.v j.s).fin p=jO r j.d) :
  ∀ (l:List Jb) (po pM:List Po),gT r po->(∀ j∈l,(0<=j.v/\j.v<r.lv)/\j.s∈cG r/\j.d∈bU r/\ed po j.v j.d=none)->l.Pairwise (fun a b=>¬(b.v=a.v/\b.d=a.d))->sF r W po l=some pM ->
  gT r pM/\(∀ j∈l,qP pM j.v (cG r) j.d=j.s)/\∀ v y,y∈bU r->(∀ j∈l,¬(v=j.v/\y=j.d))->qP pM v (cG r) y=qP po v (cG r) y/\ed pM v y=ed po v y
 | [], po, pM, hv, _, _, hr => by
  rw [sF] at hr;cases hr;exact ⟨hv,fun j hj=>absurd hj Zp,fun _ _ _ _=>⟨I,I⟩⟩
 | j :: l, po, pM, hv, hj, hp, hr => by
  rw [sF] at hr;cases hw:W po j with
  | none=>rw [hw] at hr;cases hr
  | some p =>
   rw [hw] at hr;obtain ⟨wb,hs,lR,C2⟩:=hj j Zr;obtain ⟨ee,oR⟩:=hW po j p hw;obtain ⟨hV,hc,ho⟩:=IZ hn hd wb hv hs lR C2 ee oR;obtain ⟨Bx,OT⟩:=ZaU.1 hp;obtain ⟨k1,k2,k3⟩:=zZ hn hd hW l _ pM hV (fun x hx=>by
    obtain ⟨a1,a2,a3,a4⟩:=hj x (ZW _ hx);exact ⟨a1,a2,a3,by rw [(ho x.v x.d a3 (Bx x hx)).2];exact a4⟩) OT hr
   refine ⟨k1,fun x hx=>?_,fun v y hy hne=>?_⟩
   ·rcases ZO.1 hx with rfl | hx
    ·rw [(k3 x.v x.d lR fun z hz e=>Bx z hz ⟨e.1.symm,e.2.symm⟩).1]
     exact hc
    ·exact k2 x hx
   ·obtain ⟨b1,b2⟩:=k3 v y hy fun z hz=>hne z (ZW _ hz);obtain ⟨c1,c2⟩:=ho v y hy (hne j Zr);exact ⟨b1.trans c1,b2.trans c2⟩
def tV {α:Type} (lt:α->α->Bool):α->List α->α
 | b,[]=>b
 | b,x::l=>tV lt (if lt x b then x else b) l
theorem pn {α:Type} {lt:α->α->Bool} (Xl:∀ {a b c},lt a b=true->lt b c=true->lt a c=true) (TZ:∀ {a b},a≠b->lt a b=true\/lt b a=true) (hir:∀ a,lt a a=false) :
  ∀ (l:List α) (b:α),tV lt b l∈b::l/\∀ q∈b::l,lt q (tV lt b l)=false
 | [],b=>⟨Zr,fun q hq=>by
   rcases ZO.1 hq with rfl | hq
   ·exact hir _
   ·exact absurd hq Zp⟩
 | x :: l, b => by
  rw [tV];by_cases hx:lt x b=true
  ·rw [if_pos hx];obtain ⟨h1,h2⟩:=pn (lt:=lt) Xl TZ hir l x;refine ⟨ZW _ h1,fun q hq=>?_⟩;rcases ZO.1 hq with rfl | hq
   ·cases hb:lt q (tV lt x l) with
    | false=>rfl
    | true =>
     have:=Xl hx hb;rw [h2 x Zr] at this;exact this.symm
   ·exact h2 q hq
  ·rw [if_neg hx];obtain ⟨h1,h2⟩:=pn (lt:=lt) Xl TZ hir l b;refine ⟨?_,fun q hq=>?_⟩
   ·rcases ZO.1 h1 with h | h
    ·rw [h];exact Zr
    ·exact ZW _ (ZW _ h)
   ·rcases ZO.1 hq with rfl | hq
    ·exact h2 q Zr
    ·rcases ZO.1 hq with rfl | hq
     ·cases hb:lt q (tV lt b l) with
      | false=>rfl
      | true =>
       by_cases he:q=b
       ·subst he;rw [h2 q Zr] at hb;exact hb.symm
       ·have:=Xl ((TZ he).resolve_left hx) hb;rw [h2 b Zr] at this;exact this.symm
     ·exact h2 q (ZW _ hq)
theorem Wn.TB {d:Int} {a:List Nat} {l:List (List Nat)} (h:N.all d (N.n+1) []=a::l):N.least d (tV N.lt a l):=by
 obtain ⟨h1,h2⟩:=pn (lt:=N.lt) (fun {_ _ _}=>N.lt_trans) (fun {_ _}=>N.CI) N.lt_irrefl l a;rw [<- h] at h1 h2;obtain ⟨k1,k2⟩:=Wn.AD N.sN h1;refine ⟨k1,k2,fun q hq hf=>h2 q ?_⟩;exact Wn.Bl (p:=[]) (r:=q) hq hf (Nat.lt_succ_of_le (Wn.vJ hq))
theorem Wn.all_none {d:Int} (h:N.all d (N.n+1) []=[]) (p:List Nat) (hp:N.ok p):N.fin p≠d:=fun hf=>by
 have:=Wn.Bl (p:=[]) (r:=p) (k:=N.n+1) hp hf (Nat.lt_succ_of_le (Wn.vJ hp));rw [h] at this;exact absurd this Zp


inductive Wn.Rc (N:Wn):Int->Prop
 | Fj:Wn.Rc N N.Fj
 | ca {i:Nat}:i<N.n->N.ca i=true->Wn.Rc N (N.to i)
 | fe {i:Nat}:i<N.n->N.fe i=true->Wn.Rc N (N.fr i)->Wn.Rc N (N.to i)
theorem yr {k:Nat} (h:k<p.length):p.take (k+1)=p.take k++[p[k]]:=by
 rw [Zn h]
theorem Wn.FP (h:N.ok p):∀ k,k<=p.length->N.Rc (N.fin (p.take k))
 | 0,_=>by rw [Ze];exact .Fj
 | k + 1, hk => by
  have ih:=Wn.FP h k (by omega);have hs:=h k (by omega);rw [yr (by omega),Wn.mS];have aN:=Wn.pG hs;unfold Wn.step at hs;simp only [Zl,ZQ,decide_eq_true_eq] at hs;rcases hs.2.2 with ⟨_,hc⟩ | ⟨hf,he⟩
  ·exact .ca aN hc
  ·exact .fe aN hf (he ▸ ih)
theorem Wn.UH (h:N.ok p):N.Rc (N.fin p):=by
 have:=Wn.FP h p.length (Zz _);rwa [ZL] at this
theorem Wn.UU {m:Int} (h:N.Rc m):∃ p,N.ok p/\N.fin p=m:=by
 induction h with
 | Fj=>exact ⟨[],N.sN,rfl⟩
 | @ca i hi hc =>
  refine ⟨[]++[i],Wn.kN.2 ⟨N.sN,?_⟩,Wn.mS _ _ _⟩;unfold Wn.step;simp [hi,hc]
 | @fe i hi hf _ ih =>
  obtain ⟨p,hp,he⟩:=ih;by_cases hm:i∈p
  ·obtain ⟨k,hk,rfl⟩:=Zx hm;exact ⟨p.take (k+1),Wn.FY hp _,by rw [yr hk,Wn.mS]⟩
  ·refine ⟨p++[i],Wn.kN.2 ⟨hp,?_⟩,Wn.mS _ _ _⟩;unfold Wn.step;simp [hi,hf,he,hm]
def Wn.WX (N:Wn) (S:Int->Prop):Prop:=S N.Fj/\∀ i,i<N.n->(N.ca i=true\/N.fe i=true/\S (N.fr i))->S (N.to i)
theorem Wn.UI {S:Int->Prop} (h:N.WX S) {m:Int} (hm:N.Rc m):S m:=by
 induction hm with
 | Fj=>exact h.1
 | ca hi hc=>exact h.2 _ hi (.inl hc)
 | fe hi hf _ ih=>exact h.2 _ hi (.inr ⟨hf,ih⟩)
theorem Wn.N2 {S:Int->Prop} (h:N.WX S) (hS:∀ m,S m->N.Rc m) (m:Int):S m↔N.Rc m:=⟨hS m,Wn.UI h⟩
theorem Be {o:ByteArray}:ig po v o=true↔∃ p∈po,p.lv=v/\p.ou=o:=by
 unfold ig;constructor
 ·intro h;obtain ⟨i,hi⟩:=Zaf.1 h;obtain ⟨p,hp,h1,h2,_⟩:=fb hi;exact ⟨p,hp,h1,h2⟩
 ·rintro ⟨p,hp,h1,h2⟩;cases hq:ed po v o with
  | some _=>rfl
  | none=>exact absurd ⟨h1,h2⟩ (iy.1 hq p hp)
theorem PJ {po qo:List Po} (h:po.Perm qo) (v:Int) (o:ByteArray):ig po v o=ig qo v o:=by
 rw [Zbe,Be,Be];exact ⟨fun ⟨p,hp,e⟩=>⟨p,h.mem_iff.1 hp,e⟩,fun ⟨p,hp,e⟩=>⟨p,h.mem_iff.2 hp,e⟩⟩
def qU (r:Ro) (v:Int):List Po->ByteArray->List Nat->List Po×ByteArray
 | po,x,[]=>(po,x)
 | po,x,i::p=>qU r v (if ig po v (hP r i) then po else po++[⟨v,hP r i,x⟩]) (hP r i) p
theorem vd {r:Ro} {v:Int}:∀ (q:List Nat) (po qo:List Po) (x:ByteArray),po.Perm qo->(lM r v po x q).1.Perm (qU r v qo x q).1/\(lM r v po x q).2=(qU r v qo x q).2
 | [],po,qo,x,h=>⟨h,rfl⟩
 | i :: q, po, qo, x, h => by
  rw [lM,qU,PJ h v (hP r i)];by_cases hb:ig qo v (hP r i)=true
  ·rw [if_pos hb,if_pos hb];exact vd q po qo _ h
  ·rw [if_neg hb,if_neg hb];exact vd q _ _ _ ((pR r _ po).trans ((h.cons _).trans (List.perm_append_singleton _ _).symm))
theorem set_perm {r:Ro} {s d:ByteArray}:(lN r po v s p d).Perm ((qU r v po s p).1++[⟨v,d,(qU r v po s p).2⟩]):=by
 obtain ⟨h1,h2⟩:=vd (r:=r) (v:=v) p po po s (List.Perm.refl _);unfold lN;rw [h2];exact (pR r _ _).trans ((h1.cons _).trans (List.perm_append_singleton _ _).symm)
theorem IY {r:Ro} {po S:List Po} {s d:ByteArray} (hv:(lN r po v s p d).Pairwise (fun a b=>pQ r a b=true)) (hS:S.Perm ((qU r v po s p).1++[⟨v,d,(qU r v po s p).2⟩])) (hs:S.Pairwise (fun a b=>¬ pQ r b a=true)):S=lN r po v s p d:=by
 have hp:(lN r po v s p d).Perm S:=set_perm.trans hS.symm;have hk:S.Pairwise (fun a b=>pQ r a b=true\/pQ r b a=true):=(List.Perm.pairwise_iff (fun {_ _} h=>h.symm) hp).1 (hv.imp fun h=>.inl h)
 have bh:S.Pairwise (fun a b=>pQ r a b=true):=(List.Pairwise.and hk hs).imp fun h=>h.1.resolve_right h.2
 exact oB (fun a b h=>Hp a b h) bh hv hp.symm
end Go.Proofs.A1
namespace Go.SL
open Go
def qZ (P:Program) (c:Cx) (sl:aH) (hs:List bd) (o:Oper) (V:Nat->Value) (ob:Obj):Prop:=
 (∀ d,o.op≠.defer d)/\∀ a w,bZ sl a->Mem c hs w->(execOp a.eval o).run P w=.ok (.value (V w.heap.size)) (w.alloc ob)
section
variable {P:Program} {r:Option Nat} {c:Cx} {D:List Nat} {sl:aH} {hs hs':List bd} {ops:Array Oper} {Q:Exit->Act->World->Prop} {d:Nat} {dst:Option Tmp} {op:Op} {ty:TypeId} {pos:String} {af:Array Edge} {g:Option (Nat×Bool)} {rest:List Oper}
variable {As:List bd} {R:Ending->World->Prop} {V:Nat->Value} {agg:Bool} {args:List Value} {b:Nat} {cs:List Value} {f:FuncId} {n:Nat} {ob:Obj} {places:List (Nat×Nat)} {vs:List Value} {x:Operand} {xs:List (Nat×Operand)} {z:Value}
theorem bu 
  (hr:qZ P c sl hs ⟨some d,op,ty,pos,af,none⟩ V ob) (hd:Nat.blt d c.nt=true) (k:∀ b,c.w0.heap.size<=b->Tr c D ((d,V b)::sl) (bo b ob::hs) (WL P r ops Q rest)) :
  Tr c D sl hs (WL P r ops Q (⟨some d,op,ty,pos,af,none⟩::rest)):=fun a w bh=>by
 refine lY I ⟨dQ _ _ _ _ _,?_⟩;rw [Oper.semAt_eq _ _ _ hr.1,hr.2 a w bh.cZ bh.qD];have h1:=(bh.put (by simpa [Z9] using hd) (V w.heap.size));exact k w.heap.size bh.qD.keeps.size _ _ (h1.heap (bh.mem.alloc ob))
theorem RE {t:TypeId} {v:Value} (hx:Is sl x v) (hc:v.cells=cs.toArray):qZ P c sl hs ⟨dst,.box t x,ty,pos,af,g⟩ (fun b=>.p b) (.cells cs.toArray t):=
 ⟨by simp,fun a w ha _=>by simp [execOp,hx a ha,Instr.box,newVar,newRow,hc]⟩
theorem rE {t:TypeId} [lU P t z] (hc:z.cells=cs.toArray):qZ P c sl hs ⟨dst,.alloc t,ty,pos,af,g⟩ (fun b=>.p b) (.cells cs.toArray t):=
 ⟨by simp,fun a w _ _=>by simp [execOp,Instr.alloc,iC (t:=t) (v:=z),newVar,newRow,hc]⟩
theorem Ek {t:TypeId}:qZ P c sl hs ⟨dst,.makeMap t none,ty,pos,af,g⟩ (fun b=>.map (some b)) (.map #[] 0):=
 ⟨by simp,fun a w _ _=>by simp [execOp,Instr.makeMap]⟩
theorem mu {t:TypeId} {parts:Array (Nat×Operand)} {ps:Array (Nat×Value)}
  (hp:∀ a,bZ sl a->(parts.map fun (i,x)=>(i,a.eval x))=ps) (hb:∀ w,(Instr.buildSlice t n ps).run P w=.ok (V w.heap.size) (w.alloc ob)) :
  qZ P c sl hs ⟨dst,.buildSlice t n parts,ty,pos,af,g⟩ V ob:=
 ⟨by simp,fun a w ha _=>by simp only [execOp,hp a ha,Sem.run_bind,hb w,Result.andThen_ok,Sem.run_pure]⟩
def vH (vs:List Value):Array (Nat×Value):=(vs.zipIdx.map fun (v,i)=>(i,v)).toArray
theorem y5:∀ (vs:List Value) (k:Nat) (acc:List Value),(∀ v∈vs,v.oneCell'=true)->k+vs.length<=acc.length ->
  Instr.fill (fun i=>some (i*1,1)) acc.toArray ((vs.zipIdx k).map fun (v,i)=>(i,v))=some (acc.take k++vs++acc.drop (k+vs.length)).toArray
 | [],k,acc,_,_=>by simp [Instr.fill]
 | v :: vs, k, acc, h1, h2 => by
  have hv:=h1 v (by simp);have hc:v.cells=#[v]:=by cases v <;> simp_all [Value.cells,Value.oneCell']
  simp only [ZI] at h2;have e:Array.foldl (fun cs (x:Value×Nat)=>cs.setIfInBounds (k*1+x.2) x.1) acc.toArray #[v].zipIdx=(acc.set k v).toArray:=by
   simp
  simp only [List.zipIdx_cons,ZZ,Instr.fill,hc];rw [if_neg (by simp;omega)];simp only [e];rw [y5 vs (k+1) (acc.set k v) (fun u hu=>h1 u (by simp [hu])) (by simp;omega)]
  congr 1;have hk:k<acc.length:=by omega
  simp only [ZI,Zh,Zb];rw [List.take_set,List.drop_set_of_lt (by omega)];rw [show k+1+vs.length=k+(vs.length+1) from by omega];congr 1;rw [Zn hk];rw [Zbn _ _ (by simp;omega)];simp [Zbd (Nat.le_of_lt hk)]
theorem vv {t e:TypeId} [hu:ij P t (.slice e)] [Ty P e false 1] [lU P e z] {vs:List Value} (hl:vs.length=n) (hn:n<=1000) (hz:z.oneCell'=true) (hv:∀ v∈vs,v.oneCell'=true) (w:World) :
  (Instr.buildSlice t n (vH vs)).run P w=.ok (.slice (some ⟨w.heap.size,0,none⟩) n n) (w.alloc (.cells vs.toArray e)):=by
 have hzc:z.cells=#[z]:=by cases z <;> simp_all [Value.cells,Value.oneCell']
 unfold Instr.buildSlice;simp only [Sem.run_bind,aV hu.eq,Result.andThen_ok,gj (t:=e) (agg:=false) (n:=1),Zap];rw [if_neg (by omega)];have hf:∀ (zz:Array Value),zz.size=n->Instr.fill (fun i=>some (i,1)) zz (vH vs).toList=some vs.toArray:=by
  intro zz Xh;have:=y5 vs 0 zz.toList hv (by simp [hl,Xh]);simp only [ZaW,Zap] at this;simp only [vH];rw [this];simp [hl,Xh]
 by_cases h0:n=0
 ·subst h0;simp only [if_true,Sem.run_bind,Sem.run_pure,Result.andThen_ok];rw [hf _ (by simp)];simp [newRow]
 ·rw [if_neg h0];simp only [Sem.run_bind,iC (t:=e) (v:=z),Result.andThen_ok,Sem.run_pure,hzc];rw [hf _ (by simp)];simp [newRow]
def setCells:List Value->Nat->List Value->List Value
 | cs,_,[]=>cs
 | cs,o,v::vs=>setCells (cs.set o v) (o+1) vs
theorem kr:∀ (vs:List Value) (cs:List Value) (o:Nat),(setCells cs o vs).length=cs.length
 | [],_,_=>rfl
 | v::vs,cs,o=>by simp [setCells,kr vs]
def setBlock (w:World) (b:Nat) (ob:Obj):World:={ w with heap:=w.heap.setIfInBounds b ob }
theorem aK.setBlock (w:World) (b:Nat) (ob:Obj):aK [b] w (setBlock w b ob):=
 ⟨I,I,I,Zz _,by simp [SL.setBlock],fun k hk hm=>by
  have:b≠k:=fun e=>hm (by simp [e])
  simp [SL.setBlock,ZM this]⟩
theorem mn {w:World} (h:b<w.heap.size):(setBlock w b ob).heap[b]? = some ob:=by simp [setBlock,h]
theorem uj {w:World} {cs:Array Value} {E:TypeId} (h:w.heap[b]? = some (.cells cs E (0,0))) (o:Nat):w.frozen? ⟨b,o,none⟩=false:=by
 simp [World.frozen?,h]
theorem xE {w:World} {E:TypeId} (h:w.heap[b]? = some (.cells cs.toArray E (0,0))) (o:Nat) (v:Value):w.setCell ⟨b,o,none⟩ v=setBlock w b (.cells (cs.set o v).toArray E (0,0)):=by
 unfold World.setCell setBlock;congr 1;apply Array.ext_getElem?;intro k;rw [Zbo];by_cases hk:b=k
 ·subst hk;have:=kh (w:=w) h;rw [if_pos I,h,Array.getElem?_setIfInBounds_self_of_lt this];simp
 ·rw [if_neg hk,ZM hk]
theorem gR {b o:Nat} {E:TypeId}:∀ (vs:List Value) (i:Nat) (cs:List Value) (w:World),w.heap[b]? = some (.cells cs.toArray E (0,0))->(∀ v∈vs,v.oneCell'=true)->o+i+vs.length<=cs.length ->
  ∃ w',(storeCells ⟨b,o,none⟩ vs i).run P w=.ok () w'/\aK [b] w w'/\w'.heap[b]? = some (.cells (setCells cs (o+i) vs).toArray E (0,0))
 | [],i,cs,w,h,_,_=>⟨w,rfl,.refl _ _,h⟩
 | v :: vs, i, cs, w, h, h1, h2 => by
  simp only [ZI] at h2;have aN:=kh (w:=w) h;have bh:(store (Addr.add ⟨b,o,none⟩ i) v).run P w=.ok () (setBlock w b (.cells (cs.set (o+i) v).toArray E (0,0))):=by
   rw [eT,run_store P w _ v .plain (h1 v (by simp)),cell_of_block h];have:(cs.toArray)[o+i]? = some (cs[o+i]'(by omega)):=by simp
   rw [this];simp only [uj h,ZaT,if_false,xE h]
  obtain ⟨w',h3,h4,h5⟩:=gR (o:=o) vs (i+1) (cs.set (o+i) v) (setBlock w b (.cells (cs.set (o+i) v).toArray E (0,0))) (mn aN) (fun u hu=>h1 u (by simp [hu])) (by simp;omega);refine ⟨w',?_,(aK.setBlock w b _).trans h4,by rw [h5];rfl⟩;simp only [storeCells,Sem.run_bind,bh,Result.andThen_ok,h3]
theorem Ci {t:TypeId} [Ty P t agg n] {b o:Nat} {E:TypeId} {v:Value} {vs cs:List Value} {w:World} (h:w.heap[b]? = some (.cells cs.toArray E (0,0))) (hv:v.cells=vs.toArray) (hl:vs.length=n)
  (h1:∀ u∈vs,u.oneCell'=true) (h2:o+n<=cs.length) :
  ∃ w',(storeVar t ⟨b,o,none⟩ v).run P w=.ok () w'/\aK [b] w w'/\w'.heap[b]? = some (.cells (setCells cs o vs).toArray E (0,0)):=by
 obtain ⟨w',h3,h4,h5⟩:=gR (P:=P) (o:=o) vs 0 cs w h h1 (by omega);refine ⟨w',?_,h4,h5⟩;unfold storeVar;rw [Sem.run_bind,gj (t:=t) (agg:=agg) (n:=n),Result.andThen_ok,if_neg (by simp [hv,hl])];simpa [hv] using h3
theorem an {t:TypeId} [Ty P t agg n] {x y:Operand} {b o:Nat} {E:TypeId} {v:Value} {vs cs QO:List Value} (hx:Is sl x (.pointer (some ⟨b,o,none⟩))) (hy:Is sl y v)
  (ht:Take hs (bo b (.cells cs.toArray E (0,0))) hs') (hv:v.cells=vs.toArray) (hl:vs.length=n) (h1:∀ u∈vs,u.oneCell'=true) (h2:o+n<=cs.length) (he:setCells cs o vs=QO)
  (k:Tr c D sl (bo b (.cells QO.toArray E (0,0))::hs') (WL P r ops Q rest)) :
  Tr c D sl hs (WL P r ops Q (⟨none,.store t x y,ty,pos,af,none⟩::rest)):=fun a w bh=>by
 subst he;have hm:=bh.mem.take (ht.append _);obtain ⟨w',h3,h4,h5⟩:=Ci (P:=P) (t:=t) (o:=o) (hm.bo .here) hv hl h1 h2;refine lY I ⟨dQ _ _ _ _ _,?_⟩;rw [Oper.semAt_eq _ _ _ (by simp)];have:(execOp a.eval ⟨none,.store t x y,ty,pos,af,none⟩).run P w=.ok .skip w':=by
  simp [execOp,hx a bh.cZ,hy a bh.cZ,Instr.storeAt,Instr.sureAddr,h3]
 rw [this];exact k _ _ (bh.heap (Mem.store hm h4 h5))
theorem C8 (off:Nat):∀ (vs:List Value) (k:Nat) (cs:List Value),(vs.zipIdx k).foldl (fun (cs:Array Value) (x:Value×Nat)=>cs.setIfInBounds (off+x.2) x.1) cs.toArray=(setCells cs (off+k) vs).toArray
 | [],_,_=>rfl
 | v :: vs, k, cs => by
  simp only [List.zipIdx_cons,List.foldl_cons,List.setIfInBounds_toArray,setCells];exact C8 off vs (k+1) (cs.set (off+k) v)
def tR (places:List (Nat×Nat)):List Value->List (Nat×Value)->Option (List Value)
 | cs,[]=>some cs
 | cs, (i, v) :: rest =>
  match places[i]? with
  | some (off,size)=>if v.cells.size=size/\off+size<=cs.length then tR places (setCells cs off v.cells.toList) rest else none
  | none=>none
theorem fill_eq {places:List (Nat×Nat)} {f:Nat->Option (Nat×Nat)} (hf:∀ i x,places[i]? = some x->f i=some x):∀ (ps:List (Nat×Value)) (cs QO:List Value),tR places cs ps=some QO->Instr.fill f cs.toArray ps=some QO.toArray
 | [],cs,QO,h=>by simp only [tR,Option.some.injEq] at h;simp [Instr.fill,h]
 | (i, v) :: rest, cs, QO, h => by
  unfold tR at h;split at h
  ·rename_i off size hp;split at h
   ·rename_i hc;have h2:=fill_eq hf rest _ _ h;unfold Instr.fill;simp only [hf i _ hp];rw [if_neg (by simp [hc.1];omega)];rw [<- h2];congr 1;have:=C8 off v.cells.toList 0 cs;simp only [Zau] at this;rw [<- this,<- Array.foldl_toList];simp
   ·cases h
  ·cases h
def zf (P:Program) (t:TypeId):Option (List (Nat×Nat)×List Value):=
 match P.underlying t,P.info? t with
 | some (.struct fs), some i => match i.zero, fs.toList.mapM (fun f => (P.info? f.type).map fun j => (f.offset, j.size)) with
  | some z,some ps=>some (ps,z.cells.toList)
  | _,_=>none
 | some (.array n e), some i => match i.zero, P.info? e with
  | some z,some j=>some ((List.range n).map (fun k=>(k*j.size,j.size)),z.cells.toList)
  | _,_=>none
 | _,_=>none
class DD (P:Program) (t:TypeId) (ps:outParam (List (Nat×Nat))) (z:outParam (List Value)):Prop where
 eq:zf P t=some (ps,z):=by kernel_rfl
theorem vN {w:World}:∀ (fs:List Field) (ps:List (Nat×Nat)),fs.mapM (fun f=>(P.info? f.type).map fun j=>(f.offset,j.size))=some ps ->
  (fs.mapM (fun (f:Field)=>(do pure (f.offset,<- sizeOf f.type):Sem (Nat×Nat)))).run P w=.ok ps w
 | [],ps,h=>by simp at h;simp [h]
 | f :: fs, ps, h => by
  simp only [List.mapM_cons,Option.bind_eq_bind,Option.bind_eq_some_iff,Zak,Option.pure_def,Option.some.injEq] at h;obtain ⟨_,⟨j,hj,rfl⟩,qs,hq,rfl⟩:=h;have:=vN (w:=w) fs qs hq;have hsz:(sizeOf f.type).run P w=.ok j.size w:=by simp [sizeOf,fM hj]
  rw [List.mapM_cons];simp only [Sem.run_bind,hsz,Result.andThen_ok,Sem.run_pure,this]
theorem Hd {t:TypeId} {z cs:List Value} [h:DD P t places z] {ps:List (Nat×Value)} (hf:tR places z ps=some cs) (w:World):(Instr.build t ps.toArray).run P w=.ok (.agg cs.toArray) w:=by
 have h0:=h.eq;unfold zf at h0;split at h0
 ·rename_i fs i hu hi;split at h0
  ·rename_i zz qs hz hq;simp only [Option.some.injEq,Prod.mk.injEq] at h0;obtain ⟨rfl,rfl⟩:=h0;have h1:(zeroValue t).run P w=.ok zz w:=by simp [zeroValue,fM hi,hz]
   have h2:(fs.mapM (fun (f:Field)=>(do pure (f.offset,<- sizeOf f.type):Sem (Nat×Nat)))).run P w=.ok qs.toArray w:=by
    have:=vN (P:=P) (w:=w) fs.toList qs hq;rw [<- ZaW (xs:=fs),List.mapM_toArray,Sem.run_map,this]
    rfl
   have h3:=fill_eq (f:=fun i=>qs.toArray[i]?) (fun i x hx=>by simpa using hx) ps zz.cells.toList cs hf
   unfold Instr.build;simp only [Sem.run_bind,h1,Result.andThen_ok,aV hu,h2];simp only [ZaW] at h3;rw [h3]
   rfl
  ·cases h0
 ·rename_i n e i hu hi;split at h0
  ·rename_i zz j hz hj;simp only [Option.some.injEq,Prod.mk.injEq] at h0;obtain ⟨rfl,rfl⟩:=h0;have h1:(zeroValue t).run P w=.ok zz w:=by simp [zeroValue,fM hi,hz]
   have h2:(sizeOf e).run P w=.ok j.size w:=by simp [sizeOf,fM hj]
   have h3:=fill_eq (f:=fun i=>some (i*j.size,j.size)) (fun i x hx=>by
    rw [ZA] at hx;obtain ⟨y,hy,rfl⟩:=Zak.1 hx;have:=Zm.1 hy;obtain ⟨aN,he⟩:=this;simp at he;rw [he]) ps zz.cells.toList cs hf
   unfold Instr.build;simp only [Sem.run_bind,h1,Result.andThen_ok,aV hu,h2];simp only [ZaW] at h3;rw [h3]
   rfl
  ·cases h0
 ·cases h0
inductive wX (sl:aH):List (Nat×Operand)->List (Nat×Value)->Prop
 | nil:wX sl [] []
 | cons {i:Nat} {x:Operand} {xs:List (Nat×Operand)} {v:Value} {vs:List (Nat×Value)} (h:Is sl x v) (t:wX sl xs vs):wX sl ((i,x)::xs) ((i,v)::vs)
theorem wX.map {vs:List (Nat×Value)} (h:wX sl xs vs) {a:Act} (ha:bZ sl a):(xs.map fun (i,x)=>(i,a.eval x))=vs:=by
 induction h with
 | nil=>rfl
 | cons h _ ih=>simp [h a ha];simpa using ih
theorem aU {t:TypeId} {ps:List (Nat×Value)} {z cs:List Value} [DD P t places z] (hp:wX sl xs ps) (hf:tR places z ps=some cs) :
  cY P c sl hs ⟨dst,.build t xs.toArray,ty,pos,af,g⟩ (.agg cs.toArray):=
 JM (ps:=ps.toArray) (fun a ha=>by simp [<- hp.map ha]) (fun w=>Hd hf w)
inductive tq (sl:aH):Nat->List (Nat×Operand)->List Value->Prop
 | nil {i:Nat}:tq sl i [] []
 | cons {i:Nat} {x:Operand} {xs:List (Nat×Operand)} {v:Value} {vs:List Value} (h:Is sl x v) (t:tq sl (i+1) xs vs):tq sl i ((i,x)::xs) (v::vs)
theorem tq.map {i:Nat} (h:tq sl i xs vs) {a:Act} (ha:bZ sl a):(xs.map fun (i,x)=>(i,a.eval x))=(vs.zipIdx i).map fun (v,i)=>(i,v):=by
 induction h with
 | nil=>rfl
 | cons h _ ih=>simp [h a ha];simpa using ih
theorem aC {t e:TypeId} [hu:ij P t (.slice e)] [Ty P e false 1] [lU P e z] (hp:tq sl 0 xs vs)
  (hl:vs.length=n) (hn:Nat.ble n 1000=true) (hz:z.oneCell'=true) (h1:vs.all Value.oneCell'=true) :
  qZ P c sl hs ⟨dst,.buildSlice t n xs.toArray,ty,pos,af,g⟩ (fun b=>.w b n n) (.cells vs.toArray e):=
 mu (ps:=vH vs) (fun a ha=>by simp only [vH,<- hp.map ha];simp) (fun w=>vv hl (by simpa using hn) hz (by simpa [Z6] using h1) w)
class bO (P:Program) (f:FuncId):Prop where
 eq:((P.funcs[f]?).map fun fn=>(fn.name == "runtime.NumGoroutine" || fn.body.isNone))=some false:=by kernel_rfl
theorem tz [h:bO P f] (args:Array Value) (w:World):(callFunc f args).run P w=.ok (.enter f args) w:=by
 have:=h.eq;cases hf:P.funcs[f]? with
 | none=>rw [hf] at this;cases this
 | some fn =>
  rw [hf] at this;simp only [ZaP,Option.some.injEq,Bool.or_eq_false_iff] at this;obtain ⟨h1,h2⟩:=this;simp only [callFunc,Sem.run_bind,run_program,Result.andThen_ok,hf,h1,h2]
  rfl
inductive H7 (sl:aH):List Operand->List Value->Prop
 | nil:H7 sl [] []
 | cons {x:Operand} {xs:List Operand} {v:Value} {vs:List Value} (h:Is sl x v) (t:H7 sl xs vs):H7 sl (x::xs) (v::vs)
theorem H7.map {sl:aH} {xs:List Operand} (h:H7 sl xs vs) {a:Act} (ha:bZ sl a):xs.map a.eval=vs:=by
 induction h with
 | nil=>rfl
 | cons h _ ih=>simp [h a ha,ih]
def lV (P:Program) (sl:aH) (o:Oper) (f:FuncId) (args:List Value):Prop:=
 (∀ d,o.op≠.defer d)/\∀ a w,bZ sl a->(execOp a.eval o).run P w=.ok (.enter f args.toArray) w
theorem aZ {xs:List Operand} {ts:Array TypeId} {first vs cap args:List Value} (hx:Is sl x (.func (.func f) first.toArray cap.toArray)) (ha:H7 sl xs vs) (hb:bO P f) (he:first++vs++cap=args) :
  lV P sl ⟨dst,.call ⟨.value x,xs.toArray,ts⟩,ty,pos,af,g⟩ f args:=
 ⟨by simp,fun a w hs=>by
  subst he;have h1:=ha.map hs;simp only [execOp,resolve,hx a hs,Deferred.ofValue,Sem.run_bind,Sem.run_pure,Result.andThen_ok,invoke,List.map_toArray,h1,List.append_toArray];exact tz (h:=hb) _ _⟩
theorem bD {f:Fn} {xs ys:List Operand} {vs us:List Value} (h1:H7 sl xs vs) (h2:H7 sl ys us) :
  cY P c sl hs ⟨dst,.makeFunc f xs.toArray ys.toArray,ty,pos,af,g⟩ (.func f vs.toArray us.toArray):=
 Co (fun a ha=>by simp [h1.map ha]) (fun a ha=>by simp [h2.map ha])
def bb (P:Program) (f:FuncId) (args:List Value) (w:World) (md:List Nat) {ι:Type} (Φ:ι->Prop) (val:ι->Value) (own:ι->List bd):Prop:=
 Calls P f args.toArray w fun e w'=>∃ x,e=.returned (val x)/\Φ x/\aK md w w'/\∃ fp:List Nat,fp.Nodup/\cC (hp w') (own x) fp/\∀ b∈fp,b∈md\/w.heap.size<=b
def aj (P:Program) (f:FuncId) (args:List Value) (w:World) (V:Value):Prop:=
 Calls P f args.toArray w fun e w'=>e=.returned V/\aK [] w w'
theorem jm {args:Array Value} {w:World} (h:Calls P f args w R):CallsIn (FR r) n P f args w R:=
 (callsIn_wide (n:=n)).2 h
theorem zn {o:Oper} {a:Act} {w:World} (hg:o.guard=none) (hr:lV P sl o f args) (hs:bZ sl a) (hc:Calls P f args.toArray w R)
  (k:∀ e w',R e w'->∃ v,e=.returned v/\WL P r ops Q rest (a.put o.dst v) w'):WL P r ops Q (o::rest) a w:=by
 refine lY hg ⟨dQ _ _ _ _ _,?_⟩;rw [Oper.semAt_eq _ _ _ hr.1,hr.2 a w hs];refine ⟨by simp [FR,Fence.wide],(jm hc).mono fun e w' h=>?_⟩;obtain ⟨v,rfl,hk⟩:=k e w' h;exact hk
theorem ai {V:Value} (hr:lV P sl ⟨some d,op,ty,pos,af,none⟩ f args) (hd:Nat.blt d c.nt=true) (hc:∀ w,Mem c hs w->aj P f args w V)
  (k:Tr c D ((d,V)::sl) hs (WL P r ops Q rest)):Tr c D sl hs (WL P r ops Q (⟨some d,op,ty,pos,af,none⟩::rest)):=fun a w bh=>
 zn I hr bh.cZ (hc w bh.qD) fun e w' ⟨he,hk⟩=>⟨V,he,k _ _ ((bh.put (by simpa [Z9] using hd) V).heap (bh.mem.rS hk))⟩
inductive bj:List bd->List bd->List bd->Prop
 | nil {hs:List bd}:bj hs [] hs
 | cons {hs h1 h2:List bd} {A:bd} {As:List bd} (h:Take hs A h1) (t:bj h1 As h2):bj hs (A::As) h2
theorem bj.h1 {A:bd} {r s t:List bd} (h:bj r s t):bj (A::r) (A::s) t:=.cons .here h
theorem bj.h2 {A B:bd} {r s t:List bd} (h:bj r s t):bj (A::B::r) (A::B::s) t:=.cons .here (.h1 h)
theorem bj.h3 {A B C:bd} {r s t:List bd} (h:bj r s t):bj (A::B::C::r) (A::B::C::s) t:=.cons .here (.h2 h)
theorem bj.h4 {A B C E:bd} {r s t:List bd} (h:bj r s t):bj (A::B::C::E::r) (A::B::C::E::s) t:=.cons .here (.h3 h)
theorem bj.h5 {A B C E F:bd} {r s t:List bd} (h:bj r s t):bj (A::B::C::E::F::r) (A::B::C::E::F::s) t:=.cons .here (.h4 h)
theorem bj.h6 {A B C E F G:bd} {r s t:List bd} (h:bj r s t):bj (A::B::C::E::F::G::r) (A::B::C::E::F::G::s) t:=.cons .here (.h5 h)
theorem bj.h7 {A B C E F G J:bd} {r s t:List bd} (h:bj r s t):bj (A::B::C::E::F::G::J::r) (A::B::C::E::F::G::J::s) t:=.cons .here (.h6 h)
theorem bj.h8 {A B C E F G J K:bd} {r s t:List bd} (h:bj r s t):bj (A::B::C::E::F::G::J::K::r) (A::B::C::E::F::G::J::K::s) t:=.cons .here (.h7 h)
theorem cC.jo {h:Nat->Option Obj} {hs As hs':List bd} (ht:bj hs As hs'):∀ {fp:List Nat},cC h hs fp->∃ f1 f2,cC h As f1/\cC h hs' f2/\fp.Perm (f1++f2):=by
 induction ht with
 | nil=>intro fp hf;exact ⟨[],fp,rfl,hf,.refl _⟩
 | cons h _ ih =>
  intro fp hf;obtain ⟨f1,f2,h1,h2,hp⟩:=hf.take h;obtain ⟨g1,g2,h3,h4,hq⟩:=ih h2;exact ⟨f1++g1,g2,⟨f1,g1,I,h1,h3⟩,h4,hp.trans (by rw [Zh];exact hq.append_left f1)⟩
theorem Mem.jo {w:World} (h:Mem c hs w) (ht:bj hs As hs'):Mem c (As++hs') w:=by
 obtain ⟨k,fp,hn,hs,hb⟩:=h;obtain ⟨f1,f2,h1,h2,hp⟩:=hs.jo ht;exact ⟨k,f1++f2,hp.nodup_iff.1 hn,cC.append_iff.2 ⟨f1,f2,I,h1,h2⟩,fun b dF=>hb b (hp.mem_iff.2 dF)⟩
theorem bj.append (h:bj hs As hs') (m:List bd):bj (hs++m) As (hs'++m):=by
 induction h with
 | nil=>exact .nil
 | cons h _ ih=>exact .cons (h.append m) ih
theorem Mem.Wl {As Bs:List bd} {w w':World} (hm:Mem c (As++hs') w)
  (hs0:∀ fp,fp.Nodup->cC (hp w) As fp->aK fp w w'/\∃ lS:List Nat,lS.Nodup/\cC (hp w') Bs lS/\∀ b∈lS,b∈fp\/w.heap.size<=b):Mem c (Bs++hs') w':=Mem.change hm hs0
theorem jy {ι:Type} {Φ:ι->Prop} {val:ι->Value} {own:ι->List bd} (hr:lV P sl ⟨some d,op,ty,pos,af,none⟩ f args) (hd:Nat.blt d c.nt=true) (ht:bj hs As hs')
  (hc:∀ w fp,Mem c hs w->fp.Nodup->cC (hp w) As fp->bb P f args w fp Φ val own)
  (k:∀ x,Φ x->Tr c D ((d,val x)::sl) (own x++hs') (WL P r ops Q rest)):Tr c D sl hs (WL P r ops Q (⟨some d,op,ty,pos,af,none⟩::rest)):=fun a w bh=>by
 have hm:=bh.mem.jo (ht.append (nb D));obtain ⟨kk,fp,hn,fV,hb⟩:=hm;obtain ⟨f1,f2,rfl,h1,h2⟩:=cC.append_iff.1 fV;refine zn I hr bh.cZ (hc w f1 bh.qD (ZB.1 hn).1 h1) fun e w' ⟨x,he,hx,hk,lS,uP,hs',yU⟩=>⟨val x,he,k x hx _ _ ((bh.put (by simpa [Z9] using hd) (val x)).heap ?_)⟩;obtain ⟨n1,n2,n12⟩:=ZB.1 hn;have aN:∀ b∈f2,b<w.heap.size:=fun b dF=>let ⟨o,ho⟩:=h2.own b dF;kh ho
 rw [Zh];refine ⟨?_,lS++f2,?_,cC.append_iff.2 ⟨lS,f2,I,hs',h2.loc fun b dF=>?_⟩,?_⟩
 ·refine ⟨hk.os.trans kk.os,hk.tape.trans kk.tape,hk.output.trans kk.output,ZX kk.dr hk.dr,ZX kk.size hk.size,fun b dF hm=>?_⟩;rw [<- kk.block b dF hm];refine hk.block b (ZaD dF kk.size) (fun hf=>?_);rcases hb b (ZC _ hf) with h | h
  ·omega
  ·exact hm h
 ·refine ZB.2 ⟨uP,n2,fun x hx y hy e=>?_⟩;subst e;rcases yU x hx with h | h
  ·exact n12 x h x hy I
  ·have:=aN x hy;omega
 ·exact hk.block b (aN b dF) (fun hf=>n12 b hf b dF I)
 ·intro b dF;rcases Zv.1 dF with h | h
  ·rcases yU b h with h | h
   ·exact hb b (ZC _ h)
   ·exact .inl (ZX kk.size h)
  ·exact hb b (ZT _ h)
def jM:Nat->List Value->aH
 | _,[]=>[]
 | i,v::vs=>(i,v)::jM (i+1) vs
theorem ql:∀ (vs:List Value) (i t:Nat) (v:Value),cX (jM i vs) t=some v->∃ j,t=i+j/\vs[j]? = some v
 | [],_,_,_,h=>by simp [jM,cX] at h
 | u :: us, i, t, v, h => by
  by_cases hit:i=t
  ·subst hit;rw [jM,fL] at h;exact ⟨0,I,by simpa using h⟩
  ·rw [jM,fK hit] at h;obtain ⟨j,e,hj⟩:=ql us (i+1) t v h;exact ⟨j+1,by omega,by simpa using hj⟩
theorem pj {fn:Func} {code:Code} {w:World} {md:List Nat} {hs0:List bd} (hf:P.funcs[f]? = some fn) (hb:fn.body=some code) (hl:args.length<=fn.ntmps)
  (h0:∃ fp:List Nat,fp.Nodup/\cC (hp w) hs0 fp/\∀ b∈fp,b∈md)
  (h:Tr ⟨w,md,fn.ntmps⟩ [] (jM 0 args) hs0 (WP P none code (bodyPostM (FR none) 0 P fn R))):Calls P f args.toArray w R:=by
 have hc:=callsIn_of_wp_marks (F:=FR none) (n:=0) (P:=P) (f:=f) (R:=R) (w:=w) (args:=args.toArray) hf hb trivial
  (h { tmps:=args.toArray++Array.replicate (fn.ntmps-args.toArray.size) undef,defers:=[] } w ⟨⟨.refl _ _,?_⟩,?_,?_,I⟩)
 ·exact (callsIn_wide (n:=0)).1 hc
 ·obtain ⟨fp,hn,fV,hm⟩:=h0;exact ⟨fp,hn,by simpa [nb] using fV,fun b dF=>.inr (hm b dF)⟩
 ·intro t v hv;obtain ⟨j,e,hj⟩:=ql args 0 t v hv;have:t=j:=by omega
  subst this;obtain ⟨aN,mF⟩:=Zm.1 hj;simp [Array.getElem?_append,aN,mF]
 ·simp;omega
end
end Go.SL
namespace Go.SL
open Go
structure Rel where
 p:Value->World->Prop
 st:∀ {v:Value} {w w':World},p v w->aK [] w w'->p v w'
def Rel.val (V:Value):Rel:=⟨fun v _=>v=V,fun h _=>h⟩
abbrev eU:=List (Nat×Rel)
def Bq (T:List Nat) (rl:eU) (a:Act) (w:World):Prop:=∀ d R,(d,R)∈rl->d∈T->∃ v,a.tmps[d]? = some v/\R.p v w
def xW (P:Program) (o:Oper) (a:Act) (w:World) (R:Rel):Prop:=
 match (execOp a.eval o).run P w with
 | .ok (.value v) w'=>aK [] w w'/\R.p v w'
 | .ok (.enter f args) w'=>w'=w/\Calls P f args w (fun e zq=>∃ v,e=.returned v/\aK [] w zq/\R.p v zq)
 | _=>False
def tW (P:Program) (c:Cx) (hs:List bd) (ops:Array Oper) (sl:aH) (rl:eU) (o:Oper) (R:Rel):Prop:=
 ∀ a w,bZ sl a->Bq (o.looksAt ops) rl a w->Mem c hs w->if Region.wanted o (yielded ops a.tmps) then xW P o a w R else R.p undef w
def M0 (e:Edge):Bool:=Region.binds .any e
def oJ (o:Oper):Bool:=match o.op with | .select ..=>false | .defer _=>false | _=>true
def fD (o:Oper) (i:Nat):Bool:=o.after.toList.any fun e=>M0 e&&Nat.beq e.on i
def has (l:List Nat) (t:Nat):Bool:=l.any (Nat.beq t)
theorem Ge {l:List Nat} {t:Nat}:has l t=true↔t∈l:=by
 simp [has,ZN]
def qB (ops:Array Oper) (x y:Oper) (i:Nat):Bool:=
 match x.dst,y.dst with
 | some d,some e=>!Nat.beq d e&&((!has (y.looksAt ops) d&&!has (x.looksAt ops) e)||fD y i)
 | _,_=>false
def kM (ops:Array Oper):List Oper->Nat->Bool
 | [],_=>true
 | x::r,i=>r.all (fun y=>qB ops x y i)&&kM ops r (i+1)
def ur:List Oper->Nat->Bool
 | [],_=>true
 | o::r,k=>o.after.toList.all (fun e=>!M0 e||Nat.blt e.on k)&&ur r (k+1)
def qE (acc:List Nat) (o:Oper):Nat:=o.after.toList.foldl (fun s e=>if M0 e then s ||| 2 ^ e.on ||| acc.getD e.on 0 else s) 0
def iW:List Oper->List Nat->List Nat
 | [],acc=>acc
 | o::r,acc=>iW r (acc++[qE acc o])
def zM (ms:List Nat):List Nat->Bool
 | []=>true
 | k::r=>(List.range k).all (fun i=>(ms.getD k 0).testBit i)&&zM ms r
def yD (l:List Oper) (m:Nat):Bool:=
 l.all oJ&&ur l 0&&kM l.toArray (l.take m) 0&&(l.take m).all (fun o=>o.dst.isSome)&&zM (iW l []) (List.range' m (l.length-m))&&Nat.ble m l.length
theorem k9 {l:List Oper}:∀ {s:Nat},ur l s=true->∀ {k:Nat} {o:Oper},l[k]? = some o->∀ e∈o.after,M0 e=true->e.on<s+k:=by
 induction l with
 | nil=>intro s _ k o h;simp at h
 | cons x r ih =>
  intro s h k o hk e he hb;simp only [ur,Zl,Z6] at h;cases k with
  | zero =>
   simp at hk;subst hk;have:=h.1 e (by simpa using he);simpa [hb,Z9] using this
  | succ k =>
   have:=ih h.2 (k:=k) (by simpa using hk) e he hb;omega
theorem rQ:∀ (l:List Oper) (acc:List Nat),∃ t,iW l acc=acc++t/\t.length=l.length
 | [],acc=>⟨[],by simp [iW]⟩
 | o :: r, acc => by
  obtain ⟨t,h,hl⟩:=rQ r (acc++[qE acc o]);exact ⟨qE acc o::t,by simp [iW,h],by simp [hl]⟩
theorem vM:∀ (l:List Oper) (acc:List Nat) (k:Nat) (o:Oper),l[k]? = some o->(iW l acc).getD (acc.length+k) 0=qE ((iW l acc).take (acc.length+k)) o
 | [],_,_,_,h=>by simp at h
 | x :: r, acc, k, o, h => by
  obtain ⟨t,ht,hl⟩:=rQ r (acc++[qE acc x]);cases k with
  | zero =>
   simp at h;subst h;simp [iW,ht]
  | succ k =>
   have:=vM r (acc++[qE acc x]) k o (by simpa using h);simp only [Zg,ZI,Zaj] at this;rw [show acc.length+(k+1)=acc.length+(0+1)+k from by omega];exact this
theorem tC (acc:List Nat) (i:Nat):∀ (es:List Edge) (s:Nat),(es.foldl (fun s e=>if M0 e then s ||| 2 ^ e.on ||| acc.getD e.on 0 else s) s).testBit i=true ->
  s.testBit i=true\/∃ e∈es,M0 e=true/\(i=e.on\/(acc.getD e.on 0).testBit i=true)
 | [],s,h=>.inl h
 | e :: es, s, h => by
  simp only [List.foldl_cons] at h;rcases tC acc i es _ h with h | ⟨e',Ie,hb,h⟩
  ·by_cases hb:M0 e=true
   ·simp only [hb,if_true,Nat.testBit_or,ZQ,Nat.testBit_two_pow,decide_eq_true_eq] at h;rcases h with (h | h) | h
    ·exact .inl h
    ·exact .inr ⟨e,by simp,hb,.inl h.symm⟩
    ·exact .inr ⟨e,by simp,hb,.inr h⟩
   ·simp only [hb] at h;exact .inl h
  ·exact .inr ⟨e',by simp [Ie],hb,h⟩
def DC (l:List Oper) (L:Nat->Prop):Prop:=∀ k o,l[k]? = some o->L k->∀ e∈o.after,M0 e=true->L e.on
theorem jq {l:List Oper} {L:Nat->Prop} (xr:DC l L) (V8:ur l 0=true):∀ (k:Nat),k<l.length->L k->∀ i,((iW l []).getD k 0).testBit i=true->L i:=by
 intro k
 induction k using Nat.strongRecOn with
 | _ k ih =>
  intro hk hL i hi;have ho:l[k]? = some l[k]:=Zc hk;have hm:=vM l [] k _ ho;simp only [Zaj,ZH] at hm;rw [hm] at hi;unfold qE at hi;rcases tC _ i _ 0 hi with h | ⟨e,he,hb,h⟩
  ·simp at h
  ·have Ie:e∈l[k].after:=by simpa using he
   have aN:e.on<k:=by have:=k9 V8 ho e Ie hb;omega
   have hLe:=xr k _ ho hL e Ie hb;rcases h with h | h
   ·rw [h];exact hLe
   ·refine ih e.on aN (by omega) hLe i ?_;have:((iW l []).take k).getD e.on 0=(iW l []).getD e.on 0:=by
     simp [Zk,aN]
    rwa [this] at h
theorem nB {ops:Array Oper} {l:List Oper}:∀ {s:Nat},kM ops l s=true->∀ {i j:Nat} {x y:Oper},i<j->l[i]? = some x->l[j]? = some y->qB ops x y (s+i)=true:=by
 induction l with
 | nil=>intro s _ i j x y _ h;simp at h
 | cons o r ih =>
  intro s h i j x y xK hx hy;simp only [kM,Zl,Z6] at h;cases j with
  | zero=>omega
  | succ j =>
   cases i with
   | zero =>
    simp at hx;subst hx;exact h.1 y (Z1 (by simpa using hy))
   | succ i =>
    have:=ih h.2 (i:=i) (j:=j) (by omega) (by simpa using hx) (by simpa using hy);rwa [show s+1+i=s+(i+1) from by omega] at this
variable {a a':Act} {o:Oper}
theorem r8 {sl:aH} {T:List Nat} {nt:Nat} (hn:a.tmps.size=nt) (hk:∀ t v,cX sl t=some v->t<nt) (hT:∀ t∈T,∀ v,cX sl t=some v->a.tmps[t]? = some v) :
  ∃ a':Act,bZ sl a'/\(∀ t∈T,a'.tmps[t]? = a.tmps[t]?)/\a'.tmps.size=nt:=by
 refine ⟨⟨Array.ofFn (n:=nt) fun t=>if (t:Nat)∈T then a.tmps.getD t undef else (cX sl t).getD undef,a.defers⟩,?_,?_,by simp⟩
 ·intro t v hv;have aN:=hk t v hv;simp only [Array.getElem?_ofFn,aN,dif_pos];by_cases ht:t∈T
  ·have:=hT t ht v hv;simp [ht,ZG,this]
  ·simp [ht,hv]
 ·intro t ht;by_cases aN:t<nt
  ·have:a.tmps[t]? = some (a.tmps[t]'(by omega)):=ZaQ (by omega);simp [ht,aN,ZG,this]
  ·rw [ZbB (by simp;omega),ZbB (by omega)]
theorem A3 {x:Operand} (h:∀ t,x=.tmp t->a'.tmps[t]? = a.tmps[t]?):a'.eval x=a.eval x:=by
 cases x with
 | tmp t=>simp [Act.eval,ZG,h t rfl]
 | _=>rfl
theorem jI {ops:Array Oper} (ho:oJ o=true) (h:∀ t∈o.looksAt ops,a'.tmps[t]? = a.tmps[t]?):execOp a'.eval o=execOp a.eval o:=by
 refine execOp_congr o (fun cs b he=>by simp [oJ,he] at ho) fun x hx=>A3 fun t ht=>h t ?_;subst ht;unfold Oper.looksAt;refine ZC _ ?_;simp only [List.mem_filterMap];exact ⟨_,by simpa using hx,I⟩
theorem jw {ops:Array Oper} (h:∀ t∈o.looksAt ops,a'.tmps[t]? = a.tmps[t]?):Region.wanted o (yielded ops a'.tmps)=Region.wanted o (yielded ops a.tmps):=by
 unfold Region.wanted;cases hg:o.guard with
 | none=>rfl
 | some gw =>
  obtain ⟨j,want⟩:=gw;simp only [];have:yielded ops a'.tmps j=yielded ops a.tmps j:=by
   unfold yielded;cases hd:(ops[j]?).bind (·.dst) with
   | none=>rfl
   | some d =>
    have:=h d (by unfold Oper.looksAt;exact ZT _ (by simp [hg,hd]));simp [this]
  rw [this]
inductive tp (P:Program) (c:Cx) (hs:List bd) (ops:Array Oper):List Oper->aH->eU->List Rel->aH->eU->Prop
 | nil {sl:aH} {rl:eU}:tp P c hs ops [] sl rl [] sl rl
 | val {o:Oper} {l:List Oper} {sl js:aH} {rl kI:eU} {d:Nat} {V:Value} {S:List Rel} (hd:o.dst=some d) (fH:d<c.nt) (h:tW P c hs ops sl rl o (.val V)) (t:tp P c hs ops l ((d,V)::sl) rl S js kI) :
   tp P c hs ops (o::l) sl rl (.val V::S) js kI
 | rel {o:Oper} {l:List Oper} {sl js:aH} {rl kI:eU} {d:Nat} {R:Rel} {S:List Rel} (hd:o.dst=some d) (fH:d<c.nt) (hn:cX sl d=none) (h:tW P c hs ops sl rl o R) (t:tp P c hs ops l sl ((d,R)::rl) S js kI) :
   tp P c hs ops (o::l) sl rl (R::S) js kI
theorem tp.at_ {P:Program} {c:Cx} {hs:List bd} {ops:Array Oper} {l:List Oper} {sl js:aH} {rl kI:eU} {S:List Rel} (h:tp P c hs ops l sl rl S js kI) :
  ∀ (i : Nat) (o : Oper), l[i]? = some o -> ∃ uB ML R, S[i]? = some R /\ tW P c hs ops uB ML o R /\
   (∀ t v,cX uB t=some v->(∃ (j:Nat) (oj:Oper),j<i/\l[j]? = some oj/\oj.dst=some t/\S[j]? = some (.val v))\/((∀ (j:Nat) (oj:Oper),j<i->l[j]? = some oj->oj.dst≠some t)/\cX sl t=some v)) /\
   (∀ t Rt,(t,Rt)∈ML->(∃ (j:Nat) (oj:Oper),j<i/\l[j]? = some oj/\oj.dst=some t/\S[j]? = some Rt)\/(t,Rt)∈rl):=by
 induction h with
 | nil=>intro i o h;simp at h
 | @val o0 l sl js rl kI d V S hd fH bh t ih =>
  intro i o ho;cases i with
  | zero =>
   simp at ho;subst ho;exact ⟨sl,rl,.val V,I,bh,fun t v hv=>.inr ⟨fun j _ hj=>by omega,hv⟩,fun t Rt hm=>.inr hm⟩
  | succ i =>
   obtain ⟨uB,ML,R,hR,hs',h1,h2⟩:=ih i o (by simpa using ho);refine ⟨uB,ML,R,by simpa using hR,hs',fun t v hv=>?_,fun t Rt hm=>?_⟩
   ·rcases h1 t v hv with ⟨j,oj,hj,iP,jd,kB⟩ | ⟨rf,mF⟩
    ·exact .inl ⟨j+1,oj,by omega,by simpa using iP,jd,by simpa using kB⟩
    ·by_cases xL:d=t
     ·subst xL;rw [fL] at mF;cases mF;exact .inl ⟨0,o0,by omega,I,hd,I⟩
     ·rw [fK xL] at mF;refine .inr ⟨fun j oj hj iP=>?_,mF⟩;cases j with
      | zero=>simp at iP;subst iP;rw [hd];simp [xL]
      | succ j=>exact rf j oj (by omega) (by simpa using iP)
   ·rcases h2 t Rt hm with ⟨j,oj,hj,iP,jd,kB⟩ | aA
    ·exact .inl ⟨j+1,oj,by omega,by simpa using iP,jd,by simpa using kB⟩
    ·exact .inr aA
 | @rel o0 l sl js rl kI d R0 S hd fH hn bh t ih =>
  intro i o ho;cases i with
  | zero =>
   simp at ho;subst ho;exact ⟨sl,rl,R0,I,bh,fun t v hv=>.inr ⟨fun j _ hj=>by omega,hv⟩,fun t Rt hm=>.inr hm⟩
  | succ i =>
   obtain ⟨uB,ML,R,hR,hs',h1,h2⟩:=ih i o (by simpa using ho);refine ⟨uB,ML,R,by simpa using hR,hs',fun t v hv=>?_,fun t Rt hm=>?_⟩
   ·rcases h1 t v hv with ⟨j,oj,hj,iP,jd,kB⟩ | ⟨rf,mF⟩
    ·exact .inl ⟨j+1,oj,by omega,by simpa using iP,jd,by simpa using kB⟩
    ·have xL:d≠t:=fun e=>by subst e;rw [hn] at mF;cases mF
     refine .inr ⟨fun j oj hj iP=>?_,mF⟩;cases j with
     | zero=>simp at iP;subst iP;rw [hd];simp [xL]
     | succ j=>exact rf j oj (by omega) (by simpa using iP)
   ·rcases h2 t Rt hm with ⟨j,oj,hj,iP,jd,kB⟩ | aA
    ·exact .inl ⟨j+1,oj,by omega,by simpa using iP,jd,by simpa using kB⟩
    ·rcases ZO.1 aA with e | SN
     ·cases e;exact .inl ⟨0,o0,by omega,I,hd,I⟩
     ·exact .inr SN
theorem tp.end_ {P:Program} {c:Cx} {hs:List bd} {ops:Array Oper} {l:List Oper} {sl js:aH} {rl kI:eU} {S:List Rel} (h:tp P c hs ops l sl rl S js kI) :
   (∀ t v,cX js t=some v->(∃ (j:Nat) (oj:Oper),l[j]? = some oj/\oj.dst=some t/\S[j]? = some (.val v))\/((∀ (j:Nat) (oj:Oper),l[j]? = some oj->oj.dst≠some t)/\cX sl t=some v)) /\
   (∀ t Rt,(t,Rt)∈kI->(∃ (j:Nat) (oj:Oper),l[j]? = some oj/\oj.dst=some t/\S[j]? = some Rt)\/(t,Rt)∈rl) /\
   (∀ (j:Nat) (oj:Oper),l[j]? = some oj->∃ d R,oj.dst=some d/\d<c.nt/\S[j]? = some R):=by
 induction h with
 | nil=>exact ⟨fun t v hv=>.inr ⟨fun j oj h=>by simp at h,hv⟩,fun t Rt hm=>.inr hm,fun j oj h=>by simp at h⟩
 | @val o0 l sl js rl kI d V S hd fH bh t ih =>
  obtain ⟨h1,h2,h3⟩:=ih;refine ⟨fun t v hv=>?_,fun t Rt hm=>?_,fun j oj hj=>?_⟩
  ·rcases h1 t v hv with ⟨j,oj,iP,jd,kB⟩ | ⟨rf,mF⟩
   ·exact .inl ⟨j+1,oj,by simpa using iP,jd,by simpa using kB⟩
   ·by_cases xL:d=t
    ·subst xL;rw [fL] at mF;cases mF;exact .inl ⟨0,o0,I,hd,I⟩
    ·rw [fK xL] at mF;refine .inr ⟨fun j oj iP=>?_,mF⟩;cases j with
     | zero=>simp at iP;subst iP;rw [hd];simp [xL]
     | succ j=>exact rf j oj (by simpa using iP)
  ·rcases h2 t Rt hm with ⟨j,oj,iP,jd,kB⟩ | aA
   ·exact .inl ⟨j+1,oj,by simpa using iP,jd,by simpa using kB⟩
   ·exact .inr aA
  ·cases j with
   | zero=>simp at hj;subst hj;exact ⟨d,_,hd,fH,rfl⟩
   | succ j=>obtain ⟨d',R',h⟩:=h3 j oj (by simpa using hj);exact ⟨d',R',by simpa using h⟩
 | @rel o0 l sl js rl kI d R0 S hd fH hn bh t ih =>
  obtain ⟨h1,h2,h3⟩:=ih;refine ⟨fun t v hv=>?_,fun t Rt hm=>?_,fun j oj hj=>?_⟩
  ·rcases h1 t v hv with ⟨j,oj,iP,jd,kB⟩ | ⟨rf,mF⟩
   ·exact .inl ⟨j+1,oj,by simpa using iP,jd,by simpa using kB⟩
   ·have xL:d≠t:=fun e=>by subst e;rw [hn] at mF;cases mF
    refine .inr ⟨fun j oj iP=>?_,mF⟩;cases j with
    | zero=>simp at iP;subst iP;rw [hd];simp [xL]
    | succ j=>exact rf j oj (by simpa using iP)
  ·rcases h2 t Rt hm with ⟨j,oj,iP,jd,kB⟩ | aA
   ·exact .inl ⟨j+1,oj,by simpa using iP,jd,by simpa using kB⟩
   ·rcases ZO.1 aA with e | SN
    ·cases e;exact .inl ⟨0,o0,I,hd,I⟩
    ·exact .inr SN
  ·cases j with
   | zero=>simp at hj;subst hj;exact ⟨d,_,hd,fH,rfl⟩
   | succ j=>obtain ⟨d',R',h⟩:=h3 j oj (by simpa using hj);exact ⟨d',R',by simpa using h⟩
end Go.SL
namespace Go.SL
open Go
section
variable {P:Program} {r:Option Nat} {c:Cx} {D:List Nat} {sl js:aH} {kI:eU} {hs:List bd} {Q:Exit->Act->World->Prop} {l:List Oper} {m:Nat} {S:List Rel}
def Ls (listed:Array Bool) (i:Nat):Prop:=listed.getD i false=true
theorem gm (n i:Nat):¬ Ls (Array.replicate n false) i:=by
 unfold Ls;rw [ZG,Array.getElem?_replicate];split <;> simp
variable {i:Nat} {listed:Array Bool} {o:Oper}
theorem c8 {i j:Nat} (hi:i<listed.size):Ls (listed.setIfInBounds i true) j↔(j=i\/Ls listed j):=by
 unfold Ls;by_cases h:i=j
 ·subst h;simp [ZG,hi]
 ·have h':¬ j=i:=fun e=>h e.symm
  simp [ZG,ZM h,h']
theorem Gj (hi:i<listed.size):listed.getD i true=false↔¬ Ls listed i:=by
 unfold Ls;simp [ZG,hi]
theorem ek (hsz:listed.size=l.length) {i:Nat}:i∈Region.ready .any l.toArray listed↔∃ o,l[i]? = some o/\¬ Ls listed i/\∀ e∈o.after,M0 e=true->Ls listed e.on:=by
 rw [mem_ready];constructor
 ·rintro ⟨h1,o,ho,h2⟩;have Gb:l[i]? = some o:=by simpa using ho
  have hi:i<listed.size:=by rw [hsz];exact (Zm.1 Gb).1
  exact ⟨o,Gb,(Gj hi).1 h1,h2⟩
 ·rintro ⟨o,ho,h1,h2⟩;have hi:i<listed.size:=by rw [hsz];exact (Zm.1 ho).1
  exact ⟨(Gj hi).2 h1,o,by simpa using ho,h2⟩
theorem kg (hsz:listed.size=l.length) (V8:ur l 0=true) (h:∃ i,i<l.length/\¬ Ls listed i):∃ i,i∈Region.ready .any l.toArray listed:=by
 obtain ⟨i,hi,hn⟩:=h
 induction i using Nat.strongRecOn with
 | _ i ih =>
  by_cases eR:∀ j,j<i->Ls listed j
  ·refine ⟨i,(ek hsz).2 ⟨l[i],Zc hi,hn,fun e he hb=>eR _ ?_⟩⟩;have:=k9 V8 (Zc hi) e he hb;omega
  ·have:∃ j,j<i/\¬ Ls listed j:=by
    apply Classical.byContradiction;intro hc;exact eR fun j hj=>Classical.byContradiction fun uP=>hc ⟨j,hj,uP⟩
   obtain ⟨j,hj,hnj⟩:=this;exact ih j hj (by omega) hnj
theorem tt {ms:List Nat}:∀ {ks:List Nat},zM ms ks=true->∀ k∈ks,∀ i,i<k->(ms.getD k 0).testBit i=true
 | [],_,k,hk=>by cases hk
 | x :: ks, h, k, hk => by
  simp only [zM,Zl,Z6,ZP] at h;rcases ZO.1 hk with e | hk
  ·subst e;exact h.1
  ·exact tt h.2 k hk
structure TO (l:List Oper) (m:Nat):Prop where
 op:∀ o∈l,oJ o=true
 ac:ur l 0=true
 Cz:kM l.toArray (l.take m) 0=true
 tail:∀ k,m<=k->k<l.length->∀ i,i<k->((iW l []).getD k 0).testBit i=true
 le:m<=l.length
theorem vD (h:yD l m=true):TO l m:=by
 simp only [yD,Zl,Z6] at h;obtain ⟨⟨⟨⟨⟨h1,h2⟩,h3⟩,_⟩,h5⟩,h6⟩:=h;refine ⟨h1,h2,h3,fun k hk aN=>tt h5 k ?_,by simpa using h6⟩;rw [ZaZ];omega
theorem qA (hc:TO l m) {listed:Array Bool} (hsz:listed.size=l.length) (xr:DC l (Ls listed)) {i:Nat} (hi:i∈Region.ready .any l.toArray listed) (hm:m<=i):∀ j,j<i->Ls listed j:=by
 intro j hj;obtain ⟨o,ho,hn,hd⟩:=(ek hsz).1 hi;have aN:i<l.length:=(Zm.1 ho).1;have EZ:DC l (fun k=>k=i\/Ls listed k):=by
  intro k ok hk hL e he hb;rcases hL with e' | hL
  ·subst e';rw [ho] at hk;cases hk;exact .inr (hd e he hb)
  ·exact .inr (xr k ok hk hL e he hb)
 rcases jq EZ hc.ac i aN (.inl rfl) j (hc.tail i hm aN j hj) with h | h
 ·omega
 ·exact h
theorem DT {rest:List Oper} {ops:Array Oper} {K:Act->World->Prop} {a:Act} {w:World} (hi:ops[i]? = some o) (hK:∀ a w,WL P r ops Q rest a w->K a w) (h:WL P r ops Q (o::rest) a w):wpOpIn (FR r) 0 P ops Q i K a w:=by
 unfold wpOpIn;simp only [hi];unfold WL at h;split
 ·rename_i hw;rw [if_pos hw] at h;exact Oper.wpIn_mono hK h
 ·rename_i hw;rw [if_neg hw] at h;exact ⟨fun _ _=>trivial,hK _ _ h⟩
theorem Ew (hc:TO l m):∀ (fuel k:Nat) (listed:Array Bool) (a:Act) (w:World),m<=k->k+fuel=l.length->listed.size=l.length->(∀ i,i<l.length->(Ls listed i↔i<k)) ->
  WL P r l.toArray Q (l.drop k) a w->wpAnyIn (FR r) 0 P .any l.toArray Q fuel listed a w
 | 0, k, listed, a, w, _, hk, hsz, hL, h => by
  refine ⟨?_,by rw [Zbg (by omega)] at h;exact h⟩;apply List.eq_nil_iff_forall_not_mem.2;intro i hi;obtain ⟨o,ho,hn,_⟩:=(ek hsz).1 hi;have aN:=(Zm.1 ho).1;exact hn ((hL i aN).2 (by omega))
 | fuel + 1, k, listed, a, w, T4, hk, hsz, hL, h => by
  have xr:DC l (Ls listed):=fun k' o' Gb LD e he hb=>by
   have aN:=(Zm.1 Gb).1;have:=k9 hc.ac Gb e he hb;exact (hL e.on (by omega)).2 (by have:=(hL k' aN).1 LD;omega)
  have O0:k<l.length:=by omega
  refine ⟨fun h0=>?_,fun i hi=>?_⟩
  ·obtain ⟨i,hi⟩:=kg hsz hc.ac ⟨k,O0,fun hh=>by have:=(hL k O0).1 hh;omega⟩;rw [h0] at hi;cases hi
  ·obtain ⟨o,ho,hn,_⟩:=(ek hsz).1 hi;have aN:=(Zm.1 ho).1;have SR:k<=i:=Zbh fun hh=>hn ((hL i aN).2 hh)
   have:i=k:=by
    rcases ZbC k i with hh | hh
    ·have:=(hL k O0).1 (qA hc hsz xr hi (by omega) k hh);omega
    ·omega
   subst this;rw [Zu aN] at h;have Gb:l[i]=o:=by rw [Zc aN] at ho;exact Option.some.inj ho
   rw [Gb] at h;refine DT (by simpa using ho) (fun a' w' h'=>Ew hc fuel (i+1) _ a' w' (by omega) (by omega) (by simpa using hsz) (fun j hj=>?_) h') h;rw [c8 (by omega)];have:=hL j hj;constructor
   ·rintro (e | hh)
    ·omega
    ·have:=this.1 hh;omega
   ·intro hh;by_cases e:j=i
    ·exact .inl e
    ·exact .inr (this.2 (by omega))
structure Inv1 (c:Cx) (D:List Nat) (hs:List bd) (l:List Oper) (m:Nat) (S:List Rel) (a0:Act) (fuel:Nat) (listed:Array Bool) (a:Act) (w:World):Prop where
 sz:listed.size=l.length
 dc:DC l (Ls listed)
 hi:∀ k,m<=k->¬ Ls listed k
 mem:Mem c (hs++nb D) w
 defers:a.defers=D.map mark
 size:a.tmps.size=c.nt
 FX:∀ t,(∀ (j:Nat) (o:Oper),l[j]? = some o->Ls listed j->o.dst≠some t)->a.tmps[t]? = a0.tmps[t]?
 new:∀ (j:Nat) (o:Oper),l[j]? = some o->Ls listed j->∀ d R,o.dst=some d->S[j]? = some R->∃ v,a.tmps[d]? = some v/\R.p v w
 left:∃ U:List Nat,U.Nodup/\(∀ i,i∈U↔i<l.length/\¬ Ls listed i)/\U.length=fuel
theorem mc (hc:TO l m) {i j:Nat} {x y:Oper} (xK:i<j) (hj:j<m) (hx:l[i]? = some x) (hy:l[j]? = some y):qB l.toArray x y i=true:=by
 have:=nB hc.Cz (i:=i) (j:=j) xK (by rw [ZK,if_pos (by omega)];exact hx) (by rw [ZK,if_pos hj];exact hy);simpa using this
theorem eu {ops:Array Oper} {x y:Oper} {i d e:Nat} (h:qB ops x y i=true) (hx:x.dst=some d) (hy:y.dst=some e):d≠e/\((d∈y.looksAt ops\/e∈x.looksAt ops)->fD y i=true):=by
 simp only [qB,hx,hy,Zl,Zbu,ZQ] at h;obtain ⟨h1,h2⟩:=h;refine ⟨fun e'=>by subst e';simp at h1,fun h3=>?_⟩;rcases h2 with ⟨h4,h5⟩ | h2
 ·rcases h3 with h3 | h3
  ·rw [Ge.2 h3] at h4;cases h4
  ·rw [Ge.2 h3] at h5;cases h5
 ·exact h2
theorem dS (h:fD o i=true):∃ e∈o.after,M0 e=true/\e.on=i:=by
 simp only [fD,ZN,Zl] at h;obtain ⟨e,he,hb,re⟩:=h;exact ⟨e,by simpa using he,hb,Zah re⟩
theorem CO (hc:TO l m) (hl:m<=l.length) {a0 a:Act} {w w':World} {fuel i d:Nat} {listed:Array Bool} {o:Oper} {R:Rel} {v:Value} (hI:Inv1 c D hs l m S a0 (fuel+1) listed a w)
  (hi:i∈Region.ready .any l.toArray listed) (sW:i<m) (ho:l[i]? = some o) (hd:o.dst=some d) (fH:d<c.nt) (tO:S[i]? = some R)
  (aas:∀ (j:Nat) (oj:Oper),j<m->l[j]? = some oj->∃ e,oj.dst=some e) (hk:aK [] w w') (hv:R.p v w'):Inv1 c D hs l m S a0 fuel (listed.setIfInBounds i true) (a.put o.dst v) w':=by
 obtain ⟨o',Gb,hn,oS⟩:=(ek hI.sz).1 hi;rw [ho] at Gb;cases Gb;have ju:i<listed.size:=by rw [hI.sz];omega
 have _:=aas;have tL:∀ (j:Nat) (oj:Oper) (e:Nat),l[j]? = some oj->j<m->j≠i->oj.dst=some e->e≠d:=by
  intro j oj e hj kb hne he;rcases ZbC j i with h | h
  ·exact (eu (mc hc h sW hj ho) he hd).1
  ·exact fun e'=>(eu (mc hc (show i<j by omega) kb ho hj) hd he).1 e'.symm
 rw [hd];refine ⟨by simpa using hI.sz,?_,?_,hI.mem.rS hk,hI.defers,by simpa [Act.put] using hI.size,?_,?_,?_⟩
 ·intro k ok xl hL e he hb;rw [c8 ju] at hL ⊢;rcases hL with e' | hL
  ·subst e';rw [ho] at xl;cases xl;exact .inr (oS e he hb)
  ·exact .inr (hI.dc k ok xl hL e he hb)
 ·intro k xl hL;rw [c8 ju] at hL;rcases hL with e | hL
  ·omega
  ·exact hI.hi k xl hL
 ·intro t ht;have h1:d≠t:=fun e=>by subst e;exact ht i o ho ((c8 ju).2 (.inl rfl)) hd
  simp only [Act.put,ZM h1];exact hI.FX t fun j oj hj hL=>ht j oj hj ((c8 ju).2 (.inr hL))
 ·intro j oj hj hL e Rj he hRj;rw [c8 ju] at hL;by_cases sV:j=i
  ·subst sV;rw [ho] at hj;cases hj;rw [hd] at he;cases he;rw [tO] at hRj;cases hRj;exact ⟨v,by simp [Act.put,hI.size,fH],hv⟩
  ·have Gh:=hL.resolve_left sV;obtain ⟨u,hu,hp⟩:=hI.new j oj hj Gh e Rj he hRj;have kb:j<m:=ZY fun h=>hI.hi j h Gh
   have hne:e≠d:=tL j oj e hj kb sV he;refine ⟨u,?_,Rj.st hp hk⟩;simp only [Act.put,ZM (Ne.symm hne)];exact hu
 ·obtain ⟨U,DM,uS,xN⟩:=hI.left;have VQ:i∈U:=(uS i).2 ⟨by omega,hn⟩;refine ⟨U.erase i,DM.erase i,fun j=>?_,by rw [ZaV VQ,xN];rfl⟩;rw [DM.mem_erase_iff,uS j,c8 ju];constructor
  ·rintro ⟨h1,h2,h3⟩;exact ⟨h2,fun h=>h.elim h1 h3⟩
  ·rintro ⟨h1,h2⟩;exact ⟨fun e=>h2 (.inl e),h1,fun h=>h2 (.inr h)⟩
def Fo (rl:eU) (a:Act) (w:World):Prop:=∀ d R,(d,R)∈rl->∃ v,a.tmps[d]? = some v/\R.p v w
theorem RY (hc:TO l m) (hp:tp P c hs l.toArray (l.take m) sl [] S js kI) {a0:Act} (h0:bZ sl a0) (OW:a0.tmps.size=c.nt)
  (tail:∀ a w,St c D js hs a w->Fo kI a w->WL P r l.toArray Q (l.drop m) a w) :
  ∀ (fuel:Nat) (listed:Array Bool) (a:Act) (w:World),Inv1 c D hs l m S a0 fuel listed a w->wpAnyIn (FR r) 0 P .any l.toArray Q fuel listed a w:=by
 have rZ:=hp.end_;have fc:∀ (j:Nat) (o:Oper),j<m->l[j]? = some o->(l.take m)[j]? = some o:=fun j o hj ho=>by rw [ZK,if_pos hj];exact ho
 have gH:∀ (j:Nat) (o:Oper),(l.take m)[j]? = some o->j<m/\l[j]? = some o:=fun j o ho=>by
  rw [ZK] at ho;split at ho
  ·exact ⟨by assumption,ho⟩
  ·cases ho
 have oR:∀ fuel listed a w,Inv1 c D hs l m S a0 fuel listed a w->(∀ i,i<m->Ls listed i)->wpAnyIn (FR r) 0 P .any l.toArray Q fuel listed a w:=by
  intro fuel listed a w hI eR;have hL:∀ i,i<l.length->(Ls listed i↔i<m):=fun i _=>⟨fun h=>ZY fun hm=>hI.hi i hm h,eR i⟩
  obtain ⟨U,DM,uS,xN⟩:=hI.left;have jb:U.Perm (List.range' m (l.length-m)):=by
   rw [ZaK DM (List.nodup_range')];intro i;rw [uS i,ZaZ];constructor
   ·rintro ⟨h1,h2⟩;exact ⟨Zbh fun h=>h2 (eR i h),by omega⟩
   ·rintro ⟨h1,h2⟩;exact ⟨by omega,hI.hi i h1⟩
  have hlen:fuel=l.length-m:=by rw [<- xN,jb.length_eq,List.length_range']
  refine Ew hc fuel m listed a w (Zz _) (by have:=hc.le;omega) hI.sz hL (tail a w ⟨hI.mem,?_,hI.size,hI.defers⟩ ?_)
  ·intro t v hv;rcases rZ.1 t v hv with ⟨j,oj,hj,jd,kB⟩ | ⟨rf,mF⟩
   ·obtain ⟨kb,nZ⟩:=gH j oj hj;obtain ⟨u,hu,nQ⟩:=hI.new j oj nZ (eR j kb) t _ jd kB;rw [hu,show u=v from nQ]
   ·rw [hI.FX t fun j oj hj mA=>rf j oj (fc j oj (ZY fun hm=>hI.hi j hm mA) hj)]
    exact h0 t v mF
  ·intro d R hm;rcases rZ.2.1 d R hm with ⟨j,oj,hj,jd,kB⟩ | aA
   ·obtain ⟨kb,nZ⟩:=gH j oj hj;exact hI.new j oj nZ (eR j kb) d R jd kB
   ·cases aA
 intro fuel
 induction fuel with
 | zero =>
  intro listed a w hI;obtain ⟨U,_,uS,xN⟩:=hI.left;have hU:U=[]:=Zaw.1 xN;refine oR 0 listed a w hI fun i hi=>Classical.byContradiction fun hn=>?_;have:=(uS i).2 ⟨by have:=hc.le;omega,hn⟩;rw [hU] at this;cases this
 | succ fuel ih =>
  intro listed a w hI;by_cases eR:∀ i,i<m->Ls listed i
  ·exact oR _ listed a w hI eR
  ·have hex:∃ i,i<m/\¬ Ls listed i:=Classical.byContradiction fun hh=>eR fun i hi=>Classical.byContradiction fun hn=>hh ⟨i,hi,hn⟩
   obtain ⟨i0,Bz,ug⟩:=hex;refine ⟨fun hr=>?_,fun i hi=>?_⟩
   ·obtain ⟨i,hi⟩:=kg hI.sz hc.ac ⟨i0,by have:=hc.le;omega,ug⟩;rw [hr] at hi;cases hi
   ·have sW:i<m:=ZY fun hm=>ug (qA hc hI.sz hI.dc hi hm i0 (by omega))
    obtain ⟨o,ho,hn,oS⟩:=(ek hI.sz).1 hi;obtain ⟨uB,ML,R,Ta,iZ,hs1,hs2⟩:=hp.at_ i o (fc i o sW ho);obtain ⟨d,R',hd,fH,tO⟩:=rZ.2.2 i o (fc i o sW ho);rw [Ta] at tO;cases tO;have nP:∀ (j:Nat),fD o j=true->Ls listed j:=fun j hw=>by
     obtain ⟨e,he,hb,re⟩:=dS hw;rw [<- re];exact oS e he hb
    have C6:∀ (j t:Nat) (oj:Oper),j<i->(l.take m)[j]? = some oj->oj.dst=some t->t∈o.looksAt l.toArray->Ls listed j:=by
     intro j t oj hj iP jd ht;obtain ⟨kb,nZ⟩:=gH j oj iP;exact nP j ((eu (mc hc hj sW nZ ho) jd hd).2 (.inl ht))
    have hT:∀ t∈o.looksAt l.toArray,∀ v,cX uB t=some v->a.tmps[t]? = some v:=by
     intro t ht v hv;rcases hs1 t v hv with ⟨j,oj,hj,iP,jd,kB⟩ | ⟨rf,mF⟩
     ·obtain ⟨u,hu,nQ⟩:=hI.new j oj (gH j oj iP).2 (C6 j t oj hj iP jd ht) t _ jd kB;rw [hu,show u=v from nQ]
     ·rw [hI.FX t fun j oj hj mA jd=>?_]
      ·exact h0 t v mF
      ·have kb:j<m:=ZY fun hm=>hI.hi j hm mA
       rcases Zas j i with h | h | h
       ·exact rf j oj h (fc j oj kb hj) jd
       ·subst h;exact hn mA
       ·have hw:=(eu (mc hc h kb ho hj) hd jd).2 (.inr ht);obtain ⟨e,he,hb,re⟩:=dS hw;have:=hI.dc j oj hj mA e he hb;rw [re] at this;exact hn this
    have AQ:∀ t v,cX uB t=some v->t<c.nt:=by
     intro t v hv;rcases hs1 t v hv with ⟨j,oj,_,iP,jd,_⟩ | ⟨_,mF⟩
     ·obtain ⟨d',_,xu,EY,_⟩:=rZ.2.2 j oj iP;rw [jd] at xu;cases xu;exact EY
     ·have:=h0 t v mF;rw [<- OW];exact (Z2.1 this).1
    obtain ⟨a',mG,jT,_⟩:=r8 hI.size AQ hT;have SE:Bq (o.looksAt l.toArray) ML a' w:=by
     intro t Rt hm ht;rcases hs2 t Rt hm with ⟨j,oj,hj,iP,jd,kB⟩ | aA
     ·obtain ⟨v,hv,nQ⟩:=hI.new j oj (gH j oj iP).2 (C6 j t oj hj iP jd ht) t _ jd kB;exact ⟨v,by rw [jT t ht];exact hv,nQ⟩
     ·cases aA
    have hq:=iZ a' w mG SE hI.mem.lE;have HA:oJ o=true:=hc.op o (Z1 ho);have hex:=jI (o:=o) (ops:=l.toArray) HA jT;rw [jw jT] at hq;have jH:∀ v w',aK [] w w'->R.p v w'->wpAnyIn (FR r) 0 P .any l.toArray Q fuel (listed.setIfInBounds i true) (a.put o.dst v) w':=fun v w' hk hv=>
     ih _ _ _ (CO hc hc.le hI hi sW ho hd fH Ta (fun j oj hj iP=>let ⟨e,_,he,_⟩:=rZ.2.2 j oj (fc j oj hj iP);⟨e,he⟩) hk hv)
    unfold wpOpIn;rw [show l.toArray[i]? = some o from by simpa using ho];simp only [];split
    ·rename_i hw;rw [if_pos hw] at hq;refine ⟨dQ _ _ _ _ _,?_⟩;rw [Oper.semAt_eq _ _ _ (fun cc he=>by simp [oJ,he] at HA),<- hex]
     unfold xW at hq
     revert hq
     generalize (execOp a'.eval o).run P w=res;intro hq
     match res,hq with
     | .ok (.value v) w',⟨hk,hv⟩=>exact jH v w' hk hv
     | .ok (.enter f args) w', ⟨e, cJ⟩ =>
      subst e;refine ⟨by simp [FR,Fence.wide],(jm cJ).mono fun e zq h=>?_⟩;obtain ⟨v,rfl,hk,hv⟩:=h;exact jH v zq hk hv
    ·rename_i hw;rw [if_neg hw] at hq;exact ⟨fun _ _=>trivial,jH undef w (.refl _ _) hq⟩
theorem zF {id:Nat} (rY:P.follows .mixedOrders=true) (dD:yD l m=true) (hp:tp P c hs l.toArray (l.take m) sl [] S js kI)
  (tail:∀ a w,St c D js hs a w->Fo kI a w->WL P r l.toArray Q (l.drop m) a w):Tr c D sl hs (WP P r (.region id l.toArray true) Q):=fun a w bh=>by
 unfold WP;refine wpIn_region_any rY ?_;refine RY (vD dD) hp bh.cZ bh.size tail l.toArray.size _ a _ ⟨by simp,?_,?_,?_,bh.defers,bh.size,fun t _=>rfl,?_,List.range l.length,ZbG,?_,by simp⟩
 ·exact fun k o _ hL=>absurd hL (gm _ _)
 ·exact fun k _ hL=>gm _ _ hL
 ·exact bh.mem.drew
 ·exact fun j o _ hL=>absurd hL (gm _ _)
 ·exact fun i=>⟨fun h=>⟨by simpa using h,gm _ _⟩,fun h=>by simpa using h.1⟩
end
end Go.SL
namespace Go.SL
open Go
def leq:Value->Value->Option Bool
 | .int k a,.int k' b=>if k=k' then some (decide (a=b)) else none
 | .string a,.string b=>some (decide (a=b))
 | .bool a,.bool b=>some (a==b)
 | _,_=>none
def xx:List Value->List Value->Option Bool
 | [],[]=>some true
 | x :: xs, y :: ys => match leq x y, xx xs ys with
  | some p,some q=>some (p&&q)
  | _,_=>none
 | _,_=>none
def KQ:Option TypeDesc->Bool
 | some (.int _) | some .string | some .bool=>true
 | _=>false
section
variable {P:Program} {w:World}
theorem F1 {d:Nat} {t:TypeId} {x y:Value} {b:Bool} (hl:KQ (P.underlying t)=true) (hk:∀ k,P.underlying t=some (.int k)->∃ a,x=.int k a) (hs:P.underlying t=some .string->∃ a,x=.string a) (hb:P.underlying t=some .bool->∃ a,x=.bool a)
  (h:leq x y=some b):(Op.equalIn (d+1) t x y).run P w=.ok b w:=by
 cases hu:P.underlying t with
 | none=>rw [hu] at hl;cases hl
 | some D =>
  rw [hu] at hl;cases D with
  | int k =>
   obtain ⟨a,rfl⟩:=hk k hu;cases y <;> simp only [leq] at h <;> try cases h
   rename_i k' b';split at h
   ·rename_i e;subst e;cases h;rw [run_equalIn_int w d t k k a b' hu];congr 1
   ·cases h
  | string =>
   obtain ⟨a,rfl⟩:=hs hu;cases y <;> simp only [leq,Option.some.injEq] at h <;> try cases h
   rw [run_equalIn_string w d t a _ hu,uA]
  | bool =>
   obtain ⟨a,rfl⟩:=hb hu;cases y <;> simp only [leq,Option.some.injEq] at h <;> try cases h
   rw [run_equalIn_bool' w d t a _ hu]
  | _=>cases hl
end
def vS (D:Option TypeDesc) (x:Value):Bool:=
 match D,x with
 | some (.int k),.int k' _=>decide (k=k')
 | some .string,.string _=>true
 | some .bool,.bool _=>true
 | _,_=>false
def qq (P:Program) (g:TypeId->Option (List TypeId)) (acc:Option (List TypeId)) (f:Field):Option (List TypeId):=
 match acc,g f.type,P.info? f.type with
 | some a,some m,some i=>if f.offset=a.length/\f.name ≠ "_" /\ i.size=m.length then some (a++m) else none
 | _,_,_=>none
theorem qK (P:Program) (g:TypeId->Option (List TypeId)):∀ (fl:List Field),fl.foldl (qq P g) none=none
 | []=>rfl
 | f::fl=>by simp only [List.foldl_cons,qq];exact qK P g fl
theorem yX (P:Program) (g:TypeId->Option (List TypeId)):∀ (fl:List Field) (A ts:List TypeId),fl.foldl (qq P g) (some A)=some ts->∃ rest,ts=A++rest
 | [],A,ts,h=>⟨[],by simpa using h.symm⟩
 | f :: fl, A, ts, h => by
  simp only [List.foldl_cons] at h;cases hs:qq P g (some A) f with
  | none=>rw [hs,qK] at h;cases h
  | some B =>
   rw [hs] at h;obtain ⟨r,hr⟩:=yX P g fl B ts h;unfold qq at hs;split at hs
   ·rename_i a m i e1 _ _;cases e1;split at hs
    ·cases hs;exact ⟨m++r,by rw [hr];simp⟩
    ·cases hs
   ·cases hs
theorem E4 {P:Program} {g:TypeId->Option (List TypeId)} {a B:List TypeId} {f:Field} (hs:qq P g (some a) f=some B) :
  ∃ m i,g f.type=some m/\P.info? f.type=some i/\f.offset=a.length/\f.name ≠ "_" /\ i.size=m.length/\B=a++m:=by
 unfold qq at hs;split at hs
 ·rename_i a' m i e1 e2 e3;cases e1;split at hs
  ·rename_i h;cases hs;exact ⟨m,i,e2,e3,h.1,h.2.1,h.2.2,I⟩
  ·cases hs
 ·cases hs
theorem A4:∀ {xs ys:List Value} {b:Bool},xx xs ys=some b->xs.length=ys.length
 | [],[],_,_=>rfl
 | [],_::_,_,h=>by simp [xx] at h
 | _::_,[],_,h=>by simp [xx] at h
 | x :: xs, y :: ys, b, h => by
  simp only [xx] at h;split at h
  ·rename_i p q hp hq;simp [A4 hq]
  ·cases h
def kO (P:Program):Nat->TypeId->Option (List TypeId)
 | 0,_=>none
 | d + 1, t =>
  match P.underlying t with
  | some (.int _) | some .string | some .bool=>some [t]
  | some (.struct fs) =>
   if P.stoodInHeld t then none else
   fs.toList.foldl (qq P (kO P d)) (some [])
  | some (.array n e) => match kO P d e, P.info? e with
   | some m,some i=>if i.size=m.length then some ((List.replicate n m).flatten) else none
   | _,_=>none
  | _=>none
def sO (P:Program):List TypeId->List Value->Bool
 | [],[]=>true
 | t::ts,x::xs=>vS (P.underlying t) x&&sO P ts xs
 | _,_=>false
section
variable {P:Program}
theorem nC:∀ {ts:List TypeId} {xs:List Value},sO P ts xs=true->xs.length=ts.length
 | [],[],_=>rfl
 | [],_::_,h=>by cases h
 | _::_,[],h=>by cases h
 | t :: ts, x :: xs, h => by
  simp only [sO,Zl] at h;simp [nC h.2]
theorem nD:∀ {ts us:List TypeId} {xs:List Value},sO P (ts++us) xs=true->sO P ts (xs.take ts.length)=true/\sO P us (xs.drop ts.length)=true
 | [],us,xs,h=>by simpa [sO] using h
 | t::ts,us,[],h=>by simp [sO] at h
 | t :: ts, us, x :: xs, h => by
  simp only [Zb,sO,Zl] at h;have:=nD h.2;simp [sO,h.1,this]
theorem qN:∀ {n:Nat} {xs ys:List Value} {b:Bool},n<=xs.length->xx xs ys=some b->∃ p q,xx (xs.take n) (ys.take n)=some p/\xx (xs.drop n) (ys.drop n)=some q/\b=(p&&q)
 | 0,xs,ys,b,_,h=>⟨true,b,by simp [xx],by simpa using h,by simp⟩
 | n+1,[],ys,b,hn,h=>by simp at hn
 | n+1,x::xs,[],b,_,h=>by simp [xx] at h
 | n + 1, x :: xs, y :: ys, b, hn, h => by
  simp only [xx] at h;split at h
  ·rename_i p q hp hq;cases h;obtain ⟨p',q',h1,h2,e⟩:=qN (n:=n) (by simpa using hn) hq;exact ⟨p&&p',q',by simp [xx,hp,h1],by simpa using h2,by rw [e,Bool.and_assoc]⟩
  ·cases h
theorem tF {d:Nat} {t:TypeId} {m:List TypeId} (h:kO P d t=some m):∃ D,P.underlying t=some D/\(kA D=false->m.length=1):=by
 cases d with
 | zero=>cases h
 | succ d =>
  unfold kO at h;cases hu:P.underlying t with
  | none=>rw [hu] at h;cases h
  | some D =>
   refine ⟨D,I,fun hD=>?_⟩;rw [hu] at h;cases D with
   | int k=>cases h;rfl
   | string=>cases h;rfl
   | bool=>cases h;rfl
   | struct fs=>cases hD
   | array n e=>cases hD
   | _=>cases h
theorem uI {t:TypeId} {D:TypeDesc} {i:TypeInfo} {n o:Nat} {zs:List Value} {w:World} (hu:P.underlying t=some D) (hi:P.info? t=some i) (hn:i.size=n) (h1:kA D=false->n=1) (hz:o+n<=zs.length) :
  ∃ v,(part t zs.toArray o).run P w=.ok v w/\(kA D=true->v=.agg ((zs.drop o).take n).toArray)/\(kA D=false->(zs.drop o).take n=[v]):=by
 have hag:(isAgg t).run P w=.ok (kA D) w:=by
  unfold isAgg;rw [Sem.run_bind,aV hu,Result.andThen_ok];cases D <;> rfl
 unfold part;rw [Sem.run_bind,hag,Result.andThen_ok];cases hD:kA D with
 | true =>
  refine ⟨.agg (zs.toArray.extract o (o+n)),by simp [sizeOf,fM hi,hn],fun _=>?_,fun h=>by cases h⟩;congr 1;simp [List.extract_eq_take_drop]
 | false =>
  have e:=h1 hD;subst e;refine ⟨zs[o]'(by omega),by simp [show o<zs.length from by omega],fun h=>(by cases h),fun _=>?_⟩;rw [Zu (by omega),List.take_succ_cons,Ze]
theorem EH (d k:Nat):∀ (t:TypeId) (ts:List TypeId),kO P d t=some ts->∀ (xs ys:List Value) (b:Bool) (w:World),sO P ts xs=true->xx xs ys=some b ->
  ∀ x y,(kA ((P.underlying t).getD .bool)=true->x=.agg xs.toArray/\y=.agg ys.toArray)->(kA ((P.underlying t).getD .bool)=false->xs=[x]/\ys=[y])->(Op.equalIn (d+k) t x y).run P w=.ok b w:=by
 induction d with
 | zero=>intro t ts h;cases h
 | succ d ih =>
  intro t ts h xs ys b w ee heq x y h1 h2;rw [show d+1+k=(d+k)+1 from by omega];have Lg:∀ (hl:KQ (P.underlying t)=true) (Va:ts=[t]) (hna:kA ((P.underlying t).getD .bool)=false),(Op.equalIn (d+k+1) t x y).run P w=.ok b w:=by
   intro hl Va hna;obtain ⟨rfl,rfl⟩:=h2 hna;subst Va;simp only [sO,Bool.and_true] at ee;have hq:leq x y=some b:=by
    simp only [xx] at heq;split at heq
    ·rename_i p q hp xj;cases xj;cases heq;simpa using hp
    ·cases heq
   refine F1 hl (fun kk hu=>?_) (fun hu=>?_) (fun hu=>?_) hq <;> rw [hu] at ee <;> cases x <;> simp_all [vS]
  unfold kO at h;split at h
  ·rename_i kk hu;exact Lg (by rw [hu];rfl) (Option.some.inj h).symm (by rw [hu];rfl)
  ·rename_i hu;exact Lg (by rw [hu];rfl) (Option.some.inj h).symm (by rw [hu];rfl)
  ·rename_i hu;exact Lg (by rw [hu];rfl) (Option.some.inj h).symm (by rw [hu];rfl)
  ·rename_i fs hu;split at h
   ·cases h
   ·rename_i bh;obtain ⟨rfl,rfl⟩:=h1 (by rw [hu];rfl);have hf:P.fieldsOf t=fs:=by simp [Program.fieldsOf,hu]
    rw [run_equalIn_struct w (d+k) t _ _ (by rw [hf];exact hu) (by simpa using bh),hf]
    -- DF fields,one after DF other
    have key:∀ (fl:List Field) (acc:List TypeId),fl.foldl (qq P (kO P d)) (some acc)=some ts->∀ c,xx (xs.drop acc.length) (ys.drop acc.length)=some c->acc.length<=xs.length->(Op.eqFields (d+k) xs.toArray ys.toArray fl).run P w=.ok c w:=by
     intro fl
     induction fl with
     | nil =>
      intro acc ha c hc _;simp only [List.foldl_nil,Option.some.injEq] at ha;have hlen:=nC ee;rw [ha,<- hlen,Z7] at hc;have:c=true:=by
       cases hy:ys.drop xs.length with
       | nil=>rw [hy] at hc;simpa [xx] using hc.symm
       | cons=>rw [hy] at hc;simp [xx] at hc
      simp [Op.eqFields,this]
     | cons f fl ihf =>
      intro acc ha c hc hle;simp only [List.foldl_cons] at ha;cases hB:qq P (kO P d) (some acc) f with
      | none=>rw [hB,qK] at ha;cases ha
      | some B =>
       rw [hB] at ha;obtain ⟨m,i,hm,hi,ho,hn,hsz,rfl⟩:=E4 hB
       -- ts=acc++m++..
       have mz:∃ rest,ts=acc++m++rest:=yX P _ fl _ _ ha;obtain ⟨rest,Va⟩:=mz;have hlen:=nC ee;have YR:sO P m ((xs.drop acc.length).take m.length)=true:=by
        rw [Va,Zh] at ee;exact (nD (nD ee).2).1
       have VD:acc.length+m.length<=xs.length:=by rw [hlen,Va];simp
       obtain ⟨p,q,hp,hq,rfl⟩:=qN (n:=m.length) (by simp;omega) hc;have hly:acc.length+m.length<=ys.length:=by have:=A4 heq;omega
       obtain ⟨Df,OK,ia⟩:=tF hm;obtain ⟨vx,rx,ax,bx⟩:=uI (w:=w) OK hi hsz ia VD;obtain ⟨vy,ry,ay,by'⟩:=uI (w:=w) OK hi hsz ia hly;rw [<- ho] at rx ry;have hr:=ih f.type m hm _ _ p w YR hp vx vy (by rw [OK];exact fun hA=>⟨ax hA,ay hA⟩) (by rw [OK];exact fun hA=>⟨bx hA,by' hA⟩)
       have Vm:=ihf (acc++m) ha q (by simpa [Zbi] using hq) (by simp;omega);simp only [Op.eqFields,ne_eq,hn,not_false_eq_true,if_true,Sem.run_bind,rx,Result.andThen_ok,ry,hr];cases p
       ·simp
       ·simpa using Vm
    exact key fs.toList [] h b (by simpa using heq) (by simp)
  ·rename_i n e hu;split at h
   ·rename_i m i hm hi;split at h
    ·rename_i hsz;obtain ⟨rfl,rfl⟩:=h1 (by rw [hu];rfl);simp only [Option.some.injEq] at h;subst h;have hlen:=nC ee;have Y3:xs.length=ys.length:=A4 heq;have hL:xs.length=n*m.length:=by rw [hlen];simp
     have Ys:(sizeOf e).run P w=.ok m.length w:=by simp [sizeOf,fM hi,hsz]
     obtain ⟨De,OK,ia⟩:=tF hm
     have aao:∀ (c j:Nat) (p:Bool),j+c=n->xx (xs.drop (j*m.length)) (ys.drop (j*m.length))=some p->sO P ((List.replicate c m).flatten) (xs.drop (j*m.length))=true ->
       ((forIn (List.range' j c) ((none, ()) : Option Bool × Unit) fun i r => (do
        let a <- part e xs.toArray (i*m.length)
        let b <- part e ys.toArray (i*m.length)
        let r' <- Op.equalIn (d+k) e a b
        if (!r')=true then pure (ForInStep.done (some false,())) else pure (ForInStep.yield (none,()))):Sem (Option Bool×Unit)).run P w)=.ok (bif p then none else some false,()) w:=by
      intro c
      induction c with
      | zero =>
       intro j p hj hp _;have hz:xs.drop (j*m.length)=[]:=by apply Zbg;rw [hL,show j=n from by omega];exact Zz _
       have KZ:ys.drop (j*m.length)=[]:=by apply Zbg;rw [<- Y3,hL,show j=n from by omega];exact Zz _
       rw [hz,KZ] at hp;simp only [xx,Option.some.injEq] at hp;subst hp;simp
      | succ c ihc =>
       intro j p hj hp Vw;have tN:j*m.length+m.length<=xs.length:=by
        rw [hL,<- Zab];exact Z4 _ (by omega)
       obtain ⟨vx,rx,ax,bx⟩:=uI (w:=w) OK hi hsz ia tN;obtain ⟨vy,ry,ay,by'⟩:=uI (w:=w) OK hi hsz ia (show j*m.length+m.length<=ys.length by omega);obtain ⟨p1,p2,Bx,OT,rfl⟩:=qN (n:=m.length) (by simp;omega) hp;rw [List.replicate_succ,Zam] at Vw;have ho:=nD Vw;have hr:=ih e m hm _ _ p1 w ho.1 Bx vx vy (by rw [OK];exact fun hA=>⟨ax hA,ay hA⟩) (by rw [OK];exact fun hA=>⟨bx hA,by' hA⟩)
       simp only [List.range'_succ,List.forIn_cons,Sem.run_bind,rx,ry,hr,Result.andThen_ok];cases p1
       ·simp
       ·have jH:=ihc (j+1) p2 (by omega) (by rw [Zab,<- Zbi,<- Zbi];exact OT) (by rw [Zab,<- Zbi];exact ho.2);simp only [Bool.not_true,ZaT,if_false,Sem.run_pure,Result.andThen_ok,Zaz];exact jH
     have hf:=aao n 0 b (by omega) (by simpa using heq) (by simpa using ee);simp only [Op.equalIn,Sem.run_bind,aV hu,Result.andThen_ok,Ys];rw [Std.Legacy.Range.forIn_eq_forIn_range'];simp only [Std.Legacy.Range.size,Nat.sub_zero,ZaE,Nat.div_one];rw [hf];cases b <;> simp
    ·cases h
   ·cases h
  ·cases h
class Bt (P:Program) (t:TypeId) (ts:outParam (List TypeId)):Prop where
 eq:kO P 20 t=some ts:=by kernel_rfl
 agg:kA ((P.underlying t).getD .bool)=true:=by kernel_rfl
 guard:P.eqGuardType P.depth t=false:=by kernel_rfl
variable {c:Cx} {sl:aH} {hs:List bd} {dst:Option Tmp} {ty:TypeId} {pos:String} {af:Array Edge} {g:Option (Nat×Bool)}
variable {ts:List TypeId} {xs:List Value}
theorem rB {t:TypeId} [h:Bt P t ts] {xs ys:List Value} {b:Bool} (ee:sO P ts xs=true) (heq:xx xs ys=some b) (w:World):(Op.equalIn 10000 t (.agg xs.toArray) (.agg ys.toArray)).run P w=.ok b w:=
 EH 20 9980 t ts h.eq xs ys b w ee heq _ _ (fun _=>⟨I,I⟩) (fun hn=>by rw [h.agg] at hn;cases hn)
theorem uE {t u:TypeId} [h:Bt P t ts] {x y:Operand} {xs ys:List Value} {b:Bool} (hx:Is sl x (.agg xs.toArray)) (hy:Is sl y (.agg ys.toArray)) (ee:sO P ts xs=true) (heq:xx xs ys=some b) :
  cY P c sl hs ⟨dst,.binOp .eql t x y u,ty,pos,af,g⟩ (.bool b):=
 iM hx hy fun w=>by
  rw [Sem.run_bind,run_eqGuard_agg w _ _ _ _ _ _ h.guard,Result.andThen_ok,run_eql_struct,rB ee heq];rfl
theorem uD {t u:TypeId} [h:Bt P t ts] {x y:Operand} {xs ys:List Value} {b:Bool} (hx:Is sl x (.agg xs.toArray)) (hy:Is sl y (.agg ys.toArray)) (ee:sO P ts xs=true) (heq:xx xs ys=some b) :
  cY P c sl hs ⟨dst,.binOp .neq t x y u,ty,pos,af,g⟩ (.bool (!b)):=
 iM hx hy fun w=>by
  rw [Sem.run_bind,run_eqGuard_agg w _ _ _ _ _ _ h.guard,Result.andThen_ok,run_neq_struct,rB ee heq];rfl
theorem me:sO P [] []=true:=rfl
theorem ka {t:TypeId} {k:IntKind} {n:Int} [h:ij P t (.int k)] (hr:sO P ts xs=true):sO P (t::ts) (.int k n::xs)=true:=by
 simp [sO,vS,h.eq,hr]
theorem fy {t:TypeId} {s:ByteArray} [h:ij P t .string] (hr:sO P ts xs=true):sO P (t::ts) (.string s::xs)=true:=by
 simp [sO,vS,h.eq,hr]
theorem Kw {t:TypeId} {b:Bool} [h:ij P t .bool] (hr:sO P ts xs=true):sO P (t::ts) (.bool b::xs)=true:=by
 simp [sO,vS,h.eq,hr]
end
end Go.SL
namespace Go.SL
open Go
def ev (sl:aH):Operand->Option Value
 | .tmp t=>cX sl t
 | .const v=>some v
 | .global g=>some (.pointer (some ⟨g,0,none⟩))
 | .func f=>some (.func (.func f) #[] #[])
variable {i:Nat} {v:Value} {vs:List Value} {x:Operand} {xs:List (Nat×Operand)}
theorem Is.of {sl:aH} (h:ev sl x=some v):Is sl x v:=fun a ha=>by
 cases x with
 | tmp t=>exact ha.eval h
 | const u=>exact Option.some.inj h
 | global g=>exact Option.some.inj h
 | func f=>exact Option.some.inj h
theorem wX.o {sl:aH} {vs:List (Nat×Value)} (h:ev sl x=some v) (t:wX sl xs vs):wX sl ((i,x)::xs) ((i,v)::vs):=.cons (.of h) t
theorem tq.o {sl:aH} (h:ev sl x=some v) (t:tq sl (i+1) xs vs):tq sl i ((i,x)::xs) (v::vs):=.cons (.of h) t
theorem H7.o {sl:aH} {xs:List Operand} (h:ev sl x=some v) (t:H7 sl xs vs):H7 sl (x::xs) (v::vs):=.cons (.of h) t
theorem Is.cD {sl:aH} {c:Bool} (hc:c=true) (h:ev sl x=some (SL.gv c v)):Is sl x v:=(uU hc (v:=v)) ▸ Is.of h
class TM (P:Program):Prop where
 eq:P.follows .mixedOrders=true:=by kernel_rfl
section
variable {P:Program} {r:Option Nat} {c:Cx} {D:List Nat} {sl:aH} {rl:eU} {hs hs':List bd} {Q:Exit->Act->World->Prop} {ops:Array Oper} {m d:Nat} {dst:Option Tmp} {op:Op} {ty:TypeId} {pos:String} {af:Array Edge} {g:Option (Nat×Bool)} {rest:List Oper}
def kW (P:Program) (r:Option Nat) (c:Cx) (D:List Nat) (hs:List bd) (ops:Array Oper) (Q:Exit->Act->World->Prop) (m:Nat) (l:List Oper) (sl:aH) (rl:eU):Prop:=
 ∃ S js kI,tp P c hs ops (l.take m) sl rl S js kI/\∀ a w,St c D js hs a w->Fo kI a w->WL P r ops Q (l.drop m) a w
theorem ef {id:Nat} {l:List Oper} (m:Nat) [rY:TM P] (dD:yD l m=true) (k:kW P r c D hs l.toArray Q m l sl []):Tr c D sl hs (WP P r (.region id l.toArray true) Q):=by
 obtain ⟨S,js,kI,hp,ht⟩:=k;exact zF rY.eq dD hp ht
theorem er {l:List Oper} (k:Tr c D sl hs (WL P r ops Q l)):kW P r c D hs ops Q 0 l sl rl:=
 ⟨[],sl,rl,.nil,fun a w bh _=>k a w bh⟩
variable {R:Ending->World->Prop} {V:Value} {args:List Value} {c0:Bool} {code:Code} {f:FuncId} {fn:Func} {gs j:Nat} {o:Oper} {q:Bool} {t:Tmp} {v:Value} {vs:List Value} {want:Bool} {xs:List ResultVar}
theorem pZ (ho:o.dst=some d) (hd:Nat.blt d c.nt=true) (h:tW P c hs ops sl rl o (.val V)) (k:kW P r c D hs ops Q m rest ((d,V)::sl) rl):kW P r c D hs ops Q (m+1) (o::rest) sl rl:=by
 obtain ⟨S,js,kI,hp,ht⟩:=k;exact ⟨_,_,_,.val ho (by simpa [Z9] using hd) h hp,ht⟩
theorem oC {R:Rel} (hg:o.guard=none) (h:∀ a w,bZ sl a->Bq (o.looksAt ops) rl a w->Mem c hs w->xW P o a w R):tW P c hs ops sl rl o R:=fun a w h1 h2 h3=>by
 rw [if_pos (by simp [Region.wanted,hg])];exact h a w h1 h2 h3
theorem rH (hr:cY P c sl hs o V) {a:Act} {w:World} (h1:bZ sl a) (h3:Mem c hs w):xW P o a w (.val V):=by
 unfold xW;rw [hr.2 a w h1 h3];exact ⟨.refl _ _,I⟩
theorem sL (hr:lV P sl o f args) {a:Act} {w:World} (h1:bZ sl a) (hc:aj P f args w V):xW P o a w (.val V):=by
 unfold xW;rw [hr.2 a w h1];exact ⟨I,hc.mono fun e w' ⟨he,hk⟩=>⟨V,he,hk,I⟩⟩
theorem aO (hr:cY P c sl hs ⟨some d,op,ty,pos,af,none⟩ V) (hd:Nat.blt d c.nt=true) (k:kW P r c D hs ops Q m rest ((d,V)::sl) rl) :
  kW P r c D hs ops Q (m+1) (⟨some d,op,ty,pos,af,none⟩::rest) sl rl:=
 pZ I hd (oC I fun _ _ h1 _ h3=>rH hr h1 h3) k
theorem gQ (hr:lV P sl ⟨some d,op,ty,pos,af,none⟩ f args) (hd:Nat.blt d c.nt=true) (hc:∀ w,Mem c hs w->aj P f args w V) (k:kW P r c D hs ops Q m rest ((d,V)::sl) rl) :
  kW P r c D hs ops Q (m+1) (⟨some d,op,ty,pos,af,none⟩::rest) sl rl:=
 pZ I hd (oC I fun _ w h1 _ h3=>sL hr h1 (hc w h3)) k
theorem oD (hg:o.guard=some (j,want)) (hj:((ops[j]?).bind (·.dst))=some gs) (hq:cX sl gs=some (gv c0 (.bool q)))
  (h:(c0&&(q==want))=true->∀ a w,bZ sl a->Mem c hs w->xW P o a w (.val V)):tW P c hs ops sl rl o (.val (gv (c0&&(q==want)) V)):=fun a w h1 _ h3=>by
 rw [kX hg hj h1 hq];by_cases hc:(c0&&(q==want))=true
 ·rw [if_pos hc,uU hc];exact h hc a w h1 h3
 ·rw [if_neg hc,wq (by simpa using hc)]
  rfl
theorem Dv (hj:((ops[j]?).bind (·.dst))=some gs) (hq:cX sl gs=some (gv c0 (.bool q)))
  (hr:(c0&&(q==want))=true->cY P c sl hs ⟨some d,op,ty,pos,af,some (j,want)⟩ V) (hd:Nat.blt d c.nt=true) (k:kW P r c D hs ops Q m rest ((d,gv (c0&&(q==want)) V)::sl) rl) :
  kW P r c D hs ops Q (m+1) (⟨some d,op,ty,pos,af,some (j,want)⟩::rest) sl rl:=
 pZ I hd (oD I hj hq fun hc _ _ h1 h3=>rH (hr hc) h1 h3) k
theorem H4 (hj:((ops[j]?).bind (·.dst))=some gs) (hq:cX sl gs=some (.bool q))
  (hr:(q==want)=true->cY P c sl hs ⟨some d,op,ty,pos,af,some (j,want)⟩ V) (hd:Nat.blt d c.nt=true) (k:kW P r c D hs ops Q m rest ((d,gv (q==want) V)::sl) rl) :
  kW P r c D hs ops Q (m+1) (⟨some d,op,ty,pos,af,some (j,want)⟩::rest) sl rl:=
 Dv (c0:=true) hj (by rw [hq];rfl) (by simpa using hr) hd (by simpa using k)
theorem tl (hj:((ops[j]?).bind (·.dst))=some gs) (hq:cX sl gs=some (gv c0 (.bool q)))
  (hr:(c0&&(q==want))=true->lV P sl ⟨some d,op,ty,pos,af,some (j,want)⟩ f args) (hd:Nat.blt d c.nt=true) (hc:(c0&&(q==want))=true->∀ w,Mem c hs w->aj P f args w V) (k:kW P r c D hs ops Q m rest ((d,gv (c0&&(q==want)) V)::sl) rl) :
  kW P r c D hs ops Q (m+1) (⟨some d,op,ty,pos,af,some (j,want)⟩::rest) sl rl:=
 pZ I hd (oD I hj hq fun h _ w h1 h3=>sL (hr h) h1 (hc h w h3)) k
theorem wQ (hj:((ops[j]?).bind (·.dst))=some gs) (hq:cX sl gs=some (.bool q))
  (hr:(q==want)=true->lV P sl ⟨some d,op,ty,pos,af,some (j,want)⟩ f args) (hd:Nat.blt d c.nt=true) (hc:(q==want)=true->∀ w,Mem c hs w->aj P f args w V) (k:kW P r c D hs ops Q m rest ((d,gv (q==want) V)::sl) rl) :
  kW P r c D hs ops Q (m+1) (⟨some d,op,ty,pos,af,some (j,want)⟩::rest) sl rl:=
 tl (c0:=true) hj (by rw [hq];rfl) (by simpa using hr) hd (by simpa using hc) (by simpa using k)
theorem G1 (hj:((ops[j]?).bind (·.dst))=some gs) (hq:cX sl gs=some (gv c0 (.bool q)))
  (hr:(c0&&(q==want))=true->lV P sl ⟨some d,op,ty,pos,af,some (j,want)⟩ f args) (hd:Nat.blt d c.nt=true) (hc:(c0&&(q==want))=true->∀ w,Mem c hs w->aj P f args w V)
  (k:Tr c D ((d,gv (c0&&(q==want)) V)::sl) hs (WL P r ops Q rest)):Tr c D sl hs (WL P r ops Q (⟨some d,op,ty,pos,af,some (j,want)⟩::rest)):=fun a w bh=>by
 unfold WL;rw [kX I hj bh.cZ hq];by_cases h:(c0&&(q==want))=true
 ·rw [if_pos h];rw [uU h] at k;refine ⟨dQ _ _ _ _ _,?_⟩;rw [Oper.semAt_eq _ _ _ (hr h).1,(hr h).2 a w bh.cZ];exact ⟨by simp [FR,Fence.wide],(jm (hc h w bh.qD)).mono fun e w' ⟨he,hk⟩=>by
   subst he;exact k _ _ ((bh.put (by simpa [Z9] using hd) V).heap (bh.mem.rS hk))⟩
 ·rw [if_neg h];rw [wq (by simpa using h)] at k;exact k _ _ (bh.put (by simpa [Z9] using hd) undef)
theorem eh (hj:((ops[j]?).bind (·.dst))=some gs) (hq:cX sl gs=some (.bool q))
  (hr:(q==want)=true->lV P sl ⟨some d,op,ty,pos,af,some (j,want)⟩ f args) (hd:Nat.blt d c.nt=true) (hc:(q==want)=true->∀ w,Mem c hs w->aj P f args w V)
  (k:Tr c D ((d,gv (q==want) V)::sl) hs (WL P r ops Q rest)):Tr c D sl hs (WL P r ops Q (⟨some d,op,ty,pos,af,some (j,want)⟩::rest)):=
 G1 (c0:=true) hj (by rw [hq];rfl) (by simpa using hr) hd (by simpa using hc) (by simpa using k)
def Ep (V:Nat->Value) (ob:Obj):Rel:=⟨fun v w=>∃ b,v=V b/\w.heap[b]? = some ob,fun ⟨b,e,h⟩ hk=>⟨b,e,by rw [hk.block b (kh h) (by simp)];exact h⟩⟩
theorem Ck (h:fn.results=#[.tmp t]) {sl:aH} {v:Value} (hv:cX sl t=some v) {a:Act} (ha:bZ sl a) (w:World):(results fn a.tmps).run P w=.ok v w:=by
 have:=ha t v hv;simp [results,h,ZG,this]
theorem Cj {t u:Tmp} (h:fn.results=#[.tmp t,.tmp u]) {sl:aH} {v x:Value} (hv:cX sl t=some v) (hx:cX sl u=some x) {a:Act} (ha:bZ sl a) (w:World):(results fn a.tmps).run P w=.ok (.tuple #[v,x]) w:=by
 have h1:=ha t v hv;have h2:=ha u x hx;simp [results,h,ZG,h1,h2]
theorem Cl (h:fn.results=#[]) {a:Act} (w:World):(results fn a.tmps).run P w=.ok (.tuple #[]) w:=by
 simp [results,h]
def Ends (P:Program) (fn:Func) (c:Cx) (sl:aH) (hs:List bd) (v:Value):Prop:=∀ a w,bZ sl a->Mem c hs w->(results fn a.tmps).run P w=.ok v w
theorem dH (h:fn.results=#[.tmp t]) (hv:cX sl t=some v):Ends P fn c sl hs v:=fun _ w ha _=>Ck h hv ha w
theorem gq {t u:Tmp} {v x:Value} (h:fn.results=#[.tmp t,.tmp u]) (hv:cX sl t=some v) (hx:cX sl u=some x):Ends P fn c sl hs (.tuple #[v,x]):=fun _ w ha _=>Cj h hv hx ha w
theorem nS (h:fn.results=#[]):Ends P fn c sl hs (.tuple #[]):=fun _ w _ _=>Cl h w
theorem To {T:TypeId} {b o n:Nat} [Ty P T false n] (h:fn.results=#[.cell t T]) (hp:cX sl t=some (.pointer (some ⟨b,o,none⟩))) (hv:At c hs b o v):Ends P fn c sl hs v:=fun a w ha hm=>by
 have h1:=ha t _ hp;simp [results,h,ZG,h1,asAddr,tx (hv w hm)]
theorem Pn {T:TypeId} {b o n:Nat} [Ty P T true n] (h:fn.results=#[.cell t T]) (hp:cX sl t=some (.pointer (some ⟨b,o,none⟩))) (hv:eV c hs b o vs) (hl:vs.length=n):Ends P fn c sl hs (.agg vs.toArray):=fun a w ha hm=>by
 have h1:=ha t _ hp;simp [results,h,ZG,h1,asAddr,oH hl (fun j v h=>hv.get j v h w hm)]
def Q4 (P:Program) (c:Cx) (hs:List bd) (T:TypeId) (b o:Nat) (v:Value):Prop:=∀ w,Mem c hs w->(loadVar T ⟨b,o,none⟩).run P w=.ok v w
theorem KJ {T:TypeId} {b o n:Nat} [Ty P T true n] (hv:eV c hs b o vs) (hl:vs.length=n):Q4 P c hs T b o (.agg vs.toArray):=fun w hm=>oH hl (fun j v h=>hv.get j v h w hm)
inductive RV (P:Program) (c:Cx) (sl:aH) (hs:List bd):ResultVar->Value->Prop
 | tmp {t:Tmp} {v:Value} (h:cX sl t=some v):RV P c sl hs (.tmp t) v
 | cell {t:Tmp} {T:TypeId} {b o:Nat} {v:Value} (h:cX sl t=some (.pointer (some ⟨b,o,none⟩))) (hl:Q4 P c hs T b o v):RV P c sl hs (.cell t T) v
inductive Ij (P:Program) (c:Cx) (sl:aH) (hs:List bd):List ResultVar->List Value->Prop
 | nil:Ij P c sl hs [] []
 | cons {x:ResultVar} {xs:List ResultVar} {v:Value} {vs:List Value} (h:RV P c sl hs x v) (t:Ij P c sl hs xs vs):Ij P c sl hs (x::xs) (v::vs)
def Cc (tmps:Array Value):ResultVar->Sem Value
 | .tmp t=>pure (tmps.getD t undef)
 | .cell a t=>do loadVar t (<- asAddr (tmps.getD a undef))
theorem NN (h:Ij P c sl hs xs vs) {a:Act} {w:World} (ha:bZ sl a) (hm:Mem c hs w):(xs.mapM (Cc a.tmps)).run P w=.ok vs w:=by
 induction h with
 | nil=>simp
 | cons h _ ih =>
  cases h with
  | tmp h=>simp [Cc,ZG,ha _ _ h,ih]
  | cell h hl=>simp [Cc,ZG,ha _ _ h,asAddr,hl w hm,ih]
theorem QN (hx:fn.results=xs.toArray) (h:Ij P c sl hs xs vs) (hl:vs.length≠1):Ends P fn c sl hs (.tuple vs.toArray):=fun a w ha hm=>by
 have:=NN h ha hm;have h2:(Array.mapM (Cc a.tmps) xs.toArray).run P w=.ok vs.toArray w:=by
  rw [List.mapM_toArray];simp [this]
 unfold results;rw [hx];change Sem.run P (Array.mapM (Cc a.tmps) xs.toArray >>= fun vs=>pure (if h:vs.size=1 then vs[0] else Value.tuple vs)) w=_
 rw [Sem.run_bind,h2,Result.andThen_ok,Sem.run_pure];rw [dif_neg (by simpa using hl)]
theorem Nl (HD:c.md=[]) (he:Ends P fn c sl hs v) :
  Tr c [] sl hs (bodyPostM (FR r) 0 P fn (fun e w'=>e=.returned v/\aK [] c.w0 w') .ret):=fun a w bh=>by
 have hm:=bh.qD;show LeavesInM (FR r) 0 P fn a.tmps _ a.defers .returning w;rw [bh.defers];exact ⟨v,he a w bh.cZ hm,I,by rw [<- HD];exact hm.keeps⟩
theorem pC {v v':Value} (HD:c.md=[]) (he:Ends P fn c sl hs v') (hv:v'=v) :
  Tr c [] sl hs (bodyPostM (FR r) 0 P fn (fun e w'=>e=.returned v/\aK [] c.w0 w') .ret):=hv ▸ Nl HD he
theorem rR {fn:Func} {v:Value} {R:Ending->World->Prop}:∀ (D:List Nat) (w:World) (a:Act),a.defers=D.map mark->bZ sl a->Mem c (hs++nb D) w->Ends P fn c sl hs v ->
  (∀ w',Mem c hs w'->R (.returned v) w')->LeavesInM (FR r) 0 P fn a.tmps R (D.map mark) .returning w
 | [],w,a,_,ha,hm,he,hR=>⟨v,he a w ha (by simpa [nb] using hm),hR w (by simpa [nb] using hm)⟩
 | b :: D, w, a, _, ha, hm, he, hR => by
  have fc:Take (hs++nb (b::D)) (bo b (.deferred (some []))) (hs++nb D):=by
   clear hm he hR
   induction hs with
   | nil=>exact .here
   | cons A hs ih=>exact .there ih
  have k6:=hm.take fc;have hb:w.heap[b]? = some (.deferred (some [])):=k6.bo .here;refine ⟨by simp,.inl ⟨b,w.putObj b (.deferred none),I,run_takeDeferred hb,?_⟩⟩;have hk:aK [b] w (w.putObj b (.deferred none)):=⟨I,I,I,Zz _,by simp,fun k _ hn=>World.putObj_heap_other (by simpa using hn)⟩
  have Xt:Mem c (hs++nb D) (w.putObj b (.deferred none)):=(Mem.store k6 hk (World.putObj_heap_same (kh (w:=w) hb))).wy;exact rR D _ { a with defers:=D.map mark } I ha Xt he hR
theorem aR (he:Ends P fn c sl hs v) (hR:∀ w',Mem c hs w'->R (.returned v) w') :
  Tr c D sl hs (bodyPostM (FR r) 0 P fn R .ret):=fun a w bh=>by
 show LeavesInM (FR r) 0 P fn a.tmps R a.defers .returning w;rw [bh.defers];exact rR D w a bh.defers bh.cZ bh.mem he hR
theorem aS (he:Ends P fn c sl hs v) (hR:∀ w',Mem c hs w'->R (.returned v) w') :
  Tr c D sl hs (bodyPostM (FR r) 0 P fn R .normal):=aR (r:=r) he hR
theorem ah {w:World} (hf:P.funcs[f]? = some fn) (hb:fn.body=some code) (hl:Nat.ble args.length fn.ntmps=true)
  (h:Tr ⟨w,[],fn.ntmps⟩ [] (jM 0 args) [] (WP P none code (bodyPostM (FR none) 0 P fn (fun e w'=>e=.returned V/\aK [] w w')))):aj P f args w V:=
 pj (hs0:=[]) hf hb (by simpa using hl) ⟨[],Zao,I,fun _ h=>by cases h⟩ h
theorem aT {w:World} {ι:Type} {Φ:ι->Prop} {val:ι->Value} {own:ι->List bd} (hf:P.funcs[f]? = some fn) (hb:fn.body=some code) (hl:Nat.ble args.length fn.ntmps=true)
  (h:Tr ⟨w,[],fn.ntmps⟩ [] (jM 0 args) [] (WP P none code (bodyPostM (FR none) 0 P fn (fun e w'=>∃ x,e=.returned (val x)/\Φ x/\aK [] w w'/\∃ fp:List Nat,fp.Nodup/\cC (hp w') (own x) fp/\∀ b∈fp,b∈([]:List Nat)\/w.heap.size<=b)))) :
  bb P f args w [] Φ val own:=
 pj (hs0:=[]) hf hb (by simpa using hl) ⟨[],Zao,I,fun _ h=>by cases h⟩ h
theorem dU {w:World} {um:List Nat} {As:List bd} {ι:Type} {Φ:ι->Prop} {val:ι->Value} {own:ι->List bd} (hf:P.funcs[f]? = some fn) (hb:fn.body=some code) (hl:Nat.ble args.length fn.ntmps=true)
  (hn:um.Nodup) (hs0:cC (hp w) As um)
  (h:Tr ⟨w,um,fn.ntmps⟩ [] (jM 0 args) As (WP P none code (bodyPostM (FR none) 0 P fn (fun e w'=>∃ x,e=.returned (val x)/\Φ x/\aK um w w'/\∃ fp:List Nat,fp.Nodup/\cC (hp w') (own x) fp/\∀ b∈fp,b∈um\/w.heap.size<=b)))) :
  bb P f args w um Φ val own:=
 pj hf hb (by simpa using hl) ⟨um,hn,hs0,fun _ h=>h⟩ h
theorem aD {ι:Type} {Φ:ι->Prop} {val:ι->Value} {own:ι->List bd} (x:ι) (hx:Φ x) {As:List bd} (ht:bj hs (own x) As) {w':World} (hm:Mem c hs w') {v:Value} (hv:v=val x) :
  ∃ x,Ending.returned v=.returned (val x)/\Φ x/\aK c.md c.w0 w'/\∃ fp:List Nat,fp.Nodup/\cC (hp w') (own x) fp/\∀ b∈fp,b∈c.md\/c.w0.heap.size<=b:=by
 have h2:=(hm.jo ht).lE;obtain ⟨k,fp,hn,fV,hb⟩:=h2;exact ⟨x,by rw [hv],hx,k,fp,hn,fV,fun b dF=>(hb b dF).symm⟩
end
end Go.SL
