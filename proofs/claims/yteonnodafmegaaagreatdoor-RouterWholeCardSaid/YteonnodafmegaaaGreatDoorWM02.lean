/- Parts of the proof: P5h P5i P5j P5k P5l P5m P5n P5o GkMem GkAny GkReg GkEq GkPlan. -/
import Derived.Test.YteonnodafmegaaaGreatDoorWM01
import Derived.Laws.StructEq
set_option linter.unusedSectionVars false
set_option linter.unusedVariables false
set_option linter.unusedSimpArgs false
namespace Go.Proofs.A1
open Go Go.SL
def Ti.zero:Ti:=⟨⟨#[]⟩,0,0⟩
def iK (r:Ro) (i:Nat):Ti:=r.ti.getD i Ti.zero
def gP (r:Ro) (i:Nat):ByteArray:=(iK r i).nm
theorem qQ {r:Ro} {i:Nat} (h:i<r.ti.length):(cM r)[i]'(by unfold cM;rw [Zd];exact h)=gP r i:=by
 unfold cM gP iK
 rw [Z1,Zk,Zc h];rfl
theorem tV {r:Ro} {i:Nat} (h:i<r.ti.length):gP r i∈cM r:=by rw [← qQ h];exact Zj _
theorem EC {r:Ro} (hd:(cM r).Nodup) {i j:Nat} (hi:i<r.ti.length) (hj:j<r.ti.length) (h:gP r i=gP r j):i=j:=by
 have hl:(cM r).length=r.ti.length:=by unfold cM;rw [Zd]
 rw [← qQ hi,← qQ hj] at h
 rcases Zam i j with aM | he | aM
 ·exact absurd h (Z4.1 hd i j (by omega) (by omega) aM)
 ·exact he
 ·exact absurd h.symm (Z4.1 hd j i (by omega) (by omega) aM)
theorem Fm {r:Ro} (hd:(cM r).Nodup) {i:Nat} (hi:i<r.ti.length):bE (cM r) (gP r i)=(i:Nat):=by
 have hl:(cM r).length=r.ti.length:=by unfold cM;rw [Zd]
 refine qt (by omega) (qQ hi) fun j hj e=>?_
 rw [qQ (by omega)] at e
 have:=EC hd (by omega) hi e
 omega
theorem MU {r:Ro} (hn:pR r) (hd:(cM r).Nodup) {i:Nat} (hi:i<r.ti.length):kC r (gP r i)=(iK r i).fr:=by
 have h1:¬ 0≤bE (cq r) (gP r i):=fun h=>by
  have:gP r i∈cq r:=Classical.byContradiction fun hq=>by have:=cm.2 hq;omega
  exact hn.dt _ this (tV hi)
 unfold kC
 rw [if_neg h1,Fm hd hi,if_pos (by omega),ZI];rfl
theorem E9 {r:Ro} (hn:pR r) (hd:(cM r).Nodup) {i:Nat} (hi:i<r.ti.length):j7 r (gP r i)=(iK r i).to:=by
 have h1:¬ 0≤bE (cF r) (gP r i):=fun h=>by
  have:gP r i∈cF r:=Classical.byContradiction fun hq=>by have:=cm.2 hq;omega
  exact hn.st _ this (tV hi)
 unfold j7
 rw [if_neg h1,Fm hd hi,if_pos (by omega),ZI];rfl
def fB (r:Ro) (po:List Po) (v:Int) (s:ByteArray):Wn:=⟨r.ti.length,fun i=>gV po v (gP r i)&&decide (rJ po v (cF r) (gP r i)=s),fun i=>!gV po v (gP r i),fun i=>(iK r i).fr,fun i=>(iK r i).to,j7 r s⟩
def lE (r:Ro) (v:Int):List Po→ByteArray→List Nat→List Po×ByteArray
 | po,x,[]=>(po,x)
 | po,x,i::p=>lE r v (if gV po v (gP r i) then po else iQ r ⟨v,gP r i,x⟩ po) (gP r i) p
def lF (r:Ro) (po:List Po) (v:Int) (s:ByteArray) (p:List Nat) (d:ByteArray):List Po:=iQ r ⟨v,d,(lE r v po s p).2⟩ (lE r v po s p).1
theorem C0 {r:Ro} {po:List Po} {v:Int} {s:ByteArray} (hn:pR r) (hd:(cM r).Nodup) (hv:0≤v∧v<r.lv) (qL:iJ r po):∀ (q u:List Nat) (o8:List Po) (x:ByteArray),(fB r po v s).ok (u++q)→qH r o8 v x→(x∈cF r∨x∈cM r)→j7 r x=(fB r po v s).fin u→gS o8 v 7 x=s→(∀ i,i<r.ti.length→i ∉ u→gV o8 v (gP r i)=gV po v (gP r i))→(u=[]→o8=po) →
  qH r (lE r v o8 x q).1 v (lE r v o8 x q).2∧((lE r v o8 x q).2∈cF r∨(lE r v o8 x q).2∈cM r)∧j7 r (lE r v o8 x q).2=(fB r po v s).fin (u++q)∧gS (lE r v o8 x q).1 v 7 (lE r v o8 x q).2=s ∧
  (∀ w y,y∈cq r→ek (lE r v o8 x q).1 w y=ek o8 w y)∧(∀ w y S,y∈cq r→rJ (lE r v o8 x q).1 w S y=rJ o8 w S y)
 | [], u, o8, x, _, h1, h2, h3, h4, _, _ => by
  rw [ZU]
  exact ⟨h1,h2,h3,h4,fun _ _ _=>rfl,fun _ _ _ _=>rfl⟩
 | i :: q, u, o8, x, eJ, h1, h2, h3, h4, h5, h6 => by
  have e:u++i::q=(u++[i])++q:=by simp
  rw [e] at eJ ⊢
  have bh:=(Wn.kM.1 (Wn.zJ eJ (Zbh (u++[i]) q))).2
  have hi:i<r.ti.length:=Wn.o5 bh
  have hiu:i ∉ u:=Wn.uK bh
  have gJ:=tV hi
  have hbs:=h5 i hi hiu
  unfold Wn.step at bh
  simp only [Zm,ZO,decide_eq_true_eq] at bh
  obtain ⟨_,_,JR⟩:=bh
  rw [lE]
  by_cases hb:gV o8 v (gP r i)=true
  ·rw [if_pos hb]
   rw [hbs] at hb
   rcases JR with ⟨hu,AQ⟩ | ⟨VR,_⟩
   ·have hu:u=[]:=List.isEmpty_iff.1 hu
    have hpp:=h6 hu
    subst hpp
    have AQ:(gV o8 v (gP r i)&&decide (rJ o8 v (cF r) (gP r i)=s))=true:=AQ
    rw [Zm,decide_eq_true_eq] at AQ
    refine C0 hn hd hv qL q (u++[i]) o8 (gP r i) eJ (qL.Tt fun _=>hb) (.inr gJ) ?_ ?_ (fun j hj XC=>rfl) (fun h=>by simp at h)
    ·rw [E9 hn hd hi,Wn.mI];rfl
    ·rw [← sN hn qL (show (ek o8 v (gP r i)).isSome=true from hb)]
     exact AQ.2
   ·have VR:(!gV po v (gP r i))=true:=VR
    rw [hb] at VR;cases VR
  ·rw [if_neg hb]
   have eP:ek o8 v (gP r i)=none:=by
    unfold gV at hb
    cases hq:ek o8 v (gP r i) with
    | none=>rfl
    | some z=>rw [hq] at hb;exact absurd rfl hb
   have hm:kC r (gP r i)=j7 r x:=by
    rcases JR with ⟨_,AQ⟩ | ⟨_,hf⟩
    ·have AQ:(gV po v (gP r i)&&decide (rJ po v (cF r) (gP r i)=s))=true:=AQ
     rw [Zm,← hbs] at AQ
     exact absurd AQ.1 hb
    ·rw [MU hn hd hi,h3];exact hf
   have hs:=oE (p:=⟨v,gP r i,x⟩) h1.qK h1.out (.inr gJ) eP
   have oG:=ru (p:=⟨v,gP r i,x⟩) (iJ.one hs) (iJ.one h1.qK)
   obtain ⟨g1,g2,g3,g4,g5,g6⟩:=C0 hn hd hv qL q (u++[i]) (iQ r ⟨v,gP r i,x⟩ o8) (gP r i) eJ (h1.add hn hv h2 (.inr gJ) eP hm) (.inr gJ) (by rw [E9 hn hd hi,Wn.mI];rfl)
    (by rw [Ck hn h1 hv h2 (.inr gJ) eP hm,h4])
    (fun j hj XC=>by
     have hne:gP r i≠gP r j:=fun e=>XC (by rw [EC hd hi hj e];simp)
     unfold gV
     rw [oG,if_neg fun e=>hne e.2]
     exact h5 j hj fun e=>XC (Zx.2 (.inl e))) (fun h=>by simp at h)
   refine ⟨g1,g2,g3,g4,fun w y hy=>?_,fun w y S hy=>?_⟩
   ·rw [g5 w y hy,oG,if_neg (fun e=>hn.dt y hy (by rw [← e.2];exact gJ))]
   ·rw [g6 w y S hy,FD hn h1 h2 (.inr gJ) eP (fun e=>hn.dt y hy (by rw [e.2];exact gJ))]
theorem HO {r:Ro} {po:List Po} {v:Int} {s d:ByteArray} (hn:pR r) (hd:(cM r).Nodup) (hv:0≤v∧v<r.lv) (qL:iJ r po) (hs:s∈cF r) (mq:d∈cq r) (eP:ek po v d=none) {p:List Nat} (eJ:(fB r po v s).ok p) (mH:(fB r po v s).fin p=kC r d) :
  iJ r (lF r po v s p d)∧rJ (lF r po v s p d) v (cF r) d=s∧(∀ w y,y∈cq r→¬(w=v∧y=d)→rJ (lF r po v s p d) w (cF r) y=rJ po w (cF r) y∧ek (lF r po v s p d) w y=ek po w y):=by
 have bh:s ∉ cM r:=hn.st s hs
 have T8:ek po v s=none:=ie.2 fun q hq e=>by
  rcases qL.out q hq with h | h
  ·exact hn.sd s hs (e.2 ▸ h)
  ·exact bh (e.2 ▸ h)
 obtain ⟨g1,g2,g3,g4,g5,g6⟩:=C0 hn hd hv qL p [] po s eJ (qL.Tt fun h=>absurd h bh) (.inl hs) rfl (sH T8) (fun _ _ _=>rfl) (fun _=>rfl)
 have O0:ek (lE r v po s p).1 v d=none:=by rw [g5 v d mq,eP]
 have hm:kC r d=j7 r (lE r v po s p).2:=by rw [g3];exact mH.symm
 have hA:=g1.add hn hv g2 (.inl mq) O0 hm
 have hV:=hA.val (hn.dt d mq)
 have QM:=oE (p:=⟨v,d,(lE r v po s p).2⟩) g1.qK g1.out (.inl mq) O0
 have oG:=ru (p:=⟨v,d,(lE r v po s p).2⟩) (iJ.one QM) (iJ.one g1.qK)
 refine ⟨hV,?_,fun w y hy hne=>⟨?_,?_⟩⟩
 ·have h9:(ek (iQ r ⟨v,d,(lE r v po s p).2⟩ (lE r v po s p).1) v d).isSome=true:=by
   rw [oG,if_pos ⟨rfl,rfl⟩];rfl
  have h8:=sN hn hV h9
  unfold lF
  rw [h8,Ck hn g1 hv g2 (.inl mq) O0 hm,g4]
 ·unfold lF
  rw [FD hn g1 g2 (.inl mq) O0 hne,g6 w y _ hy]
 ·unfold lF
  rw [oG,if_neg fun e=>hne ⟨e.1.symm,e.2.symm⟩,g5 w y hy]
theorem IL {po:List Po} {g f:Po→Bool}:(po.filter g).filter f=po.filter fun p=>g p&&f p:=by
 rw [Zbx]
 refine ZaZ fun p _=>?_
 rw [Bool.and_comm]
theorem NX {r:Ro} {po:List Po} (hn:pR r) (h:iJ r po) {g f:Po→Bool} (hg:∀ p∈po,p.ou∈cM r→g p=true)
  (Rq:∀ p∈po.filter g,p.ou∈cq r→f p=true) (O0:∀ p∈po.filter g,∀ q∈po.filter g,f q=true→q.lv=p.lv→q.ip=p.ou→f p=true) (XW:∀ p∈po.filter g,f p=true→p.ou∈cq r∨∃ q∈po.filter g,f q=true∧q.lv=p.lv∧q.ip=p.ou) :
  iJ r ((po.filter g).filter f)∧(∀ v y,y∈cq r→(∀ p∈po,p.lv=v→p.ou=y→g p=true)→ek ((po.filter g).filter f) v y=ek po v y∧rJ ((po.filter g).filter f) v (cF r) y=rJ po v (cF r) y) ∧
  (∀ v y,(∀ p∈po,p.lv=v→p.ou=y→g p=false)→ek ((po.filter g).filter f) v y=none):=by
 have h1:=iJ.one h.qK
 have hm:∀ p,p∈po.filter g↔p∈po∧g p=true:=fun p=>Zv
 have hk:∀ {p:Po},(g p&&f p)=true↔g p=true∧f p=true:=fun {p}=>Zm _ _ ▸ Iff.rfl
 rw [IL]
 have fJ:∀ q∈po,(g q&&f q)=true→∀ p∈po,p.lv=q.lv→p.ou=q.ip→(g p&&f p)=true:=by
  intro q hq Xz p hp hv ho
  obtain ⟨Nt,yz⟩:=hk.1 Xz
  have ht:p.ou∈cM r:=by
   rcases h.vo q hq with hs | ht
   ·rcases h.out p hp with hd | hd
    ·exact absurd hd (by rw [ho];exact hn.sd _ hs)
    ·exact hd
   ·rw [ho];exact ht
  have bA:=hg p hp ht
  exact hk.2 ⟨bA,O0 p ((hm p).2 ⟨hp,bA⟩) q ((hm q).2 ⟨hq,Nt⟩) yz hv.symm ho.symm⟩
 refine ⟨iJ.filter hn h _ (fun p hp ht q hq Xz hv hi=>fJ q hq Xz p hp hv.symm hi.symm) (fun p hp ht hkp=>?_),fun v y hy bh=>?_,fun v y DV=>?_⟩
 ·obtain ⟨AM,Nv⟩:=hk.1 hkp
  rcases XW p ((hm p).2 ⟨hp,AM⟩) Nv with hd | ⟨q,hq,yz,TZ,Xf⟩
  ·exact absurd ht (hn.dt _ hd)
  ·exact ⟨q,((hm q).1 hq).1,hk.2 ⟨((hm q).1 hq).2,yz⟩,TZ,Xf⟩
 ·have dZ:∀ p∈po,p.lv=v→p.ou=y→(g p&&f p)=true:=fun p hp Lv qL=>by
   have bA:=bh p hp Lv qL
   exact hk.2 ⟨bA,Rq p ((hm p).2 ⟨hp,bA⟩) (by rw [qL];exact hy)⟩
  refine ⟨?_,?_⟩
  ·cases hi:ek po v y with
   | none=>exact ie.2 fun p hp=>ie.1 hi p (Zv.1 hp).1
   | some u =>
    obtain ⟨q,hq,Lu,OQ,rfl⟩:=fF hi
    have:=nk (h1.filter fun p=>g p&&f p) (Zv.2 ⟨hq,dZ q hq Lu OQ⟩)
    rwa [Lu,OQ] at this
  ·unfold rJ gS
   rw [vW (f:=fun p=>g p&&f p) h1 fJ dZ]
 ·refine ie.2 fun p hp e=>?_
  obtain ⟨AM,Nv⟩:=Zv.1 hp
  have:=DV p AM e.1 e.2
  rw [(hk.1 Nv).1] at this
  cases this
structure Jb where
 v:Int
 s:ByteArray
 d:ByteArray
def r7 (r:Ro) (W:List Po→Jb→Option (List Nat)):List Po→List Jb→Option (List Po)
 | po,[]=>some po
 | po, j :: l => match W po j with
  | none=>none
  | some p=>r7 r W (lF r po j.v j.s p j.d) l
theorem zr {r:Ro} {W:List Po→Jb→Option (List Nat)} (hn:pR r) (hd:(cM r).Nodup) (hW:∀ po j p,W po j=some p→(fB r po j.v j.s).ok p∧(fB r po j.v j.s).fin p=kC r j.d) :
  ∀ (l:List Jb) (po o8:List Po),iJ r po→(∀ j∈l,(0≤j.v∧j.v<r.lv)∧j.s∈cF r∧j.d∈cq r∧ek po j.v j.d=none)→l.Pairwise (fun a b=>¬(b.v=a.v∧b.d=a.d))→r7 r W po l=some o8 →
  iJ r o8∧(∀ j∈l,rJ o8 j.v (cF r) j.d=j.s)∧∀ v y,y∈cq r→(∀ j∈l,¬(v=j.v∧y=j.d))→rJ o8 v (cF r) y=rJ po v (cF r) y∧ek o8 v y=ek po v y
 | [], po, o8, hv, _, _, hr => by
  rw [r7] at hr
  cases hr
  exact ⟨hv,fun j hj=>absurd hj Zp,fun _ _ _ _=>⟨rfl,rfl⟩⟩
 | j :: l, po, o8, hv, hj, hp, hr => by
  rw [r7] at hr
  cases hw:W po j with
  | none=>rw [hw] at hr;cases hr
  | some p =>
   rw [hw] at hr
   obtain ⟨z7,hs,mq,w7⟩:=hj j Zq
   obtain ⟨eJ,mH⟩:=hW po j p hw
   obtain ⟨hV,hc,ho⟩:=HO hn hd z7 hv hs mq w7 eJ mH
   obtain ⟨AM,Nv⟩:=ZaU.1 hp
   obtain ⟨k1,k2,k3⟩:=zr hn hd hW l _ o8 hV (fun x hx=>by
    obtain ⟨a1,a2,a3,a4⟩:=hj x (ZW _ hx)
    exact ⟨a1,a2,a3,by rw [(ho x.v x.d a3 (AM x hx)).2];exact a4⟩) Nv hr
   refine ⟨k1,fun x hx=>?_,fun v y hy hne=>?_⟩
   ·rcases ZS.1 hx with rfl | hx
    ·rw [(k3 x.v x.d mq fun z hz e=>AM z hz ⟨e.1.symm,e.2.symm⟩).1]
     exact hc
    ·exact k2 x hx
   ·obtain ⟨b1,b2⟩:=k3 v y hy fun z hz=>hne z (ZW _ hz)
    obtain ⟨c1,c2⟩:=ho v y hy (hne j Zq)
    exact ⟨b1.trans c1,b2.trans c2⟩
def tE {α:Type} (lt:α→α→Bool):α→List α→α
 | b,[]=>b
 | b,x::l=>tE lt (if lt x b then x else b) l
theorem oR {α:Type} {lt:α→α→Bool} (No:∀ {a b c},lt a b=true→lt b c=true→lt a c=true) (SD:∀ {a b},a≠b→lt a b=true∨lt b a=true) (XH:∀ a,lt a a=false) :
  ∀ (l:List α) (b:α),tE lt b l∈b::l∧∀ q∈b::l,lt q (tE lt b l)=false
 | [],b=>⟨Zq,fun q hq=>by
   rcases ZS.1 hq with rfl | hq
   ·exact XH _
   ·exact absurd hq Zp⟩
 | x :: l, b => by
  rw [tE]
  by_cases hx:lt x b=true
  ·rw [if_pos hx]
   obtain ⟨h1,h2⟩:=oR (lt:=lt) No SD XH l x
   refine ⟨ZW _ h1,fun q hq=>?_⟩
   rcases ZS.1 hq with rfl | hq
   ·cases hb:lt q (tE lt x l) with
    | false=>rfl
    | true =>
     have:=No hx hb
     rw [h2 x Zq] at this
     exact this.symm
   ·exact h2 q hq
  ·rw [if_neg hx]
   obtain ⟨h1,h2⟩:=oR (lt:=lt) No SD XH l b
   refine ⟨?_,fun q hq=>?_⟩
   ·rcases ZS.1 h1 with h | h
    ·rw [h];exact Zq
    ·exact ZW _ (ZW _ h)
   ·rcases ZS.1 hq with rfl | hq
    ·exact h2 q Zq
    ·rcases ZS.1 hq with rfl | hq
     ·cases hb:lt q (tE lt b l) with
      | false=>rfl
      | true =>
       by_cases he:q=b
       ·subst he
        rw [h2 q Zq] at hb
        exact hb.symm
       ·have:=No ((SD he).resolve_left hx) hb
        rw [h2 b Zq] at this
        exact this.symm
     ·exact h2 q (ZW _ hq)
theorem Wn.R7 {N:Wn} {d:Int} {a:List Nat} {l:List (List Nat)} (h:N.all d (N.n+1) []=a::l):N.least d (tE N.lt a l):=by
 obtain ⟨h1,h2⟩:=oR (lt:=N.lt) (fun {_ _ _}=>N.lt_trans) (fun {_ _}=>N.BQ) N.lt_irrefl l a
 rw [← h] at h1 h2
 obtain ⟨k1,k2⟩:=Wn.zO N.sg h1
 refine ⟨k1,k2,fun q hq hf=>h2 q ?_⟩
 exact Wn.Az (p:=[]) (r:=q) hq hf (Nat.lt_succ_of_le (Wn.u9 hq))
theorem Wn.all_none {N:Wn} {d:Int} (h:N.all d (N.n+1) []=[]) (p:List Nat) (hp:N.ok p):N.fin p≠d:=fun hf=>by
 have:=Wn.Az (p:=[]) (r:=p) (k:=N.n+1) hp hf (Nat.lt_succ_of_le (Wn.u9 hp))
 rw [h] at this
 exact absurd this Zp


inductive Wn.Rc (N:Wn):Int→Prop
 | Ek:Wn.Rc N N.Ek
 | ca {i:Nat}:i<N.n→N.ca i=true→Wn.Rc N (N.to i)
 | fe {i:Nat}:i<N.n→N.fe i=true→Wn.Rc N (N.fr i)→Wn.Rc N (N.to i)
theorem xP {p:List Nat} {k:Nat} (h:k<p.length):p.take (k+1)=p.take k++[p[k]]:=by
 rw [Zn h]
theorem Wn.ER {N:Wn} {p:List Nat} (h:N.ok p):∀ k,k≤p.length→N.Rc (N.fin (p.take k))
 | 0,_=>by rw [Ze];exact .Ek
 | k + 1, hk => by
  have ih:=Wn.ER h k (by omega)
  have hs:=h k (by omega)
  rw [xP (by omega),Wn.mI]
  have aM:=Wn.o5 hs
  unfold Wn.step at hs
  simp only [Zm,ZO,decide_eq_true_eq] at hs
  rcases hs.2.2 with ⟨_,hc⟩ | ⟨hf,he⟩
  ·exact .ca aM hc
  ·exact .fe aM hf (he ▸ ih)
theorem Wn.Tf {N:Wn} {p:List Nat} (h:N.ok p):N.Rc (N.fin p):=by
 have:=Wn.ER h p.length (Zz _)
 rwa [ZN] at this
theorem Wn.Tu {N:Wn} {m:Int} (h:N.Rc m):∃ p,N.ok p∧N.fin p=m:=by
 induction h with
 | Ek=>exact ⟨[],N.sg,rfl⟩
 | @ca i hi hc =>
  refine ⟨[]++[i],Wn.kM.2 ⟨N.sg,?_⟩,Wn.mI _ _ _⟩
  unfold Wn.step
  simp [hi,hc]
 | @fe i hi hf _ ih =>
  obtain ⟨p,hp,he⟩:=ih
  by_cases hm:i∈p
  ·obtain ⟨k,hk,rfl⟩:=Zu hm
   exact ⟨p.take (k+1),Wn.EX hp _,by rw [xP hk,Wn.mI]⟩
  ·refine ⟨p++[i],Wn.kM.2 ⟨hp,?_⟩,Wn.mI _ _ _⟩
   unfold Wn.step
   simp [hi,hf,he,hm]
def Wn.Vl (N:Wn) (S:Int→Prop):Prop:=S N.Ek∧∀ i,i<N.n→(N.ca i=true∨N.fe i=true∧S (N.fr i))→S (N.to i)
theorem Wn.Tg {N:Wn} {S:Int→Prop} (h:N.Vl S) {m:Int} (hm:N.Rc m):S m:=by
 induction hm with
 | Ek=>exact h.1
 | ca hi hc=>exact h.2 _ hi (.inl hc)
 | fe hi hf _ ih=>exact h.2 _ hi (.inr ⟨hf,ih⟩)
theorem Wn.ME {N:Wn} {S:Int→Prop} (h:N.Vl S) (hS:∀ m,S m→N.Rc m) (m:Int):S m↔N.Rc m:=⟨hS m,Wn.Tg h⟩
theorem KT {po:List Po} {v:Int} {o:ByteArray}:gV po v o=true↔∃ p∈po,p.lv=v∧p.ou=o:=by
 unfold gV
 constructor
 ·intro h
  obtain ⟨i,hi⟩:=Zad.1 h
  obtain ⟨p,hp,h1,h2,_⟩:=fF hi
  exact ⟨p,hp,h1,h2⟩
 ·rintro ⟨p,hp,h1,h2⟩
  cases hq:ek po v o with
  | some _=>rfl
  | none=>exact absurd ⟨h1,h2⟩ (ie.1 hq p hp)
theorem Oh {po qo:List Po} (h:po.Perm qo) (v:Int) (o:ByteArray):gV po v o=gV qo v o:=by
 rw [Zba,KT,KT]
 exact ⟨fun ⟨p,hp,e⟩=>⟨p,h.mem_iff.1 hp,e⟩,fun ⟨p,hp,e⟩=>⟨p,h.mem_iff.2 hp,e⟩⟩
def qE (r:Ro) (v:Int):List Po→ByteArray→List Nat→List Po×ByteArray
 | po,x,[]=>(po,x)
 | po,x,i::p=>qE r v (if gV po v (gP r i) then po else po++[⟨v,gP r i,x⟩]) (gP r i) p
theorem uB {r:Ro} {v:Int}:∀ (q:List Nat) (po qo:List Po) (x:ByteArray),po.Perm qo→(lE r v po x q).1.Perm (qE r v qo x q).1∧(lE r v po x q).2=(qE r v qo x q).2
 | [],po,qo,x,h=>⟨h,rfl⟩
 | i :: q, po, qo, x, h => by
  rw [lE,qE,Oh h v (gP r i)]
  by_cases hb:gV qo v (gP r i)=true
  ·rw [if_pos hb,if_pos hb]
   exact uB q po qo _ h
  ·rw [if_neg hb,if_neg hb]
   exact uB q _ _ _ ((pb r _ po).trans ((h.cons _).trans (List.perm_append_singleton _ _).symm))
theorem set_perm {r:Ro} {po:List Po} {v:Int} {s d:ByteArray} {p:List Nat}:(lF r po v s p d).Perm ((qE r v po s p).1++[⟨v,d,(qE r v po s p).2⟩]):=by
 obtain ⟨h1,h2⟩:=uB (r:=r) (v:=v) p po po s (List.Perm.refl _)
 unfold lF
 rw [h2]
 exact (pb r _ _).trans ((h1.cons _).trans (List.perm_append_singleton _ _).symm)
theorem HN {r:Ro} {po S:List Po} {v:Int} {s d:ByteArray} {p:List Nat} (hv:(lF r po v s p d).Pairwise (fun a b=>pK r a b=true)) (hS:S.Perm ((qE r v po s p).1++[⟨v,d,(qE r v po s p).2⟩])) (hs:S.Pairwise (fun a b=>¬ pK r b a=true)):S=lF r po v s p d:=by
 have hp:(lF r po v s p d).Perm S:=set_perm.trans hS.symm
 have hk:S.Pairwise (fun a b=>pK r a b=true∨pK r b a=true):=(List.Perm.pairwise_iff (fun {_ _} h=>h.symm) hp).1 (hv.imp fun h=>.inl h)
 have bh:S.Pairwise (fun a b=>pK r a b=true):=(List.Pairwise.and hk hs).imp fun h=>h.1.resolve_right h.2
 exact nW (fun a b h=>Gm a b h) bh hv hp.symm
end Go.Proofs.A1
namespace Go.SL
open Go
def qI (P:Program) (c:Cx) (sl:aH) (hs:List bd) (o:Oper) (V:Nat→Value) (ob:Obj):Prop:=
 (∀ d,o.op≠.defer d)∧∀ a w,bU sl a→Mem c hs w→(execOp a.eval o).run P w=.ok (.value (V w.heap.size)) (w.alloc ob)
section
variable {P:Program} {r:Option Nat} {c:Cx} {D:List Nat} {sl:aH} {hs hs':List bd} {ops:Array Oper} {Q:Exit→Act→World→Prop} {d:Nat} {dst:Option Tmp} {op:Op} {ty:TypeId} {pos:String} {af:Array Edge} {g:Option (Nat×Bool)} {rest:List Oper}
theorem br {V:Nat→Value} {ob:Obj}
  (hr:qI P c sl hs ⟨some d,op,ty,pos,af,none⟩ V ob) (hd:Nat.blt d c.nt=true) (k:∀ b,c.w0.heap.size≤b→Tr c D ((d,V b)::sl) (bH b ob::hs) (WL P r ops Q rest)) :
  Tr c D sl hs (WL P r ops Q (⟨some d,op,ty,pos,af,none⟩::rest)):=fun a w bh=>by
 refine mr rfl ⟨dN _ _ _ _ _,?_⟩
 rw [Oper.semAt_eq _ _ _ hr.1,hr.2 a w bh.c5 bh.rn]
 have h1:=(bh.put (by simpa [Z2] using hd) (V w.heap.size))
 exact k w.heap.size bh.rn.keeps.size _ _ (h1.heap (bh.mem.alloc ob))
theorem P7 {t:TypeId} {x:Operand} {v:Value} {cs:List Value} (hx:Is sl x v) (hc:v.cells=cs.toArray):qI P c sl hs ⟨dst,.box t x,ty,pos,af,g⟩ (fun b=>.pointer (some ⟨b,0,none⟩)) (.cells cs.toArray t):=
 ⟨by simp,fun a w ha _=>by simp [execOp,hx a ha,Instr.box,newVar,newRow,hc]⟩
theorem q6 {t:TypeId} {z:Value} {cs:List Value} [lZ P t z] (hc:z.cells=cs.toArray):qI P c sl hs ⟨dst,.alloc t,ty,pos,af,g⟩ (fun b=>.pointer (some ⟨b,0,none⟩)) (.cells cs.toArray t):=
 ⟨by simp,fun a w _ _=>by simp [execOp,Instr.alloc,iv (t:=t) (v:=z),newVar,newRow,hc]⟩
theorem Dn {t:TypeId}:qI P c sl hs ⟨dst,.makeMap t none,ty,pos,af,g⟩ (fun b=>.map (some b)) (.map #[] 0):=
 ⟨by simp,fun a w _ _=>by simp [execOp,Instr.makeMap]⟩
theorem mg {t:TypeId} {n:Nat} {parts:Array (Nat×Operand)} {ps:Array (Nat×Value)} {V:Nat→Value} {ob:Obj}
  (hp:∀ a,bU sl a→(parts.map fun (i,x)=>(i,a.eval x))=ps) (hb:∀ w,(Instr.buildSlice t n ps).run P w=.ok (V w.heap.size) (w.alloc ob)) :
  qI P c sl hs ⟨dst,.buildSlice t n parts,ty,pos,af,g⟩ V ob:=
 ⟨by simp,fun a w ha _=>by simp only [execOp,hp a ha,Sem.run_bind,hb w,Result.andThen_ok,Sem.run_pure]⟩
def u6 (vs:List Value):Array (Nat×Value):=(vs.zipIdx.map fun (v,i)=>(i,v)).toArray
theorem yI:∀ (vs:List Value) (k:Nat) (acc:List Value),(∀ v∈vs,v.oneCell'=true)→k+vs.length≤acc.length →
  Instr.fill (fun i=>some (i*1,1)) acc.toArray ((vs.zipIdx k).map fun (v,i)=>(i,v))=some (acc.take k++vs++acc.drop (k+vs.length)).toArray
 | [],k,acc,_,_=>by simp [Instr.fill]
 | v :: vs, k, acc, h1, h2 => by
  have hv:=h1 v (by simp)
  have hc:v.cells=#[v]:=by cases v <;> simp_all [Value.cells,Value.oneCell']
  simp only [ZL] at h2
  have e:Array.foldl (fun cs (x:Value×Nat)=>cs.setIfInBounds (k*1+x.2) x.1) acc.toArray #[v].zipIdx=(acc.set k v).toArray:=by
   simp
  simp only [List.zipIdx_cons,Z8,Instr.fill,hc]
  rw [if_neg (by simp;omega)]
  simp only [e]
  rw [yI vs (k+1) (acc.set k v) (fun u hu=>h1 u (by simp [hu])) (by simp;omega)]
  congr 1
  have hk:k<acc.length:=by omega
  simp only [ZL,Zh,Zb]
  rw [List.take_set,List.drop_set_of_lt (by omega)]
  rw [show k+1+vs.length=k+(vs.length+1) from by omega]
  congr 1
  rw [Zn hk]
  rw [List.set_append_right _ _ (by simp;omega)]
  simp [Zbk (Nat.le_of_lt hk)]
theorem uW {t e:TypeId} {n:Nat} {z:Value} [hu:iV P t (.slice e)] [Ty P e false 1] [lZ P e z] {vs:List Value} (hl:vs.length=n) (hn:n≤1000) (hz:z.oneCell'=true) (hv:∀ v∈vs,v.oneCell'=true) (w:World) :
  (Instr.buildSlice t n (u6 vs)).run P w=.ok (.slice (some ⟨w.heap.size,0,none⟩) n n) (w.alloc (.cells vs.toArray e)):=by
 have hzc:z.cells=#[z]:=by cases z <;> simp_all [Value.cells,Value.oneCell']
 unfold Instr.buildSlice
 simp only [Sem.run_bind,aV hu.eq,Result.andThen_ok,fQ (t:=e) (agg:=false) (n:=1),Zaq]
 rw [if_neg (by omega)]
 have hf:∀ (zz:Array Value),zz.size=n→Instr.fill (fun i=>some (i,1)) zz (u6 vs).toList=some vs.toArray:=by
  intro zz Vw
  have:=yI vs 0 zz.toList hv (by simp [hl,Vw])
  simp only [ZaW,Zaq] at this
  simp only [u6]
  rw [this]
  simp [hl,Vw]
 by_cases h0:n=0
 ·subst h0
  simp only [if_true,Sem.run_bind,Sem.run_pure,Result.andThen_ok]
  rw [hf _ (by simp)]
  simp [newRow]
 ·rw [if_neg h0]
  simp only [Sem.run_bind,iv (t:=e) (v:=z),Result.andThen_ok,Sem.run_pure,hzc]
  rw [hf _ (by simp)]
  simp [newRow]
def setCells:List Value→Nat→List Value→List Value
 | cs,_,[]=>cs
 | cs,o,v::vs=>setCells (cs.set o v) (o+1) vs
theorem kl:∀ (vs:List Value) (cs:List Value) (o:Nat),(setCells cs o vs).length=cs.length
 | [],_,_=>rfl
 | v::vs,cs,o=>by simp [setCells,kl vs]
def setBlock (w:World) (b:Nat) (ob:Obj):World:={ w with heap:=w.heap.setIfInBounds b ob }
theorem aJ.setBlock (w:World) (b:Nat) (ob:Obj):aJ [b] w (setBlock w b ob):=
 ⟨rfl,rfl,rfl,Zz _,by simp [SL.setBlock],fun k hk hm=>by
  have:b≠k:=fun e=>hm (by simp [e])
  simp [SL.setBlock,ZJ this]⟩
theorem l9 {w:World} {b:Nat} {ob:Obj} (h:b<w.heap.size):(setBlock w b ob).heap[b]? = some ob:=by simp [setBlock,h]
theorem tO {w:World} {b:Nat} {cs:Array Value} {E:TypeId} (h:w.heap[b]? = some (.cells cs E (0,0))) (o:Nat):w.frozen? ⟨b,o,none⟩=false:=by
 simp [World.frozen?,h]
theorem wO {w:World} {b:Nat} {cs:List Value} {E:TypeId} (h:w.heap[b]? = some (.cells cs.toArray E (0,0))) (o:Nat) (v:Value):w.setCell ⟨b,o,none⟩ v=setBlock w b (.cells (cs.set o v).toArray E (0,0)):=by
 unfold World.setCell setBlock
 congr 1
 apply Array.ext_getElem?
 intro k
 rw [Zbi]
 by_cases hk:b=k
 ·subst hk
  have:=j8 (w:=w) h
  rw [if_pos rfl,h,Array.getElem?_setIfInBounds_self_of_lt this]
  simp
 ·rw [if_neg hk,ZJ hk]
theorem jb {b o:Nat} {E:TypeId}:∀ (vs:List Value) (i:Nat) (cs:List Value) (w:World),w.heap[b]? = some (.cells cs.toArray E (0,0))→(∀ v∈vs,v.oneCell'=true)→o+i+vs.length≤cs.length →
  ∃ w',(storeCells ⟨b,o,none⟩ vs i).run P w=.ok () w'∧aJ [b] w w'∧w'.heap[b]? = some (.cells (setCells cs (o+i) vs).toArray E (0,0))
 | [],i,cs,w,h,_,_=>⟨w,rfl,.refl _ _,h⟩
 | v :: vs, i, cs, w, h, h1, h2 => by
  simp only [ZL] at h2
  have aM:=j8 (w:=w) h
  have bh:(store (Addr.add ⟨b,o,none⟩ i) v).run P w=.ok () (setBlock w b (.cells (cs.set (o+i) v).toArray E (0,0))):=by
   rw [eK,run_store P w _ v .plain (h1 v (by simp)),cell_of_block h]
   have:(cs.toArray)[o+i]? = some (cs[o+i]'(by omega)):=by simp
   rw [this]
   simp only [tO h,ZaT,if_false,wO h]
  obtain ⟨w',h3,h4,h5⟩:=jb (o:=o) vs (i+1) (cs.set (o+i) v) (setBlock w b (.cells (cs.set (o+i) v).toArray E (0,0))) (l9 aM) (fun u hu=>h1 u (by simp [hu])) (by simp;omega)
  refine ⟨w',?_,(aJ.setBlock w b _).trans h4,by rw [h5];rfl⟩
  simp only [storeCells,Sem.run_bind,bh,Result.andThen_ok,h3]
theorem Bq {t:TypeId} {agg:Bool} {n:Nat} [Ty P t agg n] {b o:Nat} {E:TypeId} {v:Value} {vs cs:List Value} {w:World} (h:w.heap[b]? = some (.cells cs.toArray E (0,0))) (hv:v.cells=vs.toArray) (hl:vs.length=n)
  (h1:∀ u∈vs,u.oneCell'=true) (h2:o+n≤cs.length) :
  ∃ w',(storeVar t ⟨b,o,none⟩ v).run P w=.ok () w'∧aJ [b] w w'∧w'.heap[b]? = some (.cells (setCells cs o vs).toArray E (0,0)):=by
 obtain ⟨w',h3,h4,h5⟩:=jb (P:=P) (o:=o) vs 0 cs w h h1 (by omega)
 refine ⟨w',?_,h4,h5⟩
 unfold storeVar
 rw [Sem.run_bind,fQ (t:=t) (agg:=agg) (n:=n),Result.andThen_ok,if_neg (by simp [hv,hl])]
 simpa [hv] using h3
theorem aq {t:TypeId} {agg:Bool} {n:Nat} [Ty P t agg n] {x y:Operand} {b o:Nat} {E:TypeId} {v:Value} {vs cs Pq:List Value} (hx:Is sl x (.pointer (some ⟨b,o,none⟩))) (hy:Is sl y v)
  (ht:Take hs (bH b (.cells cs.toArray E (0,0))) hs') (hv:v.cells=vs.toArray) (hl:vs.length=n) (h1:∀ u∈vs,u.oneCell'=true) (h2:o+n≤cs.length) (he:setCells cs o vs=Pq)
  (k:Tr c D sl (bH b (.cells Pq.toArray E (0,0))::hs') (WL P r ops Q rest)) :
  Tr c D sl hs (WL P r ops Q (⟨none,.store t x y,ty,pos,af,none⟩::rest)):=fun a w bh=>by
 subst he
 have hm:=bh.mem.take (ht.append _)
 obtain ⟨w',h3,h4,h5⟩:=Bq (P:=P) (t:=t) (o:=o) (hm.bH .here) hv hl h1 h2
 refine mr rfl ⟨dN _ _ _ _ _,?_⟩
 rw [Oper.semAt_eq _ _ _ (by simp)]
 have:(execOp a.eval ⟨none,.store t x y,ty,pos,af,none⟩).run P w=.ok .skip w':=by
  simp [execOp,hx a bh.c5,hy a bh.c5,Instr.storeAt,Instr.sureAddr,h3]
 rw [this]
 exact k _ _ (bh.heap (Mem.store hm h4 h5))
theorem Cg (off:Nat):∀ (vs:List Value) (k:Nat) (cs:List Value),(vs.zipIdx k).foldl (fun (cs:Array Value) (x:Value×Nat)=>cs.setIfInBounds (off+x.2) x.1) cs.toArray=(setCells cs (off+k) vs).toArray
 | [],_,_=>rfl
 | v :: vs, k, cs => by
  simp only [List.zipIdx_cons,List.foldl_cons,List.setIfInBounds_toArray,setCells]
  exact Cg off vs (k+1) (cs.set (off+k) v)
def tz (places:List (Nat×Nat)):List Value→List (Nat×Value)→Option (List Value)
 | cs,[]=>some cs
 | cs, (i, v) :: rest =>
  match places[i]? with
  | some (off,size)=>if v.cells.size=size∧off+size≤cs.length then tz places (setCells cs off v.cells.toList) rest else none
  | none=>none
theorem fill_eq {places:List (Nat×Nat)} {f:Nat→Option (Nat×Nat)} (hf:∀ i x,places[i]? = some x→f i=some x):∀ (ps:List (Nat×Value)) (cs Pq:List Value),tz places cs ps=some Pq→Instr.fill f cs.toArray ps=some Pq.toArray
 | [],cs,Pq,h=>by simp only [tz,Option.some.injEq] at h;simp [Instr.fill,h]
 | (i, v) :: rest, cs, Pq, h => by
  unfold tz at h
  split at h
  ·rename_i off size hp
   split at h
   ·rename_i hc
    have h2:=fill_eq hf rest _ _ h
    unfold Instr.fill
    simp only [hf i _ hp]
    rw [if_neg (by simp [hc.1];omega)]
    rw [← h2]
    congr 1
    have:=Cg off v.cells.toList 0 cs
    simp only [Zaw] at this
    rw [← this,← Array.foldl_toList]
    simp
   ·cases h
  ·cases h
def yN (P:Program) (t:TypeId):Option (List (Nat×Nat)×List Value):=
 match P.underlying t,P.info? t with
 | some (.struct fs), some i => match i.zero, fs.toList.mapM (fun f => (P.info? f.type).map fun j => (f.offset, j.size)) with
  | some z,some ps=>some (ps,z.cells.toList)
  | _,_=>none
 | some (.array n e), some i => match i.zero, P.info? e with
  | some z,some j=>some ((List.range n).map (fun k=>(k*j.size,j.size)),z.cells.toList)
  | _,_=>none
 | _,_=>none
class CK (P:Program) (t:TypeId) (ps:outParam (List (Nat×Nat))) (z:outParam (List Value)):Prop where
 eq:yN P t=some (ps,z)
theorem ve {w:World}:∀ (fs:List Field) (ps:List (Nat×Nat)),fs.mapM (fun f=>(P.info? f.type).map fun j=>(f.offset,j.size))=some ps →
  (fs.mapM (fun (f:Field)=>(do pure (f.offset,← sizeOf f.type):Sem (Nat×Nat)))).run P w=.ok ps w
 | [],ps,h=>by simp at h;simp [h]
 | f :: fs, ps, h => by
  simp only [List.mapM_cons,Option.bind_eq_bind,Option.bind_eq_some_iff,Zak,Option.pure_def,Option.some.injEq] at h
  obtain ⟨_,⟨j,hj,rfl⟩,qs,hq,rfl⟩:=h
  have:=ve (w:=w) fs qs hq
  have hsz:(sizeOf f.type).run P w=.ok j.size w:=by simp [sizeOf,fE hj]
  rw [List.mapM_cons]
  simp only [Sem.run_bind,hsz,Result.andThen_ok,Sem.run_pure,this]
theorem Ge {t:TypeId} {places:List (Nat×Nat)} {z cs:List Value} [h:CK P t places z] {ps:List (Nat×Value)} (hf:tz places z ps=some cs) (w:World):(Instr.build t ps.toArray).run P w=.ok (.agg cs.toArray) w:=by
 have h0:=h.eq
 unfold yN at h0
 split at h0
 ·rename_i fs i hu hi
  split at h0
  ·rename_i zz qs hz hq
   simp only [Option.some.injEq,Prod.mk.injEq] at h0
   obtain ⟨rfl,rfl⟩:=h0
   have h1:(zeroValue t).run P w=.ok zz w:=by simp [zeroValue,fE hi,hz]
   have h2:(fs.mapM (fun (f:Field)=>(do pure (f.offset,← sizeOf f.type):Sem (Nat×Nat)))).run P w=.ok qs.toArray w:=by
    have:=ve (P:=P) (w:=w) fs.toList qs hq
    rw [← ZaW (xs:=fs),List.mapM_toArray,Sem.run_map,this]
    rfl
   have h3:=fill_eq (f:=fun i=>qs.toArray[i]?) (fun i x hx=>by simpa using hx) ps zz.cells.toList cs hf
   unfold Instr.build
   simp only [Sem.run_bind,h1,Result.andThen_ok,aV hu,h2]
   simp only [ZaW] at h3
   rw [h3]
   rfl
  ·cases h0
 ·rename_i n e i hu hi
  split at h0
  ·rename_i zz j hz hj
   simp only [Option.some.injEq,Prod.mk.injEq] at h0
   obtain ⟨rfl,rfl⟩:=h0
   have h1:(zeroValue t).run P w=.ok zz w:=by simp [zeroValue,fE hi,hz]
   have h2:(sizeOf e).run P w=.ok j.size w:=by simp [sizeOf,fE hj]
   have h3:=fill_eq (f:=fun i=>some (i*j.size,j.size)) (fun i x hx=>by
    rw [ZF] at hx
    obtain ⟨y,hy,rfl⟩:=Zak.1 hx
    have:=Zl.1 hy
    obtain ⟨aM,he⟩:=this
    simp at he
    rw [he]) ps zz.cells.toList cs hf
   unfold Instr.build
   simp only [Sem.run_bind,h1,Result.andThen_ok,aV hu,h2]
   simp only [ZaW] at h3
   rw [h3]
   rfl
  ·cases h0
 ·cases h0
inductive wh (sl:aH):List (Nat×Operand)→List (Nat×Value)→Prop
 | nil:wh sl [] []
 | cons {i:Nat} {x:Operand} {xs:List (Nat×Operand)} {v:Value} {vs:List (Nat×Value)} (h:Is sl x v) (t:wh sl xs vs):wh sl ((i,x)::xs) ((i,v)::vs)
theorem wh.map {xs:List (Nat×Operand)} {vs:List (Nat×Value)} (h:wh sl xs vs) {a:Act} (ha:bU sl a):(xs.map fun (i,x)=>(i,a.eval x))=vs:=by
 induction h with
 | nil=>rfl
 | cons h _ ih=>simp [h a ha];simpa using ih
theorem aU {t:TypeId} {xs:List (Nat×Operand)} {ps:List (Nat×Value)} {places:List (Nat×Nat)} {z cs:List Value} [CK P t places z] (hp:wh sl xs ps) (hf:tz places z ps=some cs) :
  cY P c sl hs ⟨dst,.build t xs.toArray,ty,pos,af,g⟩ (.agg cs.toArray):=
 HX (ps:=ps.toArray) (fun a ha=>by simp [← hp.map ha]) (fun w=>Ge hf w)
inductive sT (sl:aH):Nat→List (Nat×Operand)→List Value→Prop
 | nil {i:Nat}:sT sl i [] []
 | cons {i:Nat} {x:Operand} {xs:List (Nat×Operand)} {v:Value} {vs:List Value} (h:Is sl x v) (t:sT sl (i+1) xs vs):sT sl i ((i,x)::xs) (v::vs)
theorem sT.map {i:Nat} {xs:List (Nat×Operand)} {vs:List Value} (h:sT sl i xs vs) {a:Act} (ha:bU sl a):(xs.map fun (i,x)=>(i,a.eval x))=(vs.zipIdx i).map fun (v,i)=>(i,v):=by
 induction h with
 | nil=>rfl
 | cons h _ ih=>simp [h a ha];simpa using ih
theorem aC {t e:TypeId} {n:Nat} {z:Value} {xs:List (Nat×Operand)} {vs:List Value} [hu:iV P t (.slice e)] [Ty P e false 1] [lZ P e z] (hp:sT sl 0 xs vs)
  (hl:vs.length=n) (hn:Nat.ble n 1000=true) (hz:z.oneCell'=true) (h1:vs.all Value.oneCell'=true) :
  qI P c sl hs ⟨dst,.buildSlice t n xs.toArray,ty,pos,af,g⟩ (fun b=>.slice (some ⟨b,0,none⟩) n n) (.cells vs.toArray e):=
 mg (ps:=u6 vs) (fun a ha=>by simp only [u6,← hp.map ha];simp) (fun w=>uW hl (by simpa using hn) hz (by simpa [Zaa] using h1) w)
class bR (P:Program) (f:FuncId):Prop where
 eq:((P.funcs[f]?).map fun fn=>(fn.name == "runtime.NumGoroutine" || fn.body.isNone))=some false
theorem sY {f:FuncId} [h:bR P f] (args:Array Value) (w:World):(callFunc f args).run P w=.ok (.enter f args) w:=by
 have:=h.eq
 cases hf:P.funcs[f]? with
 | none=>rw [hf] at this;cases this
 | some fn =>
  rw [hf] at this
  simp only [Zbl,Option.some.injEq,Bool.or_eq_false_iff] at this
  obtain ⟨h1,h2⟩:=this
  simp only [callFunc,Sem.run_bind,run_program,Result.andThen_ok,hf,h1,h2]
  rfl
inductive G0 (sl:aH):List Operand→List Value→Prop
 | nil:G0 sl [] []
 | cons {x:Operand} {xs:List Operand} {v:Value} {vs:List Value} (h:Is sl x v) (t:G0 sl xs vs):G0 sl (x::xs) (v::vs)
theorem G0.map {sl:aH} {xs:List Operand} {vs:List Value} (h:G0 sl xs vs) {a:Act} (ha:bU sl a):xs.map a.eval=vs:=by
 induction h with
 | nil=>rfl
 | cons h _ ih=>simp [h a ha,ih]
def lJ (P:Program) (sl:aH) (o:Oper) (f:FuncId) (args:List Value):Prop:=
 (∀ d,o.op≠.defer d)∧∀ a w,bU sl a→(execOp a.eval o).run P w=.ok (.enter f args.toArray) w
theorem aZ {x:Operand} {xs:List Operand} {ts:Array TypeId} {f:FuncId} {first vs cap args:List Value} (hx:Is sl x (.func (.func f) first.toArray cap.toArray)) (ha:G0 sl xs vs) (hb:bR P f) (he:first++vs++cap=args) :
  lJ P sl ⟨dst,.call ⟨.value x,xs.toArray,ts⟩,ty,pos,af,g⟩ f args:=
 ⟨by simp,fun a w hs=>by
  subst he
  have h1:=ha.map hs
  simp only [execOp,resolve,hx a hs,Deferred.ofValue,Sem.run_bind,Sem.run_pure,Result.andThen_ok,invoke,List.map_toArray,h1,List.append_toArray]
  exact sY (h:=hb) _ _⟩
theorem bC {f:Fn} {xs ys:List Operand} {vs us:List Value} (h1:G0 sl xs vs) (h2:G0 sl ys us) :
  cY P c sl hs ⟨dst,.makeFunc f xs.toArray ys.toArray,ty,pos,af,g⟩ (.func f vs.toArray us.toArray):=
 Bx (fun a ha=>by simp [h1.map ha]) (fun a ha=>by simp [h2.map ha])
def bu (P:Program) (f:FuncId) (args:List Value) (w:World) (md:List Nat) {ι:Type} (Φ:ι→Prop) (val:ι→Value) (own:ι→List bd):Prop:=
 Calls P f args.toArray w fun e w'=>∃ x,e=.returned (val x)∧Φ x∧aJ md w w'∧∃ fp:List Nat,fp.Nodup∧ct (hp w') (own x) fp∧∀ b∈fp,b∈md∨w.heap.size≤b
def aj (P:Program) (f:FuncId) (args:List Value) (w:World) (V:Value):Prop:=
 Calls P f args.toArray w fun e w'=>e=.returned V∧aJ [] w w'
theorem ij {n:Nat} {f:FuncId} {args:Array Value} {w:World} {R:Ending→World→Prop} (h:Calls P f args w R):CallsIn (FR r) n P f args w R:=
 (callsIn_wide (n:=n)).2 h
theorem yW {o:Oper} {f:FuncId} {args:List Value} {R:Ending→World→Prop} {a:Act} {w:World} (hg:o.guard=none) (hr:lJ P sl o f args) (hs:bU sl a) (hc:Calls P f args.toArray w R)
  (k:∀ e w',R e w'→∃ v,e=.returned v∧WL P r ops Q rest (a.put o.dst v) w'):WL P r ops Q (o::rest) a w:=by
 refine mr hg ⟨dN _ _ _ _ _,?_⟩
 rw [Oper.semAt_eq _ _ _ hr.1,hr.2 a w hs]
 refine ⟨by simp [FR,Fence.wide],(ij hc).mono fun e w' h=>?_⟩
 obtain ⟨v,rfl,hk⟩:=k e w' h
 exact hk
theorem ai {f:FuncId} {args:List Value} {V:Value} (hr:lJ P sl ⟨some d,op,ty,pos,af,none⟩ f args) (hd:Nat.blt d c.nt=true) (hc:∀ w,Mem c hs w→aj P f args w V)
  (k:Tr c D ((d,V)::sl) hs (WL P r ops Q rest)):Tr c D sl hs (WL P r ops Q (⟨some d,op,ty,pos,af,none⟩::rest)):=fun a w bh=>
 yW rfl hr bh.c5 (hc w bh.rn) fun e w' ⟨he,hk⟩=>⟨V,he,k _ _ ((bh.put (by simpa [Z2] using hd) V).heap (bh.mem.rr hk))⟩
inductive bD:List bd→List bd→List bd→Prop
 | nil {hs:List bd}:bD hs [] hs
 | cons {hs h1 h2:List bd} {A:bd} {As:List bd} (h:Take hs A h1) (t:bD h1 As h2):bD hs (A::As) h2
theorem ct.jo {h:Nat→Option Obj} {hs As hs':List bd} (ht:bD hs As hs'):∀ {fp:List Nat},ct h hs fp→∃ f1 f2,ct h As f1∧ct h hs' f2∧fp.Perm (f1++f2):=by
 induction ht with
 | nil=>intro fp hf;exact ⟨[],fp,rfl,hf,.refl _⟩
 | cons h _ ih =>
  intro fp hf
  obtain ⟨f1,f2,h1,h2,hp⟩:=hf.take h
  obtain ⟨g1,g2,h3,h4,hq⟩:=ih h2
  exact ⟨f1++g1,g2,⟨f1,g1,rfl,h1,h3⟩,h4,hp.trans (by rw [Zh];exact hq.append_left f1)⟩
theorem Mem.jo {As:List bd} {w:World} (h:Mem c hs w) (ht:bD hs As hs'):Mem c (As++hs') w:=by
 obtain ⟨k,fp,hn,hs,hb⟩:=h
 obtain ⟨f1,f2,h1,h2,hp⟩:=hs.jo ht
 exact ⟨k,f1++f2,hp.nodup_iff.1 hn,ct.append_iff.2 ⟨f1,f2,rfl,h1,h2⟩,fun b dz=>hb b (hp.mem_iff.2 dz)⟩
theorem bD.append {As:List bd} (h:bD hs As hs') (m:List bd):bD (hs++m) As (hs'++m):=by
 induction h with
 | nil=>exact .nil
 | cons h _ ih=>exact .cons (h.append m) ih
theorem Mem.O9 {As Bs:List bd} {w w':World} (hm:Mem c (As++hs') w)
  (hs0:∀ fp,fp.Nodup→ct (hp w) As fp→aJ fp w w'∧∃ lH:List Nat,lH.Nodup∧ct (hp w') Bs lH∧∀ b∈lH,b∈fp∨w.heap.size≤b):Mem c (Bs++hs') w':=Mem.change hm hs0
theorem jw {f:FuncId} {args:List Value} {As:List bd} {ι:Type} {Φ:ι→Prop} {val:ι→Value} {own:ι→List bd} (hr:lJ P sl ⟨some d,op,ty,pos,af,none⟩ f args) (hd:Nat.blt d c.nt=true) (ht:bD hs As hs')
  (hc:∀ w fp,Mem c hs w→fp.Nodup→ct (hp w) As fp→bu P f args w fp Φ val own)
  (k:∀ x,Φ x→Tr c D ((d,val x)::sl) (own x++hs') (WL P r ops Q rest)):Tr c D sl hs (WL P r ops Q (⟨some d,op,ty,pos,af,none⟩::rest)):=fun a w bh=>by
 have hm:=bh.mem.jo (ht.append (mE D))
 obtain ⟨kk,fp,hn,iz,hb⟩:=hm
 obtain ⟨f1,f2,rfl,h1,h2⟩:=ct.append_iff.1 iz
 refine yW rfl hr bh.c5 (hc w f1 bh.rn (ZH.1 hn).1 h1) fun e w' ⟨x,he,hx,hk,lH,uo,hs',yC⟩=>⟨val x,he,k x hx _ _ ((bh.put (by simpa [Z2] using hd) (val x)).heap ?_)⟩
 obtain ⟨n1,n2,n12⟩:=ZH.1 hn
 have aM:∀ b∈f2,b<w.heap.size:=fun b dz=>let ⟨o,ho⟩:=h2.own b dz;j8 ho
 rw [Zh]
 refine ⟨?_,lH++f2,?_,ct.append_iff.2 ⟨lH,f2,rfl,hs',h2.loc fun b dz=>?_⟩,?_⟩
 ·refine ⟨hk.os.trans kk.os,hk.tape.trans kk.tape,hk.output.trans kk.output,ZX kk.dr hk.dr,ZX kk.size hk.size,fun b dz hm=>?_⟩
  rw [← kk.block b dz hm]
  refine hk.block b (ZaI dz kk.size) (fun hf=>?_)
  rcases hb b (ZE _ hf) with h | h
  ·omega
  ·exact hm h
 ·refine ZH.2 ⟨uo,n2,fun x hx y hy e=>?_⟩
  subst e
  rcases yC x hx with h | h
  ·exact n12 x h x hy rfl
  ·have:=aM x hy;omega
 ·exact hk.block b (aM b dz) (fun hf=>n12 b hf b dz rfl)
 ·intro b dz
  rcases Zx.1 dz with h | h
  ·rcases yC b h with h | h
   ·exact hb b (ZE _ h)
   ·exact .inl (ZX kk.size h)
  ·exact hb b (ZT _ h)
def jI:Nat→List Value→aH
 | _,[]=>[]
 | i,v::vs=>(i,v)::jI (i+1) vs
theorem pH:∀ (vs:List Value) (i t:Nat) (v:Value),cS (jI i vs) t=some v→∃ j,t=i+j∧vs[j]? = some v
 | [],_,_,_,h=>by simp [jI,cS] at h
 | u :: us, i, t, v, h => by
  by_cases hit:i=t
  ·subst hit
   rw [jI,fD] at h
   exact ⟨0,rfl,by simpa using h⟩
  ·rw [jI,fC hit] at h
   obtain ⟨j,e,hj⟩:=pH us (i+1) t v h
   exact ⟨j+1,by omega,by simpa using hj⟩
theorem oQ {f:FuncId} {fn:Func} {code:Code} {args:List Value} {w:World} {md:List Nat} {hs0:List bd} {R:Ending→World→Prop} (hf:P.funcs[f]? = some fn) (hb:fn.body=some code) (hl:args.length≤fn.ntmps)
  (h0:∃ fp:List Nat,fp.Nodup∧ct (hp w) hs0 fp∧∀ b∈fp,b∈md)
  (h:Tr ⟨w,md,fn.ntmps⟩ [] (jI 0 args) hs0 (WP P none code (bodyPostM (FR none) 0 P fn R))):Calls P f args.toArray w R:=by
 have hc:=callsIn_of_wp_marks (F:=FR none) (n:=0) (P:=P) (f:=f) (R:=R) (w:=w) (args:=args.toArray) hf hb trivial
  (h { tmps:=args.toArray++Array.replicate (fn.ntmps-args.toArray.size) undef,defers:=[] } w ⟨⟨.refl _ _,?_⟩,?_,?_,rfl⟩)
 ·exact (callsIn_wide (n:=0)).1 hc
 ·obtain ⟨fp,hn,iz,hm⟩:=h0
  exact ⟨fp,hn,by simpa [mE] using iz,fun b dz=>.inr (hm b dz)⟩
 ·intro t v hv
  obtain ⟨j,e,hj⟩:=pH args 0 t v hv
  have:t=j:=by omega
  subst this
  obtain ⟨aM,mS⟩:=Zl.1 hj
  simp [Array.getElem?_append,aM,mS]
 ·simp;omega
end
end Go.SL
namespace Go.SL
open Go
structure Rel where
 p:Value→World→Prop
 st:∀ {v:Value} {w w':World},p v w→aJ [] w w'→p v w'
def Rel.val (V:Value):Rel:=⟨fun v _=>v=V,fun h _=>h⟩
abbrev eL:=List (Nat×Rel)
def AE (T:List Nat) (rl:eL) (a:Act) (w:World):Prop:=∀ d R,(d,R)∈rl→d∈T→∃ v,a.tmps[d]? = some v∧R.p v w
def xu (P:Program) (o:Oper) (a:Act) (w:World) (R:Rel):Prop:=
 match (execOp a.eval o).run P w with
 | .ok (.value v) w'=>aJ [] w w'∧R.p v w'
 | .ok (.enter f args) w'=>w'=w∧Calls P f args w (fun e wG=>∃ v,e=.returned v∧aJ [] w wG∧R.p v wG)
 | _=>False
def tF (P:Program) (c:Cx) (hs:List bd) (ops:Array Oper) (sl:aH) (rl:eL) (o:Oper) (R:Rel):Prop:=
 ∀ a w,bU sl a→AE (o.looksAt ops) rl a w→Mem c hs w→if Region.wanted o (yielded ops a.tmps) then xu P o a w R else R.p undef w
def LC (e:Edge):Bool:=Region.binds .any e
def nf (o:Oper):Bool:=match o.op with | .select ..=>false | .defer _=>false | _=>true
def eY (o:Oper) (i:Nat):Bool:=o.after.toList.any fun e=>LC e&&Nat.beq e.on i
def has (l:List Nat) (t:Nat):Bool:=l.any (Nat.beq t)
theorem Ff {l:List Nat} {t:Nat}:has l t=true↔t∈l:=by
 simp [has,ZM]
def pZ (ops:Array Oper) (x y:Oper) (i:Nat):Bool:=
 match x.dst,y.dst with
 | some d,some e=>!Nat.beq d e&&((!has (y.looksAt ops) d&&!has (x.looksAt ops) e)||eY y i)
 | _,_=>false
def kL (ops:Array Oper):List Oper→Nat→Bool
 | [],_=>true
 | x::r,i=>r.all (fun y=>pZ ops x y i)&&kL ops r (i+1)
def tS:List Oper→Nat→Bool
 | [],_=>true
 | o::r,k=>o.after.toList.all (fun e=>!LC e||Nat.blt e.on k)&&tS r (k+1)
def qe (acc:List Nat) (o:Oper):Nat:=o.after.toList.foldl (fun s e=>if LC e then s ||| 2 ^ e.on ||| acc.getD e.on 0 else s) 0
def iG:List Oper→List Nat→List Nat
 | [],acc=>acc
 | o::r,acc=>iG r (acc++[qe acc o])
def zf (ms:List Nat):List Nat→Bool
 | []=>true
 | k::r=>(List.range k).all (fun i=>(ms.getD k 0).testBit i)&&zf ms r
def yg (l:List Oper) (m:Nat):Bool:=
 l.all nf&&tS l 0&&kL l.toArray (l.take m) 0&&(l.take m).all (fun o=>o.dst.isSome)&&zf (iG l []) (List.range' m (l.length-m))&&Nat.ble m l.length
theorem jX {l:List Oper}:∀ {s:Nat},tS l s=true→∀ {k:Nat} {o:Oper},l[k]? = some o→∀ e∈o.after,LC e=true→e.on<s+k:=by
 induction l with
 | nil=>intro s _ k o h;simp at h
 | cons x r ih =>
  intro s h k o hk e he hb
  simp only [tS,Zm,Zaa] at h
  cases k with
  | zero =>
   simp at hk;subst hk
   have:=h.1 e (by simpa using he)
   simpa [hb,Z2] using this
  | succ k =>
   have:=ih h.2 (k:=k) (by simpa using hk) e he hb
   omega
theorem rp:∀ (l:List Oper) (acc:List Nat),∃ t,iG l acc=acc++t∧t.length=l.length
 | [],acc=>⟨[],by simp [iG]⟩
 | o :: r, acc => by
  obtain ⟨t,h,hl⟩:=rp r (acc++[qe acc o])
  exact ⟨qe acc o::t,by simp [iG,h],by simp [hl]⟩
theorem vd:∀ (l:List Oper) (acc:List Nat) (k:Nat) (o:Oper),l[k]? = some o→(iG l acc).getD (acc.length+k) 0=qe ((iG l acc).take (acc.length+k)) o
 | [],_,_,_,h=>by simp at h
 | x :: r, acc, k, o, h => by
  obtain ⟨t,ht,hl⟩:=rp r (acc++[qe acc x])
  cases k with
  | zero =>
   simp at h;subst h
   simp [iG,ht]
  | succ k =>
   have:=vd r (acc++[qe acc x]) k o (by simpa using h)
   simp only [Zg,ZL,Zai] at this
   rw [show acc.length+(k+1)=acc.length+(0+1)+k from by omega]
   exact this
theorem tf (acc:List Nat) (i:Nat):∀ (es:List Edge) (s:Nat),(es.foldl (fun s e=>if LC e then s ||| 2 ^ e.on ||| acc.getD e.on 0 else s) s).testBit i=true →
  s.testBit i=true∨∃ e∈es,LC e=true∧(i=e.on∨(acc.getD e.on 0).testBit i=true)
 | [],s,h=>.inl h
 | e :: es, s, h => by
  simp only [List.foldl_cons] at h
  rcases tf acc i es _ h with h | ⟨e',G3,hb,h⟩
  ·by_cases hb:LC e=true
   ·simp only [hb,if_true,Nat.testBit_or,ZO,Nat.testBit_two_pow,decide_eq_true_eq] at h
    rcases h with (h | h) | h
    ·exact .inl h
    ·exact .inr ⟨e,by simp,hb,.inl h.symm⟩
    ·exact .inr ⟨e,by simp,hb,.inr h⟩
   ·simp only [hb] at h
    exact .inl h
  ·exact .inr ⟨e',by simp [G3],hb,h⟩
def DC (l:List Oper) (L:Nat→Prop):Prop:=∀ k o,l[k]? = some o→L k→∀ e∈o.after,LC e=true→L e.on
theorem ia {l:List Oper} {L:Nat→Prop} (vF:DC l L) (UD:tS l 0=true):∀ (k:Nat),k<l.length→L k→∀ i,((iG l []).getD k 0).testBit i=true→L i:=by
 intro k
 induction k using Nat.strongRecOn with
 | _ k ih =>
  intro hk hL i hi
  have ho:l[k]? = some l[k]:=Zc hk
  have hm:=vd l [] k _ ho
  simp only [Zai,ZC] at hm
  rw [hm] at hi
  unfold qe at hi
  rcases tf _ i _ 0 hi with h | ⟨e,he,hb,h⟩
  ·simp at h
  ·have G3:e∈l[k].after:=by simpa using he
   have aM:e.on<k:=by have:=jX UD ho e G3 hb;omega
   have hLe:=vF k _ ho hL e G3 hb
   rcases h with h | h
   ·rw [h];exact hLe
   ·refine ih e.on aM (by omega) hLe i ?_
    have:((iG l []).take k).getD e.on 0=(iG l []).getD e.on 0:=by
     simp [Zk,aM]
    rwa [this] at h
theorem mZ {ops:Array Oper} {l:List Oper}:∀ {s:Nat},kL ops l s=true→∀ {i j:Nat} {x y:Oper},i<j→l[i]? = some x→l[j]? = some y→pZ ops x y (s+i)=true:=by
 induction l with
 | nil=>intro s _ i j x y _ h;simp at h
 | cons o r ih =>
  intro s h i j x y wY hx hy
  simp only [kL,Zm,Zaa] at h
  cases j with
  | zero=>omega
  | succ j =>
   cases i with
   | zero =>
    simp at hx;subst hx
    exact h.1 y (ZV (by simpa using hy))
   | succ i =>
    have:=ih h.2 (i:=i) (j:=j) (by omega) (by simpa using hx) (by simpa using hy)
    rwa [show s+1+i=s+(i+1) from by omega] at this
theorem oL {sl:aH} {T:List Nat} {a:Act} {nt:Nat} (hn:a.tmps.size=nt) (hk:∀ t v,cS sl t=some v→t<nt) (hT:∀ t∈T,∀ v,cS sl t=some v→a.tmps[t]? = some v) :
  ∃ a':Act,bU sl a'∧(∀ t∈T,a'.tmps[t]? = a.tmps[t]?)∧a'.tmps.size=nt:=by
 refine ⟨⟨Array.ofFn (n:=nt) fun t=>if (t:Nat)∈T then a.tmps.getD t undef else (cS sl t).getD undef,a.defers⟩,?_,?_,by simp⟩
 ·intro t v hv
  have aM:=hk t v hv
  simp only [Array.getElem?_ofFn,aM,dif_pos]
  by_cases ht:t∈T
  ·have:=hT t ht v hv
   simp [ht,Zy,this]
  ·simp [ht,hv]
 ·intro t ht
  by_cases aM:t<nt
  ·have:a.tmps[t]? = some (a.tmps[t]'(by omega)):=Zar (by omega)
   simp [ht,aM,Zy,this]
  ·rw [Zbt (by simp;omega),Zbt (by omega)]
theorem Aj {a a':Act} {x:Operand} (h:∀ t,x=.tmp t→a'.tmps[t]? = a.tmps[t]?):a'.eval x=a.eval x:=by
 cases x with
 | tmp t=>simp [Act.eval,Zy,h t rfl]
 | _=>rfl
theorem iA {o:Oper} {ops:Array Oper} {a a':Act} (ho:nf o=true) (h:∀ t∈o.looksAt ops,a'.tmps[t]? = a.tmps[t]?):execOp a'.eval o=execOp a.eval o:=by
 refine execOp_congr o (fun cs b he=>by simp [nf,he] at ho) fun x hx=>Aj fun t ht=>h t ?_
 subst ht
 unfold Oper.looksAt
 refine ZE _ ?_
 simp only [List.mem_filterMap]
 exact ⟨_,by simpa using hx,rfl⟩
theorem gX {o:Oper} {ops:Array Oper} {a a':Act} (h:∀ t∈o.looksAt ops,a'.tmps[t]? = a.tmps[t]?):Region.wanted o (yielded ops a'.tmps)=Region.wanted o (yielded ops a.tmps):=by
 unfold Region.wanted
 cases hg:o.guard with
 | none=>rfl
 | some gw =>
  obtain ⟨j,want⟩:=gw
  simp only []
  have:yielded ops a'.tmps j=yielded ops a.tmps j:=by
   unfold yielded
   cases hd:(ops[j]?).bind (·.dst) with
   | none=>rfl
   | some d =>
    have:=h d (by unfold Oper.looksAt;exact ZT _ (by simp [hg,hd]))
    simp [this]
  rw [this]
inductive sS (P:Program) (c:Cx) (hs:List bd) (ops:Array Oper):List Oper→aH→eL→List Rel→aH→eL→Prop
 | nil {sl:aH} {rl:eL}:sS P c hs ops [] sl rl [] sl rl
 | val {o:Oper} {l:List Oper} {sl js:aH} {rl kJ:eL} {d:Nat} {V:Value} {S:List Rel} (hd:o.dst=some d) (fJ:d<c.nt) (h:tF P c hs ops sl rl o (.val V)) (t:sS P c hs ops l ((d,V)::sl) rl S js kJ) :
   sS P c hs ops (o::l) sl rl (.val V::S) js kJ
 | rel {o:Oper} {l:List Oper} {sl js:aH} {rl kJ:eL} {d:Nat} {R:Rel} {S:List Rel} (hd:o.dst=some d) (fJ:d<c.nt) (hn:cS sl d=none) (h:tF P c hs ops sl rl o R) (t:sS P c hs ops l sl ((d,R)::rl) S js kJ) :
   sS P c hs ops (o::l) sl rl (R::S) js kJ
theorem sS.at_ {P:Program} {c:Cx} {hs:List bd} {ops:Array Oper} {l:List Oper} {sl js:aH} {rl kJ:eL} {S:List Rel} (h:sS P c hs ops l sl rl S js kJ) :
  ∀ (i : Nat) (o : Oper), l[i]? = some o → ∃ tZ Ll R, S[i]? = some R ∧ tF P c hs ops tZ Ll o R ∧
   (∀ t v,cS tZ t=some v→(∃ (j:Nat) (oj:Oper),j<i∧l[j]? = some oj∧oj.dst=some t∧S[j]? = some (.val v))∨((∀ (j:Nat) (oj:Oper),j<i→l[j]? = some oj→oj.dst≠some t)∧cS sl t=some v)) ∧
   (∀ t Rt,(t,Rt)∈Ll→(∃ (j:Nat) (oj:Oper),j<i∧l[j]? = some oj∧oj.dst=some t∧S[j]? = some Rt)∨(t,Rt)∈rl):=by
 induction h with
 | nil=>intro i o h;simp at h
 | @val o0 l sl js rl kJ d V S hd fJ bh t ih =>
  intro i o ho
  cases i with
  | zero =>
   simp at ho;subst ho
   exact ⟨sl,rl,.val V,rfl,bh,fun t v hv=>.inr ⟨fun j _ hj=>by omega,hv⟩,fun t Rt hm=>.inr hm⟩
  | succ i =>
   obtain ⟨tZ,Ll,R,hR,hs',h1,h2⟩:=ih i o (by simpa using ho)
   refine ⟨tZ,Ll,R,by simpa using hR,hs',fun t v hv=>?_,fun t Rt hm=>?_⟩
   ·rcases h1 t v hv with ⟨j,oj,hj,iS,iI,jN⟩ | ⟨qM,mS⟩
    ·exact .inl ⟨j+1,oj,by omega,by simpa using iS,iI,by simpa using jN⟩
    ·by_cases w8:d=t
     ·subst w8
      rw [fD] at mS
      cases mS
      exact .inl ⟨0,o0,by omega,rfl,hd,rfl⟩
     ·rw [fC w8] at mS
      refine .inr ⟨fun j oj hj iS=>?_,mS⟩
      cases j with
      | zero=>simp at iS;subst iS;rw [hd];simp [w8]
      | succ j=>exact qM j oj (by omega) (by simpa using iS)
   ·rcases h2 t Rt hm with ⟨j,oj,hj,iS,iI,jN⟩ | aA
    ·exact .inl ⟨j+1,oj,by omega,by simpa using iS,iI,by simpa using jN⟩
    ·exact .inr aA
 | @rel o0 l sl js rl kJ d R0 S hd fJ hn bh t ih =>
  intro i o ho
  cases i with
  | zero =>
   simp at ho;subst ho
   exact ⟨sl,rl,R0,rfl,bh,fun t v hv=>.inr ⟨fun j _ hj=>by omega,hv⟩,fun t Rt hm=>.inr hm⟩
  | succ i =>
   obtain ⟨tZ,Ll,R,hR,hs',h1,h2⟩:=ih i o (by simpa using ho)
   refine ⟨tZ,Ll,R,by simpa using hR,hs',fun t v hv=>?_,fun t Rt hm=>?_⟩
   ·rcases h1 t v hv with ⟨j,oj,hj,iS,iI,jN⟩ | ⟨qM,mS⟩
    ·exact .inl ⟨j+1,oj,by omega,by simpa using iS,iI,by simpa using jN⟩
    ·have w8:d≠t:=fun e=>by subst e;rw [hn] at mS;cases mS
     refine .inr ⟨fun j oj hj iS=>?_,mS⟩
     cases j with
     | zero=>simp at iS;subst iS;rw [hd];simp [w8]
     | succ j=>exact qM j oj (by omega) (by simpa using iS)
   ·rcases h2 t Rt hm with ⟨j,oj,hj,iS,iI,jN⟩ | aA
    ·exact .inl ⟨j+1,oj,by omega,by simpa using iS,iI,by simpa using jN⟩
    ·rcases ZS.1 aA with e | Q9
     ·cases e
      exact .inl ⟨0,o0,by omega,rfl,hd,rfl⟩
     ·exact .inr Q9
theorem sS.end_ {P:Program} {c:Cx} {hs:List bd} {ops:Array Oper} {l:List Oper} {sl js:aH} {rl kJ:eL} {S:List Rel} (h:sS P c hs ops l sl rl S js kJ) :
   (∀ t v,cS js t=some v→(∃ (j:Nat) (oj:Oper),l[j]? = some oj∧oj.dst=some t∧S[j]? = some (.val v))∨((∀ (j:Nat) (oj:Oper),l[j]? = some oj→oj.dst≠some t)∧cS sl t=some v)) ∧
   (∀ t Rt,(t,Rt)∈kJ→(∃ (j:Nat) (oj:Oper),l[j]? = some oj∧oj.dst=some t∧S[j]? = some Rt)∨(t,Rt)∈rl) ∧
   (∀ (j:Nat) (oj:Oper),l[j]? = some oj→∃ d R,oj.dst=some d∧d<c.nt∧S[j]? = some R):=by
 induction h with
 | nil=>exact ⟨fun t v hv=>.inr ⟨fun j oj h=>by simp at h,hv⟩,fun t Rt hm=>.inr hm,fun j oj h=>by simp at h⟩
 | @val o0 l sl js rl kJ d V S hd fJ bh t ih =>
  obtain ⟨h1,h2,h3⟩:=ih
  refine ⟨fun t v hv=>?_,fun t Rt hm=>?_,fun j oj hj=>?_⟩
  ·rcases h1 t v hv with ⟨j,oj,iS,iI,jN⟩ | ⟨qM,mS⟩
   ·exact .inl ⟨j+1,oj,by simpa using iS,iI,by simpa using jN⟩
   ·by_cases w8:d=t
    ·subst w8
     rw [fD] at mS
     cases mS
     exact .inl ⟨0,o0,rfl,hd,rfl⟩
    ·rw [fC w8] at mS
     refine .inr ⟨fun j oj iS=>?_,mS⟩
     cases j with
     | zero=>simp at iS;subst iS;rw [hd];simp [w8]
     | succ j=>exact qM j oj (by simpa using iS)
  ·rcases h2 t Rt hm with ⟨j,oj,iS,iI,jN⟩ | aA
   ·exact .inl ⟨j+1,oj,by simpa using iS,iI,by simpa using jN⟩
   ·exact .inr aA
  ·cases j with
   | zero=>simp at hj;subst hj;exact ⟨d,_,hd,fJ,rfl⟩
   | succ j=>obtain ⟨d',R',h⟩:=h3 j oj (by simpa using hj);exact ⟨d',R',by simpa using h⟩
 | @rel o0 l sl js rl kJ d R0 S hd fJ hn bh t ih =>
  obtain ⟨h1,h2,h3⟩:=ih
  refine ⟨fun t v hv=>?_,fun t Rt hm=>?_,fun j oj hj=>?_⟩
  ·rcases h1 t v hv with ⟨j,oj,iS,iI,jN⟩ | ⟨qM,mS⟩
   ·exact .inl ⟨j+1,oj,by simpa using iS,iI,by simpa using jN⟩
   ·have w8:d≠t:=fun e=>by subst e;rw [hn] at mS;cases mS
    refine .inr ⟨fun j oj iS=>?_,mS⟩
    cases j with
    | zero=>simp at iS;subst iS;rw [hd];simp [w8]
    | succ j=>exact qM j oj (by simpa using iS)
  ·rcases h2 t Rt hm with ⟨j,oj,iS,iI,jN⟩ | aA
   ·exact .inl ⟨j+1,oj,by simpa using iS,iI,by simpa using jN⟩
   ·rcases ZS.1 aA with e | Q9
    ·cases e
     exact .inl ⟨0,o0,rfl,hd,rfl⟩
    ·exact .inr Q9
  ·cases j with
   | zero=>simp at hj;subst hj;exact ⟨d,_,hd,fJ,rfl⟩
   | succ j=>obtain ⟨d',R',h⟩:=h3 j oj (by simpa using hj);exact ⟨d',R',by simpa using h⟩
end Go.SL
namespace Go.SL
open Go
section
variable {P:Program} {r:Option Nat} {c:Cx} {D:List Nat} {sl js:aH} {kJ:eL} {hs:List bd} {Q:Exit→Act→World→Prop} {l:List Oper} {m:Nat} {S:List Rel}
def Ls (listed:Array Bool) (i:Nat):Prop:=listed.getD i false=true
theorem eS (n i:Nat):¬ Ls (Array.replicate n false) i:=by
 unfold Ls
 rw [Zy,Array.getElem?_replicate]
 split <;> simp
theorem cA {listed:Array Bool} {i j:Nat} (hi:i<listed.size):Ls (listed.setIfInBounds i true) j↔(j=i∨Ls listed j):=by
 unfold Ls
 by_cases h:i=j
 ·subst h
  simp [Zy,hi]
 ·have h':¬ j=i:=fun e=>h e.symm
  simp [Zy,ZJ h,h']
theorem Fk {listed:Array Bool} {i:Nat} (hi:i<listed.size):listed.getD i true=false↔¬ Ls listed i:=by
 unfold Ls
 simp [Zy,hi]
theorem dD {listed:Array Bool} (hsz:listed.size=l.length) {i:Nat}:i∈Region.ready .any l.toArray listed↔∃ o,l[i]? = some o∧¬ Ls listed i∧∀ e∈o.after,LC e=true→Ls listed e.on:=by
 rw [mem_ready]
 constructor
 ·rintro ⟨h1,o,ho,h2⟩
  have Fc:l[i]? = some o:=by simpa using ho
  have hi:i<listed.size:=by rw [hsz];exact (Zl.1 Fc).1
  exact ⟨o,Fc,(Fk hi).1 h1,h2⟩
 ·rintro ⟨o,ho,h1,h2⟩
  have hi:i<listed.size:=by rw [hsz];exact (Zl.1 ho).1
  exact ⟨(Fk hi).2 h1,o,by simpa using ho,h2⟩
theorem jq {listed:Array Bool} (hsz:listed.size=l.length) (UD:tS l 0=true) (h:∃ i,i<l.length∧¬ Ls listed i):∃ i,i∈Region.ready .any l.toArray listed:=by
 obtain ⟨i,hi,hn⟩:=h
 induction i using Nat.strongRecOn with
 | _ i ih =>
  by_cases dZ:∀ j,j<i→Ls listed j
  ·refine ⟨i,(dD hsz).2 ⟨l[i],Zc hi,hn,fun e he hb=>dZ _ ?_⟩⟩
   have:=jX UD (Zc hi) e he hb
   omega
  ·have:∃ j,j<i∧¬ Ls listed j:=by
    apply Classical.byContradiction
    intro hc
    exact dZ fun j hj=>Classical.byContradiction fun uo=>hc ⟨j,hj,uo⟩
   obtain ⟨j,hj,hnj⟩:=this
   exact ih j hj (by omega) hnj
theorem sV {ms:List Nat}:∀ {ks:List Nat},zf ms ks=true→∀ k∈ks,∀ i,i<k→(ms.getD k 0).testBit i=true
 | [],_,k,hk=>by cases hk
 | x :: ks, h, k, hk => by
  simp only [zf,Zm,Zaa,ZQ] at h
  rcases ZS.1 hk with e | hk
  ·subst e;exact h.1
  ·exact sV h.2 k hk
structure Sp (l:List Oper) (m:Nat):Prop where
 op:∀ o∈l,nf o=true
 ac:tS l 0=true
 BE:kL l.toArray (l.take m) 0=true
 tail:∀ k,m≤k→k<l.length→∀ i,i<k→((iG l []).getD k 0).testBit i=true
 le:m≤l.length
theorem uY (h:yg l m=true):Sp l m:=by
 simp only [yg,Zm,Zaa] at h
 obtain ⟨⟨⟨⟨⟨h1,h2⟩,h3⟩,_⟩,h5⟩,h6⟩:=h
 refine ⟨h1,h2,h3,fun k hk aM=>sV h5 k ?_,by simpa using h6⟩
 rw [ZaM]
 omega
theorem pX (hc:Sp l m) {listed:Array Bool} (hsz:listed.size=l.length) (vF:DC l (Ls listed)) {i:Nat} (hi:i∈Region.ready .any l.toArray listed) (hm:m≤i):∀ j,j<i→Ls listed j:=by
 intro j hj
 obtain ⟨o,ho,hn,hd⟩:=(dD hsz).1 hi
 have aM:i<l.length:=(Zl.1 ho).1
 have DW:DC l (fun k=>k=i∨Ls listed k):=by
  intro k ok hk hL e he hb
  rcases hL with e' | hL
  ·subst e'
   rw [ho] at hk;cases hk
   exact .inr (hd e he hb)
  ·exact .inr (vF k ok hk hL e he hb)
 rcases ia DW hc.ac i aM (.inl rfl) j (hc.tail i hm aM j hj) with h | h
 ·omega
 ·exact h
theorem CZ {o:Oper} {rest:List Oper} {i:Nat} {ops:Array Oper} {K:Act→World→Prop} {a:Act} {w:World} (hi:ops[i]? = some o) (hK:∀ a w,WL P r ops Q rest a w→K a w) (h:WL P r ops Q (o::rest) a w):wpOpIn (FR r) 0 P ops Q i K a w:=by
 unfold wpOpIn
 simp only [hi]
 unfold WL at h
 split
 ·rename_i hw
  rw [if_pos hw] at h
  exact Oper.wpIn_mono hK h
 ·rename_i hw
  rw [if_neg hw] at h
  exact ⟨fun _ _=>trivial,hK _ _ h⟩
theorem Dx (hc:Sp l m):∀ (fuel k:Nat) (listed:Array Bool) (a:Act) (w:World),m≤k→k+fuel=l.length→listed.size=l.length→(∀ i,i<l.length→(Ls listed i↔i<k)) →
  WL P r l.toArray Q (l.drop k) a w→wpAnyIn (FR r) 0 P .any l.toArray Q fuel listed a w
 | 0, k, listed, a, w, _, hk, hsz, hL, h => by
  refine ⟨?_,by rw [Zbc (by omega)] at h;exact h⟩
  apply List.eq_nil_iff_forall_not_mem.2
  intro i hi
  obtain ⟨o,ho,hn,_⟩:=(dD hsz).1 hi
  have aM:=(Zl.1 ho).1
  exact hn ((hL i aM).2 (by omega))
 | fuel + 1, k, listed, a, w, Lw, hk, hsz, hL, h => by
  have vF:DC l (Ls listed):=fun k' o' Fc GI e he hb=>by
   have aM:=(Zl.1 Fc).1
   have:=jX hc.ac Fc e he hb
   exact (hL e.on (by omega)).2 (by have:=(hL k' aM).1 GI;omega)
  have Nx:k<l.length:=by omega
  refine ⟨fun h0=>?_,fun i hi=>?_⟩
  ·obtain ⟨i,hi⟩:=jq hsz hc.ac ⟨k,Nx,fun hh=>by have:=(hL k Nx).1 hh;omega⟩
   rw [h0] at hi;cases hi
  ·obtain ⟨o,ho,hn,_⟩:=(dD hsz).1 hi
   have aM:=(Zl.1 ho).1
   have Rg:k≤i:=ZaS fun hh=>hn ((hL i aM).2 hh)
   have:i=k:=by
    rcases Zbo k i with hh | hh
    ·have:=(hL k Nx).1 (pX hc hsz vF hi (by omega) k hh)
     omega
    ·omega
   subst this
   rw [Zw aM] at h
   have Fc:l[i]=o:=by rw [Zc aM] at ho;exact Option.some.inj ho
   rw [Fc] at h
   refine CZ (by simpa using ho) (fun a' w' h'=>Dx hc fuel (i+1) _ a' w' (by omega) (by omega) (by simpa using hsz) (fun j hj=>?_) h') h
   rw [cA (by omega)]
   have:=hL j hj
   constructor
   ·rintro (e | hh)
    ·omega
    ·have:=this.1 hh;omega
   ·intro hh
    by_cases e:j=i
    ·exact .inl e
    ·exact .inr (this.2 (by omega))
structure Inv1 (c:Cx) (D:List Nat) (hs:List bd) (l:List Oper) (m:Nat) (S:List Rel) (a0:Act) (fuel:Nat) (listed:Array Bool) (a:Act) (w:World):Prop where
 sz:listed.size=l.length
 dc:DC l (Ls listed)
 hi:∀ k,m≤k→¬ Ls listed k
 mem:Mem c (hs++mE D) w
 defers:a.defers=D.map mark
 size:a.tmps.size=c.nt
 BH:∀ t,(∀ (j:Nat) (o:Oper),l[j]? = some o→Ls listed j→o.dst≠some t)→a.tmps[t]? = a0.tmps[t]?
 new:∀ (j:Nat) (o:Oper),l[j]? = some o→Ls listed j→∀ d R,o.dst=some d→S[j]? = some R→∃ v,a.tmps[d]? = some v∧R.p v w
 left:∃ U:List Nat,U.Nodup∧(∀ i,i∈U↔i<l.length∧¬ Ls listed i)∧U.length=fuel
theorem lS (hc:Sp l m) {i j:Nat} {x y:Oper} (wY:i<j) (hj:j<m) (hx:l[i]? = some x) (hy:l[j]? = some y):pZ l.toArray x y i=true:=by
 have:=mZ hc.BE (i:=i) (j:=j) wY (by rw [ZG,if_pos (by omega)];exact hx) (by rw [ZG,if_pos hj];exact hy)
 simpa using this
theorem dq {ops:Array Oper} {x y:Oper} {i d e:Nat} (h:pZ ops x y i=true) (hx:x.dst=some d) (hy:y.dst=some e):d≠e∧((d∈y.looksAt ops∨e∈x.looksAt ops)→eY y i=true):=by
 simp only [pZ,hx,hy,Zm,Zbp,ZO] at h
 obtain ⟨h1,h2⟩:=h
 refine ⟨fun e'=>by subst e';simp at h1,fun h3=>?_⟩
 rcases h2 with ⟨h4,h5⟩ | h2
 ·rcases h3 with h3 | h3
  ·rw [Ff.2 h3] at h4;cases h4
  ·rw [Ff.2 h3] at h5;cases h5
 ·exact h2
theorem df {o:Oper} {i:Nat} (h:eY o i=true):∃ e∈o.after,LC e=true∧e.on=i:=by
 simp only [eY,ZM,Zm] at h
 obtain ⟨e,he,hb,nP⟩:=h
 exact ⟨e,by simpa using he,hb,Zag nP⟩
theorem BX (hc:Sp l m) (hl:m≤l.length) {a0 a:Act} {w w':World} {fuel i d:Nat} {listed:Array Bool} {o:Oper} {R:Rel} {v:Value} (hI:Inv1 c D hs l m S a0 (fuel+1) listed a w)
  (hi:i∈Region.ready .any l.toArray listed) (pf:i<m) (ho:l[i]? = some o) (hd:o.dst=some d) (fJ:d<c.nt) (rF:S[i]? = some R)
  (XY:∀ (j:Nat) (oj:Oper),j<m→l[j]? = some oj→∃ e,oj.dst=some e) (hk:aJ [] w w') (hv:R.p v w'):Inv1 c D hs l m S a0 fuel (listed.setIfInBounds i true) (a.put o.dst v) w':=by
 obtain ⟨o',Fc,hn,lV⟩:=(dD hI.sz).1 hi
 rw [ho] at Fc;cases Fc
 have gU:i<listed.size:=by rw [hI.sz];omega
 have _:=XY
 have pL:∀ (j:Nat) (oj:Oper) (e:Nat),l[j]? = some oj→j<m→j≠i→oj.dst=some e→e≠d:=by
  intro j oj e hj iq hne he
  rcases Zbo j i with h | h
  ·exact (dq (lS hc h pf hj ho) he hd).1
  ·exact fun e'=>(dq (lS hc (show i<j by omega) iq ho hj) hd he).1 e'.symm
 rw [hd]
 refine ⟨by simpa using hI.sz,?_,?_,hI.mem.rr hk,hI.defers,by simpa [Act.put] using hI.size,?_,?_,?_⟩
 ·intro k ok rQ hL e he hb
  rw [cA gU] at hL ⊢
  rcases hL with e' | hL
  ·subst e'
   rw [ho] at rQ;cases rQ
   exact .inr (lV e he hb)
  ·exact .inr (hI.dc k ok rQ hL e he hb)
 ·intro k rQ hL
  rw [cA gU] at hL
  rcases hL with e | hL
  ·omega
  ·exact hI.hi k rQ hL
 ·intro t ht
  have h1:d≠t:=fun e=>by subst e;exact ht i o ho ((cA gU).2 (.inl rfl)) hd
  simp only [Act.put,ZJ h1]
  exact hI.BH t fun j oj hj hL=>ht j oj hj ((cA gU).2 (.inr hL))
 ·intro j oj hj hL e Rj he Yq
  rw [cA gU] at hL
  by_cases nC:j=i
  ·subst nC
   rw [ho] at hj;cases hj
   rw [hd] at he;cases he
   rw [rF] at Yq;cases Yq
   exact ⟨v,by simp [Act.put,hI.size,fJ],hv⟩
  ·have AS:=hL.resolve_left nC
   obtain ⟨u,hu,hp⟩:=hI.new j oj hj AS e Rj he Yq
   have iq:j<m:=ZR fun h=>hI.hi j h AS
   have hne:e≠d:=pL j oj e hj iq nC he
   refine ⟨u,?_,Rj.st hp hk⟩
   simp only [Act.put,ZJ (Ne.symm hne)]
   exact hu
 ·obtain ⟨U,xg,qm,sA⟩:=hI.left
  have Ri:i∈U:=(qm i).2 ⟨by omega,hn⟩
  refine ⟨U.erase i,xg.erase i,fun j=>?_,by rw [ZaF Ri,sA];rfl⟩
  rw [xg.mem_erase_iff,qm j,cA gU]
  constructor
  ·rintro ⟨h1,h2,h3⟩
   exact ⟨h2,fun h=>h.elim h1 h3⟩
  ·rintro ⟨h1,h2⟩
   exact ⟨fun e=>h2 (.inl e),h1,fun h=>h2 (.inr h)⟩
def Eo (rl:eL) (a:Act) (w:World):Prop:=∀ d R,(d,R)∈rl→∃ v,a.tmps[d]? = some v∧R.p v w
theorem Qj (hc:Sp l m) (hp:sS P c hs l.toArray (l.take m) sl [] S js kJ) {a0:Act} (h0:bU sl a0) (JX:a0.tmps.size=c.nt)
  (tail:∀ a w,St c D js hs a w→Eo kJ a w→WL P r l.toArray Q (l.drop m) a w) :
  ∀ (fuel:Nat) (listed:Array Bool) (a:Act) (w:World),Inv1 c D hs l m S a0 fuel listed a w→wpAnyIn (FR r) 0 P .any l.toArray Q fuel listed a w:=by
 have rE:=hp.end_
 have dY:∀ (j:Nat) (o:Oper),j<m→l[j]? = some o→(l.take m)[j]? = some o:=fun j o hj ho=>by rw [ZG,if_pos hj];exact ho
 have fy:∀ (j:Nat) (o:Oper),(l.take m)[j]? = some o→j<m∧l[j]? = some o:=fun j o ho=>by
  rw [ZG] at ho
  split at ho
  ·exact ⟨by assumption,ho⟩
  ·cases ho
 have mH:∀ fuel listed a w,Inv1 c D hs l m S a0 fuel listed a w→(∀ i,i<m→Ls listed i)→wpAnyIn (FR r) 0 P .any l.toArray Q fuel listed a w:=by
  intro fuel listed a w hI dZ
  have hL:∀ i,i<l.length→(Ls listed i↔i<m):=fun i _=>⟨fun h=>ZR fun hm=>hI.hi i hm h,dZ i⟩
  obtain ⟨U,xg,qm,sA⟩:=hI.left
  have ig:U.Perm (List.range' m (l.length-m)):=by
   rw [Zaz xg (Zbz)]
   intro i
   rw [qm i,ZaM]
   constructor
   ·rintro ⟨h1,h2⟩
    exact ⟨ZaS fun h=>h2 (dZ i h),by omega⟩
   ·rintro ⟨h1,h2⟩
    exact ⟨by omega,hI.hi i h1⟩
  have hlen:fuel=l.length-m:=by rw [← sA,ig.length_eq,Zbv]
  refine Dx hc fuel m listed a w (Zz _) (by have:=hc.le;omega) hI.sz hL (tail a w ⟨hI.mem,?_,hI.size,hI.defers⟩ ?_)
  ·intro t v hv
   rcases rE.1 t v hv with ⟨j,oj,hj,iI,jN⟩ | ⟨qM,mS⟩
   ·obtain ⟨iq,mm⟩:=fy j oj hj
    obtain ⟨u,hu,nB⟩:=hI.new j oj mm (dZ j iq) t _ iI jN
    rw [hu,show u=v from nB]
   ·rw [hI.BH t fun j oj hj jK=>qM j oj (dY j oj (ZR fun hm=>hI.hi j hm jK) hj)]
    exact h0 t v mS
  ·intro d R hm
   rcases rE.2.1 d R hm with ⟨j,oj,hj,iI,jN⟩ | aA
   ·obtain ⟨iq,mm⟩:=fy j oj hj
    exact hI.new j oj mm (dZ j iq) d R iI jN
   ·cases aA
 intro fuel
 induction fuel with
 | zero =>
  intro listed a w hI
  obtain ⟨U,_,qm,sA⟩:=hI.left
  have hU:U=[]:=Zan.1 sA
  refine mH 0 listed a w hI fun i hi=>Classical.byContradiction fun hn=>?_
  have:=(qm i).2 ⟨by have:=hc.le;omega,hn⟩
  rw [hU] at this;cases this
 | succ fuel ih =>
  intro listed a w hI
  by_cases dZ:∀ i,i<m→Ls listed i
  ·exact mH _ listed a w hI dZ
  ·have hex:∃ i,i<m∧¬ Ls listed i:=Classical.byContradiction fun hh=>dZ fun i hi=>Classical.byContradiction fun hn=>hh ⟨i,hi,hn⟩
   obtain ⟨i0,wZ,pC⟩:=hex
   refine ⟨fun hr=>?_,fun i hi=>?_⟩
   ·obtain ⟨i,hi⟩:=jq hI.sz hc.ac ⟨i0,by have:=hc.le;omega,pC⟩
    rw [hr] at hi;cases hi
   ·have pf:i<m:=ZR fun hm=>pC (pX hc hI.sz hI.dc hi hm i0 (by omega))
    obtain ⟨o,ho,hn,lV⟩:=(dD hI.sz).1 hi
    obtain ⟨tZ,Ll,R,RF,fU,hs1,hs2⟩:=hp.at_ i o (dY i o pf ho)
    obtain ⟨d,R',hd,fJ,rF⟩:=rE.2.2 i o (dY i o pf ho)
    rw [RF] at rF;cases rF
    have kD:∀ (j:Nat),eY o j=true→Ls listed j:=fun j hw=>by
     obtain ⟨e,he,hb,nP⟩:=df hw
     rw [← nP];exact lV e he hb
    have Ca:∀ (j t:Nat) (oj:Oper),j<i→(l.take m)[j]? = some oj→oj.dst=some t→t∈o.looksAt l.toArray→Ls listed j:=by
     intro j t oj hj iS iI ht
     obtain ⟨iq,mm⟩:=fy j oj iS
     exact kD j ((dq (lS hc hj pf mm ho) iI hd).2 (.inl ht))
    have hT:∀ t∈o.looksAt l.toArray,∀ v,cS tZ t=some v→a.tmps[t]? = some v:=by
     intro t ht v hv
     rcases hs1 t v hv with ⟨j,oj,hj,iS,iI,jN⟩ | ⟨qM,mS⟩
     ·obtain ⟨u,hu,nB⟩:=hI.new j oj (fy j oj iS).2 (Ca j t oj hj iS iI ht) t _ iI jN
      rw [hu,show u=v from nB]
     ·rw [hI.BH t fun j oj hj jK iI=>?_]
      ·exact h0 t v mS
      ·have iq:j<m:=ZR fun hm=>hI.hi j hm jK
       rcases Zam j i with h | h | h
       ·exact qM j oj h (dY j oj iq hj) iI
       ·subst h;exact hn jK
       ·have hw:=(dq (lS hc h iq ho hj) hd iI).2 (.inr ht)
        obtain ⟨e,he,hb,nP⟩:=df hw
        have:=hI.dc j oj hj jK e he hb
        rw [nP] at this
        exact hn this
    have vC:∀ t v,cS tZ t=some v→t<c.nt:=by
     intro t v hv
     rcases hs1 t v hv with ⟨j,oj,_,iS,iI,_⟩ | ⟨_,mS⟩
     ·obtain ⟨d',_,wz,Ab,_⟩:=rE.2.2 j oj iS
      rw [iI] at wz;cases wz
      exact Ab
     ·have:=h0 t v mS
      rw [← JX]
      exact (ZY.1 this).1
    obtain ⟨a',lW,jD,_⟩:=oL hI.size vC hT
    have QU:AE (o.looksAt l.toArray) Ll a' w:=by
     intro t Rt hm ht
     rcases hs2 t Rt hm with ⟨j,oj,hj,iS,iI,jN⟩ | aA
     ·obtain ⟨v,hv,nB⟩:=hI.new j oj (fy j oj iS).2 (Ca j t oj hj iS iI ht) t _ iI jN
      exact ⟨v,by rw [jD t ht];exact hv,nB⟩
     ·cases aA
    have hq:=fU a' w lW QU hI.mem.lx
    have CO:nf o=true:=hc.op o (ZV ho)
    have hex:=iA (o:=o) (ops:=l.toArray) CO jD
    rw [gX jD] at hq
    have gO:∀ v w',aJ [] w w'→R.p v w'→wpAnyIn (FR r) 0 P .any l.toArray Q fuel (listed.setIfInBounds i true) (a.put o.dst v) w':=fun v w' hk hv=>
     ih _ _ _ (BX hc hc.le hI hi pf ho hd fJ RF (fun j oj hj iS=>let ⟨e,_,he,_⟩:=rE.2.2 j oj (dY j oj hj iS);⟨e,he⟩) hk hv)
    unfold wpOpIn
    rw [show l.toArray[i]? = some o from by simpa using ho]
    simp only []
    split
    ·rename_i hw
     rw [if_pos hw] at hq
     refine ⟨dN _ _ _ _ _,?_⟩
     rw [Oper.semAt_eq _ _ _ (fun cc he=>by simp [nf,he] at CO),← hex]
     unfold xu at hq
     revert hq
     generalize (execOp a'.eval o).run P w=res
     intro hq
     match res,hq with
     | .ok (.value v) w',⟨hk,hv⟩=>exact gO v w' hk hv
     | .ok (.enter f args) w', ⟨e, cz⟩ =>
      subst e
      refine ⟨by simp [FR,Fence.wide],(ij cz).mono fun e wG h=>?_⟩
      obtain ⟨v,rfl,hk,hv⟩:=h
      exact gO v wG hk hv
    ·rename_i hw
     rw [if_neg hw] at hq
     exact ⟨fun _ _=>trivial,gO undef w (.refl _ _) hq⟩
theorem y9 {id:Nat} (qi:P.follows .mixedOrders=true) (eQ:yg l m=true) (hp:sS P c hs l.toArray (l.take m) sl [] S js kJ)
  (tail:∀ a w,St c D js hs a w→Eo kJ a w→WL P r l.toArray Q (l.drop m) a w):Tr c D sl hs (WP P r (.region id l.toArray true) Q):=fun a w bh=>by
 unfold WP
 refine wpIn_region_any qi ?_
 refine Qj (uY eQ) hp bh.c5 bh.size tail l.toArray.size _ a _ ⟨by simp,?_,?_,?_,bh.defers,bh.size,fun t _=>rfl,?_,List.range l.length,Zbs,?_,by simp⟩
 ·exact fun k o _ hL=>absurd hL (eS _ _)
 ·exact fun k _ hL=>eS _ _ hL
 ·exact bh.mem.drew
 ·exact fun j o _ hL=>absurd hL (eS _ _)
 ·exact fun i=>⟨fun h=>⟨by simpa using h,eS _ _⟩,fun h=>by simpa using h.1⟩
end
end Go.SL
namespace Go.SL
open Go
def leq:Value→Value→Option Bool
 | .int k a,.int k' b=>if k=k' then some (decide (a=b)) else none
 | .string a,.string b=>some (decide (a=b))
 | .bool a,.bool b=>some (a==b)
 | _,_=>none
def wC:List Value→List Value→Option Bool
 | [],[]=>some true
 | x :: xs, y :: ys => match leq x y, wC xs ys with
  | some p,some q=>some (p&&q)
  | _,_=>none
 | _,_=>none
def IP:Option TypeDesc→Bool
 | some (.int _) | some .string | some .bool=>true
 | _=>false
section
variable {P:Program} {w:World}
theorem E3 {d:Nat} {t:TypeId} {x y:Value} {b:Bool} (hl:IP (P.underlying t)=true) (hk:∀ k,P.underlying t=some (.int k)→∃ a,x=.int k a) (hs:P.underlying t=some .string→∃ a,x=.string a) (hb:P.underlying t=some .bool→∃ a,x=.bool a)
  (h:leq x y=some b):(Op.equalIn (d+1) t x y).run P w=.ok b w:=by
 cases hu:P.underlying t with
 | none=>rw [hu] at hl;cases hl
 | some D =>
  rw [hu] at hl
  cases D with
  | int k =>
   obtain ⟨a,rfl⟩:=hk k hu
   cases y <;> simp only [leq] at h <;> try cases h
   rename_i k' b'
   split at h
   ·rename_i e;subst e;cases h
    rw [run_equalIn_int w d t k k a b' hu];congr 1
   ·cases h
  | string =>
   obtain ⟨a,rfl⟩:=hs hu
   cases y <;> simp only [leq,Option.some.injEq] at h <;> try cases h
   rw [run_equalIn_string w d t a _ hu,tY]
  | bool =>
   obtain ⟨a,rfl⟩:=hb hu
   cases y <;> simp only [leq,Option.some.injEq] at h <;> try cases h
   rw [run_equalIn_bool' w d t a _ hu]
  | _=>cases hl
end
def vj (D:Option TypeDesc) (x:Value):Bool:=
 match D,x with
 | some (.int k),.int k' _=>decide (k=k')
 | some .string,.string _=>true
 | some .bool,.bool _=>true
 | _,_=>false
def pN (P:Program) (g:TypeId→Option (List TypeId)) (acc:Option (List TypeId)) (f:Field):Option (List TypeId):=
 match acc,g f.type,P.info? f.type with
 | some a,some m,some i=>if f.offset=a.length∧f.name ≠ "_" ∧ i.size=m.length then some (a++m) else none
 | _,_,_=>none
theorem qq (P:Program) (g:TypeId→Option (List TypeId)):∀ (fl:List Field),fl.foldl (pN P g) none=none
 | []=>rfl
 | f::fl=>by simp only [List.foldl_cons,pN];exact qq P g fl
theorem yF (P:Program) (g:TypeId→Option (List TypeId)):∀ (fl:List Field) (A ts:List TypeId),fl.foldl (pN P g) (some A)=some ts→∃ rest,ts=A++rest
 | [],A,ts,h=>⟨[],by simpa using h.symm⟩
 | f :: fl, A, ts, h => by
  simp only [List.foldl_cons] at h
  cases hs:pN P g (some A) f with
  | none=>rw [hs,qq] at h;cases h
  | some B =>
   rw [hs] at h
   obtain ⟨r,hr⟩:=yF P g fl B ts h
   unfold pN at hs
   split at hs
   ·rename_i a m i e1 _ _
    cases e1
    split at hs
    ·cases hs;exact ⟨m++r,by rw [hr];simp⟩
    ·cases hs
   ·cases hs
theorem D3 {P:Program} {g:TypeId→Option (List TypeId)} {a B:List TypeId} {f:Field} (hs:pN P g (some a) f=some B) :
  ∃ m i,g f.type=some m∧P.info? f.type=some i∧f.offset=a.length∧f.name ≠ "_" ∧ i.size=m.length∧B=a++m:=by
 unfold pN at hs
 split at hs
 ·rename_i a' m i e1 e2 e3
  cases e1
  split at hs
  ·rename_i h;cases hs;exact ⟨m,i,e2,e3,h.1,h.2.1,h.2.2,rfl⟩
  ·cases hs
 ·cases hs
theorem Ak:∀ {xs ys:List Value} {b:Bool},wC xs ys=some b→xs.length=ys.length
 | [],[],_,_=>rfl
 | [],_::_,_,h=>by simp [wC] at h
 | _::_,[],_,h=>by simp [wC] at h
 | x :: xs, y :: ys, b, h => by
  simp only [wC] at h
  split at h
  ·rename_i p q hp hq;simp [Ak hq]
  ·cases h
def kN (P:Program):Nat→TypeId→Option (List TypeId)
 | 0,_=>none
 | d + 1, t =>
  match P.underlying t with
  | some (.int _) | some .string | some .bool=>some [t]
  | some (.struct fs) =>
   if P.stoodInHeld t then none else
   fs.toList.foldl (pN P (kN P d)) (some [])
  | some (.array n e) => match kN P d e, P.info? e with
   | some m,some i=>if i.size=m.length then some ((List.replicate n m).flatten) else none
   | _,_=>none
  | _=>none
def sh (P:Program):List TypeId→List Value→Bool
 | [],[]=>true
 | t::ts,x::xs=>vj (P.underlying t) x&&sh P ts xs
 | _,_=>false
section
variable {P:Program}
theorem ng:∀ {ts:List TypeId} {xs:List Value},sh P ts xs=true→xs.length=ts.length
 | [],[],_=>rfl
 | [],_::_,h=>by cases h
 | _::_,[],h=>by cases h
 | t :: ts, x :: xs, h => by
  simp only [sh,Zm] at h
  simp [ng h.2]
theorem nh:∀ {ts us:List TypeId} {xs:List Value},sh P (ts++us) xs=true→sh P ts (xs.take ts.length)=true∧sh P us (xs.drop ts.length)=true
 | [],us,xs,h=>by simpa [sh] using h
 | t::ts,us,[],h=>by simp [sh] at h
 | t :: ts, us, x :: xs, h => by
  simp only [Zb,sh,Zm] at h
  have:=nh h.2
  simp [sh,h.1,this]
theorem qw:∀ {n:Nat} {xs ys:List Value} {b:Bool},n≤xs.length→wC xs ys=some b→∃ p q,wC (xs.take n) (ys.take n)=some p∧wC (xs.drop n) (ys.drop n)=some q∧b=(p&&q)
 | 0,xs,ys,b,_,h=>⟨true,b,by simp [wC],by simpa using h,by simp⟩
 | n+1,[],ys,b,hn,h=>by simp at hn
 | n+1,x::xs,[],b,_,h=>by simp [wC] at h
 | n + 1, x :: xs, y :: ys, b, hn, h => by
  simp only [wC] at h
  split at h
  ·rename_i p q hp hq
   cases h
   obtain ⟨p',q',h1,h2,e⟩:=qw (n:=n) (by simpa using hn) hq
   exact ⟨p&&p',q',by simp [wC,hp,h1],by simpa using h2,by rw [e,Bool.and_assoc]⟩
  ·cases h
theorem tj {d:Nat} {t:TypeId} {m:List TypeId} (h:kN P d t=some m):∃ D,P.underlying t=some D∧(kq D=false→m.length=1):=by
 cases d with
 | zero=>cases h
 | succ d =>
  unfold kN at h
  cases hu:P.underlying t with
  | none=>rw [hu] at h;cases h
  | some D =>
   refine ⟨D,rfl,fun hD=>?_⟩
   rw [hu] at h
   cases D with
   | int k=>cases h;rfl
   | string=>cases h;rfl
   | bool=>cases h;rfl
   | struct fs=>cases hD
   | array n e=>cases hD
   | _=>cases h
theorem ug {t:TypeId} {D:TypeDesc} {i:TypeInfo} {n o:Nat} {zs:List Value} {w:World} (hu:P.underlying t=some D) (hi:P.info? t=some i) (hn:i.size=n) (h1:kq D=false→n=1) (hz:o+n≤zs.length) :
  ∃ v,(part t zs.toArray o).run P w=.ok v w∧(kq D=true→v=.agg ((zs.drop o).take n).toArray)∧(kq D=false→(zs.drop o).take n=[v]):=by
 have hag:(isAgg t).run P w=.ok (kq D) w:=by
  unfold isAgg;rw [Sem.run_bind,aV hu,Result.andThen_ok];cases D <;> rfl
 unfold part
 rw [Sem.run_bind,hag,Result.andThen_ok]
 cases hD:kq D with
 | true =>
  refine ⟨.agg (zs.toArray.extract o (o+n)),by simp [sizeOf,fE hi,hn],fun _=>?_,fun h=>by cases h⟩
  congr 1
  simp [List.extract_eq_take_drop]
 | false =>
  have e:=h1 hD
  subst e
  refine ⟨zs[o]'(by omega),by simp [show o<zs.length from by omega],fun h=>(by cases h),fun _=>?_⟩
  rw [Zw (by omega),List.take_succ_cons,Ze]
theorem DJ (d k:Nat):∀ (t:TypeId) (ts:List TypeId),kN P d t=some ts→∀ (xs ys:List Value) (b:Bool) (w:World),sh P ts xs=true→wC xs ys=some b →
  ∀ x y,(kq ((P.underlying t).getD .bool)=true→x=.agg xs.toArray∧y=.agg ys.toArray)→(kq ((P.underlying t).getD .bool)=false→xs=[x]∧ys=[y])→(Op.equalIn (d+k) t x y).run P w=.ok b w:=by
 induction d with
 | zero=>intro t ts h;cases h
 | succ d ih =>
  intro t ts h xs ys b w eJ heq x y h1 h2
  rw [show d+1+k=(d+k)+1 from by omega]
  have JZ:∀ (hl:IP (P.underlying t)=true) (TK:ts=[t]) (hna:kq ((P.underlying t).getD .bool)=false),(Op.equalIn (d+k+1) t x y).run P w=.ok b w:=by
   intro hl TK hna
   obtain ⟨rfl,rfl⟩:=h2 hna
   subst TK
   simp only [sh,Bool.and_true] at eJ
   have hq:leq x y=some b:=by
    simp only [wC] at heq
    split at heq
    ·rename_i p q hp wx;cases wx;cases heq;simpa using hp
    ·cases heq
   refine E3 hl (fun kk hu=>?_) (fun hu=>?_) (fun hu=>?_) hq <;> rw [hu] at eJ <;> cases x <;> simp_all [vj]
  unfold kN at h
  split at h
  ·rename_i kk hu;exact JZ (by rw [hu];rfl) (Option.some.inj h).symm (by rw [hu];rfl)
  ·rename_i hu;exact JZ (by rw [hu];rfl) (Option.some.inj h).symm (by rw [hu];rfl)
  ·rename_i hu;exact JZ (by rw [hu];rfl) (Option.some.inj h).symm (by rw [hu];rfl)
  ·rename_i fs hu
   split at h
   ·cases h
   ·rename_i bh
    obtain ⟨rfl,rfl⟩:=h1 (by rw [hu];rfl)
    have hf:P.fieldsOf t=fs:=by simp [Program.fieldsOf,hu]
    rw [run_equalIn_struct w (d+k) t _ _ (by rw [hf];exact hu) (by simpa using bh),hf]
    -- AJ fields,one after AJ other
    have key:∀ (fl:List Field) (acc:List TypeId),fl.foldl (pN P (kN P d)) (some acc)=some ts→∀ c,wC (xs.drop acc.length) (ys.drop acc.length)=some c→acc.length≤xs.length→(Op.eqFields (d+k) xs.toArray ys.toArray fl).run P w=.ok c w:=by
     intro fl
     induction fl with
     | nil =>
      intro acc ha c hc _
      simp only [List.foldl_nil,Option.some.injEq] at ha
      have hlen:=ng eJ
      rw [ha,← hlen,Z5] at hc
      have:c=true:=by
       cases hy:ys.drop xs.length with
       | nil=>rw [hy] at hc;simpa [wC] using hc.symm
       | cons=>rw [hy] at hc;simp [wC] at hc
      simp [Op.eqFields,this]
     | cons f fl ihf =>
      intro acc ha c hc hle
      simp only [List.foldl_cons] at ha
      cases hB:pN P (kN P d) (some acc) f with
      | none=>rw [hB,qq] at ha;cases ha
      | some B =>
       rw [hB] at ha
       obtain ⟨m,i,hm,hi,ho,hn,hsz,rfl⟩:=D3 hB
       -- ts=acc++m++..
       have kP:∃ rest,ts=acc++m++rest:=yF P _ fl _ _ ha
       obtain ⟨rest,TK⟩:=kP
       have hlen:=ng eJ
       have Xn:sh P m ((xs.drop acc.length).take m.length)=true:=by
        rw [TK,Zh] at eJ
        exact (nh (nh eJ).2).1
       have VK:acc.length+m.length≤xs.length:=by rw [hlen,TK];simp
       obtain ⟨p,q,hp,hq,rfl⟩:=qw (n:=m.length) (by simp;omega) hc
       have hly:acc.length+m.length≤ys.length:=by have:=Ak heq;omega
       obtain ⟨Df,Nn,gR⟩:=tj hm
       obtain ⟨vx,rx,ax,bx⟩:=ug (w:=w) Nn hi hsz gR VK
       obtain ⟨vy,ry,ay,YH⟩:=ug (w:=w) Nn hi hsz gR hly
       rw [← ho] at rx ry
       have hr:=ih f.type m hm _ _ p w Xn hp vx vy (by rw [Nn];exact fun hA=>⟨ax hA,ay hA⟩) (by rw [Nn];exact fun hA=>⟨bx hA,YH hA⟩)
       have TW:=ihf (acc++m) ha q (by simpa [Zbe] using hq) (by simp;omega)
       simp only [Op.eqFields,ne_eq,hn,not_false_eq_true,if_true,Sem.run_bind,rx,Result.andThen_ok,ry,hr]
       cases p
       ·simp
       ·simpa using TW
    exact key fs.toList [] h b (by simpa using heq) (by simp)
  ·rename_i n e hu
   split at h
   ·rename_i m i hm hi
    split at h
    ·rename_i hsz
     obtain ⟨rfl,rfl⟩:=h1 (by rw [hu];rfl)
     simp only [Option.some.injEq] at h
     subst h
     have hlen:=ng eJ
     have Xw:xs.length=ys.length:=Ak heq
     have hL:xs.length=n*m.length:=by rw [hlen];simp
     have WW:(sizeOf e).run P w=.ok m.length w:=by simp [sizeOf,fE hi,hsz]
     obtain ⟨De,Nn,gR⟩:=tj hm
     have XU:∀ (c j:Nat) (p:Bool),j+c=n→wC (xs.drop (j*m.length)) (ys.drop (j*m.length))=some p→sh P ((List.replicate c m).flatten) (xs.drop (j*m.length))=true →
       ((forIn (List.range' j c) ((none, ()) : Option Bool × Unit) fun i r => (do
        let a ← part e xs.toArray (i*m.length)
        let b ← part e ys.toArray (i*m.length)
        let r' ← Op.equalIn (d+k) e a b
        if (!r')=true then pure (ForInStep.done (some false,())) else pure (ForInStep.yield (none,()))):Sem (Option Bool×Unit)).run P w)=.ok (bif p then none else some false,()) w:=by
      intro c
      induction c with
      | zero =>
       intro j p hj hp _
       have hz:xs.drop (j*m.length)=[]:=by apply Zbc;rw [hL,show j=n from by omega];exact Zz _
       have IY:ys.drop (j*m.length)=[]:=by apply Zbc;rw [← Xw,hL,show j=n from by omega];exact Zz _
       rw [hz,IY] at hp
       simp only [wC,Option.some.injEq] at hp
       subst hp
       simp
      | succ c ihc =>
       intro j p hj hp T7
       have tw:j*m.length+m.length≤xs.length:=by
        rw [hL,← Zaf];exact Z7 _ (by omega)
       obtain ⟨vx,rx,ax,bx⟩:=ug (w:=w) Nn hi hsz gR tw
       obtain ⟨vy,ry,ay,YH⟩:=ug (w:=w) Nn hi hsz gR (show j*m.length+m.length≤ys.length by omega)
       obtain ⟨p1,p2,AM,Nv,rfl⟩:=qw (n:=m.length) (by simp;omega) hp
       rw [List.replicate_succ,ZaC] at T7
       have ho:=nh T7
       have hr:=ih e m hm _ _ p1 w ho.1 AM vx vy (by rw [Nn];exact fun hA=>⟨ax hA,ay hA⟩) (by rw [Nn];exact fun hA=>⟨bx hA,YH hA⟩)
       simp only [List.range'_succ,List.forIn_cons,Sem.run_bind,rx,ry,hr,Result.andThen_ok]
       cases p1
       ·simp
       ·have gO:=ihc (j+1) p2 (by omega) (by rw [Zaf,← Zbe,← Zbe];exact Nv) (by rw [Zaf,← Zbe];exact ho.2)
        simp only [Bool.not_true,ZaT,if_false,Sem.run_pure,Result.andThen_ok,ZaA]
        exact gO
     have hf:=XU n 0 b (by omega) (by simpa using heq) (by simpa using eJ)
     simp only [Op.equalIn,Sem.run_bind,aV hu,Result.andThen_ok,WW]
     rw [Std.Legacy.Range.forIn_eq_forIn_range']
     simp only [Std.Legacy.Range.size,Nat.sub_zero,Zas,Nat.div_one]
     rw [hf]
     cases b <;> simp
    ·cases h
   ·cases h
  ·cases h
class AG (P:Program) (t:TypeId) (ts:outParam (List TypeId)):Prop where
 eq:kN P 20 t=some ts
 agg:kq ((P.underlying t).getD .bool)=true
 guard:P.eqGuardType P.depth t=false
variable {c:Cx} {sl:aH} {hs:List bd} {dst:Option Tmp} {ty:TypeId} {pos:String} {af:Array Edge} {g:Option (Nat×Bool)}
theorem qZ {t:TypeId} {ts:List TypeId} [h:AG P t ts] {xs ys:List Value} {b:Bool} (eJ:sh P ts xs=true) (heq:wC xs ys=some b) (w:World):(Op.equalIn 10000 t (.agg xs.toArray) (.agg ys.toArray)).run P w=.ok b w:=
 DJ 20 9980 t ts h.eq xs ys b w eJ heq _ _ (fun _=>⟨rfl,rfl⟩) (fun hn=>by rw [h.agg] at hn;cases hn)
theorem ue {t u:TypeId} {ts:List TypeId} [h:AG P t ts] {x y:Operand} {xs ys:List Value} {b:Bool} (hx:Is sl x (.agg xs.toArray)) (hy:Is sl y (.agg ys.toArray)) (eJ:sh P ts xs=true) (heq:wC xs ys=some b) :
  cY P c sl hs ⟨dst,.binOp .eql t x y u,ty,pos,af,g⟩ (.bool b):=
 iP hx hy fun w=>by
  rw [Sem.run_bind,run_eqGuard_agg w _ _ _ _ _ _ h.guard,Result.andThen_ok,run_eql_struct,qZ eJ heq];rfl
theorem ud {t u:TypeId} {ts:List TypeId} [h:AG P t ts] {x y:Operand} {xs ys:List Value} {b:Bool} (hx:Is sl x (.agg xs.toArray)) (hy:Is sl y (.agg ys.toArray)) (eJ:sh P ts xs=true) (heq:wC xs ys=some b) :
  cY P c sl hs ⟨dst,.binOp .neq t x y u,ty,pos,af,g⟩ (.bool (!b)):=
 iP hx hy fun w=>by
  rw [Sem.run_bind,run_eqGuard_agg w _ _ _ _ _ _ h.guard,Result.andThen_ok,run_neq_struct,qZ eJ heq];rfl
theorem lT:sh P [] []=true:=rfl
theorem jZ {t:TypeId} {k:IntKind} {ts:List TypeId} {n:Int} {xs:List Value} [h:iV P t (.int k)] (hr:sh P ts xs=true):sh P (t::ts) (.int k n::xs)=true:=by
 simp [sh,vj,h.eq,hr]
theorem fj {t:TypeId} {ts:List TypeId} {s:ByteArray} {xs:List Value} [h:iV P t .string] (hr:sh P ts xs=true):sh P (t::ts) (.string s::xs)=true:=by
 simp [sh,vj,h.eq,hr]
theorem Iu {t:TypeId} {ts:List TypeId} {b:Bool} {xs:List Value} [h:iV P t .bool] (hr:sh P ts xs=true):sh P (t::ts) (.bool b::xs)=true:=by
 simp [sh,vj,h.eq,hr]
end
end Go.SL
namespace Go.SL
open Go
def ev (sl:aH):Operand→Option Value
 | .tmp t=>cS sl t
 | .const v=>some v
 | .global g=>some (.pointer (some ⟨g,0,none⟩))
 | .func f=>some (.func (.func f) #[] #[])
theorem Is.of {sl:aH} {x:Operand} {v:Value} (h:ev sl x=some v):Is sl x v:=fun a ha=>by
 cases x with
 | tmp t=>exact ha.eval h
 | const u=>exact Option.some.inj h
 | global g=>exact Option.some.inj h
 | func f=>exact Option.some.inj h
theorem Is.bI {sl:aH} {x:Operand} {c:Bool} {v:Value} (hc:c=true) (h:ev sl x=some (SL.gv c v)):Is sl x v:=(uu hc (v:=v)) ▸ Is.of h
class Sl (P:Program):Prop where
 eq:P.follows .mixedOrders=true
section
variable {P:Program} {r:Option Nat} {c:Cx} {D:List Nat} {sl:aH} {rl:eL} {hs hs':List bd} {Q:Exit→Act→World→Prop} {ops:Array Oper} {m d:Nat} {dst:Option Tmp} {op:Op} {ty:TypeId} {pos:String} {af:Array Edge} {g:Option (Nat×Bool)} {rest:List Oper}
def kV (P:Program) (r:Option Nat) (c:Cx) (D:List Nat) (hs:List bd) (ops:Array Oper) (Q:Exit→Act→World→Prop) (m:Nat) (l:List Oper) (sl:aH) (rl:eL):Prop:=
 ∃ S js kJ,sS P c hs ops (l.take m) sl rl S js kJ∧∀ a w,St c D js hs a w→Eo kJ a w→WL P r ops Q (l.drop m) a w
theorem dE {id:Nat} {l:List Oper} (m:Nat) [qi:Sl P] (eQ:yg l m=true) (k:kV P r c D hs l.toArray Q m l sl []):Tr c D sl hs (WP P r (.region id l.toArray true) Q):=by
 obtain ⟨S,js,kJ,hp,ht⟩:=k
 exact y9 qi.eq eQ hp ht
theorem dI {l:List Oper} (k:Tr c D sl hs (WL P r ops Q l)):kV P r c D hs ops Q 0 l sl rl:=
 ⟨[],sl,rl,.nil,fun a w bh _=>k a w bh⟩
theorem px {o:Oper} {V:Value} (ho:o.dst=some d) (hd:Nat.blt d c.nt=true) (h:tF P c hs ops sl rl o (.val V)) (k:kV P r c D hs ops Q m rest ((d,V)::sl) rl):kV P r c D hs ops Q (m+1) (o::rest) sl rl:=by
 obtain ⟨S,js,kJ,hp,ht⟩:=k
 exact ⟨_,_,_,.val ho (by simpa [Z2] using hd) h hp,ht⟩
theorem nX {o:Oper} {R:Rel} (hg:o.guard=none) (h:∀ a w,bU sl a→AE (o.looksAt ops) rl a w→Mem c hs w→xu P o a w R):tF P c hs ops sl rl o R:=fun a w h1 h2 h3=>by
 rw [if_pos (by simp [Region.wanted,hg])]
 exact h a w h1 h2 h3
theorem re {o:Oper} {V:Value} (hr:cY P c sl hs o V) {a:Act} {w:World} (h1:bU sl a) (h3:Mem c hs w):xu P o a w (.val V):=by
 unfold xu
 rw [hr.2 a w h1 h3]
 exact ⟨.refl _ _,rfl⟩
theorem sf {o:Oper} {f:FuncId} {args:List Value} {V:Value} (hr:lJ P sl o f args) {a:Act} {w:World} (h1:bU sl a) (hc:aj P f args w V):xu P o a w (.val V):=by
 unfold xu
 rw [hr.2 a w h1]
 exact ⟨rfl,hc.mono fun e w' ⟨he,hk⟩=>⟨V,he,hk,rfl⟩⟩
theorem aF {V:Value} (hr:cY P c sl hs ⟨some d,op,ty,pos,af,none⟩ V) (hd:Nat.blt d c.nt=true) (k:kV P r c D hs ops Q m rest ((d,V)::sl) rl) :
  kV P r c D hs ops Q (m+1) (⟨some d,op,ty,pos,af,none⟩::rest) sl rl:=
 px rfl hd (nX rfl fun _ _ h1 _ h3=>re hr h1 h3) k
theorem fI {f:FuncId} {args:List Value} {V:Value} (hr:lJ P sl ⟨some d,op,ty,pos,af,none⟩ f args) (hd:Nat.blt d c.nt=true) (hc:∀ w,Mem c hs w→aj P f args w V) (k:kV P r c D hs ops Q m rest ((d,V)::sl) rl) :
  kV P r c D hs ops Q (m+1) (⟨some d,op,ty,pos,af,none⟩::rest) sl rl:=
 px rfl hd (nX rfl fun _ w h1 _ h3=>sf hr h1 (hc w h3)) k
theorem nY {o:Oper} {V:Value} {j gs:Nat} {want c0 q:Bool} (hg:o.guard=some (j,want)) (hj:((ops[j]?).bind (·.dst))=some gs) (hq:cS sl gs=some (gv c0 (.bool q)))
  (h:(c0&&(q==want))=true→∀ a w,bU sl a→Mem c hs w→xu P o a w (.val V)):tF P c hs ops sl rl o (.val (gv (c0&&(q==want)) V)):=fun a w h1 _ h3=>by
 rw [kW hg hj h1 hq]
 by_cases hc:(c0&&(q==want))=true
 ·rw [if_pos hc,uu hc]
  exact h hc a w h1 h3
 ·rw [if_neg hc,vK (by simpa using hc)]
  rfl
theorem CE {V:Value} {j gs:Nat} {want c0 q:Bool} (hj:((ops[j]?).bind (·.dst))=some gs) (hq:cS sl gs=some (gv c0 (.bool q)))
  (hr:(c0&&(q==want))=true→cY P c sl hs ⟨some d,op,ty,pos,af,some (j,want)⟩ V) (hd:Nat.blt d c.nt=true) (k:kV P r c D hs ops Q m rest ((d,gv (c0&&(q==want)) V)::sl) rl) :
  kV P r c D hs ops Q (m+1) (⟨some d,op,ty,pos,af,some (j,want)⟩::rest) sl rl:=
 px rfl hd (nY rfl hj hq fun hc _ _ h1 h3=>re (hr hc) h1 h3) k
theorem GX {V:Value} {j gs:Nat} {want q:Bool} (hj:((ops[j]?).bind (·.dst))=some gs) (hq:cS sl gs=some (.bool q))
  (hr:(q==want)=true→cY P c sl hs ⟨some d,op,ty,pos,af,some (j,want)⟩ V) (hd:Nat.blt d c.nt=true) (k:kV P r c D hs ops Q m rest ((d,gv (q==want) V)::sl) rl) :
  kV P r c D hs ops Q (m+1) (⟨some d,op,ty,pos,af,some (j,want)⟩::rest) sl rl:=
 CE (c0:=true) hj (by rw [hq];rfl) (by simpa using hr) hd (by simpa using k)
theorem sQ {f:FuncId} {args:List Value} {V:Value} {j gs:Nat} {want c0 q:Bool} (hj:((ops[j]?).bind (·.dst))=some gs) (hq:cS sl gs=some (gv c0 (.bool q)))
  (hr:(c0&&(q==want))=true→lJ P sl ⟨some d,op,ty,pos,af,some (j,want)⟩ f args) (hd:Nat.blt d c.nt=true) (hc:(c0&&(q==want))=true→∀ w,Mem c hs w→aj P f args w V) (k:kV P r c D hs ops Q m rest ((d,gv (c0&&(q==want)) V)::sl) rl) :
  kV P r c D hs ops Q (m+1) (⟨some d,op,ty,pos,af,some (j,want)⟩::rest) sl rl:=
 px rfl hd (nY rfl hj hq fun h _ w h1 h3=>sf (hr h) h1 (hc h w h3)) k
theorem qF {f:FuncId} {args:List Value} {V:Value} {j gs:Nat} {want q:Bool} (hj:((ops[j]?).bind (·.dst))=some gs) (hq:cS sl gs=some (.bool q))
  (hr:(q==want)=true→lJ P sl ⟨some d,op,ty,pos,af,some (j,want)⟩ f args) (hd:Nat.blt d c.nt=true) (hc:(q==want)=true→∀ w,Mem c hs w→aj P f args w V) (k:kV P r c D hs ops Q m rest ((d,gv (q==want) V)::sl) rl) :
  kV P r c D hs ops Q (m+1) (⟨some d,op,ty,pos,af,some (j,want)⟩::rest) sl rl:=
 sQ (c0:=true) hj (by rw [hq];rfl) (by simpa using hr) hd (by simpa using hc) (by simpa using k)
theorem F4 {f:FuncId} {args:List Value} {V:Value} {j gs:Nat} {want c0 q:Bool} (hj:((ops[j]?).bind (·.dst))=some gs) (hq:cS sl gs=some (gv c0 (.bool q)))
  (hr:(c0&&(q==want))=true→lJ P sl ⟨some d,op,ty,pos,af,some (j,want)⟩ f args) (hd:Nat.blt d c.nt=true) (hc:(c0&&(q==want))=true→∀ w,Mem c hs w→aj P f args w V)
  (k:Tr c D ((d,gv (c0&&(q==want)) V)::sl) hs (WL P r ops Q rest)):Tr c D sl hs (WL P r ops Q (⟨some d,op,ty,pos,af,some (j,want)⟩::rest)):=fun a w bh=>by
 unfold WL
 rw [kW rfl hj bh.c5 hq]
 by_cases h:(c0&&(q==want))=true
 ·rw [if_pos h]
  rw [uu h] at k
  refine ⟨dN _ _ _ _ _,?_⟩
  rw [Oper.semAt_eq _ _ _ (hr h).1,(hr h).2 a w bh.c5]
  exact ⟨by simp [FR,Fence.wide],(ij (hc h w bh.rn)).mono fun e w' ⟨he,hk⟩=>by
   subst he
   exact k _ _ ((bh.put (by simpa [Z2] using hd) V).heap (bh.mem.rr hk))⟩
 ·rw [if_neg h]
  rw [vK (by simpa using h)] at k
  exact k _ _ (bh.put (by simpa [Z2] using hd) undef)
theorem dW {f:FuncId} {args:List Value} {V:Value} {j gs:Nat} {want q:Bool} (hj:((ops[j]?).bind (·.dst))=some gs) (hq:cS sl gs=some (.bool q))
  (hr:(q==want)=true→lJ P sl ⟨some d,op,ty,pos,af,some (j,want)⟩ f args) (hd:Nat.blt d c.nt=true) (hc:(q==want)=true→∀ w,Mem c hs w→aj P f args w V)
  (k:Tr c D ((d,gv (q==want) V)::sl) hs (WL P r ops Q rest)):Tr c D sl hs (WL P r ops Q (⟨some d,op,ty,pos,af,some (j,want)⟩::rest)):=
 F4 (c0:=true) hj (by rw [hq];rfl) (by simpa using hr) hd (by simpa using hc) (by simpa using k)
def Dr (V:Nat→Value) (ob:Obj):Rel:=⟨fun v w=>∃ b,v=V b∧w.heap[b]? = some ob,fun ⟨b,e,h⟩ hk=>⟨b,e,by rw [hk.block b (j8 h) (by simp)];exact h⟩⟩
theorem Bt {fn:Func} {t:Tmp} (h:fn.results=#[.tmp t]) {sl:aH} {v:Value} (hv:cS sl t=some v) {a:Act} (ha:bU sl a) (w:World):(results fn a.tmps).run P w=.ok v w:=by
 have:=ha t v hv
 simp [results,h,Zy,this]
theorem Br {fn:Func} {t u:Tmp} (h:fn.results=#[.tmp t,.tmp u]) {sl:aH} {v x:Value} (hv:cS sl t=some v) (hx:cS sl u=some x) {a:Act} (ha:bU sl a) (w:World):(results fn a.tmps).run P w=.ok (.tuple #[v,x]) w:=by
 have h1:=ha t v hv
 have h2:=ha u x hx
 simp [results,h,Zy,h1,h2]
theorem Bu {fn:Func} (h:fn.results=#[]) {a:Act} (w:World):(results fn a.tmps).run P w=.ok (.tuple #[]) w:=by
 simp [results,h]
def Ends (P:Program) (fn:Func) (c:Cx) (sl:aH) (hs:List bd) (v:Value):Prop:=∀ a w,bU sl a→Mem c hs w→(results fn a.tmps).run P w=.ok v w
theorem dH {fn:Func} {t:Tmp} {v:Value} (h:fn.results=#[.tmp t]) (hv:cS sl t=some v):Ends P fn c sl hs v:=fun _ w ha _=>Bt h hv ha w
theorem fV {fn:Func} {t u:Tmp} {v x:Value} (h:fn.results=#[.tmp t,.tmp u]) (hv:cS sl t=some v) (hx:cS sl u=some x):Ends P fn c sl hs (.tuple #[v,x]):=fun _ w ha _=>Br h hv hx ha w
theorem pO {fn:Func} (h:fn.results=#[]):Ends P fn c sl hs (.tuple #[]):=fun _ w _ _=>Bu h w
theorem RU {fn:Func} {t:Tmp} {T:TypeId} {b o n:Nat} {v:Value} [Ty P T false n] (h:fn.results=#[.cell t T]) (hp:cS sl t=some (.pointer (some ⟨b,o,none⟩))) (hv:At c hs b o v):Ends P fn c sl hs v:=fun a w ha hm=>by
 have h1:=ha t _ hp
 simp [results,h,Zy,h1,asAddr,sX (hv w hm)]
theorem NV {fn:Func} {t:Tmp} {T:TypeId} {b o n:Nat} {vs:List Value} [Ty P T true n] (h:fn.results=#[.cell t T]) (hp:cS sl t=some (.pointer (some ⟨b,o,none⟩))) (hv:ew c hs b o vs) (hl:vs.length=n):Ends P fn c sl hs (.agg vs.toArray):=fun a w ha hm=>by
 have h1:=ha t _ hp
 simp [results,h,Zy,h1,asAddr,oh hl (fun j v h=>hv.get j v h w hm)]
def PF (P:Program) (c:Cx) (hs:List bd) (T:TypeId) (b o:Nat) (v:Value):Prop:=∀ w,Mem c hs w→(loadVar T ⟨b,o,none⟩).run P w=.ok v w
theorem IG {T:TypeId} {b o n:Nat} {vs:List Value} [Ty P T true n] (hv:ew c hs b o vs) (hl:vs.length=n):PF P c hs T b o (.agg vs.toArray):=fun w hm=>oh hl (fun j v h=>hv.get j v h w hm)
inductive RV (P:Program) (c:Cx) (sl:aH) (hs:List bd):ResultVar→Value→Prop
 | tmp {t:Tmp} {v:Value} (h:cS sl t=some v):RV P c sl hs (.tmp t) v
 | cell {t:Tmp} {T:TypeId} {b o:Nat} {v:Value} (h:cS sl t=some (.pointer (some ⟨b,o,none⟩))) (hl:PF P c hs T b o v):RV P c sl hs (.cell t T) v
inductive G6 (P:Program) (c:Cx) (sl:aH) (hs:List bd):List ResultVar→List Value→Prop
 | nil:G6 P c sl hs [] []
 | cons {x:ResultVar} {xs:List ResultVar} {v:Value} {vs:List Value} (h:RV P c sl hs x v) (t:G6 P c sl hs xs vs):G6 P c sl hs (x::xs) (v::vs)
def Bm (tmps:Array Value):ResultVar→Sem Value
 | .tmp t=>pure (tmps.getD t undef)
 | .cell a t=>do loadVar t (← asAddr (tmps.getD a undef))
theorem Mu {xs:List ResultVar} {vs:List Value} (h:G6 P c sl hs xs vs) {a:Act} {w:World} (ha:bU sl a) (hm:Mem c hs w):(xs.mapM (Bm a.tmps)).run P w=.ok vs w:=by
 induction h with
 | nil=>simp
 | cons h _ ih =>
  cases h with
  | tmp h=>simp [Bm,Zy,ha _ _ h,ih]
  | cell h hl=>simp [Bm,Zy,ha _ _ h,asAddr,hl w hm,ih]
theorem Pn {fn:Func} {xs:List ResultVar} {vs:List Value} (hx:fn.results=xs.toArray) (h:G6 P c sl hs xs vs) (hl:vs.length≠1):Ends P fn c sl hs (.tuple vs.toArray):=fun a w ha hm=>by
 have:=Mu h ha hm
 have h2:(Array.mapM (Bm a.tmps) xs.toArray).run P w=.ok vs.toArray w:=by
  rw [List.mapM_toArray]
  simp [this]
 unfold results
 rw [hx]
 change Sem.run P (Array.mapM (Bm a.tmps) xs.toArray >>= fun vs=>pure (if h:vs.size=1 then vs[0] else Value.tuple vs)) w=_
 rw [Sem.run_bind,h2,Result.andThen_ok,Sem.run_pure]
 rw [dif_neg (by simpa using hl)]
theorem LY {fn:Func} {v:Value} (Gz:c.md=[]) (he:Ends P fn c sl hs v) :
  Tr c [] sl hs (bodyPostM (FR r) 0 P fn (fun e w'=>e=.returned v∧aJ [] c.w0 w') .ret):=fun a w bh=>by
 have hm:=bh.rn
 show LeavesInM (FR r) 0 P fn a.tmps _ a.defers .returning w
 rw [bh.defers]
 exact ⟨v,he a w bh.c5 hm,rfl,by rw [← Gz];exact hm.keeps⟩
theorem oW {fn:Func} {v v':Value} (Gz:c.md=[]) (he:Ends P fn c sl hs v') (hv:v'=v) :
  Tr c [] sl hs (bodyPostM (FR r) 0 P fn (fun e w'=>e=.returned v∧aJ [] c.w0 w') .ret):=hv ▸ LY Gz he
theorem rq {fn:Func} {v:Value} {R:Ending→World→Prop}:∀ (D:List Nat) (w:World) (a:Act),a.defers=D.map mark→bU sl a→Mem c (hs++mE D) w→Ends P fn c sl hs v →
  (∀ w',Mem c hs w'→R (.returned v) w')→LeavesInM (FR r) 0 P fn a.tmps R (D.map mark) .returning w
 | [],w,a,_,ha,hm,he,hR=>⟨v,he a w ha (by simpa [mE] using hm),hR w (by simpa [mE] using hm)⟩
 | b :: D, w, a, _, ha, hm, he, hR => by
  have dY:Take (hs++mE (b::D)) (bH b (.deferred (some []))) (hs++mE D):=by
   clear hm he hR
   induction hs with
   | nil=>exact .here
   | cons A hs ih=>exact .there ih
  have ml:=hm.take dY
  have hb:w.heap[b]? = some (.deferred (some [])):=ml.bH .here
  refine ⟨by simp,.inl ⟨b,w.putObj b (.deferred none),rfl,run_takeDeferred hb,?_⟩⟩
  have hk:aJ [b] w (w.putObj b (.deferred none)):=⟨rfl,rfl,rfl,Zz _,by simp,fun k _ hn=>World.putObj_heap_other (by simpa using hn)⟩
  have VI:Mem c (hs++mE D) (w.putObj b (.deferred none)):=(Mem.store ml hk (World.putObj_heap_same (j8 (w:=w) hb))).vN
  exact rq D _ { a with defers:=D.map mark } rfl ha VI he hR
theorem aO {fn:Func} {v:Value} {R:Ending→World→Prop} (he:Ends P fn c sl hs v) (hR:∀ w',Mem c hs w'→R (.returned v) w') :
  Tr c D sl hs (bodyPostM (FR r) 0 P fn R .ret):=fun a w bh=>by
 show LeavesInM (FR r) 0 P fn a.tmps R a.defers .returning w
 rw [bh.defers]
 exact rq D w a bh.defers bh.c5 bh.mem he hR
theorem aP {fn:Func} {v:Value} {R:Ending→World→Prop} (he:Ends P fn c sl hs v) (hR:∀ w',Mem c hs w'→R (.returned v) w') :
  Tr c D sl hs (bodyPostM (FR r) 0 P fn R .normal):=aO (r:=r) he hR
theorem ah {f:FuncId} {fn:Func} {code:Code} {args:List Value} {w:World} {V:Value} (hf:P.funcs[f]? = some fn) (hb:fn.body=some code) (hl:Nat.ble args.length fn.ntmps=true)
  (h:Tr ⟨w,[],fn.ntmps⟩ [] (jI 0 args) [] (WP P none code (bodyPostM (FR none) 0 P fn (fun e w'=>e=.returned V∧aJ [] w w')))):aj P f args w V:=
 oQ (hs0:=[]) hf hb (by simpa using hl) ⟨[],Zaj,rfl,fun _ h=>by cases h⟩ h
theorem aS {f:FuncId} {fn:Func} {code:Code} {args:List Value} {w:World} {ι:Type} {Φ:ι→Prop} {val:ι→Value} {own:ι→List bd} (hf:P.funcs[f]? = some fn) (hb:fn.body=some code) (hl:Nat.ble args.length fn.ntmps=true)
  (h:Tr ⟨w,[],fn.ntmps⟩ [] (jI 0 args) [] (WP P none code (bodyPostM (FR none) 0 P fn (fun e w'=>∃ x,e=.returned (val x)∧Φ x∧aJ [] w w'∧∃ fp:List Nat,fp.Nodup∧ct (hp w') (own x) fp∧∀ b∈fp,b∈([]:List Nat)∨w.heap.size≤b)))) :
  bu P f args w [] Φ val own:=
 oQ (hs0:=[]) hf hb (by simpa using hl) ⟨[],Zaj,rfl,fun _ h=>by cases h⟩ h
theorem eb {f:FuncId} {fn:Func} {code:Code} {args:List Value} {w:World} {sC:List Nat} {As:List bd} {ι:Type} {Φ:ι→Prop} {val:ι→Value} {own:ι→List bd} (hf:P.funcs[f]? = some fn) (hb:fn.body=some code) (hl:Nat.ble args.length fn.ntmps=true)
  (hn:sC.Nodup) (hs0:ct (hp w) As sC)
  (h:Tr ⟨w,sC,fn.ntmps⟩ [] (jI 0 args) As (WP P none code (bodyPostM (FR none) 0 P fn (fun e w'=>∃ x,e=.returned (val x)∧Φ x∧aJ sC w w'∧∃ fp:List Nat,fp.Nodup∧ct (hp w') (own x) fp∧∀ b∈fp,b∈sC∨w.heap.size≤b)))) :
  bu P f args w sC Φ val own:=
 oQ hf hb (by simpa using hl) ⟨sC,hn,hs0,fun _ h=>h⟩ h
theorem aG {ι:Type} {Φ:ι→Prop} {val:ι→Value} {own:ι→List bd} (x:ι) (hx:Φ x) {As:List bd} (ht:bD hs (own x) As) {w':World} (hm:Mem c hs w') {v:Value} (hv:v=val x) :
  ∃ x,Ending.returned v=.returned (val x)∧Φ x∧aJ c.md c.w0 w'∧∃ fp:List Nat,fp.Nodup∧ct (hp w') (own x) fp∧∀ b∈fp,b∈c.md∨c.w0.heap.size≤b:=by
 have h2:=(hm.jo ht).lx
 obtain ⟨k,fp,hn,iz,hb⟩:=h2
 exact ⟨x,by rw [hv],hx,k,fp,hn,iz,fun b dz=>(hb b dz).symm⟩
end
end Go.SL
