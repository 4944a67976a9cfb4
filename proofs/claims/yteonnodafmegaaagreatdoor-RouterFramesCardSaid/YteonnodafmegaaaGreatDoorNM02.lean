/- Parts of the proof: P5h P5i P5j P5k P5l P5m P5n P5o GkMem GkAny GkReg GkEq GkPlan. -/
import Derived.Test.YteonnodafmegaaaGreatDoorNM01
import Derived.Laws.StructEq
set_option linter.unusedSectionVars false
set_option linter.unusedVariables false
set_option linter.unusedSimpArgs false
namespace Go.Proofs.A1
open Go Go.SL
def Ti.zero:Ti:=⟨⟨#[]⟩,0,0⟩
def iG (r:Ro) (i:Nat):Ti:=r.ti.getD i Ti.zero
def gM (r:Ro) (i:Nat):ByteArray:=(iG r i).nm
theorem qH {r:Ro} {i:Nat} (h:i<r.ti.length):(cU r)[i]'(by unfold cU;rw [Zd];exact h)=gM r i:=by
 unfold cU gM iG
 rw [Z1,Zk,Zc h];rfl
theorem tI {r:Ro} {i:Nat} (h:i<r.ti.length):gM r i∈cU r:=by rw [← qH h];exact Zj _
theorem Ex {r:Ro} (hd:(cU r).Nodup) {i j:Nat} (hi:i<r.ti.length) (hj:j<r.ti.length) (h:gM r i=gM r j):i=j:=by
 have hl:(cU r).length=r.ti.length:=by unfold cU;rw [Zd]
 rw [← qH hi,← qH hj] at h
 rcases Zak i j with aK | he | aK
 ·exact absurd h (Z5.1 hd i j (by omega) (by omega) aK)
 ·exact he
 ·exact absurd h.symm (Z5.1 hd j i (by omega) (by omega) aK)
theorem Ff {r:Ro} (hd:(cU r).Nodup) {i:Nat} (hi:i<r.ti.length):bE (cU r) (gM r i)=(i:Nat):=by
 have hl:(cU r).length=r.ti.length:=by unfold cU;rw [Zd]
 refine qp (by omega) (qH hi) fun j hj e=>?_
 rw [qH (by omega)] at e
 have:=Ex hd (by omega) hi e
 omega
theorem M6 {r:Ro} (hn:pP r) (hd:(cU r).Nodup) {i:Nat} (hi:i<r.ti.length):kq r (gM r i)=(iG r i).fr:=by
 have h1:¬ 0≤bE (cy r) (gM r i):=fun h=>by
  have:gM r i∈cy r:=Classical.byContradiction fun hq=>by have:=cm.2 hq;omega
  exact hn.dt _ this (tI hi)
 unfold kq
 rw [if_neg h1,Ff hd hi,if_pos (by omega),ZG];rfl
theorem E4 {r:Ro} (hn:pP r) (hd:(cU r).Nodup) {i:Nat} (hi:i<r.ti.length):jZ r (gM r i)=(iG r i).to:=by
 have h1:¬ 0≤bE (cC r) (gM r i):=fun h=>by
  have:gM r i∈cC r:=Classical.byContradiction fun hq=>by have:=cm.2 hq;omega
  exact hn.st _ this (tI hi)
 unfold jZ
 rw [if_neg h1,Ff hd hi,if_pos (by omega),ZG];rfl
def fw (r:Ro) (po:List Po) (v:Int) (s:ByteArray):Wn:=⟨r.ti.length,fun i=>jq po v (gM r i)&&decide (rB po v (cC r) (gM r i)=s),fun i=>!jq po v (gM r i),fun i=>(iG r i).fr,fun i=>(iG r i).to,jZ r s⟩
def lA (r:Ro) (v:Int):List Po→ByteArray→List Nat→List Po×ByteArray
 | po,x,[]=>(po,x)
 | po,x,i::p=>lA r v (if jq po v (gM r i) then po else iM r ⟨v,gM r i,x⟩ po) (gM r i) p
def lB (r:Ro) (po:List Po) (v:Int) (s:ByteArray) (p:List Nat) (d:ByteArray):List Po:=iM r ⟨v,d,(lA r v po s p).2⟩ (lA r v po s p).1
theorem CT {r:Ro} {po:List Po} {v:Int} {s:ByteArray} (hn:pP r) (hd:(cU r).Nodup) (hv:0≤v∧v<r.lv) (qE:iZ r po):∀ (q u:List Nat) (oZ:List Po) (x:ByteArray),(fw r po v s).ok (u++q)→qC r oZ v x→(x∈cC r∨x∈cU r)→jZ r x=(fw r po v s).fin u→iz oZ v 7 x=s→(∀ i,i<r.ti.length→i ∉ u→jq oZ v (gM r i)=jq po v (gM r i))→(u=[]→oZ=po) →
  qC r (lA r v oZ x q).1 v (lA r v oZ x q).2∧((lA r v oZ x q).2∈cC r∨(lA r v oZ x q).2∈cU r)∧jZ r (lA r v oZ x q).2=(fw r po v s).fin (u++q)∧iz (lA r v oZ x q).1 v 7 (lA r v oZ x q).2=s ∧
  (∀ w y,y∈cy r→ez (lA r v oZ x q).1 w y=ez oZ w y)∧(∀ w y S,y∈cy r→rB (lA r v oZ x q).1 w S y=rB oZ w S y)
 | [], u, oZ, x, _, h1, h2, h3, h4, _, _ => by
  rw [ZU]
  exact ⟨h1,h2,h3,h4,fun _ _ _=>rfl,fun _ _ _ _=>rfl⟩
 | i :: q, u, oZ, x, eG, h1, h2, h3, h4, h5, h6 => by
  have e:u++i::q=(u++[i])++q:=by simp
  rw [e] at eG ⊢
  have bb:=(Wn.kI.1 (Wn.zt eG (Zbe (u++[i]) q))).2
  have hi:i<r.ti.length:=Wn.oW bb
  have hiu:i ∉ u:=Wn.uA bb
  have iv:=tI hi
  have hbs:=h5 i hi hiu
  unfold Wn.step at bb
  simp only [Zm,ZP,decide_eq_true_eq] at bb
  obtain ⟨_,_,Gy⟩:=bb
  rw [lA]
  by_cases hb:jq oZ v (gM r i)=true
  ·rw [if_pos hb]
   rw [hbs] at hb
   rcases Gy with ⟨hu,AK⟩ | ⟨Ww,_⟩
   ·have hu:u=[]:=List.isEmpty_iff.1 hu
    have hpp:=h6 hu
    subst hpp
    have AK:(jq oZ v (gM r i)&&decide (rB oZ v (cC r) (gM r i)=s))=true:=AK
    rw [Zm,decide_eq_true_eq] at AK
    refine CT hn hd hv qE q (u++[i]) oZ (gM r i) eG (qE.TU fun _=>hb) (.inr iv) ?_ ?_ (fun j hj Ya=>rfl) (fun h=>by simp at h)
    ·rw [E4 hn hd hi,Wn.mB];rfl
    ·rw [← yt hn qE (show (ez oZ v (gM r i)).isSome=true from hb)]
     exact AK.2
   ·have Ww:(!jq po v (gM r i))=true:=Ww
    rw [hb] at Ww;cases Ww
  ·rw [if_neg hb]
   have eP:ez oZ v (gM r i)=none:=by
    unfold jq at hb
    cases hq:ez oZ v (gM r i) with
    | none=>rfl
    | some z=>rw [hq] at hb;exact absurd rfl hb
   have hm:kq r (gM r i)=jZ r x:=by
    rcases Gy with ⟨_,AK⟩ | ⟨_,hf⟩
    ·have AK:(jq po v (gM r i)&&decide (rB po v (cC r) (gM r i)=s))=true:=AK
     rw [Zm,← hbs] at AK
     exact absurd AK.1 hb
    ·rw [M6 hn hd hi,h3];exact hf
   have hs:=oA (p:=⟨v,gM r i,x⟩) h1.qK h1.out (.inr iv) eP
   have oC:=ri (p:=⟨v,gM r i,x⟩) (iZ.one hs) (iZ.one h1.qK)
   obtain ⟨g1,g2,g3,g4,g5,g6⟩:=CT hn hd hv qE q (u++[i]) (iM r ⟨v,gM r i,x⟩ oZ) (gM r i) eG (h1.add hn hv h2 (.inr iv) eP hm) (.inr iv) (by rw [E4 hn hd hi,Wn.mB];rfl)
    (by rw [Cc hn h1 hv h2 (.inr iv) eP hm,h4])
    (fun j hj Ya=>by
     have hne:gM r i≠gM r j:=fun e=>Ya (by rw [Ex hd hi hj e];simp)
     unfold jq
     rw [oC,if_neg fun e=>hne e.2]
     exact h5 j hj fun e=>Ya (Zx.2 (.inl e))) (fun h=>by simp at h)
   refine ⟨g1,g2,g3,g4,fun w y hy=>?_,fun w y S hy=>?_⟩
   ·rw [g5 w y hy,oC,if_neg (fun e=>hn.dt y hy (by rw [← e.2];exact iv))]
   ·rw [g6 w y S hy,Fv hn h1 h2 (.inr iv) eP (fun e=>hn.dt y hy (by rw [e.2];exact iv))]
theorem HT {r:Ro} {po:List Po} {v:Int} {s d:ByteArray} (hn:pP r) (hd:(cU r).Nodup) (hv:0≤v∧v<r.lv) (qE:iZ r po) (hs:s∈cC r) (mh:d∈cy r) (eP:ez po v d=none) {p:List Nat} (eG:(fw r po v s).ok p) (mA:(fw r po v s).fin p=kq r d) :
  iZ r (lB r po v s p d)∧rB (lB r po v s p d) v (cC r) d=s∧(∀ w y,y∈cy r→¬(w=v∧y=d)→rB (lB r po v s p d) w (cC r) y=rB po w (cC r) y∧ez (lB r po v s p d) w y=ez po w y):=by
 have bb:s ∉ cU r:=hn.st s hs
 have UA:ez po v s=none:=ib.2 fun q hq e=>by
  rcases qE.out q hq with h | h
  ·exact hn.sd s hs (e.2 ▸ h)
  ·exact bb (e.2 ▸ h)
 obtain ⟨g1,g2,g3,g4,g5,g6⟩:=CT hn hd hv qE p [] po s eG (qE.TU fun h=>absurd h bb) (.inl hs) rfl (si UA) (fun _ _ _=>rfl) (fun _=>rfl)
 have Pc:ez (lA r v po s p).1 v d=none:=by rw [g5 v d mh,eP]
 have hm:kq r d=jZ r (lA r v po s p).2:=by rw [g3];exact mA.symm
 have hA:=g1.add hn hv g2 (.inl mh) Pc hm
 have hV:=hA.val (hn.dt d mh)
 have Q7:=oA (p:=⟨v,d,(lA r v po s p).2⟩) g1.qK g1.out (.inl mh) Pc
 have oC:=ri (p:=⟨v,d,(lA r v po s p).2⟩) (iZ.one Q7) (iZ.one g1.qK)
 refine ⟨hV,?_,fun w y hy hne=>⟨?_,?_⟩⟩
 ·have h9:(ez (iM r ⟨v,d,(lA r v po s p).2⟩ (lA r v po s p).1) v d).isSome=true:=by
   rw [oC,if_pos ⟨rfl,rfl⟩];rfl
  have h8:=yt hn hV h9
  unfold lB
  rw [h8,Cc hn g1 hv g2 (.inl mh) Pc hm,g4]
 ·unfold lB
  rw [Fv hn g1 g2 (.inl mh) Pc hne,g6 w y _ hy]
 ·unfold lB
  rw [oC,if_neg fun e=>hne ⟨e.1.symm,e.2.symm⟩,g5 w y hy]
theorem I4 {po:List Po} {g f:Po→Bool}:(po.filter g).filter f=po.filter fun p=>g p&&f p:=by
 rw [Zbx]
 refine ZaX fun p _=>?_
 rw [Bool.and_comm]
theorem Oc {r:Ro} {po:List Po} (hn:pP r) (h:iZ r po) {g f:Po→Bool} (hg:∀ p∈po,p.ou∈cU r→g p=true)
  (Kk:∀ p∈po.filter g,p.ou∈cy r→f p=true) (Pc:∀ p∈po.filter g,∀ q∈po.filter g,f q=true→q.lv=p.lv→q.ip=p.ou→f p=true) (Yp:∀ p∈po.filter g,f p=true→p.ou∈cy r∨∃ q∈po.filter g,f q=true∧q.lv=p.lv∧q.ip=p.ou) :
  iZ r ((po.filter g).filter f)∧(∀ v y,y∈cy r→(∀ p∈po,p.lv=v→p.ou=y→g p=true)→ez ((po.filter g).filter f) v y=ez po v y∧rB ((po.filter g).filter f) v (cC r) y=rB po v (cC r) y) ∧
  (∀ v y,(∀ p∈po,p.lv=v→p.ou=y→g p=false)→ez ((po.filter g).filter f) v y=none):=by
 have h1:=iZ.one h.qK
 have hm:∀ p,p∈po.filter g↔p∈po∧g p=true:=fun p=>Zv
 have hk:∀ {p:Po},(g p&&f p)=true↔g p=true∧f p=true:=fun {p}=>Zm _ _ ▸ Iff.rfl
 rw [I4]
 have fH:∀ q∈po,(g q&&f q)=true→∀ p∈po,p.lv=q.lv→p.ou=q.ip→(g p&&f p)=true:=by
  intro q hq X7 p hp hv ho
  obtain ⟨NF,ye⟩:=hk.1 X7
  have ht:p.ou∈cU r:=by
   rcases h.xY q hq with hs | ht
   ·rcases h.out p hp with hd | hd
    ·exact absurd hd (by rw [ho];exact hn.sd _ hs)
    ·exact hd
   ·rw [ho];exact ht
  have bB:=hg p hp ht
  exact hk.2 ⟨bB,Pc p ((hm p).2 ⟨hp,bB⟩) q ((hm q).2 ⟨hq,NF⟩) ye hv.symm ho.symm⟩
 refine ⟨iZ.filter hn h _ (fun p hp ht q hq X7 hv hi=>fH q hq X7 p hp hv.symm hi.symm) (fun p hp ht hkp=>?_),fun v y hy bb=>?_,fun v y DQ=>?_⟩
 ·obtain ⟨vZ,Gw⟩:=hk.1 hkp
  rcases Yp p ((hm p).2 ⟨hp,vZ⟩) Gw with hd | ⟨q,hq,ye,Ur,XH⟩
  ·exact absurd ht (hn.dt _ hd)
  ·exact ⟨q,((hm q).1 hq).1,hk.2 ⟨((hm q).1 hq).2,ye⟩,Ur,XH⟩
 ·have dT:∀ p∈po,p.lv=v→p.ou=y→(g p&&f p)=true:=fun p hp LK qE=>by
   have bB:=bb p hp LK qE
   exact hk.2 ⟨bB,Kk p ((hm p).2 ⟨hp,bB⟩) (by rw [qE];exact hy)⟩
  refine ⟨?_,?_⟩
  ·cases hi:ez po v y with
   | none=>exact ib.2 fun p hp=>ib.1 hi p (Zv.1 hp).1
   | some u =>
    obtain ⟨q,hq,LJ,O2,rfl⟩:=fD hi
    have:=mZ (h1.filter fun p=>g p&&f p) (Zv.2 ⟨hq,dT q hq LJ O2⟩)
    rwa [LJ,O2] at this
  ·unfold rB iz
   rw [vI (f:=fun p=>g p&&f p) h1 fH dT]
 ·refine ib.2 fun p hp e=>?_
  obtain ⟨vZ,Gw⟩:=Zv.1 hp
  have:=DQ p vZ e.1 e.2
  rw [(hk.1 Gw).1] at this
  cases this
structure Jb where
 v:Int
 s:ByteArray
 d:ByteArray
def rO (r:Ro) (W:List Po→Jb→Option (List Nat)):List Po→List Jb→Option (List Po)
 | po,[]=>some po
 | po, j :: l => match W po j with
  | none=>none
  | some p=>rO r W (lB r po j.v j.s p j.d) l
theorem ze {r:Ro} {W:List Po→Jb→Option (List Nat)} (hn:pP r) (hd:(cU r).Nodup) (hW:∀ po j p,W po j=some p→(fw r po j.v j.s).ok p∧(fw r po j.v j.s).fin p=kq r j.d) :
  ∀ (l:List Jb) (po oZ:List Po),iZ r po→(∀ j∈l,(0≤j.v∧j.v<r.lv)∧j.s∈cC r∧j.d∈cy r∧ez po j.v j.d=none)→l.Pairwise (fun a b=>¬(b.v=a.v∧b.d=a.d))→rO r W po l=some oZ →
  iZ r oZ∧(∀ j∈l,rB oZ j.v (cC r) j.d=j.s)∧∀ v y,y∈cy r→(∀ j∈l,¬(v=j.v∧y=j.d))→rB oZ v (cC r) y=rB po v (cC r) y∧ez oZ v y=ez po v y
 | [], po, oZ, hv, _, _, hr => by
  rw [rO] at hr
  cases hr
  exact ⟨hv,fun j hj=>absurd hj Zq,fun _ _ _ _=>⟨rfl,rfl⟩⟩
 | j :: l, po, oZ, hv, hj, hp, hr => by
  rw [rO] at hr
  cases hw:W po j with
  | none=>rw [hw] at hr;cases hr
  | some p =>
   rw [hw] at hr
   obtain ⟨zR,hs,mh,r6⟩:=hj j Zt
   obtain ⟨eG,mA⟩:=hW po j p hw
   obtain ⟨hV,hc,ho⟩:=HT hn hd zR hv hs mh r6 eG mA
   obtain ⟨vZ,Gw⟩:=ZaS.1 hp
   obtain ⟨k1,k2,k3⟩:=ze hn hd hW l _ oZ hV (fun x hx=>by
    obtain ⟨a1,a2,a3,a4⟩:=hj x (ZV _ hx)
    exact ⟨a1,a2,a3,by rw [(ho x.v x.d a3 (vZ x hx)).2];exact a4⟩) Gw hr
   refine ⟨k1,fun x hx=>?_,fun v y hy hne=>?_⟩
   ·rcases ZR.1 hx with rfl | hx
    ·rw [(k3 x.v x.d mh fun z hz e=>vZ z hz ⟨e.1.symm,e.2.symm⟩).1]
     exact hc
    ·exact k2 x hx
   ·obtain ⟨b1,b2⟩:=k3 v y hy fun z hz=>hne z (ZV _ hz)
    obtain ⟨c1,c2⟩:=ho v y hy (hne j Zt)
    exact ⟨b1.trans c1,b2.trans c2⟩
def tj {α:Type} (lt:α→α→Bool):α→List α→α
 | b,[]=>b
 | b,x::l=>tj lt (if lt x b then x else b) l
theorem oM {α:Type} {lt:α→α→Bool} (Wf:∀ {a b c},lt a b=true→lt b c=true→lt a c=true) (SS:∀ {a b},a≠b→lt a b=true∨lt b a=true) (Yf:∀ a,lt a a=false) :
  ∀ (l:List α) (b:α),tj lt b l∈b::l∧∀ q∈b::l,lt q (tj lt b l)=false
 | [],b=>⟨Zt,fun q hq=>by
   rcases ZR.1 hq with rfl | hq
   ·exact Yf _
   ·exact absurd hq Zq⟩
 | x :: l, b => by
  rw [tj]
  by_cases hx:lt x b=true
  ·rw [if_pos hx]
   obtain ⟨h1,h2⟩:=oM (lt:=lt) Wf SS Yf l x
   refine ⟨ZV _ h1,fun q hq=>?_⟩
   rcases ZR.1 hq with rfl | hq
   ·cases hb:lt q (tj lt x l) with
    | false=>rfl
    | true =>
     have:=Wf hx hb
     rw [h2 x Zt] at this
     exact this.symm
   ·exact h2 q hq
  ·rw [if_neg hx]
   obtain ⟨h1,h2⟩:=oM (lt:=lt) Wf SS Yf l b
   refine ⟨?_,fun q hq=>?_⟩
   ·rcases ZR.1 h1 with h | h
    ·rw [h];exact Zt
    ·exact ZV _ (ZV _ h)
   ·rcases ZR.1 hq with rfl | hq
    ·exact h2 q Zt
    ·rcases ZR.1 hq with rfl | hq
     ·cases hb:lt q (tj lt b l) with
      | false=>rfl
      | true =>
       by_cases he:q=b
       ·subst he
        rw [h2 q Zt] at hb
        exact hb.symm
       ·have:=Wf ((SS he).resolve_left hx) hb
        rw [h2 b Zt] at this
        exact this.symm
     ·exact h2 q (ZV _ hq)
theorem Wn.Ss {N:Wn} {d:Int} {a:List Nat} {l:List (List Nat)} (h:N.all d (N.n+1) []=a::l):N.least d (tj N.lt a l):=by
 obtain ⟨h1,h2⟩:=oM (lt:=N.lt) (fun {_ _ _}=>N.lt_trans) (fun {_ _}=>N.BH) N.lt_irrefl l a
 rw [← h] at h1 h2
 obtain ⟨k1,k2⟩:=Wn.zA N.rU h1
 refine ⟨k1,k2,fun q hq hf=>h2 q ?_⟩
 exact Wn.Ar (p:=[]) (r:=q) hq hf (Nat.lt_succ_of_le (Wn.uS hq))
theorem Wn.all_none {N:Wn} {d:Int} (h:N.all d (N.n+1) []=[]) (p:List Nat) (hp:N.ok p):N.fin p≠d:=fun hf=>by
 have:=Wn.Ar (p:=[]) (r:=p) (k:=N.n+1) hp hf (Nat.lt_succ_of_le (Wn.uS hp))
 rw [h] at this
 exact absurd this Zq


inductive Wn.Rc (N:Wn):Int→Prop
 | Ef:Wn.Rc N N.Ef
 | ca {i:Nat}:i<N.n→N.ca i=true→Wn.Rc N (N.to i)
 | fe {i:Nat}:i<N.n→N.fe i=true→Wn.Rc N (N.fr i)→Wn.Rc N (N.to i)
theorem xA {p:List Nat} {k:Nat} (h:k<p.length):p.take (k+1)=p.take k++[p[k]]:=by
 rw [Zn h]
theorem Wn.EK {N:Wn} {p:List Nat} (h:N.ok p):∀ k,k≤p.length→N.Rc (N.fin (p.take k))
 | 0,_=>by rw [Ze];exact .Ef
 | k + 1, hk => by
  have ih:=Wn.EK h k (by omega)
  have hs:=h k (by omega)
  rw [xA (by omega),Wn.mB]
  have aK:=Wn.oW hs
  unfold Wn.step at hs
  simp only [Zm,ZP,decide_eq_true_eq] at hs
  rcases hs.2.2 with ⟨_,hc⟩ | ⟨hf,he⟩
  ·exact .ca aK hc
  ·exact .fe aK hf (he ▸ ih)
theorem Wn.TI {N:Wn} {p:List Nat} (h:N.ok p):N.Rc (N.fin p):=by
 have:=Wn.EK h p.length (Zz _)
 rwa [ZL] at this
theorem Wn.TV {N:Wn} {m:Int} (h:N.Rc m):∃ p,N.ok p∧N.fin p=m:=by
 induction h with
 | Ef=>exact ⟨[],N.rU,rfl⟩
 | @ca i hi hc =>
  refine ⟨[]++[i],Wn.kI.2 ⟨N.rU,?_⟩,Wn.mB _ _ _⟩
  unfold Wn.step
  simp [hi,hc]
 | @fe i hi hf _ ih =>
  obtain ⟨p,hp,he⟩:=ih
  by_cases hm:i∈p
  ·obtain ⟨k,hk,rfl⟩:=Zs hm
   exact ⟨p.take (k+1),Wn.ER hp _,by rw [xA hk,Wn.mB]⟩
  ·refine ⟨p++[i],Wn.kI.2 ⟨hp,?_⟩,Wn.mB _ _ _⟩
   unfold Wn.step
   simp [hi,hf,he,hm]
def Wn.VX (N:Wn) (S:Int→Prop):Prop:=S N.Ef∧∀ i,i<N.n→(N.ca i=true∨N.fe i=true∧S (N.fr i))→S (N.to i)
theorem Wn.TJ {N:Wn} {S:Int→Prop} (h:N.VX S) {m:Int} (hm:N.Rc m):S m:=by
 induction hm with
 | Ef=>exact h.1
 | ca hi hc=>exact h.2 _ hi (.inl hc)
 | fe hi hf _ ih=>exact h.2 _ hi (.inr ⟨hf,ih⟩)
theorem Wn.MR {N:Wn} {S:Int→Prop} (h:N.VX S) (hS:∀ m,S m→N.Rc m) (m:Int):S m↔N.Rc m:=⟨hS m,Wn.TJ h⟩
theorem K8 {po:List Po} {v:Int} {o:ByteArray}:jq po v o=true↔∃ p∈po,p.lv=v∧p.ou=o:=by
 unfold jq
 constructor
 ·intro h
  obtain ⟨i,hi⟩:=Zac.1 h
  obtain ⟨p,hp,h1,h2,_⟩:=fD hi
  exact ⟨p,hp,h1,h2⟩
 ·rintro ⟨p,hp,h1,h2⟩
  cases hq:ez po v o with
  | some _=>rfl
  | none=>exact absurd ⟨h1,h2⟩ (ib.1 hq p hp)
theorem Oy {po qo:List Po} (h:po.Perm qo) (v:Int) (o:ByteArray):jq po v o=jq qo v o:=by
 rw [ZaY,K8,K8]
 exact ⟨fun ⟨p,hp,e⟩=>⟨p,h.mem_iff.1 hp,e⟩,fun ⟨p,hp,e⟩=>⟨p,h.mem_iff.2 hp,e⟩⟩
def qz (r:Ro) (v:Int):List Po→ByteArray→List Nat→List Po×ByteArray
 | po,x,[]=>(po,x)
 | po,x,i::p=>qz r v (if jq po v (gM r i) then po else po++[⟨v,gM r i,x⟩]) (gM r i) p
theorem uj {r:Ro} {v:Int}:∀ (q:List Nat) (po qo:List Po) (x:ByteArray),po.Perm qo→(lA r v po x q).1.Perm (qz r v qo x q).1∧(lA r v po x q).2=(qz r v qo x q).2
 | [],po,qo,x,h=>⟨h,rfl⟩
 | i :: q, po, qo, x, h => by
  rw [lA,qz,Oy h v (gM r i)]
  by_cases hb:jq qo v (gM r i)=true
  ·rw [if_pos hb,if_pos hb]
   exact uj q po qo _ h
  ·rw [if_neg hb,if_neg hb]
   exact uj q _ _ _ ((o6 r _ po).trans ((h.cons _).trans (List.perm_append_singleton _ _).symm))
theorem set_perm {r:Ro} {po:List Po} {v:Int} {s d:ByteArray} {p:List Nat}:(lB r po v s p d).Perm ((qz r v po s p).1++[⟨v,d,(qz r v po s p).2⟩]):=by
 obtain ⟨h1,h2⟩:=uj (r:=r) (v:=v) p po po s (List.Perm.refl _)
 unfold lB
 rw [h2]
 exact (o6 r _ _).trans ((h1.cons _).trans (List.perm_append_singleton _ _).symm)
theorem HS {r:Ro} {po S:List Po} {v:Int} {s d:ByteArray} {p:List Nat} (hv:(lB r po v s p d).Pairwise (fun a b=>pG r a b=true)) (hS:S.Perm ((qz r v po s p).1++[⟨v,d,(qz r v po s p).2⟩])) (hs:S.Pairwise (fun a b=>¬ pG r b a=true)):S=lB r po v s p d:=by
 have hp:(lB r po v s p d).Perm S:=set_perm.trans hS.symm
 have hk:S.Pairwise (fun a b=>pG r a b=true∨pG r b a=true):=(List.Perm.pairwise_iff (fun {_ _} h=>h.symm) hp).1 (hv.imp fun h=>.inl h)
 have bb:S.Pairwise (fun a b=>pG r a b=true):=(List.Pairwise.and hk hs).imp fun h=>h.1.resolve_right h.2
 exact nO (fun a b h=>Gi a b h) bb hv hp.symm
end Go.Proofs.A1
namespace Go.SL
open Go
def qD (P:Program) (c:Cx) (sl:aG) (hs:List a8) (o:Oper) (V:Nat→Value) (ob:Obj):Prop:=
 (∀ d,o.op≠.defer d)∧∀ a w,bR sl a→Mem c hs w→(execOp a.eval o).run P w=.ok (.value (V w.heap.size)) (w.alloc ob)
section
variable {P:Program} {r:Option Nat} {c:Cx} {D:List Nat} {sl:aG} {hs hs':List a8} {ops:Array Oper} {Q:Exit→Act→World→Prop} {d:Nat} {dst:Option Tmp} {op:Op} {ty:TypeId} {pos:String} {af:Array Edge} {g:Option (Nat×Bool)} {rest:List Oper}
theorem bo {V:Nat→Value} {ob:Obj}
  (hr:qD P c sl hs ⟨some d,op,ty,pos,af,none⟩ V ob) (hd:Nat.blt d c.nt=true) (k:∀ b,c.w0.heap.size≤b→Tr c D ((d,V b)::sl) (bG b ob::hs) (WL P r ops Q rest)) :
  Tr c D sl hs (WL P r ops Q (⟨some d,op,ty,pos,af,none⟩::rest)):=fun a w bb=>by
 refine mi rfl ⟨dM _ _ _ _ _,?_⟩
 rw [Oper.semAt_eq _ _ _ hr.1,hr.2 a w bb.cS bb.rb]
 have h1:=(bb.put (by simpa [Z4] using hd) (V w.heap.size))
 exact k w.heap.size bb.rb.keeps.size _ _ (h1.heap (bb.mem.alloc ob))
theorem Qq {t:TypeId} {x:Operand} {v:Value} {cs:List Value} (hx:Is sl x v) (hc:v.cells=cs.toArray):qD P c sl hs ⟨dst,.box t x,ty,pos,af,g⟩ (fun b=>.pointer (some ⟨b,0,none⟩)) (.cells cs.toArray t):=
 ⟨by simp,fun a w ha _=>by simp [execOp,hx a ha,Instr.box,newVar,newRow,hc]⟩
theorem qS {t:TypeId} {z:Value} {cs:List Value} [lF P t z] (hc:z.cells=cs.toArray):qD P c sl hs ⟨dst,.alloc t,ty,pos,af,g⟩ (fun b=>.pointer (some ⟨b,0,none⟩)) (.cells cs.toArray t):=
 ⟨by simp,fun a w _ _=>by simp [execOp,Instr.alloc,il (t:=t) (v:=z),newVar,newRow,hc]⟩
theorem Dl {t:TypeId}:qD P c sl hs ⟨dst,.makeMap t none,ty,pos,af,g⟩ (fun b=>.map (some b)) (.map #[] 0):=
 ⟨by simp,fun a w _ _=>by simp [execOp,Instr.makeMap]⟩
theorem lZ {t:TypeId} {n:Nat} {parts:Array (Nat×Operand)} {ps:Array (Nat×Value)} {V:Nat→Value} {ob:Obj}
  (hp:∀ a,bR sl a→(parts.map fun (i,x)=>(i,a.eval x))=ps) (hb:∀ w,(Instr.buildSlice t n ps).run P w=.ok (V w.heap.size) (w.alloc ob)) :
  qD P c sl hs ⟨dst,.buildSlice t n parts,ty,pos,af,g⟩ V ob:=
 ⟨by simp,fun a w ha _=>by simp only [execOp,hp a ha,Sem.run_bind,hb w,Result.andThen_ok,Sem.run_pure]⟩
def uQ (vs:List Value):Array (Nat×Value):=(vs.zipIdx.map fun (v,i)=>(i,v)).toArray
theorem yo:∀ (vs:List Value) (k:Nat) (acc:List Value),(∀ v∈vs,v.oneCell'=true)→k+vs.length≤acc.length →
  Instr.fill (fun i=>some (i*1,1)) acc.toArray ((vs.zipIdx k).map fun (v,i)=>(i,v))=some (acc.take k++vs++acc.drop (k+vs.length)).toArray
 | [],k,acc,_,_=>by simp [Instr.fill]
 | v :: vs, k, acc, h1, h2 => by
  have hv:=h1 v (by simp)
  have hc:v.cells=#[v]:=by cases v <;> simp_all [Value.cells,Value.oneCell']
  simp only [ZJ] at h2
  have e:Array.foldl (fun cs (x:Value×Nat)=>cs.setIfInBounds (k*1+x.2) x.1) acc.toArray #[v].zipIdx=(acc.set k v).toArray:=by
   simp
  simp only [List.zipIdx_cons,Z8,Instr.fill,hc]
  rw [if_neg (by simp;omega)]
  simp only [e]
  rw [yo vs (k+1) (acc.set k v) (fun u hu=>h1 u (by simp [hu])) (by simp;omega)]
  congr 1
  have hk:k<acc.length:=by omega
  simp only [ZJ,Zh,Zb]
  rw [List.take_set,List.drop_set_of_lt (by omega)]
  rw [show k+1+vs.length=k+(vs.length+1) from by omega]
  congr 1
  rw [Zn hk]
  rw [List.set_append_right _ _ (by simp;omega)]
  simp [Zbi (Nat.le_of_lt hk)]
theorem uL {t e:TypeId} {n:Nat} {z:Value} [hu:iF P t (.slice e)] [Ty P e false 1] [lF P e z] {vs:List Value} (hl:vs.length=n) (hn:n≤1000) (hz:z.oneCell'=true) (hv:∀ v∈vs,v.oneCell'=true) (w:World) :
  (Instr.buildSlice t n (uQ vs)).run P w=.ok (.slice (some ⟨w.heap.size,0,none⟩) n n) (w.alloc (.cells vs.toArray e)):=by
 have hzc:z.cells=#[z]:=by cases z <;> simp_all [Value.cells,Value.oneCell']
 unfold Instr.buildSlice
 simp only [Sem.run_bind,aU hu.eq,Result.andThen_ok,fT (t:=e) (agg:=false) (n:=1),Zar]
 rw [if_neg (by omega)]
 have hf:∀ (zz:Array Value),zz.size=n→Instr.fill (fun i=>some (i,1)) zz (uQ vs).toList=some vs.toArray:=by
  intro zz Wa
  have:=yo vs 0 zz.toList hv (by simp [hl,Wa])
  simp only [ZaU,Zar] at this
  simp only [uQ]
  rw [this]
  simp [hl,Wa]
 by_cases h0:n=0
 ·subst h0
  simp only [if_true,Sem.run_bind,Sem.run_pure,Result.andThen_ok]
  rw [hf _ (by simp)]
  simp [newRow]
 ·rw [if_neg h0]
  simp only [Sem.run_bind,il (t:=e) (v:=z),Result.andThen_ok,Sem.run_pure,hzc]
  rw [hf _ (by simp)]
  simp [newRow]
def setCells:List Value→Nat→List Value→List Value
 | cs,_,[]=>cs
 | cs,o,v::vs=>setCells (cs.set o v) (o+1) vs
theorem ke:∀ (vs:List Value) (cs:List Value) (o:Nat),(setCells cs o vs).length=cs.length
 | [],_,_=>rfl
 | v::vs,cs,o=>by simp [setCells,ke vs]
def setBlock (w:World) (b:Nat) (ob:Obj):World:={ w with heap:=w.heap.setIfInBounds b ob }
theorem aH.setBlock (w:World) (b:Nat) (ob:Obj):aH [b] w (setBlock w b ob):=
 ⟨rfl,rfl,rfl,Zz _,by simp [SL.setBlock],fun k hk hm=>by
  have:b≠k:=fun e=>hm (by simp [e])
  simp [SL.setBlock,ZH this]⟩
theorem lW {w:World} {b:Nat} {ob:Obj} (h:b<w.heap.size):(setBlock w b ob).heap[b]? = some ob:=by simp [setBlock,h]
theorem tA {w:World} {b:Nat} {cs:Array Value} {E:TypeId} (h:w.heap[b]? = some (.cells cs E (0,0))) (o:Nat):w.frozen? ⟨b,o,none⟩=false:=by
 simp [World.frozen?,h]
theorem wz {w:World} {b:Nat} {cs:List Value} {E:TypeId} (h:w.heap[b]? = some (.cells cs.toArray E (0,0))) (o:Nat) (v:Value):w.setCell ⟨b,o,none⟩ v=setBlock w b (.cells (cs.set o v).toArray E (0,0)):=by
 unfold World.setCell setBlock
 congr 1
 apply Array.ext_getElem?
 intro k
 rw [Zbf]
 by_cases hk:b=k
 ·subst hk
  have:=j5 (w:=w) h
  rw [if_pos rfl,h,Array.getElem?_setIfInBounds_self_of_lt this]
  simp
 ·rw [if_neg hk,ZH hk]
theorem iU {b o:Nat} {E:TypeId}:∀ (vs:List Value) (i:Nat) (cs:List Value) (w:World),w.heap[b]? = some (.cells cs.toArray E (0,0))→(∀ v∈vs,v.oneCell'=true)→o+i+vs.length≤cs.length →
  ∃ w',(storeCells ⟨b,o,none⟩ vs i).run P w=.ok () w'∧aH [b] w w'∧w'.heap[b]? = some (.cells (setCells cs (o+i) vs).toArray E (0,0))
 | [],i,cs,w,h,_,_=>⟨w,rfl,.refl _ _,h⟩
 | v :: vs, i, cs, w, h, h1, h2 => by
  simp only [ZJ] at h2
  have aK:=j5 (w:=w) h
  have bb:(store (Addr.add ⟨b,o,none⟩ i) v).run P w=.ok () (setBlock w b (.cells (cs.set (o+i) v).toArray E (0,0))):=by
   rw [eI,run_store P w _ v .plain (h1 v (by simp)),cell_of_block h]
   have:(cs.toArray)[o+i]? = some (cs[o+i]'(by omega)):=by simp
   rw [this]
   simp only [tA h,ZaR,if_false,wz h]
  obtain ⟨w',h3,h4,h5⟩:=iU (o:=o) vs (i+1) (cs.set (o+i) v) (setBlock w b (.cells (cs.set (o+i) v).toArray E (0,0))) (lW aK) (fun u hu=>h1 u (by simp [hu])) (by simp;omega)
  refine ⟨w',?_,(aH.setBlock w b _).trans h4,by rw [h5];rfl⟩
  simp only [storeCells,Sem.run_bind,bb,Result.andThen_ok,h3]
theorem Bk {t:TypeId} {agg:Bool} {n:Nat} [Ty P t agg n] {b o:Nat} {E:TypeId} {v:Value} {vs cs:List Value} {w:World} (h:w.heap[b]? = some (.cells cs.toArray E (0,0))) (hv:v.cells=vs.toArray) (hl:vs.length=n)
  (h1:∀ u∈vs,u.oneCell'=true) (h2:o+n≤cs.length) :
  ∃ w',(storeVar t ⟨b,o,none⟩ v).run P w=.ok () w'∧aH [b] w w'∧w'.heap[b]? = some (.cells (setCells cs o vs).toArray E (0,0)):=by
 obtain ⟨w',h3,h4,h5⟩:=iU (P:=P) (o:=o) vs 0 cs w h h1 (by omega)
 refine ⟨w',?_,h4,h5⟩
 unfold storeVar
 rw [Sem.run_bind,fT (t:=t) (agg:=agg) (n:=n),Result.andThen_ok,if_neg (by simp [hv,hl])]
 simpa [hv] using h3
theorem aq {t:TypeId} {agg:Bool} {n:Nat} [Ty P t agg n] {x y:Operand} {b o:Nat} {E:TypeId} {v:Value} {vs cs PE:List Value} (hx:Is sl x (.pointer (some ⟨b,o,none⟩))) (hy:Is sl y v)
  (ht:Take hs (bG b (.cells cs.toArray E (0,0))) hs') (hv:v.cells=vs.toArray) (hl:vs.length=n) (h1:∀ u∈vs,u.oneCell'=true) (h2:o+n≤cs.length) (he:setCells cs o vs=PE)
  (k:Tr c D sl (bG b (.cells PE.toArray E (0,0))::hs') (WL P r ops Q rest)) :
  Tr c D sl hs (WL P r ops Q (⟨none,.store t x y,ty,pos,af,none⟩::rest)):=fun a w bb=>by
 subst he
 have hm:=bb.mem.take (ht.append _)
 obtain ⟨w',h3,h4,h5⟩:=Bk (P:=P) (t:=t) (o:=o) (hm.bG .here) hv hl h1 h2
 refine mi rfl ⟨dM _ _ _ _ _,?_⟩
 rw [Oper.semAt_eq _ _ _ (by simp)]
 have:(execOp a.eval ⟨none,.store t x y,ty,pos,af,none⟩).run P w=.ok .skip w':=by
  simp [execOp,hx a bb.cS,hy a bb.cS,Instr.storeAt,Instr.sureAddr,h3]
 rw [this]
 exact k _ _ (bb.heap (Mem.store hm h4 h5))
theorem B8 (off:Nat):∀ (vs:List Value) (k:Nat) (cs:List Value),(vs.zipIdx k).foldl (fun (cs:Array Value) (x:Value×Nat)=>cs.setIfInBounds (off+x.2) x.1) cs.toArray=(setCells cs (off+k) vs).toArray
 | [],_,_=>rfl
 | v :: vs, k, cs => by
  simp only [List.zipIdx_cons,List.foldl_cons,List.setIfInBounds_toArray,setCells]
  exact B8 off vs (k+1) (cs.set (off+k) v)
def sZ (places:List (Nat×Nat)):List Value→List (Nat×Value)→Option (List Value)
 | cs,[]=>some cs
 | cs, (i, v) :: rest =>
  match places[i]? with
  | some (off,size)=>if v.cells.size=size∧off+size≤cs.length then sZ places (setCells cs off v.cells.toList) rest else none
  | none=>none
theorem fill_eq {places:List (Nat×Nat)} {f:Nat→Option (Nat×Nat)} (hf:∀ i x,places[i]? = some x→f i=some x):∀ (ps:List (Nat×Value)) (cs PE:List Value),sZ places cs ps=some PE→Instr.fill f cs.toArray ps=some PE.toArray
 | [],cs,PE,h=>by simp only [sZ,Option.some.injEq] at h;simp [Instr.fill,h]
 | (i, v) :: rest, cs, PE, h => by
  unfold sZ at h
  split at h
  ·rename_i off size hp
   split at h
   ·rename_i hc
    have h2:=fill_eq hf rest _ _ h
    unfold Instr.fill
    simp only [hf i _ hp]
    rw [if_neg (by simp [hc.1];omega)]
    rw [← h2]
    congr 1
    have:=B8 off v.cells.toList 0 cs
    simp only [Zaw] at this
    rw [← this,← Array.foldl_toList]
    simp
   ·cases h
  ·cases h
def yu (P:Program) (t:TypeId):Option (List (Nat×Nat)×List Value):=
 match P.underlying t,P.info? t with
 | some (.struct fs), some i => match i.zero, fs.toList.mapM (fun f => (P.info? f.type).map fun j => (f.offset, j.size)) with
  | some z,some ps=>some (ps,z.cells.toList)
  | _,_=>none
 | some (.array n e), some i => match i.zero, P.info? e with
  | some z,some j=>some ((List.range n).map (fun k=>(k*j.size,j.size)),z.cells.toList)
  | _,_=>none
 | _,_=>none
class CC (P:Program) (t:TypeId) (ps:outParam (List (Nat×Nat))) (z:outParam (List Value)):Prop where
 eq:yu P t=some (ps,z)
theorem uW {w:World}:∀ (fs:List Field) (ps:List (Nat×Nat)),fs.mapM (fun f=>(P.info? f.type).map fun j=>(f.offset,j.size))=some ps →
  (fs.mapM (fun (f:Field)=>(do pure (f.offset,← sizeOf f.type):Sem (Nat×Nat)))).run P w=.ok ps w
 | [],ps,h=>by simp at h;simp [h]
 | f :: fs, ps, h => by
  simp only [List.mapM_cons,Option.bind_eq_bind,Option.bind_eq_some_iff,Zah,Option.pure_def,Option.some.injEq] at h
  obtain ⟨_,⟨j,hj,rfl⟩,qs,hq,rfl⟩:=h
  have:=uW (w:=w) fs qs hq
  have hsz:(sizeOf f.type).run P w=.ok j.size w:=by simp [sizeOf,fC hj]
  rw [List.mapM_cons]
  simp only [Sem.run_bind,hsz,Result.andThen_ok,Sem.run_pure,this]
theorem F9 {t:TypeId} {places:List (Nat×Nat)} {z cs:List Value} [h:CC P t places z] {ps:List (Nat×Value)} (hf:sZ places z ps=some cs) (w:World):(Instr.build t ps.toArray).run P w=.ok (.agg cs.toArray) w:=by
 have h0:=h.eq
 unfold yu at h0
 split at h0
 ·rename_i fs i hu hi
  split at h0
  ·rename_i zz qs hz hq
   simp only [Option.some.injEq,Prod.mk.injEq] at h0
   obtain ⟨rfl,rfl⟩:=h0
   have h1:(zeroValue t).run P w=.ok zz w:=by simp [zeroValue,fC hi,hz]
   have h2:(fs.mapM (fun (f:Field)=>(do pure (f.offset,← sizeOf f.type):Sem (Nat×Nat)))).run P w=.ok qs.toArray w:=by
    have:=uW (P:=P) (w:=w) fs.toList qs hq
    rw [← ZaU (xs:=fs),List.mapM_toArray,Sem.run_map,this]
    rfl
   have h3:=fill_eq (f:=fun i=>qs.toArray[i]?) (fun i x hx=>by simpa using hx) ps zz.cells.toList cs hf
   unfold Instr.build
   simp only [Sem.run_bind,h1,Result.andThen_ok,aU hu,h2]
   simp only [ZaU] at h3
   rw [h3]
   rfl
  ·cases h0
 ·rename_i n e i hu hi
  split at h0
  ·rename_i zz j hz hj
   simp only [Option.some.injEq,Prod.mk.injEq] at h0
   obtain ⟨rfl,rfl⟩:=h0
   have h1:(zeroValue t).run P w=.ok zz w:=by simp [zeroValue,fC hi,hz]
   have h2:(sizeOf e).run P w=.ok j.size w:=by simp [sizeOf,fC hj]
   have h3:=fill_eq (f:=fun i=>some (i*j.size,j.size)) (fun i x hx=>by
    rw [ZD] at hx
    obtain ⟨y,hy,rfl⟩:=Zah.1 hx
    have:=Zl.1 hy
    obtain ⟨aK,he⟩:=this
    simp at he
    rw [he]) ps zz.cells.toList cs hf
   unfold Instr.build
   simp only [Sem.run_bind,h1,Result.andThen_ok,aU hu,h2]
   simp only [ZaU] at h3
   rw [h3]
   rfl
  ·cases h0
 ·cases h0
inductive vR (sl:aG):List (Nat×Operand)→List (Nat×Value)→Prop
 | nil:vR sl [] []
 | cons {i:Nat} {x:Operand} {xs:List (Nat×Operand)} {v:Value} {vs:List (Nat×Value)} (h:Is sl x v) (t:vR sl xs vs):vR sl ((i,x)::xs) ((i,v)::vs)
theorem vR.map {xs:List (Nat×Operand)} {vs:List (Nat×Value)} (h:vR sl xs vs) {a:Act} (ha:bR sl a):(xs.map fun (i,x)=>(i,a.eval x))=vs:=by
 induction h with
 | nil=>rfl
 | cons h _ ih=>simp [h a ha];simpa using ih
theorem aS {t:TypeId} {xs:List (Nat×Operand)} {ps:List (Nat×Value)} {places:List (Nat×Nat)} {z cs:List Value} [CC P t places z] (hp:vR sl xs ps) (hf:sZ places z ps=some cs) :
  cR P c sl hs ⟨dst,.build t xs.toArray,ty,pos,af,g⟩ (.agg cs.toArray):=
 H7 (ps:=ps.toArray) (fun a ha=>by simp [← hp.map ha]) (fun w=>F9 hf w)
inductive sA (sl:aG):Nat→List (Nat×Operand)→List Value→Prop
 | nil {i:Nat}:sA sl i [] []
 | cons {i:Nat} {x:Operand} {xs:List (Nat×Operand)} {v:Value} {vs:List Value} (h:Is sl x v) (t:sA sl (i+1) xs vs):sA sl i ((i,x)::xs) (v::vs)
theorem sA.map {i:Nat} {xs:List (Nat×Operand)} {vs:List Value} (h:sA sl i xs vs) {a:Act} (ha:bR sl a):(xs.map fun (i,x)=>(i,a.eval x))=(vs.zipIdx i).map fun (v,i)=>(i,v):=by
 induction h with
 | nil=>rfl
 | cons h _ ih=>simp [h a ha];simpa using ih
theorem aD {t e:TypeId} {n:Nat} {z:Value} {xs:List (Nat×Operand)} {vs:List Value} [hu:iF P t (.slice e)] [Ty P e false 1] [lF P e z] (hp:sA sl 0 xs vs)
  (hl:vs.length=n) (hn:Nat.ble n 1000=true) (hz:z.oneCell'=true) (h1:vs.all Value.oneCell'=true) :
  qD P c sl hs ⟨dst,.buildSlice t n xs.toArray,ty,pos,af,g⟩ (fun b=>.slice (some ⟨b,0,none⟩) n n) (.cells vs.toArray e):=
 lZ (ps:=uQ vs) (fun a ha=>by simp only [uQ,← hp.map ha];simp) (fun w=>uL hl (by simpa using hn) hz (by simpa [Z3] using h1) w)
class bM (P:Program) (f:FuncId):Prop where
 eq:((P.funcs[f]?).map fun fn=>(fn.name == "runtime.NumGoroutine" || fn.body.isNone))=some false
theorem sF {f:FuncId} [h:bM P f] (args:Array Value) (w:World):(callFunc f args).run P w=.ok (.enter f args) w:=by
 have:=h.eq
 cases hf:P.funcs[f]? with
 | none=>rw [hf] at this;cases this
 | some fn =>
  rw [hf] at this
  simp only [Zbj,Option.some.injEq,Bool.or_eq_false_iff] at this
  obtain ⟨h1,h2⟩:=this
  simp only [callFunc,Sem.run_bind,run_program,Result.andThen_ok,hf,h1,h2]
  rfl
inductive G7 (sl:aG):List Operand→List Value→Prop
 | nil:G7 sl [] []
 | cons {x:Operand} {xs:List Operand} {v:Value} {vs:List Value} (h:Is sl x v) (t:G7 sl xs vs):G7 sl (x::xs) (v::vs)
theorem G7.map {sl:aG} {xs:List Operand} {vs:List Value} (h:G7 sl xs vs) {a:Act} (ha:bR sl a):xs.map a.eval=vs:=by
 induction h with
 | nil=>rfl
 | cons h _ ih=>simp [h a ha,ih]
def lG (P:Program) (sl:aG) (o:Oper) (f:FuncId) (args:List Value):Prop:=
 (∀ d,o.op≠.defer d)∧∀ a w,bR sl a→(execOp a.eval o).run P w=.ok (.enter f args.toArray) w
theorem aY {x:Operand} {xs:List Operand} {ts:Array TypeId} {f:FuncId} {first vs cap args:List Value} (hx:Is sl x (.func (.func f) first.toArray cap.toArray)) (ha:G7 sl xs vs) (hb:bM P f) (he:first++vs++cap=args) :
  lG P sl ⟨dst,.call ⟨.value x,xs.toArray,ts⟩,ty,pos,af,g⟩ f args:=
 ⟨by simp,fun a w hs=>by
  subst he
  have h1:=ha.map hs
  simp only [execOp,resolve,hx a hs,Deferred.ofValue,Sem.run_bind,Sem.run_pure,Result.andThen_ok,invoke,List.map_toArray,h1,List.append_toArray]
  exact sF (h:=hb) _ _⟩
theorem bA {f:Fn} {xs ys:List Operand} {vs us:List Value} (h1:G7 sl xs vs) (h2:G7 sl ys us) :
  cR P c sl hs ⟨dst,.makeFunc f xs.toArray ys.toArray,ty,pos,af,g⟩ (.func f vs.toArray us.toArray):=
 Bq (fun a ha=>by simp [h1.map ha]) (fun a ha=>by simp [h2.map ha])
def bh (P:Program) (f:FuncId) (args:List Value) (w:World) (md:List Nat) {ι:Type} (Φ:ι→Prop) (val:ι→Value) (own:ι→List a8):Prop:=
 Calls P f args.toArray w fun e w'=>∃ x,e=.returned (val x)∧Φ x∧aH md w w'∧∃ fp:List Nat,fp.Nodup∧ch (hp w') (own x) fp∧∀ b∈fp,b∈md∨w.heap.size≤b
def aj (P:Program) (f:FuncId) (args:List Value) (w:World) (V:Value):Prop:=
 Calls P f args.toArray w fun e w'=>e=.returned V∧aH [] w w'
theorem ie {n:Nat} {f:FuncId} {args:Array Value} {w:World} {R:Ending→World→Prop} (h:Calls P f args w R):CallsIn (FR r) n P f args w R:=
 (callsIn_wide (n:=n)).2 h
theorem yD {o:Oper} {f:FuncId} {args:List Value} {R:Ending→World→Prop} {a:Act} {w:World} (hg:o.guard=none) (hr:lG P sl o f args) (hs:bR sl a) (hc:Calls P f args.toArray w R)
  (k:∀ e w',R e w'→∃ v,e=.returned v∧WL P r ops Q rest (a.put o.dst v) w'):WL P r ops Q (o::rest) a w:=by
 refine mi hg ⟨dM _ _ _ _ _,?_⟩
 rw [Oper.semAt_eq _ _ _ hr.1,hr.2 a w hs]
 refine ⟨by simp [FR,Fence.wide],(ie hc).mono fun e w' h=>?_⟩
 obtain ⟨v,rfl,hk⟩:=k e w' h
 exact hk
theorem ai {f:FuncId} {args:List Value} {V:Value} (hr:lG P sl ⟨some d,op,ty,pos,af,none⟩ f args) (hd:Nat.blt d c.nt=true) (hc:∀ w,Mem c hs w→aj P f args w V)
  (k:Tr c D ((d,V)::sl) hs (WL P r ops Q rest)):Tr c D sl hs (WL P r ops Q (⟨some d,op,ty,pos,af,none⟩::rest)):=fun a w bb=>
 yD rfl hr bb.cS (hc w bb.rb) fun e w' ⟨he,hk⟩=>⟨V,he,k _ _ ((bb.put (by simpa [Z4] using hd) V).heap (bb.mem.rh hk))⟩
inductive bz:List a8→List a8→List a8→Prop
 | nil {hs:List a8}:bz hs [] hs
 | cons {hs h1 h2:List a8} {A:a8} {As:List a8} (h:Take hs A h1) (t:bz h1 As h2):bz hs (A::As) h2
theorem ch.iT {h:Nat→Option Obj} {hs As hs':List a8} (ht:bz hs As hs'):∀ {fp:List Nat},ch h hs fp→∃ f1 f2,ch h As f1∧ch h hs' f2∧fp.Perm (f1++f2):=by
 induction ht with
 | nil=>intro fp hf;exact ⟨[],fp,rfl,hf,.refl _⟩
 | cons h _ ih =>
  intro fp hf
  obtain ⟨f1,f2,h1,h2,hp⟩:=hf.take h
  obtain ⟨g1,g2,h3,h4,hq⟩:=ih h2
  exact ⟨f1++g1,g2,⟨f1,g1,rfl,h1,h3⟩,h4,hp.trans (by rw [Zh];exact hq.append_left f1)⟩
theorem Mem.iT {As:List a8} {w:World} (h:Mem c hs w) (ht:bz hs As hs'):Mem c (As++hs') w:=by
 obtain ⟨k,fp,hn,hs,hb⟩:=h
 obtain ⟨f1,f2,h1,h2,hp⟩:=hs.iT ht
 exact ⟨k,f1++f2,hp.nodup_iff.1 hn,ch.append_iff.2 ⟨f1,f2,rfl,h1,h2⟩,fun b dA=>hb b (hp.mem_iff.2 dA)⟩
theorem bz.append {As:List a8} (h:bz hs As hs') (m:List a8):bz (hs++m) As (hs'++m):=by
 induction h with
 | nil=>exact .nil
 | cons h _ ih=>exact .cons (h.append m) ih
theorem Mem.Pp {As Bs:List a8} {w w':World} (hm:Mem c (As++hs') w)
  (hs0:∀ fp,fp.Nodup→ch (hp w) As fp→aH fp w w'∧∃ lD:List Nat,lD.Nodup∧ch (hp w') Bs lD∧∀ b∈lD,b∈fp∨w.heap.size≤b):Mem c (Bs++hs') w':=Mem.change hm hs0
theorem jr {f:FuncId} {args:List Value} {As:List a8} {ι:Type} {Φ:ι→Prop} {val:ι→Value} {own:ι→List a8} (hr:lG P sl ⟨some d,op,ty,pos,af,none⟩ f args) (hd:Nat.blt d c.nt=true) (ht:bz hs As hs')
  (hc:∀ w fp,Mem c hs w→fp.Nodup→ch (hp w) As fp→bh P f args w fp Φ val own)
  (k:∀ x,Φ x→Tr c D ((d,val x)::sl) (own x++hs') (WL P r ops Q rest)):Tr c D sl hs (WL P r ops Q (⟨some d,op,ty,pos,af,none⟩::rest)):=fun a w bb=>by
 have hm:=bb.mem.iT (ht.append (mw D))
 obtain ⟨kk,fp,hn,ir,hb⟩:=hm
 obtain ⟨f1,f2,rfl,h1,h2⟩:=ch.append_iff.1 ir
 refine yD rfl hr bb.cS (hc w f1 bb.rb (ZF.1 hn).1 h1) fun e w' ⟨x,he,hx,hk,lD,tX,hs',yh⟩=>⟨val x,he,k x hx _ _ ((bb.put (by simpa [Z4] using hd) (val x)).heap ?_)⟩
 obtain ⟨n1,n2,n12⟩:=ZF.1 hn
 have aK:∀ b∈f2,b<w.heap.size:=fun b dA=>let ⟨o,ho⟩:=h2.own b dA;j5 ho
 rw [Zh]
 refine ⟨?_,lD++f2,?_,ch.append_iff.2 ⟨lD,f2,rfl,hs',h2.loc fun b dA=>?_⟩,?_⟩
 ·refine ⟨hk.os.trans kk.os,hk.tape.trans kk.tape,hk.output.trans kk.output,ZY kk.dr hk.dr,ZY kk.size hk.size,fun b dA hm=>?_⟩
  rw [← kk.block b dA hm]
  refine hk.block b (Zay dA kk.size) (fun hf=>?_)
  rcases hb b (ZE _ hf) with h | h
  ·omega
  ·exact hm h
 ·refine ZF.2 ⟨tX,n2,fun x hx y hy e=>?_⟩
  subst e
  rcases yh x hx with h | h
  ·exact n12 x h x hy rfl
  ·have:=aK x hy;omega
 ·exact hk.block b (aK b dA) (fun hf=>n12 b hf b dA rfl)
 ·intro b dA
  rcases Zx.1 dA with h | h
  ·rcases yh b h with h | h
   ·exact hb b (ZE _ h)
   ·exact .inl (ZY kk.size h)
  ·exact hb b (ZS _ h)
def jC:Nat→List Value→aG
 | _,[]=>[]
 | i,v::vs=>(i,v)::jC (i+1) vs
theorem pD:∀ (vs:List Value) (i t:Nat) (v:Value),cK (jC i vs) t=some v→∃ j,t=i+j∧vs[j]? = some v
 | [],_,_,_,h=>by simp [jC,cK] at h
 | u :: us, i, t, v, h => by
  by_cases hit:i=t
  ·subst hit
   rw [jC,fB] at h
   exact ⟨0,rfl,by simpa using h⟩
  ·rw [jC,fA hit] at h
   obtain ⟨j,e,hj⟩:=pD us (i+1) t v h
   exact ⟨j+1,by omega,by simpa using hj⟩
theorem oL {f:FuncId} {fn:Func} {code:Code} {args:List Value} {w:World} {md:List Nat} {hs0:List a8} {R:Ending→World→Prop} (hf:P.funcs[f]? = some fn) (hb:fn.body=some code) (hl:args.length≤fn.ntmps)
  (h0:∃ fp:List Nat,fp.Nodup∧ch (hp w) hs0 fp∧∀ b∈fp,b∈md)
  (h:Tr ⟨w,md,fn.ntmps⟩ [] (jC 0 args) hs0 (WP P none code (bodyPostM (FR none) 0 P fn R))):Calls P f args.toArray w R:=by
 have hc:=callsIn_of_wp_marks (F:=FR none) (n:=0) (P:=P) (f:=f) (R:=R) (w:=w) (args:=args.toArray) hf hb trivial
  (h { tmps:=args.toArray++Array.replicate (fn.ntmps-args.toArray.size) undef,defers:=[] } w ⟨⟨.refl _ _,?_⟩,?_,?_,rfl⟩)
 ·exact (callsIn_wide (n:=0)).1 hc
 ·obtain ⟨fp,hn,ir,hm⟩:=h0
  exact ⟨fp,hn,by simpa [mw] using ir,fun b dA=>.inr (hm b dA)⟩
 ·intro t v hv
  obtain ⟨j,e,hj⟩:=pD args 0 t v hv
  have:t=j:=by omega
  subst this
  obtain ⟨aK,mM⟩:=Zl.1 hj
  simp [Array.getElem?_append,aK,mM]
 ·simp;omega
end
end Go.SL
namespace Go.SL
open Go
structure Rel where
 p:Value→World→Prop
 st:∀ {v:Value} {w w':World},p v w→aH [] w w'→p v w'
def Rel.val (V:Value):Rel:=⟨fun v _=>v=V,fun h _=>h⟩
abbrev eJ:=List (Nat×Rel)
def Ay (T:List Nat) (rl:eJ) (a:Act) (w:World):Prop:=∀ d R,(d,R)∈rl→d∈T→∃ v,a.tmps[d]? = some v∧R.p v w
def wW (P:Program) (o:Oper) (a:Act) (w:World) (R:Rel):Prop:=
 match (execOp a.eval o).run P w with
 | .ok (.value v) w'=>aH [] w w'∧R.p v w'
 | .ok (.enter f args) w'=>w'=w∧Calls P f args w (fun e wh=>∃ v,e=.returned v∧aH [] w wh∧R.p v wh)
 | _=>False
def tl (P:Program) (c:Cx) (hs:List a8) (ops:Array Oper) (sl:aG) (rl:eJ) (o:Oper) (R:Rel):Prop:=
 ∀ a w,bR sl a→Ay (o.looksAt ops) rl a w→Mem c hs w→if Region.wanted o (yielded ops a.tmps) then wW P o a w R else R.p undef w
def LQ (e:Edge):Bool:=Region.binds .any e
def mU (o:Oper):Bool:=match o.op with | .select ..=>false | .defer _=>false | _=>true
def eR (o:Oper) (i:Nat):Bool:=o.after.toList.any fun e=>LQ e&&Nat.beq e.on i
def has (l:List Nat) (t:Nat):Bool:=l.any (Nat.beq t)
theorem E9 {l:List Nat} {t:Nat}:has l t=true↔t∈l:=by
 simp [has,ZM]
def pX (ops:Array Oper) (x y:Oper) (i:Nat):Bool:=
 match x.dst,y.dst with
 | some d,some e=>!Nat.beq d e&&((!has (y.looksAt ops) d&&!has (x.looksAt ops) e)||eR y i)
 | _,_=>false
def kH (ops:Array Oper):List Oper→Nat→Bool
 | [],_=>true
 | x::r,i=>r.all (fun y=>pX ops x y i)&&kH ops r (i+1)
def tE:List Oper→Nat→Bool
 | [],_=>true
 | o::r,k=>o.after.toList.all (fun e=>!LQ e||Nat.blt e.on k)&&tE r (k+1)
def qe (acc:List Nat) (o:Oper):Nat:=o.after.toList.foldl (fun s e=>if LQ e then s ||| 2 ^ e.on ||| acc.getD e.on 0 else s) 0
def iC:List Oper→List Nat→List Nat
 | [],acc=>acc
 | o::r,acc=>iC r (acc++[qe acc o])
def yT (ms:List Nat):List Nat→Bool
 | []=>true
 | k::r=>(List.range k).all (fun i=>(ms.getD k 0).testBit i)&&yT ms r
def xK (l:List Oper) (m:Nat):Bool:=
 l.all mU&&tE l 0&&kH l.toArray (l.take m) 0&&(l.take m).all (fun o=>o.dst.isSome)&&yT (iC l []) (List.range' m (l.length-m))&&Nat.ble m l.length
theorem jO {l:List Oper}:∀ {s:Nat},tE l s=true→∀ {k:Nat} {o:Oper},l[k]? = some o→∀ e∈o.after,LQ e=true→e.on<s+k:=by
 induction l with
 | nil=>intro s _ k o h;simp at h
 | cons x r ih =>
  intro s h k o hk e he hb
  simp only [tE,Zm,Z3] at h
  cases k with
  | zero =>
   simp at hk;subst hk
   have:=h.1 e (by simpa using he)
   simpa [hb,Z4] using this
  | succ k =>
   have:=ih h.2 (k:=k) (by simpa using hk) e he hb
   omega
theorem re:∀ (l:List Oper) (acc:List Nat),∃ t,iC l acc=acc++t∧t.length=l.length
 | [],acc=>⟨[],by simp [iC]⟩
 | o :: r, acc => by
  obtain ⟨t,h,hl⟩:=re r (acc++[qe acc o])
  exact ⟨qe acc o::t,by simp [iC,h],by simp [hl]⟩
theorem uV:∀ (l:List Oper) (acc:List Nat) (k:Nat) (o:Oper),l[k]? = some o→(iC l acc).getD (acc.length+k) 0=qe ((iC l acc).take (acc.length+k)) o
 | [],_,_,_,h=>by simp at h
 | x :: r, acc, k, o, h => by
  obtain ⟨t,ht,hl⟩:=re r (acc++[qe acc x])
  cases k with
  | zero =>
   simp at h;subst h
   simp [iC,ht]
  | succ k =>
   have:=uV r (acc++[qe acc x]) k o (by simpa using h)
   simp only [Zg,ZJ,Zaa] at this
   rw [show acc.length+(k+1)=acc.length+(0+1)+k from by omega]
   exact this
theorem sL (acc:List Nat) (i:Nat):∀ (es:List Edge) (s:Nat),(es.foldl (fun s e=>if LQ e then s ||| 2 ^ e.on ||| acc.getD e.on 0 else s) s).testBit i=true →
  s.testBit i=true∨∃ e∈es,LQ e=true∧(i=e.on∨(acc.getD e.on 0).testBit i=true)
 | [],s,h=>.inl h
 | e :: es, s, h => by
  simp only [List.foldl_cons] at h
  rcases sL acc i es _ h with h | ⟨e',Hc,hb,h⟩
  ·by_cases hb:LQ e=true
   ·simp only [hb,if_true,Nat.testBit_or,ZP,Nat.testBit_two_pow,decide_eq_true_eq] at h
    rcases h with (h | h) | h
    ·exact .inl h
    ·exact .inr ⟨e,by simp,hb,.inl h.symm⟩
    ·exact .inr ⟨e,by simp,hb,.inr h⟩
   ·simp only [hb] at h
    exact .inl h
  ·exact .inr ⟨e',by simp [Hc],hb,h⟩
def DC (l:List Oper) (L:Nat→Prop):Prop:=∀ k o,l[k]? = some o→L k→∀ e∈o.after,LQ e=true→L e.on
theorem gZ {l:List Oper} {L:Nat→Prop} (wJ:DC l L) (Vd:tE l 0=true):∀ (k:Nat),k<l.length→L k→∀ i,((iC l []).getD k 0).testBit i=true→L i:=by
 intro k
 induction k using Nat.strongRecOn with
 | _ k ih =>
  intro hk hL i hi
  have ho:l[k]? = some l[k]:=Zc hk
  have hm:=uV l [] k _ ho
  simp only [Zaa,ZB] at hm
  rw [hm] at hi
  unfold qe at hi
  rcases sL _ i _ 0 hi with h | ⟨e,he,hb,h⟩
  ·simp at h
  ·have Hc:e∈l[k].after:=by simpa using he
   have aK:e.on<k:=by have:=jO Vd ho e Hc hb;omega
   have hLe:=wJ k _ ho hL e Hc hb
   rcases h with h | h
   ·rw [h];exact hLe
   ·refine ih e.on aK (by omega) hLe i ?_
    have:((iC l []).take k).getD e.on 0=(iC l []).getD e.on 0:=by
     simp [Zk,aK]
    rwa [this] at h
theorem mT {ops:Array Oper} {l:List Oper}:∀ {s:Nat},kH ops l s=true→∀ {i j:Nat} {x y:Oper},i<j→l[i]? = some x→l[j]? = some y→pX ops x y (s+i)=true:=by
 induction l with
 | nil=>intro s _ i j x y _ h;simp at h
 | cons o r ih =>
  intro s h i j x y wF hx hy
  simp only [kH,Zm,Z3] at h
  cases j with
  | zero=>omega
  | succ j =>
   cases i with
   | zero =>
    simp at hx;subst hx
    exact h.1 y (ZW (by simpa using hy))
   | succ i =>
    have:=ih h.2 (i:=i) (j:=j) (by omega) (by simpa using hx) (by simpa using hy)
    rwa [show s+1+i=s+(i+1) from by omega] at this
theorem oG {sl:aG} {T:List Nat} {a:Act} {nt:Nat} (hn:a.tmps.size=nt) (hk:∀ t v,cK sl t=some v→t<nt) (hT:∀ t∈T,∀ v,cK sl t=some v→a.tmps[t]? = some v) :
  ∃ a':Act,bR sl a'∧(∀ t∈T,a'.tmps[t]? = a.tmps[t]?)∧a'.tmps.size=nt:=by
 refine ⟨⟨Array.ofFn (n:=nt) fun t=>if (t:Nat)∈T then a.tmps.getD t undef else (cK sl t).getD undef,a.defers⟩,?_,?_,by simp⟩
 ·intro t v hv
  have aK:=hk t v hv
  simp only [Array.getElem?_ofFn,aK,dif_pos]
  by_cases ht:t∈T
  ·have:=hT t ht v hv
   simp [ht,Zy,this]
  ·simp [ht,hv]
 ·intro t ht
  by_cases aK:t<nt
  ·have:a.tmps[t]? = some (a.tmps[t]'(by omega)):=Zas (by omega)
   simp [ht,aK,Zy,this]
  ·rw [Zbt (by simp;omega),Zbt (by omega)]
theorem Ac {a a':Act} {x:Operand} (h:∀ t,x=.tmp t→a'.tmps[t]? = a.tmps[t]?):a'.eval x=a.eval x:=by
 cases x with
 | tmp t=>simp [Act.eval,Zy,h t rfl]
 | _=>rfl
theorem ix {o:Oper} {ops:Array Oper} {a a':Act} (ho:mU o=true) (h:∀ t∈o.looksAt ops,a'.tmps[t]? = a.tmps[t]?):execOp a'.eval o=execOp a.eval o:=by
 refine execOp_congr o (fun cs b he=>by simp [mU,he] at ho) fun x hx=>Ac fun t ht=>h t ?_
 subst ht
 unfold Oper.looksAt
 refine ZE _ ?_
 simp only [List.mem_filterMap]
 exact ⟨_,by simpa using hx,rfl⟩
theorem gU {o:Oper} {ops:Array Oper} {a a':Act} (h:∀ t∈o.looksAt ops,a'.tmps[t]? = a.tmps[t]?):Region.wanted o (yielded ops a'.tmps)=Region.wanted o (yielded ops a.tmps):=by
 unfold Region.wanted
 cases hg:o.guard with
 | none=>rfl
 | some gw =>
  obtain ⟨j,want⟩:=gw
  simp only []
  have:yielded ops a'.tmps j=yielded ops a.tmps j:=by
   unfold yielded
   cases hd:(ops[j]?).bind (·.dst) with
   | none=>rfl
   | some d =>
    have:=h d (by unfold Oper.looksAt;exact ZS _ (by simp [hg,hd]))
    simp [this]
  rw [this]
inductive sy (P:Program) (c:Cx) (hs:List a8) (ops:Array Oper):List Oper→aG→eJ→List Rel→aG→eJ→Prop
 | nil {sl:aG} {rl:eJ}:sy P c hs ops [] sl rl [] sl rl
 | val {o:Oper} {l:List Oper} {sl jk:aG} {rl kE:eJ} {d:Nat} {V:Value} {S:List Rel} (hd:o.dst=some d) (fH:d<c.nt) (h:tl P c hs ops sl rl o (.val V)) (t:sy P c hs ops l ((d,V)::sl) rl S jk kE) :
   sy P c hs ops (o::l) sl rl (.val V::S) jk kE
 | rel {o:Oper} {l:List Oper} {sl jk:aG} {rl kE:eJ} {d:Nat} {R:Rel} {S:List Rel} (hd:o.dst=some d) (fH:d<c.nt) (hn:cK sl d=none) (h:tl P c hs ops sl rl o R) (t:sy P c hs ops l sl ((d,R)::rl) S jk kE) :
   sy P c hs ops (o::l) sl rl (R::S) jk kE
theorem sy.at_ {P:Program} {c:Cx} {hs:List a8} {ops:Array Oper} {l:List Oper} {sl jk:aG} {rl kE:eJ} {S:List Rel} (h:sy P c hs ops l sl rl S jk kE) :
  ∀ (i : Nat) (o : Oper), l[i]? = some o → ∃ tM Lz R, S[i]? = some R ∧ tl P c hs ops tM Lz o R ∧
   (∀ t v,cK tM t=some v→(∃ (j:Nat) (oj:Oper),j<i∧l[j]? = some oj∧oj.dst=some t∧S[j]? = some (.val v))∨((∀ (j:Nat) (oj:Oper),j<i→l[j]? = some oj→oj.dst≠some t)∧cK sl t=some v)) ∧
   (∀ t Rt,(t,Rt)∈Lz→(∃ (j:Nat) (oj:Oper),j<i∧l[j]? = some oj∧oj.dst=some t∧S[j]? = some Rt)∨(t,Rt)∈rl):=by
 induction h with
 | nil=>intro i o h;simp at h
 | @val o0 l sl jk rl kE d V S hd fH bb t ih =>
  intro i o ho
  cases i with
  | zero =>
   simp at ho;subst ho
   exact ⟨sl,rl,.val V,rfl,bb,fun t v hv=>.inr ⟨fun j _ hj=>by omega,hv⟩,fun t Rt hm=>.inr hm⟩
  | succ i =>
   obtain ⟨tM,Lz,R,hR,hs',h1,h2⟩:=ih i o (by simpa using ho)
   refine ⟨tM,Lz,R,by simpa using hR,hs',fun t v hv=>?_,fun t Rt hm=>?_⟩
   ·rcases h1 t v hv with ⟨j,oj,hj,iO,iE,jH⟩ | ⟨pH,mM⟩
    ·exact .inl ⟨j+1,oj,by omega,by simpa using iO,iE,by simpa using jH⟩
    ·by_cases wH:d=t
     ·subst wH
      rw [fB] at mM
      cases mM
      exact .inl ⟨0,o0,by omega,rfl,hd,rfl⟩
     ·rw [fA wH] at mM
      refine .inr ⟨fun j oj hj iO=>?_,mM⟩
      cases j with
      | zero=>simp at iO;subst iO;rw [hd];simp [wH]
      | succ j=>exact pH j oj (by omega) (by simpa using iO)
   ·rcases h2 t Rt hm with ⟨j,oj,hj,iO,iE,jH⟩ | aB
    ·exact .inl ⟨j+1,oj,by omega,by simpa using iO,iE,by simpa using jH⟩
    ·exact .inr aB
 | @rel o0 l sl jk rl kE d R0 S hd fH hn bb t ih =>
  intro i o ho
  cases i with
  | zero =>
   simp at ho;subst ho
   exact ⟨sl,rl,R0,rfl,bb,fun t v hv=>.inr ⟨fun j _ hj=>by omega,hv⟩,fun t Rt hm=>.inr hm⟩
  | succ i =>
   obtain ⟨tM,Lz,R,hR,hs',h1,h2⟩:=ih i o (by simpa using ho)
   refine ⟨tM,Lz,R,by simpa using hR,hs',fun t v hv=>?_,fun t Rt hm=>?_⟩
   ·rcases h1 t v hv with ⟨j,oj,hj,iO,iE,jH⟩ | ⟨pH,mM⟩
    ·exact .inl ⟨j+1,oj,by omega,by simpa using iO,iE,by simpa using jH⟩
    ·have wH:d≠t:=fun e=>by subst e;rw [hn] at mM;cases mM
     refine .inr ⟨fun j oj hj iO=>?_,mM⟩
     cases j with
     | zero=>simp at iO;subst iO;rw [hd];simp [wH]
     | succ j=>exact pH j oj (by omega) (by simpa using iO)
   ·rcases h2 t Rt hm with ⟨j,oj,hj,iO,iE,jH⟩ | aB
    ·exact .inl ⟨j+1,oj,by omega,by simpa using iO,iE,by simpa using jH⟩
    ·rcases ZR.1 aB with e | Rv
     ·cases e
      exact .inl ⟨0,o0,by omega,rfl,hd,rfl⟩
     ·exact .inr Rv
theorem sy.end_ {P:Program} {c:Cx} {hs:List a8} {ops:Array Oper} {l:List Oper} {sl jk:aG} {rl kE:eJ} {S:List Rel} (h:sy P c hs ops l sl rl S jk kE) :
   (∀ t v,cK jk t=some v→(∃ (j:Nat) (oj:Oper),l[j]? = some oj∧oj.dst=some t∧S[j]? = some (.val v))∨((∀ (j:Nat) (oj:Oper),l[j]? = some oj→oj.dst≠some t)∧cK sl t=some v)) ∧
   (∀ t Rt,(t,Rt)∈kE→(∃ (j:Nat) (oj:Oper),l[j]? = some oj∧oj.dst=some t∧S[j]? = some Rt)∨(t,Rt)∈rl) ∧
   (∀ (j:Nat) (oj:Oper),l[j]? = some oj→∃ d R,oj.dst=some d∧d<c.nt∧S[j]? = some R):=by
 induction h with
 | nil=>exact ⟨fun t v hv=>.inr ⟨fun j oj h=>by simp at h,hv⟩,fun t Rt hm=>.inr hm,fun j oj h=>by simp at h⟩
 | @val o0 l sl jk rl kE d V S hd fH bb t ih =>
  obtain ⟨h1,h2,h3⟩:=ih
  refine ⟨fun t v hv=>?_,fun t Rt hm=>?_,fun j oj hj=>?_⟩
  ·rcases h1 t v hv with ⟨j,oj,iO,iE,jH⟩ | ⟨pH,mM⟩
   ·exact .inl ⟨j+1,oj,by simpa using iO,iE,by simpa using jH⟩
   ·by_cases wH:d=t
    ·subst wH
     rw [fB] at mM
     cases mM
     exact .inl ⟨0,o0,rfl,hd,rfl⟩
    ·rw [fA wH] at mM
     refine .inr ⟨fun j oj iO=>?_,mM⟩
     cases j with
     | zero=>simp at iO;subst iO;rw [hd];simp [wH]
     | succ j=>exact pH j oj (by simpa using iO)
  ·rcases h2 t Rt hm with ⟨j,oj,iO,iE,jH⟩ | aB
   ·exact .inl ⟨j+1,oj,by simpa using iO,iE,by simpa using jH⟩
   ·exact .inr aB
  ·cases j with
   | zero=>simp at hj;subst hj;exact ⟨d,_,hd,fH,rfl⟩
   | succ j=>obtain ⟨d',R',h⟩:=h3 j oj (by simpa using hj);exact ⟨d',R',by simpa using h⟩
 | @rel o0 l sl jk rl kE d R0 S hd fH hn bb t ih =>
  obtain ⟨h1,h2,h3⟩:=ih
  refine ⟨fun t v hv=>?_,fun t Rt hm=>?_,fun j oj hj=>?_⟩
  ·rcases h1 t v hv with ⟨j,oj,iO,iE,jH⟩ | ⟨pH,mM⟩
   ·exact .inl ⟨j+1,oj,by simpa using iO,iE,by simpa using jH⟩
   ·have wH:d≠t:=fun e=>by subst e;rw [hn] at mM;cases mM
    refine .inr ⟨fun j oj iO=>?_,mM⟩
    cases j with
    | zero=>simp at iO;subst iO;rw [hd];simp [wH]
    | succ j=>exact pH j oj (by simpa using iO)
  ·rcases h2 t Rt hm with ⟨j,oj,iO,iE,jH⟩ | aB
   ·exact .inl ⟨j+1,oj,by simpa using iO,iE,by simpa using jH⟩
   ·rcases ZR.1 aB with e | Rv
    ·cases e
     exact .inl ⟨0,o0,rfl,hd,rfl⟩
    ·exact .inr Rv
  ·cases j with
   | zero=>simp at hj;subst hj;exact ⟨d,_,hd,fH,rfl⟩
   | succ j=>obtain ⟨d',R',h⟩:=h3 j oj (by simpa using hj);exact ⟨d',R',by simpa using h⟩
end Go.SL
namespace Go.SL
open Go
section
variable {P:Program} {r:Option Nat} {c:Cx} {D:List Nat} {sl jk:aG} {kE:eJ} {hs:List a8} {Q:Exit→Act→World→Prop} {l:List Oper} {m:Nat} {S:List Rel}
def Ls (listed:Array Bool) (i:Nat):Prop:=listed.getD i false=true
theorem eQ (n i:Nat):¬ Ls (Array.replicate n false) i:=by
 unfold Ls
 rw [Zy,Array.getElem?_replicate]
 split <;> simp
theorem ct {listed:Array Bool} {i j:Nat} (hi:i<listed.size):Ls (listed.setIfInBounds i true) j↔(j=i∨Ls listed j):=by
 unfold Ls
 by_cases h:i=j
 ·subst h
  simp [Zy,hi]
 ·have h':¬ j=i:=fun e=>h e.symm
  simp [Zy,ZH h,h']
theorem Fc {listed:Array Bool} {i:Nat} (hi:i<listed.size):listed.getD i true=false↔¬ Ls listed i:=by
 unfold Ls
 simp [Zy,hi]
theorem dE {listed:Array Bool} (hsz:listed.size=l.length) {i:Nat}:i∈Region.ready .any l.toArray listed↔∃ o,l[i]? = some o∧¬ Ls listed i∧∀ e∈o.after,LQ e=true→Ls listed e.on:=by
 rw [mem_ready]
 constructor
 ·rintro ⟨h1,o,ho,h2⟩
  have E7:l[i]? = some o:=by simpa using ho
  have hi:i<listed.size:=by rw [hsz];exact (Zl.1 E7).1
  exact ⟨o,E7,(Fc hi).1 h1,h2⟩
 ·rintro ⟨o,ho,h1,h2⟩
  have hi:i<listed.size:=by rw [hsz];exact (Zl.1 ho).1
  exact ⟨(Fc hi).2 h1,o,by simpa using ho,h2⟩
theorem ji {listed:Array Bool} (hsz:listed.size=l.length) (Vd:tE l 0=true) (h:∃ i,i<l.length∧¬ Ls listed i):∃ i,i∈Region.ready .any l.toArray listed:=by
 obtain ⟨i,hi,hn⟩:=h
 induction i using Nat.strongRecOn with
 | _ i ih =>
  by_cases dT:∀ j,j<i→Ls listed j
  ·refine ⟨i,(dE hsz).2 ⟨l[i],Zc hi,hn,fun e he hb=>dT _ ?_⟩⟩
   have:=jO Vd (Zc hi) e he hb
   omega
  ·have:∃ j,j<i∧¬ Ls listed j:=by
    apply Classical.byContradiction
    intro hc
    exact dT fun j hj=>Classical.byContradiction fun tX=>hc ⟨j,hj,tX⟩
   obtain ⟨j,hj,hnj⟩:=this
   exact ih j hj (by omega) hnj
theorem sC {ms:List Nat}:∀ {ks:List Nat},yT ms ks=true→∀ k∈ks,∀ i,i<k→(ms.getD k 0).testBit i=true
 | [],_,k,hk=>by cases hk
 | x :: ks, h, k, hk => by
  simp only [yT,Zm,Z3,ZT] at h
  rcases ZR.1 hk with e | hk
  ·subst e;exact h.1
  ·exact sC h.2 k hk
structure SJ (l:List Oper) (m:Nat):Prop where
 op:∀ o∈l,mU o=true
 ac:tE l 0=true
 By:kH l.toArray (l.take m) 0=true
 tail:∀ k,m≤k→k<l.length→∀ i,i<k→((iC l []).getD k 0).testBit i=true
 le:m≤l.length
theorem uN (h:xK l m=true):SJ l m:=by
 simp only [xK,Zm,Z3] at h
 obtain ⟨⟨⟨⟨⟨h1,h2⟩,h3⟩,_⟩,h5⟩,h6⟩:=h
 refine ⟨h1,h2,h3,fun k hk aK=>sC h5 k ?_,by simpa using h6⟩
 rw [ZaK]
 omega
theorem pV (hc:SJ l m) {listed:Array Bool} (hsz:listed.size=l.length) (wJ:DC l (Ls listed)) {i:Nat} (hi:i∈Region.ready .any l.toArray listed) (hm:m≤i):∀ j,j<i→Ls listed j:=by
 intro j hj
 obtain ⟨o,ho,hn,hd⟩:=(dE hsz).1 hi
 have aK:i<l.length:=(Zl.1 ho).1
 have DR:DC l (fun k=>k=i∨Ls listed k):=by
  intro k ok hk hL e he hb
  rcases hL with e' | hL
  ·subst e'
   rw [ho] at hk;cases hk
   exact .inr (hd e he hb)
  ·exact .inr (wJ k ok hk hL e he hb)
 rcases gZ DR hc.ac i aK (.inl rfl) j (hc.tail i hm aK j hj) with h | h
 ·omega
 ·exact h
theorem CR {o:Oper} {rest:List Oper} {i:Nat} {ops:Array Oper} {K:Act→World→Prop} {a:Act} {w:World} (hi:ops[i]? = some o) (hK:∀ a w,WL P r ops Q rest a w→K a w) (h:WL P r ops Q (o::rest) a w):wpOpIn (FR r) 0 P ops Q i K a w:=by
 unfold wpOpIn
 simp only [hi]
 unfold WL at h
 split
 ·rename_i hw
  rw [if_pos hw] at h
  exact Oper.wpIn_mono hK h
 ·rename_i hw
  rw [if_neg hw] at h
  exact ⟨fun _ _=>trivial,hK _ _ h⟩
theorem Dv (hc:SJ l m):∀ (fuel k:Nat) (listed:Array Bool) (a:Act) (w:World),m≤k→k+fuel=l.length→listed.size=l.length→(∀ i,i<l.length→(Ls listed i↔i<k)) →
  WL P r l.toArray Q (l.drop k) a w→wpAnyIn (FR r) 0 P .any l.toArray Q fuel listed a w
 | 0, k, listed, a, w, _, hk, hsz, hL, h => by
  refine ⟨?_,by rw [ZaZ (by omega)] at h;exact h⟩
  apply List.eq_nil_iff_forall_not_mem.2
  intro i hi
  obtain ⟨o,ho,hn,_⟩:=(dE hsz).1 hi
  have aK:=(Zl.1 ho).1
  exact hn ((hL i aK).2 (by omega))
 | fuel + 1, k, listed, a, w, LL, hk, hsz, hL, h => by
  have wJ:DC l (Ls listed):=fun k' o' E7 GK e he hb=>by
   have aK:=(Zl.1 E7).1
   have:=jO hc.ac E7 e he hb
   exact (hL e.on (by omega)).2 (by have:=(hL k' aK).1 GK;omega)
  have NH:k<l.length:=by omega
  refine ⟨fun h0=>?_,fun i hi=>?_⟩
  ·obtain ⟨i,hi⟩:=ji hsz hc.ac ⟨k,NH,fun hh=>by have:=(hL k NH).1 hh;omega⟩
   rw [h0] at hi;cases hi
  ·obtain ⟨o,ho,hn,_⟩:=(dE hsz).1 hi
   have aK:=(Zl.1 ho).1
   have RD:k≤i:=ZaQ fun hh=>hn ((hL i aK).2 hh)
   have:i=k:=by
    rcases Zbm k i with hh | hh
    ·have:=(hL k NH).1 (pV hc hsz wJ hi (by omega) k hh)
     omega
    ·omega
   subst this
   rw [Zw aK] at h
   have E7:l[i]=o:=by rw [Zc aK] at ho;exact Option.some.inj ho
   rw [E7] at h
   refine CR (by simpa using ho) (fun a' w' h'=>Dv hc fuel (i+1) _ a' w' (by omega) (by omega) (by simpa using hsz) (fun j hj=>?_) h') h
   rw [ct (by omega)]
   have:=hL j hj
   constructor
   ·rintro (e | hh)
    ·omega
    ·have:=this.1 hh;omega
   ·intro hh
    by_cases e:j=i
    ·exact .inl e
    ·exact .inr (this.2 (by omega))
structure Inv1 (c:Cx) (D:List Nat) (hs:List a8) (l:List Oper) (m:Nat) (S:List Rel) (a0:Act) (fuel:Nat) (listed:Array Bool) (a:Act) (w:World):Prop where
 sz:listed.size=l.length
 dc:DC l (Ls listed)
 hi:∀ k,m≤k→¬ Ls listed k
 mem:Mem c (hs++mw D) w
 defers:a.defers=D.map mark
 size:a.tmps.size=c.nt
 BA:∀ t,(∀ (j:Nat) (o:Oper),l[j]? = some o→Ls listed j→o.dst≠some t)→a.tmps[t]? = a0.tmps[t]?
 new:∀ (j:Nat) (o:Oper),l[j]? = some o→Ls listed j→∀ d R,o.dst=some d→S[j]? = some R→∃ v,a.tmps[d]? = some v∧R.p v w
 left:∃ U:List Nat,U.Nodup∧(∀ i,i∈U↔i<l.length∧¬ Ls listed i)∧U.length=fuel
theorem lO (hc:SJ l m) {i j:Nat} {x y:Oper} (wF:i<j) (hj:j<m) (hx:l[i]? = some x) (hy:l[j]? = some y):pX l.toArray x y i=true:=by
 have:=mT hc.By (i:=i) (j:=j) wF (by rw [ZC,if_pos (by omega)];exact hx) (by rw [ZC,if_pos hj];exact hy)
 simpa using this
theorem di {ops:Array Oper} {x y:Oper} {i d e:Nat} (h:pX ops x y i=true) (hx:x.dst=some d) (hy:y.dst=some e):d≠e∧((d∈y.looksAt ops∨e∈x.looksAt ops)→eR y i=true):=by
 simp only [pX,hx,hy,Zm,Zbn,ZP] at h
 obtain ⟨h1,h2⟩:=h
 refine ⟨fun e'=>by subst e';simp at h1,fun h3=>?_⟩
 rcases h2 with ⟨h4,h5⟩ | h2
 ·rcases h3 with h3 | h3
  ·rw [E9.2 h3] at h4;cases h4
  ·rw [E9.2 h3] at h5;cases h5
 ·exact h2
theorem c5 {o:Oper} {i:Nat} (h:eR o i=true):∃ e∈o.after,LQ e=true∧e.on=i:=by
 simp only [eR,ZM,Zm] at h
 obtain ⟨e,he,hb,nL⟩:=h
 exact ⟨e,by simpa using he,hb,Zae nL⟩
theorem BL (hc:SJ l m) (hl:m≤l.length) {a0 a:Act} {w w':World} {fuel i d:Nat} {listed:Array Bool} {o:Oper} {R:Rel} {v:Value} (hI:Inv1 c D hs l m S a0 (fuel+1) listed a w)
  (hi:i∈Region.ready .any l.toArray listed) (o8:i<m) (ho:l[i]? = some o) (hd:o.dst=some d) (fH:d<c.nt) (rp:S[i]? = some R)
  (Yr:∀ (j:Nat) (oj:Oper),j<m→l[j]? = some oj→∃ e,oj.dst=some e) (hk:aH [] w w') (hv:R.p v w'):Inv1 c D hs l m S a0 fuel (listed.setIfInBounds i true) (a.put o.dst v) w':=by
 obtain ⟨o',E7,hn,lQ⟩:=(dE hI.sz).1 hi
 rw [ho] at E7;cases E7
 have iw:i<listed.size:=by rw [hI.sz];omega
 have _:=Yr
 have pI:∀ (j:Nat) (oj:Oper) (e:Nat),l[j]? = some oj→j<m→j≠i→oj.dst=some e→e≠d:=by
  intro j oj e hj ig hne he
  rcases Zbm j i with h | h
  ·exact (di (lO hc h o8 hj ho) he hd).1
  ·exact fun e'=>(di (lO hc (show i<j by omega) ig ho hj) hd he).1 e'.symm
 rw [hd]
 refine ⟨by simpa using hI.sz,?_,?_,hI.mem.rh hk,hI.defers,by simpa [Act.put] using hI.size,?_,?_,?_⟩
 ·intro k ok rH hL e he hb
  rw [ct iw] at hL ⊢
  rcases hL with e' | hL
  ·subst e'
   rw [ho] at rH;cases rH
   exact .inr (lQ e he hb)
  ·exact .inr (hI.dc k ok rH hL e he hb)
 ·intro k rH hL
  rw [ct iw] at hL
  rcases hL with e | hL
  ·omega
  ·exact hI.hi k rH hL
 ·intro t ht
  have h1:d≠t:=fun e=>by subst e;exact ht i o ho ((ct iw).2 (.inl rfl)) hd
  simp only [Act.put,ZH h1]
  exact hI.BA t fun j oj hj hL=>ht j oj hj ((ct iw).2 (.inr hL))
 ·intro j oj hj hL e Rj he LO
  rw [ct iw] at hL
  by_cases nq:j=i
  ·subst nq
   rw [ho] at hj;cases hj
   rw [hd] at he;cases he
   rw [rp] at LO;cases LO
   exact ⟨v,by simp [Act.put,hI.size,fH],hv⟩
  ·have AN:=hL.resolve_left nq
   obtain ⟨u,hu,hp⟩:=hI.new j oj hj AN e Rj he LO
   have ig:j<m:=ZQ fun h=>hI.hi j h AN
   have hne:e≠d:=pI j oj e hj ig nq he
   refine ⟨u,?_,Rj.st hp hk⟩
   simp only [Act.put,ZH (Ne.symm hne)]
   exact hu
 ·obtain ⟨U,wK,ql,r7⟩:=hI.left
  have RF:i∈U:=(ql i).2 ⟨by omega,hn⟩
  refine ⟨U.erase i,wK.erase i,fun j=>?_,by rw [ZaD RF,r7];rfl⟩
  rw [wK.mem_erase_iff,ql j,ct iw]
  constructor
  ·rintro ⟨h1,h2,h3⟩
   exact ⟨h2,fun h=>h.elim h1 h3⟩
  ·rintro ⟨h1,h2⟩
   exact ⟨fun e=>h2 (.inl e),h1,fun h=>h2 (.inr h)⟩
def Ek (rl:eJ) (a:Act) (w:World):Prop:=∀ d R,(d,R)∈rl→∃ v,a.tmps[d]? = some v∧R.p v w
theorem QD (hc:SJ l m) (hp:sy P c hs l.toArray (l.take m) sl [] S jk kE) {a0:Act} (h0:bR sl a0) (Kc:a0.tmps.size=c.nt)
  (tail:∀ a w,St c D jk hs a w→Ek kE a w→WL P r l.toArray Q (l.drop m) a w) :
  ∀ (fuel:Nat) (listed:Array Bool) (a:Act) (w:World),Inv1 c D hs l m S a0 fuel listed a w→wpAnyIn (FR r) 0 P .any l.toArray Q fuel listed a w:=by
 have l9:=hp.end_
 have dY:∀ (j:Nat) (o:Oper),j<m→l[j]? = some o→(l.take m)[j]? = some o:=fun j o hj ho=>by rw [ZC,if_pos hj];exact ho
 have fu:∀ (j:Nat) (o:Oper),(l.take m)[j]? = some o→j<m∧l[j]? = some o:=fun j o ho=>by
  rw [ZC] at ho
  split at ho
  ·exact ⟨by assumption,ho⟩
  ·cases ho
 have mA:∀ fuel listed a w,Inv1 c D hs l m S a0 fuel listed a w→(∀ i,i<m→Ls listed i)→wpAnyIn (FR r) 0 P .any l.toArray Q fuel listed a w:=by
  intro fuel listed a w hI dT
  have hL:∀ i,i<l.length→(Ls listed i↔i<m):=fun i _=>⟨fun h=>ZQ fun hm=>hI.hi i hm h,dT i⟩
  obtain ⟨U,wK,ql,r7⟩:=hI.left
  have ic:U.Perm (List.range' m (l.length-m)):=by
   rw [Zaz wK (Zby)]
   intro i
   rw [ql i,ZaK]
   constructor
   ·rintro ⟨h1,h2⟩
    exact ⟨ZaQ fun h=>h2 (dT i h),by omega⟩
   ·rintro ⟨h1,h2⟩
    exact ⟨by omega,hI.hi i h1⟩
  have hlen:fuel=l.length-m:=by rw [← r7,ic.length_eq,Zbv]
  refine Dv hc fuel m listed a w (Zz _) (by have:=hc.le;omega) hI.sz hL (tail a w ⟨hI.mem,?_,hI.size,hI.defers⟩ ?_)
  ·intro t v hv
   rcases l9.1 t v hv with ⟨j,oj,hj,iE,jH⟩ | ⟨pH,mM⟩
   ·obtain ⟨ig,l8⟩:=fu j oj hj
    obtain ⟨u,hu,np⟩:=hI.new j oj l8 (dT j ig) t _ iE jH
    rw [hu,show u=v from np]
   ·rw [hI.BA t fun j oj hj jF=>pH j oj (dY j oj (ZQ fun hm=>hI.hi j hm jF) hj)]
    exact h0 t v mM
  ·intro d R hm
   rcases l9.2.1 d R hm with ⟨j,oj,hj,iE,jH⟩ | aB
   ·obtain ⟨ig,l8⟩:=fu j oj hj
    exact hI.new j oj l8 (dT j ig) d R iE jH
   ·cases aB
 intro fuel
 induction fuel with
 | zero =>
  intro listed a w hI
  obtain ⟨U,_,ql,r7⟩:=hI.left
  have hU:U=[]:=Zan.1 r7
  refine mA 0 listed a w hI fun i hi=>Classical.byContradiction fun hn=>?_
  have:=(ql i).2 ⟨by have:=hc.le;omega,hn⟩
  rw [hU] at this;cases this
 | succ fuel ih =>
  intro listed a w hI
  by_cases dT:∀ i,i<m→Ls listed i
  ·exact mA _ listed a w hI dT
  ·have hex:∃ i,i<m∧¬ Ls listed i:=Classical.byContradiction fun hh=>dT fun i hi=>Classical.byContradiction fun hn=>hh ⟨i,hi,hn⟩
   obtain ⟨i0,wG,px⟩:=hex
   refine ⟨fun hr=>?_,fun i hi=>?_⟩
   ·obtain ⟨i,hi⟩:=ji hI.sz hc.ac ⟨i0,by have:=hc.le;omega,px⟩
    rw [hr] at hi;cases hi
   ·have o8:i<m:=ZQ fun hm=>px (pV hc hI.sz hI.dc hi hm i0 (by omega))
    obtain ⟨o,ho,hn,lQ⟩:=(dE hI.sz).1 hi
    obtain ⟨tM,Lz,R,R3,fW,hs1,hs2⟩:=hp.at_ i o (dY i o o8 ho)
    obtain ⟨d,R',hd,fH,rp⟩:=l9.2.2 i o (dY i o o8 ho)
    rw [R3] at rp;cases rp
    have kr:∀ (j:Nat),eR o j=true→Ls listed j:=fun j hw=>by
     obtain ⟨e,he,hb,nL⟩:=c5 hw
     rw [← nL];exact lQ e he hb
    have B4:∀ (j t:Nat) (oj:Oper),j<i→(l.take m)[j]? = some oj→oj.dst=some t→t∈o.looksAt l.toArray→Ls listed j:=by
     intro j t oj hj iO iE ht
     obtain ⟨ig,l8⟩:=fu j oj iO
     exact kr j ((di (lO hc hj o8 l8 ho) iE hd).2 (.inl ht))
    have hT:∀ t∈o.looksAt l.toArray,∀ v,cK tM t=some v→a.tmps[t]? = some v:=by
     intro t ht v hv
     rcases hs1 t v hv with ⟨j,oj,hj,iO,iE,jH⟩ | ⟨pH,mM⟩
     ·obtain ⟨u,hu,np⟩:=hI.new j oj (fu j oj iO).2 (B4 j t oj hj iO iE ht) t _ iE jH
      rw [hu,show u=v from np]
     ·rw [hI.BA t fun j oj hj jF iE=>?_]
      ·exact h0 t v mM
      ·have ig:j<m:=ZQ fun hm=>hI.hi j hm jF
       rcases Zak j i with h | h | h
       ·exact pH j oj h (dY j oj ig hj) iE
       ·subst h;exact hn jF
       ·have hw:=(di (lO hc h ig ho hj) hd iE).2 (.inr ht)
        obtain ⟨e,he,hb,nL⟩:=c5 hw
        have:=hI.dc j oj hj jF e he hb
        rw [nL] at this
        exact hn this
    have vj:∀ t v,cK tM t=some v→t<c.nt:=by
     intro t v hv
     rcases hs1 t v hv with ⟨j,oj,_,iO,iE,_⟩ | ⟨_,mM⟩
     ·obtain ⟨d',_,wa,zU,_⟩:=l9.2.2 j oj iO
      rw [iE] at wa;cases wa
      exact zU
     ·have:=h0 t v mM
      rw [← Kc]
      exact (ZX.1 this).1
    obtain ⟨a',lR,jz,_⟩:=oG hI.size vj hT
    have Rk:Ay (o.looksAt l.toArray) Lz a' w:=by
     intro t Rt hm ht
     rcases hs2 t Rt hm with ⟨j,oj,hj,iO,iE,jH⟩ | aB
     ·obtain ⟨v,hv,np⟩:=hI.new j oj (fu j oj iO).2 (B4 j t oj hj iO iE ht) t _ iE jH
      exact ⟨v,by rw [jz t ht];exact hv,np⟩
     ·cases aB
    have hq:=fW a' w lR Rk hI.mem.lp
    have CI:mU o=true:=hc.op o (ZW ho)
    have hex:=ix (o:=o) (ops:=l.toArray) CI jz
    rw [gU jz] at hq
    have gL:∀ v w',aH [] w w'→R.p v w'→wpAnyIn (FR r) 0 P .any l.toArray Q fuel (listed.setIfInBounds i true) (a.put o.dst v) w':=fun v w' hk hv=>
     ih _ _ _ (BL hc hc.le hI hi o8 ho hd fH R3 (fun j oj hj iO=>let ⟨e,_,he,_⟩:=l9.2.2 j oj (dY j oj hj iO);⟨e,he⟩) hk hv)
    unfold wpOpIn
    rw [show l.toArray[i]? = some o from by simpa using ho]
    simp only []
    split
    ·rename_i hw
     rw [if_pos hw] at hq
     refine ⟨dM _ _ _ _ _,?_⟩
     rw [Oper.semAt_eq _ _ _ (fun cc he=>by simp [mU,he] at CI),← hex]
     unfold wW at hq
     revert hq
     generalize (execOp a'.eval o).run P w=res
     intro hq
     match res,hq with
     | .ok (.value v) w',⟨hk,hv⟩=>exact gL v w' hk hv
     | .ok (.enter f args) w', ⟨e, cr⟩ =>
      subst e
      refine ⟨by simp [FR,Fence.wide],(ie cr).mono fun e wh h=>?_⟩
      obtain ⟨v,rfl,hk,hv⟩:=h
      exact gL v wh hk hv
    ·rename_i hw
     rw [if_neg hw] at hq
     exact ⟨fun _ _=>trivial,gL undef w (.refl _ _) hq⟩
theorem yN {id:Nat} (qh:P.follows .mixedOrders=true) (fK:xK l m=true) (hp:sy P c hs l.toArray (l.take m) sl [] S jk kE)
  (tail:∀ a w,St c D jk hs a w→Ek kE a w→WL P r l.toArray Q (l.drop m) a w):Tr c D sl hs (WP P r (.region id l.toArray true) Q):=fun a w bb=>by
 unfold WP
 refine wpIn_region_any qh ?_
 refine QD (uN fK) hp bb.cS bb.size tail l.toArray.size _ a _ ⟨by simp,?_,?_,?_,bb.defers,bb.size,fun t _=>rfl,?_,List.range l.length,Zbs,?_,by simp⟩
 ·exact fun k o _ hL=>absurd hL (eQ _ _)
 ·exact fun k _ hL=>eQ _ _ hL
 ·exact bb.mem.drew
 ·exact fun j o _ hL=>absurd hL (eQ _ _)
 ·exact fun i=>⟨fun h=>⟨by simpa using h,eQ _ _⟩,fun h=>by simpa using h.1⟩
end
end Go.SL
namespace Go.SL
open Go
def leq:Value→Value→Option Bool
 | .int k a,.int k' b=>if k=k' then some (decide (a=b)) else none
 | .string a,.string b=>some (decide (a=b))
 | .bool a,.bool b=>some (a==b)
 | _,_=>none
def we:List Value→List Value→Option Bool
 | [],[]=>some true
 | x :: xs, y :: ys => match leq x y, we xs ys with
  | some p,some q=>some (p&&q)
  | _,_=>none
 | _,_=>none
def I7:Option TypeDesc→Bool
 | some (.int _) | some .string | some .bool=>true
 | _=>false
section
variable {P:Program} {w:World}
theorem EW {d:Nat} {t:TypeId} {x y:Value} {b:Bool} (hl:I7 (P.underlying t)=true) (hk:∀ k,P.underlying t=some (.int k)→∃ a,x=.int k a) (hs:P.underlying t=some .string→∃ a,x=.string a) (hb:P.underlying t=some .bool→∃ a,x=.bool a)
  (h:leq x y=some b):(Op.equalIn (d+1) t x y).run P w=.ok b w:=by
 cases hu:P.underlying t with
 | none=>rw [hu] at hl;cases hl
 | some D =>
  rw [hu] at hl
  cases D with
  | int k =>
   obtain ⟨a,rfl⟩:=hk k hu
   cases y <;> simp only [leq] at h <;> try cases h
   rename_i k' b'
   split at h
   ·rename_i e;subst e;cases h
    rw [run_equalIn_int w d t k k a b' hu];congr 1
   ·cases h
  | string =>
   obtain ⟨a,rfl⟩:=hs hu
   cases y <;> simp only [leq,Option.some.injEq] at h <;> try cases h
   rw [run_equalIn_string w d t a _ hu,tL]
  | bool =>
   obtain ⟨a,rfl⟩:=hb hu
   cases y <;> simp only [leq,Option.some.injEq] at h <;> try cases h
   rw [run_equalIn_bool' w d t a _ hu]
  | _=>cases hl
end
def u0 (D:Option TypeDesc) (x:Value):Bool:=
 match D,x with
 | some (.int k),.int k' _=>decide (k=k')
 | some .string,.string _=>true
 | some .bool,.bool _=>true
 | _,_=>false
def pK (P:Program) (g:TypeId→Option (List TypeId)) (acc:Option (List TypeId)) (f:Field):Option (List TypeId):=
 match acc,g f.type,P.info? f.type with
 | some a,some m,some i=>if f.offset=a.length∧f.name ≠ "_" ∧ i.size=m.length then some (a++m) else none
 | _,_,_=>none
theorem qn (P:Program) (g:TypeId→Option (List TypeId)):∀ (fl:List Field),fl.foldl (pK P g) none=none
 | []=>rfl
 | f::fl=>by simp only [List.foldl_cons,pK];exact qn P g fl
theorem yl (P:Program) (g:TypeId→Option (List TypeId)):∀ (fl:List Field) (A ts:List TypeId),fl.foldl (pK P g) (some A)=some ts→∃ rest,ts=A++rest
 | [],A,ts,h=>⟨[],by simpa using h.symm⟩
 | f :: fl, A, ts, h => by
  simp only [List.foldl_cons] at h
  cases hs:pK P g (some A) f with
  | none=>rw [hs,qn] at h;cases h
  | some B =>
   rw [hs] at h
   obtain ⟨r,hr⟩:=yl P g fl B ts h
   unfold pK at hs
   split at hs
   ·rename_i a m i e1 _ _
    cases e1
    split at hs
    ·cases hs;exact ⟨m++r,by rw [hr];simp⟩
    ·cases hs
   ·cases hs
theorem DW {P:Program} {g:TypeId→Option (List TypeId)} {a B:List TypeId} {f:Field} (hs:pK P g (some a) f=some B) :
  ∃ m i,g f.type=some m∧P.info? f.type=some i∧f.offset=a.length∧f.name ≠ "_" ∧ i.size=m.length∧B=a++m:=by
 unfold pK at hs
 split at hs
 ·rename_i a' m i e1 e2 e3
  cases e1
  split at hs
  ·rename_i h;cases hs;exact ⟨m,i,e2,e3,h.1,h.2.1,h.2.2,rfl⟩
  ·cases hs
 ·cases hs
theorem Ad:∀ {xs ys:List Value} {b:Bool},we xs ys=some b→xs.length=ys.length
 | [],[],_,_=>rfl
 | [],_::_,_,h=>by simp [we] at h
 | _::_,[],_,h=>by simp [we] at h
 | x :: xs, y :: ys, b, h => by
  simp only [we] at h
  split at h
  ·rename_i p q hp hq;simp [Ad hq]
  ·cases h
def kJ (P:Program):Nat→TypeId→Option (List TypeId)
 | 0,_=>none
 | d + 1, t =>
  match P.underlying t with
  | some (.int _) | some .string | some .bool=>some [t]
  | some (.struct fs) =>
   if P.stoodInHeld t then none else
   fs.toList.foldl (pK P (kJ P d)) (some [])
  | some (.array n e) => match kJ P d e, P.info? e with
   | some m,some i=>if i.size=m.length then some ((List.replicate n m).flatten) else none
   | _,_=>none
  | _=>none
def rV (P:Program):List TypeId→List Value→Bool
 | [],[]=>true
 | t::ts,x::xs=>u0 (P.underlying t) x&&rV P ts xs
 | _,_=>false
section
variable {P:Program}
theorem mV:∀ {ts:List TypeId} {xs:List Value},rV P ts xs=true→xs.length=ts.length
 | [],[],_=>rfl
 | [],_::_,h=>by cases h
 | _::_,[],h=>by cases h
 | t :: ts, x :: xs, h => by
  simp only [rV,Zm] at h
  simp [mV h.2]
theorem mW:∀ {ts us:List TypeId} {xs:List Value},rV P (ts++us) xs=true→rV P ts (xs.take ts.length)=true∧rV P us (xs.drop ts.length)=true
 | [],us,xs,h=>by simpa [rV] using h
 | t::ts,us,[],h=>by simp [rV] at h
 | t :: ts, us, x :: xs, h => by
  simp only [Zb,rV,Zm] at h
  have:=mW h.2
  simp [rV,h.1,this]
theorem qt:∀ {n:Nat} {xs ys:List Value} {b:Bool},n≤xs.length→we xs ys=some b→∃ p q,we (xs.take n) (ys.take n)=some p∧we (xs.drop n) (ys.drop n)=some q∧b=(p&&q)
 | 0,xs,ys,b,_,h=>⟨true,b,by simp [we],by simpa using h,by simp⟩
 | n+1,[],ys,b,hn,h=>by simp at hn
 | n+1,x::xs,[],b,_,h=>by simp [we] at h
 | n + 1, x :: xs, y :: ys, b, hn, h => by
  simp only [we] at h
  split at h
  ·rename_i p q hp hq
   cases h
   obtain ⟨p',q',h1,h2,e⟩:=qt (n:=n) (by simpa using hn) hq
   exact ⟨p&&p',q',by simp [we,hp,h1],by simpa using h2,by rw [e,Bool.and_assoc]⟩
  ·cases h
theorem sP {d:Nat} {t:TypeId} {m:List TypeId} (h:kJ P d t=some m):∃ D,P.underlying t=some D∧(ki D=false→m.length=1):=by
 cases d with
 | zero=>cases h
 | succ d =>
  unfold kJ at h
  cases hu:P.underlying t with
  | none=>rw [hu] at h;cases h
  | some D =>
   refine ⟨D,rfl,fun hD=>?_⟩
   rw [hu] at h
   cases D with
   | int k=>cases h;rfl
   | string=>cases h;rfl
   | bool=>cases h;rfl
   | struct fs=>cases hD
   | array n e=>cases hD
   | _=>cases h
theorem tT {t:TypeId} {D:TypeDesc} {i:TypeInfo} {n o:Nat} {zs:List Value} {w:World} (hu:P.underlying t=some D) (hi:P.info? t=some i) (hn:i.size=n) (h1:ki D=false→n=1) (hz:o+n≤zs.length) :
  ∃ v,(part t zs.toArray o).run P w=.ok v w∧(ki D=true→v=.agg ((zs.drop o).take n).toArray)∧(ki D=false→(zs.drop o).take n=[v]):=by
 have hag:(isAgg t).run P w=.ok (ki D) w:=by
  unfold isAgg;rw [Sem.run_bind,aU hu,Result.andThen_ok];cases D <;> rfl
 unfold part
 rw [Sem.run_bind,hag,Result.andThen_ok]
 cases hD:ki D with
 | true =>
  refine ⟨.agg (zs.toArray.extract o (o+n)),by simp [sizeOf,fC hi,hn],fun _=>?_,fun h=>by cases h⟩
  congr 1
  simp [List.extract_eq_take_drop]
 | false =>
  have e:=h1 hD
  subst e
  refine ⟨zs[o]'(by omega),by simp [show o<zs.length from by omega],fun h=>(by cases h),fun _=>?_⟩
  rw [Zw (by omega),List.take_succ_cons,Ze]
theorem DF (d k:Nat):∀ (t:TypeId) (ts:List TypeId),kJ P d t=some ts→∀ (xs ys:List Value) (b:Bool) (w:World),rV P ts xs=true→we xs ys=some b →
  ∀ x y,(ki ((P.underlying t).getD .bool)=true→x=.agg xs.toArray∧y=.agg ys.toArray)→(ki ((P.underlying t).getD .bool)=false→xs=[x]∧ys=[y])→(Op.equalIn (d+k) t x y).run P w=.ok b w:=by
 induction d with
 | zero=>intro t ts h;cases h
 | succ d ih =>
  intro t ts h xs ys b w eG heq x y h1 h2
  rw [show d+1+k=(d+k)+1 from by omega]
  have Ke:∀ (hl:I7 (P.underlying t)=true) (Ud:ts=[t]) (hna:ki ((P.underlying t).getD .bool)=false),(Op.equalIn (d+k+1) t x y).run P w=.ok b w:=by
   intro hl Ud hna
   obtain ⟨rfl,rfl⟩:=h2 hna
   subst Ud
   simp only [rV,Bool.and_true] at eG
   have hq:leq x y=some b:=by
    simp only [we] at heq
    split at heq
    ·rename_i p q hp vY;cases vY;cases heq;simpa using hp
    ·cases heq
   refine EW hl (fun kk hu=>?_) (fun hu=>?_) (fun hu=>?_) hq <;> rw [hu] at eG <;> cases x <;> simp_all [u0]
  unfold kJ at h
  split at h
  ·rename_i kk hu;exact Ke (by rw [hu];rfl) (Option.some.inj h).symm (by rw [hu];rfl)
  ·rename_i hu;exact Ke (by rw [hu];rfl) (Option.some.inj h).symm (by rw [hu];rfl)
  ·rename_i hu;exact Ke (by rw [hu];rfl) (Option.some.inj h).symm (by rw [hu];rfl)
  ·rename_i fs hu
   split at h
   ·cases h
   ·rename_i bb
    obtain ⟨rfl,rfl⟩:=h1 (by rw [hu];rfl)
    have hf:P.fieldsOf t=fs:=by simp [Program.fieldsOf,hu]
    rw [run_equalIn_struct w (d+k) t _ _ (by rw [hf];exact hu) (by simpa using bb),hf]
    -- AD fields,one after AD other
    have key:∀ (fl:List Field) (acc:List TypeId),fl.foldl (pK P (kJ P d)) (some acc)=some ts→∀ c,we (xs.drop acc.length) (ys.drop acc.length)=some c→acc.length≤xs.length→(Op.eqFields (d+k) xs.toArray ys.toArray fl).run P w=.ok c w:=by
     intro fl
     induction fl with
     | nil =>
      intro acc ha c hc _
      simp only [List.foldl_nil,Option.some.injEq] at ha
      have hlen:=mV eG
      rw [ha,← hlen,Z6] at hc
      have:c=true:=by
       cases hy:ys.drop xs.length with
       | nil=>rw [hy] at hc;simpa [we] using hc.symm
       | cons=>rw [hy] at hc;simp [we] at hc
      simp [Op.eqFields,this]
     | cons f fl ihf =>
      intro acc ha c hc hle
      simp only [List.foldl_cons] at ha
      cases hB:pK P (kJ P d) (some acc) f with
      | none=>rw [hB,qn] at ha;cases ha
      | some B =>
       rw [hB] at ha
       obtain ⟨m,i,hm,hi,ho,hn,hsz,rfl⟩:=DW hB
       -- ts=acc++m++..
       have kL:∃ rest,ts=acc++m++rest:=yl P _ fl _ _ ha
       obtain ⟨rest,Ud⟩:=kL
       have hlen:=mV eG
       have XQ:rV P m ((xs.drop acc.length).take m.length)=true:=by
        rw [Ud,Zh] at eG
        exact (mW (mW eG).2).1
       have Wo:acc.length+m.length≤xs.length:=by rw [hlen,Ud];simp
       obtain ⟨p,q,hp,hq,rfl⟩:=qt (n:=m.length) (by simp;omega) hc
       have hly:acc.length+m.length≤ys.length:=by have:=Ad heq;omega
       obtain ⟨Df,Nz,fa⟩:=sP hm
       obtain ⟨vx,rx,ax,bx⟩:=tT (w:=w) Nz hi hsz fa Wo
       obtain ⟨vy,ry,ay,by'⟩:=tT (w:=w) Nz hi hsz fa hly
       rw [← ho] at rx ry
       have hr:=ih f.type m hm _ _ p w XQ hp vx vy (by rw [Nz];exact fun hA=>⟨ax hA,ay hA⟩) (by rw [Nz];exact fun hA=>⟨bx hA,by' hA⟩)
       have Uo:=ihf (acc++m) ha q (by simpa [Zbb] using hq) (by simp;omega)
       simp only [Op.eqFields,ne_eq,hn,not_false_eq_true,if_true,Sem.run_bind,rx,Result.andThen_ok,ry,hr]
       cases p
       ·simp
       ·simpa using Uo
    exact key fs.toList [] h b (by simpa using heq) (by simp)
  ·rename_i n e hu
   split at h
   ·rename_i m i hm hi
    split at h
    ·rename_i hsz
     obtain ⟨rfl,rfl⟩:=h1 (by rw [hu];rfl)
     simp only [Option.some.injEq] at h
     subst h
     have hlen:=mV eG
     have X3:xs.length=ys.length:=Ad heq
     have hL:xs.length=n*m.length:=by rw [hlen];simp
     have Xs:(sizeOf e).run P w=.ok m.length w:=by simp [sizeOf,fC hi,hsz]
     obtain ⟨De,Nz,fa⟩:=sP hm
     have Yo:∀ (c j:Nat) (p:Bool),j+c=n→we (xs.drop (j*m.length)) (ys.drop (j*m.length))=some p→rV P ((List.replicate c m).flatten) (xs.drop (j*m.length))=true →
       ((forIn (List.range' j c) ((none, ()) : Option Bool × Unit) fun i r => (do
        let a ← part e xs.toArray (i*m.length)
        let b ← part e ys.toArray (i*m.length)
        let r' ← Op.equalIn (d+k) e a b
        if (!r')=true then pure (ForInStep.done (some false,())) else pure (ForInStep.yield (none,()))):Sem (Option Bool×Unit)).run P w)=.ok (bif p then none else some false,()) w:=by
      intro c
      induction c with
      | zero =>
       intro j p hj hp _
       have hz:xs.drop (j*m.length)=[]:=by apply ZaZ;rw [hL,show j=n from by omega];exact Zz _
       have JU:ys.drop (j*m.length)=[]:=by apply ZaZ;rw [← X3,hL,show j=n from by omega];exact Zz _
       rw [hz,JU] at hp
       simp only [we,Option.some.injEq] at hp
       subst hp
       simp
      | succ c ihc =>
       intro j p hj hp Uz
       have sX:j*m.length+m.length≤xs.length:=by
        rw [hL,← Zag];exact Z9 _ (by omega)
       obtain ⟨vx,rx,ax,bx⟩:=tT (w:=w) Nz hi hsz fa sX
       obtain ⟨vy,ry,ay,by'⟩:=tT (w:=w) Nz hi hsz fa (show j*m.length+m.length≤ys.length by omega)
       obtain ⟨p1,p2,vZ,Gw,rfl⟩:=qt (n:=m.length) (by simp;omega) hp
       rw [List.replicate_succ,ZaB] at Uz
       have ho:=mW Uz
       have hr:=ih e m hm _ _ p1 w ho.1 vZ vx vy (by rw [Nz];exact fun hA=>⟨ax hA,ay hA⟩) (by rw [Nz];exact fun hA=>⟨bx hA,by' hA⟩)
       simp only [List.range'_succ,List.forIn_cons,Sem.run_bind,rx,ry,hr,Result.andThen_ok]
       cases p1
       ·simp
       ·have gL:=ihc (j+1) p2 (by omega) (by rw [Zag,← Zbb,← Zbb];exact Gw) (by rw [Zag,← Zbb];exact ho.2)
        simp only [Bool.not_true,ZaR,if_false,Sem.run_pure,Result.andThen_ok,Zaq]
        exact gL
     have hf:=Yo n 0 b (by omega) (by simpa using heq) (by simpa using eG)
     simp only [Op.equalIn,Sem.run_bind,aU hu,Result.andThen_ok,Xs]
     rw [Std.Legacy.Range.forIn_eq_forIn_range']
     simp only [Std.Legacy.Range.size,Nat.sub_zero,ZaG,Nat.div_one]
     rw [hf]
     cases b <;> simp
    ·cases h
   ·cases h
  ·cases h
class AA (P:Program) (t:TypeId) (ts:outParam (List TypeId)):Prop where
 eq:kJ P 20 t=some ts
 agg:ki ((P.underlying t).getD .bool)=true
 guard:P.eqGuardType P.depth t=false
variable {c:Cx} {sl:aG} {hs:List a8} {dst:Option Tmp} {ty:TypeId} {pos:String} {af:Array Edge} {g:Option (Nat×Bool)}
theorem qQ {t:TypeId} {ts:List TypeId} [h:AA P t ts] {xs ys:List Value} {b:Bool} (eG:rV P ts xs=true) (heq:we xs ys=some b) (w:World):(Op.equalIn 10000 t (.agg xs.toArray) (.agg ys.toArray)).run P w=.ok b w:=
 DF 20 9980 t ts h.eq xs ys b w eG heq _ _ (fun _=>⟨rfl,rfl⟩) (fun hn=>by rw [h.agg] at hn;cases hn)
theorem tP {t u:TypeId} {ts:List TypeId} [h:AA P t ts] {x y:Operand} {xs ys:List Value} {b:Bool} (hx:Is sl x (.agg xs.toArray)) (hy:Is sl y (.agg ys.toArray)) (eG:rV P ts xs=true) (heq:we xs ys=some b) :
  cR P c sl hs ⟨dst,.binOp .eql t x y u,ty,pos,af,g⟩ (.bool b):=
 iL hx hy fun w=>by
  rw [Sem.run_bind,run_eqGuard_agg w _ _ _ _ _ _ h.guard,Result.andThen_ok,run_eql_struct,qQ eG heq];rfl
theorem tO {t u:TypeId} {ts:List TypeId} [h:AA P t ts] {x y:Operand} {xs ys:List Value} {b:Bool} (hx:Is sl x (.agg xs.toArray)) (hy:Is sl y (.agg ys.toArray)) (eG:rV P ts xs=true) (heq:we xs ys=some b) :
  cR P c sl hs ⟨dst,.binOp .neq t x y u,ty,pos,af,g⟩ (.bool (!b)):=
 iL hx hy fun w=>by
  rw [Sem.run_bind,run_eqGuard_agg w _ _ _ _ _ _ h.guard,Result.andThen_ok,run_neq_struct,qQ eG heq];rfl
theorem lP:rV P [] []=true:=rfl
theorem jQ {t:TypeId} {k:IntKind} {ts:List TypeId} {n:Int} {xs:List Value} [h:iF P t (.int k)] (hr:rV P ts xs=true):rV P (t::ts) (.int k n::xs)=true:=by
 simp [rV,u0,h.eq,hr]
theorem eY {t:TypeId} {ts:List TypeId} {s:ByteArray} {xs:List Value} [h:iF P t .string] (hr:rV P ts xs=true):rV P (t::ts) (.string s::xs)=true:=by
 simp [rV,u0,h.eq,hr]
theorem IG {t:TypeId} {ts:List TypeId} {b:Bool} {xs:List Value} [h:iF P t .bool] (hr:rV P ts xs=true):rV P (t::ts) (.bool b::xs)=true:=by
 simp [rV,u0,h.eq,hr]
end
end Go.SL
namespace Go.SL
open Go
def ev (sl:aG):Operand→Option Value
 | .tmp t=>cK sl t
 | .const v=>some v
 | .global g=>some (.pointer (some ⟨g,0,none⟩))
 | .func f=>some (.func (.func f) #[] #[])
theorem Is.of {sl:aG} {x:Operand} {v:Value} (h:ev sl x=some v):Is sl x v:=fun a ha=>by
 cases x with
 | tmp t=>exact ha.eval h
 | const u=>exact Option.some.inj h
 | global g=>exact Option.some.inj h
 | func f=>exact Option.some.inj h
theorem Is.bI {sl:aG} {x:Operand} {c:Bool} {v:Value} (hc:c=true) (h:ev sl x=some (SL.gv c v)):Is sl x v:=(tZ hc (v:=v)) ▸ Is.of h
class SG (P:Program):Prop where
 eq:P.follows .mixedOrders=true
section
variable {P:Program} {r:Option Nat} {c:Cx} {D:List Nat} {sl:aG} {rl:eJ} {hs hs':List a8} {Q:Exit→Act→World→Prop} {ops:Array Oper} {m d:Nat} {dst:Option Tmp} {op:Op} {ty:TypeId} {pos:String} {af:Array Edge} {g:Option (Nat×Bool)} {rest:List Oper}
def kR (P:Program) (r:Option Nat) (c:Cx) (D:List Nat) (hs:List a8) (ops:Array Oper) (Q:Exit→Act→World→Prop) (m:Nat) (l:List Oper) (sl:aG) (rl:eJ):Prop:=
 ∃ S jk kE,sy P c hs ops (l.take m) sl rl S jk kE∧∀ a w,St c D jk hs a w→Ek kE a w→WL P r ops Q (l.drop m) a w
theorem en {id:Nat} {l:List Oper} (m:Nat) [qh:SG P] (fK:xK l m=true) (k:kR P r c D hs l.toArray Q m l sl []):Tr c D sl hs (WP P r (.region id l.toArray true) Q):=by
 obtain ⟨S,jk,kE,hp,ht⟩:=k
 exact yN qh.eq fK hp ht
theorem eo {l:List Oper} (k:Tr c D sl hs (WL P r ops Q l)):kR P r c D hs ops Q 0 l sl rl:=
 ⟨[],sl,rl,.nil,fun a w bb _=>k a w bb⟩
theorem pj {o:Oper} {V:Value} (ho:o.dst=some d) (hd:Nat.blt d c.nt=true) (h:tl P c hs ops sl rl o (.val V)) (k:kR P r c D hs ops Q m rest ((d,V)::sl) rl):kR P r c D hs ops Q (m+1) (o::rest) sl rl:=by
 obtain ⟨S,jk,kE,hp,ht⟩:=k
 exact ⟨_,_,_,.val ho (by simpa [Z4] using hd) h hp,ht⟩
theorem nP {o:Oper} {R:Rel} (hg:o.guard=none) (h:∀ a w,bR sl a→Ay (o.looksAt ops) rl a w→Mem c hs w→wW P o a w R):tl P c hs ops sl rl o R:=fun a w h1 h2 h3=>by
 rw [if_pos (by simp [Region.wanted,hg])]
 exact h a w h1 h2 h3
theorem qW {o:Oper} {V:Value} (hr:cR P c sl hs o V) {a:Act} {w:World} (h1:bR sl a) (h3:Mem c hs w):wW P o a w (.val V):=by
 unfold wW
 rw [hr.2 a w h1 h3]
 exact ⟨.refl _ _,rfl⟩
theorem rT {o:Oper} {f:FuncId} {args:List Value} {V:Value} (hr:lG P sl o f args) {a:Act} {w:World} (h1:bR sl a) (hc:aj P f args w V):wW P o a w (.val V):=by
 unfold wW
 rw [hr.2 a w h1]
 exact ⟨rfl,hc.mono fun e w' ⟨he,hk⟩=>⟨V,he,hk,rfl⟩⟩
theorem aL {V:Value} (hr:cR P c sl hs ⟨some d,op,ty,pos,af,none⟩ V) (hd:Nat.blt d c.nt=true) (k:kR P r c D hs ops Q m rest ((d,V)::sl) rl) :
  kR P r c D hs ops Q (m+1) (⟨some d,op,ty,pos,af,none⟩::rest) sl rl:=
 pj rfl hd (nP rfl fun _ _ h1 _ h3=>qW hr h1 h3) k
theorem gD {f:FuncId} {args:List Value} {V:Value} (hr:lG P sl ⟨some d,op,ty,pos,af,none⟩ f args) (hd:Nat.blt d c.nt=true) (hc:∀ w,Mem c hs w→aj P f args w V) (k:kR P r c D hs ops Q m rest ((d,V)::sl) rl) :
  kR P r c D hs ops Q (m+1) (⟨some d,op,ty,pos,af,none⟩::rest) sl rl:=
 pj rfl hd (nP rfl fun _ w h1 _ h3=>rT hr h1 (hc w h3)) k
theorem nQ {o:Oper} {V:Value} {j gs:Nat} {want c0 q:Bool} (hg:o.guard=some (j,want)) (hj:((ops[j]?).bind (·.dst))=some gs) (hq:cK sl gs=some (gv c0 (.bool q)))
  (h:(c0&&(q==want))=true→∀ a w,bR sl a→Mem c hs w→wW P o a w (.val V)):tl P c hs ops sl rl o (.val (gv (c0&&(q==want)) V)):=fun a w h1 _ h3=>by
 rw [kS hg hj h1 hq]
 by_cases hc:(c0&&(q==want))=true
 ·rw [if_pos hc,tZ hc]
  exact h hc a w h1 h3
 ·rw [if_neg hc,vq (by simpa using hc)]
  rfl
theorem Cu {V:Value} {j gs:Nat} {want c0 q:Bool} (hj:((ops[j]?).bind (·.dst))=some gs) (hq:cK sl gs=some (gv c0 (.bool q)))
  (hr:(c0&&(q==want))=true→cR P c sl hs ⟨some d,op,ty,pos,af,some (j,want)⟩ V) (hd:Nat.blt d c.nt=true) (k:kR P r c D hs ops Q m rest ((d,gv (c0&&(q==want)) V)::sl) rl) :
  kR P r c D hs ops Q (m+1) (⟨some d,op,ty,pos,af,some (j,want)⟩::rest) sl rl:=
 pj rfl hd (nQ rfl hj hq fun hc _ _ h1 h3=>qW (hr hc) h1 h3) k
theorem G3 {V:Value} {j gs:Nat} {want q:Bool} (hj:((ops[j]?).bind (·.dst))=some gs) (hq:cK sl gs=some (.bool q))
  (hr:(q==want)=true→cR P c sl hs ⟨some d,op,ty,pos,af,some (j,want)⟩ V) (hd:Nat.blt d c.nt=true) (k:kR P r c D hs ops Q m rest ((d,gv (q==want) V)::sl) rl) :
  kR P r c D hs ops Q (m+1) (⟨some d,op,ty,pos,af,some (j,want)⟩::rest) sl rl:=
 Cu (c0:=true) hj (by rw [hq];rfl) (by simpa using hr) hd (by simpa using k)
theorem su {f:FuncId} {args:List Value} {V:Value} {j gs:Nat} {want c0 q:Bool} (hj:((ops[j]?).bind (·.dst))=some gs) (hq:cK sl gs=some (gv c0 (.bool q)))
  (hr:(c0&&(q==want))=true→lG P sl ⟨some d,op,ty,pos,af,some (j,want)⟩ f args) (hd:Nat.blt d c.nt=true) (hc:(c0&&(q==want))=true→∀ w,Mem c hs w→aj P f args w V) (k:kR P r c D hs ops Q m rest ((d,gv (c0&&(q==want)) V)::sl) rl) :
  kR P r c D hs ops Q (m+1) (⟨some d,op,ty,pos,af,some (j,want)⟩::rest) sl rl:=
 pj rfl hd (nQ rfl hj hq fun h _ w h1 h3=>rT (hr h) h1 (hc h w h3)) k
theorem vN {f:FuncId} {args:List Value} {V:Value} {j gs:Nat} {want q:Bool} (hj:((ops[j]?).bind (·.dst))=some gs) (hq:cK sl gs=some (.bool q))
  (hr:(q==want)=true→lG P sl ⟨some d,op,ty,pos,af,some (j,want)⟩ f args) (hd:Nat.blt d c.nt=true) (hc:(q==want)=true→∀ w,Mem c hs w→aj P f args w V) (k:kR P r c D hs ops Q m rest ((d,gv (q==want) V)::sl) rl) :
  kR P r c D hs ops Q (m+1) (⟨some d,op,ty,pos,af,some (j,want)⟩::rest) sl rl:=
 su (c0:=true) hj (by rw [hq];rfl) (by simpa using hr) hd (by simpa using hc) (by simpa using k)
theorem FW {f:FuncId} {args:List Value} {V:Value} {j gs:Nat} {want c0 q:Bool} (hj:((ops[j]?).bind (·.dst))=some gs) (hq:cK sl gs=some (gv c0 (.bool q)))
  (hr:(c0&&(q==want))=true→lG P sl ⟨some d,op,ty,pos,af,some (j,want)⟩ f args) (hd:Nat.blt d c.nt=true) (hc:(c0&&(q==want))=true→∀ w,Mem c hs w→aj P f args w V)
  (k:Tr c D ((d,gv (c0&&(q==want)) V)::sl) hs (WL P r ops Q rest)):Tr c D sl hs (WL P r ops Q (⟨some d,op,ty,pos,af,some (j,want)⟩::rest)):=fun a w bb=>by
 unfold WL
 rw [kS rfl hj bb.cS hq]
 by_cases h:(c0&&(q==want))=true
 ·rw [if_pos h]
  rw [tZ h] at k
  refine ⟨dM _ _ _ _ _,?_⟩
  rw [Oper.semAt_eq _ _ _ (hr h).1,(hr h).2 a w bb.cS]
  exact ⟨by simp [FR,Fence.wide],(ie (hc h w bb.rb)).mono fun e w' ⟨he,hk⟩=>by
   subst he
   exact k _ _ ((bb.put (by simpa [Z4] using hd) V).heap (bb.mem.rh hk))⟩
 ·rw [if_neg h]
  rw [vq (by simpa using h)] at k
  exact k _ _ (bb.put (by simpa [Z4] using hd) undef)
theorem du {f:FuncId} {args:List Value} {V:Value} {j gs:Nat} {want q:Bool} (hj:((ops[j]?).bind (·.dst))=some gs) (hq:cK sl gs=some (.bool q))
  (hr:(q==want)=true→lG P sl ⟨some d,op,ty,pos,af,some (j,want)⟩ f args) (hd:Nat.blt d c.nt=true) (hc:(q==want)=true→∀ w,Mem c hs w→aj P f args w V)
  (k:Tr c D ((d,gv (q==want) V)::sl) hs (WL P r ops Q rest)):Tr c D sl hs (WL P r ops Q (⟨some d,op,ty,pos,af,some (j,want)⟩::rest)):=
 FW (c0:=true) hj (by rw [hq];rfl) (by simpa using hr) hd (by simpa using hc) (by simpa using k)
def Dp (V:Nat→Value) (ob:Obj):Rel:=⟨fun v w=>∃ b,v=V b∧w.heap[b]? = some ob,fun ⟨b,e,h⟩ hk=>⟨b,e,by rw [hk.block b (j5 h) (by simp)];exact h⟩⟩
theorem Bm {fn:Func} {t:Tmp} (h:fn.results=#[.tmp t]) {sl:aG} {v:Value} (hv:cK sl t=some v) {a:Act} (ha:bR sl a) (w:World):(results fn a.tmps).run P w=.ok v w:=by
 have:=ha t v hv
 simp [results,h,Zy,this]
theorem Bl {fn:Func} {t u:Tmp} (h:fn.results=#[.tmp t,.tmp u]) {sl:aG} {v x:Value} (hv:cK sl t=some v) (hx:cK sl u=some x) {a:Act} (ha:bR sl a) (w:World):(results fn a.tmps).run P w=.ok (.tuple #[v,x]) w:=by
 have h1:=ha t v hv
 have h2:=ha u x hx
 simp [results,h,Zy,h1,h2]
theorem Bn {fn:Func} (h:fn.results=#[]) {a:Act} (w:World):(results fn a.tmps).run P w=.ok (.tuple #[]) w:=by
 simp [results,h]
def Ends (P:Program) (fn:Func) (c:Cx) (sl:aG) (hs:List a8) (v:Value):Prop:=∀ a w,bR sl a→Mem c hs w→(results fn a.tmps).run P w=.ok v w
theorem dD {fn:Func} {t:Tmp} {v:Value} (h:fn.results=#[.tmp t]) (hv:cK sl t=some v):Ends P fn c sl hs v:=fun _ w ha _=>Bm h hv ha w
theorem fY {fn:Func} {t u:Tmp} {v x:Value} (h:fn.results=#[.tmp t,.tmp u]) (hv:cK sl t=some v) (hx:cK sl u=some x):Ends P fn c sl hs (.tuple #[v,x]):=fun _ w ha _=>Bl h hv hx ha w
theorem pL {fn:Func} (h:fn.results=#[]):Ends P fn c sl hs (.tuple #[]):=fun _ w _ _=>Bn h w
theorem Se {fn:Func} {t:Tmp} {T:TypeId} {b o n:Nat} {v:Value} [Ty P T false n] (h:fn.results=#[.cell t T]) (hp:cK sl t=some (.pointer (some ⟨b,o,none⟩))) (hv:At c hs b o v):Ends P fn c sl hs v:=fun a w ha hm=>by
 have h1:=ha t _ hp
 simp [results,h,Zy,h1,asAddr,sE (hv w hm)]
theorem Oa {fn:Func} {t:Tmp} {T:TypeId} {b o n:Nat} {vs:List Value} [Ty P T true n] (h:fn.results=#[.cell t T]) (hp:cK sl t=some (.pointer (some ⟨b,o,none⟩))) (hv:eF c hs b o vs) (hl:vs.length=n):Ends P fn c sl hs (.agg vs.toArray):=fun a w ha hm=>by
 have h1:=ha t _ hp
 simp [results,h,Zy,h1,asAddr,nZ hl (fun j v h=>hv.get j v h w hm)]
def PT (P:Program) (c:Cx) (hs:List a8) (T:TypeId) (b o:Nat) (v:Value):Prop:=∀ w,Mem c hs w→(loadVar T ⟨b,o,none⟩).run P w=.ok v w
theorem IY {T:TypeId} {b o n:Nat} {vs:List Value} [Ty P T true n] (hv:eF c hs b o vs) (hl:vs.length=n):PT P c hs T b o (.agg vs.toArray):=fun w hm=>nZ hl (fun j v h=>hv.get j v h w hm)
inductive RV (P:Program) (c:Cx) (sl:aG) (hs:List a8):ResultVar→Value→Prop
 | tmp {t:Tmp} {v:Value} (h:cK sl t=some v):RV P c sl hs (.tmp t) v
 | cell {t:Tmp} {T:TypeId} {b o:Nat} {v:Value} (h:cK sl t=some (.pointer (some ⟨b,o,none⟩))) (hl:PT P c hs T b o v):RV P c sl hs (.cell t T) v
inductive Hg (P:Program) (c:Cx) (sl:aG) (hs:List a8):List ResultVar→List Value→Prop
 | nil:Hg P c sl hs [] []
 | cons {x:ResultVar} {xs:List ResultVar} {v:Value} {vs:List Value} (h:RV P c sl hs x v) (t:Hg P c sl hs xs vs):Hg P c sl hs (x::xs) (v::vs)
def Bf (tmps:Array Value):ResultVar→Sem Value
 | .tmp t=>pure (tmps.getD t undef)
 | .cell a t=>do loadVar t (← asAddr (tmps.getD a undef))
theorem MF {xs:List ResultVar} {vs:List Value} (h:Hg P c sl hs xs vs) {a:Act} {w:World} (ha:bR sl a) (hm:Mem c hs w):(xs.mapM (Bf a.tmps)).run P w=.ok vs w:=by
 induction h with
 | nil=>simp
 | cons h _ ih =>
  cases h with
  | tmp h=>simp [Bf,Zy,ha _ _ h,ih]
  | cell h hl=>simp [Bf,Zy,ha _ _ h,asAddr,hl w hm,ih]
theorem PC {fn:Func} {xs:List ResultVar} {vs:List Value} (hx:fn.results=xs.toArray) (h:Hg P c sl hs xs vs) (hl:vs.length≠1):Ends P fn c sl hs (.tuple vs.toArray):=fun a w ha hm=>by
 have:=MF h ha hm
 have h2:(Array.mapM (Bf a.tmps) xs.toArray).run P w=.ok vs.toArray w:=by
  rw [List.mapM_toArray]
  simp [this]
 unfold results
 rw [hx]
 change Sem.run P (Array.mapM (Bf a.tmps) xs.toArray >>= fun vs=>pure (if h:vs.size=1 then vs[0] else Value.tuple vs)) w=_
 rw [Sem.run_bind,h2,Result.andThen_ok,Sem.run_pure]
 rw [dif_neg (by simpa using hl)]
theorem Mf {fn:Func} {v:Value} (GA:c.md=[]) (he:Ends P fn c sl hs v) :
  Tr c [] sl hs (bodyPostM (FR r) 0 P fn (fun e w'=>e=.returned v∧aH [] c.w0 w') .ret):=fun a w bb=>by
 have hm:=bb.rb
 show LeavesInM (FR r) 0 P fn a.tmps _ a.defers .returning w
 rw [bb.defers]
 exact ⟨v,he a w bb.cS hm,rfl,by rw [← GA];exact hm.keeps⟩
theorem oT {fn:Func} {v v':Value} (GA:c.md=[]) (he:Ends P fn c sl hs v') (hv:v'=v) :
  Tr c [] sl hs (bodyPostM (FR r) 0 P fn (fun e w'=>e=.returned v∧aH [] c.w0 w') .ret):=hv ▸ Mf GA he
theorem rf {fn:Func} {v:Value} {R:Ending→World→Prop}:∀ (D:List Nat) (w:World) (a:Act),a.defers=D.map mark→bR sl a→Mem c (hs++mw D) w→Ends P fn c sl hs v →
  (∀ w',Mem c hs w'→R (.returned v) w')→LeavesInM (FR r) 0 P fn a.tmps R (D.map mark) .returning w
 | [],w,a,_,ha,hm,he,hR=>⟨v,he a w ha (by simpa [mw] using hm),hR w (by simpa [mw] using hm)⟩
 | b :: D, w, a, _, ha, hm, he, hR => by
  have dY:Take (hs++mw (b::D)) (bG b (.deferred (some []))) (hs++mw D):=by
   clear hm he hR
   induction hs with
   | nil=>exact .here
   | cons A hs ih=>exact .there ih
  have l7:=hm.take dY
  have hb:w.heap[b]? = some (.deferred (some [])):=l7.bG .here
  refine ⟨by simp,.inl ⟨b,w.putObj b (.deferred none),rfl,run_takeDeferred hb,?_⟩⟩
  have hk:aH [b] w (w.putObj b (.deferred none)):=⟨rfl,rfl,rfl,Zz _,by simp,fun k _ hn=>World.putObj_heap_other (by simpa using hn)⟩
  have Wl:Mem c (hs++mw D) (w.putObj b (.deferred none)):=(Mem.store l7 hk (World.putObj_heap_same (j5 (w:=w) hb))).vw
  exact rf D _ { a with defers:=D.map mark } rfl ha Wl he hR
theorem aN {fn:Func} {v:Value} {R:Ending→World→Prop} (he:Ends P fn c sl hs v) (hR:∀ w',Mem c hs w'→R (.returned v) w') :
  Tr c D sl hs (bodyPostM (FR r) 0 P fn R .ret):=fun a w bb=>by
 show LeavesInM (FR r) 0 P fn a.tmps R a.defers .returning w
 rw [bb.defers]
 exact rf D w a bb.defers bb.cS bb.mem he hR
theorem aO {fn:Func} {v:Value} {R:Ending→World→Prop} (he:Ends P fn c sl hs v) (hR:∀ w',Mem c hs w'→R (.returned v) w') :
  Tr c D sl hs (bodyPostM (FR r) 0 P fn R .normal):=aN (r:=r) he hR
theorem ah {f:FuncId} {fn:Func} {code:Code} {args:List Value} {w:World} {V:Value} (hf:P.funcs[f]? = some fn) (hb:fn.body=some code) (hl:Nat.ble args.length fn.ntmps=true)
  (h:Tr ⟨w,[],fn.ntmps⟩ [] (jC 0 args) [] (WP P none code (bodyPostM (FR none) 0 P fn (fun e w'=>e=.returned V∧aH [] w w')))):aj P f args w V:=
 oL (hs0:=[]) hf hb (by simpa using hl) ⟨[],Zam,rfl,fun _ h=>by cases h⟩ h
theorem aQ {f:FuncId} {fn:Func} {code:Code} {args:List Value} {w:World} {ι:Type} {Φ:ι→Prop} {val:ι→Value} {own:ι→List a8} (hf:P.funcs[f]? = some fn) (hb:fn.body=some code) (hl:Nat.ble args.length fn.ntmps=true)
  (h:Tr ⟨w,[],fn.ntmps⟩ [] (jC 0 args) [] (WP P none code (bodyPostM (FR none) 0 P fn (fun e w'=>∃ x,e=.returned (val x)∧Φ x∧aH [] w w'∧∃ fp:List Nat,fp.Nodup∧ch (hp w') (own x) fp∧∀ b∈fp,b∈([]:List Nat)∨w.heap.size≤b)))) :
  bh P f args w [] Φ val own:=
 oL (hs0:=[]) hf hb (by simpa using hl) ⟨[],Zam,rfl,fun _ h=>by cases h⟩ h
theorem eb {f:FuncId} {fn:Func} {code:Code} {args:List Value} {w:World} {r9:List Nat} {As:List a8} {ι:Type} {Φ:ι→Prop} {val:ι→Value} {own:ι→List a8} (hf:P.funcs[f]? = some fn) (hb:fn.body=some code) (hl:Nat.ble args.length fn.ntmps=true)
  (hn:r9.Nodup) (hs0:ch (hp w) As r9)
  (h:Tr ⟨w,r9,fn.ntmps⟩ [] (jC 0 args) As (WP P none code (bodyPostM (FR none) 0 P fn (fun e w'=>∃ x,e=.returned (val x)∧Φ x∧aH r9 w w'∧∃ fp:List Nat,fp.Nodup∧ch (hp w') (own x) fp∧∀ b∈fp,b∈r9∨w.heap.size≤b)))) :
  bh P f args w r9 Φ val own:=
 oL hf hb (by simpa using hl) ⟨r9,hn,hs0,fun _ h=>h⟩ h
theorem aF {ι:Type} {Φ:ι→Prop} {val:ι→Value} {own:ι→List a8} (x:ι) (hx:Φ x) {As:List a8} (ht:bz hs (own x) As) {w':World} (hm:Mem c hs w') {v:Value} (hv:v=val x) :
  ∃ x,Ending.returned v=.returned (val x)∧Φ x∧aH c.md c.w0 w'∧∃ fp:List Nat,fp.Nodup∧ch (hp w') (own x) fp∧∀ b∈fp,b∈c.md∨c.w0.heap.size≤b:=by
 have h2:=(hm.iT ht).lp
 obtain ⟨k,fp,hn,ir,hb⟩:=h2
 exact ⟨x,by rw [hv],hx,k,fp,hn,ir,fun b dA=>(hb b dA).symm⟩
end
end Go.SL
