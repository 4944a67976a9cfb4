/- Parts of the proof: P5q P5r P5t P5s P5u P5v P5x P5y P5z P6a KY GkMapR KZ GkEnds3 LA P6b GkPoolJ LB LC. -/
import Derived.Test.YteonnodafmegaaaGreatDoorFM09
import Derived.Test.YteonnodafmegaaaGreatDoorFM04
import Derived.Test.YteonnodafmegaaaGreatDoorFM03
import Derived.Laws.IdiomRangeMap
set_option linter.unusedSectionVars false
set_option linter.unusedVariables false
set_option linter.unusedSimpArgs false
namespace Go.Proofs.A1
open Go Go.SL
theorem mS {r:Ro} {W:List Po->Jb->Option (List Nat)}:∀ {a b:List Jb} {po:List Po},tG r W po (a++b)=(tG r W po a).bind fun q=>tG r W q b
 | [],b,po=>rfl
 | j :: a, b, po => by
  rw [Zb,tG,tG];cases W po j with
  | none=>rfl
  | some p=>exact mS
def wX (r:Ro) (t:Tk):Nat->List Jb
 | 0=>[]
 | k+1=>wX r t k++if mE r t k then [⟨(k:Nat),t.at k,t.de⟩] else []
def wW (r:Ro) (l:List Tk):Nat->List Jb
 | 0=>[]
 | i+1=>wW r l i++wX r (l.getD i Tk.zero) (l.getD i Tk.zero).so.length
def jW (r:Ro) (po:List Po) (j:Jb):Option (List Nat):=if jL (cy r) j.d then lp (r.wp po) j.v j.s j.d else none
variable {S:List Po} {T:List ByteArray} {i:Nat} {j:Jb} {k:Nat} {l:List Tk} {m:Nat} {po:List Po} {t:Tk} {v:Int}
theorem FJ {r:Ro} {so de:ByteArray} {p:List Nat} (h:lp r v so de=some p):(dJ r r.po v so).least (lo r de) p:=by
 unfold lp at h;split at h
 ·cases h
 ·rename_i e;cases h;exact Wn.UP e
theorem Q9 (r:Ro):∀ po j p,jW r po j=some p->(dJ r po j.v j.s).ok p/\(dJ r po j.v j.s).fin p=k6 r j.d:=by
 intro po j p h;unfold jW at h;split at h
 ·rename_i hd;have hl:=FJ h;exact ⟨hl.1,hl.2.1.trans (MI (r:=r) (fG.1 hd)).symm⟩
 ·cases h
theorem tJ {r:Ro} {t:Tk} (ht:t.de∈cy r):∀ (k:Nat) (po:List Po),mC r t k po=tG r (jW r) po (wX r t k)
 | 0,po=>rfl
 | k + 1, po => by
  rw [mC,wX,mS,tJ ht k po];congr 1;funext q;cases mE r t k with
  | false=>rfl
  | true =>
   rw [if_pos I,if_pos I,tG];unfold jW;rw [if_pos (fG.2 ht)];cases lp (r.wp q) (k:Nat) (t.at k) t.de with
   | none=>rfl
   | some p=>rfl
theorem tH {r:Ro} {l:List Tk} (hl:∀ t∈l,t.de∈cy r) (po:List Po):∀ i,i<=l.length->iR r l po i=tG r (jW r) po (wW r l i)
 | 0,_=>rfl
 | i + 1, hi => by
  rw [iR,wW,mS,tH hl po i (by omega)];congr 1;funext q;refine tJ ?_ _ _;rw [Zk,Zc (by omega)];exact hl _ (Zj _)
theorem pN {r:Ro}:j∈wX r t k↔∃ i,i<k/\mE r t i=true/\j=⟨(i:Nat),t.at i,t.de⟩:=by
 induction k with
 | zero=>simp [wX]
 | succ k ih =>
  rw [wX,ZB,ih];constructor
  ·rintro (⟨i,h1,h2,h3⟩ | h)
   ·exact ⟨i,by omega,h2,h3⟩
   ·split at h
    ·rename_i hb;exact ⟨k,by omega,hb,ZG.1 h⟩
    ·cases h
  ·rintro ⟨i,h1,h2,h3⟩;by_cases e:i=k
   ·subst e
    right
    rw [if_pos h2,h3];exact ZG.2 I
   ·exact .inl ⟨i,by omega,h2,h3⟩
theorem pM {r:Ro} (hi:i<=l.length):j∈wW r l i↔∃ m,∃ hm:m<i,∃ k,k<(l[m]'(by omega)).so.length/\mE r (l[m]'(by omega)) k=true/\j=⟨(k:Nat),(l[m]'(by omega)).at k,(l[m]'(by omega)).de⟩:=by
 induction i with
 | zero=>simp [wW]
 | succ i ih =>
  rw [wW,ZB,ih (by omega),Zk,Zc (show i<l.length by omega),Zam,pN];constructor
  ·rintro (⟨m,hm,h⟩ | h)
   ·exact ⟨m,by omega,h⟩
   ·exact ⟨i,by omega,h⟩
  ·rintro ⟨m,hm,h⟩;by_cases e:m=i
   ·subst e;exact .inr h
   ·exact .inl ⟨m,by omega,h⟩
def JbD (a b:Jb):Prop:=¬(b.v=a.v/\b.d=a.d)
theorem Bg (r:Ro) (t:Tk):∀ k,(wX r t k).Pairwise JbD
 | 0=>.nil
 | k + 1 => by
  rw [wX,List.pairwise_append];refine ⟨Bg r t k,?_,fun a ha b hb=>?_⟩
  ·split
   ·exact List.pairwise_singleton _ _
   ·exact .nil
  ·split at hb
   ·obtain ⟨i,h1,_,rfl⟩:=pN.1 ha;rw [ZG.1 hb];rintro ⟨e,_⟩;dsimp only at e;omega
   ·cases hb
theorem z6 (hn:(l.map Tk.de).Nodup) {i j:Nat} (hi:i<l.length) (hj:j<l.length) (hne:i≠j):l[i].de≠l[j].de:=by
 intro e;have h:=Zac.1 hn;have hl:(l.map Tk.de).length=l.length:=Zd _;rcases Zal i j with c | c | c
 ·exact h i j (by omega) (by omega) c (by simpa using e)
 ·exact hne c
 ·exact h j i (by omega) (by omega) c (by simpa using e.symm)
theorem Bf {r:Ro} {l:List Tk} (hn:(l.map Tk.de).Nodup):∀ i,i<=l.length->(wW r l i).Pairwise JbD
 | 0,_=>.nil
 | i + 1, hi => by
  rw [wW,List.pairwise_append];refine ⟨Bf hn i (by omega),Bg r _ _,fun a ha b hb=>?_⟩;rw [Zk,Zc (show i<l.length by omega),Zam] at hb;obtain ⟨m,hm,k,_,_,rfl⟩:=(pM (by omega)).1 ha;obtain ⟨k',_,_,rfl⟩:=pN.1 hb;rintro ⟨_,e⟩;exact z6 hn (show i<l.length by omega) (show m<l.length by omega) (by omega) e
theorem lk {r:Ro}:lQ r t k=true↔t.at k≠⟨#[]⟩/\t.at k≠jD r (k:Nat) t.de:=by
 unfold lQ;simp
theorem k9 {r:Ro}:mE r t k=true↔t.at k≠⟨#[]⟩/\t.at k≠jD r (k:Nat) t.de/\t.at k≠dash:=by
 unfold mE;rw [Zn,lk];simp [and_assoc]
theorem Tk.at_mem (h:k<t.so.length):t.at k∈t.so:=by
 unfold Tk.at
 rw [Zk,Zc h];exact Zj h
def oS (r:Ro) (l:List Tk):List Po:=AD (cy r) (jC r l l.length)
def VF (r:Ro) (l:List Tk) (v:Int) (y:ByteArray):Prop:=∃ t∈l,∃ i,i<t.so.length/\lQ r t i=true/\v=(i:Nat)/\y=t.de
theorem qf {r:Ro} (h:sg r) {l:List Tk} (hl:D3 r l):jP r (oS r l)/\(∀ v y,y∈cy r->¬ VF r l v y->eB (oS r l) v y=eB r.po v y/\qK (oS r l) v (cK r) y=qK r.po v (cK r) y)/\∀ v y,VF r l v y->eB (oS r l) v y=none:=by
 obtain ⟨f,hf,e⟩:=FX (cy r) (jC r l l.length);have hg:∀ p,(!MH r l l.length p)=true↔¬ VF r l p.lv p.ou:=fun p=>by
  rw [Zbd,<- Zar];exact not_congr Qg
 unfold oS;rw [e,jr] at *;obtain ⟨k1,k2,k3⟩:=Qe (g:=fun p=>!MH r l l.length p) (f:=f) h.wJ h.val (fun p hp ht=>(hg p).2 fun ⟨t,htl,i,_,_,_,e5⟩=>h.wJ.dt _ (hl.de t htl) (e5 ▸ ht)) hf.sw.de hf.sw.up hf.us;refine ⟨k1,fun v y hy hd=>k2 v y hy fun p _ e1 e2=>(hg p).2 (by rw [e1,e2];exact hd),fun v y hd=>k3 v y fun p _ e1 e2=>?_⟩;have:¬ (!MH r l l.length p)=true:=fun q=>(hg p).1 q (by rw [e1,e2];exact hd)
 exact Zar _ ▸ this
theorem vE {r:Ro} (h:sg r) {l:List Tk} (hl:D3 r l) {t:Tk} (ht:t∈l) {k:Nat} (hk:k<t.so.length) (hj:mE r t k=true):(0<=((k:Nat):Int)/\((k:Nat):Int)<r.lv)/\t.at k∈cK r/\t.de∈cy r/\eB (oS r l) (k:Nat) t.de=none:=by
 have h1:=hl.lv t ht;obtain ⟨j1,j2,j3⟩:=k9.1 hj;refine ⟨by omega,?_,hl.de t ht,(qf h hl).2.2 _ _ ⟨t,ht,k,hk,lk.2 ⟨j1,j2⟩,I,I⟩⟩;rcases hl.so t ht _ (Tk.at_mem hk) with e | e | e
 ·exact absurd e j1
 ·exact absurd e j3
 ·exact e
theorem Ln {r:Ro} (h:sg r) {l:List Tk} (hl:D3 r l) {i:Nat} (hi:i<l.length) {k:Nat} (hk:k<=l[i].so.length) {q0 q:List Po} (h0:iR r l (oS r l) i=some q0) (h1:mC r l[i] k q0=some q) :
  jP r q/\∀ m,k<=m->m<l[i].so.length->lQ r l[i] m=true->eB q (m:Nat) l[i].de=none:=by
 have nA:=hl.de l[i] (Zj hi);rw [tH hl.de _ i (by omega)] at h0;rw [tJ nA] at h1;have h2:tG r (jW r) (oS r l) (wW r l i++wX r l[i] k)=some q:=by rw [mS,h0];exact h1
 have zP:∀ j∈wW r l i++wX r l[i] k,∃ m,∃ hm:m<l.length,∃ n,n<l[m].so.length/\mE r l[m] n=true/\j=⟨(n:Nat),l[m].at n,l[m].de⟩/\(m=i->n<k):=by
  intro j hj;rcases ZB.1 hj with hj | hj
  ·obtain ⟨m,hm,n,e1,e2,e3⟩:=(pM (by omega)).1 hj;exact ⟨m,by omega,n,e1,e2,e3,fun e=>by omega⟩
  ·obtain ⟨n,e1,e2,e3⟩:=pN.1 hj;exact ⟨i,hi,n,by omega,e2,e3,fun _=>e1⟩
 obtain ⟨k1,_,k3⟩:=AO h.wJ h.nd (Q9 r) _ _ _ (qf h hl).1 (fun j hj=>by
   obtain ⟨m,hm,n,e1,e2,rfl,_⟩:=zP j hj;exact vE h hl (Zj hm) e1 e2) (List.pairwise_append.2 ⟨Bf hl.nd i (by omega),Bg r _ _,fun a ha b hb=>by
   obtain ⟨m,hm,n,_,_,rfl⟩:=(pM (by omega)).1 ha;obtain ⟨n',_,_,rfl⟩:=pN.1 hb;rintro ⟨_,e⟩;exact z6 hl.nd hi (show m<l.length by omega) (by omega) e⟩) h2
 refine ⟨k1,fun m aT l5 yF=>?_⟩;rw [(k3 (m:Nat) l[i].de nA fun j hj ⟨e1,e2⟩=>by
  obtain ⟨x,hx,n,_,_,rfl,e5⟩:=zP j hj;by_cases c:x=i
  ·subst c;have:=e5 I;dsimp only at e1;omega
  ·exact z6 hl.nd hx hi c e2.symm).2]
 exact (qf h hl).2.2 _ _ ⟨l[i],Zj hi,m,l5,yF,I,I⟩
theorem SO {r:Ro} (h:sg r) {l:List Tk} (hl:D3 r l) {q:List Po} (h0:iR r l (oS r l) l.length=some q) :
  jP r q/\(∀ v y,y∈cy r->¬ VF r l v y->qK q v (cK r) y=qK r.po v (cK r) y) /\
  ∀ t∈l,∀ k,k<t.so.length->lQ r t k=true->qK q (k:Nat) (cK r) t.de=if t.at k=dash then ⟨#[]⟩ else t.at k:=by
 rw [tH hl.de _ _ (Zz _)] at h0;have zP:∀ j∈wW r l l.length,∃ t∈l,∃ n,n<t.so.length/\mE r t n=true/\j=⟨(n:Nat),t.at n,t.de⟩:=by
  intro j hj;obtain ⟨m,hm,n,e1,e2,e3⟩:=(pM (Zz _)).1 hj;exact ⟨_,Zj hm,n,e1,e2,e3⟩
 obtain ⟨k1,k2,k3⟩:=AO h.wJ h.nd (Q9 r) _ _ _ (qf h hl).1 (fun j hj=>by
   obtain ⟨t,ht,n,e1,e2,rfl⟩:=zP j hj;exact vE h hl ht e1 e2) (Bf hl.nd _ (Zz _)) h0
 have hDr:∀ t∈l,∀ n,n<t.so.length->mE r t n=true->VF r l (n:Nat) t.de:=fun t ht n hn hj=>by
  obtain ⟨j1,j2,_⟩:=k9.1 hj;exact ⟨t,ht,n,hn,lk.2 ⟨j1,j2⟩,I,I⟩
 refine ⟨k1,fun v y hy hd=>?_,fun t ht k hk yF=>?_⟩
 ·rw [(k3 v y hy fun j hj ⟨e1,e2⟩=>by
   obtain ⟨t,ht,n,a1,a2,rfl⟩:=zP j hj;exact hd (by rw [e1,e2];exact hDr t ht n a1 a2)).1]
  exact ((qf h hl).2.1 v y hy hd).2
 ·by_cases Xm:t.at k=dash
  ·rw [if_pos Xm,(k3 (k:Nat) t.de (hl.de t ht) fun j hj ⟨e1,e2⟩=>by
    obtain ⟨t',HU,n,a1,a2,rfl⟩:=zP j hj;dsimp only at e1 e2;obtain ⟨x,hx,rfl⟩:=ZA ht;obtain ⟨x',TD,rfl⟩:=ZA HU;have e:x=x':=Classical.byContradiction fun c=>z6 hl.nd hx TD c e2
    subst e;have e3:k=n:=by omega
    subst e3;exact (k9.1 a2).2.2 Xm).1]
   exact Iq (fun hs=>h.wJ.sd _ hs (hl.de t ht)) ((qf h hl).2.2 _ _ ⟨t,ht,k,hk,yF,I,I⟩)
  ·rw [if_neg Xm];obtain ⟨d1,d2⟩:=lk.1 yF;have hj:mE r t k=true:=k9.2 ⟨d1,d2,Xm⟩;obtain ⟨x,hx,rfl⟩:=ZA ht;exact k2 ⟨(k:Nat),l[x].at k,l[x].de⟩ ((pM (Zz _)).2 ⟨x,hx,k,hk,hj,I⟩)
def xY (r:Ro) (v:Int):Nat->List Po->List Po
 | 0,po=>po
 | i+1,po=>if nD (xY r v i po) v (dw r i) then xY r v i po else (xY r v i po).filter fun x=>!r6 v (dw r i) x
def B8 (r:Ro):Nat->List Po->List Po
 | 0,po=>po
 | k+1,po=>xY r (k:Nat) r.ti.length (B8 r k po)
def ym (r:Ro):Nat->List Po->List Po
 | 0,po=>po
 | n+1,po=>B8 r r.lv.toNat (ym r n po)
theorem vh {o:ByteArray}:nD po v o=true↔∃ p∈po,p.lv=v/\p.ip=o:=by
 unfold nD yx;rw [ZQ];exact ⟨fun ⟨p,hp,h⟩=>⟨p,hp,by simpa using h⟩,fun ⟨p,hp,h⟩=>⟨p,hp,by simpa using h⟩⟩
theorem Ar {r:Ro}:∀ {a b:Nat},a<=b->∀ p∈xY r v b po,p∈xY r v a po:=by
 intro a b h
 induction h with
 | refl=>exact fun _ hp=>hp
 | step _ ih =>
  intro p hp;rw [xY] at hp;split at hp
  ·exact ih p hp
  ·exact ih p (Zr.1 hp).1
theorem Ap {r:Ro}:∀ {a b:Nat},a<=b->∀ p∈B8 r b po,p∈B8 r a po:=by
 intro a b h
 induction h with
 | refl=>exact fun _ hp=>hp
 | step _ ih=>exact fun p hp=>ih p (Ar (Zi _) p hp)
theorem N5 {r:Ro}:∀ {a b:Nat},a<=b->∀ p∈ym r b po,p∈ym r a po:=by
 intro a b h
 induction h with
 | refl=>exact fun _ hp=>hp
 | step _ ih=>exact fun p hp=>ih p (Ap (Zi _) p hp)
def Yk (D:List ByteArray) (po S:List Po):Prop:=∃ f,Sw po D f/\S=po.filter f
theorem FL {r:Ro} (hn:oT r) {v:Int} {po:List Po}:∀ (m:Nat) {S:List Po},m<=r.ti.length->Yk (cy r) po S->Yk (cy r) po (xY r v m S)
 | 0,_,_,h=>h
 | m + 1, S, hm, h => by
  obtain ⟨f,h1,h2⟩:=FL hn m (S:=S) (by omega) h;rw [xY];split
  ·exact ⟨f,h1,h2⟩
  ·rename_i hu;rw [h2,qb];refine ⟨_,h1.step (v:=v) (o:=dw r m) (fun hd=>hn.dt _ hd (mP (by omega))) (fun q hq hf e=>hu ?_),I⟩;rw [h2];exact vh.2 ⟨q,Zr.2 ⟨hq,hf⟩,e⟩
theorem FK {r:Ro} (hn:oT r) {po:List Po}:∀ (m:Nat) {S:List Po},Yk (cy r) po S->Yk (cy r) po (B8 r m S)
 | 0,_,h=>h
 | m+1,_,h=>FL hn _ (Zz _) (FK hn m h)
theorem FN {r:Ro} (hn:oT r) {po:List Po}:∀ (m:Nat),Yk (cy r) po (ym r m po)
 | 0=>⟨_,Sw.start _ _,(ZaK.2 fun _ _=>rfl).symm⟩
 | m+1=>FK hn _ (FN hn m)
theorem JY {r:Ro} (hi:i<m) {p:Po} (hp:p∈xY r v m S) (hv:p.lv=v) (ho:p.ou=dw r i):∃ q∈S,q.lv=p.lv/\q.ip=p.ou:=by
 have mF:=Ar (show i+1<=m from hi) p hp;rw [xY] at mF;split at mF
 ·rename_i hu;obtain ⟨q,hq,e1,e2⟩:=vh.1 hu;exact ⟨q,Ar (Zi _) q hq,by rw [e1,hv],by rw [e2,ho]⟩
 ·have:=(Zr.1 mF).2;unfold r6 at this;simp [hv,ho] at this
theorem JU {r:Ro} {p:Po} (hp:p∈B8 r m S) (hv:0<=p.lv/\p.lv<(m:Nat)) {i:Nat} (hi:i<r.ti.length) (ho:p.ou=dw r i):∃ q∈S,q.lv=p.lv/\q.ip=p.ou:=by
 obtain ⟨k,hk⟩:∃ k:Nat,p.lv=(k:Nat):=⟨p.lv.toNat,by omega⟩;have mF:=Ap (show k+1<=m by omega) p hp;rw [B8] at mF;obtain ⟨q,hq,e⟩:=JY hi mF hk ho;exact ⟨q,Ap (Zi _) q hq,e⟩
inductive Se (po:List Po) (T:List ByteArray):Nat->Po->Prop
 | zero {p:Po}:p∈po->p.ou∈T->Se po T 0 p
 | next {n:Nat} {p q:Po}:p∈po->p.ou∈T->q.lv=p.lv->q.ip=p.ou->Se po T n q->Se po T (n+1) p
theorem Se.mem {n:Nat} {p:Po} (h:Se po T n p):p∈po:=by cases h <;> assumption
theorem Se.it (h1:tu po) {n:Nat} {p:Po} (h:Se po T n p):∃ o∈T,mV po p.lv n o=some p.ou:=by
 induction h with
 | zero _ ht=>exact ⟨_,ht,rfl⟩
 | next hp ht hv hi hq ih =>
  obtain ⟨o,ho,e⟩:=ih;refine ⟨o,ho,?_⟩;rw [<- hv,wY e,lO h1 hq.mem,hi]
theorem FP {r:Ro} {po:List Po} (yz:∀ p∈po,p.ou∈cy r\/p.ou∈cR r) (tW:∀ p∈po,0<=p.lv/\p.lv<r.lv):∀ (n:Nat) (p:Po),p∈ym r n po->¬ Nd po (cy r) p->Se po (cR r) n p
 | 0, p, hp, hn => by
  rcases yz p hp with h | h
  ·exact absurd (Nd.de hp h) hn
  ·exact .zero hp h
 | n + 1, p, hp, hn => by
  have o8:=N5 (Zi _) p hp;rcases yz p o8 with h | h
  ·exact absurd (Nd.de o8 h) hn
  ·obtain ⟨i,hi,e⟩:=ZA h;have yD:i<r.ti.length:=by unfold cR at hi;rwa [Zd] at hi
   rw [qu yD] at e;rw [ym] at hp;have hl:=tW p o8;obtain ⟨q,hq,e1,e2⟩:=JU hp (by omega) yD e.symm;exact .next o8 h e1 e2 (FP yz tW n q hq fun hN=>hn (.up o8 e1 e2 hN))
theorem N4 {r:Ro} (hn:oT r) {po:List Po} (h:NR r po) (tW:∀ p∈po,0<=p.lv/\p.lv<r.lv):ym r 6 po=AD (cy r) po:=by
 obtain ⟨f,hf,e⟩:=FN hn (po:=po) 6;rw [e];refine h.tid hn ⟨hf,fun p hp B2=>?_⟩;have hN:Nd po (cy r) p:=by
  apply Classical.byContradiction;intro hc;have PU:=FP h.out tW 6 p (by rw [e];exact Zr.2 ⟨hp,B2⟩) hc;obtain ⟨o,ho,e1⟩:=PU.it h.one;have e2:mV po p.lv 7 o=some p.ip:=by rw [wY e1,lO h.one hp]
  have h6:=hn.U8;exact h.D1 p.lv (Fi (jP.tie hn h.out h.yf) (.inr ⟨ho,iu (b:=7) (by omega) (by rw [e2];rfl)⟩))
 cases hN with
 | de _ hd=>exact .inl hd
 | @up _ q _ hv hi hq =>
  have:=Q4 (S:=po.filter f) (fun q hq hd=>Zr.2 ⟨hq,hf.de q hq hd⟩) (fun q hq x hx hv hi=>Zr.2 ⟨hq,hf.up q hq x (Zr.1 hx).1 (Zr.1 hx).2 hv hi⟩) hq
  obtain ⟨a,b⟩:=Zr.1 this;exact .inr ⟨q,a,b,hv,hi⟩

theorem A6 {r:Ro} (hd:∀ x∈r.de,0<=x.mx) (ht:∀ x∈r.ti,0<=x.fr) {s:ByteArray} (h:s∈cy r\/s∈cR r):0<=k6 r s:=by
 unfold k6;by_cases h1:0<=bA (cy r) s
 ·obtain ⟨hl,_⟩:=fB h1;rw [if_pos h1,Zk,Zc (by unfold cy at hl;rwa [Zd] at hl)];exact hd _ (Zj _)
 ·rw [if_neg h1];have h2:0<=bA (cR r) s:=by
   rcases h with h | h
   ·exact absurd (dS h) h1
   ·exact dS h
  obtain ⟨hl,_⟩:=fB h2;rw [if_pos h2,Zk,Zc (by unfold cR at hl;rwa [Zd] at hl)];exact ht _ (Zj _)
theorem Pt {r:Ro} (hd:∀ x∈r.sr,0<=x.mx) (ht:∀ x∈r.ti,0<=x.to) {s:ByteArray} (h:s∈cK r\/s∈cR r):0<=kI r s:=by
 unfold kI;by_cases h1:0<=bA (cK r) s
 ·obtain ⟨hl,_⟩:=fB h1;rw [if_pos h1,Zk,Zc (by unfold cK at hl;rwa [Zd] at hl)];exact hd _ (Zj _)
 ·rw [if_neg h1];have h2:0<=bA (cR r) s:=by
   rcases h with h | h
   ·exact absurd (dS h) h1
   ·exact dS h
  obtain ⟨hl,_⟩:=fB h2;rw [if_pos h2,Zk,Zc (by unfold cR at hl;rwa [Zd] at hl)];exact ht _ (Zj _)
structure Iv (r:Ro):Prop where
 RU:D4 r
 len:r.sr.length<=8/\r.de.length<=8/\r.ti.length<=6
 sm:∀ x∈r.sr,0<=x.mx/\x.mx<r.ma
 dm:∀ x∈r.de,0<=x.mx/\x.mx<r.ma
 tm:∀ x∈r.ti,(0<=x.fr/\x.fr<r.ma)/\(0<=x.to/\x.to<r.ma)/\x.fr≠x.to
 nm:∀ s∈eI r,k7 s=true
theorem AY {α:Type} {rH:Int} {bf:List ByteArray} {nm:α->ByteArray} {ck:α->Int} {l:List α} (h:fK rH bf nm ck l=0):∀ x∈l,k7 (nm x)=true:=by
 intro x hx;obtain ⟨k,hk,rfl⟩:=ZA hx;unfold fK at h;split at h
 ·cases h
 ·have:=ew.1 h k hk;rw [pI hk,cI] at this;have:=(bW (by decide)).1 (this _ Zs);simpa using this
theorem prt {r:Ro} (h:kK r=0):Iv r:=by
 obtain ⟨lz,hlen,hs,hd,ht⟩:=AZ h;have h0:=h;unfold kK at h0;rw [cI] at h0;refine ⟨lz,hlen,fun x hx=>kc.1 (hs x hx),fun x hx=>kc.1 (hd x hx),fun x hx=>?_,fun s hs=>?_⟩
 ·have:=ht x hx;unfold oU at this;rw [cI] at this;have g3:=(bW (by decide)).1 (this (cn (decide (x.fr=x.to)) 24) (by simp));exact ⟨kc.1 (this _ (by simp)),kc.1 (this _ (by simp)),by simpa using g3⟩
 ·unfold eI cK cy cR at hs;rw [ZB,ZB,Zy,Zy,Zy] at hs;rcases hs with (⟨x,hx,rfl⟩ | ⟨x,hx,rfl⟩) | ⟨x,hx,rfl⟩
  ·exact AY (h0 _ Zs) x hx
  ·exact AY (h0 (fK 8 (cK r) De.nm (fun x=>fM r x.mx) r.de) (by simp)) x hx
  ·exact AY (h0 (fK 6 (cK r++cy r) Ti.nm (oU r) r.ti) (by simp)) x hx
theorem Iv.wJ {r:Ro} (h:Iv r):oT r:=Ll h.RU h.len.2.2
theorem Iv.ne {r:Ro} (h:Iv r) {s:ByteArray} (hs:s∈cK r\/s∈cy r\/s∈cR r):s≠⟨#[]⟩:=by
 have hm:s∈eI r:=by
  unfold eI;rw [ZB,ZB];rcases hs with h | h | h
  ·exact .inl (.inl h)
  ·exact .inl (.inr h)
  ·exact .inr h
 have:=h.nm s hm;intro e;rw [e] at this;exact absurd this (by decide)
theorem Iv.nd {r:Ro} (h:Iv r) {s:ByteArray} (hs:s∈cK r):s≠dash:=by
 have hm:s∈eI r:=by
  unfold eI;rw [ZB,ZB];exact .inl (.inl hs)
 have:=h.nm s hm;intro e;rw [e] at this;exact absurd this (by decide)
theorem X2 {r:Ro} (h1:oD r=0) (h2:kK r=0) (hV:jP r r.po):fZ r=0:=by
 have hp:=prt h2;have h3:kH r r.po=0:=by
  refine ew.2 fun k hk=>?_;have hl:=hV.Lx _ (Zj hk);have ho:=A6 (fun x hx=>(hp.dm x hx).1) (fun x hx=>(hp.tm x hx).1.1) (hV.out _ (Zj hk))
  have hi:=Pt (fun x hx=>(hp.sm x hx).1) (fun x hx=>(hp.tm x hx).2.1.1) (hV.yf _ (Zj hk))
  have hm:=hV.Q6 _ (Zj hk);have e0:nu r r.po[k]=0:=by
   unfold nu;rw [cI];intro e he;simp only [ZT,Zp,or_false] at he;rcases he with rfl | rfl | rfl | rfl
   ·exact jj.2 (by omega)
   ·exact (bW (by decide)).2 (by simpa using ho)
   ·exact (bW (by decide)).2 (by simpa using hi)
   ·exact (bW (by decide)).2 (by simpa using hm)
  rw [sJ hk,if_neg (not_not_intro e0)];refine if_neg ?_;by_cases NG:k=0
  ·rw [if_pos NG];exact qh.2 (by omega)
  ·rw [if_neg NG,Zc (by omega)];refine qh.2 ?_;have:=Zac.1 hV.sq (k-1) k (by omega) hk (by omega);unfold nF at this;simpa only [ZR,Zn,decide_eq_true_eq] using this
 have h4:Be r=0:=by
  unfold Be;rw [cI];intro e he;simp only [ZT,Zp,or_false] at he;have hti:(cR r).length=r.ti.length:=by unfold cR;rw [Zd]
  rcases he with rfl | rfl
  ·refine (bW (by decide)).2 (mu.2 fun v _ _=>Zas.2 fun x hx hc=>?_);exact hV.D1 v ⟨x.nm,Zy.2 ⟨x,hx,I⟩,by rw [hti];exact fG.1 hc⟩
  ·refine (bW (by decide)).2 (mu.2 fun v _ _=>Zas.2 fun x hx hc=>?_);have:=hV.use v x.nm (Zy.2 ⟨x,hx,I⟩);unfold Le at hc;cases a:nD r.po v x.nm <;> cases b:gM r.po v x.nm <;> rw [a,b] at hc this <;> simp at hc this
 unfold fZ;rw [if_neg (not_not_intro h1),if_neg (not_not_intro h2),if_neg (not_not_intro h3),h4]
theorem MS {r:Ro} (h:fZ r=0) {q:List Po} (hV:jP r q):fZ (r.wp q)=0:=by
 obtain ⟨h1,h2,_,_⟩:=uu h;exact X2 (r:=r.wp q) h1 h2 hV.wp
def qi (po:List Po) (v:Int):Nat->ByteArray->List ByteArray
 | 0,_=>[]
 | n+1,o=>if o=⟨#[]⟩ then [] else o::qi po v n ((eB po v o).getD ⟨#[]⟩)
theorem R2 (po:List Po) (v:Int):∀ n,qi po v n ⟨#[]⟩=[]
 | 0=>rfl
 | n+1=>by rw [qi,if_pos rfl]
theorem vL {po:List Po} (hne:∀ p∈po,p.ip≠⟨#[]⟩) {v:Int}:∀ (n:Nat) {o:ByteArray},o≠⟨#[]⟩->qi po v (n+1) o=o::fJ po v n o
 | 0,o,ho=>by rw [qi,if_neg ho];rfl
 | n + 1, o, ho => by
  rw [qi,if_neg ho];cases h:eB po v o with
  | none=>rw [xI h];exact congrArg _ (R2 po v _)
  | some i =>
   obtain ⟨p,hp,_,_,rfl⟩:=fF h;rw [nR h];exact congrArg _ (vL hne n (hne p hp))
def Nv (r:Ro) (x:Po):Int:=aZ [ia x.lv 0 (r.lv-1),cn (decide (eC r x.ou<0)) 10,cn (decide (kI r x.ip<0)) 10,cn (decide (k6 r x.ou≠kI r x.ip)) 24]
theorem O0 {r:Ro} (h:Iv r) (s:ByteArray):eC r s<0↔k6 r s<0:=by
 rw [K8];constructor
 ·rintro ⟨a,b⟩;unfold k6;have f1:=cM.2 a;have f2:=cM.2 b;rw [if_neg (by omega),if_neg (by omega)];decide
 ·intro ahq;constructor
  ·intro hd;have:=A6 (fun x hx=>(h.dm x hx).1) (fun x hx=>(h.tm x hx).1.1) (.inl hd)
   omega
  ·intro hd;have:=A6 (fun x hx=>(h.dm x hx).1) (fun x hx=>(h.tm x hx).1.1) (.inr hd)
   omega
theorem S4 {r:Ro} (h:Iv r) (x:Po):Nv r x=nu r x:=by
 unfold Nv nu;rw [show decide (eC r x.ou<0)=decide (k6 r x.ou<0) from decide_eq_decide.2 (O0 h _)]
def HD (r:Ro) (k:Nat):Int:=(r.po[k]?.map fun x=>if Nv r x≠0 then Nv r x else if 0<k/\(x.lv<((r.po[k-1]?).getD x).lv\/x.lv=((r.po[k-1]?).getD x).lv/\eC r x.ou<=eC r ((r.po[k-1]?).getD x).ou) then 11 else 0).getD 0
theorem S2 {r:Ro} (h:Iv r) {k:Nat} (hk:k<r.po.length):HD r k=HH r r.po k:=by
 unfold HD;rw [Zc hk,sJ hk,Zbp,Zam,S4 h];by_cases e:nu r r.po[k]=0
 ·rw [if_neg (not_not_intro e),if_neg (not_not_intro e)];have hl:=(oq e).1;by_cases NG:k=0
  ·rw [if_neg (by omega),if_pos NG,if_neg];exact qh.2 (by omega)
  ·rw [if_neg NG,Zc (show k-1<r.po.length by omega),Zam];have key:=@qh (r.po[k]).lv (eC r (r.po[k]).ou) (r.po[k-1]).lv (eC r (r.po[k-1]).ou);by_cases c:mI [(r.po[k]).lv,eC r (r.po[k]).ou] (Fq r (some r.po[k-1]))<=0
   ·rw [if_pos c,if_pos];have:¬ ((r.po[k-1]).lv<(r.po[k]).lv\/(r.po[k-1]).lv=(r.po[k]).lv/\eC r (r.po[k-1]).ou<eC r (r.po[k]).ou):=fun q=>(key.2 q) c
    omega
   ·rw [if_neg c,if_neg];have:=key.1 c;omega
 ·rw [if_pos e,if_pos e]
def Wd (r:Ro):Int:=if kN r fun v=>r.ti.any fun x=>decide ((qi r.po v 8 x.nm).length=8) then 33 else if kN r fun v=>r.ti.any fun x=>nD r.po v x.nm != !decide ((eB r.po v x.nm).getD ⟨#[]⟩=⟨#[]⟩) then 32 else 0
theorem S5 {r:Ro} (h:Iv r) (hp:kH r r.po=0):Wd r=Be r:=by
 have DW:∀ p∈r.po,nu r p=0:=fun p mF=>by
  obtain ⟨k,hk,rfl⟩:=ZA mF;have:=ew.1 hp k hk;rw [sJ hk] at this;by_cases e:nu r r.po[k]=0
  ·exact e
  ·rw [if_pos e] at this;exact this
 have yz:∀ p∈r.po,p.ou∈cy r\/p.ou∈cR r:=fun p mF=>Lf (fun x hx=>(h.dm x hx).1) (fun x hx=>(h.tm x hx).1.1) (oq (DW p mF)).2.1
 have yB:∀ p∈r.po,p.ip∈cK r\/p.ip∈cR r:=fun p mF=>LK (oq (DW p mF)).2.2.1
 have hne:∀ p∈r.po,p.ip≠⟨#[]⟩:=fun p mF=>h.ne ((yB p mF).elim .inl fun q=>.inr (.inr q))
 have tx:∀ x∈r.ti,x.nm≠⟨#[]⟩:=fun x hx=>h.ne (.inr (.inr (Zy.2 ⟨x,hx,I⟩)))
 have hti:(cR r).length=r.ti.length:=by unfold cR;rw [Zd]
 have e1:(kN r fun v=>r.ti.any fun x=>decide ((qi r.po v 8 x.nm).length=8))=kN r fun v=>r.ti.any (NM r v):=by
  unfold kN;congr 1;funext i;have hc:=ML (po:=r.po) (v:=(i:Nat)) (T:=cR r) (jP.tie h.wJ yz yB) (by rw [hti];exact h.len.2.2);rw [ZaW,ZQ,ZQ];constructor
  ·rintro ⟨x,hx,e⟩;rw [decide_eq_true_eq,vL hne 7 (tx x hx),ZE] at e;obtain ⟨t,ht,hm⟩:=hc.2 ⟨x.nm,Zy.2 ⟨x,hx,rfl⟩,by omega⟩;obtain ⟨y,hy,rfl⟩:=Zy.1 ht;exact ⟨y,hy,fG.2 (by rw [<- hti];exact hm)⟩
  ·rintro ⟨x,hx,e⟩;obtain ⟨t,ht,hm⟩:=hc.1 ⟨x.nm,Zy.2 ⟨x,hx,rfl⟩,by rw [hti];exact fG.1 e⟩;obtain ⟨y,hy,rfl⟩:=Zy.1 ht;refine ⟨y,hy,?_⟩;rw [decide_eq_true_eq,vL hne 7 (tx y hy),ZE,hm]
 have e2:(kN r fun v=>r.ti.any fun x=>nD r.po v x.nm != !decide ((eB r.po v x.nm).getD ⟨#[]⟩=⟨#[]⟩))=kN r fun v=>r.ti.any (Le r v):=by
  unfold kN;congr 1;funext i;dsimp only;congr 1;funext x;unfold Le gM;have:(!decide ((eB r.po (i:Nat) x.nm).getD ⟨#[]⟩=⟨#[]⟩))=(eB r.po (i:Nat) x.nm).isSome:=by
   cases e:eB r.po (i:Nat) x.nm with
   | none=>rfl
   | some o =>
    obtain ⟨p,mF,_,_,rfl⟩:=fF e;have:=hne p mF;simp [this]
  rw [this];cases nD r.po (i:Nat) x.nm <;> cases (eB r.po (i:Nat) x.nm).isSome <;> rfl
 unfold Wd Be;rw [e1,e2];cases (kN r fun v=>r.ti.any (NM r v)) <;> cases (kN r fun v=>r.ti.any (Le r v)) <;> rfl
def AX (r:Ro):Int:=if ku (HD r) r.po.length≠0 then ku (HD r) r.po.length else Wd r
theorem OR {r:Ro} (h:Iv r):AX r=if kH r r.po≠0 then kH r r.po else Be r:=by
 have e:ku (HD r) r.po.length=kH r r.po:=Ff fun j hj _=>S2 h hj
 unfold AX;rw [e];by_cases c:kH r r.po=0
 ·rw [if_neg (not_not_intro c),if_neg (not_not_intro c),S5 h c]
 ·rw [if_pos c,if_pos c]
def mor:ByteArray:=⟨#[109,111,114,101]⟩
theorem O1 {r:Ro} {s:ByteArray} (hs:s∈cy r\/s∈cR r):eC r s=if 0<=bA (cy r) s then bA (cy r) s else (r.de.length:Nat)+bA (cR r) s:=by
 unfold eC;by_cases c:s∈cy r
 ·rw [if_pos (dS c),if_pos (dS c)]
 ·have h2:=cM.2 c;rw [if_neg (by omega),if_pos (dS (hs.resolve_left c)),if_neg (by omega)]

section
variable {r:Ro} {a b:ByteArray}
theorem Nh {r:Ro} {s:ByteArray} (h:s∈cK r\/s∈cy r\/s∈cR r):s∈eI r:=by
 unfold eI;rw [ZB,ZB];rcases h with h | h | h
 ·exact .inl (.inl h)
 ·exact .inl (.inr h)
 ·exact .inr h
end
end Go.Proofs.A1
namespace Go.Proofs.A1
open Go Go.SL
open Tryz
open Tryz renaming prog->T_
variable {l:List Tk} {o:ByteArray} {w:World}
theorem zm {r:Ro} (h:(iY r l).2.2=0):∃ q,iR r l (oS r l) l.length=some q/\iY r l=(r.wp q,0,0)/\¬ 0<=q8 r l:=by
 unfold iY at h ⊢;by_cases c:0<=q8 r l
 ·rw [if_pos c] at h;cases h
 ·rw [if_neg c] at h ⊢;show ∃ q,iR r l (AD (cy r) (jC r l l.length)) l.length=some q/\_;cases e:iR r l (AD (cy r) (jC r l l.length)) l.length with
  | none=>rw [e] at h;cases h
  | some q=>exact ⟨q,rfl,rfl,c⟩
def Sj (r:Ro) (t:Tk):List ByteArray:=(List.range r.lv.toNat).map fun k=>if t.at k=⟨#[]⟩ then jD r (k:Nat) t.de else if t.at k=dash then ⟨#[]⟩ else t.at k
theorem Qv {r:Ro} {v:Int} (h:jD r v o≠⟨#[]⟩):jD r v o∈cK r:=by
 unfold jD at h ⊢;split at h
 ·rename_i c;rw [if_pos c];rw [ZQ] at c;obtain ⟨x,hx,e⟩:=c;rw [decide_eq_true_eq] at e;exact Zy.2 ⟨x,hx,e⟩
 ·exact absurd I h
theorem M3 {r:Ro} (h:sg r) {q:List Po} (hq:jP r q) (v:Int) (o:ByteArray):jD (r.wp q) v o=qK q v (cK r) o:=xL (h.wp hq).wJ hq.wp v o
theorem CC {r:Ro} (gD:fZ r=0) {l:List Tk} (hl:D3 r l) {q:List Po} (h0:iR r l (oS r l) l.length=some q) :
  jP r q/\(∀ t∈l,cX (r.wp q) t.de=Sj r t)/\∀ y∈cy r,y ∉ l.map Tk.de->cX (r.wp q) y=cX r y:=by
 have h:=BY gD;have hp:=prt (uu gD).2.1;obtain ⟨k1,k2,k3⟩:=SO h hl h0;refine ⟨k1,fun t ht=>?_,fun y hy hn=>?_⟩
 ·unfold cX Sj;show (List.range r.lv.toNat).map _=_;refine Zbu fun k hk=>?_;have hk:=ZX.1 hk;have tW:=hl.lv t ht;have T9:k<t.so.length:=by omega
  rw [M3 h k1];by_cases hd:lQ r t k=true
  ·rw [k3 t ht k T9 hd,if_neg (lk.1 hd).1]
  ·have oN:¬ VF r l (k:Nat) t.de:=by
    rintro ⟨t',HU,i,hi,u9,e1,e2⟩;obtain ⟨x,hx,rfl⟩:=ZA ht;obtain ⟨x',TD,rfl⟩:=ZA HU;have e:x=x':=Classical.byContradiction fun c=>z6 hl.nd hx TD c e2
    subst e;have:k=i:=by omega
    subst this;exact hd u9
   rw [k2 _ _ (hl.de t ht) oN,<- xL h.wJ h.val];by_cases e1:t.at k=⟨#[]⟩
   ·rw [if_pos e1]
   ·have e2:t.at k=jD r (k:Nat) t.de:=Classical.byContradiction fun c=>hd (lk.2 ⟨e1,c⟩)
    have e3:t.at k≠dash:=hp.nd (by rw [e2];exact Qv (by rw [<- e2];exact e1));rw [if_neg e1,if_neg e3,e2]
 ·unfold cX;show (List.range r.lv.toNat).map _=_;refine Zbu fun k _=>?_;rw [M3 h k1,k2 _ _ hy fun ⟨t,ht,_,_,_,_,e⟩=>hn (Zy.2 ⟨t,ht,e.symm⟩),<- xL h.wJ h.val]
theorem uM {r:Ro}:jT r o=false↔o=⟨#[]⟩\/o=dash\/o∈cK r:=by
 unfold jT dash;rw [Bool.and_eq_false_iff,Bool.and_eq_false_iff,decide_eq_false_iff_not,decide_eq_false_iff_not,decide_eq_false_iff_not,cM];simp only [ne_eq,Zo,or_assoc];rw [Classical.not_not]
theorem vk {r:Ro}:r5 r l=0↔l≠[]/\D3 r l:=by
 have jA:∀ k (hk:k<l.length),yo r l k=0↔(l[k].de∈cy r/\(∀ j (hj:j<k),(l[j]'(by omega)).de≠l[k].de)/\(l[k].so.length:Int)=r.lv/\∀ s∈l[k].so,s=⟨#[]⟩\/s=dash\/s∈cK r):=by
  intro k hk;rw [rz hk,cI];have e1:rm r l[k].de=0↔l[k].de∈cy r:=by
   unfold rm;rw [bW (by decide),decide_eq_false_iff_not,cM,Classical.not_not]
  have e2:cn ((l.take k).any fun y=>decide (y.de=l[k].de)) 9=0↔∀ j (hj:j<k),(l[j]'(by omega)).de≠l[k].de:=by
   rw [bW (by decide),Zas];constructor
   ·intro h j hj e;have hjt:j<(l.take k).length:=by rw [Zq];omega
    have:=h _ (Zj hjt);rw [ZaU] at this;exact this (decide_eq_true e)
   ·intro h x hx e;obtain ⟨j,hj,rfl⟩:=ZA hx;rw [Zq] at hj;rw [ZaU] at e;exact h j (by omega) (of_decide_eq_true e)
  have e3:cn (decide ((l[k].so.length:Int)≠r.lv)) 2=0↔(l[k].so.length:Int)=r.lv:=by
   rw [bW (by decide),decide_eq_false_iff_not,ne_eq,Zo]
  have e4:cn (l[k].so.any (jT r)) 10=0↔∀ s∈l[k].so,s=⟨#[]⟩\/s=dash\/s∈cK r:=by
   rw [bW (by decide),Zas];exact ⟨fun h s hs=>uM.1 (by have:=h s hs;rwa [Zar] at this),fun h s hs=>by rw [Zar];exact uM.2 (h s hs)⟩
  constructor
  ·intro h;exact ⟨e1.1 (h _ (by simp)),e2.1 (h _ (by simp)),e3.1 (h _ (by simp)),e4.1 (h _ (by simp))⟩
  ·rintro ⟨a,b,c,d⟩ e he;simp only [ZT,Zp,or_false] at he;rcases he with rfl | rfl | rfl | rfl
   ·exact e1.2 a
   ·exact e2.2 b
   ·exact e3.2 c
   ·exact e4.2 d
 have hA:Eh l=0↔l≠[]/\l.length<=8:=by
  unfold Eh;rw [cI];constructor
  ·intro h;have a:=(bW (by decide)).1 (h (cn (decide ((l.length:Int)=0)) 12) (by simp));have b:=(bW (by decide)).1 (h (cn (decide ((8:Int)<(l.length:Nat))) 5) (by simp));rw [decide_eq_false_iff_not] at a b;exact ⟨fun e=>a (by rw [e];rfl),by omega⟩
  ·rintro ⟨a,b⟩ e he;simp only [ZT,Zp,or_false] at he;rcases he with rfl | rfl
   ·refine (bW (by decide)).2 (decide_eq_false fun e=>a (Z6 (by omega)))
   ·exact (bW (by decide)).2 (decide_eq_false (by omega))
 unfold r5;constructor
 ·intro h;by_cases c:Eh l=0
  ·rw [if_neg (not_not_intro c)] at h;have h:=ew.1 h;obtain ⟨c1,c2⟩:=hA.1 c;refine ⟨c1,fun t ht=>?_,?_,fun t ht=>?_,fun t ht=>?_,c2⟩
   ·obtain ⟨k,hk,rfl⟩:=ZA ht;exact ((jA k hk).1 (h k hk)).1
   ·show List.Pairwise _ _;rw [Zac];intro i j hi hj yC;rw [Zd] at hi hj;rw [Z2,Z2];exact ((jA j hj).1 (h j hj)).2.1 i yC
   ·obtain ⟨k,hk,rfl⟩:=ZA ht;exact ((jA k hk).1 (h k hk)).2.2.1
   ·obtain ⟨k,hk,rfl⟩:=ZA ht;exact ((jA k hk).1 (h k hk)).2.2.2
  ·rw [if_pos c] at h;exact absurd h c
 ·rintro ⟨c1,h⟩;rw [if_neg (not_not_intro (hA.2 ⟨c1,h.Bz⟩))];refine ew.2 fun k hk=>(jA k hk).2 ⟨h.de _ (Zj hk),fun j hj=>z6 h.nd (by omega) hk (by omega),h.lv _ (Zj hk),h.so _ (Zj hk)⟩
def pg (r:Ro) (t:Tk):Tk:=⟨t.de,(List.range r.lv.toNat).map fun k=>if t.at k=⟨#[]⟩ then ⟨#[]⟩ else if jD r (k:Nat) t.de=⟨#[]⟩ then dash else jD r (k:Nat) t.de⟩
def Ro.KZ (r:Ro) (d:ByteArray) (q:Bool):Ro:=⟨r.lv,r.ma,r.sr,r.de.modify (bA (cy r) d).toNat fun x=>⟨x.nm,x.mx,q⟩,r.ti,r.po⟩
structure Od where
 fr:Int
 tk:List Tk
def Od.zero:Od:=⟨0,[]⟩
def QP (r:Ro) (l:List Od):Nat->Ro
 | 0=>r
 | i+1=>(iY (QP r l i) (l.getD i Od.zero).tk).1
def CT (r:Ro) (l:List Od) (i:Nat):Int:=(iY (QP r l i) (l.getD i Od.zero).tk).2.2
def QA (f:Nat->Int) (n:Nat):Nat:=((List.range n).find? fun i=>decide (f i≠0)).getD 0
def jG (r:Ro) (l:List Od):Ro×Int×Int:=if ku (CT r l) l.length=0 then (QP r l l.length,0,0) else (Ro.nil,(QA (CT r l) l.length:Nat),ku (CT r l) l.length)
theorem Qz {f:Nat->Int} {n i:Nat} (h:∀ j,j<i->f j=0) (hi:i<n) (hn:f i≠0):QA f n=i:=by
 unfold QA;have:(List.range n).find? (fun i=>decide (f i≠0))=some i:=by
  rw [ZaH];refine ⟨by simpa using hn,i,by simpa using hi,by simp,fun j hj=>?_⟩;simp [h j hj]
 rw [this];rfl
def Nx (r:Ro) (l:List Od) (k:Nat):Int:=(l[k]?.map fun x=>aZ [ia x.fr 0 10000000,cn (decide (x.fr<=if k=0 then -1 else (l.getD (k-1) Od.zero).fr)) 11,r5 r x.tk]).getD 0
def Yz (r:Ro) (l:List Od):Int:=if (16:Int)<(l.length:Nat) then 5 else ku (Nx r l) l.length
structure QE (r:Ro) (l:List Od):Prop where
 Bz:l.length<=16
 fr:∀ k (h:k<l.length),0<=l[k].fr/\l[k].fr<=10000000
 inc:∀ i j (hi:i<l.length) (hj:j<l.length),i<j->l[i].fr<l[j].fr
 tk:∀ k (h:k<l.length),D3 r l[k].tk
theorem ods {r:Ro} {l:List Od} (h:Yz r l=0):QE r l:=by
 unfold Yz at h;by_cases c:(16:Int)<(l.length:Nat)
 ·rw [if_pos c] at h;cases h
 ·rw [if_neg c] at h;have h:=ew.1 h;have hk:∀ k (hk:k<l.length),(0<=l[k].fr/\l[k].fr<=10000000)/\(if k=0 then -1 else (l.getD (k-1) Od.zero).fr)<l[k].fr/\r5 r l[k].tk=0:=fun k hk=>by
   have:=h k hk;unfold Nx at this;rw [Zc hk,Zbp,Zam,cI] at this;have a:=jj.1 (this _ Zs);have b:=(bW (by decide)).1 (this (cn (decide (l[k].fr<=if k=0 then -1 else (l.getD (k-1) Od.zero).fr)) 11) (by simp))
   rw [decide_eq_false_iff_not] at b;exact ⟨a,by omega,this _ (by simp)⟩
  have fg:∀ k (Vm:k+1<l.length),l[k].fr<l[k+1].fr:=fun k Vm=>by
   have:=(hk (k+1) Vm).2.1;rwa [if_neg (by omega),ZaA,Zk,Zc (by omega),Zam] at this
  refine ⟨by omega,fun k h=>(hk k h).1,fun i j hi hj yC=>?_,fun k h=>(vk.1 (hk k h).2.2).2⟩
  induction j with
  | zero=>omega
  | succ j ih =>
   have:=fg j hj;by_cases c:i=j
   ·subst c;exact this
   ·have:=ih (by omega) (by omega);omega
structure Np (r:Ro) (l:List Od) (i:Nat) (q:List Po):Prop where
 eq:QP r l i=r.wp q
 val:jP r q
theorem Np.next {r:Ro} (gD:fZ r=0) {l:List Od} (hl:QE r l) {i:Nat} (hi:i<l.length) {q:List Po} (h:Np r l i q) (h0:CT r l i=0):∃ q',Np r l (i+1) q'/\(∀ t∈l[i].tk,cX (r.wp q') t.de=Sj (r.wp q) t)/\∀ y∈cy r,y ∉ l[i].tk.map Tk.de->cX (r.wp q') y=cX (r.wp q) y:=by
 unfold CT at h0;rw [h.eq,Zk,Zc hi,Zam] at h0;obtain ⟨q',e1,e2,_⟩:=zm h0;obtain ⟨k1,k2,k3⟩:=CC (MS gD h.val) ((hl.tk i hi).wp q) e1;refine ⟨q',⟨?_,⟨k1.sq,k1.Lx,k1.out,k1.yf,k1.Q6,k1.D1,k1.use⟩⟩,k2,k3⟩;rw [QP,h.eq,Zk,Zc hi,Zam,e2];rfl
theorem KK {r:Ro} (gD:fZ r=0) {l:List Od} (hl:QE r l):∀ i,i<=l.length->(∀ j,j<i->CT r l j=0)->∃ q,Np r l i q
 | 0,_,_=>⟨r.po,rfl,(BY gD).val⟩
 | i + 1, hi, h => by
  obtain ⟨q,hq⟩:=KK gD hl i (by omega) fun j hj=>h j (by omega);obtain ⟨q',uQ,_⟩:=hq.next gD hl hi (h i (by omega));exact ⟨q',uQ⟩
def jk (l:List Od) (f:Int):Nat:=l.findIdx fun x=>decide (f<x.fr)
theorem Sq (l:List Od) (f:Int):jk l f<=l.length:=List.findIdx_le_length
def RW (b:Nat) (r:Ro) (s d t p:Value) (l:List Po):List bd:=[RB b r s d t p,J1 r s,J2 r d,J3 r t,PB p l]
theorem We {l:List Po} {i:Nat} (h:i<l.length) (cur:List Value):eH (gA l++cur) (i*3) 3=[.q l[i].lv,.string l[i].ou,.string l[i].ip]:=sY (f:=Po.cells) (fun _=>rfl) h cur
theorem RR.wp {r:Ro} {s d t p':Value} {po:List Po} (h1:Rd w s 2 (vZ r.sr)) (h2:Rd w d 3 (vJ r.de)) (h3:Rd w t 3 (vm r.ti)) (h4:Rd w p' 3 (uE po)):RR w (r.wp po) s d t p':=⟨h1,h2,h3,h4⟩
set_option maxHeartbeats 2000000 in
theorem Oo {r:Ro} {s d t p:Value} {b:Nat} {fp:List Nat} (jq:fp.Nodup) (hs:cr (hp w) (RW b r s d t p r.po) fp) (c8:og r) (YP:r.po.length<=1000) :
  bh T_ 257 [.p b] w fp (fun x:Value×(Po->Bool)=>Sw r.po (cy r) x.2/\∀ q∈r.po,x.2 q=true->q.ou∈cy r\/∃ q'∈r.po,x.2 q'=true/\q'.lv=q.lv/\q'.ip=q.ou) (fun _=>.tuple #[]) (fun x=>RW b r s d t x.1 (r.po.filter x.2)):=by
 unfold RW RB PB at *;refine eh func257 I I jq hs ?_;refine Jr<|Ja I<|Jn<|J0 ?_
 refine aV (ι:=Value×(Po->Bool)×Bool) (fun x=>Sw r.po (cy r) x.2.1/\(x.2.2=false->∀ q∈r.po,x.2.1 q=true->q.ou∈cy r\/∃ q'∈r.po,x.2.1 q'=true/\q'.lv=q.lv/\q'.ip=q.ou)) (fun x=>[(2,.bool x.2.2),(0,.p b)])
  (fun x=>RW b r s d t x.1 (r.po.filter x.2.1)) (fun x=>2*(r.po.filter x.2.1).length+if x.2.2 then 1 else 0) ?_ ?_
 ·apply aI (p,(fun _=>true),true) ⟨Sw.start _ _,fun h=>by cases h⟩
  case hs1=>exact bS
  case ht=>
   show bC _ [JP b r s d t p,J1 r s,J2 r d,J3 r t,row 188 3 p (r.po.filter fun _=>true).length (gA (r.po.filter fun _=>true))] _
   rw [ZaK.2 fun _ _=>rfl]
   exact .h5 .nil
 rintro ⟨p',f,fl⟩ ⟨Vt,tz⟩;dsimp only at Vt tz ⊢;unfold RW RB PB;cases fl with
 | false =>
  (refine Jq<|Jr<|Jv I<|Jn<|bZ (.of I)<|Jp<|Jl<|Jo ?_)
  first | with_reducible apply aO | with_reducible apply aQ
  case he=>exact rk I
  case hR=>
   intro w' aB;exact aF (p',f) ⟨Vt,tz I⟩ (by exact .h5 .nil) aB I
 | true =>
  (refine Jq<|Jr<|Jv I<|Jn<|cY (.of I)<|Jk<|J0<|Jr<|Ja I<|Ji<|Jv I<|ab (ep (.of I)) I<|bG I I ae<|JL I .here I ?_)
  have ah1:(r.po.filter f).length<=r.po.length:=ZY _ _;refine JN bN I (fun w1 aT=>Io (cH aT dL I) (by omega)) ?_;intro cv _;dsimp only [id_eq,Zb,Za];refine aK (v:=cv) (by exact .here) fun ca cc e=>?_;subst e;refine JI I<|Jv I<|Jn<|J0 ?_;have mX:∀ k (h:k<(r.po.filter f).length),(gA (r.po.filter f)).length=(r.po.filter f).length*3:=fun _ _=>im _
  refine aV (ι:=Nat×Value×(Po->Bool)×Bool) (fun x=>x.1<=(r.po.filter f).length/\Sw r.po (cy r) x.2.2.1/\(x.2.2.2=false->x.2.2.1=f/\∀ i (hi:i<(r.po.filter f).length),i<x.1->(r.po.filter f)[i].ou∈cy r\/nD (r.po.filter f) (r.po.filter f)[i].lv (r.po.filter f)[i].ou=true)/\(x.2.2.2=true->(r.po.filter x.2.2.1).length<(r.po.filter f).length))
   (fun x=>[(12,.q (x.1:Nat)),(11,.q ((r.po.filter f).length:Nat)),(10,.slice ca (r.po.filter f).length cc),(2,.bool x.2.2.2),(0,.p b)])
   (fun x=>[JP b r s d t (x.2.1),J1 r s,J2 r d,J3 r t,row 188 3 x.2.1 (r.po.filter x.2.2.1).length (gA (r.po.filter x.2.2.1)),row 188 3 (.slice ca (r.po.filter f).length cc) (r.po.filter f).length (gA (r.po.filter f))]) (fun x=>(r.po.filter f).length-x.1) ?_ ?_
  ·apply aI (0,p',f,false) ⟨Zi _,Vt,fun _=>⟨I,fun i _ h=>absurd h (ZU i)⟩,fun h=>by cases h⟩
   case hs1=>exact bS
   case ht=>exact iQ
  rintro ⟨k,p2,f2,fl⟩ ⟨hk,P0,Mh,Bn⟩;dsimp only at hk P0 Mh Bn ⊢;by_cases aM:k<(r.po.filter f).length
  ·refine Jr<|JA I<|Jn<|Jq<|Jd I fun au=>Jk<|Jq<|J0<|Jr ?_;refine dA (E:=188) (sz:=3) (v:=.slice ca (r.po.filter f).length cc) eD (by omega) fun g iz cur e oQ Da C7 yA=>?_;cases e;have c1:=We aM cur
   (refine ab (an (.of I) (.of I) I (by omega) au aW) I ?_;refine ab (bK (.of I) .here c1 I) I ?_;refine Jz I I fun _ _=>ao (.of I) (.of I) .here I I (fv I I I) (bu I) ai ?_;refine Jn<|Jq ?_)
   generalize xg:(r.po.filter f)[k].lv=pv;generalize o8:(r.po.filter f)[k].ou=po;generalize Rm:(r.po.filter f)[k].ip=pi;have Vp:∀ w',RR w' (r.wp (r.po.filter f2)) s d t p2->ak T_ 155 [.agg #[.q r.lv,.q r.ma,s,d,t,p2],.string po] w' (.q (bA (cy r) po)):=fun w' h=>gL (r:=r.wp (r.po.filter f2)) po h
   have hu0:∀ w',RR w' (r.wp (r.po.filter f2)) s d t p2->ak T_ 239 [.agg #[.q r.lv,.q r.ma,s,d,t,p2],.q pv,.string po] w' (.bool (nD (r.po.filter f2) pv po)):=fun w' h=>J6 (r:=r.wp (r.po.filter f2)) pv po h
   with_reducible refine cJ 18 (by kernel_rfl) ?_
   (refine fW I I<|ar (ep (.of I)) I<|ar (cm bI) I<|lU I I ae<|ar (iB .here) I<|dp bb I (fun w' aB=>(Vp w' (RR.wp (cV aB cZ I) (cW aB dL I) (cU aB eD I) (cH aB mN I))))<|ar (lr (.of I) (.of I)) I<|fW I I<|bL I I inferInstance (fun hg bE=>(aS (.of I))) I<|bL I I inferInstance (fun hg bE=>(ep (.bM hg I))) I<|bL I I inferInstance (fun hg bE=>(bK (.bM hg I) bI ai (by rfl))) I<|bL I I inferInstance (fun hg bE=>(aq (.of I) ae)) I<|bL I I inferInstance (fun hg bE=>(ag (.bM hg I) (At.lit .here I))) I<|bL I I inferInstance (fun hg bE=>(aq (.of I) ae)) I<|bL I I inferInstance (fun hg bE=>(ag (.bM hg I) (At.lit .here I))) I<|oK I I (fun hg=>(bj (.of I) (.cons (.bM hg I) (.cons (.bM hg I) (.cons (.bM hg I) .nil))) inferInstance eY)) I (fun hg w' aB=>(hu0 w' (RR.wp (cV aB cZ I) (cW aB dL I) (cU aB eD I) (cH aB mN I))))<|bL I I inferInstance (fun hg bE=>(eF (.bM hg I))) I<|ar (ch (.of I) I) I ?_)
   with_reducible refine cN ?_
   (refine Jn<|nW I (fun au=>?_) fun au=>?_;refine Jr<|Jv I<|bG I I ae<|JL I .here I<|bG I I ae<|JL I .here I ?_;rotate_left;refine Jw<|Jj<|Jt<|Jg<|JB I (by omega)<|Jv I<|Jn ?_;rotate_right)
   ·obtain ⟨PQ,Wx⟩:bA (cy r) po<0/\nD (r.po.filter f2) pv po=false:=by simpa using au
    with_reducible apply gq (As:=[JP b r s d t p2,row 188 3 p2 (r.po.filter f2).length (gA (r.po.filter f2))])
    case hr=>exact eo
    case hd=>rfl
    case ht=>exact .cons bI (.cons eD .nil)
    case hc=>
     intro w1 Bv aT u7 hs1 Dr lz;exact yT (r:=r) (s:=s) (d:=d) (t:=t) (p:=p2) (b:=b) (l:=r.po.filter f2) pv po u7 hs1 (by have:=ZY f2 r.po;omega)
    intro p3 _;dsimp only [id_eq,Zb,Za];unfold RB PB;rw [qb];refine Jn<|Jg<|Ja I<|Jx<|Jj<|Jt<|Jg<|JB I (by omega)<|Jv I<|Jn ?_;refine dC (E:=188) (sz:=3) (g:=g) cZ oQ Da C7 yA ?_;apply aG (k+1,p3,(fun x=>f2 x&&!r6 pv po x),true) ⟨by show k+1<=_;omega,P0.step (cM.1 PQ) (fun q hq hf e=>by
     have:=vh.2 ⟨q,Zr.2 ⟨hq,hf⟩,e⟩;rw [Wx] at this;cases this),(fun h=>by cases h),fun _=>by
      show (r.po.filter fun x=>f2 x&&!r6 pv po x).length<_
      rw [<- qb];cases fl with
      | true=>exact Nat.lt_of_le_of_lt (ZY _ _) (Bn rfl)
      | false =>
       obtain ⟨rfl,_⟩:=Mh rfl;refine List.length_filter_lt_length_iff_exists.2 ⟨_,Zj aM,?_⟩;unfold r6;rw [xg,o8];simp⟩ (by show (r.po.filter f).length-(k+1)<(r.po.filter f).length-k;omega)
    case hs1=>exact bS
    case ht=>exact iQ
   ·have Vq:¬ (decide (bA (cy r) po<0)&&!nD (r.po.filter f2) pv po)=true:=by
     simp only [Zn,decide_eq_true_eq,Zbd,not_and,Bool.not_eq_false] at au ⊢;exact fun c=>au.resolve_left (fun q=>q c)
    refine dC (E:=188) (sz:=3) (g:=g) (by exact Take.there .here) oQ Da C7 yA ?_;apply aG (k+1,p2,f2,fl) ⟨by show k+1<=_;omega,P0,(fun h=>⟨(Mh h).1,fun i hi YX=>by
     by_cases e:i=k
     ·subst e;rw [xg,o8];obtain ⟨e1,_⟩:=Mh h;rw [e1] at Vq;by_cases c:bA (cy r) po<0
      ·right
       cases c2:nD (r.po.filter f) pv po with
       | true=>rfl
       | false=>exact absurd (show (decide (bA (cy r) po<0)&&!nD (r.po.filter f) pv po)=true by rw [c2,decide_eq_true c];rfl) Vq
      ·exact .inl (Classical.byContradiction fun q=>c (cM.2 q))
     ·exact (Mh h).2 i hi (show i<k by have:i<k+1:=YX;omega)⟩),Bn⟩ (by show (r.po.filter f).length-(k+1)<(r.po.filter f).length-k;omega)
    case hs1=>exact bS
    case ht=>exact .cons bI (.cons bI (.cons bI (.cons bI (.cons bI (.h1 .nil)))))
  ·have e:k=(r.po.filter f).length:=by omega
   subst e;refine Jr<|JA I<|Jn<|Jq<|Jc I fun au=>Jp<|Jl<|Jo<|Jj<|Jt ?_;apply aG (p2,f2,fl) ⟨P0,fun h q hq hf=>by
    obtain ⟨rfl,h2⟩:=Mh h;obtain ⟨i,hi,rfl⟩:=ZA (Zr.2 ⟨hq,hf⟩);rcases h2 i hi hi with e | e
    ·exact .inl e
    ·obtain ⟨q',uQ,e'⟩:=vh.1 e;obtain ⟨x1,x2⟩:=Zr.1 uQ;exact .inr ⟨q',x1,x2,e'⟩⟩ (by
    show 2*(r.po.filter f2).length+(if fl then 1 else 0)<2*(r.po.filter f).length+(if true then 1 else 0)
    cases fl with
    | true=>have:=Bn rfl;simp only [if_true];omega
    | false=>rw [(Mh rfl).1];simp)
   case hs1=>exact bS
   case ht=>exact iQ
end Go.Proofs.A1
namespace Go.SL
open Go
section
variable {P:Program} {r:Option Nat} {c:Cx} {D:List Nat} {sl:aL} {hs hs' hs2:List bd} {Q:Exit->Act->World->Prop} {ops:Array Oper} {d:Nat} {dst:Option Tmp} {ty:TypeId} {pos:String} {af:Array Edge} {g:Option (Nat×Bool)} {rest:List Oper} {κ:Type} [DecidableEq κ] {kv:κ->Value}
theorem Hp {X:Act->World->Prop} {b:Nat} {l:List (κ×Value)} (ht:Take hs (mp kv b l) hs') (k:∀ es ck,Lm kv l es ck->Tr c D sl (bz b (.map es ck)::hs') X):Tr c D sl hs X:=fun a w a7=>by
 have hm:=a7.mem.take (ht.append _);obtain ⟨kk,fp,hn,⟨f1,f2,rfl,⟨e,es,ck,h1,h2⟩,h3⟩,Bn⟩:=hm;exact k es ck h2 a w (a7.heap ⟨kk,f1++f2,hn,⟨f1,f2,I,⟨e,h1⟩,h3⟩,Bn⟩)
end
end Go.SL
namespace Go.Proofs.A1
open Go Go.SL
open Tryz
open Tryz renaming prog->T_
theorem DL {r:Ro} {v:Int} {i:Nat}:∀ {q:List Nat} {po:List Po} {x:ByteArray},rW r v po x (q++[i])=(if gM (rW r v po x q).1 v (dw r i) then (rW r v po x q).1 else (rW r v po x q).1++[⟨v,dw r i,(rW r v po x q).2⟩],dw r i)
 | [],po,x=>rfl
 | j :: q, po, x => by
  rw [Zb,rW,rW];exact DL
theorem BM {r:Ro} {v:Int}:∀ (q:List Nat) (po:List Po) (x:ByteArray),(rW r v po x q).1.length<=po.length+q.length
 | [],po,x=>Zz _
 | j :: q, po, x => by
  rw [rW];refine ZS (BM q _ _) ?_;rw [ZE];split
  ·omega
  ·rw [Zg,Z8];omega
theorem G4 {r:Ro} {v:Int}:∀ (q:List Nat) (po:List Po) (x:ByteArray),(∀ i∈q,i<r.ti.length)->(∀ p∈po,p.ou∈cy r\/p.ou∈cR r)->∀ p∈(rW r v po x q).1,p.ou∈cy r\/p.ou∈cR r
 | [],po,x,_,h=>h
 | j :: q, po, x, hi, h => by
  rw [rW];refine G4 q _ _ (fun i yD=>hi i (ZP _ yD)) fun p hp=>?_;split at hp
  ·exact h p hp
  ·rcases ZB.1 hp with hp | hp
   ·exact h p hp
   ·rw [ZG.1 hp];exact .inr (mP (hi j Zs))
variable {i:Nat} {l:List Ti}
theorem VV (h:i<l.length) (cur:List Value):eH (kU l++cur) (i*3) 3=[.string l[i].nm,.q l[i].fr,.q l[i].to]:=sY (f:=Ti.cells) (fun _=>rfl) h cur
theorem SA (h:i<l.length) (cur:List Value):(kU l++cur)[i*3]? = some (.string l[i].nm):=by
 have:=uX (cs:=kU l++cur) (o:=i*3) (n:=3) (j:=0) (by omega);rw [VV h cur,Zaz] at this;exact this.symm
theorem Gh (l:List Po) (q:Po):gA (l++[q])=gA l++[.q q.lv,.string q.ou,.string q.ip]:=by
 unfold gA uE;simp [Po.cells]
theorem S6 {r:Ro} {x y:Po}:S7 r x y<0↔nF r x y=true:=by
 rw [vu];unfold nF;simp
set_option maxHeartbeats 2000000 in
theorem VX {r:Ro} {s d t p:Value} {b:Nat} {po:List Po} {xv:Value} {xp:List Nat} (xf:Nat) (v:Int) (so de:ByteArray) {w:World} {fp:List Nat} (jq:fp.Nodup) (hs:cr (hp w) [RB b r s d t p,J1 r s,J2 r d,J3 r t,PB p po,row 3 1 xv xp.length (gV xp)] fp)
  (c8:og r) (YP:po.length<=1000) (hxf:xp.length<=100) (hd:D4 r) (hi:∀ i∈xp,i<r.ti.length) (yz:∀ q∈po,q.ou∈cy r\/q.ou∈cR r) (nA:de∈cy r) (hV:(kV r po v so xp de).Pairwise (fun a b=>nF r a b=true)) :
  bh T_ 258 [.p b,.q v,.string so,.agg #[xv,.q (xf:Nat)],.string de] w fp (fun _:Value=>True) (fun _=>.tuple #[]) (fun p'=>[RB b r s d t p',J1 r s,J2 r d,J3 r t,PB p' (kV r po v so xp de),row 3 1 xv xp.length (gV xp)]):=by
 unfold RB PB at *;refine eh func258 I I jq hs ?_;refine aK (v:=xv) eD fun xa xc e=>?_;subst e;refine aK (v:=t) cZ fun ta tc e=>?_;subst e;refine aK (v:=p) dL fun pa pc e=>?_;subst e
 (refine Jr<|Jy I I fun _ _=>Ji<|Jv I<|Ja I<|Jn<|Jq<|Jr<|bG I I ae<|JL I .here I<|JI I<|Jv I<|Jn<|J0 ?_)
 rename_i b8 Xu
 refine aV (ι:=Nat×Value) (fun y=>y.1<=xp.length) (fun y=>[(19,.q (y.1:Nat)),(18,.q (xp.length:Nat)),(17,.slice xa xp.length xc),(10,.string (rW r v po so (xp.take y.1)).2),(0,.p b),(1,.q v),(4,.string de)])
  (fun y=>[JP b r s d (.slice ta r.ti.length tc) (y.2),J1 r s,J2 r d,row 187 3 (.slice ta r.ti.length tc) r.ti.length (kU r.ti),row 188 3 y.2 (rW r v po so (xp.take y.1)).1.length (gA (rW r v po so (xp.take y.1)).1),row 3 1 (.slice xa xp.length xc) xp.length (gV xp)]) (fun y=>xp.length-y.1) ?_ ?_
 ·apply aI (0,.slice pa po.length pc) (Zi _)
  case hs1=>
   show my _ [(19,.q (0:Nat)),(18,.q (xp.length:Nat)),(17,.slice xa xp.length xc),(10,.string so),(0,.p b),(1,.q v),(4,.string de)];exact .cons I (.cons I (.cons I (.cons I (.cons I (.cons I (.cons I .nil))))))
  case ht=>
   exact .cons (.there .here) (.cons (.there .here) (.cons (.there .here) (.cons (.there .here) (.cons (.there .here) (.cons (.there .here) .nil)))))
 rintro ⟨k,pv⟩ hk;dsimp only at hk ⊢;have Up:=BM (r:=r) (v:=v) (xp.take k) po so;rw [Zq] at Up;by_cases aM:k<xp.length
 ·have rM:rW r v po so (xp.take (k+1))=(if gM (rW r v po so (xp.take k)).1 v (dw r xp[k]) then (rW r v po so (xp.take k)).1 else (rW r v po so (xp.take k)).1++[⟨v,dw r xp[k],(rW r v po so (xp.take k)).2⟩],dw r xp[k]):=by
   rw [Zm aM,DL]
  have hix:=hi _ (Zj aM);have tx:dw r xp[k]=(r.ti[xp[k]]).nm:=by unfold dw;rw [om hix]
  generalize rW r v po so (xp.take k)=A at rM Up ⊢;obtain ⟨q,la⟩:=A;dsimp only at rM Up ⊢;refine aK (E:=188) (sz:=3) (v:=pv) dL fun va vc e=>?_;subst e;refine Jr<|JA I<|Jn<|Jq<|Jd I fun au=>Jk<|Jq<|J0<|Jr ?_;refine dA (E:=3) (sz:=1) (v:=.slice xa xp.length xc) eD (by omega) fun g1 c1 u1 e kS aT hz1 Xa=>?_;cases e;have a1:=CY aM u1;generalize hxk:xp[k]=ik at *
  (refine ab (an (.of I) (.of I) I (by omega) au aW) I ?_;refine ab (ag (.of I) (At.mJ .here a1)) I ?_;refine Ja I<|Ji<|Jv I<|ab (ep (.of I)) I ?_;refine bG I I ae ?_;refine JL I (.there .here) I<|Jv I ?_)
  refine dA (E:=187) (sz:=3) (v:=.slice ta r.ti.length tc) dL (by omega) fun g2 c2 u2 e kr l5 hz2 E5=>?_;cases e;have a2:=SA hix u2;rw [<- tx] at a2
  (refine ab (an (.of I) (.of I) I (by omega) (by omega) aW) I<|bG I I ae<|ab (ag (.of I) (At.mJ .here a2)) I<|Ja I<|Jn<|Jq<|Jr<|Jv I<|ab (ep (.of I)) I<|ab (cm bI) I<|Jv I<|Jv I ?_)
  refine dC (E:=187) (sz:=3) (g:=g2) (by exact .here) kr l5 hz2 E5 ?_;refine dC (E:=3) (sz:=1) (g:=g1) (by exact Take.there .here) kS aT hz1 Xa ?_;refine aj eo I (fun w' aB=>rV (r:=r.wp q) v (dw r ik) (RR.wp (cV aB cZ I) (cW aB dL I) (cU aB (by exact Take.there .here) I) (cH aB eD I))) ?_;have nf:gM (r.wp q).po v (dw r ik)=gM q v (dw r ik):=rfl;rw [nf];have Ri:(gA q).length=q.length*3:=im q;cases Dn:gM q v (dw r ik) with
  | false =>
   rw [Dn,if_neg (by decide)] at rM;have hpa:gA (q++[⟨v,dw r ik,la⟩])=gA q++[.q v,.string (dw r ik),.string la]:=Gh _ _;have xg:(q++[(⟨v,dw r ik,la⟩:Po)]).length=q.length+1:=by simp
   (refine JH I<|Jn<|cY (.of I)<|Jg<|Jv I<|Jv I<|ab (ep (.of I)) I<|bG I I ae<|JL I bI I<|Jv I<|Jv I<|Jv I<|ab (aU (.o I (.o I (.o I .nil))) ai) I<|a8 (ba (.o I .nil) I I bB bB ai) I fun _ _=>?_)
   refine bn (.of I) (.of I) mN .here ai (by rfl) (fv I I I) (by rfl) (by rfl) (by rfl) dW (by rfl) ?_;intro v';refine aK (by exact .here) fun a' iz e=>?_;subst e
   (refine ab (ep (.of I)) I<|bG I I ae<|ao (.of I) (.of I) dL I I (dG I) (bu I) ai<|Jn<|Jg<|Jv I<|Ja I<|Jx<|Jj<|Jt<|Jg<|JB I (by omega)<|Jv I<|Jn ?_)
   apply aG (k+1,.slice a' (q.length+1) iz) (by show k+1<=_;omega) (by show xp.length-(k+1)<xp.length-k;omega)
   case hs1=>
    dsimp only;rw [rM];exact .cons I (.cons I (.cons I (.cons I (.cons I (.cons I (.cons I .nil))))))
   case ht=>
    dsimp only;rw [rM];dsimp only;rw [xg,hpa];exact .h1 (.cons dL (.cons dL (.cons cZ (.h1 (.cons (.there .here) .nil)))))
  | true =>
   rw [Dn,if_pos I] at rM
   (refine JH I<|Jn<|bZ (.of I)<|Jk<|Jg<|Jv I<|Ja I<|Jx<|Jj<|Jt<|Jg<|JB I (by omega)<|Jv I<|Jn ?_)
   apply aG (k+1,.slice va q.length vc) (by show k+1<=_;omega) (by show xp.length-(k+1)<xp.length-k;omega)
   case hs1=>
    dsimp only;rw [rM];exact .cons I (.cons I (.cons I (.cons I (.cons I (.cons I (.cons I .nil))))))
   case ht=>
    dsimp only;rw [rM];exact .cons bI (.cons bI (.cons bI (.cons (.there .here) (.cons (.there .here) (.h1 .nil)))))
 ·have e:k=xp.length:=by omega
  subst e;rw [ZO] at *;refine aK (E:=188) (sz:=3) (v:=pv) dL fun va vc e=>?_;subst e
  (refine Jr<|JA I<|Jn<|Jq<|Jc I fun au=>Jp<|Jl<|Jo<|Jt<|Jr<|Jv I<|Jv I<|ab (ep (.of I)) I<|bG I I ae<|JL I .here I<|Jv I<|Jv I<|Jv I<|ab (aU (.o I (.o I (.o I .nil))) ai) I<|a8 (ba (.o I .nil) I I bB bB ai) I fun _ _=>?_)
  refine bn (.of I) (.of I) eD .here ai (by rfl) (fv I I I) (by rfl) (by rfl) (by rfl) dW (by rfl) ?_;intro v';refine aK (by exact .here) fun a' iz e=>?_;subst e
  (refine ab (ep (.of I)) I<|bG I I ae<|ao (.of I) (.of I) bI I I (dG I) (bu I) ai<|Ji<|Jv I<|ab (ep (.of I)) I<|ab (cm .here) I ?_)
  have hAo:=G4 (r:=r) (v:=v) xp po so hi yz;have ny:∀ S:List Po,S.Perm ((rW r v po so xp).1++[⟨v,de,(rW r v po so xp).2⟩])->S.Pairwise (fun a b=>¬ S7 r b a<0)->S=kV r po v so xp de:=fun S h1 h2=>KE hV h1 (h2.imp fun h=>fun c=>h (S6.2 c))
  have aij:=BM (r:=r) (v:=v) xp po so;generalize rW r v po so xp=A at *;obtain ⟨q,la⟩:=A;dsimp only at *;have hpa:gA (q++[⟨v,de,la⟩])=gA q++[.int .i64 v,.string de,.string la]:=Gh _ _;have xg:(q++[(⟨v,de,la⟩:Po)]).length=q.length+1:=by simp
  rw [<- hpa,<- xg];have jI:∀ y∈q++[(⟨v,de,la⟩:Po)],jL (eI r) y.ou=true:=fun y hy=>by
   rw [fG];rcases ZB.1 hy with hy | hy
   ·exact Nh ((hAo y hy).elim (fun e=>.inr (.inl e)) fun e=>.inr (.inr e))
   ·rw [ZG.1 hy];exact Nh (.inr (.inl nA))
  have hlen:(q++[(⟨v,de,la⟩:Po)]).length<=100000:=by omega
  generalize q++[(⟨v,de,la⟩:Po)]=L at *;refine JN bN I (fun w1 aT=>Gg (r:=r.wp L) (RR.wp (cV aT cZ I) (cW aT dL I) (cU aT eD I) (cH aT (by exact Take.there .here) I)) (by have:=c8;unfold og at this;show r.de.length+r.ti.length<=_;omega)) ?_;intro bm _;dsimp only [id_eq,Zb,Za];rw [show pJ (r.wp L)=pJ r from I]
  (refine Jz I I fun _ _=>ao (.of I) (.of I) .here I I (dG I) (bu I) ai<|Jn<|Jg<|Jv I<|ab (ep (.of I)) I<|bG I I ae<|JL I bI I<|ab (bD .nil (.o I .nil)) I ?_)
  rename_i b61 aia NQ aih;refine Hp (b:=bm) (l:=pJ r) (kv:=fun s:ByteArray=>Value.string s) (by exact Take.there .here) fun es ck dU=>?_
  with_reducible apply gq (As:=[row 188 3 (.slice a' L.length iz) L.length (gA L)])
  case hr=>exact bb
  case hd=>rfl
  case ht=>exact .cons cZ .nil
  case hc=>
   intro w1 Bv aT u7 hs1 Dr lz;have h14:NQ ∉ Bv:=lz NQ _ _ (by exact Take.there .here);have Y2:bm ∉ Bv:=lz bm _ _ (by exact .here);have f14:w1.cell? ⟨NQ,0,none⟩=some (.map (some bm)):=At.lit (by exact Take.there .here) I w1 aT;exact KA (r:=r) (l:=L) hs1 hd jI (by omega) f14 ⟨es,ck,aT.bz (by exact .here),dU⟩ h14 Y2
  rintro S ⟨hSp,Vt⟩;rw [ny S hSp Vt];have hlS:S.length=L.length:=hSp.length_eq;dsimp only [id_eq,Zb,Za];unfold PB;have hzl:(kV r po v so xp de).length=L.length:=by rw [<- ny S hSp Vt];exact hlS
  refine kJ ?_
  first | with_reducible apply aO | with_reducible apply aQ
  case he=>exact rk I
  case hR=>
   intro w' aB;exact aF (.slice a' L.length iz) trivial (by exact .cons cZ (.cons dL (.cons dL (.cons dL (.h1 (.cons cZ .nil)))))) aB I
end Go.Proofs.A1
namespace Go.SL
open Go
theorem kz {P:Program} {c:Cx} {sl:aL} {hs hs':List bd} {fn:Func} {s t u:Tmp} {T:TypeId} {b o n:Nat} {cs vs:List Value} {E:TypeId} {fz:Nat×Nat} {x y:Value} (h:fn.results=#[.cell t T,.tmp s,.tmp u]) (hT:Ty P T true n) (hp:c5 sl t=some (.pointer (some ⟨b,o,none⟩))) (ht:Take hs (SL.bz b (.cells cs.toArray E fz)) hs') (hv:eH cs o n=vs) (hl:vs.length=n) (hx:c5 sl s=some x) (hy:c5 sl u=some y):Ends P fn c sl hs (.tuple #[.agg vs.toArray,x,y]):=
 RT (xs:=[.cell t T,.tmp s,.tmp u]) (vs:=[.agg vs.toArray,x,y]) h (IY.cons (RV.cell hp (Lu (eR.bz ht hv) hl)) (IY.cons (RV.tmp hx) (IY.cons (RV.tmp hy) IY.nil))) (by simp)
end Go.SL
namespace Go.Proofs.A1
open Go Go.SL
open Tryz
open Tryz renaming prog->T_
def tU (r:Ro) (t:Tk):Bool:=(r.de.getD (bA (cy r) t.de).toNat ⟨⟨#[]⟩,0,false⟩).pr
variable {w:World} {x:fc}
theorem Pb {r:Ro} {s d t p:Value} {b:Nat} (h:RR w r s d t p) (hA:BR w b (RC r s d t p)) (hx:x.tk.de∈cy r):ak T_ 253 [.agg x.cells.toArray,.p b] w (.bool (tU r x.tk)):=by
 have h1:=Rd.one h.sr;have h3:=Rd.one h.ti;have h4:=Rd.one h.po;have nA:=h.de;obtain ⟨a3,ur,b3,o3,rfl,nb,gC,se,o9⟩:=nA;rw [bY] at *;unfold maxLen at gC;obtain ⟨j0,uS⟩:∃ i:Nat,bA (cy r) x.tk.de=(i:Nat):=⟨(bA (cy r) x.tk.de).toNat,by have:=dS hx;omega⟩;have Dh:j0<r.de.length:=by
  obtain ⟨hl,_⟩:=fB (l:=cy r) (s:=x.tk.de) (by omega);rw [uS,ZL] at hl;unfold cy at hl;rwa [Zd] at hl
 have e0:tU r x.tk=(r.de[j0]).pr:=by unfold tU;rw [uS,ZL,Zk,Zc Dh];rfl
 have cu:=se (iy Dh);have aC:=(o9 j0 _ (fN Dh)).2;unfold De.cells at aC;have c2:=aC 2 _ I;have Vp:∀ w',aJ [] w w'->ak T_ 155 [.agg #[.q r.lv,.q r.ma,s,.slice a3 r.de.length ur,t,p],.string x.tk.de] w' (.q (j0:Nat)):=fun w' hk=>uS ▸ gL x.tk.de (h.keeps hk)
 have f3:w.cell? ⟨b,3,none⟩=some (.slice a3 r.de.length ur):=hA 3 _ I;have lj:∀ (j:Nat) (u:Value),[Value.int .i64 r.lv,.q r.ma,s,.slice a3 r.de.length ur,t,p][j]? = some u->w.cell? ⟨b,0+j,none⟩=some u:=hA;clear hA;rw [e0];unfold fc.cells;refine ah func253 I I ?_;refine Jr<|Jy I I fun _ _=>Ja I<|Jn<|Jq ?_
 with_reducible refine cJ 10 (by kernel_rfl) ?_
 (refine lU I I ae<|ar (ag (.of I) (At.base f3 I)) I<|ar (iU (eR.base lj I)) I<|lU I I ae<|ar (iB .here) I<|dp bb I (fun w' aB=>(Vp w' (Mem.keeps aB)))<|ar (an (.of I) (.of I) cu (by omega) (by omega) aW) I<|lU I I ae<|ar (ag (.of I) (At.base c2 I)) I<|ar (cC (.of I)) I ?_)
 with_reducible refine cN ?_
 refine Jn<|Je<|JT ?_
 rfl
theorem PR {r:Ro} {s d t p:Value} {b:Nat} (h:RR w r s d t p) (hA:BR w b (RC r s d t p)) (tW:r.lv<=1000) (c8:r.ti.length<=1000000):bh T_ 255 [.agg x.cells.toArray,.p b] w [] (fun _:Value=>True) id (fun v=>[row 9 1 v r.lv.toNat (aP (cX r x.tk.de))]):=by
 obtain ⟨h1,h2,h3,h4⟩:=h.one;have lj:∀ (j:Nat) (u:Value),[Value.int .i64 r.lv,.int .i64 r.ma,s,d,t,p][j]? = some u->w.cell? ⟨b,0+j,none⟩=some u:=hA;clear hA;unfold fc.cells;refine aR func255 I I ?_
 (refine Jr<|Jy I I fun _ _=>Ja I<|Ji<|ab (iU (eR.base lj I)) I<|bG I I ae<|JL I .here I ?_)
 refine JN bb I (fun w1 aT=>xi x.tk.de (h.keeps aT.keeps) tW c8) ?_;intro v _;dsimp only [id_eq,Zb,Za];refine aK (v:=v) (by exact .here) fun va vc e=>?_;subst e;refine Ja I<|Jn<|Je ?_
 first | with_reducible apply aO | with_reducible apply aQ
 case he=>exact dI I I
 case hR=>
  intro w' aB;exact aF (.slice va r.lv.toNat vc) trivial (by exact .h1 .nil) aB I
theorem Tq {kv:Value} {l:List fc} {g:fc->List ByteArray} {n:Nat} {f:FuncId} {first cap:List Value} [bV T_ f] {w:World} (h:Rd w kv 2 (gP l)) (hM:rp w l) (hn:l.length<=1000) (hg:∀ x∈l,(g x).length=n)
  (cF:∀ x∈l,∀ w',aJ [] w w'->bh T_ f (first++[.agg x.cells.toArray]++cap) w' [] (fun _:Value=>True) id (fun v=>[row 9 1 v n (aP (g x))])) :
  bh T_ 254 [kv,.func (.func f) first.toArray cap.toArray] w [] (fun x:Value×List Value=>x.2.length=l.length) (fun x=>x.1) (fun x=>[row 32 1 x.1 l.length x.2,gY 9 x.2 (l.map fun y=>aP (g y))]):=by
 obtain ⟨a,cp,b,o,rfl,dy,bT,ha,hc⟩:=h;rw [dx] at *;unfold maxLen at bT;refine aR func254 I I ?_;refine Jr<|Ja I<|Ji<|Ja I<|Jn<|Jq<|Jr<|Jv I<|JI I<|Jv I<|Jn<|J0 ?_;refine aN 32 1 ?_;refine ie 9 ?_
 refine aV (ι:=Nat×Value×List Value) (fun x=>x.1<=l.length/\x.2.2.length=x.1) (fun x=>[(10,.q (x.1:Nat)),(9,.q (l.length:Nat)),(8,.slice a l.length cp),(5,x.2.1),(1,.func (.func f) first.toArray cap.toArray)])
  (fun x=>[row 32 1 x.2.1 x.1 x.2.2,gY 9 x.2.2 ((l.take x.1).map fun y=>aP (g y))]) (fun x=>l.length-x.1) ?_ ?_
 ·apply aI (0,.z,[]) ⟨Zi _,I⟩
  case hs1=>exact bS
  case ht=>
   exact .cons (.there .here) (.h1 .nil)
 rintro ⟨k,v,vs⟩ ⟨hk,pQ⟩;dsimp only at hk pQ ⊢;by_cases aM:k<l.length
 ·have cu:=ha (iW aM);have aC:=(hc k _ (kh aM)).2;have jK:=cF _ (Zj aM);have NJ:=hg _ (Zj aM);have gi:=Rd.one (hM _ (Zj aM));have htk:(l.take (k+1)).map (fun y=>aP (g y))=((l.take k).map fun y=>aP (g y))++[aP (g l[k])]:=by
   rw [Zm aM,Zt];rfl
  have mW:((l.take k).map fun y=>aP (g y)).length=k:=by rw [Zd,Zq];omega
  unfold fc.cells at aC jK;refine aK (E:=32) (sz:=1) (v:=v) (by exact .here) fun va vc e=>?_;subst e
  (refine Jr<|JA I<|Jn<|Jq<|Jd I fun au=>Jk<|Jq<|J0<|Jr<|ab (fY cu au) I<|ab (iU (eR.base aC I)) I<|Jz I I fun _ _=>ao (.of I) (.of I) .here I I (gO I gi) (bu I) ai<|Jn<|Jg<|Jv I<|Jv I<|ab (cm .here) I ?_)
  refine JN bN I (fun w1 aT=>jK w1 aT.keeps) ?_;intro hv _;dsimp only [id_eq,Zb,Za];refine aK (E:=9) (sz:=1) (v:=hv) (by exact .here) fun jB kr e=>?_;subst e;refine a8 (aD (.o I .nil) I I I I) I (fun _ _=>?_);refine bn (.of I) (.of I) cZ .here ai (by rfl) (dG I) (by rfl) (by rfl) (by rfl) dW (by rfl) ?_;intro v';refine Ja I<|Jx<|Jj<|Jt<|Jg<|JB I (by omega)<|Jv I<|Jn ?_;refine j7 (E:=9) (vs:=vs) (v:=.slice jB n kr) (x:=aP (g l[k])) dL bI (by rw [c6,NJ]) (by rw [mW,pQ]) ?_;apply aG (k+1,v',vs++[.slice jB n kr]) ⟨by show k+1<=_;omega,by rw [Zg,pQ];rfl⟩ (by show l.length-(k+1)<l.length-k;omega)
  case hs1=>exact bS
  case ht=>
   dsimp only;rw [htk];exact .cons (.there .here) (.h1 .nil)
 ·have e:k=l.length:=by omega
  subst e;rw [ZO] at *;refine aK (E:=32) (sz:=1) (v:=v) (by exact .here) fun va vc e=>?_;subst e;refine Jr<|JA I<|Jn<|Jq<|Jc I fun au=>Jp<|Jl<|Jo<|Jt<|Jr<|Jv I<|Ja I<|Jn<|Je ?_
  first | with_reducible apply aO | with_reducible apply aQ
  case he=>exact dI I I
  case hR=>
   intro w' aB;exact aF (.slice va l.length vc,vs) pQ (by exact .h2 .nil) aB I
theorem rF {r:Ro} (h:sg r) {s:ByteArray} (hs:s∈cy r\/s∈cR r):0<=eC r s/\eC r s<14:=by
 have hl:=h.len;have l1:(cy r).length=r.de.length:=by unfold cy;rw [Zd]
 have l2:(cR r).length=r.ti.length:=by unfold cR;rw [Zd]
 rw [O1 hs];by_cases c:s∈cy r
 ·have:=dS c;have:=Bx this;rw [if_pos (by omega)];omega
 ·have h2:=cM.2 c;have h3:=dS (hs.resolve_left c);have:=Bx h3;rw [if_neg (by omega)];omega
theorem lG {r:Ro} (h:sg r) {q:List Po} (hq:jP r q):q.length<=42:=by
 have hl:=h.lim;have key:∀ p∈q,0<=p.lv*14+eC r p.ou/\p.lv*14+eC r p.ou<42:=fun p hp=>by
  have:=rF h (hq.out p hp);have:=hq.Lx p hp;omega
 have:=lY 42 (q.map fun p=>(p.lv*14+eC r p.ou).toNat) (by
  unfold List.Nodup;rw [ZbB];refine (List.Pairwise.and_mem.1 hq.sq).imp fun {a b} ⟨ha,hb,Vs⟩ e=>?_;have:=key a ha;have:=key b hb;have:=rF h (hq.out a ha);have:=rF h (hq.out b hb);unfold nF at Vs;simp only [ZR,Zn,decide_eq_true_eq] at Vs;omega) (fun x hx=>by
  obtain ⟨p,hp,rfl⟩:=Zy.1 hx;have:=key p hp;omega)
 rwa [Zd] at this
theorem CB {r:Ro} (h:sg r) {po:List Po} {v:Int} {s d:ByteArray} (hv:0<=v/\v<r.lv) (o8:jP r po) (hs:s∈cK r) (nA:d∈cy r) (eK:eB po v d=none) {p:List Nat} (hp:(dJ r po v s).least (lo r d) p):jP r (kV r po v s p d):=
 (KF h.wJ h.nd hv o8 hs nA eK hp.1 (hp.2.1.trans (MI nA).symm)).1
end Go.Proofs.A1
namespace Go.SL
open Go
def sG (E:TypeId) (vs:List Value) (xs:List (List Value)) (j:Nat):bd:=Nr (fS E (vs.take j) (xs.take j))
def sF (E:TypeId) (vs:List Value) (xs:List (List Value)) (j:Nat):bd:=Nr (fS E (vs.drop (j+1)) (xs.drop (j+1)))
theorem pK {E:TypeId} {v:Value} {x:List Value}:∀ {vs:List Value} {xs:List (List Value)} {j:Nat},vs[j]? = some v->xs[j]? = some x->fS E vs xs=fS E (vs.take j) (xs.take j)++row E 1 v x.length x::fS E (vs.drop (j+1)) (xs.drop (j+1))
 | [],_,j,h,_=>by simp at h
 | _::_,[],j,_,h=>by simp at h
 | v' :: vs, x' :: xs, 0, h1, h2 => by
  simp only [ZaG,Option.some.injEq] at h1 h2;subst h1 h2
  rfl
 | v' :: vs, x' :: xs, j + 1, h1, h2 => by
  simp only [Zbc] at h1 h2;show row E 1 v' x'.length x'::fS E vs xs=row E 1 v' x'.length x'::(fS E (vs.take j) (xs.take j)++_);rw [pK h1 h2];rfl
theorem zh:∀ (l:List bd) (A:bd) (m:List bd),Take (l++A::m) A (l++m)
 | [],_,_=>.here
 | _::l,A,m=>.there (zh l A m)
theorem qx:∀ (P l m:List bd),bC (P++(l++m)) l (P++m)
 | _,[],_=>.nil
 | P,A::l,m=>.cons (zh P A (l++m)) (qx P l m)
section
variable {P:Program} {c:Cx} {D:List Nat} {sl:aL} {hs hs':List bd} {X:Act->World->Prop}
variable {v:Value} {vs x:List Value} {xs:List (List Value)}
theorem vR {E:TypeId} {n j:Nat} (ht:Take hs (gY E vs xs) hs') (hv:vs[j]? = some v) (hx:xs[j]? = some x) (hn:x.length=n)
  (k:Tr c D sl (row E 1 v n x::sG E vs xs j::sF E vs xs j::hs') X):Tr c D sl hs X:=by
 subst hn;refine y6 (As:=fS E vs xs) ht ?_;rw [pK hv hx,Zh];refine tB (As:=fS E (vs.take j) (xs.take j)) (qx [] _ _) ?_;refine tB (As:=fS E (vs.drop (j+1)) (xs.drop (j+1))) (hs':=Nr (fS E (vs.take j) (xs.take j))::row E 1 v x.length x::hs') (qx [_,_] _ _) ?_;intro a w a7;have hT:bC (Nr (fS E (vs.drop (j+1)) (xs.drop (j+1)))::Nr (fS E (vs.take j) (xs.take j))::row E 1 v x.length x::hs') [row E 1 v x.length x,sG E vs xs j,sF E vs xs j] hs':=.cons (.there (.there .here)) (.cons (.there .here) (.h1 .nil));have hm:=a7.mem.jR (hT.append (nE D));exact k a w (a7.heap hm)
theorem y8 {E:TypeId} {n:Nat} (j:Nat) {h1 h2:List bd} (ht:Take hs (sG E vs xs j) h1) (ht2:Take h1 (sF E vs xs j) h2) (ht3:Take h2 (row E 1 v n x) hs') (hv:vs[j]? = some v) (hx:xs[j]? = some x) (hn:x.length=n)
  (k:Tr c D sl (gY E vs xs::hs') X):Tr c D sl hs X:=fun a w a7=>by
 subst hn;have hT:bC hs [sG E vs xs j,sF E vs xs j,row E 1 v x.length x] hs':=.cons ht (.cons ht2 (.cons ht3 .nil));have hT2:bC ([sG E vs xs j,sF E vs xs j,row E 1 v x.length x]++(hs'++nE D)) [sG E vs xs j,row E 1 v x.length x,sF E vs xs j] (hs'++nE D):=.h1 (.cons (.there .here) (.h1 .nil));have hm:=(a7.mem.jR (hT.append (nE D))).jR hT2;obtain ⟨kk,fp,uR,⟨f1,f2',rfl,g1,⟨f2,f3',rfl,g2,⟨f3,f4,rfl,g3,g4⟩⟩⟩,hb⟩:=hm;refine k a w (a7.heap ⟨kk,(f1++(f2++f3))++f4,by simpa only [Zh] using uR,⟨f1++(f2++f3),f4,I,?_,g4⟩,by simpa only [Zh] using hb⟩);show cr (hp w) (fS E vs xs) _;rw [pK hv hx];exact cr.append_iff.2 ⟨f1,f2++f3,I,g1,⟨f2,f3,I,g2,g3⟩⟩
end
attribute [irreducible] sG sF
end Go.SL
namespace Go.Proofs.A1
open Go Go.SL
open Tryz
open Tryz renaming prog->T_
theorem LM {α β:Type} (f:α->β) (p:β->Bool) (l:List α):iT p (l.map f)=iT (fun x=>p (f x)) l:=by
 unfold iT;rw [Zd];congr 1;congr 1;funext i;rw [ZI,Option.map_map];rfl
theorem C0 (r:Ro) (l:List fc):q8 r (bJ l)=iT (fun x:fc=>tU r x.tk) l:=by
 unfold q8 bJ;rw [LM];rfl
def u3 (r:Ro) (x:Value×Value×Value×Value):List bd:=[J1 r x.1,J2 r x.2.1,J3 r x.2.2.1,PB x.2.2.2 r.po]
theorem Hs {c:Cx} {D:List Nat} {sl:aL} {hs hs':List bd} {X:Act->World->Prop} {lB:List Wy} {xv:Value} {xp:List Nat} {xf:Nat} (hx:(⟨xv,xp,xf⟩:Wy)∈lB\/(⟨xv,xp,xf⟩:Wy)=⟨.z,[],0⟩) (ht:Take hs (jt lB) hs')
  (k:∀ oZ,Tr c D sl (row 3 1 xv xp.length (gV xp)::jt oZ::hs') X):Tr c D sl hs X:=by
 rcases hx with hx | hx
 ·refine vU hx ht fun oZ _=>?_;intro a w a7;have hT:bC (jt oZ::row 3 1 xv xp.length (gV xp)::hs') [row 3 1 xv xp.length (gV xp),jt oZ] hs':=.cons (.there .here) (.h1 .nil);have HV:St c D sl (jt oZ::row 3 1 xv xp.length (gV xp)::hs') a w:=a7;have hm:=HV.mem.jR (hT.append (nE D));exact k oZ a w (a7.heap hm)
 ·cases hx;refine aN 3 1 ?_;intro a w a7;have hT:bC (row 3 1 (.z) 0 []::hs) [row 3 1 (.z) 0 [],jt lB] hs':=.h1 (.cons ht .nil);have hm:=a7.mem.jR (hT.append (nE D));exact k lB a w (a7.heap hm)
variable {l:List fc} {w:World}
set_option maxHeartbeats 4000000 in
theorem F1 {r:Ro} {s d t p kv:Value} (h:RR w r s d t p) (dU:sg r) (YP:r.po.length<=500) (hw:Rd w kv 2 (gP l)) (hM:rp w l) (hT:D3 r (bJ l)) :
  bh T_ 165 [RA r s d t p,kv] w [] (fun _:Value×Value×Value×Value=>True) (fun x=>.tuple #[RA (iY r (bJ l)).1 x.1 x.2.1 x.2.2.1 x.2.2.2,.q (iY r (bJ l)).2.1,.q (iY r (bJ l)).2.2]) (fun x=>u3 (iY r (bJ l)).1 x):=by
 have tW:=dU.lim;have vG:=dU.len;have c8:og r:=by unfold og;omega
 have PK:=hT.Bz;unfold bJ at PK;rw [Zd] at PK;obtain ⟨h1,h2,h3,h4⟩:=h.one;have BZ:=hw;obtain ⟨a,cp,b,o,rfl,dy,bT,ha,hc⟩:=hw;rw [dx] at *;unfold maxLen at bT;have W5:=C0 r l;unfold RA;refine aR func165 I I ?_;refine Jr<|Jy I I fun _ _=>Jz I I fun _ _=>Ja I<|Ja I<|Ji<|Jv I<|ab (bD .nil (.o I .nil)) I ?_;rename_i b2 rf b4 uT
 with_reducible apply aj
 case hr=>exact bb
 case hd=>rfl
 case hc=>
  intro w' aB;have hA:BR w' b2 [.q r.lv,.q r.ma,s,d,t,p]:=BR.of aB (by exact Take.there .here);have hR:=h.keeps aB.keeps;exact Gy (f:=253) (p:=fun x:fc=>tU r x.tk) (first:=[]) (cap:=[.p b2]) (BZ.keeps aB.keeps) (fun x hx w2 fo=>Pb (hR.keeps fo) (hA.keeps fo) (hT.de _ (Z0 hx)))
 rw [<- W5]
 (refine Ja I<|Jn<|Jq<|Jr<|Jv I<|JG I<|Jn<|gG I (fun au=>?_) fun au=>?_;refine Jr<|ab (aU .nil ai) I<|Jv I<|ao (.of I) (.of I) .here I I (fk I I I I I I) (bu I) ai<|Ja I<|Ja I<|Jn<|Ju ?_;rotate_left;refine Jk<|Jr<|ab (cm (.there .here)) I ?_;rotate_right)
 ·have e0:iY r (bJ l)=(Ro.nil,q8 r (bJ l),31):=by unfold iY;rw [if_pos (by omega)]
  rw [e0];dsimp only;refine aN 186 2 ?_;refine aN 90 3 ?_;refine aN 187 3 ?_;refine aN 188 3 ?_
  first | with_reducible apply aO | with_reducible apply aQ
  case he=>exact kz I inferInstance I dL ai (by rfl) (by rfl) (by rfl)
  case hR=>
   intro w' aB;exact aF (.z,.z,.z,.z) trivial (by exact .cons cZ (.cons bI (.cons (.there .here) (.h1 .nil)))) aB I
 have XG:¬ 0<=q8 r (bJ l):=by omega
 refine JN bN I (fun w1 aT=>A4 (h.keeps aT.keeps) c8 (by omega)) ?_;intro y _;dsimp only [id_eq,Zb,Za];obtain ⟨s1,d1,t1,p1⟩:=y;dsimp only;unfold RA PB;refine aK (E:=186) (sz:=2) (v:=s1) (by exact .here) fun _ _ e=>?_;have k1:s1.oneCell'=true:=by rw [e];rfl
 clear e;refine aK (E:=90) (sz:=3) (v:=d1) (by exact Take.there .here) fun _ _ e=>?_;have k2:d1.oneCell'=true:=by rw [e];rfl
 clear e;refine aK (E:=187) (sz:=3) (v:=t1) bI fun _ _ e=>?_;have k3:t1.oneCell'=true:=by rw [e];rfl
 clear e;refine aK (E:=188) (sz:=3) (v:=p1) cZ fun _ _ e=>?_;have k4:p1.oneCell'=true:=by rw [e];rfl
 clear e
 (refine Jz I I fun _ _=>ao (.of I) (.of I) .here I I (fk I I k1 k2 k3 k4) (bu I) ai<|Ji<|Jv I<|ab (bD .nil (.o I .nil)) I ?_)
 rename_i b8 Xu
 with_reducible apply jZ
 case hr=>exact bb
 case hd=>rfl
 case ht=>exact bC.nil
 case hc=>
  intro w1 fp aT _ hs1;obtain rfl:fp=[]:=hs1;have hA:BR w1 b2 [.int .i64 r.lv,.int .i64 r.ma,s,d,t,p]:=BR.of aT mN;have hR:=h.keeps aT.keeps;exact Tq (f:=255) (first:=[]) (cap:=[.pointer (some ⟨b2,0,none⟩)]) (g:=fun x:fc=>cX r x.tk.de) (n:=r.lv.toNat) (BZ.keeps aT.keeps) (hM.keeps aT.keeps) (by omega) (fun x _=>by unfold cX;simp) (fun x hx w2 fo=>PR (hR.keeps fo) (hA.keeps fo) (by omega) (by omega))
 rintro ⟨hv,pQ⟩ IM;dsimp only at IM;dsimp only [id_eq,Zb,Za];refine aK (E:=32) (sz:=1) (v:=hv) (by exact .here) fun lF kS e=>?_;subst e;refine Ja I<|Jn<|Jq<|Jr<|Jv I<|JI I<|Jv I<|Jn<|J0 ?_;have Vo:∀ i,(jC r (bJ l) i).length<=r.po.length:=fun i=>by rw [jr];exact ZY _ _
 have tx:(bJ l).length=l.length:=by unfold bJ;rw [Zd]
 refine aV (ι:=Nat×Value×List Po) (fun y=>y.1<=l.length/\y.2.2=jC r (bJ l) y.1) (fun y=>[(34,.q (y.1:Nat)),(33,.q (l.length:Nat)),(32,.slice a l.length cp),(9,.slice lF l.length kS),(8,.p b8),(4,.p b4),(1,.slice a l.length cp)])
  (fun y=>[JP b8 r s1 d1 t1 (y.2.1),J1 r s1,J2 r d1,J3 r t1,row 188 3 y.2.1 y.2.2.length (gA y.2.2),row 32 1 (.slice lF l.length kS) l.length pQ,gY 9 pQ (l.map fun y=>aP (cX r y.tk.de)),bz b4 (.cells #[.q 0,.q 0,.z,.z,.z,.z] 41 (0,0))]) (fun y=>l.length-y.1) ?_ ?_
 ·apply aI (0,p1,r.po) ⟨Zi _,I⟩
  case hs1=>exact bS
  case ht=>exact .cons bI (.cons bI (.cons bI (.cons bI (.cons bI (.h3 .nil)))))
 rintro ⟨i,pv,L⟩ ⟨hi,hL⟩;dsimp only at hi hL ⊢;by_cases aM:i<l.length
 ·have T8:=iW aM;have cu:=ha T8;have aC:=(hc i _ (kh aM)).2;have gJ:=Zj aM;have B5:=hM _ gJ;have IP:(bJ l).getD i Tk.zero=l[i].tk:=by unfold bJ;rw [Zk,ZI,Zc aM];rfl
  have fO:jC r (bJ l) (i+1)=ll r l[i].tk l[i].tk.so.length (jC r (bJ l) i):=by rw [jC,IP]
  have T6:=hT.lv l[i].tk (Z0 gJ);have hdi:L.length<=r.po.length:=by rw [hL];exact Vo i
  rw [<- hL] at fO;have Uh:∀ k,(ll r l[i].tk k L).length<=r.po.length:=fun k=>ZS (by rw [lR];exact ZY _ _) hdi
  have TF:∃ u,pQ[i]? = some u:=⟨pQ[i],Zc (by omega)⟩;have Wu:(l.map fun y=>aP (cX r y.tk.de))[i]? = some (aP (cX r l[i].tk.de)):=by rw [ZI,Zc aM];rfl
  unfold fc.cells at aC;generalize hti:l[i]=ti at *;obtain ⟨tk,tv⟩:=ti;dsimp only at *;obtain ⟨sa,F6,sb,KB,rfl,C8,pR,LY,LV⟩:=B5;rw [bF] at *;unfold maxLen at pR
  (refine Jr<|JA I<|Jn<|Jq<|Jd I fun au=>Jk<|Jq<|J0<|Jr<|Jv I<|ab (fY cu au) I<|ab (iU (eR.base aC I)) I<|Jz I I fun _ _=>Ja I<|ao (.of I) (.of I) .here I I (gO I I) (bu I) ai<|Ji<|bG I I ae<|JL I .here I<|JI I<|Jv I<|Jn<|J0 ?_)
  rename_i R3 acf;obtain ⟨u,hu⟩:=TF;have Uu:(cX r tk.de).length=r.lv.toNat:=by unfold cX;simp
  refine vR (E:=9) (j:=i) (n:=r.lv.toNat) oL hu Wu (by rw [c6,Uu]) ?_;refine dA (E:=9) (sz:=1) (v:=u) (by exact .here) (by omega) fun gu uc Ki e hu1 TK hu3 hu4=>?_;subst e;refine dA (E:=32) (sz:=1) (v:=.slice lF l.length kS) jY (by omega) fun gh hc oE e hh1 hh2 hh3 hh4=>?_;cases e;have f1:(pQ++oE)[i*1]? = some (.w gu r.lv.toNat uc):=by
   rw [Zav,ZD (by omega)];exact hu
  have f2:∀ k,k<r.lv.toNat->(aP (cX r tk.de)++Ki)[k*1]? = some (.string (jD r (k:Nat) tk.de)):=fun k hk=>by
   rw [Zav,ZD (by rw [c6,Uu];exact hk)];unfold aP cX;rw [ZI,ZI,List.getElem?_range hk];rfl
  refine aV (ι:=Nat×Value×List Po) (fun y=>y.1<=tk.so.length/\y.2.2=ll r tk y.1 L) (fun y=>[(42,.q (y.1:Nat)),(41,.q (tk.so.length:Nat)),(40,.slice sa tk.so.length F6),(34,.q (i:Nat)),(33,.q (l.length:Nat)),(32,.slice a l.length cp),(10,.q (i:Nat)),(11,.p R3),(9,.w gh l.length kS),(8,.p b8),(4,.p b4),(1,.slice a l.length cp)])
   (fun y=>[JP b8 r s1 d1 t1 (y.2.1),J1 r s1,J2 r d1,J3 r t1,row 188 3 y.2.1 y.2.2.length (gA y.2.2),bz gh (.cells (pQ++oE).toArray 32 (0,0)),bz gu (.cells (aP (cX r tk.de)++Ki).toArray 9 (0,0)),sG 9 pQ (l.map fun y=>aP (cX r y.tk.de)) i,sF 9 pQ (l.map fun y=>aP (cX r y.tk.de)) i,bz b4 (.cells #[.q 0,.q 0,.z,.z,.z,.z] 41 (0,0)),bz R3 (.cells #[.string tk.de,.slice sa tk.so.length F6] 78 (0,0))]) (fun y=>tk.so.length-y.1) ?_ ?_
  ·apply aI (0,pv,L) ⟨Zi _,I⟩
   case hs1=>exact bS
   case ht=>exact .cons eD (.cons eD (.cons eD (.cons eD (.cons eD (.h4 (.cons (.there .here) (.h1 .nil)))))))
  rintro ⟨k,KV,L2⟩ ⟨hk,qI⟩;dsimp only at hk qI ⊢;by_cases mW:k<tk.so.length
  ·have xb:=LY (ij mW);have w9:w.cell? ⟨sb,KB+k*1,none⟩=some (.string tk.so[k]):=(LV k _ (fw mW)).2 0 _ I;have f3:=f2 k (by omega);have jA:tk.at k=tk.so[k]:=by unfold Tk.at;rw [Zk,Zc mW];rfl
   have hdk:=Uh k;rw [<- qI] at hdk;have hs2:ll r tk (k+1) L=if lQ r tk k then L2.filter (fun x=>!r6 (k:Nat) tk.de x) else L2:=by rw [ll,<- qI]
   have Xo:lQ r tk k=(!decide (tk.so[k]=⟨#[]⟩)&&!decide (tk.so[k]=jD r (k:Nat) tk.de)):=by unfold lQ;rw [jA]
   generalize jD r (k:Nat) tk.de=ck at *;generalize tk.so[k]=sk at *
   (refine Jr<|JA I<|Jn<|Jq<|Jd I fun au=>Jk<|Jq<|J0<|Jr<|Jv I<|ab (an (.of I) (.of I) xb (by omega) au aW) I ?_;refine ab (ag (.of I) (At.base w9 I)) I ?_;refine Ja I<|Ja I<|Ji<|Jv I<|ab (fy (.of I) (.of I)) I ?_;refine Jv I<|jz I I I I ?_;refine jz I I I I ?_;refine jz I I I I ?_;refine aH I I inferInstance (fun hg bE=>(an (.bM hg I) (.bM hg I) I (by omega) (by assumption) aW)) I ?_;refine aH I I inferInstance (fun hg bE=>(ag (.bM hg I) (At.mJ eD f1))) I ?_;refine jz I I I I ?_;refine aH I I inferInstance (fun hg bE=>(an (.bM hg I) (.bM hg I) I (by omega) (by omega) aW)) I ?_;refine aH I I inferInstance (fun hg bE=>(ag (.bM hg I) (At.mJ mN f3))) I ?_;refine aH I I inferInstance (fun hg bE=>(fy (.bM hg I) (.bM hg I))) I ?_;refine ab (ch (.of I) I) I ?_;refine Jn<|nW I (fun au=>?_) fun au=>?_;refine Jg<|Jv I<|bG I I ae ?_;refine JL I nB I ?_;rotate_left;refine Jw<|Jj<|Jt<|Jg<|JB I (by omega)<|Jv I<|Jn ?_;rotate_right)
   ·obtain ⟨q1,q2⟩:sk≠⟨#[]⟩/\sk≠ck:=by simpa using au
    have yF:lQ r tk k=true:=by rw [Xo,decide_eq_false q1,decide_eq_false q2];rfl
    rw [yF,if_pos I] at hs2;obtain ⟨L3,RE⟩:∃ L3,L3=ll r tk (k+1) L:=⟨_,rfl⟩;rw [<- RE] at hs2
    with_reducible apply gq (As:=[JP b8 r s1 d1 t1 KV,row 188 3 KV L2.length (gA L2)])
    case hr=>exact eo
    case hd=>rfl
    case ht=>exact iQ
    case hc=>
     intro w1 Bv aT u7 hs1 Dr lz;exact yT (r:=r) (s:=s1) (d:=d1) (t:=t1) (p:=KV) (b:=b8) (l:=L2) (k:Nat) tk.de u7 hs1 (by omega)
    intro p3 _;dsimp only [id_eq,Zb,Za];unfold RB PB;rw [<- hs2];refine Jx<|Jj<|Jt<|Jg<|JB I (by omega)<|Jv I<|Jn ?_;apply aG (k+1,p3,L3) ⟨by show k+1<=_;omega,RE⟩ (by show tk.so.length-(k+1)<tk.so.length-k;omega)
    case hs1=>exact bS
    case ht=>exact iQ
   ·have yF:lQ r tk k=false:=by
     rw [Xo];simp only [ne_eq,Zo,decide_eq_true_eq,Classical.not_and_iff_not_or_not] at au;rcases au with e | e
     ·rw [decide_eq_true e];rfl
     ·rw [decide_eq_true e];simp
    rw [yF,if_neg (by decide)] at hs2;apply aG (k+1,KV,L2) ⟨by show k+1<=_;omega,hs2.symm⟩ (by show tk.so.length-(k+1)<tk.so.length-k;omega)
    case hs1=>exact bS
    case ht=>exact iQ
  ·have e:k=tk.so.length:=by omega
   subst e;refine Jr<|JA I<|Jn<|Jq<|Jc I fun au=>Jp<|Jl<|Jo<|Jj<|Jt<|Jg<|JB I (by omega)<|Jv I<|Jn ?_;refine dC (E:=9) (sz:=1) (g:=gu) mN hu1 TK hu3 hu4 ?_;refine dC (E:=32) (sz:=1) (g:=gh) mN hh1 hh2 hh3 hh4 ?_;have YE:(aP (cX r tk.de)).length=r.lv.toNat:=by rw [c6,Uu]
   with_reducible apply y8 (E:=9) (vs:=pQ) (xs:=l.map fun y=>aP (cX r y.tk.de)) (v:=.w gu r.lv.toNat uc) (x:=aP (cX r tk.de)) (n:=r.lv.toNat) i
   case ht=>exact oL
   case ht2=>exact oL
   case ht3=>exact Take.there .here
   case hv=>exact hu
   case hn=>exact YE
   case hx=>exact Wu
   case k=>
    apply aG (i+1,KV,L2) ⟨by show i+1<=_;omega,by show L2=jC r (bJ l) (i+1);rw [fO,qI]⟩ (by show l.length-(i+1)<l.length-i;omega)
    case hs1=>exact bS
    case ht=>exact .cons bI (.cons bI (.cons bI (.cons bI (.cons bI (.cons (.there .here) (.h2 .nil))))))
 ·have e:i=l.length:=by omega
  subst e;refine Jr<|JA I<|Jn<|Jq<|Jc I fun au=>Jp<|Jl<|Jo<|Jt<|Jr ?_;have hLf:L=r.po.filter (fun p=>!MH r (bJ l) l.length p):=by rw [hL,jr]
  have Dq:=Vo l.length;rw [<- hL] at Dq
  with_reducible apply gq (As:=[JP b8 r s1 d1 t1 pv,J1 r s1,J2 r d1,J3 r t1,row 188 3 pv L.length (gA L)])
  case hr=>exact bN
  case hd=>rfl
  case ht=>exact iQ
  case hc=>
   intro w1 Bv aT u7 hs1 Dr lz;exact Oo (r:=r.wp L) (s:=s1) (d:=d1) (t:=t1) (p:=pv) (b:=b8) u7 hs1 c8 (by show L.length<=1000;omega)
  rintro ⟨pw,ff⟩ ⟨Uq,Y5⟩;have o8:(r.wp L).po.filter ff=oS r (bJ l):=by
   show L.filter ff=AD (cy r) (jC r (bJ l) (bJ l).length);rw [tx,<- hL];exact NR.tid dU.wJ (by rw [hLf];exact dU.val.acy.sub _) ⟨Uq,Y5⟩
  dsimp only [id_eq,Zb,Za];rw [o8];unfold RW RB PB;dsimp only [Zb,Za]
  try unfold JP
  try unfold J1 J2 J3
  rw [show (r.wp L).lv=r.lv from I,show (r.wp L).ma=r.ma from I,show (r.wp L).sr=r.sr from I,show (r.wp L).de=r.de from I,show (r.wp L).ti=r.ti from I];refine Jn<|Jq<|Jr<|Jv I<|JI I<|Jv I<|Jn<|J0 ?_
  refine aV (ι:=Nat×Value×List Po) (fun y=>y.1<=l.length/\iR r (bJ l) (oS r (bJ l)) y.1=some y.2.2/\jP r y.2.2) (fun y=>[(69,.q (y.1:Nat)),(68,.q (l.length:Nat)),(67,.slice a l.length cp),(9,.slice lF l.length kS),(8,.p b8),(4,.p b4),(1,.slice a l.length cp)])
   (fun y=>[JP b8 r s1 d1 t1 (y.2.1),J1 r s1,J2 r d1,J3 r t1,row 188 3 y.2.1 y.2.2.length (gA y.2.2),row 32 1 (.slice lF l.length kS) l.length pQ,gY 9 pQ (l.map fun y=>aP (cX r y.tk.de)),bz b4 (.cells #[.q 0,.q 0,.z,.z,.z,.z] 41 (0,0))]) (fun y=>l.length-y.1) ?_ ?_
  ·have h00:iR r (bJ l) (oS r (bJ l)) 0=some (oS r (bJ l)):=by rw [iR]
   have h01:=(qf dU hT).1;generalize oS r (bJ l)=D0 at *;apply aI (0,pw,D0) ⟨Zi _,h00,h01⟩
   case hs1=>exact bS
   case ht=>exact iQ
  clear Uq Y5 o8 ff pw Dq hLf hL pv L hi;rintro ⟨i,pv,L⟩ ⟨hi,hL,hLV⟩;dsimp only at hi hL hLV ⊢;by_cases aM:i<l.length
  ·have cu:=ha (iW aM);have aC:=(hc i _ (kh aM)).2;have gJ:=Zj aM;have B5:=hM _ gJ;have jg:i<(bJ l).length:=by omega
   have PO:(bJ l)[i]=l[i].tk:=Z2 _;have IP:(bJ l).getD i Tk.zero=l[i].tk:=by rw [Zk,Zc jg,Zam,PO]
   have L7:=fun k hk q h1=>Ln dU hT jg (k:=k) (q0:=L) (q:=q) hk hL h1
   have Mc:=fun k=>vE dU hT (Zj jg) (k:=k)
   rw [PO] at L7 Mc;have TT:iR r (bJ l) (oS r (bJ l)) (i+1)=mC r l[i].tk l[i].tk.so.length L:=by rw [iR,hL,IP];rfl
   have hrf:=fun h2=>Gd (r:=r) (l:=bJ l) (po:=oS r (bJ l)) jg hL h2
   have T6:=hT.lv l[i].tk (Z0 gJ);have TF:∃ u,pQ[i]? = some u:=⟨pQ[i],Zc (by omega)⟩;have Wu:(l.map fun y=>aP (cX r y.tk.de))[i]? = some (aP (cX r l[i].tk.de)):=by rw [ZI,Zc aM];rfl
   unfold fc.cells at aC;generalize hti:l[i]=ti at *;obtain ⟨tk,tv⟩:=ti;dsimp only at *;obtain ⟨sa,F6,sb,KB,rfl,C8,pR,LY,LV⟩:=B5;rw [bF] at *;unfold maxLen at pR
   (refine Jr<|JA I<|Jn<|Jq<|Jd I fun au=>Jk<|Jq<|J0<|Jr<|Jv I<|ab (fY cu au) I<|ab (iU (eR.base aC I)) I<|Jz I I fun _ _=>Ja I<|ao (.of I) (.of I) .here I I (gO I I) (bu I) ai<|Ji<|bG I I ae<|JL I .here I<|JI I<|Jv I<|Jn<|J0 ?_)
   rename_i UT acd;obtain ⟨u,hu⟩:=TF;have Uu:(cX r tk.de).length=r.lv.toNat:=by unfold cX;simp
   refine vR (E:=9) (j:=i) (n:=r.lv.toNat) oL hu Wu (by rw [c6,Uu]) ?_;refine dA (E:=9) (sz:=1) (v:=u) (by exact .here) (by omega) fun gu uc Ki e hu1 TK hu3 hu4=>?_;subst e;refine dA (E:=32) (sz:=1) (v:=.slice lF l.length kS) jY (by omega) fun gh hc oE e hh1 hh2 hh3 hh4=>?_;cases e;have f1:(pQ++oE)[i*1]? = some (.w gu r.lv.toNat uc):=by
    rw [Zav,ZD (by omega)];exact hu
   have f2:∀ k,k<r.lv.toNat->(aP (cX r tk.de)++Ki)[k*1]? = some (.string (jD r (k:Nat) tk.de)):=fun k hk=>by
    rw [Zav,ZD (by rw [c6,Uu];exact hk)];unfold aP cX;rw [ZI,ZI,List.getElem?_range hk];rfl
   refine aV (ι:=Nat×Value×List Po) (fun y=>y.1<=tk.so.length/\mC r tk y.1 L=some y.2.2) (fun y=>[(77,.q (y.1:Nat)),(76,.q (tk.so.length:Nat)),(75,.slice sa tk.so.length F6),(69,.q (i:Nat)),(68,.q (l.length:Nat)),(67,.slice a l.length cp),(14,.q (i:Nat)),(15,.p UT),(9,.w gh l.length kS),(8,.p b8),(4,.p b4),(1,.slice a l.length cp)])
    (fun y=>[JP b8 r s1 d1 t1 (y.2.1),J1 r s1,J2 r d1,J3 r t1,row 188 3 y.2.1 y.2.2.length (gA y.2.2),bz gh (.cells (pQ++oE).toArray 32 (0,0)),bz gu (.cells (aP (cX r tk.de)++Ki).toArray 9 (0,0)),sG 9 pQ (l.map fun y=>aP (cX r y.tk.de)) i,sF 9 pQ (l.map fun y=>aP (cX r y.tk.de)) i,bz b4 (.cells #[.q 0,.q 0,.z,.z,.z,.z] 41 (0,0)),bz UT (.cells #[.string tk.de,.slice sa tk.so.length F6] 78 (0,0))]) (fun y=>tk.so.length-y.1) ?_ ?_
   ·have h00:mC r tk 0 L=some L:=by rw [mC]
    apply aI (0,pv,L) ⟨Zi _,h00⟩
    case hs1=>exact bS
    case ht=>exact .cons eD (.cons eD (.cons eD (.cons eD (.cons eD (.h4 (.cons (.there .here) (.h1 .nil)))))))
   rintro ⟨k,KV,L2⟩ ⟨hk,qI⟩;dsimp only at hk qI ⊢;obtain ⟨GF,eK⟩:=L7 k hk L2 qI;have hfw:=lG dU GF;by_cases mW:k<tk.so.length
   ·have xb:=LY (ij mW);have w9:w.cell? ⟨sb,KB+k*1,none⟩=some (.string tk.so[k]):=(LV k _ (fw mW)).2 0 _ I;have f3:=f2 k (by omega);have jA:tk.at k=tk.so[k]:=by unfold Tk.at;rw [Zk,Zc mW];rfl
    have hs2:mC r tk (k+1) L=if mE r tk k then (lp (r.wp L2) (k:Nat) tk.so[k] tk.de).map (fun p=>kV r L2 (k:Nat) tk.so[k] p tk.de) else some L2:=by rw [mC,qI,Option.bind_some,jA]
    have Xd:mE r tk k=true↔¬ ((tk.so[k]=⟨#[]⟩\/tk.so[k]=⟨#[45]⟩)\/tk.so[k]=jD r (k:Nat) tk.de):=by
     rw [k9,jA];constructor
     ·rintro ⟨x1,x2,x3⟩ ((e | e) | e)
      ·exact x1 e
      ·exact x3 e
      ·exact x2 e
     ·intro e;exact ⟨fun c=>e (.inl (.inl c)),fun c=>e (.inr c),fun c=>e (.inl (.inr c))⟩
    have Xc:=Mc k mW;rw [jA] at Xc;have yF:mE r tk k=true->lQ r tk k=true:=fun c=>by
     obtain ⟨x1,x2,_⟩:=k9.1 c;exact lk.2 ⟨x1,x2⟩
    generalize jD r (k:Nat) tk.de=ck at *;generalize tk.so[k]=sk at *
    (refine Jr<|JA I<|Jn<|Jq<|Jd I fun au=>Jk<|Jq<|J0<|Jr<|Jv I<|ab (an (.of I) (.of I) xb (by omega) au aW) I ?_;refine ab (ag (.of I) (At.base w9 I)) I ?_;refine Ja I<|Ja I<|Jn<|Jq<|Jr<|Jv I<|ab (dB (.of I) (.of I)) I ?_;refine Jv I<|jz I I I I ?_;refine aH I I inferInstance (fun hg bE=>(dB (.bM hg I) (.of I))) I ?_;refine ab (bH (.of I) I) I ?_;refine Jv I<|jz I I I I ?_;refine jz I I I I ?_;refine jz I I I I ?_;refine aH I I inferInstance (fun hg bE=>(an (.bM hg I) (.bM hg I) I (by omega) (by assumption) aW)) I ?_;refine aH I I inferInstance (fun hg bE=>(ag (.bM hg I) (At.mJ eD f1))) I ?_;refine jz I I I I ?_;refine aH I I inferInstance (fun hg bE=>(an (.bM hg I) (.bM hg I) I (by omega) (by omega) aW)) I ?_;refine aH I I inferInstance (fun hg bE=>(ag (.bM hg I) (At.mJ mN f3))) I ?_;refine aH I I inferInstance (fun hg bE=>(dB (.bM hg I) (.bM hg I))) I ?_;refine ab (bH (.of I) I) I ?_;refine Jn<|nW I (fun au=>?_) fun au=>?_;refine Jp<|Jo<|Jt<|Jg<|JB I (by omega)<|Jv I<|Jn ?_;rotate_left;refine Jk<|Jr<|ab (cm .here) I ?_;refine Jv I<|Jv I<|bG I I ae ?_;refine JL I nB I ?_;rotate_right)
    ·have hj:mE r tk k=false:=by
      rw [<- Zar];exact fun c=>Xd.1 c au
     rw [hj,if_neg (by decide)] at hs2;apply aG (k+1,KV,L2) ⟨by show k+1<=_;omega,hs2⟩ (by show tk.so.length-(k+1)<tk.so.length-k;omega)
     case hs1=>exact bS
     case ht=>exact iQ
    have hj:mE r tk k=true:=Xd.2 (fun c=>c.elim (fun c=>c.elim au.1.1 au.1.2) au.2)
    obtain ⟨⟨j1,j2⟩,rM,fO,_⟩:=Xc hj;have tZ:=eK k (Zz _) mW (yF hj);rw [hj,if_pos I] at hs2;refine JN rZ I (fun w1 aT=>QJ (r:=r.wp L2) (k:Nat) sk tk.de (RR.wp (cV aT (by exact Take.there .here) I) (cW aT bI I) (cU aT cZ I) (cH aT dL I)) dU.wJ.wp GF.wp dU.RU.wp rM fO) ?_;rintro ⟨fnd,⟨xv,xp,xf⟩,lB⟩ ⟨hy1,hy2,hy3⟩;dsimp only at hy1 hy2 hy3;dsimp only [Wy.cells,Zb,Za]
    (refine Jv I<|JJ I I<|JJ I I<|Jz I I fun _ _=>ao (.of I) (.of I) .here I I (gO hy3 I) (bu I) ai<|Ja I<|Jn<|Jq<|Jr<|Jv I<|JH I<|Jn<|nW I (fun au=>?_) fun au=>?_;refine Jr<|ab (aU .nil ai) I<|Jv I<|ao (.of I) (.of I) xU I I (fk I I I I I I) (bu I) ai<|Ja I<|Ja I<|Jn<|Ju<|Jm<|Jh<|Jh<|Jm<|Jm<|Jh<|Jh<|Jm<|Jh ?_;rotate_left;refine Jk<|Jg<|Jv I<|Jv I<|ab (cm .here) I<|bG I I ae<|JL I lD I ?_;rotate_right)
    ·have hf:fnd=false:=by simpa using au
     subst hf;have e1:mC r tk (k+1) L=none:=by rw [hs2,yW (hy2 I)];rfl
     have e2:iR r (bJ l) (oS r (bJ l)) (i+1)=none:=by rw [TT];exact zn e1 (by omega)
     have e3:=tI e2 (m:=(bJ l).length) (by omega);have e4:iY r (bJ l)=(Ro.nil,((i:Nat):Int),18):=by
      unfold iY;rw [if_neg XG];show (match iR r (bJ l) (oS r (bJ l)) (bJ l).length with | none=>(Ro.nil,((EC r (bJ l) (oS r (bJ l)):Nat):Int),(18:Int)) | some po=>(r.wp po,0,0))=_
      rw [e3,hrf e2]
     rw [e4];dsimp only;refine aN 186 2 ?_;refine aN 90 3 ?_;refine aN 187 3 ?_;refine aN 188 3 ?_
     first | with_reducible apply aO | with_reducible apply aQ
     case he=>exact kz I inferInstance I dL ai (by rfl) (by rfl) (by rfl)
     case hR=>
      intro w' aB;exact aF (.z,.z,.z,.z) trivial (by exact .cons cZ (.cons bI (.cons (.there .here) (.h1 .nil)))) aB I
    have hf:fnd=true:=by simpa using au
    subst hf;obtain ⟨hle,Ul⟩:=hy1 rfl;have hwp:=yV hle;have PJ:(dJ r L2 (k:Nat) sk).least (lo r tk.de) xp:=hle;have gn:mC r tk (k+1) L=some (kV r L2 (k:Nat) sk xp tk.de):=by rw [hs2,hwp];rfl
    have hVn:=CB dU ⟨j1,j2⟩ GF rM fO tZ PJ;have hxp:∀ i∈xp,i<r.ti.length:=Wn.sL PJ.1;have Py:xp.length<=6:=by have:=Wn.rG PJ.1;show _<=_;have h6:(dJ r L2 (k:Nat) sk).n=r.ti.length:=rfl;omega
    refine Hs Ul (by exact Take.there .here) fun oZ=>?_
    with_reducible apply gq (As:=[JP b8 r s1 d1 t1 KV,J1 r s1,J2 r d1,J3 r t1,row 188 3 KV L2.length (gA L2),row 3 1 xv xp.length (gV xp)])
    case hr=>exact DT
    case hd=>rfl
    case ht=>exact .cons cZ (.cons cZ (.cons cZ (.cons cZ (.cons cZ (.h1 .nil)))))
    case hc=>
     intro w1 Bv aT u7 hs1 Dr lz;exact VX (r:=r) (s:=s1) (d:=d1) (t:=t1) (p:=KV) (b:=b8) (po:=L2) xf (k:Nat) sk tk.de u7 hs1 c8 (by omega) (by omega) dU.RU hxp GF.out fO hVn.sq
    intro p3 _;dsimp only [id_eq,Zb,Za];unfold RB PB;generalize kV r L2 (k:Nat) sk xp tk.de=L3 at *;refine Jx<|Jj<|Jt<|Jg<|JB I (by omega)<|Jv I<|Jn ?_;apply aG (k+1,p3,L3) ⟨by show k+1<=_;omega,gn⟩ (by show tk.so.length-(k+1)<tk.so.length-k;omega)
    case hs1=>exact bS
    case ht=>exact iQ
   ·have e:k=tk.so.length:=by omega
    subst e;refine Jr<|JA I<|Jn<|Jq<|Jc I fun au=>Jp<|Jl<|Jo<|Jj<|Jt<|Jg<|JB I (by omega)<|Jv I<|Jn ?_;refine dC (E:=9) (sz:=1) (g:=gu) mN hu1 TK hu3 hu4 ?_;refine dC (E:=32) (sz:=1) (g:=gh) mN hh1 hh2 hh3 hh4 ?_;have YE:(aP (cX r tk.de)).length=r.lv.toNat:=by rw [c6,Uu]
    with_reducible apply y8 (E:=9) (vs:=pQ) (xs:=l.map fun y=>aP (cX r y.tk.de)) (v:=.w gu r.lv.toNat uc) (x:=aP (cX r tk.de)) (n:=r.lv.toNat) i
    case ht=>exact oL
    case ht2=>exact oL
    case ht3=>exact Take.there .here
    case hv=>exact hu
    case hn=>exact YE
    case hx=>exact Wu
    case k=>
     have hne:iR r (bJ l) (oS r (bJ l)) (i+1)=some L2:=by rw [TT,qI]
     apply aG (i+1,KV,L2) ⟨by show i+1<=_;omega,hne,GF⟩ (by show l.length-(i+1)<l.length-i;omega)
     case hs1=>exact bS
     case ht=>exact .cons bI (.cons bI (.cons bI (.cons bI (.cons bI (.cons (.there .here) (.h2 .nil))))))
  ·have e:i=l.length:=by omega
   subst e;refine Jr<|JA I<|Jn<|Jq<|Jc I fun au=>Jp<|Jl<|Jo<|Jt<|Jr<|ab (cm .here) I ?_;have e4:iY r (bJ l)=(r.wp L,0,0):=by
    unfold iY;rw [if_neg XG];show (match iR r (bJ l) (oS r (bJ l)) (bJ l).length with | none=>(Ro.nil,((EC r (bJ l) (oS r (bJ l)):Nat):Int),(18:Int)) | some po=>(r.wp po,0,0))=_
    rw [tx,hL]
   rw [e4];dsimp only;refine aK (E:=188) (sz:=3) (v:=pv) dL fun _ _ e=>?_;have k5:pv.oneCell'=true:=by rw [e];rfl
   clear e
   (refine ao (.of I) (.of I) oL I I (fk I I k1 k2 k3 k5) (bu I) ai<|Ja I<|Ja I<|Jn<|Je ?_)
   first | with_reducible apply aO | with_reducible apply aQ
   case he=>exact kz I inferInstance I .here ai (by rfl) (by rfl) (by rfl)
   case hR=>
    intro w' aB;exact aF (s1,d1,t1,pv) trivial (by exact .cons bI (.cons bI (.cons bI (.cons bI .nil)))) aB I
def il (r:Ro) (l:List Tk):Ro×Int×Int:=if fZ r≠0 then (Ro.nil,0,fZ r) else if r5 r l≠0 then (Ro.nil,0,r5 r l) else iY r l
theorem vV (l:List fc):∀ r∈gP l,r.length=2:=fun r hr=>by obtain ⟨x,_,rfl⟩:=Zy.1 hr;rfl
theorem kF {c:Cx} {hs hs':List bd} {E:TypeId} {v:Value} {n:Nat} (hm:Mem c hs w) (ht:Take hs (row E 2 v n (gP l).flatten) hs') (hn:l.length=n):Rd w v 2 (gP l):=hm.pH ht I (vV l) (by rw [dx,hn])
theorem br (l m:List bd):bC (l++m) l m:=qx [] l m
theorem dE {c:Cx} {D:List Nat} {sl:aL} {hs hs':List bd} {X:Act->World->Prop} {r:Ro} {s d t p:Value} (ht:bC hs (u3 r (s,d,t,p)) hs')
  (k:s.oneCell'=true->d.oneCell'=true->t.oneCell'=true->p.oneCell'=true->Tr c D sl (J1 r s::J2 r d::J3 r t::J4 r p::hs') X):Tr c D sl hs X:=by
 intro a w a7;have hm:=a7.mem.jR (ht.append (nE D));have k2:Tr c D sl (J1 r s::J2 r d::J3 r t::J4 r p::hs') X:=by
  refine aK (E:=186) (sz:=2) (v:=s) .here fun _ _ e=>?_;have k1:s.oneCell'=true:=by rw [e];rfl
  clear e;refine aK (E:=90) (sz:=3) (v:=d) (.there .here) fun _ _ e=>?_;have k2:d.oneCell'=true:=by rw [e];rfl
  clear e;refine aK (E:=187) (sz:=3) (v:=t) bI fun _ _ e=>?_;have k3:t.oneCell'=true:=by rw [e];rfl
  clear e;refine aK (E:=188) (sz:=3) (v:=p) cZ fun _ _ e=>?_;have k4:p.oneCell'=true:=by rw [e];rfl
  clear e;exact k k1 k2 k3 k4
 exact k2 a w (a7.heap hm)
set_option maxHeartbeats 1000000 in
theorem BU {r:Ro} {s d t p kv:Value} (h:RR w r s d t p) (c8:og r) (hw:Rd w kv 2 (gP l)) (hM:rp w l) :
  bh T_ 45 [RA r s d t p,kv] w [] (fun _:Value×Value×Value×Value=>True) (fun x=>.tuple #[RA (il r (bJ l)).1 x.1 x.2.1 x.2.2.1 x.2.2.2,.q (il r (bJ l)).2.1,.q (il r (bJ l)).2.2]) (fun x=>u3 (il r (bJ l)).1 x):=by
 obtain ⟨h1,h2,h3,h4⟩:=h.one;have YW:=Rd.one hw;have gD:∀ w',aJ [] w w'->ak T_ 34 [.agg #[.int .i64 r.lv,.int .i64 r.ma,s,d,t,p]] w' (.int .i64 (fZ r)):=fun w' hk=>fj (h.keeps hk) c8
 have htk:∀ w',aJ [] w w'->ak T_ 164 [.agg #[.q r.lv,.q r.ma,s,d,t,p],kv] w' (.q (r5 r (bJ l))):=fun w' hk=>tf (h.keeps hk) (hw.keeps hk) (hM.keeps hk)
 unfold RA;refine aR func45 I I ?_
 (refine Jr<|Jy I I fun _ _=>Jz I I fun _ _=>Ja I<|Ja I<|Jn<|Jq<|Jr<|ab (cm (.there .here)) I<|aj bN I (fun w' aB=>(gD w' (Mem.keeps aB)))<|Ja I<|Ji<|Jv I<|JD I<|Jn<|gG I (fun au=>?_) fun au=>?_;refine Jr<|ab (aU .nil ai) I<|Jv I<|ao (.of I) (.of I) .here I I (fk I I I I I I) (bu I) ai<|Ja I<|Ja I<|Jn<|Ju ?_;rotate_left;refine Jk<|Jq<|Jr<|ab (cm (.there .here)) I<|Jv I<|aj bb I (fun w' aB=>(htk w' (Mem.keeps aB)))<|Ja I<|Ji<|Jv I<|JD I<|Jn<|gG I (fun au=>?_) fun au=>?_;refine Jr<|ab (aU .nil ai) I<|Jv I<|ao (.of I) (.of I) .here I I (fk I I I I I I) (bu I) ai<|Ja I<|Ja I<|Jn<|Ju ?_;rotate_left;refine Jk<|Jr<|ab (cm (.there .here)) I<|Jv I ?_;rotate_right;rotate_right)
 ·have e:il r (bJ l)=(Ro.nil,0,fZ r):=if_pos au;rw [e];dsimp only;refine aN 186 2<|aN 90 3<|aN 187 3<|aN 188 3 ?_
  first | with_reducible apply aO | with_reducible apply aQ
  case he=>exact kz I inferInstance I dL ai (by rfl) (by rfl) (by rfl)
  case hR=>
   intro w' aB;exact aF (.z,.z,.z,.z) trivial (by exact .cons cZ (.cons bI (.cons (.there .here) (.h1 .nil)))) aB I
 ·have e:il r (bJ l)=(Ro.nil,0,r5 r (bJ l)):=by unfold il;rw [if_neg (by assumption),if_pos au]
  rw [e];dsimp only;refine aN 186 2<|aN 90 3<|aN 187 3<|aN 188 3 ?_
  first | with_reducible apply aO | with_reducible apply aQ
  case he=>exact kz I inferInstance I dL ai (by rfl) (by rfl) (by rfl)
  case hR=>
   intro w' aB;exact aF (.z,.z,.z,.z) trivial (by exact .cons cZ (.cons bI (.cons (.there .here) (.h1 .nil)))) aB I
 have DY:fZ r=0:=Zo.1 (by assumption);have NA:r5 r (bJ l)=0:=Zo.1 au;have e:il r (bJ l)=iY r (bJ l):=by unfold il;rw [if_neg (not_not_intro DY),if_neg (not_not_intro NA)]
 have dU:=BY DY;have hf:=lG dU dU.val;rw [e];refine JN bb I (fun w1 aT=>F1 (h.keeps aT.keeps) dU (by omega) (hw.keeps aT.keeps) (hM.keeps aT.keeps) (vk.1 NA).2) ?_;generalize iY r (bJ l)=R;obtain ⟨R,at_,e_⟩:=R;rintro ⟨s1,d1,t1,p1⟩ _;dsimp only;unfold RA;refine dE (r:=R) (s:=s1) (d:=d1) (t:=t1) (p:=p1) (br _ _) fun k1 k2 k3 k4=>?_
 (refine JJ I I<|JJ I I<|JJ I I<|ao (.of I) (.of I) dL I I (fk I I k1 k2 k3 k4) (bu I) ai<|Ja I<|Ja I<|Jn<|Je ?_)
 first | with_reducible apply aO | with_reducible apply aQ
 case he=>exact kz I inferInstance I .here ai (by rfl) (by rfl) (by rfl)
 case hR=>
  intro w' aB;exact aF (s1,d1,t1,p1) trivial (by exact .cons (.there .here) (.cons (.there .here) (.cons (.there .here) (.cons (.there .here) .nil)))) aB I
set_option maxHeartbeats 1000000 in
theorem G6 {r:Ro} {s d t p:Value} {x:fc} (h:RR w r s d t p) (c8:og r) (hM:Rd w x.v 1 (gT x.tk.so)) :
  bh T_ 48 [RA r s d t p,.agg x.cells.toArray] w [] (fun _:Value×Value×Value×Value=>True) (fun y=>.tuple #[RA (il r [x.tk]).1 y.1 y.2.1 y.2.2.1 y.2.2.2,.q (il r [x.tk]).2.2]) (fun y=>u3 (il r [x.tk]).1 y):=by
 obtain ⟨h1,h2,h3,h4⟩:=h.one;have YW:=Rd.one hM;unfold RA fc.cells;refine aR func48 I I ?_
 (refine Jr<|Jy I I fun _ _=>Jy I I fun _ _=>Jz I I fun _ _=>Ja I<|Ji<|ab (cm bI) I<|ab (cm (.there .here)) I<|a8 (ba (.o I .nil) I I bB bB ai) I fun _ _=>?_)
 rename_i b2 rf b3 uf b4 uT bq nf;refine bP (g:=bq) (E:=78) (xs:=[.string x.tk.de,x.v]) (ys:=(gP [x]).flatten) 1 2 (by exact .here) (by exact I) I I ?_
 with_reducible apply jZ
 case hr=>exact bb
 case hd=>rfl
 case ht=>exact bC.nil
 case hc=>
  intro w1 fp aT _ hs1;obtain rfl:fp=[]:=hs1;have hR:Rd w1 (.slice (some ⟨bq,0,none⟩) 1 1) 2 (gP [x]):=kF (l:=[x]) aT (by exact .here) (by exact I);exact BU (l:=[x]) (h.keeps aT.keeps) c8 hR (fun y hy=>by rw [ZG.1 hy];exact hM.keeps aT.keeps)
 rw [show bJ [x]=[x.tk] from I];generalize il r [x.tk]=R;obtain ⟨R,at_,e_⟩:=R;rintro ⟨s1,d1,t1,p1⟩ _;dsimp only;unfold RA;refine dE (r:=R) (s:=s1) (d:=d1) (t:=t1) (p:=p1) (br _ _) fun k1 k2 k3 k4=>?_
 (refine Jv I<|JJ I I<|JJ I I<|JJ I I<|Jz I I fun _ _=>ao (.of I) (.of I) .here I I (fk I I k1 k2 k3 k4) (bu I) ai<|Ja I<|Ja I<|Ji<|ab (cm .here) I<|Jv I<|ao (.of I) (.of I) mN I I (fk I I k1 k2 k3 k4) (bu I) ai<|Ja I<|Jn<|Je ?_)
 first | with_reducible apply aO | with_reducible apply aQ
 case he=>exact um I inferInstance I .here ai (by rfl) (by rfl)
 case hR=>
  intro w' aB;exact aF (s1,d1,t1,p1) trivial (by exact .cons bI (.cons bI (.cons bI (.cons bI .nil)))) aB I
end Go.Proofs.A1
