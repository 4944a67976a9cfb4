/- Parts of the proof: P5t P5s P5u P5v P5x P5y P5z P6a KY GkMapR KZ GkEnds3 LA P6b GkPoolJ LB LC. -/
import Derived.Test.YteonnodafmegaaaGreatDoorKM09
import Derived.Test.YteonnodafmegaaaGreatDoorKM04
import Derived.Test.YteonnodafmegaaaGreatDoorKM03
import Derived.Laws.IdiomRangeMap
set_option linter.unusedSectionVars false
set_option linter.unusedVariables false
set_option linter.unusedSimpArgs false
namespace Go.Proofs.A1
open Go Go.SL
theorem QD {r:Ro} {o:ByteArray} (h:o∈ct r):∃ i,i<r.ti.length/\o=eY r i:=by
 obtain ⟨i,hi,e⟩:=Zu h;have xX:i<r.ti.length:=by unfold ct at hi;rwa [Zd] at hi
 exact ⟨i,xX,by rw [<- e,nn xX]⟩
theorem IK {r:Ro} (hn:n9 r) (hd:(ct r).Nodup) {po:List Po} (h:gV r po) {v:Int} {s:ByteArray}:∀ (k i:Nat),i<r.ti.length->(fk po v 7 (eY r i)).length<=k->(eJ po v (eY r i)).isSome=true->gp po v 7 (eY r i)=s->(eh r [] v s).Rc (fM r i).to:=by
 have h6:=hn.Te;have hs:=fun o m hm=>mU (T:=ct r) (gV.tie hn h.out h.vY) (h.CP v) o (m:=m) hm
 intro k
 induction k with
 | zero =>
  intro i _ hk ho _;obtain ⟨x,hx⟩:=Z6.1 ho;rw [kA hx,ZL] at hk;omega
 | succ k ih =>
  intro i hi hk ho he;obtain ⟨x,hx⟩:=Z6.1 ho;have e1:gp po v 7 (eY r i)=gp po v 7 x:=by
   have:gp po v 8 (eY r i)=gp po v 7 x:=tp hx;unfold gp at this ⊢;rw [hs _ 8 (by omega)] at this;rw [hs _ 7 (by omega)];exact this
  obtain ⟨p,hp,_,om,Mq⟩:=fE hx;have hm:=h.Mh p hp;rw [om,Mq,rC hn hd hi] at hm;refine Wn.Rc.fe (N:=eh r [] v s) (i:=i) hi I ?_;show (eh r [] v s).Rc (fM r i).fr;rw [hm];cases RH:eJ po v x with
  | none =>
   rw [pU RH] at e1;rw [<- e1,he];exact .zu
  | some y =>
   obtain ⟨j,hj,rfl⟩:=QD (gV.tie hn h.out h.vY _ _ hx (by rw [RH];rfl));rw [pQ hn hd hj];refine ih j hj ?_ (by rw [RH];rfl) (by rw [<- e1,he]);have:(fk po v 8 (eY r i)).length=(fk po v 7 (eY r j)).length+1:=by rw [kA hx,ZL]
   rw [hs _ 8 (by omega),<- hs _ 7 (by omega)] at this;omega
theorem Nu {r:Ro} (hn:n9 r) (hd:(ct r).Nodup) {po:List Po} (h:gV r po) {v:Int} {s:ByteArray} {m:Int} (hm:(eh r po v s).Rc m):(eh r [] v s).Rc m:=by
 induction hm with
 | zu=>exact .zu
 | @ca i hi hc =>
  have Oo:(ib po v (eY r i)&&decide (pV po v (cz r) (eY r i)=s))=true:=hc;rw [Zm,decide_eq_true_eq] at Oo;exact IK hn hd h _ i hi (ZC _) Oo.1 (by rw [<- tu hn h Oo.1];exact Oo.2)
 | @fe i hi _ _ ih=>exact Wn.Rc.fe (N:=eh r [] v s) (i:=i) hi rfl ih
theorem Av {r:Ro} (hd:∀ x∈r.de,0<=x.mx) (ht:∀ x∈r.ti,0<=x.fr) {s:ByteArray} (h:s∈bY r\/s∈ct r):0<=jR r s:=by
 unfold jR;by_cases h1:0<=br (bY r) s
 ·obtain ⟨hl,_⟩:=ei h1;rw [if_pos h1,Zk,Zc (by unfold bY at hl;rwa [Zd] at hl)];exact hd _ (Zj _)
 ·rw [if_neg h1];have h2:0<=br (ct r) s:=by
   rcases h with h | h
   ·exact absurd (cF h) h1
   ·exact cF h
  obtain ⟨hl,_⟩:=ei h2;rw [if_pos h2,Zk,Zc (by unfold ct at hl;rwa [Zd] at hl)];exact ht _ (Zj _)
theorem N0 {r:Ro} (hd:∀ x∈r.sr,0<=x.mx) (ht:∀ x∈r.ti,0<=x.to) {s:ByteArray} (h:s∈cz r\/s∈ct r):0<=jH r s:=by
 unfold jH;by_cases h1:0<=br (cz r) s
 ·obtain ⟨hl,_⟩:=ei h1;rw [if_pos h1,Zk,Zc (by unfold cz at hl;rwa [Zd] at hl)];exact hd _ (Zj _)
 ·rw [if_neg h1];have h2:0<=br (ct r) s:=by
   rcases h with h | h
   ·exact absurd (cF h) h1
   ·exact cF h
  obtain ⟨hl,_⟩:=ei h2;rw [if_pos h2,Zk,Zc (by unfold ct at hl;rwa [Zd] at hl)];exact ht _ (Zj _)
structure Dp (r:Ro):Prop where
 EC:Dq r
 len:r.sr.length<=8/\r.de.length<=8/\r.ti.length<=6
 sm:∀ x∈r.sr,0<=x.mx/\x.mx<r.ma
 dm:∀ x∈r.de,0<=x.mx/\x.mx<r.ma
 tm:∀ x∈r.ti,(0<=x.fr/\x.fr<r.ma)/\(0<=x.to/\x.to<r.ma)/\x.fr≠x.to
 nm:∀ s∈cY r,jD s=true
variable {bf l:List ByteArray} {nW:Int} {s x:ByteArray}
theorem An {α:Type} {nm:α->ByteArray} {ck:α->Int} {l:List α} (h:fa nW bf nm ck l=0):∀ x∈l,jD (nm x)=true:=by
 intro x hx;obtain ⟨k,hk,rfl⟩:=Zu hx;unfold fa at h;split at h
 ·cases h
 ·have:=dC.1 h k hk;rw [ns hk,bP] at this;have:=(bC (by decide)).1 (this _ Zp);simpa using this
theorem prt {r:Ro} (h:jy r=0):Dp r:=by
 obtain ⟨kY,hlen,hs,hd,ht⟩:=Ao h;have h0:=h;unfold jy at h0;rw [bP] at h0;refine ⟨kY,hlen,fun x hx=>fA.1 (hs x hx),fun x hx=>fA.1 (hd x hx),fun x hx=>?_,fun s hs=>?_⟩
 ·have:=ht x hx;unfold nq at this;rw [bP] at this;have g3:=(bC (by decide)).1 (this (bT (decide (x.fr=x.to)) 24) (by simp));exact ⟨fA.1 (this _ (by simp)),fA.1 (this _ (by simp)),by simpa using g3⟩
 ·unfold cY cz bY ct at hs;rw [Zq,Zq,Zw,Zw,Zw] at hs;rcases hs with (⟨x,hx,rfl⟩ | ⟨x,hx,rfl⟩) | ⟨x,hx,rfl⟩
  ·exact An (h0 _ Zp) x hx
  ·exact An (h0 (fa 8 (cz r) De.nm (fun x=>fo r x.mx) r.de) (by simp)) x hx
  ·exact An (h0 (fa 6 (cz r++bY r) Ti.nm (nq r) r.ti) (by simp)) x hx
theorem Dp.tL {r:Ro} (h:Dp r):n9 r:=JV h.EC h.len.2.2
theorem Dp.ne {r:Ro} (h:Dp r) {s:ByteArray} (hs:s∈cz r\/s∈bY r\/s∈ct r):s≠⟨#[]⟩:=by
 have hm:s∈cY r:=by
  unfold cY;rw [Zq,Zq];rcases hs with h | h | h
  ·exact .inl (.inl h)
  ·exact .inl (.inr h)
  ·exact .inr h
 have:=h.nm s hm;intro e;rw [e] at this;exact absurd this (by decide)
theorem Dp.nd {r:Ro} (h:Dp r) {s:ByteArray} (hs:s∈cz r):s≠dash:=by
 have hm:s∈cY r:=by
  unfold cY;rw [Zq,Zq];exact .inl (.inl hs)
 have:=h.nm s hm;intro e;rw [e] at this;exact absurd this (by decide)
theorem Qb {r:Ro} (h1:nE r=0) (h2:jy r=0) (hV:gV r r.po):fT r=0:=by
 have hp:=prt h2;have h3:jV r r.po=0:=by
  refine dC.2 fun k hk=>?_;have hl:=hV.Kd _ (Zj hk);have ho:=Av (fun x hx=>(hp.dm x hx).1) (fun x hx=>(hp.tm x hx).1.1) (hV.out _ (Zj hk))
  have hi:=N0 (fun x hx=>(hp.sm x hx).1) (fun x hx=>(hp.tm x hx).2.1.1) (hV.vY _ (Zj hk))
  have hm:=hV.Mh _ (Zj hk);have e0:mn r r.po[k]=0:=by
   unfold mn;rw [bP];intro e he;simp only [ZO,Zo,or_false] at he;rcases he with rfl | rfl | rfl | rfl
   ·exact gB.2 (by omega)
   ·exact (bC (by decide)).2 (by simpa using ho)
   ·exact (bC (by decide)).2 (by simpa using hi)
   ·exact (bC (by decide)).2 (by simpa using hm)
  rw [ru hk,if_neg (not_not_intro e0)];refine if_neg ?_;by_cases wx:k=0
  ·rw [if_pos wx];exact pf.2 (by omega)
  ·rw [if_neg wx,Zc (by omega)];refine pf.2 ?_;have:=ZY.1 hV.qZ (k-1) k (by omega) hk (by omega);unfold oM at this;simpa only [ZP,Zm,decide_eq_true_eq] using this
 have h4:AF r=0:=by
  unfold AF;rw [bP];intro e he;simp only [ZO,Zo,or_false] at he;have hti:(ct r).length=r.ti.length:=by unfold ct;rw [Zd]
  rcases he with rfl | rfl
  ·refine (bC (by decide)).2 (lF.2 fun v _ _=>Zap.2 fun x hx hc=>?_);exact hV.CP v ⟨x.nm,Zw.2 ⟨x,hx,I⟩,by rw [hti];exact dN.1 hc⟩
  ·refine (bC (by decide)).2 (lF.2 fun v _ _=>Zap.2 fun x hx hc=>?_);have:=hV.use v x.nm (Zw.2 ⟨x,hx,I⟩);unfold I9 at hc;cases a:nS r.po v x.nm <;> cases b:ib r.po v x.nm <;> rw [a,b] at hc this <;> simp at hc this
 unfold fT;rw [if_neg (not_not_intro h1),if_neg (not_not_intro h2),if_neg (not_not_intro h3),h4]
theorem EE {r:Ro} (h:fT r=0) {q:List Po} (hV:gV r q):fT (r.wp q)=0:=by
 obtain ⟨h1,h2,_,_⟩:=qP h;exact Qb (r:=r.wp q) h1 h2 hV.wp
def uf (po:List Po) (v:Int):Nat->ByteArray->List ByteArray
 | 0,_=>[]
 | n+1,o=>if o=⟨#[]⟩ then [] else o::uf po v n ((eJ po v o).getD ⟨#[]⟩)
theorem Qc (po:List Po) (v:Int):∀ n,uf po v n ⟨#[]⟩=[]
 | 0=>rfl
 | n+1=>by rw [uf,if_pos rfl]
theorem A6 {po:List Po} (hne:∀ p∈po,p.ip≠⟨#[]⟩) {v:Int}:∀ (n:Nat) {o:ByteArray},o≠⟨#[]⟩->uf po v (n+1) o=o::fk po v n o
 | 0,o,ho=>by rw [uf,if_neg ho];rfl
 | n + 1, o, ho => by
  rw [uf,if_neg ho];cases h:eJ po v o with
  | none=>rw [sf h];exact congrArg _ (Qc po v _)
  | some i =>
   obtain ⟨p,hp,_,_,rfl⟩:=fE h;rw [kA h];exact congrArg _ (A6 hne n (hne p hp))
def Me (r:Ro) (x:Po):Int:=ba [gC x.lv 0 (r.lv-1),bT (decide (dY r x.ou<0)) 10,bT (decide (jH r x.ip<0)) 10,bT (decide (jR r x.ou≠jH r x.ip)) 24]
theorem NF {r:Ro} (h:Dp r) (s:ByteArray):dY r s<0↔jR r s<0:=by
 rw [I1];constructor
 ·rintro ⟨a,b⟩;unfold jR;have f1:=cm.2 a;have f2:=cm.2 b;rw [if_neg (by omega),if_neg (by omega)];decide
 ·intro ae4;constructor
  ·intro hd;have:=Av (fun x hx=>(h.dm x hx).1) (fun x hx=>(h.tm x hx).1.1) (.inl hd)
   omega
  ·intro hd;have:=Av (fun x hx=>(h.dm x hx).1) (fun x hx=>(h.tm x hx).1.1) (.inr hd)
   omega
theorem Q1 {r:Ro} (h:Dp r) (x:Po):Me r x=mn r x:=by
 unfold Me mn;rw [show decide (dY r x.ou<0)=decide (jR r x.ou<0) from decide_eq_decide.2 (NF h _)]
def GJ (r:Ro) (k:Nat):Int:=(r.po[k]?.map fun x=>if Me r x≠0 then Me r x else if 0<k/\(x.lv<((r.po[k-1]?).getD x).lv\/x.lv=((r.po[k-1]?).getD x).lv/\dY r x.ou<=dY r ((r.po[k-1]?).getD x).ou) then 11 else 0).getD 0
theorem QZ {r:Ro} (h:Dp r) {k:Nat} (hk:k<r.po.length):GJ r k=GM r r.po k:=by
 unfold GJ;rw [Zc hk,ru hk,Zbl,Zam,Q1 h];by_cases e:mn r r.po[k]=0
 ·rw [if_neg (not_not_intro e),if_neg (not_not_intro e)];have hl:=(nw e).1;by_cases wx:k=0
  ·rw [if_neg (by omega),if_pos wx,if_neg];exact pf.2 (by omega)
  ·rw [if_neg wx,Zc (show k-1<r.po.length by omega),Zam];have key:=@pf (r.po[k]).lv (dY r (r.po[k]).ou) (r.po[k-1]).lv (dY r (r.po[k-1]).ou);by_cases c:lP [(r.po[k]).lv,dY r (r.po[k]).ou] (EJ r (some r.po[k-1]))<=0
   ·rw [if_pos c,if_pos];have:¬ ((r.po[k-1]).lv<(r.po[k]).lv\/(r.po[k-1]).lv=(r.po[k]).lv/\dY r (r.po[k-1]).ou<dY r (r.po[k]).ou):=fun q=>(key.2 q) c
    omega
   ·rw [if_neg c,if_neg];have:=key.1 c;omega
 ·rw [if_pos e,if_pos e]
def T0 (r:Ro):Int:=if j6 r fun v=>r.ti.any fun x=>decide ((uf r.po v 8 x.nm).length=8) then 33 else if j6 r fun v=>r.ti.any fun x=>nS r.po v x.nm != !decide ((eJ r.po v x.nm).getD ⟨#[]⟩=⟨#[]⟩) then 32 else 0
theorem Q3 {r:Ro} (h:Dp r) (hp:jV r r.po=0):T0 r=AF r:=by
 have Ob:∀ p∈r.po,mn r p=0:=fun p l5=>by
  obtain ⟨k,hk,rfl⟩:=Zu l5;have:=dC.1 hp k hk;rw [ru hk] at this;by_cases e:mn r r.po[k]=0
  ·exact e
  ·rw [if_pos e] at this;exact this
 have G0:∀ p∈r.po,p.ou∈bY r\/p.ou∈ct r:=fun p l5=>Jf (fun x hx=>(h.dm x hx).1) (fun x hx=>(h.tm x hx).1.1) (nw (Ob p l5)).2.1
 have Oi:∀ p∈r.po,p.ip∈cz r\/p.ip∈ct r:=fun p l5=>Kn (nw (Ob p l5)).2.2.1
 have hne:∀ p∈r.po,p.ip≠⟨#[]⟩:=fun p l5=>h.ne ((Oi p l5).elim .inl fun q=>.inr (.inr q))
 have uV:∀ x∈r.ti,x.nm≠⟨#[]⟩:=fun x hx=>h.ne (.inr (.inr (Zw.2 ⟨x,hx,I⟩)))
 have hti:(ct r).length=r.ti.length:=by unfold ct;rw [Zd]
 have e1:(j6 r fun v=>r.ti.any fun x=>decide ((uf r.po v 8 x.nm).length=8))=j6 r fun v=>r.ti.any (Mv r v):=by
  unfold j6;congr 1;funext i;have hc:=Ln (po:=r.po) (v:=(i:Nat)) (T:=ct r) (gV.tie h.tL G0 Oi) (by rw [hti];exact h.len.2.2);rw [ZaS,ZR,ZR];constructor
  ·rintro ⟨x,hx,e⟩;rw [decide_eq_true_eq,A6 hne 7 (uV x hx),ZL] at e;obtain ⟨t,ht,hm⟩:=hc.2 ⟨x.nm,Zw.2 ⟨x,hx,rfl⟩,by omega⟩;obtain ⟨y,hy,rfl⟩:=Zw.1 ht;exact ⟨y,hy,dN.2 (by rw [<- hti];exact hm)⟩
  ·rintro ⟨x,hx,e⟩;obtain ⟨t,ht,hm⟩:=hc.1 ⟨x.nm,Zw.2 ⟨x,hx,rfl⟩,by rw [hti];exact dN.1 e⟩;obtain ⟨y,hy,rfl⟩:=Zw.1 ht;refine ⟨y,hy,?_⟩;rw [decide_eq_true_eq,A6 hne 7 (uV y hy),ZL,hm]
 have e2:(j6 r fun v=>r.ti.any fun x=>nS r.po v x.nm != !decide ((eJ r.po v x.nm).getD ⟨#[]⟩=⟨#[]⟩))=j6 r fun v=>r.ti.any (I9 r v):=by
  unfold j6;congr 1;funext i;dsimp only;congr 1;funext x;unfold I9 ib;have:(!decide ((eJ r.po (i:Nat) x.nm).getD ⟨#[]⟩=⟨#[]⟩))=(eJ r.po (i:Nat) x.nm).isSome:=by
   cases e:eJ r.po (i:Nat) x.nm with
   | none=>rfl
   | some o =>
    obtain ⟨p,l5,_,_,rfl⟩:=fE e;have:=hne p l5;simp [this]
  rw [this];cases nS r.po (i:Nat) x.nm <;> cases (eJ r.po (i:Nat) x.nm).isSome <;> rfl
 unfold T0 AF;rw [e1,e2];cases (j6 r fun v=>r.ti.any (Mv r v)) <;> cases (j6 r fun v=>r.ti.any (I9 r v)) <;> rfl
def Al (r:Ro):Int:=if jK (GJ r) r.po.length≠0 then jK (GJ r) r.po.length else T0 r
theorem Nw {r:Ro} (h:Dp r):Al r=if jV r r.po≠0 then jV r r.po else AF r:=by
 have e:jK (GJ r) r.po.length=jV r r.po:=EA fun j hj _=>QZ h hj
 unfold Al;rw [e];by_cases c:jV r r.po=0
 ·rw [if_neg (not_not_intro c),if_neg (not_not_intro c),Q3 h c]
 ·rw [if_pos c,if_pos c]
theorem Am {α:Type} {nm:α->ByteArray} {ck:α->Int} {l:List α} (hn:(bf++l.map nm).Nodup) (hl:(l.length:Int)<=nW) (h1:∀ x∈l,jD (nm x)=true) (h2:∀ x∈l,ck x=0):fa nW bf nm ck l=0:=by
 unfold fa;rw [if_neg (by omega)];refine dC.2 fun k hk=>?_;rw [ns hk,bP];intro e he;simp only [ZO,Zo,or_false] at he;rcases he with rfl | rfl | rfl
 ·exact (bC (by decide)).2 (by rw [h1 _ (Zj hk)];rfl)
 ·refine (bC (by decide)).2 ?_;rw [<- Zae,dN];intro hm;have e:l=l.take k++l[k]::l.drop (k+1):=by rw [<- Zv hk,ZX]
  rw [e,Zz,<- Zh,Zaf] at hn;have:=(Zx.1 hn).2.2;exact this _ hm _ Zp I
 ·exact h2 _ (Zj hk)
theorem Q4 {r:Ro} (h:Dp r):jy r=0:=by
 have hn:=h.EC.nd;have hN:∀ {s},s∈cY r->jD s=true:=fun hs=>h.nm _ hs
 unfold jy;rw [bP];have hn2:(cz r++bY r).Nodup:=(Zx.1 (show ((cz r++bY r)++ct r).Nodup from hn)).1;have hl:=h.len;intro e he;simp only [ZO,Zo,or_false] at he;rcases he with rfl | rfl | rfl
 ·exact Am (Zx.1 hn2).1 (by omega) (fun x hx=>hN (by unfold cY;rw [Zq,Zq];exact .inl (.inl (Zw.2 ⟨x,hx,I⟩)))) (fun x hx=>fA.2 (h.sm x hx))
 ·exact Am hn2 (by omega) (fun x hx=>hN (by unfold cY;rw [Zq,Zq];exact .inl (.inr (Zw.2 ⟨x,hx,I⟩)))) (fun x hx=>fA.2 (h.dm x hx))
 ·refine Am hn (by omega) (fun x hx=>hN (by unfold cY;rw [Zq];exact .inr (Zw.2 ⟨x,hx,I⟩))) (fun x hx=>?_);obtain ⟨a,b,c⟩:=h.tm x hx;unfold nq;rw [bP];intro e he;simp only [ZO,Zo,or_false] at he;rcases he with rfl | rfl | rfl
  ·exact fA.2 a
  ·exact fA.2 b
  ·exact (bC (by decide)).2 (by simpa using c)
def nC:ByteArray:=⟨#[109,111,114,101]⟩
def Ro.more (r:Ro) (m:Int):Ro:=⟨r.lv,r.ma,r.sr,r.de++[⟨nC,m,false⟩],r.ti,r.po⟩
theorem ki (r:Ro) (m:Int):bY (r.more m)=bY r++[nC]:=by unfold bY Ro.more;simp
theorem Ld :∀ (j:Nat) (hj:j<l.length),l[j]=s->∃ i,∃ hi:i<l.length,i<=j/\l[i]=s/\∀ k (hk:k<i),l[k]'(by omega)≠s:=by
 intro j
 induction j using Nat.strongRecOn with
 | _ j ih =>
  intro hj e2;by_cases c:∃ k,∃ hk:k<j,l[k]'(by omega)=s
  ·obtain ⟨k,hk,e3⟩:=c;obtain ⟨i,hi,a,b,d⟩:=ih k hk (by omega) e3;exact ⟨i,hi,by omega,b,d⟩
  ·exact ⟨j,hj,ZC _,e2,fun k hk e3=>c ⟨k,hk,e3⟩⟩
theorem FQ (h:s∈l):br (l++[x]) s=br l s:=by
 obtain ⟨hl,e⟩:=ei (cF h);generalize hq:br l s=q at *;have h0:0<=q:=by rw [<- hq];exact cF h
 have Yn:∀ j (hj:j<q.toNat),l[j]'(by omega)≠s:=by
  intro j hj e2;have KN:j<l.length:=by omega
  have hd:=Ld j KN e2;obtain ⟨i,hi,a,b,c⟩:=hd;have:=lx hi b c;omega
 have h2:q.toNat<(l++[x]).length:=by rw [Zg];omega
 have:=lx (l:=l++[x]) (s:=s) (i:=q.toNat) h2 (by rw [Zac hl];exact e) (fun j hj=>by rw [Zac (by omega)];exact Yn j hj)
 rw [this];omega
theorem FO (h:x ∉ l):br (l++[x]) x=(l.length:Nat):=
 lx (by simp) (by rw [Zag (ZC _)];simp) (fun j hj e=>h (by rw [Zac hj] at e;rw [<- e];exact Zj _))
theorem wM (h:s ∉ l) (hx:s≠x):br (l++[x]) s<0:=cm.2 (by rw [Zq,ZB];exact fun e=>e.elim h hx)
theorem rF {r:Ro} (hx:nC ∉ cY r):nC ∉ cz r/\nC ∉ bY r/\nC ∉ ct r:=by
 unfold cY at hx;rw [Zq,Zq] at hx;exact ⟨fun h=>hx (.inl (.inl h)),fun h=>hx (.inl (.inr h)),fun h=>hx (.inr h)⟩
theorem Dp.more {r:Ro} (h:Dp r) {m:Int} (hm:0<=m/\m<r.ma) (h8:r.de.length<8) (hx:nC ∉ cY r):Dp (r.more m):=by
 obtain ⟨x1,x2,x3⟩:=rF hx;refine ⟨⟨?_⟩,⟨h.len.1,?_,h.len.2.2⟩,h.sm,fun x Ui=>?_,h.tm,fun s hs=>?_⟩
 ·have hn:=h.EC.nd;unfold cY at hn ⊢;rw [ki];show (cz r++(bY r++[nC])++ct r).Nodup;obtain ⟨a,b,c⟩:=Zx.1 hn;obtain ⟨a1,a2,a3⟩:=Zx.1 a;refine Zx.2 ⟨Zx.2 ⟨a1,Zx.2 ⟨a2,by simp,?_⟩,?_⟩,b,?_⟩
  ·intro y hy z hz e;rw [ZB.1 hz] at e;exact x2 (e ▸ hy)
  ·intro y hy z hz;rcases Zq.1 hz with hz | hz
   ·exact a3 y hy z hz
   ·rw [ZB.1 hz];rintro rfl;exact x1 hy
  ·intro y hy z hz;rcases Zq.1 hy with hy | hy
   ·exact c y (ZD _ hy) z hz
   ·rcases Zq.1 hy with hy | hy
    ·exact c y (ZM _ hy) z hz
    ·rw [ZB.1 hy];rintro rfl;exact x3 hz
 ·show (r.de++[_]).length<=8;rw [Zg];simp;omega
 ·rcases Zq.1 Ui with Ui | Ui
  ·exact h.dm x Ui
  ·rw [ZB.1 Ui];exact hm
 ·unfold cY at hs;rw [ki] at hs;rcases Zq.1 hs with hs | hs
  ·rcases Zq.1 hs with hs | hs
   ·exact h.nm s (by unfold cY;exact ZD _ (ZD _ hs))
   ·rcases Zq.1 hs with hs | hs
    ·exact h.nm s (by unfold cY;exact ZD _ (ZM _ hs))
    ·rw [ZB.1 hs];decide
  ·exact h.nm s (by unfold cY;exact ZM _ hs)
theorem y6 {r:Ro} (hx:nC ∉ cY r) (m:Int) {s:ByteArray} (hs:s∈bY r\/s∈ct r):dY (r.more m) s=if 0<=br (bY r) s then br (bY r) s else (r.de.length:Nat)+1+br (ct r) s:=by
 obtain ⟨x1,x2,x3⟩:=rF hx;unfold dY;rw [ki];by_cases c:s∈bY r
 ·rw [FQ c,if_pos (cF c),if_pos (cF c)]
 ·have ht:=hs.resolve_left c;have h1:=wM (x:=nC) c (fun e=>x3 (e ▸ ht))
  have h2:=cm.2 c;rw [if_neg (by omega),if_pos (show 0<=br (ct (r.more m)) s from cF ht),if_neg (by omega)];show (((r.de++[_]).length:Nat):Int)+br (ct r) s=_;rw [Zg];simp
theorem Au {r:Ro} (hs:s∈bY r\/s∈ct r):dY r s=if 0<=br (bY r) s then br (bY r) s else (r.de.length:Nat)+br (ct r) s:=by
 unfold dY;by_cases c:s∈bY r
 ·rw [if_pos (cF c),if_pos (cF c)]
 ·have h2:=cm.2 c;rw [if_neg (by omega),if_pos (cF (hs.resolve_left c)),if_neg (by omega)]
theorem J5 {r:Ro} (hx:nC ∉ cY r) (m:Int) {p q:Po} (hp:p.ou∈bY r\/p.ou∈ct r) (hq:q.ou∈bY r\/q.ou∈ct r):oM (r.more m) p q=oM r p q:=by
 have e:dY (r.more m) p.ou<dY (r.more m) q.ou↔dY r p.ou<dY r q.ou:=by
  rw [y6 hx m hp,y6 hx m hq,Au hp,Au hq];have l1:(bY r).length=r.de.length:=by unfold bY;rw [Zd]
  have b1:0<=br (bY r) p.ou->br (bY r) p.ou<(r.de.length:Nat):=fun h=>by have:=td h;omega
  have b2:0<=br (bY r) q.ou->br (bY r) q.ou<(r.de.length:Nat):=fun h=>by have:=td h;omega
  have b3:¬ 0<=br (bY r) p.ou->0<=br (ct r) p.ou:=fun h=>cF (hp.resolve_left fun c=>h (cF c))
  have b4:¬ 0<=br (bY r) q.ou->0<=br (ct r) q.ou:=fun h=>cF (hq.resolve_left fun c=>h (cF c))
  by_cases c1:0<=br (bY r) p.ou <;> by_cases c2:0<=br (bY r) q.ou
  ·simp only [if_pos c1,if_pos c2]
  ·have:=b1 c1;have:=b4 c2;simp only [if_pos c1,if_neg c2];omega
  ·have:=b2 c2;have:=b3 c1;simp only [if_neg c1,if_pos c2];omega
  ·simp only [if_neg c1,if_neg c2];omega
 unfold oM;rw [decide_eq_decide.2 e]
theorem JZ {r:Ro} (hx:nC ∉ cY r) (m:Int) {s:ByteArray} (hs:s∈bY r\/s∈ct r):jR (r.more m) s=jR r s:=by
 obtain ⟨x1,x2,x3⟩:=rF hx;unfold jR;rw [ki];by_cases c:s∈bY r
 ·obtain ⟨hl,_⟩:=ei (cF c);have xV:(br (bY r) s).toNat<r.de.length:=by unfold bY at hl;rwa [Zd] at hl
  rw [FQ c,if_pos (cF c),if_pos (cF c)];show ((r.de++[_]).getD _ _).mx=_;rw [Zk,ZG xV,Zk]
 ·have ht:=hs.resolve_left c;have h1:=wM (x:=nC) c (fun e=>x3 (e ▸ ht))
  have h2:=cm.2 c;have h3:=cF ht;rw [if_neg (show ¬ 0<=br (bY r++[nC]) s by omega),if_neg (show ¬ 0<=br (bY r) s by omega)]
  rfl
theorem J6 {r:Ro} (hx:nC ∉ cY r) (m:Int):gQ (r.more m) nC=m:=by
 obtain ⟨x1,x2,x3⟩:=rF hx;unfold gQ;rw [ki,FO x2,Zy];show ((r.de++[_]).getD _ _).mx=_;have:(bY r).length=r.de.length:=by unfold bY;rw [Zd]
 rw [this,Zk,ZI (ZC _),Nat.sub_self];rfl
theorem gV.more {r:Ro} (hx:nC ∉ cY r) (m:Int) {po:List Po} (h:gV r po):gV (r.more m) po:=by
 refine ⟨?_,h.Kd,fun p hp=>?_,h.vY,fun p hp=>?_,h.CP,h.use⟩
 ·exact (List.Pairwise.and_mem.1 h.qZ).imp fun {a b} ⟨ha,hb,PQ⟩=>by rw [J5 hx m (h.out a ha) (h.out b hb)];exact PQ
 ·rw [ki];exact (h.out p hp).elim (fun e=>.inl (ZD _ e)) .inr
 ·rw [JZ hx m (h.out p hp)];exact h.Mh p hp
theorem r9 {r:Ro} (h:fT r=0) {m:Int} (hm:0<=m/\m<r.ma) (h8:r.de.length<8) (hx:nC ∉ cY r):fT (r.more m)=0:=by
 obtain ⟨h1,h2,_,_⟩:=qP h;exact Qb (r:=r.more m) h1 (Q4 ((prt h2).more hm h8 hx)) ((uo h).val.more hx m)
theorem H6 {r:Ro} (hn:n9 r) {po:List Po} (h:gV r po):vl (bY r) po=po:=by
 rw [<- h.acy.tid hn (f:=fun _=>true) ⟨Sw.start _ _,fun p hp _=>?_⟩,Zaw.2 fun _ _=>rfl]
 rcases h.out p hp with hd | ht
 ·exact .inl hd
 ·right
  have hb:ib po p.lv p.ou=true:=EI.2 ⟨p,hp,I,I⟩;obtain ⟨q,hq,e⟩:=zM.1 ((h.use p.lv p.ou ht).2 hb);exact ⟨q,hq,I,e⟩
def jA (r:Ro) (v:Nat) (s:ByteArray):Tk:=⟨nC,(List.range r.lv.toNat).map fun k=>if k=v then s else ⟨#[]⟩⟩
theorem Fu {r:Ro} {v k:Nat}:(jA r v s).at k=if k<r.lv.toNat/\k=v then s else ⟨#[]⟩:=by
 unfold Tk.at jA;dsimp only;rw [Zk];by_cases c:k<r.lv.toNat
 ·rw [Zc (by simpa using c)];by_cases e:k=v
  ·rw [if_pos ⟨c,e⟩];simp [e]
  ·rw [if_neg fun h=>e h.2];simp [e]
 ·rw [Zaa (by simpa using c),if_neg (fun e=>c e.1)];rfl
theorem Kp {α:Type} {p:α->Bool} {x:α} (h:p x=false):gH p [x] = -1:=by
 unfold gH;simp [Zbc,h]
theorem JY {r:Ro} (h:fT r=0) (hx:nC ∉ cY r) (h8:r.de.length<8) {v:Nat} (hv:(v:Int)<r.lv) {s d:ByteArray} (hs:s∈cz r) (hd:d∈bY r) :
  (kg (r.more (gQ r d)) [jA r v s]).2.2=if (kO r (v:Nat) s d).isSome then 0 else 18:=by
 obtain ⟨h1,h2,_,_⟩:=qP h;have hp:=prt h2;have dw:=uo h;have hm:0<=gQ r d/\gQ r d<r.ma:=by
  obtain ⟨hl,_⟩:=ei (cF hd);unfold gQ;rw [Zk,Zc (by unfold bY at hl;rwa [Zd] at hl)];exact hp.dm _ (Zj _)
 have fB:=r9 h hm h8 hx;generalize KC:r.more (gQ r d)=r' at *;have Oe:=uo fB;have om:r'.po=r.po:=by rw [<- KC];rfl
 have GY:cz r'=cz r:=by rw [<- KC];rfl
 obtain ⟨x1,x2,x3⟩:=rF hx;have KJ:rI r' [jA r v s] = -1:=by
  refine Kp ?_;rw [<- KC];show ((r.more (gQ r d)).de.getD (br (bY (r.more (gQ r d))) nC).toNat _).pr=false;rw [ki,FO x2,Zy];show ((r.de++[_]).getD _ _).pr=_;have:(bY r).length=r.de.length:=by unfold bY;rw [Zd]
  rw [this,Zk,ZI (ZC _),Nat.sub_self];rfl
 have tU:∀ p∈r.po,p.ou≠nC:=fun p l5 e=>by
  rcases dw.val.out p l5 with c | c
  ·exact x2 (e ▸ c)
  ·exact x3 (e ▸ c)
 have U8:jM r' [jA r v s] 1=r.po:=by
  rw [jL,om,Zaw];intro p l5;rw [ZaP,<- Zae];intro hc;obtain ⟨t,ht,i,_,_,_,e⟩:=(F4 (r:=r') (l:=[jA r v s])).1 hc;rw [ZB.1 ht] at e;exact tU p l5 e
 have XM:vl (bY r') r.po=r.po:=by rw [<- om];exact H6 Oe.tL Oe.val
 have wH:∀ k:Nat,kN r' (k:Nat) nC=⟨#[]⟩:=fun k=>by
  rw [tw Oe.tL Oe.val,GY];refine zr x1 (gP.2 fun p l5 e=>tU p (om ▸ l5) e.2)
 have rN:(jA r v s).so.length=r.lv.toNat:=by unfold jA;simp
 have Yx:∀ k,nX r' (jA r v s) k=decide (k=v):=fun k=>by
  rw [ZaS,lo,decide_eq_true_eq];show _/\(jA r v s).at k≠kN r' (k:Nat) nC/\_↔_;rw [wH,Fu];constructor
  ·rintro ⟨a,_,_⟩;apply Classical.byContradiction;intro c;rw [if_neg fun e=>c e.2] at a
   exact a I
  ·rintro rfl;rw [if_pos ⟨by omega,I⟩];exact ⟨hp.ne (.inl hs),hp.ne (.inl hs),hp.nd hs⟩
 have XH:kO (r'.wp r.po) (v:Nat) s nC=kO r (v:Nat) s d:=by
  have e1:gQ (r'.wp r.po) nC=gQ r d:=by
   show gQ r' nC=gQ r d;rw [<- KC,J6 hx]
  have e2:eh (r'.wp r.po) (r'.wp r.po).po (v:Nat) s=eh r r.po (v:Nat) s:=by rw [<- KC];rfl
  unfold kO;rw [e1,e2]
 have ij:∀ k,(ll r' (jA r v s) k r.po).isSome=(decide (k<=v)||(kO r (v:Nat) s d).isSome)/\(k<=v->ll r' (jA r v s) k r.po=some r.po):=by
  intro k
  induction k with
  | zero=>exact ⟨by simp [ll],fun _=>rfl⟩
  | succ k ih =>
   rw [ll,Yx k];by_cases c1:k<v
   ·rw [ih.2 (by omega),ZbC,if_neg (by simp;omega)];exact ⟨by simp;left;omega,fun _=>rfl⟩
   ·by_cases c2:k=v
    ·subst c2;rw [ih.2 (ZC _),ZbC,if_pos (by simp),Fu,if_pos ⟨by omega,I⟩];show ((kO (r'.wp r.po) (k:Nat) s nC).map _).isSome=_/\_;rw [XH,Option.isSome_map];refine ⟨?_,fun h=>by omega⟩;rw [show decide (k+1<=k)=false from decide_eq_false (by omega),ZbD]
    ·refine ⟨?_,fun h=>by omega⟩;have h3:=ih.1;rw [decide_eq_false (by omega),ZbD] at h3;rw [show decide (k+1<=v)=false from decide_eq_false (by omega),ZbD];rw [<- h3];cases ll r' (jA r v s) k r.po with
     | none=>rfl
     | some q=>rw [ZbC,decide_eq_false c2,if_neg (by simp)]
 unfold kg;rw [KJ,if_neg (by decide)];show (match ju r' [jA r v s] (vl (bY r') (jM r' [jA r v s] 1)) 1 with | none=>_ | some po=>_:Ro×Int×Int).2.2=_
 rw [U8,XM];have e3:ju r' [jA r v s] r.po 1=ll r' (jA r v s) r.lv.toNat r.po:=by rw [<- rN];rfl
 have e4:=(ij r.lv.toNat).1;rw [decide_eq_false (by omega),ZbD] at e4;rw [e3];cases c:ll r' (jA r v s) r.lv.toNat r.po with
 | none=>rw [c] at e4;rw [<- e4];rfl
 | some q=>rw [c] at e4;rw [<- e4];rfl
section
variable {r:Ro} {a b:ByteArray}
theorem LP {r:Ro} {s:ByteArray} (h:s∈cz r\/s∈bY r\/s∈ct r):s∈cY r:=by
 unfold cY;rw [Zq,Zq];rcases h with h | h | h
 ·exact .inl (.inl h)
 ·exact .inl (.inr h)
 ·exact .inr h
end
end Go.Proofs.A1
namespace Go.Proofs.A1
open Go Go.SL
open Tryz
open Tryz renaming prog->T_
variable {l:List Tk} {o:ByteArray} {w:World}
theorem GA {r:Ro} (h:(kg r l).2.2=0):∃ q,ju r l (u5 r l) l.length=some q/\kg r l=(r.wp q,0,0)/\¬ 0<=rI r l:=by
 unfold kg at h ⊢;by_cases c:0<=rI r l
 ·rw [if_pos c] at h;cases h
 ·rw [if_neg c] at h ⊢;show ∃ q,ju r l (vl (bY r) (jM r l l.length)) l.length=some q/\_;cases e:ju r l (vl (bY r) (jM r l l.length)) l.length with
  | none=>rw [e] at h;cases h
  | some q=>exact ⟨q,rfl,rfl,c⟩
def Qr (r:Ro) (t:Tk):List ByteArray:=(List.range r.lv.toNat).map fun k=>if t.at k=⟨#[]⟩ then kN r (k:Nat) t.de else if t.at k=dash then ⟨#[]⟩ else t.at k
theorem O2 {r:Ro} {v:Int} (h:kN r v o≠⟨#[]⟩):kN r v o∈cz r:=by
 unfold kN at h ⊢;split at h
 ·rename_i c;rw [if_pos c];rw [ZR] at c;obtain ⟨x,hx,e⟩:=c;rw [decide_eq_true_eq] at e;exact Zw.2 ⟨x,hx,e⟩
 ·exact absurd I h
theorem LF {r:Ro} (h:qX r) {q:List Po} (hq:gV r q) (v:Int) (o:ByteArray):kN (r.wp q) v o=pV q v (cz r) o:=tw (h.wp hq).tL hq.wp v o
theorem Iu {r:Ro} (fB:fT r=0) {l:List Tk} (hl:HB r l) {q:List Po} (h0:ju r l (u5 r l) l.length=some q) :
  gV r q/\(∀ t∈l,cL (r.wp q) t.de=Qr r t)/\∀ y∈bY r,y ∉ l.map Tk.de->cL (r.wp q) y=cL r y:=by
 have h:=uo fB;have hp:=prt (qP fB).2.1;obtain ⟨k1,k2,k3⟩:=QM h hl h0;refine ⟨k1,fun t ht=>?_,fun y hy hn=>?_⟩
 ·unfold cL Qr;show (List.range r.lv.toNat).map _=_;refine Zbs fun k hk=>?_;have hk:=ZU.1 hk;have AM:=hl.lv t ht;have Yr:k<t.so.length:=by omega
  rw [LF h k1];by_cases hd:nY r t k=true
  ·rw [k3 t ht k Yr hd,if_neg (lC.1 hd).1]
  ·have tU:¬ TE r l (k:Nat) t.de:=by
    rintro ⟨t',GW,i,hi,AQ,e1,e2⟩;obtain ⟨x,hx,rfl⟩:=Zu ht;obtain ⟨x',RJ,rfl⟩:=Zu GW;have e:x=x':=Classical.byContradiction fun c=>zp hl.nd hx RJ c e2
    subst e;have:k=i:=by omega
    subst this;exact hd AQ
   rw [k2 _ _ (hl.de t ht) tU,<- tw h.tL h.val];by_cases e1:t.at k=⟨#[]⟩
   ·rw [if_pos e1]
   ·have e2:t.at k=kN r (k:Nat) t.de:=Classical.byContradiction fun c=>hd (lC.2 ⟨e1,c⟩)
    have e3:t.at k≠dash:=hp.nd (by rw [e2];exact O2 (by rw [<- e2];exact e1));rw [if_neg e1,if_neg e3,e2]
 ·unfold cL;show (List.range r.lv.toNat).map _=_;refine Zbs fun k _=>?_;rw [LF h k1,k2 _ _ hy fun ⟨t,ht,_,_,_,_,e⟩=>hn (Zw.2 ⟨t,ht,e.symm⟩),<- tw h.tL h.val]
theorem tQ {r:Ro}:mP r o=false↔o=⟨#[]⟩\/o=dash\/o∈cz r:=by
 unfold mP dash;rw [Bool.and_eq_false_iff,Bool.and_eq_false_iff,decide_eq_false_iff_not,decide_eq_false_iff_not,decide_eq_false_iff_not,cm];simp only [ne_eq,Zr,or_assoc];rw [Classical.not_not]
theorem uG {r:Ro}:Bm r l=0↔l≠[]/\HB r l:=by
 have jJ:∀ k (hk:k<l.length),L9 r l k=0↔(l[k].de∈bY r/\(∀ j (hj:j<k),(l[j]'(by omega)).de≠l[k].de)/\(l[k].so.length:Int)=r.lv/\∀ s∈l[k].so,s=⟨#[]⟩\/s=dash\/s∈cz r):=by
  intro k hk;rw [H5 hk,bP];have e1:ux r l[k].de=0↔l[k].de∈bY r:=by
   unfold ux;rw [bC (by decide),decide_eq_false_iff_not,cm,Classical.not_not]
  have e2:bT ((l.take k).any fun y=>decide (y.de=l[k].de)) 9=0↔∀ j (hj:j<k),(l[j]'(by omega)).de≠l[k].de:=by
   rw [bC (by decide),Zap];constructor
   ·intro h j hj e;have hjt:j<(l.take k).length:=by rw [Zs];omega
    have:=h _ (Zj hjt);rw [ZaE] at this;exact this (decide_eq_true e)
   ·intro h x hx e;obtain ⟨j,hj,rfl⟩:=Zu hx;rw [Zs] at hj;rw [ZaE] at e;exact h j (by omega) (of_decide_eq_true e)
  have e3:bT (decide ((l[k].so.length:Int)≠r.lv)) 2=0↔(l[k].so.length:Int)=r.lv:=by
   rw [bC (by decide),decide_eq_false_iff_not,ne_eq,Zr]
  have e4:bT (l[k].so.any (mP r)) 10=0↔∀ s∈l[k].so,s=⟨#[]⟩\/s=dash\/s∈cz r:=by
   rw [bC (by decide),Zap];exact ⟨fun h s hs=>tQ.1 (by have:=h s hs;rwa [Zae] at this),fun h s hs=>by rw [Zae];exact tQ.2 (h s hs)⟩
  constructor
  ·intro h;exact ⟨e1.1 (h _ (by simp)),e2.1 (h _ (by simp)),e3.1 (h _ (by simp)),e4.1 (h _ (by simp))⟩
  ·rintro ⟨a,b,c,d⟩ e he;simp only [ZO,Zo,or_false] at he;rcases he with rfl | rfl | rfl | rfl
   ·exact e1.2 a
   ·exact e2.2 b
   ·exact e3.2 c
   ·exact e4.2 d
 have hA:Ma l=0↔l≠[]/\l.length<=8:=by
  unfold Ma;rw [bP];constructor
  ·intro h;have a:=(bC (by decide)).1 (h (bT (decide ((l.length:Int)=0)) 12) (by simp));have b:=(bC (by decide)).1 (h (bT (decide ((8:Int)<(l.length:Nat))) 5) (by simp));rw [decide_eq_false_iff_not] at a b;exact ⟨fun e=>a (by rw [e];rfl),by omega⟩
  ·rintro ⟨a,b⟩ e he;simp only [ZO,Zo,or_false] at he;rcases he with rfl | rfl
   ·refine (bC (by decide)).2 (decide_eq_false fun e=>a (Z4 (by omega)))
   ·exact (bC (by decide)).2 (decide_eq_false (by omega))
 unfold Bm;constructor
 ·intro h;by_cases c:Ma l=0
  ·rw [if_neg (not_not_intro c)] at h;have h:=dC.1 h;obtain ⟨c1,c2⟩:=hA.1 c;refine ⟨c1,fun t ht=>?_,?_,fun t ht=>?_,fun t ht=>?_,c2⟩
   ·obtain ⟨k,hk,rfl⟩:=Zu ht;exact ((jJ k hk).1 (h k hk)).1
   ·show List.Pairwise _ _;rw [ZY];intro i j hi hj wA;rw [Zd] at hi hj;rw [Z2,Z2];exact ((jJ j hj).1 (h j hj)).2.1 i wA
   ·obtain ⟨k,hk,rfl⟩:=Zu ht;exact ((jJ k hk).1 (h k hk)).2.2.1
   ·obtain ⟨k,hk,rfl⟩:=Zu ht;exact ((jJ k hk).1 (h k hk)).2.2.2
  ·rw [if_pos c] at h;exact absurd h c
 ·rintro ⟨c1,h⟩;rw [if_neg (not_not_intro (hA.2 ⟨c1,h.Ez⟩))];refine dC.2 fun k hk=>(jJ k hk).2 ⟨h.de _ (Zj hk),fun j hj=>zp h.nd (by omega) hk (by omega),h.lv _ (Zj hk),h.so _ (Zj hk)⟩
def xH (r:Ro) (t:Tk):Tk:=⟨t.de,(List.range r.lv.toNat).map fun k=>if t.at k=⟨#[]⟩ then ⟨#[]⟩ else if kN r (k:Nat) t.de=⟨#[]⟩ then dash else kN r (k:Nat) t.de⟩
def Ro.IQ (r:Ro) (d:ByteArray) (q:Bool):Ro:=⟨r.lv,r.ma,r.sr,r.de.modify (br (bY r) d).toNat fun x=>⟨x.nm,x.mx,q⟩,r.ti,r.po⟩
structure Od where
 fr:Int
 tk:List Tk
def Od.zero:Od:=⟨0,[]⟩
def Pp (r:Ro) (l:List Od):Nat->Ro
 | 0=>r
 | i+1=>(kg (Pp r l i) (l.getD i Od.zero).tk).1
def Ck (r:Ro) (l:List Od) (i:Nat):Int:=(kg (Pp r l i) (l.getD i Od.zero).tk).2.2
def O7 (f:Nat->Int) (n:Nat):Nat:=((List.range n).find? fun i=>decide (f i≠0)).getD 0
def iT (r:Ro) (l:List Od):Ro×Int×Int:=if jK (Ck r l) l.length=0 then (Pp r l l.length,0,0) else (Ro.nil,(O7 (Ck r l) l.length:Nat),jK (Ck r l) l.length)
theorem O6 {f:Nat->Int} {n i:Nat} (h:∀ j,j<i->f j=0) (hi:i<n) (hn:f i≠0):O7 f n=i:=by
 unfold O7;have:(List.range n).find? (fun i=>decide (f i≠0))=some i:=by
  rw [ZaB];refine ⟨by simpa using hn,i,by simpa using hi,by simp,fun j hj=>?_⟩;simp [h j hj]
 rw [this];rfl
def Mg (r:Ro) (l:List Od) (k:Nat):Int:=(l[k]?.map fun x=>ba [gC x.fr 0 10000000,bT (decide (x.fr<=if k=0 then -1 else (l.getD (k-1) Od.zero).fr)) 11,Bm r x.tk]).getD 0
def Wp (r:Ro) (l:List Od):Int:=if (16:Int)<(l.length:Nat) then 5 else jK (Mg r l) l.length
structure Pc (r:Ro) (l:List Od):Prop where
 Ez:l.length<=16
 fr:∀ k (h:k<l.length),0<=l[k].fr/\l[k].fr<=10000000
 inc:∀ i j (hi:i<l.length) (hj:j<l.length),i<j->l[i].fr<l[j].fr
 tk:∀ k (h:k<l.length),HB r l[k].tk
theorem ods {r:Ro} {l:List Od} (h:Wp r l=0):Pc r l:=by
 unfold Wp at h;by_cases c:(16:Int)<(l.length:Nat)
 ·rw [if_pos c] at h;cases h
 ·rw [if_neg c] at h;have h:=dC.1 h;have hk:∀ k (hk:k<l.length),(0<=l[k].fr/\l[k].fr<=10000000)/\(if k=0 then -1 else (l.getD (k-1) Od.zero).fr)<l[k].fr/\Bm r l[k].tk=0:=fun k hk=>by
   have:=h k hk;unfold Mg at this;rw [Zc hk,Zbl,Zam,bP] at this;have a:=gB.1 (this _ Zp);have b:=(bC (by decide)).1 (this (bT (decide (l[k].fr<=if k=0 then -1 else (l.getD (k-1) Od.zero).fr)) 11) (by simp))
   rw [decide_eq_false_iff_not] at b;exact ⟨a,by omega,this _ (by simp)⟩
  have fI:∀ k (Tu:k+1<l.length),l[k].fr<l[k+1].fr:=fun k Tu=>by
   have:=(hk (k+1) Tu).2.1;rwa [if_neg (by omega),ZaK,Zk,Zc (by omega),Zam] at this
  refine ⟨by omega,fun k h=>(hk k h).1,fun i j hi hj wA=>?_,fun k h=>(uG.1 (hk k h).2.2).2⟩
  induction j with
  | zero=>omega
  | succ j ih =>
   have:=fI j hj;by_cases c:i=j
   ·subst c;exact this
   ·have:=ih (by omega) (by omega);omega
structure L4 (r:Ro) (l:List Od) (i:Nat) (q:List Po):Prop where
 eq:Pp r l i=r.wp q
 val:gV r q
theorem L4.next {r:Ro} (fB:fT r=0) {l:List Od} (hl:Pc r l) {i:Nat} (hi:i<l.length) {q:List Po} (h:L4 r l i q) (h0:Ck r l i=0):∃ q',L4 r l (i+1) q'/\(∀ t∈l[i].tk,cL (r.wp q') t.de=Qr (r.wp q) t)/\∀ y∈bY r,y ∉ l[i].tk.map Tk.de->cL (r.wp q') y=cL (r.wp q) y:=by
 unfold Ck at h0;rw [h.eq,Zk,Zc hi,Zam] at h0;obtain ⟨q',e1,e2,_⟩:=GA h0;obtain ⟨k1,k2,k3⟩:=Iu (EE fB h.val) ((hl.tk i hi).wp q) e1;refine ⟨q',⟨?_,⟨k1.qZ,k1.Kd,k1.out,k1.vY,k1.Mh,k1.CP,k1.use⟩⟩,k2,k3⟩;rw [Pp,h.eq,Zk,Zc hi,Zam,e2];rfl
theorem Ix {r:Ro} (fB:fT r=0) {l:List Od} (hl:Pc r l):∀ i,i<=l.length->(∀ j,j<i->Ck r l j=0)->∃ q,L4 r l i q
 | 0,_,_=>⟨r.po,rfl,(uo fB).val⟩
 | i + 1, hi, h => by
  obtain ⟨q,hq⟩:=Ix fB hl i (by omega) fun j hj=>h j (by omega);obtain ⟨q',xA,_⟩:=hq.next fB hl hi (h i (by omega));exact ⟨q',xA⟩
def iF (l:List Od) (f:Int):Nat:=l.findIdx fun x=>decide (f<x.fr)
theorem Qy (l:List Od) (f:Int):iF l f<=l.length:=List.findIdx_le_length
def RW (b:Nat) (r:Ro) (s d t p:Value) (l:List Po):List bh:=[RB b r s d t p,J1 r s,J2 r d,J3 r t,PB p l]
theorem T1 {l:List Po} {i:Nat} (h:i<l.length) (cur:List Value):eu (jb l++cur) (i*3) 3=[.q l[i].lv,.string l[i].ou,.string l[i].ip]:=r5 (f:=Po.cells) (fun _=>rfl) h cur
theorem RR.wp {r:Ro} {s d t p':Value} {po:List Po} (h1:Rd w s 2 (uj r.sr)) (h2:Rd w d 3 (ue r.de)) (h3:Rd w t 3 (tE r.ti)) (h4:Rd w p' 3 (sq po)):RR w (r.wp po) s d t p':=⟨h1,h2,h3,h4⟩
set_option maxHeartbeats 2000000 in
theorem M1 {r:Ro} {s d t p:Value} {b:Nat} {fp:List Nat} (jX:fp.Nodup) (hs:cA (hp w) (RW b r s d t p r.po) fp) (cJ:me r) (X9:r.po.length<=1000) :
  bB T_ 257 [.p b] w fp (fun x:Value×(Po->Bool)=>Sw r.po (bY r) x.2/\∀ q∈r.po,x.2 q=true->q.ou∈bY r\/∃ q'∈r.po,x.2 q'=true/\q'.lv=q.lv/\q'.ip=q.ou) (fun _=>.tuple #[]) (fun x=>RW b r s d t x.1 (r.po.filter x.2)):=by
 unfold RW RB PB at *;refine er func257 I I jX hs ?_;refine Jr<|Ja I<|Jn<|J0 ?_
 refine bd (ι:=Value×(Po->Bool)×Bool) (fun x=>Sw r.po (bY r) x.2.1/\(x.2.2=false->∀ q∈r.po,x.2.1 q=true->q.ou∈bY r\/∃ q'∈r.po,x.2.1 q'=true/\q'.lv=q.lv/\q'.ip=q.ou)) (fun x=>[(2,.bool x.2.2),(0,.p b)])
  (fun x=>RW b r s d t x.1 (r.po.filter x.2.1)) (fun x=>2*(r.po.filter x.2.1).length+if x.2.2 then 1 else 0) ?_ ?_
 ·apply aJ (p,(fun _=>true),true) ⟨Sw.start _ _,fun h=>by cases h⟩
  case hs1=>exact cB
  case ht=>
   show bK _ [JP b r s d t p,J1 r s,J2 r d,J3 r t,row 188 3 p (r.po.filter fun _=>true).length (jb (r.po.filter fun _=>true))] _
   rw [Zaw.2 fun _ _=>rfl]
   exact .h5 .nil
 rintro ⟨p',f,fl⟩ ⟨Tx,tV⟩;dsimp only at Tx tV ⊢;unfold RW RB PB;cases fl with
 | false =>
  (refine Jq<|Jr<|Jv I<|Jn<|bJ (.of I)<|Jp<|Jl<|Jo ?_)
  with_reducible first|apply aP|apply aQ
  case he=>exact qt I
  case hR=>
   intro w' az;exact aF (p',f) ⟨Tx,tV I⟩ (by exact .h5 .nil) az I
 | true =>
  (refine Jq<|Jr<|Jv I<|Jn<|ch (.of I)<|Jk<|J0<|Jr<|Ja I<|Ji<|Jv I<|ab (ee (.of I)) I<|bN I I ae<|JL I .here I ?_)
  have afD:(r.po.filter f).length<=r.po.length:=Z5 _ _;refine JN bS I (fun w1 aY=>Hn (c7 aY dF I) (by omega)) ?_;intro cv _;dsimp only [id_eq,Zb,Za];refine aT (v:=cv) (by exact .here) fun ca cc e=>?_;subst e;refine JI I<|Jv I<|Jn<|J0 ?_;have oo:∀ k (h:k<(r.po.filter f).length),(jb (r.po.filter f)).length=(r.po.filter f).length*3:=fun _ _=>jz _
  refine bd (ι:=Nat×Value×(Po->Bool)×Bool) (fun x=>x.1<=(r.po.filter f).length/\Sw r.po (bY r) x.2.2.1/\(x.2.2.2=false->x.2.2.1=f/\∀ i (hi:i<(r.po.filter f).length),i<x.1->(r.po.filter f)[i].ou∈bY r\/nS (r.po.filter f) (r.po.filter f)[i].lv (r.po.filter f)[i].ou=true)/\(x.2.2.2=true->(r.po.filter x.2.2.1).length<(r.po.filter f).length))
   (fun x=>[(12,.q (x.1:Nat)),(11,.q ((r.po.filter f).length:Nat)),(10,.slice ca (r.po.filter f).length cc),(2,.bool x.2.2.2),(0,.p b)])
   (fun x=>[JP b r s d t (x.2.1),J1 r s,J2 r d,J3 r t,row 188 3 x.2.1 (r.po.filter x.2.2.1).length (jb (r.po.filter x.2.2.1)),row 188 3 (.slice ca (r.po.filter f).length cc) (r.po.filter f).length (jb (r.po.filter f))]) (fun x=>(r.po.filter f).length-x.1) ?_ ?_
  ·apply aJ (0,p',f,false) ⟨Zi _,Tx,fun _=>⟨I,fun i _ h=>absurd h (ZW i)⟩,fun h=>by cases h⟩
   case hs1=>exact cB
   case ht=>exact qv
  rintro ⟨k,p2,f2,fl⟩ ⟨hk,Oy,Si,Ep⟩;dsimp only at hk Oy Si Ep ⊢;by_cases aN:k<(r.po.filter f).length
  ·refine Jr<|JA I<|Jn<|Jq<|Jd I fun aA=>Jk<|Jq<|J0<|Jr ?_;refine dP (E:=188) (sz:=3) (v:=.slice ca (r.po.filter f).length cc) fx (by omega) fun g il cur e oX G1 Ei xV=>?_;cases e;have c1:=T1 aN cur
   (refine ab (aC (.of I) (.of I) I (by omega) aA bu) I ?_;refine ab (bL (.of I) .here c1 I) I ?_;refine Jz I I fun _ _=>aq (.of I) (.of I) .here I I (fc I I I) (bF I) an ?_;refine Jn<|Jq ?_)
   generalize Bq:(r.po.filter f)[k].lv=pv;generalize om:(r.po.filter f)[k].ou=po;generalize Mq:(r.po.filter f)[k].ip=pi;have Sl:∀ w',RR w' (r.wp (r.po.filter f2)) s d t p2->ao T_ 155 [.agg #[.q r.lv,.q r.ma,s,d,t,p2],.string po] w' (.q (br (bY r) po)):=fun w' h=>fw (r:=r.wp (r.po.filter f2)) po h
   have hu0:∀ w',RR w' (r.wp (r.po.filter f2)) s d t p2->ao T_ 239 [.agg #[.q r.lv,.q r.ma,s,d,t,p2],.q pv,.string po] w' (.bool (nS (r.po.filter f2) pv po)):=fun w' h=>HM (r:=r.wp (r.po.filter f2)) pv po h
   with_reducible refine eP 18 (by kernel_rfl) ?_
   (refine mZ I I<|aM (ee (.of I)) I<|aM (cN bO) I<|pZ I I ae<|aM (ic .here) I<|fQ bo I (fun w' az=>(Sl w' (RR.wp (df az c6 I) (di az dF I) (dd az fx I) (c7 az qY I))))<|aM (oF (.of I) (.of I)) I<|mZ I I<|dT I I (fun hg bG=>(aL (.of I))) I<|dT I I (fun hg bG=>(ee (.bX hg I))) I<|dT I I (fun hg bG=>(bL (.bX hg I) bO an (by rfl))) I<|dT I I (fun hg bG=>(ai (.of I) ae)) I<|dT I I (fun hg bG=>(ag (.bX hg I) (At.lit .here I))) I<|dT I I (fun hg bG=>(ai (.of I) ae)) I<|dT I I (fun hg bG=>(ag (.bX hg I) (At.lit .here I))) I<|xh I I (fun hg=>(a8 (.of I) (.cons (.bX hg I) (.cons (.bX hg I) (.cons (.bX hg I) .nil))) inferInstance gF)) I (fun hg w' az=>(hu0 w' (RR.wp (df az c6 I) (di az dF I) (dd az fx I) (c7 az qY I))))<|dT I I (fun hg bG=>(fC (.bX hg I))) I<|aM (cE (.of I) I) I ?_)
   with_reducible refine eU ?_
   (refine Jn<|oq I (fun aA=>?_) fun aA=>?_;refine Jr<|Jv I<|bN I I ae<|JL I .here I<|bN I I ae<|JL I .here I ?_;rotate_left;refine Jw<|Jj<|Jt<|Jg<|JB I (by omega)<|Jv I<|Jn ?_;rotate_right)
   ·obtain ⟨WZ,XI⟩:br (bY r) po<0/\nS (r.po.filter f2) pv po=false:=by simpa using aA
    with_reducible apply fW (As:=[JP b r s d t p2,row 188 3 p2 (r.po.filter f2).length (jb (r.po.filter f2))])
    case hr=>exact ek
    case hd=>rfl
    case ht=>exact .cons bO (.cons fx .nil)
    case hc=>
     intro w1 Bx aY wm hs1 Dm kY;exact yq (r:=r) (s:=s) (d:=d) (t:=t) (p:=p2) (b:=b) (l:=r.po.filter f2) pv po wm hs1 (by have:=Z5 f2 r.po;omega)
    intro p3 _;dsimp only [id_eq,Zb,Za];unfold RB PB;rw [tZ];refine Jn<|Jg<|Ja I<|Jx<|Jj<|Jt<|Jg<|JB I (by omega)<|Jv I<|Jn ?_;refine dq (E:=188) (sz:=3) (g:=g) c6 oX G1 Ei xV ?_;apply aI (k+1,p3,(fun x=>f2 x&&!yX pv po x),true) ⟨by show k+1<=_;omega,Oy.step (cm.1 WZ) (fun q hq hf e=>by
     have:=zM.2 ⟨q,ZA.2 ⟨hq,hf⟩,e⟩;rw [XI] at this;cases this),(fun h=>by cases h),fun _=>by
      show (r.po.filter fun x=>f2 x&&!yX pv po x).length<_
      rw [<- tZ];cases fl with
      | true=>exact Nat.lt_of_le_of_lt (Z5 _ _) (Ep rfl)
      | false =>
       obtain ⟨rfl,_⟩:=Si rfl;refine List.length_filter_lt_length_iff_exists.2 ⟨_,Zj aN,?_⟩;unfold yX;rw [Bq,om];simp⟩ (by show (r.po.filter f).length-(k+1)<(r.po.filter f).length-k;omega)
    case hs1=>exact cB
    case ht=>exact qv
   ·have Tw:¬ (decide (br (bY r) po<0)&&!nS (r.po.filter f2) pv po)=true:=by
     simp only [Zm,decide_eq_true_eq,ZaP,not_and,Bool.not_eq_false] at aA ⊢;exact fun c=>aA.resolve_left (fun q=>q c)
    refine dq (E:=188) (sz:=3) (g:=g) (by exact Take.there .here) oX G1 Ei xV ?_;apply aI (k+1,p2,f2,fl) ⟨by show k+1<=_;omega,Oy,(fun h=>⟨(Si h).1,fun i hi WT=>by
     by_cases e:i=k
     ·subst e;rw [Bq,om];obtain ⟨e1,_⟩:=Si h;rw [e1] at Tw;by_cases c:br (bY r) po<0
      ·right
       cases c2:nS (r.po.filter f) pv po with
       | true=>rfl
       | false=>exact absurd (show (decide (br (bY r) po<0)&&!nS (r.po.filter f) pv po)=true by rw [c2,decide_eq_true c];rfl) Tw
      ·exact .inl (Classical.byContradiction fun q=>c (cm.2 q))
     ·exact (Si h).2 i hi (show i<k by have:i<k+1:=WT;omega)⟩),Ep⟩ (by show (r.po.filter f).length-(k+1)<(r.po.filter f).length-k;omega)
    case hs1=>exact cB
    case ht=>exact .cons bO (.cons bO (.cons bO (.cons bO (.cons bO (.h1 .nil)))))
  ·have e:k=(r.po.filter f).length:=by omega
   subst e;refine Jr<|JA I<|Jn<|Jq<|Jc I fun aA=>Jp<|Jl<|Jo<|Jj<|Jt ?_;apply aI (p2,f2,fl) ⟨Oy,fun h q hq hf=>by
    obtain ⟨rfl,h2⟩:=Si h;obtain ⟨i,hi,rfl⟩:=Zu (ZA.2 ⟨hq,hf⟩);rcases h2 i hi hi with e | e
    ·exact .inl e
    ·obtain ⟨q',xA,e'⟩:=zM.1 e;obtain ⟨x1,x2⟩:=ZA.1 xA;exact .inr ⟨q',x1,x2,e'⟩⟩ (by
    show 2*(r.po.filter f2).length+(if fl then 1 else 0)<2*(r.po.filter f).length+(if true then 1 else 0)
    cases fl with
    | true=>have:=Ep rfl;simp only [if_true];omega
    | false=>rw [(Si rfl).1];simp)
   case hs1=>exact cB
   case ht=>exact qv
end Go.Proofs.A1
namespace Go.SL
open Go
section
variable {P:Program} {r:Option Nat} {c:Cx} {D:List Nat} {sl:aD} {hs hs' hs2:List bh} {Q:Exit->Act->World->Prop} {ops:Array Oper} {d:Nat} {dst:Option Tmp} {ty:TypeId} {pos:String} {af:Array Edge} {g:Option (Nat×Bool)} {rest:List Oper} {κ:Type} [DecidableEq κ] {kv:κ->Value}
theorem Gt {X:Act->World->Prop} {b:Nat} {l:List (κ×Value)} (ht:Take hs (mp kv b l) hs') (k:∀ es ck,JX kv l es ck->Tr c D sl (bA b (.map es ck)::hs') X):Tr c D sl hs X:=fun a w bj=>by
 have hm:=bj.mem.take (ht.append _);obtain ⟨kk,fp,hn,⟨f1,f2,rfl,⟨e,es,ck,h1,h2⟩,h3⟩,Ep⟩:=hm;exact k es ck h2 a w (bj.heap ⟨kk,f1++f2,hn,⟨f1,f2,I,⟨e,h1⟩,h3⟩,Ep⟩)
end
end Go.SL
namespace Go.Proofs.A1
open Go Go.SL
open Tryz
open Tryz renaming prog->T_
theorem C4 {r:Ro} {v:Int} {i:Nat}:∀ {q:List Nat} {po:List Po} {x:ByteArray},qT r v po x (q++[i])=(if ib (qT r v po x q).1 v (eY r i) then (qT r v po x q).1 else (qT r v po x q).1++[⟨v,eY r i,(qT r v po x q).2⟩],eY r i)
 | [],po,x=>rfl
 | j :: q, po, x => by
  rw [Zb,qT,qT];exact C4
theorem Be {r:Ro} {v:Int}:∀ (q:List Nat) (po:List Po) (x:ByteArray),(qT r v po x q).1.length<=po.length+q.length
 | [],po,x=>ZC _
 | j :: q, po, x => by
  rw [qT];refine ZZ (Be q _ _) ?_;rw [ZL];split
  ·omega
  ·rw [Zg,Zbj];omega
theorem Ge {r:Ro} {v:Int}:∀ (q:List Nat) (po:List Po) (x:ByteArray),(∀ i∈q,i<r.ti.length)->(∀ p∈po,p.ou∈bY r\/p.ou∈ct r)->∀ p∈(qT r v po x q).1,p.ou∈bY r\/p.ou∈ct r
 | [],po,x,_,h=>h
 | j :: q, po, x, hi, h => by
  rw [qT];refine Ge q _ _ (fun i xX=>hi i (ZT _ xX)) fun p hp=>?_;split at hp
  ·exact h p hp
  ·rcases Zq.1 hp with hp | hp
   ·exact h p hp
   ·rw [ZB.1 hp];exact .inr (pC (hi j Zp))
variable {i:Nat} {l:List Ti}
theorem TM (h:i<l.length) (cur:List Value):eu (nN l++cur) (i*3) 3=[.string l[i].nm,.q l[i].fr,.q l[i].to]:=r5 (f:=Ti.cells) (fun _=>rfl) h cur
theorem QE (h:i<l.length) (cur:List Value):(nN l++cur)[i*3]? = some (.string l[i].nm):=by
 have:=ug (cs:=nN l++cur) (o:=i*3) (n:=3) (j:=0) (by omega);rw [TM h cur,Zay] at this;exact this.symm
theorem Fq (l:List Po) (q:Po):jb (l++[q])=jb l++[.q q.lv,.string q.ou,.string q.ip]:=by
 unfold jb sq;simp [Po.cells]
theorem Q5 {r:Ro} {x y:Po}:Q6 r x y<0↔oM r x y=true:=by
 rw [uO];unfold oM;simp
set_option maxHeartbeats 2000000 in
theorem TO {r:Ro} {s d t p:Value} {b:Nat} {po:List Po} {xv:Value} {xp:List Nat} (xf:Nat) (v:Int) (so de:ByteArray) {w:World} {fp:List Nat} (jX:fp.Nodup) (hs:cA (hp w) [RB b r s d t p,J1 r s,J2 r d,J3 r t,PB p po,row 3 1 xv xp.length (fY xp)] fp)
  (cJ:me r) (X9:po.length<=1000) (hxf:xp.length<=100) (hd:Dq r) (hi:∀ i∈xp,i<r.ti.length) (G0:∀ q∈po,q.ou∈bY r\/q.ou∈ct r) (lp:de∈bY r) (hV:(lL r po v so xp de).Pairwise (fun a b=>oM r a b=true)) :
  bB T_ 258 [.p b,.q v,.string so,.agg #[xv,.q (xf:Nat)],.string de] w fp (fun _:Value=>True) (fun _=>.tuple #[]) (fun p'=>[RB b r s d t p',J1 r s,J2 r d,J3 r t,PB p' (lL r po v so xp de),row 3 1 xv xp.length (fY xp)]):=by
 unfold RB PB at *;refine er func258 I I jX hs ?_;refine aT (v:=xv) fx fun xa xc e=>?_;subst e;refine aT (v:=t) c6 fun ta tc e=>?_;subst e;refine aT (v:=p) dF fun pa pc e=>?_;subst e
 (refine Jr<|Jy I I fun _ _=>Ji<|Jv I<|Ja I<|Jn<|Jq<|Jr<|bN I I ae<|JL I .here I<|JI I<|Jv I<|Jn<|J0 ?_)
 rename_i b8 hb8
 refine bd (ι:=Nat×Value) (fun y=>y.1<=xp.length) (fun y=>[(19,.q (y.1:Nat)),(18,.q (xp.length:Nat)),(17,.slice xa xp.length xc),(10,.string (qT r v po so (xp.take y.1)).2),(0,.p b),(1,.q v),(4,.string de)])
  (fun y=>[JP b r s d (.slice ta r.ti.length tc) (y.2),J1 r s,J2 r d,row 187 3 (.slice ta r.ti.length tc) r.ti.length (nN r.ti),row 188 3 y.2 (qT r v po so (xp.take y.1)).1.length (jb (qT r v po so (xp.take y.1)).1),row 3 1 (.slice xa xp.length xc) xp.length (fY xp)]) (fun y=>xp.length-y.1) ?_ ?_
 ·apply aJ (0,.slice pa po.length pc) (Zi _)
  case hs1=>
   show lH _ [(19,.q (0:Nat)),(18,.q (xp.length:Nat)),(17,.slice xa xp.length xc),(10,.string so),(0,.p b),(1,.q v),(4,.string de)];exact .cons I (.cons I (.cons I (.cons I (.cons I (.cons I (.cons I .nil))))))
  case ht=>
   exact .cons (.there .here) (.cons (.there .here) (.cons (.there .here) (.cons (.there .here) (.cons (.there .here) (.cons (.there .here) .nil)))))
 rintro ⟨k,pv⟩ hk;dsimp only at hk ⊢;have Ox:=Be (r:=r) (v:=v) (xp.take k) po so;rw [Zs] at Ox;by_cases aN:k<xp.length
 ·have rO:qT r v po so (xp.take (k+1))=(if ib (qT r v po so (xp.take k)).1 v (eY r xp[k]) then (qT r v po so (xp.take k)).1 else (qT r v po so (xp.take k)).1++[⟨v,eY r xp[k],(qT r v po so (xp.take k)).2⟩],eY r xp[k]):=by
   rw [Zn aN,C4]
  have WS:=hi _ (Zj aN);have uV:eY r xp[k]=(r.ti[xp[k]]).nm:=by unfold eY;rw [iG WS]
  generalize qT r v po so (xp.take k)=A at rO Ox ⊢;obtain ⟨q,la⟩:=A;dsimp only at rO Ox ⊢;refine aT (E:=188) (sz:=3) (v:=pv) dF fun va vc e=>?_;subst e;refine Jr<|JA I<|Jn<|Jq<|Jd I fun aA=>Jk<|Jq<|J0<|Jr ?_;refine dP (E:=3) (sz:=1) (v:=.slice xa xp.length xc) fx (by omega) fun g1 c1 u1 e kM aY hz1 UZ=>?_;cases e;have a1:=Co aN u1;generalize hxk:xp[k]=ik at *
  (refine ab (aC (.of I) (.of I) I (by omega) aA bu) I ?_;refine ab (ag (.of I) (At.pj .here a1)) I ?_;refine Ja I<|Ji<|Jv I<|ab (ee (.of I)) I ?_;refine bN I I ae ?_;refine JL I (.there .here) I<|Jv I ?_)
  refine dP (E:=187) (sz:=3) (v:=.slice ta r.ti.length tc) dF (by omega) fun g2 c2 u2 e jT mr hz2 FJ=>?_;cases e;have a2:=QE WS u2;rw [<- uV] at a2
  (refine ab (aC (.of I) (.of I) I (by omega) (by omega) bu) I<|bN I I ae<|ab (ag (.of I) (At.pj .here a2)) I<|Ja I<|Jn<|Jq<|Jr<|Jv I<|ab (ee (.of I)) I<|ab (cN bO) I<|Jv I<|Jv I ?_)
  refine dq (E:=187) (sz:=3) (g:=g2) (by exact .here) jT mr hz2 FJ ?_;refine dq (E:=3) (sz:=1) (g:=g1) (by exact Take.there .here) kM aY hz1 UZ ?_;refine aj ek I (fun w' az=>ph (r:=r.wp q) v (eY r ik) (RR.wp (df az c6 I) (di az dF I) (dd az (by exact Take.there .here) I) (c7 az fx I))) ?_;have lN:ib (r.wp q).po v (eY r ik)=ib q v (eY r ik):=rfl;rw [lN];have Tp:(jb q).length=q.length*3:=jz q;cases tW:ib q v (eY r ik) with
  | false =>
   rw [tW,if_neg (by decide)] at rO;have Yb:jb (q++[⟨v,eY r ik,la⟩])=jb q++[.q v,.string (eY r ik),.string la]:=Fq _ _;have Bq:(q++[(⟨v,eY r ik,la⟩:Po)]).length=q.length+1:=by simp
   (refine JH I<|Jn<|ch (.of I)<|Jg<|Jv I<|Jv I<|ab (ee (.of I)) I<|bN I I ae<|JL I bO I<|Jv I<|Jv I<|Jv I<|ab (aX (.o I (.o I (.o I .nil))) an) I<|bn (bD (.o I .nil) I I bV bV an) I fun _ _=>?_)
   refine bH (.of I) (.of I) qY .here an (by rfl) (fc I I I) (by rfl) (by rfl) (by rfl) eC (by rfl) ?_;intro v';refine aT (by exact .here) fun a' il e=>?_;subst e
   (refine ab (ee (.of I)) I<|bN I I ae<|aq (.of I) (.of I) dF I I (dG I) (bF I) an<|Jn<|Jg<|Jv I<|Ja I<|Jx<|Jj<|Jt<|Jg<|JB I (by omega)<|Jv I<|Jn ?_)
   apply aI (k+1,.slice a' (q.length+1) il) (by show k+1<=_;omega) (by show xp.length-(k+1)<xp.length-k;omega)
   case hs1=>
    dsimp only;rw [rO];exact .cons I (.cons I (.cons I (.cons I (.cons I (.cons I (.cons I .nil))))))
   case ht=>
    dsimp only;rw [rO];dsimp only;rw [Bq,Yb];exact .h1 (.cons dF (.cons dF (.cons c6 (.h1 (.cons (.there .here) .nil)))))
  | true =>
   rw [tW,if_pos I] at rO
   (refine JH I<|Jn<|bJ (.of I)<|Jk<|Jg<|Jv I<|Ja I<|Jx<|Jj<|Jt<|Jg<|JB I (by omega)<|Jv I<|Jn ?_)
   apply aI (k+1,.slice va q.length vc) (by show k+1<=_;omega) (by show xp.length-(k+1)<xp.length-k;omega)
   case hs1=>
    dsimp only;rw [rO];exact .cons I (.cons I (.cons I (.cons I (.cons I (.cons I (.cons I .nil))))))
   case ht=>
    dsimp only;rw [rO];exact .cons bO (.cons bO (.cons bO (.cons (.there .here) (.cons (.there .here) (.h1 .nil)))))
 ·have e:k=xp.length:=by omega
  subst e;rw [ZN] at *;refine aT (E:=188) (sz:=3) (v:=pv) dF fun va vc e=>?_;subst e
  (refine Jr<|JA I<|Jn<|Jq<|Jc I fun aA=>Jp<|Jl<|Jo<|Jt<|Jr<|Jv I<|Jv I<|ab (ee (.of I)) I<|bN I I ae<|JL I .here I<|Jv I<|Jv I<|Jv I<|ab (aX (.o I (.o I (.o I .nil))) an) I<|bn (bD (.o I .nil) I I bV bV an) I fun _ _=>?_)
  refine bH (.of I) (.of I) fx .here an (by rfl) (fc I I I) (by rfl) (by rfl) (by rfl) eC (by rfl) ?_;intro v';refine aT (by exact .here) fun a' il e=>?_;subst e
  (refine ab (ee (.of I)) I<|bN I I ae<|aq (.of I) (.of I) bO I I (dG I) (bF I) an<|Ji<|Jv I<|ab (ee (.of I)) I<|ab (cN .here) I ?_)
  have hAo:=Ge (r:=r) (v:=v) xp po so hi G0;have mq:∀ S:List Po,S.Perm ((qT r v po so xp).1++[⟨v,de,(qT r v po so xp).2⟩])->S.Pairwise (fun a b=>¬ Q6 r b a<0)->S=lL r po v so xp de:=fun S h1 h2=>Io hV h1 (h2.imp fun h=>fun c=>h (Q5.2 c))
  have afX:=Be (r:=r) (v:=v) xp po so;generalize qT r v po so xp=A at *;obtain ⟨q,la⟩:=A;dsimp only at *;have Yb:jb (q++[⟨v,de,la⟩])=jb q++[.int .i64 v,.string de,.string la]:=Fq _ _;have Bq:(q++[(⟨v,de,la⟩:Po)]).length=q.length+1:=by simp
  rw [<- Yb,<- Bq];have iV:∀ y∈q++[(⟨v,de,la⟩:Po)],fy (cY r) y.ou=true:=fun y hy=>by
   rw [dN];rcases Zq.1 hy with hy | hy
   ·exact LP ((hAo y hy).elim (fun e=>.inr (.inl e)) fun e=>.inr (.inr e))
   ·rw [ZB.1 hy];exact LP (.inr (.inl lp))
  have hlen:(q++[(⟨v,de,la⟩:Po)]).length<=100000:=by omega
  generalize q++[(⟨v,de,la⟩:Po)]=L at *;refine JN bS I (fun w1 aY=>Fp (r:=r.wp L) (RR.wp (df aY c6 I) (di aY dF I) (dd aY fx I) (c7 aY (by exact Take.there .here) I)) (by have:=cJ;unfold me at this;show r.de.length+r.ti.length<=_;omega)) ?_;intro bm _;dsimp only [id_eq,Zb,Za];rw [show oI (r.wp L)=oI r from I]
  (refine Jz I I fun _ _=>aq (.of I) (.of I) .here I I (dG I) (bF I) an<|Jn<|Jg<|Jv I<|ab (ee (.of I)) I<|bN I I ae<|JL I bO I<|ab (bI .nil (.o I .nil)) I ?_)
  rename_i b61 afO Mx afW;refine Gt (b:=bm) (l:=oI r) (kv:=fun s:ByteArray=>Value.string s) (by exact Take.there .here) fun es ck dw=>?_
  with_reducible apply fW (As:=[row 188 3 (.slice a' L.length il) L.length (jb L)])
  case hr=>exact bo
  case hd=>rfl
  case ht=>exact .cons c6 .nil
  case hc=>
   intro w1 Bx aY wm hs1 Dm kY;have h14:Mx ∉ Bx:=kY Mx _ _ (by exact Take.there .here);have Mt:bm ∉ Bx:=kY bm _ _ (by exact .here);have f14:w1.cell? ⟨Mx,0,none⟩=some (.map (some bm)):=At.lit (by exact Take.there .here) I w1 aY;exact Ih (r:=r) (l:=L) hs1 hd iV (by omega) f14 ⟨es,ck,aY.bA (by exact .here),dw⟩ h14 Mt
  rintro S ⟨hSp,Tx⟩;rw [mq S hSp Tx];have hlS:S.length=L.length:=hSp.length_eq;dsimp only [id_eq,Zb,Za];unfold PB;have hzl:(lL r po v so xp de).length=L.length:=by rw [<- mq S hSp Tx];exact hlS
  refine HV ?_
  with_reducible first|apply aP|apply aQ
  case he=>exact qt I
  case hR=>
   intro w' az;exact aF (.slice a' L.length il) trivial (by exact .cons c6 (.cons dF (.cons dF (.cons dF (.h1 (.cons c6 .nil)))))) az I
end Go.Proofs.A1
namespace Go.SL
open Go
theorem l8 {P:Program} {c:Cx} {sl:aD} {hs hs':List bh} {fn:Func} {s t u:Tmp} {T:TypeId} {b o n:Nat} {cs vs:List Value} {E:TypeId} {fz:Nat×Nat} {x y:Value} (h:fn.results=#[.cell t T,.tmp s,.tmp u]) (hT:Ty P T true n) (hp:cW sl t=some (.pointer (some ⟨b,o,none⟩))) (ht:Take hs (SL.bA b (.cells cs.toArray E fz)) hs') (hv:eu cs o n=vs) (hl:vs.length=n) (hx:cW sl s=some x) (hy:cW sl u=some y):Ends P fn c sl hs (.tuple #[.agg vs.toArray,x,y]):=
 P8 (xs:=[.cell t T,.tmp s,.tmp u]) (vs:=[.agg vs.toArray,x,y]) h (HC.cons (RV.cell hp (Kc (eO.bA ht hv) hl)) (HC.cons (RV.tmp hx) (HC.cons (RV.tmp hy) HC.nil))) (by simp)
end Go.SL
namespace Go.Proofs.A1
open Go Go.SL
open Tryz
open Tryz renaming prog->T_
def Kf (r:Ro) (t:Tk):Bool:=(r.de.getD (br (bY r) t.de).toNat ⟨⟨#[]⟩,0,false⟩).pr
variable {w:World} {x:gL}
theorem NQ {r:Ro} {s d t p:Value} {b:Nat} (h:RR w r s d t p) (hA:BR w b (RC r s d t p)) (hx:x.tk.de∈bY r):ao T_ 253 [.agg x.cells.toArray,.p b] w (.bool (Kf r x.tk)):=by
 have h1:=Rd.one h.sr;have h3:=Rd.one h.ti;have h4:=Rd.one h.po;have lp:=h.de;obtain ⟨a3,pb,b3,o3,rfl,mS,gi,sX,qe⟩:=lp;rw [bZ] at *;unfold maxLen at gi;obtain ⟨j0,wz⟩:∃ i:Nat,br (bY r) x.tk.de=(i:Nat):=⟨(br (bY r) x.tk.de).toNat,by have:=cF hx;omega⟩;have xW:j0<r.de.length:=by
  obtain ⟨hl,_⟩:=ei (l:=bY r) (s:=x.tk.de) (by omega);rw [wz,Zy] at hl;unfold bY at hl;rwa [Zd] at hl
 have e0:Kf r x.tk=(r.de[j0]).pr:=by unfold Kf;rw [wz,Zy,Zk,Zc xW];rfl
 have c8:=sX (gI xW);have aG:=(qe j0 _ (fq xW)).2;unfold De.cells at aG;have c2:=aG 2 _ I;have Sl:∀ w',aH [] w w'->ao T_ 155 [.agg #[.q r.lv,.q r.ma,s,.slice a3 r.de.length pb,t,p],.string x.tk.de] w' (.q (j0:Nat)):=fun w' hk=>wz ▸ fw x.tk.de (h.keeps hk)
 have f3:w.cell? ⟨b,3,none⟩=some (.slice a3 r.de.length pb):=hA 3 _ I;have kq:∀ (j:Nat) (u:Value),[Value.int .i64 r.lv,.q r.ma,s,.slice a3 r.de.length pb,t,p][j]? = some u->w.cell? ⟨b,0+j,none⟩=some u:=hA;clear hA;rw [e0];unfold gL.cells;refine ak func253 I I ?_;refine Jr<|Jy I I fun _ _=>Ja I<|Jn<|Jq ?_
 with_reducible refine eP 10 (by kernel_rfl) ?_
 (refine pZ I I ae<|aM (ag (.of I) (At.base f3 I)) I<|aM (iD (eO.base kq I)) I<|pZ I I ae<|aM (ic .here) I<|fQ bo I (fun w' az=>(Sl w' (Mem.keeps az)))<|aM (aC (.of I) (.of I) c8 (by omega) (by omega) bu) I<|pZ I I ae<|aM (ag (.of I) (At.base c2 I)) I<|aM (cd (.of I)) I ?_)
 with_reducible refine eU ?_
 refine Jn<|Je<|JT ?_
 rfl
theorem Ol {r:Ro} {s d t p:Value} {b:Nat} (h:RR w r s d t p) (hA:BR w b (RC r s d t p)) (AM:r.lv<=1000) (cJ:r.ti.length<=1000000):bB T_ 255 [.agg x.cells.toArray,.p b] w [] (fun _:Value=>True) id (fun v=>[row 9 1 v r.lv.toNat (aO (cL r x.tk.de))]):=by
 obtain ⟨h1,h2,h3,h4⟩:=h.one;have kq:∀ (j:Nat) (u:Value),[Value.int .i64 r.lv,.int .i64 r.ma,s,d,t,p][j]? = some u->w.cell? ⟨b,0+j,none⟩=some u:=hA;clear hA;unfold gL.cells;refine aV func255 I I ?_
 (refine Jr<|Jy I I fun _ _=>Ja I<|Ji<|ab (iD (eO.base kq I)) I<|bN I I ae<|JL I .here I ?_)
 refine JN bo I (fun w1 aY=>wE x.tk.de (h.keeps aY.keeps) AM cJ) ?_;intro v _;dsimp only [id_eq,Zb,Za];refine aT (v:=v) (by exact .here) fun va vc e=>?_;subst e;refine Ja I<|Jn<|Je ?_
 with_reducible first|apply aP|apply aQ
 case he=>exact dS I I
 case hR=>
  intro w' az;exact aF (.slice va r.lv.toNat vc) trivial (by exact .h1 .nil) az I
theorem Rx {kv:Value} {l:List gL} {g:gL->List ByteArray} {n:Nat} {f:FuncId} {first cap:List Value} [bQ T_ f] {w:World} (h:Rd w kv 2 (jQ l)) (hM:xF w l) (hn:l.length<=1000) (hg:∀ x∈l,(g x).length=n)
  (cG:∀ x∈l,∀ w',aH [] w w'->bB T_ f (first++[.agg x.cells.toArray]++cap) w' [] (fun _:Value=>True) id (fun v=>[row 9 1 v n (aO (g x))])) :
  bB T_ 254 [kv,.func (.func f) first.toArray cap.toArray] w [] (fun x:Value×List Value=>x.2.length=l.length) (fun x=>x.1) (fun x=>[row 32 1 x.1 l.length x.2,nu 9 x.2 (l.map fun y=>aO (g y))]):=by
 obtain ⟨a,cp,b,o,rfl,dD,cr,ha,hc⟩:=h;rw [e9] at *;unfold maxLen at cr;refine aV func254 I I ?_;refine Jr<|Ja I<|Ji<|Ja I<|Jn<|Jq<|Jr<|Jv I<|JI I<|Jv I<|Jn<|J0 ?_;refine aR 32 1 ?_;refine lj 9 ?_
 refine bd (ι:=Nat×Value×List Value) (fun x=>x.1<=l.length/\x.2.2.length=x.1) (fun x=>[(10,.q (x.1:Nat)),(9,.q (l.length:Nat)),(8,.slice a l.length cp),(5,x.2.1),(1,.func (.func f) first.toArray cap.toArray)])
  (fun x=>[row 32 1 x.2.1 x.1 x.2.2,nu 9 x.2.2 ((l.take x.1).map fun y=>aO (g y))]) (fun x=>l.length-x.1) ?_ ?_
 ·apply aJ (0,.z,[]) ⟨Zi _,I⟩
  case hs1=>exact cB
  case ht=>
   exact .cons (.there .here) (.h1 .nil)
 rintro ⟨k,v,vs⟩ ⟨hk,oS⟩;dsimp only at hk oS ⊢;by_cases aN:k<l.length
 ·have c8:=ha (np aN);have aG:=(hc k _ (kR aN)).2;have iE:=cG _ (Zj aN);have Sh:=hg _ (Zj aN);have jc:=Rd.one (hM _ (Zj aN));have htk:(l.take (k+1)).map (fun y=>aO (g y))=((l.take k).map fun y=>aO (g y))++[aO (g l[k])]:=by
   rw [Zn aN,Zz];rfl
  have su:((l.take k).map fun y=>aO (g y)).length=k:=by rw [Zd,Zs];omega
  unfold gL.cells at aG iE;refine aT (E:=32) (sz:=1) (v:=v) (by exact .here) fun va vc e=>?_;subst e
  (refine Jr<|JA I<|Jn<|Jq<|Jd I fun aA=>Jk<|Jq<|J0<|Jr<|ab (gr c8 aA) I<|ab (iD (eO.base aG I)) I<|Jz I I fun _ _=>aq (.of I) (.of I) .here I I (gK I jc) (bF I) an<|Jn<|Jg<|Jv I<|Jv I<|ab (cN .here) I ?_)
  refine JN bS I (fun w1 aY=>iE w1 aY.keeps) ?_;intro hv _;dsimp only [id_eq,Zb,Za];refine aT (E:=9) (sz:=1) (v:=hv) (by exact .here) fun js jT e=>?_;subst e;refine bn (aB (.o I .nil) I I I I) I (fun _ _=>?_);refine bH (.of I) (.of I) c6 .here an (by rfl) (dG I) (by rfl) (by rfl) (by rfl) eC (by rfl) ?_;intro v';refine Ja I<|Jx<|Jj<|Jt<|Jg<|JB I (by omega)<|Jv I<|Jn ?_;refine nj (E:=9) (vs:=vs) (v:=.slice js n jT) (x:=aO (g l[k])) dF bO (by rw [dj,Sh]) (by rw [su,oS]) ?_;apply aI (k+1,v',vs++[.slice js n jT]) ⟨by show k+1<=_;omega,by rw [Zg,oS];rfl⟩ (by show l.length-(k+1)<l.length-k;omega)
  case hs1=>exact cB
  case ht=>
   dsimp only;rw [htk];exact .cons (.there .here) (.h1 .nil)
 ·have e:k=l.length:=by omega
  subst e;rw [ZN] at *;refine aT (E:=32) (sz:=1) (v:=v) (by exact .here) fun va vc e=>?_;subst e;refine Jr<|JA I<|Jn<|Jq<|Jc I fun aA=>Jp<|Jl<|Jo<|Jt<|Jr<|Jv I<|Ja I<|Jn<|Je ?_
  with_reducible first|apply aP|apply aQ
  case he=>exact dS I I
  case hR=>
   intro w' az;exact aF (.slice va l.length vc,vs) oS (by exact .h2 .nil) az I
theorem qC {r:Ro} (h:qX r) {s:ByteArray} (hs:s∈bY r\/s∈ct r):0<=dY r s/\dY r s<14:=by
 have hl:=h.len;have l1:(bY r).length=r.de.length:=by unfold bY;rw [Zd]
 have l2:(ct r).length=r.ti.length:=by unfold ct;rw [Zd]
 rw [Au hs];by_cases c:s∈bY r
 ·have:=cF c;have:=td this;rw [if_pos (by omega)];omega
 ·have h2:=cm.2 c;have h3:=cF (hs.resolve_left c);have:=td h3;rw [if_neg (by omega)];omega
theorem ni {r:Ro} (h:qX r) {q:List Po} (hq:gV r q):q.length<=42:=by
 have hl:=h.lim;have key:∀ p∈q,0<=p.lv*14+dY r p.ou/\p.lv*14+dY r p.ou<42:=fun p hp=>by
  have:=qC h (hq.out p hp);have:=hq.Kd p hp;omega
 have:=lf 42 (q.map fun p=>(p.lv*14+dY r p.ou).toNat) (by
  unfold List.Nodup;rw [Zbq];refine (List.Pairwise.and_mem.1 hq.qZ).imp fun {a b} ⟨ha,hb,PQ⟩ e=>?_;have:=key a ha;have:=key b hb;have:=qC h (hq.out a ha);have:=qC h (hq.out b hb);unfold oM at PQ;simp only [ZP,Zm,decide_eq_true_eq] at PQ;omega) (fun x hx=>by
  obtain ⟨p,hp,rfl⟩:=Zw.1 hx;have:=key p hp;omega)
 rwa [Zd] at this
theorem Iq {r:Ro} (h:qX r) {po:List Po} {v:Int} {s d:ByteArray} (hv:0<=v/\v<r.lv) (om:gV r po) (hs:s∈cz r) (lp:d∈bY r) (fu:eJ po v d=none) {p:List Nat} (hp:(eh r po v s).least (gQ r d) p):gV r (lL r po v s p d):=
 (Ip h.tL h.nd hv om hs lp fu hp.1 (hp.2.1.trans (Lj lp).symm)).1
end Go.Proofs.A1
namespace Go.SL
open Go
def rr (E:TypeId) (vs:List Value) (xs:List (List Value)) (j:Nat):bh:=Mb (gz E (vs.take j) (xs.take j))
def rq (E:TypeId) (vs:List Value) (xs:List (List Value)) (j:Nat):bh:=Mb (gz E (vs.drop (j+1)) (xs.drop (j+1)))
theorem oJ {E:TypeId} {v:Value} {x:List Value}:∀ {vs:List Value} {xs:List (List Value)} {j:Nat},vs[j]? = some v->xs[j]? = some x->gz E vs xs=gz E (vs.take j) (xs.take j)++row E 1 v x.length x::gz E (vs.drop (j+1)) (xs.drop (j+1))
 | [],_,j,h,_=>by simp at h
 | _::_,[],j,_,h=>by simp at h
 | v' :: vs, x' :: xs, 0, h1, h2 => by
  simp only [Zaz,Option.some.injEq] at h1 h2;subst h1 h2
  rfl
 | v' :: vs, x' :: xs, j + 1, h1, h2 => by
  simp only [Zba] at h1 h2;show row E 1 v' x'.length x'::gz E vs xs=row E 1 v' x'.length x'::(gz E (vs.take j) (xs.take j)++_);rw [oJ h1 h2];rfl
theorem yF:∀ (l:List bh) (A:bh) (m:List bh),Take (l++A::m) A (l++m)
 | [],_,_=>.here
 | _::l,A,m=>.there (yF l A m)
theorem pF:∀ (P l m:List bh),bK (P++(l++m)) l (P++m)
 | _,[],_=>.nil
 | P,A::l,m=>.cons (yF P A (l++m)) (pF P l m)
section
variable {P:Program} {c:Cx} {D:List Nat} {sl:aD} {hs hs':List bh} {X:Act->World->Prop}
variable {v:Value} {vs x:List Value} {xs:List (List Value)}
theorem vi {E:TypeId} {n j:Nat} (ht:Take hs (nu E vs xs) hs') (hv:vs[j]? = some v) (hx:xs[j]? = some x) (hn:x.length=n)
  (k:Tr c D sl (row E 1 v n x::rr E vs xs j::rq E vs xs j::hs') X):Tr c D sl hs X:=by
 subst hn;refine yy (As:=gz E vs xs) ht ?_;rw [oJ hv hx,Zh];refine sE (As:=gz E (vs.take j) (xs.take j)) (pF [] _ _) ?_;refine sE (As:=gz E (vs.drop (j+1)) (xs.drop (j+1))) (hs':=Mb (gz E (vs.take j) (xs.take j))::row E 1 v x.length x::hs') (pF [_,_] _ _) ?_;intro a w bj;have hT:bK (Mb (gz E (vs.drop (j+1)) (xs.drop (j+1)))::Mb (gz E (vs.take j) (xs.take j))::row E 1 v x.length x::hs') [row E 1 v x.length x,rr E vs xs j,rq E vs xs j] hs':=.cons (.there (.there .here)) (.cons (.there .here) (.h1 .nil));have hm:=bj.mem.jo (hT.append (mN D));exact k a w (bj.heap hm)
theorem yA {E:TypeId} {n:Nat} (j:Nat) {h1 h2:List bh} (ht:Take hs (rr E vs xs j) h1) (ht2:Take h1 (rq E vs xs j) h2) (ht3:Take h2 (row E 1 v n x) hs') (hv:vs[j]? = some v) (hx:xs[j]? = some x) (hn:x.length=n)
  (k:Tr c D sl (nu E vs xs::hs') X):Tr c D sl hs X:=fun a w bj=>by
 subst hn;have hT:bK hs [rr E vs xs j,rq E vs xs j,row E 1 v x.length x] hs':=.cons ht (.cons ht2 (.cons ht3 .nil));have hT2:bK ([rr E vs xs j,rq E vs xs j,row E 1 v x.length x]++(hs'++mN D)) [rr E vs xs j,row E 1 v x.length x,rq E vs xs j] (hs'++mN D):=.h1 (.cons (.there .here) (.h1 .nil));have hm:=(bj.mem.jo (hT.append (mN D))).jo hT2;obtain ⟨kk,fp,uW,⟨f1,f2',rfl,g1,⟨f2,f3',rfl,g2,⟨f3,f4,rfl,g3,g4⟩⟩⟩,hb⟩:=hm;refine k a w (bj.heap ⟨kk,(f1++(f2++f3))++f4,by simpa only [Zh] using uW,⟨f1++(f2++f3),f4,I,?_,g4⟩,by simpa only [Zh] using hb⟩);show cA (hp w) (gz E vs xs) _;rw [oJ hv hx];exact cA.append_iff.2 ⟨f1,f2++f3,I,g1,⟨f2,f3,I,g2,g3⟩⟩
end
attribute [irreducible] rr rq
end Go.SL
namespace Go.Proofs.A1
open Go Go.SL
open Tryz
open Tryz renaming prog->T_
theorem Kq {α β:Type} (f:α->β) (p:β->Bool) (l:List α):gH p (l.map f)=gH (fun x=>p (f x)) l:=by
 unfold gH;rw [Zd];congr 1;congr 1;funext i;rw [ZJ,Option.map_map];rfl
theorem Kb (r:Ro) (l:List gL):rI r (du l)=gH (fun x:gL=>Kf r x.tk) l:=by
 unfold rI du;rw [Kq];rfl
def kC (r:Ro) (x:Value×Value×Value×Value):List bh:=[J1 r x.1,J2 r x.2.1,J3 r x.2.2.1,PB x.2.2.2 r.po]
theorem Gw {c:Cx} {D:List Nat} {sl:aD} {hs hs':List bh} {X:Act->World->Prop} {kI:List Wy} {xv:Value} {xp:List Nat} {xf:Nat} (hx:(⟨xv,xp,xf⟩:Wy)∈kI\/(⟨xv,xp,xf⟩:Wy)=⟨.z,[],0⟩) (ht:Take hs (iN kI) hs')
  (k:∀ nZ,Tr c D sl (row 3 1 xv xp.length (fY xp)::iN nZ::hs') X):Tr c D sl hs X:=by
 rcases hx with hx | hx
 ·refine vk hx ht fun nZ _=>?_;intro a w bj;have hT:bK (iN nZ::row 3 1 xv xp.length (fY xp)::hs') [row 3 1 xv xp.length (fY xp),iN nZ] hs':=.cons (.there .here) (.h1 .nil);have GX:St c D sl (iN nZ::row 3 1 xv xp.length (fY xp)::hs') a w:=bj;have hm:=GX.mem.jo (hT.append (mN D));exact k nZ a w (bj.heap hm)
 ·cases hx;refine aR 3 1 ?_;intro a w bj;have hT:bK (row 3 1 (.z) 0 []::hs) [row 3 1 (.z) 0 [],iN kI] hs':=.h1 (.cons ht .nil);have hm:=bj.mem.jo (hT.append (mN D));exact k kI a w (bj.heap hm)
variable {l:List gL} {w:World}
set_option maxHeartbeats 4000000 in
theorem Fb {r:Ro} {s d t p kv:Value} (h:RR w r s d t p) (dw:qX r) (X9:r.po.length<=500) (hw:Rd w kv 2 (jQ l)) (hM:xF w l) (hT:HB r (du l)) :
  bB T_ 165 [RA r s d t p,kv] w [] (fun _:Value×Value×Value×Value=>True) (fun x=>.tuple #[RA (kg r (du l)).1 x.1 x.2.1 x.2.2.1 x.2.2.2,.q (kg r (du l)).2.1,.q (kg r (du l)).2.2]) (fun x=>kC (kg r (du l)).1 x):=by
 have AM:=dw.lim;have AN:=dw.len;have cJ:me r:=by unfold me;omega
 have UY:=hT.Ez;unfold du at UY;rw [Zd] at UY;obtain ⟨h1,h2,h3,h4⟩:=h.one;have Bp:=hw;obtain ⟨a,cp,b,o,rfl,dD,cr,ha,hc⟩:=hw;rw [e9] at *;unfold maxLen at cr;have KJ:=Kb r l;unfold RA;refine aV func165 I I ?_;refine Jr<|Jy I I fun _ _=>Jz I I fun _ _=>Ja I<|Ja I<|Ji<|Jv I<|ab (bI .nil (.o I .nil)) I ?_;rename_i b2 tX b4 xB
 with_reducible apply aj
 case hr=>exact bo
 case hd=>rfl
 case hc=>
  intro w' az;have hA:BR w' b2 [.q r.lv,.q r.ma,s,d,t,p]:=BR.of az (by exact Take.there .here);have hR:=h.keeps az.keeps;exact FF (f:=253) (p:=fun x:gL=>Kf r x.tk) (first:=[]) (cap:=[.p b2]) (Bp.keeps az.keeps) (fun x hx w2 eL=>NQ (hR.keeps eL) (hA.keeps eL) (hT.de _ (Zai hx)))
 rw [<- KJ]
 (refine Ja I<|Jn<|Jq<|Jr<|Jv I<|JG I<|Jn<|gR I (fun aA=>?_) fun aA=>?_;refine Jr<|ab (aX .nil an) I<|Jv I<|aq (.of I) (.of I) .here I I (hG I I I I I I) (bF I) an<|Ja I<|Ja I<|Jn<|Ju ?_;rotate_left;refine Jk<|Jr<|ab (cN (.there .here)) I ?_;rotate_right)
 ·have e0:kg r (du l)=(Ro.nil,rI r (du l),31):=by unfold kg;rw [if_pos (by omega)]
  rw [e0];dsimp only;refine aR 186 2 ?_;refine aR 90 3 ?_;refine aR 187 3 ?_;refine aR 188 3 ?_
  with_reducible first|apply aP|apply aQ
  case he=>exact l8 I inferInstance I dF an (by rfl) (by rfl) (by rfl)
  case hR=>
   intro w' az;exact aF (.z,.z,.z,.z) trivial (by exact .cons c6 (.cons bO (.cons (.there .here) (.h1 .nil)))) az I
 have hL0:¬ 0<=rI r (du l):=by omega
 refine JN bS I (fun w1 aY=>Ar (h.keeps aY.keeps) cJ (by omega)) ?_;intro y _;dsimp only [id_eq,Zb,Za];obtain ⟨s1,d1,t1,p1⟩:=y;dsimp only;unfold RA PB;refine aT (E:=186) (sz:=2) (v:=s1) (by exact .here) fun _ _ e=>?_;have k1:s1.oneCell'=true:=by rw [e];rfl
 clear e;refine aT (E:=90) (sz:=3) (v:=d1) (by exact Take.there .here) fun _ _ e=>?_;have k2:d1.oneCell'=true:=by rw [e];rfl
 clear e;refine aT (E:=187) (sz:=3) (v:=t1) bO fun _ _ e=>?_;have k3:t1.oneCell'=true:=by rw [e];rfl
 clear e;refine aT (E:=188) (sz:=3) (v:=p1) c6 fun _ _ e=>?_;have k4:p1.oneCell'=true:=by rw [e];rfl
 clear e
 (refine Jz I I fun _ _=>aq (.of I) (.of I) .here I I (hG I I k1 k2 k3 k4) (bF I) an<|Ji<|Jv I<|ab (bI .nil (.o I .nil)) I ?_)
 rename_i b8 hb8
 with_reducible apply jt
 case hr=>exact bo
 case hd=>rfl
 case ht=>exact bK.nil
 case hc=>
  intro w1 fp aY _ hs1;obtain rfl:fp=[]:=hs1;have hA:BR w1 b2 [.int .i64 r.lv,.int .i64 r.ma,s,d,t,p]:=BR.of aY qY;have hR:=h.keeps aY.keeps;exact Rx (f:=255) (first:=[]) (cap:=[.pointer (some ⟨b2,0,none⟩)]) (g:=fun x:gL=>cL r x.tk.de) (n:=r.lv.toNat) (Bp.keeps aY.keeps) (hM.keeps aY.keeps) (by omega) (fun x _=>by unfold cL;simp) (fun x hx w2 eL=>Ol (hR.keeps eL) (hA.keeps eL) (by omega) (by omega))
 rintro ⟨hv,oS⟩ RK;dsimp only at RK;dsimp only [id_eq,Zb,Za];refine aT (E:=32) (sz:=1) (v:=hv) (by exact .here) fun l7 kM e=>?_;subst e;refine Ja I<|Jn<|Jq<|Jr<|Jv I<|JI I<|Jv I<|Jn<|J0 ?_;have hdl:∀ i,(jM r (du l) i).length<=r.po.length:=fun i=>by rw [jL];exact Z5 _ _
 have uV:(du l).length=l.length:=by unfold du;rw [Zd]
 refine bd (ι:=Nat×Value×List Po) (fun y=>y.1<=l.length/\y.2.2=jM r (du l) y.1) (fun y=>[(34,.q (y.1:Nat)),(33,.q (l.length:Nat)),(32,.slice a l.length cp),(9,.slice l7 l.length kM),(8,.p b8),(4,.p b4),(1,.slice a l.length cp)])
  (fun y=>[JP b8 r s1 d1 t1 (y.2.1),J1 r s1,J2 r d1,J3 r t1,row 188 3 y.2.1 y.2.2.length (jb y.2.2),row 32 1 (.slice l7 l.length kM) l.length oS,nu 9 oS (l.map fun y=>aO (cL r y.tk.de)),bA b4 (.cells #[.q 0,.q 0,.z,.z,.z,.z] 41 (0,0))]) (fun y=>l.length-y.1) ?_ ?_
 ·apply aJ (0,p1,r.po) ⟨Zi _,I⟩
  case hs1=>exact cB
  case ht=>exact .cons bO (.cons bO (.cons bO (.cons bO (.cons bO (.h3 .nil)))))
 rintro ⟨i,pv,L⟩ ⟨hi,hL⟩;dsimp only at hi hL ⊢;by_cases aN:i<l.length
 ·have Se:=np aN;have c8:=ha Se;have aG:=(hc i _ (kR aN)).2;have jS:=Zj aN;have hRs:=hM _ jS;have PI:(du l).getD i Tk.zero=l[i].tk:=by unfold du;rw [Zk,ZJ,Zc aN];rfl
  have fF:jM r (du l) (i+1)=nQ r l[i].tk l[i].tk.so.length (jM r (du l) i):=by rw [jM,PI]
  have hls:=hT.lv l[i].tk (Zai jS);have hdi:L.length<=r.po.length:=by rw [hL];exact hdl i
  rw [<- hL] at fF;have YT:∀ k,(nQ r l[i].tk k L).length<=r.po.length:=fun k=>ZZ (by rw [nK];exact Z5 _ _) hdi
  have RL:∃ u,oS[i]? = some u:=⟨oS[i],Zc (by omega)⟩;have Uj:(l.map fun y=>aO (cL r y.tk.de))[i]? = some (aO (cL r l[i].tk.de)):=by rw [ZJ,Zc aN];rfl
  unfold gL.cells at aG;generalize hti:l[i]=ti at *;obtain ⟨tk,tv⟩:=ti;dsimp only at *;obtain ⟨sa,my,sb,TN,rfl,Kx,wh,RZ,RY⟩:=hRs;rw [cu] at *;unfold maxLen at wh
  (refine Jr<|JA I<|Jn<|Jq<|Jd I fun aA=>Jk<|Jq<|J0<|Jr<|Jv I<|ab (gr c8 aA) I<|ab (iD (eO.base aG I)) I<|Jz I I fun _ _=>Ja I<|aq (.of I) (.of I) .here I I (gK I I) (bF I) an<|Ji<|bN I I ae<|JL I .here I<|JI I<|Jv I<|Jn<|J0 ?_)
  rename_i Qf Y7;obtain ⟨u,hu⟩:=RL;have SB:(cL r tk.de).length=r.lv.toNat:=by unfold cL;simp
  refine vi (E:=9) (j:=i) (n:=r.lv.toNat) nR hu Uj (by rw [dj,SB]) ?_;refine dP (E:=9) (sz:=1) (v:=u) (by exact .here) (by omega) fun gu uc HR e XL RQ XK XJ=>?_;subst e;refine dP (E:=32) (sz:=1) (v:=.slice l7 l.length kM) jh (by omega) fun gh hc nH e YI YH YG YE=>?_;cases e;have f1:(oS++nH)[i*1]? = some (.w gu r.lv.toNat uc):=by
   rw [Zas,ZG (by omega)];exact hu
  have f2:∀ k,k<r.lv.toNat->(aO (cL r tk.de)++HR)[k*1]? = some (.string (kN r (k:Nat) tk.de)):=fun k hk=>by
   rw [Zas,ZG (by rw [dj,SB];exact hk)];unfold aO cL;rw [ZJ,ZJ,List.getElem?_range hk];rfl
  refine bd (ι:=Nat×Value×List Po) (fun y=>y.1<=tk.so.length/\y.2.2=nQ r tk y.1 L) (fun y=>[(42,.q (y.1:Nat)),(41,.q (tk.so.length:Nat)),(40,.slice sa tk.so.length my),(34,.q (i:Nat)),(33,.q (l.length:Nat)),(32,.slice a l.length cp),(10,.q (i:Nat)),(11,.p Qf),(9,.w gh l.length kM),(8,.p b8),(4,.p b4),(1,.slice a l.length cp)])
   (fun y=>[JP b8 r s1 d1 t1 (y.2.1),J1 r s1,J2 r d1,J3 r t1,row 188 3 y.2.1 y.2.2.length (jb y.2.2),bA gh (.cells (oS++nH).toArray 32 (0,0)),bA gu (.cells (aO (cL r tk.de)++HR).toArray 9 (0,0)),rr 9 oS (l.map fun y=>aO (cL r y.tk.de)) i,rq 9 oS (l.map fun y=>aO (cL r y.tk.de)) i,bA b4 (.cells #[.q 0,.q 0,.z,.z,.z,.z] 41 (0,0)),bA Qf (.cells #[.string tk.de,.slice sa tk.so.length my] 78 (0,0))]) (fun y=>tk.so.length-y.1) ?_ ?_
  ·apply aJ (0,pv,L) ⟨Zi _,I⟩
   case hs1=>exact cB
   case ht=>exact .cons fx (.cons fx (.cons fx (.cons fx (.cons fx (.h4 (.cons (.there .here) (.h1 .nil)))))))
  rintro ⟨k,IL,L2⟩ ⟨hk,u0⟩;dsimp only at hk u0 ⊢;by_cases su:k<tk.so.length
  ·have Ek:=RZ (lk su);have Ky:w.cell? ⟨sb,TN+k*1,none⟩=some (.string tk.so[k]):=(RY k _ (jf su)).2 0 _ I;have f3:=f2 k (by omega);have jJ:tk.at k=tk.so[k]:=by unfold Tk.at;rw [Zk,Zc su];rfl
   have hdk:=YT k;rw [<- u0] at hdk;have hs2:nQ r tk (k+1) L=if nY r tk k then L2.filter (fun x=>!yX (k:Nat) tk.de x) else L2:=by rw [nQ,<- u0]
   have hdb:nY r tk k=(!decide (tk.so[k]=⟨#[]⟩)&&!decide (tk.so[k]=kN r (k:Nat) tk.de)):=by unfold nY;rw [jJ]
   generalize kN r (k:Nat) tk.de=ck at *;generalize tk.so[k]=sk at *
   (refine Jr<|JA I<|Jn<|Jq<|Jd I fun aA=>Jk<|Jq<|J0<|Jr<|Jv I<|ab (aC (.of I) (.of I) Ek (by omega) aA bu) I ?_;refine ab (ag (.of I) (At.base Ky I)) I ?_;refine Ja I<|Ja I<|Ji<|Jv I<|ab (jv (.of I) (.of I)) I ?_;refine Jv I<|gy I I I I ?_;refine gy I I I I ?_;refine gy I I I I ?_;refine au I I (fun hg bG=>(aC (.bX hg I) (.bX hg I) I (by omega) (by assumption) bu)) I ?_;refine au I I (fun hg bG=>(ag (.bX hg I) (At.pj fx f1))) I ?_;refine gy I I I I ?_;refine au I I (fun hg bG=>(aC (.bX hg I) (.bX hg I) I (by omega) (by omega) bu)) I ?_;refine au I I (fun hg bG=>(ag (.bX hg I) (At.pj qY f3))) I ?_;refine au I I (fun hg bG=>(jv (.bX hg I) (.bX hg I))) I ?_;refine ab (cE (.of I) I) I ?_;refine Jn<|oq I (fun aA=>?_) fun aA=>?_;refine Jg<|Jv I<|bN I I ae ?_;refine JL I lT I ?_;rotate_left;refine Jw<|Jj<|Jt<|Jg<|JB I (by omega)<|Jv I<|Jn ?_;rotate_right)
   ·obtain ⟨q1,q2⟩:sk≠⟨#[]⟩/\sk≠ck:=by simpa using aA
    have Es:nY r tk k=true:=by rw [hdb,decide_eq_false q1,decide_eq_false q2];rfl
    rw [Es,if_pos I] at hs2;obtain ⟨L3,PU⟩:∃ L3,L3=nQ r tk (k+1) L:=⟨_,rfl⟩;rw [<- PU] at hs2
    with_reducible apply fW (As:=[JP b8 r s1 d1 t1 IL,row 188 3 IL L2.length (jb L2)])
    case hr=>exact ek
    case hd=>rfl
    case ht=>exact qv
    case hc=>
     intro w1 Bx aY wm hs1 Dm kY;exact yq (r:=r) (s:=s1) (d:=d1) (t:=t1) (p:=IL) (b:=b8) (l:=L2) (k:Nat) tk.de wm hs1 (by omega)
    intro p3 _;dsimp only [id_eq,Zb,Za];unfold RB PB;rw [<- hs2];refine Jx<|Jj<|Jt<|Jg<|JB I (by omega)<|Jv I<|Jn ?_;apply aI (k+1,p3,L3) ⟨by show k+1<=_;omega,PU⟩ (by show tk.so.length-(k+1)<tk.so.length-k;omega)
    case hs1=>exact cB
    case ht=>exact qv
   ·have Es:nY r tk k=false:=by
     rw [hdb];simp only [ne_eq,Zr,decide_eq_true_eq,Classical.not_and_iff_not_or_not] at aA;rcases aA with e | e
     ·rw [decide_eq_true e];rfl
     ·rw [decide_eq_true e];simp
    rw [Es,if_neg (by decide)] at hs2;apply aI (k+1,IL,L2) ⟨by show k+1<=_;omega,hs2.symm⟩ (by show tk.so.length-(k+1)<tk.so.length-k;omega)
    case hs1=>exact cB
    case ht=>exact qv
  ·have e:k=tk.so.length:=by omega
   subst e;refine Jr<|JA I<|Jn<|Jq<|Jc I fun aA=>Jp<|Jl<|Jo<|Jj<|Jt<|Jg<|JB I (by omega)<|Jv I<|Jn ?_;refine dq (E:=9) (sz:=1) (g:=gu) qY XL RQ XK XJ ?_;refine dq (E:=32) (sz:=1) (g:=gh) qY YI YH YG YE ?_;have Wu:(aO (cL r tk.de)).length=r.lv.toNat:=by rw [dj,SB]
   with_reducible apply yA (E:=9) (vs:=oS) (xs:=l.map fun y=>aO (cL r y.tk.de)) (v:=.w gu r.lv.toNat uc) (x:=aO (cL r tk.de)) (n:=r.lv.toNat) i
   case ht=>exact nR
   case ht2=>exact nR
   case ht3=>exact Take.there .here
   case hv=>exact hu
   case hn=>exact Wu
   case hx=>exact Uj
   case k=>
    apply aI (i+1,IL,L2) ⟨by show i+1<=_;omega,by show L2=jM r (du l) (i+1);rw [fF,u0]⟩ (by show l.length-(i+1)<l.length-i;omega)
    case hs1=>exact cB
    case ht=>exact .cons bO (.cons bO (.cons bO (.cons bO (.cons bO (.cons (.there .here) (.h2 .nil))))))
 ·have e:i=l.length:=by omega
  subst e;refine Jr<|JA I<|Jn<|Jq<|Jc I fun aA=>Jp<|Jl<|Jo<|Jt<|Jr ?_;have hLf:L=r.po.filter (fun p=>!Li r (du l) l.length p):=by rw [hL,jL]
  have Et:=hdl l.length;rw [<- hL] at Et
  with_reducible apply fW (As:=[JP b8 r s1 d1 t1 pv,J1 r s1,J2 r d1,J3 r t1,row 188 3 pv L.length (jb L)])
  case hr=>exact bS
  case hd=>rfl
  case ht=>exact qv
  case hc=>
   intro w1 Bx aY wm hs1 Dm kY;exact M1 (r:=r.wp L) (s:=s1) (d:=d1) (t:=t1) (p:=pv) (b:=b8) wm hs1 cJ (by show L.length<=1000;omega)
  rintro ⟨pw,ff⟩ ⟨Sx,W4⟩;have om:(r.wp L).po.filter ff=u5 r (du l):=by
   show L.filter ff=vl (bY r) (jM r (du l) (du l).length);rw [uV,<- hL];exact Pf.tid dw.tL (by rw [hLf];exact dw.val.acy.sub _) ⟨Sx,W4⟩
  dsimp only [id_eq,Zb,Za];rw [om];unfold RW RB PB;dsimp only [Zb,Za]
  try unfold JP
  try unfold J1 J2 J3
  rw [show (r.wp L).lv=r.lv from I,show (r.wp L).ma=r.ma from I,show (r.wp L).sr=r.sr from I,show (r.wp L).de=r.de from I,show (r.wp L).ti=r.ti from I];refine Jn<|Jq<|Jr<|Jv I<|JI I<|Jv I<|Jn<|J0 ?_
  refine bd (ι:=Nat×Value×List Po) (fun y=>y.1<=l.length/\ju r (du l) (u5 r (du l)) y.1=some y.2.2/\gV r y.2.2) (fun y=>[(69,.q (y.1:Nat)),(68,.q (l.length:Nat)),(67,.slice a l.length cp),(9,.slice l7 l.length kM),(8,.p b8),(4,.p b4),(1,.slice a l.length cp)])
   (fun y=>[JP b8 r s1 d1 t1 (y.2.1),J1 r s1,J2 r d1,J3 r t1,row 188 3 y.2.1 y.2.2.length (jb y.2.2),row 32 1 (.slice l7 l.length kM) l.length oS,nu 9 oS (l.map fun y=>aO (cL r y.tk.de)),bA b4 (.cells #[.q 0,.q 0,.z,.z,.z,.z] 41 (0,0))]) (fun y=>l.length-y.1) ?_ ?_
  ·have h00:ju r (du l) (u5 r (du l)) 0=some (u5 r (du l)):=by rw [ju]
   have h01:=(qO dw hT).1;generalize u5 r (du l)=D0 at *;apply aJ (0,pw,D0) ⟨Zi _,h00,h01⟩
   case hs1=>exact cB
   case ht=>exact qv
  clear Sx W4 om ff pw Et hLf hL pv L hi;rintro ⟨i,pv,L⟩ ⟨hi,hL,hLV⟩;dsimp only at hi hL hLV ⊢;by_cases aN:i<l.length
  ·have c8:=ha (np aN);have aG:=(hc i _ (kR aN)).2;have jS:=Zj aN;have hRs:=hM _ jS;have sW:i<(du l).length:=by omega
   have WU:(du l)[i]=l[i].tk:=Z2 _;have PI:(du l).getD i Tk.zero=l[i].tk:=by rw [Zk,Zc sW,Zam,WU]
   have UO:=fun k hk q h1=>Ru dw hT sW (k:=k) (q0:=L) (q:=q) hk hL h1
   have U0:=fun k=>AG dw hT (Zj sW) (k:=k)
   rw [WU] at UO U0;have WE:ju r (du l) (u5 r (du l)) (i+1)=ll r l[i].tk l[i].tk.so.length L:=by rw [ju,hL,PI];rfl
   have hrf:=fun h2=>Ns (r:=r) (l:=du l) (po:=u5 r (du l)) sW hL h2
   have hls:=hT.lv l[i].tk (Zai jS);have RL:∃ u,oS[i]? = some u:=⟨oS[i],Zc (by omega)⟩;have Uj:(l.map fun y=>aO (cL r y.tk.de))[i]? = some (aO (cL r l[i].tk.de)):=by rw [ZJ,Zc aN];rfl
   unfold gL.cells at aG;generalize hti:l[i]=ti at *;obtain ⟨tk,tv⟩:=ti;dsimp only at *;obtain ⟨sa,my,sb,TN,rfl,Kx,wh,RZ,RY⟩:=hRs;rw [cu] at *;unfold maxLen at wh
   (refine Jr<|JA I<|Jn<|Jq<|Jd I fun aA=>Jk<|Jq<|J0<|Jr<|Jv I<|ab (gr c8 aA) I<|ab (iD (eO.base aG I)) I<|Jz I I fun _ _=>Ja I<|aq (.of I) (.of I) .here I I (gK I I) (bF I) an<|Ji<|bN I I ae<|JL I .here I<|JI I<|Jv I<|Jn<|J0 ?_)
   rename_i S1 Y6;obtain ⟨u,hu⟩:=RL;have SB:(cL r tk.de).length=r.lv.toNat:=by unfold cL;simp
   refine vi (E:=9) (j:=i) (n:=r.lv.toNat) nR hu Uj (by rw [dj,SB]) ?_;refine dP (E:=9) (sz:=1) (v:=u) (by exact .here) (by omega) fun gu uc HR e XL RQ XK XJ=>?_;subst e;refine dP (E:=32) (sz:=1) (v:=.slice l7 l.length kM) jh (by omega) fun gh hc nH e YI YH YG YE=>?_;cases e;have f1:(oS++nH)[i*1]? = some (.w gu r.lv.toNat uc):=by
    rw [Zas,ZG (by omega)];exact hu
   have f2:∀ k,k<r.lv.toNat->(aO (cL r tk.de)++HR)[k*1]? = some (.string (kN r (k:Nat) tk.de)):=fun k hk=>by
    rw [Zas,ZG (by rw [dj,SB];exact hk)];unfold aO cL;rw [ZJ,ZJ,List.getElem?_range hk];rfl
   refine bd (ι:=Nat×Value×List Po) (fun y=>y.1<=tk.so.length/\ll r tk y.1 L=some y.2.2) (fun y=>[(77,.q (y.1:Nat)),(76,.q (tk.so.length:Nat)),(75,.slice sa tk.so.length my),(69,.q (i:Nat)),(68,.q (l.length:Nat)),(67,.slice a l.length cp),(14,.q (i:Nat)),(15,.p S1),(9,.w gh l.length kM),(8,.p b8),(4,.p b4),(1,.slice a l.length cp)])
    (fun y=>[JP b8 r s1 d1 t1 (y.2.1),J1 r s1,J2 r d1,J3 r t1,row 188 3 y.2.1 y.2.2.length (jb y.2.2),bA gh (.cells (oS++nH).toArray 32 (0,0)),bA gu (.cells (aO (cL r tk.de)++HR).toArray 9 (0,0)),rr 9 oS (l.map fun y=>aO (cL r y.tk.de)) i,rq 9 oS (l.map fun y=>aO (cL r y.tk.de)) i,bA b4 (.cells #[.q 0,.q 0,.z,.z,.z,.z] 41 (0,0)),bA S1 (.cells #[.string tk.de,.slice sa tk.so.length my] 78 (0,0))]) (fun y=>tk.so.length-y.1) ?_ ?_
   ·have h00:ll r tk 0 L=some L:=by rw [ll]
    apply aJ (0,pv,L) ⟨Zi _,h00⟩
    case hs1=>exact cB
    case ht=>exact .cons fx (.cons fx (.cons fx (.cons fx (.cons fx (.h4 (.cons (.there .here) (.h1 .nil)))))))
   rintro ⟨k,IL,L2⟩ ⟨hk,u0⟩;dsimp only at hk u0 ⊢;obtain ⟨Vl,fu⟩:=UO k hk L2 u0;have hfw:=ni dw Vl;by_cases su:k<tk.so.length
   ·have Ek:=RZ (lk su);have Ky:w.cell? ⟨sb,TN+k*1,none⟩=some (.string tk.so[k]):=(RY k _ (jf su)).2 0 _ I;have f3:=f2 k (by omega);have jJ:tk.at k=tk.so[k]:=by unfold Tk.at;rw [Zk,Zc su];rfl
    have hs2:ll r tk (k+1) L=if nX r tk k then (kO (r.wp L2) (k:Nat) tk.so[k] tk.de).map (fun p=>lL r L2 (k:Nat) tk.so[k] p tk.de) else some L2:=by rw [ll,u0,ZbC,jJ]
    have hjb:nX r tk k=true↔¬ ((tk.so[k]=⟨#[]⟩\/tk.so[k]=⟨#[45]⟩)\/tk.so[k]=kN r (k:Nat) tk.de):=by
     rw [lo,jJ];constructor
     ·rintro ⟨x1,x2,x3⟩ ((e | e) | e)
      ·exact x1 e
      ·exact x3 e
      ·exact x2 e
     ·intro e;exact ⟨fun c=>e (.inl (.inl c)),fun c=>e (.inr c),fun c=>e (.inl (.inr c))⟩
    have hjo:=U0 k su;rw [jJ] at hjo;have Es:nX r tk k=true->nY r tk k=true:=fun c=>by
     obtain ⟨x1,x2,_⟩:=lo.1 c;exact lC.2 ⟨x1,x2⟩
    generalize kN r (k:Nat) tk.de=ck at *;generalize tk.so[k]=sk at *
    (refine Jr<|JA I<|Jn<|Jq<|Jd I fun aA=>Jk<|Jq<|J0<|Jr<|Jv I<|ab (aC (.of I) (.of I) Ek (by omega) aA bu) I ?_;refine ab (ag (.of I) (At.base Ky I)) I ?_;refine Ja I<|Ja I<|Jn<|Jq<|Jr<|Jv I<|ab (eR (.of I) (.of I)) I ?_;refine Jv I<|gy I I I I ?_;refine au I I (fun hg bG=>(eR (.bX hg I) (.of I))) I ?_;refine ab (bE (.of I) I) I ?_;refine Jv I<|gy I I I I ?_;refine gy I I I I ?_;refine gy I I I I ?_;refine au I I (fun hg bG=>(aC (.bX hg I) (.bX hg I) I (by omega) (by assumption) bu)) I ?_;refine au I I (fun hg bG=>(ag (.bX hg I) (At.pj fx f1))) I ?_;refine gy I I I I ?_;refine au I I (fun hg bG=>(aC (.bX hg I) (.bX hg I) I (by omega) (by omega) bu)) I ?_;refine au I I (fun hg bG=>(ag (.bX hg I) (At.pj qY f3))) I ?_;refine au I I (fun hg bG=>(eR (.bX hg I) (.bX hg I))) I ?_;refine ab (bE (.of I) I) I ?_;refine Jn<|oq I (fun aA=>?_) fun aA=>?_;refine Jp<|Jo<|Jt<|Jg<|JB I (by omega)<|Jv I<|Jn ?_;rotate_left;refine Jk<|Jr<|ab (cN .here) I ?_;refine Jv I<|Jv I<|bN I I ae ?_;refine JL I lT I ?_;rotate_right)
    ·have hj:nX r tk k=false:=by
      rw [<- Zae];exact fun c=>hjb.1 c aA
     rw [hj,if_neg (by decide)] at hs2;apply aI (k+1,IL,L2) ⟨by show k+1<=_;omega,hs2⟩ (by show tk.so.length-(k+1)<tk.so.length-k;omega)
     case hs1=>exact cB
     case ht=>exact qv
    have hj:nX r tk k=true:=hjb.2 (fun c=>c.elim (fun c=>c.elim aA.1.1 aA.1.2) aA.2)
    obtain ⟨⟨j1,j2⟩,rO,fF,_⟩:=hjo hj;have sA:=fu k (ZC _) su (Es hj);rw [hj,if_pos I] at hs2;refine JN uA I (fun w1 aY=>Pk (r:=r.wp L2) (k:Nat) sk tk.de (RR.wp (df aY (by exact Take.there .here) I) (di aY bO I) (dd aY c6 I) (c7 aY dF I)) dw.tL.wp Vl.wp dw.EC.wp rO fF) ?_;rintro ⟨W7,⟨xv,xp,xf⟩,kI⟩ ⟨hy1,hy2,hy3⟩;dsimp only at hy1 hy2 hy3;dsimp only [Wy.cells,Zb,Za]
    (refine Jv I<|JJ I I<|JJ I I<|Jz I I fun _ _=>aq (.of I) (.of I) .here I I (gK hy3 I) (bF I) an<|Ja I<|Jn<|Jq<|Jr<|Jv I<|JH I<|Jn<|oq I (fun aA=>?_) fun aA=>?_;refine Jr<|ab (aX .nil an) I<|Jv I<|aq (.of I) (.of I) Dc I I (hG I I I I I I) (bF I) an<|Ja I<|Ja I<|Jn<|Ju<|Jm<|Jh<|Jh<|Jm<|Jm<|Jh<|Jh<|Jm<|Jh ?_;rotate_left;refine Jk<|Jg<|Jv I<|Jv I<|ab (cN .here) I<|bN I I ae<|JL I lS I ?_;rotate_right)
    ·have hf:W7=false:=by simpa using aA
     subst hf;have e1:ll r tk (k+1) L=none:=by rw [hs2,yt (hy2 I)];rfl
     have e2:ju r (du l) (u5 r (du l)) (i+1)=none:=by rw [WE];exact GB e1 (by omega)
     have e3:=yK e2 (m:=(du l).length) (by omega);have e4:kg r (du l)=(Ro.nil,((i:Nat):Int),18):=by
      unfold kg;rw [if_neg hL0];show (match ju r (du l) (u5 r (du l)) (du l).length with | none=>(Ro.nil,((IH r (du l) (u5 r (du l)):Nat):Int),(18:Int)) | some po=>(r.wp po,0,0))=_
      rw [e3,hrf e2]
     rw [e4];dsimp only;refine aR 186 2 ?_;refine aR 90 3 ?_;refine aR 187 3 ?_;refine aR 188 3 ?_
     with_reducible first|apply aP|apply aQ
     case he=>exact l8 I inferInstance I dF an (by rfl) (by rfl) (by rfl)
     case hR=>
      intro w' az;exact aF (.z,.z,.z,.z) trivial (by exact .cons c6 (.cons bO (.cons (.there .here) (.h1 .nil)))) az I
    have hf:W7=true:=by simpa using aA
    subst hf;obtain ⟨hle,Ss⟩:=hy1 rfl;have hwp:=yr hle;have Og:(eh r L2 (k:Nat) sk).least (gQ r tk.de) xp:=hle;have kc:ll r tk (k+1) L=some (lL r L2 (k:Nat) sk xp tk.de):=by rw [hs2,hwp];rfl
    have hVn:=Iq dw ⟨j1,j2⟩ Vl rO fF sA Og;have hxp:∀ i∈xp,i<r.ti.length:=Wn.vJ Og.1;have Pz:xp.length<=6:=by have:=Wn.sP Og.1;show _<=_;have h6:(eh r L2 (k:Nat) sk).n=r.ti.length:=rfl;omega
    refine Gw Ss (by exact Take.there .here) fun nZ=>?_
    with_reducible apply fW (As:=[JP b8 r s1 d1 t1 IL,J1 r s1,J2 r d1,J3 r t1,row 188 3 IL L2.length (jb L2),row 3 1 xv xp.length (fY xp)])
    case hr=>exact L6
    case hd=>rfl
    case ht=>exact .cons c6 (.cons c6 (.cons c6 (.cons c6 (.cons c6 (.h1 .nil)))))
    case hc=>
     intro w1 Bx aY wm hs1 Dm kY;exact TO (r:=r) (s:=s1) (d:=d1) (t:=t1) (p:=IL) (b:=b8) (po:=L2) xf (k:Nat) sk tk.de wm hs1 cJ (by omega) (by omega) dw.EC hxp Vl.out fF hVn.qZ
    intro p3 _;dsimp only [id_eq,Zb,Za];unfold RB PB;generalize lL r L2 (k:Nat) sk xp tk.de=L3 at *;refine Jx<|Jj<|Jt<|Jg<|JB I (by omega)<|Jv I<|Jn ?_;apply aI (k+1,p3,L3) ⟨by show k+1<=_;omega,kc⟩ (by show tk.so.length-(k+1)<tk.so.length-k;omega)
    case hs1=>exact cB
    case ht=>exact qv
   ·have e:k=tk.so.length:=by omega
    subst e;refine Jr<|JA I<|Jn<|Jq<|Jc I fun aA=>Jp<|Jl<|Jo<|Jj<|Jt<|Jg<|JB I (by omega)<|Jv I<|Jn ?_;refine dq (E:=9) (sz:=1) (g:=gu) qY XL RQ XK XJ ?_;refine dq (E:=32) (sz:=1) (g:=gh) qY YI YH YG YE ?_;have Wu:(aO (cL r tk.de)).length=r.lv.toNat:=by rw [dj,SB]
    with_reducible apply yA (E:=9) (vs:=oS) (xs:=l.map fun y=>aO (cL r y.tk.de)) (v:=.w gu r.lv.toNat uc) (x:=aO (cL r tk.de)) (n:=r.lv.toNat) i
    case ht=>exact nR
    case ht2=>exact nR
    case ht3=>exact Take.there .here
    case hv=>exact hu
    case hn=>exact Wu
    case hx=>exact Uj
    case k=>
     have hne:ju r (du l) (u5 r (du l)) (i+1)=some L2:=by rw [WE,u0]
     apply aI (i+1,IL,L2) ⟨by show i+1<=_;omega,hne,Vl⟩ (by show l.length-(i+1)<l.length-i;omega)
     case hs1=>exact cB
     case ht=>exact .cons bO (.cons bO (.cons bO (.cons bO (.cons bO (.cons (.there .here) (.h2 .nil))))))
  ·have e:i=l.length:=by omega
   subst e;refine Jr<|JA I<|Jn<|Jq<|Jc I fun aA=>Jp<|Jl<|Jo<|Jt<|Jr<|ab (cN .here) I ?_;have e4:kg r (du l)=(r.wp L,0,0):=by
    unfold kg;rw [if_neg hL0];show (match ju r (du l) (u5 r (du l)) (du l).length with | none=>(Ro.nil,((IH r (du l) (u5 r (du l)):Nat):Int),(18:Int)) | some po=>(r.wp po,0,0))=_
    rw [uV,hL]
   rw [e4];dsimp only;refine aT (E:=188) (sz:=3) (v:=pv) dF fun _ _ e=>?_;have k5:pv.oneCell'=true:=by rw [e];rfl
   clear e
   (refine aq (.of I) (.of I) nR I I (hG I I k1 k2 k3 k5) (bF I) an<|Ja I<|Ja I<|Jn<|Je ?_)
   with_reducible first|apply aP|apply aQ
   case he=>exact l8 I inferInstance I .here an (by rfl) (by rfl) (by rfl)
   case hR=>
    intro w' az;exact aF (s1,d1,t1,pv) trivial (by exact .cons bO (.cons bO (.cons bO (.cons bO .nil)))) az I
def iv (r:Ro) (l:List Tk):Ro×Int×Int:=if fT r≠0 then (Ro.nil,0,fT r) else if Bm r l≠0 then (Ro.nil,0,Bm r l) else kg r l
theorem DF (l:List gL):∀ r∈jQ l,r.length=2:=fun r hr=>by obtain ⟨x,_,rfl⟩:=Zw.1 hr;rfl
theorem mG {c:Cx} {hs hs':List bh} {E:TypeId} {v:Value} {n:Nat} (hm:Mem c hs w) (ht:Take hs (row E 2 v n (jQ l).flatten) hs') (hn:l.length=n):Rd w v 2 (jQ l):=hm.qm ht I (DF l) (by rw [e9,hn])
theorem bb (l m:List bh):bK (l++m) l m:=pF [] l m
theorem dI {c:Cx} {D:List Nat} {sl:aD} {hs hs':List bh} {X:Act->World->Prop} {r:Ro} {s d t p:Value} (ht:bK hs (kC r (s,d,t,p)) hs')
  (k:s.oneCell'=true->d.oneCell'=true->t.oneCell'=true->p.oneCell'=true->Tr c D sl (J1 r s::J2 r d::J3 r t::J4 r p::hs') X):Tr c D sl hs X:=by
 intro a w bj;have hm:=bj.mem.jo (ht.append (mN D));have k2:Tr c D sl (J1 r s::J2 r d::J3 r t::J4 r p::hs') X:=by
  refine aT (E:=186) (sz:=2) (v:=s) .here fun _ _ e=>?_;have k1:s.oneCell'=true:=by rw [e];rfl
  clear e;refine aT (E:=90) (sz:=3) (v:=d) (.there .here) fun _ _ e=>?_;have k2:d.oneCell'=true:=by rw [e];rfl
  clear e;refine aT (E:=187) (sz:=3) (v:=t) bO fun _ _ e=>?_;have k3:t.oneCell'=true:=by rw [e];rfl
  clear e;refine aT (E:=188) (sz:=3) (v:=p) c6 fun _ _ e=>?_;have k4:p.oneCell'=true:=by rw [e];rfl
  clear e;exact k k1 k2 k3 k4
 exact k2 a w (bj.heap hm)
set_option maxHeartbeats 1000000 in
theorem Bj {r:Ro} {s d t p kv:Value} (h:RR w r s d t p) (cJ:me r) (hw:Rd w kv 2 (jQ l)) (hM:xF w l) :
  bB T_ 45 [RA r s d t p,kv] w [] (fun _:Value×Value×Value×Value=>True) (fun x=>.tuple #[RA (iv r (du l)).1 x.1 x.2.1 x.2.2.1 x.2.2.2,.q (iv r (du l)).2.1,.q (iv r (du l)).2.2]) (fun x=>kC (iv r (du l)).1 x):=by
 obtain ⟨h1,h2,h3,h4⟩:=h.one;have WQ:=Rd.one hw;have fB:∀ w',aH [] w w'->ao T_ 34 [.agg #[.int .i64 r.lv,.int .i64 r.ma,s,d,t,p]] w' (.int .i64 (fT r)):=fun w' hk=>eT (h.keeps hk) cJ
 have htk:∀ w',aH [] w w'->ao T_ 164 [.agg #[.q r.lv,.q r.ma,s,d,t,p],kv] w' (.q (Bm r (du l))):=fun w' hk=>se (h.keeps hk) (hw.keeps hk) (hM.keeps hk)
 unfold RA;refine aV func45 I I ?_
 (refine Jr<|Jy I I fun _ _=>Jz I I fun _ _=>Ja I<|Ja I<|Jn<|Jq<|Jr<|ab (cN (.there .here)) I<|aj bS I (fun w' az=>(fB w' (Mem.keeps az)))<|Ja I<|Ji<|Jv I<|JD I<|Jn<|gR I (fun aA=>?_) fun aA=>?_;refine Jr<|ab (aX .nil an) I<|Jv I<|aq (.of I) (.of I) .here I I (hG I I I I I I) (bF I) an<|Ja I<|Ja I<|Jn<|Ju ?_;rotate_left;refine Jk<|Jq<|Jr<|ab (cN (.there .here)) I<|Jv I<|aj bo I (fun w' az=>(htk w' (Mem.keeps az)))<|Ja I<|Ji<|Jv I<|JD I<|Jn<|gR I (fun aA=>?_) fun aA=>?_;refine Jr<|ab (aX .nil an) I<|Jv I<|aq (.of I) (.of I) .here I I (hG I I I I I I) (bF I) an<|Ja I<|Ja I<|Jn<|Ju ?_;rotate_left;refine Jk<|Jr<|ab (cN (.there .here)) I<|Jv I ?_;rotate_right;rotate_right)
 ·have e:iv r (du l)=(Ro.nil,0,fT r):=if_pos aA;rw [e];dsimp only;refine aR 186 2<|aR 90 3<|aR 187 3<|aR 188 3 ?_
  with_reducible first|apply aP|apply aQ
  case he=>exact l8 I inferInstance I dF an (by rfl) (by rfl) (by rfl)
  case hR=>
   intro w' az;exact aF (.z,.z,.z,.z) trivial (by exact .cons c6 (.cons bO (.cons (.there .here) (.h1 .nil)))) az I
 ·have e:iv r (du l)=(Ro.nil,0,Bm r (du l)):=by unfold iv;rw [if_neg (by assumption),if_pos aA]
  rw [e];dsimp only;refine aR 186 2<|aR 90 3<|aR 187 3<|aR 188 3 ?_
  with_reducible first|apply aP|apply aQ
  case he=>exact l8 I inferInstance I dF an (by rfl) (by rfl) (by rfl)
  case hR=>
   intro w' az;exact aF (.z,.z,.z,.z) trivial (by exact .cons c6 (.cons bO (.cons (.there .here) (.h1 .nil)))) az I
 have Dk:fT r=0:=Zr.1 (by assumption);have Ml:Bm r (du l)=0:=Zr.1 aA;have e:iv r (du l)=kg r (du l):=by unfold iv;rw [if_neg (not_not_intro Dk),if_neg (not_not_intro Ml)]
 have dw:=uo Dk;have hf:=ni dw dw.val;rw [e];refine JN bo I (fun w1 aY=>Fb (h.keeps aY.keeps) dw (by omega) (hw.keeps aY.keeps) (hM.keeps aY.keeps) (uG.1 Ml).2) ?_;generalize kg r (du l)=R;obtain ⟨R,at_,e_⟩:=R;rintro ⟨s1,d1,t1,p1⟩ _;dsimp only;unfold RA;refine dI (r:=R) (s:=s1) (d:=d1) (t:=t1) (p:=p1) (bb _ _) fun k1 k2 k3 k4=>?_
 (refine JJ I I<|JJ I I<|JJ I I<|aq (.of I) (.of I) dF I I (hG I I k1 k2 k3 k4) (bF I) an<|Ja I<|Ja I<|Jn<|Je ?_)
 with_reducible first|apply aP|apply aQ
 case he=>exact l8 I inferInstance I .here an (by rfl) (by rfl) (by rfl)
 case hR=>
  intro w' az;exact aF (s1,d1,t1,p1) trivial (by exact .cons (.there .here) (.cons (.there .here) (.cons (.there .here) (.cons (.there .here) .nil)))) az I
set_option maxHeartbeats 1000000 in
theorem Gg {r:Ro} {s d t p:Value} {x:gL} (h:RR w r s d t p) (cJ:me r) (hM:Rd w x.v 1 (ie x.tk.so)) :
  bB T_ 48 [RA r s d t p,.agg x.cells.toArray] w [] (fun _:Value×Value×Value×Value=>True) (fun y=>.tuple #[RA (iv r [x.tk]).1 y.1 y.2.1 y.2.2.1 y.2.2.2,.q (iv r [x.tk]).2.2]) (fun y=>kC (iv r [x.tk]).1 y):=by
 obtain ⟨h1,h2,h3,h4⟩:=h.one;have WQ:=Rd.one hM;unfold RA gL.cells;refine aV func48 I I ?_
 (refine Jr<|Jy I I fun _ _=>Jy I I fun _ _=>Jz I I fun _ _=>Ja I<|Ji<|ab (cN bO) I<|ab (cN (.there .here)) I<|bn (bD (.o I .nil) I I bV bV an) I fun _ _=>?_)
 rename_i b2 tX b3 uY b4 xB bq lN;refine bR (g:=bq) (E:=78) (xs:=[.string x.tk.de,x.v]) (ys:=(jQ [x]).flatten) 1 2 (by exact .here) (by exact I) I I ?_
 with_reducible apply jt
 case hr=>exact bo
 case hd=>rfl
 case ht=>exact bK.nil
 case hc=>
  intro w1 fp aY _ hs1;obtain rfl:fp=[]:=hs1;have hR:Rd w1 (.slice (some ⟨bq,0,none⟩) 1 1) 2 (jQ [x]):=mG (l:=[x]) aY (by exact .here) (by exact I);exact Bj (l:=[x]) (h.keeps aY.keeps) cJ hR (fun y hy=>by rw [ZB.1 hy];exact hM.keeps aY.keeps)
 rw [show du [x]=[x.tk] from I];generalize iv r [x.tk]=R;obtain ⟨R,at_,e_⟩:=R;rintro ⟨s1,d1,t1,p1⟩ _;dsimp only;unfold RA;refine dI (r:=R) (s:=s1) (d:=d1) (t:=t1) (p:=p1) (bb _ _) fun k1 k2 k3 k4=>?_
 (refine Jv I<|JJ I I<|JJ I I<|JJ I I<|Jz I I fun _ _=>aq (.of I) (.of I) .here I I (hG I I k1 k2 k3 k4) (bF I) an<|Ja I<|Ja I<|Ji<|ab (cN .here) I<|Jv I<|aq (.of I) (.of I) qY I I (hG I I k1 k2 k3 k4) (bF I) an<|Ja I<|Jn<|Je ?_)
 with_reducible first|apply aP|apply aQ
 case he=>exact tl I inferInstance I .here an (by rfl) (by rfl)
 case hR=>
  intro w' az;exact aF (s1,d1,t1,p1) trivial (by exact .cons bO (.cons bO (.cons bO (.cons bO .nil)))) az I
end Go.Proofs.A1
