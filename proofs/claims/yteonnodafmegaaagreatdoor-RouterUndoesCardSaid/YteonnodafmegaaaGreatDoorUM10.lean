/- Parts of the proof: P5s P5u P5v P5x P5y P5z P6a KY GkMapR KZ GkEnds3 LA P6b GkPoolJ LB. -/
import Derived.Test.YteonnodafmegaaaGreatDoorUM09
import Derived.Test.YteonnodafmegaaaGreatDoorUM04
import Derived.Test.YteonnodafmegaaaGreatDoorUM03
import Derived.Laws.IdiomRangeMap
set_option linter.unusedSectionVars false
set_option linter.unusedVariables false
set_option linter.unusedSimpArgs false
namespace Go.Proofs.A1
open Go Go.SL
theorem Ap {r:Ro} (hd:∀ x∈r.de,0<=x.mx) (ht:∀ x∈r.ti,0<=x.fr) {s:ByteArray} (h:s∈bU r\/s∈cN r):0<=jO r s:=by
 unfold jO;by_cases h1:0<=bA (bU r) s
 ·obtain ⟨hl,_⟩:=eF h1;rw [if_pos h1,Zk,Zc (by unfold bU at hl;rwa [Zd] at hl)];exact hd _ (Zj _)
 ·rw [if_neg h1];have h2:0<=bA (cN r) s:=by
   rcases h with h | h
   ·exact absurd (eE h) h1
   ·exact eE h
  obtain ⟨hl,_⟩:=eF h2;rw [if_pos h2,Zk,Zc (by unfold cN at hl;rwa [Zd] at hl)];exact ht _ (Zj _)
theorem OF {r:Ro} (hd:∀ x∈r.sr,0<=x.mx) (ht:∀ x∈r.ti,0<=x.to) {s:ByteArray} (h:s∈cG r\/s∈cN r):0<=jP r s:=by
 unfold jP;by_cases h1:0<=bA (cG r) s
 ·obtain ⟨hl,_⟩:=eF h1;rw [if_pos h1,Zk,Zc (by unfold cG at hl;rwa [Zd] at hl)];exact hd _ (Zj _)
 ·rw [if_neg h1];have h2:0<=bA (cN r) s:=by
   rcases h with h | h
   ·exact absurd (eE h) h1
   ·exact eE h
  obtain ⟨hl,_⟩:=eF h2;rw [if_pos h2,Zk,Zc (by unfold cN at hl;rwa [Zd] at hl)];exact ht _ (Zj _)
structure Br (r:Ro):Prop where
 Ii:DB r
 len:r.sr.length<=8/\r.de.length<=8/\r.ti.length<=6
 sm:∀ x∈r.sr,0<=x.mx/\x.mx<r.ma
 dm:∀ x∈r.de,0<=x.mx/\x.mx<r.ma
 tm:∀ x∈r.ti,(0<=x.fr/\x.fr<r.ma)/\(0<=x.to/\x.to<r.ma)/\x.fr≠x.to
 nm:∀ s∈bW r,fA s=true
variable {bf:List ByteArray} {f:ByteArray->ByteArray} {nY:Int}
theorem Ak {α:Type} {nm:α->ByteArray} {ck:α->Int} {l:List α} (h:eY nY bf nm ck l=0):∀ x∈l,fA (nm x)=true:=by
 intro x hx;obtain ⟨k,hk,rfl⟩:=Zx hx;unfold eY at h;split at h
 ·cases h
 ·have:=dV.1 h k hk;rw [nu hk,bS] at this;have:=(bI (by decide)).1 (this _ Zr);simpa using this
theorem prt {r:Ro} (h:jC r=0):Br r:=by
 obtain ⟨jZ,hlen,hs,hd,ht⟩:=An h;have h0:=h;unfold jC at h0;rw [bS] at h0;refine ⟨jZ,hlen,fun x hx=>fI.1 (hs x hx),fun x hx=>fI.1 (hd x hx),fun x hx=>?_,fun s hs=>?_⟩
 ·have:=ht x hx;unfold nk at this;rw [bS] at this;have g3:=(bI (by decide)).1 (this (bQ (decide (x.fr=x.to)) 24) (by simp));exact ⟨fI.1 (this _ (by simp)),fI.1 (this _ (by simp)),by simpa using g3⟩
 ·unfold bW cG bU cN at hs;rw [Zv,Zv,Zo,Zo,Zo] at hs;rcases hs with (⟨x,hx,rfl⟩ | ⟨x,hx,rfl⟩) | ⟨x,hx,rfl⟩
  ·exact Ak (h0 _ Zr) x hx
  ·exact Ak (h0 (eY 8 (cG r) De.nm (fun x=>fj r x.mx) r.de) (by simp)) x hx
  ·exact Ak (h0 (eY 6 (cG r++bU r) Ti.nm (nk r) r.ti) (by simp)) x hx
theorem Br.uL {r:Ro} (h:Br r):qw r:=KC h.Ii h.len.2.2
theorem Br.ne {r:Ro} (h:Br r) {s:ByteArray} (hs:s∈cG r\/s∈bU r\/s∈cN r):s≠⟨#[]⟩:=by
 have hm:s∈bW r:=by
  unfold bW;rw [Zv,Zv];rcases hs with h | h | h
  ·exact .inl (.inl h)
  ·exact .inl (.inr h)
  ·exact .inr h
 have:=h.nm s hm;intro e;rw [e] at this;exact absurd this (by decide)
theorem Br.nd {r:Ro} (h:Br r) {s:ByteArray} (hs:s∈cG r):s≠dash:=by
 have hm:s∈bW r:=by
  unfold bW;rw [Zv,Zv];exact .inl (.inl hs)
 have:=h.nm s hm;intro e;rw [e] at this;exact absurd this (by decide)
theorem L9 {r:Ro} (h1:nF r=0) (h2:jC r=0) (hV:gT r r.po):ew r=0:=by
 have hp:=prt h2;have h3:jR r r.po=0:=by
  refine dV.2 fun k hk=>?_;have hl:=hV.Ib _ (Zj hk);have ho:=Ap (fun x hx=>(hp.dm x hx).1) (fun x hx=>(hp.tm x hx).1.1) (hV.out _ (Zj hk))
  have hi:=OF (fun x hx=>(hp.sm x hx).1) (fun x hx=>(hp.tm x hx).2.1.1) (hV.uO _ (Zj hk))
  have hm:=hV.MQ _ (Zj hk);have e0:my r r.po[k]=0:=by
   unfold my;rw [bS];intro e he;simp only [ZO,Zp,or_false] at he;rcases he with rfl | rfl | rfl | rfl
   ·exact gC.2 (by omega)
   ·exact (bI (by decide)).2 (by simpa using ho)
   ·exact (bI (by decide)).2 (by simpa using hi)
   ·exact (bI (by decide)).2 (by simpa using hm)
  rw [rL hk,if_neg (not_not_intro e0)];refine if_neg ?_;by_cases MW:k=0
  ·rw [if_pos MW];exact pg.2 (by omega)
  ·rw [if_neg MW,Zc (by omega)];refine pg.2 ?_;have:=Zaa.1 hV.qd (k-1) k (by omega) hk (by omega);unfold pQ at this;simpa only [ZQ,Zl,decide_eq_true_eq] using this
 have h4:AF r=0:=by
  unfold AF;rw [bS];intro e he;simp only [ZO,Zp,or_false] at he;have hti:(cN r).length=r.ti.length:=by unfold cN;rw [Zd]
  rcases he with rfl | rfl
  ·refine (bI (by decide)).2 (lG.2 fun v _ _=>Zac.2 fun x hx hc=>?_);exact hV.BF v ⟨x.nm,Zo.2 ⟨x,hx,I⟩,by rw [hti];exact dZ.1 hc⟩
  ·refine (bI (by decide)).2 (lG.2 fun v _ _=>Zac.2 fun x hx hc=>?_);have:=hV.use v x.nm (Zo.2 ⟨x,hx,I⟩);unfold Ku at hc;cases a:nh r.po v x.nm <;> cases b:ig r.po v x.nm <;> rw [a,b] at hc this <;> simp at hc this
 unfold ew;rw [if_neg (not_not_intro h1),if_neg (not_not_intro h2),if_neg (not_not_intro h3),h4]
theorem wJ {r:Ro} (h:ew r=0) {q:List Po} (hV:gT r q):ew (r.wp q)=0:=by
 obtain ⟨h1,h2,_,_⟩:=mC h;exact L9 (r:=r.wp q) h1 h2 hV.wp
def tT (po:List Po) (v:Int):Nat->ByteArray->List ByteArray
 | 0,_=>[]
 | n+1,o=>if o=⟨#[]⟩ then [] else o::tT po v n ((ed po v o).getD ⟨#[]⟩)
theorem QQ (po:List Po) (v:Int):∀ n,tT po v n ⟨#[]⟩=[]
 | 0=>rfl
 | n+1=>by rw [tT,if_pos rfl]
theorem Ba {po:List Po} (hne:∀ p∈po,p.ip≠⟨#[]⟩) {v:Int}:∀ (n:Nat) {o:ByteArray},o≠⟨#[]⟩->tT po v (n+1) o=o::eX po v n o
 | 0,o,ho=>by rw [tT,if_neg ho];rfl
 | n + 1, o, ho => by
  rw [tT,if_neg ho];cases h:ed po v o with
  | none=>rw [ph h];exact congrArg _ (QQ po v _)
  | some i =>
   obtain ⟨p,hp,_,_,rfl⟩:=fb h;rw [ko h];exact congrArg _ (Ba hne n (hne p hp))
def MN (r:Ro) (x:Po):Int:=aW [gD x.lv 0 (r.lv-1),bQ (decide (dI r x.ou<0)) 10,bQ (decide (jP r x.ip<0)) 10,bQ (decide (jO r x.ou≠jP r x.ip)) 24]
theorem Oc {r:Ro} (h:Br r) (s:ByteArray):dI r s<0↔jO r s<0:=by
 rw [Km];constructor
 ·rintro ⟨a,b⟩;unfold jO;have f1:=cg.2 a;have f2:=cg.2 b;rw [if_neg (by omega),if_neg (by omega)];decide
 ·intro agY;constructor
  ·intro hd;have:=Ap (fun x hx=>(h.dm x hx).1) (fun x hx=>(h.tm x hx).1.1) (.inl hd)
   omega
  ·intro hd;have:=Ap (fun x hx=>(h.dm x hx).1) (fun x hx=>(h.tm x hx).1.1) (.inr hd)
   omega
theorem RP {r:Ro} (h:Br r) (x:Po):MN r x=my r x:=by
 unfold MN my;rw [show decide (dI r x.ou<0)=decide (jO r x.ou<0) from decide_eq_decide.2 (Oc h _)]
def Hg (r:Ro) (k:Nat):Int:=(r.po[k]?.map fun x=>if MN r x≠0 then MN r x else if 0<k/\(x.lv<((r.po[k-1]?).getD x).lv\/x.lv=((r.po[k-1]?).getD x).lv/\dI r x.ou<=dI r ((r.po[k-1]?).getD x).ou) then 11 else 0).getD 0
theorem RM {r:Ro} (h:Br r) {k:Nat} (hk:k<r.po.length):Hg r k=Hk r r.po k:=by
 unfold Hg;rw [Zc hk,rL hk,ZaP,Zal,RP h];by_cases e:my r r.po[k]=0
 ·rw [if_neg (not_not_intro e),if_neg (not_not_intro e)];have hl:=(nA e).1;by_cases MW:k=0
  ·rw [if_neg (by omega),if_pos MW,if_neg];exact pg.2 (by omega)
  ·rw [if_neg MW,Zc (show k-1<r.po.length by omega),Zal];have key:=@pg (r.po[k]).lv (dI r (r.po[k]).ou) (r.po[k-1]).lv (dI r (r.po[k-1]).ou);by_cases c:lT [(r.po[k]).lv,dI r (r.po[k]).ou] (Fh r (some r.po[k-1]))<=0
   ·rw [if_pos c,if_pos];have:¬ ((r.po[k-1]).lv<(r.po[k]).lv\/(r.po[k-1]).lv=(r.po[k]).lv/\dI r (r.po[k-1]).ou<dI r (r.po[k]).ou):=fun q=>(key.2 q) c
    omega
   ·rw [if_neg c,if_neg];have:=key.1 c;omega
 ·rw [if_pos e,if_pos e]
def UM (r:Ro):Int:=if j5 r fun v=>r.ti.any fun x=>decide ((tT r.po v 8 x.nm).length=8) then 33 else if j5 r fun v=>r.ti.any fun x=>nh r.po v x.nm != !decide ((ed r.po v x.nm).getD ⟨#[]⟩=⟨#[]⟩) then 32 else 0
theorem RQ {r:Ro} (h:Br r) (hp:jR r r.po=0):UM r=AF r:=by
 have OS:∀ p∈r.po,my r p=0:=fun p nQ=>by
  obtain ⟨k,hk,rfl⟩:=Zx nQ;have:=dV.1 hp k hk;rw [rL hk] at this;by_cases e:my r r.po[k]=0
  ·exact e
  ·rw [if_pos e] at this;exact this
 have Hz:∀ p∈r.po,p.ou∈bU r\/p.ou∈cN r:=fun p nQ=>Kv (fun x hx=>(h.dm x hx).1) (fun x hx=>(h.tm x hx).1.1) (nA (OS p nQ)).2.1
 have O1:∀ p∈r.po,p.ip∈cG r\/p.ip∈cN r:=fun p nQ=>KW (nA (OS p nQ)).2.2.1
 have hne:∀ p∈r.po,p.ip≠⟨#[]⟩:=fun p nQ=>h.ne ((O1 p nQ).elim .inl fun q=>.inr (.inr q))
 have yP:∀ x∈r.ti,x.nm≠⟨#[]⟩:=fun x hx=>h.ne (.inr (.inr (Zo.2 ⟨x,hx,I⟩)))
 have hti:(cN r).length=r.ti.length:=by unfold cN;rw [Zd]
 have e1:(j5 r fun v=>r.ti.any fun x=>decide ((tT r.po v 8 x.nm).length=8))=j5 r fun v=>r.ti.any (MZ r v):=by
  unfold j5;congr 1;funext i;have hc:=LW (po:=r.po) (v:=(i:Nat)) (T:=cN r) (gT.tie h.uL Hz O1) (by rw [hti];exact h.len.2.2);rw [Zbe,ZN,ZN];constructor
  ·rintro ⟨x,hx,e⟩;rw [decide_eq_true_eq,Ba hne 7 (yP x hx),ZI] at e;obtain ⟨t,ht,hm⟩:=hc.2 ⟨x.nm,Zo.2 ⟨x,hx,rfl⟩,by omega⟩;obtain ⟨y,hy,rfl⟩:=Zo.1 ht;exact ⟨y,hy,dZ.2 (by rw [<- hti];exact hm)⟩
  ·rintro ⟨x,hx,e⟩;obtain ⟨t,ht,hm⟩:=hc.1 ⟨x.nm,Zo.2 ⟨x,hx,rfl⟩,by rw [hti];exact dZ.1 e⟩;obtain ⟨y,hy,rfl⟩:=Zo.1 ht;refine ⟨y,hy,?_⟩;rw [decide_eq_true_eq,Ba hne 7 (yP y hy),ZI,hm]
 have e2:(j5 r fun v=>r.ti.any fun x=>nh r.po v x.nm != !decide ((ed r.po v x.nm).getD ⟨#[]⟩=⟨#[]⟩))=j5 r fun v=>r.ti.any (Ku r v):=by
  unfold j5;congr 1;funext i;dsimp only;congr 1;funext x;unfold Ku ig;have:(!decide ((ed r.po (i:Nat) x.nm).getD ⟨#[]⟩=⟨#[]⟩))=(ed r.po (i:Nat) x.nm).isSome:=by
   cases e:ed r.po (i:Nat) x.nm with
   | none=>rfl
   | some o =>
    obtain ⟨p,nQ,_,_,rfl⟩:=fb e;have:=hne p nQ;simp [this]
  rw [this];cases nh r.po (i:Nat) x.nm <;> cases (ed r.po (i:Nat) x.nm).isSome <;> rfl
 unfold UM AF;rw [e1,e2];cases (j5 r fun v=>r.ti.any (MZ r v)) <;> cases (j5 r fun v=>r.ti.any (Ku r v)) <;> rfl
def Ai (r:Ro):Int:=if jJ (Hg r) r.po.length≠0 then jJ (Hg r) r.po.length else UM r
theorem N4 {r:Ro} (h:Br r):Ai r=if jR r r.po≠0 then jR r r.po else AF r:=by
 have e:jJ (Hg r) r.po.length=jR r r.po:=E8 fun j hj _=>RM h hj
 unfold Ai;rw [e];by_cases c:jR r r.po=0
 ·rw [if_neg (not_not_intro c),if_neg (not_not_intro c),RQ h c]
 ·rw [if_pos c,if_pos c]
theorem Aj {α:Type} {nm:α->ByteArray} {ck:α->Int} {l:List α} (hn:(bf++l.map nm).Nodup) (hl:(l.length:Int)<=nY) (h1:∀ x∈l,fA (nm x)=true) (h2:∀ x∈l,ck x=0):eY nY bf nm ck l=0:=by
 unfold eY;rw [if_neg (by omega)];refine dV.2 fun k hk=>?_;rw [nu hk,bS];intro e he;simp only [ZO,Zp,or_false] at he;rcases he with rfl | rfl | rfl
 ·exact (bI (by decide)).2 (by rw [h1 _ (Zj hk)];rfl)
 ·refine (bI (by decide)).2 ?_;rw [<- Zax,dZ];intro hm;have e:l=l.take k++l[k]::l.drop (k+1):=by rw [<- Zu hk,ZV]
  rw [e,Zt,<- Zh,ZZ] at hn;have:=(ZB.1 hn).2.2;exact this _ hm _ Zr I
 ·exact h2 _ (Zj hk)
theorem Kh {r:Ro} (h:Br r):jC r=0:=by
 have hn:=h.Ii.nd;have hN:∀ {s},s∈bW r->fA s=true:=fun hs=>h.nm _ hs
 unfold jC;rw [bS];have hn2:(cG r++bU r).Nodup:=(ZB.1 (show ((cG r++bU r)++cN r).Nodup from hn)).1;have hl:=h.len;intro e he;simp only [ZO,Zp,or_false] at he;rcases he with rfl | rfl | rfl
 ·exact Aj (ZB.1 hn2).1 (by omega) (fun x hx=>hN (by unfold bW;rw [Zv,Zv];exact .inl (.inl (Zo.2 ⟨x,hx,I⟩)))) (fun x hx=>fI.2 (h.sm x hx))
 ·exact Aj hn2 (by omega) (fun x hx=>hN (by unfold bW;rw [Zv,Zv];exact .inl (.inr (Zo.2 ⟨x,hx,I⟩)))) (fun x hx=>fI.2 (h.dm x hx))
 ·refine Aj hn (by omega) (fun x hx=>hN (by unfold bW;rw [Zv];exact .inr (Zo.2 ⟨x,hx,I⟩))) (fun x hx=>?_);obtain ⟨a,b,c⟩:=h.tm x hx;unfold nk;rw [bS];intro e he;simp only [ZO,Zp,or_false] at he;rcases he with rfl | rfl | rfl
  ·exact fI.2 a
  ·exact fI.2 b
  ·exact (bI (by decide)).2 (by simpa using c)
def mor:ByteArray:=⟨#[109,111,114,101]⟩
theorem Oe {r:Ro} {s:ByteArray} (hs:s∈bU r\/s∈cN r):dI r s=if 0<=bA (bU r) s then bA (bU r) s else (r.de.length:Nat)+bA (cN r) s:=by
 unfold dI;by_cases c:s∈bU r
 ·rw [if_pos (eE c),if_pos (eE c)]
 ·have h2:=cg.2 c;rw [if_neg (by omega),if_pos (eE (hs.resolve_left c)),if_neg (by omega)]

def gX (a b s:ByteArray):ByteArray:=if s=a then b else s
def ll (a b:ByteArray) (x:Sr):Sr:=⟨gX a b x.nm,x.mx⟩
def lP (a b:ByteArray) (x:De):De:=⟨gX a b x.nm,x.mx,x.pr⟩
def lO (a b:ByteArray) (x:Ti):Ti:=⟨gX a b x.nm,x.fr,x.to⟩
def jt (a b:ByteArray) (x:Po):Po:=⟨x.lv,gX a b x.ou,gX a b x.ip⟩
def Ro.kp (r:Ro) (a b:ByteArray):Ro:=⟨r.lv,r.ma,r.sr.map (ll a b),r.de.map (lP a b),r.ti.map (lO a b),r.po.map (jt a b)⟩
theorem rG (r:Ro) (a b:ByteArray):cG (r.kp a b)=(cG r).map (gX a b):=by unfold cG Ro.kp;simp [ll,Function.comp_def]
theorem uF (r:Ro) (a b:ByteArray):bU (r.kp a b)=(bU r).map (gX a b):=by unfold bU Ro.kp;simp [lP,Function.comp_def]
theorem pK (r:Ro) (a b:ByteArray):cN (r.kp a b)=(cN r).map (gX a b):=by unfold cN Ro.kp;simp [lO,Function.comp_def]
theorem vB (r:Ro) (a b:ByteArray):bW (r.kp a b)=(bW r).map (gX a b):=by unfold bW;rw [rG,uF,pK,Zt,Zt]
theorem NU {a b x y:ByteArray} (hx:x≠b) (hy:y≠b) (h:gX a b x=gX a b y):x=y:=by
 unfold gX at h;by_cases c1:x=a <;> by_cases c2:y=a
 ·rw [c1,c2]
 ·rw [if_pos c1,if_neg c2] at h;exact absurd h.symm hy
 ·rw [if_neg c1,if_pos c2] at h;exact absurd h hx
 ·rwa [if_neg c1,if_neg c2] at h
theorem Js {a b x:ByteArray} (hx:x≠b):gX b a (gX a b x)=x:=by
 unfold gX;by_cases c:x=a
 ·rw [if_pos c,if_pos I,c]
 ·rw [if_neg c,if_neg hx]
theorem uW {f:ByteArray->ByteArray}:∀ {l:List ByteArray} {s:ByteArray},(∀ x∈l,f x=f s->x=s)->bA (l.map f) (f s)=bA l s
 | [],_,_=>rfl
 | x :: l, s, h => by
  rw [ZZ,bA,bA,uW fun y hy=>h y (ZW _ hy)]
  by_cases c:x=s
  ·rw [if_pos c,if_pos (by rw [c])]
  ·rw [if_neg c,if_neg fun e=>c (h x Zr e)]
theorem F7 {po:List Po} {v:Int} {o:ByteArray} (h:∀ p∈po,f p.ou=f o->p.ou=o):ed (po.map fun p=>⟨p.lv,f p.ou,f p.ip⟩) v (f o)=(ed po v o).map f:=by
 induction po with
 | nil=>rfl
 | cons p l ih =>
  have ih:=ih fun q hq=>h q (ZW _ hq)
  have hp:=h p Zr;unfold ed at ih ⊢;rw [ZZ,List.find?_cons,List.find?_cons];have e:Bh v (f o) ⟨p.lv,f p.ou,f p.ip⟩=Bh v o p:=by
   unfold Bh;dsimp only;congr 1;exact decide_eq_decide.2 ⟨hp,fun e=>by rw [e]⟩
  rw [e];cases Bh v o p with
  | true=>rfl
  | false=>exact ih
theorem GG {f:ByteArray->ByteArray} {po:List Po} {v:Int} {S:ByteArray->Prop} (VN:∀ x y,S x->S y->f x=f y->x=y) (ho:∀ p∈po,S p.ou) (hi:∀ p∈po,S p.ip):∀ (k:Nat) {o:ByteArray},S o->eX (po.map fun p=>⟨p.lv,f p.ou,f p.ip⟩) v k (f o)=(eX po v k o).map f
 | 0,_,_=>rfl
 | k + 1, o, hS => by
  have e:=F7 (f:=f) (v:=v) fun p hp e=>VN _ _ (ho p hp) hS e
  cases h:ed po v o with
  | none=>rw [h] at e;rw [ph h,ph e];rfl
  | some i =>
   rw [h] at e;obtain ⟨p,hp,_,_,rfl⟩:=fb h;rw [ko h,ko e,ZZ,GG VN ho hi k (hi p hp)]
theorem Hn {l:List ByteArray} (hn:l.Nodup) (h:∀ x∈l,∀ y∈l,f x=f y->x=y):(l.map f).Nodup:=by
 unfold List.Nodup at *;rw [Zba];exact (List.Pairwise.and_mem.1 hn).imp fun {a b} ⟨ha,hb,Gg⟩ e=>Gg (h a ha b hb e)
section
variable {r:Ro} {a b:ByteArray}
theorem gW {r:Ro} {s:ByteArray} (h:s∈cG r\/s∈bU r\/s∈cN r):s∈bW r:=by
 unfold bW;rw [Zv,Zv];rcases h with h | h | h
 ·exact .inl (.inl h)
 ·exact .inl (.inr h)
 ·exact .inr h
theorem kL (hb:b ∉ bW r):∀ x y,x∈bW r->y∈bW r->gX a b x=gX a b y->x=y:=fun x y hx hy h=>NU (a:=a) (b:=b) (fun e=>hb (by rw [<- e];exact hx)) (fun e=>hb (by rw [<- e];exact hy)) h
theorem JX (hb:b ∉ bW r) {s:ByteArray} (hs:s∈bW r):bA (bU (r.kp a b)) (gX a b s)=bA (bU r) s:=by
 rw [uF,uW fun x hx e=>kL hb x s (gW (.inr (.inl hx))) hs e]
theorem RF (hb:b ∉ bW r) {s:ByteArray} (hs:s∈bW r):bA (cG (r.kp a b)) (gX a b s)=bA (cG r) s:=by
 rw [rG,uW fun x hx e=>kL hb x s (gW (.inl hx)) hs e]
theorem Eo (hb:b ∉ bW r) {s:ByteArray} (hs:s∈bW r):bA (cN (r.kp a b)) (gX a b s)=bA (cN r) s:=by
 rw [pK,uW fun x hx e=>kL hb x s (gW (.inr (.inr hx))) hs e]
theorem Ct (hb:b ∉ bW r) {s:ByteArray} (hs:s∈bW r):dI (r.kp a b) (gX a b s)=dI r s:=by
 unfold dI;rw [JX hb hs,Eo hb hs];show (if _ then _ else if _ then (((r.de.map _).length:Nat):Int)+_ else _)=_
 rw [Zd]
theorem getD_map {α β:Type} (f:α->β) (l:List α) (n:Nat) (d:α):(l.map f).getD n (f d)=f (l.getD n d):=by
 rw [Zk,Zk,ZA];cases l[n]? <;> rfl
theorem Pd {α:Type} {l:List α} {n:Nat} (h:n<l.length) (d d':α):l.getD n d=l.getD n d':=by
 rw [Zk,Zk,Zc h];rfl
theorem AB {α β:Type} (f:α->β) (g:β->Int) (k:α->Int) (hg:∀ x,g (f x)=k x) {l:List α} {n:Nat} (h:n<l.length) (d:α) (d':β):g ((l.map f).getD n d')=k (l.getD n d):=by
 rw [Pd (by rwa [Zd]) d' (f d),getD_map,hg]
theorem NY (hb:b ∉ bW r) {s:ByteArray} (hs:s∈bW r):jO (r.kp a b) (gX a b s)=jO r s:=by
 unfold jO;rw [JX hb hs,Eo hb hs];by_cases c:0<=bA (bU r) s
 ·obtain ⟨hl,_⟩:=eF c;rw [if_pos c,if_pos c];exact AB (lP a b) De.mx De.mx (fun _=>rfl) (by unfold bU at hl;rwa [Zd] at hl) _ _
 ·rw [if_neg c,if_neg c];by_cases c:0<=bA (cN r) s
  ·obtain ⟨hl,_⟩:=eF c;rw [if_pos c,if_pos c];exact AB (lO a b) Ti.fr Ti.fr (fun _=>rfl) (by unfold cN at hl;rwa [Zd] at hl) _ _
  ·rw [if_neg c,if_neg c]
theorem NZ (hb:b ∉ bW r) {s:ByteArray} (hs:s∈bW r):jP (r.kp a b) (gX a b s)=jP r s:=by
 unfold jP;rw [RF hb hs,Eo hb hs];by_cases c:0<=bA (cG r) s
 ·obtain ⟨hl,_⟩:=eF c;rw [if_pos c,if_pos c];exact AB (ll a b) Sr.mx Sr.mx (fun _=>rfl) (by unfold cG at hl;rwa [Zd] at hl) _ _
 ·rw [if_neg c,if_neg c];by_cases c:0<=bA (cN r) s
  ·obtain ⟨hl,_⟩:=eF c;rw [if_pos c,if_pos c];exact AB (lO a b) Ti.to Ti.to (fun _=>rfl) (by unfold cN at hl;rwa [Zd] at hl) _ _
  ·rw [if_neg c,if_neg c]
theorem Br.kp (h:Br r) (hb:b ∉ bW r) (hn:fA b=true):Br (r.kp a b):=by
 refine ⟨⟨?_⟩,?_,fun x hx=>?_,fun x hx=>?_,fun x hx=>?_,fun s hs=>?_⟩
 ·rw [vB];exact Hn h.Ii.nd fun x hx y hy e=>kL hb x y hx hy e
 ·have:=h.len;show (r.sr.map _).length<=8/\(r.de.map _).length<=8/\(r.ti.map _).length<=6;rw [Zd,Zd,Zd];exact this
 ·obtain ⟨y,hy,rfl⟩:=Zo.1 hx;exact h.sm y hy
 ·obtain ⟨y,hy,rfl⟩:=Zo.1 hx;exact h.dm y hy
 ·obtain ⟨y,hy,rfl⟩:=Zo.1 hx;exact h.tm y hy
 ·rw [vB] at hs;obtain ⟨y,hy,rfl⟩:=Zo.1 hs;unfold gX;split
  ·exact hn
  ·exact h.nm y hy
theorem pB (h:gT r r.po):(∀ p∈r.po,p.ou∈bW r)/\∀ p∈r.po,p.ip∈bW r:=
 ⟨fun p hp=>gW ((h.out p hp).elim (fun e=>.inr (.inl e)) fun e=>.inr (.inr e)),fun p hp=>gW ((h.uO p hp).elim .inl fun e=>.inr (.inr e))⟩
theorem JU (r:Ro) (a b:ByteArray):(r.kp a b).po=r.po.map fun p=>⟨p.lv,gX a b p.ou,gX a b p.ip⟩:=rfl
theorem FO (h:gT r r.po) (hb:b ∉ bW r) {v:Int} (k:Nat) {o:ByteArray} (ho:o∈bW r):eX (r.kp a b).po v k (gX a b o)=(eX r.po v k o).map (gX a b):=by
 rw [JU];exact GG (S:=fun s=>s∈bW r) (kL hb) (pB h).1 (pB h).2 k ho
theorem gT.kp (h:gT r r.po) (hb:b ∉ bW r):gT (r.kp a b) (r.kp a b).po:=by
 obtain ⟨n1,n2⟩:=pB h;have n9:∀ v o,o∈bW r->ed (r.kp a b).po v (gX a b o)=(ed r.po v o).map (gX a b):=fun v o ho=>by
  rw [JU];exact F7 fun p hp e=>kL hb _ _ (n1 p hp) ho e
 refine ⟨?_,fun p hp=>?_,fun p hp=>?_,fun p hp=>?_,fun p hp=>?_,fun v ⟨t,ht,hc⟩=>?_,fun v t ht=>?_⟩
 ·show (r.po.map (jt a b)).Pairwise _;rw [Zba];refine (List.Pairwise.and_mem.1 h.qd).imp fun {p q} ⟨hp,hq,hpq⟩=>?_;have e1:=Ct (a:=a) hb (n1 p hp);have e2:=Ct (a:=a) hb (n1 q hq);unfold pQ at hpq ⊢;show (decide (p.lv<q.lv)||(decide (p.lv=q.lv)&&decide (dI (r.kp a b) (gX a b p.ou)<dI (r.kp a b) (gX a b q.ou))))=true;rw [e1,e2];exact hpq
 ·obtain ⟨q,hq,rfl⟩:=Zo.1 hp;exact h.Ib q hq
 ·obtain ⟨q,hq,rfl⟩:=Zo.1 hp;rw [uF,pK];exact (h.out q hq).elim (fun e=>.inl (ZU e)) fun e=>.inr (ZU e)
 ·obtain ⟨q,hq,rfl⟩:=Zo.1 hp;rw [rG,pK];exact (h.uO q hq).elim (fun e=>.inl (ZU e)) fun e=>.inr (ZU e)
 ·obtain ⟨q,hq,rfl⟩:=Zo.1 hp;show jO (r.kp a b) (gX a b q.ou)=jP (r.kp a b) (gX a b q.ip);rw [NY hb (n1 q hq),NZ hb (n2 q hq),h.MQ q hq]
 ·rw [pK] at ht hc;obtain ⟨u,hu,rfl⟩:=Zo.1 ht;have U9:=gW (r:=r) (.inr (.inr hu));rw [Zd,FO h hb _ U9] at hc;obtain ⟨x,hx,e⟩:=Zo.1 hc;have Yk:x∈bW r:=by
   obtain ⟨j,_,hj⟩:=pP.1 hx;rw [jF] at hj;cases hq:lQ r.po v j u with
   | none=>rw [hq] at hj;cases hj
   | some y =>
    rw [hq] at hj;have nZ:ed r.po v y=some x:=by
     have:(ed r.po v y).bind (lQ r.po v 0)=some x:=hj;cases hz:ed r.po v y with
     | none=>rw [hz] at this;cases this
     | some z=>rw [hz] at this;exact this
    obtain ⟨p,hp,_,_,rfl⟩:=fb nZ;exact n2 p hp
  have:x=u:=kL hb _ _ Yk U9 e;subst this;exact h.BF v ⟨x,hu,hx⟩
 ·rw [pK] at ht;obtain ⟨u,hu,rfl⟩:=Zo.1 ht;have U9:=gW (r:=r) (.inr (.inr hu));have e1:ig (r.kp a b).po v (gX a b u)=ig r.po v u:=by
   unfold ig;rw [n9 v u U9,Option.isSome_map]
  have e2:nh (r.kp a b).po v (gX a b u)=true↔nh r.po v u=true:=by
   rw [rj,rj];constructor
   ·rintro ⟨p,hp,x1,x2⟩;obtain ⟨q,hq,rfl⟩:=Zo.1 hp;exact ⟨q,hq,x1,kL hb _ _ (n2 q hq) U9 x2⟩
   ·rintro ⟨p,hp,x1,x2⟩;exact ⟨jt a b p,ZU hp,x1,by show gX a b p.ip=_;rw [x2]⟩
  rw [e1,e2];exact h.use v u hu
theorem GC (h:ew r=0) (hb:b ∉ bW r) (hn:fA b=true):ew (r.kp a b)=0:=by
 obtain ⟨h1,h2,_,_⟩:=mC h;exact L9 (r:=r.kp a b) h1 (Kh ((prt h2).kp hb hn)) ((rO h).val.kp hb)
theorem JY (h:ew r=0) (hb:b ∉ bW r):(r.kp a b).kp b a=r:=by
 obtain ⟨n1,n2⟩:=pB (rO h).val;have hx:∀ s∈bW r,gX b a (gX a b s)=s:=fun s hs=>Js fun e=>hb (e ▸ hs)
 have e1:(r.sr.map (ll a b)).map (ll b a)=r.sr:=by
  rw [Zat];refine (Zaq fun x DI=>?_).trans (List.map_id _);show (⟨gX b a (gX a b x.nm),x.mx⟩:Sr)=x;rw [hx _ (gW (.inl (Zo.2 ⟨x,DI,I⟩)))]
 have e2:(r.de.map (lP a b)).map (lP b a)=r.de:=by
  rw [Zat];refine (Zaq fun x DI=>?_).trans (List.map_id _);show (⟨gX b a (gX a b x.nm),x.mx,x.pr⟩:De)=x;rw [hx _ (gW (.inr (.inl (Zo.2 ⟨x,DI,I⟩))))]
 have e3:(r.ti.map (lO a b)).map (lO b a)=r.ti:=by
  rw [Zat];refine (Zaq fun x DI=>?_).trans (List.map_id _);show (⟨gX b a (gX a b x.nm),x.fr,x.to⟩:Ti)=x;rw [hx _ (gW (.inr (.inr (Zo.2 ⟨x,DI,I⟩))))]
 have e4:(r.po.map (jt a b)).map (jt b a)=r.po:=by
  rw [Zat];refine (Zaq fun x DI=>?_).trans (List.map_id _);show (⟨x.lv,gX b a (gX a b x.ou),gX b a (gX a b x.ip)⟩:Po)=x;rw [hx _ (n1 x DI),hx _ (n2 x DI)]
 unfold Ro.kp;dsimp only;rw [e1,e2,e3,e4]
theorem JV (h:ew r=0) (hb:b ∉ bW r) (hn:fA b=true) (ha:a∈bU r):bH (r.kp a b) b=bH r a:=by
 have ee:=rO h;have Vz:=rO (GC (a:=a) h hb hn);unfold bH;show (List.range r.lv.toNat).map _=_;refine Zaq fun v _=>?_;rw [th Vz.uL Vz.val,th ee.uL ee.val];have haA:=gW (r:=r) (.inr (.inl ha));have Gg:gX a b a=b:=if_pos I;have e1:fR (r.kp a b).po (v:Nat) 7 b=gX a b (fR r.po (v:Nat) 7 a):=by
  have:=FO (a:=a) ee.val hb (v:=(v:Nat)) 7 haA;rw [Gg] at this;unfold fR;rw [this,List.getLast?_map];cases (eX r.po (v:Nat) 7 a).getLast? with
  | none=>exact Gg.symm
  | some x=>rfl
 by_cases c:fR r.po (v:Nat) 7 a∈cG r
 ·have hne:fR r.po (v:Nat) 7 a≠a:=fun e=>ee.uL.sd _ c (by rw [e];exact ha)
  have e2:fR (r.kp a b).po (v:Nat) 7 b=fR r.po (v:Nat) 7 a:=by rw [e1];exact if_neg hne
  have c':fR r.po (v:Nat) 7 a∈cG (r.kp a b):=by
   rw [rG];exact Zo.2 ⟨_,c,if_neg hne⟩
  unfold qP;rw [e2,if_neg fun e=>cg.1 e c',if_neg fun e=>cg.1 e c]
 ·unfold qP;rw [if_pos (cg.2 c),if_pos (cg.2 _)];rw [e1,rG];intro hm;obtain ⟨x,hx,e⟩:=Zo.1 hm;have Yk:=gW (r:=r) (.inl hx);have hEA:fR r.po (v:Nat) 7 a∈bW r:=by
   by_cases ho:(ed r.po (v:Nat) a).isSome=true
   ·exact absurd (GH ee.uL ee.val _ a (Zz _) ho) c
   ·rw [pV (by simpa using ho)];exact haA
  have:=kL hb _ _ Yk hEA e;exact c (this ▸ hx)
end
end Go.Proofs.A1
namespace Go.Proofs.A1
open Go Go.SL
open Tryz
open Tryz renaming prog->T_
variable {k:Nat} {l:List Tk} {o:ByteArray} {po:List Po} {q:Bool} {t:Tk} {w:World}
theorem pI {r:Ro} (h:(fx r l).2.2=0):∃ q,iu r l (pb r l) l.length=some q/\fx r l=(r.wp q,0,0)/\¬ 0<=lq r l:=by
 unfold fx at h ⊢;by_cases c:0<=lq r l
 ·rw [if_pos c] at h;cases h
 ·rw [if_neg c] at h ⊢;show ∃ q,iu r l (xC (bU r) (jK r l l.length)) l.length=some q/\_;cases e:iu r l (xC (bU r) (jK r l l.length)) l.length with
  | none=>rw [e] at h;cases h
  | some q=>exact ⟨q,rfl,rfl,c⟩
theorem Cb {r:Ro}:(fx r l).2.2=0\/(fx r l).2.2=31/\0<=lq r l/\(fx r l).1=Ro.nil/\(fx r l).2.1=lq r l\/(fx r l).2.2=18/\¬ 0<=lq r l/\(fx r l).1=Ro.nil/\(fx r l).2.1=(Ae r l (pb r l):Nat)/\iu r l (pb r l) l.length=none:=by
 unfold fx;by_cases c:0<=lq r l
 ·rw [if_pos c];exact .inr (.inl ⟨I,c,I,I⟩)
 ·rw [if_neg c];show _\/_\/_/\_/\_/\_/\iu r l (xC (bU r) (jK r l l.length)) l.length=none;cases e:iu r l (xC (bU r) (jK r l l.length)) l.length with
  | none=>exact .inr (.inr ⟨rfl,c,rfl,rfl,rfl⟩)
  | some q=>exact .inl rfl
def GN (r:Ro) (t:Tk):List ByteArray:=(List.range r.lv.toNat).map fun k=>if t.at k=⟨#[]⟩ then k8 r (k:Nat) t.de else if t.at k=dash then ⟨#[]⟩ else t.at k
theorem Bd {r:Ro} {v:Int} (h:k8 r v o≠⟨#[]⟩):k8 r v o∈cG r:=by
 unfold k8 at h ⊢;split at h
 ·rename_i c;rw [if_pos c];rw [ZN] at c;obtain ⟨x,hx,e⟩:=c;rw [decide_eq_true_eq] at e;exact Zo.2 ⟨x,hx,e⟩
 ·exact absurd I h
theorem Mi {r:Ro} (h:tY r) {q:List Po} (hq:gT r q) (v:Int) (o:ByteArray):k8 (r.wp q) v o=qP q v (cG r) o:=th (h.wp hq).uL hq.wp v o
theorem mL {r:Ro} (dD:ew r=0) {l:List Tk} (hl:Bn r l) {q:List Po} (h0:iu r l (pb r l) l.length=some q) :
  gT r q/\(∀ t∈l,bH (r.wp q) t.de=GN r t)/\∀ y∈bU r,y ∉ l.map Tk.de->bH (r.wp q) y=bH r y:=by
 have h:=rO dD;have hp:=prt (mC dD).2.1;obtain ⟨k1,k2,k3⟩:=Ru h hl h0;refine ⟨k1,fun t ht=>?_,fun y hy hn=>?_⟩
 ·unfold bH GN;show (List.range r.lv.toNat).map _=_;refine Zaq fun k hk=>?_;have hk:=ZP.1 hk;have wb:=hl.lv t ht;have Y9:k<t.so.length:=by omega
  rw [Mi h k1];by_cases hd:od r t k=true
  ·rw [k3 t ht k Y9 hd,if_neg (lD.1 hd).1]
  ·have rf:¬ Uj r l (k:Nat) t.de:=by
    rintro ⟨t',Hw,i,hi,xu,e1,e2⟩;obtain ⟨x,hx,rfl⟩:=Zx ht;obtain ⟨x',DI,rfl⟩:=Zx Hw;have e:x=x':=Classical.byContradiction fun c=>y9 hl.nd hx DI c e2
    subst e;have:k=i:=by omega
    subst this;exact hd xu
   rw [k2 _ _ (hl.de t ht) rf,<- th h.uL h.val];by_cases e1:t.at k=⟨#[]⟩
   ·rw [if_pos e1]
   ·have e2:t.at k=k8 r (k:Nat) t.de:=Classical.byContradiction fun c=>hd (lD.2 ⟨e1,c⟩)
    have e3:t.at k≠dash:=hp.nd (by rw [e2];exact Bd (by rw [<- e2];exact e1));rw [if_neg e1,if_neg e3,e2]
 ·unfold bH;show (List.range r.lv.toNat).map _=_;refine Zaq fun k _=>?_;rw [Mi h k1,k2 _ _ hy fun ⟨t,ht,_,_,_,_,e⟩=>hn (Zo.2 ⟨t,ht,e.symm⟩),<- th h.uL h.val]
theorem O2 {r:Ro} {y:ByteArray} (hk:(k:Int)<r.lv):(bH r y)[k]? = some (k8 r (k:Nat) y):=by
 unfold bH;rw [ZA,Zbf (by omega)];rfl
theorem PE {r:Ro}:(cN r).length=r.ti.length:=by unfold cN;rw [Zd]
theorem tH {r:Ro}:iX r o=false↔o=⟨#[]⟩\/o=dash\/o∈cG r:=by
 unfold iX dash;rw [Bool.and_eq_false_iff,Bool.and_eq_false_iff,decide_eq_false_iff_not,decide_eq_false_iff_not,decide_eq_false_iff_not,cg];simp only [ne_eq,Zq,or_assoc];rw [Classical.not_not]
theorem j7 {r:Ro}:qy r l=0↔l≠[]/\Bn r l:=by
 have iF:∀ k (hk:k<l.length),xA r l k=0↔(l[k].de∈bU r/\(∀ j (hj:j<k),(l[j]'(by omega)).de≠l[k].de)/\(l[k].so.length:Int)=r.lv/\∀ s∈l[k].so,s=⟨#[]⟩\/s=dash\/s∈cG r):=by
  intro k hk;rw [qz hk,bS];have e1:mB r l[k].de=0↔l[k].de∈bU r:=by
   unfold mB;rw [bI (by decide),decide_eq_false_iff_not,cg,Classical.not_not]
  have e2:bQ ((l.take k).any fun y=>decide (y.de=l[k].de)) 9=0↔∀ j (hj:j<k),(l[j]'(by omega)).de≠l[k].de:=by
   rw [bI (by decide),Zac];constructor
   ·intro h j hj e;have hjt:j<(l.take k).length:=by rw [Zs];omega
    have:=h _ (Zj hjt);rw [ZaJ] at this;exact this (decide_eq_true e)
   ·intro h x hx e;obtain ⟨j,hj,rfl⟩:=Zx hx;rw [Zs] at hj;rw [ZaJ] at e;exact h j (by omega) (of_decide_eq_true e)
  have e3:bQ (decide ((l[k].so.length:Int)≠r.lv)) 2=0↔(l[k].so.length:Int)=r.lv:=by
   rw [bI (by decide),decide_eq_false_iff_not,ne_eq,Zq]
  have e4:bQ (l[k].so.any (iX r)) 10=0↔∀ s∈l[k].so,s=⟨#[]⟩\/s=dash\/s∈cG r:=by
   rw [bI (by decide),Zac];exact ⟨fun h s hs=>tH.1 (by have:=h s hs;rwa [Zax] at this),fun h s hs=>by rw [Zax];exact tH.2 (h s hs)⟩
  constructor
  ·intro h;exact ⟨e1.1 (h _ (by simp)),e2.1 (h _ (by simp)),e3.1 (h _ (by simp)),e4.1 (h _ (by simp))⟩
  ·rintro ⟨a,b,c,d⟩ e he;simp only [ZO,Zp,or_false] at he;rcases he with rfl | rfl | rfl | rfl
   ·exact e1.2 a
   ·exact e2.2 b
   ·exact e3.2 c
   ·exact e4.2 d
 have hA:D8 l=0↔l≠[]/\l.length<=8:=by
  unfold D8;rw [bS];constructor
  ·intro h;have a:=(bI (by decide)).1 (h (bQ (decide ((l.length:Int)=0)) 12) (by simp));have b:=(bI (by decide)).1 (h (bQ (decide ((8:Int)<(l.length:Nat))) 5) (by simp));rw [decide_eq_false_iff_not] at a b;exact ⟨fun e=>a (by rw [e];rfl),by omega⟩
  ·rintro ⟨a,b⟩ e he;simp only [ZO,Zp,or_false] at he;rcases he with rfl | rfl
   ·refine (bI (by decide)).2 (decide_eq_false fun e=>a (Z5 (by omega)))
   ·exact (bI (by decide)).2 (decide_eq_false (by omega))
 unfold qy;constructor
 ·intro h;by_cases c:D8 l=0
  ·rw [if_neg (not_not_intro c)] at h;have h:=dV.1 h;obtain ⟨c1,c2⟩:=hA.1 c;refine ⟨c1,fun t ht=>?_,?_,fun t ht=>?_,fun t ht=>?_,c2⟩
   ·obtain ⟨k,hk,rfl⟩:=Zx ht;exact ((iF k hk).1 (h k hk)).1
   ·show List.Pairwise _ _;rw [Zaa];intro i j hi hj xK;rw [Zd] at hi hj;rw [Z0,Z0];exact ((iF j hj).1 (h j hj)).2.1 i xK
   ·obtain ⟨k,hk,rfl⟩:=Zx ht;exact ((iF k hk).1 (h k hk)).2.2.1
   ·obtain ⟨k,hk,rfl⟩:=Zx ht;exact ((iF k hk).1 (h k hk)).2.2.2
  ·rw [if_pos c] at h;exact absurd h c
 ·rintro ⟨c1,h⟩;rw [if_neg (not_not_intro (hA.2 ⟨c1,h.y6⟩))];refine dV.2 fun k hk=>(iF k hk).2 ⟨h.de _ (Zj hk),fun j hj=>y9 h.nd (by omega) hk (by omega),h.lv _ (Zj hk),h.so _ (Zj hk)⟩
def jr (r:Ro) (t:Tk):Tk:=⟨t.de,(List.range r.lv.toNat).map fun k=>if t.at k=⟨#[]⟩ then ⟨#[]⟩ else if k8 r (k:Nat) t.de=⟨#[]⟩ then dash else k8 r (k:Nat) t.de⟩
theorem Nh {r:Ro} (hk:(k:Int)<r.lv):(jr r t).at k=if t.at k=⟨#[]⟩ then ⟨#[]⟩ else if k8 r (k:Nat) t.de=⟨#[]⟩ then dash else k8 r (k:Nat) t.de:=by
 unfold jr Tk.at
 dsimp only;rw [Zk,ZA,Zbf (by omega)];rfl
theorem Fy (r:Ro) (l:List Tk):(l.map (jr r)).map Tk.de=l.map Tk.de:=by rw [Zat];rfl
theorem Fx {r:Ro} (dD:ew r=0) {l:List Tk} (hl:Bn r l):Bn r (l.map (jr r)):=by
 have wb:=(rO dD).lim;refine ⟨fun t ht=>?_,by rw [Fy];exact hl.nd,fun t ht=>?_,fun t ht s hs=>?_,by rw [Zd];exact hl.y6⟩
 ·obtain ⟨x,hx,rfl⟩:=Zo.1 ht;exact hl.de x hx
 ·obtain ⟨x,hx,rfl⟩:=Zo.1 ht;unfold jr;simp;omega
 ·obtain ⟨x,hx,rfl⟩:=Zo.1 ht;obtain ⟨k,hk,rfl⟩:=Zo.1 hs;split
  ·exact .inl I
  ·split
   ·exact .inr (.inl I)
   ·rename_i c;exact .inr (.inr (Bd c))
theorem Iw {r:Ro} (dD:ew r=0) {l:List Tk} (hl:Bn r l) {q q':List Po} (h0:iu r l (pb r l) l.length=some q) (h1:iu (r.wp q) (l.map (jr r)) (pb (r.wp q) (l.map (jr r))) (l.map (jr r)).length=some q') {y:ByteArray} (hy:y∈bU r):bH (r.wp q') y=bH r y:=by
 obtain ⟨k1,k2,k3⟩:=mL dD hl h0;obtain ⟨j1,j2,j3⟩:=mL (wJ dD k1) ((Fx dD hl).wp q) h1;have T0:∀ y,bH ((r.wp q).wp q') y=bH (r.wp q') y:=fun _=>rfl
 by_cases c:y∈l.map Tk.de
 ·obtain ⟨t,ht,rfl⟩:=Zo.1 c;have e1:=j2 (jr r t) (ZU ht);rw [T0] at e1;show bH (r.wp q') (jr r t).de=_;rw [e1];unfold GN;show (List.range r.lv.toNat).map _=(List.range r.lv.toNat).map _;refine Zaq fun k hk=>?_;have hk:=ZP.1 hk;rw [Nh (by omega)];by_cases c1:t.at k=⟨#[]⟩
  ·rw [if_pos c1,if_pos I];have e2:=O2 (r:=r.wp q) (y:=t.de) (k:=k) (show (k:Int)<r.lv by omega);rw [k2 t ht] at e2;unfold GN at e2;rw [ZA,Zbf hk,ZaP,if_pos c1] at e2;exact (Option.some.inj e2).symm
  ·rw [if_neg c1];have hp:=prt (mC dD).2.1;by_cases c2:k8 r (k:Nat) t.de=⟨#[]⟩
   ·rw [if_pos c2,if_neg (by decide),if_pos I,c2]
   ·rw [if_neg c2,if_neg c2,if_neg (hp.nd (Bd c2))]
 ·rw [<- T0,j3 y hy (by rw [Fy];exact c),k3 y hy c]
def Ro.iD (r:Ro) (d:ByteArray) (q:Bool):Ro:=⟨r.lv,r.ma,r.sr,r.de.modify (bA (bU r) d).toNat fun x=>⟨x.nm,x.mx,q⟩,r.ti,r.po⟩
theorem lo (r:Ro) (d:ByteArray) (q:Bool):bU (r.iD d q)=bU r:=by
 unfold bU Ro.iD;dsimp only;apply Zan;intro i;rw [ZA,ZA,ZaX];cases r.de[i]? with
 | none=>rfl
 | some x=>dsimp only [Option.map_eq_map,Option.map];split <;> rfl
theorem vF (r:Ro) (d:ByteArray) (q:Bool):(r.iD d q).de.length=r.de.length:=List.length_modify _ _ _
theorem Kb (r:Ro) (d:ByteArray) (q:Bool) (s:ByteArray):jO (r.iD d q) s=jO r s:=by
 unfold jO;rw [lo];by_cases c:0<=bA (bU r) s
 ·rw [if_pos c,if_pos c];unfold Ro.iD;dsimp only;rw [Zk,Zk,ZaX];cases r.de[(bA (bU r) s).toNat]? with
  | none=>rfl
  | some x=>dsimp only [Option.map_eq_map,Option.map,Option.getD];split <;> rfl
 ·rw [if_neg c,if_neg c];rfl
theorem yF (r:Ro) (d:ByteArray) (q:Bool) (s:ByteArray):dI (r.iD d q) s=dI r s:=by
 unfold dI;rw [lo,vF];rfl
theorem gT.iD {r:Ro} {d:ByteArray} (h:gT r po):gT (r.iD d q) po:=by
 refine ⟨h.qd.imp fun {a b} Gg=>?_,h.Ib,fun p hp=>by rw [lo];exact h.out p hp,h.uO,fun p hp=>by rw [Kb];exact h.MQ p hp,h.BF,h.use⟩;unfold pQ at Gg ⊢;rw [yF,yF];exact Gg
theorem Br.iD {r:Ro} {d:ByteArray} (h:Br r):Br (r.iD d q):=by
 have ha:bW (r.iD d q)=bW r:=by unfold bW;rw [lo];rfl
 refine ⟨⟨by rw [ha];exact h.Ii.nd⟩,by rw [vF];exact h.len,h.sm,fun x hx=>?_,h.tm,by rw [ha];exact h.nm⟩;obtain ⟨i,hi,rfl⟩:=Zx hx;have we:i<r.de.length:=by rwa [vF] at hi
 have e:(r.iD d q).de[i].mx=r.de[i].mx:=by
  have:(r.iD d q).de[i]? = (r.de.modify (bA (bU r) d).toNat fun x=>⟨x.nm,x.mx,q⟩)[i]?:=rfl
  rw [ZaX,Zc hi,Zc we] at this;dsimp only [Option.map_eq_map,Option.map] at this;rw [Option.some.inj this];split <;> rfl
 rw [e];exact h.dm _ (Zj we)
theorem Ma {r:Ro} (h:ew r=0) (d:ByteArray) (q:Bool):ew (r.iD d q)=0:=by
 obtain ⟨h1,h2,_,_⟩:=mC h;exact L9 (r:=r.iD d q) h1 (Kh (prt h2).iD) (rO h).val.iD
theorem Hj (r:Ro) (d:ByteArray) (q:Bool) (y:ByteArray):bH (r.iD d q) y=bH r y:=rfl
theorem FQ {r:Ro} {d:ByteArray} (hd:d∈bU r):((r.iD d q).de.getD (bA (bU (r.iD d q)) d).toNat ⟨⟨#[]⟩,0,false⟩).pr=q:=by
 obtain ⟨hl,_⟩:=eF (eE hd);rw [lo];unfold Ro.iD;dsimp only;rw [Zk,ZaX,Zc (by unfold bU at hl;rwa [Zd] at hl)];dsimp only [Option.map_eq_map,Option.map,Option.getD];rw [if_pos I]
theorem vQ {r:Ro} (h:(r.de.getD (bA (bU r) t.de).toNat ⟨⟨#[]⟩,0,false⟩).pr=true):fx r (t::l)=(Ro.nil,0,31):=by
 have:lq r (t::l)=0:=by
  unfold lq fU;rw [ZI,List.range_succ_eq_map,List.find?_cons];simp only [Zav,ZaP,Zal,h]
  rfl
 unfold fx;rw [this];rfl
def ib (r:Ro) (d:ByteArray):Tk:=⟨d,List.replicate r.lv.toNat dash⟩
theorem GB {r:Ro} (h:0<=r.lv) {d:ByteArray} (hd:d∈bU r):Bn r [ib r d]:=by
 refine ⟨fun t ht=>?_,by simp,fun t ht=>?_,fun t ht s hs=>?_,by simp⟩ <;> rw [ZE.1 ht] at *
 ·exact hd
 ·unfold ib;rw [Z3];omega
 ·exact .inr (.inl (List.eq_of_mem_replicate hs))
theorem L8 {r:Ro} (dD:ew r=0) {d:ByteArray} (hd:d∈bU r) {q:List Po} (h0:iu r [ib r d] (pb r [ib r d]) 1=some q):gT r q/\bH (r.wp q) d=List.replicate r.lv.toNat ⟨#[]⟩:=by
 have wb:=(rO dD).lim;obtain ⟨k1,k2,_⟩:=mL dD (GB (by omega) hd) h0;refine ⟨k1,?_⟩;have e:=k2 (ib r d) (ZE.2 I);rw [show (ib r d).de=d from I] at e;rw [e];unfold GN;apply List.ext_getElem
 ·simp
 ·intro k h1 h2;rw [Z0,Zbm,List.getElem_replicate];have:(ib r d).at k=dash:=by
   unfold ib Tk.at
   dsimp only;rw [Z3] at h2;rw [Zk,ZbA,if_pos h2];rfl
  rw [this,if_neg (by decide),if_pos I]
theorem H3 {r:Ro} (dD:ew r=0) {v:Int} {t:ByteArray} (ht:t∈cN r) (hb:ig r.po v t=true):∃ y∈bU r,t∈oz r v y:=by
 have h:=rO dD;have h6:=h.uL.TR;have hs:=fun o m hm=>mT (T:=cN r) (gT.tie h.uL h.val.out h.val.uO) (h.val.BF v) o (m:=m) hm
 obtain ⟨p,hp,rfl,rfl⟩:=Be.1 hb;have hN:Nd r.po (bU r) p:=by
  refine KA (S:=r.po) (gT.one h.val.qd) (fun _ hp=>hp) (fun p hp=>?_) (h.val.acy.short h.uL) _ p hp (Zz _);rcases h.val.out p hp with hd | ht
  ·exact .inl hd
  ·obtain ⟨q,hq,e⟩:=rj.1 ((h.val.use p.lv p.ou ht).2 (Be.2 ⟨p,hp,rfl,rfl⟩));exact .inr ⟨q,hq,e⟩
 have key:∀ p,Nd r.po (bU r) p->∃ y∈bU r,∃ j,lQ r.po p.lv j y=some p.ou/\p∈r.po:=by
  intro p hN
  induction hN with
  | de hp hd=>exact ⟨_,hd,0,rfl,hp⟩
  | up hp hv hi _ ih =>
   obtain ⟨y,hy,j,hj,hq⟩:=ih;refine ⟨y,hy,j+1,?_,hp⟩;rw [<- hv,AJ hj,mg (gT.one h.val.qd) hq,hi]
 obtain ⟨y,hy,j,hj,_⟩:=key p hN;refine ⟨y,hy,?_⟩;cases j with
 | zero =>
  have:some y=some p.ou:=hj;exact absurd ht (h.uL.dt _ (Option.some.inj this ▸ hy))
 | succ j =>
  have hm:p.ou∈eX r.po p.lv (r.ti.length+1) y:=by
   have h1:p.ou∈eX r.po p.lv (j+1+(cN r).length+1) y:=pP.2 ⟨j,by omega,hj⟩;rw [hs y _ (by omega),PE] at h1;exact h1
  unfold oz;rw [if_neg (List.ne_nil_of_mem hm)];exact ZC _ (List.mem_reverse.2 hm)
structure Od where
 fr:Int
 tk:List Tk
def Od.zero:Od:=⟨0,[]⟩
def P1 (r:Ro) (l:List Od):Nat->Ro
 | 0=>r
 | i+1=>(fx (P1 r l i) (l.getD i Od.zero).tk).1
def CA (r:Ro) (l:List Od) (i:Nat):Int:=(fx (P1 r l i) (l.getD i Od.zero).tk).2.2
def PN (f:Nat->Int) (n:Nat):Nat:=((List.range n).find? fun i=>decide (f i≠0)).getD 0
def iL (r:Ro) (l:List Od):Ro×Int×Int:=if jJ (CA r l) l.length=0 then (P1 r l l.length,0,0) else (Ro.nil,(PN (CA r l) l.length:Nat),jJ (CA r l) l.length)
theorem PL {f:Nat->Int} {n i:Nat} (h:∀ j,j<i->f j=0) (hi:i<n) (hn:f i≠0):PN f n=i:=by
 unfold PN;have:(List.range n).find? (fun i=>decide (f i≠0))=some i:=by
  rw [ZaA];refine ⟨by simpa using hn,i,by simpa using hi,by simp,fun j hj=>?_⟩;simp [h j hj]
 rw [this];rfl
def MP (r:Ro) (l:List Od) (k:Nat):Int:=(l[k]?.map fun x=>aW [gD x.fr 0 10000000,bQ (decide (x.fr<=if k=0 then -1 else (l.getD (k-1) Od.zero).fr)) 11,qy r x.tk]).getD 0
def Xe (r:Ro) (l:List Od):Int:=if (16:Int)<(l.length:Nat) then 5 else jJ (MP r l) l.length
structure PT (r:Ro) (l:List Od):Prop where
 y6:l.length<=16
 fr:∀ k (h:k<l.length),0<=l[k].fr/\l[k].fr<=10000000
 inc:∀ i j (hi:i<l.length) (hj:j<l.length),i<j->l[i].fr<l[j].fr
 tk:∀ k (h:k<l.length),Bn r l[k].tk
theorem ods {r:Ro} {l:List Od} (h:Xe r l=0):PT r l:=by
 unfold Xe at h;by_cases c:(16:Int)<(l.length:Nat)
 ·rw [if_pos c] at h;cases h
 ·rw [if_neg c] at h;have h:=dV.1 h;have hk:∀ k (hk:k<l.length),(0<=l[k].fr/\l[k].fr<=10000000)/\(if k=0 then -1 else (l.getD (k-1) Od.zero).fr)<l[k].fr/\qy r l[k].tk=0:=fun k hk=>by
   have:=h k hk;unfold MP at this;rw [Zc hk,ZaP,Zal,bS] at this;have a:=gC.1 (this _ Zr);have b:=(bI (by decide)).1 (this (bQ (decide (l[k].fr<=if k=0 then -1 else (l.getD (k-1) Od.zero).fr)) 11) (by simp))
   rw [decide_eq_false_iff_not] at b;exact ⟨a,by omega,this _ (by simp)⟩
  have iZ:∀ k (xJ:k+1<l.length),l[k].fr<l[k+1].fr:=fun k xJ=>by
   have:=(hk (k+1) xJ).2.1;rwa [if_neg (by omega),ZaE,Zk,Zc (by omega),Zal] at this
  refine ⟨by omega,fun k h=>(hk k h).1,fun i j hi hj xK=>?_,fun k h=>(j7.1 (hk k h).2.2).2⟩
  induction j with
  | zero=>omega
  | succ j ih =>
   have:=iZ j hj;by_cases c:i=j
   ·subst c;exact this
   ·have:=ih (by omega) (by omega);omega
structure MD (r:Ro) (l:List Od) (i:Nat) (q:List Po):Prop where
 eq:P1 r l i=r.wp q
 val:gT r q
theorem MD.next {r:Ro} (dD:ew r=0) {l:List Od} (hl:PT r l) {i:Nat} (hi:i<l.length) {q:List Po} (h:MD r l i q) (h0:CA r l i=0):∃ q',MD r l (i+1) q'/\(∀ t∈l[i].tk,bH (r.wp q') t.de=GN (r.wp q) t)/\∀ y∈bU r,y ∉ l[i].tk.map Tk.de->bH (r.wp q') y=bH (r.wp q) y:=by
 unfold CA at h0;rw [h.eq,Zk,Zc hi,Zal] at h0;obtain ⟨q',e1,e2,_⟩:=pI h0;obtain ⟨k1,k2,k3⟩:=mL (wJ dD h.val) ((hl.tk i hi).wp q) e1;refine ⟨q',⟨?_,⟨k1.qd,k1.Ib,k1.out,k1.uO,k1.MQ,k1.BF,k1.use⟩⟩,k2,k3⟩;rw [P1,h.eq,Zk,Zc hi,Zal,e2];rfl
theorem I6 {r:Ro} (dD:ew r=0) {l:List Od} (hl:PT r l):∀ i,i<=l.length->(∀ j,j<i->CA r l j=0)->∃ q,MD r l i q
 | 0,_,_=>⟨r.po,rfl,(rO dD).val⟩
 | i + 1, hi, h => by
  obtain ⟨q,hq⟩:=I6 dD hl i (by omega) fun j hj=>h j (by omega);obtain ⟨q',xj,_⟩:=hq.next dD hl hi (h i (by omega));exact ⟨q',xj⟩
def iB (l:List Od) (f:Int):Nat:=l.findIdx fun x=>decide (f<x.fr)
theorem Rf (l:List Od) (f:Int):iB l f<=l.length:=List.findIdx_le_length
def RW (b:Nat) (r:Ro) (s d t p:Value) (l:List Po):List bd:=[RB b r s d t p,J1 r s,J2 r d,J3 r t,PB p l]
theorem UN {l:List Po} {i:Nat} (h:i<l.length) (cur:List Value):eo (gK l++cur) (i*3) 3=[.q l[i].lv,.string l[i].ou,.string l[i].ip]:=r7 (f:=Po.cells) (fun _=>rfl) h cur
theorem RR.wp {r:Ro} {s d t p':Value} (h1:Rd w s 2 (w9 r.sr)) (h2:Rd w d 3 (wz r.de)) (h3:Rd w t 3 (vk r.ti)) (h4:Rd w p' 3 (ud po)):RR w (r.wp po) s d t p':=⟨h1,h2,h3,h4⟩
set_option maxHeartbeats 2000000 in
theorem Nu {r:Ro} {s d t p:Value} {b:Nat} {fp:List Nat} (jv:fp.Nodup) (hs:cC (hp w) (RW b r s d t p r.po) fp) (cO:kE r) (Xs:r.po.length<=1000) :
  bb T_ 257 [.p b] w fp (fun x:Value×(Po->Bool)=>Sw r.po (bU r) x.2/\∀ q∈r.po,x.2 q=true->q.ou∈bU r\/∃ q'∈r.po,x.2 q'=true/\q'.lv=q.lv/\q'.ip=q.ou) (fun _=>.tuple #[]) (fun x=>RW b r s d t x.1 (r.po.filter x.2)):=by
 unfold RW RB PB at *;refine dU func257 I I jv hs ?_;refine Jr<|Ja I<|Jn<|J0 ?_
 refine a7 (ι:=Value×(Po->Bool)×Bool) (fun x=>Sw r.po (bU r) x.2.1/\(x.2.2=false->∀ q∈r.po,x.2.1 q=true->q.ou∈bU r\/∃ q'∈r.po,x.2.1 q'=true/\q'.lv=q.lv/\q'.ip=q.ou)) (fun x=>[(2,.bool x.2.2),(0,.p b)])
  (fun x=>RW b r s d t x.1 (r.po.filter x.2.1)) (fun x=>2*(r.po.filter x.2.1).length+if x.2.2 then 1 else 0) ?_ ?_
 ·apply aI (p,(fun _=>true),true) ⟨Sw.start _ _,fun h=>by cases h⟩
  case hs1=>exact cu
  case ht=>
   show bj _ [JP b r s d t p,J1 r s,J2 r d,J3 r t,row 188 3 p (r.po.filter fun _=>true).length (gK (r.po.filter fun _=>true))] _
   rw [ZaO.2 fun _ _=>rfl]
   exact .h5 .nil
 rintro ⟨p',f,fl⟩ ⟨Uc,sX⟩;dsimp only at Uc sX ⊢;unfold RW RB PB;cases fl with
 | false =>
  (refine Jq<|Jr<|Jv I<|Jn<|bE (.of I)<|Jp<|Jl<|Jo ?_)
  with_reducible first|apply aR|apply aS
  case he=>exact nS I
  case hR=>
   intro w' aA;exact aD (p',f) ⟨Uc,sX I⟩ (by exact .h5 .nil) aA I
 | true =>
  (refine Jq<|Jr<|Jv I<|Jn<|cL (.of I)<|Jk<|J0<|Jr<|Ja I<|Ji<|Jv I<|ab (dA (.of I)) I<|bP I I ae<|JL I .here I ?_)
  have ahF:(r.po.filter f).length<=r.po.length:=Z8 _ _;refine JN bz I (fun w1 aG=>HZ (bJ aG df I) (by omega)) ?_;intro cv _;dsimp only [id_eq,Zb,Za];refine aY (v:=cv) (by exact .here) fun ca cc e=>?_;subst e;refine JI I<|Jv I<|Jn<|J0 ?_;have pT:∀ k (h:k<(r.po.filter f).length),(gK (r.po.filter f)).length=(r.po.filter f).length*3:=fun _ _=>jg _
  refine a7 (ι:=Nat×Value×(Po->Bool)×Bool) (fun x=>x.1<=(r.po.filter f).length/\Sw r.po (bU r) x.2.2.1/\(x.2.2.2=false->x.2.2.1=f/\∀ i (hi:i<(r.po.filter f).length),i<x.1->(r.po.filter f)[i].ou∈bU r\/nh (r.po.filter f) (r.po.filter f)[i].lv (r.po.filter f)[i].ou=true)/\(x.2.2.2=true->(r.po.filter x.2.2.1).length<(r.po.filter f).length))
   (fun x=>[(12,.q (x.1:Nat)),(11,.q ((r.po.filter f).length:Nat)),(10,.slice ca (r.po.filter f).length cc),(2,.bool x.2.2.2),(0,.p b)])
   (fun x=>[JP b r s d t (x.2.1),J1 r s,J2 r d,J3 r t,row 188 3 x.2.1 (r.po.filter x.2.2.1).length (gK (r.po.filter x.2.2.1)),row 188 3 (.slice ca (r.po.filter f).length cc) (r.po.filter f).length (gK (r.po.filter f))]) (fun x=>(r.po.filter f).length-x.1) ?_ ?_
  ·apply aI (0,p',f,false) ⟨Zi _,Uc,fun _=>⟨I,fun i _ h=>absurd h (ZR i)⟩,fun h=>by cases h⟩
   case hs1=>exact cu
   case ht=>exact ng
  rintro ⟨k,p2,f2,fl⟩ ⟨hk,Pa,SZ,EW⟩;dsimp only at hk Pa SZ EW ⊢;by_cases aN:k<(r.po.filter f).length
  ·refine Jr<|JA I<|Jn<|Jq<|Jd I fun ar=>Jk<|Jq<|J0<|Jr ?_;refine cQ (E:=188) (sz:=3) (v:=.slice ca (r.po.filter f).length cc) eG (by omega) fun g ic cur e oU HC EN Gd=>?_;cases e;have c1:=UN aN cur
   (refine ab (au (.of I) (.of I) I (by omega) ar bn) I ?_;refine ab (bV (.of I) .here c1 I) I ?_;refine Jz I I fun _ _=>an (.of I) (.of I) .here I I (fq I I I) (bG I) ak ?_;refine Jn<|Jq ?_)
   generalize Bw:(r.po.filter f)[k].lv=pv;generalize rb:(r.po.filter f)[k].ou=po;generalize Qj:(r.po.filter f)[k].ip=pi;have Qu:∀ w',RR w' (r.wp (r.po.filter f2)) s d t p2->aj T_ 155 [.agg #[.q r.lv,.q r.ma,s,d,t,p2],.string po] w' (.q (bA (bU r) po)):=fun w' h=>fS (r:=r.wp (r.po.filter f2)) po h
   have hu0:∀ w',RR w' (r.wp (r.po.filter f2)) s d t p2->aj T_ 239 [.agg #[.q r.lv,.q r.ma,s,d,t,p2],.q pv,.string po] w' (.bool (nh (r.po.filter f2) pv po)):=fun w' h=>Iu (r:=r.wp (r.po.filter f2)) pv po h
   with_reducible refine ef 18 (by kernel_rfl) ?_
   (refine lH I I<|aO (dA (.of I)) I<|aO (cK bF) I<|pt I I ae<|aO (ie .here) I<|gQ ba I (fun w' aA=>(Qu w' (RR.wp (bM aA cA I) (bN aA df I) (bL aA eG I) (bJ aA kU I))))<|aO (nq (.of I) (.of I)) I<|lH I I<|dJ I I (fun hg bT=>(aX (.of I))) I<|dJ I I (fun hg bT=>(dA (.cD hg I))) I<|dJ I I (fun hg bT=>(bV (.cD hg I) bF ak (by rfl))) I<|dJ I I (fun hg bT=>(az (.of I) ae)) I<|dJ I I (fun hg bT=>(ag (.cD hg I) (At.lit .here I))) I<|dJ I I (fun hg bT=>(az (.of I) ae)) I<|dJ I I (fun hg bT=>(ag (.cD hg I) (At.lit .here I))) I<|wQ I I (fun hg=>(aZ (.of I) (.cons (.cD hg I) (.cons (.cD hg I) (.cons (.cD hg I) .nil))) inferInstance eQ)) I (fun hg w' aA=>(hu0 w' (RR.wp (bM aA cA I) (bN aA df I) (bL aA eG I) (bJ aA kU I))))<|dJ I I (fun hg bT=>(dX (.cD hg I))) I<|aO (c6 (.of I) I) I ?_)
   with_reducible refine er ?_
   (refine Jn<|qv I (fun ar=>?_) fun ar=>?_;refine Jr<|Jv I<|bP I I ae<|JL I .here I<|bP I I ae<|JL I .here I ?_;rotate_left;refine Jw<|Jj<|Jt<|Jg<|JB I (by omega)<|Jv I<|Jn ?_;rotate_right)
   ·obtain ⟨XA,Ym⟩:bA (bU r) po<0/\nh (r.po.filter f2) pv po=false:=by simpa using ar
    with_reducible apply eH (As:=[JP b r s d t p2,row 188 3 p2 (r.po.filter f2).length (gK (r.po.filter f2))])
    case hr=>exact eK
    case hd=>rfl
    case ht=>exact .cons bF (.cons eG .nil)
    case hc=>
     intro w1 BE aG uf hs1 DN jZ;exact ye (r:=r) (s:=s) (d:=d) (t:=t) (p:=p2) (b:=b) (l:=r.po.filter f2) pv po uf hs1 (by have:=Z8 f2 r.po;omega)
    intro p3 _;dsimp only [id_eq,Zb,Za];unfold RB PB;rw [tQ];refine Jn<|Jg<|Ja I<|Jx<|Jj<|Jt<|Jg<|JB I (by omega)<|Jv I<|Jn ?_;refine cH (E:=188) (sz:=3) (g:=g) cA oU HC EN Gd ?_;apply aL (k+1,p3,(fun x=>f2 x&&!yI pv po x),true) ⟨by show k+1<=_;omega,Pa.step (cg.1 XA) (fun q hq hf e=>by
     have:=rj.2 ⟨q,Zy.2 ⟨hq,hf⟩,e⟩;rw [Ym] at this;cases this),(fun h=>by cases h),fun _=>by
      show (r.po.filter fun x=>f2 x&&!yI pv po x).length<_
      rw [<- tQ];cases fl with
      | true=>exact Nat.lt_of_le_of_lt (Z8 _ _) (EW rfl)
      | false =>
       obtain ⟨rfl,_⟩:=SZ rfl;refine List.length_filter_lt_length_iff_exists.2 ⟨_,Zj aN,?_⟩;unfold yI;rw [Bw,rb];simp⟩ (by show (r.po.filter f).length-(k+1)<(r.po.filter f).length-k;omega)
    case hs1=>exact cu
    case ht=>exact ng
   ·have Ub:¬ (decide (bA (bU r) po<0)&&!nh (r.po.filter f2) pv po)=true:=by
     simp only [Zl,decide_eq_true_eq,Zbu,not_and,Bool.not_eq_false] at ar ⊢;exact fun c=>ar.resolve_left (fun q=>q c)
    refine cH (E:=188) (sz:=3) (g:=g) (by exact Take.there .here) oU HC EN Gd ?_;apply aL (k+1,p2,f2,fl) ⟨by show k+1<=_;omega,Pa,(fun h=>⟨(SZ h).1,fun i hi Xx=>by
     by_cases e:i=k
     ·subst e;rw [Bw,rb];obtain ⟨e1,_⟩:=SZ h;rw [e1] at Ub;by_cases c:bA (bU r) po<0
      ·right
       cases c2:nh (r.po.filter f) pv po with
       | true=>rfl
       | false=>exact absurd (show (decide (bA (bU r) po<0)&&!nh (r.po.filter f) pv po)=true by rw [c2,decide_eq_true c];rfl) Ub
      ·exact .inl (Classical.byContradiction fun q=>c (cg.2 q))
     ·exact (SZ h).2 i hi (show i<k by have:i<k+1:=Xx;omega)⟩),EW⟩ (by show (r.po.filter f).length-(k+1)<(r.po.filter f).length-k;omega)
    case hs1=>exact cu
    case ht=>exact .cons bF (.cons bF (.cons bF (.cons bF (.cons bF (.h1 .nil)))))
  ·have e:k=(r.po.filter f).length:=by omega
   subst e;refine Jr<|JA I<|Jn<|Jq<|Jc I fun ar=>Jp<|Jl<|Jo<|Jj<|Jt ?_;apply aL (p2,f2,fl) ⟨Pa,fun h q hq hf=>by
    obtain ⟨rfl,h2⟩:=SZ h;obtain ⟨i,hi,rfl⟩:=Zx (Zy.2 ⟨hq,hf⟩);rcases h2 i hi hi with e | e
    ·exact .inl e
    ·obtain ⟨q',xj,e'⟩:=rj.1 e;obtain ⟨x1,x2⟩:=Zy.1 xj;exact .inr ⟨q',x1,x2,e'⟩⟩ (by
    show 2*(r.po.filter f2).length+(if fl then 1 else 0)<2*(r.po.filter f).length+(if true then 1 else 0)
    cases fl with
    | true=>have:=EW rfl;simp only [if_true];omega
    | false=>rw [(SZ rfl).1];simp)
   case hs1=>exact cu
   case ht=>exact ng
end Go.Proofs.A1
namespace Go.SL
open Go
section
variable {P:Program} {r:Option Nat} {c:Cx} {D:List Nat} {sl:aH} {hs hs' hs2:List bd} {Q:Exit->Act->World->Prop} {ops:Array Oper} {d:Nat} {dst:Option Tmp} {ty:TypeId} {pos:String} {af:Array Edge} {g:Option (Nat×Bool)} {rest:List Oper} {κ:Type} [DecidableEq κ] {kv:κ->Value}
theorem GZ {X:Act->World->Prop} {b:Nat} {l:List (κ×Value)} (ht:Take hs (mp kv b l) hs') (k:∀ es ck,KD kv l es ck->Tr c D sl (bo b (.map es ck)::hs') X):Tr c D sl hs X:=fun a w bh=>by
 have hm:=bh.mem.take (ht.append _);obtain ⟨kk,fp,hn,⟨f1,f2,rfl,⟨e,es,ck,h1,h2⟩,h3⟩,EW⟩:=hm;exact k es ck h2 a w (bh.heap ⟨kk,f1++f2,hn,⟨f1,f2,I,⟨e,h1⟩,h3⟩,EW⟩)
end
end Go.SL
namespace Go.Proofs.A1
open Go Go.SL
open Tryz
open Tryz renaming prog->T_
theorem Du {r:Ro} {v:Int} {i:Nat}:∀ {q:List Nat} {po:List Po} {x:ByteArray},qU r v po x (q++[i])=(if ig (qU r v po x q).1 v (hP r i) then (qU r v po x q).1 else (qU r v po x q).1++[⟨v,hP r i,(qU r v po x q).2⟩],hP r i)
 | [],po,x=>rfl
 | j :: q, po, x => by
  rw [Zb,qU,qU];exact Du
theorem Bi {r:Ro} {v:Int}:∀ (q:List Nat) (po:List Po) (x:ByteArray),(qU r v po x q).1.length<=po.length+q.length
 | [],po,x=>Zz _
 | j :: q, po, x => by
  rw [qU];refine ZX (Bi q _ _) ?_;rw [ZI];split
  ·omega
  ·rw [Zg,Zbp];omega
theorem GK {r:Ro} {v:Int}:∀ (q:List Nat) (po:List Po) (x:ByteArray),(∀ i∈q,i<r.ti.length)->(∀ p∈po,p.ou∈bU r\/p.ou∈cN r)->∀ p∈(qU r v po x q).1,p.ou∈bU r\/p.ou∈cN r
 | [],po,x,_,h=>h
 | j :: q, po, x, hi, h => by
  rw [qU];refine GK q _ _ (fun i we=>hi i (ZW _ we)) fun p hp=>?_;split at hp
  ·exact h p hp
  ·rcases Zv.1 hp with hp | hp
   ·exact h p hp
   ·rw [ZE.1 hp];exact .inr (ux (hi j Zr))
variable {i:Nat} {l:List Ti}
theorem Ux (h:i<l.length) (cur:List Value):eo (l6 l++cur) (i*3) 3=[.string l[i].nm,.q l[i].fr,.q l[i].to]:=r7 (f:=Ti.cells) (fun _=>rfl) h cur
theorem Rk (h:i<l.length) (cur:List Value):(l6 l++cur)[i*3]? = some (.string l[i].nm):=by
 have:=tU (cs:=l6 l++cur) (o:=i*3) (n:=3) (j:=0) (by omega);rw [Ux h cur,Zau] at this;exact this.symm
theorem FT (l:List Po) (q:Po):gK (l++[q])=gK l++[.q q.lv,.string q.ou,.string q.ip]:=by
 unfold gK ud;simp [Po.cells]
theorem RT {r:Ro} {x y:Po}:RU r x y<0↔pQ r x y=true:=by
 rw [uH];unfold pQ;simp
set_option maxHeartbeats 2000000 in
theorem UB {r:Ro} {s d t p:Value} {b:Nat} {po:List Po} {xv:Value} {xp:List Nat} (xf:Nat) (v:Int) (so de:ByteArray) {w:World} {fp:List Nat} (jv:fp.Nodup) (hs:cC (hp w) [RB b r s d t p,J1 r s,J2 r d,J3 r t,PB p po,row 3 1 xv xp.length (gp xp)] fp)
  (cO:kE r) (Xs:po.length<=1000) (hxf:xp.length<=100) (hd:DB r) (hi:∀ i∈xp,i<r.ti.length) (Hz:∀ q∈po,q.ou∈bU r\/q.ou∈cN r) (lR:de∈bU r) (hV:(lN r po v so xp de).Pairwise (fun a b=>pQ r a b=true)) :
  bb T_ 258 [.p b,.q v,.string so,.agg #[xv,.q (xf:Nat)],.string de] w fp (fun _:Value=>True) (fun _=>.tuple #[]) (fun p'=>[RB b r s d t p',J1 r s,J2 r d,J3 r t,PB p' (lN r po v so xp de),row 3 1 xv xp.length (gp xp)]):=by
 unfold RB PB at *;refine dU func258 I I jv hs ?_;refine aY (v:=xv) eG fun xa xc e=>?_;subst e;refine aY (v:=t) cA fun ta tc e=>?_;subst e;refine aY (v:=p) df fun pa pc e=>?_;subst e
 (refine Jr<|Jy I I fun _ _=>Ji<|Jv I<|Ja I<|Jn<|Jq<|Jr<|bP I I ae<|JL I .here I<|JI I<|Jv I<|Jn<|J0 ?_)
 rename_i b8 hb8
 refine a7 (ι:=Nat×Value) (fun y=>y.1<=xp.length) (fun y=>[(19,.q (y.1:Nat)),(18,.q (xp.length:Nat)),(17,.slice xa xp.length xc),(10,.string (qU r v po so (xp.take y.1)).2),(0,.p b),(1,.q v),(4,.string de)])
  (fun y=>[JP b r s d (.slice ta r.ti.length tc) (y.2),J1 r s,J2 r d,row 187 3 (.slice ta r.ti.length tc) r.ti.length (l6 r.ti),row 188 3 y.2 (qU r v po so (xp.take y.1)).1.length (gK (qU r v po so (xp.take y.1)).1),row 3 1 (.slice xa xp.length xc) xp.length (gp xp)]) (fun y=>xp.length-y.1) ?_ ?_
 ·apply aI (0,.slice pa po.length pc) (Zi _)
  case hs1=>
   show lI _ [(19,.q (0:Nat)),(18,.q (xp.length:Nat)),(17,.slice xa xp.length xc),(10,.string so),(0,.p b),(1,.q v),(4,.string de)];exact .cons I (.cons I (.cons I (.cons I (.cons I (.cons I (.cons I .nil))))))
  case ht=>
   exact .cons (.there .here) (.cons (.there .here) (.cons (.there .here) (.cons (.there .here) (.cons (.there .here) (.cons (.there .here) .nil)))))
 rintro ⟨k,pv⟩ hk;dsimp only at hk ⊢;have S7:=Bi (r:=r) (v:=v) (xp.take k) po so;rw [Zs] at S7;by_cases aN:k<xp.length
 ·have sT:qU r v po so (xp.take (k+1))=(if ig (qU r v po so (xp.take k)).1 v (hP r xp[k]) then (qU r v po so (xp.take k)).1 else (qU r v po so (xp.take k)).1++[⟨v,hP r xp[k],(qU r v po so (xp.take k)).2⟩],hP r xp[k]):=by
   rw [Zn aN,Du]
  have hix:=hi _ (Zj aN);have yP:hP r xp[k]=(r.ti[xp[k]]).nm:=by unfold hP;rw [nj hix]
  generalize qU r v po so (xp.take k)=A at sT S7 ⊢;obtain ⟨q,la⟩:=A;dsimp only at sT S7 ⊢;refine aY (E:=188) (sz:=3) (v:=pv) df fun va vc e=>?_;subst e;refine Jr<|JA I<|Jn<|Jq<|Jd I fun ar=>Jk<|Jq<|J0<|Jr ?_;refine cQ (E:=3) (sz:=1) (v:=.slice xa xp.length xc) eG (by omega) fun g1 c1 u1 e kc aG hz1 VJ=>?_;cases e;have a1:=CG aN u1;generalize hxk:xp[k]=ik at *
  (refine ab (au (.of I) (.of I) I (by omega) ar bn) I ?_;refine ab (ag (.of I) (At.mW .here a1)) I ?_;refine Ja I<|Ji<|Jv I<|ab (dA (.of I)) I ?_;refine bP I I ae ?_;refine JL I (.there .here) I<|Jv I ?_)
  refine cQ (E:=187) (sz:=3) (v:=.slice ta r.ti.length tc) df (by omega) fun g2 c2 u2 e jS k6 hz2 Gc=>?_;cases e;have a2:=Rk hix u2;rw [<- yP] at a2
  (refine ab (au (.of I) (.of I) I (by omega) (by omega) bn) I<|bP I I ae<|ab (ag (.of I) (At.mW .here a2)) I<|Ja I<|Jn<|Jq<|Jr<|Jv I<|ab (dA (.of I)) I<|ab (cK bF) I<|Jv I<|Jv I ?_)
  refine cH (E:=187) (sz:=3) (g:=g2) (by exact .here) jS k6 hz2 Gc ?_;refine cH (E:=3) (sz:=1) (g:=g1) (by exact Take.there .here) kc aG hz1 VJ ?_;refine ai eK I (fun w' aA=>qS (r:=r.wp q) v (hP r ik) (RR.wp (bM aA cA I) (bN aA df I) (bL aA (by exact Take.there .here) I) (bJ aA eG I))) ?_;have nf:ig (r.wp q).po v (hP r ik)=ig q v (hP r ik):=rfl;rw [nf];have T1:(gK q).length=q.length*3:=jg q;cases C4:ig q v (hP r ik) with
  | false =>
   rw [C4,if_neg (by decide)] at sT;have YM:gK (q++[⟨v,hP r ik,la⟩])=gK q++[.q v,.string (hP r ik),.string la]:=FT _ _;have Bw:(q++[(⟨v,hP r ik,la⟩:Po)]).length=q.length+1:=by simp
   (refine JH I<|Jn<|cL (.of I)<|Jg<|Jv I<|Jv I<|ab (dA (.of I)) I<|bP I I ae<|JL I bF I<|Jv I<|Jv I<|Jv I<|ab (aU (.o I (.o I (.o I .nil))) ak) I<|bu (bB (.o I .nil) I I bR bR ak) I fun _ _=>?_)
   refine bK (.of I) (.of I) kU .here ak (by rfl) (fq I I I) (by rfl) (by rfl) (by rfl) fa (by rfl) ?_;intro v';refine aY (by exact .here) fun a' ic e=>?_;subst e
   (refine ab (dA (.of I)) I<|bP I I ae<|an (.of I) (.of I) df I I (eL I) (bG I) ak<|Jn<|Jg<|Jv I<|Ja I<|Jx<|Jj<|Jt<|Jg<|JB I (by omega)<|Jv I<|Jn ?_)
   apply aL (k+1,.slice a' (q.length+1) ic) (by show k+1<=_;omega) (by show xp.length-(k+1)<xp.length-k;omega)
   case hs1=>
    dsimp only;rw [sT];exact .cons I (.cons I (.cons I (.cons I (.cons I (.cons I (.cons I .nil))))))
   case ht=>
    dsimp only;rw [sT];dsimp only;rw [Bw,YM];exact .h1 (.cons df (.cons df (.cons cA (.h1 (.cons (.there .here) .nil)))))
  | true =>
   rw [C4,if_pos I] at sT
   (refine JH I<|Jn<|bE (.of I)<|Jk<|Jg<|Jv I<|Ja I<|Jx<|Jj<|Jt<|Jg<|JB I (by omega)<|Jv I<|Jn ?_)
   apply aL (k+1,.slice va q.length vc) (by show k+1<=_;omega) (by show xp.length-(k+1)<xp.length-k;omega)
   case hs1=>
    dsimp only;rw [sT];exact .cons I (.cons I (.cons I (.cons I (.cons I (.cons I (.cons I .nil))))))
   case ht=>
    dsimp only;rw [sT];exact .cons bF (.cons bF (.cons bF (.cons (.there .here) (.cons (.there .here) (.h1 .nil)))))
 ·have e:k=xp.length:=by omega
  subst e;rw [ZL] at *;refine aY (E:=188) (sz:=3) (v:=pv) df fun va vc e=>?_;subst e
  (refine Jr<|JA I<|Jn<|Jq<|Jc I fun ar=>Jp<|Jl<|Jo<|Jt<|Jr<|Jv I<|Jv I<|ab (dA (.of I)) I<|bP I I ae<|JL I .here I<|Jv I<|Jv I<|Jv I<|ab (aU (.o I (.o I (.o I .nil))) ak) I<|bu (bB (.o I .nil) I I bR bR ak) I fun _ _=>?_)
  refine bK (.of I) (.of I) eG .here ak (by rfl) (fq I I I) (by rfl) (by rfl) (by rfl) fa (by rfl) ?_;intro v';refine aY (by exact .here) fun a' ic e=>?_;subst e
  (refine ab (dA (.of I)) I<|bP I I ae<|an (.of I) (.of I) bF I I (eL I) (bG I) ak<|Ji<|Jv I<|ab (dA (.of I)) I<|ab (cK .here) I ?_)
  have hAo:=GK (r:=r) (v:=v) xp po so hi Hz;have qe:∀ S:List Po,S.Perm ((qU r v po so xp).1++[⟨v,de,(qU r v po so xp).2⟩])->S.Pairwise (fun a b=>¬ RU r b a<0)->S=lN r po v so xp de:=fun S h1 h2=>IY hV h1 (h2.imp fun h=>fun c=>h (RT.2 c))
  have ah5:=Bi (r:=r) (v:=v) xp po so;generalize qU r v po so xp=A at *;obtain ⟨q,la⟩:=A;dsimp only at *;have YM:gK (q++[⟨v,de,la⟩])=gK q++[.int .i64 v,.string de,.string la]:=FT _ _;have Bw:(q++[(⟨v,de,la⟩:Po)]).length=q.length+1:=by simp
  rw [<- YM,<- Bw];have iO:∀ y∈q++[(⟨v,de,la⟩:Po)],fv (bW r) y.ou=true:=fun y hy=>by
   rw [dZ];rcases Zv.1 hy with hy | hy
   ·exact gW ((hAo y hy).elim (fun e=>.inr (.inl e)) fun e=>.inr (.inr e))
   ·rw [ZE.1 hy];exact gW (.inr (.inl lR))
  have hlen:(q++[(⟨v,de,la⟩:Po)]).length<=100000:=by omega
  generalize q++[(⟨v,de,la⟩:Po)]=L at *;refine JN bz I (fun w1 aG=>Am (r:=r.wp L) (RR.wp (bM aG cA I) (bN aG df I) (bL aG eG I) (bJ aG (by exact Take.there .here) I)) (by have:=cO;unfold kE at this;show r.de.length+r.ti.length<=_;omega)) ?_;intro bm _;dsimp only [id_eq,Zb,Za];rw [show nw (r.wp L)=nw r from I]
  (refine Jz I I fun _ _=>an (.of I) (.of I) .here I I (eL I) (bG I) ak<|Jn<|Jg<|Jv I<|ab (dA (.of I)) I<|bP I I ae<|JL I bF I<|ab (bD .nil (.o I .nil)) I ?_)
  rename_i b61 ahS M1 ah3;refine GZ (b:=bm) (l:=nw r) (kv:=fun s:ByteArray=>Value.string s) (by exact Take.there .here) fun es ck ee=>?_
  with_reducible apply eH (As:=[row 188 3 (.slice a' L.length ic) L.length (gK L)])
  case hr=>exact ba
  case hd=>rfl
  case ht=>exact .cons cA .nil
  case hc=>
   intro w1 BE aG uf hs1 DN jZ;have h14:M1 ∉ BE:=jZ M1 _ _ (by exact Take.there .here);have Qz:bm ∉ BE:=jZ bm _ _ (by exact .here);have f14:w1.cell? ⟨M1,0,none⟩=some (.map (some bm)):=At.lit (by exact Take.there .here) I w1 aG;exact IV (r:=r) (l:=L) hs1 hd iO (by omega) f14 ⟨es,ck,aG.bo (by exact .here),ee⟩ h14 Qz
  rintro S ⟨hSp,Uc⟩;rw [qe S hSp Uc];have hlS:S.length=L.length:=hSp.length_eq;dsimp only [id_eq,Zb,Za];unfold PB;have hzl:(lN r po v so xp de).length=L.length:=by rw [<- qe S hSp Uc];exact hlS
  refine DZ ?_
  with_reducible first|apply aR|apply aS
  case he=>exact nS I
  case hR=>
   intro w' aA;exact aD (.slice a' L.length ic) trivial (by exact .cons cA (.cons df (.cons df (.cons df (.h1 (.cons cA .nil)))))) aA I
end Go.Proofs.A1
namespace Go.SL
open Go
theorem mh {P:Program} {c:Cx} {sl:aH} {hs hs':List bd} {fn:Func} {s t u:Tmp} {T:TypeId} {b o n:Nat} {cs vs:List Value} {E:TypeId} {fz:Nat×Nat} {x y:Value} (h:fn.results=#[.cell t T,.tmp s,.tmp u]) (hT:Ty P T true n) (hp:cX sl t=some (.pointer (some ⟨b,o,none⟩))) (ht:Take hs (SL.bo b (.cells cs.toArray E fz)) hs') (hv:eo cs o n=vs) (hl:vs.length=n) (hx:cX sl s=some x) (hy:cX sl u=some y):Ends P fn c sl hs (.tuple #[.agg vs.toArray,x,y]):=
 QN (xs:=[.cell t T,.tmp s,.tmp u]) (vs:=[.agg vs.toArray,x,y]) h (Ij.cons (RV.cell hp (KJ (eV.bo ht hv) hl)) (Ij.cons (RV.tmp hx) (Ij.cons (RV.tmp hy) Ij.nil))) (by simp)
end Go.SL
namespace Go.Proofs.A1
open Go Go.SL
open Tryz
open Tryz renaming prog->T_
def KL (r:Ro) (t:Tk):Bool:=(r.de.getD (bA (bU r) t.de).toNat ⟨⟨#[]⟩,0,false⟩).pr
variable {w:World} {x:eN}
theorem Ov {r:Ro} {s d t p:Value} {b:Nat} (h:RR w r s d t p) (hA:BR w b (RC r s d t p)) (hx:x.tk.de∈bU r):aj T_ 253 [.agg x.cells.toArray,.p b] w (.bool (KL r x.tk)):=by
 have h1:=Rd.one h.sr;have h3:=Rd.one h.ti;have h4:=Rd.one h.po;have lR:=h.de;obtain ⟨a3,tg,b3,o3,rfl,nR,gP,uh,qI⟩:=lR;rw [cB] at *;unfold maxLen at gP;obtain ⟨j0,AR⟩:∃ i:Nat,bA (bU r) x.tk.de=(i:Nat):=⟨(bA (bU r) x.tk.de).toNat,by have:=eE hx;omega⟩;have CZ:j0<r.de.length:=by
  obtain ⟨hl,_⟩:=eF (l:=bU r) (s:=x.tk.de) (by omega);rw [AR,ZF] at hl;unfold bU at hl;rwa [Zd] at hl
 have e0:KL r x.tk=(r.de[j0]).pr:=by unfold KL;rw [AR,ZF,Zk,Zc CZ];rfl
 have cP:=uh (gI CZ);have aB:=(qI j0 _ (fm CZ)).2;unfold De.cells at aB;have c2:=aB 2 _ I;have Qu:∀ w',aK [] w w'->aj T_ 155 [.agg #[.q r.lv,.q r.ma,s,.slice a3 r.de.length tg,t,p],.string x.tk.de] w' (.q (j0:Nat)):=fun w' hk=>AR ▸ fS x.tk.de (h.keeps hk)
 have f3:w.cell? ⟨b,3,none⟩=some (.slice a3 r.de.length tg):=hA 3 _ I;have kl:∀ (j:Nat) (u:Value),[Value.int .i64 r.lv,.q r.ma,s,.slice a3 r.de.length tg,t,p][j]? = some u->w.cell? ⟨b,0+j,none⟩=some u:=hA;clear hA;rw [e0];unfold eN.cells;refine ah func253 I I ?_;refine Jr<|Jy I I fun _ _=>Ja I<|Jn<|Jq ?_
 with_reducible refine ef 10 (by kernel_rfl) ?_
 (refine pt I I ae<|aO (ag (.of I) (At.base f3 I)) I<|aO (iA (eV.base kl I)) I<|pt I I ae<|aO (ie .here) I<|gQ ba I (fun w' aA=>(Qu w' (Mem.keeps aA)))<|aO (au (.of I) (.of I) cP (by omega) (by omega) bn) I<|pt I I ae<|aO (ag (.of I) (At.base c2 I)) I<|aO (cS (.of I)) I ?_)
 with_reducible refine er ?_
 refine Jn<|Je<|JT ?_
 rfl
theorem O3 {r:Ro} {s d t p:Value} {b:Nat} (h:RR w r s d t p) (hA:BR w b (RC r s d t p)) (wb:r.lv<=1000) (cO:r.ti.length<=1000000):bb T_ 255 [.agg x.cells.toArray,.p b] w [] (fun _:Value=>True) id (fun v=>[row 9 1 v r.lv.toNat (aJ (bH r x.tk.de))]):=by
 obtain ⟨h1,h2,h3,h4⟩:=h.one;have kl:∀ (j:Nat) (u:Value),[Value.int .i64 r.lv,.int .i64 r.ma,s,d,t,p][j]? = some u->w.cell? ⟨b,0+j,none⟩=some u:=hA;clear hA;unfold eN.cells;refine aT func255 I I ?_
 (refine Jr<|Jy I I fun _ _=>Ja I<|Ji<|ab (iA (eV.base kl I)) I<|bP I I ae<|JL I .here I ?_)
 refine JN ba I (fun w1 aG=>wi x.tk.de (h.keeps aG.keeps) wb cO) ?_;intro v _;dsimp only [id_eq,Zb,Za];refine aY (v:=v) (by exact .here) fun va vc e=>?_;subst e;refine Ja I<|Jn<|Je ?_
 with_reducible first|apply aR|apply aS
 case he=>exact dH I I
 case hR=>
  intro w' aA;exact aD (.slice va r.lv.toNat vc) trivial (by exact .h1 .nil) aA I
theorem Sg {kv:Value} {l:List eN} {g:eN->List ByteArray} {n:Nat} {f:FuncId} {first cap:List Value} [bO T_ f] {w:World} (h:Rd w kv 2 (gL l)) (hM:qY w l) (hn:l.length<=1000) (hg:∀ x∈l,(g x).length=n)
  (cJ:∀ x∈l,∀ w',aK [] w w'->bb T_ f (first++[.agg x.cells.toArray]++cap) w' [] (fun _:Value=>True) id (fun v=>[row 9 1 v n (aJ (g x))])) :
  bb T_ 254 [kv,.func (.func f) first.toArray cap.toArray] w [] (fun x:Value×List Value=>x.2.length=l.length) (fun x=>x.1) (fun x=>[row 32 1 x.1 l.length x.2,mN 9 x.2 (l.map fun y=>aJ (g y))]):=by
 obtain ⟨a,cp,b,o,rfl,dp,bY,ha,hc⟩:=h;rw [dy] at *;unfold maxLen at bY;refine aT func254 I I ?_;refine Jr<|Ja I<|Ji<|Ja I<|Jn<|Jq<|Jr<|Jv I<|JI I<|Jv I<|Jn<|J0 ?_;refine aP 32 1 ?_;refine jU 9 ?_
 refine a7 (ι:=Nat×Value×List Value) (fun x=>x.1<=l.length/\x.2.2.length=x.1) (fun x=>[(10,.q (x.1:Nat)),(9,.q (l.length:Nat)),(8,.slice a l.length cp),(5,x.2.1),(1,.func (.func f) first.toArray cap.toArray)])
  (fun x=>[row 32 1 x.2.1 x.1 x.2.2,mN 9 x.2.2 ((l.take x.1).map fun y=>aJ (g y))]) (fun x=>l.length-x.1) ?_ ?_
 ·apply aI (0,.z,[]) ⟨Zi _,I⟩
  case hs1=>exact cu
  case ht=>
   exact .cons (.there .here) (.h1 .nil)
 rintro ⟨k,v,vs⟩ ⟨hk,oQ⟩;dsimp only at hk oQ ⊢;by_cases aN:k<l.length
 ·have cP:=ha (jV aN);have aB:=(hc k _ (jA aN)).2;have iz:=cJ _ (Zj aN);have SX:=hg _ (Zj aN);have ia:=Rd.one (hM _ (Zj aN));have htk:(l.take (k+1)).map (fun y=>aJ (g y))=((l.take k).map fun y=>aJ (g y))++[aJ (g l[k])]:=by
   rw [Zn aN,Zt];rfl
  have xk:((l.take k).map fun y=>aJ (g y)).length=k:=by rw [Zd,Zs];omega
  unfold eN.cells at aB iz;refine aY (E:=32) (sz:=1) (v:=v) (by exact .here) fun va vc e=>?_;subst e
  (refine Jr<|JA I<|Jn<|Jq<|Jd I fun ar=>Jk<|Jq<|J0<|Jr<|ab (fZ cP ar) I<|ab (iA (eV.base aB I)) I<|Jz I I fun _ _=>an (.of I) (.of I) .here I I (gJ I ia) (bG I) ak<|Jn<|Jg<|Jv I<|Jv I<|ab (cK .here) I ?_)
  refine JN bz I (fun w1 aG=>iz w1 aG.keeps) ?_;intro hv _;dsimp only [id_eq,Zb,Za];refine aY (E:=9) (sz:=1) (v:=hv) (by exact .here) fun jT jS e=>?_;subst e;refine bu (aC (.o I .nil) I I I I) I (fun _ _=>?_);refine bK (.of I) (.of I) cA .here ak (by rfl) (eL I) (by rfl) (by rfl) (by rfl) fa (by rfl) ?_;intro v';refine Ja I<|Jx<|Jj<|Jt<|Jg<|JB I (by omega)<|Jv I<|Jn ?_;refine lj (E:=9) (vs:=vs) (v:=.slice jT n jS) (x:=aJ (g l[k])) df bF (by rw [dq,SX]) (by rw [xk,oQ]) ?_;apply aL (k+1,v',vs++[.slice jT n jS]) ⟨by show k+1<=_;omega,by rw [Zg,oQ];rfl⟩ (by show l.length-(k+1)<l.length-k;omega)
  case hs1=>exact cu
  case ht=>
   dsimp only;rw [htk];exact .cons (.there .here) (.h1 .nil)
 ·have e:k=l.length:=by omega
  subst e;rw [ZL] at *;refine aY (E:=32) (sz:=1) (v:=v) (by exact .here) fun va vc e=>?_;subst e;refine Jr<|JA I<|Jn<|Jq<|Jc I fun ar=>Jp<|Jl<|Jo<|Jt<|Jr<|Jv I<|Ja I<|Jn<|Je ?_
  with_reducible first|apply aR|apply aS
  case he=>exact dH I I
  case hR=>
   intro w' aA;exact aD (.slice va l.length vc,vs) oQ (by exact .h2 .nil) aA I
theorem qC {r:Ro} (h:tY r) {s:ByteArray} (hs:s∈bU r\/s∈cN r):0<=dI r s/\dI r s<14:=by
 have hl:=h.len;have l1:(bU r).length=r.de.length:=by unfold bU;rw [Zd]
 have l2:(cN r).length=r.ti.length:=by unfold cN;rw [Zd]
 rw [Oe hs];by_cases c:s∈bU r
 ·have:=eE c;have:=AY this;rw [if_pos (by omega)];omega
 ·have h2:=cg.2 c;have h3:=eE (hs.resolve_left c);have:=AY h3;rw [if_neg (by omega)];omega
theorem kF {r:Ro} (h:tY r) {q:List Po} (hq:gT r q):q.length<=42:=by
 have hl:=h.lim;have key:∀ p∈q,0<=p.lv*14+dI r p.ou/\p.lv*14+dI r p.ou<42:=fun p hp=>by
  have:=qC h (hq.out p hp);have:=hq.Ib p hp;omega
 have:=kZ 42 (q.map fun p=>(p.lv*14+dI r p.ou).toNat) (by
  unfold List.Nodup;rw [Zba];refine (List.Pairwise.and_mem.1 hq.qd).imp fun {a b} ⟨ha,hb,Gg⟩ e=>?_;have:=key a ha;have:=key b hb;have:=qC h (hq.out a ha);have:=qC h (hq.out b hb);unfold pQ at Gg;simp only [ZQ,Zl,decide_eq_true_eq] at Gg;omega) (fun x hx=>by
  obtain ⟨p,hp,rfl⟩:=Zo.1 hx;have:=key p hp;omega)
 rwa [Zd] at this
theorem I0 {r:Ro} (h:tY r) {po:List Po} {v:Int} {s d:ByteArray} (hv:0<=v/\v<r.lv) (rb:gT r po) (hs:s∈cG r) (lR:d∈bU r) (fu:ed po v d=none) {p:List Nat} (hp:(fJ r po v s).least (oq r d) p):gT r (lN r po v s p d):=
 (IZ h.uL h.nd hv rb hs lR fu hp.1 (hp.2.1.trans (LS lR).symm)).1
end Go.Proofs.A1
namespace Go.SL
open Go
def rK (E:TypeId) (vs:List Value) (xs:List (List Value)) (j:Nat):bd:=MI (gA E (vs.take j) (xs.take j))
def rJ (E:TypeId) (vs:List Value) (xs:List (List Value)) (j:Nat):bd:=MI (gA E (vs.drop (j+1)) (xs.drop (j+1)))
theorem oI {E:TypeId} {v:Value} {x:List Value}:∀ {vs:List Value} {xs:List (List Value)} {j:Nat},vs[j]? = some v->xs[j]? = some x->gA E vs xs=gA E (vs.take j) (xs.take j)++row E 1 v x.length x::gA E (vs.drop (j+1)) (xs.drop (j+1))
 | [],_,j,h,_=>by simp at h
 | _::_,[],j,_,h=>by simp at h
 | v' :: vs, x' :: xs, 0, h1, h2 => by
  simp only [Zav,Option.some.injEq] at h1 h2;subst h1 h2
  rfl
 | v' :: vs, x' :: xs, j + 1, h1, h2 => by
  simp only [ZaY] at h1 h2;show row E 1 v' x'.length x'::gA E vs xs=row E 1 v' x'.length x'::(gA E (vs.take j) (xs.take j)++_);rw [oI h1 h2];rfl
theorem yt:∀ (l:List bd) (A:bd) (m:List bd),Take (l++A::m) A (l++m)
 | [],_,_=>.here
 | _::l,A,m=>.there (yt l A m)
theorem pF:∀ (P l m:List bd),bj (P++(l++m)) l (P++m)
 | _,[],_=>.nil
 | P,A::l,m=>.cons (yt P A (l++m)) (pF P l m)
section
variable {P:Program} {c:Cx} {D:List Nat} {sl:aH} {hs hs':List bd} {X:Act->World->Prop}
variable {v:Value} {vs x:List Value} {xs:List (List Value)}
theorem vh {E:TypeId} {n j:Nat} (ht:Take hs (mN E vs xs) hs') (hv:vs[j]? = some v) (hx:xs[j]? = some x) (hn:x.length=n)
  (k:Tr c D sl (row E 1 v n x::rK E vs xs j::rJ E vs xs j::hs') X):Tr c D sl hs X:=by
 subst hn;refine yk (As:=gA E vs xs) ht ?_;rw [oI hv hx,Zh];refine ss (As:=gA E (vs.take j) (xs.take j)) (pF [] _ _) ?_;refine ss (As:=gA E (vs.drop (j+1)) (xs.drop (j+1))) (hs':=MI (gA E (vs.take j) (xs.take j))::row E 1 v x.length x::hs') (pF [_,_] _ _) ?_;intro a w bh;have hT:bj (MI (gA E (vs.drop (j+1)) (xs.drop (j+1)))::MI (gA E (vs.take j) (xs.take j))::row E 1 v x.length x::hs') [row E 1 v x.length x,rK E vs xs j,rJ E vs xs j] hs':=.cons (.there (.there .here)) (.cons (.there .here) (.h1 .nil));have hm:=bh.mem.jo (hT.append (nb D));exact k a w (bh.heap hm)
theorem ym {E:TypeId} {n:Nat} (j:Nat) {h1 h2:List bd} (ht:Take hs (rK E vs xs j) h1) (ht2:Take h1 (rJ E vs xs j) h2) (ht3:Take h2 (row E 1 v n x) hs') (hv:vs[j]? = some v) (hx:xs[j]? = some x) (hn:x.length=n)
  (k:Tr c D sl (mN E vs xs::hs') X):Tr c D sl hs X:=fun a w bh=>by
 subst hn;have hT:bj hs [rK E vs xs j,rJ E vs xs j,row E 1 v x.length x] hs':=.cons ht (.cons ht2 (.cons ht3 .nil));have hT2:bj ([rK E vs xs j,rJ E vs xs j,row E 1 v x.length x]++(hs'++nb D)) [rK E vs xs j,row E 1 v x.length x,rJ E vs xs j] (hs'++nb D):=.h1 (.cons (.there .here) (.h1 .nil));have hm:=(bh.mem.jo (hT.append (nb D))).jo hT2;obtain ⟨kk,fp,uP,⟨f1,f2',rfl,g1,⟨f2,f3',rfl,g2,⟨f3,f4,rfl,g3,g4⟩⟩⟩,hb⟩:=hm;refine k a w (bh.heap ⟨kk,(f1++(f2++f3))++f4,by simpa only [Zh] using uP,⟨f1++(f2++f3),f4,I,?_,g4⟩,by simpa only [Zh] using hb⟩);show cC (hp w) (gA E vs xs) _;rw [oI hv hx];exact cC.append_iff.2 ⟨f1,f2++f3,I,g1,⟨f2,f3,I,g2,g3⟩⟩
end
attribute [irreducible] rK rJ
end Go.SL
namespace Go.Proofs.A1
open Go Go.SL
open Tryz
open Tryz renaming prog->T_
theorem KY {α β:Type} (f:α->β) (p:β->Bool) (l:List α):fU p (l.map f)=fU (fun x=>p (f x)) l:=by
 unfold fU;rw [Zd];congr 1;congr 1;funext i;rw [ZA,Option.map_map];rfl
theorem KI (r:Ro) (l:List eN):lq r (cq l)=fU (fun x:eN=>KL r x.tk) l:=by
 unfold lq cq;rw [KY];rfl
def oA (r:Ro) (x:Value×Value×Value×Value):List bd:=[J1 r x.1,J2 r x.2.1,J3 r x.2.2.1,PB x.2.2.2 r.po]
theorem G2 {c:Cx} {D:List Nat} {sl:aH} {hs hs':List bd} {X:Act->World->Prop} {kD:List Wy} {xv:Value} {xp:List Nat} {xf:Nat} (hx:(⟨xv,xp,xf⟩:Wy)∈kD\/(⟨xv,xp,xf⟩:Wy)=⟨.z,[],0⟩) (ht:Take hs (iH kD) hs')
  (k:∀ og,Tr c D sl (row 3 1 xv xp.length (gp xp)::iH og::hs') X):Tr c D sl hs X:=by
 rcases hx with hx | hx
 ·refine vj hx ht fun og _=>?_;intro a w bh;have hT:bj (iH og::row 3 1 xv xp.length (gp xp)::hs') [row 3 1 xv xp.length (gp xp),iH og] hs':=.cons (.there .here) (.h1 .nil);have Hx:St c D sl (iH og::row 3 1 xv xp.length (gp xp)::hs') a w:=bh;have hm:=Hx.mem.jo (hT.append (nb D));exact k og a w (bh.heap hm)
 ·cases hx;refine aP 3 1 ?_;intro a w bh;have hT:bj (row 3 1 (.z) 0 []::hs) [row 3 1 (.z) 0 [],iH kD] hs':=.h1 (.cons ht .nil);have hm:=bh.mem.jo (hT.append (nb D));exact k kD a w (bh.heap hm)
set_option maxHeartbeats 4000000 in
theorem zL {r:Ro} {s d t p kv:Value} {l:List eN} {w:World} (h:RR w r s d t p) (ee:tY r) (Xs:r.po.length<=500) (hw:Rd w kv 2 (gL l)) (hM:qY w l) (hT:Bn r (cq l)) :
  bb T_ 165 [RA r s d t p,kv] w [] (fun _:Value×Value×Value×Value=>True) (fun x=>.tuple #[RA (fx r (cq l)).1 x.1 x.2.1 x.2.2.1 x.2.2.2,.q (fx r (cq l)).2.1,.q (fx r (cq l)).2.2]) (fun x=>oA (fx r (cq l)).1 x):=by
 have wb:=ee.lim;have CX:=ee.len;have cO:kE r:=by unfold kE;omega
 have VI:=hT.y6;unfold cq at VI;rw [Zd] at VI;obtain ⟨h1,h2,h3,h4⟩:=h.one;have Bv:=hw;obtain ⟨a,cp,b,o,rfl,dp,bY,ha,hc⟩:=hw;rw [dy] at *;unfold maxLen at bY;have VF:=KI r l;unfold RA;refine aT func165 I I ?_;refine Jr<|Jy I I fun _ _=>Jz I I fun _ _=>Ja I<|Ja I<|Ji<|Jv I<|ab (bD .nil (.o I .nil)) I ?_;rename_i b2 tM b4 uQ
 with_reducible apply ai
 case hr=>exact ba
 case hd=>rfl
 case hc=>
  intro w' aA;have hA:BR w' b2 [.q r.lv,.q r.ma,s,d,t,p]:=BR.of aA (by exact Take.there .here);have hR:=h.keeps aA.keeps;exact F9 (f:=253) (p:=fun x:eN=>KL r x.tk) (first:=[]) (cap:=[.p b2]) (Bv.keeps aA.keeps) (fun x hx w2 eM=>Ov (hR.keeps eM) (hA.keeps eM) (hT.de _ (ZU hx)))
 rw [<- VF]
 (refine Ja I<|Jn<|Jq<|Jr<|Jv I<|JG I<|Jn<|gB I (fun ar=>?_) fun ar=>?_;refine Jr<|ab (aU .nil ak) I<|Jv I<|an (.of I) (.of I) .here I I (gr I I I I I I) (bG I) ak<|Ja I<|Ja I<|Jn<|Ju ?_;rotate_left;refine Jk<|Jr<|ab (cK (.there .here)) I ?_;rotate_right)
 ·have e0:fx r (cq l)=(Ro.nil,lq r (cq l),31):=by unfold fx;rw [if_pos (by omega)]
  rw [e0];dsimp only;refine aP 186 2 ?_;refine aP 90 3 ?_;refine aP 187 3 ?_;refine aP 188 3 ?_
  with_reducible first|apply aR|apply aS
  case he=>exact mh I inferInstance I df ak (by rfl) (by rfl) (by rfl)
  case hR=>
   intro w' aA;exact aD (.z,.z,.z,.z) trivial (by exact .cons cA (.cons bF (.cons (.there .here) (.h1 .nil)))) aA I
 have hL0:¬ 0<=lq r (cq l):=by omega
 refine JN bz I (fun w1 aG=>uJ (h.keeps aG.keeps) cO (by omega)) ?_;intro y _;dsimp only [id_eq,Zb,Za];obtain ⟨s1,d1,t1,p1⟩:=y;dsimp only;unfold RA PB;refine aY (E:=186) (sz:=2) (v:=s1) (by exact .here) fun _ _ e=>?_;have k1:s1.oneCell'=true:=by rw [e];rfl
 clear e;refine aY (E:=90) (sz:=3) (v:=d1) (by exact Take.there .here) fun _ _ e=>?_;have k2:d1.oneCell'=true:=by rw [e];rfl
 clear e;refine aY (E:=187) (sz:=3) (v:=t1) bF fun _ _ e=>?_;have k3:t1.oneCell'=true:=by rw [e];rfl
 clear e;refine aY (E:=188) (sz:=3) (v:=p1) cA fun _ _ e=>?_;have k4:p1.oneCell'=true:=by rw [e];rfl
 clear e
 (refine Jz I I fun _ _=>an (.of I) (.of I) .here I I (gr I I k1 k2 k3 k4) (bG I) ak<|Ji<|Jv I<|ab (bD .nil (.o I .nil)) I ?_)
 rename_i b8 hb8
 with_reducible apply jy
 case hr=>exact ba
 case hd=>rfl
 case ht=>exact bj.nil
 case hc=>
  intro w1 fp aG _ hs1;obtain rfl:fp=[]:=hs1;have hA:BR w1 b2 [.int .i64 r.lv,.int .i64 r.ma,s,d,t,p]:=BR.of aG kU;have hR:=h.keeps aG.keeps;exact Sg (f:=255) (first:=[]) (cap:=[.pointer (some ⟨b2,0,none⟩)]) (g:=fun x:eN=>bH r x.tk.de) (n:=r.lv.toNat) (Bv.keeps aG.keeps) (hM.keeps aG.keeps) (by omega) (fun x _=>by unfold bH;simp) (fun x hx w2 eM=>O3 (hR.keeps eM) (hA.keeps eM) (by omega) (by omega))
 rintro ⟨hv,oQ⟩ xH;dsimp only at xH;dsimp only [id_eq,Zb,Za];refine aY (E:=32) (sz:=1) (v:=hv) (by exact .here) fun mG kc e=>?_;subst e;refine Ja I<|Jn<|Jq<|Jr<|Jv I<|JI I<|Jv I<|Jn<|J0 ?_;have hdl:∀ i,(jK r (cq l) i).length<=r.po.length:=fun i=>by rw [kR];exact Z8 _ _
 have yP:(cq l).length=l.length:=by unfold cq;rw [Zd]
 refine a7 (ι:=Nat×Value×List Po) (fun y=>y.1<=l.length/\y.2.2=jK r (cq l) y.1) (fun y=>[(34,.q (y.1:Nat)),(33,.q (l.length:Nat)),(32,.slice a l.length cp),(9,.slice mG l.length kc),(8,.p b8),(4,.p b4),(1,.slice a l.length cp)])
  (fun y=>[JP b8 r s1 d1 t1 (y.2.1),J1 r s1,J2 r d1,J3 r t1,row 188 3 y.2.1 y.2.2.length (gK y.2.2),row 32 1 (.slice mG l.length kc) l.length oQ,mN 9 oQ (l.map fun y=>aJ (bH r y.tk.de)),bo b4 (.cells #[.q 0,.q 0,.z,.z,.z,.z] 41 (0,0))]) (fun y=>l.length-y.1) ?_ ?_
 ·apply aI (0,p1,r.po) ⟨Zi _,I⟩
  case hs1=>exact cu
  case ht=>exact .cons bF (.cons bF (.cons bF (.cons bF (.cons bF (.h3 .nil)))))
 rintro ⟨i,pv,L⟩ ⟨hi,hL⟩;dsimp only at hi hL ⊢;by_cases aN:i<l.length
 ·have OZ:=jV aN;have cP:=ha OZ;have aB:=(hc i _ (jA aN)).2;have jk:=Zj aN;have Ih:=hM _ jk;have Qp:(cq l).getD i Tk.zero=l[i].tk:=by unfold cq;rw [Zk,ZA,Zc aN];rfl
  have fH:jK r (cq l) (i+1)=nV r l[i].tk l[i].tk.so.length (jK r (cq l) i):=by rw [jK,Qp]
  have hls:=hT.lv l[i].tk (ZU jk);have hdi:L.length<=r.po.length:=by rw [hL];exact hdl i
  rw [<- hL] at fH;have Ua:∀ k,(nV r l[i].tk k L).length<=r.po.length:=fun k=>ZX (by rw [nK];exact Z8 _ _) hdi
  have MT:∃ u,oQ[i]? = some u:=⟨oQ[i],Zc (by omega)⟩;have U4:(l.map fun y=>aJ (bH r y.tk.de))[i]? = some (aJ (bH r l[i].tk.de)):=by rw [ZA,Zc aN];rfl
  unfold eN.cells at aB;generalize hti:l[i]=ti at *;obtain ⟨tk,tv⟩:=ti;dsimp only at *;obtain ⟨sa,P2,sb,Uz,rfl,Qf,CS,Vk,ON⟩:=Ih;rw [bX] at *;unfold maxLen at CS
  (refine Jr<|JA I<|Jn<|Jq<|Jd I fun ar=>Jk<|Jq<|J0<|Jr<|Jv I<|ab (fZ cP ar) I<|ab (iA (eV.base aB I)) I<|Jz I I fun _ _=>Ja I<|an (.of I) (.of I) .here I I (gJ I I) (bG I) ak<|Ji<|bP I I ae<|JL I .here I<|JI I<|Jv I<|Jn<|J0 ?_)
  rename_i QU aaS;obtain ⟨u,hu⟩:=MT;have Td:(bH r tk.de).length=r.lv.toNat:=by unfold bH;simp
  refine vh (E:=9) (j:=i) (n:=r.lv.toNat) uZ hu U4 (by rw [dq,Td]) ?_;refine cQ (E:=9) (sz:=1) (v:=u) (by exact .here) (by omega) fun gu uc IB e Yo OL Sv Yn=>?_;subst e;refine cQ (E:=32) (sz:=1) (v:=.slice mG l.length kc) iS (by omega) fun gh hc nI e SU hh2 hh3 hh4=>?_;cases e;have f1:(oQ++nI)[i*1]? = some (.w gu r.lv.toNat uc):=by
   rw [Zap,ZD (by omega)];exact hu
  have f2:∀ k,k<r.lv.toNat->(aJ (bH r tk.de)++IB)[k*1]? = some (.string (k8 r (k:Nat) tk.de)):=fun k hk=>by
   rw [Zap,ZD (by rw [dq,Td];exact hk)];unfold aJ bH;rw [ZA,ZA,Zbf hk];rfl
  refine a7 (ι:=Nat×Value×List Po) (fun y=>y.1<=tk.so.length/\y.2.2=nV r tk y.1 L) (fun y=>[(42,.q (y.1:Nat)),(41,.q (tk.so.length:Nat)),(40,.slice sa tk.so.length P2),(34,.q (i:Nat)),(33,.q (l.length:Nat)),(32,.slice a l.length cp),(10,.q (i:Nat)),(11,.p QU),(9,.w gh l.length kc),(8,.p b8),(4,.p b4),(1,.slice a l.length cp)])
   (fun y=>[JP b8 r s1 d1 t1 (y.2.1),J1 r s1,J2 r d1,J3 r t1,row 188 3 y.2.1 y.2.2.length (gK y.2.2),bo gh (.cells (oQ++nI).toArray 32 (0,0)),bo gu (.cells (aJ (bH r tk.de)++IB).toArray 9 (0,0)),rK 9 oQ (l.map fun y=>aJ (bH r y.tk.de)) i,rJ 9 oQ (l.map fun y=>aJ (bH r y.tk.de)) i,bo b4 (.cells #[.q 0,.q 0,.z,.z,.z,.z] 41 (0,0)),bo QU (.cells #[.string tk.de,.slice sa tk.so.length P2] 78 (0,0))]) (fun y=>tk.so.length-y.1) ?_ ?_
  ·apply aI (0,pv,L) ⟨Zi _,I⟩
   case hs1=>exact cu
   case ht=>exact .cons eG (.cons eG (.cons eG (.cons eG (.cons eG (.h4 (.cons (.there .here) (.h1 .nil)))))))
  rintro ⟨k,J7,L2⟩ ⟨hk,uT⟩;dsimp only at hk uT ⊢;by_cases xk:k<tk.so.length
  ·have K8:=Vk (mm xk);have K6:w.cell? ⟨sb,Uz+k*1,none⟩=some (.string tk.so[k]):=(ON k _ (jf xk)).2 0 _ I;have f3:=f2 k (by omega);have iF:tk.at k=tk.so[k]:=by unfold Tk.at;rw [Zk,Zc xk];rfl
   have hdk:=Ua k;rw [<- uT] at hdk;have hs2:nV r tk (k+1) L=if od r tk k then L2.filter (fun x=>!yI (k:Nat) tk.de x) else L2:=by rw [nV,<- uT]
   have XB:od r tk k=(!decide (tk.so[k]=⟨#[]⟩)&&!decide (tk.so[k]=k8 r (k:Nat) tk.de)):=by unfold od;rw [iF]
   generalize k8 r (k:Nat) tk.de=ck at *;generalize tk.so[k]=sk at *
   (refine Jr<|JA I<|Jn<|Jq<|Jd I fun ar=>Jk<|Jq<|J0<|Jr<|Jv I<|ab (au (.of I) (.of I) K8 (by omega) ar bn) I ?_;refine ab (ag (.of I) (At.base K6 I)) I ?_;refine Ja I<|Ja I<|Ji<|Jv I<|ab (gY (.of I) (.of I)) I ?_;refine Jv I<|iT I I I I ?_;refine iT I I I I ?_;refine iT I I I I ?_;refine aF I I (fun hg bT=>(au (.cD hg I) (.cD hg I) I (by omega) (by assumption) bn)) I ?_;refine aF I I (fun hg bT=>(ag (.cD hg I) (At.mW eG f1))) I ?_;refine iT I I I I ?_;refine aF I I (fun hg bT=>(au (.cD hg I) (.cD hg I) I (by omega) (by omega) bn)) I ?_;refine aF I I (fun hg bT=>(ag (.cD hg I) (At.mW kU f3))) I ?_;refine aF I I (fun hg bT=>(gY (.cD hg I) (.cD hg I))) I ?_;refine ab (c6 (.of I) I) I ?_;refine Jn<|qv I (fun ar=>?_) fun ar=>?_;refine Jg<|Jv I<|bP I I ae ?_;refine JL I lW I ?_;rotate_left;refine Jw<|Jj<|Jt<|Jg<|JB I (by omega)<|Jv I<|Jn ?_;rotate_right)
   ·obtain ⟨q1,q2⟩:sk≠⟨#[]⟩/\sk≠ck:=by simpa using ar
    have EX:od r tk k=true:=by rw [XB,decide_eq_false q1,decide_eq_false q2];rfl
    rw [EX,if_pos I] at hs2;obtain ⟨L3,QB⟩:∃ L3,L3=nV r tk (k+1) L:=⟨_,rfl⟩;rw [<- QB] at hs2
    with_reducible apply eH (As:=[JP b8 r s1 d1 t1 J7,row 188 3 J7 L2.length (gK L2)])
    case hr=>exact eK
    case hd=>rfl
    case ht=>exact ng
    case hc=>
     intro w1 BE aG uf hs1 DN jZ;exact ye (r:=r) (s:=s1) (d:=d1) (t:=t1) (p:=J7) (b:=b8) (l:=L2) (k:Nat) tk.de uf hs1 (by omega)
    intro p3 _;dsimp only [id_eq,Zb,Za];unfold RB PB;rw [<- hs2];refine Jx<|Jj<|Jt<|Jg<|JB I (by omega)<|Jv I<|Jn ?_;apply aL (k+1,p3,L3) ⟨by show k+1<=_;omega,QB⟩ (by show tk.so.length-(k+1)<tk.so.length-k;omega)
    case hs1=>exact cu
    case ht=>exact ng
   ·have EX:od r tk k=false:=by
     rw [XB];simp only [ne_eq,Zq,decide_eq_true_eq,Classical.not_and_iff_not_or_not] at ar;rcases ar with e | e
     ·rw [decide_eq_true e];rfl
     ·rw [decide_eq_true e];simp
    rw [EX,if_neg (by decide)] at hs2;apply aL (k+1,J7,L2) ⟨by show k+1<=_;omega,hs2.symm⟩ (by show tk.so.length-(k+1)<tk.so.length-k;omega)
    case hs1=>exact cu
    case ht=>exact ng
  ·have e:k=tk.so.length:=by omega
   subst e;refine Jr<|JA I<|Jn<|Jq<|Jc I fun ar=>Jp<|Jl<|Jo<|Jj<|Jt<|Jg<|JB I (by omega)<|Jv I<|Jn ?_;refine cH (E:=9) (sz:=1) (g:=gu) kU Yo OL Sv Yn ?_;refine cH (E:=32) (sz:=1) (g:=gh) kU SU hh2 hh3 hh4 ?_;have Xi:(aJ (bH r tk.de)).length=r.lv.toNat:=by rw [dq,Td]
   with_reducible apply ym (E:=9) (vs:=oQ) (xs:=l.map fun y=>aJ (bH r y.tk.de)) (v:=.w gu r.lv.toNat uc) (x:=aJ (bH r tk.de)) (n:=r.lv.toNat) i
   case ht=>exact uZ
   case ht2=>exact uZ
   case ht3=>exact Take.there .here
   case hv=>exact hu
   case hn=>exact Xi
   case hx=>exact U4
   case k=>
    apply aL (i+1,J7,L2) ⟨by show i+1<=_;omega,by show L2=jK r (cq l) (i+1);rw [fH,uT]⟩ (by show l.length-(i+1)<l.length-i;omega)
    case hs1=>exact cu
    case ht=>exact .cons bF (.cons bF (.cons bF (.cons bF (.cons bF (.cons (.there .here) (.h2 .nil))))))
 ·have e:i=l.length:=by omega
  subst e;refine Jr<|JA I<|Jn<|Jq<|Jc I fun ar=>Jp<|Jl<|Jo<|Jt<|Jr ?_;have hLf:L=r.po.filter (fun p=>!LR r (cq l) l.length p):=by rw [hL,kR]
  have HL:=hdl l.length;rw [<- hL] at HL
  with_reducible apply eH (As:=[JP b8 r s1 d1 t1 pv,J1 r s1,J2 r d1,J3 r t1,row 188 3 pv L.length (gK L)])
  case hr=>exact bz
  case hd=>rfl
  case ht=>exact ng
  case hc=>
   intro w1 BE aG uf hs1 DN jZ;exact Nu (r:=r.wp L) (s:=s1) (d:=d1) (t:=t1) (p:=pv) (b:=b8) uf hs1 cO (by show L.length<=1000;omega)
  rintro ⟨pw,ff⟩ ⟨S9,XE⟩;have rb:(r.wp L).po.filter ff=pb r (cq l):=by
   show L.filter ff=xC (bU r) (jK r (cq l) (cq l).length);rw [yP,<- hL];exact PV.tid ee.uL (by rw [hLf];exact ee.val.acy.sub _) ⟨S9,XE⟩
  dsimp only [id_eq,Zb,Za];rw [rb];unfold RW RB PB;dsimp only [Zb,Za]
  try unfold JP
  try unfold J1 J2 J3
  rw [show (r.wp L).lv=r.lv from I,show (r.wp L).ma=r.ma from I,show (r.wp L).sr=r.sr from I,show (r.wp L).de=r.de from I,show (r.wp L).ti=r.ti from I];refine Jn<|Jq<|Jr<|Jv I<|JI I<|Jv I<|Jn<|J0 ?_
  refine a7 (ι:=Nat×Value×List Po) (fun y=>y.1<=l.length/\iu r (cq l) (pb r (cq l)) y.1=some y.2.2/\gT r y.2.2) (fun y=>[(69,.q (y.1:Nat)),(68,.q (l.length:Nat)),(67,.slice a l.length cp),(9,.slice mG l.length kc),(8,.p b8),(4,.p b4),(1,.slice a l.length cp)])
   (fun y=>[JP b8 r s1 d1 t1 (y.2.1),J1 r s1,J2 r d1,J3 r t1,row 188 3 y.2.1 y.2.2.length (gK y.2.2),row 32 1 (.slice mG l.length kc) l.length oQ,mN 9 oQ (l.map fun y=>aJ (bH r y.tk.de)),bo b4 (.cells #[.q 0,.q 0,.z,.z,.z,.z] 41 (0,0))]) (fun y=>l.length-y.1) ?_ ?_
  ·have h00:iu r (cq l) (pb r (cq l)) 0=some (pb r (cq l)):=by rw [iu]
   have h01:=(qO ee hT).1;generalize pb r (cq l)=D0 at *;apply aI (0,pw,D0) ⟨Zi _,h00,h01⟩
   case hs1=>exact cu
   case ht=>exact ng
  clear S9 XE rb ff pw HL hLf hL pv L hi;rintro ⟨i,pv,L⟩ ⟨hi,hL,hLV⟩;dsimp only at hi hL hLV ⊢;by_cases aN:i<l.length
  ·have cP:=ha (jV aN);have aB:=(hc i _ (jA aN)).2;have jk:=Zj aN;have Ih:=hM _ jk;have nH:i<(cq l).length:=by omega
   have SV:(cq l)[i]=l[i].tk:=Z0 _;have Qp:(cq l).getD i Tk.zero=l[i].tk:=by rw [Zk,Zc nH,Zal,SV]
   have VB:=fun k hk q h1=>Sd ee hT nH (k:=k) (q0:=L) (q:=q) hk hL h1
   have VL:=fun k=>AG ee hT (Zj nH) (k:=k)
   rw [SV] at VB VL;have Xo:iu r (cq l) (pb r (cq l)) (i+1)=nn r l[i].tk l[i].tk.so.length L:=by rw [iu,hL,Qp];rfl
   have hrf:=fun h2=>N1 (r:=r) (l:=cq l) (po:=pb r (cq l)) nH hL h2
   have hls:=hT.lv l[i].tk (ZU jk);have MT:∃ u,oQ[i]? = some u:=⟨oQ[i],Zc (by omega)⟩;have U4:(l.map fun y=>aJ (bH r y.tk.de))[i]? = some (aJ (bH r l[i].tk.de)):=by rw [ZA,Zc aN];rfl
   unfold eN.cells at aB;generalize hti:l[i]=ti at *;obtain ⟨tk,tv⟩:=ti;dsimp only at *;obtain ⟨sa,P2,sb,Uz,rfl,Qf,CS,Vk,ON⟩:=Ih;rw [bX] at *;unfold maxLen at CS
   (refine Jr<|JA I<|Jn<|Jq<|Jd I fun ar=>Jk<|Jq<|J0<|Jr<|Jv I<|ab (fZ cP ar) I<|ab (iA (eV.base aB I)) I<|Jz I I fun _ _=>Ja I<|an (.of I) (.of I) .here I I (gJ I I) (bG I) ak<|Ji<|bP I I ae<|JL I .here I<|JI I<|Jv I<|Jn<|J0 ?_)
   rename_i TF aaQ;obtain ⟨u,hu⟩:=MT;have Td:(bH r tk.de).length=r.lv.toNat:=by unfold bH;simp
   refine vh (E:=9) (j:=i) (n:=r.lv.toNat) uZ hu U4 (by rw [dq,Td]) ?_;refine cQ (E:=9) (sz:=1) (v:=u) (by exact .here) (by omega) fun gu uc IB e Yo OL Sv Yn=>?_;subst e;refine cQ (E:=32) (sz:=1) (v:=.slice mG l.length kc) iS (by omega) fun gh hc nI e SU hh2 hh3 hh4=>?_;cases e;have f1:(oQ++nI)[i*1]? = some (.w gu r.lv.toNat uc):=by
    rw [Zap,ZD (by omega)];exact hu
   have f2:∀ k,k<r.lv.toNat->(aJ (bH r tk.de)++IB)[k*1]? = some (.string (k8 r (k:Nat) tk.de)):=fun k hk=>by
    rw [Zap,ZD (by rw [dq,Td];exact hk)];unfold aJ bH;rw [ZA,ZA,Zbf hk];rfl
   refine a7 (ι:=Nat×Value×List Po) (fun y=>y.1<=tk.so.length/\nn r tk y.1 L=some y.2.2) (fun y=>[(77,.q (y.1:Nat)),(76,.q (tk.so.length:Nat)),(75,.slice sa tk.so.length P2),(69,.q (i:Nat)),(68,.q (l.length:Nat)),(67,.slice a l.length cp),(14,.q (i:Nat)),(15,.p TF),(9,.w gh l.length kc),(8,.p b8),(4,.p b4),(1,.slice a l.length cp)])
    (fun y=>[JP b8 r s1 d1 t1 (y.2.1),J1 r s1,J2 r d1,J3 r t1,row 188 3 y.2.1 y.2.2.length (gK y.2.2),bo gh (.cells (oQ++nI).toArray 32 (0,0)),bo gu (.cells (aJ (bH r tk.de)++IB).toArray 9 (0,0)),rK 9 oQ (l.map fun y=>aJ (bH r y.tk.de)) i,rJ 9 oQ (l.map fun y=>aJ (bH r y.tk.de)) i,bo b4 (.cells #[.q 0,.q 0,.z,.z,.z,.z] 41 (0,0)),bo TF (.cells #[.string tk.de,.slice sa tk.so.length P2] 78 (0,0))]) (fun y=>tk.so.length-y.1) ?_ ?_
   ·have h00:nn r tk 0 L=some L:=by rw [nn]
    apply aI (0,pv,L) ⟨Zi _,h00⟩
    case hs1=>exact cu
    case ht=>exact .cons eG (.cons eG (.cons eG (.cons eG (.cons eG (.h4 (.cons (.there .here) (.h1 .nil)))))))
   rintro ⟨k,J7,L2⟩ ⟨hk,uT⟩;dsimp only at hk uT ⊢;obtain ⟨Wa,fu⟩:=VB k hk L2 uT;have hfw:=kF ee Wa;by_cases xk:k<tk.so.length
   ·have K8:=Vk (mm xk);have K6:w.cell? ⟨sb,Uz+k*1,none⟩=some (.string tk.so[k]):=(ON k _ (jf xk)).2 0 _ I;have f3:=f2 k (by omega);have iF:tk.at k=tk.so[k]:=by unfold Tk.at;rw [Zk,Zc xk];rfl
    have hs2:nn r tk (k+1) L=if nG r tk k then (ri (r.wp L2) (k:Nat) tk.so[k] tk.de).map (fun p=>lN r L2 (k:Nat) tk.so[k] p tk.de) else some L2:=by rw [nn,uT,Option.bind_some,iF]
    have hjb:nG r tk k=true↔¬ ((tk.so[k]=⟨#[]⟩\/tk.so[k]=⟨#[45]⟩)\/tk.so[k]=k8 r (k:Nat) tk.de):=by
     rw [mQ,iF];constructor
     ·rintro ⟨x1,x2,x3⟩ ((e | e) | e)
      ·exact x1 e
      ·exact x3 e
      ·exact x2 e
     ·intro e;exact ⟨fun c=>e (.inl (.inl c)),fun c=>e (.inr c),fun c=>e (.inl (.inr c))⟩
    have hjo:=VL k xk;rw [iF] at hjo;have EX:nG r tk k=true->od r tk k=true:=fun c=>by
     obtain ⟨x1,x2,_⟩:=mQ.1 c;exact lD.2 ⟨x1,x2⟩
    generalize k8 r (k:Nat) tk.de=ck at *;generalize tk.so[k]=sk at *
    (refine Jr<|JA I<|Jn<|Jq<|Jd I fun ar=>Jk<|Jq<|J0<|Jr<|Jv I<|ab (au (.of I) (.of I) K8 (by omega) ar bn) I ?_;refine ab (ag (.of I) (At.base K6 I)) I ?_;refine Ja I<|Ja I<|Jn<|Jq<|Jr<|Jv I<|ab (ei (.of I) (.of I)) I ?_;refine Jv I<|iT I I I I ?_;refine aF I I (fun hg bT=>(ei (.cD hg I) (.of I))) I ?_;refine ab (bC (.of I) I) I ?_;refine Jv I<|iT I I I I ?_;refine iT I I I I ?_;refine iT I I I I ?_;refine aF I I (fun hg bT=>(au (.cD hg I) (.cD hg I) I (by omega) (by assumption) bn)) I ?_;refine aF I I (fun hg bT=>(ag (.cD hg I) (At.mW eG f1))) I ?_;refine iT I I I I ?_;refine aF I I (fun hg bT=>(au (.cD hg I) (.cD hg I) I (by omega) (by omega) bn)) I ?_;refine aF I I (fun hg bT=>(ag (.cD hg I) (At.mW kU f3))) I ?_;refine aF I I (fun hg bT=>(ei (.cD hg I) (.cD hg I))) I ?_;refine ab (bC (.of I) I) I ?_;refine Jn<|qv I (fun ar=>?_) fun ar=>?_;refine Jp<|Jo<|Jt<|Jg<|JB I (by omega)<|Jv I<|Jn ?_;rotate_left;refine Jk<|Jr<|ab (cK .here) I ?_;refine Jv I<|Jv I<|bP I I ae ?_;refine JL I lW I ?_;rotate_right)
    ·have hj:nG r tk k=false:=by
      rw [<- Zax];exact fun c=>hjb.1 c ar
     rw [hj,if_neg (by decide)] at hs2;apply aL (k+1,J7,L2) ⟨by show k+1<=_;omega,hs2⟩ (by show tk.so.length-(k+1)<tk.so.length-k;omega)
     case hs1=>exact cu
     case ht=>exact ng
    have hj:nG r tk k=true:=hjb.2 (fun c=>c.elim (fun c=>c.elim ar.1.1 ar.1.2) ar.2)
    obtain ⟨⟨j1,j2⟩,sT,fH,_⟩:=hjo hj;have C2:=fu k (Zz _) xk (EX hj);rw [hj,if_pos I] at hs2;refine JN wZ I (fun w1 aG=>PY (r:=r.wp L2) (k:Nat) sk tk.de (RR.wp (bM aG (by exact Take.there .here) I) (bN aG bF I) (bL aG cA I) (bJ aG df I)) ee.uL.wp Wa.wp ee.Ii.wp sT fH) ?_;rintro ⟨XI,⟨xv,xp,xf⟩,kD⟩ ⟨hy1,hy2,hy3⟩;dsimp only at hy1 hy2 hy3;dsimp only [Wy.cells,Zb,Za]
    (refine Jv I<|JJ I I<|JJ I I<|Jz I I fun _ _=>an (.of I) (.of I) .here I I (gJ hy3 I) (bG I) ak<|Ja I<|Jn<|Jq<|Jr<|Jv I<|JH I<|Jn<|qv I (fun ar=>?_) fun ar=>?_;refine Jr<|ab (aU .nil ak) I<|Jv I<|an (.of I) (.of I) Bu I I (gr I I I I I I) (bG I) ak<|Ja I<|Ja I<|Jn<|Ju<|Jm<|Jh<|Jh<|Jm<|Jm<|Jh<|Jh<|Jm<|Jh ?_;rotate_left;refine Jk<|Jg<|Jv I<|Jv I<|ab (cK .here) I<|bP I I ae<|JL I kV I ?_;rotate_right)
    ·have hf:XI=false:=by simpa using ar
     subst hf;have e1:nn r tk (k+1) L=none:=by rw [hs2,yg (hy2 I)];rfl
     have e2:iu r (cq l) (pb r (cq l)) (i+1)=none:=by rw [Xo];exact G6 e1 (by omega)
     have e3:=yw e2 (m:=(cq l).length) (by omega);have e4:fx r (cq l)=(Ro.nil,((i:Nat):Int),18):=by
      unfold fx;rw [if_neg hL0];show (match iu r (cq l) (pb r (cq l)) (cq l).length with | none=>(Ro.nil,((Ae r (cq l) (pb r (cq l)):Nat):Int),(18:Int)) | some po=>(r.wp po,0,0))=_
      rw [e3,hrf e2]
     rw [e4];dsimp only;refine aP 186 2 ?_;refine aP 90 3 ?_;refine aP 187 3 ?_;refine aP 188 3 ?_
     with_reducible first|apply aR|apply aS
     case he=>exact mh I inferInstance I df ak (by rfl) (by rfl) (by rfl)
     case hR=>
      intro w' aA;exact aD (.z,.z,.z,.z) trivial (by exact .cons cA (.cons bF (.cons (.there .here) (.h1 .nil)))) aA I
    have hf:XI=true:=by simpa using ar
    subst hf;obtain ⟨hle,S5⟩:=hy1 rfl;have hwp:=yf hle;have OY:(fJ r L2 (k:Nat) sk).least (oq r tk.de) xp:=hle;have lL:nn r tk (k+1) L=some (lN r L2 (k:Nat) sk xp tk.de):=by rw [hs2,hwp];rfl
    have hVn:=I0 ee ⟨j1,j2⟩ Wa sT fH C2 OY;have hxp:∀ i∈xp,i<r.ti.length:=Wn.CC OY.1;have Qd:xp.length<=6:=by have:=Wn.vJ OY.1;show _<=_;have h6:(fJ r L2 (k:Nat) sk).n=r.ti.length:=rfl;omega
    refine G2 S5 (by exact Take.there .here) fun og=>?_
    with_reducible apply eH (As:=[JP b8 r s1 d1 t1 J7,J1 r s1,J2 r d1,J3 r t1,row 188 3 J7 L2.length (gK L2),row 3 1 xv xp.length (gp xp)])
    case hr=>exact MG
    case hd=>rfl
    case ht=>exact .cons cA (.cons cA (.cons cA (.cons cA (.cons cA (.h1 .nil)))))
    case hc=>
     intro w1 BE aG uf hs1 DN jZ;exact UB (r:=r) (s:=s1) (d:=d1) (t:=t1) (p:=J7) (b:=b8) (po:=L2) xf (k:Nat) sk tk.de uf hs1 cO (by omega) (by omega) ee.Ii hxp Wa.out fH hVn.qd
    intro p3 _;dsimp only [id_eq,Zb,Za];unfold RB PB;generalize lN r L2 (k:Nat) sk xp tk.de=L3 at *;refine Jx<|Jj<|Jt<|Jg<|JB I (by omega)<|Jv I<|Jn ?_;apply aL (k+1,p3,L3) ⟨by show k+1<=_;omega,lL⟩ (by show tk.so.length-(k+1)<tk.so.length-k;omega)
    case hs1=>exact cu
    case ht=>exact ng
   ·have e:k=tk.so.length:=by omega
    subst e;refine Jr<|JA I<|Jn<|Jq<|Jc I fun ar=>Jp<|Jl<|Jo<|Jj<|Jt<|Jg<|JB I (by omega)<|Jv I<|Jn ?_;refine cH (E:=9) (sz:=1) (g:=gu) kU Yo OL Sv Yn ?_;refine cH (E:=32) (sz:=1) (g:=gh) kU SU hh2 hh3 hh4 ?_;have Xi:(aJ (bH r tk.de)).length=r.lv.toNat:=by rw [dq,Td]
    with_reducible apply ym (E:=9) (vs:=oQ) (xs:=l.map fun y=>aJ (bH r y.tk.de)) (v:=.w gu r.lv.toNat uc) (x:=aJ (bH r tk.de)) (n:=r.lv.toNat) i
    case ht=>exact uZ
    case ht2=>exact uZ
    case ht3=>exact Take.there .here
    case hv=>exact hu
    case hn=>exact Xi
    case hx=>exact U4
    case k=>
     have hne:iu r (cq l) (pb r (cq l)) (i+1)=some L2:=by rw [Xo,uT]
     apply aL (i+1,J7,L2) ⟨by show i+1<=_;omega,hne,Wa⟩ (by show l.length-(i+1)<l.length-i;omega)
     case hs1=>exact cu
     case ht=>exact .cons bF (.cons bF (.cons bF (.cons bF (.cons bF (.cons (.there .here) (.h2 .nil))))))
  ·have e:i=l.length:=by omega
   subst e;refine Jr<|JA I<|Jn<|Jq<|Jc I fun ar=>Jp<|Jl<|Jo<|Jt<|Jr<|ab (cK .here) I ?_;have e4:fx r (cq l)=(r.wp L,0,0):=by
    unfold fx;rw [if_neg hL0];show (match iu r (cq l) (pb r (cq l)) (cq l).length with | none=>(Ro.nil,((Ae r (cq l) (pb r (cq l)):Nat):Int),(18:Int)) | some po=>(r.wp po,0,0))=_
    rw [yP,hL]
   rw [e4];dsimp only;refine aY (E:=188) (sz:=3) (v:=pv) df fun _ _ e=>?_;have k5:pv.oneCell'=true:=by rw [e];rfl
   clear e
   (refine an (.of I) (.of I) uZ I I (gr I I k1 k2 k3 k5) (bG I) ak<|Ja I<|Ja I<|Jn<|Je ?_)
   with_reducible first|apply aR|apply aS
   case he=>exact mh I inferInstance I .here ak (by rfl) (by rfl) (by rfl)
   case hR=>
    intro w' aA;exact aD (s1,d1,t1,pv) trivial (by exact .cons bF (.cons bF (.cons bF (.cons bF .nil)))) aA I
end Go.Proofs.A1
