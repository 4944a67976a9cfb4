/- Parts of the proof: P5s P5u P5v P5x P5y P5z P6a KY GkMapR KZ GkEnds3 LA P6b GkPoolJ LB LC LD. -/
import Derived.Test.YteonnodafmegaaaGreatDoorOM09
import Derived.Test.YteonnodafmegaaaGreatDoorOM04
import Derived.Test.YteonnodafmegaaaGreatDoorOM03
import Derived.Laws.IdiomRangeMap
set_option linter.unusedSectionVars false
set_option linter.unusedVariables false
set_option linter.unusedSimpArgs false
namespace Go.Proofs.A1
open Go Go.SL
theorem A0 {r:Ro} (hd:∀ x∈r.de,0<=x.mx) (ht:∀ x∈r.ti,0<=x.fr) {s:ByteArray} (h:s∈cE r\/s∈cQ r):0<=kP r s:=by
 unfold kP;by_cases h1:0<=bC (cE r) s
 ·obtain ⟨hl,_⟩:=fD h1;rw [if_pos h1,Zk,Zc (by unfold cE at hl;rwa [Zd] at hl)];exact hd _ (Zj _)
 ·rw [if_neg h1];have h2:0<=bC (cQ r) s:=by
   rcases h with h | h
   ·exact absurd (dP h) h1
   ·exact dP h
  obtain ⟨hl,_⟩:=fD h2;rw [if_pos h2,Zk,Zc (by unfold cQ at hl;rwa [Zd] at hl)];exact ht _ (Zj _)
theorem Qb {r:Ro} (hd:∀ x∈r.sr,0<=x.mx) (ht:∀ x∈r.ti,0<=x.to) {s:ByteArray} (h:s∈cK r\/s∈cQ r):0<=kq r s:=by
 unfold kq;by_cases h1:0<=bC (cK r) s
 ·obtain ⟨hl,_⟩:=fD h1;rw [if_pos h1,Zk,Zc (by unfold cK at hl;rwa [Zd] at hl)];exact hd _ (Zj _)
 ·rw [if_neg h1];have h2:0<=bC (cQ r) s:=by
   rcases h with h | h
   ·exact absurd (dP h) h1
   ·exact dP h
  obtain ⟨hl,_⟩:=fD h2;rw [if_pos h2,Zk,Zc (by unfold cQ at hl;rwa [Zd] at hl)];exact ht _ (Zj _)
structure IC (r:Ro):Prop where
 SK:Ea r
 len:r.sr.length<=8/\r.de.length<=8/\r.ti.length<=6
 sm:∀ x∈r.sr,0<=x.mx/\x.mx<r.ma
 dm:∀ x∈r.de,0<=x.mx/\x.mx<r.ma
 tm:∀ x∈r.ti,(0<=x.fr/\x.fr<r.ma)/\(0<=x.to/\x.to<r.ma)/\x.fr≠x.to
 nm:∀ s∈eL r,kR s=true
theorem AT {α:Type} {rm:Int} {bf:List ByteArray} {nm:α->ByteArray} {ck:α->Int} {l:List α} (h:fO rm bf nm ck l=0):∀ x∈l,kR (nm x)=true:=by
 intro x hx;obtain ⟨k,hk,rfl⟩:=Zw hx;unfold fO at h;split at h
 ·cases h
 ·have:=dQ.1 h k hk;rw [pb hk,cz] at this;have:=(bT (by decide)).1 (this _ Zu);simpa using this
theorem prt {r:Ro} (h:kB r=0):IC r:=by
 obtain ⟨lp,hlen,hs,hd,ht⟩:=AU h;have h0:=h;unfold kB at h0;rw [cz] at h0;refine ⟨lp,hlen,fun x hx=>jU.1 (hs x hx),fun x hx=>jU.1 (hd x hx),fun x hx=>?_,fun s hs=>?_⟩
 ·have:=ht x hx;unfold oG at this;rw [cz] at this;have g3:=(bT (by decide)).1 (this (cn (decide (x.fr=x.to)) 24) (by simp));exact ⟨jU.1 (this _ (by simp)),jU.1 (this _ (by simp)),by simpa using g3⟩
 ·unfold eL cK cE cQ at hs;rw [Zz,Zz,Zx,Zx,Zx] at hs;rcases hs with (⟨x,hx,rfl⟩ | ⟨x,hx,rfl⟩) | ⟨x,hx,rfl⟩
  ·exact AT (h0 _ Zu) x hx
  ·exact AT (h0 (fO 8 (cK r) De.nm (fun x=>fQ r x.mx) r.de) (by simp)) x hx
  ·exact AT (h0 (fO 6 (cK r++cE r) Ti.nm (oG r) r.ti) (by simp)) x hx
theorem IC.wJ {r:Ro} (h:IC r):oE r:=LI h.SK h.len.2.2
theorem IC.ne {r:Ro} (h:IC r) {s:ByteArray} (hs:s∈cK r\/s∈cE r\/s∈cQ r):s≠⟨#[]⟩:=by
 have hm:s∈eL r:=by
  unfold eL;rw [Zz,Zz];rcases hs with h | h | h
  ·exact .inl (.inl h)
  ·exact .inl (.inr h)
  ·exact .inr h
 have:=h.nm s hm;intro e;rw [e] at this;exact absurd this (by decide)
theorem IC.nd {r:Ro} (h:IC r) {s:ByteArray} (hs:s∈cK r):s≠dash:=by
 have hm:s∈eL r:=by
  unfold eL;rw [Zz,Zz];exact .inl (.inl hs)
 have:=h.nm s hm;intro e;rw [e] at this;exact absurd this (by decide)
theorem YP {r:Ro} (h1:n9 r=0) (h2:kB r=0) (hV:jh r r.po):gy r=0:=by
 have hp:=prt h2;have h3:kp r r.po=0:=by
  refine dQ.2 fun k hk=>?_;have hl:=hV.LS _ (Zj hk);have ho:=A0 (fun x hx=>(hp.dm x hx).1) (fun x hx=>(hp.tm x hx).1.1) (hV.out _ (Zj hk))
  have hi:=Qb (fun x hx=>(hp.sm x hx).1) (fun x hx=>(hp.tm x hx).2.1.1) (hV.xX _ (Zj hk))
  have hm:=hV.RY _ (Zj hk);have e0:mX r r.po[k]=0:=by
   unfold mX;rw [cz];intro e he;simp only [ZS,Zo,or_false] at he;rcases he with rfl | rfl | rfl | rfl
   ·exact gZ.2 (by omega)
   ·exact (bT (by decide)).2 (by simpa using ho)
   ·exact (bT (by decide)).2 (by simpa using hi)
   ·exact (bT (by decide)).2 (by simpa using hm)
  rw [sh hk,if_neg (not_not_intro e0)];refine if_neg ?_;by_cases Ob:k=0
  ·rw [if_pos Ob];exact pS.2 (by omega)
  ·rw [if_neg Ob,Zc (by omega)];refine pS.2 ?_;have:=Zad.1 hV.rU (k-1) k (by omega) hk (by omega);unfold ng at this;simpa only [ZT,Zm,decide_eq_true_eq] using this
 have h4:A8 r=0:=by
  unfold A8;rw [cz];intro e he;simp only [ZS,Zo,or_false] at he;have hti:(cQ r).length=r.ti.length:=by unfold cQ;rw [Zd]
  rcases he with rfl | rfl
  ·refine (bT (by decide)).2 (mf.2 fun v _ _=>Zam.2 fun x hx hc=>?_);exact hV.D9 v ⟨x.nm,Zx.2 ⟨x,hx,I⟩,by rw [hti];exact fI.1 hc⟩
  ·refine (bT (by decide)).2 (mf.2 fun v _ _=>Zam.2 fun x hx hc=>?_);have:=hV.use v x.nm (Zx.2 ⟨x,hx,I⟩);unfold Lx at hc;cases a:nf r.po v x.nm <;> cases b:gL r.po v x.nm <;> rw [a,b] at hc this <;> simp at hc this
 unfold gy;rw [if_neg (not_not_intro h1),if_neg (not_not_intro h2),if_neg (not_not_intro h3),h4]
theorem BD {r:Ro} (h:gy r=0) {q:List Po} (hV:jh r q):gy (r.wp q)=0:=by
 obtain ⟨h1,h2,_,_⟩:=ue h;exact YP (r:=r.wp q) h1 h2 hV.wp
def pT (po:List Po) (v:Int):Nat->ByteArray->List ByteArray
 | 0,_=>[]
 | n+1,o=>if o=⟨#[]⟩ then [] else o::pT po v n ((eD po v o).getD ⟨#[]⟩)
theorem SQ (po:List Po) (v:Int):∀ n,pT po v n ⟨#[]⟩=[]
 | 0=>rfl
 | n+1=>by rw [pT,if_pos rfl]
theorem vG {po:List Po} (hne:∀ p∈po,p.ip≠⟨#[]⟩) {v:Int}:∀ (n:Nat) {o:ByteArray},o≠⟨#[]⟩->pT po v (n+1) o=o::fJ po v n o
 | 0,o,ho=>by rw [pT,if_neg ho];rfl
 | n + 1, o, ho => by
  rw [pT,if_neg ho];cases h:eD po v o with
  | none=>rw [xG h];exact congrArg _ (SQ po v _)
  | some i =>
   obtain ⟨p,hp,_,_,rfl⟩:=fG h;rw [nD h];exact congrArg _ (vG hne n (hne p hp))
def N3 (r:Ro) (x:Po):Int:=aZ [fK x.lv 0 (r.lv-1),cn (decide (eE r x.ou<0)) 10,cn (decide (kq r x.ip<0)) 10,cn (decide (kP r x.ou≠kq r x.ip)) 24]
theorem PF {r:Ro} (h:IC r) (s:ByteArray):eE r s<0↔kP r s<0:=by
 rw [Lp];constructor
 ·rintro ⟨a,b⟩;unfold kP;have f1:=cH.2 a;have f2:=cH.2 b;rw [if_neg (by omega),if_neg (by omega)];decide
 ·intro aiy;constructor
  ·intro hd;have:=A0 (fun x hx=>(h.dm x hx).1) (fun x hx=>(h.tm x hx).1.1) (.inl hd)
   omega
  ·intro hd;have:=A0 (fun x hx=>(h.dm x hx).1) (fun x hx=>(h.tm x hx).1.1) (.inr hd)
   omega
theorem TN {r:Ro} (h:IC r) (x:Po):N3 r x=mX r x:=by
 unfold N3 mX;rw [show decide (eE r x.ou<0)=decide (kP r x.ou<0) from decide_eq_decide.2 (PF h _)]
def HH (r:Ro) (k:Nat):Int:=(r.po[k]?.map fun x=>if N3 r x≠0 then N3 r x else if 0<k/\(x.lv<((r.po[k-1]?).getD x).lv\/x.lv=((r.po[k-1]?).getD x).lv/\eE r x.ou<=eE r ((r.po[k-1]?).getD x).ou) then 11 else 0).getD 0
theorem TL {r:Ro} (h:IC r) {k:Nat} (hk:k<r.po.length):HH r k=HL r r.po k:=by
 unfold HH;rw [Zc hk,sh hk,Zbm,Zaj,TN h];by_cases e:mX r r.po[k]=0
 ·rw [if_neg (not_not_intro e),if_neg (not_not_intro e)];have hl:=(nS e).1;by_cases Ob:k=0
  ·rw [if_neg (by omega),if_pos Ob,if_neg];exact pS.2 (by omega)
  ·rw [if_neg Ob,Zc (show k-1<r.po.length by omega),Zaj];have key:=@pS (r.po[k]).lv (eE r (r.po[k]).ou) (r.po[k-1]).lv (eE r (r.po[k-1]).ou);by_cases c:my [(r.po[k]).lv,eE r (r.po[k]).ou] (Fx r (some r.po[k-1]))<=0
   ·rw [if_pos c,if_pos];have:¬ ((r.po[k-1]).lv<(r.po[k]).lv\/(r.po[k-1]).lv=(r.po[k]).lv/\eE r (r.po[k-1]).ou<eE r (r.po[k]).ou):=fun q=>(key.2 q) c
    omega
   ·rw [if_neg c,if_neg];have:=key.1 c;omega
 ·rw [if_pos e,if_pos e]
def W0 (r:Ro):Int:=if kD r fun v=>r.ti.any fun x=>decide ((pT r.po v 8 x.nm).length=8) then 33 else if kD r fun v=>r.ti.any fun x=>nf r.po v x.nm != !decide ((eD r.po v x.nm).getD ⟨#[]⟩=⟨#[]⟩) then 32 else 0
theorem TO {r:Ro} (h:IC r) (hp:kp r r.po=0):W0 r=A8 r:=by
 have IW:∀ p∈r.po,mX r p=0:=fun p mu=>by
  obtain ⟨k,hk,rfl⟩:=Zw mu;have:=dQ.1 hp k hk;rw [sh hk] at this;by_cases e:mX r r.po[k]=0
  ·exact e
  ·rw [if_pos e] at this;exact this
 have yw:∀ p∈r.po,p.ou∈cE r\/p.ou∈cQ r:=fun p mu=>Ly (fun x hx=>(h.dm x hx).1) (fun x hx=>(h.tm x hx).1.1) (nS (IW p mu)).2.1
 have yx:∀ p∈r.po,p.ip∈cK r\/p.ip∈cQ r:=fun p mu=>L9 (nS (IW p mu)).2.2.1
 have hne:∀ p∈r.po,p.ip≠⟨#[]⟩:=fun p mu=>h.ne ((yx p mu).elim .inl fun q=>.inr (.inr q))
 have uA:∀ x∈r.ti,x.nm≠⟨#[]⟩:=fun x hx=>h.ne (.inr (.inr (Zx.2 ⟨x,hx,I⟩)))
 have hti:(cQ r).length=r.ti.length:=by unfold cQ;rw [Zd]
 have e1:(kD r fun v=>r.ti.any fun x=>decide ((pT r.po v 8 x.nm).length=8))=kD r fun v=>r.ti.any (Oj r v):=by
  unfold kD;congr 1;funext i;have hc:=Nb (po:=r.po) (v:=(i:Nat)) (T:=cQ r) (jh.tie h.wJ yw yx) (by rw [hti];exact h.len.2.2);rw [ZaQ,ZR,ZR];constructor
  ·rintro ⟨x,hx,e⟩;rw [decide_eq_true_eq,vG hne 7 (uA x hx),ZA] at e;obtain ⟨t,ht,hm⟩:=hc.2 ⟨x.nm,Zx.2 ⟨x,hx,rfl⟩,by omega⟩;obtain ⟨y,hy,rfl⟩:=Zx.1 ht;exact ⟨y,hy,fI.2 (by rw [<- hti];exact hm)⟩
  ·rintro ⟨x,hx,e⟩;obtain ⟨t,ht,hm⟩:=hc.1 ⟨x.nm,Zx.2 ⟨x,hx,rfl⟩,by rw [hti];exact fI.1 e⟩;obtain ⟨y,hy,rfl⟩:=Zx.1 ht;refine ⟨y,hy,?_⟩;rw [decide_eq_true_eq,vG hne 7 (uA y hy),ZA,hm]
 have e2:(kD r fun v=>r.ti.any fun x=>nf r.po v x.nm != !decide ((eD r.po v x.nm).getD ⟨#[]⟩=⟨#[]⟩))=kD r fun v=>r.ti.any (Lx r v):=by
  unfold kD;congr 1;funext i;dsimp only;congr 1;funext x;unfold Lx gL;have:(!decide ((eD r.po (i:Nat) x.nm).getD ⟨#[]⟩=⟨#[]⟩))=(eD r.po (i:Nat) x.nm).isSome:=by
   cases e:eD r.po (i:Nat) x.nm with
   | none=>rfl
   | some o =>
    obtain ⟨p,mu,_,_,rfl⟩:=fG e;have:=hne p mu;simp [this]
  rw [this];cases nf r.po (i:Nat) x.nm <;> cases (eD r.po (i:Nat) x.nm).isSome <;> rfl
 unfold W0 A8;rw [e1,e2];cases (kD r fun v=>r.ti.any (Oj r v)) <;> cases (kD r fun v=>r.ti.any (Lx r v)) <;> rfl
def AS (r:Ro):Int:=if jd (HH r) r.po.length≠0 then jd (HH r) r.po.length else W0 r
theorem Pv {r:Ro} (h:IC r):AS r=if kp r r.po≠0 then kp r r.po else A8 r:=by
 have e:jd (HH r) r.po.length=kp r r.po:=Fl fun j hj _=>TL h hj
 unfold AS;rw [e];by_cases c:kp r r.po=0
 ·rw [if_neg (not_not_intro c),if_neg (not_not_intro c),TO h c]
 ·rw [if_pos c,if_pos c]
def mor:ByteArray:=⟨#[109,111,114,101]⟩
theorem PG {r:Ro} {s:ByteArray} (hs:s∈cE r\/s∈cQ r):eE r s=if 0<=bC (cE r) s then bC (cE r) s else (r.de.length:Nat)+bC (cQ r) s:=by
 unfold eE;by_cases c:s∈cE r
 ·rw [if_pos (dP c),if_pos (dP c)]
 ·have h2:=cH.2 c;rw [if_neg (by omega),if_pos (dP (hs.resolve_left c)),if_neg (by omega)]

section
variable {r:Ro} {a b:ByteArray}
theorem NJ {r:Ro} {s:ByteArray} (h:s∈cK r\/s∈cE r\/s∈cQ r):s∈eL r:=by
 unfold eL;rw [Zz,Zz];rcases h with h | h | h
 ·exact .inl (.inl h)
 ·exact .inl (.inr h)
 ·exact .inr h
end
end Go.Proofs.A1
namespace Go.Proofs.A1
open Go Go.SL
open Tryz
open Tryz renaming prog->T_
variable {l:List Tk} {o:ByteArray} {w:World}
theorem HA {r:Ro} (h:(gI r l).2.2=0):∃ q,ib r l (nO r l) l.length=some q/\gI r l=(r.wp q,0,0)/\¬ 0<=mL r l:=by
 unfold gI at h ⊢;by_cases c:0<=mL r l
 ·rw [if_pos c] at h;cases h
 ·rw [if_neg c] at h ⊢;show ∃ q,ib r l (vR (cE r) (iL r l l.length)) l.length=some q/\_;cases e:ib r l (vR (cE r) (iL r l l.length)) l.length with
  | none=>rw [e] at h;cases h
  | some q=>exact ⟨q,rfl,rfl,c⟩
theorem KS {r:Ro}:(gI r l).2.2=0\/(gI r l).2.2=31/\0<=mL r l/\(gI r l).1=Ro.nil/\(gI r l).2.1=mL r l\/(gI r l).2.2=18/\¬ 0<=mL r l/\(gI r l).1=Ro.nil/\(gI r l).2.1=(CQ r l (nO r l):Nat)/\ib r l (nO r l) l.length=none:=by
 unfold gI;by_cases c:0<=mL r l
 ·rw [if_pos c];exact .inr (.inl ⟨I,c,I,I⟩)
 ·rw [if_neg c];show _\/_\/_/\_/\_/\_/\ib r l (vR (cE r) (iL r l l.length)) l.length=none;cases e:ib r l (vR (cE r) (iL r l l.length)) l.length with
  | none=>exact .inr (.inr ⟨rfl,c,rfl,rfl,rfl⟩)
  | some q=>exact .inl rfl
def S8 (r:Ro) (t:Tk):List ByteArray:=(List.range r.lv.toNat).map fun k=>if t.at k=⟨#[]⟩ then j4 r (k:Nat) t.de else if t.at k=dash then ⟨#[]⟩ else t.at k
theorem Rm {r:Ro} {v:Int} (h:j4 r v o≠⟨#[]⟩):j4 r v o∈cK r:=by
 unfold j4 at h ⊢;split at h
 ·rename_i c;rw [if_pos c];rw [ZR] at c;obtain ⟨x,hx,e⟩:=c;rw [decide_eq_true_eq] at e;exact Zx.2 ⟨x,hx,e⟩
 ·exact absurd I h
theorem Nv {r:Ro} (h:rQ r) {q:List Po} (hq:jh r q) (v:Int) (o:ByteArray):j4 (r.wp q) v o=qy q v (cK r) o:=xJ (h.wp hq).wJ hq.wp v o
theorem KQ {r:Ro} (gr:gy r=0) {l:List Tk} (hl:IB r l) {q:List Po} (h0:ib r l (nO r l) l.length=some q) :
  jh r q/\(∀ t∈l,cU (r.wp q) t.de=S8 r t)/\∀ y∈cE r,y ∉ l.map Tk.de->cU (r.wp q) y=cU r y:=by
 have h:=A2 gr;have hp:=prt (ue gr).2.1;obtain ⟨k1,k2,k3⟩:=TD h hl h0;refine ⟨k1,fun t ht=>?_,fun y hy hn=>?_⟩
 ·unfold cU S8;show (List.range r.lv.toNat).map _=_;refine Zbe fun k hk=>?_;have hk:=ZW.1 hk;have tO:=hl.lv t ht;have hks:k<t.so.length:=by omega
  rw [Nv h k1];by_cases hd:lH r t k=true
  ·rw [k3 t ht k hks hd,if_neg (kX.1 hd).1]
  ·have oB:¬ Wi r l (k:Nat) t.de:=by
    rintro ⟨t',HY,i,hi,Bp,e1,e2⟩;obtain ⟨x,hx,rfl⟩:=Zw ht;obtain ⟨x',Uh,rfl⟩:=Zw HY;have e:x=x':=Classical.byContradiction fun c=>zU hl.nd hx Uh c e2
    subst e;have:k=i:=by omega
    subst this;exact hd Bp
   rw [k2 _ _ (hl.de t ht) oB,<- xJ h.wJ h.val];by_cases e1:t.at k=⟨#[]⟩
   ·rw [if_pos e1]
   ·have e2:t.at k=j4 r (k:Nat) t.de:=Classical.byContradiction fun c=>hd (kX.2 ⟨e1,c⟩)
    have e3:t.at k≠dash:=hp.nd (by rw [e2];exact Rm (by rw [<- e2];exact e1));rw [if_neg e1,if_neg e3,e2]
 ·unfold cU;show (List.range r.lv.toNat).map _=_;refine Zbe fun k _=>?_;rw [Nv h k1,k2 _ _ hy fun ⟨t,ht,_,_,_,_,e⟩=>hn (Zx.2 ⟨t,ht,e.symm⟩),<- xJ h.wJ h.val]
theorem ux {r:Ro}:jC r o=false↔o=⟨#[]⟩\/o=dash\/o∈cK r:=by
 unfold jC dash;rw [Bool.and_eq_false_iff,Bool.and_eq_false_iff,decide_eq_false_iff_not,decide_eq_false_iff_not,decide_eq_false_iff_not,cH];simp only [ne_eq,Zp,or_assoc];rw [Classical.not_not]
theorem Aw {r:Ro}:uR r l=0↔l≠[]/\IB r l:=by
 have iy:∀ k (hk:k<l.length),yj r l k=0↔(l[k].de∈cE r/\(∀ j (hj:j<k),(l[j]'(by omega)).de≠l[k].de)/\(l[k].so.length:Int)=r.lv/\∀ s∈l[k].so,s=⟨#[]⟩\/s=dash\/s∈cK r):=by
  intro k hk;rw [q5 hk,cz];have e1:oL r l[k].de=0↔l[k].de∈cE r:=by
   unfold oL;rw [bT (by decide),decide_eq_false_iff_not,cH,Classical.not_not]
  have e2:cn ((l.take k).any fun y=>decide (y.de=l[k].de)) 9=0↔∀ j (hj:j<k),(l[j]'(by omega)).de≠l[k].de:=by
   rw [bT (by decide),Zam];constructor
   ·intro h j hj e;have hjt:j<(l.take k).length:=by rw [Zs];omega
    have:=h _ (Zj hjt);rw [ZaF] at this;exact this (decide_eq_true e)
   ·intro h x hx e;obtain ⟨j,hj,rfl⟩:=Zw hx;rw [Zs] at hj;rw [ZaF] at e;exact h j (by omega) (of_decide_eq_true e)
  have e3:cn (decide ((l[k].so.length:Int)≠r.lv)) 2=0↔(l[k].so.length:Int)=r.lv:=by
   rw [bT (by decide),decide_eq_false_iff_not,ne_eq,Zp]
  have e4:cn (l[k].so.any (jC r)) 10=0↔∀ s∈l[k].so,s=⟨#[]⟩\/s=dash\/s∈cK r:=by
   rw [bT (by decide),Zam];exact ⟨fun h s hs=>ux.1 (by have:=h s hs;rwa [Zap] at this),fun h s hs=>by rw [Zap];exact ux.2 (h s hs)⟩
  constructor
  ·intro h;exact ⟨e1.1 (h _ (by simp)),e2.1 (h _ (by simp)),e3.1 (h _ (by simp)),e4.1 (h _ (by simp))⟩
  ·rintro ⟨a,b,c,d⟩ e he;simp only [ZS,Zo,or_false] at he;rcases he with rfl | rfl | rfl | rfl
   ·exact e1.2 a
   ·exact e2.2 b
   ·exact e3.2 c
   ·exact e4.2 d
 have hA:En l=0↔l≠[]/\l.length<=8:=by
  unfold En;rw [cz];constructor
  ·intro h;have a:=(bT (by decide)).1 (h (cn (decide ((l.length:Int)=0)) 12) (by simp));have b:=(bT (by decide)).1 (h (cn (decide ((8:Int)<(l.length:Nat))) 5) (by simp));rw [decide_eq_false_iff_not] at a b;exact ⟨fun e=>a (by rw [e];rfl),by omega⟩
  ·rintro ⟨a,b⟩ e he;simp only [ZS,Zo,or_false] at he;rcases he with rfl | rfl
   ·refine (bT (by decide)).2 (decide_eq_false fun e=>a (Z8 (by omega)))
   ·exact (bT (by decide)).2 (decide_eq_false (by omega))
 unfold uR;constructor
 ·intro h;by_cases c:En l=0
  ·rw [if_neg (not_not_intro c)] at h;have h:=dQ.1 h;obtain ⟨c1,c2⟩:=hA.1 c;refine ⟨c1,fun t ht=>?_,?_,fun t ht=>?_,fun t ht=>?_,c2⟩
   ·obtain ⟨k,hk,rfl⟩:=Zw ht;exact ((iy k hk).1 (h k hk)).1
   ·show List.Pairwise _ _;rw [Zad];intro i j hi hj yy;rw [Zd] at hi hj;rw [ZZ,ZZ];exact ((iy j hj).1 (h j hj)).2.1 i yy
   ·obtain ⟨k,hk,rfl⟩:=Zw ht;exact ((iy k hk).1 (h k hk)).2.2.1
   ·obtain ⟨k,hk,rfl⟩:=Zw ht;exact ((iy k hk).1 (h k hk)).2.2.2
  ·rw [if_pos c] at h;exact absurd h c
 ·rintro ⟨c1,h⟩;rw [if_neg (not_not_intro (hA.2 ⟨c1,h.B4⟩))];refine dQ.2 fun k hk=>(iy k hk).2 ⟨h.de _ (Zj hk),fun j hj=>zU h.nd (by omega) hk (by omega),h.lv _ (Zj hk),h.so _ (Zj hk)⟩
def yg (r:Ro) (t:Tk):Tk:=⟨t.de,(List.range r.lv.toNat).map fun k=>if t.at k=⟨#[]⟩ then ⟨#[]⟩ else if j4 r (k:Nat) t.de=⟨#[]⟩ then dash else j4 r (k:Nat) t.de⟩
def Ro.Lh (r:Ro) (d:ByteArray) (q:Bool):Ro:=⟨r.lv,r.ma,r.sr,r.de.modify (bC (cE r) d).toNat fun x=>⟨x.nm,x.mx,q⟩,r.ti,r.po⟩
structure Od where
 fr:Int
 tk:List Tk
def Od.zero:Od:=⟨0,[]⟩
def NZ (r:Ro) (l:List Od):Nat->Ro
 | 0=>r
 | i+1=>(gI (NZ r l i) (l.getD i Od.zero).tk).1
def tH (r:Ro) (l:List Od) (i:Nat):Int:=(gI (NZ r l i) (l.getD i Od.zero).tk).2.2
def NC (f:Nat->Int) (n:Nat):Nat:=((List.range n).find? fun i=>decide (f i≠0)).getD 0
def fE (r:Ro) (l:List Od):Ro×Int×Int:=if jd (tH r l) l.length=0 then (NZ r l l.length,0,0) else (Ro.nil,(NC (tH r l) l.length:Nat),jd (tH r l) l.length)
theorem Hc {f:Nat->Int} {n i:Nat} (h:∀ j,j<i->f j=0) (hi:i<n) (hn:f i≠0):NC f n=i:=by
 unfold NC;have:(List.range n).find? (fun i=>decide (f i≠0))=some i:=by
  rw [ZaD];refine ⟨by simpa using hn,i,by simpa using hi,by simp,fun j hj=>?_⟩;simp [h j hj]
 rw [this];rfl
def BX (r:Ro) (l:List Od) (k:Nat):Int:=(l[k]?.map fun x=>aZ [fK x.fr 0 10000000,cn (decide (x.fr<=if k=0 then -1 else (l.getD (k-1) Od.zero).fr)) 11,uR r x.tk]).getD 0
def Gv (r:Ro) (l:List Od):Int:=if (16:Int)<(l.length:Nat) then 5 else jd (BX r l) l.length
structure IE (r:Ro) (l:List Od):Prop where
 B4:l.length<=16
 fr:∀ k (h:k<l.length),0<=l[k].fr/\l[k].fr<=10000000
 inc:∀ i j (hi:i<l.length) (hj:j<l.length),i<j->l[i].fr<l[j].fr
 tk:∀ k (h:k<l.length),IB r l[k].tk
theorem ods {r:Ro} {l:List Od} (h:Gv r l=0):IE r l:=by
 unfold Gv at h;by_cases c:(16:Int)<(l.length:Nat)
 ·rw [if_pos c] at h;cases h
 ·rw [if_neg c] at h;have h:=dQ.1 h;have hk:∀ k (hk:k<l.length),(0<=l[k].fr/\l[k].fr<=10000000)/\(if k=0 then -1 else (l.getD (k-1) Od.zero).fr)<l[k].fr/\uR r l[k].tk=0:=fun k hk=>by
   have:=h k hk;unfold BX at this;rw [Zc hk,Zbm,Zaj,cz] at this;have a:=gZ.1 (this _ Zu);have b:=(bT (by decide)).1 (this (cn (decide (l[k].fr<=if k=0 then -1 else (l.getD (k-1) Od.zero).fr)) 11) (by simp))
   rw [decide_eq_false_iff_not] at b;exact ⟨a,by omega,this _ (by simp)⟩
  have iY:∀ k (Qw:k+1<l.length),l[k].fr<l[k+1].fr:=fun k Qw=>by
   have:=(hk (k+1) Qw).2.1;rwa [if_neg (by omega),Zax,Zk,Zc (by omega),Zaj] at this
  refine ⟨by omega,fun k h=>(hk k h).1,fun i j hi hj yy=>?_,fun k h=>(Aw.1 (hk k h).2.2).2⟩
  induction j with
  | zero=>omega
  | succ j ih =>
   have:=iY j hj;by_cases c:i=j
   ·subst c;exact this
   ·have:=ih (by omega) (by omega);omega
structure DT (r:Ro) (l:List Od) (i:Nat) (q:List Po):Prop where
 eq:NZ r l i=r.wp q
 val:jh r q
theorem DT.next {r:Ro} (gr:gy r=0) {l:List Od} (hl:IE r l) {i:Nat} (hi:i<l.length) {q:List Po} (h:DT r l i q) (h0:tH r l i=0):∃ q',DT r l (i+1) q'/\(∀ t∈l[i].tk,cU (r.wp q') t.de=S8 (r.wp q) t)/\∀ y∈cE r,y ∉ l[i].tk.map Tk.de->cU (r.wp q') y=cU (r.wp q) y:=by
 unfold tH at h0;rw [h.eq,Zk,Zc hi,Zaj] at h0;obtain ⟨q',e1,e2,_⟩:=HA h0;obtain ⟨k1,k2,k3⟩:=KQ (BD gr h.val) ((hl.tk i hi).wp q) e1;refine ⟨q',⟨?_,⟨k1.rU,k1.LS,k1.out,k1.xX,k1.RY,k1.D9,k1.use⟩⟩,k2,k3⟩;rw [NZ,h.eq,Zk,Zc hi,Zaj,e2];rfl
theorem Ez {r:Ro} (gr:gy r=0) {l:List Od} (hl:IE r l):∀ i,i<=l.length->(∀ j,j<i->tH r l j=0)->∃ q,DT r l i q
 | 0,_,_=>⟨r.po,rfl,(A2 gr).val⟩
 | i + 1, hi, h => by
  obtain ⟨q,hq⟩:=Ez gr hl i (by omega) fun j hj=>h j (by omega);obtain ⟨q',uC,_⟩:=hq.next gr hl hi (h i (by omega));exact ⟨q',uC⟩
def fU (l:List Od) (f:Int):Nat:=l.findIdx fun x=>decide (f<x.fr)
theorem Te (l:List Od) (f:Int):fU l f<=l.length:=List.findIdx_le_length
theorem Eh {r:Ro} {l:List Od} (hl:IE r l) (f:Int):l.filter (fun x=>decide (x.fr<=f))=l.take (fU l f):=by
 have e:l=l.take (fU l f)++l.drop (fU l f):=(Z0 _ _).symm
 conv=>lhs;rw [e]
 rw [Zay];have h1:(l.take (fU l f)).filter (fun x=>decide (x.fr<=f))=l.take (fU l f):=by
  rw [Zaz];intro x hx;obtain ⟨j,hj,rfl⟩:=Zw hx;rw [Zs] at hj;rw [ZaF];have:=List.not_of_lt_findIdx (p:=fun x:Od=>decide (f<x.fr)) (xs:=l) (i:=j) (show j<fU l f by omega)
  simpa using this
 have h2:(l.drop (fU l f)).filter (fun x=>decide (x.fr<=f))=[]:=by
  rw [List.filter_eq_nil_iff];intro x hx;obtain ⟨j,hj,rfl⟩:=Zw hx;rw [ZaS] at hj;rw [List.getElem_drop];have hn:fU l f<l.length:=by omega
  have:=List.findIdx_getElem (p:=fun x:Od=>decide (f<x.fr)) (xs:=l) (w:=hn)
  have h3:f<l[fU l f].fr:=of_decide_eq_true this;by_cases c:j=0
  ·subst c;simpa using h3
  ·have:=hl.inc (fU l f) (fU l f+j) hn (by omega) (by omega);simp;omega
 rw [h1,h2,ZJ]
def RW (b:Nat) (r:Ro) (s d t p:Value) (l:List Po):List bd:=[RB b r s d t p,J1 r s,J2 r d,J3 r t,PB p l]
theorem W1 {l:List Po} {i:Nat} (h:i<l.length) (cur:List Value):eK (gl l++cur) (i*3) 3=[.q l[i].lv,.string l[i].ou,.string l[i].ip]:=sS (f:=Po.cells) (fun _=>rfl) h cur
theorem RR.wp {r:Ro} {s d t p':Value} {po:List Po} (h1:Rd w s 2 (vk r.sr)) (h2:Rd w d 3 (u0 r.de)) (h3:Rd w t 3 (uS r.ti)) (h4:Rd w p' 3 (tG po)):RR w (r.wp po) s d t p':=⟨h1,h2,h3,h4⟩
set_option maxHeartbeats 2000000 in
theorem OW {r:Ro} {s d t p:Value} {b:Nat} {fp:List Nat} (jw:fp.Nodup) (hs:cr (hp w) (RW b r s d t p r.po) fp) (cZ:nk r) (hpf:r.po.length<=1000) :
  a8 T_ 257 [.p b] w fp (fun x:Value×(Po->Bool)=>Sw r.po (cE r) x.2/\∀ q∈r.po,x.2 q=true->q.ou∈cE r\/∃ q'∈r.po,x.2 q'=true/\q'.lv=q.lv/\q'.ip=q.ou) (fun _=>.tuple #[]) (fun x=>RW b r s d t x.1 (r.po.filter x.2)):=by
 unfold RW RB PB at *;refine ek func257 I I jw hs ?_;refine Jr<|Ja I<|Jn<|J0 ?_
 refine aV (ι:=Value×(Po->Bool)×Bool) (fun x=>Sw r.po (cE r) x.2.1/\(x.2.2=false->∀ q∈r.po,x.2.1 q=true->q.ou∈cE r\/∃ q'∈r.po,x.2.1 q'=true/\q'.lv=q.lv/\q'.ip=q.ou)) (fun x=>[(2,.bool x.2.2),(0,.p b)])
  (fun x=>RW b r s d t x.1 (r.po.filter x.2.1)) (fun x=>2*(r.po.filter x.2.1).length+if x.2.2 then 1 else 0) ?_ ?_
 ·apply aI (p,(fun _=>true),true) ⟨Sw.start _ _,fun h=>by cases h⟩
  case hs1=>exact bS
  case ht=>
   show bB _ [JP b r s d t p,J1 r s,J2 r d,J3 r t,row 188 3 p (r.po.filter fun _=>true).length (gl (r.po.filter fun _=>true))] _
   rw [Zaz.2 fun _ _=>rfl]
   exact .h5 .nil
 rintro ⟨p',f,fl⟩ ⟨Wa,sK⟩;dsimp only at Wa sK ⊢;unfold RW RB PB;cases fl with
 | false =>
  (refine Jq<|Jr<|Jv I<|Jn<|ch (.of I)<|Jp<|Jl<|Jo ?_)
  with_reducible first|apply aO|apply aQ
  case he=>exact qV I
  case hR=>
   intro w' aB;exact aD (p',f) ⟨Wa,sK I⟩ (by exact .h5 .nil) aB I
 | true =>
  (refine Jq<|Jr<|Jv I<|Jn<|cW (.of I)<|Jk<|J0<|Jr<|Ja I<|Ji<|Jv I<|ab (ez (.of I)) I<|bJ I I ae<|JL I .here I ?_)
  have ai9:(r.po.filter f).length<=r.po.length:=ZV _ _;refine JN bM I (fun w1 aT=>Iv (ct aT dD I) (by omega)) ?_;intro cv _;dsimp only [id_eq,Zb,Za];refine aM (v:=cv) (by exact .here) fun ca cc e=>?_;subst e;refine JI I<|Jv I<|Jn<|J0 ?_;have nN:∀ k (h:k<(r.po.filter f).length),(gl (r.po.filter f)).length=(r.po.filter f).length*3:=fun _ _=>ic _
  refine aV (ι:=Nat×Value×(Po->Bool)×Bool) (fun x=>x.1<=(r.po.filter f).length/\Sw r.po (cE r) x.2.2.1/\(x.2.2.2=false->x.2.2.1=f/\∀ i (hi:i<(r.po.filter f).length),i<x.1->(r.po.filter f)[i].ou∈cE r\/nf (r.po.filter f) (r.po.filter f)[i].lv (r.po.filter f)[i].ou=true)/\(x.2.2.2=true->(r.po.filter x.2.2.1).length<(r.po.filter f).length))
   (fun x=>[(12,.q (x.1:Nat)),(11,.q ((r.po.filter f).length:Nat)),(10,.slice ca (r.po.filter f).length cc),(2,.bool x.2.2.2),(0,.p b)])
   (fun x=>[JP b r s d t (x.2.1),J1 r s,J2 r d,J3 r t,row 188 3 x.2.1 (r.po.filter x.2.2.1).length (gl (r.po.filter x.2.2.1)),row 188 3 (.slice ca (r.po.filter f).length cc) (r.po.filter f).length (gl (r.po.filter f))]) (fun x=>(r.po.filter f).length-x.1) ?_ ?_
  ·apply aI (0,p',f,false) ⟨Zi _,Wa,fun _=>⟨I,fun i _ h=>absurd h (ZN i)⟩,fun h=>by cases h⟩
   case hs1=>exact bS
   case ht=>exact iP
  rintro ⟨k,p2,f2,fl⟩ ⟨hk,QJ,Mw,Bm⟩;dsimp only at hk QJ Mw Bm ⊢;by_cases aK:k<(r.po.filter f).length
  ·refine Jr<|JA I<|Jn<|Jq<|Jd I fun az=>Jk<|Jq<|J0<|Jr ?_;refine dy (E:=188) (sz:=3) (v:=.slice ca (r.po.filter f).length cc) eu (by omega) fun g iz cur e oD Dd C9 Fb=>?_;cases e;have c1:=W1 aK cur
   (refine ab (an (.of I) (.of I) I (by omega) az aW) I ?_;refine ab (bK (.of I) .here c1 I) I ?_;refine Jz I I fun _ _=>ao (.of I) (.of I) .here I I (fx I I I) (bz I) ak ?_;refine Jn<|Jq ?_)
   generalize w9:(r.po.filter f)[k].lv=pv;generalize oQ:(r.po.filter f)[k].ou=po;generalize Sa:(r.po.filter f)[k].ip=pi;have V6:∀ w',RR w' (r.wp (r.po.filter f2)) s d t p2->aj T_ 155 [.agg #[.q r.lv,.q r.ma,s,d,t,p2],.string po] w' (.q (bC (cE r) po)):=fun w' h=>gK (r:=r.wp (r.po.filter f2)) po h
   have hu0:∀ w',RR w' (r.wp (r.po.filter f2)) s d t p2->aj T_ 239 [.agg #[.q r.lv,.q r.ma,s,d,t,p2],.q pv,.string po] w' (.bool (nf (r.po.filter f2) pv po)):=fun w' h=>Ke (r:=r.wp (r.po.filter f2)) pv po h
   with_reducible refine cN 18 (by kernel_rfl) ?_
   (refine gn I I<|aA (ez (.of I)) I<|aA (cm bL) I<|lS I I ae<|aA (gX .here) I<|dp bb I (fun w' aB=>(V6 w' (RR.wp (cG aB cX I) (cI aB dD I) (cF aB eu I) (ct aB kr I))))<|aA (lh (.of I) (.of I)) I<|gn I I<|bN I I inferInstance (fun hg br=>(aP (.of I))) I<|bN I I inferInstance (fun hg br=>(ez (.bF hg I))) I<|bN I I inferInstance (fun hg br=>(bK (.bF hg I) bL ak (by rfl))) I<|bN I I inferInstance (fun hg br=>(aq (.of I) ae)) I<|bN I I inferInstance (fun hg br=>(ag (.bF hg I) (At.lit .here I))) I<|bN I I inferInstance (fun hg br=>(aq (.of I) ae)) I<|bN I I inferInstance (fun hg br=>(ag (.bF hg I) (At.lit .here I))) I<|oy I I (fun hg=>(a7 (.of I) (.cons (.bF hg I) (.cons (.bF hg I) (.cons (.bF hg I) .nil))) inferInstance dZ)) I (fun hg w' aB=>(hu0 w' (RR.wp (cG aB cX I) (cI aB dD I) (cF aB eu I) (ct aB kr I))))<|bN I I inferInstance (fun hg br=>(dN (.bF hg I))) I<|aA (bX (.of I) I) I ?_)
   with_reducible refine cT ?_
   (refine Jn<|nj I (fun az=>?_) fun az=>?_;refine Jr<|Jv I<|bJ I I ae<|JL I .here I<|bJ I I ae<|JL I .here I ?_;rotate_left;refine Jw<|Jj<|Jt<|Jg<|JB I (by omega)<|Jv I<|Jn ?_;rotate_right)
   ·obtain ⟨Qy,Xl⟩:bC (cE r) po<0/\nf (r.po.filter f2) pv po=false:=by simpa using az
    with_reducible apply gA (As:=[JP b r s d t p2,row 188 3 p2 (r.po.filter f2).length (gl (r.po.filter f2))])
    case hr=>exact ef
    case hd=>rfl
    case ht=>exact .cons bL (.cons eu .nil)
    case hc=>
     intro w1 Bv aT uV hs1 Dt lp;exact yR (r:=r) (s:=s) (d:=d) (t:=t) (p:=p2) (b:=b) (l:=r.po.filter f2) pv po uV hs1 (by have:=ZV f2 r.po;omega)
    intro p3 _;dsimp only [id_eq,Zb,Za];unfold RB PB;rw [pM];refine Jn<|Jg<|Ja I<|Jx<|Jj<|Jt<|Jg<|JB I (by omega)<|Jv I<|Jn ?_;refine dC (E:=188) (sz:=3) (g:=g) cX oD Dd C9 Fb ?_;apply aH (k+1,p3,(fun x=>f2 x&&!rJ pv po x),true) ⟨by show k+1<=_;omega,QJ.step (cH.1 Qy) (fun q hq hf e=>by
     have:=u9.2 ⟨q,Zr.2 ⟨hq,hf⟩,e⟩;rw [Xl] at this;cases this),(fun h=>by cases h),fun _=>by
      show (r.po.filter fun x=>f2 x&&!rJ pv po x).length<_
      rw [<- pM];cases fl with
      | true=>exact Nat.lt_of_le_of_lt (ZV _ _) (Bm rfl)
      | false =>
       obtain ⟨rfl,_⟩:=Mw rfl;refine List.length_filter_lt_length_iff_exists.2 ⟨_,Zj aK,?_⟩;unfold rJ;rw [w9,oQ];simp⟩ (by show (r.po.filter f).length-(k+1)<(r.po.filter f).length-k;omega)
    case hs1=>exact bS
    case ht=>exact iP
   ·have V7:¬ (decide (bC (cE r) po<0)&&!nf (r.po.filter f2) pv po)=true:=by
     simp only [Zm,decide_eq_true_eq,Zbb,not_and,Bool.not_eq_false] at az ⊢;exact fun c=>az.resolve_left (fun q=>q c)
    refine dC (E:=188) (sz:=3) (g:=g) (by exact Take.there .here) oD Dd C9 Fb ?_;apply aH (k+1,p2,f2,fl) ⟨by show k+1<=_;omega,QJ,(fun h=>⟨(Mw h).1,fun i hi hik=>by
     by_cases e:i=k
     ·subst e;rw [w9,oQ];obtain ⟨e1,_⟩:=Mw h;rw [e1] at V7;by_cases c:bC (cE r) po<0
      ·right
       cases c2:nf (r.po.filter f) pv po with
       | true=>rfl
       | false=>exact absurd (show (decide (bC (cE r) po<0)&&!nf (r.po.filter f) pv po)=true by rw [c2,decide_eq_true c];rfl) V7
      ·exact .inl (Classical.byContradiction fun q=>c (cH.2 q))
     ·exact (Mw h).2 i hi (show i<k by have:i<k+1:=hik;omega)⟩),Bm⟩ (by show (r.po.filter f).length-(k+1)<(r.po.filter f).length-k;omega)
    case hs1=>exact bS
    case ht=>exact .cons bL (.cons bL (.cons bL (.cons bL (.cons bL (.h1 .nil)))))
  ·have e:k=(r.po.filter f).length:=by omega
   subst e;refine Jr<|JA I<|Jn<|Jq<|Jc I fun az=>Jp<|Jl<|Jo<|Jj<|Jt ?_;apply aH (p2,f2,fl) ⟨QJ,fun h q hq hf=>by
    obtain ⟨rfl,h2⟩:=Mw h;obtain ⟨i,hi,rfl⟩:=Zw (Zr.2 ⟨hq,hf⟩);rcases h2 i hi hi with e | e
    ·exact .inl e
    ·obtain ⟨q',uC,e'⟩:=u9.1 e;obtain ⟨x1,x2⟩:=Zr.1 uC;exact .inr ⟨q',x1,x2,e'⟩⟩ (by
    show 2*(r.po.filter f2).length+(if fl then 1 else 0)<2*(r.po.filter f).length+(if true then 1 else 0)
    cases fl with
    | true=>have:=Bm rfl;simp only [if_true];omega
    | false=>rw [(Mw rfl).1];simp)
   case hs1=>exact bS
   case ht=>exact iP
end Go.Proofs.A1
namespace Go.SL
open Go
section
variable {P:Program} {r:Option Nat} {c:Cx} {D:List Nat} {sl:aL} {hs hs' hs2:List bd} {Q:Exit->Act->World->Prop} {ops:Array Oper} {d:Nat} {dst:Option Tmp} {ty:TypeId} {pos:String} {af:Array Edge} {g:Option (Nat×Bool)} {rest:List Oper} {κ:Type} [DecidableEq κ] {kv:κ->Value}
theorem Hu {X:Act->World->Prop} {b:Nat} {l:List (κ×Value)} (ht:Take hs (mp kv b l) hs') (k:∀ es ck,LJ kv l es ck->Tr c D sl (bE b (.map es ck)::hs') X):Tr c D sl hs X:=fun a w ba=>by
 have hm:=ba.mem.take (ht.append _);obtain ⟨kk,fp,hn,⟨f1,f2,rfl,⟨e,es,ck,h1,h2⟩,h3⟩,Bm⟩:=hm;exact k es ck h2 a w (ba.heap ⟨kk,f1++f2,hn,⟨f1,f2,I,⟨e,h1⟩,h3⟩,Bm⟩)
end
end Go.SL
namespace Go.Proofs.A1
open Go Go.SL
open Tryz
open Tryz renaming prog->T_
theorem DP {r:Ro} {v:Int} {i:Nat}:∀ {q:List Nat} {po:List Po} {x:ByteArray},rG r v po x (q++[i])=(if gL (rG r v po x q).1 v (dh r i) then (rG r v po x q).1 else (rG r v po x q).1++[⟨v,dh r i,(rG r v po x q).2⟩],dh r i)
 | [],po,x=>rfl
 | j :: q, po, x => by
  rw [Zb,rG,rG];exact DP
theorem BL {r:Ro} {v:Int}:∀ (q:List Nat) (po:List Po) (x:ByteArray),(rG r v po x q).1.length<=po.length+q.length
 | [],po,x=>Zy _
 | j :: q, po, x => by
  rw [rG];refine ZQ (BL q _ _) ?_;rw [ZA];split
  ·omega
  ·rw [Zg,Z9];omega
theorem He {r:Ro} {v:Int}:∀ (q:List Nat) (po:List Po) (x:ByteArray),(∀ i∈q,i<r.ti.length)->(∀ p∈po,p.ou∈cE r\/p.ou∈cQ r)->∀ p∈(rG r v po x q).1,p.ou∈cE r\/p.ou∈cQ r
 | [],po,x,_,h=>h
 | j :: q, po, x, hi, h => by
  rw [rG];refine He q _ _ (fun i yz=>hi i (ZM _ yz)) fun p hp=>?_;split at hp
  ·exact h p hp
  ·rcases Zz.1 hp with hp | hp
   ·exact h p hp
   ·rw [ZL.1 hp];exact .inr (mD (hi j Zu))
variable {i:Nat} {l:List Ti}
theorem WG (h:i<l.length) (cur:List Value):eK (kz l++cur) (i*3) 3=[.string l[i].nm,.q l[i].fr,.q l[i].to]:=sS (f:=Ti.cells) (fun _=>rfl) h cur
theorem To (h:i<l.length) (cur:List Value):(kz l++cur)[i*3]? = some (.string l[i].nm):=by
 have:=uN (cs:=kz l++cur) (o:=i*3) (n:=3) (j:=0) (by omega);rw [WG h cur,Zaw] at this;exact this.symm
theorem Gl (l:List Po) (q:Po):gl (l++[q])=gl l++[.q q.lv,.string q.ou,.string q.ip]:=by
 unfold gl tG;simp [Po.cells]
theorem TP {r:Ro} {x y:Po}:TQ r x y<0↔ng r x y=true:=by
 rw [vq];unfold ng;simp
set_option maxHeartbeats 2000000 in
theorem WJ {r:Ro} {s d t p:Value} {b:Nat} {po:List Po} {xv:Value} {xp:List Nat} (xf:Nat) (v:Int) (so de:ByteArray) {w:World} {fp:List Nat} (jw:fp.Nodup) (hs:cr (hp w) [RB b r s d t p,J1 r s,J2 r d,J3 r t,PB p po,row 3 1 xv xp.length (gT xp)] fp)
  (cZ:nk r) (hpf:po.length<=1000) (hxf:xp.length<=100) (hd:Ea r) (hi:∀ i∈xp,i<r.ti.length) (yw:∀ q∈po,q.ou∈cE r\/q.ou∈cQ r) (mZ:de∈cE r) (hV:(kN r po v so xp de).Pairwise (fun a b=>ng r a b=true)) :
  a8 T_ 258 [.p b,.q v,.string so,.agg #[xv,.q (xf:Nat)],.string de] w fp (fun _:Value=>True) (fun _=>.tuple #[]) (fun p'=>[RB b r s d t p',J1 r s,J2 r d,J3 r t,PB p' (kN r po v so xp de),row 3 1 xv xp.length (gT xp)]):=by
 unfold RB PB at *;refine ek func258 I I jw hs ?_;refine aM (v:=xv) eu fun xa xc e=>?_;subst e;refine aM (v:=t) cX fun ta tc e=>?_;subst e;refine aM (v:=p) dD fun pa pc e=>?_;subst e
 (refine Jr<|Jy I I fun _ _=>Ji<|Jv I<|Ja I<|Jn<|Jq<|Jr<|bJ I I ae<|JL I .here I<|JI I<|Jv I<|Jn<|J0 ?_)
 rename_i b8 hb8
 refine aV (ι:=Nat×Value) (fun y=>y.1<=xp.length) (fun y=>[(19,.q (y.1:Nat)),(18,.q (xp.length:Nat)),(17,.slice xa xp.length xc),(10,.string (rG r v po so (xp.take y.1)).2),(0,.p b),(1,.q v),(4,.string de)])
  (fun y=>[JP b r s d (.slice ta r.ti.length tc) (y.2),J1 r s,J2 r d,row 187 3 (.slice ta r.ti.length tc) r.ti.length (kz r.ti),row 188 3 y.2 (rG r v po so (xp.take y.1)).1.length (gl (rG r v po so (xp.take y.1)).1),row 3 1 (.slice xa xp.length xc) xp.length (gT xp)]) (fun y=>xp.length-y.1) ?_ ?_
 ·apply aI (0,.slice pa po.length pc) (Zi _)
  case hs1=>
   show mh _ [(19,.q (0:Nat)),(18,.q (xp.length:Nat)),(17,.slice xa xp.length xc),(10,.string so),(0,.p b),(1,.q v),(4,.string de)];exact .cons I (.cons I (.cons I (.cons I (.cons I (.cons I (.cons I .nil))))))
  case ht=>
   exact .cons (.there .here) (.cons (.there .here) (.cons (.there .here) (.cons (.there .here) (.cons (.there .here) (.cons (.there .here) .nil)))))
 rintro ⟨k,pv⟩ hk;dsimp only at hk ⊢;have U1:=BL (r:=r) (v:=v) (xp.take k) po so;rw [Zs] at U1;by_cases aK:k<xp.length
 ·have oK:rG r v po so (xp.take (k+1))=(if gL (rG r v po so (xp.take k)).1 v (dh r xp[k]) then (rG r v po so (xp.take k)).1 else (rG r v po so (xp.take k)).1++[⟨v,dh r xp[k],(rG r v po so (xp.take k)).2⟩],dh r xp[k]):=by
   rw [Zl aK,DP]
  have hix:=hi _ (Zj aK);have uA:dh r xp[k]=(r.ti[xp[k]]).nm:=by unfold dh;rw [nR hix]
  generalize rG r v po so (xp.take k)=A at oK U1 ⊢;obtain ⟨q,la⟩:=A;dsimp only at oK U1 ⊢;refine aM (E:=188) (sz:=3) (v:=pv) dD fun va vc e=>?_;subst e;refine Jr<|JA I<|Jn<|Jq<|Jd I fun az=>Jk<|Jq<|J0<|Jr ?_;refine dy (E:=3) (sz:=1) (v:=.slice xa xp.length xc) eu (by omega) fun g1 c1 u1 e kL aT hz1 UN=>?_;cases e;have a1:=C0 aK u1;generalize hxk:xp[k]=ik at *
  (refine ab (an (.of I) (.of I) I (by omega) az aW) I ?_;refine ab (ag (.of I) (At.mz .here a1)) I ?_;refine Ja I<|Ji<|Jv I<|ab (ez (.of I)) I ?_;refine bJ I I ae ?_;refine JL I (.there .here) I<|Jv I ?_)
  refine dy (E:=187) (sz:=3) (v:=.slice ta r.ti.length tc) dD (by omega) fun g2 c2 u2 e ke ni hz2 D5=>?_;cases e;have a2:=To hix u2;rw [<- uA] at a2
  (refine ab (an (.of I) (.of I) I (by omega) (by omega) aW) I<|bJ I I ae<|ab (ag (.of I) (At.mz .here a2)) I<|Ja I<|Jn<|Jq<|Jr<|Jv I<|ab (ez (.of I)) I<|ab (cm bL) I<|Jv I<|Jv I ?_)
  refine dC (E:=187) (sz:=3) (g:=g2) (by exact .here) ke ni hz2 D5 ?_;refine dC (E:=3) (sz:=1) (g:=g1) (by exact Take.there .here) kL aT hz1 UN ?_;refine ai ef I (fun w' aB=>rF (r:=r.wp q) v (dh r ik) (RR.wp (cG aB cX I) (cI aB dD I) (cF aB (by exact Take.there .here) I) (ct aB eu I))) ?_;have ml:gL (r.wp q).po v (dh r ik)=gL q v (dh r ik):=rfl;rw [ml];have R8:(gl q).length=q.length*3:=ic q;cases Dr:gL q v (dh r ik) with
  | false =>
   rw [Dr,if_neg (by decide)] at oK;have hpa:gl (q++[⟨v,dh r ik,la⟩])=gl q++[.q v,.string (dh r ik),.string la]:=Gl _ _;have w9:(q++[(⟨v,dh r ik,la⟩:Po)]).length=q.length+1:=by simp
   (refine JH I<|Jn<|cW (.of I)<|Jg<|Jv I<|Jv I<|ab (ez (.of I)) I<|bJ I I ae<|JL I bL I<|Jv I<|Jv I<|Jv I<|ab (aU (.o I (.o I (.o I .nil))) ak) I<|bj (bn (.o I .nil) I I bH bH ak) I fun _ _=>?_)
   refine bu (.of I) (.of I) kr .here ak (by rfl) (fx I I I) (by rfl) (by rfl) (by rfl) ed (by rfl) ?_;intro v';refine aM (by exact .here) fun a' iz e=>?_;subst e
   (refine ab (ez (.of I)) I<|bJ I I ae<|ao (.of I) (.of I) dD I I (dR I) (bz I) ak<|Jn<|Jg<|Jv I<|Ja I<|Jx<|Jj<|Jt<|Jg<|JB I (by omega)<|Jv I<|Jn ?_)
   apply aH (k+1,.slice a' (q.length+1) iz) (by show k+1<=_;omega) (by show xp.length-(k+1)<xp.length-k;omega)
   case hs1=>
    dsimp only;rw [oK];exact .cons I (.cons I (.cons I (.cons I (.cons I (.cons I (.cons I .nil))))))
   case ht=>
    dsimp only;rw [oK];dsimp only;rw [w9,hpa];exact .h1 (.cons dD (.cons dD (.cons cX (.h1 (.cons (.there .here) .nil)))))
  | true =>
   rw [Dr,if_pos I] at oK
   (refine JH I<|Jn<|ch (.of I)<|Jk<|Jg<|Jv I<|Ja I<|Jx<|Jj<|Jt<|Jg<|JB I (by omega)<|Jv I<|Jn ?_)
   apply aH (k+1,.slice va q.length vc) (by show k+1<=_;omega) (by show xp.length-(k+1)<xp.length-k;omega)
   case hs1=>
    dsimp only;rw [oK];exact .cons I (.cons I (.cons I (.cons I (.cons I (.cons I (.cons I .nil))))))
   case ht=>
    dsimp only;rw [oK];exact .cons bL (.cons bL (.cons bL (.cons (.there .here) (.cons (.there .here) (.h1 .nil)))))
 ·have e:k=xp.length:=by omega
  subst e;rw [ZK] at *;refine aM (E:=188) (sz:=3) (v:=pv) dD fun va vc e=>?_;subst e
  (refine Jr<|JA I<|Jn<|Jq<|Jc I fun az=>Jp<|Jl<|Jo<|Jt<|Jr<|Jv I<|Jv I<|ab (ez (.of I)) I<|bJ I I ae<|JL I .here I<|Jv I<|Jv I<|Jv I<|ab (aU (.o I (.o I (.o I .nil))) ak) I<|bj (bn (.o I .nil) I I bH bH ak) I fun _ _=>?_)
  refine bu (.of I) (.of I) eu .here ak (by rfl) (fx I I I) (by rfl) (by rfl) (by rfl) ed (by rfl) ?_;intro v';refine aM (by exact .here) fun a' iz e=>?_;subst e
  (refine ab (ez (.of I)) I<|bJ I I ae<|ao (.of I) (.of I) bL I I (dR I) (bz I) ak<|Ji<|Jv I<|ab (ez (.of I)) I<|ab (cm .here) I ?_)
  have hAo:=He (r:=r) (v:=v) xp po so hi yw;have qH:∀ S:List Po,S.Perm ((rG r v po so xp).1++[⟨v,de,(rG r v po so xp).2⟩])->S.Pairwise (fun a b=>¬ TQ r b a<0)->S=kN r po v so xp de:=fun S h1 h2=>KM hV h1 (h2.imp fun h=>fun c=>h (TP.2 c))
  have ajp:=BL (r:=r) (v:=v) xp po so;generalize rG r v po so xp=A at *;obtain ⟨q,la⟩:=A;dsimp only at *;have hpa:gl (q++[⟨v,de,la⟩])=gl q++[.int .i64 v,.string de,.string la]:=Gl _ _;have w9:(q++[(⟨v,de,la⟩:Po)]).length=q.length+1:=by simp
  rw [<- hpa,<- w9];have jn:∀ y∈q++[(⟨v,de,la⟩:Po)],jr (eL r) y.ou=true:=fun y hy=>by
   rw [fI];rcases Zz.1 hy with hy | hy
   ·exact NJ ((hAo y hy).elim (fun e=>.inr (.inl e)) fun e=>.inr (.inr e))
   ·rw [ZL.1 hy];exact NJ (.inr (.inl mZ))
  have hlen:(q++[(⟨v,de,la⟩:Po)]).length<=100000:=by omega
  generalize q++[(⟨v,de,la⟩:Po)]=L at *;refine JN bM I (fun w1 aT=>Gk (r:=r.wp L) (RR.wp (cG aT cX I) (cI aT dD I) (cF aT eu I) (ct aT (by exact Take.there .here) I)) (by have:=cZ;unfold nk at this;show r.de.length+r.ti.length<=_;omega)) ?_;intro bm _;dsimp only [id_eq,Zb,Za];rw [show pe (r.wp L)=pe r from I]
  (refine Jz I I fun _ _=>ao (.of I) (.of I) .here I I (dR I) (bz I) ak<|Jn<|Jg<|Jv I<|ab (ez (.of I)) I<|bJ I I ae<|JL I bL I<|ab (bD .nil (.o I .nil)) I ?_)
  rename_i b61 aji Oo ajn;refine Hu (b:=bm) (l:=pe r) (kv:=fun s:ByteArray=>Value.string s) (by exact Take.there .here) fun es ck dU=>?_
  with_reducible apply gA (As:=[row 188 3 (.slice a' L.length iz) L.length (gl L)])
  case hr=>exact bb
  case hd=>rfl
  case ht=>exact .cons cX .nil
  case hc=>
   intro w1 Bv aT uV hs1 Dt lp;have h14:Oo ∉ Bv:=lp Oo _ _ (by exact Take.there .here);have hbm:bm ∉ Bv:=lp bm _ _ (by exact .here);have f14:w1.cell? ⟨Oo,0,none⟩=some (.map (some bm)):=At.lit (by exact Take.there .here) I w1 aT;exact KJ (r:=r) (l:=L) hs1 hd jn (by omega) f14 ⟨es,ck,aT.bE (by exact .here),dU⟩ h14 hbm
  rintro S ⟨hSp,Wa⟩;rw [qH S hSp Wa];have hlS:S.length=L.length:=hSp.length_eq;dsimp only [id_eq,Zb,Za];unfold PB;have hzl:(kN r po v so xp de).length=L.length:=by rw [<- qH S hSp Wa];exact hlS
  refine vO ?_
  with_reducible first|apply aO|apply aQ
  case he=>exact qV I
  case hR=>
   intro w' aB;exact aD (.slice a' L.length iz) trivial (by exact .cons cX (.cons dD (.cons dD (.cons dD (.h1 (.cons cX .nil)))))) aB I
end Go.Proofs.A1
namespace Go.SL
open Go
theorem im {P:Program} {c:Cx} {sl:aL} {hs hs':List bd} {fn:Func} {s t u:Tmp} {T:TypeId} {b o n:Nat} {cs vs:List Value} {E:TypeId} {fz:Nat×Nat} {x y:Value} (h:fn.results=#[.cell t T,.tmp s,.tmp u]) (hT:Ty P T true n) (hp:db sl t=some (.pointer (some ⟨b,o,none⟩))) (ht:Take hs (SL.bE b (.cells cs.toArray E fz)) hs') (hv:eK cs o n=vs) (hl:vs.length=n) (hx:db sl s=some x) (hy:db sl u=some y):Ends P fn c sl hs (.tuple #[.agg vs.toArray,x,y]):=
 SJ (xs:=[.cell t T,.tmp s,.tmp u]) (vs:=[.agg vs.toArray,x,y]) h (I9.cons (RV.cell hp (LP (eZ.bE ht hv) hl)) (I9.cons (RV.tmp hx) (I9.cons (RV.tmp hy) I9.nil))) (by simp)
end Go.SL
namespace Go.Proofs.A1
open Go Go.SL
open Tryz
open Tryz renaming prog->T_
def tN (r:Ro) (t:Tk):Bool:=(r.de.getD (bC (cE r) t.de).toNat ⟨⟨#[]⟩,0,false⟩).pr
variable {w:World} {x:fy}
theorem PW {r:Ro} {s d t p:Value} {b:Nat} (h:RR w r s d t p) (hA:BR w b (RC r s d t p)) (hx:x.tk.de∈cE r):aj T_ 253 [.agg x.cells.toArray,.p b] w (.bool (tN r x.tk)):=by
 have h1:=Rd.one h.sr;have h3:=Rd.one h.ti;have h4:=Rd.one h.po;have mZ:=h.de;obtain ⟨a3,ud,b3,o3,rfl,mP,gF,rN,oR⟩:=mZ;rw [cd] at *;unfold maxLen at gF;obtain ⟨j0,uF⟩:∃ i:Nat,bC (cE r) x.tk.de=(i:Nat):=⟨(bC (cE r) x.tk.de).toNat,by have:=dP hx;omega⟩;have Dk:j0<r.de.length:=by
  obtain ⟨hl,_⟩:=fD (l:=cE r) (s:=x.tk.de) (by omega);rw [uF,ZH] at hl;unfold cE at hl;rwa [Zd] at hl
 have e0:tN r x.tk=(r.de[j0]).pr:=by unfold tN;rw [uF,ZH,Zk,Zc Dk];rfl
 have cq:=rN (iq Dk);have aC:=(oR j0 _ (fR Dk)).2;unfold De.cells at aC;have c2:=aC 2 _ I;have V6:∀ w',aJ [] w w'->aj T_ 155 [.agg #[.q r.lv,.q r.ma,s,.slice a3 r.de.length ud,t,p],.string x.tk.de] w' (.q (j0:Nat)):=fun w' hk=>uF ▸ gK x.tk.de (h.keeps hk)
 have f3:w.cell? ⟨b,3,none⟩=some (.slice a3 r.de.length ud):=hA 3 _ I;have kW:∀ (j:Nat) (u:Value),[Value.int .i64 r.lv,.q r.ma,s,.slice a3 r.de.length ud,t,p][j]? = some u->w.cell? ⟨b,0+j,none⟩=some u:=hA;clear hA;rw [e0];unfold fy.cells;refine ah func253 I I ?_;refine Jr<|Jy I I fun _ _=>Ja I<|Jn<|Jq ?_
 with_reducible refine cN 10 (by kernel_rfl) ?_
 (refine lS I I ae<|aA (ag (.of I) (At.base f3 I)) I<|aA (iO (eZ.base kW I)) I<|lS I I ae<|aA (gX .here) I<|dp bb I (fun w' aB=>(V6 w' (Mem.keeps aB)))<|aA (an (.of I) (.of I) cq (by omega) (by omega) aW) I<|lS I I ae<|aA (ag (.of I) (At.base c2 I)) I<|aA (cM (.of I)) I ?_)
 with_reducible refine cT ?_
 refine Jn<|Je<|JT ?_
 rfl
theorem Qz {r:Ro} {s d t p:Value} {b:Nat} (h:RR w r s d t p) (hA:BR w b (RC r s d t p)) (tO:r.lv<=1000) (cZ:r.ti.length<=1000000):a8 T_ 255 [.agg x.cells.toArray,.p b] w [] (fun _:Value=>True) id (fun v=>[row 9 1 v r.lv.toNat (aR (cU r x.tk.de))]):=by
 obtain ⟨h1,h2,h3,h4⟩:=h.one;have kW:∀ (j:Nat) (u:Value),[Value.int .i64 r.lv,.int .i64 r.ma,s,d,t,p][j]? = some u->w.cell? ⟨b,0+j,none⟩=some u:=hA;clear hA;unfold fy.cells;refine aS func255 I I ?_
 (refine Jr<|Jy I I fun _ _=>Ja I<|Ji<|ab (iO (eZ.base kW I)) I<|bJ I I ae<|JL I .here I ?_)
 refine JN bb I (fun w1 aT=>xe x.tk.de (h.keeps aT.keeps) tO cZ) ?_;intro v _;dsimp only [id_eq,Zb,Za];refine aM (v:=v) (by exact .here) fun va vc e=>?_;subst e;refine Ja I<|Jn<|Je ?_
 with_reducible first|apply aO|apply aQ
 case he=>exact dB I I
 case hR=>
  intro w' aB;exact aD (.slice va r.lv.toNat vc) trivial (by exact .h1 .nil) aB I
theorem T7 {kv:Value} {l:List fy} {g:fy->List ByteArray} {n:Nat} {f:FuncId} {first cap:List Value} [bW T_ f] {w:World} (h:Rd w kv 2 (iD l)) (hM:te w l) (hn:l.length<=1000) (hg:∀ x∈l,(g x).length=n)
  (cV:∀ x∈l,∀ w',aJ [] w w'->a8 T_ f (first++[.agg x.cells.toArray]++cap) w' [] (fun _:Value=>True) id (fun v=>[row 9 1 v n (aR (g x))])) :
  a8 T_ 254 [kv,.func (.func f) first.toArray cap.toArray] w [] (fun x:Value×List Value=>x.2.length=l.length) (fun x=>x.1) (fun x=>[row 32 1 x.1 l.length x.2,iG 9 x.2 (l.map fun y=>aR (g y))]):=by
 obtain ⟨a,cp,b,o,rfl,dd,bO,ha,hc⟩:=h;rw [dI] at *;unfold maxLen at bO;refine aS func254 I I ?_;refine Jr<|Ja I<|Ji<|Ja I<|Jn<|Jq<|Jr<|Jv I<|JI I<|Jv I<|Jn<|J0 ?_;refine aN 32 1 ?_;refine jL 9 ?_
 refine aV (ι:=Nat×Value×List Value) (fun x=>x.1<=l.length/\x.2.2.length=x.1) (fun x=>[(10,.q (x.1:Nat)),(9,.q (l.length:Nat)),(8,.slice a l.length cp),(5,x.2.1),(1,.func (.func f) first.toArray cap.toArray)])
  (fun x=>[row 32 1 x.2.1 x.1 x.2.2,iG 9 x.2.2 ((l.take x.1).map fun y=>aR (g y))]) (fun x=>l.length-x.1) ?_ ?_
 ·apply aI (0,.z,[]) ⟨Zi _,I⟩
  case hs1=>exact bS
  case ht=>
   exact .cons (.there .here) (.h1 .nil)
 rintro ⟨k,v,vs⟩ ⟨hk,pC⟩;dsimp only at hk pC ⊢;by_cases aK:k<l.length
 ·have cq:=ha (jM aK);have aC:=(hc k _ (j7 aK)).2;have jq:=cV _ (Zj aK);have Oc:=hg _ (Zj aK);have fo:=Rd.one (hM _ (Zj aK));have htk:(l.take (k+1)).map (fun y=>aR (g y))=((l.take k).map fun y=>aR (g y))++[aR (g l[k])]:=by
   rw [Zl aK,Zv];rfl
  have nM:((l.take k).map fun y=>aR (g y)).length=k:=by rw [Zd,Zs];omega
  unfold fy.cells at aC jq;refine aM (E:=32) (sz:=1) (v:=v) (by exact .here) fun va vc e=>?_;subst e
  (refine Jr<|JA I<|Jn<|Jq<|Jd I fun az=>Jk<|Jq<|J0<|Jr<|ab (fT cq az) I<|ab (iO (eZ.base aC I)) I<|Jz I I fun _ _=>ao (.of I) (.of I) .here I I (gO I fo) (bz I) ak<|Jn<|Jg<|Jv I<|Jv I<|ab (cm .here) I ?_)
  refine JN bM I (fun w1 aT=>jq w1 aT.keeps) ?_;intro hv _;dsimp only [id_eq,Zb,Za];refine aM (E:=9) (sz:=1) (v:=hv) (by exact .here) fun jV ke e=>?_;subst e;refine bj (aG (.o I .nil) I I I I) I (fun _ _=>?_);refine bu (.of I) (.of I) cX .here ak (by rfl) (dR I) (by rfl) (by rfl) (by rfl) ed (by rfl) ?_;intro v';refine Ja I<|Jx<|Jj<|Jt<|Jg<|JB I (by omega)<|Jv I<|Jn ?_;refine ku (E:=9) (vs:=vs) (v:=.slice jV n ke) (x:=aR (g l[k])) dD bL (by rw [dj,Oc]) (by rw [nM,pC]) ?_;apply aH (k+1,v',vs++[.slice jV n ke]) ⟨by show k+1<=_;omega,by rw [Zg,pC];rfl⟩ (by show l.length-(k+1)<l.length-k;omega)
  case hs1=>exact bS
  case ht=>
   dsimp only;rw [htk];exact .cons (.there .here) (.h1 .nil)
 ·have e:k=l.length:=by omega
  subst e;rw [ZK] at *;refine aM (E:=32) (sz:=1) (v:=v) (by exact .here) fun va vc e=>?_;subst e;refine Jr<|JA I<|Jn<|Jq<|Jc I fun az=>Jp<|Jl<|Jo<|Jt<|Jr<|Jv I<|Ja I<|Jn<|Je ?_
  with_reducible first|apply aO|apply aQ
  case he=>exact dB I I
  case hR=>
   intro w' aB;exact aD (.slice va l.length vc,vs) pC (by exact .h2 .nil) aB I
theorem ri {r:Ro} (h:rQ r) {s:ByteArray} (hs:s∈cE r\/s∈cQ r):0<=eE r s/\eE r s<14:=by
 have hl:=h.len;have l1:(cE r).length=r.de.length:=by unfold cE;rw [Zd]
 have l2:(cQ r).length=r.ti.length:=by unfold cQ;rw [Zd]
 rw [PG hs];by_cases c:s∈cE r
 ·have:=dP c;have:=Bx this;rw [if_pos (by omega)];omega
 ·have h2:=cH.2 c;have h3:=dP (hs.resolve_left c);have:=Bx h3;rw [if_neg (by omega)];omega
theorem lx {r:Ro} (h:rQ r) {q:List Po} (hq:jh r q):q.length<=42:=by
 have hl:=h.lim;have key:∀ p∈q,0<=p.lv*14+eE r p.ou/\p.lv*14+eE r p.ou<42:=fun p hp=>by
  have:=ri h (hq.out p hp);have:=hq.LS p hp;omega
 have:=lO 42 (q.map fun p=>(p.lv*14+eE r p.ou).toNat) (by
  unfold List.Nodup;rw [Zbx];refine (List.Pairwise.and_mem.1 hq.rU).imp fun {a b} ⟨ha,hb,Of⟩ e=>?_;have:=key a ha;have:=key b hb;have:=ri h (hq.out a ha);have:=ri h (hq.out b hb);unfold ng at Of;simp only [ZT,Zm,decide_eq_true_eq] at Of;omega) (fun x hx=>by
  obtain ⟨p,hp,rfl⟩:=Zx.1 hx;have:=key p hp;omega)
 rwa [Zd] at this
theorem CB {r:Ro} (h:rQ r) {po:List Po} {v:Int} {s d:ByteArray} (hv:0<=v/\v<r.lv) (oQ:jh r po) (hs:s∈cK r) (mZ:d∈cE r) (fC:eD po v d=none) {p:List Nat} (hp:(dG r po v s).least (k7 r d) p):jh r (kN r po v s p d):=
 (KN h.wJ h.nd hv oQ hs mZ fC hp.1 (hp.2.1.trans (M8 mZ).symm)).1
end Go.Proofs.A1
namespace Go.SL
open Go
def sf (E:TypeId) (vs:List Value) (xs:List (List Value)) (j:Nat):bd:=Gb (fW E (vs.take j) (xs.take j))
def se (E:TypeId) (vs:List Value) (xs:List (List Value)) (j:Nat):bd:=Gb (fW E (vs.drop (j+1)) (xs.drop (j+1)))
theorem pf {E:TypeId} {v:Value} {x:List Value}:∀ {vs:List Value} {xs:List (List Value)} {j:Nat},vs[j]? = some v->xs[j]? = some x->fW E vs xs=fW E (vs.take j) (xs.take j)++row E 1 v x.length x::fW E (vs.drop (j+1)) (xs.drop (j+1))
 | [],_,j,h,_=>by simp at h
 | _::_,[],j,_,h=>by simp at h
 | v' :: vs, x' :: xs, 0, h1, h2 => by
  simp only [ZaC,Option.some.injEq] at h1 h2;subst h1 h2
  rfl
 | v' :: vs, x' :: xs, j + 1, h1, h2 => by
  simp only [ZaZ] at h1 h2;show row E 1 v' x'.length x'::fW E vs xs=row E 1 v' x'.length x'::(fW E (vs.take j) (xs.take j)++_);rw [pf h1 h2];rfl
theorem tx:∀ (l:List bd) (A:bd) (m:List bd),Take (l++A::m) A (l++m)
 | [],_,_=>.here
 | _::l,A,m=>.there (tx l A m)
theorem qi:∀ (P l m:List bd),bB (P++(l++m)) l (P++m)
 | _,[],_=>.nil
 | P,A::l,m=>.cons (tx P A (l++m)) (qi P l m)
section
variable {P:Program} {c:Cx} {D:List Nat} {sl:aL} {hs hs':List bd} {X:Act->World->Prop}
variable {v:Value} {vs x:List Value} {xs:List (List Value)}
theorem vN {E:TypeId} {n j:Nat} (ht:Take hs (iG E vs xs) hs') (hv:vs[j]? = some v) (hx:xs[j]? = some x) (hn:x.length=n)
  (k:Tr c D sl (row E 1 v n x::sf E vs xs j::se E vs xs j::hs') X):Tr c D sl hs X:=by
 subst hn;refine yY (As:=fW E vs xs) ht ?_;rw [pf hv hx,Zh];refine qb (As:=fW E (vs.take j) (xs.take j)) (qi [] _ _) ?_;refine qb (As:=fW E (vs.drop (j+1)) (xs.drop (j+1))) (hs':=Gb (fW E (vs.take j) (xs.take j))::row E 1 v x.length x::hs') (qi [_,_] _ _) ?_;intro a w ba;have hT:bB (Gb (fW E (vs.drop (j+1)) (xs.drop (j+1)))::Gb (fW E (vs.take j) (xs.take j))::row E 1 v x.length x::hs') [row E 1 v x.length x,sf E vs xs j,se E vs xs j] hs':=.cons (.there (.there .here)) (.cons (.there .here) (.h1 .nil));have hm:=ba.mem.jj (hT.append (nB D));exact k a w (ba.heap hm)
theorem y5 {E:TypeId} {n:Nat} (j:Nat) {h1 h2:List bd} (ht:Take hs (sf E vs xs j) h1) (ht2:Take h1 (se E vs xs j) h2) (ht3:Take h2 (row E 1 v n x) hs') (hv:vs[j]? = some v) (hx:xs[j]? = some x) (hn:x.length=n)
  (k:Tr c D sl (iG E vs xs::hs') X):Tr c D sl hs X:=fun a w ba=>by
 subst hn;have hT:bB hs [sf E vs xs j,se E vs xs j,row E 1 v x.length x] hs':=.cons ht (.cons ht2 (.cons ht3 .nil));have hT2:bB ([sf E vs xs j,se E vs xs j,row E 1 v x.length x]++(hs'++nB D)) [sf E vs xs j,row E 1 v x.length x,se E vs xs j] (hs'++nB D):=.h1 (.cons (.there .here) (.h1 .nil));have hm:=(ba.mem.jj (hT.append (nB D))).jj hT2;obtain ⟨kk,fp,uD,⟨f1,f2',rfl,g1,⟨f2,f3',rfl,g2,⟨f3,f4,rfl,g3,g4⟩⟩⟩,hb⟩:=hm;refine k a w (ba.heap ⟨kk,(f1++(f2++f3))++f4,by simpa only [Zh] using uD,⟨f1++(f2++f3),f4,I,?_,g4⟩,by simpa only [Zh] using hb⟩);show cr (hp w) (fW E vs xs) _;rw [pf hv hx];exact cr.append_iff.2 ⟨f1,f2++f3,I,g1,⟨f2,f3,I,g2,g3⟩⟩
end
attribute [irreducible] sf se
end Go.SL
namespace Go.Proofs.A1
open Go Go.SL
open Tryz
open Tryz renaming prog->T_
theorem Mb {α β:Type} (f:α->β) (p:β->Bool) (l:List α):iN p (l.map f)=iN (fun x=>p (f x)) l:=by
 unfold iN;rw [Zd];congr 1;congr 1;funext i;rw [ZE,Option.map_map];rfl
theorem C2 (r:Ro) (l:List fy):mL r (bQ l)=iN (fun x:fy=>tN r x.tk) l:=by
 unfold mL bQ;rw [Mb];rfl
def vh (r:Ro) (x:Value×Value×Value×Value):List bd:=[J1 r x.1,J2 r x.2.1,J3 r x.2.2.1,PB x.2.2.2 r.po]
theorem Hw {c:Cx} {D:List Nat} {sl:aL} {hs hs':List bd} {X:Act->World->Prop} {lu:List Wy} {xv:Value} {xp:List Nat} {xf:Nat} (hx:(⟨xv,xp,xf⟩:Wy)∈lu\/(⟨xv,xp,xf⟩:Wy)=⟨.z,[],0⟩) (ht:Take hs (jg lu) hs')
  (k:∀ oM,Tr c D sl (row 3 1 xv xp.length (gT xp)::jg oM::hs') X):Tr c D sl hs X:=by
 rcases hx with hx | hx
 ·refine vQ hx ht fun oM _=>?_;intro a w ba;have hT:bB (jg oM::row 3 1 xv xp.length (gT xp)::hs') [row 3 1 xv xp.length (gT xp),jg oM] hs':=.cons (.there .here) (.h1 .nil);have HZ:St c D sl (jg oM::row 3 1 xv xp.length (gT xp)::hs') a w:=ba;have hm:=HZ.mem.jj (hT.append (nB D));exact k oM a w (ba.heap hm)
 ·cases hx;refine aN 3 1 ?_;intro a w ba;have hT:bB (row 3 1 (.z) 0 []::hs) [row 3 1 (.z) 0 [],jg lu] hs':=.h1 (.cons ht .nil);have hm:=ba.mem.jj (hT.append (nB D));exact k lu a w (ba.heap hm)
variable {k:Nat} {l:List fy} {n:Nat} {t:Tk} {w:World} {x:fy}
set_option maxHeartbeats 4000000 in
theorem F8 {r:Ro} {s d t p kv:Value} (h:RR w r s d t p) (dU:rQ r) (hpf:r.po.length<=500) (hw:Rd w kv 2 (iD l)) (hM:te w l) (hT:IB r (bQ l)) :
  a8 T_ 165 [RA r s d t p,kv] w [] (fun _:Value×Value×Value×Value=>True) (fun x=>.tuple #[RA (gI r (bQ l)).1 x.1 x.2.1 x.2.2.1 x.2.2.2,.q (gI r (bQ l)).2.1,.q (gI r (bQ l)).2.2]) (fun x=>vh (gI r (bQ l)).1 x):=by
 have tO:=dU.lim;have uE:=dU.len;have cZ:nk r:=by unfold nk;omega
 have UM:=hT.B4;unfold bQ at UM;rw [Zd] at UM;obtain ⟨h1,h2,h3,h4⟩:=h.one;have BY:=hw;obtain ⟨a,cp,b,o,rfl,dd,bO,ha,hc⟩:=hw;rw [dI] at *;unfold maxLen at bO;have XN:=C2 r l;unfold RA;refine aS func165 I I ?_;refine Jr<|Jy I I fun _ _=>Jz I I fun _ _=>Ja I<|Ja I<|Ji<|Jv I<|ab (bD .nil (.o I .nil)) I ?_;rename_i b2 rM b4 tS
 with_reducible apply ai
 case hr=>exact bb
 case hd=>rfl
 case hc=>
  intro w' aB;have hA:BR w' b2 [.q r.lv,.q r.ma,s,d,t,p]:=BR.of aB (by exact Take.there .here);have hR:=h.keeps aB.keeps;exact GH (f:=253) (p:=fun x:fy=>tN r x.tk) (first:=[]) (cap:=[.p b2]) (BY.keeps aB.keeps) (fun x hx w2 fq=>PW (hR.keeps fq) (hA.keeps fq) (hT.de _ (ZY hx)))
 rw [<- XN]
 (refine Ja I<|Jn<|Jq<|Jr<|Jv I<|JG I<|Jn<|gm I (fun az=>?_) fun az=>?_;refine Jr<|ab (aU .nil ak) I<|Jv I<|ao (.of I) (.of I) .here I I (eF I I I I I I) (bz I) ak<|Ja I<|Ja I<|Jn<|Ju ?_;rotate_left;refine Jk<|Jr<|ab (cm (.there .here)) I ?_;rotate_right)
 ·have e0:gI r (bQ l)=(Ro.nil,mL r (bQ l),31):=by unfold gI;rw [if_pos (by omega)]
  rw [e0];dsimp only;refine aN 186 2 ?_;refine aN 90 3 ?_;refine aN 187 3 ?_;refine aN 188 3 ?_
  with_reducible first|apply aO|apply aQ
  case he=>exact im I inferInstance I dD ak (by rfl) (by rfl) (by rfl)
  case hR=>
   intro w' aB;exact aD (.z,.z,.z,.z) trivial (by exact .cons cX (.cons bL (.cons (.there .here) (.h1 .nil)))) aB I
 have Yr:¬ 0<=mL r (bQ l):=by omega
 refine JN bM I (fun w1 aT=>AY (h.keeps aT.keeps) cZ (by omega)) ?_;intro y _;dsimp only [id_eq,Zb,Za];obtain ⟨s1,d1,t1,p1⟩:=y;dsimp only;unfold RA PB;refine aM (E:=186) (sz:=2) (v:=s1) (by exact .here) fun _ _ e=>?_;have k1:s1.oneCell'=true:=by rw [e];rfl
 clear e;refine aM (E:=90) (sz:=3) (v:=d1) (by exact Take.there .here) fun _ _ e=>?_;have k2:d1.oneCell'=true:=by rw [e];rfl
 clear e;refine aM (E:=187) (sz:=3) (v:=t1) bL fun _ _ e=>?_;have k3:t1.oneCell'=true:=by rw [e];rfl
 clear e;refine aM (E:=188) (sz:=3) (v:=p1) cX fun _ _ e=>?_;have k4:p1.oneCell'=true:=by rw [e];rfl
 clear e
 (refine Jz I I fun _ _=>ao (.of I) (.of I) .here I I (eF I I k1 k2 k3 k4) (bz I) ak<|Ji<|Jv I<|ab (bD .nil (.o I .nil)) I ?_)
 rename_i b8 hb8
 with_reducible apply jH
 case hr=>exact bb
 case hd=>rfl
 case ht=>exact bB.nil
 case hc=>
  intro w1 fp aT _ hs1;obtain rfl:fp=[]:=hs1;have hA:BR w1 b2 [.int .i64 r.lv,.int .i64 r.ma,s,d,t,p]:=BR.of aT kr;have hR:=h.keeps aT.keeps;exact T7 (f:=255) (first:=[]) (cap:=[.pointer (some ⟨b2,0,none⟩)]) (g:=fun x:fy=>cU r x.tk.de) (n:=r.lv.toNat) (BY.keeps aT.keeps) (hM.keeps aT.keeps) (by omega) (fun x _=>by unfold cU;simp) (fun x hx w2 fq=>Qz (hR.keeps fq) (hA.keeps fq) (by omega) (by omega))
 rintro ⟨hv,pC⟩ IV;dsimp only at IV;dsimp only [id_eq,Zb,Za];refine aM (E:=32) (sz:=1) (v:=hv) (by exact .here) fun mm kL e=>?_;subst e;refine Ja I<|Jn<|Jq<|Jr<|Jv I<|JI I<|Jv I<|Jn<|J0 ?_;have V5:∀ i,(iL r (bQ l) i).length<=r.po.length:=fun i=>by rw [je];exact ZV _ _
 have uA:(bQ l).length=l.length:=by unfold bQ;rw [Zd]
 refine aV (ι:=Nat×Value×List Po) (fun y=>y.1<=l.length/\y.2.2=iL r (bQ l) y.1) (fun y=>[(34,.q (y.1:Nat)),(33,.q (l.length:Nat)),(32,.slice a l.length cp),(9,.slice mm l.length kL),(8,.p b8),(4,.p b4),(1,.slice a l.length cp)])
  (fun y=>[JP b8 r s1 d1 t1 (y.2.1),J1 r s1,J2 r d1,J3 r t1,row 188 3 y.2.1 y.2.2.length (gl y.2.2),row 32 1 (.slice mm l.length kL) l.length pC,iG 9 pC (l.map fun y=>aR (cU r y.tk.de)),bE b4 (.cells #[.q 0,.q 0,.z,.z,.z,.z] 41 (0,0))]) (fun y=>l.length-y.1) ?_ ?_
 ·apply aI (0,p1,r.po) ⟨Zi _,I⟩
  case hs1=>exact bS
  case ht=>exact .cons bL (.cons bL (.cons bL (.cons bL (.cons bL (.h3 .nil)))))
 rintro ⟨i,pv,L⟩ ⟨hi,hL⟩;dsimp only at hi hL ⊢;by_cases aK:i<l.length
 ·have UL:=jM aK;have cq:=ha UL;have aC:=(hc i _ (j7 aK)).2;have gN:=Zj aK;have sN:=hM _ gN;have IY:(bQ l).getD i Tk.zero=l[i].tk:=by unfold bQ;rw [Zk,ZE,Zc aK];rfl
  have gq:iL r (bQ l) (i+1)=kY r l[i].tk l[i].tk.so.length (iL r (bQ l) i):=by rw [iL,IY]
  have V3:=hT.lv l[i].tk (ZY gN);have hdi:L.length<=r.po.length:=by rw [hL];exact V5 i
  rw [<- hL] at gq;have Ya:∀ k,(kY r l[i].tk k L).length<=r.po.length:=fun k=>ZQ (by rw [lI];exact ZV _ _) hdi
  have Uk:∃ u,pC[i]? = some u:=⟨pC[i],Zc (by omega)⟩;have Xh:(l.map fun y=>aR (cU r y.tk.de))[i]? = some (aR (cU r l[i].tk.de)):=by rw [ZE,Zc aK];rfl
  unfold fy.cells at aC;generalize hti:l[i]=ti at *;obtain ⟨tk,tv⟩:=ti;dsimp only at *;obtain ⟨sa,IL,sb,O4,rfl,GJ,sE,Qm,Ql⟩:=sN;rw [bG] at *;unfold maxLen at sE
  (refine Jr<|JA I<|Jn<|Jq<|Jd I fun az=>Jk<|Jq<|J0<|Jr<|Jv I<|ab (fT cq az) I<|ab (iO (eZ.base aC I)) I<|Jz I I fun _ _=>Ja I<|ao (.of I) (.of I) .here I I (gO I I) (bz I) ak<|Ji<|bJ I I ae<|JL I .here I<|JI I<|Jv I<|Jn<|J0 ?_)
  rename_i SR ac6;obtain ⟨u,hu⟩:=Uk;have U6:(cU r tk.de).length=r.lv.toNat:=by unfold cU;simp
  refine vN (E:=9) (j:=i) (n:=r.lv.toNat) tt hu Xh (by rw [dj,U6]) ?_;refine dy (E:=9) (sz:=1) (v:=u) (by exact .here) (by omega) fun gu uc Km e hu1 Up hu3 hu4=>?_;subst e;refine dy (E:=32) (sz:=1) (v:=.slice mm l.length kL) ju (by omega) fun gh hc od e hh1 hh2 hh3 hh4=>?_;cases e;have f1:(pC++od)[i*1]? = some (.w gu r.lv.toNat uc):=by
   rw [Zar,ZB (by omega)];exact hu
  have f2:∀ k,k<r.lv.toNat->(aR (cU r tk.de)++Km)[k*1]? = some (.string (j4 r (k:Nat) tk.de)):=fun k hk=>by
   rw [Zar,ZB (by rw [dj,U6];exact hk)];unfold aR cU;rw [ZE,ZE,List.getElem?_range hk];rfl
  refine aV (ι:=Nat×Value×List Po) (fun y=>y.1<=tk.so.length/\y.2.2=kY r tk y.1 L) (fun y=>[(42,.q (y.1:Nat)),(41,.q (tk.so.length:Nat)),(40,.slice sa tk.so.length IL),(34,.q (i:Nat)),(33,.q (l.length:Nat)),(32,.slice a l.length cp),(10,.q (i:Nat)),(11,.p SR),(9,.w gh l.length kL),(8,.p b8),(4,.p b4),(1,.slice a l.length cp)])
   (fun y=>[JP b8 r s1 d1 t1 (y.2.1),J1 r s1,J2 r d1,J3 r t1,row 188 3 y.2.1 y.2.2.length (gl y.2.2),bE gh (.cells (pC++od).toArray 32 (0,0)),bE gu (.cells (aR (cU r tk.de)++Km).toArray 9 (0,0)),sf 9 pC (l.map fun y=>aR (cU r y.tk.de)) i,se 9 pC (l.map fun y=>aR (cU r y.tk.de)) i,bE b4 (.cells #[.q 0,.q 0,.z,.z,.z,.z] 41 (0,0)),bE SR (.cells #[.string tk.de,.slice sa tk.so.length IL] 78 (0,0))]) (fun y=>tk.so.length-y.1) ?_ ?_
  ·apply aI (0,pv,L) ⟨Zi _,I⟩
   case hs1=>exact bS
   case ht=>exact .cons eu (.cons eu (.cons eu (.cons eu (.cons eu (.h4 (.cons (.there .here) (.h1 .nil)))))))
  rintro ⟨k,Ld,L2⟩ ⟨hk,qu⟩;dsimp only at hk qu ⊢;by_cases nM:k<tk.so.length
  ·have Bg:=Qm (iE nM);have Bf:w.cell? ⟨sb,O4+k*1,none⟩=some (.string tk.so[k]):=(Ql k _ (fM nM)).2 0 _ I;have f3:=f2 k (by omega);have iy:tk.at k=tk.so[k]:=by unfold Tk.at;rw [Zk,Zc nM];rfl
   have hdk:=Ya k;rw [<- qu] at hdk;have hs2:kY r tk (k+1) L=if lH r tk k then L2.filter (fun x=>!rJ (k:Nat) tk.de x) else L2:=by rw [kY,<- qu]
   have X9:lH r tk k=(!decide (tk.so[k]=⟨#[]⟩)&&!decide (tk.so[k]=j4 r (k:Nat) tk.de)):=by unfold lH;rw [iy]
   generalize j4 r (k:Nat) tk.de=ck at *;generalize tk.so[k]=sk at *
   (refine Jr<|JA I<|Jn<|Jq<|Jd I fun az=>Jk<|Jq<|J0<|Jr<|Jv I<|ab (an (.of I) (.of I) Bg (by omega) az aW) I ?_;refine ab (ag (.of I) (At.base Bf I)) I ?_;refine Ja I<|Ja I<|Ji<|Jv I<|ab (fN (.of I) (.of I)) I ?_;refine Jv I<|iQ I I I I ?_;refine iQ I I I I ?_;refine iQ I I I I ?_;refine aF I I inferInstance (fun hg br=>(an (.bF hg I) (.bF hg I) I (by omega) (by assumption) aW)) I ?_;refine aF I I inferInstance (fun hg br=>(ag (.bF hg I) (At.mz eu f1))) I ?_;refine iQ I I I I ?_;refine aF I I inferInstance (fun hg br=>(an (.bF hg I) (.bF hg I) I (by omega) (by omega) aW)) I ?_;refine aF I I inferInstance (fun hg br=>(ag (.bF hg I) (At.mz kr f3))) I ?_;refine aF I I inferInstance (fun hg br=>(fN (.bF hg I) (.bF hg I))) I ?_;refine ab (bX (.of I) I) I ?_;refine Jn<|nj I (fun az=>?_) fun az=>?_;refine Jg<|Jv I<|bJ I I ae ?_;refine JL I lL I ?_;rotate_left;refine Jw<|Jj<|Jt<|Jg<|JB I (by omega)<|Jv I<|Jn ?_;rotate_right)
   ·obtain ⟨q1,q2⟩:sk≠⟨#[]⟩/\sk≠ck:=by simpa using az
    have yB:lH r tk k=true:=by rw [X9,decide_eq_false q1,decide_eq_false q2];rfl
    rw [yB,if_pos I] at hs2;obtain ⟨L3,Ss⟩:∃ L3,L3=kY r tk (k+1) L:=⟨_,rfl⟩;rw [<- Ss] at hs2
    with_reducible apply gA (As:=[JP b8 r s1 d1 t1 Ld,row 188 3 Ld L2.length (gl L2)])
    case hr=>exact ef
    case hd=>rfl
    case ht=>exact iP
    case hc=>
     intro w1 Bv aT uV hs1 Dt lp;exact yR (r:=r) (s:=s1) (d:=d1) (t:=t1) (p:=Ld) (b:=b8) (l:=L2) (k:Nat) tk.de uV hs1 (by omega)
    intro p3 _;dsimp only [id_eq,Zb,Za];unfold RB PB;rw [<- hs2];refine Jx<|Jj<|Jt<|Jg<|JB I (by omega)<|Jv I<|Jn ?_;apply aH (k+1,p3,L3) ⟨by show k+1<=_;omega,Ss⟩ (by show tk.so.length-(k+1)<tk.so.length-k;omega)
    case hs1=>exact bS
    case ht=>exact iP
   ·have yB:lH r tk k=false:=by
     rw [X9];simp only [ne_eq,Zp,decide_eq_true_eq,Classical.not_and_iff_not_or_not] at az;rcases az with e | e
     ·rw [decide_eq_true e];rfl
     ·rw [decide_eq_true e];simp
    rw [yB,if_neg (by decide)] at hs2;apply aH (k+1,Ld,L2) ⟨by show k+1<=_;omega,hs2.symm⟩ (by show tk.so.length-(k+1)<tk.so.length-k;omega)
    case hs1=>exact bS
    case ht=>exact iP
  ·have e:k=tk.so.length:=by omega
   subst e;refine Jr<|JA I<|Jn<|Jq<|Jc I fun az=>Jp<|Jl<|Jo<|Jj<|Jt<|Jg<|JB I (by omega)<|Jv I<|Jn ?_;refine dC (E:=9) (sz:=1) (g:=gu) kr hu1 Up hu3 hu4 ?_;refine dC (E:=32) (sz:=1) (g:=gh) kr hh1 hh2 hh3 hh4 ?_;have hxn:(aR (cU r tk.de)).length=r.lv.toNat:=by rw [dj,U6]
   with_reducible apply y5 (E:=9) (vs:=pC) (xs:=l.map fun y=>aR (cU r y.tk.de)) (v:=.w gu r.lv.toNat uc) (x:=aR (cU r tk.de)) (n:=r.lv.toNat) i
   case ht=>exact tt
   case ht2=>exact tt
   case ht3=>exact Take.there .here
   case hv=>exact hu
   case hn=>exact hxn
   case hx=>exact Xh
   case k=>
    apply aH (i+1,Ld,L2) ⟨by show i+1<=_;omega,by show L2=iL r (bQ l) (i+1);rw [gq,qu]⟩ (by show l.length-(i+1)<l.length-i;omega)
    case hs1=>exact bS
    case ht=>exact .cons bL (.cons bL (.cons bL (.cons bL (.cons bL (.cons (.there .here) (.h2 .nil))))))
 ·have e:i=l.length:=by omega
  subst e;refine Jr<|JA I<|Jn<|Jq<|Jc I fun az=>Jp<|Jl<|Jo<|Jt<|Jr ?_;have hLf:L=r.po.filter (fun p=>!M7 r (bQ l) l.length p):=by rw [hL,je]
  have D8:=V5 l.length;rw [<- hL] at D8
  with_reducible apply gA (As:=[JP b8 r s1 d1 t1 pv,J1 r s1,J2 r d1,J3 r t1,row 188 3 pv L.length (gl L)])
  case hr=>exact bM
  case hd=>rfl
  case ht=>exact iP
  case hc=>
   intro w1 Bv aT uV hs1 Dt lp;exact OW (r:=r.wp L) (s:=s1) (d:=d1) (t:=t1) (p:=pv) (b:=b8) uV hs1 cZ (by show L.length<=1000;omega)
  rintro ⟨pw,ff⟩ ⟨U2,hS2⟩;have oQ:(r.wp L).po.filter ff=nO r (bQ l):=by
   show L.filter ff=vR (cE r) (iL r (bQ l) (bQ l).length);rw [uA,<- hL];exact Oq.tid dU.wJ (by rw [hLf];exact dU.val.acy.sub _) ⟨U2,hS2⟩
  dsimp only [id_eq,Zb,Za];rw [oQ];unfold RW RB PB;dsimp only [Zb,Za]
  try unfold JP
  try unfold J1 J2 J3
  rw [show (r.wp L).lv=r.lv from I,show (r.wp L).ma=r.ma from I,show (r.wp L).sr=r.sr from I,show (r.wp L).de=r.de from I,show (r.wp L).ti=r.ti from I];refine Jn<|Jq<|Jr<|Jv I<|JI I<|Jv I<|Jn<|J0 ?_
  refine aV (ι:=Nat×Value×List Po) (fun y=>y.1<=l.length/\ib r (bQ l) (nO r (bQ l)) y.1=some y.2.2/\jh r y.2.2) (fun y=>[(69,.q (y.1:Nat)),(68,.q (l.length:Nat)),(67,.slice a l.length cp),(9,.slice mm l.length kL),(8,.p b8),(4,.p b4),(1,.slice a l.length cp)])
   (fun y=>[JP b8 r s1 d1 t1 (y.2.1),J1 r s1,J2 r d1,J3 r t1,row 188 3 y.2.1 y.2.2.length (gl y.2.2),row 32 1 (.slice mm l.length kL) l.length pC,iG 9 pC (l.map fun y=>aR (cU r y.tk.de)),bE b4 (.cells #[.q 0,.q 0,.z,.z,.z,.z] 41 (0,0))]) (fun y=>l.length-y.1) ?_ ?_
  ·have h00:ib r (bQ l) (nO r (bQ l)) 0=some (nO r (bQ l)):=by rw [ib]
   have h01:=(pP dU hT).1;generalize nO r (bQ l)=D0 at *;apply aI (0,pw,D0) ⟨Zi _,h00,h01⟩
   case hs1=>exact bS
   case ht=>exact iP
  clear U2 hS2 oQ ff pw D8 hLf hL pv L hi;rintro ⟨i,pv,L⟩ ⟨hi,hL,hLV⟩;dsimp only at hi hL hLV ⊢;by_cases aK:i<l.length
  ·have cq:=ha (jM aK);have aC:=(hc i _ (j7 aK)).2;have gN:=Zj aK;have sN:=hM _ gN;have gV:i<(bQ l).length:=by omega
   have Qx:(bQ l)[i]=l[i].tk:=ZZ _;have IY:(bQ l).getD i Tk.zero=l[i].tk:=by rw [Zk,Zc gV,Zaj,Qx]
   have Mm:=fun k hk q h1=>LK dU hT gV (k:=k) (q0:=L) (q:=q) hk hL h1
   have Mq:=fun k=>vz dU hT (Zj gV) (k:=k)
   rw [Qx] at Mm Mq;have Ux:ib r (bQ l) (nO r (bQ l)) (i+1)=mo r l[i].tk l[i].tk.so.length L:=by rw [ib,hL,IY];rfl
   have hrf:=fun h2=>Gh (r:=r) (l:=bQ l) (po:=nO r (bQ l)) gV hL h2
   have V3:=hT.lv l[i].tk (ZY gN);have Uk:∃ u,pC[i]? = some u:=⟨pC[i],Zc (by omega)⟩;have Xh:(l.map fun y=>aR (cU r y.tk.de))[i]? = some (aR (cU r l[i].tk.de)):=by rw [ZE,Zc aK];rfl
   unfold fy.cells at aC;generalize hti:l[i]=ti at *;obtain ⟨tk,tv⟩:=ti;dsimp only at *;obtain ⟨sa,IL,sb,O4,rfl,GJ,sE,Qm,Ql⟩:=sN;rw [bG] at *;unfold maxLen at sE
   (refine Jr<|JA I<|Jn<|Jq<|Jd I fun az=>Jk<|Jq<|J0<|Jr<|Jv I<|ab (fT cq az) I<|ab (iO (eZ.base aC I)) I<|Jz I I fun _ _=>Ja I<|ao (.of I) (.of I) .here I I (gO I I) (bz I) ak<|Ji<|bJ I I ae<|JL I .here I<|JI I<|Jv I<|Jn<|J0 ?_)
   rename_i On Ye;obtain ⟨u,hu⟩:=Uk;have U6:(cU r tk.de).length=r.lv.toNat:=by unfold cU;simp
   refine vN (E:=9) (j:=i) (n:=r.lv.toNat) tt hu Xh (by rw [dj,U6]) ?_;refine dy (E:=9) (sz:=1) (v:=u) (by exact .here) (by omega) fun gu uc Km e hu1 Up hu3 hu4=>?_;subst e;refine dy (E:=32) (sz:=1) (v:=.slice mm l.length kL) ju (by omega) fun gh hc od e hh1 hh2 hh3 hh4=>?_;cases e;have f1:(pC++od)[i*1]? = some (.w gu r.lv.toNat uc):=by
    rw [Zar,ZB (by omega)];exact hu
   have f2:∀ k,k<r.lv.toNat->(aR (cU r tk.de)++Km)[k*1]? = some (.string (j4 r (k:Nat) tk.de)):=fun k hk=>by
    rw [Zar,ZB (by rw [dj,U6];exact hk)];unfold aR cU;rw [ZE,ZE,List.getElem?_range hk];rfl
   refine aV (ι:=Nat×Value×List Po) (fun y=>y.1<=tk.so.length/\mo r tk y.1 L=some y.2.2) (fun y=>[(77,.q (y.1:Nat)),(76,.q (tk.so.length:Nat)),(75,.slice sa tk.so.length IL),(69,.q (i:Nat)),(68,.q (l.length:Nat)),(67,.slice a l.length cp),(14,.q (i:Nat)),(15,.p On),(9,.w gh l.length kL),(8,.p b8),(4,.p b4),(1,.slice a l.length cp)])
    (fun y=>[JP b8 r s1 d1 t1 (y.2.1),J1 r s1,J2 r d1,J3 r t1,row 188 3 y.2.1 y.2.2.length (gl y.2.2),bE gh (.cells (pC++od).toArray 32 (0,0)),bE gu (.cells (aR (cU r tk.de)++Km).toArray 9 (0,0)),sf 9 pC (l.map fun y=>aR (cU r y.tk.de)) i,se 9 pC (l.map fun y=>aR (cU r y.tk.de)) i,bE b4 (.cells #[.q 0,.q 0,.z,.z,.z,.z] 41 (0,0)),bE On (.cells #[.string tk.de,.slice sa tk.so.length IL] 78 (0,0))]) (fun y=>tk.so.length-y.1) ?_ ?_
   ·have h00:mo r tk 0 L=some L:=by rw [mo]
    apply aI (0,pv,L) ⟨Zi _,h00⟩
    case hs1=>exact bS
    case ht=>exact .cons eu (.cons eu (.cons eu (.cons eu (.cons eu (.h4 (.cons (.there .here) (.h1 .nil)))))))
   rintro ⟨k,Ld,L2⟩ ⟨hk,qu⟩;dsimp only at hk qu ⊢;obtain ⟨Oh,fC⟩:=Mm k hk L2 qu;have hfw:=lx dU Oh;by_cases nM:k<tk.so.length
   ·have Bg:=Qm (iE nM);have Bf:w.cell? ⟨sb,O4+k*1,none⟩=some (.string tk.so[k]):=(Ql k _ (fM nM)).2 0 _ I;have f3:=f2 k (by omega);have iy:tk.at k=tk.so[k]:=by unfold Tk.at;rw [Zk,Zc nM];rfl
    have hs2:mo r tk (k+1) L=if mr r tk k then (lf (r.wp L2) (k:Nat) tk.so[k] tk.de).map (fun p=>kN r L2 (k:Nat) tk.so[k] p tk.de) else some L2:=by rw [mo,qu,Option.bind_some,iy]
    have XU:mr r tk k=true↔¬ ((tk.so[k]=⟨#[]⟩\/tk.so[k]=⟨#[45]⟩)\/tk.so[k]=j4 r (k:Nat) tk.de):=by
     rw [kT,iy];constructor
     ·rintro ⟨x1,x2,x3⟩ ((e | e) | e)
      ·exact x1 e
      ·exact x3 e
      ·exact x2 e
     ·intro e;exact ⟨fun c=>e (.inl (.inl c)),fun c=>e (.inr c),fun c=>e (.inl (.inr c))⟩
    have XT:=Mq k nM;rw [iy] at XT;have yB:mr r tk k=true->lH r tk k=true:=fun c=>by
     obtain ⟨x1,x2,_⟩:=kT.1 c;exact kX.2 ⟨x1,x2⟩
    generalize j4 r (k:Nat) tk.de=ck at *;generalize tk.so[k]=sk at *
    (refine Jr<|JA I<|Jn<|Jq<|Jd I fun az=>Jk<|Jq<|J0<|Jr<|Jv I<|ab (an (.of I) (.of I) Bg (by omega) az aW) I ?_;refine ab (ag (.of I) (At.base Bf I)) I ?_;refine Ja I<|Ja I<|Jn<|Jq<|Jr<|Jv I<|ab (dF (.of I) (.of I)) I ?_;refine Jv I<|iQ I I I I ?_;refine aF I I inferInstance (fun hg br=>(dF (.bF hg I) (.of I))) I ?_;refine ab (bA (.of I) I) I ?_;refine Jv I<|iQ I I I I ?_;refine iQ I I I I ?_;refine iQ I I I I ?_;refine aF I I inferInstance (fun hg br=>(an (.bF hg I) (.bF hg I) I (by omega) (by assumption) aW)) I ?_;refine aF I I inferInstance (fun hg br=>(ag (.bF hg I) (At.mz eu f1))) I ?_;refine iQ I I I I ?_;refine aF I I inferInstance (fun hg br=>(an (.bF hg I) (.bF hg I) I (by omega) (by omega) aW)) I ?_;refine aF I I inferInstance (fun hg br=>(ag (.bF hg I) (At.mz kr f3))) I ?_;refine aF I I inferInstance (fun hg br=>(dF (.bF hg I) (.bF hg I))) I ?_;refine ab (bA (.of I) I) I ?_;refine Jn<|nj I (fun az=>?_) fun az=>?_;refine Jp<|Jo<|Jt<|Jg<|JB I (by omega)<|Jv I<|Jn ?_;rotate_left;refine Jk<|Jr<|ab (cm .here) I ?_;refine Jv I<|Jv I<|bJ I I ae ?_;refine JL I lL I ?_;rotate_right)
    ·have hj:mr r tk k=false:=by
      rw [<- Zap];exact fun c=>XU.1 c az
     rw [hj,if_neg (by decide)] at hs2;apply aH (k+1,Ld,L2) ⟨by show k+1<=_;omega,hs2⟩ (by show tk.so.length-(k+1)<tk.so.length-k;omega)
     case hs1=>exact bS
     case ht=>exact iP
    have hj:mr r tk k=true:=XU.2 (fun c=>c.elim (fun c=>c.elim az.1.1 az.1.2) az.2)
    obtain ⟨⟨j1,j2⟩,oK,gq,_⟩:=XT hj;have Bl:=fC k (Zy _) nM (yB hj);rw [hj,if_pos I] at hs2;refine JN mi I (fun w1 aT=>Rz (r:=r.wp L2) (k:Nat) sk tk.de (RR.wp (cG aT (by exact Take.there .here) I) (cI aT bL I) (cF aT cX I) (ct aT dD I)) dU.wJ.wp Oh.wp dU.SK.wp oK gq) ?_;rintro ⟨fnd,⟨xv,xp,xf⟩,lu⟩ ⟨hy1,hy2,hy3⟩;dsimp only at hy1 hy2 hy3;dsimp only [Wy.cells,Zb,Za]
    (refine Jv I<|JJ I I<|JJ I I<|Jz I I fun _ _=>ao (.of I) (.of I) .here I I (gO hy3 I) (bz I) ak<|Ja I<|Jn<|Jq<|Jr<|Jv I<|JH I<|Jn<|nj I (fun az=>?_) fun az=>?_;refine Jr<|ab (aU .nil ak) I<|Jv I<|ao (.of I) (.of I) u5 I I (eF I I I I I I) (bz I) ak<|Ja I<|Ja I<|Jn<|Ju<|Jm<|Jh<|Jh<|Jm<|Jm<|Jh<|Jh<|Jm<|Jh ?_;rotate_left;refine Jk<|Jg<|Jv I<|Jv I<|ab (cm .here) I<|bJ I I ae<|JL I kF I ?_;rotate_right)
    ·have hf:fnd=false:=by simpa using az
     subst hf;have e1:mo r tk (k+1) L=none:=by rw [hs2,yU (hy2 I)];rfl
     have e2:ib r (bQ l) (nO r (bQ l)) (i+1)=none:=by rw [Ux];exact zh e1 (by omega)
     have e3:=tC e2 (m:=(bQ l).length) (by omega);have e4:gI r (bQ l)=(Ro.nil,((i:Nat):Int),18):=by
      unfold gI;rw [if_neg Yr];show (match ib r (bQ l) (nO r (bQ l)) (bQ l).length with | none=>(Ro.nil,((CQ r (bQ l) (nO r (bQ l)):Nat):Int),(18:Int)) | some po=>(r.wp po,0,0))=_
      rw [e3,hrf e2]
     rw [e4];dsimp only;refine aN 186 2 ?_;refine aN 90 3 ?_;refine aN 187 3 ?_;refine aN 188 3 ?_
     with_reducible first|apply aO|apply aQ
     case he=>exact im I inferInstance I dD ak (by rfl) (by rfl) (by rfl)
     case hR=>
      intro w' aB;exact aD (.z,.z,.z,.z) trivial (by exact .cons cX (.cons bL (.cons (.there .here) (.h1 .nil)))) aB I
    have hf:fnd=true:=by simpa using az
    subst hf;obtain ⟨hle,UZ⟩:=hy1 rfl;have hwp:=yT hle;have Qu:(dG r L2 (k:Nat) sk).least (k7 r tk.de) xp:=hle;have gQ:mo r tk (k+1) L=some (kN r L2 (k:Nat) sk xp tk.de):=by rw [hs2,hwp];rfl
    have hVn:=CB dU ⟨j1,j2⟩ Oh oK gq Bl Qu;have hxp:∀ i∈xp,i<r.ti.length:=Wn.sq Qu.1;have Qh:xp.length<=6:=by have:=Wn.rk Qu.1;show _<=_;have h6:(dG r L2 (k:Nat) sk).n=r.ti.length:=rfl;omega
    refine Hw UZ (by exact Take.there .here) fun oM=>?_
    with_reducible apply gA (As:=[JP b8 r s1 d1 t1 Ld,J1 r s1,J2 r d1,J3 r t1,row 188 3 Ld L2.length (gl L2),row 3 1 xv xp.length (gT xp)])
    case hr=>exact DW
    case hd=>rfl
    case ht=>exact .cons cX (.cons cX (.cons cX (.cons cX (.cons cX (.h1 .nil)))))
    case hc=>
     intro w1 Bv aT uV hs1 Dt lp;exact WJ (r:=r) (s:=s1) (d:=d1) (t:=t1) (p:=Ld) (b:=b8) (po:=L2) xf (k:Nat) sk tk.de uV hs1 cZ (by omega) (by omega) dU.SK hxp Oh.out gq hVn.rU
    intro p3 _;dsimp only [id_eq,Zb,Za];unfold RB PB;generalize kN r L2 (k:Nat) sk xp tk.de=L3 at *;refine Jx<|Jj<|Jt<|Jg<|JB I (by omega)<|Jv I<|Jn ?_;apply aH (k+1,p3,L3) ⟨by show k+1<=_;omega,gQ⟩ (by show tk.so.length-(k+1)<tk.so.length-k;omega)
    case hs1=>exact bS
    case ht=>exact iP
   ·have e:k=tk.so.length:=by omega
    subst e;refine Jr<|JA I<|Jn<|Jq<|Jc I fun az=>Jp<|Jl<|Jo<|Jj<|Jt<|Jg<|JB I (by omega)<|Jv I<|Jn ?_;refine dC (E:=9) (sz:=1) (g:=gu) kr hu1 Up hu3 hu4 ?_;refine dC (E:=32) (sz:=1) (g:=gh) kr hh1 hh2 hh3 hh4 ?_;have hxn:(aR (cU r tk.de)).length=r.lv.toNat:=by rw [dj,U6]
    with_reducible apply y5 (E:=9) (vs:=pC) (xs:=l.map fun y=>aR (cU r y.tk.de)) (v:=.w gu r.lv.toNat uc) (x:=aR (cU r tk.de)) (n:=r.lv.toNat) i
    case ht=>exact tt
    case ht2=>exact tt
    case ht3=>exact Take.there .here
    case hv=>exact hu
    case hn=>exact hxn
    case hx=>exact Xh
    case k=>
     have hne:ib r (bQ l) (nO r (bQ l)) (i+1)=some L2:=by rw [Ux,qu]
     apply aH (i+1,Ld,L2) ⟨by show i+1<=_;omega,hne,Oh⟩ (by show l.length-(i+1)<l.length-i;omega)
     case hs1=>exact bS
     case ht=>exact .cons bL (.cons bL (.cons bL (.cons bL (.cons bL (.cons (.there .here) (.h2 .nil))))))
  ·have e:i=l.length:=by omega
   subst e;refine Jr<|JA I<|Jn<|Jq<|Jc I fun az=>Jp<|Jl<|Jo<|Jt<|Jr<|ab (cm .here) I ?_;have e4:gI r (bQ l)=(r.wp L,0,0):=by
    unfold gI;rw [if_neg Yr];show (match ib r (bQ l) (nO r (bQ l)) (bQ l).length with | none=>(Ro.nil,((CQ r (bQ l) (nO r (bQ l)):Nat):Int),(18:Int)) | some po=>(r.wp po,0,0))=_
    rw [uA,hL]
   rw [e4];dsimp only;refine aM (E:=188) (sz:=3) (v:=pv) dD fun _ _ e=>?_;have k5:pv.oneCell'=true:=by rw [e];rfl
   clear e
   (refine ao (.of I) (.of I) tt I I (eF I I k1 k2 k3 k5) (bz I) ak<|Ja I<|Ja I<|Jn<|Je ?_)
   with_reducible first|apply aO|apply aQ
   case he=>exact im I inferInstance I .here ak (by rfl) (by rfl) (by rfl)
   case hR=>
    intro w' aB;exact aD (s1,d1,t1,pv) trivial (by exact .cons bL (.cons bL (.cons bL (.cons bL .nil)))) aB I
def jY (r:Ro) (l:List Tk):Ro×Int×Int:=if gy r≠0 then (Ro.nil,0,gy r) else if uR r l≠0 then (Ro.nil,0,uR r l) else gI r l
theorem Ay (l:List fy):∀ r∈iD l,r.length=2:=fun r hr=>by obtain ⟨x,_,rfl⟩:=Zx.1 hr;rfl
theorem mE {c:Cx} {hs hs':List bd} {E:TypeId} {v:Value} (hm:Mem c hs w) (ht:Take hs (row E 2 v n (iD l).flatten) hs') (hn:l.length=n):Rd w v 2 (iD l):=hm.o9 ht I (Ay l) (by rw [dI,hn])
theorem bo (l m:List bd):bB (l++m) l m:=qi [] l m
theorem dH {c:Cx} {D:List Nat} {sl:aL} {hs hs':List bd} {X:Act->World->Prop} {r:Ro} {s d t p:Value} (ht:bB hs (vh r (s,d,t,p)) hs')
  (k:s.oneCell'=true->d.oneCell'=true->t.oneCell'=true->p.oneCell'=true->Tr c D sl (J1 r s::J2 r d::J3 r t::J4 r p::hs') X):Tr c D sl hs X:=by
 intro a w ba;have hm:=ba.mem.jj (ht.append (nB D));have k2:Tr c D sl (J1 r s::J2 r d::J3 r t::J4 r p::hs') X:=by
  refine aM (E:=186) (sz:=2) (v:=s) .here fun _ _ e=>?_;have k1:s.oneCell'=true:=by rw [e];rfl
  clear e;refine aM (E:=90) (sz:=3) (v:=d) (.there .here) fun _ _ e=>?_;have k2:d.oneCell'=true:=by rw [e];rfl
  clear e;refine aM (E:=187) (sz:=3) (v:=t) bL fun _ _ e=>?_;have k3:t.oneCell'=true:=by rw [e];rfl
  clear e;refine aM (E:=188) (sz:=3) (v:=p) cX fun _ _ e=>?_;have k4:p.oneCell'=true:=by rw [e];rfl
  clear e;exact k k1 k2 k3 k4
 exact k2 a w (ba.heap hm)
set_option maxHeartbeats 1000000 in
theorem BU {r:Ro} {s d t p kv:Value} (h:RR w r s d t p) (cZ:nk r) (hw:Rd w kv 2 (iD l)) (hM:te w l) :
  a8 T_ 45 [RA r s d t p,kv] w [] (fun _:Value×Value×Value×Value=>True) (fun x=>.tuple #[RA (jY r (bQ l)).1 x.1 x.2.1 x.2.2.1 x.2.2.2,.q (jY r (bQ l)).2.1,.q (jY r (bQ l)).2.2]) (fun x=>vh (jY r (bQ l)).1 x):=by
 obtain ⟨h1,h2,h3,h4⟩:=h.one;have XS:=Rd.one hw;have gr:∀ w',aJ [] w w'->aj T_ 34 [.agg #[.int .i64 r.lv,.int .i64 r.ma,s,d,t,p]] w' (.int .i64 (gy r)):=fun w' hk=>fj (h.keeps hk) cZ
 have htk:∀ w',aJ [] w w'->aj T_ 164 [.agg #[.q r.lv,.q r.ma,s,d,t,p],kv] w' (.q (uR r (bQ l))):=fun w' hk=>sY (h.keeps hk) (hw.keeps hk) (hM.keeps hk)
 unfold RA;refine aS func45 I I ?_
 (refine Jr<|Jy I I fun _ _=>Jz I I fun _ _=>Ja I<|Ja I<|Jn<|Jq<|Jr<|ab (cm (.there .here)) I<|ai bM I (fun w' aB=>(gr w' (Mem.keeps aB)))<|Ja I<|Ji<|Jv I<|JD I<|Jn<|gm I (fun az=>?_) fun az=>?_;refine Jr<|ab (aU .nil ak) I<|Jv I<|ao (.of I) (.of I) .here I I (eF I I I I I I) (bz I) ak<|Ja I<|Ja I<|Jn<|Ju ?_;rotate_left;refine Jk<|Jq<|Jr<|ab (cm (.there .here)) I<|Jv I<|ai bb I (fun w' aB=>(htk w' (Mem.keeps aB)))<|Ja I<|Ji<|Jv I<|JD I<|Jn<|gm I (fun az=>?_) fun az=>?_;refine Jr<|ab (aU .nil ak) I<|Jv I<|ao (.of I) (.of I) .here I I (eF I I I I I I) (bz I) ak<|Ja I<|Ja I<|Jn<|Ju ?_;rotate_left;refine Jk<|Jr<|ab (cm (.there .here)) I<|Jv I ?_;rotate_right;rotate_right)
 ·have e:jY r (bQ l)=(Ro.nil,0,gy r):=if_pos az;rw [e];dsimp only;refine aN 186 2<|aN 90 3<|aN 187 3<|aN 188 3 ?_
  with_reducible first|apply aO|apply aQ
  case he=>exact im I inferInstance I dD ak (by rfl) (by rfl) (by rfl)
  case hR=>
   intro w' aB;exact aD (.z,.z,.z,.z) trivial (by exact .cons cX (.cons bL (.cons (.there .here) (.h1 .nil)))) aB I
 ·have e:jY r (bQ l)=(Ro.nil,0,uR r (bQ l)):=by unfold jY;rw [if_neg (by assumption),if_pos az]
  rw [e];dsimp only;refine aN 186 2<|aN 90 3<|aN 187 3<|aN 188 3 ?_
  with_reducible first|apply aO|apply aQ
  case he=>exact im I inferInstance I dD ak (by rfl) (by rfl) (by rfl)
  case hR=>
   intro w' aB;exact aD (.z,.z,.z,.z) trivial (by exact .cons cX (.cons bL (.cons (.there .here) (.h1 .nil)))) aB I
 have B2:gy r=0:=Zp.1 (by assumption);have Ur:uR r (bQ l)=0:=Zp.1 az;have e:jY r (bQ l)=gI r (bQ l):=by unfold jY;rw [if_neg (not_not_intro B2),if_neg (not_not_intro Ur)]
 have dU:=A2 B2;have hf:=lx dU dU.val;rw [e];refine JN bb I (fun w1 aT=>F8 (h.keeps aT.keeps) dU (by omega) (hw.keeps aT.keeps) (hM.keeps aT.keeps) (Aw.1 Ur).2) ?_;generalize gI r (bQ l)=R;obtain ⟨R,at_,e_⟩:=R;rintro ⟨s1,d1,t1,p1⟩ _;dsimp only;unfold RA;refine dH (r:=R) (s:=s1) (d:=d1) (t:=t1) (p:=p1) (bo _ _) fun k1 k2 k3 k4=>?_
 (refine JJ I I<|JJ I I<|JJ I I<|ao (.of I) (.of I) dD I I (eF I I k1 k2 k3 k4) (bz I) ak<|Ja I<|Ja I<|Jn<|Je ?_)
 with_reducible first|apply aO|apply aQ
 case he=>exact im I inferInstance I .here ak (by rfl) (by rfl) (by rfl)
 case hR=>
  intro w' aB;exact aD (s1,d1,t1,p1) trivial (by exact .cons (.there .here) (.cons (.there .here) (.cons (.there .here) (.cons (.there .here) .nil)))) aB I
set_option maxHeartbeats 1000000 in
theorem Ru {r:Ro} {s d t p:Value} (h:RR w r s d t p) (cZ:nk r) (hM:Rd w x.v 1 (gi x.tk.so)) :
  a8 T_ 48 [RA r s d t p,.agg x.cells.toArray] w [] (fun _:Value×Value×Value×Value=>True) (fun y=>.tuple #[RA (jY r [x.tk]).1 y.1 y.2.1 y.2.2.1 y.2.2.2,.q (jY r [x.tk]).2.2]) (fun y=>vh (jY r [x.tk]).1 y):=by
 obtain ⟨h1,h2,h3,h4⟩:=h.one;have XS:=Rd.one hM;unfold RA fy.cells;refine aS func48 I I ?_
 (refine Jr<|Jy I I fun _ _=>Jy I I fun _ _=>Jz I I fun _ _=>Ja I<|Ji<|ab (cm bL) I<|ab (cm (.there .here)) I<|bj (bn (.o I .nil) I I bH bH ak) I fun _ _=>?_)
 rename_i b2 rM b3 tr b4 tS bq ml;refine bU (g:=bq) (E:=78) (xs:=[.string x.tk.de,x.v]) (ys:=(iD [x]).flatten) 1 2 (by exact .here) (by exact I) I I ?_
 with_reducible apply jH
 case hr=>exact bb
 case hd=>rfl
 case ht=>exact bB.nil
 case hc=>
  intro w1 fp aT _ hs1;obtain rfl:fp=[]:=hs1;have hR:Rd w1 (.slice (some ⟨bq,0,none⟩) 1 1) 2 (iD [x]):=mE (l:=[x]) aT (by exact .here) (by exact I);exact BU (l:=[x]) (h.keeps aT.keeps) cZ hR (fun y hy=>by rw [ZL.1 hy];exact hM.keeps aT.keeps)
 rw [show bQ [x]=[x.tk] from I];generalize jY r [x.tk]=R;obtain ⟨R,at_,e_⟩:=R;rintro ⟨s1,d1,t1,p1⟩ _;dsimp only;unfold RA;refine dH (r:=R) (s:=s1) (d:=d1) (t:=t1) (p:=p1) (bo _ _) fun k1 k2 k3 k4=>?_
 (refine Jv I<|JJ I I<|JJ I I<|JJ I I<|Jz I I fun _ _=>ao (.of I) (.of I) .here I I (eF I I k1 k2 k3 k4) (bz I) ak<|Ja I<|Ja I<|Ji<|ab (cm .here) I<|Jv I<|ao (.of I) (.of I) kr I I (eF I I k1 k2 k3 k4) (bz I) ak<|Ja I<|Jn<|Je ?_)
 with_reducible first|apply aO|apply aQ
 case he=>exact tY I inferInstance I .here ak (by rfl) (by rfl)
 case hR=>
  intro w' aB;exact aD (s1,d1,t1,p1) trivial (by exact .cons bL (.cons bL (.cons bL (.cons bL .nil)))) aB I
theorem qR (cs:List Value) (o:Nat) (v:Value) (h:o<cs.length):setCells cs o [v]=cs.set o v:=by
 simp [setCells]
theorem Ga (L:List ByteArray) (cur:List Value) {k:Nat} (h:k<L.length) (v:ByteArray):setCells (aR L++cur) (k*1) [.string v]=aR (L.set k v)++cur:=by
 rw [Zar,qR _ _ _ (by rw [Zg,dj];omega),List.set_append_left _ _ (by rw [dj];exact h)];unfold aR;rw [List.map_set]
theorem rS (L:List ByteArray) (cur:List Value) {k:Nat} (h:k<L.length):(aR L++cur)[k*1]? = some (.string L[k]):=by
 rw [Zar,ZB (by rw [dj];exact h)];unfold aR;rw [ZE,Zc h];rfl
def B9 (r:Ro) (t:Tk) (k:Nat):ByteArray:=if t.at k=⟨#[]⟩ then ⟨#[]⟩ else if j4 r (k:Nat) t.de=⟨#[]⟩ then dash else j4 r (k:Nat) t.de
def ly (r:Ro) (t:Tk) (k:Nat):List ByteArray:=(List.range r.lv.toNat).map fun i=>if i<k then B9 r t i else j4 r (i:Nat) t.de
theorem lU (r:Ro) (t:Tk) (k:Nat):(ly r t k).length=r.lv.toNat:=by unfold ly;simp
theorem Hn (r:Ro) (t:Tk):ly r t 0=cU r t.de:=by unfold ly cU;simp
theorem Kj (r:Ro) (t:Tk):ly r t r.lv.toNat=(yg r t).so:=by
 unfold ly yg;refine Zbe fun i hi=>?_;rw [if_pos (ZW.1 hi)];rfl
theorem Ap {r:Ro} {k i:Nat} (h:i<r.lv.toNat):(ly r t k)[i]? = some (if i<k then B9 r t i else j4 r (i:Nat) t.de):=by
 unfold ly;rw [ZE,List.getElem?_range h];rfl
theorem Ki {r:Ro} (h:k<(ly r t k).length):(ly r t k)[k]=j4 r (k:Nat) t.de:=by
 have h1:=Zc h;rw [Ap (by rw [lU] at h;exact h),if_neg (Nat.lt_irrefl _)] at h1;exact (Option.some.inj h1).symm
theorem Kh {r:Ro} (h:k<r.lv.toNat):(ly r t k).set k (B9 r t k)=ly r t (k+1):=by
 apply Zat;intro i;rw [List.getElem?_set];by_cases hi:i<r.lv.toNat
 ·rw [Ap hi,Ap hi,lU];by_cases e:k=i
  ·subst e;rw [if_pos I,if_pos hi,if_pos (Nat.lt_succ_self _)]
  ·rw [if_neg e];by_cases e2:i<k
   ·rw [if_pos e2,if_pos (by omega)]
   ·rw [if_neg e2,if_neg (by omega)]
 ·have e1:(ly r t k)[i]? = none:=Zak (by rw [lU];omega);have e2:(ly r t (k+1))[i]? = none:=Zak (by rw [lU];omega);rw [if_neg (by omega),e1,e2]
theorem Ho {r:Ro} (h:B9 r t k=j4 r (k:Nat) t.de):ly r t (k+1)=ly r t k:=by
 unfold ly;refine Zbe fun i _=>?_;by_cases e:i=k
 ·subst e;rw [if_pos (Nat.lt_succ_self _),if_neg (Nat.lt_irrefl _),h]
 ·by_cases e2:i<k
  ·rw [if_pos e2,if_pos (by omega)]
  ·rw [if_neg e2,if_neg (by omega)]
set_option maxHeartbeats 1000000 in
theorem Th {r:Ro} {s d t p:Value} {b:Nat} (h:RR w r s d t p) (hA:BR w b (RC r s d t p)) (tO:1<=r.lv/\r.lv<=1000) (cZ:r.ti.length<=1000000) (hx:Rd w x.v 1 (gi x.tk.so)) (Qh:(x.tk.so.length:Int)=r.lv) :
  a8 T_ 167 [.agg x.cells.toArray,.p b] w [] (fun _:Value=>True) (fun v=>.agg #[.string x.tk.de,v]) (fun v=>[row 9 1 v r.lv.toNat (aR (yg r x.tk).so)]):=by
 obtain ⟨h1,h2,h3,h4⟩:=h.one;have kW:∀ (j:Nat) (u:Value),[Value.int .i64 r.lv,.int .i64 r.ma,s,d,t,p][j]? = some u->w.cell? ⟨b,0+j,none⟩=some u:=hA;clear hA;unfold fy.cells;obtain ⟨tk,tv⟩:=x;dsimp only at *;obtain ⟨sa,IL,sb,O4,rfl,GJ,sE,Qm,Ql⟩:=hx;rw [bG] at *;unfold maxLen at sE;refine aS func167 I I ?_
 (refine Jr<|Jy I I fun _ _=>Jz I I fun _ _=>Ji<|ab (iO (eZ.base kW I)) I<|bJ I I ae<|JL I (.there .here) I ?_)
 rename_i b2 ajl b3 ajj;refine JN bb I (fun w1 aT=>xe tk.de (h.keeps aT.keeps) tO.2 cZ) ?_;intro v _;dsimp only [id_eq,Zb,Za];have nN:=lU r tk;rw [<- Hn];refine dy (E:=9) (sz:=1) (v:=v) (by exact .here) (by omega) fun gb cap cur e tT rM tr tS=>?_;subst e
 (refine Ja I<|Jn<|Jq<|Jr<|bJ I I ae<|JL I bL I<|JI I<|Jv I<|Jn<|J0 ?_)
 refine aV (ι:=Nat×List ByteArray) (fun y=>y.1<=tk.so.length/\y.2=ly r tk y.1) (fun y=>[(14,.q (y.1:Nat)),(13,.q (tk.so.length:Nat)),(12,.slice sa tk.so.length IL),(4,.w gb r.lv.toNat cap),(3,.p b3),(2,.p b2)])
  (fun y=>[bE gb (.cells (aR y.2++cur).toArray 9 (0,0)),bE b3 (.cells #[.string ⟨#[]⟩,.z] 78 (0,0)),bE b2 (.cells #[.string tk.de,.slice sa tk.so.length IL] 78 (0,0))]) (fun y=>tk.so.length-y.1) ?_ ?_
 ·apply aI (0,ly r tk 0) ⟨Zi _,I⟩
  case hs1=>exact bS
  case ht=>exact iP
 rintro ⟨k,L⟩ ⟨hk,hL⟩;dsimp only at hk hL ⊢;have D8:L.length=r.lv.toNat:=by rw [hL,lU]
 have jq:(aR L++cur).length=cap*1:=by
  rw [Zg,dj] at tr ⊢;rw [lU] at tr;omega
 by_cases aK:k<tk.so.length
 ·have Bg:=Qm (iE aK);have Bf:w.cell? ⟨sb,O4+k*1,none⟩=some (.string tk.so[k]):=(Ql k _ (fM aK)).2 0 _ I;have Qv:k<L.length:=by omega
  have gr:L[k]=j4 r (k:Nat) tk.de:=by subst hL;exact Ki Qv
  have c1:=rS L cur Qv;rw [gr] at c1;have p1:=Ga L cur Qv ⟨#[]⟩;have p2:=Ga L cur Qv ⟨#[45]⟩;have hle:k*1+1<=(aR L++cur).length:=by omega
  have XS:k<r.lv.toNat:=by omega
  have iy:tk.at k=tk.so[k]:=by unfold Tk.at;rw [Zk,Zc aK];rfl
  have hF:B9 r tk k=if tk.so[k]=⟨#[]⟩ then ⟨#[]⟩ else if j4 r (k:Nat) tk.de=⟨#[]⟩ then dash else j4 r (k:Nat) tk.de:=by unfold B9;rw [iy]
  have qH:∀ u,B9 r tk k=u->L.set k u=ly r tk (k+1):=fun u hu=>by rw [<- hu,hL];exact Kh XS
  have Mh:B9 r tk k=j4 r (k:Nat) tk.de->L=ly r tk (k+1):=fun hu=>by rw [hL,Ho hu]
  generalize j4 r (k:Nat) tk.de=ck at *;generalize tk.so[k]=sk at *
  (refine Jr<|JA I<|Jn<|Jq<|Jd I fun az=>Jk<|Jq<|J0<|Jr<|Jv I<|ab (an (.of I) (.of I) Bg (by omega) az aW) I ?_;refine ab (ag (.of I) (At.base Bf I)) I ?_;refine Ja I<|Ja I<|Ji<|Jv I<|ab (dF (.of I) (.of I)) I ?_;refine Jn<|gm I (fun az=>?_) fun az=>?_;refine Jg<|Jv I<|Jv I<|ab (an (.of I) (.of I) I (by omega) (by omega) aW) I ?_;refine ao (.of I) (.of I) .here I I (dR I) hle p1 ?_;refine Jx<|Jj<|Jt<|Jg<|JB I (by omega)<|Jv I<|Jn ?_;rotate_left;refine Jr<|Jv I<|Jv I<|ab (an (.of I) (.of I) I (by omega) (by omega) aW) I ?_;refine ab (ag (.of I) (At.mz .here c1)) I ?_;refine ab (dF (.of I) (.of I)) I ?_;refine Jn<|gm I (fun az=>?_) fun az=>?_;refine Jg<|Jv I<|Jv I<|ab (an (.of I) (.of I) I (by omega) (by omega) aW) I ?_;refine ao (.of I) (.of I) .here I I (dR I) hle p2 ?_;refine Jx<|Jj<|Jt<|Jg<|JB I (by omega)<|Jv I<|Jn ?_;rotate_left;refine Jw<|Jj<|Jt<|Jg<|JB I (by omega)<|Jv I<|Jn ?_;rotate_right;rotate_right)
  ·rw [if_pos az] at hF;rw [qH _ hF];apply aH (k+1,ly r tk (k+1)) ⟨by show k+1<=_;omega,I⟩ (by show tk.so.length-(k+1)<tk.so.length-k;omega)
   case hs1=>exact bS
   case ht=>exact iP
  ·rw [if_neg (by assumption),if_pos az] at hF;have hq:L.set k ⟨#[45]⟩=ly r tk (k+1):=qH _ hF;rw [hq];apply aH (k+1,ly r tk (k+1)) ⟨by show k+1<=_;omega,I⟩ (by show tk.so.length-(k+1)<tk.so.length-k;omega)
   case hs1=>exact bS
   case ht=>exact iP
  ·rw [if_neg (by assumption),if_neg az] at hF;apply aH (k+1,L) ⟨by show k+1<=_;omega,Mh hF⟩ (by show tk.so.length-(k+1)<tk.so.length-k;omega)
   case hs1=>exact bS
   case ht=>exact iP
 ·have e:k=tk.so.length:=by omega
  subst e;have sL:L=(yg r tk).so:=by rw [hL,<- Kj];congr 1;omega
  (refine Jr<|JA I<|Jn<|Jq<|Jc I fun az=>Jp<|Jl<|Jo<|Jt<|Jr<|bJ I I ae<|JL I bL I<|Jv I<|ab (aU (.o I (.o I .nil)) ak) I<|ao (.of I) (.of I) (.there .here) I I (gO I I) (bz I) ak<|Jn<|Je ?_)
  subst sL;have Uo:(aR (yg r tk).so).length=r.lv.toNat*1:=by rw [dj,D8,Zar]
  refine dC (n:=r.lv.toNat) (xs:=aR (yg r tk).so) (cap:=cap) (g:=gb) (E:=9) (sz:=1) (by exact Take.there .here) tT rM jq Uo ?_
  with_reducible first|apply aO|apply aQ
  case he=>exact iK I inferInstance I (.there .here) ak (by rfl)
  case hR=>
   intro w' aB;exact aD (.w gb r.lv.toNat cap) trivial (by exact .h1 .nil) aB I
def DY (W:List fy):bd:=iG 9 (W.map fy.v) (W.map fun y=>aR y.tk.so)
theorem OH:iG 9 [] []=DY []:=rfl
theorem Az (W:List fy) (y:fy):(iD (W++[y])).flatten=(iD W).flatten++[.string y.tk.de,y.v]:=by
 unfold iD;simp [fy.cells]
theorem T5 {kv:Value} {g:Tk->Tk} {f:FuncId} {first cap:List Value} [bW T_ f] {w:World} (h:Rd w kv 2 (iD l)) (hM:te w l) (hn:l.length<=1000) (hg:∀ x∈l,(g x.tk).so.length=n)
  (cV:∀ x∈l,∀ w',aJ [] w w'->a8 T_ f (first++[.agg x.cells.toArray]++cap) w' [] (fun _:Value=>True) (fun v=>.agg #[.string (g x.tk).de,v]) (fun v=>[row 9 1 v n (aR (g x.tk).so)])) :
  a8 T_ 166 [kv,.func (.func f) first.toArray cap.toArray] w [] (fun x:Value×List fy=>bQ x.2=(bQ l).map g) (fun x=>x.1) (fun x=>[row 78 2 x.1 x.2.length (iD x.2).flatten,DY x.2]):=by
 obtain ⟨a,cp,b,o,rfl,dd,bO,ha,hc⟩:=h;rw [dI] at *;unfold maxLen at bO;refine aS func166 I I ?_;refine Jr<|Ja I<|Ji<|Ja I<|Jn<|Jq<|Jr<|Jv I<|JI I<|Jv I<|Jn<|J0 ?_;refine aN 78 2 ?_;refine jL 9 ?_
 refine aV (ι:=Nat×Value×List fy) (fun x=>x.1<=l.length/\bQ x.2.2=(bQ (l.take x.1)).map g) (fun x=>[(10,.q (x.1:Nat)),(9,.q (l.length:Nat)),(8,.slice a l.length cp),(5,x.2.1),(1,.func (.func f) first.toArray cap.toArray)])
  (fun x=>[row 78 2 x.2.1 x.2.2.length (iD x.2.2).flatten,iG 9 (x.2.2.map fy.v) (x.2.2.map fun y=>aR y.tk.so)]) (fun x=>l.length-x.1) ?_ ?_
 ·apply aI (0,.z,[]) ⟨Zi _,I⟩
  case hs1=>exact bS
  case ht=>
   exact .cons (.there .here) (.h1 .nil)
 rintro ⟨k,v,W⟩ ⟨hk,hW⟩;dsimp only at hk hW ⊢;have Og:W.length=k:=by
  have:=congrArg List.length hW;unfold bQ at this;rw [Zd,Zd,Zd,Zs] at this;omega
 by_cases aK:k<l.length
 ·have cq:=ha (jM aK);have aC:=(hc k _ (j7 aK)).2;have jq:=cV _ (Zj aK);have Oc:=hg _ (Zj aK);have fo:=Rd.one (hM _ (Zj aK));have htk:(bQ (l.take (k+1))).map g=(bQ (l.take k)).map g++[g l[k].tk]:=by
   unfold bQ;rw [Zl aK,Zv,Zv];rfl
  have sK:(iD W).flatten.length=W.length*2:=by rw [fv (Ay W),dI]
  unfold fy.cells at aC jq;refine aM (E:=78) (sz:=2) (v:=v) (by exact .here) fun va vc e=>?_;subst e
  (refine Jr<|JA I<|Jn<|Jq<|Jd I fun az=>Jk<|Jq<|J0<|Jr<|ab (fT cq az) I<|ab (iO (eZ.base aC I)) I<|Jz I I fun _ _=>ao (.of I) (.of I) .here I I (gO I fo) (bz I) ak<|Jn<|Jg<|Jv I<|Jv I<|ab (cm .here) I ?_)
  refine JN bM I (fun w1 aT=>jq w1 aT.keeps) ?_;intro hv _;dsimp only [id_eq,Zb,Za];refine aM (E:=9) (sz:=1) (v:=hv) (by exact .here) fun jV ke e=>?_;subst e;refine bj (bn (.o I .nil) I I bH bH ak) I (fun _ _=>?_);refine bu (.of I) (.of I) cX .here ak (by rfl) (gO I I) (by rfl) (by rfl) (by rfl) ed (by rfl) ?_;intro v';refine Ja I<|Jx<|Jj<|Jt<|Jg<|JB I (by omega)<|Jv I<|Jn ?_;have XE:(aR (g l[k].tk).so).length=n:=by rw [dj,Oc]
  with_reducible apply ku (E:=9) (vs:=W.map fy.v) (xs:=W.map fun y=>aR y.tk.so) (v:=.slice jV n ke) (x:=aR (g l[k].tk).so) (n:=n)
  case ht=>exact dD
  case ht2=>exact bL
  case hn=>exact XE.symm
  case hl=>rw [Zd,Zd]
  case k=>
   apply aH (k+1,v',W++[⟨g l[k].tk,.slice jV n ke⟩]) ⟨by show k+1<=_;omega,by
    show bQ (W++[_])=_;unfold bQ at hW htk ⊢;rw [Zv,hW];exact htk.symm⟩ (by show l.length-(k+1)<l.length-k;omega)
   case hs1=>exact bS
   case ht=>
    dsimp only;rw [Az,Zg,Zv,Zv];simp only [Z3,Zf,ZA,Zaa,ZD];exact .cons (.there .here) (.h1 .nil)
 ·have e:k=l.length:=by omega
  rw [e,ZK] at hW;refine aM (E:=78) (sz:=2) (v:=v) (by exact .here) fun va vc e=>?_;subst e;refine Jr<|JA I<|Jn<|Jq<|Jc I fun az=>Jp<|Jl<|Jo<|Jt<|Jr<|Jv I<|Ja I<|Jn<|Je ?_
  with_reducible first|apply aO|apply aQ
  case he=>exact dB I I
  case hR=>
   intro w' aB;exact aD (.slice va W.length vc,W) hW (by exact .h2 .nil) aB I
def OE (r:Ro) (l:List Tk):List Tk:=if (jY r l).2.2≠0 then [] else l.map (yg r)
set_option maxHeartbeats 1000000 in
theorem NS {r:Ro} {s d t p kv:Value} (h:RR w r s d t p) (cZ:nk r) (hw:Rd w kv 2 (iD l)) (hM:te w l) :
  a8 T_ 47 [RA r s d t p,kv] w [] (fun x:Value×List fy=>bQ x.2=OE r (bQ l)) (fun x=>.tuple #[x.1,.q (jY r (bQ l)).2.2]) (fun x=>[row 78 2 x.1 x.2.length (iD x.2).flatten,DY x.2]):=by
 obtain ⟨h1,h2,h3,h4⟩:=h.one;have XS:=Rd.one hw;unfold RA;refine aS func47 I I ?_
 (refine Jr<|Jy I I fun _ _=>Ja I<|Ja I<|Jn<|Jq<|Jr<|ab (cm .here) I<|Jv I ?_)
 rename_i b2 rM;refine JN bb I (fun w1 aT=>BU (h.keeps aT.keeps) cZ (hw.keeps aT.keeps) (hM.keeps aT.keeps)) ?_;have H8:OE r (bQ l)=if (jY r (bQ l)).2.2≠0 then [] else (bQ l).map (yg r):=rfl
 have Uu:(jY r (bQ l)).2.2=0->gy r=0/\uR r (bQ l)=0:=fun h0=>by
  unfold jY at h0;by_cases c1:gy r=0
  ·rw [if_neg (not_not_intro c1)] at h0;by_cases c2:uR r (bQ l)=0
   ·exact ⟨c1,c2⟩
   ·rw [if_pos c2] at h0;exact absurd h0 c2
  ·rw [if_pos c1] at h0;exact absurd h0 c1
 by_cases B1:(jY r (bQ l)).2.2=0
 ·obtain ⟨B2,Ur⟩:=Uu B1;have dU:=A2 B2;have hT:=(Aw.1 Ur).2;have tO:=dU.lim;have uE:=dU.len;rw [if_neg (not_not_intro B1)] at H8;rw [H8];clear H8 Uu;generalize jY r (bQ l)=R at *;obtain ⟨R,at_,e_⟩:=R;dsimp only at B1;subst B1;rintro ⟨s1,d1,t1,p1⟩ _;dsimp only;unfold RA;refine dH (r:=R) (s:=s1) (d:=d1) (t:=t1) (p:=p1) (bo _ _) fun k1 k2 k3 k4=>?_
  (refine Jv I<|JJ I I<|JJ I I<|JJ I I<|Jz I I fun _ _=>ao (.of I) (.of I) .here I I (eF I I k1 k2 k3 k4) (bz I) ak<|Ja I<|Ja I<|Ji<|Jv I<|JD I<|Jn<|Jc I fun az=>Jk<|Jr<|Jv I<|ab (bD .nil (.o I .nil)) I ?_)
  with_reducible apply jH
  case hr=>exact bb
  case hd=>rfl
  case ht=>exact bB.nil
  case hc=>
   intro w1 fp aT _ hs1;obtain rfl:fp=[]:=hs1;have hA:BR w1 b2 [.int .i64 r.lv,.int .i64 r.ma,s,d,t,p]:=BR.of aT eu;have hR:=h.keeps aT.keeps;have hK:=hM.keeps aT.keeps;have UM:=hT.B4;unfold bQ at UM;rw [Zd] at UM;exact T5 (f:=167) (first:=[]) (cap:=[.pointer (some ⟨b2,0,none⟩)]) (g:=yg r) (n:=r.lv.toNat) (hw.keeps aT.keeps) hK (by omega) (fun x _=>by unfold yg;simp) (fun x hx w2 fq=>Th (hR.keeps fq) (hA.keeps fq) (by omega) (by omega) ((hK x hx).keeps fq) (hT.lv _ (ZY hx)))
  rintro ⟨v,W⟩ hW;dsimp only at hW ⊢;unfold DY;dsimp only [Zb,Za];refine aM (E:=78) (sz:=2) (v:=v) (by exact .here) fun va vc e=>?_;subst e;refine Ja I<|Ja I<|Jn<|Je ?_
  with_reducible first|apply aO|apply aQ
  case he=>exact gH I I I
  case hR=>
   intro w' aB;exact aD (.slice va W.length vc,W) hW (by exact .h2 .nil) aB I
 ·rw [if_pos B1] at H8;rw [H8];clear H8 Uu;generalize jY r (bQ l)=R at *;obtain ⟨R,at_,e_⟩:=R;dsimp only at B1;rintro ⟨s1,d1,t1,p1⟩ _;dsimp only;unfold RA;refine dH (r:=R) (s:=s1) (d:=d1) (t:=t1) (p:=p1) (bo _ _) fun k1 k2 k3 k4=>?_
  (refine Jv I<|JJ I I<|JJ I I<|JJ I I<|Jz I I fun _ _=>ao (.of I) (.of I) .here I I (eF I I k1 k2 k3 k4) (bz I) ak<|Ja I<|Ja I<|Ji<|Jv I<|JD I<|Jn<|Jd I fun az=>Jr<|Jv I<|Ja I<|Ja I<|Jn<|Ju ?_)
  refine aN 78 2 ?_;refine jL 9 ?_;rw [OH]
  with_reducible first|apply aO|apply aQ
  case he=>exact gH I I I
  case hR=>
   intro w' aB;exact aD (.z,([]:List fy)) (show bQ []=[] from I) (by exact .cons (.there .here) (.h1 .nil)) aB I
end Go.Proofs.A1
