/- Parts of the proof: P5s P5u P5v P5x P5y P5z P6a KY GkMapR KZ GkEnds3 LA P6b GkPoolJ LB LC. -/
import Derived.Test.YteonnodafmegaaaGreatDoorWM09
import Derived.Test.YteonnodafmegaaaGreatDoorWM04
import Derived.Test.YteonnodafmegaaaGreatDoorWM03
import Derived.Laws.IdiomRangeMap
set_option linter.unusedSectionVars false
set_option linter.unusedVariables false
set_option linter.unusedSimpArgs false
namespace Go.Proofs.A1
open Go Go.SL
theorem zI {r:Ro} (hd:∀ x∈r.de,0≤x.mx) (ht:∀ x∈r.ti,0≤x.fr) {s:ByteArray} (h:s∈cq r∨s∈cM r):0≤kC r s:=by
 unfold kC
 by_cases h1:0≤bE (cq r) s
 ·obtain ⟨hl,_⟩:=fq h1
  rw [if_pos h1,Zk,Zc (by unfold cq at hl;rwa [Zd] at hl)]
  exact hd _ (Zj _)
 ·rw [if_neg h1]
  have h2:0≤bE (cM r) s:=by
   rcases h with h | h
   ·exact absurd (eG h) h1
   ·exact eG h
  obtain ⟨hl,_⟩:=fq h2
  rw [if_pos h2,Zk,Zc (by unfold cM at hl;rwa [Zd] at hl)]
  exact ht _ (Zj _)
theorem Nh {r:Ro} (hd:∀ x∈r.sr,0≤x.mx) (ht:∀ x∈r.ti,0≤x.to) {s:ByteArray} (h:s∈cF r∨s∈cM r):0≤j7 r s:=by
 unfold j7
 by_cases h1:0≤bE (cF r) s
 ·obtain ⟨hl,_⟩:=fq h1
  rw [if_pos h1,Zk,Zc (by unfold cF at hl;rwa [Zd] at hl)]
  exact hd _ (Zj _)
 ·rw [if_neg h1]
  have h2:0≤bE (cM r) s:=by
   rcases h with h | h
   ·exact absurd (eG h) h1
   ·exact eG h
  obtain ⟨hl,_⟩:=fq h2
  rw [if_pos h2,Zk,Zc (by unfold cM at hl;rwa [Zd] at hl)]
  exact ht _ (Zj _)
structure G7 (r:Ro):Prop where
 Pp:CT r
 len:r.sr.length≤8∧r.de.length≤8∧r.ti.length≤6
 sm:∀ x∈r.sr,0≤x.mx∧x.mx<r.ma
 dm:∀ x∈r.de,0≤x.mx∧x.mx<r.ma
 tm:∀ x∈r.ti,(0≤x.fr∧x.fr<r.ma)∧(0≤x.to∧x.to<r.ma)∧x.fr≠x.to
 nm:∀ s∈ef r,j6 s=true
theorem zD {α:Type} {qd:Int} {bf:List ByteArray} {nm:α→ByteArray} {ck:α→Int} {l:List α} (h:fb qd bf nm ck l=0):∀ x∈l,j6 (nm x)=true:=by
 intro x hx
 obtain ⟨k,hk,rfl⟩:=Zu hx
 unfold fb at h
 split at h
 ·cases h
 ·have:=dS.1 h k hk
  rw [oo hk,cy] at this
  have:=(bO (by decide)).1 (this _ Zq)
  simpa using this
theorem prt {r:Ro} (h:jQ r=0):G7 r:=by
 obtain ⟨kQ,hlen,hs,hd,ht⟩:=zF h
 have h0:=h
 unfold jQ at h0
 rw [cy] at h0
 refine ⟨kQ,hlen,fun x hx=>jr.1 (hs x hx),fun x hx=>jr.1 (hd x hx),fun x hx=>?_,fun s hs=>?_⟩
 ·have:=ht x hx
  unfold nI at this
  rw [cy] at this
  have g3:=(bO (by decide)).1 (this (ch (decide (x.fr=x.to)) 24) (by simp))
  exact ⟨jr.1 (this _ (by simp)),jr.1 (this _ (by simp)),by simpa using g3⟩
 ·unfold ef cF cq cM at hs
  rw [Zx,Zx,Zt,Zt,Zt] at hs
  rcases hs with (⟨x,hx,rfl⟩ | ⟨x,hx,rfl⟩) | ⟨x,hx,rfl⟩
  ·exact zD (h0 _ Zq) x hx
  ·exact zD (h0 (fb 8 (cF r) De.nm (fun x=>fg r x.mx) r.de) (by simp)) x hx
  ·exact zD (h0 (fb 6 (cF r++cq r) Ti.nm (nI r) r.ti) (by simp)) x hx
theorem G7.ui {r:Ro} (h:G7 r):pR r:=Iz h.Pp h.len.2.2
theorem G7.ne {r:Ro} (h:G7 r) {s:ByteArray} (hs:s∈cF r∨s∈cq r∨s∈cM r):s≠⟨#[]⟩:=by
 have hm:s∈ef r:=by
  unfold ef
  rw [Zx,Zx]
  rcases hs with h | h | h
  ·exact .inl (.inl h)
  ·exact .inl (.inr h)
  ·exact .inr h
 have:=h.nm s hm
 intro e
 rw [e] at this
 exact absurd this (by decide)
theorem G7.nd {r:Ro} (h:G7 r) {s:ByteArray} (hs:s∈cF r):s≠dash:=by
 have hm:s∈ef r:=by
  unfold ef
  rw [Zx,Zx]
  exact .inl (.inl hs)
 have:=h.nm s hm
 intro e
 rw [e] at this
 exact absurd this (by decide)
theorem U7 {r:Ro} (h1:nj r=0) (h2:jQ r=0) (hV:iJ r r.po):fX r=0:=by
 have hp:=prt h2
 have h3:jM r r.po=0:=by
  refine dS.2 fun k hk=>?_
  have hl:=hV.II _ (Zj hk)
  have ho:=zI (fun x hx=>(hp.dm x hx).1) (fun x hx=>(hp.tm x hx).1.1) (hV.out _ (Zj hk))
  have hi:=Nh (fun x hx=>(hp.sm x hx).1) (fun x hx=>(hp.tm x hx).2.1.1) (hV.vo _ (Zj hk))
  have hm:=hV.M0 _ (Zj hk)
  have e0:mi r r.po[k]=0:=by
   unfold mi
   rw [cy]
   intro e he
   simp only [ZS,Zp,or_false] at he
   rcases he with rfl | rfl | rfl | rfl
   ·exact gn.2 (by omega)
   ·exact (bO (by decide)).2 (by simpa using ho)
   ·exact (bO (by decide)).2 (by simpa using hi)
   ·exact (bO (by decide)).2 (by simpa using hm)
  rw [rk hk,if_neg (not_not_intro e0)]
  refine if_neg ?_
  by_cases Ly:k=0
  ·rw [if_pos Ly]
   exact oP.2 (by omega)
  ·rw [if_neg Ly,Zc (by omega)]
   refine oP.2 ?_
   have:=Z4.1 hV.qK (k-1) k (by omega) hk (by omega)
   unfold pK at this
   simpa only [ZO,Zm,decide_eq_true_eq] using this
 have h4:zQ r=0:=by
  unfold zQ
  rw [cy]
  intro e he
  simp only [ZS,Zp,or_false] at he
  have hti:(cM r).length=r.ti.length:=by unfold cM;rw [Zd]
  rcases he with rfl | rfl
  ·refine (bO (by decide)).2 (lA.2 fun v _ _=>Z9.2 fun x hx hc=>?_)
   exact hV.Co v ⟨x.nm,Zt.2 ⟨x,hx,rfl⟩,by rw [hti];exact eV.1 hc⟩
  ·refine (bO (by decide)).2 (lA.2 fun v _ _=>Z9.2 fun x hx hc=>?_)
   have:=hV.use v x.nm (Zt.2 ⟨x,hx,rfl⟩)
   unfold Ir at hc
   cases a:nH r.po v x.nm <;> cases b:gV r.po v x.nm <;> rw [a,b] at hc this <;> simp at hc this
 unfold fX
 rw [if_neg (not_not_intro h1),if_neg (not_not_intro h2),if_neg (not_not_intro h3),h4]
theorem vV {r:Ro} (h:fX r=0) {q:List Po} (hV:iJ r q):fX (r.wp q)=0:=by
 obtain ⟨h1,h2,_,_⟩:=sL h
 exact U7 (r:=r.wp q) h1 h2 hV.wp
def tC (po:List Po) (v:Int):Nat→ByteArray→List ByteArray
 | 0,_=>[]
 | n+1,o=>if o=⟨#[]⟩ then [] else o::tC po v n ((ek po v o).getD ⟨#[]⟩)
theorem Pr (po:List Po) (v:Int):∀ n,tC po v n ⟨#[]⟩=[]
 | 0=>rfl
 | n+1=>by rw [tC,if_pos rfl]
theorem Ap {po:List Po} (hne:∀ p∈po,p.ip≠⟨#[]⟩) {v:Int}:∀ (n:Nat) {o:ByteArray},o≠⟨#[]⟩→tC po v (n+1) o=o::eI po v n o
 | 0,o,ho=>by rw [tC,if_neg ho];rfl
 | n + 1, o, ho => by
  rw [tC,if_neg ho]
  cases h:ek po v o with
  | none=>rw [rL h];exact congrArg _ (Pr po v _)
  | some i =>
   obtain ⟨p,hp,_,_,rfl⟩:=fF h
   rw [lz h]
   exact congrArg _ (Ap hne n (hne p hp))
def Ln (r:Ro) (x:Po):Int:=aX [gp x.lv 0 (r.lv-1),ch (decide (dX r x.ou<0)) 10,ch (decide (j7 r x.ip<0)) 10,ch (decide (kC r x.ou≠j7 r x.ip)) 24]
theorem MP {r:Ro} (h:G7 r) (s:ByteArray):dX r s<0↔kC r s<0:=by
 rw [Ii]
 constructor
 ·rintro ⟨a,b⟩
  unfold kC
  have f1:=cm.2 a
  have f2:=cm.2 b
  rw [if_neg (by omega),if_neg (by omega)];decide
 ·intro aeC
  constructor
  ·intro hd
   have:=zI (fun x hx=>(h.dm x hx).1) (fun x hx=>(h.tm x hx).1.1) (.inl hd)
   omega
  ·intro hd
   have:=zI (fun x hx=>(h.dm x hx).1) (fun x hx=>(h.tm x hx).1.1) (.inr hd)
   omega
theorem Qd {r:Ro} (h:G7 r) (x:Po):Ln r x=mi r x:=by
 unfold Ln mi
 rw [show decide (dX r x.ou<0)=decide (kC r x.ou<0) from decide_eq_decide.2 (MP h _)]
def Gf (r:Ro) (k:Nat):Int:=(r.po[k]?.map fun x=>if Ln r x≠0 then Ln r x else if 0<k∧(x.lv<((r.po[k-1]?).getD x).lv∨x.lv=((r.po[k-1]?).getD x).lv∧dX r x.ou≤dX r ((r.po[k-1]?).getD x).ou) then 11 else 0).getD 0
theorem Qb {r:Ro} (h:G7 r) {k:Nat} (hk:k<r.po.length):Gf r k=Gi r r.po k:=by
 unfold Gf
 rw [Zc hk,rk hk,Zbl,Zab,Qd h]
 by_cases e:mi r r.po[k]=0
 ·rw [if_neg (not_not_intro e),if_neg (not_not_intro e)]
  have hl:=(mY e).1
  by_cases Ly:k=0
  ·rw [if_neg (by omega),if_pos Ly,if_neg]
   exact oP.2 (by omega)
  ·rw [if_neg Ly,Zc (show k-1<r.po.length by omega),Zab]
   have key:=@oP (r.po[k]).lv (dX r (r.po[k]).ou) (r.po[k-1]).lv (dX r (r.po[k-1]).ou)
   by_cases c:lI [(r.po[k]).lv,dX r (r.po[k]).ou] (Eh r (some r.po[k-1]))≤0
   ·rw [if_pos c,if_pos]
    have:¬ ((r.po[k-1]).lv<(r.po[k]).lv∨(r.po[k-1]).lv=(r.po[k]).lv∧dX r (r.po[k-1]).ou<dX r (r.po[k]).ou):=fun q=>(key.2 q) c
    omega
   ·rw [if_neg c,if_neg]
    have:=key.1 c
    omega
 ·rw [if_pos e,if_pos e]
def Tm (r:Ro):Int:=if jV r fun v=>r.ti.any fun x=>decide ((tC r.po v 8 x.nm).length=8) then 33 else if jV r fun v=>r.ti.any fun x=>nH r.po v x.nm != !decide ((ek r.po v x.nm).getD ⟨#[]⟩=⟨#[]⟩) then 32 else 0
theorem Qe {r:Ro} (h:G7 r) (hp:jM r r.po=0):Tm r=zQ r:=by
 have Js:∀ p∈r.po,mi r p=0:=fun p nB=>by
  obtain ⟨k,hk,rfl⟩:=Zu nB
  have:=dS.1 hp k hk
  rw [rk hk] at this
  by_cases e:mi r r.po[k]=0
  ·exact e
  ·rw [if_pos e] at this;exact this
 have Gx:∀ p∈r.po,p.ou∈cq r∨p.ou∈cM r:=fun p nB=>It (fun x hx=>(h.dm x hx).1) (fun x hx=>(h.tm x hx).1.1) (mY (Js p nB)).2.1
 have Ny:∀ p∈r.po,p.ip∈cF r∨p.ip∈cM r:=fun p nB=>IV (mY (Js p nB)).2.2.1
 have hne:∀ p∈r.po,p.ip≠⟨#[]⟩:=fun p nB=>h.ne ((Ny p nB).elim .inl fun q=>.inr (.inr q))
 have yx:∀ x∈r.ti,x.nm≠⟨#[]⟩:=fun x hx=>h.ne (.inr (.inr (Zt.2 ⟨x,hx,rfl⟩)))
 have hti:(cM r).length=r.ti.length:=by unfold cM;rw [Zd]
 have e1:(jV r fun v=>r.ti.any fun x=>decide ((tC r.po v 8 x.nm).length=8))=jV r fun v=>r.ti.any (LB r v):=by
  unfold jV
  congr 1
  funext i
  have hc:=Ky (po:=r.po) (v:=(i:Nat)) (T:=cM r) (iJ.tie h.ui Gx Ny) (by rw [hti];exact h.len.2.2)
  rw [Zba,ZM,ZM]
  constructor
  ·rintro ⟨x,hx,e⟩
   rw [decide_eq_true_eq,Ap hne 7 (yx x hx),ZL] at e
   obtain ⟨t,ht,hm⟩:=hc.2 ⟨x.nm,Zt.2 ⟨x,hx,rfl⟩,by omega⟩
   obtain ⟨y,hy,rfl⟩:=Zt.1 ht
   exact ⟨y,hy,eV.2 (by rw [← hti];exact hm)⟩
  ·rintro ⟨x,hx,e⟩
   obtain ⟨t,ht,hm⟩:=hc.1 ⟨x.nm,Zt.2 ⟨x,hx,rfl⟩,by rw [hti];exact eV.1 e⟩
   obtain ⟨y,hy,rfl⟩:=Zt.1 ht
   refine ⟨y,hy,?_⟩
   rw [decide_eq_true_eq,Ap hne 7 (yx y hy),ZL,hm]
 have e2:(jV r fun v=>r.ti.any fun x=>nH r.po v x.nm != !decide ((ek r.po v x.nm).getD ⟨#[]⟩=⟨#[]⟩))=jV r fun v=>r.ti.any (Ir r v):=by
  unfold jV
  congr 1
  funext i
  dsimp only
  congr 1
  funext x
  unfold Ir gV
  have:(!decide ((ek r.po (i:Nat) x.nm).getD ⟨#[]⟩=⟨#[]⟩))=(ek r.po (i:Nat) x.nm).isSome:=by
   cases e:ek r.po (i:Nat) x.nm with
   | none=>rfl
   | some o =>
    obtain ⟨p,nB,_,_,rfl⟩:=fF e
    have:=hne p nB
    simp [this]
  rw [this]
  cases nH r.po (i:Nat) x.nm <;> cases (ek r.po (i:Nat) x.nm).isSome <;> rfl
 unfold Tm zQ
 rw [e1,e2]
 cases (jV r fun v=>r.ti.any (LB r v)) <;> cases (jV r fun v=>r.ti.any (Ir r v)) <;> rfl
def zC (r:Ro):Int:=if jE (Gf r) r.po.length≠0 then jE (Gf r) r.po.length else Tm r
theorem MG {r:Ro} (h:G7 r):zC r=if jM r r.po≠0 then jM r r.po else zQ r:=by
 have e:jE (Gf r) r.po.length=jM r r.po:=D9 fun j hj _=>Qb h hj
 unfold zC
 rw [e]
 by_cases c:jM r r.po=0
 ·rw [if_neg (not_not_intro c),if_neg (not_not_intro c),Qe h c]
 ·rw [if_pos c,if_pos c]
def mor:ByteArray:=⟨#[109,111,114,101]⟩
theorem MQ {r:Ro} {s:ByteArray} (hs:s∈cq r∨s∈cM r):dX r s=if 0≤bE (cq r) s then bE (cq r) s else (r.de.length:Nat)+bE (cM r) s:=by
 unfold dX
 by_cases c:s∈cq r
 ·rw [if_pos (eG c),if_pos (eG c)]
 ·have h2:=cm.2 c
  rw [if_neg (by omega),if_pos (eG (hs.resolve_left c)),if_neg (by omega)]

section
variable {r:Ro} {a b:ByteArray}
theorem K4 {r:Ro} {s:ByteArray} (h:s∈cF r∨s∈cq r∨s∈cM r):s∈ef r:=by
 unfold ef
 rw [Zx,Zx]
 rcases h with h | h | h
 ·exact .inl (.inl h)
 ·exact .inl (.inr h)
 ·exact .inr h
end
end Go.Proofs.A1
namespace Go.Proofs.A1
open Go Go.SL
theorem r6 {r:Ro} {l:List Tk} (h:(hP r l).2.2=0):∃ q,iO r l (qy r l) l.length=some q∧hP r l=(r.wp q,0,0)∧¬ 0≤lU r l:=by
 unfold hP at h ⊢
 by_cases c:0≤lU r l
 ·rw [if_pos c] at h;cases h
 ·rw [if_neg c] at h ⊢
  show ∃ q,iO r l (wL (cq r) (jF r l l.length)) l.length=some q∧_
  cases e:iO r l (wL (cq r) (jF r l l.length)) l.length with
  | none=>rw [e] at h;cases h
  | some q=>exact ⟨q,rfl,rfl,c⟩
theorem Bl {r:Ro} {l:List Tk}:(hP r l).2.2=0∨(hP r l).2.2=31∧0≤lU r l∧(hP r l).1=Ro.nil∧(hP r l).2.1=lU r l∨(hP r l).2.2=18∧¬ 0≤lU r l∧(hP r l).1=Ro.nil∧(hP r l).2.1=(zx r l (qy r l):Nat)∧iO r l (qy r l) l.length=none:=by
 unfold hP
 by_cases c:0≤lU r l
 ·rw [if_pos c];exact .inr (.inl ⟨rfl,c,rfl,rfl⟩)
 ·rw [if_neg c]
  show _∨_∨_∧_∧_∧_∧iO r l (wL (cq r) (jF r l l.length)) l.length=none
  cases e:iO r l (wL (cq r) (jF r l l.length)) l.length with
  | none=>exact .inr (.inr ⟨rfl,c,rfl,rfl,rfl⟩)
  | some q=>exact .inl rfl
def yV (r:Ro) (t:Tk):List ByteArray:=(List.range r.lv.toNat).map fun k=>if t.at k=⟨#[]⟩ then jG r (k:Nat) t.de else if t.at k=dash then ⟨#[]⟩ else t.at k
theorem Of {r:Ro} {v:Int} {o:ByteArray} (h:jG r v o≠⟨#[]⟩):jG r v o∈cF r:=by
 unfold jG at h ⊢
 split at h
 ·rename_i c
  rw [if_pos c]
  rw [ZM] at c
  obtain ⟨x,hx,e⟩:=c
  rw [decide_eq_true_eq] at e
  exact Zt.2 ⟨x,hx,e⟩
 ·exact absurd rfl h
theorem KQ {r:Ro} (h:rR r) {q:List Po} (hq:iJ r q) (v:Int) (o:ByteArray):jG (r.wp q) v o=rJ q v (cF r) o:=sO (h.wp hq).ui hq.wp v o
theorem od {r:Ro} (eQ:fX r=0) {l:List Tk} (hl:AV r l) {q:List Po} (h0:iO r l (qy r l) l.length=some q) :
  iJ r q∧(∀ t∈l,bo (r.wp q) t.de=yV r t)∧∀ y∈cq r,y ∉ l.map Tk.de→bo (r.wp q) y=bo r y:=by
 have h:=CM eQ
 have hp:=prt (sL eQ).2.1
 obtain ⟨k1,k2,k3⟩:=P4 h hl h0
 refine ⟨k1,fun t ht=>?_,fun y hy hn=>?_⟩
 ·unfold bo yV
  show (List.range r.lv.toNat).map _=_
  refine Zbb fun k hk=>?_
  have hk:=ZQ.1 hk
  have z7:=hl.lv t ht
  have Xy:k<t.so.length:=by omega
  rw [KQ h k1]
  by_cases hd:nK r t k=true
  ·rw [k3 t ht k Xy hd,if_neg (lu.1 hd).1]
  ·have qM:¬ SS r l (k:Nat) t.de:=by
    rintro ⟨t',Gt,i,hi,wz,e1,e2⟩
    obtain ⟨x,hx,rfl⟩:=Zu ht
    obtain ⟨x',QF,rfl⟩:=Zu Gt
    have e:x=x':=Classical.byContradiction fun c=>tB hl.nd hx QF c e2
    subst e
    have:k=i:=by omega
    subst this
    exact hd wz
   rw [k2 _ _ (hl.de t ht) qM,← sO h.ui h.val]
   by_cases e1:t.at k=⟨#[]⟩
   ·rw [if_pos e1]
   ·have e2:t.at k=jG r (k:Nat) t.de:=Classical.byContradiction fun c=>hd (lu.2 ⟨e1,c⟩)
    have e3:t.at k≠dash:=hp.nd (by rw [e2];exact Of (by rw [← e2];exact e1))
    rw [if_neg e1,if_neg e3,e2]
 ·unfold bo
  show (List.range r.lv.toNat).map _=_
  refine Zbb fun k _=>?_
  rw [KQ h k1,k2 _ _ hy fun ⟨t,ht,_,_,_,_,e⟩=>hn (Zt.2 ⟨t,ht,e.symm⟩),← sO h.ui h.val]
theorem uq {r:Ro} {y:ByteArray} {k:Nat} (hk:(k:Int)<r.lv):(bo r y)[k]? = some (jG r (k:Nat) y):=by
 unfold bo
 rw [ZF,List.getElem?_range (by omega)];rfl
theorem AV.one {r:Ro} {l:List Tk} (h:AV r l) {t:Tk} (ht:t∈l):AV r [t]:=
 ⟨fun x hx=>by rw [ZB.1 hx];exact h.de t ht,by simp,fun x hx=>by rw [ZB.1 hx];exact h.lv t ht,fun x hx=>by rw [ZB.1 hx];exact h.so t ht,by simp⟩
def EJ (r:Ro) (l:List Tk):Nat→Ro
 | 0=>r
 | i+1=>(hP (EJ r l i) [l.getD i Tk.zero]).1
structure l5 (r:Ro) (l:List Tk) (i:Nat) (q:List Po):Prop where
 eq:EJ r l i=r.wp q
 val:iJ r q
 don:∀ j (hj:j<l.length),j<i→bo (r.wp q) l[j].de=yV r l[j]
 Wz:∀ y∈cq r,(∀ j (hj:j<l.length),j<i→l[j].de≠y)→bo (r.wp q) y=bo r y
theorem l5.start (r:Ro) (h:rR r) (l:List Tk):l5 r l 0 r.po:=⟨rfl,h.val,fun _ _ h=>absurd h (ZP _),fun _ _ _=>rfl⟩
theorem l5.next {r:Ro} (eQ:fX r=0) {l:List Tk} (hl:AV r l) {i:Nat} (hi:i<l.length) {q:List Po} (h:l5 r l i q) (h0:(hP (r.wp q) [l[i]]).2.2=0):∃ q',l5 r l (i+1) q':=by
 have hm:=Zj hi
 obtain ⟨q',e1,e2,_⟩:=r6 h0
 obtain ⟨k1,k2,k3⟩:=od (vV eQ h.val) ((hl.one hm).wp q) e1
 have QV:∀ y,bo ((r.wp q).wp q') y=bo (r.wp q') y:=fun _=>rfl
 have hold:bo (r.wp q) l[i].de=bo r l[i].de:=h.Wz _ (hl.de _ hm) fun j hj aM=>tB hl.nd hj hi (by omega)
 refine ⟨q',⟨?_,⟨k1.qK,k1.II,k1.out,k1.vo,k1.M0,k1.Co,k1.use⟩,fun j hj aM=>?_,fun y hy hne=>?_⟩⟩
 ·rw [EJ,h.eq,Zk,Zc hi,Zab,e2];rfl
 ·by_cases c:j=i
  ·subst c
   rw [← QV,k2 _ (ZB.2 rfl)]
   unfold yV
   show (List.range r.lv.toNat).map _=_
   refine Zbb fun k hk=>?_
   have hk:=ZQ.1 hk
   have h1:=uq (r:=r.wp q) (y:=l[j].de) (k:=k) (show (k:Int)<r.lv by omega)
   rw [hold,uq (by omega)] at h1
   have h2:jG r (k:Nat) l[j].de=jG (r.wp q) (k:Nat) l[j].de:=Option.some.inj h1
   rw [h2]
  ·rw [← QV,k3 _ (hl.de _ (Zj hj)) (by
    rw [Z8,Zf,ZB]
    exact tB hl.nd hj hi c),h.don j hj (by omega)]
 ·rw [← QV,k3 y hy (by
   rw [Z8,Zf,ZB]
   exact fun e=>hne i hi (by omega) e.symm),h.Wz y hy fun j hj aM=>hne j hj (by omega)]
theorem l5.same {r:Ro} (eQ:fX r=0) {l:List Tk} (hl:AV r l) {q q':List Po} (h:l5 r l l.length q) (h0:iO r l (qy r l) l.length=some q') {y:ByteArray} (hy:y∈cq r):bo (r.wp q) y=bo (r.wp q') y:=by
 obtain ⟨_,k2,k3⟩:=od eQ hl h0
 by_cases c:y∈l.map Tk.de
 ·obtain ⟨t,ht,rfl⟩:=Zt.1 c
  obtain ⟨j,hj,rfl⟩:=Zu ht
  rw [k2 _ ht,h.don j hj hj]
 ·rw [k3 y hy c,h.Wz y hy fun j hj _ e=>c (Zt.2 ⟨_,Zj hj,e⟩)]
theorem Oa {r:Ro}:(cM r).length=r.ti.length:=by unfold cM;rw [Zd]
theorem Ho {r:Ro} (eQ:fX r=0) {v:Int} {y:ByteArray} (hy:y∈cq r):(jG r v y=⟨#[]⟩→kH r v y=[]) ∧
  (jG r v y≠⟨#[]⟩→2≤(kH r v y).length∧(kH r v y)[0]? = some (jG r v y)∧(kH r v y)[(kH r v y).length-1]? = some y∧∀ k,1≤k→k+1<(kH r v y).length→∃ t∈cM r,gV r.po v t=true∧(kH r v y)[k]? = some t):=by
 have h:=CM eQ
 have hp:=prt (sL eQ).2.1
 have hys:y ∉ cF r:=fun e=>h.ui.sd _ e hy
 have hc7:eI r.po v (r.ti.length+1) y=eI r.po v 7 y:=by
  have:=mJ (T:=cM r) (iJ.tie h.ui h.val.out h.val.vo) (h.val.Co v) y (m:=7) (by have:=h.ui.Su;omega)
  rw [Oa] at this;exact this.symm
 cases hi:ek r.po v y with
 | none =>
  have e1:jG r v y=⟨#[]⟩:=by rw [sO h.ui h.val];exact yM hys hi
  have e2:kH r v y=[]:=by unfold kH;rw [rL hi,if_pos rfl]
  exact ⟨fun _=>e2,fun c=>absurd e1 c⟩
 | some x =>
  have hb:(ek r.po v y).isSome=true:=by rw [hi];rfl
  have e1:jG r v y=gS r.po v 7 y:=by rw [sO h.ui h.val];exact sN h.ui h.val hb
  have rz:=FG h.ui h.val _ y (Zz _) hb
  have hne:jG r v y≠⟨#[]⟩:=by rw [e1];exact hp.ne (.inl rz)
  have Rs:eI r.po v 7 y≠[]:=by rw [lz hi];simp
  have e2:kH r v y=(eI r.po v 7 y).reverse++[y]:=by unfold kH;rw [hc7,if_neg Rs]
  have Nu:0<(eI r.po v 7 y).length:=List.length_pos_iff.2 Rs
  refine ⟨fun c=>absurd c hne,fun _=>?_⟩
  rw [e2]
  have hlen:((eI r.po v 7 y).reverse++[y]).length=(eI r.po v 7 y).length+1:=by simp
  refine ⟨by omega,?_,?_,fun k Rh eF=>?_⟩
  ·rw [ZD (by simpa using Nu),List.getElem?_reverse Nu,e1]
   unfold gS
   rw [Nat.sub_zero,← List.getLast?_eq_getElem?]
   cases e:(eI r.po v 7 y).getLast? with
   | none=>rw [List.getLast?_eq_none_iff] at e;exact absurd e Rs
   | some z=>rfl
  ·rw [hlen,Zas,ZK (by simp),List.length_reverse,Nat.sub_self];rfl
  ·rw [hlen] at eF
   rw [ZD (by simp;omega),List.getElem?_reverse (by omega)]
   generalize hj:(eI r.po v 7 y).length-1-k=j
   have AN:j+1<(eI r.po v 7 y).length:=by omega
   have Lz:j<7:=by have:=iC r.po v 7 y;omega
   have hj7:j+1<7:=by have:=iC r.po v 7 y;omega
   have a1:=ku (po:=r.po) (v:=v) (o:=y) Lz
   have a2:=ku (po:=r.po) (v:=v) (o:=y) hj7
   rw [Zc (by omega)] at a1 a2
   generalize (eI r.po v 7 y)[j]'(by omega)=t at a1
   generalize (eI r.po v 7 y)[j+1]'(by omega)=u at a2
   have b2:ek r.po v t=some u:=by rw [← vn a1.symm];exact a2.symm
   have b1:(ek r.po v t).isSome=true:=by rw [b2];rfl
   have b3:∃ o,ek r.po v o=some t:=by
    cases hq:mj r.po v j y with
    | none =>
     have:=gr (po:=r.po) (v:=v) (o:=y) (a:=j) (b:=j+1) (by omega) (by rw [← a1];rfl)
     rw [hq] at this;cases this
    | some z=>exact ⟨z,by rw [← vn hq];exact a1.symm⟩
   obtain ⟨o,ho⟩:=b3
   refine ⟨t,iJ.tie h.ui h.val.out h.val.vo o t ho b1,b1,?_⟩
   rw [Zc (by omega)]
   have a3:=ku (po:=r.po) (v:=v) (o:=y) Lz
   rw [Zc (by omega)] at a3
   rw [a3];exact a1.symm
theorem tp {r:Ro} {o:ByteArray}:jd r o=false↔o=⟨#[]⟩∨o=dash∨o∈cF r:=by
 unfold jd dash
 rw [Bool.and_eq_false_iff,Bool.and_eq_false_iff,decide_eq_false_iff_not,decide_eq_false_iff_not,decide_eq_false_iff_not,cm]
 simp only [ne_eq,Zo,or_assoc]
 rw [Classical.not_not]
theorem qR {r:Ro} {l:List Tk}:tH r l=0↔l≠[]∧AV r l:=by
 have jv:∀ k (hk:k<l.length),wJ r l k=0↔(l[k].de∈cq r∧(∀ j (hj:j<k),(l[j]'(by omega)).de≠l[k].de)∧(l[k].so.length:Int)=r.lv∧∀ s∈l[k].so,s=⟨#[]⟩∨s=dash∨s∈cF r):=by
  intro k hk
  rw [pU hk,cy]
  have e1:ph r l[k].de=0↔l[k].de∈cq r:=by
   unfold ph
   rw [bO (by decide),decide_eq_false_iff_not,cm,Classical.not_not]
  have e2:ch ((l.take k).any fun y=>decide (y.de=l[k].de)) 9=0↔∀ j (hj:j<k),(l[j]'(by omega)).de≠l[k].de:=by
   rw [bO (by decide),Z9]
   constructor
   ·intro h j hj e
    have hjt:j<(l.take k).length:=by rw [Zr];omega
    have:=h _ (Zj hjt)
    rw [ZaL] at this
    exact this (decide_eq_true e)
   ·intro h x hx e
    obtain ⟨j,hj,rfl⟩:=Zu hx
    rw [Zr] at hj
    rw [ZaL] at e
    exact h j (by omega) (of_decide_eq_true e)
  have e3:ch (decide ((l[k].so.length:Int)≠r.lv)) 2=0↔(l[k].so.length:Int)=r.lv:=by
   rw [bO (by decide),decide_eq_false_iff_not,ne_eq,Zo]
  have e4:ch (l[k].so.any (jd r)) 10=0↔∀ s∈l[k].so,s=⟨#[]⟩∨s=dash∨s∈cF r:=by
   rw [bO (by decide),Z9]
   exact ⟨fun h s hs=>tp.1 (by have:=h s hs;rwa [Zau] at this),fun h s hs=>by rw [Zau];exact tp.2 (h s hs)⟩
  constructor
  ·intro h
   exact ⟨e1.1 (h _ (by simp)),e2.1 (h _ (by simp)),e3.1 (h _ (by simp)),e4.1 (h _ (by simp))⟩
  ·rintro ⟨a,b,c,d⟩ e he
   simp only [ZS,Zp,or_false] at he
   rcases he with rfl | rfl | rfl | rfl
   ·exact e1.2 a
   ·exact e2.2 b
   ·exact e3.2 c
   ·exact e4.2 d
 have hA:Db l=0↔l≠[]∧l.length≤8:=by
  unfold Db
  rw [cy]
  constructor
  ·intro h
   have a:=(bO (by decide)).1 (h (ch (decide ((l.length:Int)=0)) 12) (by simp))
   have b:=(bO (by decide)).1 (h (ch (decide ((8:Int)<(l.length:Nat))) 5) (by simp))
   rw [decide_eq_false_iff_not] at a b
   exact ⟨fun e=>a (by rw [e];rfl),by omega⟩
  ·rintro ⟨a,b⟩ e he
   simp only [ZS,Zp,or_false] at he
   rcases he with rfl | rfl
   ·refine (bO (by decide)).2 (decide_eq_false fun e=>a (Z0 (by omega)))
   ·exact (bO (by decide)).2 (decide_eq_false (by omega))
 unfold tH
 constructor
 ·intro h
  by_cases c:Db l=0
  ·rw [if_neg (not_not_intro c)] at h
   have h:=dS.1 h
   obtain ⟨c1,c2⟩:=hA.1 c
   refine ⟨c1,fun t ht=>?_,?_,fun t ht=>?_,fun t ht=>?_,c2⟩
   ·obtain ⟨k,hk,rfl⟩:=Zu ht
    exact ((jv k hk).1 (h k hk)).1
   ·show List.Pairwise _ _
    rw [Z4]
    intro i j hi hj wY
    rw [Zd] at hi hj
    rw [Z1,Z1]
    exact ((jv j hj).1 (h j hj)).2.1 i wY
   ·obtain ⟨k,hk,rfl⟩:=Zu ht
    exact ((jv k hk).1 (h k hk)).2.2.1
   ·obtain ⟨k,hk,rfl⟩:=Zu ht
    exact ((jv k hk).1 (h k hk)).2.2.2
  ·rw [if_pos c] at h;exact absurd h c
 ·rintro ⟨c1,h⟩
  rw [if_neg (not_not_intro (hA.2 ⟨c1,h.D8⟩))]
  refine dS.2 fun k hk=>(jv k hk).2 ⟨h.de _ (Zj hk),fun j hj=>tB h.nd (by omega) hk (by omega),h.lv _ (Zj hk),h.so _ (Zj hk)⟩
def wH (r:Ro) (t:Tk):Tk:=⟨t.de,(List.range r.lv.toNat).map fun k=>if t.at k=⟨#[]⟩ then ⟨#[]⟩ else if jG r (k:Nat) t.de=⟨#[]⟩ then dash else jG r (k:Nat) t.de⟩
def Ro.H8 (r:Ro) (d:ByteArray) (q:Bool):Ro:=⟨r.lv,r.ma,r.sr,r.de.modify (bE (cq r) d).toNat fun x=>⟨x.nm,x.mx,q⟩,r.ti,r.po⟩
structure Od where
 fr:Int
 tk:List Tk
def Od.zero:Od:=⟨0,[]⟩
def OD (r:Ro) (l:List Od):Nat→Ro
 | 0=>r
 | i+1=>(hP (OD r l i) (l.getD i Od.zero).tk).1
def BF (r:Ro) (l:List Od) (i:Nat):Int:=(hP (OD r l i) (l.getD i Od.zero).tk).2.2
def Ol (f:Nat→Int) (n:Nat):Nat:=((List.range n).find? fun i=>decide (f i≠0)).getD 0
def iN (r:Ro) (l:List Od):Ro×Int×Int:=if jE (BF r l) l.length=0 then (OD r l l.length,0,0) else (Ro.nil,(Ol (BF r l) l.length:Nat),jE (BF r l) l.length)
theorem Oj {f:Nat→Int} {n i:Nat} (h:∀ j,j<i→f j=0) (hi:i<n) (hn:f i≠0):Ol f n=i:=by
 unfold Ol
 have:(List.range n).find? (fun i=>decide (f i≠0))=some i:=by
  rw [ZaB]
  refine ⟨by simpa using hn,i,by simpa using hi,by simp,fun j hj=>?_⟩
  simp [h j hj]
 rw [this];rfl
def Lp (r:Ro) (l:List Od) (k:Nat):Int:=(l[k]?.map fun x=>aX [gp x.fr 0 10000000,ch (decide (x.fr≤if k=0 then -1 else (l.getD (k-1) Od.zero).fr)) 11,tH r x.tk]).getD 0
def Vt (r:Ro) (l:List Od):Int:=if (16:Int)<(l.length:Nat) then 5 else jE (Lp r l) l.length
structure Oq (r:Ro) (l:List Od):Prop where
 D8:l.length≤16
 fr:∀ k (h:k<l.length),0≤l[k].fr∧l[k].fr≤10000000
 inc:∀ i j (hi:i<l.length) (hj:j<l.length),i<j→l[i].fr<l[j].fr
 tk:∀ k (h:k<l.length),AV r l[k].tk
theorem ods {r:Ro} {l:List Od} (h:Vt r l=0):Oq r l:=by
 unfold Vt at h
 by_cases c:(16:Int)<(l.length:Nat)
 ·rw [if_pos c] at h;cases h
 ·rw [if_neg c] at h
  have h:=dS.1 h
  have hk:∀ k (hk:k<l.length),(0≤l[k].fr∧l[k].fr≤10000000)∧(if k=0 then -1 else (l.getD (k-1) Od.zero).fr)<l[k].fr∧tH r l[k].tk=0:=fun k hk=>by
   have:=h k hk
   unfold Lp at this
   rw [Zc hk,Zbl,Zab,cy] at this
   have a:=gn.1 (this _ Zq)
   have b:=(bO (by decide)).1 (this (ch (decide (l[k].fr≤if k=0 then -1 else (l.getD (k-1) Od.zero).fr)) 11) (by simp))
   rw [decide_eq_false_iff_not] at b
   exact ⟨a,by omega,this _ (by simp)⟩
  have fU:∀ k (Rh:k+1<l.length),l[k].fr<l[k+1].fr:=fun k Rh=>by
   have:=(hk (k+1) Rh).2.1
   rwa [if_neg (by omega),Zas,Zk,Zc (by omega),Zab] at this
  refine ⟨by omega,fun k h=>(hk k h).1,fun i j hi hj wY=>?_,fun k h=>(qR.1 (hk k h).2.2).2⟩
  induction j with
  | zero=>omega
  | succ j ih =>
   have:=fU j hj
   by_cases c:i=j
   ·subst c;exact this
   ·have:=ih (by omega) (by omega);omega
structure Ld (r:Ro) (l:List Od) (i:Nat) (q:List Po):Prop where
 eq:OD r l i=r.wp q
 val:iJ r q
theorem Ld.next {r:Ro} (eQ:fX r=0) {l:List Od} (hl:Oq r l) {i:Nat} (hi:i<l.length) {q:List Po} (h:Ld r l i q) (h0:BF r l i=0):∃ q',Ld r l (i+1) q'∧(∀ t∈l[i].tk,bo (r.wp q') t.de=yV (r.wp q) t)∧∀ y∈cq r,y ∉ l[i].tk.map Tk.de→bo (r.wp q') y=bo (r.wp q) y:=by
 unfold BF at h0
 rw [h.eq,Zk,Zc hi,Zab] at h0
 obtain ⟨q',e1,e2,_⟩:=r6 h0
 obtain ⟨k1,k2,k3⟩:=od (vV eQ h.val) ((hl.tk i hi).wp q) e1
 refine ⟨q',⟨?_,⟨k1.qK,k1.II,k1.out,k1.vo,k1.M0,k1.Co,k1.use⟩⟩,k2,k3⟩
 rw [OD,h.eq,Zk,Zc hi,Zab,e2];rfl
theorem HV {r:Ro} (eQ:fX r=0) {l:List Od} (hl:Oq r l):∀ i,i≤l.length→(∀ j,j<i→BF r l j=0)→∃ q,Ld r l i q
 | 0,_,_=>⟨r.po,rfl,(CM eQ).val⟩
 | i + 1, hi, h => by
  obtain ⟨q,hq⟩:=HV eQ hl i (by omega) fun j hj=>h j (by omega)
  obtain ⟨q',wx,_⟩:=hq.next eQ hl hi (h i (by omega))
  exact ⟨q',wx⟩
def ir (l:List Od) (f:Int):Nat:=l.findIdx fun x=>decide (f<x.fr)
theorem PS (l:List Od) (f:Int):ir l f≤l.length:=List.findIdx_le_length
def RW (b:Nat) (r:Ro) (s d t p:Value) (l:List Po):List bd:=[RB b r s d t p,J1 r s,J2 r d,J3 r t,PB p l]
theorem Tn {l:List Po} {i:Nat} (h:i<l.length) (cur:List Value):ed (fO l++cur) (i*3) 3=[.int .i64 l[i].lv,.string l[i].ou,.string l[i].ip]:=rH (f:=Po.cells) (fun _=>rfl) h cur
theorem RR.wp {w:World} {r:Ro} {s d t p':Value} {po:List Po} (h1:Rd w s 2 (uL r.sr)) (h2:Rd w d 3 (uy r.de)) (h3:Rd w t 3 (tX r.ti)) (h4:Rd w p' 3 (td po)):RR w (r.wp po) s d t p':=⟨h1,h2,h3,h4⟩
set_option maxHeartbeats 2000000 in
theorem Me {r:Ro} {s d t p:Value} {b:Nat} {w:World} {fp:List Nat} (lj:fp.Nodup) (hs:ct (hp w) (RW b r s d t p r.po) fp) (cT:lD r) (Xh:r.po.length≤1000) :
  bu Tryz.prog 257 [.pointer (some ⟨b,0,none⟩)] w fp (fun x:Value×(Po→Bool)=>Sw r.po (cq r) x.2∧∀ q∈r.po,x.2 q=true→q.ou∈cq r∨∃ q'∈r.po,x.2 q'=true∧q'.lv=q.lv∧q'.ip=q.ou) (fun _=>.tuple #[]) (fun x=>RW b r s d t x.1 (r.po.filter x.2)):=by
 unfold RW RB PB at *
 refine eb Tryz.func257 rfl rfl lj hs ?_
 refine Jr<|Ja rfl<|Jn<|J0 ?_
 refine aW (ι:=Value×(Po→Bool)×Bool) (fun x=>Sw r.po (cq r) x.2.1∧(x.2.2=false→∀ q∈r.po,x.2.1 q=true→q.ou∈cq r∨∃ q'∈r.po,x.2.1 q'=true∧q'.lv=q.lv∧q'.ip=q.ou)) (fun x=>[(2,.bool x.2.2),(0,.pointer (some ⟨b,0,none⟩))])
  (fun x=>RW b r s d t x.1 (r.po.filter x.2.1)) (fun x=>2*(r.po.filter x.2.1).length+if x.2.2 then 1 else 0) ?_ ?_
 ·apply aI (p,(fun _=>true),true) ⟨Sw.start _ _,fun h=>by cases h⟩
  case hs1=>exact cg
  case ht=>
   show bD _ [JP b r s d t p,J1 r s,J2 r d,J3 r t,row 188 3 p (r.po.filter fun _=>true).length (fO (r.po.filter fun _=>true))] _
   rw [ZaP.2 fun _ _=>rfl]
   exact .cons .here (.cons .here (.cons .here (.cons .here (.cons .here .nil))))
 rintro ⟨p',f,fl⟩ ⟨SK,sy⟩
 dsimp only at SK sy ⊢
 unfold RW RB PB
 cases fl with
 | false =>
  (refine Jq<|Jr<|Jv rfl<|Jn<|bK (.of rfl)<|Jp<|Jl<|Jo ?_)
  first | with_reducible apply aO | with_reducible apply aP
  case he=>exact pO rfl
  case hR=>
   intro w' aA
   exact aG (p',f) ⟨SK,sy rfl⟩ (by exact .cons .here (.cons .here (.cons .here (.cons .here (.cons .here .nil))))) aA rfl
 | true =>
  (refine Jq<|Jr<|Jv rfl<|Jn<|cP (.of rfl)<|Jk<|J0<|Jr<|Ja rfl<|Ji<|Jv rfl<|ab (dQ (.of rfl)) rfl<|bS rfl rfl ae<|JL rfl .here rfl ?_)
  have afd:(r.po.filter f).length≤r.po.length:=Z6 _ _
  refine JN bN rfl (fun w1 aR=>GV (cE aR dT rfl) (by omega)) ?_
  intro cv _
  dsimp only [id_eq,Zb,Za]
  refine aT (v:=cv) (by exact .here) fun ca cc e=>?_
  subst e
  refine JI rfl<|Jv rfl<|Jn<|J0 ?_
  have qk:∀ k (h:k<(r.po.filter f).length),(fO (r.po.filter f)).length=(r.po.filter f).length*3:=fun _ _=>jz _
  refine aW (ι:=Nat×Value×(Po→Bool)×Bool) (fun x=>x.1≤(r.po.filter f).length∧Sw r.po (cq r) x.2.2.1∧(x.2.2.2=false→x.2.2.1=f∧∀ i (hi:i<(r.po.filter f).length),i<x.1→(r.po.filter f)[i].ou∈cq r∨nH (r.po.filter f) (r.po.filter f)[i].lv (r.po.filter f)[i].ou=true)∧(x.2.2.2=true→(r.po.filter x.2.2.1).length<(r.po.filter f).length))
   (fun x=>[(12,.int .i64 (x.1:Nat)),(11,.int .i64 ((r.po.filter f).length:Nat)),(10,.slice ca (r.po.filter f).length cc),(2,.bool x.2.2.2),(0,.pointer (some ⟨b,0,none⟩))])
   (fun x=>[JP b r s d t (x.2.1),J1 r s,J2 r d,J3 r t,row 188 3 x.2.1 (r.po.filter x.2.2.1).length (fO (r.po.filter x.2.2.1)),row 188 3 (.slice ca (r.po.filter f).length cc) (r.po.filter f).length (fO (r.po.filter f))]) (fun x=>(r.po.filter f).length-x.1) ?_ ?_
  ·apply aI (0,p',f,false) ⟨Zi _,SK,fun _=>⟨rfl,fun i _ h=>absurd h (ZP i)⟩,fun h=>by cases h⟩
   case hs1=>exact cg
   case ht=>exact l6
  rintro ⟨k,p2,f2,fl⟩ ⟨hk,NJ,Rp,DU⟩
  dsimp only at hk NJ Rp DU ⊢
  by_cases aM:k<(r.po.filter f).length
  ·refine Jr<|JA rfl<|Jn<|Jq<|Jd rfl fun az=>Jk<|Jq<|J0<|Jr ?_
   refine cU (E:=188) (sz:=3) (v:=.slice ca (r.po.filter f).length cc) eX (by omega) fun g gL cur e oJ Gy DM B5=>?_
   cases e
   have c1:=Tn aM cur
   (refine ab (ar (.of rfl) (.of rfl) rfl (by omega) az bb) rfl ?_;refine ab (bT (.of rfl) .here c1 rfl) rfl ?_;refine Jz rfl rfl fun _ _=>aq (.of rfl) (.of rfl) .here rfl rfl (fo rfl rfl rfl) (bG rfl) ak ?_;refine Jn<|Jq ?_)
   generalize AL:(r.po.filter f)[k].lv=pv
   generalize qL:(r.po.filter f)[k].ou=po
   generalize OU:(r.po.filter f)[k].ip=pi
   have SH:∀ w',RR w' (r.wp (r.po.filter f2)) s d t p2→aj Tryz.prog 155 [.agg #[.int .i64 r.lv,.int .i64 r.ma,s,d,t,p2],.string po] w' (.int .i64 (bE (cq r) po)):=fun w' h=>fL (r:=r.wp (r.po.filter f2)) po h
   have hu0:∀ w',RR w' (r.wp (r.po.filter f2)) s d t p2→aj Tryz.prog 239 [.agg #[.int .i64 r.lv,.int .i64 r.ma,s,d,t,p2],.int .i64 pv,.string po] w' (.bool (nH (r.po.filter f2) pv po)):=fun w' h=>Hg (r:=r.wp (r.po.filter f2)) pv po h
   with_reducible refine dE 18 (by kernel_rfl) ?_
   (refine ju rfl rfl<|aF (dQ (.of rfl)) rfl<|aF (cR bL) rfl<|nF rfl rfl ae<|aF (gT .here) rfl<|fI bj rfl (fun w' aA=>(SH w' (RR.wp (cK aA cW rfl) (cL aA dT rfl) (cJ aA eX rfl) (cE aA pz rfl))))<|aF (lg (.of rfl) (.of rfl)) rfl<|ju rfl rfl<|bn rfl rfl inferInstance (fun hg bA=>(aN (.of rfl))) rfl<|bn rfl rfl inferInstance (fun hg bA=>(dQ (.bI hg rfl))) rfl<|bn rfl rfl inferInstance (fun hg bA=>(bT (.bI hg rfl) bL ak (by rfl))) rfl<|bn rfl rfl inferInstance (fun hg bA=>(au (.of rfl) ae)) rfl<|bn rfl rfl inferInstance (fun hg bA=>(ag (.bI hg rfl) (At.lit .here rfl))) rfl<|bn rfl rfl inferInstance (fun hg bA=>(au (.of rfl) ae)) rfl<|bn rfl rfl inferInstance (fun hg bA=>(ag (.bI hg rfl) (At.lit .here rfl))) rfl<|qF rfl rfl (fun hg=>(aZ (.of rfl) (.cons (.bI hg rfl) (.cons (.bI hg rfl) (.cons (.bI hg rfl) .nil))) inferInstance ez)) rfl (fun hg w' aA=>(hu0 w' (RR.wp (cK aA cW rfl) (cL aA dT rfl) (cJ aA eX rfl) (cE aA pz rfl))))<|bn rfl rfl inferInstance (fun hg bA=>(dU (.bI hg rfl))) rfl<|aF (cD (.of rfl) rfl) rfl ?_)
   with_reducible refine dI ?_
   (refine Jn<|pt rfl (fun az=>?_) fun az=>?_;refine Jr<|Jv rfl<|bS rfl rfl ae<|JL rfl .here rfl<|bS rfl rfl ae<|JL rfl .here rfl ?_;rotate_left;refine Jw<|Jj<|Jt<|Jg<|JB rfl (by omega)<|Jv rfl<|Jn ?_;rotate_right)
   ·obtain ⟨Rn,WQ⟩:bE (cq r) po<0∧nH (r.po.filter f2) pv po=false:=by simpa using az
    with_reducible apply fP (As:=[JP b r s d t p2,row 188 3 p2 (r.po.filter f2).length (fO (r.po.filter f2))])
    case hr=>exact eM
    case hd=>rfl
    case ht=>exact .cons bL (.cons eX .nil)
    case hc=>
     intro w1 AT aR vA hs1 CQ kQ
     exact xC (r:=r) (s:=s) (d:=d) (t:=t) (p:=p2) (b:=b) (l:=r.po.filter f2) pv po vA hs1 (by have:=Z6 f2 r.po;omega)
    intro p3 _
    dsimp only [id_eq,Zb,Za]
    unfold RB PB
    rw [tx]
    refine Jn<|Jg<|Ja rfl<|Jx<|Jj<|Jt<|Jg<|JB rfl (by omega)<|Jv rfl<|Jn ?_
    refine cN (E:=188) (sz:=3) (g:=g) cW oJ Gy DM B5 ?_
    apply aK (k+1,p3,(fun x=>f2 x&&!yn pv po x),true) ⟨by show k+1≤_;omega,NJ.step (cm.1 Rn) (fun q hq hf e=>by
     have:=Ew.2 ⟨q,Zv.2 ⟨hq,hf⟩,e⟩
     rw [WQ] at this;cases this),(fun h=>by cases h),fun _=>by
      show (r.po.filter fun x=>f2 x&&!yn pv po x).length<_
      rw [← tx]
      cases fl with
      | true=>exact Nat.lt_of_le_of_lt (Z6 _ _) (DU rfl)
      | false =>
       obtain ⟨rfl,_⟩:=Rp rfl
       refine List.length_filter_lt_length_iff_exists.2 ⟨_,Zj aM,?_⟩
       unfold yn
       rw [AL,qL];simp⟩ (by show (r.po.filter f).length-(k+1)<(r.po.filter f).length-k;omega)
    case hs1=>exact cg
    case ht=>exact l6
   ·have SI:¬ (decide (bE (cq r) po<0)&&!nH (r.po.filter f2) pv po)=true:=by
     simp only [Zm,decide_eq_true_eq,Zbp,not_and,Bool.not_eq_false] at az ⊢
     exact fun c=>az.resolve_left (fun q=>q c)
    refine cN (E:=188) (sz:=3) (g:=g) (by exact Take.there .here) oJ Gy DM B5 ?_
    apply aK (k+1,p2,f2,fl) ⟨by show k+1≤_;omega,NJ,(fun h=>⟨(Rp h).1,fun i hi VO=>by
     by_cases e:i=k
     ·subst e
      rw [AL,qL]
      obtain ⟨e1,_⟩:=Rp h
      rw [e1] at SI
      by_cases c:bE (cq r) po<0
      ·right
       cases c2:nH (r.po.filter f) pv po with
       | true=>rfl
       | false=>exact absurd (show (decide (bE (cq r) po<0)&&!nH (r.po.filter f) pv po)=true by rw [c2,decide_eq_true c];rfl) SI
      ·exact .inl (Classical.byContradiction fun q=>c (cm.2 q))
     ·exact (Rp h).2 i hi (show i<k by have:i<k+1:=VO;omega)⟩),DU⟩ (by show (r.po.filter f).length-(k+1)<(r.po.filter f).length-k;omega)
    case hs1=>exact cg
    case ht=>exact .cons bL (.cons bL (.cons bL (.cons bL (.cons bL (.cons .here .nil)))))
  ·have e:k=(r.po.filter f).length:=by omega
   subst e
   refine Jr<|JA rfl<|Jn<|Jq<|Jc rfl fun az=>Jp<|Jl<|Jo<|Jj<|Jt ?_
   apply aK (p2,f2,fl) ⟨NJ,fun h q hq hf=>by
    obtain ⟨rfl,h2⟩:=Rp h
    obtain ⟨i,hi,rfl⟩:=Zu (Zv.2 ⟨hq,hf⟩)
    rcases h2 i hi hi with e | e
    ·exact .inl e
    ·obtain ⟨q',wx,e'⟩:=Ew.1 e
     obtain ⟨x1,x2⟩:=Zv.1 wx
     exact .inr ⟨q',x1,x2,e'⟩⟩ (by
    show 2*(r.po.filter f2).length+(if fl then 1 else 0)<2*(r.po.filter f).length+(if true then 1 else 0)
    cases fl with
    | true=>have:=DU rfl;simp only [if_true];omega
    | false=>rw [(Rp rfl).1];simp)
   case hs1=>exact cg
   case ht=>exact l6
end Go.Proofs.A1
namespace Go.SL
open Go
section
variable {P:Program} {r:Option Nat} {c:Cx} {D:List Nat} {sl:aH} {hs hs' hs2:List bd} {Q:Exit→Act→World→Prop} {ops:Array Oper} {d:Nat} {dst:Option Tmp} {ty:TypeId} {pos:String} {af:Array Edge} {g:Option (Nat×Bool)} {rest:List Oper} {κ:Type} [DecidableEq κ] {kv:κ→Value}
theorem F2 {X:Act→World→Prop} {b:Nat} {l:List (κ×Value)} (ht:Take hs (mp kv b l) hs') (k:∀ es ck,IA kv l es ck→Tr c D sl (bH b (.map es ck)::hs') X):Tr c D sl hs X:=fun a w bh=>by
 have hm:=bh.mem.take (ht.append _)
 obtain ⟨kk,fp,hn,⟨f1,f2,rfl,⟨e,es,ck,h1,h2⟩,h3⟩,DU⟩:=hm
 exact k es ck h2 a w (bh.heap ⟨kk,f1++f2,hn,⟨f1,f2,rfl,⟨e,h1⟩,h3⟩,DU⟩)
end
end Go.SL
namespace Go.Proofs.A1
open Go Go.SL
theorem CD {r:Ro} {v:Int} {i:Nat}:∀ {q:List Nat} {po:List Po} {x:ByteArray},qE r v po x (q++[i])=(if gV (qE r v po x q).1 v (gP r i) then (qE r v po x q).1 else (qE r v po x q).1++[⟨v,gP r i,(qE r v po x q).2⟩],gP r i)
 | [],po,x=>rfl
 | j :: q, po, x => by
  rw [Zb,qE,qE]
  exact CD
theorem Aw {r:Ro} {v:Int}:∀ (q:List Nat) (po:List Po) (x:ByteArray),(qE r v po x q).1.length≤po.length+q.length
 | [],po,x=>Zz _
 | j :: q, po, x => by
  rw [qE]
  refine ZX (Aw q _ _) ?_
  rw [ZL]
  split
  ·omega
  ·rw [Zg,ZaE];omega
theorem FJ {r:Ro} {v:Int}:∀ (q:List Nat) (po:List Po) (x:ByteArray),(∀ i∈q,i<r.ti.length)→(∀ p∈po,p.ou∈cq r∨p.ou∈cM r)→∀ p∈(qE r v po x q).1,p.ou∈cq r∨p.ou∈cM r
 | [],po,x,_,h=>h
 | j :: q, po, x, hi, h => by
  rw [qE]
  refine FJ q _ _ (fun i AO=>hi i (ZW _ AO)) fun p hp=>?_
  split at hp
  ·exact h p hp
  ·rcases Zx.1 hp with hp | hp
   ·exact h p hp
   ·rw [ZB.1 hp]
    exact .inr (tV (hi j Zq))
theorem S6 {l:List Ti} {i:Nat} (h:i<l.length) (cur:List Value):ed (pV l++cur) (i*3) 3=[.string l[i].nm,.int .i64 l[i].fr,.int .i64 l[i].to]:=rH (f:=Ti.cells) (fun _=>rfl) h cur
theorem PU {l:List Ti} {i:Nat} (h:i<l.length) (cur:List Value):(pV l++cur)[i*3]? = some (.string l[i].nm):=by
 have:=tD (cs:=pV l++cur) (o:=i*3) (n:=3) (j:=0) (by omega)
 rw [S6 h cur,Zaw] at this
 exact this.symm
theorem ET (l:List Po) (q:Po):fO (l++[q])=fO l++[.int .i64 q.lv,.string q.ou,.string q.ip]:=by
 unfold fO td;simp [Po.cells]
theorem Qf {r:Ro} {x y:Po}:Qg r x y<0↔pK r x y=true:=by
 rw [uf];unfold pK;simp
set_option maxHeartbeats 2000000 in
theorem S7 {r:Ro} {s d t p:Value} {b:Nat} {po:List Po} {xv:Value} {xp:List Nat} (xf:Nat) (v:Int) (so de:ByteArray) {w:World} {fp:List Nat} (lj:fp.Nodup) (hs:ct (hp w) [RB b r s d t p,J1 r s,J2 r d,J3 r t,PB p po,row 3 1 xv xp.length (fS xp)] fp)
  (cT:lD r) (Xh:po.length≤1000) (hxf:xp.length≤100) (hd:CT r) (hi:∀ i∈xp,i<r.ti.length) (Gx:∀ q∈po,q.ou∈cq r∨q.ou∈cM r) (mq:de∈cq r) (hV:(lF r po v so xp de).Pairwise (fun a b=>pK r a b=true)) :
  bu Tryz.prog 258 [.pointer (some ⟨b,0,none⟩),.int .i64 v,.string so,.agg #[xv,.int .i64 (xf:Nat)],.string de] w fp (fun _:Value=>True) (fun _=>.tuple #[]) (fun p'=>[RB b r s d t p',J1 r s,J2 r d,J3 r t,PB p' (lF r po v so xp de),row 3 1 xv xp.length (fS xp)]):=by
 unfold RB PB at *
 refine eb Tryz.func258 rfl rfl lj hs ?_
 refine aT (v:=xv) eX fun xa xc e=>?_
 subst e
 refine aT (v:=t) cW fun ta tc e=>?_
 subst e
 refine aT (v:=p) dT fun pa pc e=>?_
 subst e
 (refine Jr<|Jy rfl rfl fun _ _=>Ji<|Jv rfl<|Ja rfl<|Jn<|Jq<|Jr<|bS rfl rfl ae<|JL rfl .here rfl<|JI rfl<|Jv rfl<|Jn<|J0 ?_)
 rename_i b8 hb8
 refine aW (ι:=Nat×Value) (fun y=>y.1≤xp.length) (fun y=>[(19,.int .i64 (y.1:Nat)),(18,.int .i64 (xp.length:Nat)),(17,.slice xa xp.length xc),(10,.string (qE r v po so (xp.take y.1)).2),(0,.pointer (some ⟨b,0,none⟩)),(1,.int .i64 v),(4,.string de)])
  (fun y=>[JP b r s d (.slice ta r.ti.length tc) (y.2),J1 r s,J2 r d,row 187 3 (.slice ta r.ti.length tc) r.ti.length (pV r.ti),row 188 3 y.2 (qE r v po so (xp.take y.1)).1.length (fO (qE r v po so (xp.take y.1)).1),row 3 1 (.slice xa xp.length xc) xp.length (fS xp)]) (fun y=>xp.length-y.1) ?_ ?_
 ·apply aI (0,.slice pa po.length pc) (Zi _)
  case hs1=>
   show lB _ [(19,.int .i64 (0:Nat)),(18,.int .i64 (xp.length:Nat)),(17,.slice xa xp.length xc),(10,.string so),(0,.pointer (some ⟨b,0,none⟩)),(1,.int .i64 v),(4,.string de)]
   exact .cons rfl (.cons rfl (.cons rfl (.cons rfl (.cons rfl (.cons rfl (.cons rfl .nil))))))
  case ht=>
   exact .cons (.there .here) (.cons (.there .here) (.cons (.there .here) (.cons (.there .here) (.cons (.there .here) (.cons (.there .here) .nil)))))
 rintro ⟨k,pv⟩ hk
 dsimp only at hk ⊢
 have Rz:=Aw (r:=r) (v:=v) (xp.take k) po so
 rw [Zr] at Rz
 by_cases aM:k<xp.length
 ·have rz:qE r v po so (xp.take (k+1))=(if gV (qE r v po so (xp.take k)).1 v (gP r xp[k]) then (qE r v po so (xp.take k)).1 else (qE r v po so (xp.take k)).1++[⟨v,gP r xp[k],(qE r v po so (xp.take k)).2⟩],gP r xp[k]):=by
   rw [Zn aM,CD]
  have hix:=hi _ (Zj aM)
  have yx:gP r xp[k]=(r.ti[xp[k]]).nm:=by unfold gP;rw [mW hix]
  generalize qE r v po so (xp.take k)=A at rz Rz ⊢
  obtain ⟨q,la⟩:=A
  dsimp only at rz Rz ⊢
  refine aT (E:=188) (sz:=3) (v:=pv) dT fun va vc e=>?_
  subst e
  refine Jr<|JA rfl<|Jn<|Jq<|Jd rfl fun az=>Jk<|Jq<|J0<|Jr ?_
  refine cU (E:=3) (sz:=1) (v:=.slice xa xp.length xc) eX (by omega) fun g1 c1 u1 e kF aR hz1 Ui=>?_
  cases e
  have a1:=BN aM u1
  generalize hxk:xp[k]=ik at *
  (refine ab (ar (.of rfl) (.of rfl) rfl (by omega) az bb) rfl ?_;refine ab (ag (.of rfl) (At.jL .here a1)) rfl ?_;refine Ja rfl<|Ji<|Jv rfl<|ab (dQ (.of rfl)) rfl ?_;refine bS rfl rfl ae ?_;refine JL rfl (.there .here) rfl<|Jv rfl ?_)
  refine cU (E:=187) (sz:=3) (v:=.slice ta r.ti.length tc) dT (by omega) fun g2 c2 u2 e jS ml hz2 Fe=>?_
  cases e
  have a2:=PU hix u2
  rw [← yx] at a2
  (refine ab (ar (.of rfl) (.of rfl) rfl (by omega) (by omega) bb) rfl<|bS rfl rfl ae<|ab (ag (.of rfl) (At.jL .here a2)) rfl<|Ja rfl<|Jn<|Jq<|Jr<|Jv rfl<|ab (dQ (.of rfl)) rfl<|ab (cR bL) rfl<|Jv rfl<|Jv rfl ?_)
  refine cN (E:=187) (sz:=3) (g:=g2) (by exact .here) jS ml hz2 Fe ?_
  refine cN (E:=3) (sz:=1) (g:=g1) (by exact Take.there .here) kF aR hz1 Ui ?_
  refine ai eM rfl (fun w' aA=>qC (r:=r.wp q) v (gP r ik) (RR.wp (cK aA cW rfl) (cL aA dT rfl) (cJ aA (by exact Take.there .here) rfl) (cE aA eX rfl))) ?_
  have nq:gV (r.wp q).po v (gP r ik)=gV q v (gP r ik):=rfl
  rw [nq]
  have SE:(fO q).length=q.length*3:=jz q
  cases B8:gV q v (gP r ik) with
  | false =>
   rw [B8,if_neg (by decide)] at rz
   have Xj:fO (q++[⟨v,gP r ik,la⟩])=fO q++[.int .i64 v,.string (gP r ik),.string la]:=ET _ _
   have AL:(q++[(⟨v,gP r ik,la⟩:Po)]).length=q.length+1:=by simp
   (refine JH rfl<|Jn<|cP (.of rfl)<|Jg<|Jv rfl<|Jv rfl<|ab (dQ (.of rfl)) rfl<|bS rfl rfl ae<|JL rfl bL rfl<|Jv rfl<|Jv rfl<|Jv rfl<|ab (aU (.cons (.of rfl) (.cons (.of rfl) (.cons (.of rfl) .nil))) ak) rfl<|br (bB (.cons (.of rfl) .nil) rfl rfl bQ bQ ak) rfl fun _ _=>?_)
   refine bF (.of rfl) (.of rfl) pz .here ak (by rfl) (fo rfl rfl rfl) (by rfl) (by rfl) (by rfl) eC (by rfl) ?_
   intro v'
   refine aT (by exact .here) fun a' gL e=>?_
   subst e
   (refine ab (dQ (.of rfl)) rfl<|bS rfl rfl ae<|aq (.of rfl) (.of rfl) dT rfl rfl (en rfl) (bG rfl) ak<|Jn<|Jg<|Jv rfl<|Ja rfl<|Jx<|Jj<|Jt<|Jg<|JB rfl (by omega)<|Jv rfl<|Jn ?_)
   apply aK (k+1,.slice a' (q.length+1) gL) (by show k+1≤_;omega) (by show xp.length-(k+1)<xp.length-k;omega)
   case hs1=>
    dsimp only
    rw [rz]
    exact .cons rfl (.cons rfl (.cons rfl (.cons rfl (.cons rfl (.cons rfl (.cons rfl .nil))))))
   case ht=>
    dsimp only
    rw [rz]
    dsimp only
    rw [AL,Xj]
    exact .cons .here (.cons dT (.cons dT (.cons cW (.cons .here (.cons (.there .here) .nil)))))
  | true =>
   rw [B8,if_pos rfl] at rz
   (refine JH rfl<|Jn<|bK (.of rfl)<|Jk<|Jg<|Jv rfl<|Ja rfl<|Jx<|Jj<|Jt<|Jg<|JB rfl (by omega)<|Jv rfl<|Jn ?_)
   apply aK (k+1,.slice va q.length vc) (by show k+1≤_;omega) (by show xp.length-(k+1)<xp.length-k;omega)
   case hs1=>
    dsimp only
    rw [rz]
    exact .cons rfl (.cons rfl (.cons rfl (.cons rfl (.cons rfl (.cons rfl (.cons rfl .nil))))))
   case ht=>
    dsimp only
    rw [rz]
    exact .cons bL (.cons bL (.cons bL (.cons (.there .here) (.cons (.there .here) (.cons .here .nil)))))
 ·have e:k=xp.length:=by omega
  subst e
  rw [ZN] at *
  refine aT (E:=188) (sz:=3) (v:=pv) dT fun va vc e=>?_
  subst e
  (refine Jr<|JA rfl<|Jn<|Jq<|Jc rfl fun az=>Jp<|Jl<|Jo<|Jt<|Jr<|Jv rfl<|Jv rfl<|ab (dQ (.of rfl)) rfl<|bS rfl rfl ae<|JL rfl .here rfl<|Jv rfl<|Jv rfl<|Jv rfl<|ab (aU (.cons (.of rfl) (.cons (.of rfl) (.cons (.of rfl) .nil))) ak) rfl<|br (bB (.cons (.of rfl) .nil) rfl rfl bQ bQ ak) rfl fun _ _=>?_)
  refine bF (.of rfl) (.of rfl) eX .here ak (by rfl) (fo rfl rfl rfl) (by rfl) (by rfl) (by rfl) eC (by rfl) ?_
  intro v'
  refine aT (by exact .here) fun a' gL e=>?_
  subst e
  (refine ab (dQ (.of rfl)) rfl<|bS rfl rfl ae<|aq (.of rfl) (.of rfl) bL rfl rfl (en rfl) (bG rfl) ak<|Ji<|Jv rfl<|ab (dQ (.of rfl)) rfl<|ab (cR .here) rfl ?_)
  have hAo:=FJ (r:=r) (v:=v) xp po so hi Gx
  have pB:∀ S:List Po,S.Perm ((qE r v po so xp).1++[⟨v,de,(qE r v po so xp).2⟩])→S.Pairwise (fun a b=>¬ Qg r b a<0)→S=lF r po v so xp de:=fun S h1 h2=>HN hV h1 (h2.imp fun h=>fun c=>h (Qf.2 c))
  have afC:=Aw (r:=r) (v:=v) xp po so
  generalize qE r v po so xp=A at *
  obtain ⟨q,la⟩:=A
  dsimp only at *
  have Xj:fO (q++[⟨v,de,la⟩])=fO q++[.int .i64 v,.string de,.string la]:=ET _ _
  have AL:(q++[(⟨v,de,la⟩:Po)]).length=q.length+1:=by simp
  rw [← Xj,← AL]
  have iR:∀ y∈q++[(⟨v,de,la⟩:Po)],jg (ef r) y.ou=true:=fun y hy=>by
   rw [eV]
   rcases Zx.1 hy with hy | hy
   ·exact K4 ((hAo y hy).elim (fun e=>.inr (.inl e)) fun e=>.inr (.inr e))
   ·rw [ZB.1 hy];exact K4 (.inr (.inl mq))
  have hlen:(q++[(⟨v,de,la⟩:Po)]).length≤100000:=by omega
  generalize q++[(⟨v,de,la⟩:Po)]=L at *
  refine JN bN rfl (fun w1 aR=>ES (r:=r.wp L) (RR.wp (cK aR cW rfl) (cL aR dT rfl) (cJ aR eX rfl) (cE aR (by exact Take.there .here) rfl)) (by have:=cT;unfold lD at this;show r.de.length+r.ti.length≤_;omega)) ?_
  intro bm _
  dsimp only [id_eq,Zb,Za]
  rw [show oq (r.wp L)=oq r from rfl]
  (refine Jz rfl rfl fun _ _=>aq (.of rfl) (.of rfl) .here rfl rfl (en rfl) (bG rfl) ak<|Jn<|Jg<|Jv rfl<|ab (dQ (.of rfl)) rfl<|bS rfl rfl ae<|JL rfl bL rfl<|ab (bC .nil (.cons (.of rfl) .nil)) rfl ?_)
  rename_i b61 afq LD afz
  refine F2 (b:=bm) (l:=oq r) (kv:=fun s:ByteArray=>Value.string s) (by exact Take.there .here) fun es ck eJ=>?_
  with_reducible apply fP (As:=[row 188 3 (.slice a' L.length gL) L.length (fO L)])
  case hr=>exact bj
  case hd=>rfl
  case ht=>exact .cons cW .nil
  case hc=>
   intro w1 AT aR vA hs1 CQ kQ
   have Yv:LD ∉ AT:=kQ LD _ _ (by exact Take.there .here)
   have VU:bm ∉ AT:=kQ bm _ _ (by exact .here)
   have f14:w1.cell? ⟨LD,0,none⟩=some (.map (some bm)):=At.lit (by exact Take.there .here) rfl w1 aR
   exact HK (r:=r) (l:=L) hs1 hd iR (by omega) f14 ⟨es,ck,aR.bH (by exact .here),eJ⟩ Yv VU
  rintro S ⟨Yp,SK⟩
  rw [pB S Yp SK]
  have hlS:S.length=L.length:=Yp.length_eq
  dsimp only [id_eq,Zb,Za]
  unfold PB
  have hzl:(lF r po v so xp de).length=L.length:=by rw [← pB S Yp SK];exact hlS
  refine Hr ?_
  first | with_reducible apply aO | with_reducible apply aP
  case he=>exact pO rfl
  case hR=>
   intro w' aA
   exact aG (.slice a' L.length gL) trivial (by exact .cons cW (.cons dT (.cons dT (.cons dT (.cons .here (.cons cW .nil)))))) aA rfl
end Go.Proofs.A1
namespace Go.SL
open Go
theorem lX {P:Program} {c:Cx} {sl:aH} {hs hs':List bd} {fn:Func} {s t u:Tmp} {T:TypeId} {b o n:Nat} {cs vs:List Value} {E:TypeId} {fz:Nat×Nat} {x y:Value} (h:fn.results=#[.cell t T,.tmp s,.tmp u]) (hT:Ty P T true n) (hp:cS sl t=some (.pointer (some ⟨b,o,none⟩))) (ht:Take hs (SL.bH b (.cells cs.toArray E fz)) hs') (hv:ed cs o n=vs) (hl:vs.length=n) (hx:cS sl s=some x) (hy:cS sl u=some y):Ends P fn c sl hs (.tuple #[.agg vs.toArray,x,y]):=
 Pn (xs:=[.cell t T,.tmp s,.tmp u]) (vs:=[.agg vs.toArray,x,y]) h (G6.cons (RV.cell hp (IG (ew.bH ht hv) hl)) (G6.cons (RV.tmp hx) (G6.cons (RV.tmp hy) G6.nil))) (by simp)
end Go.SL
namespace Go.Proofs.A1
open Go Go.SL
def IJ (r:Ro) (t:Tk):Bool:=(r.de.getD (bE (cq r) t.de).toNat ⟨⟨#[]⟩,0,false⟩).pr
theorem M6 {r:Ro} {s d t p:Value} {x:fu} {b:Nat} {w:World} (h:RR w r s d t p) (hA:BR w b (RC r s d t p)) (hx:x.tk.de∈cq r):aj Tryz.prog 253 [.agg x.cells.toArray,.pointer (some ⟨b,0,none⟩)] w (.bool (IJ r x.tk)):=by
 have h1:=Rd.one h.sr
 have h3:=Rd.one h.ti
 have h4:=Rd.one h.po
 have mq:=h.de
 obtain ⟨a3,sK,b3,o3,rfl,nD,gG,tM,ql⟩:=mq
 rw [cn] at *
 unfold maxLen at gG
 obtain ⟨j0,z8⟩:∃ i:Nat,bE (cq r) x.tk.de=(i:Nat):=⟨(bE (cq r) x.tk.de).toNat,by have:=eG hx;omega⟩
 have AN:j0<r.de.length:=by
  obtain ⟨hl,_⟩:=fq (l:=cq r) (s:=x.tk.de) (by omega)
  rw [z8,ZI] at hl
  unfold cq at hl;rwa [Zd] at hl
 have e0:IJ r x.tk=(r.de[j0]).pr:=by unfold IJ;rw [z8,ZI,Zk,Zc AN];rfl
 have cG:=tM (fW AN)
 have aB:=(ql j0 _ (eR AN)).2
 unfold De.cells at aB
 have c2:=aB 2 _ rfl
 have SH:∀ w',aJ [] w w'→aj Tryz.prog 155 [.agg #[.int .i64 r.lv,.int .i64 r.ma,s,.slice a3 r.de.length sK,t,p],.string x.tk.de] w' (.int .i64 (j0:Nat)):=fun w' hk=>z8 ▸ fL x.tk.de (h.keeps hk)
 have f3:w.cell? ⟨b,3,none⟩=some (.slice a3 r.de.length sK):=hA 3 _ rfl
 have ke:∀ (j:Nat) (u:Value),[Value.int .i64 r.lv,.int .i64 r.ma,s,.slice a3 r.de.length sK,t,p][j]? = some u→w.cell? ⟨b,0+j,none⟩=some u:=hA
 clear hA
 rw [e0]
 unfold fu.cells
 refine ah Tryz.func253 rfl rfl ?_
 refine Jr<|Jy rfl rfl fun _ _=>Ja rfl<|Jn<|Jq ?_
 with_reducible refine dE 10 (by kernel_rfl) ?_
 (refine nF rfl rfl ae<|aF (ag (.of rfl) (At.base f3 rfl)) rfl<|aF (gW (ew.base ke rfl)) rfl<|nF rfl rfl ae<|aF (gT .here) rfl<|fI bj rfl (fun w' aA=>(SH w' (Mem.keeps aA)))<|aF (ar (.of rfl) (.of rfl) cG (by omega) (by omega) bb) rfl<|nF rfl rfl ae<|aF (ag (.of rfl) (At.base c2 rfl)) rfl<|aF (cB (.of rfl)) rfl ?_)
 with_reducible refine dI ?_
 refine Jn<|Je<|JT ?_
 rfl
theorem NA {r:Ro} {s d t p:Value} {x:fu} {b:Nat} {w:World} (h:RR w r s d t p) (hA:BR w b (RC r s d t p)) (z7:r.lv≤1000) (cT:r.ti.length≤1000000):bu Tryz.prog 255 [.agg x.cells.toArray,.pointer (some ⟨b,0,none⟩)] w [] (fun _:Value=>True) id (fun v=>[row 9 1 v r.lv.toNat (aL (bo r x.tk.de))]):=by
 have h1:=Rd.one h.sr
 have h2:=Rd.one h.de
 have h3:=Rd.one h.ti
 have h4:=Rd.one h.po
 have ke:∀ (j:Nat) (u:Value),[Value.int .i64 r.lv,.int .i64 r.ma,s,d,t,p][j]? = some u→w.cell? ⟨b,0+j,none⟩=some u:=hA
 clear hA
 unfold fu.cells
 refine aS Tryz.func255 rfl rfl ?_
 (refine Jr<|Jy rfl rfl fun _ _=>Ja rfl<|Ji<|ab (gW (ew.base ke rfl)) rfl<|bS rfl rfl ae<|JL rfl .here rfl ?_)
 refine JN bj rfl (fun w1 aR=>vE x.tk.de (h.keeps aR.keeps) z7 cT) ?_
 intro v _
 dsimp only [id_eq,Zb,Za]
 refine aT (v:=v) (by exact .here) fun va vc e=>?_
 subst e
 refine Ja rfl<|Jn<|Je ?_
 first | with_reducible apply aO | with_reducible apply aP
 case he=>exact dH rfl rfl
 case hR=>
  intro w' aA
  exact aG (.slice va r.lv.toNat vc) trivial (by exact .cons .here .nil) aA rfl
theorem Qy {kv:Value} {l:List fu} {g:fu→List ByteArray} {n:Nat} {f:FuncId} {first cap:List Value} [bR Tryz.prog f] {w:World} (h:Rd w kv 2 (iF l)) (hM:sR w l) (hn:l.length≤1000) (hg:∀ x∈l,(g x).length=n)
  (cz:∀ x∈l,∀ w',aJ [] w w'→bu Tryz.prog f (first++[.agg x.cells.toArray]++cap) w' [] (fun _:Value=>True) id (fun v=>[row 9 1 v n (aL (g x))])) :
  bu Tryz.prog 254 [kv,.func (.func f) first.toArray cap.toArray] w [] (fun x:Value×List Value=>x.2.length=l.length) (fun x=>x.1) (fun x=>[row 32 1 x.1 l.length x.2,mB 9 x.2 (l.map fun y=>aL (g y))]):=by
 obtain ⟨a,cp,b,o,rfl,dj,bV,ha,hc⟩:=h
 rw [du] at *
 unfold maxLen at bV
 refine aS Tryz.func254 rfl rfl ?_
 refine Jr<|Ja rfl<|Ji<|Ja rfl<|Jn<|Jq<|Jr<|Jv rfl<|JI rfl<|Jv rfl<|Jn<|J0 ?_
 refine aQ 32 1 ?_
 refine jP 9 ?_
 refine aW (ι:=Nat×Value×List Value) (fun x=>x.1≤l.length∧x.2.2.length=x.1) (fun x=>[(10,.int .i64 (x.1:Nat)),(9,.int .i64 (l.length:Nat)),(8,.slice a l.length cp),(5,x.2.1),(1,.func (.func f) first.toArray cap.toArray)])
  (fun x=>[row 32 1 x.2.1 x.1 x.2.2,mB 9 x.2.2 ((l.take x.1).map fun y=>aL (g y))]) (fun x=>l.length-x.1) ?_ ?_
 ·apply aI (0,.slice none 0 0,[]) ⟨Zi _,rfl⟩
  case hs1=>exact cg
  case ht=>
   exact .cons (.there .here) (.cons .here .nil)
 rintro ⟨k,v,vs⟩ ⟨hk,oF⟩
 dsimp only at hk oF ⊢
 by_cases aM:k<l.length
 ·have cG:=ha (jk aM)
  have aB:=(hc k _ (jy aM)).2
  have iT:=cz _ (Zj aM)
  have Rm:=hg _ (Zj aM)
  have gR:=Rd.one (hM _ (Zj aM))
  have htk:(l.take (k+1)).map (fun y=>aL (g y))=((l.take k).map fun y=>aL (g y))++[aL (g l[k])]:=by
   rw [Zn aM,Zs];rfl
  have tu:((l.take k).map fun y=>aL (g y)).length=k:=by rw [Zd,Zr];omega
  unfold fu.cells at aB iT
  refine aT (E:=32) (sz:=1) (v:=v) (by exact .here) fun va vc e=>?_
  subst e
  (refine Jr<|JA rfl<|Jn<|Jq<|Jd rfl fun az=>Jk<|Jq<|J0<|Jr<|ab (fM cG az) rfl<|ab (gW (ew.base aB rfl)) rfl<|Jz rfl rfl fun _ _=>aq (.of rfl) (.of rfl) .here rfl rfl (fY rfl gR) (bG rfl) ak<|Jn<|Jg<|Jv rfl<|Jv rfl<|ab (cR .here) rfl ?_)
  refine JN bN rfl (fun w1 aR=>iT w1 aR.keeps) ?_
  intro hv _
  dsimp only [id_eq,Zb,Za]
  refine aT (E:=9) (sz:=1) (v:=hv) (by exact .here) fun jD jS e=>?_
  subst e
  refine br (aC (.cons (.of rfl) .nil) rfl rfl rfl rfl) rfl (fun _ _=>?_)
  refine bF (.of rfl) (.of rfl) cW .here ak (by rfl) (en rfl) (by rfl) (by rfl) (by rfl) eC (by rfl) ?_
  intro v'
  refine Ja rfl<|Jx<|Jj<|Jt<|Jg<|JB rfl (by omega)<|Jv rfl<|Jn ?_
  refine k8 (E:=9) (vs:=vs) (v:=.slice jD n jS) (x:=aL (g l[k])) dT bL (by rw [c7,Rm]) (by rw [tu,oF]) ?_
  apply aK (k+1,v',vs++[.slice jD n jS]) ⟨by show k+1≤_;omega,by rw [Zg,oF];rfl⟩ (by show l.length-(k+1)<l.length-k;omega)
  case hs1=>exact cg
  case ht=>
   dsimp only
   rw [htk]
   exact .cons (.there .here) (.cons .here .nil)
 ·have e:k=l.length:=by omega
  subst e
  rw [ZN] at *
  refine aT (E:=32) (sz:=1) (v:=v) (by exact .here) fun va vc e=>?_
  subst e
  refine Jr<|JA rfl<|Jn<|Jq<|Jc rfl fun az=>Jp<|Jl<|Jo<|Jt<|Jr<|Jv rfl<|Ja rfl<|Jn<|Je ?_
  first | with_reducible apply aO | with_reducible apply aP
  case he=>exact dH rfl rfl
  case hR=>
   intro w' aA
   exact aG (.slice va l.length vc,vs) oF (by exact .cons .here (.cons .here .nil)) aA rfl
theorem qb {r:Ro} (h:rR r) {s:ByteArray} (hs:s∈cq r∨s∈cM r):0≤dX r s∧dX r s<14:=by
 have hl:=h.len
 have l1:(cq r).length=r.de.length:=by unfold cq;rw [Zd]
 have l2:(cM r).length=r.ti.length:=by unfold cM;rw [Zd]
 rw [MQ hs]
 by_cases c:s∈cq r
 ·have:=eG c
  have:=Ai this
  rw [if_pos (by omega)];omega
 ·have h2:=cm.2 c
  have h3:=eG (hs.resolve_left c)
  have:=Ai h3
  rw [if_neg (by omega)];omega
theorem mU {r:Ro} (h:rR r) {q:List Po} (hq:iJ r q):q.length≤42:=by
 have hl:=h.lim
 have key:∀ p∈q,0≤p.lv*14+dX r p.ou∧p.lv*14+dX r p.ou<42:=fun p hp=>by
  have:=qb h (hq.out p hp)
  have:=hq.II p hp
  omega
 have:=kX 42 (q.map fun p=>(p.lv*14+dX r p.ou).toNat) (by
  unfold List.Nodup
  rw [ZbA]
  refine (List.Pairwise.and_mem.1 hq.qK).imp fun {a b} ⟨ha,hb,SJ⟩ e=>?_
  have:=key a ha
  have:=key b hb
  have:=qb h (hq.out a ha)
  have:=qb h (hq.out b hb)
  unfold pK at SJ
  simp only [ZO,Zm,decide_eq_true_eq] at SJ
  omega) (fun x hx=>by
  obtain ⟨p,hp,rfl⟩:=Zt.1 hx
  have:=key p hp
  omega)
 rwa [Zd] at this
theorem HP {r:Ro} (h:rR r) {po:List Po} {v:Int} {s d:ByteArray} (hv:0≤v∧v<r.lv) (qL:iJ r po) (hs:s∈cF r) (mq:d∈cq r) (eP:ek po v d=none) {p:List Nat} (hp:(fB r po v s).least (nQ r d) p):iJ r (lF r po v s p d):=
 (HO h.ui h.nd hv qL hs mq eP hp.1 (hp.2.1.trans (Kv mq).symm)).1
end Go.Proofs.A1
namespace Go.SL
open Go
def rj (E:TypeId) (vs:List Value) (xs:List (List Value)) (j:Nat):bd:=Lj (gj E (vs.take j) (xs.take j))
def ri (E:TypeId) (vs:List Value) (xs:List (List Value)) (j:Nat):bd:=Lj (gj E (vs.drop (j+1)) (xs.drop (j+1)))
theorem oy {E:TypeId} {v:Value} {x:List Value}:∀ {vs:List Value} {xs:List (List Value)} {j:Nat},vs[j]? = some v→xs[j]? = some x→gj E vs xs=gj E (vs.take j) (xs.take j)++row E 1 v x.length x::gj E (vs.drop (j+1)) (xs.drop (j+1))
 | [],_,j,h,_=>by simp at h
 | _::_,[],j,_,h=>by simp at h
 | v' :: vs, x' :: xs, 0, h1, h2 => by
  simp only [Zay,Option.some.injEq] at h1 h2
  subst h1 h2
  rfl
 | v' :: vs, x' :: xs, j + 1, h1, h2 => by
  simp only [ZaX] at h1 h2
  show row E 1 v' x'.length x'::gj E vs xs=row E 1 v' x'.length x'::(gj E (vs.take j) (xs.take j)++_)
  rw [oy h1 h2];rfl
theorem xQ:∀ (l:List bd) (A:bd) (m:List bd),Take (l++A::m) A (l++m)
 | [],_,_=>.here
 | _::l,A,m=>.there (xQ l A m)
theorem oZ:∀ (P l m:List bd),bD (P++(l++m)) l (P++m)
 | _,[],_=>.nil
 | P,A::l,m=>.cons (xQ P A (l++m)) (oZ P l m)
section
variable {P:Program} {c:Cx} {D:List Nat} {sl:aH} {hs hs':List bd} {X:Act→World→Prop}
theorem uF {E:TypeId} {vs:List Value} {xs:List (List Value)} {v:Value} {x:List Value} {n j:Nat} (ht:Take hs (mB E vs xs) hs') (hv:vs[j]? = some v) (hx:xs[j]? = some x) (hn:x.length=n)
  (k:Tr c D sl (row E 1 v n x::rj E vs xs j::ri E vs xs j::hs') X):Tr c D sl hs X:=by
 subst hn
 refine xI (As:=gj E vs xs) ht ?_
 rw [oy hv hx,Zh]
 refine rS (As:=gj E (vs.take j) (xs.take j)) (oZ [] _ _) ?_
 refine rS (As:=gj E (vs.drop (j+1)) (xs.drop (j+1))) (hs':=Lj (gj E (vs.take j) (xs.take j))::row E 1 v x.length x::hs') (oZ [_,_] _ _) ?_
 intro a w bh
 have hT:bD (Lj (gj E (vs.drop (j+1)) (xs.drop (j+1)))::Lj (gj E (vs.take j) (xs.take j))::row E 1 v x.length x::hs') [row E 1 v x.length x,rj E vs xs j,ri E vs xs j] hs':=.cons (.there (.there .here)) (.cons (.there .here) (.cons .here .nil))
 have hm:=bh.mem.jo (hT.append (mE D))
 exact k a w (bh.heap hm)
theorem xK {E:TypeId} {vs:List Value} {xs:List (List Value)} {v:Value} {x:List Value} {n:Nat} (j:Nat) {h1 h2:List bd} (ht:Take hs (rj E vs xs j) h1) (ht2:Take h1 (ri E vs xs j) h2) (ht3:Take h2 (row E 1 v n x) hs') (hv:vs[j]? = some v) (hx:xs[j]? = some x) (hn:x.length=n)
  (k:Tr c D sl (mB E vs xs::hs') X):Tr c D sl hs X:=fun a w bh=>by
 subst hn
 have hT:bD hs [rj E vs xs j,ri E vs xs j,row E 1 v x.length x] hs':=.cons ht (.cons ht2 (.cons ht3 .nil))
 have hT2:bD ([rj E vs xs j,ri E vs xs j,row E 1 v x.length x]++(hs'++mE D)) [rj E vs xs j,row E 1 v x.length x,ri E vs xs j] (hs'++mE D):=.cons .here (.cons (.there .here) (.cons .here .nil))
 have hm:=(bh.mem.jo (hT.append (mE D))).jo hT2
 obtain ⟨kk,fp,uo,⟨f1,f2',rfl,g1,⟨f2,f3',rfl,g2,⟨f3,f4,rfl,g3,g4⟩⟩⟩,hb⟩:=hm
 refine k a w (bh.heap ⟨kk,(f1++(f2++f3))++f4,by simpa only [Zh] using uo,⟨f1++(f2++f3),f4,rfl,?_,g4⟩,by simpa only [Zh] using hb⟩)
 show ct (hp w) (gj E vs xs) _
 rw [oy hv hx]
 exact ct.append_iff.2 ⟨f1,f2++f3,rfl,g1,⟨f2,f3,rfl,g2,g3⟩⟩
end
attribute [irreducible] rj ri
end Go.SL
namespace Go.Proofs.A1
open Go Go.SL
theorem IX {α β:Type} (f:α→β) (p:β→Bool) (l:List α):fT p (l.map f)=fT (fun x=>p (f x)) l:=by
 unfold fT
 rw [Zd]
 congr 1
 congr 1
 funext i
 rw [ZF,Option.map_map];rfl
theorem IF (r:Ro) (l:List fu):lU r (cr l)=fT (fun x:fu=>IJ r x.tk) l:=by
 unfold lU cr
 rw [IX];rfl
def nS (r:Ro) (x:Value×Value×Value×Value):List bd:=[J1 r x.1,J2 r x.2.1,J3 r x.2.2.1,PB x.2.2.2 r.po]
theorem F5 {c:Cx} {D:List Nat} {sl:aH} {hs hs':List bd} {X:Act→World→Prop} {kz:List Wy} {xv:Value} {xp:List Nat} {xf:Nat} (hx:(⟨xv,xp,xf⟩:Wy)∈kz∨(⟨xv,xp,xf⟩:Wy)=⟨.slice none 0 0,[],0⟩) (ht:Take hs (iD kz) hs')
  (k:∀ nL,Tr c D sl (row 3 1 xv xp.length (fS xp)::iD nL::hs') X):Tr c D sl hs X:=by
 rcases hx with hx | hx
 ·refine uH hx ht fun nL _=>?_
  intro a w bh
  have hT:bD (iD nL::row 3 1 xv xp.length (fS xp)::hs') [row 3 1 xv xp.length (fS xp),iD nL] hs':=.cons (.there .here) (.cons .here .nil)
  have Gu:St c D sl (iD nL::row 3 1 xv xp.length (fS xp)::hs') a w:=bh
  have hm:=Gu.mem.jo (hT.append (mE D))
  exact k nL a w (bh.heap hm)
 ·cases hx
  refine aQ 3 1 ?_
  intro a w bh
  have hT:bD (row 3 1 (.slice none 0 0) 0 []::hs) [row 3 1 (.slice none 0 0) 0 [],iD kz] hs':=.cons .here (.cons ht .nil)
  have hm:=bh.mem.jo (hT.append (mE D))
  exact k kz a w (bh.heap hm)
set_option maxHeartbeats 4000000 in
theorem EG {r:Ro} {s d t p kv:Value} {l:List fu} {w:World} (h:RR w r s d t p) (eJ:rR r) (Xh:r.po.length≤500) (hw:Rd w kv 2 (iF l)) (hM:sR w l) (hT:AV r (cr l)) :
  bu Tryz.prog 165 [RA r s d t p,kv] w [] (fun _:Value×Value×Value×Value=>True) (fun x=>.tuple #[RA (hP r (cr l)).1 x.1 x.2.1 x.2.2.1 x.2.2.2,.int .i64 (hP r (cr l)).2.1,.int .i64 (hP r (cr l)).2.2]) (fun x=>nS (hP r (cr l)).1 x):=by
 have z7:=eJ.lim
 have DR:=eJ.len
 have cT:lD r:=by unfold lD;omega
 have Uh:=hT.D8
 unfold cr at Uh
 rw [Zd] at Uh
 have h1:=Rd.one h.sr
 have h2:=Rd.one h.de
 have h3:=Rd.one h.ti
 have h4:=Rd.one h.po
 have AK:=hw
 obtain ⟨a,cp,b,o,rfl,dj,bV,ha,hc⟩:=hw
 rw [du] at *
 unfold maxLen at bV
 have Uc:=IF r l
 unfold RA
 refine aS Tryz.func165 rfl rfl ?_
 refine Jr<|Jy rfl rfl fun _ _=>Jz rfl rfl fun _ _=>Ja rfl<|Ja rfl<|Ji<|Jv rfl<|ab (bC .nil (.cons (.of rfl) .nil)) rfl ?_
 rename_i b2 tL b4 wA
 with_reducible apply ai
 case hr=>exact bj
 case hd=>rfl
 case hc=>
  intro w' aA
  have hA:BR w' b2 [.int .i64 r.lv,.int .i64 r.ma,s,d,t,p]:=BR.of aA (by exact Take.there .here)
  have hR:=h.keeps aA.keeps
  exact Fa (f:=253) (p:=fun x:fu=>IJ r x.tk) (first:=[]) (cap:=[.pointer (some ⟨b2,0,none⟩)]) (AK.keeps aA.keeps) (fun x hx w2 eF=>M6 (hR.keeps eF) (hA.keeps eF) (hT.de _ (Z3 hx)))
 rw [← Uc]
 (refine Ja rfl<|Jn<|Jq<|Jr<|Jv rfl<|JG rfl<|Jn<|gm rfl (fun az=>?_) fun az=>?_;refine Jr<|ab (aU .nil ak) rfl<|Jv rfl<|aq (.of rfl) (.of rfl) .here rfl rfl (gA rfl rfl rfl rfl rfl rfl) (bG rfl) ak<|Ja rfl<|Ja rfl<|Jn<|Ju ?_;rotate_left;refine Jk<|Jr<|ab (cR (.there .here)) rfl ?_;rotate_right)
 ·have e0:hP r (cr l)=(Ro.nil,lU r (cr l),31):=by unfold hP;rw [if_pos (by omega)]
  rw [e0]
  dsimp only
  refine aQ 186 2 ?_
  refine aQ 90 3 ?_
  refine aQ 187 3 ?_
  refine aQ 188 3 ?_
  first | with_reducible apply aO | with_reducible apply aP
  case he=>exact lX rfl inferInstance rfl dT ak (by rfl) (by rfl) (by rfl)
  case hR=>
   intro w' aA
   exact aG (.slice none 0 0,.slice none 0 0,.slice none 0 0,.slice none 0 0) trivial (by exact .cons cW (.cons bL (.cons (.there .here) (.cons .here .nil)))) aA rfl
 have hL0:¬ 0≤lU r (cr l):=by omega
 refine JN bN rfl (fun w1 aR=>zH (h.keeps aR.keeps) cT (by omega)) ?_
 intro y _
 dsimp only [id_eq,Zb,Za]
 obtain ⟨s1,d1,t1,p1⟩:=y
 dsimp only
 unfold RA PB
 refine aT (E:=186) (sz:=2) (v:=s1) (by exact .here) fun _ _ e=>?_
 have k1:s1.oneCell'=true:=by rw [e];rfl
 clear e
 refine aT (E:=90) (sz:=3) (v:=d1) (by exact Take.there .here) fun _ _ e=>?_
 have k2:d1.oneCell'=true:=by rw [e];rfl
 clear e
 refine aT (E:=187) (sz:=3) (v:=t1) bL fun _ _ e=>?_
 have k3:t1.oneCell'=true:=by rw [e];rfl
 clear e
 refine aT (E:=188) (sz:=3) (v:=p1) cW fun _ _ e=>?_
 have k4:p1.oneCell'=true:=by rw [e];rfl
 clear e
 (refine Jz rfl rfl fun _ _=>aq (.of rfl) (.of rfl) .here rfl rfl (gA rfl rfl k1 k2 k3 k4) (bG rfl) ak<|Ji<|Jv rfl<|ab (bC .nil (.cons (.of rfl) .nil)) rfl ?_)
 rename_i b8 hb8
 with_reducible apply jw
 case hr=>exact bj
 case hd=>rfl
 case ht=>exact bD.nil
 case hc=>
  intro w1 fp aR _ hs1
  obtain rfl:fp=[]:=hs1
  have hA:BR w1 b2 [.int .i64 r.lv,.int .i64 r.ma,s,d,t,p]:=BR.of aR pz
  have hR:=h.keeps aR.keeps
  exact Qy (f:=255) (first:=[]) (cap:=[.pointer (some ⟨b2,0,none⟩)]) (g:=fun x:fu=>bo r x.tk.de) (n:=r.lv.toNat) (AK.keeps aR.keeps) (hM.keeps aR.keeps) (by omega) (fun x _=>by unfold bo;simp) (fun x hx w2 eF=>NA (hR.keeps eF) (hA.keeps eF) (by omega) (by omega))
 rintro ⟨hv,oF⟩ QH
 dsimp only at QH
 dsimp only [id_eq,Zb,Za]
 refine aT (E:=32) (sz:=1) (v:=hv) (by exact .here) fun lW kF e=>?_
 subst e
 refine Ja rfl<|Jn<|Jq<|Jr<|Jv rfl<|JI rfl<|Jv rfl<|Jn<|J0 ?_
 have hdl:∀ i,(jF r (cr l) i).length≤r.po.length:=fun i=>by rw [kS];exact Z6 _ _
 have yx:(cr l).length=l.length:=by unfold cr;rw [Zd]
 refine aW (ι:=Nat×Value×List Po) (fun y=>y.1≤l.length∧y.2.2=jF r (cr l) y.1) (fun y=>[(34,.int .i64 (y.1:Nat)),(33,.int .i64 (l.length:Nat)),(32,.slice a l.length cp),(9,.slice lW l.length kF),(8,.pointer (some ⟨b8,0,none⟩)),(4,.pointer (some ⟨b4,0,none⟩)),(1,.slice a l.length cp)])
  (fun y=>[JP b8 r s1 d1 t1 (y.2.1),J1 r s1,J2 r d1,J3 r t1,row 188 3 y.2.1 y.2.2.length (fO y.2.2),row 32 1 (.slice lW l.length kF) l.length oF,mB 9 oF (l.map fun y=>aL (bo r y.tk.de)),bH b4 (.cells #[.int .i64 0,.int .i64 0,.slice none 0 0,.slice none 0 0,.slice none 0 0,.slice none 0 0] 41 (0,0))]) (fun y=>l.length-y.1) ?_ ?_
 ·apply aI (0,p1,r.po) ⟨Zi _,rfl⟩
  case hs1=>exact cg
  case ht=>exact .cons bL (.cons bL (.cons bL (.cons bL (.cons bL (.cons .here (.cons .here (.cons .here .nil)))))))
 rintro ⟨i,pv,L⟩ ⟨hi,hL⟩
 dsimp only at hi hL ⊢
 by_cases aM:i<l.length
 ·have Rf:=jk aM
  have cG:=ha Rf
  have aB:=(hc i _ (jy aM)).2
  have gJ:=Zj aM
  have Ce:=hM _ gJ
  have OX:(cr l).getD i Tk.zero=l[i].tk:=by unfold cr;rw [Zk,ZF,Zc aM];rfl
  have fJ:jF r (cr l) (i+1)=nE r l[i].tk l[i].tk.so.length (jF r (cr l) i):=by rw [jF,OX]
  have hls:=hT.lv l[i].tk (Z3 gJ)
  have hdi:L.length≤r.po.length:=by rw [hL];exact hdl i
  rw [← hL] at fJ
  have X1:∀ k,(nE r l[i].tk k L).length≤r.po.length:=fun k=>ZX (by rw [nu];exact Z6 _ _) hdi
  have I3:∃ u,oF[i]? = some u:=⟨oF[i],Zc (by omega)⟩
  have TD:(l.map fun y=>aL (bo r y.tk.de))[i]? = some (aL (bo r l[i].tk.de)):=by rw [ZF,Zc aM];rfl
  unfold fu.cells at aB
  generalize hti:l[i]=ti at *
  obtain ⟨tk,tv⟩:=ti
  dsimp only at *
  obtain ⟨sa,HR,sb,P1,rfl,I8,vu,QS,QR⟩:=Ce
  rw [bW] at *
  unfold maxLen at vu
  (refine Jr<|JA rfl<|Jn<|Jq<|Jd rfl fun az=>Jk<|Jq<|J0<|Jr<|Jv rfl<|ab (fM cG az) rfl<|ab (gW (ew.base aB rfl)) rfl<|Jz rfl rfl fun _ _=>Ja rfl<|aq (.of rfl) (.of rfl) .here rfl rfl (fY rfl rfl) (bG rfl) ak<|Ji<|bS rfl rfl ae<|JL rfl .here rfl<|JI rfl<|Jv rfl<|Jn<|J0 ?_)
  rename_i Pu Yi
  obtain ⟨u,hu⟩:=I3
  have RI:(bo r tk.de).length=r.lv.toNat:=by unfold bo;simp
  refine uF (E:=9) (j:=i) (n:=r.lv.toNat) AH hu TD (by rw [c7,RI]) ?_
  refine cU (E:=9) (sz:=1) (v:=u) (by exact .here) (by omega) fun gu uc Hl e WT TJ WS WR=>?_
  subst e
  refine cU (E:=32) (sz:=1) (v:=.slice lW l.length kF) iE (by omega) fun gh hc np e XL XK XJ XI=>?_
  cases e
  have f1:(oF++np)[i*1]? = some (.slice (some ⟨gu,0,none⟩) r.lv.toNat uc):=by
   rw [Zaq,ZD (by omega)];exact hu
  have f2:∀ k,k<r.lv.toNat→(aL (bo r tk.de)++Hl)[k*1]? = some (.string (jG r (k:Nat) tk.de)):=fun k hk=>by
   rw [Zaq,ZD (by rw [c7,RI];exact hk)]
   unfold aL bo
   rw [ZF,ZF,List.getElem?_range hk];rfl
  refine aW (ι:=Nat×Value×List Po) (fun y=>y.1≤tk.so.length∧y.2.2=nE r tk y.1 L) (fun y=>[(42,.int .i64 (y.1:Nat)),(41,.int .i64 (tk.so.length:Nat)),(40,.slice sa tk.so.length HR),(34,.int .i64 (i:Nat)),(33,.int .i64 (l.length:Nat)),(32,.slice a l.length cp),(10,.int .i64 (i:Nat)),(11,.pointer (some ⟨Pu,0,none⟩)),(9,.slice (some ⟨gh,0,none⟩) l.length kF),(8,.pointer (some ⟨b8,0,none⟩)),(4,.pointer (some ⟨b4,0,none⟩)),(1,.slice a l.length cp)])
   (fun y=>[JP b8 r s1 d1 t1 (y.2.1),J1 r s1,J2 r d1,J3 r t1,row 188 3 y.2.1 y.2.2.length (fO y.2.2),bH gh (.cells (oF++np).toArray 32 (0,0)),bH gu (.cells (aL (bo r tk.de)++Hl).toArray 9 (0,0)),rj 9 oF (l.map fun y=>aL (bo r y.tk.de)) i,ri 9 oF (l.map fun y=>aL (bo r y.tk.de)) i,bH b4 (.cells #[.int .i64 0,.int .i64 0,.slice none 0 0,.slice none 0 0,.slice none 0 0,.slice none 0 0] 41 (0,0)),bH Pu (.cells #[.string tk.de,.slice sa tk.so.length HR] 78 (0,0))]) (fun y=>tk.so.length-y.1) ?_ ?_
  ·apply aI (0,pv,L) ⟨Zi _,rfl⟩
   case hs1=>exact cg
   case ht=>exact .cons eX (.cons eX (.cons eX (.cons eX (.cons eX (.cons .here (.cons .here (.cons .here (.cons .here (.cons (.there .here) (.cons .here .nil))))))))))
  rintro ⟨k,H4,L2⟩ ⟨hk,ur⟩
  dsimp only at hk ur ⊢
  by_cases tu:k<tk.so.length
  ·have DP:=QS (lf tu)
   have DO:w.cell? ⟨sb,P1+k*1,none⟩=some (.string tk.so[k]):=(QR k _ (ji tu)).2 0 _ rfl
   have f3:=f2 k (by omega)
   have jv:tk.at k=tk.so[k]:=by unfold Tk.at;rw [Zk,Zc tu];rfl
   have hdk:=X1 k
   rw [← ur] at hdk
   have hs2:nE r tk (k+1) L=if nK r tk k then L2.filter (fun x=>!yn (k:Nat) tk.de x) else L2:=by rw [nE,← ur]
   have hdb:nK r tk k=(!decide (tk.so[k]=⟨#[]⟩)&&!decide (tk.so[k]=jG r (k:Nat) tk.de)):=by unfold nK;rw [jv]
   generalize jG r (k:Nat) tk.de=ck at *
   generalize tk.so[k]=sk at *
   (refine Jr<|JA rfl<|Jn<|Jq<|Jd rfl fun az=>Jk<|Jq<|J0<|Jr<|Jv rfl<|ab (ar (.of rfl) (.of rfl) DP (by omega) az bb) rfl ?_;refine ab (ag (.of rfl) (At.base DO rfl)) rfl ?_;refine Ja rfl<|Ja rfl<|Ji<|Jv rfl<|ab (eZ (.of rfl) (.of rfl)) rfl ?_;refine Jv rfl<|il rfl rfl rfl rfl ?_;refine il rfl rfl rfl rfl ?_;refine il rfl rfl rfl rfl ?_;refine aD rfl rfl inferInstance (fun hg bA=>(ar (.bI hg rfl) (.bI hg rfl) rfl (by omega) (by assumption) bb)) rfl ?_;refine aD rfl rfl inferInstance (fun hg bA=>(ag (.bI hg rfl) (At.jL eX f1))) rfl ?_;refine il rfl rfl rfl rfl ?_;refine aD rfl rfl inferInstance (fun hg bA=>(ar (.bI hg rfl) (.bI hg rfl) rfl (by omega) (by omega) bb)) rfl ?_;refine aD rfl rfl inferInstance (fun hg bA=>(ag (.bI hg rfl) (At.jL pz f3))) rfl ?_;refine aD rfl rfl inferInstance (fun hg bA=>(eZ (.bI hg rfl) (.bI hg rfl))) rfl ?_;refine ab (cD (.of rfl) rfl) rfl ?_;refine Jn<|pt rfl (fun az=>?_) fun az=>?_;refine Jg<|Jv rfl<|bS rfl rfl ae ?_;refine JL rfl lL rfl ?_;rotate_left;refine Jw<|Jj<|Jt<|Jg<|JB rfl (by omega)<|Jv rfl<|Jn ?_;rotate_right)
   ·obtain ⟨q1,q2⟩:sk≠⟨#[]⟩∧sk≠ck:=by simpa using az
    have DV:nK r tk k=true:=by rw [hdb,decide_eq_false q1,decide_eq_false q2];rfl
    rw [DV,if_pos rfl] at hs2
    obtain ⟨L3,O8⟩:∃ L3,L3=nE r tk (k+1) L:=⟨_,rfl⟩
    rw [← O8] at hs2
    with_reducible apply fP (As:=[JP b8 r s1 d1 t1 H4,row 188 3 H4 L2.length (fO L2)])
    case hr=>exact eM
    case hd=>rfl
    case ht=>exact l6
    case hc=>
     intro w1 AT aR vA hs1 CQ kQ
     exact xC (r:=r) (s:=s1) (d:=d1) (t:=t1) (p:=H4) (b:=b8) (l:=L2) (k:Nat) tk.de vA hs1 (by omega)
    intro p3 _
    dsimp only [id_eq,Zb,Za]
    unfold RB PB
    rw [← hs2]
    refine Jx<|Jj<|Jt<|Jg<|JB rfl (by omega)<|Jv rfl<|Jn ?_
    apply aK (k+1,p3,L3) ⟨by show k+1≤_;omega,O8⟩ (by show tk.so.length-(k+1)<tk.so.length-k;omega)
    case hs1=>exact cg
    case ht=>exact l6
   ·have DV:nK r tk k=false:=by
     rw [hdb]
     simp only [ne_eq,Zo,decide_eq_true_eq,Classical.not_and_iff_not_or_not] at az
     rcases az with e | e
     ·rw [decide_eq_true e];rfl
     ·rw [decide_eq_true e];simp
    rw [DV,if_neg (by decide)] at hs2
    apply aK (k+1,H4,L2) ⟨by show k+1≤_;omega,hs2.symm⟩ (by show tk.so.length-(k+1)<tk.so.length-k;omega)
    case hs1=>exact cg
    case ht=>exact l6
  ·have e:k=tk.so.length:=by omega
   subst e
   refine Jr<|JA rfl<|Jn<|Jq<|Jc rfl fun az=>Jp<|Jl<|Jo<|Jj<|Jt<|Jg<|JB rfl (by omega)<|Jv rfl<|Jn ?_
   refine cN (E:=9) (sz:=1) (g:=gu) pz WT TJ WS WR ?_
   refine cN (E:=32) (sz:=1) (g:=gh) pz XL XK XJ XI ?_
   have Vz:(aL (bo r tk.de)).length=r.lv.toNat:=by rw [c7,RI]
   with_reducible apply xK (E:=9) (vs:=oF) (xs:=l.map fun y=>aL (bo r y.tk.de)) (v:=.slice (some ⟨gu,0,none⟩) r.lv.toNat uc) (x:=aL (bo r tk.de)) (n:=r.lv.toNat) i
   case ht=>exact AH
   case ht2=>exact AH
   case ht3=>exact Take.there .here
   case hv=>exact hu
   case hn=>exact Vz
   case hx=>exact TD
   case k=>
    apply aK (i+1,H4,L2) ⟨by show i+1≤_;omega,by show L2=jF r (cr l) (i+1);rw [fJ,ur]⟩ (by show l.length-(i+1)<l.length-i;omega)
    case hs1=>exact cg
    case ht=>exact .cons bL (.cons bL (.cons bL (.cons bL (.cons bL (.cons (.there .here) (.cons .here (.cons .here .nil)))))))
 ·have e:i=l.length:=by omega
  subst e
  refine Jr<|JA rfl<|Jn<|Jq<|Jc rfl fun az=>Jp<|Jl<|Jo<|Jt<|Jr ?_
  have hLf:L=r.po.filter (fun p=>!Ku r (cr l) l.length p):=by rw [hL,kS]
  have Fi:=hdl l.length
  rw [← hL] at Fi
  with_reducible apply fP (As:=[JP b8 r s1 d1 t1 pv,J1 r s1,J2 r d1,J3 r t1,row 188 3 pv L.length (fO L)])
  case hr=>exact bN
  case hd=>rfl
  case ht=>exact l6
  case hc=>
   intro w1 AT aR vA hs1 CQ kQ
   exact Me (r:=r.wp L) (s:=s1) (d:=d1) (t:=t1) (p:=pv) (b:=b8) vA hs1 cT (by show L.length≤1000;omega)
  rintro ⟨pw,ff⟩ ⟨RE,VW⟩
  have qL:(r.wp L).po.filter ff=qy r (cr l):=by
   show L.filter ff=wL (cq r) (jF r (cr l) (cr l).length)
   rw [yx,← hL]
   exact Ou.tid eJ.ui (by rw [hLf];exact eJ.val.acy.sub _) ⟨RE,VW⟩
  dsimp only [id_eq,Zb,Za]
  rw [qL]
  unfold RW RB PB
  dsimp only [Zb,Za]
  try unfold JP
  try unfold J1 J2 J3
  rw [show (r.wp L).lv=r.lv from rfl,show (r.wp L).ma=r.ma from rfl,show (r.wp L).sr=r.sr from rfl,show (r.wp L).de=r.de from rfl,show (r.wp L).ti=r.ti from rfl]
  refine Jn<|Jq<|Jr<|Jv rfl<|JI rfl<|Jv rfl<|Jn<|J0 ?_
  refine aW (ι:=Nat×Value×List Po) (fun y=>y.1≤l.length∧iO r (cr l) (qy r (cr l)) y.1=some y.2.2∧iJ r y.2.2) (fun y=>[(69,.int .i64 (y.1:Nat)),(68,.int .i64 (l.length:Nat)),(67,.slice a l.length cp),(9,.slice lW l.length kF),(8,.pointer (some ⟨b8,0,none⟩)),(4,.pointer (some ⟨b4,0,none⟩)),(1,.slice a l.length cp)])
   (fun y=>[JP b8 r s1 d1 t1 (y.2.1),J1 r s1,J2 r d1,J3 r t1,row 188 3 y.2.1 y.2.2.length (fO y.2.2),row 32 1 (.slice lW l.length kF) l.length oF,mB 9 oF (l.map fun y=>aL (bo r y.tk.de)),bH b4 (.cells #[.int .i64 0,.int .i64 0,.slice none 0 0,.slice none 0 0,.slice none 0 0,.slice none 0 0] 41 (0,0))]) (fun y=>l.length-y.1) ?_ ?_
  ·have Yx:iO r (cr l) (qy r (cr l)) 0=some (qy r (cr l)):=by rw [iO]
   have h01:=(qx eJ hT).1
   generalize qy r (cr l)=D0 at *
   apply aI (0,pw,D0) ⟨Zi _,Yx,h01⟩
   case hs1=>exact cg
   case ht=>exact l6
  clear RE VW qL ff pw Fi hLf hL pv L hi
  rintro ⟨i,pv,L⟩ ⟨hi,hL,hLV⟩
  dsimp only at hi hL hLV ⊢
  by_cases aM:i<l.length
  ·have cG:=ha (jk aM)
   have aB:=(hc i _ (jy aM)).2
   have gJ:=Zj aM
   have Ce:=hM _ gJ
   have nn:i<(cr l).length:=by omega
   have Rl:(cr l)[i]=l[i].tk:=Z1 _
   have OX:(cr l).getD i Tk.zero=l[i].tk:=by rw [Zk,Zc nn,Zab,Rl]
   have Ua:=fun k hk q h1=>Qv eJ hT nn (k:=k) (q0:=L) (q:=q) hk hL h1
   have Uj:=fun k=>zR eJ hT (Zj nn) (k:=k)
   rw [Rl] at Ua Uj
   have VF:iO r (cr l) (qy r (cr l)) (i+1)=pA r l[i].tk l[i].tk.so.length L:=by rw [iO,hL,OX];rfl
   have hrf:=fun h2=>MD (r:=r) (l:=cr l) (po:=qy r (cr l)) nn hL h2
   have hls:=hT.lv l[i].tk (Z3 gJ)
   have I3:∃ u,oF[i]? = some u:=⟨oF[i],Zc (by omega)⟩
   have TD:(l.map fun y=>aL (bo r y.tk.de))[i]? = some (aL (bo r l[i].tk.de)):=by rw [ZF,Zc aM];rfl
   unfold fu.cells at aB
   generalize hti:l[i]=ti at *
   obtain ⟨tk,tv⟩:=ti
   dsimp only at *
   obtain ⟨sa,HR,sb,P1,rfl,I8,vu,QS,QR⟩:=Ce
   rw [bW] at *
   unfold maxLen at vu
   (refine Jr<|JA rfl<|Jn<|Jq<|Jd rfl fun az=>Jk<|Jq<|J0<|Jr<|Jv rfl<|ab (fM cG az) rfl<|ab (gW (ew.base aB rfl)) rfl<|Jz rfl rfl fun _ _=>Ja rfl<|aq (.of rfl) (.of rfl) .here rfl rfl (fY rfl rfl) (bG rfl) ak<|Ji<|bS rfl rfl ae<|JL rfl .here rfl<|JI rfl<|Jv rfl<|Jn<|J0 ?_)
   rename_i Sc Yg
   obtain ⟨u,hu⟩:=I3
   have RI:(bo r tk.de).length=r.lv.toNat:=by unfold bo;simp
   refine uF (E:=9) (j:=i) (n:=r.lv.toNat) AH hu TD (by rw [c7,RI]) ?_
   refine cU (E:=9) (sz:=1) (v:=u) (by exact .here) (by omega) fun gu uc Hl e WT TJ WS WR=>?_
   subst e
   refine cU (E:=32) (sz:=1) (v:=.slice lW l.length kF) iE (by omega) fun gh hc np e XL XK XJ XI=>?_
   cases e
   have f1:(oF++np)[i*1]? = some (.slice (some ⟨gu,0,none⟩) r.lv.toNat uc):=by
    rw [Zaq,ZD (by omega)];exact hu
   have f2:∀ k,k<r.lv.toNat→(aL (bo r tk.de)++Hl)[k*1]? = some (.string (jG r (k:Nat) tk.de)):=fun k hk=>by
    rw [Zaq,ZD (by rw [c7,RI];exact hk)]
    unfold aL bo
    rw [ZF,ZF,List.getElem?_range hk];rfl
   refine aW (ι:=Nat×Value×List Po) (fun y=>y.1≤tk.so.length∧pA r tk y.1 L=some y.2.2) (fun y=>[(77,.int .i64 (y.1:Nat)),(76,.int .i64 (tk.so.length:Nat)),(75,.slice sa tk.so.length HR),(69,.int .i64 (i:Nat)),(68,.int .i64 (l.length:Nat)),(67,.slice a l.length cp),(14,.int .i64 (i:Nat)),(15,.pointer (some ⟨Sc,0,none⟩)),(9,.slice (some ⟨gh,0,none⟩) l.length kF),(8,.pointer (some ⟨b8,0,none⟩)),(4,.pointer (some ⟨b4,0,none⟩)),(1,.slice a l.length cp)])
    (fun y=>[JP b8 r s1 d1 t1 (y.2.1),J1 r s1,J2 r d1,J3 r t1,row 188 3 y.2.1 y.2.2.length (fO y.2.2),bH gh (.cells (oF++np).toArray 32 (0,0)),bH gu (.cells (aL (bo r tk.de)++Hl).toArray 9 (0,0)),rj 9 oF (l.map fun y=>aL (bo r y.tk.de)) i,ri 9 oF (l.map fun y=>aL (bo r y.tk.de)) i,bH b4 (.cells #[.int .i64 0,.int .i64 0,.slice none 0 0,.slice none 0 0,.slice none 0 0,.slice none 0 0] 41 (0,0)),bH Sc (.cells #[.string tk.de,.slice sa tk.so.length HR] 78 (0,0))]) (fun y=>tk.so.length-y.1) ?_ ?_
   ·have Yx:pA r tk 0 L=some L:=by rw [pA]
    apply aI (0,pv,L) ⟨Zi _,Yx⟩
    case hs1=>exact cg
    case ht=>exact .cons eX (.cons eX (.cons eX (.cons eX (.cons eX (.cons .here (.cons .here (.cons .here (.cons .here (.cons (.there .here) (.cons .here .nil))))))))))
   rintro ⟨k,H4,L2⟩ ⟨hk,ur⟩
   dsimp only at hk ur ⊢
   obtain ⟨UE,eP⟩:=Ua k hk L2 ur
   have hfw:=mU eJ UE
   by_cases tu:k<tk.so.length
   ·have DP:=QS (lf tu)
    have DO:w.cell? ⟨sb,P1+k*1,none⟩=some (.string tk.so[k]):=(QR k _ (ji tu)).2 0 _ rfl
    have f3:=f2 k (by omega)
    have jv:tk.at k=tk.so[k]:=by unfold Tk.at;rw [Zk,Zc tu];rfl
    have hs2:pA r tk (k+1) L=if oA r tk k then (qO (r.wp L2) (k:Nat) tk.so[k] tk.de).map (fun p=>lF r L2 (k:Nat) tk.so[k] p tk.de) else some L2:=by rw [pA,ur,Option.bind_some,jv]
    have hjb:oA r tk k=true↔¬ ((tk.so[k]=⟨#[]⟩∨tk.so[k]=⟨#[45]⟩)∨tk.so[k]=jG r (k:Nat) tk.de):=by
     rw [mF,jv]
     constructor
     ·rintro ⟨x1,x2,x3⟩ ((e | e) | e)
      ·exact x1 e
      ·exact x3 e
      ·exact x2 e
     ·intro e
      exact ⟨fun c=>e (.inl (.inl c)),fun c=>e (.inr c),fun c=>e (.inl (.inr c))⟩
    have hjo:=Uj k tu
    rw [jv] at hjo
    have DV:oA r tk k=true→nK r tk k=true:=fun c=>by
     obtain ⟨x1,x2,_⟩:=mF.1 c
     exact lu.2 ⟨x1,x2⟩
    generalize jG r (k:Nat) tk.de=ck at *
    generalize tk.so[k]=sk at *
    (refine Jr<|JA rfl<|Jn<|Jq<|Jd rfl fun az=>Jk<|Jq<|J0<|Jr<|Jv rfl<|ab (ar (.of rfl) (.of rfl) DP (by omega) az bb) rfl ?_;refine ab (ag (.of rfl) (At.base DO rfl)) rfl ?_;refine Ja rfl<|Ja rfl<|Jn<|Jq<|Jr<|Jv rfl<|ab (dG (.of rfl) (.of rfl)) rfl ?_;refine Jv rfl<|il rfl rfl rfl rfl ?_;refine aD rfl rfl inferInstance (fun hg bA=>(dG (.bI hg rfl) (.of rfl))) rfl ?_;refine ab (a7 (.of rfl) rfl) rfl ?_;refine Jv rfl<|il rfl rfl rfl rfl ?_;refine il rfl rfl rfl rfl ?_;refine il rfl rfl rfl rfl ?_;refine aD rfl rfl inferInstance (fun hg bA=>(ar (.bI hg rfl) (.bI hg rfl) rfl (by omega) (by assumption) bb)) rfl ?_;refine aD rfl rfl inferInstance (fun hg bA=>(ag (.bI hg rfl) (At.jL eX f1))) rfl ?_;refine il rfl rfl rfl rfl ?_;refine aD rfl rfl inferInstance (fun hg bA=>(ar (.bI hg rfl) (.bI hg rfl) rfl (by omega) (by omega) bb)) rfl ?_;refine aD rfl rfl inferInstance (fun hg bA=>(ag (.bI hg rfl) (At.jL pz f3))) rfl ?_;refine aD rfl rfl inferInstance (fun hg bA=>(dG (.bI hg rfl) (.bI hg rfl))) rfl ?_;refine ab (a7 (.of rfl) rfl) rfl ?_;refine Jn<|pt rfl (fun az=>?_) fun az=>?_;refine Jp<|Jo<|Jt<|Jg<|JB rfl (by omega)<|Jv rfl<|Jn ?_;rotate_left;refine Jk<|Jr<|ab (cR .here) rfl ?_;refine Jv rfl<|Jv rfl<|bS rfl rfl ae ?_;refine JL rfl lL rfl ?_;rotate_right)
    ·have hj:oA r tk k=false:=by
      rw [← Zau]
      exact fun c=>hjb.1 c az
     rw [hj,if_neg (by decide)] at hs2
     apply aK (k+1,H4,L2) ⟨by show k+1≤_;omega,hs2⟩ (by show tk.so.length-(k+1)<tk.so.length-k;omega)
     case hs1=>exact cg
     case ht=>exact l6
    have hj:oA r tk k=true:=hjb.2 (fun c=>c.elim (fun c=>c.elim az.1.1 az.1.2) az.2)
    obtain ⟨⟨j1,j2⟩,rz,fJ,_⟩:=hjo hj
    have w7:=eP k (Zz _) tu (DV hj)
    rw [hj,if_pos rfl] at hs2
    refine JN wj rfl (fun w1 aR=>OA (r:=r.wp L2) (k:Nat) sk tk.de (RR.wp (cK aR (by exact Take.there .here) rfl) (cL aR bL rfl) (cJ aR cW rfl) (cE aR dT rfl)) eJ.ui.wp UE.wp eJ.Pp.wp rz fJ) ?_
    rintro ⟨V1,⟨xv,xp,xf⟩,kz⟩ ⟨Y1,Y0,YZ⟩
    dsimp only at Y1 Y0 YZ
    dsimp only [Wy.cells,Zb,Za]
    (refine Jv rfl<|JJ rfl rfl<|JJ rfl rfl<|Jz rfl rfl fun _ _=>aq (.of rfl) (.of rfl) .here rfl rfl (fY YZ rfl) (bG rfl) ak<|Ja rfl<|Jn<|Jq<|Jr<|Jv rfl<|JH rfl<|Jn<|pt rfl (fun az=>?_) fun az=>?_;refine Jr<|ab (aU .nil ak) rfl<|Jv rfl<|aq (.of rfl) (.of rfl) qJ rfl rfl (gA rfl rfl rfl rfl rfl rfl) (bG rfl) ak<|Ja rfl<|Ja rfl<|Jn<|Ju<|Jm<|Jh<|Jh<|Jm<|Jm<|Jh<|Jh<|Jm<|Jh ?_;rotate_left;refine Jk<|Jg<|Jv rfl<|Jv rfl<|ab (cR .here) rfl<|bS rfl rfl ae<|JL rfl iY rfl ?_;rotate_right)
    ·have hf:V1=false:=by simpa using az
     subst hf
     have e1:pA r tk (k+1) L=none:=by rw [hs2,xE (Y0 rfl)];rfl
     have e2:iO r (cr l) (qy r (cr l)) (i+1)=none:=by rw [VF];exact F9 e1 (by omega)
     have e3:=xU e2 (m:=(cr l).length) (by omega)
     have e4:hP r (cr l)=(Ro.nil,((i:Nat):Int),18):=by
      unfold hP
      rw [if_neg hL0]
      show (match iO r (cr l) (qy r (cr l)) (cr l).length with | none=>(Ro.nil,((zx r (cr l) (qy r (cr l)):Nat):Int),(18:Int)) | some po=>(r.wp po,0,0))=_
      rw [e3,hrf e2]
     rw [e4]
     dsimp only
     refine aQ 186 2 ?_
     refine aQ 90 3 ?_
     refine aQ 187 3 ?_
     refine aQ 188 3 ?_
     first | with_reducible apply aO | with_reducible apply aP
     case he=>exact lX rfl inferInstance rfl dT ak (by rfl) (by rfl) (by rfl)
     case hR=>
      intro w' aA
      exact aG (.slice none 0 0,.slice none 0 0,.slice none 0 0,.slice none 0 0) trivial (by exact .cons cW (.cons bL (.cons (.there .here) (.cons .here .nil)))) aA rfl
    have hf:V1=true:=by simpa using az
    subst hf
    obtain ⟨hle,Rw⟩:=Y1 rfl
    have hwp:=xD hle
    have Nw:(fB r L2 (k:Nat) sk).least (nQ r tk.de) xp:=hle
    have j9:pA r tk (k+1) L=some (lF r L2 (k:Nat) sk xp tk.de):=by rw [hs2,hwp];rfl
    have hVn:=HP eJ ⟨j1,j2⟩ UE rz fJ w7 Nw
    have hxp:∀ i∈xp,i<r.ti.length:=Wn.BJ Nw.1
    have ON:xp.length≤6:=by have:=Wn.u9 Nw.1;show _≤_;have h6:(fB r L2 (k:Nat) sk).n=r.ti.length:=rfl;omega
    refine F5 Rw (by exact Take.there .here) fun nL=>?_
    with_reducible apply fP (As:=[JP b8 r s1 d1 t1 H4,J1 r s1,J2 r d1,J3 r t1,row 188 3 H4 L2.length (fO L2),row 3 1 xv xp.length (fS xp)])
    case hr=>exact Lf
    case hd=>rfl
    case ht=>exact .cons cW (.cons cW (.cons cW (.cons cW (.cons cW (.cons .here .nil)))))
    case hc=>
     intro w1 AT aR vA hs1 CQ kQ
     exact S7 (r:=r) (s:=s1) (d:=d1) (t:=t1) (p:=H4) (b:=b8) (po:=L2) xf (k:Nat) sk tk.de vA hs1 cT (by omega) (by omega) eJ.Pp hxp UE.out fJ hVn.qK
    intro p3 _
    dsimp only [id_eq,Zb,Za]
    unfold RB PB
    generalize lF r L2 (k:Nat) sk xp tk.de=L3 at *
    refine Jx<|Jj<|Jt<|Jg<|JB rfl (by omega)<|Jv rfl<|Jn ?_
    apply aK (k+1,p3,L3) ⟨by show k+1≤_;omega,j9⟩ (by show tk.so.length-(k+1)<tk.so.length-k;omega)
    case hs1=>exact cg
    case ht=>exact l6
   ·have e:k=tk.so.length:=by omega
    subst e
    refine Jr<|JA rfl<|Jn<|Jq<|Jc rfl fun az=>Jp<|Jl<|Jo<|Jj<|Jt<|Jg<|JB rfl (by omega)<|Jv rfl<|Jn ?_
    refine cN (E:=9) (sz:=1) (g:=gu) pz WT TJ WS WR ?_
    refine cN (E:=32) (sz:=1) (g:=gh) pz XL XK XJ XI ?_
    have Vz:(aL (bo r tk.de)).length=r.lv.toNat:=by rw [c7,RI]
    with_reducible apply xK (E:=9) (vs:=oF) (xs:=l.map fun y=>aL (bo r y.tk.de)) (v:=.slice (some ⟨gu,0,none⟩) r.lv.toNat uc) (x:=aL (bo r tk.de)) (n:=r.lv.toNat) i
    case ht=>exact AH
    case ht2=>exact AH
    case ht3=>exact Take.there .here
    case hv=>exact hu
    case hn=>exact Vz
    case hx=>exact TD
    case k=>
     have hne:iO r (cr l) (qy r (cr l)) (i+1)=some L2:=by rw [VF,ur]
     apply aK (i+1,H4,L2) ⟨by show i+1≤_;omega,hne,UE⟩ (by show l.length-(i+1)<l.length-i;omega)
     case hs1=>exact cg
     case ht=>exact .cons bL (.cons bL (.cons bL (.cons bL (.cons bL (.cons (.there .here) (.cons .here (.cons .here .nil)))))))
  ·have e:i=l.length:=by omega
   subst e
   refine Jr<|JA rfl<|Jn<|Jq<|Jc rfl fun az=>Jp<|Jl<|Jo<|Jt<|Jr<|ab (cR .here) rfl ?_
   have e4:hP r (cr l)=(r.wp L,0,0):=by
    unfold hP
    rw [if_neg hL0]
    show (match iO r (cr l) (qy r (cr l)) (cr l).length with | none=>(Ro.nil,((zx r (cr l) (qy r (cr l)):Nat):Int),(18:Int)) | some po=>(r.wp po,0,0))=_
    rw [yx,hL]
   rw [e4]
   dsimp only
   refine aT (E:=188) (sz:=3) (v:=pv) dT fun _ _ e=>?_
   have k5:pv.oneCell'=true:=by rw [e];rfl
   clear e
   (refine aq (.of rfl) (.of rfl) AH rfl rfl (gA rfl rfl k1 k2 k3 k5) (bG rfl) ak<|Ja rfl<|Ja rfl<|Jn<|Je ?_)
   first | with_reducible apply aO | with_reducible apply aP
   case he=>exact lX rfl inferInstance rfl .here ak (by rfl) (by rfl) (by rfl)
   case hR=>
    intro w' aA
    exact aG (s1,d1,t1,pv) trivial (by exact .cons bL (.cons bL (.cons bL (.cons bL .nil)))) aA rfl
def gI (r:Ro) (l:List Tk):Ro×Int×Int:=if fX r≠0 then (Ro.nil,0,fX r) else if tH r l≠0 then (Ro.nil,0,tH r l) else hP r l
theorem zd (l:List fu):∀ r∈iF l,r.length=2:=fun r hr=>by obtain ⟨x,_,rfl⟩:=Zt.1 hr;rfl
theorem lN {c:Cx} {hs hs':List bd} {w:World} {l:List fu} {E:TypeId} {v:Value} {n:Nat} (hm:Mem c hs w) (ht:Take hs (row E 2 v n (iF l).flatten) hs') (hn:l.length=n):Rd w v 2 (iF l):=hm.om ht rfl (zd l) (by rw [du,hn])
theorem a8 (l m:List bd):bD (l++m) l m:=oZ [] l m
theorem di {c:Cx} {D:List Nat} {sl:aH} {hs hs':List bd} {X:Act→World→Prop} {r:Ro} {s d t p:Value} (ht:bD hs (nS r (s,d,t,p)) hs')
  (k:s.oneCell'=true→d.oneCell'=true→t.oneCell'=true→p.oneCell'=true→Tr c D sl (J1 r s::J2 r d::J3 r t::J4 r p::hs') X):Tr c D sl hs X:=by
 intro a w bh
 have hm:=bh.mem.jo (ht.append (mE D))
 have k2:Tr c D sl (J1 r s::J2 r d::J3 r t::J4 r p::hs') X:=by
  refine aT (E:=186) (sz:=2) (v:=s) .here fun _ _ e=>?_
  have k1:s.oneCell'=true:=by rw [e];rfl
  clear e
  refine aT (E:=90) (sz:=3) (v:=d) (.there .here) fun _ _ e=>?_
  have k2:d.oneCell'=true:=by rw [e];rfl
  clear e
  refine aT (E:=187) (sz:=3) (v:=t) bL fun _ _ e=>?_
  have k3:t.oneCell'=true:=by rw [e];rfl
  clear e
  refine aT (E:=188) (sz:=3) (v:=p) cW fun _ _ e=>?_
  have k4:p.oneCell'=true:=by rw [e];rfl
  clear e
  exact k k1 k2 k3 k4
 exact k2 a w (bh.heap hm)
set_option maxHeartbeats 1000000 in
theorem AD {r:Ro} {s d t p kv:Value} {l:List fu} {w:World} (h:RR w r s d t p) (cT:lD r) (hw:Rd w kv 2 (iF l)) (hM:sR w l) :
  bu Tryz.prog 45 [RA r s d t p,kv] w [] (fun _:Value×Value×Value×Value=>True) (fun x=>.tuple #[RA (gI r (cr l)).1 x.1 x.2.1 x.2.2.1 x.2.2.2,.int .i64 (gI r (cr l)).2.1,.int .i64 (gI r (cr l)).2.2]) (fun x=>nS (gI r (cr l)).1 x):=by
 have h1:=Rd.one h.sr
 have h2:=Rd.one h.de
 have h3:=Rd.one h.ti
 have h4:=Rd.one h.po
 have VN:=Rd.one hw
 have eQ:∀ w',aJ [] w w'→aj Tryz.prog 34 [.agg #[.int .i64 r.lv,.int .i64 r.ma,s,d,t,p]] w' (.int .i64 (fX r)):=fun w' hk=>eH (h.keeps hk) cT
 have htk:∀ w',aJ [] w w'→aj Tryz.prog 164 [.agg #[.int .i64 r.lv,.int .i64 r.ma,s,d,t,p],kv] w' (.int .i64 (tH r (cr l))):=fun w' hk=>rK (h.keeps hk) (hw.keeps hk) (hM.keeps hk)
 unfold RA
 refine aS Tryz.func45 rfl rfl ?_
 (refine Jr<|Jy rfl rfl fun _ _=>Jz rfl rfl fun _ _=>Ja rfl<|Ja rfl<|Jn<|Jq<|Jr<|ab (cR (.there .here)) rfl<|ai bN rfl (fun w' aA=>(eQ w' (Mem.keeps aA)))<|Ja rfl<|Ji<|Jv rfl<|JD rfl<|Jn<|gm rfl (fun az=>?_) fun az=>?_;refine Jr<|ab (aU .nil ak) rfl<|Jv rfl<|aq (.of rfl) (.of rfl) .here rfl rfl (gA rfl rfl rfl rfl rfl rfl) (bG rfl) ak<|Ja rfl<|Ja rfl<|Jn<|Ju ?_;rotate_left;refine Jk<|Jq<|Jr<|ab (cR (.there .here)) rfl<|Jv rfl<|ai bj rfl (fun w' aA=>(htk w' (Mem.keeps aA)))<|Ja rfl<|Ji<|Jv rfl<|JD rfl<|Jn<|gm rfl (fun az=>?_) fun az=>?_;refine Jr<|ab (aU .nil ak) rfl<|Jv rfl<|aq (.of rfl) (.of rfl) .here rfl rfl (gA rfl rfl rfl rfl rfl rfl) (bG rfl) ak<|Ja rfl<|Ja rfl<|Jn<|Ju ?_;rotate_left;refine Jk<|Jr<|ab (cR (.there .here)) rfl<|Jv rfl ?_;rotate_right;rotate_right)
 ·have e:gI r (cr l)=(Ro.nil,0,fX r):=if_pos az
  rw [e]
  dsimp only
  refine aQ 186 2<|aQ 90 3<|aQ 187 3<|aQ 188 3 ?_
  first | with_reducible apply aO | with_reducible apply aP
  case he=>exact lX rfl inferInstance rfl dT ak (by rfl) (by rfl) (by rfl)
  case hR=>
   intro w' aA
   exact aG (.slice none 0 0,.slice none 0 0,.slice none 0 0,.slice none 0 0) trivial (by exact .cons cW (.cons bL (.cons (.there .here) (.cons .here .nil)))) aA rfl
 ·have e:gI r (cr l)=(Ro.nil,0,tH r (cr l)):=by unfold gI;rw [if_neg (by assumption),if_pos az]
  rw [e]
  dsimp only
  refine aQ 186 2<|aQ 90 3<|aQ 187 3<|aQ 188 3 ?_
  first | with_reducible apply aO | with_reducible apply aP
  case he=>exact lX rfl inferInstance rfl dT ak (by rfl) (by rfl) (by rfl)
  case hR=>
   intro w' aA
   exact aG (.slice none 0 0,.slice none 0 0,.slice none 0 0,.slice none 0 0) trivial (by exact .cons cW (.cons bL (.cons (.there .here) (.cons .here .nil)))) aA rfl
 have xe:fX r=0:=Zo.1 (by assumption)
 have QL:tH r (cr l)=0:=Zo.1 az
 have e:gI r (cr l)=hP r (cr l):=by unfold gI;rw [if_neg (not_not_intro xe),if_neg (not_not_intro QL)]
 have eJ:=CM xe
 have hf:=mU eJ eJ.val
 rw [e]
 refine JN bj rfl (fun w1 aR=>EG (h.keeps aR.keeps) eJ (by omega) (hw.keeps aR.keeps) (hM.keeps aR.keeps) (qR.1 QL).2) ?_
 generalize hP r (cr l)=R
 obtain ⟨R,at_,e_⟩:=R
 rintro ⟨s1,d1,t1,p1⟩ _
 dsimp only
 unfold RA
 refine di (r:=R) (s:=s1) (d:=d1) (t:=t1) (p:=p1) (a8 _ _) fun k1 k2 k3 k4=>?_
 (refine JJ rfl rfl<|JJ rfl rfl<|JJ rfl rfl<|aq (.of rfl) (.of rfl) dT rfl rfl (gA rfl rfl k1 k2 k3 k4) (bG rfl) ak<|Ja rfl<|Ja rfl<|Jn<|Je ?_)
 first | with_reducible apply aO | with_reducible apply aP
 case he=>exact lX rfl inferInstance rfl .here ak (by rfl) (by rfl) (by rfl)
 case hR=>
  intro w' aA
  exact aG (s1,d1,t1,p1) trivial (by exact .cons (.there .here) (.cons (.there .here) (.cons (.there .here) (.cons (.there .here) .nil)))) aA rfl
set_option maxHeartbeats 1000000 in
theorem FL {r:Ro} {s d t p:Value} {x:fu} {w:World} (h:RR w r s d t p) (cT:lD r) (hM:Rd w x.v 1 (im x.tk.so)) :
  bu Tryz.prog 48 [RA r s d t p,.agg x.cells.toArray] w [] (fun _:Value×Value×Value×Value=>True) (fun y=>.tuple #[RA (gI r [x.tk]).1 y.1 y.2.1 y.2.2.1 y.2.2.2,.int .i64 (gI r [x.tk]).2.2]) (fun y=>nS (gI r [x.tk]).1 y):=by
 have h1:=Rd.one h.sr
 have h2:=Rd.one h.de
 have h3:=Rd.one h.ti
 have h4:=Rd.one h.po
 have VN:=Rd.one hM
 unfold RA fu.cells
 refine aS Tryz.func48 rfl rfl ?_
 (refine Jr<|Jy rfl rfl fun _ _=>Jy rfl rfl fun _ _=>Jz rfl rfl fun _ _=>Ja rfl<|Ji<|ab (cR bL) rfl<|ab (cR (.there .here)) rfl<|br (bB (.cons (.of rfl) .nil) rfl rfl bQ bQ ak) rfl fun _ _=>?_)
 rename_i b2 tL b3 vI b4 wA bq nq
 refine bZ (g:=bq) (E:=78) (xs:=[.string x.tk.de,x.v]) (ys:=(iF [x]).flatten) 1 2 (by exact .here) (by exact rfl) rfl rfl ?_
 with_reducible apply jw
 case hr=>exact bj
 case hd=>rfl
 case ht=>exact bD.nil
 case hc=>
  intro w1 fp aR _ hs1
  obtain rfl:fp=[]:=hs1
  have hR:Rd w1 (.slice (some ⟨bq,0,none⟩) 1 1) 2 (iF [x]):=lN (l:=[x]) aR (by exact .here) (by exact rfl)
  exact AD (l:=[x]) (h.keeps aR.keeps) cT hR (fun y hy=>by rw [ZB.1 hy];exact hM.keeps aR.keeps)
 rw [show cr [x]=[x.tk] from rfl]
 generalize gI r [x.tk]=R
 obtain ⟨R,at_,e_⟩:=R
 rintro ⟨s1,d1,t1,p1⟩ _
 dsimp only
 unfold RA
 refine di (r:=R) (s:=s1) (d:=d1) (t:=t1) (p:=p1) (a8 _ _) fun k1 k2 k3 k4=>?_
 (refine Jv rfl<|JJ rfl rfl<|JJ rfl rfl<|JJ rfl rfl<|Jz rfl rfl fun _ _=>aq (.of rfl) (.of rfl) .here rfl rfl (gA rfl rfl k1 k2 k3 k4) (bG rfl) ak<|Ja rfl<|Ja rfl<|Ji<|ab (cR .here) rfl<|Jv rfl<|aq (.of rfl) (.of rfl) pz rfl rfl (gA rfl rfl k1 k2 k3 k4) (bG rfl) ak<|Ja rfl<|Jn<|Je ?_)
 first | with_reducible apply aO | with_reducible apply aP
 case he=>exact sG rfl inferInstance rfl .here ak (by rfl) (by rfl)
 case hR=>
  intro w' aA
  exact aG (s1,d1,t1,p1) trivial (by exact .cons bL (.cons bL (.cons bL (.cons bL .nil)))) aA rfl
end Go.Proofs.A1
