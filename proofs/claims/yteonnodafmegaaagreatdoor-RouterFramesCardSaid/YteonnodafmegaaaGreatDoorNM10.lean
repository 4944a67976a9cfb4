/- Parts of the proof: P5s P5u P5v P5x P5y P5z P6a KY GkMapR KZ GkEnds3 LA P6b GkPoolJ LB LC LD. -/
import Derived.Test.YteonnodafmegaaaGreatDoorNM09
import Derived.Test.YteonnodafmegaaaGreatDoorNM04
import Derived.Test.YteonnodafmegaaaGreatDoorNM03
import Derived.Laws.IdiomRangeMap
set_option linter.unusedSectionVars false
set_option linter.unusedVariables false
set_option linter.unusedSimpArgs false
namespace Go.Proofs.A1
open Go Go.SL
theorem zr {r:Ro} (hd:∀ x∈r.de,0≤x.mx) (ht:∀ x∈r.ti,0≤x.fr) {s:ByteArray} (h:s∈cy r∨s∈cU r):0≤kq r s:=by
 unfold kq
 by_cases h1:0≤bE (cy r) s
 ·obtain ⟨hl,_⟩:=fE h1
  rw [if_pos h1,Zk,Zc (by unfold cy at hl;rwa [Zd] at hl)]
  exact hd _ (Zj _)
 ·rw [if_neg h1]
  have h2:0≤bE (cU r) s:=by
   rcases h with h | h
   ·exact absurd (eC h) h1
   ·exact eC h
  obtain ⟨hl,_⟩:=fE h2
  rw [if_pos h2,Zk,Zc (by unfold cU at hl;rwa [Zd] at hl)]
  exact ht _ (Zj _)
theorem Nt {r:Ro} (hd:∀ x∈r.sr,0≤x.mx) (ht:∀ x∈r.ti,0≤x.to) {s:ByteArray} (h:s∈cC r∨s∈cU r):0≤jZ r s:=by
 unfold jZ
 by_cases h1:0≤bE (cC r) s
 ·obtain ⟨hl,_⟩:=fE h1
  rw [if_pos h1,Zk,Zc (by unfold cC at hl;rwa [Zd] at hl)]
  exact hd _ (Zj _)
 ·rw [if_neg h1]
  have h2:0≤bE (cU r) s:=by
   rcases h with h | h
   ·exact absurd (eC h) h1
   ·exact eC h
  obtain ⟨hl,_⟩:=fE h2
  rw [if_pos h2,Zk,Zc (by unfold cU at hl;rwa [Zd] at hl)]
  exact ht _ (Zj _)
structure Hh (r:Ro):Prop where
 PD:CN r
 len:r.sr.length≤8∧r.de.length≤8∧r.ti.length≤6
 sm:∀ x∈r.sr,0≤x.mx∧x.mx<r.ma
 dm:∀ x∈r.de,0≤x.mx∧x.mx<r.ma
 tm:∀ x∈r.ti,(0≤x.fr∧x.fr<r.ma)∧(0≤x.to∧x.to<r.ma)∧x.fr≠x.to
 nm:∀ s∈ef r,jY s=true
theorem zn {α:Type} {qd:Int} {bf:List ByteArray} {nm:α→ByteArray} {ck:α→Int} {l:List α} (h:eS qd bf nm ck l=0):∀ x∈l,jY (nm x)=true:=by
 intro x hx
 obtain ⟨k,hk,rfl⟩:=Zs hx
 unfold eS at h
 split at h
 ·cases h
 ·have:=dj.1 h k hk
  rw [od hk,cq] at this
  have:=(bK (by decide)).1 (this _ Zt)
  simpa using this
theorem prt {r:Ro} (h:jK r=0):Hh r:=by
 obtain ⟨kM,hlen,hs,hd,ht⟩:=zo h
 have h0:=h
 unfold jK at h0
 rw [cq] at h0
 refine ⟨kM,hlen,fun x hx=>jj.1 (hs x hx),fun x hx=>jj.1 (hd x hx),fun x hx=>?_,fun s hs=>?_⟩
 ·have:=ht x hx
  unfold nA at this
  rw [cq] at this
  have g3:=(bK (by decide)).1 (this (bW (decide (x.fr=x.to)) 24) (by simp))
  exact ⟨jj.1 (this _ (by simp)),jj.1 (this _ (by simp)),by simpa using g3⟩
 ·unfold ef cC cy cU at hs
  rw [Zx,Zx,Zu,Zu,Zu] at hs
  rcases hs with (⟨x,hx,rfl⟩ | ⟨x,hx,rfl⟩) | ⟨x,hx,rfl⟩
  ·exact zn (h0 _ Zt) x hx
  ·exact zn (h0 (eS 8 (cC r) De.nm (fun x=>eV r x.mx) r.de) (by simp)) x hx
  ·exact zn (h0 (eS 6 (cC r++cy r) Ti.nm (nA r) r.ti) (by simp)) x hx
theorem Hh.CH {r:Ro} (h:Hh r):pP r:=IS h.PD h.len.2.2
theorem Hh.ne {r:Ro} (h:Hh r) {s:ByteArray} (hs:s∈cC r∨s∈cy r∨s∈cU r):s≠⟨#[]⟩:=by
 have hm:s∈ef r:=by
  unfold ef
  rw [Zx,Zx]
  rcases hs with h | h | h
  ·exact .inl (.inl h)
  ·exact .inl (.inr h)
  ·exact .inr h
 have:=h.nm s hm
 intro e
 rw [e] at this
 exact absurd this (by decide)
theorem Hh.nd {r:Ro} (h:Hh r) {s:ByteArray} (hs:s∈cC r):s≠dash:=by
 have hm:s∈ef r:=by
  unfold ef
  rw [Zx,Zx]
  exact .inl (.inl hs)
 have:=h.nm s hm
 intro e
 rw [e] at this
 exact absurd this (by decide)
theorem VH {r:Ro} (h1:mY r=0) (h2:jK r=0) (hV:iZ r r.po):gC r=0:=by
 have hp:=prt h2
 have h3:jG r r.po=0:=by
  refine dj.2 fun k hk=>?_
  have hl:=hV.LG _ (Zj hk)
  have ho:=zr (fun x hx=>(hp.dm x hx).1) (fun x hx=>(hp.tm x hx).1.1) (hV.out _ (Zj hk))
  have hi:=Nt (fun x hx=>(hp.sm x hx).1) (fun x hx=>(hp.tm x hx).2.1.1) (hV.xY _ (Zj hk))
  have hm:=hV.OV _ (Zj hk)
  have e0:l6 r r.po[k]=0:=by
   unfold l6
   rw [cq]
   intro e he
   simp only [ZR,Zq,or_false] at he
   rcases he with rfl | rfl | rfl | rfl
   ·exact fx.2 (by omega)
   ·exact (bK (by decide)).2 (by simpa using ho)
   ·exact (bK (by decide)).2 (by simpa using hi)
   ·exact (bK (by decide)).2 (by simpa using hm)
  rw [q5 hk,if_neg (not_not_intro e0)]
  refine if_neg ?_
  by_cases LN:k=0
  ·rw [if_pos LN]
   exact oK.2 (by omega)
  ·rw [if_neg LN,Zc (by omega)]
   refine oK.2 ?_
   have:=Z5.1 hV.qK (k-1) k (by omega) hk (by omega)
   unfold pG at this
   simpa only [ZP,Zm,decide_eq_true_eq] using this
 have h4:zC r=0:=by
  unfold zC
  rw [cq]
  intro e he
  simp only [ZR,Zq,or_false] at he
  have hti:(cU r).length=r.ti.length:=by unfold cU;rw [Zd]
  rcases he with rfl | rfl
  ·refine (bK (by decide)).2 (lr.2 fun v _ _=>Zal.2 fun x hx hc=>?_)
   exact hV.D6 v ⟨x.nm,Zu.2 ⟨x,hx,rfl⟩,by rw [hti];exact fc.1 hc⟩
  ·refine (bK (by decide)).2 (lr.2 fun v _ _=>Zal.2 fun x hx hc=>?_)
   have:=hV.use v x.nm (Zu.2 ⟨x,hx,rfl⟩)
   unfold IE at hc
   cases a:ny r.po v x.nm <;> cases b:jq r.po v x.nm <;> rw [a,b] at hc this <;> simp at hc this
 unfold gC
 rw [if_neg (not_not_intro h1),if_neg (not_not_intro h2),if_neg (not_not_intro h3),h4]
theorem D7 {r:Ro} (h:gC r=0) {q:List Po} (hV:iZ r q):gC (r.wp q)=0:=by
 obtain ⟨h1,h2,_,_⟩:=ss h
 exact VH (r:=r.wp q) h1 h2 hV.wp
def tg (po:List Po) (v:Int):Nat→ByteArray→List ByteArray
 | 0,_=>[]
 | n+1,o=>if o=⟨#[]⟩ then [] else o::tg po v n ((ez po v o).getD ⟨#[]⟩)
theorem PF (po:List Po) (v:Int):∀ n,tg po v n ⟨#[]⟩=[]
 | 0=>rfl
 | n+1=>by rw [tg,if_pos rfl]
theorem Aj {po:List Po} (hne:∀ p∈po,p.ip≠⟨#[]⟩) {v:Int}:∀ (n:Nat) {o:ByteArray},o≠⟨#[]⟩→tg po v (n+1) o=o::eW po v n o
 | 0,o,ho=>by rw [tg,if_neg ho];rfl
 | n + 1, o, ho => by
  rw [tg,if_neg ho]
  cases h:ez po v o with
  | none=>rw [vH h];exact congrArg _ (PF po v _)
  | some i =>
   obtain ⟨p,hp,_,_,rfl⟩:=fD h
   rw [mC h]
   exact congrArg _ (Aj hne n (hne p hp))
def LB (r:Ro) (x:Po):Int:=aV [fy x.lv 0 (r.lv-1),bW (decide (dW r x.ou<0)) 10,bW (decide (jZ r x.ip<0)) 10,bW (decide (kq r x.ou≠jZ r x.ip)) 24]
theorem M1 {r:Ro} (h:Hh r) (s:ByteArray):dW r s<0↔kq r s<0:=by
 rw [Iu]
 constructor
 ·rintro ⟨a,b⟩
  unfold kq
  have f1:=cm.2 a
  have f2:=cm.2 b
  rw [if_neg (by omega),if_neg (by omega)];decide
 ·intro aeH
  constructor
  ·intro hd
   have:=zr (fun x hx=>(h.dm x hx).1) (fun x hx=>(h.tm x hx).1.1) (.inl hd)
   omega
  ·intro hd
   have:=zr (fun x hx=>(h.dm x hx).1) (fun x hx=>(h.tm x hx).1.1) (.inr hd)
   omega
theorem Qx {r:Ro} (h:Hh r) (x:Po):LB r x=l6 r x:=by
 unfold LB l6
 rw [show decide (dW r x.ou<0)=decide (kq r x.ou<0) from decide_eq_decide.2 (M1 h _)]
def Gb (r:Ro) (k:Nat):Int:=(r.po[k]?.map fun x=>if LB r x≠0 then LB r x else if 0<k∧(x.lv<((r.po[k-1]?).getD x).lv∨x.lv=((r.po[k-1]?).getD x).lv∧dW r x.ou≤dW r ((r.po[k-1]?).getD x).ou) then 11 else 0).getD 0
theorem Qv {r:Ro} (h:Hh r) {k:Nat} (hk:k<r.po.length):Gb r k=Ge r r.po k:=by
 unfold Gb
 rw [Zc hk,q5 hk,Zbj,Zaj,Qx h]
 by_cases e:l6 r r.po[k]=0
 ·rw [if_neg (not_not_intro e),if_neg (not_not_intro e)]
  have hl:=(mS e).1
  by_cases LN:k=0
  ·rw [if_neg (by omega),if_pos LN,if_neg]
   exact oK.2 (by omega)
  ·rw [if_neg LN,Zc (show k-1<r.po.length by omega),Zaj]
   have key:=@oK (r.po[k]).lv (dW r (r.po[k]).ou) (r.po[k-1]).lv (dW r (r.po[k-1]).ou)
   by_cases c:lE [(r.po[k]).lv,dW r (r.po[k]).ou] (Ec r (some r.po[k-1]))≤0
   ·rw [if_pos c,if_pos]
    have:¬ ((r.po[k-1]).lv<(r.po[k]).lv∨(r.po[k-1]).lv=(r.po[k]).lv∧dW r (r.po[k-1]).ou<dW r (r.po[k]).ou):=fun q=>(key.2 q) c
    omega
   ·rw [if_neg c,if_neg]
    have:=key.1 c
    omega
 ·rw [if_pos e,if_pos e]
def TN (r:Ro):Int:=if jN r fun v=>r.ti.any fun x=>decide ((tg r.po v 8 x.nm).length=8) then 33 else if jN r fun v=>r.ti.any fun x=>ny r.po v x.nm != !decide ((ez r.po v x.nm).getD ⟨#[]⟩=⟨#[]⟩) then 32 else 0
theorem Qy {r:Ro} (h:Hh r) (hp:jG r r.po=0):TN r=zC r:=by
 have J6:∀ p∈r.po,l6 r p=0:=fun p np=>by
  obtain ⟨k,hk,rfl⟩:=Zs np
  have:=dj.1 hp k hk
  rw [q5 hk] at this
  by_cases e:l6 r r.po[k]=0
  ·exact e
  ·rw [if_pos e] at this;exact this
 have Gx:∀ p∈r.po,p.ou∈cy r∨p.ou∈cU r:=fun p np=>IF (fun x hx=>(h.dm x hx).1) (fun x hx=>(h.tm x hx).1.1) (mS (J6 p np)).2.1
 have NJ:∀ p∈r.po,p.ip∈cC r∨p.ip∈cU r:=fun p np=>JM (mS (J6 p np)).2.2.1
 have hne:∀ p∈r.po,p.ip≠⟨#[]⟩:=fun p np=>h.ne ((NJ p np).elim .inl fun q=>.inr (.inr q))
 have xZ:∀ x∈r.ti,x.nm≠⟨#[]⟩:=fun x hx=>h.ne (.inr (.inr (Zu.2 ⟨x,hx,rfl⟩)))
 have hti:(cU r).length=r.ti.length:=by unfold cU;rw [Zd]
 have e1:(jN r fun v=>r.ti.any fun x=>decide ((tg r.po v 8 x.nm).length=8))=jN r fun v=>r.ti.any (LP r v):=by
  unfold jN
  congr 1
  funext i
  have hc:=KP (po:=r.po) (v:=(i:Nat)) (T:=cU r) (iZ.tie h.CH Gx NJ) (by rw [hti];exact h.len.2.2)
  rw [ZaY,ZM,ZM]
  constructor
  ·rintro ⟨x,hx,e⟩
   rw [decide_eq_true_eq,Aj hne 7 (xZ x hx),ZJ] at e
   obtain ⟨t,ht,hm⟩:=hc.2 ⟨x.nm,Zu.2 ⟨x,hx,rfl⟩,by omega⟩
   obtain ⟨y,hy,rfl⟩:=Zu.1 ht
   exact ⟨y,hy,fc.2 (by rw [← hti];exact hm)⟩
  ·rintro ⟨x,hx,e⟩
   obtain ⟨t,ht,hm⟩:=hc.1 ⟨x.nm,Zu.2 ⟨x,hx,rfl⟩,by rw [hti];exact fc.1 e⟩
   obtain ⟨y,hy,rfl⟩:=Zu.1 ht
   refine ⟨y,hy,?_⟩
   rw [decide_eq_true_eq,Aj hne 7 (xZ y hy),ZJ,hm]
 have e2:(jN r fun v=>r.ti.any fun x=>ny r.po v x.nm != !decide ((ez r.po v x.nm).getD ⟨#[]⟩=⟨#[]⟩))=jN r fun v=>r.ti.any (IE r v):=by
  unfold jN
  congr 1
  funext i
  dsimp only
  congr 1
  funext x
  unfold IE jq
  have:(!decide ((ez r.po (i:Nat) x.nm).getD ⟨#[]⟩=⟨#[]⟩))=(ez r.po (i:Nat) x.nm).isSome:=by
   cases e:ez r.po (i:Nat) x.nm with
   | none=>rfl
   | some o =>
    obtain ⟨p,np,_,_,rfl⟩:=fD e
    have:=hne p np
    simp [this]
  rw [this]
  cases ny r.po (i:Nat) x.nm <;> cases (ez r.po (i:Nat) x.nm).isSome <;> rfl
 unfold TN zC
 rw [e1,e2]
 cases (jN r fun v=>r.ti.any (LP r v)) <;> cases (jN r fun v=>r.ti.any (IE r v)) <;> rfl
def zm (r:Ro):Int:=if iy (Gb r) r.po.length≠0 then iy (Gb r) r.po.length else TN r
theorem MT {r:Ro} (h:Hh r):zm r=if jG r r.po≠0 then jG r r.po else zC r:=by
 have e:iy (Gb r) r.po.length=jG r r.po:=D3 fun j hj _=>Qv h hj
 unfold zm
 rw [e]
 by_cases c:jG r r.po=0
 ·rw [if_neg (not_not_intro c),if_neg (not_not_intro c),Qy h c]
 ·rw [if_pos c,if_pos c]
def mor:ByteArray:=⟨#[109,111,114,101]⟩
theorem M3 {r:Ro} {s:ByteArray} (hs:s∈cy r∨s∈cU r):dW r s=if 0≤bE (cy r) s then bE (cy r) s else (r.de.length:Nat)+bE (cU r) s:=by
 unfold dW
 by_cases c:s∈cy r
 ·rw [if_pos (eC c),if_pos (eC c)]
 ·have h2:=cm.2 c
  rw [if_neg (by omega),if_pos (eC (hs.resolve_left c)),if_neg (by omega)]

section
variable {r:Ro} {a b:ByteArray}
theorem Li {r:Ro} {s:ByteArray} (h:s∈cC r∨s∈cy r∨s∈cU r):s∈ef r:=by
 unfold ef
 rw [Zx,Zx]
 rcases h with h | h | h
 ·exact .inl (.inl h)
 ·exact .inl (.inr h)
 ·exact .inr h
end
end Go.Proofs.A1
namespace Go.Proofs.A1
open Go Go.SL
theorem F1 {r:Ro} {l:List Tk} (h:(jm r l).2.2=0):∃ q,jn r l (te r l) l.length=some q∧jm r l=(r.wp q,0,0)∧¬ 0≤nn r l:=by
 unfold jm at h ⊢
 by_cases c:0≤nn r l
 ·rw [if_pos c] at h;cases h
 ·rw [if_neg c] at h ⊢
  show ∃ q,jn r l (wq (cy r) (jA r l l.length)) l.length=some q∧_
  cases e:jn r l (wq (cy r) (jA r l l.length)) l.length with
  | none=>rw [e] at h;cases h
  | some q=>exact ⟨q,rfl,rfl,c⟩
theorem HY {r:Ro} {l:List Tk}:(jm r l).2.2=0∨(jm r l).2.2=31∧0≤nn r l∧(jm r l).1=Ro.nil∧(jm r l).2.1=nn r l∨(jm r l).2.2=18∧¬ 0≤nn r l∧(jm r l).1=Ro.nil∧(jm r l).2.1=(Ga r l (te r l):Nat)∧jn r l (te r l) l.length=none:=by
 unfold jm
 by_cases c:0≤nn r l
 ·rw [if_pos c];exact .inr (.inl ⟨rfl,c,rfl,rfl⟩)
 ·rw [if_neg c]
  show _∨_∨_∧_∧_∧_∧jn r l (wq (cy r) (jA r l l.length)) l.length=none
  cases e:jn r l (wq (cy r) (jA r l l.length)) l.length with
  | none=>exact .inr (.inr ⟨rfl,c,rfl,rfl,rfl⟩)
  | some q=>exact .inl rfl
def FG (r:Ro) (t:Tk):List ByteArray:=(List.range r.lv.toNat).map fun k=>if t.at k=⟨#[]⟩ then jM r (k:Nat) t.de else if t.at k=dash then ⟨#[]⟩ else t.at k
theorem Fy {r:Ro} {v:Int} {o:ByteArray} (h:jM r v o≠⟨#[]⟩):jM r v o∈cC r:=by
 unfold jM at h ⊢
 split at h
 ·rename_i c
  rw [if_pos c]
  rw [ZM] at c
  obtain ⟨x,hx,e⟩:=c
  rw [decide_eq_true_eq] at e
  exact Zu.2 ⟨x,hx,e⟩
 ·exact absurd rfl h
theorem K6 {r:Ro} (h:tq r) {q:List Po} (hq:iZ r q) (v:Int) (o:ByteArray):jM (r.wp q) v o=rB q v (cC r) o:=Am (h.wp hq).CH hq.wp v o
theorem HX {r:Ro} (fK:gC r=0) {l:List Tk} (hl:Hf r l) {q:List Po} (h0:jn r l (te r l) l.length=some q) :
  iZ r q∧(∀ t∈l,br (r.wp q) t.de=FG r t)∧∀ y∈cy r,y ∉ l.map Tk.de→br (r.wp q) y=br r y:=by
 have h:=G9 fK
 have hp:=prt (ss fK).2.1
 obtain ⟨k1,k2,k3⟩:=Qj h hl h0
 refine ⟨k1,fun t ht=>?_,fun y hy hn=>?_⟩
 ·unfold br FG
  show (List.range r.lv.toNat).map _=_
  refine Zbp fun k hk=>?_
  have hk:=ZT.1 hk
  have zR:=hl.lv t ht
  have X6:k<t.so.length:=by omega
  rw [K6 h k1]
  by_cases hd:nE r t k=true
  ·rw [k3 t ht k X6 hd,if_neg (lo.1 hd).1]
  ·have pH:¬ Td r l (k:Nat) t.de:=by
    rintro ⟨t',Gs,i,hi,wa,e1,e2⟩
    obtain ⟨x,hx,rfl⟩:=Zs ht
    obtain ⟨x',Q0,rfl⟩:=Zs Gs
    have e:x=x':=Classical.byContradiction fun c=>tf hl.nd hx Q0 c e2
    subst e
    have:k=i:=by omega
    subst this
    exact hd wa
   rw [k2 _ _ (hl.de t ht) pH,← Am h.CH h.val]
   by_cases e1:t.at k=⟨#[]⟩
   ·rw [if_pos e1]
   ·have e2:t.at k=jM r (k:Nat) t.de:=Classical.byContradiction fun c=>hd (lo.2 ⟨e1,c⟩)
    have e3:t.at k≠dash:=hp.nd (by rw [e2];exact Fy (by rw [← e2];exact e1))
    rw [if_neg e1,if_neg e3,e2]
 ·unfold br
  show (List.range r.lv.toNat).map _=_
  refine Zbp fun k _=>?_
  rw [K6 h k1,k2 _ _ hy fun ⟨t,ht,_,_,_,_,e⟩=>hn (Zu.2 ⟨t,ht,e.symm⟩),← Am h.CH h.val]
theorem zT {r:Ro} {y:ByteArray} {k:Nat} (hk:(k:Int)<r.lv):(br r y)[k]? = some (jM r (k:Nat) y):=by
 unfold br
 rw [ZD,Zbq (by omega)];rfl
theorem sR {r:Ro} {o:ByteArray}:iV r o=false↔o=⟨#[]⟩∨o=dash∨o∈cC r:=by
 unfold iV dash
 rw [Bool.and_eq_false_iff,Bool.and_eq_false_iff,decide_eq_false_iff_not,decide_eq_false_iff_not,decide_eq_false_iff_not,cm]
 simp only [ne_eq,Zo,or_assoc]
 rw [Classical.not_not]
theorem yO {r:Ro} {l:List Tk}:tr r l=0↔l≠[]∧Hf r l:=by
 have jd:∀ k (hk:k<l.length),wm r l k=0↔(l[k].de∈cy r∧(∀ j (hj:j<k),(l[j]'(by omega)).de≠l[k].de)∧(l[k].so.length:Int)=r.lv∧∀ s∈l[k].so,s=⟨#[]⟩∨s=dash∨s∈cC r):=by
  intro k hk
  rw [pR hk,cq]
  have e1:pb r l[k].de=0↔l[k].de∈cy r:=by
   unfold pb
   rw [bK (by decide),decide_eq_false_iff_not,cm,Classical.not_not]
  have e2:bW ((l.take k).any fun y=>decide (y.de=l[k].de)) 9=0↔∀ j (hj:j<k),(l[j]'(by omega)).de≠l[k].de:=by
   rw [bK (by decide),Zal]
   constructor
   ·intro h j hj e
    have hjt:j<(l.take k).length:=by rw [Zp];omega
    have:=h _ (Zj hjt)
    rw [ZaJ] at this
    exact this (decide_eq_true e)
   ·intro h x hx e
    obtain ⟨j,hj,rfl⟩:=Zs hx
    rw [Zp] at hj
    rw [ZaJ] at e
    exact h j (by omega) (of_decide_eq_true e)
  have e3:bW (decide ((l[k].so.length:Int)≠r.lv)) 2=0↔(l[k].so.length:Int)=r.lv:=by
   rw [bK (by decide),decide_eq_false_iff_not,ne_eq,Zo]
  have e4:bW (l[k].so.any (iV r)) 10=0↔∀ s∈l[k].so,s=⟨#[]⟩∨s=dash∨s∈cC r:=by
   rw [bK (by decide),Zal]
   exact ⟨fun h s hs=>sR.1 (by have:=h s hs;rwa [Zau] at this),fun h s hs=>by rw [Zau];exact sR.2 (h s hs)⟩
  constructor
  ·intro h
   exact ⟨e1.1 (h _ (by simp)),e2.1 (h _ (by simp)),e3.1 (h _ (by simp)),e4.1 (h _ (by simp))⟩
  ·rintro ⟨a,b,c,d⟩ e he
   simp only [ZR,Zq,or_false] at he
   rcases he with rfl | rfl | rfl | rfl
   ·exact e1.2 a
   ·exact e2.2 b
   ·exact e3.2 c
   ·exact e4.2 d
 have hA:C4 l=0↔l≠[]∧l.length≤8:=by
  unfold C4
  rw [cq]
  constructor
  ·intro h
   have a:=(bK (by decide)).1 (h (bW (decide ((l.length:Int)=0)) 12) (by simp))
   have b:=(bK (by decide)).1 (h (bW (decide ((8:Int)<(l.length:Nat))) 5) (by simp))
   rw [decide_eq_false_iff_not] at a b
   exact ⟨fun e=>a (by rw [e];rfl),by omega⟩
  ·rintro ⟨a,b⟩ e he
   simp only [ZR,Zq,or_false] at he
   rcases he with rfl | rfl
   ·refine (bK (by decide)).2 (decide_eq_false fun e=>a (Z2 (by omega)))
   ·exact (bK (by decide)).2 (decide_eq_false (by omega))
 unfold tr
 constructor
 ·intro h
  by_cases c:C4 l=0
  ·rw [if_neg (not_not_intro c)] at h
   have h:=dj.1 h
   obtain ⟨c1,c2⟩:=hA.1 c
   refine ⟨c1,fun t ht=>?_,?_,fun t ht=>?_,fun t ht=>?_,c2⟩
   ·obtain ⟨k,hk,rfl⟩:=Zs ht
    exact ((jd k hk).1 (h k hk)).1
   ·show List.Pairwise _ _
    rw [Z5]
    intro i j hi hj wF
    rw [Zd] at hi hj
    rw [Z1,Z1]
    exact ((jd j hj).1 (h j hj)).2.1 i wF
   ·obtain ⟨k,hk,rfl⟩:=Zs ht
    exact ((jd k hk).1 (h k hk)).2.2.1
   ·obtain ⟨k,hk,rfl⟩:=Zs ht
    exact ((jd k hk).1 (h k hk)).2.2.2
  ·rw [if_pos c] at h;exact absurd h c
 ·rintro ⟨c1,h⟩
  rw [if_neg (not_not_intro (hA.2 ⟨c1,h.DZ⟩))]
  refine dj.2 fun k hk=>(jd k hk).2 ⟨h.de _ (Zj hk),fun j hj=>tf h.nd (by omega) hk (by omega),h.lv _ (Zj hk),h.so _ (Zj hk)⟩
def wi (r:Ro) (t:Tk):Tk:=⟨t.de,(List.range r.lv.toNat).map fun k=>if t.at k=⟨#[]⟩ then ⟨#[]⟩ else if jM r (k:Nat) t.de=⟨#[]⟩ then dash else jM r (k:Nat) t.de⟩
def Ro.Ik (r:Ro) (d:ByteArray) (q:Bool):Ro:=⟨r.lv,r.ma,r.sr,r.de.modify (bE (cy r) d).toNat fun x=>⟨x.nm,x.mx,q⟩,r.ti,r.po⟩
structure Od where
 fr:Int
 tk:List Tk
def Od.zero:Od:=⟨0,[]⟩
def CE (r:Ro) (l:List Od):Nat→Ro
 | 0=>r
 | i+1=>(jm (CE r l i) (l.getD i Od.zero).tk).1
def q8 (r:Ro) (l:List Od) (i:Nat):Int:=(jm (CE r l i) (l.getD i Od.zero).tk).2.2
def OA (f:Nat→Int) (n:Nat):Nat:=((List.range n).find? fun i=>decide (f i≠0)).getD 0
def fI (r:Ro) (l:List Od):Ro×Int×Int:=if iy (q8 r l) l.length=0 then (CE r l l.length,0,0) else (Ro.nil,(OA (q8 r l) l.length:Nat),iy (q8 r l) l.length)
theorem FA {f:Nat→Int} {n i:Nat} (h:∀ j,j<i→f j=0) (hi:i<n) (hn:f i≠0):OA f n=i:=by
 unfold OA
 have:(List.range n).find? (fun i=>decide (f i≠0))=some i:=by
  rw [ZaA]
  refine ⟨by simpa using hn,i,by simpa using hi,by simp,fun j hj=>?_⟩
  simp [h j hj]
 rw [this];rfl
def AE (r:Ro) (l:List Od) (k:Nat):Int:=(l[k]?.map fun x=>aV [fy x.fr 0 10000000,bW (decide (x.fr≤if k=0 then -1 else (l.getD (k-1) Od.zero).fr)) 11,tr r x.tk]).getD 0
def Ha (r:Ro) (l:List Od):Int:=if (16:Int)<(l.length:Nat) then 5 else iy (AE r l) l.length
structure G5 (r:Ro) (l:List Od):Prop where
 DZ:l.length≤16
 fr:∀ k (h:k<l.length),0≤l[k].fr∧l[k].fr≤10000000
 inc:∀ i j (hi:i<l.length) (hj:j<l.length),i<j→l[i].fr<l[j].fr
 tk:∀ k (h:k<l.length),Hf r l[k].tk
theorem ods {r:Ro} {l:List Od} (h:Ha r l=0):G5 r l:=by
 unfold Ha at h
 by_cases c:(16:Int)<(l.length:Nat)
 ·rw [if_pos c] at h;cases h
 ·rw [if_neg c] at h
  have h:=dj.1 h
  have hk:∀ k (hk:k<l.length),(0≤l[k].fr∧l[k].fr≤10000000)∧(if k=0 then -1 else (l.getD (k-1) Od.zero).fr)<l[k].fr∧tr r l[k].tk=0:=fun k hk=>by
   have:=h k hk
   unfold AE at this
   rw [Zc hk,Zbj,Zaj,cq] at this
   have a:=fx.1 (this _ Zt)
   have b:=(bK (by decide)).1 (this (bW (decide (l[k].fr≤if k=0 then -1 else (l.getD (k-1) Od.zero).fr)) 11) (by simp))
   rw [decide_eq_false_iff_not] at b
   exact ⟨a,by omega,this _ (by simp)⟩
  have fW:∀ k (NI:k+1<l.length),l[k].fr<l[k+1].fr:=fun k NI=>by
   have:=(hk (k+1) NI).2.1
   rwa [if_neg (by omega),ZaG,Zk,Zc (by omega),Zaj] at this
  refine ⟨by omega,fun k h=>(hk k h).1,fun i j hi hj wF=>?_,fun k h=>(yO.1 (hk k h).2.2).2⟩
  induction j with
  | zero=>omega
  | succ j ih =>
   have:=fW j hj
   by_cases c:i=j
   ·subst c;exact this
   ·have:=ih (by omega) (by omega);omega
structure Ej (r:Ro) (l:List Od) (i:Nat) (q:List Po):Prop where
 eq:CE r l i=r.wp q
 val:iZ r q
theorem Ej.next {r:Ro} (fK:gC r=0) {l:List Od} (hl:G5 r l) {i:Nat} (hi:i<l.length) {q:List Po} (h:Ej r l i q) (h0:q8 r l i=0):∃ q',Ej r l (i+1) q'∧(∀ t∈l[i].tk,br (r.wp q') t.de=FG (r.wp q) t)∧∀ y∈cy r,y ∉ l[i].tk.map Tk.de→br (r.wp q') y=br (r.wp q) y:=by
 unfold q8 at h0
 rw [h.eq,Zk,Zc hi,Zaj] at h0
 obtain ⟨q',e1,e2,_⟩:=F1 h0
 obtain ⟨k1,k2,k3⟩:=HX (D7 fK h.val) ((hl.tk i hi).wp q) e1
 refine ⟨q',⟨?_,⟨k1.qK,k1.LG,k1.out,k1.xY,k1.OV,k1.D6,k1.use⟩⟩,k2,k3⟩
 rw [CE,h.eq,Zk,Zc hi,Zaj,e2];rfl
theorem Dj {r:Ro} (fK:gC r=0) {l:List Od} (hl:G5 r l):∀ i,i≤l.length→(∀ j,j<i→q8 r l j=0)→∃ q,Ej r l i q
 | 0,_,_=>⟨r.po,rfl,(G9 fK).val⟩
 | i + 1, hi, h => by
  obtain ⟨q,hq⟩:=Dj fK hl i (by omega) fun j hj=>h j (by omega)
  obtain ⟨q',vY,_⟩:=hq.next fK hl hi (h i (by omega))
  exact ⟨q',vY⟩
def fO (l:List Od) (f:Int):Nat:=l.findIdx fun x=>decide (f<x.fr)
theorem CV (l:List Od) (f:Int):fO l f≤l.length:=List.findIdx_le_length
theorem CX {r:Ro} {l:List Od} (hl:G5 r l) {n:Nat} (hn:n≤l.length) {f:Int} (h1:∀ j (hj:j<l.length),j<n→l[j].fr≤f) (h2:∀ j (hj:j<l.length),n≤j→f<l[j].fr):fO l f=n:=by
 unfold fO
 by_cases c:n=l.length
 ·subst c
  exact List.findIdx_eq_length.2 fun x hx=>by
   obtain ⟨j,hj,rfl⟩:=Zs hx
   have:=h1 j hj hj
   simpa using this
 ·rw [List.findIdx_eq (by omega)]
  exact ⟨by simpa using h2 n (by omega) (Zz _),fun j hj=>by simpa using h1 j (by omega) hj⟩
theorem CW {r:Ro} {l:List Od} (hl:G5 r l) {i:Nat} (hi:i<l.length):fO l (l[i].fr-1)=i:=
 CX hl (by omega) (fun j hj h=>by have:=hl.inc j i hj hi h;omega) (fun j hj h=>by
  by_cases c:j=i
  ·subst c;omega
  ·have:=hl.inc i j hi hj (by omega);omega)
theorem Mb {r:Ro} {l:List Od} (hl:G5 r l) {i:Nat} (hi:i<l.length):fO l l[i].fr=i+1:=
 CX hl (by omega) (fun j hj h=>by
  by_cases c:j=i
  ·subst c;omega
  ·have:=hl.inc j i hj hi (by omega);omega) (fun j hj h=>hl.inc i j hi hj (by omega))
theorem Hq {r:Ro} {l:List Od} (hl:G5 r l):fO l 10000000=l.length:=
 CX hl (Zz _) (fun j hj _=>(hl.fr j hj).2) (fun j hj h=>by omega)
theorem uB (r:Ro) (l:List Od) (n:Nat):∀ i,i≤n→n≤l.length→CE r (l.take n) i=CE r l i
 | 0,_,_=>rfl
 | i + 1, hi, hn => by
  rw [CE,CE,uB r l n i (by omega) hn]
  rw [Zk,Zk,ZC,if_pos (by omega)]
theorem Iy (r:Ro) (l:List Od) (n:Nat) {i:Nat} (hi:i<n) (hn:n≤l.length):q8 r (l.take n) i=q8 r l i:=by
 unfold q8
 rw [uB r l n i (by omega) hn,Zk,Zk,ZC,if_pos hi]
theorem F2 {r:Ro} {l:List Od} {n:Nat} (hn:n≤l.length) (h:∀ j,j<n→q8 r l j=0):fI r (l.take n)=(CE r l n,0,0):=by
 unfold fI
 have hl:(l.take n).length=n:=by rw [Zp];omega
 rw [hl,if_pos (dj.2 fun i hi=>by rw [Iy r l n hi hn];exact h i hi),uB r l n n (Zz _) hn]
def RW (b:Nat) (r:Ro) (s d t p:Value) (l:List Po):List a8:=[RB b r s d t p,J1 r s,J2 r d,J3 r t,PB p l]
theorem TO {l:List Po} {i:Nat} (h:i<l.length) (cur:List Value):ed (gR l++cur) (i*3) 3=[.int .i64 l[i].lv,.string l[i].ou,.string l[i].ip]:=rz (f:=Po.cells) (fun _=>rfl) h cur
theorem RR.wp {w:World} {r:Ro} {s d t p':Value} {po:List Po} (h1:Rd w s 2 (uC r.sr)) (h2:Rd w d 3 (ue r.de)) (h3:Rd w t 3 (tK r.ti)) (h4:Rd w p' 3 (sJ po)):RR w (r.wp po) s d t p':=⟨h1,h2,h3,h4⟩
set_option maxHeartbeats 2000000 in
theorem Mp {r:Ro} {s d t p:Value} {b:Nat} {w:World} {fp:List Nat} (kU:fp.Nodup) (hs:ch (hp w) (RW b r s d t p r.po) fp) (cI:lz r) (XK:r.po.length≤1000) :
  bh Tryz.prog 257 [.pointer (some ⟨b,0,none⟩)] w fp (fun x:Value×(Po→Bool)=>Sw r.po (cy r) x.2∧∀ q∈r.po,x.2 q=true→q.ou∈cy r∨∃ q'∈r.po,x.2 q'=true∧q'.lv=q.lv∧q'.ip=q.ou) (fun _=>.tuple #[]) (fun x=>RW b r s d t x.1 (r.po.filter x.2)):=by
 unfold RW RB PB at *
 refine eb Tryz.func257 rfl rfl kU hs ?_
 refine Jr<|Ja rfl<|Jn<|J0 ?_
 refine aX (ι:=Value×(Po→Bool)×Bool) (fun x=>Sw r.po (cy r) x.2.1∧(x.2.2=false→∀ q∈r.po,x.2.1 q=true→q.ou∈cy r∨∃ q'∈r.po,x.2.1 q'=true∧q'.lv=q.lv∧q'.ip=q.ou)) (fun x=>[(2,.bool x.2.2),(0,.pointer (some ⟨b,0,none⟩))])
  (fun x=>RW b r s d t x.1 (r.po.filter x.2.1)) (fun x=>2*(r.po.filter x.2.1).length+if x.2.2 then 1 else 0) ?_ ?_
 ·apply aI (p,(fun _=>true),true) ⟨Sw.start _ _,fun h=>by cases h⟩
  case hs1=>exact cd
  case ht=>
   show bz _ [JP b r s d t p,J1 r s,J2 r d,J3 r t,row 188 3 p (r.po.filter fun _=>true).length (gR (r.po.filter fun _=>true))] _
   rw [ZaO.2 fun _ _=>rfl]
   exact .cons .here (.cons .here (.cons .here (.cons .here (.cons .here .nil))))
 rintro ⟨p',f,fl⟩ ⟨S5,rI⟩
 dsimp only at S5 rI ⊢
 unfold RW RB PB
 cases fl with
 | false =>
  (refine Jq<|Jr<|Jv rfl<|Jn<|bN (.of rfl)<|Jp<|Jl<|Jo ?_)
  first | with_reducible apply aN | with_reducible apply aO
  case he=>exact pL rfl
  case hR=>
   intro w' aB
   exact aF (p',f) ⟨S5,rI rfl⟩ (by exact .cons .here (.cons .here (.cons .here (.cons .here (.cons .here .nil))))) aB rfl
 | true =>
  (refine Jq<|Jr<|Jv rfl<|Jn<|cF (.of rfl)<|Jk<|J0<|Jr<|Ja rfl<|Ji<|Jv rfl<|ab (dP (.of rfl)) rfl<|bP rfl rfl ae<|JL rfl .here rfl ?_)
  have afh:(r.po.filter f).length≤r.po.length:=Z7 _ _
  refine JN bL rfl (fun w1 aR=>GZ (cM aR dO rfl) (by omega)) ?_
  intro cv _
  dsimp only [id_eq,Zb,Za]
  refine aW (v:=cv) (by exact .here) fun ca cc e=>?_
  subst e
  refine JI rfl<|Jv rfl<|Jn<|J0 ?_
  have qi:∀ k (h:k<(r.po.filter f).length),(gR (r.po.filter f)).length=(r.po.filter f).length*3:=fun _ _=>ju _
  refine aX (ι:=Nat×Value×(Po→Bool)×Bool) (fun x=>x.1≤(r.po.filter f).length∧Sw r.po (cy r) x.2.2.1∧(x.2.2.2=false→x.2.2.1=f∧∀ i (hi:i<(r.po.filter f).length),i<x.1→(r.po.filter f)[i].ou∈cy r∨ny (r.po.filter f) (r.po.filter f)[i].lv (r.po.filter f)[i].ou=true)∧(x.2.2.2=true→(r.po.filter x.2.2.1).length<(r.po.filter f).length))
   (fun x=>[(12,.int .i64 (x.1:Nat)),(11,.int .i64 ((r.po.filter f).length:Nat)),(10,.slice ca (r.po.filter f).length cc),(2,.bool x.2.2.2),(0,.pointer (some ⟨b,0,none⟩))])
   (fun x=>[JP b r s d t (x.2.1),J1 r s,J2 r d,J3 r t,row 188 3 x.2.1 (r.po.filter x.2.2.1).length (gR (r.po.filter x.2.2.1)),row 188 3 (.slice ca (r.po.filter f).length cc) (r.po.filter f).length (gR (r.po.filter f))]) (fun x=>(r.po.filter f).length-x.1) ?_ ?_
  ·apply aI (0,p',f,false) ⟨Zi _,S5,fun _=>⟨rfl,fun i _ h=>absurd h (ZO i)⟩,fun h=>by cases h⟩
   case hs1=>exact cd
   case ht=>exact lU
  rintro ⟨k,p2,f2,fl⟩ ⟨hk,NV,RK,DP⟩
  dsimp only at hk NV RK DP ⊢
  by_cases aK:k<(r.po.filter f).length
  ·refine Jr<|JA rfl<|Jn<|Jq<|Jd rfl fun ar=>Jk<|Jq<|J0<|Jr ?_
   refine dd (E:=188) (sz:=3) (v:=.slice ca (r.po.filter f).length cc) fk (by omega) fun g gQ cur e oE Gz DJ BY=>?_
   cases e
   have c1:=TO aK cur
   (refine ab (az (.of rfl) (.of rfl) rfl (by omega) ar bj) rfl ?_;refine ab (bS (.of rfl) .here c1 rfl) rfl ?_;refine Jz rfl rfl fun _ _=>aq (.of rfl) (.of rfl) .here rfl rfl (fo rfl rfl rfl) (bF rfl) ak ?_;refine Jn<|Jq ?_)
   generalize AG:(r.po.filter f)[k].lv=pv
   generalize qE:(r.po.filter f)[k].ou=po
   generalize O5:(r.po.filter f)[k].ip=pi
   have S0:∀ w',RR w' (r.wp (r.po.filter f2)) s d t p2→aj Tryz.prog 155 [.agg #[.int .i64 r.lv,.int .i64 r.ma,s,d,t,p2],.string po] w' (.int .i64 (bE (cy r) po)):=fun w' h=>fM (r:=r.wp (r.po.filter f2)) po h
   have hu0:∀ w',RR w' (r.wp (r.po.filter f2)) s d t p2→aj Tryz.prog 239 [.agg #[.int .i64 r.lv,.int .i64 r.ma,s,d,t,p2],.int .i64 pv,.string po] w' (.bool (ny (r.po.filter f2) pv po)):=fun w' h=>Ho (r:=r.wp (r.po.filter f2)) pv po h
   with_reducible refine en 18 (by kernel_rfl) ?_
   (refine ly rfl rfl<|aL (dP (.of rfl)) rfl<|aL (cL bT) rfl<|oO rfl rfl ae<|aL (gT .here) rfl<|gD bd rfl (fun w' aB=>(S0 w' (RR.wp (cW aB c6 rfl) (cX aB dO rfl) (cV aB fk rfl) (cM aB jo rfl))))<|aL (k8 (.of rfl) (.of rfl)) rfl<|ly rfl rfl<|dF rfl rfl inferInstance (fun hg bB=>(a7 (.of rfl))) rfl<|dF rfl rfl inferInstance (fun hg bB=>(dP (.bI hg rfl))) rfl<|dF rfl rfl inferInstance (fun hg bB=>(bS (.bI hg rfl) bT ak (by rfl))) rfl<|dF rfl rfl inferInstance (fun hg bB=>(ao (.of rfl) ae)) rfl<|dF rfl rfl inferInstance (fun hg bB=>(ag (.bI hg rfl) (At.lit .here rfl))) rfl<|dF rfl rfl inferInstance (fun hg bB=>(ao (.of rfl) ae)) rfl<|dF rfl rfl inferInstance (fun hg bB=>(ag (.bI hg rfl) (At.lit .here rfl))) rfl<|vN rfl rfl (fun hg=>(aY (.of rfl) (.cons (.bI hg rfl) (.cons (.bI hg rfl) (.cons (.bI hg rfl) .nil))) inferInstance dX)) rfl (fun hg w' aB=>(hu0 w' (RR.wp (cW aB c6 rfl) (cX aB dO rfl) (cV aB fk rfl) (cM aB jo rfl))))<|dF rfl rfl inferInstance (fun hg bB=>(dV (.bI hg rfl))) rfl<|aL (cz (.of rfl) rfl) rfl ?_)
   with_reducible refine eo ?_
   (refine Jn<|nF rfl (fun ar=>?_) fun ar=>?_;refine Jr<|Jv rfl<|bP rfl rfl ae<|JL rfl .here rfl<|bP rfl rfl ae<|JL rfl .here rfl ?_;rotate_left;refine Jw<|Jj<|Jt<|Jg<|JB rfl (by omega)<|Jv rfl<|Jn ?_;rotate_right)
   ·obtain ⟨Wx,Xn⟩:bE (cy r) po<0∧ny (r.po.filter f2) pv po=false:=by simpa using ar
    with_reducible apply fS (As:=[JP b r s d t p2,row 188 3 p2 (r.po.filter f2).length (gR (r.po.filter f2))])
    case hr=>exact eK
    case hd=>rfl
    case ht=>exact .cons bT (.cons fk .nil)
    case hc=>
     intro w1 AO aR vh hs1 CK kM
     exact w9 (r:=r) (s:=s) (d:=d) (t:=t) (p:=p2) (b:=b) (l:=r.po.filter f2) pv po vh hs1 (by have:=Z7 f2 r.po;omega)
    intro p3 _
    dsimp only [id_eq,Zb,Za]
    unfold RB PB
    rw [sY]
    refine Jn<|Jg<|Ja rfl<|Jx<|Jj<|Jt<|Jg<|JB rfl (by omega)<|Jv rfl<|Jn ?_
    refine cN (E:=188) (sz:=3) (g:=g) c6 oE Gz DJ BY ?_
    apply aJ (k+1,p3,(fun x=>f2 x&&!xR pv po x),true) ⟨by show k+1≤_;omega,NV.step (cm.1 Wx) (fun q hq hf e=>by
     have:=Es.2 ⟨q,Zv.2 ⟨hq,hf⟩,e⟩
     rw [Xn] at this;cases this),(fun h=>by cases h),fun _=>by
      show (r.po.filter fun x=>f2 x&&!xR pv po x).length<_
      rw [← sY]
      cases fl with
      | true=>exact Nat.lt_of_le_of_lt (Z7 _ _) (DP rfl)
      | false =>
       obtain ⟨rfl,_⟩:=RK rfl
       refine List.length_filter_lt_length_iff_exists.2 ⟨_,Zj aK,?_⟩
       unfold xR
       rw [AG,qE];simp⟩ (by show (r.po.filter f).length-(k+1)<(r.po.filter f).length-k;omega)
    case hs1=>exact cd
    case ht=>exact lU
   ·have S1:¬ (decide (bE (cy r) po<0)&&!ny (r.po.filter f2) pv po)=true:=by
     simp only [Zm,decide_eq_true_eq,Zbn,not_and,Bool.not_eq_false] at ar ⊢
     exact fun c=>ar.resolve_left (fun q=>q c)
    refine cN (E:=188) (sz:=3) (g:=g) (by exact Take.there .here) oE Gz DJ BY ?_
    apply aJ (k+1,p2,f2,fl) ⟨by show k+1≤_;omega,NV,(fun h=>⟨(RK h).1,fun i hi Wt=>by
     by_cases e:i=k
     ·subst e
      rw [AG,qE]
      obtain ⟨e1,_⟩:=RK h
      rw [e1] at S1
      by_cases c:bE (cy r) po<0
      ·right
       cases c2:ny (r.po.filter f) pv po with
       | true=>rfl
       | false=>exact absurd (show (decide (bE (cy r) po<0)&&!ny (r.po.filter f) pv po)=true by rw [c2,decide_eq_true c];rfl) S1
      ·exact .inl (Classical.byContradiction fun q=>c (cm.2 q))
     ·exact (RK h).2 i hi (show i<k by have:i<k+1:=Wt;omega)⟩),DP⟩ (by show (r.po.filter f).length-(k+1)<(r.po.filter f).length-k;omega)
    case hs1=>exact cd
    case ht=>exact .cons bT (.cons bT (.cons bT (.cons bT (.cons bT (.cons .here .nil)))))
  ·have e:k=(r.po.filter f).length:=by omega
   subst e
   refine Jr<|JA rfl<|Jn<|Jq<|Jc rfl fun ar=>Jp<|Jl<|Jo<|Jj<|Jt ?_
   apply aJ (p2,f2,fl) ⟨NV,fun h q hq hf=>by
    obtain ⟨rfl,h2⟩:=RK h
    obtain ⟨i,hi,rfl⟩:=Zs (Zv.2 ⟨hq,hf⟩)
    rcases h2 i hi hi with e | e
    ·exact .inl e
    ·obtain ⟨q',vY,e'⟩:=Es.1 e
     obtain ⟨x1,x2⟩:=Zv.1 vY
     exact .inr ⟨q',x1,x2,e'⟩⟩ (by
    show 2*(r.po.filter f2).length+(if fl then 1 else 0)<2*(r.po.filter f).length+(if true then 1 else 0)
    cases fl with
    | true=>have:=DP rfl;simp only [if_true];omega
    | false=>rw [(RK rfl).1];simp)
   case hs1=>exact cd
   case ht=>exact lU
end Go.Proofs.A1
namespace Go.SL
open Go
section
variable {P:Program} {r:Option Nat} {c:Cx} {D:List Nat} {sl:aG} {hs hs' hs2:List a8} {Q:Exit→Act→World→Prop} {ops:Array Oper} {d:Nat} {dst:Option Tmp} {ty:TypeId} {pos:String} {af:Array Edge} {g:Option (Nat×Bool)} {rest:List Oper} {κ:Type} [DecidableEq κ] {kv:κ→Value}
theorem FU {X:Act→World→Prop} {b:Nat} {l:List (κ×Value)} (ht:Take hs (mp kv b l) hs') (k:∀ es ck,IT kv l es ck→Tr c D sl (bG b (.map es ck)::hs') X):Tr c D sl hs X:=fun a w bb=>by
 have hm:=bb.mem.take (ht.append _)
 obtain ⟨kk,fp,hn,⟨f1,f2,rfl,⟨e,es,ck,h1,h2⟩,h3⟩,DP⟩:=hm
 exact k es ck h2 a w (bb.heap ⟨kk,f1++f2,hn,⟨f1,f2,rfl,⟨e,h1⟩,h3⟩,DP⟩)
end
end Go.SL
namespace Go.Proofs.A1
open Go Go.SL
theorem Ct {r:Ro} {v:Int} {i:Nat}:∀ {q:List Nat} {po:List Po} {x:ByteArray},qz r v po x (q++[i])=(if jq (qz r v po x q).1 v (gM r i) then (qz r v po x q).1 else (qz r v po x q).1++[⟨v,gM r i,(qz r v po x q).2⟩],gM r i)
 | [],po,x=>rfl
 | j :: q, po, x => by
  rw [Zb,qz,qz]
  exact Ct
theorem Ap {r:Ro} {v:Int}:∀ (q:List Nat) (po:List Po) (x:ByteArray),(qz r v po x q).1.length≤po.length+q.length
 | [],po,x=>Zz _
 | j :: q, po, x => by
  rw [qz]
  refine ZY (Ap q _ _) ?_
  rw [ZJ]
  split
  ·omega
  ·rw [Zg,Zbg];omega
theorem FC {r:Ro} {v:Int}:∀ (q:List Nat) (po:List Po) (x:ByteArray),(∀ i∈q,i<r.ti.length)→(∀ p∈po,p.ou∈cy r∨p.ou∈cU r)→∀ p∈(qz r v po x q).1,p.ou∈cy r∨p.ou∈cU r
 | [],po,x,_,h=>h
 | j :: q, po, x, hi, h => by
  rw [qz]
  refine FC q _ _ (fun i AH=>hi i (ZV _ AH)) fun p hp=>?_
  split at hp
  ·exact h p hp
  ·rcases Zx.1 hp with hp | hp
   ·exact h p hp
   ·rw [ZK.1 hp]
    exact .inr (tI (hi j Zt))
theorem Tw {l:List Ti} {i:Nat} (h:i<l.length) (cur:List Value):ed (pS l++cur) (i*3) 3=[.string l[i].nm,.int .i64 l[i].fr,.int .i64 l[i].to]:=rz (f:=Ti.cells) (fun _=>rfl) h cur
theorem P8 {l:List Ti} {i:Nat} (h:i<l.length) (cur:List Value):(pS l++cur)[i*3]? = some (.string l[i].nm):=by
 have:=th (cs:=pS l++cur) (o:=i*3) (n:=3) (j:=0) (by omega)
 rw [Tw h cur,Zaw] at this
 exact this.symm
theorem EM (l:List Po) (q:Po):gR (l++[q])=gR l++[.int .i64 q.lv,.string q.ou,.string q.ip]:=by
 unfold gR sJ;simp [Po.cells]
theorem Qz {r:Ro} {x y:Po}:QA r x y<0↔pG r x y=true:=by
 rw [tS];unfold pG;simp
set_option maxHeartbeats 2000000 in
theorem TA {r:Ro} {s d t p:Value} {b:Nat} {po:List Po} {xv:Value} {xp:List Nat} (xf:Nat) (v:Int) (so de:ByteArray) {w:World} {fp:List Nat} (kU:fp.Nodup) (hs:ch (hp w) [RB b r s d t p,J1 r s,J2 r d,J3 r t,PB p po,row 3 1 xv xp.length (fV xp)] fp)
  (cI:lz r) (XK:po.length≤1000) (hxf:xp.length≤100) (hd:CN r) (hi:∀ i∈xp,i<r.ti.length) (Gx:∀ q∈po,q.ou∈cy r∨q.ou∈cU r) (mh:de∈cy r) (hV:(lB r po v so xp de).Pairwise (fun a b=>pG r a b=true)) :
  bh Tryz.prog 258 [.pointer (some ⟨b,0,none⟩),.int .i64 v,.string so,.agg #[xv,.int .i64 (xf:Nat)],.string de] w fp (fun _:Value=>True) (fun _=>.tuple #[]) (fun p'=>[RB b r s d t p',J1 r s,J2 r d,J3 r t,PB p' (lB r po v so xp de),row 3 1 xv xp.length (fV xp)]):=by
 unfold RB PB at *
 refine eb Tryz.func258 rfl rfl kU hs ?_
 refine aW (v:=xv) fk fun xa xc e=>?_
 subst e
 refine aW (v:=t) c6 fun ta tc e=>?_
 subst e
 refine aW (v:=p) dO fun pa pc e=>?_
 subst e
 (refine Jr<|Jy rfl rfl fun _ _=>Ji<|Jv rfl<|Ja rfl<|Jn<|Jq<|Jr<|bP rfl rfl ae<|JL rfl .here rfl<|JI rfl<|Jv rfl<|Jn<|J0 ?_)
 rename_i b8 hb8
 refine aX (ι:=Nat×Value) (fun y=>y.1≤xp.length) (fun y=>[(19,.int .i64 (y.1:Nat)),(18,.int .i64 (xp.length:Nat)),(17,.slice xa xp.length xc),(10,.string (qz r v po so (xp.take y.1)).2),(0,.pointer (some ⟨b,0,none⟩)),(1,.int .i64 v),(4,.string de)])
  (fun y=>[JP b r s d (.slice ta r.ti.length tc) (y.2),J1 r s,J2 r d,row 187 3 (.slice ta r.ti.length tc) r.ti.length (pS r.ti),row 188 3 y.2 (qz r v po so (xp.take y.1)).1.length (gR (qz r v po so (xp.take y.1)).1),row 3 1 (.slice xa xp.length xc) xp.length (fV xp)]) (fun y=>xp.length-y.1) ?_ ?_
 ·apply aI (0,.slice pa po.length pc) (Zi _)
  case hs1=>
   show lx _ [(19,.int .i64 (0:Nat)),(18,.int .i64 (xp.length:Nat)),(17,.slice xa xp.length xc),(10,.string so),(0,.pointer (some ⟨b,0,none⟩)),(1,.int .i64 v),(4,.string de)]
   exact .cons rfl (.cons rfl (.cons rfl (.cons rfl (.cons rfl (.cons rfl (.cons rfl .nil))))))
  case ht=>
   exact .cons (.there .here) (.cons (.there .here) (.cons (.there .here) (.cons (.there .here) (.cons (.there .here) (.cons (.there .here) .nil)))))
 rintro ⟨k,pv⟩ hk
 dsimp only at hk ⊢
 have R1:=Ap (r:=r) (v:=v) (xp.take k) po so
 rw [Zp] at R1
 by_cases aK:k<xp.length
 ·have r5:qz r v po so (xp.take (k+1))=(if jq (qz r v po so (xp.take k)).1 v (gM r xp[k]) then (qz r v po so (xp.take k)).1 else (qz r v po so (xp.take k)).1++[⟨v,gM r xp[k],(qz r v po so (xp.take k)).2⟩],gM r xp[k]):=by
   rw [Zn aK,Ct]
  have hix:=hi _ (Zj aK)
  have xZ:gM r xp[k]=(r.ti[xp[k]]).nm:=by unfold gM;rw [mR hix]
  generalize qz r v po so (xp.take k)=A at r5 R1 ⊢
  obtain ⟨q,la⟩:=A
  dsimp only at r5 R1 ⊢
  refine aW (E:=188) (sz:=3) (v:=pv) dO fun va vc e=>?_
  subst e
  refine Jr<|JA rfl<|Jn<|Jq<|Jd rfl fun ar=>Jk<|Jq<|J0<|Jr ?_
  refine dd (E:=3) (sz:=1) (v:=.slice xa xp.length xc) fk (by omega) fun g1 c1 u1 e kz aR hz1 UM=>?_
  cases e
  have a1:=BF aK u1
  generalize hxk:xp[k]=ik at *
  (refine ab (az (.of rfl) (.of rfl) rfl (by omega) ar bj) rfl ?_;refine ab (ag (.of rfl) (At.mF .here a1)) rfl ?_;refine Ja rfl<|Ji<|Jv rfl<|ab (dP (.of rfl)) rfl ?_;refine bP rfl rfl ae ?_;refine JL rfl (.there .here) rfl<|Jv rfl ?_)
  refine dd (E:=187) (sz:=3) (v:=.slice ta r.ti.length tc) dO (by omega) fun g2 c2 u2 e j6 l7 hz2 E8=>?_
  cases e
  have a2:=P8 hix u2
  rw [← xZ] at a2
  (refine ab (az (.of rfl) (.of rfl) rfl (by omega) (by omega) bj) rfl<|bP rfl rfl ae<|ab (ag (.of rfl) (At.mF .here a2)) rfl<|Ja rfl<|Jn<|Jq<|Jr<|Jv rfl<|ab (dP (.of rfl)) rfl<|ab (cL bT) rfl<|Jv rfl<|Jv rfl ?_)
  refine cN (E:=187) (sz:=3) (g:=g2) (by exact .here) j6 l7 hz2 E8 ?_
  refine cN (E:=3) (sz:=1) (g:=g1) (by exact Take.there .here) kz aR hz1 UM ?_
  refine ai eK rfl (fun w' aB=>qx (r:=r.wp q) v (gM r ik) (RR.wp (cW aB c6 rfl) (cX aB dO rfl) (cV aB (by exact Take.there .here) rfl) (cM aB fk rfl))) ?_
  have mN:jq (r.wp q).po v (gM r ik)=jq q v (gM r ik):=rfl
  rw [mN]
  have SU:(gR q).length=q.length*3:=ju q
  cases B2:jq q v (gM r ik) with
  | false =>
   rw [B2,if_neg (by decide)] at r5
   have XM:gR (q++[⟨v,gM r ik,la⟩])=gR q++[.int .i64 v,.string (gM r ik),.string la]:=EM _ _
   have AG:(q++[(⟨v,gM r ik,la⟩:Po)]).length=q.length+1:=by simp
   (refine JH rfl<|Jn<|cF (.of rfl)<|Jg<|Jv rfl<|Jv rfl<|ab (dP (.of rfl)) rfl<|bP rfl rfl ae<|JL rfl bT rfl<|Jv rfl<|Jv rfl<|Jv rfl<|ab (aS (.cons (.of rfl) (.cons (.of rfl) (.cons (.of rfl) .nil))) ak) rfl<|bo (bu (.cons (.of rfl) .nil) rfl rfl bO bO ak) rfl fun _ _=>?_)
   refine bH (.of rfl) (.of rfl) jo .here ak (by rfl) (fo rfl rfl rfl) (by rfl) (by rfl) (by rfl) eN (by rfl) ?_
   intro v'
   refine aW (by exact .here) fun a' gQ e=>?_
   subst e
   (refine ab (dP (.of rfl)) rfl<|bP rfl rfl ae<|aq (.of rfl) (.of rfl) dO rfl rfl (eE rfl) (bF rfl) ak<|Jn<|Jg<|Jv rfl<|Ja rfl<|Jx<|Jj<|Jt<|Jg<|JB rfl (by omega)<|Jv rfl<|Jn ?_)
   apply aJ (k+1,.slice a' (q.length+1) gQ) (by show k+1≤_;omega) (by show xp.length-(k+1)<xp.length-k;omega)
   case hs1=>
    dsimp only
    rw [r5]
    exact .cons rfl (.cons rfl (.cons rfl (.cons rfl (.cons rfl (.cons rfl (.cons rfl .nil))))))
   case ht=>
    dsimp only
    rw [r5]
    dsimp only
    rw [AG,XM]
    exact .cons .here (.cons dO (.cons dO (.cons c6 (.cons .here (.cons (.there .here) .nil)))))
  | true =>
   rw [B2,if_pos rfl] at r5
   (refine JH rfl<|Jn<|bN (.of rfl)<|Jk<|Jg<|Jv rfl<|Ja rfl<|Jx<|Jj<|Jt<|Jg<|JB rfl (by omega)<|Jv rfl<|Jn ?_)
   apply aJ (k+1,.slice va q.length vc) (by show k+1≤_;omega) (by show xp.length-(k+1)<xp.length-k;omega)
   case hs1=>
    dsimp only
    rw [r5]
    exact .cons rfl (.cons rfl (.cons rfl (.cons rfl (.cons rfl (.cons rfl (.cons rfl .nil))))))
   case ht=>
    dsimp only
    rw [r5]
    exact .cons bT (.cons bT (.cons bT (.cons (.there .here) (.cons (.there .here) (.cons .here .nil)))))
 ·have e:k=xp.length:=by omega
  subst e
  rw [ZL] at *
  refine aW (E:=188) (sz:=3) (v:=pv) dO fun va vc e=>?_
  subst e
  (refine Jr<|JA rfl<|Jn<|Jq<|Jc rfl fun ar=>Jp<|Jl<|Jo<|Jt<|Jr<|Jv rfl<|Jv rfl<|ab (dP (.of rfl)) rfl<|bP rfl rfl ae<|JL rfl .here rfl<|Jv rfl<|Jv rfl<|Jv rfl<|ab (aS (.cons (.of rfl) (.cons (.of rfl) (.cons (.of rfl) .nil))) ak) rfl<|bo (bu (.cons (.of rfl) .nil) rfl rfl bO bO ak) rfl fun _ _=>?_)
  refine bH (.of rfl) (.of rfl) fk .here ak (by rfl) (fo rfl rfl rfl) (by rfl) (by rfl) (by rfl) eN (by rfl) ?_
  intro v'
  refine aW (by exact .here) fun a' gQ e=>?_
  subst e
  (refine ab (dP (.of rfl)) rfl<|bP rfl rfl ae<|aq (.of rfl) (.of rfl) bT rfl rfl (eE rfl) (bF rfl) ak<|Ji<|Jv rfl<|ab (dP (.of rfl)) rfl<|ab (cL .here) rfl ?_)
  have hAo:=FC (r:=r) (v:=v) xp po so hi Gx
  have pt:∀ S:List Po,S.Perm ((qz r v po so xp).1++[⟨v,de,(qz r v po so xp).2⟩])→S.Pairwise (fun a b=>¬ QA r b a<0)→S=lB r po v so xp de:=fun S h1 h2=>HS hV h1 (h2.imp fun h=>fun c=>h (Qz.2 c))
  have afA:=Ap (r:=r) (v:=v) xp po so
  generalize qz r v po so xp=A at *
  obtain ⟨q,la⟩:=A
  dsimp only at *
  have XM:gR (q++[⟨v,de,la⟩])=gR q++[.int .i64 v,.string de,.string la]:=EM _ _
  have AG:(q++[(⟨v,de,la⟩:Po)]).length=q.length+1:=by simp
  rw [← XM,← AG]
  have iN:∀ y∈q++[(⟨v,de,la⟩:Po)],iX (ef r) y.ou=true:=fun y hy=>by
   rw [fc]
   rcases Zx.1 hy with hy | hy
   ·exact Li ((hAo y hy).elim (fun e=>.inr (.inl e)) fun e=>.inr (.inr e))
   ·rw [ZK.1 hy];exact Li (.inr (.inl mh))
  have hlen:(q++[(⟨v,de,la⟩:Po)]).length≤100000:=by omega
  generalize q++[(⟨v,de,la⟩:Po)]=L at *
  refine JN bL rfl (fun w1 aR=>EL (r:=r.wp L) (RR.wp (cW aR c6 rfl) (cX aR dO rfl) (cV aR fk rfl) (cM aR (by exact Take.there .here) rfl)) (by have:=cI;unfold lz at this;show r.de.length+r.ti.length≤_;omega)) ?_
  intro bm _
  dsimp only [id_eq,Zb,Za]
  rw [show oe (r.wp L)=oe r from rfl]
  (refine Jz rfl rfl fun _ _=>aq (.of rfl) (.of rfl) .here rfl rfl (eE rfl) (bF rfl) ak<|Jn<|Jg<|Jv rfl<|ab (dP (.of rfl)) rfl<|bP rfl rfl ae<|JL rfl bT rfl<|ab (bA .nil (.cons (.of rfl) .nil)) rfl ?_)
  rename_i b61 aft LR afz
  refine FU (b:=bm) (l:=oe r) (kv:=fun s:ByteArray=>Value.string s) (by exact Take.there .here) fun es ck eG=>?_
  with_reducible apply fS (As:=[row 188 3 (.slice a' L.length gQ) L.length (gR L)])
  case hr=>exact bd
  case hd=>rfl
  case ht=>exact .cons c6 .nil
  case hc=>
   intro w1 AO aR vh hs1 CK kM
   have Y0:LR ∉ AO:=kM LR _ _ (by exact Take.there .here)
   have WA:bm ∉ AO:=kM bm _ _ (by exact .here)
   have f14:w1.cell? ⟨LR,0,none⟩=some (.map (some bm)):=At.lit (by exact Take.there .here) rfl w1 aR
   exact HQ (r:=r) (l:=L) hs1 hd iN (by omega) f14 ⟨es,ck,aR.bG (by exact .here),eG⟩ Y0 WA
  rintro S ⟨YT,S5⟩
  rw [pt S YT S5]
  have hlS:S.length=L.length:=YT.length_eq
  dsimp only [id_eq,Zb,Za]
  unfold PB
  have hzl:(lB r po v so xp de).length=L.length:=by rw [← pt S YT S5];exact hlS
  refine yM ?_
  first | with_reducible apply aN | with_reducible apply aO
  case he=>exact pL rfl
  case hR=>
   intro w' aB
   exact aF (.slice a' L.length gQ) trivial (by exact .cons c6 (.cons dO (.cons dO (.cons dO (.cons .here (.cons c6 .nil)))))) aB rfl
end Go.Proofs.A1
namespace Go.SL
open Go
theorem jT {P:Program} {c:Cx} {sl:aG} {hs hs':List a8} {fn:Func} {s t u:Tmp} {T:TypeId} {b o n:Nat} {cs vs:List Value} {E:TypeId} {fz:Nat×Nat} {x y:Value} (h:fn.results=#[.cell t T,.tmp s,.tmp u]) (hT:Ty P T true n) (hp:cK sl t=some (.pointer (some ⟨b,o,none⟩))) (ht:Take hs (SL.bG b (.cells cs.toArray E fz)) hs') (hv:ed cs o n=vs) (hl:vs.length=n) (hx:cK sl s=some x) (hy:cK sl u=some y):Ends P fn c sl hs (.tuple #[.agg vs.toArray,x,y]):=
 PC (xs:=[.cell t T,.tmp s,.tmp u]) (vs:=[.agg vs.toArray,x,y]) h (Hg.cons (RV.cell hp (IY (eF.bG ht hv) hl)) (Hg.cons (RV.tmp hx) (Hg.cons (RV.tmp hy) Hg.nil))) (by simp)
end Go.SL
namespace Go.Proofs.A1
open Go Go.SL
def I2 (r:Ro) (t:Tk):Bool:=(r.de.getD (bE (cy r) t.de).toNat ⟨⟨#[]⟩,0,false⟩).pr
theorem Nj {r:Ro} {s d t p:Value} {x:eL} {b:Nat} {w:World} (h:RR w r s d t p) (hA:BR w b (RC r s d t p)) (hx:x.tk.de∈cy r):aj Tryz.prog 253 [.agg x.cells.toArray,.pointer (some ⟨b,0,none⟩)] w (.bool (I2 r x.tk)):=by
 have h1:=Rd.one h.sr
 have h3:=Rd.one h.ti
 have h4:=Rd.one h.po
 have mh:=h.de
 obtain ⟨a3,sq,b3,o3,rfl,nr,gB,tw,qk⟩:=mh
 rw [cg] at *
 unfold maxLen at gB
 obtain ⟨j0,zS⟩:∃ i:Nat,bE (cy r) x.tk.de=(i:Nat):=⟨(bE (cy r) x.tk.de).toNat,by have:=eC hx;omega⟩
 have BZ:j0<r.de.length:=by
  obtain ⟨hl,_⟩:=fE (l:=cy r) (s:=x.tk.de) (by omega)
  rw [zS,ZG] at hl
  unfold cy at hl;rwa [Zd] at hl
 have e0:I2 r x.tk=(r.de[j0]).pr:=by unfold I2;rw [zS,ZG,Zk,Zc BZ];rfl
 have cB:=tw (gJ BZ)
 have aC:=(qk j0 _ (fj BZ)).2
 unfold De.cells at aC
 have c2:=aC 2 _ rfl
 have S0:∀ w',aH [] w w'→aj Tryz.prog 155 [.agg #[.int .i64 r.lv,.int .i64 r.ma,s,.slice a3 r.de.length sq,t,p],.string x.tk.de] w' (.int .i64 (j0:Nat)):=fun w' hk=>zS ▸ fM x.tk.de (h.keeps hk)
 have f3:w.cell? ⟨b,3,none⟩=some (.slice a3 r.de.length sq):=hA 3 _ rfl
 have j7:∀ (j:Nat) (u:Value),[Value.int .i64 r.lv,.int .i64 r.ma,s,.slice a3 r.de.length sq,t,p][j]? = some u→w.cell? ⟨b,0+j,none⟩=some u:=hA
 clear hA
 rw [e0]
 unfold eL.cells
 refine ah Tryz.func253 rfl rfl ?_
 refine Jr<|Jy rfl rfl fun _ _=>Ja rfl<|Jn<|Jq ?_
 with_reducible refine en 10 (by kernel_rfl) ?_
 (refine oO rfl rfl ae<|aL (ag (.of rfl) (At.base f3 rfl)) rfl<|aL (gS (eF.base j7 rfl)) rfl<|oO rfl rfl ae<|aL (gT .here) rfl<|gD bd rfl (fun w' aB=>(S0 w' (Mem.keeps aB)))<|aL (az (.of rfl) (.of rfl) cB (by omega) (by omega) bj) rfl<|oO rfl rfl ae<|aL (ag (.of rfl) (At.base c2 rfl)) rfl<|aL (cA (.of rfl)) rfl ?_)
 with_reducible refine eo ?_
 refine Jn<|Je<|JT ?_
 rfl
theorem NM {r:Ro} {s d t p:Value} {x:eL} {b:Nat} {w:World} (h:RR w r s d t p) (hA:BR w b (RC r s d t p)) (zR:r.lv≤1000) (cI:r.ti.length≤1000000):bh Tryz.prog 255 [.agg x.cells.toArray,.pointer (some ⟨b,0,none⟩)] w [] (fun _:Value=>True) id (fun v=>[row 9 1 v r.lv.toNat (aM (br r x.tk.de))]):=by
 have h1:=Rd.one h.sr
 have h2:=Rd.one h.de
 have h3:=Rd.one h.ti
 have h4:=Rd.one h.po
 have j7:∀ (j:Nat) (u:Value),[Value.int .i64 r.lv,.int .i64 r.ma,s,d,t,p][j]? = some u→w.cell? ⟨b,0+j,none⟩=some u:=hA
 clear hA
 unfold eL.cells
 refine aQ Tryz.func255 rfl rfl ?_
 (refine Jr<|Jy rfl rfl fun _ _=>Ja rfl<|Ji<|ab (gS (eF.base j7 rfl)) rfl<|bP rfl rfl ae<|JL rfl .here rfl ?_)
 refine JN bd rfl (fun w1 aR=>vl x.tk.de (h.keeps aR.keeps) zR cI) ?_
 intro v _
 dsimp only [id_eq,Zb,Za]
 refine aW (v:=v) (by exact .here) fun va vc e=>?_
 subst e
 refine Ja rfl<|Jn<|Je ?_
 first | with_reducible apply aN | with_reducible apply aO
 case he=>exact dD rfl rfl
 case hR=>
  intro w' aB
  exact aF (.slice va r.lv.toNat vc) trivial (by exact .cons .here .nil) aB rfl
theorem QS {kv:Value} {l:List eL} {g:eL→List ByteArray} {n:Nat} {f:FuncId} {first cap:List Value} [bM Tryz.prog f] {w:World} (h:Rd w kv 2 (gN l)) (hM:sx w l) (hn:l.length≤1000) (hg:∀ x∈l,(g x).length=n)
  (cr:∀ x∈l,∀ w',aH [] w w'→bh Tryz.prog f (first++[.agg x.cells.toArray]++cap) w' [] (fun _:Value=>True) id (fun v=>[row 9 1 v n (aM (g x))])) :
  bh Tryz.prog 254 [kv,.func (.func f) first.toArray cap.toArray] w [] (fun x:Value×List Value=>x.2.length=l.length) (fun x=>x.1) (fun x=>[row 32 1 x.1 l.length x.2,mq 9 x.2 (l.map fun y=>aM (g y))]):=by
 obtain ⟨a,cp,b,o,rfl,c7,bQ,ha,hc⟩:=h
 rw [dw] at *
 unfold maxLen at bQ
 refine aQ Tryz.func254 rfl rfl ?_
 refine Jr<|Ja rfl<|Ji<|Ja rfl<|Jn<|Jq<|Jr<|Jv rfl<|JI rfl<|Jv rfl<|Jn<|J0 ?_
 refine aP 32 1 ?_
 refine jI 9 ?_
 refine aX (ι:=Nat×Value×List Value) (fun x=>x.1≤l.length∧x.2.2.length=x.1) (fun x=>[(10,.int .i64 (x.1:Nat)),(9,.int .i64 (l.length:Nat)),(8,.slice a l.length cp),(5,x.2.1),(1,.func (.func f) first.toArray cap.toArray)])
  (fun x=>[row 32 1 x.2.1 x.1 x.2.2,mq 9 x.2.2 ((l.take x.1).map fun y=>aM (g y))]) (fun x=>l.length-x.1) ?_ ?_
 ·apply aI (0,.slice none 0 0,[]) ⟨Zi _,rfl⟩
  case hs1=>exact cd
  case ht=>
   exact .cons (.there .here) (.cons .here .nil)
 rintro ⟨k,v,vs⟩ ⟨hk,oB⟩
 dsimp only at hk oB ⊢
 by_cases aK:k<l.length
 ·have cB:=ha (jJ aK)
  have aC:=(hc k _ (js aK)).2
  have iP:=cr _ (Zj aK)
  have RI:=hg _ (Zj aK)
  have fa:=Rd.one (hM _ (Zj aK))
  have htk:(l.take (k+1)).map (fun y=>aM (g y))=((l.take k).map fun y=>aM (g y))++[aM (g l[k])]:=by
   rw [Zn aK,Zr];rfl
  have v8:((l.take k).map fun y=>aM (g y)).length=k:=by rw [Zd,Zp];omega
  unfold eL.cells at aC iP
  refine aW (E:=32) (sz:=1) (v:=v) (by exact .here) fun va vc e=>?_
  subst e
  (refine Jr<|JA rfl<|Jn<|Jq<|Jd rfl fun ar=>Jk<|Jq<|J0<|Jr<|ab (fG cB ar) rfl<|ab (gS (eF.base aC rfl)) rfl<|Jz rfl rfl fun _ _=>aq (.of rfl) (.of rfl) .here rfl rfl (fN rfl fa) (bF rfl) ak<|Jn<|Jg<|Jv rfl<|Jv rfl<|ab (cL .here) rfl ?_)
  refine JN bL rfl (fun w1 aR=>iP w1 aR.keeps) ?_
  intro hv _
  dsimp only [id_eq,Zb,Za]
  refine aW (E:=9) (sz:=1) (v:=hv) (by exact .here) fun jz j6 e=>?_
  subst e
  refine bo (aD (.cons (.of rfl) .nil) rfl rfl rfl rfl) rfl (fun _ _=>?_)
  refine bH (.of rfl) (.of rfl) c6 .here ak (by rfl) (eE rfl) (by rfl) (by rfl) (by rfl) eN (by rfl) ?_
  intro v'
  refine Ja rfl<|Jx<|Jj<|Jt<|Jg<|JB rfl (by omega)<|Jv rfl<|Jn ?_
  refine kY (E:=9) (vs:=vs) (v:=.slice jz n j6) (x:=aM (g l[k])) dO bT (by rw [df,RI]) (by rw [v8,oB]) ?_
  apply aJ (k+1,v',vs++[.slice jz n j6]) ⟨by show k+1≤_;omega,by rw [Zg,oB];rfl⟩ (by show l.length-(k+1)<l.length-k;omega)
  case hs1=>exact cd
  case ht=>
   dsimp only
   rw [htk]
   exact .cons (.there .here) (.cons .here .nil)
 ·have e:k=l.length:=by omega
  subst e
  rw [ZL] at *
  refine aW (E:=32) (sz:=1) (v:=v) (by exact .here) fun va vc e=>?_
  subst e
  refine Jr<|JA rfl<|Jn<|Jq<|Jc rfl fun ar=>Jp<|Jl<|Jo<|Jt<|Jr<|Jv rfl<|Ja rfl<|Jn<|Je ?_
  first | with_reducible apply aN | with_reducible apply aO
  case he=>exact dD rfl rfl
  case hR=>
   intro w' aB
   exact aF (.slice va l.length vc,vs) oB (by exact .cons .here (.cons .here .nil)) aB rfl
theorem pY {r:Ro} (h:tq r) {s:ByteArray} (hs:s∈cy r∨s∈cU r):0≤dW r s∧dW r s<14:=by
 have hl:=h.len
 have l1:(cy r).length=r.de.length:=by unfold cy;rw [Zd]
 have l2:(cU r).length=r.ti.length:=by unfold cU;rw [Zd]
 rw [M3 hs]
 by_cases c:s∈cy r
 ·have:=eC c
  have:=z7 this
  rw [if_pos (by omega)];omega
 ·have h2:=cm.2 c
  have h3:=eC (hs.resolve_left c)
  have:=z7 h3
  rw [if_neg (by omega)];omega
theorem mO {r:Ro} (h:tq r) {q:List Po} (hq:iZ r q):q.length≤42:=by
 have hl:=h.lim
 have key:∀ p∈q,0≤p.lv*14+dW r p.ou∧p.lv*14+dW r p.ou<42:=fun p hp=>by
  have:=pY h (hq.out p hp)
  have:=hq.LG p hp
  omega
 have:=kT 42 (q.map fun p=>(p.lv*14+dW r p.ou).toNat) (by
  unfold List.Nodup
  rw [Zbz]
  refine (List.Pairwise.and_mem.1 hq.qK).imp fun {a b} ⟨ha,hb,S3⟩ e=>?_
  have:=key a ha
  have:=key b hb
  have:=pY h (hq.out a ha)
  have:=pY h (hq.out b hb)
  unfold pG at S3
  simp only [ZP,Zm,decide_eq_true_eq] at S3
  omega) (fun x hx=>by
  obtain ⟨p,hp,rfl⟩:=Zu.1 hx
  have:=key p hp
  omega)
 rwa [Zd] at this
theorem HU {r:Ro} (h:tq r) {po:List Po} {v:Int} {s d:ByteArray} (hv:0≤v∧v<r.lv) (qE:iZ r po) (hs:s∈cC r) (mh:d∈cy r) (eP:ez po v d=none) {p:List Nat} (hp:(fw r po v s).least (nM r d) p):iZ r (lB r po v s p d):=
 (HT h.CH h.nd hv qE hs mh eP hp.1 (hp.2.1.trans (KM mh).symm)).1
end Go.Proofs.A1
namespace Go.SL
open Go
def qZ (E:TypeId) (vs:List Value) (xs:List (List Value)) (j:Nat):a8:=EE (gj E (vs.take j) (xs.take j))
def qY (E:TypeId) (vs:List Value) (xs:List (List Value)) (j:Nat):a8:=EE (gj E (vs.drop (j+1)) (xs.drop (j+1)))
theorem og {E:TypeId} {v:Value} {x:List Value}:∀ {vs:List Value} {xs:List (List Value)} {j:Nat},vs[j]? = some v→xs[j]? = some x→gj E vs xs=gj E (vs.take j) (xs.take j)++row E 1 v x.length x::gj E (vs.drop (j+1)) (xs.drop (j+1))
 | [],_,j,h,_=>by simp at h
 | _::_,[],j,_,h=>by simp at h
 | v' :: vs, x' :: xs, 0, h1, h2 => by
  simp only [Zax,Option.some.injEq] at h1 h2
  subst h1 h2
  rfl
 | v' :: vs, x' :: xs, j + 1, h1, h2 => by
  simp only [ZaV] at h1 h2
  show row E 1 v' x'.length x'::gj E vs xs=row E 1 v' x'.length x'::(gj E (vs.take j) (xs.take j)++_)
  rw [og h1 h2];rfl
theorem rK:∀ (l:List a8) (A:a8) (m:List a8),Take (l++A::m) A (l++m)
 | [],_,_=>.here
 | _::l,A,m=>.there (rK l A m)
theorem oV:∀ (P l m:List a8),bz (P++(l++m)) l (P++m)
 | _,[],_=>.nil
 | P,A::l,m=>.cons (rK P A (l++m)) (oV P l m)
section
variable {P:Program} {c:Cx} {D:List Nat} {sl:aG} {hs hs':List a8} {X:Act→World→Prop}
theorem uu {E:TypeId} {vs:List Value} {xs:List (List Value)} {v:Value} {x:List Value} {n j:Nat} (ht:Take hs (mq E vs xs) hs') (hv:vs[j]? = some v) (hx:xs[j]? = some x) (hn:x.length=n)
  (k:Tr c D sl (row E 1 v n x::qZ E vs xs j::qY E vs xs j::hs') X):Tr c D sl hs X:=by
 subst hn
 refine xl (As:=gj E vs xs) ht ?_
 rw [og hv hx,Zh]
 refine oS (As:=gj E (vs.take j) (xs.take j)) (oV [] _ _) ?_
 refine oS (As:=gj E (vs.drop (j+1)) (xs.drop (j+1))) (hs':=EE (gj E (vs.take j) (xs.take j))::row E 1 v x.length x::hs') (oV [_,_] _ _) ?_
 intro a w bb
 have hT:bz (EE (gj E (vs.drop (j+1)) (xs.drop (j+1)))::EE (gj E (vs.take j) (xs.take j))::row E 1 v x.length x::hs') [row E 1 v x.length x,qZ E vs xs j,qY E vs xs j] hs':=.cons (.there (.there .here)) (.cons (.there .here) (.cons .here .nil))
 have hm:=bb.mem.iT (hT.append (mw D))
 exact k a w (bb.heap hm)
theorem xq {E:TypeId} {vs:List Value} {xs:List (List Value)} {v:Value} {x:List Value} {n:Nat} (j:Nat) {h1 h2:List a8} (ht:Take hs (qZ E vs xs j) h1) (ht2:Take h1 (qY E vs xs j) h2) (ht3:Take h2 (row E 1 v n x) hs') (hv:vs[j]? = some v) (hx:xs[j]? = some x) (hn:x.length=n)
  (k:Tr c D sl (mq E vs xs::hs') X):Tr c D sl hs X:=fun a w bb=>by
 subst hn
 have hT:bz hs [qZ E vs xs j,qY E vs xs j,row E 1 v x.length x] hs':=.cons ht (.cons ht2 (.cons ht3 .nil))
 have hT2:bz ([qZ E vs xs j,qY E vs xs j,row E 1 v x.length x]++(hs'++mw D)) [qZ E vs xs j,row E 1 v x.length x,qY E vs xs j] (hs'++mw D):=.cons .here (.cons (.there .here) (.cons .here .nil))
 have hm:=(bb.mem.iT (hT.append (mw D))).iT hT2
 obtain ⟨kk,fp,tX,⟨f1,f2',rfl,g1,⟨f2,f3',rfl,g2,⟨f3,f4,rfl,g3,g4⟩⟩⟩,hb⟩:=hm
 refine k a w (bb.heap ⟨kk,(f1++(f2++f3))++f4,by simpa only [Zh] using tX,⟨f1++(f2++f3),f4,rfl,?_,g4⟩,by simpa only [Zh] using hb⟩)
 show ch (hp w) (gj E vs xs) _
 rw [og hv hx]
 exact ch.append_iff.2 ⟨f1,f2++f3,rfl,g1,⟨f2,f3,rfl,g2,g3⟩⟩
end
attribute [irreducible] qZ qY
end Go.SL
namespace Go.Proofs.A1
open Go Go.SL
theorem JR {α β:Type} (f:α→β) (p:β→Bool) (l:List α):gP p (l.map f)=gP (fun x=>p (f x)) l:=by
 unfold gP
 rw [Zd]
 congr 1
 congr 1
 funext i
 rw [ZD,Option.map_map];rfl
theorem IX (r:Ro) (l:List eL):nn r (bZ l)=gP (fun x:eL=>I2 r x.tk) l:=by
 unfold nn bZ
 rw [JR];rfl
def pC (r:Ro) (x:Value×Value×Value×Value):List a8:=[J1 r x.1,J2 r x.2.1,J3 r x.2.2.1,PB x.2.2.2 r.po]
theorem FX {c:Cx} {D:List Nat} {sl:aG} {hs hs':List a8} {X:Act→World→Prop} {ko:List Wy} {xv:Value} {xp:List Nat} {xf:Nat} (hx:(⟨xv,xp,xf⟩:Wy)∈ko∨(⟨xv,xp,xf⟩:Wy)=⟨.slice none 0 0,[],0⟩) (ht:Take hs (iB ko) hs')
  (k:∀ nG,Tr c D sl (row 3 1 xv xp.length (fV xp)::iB nG::hs') X):Tr c D sl hs X:=by
 rcases hx with hx | hx
 ·refine ux hx ht fun nG _=>?_
  intro a w bb
  have hT:bz (iB nG::row 3 1 xv xp.length (fV xp)::hs') [row 3 1 xv xp.length (fV xp),iB nG] hs':=.cons (.there .here) (.cons .here .nil)
  have Gt:St c D sl (iB nG::row 3 1 xv xp.length (fV xp)::hs') a w:=bb
  have hm:=Gt.mem.iT (hT.append (mw D))
  exact k nG a w (bb.heap hm)
 ·cases hx
  refine aP 3 1 ?_
  intro a w bb
  have hT:bz (row 3 1 (.slice none 0 0) 0 []::hs) [row 3 1 (.slice none 0 0) 0 [],iB ko] hs':=.cons .here (.cons ht .nil)
  have hm:=bb.mem.iT (hT.append (mw D))
  exact k ko a w (bb.heap hm)
set_option maxHeartbeats 4000000 in
theorem EB {r:Ro} {s d t p kv:Value} {l:List eL} {w:World} (h:RR w r s d t p) (eG:tq r) (XK:r.po.length≤500) (hw:Rd w kv 2 (gN l)) (hM:sx w l) (hT:Hf r (bZ l)) :
  bh Tryz.prog 165 [RA r s d t p,kv] w [] (fun _:Value×Value×Value×Value=>True) (fun x=>.tuple #[RA (jm r (bZ l)).1 x.1 x.2.1 x.2.2.1 x.2.2.2,.int .i64 (jm r (bZ l)).2.1,.int .i64 (jm r (bZ l)).2.2]) (fun x=>pC (jm r (bZ l)).1 x):=by
 have zR:=eG.lim
 have DM:=eG.len
 have cI:lz r:=by unfold lz;omega
 have UL:=hT.DZ
 unfold bZ at UL
 rw [Zd] at UL
 have h1:=Rd.one h.sr
 have h2:=Rd.one h.de
 have h3:=Rd.one h.ti
 have h4:=Rd.one h.po
 have AF:=hw
 obtain ⟨a,cp,b,o,rfl,c7,bQ,ha,hc⟩:=hw
 rw [dw] at *
 unfold maxLen at bQ
 have UH:=IX r l
 unfold RA
 refine aQ Tryz.func165 rfl rfl ?_
 refine Jr<|Jy rfl rfl fun _ _=>Jz rfl rfl fun _ _=>Ja rfl<|Ja rfl<|Ji<|Jv rfl<|ab (bA .nil (.cons (.of rfl) .nil)) rfl ?_
 rename_i b2 sW b4 wb
 with_reducible apply ai
 case hr=>exact bd
 case hd=>rfl
 case hc=>
  intro w' aB
  have hA:BR w' b2 [.int .i64 r.lv,.int .i64 r.ma,s,d,t,p]:=BR.of aB (by exact Take.there .here)
  have hR:=h.keeps aB.keeps
  exact E5 (f:=253) (p:=fun x:eL=>I2 r x.tk) (first:=[]) (cap:=[.pointer (some ⟨b2,0,none⟩)]) (AF.keeps aB.keeps) (fun x hx w2 eH=>Nj (hR.keeps eH) (hA.keeps eH) (hT.de _ (Z0 hx)))
 rw [← UH]
 (refine Ja rfl<|Jn<|Jq<|Jr<|Jv rfl<|JG rfl<|Jn<|fP rfl (fun ar=>?_) fun ar=>?_;refine Jr<|ab (aS .nil ak) rfl<|Jv rfl<|aq (.of rfl) (.of rfl) .here rfl rfl (gE rfl rfl rfl rfl rfl rfl) (bF rfl) ak<|Ja rfl<|Ja rfl<|Jn<|Ju ?_;rotate_left;refine Jk<|Jr<|ab (cL (.there .here)) rfl ?_;rotate_right)
 ·have e0:jm r (bZ l)=(Ro.nil,nn r (bZ l),31):=by unfold jm;rw [if_pos (by omega)]
  rw [e0]
  dsimp only
  refine aP 186 2 ?_
  refine aP 90 3 ?_
  refine aP 187 3 ?_
  refine aP 188 3 ?_
  first | with_reducible apply aN | with_reducible apply aO
  case he=>exact jT rfl inferInstance rfl dO ak (by rfl) (by rfl) (by rfl)
  case hR=>
   intro w' aB
   exact aF (.slice none 0 0,.slice none 0 0,.slice none 0 0,.slice none 0 0) trivial (by exact .cons c6 (.cons bT (.cons (.there .here) (.cons .here .nil)))) aB rfl
 have hL0:¬ 0≤nn r (bZ l):=by omega
 refine JN bL rfl (fun w1 aR=>zq (h.keeps aR.keeps) cI (by omega)) ?_
 intro y _
 dsimp only [id_eq,Zb,Za]
 obtain ⟨s1,d1,t1,p1⟩:=y
 dsimp only
 unfold RA PB
 refine aW (E:=186) (sz:=2) (v:=s1) (by exact .here) fun _ _ e=>?_
 have k1:s1.oneCell'=true:=by rw [e];rfl
 clear e
 refine aW (E:=90) (sz:=3) (v:=d1) (by exact Take.there .here) fun _ _ e=>?_
 have k2:d1.oneCell'=true:=by rw [e];rfl
 clear e
 refine aW (E:=187) (sz:=3) (v:=t1) bT fun _ _ e=>?_
 have k3:t1.oneCell'=true:=by rw [e];rfl
 clear e
 refine aW (E:=188) (sz:=3) (v:=p1) c6 fun _ _ e=>?_
 have k4:p1.oneCell'=true:=by rw [e];rfl
 clear e
 (refine Jz rfl rfl fun _ _=>aq (.of rfl) (.of rfl) .here rfl rfl (gE rfl rfl k1 k2 k3 k4) (bF rfl) ak<|Ji<|Jv rfl<|ab (bA .nil (.cons (.of rfl) .nil)) rfl ?_)
 rename_i b8 hb8
 with_reducible apply jr
 case hr=>exact bd
 case hd=>rfl
 case ht=>exact bz.nil
 case hc=>
  intro w1 fp aR _ hs1
  obtain rfl:fp=[]:=hs1
  have hA:BR w1 b2 [.int .i64 r.lv,.int .i64 r.ma,s,d,t,p]:=BR.of aR jo
  have hR:=h.keeps aR.keeps
  exact QS (f:=255) (first:=[]) (cap:=[.pointer (some ⟨b2,0,none⟩)]) (g:=fun x:eL=>br r x.tk.de) (n:=r.lv.toNat) (AF.keeps aR.keeps) (hM.keeps aR.keeps) (by omega) (fun x _=>by unfold br;simp) (fun x hx w2 eH=>NM (hR.keeps eH) (hA.keeps eH) (by omega) (by omega))
 rintro ⟨hv,oB⟩ Q3
 dsimp only at Q3
 dsimp only [id_eq,Zb,Za]
 refine aW (E:=32) (sz:=1) (v:=hv) (by exact .here) fun lR kz e=>?_
 subst e
 refine Ja rfl<|Jn<|Jq<|Jr<|Jv rfl<|JI rfl<|Jv rfl<|Jn<|J0 ?_
 have hdl:∀ i,(jA r (bZ l) i).length≤r.po.length:=fun i=>by rw [kO];exact Z7 _ _
 have xZ:(bZ l).length=l.length:=by unfold bZ;rw [Zd]
 refine aX (ι:=Nat×Value×List Po) (fun y=>y.1≤l.length∧y.2.2=jA r (bZ l) y.1) (fun y=>[(34,.int .i64 (y.1:Nat)),(33,.int .i64 (l.length:Nat)),(32,.slice a l.length cp),(9,.slice lR l.length kz),(8,.pointer (some ⟨b8,0,none⟩)),(4,.pointer (some ⟨b4,0,none⟩)),(1,.slice a l.length cp)])
  (fun y=>[JP b8 r s1 d1 t1 (y.2.1),J1 r s1,J2 r d1,J3 r t1,row 188 3 y.2.1 y.2.2.length (gR y.2.2),row 32 1 (.slice lR l.length kz) l.length oB,mq 9 oB (l.map fun y=>aM (br r y.tk.de)),bG b4 (.cells #[.int .i64 0,.int .i64 0,.slice none 0 0,.slice none 0 0,.slice none 0 0,.slice none 0 0] 41 (0,0))]) (fun y=>l.length-y.1) ?_ ?_
 ·apply aI (0,p1,r.po) ⟨Zi _,rfl⟩
  case hs1=>exact cd
  case ht=>exact .cons bT (.cons bT (.cons bT (.cons bT (.cons bT (.cons .here (.cons .here (.cons .here .nil)))))))
 rintro ⟨i,pv,L⟩ ⟨hi,hL⟩
 dsimp only at hi hL ⊢
 by_cases aK:i<l.length
 ·have Rz:=jJ aK
  have cB:=ha Rz
  have aC:=(hc i _ (js aK)).2
  have iv:=Zj aK
  have tz:=hM _ iv
  have O9:(bZ l).getD i Tk.zero=l[i].tk:=by unfold bZ;rw [Zk,ZD,Zc aK];rfl
  have fH:jA r (bZ l) (i+1)=ns r l[i].tk l[i].tk.so.length (jA r (bZ l) i):=by rw [jA,O9]
  have Wp:=hT.lv l[i].tk (Z0 iv)
  have hdi:L.length≤r.po.length:=by rw [hL];exact hdl i
  rw [← hL] at fH
  have Yu:∀ k,(ns r l[i].tk k L).length≤r.po.length:=fun k=>ZY (by rw [nj];exact Z7 _ _) hdi
  have LH:∃ u,oB[i]? = some u:=⟨oB[i],Zc (by omega)⟩
  have T3:(l.map fun y=>aM (br r y.tk.de))[i]? = some (aM (br r l[i].tk.de)):=by rw [ZD,Zc aK];rfl
  unfold eL.cells at aC
  generalize hti:l[i]=ti at *
  obtain ⟨tk,tv⟩:=ti
  dsimp only at *
  obtain ⟨sa,MB,sb,Qe,rfl,JZ,vd,Rg,Re⟩:=tz
  rw [bV] at *
  unfold maxLen at vd
  (refine Jr<|JA rfl<|Jn<|Jq<|Jd rfl fun ar=>Jk<|Jq<|J0<|Jr<|Jv rfl<|ab (fG cB ar) rfl<|ab (gS (eF.base aC rfl)) rfl<|Jz rfl rfl fun _ _=>Ja rfl<|aq (.of rfl) (.of rfl) .here rfl rfl (fN rfl rfl) (bF rfl) ak<|Ji<|bP rfl rfl ae<|JL rfl .here rfl<|JI rfl<|Jv rfl<|Jn<|J0 ?_)
  rename_i PI YK
  obtain ⟨u,hu⟩:=LH
  have R6:(br r tk.de).length=r.lv.toNat:=by unfold br;simp
  refine uu (E:=9) (j:=i) (n:=r.lv.toNat) AB hu T3 (by rw [df,R6]) ?_
  refine dd (E:=9) (sz:=1) (v:=u) (by exact .here) (by omega) fun gu uc Hu e Xq Uc Xp Xo=>?_
  subst e
  refine dd (E:=32) (sz:=1) (v:=.slice lR l.length kz) iR (by omega) fun gh hc ng e NL NK Yh Yg=>?_
  cases e
  have f1:(oB++ng)[i*1]? = some (.slice (some ⟨gu,0,none⟩) r.lv.toNat uc):=by
   rw [Zar,ZI (by omega)];exact hu
  have f2:∀ k,k<r.lv.toNat→(aM (br r tk.de)++Hu)[k*1]? = some (.string (jM r (k:Nat) tk.de)):=fun k hk=>by
   rw [Zar,ZI (by rw [df,R6];exact hk)]
   unfold aM br
   rw [ZD,ZD,Zbq hk];rfl
  refine aX (ι:=Nat×Value×List Po) (fun y=>y.1≤tk.so.length∧y.2.2=ns r tk y.1 L) (fun y=>[(42,.int .i64 (y.1:Nat)),(41,.int .i64 (tk.so.length:Nat)),(40,.slice sa tk.so.length MB),(34,.int .i64 (i:Nat)),(33,.int .i64 (l.length:Nat)),(32,.slice a l.length cp),(10,.int .i64 (i:Nat)),(11,.pointer (some ⟨PI,0,none⟩)),(9,.slice (some ⟨gh,0,none⟩) l.length kz),(8,.pointer (some ⟨b8,0,none⟩)),(4,.pointer (some ⟨b4,0,none⟩)),(1,.slice a l.length cp)])
   (fun y=>[JP b8 r s1 d1 t1 (y.2.1),J1 r s1,J2 r d1,J3 r t1,row 188 3 y.2.1 y.2.2.length (gR y.2.2),bG gh (.cells (oB++ng).toArray 32 (0,0)),bG gu (.cells (aM (br r tk.de)++Hu).toArray 9 (0,0)),qZ 9 oB (l.map fun y=>aM (br r y.tk.de)) i,qY 9 oB (l.map fun y=>aM (br r y.tk.de)) i,bG b4 (.cells #[.int .i64 0,.int .i64 0,.slice none 0 0,.slice none 0 0,.slice none 0 0,.slice none 0 0] 41 (0,0)),bG PI (.cells #[.string tk.de,.slice sa tk.so.length MB] 78 (0,0))]) (fun y=>tk.so.length-y.1) ?_ ?_
  ·apply aI (0,pv,L) ⟨Zi _,rfl⟩
   case hs1=>exact cd
   case ht=>exact .cons fk (.cons fk (.cons fk (.cons fk (.cons fk (.cons .here (.cons .here (.cons .here (.cons .here (.cons (.there .here) (.cons .here .nil))))))))))
  rintro ⟨k,Ig,L2⟩ ⟨hk,tY⟩
  dsimp only at hk tY ⊢
  by_cases v8:k<tk.so.length
  ·have BS:=Rg (k6 v8)
   have zO:w.cell? ⟨sb,Qe+k*1,none⟩=some (.string tk.so[k]):=(Re k _ (jb v8)).2 0 _ rfl
   have f3:=f2 k (by omega)
   have jd:tk.at k=tk.so[k]:=by unfold Tk.at;rw [Zk,Zc v8];rfl
   have hdk:=Yu k
   rw [← tY] at hdk
   have hs2:ns r tk (k+1) L=if nE r tk k then L2.filter (fun x=>!xR (k:Nat) tk.de x) else L2:=by rw [ns,← tY]
   have hdb:nE r tk k=(!decide (tk.so[k]=⟨#[]⟩)&&!decide (tk.so[k]=jM r (k:Nat) tk.de)):=by unfold nE;rw [jd]
   generalize jM r (k:Nat) tk.de=ck at *
   generalize tk.so[k]=sk at *
   (refine Jr<|JA rfl<|Jn<|Jq<|Jd rfl fun ar=>Jk<|Jq<|J0<|Jr<|Jv rfl<|ab (az (.of rfl) (.of rfl) BS (by omega) ar bj) rfl ?_;refine ab (ag (.of rfl) (At.base zO rfl)) rfl ?_;refine Ja rfl<|Ja rfl<|Ji<|Jv rfl<|ab (fR (.of rfl) (.of rfl)) rfl ?_;refine Jv rfl<|gr rfl rfl rfl rfl ?_;refine gr rfl rfl rfl rfl ?_;refine gr rfl rfl rfl rfl ?_;refine aA rfl rfl inferInstance (fun hg bB=>(az (.bI hg rfl) (.bI hg rfl) rfl (by omega) (by assumption) bj)) rfl ?_;refine aA rfl rfl inferInstance (fun hg bB=>(ag (.bI hg rfl) (At.mF fk f1))) rfl ?_;refine gr rfl rfl rfl rfl ?_;refine aA rfl rfl inferInstance (fun hg bB=>(az (.bI hg rfl) (.bI hg rfl) rfl (by omega) (by omega) bj)) rfl ?_;refine aA rfl rfl inferInstance (fun hg bB=>(ag (.bI hg rfl) (At.mF jo f3))) rfl ?_;refine aA rfl rfl inferInstance (fun hg bB=>(fR (.bI hg rfl) (.bI hg rfl))) rfl ?_;refine ab (cz (.of rfl) rfl) rfl ?_;refine Jn<|nF rfl (fun ar=>?_) fun ar=>?_;refine Jg<|Jv rfl<|bP rfl rfl ae ?_;refine JL rfl mJ rfl ?_;rotate_left;refine Jw<|Jj<|Jt<|Jg<|JB rfl (by omega)<|Jv rfl<|Jn ?_;rotate_right)
   ·obtain ⟨q1,q2⟩:sk≠⟨#[]⟩∧sk≠ck:=by simpa using ar
    have DQ:nE r tk k=true:=by rw [hdb,decide_eq_false q1,decide_eq_false q2];rfl
    rw [DQ,if_pos rfl] at hs2
    obtain ⟨L3,Pn⟩:∃ L3,L3=ns r tk (k+1) L:=⟨_,rfl⟩
    rw [← Pn] at hs2
    with_reducible apply fS (As:=[JP b8 r s1 d1 t1 Ig,row 188 3 Ig L2.length (gR L2)])
    case hr=>exact eK
    case hd=>rfl
    case ht=>exact lU
    case hc=>
     intro w1 AO aR vh hs1 CK kM
     exact w9 (r:=r) (s:=s1) (d:=d1) (t:=t1) (p:=Ig) (b:=b8) (l:=L2) (k:Nat) tk.de vh hs1 (by omega)
    intro p3 _
    dsimp only [id_eq,Zb,Za]
    unfold RB PB
    rw [← hs2]
    refine Jx<|Jj<|Jt<|Jg<|JB rfl (by omega)<|Jv rfl<|Jn ?_
    apply aJ (k+1,p3,L3) ⟨by show k+1≤_;omega,Pn⟩ (by show tk.so.length-(k+1)<tk.so.length-k;omega)
    case hs1=>exact cd
    case ht=>exact lU
   ·have DQ:nE r tk k=false:=by
     rw [hdb]
     simp only [ne_eq,Zo,decide_eq_true_eq,Classical.not_and_iff_not_or_not] at ar
     rcases ar with e | e
     ·rw [decide_eq_true e];rfl
     ·rw [decide_eq_true e];simp
    rw [DQ,if_neg (by decide)] at hs2
    apply aJ (k+1,Ig,L2) ⟨by show k+1≤_;omega,hs2.symm⟩ (by show tk.so.length-(k+1)<tk.so.length-k;omega)
    case hs1=>exact cd
    case ht=>exact lU
  ·have e:k=tk.so.length:=by omega
   subst e
   refine Jr<|JA rfl<|Jn<|Jq<|Jc rfl fun ar=>Jp<|Jl<|Jo<|Jj<|Jt<|Jg<|JB rfl (by omega)<|Jv rfl<|Jn ?_
   refine cN (E:=9) (sz:=1) (g:=gu) jo Xq Uc Xp Xo ?_
   refine cN (E:=32) (sz:=1) (g:=gh) jo NL NK Yh Yg ?_
   have Wb:(aM (br r tk.de)).length=r.lv.toNat:=by rw [df,R6]
   with_reducible apply xq (E:=9) (vs:=oB) (xs:=l.map fun y=>aM (br r y.tk.de)) (v:=.slice (some ⟨gu,0,none⟩) r.lv.toNat uc) (x:=aM (br r tk.de)) (n:=r.lv.toNat) i
   case ht=>exact AB
   case ht2=>exact AB
   case ht3=>exact Take.there .here
   case hv=>exact hu
   case hn=>exact Wb
   case hx=>exact T3
   case k=>
    apply aJ (i+1,Ig,L2) ⟨by show i+1≤_;omega,by show L2=jA r (bZ l) (i+1);rw [fH,tY]⟩ (by show l.length-(i+1)<l.length-i;omega)
    case hs1=>exact cd
    case ht=>exact .cons bT (.cons bT (.cons bT (.cons bT (.cons bT (.cons (.there .here) (.cons .here (.cons .here .nil)))))))
 ·have e:i=l.length:=by omega
  subst e
  refine Jr<|JA rfl<|Jn<|Jq<|Jc rfl fun ar=>Jp<|Jl<|Jo<|Jt<|Jr ?_
  have hLf:L=r.po.filter (fun p=>!KL r (bZ l) l.length p):=by rw [hL,kO]
  have GJ:=hdl l.length
  rw [← hL] at GJ
  with_reducible apply fS (As:=[JP b8 r s1 d1 t1 pv,J1 r s1,J2 r d1,J3 r t1,row 188 3 pv L.length (gR L)])
  case hr=>exact bL
  case hd=>rfl
  case ht=>exact lU
  case hc=>
   intro w1 AO aR vh hs1 CK kM
   exact Mp (r:=r.wp L) (s:=s1) (d:=d1) (t:=t1) (p:=pv) (b:=b8) vh hs1 cI (by show L.length≤1000;omega)
  rintro ⟨pw,ff⟩ ⟨R2,WB⟩
  have qE:(r.wp L).po.filter ff=te r (bZ l):=by
   show L.filter ff=wq (cy r) (jA r (bZ l) (bZ l).length)
   rw [xZ,← hL]
   exact OG.tid eG.CH (by rw [hLf];exact eG.val.acy.sub _) ⟨R2,WB⟩
  dsimp only [id_eq,Zb,Za]
  rw [qE]
  unfold RW RB PB
  dsimp only [Zb,Za]
  try unfold JP
  try unfold J1 J2 J3
  rw [show (r.wp L).lv=r.lv from rfl,show (r.wp L).ma=r.ma from rfl,show (r.wp L).sr=r.sr from rfl,show (r.wp L).de=r.de from rfl,show (r.wp L).ti=r.ti from rfl]
  refine Jn<|Jq<|Jr<|Jv rfl<|JI rfl<|Jv rfl<|Jn<|J0 ?_
  refine aX (ι:=Nat×Value×List Po) (fun y=>y.1≤l.length∧jn r (bZ l) (te r (bZ l)) y.1=some y.2.2∧iZ r y.2.2) (fun y=>[(69,.int .i64 (y.1:Nat)),(68,.int .i64 (l.length:Nat)),(67,.slice a l.length cp),(9,.slice lR l.length kz),(8,.pointer (some ⟨b8,0,none⟩)),(4,.pointer (some ⟨b4,0,none⟩)),(1,.slice a l.length cp)])
   (fun y=>[JP b8 r s1 d1 t1 (y.2.1),J1 r s1,J2 r d1,J3 r t1,row 188 3 y.2.1 y.2.2.length (gR y.2.2),row 32 1 (.slice lR l.length kz) l.length oB,mq 9 oB (l.map fun y=>aM (br r y.tk.de)),bG b4 (.cells #[.int .i64 0,.int .i64 0,.slice none 0 0,.slice none 0 0,.slice none 0 0,.slice none 0 0] 41 (0,0))]) (fun y=>l.length-y.1) ?_ ?_
  ·have Y2:jn r (bZ l) (te r (bZ l)) 0=some (te r (bZ l)):=by rw [jn]
   have h01:=(qu eG hT).1
   generalize te r (bZ l)=D0 at *
   apply aI (0,pw,D0) ⟨Zi _,Y2,h01⟩
   case hs1=>exact cd
   case ht=>exact lU
  clear R2 WB qE ff pw GJ hLf hL pv L hi
  rintro ⟨i,pv,L⟩ ⟨hi,hL,hLV⟩
  dsimp only at hi hL hLV ⊢
  by_cases aK:i<l.length
  ·have cB:=ha (jJ aK)
   have aC:=(hc i _ (js aK)).2
   have iv:=Zj aK
   have tz:=hM _ iv
   have nf:i<(bZ l).length:=by omega
   have RH:(bZ l)[i]=l[i].tk:=Z1 _
   have O9:(bZ l).getD i Tk.zero=l[i].tk:=by rw [Zk,Zc nf,Zaj,RH]
   have UF:=fun k hk q h1=>QP eG hT nf (k:=k) (q0:=L) (q:=q) hk hL h1
   have UO:=fun k=>zD eG hT (Zj nf) (k:=k)
   rw [RH] at UF UO
   have Wi:jn r (bZ l) (te r (bZ l)) (i+1)=pq r l[i].tk l[i].tk.so.length L:=by rw [jn,hL,O9];rfl
   have hrf:=fun h2=>MQ (r:=r) (l:=bZ l) (po:=te r (bZ l)) nf hL h2
   have Wp:=hT.lv l[i].tk (Z0 iv)
   have LH:∃ u,oB[i]? = some u:=⟨oB[i],Zc (by omega)⟩
   have T3:(l.map fun y=>aM (br r y.tk.de))[i]? = some (aM (br r l[i].tk.de)):=by rw [ZD,Zc aK];rfl
   unfold eL.cells at aC
   generalize hti:l[i]=ti at *
   obtain ⟨tk,tv⟩:=ti
   dsimp only at *
   obtain ⟨sa,MB,sb,Qe,rfl,JZ,vd,Rg,Re⟩:=tz
   rw [bV] at *
   unfold maxLen at vd
   (refine Jr<|JA rfl<|Jn<|Jq<|Jd rfl fun ar=>Jk<|Jq<|J0<|Jr<|Jv rfl<|ab (fG cB ar) rfl<|ab (gS (eF.base aC rfl)) rfl<|Jz rfl rfl fun _ _=>Ja rfl<|aq (.of rfl) (.of rfl) .here rfl rfl (fN rfl rfl) (bF rfl) ak<|Ji<|bP rfl rfl ae<|JL rfl .here rfl<|JI rfl<|Jv rfl<|Jn<|J0 ?_)
   rename_i Sy YH
   obtain ⟨u,hu⟩:=LH
   have R6:(br r tk.de).length=r.lv.toNat:=by unfold br;simp
   refine uu (E:=9) (j:=i) (n:=r.lv.toNat) AB hu T3 (by rw [df,R6]) ?_
   refine dd (E:=9) (sz:=1) (v:=u) (by exact .here) (by omega) fun gu uc Hu e Xq Uc Xp Xo=>?_
   subst e
   refine dd (E:=32) (sz:=1) (v:=.slice lR l.length kz) iR (by omega) fun gh hc ng e NL NK Yh Yg=>?_
   cases e
   have f1:(oB++ng)[i*1]? = some (.slice (some ⟨gu,0,none⟩) r.lv.toNat uc):=by
    rw [Zar,ZI (by omega)];exact hu
   have f2:∀ k,k<r.lv.toNat→(aM (br r tk.de)++Hu)[k*1]? = some (.string (jM r (k:Nat) tk.de)):=fun k hk=>by
    rw [Zar,ZI (by rw [df,R6];exact hk)]
    unfold aM br
    rw [ZD,ZD,Zbq hk];rfl
   refine aX (ι:=Nat×Value×List Po) (fun y=>y.1≤tk.so.length∧pq r tk y.1 L=some y.2.2) (fun y=>[(77,.int .i64 (y.1:Nat)),(76,.int .i64 (tk.so.length:Nat)),(75,.slice sa tk.so.length MB),(69,.int .i64 (i:Nat)),(68,.int .i64 (l.length:Nat)),(67,.slice a l.length cp),(14,.int .i64 (i:Nat)),(15,.pointer (some ⟨Sy,0,none⟩)),(9,.slice (some ⟨gh,0,none⟩) l.length kz),(8,.pointer (some ⟨b8,0,none⟩)),(4,.pointer (some ⟨b4,0,none⟩)),(1,.slice a l.length cp)])
    (fun y=>[JP b8 r s1 d1 t1 (y.2.1),J1 r s1,J2 r d1,J3 r t1,row 188 3 y.2.1 y.2.2.length (gR y.2.2),bG gh (.cells (oB++ng).toArray 32 (0,0)),bG gu (.cells (aM (br r tk.de)++Hu).toArray 9 (0,0)),qZ 9 oB (l.map fun y=>aM (br r y.tk.de)) i,qY 9 oB (l.map fun y=>aM (br r y.tk.de)) i,bG b4 (.cells #[.int .i64 0,.int .i64 0,.slice none 0 0,.slice none 0 0,.slice none 0 0,.slice none 0 0] 41 (0,0)),bG Sy (.cells #[.string tk.de,.slice sa tk.so.length MB] 78 (0,0))]) (fun y=>tk.so.length-y.1) ?_ ?_
   ·have Y2:pq r tk 0 L=some L:=by rw [pq]
    apply aI (0,pv,L) ⟨Zi _,Y2⟩
    case hs1=>exact cd
    case ht=>exact .cons fk (.cons fk (.cons fk (.cons fk (.cons fk (.cons .here (.cons .here (.cons .here (.cons .here (.cons (.there .here) (.cons .here .nil))))))))))
   rintro ⟨k,Ig,L2⟩ ⟨hk,tY⟩
   dsimp only at hk tY ⊢
   obtain ⟨Vf,eP⟩:=UF k hk L2 tY
   have hfw:=mO eG Vf
   by_cases v8:k<tk.so.length
   ·have BS:=Rg (k6 v8)
    have zO:w.cell? ⟨sb,Qe+k*1,none⟩=some (.string tk.so[k]):=(Re k _ (jb v8)).2 0 _ rfl
    have f3:=f2 k (by omega)
    have jd:tk.at k=tk.so[k]:=by unfold Tk.at;rw [Zk,Zc v8];rfl
    have hs2:pq r tk (k+1) L=if oo r tk k then (qG (r.wp L2) (k:Nat) tk.so[k] tk.de).map (fun p=>lB r L2 (k:Nat) tk.so[k] p tk.de) else some L2:=by rw [pq,tY,Option.bind_some,jd]
    have hjb:oo r tk k=true↔¬ ((tk.so[k]=⟨#[]⟩∨tk.so[k]=⟨#[45]⟩)∨tk.so[k]=jM r (k:Nat) tk.de):=by
     rw [my,jd]
     constructor
     ·rintro ⟨x1,x2,x3⟩ ((e | e) | e)
      ·exact x1 e
      ·exact x3 e
      ·exact x2 e
     ·intro e
      exact ⟨fun c=>e (.inl (.inl c)),fun c=>e (.inr c),fun c=>e (.inl (.inr c))⟩
    have hjo:=UO k v8
    rw [jd] at hjo
    have DQ:oo r tk k=true→nE r tk k=true:=fun c=>by
     obtain ⟨x1,x2,_⟩:=my.1 c
     exact lo.2 ⟨x1,x2⟩
    generalize jM r (k:Nat) tk.de=ck at *
    generalize tk.so[k]=sk at *
    (refine Jr<|JA rfl<|Jn<|Jq<|Jd rfl fun ar=>Jk<|Jq<|J0<|Jr<|Jv rfl<|ab (az (.of rfl) (.of rfl) BS (by omega) ar bj) rfl ?_;refine ab (ag (.of rfl) (At.base zO rfl)) rfl ?_;refine Ja rfl<|Ja rfl<|Jn<|Jq<|Jr<|Jv rfl<|ab (dS (.of rfl) (.of rfl)) rfl ?_;refine Jv rfl<|gr rfl rfl rfl rfl ?_;refine aA rfl rfl inferInstance (fun hg bB=>(dS (.bI hg rfl) (.of rfl))) rfl ?_;refine ab (aZ (.of rfl) rfl) rfl ?_;refine Jv rfl<|gr rfl rfl rfl rfl ?_;refine gr rfl rfl rfl rfl ?_;refine gr rfl rfl rfl rfl ?_;refine aA rfl rfl inferInstance (fun hg bB=>(az (.bI hg rfl) (.bI hg rfl) rfl (by omega) (by assumption) bj)) rfl ?_;refine aA rfl rfl inferInstance (fun hg bB=>(ag (.bI hg rfl) (At.mF fk f1))) rfl ?_;refine gr rfl rfl rfl rfl ?_;refine aA rfl rfl inferInstance (fun hg bB=>(az (.bI hg rfl) (.bI hg rfl) rfl (by omega) (by omega) bj)) rfl ?_;refine aA rfl rfl inferInstance (fun hg bB=>(ag (.bI hg rfl) (At.mF jo f3))) rfl ?_;refine aA rfl rfl inferInstance (fun hg bB=>(dS (.bI hg rfl) (.bI hg rfl))) rfl ?_;refine ab (aZ (.of rfl) rfl) rfl ?_;refine Jn<|nF rfl (fun ar=>?_) fun ar=>?_;refine Jp<|Jo<|Jt<|Jg<|JB rfl (by omega)<|Jv rfl<|Jn ?_;rotate_left;refine Jk<|Jr<|ab (cL .here) rfl ?_;refine Jv rfl<|Jv rfl<|bP rfl rfl ae ?_;refine JL rfl mJ rfl ?_;rotate_right)
    ·have hj:oo r tk k=false:=by
      rw [← Zau]
      exact fun c=>hjb.1 c ar
     rw [hj,if_neg (by decide)] at hs2
     apply aJ (k+1,Ig,L2) ⟨by show k+1≤_;omega,hs2⟩ (by show tk.so.length-(k+1)<tk.so.length-k;omega)
     case hs1=>exact cd
     case ht=>exact lU
    have hj:oo r tk k=true:=hjb.2 (fun c=>c.elim (fun c=>c.elim ar.1.1 ar.1.2) ar.2)
    obtain ⟨⟨j1,j2⟩,r5,fH,_⟩:=hjo hj
    have r6:=eP k (Zz _) v8 (DQ hj)
    rw [hj,if_pos rfl] at hs2
    refine JN vT rfl (fun w1 aR=>ON (r:=r.wp L2) (k:Nat) sk tk.de (RR.wp (cW aR (by exact Take.there .here) rfl) (cX aR bT rfl) (cV aR c6 rfl) (cM aR dO rfl)) eG.CH.wp Vf.wp eG.PD.wp r5 fH) ?_
    rintro ⟨WH,⟨xv,xp,xf⟩,ko⟩ ⟨hy1,hy2,hy3⟩
    dsimp only at hy1 hy2 hy3
    dsimp only [Wy.cells,Zb,Za]
    (refine Jv rfl<|JJ rfl rfl<|JJ rfl rfl<|Jz rfl rfl fun _ _=>aq (.of rfl) (.of rfl) .here rfl rfl (fN hy3 rfl) (bF rfl) ak<|Ja rfl<|Jn<|Jq<|Jr<|Jv rfl<|JH rfl<|Jn<|nF rfl (fun ar=>?_) fun ar=>?_;refine Jr<|ab (aS .nil ak) rfl<|Jv rfl<|aq (.of rfl) (.of rfl) CB rfl rfl (gE rfl rfl rfl rfl rfl rfl) (bF rfl) ak<|Ja rfl<|Ja rfl<|Jn<|Ju<|Jm<|Jh<|Jh<|Jm<|Jm<|Jh<|Jh<|Jm<|Jh ?_;rotate_left;refine Jk<|Jg<|Jv rfl<|Jv rfl<|ab (cL .here) rfl<|bP rfl rfl ae<|JL rfl lI rfl ?_;rotate_right)
    ·have hf:WH=false:=by simpa using ar
     subst hf
     have e1:pq r tk (k+1) L=none:=by rw [hs2,xh (hy2 rfl)];rfl
     have e2:jn r (bZ l) (te r (bZ l)) (i+1)=none:=by rw [Wi];exact F3 e1 (by omega)
     have e3:=xE e2 (m:=(bZ l).length) (by omega)
     have e4:jm r (bZ l)=(Ro.nil,((i:Nat):Int),18):=by
      unfold jm
      rw [if_neg hL0]
      show (match jn r (bZ l) (te r (bZ l)) (bZ l).length with | none=>(Ro.nil,((Ga r (bZ l) (te r (bZ l)):Nat):Int),(18:Int)) | some po=>(r.wp po,0,0))=_
      rw [e3,hrf e2]
     rw [e4]
     dsimp only
     refine aP 186 2 ?_
     refine aP 90 3 ?_
     refine aP 187 3 ?_
     refine aP 188 3 ?_
     first | with_reducible apply aN | with_reducible apply aO
     case he=>exact jT rfl inferInstance rfl dO ak (by rfl) (by rfl) (by rfl)
     case hR=>
      intro w' aB
      exact aF (.slice none 0 0,.slice none 0 0,.slice none 0 0,.slice none 0 0) trivial (by exact .cons c6 (.cons bT (.cons (.there .here) (.cons .here .nil)))) aB rfl
    have hf:WH=true:=by simpa using ar
    subst hf
    obtain ⟨hle,RT⟩:=hy1 rfl
    have hwp:=xg hle
    have NG:(fw r L2 (k:Nat) sk).least (nM r tk.de) xp:=hle
    have jE:pq r tk (k+1) L=some (lB r L2 (k:Nat) sk xp tk.de):=by rw [hs2,hwp];rfl
    have hVn:=HU eG ⟨j1,j2⟩ Vf r5 fH r6 NG
    have hxp:∀ i∈xp,i<r.ti.length:=Wn.BC NG.1
    have OZ:xp.length≤6:=by have:=Wn.uS NG.1;show _≤_;have h6:(fw r L2 (k:Nat) sk).n=r.ti.length:=rfl;omega
    refine FX RT (by exact Take.there .here) fun nG=>?_
    with_reducible apply fS (As:=[JP b8 r s1 d1 t1 Ig,J1 r s1,J2 r d1,J3 r t1,row 188 3 Ig L2.length (gR L2),row 3 1 xv xp.length (fV xp)])
    case hr=>exact Lu
    case hd=>rfl
    case ht=>exact .cons c6 (.cons c6 (.cons c6 (.cons c6 (.cons c6 (.cons .here .nil)))))
    case hc=>
     intro w1 AO aR vh hs1 CK kM
     exact TA (r:=r) (s:=s1) (d:=d1) (t:=t1) (p:=Ig) (b:=b8) (po:=L2) xf (k:Nat) sk tk.de vh hs1 cI (by omega) (by omega) eG.PD hxp Vf.out fH hVn.qK
    intro p3 _
    dsimp only [id_eq,Zb,Za]
    unfold RB PB
    generalize lB r L2 (k:Nat) sk xp tk.de=L3 at *
    refine Jx<|Jj<|Jt<|Jg<|JB rfl (by omega)<|Jv rfl<|Jn ?_
    apply aJ (k+1,p3,L3) ⟨by show k+1≤_;omega,jE⟩ (by show tk.so.length-(k+1)<tk.so.length-k;omega)
    case hs1=>exact cd
    case ht=>exact lU
   ·have e:k=tk.so.length:=by omega
    subst e
    refine Jr<|JA rfl<|Jn<|Jq<|Jc rfl fun ar=>Jp<|Jl<|Jo<|Jj<|Jt<|Jg<|JB rfl (by omega)<|Jv rfl<|Jn ?_
    refine cN (E:=9) (sz:=1) (g:=gu) jo Xq Uc Xp Xo ?_
    refine cN (E:=32) (sz:=1) (g:=gh) jo NL NK Yh Yg ?_
    have Wb:(aM (br r tk.de)).length=r.lv.toNat:=by rw [df,R6]
    with_reducible apply xq (E:=9) (vs:=oB) (xs:=l.map fun y=>aM (br r y.tk.de)) (v:=.slice (some ⟨gu,0,none⟩) r.lv.toNat uc) (x:=aM (br r tk.de)) (n:=r.lv.toNat) i
    case ht=>exact AB
    case ht2=>exact AB
    case ht3=>exact Take.there .here
    case hv=>exact hu
    case hn=>exact Wb
    case hx=>exact T3
    case k=>
     have hne:jn r (bZ l) (te r (bZ l)) (i+1)=some L2:=by rw [Wi,tY]
     apply aJ (i+1,Ig,L2) ⟨by show i+1≤_;omega,hne,Vf⟩ (by show l.length-(i+1)<l.length-i;omega)
     case hs1=>exact cd
     case ht=>exact .cons bT (.cons bT (.cons bT (.cons bT (.cons bT (.cons (.there .here) (.cons .here (.cons .here .nil)))))))
  ·have e:i=l.length:=by omega
   subst e
   refine Jr<|JA rfl<|Jn<|Jq<|Jc rfl fun ar=>Jp<|Jl<|Jo<|Jt<|Jr<|ab (cL .here) rfl ?_
   have e4:jm r (bZ l)=(r.wp L,0,0):=by
    unfold jm
    rw [if_neg hL0]
    show (match jn r (bZ l) (te r (bZ l)) (bZ l).length with | none=>(Ro.nil,((Ga r (bZ l) (te r (bZ l)):Nat):Int),(18:Int)) | some po=>(r.wp po,0,0))=_
    rw [xZ,hL]
   rw [e4]
   dsimp only
   refine aW (E:=188) (sz:=3) (v:=pv) dO fun _ _ e=>?_
   have k5:pv.oneCell'=true:=by rw [e];rfl
   clear e
   (refine aq (.of rfl) (.of rfl) AB rfl rfl (gE rfl rfl k1 k2 k3 k5) (bF rfl) ak<|Ja rfl<|Ja rfl<|Jn<|Je ?_)
   first | with_reducible apply aN | with_reducible apply aO
   case he=>exact jT rfl inferInstance rfl .here ak (by rfl) (by rfl) (by rfl)
   case hR=>
    intro w' aB
    exact aF (s1,d1,t1,pv) trivial (by exact .cons bT (.cons bT (.cons bT (.cons bT .nil)))) aB rfl
def jl (r:Ro) (l:List Tk):Ro×Int×Int:=if gC r≠0 then (Ro.nil,0,gC r) else if tr r l≠0 then (Ro.nil,0,tr r l) else jm r l
theorem yQ (l:List eL):∀ r∈gN l,r.length=2:=fun r hr=>by obtain ⟨x,_,rfl⟩:=Zu.1 hr;rfl
theorem lK {c:Cx} {hs hs':List a8} {w:World} {l:List eL} {E:TypeId} {v:Value} {n:Nat} (hm:Mem c hs w) (ht:Take hs (row E 2 v n (gN l).flatten) hs') (hn:l.length=n):Rd w v 2 (gN l):=hm.n9 ht rfl (yQ l) (by rw [dw,hn])
theorem bn (l m:List a8):bz (l++m) l m:=oV [] l m
theorem dq {c:Cx} {D:List Nat} {sl:aG} {hs hs':List a8} {X:Act→World→Prop} {r:Ro} {s d t p:Value} (ht:bz hs (pC r (s,d,t,p)) hs')
  (k:s.oneCell'=true→d.oneCell'=true→t.oneCell'=true→p.oneCell'=true→Tr c D sl (J1 r s::J2 r d::J3 r t::J4 r p::hs') X):Tr c D sl hs X:=by
 intro a w bb
 have hm:=bb.mem.iT (ht.append (mw D))
 have k2:Tr c D sl (J1 r s::J2 r d::J3 r t::J4 r p::hs') X:=by
  refine aW (E:=186) (sz:=2) (v:=s) .here fun _ _ e=>?_
  have k1:s.oneCell'=true:=by rw [e];rfl
  clear e
  refine aW (E:=90) (sz:=3) (v:=d) (.there .here) fun _ _ e=>?_
  have k2:d.oneCell'=true:=by rw [e];rfl
  clear e
  refine aW (E:=187) (sz:=3) (v:=t) bT fun _ _ e=>?_
  have k3:t.oneCell'=true:=by rw [e];rfl
  clear e
  refine aW (E:=188) (sz:=3) (v:=p) c6 fun _ _ e=>?_
  have k4:p.oneCell'=true:=by rw [e];rfl
  clear e
  exact k k1 k2 k3 k4
 exact k2 a w (bb.heap hm)
set_option maxHeartbeats 1000000 in
theorem Aw {r:Ro} {s d t p kv:Value} {l:List eL} {w:World} (h:RR w r s d t p) (cI:lz r) (hw:Rd w kv 2 (gN l)) (hM:sx w l) :
  bh Tryz.prog 45 [RA r s d t p,kv] w [] (fun _:Value×Value×Value×Value=>True) (fun x=>.tuple #[RA (jl r (bZ l)).1 x.1 x.2.1 x.2.2.1 x.2.2.2,.int .i64 (jl r (bZ l)).2.1,.int .i64 (jl r (bZ l)).2.2]) (fun x=>pC (jl r (bZ l)).1 x):=by
 have h1:=Rd.one h.sr
 have h2:=Rd.one h.de
 have h3:=Rd.one h.ti
 have h4:=Rd.one h.po
 have UN:=Rd.one hw
 have fK:∀ w',aH [] w w'→aj Tryz.prog 34 [.agg #[.int .i64 r.lv,.int .i64 r.ma,s,d,t,p]] w' (.int .i64 (gC r)):=fun w' hk=>eD (h.keeps hk) cI
 have htk:∀ w',aH [] w w'→aj Tryz.prog 164 [.agg #[.int .i64 r.lv,.int .i64 r.ma,s,d,t,p],kv] w' (.int .i64 (tr r (bZ l))):=fun w' hk=>rC (h.keeps hk) (hw.keeps hk) (hM.keeps hk)
 unfold RA
 refine aQ Tryz.func45 rfl rfl ?_
 (refine Jr<|Jy rfl rfl fun _ _=>Jz rfl rfl fun _ _=>Ja rfl<|Ja rfl<|Jn<|Jq<|Jr<|ab (cL (.there .here)) rfl<|ai bL rfl (fun w' aB=>(fK w' (Mem.keeps aB)))<|Ja rfl<|Ji<|Jv rfl<|JD rfl<|Jn<|fP rfl (fun ar=>?_) fun ar=>?_;refine Jr<|ab (aS .nil ak) rfl<|Jv rfl<|aq (.of rfl) (.of rfl) .here rfl rfl (gE rfl rfl rfl rfl rfl rfl) (bF rfl) ak<|Ja rfl<|Ja rfl<|Jn<|Ju ?_;rotate_left;refine Jk<|Jq<|Jr<|ab (cL (.there .here)) rfl<|Jv rfl<|ai bd rfl (fun w' aB=>(htk w' (Mem.keeps aB)))<|Ja rfl<|Ji<|Jv rfl<|JD rfl<|Jn<|fP rfl (fun ar=>?_) fun ar=>?_;refine Jr<|ab (aS .nil ak) rfl<|Jv rfl<|aq (.of rfl) (.of rfl) .here rfl rfl (gE rfl rfl rfl rfl rfl rfl) (bF rfl) ak<|Ja rfl<|Ja rfl<|Jn<|Ju ?_;rotate_left;refine Jk<|Jr<|ab (cL (.there .here)) rfl<|Jv rfl ?_;rotate_right;rotate_right)
 ·have e:jl r (bZ l)=(Ro.nil,0,gC r):=if_pos ar
  rw [e]
  dsimp only
  refine aP 186 2<|aP 90 3<|aP 187 3<|aP 188 3 ?_
  first | with_reducible apply aN | with_reducible apply aO
  case he=>exact jT rfl inferInstance rfl dO ak (by rfl) (by rfl) (by rfl)
  case hR=>
   intro w' aB
   exact aF (.slice none 0 0,.slice none 0 0,.slice none 0 0,.slice none 0 0) trivial (by exact .cons c6 (.cons bT (.cons (.there .here) (.cons .here .nil)))) aB rfl
 ·have e:jl r (bZ l)=(Ro.nil,0,tr r (bZ l)):=by unfold jl;rw [if_neg (by assumption),if_pos ar]
  rw [e]
  dsimp only
  refine aP 186 2<|aP 90 3<|aP 187 3<|aP 188 3 ?_
  first | with_reducible apply aN | with_reducible apply aO
  case he=>exact jT rfl inferInstance rfl dO ak (by rfl) (by rfl) (by rfl)
  case hR=>
   intro w' aB
   exact aF (.slice none 0 0,.slice none 0 0,.slice none 0 0,.slice none 0 0) trivial (by exact .cons c6 (.cons bT (.cons (.there .here) (.cons .here .nil)))) aB rfl
 have AL:gC r=0:=Zo.1 (by assumption)
 have Q6:tr r (bZ l)=0:=Zo.1 ar
 have e:jl r (bZ l)=jm r (bZ l):=by unfold jl;rw [if_neg (not_not_intro AL),if_neg (not_not_intro Q6)]
 have eG:=G9 AL
 have hf:=mO eG eG.val
 rw [e]
 refine JN bd rfl (fun w1 aR=>EB (h.keeps aR.keeps) eG (by omega) (hw.keeps aR.keeps) (hM.keeps aR.keeps) (yO.1 Q6).2) ?_
 generalize jm r (bZ l)=R
 obtain ⟨R,at_,e_⟩:=R
 rintro ⟨s1,d1,t1,p1⟩ _
 dsimp only
 unfold RA
 refine dq (r:=R) (s:=s1) (d:=d1) (t:=t1) (p:=p1) (bn _ _) fun k1 k2 k3 k4=>?_
 (refine JJ rfl rfl<|JJ rfl rfl<|JJ rfl rfl<|aq (.of rfl) (.of rfl) dO rfl rfl (gE rfl rfl k1 k2 k3 k4) (bF rfl) ak<|Ja rfl<|Ja rfl<|Jn<|Je ?_)
 first | with_reducible apply aN | with_reducible apply aO
 case he=>exact jT rfl inferInstance rfl .here ak (by rfl) (by rfl) (by rfl)
 case hR=>
  intro w' aB
  exact aF (s1,d1,t1,p1) trivial (by exact .cons (.there .here) (.cons (.there .here) (.cons (.there .here) (.cons (.there .here) .nil)))) aB rfl
set_option maxHeartbeats 1000000 in
theorem OD {r:Ro} {s d t p:Value} {x:eL} {w:World} (h:RR w r s d t p) (cI:lz r) (hM:Rd w x.v 1 (iI x.tk.so)) :
  bh Tryz.prog 48 [RA r s d t p,.agg x.cells.toArray] w [] (fun _:Value×Value×Value×Value=>True) (fun y=>.tuple #[RA (jl r [x.tk]).1 y.1 y.2.1 y.2.2.1 y.2.2.2,.int .i64 (jl r [x.tk]).2.2]) (fun y=>pC (jl r [x.tk]).1 y):=by
 have h1:=Rd.one h.sr
 have h2:=Rd.one h.de
 have h3:=Rd.one h.ti
 have h4:=Rd.one h.po
 have UN:=Rd.one hM
 unfold RA eL.cells
 refine aQ Tryz.func48 rfl rfl ?_
 (refine Jr<|Jy rfl rfl fun _ _=>Jy rfl rfl fun _ _=>Jz rfl rfl fun _ _=>Ja rfl<|Ji<|ab (cL bT) rfl<|ab (cL (.there .here)) rfl<|bo (bu (.cons (.of rfl) .nil) rfl rfl bO bO ak) rfl fun _ _=>?_)
 rename_i b2 sW b3 vo b4 wb bq mN
 refine bX (g:=bq) (E:=78) (xs:=[.string x.tk.de,x.v]) (ys:=(gN [x]).flatten) 1 2 (by exact .here) (by exact rfl) rfl rfl ?_
 with_reducible apply jr
 case hr=>exact bd
 case hd=>rfl
 case ht=>exact bz.nil
 case hc=>
  intro w1 fp aR _ hs1
  obtain rfl:fp=[]:=hs1
  have hR:Rd w1 (.slice (some ⟨bq,0,none⟩) 1 1) 2 (gN [x]):=lK (l:=[x]) aR (by exact .here) (by exact rfl)
  exact Aw (l:=[x]) (h.keeps aR.keeps) cI hR (fun y hy=>by rw [ZK.1 hy];exact hM.keeps aR.keeps)
 rw [show bZ [x]=[x.tk] from rfl]
 generalize jl r [x.tk]=R
 obtain ⟨R,at_,e_⟩:=R
 rintro ⟨s1,d1,t1,p1⟩ _
 dsimp only
 unfold RA
 refine dq (r:=R) (s:=s1) (d:=d1) (t:=t1) (p:=p1) (bn _ _) fun k1 k2 k3 k4=>?_
 (refine Jv rfl<|JJ rfl rfl<|JJ rfl rfl<|JJ rfl rfl<|Jz rfl rfl fun _ _=>aq (.of rfl) (.of rfl) .here rfl rfl (gE rfl rfl k1 k2 k3 k4) (bF rfl) ak<|Ja rfl<|Ja rfl<|Ji<|ab (cL .here) rfl<|Jv rfl<|aq (.of rfl) (.of rfl) jo rfl rfl (gE rfl rfl k1 k2 k3 k4) (bF rfl) ak<|Ja rfl<|Jn<|Je ?_)
 first | with_reducible apply aN | with_reducible apply aO
 case he=>exact sh rfl inferInstance rfl .here ak (by rfl) (by rfl)
 case hR=>
  intro w' aB
  exact aF (s1,d1,t1,p1) trivial (by exact .cons bT (.cons bT (.cons bT (.cons bT .nil)))) aB rfl
theorem pE (cs:List Value) (o:Nat) (v:Value) (h:o<cs.length):setCells cs o [v]=cs.set o v:=by
 simp [setCells]
theorem ED (L:List ByteArray) (cur:List Value) {k:Nat} (h:k<L.length) (v:ByteArray):setCells (aM L++cur) (k*1) [.string v]=aM (L.set k v)++cur:=by
 rw [Zar,pE _ _ _ (by rw [Zg,df];omega),List.set_append_left _ _ (by rw [df];exact h)]
 unfold aM
 rw [List.map_set]
theorem uz (L:List ByteArray) (cur:List Value) {k:Nat} (h:k<L.length):(aM L++cur)[k*1]? = some (.string L[k]):=by
 rw [Zar,ZI (by rw [df];exact h)]
 unfold aM
 rw [ZD,Zc h];rfl
def AR (r:Ro) (t:Tk) (k:Nat):ByteArray:=if t.at k=⟨#[]⟩ then ⟨#[]⟩ else if jM r (k:Nat) t.de=⟨#[]⟩ then dash else jM r (k:Nat) t.de
def kC (r:Ro) (t:Tk) (k:Nat):List ByteArray:=(List.range r.lv.toNat).map fun i=>if i<k then AR r t i else jM r (i:Nat) t.de
theorem kW (r:Ro) (t:Tk) (k:Nat):(kC r t k).length=r.lv.toNat:=by unfold kC;simp
theorem FL (r:Ro) (t:Tk):kC r t 0=br r t.de:=by unfold kC br;simp
theorem Ht (r:Ro) (t:Tk):kC r t r.lv.toNat=(wi r t).so:=by
 unfold kC wi
 refine Zbp fun i hi=>?_
 rw [if_pos (ZT.1 hi)];rfl
theorem yI {r:Ro} {t:Tk} {k i:Nat} (h:i<r.lv.toNat):(kC r t k)[i]? = some (if i<k then AR r t i else jM r (i:Nat) t.de):=by
 unfold kC
 rw [ZD,Zbq h];rfl
theorem Hs {r:Ro} {t:Tk} {k:Nat} (h:k<(kC r t k).length):(kC r t k)[k]=jM r (k:Nat) t.de:=by
 have h1:=Zc h
 rw [yI (by rw [kW] at h;exact h),if_neg (Nat.lt_irrefl _)] at h1
 exact (Option.some.inj h1).symm
theorem Hr {r:Ro} {t:Tk} {k:Nat} (h:k<r.lv.toNat):(kC r t k).set k (AR r t k)=kC r t (k+1):=by
 apply Zap
 intro i
 rw [List.getElem?_set]
 by_cases hi:i<r.lv.toNat
 ·rw [yI hi,yI hi,kW]
  by_cases e:k=i
  ·subst e
   rw [if_pos rfl,if_pos hi,if_pos (Nat.lt_succ_self _)]
  ·rw [if_neg e]
   by_cases e2:i<k
   ·rw [if_pos e2,if_pos (by omega)]
   ·rw [if_neg e2,if_neg (by omega)]
 ·have e1:(kC r t k)[i]? = none:=Zaf (by rw [kW];omega)
  have e2:(kC r t (k+1))[i]? = none:=Zaf (by rw [kW];omega)
  rw [if_neg (by omega),e1,e2]
theorem FM {r:Ro} {t:Tk} {k:Nat} (h:AR r t k=jM r (k:Nat) t.de):kC r t (k+1)=kC r t k:=by
 unfold kC
 refine Zbp fun i _=>?_
 by_cases e:i=k
 ·subst e
  rw [if_pos (Nat.lt_succ_self _),if_neg (Nat.lt_irrefl _),h]
 ·by_cases e2:i<k
  ·rw [if_pos e2,if_pos (by omega)]
  ·rw [if_neg e2,if_neg (by omega)]
set_option maxHeartbeats 1000000 in
theorem P3 {r:Ro} {s d t p:Value} {x:eL} {b:Nat} {w:World} (h:RR w r s d t p) (hA:BR w b (RC r s d t p)) (zR:1≤r.lv∧r.lv≤1000) (cI:r.ti.length≤1000000) (hx:Rd w x.v 1 (iI x.tk.so)) (OZ:(x.tk.so.length:Int)=r.lv) :
  bh Tryz.prog 167 [.agg x.cells.toArray,.pointer (some ⟨b,0,none⟩)] w [] (fun _:Value=>True) (fun v=>.agg #[.string x.tk.de,v]) (fun v=>[row 9 1 v r.lv.toNat (aM (wi r x.tk).so)]):=by
 have h1:=Rd.one h.sr
 have h2:=Rd.one h.de
 have h3:=Rd.one h.ti
 have h4:=Rd.one h.po
 have j7:∀ (j:Nat) (u:Value),[Value.int .i64 r.lv,.int .i64 r.ma,s,d,t,p][j]? = some u→w.cell? ⟨b,0+j,none⟩=some u:=hA
 clear hA
 unfold eL.cells
 obtain ⟨tk,tv⟩:=x
 dsimp only at *
 obtain ⟨sa,MB,sb,Qe,rfl,JZ,vd,Rg,Re⟩:=hx
 rw [bV] at *
 unfold maxLen at vd
 refine aQ Tryz.func167 rfl rfl ?_
 (refine Jr<|Jy rfl rfl fun _ _=>Jz rfl rfl fun _ _=>Ji<|ab (gS (eF.base j7 rfl)) rfl<|bP rfl rfl ae<|JL rfl (.there .here) rfl ?_)
 rename_i b2 afw b3 afu
 refine JN bd rfl (fun w1 aR=>vl tk.de (h.keeps aR.keeps) zR.2 cI) ?_
 intro v _
 dsimp only [id_eq,Zb,Za]
 have qi:=kW r tk
 rw [← FL]
 refine dd (E:=9) (sz:=1) (v:=v) (by exact .here) (by omega) fun gb cap cur e sX sW vo wb=>?_
 subst e
 (refine Ja rfl<|Jn<|Jq<|Jr<|bP rfl rfl ae<|JL rfl bT rfl<|JI rfl<|Jv rfl<|Jn<|J0 ?_)
 refine aX (ι:=Nat×List ByteArray) (fun y=>y.1≤tk.so.length∧y.2=kC r tk y.1) (fun y=>[(14,.int .i64 (y.1:Nat)),(13,.int .i64 (tk.so.length:Nat)),(12,.slice sa tk.so.length MB),(4,.slice (some ⟨gb,0,none⟩) r.lv.toNat cap),(3,.pointer (some ⟨b3,0,none⟩)),(2,.pointer (some ⟨b2,0,none⟩))])
  (fun y=>[bG gb (.cells (aM y.2++cur).toArray 9 (0,0)),bG b3 (.cells #[.string ⟨#[]⟩,.slice none 0 0] 78 (0,0)),bG b2 (.cells #[.string tk.de,.slice sa tk.so.length MB] 78 (0,0))]) (fun y=>tk.so.length-y.1) ?_ ?_
 ·apply aI (0,kC r tk 0) ⟨Zi _,rfl⟩
  case hs1=>exact cd
  case ht=>exact lU
 rintro ⟨k,L⟩ ⟨hk,hL⟩
 dsimp only at hk hL ⊢
 have GJ:L.length=r.lv.toNat:=by rw [hL,kW]
 have iP:(aM L++cur).length=cap*1:=by
  rw [Zg,df] at vo ⊢
  rw [kW] at vo
  omega
 by_cases aK:k<tk.so.length
 ·have BS:=Rg (k6 aK)
  have zO:w.cell? ⟨sb,Qe+k*1,none⟩=some (.string tk.so[k]):=(Re k _ (jb aK)).2 0 _ rfl
  have NH:k<L.length:=by omega
  have fK:L[k]=jM r (k:Nat) tk.de:=by subst hL;exact Hs NH
  have c1:=uz L cur NH
  rw [fK] at c1
  have p1:=ED L cur NH ⟨#[]⟩
  have p2:=ED L cur NH ⟨#[45]⟩
  have hle:k*1+1≤(aM L++cur).length:=by omega
  have UN:k<r.lv.toNat:=by omega
  have jd:tk.at k=tk.so[k]:=by unfold Tk.at;rw [Zk,Zc aK];rfl
  have hF:AR r tk k=if tk.so[k]=⟨#[]⟩ then ⟨#[]⟩ else if jM r (k:Nat) tk.de=⟨#[]⟩ then dash else jM r (k:Nat) tk.de:=by unfold AR;rw [jd]
  have pt:∀ u,AR r tk k=u→L.set k u=kC r tk (k+1):=fun u hu=>by rw [← hu,hL];exact Hr UN
  have J5:AR r tk k=jM r (k:Nat) tk.de→L=kC r tk (k+1):=fun hu=>by rw [hL,FM hu]
  generalize jM r (k:Nat) tk.de=ck at *
  generalize tk.so[k]=sk at *
  (refine Jr<|JA rfl<|Jn<|Jq<|Jd rfl fun ar=>Jk<|Jq<|J0<|Jr<|Jv rfl<|ab (az (.of rfl) (.of rfl) BS (by omega) ar bj) rfl ?_;refine ab (ag (.of rfl) (At.base zO rfl)) rfl ?_;refine Ja rfl<|Ja rfl<|Ji<|Jv rfl<|ab (dS (.of rfl) (.of rfl)) rfl ?_;refine Jn<|fP rfl (fun ar=>?_) fun ar=>?_;refine Jg<|Jv rfl<|Jv rfl<|ab (az (.of rfl) (.of rfl) rfl (by omega) (by omega) bj) rfl ?_;refine aq (.of rfl) (.of rfl) .here rfl rfl (eE rfl) hle p1 ?_;refine Jx<|Jj<|Jt<|Jg<|JB rfl (by omega)<|Jv rfl<|Jn ?_;rotate_left;refine Jr<|Jv rfl<|Jv rfl<|ab (az (.of rfl) (.of rfl) rfl (by omega) (by omega) bj) rfl ?_;refine ab (ag (.of rfl) (At.mF .here c1)) rfl ?_;refine ab (dS (.of rfl) (.of rfl)) rfl ?_;refine Jn<|fP rfl (fun ar=>?_) fun ar=>?_;refine Jg<|Jv rfl<|Jv rfl<|ab (az (.of rfl) (.of rfl) rfl (by omega) (by omega) bj) rfl ?_;refine aq (.of rfl) (.of rfl) .here rfl rfl (eE rfl) hle p2 ?_;refine Jx<|Jj<|Jt<|Jg<|JB rfl (by omega)<|Jv rfl<|Jn ?_;rotate_left;refine Jw<|Jj<|Jt<|Jg<|JB rfl (by omega)<|Jv rfl<|Jn ?_;rotate_right;rotate_right)
  ·rw [if_pos ar] at hF
   rw [pt _ hF]
   apply aJ (k+1,kC r tk (k+1)) ⟨by show k+1≤_;omega,rfl⟩ (by show tk.so.length-(k+1)<tk.so.length-k;omega)
   case hs1=>exact cd
   case ht=>exact lU
  ·rw [if_neg (by assumption),if_pos ar] at hF
   have hq:L.set k ⟨#[45]⟩=kC r tk (k+1):=pt _ hF
   rw [hq]
   apply aJ (k+1,kC r tk (k+1)) ⟨by show k+1≤_;omega,rfl⟩ (by show tk.so.length-(k+1)<tk.so.length-k;omega)
   case hs1=>exact cd
   case ht=>exact lU
  ·rw [if_neg (by assumption),if_neg ar] at hF
   apply aJ (k+1,L) ⟨by show k+1≤_;omega,J5 hF⟩ (by show tk.so.length-(k+1)<tk.so.length-k;omega)
   case hs1=>exact cd
   case ht=>exact lU
 ·have e:k=tk.so.length:=by omega
  subst e
  have l9:L=(wi r tk).so:=by rw [hL,← Ht];congr 1;omega
  (refine Jr<|JA rfl<|Jn<|Jq<|Jc rfl fun ar=>Jp<|Jl<|Jo<|Jt<|Jr<|bP rfl rfl ae<|JL rfl bT rfl<|Jv rfl<|ab (aS (.cons (.of rfl) (.cons (.of rfl) .nil)) ak) rfl<|aq (.of rfl) (.of rfl) (.there .here) rfl rfl (fN rfl rfl) (bF rfl) ak<|Jn<|Je ?_)
  subst l9
  have LI:(aM (wi r tk).so).length=r.lv.toNat*1:=by rw [df,GJ,Zar]
  refine cN (n:=r.lv.toNat) (xs:=aM (wi r tk).so) (cap:=cap) (g:=gb) (E:=9) (sz:=1) (by exact Take.there .here) sX sW iP LI ?_
  first | with_reducible apply aN | with_reducible apply aO
  case he=>exact kN rfl inferInstance rfl (.there .here) ak (by rfl)
  case hR=>
   intro w' aB
   exact aF (.slice (some ⟨gb,0,none⟩) r.lv.toNat cap) trivial (by exact .cons .here .nil) aB rfl
def CD (W:List eL):a8:=mq 9 (W.map eL.v) (W.map fun y=>aM y.tk.so)
theorem Md:mq 9 [] []=CD []:=rfl
theorem yS (W:List eL) (y:eL):(gN (W++[y])).flatten=(gN W).flatten++[.string y.tk.de,y.v]:=by
 unfold gN;simp [eL.cells]
theorem QQ {kv:Value} {l:List eL} {g:Tk→Tk} {n:Nat} {f:FuncId} {first cap:List Value} [bM Tryz.prog f] {w:World} (h:Rd w kv 2 (gN l)) (hM:sx w l) (hn:l.length≤1000) (hg:∀ x∈l,(g x.tk).so.length=n)
  (cr:∀ x∈l,∀ w',aH [] w w'→bh Tryz.prog f (first++[.agg x.cells.toArray]++cap) w' [] (fun _:Value=>True) (fun v=>.agg #[.string (g x.tk).de,v]) (fun v=>[row 9 1 v n (aM (g x.tk).so)])) :
  bh Tryz.prog 166 [kv,.func (.func f) first.toArray cap.toArray] w [] (fun x:Value×List eL=>bZ x.2=(bZ l).map g) (fun x=>x.1) (fun x=>[row 78 2 x.1 x.2.length (gN x.2).flatten,CD x.2]):=by
 obtain ⟨a,cp,b,o,rfl,c7,bQ,ha,hc⟩:=h
 rw [dw] at *
 unfold maxLen at bQ
 refine aQ Tryz.func166 rfl rfl ?_
 refine Jr<|Ja rfl<|Ji<|Ja rfl<|Jn<|Jq<|Jr<|Jv rfl<|JI rfl<|Jv rfl<|Jn<|J0 ?_
 refine aP 78 2 ?_
 refine jI 9 ?_
 refine aX (ι:=Nat×Value×List eL) (fun x=>x.1≤l.length∧bZ x.2.2=(bZ (l.take x.1)).map g) (fun x=>[(10,.int .i64 (x.1:Nat)),(9,.int .i64 (l.length:Nat)),(8,.slice a l.length cp),(5,x.2.1),(1,.func (.func f) first.toArray cap.toArray)])
  (fun x=>[row 78 2 x.2.1 x.2.2.length (gN x.2.2).flatten,mq 9 (x.2.2.map eL.v) (x.2.2.map fun y=>aM y.tk.so)]) (fun x=>l.length-x.1) ?_ ?_
 ·apply aI (0,.slice none 0 0,[]) ⟨Zi _,rfl⟩
  case hs1=>exact cd
  case ht=>
   exact .cons (.there .here) (.cons .here .nil)
 rintro ⟨k,v,W⟩ ⟨hk,hW⟩
 dsimp only at hk hW ⊢
 have Pk:W.length=k:=by
  have:=congrArg List.length hW
  unfold bZ at this
  rw [Zd,Zd,Zd,Zp] at this
  omega
 by_cases aK:k<l.length
 ·have cB:=ha (jJ aK)
  have aC:=(hc k _ (js aK)).2
  have iP:=cr _ (Zj aK)
  have RI:=hg _ (Zj aK)
  have fa:=Rd.one (hM _ (Zj aK))
  have htk:(bZ (l.take (k+1))).map g=(bZ (l.take k)).map g++[g l[k].tk]:=by
   unfold bZ
   rw [Zn aK,Zr,Zr];rfl
  have rI:(gN W).flatten.length=W.length*2:=by rw [fg (yQ W),dw]
  unfold eL.cells at aC iP
  refine aW (E:=78) (sz:=2) (v:=v) (by exact .here) fun va vc e=>?_
  subst e
  (refine Jr<|JA rfl<|Jn<|Jq<|Jd rfl fun ar=>Jk<|Jq<|J0<|Jr<|ab (fG cB ar) rfl<|ab (gS (eF.base aC rfl)) rfl<|Jz rfl rfl fun _ _=>aq (.of rfl) (.of rfl) .here rfl rfl (fN rfl fa) (bF rfl) ak<|Jn<|Jg<|Jv rfl<|Jv rfl<|ab (cL .here) rfl ?_)
  refine JN bL rfl (fun w1 aR=>iP w1 aR.keeps) ?_
  intro hv _
  dsimp only [id_eq,Zb,Za]
  refine aW (E:=9) (sz:=1) (v:=hv) (by exact .here) fun jz j6 e=>?_
  subst e
  refine bo (bu (.cons (.of rfl) .nil) rfl rfl bO bO ak) rfl (fun _ _=>?_)
  refine bH (.of rfl) (.of rfl) c6 .here ak (by rfl) (fN rfl rfl) (by rfl) (by rfl) (by rfl) eN (by rfl) ?_
  intro v'
  refine Ja rfl<|Jx<|Jj<|Jt<|Jg<|JB rfl (by omega)<|Jv rfl<|Jn ?_
  have Uu:(aM (g l[k].tk).so).length=n:=by rw [df,RI]
  with_reducible apply kY (E:=9) (vs:=W.map eL.v) (xs:=W.map fun y=>aM y.tk.so) (v:=.slice jz n j6) (x:=aM (g l[k].tk).so) (n:=n)
  case ht=>exact dO
  case ht2=>exact bT
  case hn=>exact Uu.symm
  case hl=>rw [Zd,Zd]
  case k=>
   apply aJ (k+1,v',W++[⟨g l[k].tk,.slice jz n j6⟩]) ⟨by show k+1≤_;omega,by
    show bZ (W++[_])=_
    unfold bZ at hW htk ⊢
    rw [Zr,hW];exact htk.symm⟩ (by show l.length-(k+1)<l.length-k;omega)
   case hs1=>exact cd
   case ht=>
    dsimp only
    rw [yS,Zg,Zr,Zr]
    simp only [Z8,Zf,ZJ,Zaa,ZB]
    exact .cons (.there .here) (.cons .here .nil)
 ·have e:k=l.length:=by omega
  rw [e,ZL] at hW
  refine aW (E:=78) (sz:=2) (v:=v) (by exact .here) fun va vc e=>?_
  subst e
  refine Jr<|JA rfl<|Jn<|Jq<|Jc rfl fun ar=>Jp<|Jl<|Jo<|Jt<|Jr<|Jv rfl<|Ja rfl<|Jn<|Je ?_
  first | with_reducible apply aN | with_reducible apply aO
  case he=>exact dD rfl rfl
  case hR=>
   intro w' aB
   exact aF (.slice va W.length vc,W) hW (by exact .cons .here (.cons .here .nil)) aB rfl
def Mc (r:Ro) (l:List Tk):List Tk:=if (jl r l).2.2≠0 then [] else l.map (wi r)
set_option maxHeartbeats 1000000 in
theorem Lp {r:Ro} {s d t p kv:Value} {l:List eL} {w:World} (h:RR w r s d t p) (cI:lz r) (hw:Rd w kv 2 (gN l)) (hM:sx w l) :
  bh Tryz.prog 47 [RA r s d t p,kv] w [] (fun x:Value×List eL=>bZ x.2=Mc r (bZ l)) (fun x=>.tuple #[x.1,.int .i64 (jl r (bZ l)).2.2]) (fun x=>[row 78 2 x.1 x.2.length (gN x.2).flatten,CD x.2]):=by
 have h1:=Rd.one h.sr
 have h2:=Rd.one h.de
 have h3:=Rd.one h.ti
 have h4:=Rd.one h.po
 have UN:=Rd.one hw
 unfold RA
 refine aQ Tryz.func47 rfl rfl ?_
 (refine Jr<|Jy rfl rfl fun _ _=>Ja rfl<|Ja rfl<|Jn<|Jq<|Jr<|ab (cL .here) rfl<|Jv rfl ?_)
 rename_i b2 sW
 refine JN bd rfl (fun w1 aR=>Aw (h.keeps aR.keeps) cI (hw.keeps aR.keeps) (hM.keeps aR.keeps)) ?_
 have GF:Mc r (bZ l)=if (jl r (bZ l)).2.2≠0 then [] else (bZ l).map (wi r):=rfl
 have Q9:(jl r (bZ l)).2.2=0→gC r=0∧tr r (bZ l)=0:=fun h0=>by
  unfold jl at h0
  by_cases c1:gC r=0
  ·rw [if_neg (not_not_intro c1)] at h0
   by_cases c2:tr r (bZ l)=0
   ·exact ⟨c1,c2⟩
   ·rw [if_pos c2] at h0;exact absurd h0 c2
  ·rw [if_pos c1] at h0;exact absurd h0 c1
 by_cases AI:(jl r (bZ l)).2.2=0
 ·obtain ⟨AL,Q6⟩:=Q9 AI
  have eG:=G9 AL
  have hT:=(yO.1 Q6).2
  have zR:=eG.lim
  have DM:=eG.len
  rw [if_neg (not_not_intro AI)] at GF
  rw [GF]
  clear GF Q9
  generalize jl r (bZ l)=R at *
  obtain ⟨R,at_,e_⟩:=R
  dsimp only at AI
  subst AI
  rintro ⟨s1,d1,t1,p1⟩ _
  dsimp only
  unfold RA
  refine dq (r:=R) (s:=s1) (d:=d1) (t:=t1) (p:=p1) (bn _ _) fun k1 k2 k3 k4=>?_
  (refine Jv rfl<|JJ rfl rfl<|JJ rfl rfl<|JJ rfl rfl<|Jz rfl rfl fun _ _=>aq (.of rfl) (.of rfl) .here rfl rfl (gE rfl rfl k1 k2 k3 k4) (bF rfl) ak<|Ja rfl<|Ja rfl<|Ji<|Jv rfl<|JD rfl<|Jn<|Jc rfl fun ar=>Jk<|Jr<|Jv rfl<|ab (bA .nil (.cons (.of rfl) .nil)) rfl ?_)
  with_reducible apply jr
  case hr=>exact bd
  case hd=>rfl
  case ht=>exact bz.nil
  case hc=>
   intro w1 fp aR _ hs1
   obtain rfl:fp=[]:=hs1
   have hA:BR w1 b2 [.int .i64 r.lv,.int .i64 r.ma,s,d,t,p]:=BR.of aR fk
   have hR:=h.keeps aR.keeps
   have hK:=hM.keeps aR.keeps
   have UL:=hT.DZ
   unfold bZ at UL
   rw [Zd] at UL
   exact QQ (f:=167) (first:=[]) (cap:=[.pointer (some ⟨b2,0,none⟩)]) (g:=wi r) (n:=r.lv.toNat) (hw.keeps aR.keeps) hK (by omega) (fun x _=>by unfold wi;simp) (fun x hx w2 eH=>P3 (hR.keeps eH) (hA.keeps eH) (by omega) (by omega) ((hK x hx).keeps eH) (hT.lv _ (Z0 hx)))
  rintro ⟨v,W⟩ hW
  dsimp only at hW ⊢
  unfold CD
  dsimp only [Zb,Za]
  refine aW (E:=78) (sz:=2) (v:=v) (by exact .here) fun va vc e=>?_
  subst e
  refine Ja rfl<|Ja rfl<|Jn<|Je ?_
  first | with_reducible apply aN | with_reducible apply aO
  case he=>exact fY rfl rfl rfl
  case hR=>
   intro w' aB
   exact aF (.slice va W.length vc,W) hW (by exact .cons .here (.cons .here .nil)) aB rfl
 ·rw [if_pos AI] at GF
  rw [GF]
  clear GF Q9
  generalize jl r (bZ l)=R at *
  obtain ⟨R,at_,e_⟩:=R
  dsimp only at AI
  rintro ⟨s1,d1,t1,p1⟩ _
  dsimp only
  unfold RA
  refine dq (r:=R) (s:=s1) (d:=d1) (t:=t1) (p:=p1) (bn _ _) fun k1 k2 k3 k4=>?_
  (refine Jv rfl<|JJ rfl rfl<|JJ rfl rfl<|JJ rfl rfl<|Jz rfl rfl fun _ _=>aq (.of rfl) (.of rfl) .here rfl rfl (gE rfl rfl k1 k2 k3 k4) (bF rfl) ak<|Ja rfl<|Ja rfl<|Ji<|Jv rfl<|JD rfl<|Jn<|Jd rfl fun ar=>Jr<|Jv rfl<|Ja rfl<|Ja rfl<|Jn<|Ju ?_)
  refine aP 78 2 ?_
  refine jI 9 ?_
  rw [Md]
  first | with_reducible apply aN | with_reducible apply aO
  case he=>exact fY rfl rfl rfl
  case hR=>
   intro w' aB
   exact aF (.slice none 0 0,([]:List eL)) (show bZ []=[] from rfl) (by exact .cons (.there .here) (.cons .here .nil)) aB rfl
end Go.Proofs.A1
