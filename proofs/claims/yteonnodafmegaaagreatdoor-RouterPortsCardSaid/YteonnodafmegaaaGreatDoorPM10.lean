/- Parts of the proof: P5s P5u P5v P5x P5y P5z P6a KY GkMapR KZ GkEnds3 LA P6b GkPoolJ LB LC LD. -/
import Derived.Test.YteonnodafmegaaaGreatDoorPM09
import Derived.Test.YteonnodafmegaaaGreatDoorPM04
import Derived.Test.YteonnodafmegaaaGreatDoorPM03
import Derived.Laws.IdiomRangeMap
set_option linter.unusedSectionVars false
set_option linter.unusedVariables false
set_option linter.unusedSimpArgs false
namespace Go.Proofs.A1
open Go Go.SL
theorem AT {r:Ro} (hd:∀ x∈r.de,0<=x.mx) (ht:∀ x∈r.ti,0<=x.fr) {s:ByteArray} (h:s∈cu r\/s∈cQ r):0<=k6 r s:=by
 unfold k6;by_cases h1:0<=bB (cu r) s
 ·obtain ⟨hl,_⟩:=fk h1;rw [if_pos h1,Zk,Zc (by unfold cu at hl;rwa [Zd] at hl)];exact hd _ (Zj _)
 ·rw [if_neg h1];have h2:0<=bB (cQ r) s:=by
   rcases h with h | h
   ·exact absurd (dK h) h1
   ·exact dK h
  obtain ⟨hl,_⟩:=fk h2;rw [if_pos h2,Zk,Zc (by unfold cQ at hl;rwa [Zd] at hl)];exact ht _ (Zj _)
theorem Pp {r:Ro} (hd:∀ x∈r.sr,0<=x.mx) (ht:∀ x∈r.ti,0<=x.to) {s:ByteArray} (h:s∈cN r\/s∈cQ r):0<=kD r s:=by
 unfold kD;by_cases h1:0<=bB (cN r) s
 ·obtain ⟨hl,_⟩:=fk h1;rw [if_pos h1,Zk,Zc (by unfold cN at hl;rwa [Zd] at hl)];exact hd _ (Zj _)
 ·rw [if_neg h1];have h2:0<=bB (cQ r) s:=by
   rcases h with h | h
   ·exact absurd (dK h) h1
   ·exact dK h
  obtain ⟨hl,_⟩:=fk h2;rw [if_pos h2,Zk,Zc (by unfold cQ at hl;rwa [Zd] at hl)];exact ht _ (Zj _)
structure Ii (r:Ro):Prop where
 Qf:DT r
 len:r.sr.length<=8/\r.de.length<=8/\r.ti.length<=6
 sm:∀ x∈r.sr,0<=x.mx/\x.mx<r.ma
 dm:∀ x∈r.de,0<=x.mx/\x.mx<r.ma
 tm:∀ x∈r.ti,(0<=x.fr/\x.fr<r.ma)/\(0<=x.to/\x.to<r.ma)/\x.fr≠x.to
 nm:∀ s∈dh r,jm s=true
theorem AM {α:Type} {rj:Int} {bf:List ByteArray} {nm:α->ByteArray} {ck:α->Int} {l:List α} (h:fJ rj bf nm ck l=0):∀ x∈l,jm (nm x)=true:=by
 intro x hx;obtain ⟨k,hk,rfl⟩:=ZA hx;unfold fJ at h;split at h
 ·cases h
 ·have:=eK.1 h k hk;rw [pB hk,bX] at this;have:=(bO (by decide)).1 (this _ Zr);simpa using this
theorem prt {r:Ro} (h:kH r=0):Ii r:=by
 obtain ⟨ku,hlen,hs,hd,ht⟩:=AO h;have h0:=h;unfold kH at h0;rw [bX] at h0;refine ⟨ku,hlen,fun x hx=>jT.1 (hs x hx),fun x hx=>jT.1 (hd x hx),fun x hx=>?_,fun s hs=>?_⟩
 ·have:=ht x hx;unfold oU at this;rw [bX] at this;have g3:=(bO (by decide)).1 (this (bL (decide (x.fr=x.to)) 24) (by simp));exact ⟨jT.1 (this _ (by simp)),jT.1 (this _ (by simp)),by simpa using g3⟩
 ·unfold dh cN cu cQ at hs;rw [Zz,Zz,Zw,Zw,Zw] at hs;rcases hs with (⟨x,hx,rfl⟩ | ⟨x,hx,rfl⟩) | ⟨x,hx,rfl⟩
  ·exact AM (h0 _ Zr) x hx
  ·exact AM (h0 (fJ 8 (cN r) De.nm (fun x=>fL r x.mx) r.de) (by simp)) x hx
  ·exact AM (h0 (fJ 6 (cN r++cu r) Ti.nm (oU r) r.ti) (by simp)) x hx
theorem Ii.wJ {r:Ro} (h:Ii r):oS r:=K7 h.Qf h.len.2.2
theorem Ii.ne {r:Ro} (h:Ii r) {s:ByteArray} (hs:s∈cN r\/s∈cu r\/s∈cQ r):s≠⟨#[]⟩:=by
 have hm:s∈dh r:=by
  unfold dh;rw [Zz,Zz];rcases hs with h | h | h
  ·exact .inl (.inl h)
  ·exact .inl (.inr h)
  ·exact .inr h
 have:=h.nm s hm;intro e;rw [e] at this;exact absurd this (by decide)
theorem Ii.nd {r:Ro} (h:Ii r) {s:ByteArray} (hs:s∈cN r):s≠dash:=by
 have hm:s∈dh r:=by
  unfold dh;rw [Zz,Zz];exact .inl (.inl hs)
 have:=h.nm s hm;intro e;rw [e] at this;exact absurd this (by decide)
theorem XR {r:Ro} (h1:oD r=0) (h2:kH r=0) (hV:jy r r.po):fm r=0:=by
 have hp:=prt h2;have h3:kC r r.po=0:=by
  refine eK.2 fun k hk=>?_;have hl:=hV.Li _ (Zj hk);have ho:=AT (fun x hx=>(hp.dm x hx).1) (fun x hx=>(hp.tm x hx).1.1) (hV.out _ (Zj hk))
  have hi:=Pp (fun x hx=>(hp.sm x hx).1) (fun x hx=>(hp.tm x hx).2.1.1) (hV.xU _ (Zj hk))
  have hm:=hV.Q7 _ (Zj hk);have e0:nk r r.po[k]=0:=by
   unfold nk;rw [bX];intro e he;simp only [ZQ,Zo,or_false] at he;rcases he with rfl | rfl | rfl | rfl
   ·exact jb.2 (by omega)
   ·exact (bO (by decide)).2 (by simpa using ho)
   ·exact (bO (by decide)).2 (by simpa using hi)
   ·exact (bO (by decide)).2 (by simpa using hm)
  rw [sh hk,if_neg (not_not_intro e0)];refine if_neg ?_;by_cases Nv:k=0
  ·rw [if_pos Nv];exact qb.2 (by omega)
  ·rw [if_neg Nv,Zc (by omega)];refine qb.2 ?_;have:=Zab.1 hV.rV (k-1) k (by omega) hk (by omega);unfold ns at this;simpa only [ZS,Zn,decide_eq_true_eq] using this
 have h4:A2 r=0:=by
  unfold A2;rw [bX];intro e he;simp only [ZQ,Zo,or_false] at he;have hti:(cQ r).length=r.ti.length:=by unfold cQ;rw [Zd]
  rcases he with rfl | rfl
  ·refine (bO (by decide)).2 (mq.2 fun v _ _=>Zaw.2 fun x hx hc=>?_);exact hV.DZ v ⟨x.nm,Zw.2 ⟨x,hx,I⟩,by rw [hti];exact fE.1 hc⟩
  ·refine (bO (by decide)).2 (mq.2 fun v _ _=>Zaw.2 fun x hx hc=>?_);have:=hV.use v x.nm (Zw.2 ⟨x,hx,I⟩);unfold K0 at hc;cases a:nr r.po v x.nm <;> cases b:gI r.po v x.nm <;> rw [a,b] at hc this <;> simp at hc this
 unfold fm;rw [if_neg (not_not_intro h1),if_neg (not_not_intro h2),if_neg (not_not_intro h3),h4]
theorem MA {r:Ro} (h:fm r=0) {q:List Po} (hV:jy r q):fm (r.wp q)=0:=by
 obtain ⟨h1,h2,_,_⟩:=tQ h;exact XR (r:=r.wp q) h1 h2 hV.wp
def qd (po:List Po) (v:Int):Nat->ByteArray->List ByteArray
 | 0,_=>[]
 | n+1,o=>if o=⟨#[]⟩ then [] else o::qd po v n ((eD po v o).getD ⟨#[]⟩)
theorem RX (po:List Po) (v:Int):∀ n,qd po v n ⟨#[]⟩=[]
 | 0=>rfl
 | n+1=>by rw [qd,if_pos rfl]
theorem vI {po:List Po} (hne:∀ p∈po,p.ip≠⟨#[]⟩) {v:Int}:∀ (n:Nat) {o:ByteArray},o≠⟨#[]⟩->qd po v (n+1) o=o::fF po v n o
 | 0,o,ho=>by rw [qd,if_neg ho];rfl
 | n + 1, o, ho => by
  rw [qd,if_neg ho];cases h:eD po v o with
  | none=>rw [xD h];exact congrArg _ (RX po v _)
  | some i =>
   obtain ⟨p,hp,_,_,rfl⟩:=fC h;rw [nL h];exact congrArg _ (vI hne n (hne p hp))
def Nl (r:Ro) (x:Po):Int:=aY [gX x.lv 0 (r.lv-1),bL (decide (eE r x.ou<0)) 10,bL (decide (kD r x.ip<0)) 10,bL (decide (k6 r x.ou≠kD r x.ip)) 24]
theorem OU {r:Ro} (h:Ii r) (s:ByteArray):eE r s<0↔k6 r s<0:=by
 rw [KU];constructor
 ·rintro ⟨a,b⟩;unfold k6;have f1:=cJ.2 a;have f2:=cJ.2 b;rw [if_neg (by omega),if_neg (by omega)];decide
 ·intro ahG;constructor
  ·intro hd;have:=AT (fun x hx=>(h.dm x hx).1) (fun x hx=>(h.tm x hx).1.1) (.inl hd)
   omega
  ·intro hd;have:=AT (fun x hx=>(h.dm x hx).1) (fun x hx=>(h.tm x hx).1.1) (.inr hd)
   omega
theorem SY {r:Ro} (h:Ii r) (x:Po):Nl r x=nk r x:=by
 unfold Nl nk;rw [show decide (eE r x.ou<0)=decide (k6 r x.ou<0) from decide_eq_decide.2 (OU h _)]
def Hq (r:Ro) (k:Nat):Int:=(r.po[k]?.map fun x=>if Nl r x≠0 then Nl r x else if 0<k/\(x.lv<((r.po[k-1]?).getD x).lv\/x.lv=((r.po[k-1]?).getD x).lv/\eE r x.ou<=eE r ((r.po[k-1]?).getD x).ou) then 11 else 0).getD 0
theorem SV {r:Ro} (h:Ii r) {k:Nat} (hk:k<r.po.length):Hq r k=Hv r r.po k:=by
 unfold Hq;rw [Zc hk,sh hk,Zbp,Zaq,SY h];by_cases e:nk r r.po[k]=0
 ·rw [if_neg (not_not_intro e),if_neg (not_not_intro e)];have hl:=(oq e).1;by_cases Nv:k=0
  ·rw [if_neg (by omega),if_pos Nv,if_neg];exact qb.2 (by omega)
  ·rw [if_neg Nv,Zc (show k-1<r.po.length by omega),Zaq];have key:=@qb (r.po[k]).lv (eE r (r.po[k]).ou) (r.po[k-1]).lv (eE r (r.po[k-1]).ou);by_cases c:mG [(r.po[k]).lv,eE r (r.po[k]).ou] (Fh r (some r.po[k-1]))<=0
   ·rw [if_pos c,if_pos];have:¬ ((r.po[k-1]).lv<(r.po[k]).lv\/(r.po[k-1]).lv=(r.po[k]).lv/\eE r (r.po[k-1]).ou<eE r (r.po[k]).ou):=fun q=>(key.2 q) c
    omega
   ·rw [if_neg c,if_neg];have:=key.1 c;omega
 ·rw [if_pos e,if_pos e]
def VY (r:Ro):Int:=if kK r fun v=>r.ti.any fun x=>decide ((qd r.po v 8 x.nm).length=8) then 33 else if kK r fun v=>r.ti.any fun x=>nr r.po v x.nm != !decide ((eD r.po v x.nm).getD ⟨#[]⟩=⟨#[]⟩) then 32 else 0
theorem SZ {r:Ro} (h:Ii r) (hp:kC r r.po=0):VY r=A2 r:=by
 have IA:∀ p∈r.po,nk r p=0:=fun p mD=>by
  obtain ⟨k,hk,rfl⟩:=ZA mD;have:=eK.1 hp k hk;rw [sh hk] at this;by_cases e:nk r r.po[k]=0
  ·exact e
  ·rw [if_pos e] at this;exact this
 have yr:∀ p∈r.po,p.ou∈cu r\/p.ou∈cQ r:=fun p mD=>K1 (fun x hx=>(h.dm x hx).1) (fun x hx=>(h.tm x hx).1.1) (oq (IA p mD)).2.1
 have yt:∀ p∈r.po,p.ip∈cN r\/p.ip∈cQ r:=fun p mD=>Lv (oq (IA p mD)).2.2.1
 have hne:∀ p∈r.po,p.ip≠⟨#[]⟩:=fun p mD=>h.ne ((yt p mD).elim .inl fun q=>.inr (.inr q))
 have uu:∀ x∈r.ti,x.nm≠⟨#[]⟩:=fun x hx=>h.ne (.inr (.inr (Zw.2 ⟨x,hx,I⟩)))
 have hti:(cQ r).length=r.ti.length:=by unfold cQ;rw [Zd]
 have e1:(kK r fun v=>r.ti.any fun x=>decide ((qd r.po v 8 x.nm).length=8))=kK r fun v=>r.ti.any (NA r v):=by
  unfold kK;congr 1;funext i;have hc:=Ms (po:=r.po) (v:=(i:Nat)) (T:=cQ r) (jy.tie h.wJ yr yt) (by rw [hti];exact h.len.2.2);rw [ZaS,ZR,ZR];constructor
  ·rintro ⟨x,hx,e⟩;rw [decide_eq_true_eq,vI hne 7 (uu x hx),ZB] at e;obtain ⟨t,ht,hm⟩:=hc.2 ⟨x.nm,Zw.2 ⟨x,hx,rfl⟩,by omega⟩;obtain ⟨y,hy,rfl⟩:=Zw.1 ht;exact ⟨y,hy,fE.2 (by rw [<- hti];exact hm)⟩
  ·rintro ⟨x,hx,e⟩;obtain ⟨t,ht,hm⟩:=hc.1 ⟨x.nm,Zw.2 ⟨x,hx,rfl⟩,by rw [hti];exact fE.1 e⟩;obtain ⟨y,hy,rfl⟩:=Zw.1 ht;refine ⟨y,hy,?_⟩;rw [decide_eq_true_eq,vI hne 7 (uu y hy),ZB,hm]
 have e2:(kK r fun v=>r.ti.any fun x=>nr r.po v x.nm != !decide ((eD r.po v x.nm).getD ⟨#[]⟩=⟨#[]⟩))=kK r fun v=>r.ti.any (K0 r v):=by
  unfold kK;congr 1;funext i;dsimp only;congr 1;funext x;unfold K0 gI;have:(!decide ((eD r.po (i:Nat) x.nm).getD ⟨#[]⟩=⟨#[]⟩))=(eD r.po (i:Nat) x.nm).isSome:=by
   cases e:eD r.po (i:Nat) x.nm with
   | none=>rfl
   | some o =>
    obtain ⟨p,mD,_,_,rfl⟩:=fC e;have:=hne p mD;simp [this]
  rw [this];cases nr r.po (i:Nat) x.nm <;> cases (eD r.po (i:Nat) x.nm).isSome <;> rfl
 unfold VY A2;rw [e1,e2];cases (kK r fun v=>r.ti.any (NA r v)) <;> cases (kK r fun v=>r.ti.any (K0 r v)) <;> rfl
def AL (r:Ro):Int:=if kA (Hq r) r.po.length≠0 then kA (Hq r) r.po.length else VY r
theorem OK {r:Ro} (h:Ii r):AL r=if kC r r.po≠0 then kC r r.po else A2 r:=by
 have e:kA (Hq r) r.po.length=kC r r.po:=E6 fun j hj _=>SV h hj
 unfold AL;rw [e];by_cases c:kC r r.po=0
 ·rw [if_neg (not_not_intro c),if_neg (not_not_intro c),SZ h c]
 ·rw [if_pos c,if_pos c]
def mor:ByteArray:=⟨#[109,111,114,101]⟩
theorem OV {r:Ro} {s:ByteArray} (hs:s∈cu r\/s∈cQ r):eE r s=if 0<=bB (cu r) s then bB (cu r) s else (r.de.length:Nat)+bB (cQ r) s:=by
 unfold eE;by_cases c:s∈cu r
 ·rw [if_pos (dK c),if_pos (dK c)]
 ·have h2:=cJ.2 c;rw [if_neg (by omega),if_pos (dK (hs.resolve_left c)),if_neg (by omega)]

def ng (a b s:ByteArray):ByteArray:=if s=a then b else s
def iL (a b:ByteArray) (x:Sr):Sr:=⟨ng a b x.nm,x.mx⟩
def je (a b:ByteArray) (x:De):De:=⟨ng a b x.nm,x.mx,x.pr⟩
def jB (a b:ByteArray) (x:Ti):Ti:=⟨ng a b x.nm,x.fr,x.to⟩
def fI (a b:ByteArray) (x:Po):Po:=⟨x.lv,ng a b x.ou,ng a b x.ip⟩
def Ro.wy (r:Ro) (a b:ByteArray):Ro:=⟨r.lv,r.ma,r.sr.map (iL a b),r.de.map (je a b),r.ti.map (jB a b),r.po.map (fI a b)⟩
section
variable {r:Ro} {a b:ByteArray}
theorem MW {r:Ro} {s:ByteArray} (h:s∈cN r\/s∈cu r\/s∈cQ r):s∈dh r:=by
 unfold dh;rw [Zz,Zz];rcases h with h | h | h
 ·exact .inl (.inl h)
 ·exact .inl (.inr h)
 ·exact .inr h
end
end Go.Proofs.A1
namespace Go.Proofs.A1
open Go Go.SL
open Tryz
open Tryz renaming prog->T_
variable {l:List Tk} {o:ByteArray} {w:World}
theorem y8 {r:Ro} (h:(fX r l).2.2=0):∃ q,iJ r l (oR r l) l.length=some q/\fX r l=(r.wp q,0,0)/\¬ 0<=q5 r l:=by
 unfold fX at h ⊢;by_cases c:0<=q5 r l
 ·rw [if_pos c] at h;cases h
 ·rw [if_neg c] at h ⊢;show ∃ q,iJ r l (An (cu r) (jn r l l.length)) l.length=some q/\_;cases e:iJ r l (An (cu r) (jn r l l.length)) l.length with
  | none=>rw [e] at h;cases h
  | some q=>exact ⟨q,rfl,rfl,c⟩
def Sg (r:Ro) (t:Tk):List ByteArray:=(List.range r.lv.toNat).map fun k=>if t.at k=⟨#[]⟩ then jY r (k:Nat) t.de else if t.at k=dash then ⟨#[]⟩ else t.at k
theorem Qv {r:Ro} {v:Int} (h:jY r v o≠⟨#[]⟩):jY r v o∈cN r:=by
 unfold jY at h ⊢;split at h
 ·rename_i c;rw [if_pos c];rw [ZR] at c;obtain ⟨x,hx,e⟩:=c;rw [decide_eq_true_eq] at e;exact Zw.2 ⟨x,hx,e⟩
 ·exact absurd I h
theorem ML {r:Ro} (h:rS r) {q:List Po} (hq:jy r q) (v:Int) (o:ByteArray):jY (r.wp q) v o=qF q v (cN r) o:=xG (h.wp hq).wJ hq.wp v o
theorem Cz {r:Ro} (fP:fm r=0) {l:List Tk} (hl:GV r l) {q:List Po} (h0:iJ r l (oR r l) l.length=some q) :
  jy r q/\(∀ t∈l,cZ (r.wp q) t.de=Sg r t)/\∀ y∈cu r,y ∉ l.map Tk.de->cZ (r.wp q) y=cZ r y:=by
 have h:=yn fP;have hp:=prt (tQ fP).2.1;obtain ⟨k1,k2,k3⟩:=SI h hl h0;refine ⟨k1,fun t ht=>?_,fun y hy hn=>?_⟩
 ·unfold cZ Sg;show (List.range r.lv.toNat).map _=_;refine Zbt fun k hk=>?_;have hk:=ZU.1 hk;have tb:=hl.lv t ht;have hks:k<t.so.length:=by omega
  rw [ML h k1];by_cases hd:lL r t k=true
  ·rw [k3 t ht k hks hd,if_neg (lh.1 hd).1]
  ·have rq:¬ Vz r l (k:Nat) t.de:=by
    rintro ⟨t',HH,i,hi,Bk,e1,e2⟩;obtain ⟨x,hx,rfl⟩:=ZA ht;obtain ⟨x',Tx,rfl⟩:=ZA HH;have e:x=x':=Classical.byContradiction fun c=>zM hl.nd hx Tx c e2
    subst e;have:k=i:=by omega
    subst this;exact hd Bk
   rw [k2 _ _ (hl.de t ht) rq,<- xG h.wJ h.val];by_cases e1:t.at k=⟨#[]⟩
   ·rw [if_pos e1]
   ·have e2:t.at k=jY r (k:Nat) t.de:=Classical.byContradiction fun c=>hd (lh.2 ⟨e1,c⟩)
    have e3:t.at k≠dash:=hp.nd (by rw [e2];exact Qv (by rw [<- e2];exact e1));rw [if_neg e1,if_neg e3,e2]
 ·unfold cZ;show (List.range r.lv.toNat).map _=_;refine Zbt fun k _=>?_;rw [ML h k1,k2 _ _ hy fun ⟨t,ht,_,_,_,_,e⟩=>hn (Zw.2 ⟨t,ht,e.symm⟩),<- xG h.wJ h.val]
theorem uo {r:Ro}:nH r o=false↔o=⟨#[]⟩\/o=dash\/o∈cN r:=by
 unfold nH dash;rw [Bool.and_eq_false_iff,Bool.and_eq_false_iff,decide_eq_false_iff_not,decide_eq_false_iff_not,decide_eq_false_iff_not,cJ];simp only [ne_eq,Zq,or_assoc];rw [Classical.not_not]
theorem Am {r:Ro}:Ck r l=0↔l≠[]/\GV r l:=by
 have fZ:∀ k (hk:k<l.length),Nc r l k=0↔(l[k].de∈cu r/\(∀ j (hj:j<k),(l[j]'(by omega)).de≠l[k].de)/\(l[k].so.length:Int)=r.lv/\∀ s∈l[k].so,s=⟨#[]⟩\/s=dash\/s∈cN r):=by
  intro k hk;rw [Ka hk,bX];have e1:mF r l[k].de=0↔l[k].de∈cu r:=by
   unfold mF;rw [bO (by decide),decide_eq_false_iff_not,cJ,Classical.not_not]
  have e2:bL ((l.take k).any fun y=>decide (y.de=l[k].de)) 9=0↔∀ j (hj:j<k),(l[j]'(by omega)).de≠l[k].de:=by
   rw [bO (by decide),Zaw];constructor
   ·intro h j hj e;have hjt:j<(l.take k).length:=by rw [Zs];omega
    have:=h _ (Zj hjt);rw [ZaP] at this;exact this (decide_eq_true e)
   ·intro h x hx e;obtain ⟨j,hj,rfl⟩:=ZA hx;rw [Zs] at hj;rw [ZaP] at e;exact h j (by omega) (of_decide_eq_true e)
  have e3:bL (decide ((l[k].so.length:Int)≠r.lv)) 2=0↔(l[k].so.length:Int)=r.lv:=by
   rw [bO (by decide),decide_eq_false_iff_not,ne_eq,Zq]
  have e4:bL (l[k].so.any (nH r)) 10=0↔∀ s∈l[k].so,s=⟨#[]⟩\/s=dash\/s∈cN r:=by
   rw [bO (by decide),Zaw];exact ⟨fun h s hs=>uo.1 (by have:=h s hs;rwa [Zar] at this),fun h s hs=>by rw [Zar];exact uo.2 (h s hs)⟩
  constructor
  ·intro h;exact ⟨e1.1 (h _ (by simp)),e2.1 (h _ (by simp)),e3.1 (h _ (by simp)),e4.1 (h _ (by simp))⟩
  ·rintro ⟨a,b,c,d⟩ e he;simp only [ZQ,Zo,or_false] at he;rcases he with rfl | rfl | rfl | rfl
   ·exact e1.2 a
   ·exact e2.2 b
   ·exact e3.2 c
   ·exact e4.2 d
 have hA:Nf l=0↔l≠[]/\l.length<=8:=by
  unfold Nf;rw [bX];constructor
  ·intro h;have a:=(bO (by decide)).1 (h (bL (decide ((l.length:Int)=0)) 12) (by simp));have b:=(bO (by decide)).1 (h (bL (decide ((8:Int)<(l.length:Nat))) 5) (by simp));rw [decide_eq_false_iff_not] at a b;exact ⟨fun e=>a (by rw [e];rfl),by omega⟩
  ·rintro ⟨a,b⟩ e he;simp only [ZQ,Zo,or_false] at he;rcases he with rfl | rfl
   ·refine (bO (by decide)).2 (decide_eq_false fun e=>a (Z5 (by omega)))
   ·exact (bO (by decide)).2 (decide_eq_false (by omega))
 unfold Ck;constructor
 ·intro h;by_cases c:Nf l=0
  ·rw [if_neg (not_not_intro c)] at h;have h:=eK.1 h;obtain ⟨c1,c2⟩:=hA.1 c;refine ⟨c1,fun t ht=>?_,?_,fun t ht=>?_,fun t ht=>?_,c2⟩
   ·obtain ⟨k,hk,rfl⟩:=ZA ht;exact ((fZ k hk).1 (h k hk)).1
   ·show List.Pairwise _ _;rw [Zab];intro i j hi hj zB;rw [Zd] at hi hj;rw [Z1,Z1];exact ((fZ j hj).1 (h j hj)).2.1 i zB
   ·obtain ⟨k,hk,rfl⟩:=ZA ht;exact ((fZ k hk).1 (h k hk)).2.2.1
   ·obtain ⟨k,hk,rfl⟩:=ZA ht;exact ((fZ k hk).1 (h k hk)).2.2.2
  ·rw [if_pos c] at h;exact absurd h c
 ·rintro ⟨c1,h⟩;rw [if_neg (not_not_intro (hA.2 ⟨c1,h.B2⟩))];refine eK.2 fun k hk=>(fZ k hk).2 ⟨h.de _ (Zj hk),fun j hj=>zM h.nd (by omega) hk (by omega),h.lv _ (Zj hk),h.so _ (Zj hk)⟩
def yb (r:Ro) (t:Tk):Tk:=⟨t.de,(List.range r.lv.toNat).map fun k=>if t.at k=⟨#[]⟩ then ⟨#[]⟩ else if jY r (k:Nat) t.de=⟨#[]⟩ then dash else jY r (k:Nat) t.de⟩
def Ro.uL (r:Ro) (d:ByteArray) (q:Bool):Ro:=⟨r.lv,r.ma,r.sr,r.de.modify (bB (cu r) d).toNat fun x=>⟨x.nm,x.mx,q⟩,r.ti,r.po⟩
def nK (r:Ro) (d:ByteArray):Tk:=⟨d,List.replicate r.lv.toNat dash⟩
theorem BB {r:Ro} (h:0<=r.lv) {d:ByteArray} (hd:d∈cu r):GV r [nK r d]:=by
 refine ⟨fun t ht=>?_,by simp,fun t ht=>?_,fun t ht s hs=>?_,by simp⟩ <;> rw [ZD.1 ht] at *
 ·exact hd
 ·unfold nK;rw [Zae];omega
 ·exact .inr (.inl (List.eq_of_mem_replicate hs))
structure Od where
 fr:Int
 tk:List Tk
def Od.zero:Od:=⟨0,[]⟩
def QQ (r:Ro) (l:List Od):Nat->Ro
 | 0=>r
 | i+1=>(fX (QQ r l i) (l.getD i Od.zero).tk).1
def CU (r:Ro) (l:List Od) (i:Nat):Int:=(fX (QQ r l i) (l.getD i Od.zero).tk).2.2
def QA (f:Nat->Int) (n:Nat):Nat:=((List.range n).find? fun i=>decide (f i≠0)).getD 0
def jq (r:Ro) (l:List Od):Ro×Int×Int:=if kA (CU r l) l.length=0 then (QQ r l l.length,0,0) else (Ro.nil,(QA (CU r l) l.length:Nat),kA (CU r l) l.length)
theorem Qz {f:Nat->Int} {n i:Nat} (h:∀ j,j<i->f j=0) (hi:i<n) (hn:f i≠0):QA f n=i:=by
 unfold QA;have:(List.range n).find? (fun i=>decide (f i≠0))=some i:=by
  rw [ZaD];refine ⟨by simpa using hn,i,by simpa using hi,by simp,fun j hj=>?_⟩;simp [h j hj]
 rw [this];rfl
def No (r:Ro) (l:List Od) (k:Nat):Int:=(l[k]?.map fun x=>aY [gX x.fr 0 10000000,bL (decide (x.fr<=if k=0 then -1 else (l.getD (k-1) Od.zero).fr)) 11,Ck r x.tk]).getD 0
def Ys (r:Ro) (l:List Od):Int:=if (16:Int)<(l.length:Nat) then 5 else kA (No r l) l.length
structure QF (r:Ro) (l:List Od):Prop where
 B2:l.length<=16
 fr:∀ k (h:k<l.length),0<=l[k].fr/\l[k].fr<=10000000
 inc:∀ i j (hi:i<l.length) (hj:j<l.length),i<j->l[i].fr<l[j].fr
 tk:∀ k (h:k<l.length),GV r l[k].tk
theorem ods {r:Ro} {l:List Od} (h:Ys r l=0):QF r l:=by
 unfold Ys at h;by_cases c:(16:Int)<(l.length:Nat)
 ·rw [if_pos c] at h;cases h
 ·rw [if_neg c] at h;have h:=eK.1 h;have hk:∀ k (hk:k<l.length),(0<=l[k].fr/\l[k].fr<=10000000)/\(if k=0 then -1 else (l.getD (k-1) Od.zero).fr)<l[k].fr/\Ck r l[k].tk=0:=fun k hk=>by
   have:=h k hk;unfold No at this;rw [Zc hk,Zbp,Zaq,bX] at this;have a:=jb.1 (this _ Zr);have b:=(bO (by decide)).1 (this (bL (decide (l[k].fr<=if k=0 then -1 else (l.getD (k-1) Od.zero).fr)) 11) (by simp))
   rw [decide_eq_false_iff_not] at b;exact ⟨a,by omega,this _ (by simp)⟩
  have iY:∀ k (Rp:k+1<l.length),l[k].fr<l[k+1].fr:=fun k Rp=>by
   have:=(hk (k+1) Rp).2.1;rwa [if_neg (by omega),Zay,Zk,Zc (by omega),Zaq] at this
  refine ⟨by omega,fun k h=>(hk k h).1,fun i j hi hj zB=>?_,fun k h=>(Am.1 (hk k h).2.2).2⟩
  induction j with
  | zero=>omega
  | succ j ih =>
   have:=iY j hj;by_cases c:i=j
   ·subst c;exact this
   ·have:=ih (by omega) (by omega);omega
structure M8 (r:Ro) (l:List Od) (i:Nat) (q:List Po):Prop where
 eq:QQ r l i=r.wp q
 val:jy r q
theorem M8.next {r:Ro} (fP:fm r=0) {l:List Od} (hl:QF r l) {i:Nat} (hi:i<l.length) {q:List Po} (h:M8 r l i q) (h0:CU r l i=0):∃ q',M8 r l (i+1) q'/\(∀ t∈l[i].tk,cZ (r.wp q') t.de=Sg (r.wp q) t)/\∀ y∈cu r,y ∉ l[i].tk.map Tk.de->cZ (r.wp q') y=cZ (r.wp q) y:=by
 unfold CU at h0;rw [h.eq,Zk,Zc hi,Zaq] at h0;obtain ⟨q',e1,e2,_⟩:=y8 h0;obtain ⟨k1,k2,k3⟩:=Cz (MA fP h.val) ((hl.tk i hi).wp q) e1;refine ⟨q',⟨?_,⟨k1.rV,k1.Li,k1.out,k1.xU,k1.Q7,k1.DZ,k1.use⟩⟩,k2,k3⟩;rw [QQ,h.eq,Zk,Zc hi,Zaq,e2];rfl
theorem Kv {r:Ro} (fP:fm r=0) {l:List Od} (hl:QF r l):∀ i,i<=l.length->(∀ j,j<i->CU r l j=0)->∃ q,M8 r l i q
 | 0,_,_=>⟨r.po,rfl,(yn fP).val⟩
 | i + 1, hi, h => by
  obtain ⟨q,hq⟩:=Kv fP hl i (by omega) fun j hj=>h j (by omega);obtain ⟨q',ux,_⟩:=hq.next fP hl hi (h i (by omega));exact ⟨q',ux⟩
def jc (l:List Od) (f:Int):Nat:=l.findIdx fun x=>decide (f<x.fr)
theorem Sl (l:List Od) (f:Int):jc l f<=l.length:=List.findIdx_le_length
def RW (b:Nat) (r:Ro) (s d t p:Value) (l:List Po):List bd:=[RB b r s d t p,J1 r s,J2 r d,J3 r t,PB p l]
theorem VZ {l:List Po} {i:Nat} (h:i<l.length) (cur:List Value):eL (eF l++cur) (i*3) 3=[.q l[i].lv,.string l[i].ou,.string l[i].ip]:=sO (f:=Po.cells) (fun _=>rfl) h cur
theorem RR.wp {r:Ro} {s d t p':Value} {po:List Po} (h1:Rd w s 2 (vV r.sr)) (h2:Rd w d 3 (vG r.de)) (h3:Rd w t 3 (u7 r.ti)) (h4:Rd w p' 3 (uf po)):RR w (r.wp po) s d t p':=⟨h1,h2,h3,h4⟩
set_option maxHeartbeats 2000000 in
theorem Oa {r:Ro} {s d t p:Value} {b:Nat} {fp:List Nat} (iB:fp.Nodup) (hs:cy (hp w) (RW b r s d t p r.po) fp) (c6:mX r) (WG:r.po.length<=1000) :
  a8 T_ 257 [.p b] w fp (fun x:Value×(Po->Bool)=>Sw r.po (cu r) x.2/\∀ q∈r.po,x.2 q=true->q.ou∈cu r\/∃ q'∈r.po,x.2 q'=true/\q'.lv=q.lv/\q'.ip=q.ou) (fun _=>.tuple #[]) (fun x=>RW b r s d t x.1 (r.po.filter x.2)):=by
 unfold RW RB PB at *;refine dT func257 I I iB hs ?_;refine Jr<|Ja I<|Jn<|J0 ?_
 refine aV (ι:=Value×(Po->Bool)×Bool) (fun x=>Sw r.po (cu r) x.2.1/\(x.2.2=false->∀ q∈r.po,x.2.1 q=true->q.ou∈cu r\/∃ q'∈r.po,x.2.1 q'=true/\q'.lv=q.lv/\q'.ip=q.ou)) (fun x=>[(2,.bool x.2.2),(0,.p b)])
  (fun x=>RW b r s d t x.1 (r.po.filter x.2.1)) (fun x=>2*(r.po.filter x.2.1).length+if x.2.2 then 1 else 0) ?_ ?_
 ·apply aH (p,(fun _=>true),true) ⟨Sw.start _ _,fun h=>by cases h⟩
  case hs1=>exact bT
  case ht=>
   show bj _ [JP b r s d t p,J1 r s,J2 r d,J3 r t,row 188 3 p (r.po.filter fun _=>true).length (eF (r.po.filter fun _=>true))] _
   rw [ZaF.2 fun _ _=>rfl]
   exact .h5 .nil
 rintro ⟨p',f,fl⟩ ⟨Vn,uz⟩;dsimp only at Vn uz ⊢;unfold RW RB PB;cases fl with
 | false =>
  (refine Jq<|Jr<|Jv I<|Jn<|cd (.of I)<|Jp<|Jl<|Jo ?_)
  with_reducible first|apply aO|apply aP
  case he=>exact oQ I
  case hR=>
   intro w' aB;exact aC (p',f) ⟨Vn,uz I⟩ (by exact .h5 .nil) aB I
 | true =>
  (refine Jq<|Jr<|Jv I<|Jn<|c5 (.of I)<|Jk<|J0<|Jr<|Ja I<|Ji<|Jv I<|ab (dM (.of I)) I<|bD I I ae<|JL I .here I ?_)
  have aik:(r.po.filter f).length<=r.po.length:=ZW _ _;refine JN bJ I (fun w1 aT=>H8 (cq aT c7 I) (by omega)) ?_;intro cv _;dsimp only [id_eq,Zb,Za];refine aK (v:=cv) (by exact .here) fun ca cc e=>?_;subst e;refine JI I<|Jv I<|Jn<|J0 ?_;have nX:∀ k (h:k<(r.po.filter f).length),(eF (r.po.filter f)).length=(r.po.filter f).length*3:=fun _ _=>gA _
  refine aV (ι:=Nat×Value×(Po->Bool)×Bool) (fun x=>x.1<=(r.po.filter f).length/\Sw r.po (cu r) x.2.2.1/\(x.2.2.2=false->x.2.2.1=f/\∀ i (hi:i<(r.po.filter f).length),i<x.1->(r.po.filter f)[i].ou∈cu r\/nr (r.po.filter f) (r.po.filter f)[i].lv (r.po.filter f)[i].ou=true)/\(x.2.2.2=true->(r.po.filter x.2.2.1).length<(r.po.filter f).length))
   (fun x=>[(12,.q (x.1:Nat)),(11,.q ((r.po.filter f).length:Nat)),(10,.slice ca (r.po.filter f).length cc),(2,.bool x.2.2.2),(0,.p b)])
   (fun x=>[JP b r s d t (x.2.1),J1 r s,J2 r d,J3 r t,row 188 3 x.2.1 (r.po.filter x.2.2.1).length (eF (r.po.filter x.2.2.1)),row 188 3 (.slice ca (r.po.filter f).length cc) (r.po.filter f).length (eF (r.po.filter f))]) (fun x=>(r.po.filter f).length-x.1) ?_ ?_
  ·apply aH (0,p',f,false) ⟨Zi _,Vn,fun _=>⟨I,fun i _ h=>absurd h (ZV i)⟩,fun h=>by cases h⟩
   case hs1=>exact bT
   case ht=>exact jv
  rintro ⟨k,p2,f2,fl⟩ ⟨hk,PY,LU,Bh⟩;dsimp only at hk PY LU Bh ⊢;by_cases aL:k<(r.po.filter f).length
  ·refine Jr<|JA I<|Jn<|Jq<|Jd I fun aA=>Jk<|Jq<|J0<|Jr ?_;refine cm (E:=188) (sz:=3) (v:=.slice ca (r.po.filter f).length cc) ek (by omega) fun g iv cur e oP Dd Da EU=>?_;cases e;have c1:=VZ aL cur
   (refine ab (ao (.of I) (.of I) I (by omega) aA aW) I ?_;refine ab (bQ (.of I) .here c1 I) I ?_;refine Jz I I fun _ _=>ak (.of I) (.of I) .here I I (fc I I I) (br I) ai ?_;refine Jn<|Jq ?_)
   generalize w9:(r.po.filter f)[k].lv=pv;generalize o9:(r.po.filter f)[k].ou=po;generalize Rl:(r.po.filter f)[k].ip=pi;have Dm:∀ w',RR w' (r.wp (r.po.filter f2)) s d t p2->an T_ 155 [.agg #[.q r.lv,.q r.ma,s,d,t,p2],.string po] w' (.q (bB (cu r) po)):=fun w' h=>gH (r:=r.wp (r.po.filter f2)) po h
   have hu0:∀ w',RR w' (r.wp (r.po.filter f2)) s d t p2->an T_ 239 [.agg #[.q r.lv,.q r.ma,s,d,t,p2],.q pv,.string po] w' (.bool (nr (r.po.filter f2) pv po)):=fun w' h=>I7 (r:=r.wp (r.po.filter f2)) pv po h
   with_reducible refine cz 18 (by kernel_rfl) ?_
   (refine fw I I<|aq (dM (.of I)) I<|aq (bU bE) I<|jH I I ae<|aq (gn .here) I<|cW bn I (fun w' aB=>(Dm w' (RR.wp (cF aB cI I) (cH aB c7 I) (cE aB ek I) (cq aB nR I))))<|aq (l7 (.of I) (.of I)) I<|fw I I<|bM I I (fun hg bH=>(aQ (.of I))) I<|bM I I (fun hg bH=>(dM (.bW hg I))) I<|bM I I (fun hg bH=>(bQ (.bW hg I) bE ai (by rfl))) I<|bM I I (fun hg bH=>(ar (.of I) ae)) I<|bM I I (fun hg bH=>(ag (.bW hg I) (At.lit .here I))) I<|bM I I (fun hg bH=>(ar (.of I) ae)) I<|bM I I (fun hg bH=>(ag (.bW hg I) (At.lit .here I))) I<|oM I I (fun hg=>(a7 (.of I) (.cons (.bW hg I) (.cons (.bW hg I) (.cons (.bW hg I) .nil))) inferInstance gF)) I (fun hg w' aB=>(hu0 w' (RR.wp (cF aB cI I) (cH aB c7 I) (cE aB ek I) (cq aB nR I))))<|bM I I (fun hg bH=>(fu (.bW hg I))) I<|aq (cM (.of I) I) I ?_)
   with_reducible refine cC ?_
   (refine Jn<|oK I (fun aA=>?_) fun aA=>?_;refine Jr<|Jv I<|bD I I ae<|JL I .here I<|bD I I ae<|JL I .here I ?_;rotate_left;refine Jw<|Jj<|Jt<|Jg<|JB I (by omega)<|Jv I<|Jn ?_;rotate_right)
   ·obtain ⟨EW,Wl⟩:bB (cu r) po<0/\nr (r.po.filter f2) pv po=false:=by simpa using aA
    with_reducible apply eH (As:=[JP b r s d t p2,row 188 3 p2 (r.po.filter f2).length (eF (r.po.filter f2))])
    case hr=>exact dU
    case hd=>rfl
    case ht=>exact .cons bE (.cons ek .nil)
    case hc=>
     intro w1 Bt aT uN hs1 Ds ku;exact yN (r:=r) (s:=s) (d:=d) (t:=t) (p:=p2) (b:=b) (l:=r.po.filter f2) pv po uN hs1 (by have:=ZW f2 r.po;omega)
    intro p3 _;dsimp only [id_eq,Zb,Za];unfold RB PB;rw [pV];refine Jn<|Jg<|Ja I<|Jx<|Jj<|Jt<|Jg<|JB I (by omega)<|Jv I<|Jn ?_;refine ct (E:=188) (sz:=3) (g:=g) cI oP Dd Da EU ?_;apply aG (k+1,p3,(fun x=>f2 x&&!rM pv po x),true) ⟨by show k+1<=_;omega,PY.step (cJ.1 EW) (fun q hq hf e=>by
     have:=uY.2 ⟨q,Zu.2 ⟨hq,hf⟩,e⟩;rw [Wl] at this;cases this),(fun h=>by cases h),fun _=>by
      show (r.po.filter fun x=>f2 x&&!rM pv po x).length<_
      rw [<- pV];cases fl with
      | true=>exact Nat.lt_of_le_of_lt (ZW _ _) (Bh rfl)
      | false =>
       obtain ⟨rfl,_⟩:=LU rfl;refine List.length_filter_lt_length_iff_exists.2 ⟨_,Zj aL,?_⟩;unfold rM;rw [w9,o9];simp⟩ (by show (r.po.filter f).length-(k+1)<(r.po.filter f).length-k;omega)
    case hs1=>exact bT
    case ht=>exact jv
   ·have Vj:¬ (decide (bB (cu r) po<0)&&!nr (r.po.filter f2) pv po)=true:=by
     simp only [Zn,decide_eq_true_eq,Zbc,not_and,Bool.not_eq_false] at aA ⊢;exact fun c=>aA.resolve_left (fun q=>q c)
    refine ct (E:=188) (sz:=3) (g:=g) (by exact Take.there .here) oP Dd Da EU ?_;apply aG (k+1,p2,f2,fl) ⟨by show k+1<=_;omega,PY,(fun h=>⟨(LU h).1,fun i hi YO=>by
     by_cases e:i=k
     ·subst e;rw [w9,o9];obtain ⟨e1,_⟩:=LU h;rw [e1] at Vj;by_cases c:bB (cu r) po<0
      ·right
       cases c2:nr (r.po.filter f) pv po with
       | true=>rfl
       | false=>exact absurd (show (decide (bB (cu r) po<0)&&!nr (r.po.filter f) pv po)=true by rw [c2,decide_eq_true c];rfl) Vj
      ·exact .inl (Classical.byContradiction fun q=>c (cJ.2 q))
     ·exact (LU h).2 i hi (show i<k by have:i<k+1:=YO;omega)⟩),Bh⟩ (by show (r.po.filter f).length-(k+1)<(r.po.filter f).length-k;omega)
    case hs1=>exact bT
    case ht=>exact .cons bE (.cons bE (.cons bE (.cons bE (.cons bE (.h1 .nil)))))
  ·have e:k=(r.po.filter f).length:=by omega
   subst e;refine Jr<|JA I<|Jn<|Jq<|Jc I fun aA=>Jp<|Jl<|Jo<|Jj<|Jt ?_;apply aG (p2,f2,fl) ⟨PY,fun h q hq hf=>by
    obtain ⟨rfl,h2⟩:=LU h;obtain ⟨i,hi,rfl⟩:=ZA (Zu.2 ⟨hq,hf⟩);rcases h2 i hi hi with e | e
    ·exact .inl e
    ·obtain ⟨q',ux,e'⟩:=uY.1 e;obtain ⟨x1,x2⟩:=Zu.1 ux;exact .inr ⟨q',x1,x2,e'⟩⟩ (by
    show 2*(r.po.filter f2).length+(if fl then 1 else 0)<2*(r.po.filter f).length+(if true then 1 else 0)
    cases fl with
    | true=>have:=Bh rfl;simp only [if_true];omega
    | false=>rw [(LU rfl).1];simp)
   case hs1=>exact bT
   case ht=>exact jv
end Go.Proofs.A1
namespace Go.SL
open Go
section
variable {P:Program} {r:Option Nat} {c:Cx} {D:List Nat} {sl:aN} {hs hs' hs2:List bd} {Q:Exit->Act->World->Prop} {ops:Array Oper} {d:Nat} {dst:Option Tmp} {ty:TypeId} {pos:String} {af:Array Edge} {g:Option (Nat×Bool)} {rest:List Oper} {κ:Type} [DecidableEq κ] {kv:κ->Value}
theorem Ha {X:Act->World->Prop} {b:Nat} {l:List (κ×Value)} (ht:Take hs (mp kv b l) hs') (k:∀ es ck,K8 kv l es ck->Tr c D sl (bu b (.map es ck)::hs') X):Tr c D sl hs X:=fun a w bb=>by
 have hm:=bb.mem.take (ht.append _);obtain ⟨kk,fp,hn,⟨f1,f2,rfl,⟨e,es,ck,h1,h2⟩,h3⟩,Bh⟩:=hm;exact k es ck h2 a w (bb.heap ⟨kk,f1++f2,hn,⟨f1,f2,I,⟨e,h1⟩,h3⟩,Bh⟩)
end
end Go.SL
namespace Go.Proofs.A1
open Go Go.SL
open Tryz
open Tryz renaming prog->T_
theorem DM {r:Ro} {v:Int} {i:Nat}:∀ {q:List Nat} {po:List Po} {x:ByteArray},rJ r v po x (q++[i])=(if gI (rJ r v po x q).1 v (dq r i) then (rJ r v po x q).1 else (rJ r v po x q).1++[⟨v,dq r i,(rJ r v po x q).2⟩],dq r i)
 | [],po,x=>rfl
 | j :: q, po, x => by
  rw [Zb,rJ,rJ];exact DM
theorem BK {r:Ro} {v:Int}:∀ (q:List Nat) (po:List Po) (x:ByteArray),(rJ r v po x q).1.length<=po.length+q.length
 | [],po,x=>Zv _
 | j :: q, po, x => by
  rw [rJ];refine ZP (BK q _ _) ?_;rw [ZB];split
  ·omega
  ·rw [Zg,Z7];omega
theorem GS {r:Ro} {v:Int}:∀ (q:List Nat) (po:List Po) (x:ByteArray),(∀ i∈q,i<r.ti.length)->(∀ p∈po,p.ou∈cu r\/p.ou∈cQ r)->∀ p∈(rJ r v po x q).1,p.ou∈cu r\/p.ou∈cQ r
 | [],po,x,_,h=>h
 | j :: q, po, x, hi, h => by
  rw [rJ];refine GS q _ _ (fun i yu=>hi i (ZM _ yu)) fun p hp=>?_;split at hp
  ·exact h p hp
  ·rcases Zz.1 hp with hp | hp
   ·exact h p hp
   ·rw [ZD.1 hp];exact .inr (mM (hi j Zr))
variable {i:Nat} {l:List Ti}
theorem VI (h:i<l.length) (cur:List Value):eL (iC l++cur) (i*3) 3=[.string l[i].nm,.q l[i].fr,.q l[i].to]:=sO (f:=Ti.cells) (fun _=>rfl) h cur
theorem Su (h:i<l.length) (cur:List Value):(iC l++cur)[i*3]? = some (.string l[i].nm):=by
 have:=uG (cs:=iC l++cur) (o:=i*3) (n:=3) (j:=0) (by omega);rw [VI h cur,Zas] at this;exact this.symm
theorem F4 (l:List Po) (q:Po):eF (l++[q])=eF l++[.q q.lv,.string q.ou,.string q.ip]:=by
 unfold eF uf;simp [Po.cells]
theorem S1 {r:Ro} {x y:Po}:S2 r x y<0↔ns r x y=true:=by
 rw [vk];unfold ns;simp
set_option maxHeartbeats 2000000 in
theorem VL {r:Ro} {s d t p:Value} {b:Nat} {po:List Po} {xv:Value} {xp:List Nat} (xf:Nat) (v:Int) (so de:ByteArray) {w:World} {fp:List Nat} (iB:fp.Nodup) (hs:cy (hp w) [RB b r s d t p,J1 r s,J2 r d,J3 r t,PB p po,row 3 1 xv xp.length (gR xp)] fp)
  (c6:mX r) (WG:po.length<=1000) (hxf:xp.length<=100) (hd:DT r) (hi:∀ i∈xp,i<r.ti.length) (yr:∀ q∈po,q.ou∈cu r\/q.ou∈cQ r) (kz:de∈cu r) (hV:(kV r po v so xp de).Pairwise (fun a b=>ns r a b=true)) :
  a8 T_ 258 [.p b,.q v,.string so,.agg #[xv,.q (xf:Nat)],.string de] w fp (fun _:Value=>True) (fun _=>.tuple #[]) (fun p'=>[RB b r s d t p',J1 r s,J2 r d,J3 r t,PB p' (kV r po v so xp de),row 3 1 xv xp.length (gR xp)]):=by
 unfold RB PB at *;refine dT func258 I I iB hs ?_;refine aK (v:=xv) ek fun xa xc e=>?_;subst e;refine aK (v:=t) cI fun ta tc e=>?_;subst e;refine aK (v:=p) c7 fun pa pc e=>?_;subst e
 (refine Jr<|Jy I I fun _ _=>Ji<|Jv I<|Ja I<|Jn<|Jq<|Jr<|bD I I ae<|JL I .here I<|JI I<|Jv I<|Jn<|J0 ?_)
 rename_i b8 YV
 refine aV (ι:=Nat×Value) (fun y=>y.1<=xp.length) (fun y=>[(19,.q (y.1:Nat)),(18,.q (xp.length:Nat)),(17,.slice xa xp.length xc),(10,.string (rJ r v po so (xp.take y.1)).2),(0,.p b),(1,.q v),(4,.string de)])
  (fun y=>[JP b r s d (.slice ta r.ti.length tc) (y.2),J1 r s,J2 r d,row 187 3 (.slice ta r.ti.length tc) r.ti.length (iC r.ti),row 188 3 y.2 (rJ r v po so (xp.take y.1)).1.length (eF (rJ r v po so (xp.take y.1)).1),row 3 1 (.slice xa xp.length xc) xp.length (gR xp)]) (fun y=>xp.length-y.1) ?_ ?_
 ·apply aH (0,.slice pa po.length pc) (Zi _)
  case hs1=>
   show mu _ [(19,.q (0:Nat)),(18,.q (xp.length:Nat)),(17,.slice xa xp.length xc),(10,.string so),(0,.p b),(1,.q v),(4,.string de)];exact .cons I (.cons I (.cons I (.cons I (.cons I (.cons I (.cons I .nil))))))
  case ht=>
   exact .cons (.there .here) (.cons (.there .here) (.cons (.there .here) (.cons (.there .here) (.cons (.there .here) (.cons (.there .here) .nil)))))
 rintro ⟨k,pv⟩ hk;dsimp only at hk ⊢;have Uf:=BK (r:=r) (v:=v) (xp.take k) po so;rw [Zs] at Uf;by_cases aL:k<xp.length
 ·have rp:rJ r v po so (xp.take (k+1))=(if gI (rJ r v po so (xp.take k)).1 v (dq r xp[k]) then (rJ r v po so (xp.take k)).1 else (rJ r v po so (xp.take k)).1++[⟨v,dq r xp[k],(rJ r v po so (xp.take k)).2⟩],dq r xp[k]):=by
   rw [Zm aL,DM]
  have hix:=hi _ (Zj aL);have uu:dq r xp[k]=(r.ti[xp[k]]).nm:=by unfold dq;rw [nZ hix]
  generalize rJ r v po so (xp.take k)=A at rp Uf ⊢;obtain ⟨q,la⟩:=A;dsimp only at rp Uf ⊢;refine aK (E:=188) (sz:=3) (v:=pv) c7 fun va vc e=>?_;subst e;refine Jr<|JA I<|Jn<|Jq<|Jd I fun aA=>Jk<|Jq<|J0<|Jr ?_;refine cm (E:=3) (sz:=1) (v:=.slice xa xp.length xc) ek (by omega) fun g1 c1 u1 e kT aT hz1 WU=>?_;cases e;have a1:=CZ aL u1;generalize hxk:xp[k]=ik at *
  (refine ab (ao (.of I) (.of I) I (by omega) aA aW) I ?_;refine ab (ag (.of I) (At.kB .here a1)) I ?_;refine Ja I<|Ji<|Jv I<|ab (dM (.of I)) I ?_;refine bD I I ae ?_;refine JL I (.there .here) I<|Jv I ?_)
  refine cm (E:=187) (sz:=3) (v:=.slice ta r.ti.length tc) c7 (by omega) fun g2 c2 u2 e kg me hz2 ET=>?_;cases e;have a2:=Su hix u2;rw [<- uu] at a2
  (refine ab (ao (.of I) (.of I) I (by omega) (by omega) aW) I<|bD I I ae<|ab (ag (.of I) (At.kB .here a2)) I<|Ja I<|Jn<|Jq<|Jr<|Jv I<|ab (dM (.of I)) I<|ab (bU bE) I<|Jv I<|Jv I ?_)
  refine ct (E:=187) (sz:=3) (g:=g2) (by exact .here) kg me hz2 ET ?_;refine ct (E:=3) (sz:=1) (g:=g1) (by exact Take.there .here) kT aT hz1 WU ?_;refine ah dU I (fun w' aB=>rI (r:=r.wp q) v (dq r ik) (RR.wp (cF aB cI I) (cH aB c7 I) (cE aB (by exact Take.there .here) I) (cq aB ek I))) ?_;have mV:gI (r.wp q).po v (dq r ik)=gI q v (dq r ik):=rfl;rw [mV];have Rk:(eF q).length=q.length*3:=gA q;cases Dp:gI q v (dq r ik) with
  | false =>
   rw [Dp,if_neg (by decide)] at rp;have hpa:eF (q++[⟨v,dq r ik,la⟩])=eF q++[.q v,.string (dq r ik),.string la]:=F4 _ _;have w9:(q++[(⟨v,dq r ik,la⟩:Po)]).length=q.length+1:=by simp
   (refine JH I<|Jn<|c5 (.of I)<|Jg<|Jv I<|Jv I<|ab (dM (.of I)) I<|bD I I ae<|JL I bE I<|Jv I<|Jv I<|Jv I<|ab (aU (.o I (.o I (.o I .nil))) ai) I<|bh (bz (.o I .nil) I I bI bI ai) I fun _ _=>?_)
   refine bA (.of I) (.of I) nR .here ai (by rfl) (fc I I I) (by rfl) (by rfl) (by rfl) eC (by rfl) ?_;intro v';refine aK (by exact .here) fun a' iv e=>?_;subst e
   (refine ab (dM (.of I)) I<|bD I I ae<|ak (.of I) (.of I) c7 I I (dE I) (br I) ai<|Jn<|Jg<|Jv I<|Ja I<|Jx<|Jj<|Jt<|Jg<|JB I (by omega)<|Jv I<|Jn ?_)
   apply aG (k+1,.slice a' (q.length+1) iv) (by show k+1<=_;omega) (by show xp.length-(k+1)<xp.length-k;omega)
   case hs1=>
    dsimp only;rw [rp];exact .cons I (.cons I (.cons I (.cons I (.cons I (.cons I (.cons I .nil))))))
   case ht=>
    dsimp only;rw [rp];dsimp only;rw [w9,hpa];exact .h1 (.cons c7 (.cons c7 (.cons cI (.h1 (.cons (.there .here) .nil)))))
  | true =>
   rw [Dp,if_pos I] at rp
   (refine JH I<|Jn<|cd (.of I)<|Jk<|Jg<|Jv I<|Ja I<|Jx<|Jj<|Jt<|Jg<|JB I (by omega)<|Jv I<|Jn ?_)
   apply aG (k+1,.slice va q.length vc) (by show k+1<=_;omega) (by show xp.length-(k+1)<xp.length-k;omega)
   case hs1=>
    dsimp only;rw [rp];exact .cons I (.cons I (.cons I (.cons I (.cons I (.cons I (.cons I .nil))))))
   case ht=>
    dsimp only;rw [rp];exact .cons bE (.cons bE (.cons bE (.cons (.there .here) (.cons (.there .here) (.h1 .nil)))))
 ·have e:k=xp.length:=by omega
  subst e;rw [ZL] at *;refine aK (E:=188) (sz:=3) (v:=pv) c7 fun va vc e=>?_;subst e
  (refine Jr<|JA I<|Jn<|Jq<|Jc I fun aA=>Jp<|Jl<|Jo<|Jt<|Jr<|Jv I<|Jv I<|ab (dM (.of I)) I<|bD I I ae<|JL I .here I<|Jv I<|Jv I<|Jv I<|ab (aU (.o I (.o I (.o I .nil))) ai) I<|bh (bz (.o I .nil) I I bI bI ai) I fun _ _=>?_)
  refine bA (.of I) (.of I) ek .here ai (by rfl) (fc I I I) (by rfl) (by rfl) (by rfl) eC (by rfl) ?_;intro v';refine aK (by exact .here) fun a' iv e=>?_;subst e
  (refine ab (dM (.of I)) I<|bD I I ae<|ak (.of I) (.of I) bE I I (dE I) (br I) ai<|Ji<|Jv I<|ab (dM (.of I)) I<|ab (bU .here) I ?_)
  have hAo:=GS (r:=r) (v:=v) xp po so hi yr;have qN:∀ S:List Po,S.Perm ((rJ r v po so xp).1++[⟨v,de,(rJ r v po so xp).2⟩])->S.Pairwise (fun a b=>¬ S2 r b a<0)->S=kV r po v so xp de:=fun S h1 h2=>Kp hV h1 (h2.imp fun h=>fun c=>h (S1.2 c))
  have aiy:=BK (r:=r) (v:=v) xp po so;generalize rJ r v po so xp=A at *;obtain ⟨q,la⟩:=A;dsimp only at *;have hpa:eF (q++[⟨v,de,la⟩])=eF q++[.int .i64 v,.string de,.string la]:=F4 _ _;have w9:(q++[(⟨v,de,la⟩:Po)]).length=q.length+1:=by simp
  rw [<- hpa,<- w9];have js:∀ y∈q++[(⟨v,de,la⟩:Po)],eZ (dh r) y.ou=true:=fun y hy=>by
   rw [fE];rcases Zz.1 hy with hy | hy
   ·exact MW ((hAo y hy).elim (fun e=>.inr (.inl e)) fun e=>.inr (.inr e))
   ·rw [ZD.1 hy];exact MW (.inr (.inl kz))
  have hlen:(q++[(⟨v,de,la⟩:Po)]).length<=100000:=by omega
  generalize q++[(⟨v,de,la⟩:Po)]=L at *;refine JN bJ I (fun w1 aT=>AN (r:=r.wp L) (RR.wp (cF aT cI I) (cH aT c7 I) (cE aT ek I) (cq aT (by exact Take.there .here) I)) (by have:=c6;unfold mX at this;show r.de.length+r.ti.length<=_;omega)) ?_;intro bm _;dsimp only [id_eq,Zb,Za];rw [show om (r.wp L)=om r from I]
  (refine Jz I I fun _ _=>ak (.of I) (.of I) .here I I (dE I) (br I) ai<|Jn<|Jg<|Jv I<|ab (dM (.of I)) I<|bD I I ae<|JL I bE I<|ab (bC .nil (.o I .nil)) I ?_)
  rename_i b61 air ND aiw;refine Ha (b:=bm) (l:=om r) (kv:=fun s:ByteArray=>Value.string s) (by exact Take.there .here) fun es ck dP=>?_
  with_reducible apply eH (As:=[row 188 3 (.slice a' L.length iv) L.length (eF L)])
  case hr=>exact bn
  case hd=>rfl
  case ht=>exact .cons cI .nil
  case hc=>
   intro w1 Bt aT uN hs1 Ds ku;have h14:ND ∉ Bt:=ku ND _ _ (by exact Take.there .here);have YT:bm ∉ Bt:=ku bm _ _ (by exact .here);have f14:w1.cell? ⟨ND,0,none⟩=some (.map (some bm)):=At.lit (by exact Take.there .here) I w1 aT;exact Kl (r:=r) (l:=L) hs1 hd js (by omega) f14 ⟨es,ck,aT.bu (by exact .here),dP⟩ h14 YT
  rintro S ⟨hSp,Vn⟩;rw [qN S hSp Vn];have hlS:S.length=L.length:=hSp.length_eq;dsimp only [id_eq,Zb,Za];unfold PB;have hzl:(kV r po v so xp de).length=L.length:=by rw [<- qN S hSp Vn];exact hlS
  refine vQ ?_
  with_reducible first|apply aO|apply aP
  case he=>exact oQ I
  case hR=>
   intro w' aB;exact aC (.slice a' L.length iv) trivial (by exact .cons cI (.cons c7 (.cons c7 (.cons c7 (.h1 (.cons cI .nil)))))) aB I
end Go.Proofs.A1
namespace Go.SL
open Go
theorem ki {P:Program} {c:Cx} {sl:aN} {hs hs':List bd} {fn:Func} {s t u:Tmp} {T:TypeId} {b o n:Nat} {cs vs:List Value} {E:TypeId} {fz:Nat×Nat} {x y:Value} (h:fn.results=#[.cell t T,.tmp s,.tmp u]) (hT:Ty P T true n) (hp:dj sl t=some (.pointer (some ⟨b,o,none⟩))) (ht:Take hs (SL.bu b (.cells cs.toArray E fz)) hs') (hv:eL cs o n=vs) (hl:vs.length=n) (hx:dj sl s=some x) (hy:dj sl u=some y):Ends P fn c sl hs (.tuple #[.agg vs.toArray,x,y]):=
 RP (xs:=[.cell t T,.tmp s,.tmp u]) (vs:=[.agg vs.toArray,x,y]) h (IJ.cons (RV.cell hp (Lf (fo.bu ht hv) hl)) (IJ.cons (RV.tmp hx) (IJ.cons (RV.tmp hy) IJ.nil))) (by simp)
end Go.SL
namespace Go.Proofs.A1
open Go Go.SL
open Tryz
open Tryz renaming prog->T_
def tF (r:Ro) (t:Tk):Bool:=(r.de.getD (bB (cu r) t.de).toNat ⟨⟨#[]⟩,0,false⟩).pr
variable {w:World} {x:gW}
theorem O6 {r:Ro} {s d t p:Value} {b:Nat} (h:RR w r s d t p) (hA:BR w b (RC r s d t p)) (hx:x.tk.de∈cu r):an T_ 253 [.agg x.cells.toArray,.p b] w (.bool (tF r x.tk)):=by
 have h1:=Rd.one h.sr;have h3:=Rd.one h.ti;have h4:=Rd.one h.po;have kz:=h.de;obtain ⟨a3,tP,b3,o3,rfl,mU,gB,rP,pb⟩:=kz;rw [bY] at *;unfold maxLen at gB;obtain ⟨j0,rO⟩:∃ i:Nat,bB (cu r) x.tk.de=(i:Nat):=⟨(bB (cu r) x.tk.de).toNat,by have:=dK hx;omega⟩;have Bf:j0<r.de.length:=by
  obtain ⟨hl,_⟩:=fk (l:=cu r) (s:=x.tk.de) (by omega);rw [rO,ZE] at hl;unfold cu at hl;rwa [Zd] at hl
 have e0:tF r x.tk=(r.de[j0]).pr:=by unfold tF;rw [rO,ZE,Zk,Zc Bf];rfl
 have cY:=rP (ij Bf);have aF:=(pb j0 _ (fM Bf)).2;unfold De.cells at aF;have c2:=aF 2 _ I;have Dm:∀ w',aI [] w w'->an T_ 155 [.agg #[.q r.lv,.q r.ma,s,.slice a3 r.de.length tP,t,p],.string x.tk.de] w' (.q (j0:Nat)):=fun w' hk=>rO ▸ gH x.tk.de (h.keeps hk)
 have f3:w.cell? ⟨b,3,none⟩=some (.slice a3 r.de.length tP):=hA 3 _ I;have lg:∀ (j:Nat) (u:Value),[Value.int .i64 r.lv,.q r.ma,s,.slice a3 r.de.length tP,t,p][j]? = some u->w.cell? ⟨b,0+j,none⟩=some u:=hA;clear hA;rw [e0];unfold gW.cells;refine aj func253 I I ?_;refine Jr<|Jy I I fun _ _=>Ja I<|Jn<|Jq ?_
 with_reducible refine cz 10 (by kernel_rfl) ?_
 (refine jH I I ae<|aq (ag (.of I) (At.base f3 I)) I<|aq (ja (fo.base lg I)) I<|jH I I ae<|aq (gn .here) I<|cW bn I (fun w' aB=>(Dm w' (Mem.keeps aB)))<|aq (ao (.of I) (.of I) cY (by omega) (by omega) aW) I<|jH I I ae<|aq (ag (.of I) (At.base c2 I)) I<|aq (cX (.of I)) I ?_)
 with_reducible refine cC ?_
 refine Jn<|Je<|JT ?_
 rfl
theorem PO {r:Ro} {s d t p:Value} {b:Nat} (h:RR w r s d t p) (hA:BR w b (RC r s d t p)) (tb:r.lv<=1000) (c6:r.ti.length<=1000000):a8 T_ 255 [.agg x.cells.toArray,.p b] w [] (fun _:Value=>True) id (fun v=>[row 9 1 v r.lv.toNat (aR (cZ r x.tk.de))]):=by
 obtain ⟨h1,h2,h3,h4⟩:=h.one;have lg:∀ (j:Nat) (u:Value),[Value.int .i64 r.lv,.int .i64 r.ma,s,d,t,p][j]? = some u->w.cell? ⟨b,0+j,none⟩=some u:=hA;clear hA;unfold gW.cells;refine aS func255 I I ?_
 (refine Jr<|Jy I I fun _ _=>Ja I<|Ji<|ab (ja (fo.base lg I)) I<|bD I I ae<|JL I .here I ?_)
 refine JN bn I (fun w1 aT=>xe x.tk.de (h.keeps aT.keeps) tb c6) ?_;intro v _;dsimp only [id_eq,Zb,Za];refine aK (v:=v) (by exact .here) fun va vc e=>?_;subst e;refine Ja I<|Jn<|Je ?_
 with_reducible first|apply aO|apply aP
 case he=>exact dN I I
 case hR=>
  intro w' aB;exact aC (.slice va r.lv.toNat vc) trivial (by exact .h1 .nil) aB I
theorem Tm {kv:Value} {l:List gW} {g:gW->List ByteArray} {n:Nat} {f:FuncId} {first cap:List Value} [bN T_ f] {w:World} (h:Rd w kv 2 (jP l)) (hM:vK w l) (hn:l.length<=1000) (hg:∀ x∈l,(g x).length=n)
  (cV:∀ x∈l,∀ w',aI [] w w'->a8 T_ f (first++[.agg x.cells.toArray]++cap) w' [] (fun _:Value=>True) id (fun v=>[row 9 1 v n (aR (g x))])) :
  a8 T_ 254 [kv,.func (.func f) first.toArray cap.toArray] w [] (fun x:Value×List Value=>x.2.length=l.length) (fun x=>x.1) (fun x=>[row 32 1 x.1 l.length x.2,iM 9 x.2 (l.map fun y=>aR (g y))]):=by
 obtain ⟨a,cp,b,o,rfl,dC,ch,ha,hc⟩:=h;rw [eY] at *;unfold maxLen at ch;refine aS func254 I I ?_;refine Jr<|Ja I<|Ji<|Ja I<|Jn<|Jq<|Jr<|Jv I<|JI I<|Jv I<|Jn<|J0 ?_;refine aJ 32 1 ?_;refine kE 9 ?_
 refine aV (ι:=Nat×Value×List Value) (fun x=>x.1<=l.length/\x.2.2.length=x.1) (fun x=>[(10,.q (x.1:Nat)),(9,.q (l.length:Nat)),(8,.slice a l.length cp),(5,x.2.1),(1,.func (.func f) first.toArray cap.toArray)])
  (fun x=>[row 32 1 x.2.1 x.1 x.2.2,iM 9 x.2.2 ((l.take x.1).map fun y=>aR (g y))]) (fun x=>l.length-x.1) ?_ ?_
 ·apply aH (0,.z,[]) ⟨Zi _,I⟩
  case hs1=>exact bT
  case ht=>
   exact .cons (.there .here) (.h1 .nil)
 rintro ⟨k,v,vs⟩ ⟨hk,pK⟩;dsimp only at hk pK ⊢;by_cases aL:k<l.length
 ·have cY:=ha (lo aL);have aF:=(hc k _ (kM aL)).2;have iZ:=cV _ (Zj aL);have Nw:=hg _ (Zj aL);have iO:=Rd.one (hM _ (Zj aL));have htk:(l.take (k+1)).map (fun y=>aR (g y))=((l.take k).map fun y=>aR (g y))++[aR (g l[k])]:=by
   rw [Zm aL,Zy];rfl
  have nu:((l.take k).map fun y=>aR (g y)).length=k:=by rw [Zd,Zs];omega
  unfold gW.cells at aF iZ;refine aK (E:=32) (sz:=1) (v:=v) (by exact .here) fun va vc e=>?_;subst e
  (refine Jr<|JA I<|Jn<|Jq<|Jd I fun aA=>Jk<|Jq<|J0<|Jr<|ab (gE cY aA) I<|ab (ja (fo.base aF I)) I<|Jz I I fun _ _=>ak (.of I) (.of I) .here I I (ix I iO) (br I) ai<|Jn<|Jg<|Jv I<|Jv I<|ab (bU .here) I ?_)
  refine JN bJ I (fun w1 aT=>iZ w1 aT.keeps) ?_;intro hv _;dsimp only [id_eq,Zb,Za];refine aK (E:=9) (sz:=1) (v:=hv) (by exact .here) fun jU kg e=>?_;subst e;refine bh (aD (.o I .nil) I I I I) I (fun _ _=>?_);refine bA (.of I) (.of I) cI .here ai (by rfl) (dE I) (by rfl) (by rfl) (by rfl) eC (by rfl) ?_;intro v';refine Ja I<|Jx<|Jj<|Jt<|Jg<|JB I (by omega)<|Jv I<|Jn ?_;refine lZ (E:=9) (vs:=vs) (v:=.slice jU n kg) (x:=aR (g l[k])) c7 bE (by rw [dx,Nw]) (by rw [nu,pK]) ?_;apply aG (k+1,v',vs++[.slice jU n kg]) ⟨by show k+1<=_;omega,by rw [Zg,pK];rfl⟩ (by show l.length-(k+1)<l.length-k;omega)
  case hs1=>exact bT
  case ht=>
   dsimp only;rw [htk];exact .cons (.there .here) (.h1 .nil)
 ·have e:k=l.length:=by omega
  subst e;rw [ZL] at *;refine aK (E:=32) (sz:=1) (v:=v) (by exact .here) fun va vc e=>?_;subst e;refine Jr<|JA I<|Jn<|Jq<|Jc I fun aA=>Jp<|Jl<|Jo<|Jt<|Jr<|Jv I<|Ja I<|Jn<|Je ?_
  with_reducible first|apply aO|apply aP
  case he=>exact dN I I
  case hR=>
   intro w' aB;exact aC (.slice va l.length vc,vs) pK (by exact .h2 .nil) aB I
theorem rh {r:Ro} (h:rS r) {s:ByteArray} (hs:s∈cu r\/s∈cQ r):0<=eE r s/\eE r s<14:=by
 have hl:=h.len;have l1:(cu r).length=r.de.length:=by unfold cu;rw [Zd]
 have l2:(cQ r).length=r.ti.length:=by unfold cQ;rw [Zd]
 rw [OV hs];by_cases c:s∈cu r
 ·have:=dK c;have:=Bv this;rw [if_pos (by omega)];omega
 ·have h2:=cJ.2 c;have h3:=dK (hs.resolve_left c);have:=Bv h3;rw [if_neg (by omega)];omega
theorem j5 {r:Ro} (h:rS r) {q:List Po} (hq:jy r q):q.length<=42:=by
 have hl:=h.lim;have key:∀ p∈q,0<=p.lv*14+eE r p.ou/\p.lv*14+eE r p.ou<42:=fun p hp=>by
  have:=rh h (hq.out p hp);have:=hq.Li p hp;omega
 have:=lS 42 (q.map fun p=>(p.lv*14+eE r p.ou).toNat) (by
  unfold List.Nodup;rw [ZbB];refine (List.Pairwise.and_mem.1 hq.rV).imp fun {a b} ⟨ha,hb,Vl⟩ e=>?_;have:=key a ha;have:=key b hb;have:=rh h (hq.out a ha);have:=rh h (hq.out b hb);unfold ns at Vl;simp only [ZS,Zn,decide_eq_true_eq] at Vl;omega) (fun x hx=>by
  obtain ⟨p,hp,rfl⟩:=Zw.1 hx;have:=key p hp;omega)
 rwa [Zd] at this
theorem Cy {r:Ro} (h:rS r) {po:List Po} {v:Int} {s d:ByteArray} (hv:0<=v/\v<r.lv) (o9:jy r po) (hs:s∈cN r) (kz:d∈cu r) (fA:eD po v d=none) {p:List Nat} (hp:(dJ r po v s).least (ll r d) p):jy r (kV r po v s p d):=
 (Kq h.wJ h.nd hv o9 hs kz fA hp.1 (hp.2.1.trans (Mo kz).symm)).1
end Go.Proofs.A1
namespace Go.SL
open Go
def sf (E:TypeId) (vs:List Value) (xs:List (List Value)) (j:Nat):bd:=Ng (fR E (vs.take j) (xs.take j))
def se (E:TypeId) (vs:List Value) (xs:List (List Value)) (j:Nat):bd:=Ng (fR E (vs.drop (j+1)) (xs.drop (j+1)))
theorem pC {E:TypeId} {v:Value} {x:List Value}:∀ {vs:List Value} {xs:List (List Value)} {j:Nat},vs[j]? = some v->xs[j]? = some x->fR E vs xs=fR E (vs.take j) (xs.take j)++row E 1 v x.length x::fR E (vs.drop (j+1)) (xs.drop (j+1))
 | [],_,j,h,_=>by simp at h
 | _::_,[],j,_,h=>by simp at h
 | v' :: vs, x' :: xs, 0, h1, h2 => by
  simp only [ZaC,Option.some.injEq] at h1 h2;subst h1 h2
  rfl
 | v' :: vs, x' :: xs, j + 1, h1, h2 => by
  simp only [Zba] at h1 h2;show row E 1 v' x'.length x'::fR E vs xs=row E 1 v' x'.length x'::(fR E (vs.take j) (xs.take j)++_);rw [pC h1 h2];rfl
theorem y6:∀ (l:List bd) (A:bd) (m:List bd),Take (l++A::m) A (l++m)
 | [],_,_=>.here
 | _::l,A,m=>.there (y6 l A m)
theorem qp:∀ (P l m:List bd),bj (P++(l++m)) l (P++m)
 | _,[],_=>.nil
 | P,A::l,m=>.cons (y6 P A (l++m)) (qp P l m)
section
variable {P:Program} {c:Cx} {D:List Nat} {sl:aN} {hs hs':List bd} {X:Act->World->Prop}
variable {v:Value} {vs x:List Value} {xs:List (List Value)}
theorem vP {E:TypeId} {n j:Nat} (ht:Take hs (iM E vs xs) hs') (hv:vs[j]? = some v) (hx:xs[j]? = some x) (hn:x.length=n)
  (k:Tr c D sl (row E 1 v n x::sf E vs xs j::se E vs xs j::hs') X):Tr c D sl hs X:=by
 subst hn;refine yU (As:=fR E vs xs) ht ?_;rw [pC hv hx,Zh];refine tf (As:=fR E (vs.take j) (xs.take j)) (qp [] _ _) ?_;refine tf (As:=fR E (vs.drop (j+1)) (xs.drop (j+1))) (hs':=Ng (fR E (vs.take j) (xs.take j))::row E 1 v x.length x::hs') (qp [_,_] _ _) ?_;intro a w bb;have hT:bj (Ng (fR E (vs.drop (j+1)) (xs.drop (j+1)))::Ng (fR E (vs.take j) (xs.take j))::row E 1 v x.length x::hs') [row E 1 v x.length x,sf E vs xs j,se E vs xs j] hs':=.cons (.there (.there .here)) (.cons (.there .here) (.h1 .nil));have hm:=bb.mem.jA (hT.append (nF D));exact k a w (bb.heap hm)
theorem yW {E:TypeId} {n:Nat} (j:Nat) {h1 h2:List bd} (ht:Take hs (sf E vs xs j) h1) (ht2:Take h1 (se E vs xs j) h2) (ht3:Take h2 (row E 1 v n x) hs') (hv:vs[j]? = some v) (hx:xs[j]? = some x) (hn:x.length=n)
  (k:Tr c D sl (iM E vs xs::hs') X):Tr c D sl hs X:=fun a w bb=>by
 subst hn;have hT:bj hs [sf E vs xs j,se E vs xs j,row E 1 v x.length x] hs':=.cons ht (.cons ht2 (.cons ht3 .nil));have hT2:bj ([sf E vs xs j,se E vs xs j,row E 1 v x.length x]++(hs'++nF D)) [sf E vs xs j,row E 1 v x.length x,se E vs xs j] (hs'++nF D):=.h1 (.cons (.there .here) (.h1 .nil));have hm:=(bb.mem.jA (hT.append (nF D))).jA hT2;obtain ⟨kk,fp,uy,⟨f1,f2',rfl,g1,⟨f2,f3',rfl,g2,⟨f3,f4,rfl,g3,g4⟩⟩⟩,hb⟩:=hm;refine k a w (bb.heap ⟨kk,(f1++(f2++f3))++f4,by simpa only [Zh] using uy,⟨f1++(f2++f3),f4,I,?_,g4⟩,by simpa only [Zh] using hb⟩);show cy (hp w) (fR E vs xs) _;rw [pC hv hx];exact cy.append_iff.2 ⟨f1,f2++f3,I,g1,⟨f2,f3,I,g2,g3⟩⟩
end
attribute [irreducible] sf se
end Go.SL
namespace Go.Proofs.A1
open Go Go.SL
open Tryz
open Tryz renaming prog->T_
theorem Lx {α β:Type} (f:α->β) (p:β->Bool) (l:List α):iN p (l.map f)=iN (fun x=>p (f x)) l:=by
 unfold iN;rw [Zd];congr 1;congr 1;funext i;rw [ZG,Option.map_map];rfl
theorem C2 (r:Ro) (l:List gW):q5 r (cU l)=iN (fun x:gW=>tF r x.tk) l:=by
 unfold q5 cU;rw [Lx];rfl
def nV (r:Ro) (x:Value×Value×Value×Value):List bd:=[J1 r x.1,J2 r x.2.1,J3 r x.2.2.1,PB x.2.2.2 r.po]
theorem Hd {c:Cx} {D:List Nat} {sl:aN} {hs hs':List bd} {X:Act->World->Prop} {ly:List Wy} {xv:Value} {xp:List Nat} {xf:Nat} (hx:(⟨xv,xp,xf⟩:Wy)∈ly\/(⟨xv,xp,xf⟩:Wy)=⟨.z,[],0⟩) (ht:Take hs (jk ly) hs')
  (k:∀ oY,Tr c D sl (row 3 1 xv xp.length (gR xp)::jk oY::hs') X):Tr c D sl hs X:=by
 rcases hx with hx | hx
 ·refine vS hx ht fun oY _=>?_;intro a w bb;have hT:bj (jk oY::row 3 1 xv xp.length (gR xp)::hs') [row 3 1 xv xp.length (gR xp),jk oY] hs':=.cons (.there .here) (.h1 .nil);have HI:St c D sl (jk oY::row 3 1 xv xp.length (gR xp)::hs') a w:=bb;have hm:=HI.mem.jA (hT.append (nF D));exact k oY a w (bb.heap hm)
 ·cases hx;refine aJ 3 1 ?_;intro a w bb;have hT:bj (row 3 1 (.z) 0 []::hs) [row 3 1 (.z) 0 [],jk ly] hs':=.h1 (.cons ht .nil);have hm:=bb.mem.jA (hT.append (nF D));exact k ly a w (bb.heap hm)
variable {k:Nat} {l:List gW} {n:Nat} {t:Tk} {w:World} {x:gW}
set_option maxHeartbeats 4000000 in
theorem Ao {r:Ro} {s d t p kv:Value} (h:RR w r s d t p) (dP:rS r) (WG:r.po.length<=500) (hw:Rd w kv 2 (jP l)) (hM:vK w l) (hT:GV r (cU l)) :
  a8 T_ 165 [RA r s d t p,kv] w [] (fun _:Value×Value×Value×Value=>True) (fun x=>.tuple #[RA (fX r (cU l)).1 x.1 x.2.1 x.2.2.1 x.2.2.2,.q (fX r (cU l)).2.1,.q (fX r (cU l)).2.2]) (fun x=>nV (fX r (cU l)).1 x):=by
 have tb:=dP.lim;have vz:=dP.len;have c6:mX r:=by unfold mX;omega
 have T0:=hT.B2;unfold cU at T0;rw [Zd] at T0;obtain ⟨h1,h2,h3,h4⟩:=h.one;have DX:=hw;obtain ⟨a,cp,b,o,rfl,dC,ch,ha,hc⟩:=hw;rw [eY] at *;unfold maxLen at ch;have WS:=C2 r l;unfold RA;refine aS func165 I I ?_;refine Jr<|Jy I I fun _ _=>Jz I I fun _ _=>Ja I<|Ja I<|Ji<|Jv I<|ab (bC .nil (.o I .nil)) I ?_;rename_i b2 sJ b4 sH
 with_reducible apply ah
 case hr=>exact bn
 case hd=>rfl
 case hc=>
  intro w' aB;have hA:BR w' b2 [.q r.lv,.q r.ma,s,d,t,p]:=BR.of aB (by exact Take.there .here);have hR:=h.keeps aB.keeps;exact Gk (f:=253) (p:=fun x:gW=>tF r x.tk) (first:=[]) (cap:=[.p b2]) (DX.keeps aB.keeps) (fun x hx w2 fg=>O6 (hR.keeps fg) (hA.keeps fg) (hT.de _ (Zaa hx)))
 rw [<- WS]
 (refine Ja I<|Jn<|Jq<|Jr<|Jv I<|JG I<|Jn<|gL I (fun aA=>?_) fun aA=>?_;refine Jr<|ab (aU .nil ai) I<|Jv I<|ak (.of I) (.of I) .here I I (dO I I I I I I) (br I) ai<|Ja I<|Ja I<|Jn<|Ju ?_;rotate_left;refine Jk<|Jr<|ab (bU (.there .here)) I ?_;rotate_right)
 ·have e0:fX r (cU l)=(Ro.nil,q5 r (cU l),31):=by unfold fX;rw [if_pos (by omega)]
  rw [e0];dsimp only;refine aJ 186 2 ?_;refine aJ 90 3 ?_;refine aJ 187 3 ?_;refine aJ 188 3 ?_
  with_reducible first|apply aO|apply aP
  case he=>exact ki I inferInstance I c7 ai (by rfl) (by rfl) (by rfl)
  case hR=>
   intro w' aB;exact aC (.z,.z,.z,.z) trivial (by exact .cons cI (.cons bE (.cons (.there .here) (.h1 .nil)))) aB I
 have Xu:¬ 0<=q5 r (cU l):=by omega
 refine JN bJ I (fun w1 aT=>vm (h.keeps aT.keeps) c6 (by omega)) ?_;intro y _;dsimp only [id_eq,Zb,Za];obtain ⟨s1,d1,t1,p1⟩:=y;dsimp only;unfold RA PB;refine aK (E:=186) (sz:=2) (v:=s1) (by exact .here) fun _ _ e=>?_;have k1:s1.oneCell'=true:=by rw [e];rfl
 clear e;refine aK (E:=90) (sz:=3) (v:=d1) (by exact Take.there .here) fun _ _ e=>?_;have k2:d1.oneCell'=true:=by rw [e];rfl
 clear e;refine aK (E:=187) (sz:=3) (v:=t1) bE fun _ _ e=>?_;have k3:t1.oneCell'=true:=by rw [e];rfl
 clear e;refine aK (E:=188) (sz:=3) (v:=p1) cI fun _ _ e=>?_;have k4:p1.oneCell'=true:=by rw [e];rfl
 clear e
 (refine Jz I I fun _ _=>ak (.of I) (.of I) .here I I (dO I I k1 k2 k3 k4) (br I) ai<|Ji<|Jv I<|ab (bC .nil (.o I .nil)) I ?_)
 rename_i b8 YV
 with_reducible apply jd
 case hr=>exact bn
 case hd=>rfl
 case ht=>exact bj.nil
 case hc=>
  intro w1 fp aT _ hs1;obtain rfl:fp=[]:=hs1;have hA:BR w1 b2 [.int .i64 r.lv,.int .i64 r.ma,s,d,t,p]:=BR.of aT nR;have hR:=h.keeps aT.keeps;exact Tm (f:=255) (first:=[]) (cap:=[.pointer (some ⟨b2,0,none⟩)]) (g:=fun x:gW=>cZ r x.tk.de) (n:=r.lv.toNat) (DX.keeps aT.keeps) (hM.keeps aT.keeps) (by omega) (fun x _=>by unfold cZ;simp) (fun x hx w2 fg=>PO (hR.keeps fg) (hA.keeps fg) (by omega) (by omega))
 rintro ⟨hv,pK⟩ nI;dsimp only at nI;dsimp only [id_eq,Zb,Za];refine aK (E:=32) (sz:=1) (v:=hv) (by exact .here) fun mz kT e=>?_;subst e;refine Ja I<|Jn<|Jq<|Jr<|Jv I<|JI I<|Jv I<|Jn<|J0 ?_;have Vi:∀ i,(jn r (cU l) i).length<=r.po.length:=fun i=>by rw [jh];exact ZW _ _
 have uu:(cU l).length=l.length:=by unfold cU;rw [Zd]
 refine aV (ι:=Nat×Value×List Po) (fun y=>y.1<=l.length/\y.2.2=jn r (cU l) y.1) (fun y=>[(34,.q (y.1:Nat)),(33,.q (l.length:Nat)),(32,.slice a l.length cp),(9,.slice mz l.length kT),(8,.p b8),(4,.p b4),(1,.slice a l.length cp)])
  (fun y=>[JP b8 r s1 d1 t1 (y.2.1),J1 r s1,J2 r d1,J3 r t1,row 188 3 y.2.1 y.2.2.length (eF y.2.2),row 32 1 (.slice mz l.length kT) l.length pK,iM 9 pK (l.map fun y=>aR (cZ r y.tk.de)),bu b4 (.cells #[.q 0,.q 0,.z,.z,.z,.z] 41 (0,0))]) (fun y=>l.length-y.1) ?_ ?_
 ·apply aH (0,p1,r.po) ⟨Zi _,I⟩
  case hs1=>exact bT
  case ht=>exact .cons bE (.cons bE (.cons bE (.cons bE (.cons bE (.h3 .nil)))))
 rintro ⟨i,pv,L⟩ ⟨hi,hL⟩;dsimp only at hi hL ⊢;by_cases aL:i<l.length
 ·have PJ:=lo aL;have cY:=ha PJ;have aF:=(hc i _ (kM aL)).2;have iP:=Zj aL;have Uh:=hM _ iP;have IC:(cU l).getD i Tk.zero=l[i].tk:=by unfold cU;rw [Zk,ZG,Zc aL];rfl
  have gl:jn r (cU l) (i+1)=lj r l[i].tk l[i].tk.so.length (jn r (cU l) i):=by rw [jn,IC]
  have Ve:=hT.lv l[i].tk (Zaa iP);have hdi:L.length<=r.po.length:=by rw [hL];exact Vi i
  rw [<- hL] at gl;have Xb:∀ k,(lj r l[i].tk k L).length<=r.po.length:=fun k=>ZP (by rw [lM];exact ZW _ _) hdi
  have TB:∃ u,pK[i]? = some u:=⟨pK[i],Zc (by omega)⟩;have Wi:(l.map fun y=>aR (cZ r y.tk.de))[i]? = some (aR (cZ r l[i].tk.de)):=by rw [ZG,Zc aL];rfl
  unfold gW.cells at aF;generalize hti:l[i]=ti at *;obtain ⟨tk,tv⟩:=ti;dsimp only at *;obtain ⟨sa,Ir,sb,Ol,rfl,Gm,sA,Pz,HK⟩:=Uh;rw [bG] at *;unfold maxLen at sA
  (refine Jr<|JA I<|Jn<|Jq<|Jd I fun aA=>Jk<|Jq<|J0<|Jr<|Jv I<|ab (gE cY aA) I<|ab (ja (fo.base aF I)) I<|Jz I I fun _ _=>Ja I<|ak (.of I) (.of I) .here I I (ix I I) (br I) ai<|Ji<|bD I I ae<|JL I .here I<|JI I<|Jv I<|Jn<|J0 ?_)
  rename_i R1 abW;obtain ⟨u,hu⟩:=TB;have Ul:(cZ r tk.de).length=r.lv.toNat:=by unfold cZ;simp
  refine vP (E:=9) (j:=i) (n:=r.lv.toNat) tV hu Wi (by rw [dx,Ul]) ?_;refine cm (E:=9) (sz:=1) (v:=u) (by exact .here) (by omega) fun gu uc JU e hu1 TF hu3 hu4=>?_;subst e;refine cm (E:=32) (sz:=1) (v:=.slice mz l.length kT) jl (by omega) fun gh hc oF e hh1 hh2 hh3 hh4=>?_;cases e;have f1:(pK++oF)[i*1]? = some (.w gu r.lv.toNat uc):=by
   rw [Zan,Zx (by omega)];exact hu
  have f2:∀ k,k<r.lv.toNat->(aR (cZ r tk.de)++JU)[k*1]? = some (.string (jY r (k:Nat) tk.de)):=fun k hk=>by
   rw [Zan,Zx (by rw [dx,Ul];exact hk)];unfold aR cZ;rw [ZG,ZG,List.getElem?_range hk];rfl
  refine aV (ι:=Nat×Value×List Po) (fun y=>y.1<=tk.so.length/\y.2.2=lj r tk y.1 L) (fun y=>[(42,.q (y.1:Nat)),(41,.q (tk.so.length:Nat)),(40,.slice sa tk.so.length Ir),(34,.q (i:Nat)),(33,.q (l.length:Nat)),(32,.slice a l.length cp),(10,.q (i:Nat)),(11,.p R1),(9,.w gh l.length kT),(8,.p b8),(4,.p b4),(1,.slice a l.length cp)])
   (fun y=>[JP b8 r s1 d1 t1 (y.2.1),J1 r s1,J2 r d1,J3 r t1,row 188 3 y.2.1 y.2.2.length (eF y.2.2),bu gh (.cells (pK++oF).toArray 32 (0,0)),bu gu (.cells (aR (cZ r tk.de)++JU).toArray 9 (0,0)),sf 9 pK (l.map fun y=>aR (cZ r y.tk.de)) i,se 9 pK (l.map fun y=>aR (cZ r y.tk.de)) i,bu b4 (.cells #[.q 0,.q 0,.z,.z,.z,.z] 41 (0,0)),bu R1 (.cells #[.string tk.de,.slice sa tk.so.length Ir] 78 (0,0))]) (fun y=>tk.so.length-y.1) ?_ ?_
  ·apply aH (0,pv,L) ⟨Zi _,I⟩
   case hs1=>exact bT
   case ht=>exact .cons ek (.cons ek (.cons ek (.cons ek (.cons ek (.h4 (.cons (.there .here) (.h1 .nil)))))))
  rintro ⟨k,KG,L2⟩ ⟨hk,qB⟩;dsimp only at hk qB ⊢;by_cases nu:k<tk.so.length
  ·have Bb:=Pz (iU nu);have Ba:w.cell? ⟨sb,Ol+k*1,none⟩=some (.string tk.so[k]):=(HK k _ (fH nu)).2 0 _ I;have f3:=f2 k (by omega);have fZ:tk.at k=tk.so[k]:=by unfold Tk.at;rw [Zk,Zc nu];rfl
   have hdk:=Xb k;rw [<- qB] at hdk;have hs2:lj r tk (k+1) L=if lL r tk k then L2.filter (fun x=>!rM (k:Nat) tk.de x) else L2:=by rw [lj,<- qB]
   have Xa:lL r tk k=(!decide (tk.so[k]=⟨#[]⟩)&&!decide (tk.so[k]=jY r (k:Nat) tk.de)):=by unfold lL;rw [fZ]
   generalize jY r (k:Nat) tk.de=ck at *;generalize tk.so[k]=sk at *
   (refine Jr<|JA I<|Jn<|Jq<|Jd I fun aA=>Jk<|Jq<|J0<|Jr<|Jv I<|ab (ao (.of I) (.of I) Bb (by omega) aA aW) I ?_;refine ab (ag (.of I) (At.base Ba I)) I ?_;refine Ja I<|Ja I<|Ji<|Jv I<|ab (gz (.of I) (.of I)) I ?_;refine Jv I<|jZ I I I I ?_;refine jZ I I I I ?_;refine jZ I I I I ?_;refine aM I I (fun hg bH=>(ao (.bW hg I) (.bW hg I) I (by omega) (by assumption) aW)) I ?_;refine aM I I (fun hg bH=>(ag (.bW hg I) (At.kB ek f1))) I ?_;refine jZ I I I I ?_;refine aM I I (fun hg bH=>(ao (.bW hg I) (.bW hg I) I (by omega) (by omega) aW)) I ?_;refine aM I I (fun hg bH=>(ag (.bW hg I) (At.kB nR f3))) I ?_;refine aM I I (fun hg bH=>(gz (.bW hg I) (.bW hg I))) I ?_;refine ab (cM (.of I) I) I ?_;refine Jn<|oK I (fun aA=>?_) fun aA=>?_;refine Jg<|Jv I<|bD I I ae ?_;refine JL I lB I ?_;rotate_left;refine Jw<|Jj<|Jt<|Jg<|JB I (by omega)<|Jv I<|Jn ?_;rotate_right)
   ·obtain ⟨q1,q2⟩:sk≠⟨#[]⟩/\sk≠ck:=by simpa using aA
    have yy:lL r tk k=true:=by rw [Xa,decide_eq_false q1,decide_eq_false q2];rfl
    rw [yy,if_pos I] at hs2;obtain ⟨L3,Rz⟩:∃ L3,L3=lj r tk (k+1) L:=⟨_,rfl⟩;rw [<- Rz] at hs2
    with_reducible apply eH (As:=[JP b8 r s1 d1 t1 KG,row 188 3 KG L2.length (eF L2)])
    case hr=>exact dU
    case hd=>rfl
    case ht=>exact jv
    case hc=>
     intro w1 Bt aT uN hs1 Ds ku;exact yN (r:=r) (s:=s1) (d:=d1) (t:=t1) (p:=KG) (b:=b8) (l:=L2) (k:Nat) tk.de uN hs1 (by omega)
    intro p3 _;dsimp only [id_eq,Zb,Za];unfold RB PB;rw [<- hs2];refine Jx<|Jj<|Jt<|Jg<|JB I (by omega)<|Jv I<|Jn ?_;apply aG (k+1,p3,L3) ⟨by show k+1<=_;omega,Rz⟩ (by show tk.so.length-(k+1)<tk.so.length-k;omega)
    case hs1=>exact bT
    case ht=>exact jv
   ·have yy:lL r tk k=false:=by
     rw [Xa];simp only [ne_eq,Zq,decide_eq_true_eq,Classical.not_and_iff_not_or_not] at aA;rcases aA with e | e
     ·rw [decide_eq_true e];rfl
     ·rw [decide_eq_true e];simp
    rw [yy,if_neg (by decide)] at hs2;apply aG (k+1,KG,L2) ⟨by show k+1<=_;omega,hs2.symm⟩ (by show tk.so.length-(k+1)<tk.so.length-k;omega)
    case hs1=>exact bT
    case ht=>exact jv
  ·have e:k=tk.so.length:=by omega
   subst e;refine Jr<|JA I<|Jn<|Jq<|Jc I fun aA=>Jp<|Jl<|Jo<|Jj<|Jt<|Jg<|JB I (by omega)<|Jv I<|Jn ?_;refine ct (E:=9) (sz:=1) (g:=gu) nR hu1 TF hu3 hu4 ?_;refine ct (E:=32) (sz:=1) (g:=gh) nR hh1 hh2 hh3 hh4 ?_;have Yx:(aR (cZ r tk.de)).length=r.lv.toNat:=by rw [dx,Ul]
   with_reducible apply yW (E:=9) (vs:=pK) (xs:=l.map fun y=>aR (cZ r y.tk.de)) (v:=.w gu r.lv.toNat uc) (x:=aR (cZ r tk.de)) (n:=r.lv.toNat) i
   case ht=>exact tV
   case ht2=>exact tV
   case ht3=>exact Take.there .here
   case hv=>exact hu
   case hn=>exact Yx
   case hx=>exact Wi
   case k=>
    apply aG (i+1,KG,L2) ⟨by show i+1<=_;omega,by show L2=jn r (cU l) (i+1);rw [gl,qB]⟩ (by show l.length-(i+1)<l.length-i;omega)
    case hs1=>exact bT
    case ht=>exact .cons bE (.cons bE (.cons bE (.cons bE (.cons bE (.cons (.there .here) (.h2 .nil))))))
 ·have e:i=l.length:=by omega
  subst e;refine Jr<|JA I<|Jn<|Jq<|Jc I fun aA=>Jp<|Jl<|Jo<|Jt<|Jr ?_;have hLf:L=r.po.filter (fun p=>!Mn r (cU l) l.length p):=by rw [hL,jh]
  have Dr:=Vi l.length;rw [<- hL] at Dr
  with_reducible apply eH (As:=[JP b8 r s1 d1 t1 pv,J1 r s1,J2 r d1,J3 r t1,row 188 3 pv L.length (eF L)])
  case hr=>exact bJ
  case hd=>rfl
  case ht=>exact jv
  case hc=>
   intro w1 Bt aT uN hs1 Ds ku;exact Oa (r:=r.wp L) (s:=s1) (d:=d1) (t:=t1) (p:=pv) (b:=b8) uN hs1 c6 (by show L.length<=1000;omega)
  rintro ⟨pw,ff⟩ ⟨Ug,Vo⟩;have o9:(r.wp L).po.filter ff=oR r (cU l):=by
   show L.filter ff=An (cu r) (jn r (cU l) (cU l).length);rw [uu,<- hL];exact NF.tid dP.wJ (by rw [hLf];exact dP.val.acy.sub _) ⟨Ug,Vo⟩
  dsimp only [id_eq,Zb,Za];rw [o9];unfold RW RB PB;dsimp only [Zb,Za]
  try unfold JP
  try unfold J1 J2 J3
  rw [show (r.wp L).lv=r.lv from I,show (r.wp L).ma=r.ma from I,show (r.wp L).sr=r.sr from I,show (r.wp L).de=r.de from I,show (r.wp L).ti=r.ti from I];refine Jn<|Jq<|Jr<|Jv I<|JI I<|Jv I<|Jn<|J0 ?_
  refine aV (ι:=Nat×Value×List Po) (fun y=>y.1<=l.length/\iJ r (cU l) (oR r (cU l)) y.1=some y.2.2/\jy r y.2.2) (fun y=>[(69,.q (y.1:Nat)),(68,.q (l.length:Nat)),(67,.slice a l.length cp),(9,.slice mz l.length kT),(8,.p b8),(4,.p b4),(1,.slice a l.length cp)])
   (fun y=>[JP b8 r s1 d1 t1 (y.2.1),J1 r s1,J2 r d1,J3 r t1,row 188 3 y.2.1 y.2.2.length (eF y.2.2),row 32 1 (.slice mz l.length kT) l.length pK,iM 9 pK (l.map fun y=>aR (cZ r y.tk.de)),bu b4 (.cells #[.q 0,.q 0,.z,.z,.z,.z] 41 (0,0))]) (fun y=>l.length-y.1) ?_ ?_
  ·have Up:iJ r (cU l) (oR r (cU l)) 0=some (oR r (cU l)):=by rw [iJ]
   have h01:=(pY dP hT).1;generalize oR r (cU l)=D0 at *;apply aH (0,pw,D0) ⟨Zi _,Up,h01⟩
   case hs1=>exact bT
   case ht=>exact jv
  clear Ug Vo o9 ff pw Dr hLf hL pv L hi;rintro ⟨i,pv,L⟩ ⟨hi,hL,hLV⟩;dsimp only at hi hL hLV ⊢;by_cases aL:i<l.length
  ·have cY:=ha (lo aL);have aF:=(hc i _ (kM aL)).2;have iP:=Zj aL;have Uh:=hM _ iP;have ke:i<(cU l).length:=by omega
   have Vg:(cU l)[i]=l[i].tk:=Z1 _;have IC:(cU l).getD i Tk.zero=l[i].tk:=by rw [Zk,Zc ke,Zaq,Vg]
   have LJ:=fun k hk q h1=>K9 dP hT ke (k:=k) (q0:=L) (q:=q) hk hL h1
   have LQ:=fun k=>vu dP hT (Zj ke) (k:=k)
   rw [Vg] at LJ LQ;have TN:iJ r (cU l) (oR r (cU l)) (i+1)=mB r l[i].tk l[i].tk.so.length L:=by rw [iJ,hL,IC];rfl
   have hrf:=fun h2=>F1 (r:=r) (l:=cU l) (po:=oR r (cU l)) ke hL h2
   have Ve:=hT.lv l[i].tk (Zaa iP);have TB:∃ u,pK[i]? = some u:=⟨pK[i],Zc (by omega)⟩;have Wi:(l.map fun y=>aR (cZ r y.tk.de))[i]? = some (aR (cZ r l[i].tk.de)):=by rw [ZG,Zc aL];rfl
   unfold gW.cells at aF;generalize hti:l[i]=ti at *;obtain ⟨tk,tv⟩:=ti;dsimp only at *;obtain ⟨sa,Ir,sb,Ol,rfl,Gm,sA,Pz,HK⟩:=Uh;rw [bG] at *;unfold maxLen at sA
   (refine Jr<|JA I<|Jn<|Jq<|Jd I fun aA=>Jk<|Jq<|J0<|Jr<|Jv I<|ab (gE cY aA) I<|ab (ja (fo.base aF I)) I<|Jz I I fun _ _=>Ja I<|ak (.of I) (.of I) .here I I (ix I I) (br I) ai<|Ji<|bD I I ae<|JL I .here I<|JI I<|Jv I<|Jn<|J0 ?_)
   rename_i RY Xh;obtain ⟨u,hu⟩:=TB;have Ul:(cZ r tk.de).length=r.lv.toNat:=by unfold cZ;simp
   refine vP (E:=9) (j:=i) (n:=r.lv.toNat) tV hu Wi (by rw [dx,Ul]) ?_;refine cm (E:=9) (sz:=1) (v:=u) (by exact .here) (by omega) fun gu uc JU e hu1 TF hu3 hu4=>?_;subst e;refine cm (E:=32) (sz:=1) (v:=.slice mz l.length kT) jl (by omega) fun gh hc oF e hh1 hh2 hh3 hh4=>?_;cases e;have f1:(pK++oF)[i*1]? = some (.w gu r.lv.toNat uc):=by
    rw [Zan,Zx (by omega)];exact hu
   have f2:∀ k,k<r.lv.toNat->(aR (cZ r tk.de)++JU)[k*1]? = some (.string (jY r (k:Nat) tk.de)):=fun k hk=>by
    rw [Zan,Zx (by rw [dx,Ul];exact hk)];unfold aR cZ;rw [ZG,ZG,List.getElem?_range hk];rfl
   refine aV (ι:=Nat×Value×List Po) (fun y=>y.1<=tk.so.length/\mB r tk y.1 L=some y.2.2) (fun y=>[(77,.q (y.1:Nat)),(76,.q (tk.so.length:Nat)),(75,.slice sa tk.so.length Ir),(69,.q (i:Nat)),(68,.q (l.length:Nat)),(67,.slice a l.length cp),(14,.q (i:Nat)),(15,.p RY),(9,.w gh l.length kT),(8,.p b8),(4,.p b4),(1,.slice a l.length cp)])
    (fun y=>[JP b8 r s1 d1 t1 (y.2.1),J1 r s1,J2 r d1,J3 r t1,row 188 3 y.2.1 y.2.2.length (eF y.2.2),bu gh (.cells (pK++oF).toArray 32 (0,0)),bu gu (.cells (aR (cZ r tk.de)++JU).toArray 9 (0,0)),sf 9 pK (l.map fun y=>aR (cZ r y.tk.de)) i,se 9 pK (l.map fun y=>aR (cZ r y.tk.de)) i,bu b4 (.cells #[.q 0,.q 0,.z,.z,.z,.z] 41 (0,0)),bu RY (.cells #[.string tk.de,.slice sa tk.so.length Ir] 78 (0,0))]) (fun y=>tk.so.length-y.1) ?_ ?_
   ·have Up:mB r tk 0 L=some L:=by rw [mB]
    apply aH (0,pv,L) ⟨Zi _,Up⟩
    case hs1=>exact bT
    case ht=>exact .cons ek (.cons ek (.cons ek (.cons ek (.cons ek (.h4 (.cons (.there .here) (.h1 .nil)))))))
   rintro ⟨k,KG,L2⟩ ⟨hk,qB⟩;dsimp only at hk qB ⊢;obtain ⟨Ny,fA⟩:=LJ k hk L2 qB;have hfw:=j5 dP Ny;by_cases nu:k<tk.so.length
   ·have Bb:=Pz (iU nu);have Ba:w.cell? ⟨sb,Ol+k*1,none⟩=some (.string tk.so[k]):=(HK k _ (fH nu)).2 0 _ I;have f3:=f2 k (by omega);have fZ:tk.at k=tk.so[k]:=by unfold Tk.at;rw [Zk,Zc nu];rfl
    have hs2:mB r tk (k+1) L=if mC r tk k then (ln (r.wp L2) (k:Nat) tk.so[k] tk.de).map (fun p=>kV r L2 (k:Nat) tk.so[k] p tk.de) else some L2:=by rw [mB,qB,Option.bind_some,fZ]
    have WW:mC r tk k=true↔¬ ((tk.so[k]=⟨#[]⟩\/tk.so[k]=⟨#[45]⟩)\/tk.so[k]=jY r (k:Nat) tk.de):=by
     rw [k9,fZ];constructor
     ·rintro ⟨x1,x2,x3⟩ ((e | e) | e)
      ·exact x1 e
      ·exact x3 e
      ·exact x2 e
     ·intro e;exact ⟨fun c=>e (.inl (.inl c)),fun c=>e (.inr c),fun c=>e (.inl (.inr c))⟩
    have WV:=LQ k nu;rw [fZ] at WV;have yy:mC r tk k=true->lL r tk k=true:=fun c=>by
     obtain ⟨x1,x2,_⟩:=k9.1 c;exact lh.2 ⟨x1,x2⟩
    generalize jY r (k:Nat) tk.de=ck at *;generalize tk.so[k]=sk at *
    (refine Jr<|JA I<|Jn<|Jq<|Jd I fun aA=>Jk<|Jq<|J0<|Jr<|Jv I<|ab (ao (.of I) (.of I) Bb (by omega) aA aW) I ?_;refine ab (ag (.of I) (At.base Ba I)) I ?_;refine Ja I<|Ja I<|Jn<|Jq<|Jr<|Jv I<|ab (dD (.of I) (.of I)) I ?_;refine Jv I<|jZ I I I I ?_;refine aM I I (fun hg bH=>(dD (.bW hg I) (.of I))) I ?_;refine ab (bV (.of I) I) I ?_;refine Jv I<|jZ I I I I ?_;refine jZ I I I I ?_;refine jZ I I I I ?_;refine aM I I (fun hg bH=>(ao (.bW hg I) (.bW hg I) I (by omega) (by assumption) aW)) I ?_;refine aM I I (fun hg bH=>(ag (.bW hg I) (At.kB ek f1))) I ?_;refine jZ I I I I ?_;refine aM I I (fun hg bH=>(ao (.bW hg I) (.bW hg I) I (by omega) (by omega) aW)) I ?_;refine aM I I (fun hg bH=>(ag (.bW hg I) (At.kB nR f3))) I ?_;refine aM I I (fun hg bH=>(dD (.bW hg I) (.bW hg I))) I ?_;refine ab (bV (.of I) I) I ?_;refine Jn<|oK I (fun aA=>?_) fun aA=>?_;refine Jp<|Jo<|Jt<|Jg<|JB I (by omega)<|Jv I<|Jn ?_;rotate_left;refine Jk<|Jr<|ab (bU .here) I ?_;refine Jv I<|Jv I<|bD I I ae ?_;refine JL I lB I ?_;rotate_right)
    ·have hj:mC r tk k=false:=by
      rw [<- Zar];exact fun c=>WW.1 c aA
     rw [hj,if_neg (by decide)] at hs2;apply aG (k+1,KG,L2) ⟨by show k+1<=_;omega,hs2⟩ (by show tk.so.length-(k+1)<tk.so.length-k;omega)
     case hs1=>exact bT
     case ht=>exact jv
    have hj:mC r tk k=true:=WW.2 (fun c=>c.elim (fun c=>c.elim aA.1.1 aA.1.2) aA.2)
    obtain ⟨⟨j1,j2⟩,rp,gl,_⟩:=WV hj;have Bg:=fA k (Zv _) nu (yy hj);rw [hj,if_pos I] at hs2;refine JN mI I (fun w1 aT=>QK (r:=r.wp L2) (k:Nat) sk tk.de (RR.wp (cF aT (by exact Take.there .here) I) (cH aT bE I) (cE aT cI I) (cq aT c7 I)) dP.wJ.wp Ny.wp dP.Qf.wp rp gl) ?_;rintro ⟨Y0,⟨xv,xp,xf⟩,ly⟩ ⟨hy1,hy2,hy3⟩;dsimp only at hy1 hy2 hy3;dsimp only [Wy.cells,Zb,Za]
    (refine Jv I<|JJ I I<|JJ I I<|Jz I I fun _ _=>ak (.of I) (.of I) .here I I (ix hy3 I) (br I) ai<|Ja I<|Jn<|Jq<|Jr<|Jv I<|JH I<|Jn<|oK I (fun aA=>?_) fun aA=>?_;refine Jr<|ab (aU .nil ai) I<|Jv I<|ak (.of I) (.of I) tW I I (dO I I I I I I) (br I) ai<|Ja I<|Ja I<|Jn<|Ju<|Jm<|Jh<|Jh<|Jm<|Jm<|Jh<|Jh<|Jm<|Jh ?_;rotate_left;refine Jk<|Jg<|Jv I<|Jv I<|ab (bU .here) I<|bD I I ae<|JL I lA I ?_;rotate_right)
    ·have hf:Y0=false:=by simpa using aA
     subst hf;have e1:mB r tk (k+1) L=none:=by rw [hs2,yQ (hy2 I)];rfl
     have e2:iJ r (cU l) (oR r (cU l)) (i+1)=none:=by rw [TN];exact y9 e1 (by omega)
     have e3:=tt e2 (m:=(cU l).length) (by omega);have e4:fX r (cU l)=(Ro.nil,((i:Nat):Int),18):=by
      unfold fX;rw [if_neg Xu];show (match iJ r (cU l) (oR r (cU l)) (cU l).length with | none=>(Ro.nil,((Ev r (cU l) (oR r (cU l)):Nat):Int),(18:Int)) | some po=>(r.wp po,0,0))=_
      rw [e3,hrf e2]
     rw [e4];dsimp only;refine aJ 186 2 ?_;refine aJ 90 3 ?_;refine aJ 187 3 ?_;refine aJ 188 3 ?_
     with_reducible first|apply aO|apply aP
     case he=>exact ki I inferInstance I c7 ai (by rfl) (by rfl) (by rfl)
     case hR=>
      intro w' aB;exact aC (.z,.z,.z,.z) trivial (by exact .cons cI (.cons bE (.cons (.there .here) (.h1 .nil)))) aB I
    have hf:Y0=true:=by simpa using aA
    subst hf;obtain ⟨hle,Uc⟩:=hy1 rfl;have hwp:=yP hle;have PI:(dJ r L2 (k:Nat) sk).least (ll r tk.de) xp:=hle;have gS:mB r tk (k+1) L=some (kV r L2 (k:Nat) sk xp tk.de):=by rw [hs2,hwp];rfl
    have hVn:=Cy dP ⟨j1,j2⟩ Ny rp gl Bg PI;have hxp:∀ i∈xp,i<r.ti.length:=Wn.sq PI.1;have Pu:xp.length<=6:=by have:=Wn.ri PI.1;show _<=_;have h6:(dJ r L2 (k:Nat) sk).n=r.ti.length:=rfl;omega
    refine Hd Uc (by exact Take.there .here) fun oY=>?_
    with_reducible apply eH (As:=[JP b8 r s1 d1 t1 KG,J1 r s1,J2 r d1,J3 r t1,row 188 3 KG L2.length (eF L2),row 3 1 xv xp.length (gR xp)])
    case hr=>exact DS
    case hd=>rfl
    case ht=>exact .cons cI (.cons cI (.cons cI (.cons cI (.cons cI (.h1 .nil)))))
    case hc=>
     intro w1 Bt aT uN hs1 Ds ku;exact VL (r:=r) (s:=s1) (d:=d1) (t:=t1) (p:=KG) (b:=b8) (po:=L2) xf (k:Nat) sk tk.de uN hs1 c6 (by omega) (by omega) dP.Qf hxp Ny.out gl hVn.rV
    intro p3 _;dsimp only [id_eq,Zb,Za];unfold RB PB;generalize kV r L2 (k:Nat) sk xp tk.de=L3 at *;refine Jx<|Jj<|Jt<|Jg<|JB I (by omega)<|Jv I<|Jn ?_;apply aG (k+1,p3,L3) ⟨by show k+1<=_;omega,gS⟩ (by show tk.so.length-(k+1)<tk.so.length-k;omega)
    case hs1=>exact bT
    case ht=>exact jv
   ·have e:k=tk.so.length:=by omega
    subst e;refine Jr<|JA I<|Jn<|Jq<|Jc I fun aA=>Jp<|Jl<|Jo<|Jj<|Jt<|Jg<|JB I (by omega)<|Jv I<|Jn ?_;refine ct (E:=9) (sz:=1) (g:=gu) nR hu1 TF hu3 hu4 ?_;refine ct (E:=32) (sz:=1) (g:=gh) nR hh1 hh2 hh3 hh4 ?_;have Yx:(aR (cZ r tk.de)).length=r.lv.toNat:=by rw [dx,Ul]
    with_reducible apply yW (E:=9) (vs:=pK) (xs:=l.map fun y=>aR (cZ r y.tk.de)) (v:=.w gu r.lv.toNat uc) (x:=aR (cZ r tk.de)) (n:=r.lv.toNat) i
    case ht=>exact tV
    case ht2=>exact tV
    case ht3=>exact Take.there .here
    case hv=>exact hu
    case hn=>exact Yx
    case hx=>exact Wi
    case k=>
     have hne:iJ r (cU l) (oR r (cU l)) (i+1)=some L2:=by rw [TN,qB]
     apply aG (i+1,KG,L2) ⟨by show i+1<=_;omega,hne,Ny⟩ (by show l.length-(i+1)<l.length-i;omega)
     case hs1=>exact bT
     case ht=>exact .cons bE (.cons bE (.cons bE (.cons bE (.cons bE (.cons (.there .here) (.h2 .nil))))))
  ·have e:i=l.length:=by omega
   subst e;refine Jr<|JA I<|Jn<|Jq<|Jc I fun aA=>Jp<|Jl<|Jo<|Jt<|Jr<|ab (bU .here) I ?_;have e4:fX r (cU l)=(r.wp L,0,0):=by
    unfold fX;rw [if_neg Xu];show (match iJ r (cU l) (oR r (cU l)) (cU l).length with | none=>(Ro.nil,((Ev r (cU l) (oR r (cU l)):Nat):Int),(18:Int)) | some po=>(r.wp po,0,0))=_
    rw [uu,hL]
   rw [e4];dsimp only;refine aK (E:=188) (sz:=3) (v:=pv) c7 fun _ _ e=>?_;have k5:pv.oneCell'=true:=by rw [e];rfl
   clear e
   (refine ak (.of I) (.of I) tV I I (dO I I k1 k2 k3 k5) (br I) ai<|Ja I<|Ja I<|Jn<|Je ?_)
   with_reducible first|apply aO|apply aP
   case he=>exact ki I inferInstance I .here ai (by rfl) (by rfl) (by rfl)
   case hR=>
    intro w' aB;exact aC (s1,d1,t1,pv) trivial (by exact .cons bE (.cons bE (.cons bE (.cons bE .nil)))) aB I
def jX (r:Ro) (l:List Tk):Ro×Int×Int:=if fm r≠0 then (Ro.nil,0,fm r) else if Ck r l≠0 then (Ro.nil,0,Ck r l) else fX r l
theorem Ec (l:List gW):∀ r∈jP l,r.length=2:=fun r hr=>by obtain ⟨x,_,rfl⟩:=Zw.1 hr;rfl
theorem nB {c:Cx} {hs hs':List bd} {E:TypeId} {v:Value} (hm:Mem c hs w) (ht:Take hs (row E 2 v n (jP l).flatten) hs') (hn:l.length=n):Rd w v 2 (jP l):=hm.qY ht I (Ec l) (by rw [eY,hn])
theorem bo (l m:List bd):bj (l++m) l m:=qp [] l m
theorem dF {c:Cx} {D:List Nat} {sl:aN} {hs hs':List bd} {X:Act->World->Prop} {r:Ro} {s d t p:Value} (ht:bj hs (nV r (s,d,t,p)) hs')
  (k:s.oneCell'=true->d.oneCell'=true->t.oneCell'=true->p.oneCell'=true->Tr c D sl (J1 r s::J2 r d::J3 r t::J4 r p::hs') X):Tr c D sl hs X:=by
 intro a w bb;have hm:=bb.mem.jA (ht.append (nF D));have k2:Tr c D sl (J1 r s::J2 r d::J3 r t::J4 r p::hs') X:=by
  refine aK (E:=186) (sz:=2) (v:=s) .here fun _ _ e=>?_;have k1:s.oneCell'=true:=by rw [e];rfl
  clear e;refine aK (E:=90) (sz:=3) (v:=d) (.there .here) fun _ _ e=>?_;have k2:d.oneCell'=true:=by rw [e];rfl
  clear e;refine aK (E:=187) (sz:=3) (v:=t) bE fun _ _ e=>?_;have k3:t.oneCell'=true:=by rw [e];rfl
  clear e;refine aK (E:=188) (sz:=3) (v:=p) cI fun _ _ e=>?_;have k4:p.oneCell'=true:=by rw [e];rfl
  clear e;exact k k1 k2 k3 k4
 exact k2 a w (bb.heap hm)
set_option maxHeartbeats 1000000 in
theorem BS {r:Ro} {s d t p kv:Value} (h:RR w r s d t p) (c6:mX r) (hw:Rd w kv 2 (jP l)) (hM:vK w l) :
  a8 T_ 45 [RA r s d t p,kv] w [] (fun _:Value×Value×Value×Value=>True) (fun x=>.tuple #[RA (jX r (cU l)).1 x.1 x.2.1 x.2.2.1 x.2.2.2,.q (jX r (cU l)).2.1,.q (jX r (cU l)).2.2]) (fun x=>nV (jX r (cU l)).1 x):=by
 obtain ⟨h1,h2,h3,h4⟩:=h.one;have YM:=Rd.one hw;have fP:∀ w',aI [] w w'->an T_ 34 [.agg #[.int .i64 r.lv,.int .i64 r.ma,s,d,t,p]] w' (.int .i64 (fm r)):=fun w' hk=>ei (h.keeps hk) c6
 have htk:∀ w',aI [] w w'->an T_ 164 [.agg #[.q r.lv,.q r.ma,s,d,t,p],kv] w' (.q (Ck r (cU l))):=fun w' hk=>sR (h.keeps hk) (hw.keeps hk) (hM.keeps hk)
 unfold RA;refine aS func45 I I ?_
 (refine Jr<|Jy I I fun _ _=>Jz I I fun _ _=>Ja I<|Ja I<|Jn<|Jq<|Jr<|ab (bU (.there .here)) I<|ah bJ I (fun w' aB=>(fP w' (Mem.keeps aB)))<|Ja I<|Ji<|Jv I<|JD I<|Jn<|gL I (fun aA=>?_) fun aA=>?_;refine Jr<|ab (aU .nil ai) I<|Jv I<|ak (.of I) (.of I) .here I I (dO I I I I I I) (br I) ai<|Ja I<|Ja I<|Jn<|Ju ?_;rotate_left;refine Jk<|Jq<|Jr<|ab (bU (.there .here)) I<|Jv I<|ah bn I (fun w' aB=>(htk w' (Mem.keeps aB)))<|Ja I<|Ji<|Jv I<|JD I<|Jn<|gL I (fun aA=>?_) fun aA=>?_;refine Jr<|ab (aU .nil ai) I<|Jv I<|ak (.of I) (.of I) .here I I (dO I I I I I I) (br I) ai<|Ja I<|Ja I<|Jn<|Ju ?_;rotate_left;refine Jk<|Jr<|ab (bU (.there .here)) I<|Jv I ?_;rotate_right;rotate_right)
 ·have e:jX r (cU l)=(Ro.nil,0,fm r):=if_pos aA;rw [e];dsimp only;refine aJ 186 2<|aJ 90 3<|aJ 187 3<|aJ 188 3 ?_
  with_reducible first|apply aO|apply aP
  case he=>exact ki I inferInstance I c7 ai (by rfl) (by rfl) (by rfl)
  case hR=>
   intro w' aB;exact aC (.z,.z,.z,.z) trivial (by exact .cons cI (.cons bE (.cons (.there .here) (.h1 .nil)))) aB I
 ·have e:jX r (cU l)=(Ro.nil,0,Ck r (cU l)):=by unfold jX;rw [if_neg (by assumption),if_pos aA]
  rw [e];dsimp only;refine aJ 186 2<|aJ 90 3<|aJ 187 3<|aJ 188 3 ?_
  with_reducible first|apply aO|apply aP
  case he=>exact ki I inferInstance I c7 ai (by rfl) (by rfl) (by rfl)
  case hR=>
   intro w' aB;exact aC (.z,.z,.z,.z) trivial (by exact .cons cI (.cons bE (.cons (.there .here) (.h1 .nil)))) aB I
 have B0:fm r=0:=Zq.1 (by assumption);have TH:Ck r (cU l)=0:=Zq.1 aA;have e:jX r (cU l)=fX r (cU l):=by unfold jX;rw [if_neg (not_not_intro B0),if_neg (not_not_intro TH)]
 have dP:=yn B0;have hf:=j5 dP dP.val;rw [e];refine JN bn I (fun w1 aT=>Ao (h.keeps aT.keeps) dP (by omega) (hw.keeps aT.keeps) (hM.keeps aT.keeps) (Am.1 TH).2) ?_;generalize fX r (cU l)=R;obtain ⟨R,at_,e_⟩:=R;rintro ⟨s1,d1,t1,p1⟩ _;dsimp only;unfold RA;refine dF (r:=R) (s:=s1) (d:=d1) (t:=t1) (p:=p1) (bo _ _) fun k1 k2 k3 k4=>?_
 (refine JJ I I<|JJ I I<|JJ I I<|ak (.of I) (.of I) c7 I I (dO I I k1 k2 k3 k4) (br I) ai<|Ja I<|Ja I<|Jn<|Je ?_)
 with_reducible first|apply aO|apply aP
 case he=>exact ki I inferInstance I .here ai (by rfl) (by rfl) (by rfl)
 case hR=>
  intro w' aB;exact aC (s1,d1,t1,p1) trivial (by exact .cons (.there .here) (.cons (.there .here) (.cons (.there .here) (.cons (.there .here) .nil)))) aB I
set_option maxHeartbeats 1000000 in
theorem QD {r:Ro} {s d t p:Value} (h:RR w r s d t p) (c6:mX r) (hM:Rd w x.v 1 (fN x.tk.so)) :
  a8 T_ 48 [RA r s d t p,.agg x.cells.toArray] w [] (fun _:Value×Value×Value×Value=>True) (fun y=>.tuple #[RA (jX r [x.tk]).1 y.1 y.2.1 y.2.2.1 y.2.2.2,.q (jX r [x.tk]).2.2]) (fun y=>nV (jX r [x.tk]).1 y):=by
 obtain ⟨h1,h2,h3,h4⟩:=h.one;have YM:=Rd.one hM;unfold RA gW.cells;refine aS func48 I I ?_
 (refine Jr<|Jy I I fun _ _=>Jy I I fun _ _=>Jz I I fun _ _=>Ja I<|Ji<|ab (bU bE) I<|ab (bU (.there .here)) I<|bh (bz (.o I .nil) I I bI bI ai) I fun _ _=>?_)
 rename_i b2 sJ b3 rz b4 sH bq mV;refine bP (g:=bq) (E:=78) (xs:=[.string x.tk.de,x.v]) (ys:=(jP [x]).flatten) 1 2 (by exact .here) (by exact I) I I ?_
 with_reducible apply jd
 case hr=>exact bn
 case hd=>rfl
 case ht=>exact bj.nil
 case hc=>
  intro w1 fp aT _ hs1;obtain rfl:fp=[]:=hs1;have hR:Rd w1 (.slice (some ⟨bq,0,none⟩) 1 1) 2 (jP [x]):=nB (l:=[x]) aT (by exact .here) (by exact I);exact BS (l:=[x]) (h.keeps aT.keeps) c6 hR (fun y hy=>by rw [ZD.1 hy];exact hM.keeps aT.keeps)
 rw [show cU [x]=[x.tk] from I];generalize jX r [x.tk]=R;obtain ⟨R,at_,e_⟩:=R;rintro ⟨s1,d1,t1,p1⟩ _;dsimp only;unfold RA;refine dF (r:=R) (s:=s1) (d:=d1) (t:=t1) (p:=p1) (bo _ _) fun k1 k2 k3 k4=>?_
 (refine Jv I<|JJ I I<|JJ I I<|JJ I I<|Jz I I fun _ _=>ak (.of I) (.of I) .here I I (dO I I k1 k2 k3 k4) (br I) ai<|Ja I<|Ja I<|Ji<|ab (bU .here) I<|Jv I<|ak (.of I) (.of I) nR I I (dO I I k1 k2 k3 k4) (br I) ai<|Ja I<|Jn<|Je ?_)
 with_reducible first|apply aO|apply aP
 case he=>exact kl I inferInstance I .here ai (by rfl) (by rfl)
 case hR=>
  intro w' aB;exact aC (s1,d1,t1,p1) trivial (by exact .cons bE (.cons bE (.cons bE (.cons bE .nil)))) aB I
theorem kN (cs:List Value) (o:Nat) (v:Value) (h:o<cs.length):setCells cs o [v]=cs.set o v:=by
 simp [setCells]
theorem FU (L:List ByteArray) (cur:List Value) {k:Nat} (h:k<L.length) (v:ByteArray):setCells (aR L++cur) (k*1) [.string v]=aR (L.set k v)++cur:=by
 rw [Zan,kN _ _ _ (by rw [Zg,dx];omega),Zbr _ _ (by rw [dx];exact h)];unfold aR;rw [List.map_set]
theorem rT (L:List ByteArray) (cur:List Value) {k:Nat} (h:k<L.length):(aR L++cur)[k*1]? = some (.string L[k]):=by
 rw [Zan,Zx (by rw [dx];exact h)];unfold aR;rw [ZG,Zc h];rfl
def B7 (r:Ro) (t:Tk) (k:Nat):ByteArray:=if t.at k=⟨#[]⟩ then ⟨#[]⟩ else if jY r (k:Nat) t.de=⟨#[]⟩ then dash else jY r (k:Nat) t.de
def lC (r:Ro) (t:Tk) (k:Nat):List ByteArray:=(List.range r.lv.toNat).map fun i=>if i<k then B7 r t i else jY r (i:Nat) t.de
theorem lY (r:Ro) (t:Tk) (k:Nat):(lC r t k).length=r.lv.toNat:=by unfold lC;simp
theorem G3 (r:Ro) (t:Tk):lC r t 0=cZ r t.de:=by unfold lC cZ;simp
theorem JM (r:Ro) (t:Tk):lC r t r.lv.toNat=(yb r t).so:=by
 unfold lC yb;refine Zbt fun i hi=>?_;rw [if_pos (ZU.1 hi)];rfl
theorem Ah {r:Ro} {k i:Nat} (h:i<r.lv.toNat):(lC r t k)[i]? = some (if i<k then B7 r t i else jY r (i:Nat) t.de):=by
 unfold lC;rw [ZG,List.getElem?_range h];rfl
theorem Js {r:Ro} (h:k<(lC r t k).length):(lC r t k)[k]=jY r (k:Nat) t.de:=by
 have h1:=Zc h;rw [Ah (by rw [lY] at h;exact h),if_neg (Nat.lt_irrefl _)] at h1;exact (Option.some.inj h1).symm
theorem Jf {r:Ro} (h:k<r.lv.toNat):(lC r t k).set k (B7 r t k)=lC r t (k+1):=by
 apply Zat;intro i;rw [List.getElem?_set];by_cases hi:i<r.lv.toNat
 ·rw [Ah hi,Ah hi,lY];by_cases e:k=i
  ·subst e;rw [if_pos I,if_pos hi,if_pos (Nat.lt_succ_self _)]
  ·rw [if_neg e];by_cases e2:i<k
   ·rw [if_pos e2,if_pos (by omega)]
   ·rw [if_neg e2,if_neg (by omega)]
 ·have e1:(lC r t k)[i]? = none:=Zal (by rw [lY];omega);have e2:(lC r t (k+1))[i]? = none:=Zal (by rw [lY];omega);rw [if_neg (by omega),e1,e2]
theorem G4 {r:Ro} (h:B7 r t k=jY r (k:Nat) t.de):lC r t (k+1)=lC r t k:=by
 unfold lC;refine Zbt fun i _=>?_;by_cases e:i=k
 ·subst e;rw [if_pos (Nat.lt_succ_self _),if_neg (Nat.lt_irrefl _),h]
 ·by_cases e2:i<k
  ·rw [if_pos e2,if_pos (by omega)]
  ·rw [if_neg e2,if_neg (by omega)]
set_option maxHeartbeats 1000000 in
theorem Sm {r:Ro} {s d t p:Value} {b:Nat} (h:RR w r s d t p) (hA:BR w b (RC r s d t p)) (tb:1<=r.lv/\r.lv<=1000) (c6:r.ti.length<=1000000) (hx:Rd w x.v 1 (fN x.tk.so)) (Pu:(x.tk.so.length:Int)=r.lv) :
  a8 T_ 167 [.agg x.cells.toArray,.p b] w [] (fun _:Value=>True) (fun v=>.agg #[.string x.tk.de,v]) (fun v=>[row 9 1 v r.lv.toNat (aR (yb r x.tk).so)]):=by
 obtain ⟨h1,h2,h3,h4⟩:=h.one;have lg:∀ (j:Nat) (u:Value),[Value.int .i64 r.lv,.int .i64 r.ma,s,d,t,p][j]? = some u->w.cell? ⟨b,0+j,none⟩=some u:=hA;clear hA;unfold gW.cells;obtain ⟨tk,tv⟩:=x;dsimp only at *;obtain ⟨sa,Ir,sb,Ol,rfl,Gm,sA,Pz,HK⟩:=hx;rw [bG] at *;unfold maxLen at sA;refine aS func167 I I ?_
 (refine Jr<|Jy I I fun _ _=>Jz I I fun _ _=>Ji<|ab (ja (fo.base lg I)) I<|bD I I ae<|JL I (.there .here) I ?_)
 rename_i b2 aiv b3 ait;refine JN bn I (fun w1 aT=>xe tk.de (h.keeps aT.keeps) tb.2 c6) ?_;intro v _;dsimp only [id_eq,Zb,Za];have nX:=lY r tk;rw [<- G3];refine cm (E:=9) (sz:=1) (v:=v) (by exact .here) (by omega) fun gb cap cur e tJ sJ rz sH=>?_;subst e
 (refine Ja I<|Jn<|Jq<|Jr<|bD I I ae<|JL I bE I<|JI I<|Jv I<|Jn<|J0 ?_)
 refine aV (ι:=Nat×List ByteArray) (fun y=>y.1<=tk.so.length/\y.2=lC r tk y.1) (fun y=>[(14,.q (y.1:Nat)),(13,.q (tk.so.length:Nat)),(12,.slice sa tk.so.length Ir),(4,.w gb r.lv.toNat cap),(3,.p b3),(2,.p b2)])
  (fun y=>[bu gb (.cells (aR y.2++cur).toArray 9 (0,0)),bu b3 (.cells #[.string ⟨#[]⟩,.z] 78 (0,0)),bu b2 (.cells #[.string tk.de,.slice sa tk.so.length Ir] 78 (0,0))]) (fun y=>tk.so.length-y.1) ?_ ?_
 ·apply aH (0,lC r tk 0) ⟨Zi _,I⟩
  case hs1=>exact bT
  case ht=>exact jv
 rintro ⟨k,L⟩ ⟨hk,hL⟩;dsimp only at hk hL ⊢;have Dr:L.length=r.lv.toNat:=by rw [hL,lY]
 have iZ:(aR L++cur).length=cap*1:=by
  rw [Zg,dx] at rz ⊢;rw [lY] at rz;omega
 by_cases aL:k<tk.so.length
 ·have Bb:=Pz (iU aL);have Ba:w.cell? ⟨sb,Ol+k*1,none⟩=some (.string tk.so[k]):=(HK k _ (fH aL)).2 0 _ I;have PK:k<L.length:=by omega
  have fP:L[k]=jY r (k:Nat) tk.de:=by subst hL;exact Js PK
  have c1:=rT L cur PK;rw [fP] at c1;have p1:=FU L cur PK ⟨#[]⟩;have p2:=FU L cur PK ⟨#[45]⟩;have hle:k*1+1<=(aR L++cur).length:=by omega
  have YM:k<r.lv.toNat:=by omega
  have fZ:tk.at k=tk.so[k]:=by unfold Tk.at;rw [Zk,Zc aL];rfl
  have hF:B7 r tk k=if tk.so[k]=⟨#[]⟩ then ⟨#[]⟩ else if jY r (k:Nat) tk.de=⟨#[]⟩ then dash else jY r (k:Nat) tk.de:=by unfold B7;rw [fZ]
  have qN:∀ u,B7 r tk k=u->L.set k u=lC r tk (k+1):=fun u hu=>by rw [<- hu,hL];exact Jf YM
  have LF:B7 r tk k=jY r (k:Nat) tk.de->L=lC r tk (k+1):=fun hu=>by rw [hL,G4 hu]
  generalize jY r (k:Nat) tk.de=ck at *;generalize tk.so[k]=sk at *
  (refine Jr<|JA I<|Jn<|Jq<|Jd I fun aA=>Jk<|Jq<|J0<|Jr<|Jv I<|ab (ao (.of I) (.of I) Bb (by omega) aA aW) I ?_;refine ab (ag (.of I) (At.base Ba I)) I ?_;refine Ja I<|Ja I<|Ji<|Jv I<|ab (dD (.of I) (.of I)) I ?_;refine Jn<|gL I (fun aA=>?_) fun aA=>?_;refine Jg<|Jv I<|Jv I<|ab (ao (.of I) (.of I) I (by omega) (by omega) aW) I ?_;refine ak (.of I) (.of I) .here I I (dE I) hle p1 ?_;refine Jx<|Jj<|Jt<|Jg<|JB I (by omega)<|Jv I<|Jn ?_;rotate_left;refine Jr<|Jv I<|Jv I<|ab (ao (.of I) (.of I) I (by omega) (by omega) aW) I ?_;refine ab (ag (.of I) (At.kB .here c1)) I ?_;refine ab (dD (.of I) (.of I)) I ?_;refine Jn<|gL I (fun aA=>?_) fun aA=>?_;refine Jg<|Jv I<|Jv I<|ab (ao (.of I) (.of I) I (by omega) (by omega) aW) I ?_;refine ak (.of I) (.of I) .here I I (dE I) hle p2 ?_;refine Jx<|Jj<|Jt<|Jg<|JB I (by omega)<|Jv I<|Jn ?_;rotate_left;refine Jw<|Jj<|Jt<|Jg<|JB I (by omega)<|Jv I<|Jn ?_;rotate_right;rotate_right)
  ·rw [if_pos aA] at hF;rw [qN _ hF];apply aG (k+1,lC r tk (k+1)) ⟨by show k+1<=_;omega,I⟩ (by show tk.so.length-(k+1)<tk.so.length-k;omega)
   case hs1=>exact bT
   case ht=>exact jv
  ·rw [if_neg (by assumption),if_pos aA] at hF;have hq:L.set k ⟨#[45]⟩=lC r tk (k+1):=qN _ hF;rw [hq];apply aG (k+1,lC r tk (k+1)) ⟨by show k+1<=_;omega,I⟩ (by show tk.so.length-(k+1)<tk.so.length-k;omega)
   case hs1=>exact bT
   case ht=>exact jv
  ·rw [if_neg (by assumption),if_neg aA] at hF;apply aG (k+1,L) ⟨by show k+1<=_;omega,LF hF⟩ (by show tk.so.length-(k+1)<tk.so.length-k;omega)
   case hs1=>exact bT
   case ht=>exact jv
 ·have e:k=tk.so.length:=by omega
  subst e;have sG:L=(yb r tk).so:=by rw [hL,<- JM];congr 1;omega
  (refine Jr<|JA I<|Jn<|Jq<|Jc I fun aA=>Jp<|Jl<|Jo<|Jt<|Jr<|bD I I ae<|JL I bE I<|Jv I<|ab (aU (.o I (.o I .nil)) ai) I<|ak (.of I) (.of I) (.there .here) I I (ix I I) (br I) ai<|Jn<|Je ?_)
  subst sG;have TE:(aR (yb r tk).so).length=r.lv.toNat*1:=by rw [dx,Dr,Zan]
  refine ct (n:=r.lv.toNat) (xs:=aR (yb r tk).so) (cap:=cap) (g:=gb) (E:=9) (sz:=1) (by exact Take.there .here) tJ sJ iZ TE ?_
  with_reducible first|apply aO|apply aP
  case he=>exact ig I inferInstance I (.there .here) ai (by rfl)
  case hR=>
   intro w' aB;exact aC (.w gb r.lv.toNat cap) trivial (by exact .h1 .nil) aB I
def NW (W:List gW):bd:=iM 9 (W.map gW.v) (W.map fun y=>aR y.tk.so)
theorem NV:iM 9 [] []=NW []:=rfl
theorem FN (W:List gW) (y:gW):(jP (W++[y])).flatten=(jP W).flatten++[.string y.tk.de,y.v]:=by
 unfold jP;simp [gW.cells]
theorem Tj {kv:Value} {g:Tk->Tk} {f:FuncId} {first cap:List Value} [bN T_ f] {w:World} (h:Rd w kv 2 (jP l)) (hM:vK w l) (hn:l.length<=1000) (hg:∀ x∈l,(g x.tk).so.length=n)
  (cV:∀ x∈l,∀ w',aI [] w w'->a8 T_ f (first++[.agg x.cells.toArray]++cap) w' [] (fun _:Value=>True) (fun v=>.agg #[.string (g x.tk).de,v]) (fun v=>[row 9 1 v n (aR (g x.tk).so)])) :
  a8 T_ 166 [kv,.func (.func f) first.toArray cap.toArray] w [] (fun x:Value×List gW=>cU x.2=(cU l).map g) (fun x=>x.1) (fun x=>[row 78 2 x.1 x.2.length (jP x.2).flatten,NW x.2]):=by
 obtain ⟨a,cp,b,o,rfl,dC,ch,ha,hc⟩:=h;rw [eY] at *;unfold maxLen at ch;refine aS func166 I I ?_;refine Jr<|Ja I<|Ji<|Ja I<|Jn<|Jq<|Jr<|Jv I<|JI I<|Jv I<|Jn<|J0 ?_;refine aJ 78 2 ?_;refine kE 9 ?_
 refine aV (ι:=Nat×Value×List gW) (fun x=>x.1<=l.length/\cU x.2.2=(cU (l.take x.1)).map g) (fun x=>[(10,.q (x.1:Nat)),(9,.q (l.length:Nat)),(8,.slice a l.length cp),(5,x.2.1),(1,.func (.func f) first.toArray cap.toArray)])
  (fun x=>[row 78 2 x.2.1 x.2.2.length (jP x.2.2).flatten,iM 9 (x.2.2.map gW.v) (x.2.2.map fun y=>aR y.tk.so)]) (fun x=>l.length-x.1) ?_ ?_
 ·apply aH (0,.z,[]) ⟨Zi _,I⟩
  case hs1=>exact bT
  case ht=>
   exact .cons (.there .here) (.h1 .nil)
 rintro ⟨k,v,W⟩ ⟨hk,hW⟩;dsimp only at hk hW ⊢;have Ry:W.length=k:=by
  have:=congrArg List.length hW;unfold cU at this;rw [Zd,Zd,Zd,Zs] at this;omega
 by_cases aL:k<l.length
 ·have cY:=ha (lo aL);have aF:=(hc k _ (kM aL)).2;have iZ:=cV _ (Zj aL);have Nw:=hg _ (Zj aL);have iO:=Rd.one (hM _ (Zj aL));have htk:(cU (l.take (k+1))).map g=(cU (l.take k)).map g++[g l[k].tk]:=by
   unfold cU;rw [Zm aL,Zy,Zy];rfl
  have uz:(jP W).flatten.length=W.length*2:=by rw [fU (Ec W),eY]
  unfold gW.cells at aF iZ;refine aK (E:=78) (sz:=2) (v:=v) (by exact .here) fun va vc e=>?_;subst e
  (refine Jr<|JA I<|Jn<|Jq<|Jd I fun aA=>Jk<|Jq<|J0<|Jr<|ab (gE cY aA) I<|ab (ja (fo.base aF I)) I<|Jz I I fun _ _=>ak (.of I) (.of I) .here I I (ix I iO) (br I) ai<|Jn<|Jg<|Jv I<|Jv I<|ab (bU .here) I ?_)
  refine JN bJ I (fun w1 aT=>iZ w1 aT.keeps) ?_;intro hv _;dsimp only [id_eq,Zb,Za];refine aK (E:=9) (sz:=1) (v:=hv) (by exact .here) fun jU kg e=>?_;subst e;refine bh (bz (.o I .nil) I I bI bI ai) I (fun _ _=>?_);refine bA (.of I) (.of I) cI .here ai (by rfl) (ix I I) (by rfl) (by rfl) (by rfl) eC (by rfl) ?_;intro v';refine Ja I<|Jx<|Jj<|Jt<|Jg<|JB I (by omega)<|Jv I<|Jn ?_;have hpn:(aR (g l[k].tk).so).length=n:=by rw [dx,Nw]
  with_reducible apply lZ (E:=9) (vs:=W.map gW.v) (xs:=W.map fun y=>aR y.tk.so) (v:=.slice jU n kg) (x:=aR (g l[k].tk).so) (n:=n)
  case ht=>exact c7
  case ht2=>exact bE
  case hn=>exact hpn.symm
  case hl=>rw [Zd,Zd]
  case k=>
   apply aG (k+1,v',W++[⟨g l[k].tk,.slice jU n kg⟩]) ⟨by show k+1<=_;omega,by
    show cU (W++[_])=_;unfold cU at hW htk ⊢;rw [Zy,hW];exact htk.symm⟩ (by show l.length-(k+1)<l.length-k;omega)
   case hs1=>exact bT
   case ht=>
    dsimp only;rw [FN,Zg,Zy,Zy];simp only [Z4,Zf,ZB,Zaf,ZF];exact .cons (.there .here) (.h1 .nil)
 ·have e:k=l.length:=by omega
  rw [e,ZL] at hW;refine aK (E:=78) (sz:=2) (v:=v) (by exact .here) fun va vc e=>?_;subst e;refine Jr<|JA I<|Jn<|Jq<|Jc I fun aA=>Jp<|Jl<|Jo<|Jt<|Jr<|Jv I<|Ja I<|Jn<|Je ?_
  with_reducible first|apply aO|apply aP
  case he=>exact dN I I
  case hR=>
   intro w' aB;exact aC (.slice va W.length vc,W) hW (by exact .h2 .nil) aB I
def NS (r:Ro) (l:List Tk):List Tk:=if (jX r l).2.2≠0 then [] else l.map (yb r)
set_option maxHeartbeats 1000000 in
theorem M5 {r:Ro} {s d t p kv:Value} (h:RR w r s d t p) (c6:mX r) (hw:Rd w kv 2 (jP l)) (hM:vK w l) :
  a8 T_ 47 [RA r s d t p,kv] w [] (fun x:Value×List gW=>cU x.2=NS r (cU l)) (fun x=>.tuple #[x.1,.q (jX r (cU l)).2.2]) (fun x=>[row 78 2 x.1 x.2.length (jP x.2).flatten,NW x.2]):=by
 obtain ⟨h1,h2,h3,h4⟩:=h.one;have YM:=Rd.one hw;unfold RA;refine aS func47 I I ?_
 (refine Jr<|Jy I I fun _ _=>Ja I<|Ja I<|Jn<|Jq<|Jr<|ab (bU .here) I<|Jv I ?_)
 rename_i b2 sJ;refine JN bn I (fun w1 aT=>BS (h.keeps aT.keeps) c6 (hw.keeps aT.keeps) (hM.keeps aT.keeps)) ?_;have HP:NS r (cU l)=if (jX r (cU l)).2.2≠0 then [] else (cU l).map (yb r):=rfl
 have TK:(jX r (cU l)).2.2=0->fm r=0/\Ck r (cU l)=0:=fun h0=>by
  unfold jX at h0;by_cases c1:fm r=0
  ·rw [if_neg (not_not_intro c1)] at h0;by_cases c2:Ck r (cU l)=0
   ·exact ⟨c1,c2⟩
   ·rw [if_pos c2] at h0;exact absurd h0 c2
  ·rw [if_pos c1] at h0;exact absurd h0 c1
 by_cases BZ:(jX r (cU l)).2.2=0
 ·obtain ⟨B0,TH⟩:=TK BZ;have dP:=yn B0;have hT:=(Am.1 TH).2;have tb:=dP.lim;have vz:=dP.len;rw [if_neg (not_not_intro BZ)] at HP;rw [HP];clear HP TK;generalize jX r (cU l)=R at *;obtain ⟨R,at_,e_⟩:=R;dsimp only at BZ;subst BZ;rintro ⟨s1,d1,t1,p1⟩ _;dsimp only;unfold RA;refine dF (r:=R) (s:=s1) (d:=d1) (t:=t1) (p:=p1) (bo _ _) fun k1 k2 k3 k4=>?_
  (refine Jv I<|JJ I I<|JJ I I<|JJ I I<|Jz I I fun _ _=>ak (.of I) (.of I) .here I I (dO I I k1 k2 k3 k4) (br I) ai<|Ja I<|Ja I<|Ji<|Jv I<|JD I<|Jn<|Jc I fun aA=>Jk<|Jr<|Jv I<|ab (bC .nil (.o I .nil)) I ?_)
  with_reducible apply jd
  case hr=>exact bn
  case hd=>rfl
  case ht=>exact bj.nil
  case hc=>
   intro w1 fp aT _ hs1;obtain rfl:fp=[]:=hs1;have hA:BR w1 b2 [.int .i64 r.lv,.int .i64 r.ma,s,d,t,p]:=BR.of aT ek;have hR:=h.keeps aT.keeps;have hK:=hM.keeps aT.keeps;have T0:=hT.B2;unfold cU at T0;rw [Zd] at T0;exact Tj (f:=167) (first:=[]) (cap:=[.pointer (some ⟨b2,0,none⟩)]) (g:=yb r) (n:=r.lv.toNat) (hw.keeps aT.keeps) hK (by omega) (fun x _=>by unfold yb;simp) (fun x hx w2 fg=>Sm (hR.keeps fg) (hA.keeps fg) (by omega) (by omega) ((hK x hx).keeps fg) (hT.lv _ (Zaa hx)))
  rintro ⟨v,W⟩ hW;dsimp only at hW ⊢;unfold NW;dsimp only [Zb,Za];refine aK (E:=78) (sz:=2) (v:=v) (by exact .here) fun va vc e=>?_;subst e;refine Ja I<|Ja I<|Jn<|Je ?_
  with_reducible first|apply aO|apply aP
  case he=>exact gD I I I
  case hR=>
   intro w' aB;exact aC (.slice va W.length vc,W) hW (by exact .h2 .nil) aB I
 ·rw [if_pos BZ] at HP;rw [HP];clear HP TK;generalize jX r (cU l)=R at *;obtain ⟨R,at_,e_⟩:=R;dsimp only at BZ;rintro ⟨s1,d1,t1,p1⟩ _;dsimp only;unfold RA;refine dF (r:=R) (s:=s1) (d:=d1) (t:=t1) (p:=p1) (bo _ _) fun k1 k2 k3 k4=>?_
  (refine Jv I<|JJ I I<|JJ I I<|JJ I I<|Jz I I fun _ _=>ak (.of I) (.of I) .here I I (dO I I k1 k2 k3 k4) (br I) ai<|Ja I<|Ja I<|Ji<|Jv I<|JD I<|Jn<|Jd I fun aA=>Jr<|Jv I<|Ja I<|Ja I<|Jn<|Ju ?_)
  refine aJ 78 2 ?_;refine kE 9 ?_;rw [NV]
  with_reducible first|apply aO|apply aP
  case he=>exact gD I I I
  case hR=>
   intro w' aB;exact aC (.z,([]:List gW)) (show cU []=[] from I) (by exact .cons (.there .here) (.h1 .nil)) aB I
end Go.Proofs.A1
