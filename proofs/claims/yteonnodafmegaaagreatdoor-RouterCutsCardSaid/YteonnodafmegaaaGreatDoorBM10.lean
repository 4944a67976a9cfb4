/- Parts of the proof: P5q P5r P5t P5s P5u P5v P5x P5y P5z P6a KY GkMapR KZ GkEnds3 LA P6b GkPoolJ LB LC. -/
import Derived.Test.YteonnodafmegaaaGreatDoorBM09
import Derived.Test.YteonnodafmegaaaGreatDoorBM04
import Derived.Test.YteonnodafmegaaaGreatDoorBM03
import Derived.Laws.IdiomRangeMap
set_option linter.unusedSectionVars false
set_option linter.unusedVariables false
set_option linter.unusedSimpArgs false
namespace Go.Proofs.A1
open Go Go.SL
theorem lu {r:Ro} {W:List Po→Jb→Option (List Nat)}:∀ {a b:List Jb} {po:List Po},rA r W po (a++b)=(rA r W po a).bind fun q=>rA r W q b
 | [],b,po=>rfl
 | j :: a, b, po => by
  rw [Zb,rA,rA]
  cases W po j with
  | none=>rfl
  | some p=>exact lu
def uR (r:Ro) (t:Tk):Nat→List Jb
 | 0=>[]
 | k+1=>uR r t k++if nR r t k then [⟨(k:Nat),t.at k,t.de⟩] else []
def uQ (r:Ro) (l:List Tk):Nat→List Jb
 | 0=>[]
 | i+1=>uQ r l i++uR r (l.getD i Tk.zero) (l.getD i Tk.zero).so.length
def jW (r:Ro) (po:List Po) (j:Jb):Option (List Nat):=if iK (ct r) j.d then qn (r.wp po) j.v j.s j.d else none
theorem KS {r:Ro} {v:Int} {so de:ByteArray} {p:List Nat} (h:qn r v so de=some p):(fj r r.po v so).least (j6 r de) p:=by
 unfold qn at h
 split at h
 ·cases h
 ·rename_i e
  cases h
  exact Wn.Q3 e
theorem NT (r:Ro):∀ po j p,jW r po j=some p→(fj r po j.v j.s).ok p∧(fj r po j.v j.s).fin p=ka r j.d:=by
 intro po j p h
 unfold jW at h
 split at h
 ·rename_i hd
  have hl:=KS h
  exact ⟨hl.1,hl.2.1.trans (IM (r:=r) (fb.1 hd)).symm⟩
 ·cases h
theorem rC {r:Ro} {t:Tk} (ht:t.de∈ct r):∀ (k:Nat) (po:List Po),o6 r t k po=rA r (jW r) po (uR r t k)
 | 0,po=>rfl
 | k + 1, po => by
  rw [o6,uR,lu,rC ht k po]
  congr 1
  funext q
  cases nR r t k with
  | false=>rfl
  | true =>
   rw [if_pos rfl,if_pos rfl,rA]
   unfold jW
   rw [if_pos (fb.2 ht)]
   cases qn (r.wp q) (k:Nat) (t.at k) t.de with
   | none=>rfl
   | some p=>rfl
theorem rB {r:Ro} {l:List Tk} (hl:∀ t∈l,t.de∈ct r) (po:List Po):∀ i,i≤l.length→jv r l po i=rA r (jW r) po (uQ r l i)
 | 0,_=>rfl
 | i + 1, hi => by
  rw [jv,uQ,lu,rB hl po i (by omega)]
  congr 1
  funext q
  refine rC ?_ _ _
  rw [List.getD_eq_getElem?_getD,Zc (by omega)]
  exact hl _ (Zj _)
theorem nV {r:Ro} {t:Tk} {k:Nat} {j:Jb}:j∈uR r t k↔∃ i,i<k∧nR r t i=true∧j=⟨(i:Nat),t.at i,t.de⟩:=by
 induction k with
 | zero=>simp [uR]
 | succ k ih =>
  rw [uR,List.mem_append,ih]
  constructor
  ·rintro (⟨i,h1,h2,h3⟩ | h)
   ·exact ⟨i,by omega,h2,h3⟩
   ·split at h
    ·rename_i hb
     exact ⟨k,by omega,hb,List.mem_singleton.1 h⟩
    ·cases h
  ·rintro ⟨i,h1,h2,h3⟩
   by_cases e:i=k
   ·subst e
    right
    rw [if_pos h2,h3]
    exact List.mem_singleton.2 rfl
   ·exact .inl ⟨i,by omega,h2,h3⟩
theorem nS {r:Ro} {l:List Tk} {i:Nat} {j:Jb} (hi:i≤l.length):j∈uQ r l i↔∃ m,∃ hm:m<i,∃ k,k<(l[m]'(by omega)).so.length∧nR r (l[m]'(by omega)) k=true∧j=⟨(k:Nat),(l[m]'(by omega)).at k,(l[m]'(by omega)).de⟩:=by
 induction i with
 | zero=>simp [uQ]
 | succ i ih =>
  rw [uQ,List.mem_append,ih (by omega),List.getD_eq_getElem?_getD,Zc (show i<l.length by omega),Option.getD_some,nV]
  constructor
  ·rintro (⟨m,hm,h⟩ | h)
   ·exact ⟨m,by omega,h⟩
   ·exact ⟨i,by omega,h⟩
  ·rintro ⟨m,hm,h⟩
   by_cases e:m=i
   ·subst e;exact .inr h
   ·exact .inl ⟨m,by omega,h⟩
def YO (a b:Jb):Prop:=¬(b.v=a.v∧b.d=a.d)
theorem yZ (r:Ro) (t:Tk):∀ k,(uR r t k).Pairwise YO
 | 0=>.nil
 | k + 1 => by
  rw [uR,List.pairwise_append]
  refine ⟨yZ r t k,?_,fun a ha b hb=>?_⟩
  ·split
   ·exact List.pairwise_singleton _ _
   ·exact .nil
  ·split at hb
   ·obtain ⟨i,h1,_,rfl⟩:=nV.1 ha
    rw [List.mem_singleton.1 hb]
    rintro ⟨e,_⟩
    dsimp only at e
    omega
   ·cases hb
theorem xN {l:List Tk} (hn:(l.map Tk.de).Nodup) {i j:Nat} (hi:i<l.length) (hj:j<l.length) (hne:i≠j):l[i].de≠l[j].de:=by
 intro e
 have h:=List.pairwise_iff_getElem.1 hn
 have hl:(l.map Tk.de).length=l.length:=Zd _
 rcases Nat.lt_trichotomy i j with c | c | c
 ·exact h i j (by omega) (by omega) c (by simpa using e)
 ·exact hne c
 ·exact h j i (by omega) (by omega) c (by simpa using e.symm)
theorem yY {r:Ro} {l:List Tk} (hn:(l.map Tk.de).Nodup):∀ i,i≤l.length→(uQ r l i).Pairwise YO
 | 0,_=>.nil
 | i + 1, hi => by
  rw [uQ,List.pairwise_append]
  refine ⟨yY hn i (by omega),yZ r _ _,fun a ha b hb=>?_⟩
  rw [List.getD_eq_getElem?_getD,Zc (show i<l.length by omega),Option.getD_some] at hb
  obtain ⟨m,hm,k,_,_,rfl⟩:=(nS (by omega)).1 ha
  obtain ⟨k',_,_,rfl⟩:=nV.1 hb
  rintro ⟨_,e⟩
  exact xN hn (show i<l.length by omega) (show m<l.length by omega) (by omega) e
theorem kW {r:Ro} {t:Tk} {k:Nat}:np r t k=true↔t.at k≠⟨#[]⟩∧t.at k≠jB r (k:Nat) t.de:=by
 unfold np;simp
theorem mb {r:Ro} {t:Tk} {k:Nat}:nR r t k=true↔t.at k≠⟨#[]⟩∧t.at k≠jB r (k:Nat) t.de∧t.at k≠dash:=by
 unfold nR;rw [Bool.and_eq_true,kW];simp [and_assoc]
theorem Tk.at_mem {t:Tk} {k:Nat} (h:k<t.so.length):t.at k∈t.so:=by
 unfold Tk.at
 rw [List.getD_eq_getElem?_getD,Zc h];exact Zj h
def tQ (r:Ro) (l:List Tk):List Po:=Ae (ct r) (jT r l l.length)
def RP (r:Ro) (l:List Tk) (v:Int) (y:ByteArray):Prop:=∃ t∈l,∃ i,i<t.so.length∧np r t i=true∧v=(i:Nat)∧y=t.de
theorem pT {r:Ro} (h:oF r) {l:List Tk} (hl:Ki r l):iR r (tQ r l)∧(∀ v y,y∈ct r→¬ RP r l v y→ee (tQ r l) v y=ee r.po v y∧qk (tQ r l) v (cm r) y=qk r.po v (cm r) y)∧∀ v y,RP r l v y→ee (tQ r l) v y=none:=by
 obtain ⟨f,hf,e⟩:=DE (ct r) (jT r l l.length)
 have hg:∀ p,(!IL r l l.length p)=true↔¬ RP r l p.lv p.ou:=fun p=>by
  rw [Bool.not_eq_true',← Bool.not_eq_true]
  exact not_congr MW
 unfold tQ
 rw [e,kr] at *
 obtain ⟨k1,k2,k3⟩:=MU (g:=fun p=>!IL r l l.length p) (f:=f) h.yS h.val (fun p hp ht=>(hg p).2 fun ⟨t,htl,i,_,_,_,e5⟩=>h.yS.dt _ (hl.de t htl) (e5 ▸ ht)) hf.sw.de hf.sw.up hf.us
 refine ⟨k1,fun v y hy hd=>k2 v y hy fun p _ e1 e2=>(hg p).2 (by rw [e1,e2];exact hd),fun v y hd=>k3 v y fun p _ e1 e2=>?_⟩
 have:¬ (!IL r l l.length p)=true:=fun q=>(hg p).1 q (by rw [e1,e2];exact hd)
 exact Bool.not_eq_true _ ▸ this
theorem yX {r:Ro} (h:oF r) {l:List Tk} (hl:Ki r l) {t:Tk} (ht:t∈l) {k:Nat} (hk:k<t.so.length) (hj:nR r t k=true):(0≤((k:Nat):Int)∧((k:Nat):Int)<r.lv)∧t.at k∈cm r∧t.de∈ct r∧ee (tQ r l) (k:Nat) t.de=none:=by
 have h1:=hl.lv t ht
 obtain ⟨j1,j2,j3⟩:=mb.1 hj
 refine ⟨by omega,?_,hl.de t ht,(pT h hl).2.2 _ _ ⟨t,ht,k,hk,kW.2 ⟨j1,j2⟩,rfl,rfl⟩⟩
 rcases hl.so t ht _ (Tk.at_mem hk) with e | e | e
 ·exact absurd e j1
 ·exact absurd e j3
 ·exact e
theorem PJ {r:Ro} (h:oF r) {l:List Tk} (hl:Ki r l) {i:Nat} (hi:i<l.length) {k:Nat} (hk:k≤l[i].so.length) {q0 q:List Po} (h0:jv r l (tQ r l) i=some q0) (h1:o6 r l[i] k q0=some q) :
  iR r q∧∀ m,k≤m→m<l[i].so.length→np r l[i] m=true→ee q (m:Nat) l[i].de=none:=by
 have lT:=hl.de l[i] (Zj hi)
 rw [rB hl.de _ i (by omega)] at h0
 rw [rC lT] at h1
 have h2:rA r (jW r) (tQ r l) (uQ r l i++uR r l[i] k)=some q:=by rw [lu,h0];exact h1
 have xD:∀ j∈uQ r l i++uR r l[i] k,∃ m,∃ hm:m<l.length,∃ n,n<l[m].so.length∧nR r l[m] n=true∧j=⟨(n:Nat),l[m].at n,l[m].de⟩∧(m=i→n<k):=by
  intro j hj
  rcases List.mem_append.1 hj with hj | hj
  ·obtain ⟨m,hm,n,e1,e2,e3⟩:=(nS (by omega)).1 hj
   exact ⟨m,by omega,n,e1,e2,e3,fun e=>by omega⟩
  ·obtain ⟨n,e1,e2,e3⟩:=nV.1 hj
   exact ⟨i,hi,n,by omega,e2,e3,fun _=>e1⟩
 obtain ⟨k1,_,k3⟩:=yy h.yS h.nd (NT r) _ _ _ (pT h hl).1 (fun j hj=>by
   obtain ⟨m,hm,n,e1,e2,rfl,_⟩:=xD j hj
   exact yX h hl (Zj hm) e1 e2) (List.pairwise_append.2 ⟨yY hl.nd i (by omega),yZ r _ _,fun a ha b hb=>by
   obtain ⟨m,hm,n,_,_,rfl⟩:=(nS (by omega)).1 ha
   obtain ⟨n',_,_,rfl⟩:=nV.1 hb
   rintro ⟨_,e⟩
   exact xN hl.nd hi (show m<l.length by omega) (by omega) e⟩) h2
 refine ⟨k1,fun m aS lP CX=>?_⟩
 rw [(k3 (m:Nat) l[i].de lT fun j hj ⟨e1,e2⟩=>by
  obtain ⟨x,hx,n,_,_,rfl,e5⟩:=xD j hj
  by_cases c:x=i
  ·subst c
   have:=e5 rfl
   dsimp only at e1
   omega
  ·exact xN hl.nd hx hi c e2.symm).2]
 exact (pT h hl).2.2 _ _ ⟨l[i],Zj hi,m,lP,CX,rfl,rfl⟩
theorem Pc {r:Ro} (h:oF r) {l:List Tk} (hl:Ki r l) {q:List Po} (h0:jv r l (tQ r l) l.length=some q) :
  iR r q∧(∀ v y,y∈ct r→¬ RP r l v y→qk q v (cm r) y=qk r.po v (cm r) y) ∧
  ∀ t∈l,∀ k,k<t.so.length→np r t k=true→qk q (k:Nat) (cm r) t.de=if t.at k=dash then ⟨#[]⟩ else t.at k:=by
 rw [rB hl.de _ _ (Nat.le_refl _)] at h0
 have xD:∀ j∈uQ r l l.length,∃ t∈l,∃ n,n<t.so.length∧nR r t n=true∧j=⟨(n:Nat),t.at n,t.de⟩:=by
  intro j hj
  obtain ⟨m,hm,n,e1,e2,e3⟩:=(nS (Nat.le_refl _)).1 hj
  exact ⟨_,Zj hm,n,e1,e2,e3⟩
 obtain ⟨k1,k2,k3⟩:=yy h.yS h.nd (NT r) _ _ _ (pT h hl).1 (fun j hj=>by
   obtain ⟨t,ht,n,e1,e2,rfl⟩:=xD j hj
   exact yX h hl ht e1 e2) (yY hl.nd _ (Nat.le_refl _)) h0
 have hDr:∀ t∈l,∀ n,n<t.so.length→nR r t n=true→RP r l (n:Nat) t.de:=fun t ht n hn hj=>by
  obtain ⟨j1,j2,_⟩:=mb.1 hj
  exact ⟨t,ht,n,hn,kW.2 ⟨j1,j2⟩,rfl,rfl⟩
 refine ⟨k1,fun v y hy hd=>?_,fun t ht k hk CX=>?_⟩
 ·rw [(k3 v y hy fun j hj ⟨e1,e2⟩=>by
   obtain ⟨t,ht,n,a1,a2,rfl⟩:=xD j hj
   exact hd (by rw [e1,e2];exact hDr t ht n a1 a2)).1]
  exact ((pT h hl).2.1 v y hy hd).2
 ·by_cases Tw:t.at k=dash
  ·rw [if_pos Tw,(k3 (k:Nat) t.de (hl.de t ht) fun j hj ⟨e1,e2⟩=>by
    obtain ⟨t',Ft,n,a1,a2,rfl⟩:=xD j hj
    dsimp only at e1 e2
    obtain ⟨x,hx,rfl⟩:=List.getElem_of_mem ht
    obtain ⟨x',PX,rfl⟩:=List.getElem_of_mem Ft
    have e:x=x':=Classical.byContradiction fun c=>xN hl.nd hx PX c e2
    subst e
    have e3:k=n:=by omega
    subst e3
    exact (mb.1 a2).2.2 Tw).1]
   exact FW (fun hs=>h.yS.sd _ hs (hl.de t ht)) ((pT h hl).2.2 _ _ ⟨t,ht,k,hk,CX,rfl,rfl⟩)
  ·rw [if_neg Tw]
   obtain ⟨d1,d2⟩:=kW.1 CX
   have hj:nR r t k=true:=mb.2 ⟨d1,d2,Tw⟩
   obtain ⟨x,hx,rfl⟩:=List.getElem_of_mem ht
   exact k2 ⟨(k:Nat),l[x].at k,l[x].de⟩ ((nS (Nat.le_refl _)).2 ⟨x,hx,k,hk,hj,rfl⟩)
theorem Dv {po:List Po} {v:Int} {o:ByteArray}:nj po v o=true↔∃ p∈po,p.lv=v∧p.ip=o:=by
 unfold nj y6
 rw [List.any_eq_true]
 exact ⟨fun ⟨p,hp,h⟩=>⟨p,hp,by simpa using h⟩,fun ⟨p,hp,h⟩=>⟨p,hp,by simpa using h⟩⟩

theorem yM {r:Ro} (hd:∀ x∈r.de,0≤x.mx) (ht:∀ x∈r.ti,0≤x.fr) {s:ByteArray} (h:s∈ct r∨s∈cQ r):0≤ka r s:=by
 unfold ka
 by_cases h1:0≤bu (ct r) s
 ·obtain ⟨hl,_⟩:=er h1
  rw [if_pos h1,List.getD_eq_getElem?_getD,Zc (by unfold ct at hl;rwa [Zd] at hl)]
  exact hd _ (Zj _)
 ·rw [if_neg h1]
  have h2:0≤bu (cQ r) s:=by
   rcases h with h | h
   ·exact absurd (dz h) h1
   ·exact dz h
  obtain ⟨hl,_⟩:=er h2
  rw [if_pos h2,List.getD_eq_getElem?_getD,Zc (by unfold cQ at hl;rwa [Zd] at hl)]
  exact ht _ (Zj _)
theorem Mi {r:Ro} (hd:∀ x∈r.sr,0≤x.mx) (ht:∀ x∈r.ti,0≤x.to) {s:ByteArray} (h:s∈cm r∨s∈cQ r):0≤jz r s:=by
 unfold jz
 by_cases h1:0≤bu (cm r) s
 ·obtain ⟨hl,_⟩:=er h1
  rw [if_pos h1,List.getD_eq_getElem?_getD,Zc (by unfold cm at hl;rwa [Zd] at hl)]
  exact hd _ (Zj _)
 ·rw [if_neg h1]
  have h2:0≤bu (cQ r) s:=by
   rcases h with h | h
   ·exact absurd (dz h) h1
   ·exact dz h
  obtain ⟨hl,_⟩:=er h2
  rw [if_pos h2,List.getD_eq_getElem?_getD,Zc (by unfold cQ at hl;rwa [Zd] at hl)]
  exact ht _ (Zj _)
structure F0 (r:Ro):Prop where
 OD:B3 r
 len:r.sr.length≤8∧r.de.length≤8∧r.ti.length≤6
 sm:∀ x∈r.sr,0≤x.mx∧x.mx<r.ma
 dm:∀ x∈r.de,0≤x.mx∧x.mx<r.ma
 tm:∀ x∈r.ti,(0≤x.fr∧x.fr<r.ma)∧(0≤x.to∧x.to<r.ma)∧x.fr≠x.to
 nm:∀ s∈dZ r,jO s=true
theorem yI {α:Type} {pI:Int} {bf:List ByteArray} {nm:α→ByteArray} {ck:α→Int} {l:List α} (h:eV pI bf nm ck l=0):∀ x∈l,jO (nm x)=true:=by
 intro x hx
 obtain ⟨k,hk,rfl⟩:=List.getElem_of_mem hx
 unfold eV at h
 split at h
 ·cases h
 ·have:=dN.1 h k hk
  rw [nN hk,bX] at this
  have:=(bH (by decide)).1 (this _ List.mem_cons_self)
  simpa using this
theorem prt {r:Ro} (h:jy r=0):F0 r:=by
 obtain ⟨kp,hlen,hs,hd,ht⟩:=yJ h
 have h0:=h
 unfold jy at h0
 rw [bX] at h0
 refine ⟨kp,hlen,fun x hx=>il.1 (hs x hx),fun x hx=>il.1 (hd x hx),fun x hx=>?_,fun s hs=>?_⟩
 ·have:=ht x hx
  unfold nk at this
  rw [bX] at this
  have g3:=(bH (by decide)).1 (this (bO (decide (x.fr=x.to)) 24) (by simp))
  exact ⟨il.1 (this _ (by simp)),il.1 (this _ (by simp)),by simpa using g3⟩
 ·unfold dZ cm ct cQ at hs
  rw [List.mem_append,List.mem_append,List.mem_map,List.mem_map,List.mem_map] at hs
  rcases hs with (⟨x,hx,rfl⟩ | ⟨x,hx,rfl⟩) | ⟨x,hx,rfl⟩
  ·exact yI (h0 _ List.mem_cons_self) x hx
  ·exact yI (h0 (eV 8 (cm r) De.nm (fun x=>ep r x.mx) r.de) (by simp)) x hx
  ·exact yI (h0 (eV 6 (cm r++ct r) Ti.nm (nk r) r.ti) (by simp)) x hx
theorem F0.yS {r:Ro} (h:F0 r):pA r:=HD h.OD h.len.2.2
theorem F0.ne {r:Ro} (h:F0 r) {s:ByteArray} (hs:s∈cm r∨s∈ct r∨s∈cQ r):s≠⟨#[]⟩:=by
 have hm:s∈dZ r:=by
  unfold dZ
  rw [List.mem_append,List.mem_append]
  rcases hs with h | h | h
  ·exact .inl (.inl h)
  ·exact .inl (.inr h)
  ·exact .inr h
 have:=h.nm s hm
 intro e
 rw [e] at this
 exact absurd this (by decide)
theorem F0.nd {r:Ro} (h:F0 r) {s:ByteArray} (hs:s∈cm r):s≠dash:=by
 have hm:s∈dZ r:=by
  unfold dZ
  rw [List.mem_append,List.mem_append]
  exact .inl (.inl hs)
 have:=h.nm s hm
 intro e
 rw [e] at this
 exact absurd this (by decide)
theorem T9 {r:Ro} (h1:mM r=0) (h2:jy r=0) (hV:iR r r.po):fU r=0:=by
 have hp:=prt h2
 have h3:js r r.po=0:=by
  refine dN.2 fun k hk=>?_
  have hl:=hV.KA _ (Zj hk)
  have ho:=yM (fun x hx=>(hp.dm x hx).1) (fun x hx=>(hp.tm x hx).1.1) (hV.out _ (Zj hk))
  have hi:=Mi (fun x hx=>(hp.sm x hx).1) (fun x hx=>(hp.tm x hx).2.1.1) (hV.v8 _ (Zj hk))
  have hm:=hV.NQ _ (Zj hk)
  have e0:lO r r.po[k]=0:=by
   unfold lO
   rw [bX]
   intro e he
   simp only [List.mem_cons,List.not_mem_nil,or_false] at he
   rcases he with rfl | rfl | rfl | rfl
   ·exact gY.2 (by omega)
   ·exact (bH (by decide)).2 (by simpa using ho)
   ·exact (bH (by decide)).2 (by simpa using hi)
   ·exact (bH (by decide)).2 (by simpa using hm)
  rw [qJ hk,if_neg (not_not_intro e0)]
  refine if_neg ?_
  by_cases KE:k=0
  ·rw [if_pos KE]
   exact oz.2 (by omega)
  ·rw [if_neg KE,Zc (by omega)]
   refine oz.2 ?_
   have:=List.pairwise_iff_getElem.1 hV.qv (k-1) k (by omega) hk (by omega)
   unfold pj at this
   simpa only [Bool.or_eq_true,Bool.and_eq_true,decide_eq_true_eq] using this
 have h4:yW r=0:=by
  unfold yW
  rw [bX]
  intro e he
  simp only [List.mem_cons,List.not_mem_nil,or_false] at he
  have hti:(cQ r).length=r.ti.length:=by unfold cQ;rw [Zd]
  rcases he with rfl | rfl
  ·refine (bH (by decide)).2 (k6.2 fun v _ _=>List.any_eq_false.2 fun x hx hc=>?_)
   exact hV.C7 v ⟨x.nm,List.mem_map.2 ⟨x,hx,rfl⟩,by rw [hti];exact fb.1 hc⟩
  ·refine (bH (by decide)).2 (k6.2 fun v _ _=>List.any_eq_false.2 fun x hx hc=>?_)
   have:=hV.use v x.nm (List.mem_map.2 ⟨x,hx,rfl⟩)
   unfold Hw at hc
   cases a:nj r.po v x.nm <;> cases b:fV r.po v x.nm <;> rw [a,b] at hc this <;> simp at hc this
 unfold fU
 rw [if_neg (not_not_intro h1),if_neg (not_not_intro h2),if_neg (not_not_intro h3),h4]
theorem Q0 {r:Ro} (h:fU r=0) {q:List Po} (hV:iR r q):fU (r.wp q)=0:=by
 obtain ⟨h1,h2,_,_⟩:=r6 h
 exact T9 (r:=r.wp q) h1 h2 hV.wp
def oA (po:List Po) (v:Int):Nat→ByteArray→List ByteArray
 | 0,_=>[]
 | n+1,o=>if o=⟨#[]⟩ then [] else o::oA po v n ((ee po v o).getD ⟨#[]⟩)
theorem OG (po:List Po) (v:Int):∀ n,oA po v n ⟨#[]⟩=[]
 | 0=>rfl
 | n+1=>by rw [oA,if_pos rfl]
theorem tR {po:List Po} (hne:∀ p∈po,p.ip≠⟨#[]⟩) {v:Int}:∀ (n:Nat) {o:ByteArray},o≠⟨#[]⟩→oA po v (n+1) o=o::eQ po v n o
 | 0,o,ho=>by rw [oA,if_neg ho];rfl
 | n + 1, o, ho => by
  rw [oA,if_neg ho]
  cases h:ee po v o with
  | none=>rw [vo h];exact congrArg _ (OG po v _)
  | some i =>
   obtain ⟨p,hp,_,_,rfl⟩:=fa h
   rw [mi h]
   exact congrArg _ (tR hne n (hne p hp))
def Kv (r:Ro) (x:Po):Int:=aW [fW x.lv 0 (r.lv-1),bO (decide (dS r x.ou<0)) 10,bO (decide (jz r x.ip<0)) 10,bO (decide (ka r x.ou≠jz r x.ip)) 24]
theorem LJ {r:Ro} (h:F0 r) (s:ByteArray):dS r s<0↔ka r s<0:=by
 rw [Hq]
 constructor
 ·rintro ⟨a,b⟩
  unfold ka
  have f1:=cj.2 a
  have f2:=cj.2 b
  rw [if_neg (by omega),if_neg (by omega)];decide
 ·intro ab6
  constructor
  ·intro hd
   have:=yM (fun x hx=>(h.dm x hx).1) (fun x hx=>(h.tm x hx).1.1) (.inl hd)
   omega
  ·intro hd
   have:=yM (fun x hx=>(h.dm x hx).1) (fun x hx=>(h.tm x hx).1.1) (.inr hd)
   omega
theorem Pn {r:Ro} (h:F0 r) (x:Po):Kv r x=lO r x:=by
 unfold Kv lO
 rw [show decide (dS r x.ou<0)=decide (ka r x.ou<0) from decide_eq_decide.2 (LJ h _)]
def Fb (r:Ro) (k:Nat):Int:=(r.po[k]?.map fun x=>if Kv r x≠0 then Kv r x else if 0<k∧(x.lv<((r.po[k-1]?).getD x).lv∨x.lv=((r.po[k-1]?).getD x).lv∧dS r x.ou≤dS r ((r.po[k-1]?).getD x).ou) then 11 else 0).getD 0
theorem Pk {r:Ro} (h:F0 r) {k:Nat} (hk:k<r.po.length):Fb r k=Ff r r.po k:=by
 unfold Fb
 rw [Zc hk,qJ hk,Option.map_some,Option.getD_some,Pn h]
 by_cases e:lO r r.po[k]=0
 ·rw [if_neg (not_not_intro e),if_neg (not_not_intro e)]
  have hl:=(mF e).1
  by_cases KE:k=0
  ·rw [if_neg (by omega),if_pos KE,if_neg]
   exact oz.2 (by omega)
  ·rw [if_neg KE,Zc (show k-1<r.po.length by omega),Option.getD_some]
   have key:=@oz (r.po[k]).lv (dS r (r.po[k]).ou) (r.po[k-1]).lv (dS r (r.po[k-1]).ou)
   by_cases c:lj [(r.po[k]).lv,dS r (r.po[k]).ou] (Dh r (some r.po[k-1]))≤0
   ·rw [if_pos c,if_pos]
    have:¬ ((r.po[k-1]).lv<(r.po[k]).lv∨(r.po[k-1]).lv=(r.po[k]).lv∧dS r (r.po[k-1]).ou<dS r (r.po[k]).ou):=fun q=>(key.2 q) c
    omega
   ·rw [if_neg c,if_neg]
    have:=key.1 c
    omega
 ·rw [if_pos e,if_pos e]
def Sj (r:Ro):Int:=if jC r fun v=>r.ti.any fun x=>decide ((oA r.po v 8 x.nm).length=8) then 33 else if jC r fun v=>r.ti.any fun x=>nj r.po v x.nm != !decide ((ee r.po v x.nm).getD ⟨#[]⟩=⟨#[]⟩) then 32 else 0
theorem Pp {r:Ro} (h:F0 r) (hp:js r r.po=0):Sj r=yW r:=by
 have Ia:∀ p∈r.po,lO r p=0:=fun p nb=>by
  obtain ⟨k,hk,rfl⟩:=List.getElem_of_mem nb
  have:=dN.1 hp k hk
  rw [qJ hk] at this
  by_cases e:lO r r.po[k]=0
  ·exact e
  ·rw [if_pos e] at this;exact this
 have Fw:∀ p∈r.po,p.ou∈ct r∨p.ou∈cQ r:=fun p nb=>Hx (fun x hx=>(h.dm x hx).1) (fun x hx=>(h.tm x hx).1.1) (mF (Ia p nb)).2.1
 have Be:∀ p∈r.po,p.ip∈cm r∨p.ip∈cQ r:=fun p nb=>HW (mF (Ia p nb)).2.2.1
 have hne:∀ p∈r.po,p.ip≠⟨#[]⟩:=fun p nb=>h.ne ((Be p nb).elim .inl fun q=>.inr (.inr q))
 have xz:∀ x∈r.ti,x.nm≠⟨#[]⟩:=fun x hx=>h.ne (.inr (.inr (List.mem_map.2 ⟨x,hx,rfl⟩)))
 have hti:(cQ r).length=r.ti.length:=by unfold cQ;rw [Zd]
 have e1:(jC r fun v=>r.ti.any fun x=>decide ((oA r.po v 8 x.nm).length=8))=jC r fun v=>r.ti.any (KG r v):=by
  unfold jC
  congr 1
  funext i
  have hc:=IQ (po:=r.po) (v:=(i:Nat)) (T:=cQ r) (iR.tie h.yS Fw Be) (by rw [hti];exact h.len.2.2)
  rw [Bool.eq_iff_iff,List.any_eq_true,List.any_eq_true]
  constructor
  ·rintro ⟨x,hx,e⟩
   rw [decide_eq_true_eq,tR hne 7 (xz x hx),List.length_cons] at e
   obtain ⟨t,ht,hm⟩:=hc.2 ⟨x.nm,List.mem_map.2 ⟨x,hx,rfl⟩,by omega⟩
   obtain ⟨y,hy,rfl⟩:=List.mem_map.1 ht
   exact ⟨y,hy,fb.2 (by rw [← hti];exact hm)⟩
  ·rintro ⟨x,hx,e⟩
   obtain ⟨t,ht,hm⟩:=hc.1 ⟨x.nm,List.mem_map.2 ⟨x,hx,rfl⟩,by rw [hti];exact fb.1 e⟩
   obtain ⟨y,hy,rfl⟩:=List.mem_map.1 ht
   refine ⟨y,hy,?_⟩
   rw [decide_eq_true_eq,tR hne 7 (xz y hy),List.length_cons,hm]
 have e2:(jC r fun v=>r.ti.any fun x=>nj r.po v x.nm != !decide ((ee r.po v x.nm).getD ⟨#[]⟩=⟨#[]⟩))=jC r fun v=>r.ti.any (Hw r v):=by
  unfold jC
  congr 1
  funext i
  dsimp only
  congr 1
  funext x
  unfold Hw fV
  have:(!decide ((ee r.po (i:Nat) x.nm).getD ⟨#[]⟩=⟨#[]⟩))=(ee r.po (i:Nat) x.nm).isSome:=by
   cases e:ee r.po (i:Nat) x.nm with
   | none=>rfl
   | some o =>
    obtain ⟨p,nb,_,_,rfl⟩:=fa e
    have:=hne p nb
    simp [this]
  rw [this]
  cases nj r.po (i:Nat) x.nm <;> cases (ee r.po (i:Nat) x.nm).isSome <;> rfl
 unfold Sj yW
 rw [e1,e2]
 cases (jC r fun v=>r.ti.any (KG r v)) <;> cases (jC r fun v=>r.ti.any (Hw r v)) <;> rfl
def yG (r:Ro):Int:=if iL (Fb r) r.po.length≠0 then iL (Fb r) r.po.length else Sj r
theorem Lz {r:Ro} (h:F0 r):yG r=if js r r.po≠0 then js r r.po else yW r:=by
 have e:iL (Fb r) r.po.length=js r r.po:=C4 fun j hj _=>Pk h hj
 unfold yG
 rw [e]
 by_cases c:js r r.po=0
 ·rw [if_neg (not_not_intro c),if_neg (not_not_intro c),Pp h c]
 ·rw [if_pos c,if_pos c]
def mor:ByteArray:=⟨#[109,111,114,101]⟩
theorem LK {r:Ro} {s:ByteArray} (hs:s∈ct r∨s∈cQ r):dS r s=if 0≤bu (ct r) s then bu (ct r) s else (r.de.length:Nat)+bu (cQ r) s:=by
 unfold dS
 by_cases c:s∈ct r
 ·rw [if_pos (dz c),if_pos (dz c)]
 ·have h2:=cj.2 c
  rw [if_neg (by omega),if_pos (dz (hs.resolve_left c)),if_neg (by omega)]

section
variable {r:Ro} {a b:ByteArray}
theorem Ka {r:Ro} {s:ByteArray} (h:s∈cm r∨s∈ct r∨s∈cQ r):s∈dZ r:=by
 unfold dZ
 rw [List.mem_append,List.mem_append]
 rcases h with h | h | h
 ·exact .inl (.inl h)
 ·exact .inl (.inr h)
 ·exact .inr h
end
end Go.Proofs.A1
namespace Go.Proofs.A1
open Go Go.SL
theorem E4 {r:Ro} {l:List Tk} (h:(lb r l).2.2=0):∃ q,jv r l (tQ r l) l.length=some q∧lb r l=(r.wp q,0,0)∧¬ 0≤sy r l:=by
 unfold lb at h ⊢
 by_cases c:0≤sy r l
 ·rw [if_pos c] at h;cases h
 ·rw [if_neg c] at h ⊢
  show ∃ q,jv r l (Ae (ct r) (jT r l l.length)) l.length=some q∧_
  cases e:jv r l (Ae (ct r) (jT r l l.length)) l.length with
  | none=>rw [e] at h;cases h
  | some q=>exact ⟨q,rfl,rfl,c⟩
def OS (r:Ro) (t:Tk):List ByteArray:=(List.range r.lv.toNat).map fun k=>if t.at k=⟨#[]⟩ then jB r (k:Nat) t.de else if t.at k=dash then ⟨#[]⟩ else t.at k
theorem Ni {r:Ro} {v:Int} {o:ByteArray} (h:jB r v o≠⟨#[]⟩):jB r v o∈cm r:=by
 unfold jB at h ⊢
 split at h
 ·rename_i c
  rw [if_pos c]
  rw [List.any_eq_true] at c
  obtain ⟨x,hx,e⟩:=c
  rw [decide_eq_true_eq] at e
  exact List.mem_map.2 ⟨x,hx,e⟩
 ·exact absurd rfl h
theorem Js {r:Ro} (h:oF r) {q:List Po} (hq:iR r q) (v:Int) (o:ByteArray):jB (r.wp q) v o=qk q v (cm r) o:=vr (h.wp hq).yS hq.wp v o
theorem G2 {r:Ro} (iQ:fU r=0) {l:List Tk} (hl:Ki r l) {q:List Po} (h0:jv r l (tQ r l) l.length=some q) :
  iR r q∧(∀ t∈l,cy (r.wp q) t.de=OS r t)∧∀ y∈ct r,y ∉ l.map Tk.de→cy (r.wp q) y=cy r y:=by
 have h:=DZ iQ
 have hp:=prt (r6 iQ).2.1
 obtain ⟨k1,k2,k3⟩:=Pc h hl h0
 refine ⟨k1,fun t ht=>?_,fun y hy hn=>?_⟩
 ·unfold cy OS
  show (List.range r.lv.toNat).map _=_
  refine List.map_congr_left fun k hk=>?_
  have hk:=List.mem_range.1 hk
  have Bb:=hl.lv t ht
  have Wr:k<t.so.length:=by omega
  rw [Js h k1]
  by_cases hd:np r t k=true
  ·rw [k3 t ht k Wr hd,if_neg (kW.1 hd).1]
  ·have uX:¬ RP r l (k:Nat) t.de:=by
    rintro ⟨t',Ft,i,hi,vK,e1,e2⟩
    obtain ⟨x,hx,rfl⟩:=List.getElem_of_mem ht
    obtain ⟨x',PX,rfl⟩:=List.getElem_of_mem Ft
    have e:x=x':=Classical.byContradiction fun c=>xN hl.nd hx PX c e2
    subst e
    have:k=i:=by omega
    subst this
    exact hd vK
   rw [k2 _ _ (hl.de t ht) uX,← vr h.yS h.val]
   by_cases e1:t.at k=⟨#[]⟩
   ·rw [if_pos e1]
   ·have e2:t.at k=jB r (k:Nat) t.de:=Classical.byContradiction fun c=>hd (kW.2 ⟨e1,c⟩)
    have e3:t.at k≠dash:=hp.nd (by rw [e2];exact Ni (by rw [← e2];exact e1))
    rw [if_neg e1,if_neg e3,e2]
 ·unfold cy
  show (List.range r.lv.toNat).map _=_
  refine List.map_congr_left fun k _=>?_
  rw [Js h k1,k2 _ _ hy fun ⟨t,ht,_,_,_,_,e⟩=>hn (List.mem_map.2 ⟨t,ht,e.symm⟩),← vr h.yS h.val]
theorem sD {r:Ro} {o:ByteArray}:l9 r o=false↔o=⟨#[]⟩∨o=dash∨o∈cm r:=by
 unfold l9 dash
 rw [Bool.and_eq_false_iff,Bool.and_eq_false_iff,decide_eq_false_iff_not,decide_eq_false_iff_not,decide_eq_false_iff_not,cj]
 simp only [ne_eq,Decidable.not_not,or_assoc]
 rw [Classical.not_not]
theorem ym {r:Ro} {l:List Tk}:Ac r l=0↔l≠[]∧Ki r l:=by
 have jb:∀ k (hk:k<l.length),Kp r l k=0↔(l[k].de∈ct r∧(∀ j (hj:j<k),(l[j]'(by omega)).de≠l[k].de)∧(l[k].so.length:Int)=r.lv∧∀ s∈l[k].so,s=⟨#[]⟩∨s=dash∨s∈cm r):=by
  intro k hk
  rw [GH hk,bX]
  have e1:sM r l[k].de=0↔l[k].de∈ct r:=by
   unfold sM
   rw [bH (by decide),decide_eq_false_iff_not,cj,Classical.not_not]
  have e2:bO ((l.take k).any fun y=>decide (y.de=l[k].de)) 9=0↔∀ j (hj:j<k),(l[j]'(by omega)).de≠l[k].de:=by
   rw [bH (by decide),List.any_eq_false]
   constructor
   ·intro h j hj e
    have hjt:j<(l.take k).length:=by rw [List.length_take];omega
    have:=h _ (Zj hjt)
    rw [List.getElem_take] at this
    exact this (decide_eq_true e)
   ·intro h x hx e
    obtain ⟨j,hj,rfl⟩:=List.getElem_of_mem hx
    rw [List.length_take] at hj
    rw [List.getElem_take] at e
    exact h j (by omega) (of_decide_eq_true e)
  have e3:bO (decide ((l[k].so.length:Int)≠r.lv)) 2=0↔(l[k].so.length:Int)=r.lv:=by
   rw [bH (by decide),decide_eq_false_iff_not,ne_eq,Decidable.not_not]
  have e4:bO (l[k].so.any (l9 r)) 10=0↔∀ s∈l[k].so,s=⟨#[]⟩∨s=dash∨s∈cm r:=by
   rw [bH (by decide),List.any_eq_false]
   exact ⟨fun h s hs=>sD.1 (by have:=h s hs;rwa [Bool.not_eq_true] at this),fun h s hs=>by rw [Bool.not_eq_true];exact sD.2 (h s hs)⟩
  constructor
  ·intro h
   exact ⟨e1.1 (h _ (by simp)),e2.1 (h _ (by simp)),e3.1 (h _ (by simp)),e4.1 (h _ (by simp))⟩
  ·rintro ⟨a,b,c,d⟩ e he
   simp only [List.mem_cons,List.not_mem_nil,or_false] at he
   rcases he with rfl | rfl | rfl | rfl
   ·exact e1.2 a
   ·exact e2.2 b
   ·exact e3.2 c
   ·exact e4.2 d
 have hA:Kq l=0↔l≠[]∧l.length≤8:=by
  unfold Kq
  rw [bX]
  constructor
  ·intro h
   have a:=(bH (by decide)).1 (h (bO (decide ((l.length:Int)=0)) 12) (by simp))
   have b:=(bH (by decide)).1 (h (bO (decide ((8:Int)<(l.length:Nat))) 5) (by simp))
   rw [decide_eq_false_iff_not] at a b
   exact ⟨fun e=>a (by rw [e];rfl),by omega⟩
  ·rintro ⟨a,b⟩ e he
   simp only [List.mem_cons,List.not_mem_nil,or_false] at he
   rcases he with rfl | rfl
   ·refine (bH (by decide)).2 (decide_eq_false fun e=>a (List.eq_nil_of_length_eq_zero (by omega)))
   ·exact (bH (by decide)).2 (decide_eq_false (by omega))
 unfold Ac
 constructor
 ·intro h
  by_cases c:Kq l=0
  ·rw [if_neg (not_not_intro c)] at h
   have h:=dN.1 h
   obtain ⟨c1,c2⟩:=hA.1 c
   refine ⟨c1,fun t ht=>?_,?_,fun t ht=>?_,fun t ht=>?_,c2⟩
   ·obtain ⟨k,hk,rfl⟩:=List.getElem_of_mem ht
    exact ((jb k hk).1 (h k hk)).1
   ·show List.Pairwise _ _
    rw [List.pairwise_iff_getElem]
    intro i j hi hj xE
    rw [Zd] at hi hj
    rw [List.getElem_map,List.getElem_map]
    exact ((jb j hj).1 (h j hj)).2.1 i xE
   ·obtain ⟨k,hk,rfl⟩:=List.getElem_of_mem ht
    exact ((jb k hk).1 (h k hk)).2.2.1
   ·obtain ⟨k,hk,rfl⟩:=List.getElem_of_mem ht
    exact ((jb k hk).1 (h k hk)).2.2.2
  ·rw [if_pos c] at h;exact absurd h c
 ·rintro ⟨c1,h⟩
  rw [if_neg (not_not_intro (hA.2 ⟨c1,h.C3⟩))]
  refine dN.2 fun k hk=>(jb k hk).2 ⟨h.de _ (Zj hk),fun j hj=>xN h.nd (by omega) hk (by omega),h.lv _ (Zj hk),h.so _ (Zj hk)⟩
def vR (r:Ro) (t:Tk):Tk:=⟨t.de,(List.range r.lv.toNat).map fun k=>if t.at k=⟨#[]⟩ then ⟨#[]⟩ else if jB r (k:Nat) t.de=⟨#[]⟩ then dash else jB r (k:Nat) t.de⟩
def Ro.Hi (r:Ro) (d:ByteArray) (q:Bool):Ro:=⟨r.lv,r.ma,r.sr,r.de.modify (bu (ct r) d).toNat fun x=>⟨x.nm,x.mx,q⟩,r.ti,r.po⟩
structure Od where
 fr:Int
 tk:List Tk
def Od.zero:Od:=⟨0,[]⟩
def NG (r:Ro) (l:List Od):Nat→Ro
 | 0=>r
 | i+1=>(lb (NG r l i) (l.getD i Od.zero).tk).1
def AN (r:Ro) (l:List Od) (i:Nat):Int:=(lb (NG r l i) (l.getD i Od.zero).tk).2.2
def Np (f:Nat→Int) (n:Nat):Nat:=((List.range n).find? fun i=>decide (f i≠0)).getD 0
def iA (r:Ro) (l:List Od):Ro×Int×Int:=if iL (AN r l) l.length=0 then (NG r l l.length,0,0) else (Ro.nil,(Np (AN r l) l.length:Nat),iL (AN r l) l.length)
theorem No {f:Nat→Int} {n i:Nat} (h:∀ j,j<i→f j=0) (hi:i<n) (hn:f i≠0):Np f n=i:=by
 unfold Np
 have:(List.range n).find? (fun i=>decide (f i≠0))=some i:=by
  rw [List.find?_eq_some_iff_getElem]
  refine ⟨by simpa using hn,i,by simpa using hi,by simp,fun j hj=>?_⟩
  simp [h j hj]
 rw [this];rfl
def Kx (r:Ro) (l:List Od) (k:Nat):Int:=(l[k]?.map fun x=>aW [fW x.fr 0 10000000,bO (decide (x.fr≤if k=0 then -1 else (l.getD (k-1) Od.zero).fr)) 11,Ac r x.tk]).getD 0
def UA (r:Ro) (l:List Od):Int:=if (16:Int)<(l.length:Nat) then 5 else iL (Kx r l) l.length
structure Nu (r:Ro) (l:List Od):Prop where
 C3:l.length≤16
 fr:∀ k (h:k<l.length),0≤l[k].fr∧l[k].fr≤10000000
 inc:∀ i j (hi:i<l.length) (hj:j<l.length),i<j→l[i].fr<l[j].fr
 tk:∀ k (h:k<l.length),Ki r l[k].tk
theorem ZR {r:Ro} {l:List Od} (h:UA r l=0):Nu r l:=by
 unfold UA at h
 by_cases c:(16:Int)<(l.length:Nat)
 ·rw [if_pos c] at h;cases h
 ·rw [if_neg c] at h
  have h:=dN.1 h
  have hk:∀ k (hk:k<l.length),(0≤l[k].fr∧l[k].fr≤10000000)∧(if k=0 then -1 else (l.getD (k-1) Od.zero).fr)<l[k].fr∧Ac r l[k].tk=0:=fun k hk=>by
   have:=h k hk
   unfold Kx at this
   rw [Zc hk,Option.map_some,Option.getD_some,bX] at this
   have a:=gY.1 (this _ List.mem_cons_self)
   have b:=(bH (by decide)).1 (this (bO (decide (l[k].fr≤if k=0 then -1 else (l.getD (k-1) Od.zero).fr)) 11) (by simp))
   rw [decide_eq_false_iff_not] at b
   exact ⟨a,by omega,this _ (by simp)⟩
  have fO:∀ k (Mw:k+1<l.length),l[k].fr<l[k+1].fr:=fun k Mw=>by
   have:=(hk (k+1) Mw).2.1
   rwa [if_neg (by omega),Nat.add_sub_cancel,List.getD_eq_getElem?_getD,Zc (by omega),Option.getD_some] at this
  refine ⟨by omega,fun k h=>(hk k h).1,fun i j hi hj xE=>?_,fun k h=>(ym.1 (hk k h).2.2).2⟩
  induction j with
  | zero=>omega
  | succ j ih =>
   have:=fO j hj
   by_cases c:i=j
   ·subst c;exact this
   ·have:=ih (by omega) (by omega);omega
structure Kk (r:Ro) (l:List Od) (i:Nat) (q:List Po):Prop where
 eq:NG r l i=r.wp q
 val:iR r q
theorem Kk.next {r:Ro} (iQ:fU r=0) {l:List Od} (hl:Nu r l) {i:Nat} (hi:i<l.length) {q:List Po} (h:Kk r l i q) (h0:AN r l i=0):∃ q',Kk r l (i+1) q'∧(∀ t∈l[i].tk,cy (r.wp q') t.de=OS (r.wp q) t)∧∀ y∈ct r,y ∉ l[i].tk.map Tk.de→cy (r.wp q') y=cy (r.wp q) y:=by
 unfold AN at h0
 rw [h.eq,List.getD_eq_getElem?_getD,Zc hi,Option.getD_some] at h0
 obtain ⟨q',e1,e2,_⟩:=E4 h0
 obtain ⟨k1,k2,k3⟩:=G2 (Q0 iQ h.val) ((hl.tk i hi).wp q) e1
 refine ⟨q',⟨?_,⟨k1.qv,k1.KA,k1.out,k1.v8,k1.NQ,k1.C7,k1.use⟩⟩,k2,k3⟩
 rw [NG,h.eq,List.getD_eq_getElem?_getD,Zc hi,Option.getD_some,e2];rfl
theorem G5 {r:Ro} (iQ:fU r=0) {l:List Od} (hl:Nu r l):∀ i,i≤l.length→(∀ j,j<i→AN r l j=0)→∃ q,Kk r l i q
 | 0,_,_=>⟨r.po,rfl,(DZ iQ).val⟩
 | i + 1, hi, h => by
  obtain ⟨q,hq⟩:=G5 iQ hl i (by omega) fun j hj=>h j (by omega)
  obtain ⟨q',vI,_⟩:=hq.next iQ hl hi (h i (by omega))
  exact ⟨q',vI⟩
def gZ (l:List Od) (f:Int):Nat:=l.findIdx fun x=>decide (f<x.fr)
theorem OZ (l:List Od) (f:Int):gZ l f≤l.length:=List.findIdx_le_length
def RW (b:Nat) (r:Ro) (s d t p:Value) (l:List Po):List a8:=[RB b r s d t p,J1 r s,J2 r d,J3 r t,PB p l]
theorem Sl {l:List Po} {i:Nat} (h:i<l.length) (cur:List Value):dW (jf l++cur) (i*3) 3=[.int .i64 l[i].lv,.string l[i].ou,.string l[i].ip]:=q8 (f:=Po.cells) (fun _=>rfl) h cur
theorem RR.wp {w:World} {r:Ro} {s d t p':Value} {po:List Po} (h1:Rd w s 2 (vF r.sr)) (h2:Rd w d 3 (vi r.de)) (h3:Rd w t 3 (ui r.ti)) (h4:Rd w p' 3 (sU po)):RR w (r.wp po) s d t p':=⟨h1,h2,h3,h4⟩
set_option maxHeartbeats 2000000 in
theorem Lb {r:Ro} {s d t p:Value} {b:Nat} {w:World} {fp:List Nat} (kQ:fp.Nodup) (hs:bY (hp w) (RW b r s d t p r.po) fp) (cG:mY r) (V8:r.po.length≤1000) :
  bd Tryz.prog 257 [.pointer (some ⟨b,0,none⟩)] w fp (fun x:Value×(Po→Bool)=>Sw r.po (ct r) x.2∧∀ q∈r.po,x.2 q=true→q.ou∈ct r∨∃ q'∈r.po,x.2 q'=true∧q'.lv=q.lv∧q'.ip=q.ou) (fun _=>.tuple #[]) (fun x=>RW b r s d t x.1 (r.po.filter x.2)):=by
 unfold RW RB PB at *
 refine dV Tryz.func257 rfl rfl kQ hs ?_
 refine Jr<|Ja rfl<|Jn<|J0 ?_
 refine aX (ι:=Value×(Po→Bool)×Bool) (fun x=>Sw r.po (ct r) x.2.1∧(x.2.2=false→∀ q∈r.po,x.2.1 q=true→q.ou∈ct r∨∃ q'∈r.po,x.2.1 q'=true∧q'.lv=q.lv∧q'.ip=q.ou)) (fun x=>[(2,.bool x.2.2),(0,.pointer (some ⟨b,0,none⟩))])
  (fun x=>RW b r s d t x.1 (r.po.filter x.2.1)) (fun x=>2*(r.po.filter x.2.1).length+if x.2.2 then 1 else 0) ?_ ?_
 ·apply aJ (p,(fun _=>true),true) ⟨Sw.start _ _,fun h=>by cases h⟩
  case hs1=>exact cd
  case ht=>
   show bo _ [JP b r s d t p,J1 r s,J2 r d,J3 r t,row 188 3 p (r.po.filter fun _=>true).length (jf (r.po.filter fun _=>true))] _
   rw [List.filter_eq_self.2 fun _ _=>rfl]
   exact .cons .here (.cons .here (.cons .here (.cons .here (.cons .here .nil))))
 rintro ⟨p',f,fl⟩ ⟨RK,sG⟩
 dsimp only at RK sG ⊢
 unfold RW RB PB
 cases fl with
 | false =>
  (refine Jq<|Jr<|Jv rfl<|Jn<|bL (.of rfl) ?_;refine Jp<|Jl<|Jo ?_)
  first | with_reducible apply aM | with_reducible apply aN
  case he=>exact py rfl
  case hR=>
   intro w' au
   exact aB (p',f) ⟨RK,sG rfl⟩ (by exact .cons .here (.cons .here (.cons .here (.cons .here (.cons .here .nil))))) au rfl
 | true =>
  (refine Jq<|Jr<|Jv rfl<|Jn<|cB (.of rfl) ?_;refine Jk<|J0<|Jr<|Ja rfl<|Ji<|Jv rfl<|ab (dK (.of rfl)) rfl ?_;refine bF rfl rfl ae ?_;refine JL rfl .here rfl ?_)
  have acK:(r.po.filter f).length≤r.po.length:=List.length_filter_le _ _
  refine JN bI rfl (fun w1 aS=>FU (cR aS eR rfl) (by omega)) ?_
  intro cv _
  dsimp only [id_eq,Zb,Za]
  refine aY (v:=cv) (by exact .here) fun ca cc e=>?_
  subst e
  refine JI rfl<|Jv rfl<|Jn<|J0 ?_
  have me:∀ k (h:k<(r.po.filter f).length),(jf (r.po.filter f)).length=(r.po.filter f).length*3:=fun _ _=>ji _
  refine aX (ι:=Nat×Value×(Po→Bool)×Bool) (fun x=>x.1≤(r.po.filter f).length∧Sw r.po (ct r) x.2.2.1∧(x.2.2.2=false→x.2.2.1=f∧∀ i (hi:i<(r.po.filter f).length),i<x.1→(r.po.filter f)[i].ou∈ct r∨nj (r.po.filter f) (r.po.filter f)[i].lv (r.po.filter f)[i].ou=true)∧(x.2.2.2=true→(r.po.filter x.2.2.1).length<(r.po.filter f).length))
   (fun x=>[(12,.int .i64 (x.1:Nat)),(11,.int .i64 ((r.po.filter f).length:Nat)),(10,.slice ca (r.po.filter f).length cc),(2,.bool x.2.2.2),(0,.pointer (some ⟨b,0,none⟩))])
   (fun x=>[JP b r s d t (x.2.1),J1 r s,J2 r d,J3 r t,row 188 3 x.2.1 (r.po.filter x.2.2.1).length (jf (r.po.filter x.2.2.1)),row 188 3 (.slice ca (r.po.filter f).length cc) (r.po.filter f).length (jf (r.po.filter f))]) (fun x=>(r.po.filter f).length-x.1) ?_ ?_
  ·apply aJ (0,p',f,false) ⟨Zi _,RK,fun _=>⟨rfl,fun i _ h=>absurd h (Nat.not_lt_zero i)⟩,fun h=>by cases h⟩
   case hs1=>exact cd
   case ht=>exact sS
  rintro ⟨k,p2,f2,fl⟩ ⟨hk,MG,Qu,CW⟩
  dsimp only at hk MG Qu CW ⊢
  by_cases aL:k<(r.po.filter f).length
  ·refine Jr<|JA rfl<|Jn<|Jq<|Jd rfl fun ar=>Jk<|Jq<|J0<|Jr ?_
   refine c7 (E:=188) (sz:=3) (v:=.slice ca (r.po.filter f).length cc) fg (by omega) fun g gL cur e od Fy CS Bc=>?_
   cases e
   have c1:=Sl aL cur
   (refine ab (az (.of rfl) (.of rfl) rfl (by omega) ar ba) rfl ?_;refine ab (cA (.of rfl) .here c1 rfl) rfl ?_;refine Jz rfl rfl fun _ _=>aq (.of rfl) (.of rfl) .here rfl rfl (fh rfl rfl rfl) (bC rfl) an ?_;refine Jn<|Jq ?_)
   generalize zL:(r.po.filter f)[k].lv=pv
   generalize qj:(r.po.filter f)[k].ou=po
   generalize N3:(r.po.filter f)[k].ip=pi
   have RF:∀ w',RR w' (r.wp (r.po.filter f2)) s d t p2→aj Tryz.prog 155 [.agg #[.int .i64 r.lv,.int .i64 r.ma,s,d,t,p2],.string po] w' (.int .i64 (bu (ct r) po)):=fun w' h=>fG (r:=r.wp (r.po.filter f2)) po h
   have hu0:∀ w',RR w' (r.wp (r.po.filter f2)) s d t p2→aj Tryz.prog 239 [.agg #[.int .i64 r.lv,.int .i64 r.ma,s,d,t,p2],.int .i64 pv,.string po] w' (.bool (nj (r.po.filter f2) pv po)):=fun w' h=>Gp (r:=r.wp (r.po.filter f2)) pv po h
   with_reducible refine dP 18 (by kernel_rfl) ?_
   (refine k7 rfl rfl ?_;refine aH (dK (.of rfl)) rfl ?_;refine aH (cz bN) rfl ?_;refine nC rfl rfl ae ?_;refine aH (gz .here) rfl ?_;refine fc aZ rfl (fun w' au=>(RF w' (RR.wp (cZ au cX rfl) (c5 au eR rfl) (cY au fg rfl) (cR au qm rfl)))) ?_;refine aH (nL (.of rfl) (.of rfl)) rfl ?_;refine k7 rfl rfl ?_;refine cJ rfl rfl inferInstance (fun hg bj=>(aR (.of rfl))) rfl ?_;refine cJ rfl rfl inferInstance (fun hg bj=>(dK (.bE hg rfl))) rfl ?_;refine cJ rfl rfl inferInstance (fun hg bj=>(cA (.bE hg rfl) bN an (by rfl))) rfl ?_;refine cJ rfl rfl inferInstance (fun hg bj=>(ao (.of rfl) ae)) rfl ?_;refine cJ rfl rfl inferInstance (fun hg bj=>(ag (.bE hg rfl) (At.lit .here rfl))) rfl ?_;refine cJ rfl rfl inferInstance (fun hg bj=>(ao (.of rfl) ae)) rfl ?_;refine cJ rfl rfl inferInstance (fun hg bj=>(ag (.bE hg rfl) (At.lit .here rfl))) rfl ?_;refine mV rfl rfl (fun hg=>(bh (.of rfl) (.cons (.bE hg rfl) (.cons (.bE hg rfl) (.cons (.bE hg rfl) .nil))) inferInstance e9)) rfl (fun hg w' au=>(hu0 w' (RR.wp (cZ au cX rfl) (c5 au eR rfl) (cY au fg rfl) (cR au qm rfl)))) ?_;refine cJ rfl rfl inferInstance (fun hg bj=>(eU (.bE hg rfl))) rfl ?_;refine aH (bV (.of rfl) rfl) rfl ?_)
   with_reducible refine dY ?_
   (refine Jn<|nB rfl (fun ar=>?_) fun ar=>?_;refine Jr<|Jv rfl<|bF rfl rfl ae ?_;refine JL rfl .here rfl<|bF rfl rfl ae ?_;refine JL rfl .here rfl ?_;rotate_left;refine Jw<|Jj<|Jt<|Jg<|JB rfl (by omega)<|Jv rfl<|Jn ?_;rotate_right)
   ·obtain ⟨Oc,VJ⟩:bu (ct r) po<0∧nj (r.po.filter f2) pv po=false:=by simpa using ar
    with_reducible apply fI (As:=[JP b r s d t p2,row 188 3 p2 (r.po.filter f2).length (jf (r.po.filter f2))])
    case hr=>exact eh
    case hd=>rfl
    case ht=>exact .cons bN (.cons fg .nil)
    case hc=>
     intro w1 zS aS uY hs1 B2 kp
     exact wB (r:=r) (s:=s) (d:=d) (t:=t) (p:=p2) (b:=b) (l:=r.po.filter f2) pv po uY hs1 (by have:=List.length_filter_le f2 r.po;omega)
    intro p3 _
    dsimp only [id_eq,Zb,Za]
    unfold RB PB
    rw [sJ]
    refine Jn<|Jg<|Ja rfl<|Jx<|Jj<|Jt<|Jg<|JB rfl (by omega)<|Jv rfl<|Jn ?_
    refine c6 (E:=188) (sz:=3) (g:=g) cX od Fy CS Bc ?_
    apply aK (k+1,p3,(fun x=>f2 x&&!xq pv po x),true) ⟨by show k+1≤_;omega,MG.step (cj.1 Oc) (fun q hq hf e=>by
     have:=Dv.2 ⟨q,List.mem_filter.2 ⟨hq,hf⟩,e⟩
     rw [VJ] at this;cases this),(fun h=>by cases h),fun _=>by
      show (r.po.filter fun x=>f2 x&&!xq pv po x).length<_
      rw [← sJ]
      cases fl with
      | true=>exact Nat.lt_of_le_of_lt (List.length_filter_le _ _) (CW rfl)
      | false =>
       obtain ⟨rfl,_⟩:=Qu rfl
       refine List.length_filter_lt_length_iff_exists.2 ⟨_,Zj aL,?_⟩
       unfold xq
       rw [zL,qj];simp⟩ (by show (r.po.filter f).length-(k+1)<(r.po.filter f).length-k;omega)
    case hs1=>exact cd
    case ht=>exact sS
   ·have RG:¬ (decide (bu (ct r) po<0)&&!nj (r.po.filter f2) pv po)=true:=by
     simp only [Bool.and_eq_true,decide_eq_true_eq,Bool.not_eq_true',not_and,Bool.not_eq_false] at ar ⊢
     exact fun c=>ar.resolve_left (fun q=>q c)
    refine c6 (E:=188) (sz:=3) (g:=g) (by exact Take.there .here) od Fy CS Bc ?_
    apply aK (k+1,p2,f2,fl) ⟨by show k+1≤_;omega,MG,(fun h=>⟨(Qu h).1,fun i hi RE=>by
     by_cases e:i=k
     ·subst e
      rw [zL,qj]
      obtain ⟨e1,_⟩:=Qu h
      rw [e1] at RG
      by_cases c:bu (ct r) po<0
      ·right
       cases c2:nj (r.po.filter f) pv po with
       | true=>rfl
       | false=>exact absurd (show (decide (bu (ct r) po<0)&&!nj (r.po.filter f) pv po)=true by rw [c2,decide_eq_true c];rfl) RG
      ·exact .inl (Classical.byContradiction fun q=>c (cj.2 q))
     ·exact (Qu h).2 i hi (show i<k by have:i<k+1:=RE;omega)⟩),CW⟩ (by show (r.po.filter f).length-(k+1)<(r.po.filter f).length-k;omega)
    case hs1=>exact cd
    case ht=>exact .cons bN (.cons bN (.cons bN (.cons bN (.cons bN (.cons .here .nil)))))
  ·have e:k=(r.po.filter f).length:=by omega
   subst e
   refine Jr<|JA rfl<|Jn<|Jq<|Jc rfl fun ar=>Jp<|Jl<|Jo<|Jj<|Jt ?_
   apply aK (p2,f2,fl) ⟨MG,fun h q hq hf=>by
    obtain ⟨rfl,h2⟩:=Qu h
    obtain ⟨i,hi,rfl⟩:=List.getElem_of_mem (List.mem_filter.2 ⟨hq,hf⟩)
    rcases h2 i hi hi with e | e
    ·exact .inl e
    ·obtain ⟨q',vI,e'⟩:=Dv.1 e
     obtain ⟨x1,x2⟩:=List.mem_filter.1 vI
     exact .inr ⟨q',x1,x2,e'⟩⟩ (by
    show 2*(r.po.filter f2).length+(if fl then 1 else 0)<2*(r.po.filter f).length+(if true then 1 else 0)
    cases fl with
    | true=>have:=CW rfl;simp only [if_true];omega
    | false=>rw [(Qu rfl).1];simp)
   case hs1=>exact cd
   case ht=>exact sS
end Go.Proofs.A1
namespace Go.SL
open Go
section
variable {P:Program} {r:Option Nat} {c:Cx} {D:List Nat} {sl:aI} {hs hs' hs2:List a8} {Q:Exit→Act→World→Prop} {ops:Array Oper} {d:Nat} {dst:Option Tmp} {ty:TypeId} {pos:String} {af:Array Edge} {g:Option (Nat×Bool)} {rest:List Oper} {κ:Type} [DecidableEq κ] {kv:κ→Value}
theorem EY {X:Act→World→Prop} {b:Nat} {l:List (κ×Value)} (ht:Take hs (mp kv b l) hs') (k:∀ es ck,HE kv l es ck→Tr c D sl (bA b (.map es ck)::hs') X):Tr c D sl hs X:=fun a w a7=>by
 have hm:=a7.mem.take (ht.append _)
 obtain ⟨kk,fp,hn,⟨f1,f2,rfl,⟨e,es,ck,h1,h2⟩,h3⟩,CW⟩:=hm
 exact k es ck h2 a w (a7.heap ⟨kk,f1++f2,hn,⟨f1,f2,rfl,⟨e,h1⟩,h3⟩,CW⟩)
end
end Go.SL
namespace Go.Proofs.A1
open Go Go.SL
theorem BJ {r:Ro} {v:Int} {i:Nat}:∀ {q:List Nat} {po:List Po} {x:ByteArray},qb r v po x (q++[i])=(if fV (qb r v po x q).1 v (gn r i) then (qb r v po x q).1 else (qb r v po x q).1++[⟨v,gn r i,(qb r v po x q).2⟩],gn r i)
 | [],po,x=>rfl
 | j :: q, po, x => by
  rw [Zb,qb,qb]
  exact BJ
theorem zB {r:Ro} {v:Int}:∀ (q:List Nat) (po:List Po) (x:ByteArray),(qb r v po x q).1.length≤po.length+q.length
 | [],po,x=>Nat.le_refl _
 | j :: q, po, x => by
  rw [qb]
  refine Nat.le_trans (zB q _ _) ?_
  rw [List.length_cons]
  split
  ·omega
  ·rw [Zg,List.length_singleton];omega
theorem EJ {r:Ro} {v:Int}:∀ (q:List Nat) (po:List Po) (x:ByteArray),(∀ i∈q,i<r.ti.length)→(∀ p∈po,p.ou∈ct r∨p.ou∈cQ r)→∀ p∈(qb r v po x q).1,p.ou∈ct r∨p.ou∈cQ r
 | [],po,x,_,h=>h
 | j :: q, po, x, hi, h => by
  rw [qb]
  refine EJ q _ _ (fun i sY=>hi i (List.mem_cons_of_mem _ sY)) fun p hp=>?_
  split at hp
  ·exact h p hp
  ·rcases List.mem_append.1 hp with hp | hp
   ·exact h p hp
   ·rw [List.mem_singleton.1 hp]
    exact .inr (tq (hi j List.mem_cons_self))
theorem R1 {l:List Ti} {i:Nat} (h:i<l.length) (cur:List Value):dW (pC l++cur) (i*3) 3=[.string l[i].nm,.int .i64 l[i].fr,.int .i64 l[i].to]:=q8 (f:=Ti.cells) (fun _=>rfl) h cur
theorem O4 {l:List Ti} {i:Nat} (h:i<l.length) (cur:List Value):(pC l++cur)[i*3]? = some (.string l[i].nm):=by
 have:=sN (cs:=pC l++cur) (o:=i*3) (n:=3) (j:=0) (by omega)
 rw [R1 h cur,Nat.add_zero] at this
 exact this.symm
theorem DV (l:List Po) (q:Po):jf (l++[q])=jf l++[.int .i64 q.lv,.string q.ou,.string q.ip]:=by
 unfold jf sU;simp [Po.cells]
theorem Pr {r:Ro} {x y:Po}:Ps r x y<0↔pj r x y=true:=by
 rw [tE];unfold pj;simp
set_option maxHeartbeats 2000000 in
theorem R4 {r:Ro} {s d t p:Value} {b:Nat} {po:List Po} {xv:Value} {xp:List Nat} (xf:Nat) (v:Int) (so de:ByteArray) {w:World} {fp:List Nat} (kQ:fp.Nodup) (hs:bY (hp w) [RB b r s d t p,J1 r s,J2 r d,J3 r t,PB p po,row 3 1 xv xp.length (fN xp)] fp)
  (cG:mY r) (V8:po.length≤1000) (hxf:xp.length≤100) (hd:B3 r) (hi:∀ i∈xp,i<r.ti.length) (Fw:∀ q∈po,q.ou∈ct r∨q.ou∈cQ r) (lT:de∈ct r) (hV:(k9 r po v so xp de).Pairwise (fun a b=>pj r a b=true)) :
  bd Tryz.prog 258 [.pointer (some ⟨b,0,none⟩),.int .i64 v,.string so,.agg #[xv,.int .i64 (xf:Nat)],.string de] w fp (fun _:Value=>True) (fun _=>.tuple #[]) (fun p'=>[RB b r s d t p',J1 r s,J2 r d,J3 r t,PB p' (k9 r po v so xp de),row 3 1 xv xp.length (fN xp)]):=by
 unfold RB PB at *
 refine dV Tryz.func258 rfl rfl kQ hs ?_
 refine aY (v:=xv) fg fun xa xc e=>?_
 subst e
 refine aY (v:=t) cX fun ta tc e=>?_
 subst e
 refine aY (v:=p) eR fun pa pc e=>?_
 subst e
 (refine Jr<|Jy rfl rfl fun _ _=>Ji<|Jv rfl<|Ja rfl<|Jn<|Jq<|Jr<|bF rfl rfl ae ?_;refine JL rfl .here rfl<|JI rfl<|Jv rfl<|Jn<|J0 ?_)
 rename_i b8 Yo
 refine aX (ι:=Nat×Value) (fun y=>y.1≤xp.length) (fun y=>[(19,.int .i64 (y.1:Nat)),(18,.int .i64 (xp.length:Nat)),(17,.slice xa xp.length xc),(10,.string (qb r v po so (xp.take y.1)).2),(0,.pointer (some ⟨b,0,none⟩)),(1,.int .i64 v),(4,.string de)])
  (fun y=>[JP b r s d (.slice ta r.ti.length tc) (y.2),J1 r s,J2 r d,row 187 3 (.slice ta r.ti.length tc) r.ti.length (pC r.ti),row 188 3 y.2 (qb r v po so (xp.take y.1)).1.length (jf (qb r v po so (xp.take y.1)).1),row 3 1 (.slice xa xp.length xc) xp.length (fN xp)]) (fun y=>xp.length-y.1) ?_ ?_
 ·apply aJ (0,.slice pa po.length pc) (Zi _)
  case hs1=>
   show ll _ [(19,.int .i64 (0:Nat)),(18,.int .i64 (xp.length:Nat)),(17,.slice xa xp.length xc),(10,.string so),(0,.pointer (some ⟨b,0,none⟩)),(1,.int .i64 v),(4,.string de)]
   exact .cons rfl (.cons rfl (.cons rfl (.cons rfl (.cons rfl (.cons rfl (.cons rfl .nil))))))
  case ht=>
   exact .cons (.there .here) (.cons (.there .here) (.cons (.there .here) (.cons (.there .here) (.cons (.there .here) (.cons (.there .here) .nil)))))
 rintro ⟨k,pv⟩ hk
 dsimp only at hk ⊢
 have QF:=zB (r:=r) (v:=v) (xp.take k) po so
 rw [List.length_take] at QF
 by_cases aL:k<xp.length
 ·have rN:qb r v po so (xp.take (k+1))=(if fV (qb r v po so (xp.take k)).1 v (gn r xp[k]) then (qb r v po so (xp.take k)).1 else (qb r v po so (xp.take k)).1++[⟨v,gn r xp[k],(qb r v po so (xp.take k)).2⟩],gn r xp[k]):=by
   rw [List.take_succ_eq_append_getElem aL,BJ]
  have Yb:=hi _ (Zj aL)
  have xz:gn r xp[k]=(r.ti[xp[k]]).nm:=by unfold gn;rw [mB Yb]
  generalize qb r v po so (xp.take k)=A at rN QF ⊢
  obtain ⟨q,la⟩:=A
  dsimp only at rN QF ⊢
  refine aY (E:=188) (sz:=3) (v:=pv) eR fun va vc e=>?_
  subst e
  refine Jr<|JA rfl<|Jn<|Jq<|Jd rfl fun ar=>Jk<|Jq<|J0<|Jr ?_
  refine c7 (E:=3) (sz:=1) (v:=.slice xa xp.length xc) fg (by omega) fun g1 c1 u1 e jJ aS hz1 Qo=>?_
  cases e
  have a1:=AV aL u1
  generalize hxk:xp[k]=ik at *
  (refine ab (az (.of rfl) (.of rfl) rfl (by omega) ar ba) rfl ?_;refine ab (ag (.of rfl) (At.kz .here a1)) rfl ?_;refine Ja rfl<|Ji<|Jv rfl<|ab (dK (.of rfl)) rfl ?_;refine bF rfl rfl ae ?_;refine JL rfl (.there .here) rfl<|Jv rfl ?_)
  refine c7 (E:=187) (sz:=3) (v:=.slice ta r.ti.length tc) eR (by omega) fun g2 c2 u2 e jq lP hz2 Eg=>?_
  cases e
  have a2:=O4 Yb u2
  rw [← xz] at a2
  (refine ab (az (.of rfl) (.of rfl) rfl (by omega) (by omega) ba) rfl ?_;refine bF rfl rfl ae ?_;refine ab (ag (.of rfl) (At.kz .here a2)) rfl ?_;refine Ja rfl<|Jn<|Jq<|Jr<|Jv rfl<|ab (dK (.of rfl)) rfl ?_;refine ab (cz bN) rfl ?_;refine Jv rfl<|Jv rfl ?_)
  refine c6 (E:=187) (sz:=3) (g:=g2) (by exact .here) jq lP hz2 Eg ?_
  refine c6 (E:=3) (sz:=1) (g:=g1) (by exact Take.there .here) jJ aS hz1 Qo ?_
  refine ai eh rfl (fun w' au=>pY (r:=r.wp q) v (gn r ik) (RR.wp (cZ au cX rfl) (c5 au eR rfl) (cY au (by exact Take.there .here) rfl) (cR au fg rfl))) ?_
  have mg:fV (r.wp q).po v (gn r ik)=fV q v (gn r ik):=rfl
  rw [mg]
  have Rw:(jf q).length=q.length*3:=ji q
  cases Bi:fV q v (gn r ik) with
  | false =>
   rw [Bi,if_neg (by decide)] at rN
   have Wa:jf (q++[⟨v,gn r ik,la⟩])=jf q++[.int .i64 v,.string (gn r ik),.string la]:=DV _ _
   have zL:(q++[(⟨v,gn r ik,la⟩:Po)]).length=q.length+1:=by simp
   (refine JH rfl<|Jn<|cB (.of rfl) ?_;refine Jg<|Jv rfl<|Jv rfl<|ab (dK (.of rfl)) rfl ?_;refine bF rfl rfl ae ?_;refine JL rfl bN rfl<|Jv rfl<|Jv rfl<|Jv rfl<|ab (aU (.cons (.of rfl) (.cons (.of rfl) (.cons (.of rfl) .nil))) an) rfl ?_;refine bb (br (.cons (.of rfl) .nil) rfl rfl bM bM an) rfl fun _ _=>?_)
   refine bB (.of rfl) (.of rfl) qm .here an (by rfl) (fh rfl rfl rfl) (by rfl) (by rfl) (by rfl) eH (by rfl) ?_
   intro v'
   refine aY (by exact .here) fun a' gL e=>?_
   subst e
   (refine ab (dK (.of rfl)) rfl ?_;refine bF rfl rfl ae ?_;refine aq (.of rfl) (.of rfl) eR rfl rfl (ed rfl) (bC rfl) an ?_;refine Jn<|Jg<|Jv rfl<|Ja rfl<|Jx<|Jj<|Jt<|Jg<|JB rfl (by omega)<|Jv rfl<|Jn ?_)
   apply aK (k+1,.slice a' (q.length+1) gL) (by show k+1≤_;omega) (by show xp.length-(k+1)<xp.length-k;omega)
   case hs1=>
    dsimp only
    rw [rN]
    exact .cons rfl (.cons rfl (.cons rfl (.cons rfl (.cons rfl (.cons rfl (.cons rfl .nil))))))
   case ht=>
    dsimp only
    rw [rN]
    dsimp only
    rw [zL,Wa]
    exact .cons .here (.cons eR (.cons eR (.cons cX (.cons .here (.cons (.there .here) .nil)))))
  | true =>
   rw [Bi,if_pos rfl] at rN
   (refine JH rfl<|Jn<|bL (.of rfl) ?_;refine Jk<|Jg<|Jv rfl<|Ja rfl<|Jx<|Jj<|Jt<|Jg<|JB rfl (by omega)<|Jv rfl<|Jn ?_)
   apply aK (k+1,.slice va q.length vc) (by show k+1≤_;omega) (by show xp.length-(k+1)<xp.length-k;omega)
   case hs1=>
    dsimp only
    rw [rN]
    exact .cons rfl (.cons rfl (.cons rfl (.cons rfl (.cons rfl (.cons rfl (.cons rfl .nil))))))
   case ht=>
    dsimp only
    rw [rN]
    exact .cons bN (.cons bN (.cons bN (.cons (.there .here) (.cons (.there .here) (.cons .here .nil)))))
 ·have e:k=xp.length:=by omega
  subst e
  rw [List.take_length] at *
  refine aY (E:=188) (sz:=3) (v:=pv) eR fun va vc e=>?_
  subst e
  (refine Jr<|JA rfl<|Jn<|Jq<|Jc rfl fun ar=>Jp<|Jl<|Jo<|Jt<|Jr<|Jv rfl<|Jv rfl<|ab (dK (.of rfl)) rfl ?_;refine bF rfl rfl ae ?_;refine JL rfl .here rfl<|Jv rfl<|Jv rfl<|Jv rfl<|ab (aU (.cons (.of rfl) (.cons (.of rfl) (.cons (.of rfl) .nil))) an) rfl ?_;refine bb (br (.cons (.of rfl) .nil) rfl rfl bM bM an) rfl fun _ _=>?_)
  refine bB (.of rfl) (.of rfl) fg .here an (by rfl) (fh rfl rfl rfl) (by rfl) (by rfl) (by rfl) eH (by rfl) ?_
  intro v'
  refine aY (by exact .here) fun a' gL e=>?_
  subst e
  (refine ab (dK (.of rfl)) rfl ?_;refine bF rfl rfl ae ?_;refine aq (.of rfl) (.of rfl) bN rfl rfl (ed rfl) (bC rfl) an ?_;refine Ji<|Jv rfl<|ab (dK (.of rfl)) rfl ?_;refine ab (cz .here) rfl ?_)
  have hAo:=EJ (r:=r) (v:=v) xp po so hi Fw
  have mO:∀ S:List Po,S.Perm ((qb r v po so xp).1++[⟨v,de,(qb r v po so xp).2⟩])→S.Pairwise (fun a b=>¬ Ps r b a<0)→S=k9 r po v so xp de:=fun S h1 h2=>GX hV h1 (h2.imp fun h=>fun c=>h (Pr.2 c))
  have ac3:=zB (r:=r) (v:=v) xp po so
  generalize qb r v po so xp=A at *
  obtain ⟨q,la⟩:=A
  dsimp only at *
  have Wa:jf (q++[⟨v,de,la⟩])=jf q++[.int .i64 v,.string de,.string la]:=DV _ _
  have zL:(q++[(⟨v,de,la⟩:Po)]).length=q.length+1:=by simp
  rw [← Wa,← zL]
  have iD:∀ y∈q++[(⟨v,de,la⟩:Po)],iK (dZ r) y.ou=true:=fun y hy=>by
   rw [fb]
   rcases List.mem_append.1 hy with hy | hy
   ·exact Ka ((hAo y hy).elim (fun e=>.inr (.inl e)) fun e=>.inr (.inr e))
   ·rw [List.mem_singleton.1 hy];exact Ka (.inr (.inl lT))
  have hlen:(q++[(⟨v,de,la⟩:Po)]).length≤100000:=by omega
  generalize q++[(⟨v,de,la⟩:Po)]=L at *
  refine JN bI rfl (fun w1 aS=>DU (r:=r.wp L) (RR.wp (cZ aS cX rfl) (c5 aS eR rfl) (cY aS fg rfl) (cR aS (by exact Take.there .here) rfl)) (by have:=cG;unfold mY at this;show r.de.length+r.ti.length≤_;omega)) ?_
  intro bm _
  dsimp only [id_eq,Zb,Za]
  rw [show nO (r.wp L)=nO r from rfl]
  (refine Jz rfl rfl fun _ _=>aq (.of rfl) (.of rfl) .here rfl rfl (ed rfl) (bC rfl) an ?_;refine Jn<|Jg<|Jv rfl<|ab (dK (.of rfl)) rfl ?_;refine bF rfl rfl ae ?_;refine JL rfl bN rfl<|ab (bn .nil (.cons (.of rfl) .nil)) rfl ?_)
  rename_i b61 acU KI ac1
  refine EY (b:=bm) (l:=nO r) (kv:=fun s:ByteArray=>Value.string s) (by exact Take.there .here) fun es ck dB=>?_
  with_reducible apply fI (As:=[row 188 3 (.slice a' L.length gL) L.length (jf L)])
  case hr=>exact aZ
  case hd=>rfl
  case ht=>exact .cons cX .nil
  case hc=>
   intro w1 zS aS uY hs1 B2 kp
   have Xn:KI ∉ zS:=kp KI _ _ (by exact Take.there .here)
   have UY:bm ∉ zS:=kp bm _ _ (by exact .here)
   have f14:w1.cell? ⟨KI,0,none⟩=some (.map (some bm)):=At.lit (by exact Take.there .here) rfl w1 aS
   exact GQ (r:=r) (l:=L) hs1 hd iD (by omega) f14 ⟨es,ck,aS.bA (by exact .here),dB⟩ Xn UY
  rintro S ⟨Xf,RK⟩
  rw [mO S Xf RK]
  have hlS:S.length=L.length:=Xf.length_eq
  dsimp only [id_eq,Zb,Za]
  unfold PB
  have hzl:(k9 r po v so xp de).length=L.length:=by rw [← mO S Xf RK];exact hlS
  refine Gy ?_
  first | with_reducible apply aM | with_reducible apply aN
  case he=>exact py rfl
  case hR=>
   intro w' au
   exact aB (.slice a' L.length gL) trivial (by exact .cons cX (.cons eR (.cons eR (.cons eR (.cons .here (.cons cX .nil)))))) au rfl
end Go.Proofs.A1
namespace Go.SL
open Go
theorem lD {P:Program} {c:Cx} {sl:aI} {hs hs':List a8} {fn:Func} {s t u:Tmp} {T:TypeId} {b o n:Nat} {cs vs:List Value} {E:TypeId} {fz:Nat×Nat} {x y:Value} (h:fn.results=#[.cell t T,.tmp s,.tmp u]) (hT:Ty P T true n) (hp:cF sl t=some (.pointer (some ⟨b,o,none⟩))) (ht:Take hs (SL.bA b (.cells cs.toArray E fz)) hs') (hv:dW cs o n=vs) (hl:vs.length=n) (hx:cF sl s=some x) (hy:cF sl u=some y):Ends P fn c sl hs (.tuple #[.agg vs.toArray,x,y]):=
 OC (xs:=[.cell t T,.tmp s,.tmp u]) (vs:=[.agg vs.toArray,x,y]) h (Gf.cons (RV.cell hp (HK (eF.bA ht hv) hl)) (Gf.cons (RV.tmp hx) (Gf.cons (RV.tmp hy) Gf.nil))) (by simp)
end Go.SL
namespace Go.Proofs.A1
open Go Go.SL
def HM (r:Ro) (t:Tk):Bool:=(r.de.getD (bu (ct r) t.de).toNat ⟨⟨#[]⟩,0,false⟩).pr
theorem L5 {r:Ro} {s d t p:Value} {x:gy} {b:Nat} {w:World} (h:RR w r s d t p) (hA:BR w b (RC r s d t p)) (hx:x.tk.de∈ct r):aj Tryz.prog 253 [.agg x.cells.toArray,.pointer (some ⟨b,0,none⟩)] w (.bool (HM r x.tk)):=by
 have h1:=Rd.one h.sr
 have h3:=Rd.one h.ti
 have h4:=Rd.one h.po
 have lT:=h.de
 obtain ⟨a3,r5,b3,o3,rfl,lC,fD,qY,oe⟩:=lT
 rw [bU] at *
 unfold maxLen at fD
 obtain ⟨j0,sX⟩:∃ i:Nat,bu (ct r) x.tk.de=(i:Nat):=⟨(bu (ct r) x.tk.de).toNat,by have:=dz hx;omega⟩
 have Bd:j0<r.de.length:=by
  obtain ⟨hl,_⟩:=er (l:=ct r) (s:=x.tk.de) (by omega)
  rw [sX,Int.toNat_natCast] at hl
  unfold ct at hl;rwa [Zd] at hl
 have e0:HM r x.tk=(r.de[j0]).pr:=by unfold HM;rw [sX,Int.toNat_natCast,List.getD_eq_getElem?_getD,Zc Bd];rfl
 have cE:=qY (gl Bd)
 have aC:=(oe j0 _ (eX Bd)).2
 unfold De.cells at aC
 have c2:=aC 2 _ rfl
 have RF:∀ w',aG [] w w'→aj Tryz.prog 155 [.agg #[.int .i64 r.lv,.int .i64 r.ma,s,.slice a3 r.de.length r5,t,p],.string x.tk.de] w' (.int .i64 (j0:Nat)):=fun w' hk=>sX ▸ fG x.tk.de (h.keeps hk)
 have f3:w.cell? ⟨b,3,none⟩=some (.slice a3 r.de.length r5):=hA 3 _ rfl
 have jR:∀ (j:Nat) (u:Value),[Value.int .i64 r.lv,.int .i64 r.ma,s,.slice a3 r.de.length r5,t,p][j]? = some u→w.cell? ⟨b,0+j,none⟩=some u:=hA
 clear hA
 rw [e0]
 unfold gy.cells
 refine ah Tryz.func253 rfl rfl ?_
 refine Jr<|Jy rfl rfl fun _ _=>Ja rfl<|Jn<|Jq ?_
 with_reducible refine dP 10 (by kernel_rfl) ?_
 (refine nC rfl rfl ae ?_;refine aH (ag (.of rfl) (At.base f3 rfl)) rfl ?_;refine aH (iv (eF.base jR rfl)) rfl ?_;refine nC rfl rfl ae ?_;refine aH (gz .here) rfl ?_;refine fc aZ rfl (fun w' au=>(RF w' (Mem.keeps au))) ?_;refine aH (az (.of rfl) (.of rfl) cE (by omega) (by omega) ba) rfl ?_;refine nC rfl rfl ae ?_;refine aH (ag (.of rfl) (At.base c2 rfl)) rfl ?_;refine aH (dw (.of rfl)) rfl ?_)
 with_reducible refine dY ?_
 refine Jn<|Je<|JT ?_
 rfl
theorem My {r:Ro} {s d t p:Value} {x:gy} {b:Nat} {w:World} (h:RR w r s d t p) (hA:BR w b (RC r s d t p)) (Bb:r.lv≤1000) (cG:r.ti.length≤1000000):bd Tryz.prog 255 [.agg x.cells.toArray,.pointer (some ⟨b,0,none⟩)] w [] (fun _:Value=>True) id (fun v=>[row 9 1 v r.lv.toNat (aO (cy r x.tk.de))]):=by
 have h1:=Rd.one h.sr
 have h2:=Rd.one h.de
 have h3:=Rd.one h.ti
 have h4:=Rd.one h.po
 have jR:∀ (j:Nat) (u:Value),[Value.int .i64 r.lv,.int .i64 r.ma,s,d,t,p][j]? = some u→w.cell? ⟨b,0+j,none⟩=some u:=hA
 clear hA
 unfold gy.cells
 refine aQ Tryz.func255 rfl rfl ?_
 (refine Jr<|Jy rfl rfl fun _ _=>Ja rfl<|Ji<|ab (iv (eF.base jR rfl)) rfl ?_;refine bF rfl rfl ae ?_;refine JL rfl .here rfl ?_)
 refine JN aZ rfl (fun w1 aS=>u5 x.tk.de (h.keeps aS.keeps) Bb cG) ?_
 intro v _
 dsimp only [id_eq,Zb,Za]
 refine aY (v:=v) (by exact .here) fun va vc e=>?_
 subst e
 refine Ja rfl<|Jn<|Je ?_
 first | with_reducible apply aM | with_reducible apply aN
 case he=>exact dp rfl rfl
 case hR=>
  intro w' au
  exact aB (.slice va r.lv.toNat vc) trivial (by exact .cons .here .nil) au rfl
theorem PN {kv:Value} {l:List gy} {g:gy→List ByteArray} {n:Nat} {f:FuncId} {first cap:List Value} [bS Tryz.prog f] {w:World} (h:Rd w kv 2 (jm l)) (hM:vN w l) (hn:l.length≤1000) (hg:∀ x∈l,(g x).length=n)
  (cn:∀ x∈l,∀ w',aG [] w w'→bd Tryz.prog f (first++[.agg x.cells.toArray]++cap) w' [] (fun _:Value=>True) id (fun v=>[row 9 1 v n (aO (g x))])) :
  bd Tryz.prog 254 [kv,.func (.func f) first.toArray cap.toArray] w [] (fun x:Value×List Value=>x.2.length=l.length) (fun x=>x.1) (fun x=>[row 32 1 x.1 l.length x.2,mE 9 x.2 (l.map fun y=>aO (g y))]):=by
 obtain ⟨a,cp,b,o,rfl,db,bT,ha,hc⟩:=h
 rw [eK] at *
 unfold maxLen at bT
 refine aQ Tryz.func254 rfl rfl ?_
 refine Jr<|Ja rfl<|Ji<|Ja rfl<|Jn<|Jq<|Jr<|Jv rfl<|JI rfl<|Jv rfl<|Jn<|J0 ?_
 refine aP 32 1 ?_
 refine kJ 9 ?_
 refine aX (ι:=Nat×Value×List Value) (fun x=>x.1≤l.length∧x.2.2.length=x.1) (fun x=>[(10,.int .i64 (x.1:Nat)),(9,.int .i64 (l.length:Nat)),(8,.slice a l.length cp),(5,x.2.1),(1,.func (.func f) first.toArray cap.toArray)])
  (fun x=>[row 32 1 x.2.1 x.1 x.2.2,mE 9 x.2.2 ((l.take x.1).map fun y=>aO (g y))]) (fun x=>l.length-x.1) ?_ ?_
 ·apply aJ (0,.slice none 0 0,[]) ⟨Zi _,rfl⟩
  case hs1=>exact cd
  case ht=>
   exact .cons (.there .here) (.cons .here .nil)
 rintro ⟨k,v,vs⟩ ⟨hk,nY⟩
 dsimp only at hk nY ⊢
 by_cases aL:k<l.length
 ·have cE:=ha (mA aL)
  have aC:=(hc k _ (kc aL)).2
  have iF:=cn _ (Zj aL)
  have Qt:=hg _ (Zj aL)
  have ij:=Rd.one (hM _ (Zj aL))
  have htk:(l.take (k+1)).map (fun y=>aO (g y))=((l.take k).map fun y=>aO (g y))++[aO (g l[k])]:=by
   rw [List.take_succ_eq_append_getElem aL,List.map_append];rfl
  have vJ:((l.take k).map fun y=>aO (g y)).length=k:=by rw [Zd,List.length_take];omega
  unfold gy.cells at aC iF
  refine aY (E:=32) (sz:=1) (v:=v) (by exact .here) fun va vc e=>?_
  subst e
  (refine Jr<|JA rfl<|Jn<|Jq<|Jd rfl fun ar=>Jk<|Jq<|J0<|Jr<|ab (fH cE ar) rfl ?_;refine ab (iv (eF.base aC rfl)) rfl ?_;refine Jz rfl rfl fun _ _=>aq (.of rfl) (.of rfl) .here rfl rfl (gF rfl ij) (bC rfl) an ?_;refine Jn<|Jg<|Jv rfl<|Jv rfl<|ab (cz .here) rfl ?_)
  refine JN bI rfl (fun w1 aS=>iF w1 aS.keeps) ?_
  intro hv _
  dsimp only [id_eq,Zb,Za]
  refine aY (E:=9) (sz:=1) (v:=hv) (by exact .here) fun iW jq e=>?_
  subst e
  refine bb (aA (.cons (.of rfl) .nil) rfl rfl rfl rfl) rfl (fun _ _=>?_)
  refine bB (.of rfl) (.of rfl) cX .here an (by rfl) (ed rfl) (by rfl) (by rfl) (by rfl) eH (by rfl) ?_
  intro v'
  refine Ja rfl<|Jx<|Jj<|Jt<|Jg<|JB rfl (by omega)<|Jv rfl<|Jn ?_
  refine my (E:=9) (vs:=vs) (v:=.slice iW n jq) (x:=aO (g l[k])) eR bN (by rw [dd,Qt]) (by rw [vJ,nY]) ?_
  apply aK (k+1,v',vs++[.slice iW n jq]) ⟨by show k+1≤_;omega,by rw [Zg,nY];rfl⟩ (by show l.length-(k+1)<l.length-k;omega)
  case hs1=>exact cd
  case ht=>
   dsimp only
   rw [htk]
   exact .cons (.there .here) (.cons .here .nil)
 ·have e:k=l.length:=by omega
  subst e
  rw [List.take_length] at *
  refine aY (E:=32) (sz:=1) (v:=v) (by exact .here) fun va vc e=>?_
  subst e
  refine Jr<|JA rfl<|Jn<|Jq<|Jc rfl fun ar=>Jp<|Jl<|Jo<|Jt<|Jr<|Jv rfl<|Ja rfl<|Jn<|Je ?_
  first | with_reducible apply aM | with_reducible apply aN
  case he=>exact dp rfl rfl
  case hR=>
   intro w' au
   exact aB (.slice va l.length vc,vs) nY (by exact .cons .here (.cons .here .nil)) au rfl
theorem pH {r:Ro} (h:oF r) {s:ByteArray} (hs:s∈ct r∨s∈cQ r):0≤dS r s∧dS r s<14:=by
 have hl:=h.len
 have l1:(ct r).length=r.de.length:=by unfold ct;rw [Zd]
 have l2:(cQ r).length=r.ti.length:=by unfold cQ;rw [Zd]
 rw [LK hs]
 by_cases c:s∈ct r
 ·have:=dz c
  have:=zm this
  rw [if_pos (by omega)];omega
 ·have h2:=cj.2 c
  have h3:=dz (hs.resolve_left c)
  have:=zm h3
  rw [if_neg (by omega)];omega
theorem oI {r:Ro} (h:oF r) {q:List Po} (hq:iR r q):q.length≤42:=by
 have hl:=h.lim
 have key:∀ p∈q,0≤p.lv*14+dS r p.ou∧p.lv*14+dS r p.ou<42:=fun p hp=>by
  have:=pH h (hq.out p hp)
  have:=hq.KA p hp
  omega
 have:=kD 42 (q.map fun p=>(p.lv*14+dS r p.ou).toNat) (by
  unfold List.Nodup
  rw [List.pairwise_map]
  refine (List.Pairwise.and_mem.1 hq.qv).imp fun {a b} ⟨ha,hb,RI⟩ e=>?_
  have:=key a ha
  have:=key b hb
  have:=pH h (hq.out a ha)
  have:=pH h (hq.out b hb)
  unfold pj at RI
  simp only [Bool.or_eq_true,Bool.and_eq_true,decide_eq_true_eq] at RI
  omega) (fun x hx=>by
  obtain ⟨p,hp,rfl⟩:=List.mem_map.1 hx
  have:=key p hp
  omega)
 rwa [Zd] at this
theorem GZ {r:Ro} (h:oF r) {po:List Po} {v:Int} {s d:ByteArray} (hv:0≤v∧v<r.lv) (qj:iR r po) (hs:s∈cm r) (lT:d∈ct r) (eJ:ee po v d=none) {p:List Nat} (hp:(fj r po v s).least (j6 r d) p):iR r (k9 r po v s p d):=
 (GY h.yS h.nd hv qj hs lT eJ hp.1 (hp.2.1.trans (IM lT).symm)).1
end Go.Proofs.A1
namespace Go.SL
open Go
def qI (E:TypeId) (vs:List Value) (xs:List (List Value)) (j:Nat):a8:=Kr (fT E (vs.take j) (xs.take j))
def qH (E:TypeId) (vs:List Value) (xs:List (List Value)) (j:Nat):a8:=Kr (fT E (vs.drop (j+1)) (xs.drop (j+1)))
theorem nP {E:TypeId} {v:Value} {x:List Value}:∀ {vs:List Value} {xs:List (List Value)} {j:Nat},vs[j]? = some v→xs[j]? = some x→fT E vs xs=fT E (vs.take j) (xs.take j)++row E 1 v x.length x::fT E (vs.drop (j+1)) (xs.drop (j+1))
 | [],_,j,h,_=>by simp at h
 | _::_,[],j,_,h=>by simp at h
 | v' :: vs, x' :: xs, 0, h1, h2 => by
  simp only [List.getElem?_cons_zero,Option.some.injEq] at h1 h2
  subst h1 h2
  rfl
 | v' :: vs, x' :: xs, j + 1, h1, h2 => by
  simp only [List.getElem?_cons_succ] at h1 h2
  show row E 1 v' x'.length x'::fT E vs xs=row E 1 v' x'.length x'::(fT E (vs.take j) (xs.take j)++_)
  rw [nP h1 h2];rfl
theorem wV:∀ (l:List a8) (A:a8) (m:List a8),Take (l++A::m) A (l++m)
 | [],_,_=>.here
 | _::l,A,m=>.there (wV l A m)
theorem oL:∀ (P l m:List a8),bo (P++(l++m)) l (P++m)
 | _,[],_=>.nil
 | P,A::l,m=>.cons (wV P A (l++m)) (oL P l m)
section
variable {P:Program} {c:Cx} {D:List Nat} {sl:aI} {hs hs':List a8} {X:Act→World→Prop}
theorem uf {E:TypeId} {vs:List Value} {xs:List (List Value)} {v:Value} {x:List Value} {n j:Nat} (ht:Take hs (mE E vs xs) hs') (hv:vs[j]? = some v) (hx:xs[j]? = some x) (hn:x.length=n)
  (k:Tr c D sl (row E 1 v n x::qI E vs xs j::qH E vs xs j::hs') X):Tr c D sl hs X:=by
 subst hn
 refine wI (As:=fT E vs xs) ht ?_
 rw [nP hv hx,Zh]
 refine rp (As:=fT E (vs.take j) (xs.take j)) (oL [] _ _) ?_
 refine rp (As:=fT E (vs.drop (j+1)) (xs.drop (j+1))) (hs':=Kr (fT E (vs.take j) (xs.take j))::row E 1 v x.length x::hs') (oL [_,_] _ _) ?_
 intro a w a7
 have hT:bo (Kr (fT E (vs.drop (j+1)) (xs.drop (j+1)))::Kr (fT E (vs.take j) (xs.take j))::row E 1 v x.length x::hs') [row E 1 v x.length x,qI E vs xs j,qH E vs xs j] hs':=.cons (.there (.there .here)) (.cons (.there .here) (.cons .here .nil))
 have hm:=a7.mem.iZ (hT.append (l8 D))
 exact k a w (a7.heap hm)
theorem wK {E:TypeId} {vs:List Value} {xs:List (List Value)} {v:Value} {x:List Value} {n:Nat} (j:Nat) {h1 h2:List a8} (ht:Take hs (qI E vs xs j) h1) (ht2:Take h1 (qH E vs xs j) h2) (ht3:Take h2 (row E 1 v n x) hs') (hv:vs[j]? = some v) (hx:xs[j]? = some x) (hn:x.length=n)
  (k:Tr c D sl (mE E vs xs::hs') X):Tr c D sl hs X:=fun a w a7=>by
 subst hn
 have hT:bo hs [qI E vs xs j,qH E vs xs j,row E 1 v x.length x] hs':=.cons ht (.cons ht2 (.cons ht3 .nil))
 have hT2:bo ([qI E vs xs j,qH E vs xs j,row E 1 v x.length x]++(hs'++l8 D)) [qI E vs xs j,row E 1 v x.length x,qH E vs xs j] (hs'++l8 D):=.cons .here (.cons (.there .here) (.cons .here .nil))
 have hm:=(a7.mem.iZ (hT.append (l8 D))).iZ hT2
 obtain ⟨kk,fp,qV,⟨f1,f2',rfl,g1,⟨f2,f3',rfl,g2,⟨f3,f4,rfl,g3,g4⟩⟩⟩,hb⟩:=hm
 refine k a w (a7.heap ⟨kk,(f1++(f2++f3))++f4,by simpa only [Zh] using qV,⟨f1++(f2++f3),f4,rfl,?_,g4⟩,by simpa only [Zh] using hb⟩)
 show bY (hp w) (fT E vs xs) _
 rw [nP hv hx]
 exact bY.append_iff.2 ⟨f1,f2++f3,rfl,g1,⟨f2,f3,rfl,g2,g3⟩⟩
end
attribute [irreducible] qI qH
end Go.SL
namespace Go.Proofs.A1
open Go Go.SL
theorem HY {α β:Type} (f:α→β) (p:β→Bool) (l:List α):gK p (l.map f)=gK (fun x=>p (f x)) l:=by
 unfold gK
 rw [Zd]
 congr 1
 congr 1
 funext i
 rw [List.getElem?_map,Option.map_map];rfl
theorem HJ (r:Ro) (l:List gy):sy r (c8 l)=gK (fun x:gy=>HM r x.tk) l:=by
 unfold sy c8
 rw [HY];rfl
def tt (r:Ro) (x:Value×Value×Value×Value):List a8:=[J1 r x.1,J2 r x.2.1,J3 r x.2.2.1,PB x.2.2.2 r.po]
theorem E0 {c:Cx} {D:List Nat} {sl:aI} {hs hs':List a8} {X:Act→World→Prop} {j8:List Wy} {xv:Value} {xp:List Nat} {xf:Nat} (hx:(⟨xv,xp,xf⟩:Wy)∈j8∨(⟨xv,xp,xf⟩:Wy)=⟨.slice none 0 0,[],0⟩) (ht:Take hs (ir j8) hs')
  (k:∀ nq,Tr c D sl (row 3 1 xv xp.length (fN xp)::ir nq::hs') X):Tr c D sl hs X:=by
 rcases hx with hx | hx
 ·refine uh hx ht fun nq _=>?_
  intro a w a7
  have hT:bo (ir nq::row 3 1 xv xp.length (fN xp)::hs') [row 3 1 xv xp.length (fN xp),ir nq] hs':=.cons (.there .here) (.cons .here .nil)
  have Fu:St c D sl (ir nq::row 3 1 xv xp.length (fN xp)::hs') a w:=a7
  have hm:=Fu.mem.iZ (hT.append (l8 D))
  exact k nq a w (a7.heap hm)
 ·cases hx
  refine aP 3 1 ?_
  intro a w a7
  have hT:bo (row 3 1 (.slice none 0 0) 0 []::hs) [row 3 1 (.slice none 0 0) 0 [],ir j8] hs':=.cons .here (.cons ht .nil)
  have hm:=a7.mem.iZ (hT.append (l8 D))
  exact k j8 a w (a7.heap hm)
set_option maxHeartbeats 4000000 in
theorem DG {r:Ro} {s d t p kv:Value} {l:List gy} {w:World} (h:RR w r s d t p) (dB:oF r) (V8:r.po.length≤500) (hw:Rd w kv 2 (jm l)) (hM:vN w l) (hT:Ki r (c8 l)) :
  bd Tryz.prog 165 [RA r s d t p,kv] w [] (fun _:Value×Value×Value×Value=>True) (fun x=>.tuple #[RA (lb r (c8 l)).1 x.1 x.2.1 x.2.2.1 x.2.2.2,.int .i64 (lb r (c8 l)).2.1,.int .i64 (lb r (c8 l)).2.2]) (fun x=>tt (lb r (c8 l)).1 x):=by
 have Bb:=dB.lim
 have sW:=dB.len
 have cG:mY r:=by unfold mY;omega
 have Tj:=hT.C3
 unfold c8 at Tj
 rw [Zd] at Tj
 have h1:=Rd.one h.sr
 have h2:=Rd.one h.de
 have h3:=Rd.one h.ti
 have h4:=Rd.one h.po
 have BX:=hw
 obtain ⟨a,cp,b,o,rfl,db,bT,ha,hc⟩:=hw
 rw [eK] at *
 unfold maxLen at bT
 have Tf:=HJ r l
 unfold RA
 refine aQ Tryz.func165 rfl rfl ?_
 refine Jr<|Jy rfl rfl fun _ _=>Jz rfl rfl fun _ _=>Ja rfl<|Ja rfl<|Ji<|Jv rfl<|ab (bn .nil (.cons (.of rfl) .nil)) rfl ?_
 rename_i b2 tb b4 u9
 with_reducible apply ai
 case hr=>exact aZ
 case hd=>rfl
 case hc=>
  intro w' au
  have hA:BR w' b2 [.int .i64 r.lv,.int .i64 r.ma,s,d,t,p]:=BR.of au (by exact Take.there .here)
  have hR:=h.keeps au.keeps
  exact Ed (f:=253) (p:=fun x:gy=>HM r x.tk) (first:=[]) (cap:=[.pointer (some ⟨b2,0,none⟩)]) (BX.keeps au.keeps) (fun x hx w2 eC=>L5 (hR.keeps eC) (hA.keeps eC) (hT.de _ (List.mem_map_of_mem hx)))
 rw [← Tf]
 (refine Ja rfl<|Jn<|Jq<|Jr<|Jv rfl<|JG rfl<|Jn<|gm rfl (fun ar=>?_) fun ar=>?_;refine Jr<|ab (aU .nil an) rfl ?_;refine Jv rfl<|aq (.of rfl) (.of rfl) .here rfl rfl (iu rfl rfl rfl rfl rfl rfl) (bC rfl) an ?_;refine Ja rfl<|Ja rfl<|Jn<|Ju ?_;rotate_left;refine Jk<|Jr<|ab (cz (.there .here)) rfl ?_;rotate_right)
 ·have e0:lb r (c8 l)=(Ro.nil,sy r (c8 l),31):=by unfold lb;rw [if_pos (by omega)]
  rw [e0]
  dsimp only
  refine aP 186 2 ?_
  refine aP 90 3 ?_
  refine aP 187 3 ?_
  refine aP 188 3 ?_
  first | with_reducible apply aM | with_reducible apply aN
  case he=>exact lD rfl inferInstance rfl eR an (by rfl) (by rfl) (by rfl)
  case hR=>
   intro w' au
   exact aB (.slice none 0 0,.slice none 0 0,.slice none 0 0,.slice none 0 0) trivial (by exact .cons cX (.cons bN (.cons (.there .here) (.cons .here .nil)))) au rfl
 have Yz:¬ 0≤sy r (c8 l):=by omega
 refine JN bI rfl (fun w1 aS=>yL (h.keeps aS.keeps) cG (by omega)) ?_
 intro y _
 dsimp only [id_eq,Zb,Za]
 obtain ⟨s1,d1,t1,p1⟩:=y
 dsimp only
 unfold RA PB
 refine aY (E:=186) (sz:=2) (v:=s1) (by exact .here) fun _ _ e=>?_
 have k1:s1.oneCell'=true:=by rw [e];rfl
 clear e
 refine aY (E:=90) (sz:=3) (v:=d1) (by exact Take.there .here) fun _ _ e=>?_
 have k2:d1.oneCell'=true:=by rw [e];rfl
 clear e
 refine aY (E:=187) (sz:=3) (v:=t1) bN fun _ _ e=>?_
 have k3:t1.oneCell'=true:=by rw [e];rfl
 clear e
 refine aY (E:=188) (sz:=3) (v:=p1) cX fun _ _ e=>?_
 have k4:p1.oneCell'=true:=by rw [e];rfl
 clear e
 (refine Jz rfl rfl fun _ _=>aq (.of rfl) (.of rfl) .here rfl rfl (iu rfl rfl k1 k2 k3 k4) (bC rfl) an ?_;refine Ji<|Jv rfl<|ab (bn .nil (.cons (.of rfl) .nil)) rfl ?_)
 rename_i b8 Yo
 with_reducible apply jg
 case hr=>exact aZ
 case hd=>rfl
 case ht=>exact bo.nil
 case hc=>
  intro w1 fp aS _ hs1
  obtain rfl:fp=[]:=hs1
  have hA:BR w1 b2 [.int .i64 r.lv,.int .i64 r.ma,s,d,t,p]:=BR.of aS qm
  have hR:=h.keeps aS.keeps
  exact PN (f:=255) (first:=[]) (cap:=[.pointer (some ⟨b2,0,none⟩)]) (g:=fun x:gy=>cy r x.tk.de) (n:=r.lv.toNat) (BX.keeps aS.keeps) (hM.keeps aS.keeps) (by omega) (fun x _=>by unfold cy;simp) (fun x hx w2 eC=>My (hR.keeps eC) (hA.keeps eC) (by omega) (by omega))
 rintro ⟨hv,nY⟩ P0
 dsimp only at P0
 dsimp only [id_eq,Zb,Za]
 refine aY (E:=32) (sz:=1) (v:=hv) (by exact .here) fun kF jJ e=>?_
 subst e
 refine Ja rfl<|Jn<|Jq<|Jr<|Jv rfl<|JI rfl<|Jv rfl<|Jn<|J0 ?_
 have Yh:∀ i,(jT r (c8 l) i).length≤r.po.length:=fun i=>by rw [kr];exact List.length_filter_le _ _
 have xz:(c8 l).length=l.length:=by unfold c8;rw [Zd]
 refine aX (ι:=Nat×Value×List Po) (fun y=>y.1≤l.length∧y.2.2=jT r (c8 l) y.1) (fun y=>[(34,.int .i64 (y.1:Nat)),(33,.int .i64 (l.length:Nat)),(32,.slice a l.length cp),(9,.slice kF l.length jJ),(8,.pointer (some ⟨b8,0,none⟩)),(4,.pointer (some ⟨b4,0,none⟩)),(1,.slice a l.length cp)])
  (fun y=>[JP b8 r s1 d1 t1 (y.2.1),J1 r s1,J2 r d1,J3 r t1,row 188 3 y.2.1 y.2.2.length (jf y.2.2),row 32 1 (.slice kF l.length jJ) l.length nY,mE 9 nY (l.map fun y=>aO (cy r y.tk.de)),bA b4 (.cells #[.int .i64 0,.int .i64 0,.slice none 0 0,.slice none 0 0,.slice none 0 0,.slice none 0 0] 41 (0,0))]) (fun y=>l.length-y.1) ?_ ?_
 ·apply aJ (0,p1,r.po) ⟨Zi _,rfl⟩
  case hs1=>exact cd
  case ht=>exact .cons bN (.cons bN (.cons bN (.cons bN (.cons bN (.cons .here (.cons .here (.cons .here .nil)))))))
 rintro ⟨i,pv,L⟩ ⟨hi,hL⟩
 dsimp only at hi hL ⊢
 by_cases aL:i<l.length
 ·have Qn:=mA aL
  have cE:=ha Qn
  have aC:=(hc i _ (kc aL)).2
  have jo:=Zj aL
  have Xg:=hM _ jo
  have N9:(c8 l).getD i Tk.zero=l[i].tk:=by unfold c8;rw [List.getD_eq_getElem?_getD,List.getElem?_map,Zc aL];rfl
  have fw:jT r (c8 l) (i+1)=nh r l[i].tk l[i].tk.so.length (jT r (c8 l) i):=by rw [jT,N9]
  have hls:=hT.lv l[i].tk (List.mem_map_of_mem jo)
  have hdi:L.length≤r.po.length:=by rw [hL];exact Yh i
  rw [← hL] at fw
  have WX:∀ k,(nh r l[i].tk k L).length≤r.po.length:=fun k=>Nat.le_trans (by rw [mS];exact List.length_filter_le _ _) hdi
  have P1:∃ u,nY[i]? = some u:=⟨nY[i],Zc (by omega)⟩
  have SD:(l.map fun y=>aO (cy r y.tk.de))[i]? = some (aO (cy r l[i].tk.de)):=by rw [List.getElem?_map,Zc aL];rfl
  unfold gy.cells at aC
  generalize hti:l[i]=ti at *
  obtain ⟨tk,tv⟩:=ti
  dsimp only at *
  obtain ⟨sa,NI,sb,R2,rfl,N0,A7,SX,SU⟩:=Xg
  rw [cg] at *
  unfold maxLen at A7
  (refine Jr<|JA rfl<|Jn<|Jq<|Jd rfl fun ar=>Jk<|Jq<|J0<|Jr<|Jv rfl<|ab (fH cE ar) rfl ?_;refine ab (iv (eF.base aC rfl)) rfl ?_;refine Jz rfl rfl fun _ _=>Ja rfl<|aq (.of rfl) (.of rfl) .here rfl rfl (gF rfl rfl) (bC rfl) an ?_;refine Ji<|bF rfl rfl ae ?_;refine JL rfl .here rfl<|JI rfl<|Jv rfl<|Jn<|J0 ?_)
  rename_i OH Xa
  obtain ⟨u,hu⟩:=P1
  have QK:(cy r tk.de).length=r.lv.toNat:=by unfold cy;simp
  refine uf (E:=9) (j:=i) (n:=r.lv.toNat) BQ hu SD (by rw [dd,QK]) ?_
  refine c7 (E:=9) (sz:=1) (v:=u) (by exact .here) (by omega) fun gu uc Gu e VM SI VL VK=>?_
  subst e
  refine c7 (E:=32) (sz:=1) (v:=.slice kF l.length jJ) iS (by omega) fun gh hc mP e WJ WI WH WG=>?_
  cases e
  have f1:(nY++mP)[i*1]? = some (.slice (some ⟨gu,0,none⟩) r.lv.toNat uc):=by
   rw [Nat.mul_one,List.getElem?_append_left (by omega)];exact hu
  have f2:∀ k,k<r.lv.toNat→(aO (cy r tk.de)++Gu)[k*1]? = some (.string (jB r (k:Nat) tk.de)):=fun k hk=>by
   rw [Nat.mul_one,List.getElem?_append_left (by rw [dd,QK];exact hk)]
   unfold aO cy
   rw [List.getElem?_map,List.getElem?_map,List.getElem?_range hk];rfl
  refine aX (ι:=Nat×Value×List Po) (fun y=>y.1≤tk.so.length∧y.2.2=nh r tk y.1 L) (fun y=>[(42,.int .i64 (y.1:Nat)),(41,.int .i64 (tk.so.length:Nat)),(40,.slice sa tk.so.length NI),(34,.int .i64 (i:Nat)),(33,.int .i64 (l.length:Nat)),(32,.slice a l.length cp),(10,.int .i64 (i:Nat)),(11,.pointer (some ⟨OH,0,none⟩)),(9,.slice (some ⟨gh,0,none⟩) l.length jJ),(8,.pointer (some ⟨b8,0,none⟩)),(4,.pointer (some ⟨b4,0,none⟩)),(1,.slice a l.length cp)])
   (fun y=>[JP b8 r s1 d1 t1 (y.2.1),J1 r s1,J2 r d1,J3 r t1,row 188 3 y.2.1 y.2.2.length (jf y.2.2),bA gh (.cells (nY++mP).toArray 32 (0,0)),bA gu (.cells (aO (cy r tk.de)++Gu).toArray 9 (0,0)),qI 9 nY (l.map fun y=>aO (cy r y.tk.de)) i,qH 9 nY (l.map fun y=>aO (cy r y.tk.de)) i,bA b4 (.cells #[.int .i64 0,.int .i64 0,.slice none 0 0,.slice none 0 0,.slice none 0 0,.slice none 0 0] 41 (0,0)),bA OH (.cells #[.string tk.de,.slice sa tk.so.length NI] 78 (0,0))]) (fun y=>tk.so.length-y.1) ?_ ?_
  ·apply aJ (0,pv,L) ⟨Zi _,rfl⟩
   case hs1=>exact cd
   case ht=>exact .cons fg (.cons fg (.cons fg (.cons fg (.cons fg (.cons .here (.cons .here (.cons .here (.cons .here (.cons (.there .here) (.cons .here .nil))))))))))
  rintro ⟨k,He,L2⟩ ⟨hk,tN⟩
  dsimp only at hk tN ⊢
  by_cases vJ:k<tk.so.length
  ·have H9:=SX (mC vJ)
   have H7:w.cell? ⟨sb,R2+k*1,none⟩=some (.string tk.so[k]):=(SU k _ (jG vJ)).2 0 _ rfl
   have f3:=f2 k (by omega)
   have jb:tk.at k=tk.so[k]:=by unfold Tk.at;rw [List.getD_eq_getElem?_getD,Zc vJ];rfl
   have hdk:=WX k
   rw [← tN] at hdk
   have hs2:nh r tk (k+1) L=if np r tk k then L2.filter (fun x=>!xq (k:Nat) tk.de x) else L2:=by rw [nh,← tN]
   have Yi:np r tk k=(!decide (tk.so[k]=⟨#[]⟩)&&!decide (tk.so[k]=jB r (k:Nat) tk.de)):=by unfold np;rw [jb]
   generalize jB r (k:Nat) tk.de=ck at *
   generalize tk.so[k]=sk at *
   (refine Jr<|JA rfl<|Jn<|Jq<|Jd rfl fun ar=>Jk<|Jq<|J0<|Jr<|Jv rfl<|ab (az (.of rfl) (.of rfl) H9 (by omega) ar ba) rfl ?_;refine ab (ag (.of rfl) (At.base H7 rfl)) rfl ?_;refine Ja rfl<|Ja rfl<|Ji<|Jv rfl<|ab (hY (.of rfl) (.of rfl)) rfl ?_;refine Jv rfl<|je rfl rfl rfl rfl ?_;refine je rfl rfl rfl rfl ?_;refine je rfl rfl rfl rfl ?_;refine aF rfl rfl inferInstance (fun hg bj=>(az (.bE hg rfl) (.bE hg rfl) rfl (by omega) (by assumption) ba)) rfl ?_;refine aF rfl rfl inferInstance (fun hg bj=>(ag (.bE hg rfl) (At.kz fg f1))) rfl ?_;refine je rfl rfl rfl rfl ?_;refine aF rfl rfl inferInstance (fun hg bj=>(az (.bE hg rfl) (.bE hg rfl) rfl (by omega) (by omega) ba)) rfl ?_;refine aF rfl rfl inferInstance (fun hg bj=>(ag (.bE hg rfl) (At.kz qm f3))) rfl ?_;refine aF rfl rfl inferInstance (fun hg bj=>(hY (.bE hg rfl) (.bE hg rfl))) rfl ?_;refine ab (bV (.of rfl) rfl) rfl ?_;refine Jn<|nB rfl (fun ar=>?_) fun ar=>?_;refine Jg<|Jv rfl<|bF rfl rfl ae ?_;refine JL rfl mq rfl ?_;rotate_left;refine Jw<|Jj<|Jt<|Jg<|JB rfl (by omega)<|Jv rfl<|Jn ?_;rotate_right)
   ·obtain ⟨q1,q2⟩:sk≠⟨#[]⟩∧sk≠ck:=by simpa using ar
    have CX:np r tk k=true:=by rw [Yi,decide_eq_false q1,decide_eq_false q2];rfl
    rw [CX,if_pos rfl] at hs2
    obtain ⟨L3,Om⟩:∃ L3,L3=nh r tk (k+1) L:=⟨_,rfl⟩
    rw [← Om] at hs2
    with_reducible apply fI (As:=[JP b8 r s1 d1 t1 He,row 188 3 He L2.length (jf L2)])
    case hr=>exact eh
    case hd=>rfl
    case ht=>exact sS
    case hc=>
     intro w1 zS aS uY hs1 B2 kp
     exact wB (r:=r) (s:=s1) (d:=d1) (t:=t1) (p:=He) (b:=b8) (l:=L2) (k:Nat) tk.de uY hs1 (by omega)
    intro p3 _
    dsimp only [id_eq,Zb,Za]
    unfold RB PB
    rw [← hs2]
    refine Jx<|Jj<|Jt<|Jg<|JB rfl (by omega)<|Jv rfl<|Jn ?_
    apply aK (k+1,p3,L3) ⟨by show k+1≤_;omega,Om⟩ (by show tk.so.length-(k+1)<tk.so.length-k;omega)
    case hs1=>exact cd
    case ht=>exact sS
   ·have CX:np r tk k=false:=by
     rw [Yi]
     simp only [ne_eq,Decidable.not_not,decide_eq_true_eq,Classical.not_and_iff_not_or_not] at ar
     rcases ar with e | e
     ·rw [decide_eq_true e];rfl
     ·rw [decide_eq_true e];simp
    rw [CX,if_neg (by decide)] at hs2
    apply aK (k+1,He,L2) ⟨by show k+1≤_;omega,hs2.symm⟩ (by show tk.so.length-(k+1)<tk.so.length-k;omega)
    case hs1=>exact cd
    case ht=>exact sS
  ·have e:k=tk.so.length:=by omega
   subst e
   refine Jr<|JA rfl<|Jn<|Jq<|Jc rfl fun ar=>Jp<|Jl<|Jo<|Jj<|Jt<|Jg<|JB rfl (by omega)<|Jv rfl<|Jn ?_
   refine c6 (E:=9) (sz:=1) (g:=gu) qm VM SI VL VK ?_
   refine c6 (E:=32) (sz:=1) (g:=gh) qm WJ WI WH WG ?_
   have UE:(aO (cy r tk.de)).length=r.lv.toNat:=by rw [dd,QK]
   with_reducible apply wK (E:=9) (vs:=nY) (xs:=l.map fun y=>aO (cy r y.tk.de)) (v:=.slice (some ⟨gu,0,none⟩) r.lv.toNat uc) (x:=aO (cy r tk.de)) (n:=r.lv.toNat) i
   case ht=>exact BQ
   case ht2=>exact BQ
   case ht3=>exact Take.there .here
   case hv=>exact hu
   case hn=>exact UE
   case hx=>exact SD
   case k=>
    apply aK (i+1,He,L2) ⟨by show i+1≤_;omega,by show L2=jT r (c8 l) (i+1);rw [fw,tN]⟩ (by show l.length-(i+1)<l.length-i;omega)
    case hs1=>exact cd
    case ht=>exact .cons bN (.cons bN (.cons bN (.cons bN (.cons bN (.cons (.there .here) (.cons .here (.cons .here .nil)))))))
 ·have e:i=l.length:=by omega
  subst e
  refine Jr<|JA rfl<|Jn<|Jq<|Jc rfl fun ar=>Jp<|Jl<|Jo<|Jt<|Jr ?_
  have Yw:L=r.po.filter (fun p=>!IL r (c8 l) l.length p):=by rw [hL,kr]
  have FG:=Yh l.length
  rw [← hL] at FG
  with_reducible apply fI (As:=[JP b8 r s1 d1 t1 pv,J1 r s1,J2 r d1,J3 r t1,row 188 3 pv L.length (jf L)])
  case hr=>exact bI
  case hd=>rfl
  case ht=>exact sS
  case hc=>
   intro w1 zS aS uY hs1 B2 kp
   exact Lb (r:=r.wp L) (s:=s1) (d:=d1) (t:=t1) (p:=pv) (b:=b8) uY hs1 cG (by show L.length≤1000;omega)
  rintro ⟨pw,ff⟩ ⟨QG,UZ⟩
  have qj:(r.wp L).po.filter ff=tQ r (c8 l):=by
   show L.filter ff=Ae (ct r) (jT r (c8 l) (c8 l).length)
   rw [xz,← hL]
   exact Ny.tid dB.yS (by rw [Yw];exact dB.val.acy.sub _) ⟨QG,UZ⟩
  dsimp only [id_eq,Zb,Za]
  rw [qj]
  unfold RW RB PB
  dsimp only [Zb,Za]
  unfold JP J1 J2 J3
  rw [show (r.wp L).lv=r.lv from rfl,show (r.wp L).ma=r.ma from rfl,show (r.wp L).sr=r.sr from rfl,show (r.wp L).de=r.de from rfl,show (r.wp L).ti=r.ti from rfl]
  refine Jn<|Jq<|Jr<|Jv rfl<|JI rfl<|Jv rfl<|Jn<|J0 ?_
  refine aX (ι:=Nat×Value×List Po) (fun y=>y.1≤l.length∧jv r (c8 l) (tQ r (c8 l)) y.1=some y.2.2∧iR r y.2.2) (fun y=>[(69,.int .i64 (y.1:Nat)),(68,.int .i64 (l.length:Nat)),(67,.slice a l.length cp),(9,.slice kF l.length jJ),(8,.pointer (some ⟨b8,0,none⟩)),(4,.pointer (some ⟨b4,0,none⟩)),(1,.slice a l.length cp)])
   (fun y=>[JP b8 r s1 d1 t1 (y.2.1),J1 r s1,J2 r d1,J3 r t1,row 188 3 y.2.1 y.2.2.length (jf y.2.2),row 32 1 (.slice kF l.length jJ) l.length nY,mE 9 nY (l.map fun y=>aO (cy r y.tk.de)),bA b4 (.cells #[.int .i64 0,.int .i64 0,.slice none 0 0,.slice none 0 0,.slice none 0 0,.slice none 0 0] 41 (0,0))]) (fun y=>l.length-y.1) ?_ ?_
  ·have Xp:jv r (c8 l) (tQ r (c8 l)) 0=some (tQ r (c8 l)):=by rw [jv]
   have h01:=(pT dB hT).1
   generalize tQ r (c8 l)=D0 at *
   apply aJ (0,pw,D0) ⟨Zi _,Xp,h01⟩
   case hs1=>exact cd
   case ht=>exact sS
  clear QG UZ qj ff pw FG Yw hL pv L hi
  rintro ⟨i,pv,L⟩ ⟨hi,hL,hLV⟩
  dsimp only at hi hL hLV ⊢
  by_cases aL:i<l.length
  ·have cE:=ha (mA aL)
   have aC:=(hc i _ (kc aL)).2
   have jo:=Zj aL
   have Xg:=hM _ jo
   have rO:i<(c8 l).length:=by omega
   have UR:(c8 l)[i]=l[i].tk:=List.getElem_map _
   have N9:(c8 l).getD i Tk.zero=l[i].tk:=by rw [List.getD_eq_getElem?_getD,Zc rO,Option.getD_some,UR]
   have Tc:=fun k hk q h1=>PJ dB hT rO (k:=k) (q0:=L) (q:=q) hk hL h1
   have Tl:=fun k=>yX dB hT (Zj rO) (k:=k)
   rw [UR] at Tc Tl
   have UI:jv r (c8 l) (tQ r (c8 l)) (i+1)=o6 r l[i].tk l[i].tk.so.length L:=by rw [jv,hL,N9];rfl
   have hrf:=fun h2=>Lw (r:=r) (l:=c8 l) (po:=tQ r (c8 l)) rO hL h2
   have hls:=hT.lv l[i].tk (List.mem_map_of_mem jo)
   have P1:∃ u,nY[i]? = some u:=⟨nY[i],Zc (by omega)⟩
   have SD:(l.map fun y=>aO (cy r y.tk.de))[i]? = some (aO (cy r l[i].tk.de)):=by rw [List.getElem?_map,Zc aL];rfl
   unfold gy.cells at aC
   generalize hti:l[i]=ti at *
   obtain ⟨tk,tv⟩:=ti
   dsimp only at *
   obtain ⟨sa,NI,sb,R2,rfl,N0,A7,SX,SU⟩:=Xg
   rw [cg] at *
   unfold maxLen at A7
   (refine Jr<|JA rfl<|Jn<|Jq<|Jd rfl fun ar=>Jk<|Jq<|J0<|Jr<|Jv rfl<|ab (fH cE ar) rfl ?_;refine ab (iv (eF.base aC rfl)) rfl ?_;refine Jz rfl rfl fun _ _=>Ja rfl<|aq (.of rfl) (.of rfl) .here rfl rfl (gF rfl rfl) (bC rfl) an ?_;refine Ji<|bF rfl rfl ae ?_;refine JL rfl .here rfl<|JI rfl<|Jv rfl<|Jn<|J0 ?_)
   rename_i Q6 W8
   obtain ⟨u,hu⟩:=P1
   have QK:(cy r tk.de).length=r.lv.toNat:=by unfold cy;simp
   refine uf (E:=9) (j:=i) (n:=r.lv.toNat) BQ hu SD (by rw [dd,QK]) ?_
   refine c7 (E:=9) (sz:=1) (v:=u) (by exact .here) (by omega) fun gu uc Gu e VM SI VL VK=>?_
   subst e
   refine c7 (E:=32) (sz:=1) (v:=.slice kF l.length jJ) iS (by omega) fun gh hc mP e WJ WI WH WG=>?_
   cases e
   have f1:(nY++mP)[i*1]? = some (.slice (some ⟨gu,0,none⟩) r.lv.toNat uc):=by
    rw [Nat.mul_one,List.getElem?_append_left (by omega)];exact hu
   have f2:∀ k,k<r.lv.toNat→(aO (cy r tk.de)++Gu)[k*1]? = some (.string (jB r (k:Nat) tk.de)):=fun k hk=>by
    rw [Nat.mul_one,List.getElem?_append_left (by rw [dd,QK];exact hk)]
    unfold aO cy
    rw [List.getElem?_map,List.getElem?_map,List.getElem?_range hk];rfl
   refine aX (ι:=Nat×Value×List Po) (fun y=>y.1≤tk.so.length∧o6 r tk y.1 L=some y.2.2) (fun y=>[(77,.int .i64 (y.1:Nat)),(76,.int .i64 (tk.so.length:Nat)),(75,.slice sa tk.so.length NI),(69,.int .i64 (i:Nat)),(68,.int .i64 (l.length:Nat)),(67,.slice a l.length cp),(14,.int .i64 (i:Nat)),(15,.pointer (some ⟨Q6,0,none⟩)),(9,.slice (some ⟨gh,0,none⟩) l.length jJ),(8,.pointer (some ⟨b8,0,none⟩)),(4,.pointer (some ⟨b4,0,none⟩)),(1,.slice a l.length cp)])
    (fun y=>[JP b8 r s1 d1 t1 (y.2.1),J1 r s1,J2 r d1,J3 r t1,row 188 3 y.2.1 y.2.2.length (jf y.2.2),bA gh (.cells (nY++mP).toArray 32 (0,0)),bA gu (.cells (aO (cy r tk.de)++Gu).toArray 9 (0,0)),qI 9 nY (l.map fun y=>aO (cy r y.tk.de)) i,qH 9 nY (l.map fun y=>aO (cy r y.tk.de)) i,bA b4 (.cells #[.int .i64 0,.int .i64 0,.slice none 0 0,.slice none 0 0,.slice none 0 0,.slice none 0 0] 41 (0,0)),bA Q6 (.cells #[.string tk.de,.slice sa tk.so.length NI] 78 (0,0))]) (fun y=>tk.so.length-y.1) ?_ ?_
   ·have Xp:o6 r tk 0 L=some L:=by rw [o6]
    apply aJ (0,pv,L) ⟨Zi _,Xp⟩
    case hs1=>exact cd
    case ht=>exact .cons fg (.cons fg (.cons fg (.cons fg (.cons fg (.cons .here (.cons .here (.cons .here (.cons .here (.cons (.there .here) (.cons .here .nil))))))))))
   rintro ⟨k,He,L2⟩ ⟨hk,tN⟩
   dsimp only at hk tN ⊢
   obtain ⟨TI,eJ⟩:=Tc k hk L2 tN
   have hfw:=oI dB TI
   by_cases vJ:k<tk.so.length
   ·have H9:=SX (mC vJ)
    have H7:w.cell? ⟨sb,R2+k*1,none⟩=some (.string tk.so[k]):=(SU k _ (jG vJ)).2 0 _ rfl
    have f3:=f2 k (by omega)
    have jb:tk.at k=tk.so[k]:=by unfold Tk.at;rw [List.getD_eq_getElem?_getD,Zc vJ];rfl
    have hs2:o6 r tk (k+1) L=if nR r tk k then (qn (r.wp L2) (k:Nat) tk.so[k] tk.de).map (fun p=>k9 r L2 (k:Nat) tk.so[k] p tk.de) else some L2:=by rw [o6,tN,Option.bind_some,jb]
    have Ya:nR r tk k=true↔¬ ((tk.so[k]=⟨#[]⟩∨tk.so[k]=⟨#[45]⟩)∨tk.so[k]=jB r (k:Nat) tk.de):=by
     rw [mb,jb]
     constructor
     ·rintro ⟨x1,x2,x3⟩ ((e | e) | e)
      ·exact x1 e
      ·exact x3 e
      ·exact x2 e
     ·intro e
      exact ⟨fun c=>e (.inl (.inl c)),fun c=>e (.inr c),fun c=>e (.inl (.inr c))⟩
    have X9:=Tl k vJ
    rw [jb] at X9
    have CX:nR r tk k=true→np r tk k=true:=fun c=>by
     obtain ⟨x1,x2,_⟩:=mb.1 c
     exact kW.2 ⟨x1,x2⟩
    generalize jB r (k:Nat) tk.de=ck at *
    generalize tk.so[k]=sk at *
    (refine Jr<|JA rfl<|Jn<|Jq<|Jd rfl fun ar=>Jk<|Jq<|J0<|Jr<|Jv rfl<|ab (az (.of rfl) (.of rfl) H9 (by omega) ar ba) rfl ?_;refine ab (ag (.of rfl) (At.base H7 rfl)) rfl ?_;refine Ja rfl<|Ja rfl<|Jn<|Jq<|Jr<|Jv rfl<|ab (dR (.of rfl) (.of rfl)) rfl ?_;refine Jv rfl<|je rfl rfl rfl rfl ?_;refine aF rfl rfl inferInstance (fun hg bj=>(dR (.bE hg rfl) (.of rfl))) rfl ?_;refine ab (bR (.of rfl) rfl) rfl ?_;refine Jv rfl<|je rfl rfl rfl rfl ?_;refine je rfl rfl rfl rfl ?_;refine je rfl rfl rfl rfl ?_;refine aF rfl rfl inferInstance (fun hg bj=>(az (.bE hg rfl) (.bE hg rfl) rfl (by omega) (by assumption) ba)) rfl ?_;refine aF rfl rfl inferInstance (fun hg bj=>(ag (.bE hg rfl) (At.kz fg f1))) rfl ?_;refine je rfl rfl rfl rfl ?_;refine aF rfl rfl inferInstance (fun hg bj=>(az (.bE hg rfl) (.bE hg rfl) rfl (by omega) (by omega) ba)) rfl ?_;refine aF rfl rfl inferInstance (fun hg bj=>(ag (.bE hg rfl) (At.kz qm f3))) rfl ?_;refine aF rfl rfl inferInstance (fun hg bj=>(dR (.bE hg rfl) (.bE hg rfl))) rfl ?_;refine ab (bR (.of rfl) rfl) rfl ?_;refine Jn<|nB rfl (fun ar=>?_) fun ar=>?_;refine Jp<|Jo<|Jt<|Jg<|JB rfl (by omega)<|Jv rfl<|Jn ?_;rotate_left;refine Jk<|Jr<|ab (cz .here) rfl ?_;refine Jv rfl<|Jv rfl<|bF rfl rfl ae ?_;refine JL rfl mq rfl ?_;rotate_right)
    ·have hj:nR r tk k=false:=by
      rw [← Bool.not_eq_true]
      exact fun c=>Ya.1 c ar
     rw [hj,if_neg (by decide)] at hs2
     apply aK (k+1,He,L2) ⟨by show k+1≤_;omega,hs2⟩ (by show tk.so.length-(k+1)<tk.so.length-k;omega)
     case hs1=>exact cd
     case ht=>exact sS
    have hj:nR r tk k=true:=Ya.2 (fun c=>c.elim (fun c=>c.elim ar.1.1 ar.1.2) ar.2)
    obtain ⟨⟨j1,j2⟩,rN,fw,_⟩:=X9 hj
    have wc:=eJ k (Nat.le_refl _) vJ (CX hj)
    rw [hj,if_pos rfl] at hs2
    refine JN pb rfl (fun w1 aS=>NB (r:=r.wp L2) (k:Nat) sk tk.de (RR.wp (cZ aS (by exact Take.there .here) rfl) (c5 aS bN rfl) (cY aS cX rfl) (cR aS eR rfl)) dB.yS.wp TI.wp dB.OD.wp rN fw) ?_
    rintro ⟨U3,⟨xv,xp,xf⟩,j8⟩ ⟨XR,XQ,XP⟩
    dsimp only at XR XQ XP
    dsimp only [Wy.cells,Zb,Za]
    (refine Jv rfl<|JJ rfl rfl<|JJ rfl rfl<|Jz rfl rfl fun _ _=>aq (.of rfl) (.of rfl) .here rfl rfl (gF XP rfl) (bC rfl) an ?_;refine Ja rfl<|Jn<|Jq<|Jr<|Jv rfl<|JH rfl<|Jn<|nB rfl (fun ar=>?_) fun ar=>?_;refine Jr<|ab (aU .nil an) rfl ?_;refine Jv rfl<|aq (.of rfl) (.of rfl) BU rfl rfl (iu rfl rfl rfl rfl rfl rfl) (bC rfl) an ?_;refine Ja rfl<|Ja rfl<|Jn<|Ju<|Jm<|Jh<|Jh<|Jm<|Jm<|Jh<|Jh<|Jm<|Jh ?_;rotate_left;refine Jk<|Jg<|Jv rfl<|Jv rfl<|ab (cz .here) rfl ?_;refine bF rfl rfl ae ?_;refine JL rfl lp rfl ?_;rotate_right)
    ·have hf:U3=false:=by simpa using ar
     subst hf
     have e1:o6 r tk (k+1) L=none:=by rw [hs2,wE (XQ rfl)];rfl
     have e2:jv r (c8 l) (tQ r (c8 l)) (i+1)=none:=by rw [UI];exact E5 e1 (by omega)
     have e3:=wZ e2 (m:=(c8 l).length) (by omega)
     have e4:lb r (c8 l)=(Ro.nil,((i:Nat):Int),18):=by
      unfold lb
      rw [if_neg Yz]
      show (match jv r (c8 l) (tQ r (c8 l)) (c8 l).length with | none=>(Ro.nil,((Ha r (c8 l) (tQ r (c8 l)):Nat):Int),(18:Int)) | some po=>(r.wp po,0,0))=_
      rw [e3,hrf e2]
     rw [e4]
     dsimp only
     refine aP 186 2 ?_
     refine aP 90 3 ?_
     refine aP 187 3 ?_
     refine aP 188 3 ?_
     first | with_reducible apply aM | with_reducible apply aN
     case he=>exact lD rfl inferInstance rfl eR an (by rfl) (by rfl) (by rfl)
     case hR=>
      intro w' au
      exact aB (.slice none 0 0,.slice none 0 0,.slice none 0 0,.slice none 0 0) trivial (by exact .cons cX (.cons bN (.cons (.there .here) (.cons .here .nil)))) au rfl
    have hf:U3=true:=by simpa using ar
    subst hf
    obtain ⟨hle,Oi⟩:=XR rfl
    have hwp:=wC hle
    have Mu:(fj r L2 (k:Nat) sk).least (j6 r tk.de) xp:=hle
    have ko:o6 r tk (k+1) L=some (k9 r L2 (k:Nat) sk xp tk.de):=by rw [hs2,hwp];rfl
    have hVn:=GZ dB ⟨j1,j2⟩ TI rN fw wc Mu
    have hxp:∀ i∈xp,i<r.ti.length:=Wn.AR Mu.1
    have NX:xp.length≤6:=by have:=Wn.uF Mu.1;show _≤_;have h6:(fj r L2 (k:Nat) sk).n=r.ti.length:=rfl;omega
    refine E0 Oi (by exact Take.there .here) fun nq=>?_
    with_reducible apply fI (As:=[JP b8 r s1 d1 t1 He,J1 r s1,J2 r d1,J3 r t1,row 188 3 He L2.length (jf L2),row 3 1 xv xp.length (fN xp)])
    case hr=>exact Km
    case hd=>rfl
    case ht=>exact .cons cX (.cons cX (.cons cX (.cons cX (.cons cX (.cons .here .nil)))))
    case hc=>
     intro w1 zS aS uY hs1 B2 kp
     exact R4 (r:=r) (s:=s1) (d:=d1) (t:=t1) (p:=He) (b:=b8) (po:=L2) xf (k:Nat) sk tk.de uY hs1 cG (by omega) (by omega) dB.OD hxp TI.out fw hVn.qv
    intro p3 _
    dsimp only [id_eq,Zb,Za]
    unfold RB PB
    generalize k9 r L2 (k:Nat) sk xp tk.de=L3 at *
    refine Jx<|Jj<|Jt<|Jg<|JB rfl (by omega)<|Jv rfl<|Jn ?_
    apply aK (k+1,p3,L3) ⟨by show k+1≤_;omega,ko⟩ (by show tk.so.length-(k+1)<tk.so.length-k;omega)
    case hs1=>exact cd
    case ht=>exact sS
   ·have e:k=tk.so.length:=by omega
    subst e
    refine Jr<|JA rfl<|Jn<|Jq<|Jc rfl fun ar=>Jp<|Jl<|Jo<|Jj<|Jt<|Jg<|JB rfl (by omega)<|Jv rfl<|Jn ?_
    refine c6 (E:=9) (sz:=1) (g:=gu) qm VM SI VL VK ?_
    refine c6 (E:=32) (sz:=1) (g:=gh) qm WJ WI WH WG ?_
    have UE:(aO (cy r tk.de)).length=r.lv.toNat:=by rw [dd,QK]
    with_reducible apply wK (E:=9) (vs:=nY) (xs:=l.map fun y=>aO (cy r y.tk.de)) (v:=.slice (some ⟨gu,0,none⟩) r.lv.toNat uc) (x:=aO (cy r tk.de)) (n:=r.lv.toNat) i
    case ht=>exact BQ
    case ht2=>exact BQ
    case ht3=>exact Take.there .here
    case hv=>exact hu
    case hn=>exact UE
    case hx=>exact SD
    case k=>
     have hne:jv r (c8 l) (tQ r (c8 l)) (i+1)=some L2:=by rw [UI,tN]
     apply aK (i+1,He,L2) ⟨by show i+1≤_;omega,hne,TI⟩ (by show l.length-(i+1)<l.length-i;omega)
     case hs1=>exact cd
     case ht=>exact .cons bN (.cons bN (.cons bN (.cons bN (.cons bN (.cons (.there .here) (.cons .here (.cons .here .nil)))))))
  ·have e:i=l.length:=by omega
   subst e
   refine Jr<|JA rfl<|Jn<|Jq<|Jc rfl fun ar=>Jp<|Jl<|Jo<|Jt<|Jr<|ab (cz .here) rfl ?_
   have e4:lb r (c8 l)=(r.wp L,0,0):=by
    unfold lb
    rw [if_neg Yz]
    show (match jv r (c8 l) (tQ r (c8 l)) (c8 l).length with | none=>(Ro.nil,((Ha r (c8 l) (tQ r (c8 l)):Nat):Int),(18:Int)) | some po=>(r.wp po,0,0))=_
    rw [xz,hL]
   rw [e4]
   dsimp only
   refine aY (E:=188) (sz:=3) (v:=pv) eR fun _ _ e=>?_
   have k5:pv.oneCell'=true:=by rw [e];rfl
   clear e
   (refine aq (.of rfl) (.of rfl) BQ rfl rfl (iu rfl rfl k1 k2 k3 k5) (bC rfl) an ?_;refine Ja rfl<|Ja rfl<|Jn<|Je ?_)
   first | with_reducible apply aM | with_reducible apply aN
   case he=>exact lD rfl inferInstance rfl .here an (by rfl) (by rfl) (by rfl)
   case hR=>
    intro w' au
    exact aB (s1,d1,t1,pv) trivial (by exact .cons bN (.cons bN (.cons bN (.cons bN .nil)))) au rfl
def jd (r:Ro) (l:List Tk):Ro×Int×Int:=if fU r≠0 then (Ro.nil,0,fU r) else if Ac r l≠0 then (Ro.nil,0,Ac r l) else lb r l
theorem Cf (l:List gy):∀ r∈jm l,r.length=2:=fun r hr=>by obtain ⟨x,_,rfl⟩:=List.mem_map.1 hr;rfl
theorem lY {c:Cx} {hs hs':List a8} {w:World} {l:List gy} {E:TypeId} {v:Value} {n:Nat} (hm:Mem c hs w) (ht:Take hs (row E 2 v n (jm l).flatten) hs') (hn:l.length=n):Rd w v 2 (jm l):=hm.ph ht rfl (Cf l) (by rw [eK,hn])
theorem bz (l m:List a8):bo (l++m) l m:=oL [] l m
theorem dG {c:Cx} {D:List Nat} {sl:aI} {hs hs':List a8} {X:Act→World→Prop} {r:Ro} {s d t p:Value} (ht:bo hs (tt r (s,d,t,p)) hs')
  (k:s.oneCell'=true→d.oneCell'=true→t.oneCell'=true→p.oneCell'=true→Tr c D sl (J1 r s::J2 r d::J3 r t::J4 r p::hs') X):Tr c D sl hs X:=by
 intro a w a7
 have hm:=a7.mem.iZ (ht.append (l8 D))
 have k2:Tr c D sl (J1 r s::J2 r d::J3 r t::J4 r p::hs') X:=by
  refine aY (E:=186) (sz:=2) (v:=s) .here fun _ _ e=>?_
  have k1:s.oneCell'=true:=by rw [e];rfl
  clear e
  refine aY (E:=90) (sz:=3) (v:=d) (.there .here) fun _ _ e=>?_
  have k2:d.oneCell'=true:=by rw [e];rfl
  clear e
  refine aY (E:=187) (sz:=3) (v:=t) bN fun _ _ e=>?_
  have k3:t.oneCell'=true:=by rw [e];rfl
  clear e
  refine aY (E:=188) (sz:=3) (v:=p) cX fun _ _ e=>?_
  have k4:p.oneCell'=true:=by rw [e];rfl
  clear e
  exact k k1 k2 k3 k4
 exact k2 a w (a7.heap hm)
set_option maxHeartbeats 1000000 in
theorem zG {r:Ro} {s d t p kv:Value} {l:List gy} {w:World} (h:RR w r s d t p) (cG:mY r) (hw:Rd w kv 2 (jm l)) (hM:vN w l) :
  bd Tryz.prog 45 [RA r s d t p,kv] w [] (fun _:Value×Value×Value×Value=>True) (fun x=>.tuple #[RA (jd r (c8 l)).1 x.1 x.2.1 x.2.2.1 x.2.2.2,.int .i64 (jd r (c8 l)).2.1,.int .i64 (jd r (c8 l)).2.2]) (fun x=>tt (jd r (c8 l)).1 x):=by
 have h1:=Rd.one h.sr
 have h2:=Rd.one h.de
 have h3:=Rd.one h.ti
 have h4:=Rd.one h.po
 have UQ:=Rd.one hw
 have iQ:∀ w',aG [] w w'→aj Tryz.prog 34 [.agg #[.int .i64 r.lv,.int .i64 r.ma,s,d,t,p]] w' (.int .i64 (fU r)):=fun w' hk=>eu (h.keeps hk) cG
 have htk:∀ w',aG [] w w'→aj Tryz.prog 164 [.agg #[.int .i64 r.lv,.int .i64 r.ma,s,d,t,p],kv] w' (.int .i64 (Ac r (c8 l))):=fun w' hk=>rf (h.keeps hk) (hw.keeps hk) (hM.keeps hk)
 unfold RA
 refine aQ Tryz.func45 rfl rfl ?_
 (refine Jr<|Jy rfl rfl fun _ _=>Jz rfl rfl fun _ _=>Ja rfl<|Ja rfl<|Jn<|Jq<|Jr<|ab (cz (.there .here)) rfl ?_;refine ai bI rfl (fun w' au=>(iQ w' (Mem.keeps au))) ?_;refine Ja rfl<|Ji<|Jv rfl<|JD rfl<|Jn<|gm rfl (fun ar=>?_) fun ar=>?_;refine Jr<|ab (aU .nil an) rfl ?_;refine Jv rfl<|aq (.of rfl) (.of rfl) .here rfl rfl (iu rfl rfl rfl rfl rfl rfl) (bC rfl) an ?_;refine Ja rfl<|Ja rfl<|Jn<|Ju ?_;rotate_left;refine Jk<|Jq<|Jr<|ab (cz (.there .here)) rfl ?_;refine Jv rfl<|ai aZ rfl (fun w' au=>(htk w' (Mem.keeps au))) ?_;refine Ja rfl<|Ji<|Jv rfl<|JD rfl<|Jn<|gm rfl (fun ar=>?_) fun ar=>?_;refine Jr<|ab (aU .nil an) rfl ?_;refine Jv rfl<|aq (.of rfl) (.of rfl) .here rfl rfl (iu rfl rfl rfl rfl rfl rfl) (bC rfl) an ?_;refine Ja rfl<|Ja rfl<|Jn<|Ju ?_;rotate_left;refine Jk<|Jr<|ab (cz (.there .here)) rfl ?_;refine Jv rfl ?_;rotate_right;rotate_right)
 ·have e:jd r (c8 l)=(Ro.nil,0,fU r):=if_pos ar
  rw [e]
  dsimp only
  refine aP 186 2 ?_;refine aP 90 3 ?_;refine aP 187 3 ?_;refine aP 188 3 ?_
  first | with_reducible apply aM | with_reducible apply aN
  case he=>exact lD rfl inferInstance rfl eR an (by rfl) (by rfl) (by rfl)
  case hR=>
   intro w' au
   exact aB (.slice none 0 0,.slice none 0 0,.slice none 0 0,.slice none 0 0) trivial (by exact .cons cX (.cons bN (.cons (.there .here) (.cons .here .nil)))) au rfl
 ·have e:jd r (c8 l)=(Ro.nil,0,Ac r (c8 l)):=by unfold jd;rw [if_neg (by assumption),if_pos ar]
  rw [e]
  dsimp only
  refine aP 186 2 ?_;refine aP 90 3 ?_;refine aP 187 3 ?_;refine aP 188 3 ?_
  first | with_reducible apply aM | with_reducible apply aN
  case he=>exact lD rfl inferInstance rfl eR an (by rfl) (by rfl) (by rfl)
  case hR=>
   intro w' au
   exact aB (.slice none 0 0,.slice none 0 0,.slice none 0 0,.slice none 0 0) trivial (by exact .cons cX (.cons bN (.cons (.there .here) (.cons .here .nil)))) au rfl
 have zO:fU r=0:=Decidable.not_not.1 (by assumption)
 have P6:Ac r (c8 l)=0:=Decidable.not_not.1 ar
 have e:jd r (c8 l)=lb r (c8 l):=by unfold jd;rw [if_neg (not_not_intro zO),if_neg (not_not_intro P6)]
 have dB:=DZ zO
 have hf:=oI dB dB.val
 rw [e]
 refine JN aZ rfl (fun w1 aS=>DG (h.keeps aS.keeps) dB (by omega) (hw.keeps aS.keeps) (hM.keeps aS.keeps) (ym.1 P6).2) ?_
 generalize lb r (c8 l)=R
 obtain ⟨R,at_,e_⟩:=R
 rintro ⟨s1,d1,t1,p1⟩ _
 dsimp only
 unfold RA
 refine dG (r:=R) (s:=s1) (d:=d1) (t:=t1) (p:=p1) (bz _ _) fun k1 k2 k3 k4=>?_
 (refine JJ rfl rfl<|JJ rfl rfl<|JJ rfl rfl<|aq (.of rfl) (.of rfl) eR rfl rfl (iu rfl rfl k1 k2 k3 k4) (bC rfl) an ?_;refine Ja rfl<|Ja rfl<|Jn<|Je ?_)
 first | with_reducible apply aM | with_reducible apply aN
 case he=>exact lD rfl inferInstance rfl .here an (by rfl) (by rfl) (by rfl)
 case hR=>
  intro w' au
  exact aB (s1,d1,t1,p1) trivial (by exact .cons (.there .here) (.cons (.there .here) (.cons (.there .here) (.cons (.there .here) .nil)))) au rfl
set_option maxHeartbeats 1000000 in
theorem Ns {r:Ro} {s d t p:Value} {x:gy} {w:World} (h:RR w r s d t p) (cG:mY r) (hM:Rd w x.v 1 (iT x.tk.so)) :
  bd Tryz.prog 48 [RA r s d t p,.agg x.cells.toArray] w [] (fun _:Value×Value×Value×Value=>True) (fun y=>.tuple #[RA (jd r [x.tk]).1 y.1 y.2.1 y.2.2.1 y.2.2.2,.int .i64 (jd r [x.tk]).2.2]) (fun y=>tt (jd r [x.tk]).1 y):=by
 have h1:=Rd.one h.sr
 have h2:=Rd.one h.de
 have h3:=Rd.one h.ti
 have h4:=Rd.one h.po
 have UQ:=Rd.one hM
 unfold RA gy.cells
 refine aQ Tryz.func48 rfl rfl ?_
 (refine Jr<|Jy rfl rfl fun _ _=>Jy rfl rfl fun _ _=>Jz rfl rfl fun _ _=>Ja rfl<|Ji<|ab (cz bN) rfl ?_;refine ab (cz (.there .here)) rfl ?_;refine bb (br (.cons (.of rfl) .nil) rfl rfl bM bM an) rfl fun _ _=>?_)
 rename_i b2 tb b3 sZ b4 u9 bq mg
 refine bQ (g:=bq) (E:=78) (xs:=[.string x.tk.de,x.v]) (ys:=(jm [x]).flatten) 1 2 (by exact .here) (by exact rfl) rfl rfl ?_
 with_reducible apply jg
 case hr=>exact aZ
 case hd=>rfl
 case ht=>exact bo.nil
 case hc=>
  intro w1 fp aS _ hs1
  obtain rfl:fp=[]:=hs1
  have hR:Rd w1 (.slice (some ⟨bq,0,none⟩) 1 1) 2 (jm [x]):=lY (l:=[x]) aS (by exact .here) (by exact rfl)
  exact zG (l:=[x]) (h.keeps aS.keeps) cG hR (fun y hy=>by rw [List.mem_singleton.1 hy];exact hM.keeps aS.keeps)
 rw [show c8 [x]=[x.tk] from rfl]
 generalize jd r [x.tk]=R
 obtain ⟨R,at_,e_⟩:=R
 rintro ⟨s1,d1,t1,p1⟩ _
 dsimp only
 unfold RA
 refine dG (r:=R) (s:=s1) (d:=d1) (t:=t1) (p:=p1) (bz _ _) fun k1 k2 k3 k4=>?_
 (refine Jv rfl<|JJ rfl rfl<|JJ rfl rfl<|JJ rfl rfl<|Jz rfl rfl fun _ _=>aq (.of rfl) (.of rfl) .here rfl rfl (iu rfl rfl k1 k2 k3 k4) (bC rfl) an ?_;refine Ja rfl<|Ja rfl<|Ji<|ab (cz .here) rfl ?_;refine Jv rfl<|aq (.of rfl) (.of rfl) qm rfl rfl (iu rfl rfl k1 k2 k3 k4) (bC rfl) an ?_;refine Ja rfl<|Jn<|Je ?_)
 first | with_reducible apply aM | with_reducible apply aN
 case he=>exact rW rfl inferInstance rfl .here an (by rfl) (by rfl)
 case hR=>
  intro w' au
  exact aB (s1,d1,t1,p1) trivial (by exact .cons bN (.cons bN (.cons bN (.cons bN .nil)))) au rfl
end Go.Proofs.A1
