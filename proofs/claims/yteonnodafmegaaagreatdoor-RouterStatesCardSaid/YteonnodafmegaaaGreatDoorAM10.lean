/- Parts of the proof: P5q P5r P5t P5s P5u P5v P5x P5y P5z P6a KY GkMapR KZ GkEnds3 LA P6b GkPoolJ LB LC. -/
import Derived.Test.YteonnodafmegaaaGreatDoorAM09
import Derived.Test.YteonnodafmegaaaGreatDoorAM04
import Derived.Test.YteonnodafmegaaaGreatDoorAM03
import Derived.Laws.IdiomRangeMap
set_option linter.unusedSectionVars false
set_option linter.unusedVariables false
set_option linter.unusedSimpArgs false
namespace Go.Proofs.A1
open Go Go.SL
theorem lf {r:Ro} {W:List Po→Jb→Option (List Nat)}:∀ {a b:List Jb} {po:List Po},rm r W po (a++b)=(rm r W po a).bind fun q=>rm r W q b
 | [],b,po=>rfl
 | j :: a, b, po => by
  rw [List.cons_append,rm,rm]
  cases W po j with
  | none=>rfl
  | some p=>exact lf
def uG (r:Ro) (t:Tk):Nat→List Jb
 | 0=>[]
 | k+1=>uG r t k++if nK r t k then [⟨(k:Nat),t.at k,t.de⟩] else []
def uF (r:Ro) (l:List Tk):Nat→List Jb
 | 0=>[]
 | i+1=>uF r l i++uG r (l.getD i Tk.zero) (l.getD i Tk.zero).so.length
def jW (r:Ro) (po:List Po) (j:Jb):Option (List Nat):=if iF (cm r) j.d then qj (r.wp po) j.v j.s j.d else none
theorem Kx {r:Ro} {v:Int} {so de:ByteArray} {p:List Nat} (h:qj r v so de=some p):(fo r r.po v so).least (nk r de) p:=by
 unfold qj at h
 split at h
 ·cases h
 ·rename_i e
  cases h
  exact Wn.Qj e
theorem Nc (r:Ro):∀ po j p,jW r po j=some p→(fo r po j.v j.s).ok p∧(fo r po j.v j.s).fin p=jU r j.d:=by
 intro po j p h
 unfold jW at h
 split at h
 ·rename_i hd
  have hl:=Kx h
  exact ⟨hl.1,hl.2.1.trans (Iy (r:=r) (eX.1 hd)).symm⟩
 ·cases h
theorem rp {r:Ro} {t:Tk} (ht:t.de∈cm r):∀ (k:Nat) (po:List Po),oV r t k po=rm r (jW r) po (uG r t k)
 | 0,po=>rfl
 | k + 1, po => by
  rw [oV,uG,lf,rp ht k po]
  congr 1
  funext q
  cases nK r t k with
  | false=>rfl
  | true =>
   rw [if_pos rfl,if_pos rfl,rm]
   unfold jW
   rw [if_pos (eX.2 ht)]
   cases qj (r.wp q) (k:Nat) (t.at k) t.de with
   | none=>rfl
   | some p=>rfl
theorem rn {r:Ro} {l:List Tk} (hl:∀ t∈l,t.de∈cm r) (po:List Po):∀ i,i≤l.length→jq r l po i=rm r (jW r) po (uF r l i)
 | 0,_=>rfl
 | i + 1, hi => by
  rw [jq,uF,lf,rn hl po i (by omega)]
  congr 1
  funext q
  refine rp ?_ _ _
  rw [List.getD_eq_getElem?_getD,List.getElem?_eq_getElem (by omega)]
  exact hl _ (List.getElem_mem _)
theorem nM {r:Ro} {t:Tk} {k:Nat} {j:Jb}:j∈uG r t k↔∃ i,i<k∧nK r t i=true∧j=⟨(i:Nat),t.at i,t.de⟩:=by
 induction k with
 | zero=>simp [uG]
 | succ k ih =>
  rw [uG,List.mem_append,ih]
  constructor
  ·rintro (⟨i,h1,h2,h3⟩ | h)
   ·exact ⟨i,by omega,h2,h3⟩
   ·split at h
    ·rename_i hb
     exact ⟨k,by omega,hb,List.mem_singleton.1 h⟩
    ·cases h
  ·rintro ⟨i,h1,h2,h3⟩
   by_cases e:i=k
   ·subst e
    right
    rw [if_pos h2,h3]
    exact List.mem_singleton.2 rfl
   ·exact .inl ⟨i,by omega,h2,h3⟩
theorem nL {r:Ro} {l:List Tk} {i:Nat} {j:Jb} (hi:i≤l.length):j∈uF r l i↔∃ m,∃ hm:m<i,∃ k,k<(l[m]'(by omega)).so.length∧nK r (l[m]'(by omega)) k=true∧j=⟨(k:Nat),(l[m]'(by omega)).at k,(l[m]'(by omega)).de⟩:=by
 induction i with
 | zero=>simp [uF]
 | succ i ih =>
  rw [uF,List.mem_append,ih (by omega),List.getD_eq_getElem?_getD,List.getElem?_eq_getElem (show i<l.length by omega),Option.getD_some,nM]
  constructor
  ·rintro (⟨m,hm,h⟩ | h)
   ·exact ⟨m,by omega,h⟩
   ·exact ⟨i,by omega,h⟩
  ·rintro ⟨m,hm,h⟩
   by_cases e:m=i
   ·subst e;exact .inr h
   ·exact .inl ⟨m,by omega,h⟩
def XR (a b:Jb):Prop:=¬(b.v=a.v∧b.d=a.d)
theorem y7 (r:Ro) (t:Tk):∀ k,(uG r t k).Pairwise XR
 | 0=>.nil
 | k + 1 => by
  rw [uG,List.pairwise_append]
  refine ⟨y7 r t k,?_,fun a ha b hb=>?_⟩
  ·split
   ·exact List.pairwise_singleton _ _
   ·exact .nil
  ·split at hb
   ·obtain ⟨i,h1,_,rfl⟩:=nM.1 ha
    rw [List.mem_singleton.1 hb]
    rintro ⟨e,_⟩
    dsimp only at e
    omega
   ·cases hb
theorem xO {l:List Tk} (hn:(l.map Tk.de).Nodup) {i j:Nat} (hi:i<l.length) (hj:j<l.length) (hne:i≠j):l[i].de≠l[j].de:=by
 intro e
 have h:=List.pairwise_iff_getElem.1 hn
 have hl:(l.map Tk.de).length=l.length:=List.length_map _
 rcases Nat.lt_trichotomy i j with c | c | c
 ·exact h i j (by omega) (by omega) c (by simpa using e)
 ·exact hne c
 ·exact h j i (by omega) (by omega) c (by simpa using e.symm)
theorem y6 {r:Ro} {l:List Tk} (hn:(l.map Tk.de).Nodup):∀ i,i≤l.length→(uF r l i).Pairwise XR
 | 0,_=>.nil
 | i + 1, hi => by
  rw [uF,List.pairwise_append]
  refine ⟨y6 hn i (by omega),y7 r _ _,fun a ha b hb=>?_⟩
  rw [List.getD_eq_getElem?_getD,List.getElem?_eq_getElem (show i<l.length by omega),Option.getD_some] at hb
  obtain ⟨m,hm,k,_,_,rfl⟩:=(nL (by omega)).1 ha
  obtain ⟨k',_,_,rfl⟩:=nM.1 hb
  rintro ⟨_,e⟩
  exact xO hn (show i<l.length by omega) (show m<l.length by omega) (by omega) e
theorem kK {r:Ro} {t:Tk} {k:Nat}:mZ r t k=true↔t.at k≠⟨#[]⟩∧t.at k≠kQ r (k:Nat) t.de:=by
 unfold mZ;simp
theorem lZ {r:Ro} {t:Tk} {k:Nat}:nK r t k=true↔t.at k≠⟨#[]⟩∧t.at k≠kQ r (k:Nat) t.de∧t.at k≠dash:=by
 unfold nK;rw [Bool.and_eq_true,kK];simp [and_assoc]
theorem Tk.at_mem {t:Tk} {k:Nat} (h:k<t.so.length):t.at k∈t.so:=by
 unfold Tk.at
 rw [List.getD_eq_getElem?_getD,List.getElem?_eq_getElem h];exact List.getElem_mem h
def tG (r:Ro) (l:List Tk):List Po:=Ar (cm r) (jJ r l l.length)
def QX (r:Ro) (l:List Tk) (v:Int) (y:ByteArray):Prop:=∃ t∈l,∃ i,i<t.so.length∧mZ r t i=true∧v=(i:Nat)∧y=t.de
theorem pS {r:Ro} (h:sJ r) {l:List Tk} (hl:JR r l):iL r (tG r l)∧(∀ v y,y∈cm r→¬ QX r l v y→dY (tG r l) v y=dY r.po v y∧qh (tG r l) v (cz r) y=qh r.po v (cz r) y)∧∀ v y,QX r l v y→dY (tG r l) v y=none:=by
 obtain ⟨f,hf,e⟩:=DM (cm r) (jJ r l l.length)
 have hg:∀ p,(!Ix r l l.length p)=true↔¬ QX r l p.lv p.ou:=fun p=>by
  rw [Bool.not_eq_true',← Bool.not_eq_true]
  exact not_congr Mu
 unfold tG
 rw [e,kg] at *
 obtain ⟨k1,k2,k3⟩:=Ms (g:=fun p=>!Ix r l l.length p) (f:=f) h.xo h.val (fun p hp ht=>(hg p).2 fun ⟨t,htl,i,_,_,_,e5⟩=>h.xo.dt _ (hl.de t htl) (e5 ▸ ht)) hf.sw.de hf.sw.up hf.us
 refine ⟨k1,fun v y hy hd=>k2 v y hy fun p _ e1 e2=>(hg p).2 (by rw [e1,e2];exact hd),fun v y hd=>k3 v y fun p _ e1 e2=>?_⟩
 have:¬ (!Ix r l l.length p)=true:=fun q=>(hg p).1 q (by rw [e1,e2];exact hd)
 exact Bool.not_eq_true _ ▸ this
theorem y5 {r:Ro} (h:sJ r) {l:List Tk} (hl:JR r l) {t:Tk} (ht:t∈l) {k:Nat} (hk:k<t.so.length) (hj:nK r t k=true):(0≤((k:Nat):Int)∧((k:Nat):Int)<r.lv)∧t.at k∈cz r∧t.de∈cm r∧dY (tG r l) (k:Nat) t.de=none:=by
 have h1:=hl.lv t ht
 obtain ⟨j1,j2,j3⟩:=lZ.1 hj
 refine ⟨by omega,?_,hl.de t ht,(pS h hl).2.2 _ _ ⟨t,ht,k,hk,kK.2 ⟨j1,j2⟩,rfl,rfl⟩⟩
 rcases hl.so t ht _ (Tk.at_mem hk) with e | e | e
 ·exact absurd e j1
 ·exact absurd e j3
 ·exact e
theorem O2 {r:Ro} (h:sJ r) {l:List Tk} (hl:JR r l) {i:Nat} (hi:i<l.length) {k:Nat} (hk:k≤l[i].so.length) {q0 q:List Po} (h0:jq r l (tG r l) i=some q0) (h1:oV r l[i] k q0=some q) :
  iL r q∧∀ m,k≤m→m<l[i].so.length→mZ r l[i] m=true→dY q (m:Nat) l[i].de=none:=by
 have lO:=hl.de l[i] (List.getElem_mem hi)
 rw [rn hl.de _ i (by omega)] at h0
 rw [rp lO] at h1
 have h2:rm r (jW r) (tG r l) (uF r l i++uG r l[i] k)=some q:=by rw [lf,h0];exact h1
 have xC:∀ j∈uF r l i++uG r l[i] k,∃ m,∃ hm:m<l.length,∃ n,n<l[m].so.length∧nK r l[m] n=true∧j=⟨(n:Nat),l[m].at n,l[m].de⟩∧(m=i→n<k):=by
  intro j hj
  rcases List.mem_append.1 hj with hj | hj
  ·obtain ⟨m,hm,n,e1,e2,e3⟩:=(nL (by omega)).1 hj
   exact ⟨m,by omega,n,e1,e2,e3,fun e=>by omega⟩
  ·obtain ⟨n,e1,e2,e3⟩:=nM.1 hj
   exact ⟨i,hi,n,by omega,e2,e3,fun _=>e1⟩
 obtain ⟨k1,_,k3⟩:=yE h.xo h.nd (Nc r) _ _ _ (pS h hl).1 (fun j hj=>by
   obtain ⟨m,hm,n,e1,e2,rfl,_⟩:=xC j hj
   exact y5 h hl (List.getElem_mem hm) e1 e2) (List.pairwise_append.2 ⟨y6 hl.nd i (by omega),y7 r _ _,fun a ha b hb=>by
   obtain ⟨m,hm,n,_,_,rfl⟩:=(nL (by omega)).1 ha
   obtain ⟨n',_,_,rfl⟩:=nM.1 hb
   rintro ⟨_,e⟩
   exact xO hl.nd hi (show m<l.length by omega) (by omega) e⟩) h2
 refine ⟨k1,fun m aJ lH C2=>?_⟩
 rw [(k3 (m:Nat) l[i].de lO fun j hj ⟨e1,e2⟩=>by
  obtain ⟨x,hx,n,_,_,rfl,e5⟩:=xC j hj
  by_cases c:x=i
  ·subst c
   have:=e5 rfl
   dsimp only at e1
   omega
  ·exact xO hl.nd hx hi c e2.symm).2]
 exact (pS h hl).2.2 _ _ ⟨l[i],List.getElem_mem hi,m,lH,C2,rfl,rfl⟩
theorem OA {r:Ro} (h:sJ r) {l:List Tk} (hl:JR r l) {q:List Po} (h0:jq r l (tG r l) l.length=some q) :
  iL r q∧(∀ v y,y∈cm r→¬ QX r l v y→qh q v (cz r) y=qh r.po v (cz r) y) ∧
  ∀ t∈l,∀ k,k<t.so.length→mZ r t k=true→qh q (k:Nat) (cz r) t.de=if t.at k=dash then ⟨#[]⟩ else t.at k:=by
 rw [rn hl.de _ _ (Nat.le_refl _)] at h0
 have xC:∀ j∈uF r l l.length,∃ t∈l,∃ n,n<t.so.length∧nK r t n=true∧j=⟨(n:Nat),t.at n,t.de⟩:=by
  intro j hj
  obtain ⟨m,hm,n,e1,e2,e3⟩:=(nL (Nat.le_refl _)).1 hj
  exact ⟨_,List.getElem_mem hm,n,e1,e2,e3⟩
 obtain ⟨k1,k2,k3⟩:=yE h.xo h.nd (Nc r) _ _ _ (pS h hl).1 (fun j hj=>by
   obtain ⟨t,ht,n,e1,e2,rfl⟩:=xC j hj
   exact y5 h hl ht e1 e2) (y6 hl.nd _ (Nat.le_refl _)) h0
 have hDr:∀ t∈l,∀ n,n<t.so.length→nK r t n=true→QX r l (n:Nat) t.de:=fun t ht n hn hj=>by
  obtain ⟨j1,j2,_⟩:=lZ.1 hj
  exact ⟨t,ht,n,hn,kK.2 ⟨j1,j2⟩,rfl,rfl⟩
 refine ⟨k1,fun v y hy hd=>?_,fun t ht k hk C2=>?_⟩
 ·rw [(k3 v y hy fun j hj ⟨e1,e2⟩=>by
   obtain ⟨t,ht,n,a1,a2,rfl⟩:=xC j hj
   exact hd (by rw [e1,e2];exact hDr t ht n a1 a2)).1]
  exact ((pS h hl).2.1 v y hy hd).2
 ·by_cases SG:t.at k=dash
  ·rw [if_pos SG,(k3 (k:Nat) t.de (hl.de t ht) fun j hj ⟨e1,e2⟩=>by
    obtain ⟨t',Fp,n,a1,a2,rfl⟩:=xC j hj
    dsimp only at e1 e2
    obtain ⟨x,hx,rfl⟩:=List.getElem_of_mem ht
    obtain ⟨x',Pc,rfl⟩:=List.getElem_of_mem Fp
    have e:x=x':=Classical.byContradiction fun c=>xO hl.nd hx Pc c e2
    subst e
    have e3:k=n:=by omega
    subst e3
    exact (lZ.1 a2).2.2 SG).1]
   exact FU (fun hs=>h.xo.sd _ hs (hl.de t ht)) ((pS h hl).2.2 _ _ ⟨t,ht,k,hk,C2,rfl,rfl⟩)
  ·rw [if_neg SG]
   obtain ⟨d1,d2⟩:=kK.1 C2
   have hj:nK r t k=true:=lZ.2 ⟨d1,d2,SG⟩
   obtain ⟨x,hx,rfl⟩:=List.getElem_of_mem ht
   exact k2 ⟨(k:Nat),l[x].at k,l[x].de⟩ ((nL (Nat.le_refl _)).2 ⟨x,hx,k,hk,hj,rfl⟩)
end Go.Proofs.A1
namespace Go.Proofs.A1
open Go Go.SL
theorem DD {po:List Po} {v:Int} {o:ByteArray}:mW po v o=true↔∃ p∈po,p.lv=v∧p.ip=o:=by
 unfold mW zd
 rw [List.any_eq_true]
 exact ⟨fun ⟨p,hp,h⟩=>⟨p,hp,by simpa using h⟩,fun ⟨p,hp,h⟩=>⟨p,hp,by simpa using h⟩⟩
end Go.Proofs.A1
namespace Go.Proofs.A1
open Go Go.SL
end Go.Proofs.A1
namespace Go.Proofs.A1
open Go Go.SL
theorem yR {r:Ro} (hd:∀ x∈r.de,0≤x.mx) (ht:∀ x∈r.ti,0≤x.fr) {s:ByteArray} (h:s∈cm r∨s∈cK r):0≤jU r s:=by
 unfold jU
 by_cases h1:0≤bA (cm r) s
 ·obtain ⟨hl,_⟩:=fw h1
  rw [if_pos h1,List.getD_eq_getElem?_getD,List.getElem?_eq_getElem (by unfold cm at hl;rwa [List.length_map] at hl)]
  exact hd _ (List.getElem_mem _)
 ·rw [if_neg h1]
  have h2:0≤bA (cK r) s:=by
   rcases h with h | h
   ·exact absurd (eu h) h1
   ·exact eu h
  obtain ⟨hl,_⟩:=fw h2
  rw [if_pos h2,List.getD_eq_getElem?_getD,List.getElem?_eq_getElem (by unfold cK at hl;rwa [List.length_map] at hl)]
  exact ht _ (List.getElem_mem _)
theorem LO {r:Ro} (hd:∀ x∈r.sr,0≤x.mx) (ht:∀ x∈r.ti,0≤x.to) {s:ByteArray} (h:s∈cz r∨s∈cK r):0≤jE r s:=by
 unfold jE
 by_cases h1:0≤bA (cz r) s
 ·obtain ⟨hl,_⟩:=fw h1
  rw [if_pos h1,List.getD_eq_getElem?_getD,List.getElem?_eq_getElem (by unfold cz at hl;rwa [List.length_map] at hl)]
  exact hd _ (List.getElem_mem _)
 ·rw [if_neg h1]
  have h2:0≤bA (cK r) s:=by
   rcases h with h | h
   ·exact absurd (eu h) h1
   ·exact eu h
  obtain ⟨hl,_⟩:=fw h2
  rw [if_pos h2,List.getD_eq_getElem?_getD,List.getElem?_eq_getElem (by unfold cK at hl;rwa [List.length_map] at hl)]
  exact ht _ (List.getElem_mem _)
structure FW (r:Ro):Prop where
 NS:B7 r
 len:r.sr.length≤8∧r.de.length≤8∧r.ti.length≤6
 sm:∀ x∈r.sr,0≤x.mx∧x.mx<r.ma
 dm:∀ x∈r.de,0≤x.mx∧x.mx<r.ma
 tm:∀ x∈r.ti,(0≤x.fr∧x.fr<r.ma)∧(0≤x.to∧x.to<r.ma)∧x.fr≠x.to
 nm:∀ s∈dX r,jD s=true
theorem yN {α:Type} {pF:Int} {bf:List ByteArray} {nm:α→ByteArray} {ck:α→Int} {l:List α} (h:eN pF bf nm ck l=0):∀ x∈l,jD (nm x)=true:=by
 intro x hx
 obtain ⟨k,hk,rfl⟩:=List.getElem_of_mem hx
 unfold eN at h
 split at h
 ·cases h
 ·have:=dT.1 h k hk
  rw [nG hk,cg] at this
  have:=(bH (by decide)).1 (this _ List.mem_cons_self)
  simpa using this
theorem prt {r:Ro} (h:js r=0):FW r:=by
 obtain ⟨kd,hlen,hs,hd,ht⟩:=yO h
 have h0:=h
 unfold js at h0
 rw [cg] at h0
 refine ⟨kd,hlen,fun x hx=>iS.1 (hs x hx),fun x hx=>iS.1 (hd x hx),fun x hx=>?_,fun s hs=>?_⟩
 ·have:=ht x hx
  unfold mX at this
  rw [cg] at this
  have g3:=(bH (by decide)).1 (this (bS (decide (x.fr=x.to)) 24) (by simp))
  exact ⟨iS.1 (this _ (by simp)),iS.1 (this _ (by simp)),by simpa using g3⟩
 ·unfold dX cz cm cK at hs
  rw [List.mem_append,List.mem_append,List.mem_map,List.mem_map,List.mem_map] at hs
  rcases hs with (⟨x,hx,rfl⟩ | ⟨x,hx,rfl⟩) | ⟨x,hx,rfl⟩
  ·exact yN (h0 _ List.mem_cons_self) x hx
  ·exact yN (h0 (eN 8 (cz r) De.nm (fun x=>eP r x.mx) r.de) (by simp)) x hx
  ·exact yN (h0 (eN 6 (cz r++cm r) Ti.nm (mX r) r.ti) (by simp)) x hx
theorem FW.xo {r:Ro} (h:FW r):pt r:=Hs h.NS h.len.2.2
theorem FW.ne {r:Ro} (h:FW r) {s:ByteArray} (hs:s∈cz r∨s∈cm r∨s∈cK r):s≠⟨#[]⟩:=by
 have hm:s∈dX r:=by
  unfold dX
  rw [List.mem_append,List.mem_append]
  rcases hs with h | h | h
  ·exact .inl (.inl h)
  ·exact .inl (.inr h)
  ·exact .inr h
 have:=h.nm s hm
 intro e
 rw [e] at this
 exact absurd this (by decide)
theorem FW.nd {r:Ro} (h:FW r) {s:ByteArray} (hs:s∈cz r):s≠dash:=by
 have hm:s∈dX r:=by
  unfold dX
  rw [List.mem_append,List.mem_append]
  exact .inl (.inl hs)
 have:=h.nm s hm
 intro e
 rw [e] at this
 exact absurd this (by decide)
theorem Tl {r:Ro} (h1:mG r=0) (h2:js r=0) (hV:iL r r.po):fN r=0:=by
 have hp:=prt h2
 have h3:jn r r.po=0:=by
  refine dT.2 fun k hk=>?_
  have hl:=hV.Kh _ (List.getElem_mem hk)
  have ho:=yR (fun x hx=>(hp.dm x hx).1) (fun x hx=>(hp.tm x hx).1.1) (hV.out _ (List.getElem_mem hk))
  have hi:=LO (fun x hx=>(hp.sm x hx).1) (fun x hx=>(hp.tm x hx).2.1.1) (hV.vR _ (List.getElem_mem hk))
  have hm:=hV.M9 _ (List.getElem_mem hk)
  have e0:lG r r.po[k]=0:=by
   unfold lG
   rw [cg]
   intro e he
   simp only [List.mem_cons,List.not_mem_nil,or_false] at he
   rcases he with rfl | rfl | rfl | rfl
   ·exact gS.2 (by omega)
   ·exact (bH (by decide)).2 (by simpa using ho)
   ·exact (bH (by decide)).2 (by simpa using hi)
   ·exact (bH (by decide)).2 (by simpa using hm)
  rw [qG hk,if_neg (not_not_intro e0)]
  refine if_neg ?_
  by_cases Kl:k=0
  ·rw [if_pos Kl]
   exact od.2 (by omega)
  ·rw [if_neg Kl,List.getElem?_eq_getElem (by omega)]
   refine od.2 ?_
   have:=List.pairwise_iff_getElem.1 hV.qp (k-1) k (by omega) hk (by omega)
   unfold pb at this
   simpa only [Bool.or_eq_true,Bool.and_eq_true,decide_eq_true_eq] using this
 have h4:yZ r=0:=by
  unfold yZ
  rw [cg]
  intro e he
  simp only [List.mem_cons,List.not_mem_nil,or_false] at he
  have hti:(cK r).length=r.ti.length:=by unfold cK;rw [List.length_map]
  rcases he with rfl | rfl
  ·refine (bH (by decide)).2 (kO.2 fun v _ _=>List.any_eq_false.2 fun x hx hc=>?_)
   exact hV.Dc v ⟨x.nm,List.mem_map.2 ⟨x,hx,rfl⟩,by rw [hti];exact eX.1 hc⟩
  ·refine (bH (by decide)).2 (kO.2 fun v _ _=>List.any_eq_false.2 fun x hx hc=>?_)
   have:=hV.use v x.nm (List.mem_map.2 ⟨x,hx,rfl⟩)
   unfold Hl at hc
   cases a:mW r.po v x.nm <;> cases b:iT r.po v x.nm <;> rw [a,b] at hc this <;> simp at hc this
 unfold fN
 rw [if_neg (not_not_intro h1),if_neg (not_not_intro h2),if_neg (not_not_intro h3),h4]
theorem Qh {r:Ro} (h:fN r=0) {q:List Po} (hV:iL r q):fN (r.wp q)=0:=by
 obtain ⟨h1,h2,_,_⟩:=rQ h
 exact Tl (r:=r.wp q) h1 h2 hV.wp
def oe (po:List Po) (v:Int):Nat→ByteArray→List ByteArray
 | 0,_=>[]
 | n+1,o=>if o=⟨#[]⟩ then [] else o::oe po v n ((dY po v o).getD ⟨#[]⟩)
theorem NU (po:List Po) (v:Int):∀ n,oe po v n ⟨#[]⟩=[]
 | 0=>rfl
 | n+1=>by rw [oe,if_pos rfl]
theorem tI {po:List Po} (hne:∀ p∈po,p.ip≠⟨#[]⟩) {v:Int}:∀ (n:Nat) {o:ByteArray},o≠⟨#[]⟩→oe po v (n+1) o=o::eM po v n o
 | 0,o,ho=>by rw [oe,if_neg ho];rfl
 | n + 1, o, ho => by
  rw [oe,if_neg ho]
  cases h:dY po v o with
  | none=>rw [q5 h];exact congrArg _ (NU po v _)
  | some i =>
   obtain ⟨p,hp,_,_,rfl⟩:=eV h
   rw [kN h]
   exact congrArg _ (tI hne n (hne p hp))
def Kc (r:Ro) (x:Po):Int:=aV [fR x.lv 0 (r.lv-1),bS (decide (dP r x.ou<0)) 10,bS (decide (jE r x.ip<0)) 10,bS (decide (jU r x.ou≠jE r x.ip)) 24]
theorem Ln {r:Ro} (h:FW r) (s:ByteArray):dP r s<0↔jU r s<0:=by
 rw [He]
 constructor
 ·rintro ⟨a,b⟩
  unfold jU
  have f1:=bT.2 a
  have f2:=bT.2 b
  rw [if_neg (by omega),if_neg (by omega)];decide
 ·intro aaW
  constructor
  ·intro hd
   have:=yR (fun x hx=>(h.dm x hx).1) (fun x hx=>(h.tm x hx).1.1) (.inl hd)
   omega
  ·intro hd
   have:=yR (fun x hx=>(h.dm x hx).1) (fun x hx=>(h.tm x hx).1.1) (.inr hd)
   omega
theorem OJ {r:Ro} (h:FW r) (x:Po):Kc r x=lG r x:=by
 unfold Kc lG
 rw [show decide (dP r x.ou<0)=decide (jU r x.ou<0) from decide_eq_decide.2 (Ln h _)]
def Fa (r:Ro) (k:Nat):Int:=(r.po[k]?.map fun x=>if Kc r x≠0 then Kc r x else if 0<k∧(x.lv<((r.po[k-1]?).getD x).lv∨x.lv=((r.po[k-1]?).getD x).lv∧dP r x.ou≤dP r ((r.po[k-1]?).getD x).ou) then 11 else 0).getD 0
theorem OH {r:Ro} (h:FW r) {k:Nat} (hk:k<r.po.length):Fa r k=Fe r r.po k:=by
 unfold Fa
 rw [List.getElem?_eq_getElem hk,qG hk,Option.map_some,Option.getD_some,OJ h]
 by_cases e:lG r r.po[k]=0
 ·rw [if_neg (not_not_intro e),if_neg (not_not_intro e)]
  have hl:=(mA e).1
  by_cases Kl:k=0
  ·rw [if_neg (by omega),if_pos Kl,if_neg]
   exact od.2 (by omega)
  ·rw [if_neg Kl,List.getElem?_eq_getElem (show k-1<r.po.length by omega),Option.getD_some]
   have key:=@od (r.po[k]).lv (dP r (r.po[k]).ou) (r.po[k-1]).lv (dP r (r.po[k-1]).ou)
   by_cases c:kY [(r.po[k]).lv,dP r (r.po[k]).ou] (Dl r (some r.po[k-1]))≤0
   ·rw [if_pos c,if_pos]
    have:¬ ((r.po[k-1]).lv<(r.po[k]).lv∨(r.po[k-1]).lv=(r.po[k]).lv∧dP r (r.po[k-1]).ou<dP r (r.po[k]).ou):=fun q=>(key.2 q) c
    omega
   ·rw [if_neg c,if_neg]
    have:=key.1 c
    omega
 ·rw [if_pos e,if_pos e]
def Rq (r:Ro):Int:=if ju r fun v=>r.ti.any fun x=>decide ((oe r.po v 8 x.nm).length=8) then 33 else if ju r fun v=>r.ti.any fun x=>mW r.po v x.nm != !decide ((dY r.po v x.nm).getD ⟨#[]⟩=⟨#[]⟩) then 32 else 0
theorem OK {r:Ro} (h:FW r) (hp:jn r r.po=0):Rq r=yZ r:=by
 have HW:∀ p∈r.po,lG r p=0:=fun p mQ=>by
  obtain ⟨k,hk,rfl⟩:=List.getElem_of_mem mQ
  have:=dT.1 hp k hk
  rw [qG hk] at this
  by_cases e:lG r r.po[k]=0
  ·exact e
  ·rw [if_pos e] at this;exact this
 have Fu:∀ p∈r.po,p.ou∈cm r∨p.ou∈cK r:=fun p mQ=>Hm (fun x hx=>(h.dm x hx).1) (fun x hx=>(h.tm x hx).1.1) (mA (HW p mQ)).2.1
 have L7:∀ p∈r.po,p.ip∈cz r∨p.ip∈cK r:=fun p mQ=>HK (mA (HW p mQ)).2.2.1
 have hne:∀ p∈r.po,p.ip≠⟨#[]⟩:=fun p mQ=>h.ne ((L7 p mQ).elim .inl fun q=>.inr (.inr q))
 have xy:∀ x∈r.ti,x.nm≠⟨#[]⟩:=fun x hx=>h.ne (.inr (.inr (List.mem_map.2 ⟨x,hx,rfl⟩)))
 have hti:(cK r).length=r.ti.length:=by unfold cK;rw [List.length_map]
 have e1:(ju r fun v=>r.ti.any fun x=>decide ((oe r.po v 8 x.nm).length=8))=ju r fun v=>r.ti.any (Km r v):=by
  unfold ju
  congr 1
  funext i
  have hc:=IC (po:=r.po) (v:=(i:Nat)) (T:=cK r) (iL.tie h.xo Fu L7) (by rw [hti];exact h.len.2.2)
  rw [Bool.eq_iff_iff,List.any_eq_true,List.any_eq_true]
  constructor
  ·rintro ⟨x,hx,e⟩
   rw [decide_eq_true_eq,tI hne 7 (xy x hx),List.length_cons] at e
   obtain ⟨t,ht,hm⟩:=hc.2 ⟨x.nm,List.mem_map.2 ⟨x,hx,rfl⟩,by omega⟩
   obtain ⟨y,hy,rfl⟩:=List.mem_map.1 ht
   exact ⟨y,hy,eX.2 (by rw [← hti];exact hm)⟩
  ·rintro ⟨x,hx,e⟩
   obtain ⟨t,ht,hm⟩:=hc.1 ⟨x.nm,List.mem_map.2 ⟨x,hx,rfl⟩,by rw [hti];exact eX.1 e⟩
   obtain ⟨y,hy,rfl⟩:=List.mem_map.1 ht
   refine ⟨y,hy,?_⟩
   rw [decide_eq_true_eq,tI hne 7 (xy y hy),List.length_cons,hm]
 have e2:(ju r fun v=>r.ti.any fun x=>mW r.po v x.nm != !decide ((dY r.po v x.nm).getD ⟨#[]⟩=⟨#[]⟩))=ju r fun v=>r.ti.any (Hl r v):=by
  unfold ju
  congr 1
  funext i
  dsimp only
  congr 1
  funext x
  unfold Hl iT
  have:(!decide ((dY r.po (i:Nat) x.nm).getD ⟨#[]⟩=⟨#[]⟩))=(dY r.po (i:Nat) x.nm).isSome:=by
   cases e:dY r.po (i:Nat) x.nm with
   | none=>rfl
   | some o =>
    obtain ⟨p,mQ,_,_,rfl⟩:=eV e
    have:=hne p mQ
    simp [this]
  rw [this]
  cases mW r.po (i:Nat) x.nm <;> cases (dY r.po (i:Nat) x.nm).isSome <;> rfl
 unfold Rq yZ
 rw [e1,e2]
 cases (ju r fun v=>r.ti.any (Km r v)) <;> cases (ju r fun v=>r.ti.any (Hl r v)) <;> rfl
def yM (r:Ro):Int:=if jm (Fa r) r.po.length≠0 then jm (Fa r) r.po.length else Rq r
theorem Lf {r:Ro} (h:FW r):yM r=if jn r r.po≠0 then jn r r.po else yZ r:=by
 have e:jm (Fa r) r.po.length=jn r r.po:=C9 fun j hj _=>OH h hj
 unfold yM
 rw [e]
 by_cases c:jn r r.po=0
 ·rw [if_neg (not_not_intro c),if_neg (not_not_intro c),OK h c]
 ·rw [if_pos c,if_pos c]
end Go.Proofs.A1
namespace Go.Proofs.A1
open Go Go.SL
def mor:ByteArray:=⟨#[109,111,114,101]⟩
theorem Lo {r:Ro} {s:ByteArray} (hs:s∈cm r∨s∈cK r):dP r s=if 0≤bA (cm r) s then bA (cm r) s else (r.de.length:Nat)+bA (cK r) s:=by
 unfold dP
 by_cases c:s∈cm r
 ·rw [if_pos (eu c),if_pos (eu c)]
 ·have h2:=bT.2 c
  rw [if_neg (by omega),if_pos (eu (hs.resolve_left c)),if_neg (by omega)]
end Go.Proofs.A1
namespace Go.Proofs.A1
open Go Go.SL
end Go.Proofs.A1
namespace Go.Proofs.A1
open Go Go.SL
section
variable {r:Ro} {a b:ByteArray}
theorem I6 {r:Ro} {s:ByteArray} (h:s∈cz r∨s∈cm r∨s∈cK r):s∈dX r:=by
 unfold dX
 rw [List.mem_append,List.mem_append]
 rcases h with h | h | h
 ·exact .inl (.inl h)
 ·exact .inl (.inr h)
 ·exact .inr h
end
end Go.Proofs.A1
namespace Go.Proofs.A1
open Go Go.SL
theorem E3 {r:Ro} {l:List Tk} (h:(kU r l).2.2=0):∃ q,jq r l (tG r l) l.length=some q∧kU r l=(r.wp q,0,0)∧¬ 0≤se r l:=by
 unfold kU at h ⊢
 by_cases c:0≤se r l
 ·rw [if_pos c] at h;cases h
 ·rw [if_neg c] at h ⊢
  show ∃ q,jq r l (Ar (cm r) (jJ r l l.length)) l.length=some q∧_
  cases e:jq r l (Ar (cm r) (jJ r l l.length)) l.length with
  | none=>rw [e] at h;cases h
  | some q=>exact ⟨q,rfl,rfl,c⟩
def Oc (r:Ro) (t:Tk):List ByteArray:=(List.range r.lv.toNat).map fun k=>if t.at k=⟨#[]⟩ then kQ r (k:Nat) t.de else if t.at k=dash then ⟨#[]⟩ else t.at k
theorem MH {r:Ro} {v:Int} {o:ByteArray} (h:kQ r v o≠⟨#[]⟩):kQ r v o∈cz r:=by
 unfold kQ at h ⊢
 split at h
 ·rename_i c
  rw [if_pos c]
  rw [List.any_eq_true] at c
  obtain ⟨x,hx,e⟩:=c
  rw [decide_eq_true_eq] at e
  exact List.mem_map.2 ⟨x,hx,e⟩
 ·exact absurd rfl h
theorem IV {r:Ro} (h:sJ r) {q:List Po} (hq:iL r q) (v:Int) (o:ByteArray):kQ (r.wp q) v o=qh q v (cz r) o:=vf (h.wp hq).xo hq.wp v o
theorem GP {r:Ro} (jd:fN r=0) {l:List Tk} (hl:JR r l) {q:List Po} (h0:jq r l (tG r l) l.length=some q) :
  iL r q∧(∀ t∈l,cu (r.wp q) t.de=Oc r t)∧∀ y∈cm r,y ∉ l.map Tk.de→cu (r.wp q) y=cu r y:=by
 have h:=xj jd
 have hp:=prt (rQ jd).2.1
 obtain ⟨k1,k2,k3⟩:=OA h hl h0
 refine ⟨k1,fun t ht=>?_,fun y hy hn=>?_⟩
 ·unfold cu Oc
  show (List.range r.lv.toNat).map _=_
  refine List.map_congr_left fun k hk=>?_
  have hk:=List.mem_range.1 hk
  have zi:=hl.lv t ht
  have VB:k<t.so.length:=by omega
  rw [IV h k1]
  by_cases hd:mZ r t k=true
  ·rw [k3 t ht k VB hd,if_neg (kK.1 hd).1]
  ·have uN:¬ QX r l (k:Nat) t.de:=by
    rintro ⟨t',Fp,i,hi,vA,e1,e2⟩
    obtain ⟨x,hx,rfl⟩:=List.getElem_of_mem ht
    obtain ⟨x',Pc,rfl⟩:=List.getElem_of_mem Fp
    have e:x=x':=Classical.byContradiction fun c=>xO hl.nd hx Pc c e2
    subst e
    have:k=i:=by omega
    subst this
    exact hd vA
   rw [k2 _ _ (hl.de t ht) uN,← vf h.xo h.val]
   by_cases e1:t.at k=⟨#[]⟩
   ·rw [if_pos e1]
   ·have e2:t.at k=kQ r (k:Nat) t.de:=Classical.byContradiction fun c=>hd (kK.2 ⟨e1,c⟩)
    have e3:t.at k≠dash:=hp.nd (by rw [e2];exact MH (by rw [← e2];exact e1))
    rw [if_neg e1,if_neg e3,e2]
 ·unfold cu
  show (List.range r.lv.toNat).map _=_
  refine List.map_congr_left fun k _=>?_
  rw [IV h k1,k2 _ _ hy fun ⟨t,ht,_,_,_,_,e⟩=>hn (List.mem_map.2 ⟨t,ht,e.symm⟩),← vf h.xo h.val]
end Go.Proofs.A1
namespace Go.Proofs.A1
open Go Go.SL
theorem sn {r:Ro} {o:ByteArray}:lY r o=false↔o=⟨#[]⟩∨o=dash∨o∈cz r:=by
 unfold lY dash
 rw [Bool.and_eq_false_iff,Bool.and_eq_false_iff,decide_eq_false_iff_not,decide_eq_false_iff_not,decide_eq_false_iff_not,bT]
 simp only [ne_eq,Decidable.not_not,or_assoc]
 rw [Classical.not_not]
theorem yp {r:Ro} {l:List Tk}:Ap r l=0↔l≠[]∧JR r l:=by
 have jk:∀ k (hk:k<l.length),J6 r l k=0↔(l[k].de∈cm r∧(∀ j (hj:j<k),(l[j]'(by omega)).de≠l[k].de)∧(l[k].so.length:Int)=r.lv∧∀ s∈l[k].so,s=⟨#[]⟩∨s=dash∨s∈cz r):=by
  intro k hk
  rw [Gt hk,cg]
  have e1:pn r l[k].de=0↔l[k].de∈cm r:=by
   unfold pn
   rw [bH (by decide),decide_eq_false_iff_not,bT,Classical.not_not]
  have e2:bS ((l.take k).any fun y=>decide (y.de=l[k].de)) 9=0↔∀ j (hj:j<k),(l[j]'(by omega)).de≠l[k].de:=by
   rw [bH (by decide),List.any_eq_false]
   constructor
   ·intro h j hj e
    have hjt:j<(l.take k).length:=by rw [List.length_take];omega
    have:=h _ (List.getElem_mem hjt)
    rw [List.getElem_take] at this
    exact this (decide_eq_true e)
   ·intro h x hx e
    obtain ⟨j,hj,rfl⟩:=List.getElem_of_mem hx
    rw [List.length_take] at hj
    rw [List.getElem_take] at e
    exact h j (by omega) (of_decide_eq_true e)
  have e3:bS (decide ((l[k].so.length:Int)≠r.lv)) 2=0↔(l[k].so.length:Int)=r.lv:=by
   rw [bH (by decide),decide_eq_false_iff_not,ne_eq,Decidable.not_not]
  have e4:bS (l[k].so.any (lY r)) 10=0↔∀ s∈l[k].so,s=⟨#[]⟩∨s=dash∨s∈cz r:=by
   rw [bH (by decide),List.any_eq_false]
   exact ⟨fun h s hs=>sn.1 (by have:=h s hs;rwa [Bool.not_eq_true] at this),fun h s hs=>by rw [Bool.not_eq_true];exact sn.2 (h s hs)⟩
  constructor
  ·intro h
   exact ⟨e1.1 (h _ (by simp)),e2.1 (h _ (by simp)),e3.1 (h _ (by simp)),e4.1 (h _ (by simp))⟩
  ·rintro ⟨a,b,c,d⟩ e he
   simp only [List.mem_cons,List.not_mem_nil,or_false] at he
   rcases he with rfl | rfl | rfl | rfl
   ·exact e1.2 a
   ·exact e2.2 b
   ·exact e3.2 c
   ·exact e4.2 d
 have hA:J7 l=0↔l≠[]∧l.length≤8:=by
  unfold J7
  rw [cg]
  constructor
  ·intro h
   have a:=(bH (by decide)).1 (h (bS (decide ((l.length:Int)=0)) 12) (by simp))
   have b:=(bH (by decide)).1 (h (bS (decide ((8:Int)<(l.length:Nat))) 5) (by simp))
   rw [decide_eq_false_iff_not] at a b
   exact ⟨fun e=>a (by rw [e];rfl),by omega⟩
  ·rintro ⟨a,b⟩ e he
   simp only [List.mem_cons,List.not_mem_nil,or_false] at he
   rcases he with rfl | rfl
   ·refine (bH (by decide)).2 (decide_eq_false fun e=>a (List.eq_nil_of_length_eq_zero (by omega)))
   ·exact (bH (by decide)).2 (decide_eq_false (by omega))
 unfold Ap
 constructor
 ·intro h
  by_cases c:J7 l=0
  ·rw [if_neg (not_not_intro c)] at h
   have h:=dT.1 h
   obtain ⟨c1,c2⟩:=hA.1 c
   refine ⟨c1,fun t ht=>?_,?_,fun t ht=>?_,fun t ht=>?_,c2⟩
   ·obtain ⟨k,hk,rfl⟩:=List.getElem_of_mem ht
    exact ((jk k hk).1 (h k hk)).1
   ·show List.Pairwise _ _
    rw [List.pairwise_iff_getElem]
    intro i j hi hj xD
    rw [List.length_map] at hi hj
    rw [List.getElem_map,List.getElem_map]
    exact ((jk j hj).1 (h j hj)).2.1 i xD
   ·obtain ⟨k,hk,rfl⟩:=List.getElem_of_mem ht
    exact ((jk k hk).1 (h k hk)).2.2.1
   ·obtain ⟨k,hk,rfl⟩:=List.getElem_of_mem ht
    exact ((jk k hk).1 (h k hk)).2.2.2
  ·rw [if_pos c] at h;exact absurd h c
 ·rintro ⟨c1,h⟩
  rw [if_neg (not_not_intro (hA.2 ⟨c1,h.C8⟩))]
  refine dT.2 fun k hk=>(jk k hk).2 ⟨h.de _ (List.getElem_mem hk),fun j hj=>xO h.nd (by omega) hk (by omega),h.lv _ (List.getElem_mem hk),h.so _ (List.getElem_mem hk)⟩
def vI (r:Ro) (t:Tk):Tk:=⟨t.de,(List.range r.lv.toNat).map fun k=>if t.at k=⟨#[]⟩ then ⟨#[]⟩ else if kQ r (k:Nat) t.de=⟨#[]⟩ then dash else kQ r (k:Nat) t.de⟩
def Ro.G6 (r:Ro) (d:ByteArray) (q:Bool):Ro:=⟨r.lv,r.ma,r.sr,r.de.modify (bA (cm r) d).toNat fun x=>⟨x.nm,x.mx,q⟩,r.ti,r.po⟩
end Go.Proofs.A1
namespace Go.Proofs.A1
open Go Go.SL
structure Od where
 fr:Int
 tk:List Tk
def Od.zero:Od:=⟨0,[]⟩
def M1 (r:Ro) (l:List Od):Nat→Ro
 | 0=>r
 | i+1=>(kU (M1 r l i) (l.getD i Od.zero).tk).1
def AZ (r:Ro) (l:List Od) (i:Nat):Int:=(kU (M1 r l i) (l.getD i Od.zero).tk).2.2
def MM (f:Nat→Int) (n:Nat):Nat:=((List.range n).find? fun i=>decide (f i≠0)).getD 0
def iq (r:Ro) (l:List Od):Ro×Int×Int:=if jm (AZ r l) l.length=0 then (M1 r l l.length,0,0) else (Ro.nil,(MM (AZ r l) l.length:Nat),jm (AZ r l) l.length)
theorem ML {f:Nat→Int} {n i:Nat} (h:∀ j,j<i→f j=0) (hi:i<n) (hn:f i≠0):MM f n=i:=by
 unfold MM
 have:(List.range n).find? (fun i=>decide (f i≠0))=some i:=by
  rw [List.find?_eq_some_iff_getElem]
  refine ⟨by simpa using hn,i,by simpa using hi,by simp,fun j hj=>?_⟩
  simp [h j hj]
 rw [this];rfl
def Ke (r:Ro) (l:List Od) (k:Nat):Int:=(l[k]?.map fun x=>aV [fR x.fr 0 10000000,bS (decide (x.fr≤if k=0 then -1 else (l.getD (k-1) Od.zero).fr)) 11,Ap r x.tk]).getD 0
def TL (r:Ro) (l:List Od):Int:=if (16:Int)<(l.length:Nat) then 5 else jm (Ke r l) l.length
structure MR (r:Ro) (l:List Od):Prop where
 C8:l.length≤16
 fr:∀ k (h:k<l.length),0≤l[k].fr∧l[k].fr≤10000000
 inc:∀ i j (hi:i<l.length) (hj:j<l.length),i<j→l[i].fr<l[j].fr
 tk:∀ k (h:k<l.length),JR r l[k].tk
theorem YK {r:Ro} {l:List Od} (h:TL r l=0):MR r l:=by
 unfold TL at h
 by_cases c:(16:Int)<(l.length:Nat)
 ·rw [if_pos c] at h;cases h
 ·rw [if_neg c] at h
  have h:=dT.1 h
  have hk:∀ k (hk:k<l.length),(0≤l[k].fr∧l[k].fr≤10000000)∧(if k=0 then -1 else (l.getD (k-1) Od.zero).fr)<l[k].fr∧Ap r l[k].tk=0:=fun k hk=>by
   have:=h k hk
   unfold Ke at this
   rw [List.getElem?_eq_getElem hk,Option.map_some,Option.getD_some,cg] at this
   have a:=gS.1 (this _ List.mem_cons_self)
   have b:=(bH (by decide)).1 (this (bS (decide (l[k].fr≤if k=0 then -1 else (l.getD (k-1) Od.zero).fr)) 11) (by simp))
   rw [decide_eq_false_iff_not] at b
   exact ⟨a,by omega,this _ (by simp)⟩
  have fJ:∀ k (QL:k+1<l.length),l[k].fr<l[k+1].fr:=fun k QL=>by
   have:=(hk (k+1) QL).2.1
   rwa [if_neg (by omega),Nat.add_sub_cancel,List.getD_eq_getElem?_getD,List.getElem?_eq_getElem (by omega),Option.getD_some] at this
  refine ⟨by omega,fun k h=>(hk k h).1,fun i j hi hj xD=>?_,fun k h=>(yp.1 (hk k h).2.2).2⟩
  induction j with
  | zero=>omega
  | succ j ih =>
   have:=fJ j hj
   by_cases c:i=j
   ·subst c;exact this
   ·have:=ih (by omega) (by omega);omega
structure JV (r:Ro) (l:List Od) (i:Nat) (q:List Po):Prop where
 eq:M1 r l i=r.wp q
 val:iL r q
theorem JV.next {r:Ro} (jd:fN r=0) {l:List Od} (hl:MR r l) {i:Nat} (hi:i<l.length) {q:List Po} (h:JV r l i q) (h0:AZ r l i=0):∃ q',JV r l (i+1) q'∧(∀ t∈l[i].tk,cu (r.wp q') t.de=Oc (r.wp q) t)∧∀ y∈cm r,y ∉ l[i].tk.map Tk.de→cu (r.wp q') y=cu (r.wp q) y:=by
 unfold AZ at h0
 rw [h.eq,List.getD_eq_getElem?_getD,List.getElem?_eq_getElem hi,Option.getD_some] at h0
 obtain ⟨q',e1,e2,_⟩:=E3 h0
 obtain ⟨k1,k2,k3⟩:=GP (Qh jd h.val) ((hl.tk i hi).wp q) e1
 refine ⟨q',⟨?_,⟨k1.qp,k1.Kh,k1.out,k1.vR,k1.M9,k1.Dc,k1.use⟩⟩,k2,k3⟩
 rw [M1,h.eq,List.getD_eq_getElem?_getD,List.getElem?_eq_getElem hi,Option.getD_some,e2];rfl
theorem GS {r:Ro} (jd:fN r=0) {l:List Od} (hl:MR r l):∀ i,i≤l.length→(∀ j,j<i→AZ r l j=0)→∃ q,JV r l i q
 | 0,_,_=>⟨r.po,rfl,(xj jd).val⟩
 | i + 1, hi, h => by
  obtain ⟨q,hq⟩:=GS jd hl i (by omega) fun j hj=>h j (by omega)
  obtain ⟨q',vw,_⟩:=hq.next jd hl hi (h i (by omega))
  exact ⟨q',vw⟩
def gT (l:List Od) (f:Int):Nat:=l.findIdx fun x=>decide (f<x.fr)
theorem Ol (l:List Od) (f:Int):gT l f≤l.length:=List.findIdx_le_length
end Go.Proofs.A1
namespace Go.Proofs.A1
open Go Go.SL
def RW (b:Nat) (r:Ro) (s d t p:Value) (l:List Po):List ba:=[RB b r s d t p,J1 r s,J2 r d,J3 r t,PB p l]
theorem Rr {l:List Po} {i:Nat} (h:i<l.length) (cur:List Value):dU (iW l++cur) (i*3) 3=[.int .i64 l[i].lv,.string l[i].ou,.string l[i].ip]:=qX (f:=Po.cells) (fun _=>rfl) h cur
theorem RR.wp {w:World} {r:Ro} {s d t p':Value} {po:List Po} (h1:Rd w s 2 (vt r.sr)) (h2:Rd w d 3 (u3 r.de)) (h3:Rd w t 3 (tW r.ti)) (h4:Rd w p' 3 (sN po)):RR w (r.wp po) s d t p':=⟨h1,h2,h3,h4⟩
set_option maxHeartbeats 2000000 in
theorem KP {r:Ro} {s d t p:Value} {b:Nat} {w:World} {fp:List Nat} (kD:fp.Nodup) (hs:bY (hp w) (RW b r s d t p r.po) fp) (cJ:mP r) (Vi:r.po.length≤1000) :
  bd Tryz.prog 257 [.pointer (some ⟨b,0,none⟩)] w fp (fun x:Value×(Po→Bool)=>Sw r.po (cm r) x.2∧∀ q∈r.po,x.2 q=true→q.ou∈cm r∨∃ q'∈r.po,x.2 q'=true∧q'.lv=q.lv∧q'.ip=q.ou) (fun _=>.tuple #[]) (fun x=>RW b r s d t x.1 (r.po.filter x.2)):=by
 unfold RW RB PB at *
 refine dS Tryz.func257 rfl rfl kD hs ?_
 refine Jr<|Ja rfl<|Jn<|J0 ?_
 refine aX (ι:=Value×(Po→Bool)×Bool) (fun x=>Sw r.po (cm r) x.2.1∧(x.2.2=false→∀ q∈r.po,x.2.1 q=true→q.ou∈cm r∨∃ q'∈r.po,x.2.1 q'=true∧q'.lv=q.lv∧q'.ip=q.ou)) (fun x=>[(2,.bool x.2.2),(0,.pointer (some ⟨b,0,none⟩))])
  (fun x=>RW b r s d t x.1 (r.po.filter x.2.1)) (fun x=>2*(r.po.filter x.2.1).length+if x.2.2 then 1 else 0) ?_ ?_
 ·apply aK (p,(fun _=>true),true) ⟨Sw.start _ _,fun h=>by cases h⟩
  case hs1=>exact cn
  case ht=>
   show bj _ [JP b r s d t p,J1 r s,J2 r d,J3 r t,row 188 3 p (r.po.filter fun _=>true).length (iW (r.po.filter fun _=>true))] _
   rw [List.filter_eq_self.2 fun _ _=>rfl]
   exact .cons .here (.cons .here (.cons .here (.cons .here (.cons .here .nil))))
 rintro ⟨p',f,fl⟩ ⟨QQ,sx⟩
 dsimp only at QQ sx ⊢
 unfold RW RB PB
 cases fl with
 | false =>
  (refine Jq<|Jr<|Jv rfl<|Jn<|bR (.of rfl) ?_;refine Jp<|Jl<|Jo ?_)
  first | with_reducible apply aO | with_reducible apply aP
  case he=>exact pj rfl
  case hR=>
   intro w' az
   exact aB (p',f) ⟨QQ,sx rfl⟩ (by exact .cons .here (.cons .here (.cons .here (.cons .here (.cons .here .nil))))) az rfl
 | true =>
  (refine Jq<|Jr<|Jv rfl<|Jn<|cR (.of rfl) ?_;refine Jk<|J0<|Jr<|Ja rfl<|Ji<|Jv rfl<|ab (dH (.of rfl)) rfl ?_;refine bF rfl rfl ae ?_;refine JL rfl .here rfl ?_)
  have abx:(r.po.filter f).length≤r.po.length:=List.length_filter_le _ _
  refine JN bC rfl (fun w1 aJ=>FQ (cy aJ ei rfl) (by omega)) ?_
  intro cv _
  dsimp only [id_eq,List.cons_append,List.nil_append]
  refine aW (v:=cv) (by exact .here) fun ca cc e=>?_
  subst e
  refine JI rfl<|Jv rfl<|Jn<|J0 ?_
  have pK:∀ k (h:k<(r.po.filter f).length),(iW (r.po.filter f)).length=(r.po.filter f).length*3:=fun _ _=>ja _
  refine aX (ι:=Nat×Value×(Po→Bool)×Bool) (fun x=>x.1≤(r.po.filter f).length∧Sw r.po (cm r) x.2.2.1∧(x.2.2.2=false→x.2.2.1=f∧∀ i (hi:i<(r.po.filter f).length),i<x.1→(r.po.filter f)[i].ou∈cm r∨mW (r.po.filter f) (r.po.filter f)[i].lv (r.po.filter f)[i].ou=true)∧(x.2.2.2=true→(r.po.filter x.2.2.1).length<(r.po.filter f).length))
   (fun x=>[(12,.int .i64 (x.1:Nat)),(11,.int .i64 ((r.po.filter f).length:Nat)),(10,.slice ca (r.po.filter f).length cc),(2,.bool x.2.2.2),(0,.pointer (some ⟨b,0,none⟩))])
   (fun x=>[JP b r s d t (x.2.1),J1 r s,J2 r d,J3 r t,row 188 3 x.2.1 (r.po.filter x.2.2.1).length (iW (r.po.filter x.2.2.1)),row 188 3 (.slice ca (r.po.filter f).length cc) (r.po.filter f).length (iW (r.po.filter f))]) (fun x=>(r.po.filter f).length-x.1) ?_ ?_
  ·apply aK (0,p',f,false) ⟨Nat.zero_le _,QQ,fun _=>⟨rfl,fun i _ h=>absurd h (Nat.not_lt_zero i)⟩,fun h=>by cases h⟩
   case hs1=>exact cn
   case ht=>exact sK
  rintro ⟨k,p2,f2,fl⟩ ⟨hk,Mg,PO,C1⟩
  dsimp only at hk Mg PO C1 ⊢
  by_cases aN:k<(r.po.filter f).length
  ·refine Jr<|JA rfl<|Jn<|Jq<|Jd rfl fun aq=>Jk<|Jq<|J0<|Jr ?_
   refine db (E:=188) (sz:=3) (v:=.slice ca (r.po.filter f).length cc) eC (by omega) fun g gB cur e nS Fv CV Bl=>?_
   cases e
   have c1:=Rr aN cur
   (refine ab (aC (.of rfl) (.of rfl) rfl (by omega) aq bo) rfl ?_;refine ab (cF (.of rfl) .here c1 rfl) rfl ?_;refine Jz rfl rfl fun _ _=>ao (.of rfl) (.of rfl) .here rfl rfl (fk rfl rfl rfl) (bE rfl) ak ?_;refine Jn<|Jq ?_)
   generalize zY:(r.po.filter f)[k].lv=pv
   generalize qg:(r.po.filter f)[k].ou=po
   generalize No:(r.po.filter f)[k].ip=pi
   have QM:∀ w',RR w' (r.wp (r.po.filter f2)) s d t p2→aj Tryz.prog 155 [.agg #[.int .i64 r.lv,.int .i64 r.ma,s,d,t,p2],.string po] w' (.int .i64 (bA (cm r) po)):=fun w' h=>fB (r:=r.wp (r.po.filter f2)) po h
   have hu0:∀ w',RR w' (r.wp (r.po.filter f2)) s d t p2→aj Tryz.prog 239 [.agg #[.int .i64 r.lv,.int .i64 r.ma,s,d,t,p2],.int .i64 pv,.string po] w' (.bool (mW (r.po.filter f2) pv po)):=fun w' h=>Gc (r:=r.wp (r.po.filter f2)) pv po h
   with_reducible refine dN 18 (by kernel_rfl) ?_
   (refine kZ rfl rfl ?_;refine aH (dH (.of rfl)) rfl ?_;refine aH (cr bI) rfl ?_;refine np rfl rfl ae ?_;refine aH (gp .here) rfl ?_;refine eZ aZ rfl (fun w' az=>(QM w' (RR.wp (cE az cY rfl) (cG az ei rfl) (cD az eC rfl) (cy az oq rfl)))) ?_;refine aH (nD (.of rfl) (.of rfl)) rfl ?_;refine kZ rfl rfl ?_;refine dA rfl rfl inferInstance (fun hg bL=>(aY (.of rfl))) rfl ?_;refine dA rfl rfl inferInstance (fun hg bL=>(dH (.cA hg rfl))) rfl ?_;refine dA rfl rfl inferInstance (fun hg bL=>(cF (.cA hg rfl) bI ak (by rfl))) rfl ?_;refine dA rfl rfl inferInstance (fun hg bL=>(ar (.of rfl) ae)) rfl ?_;refine dA rfl rfl inferInstance (fun hg bL=>(ai (.cA hg rfl) (At.lit .here rfl))) rfl ?_;refine dA rfl rfl inferInstance (fun hg bL=>(ar (.of rfl) ae)) rfl ?_;refine dA rfl rfl inferInstance (fun hg bL=>(ai (.cA hg rfl) (At.lit .here rfl))) rfl ?_;refine vj rfl rfl (fun hg=>(bh (.of rfl) (.cons (.cA hg rfl) (.cons (.cA hg rfl) (.cons (.cA hg rfl) .nil))) inferInstance gJ)) rfl (fun hg w' az=>(hu0 w' (RR.wp (cE az cY rfl) (cG az ei rfl) (cD az eC rfl) (cy az oq rfl)))) ?_;refine dA rfl rfl inferInstance (fun hg bL=>(fG (.cA hg rfl))) rfl ?_;refine aH (c7 (.of rfl) rfl) rfl ?_)
   with_reducible refine dW ?_
   (refine Jn<|pV rfl (fun aq=>?_) fun aq=>?_;refine Jr<|Jv rfl<|bF rfl rfl ae ?_;refine JL rfl .here rfl<|bF rfl rfl ae ?_;refine JL rfl .here rfl ?_;rotate_left;refine Jw<|Jj<|Jt<|Jg<|JB rfl (by omega)<|Jv rfl<|Jn ?_;rotate_right)
   ·obtain ⟨T9,UW⟩:bA (cm r) po<0∧mW (r.po.filter f2) pv po=false:=by simpa using aq
    with_reducible apply fE (As:=[JP b r s d t p2,row 188 3 p2 (r.po.filter f2).length (iW (r.po.filter f2))])
    case hr=>exact dK
    case hd=>rfl
    case ht=>exact .cons bI (.cons eC .nil)
    case hc=>
     intro w1 Ad aJ uO hs1 B5 kd
     exact wm (r:=r) (s:=s) (d:=d) (t:=t) (p:=p2) (b:=b) (l:=r.po.filter f2) pv po uO hs1 (by have:=List.length_filter_le f2 r.po;omega)
    intro p3 _
    dsimp only [id_eq,List.cons_append,List.nil_append]
    unfold RB PB
    rw [sB]
    refine Jn<|Jg<|Ja rfl<|Jx<|Jj<|Jt<|Jg<|JB rfl (by omega)<|Jv rfl<|Jn ?_
    refine c8 (E:=188) (sz:=3) (g:=g) cY nS Fv CV Bl ?_
    apply aL (k+1,p3,(fun x=>f2 x&&!xi pv po x),true) ⟨by show k+1≤_;omega,Mg.step (bT.1 T9) (fun q hq hf e=>by
     have:=DD.2 ⟨q,List.mem_filter.2 ⟨hq,hf⟩,e⟩
     rw [UW] at this;cases this),(fun h=>by cases h),fun _=>by
      show (r.po.filter fun x=>f2 x&&!xi pv po x).length<_
      rw [← sB]
      cases fl with
      | true=>exact Nat.lt_of_le_of_lt (List.length_filter_le _ _) (C1 rfl)
      | false =>
       obtain ⟨rfl,_⟩:=PO rfl
       refine List.length_filter_lt_length_iff_exists.2 ⟨_,List.getElem_mem aN,?_⟩
       unfold xi
       rw [zY,qg];simp⟩ (by show (r.po.filter f).length-(k+1)<(r.po.filter f).length-k;omega)
    case hs1=>exact cn
    case ht=>exact sK
   ·have QN:¬ (decide (bA (cm r) po<0)&&!mW (r.po.filter f2) pv po)=true:=by
     simp only [Bool.and_eq_true,decide_eq_true_eq,Bool.not_eq_true',not_and,Bool.not_eq_false] at aq ⊢
     exact fun c=>aq.resolve_left (fun q=>q c)
    refine c8 (E:=188) (sz:=3) (g:=g) (by exact Take.there .here) nS Fv CV Bl ?_
    apply aL (k+1,p2,f2,fl) ⟨by show k+1≤_;omega,Mg,(fun h=>⟨(PO h).1,fun i hi T4=>by
     by_cases e:i=k
     ·subst e
      rw [zY,qg]
      obtain ⟨e1,_⟩:=PO h
      rw [e1] at QN
      by_cases c:bA (cm r) po<0
      ·right
       cases c2:mW (r.po.filter f) pv po with
       | true=>rfl
       | false=>exact absurd (show (decide (bA (cm r) po<0)&&!mW (r.po.filter f) pv po)=true by rw [c2,decide_eq_true c];rfl) QN
      ·exact .inl (Classical.byContradiction fun q=>c (bT.2 q))
     ·exact (PO h).2 i hi (show i<k by have:i<k+1:=T4;omega)⟩),C1⟩ (by show (r.po.filter f).length-(k+1)<(r.po.filter f).length-k;omega)
    case hs1=>exact cn
    case ht=>exact .cons bI (.cons bI (.cons bI (.cons bI (.cons bI (.cons .here .nil)))))
  ·have e:k=(r.po.filter f).length:=by omega
   subst e
   refine Jr<|JA rfl<|Jn<|Jq<|Jc rfl fun aq=>Jp<|Jl<|Jo<|Jj<|Jt ?_
   apply aL (p2,f2,fl) ⟨Mg,fun h q hq hf=>by
    obtain ⟨rfl,h2⟩:=PO h
    obtain ⟨i,hi,rfl⟩:=List.getElem_of_mem (List.mem_filter.2 ⟨hq,hf⟩)
    rcases h2 i hi hi with e | e
    ·exact .inl e
    ·obtain ⟨q',vw,e'⟩:=DD.1 e
     obtain ⟨x1,x2⟩:=List.mem_filter.1 vw
     exact .inr ⟨q',x1,x2,e'⟩⟩ (by
    show 2*(r.po.filter f2).length+(if fl then 1 else 0)<2*(r.po.filter f).length+(if true then 1 else 0)
    cases fl with
    | true=>have:=C1 rfl;simp only [if_true];omega
    | false=>rw [(PO rfl).1];simp)
   case hs1=>exact cn
   case ht=>exact sK
end Go.Proofs.A1
namespace Go.SL
open Go
section
variable {P:Program} {r:Option Nat} {c:Cx} {D:List Nat} {sl:aG} {hs hs' hs2:List ba} {Q:Exit→Act→World→Prop} {ops:Array Oper} {d:Nat} {dst:Option Tmp} {ty:TypeId} {pos:String} {af:Array Edge} {g:Option (Nat×Bool)} {rest:List Oper} {κ:Type} [DecidableEq κ] {kv:κ→Value}
theorem EX {X:Act→World→Prop} {b:Nat} {l:List (κ×Value)} (ht:Take hs (mp kv b l) hs') (k:∀ es ck,Ht kv l es ck→Tr c D sl (bD b (.map es ck)::hs') X):Tr c D sl hs X:=fun a w a7=>by
 have hm:=a7.mem.take (ht.append _)
 obtain ⟨kk,fp,hn,⟨f1,f2,rfl,⟨e,es,ck,h1,h2⟩,h3⟩,C1⟩:=hm
 exact k es ck h2 a w (a7.heap ⟨kk,f1++f2,hn,⟨f1,f2,rfl,⟨e,h1⟩,h3⟩,C1⟩)
end
end Go.SL
namespace Go.Proofs.A1
open Go Go.SL
theorem BQ {r:Ro} {v:Int} {i:Nat}:∀ {q:List Nat} {po:List Po} {x:ByteArray},pY r v po x (q++[i])=(if iT (pY r v po x q).1 v (gy r i) then (pY r v po x q).1 else (pY r v po x q).1++[⟨v,gy r i,(pY r v po x q).2⟩],gy r i)
 | [],po,x=>rfl
 | j :: q, po, x => by
  rw [List.cons_append,pY,pY]
  exact BQ
theorem zP {r:Ro} {v:Int}:∀ (q:List Nat) (po:List Po) (x:ByteArray),(pY r v po x q).1.length≤po.length+q.length
 | [],po,x=>Nat.le_refl _
 | j :: q, po, x => by
  rw [pY]
  refine Nat.le_trans (zP q _ _) ?_
  rw [List.length_cons]
  split
  ·omega
  ·rw [List.length_append,List.length_singleton];omega
theorem EK {r:Ro} {v:Int}:∀ (q:List Nat) (po:List Po) (x:ByteArray),(∀ i∈q,i<r.ti.length)→(∀ p∈po,p.ou∈cm r∨p.ou∈cK r)→∀ p∈(pY r v po x q).1,p.ou∈cm r∨p.ou∈cK r
 | [],po,x,_,h=>h
 | j :: q, po, x, hi, h => by
  rw [pY]
  refine EK q _ _ (fun i z6=>hi i (List.mem_cons_of_mem _ z6)) fun p hp=>?_
  split at hp
  ·exact h p hp
  ·rcases List.mem_append.1 hp with hp | hp
   ·exact h p hp
   ·rw [List.mem_singleton.1 hp]
    exact .inr (td (hi j List.mem_cons_self))
theorem Q5 {l:List Ti} {i:Nat} (h:i<l.length) (cur:List Value):dU (pz l++cur) (i*3) 3=[.string l[i].nm,.int .i64 l[i].fr,.int .i64 l[i].to]:=qX (f:=Ti.cells) (fun _=>rfl) h cur
theorem Oq {l:List Ti} {i:Nat} (h:i<l.length) (cur:List Value):(pz l++cur)[i*3]? = some (.string l[i].nm):=by
 have:=sE (cs:=pz l++cur) (o:=i*3) (n:=3) (j:=0) (by omega)
 rw [Q5 h cur,Nat.add_zero] at this
 exact this.symm
theorem DZ (l:List Po) (q:Po):iW (l++[q])=iW l++[.int .i64 q.lv,.string q.ou,.string q.ip]:=by
 unfold iW sN;simp [Po.cells]
theorem OL {r:Ro} {x y:Po}:OM r x y<0↔pb r x y=true:=by
 rw [tr];unfold pb;simp
set_option maxHeartbeats 2000000 in
theorem Q8 {r:Ro} {s d t p:Value} {b:Nat} {po:List Po} {xv:Value} {xp:List Nat} (xf:Nat) (v:Int) (so de:ByteArray) {w:World} {fp:List Nat} (kD:fp.Nodup) (hs:bY (hp w) [RB b r s d t p,J1 r s,J2 r d,J3 r t,PB p po,row 3 1 xv xp.length (fI xp)] fp)
  (cJ:mP r) (Vi:po.length≤1000) (hxf:xp.length≤100) (hd:B7 r) (hi:∀ i∈xp,i<r.ti.length) (Fu:∀ q∈po,q.ou∈cm r∨q.ou∈cK r) (lO:de∈cm r) (hV:(kT r po v so xp de).Pairwise (fun a b=>pb r a b=true)) :
  bd Tryz.prog 258 [.pointer (some ⟨b,0,none⟩),.int .i64 v,.string so,.agg #[xv,.int .i64 (xf:Nat)],.string de] w fp (fun _:Value=>True) (fun _=>.tuple #[]) (fun p'=>[RB b r s d t p',J1 r s,J2 r d,J3 r t,PB p' (kT r po v so xp de),row 3 1 xv xp.length (fI xp)]):=by
 unfold RB PB at *
 refine dS Tryz.func258 rfl rfl kD hs ?_
 refine aW (v:=xv) eC fun xa xc e=>?_
 subst e
 refine aW (v:=t) cY fun ta tc e=>?_
 subst e
 refine aW (v:=p) ei fun pa pc e=>?_
 subst e
 (refine Jr<|Jy rfl rfl fun _ _=>Ji<|Jv rfl<|Ja rfl<|Jn<|Jq<|Jr<|bF rfl rfl ae ?_;refine JL rfl .here rfl<|JI rfl<|Jv rfl<|Jn<|J0 ?_)
 rename_i b8 Xr
 refine aX (ι:=Nat×Value) (fun y=>y.1≤xp.length) (fun y=>[(19,.int .i64 (y.1:Nat)),(18,.int .i64 (xp.length:Nat)),(17,.slice xa xp.length xc),(10,.string (pY r v po so (xp.take y.1)).2),(0,.pointer (some ⟨b,0,none⟩)),(1,.int .i64 v),(4,.string de)])
  (fun y=>[JP b r s d (.slice ta r.ti.length tc) (y.2),J1 r s,J2 r d,row 187 3 (.slice ta r.ti.length tc) r.ti.length (pz r.ti),row 188 3 y.2 (pY r v po so (xp.take y.1)).1.length (iW (pY r v po so (xp.take y.1)).1),row 3 1 (.slice xa xp.length xc) xp.length (fI xp)]) (fun y=>xp.length-y.1) ?_ ?_
 ·apply aK (0,.slice pa po.length pc) (Nat.zero_le _)
  case hs1=>
   show k6 _ [(19,.int .i64 (0:Nat)),(18,.int .i64 (xp.length:Nat)),(17,.slice xa xp.length xc),(10,.string so),(0,.pointer (some ⟨b,0,none⟩)),(1,.int .i64 v),(4,.string de)]
   exact .cons rfl (.cons rfl (.cons rfl (.cons rfl (.cons rfl (.cons rfl (.cons rfl .nil))))))
  case ht=>
   exact .cons (.there .here) (.cons (.there .here) (.cons (.there .here) (.cons (.there .here) (.cons (.there .here) (.cons (.there .here) .nil)))))
 rintro ⟨k,pv⟩ hk
 dsimp only at hk ⊢
 have PY:=zP (r:=r) (v:=v) (xp.take k) po so
 rw [List.length_take] at PY
 by_cases aN:k<xp.length
 ·have rE:pY r v po so (xp.take (k+1))=(if iT (pY r v po so (xp.take k)).1 v (gy r xp[k]) then (pY r v po so (xp.take k)).1 else (pY r v po so (xp.take k)).1++[⟨v,gy r xp[k],(pY r v po so (xp.take k)).2⟩],gy r xp[k]):=by
   rw [List.take_succ_eq_append_getElem aN,BQ]
  have Xe:=hi _ (List.getElem_mem aN)
  have xy:gy r xp[k]=(r.ti[xp[k]]).nm:=by unfold gy;rw [mu Xe]
  generalize pY r v po so (xp.take k)=A at rE PY ⊢
  obtain ⟨q,la⟩:=A
  dsimp only at rE PY ⊢
  refine aW (E:=188) (sz:=3) (v:=pv) ei fun va vc e=>?_
  subst e
  refine Jr<|JA rfl<|Jn<|Jq<|Jd rfl fun aq=>Jk<|Jq<|J0<|Jr ?_
  refine db (E:=3) (sz:=1) (v:=.slice xa xp.length xc) eC (by omega) fun g1 c1 u1 e jY aJ hz1 PH=>?_
  cases e
  have a1:=A8 aN u1
  generalize hxk:xp[k]=ik at *
  (refine ab (aC (.of rfl) (.of rfl) rfl (by omega) aq bo) rfl ?_;refine ab (ai (.of rfl) (At.mO .here a1)) rfl ?_;refine Ja rfl<|Ji<|Jv rfl<|ab (dH (.of rfl)) rfl ?_;refine bF rfl rfl ae ?_;refine JL rfl (.there .here) rfl<|Jv rfl ?_)
  refine db (E:=187) (sz:=3) (v:=.slice ta r.ti.length tc) ei (by omega) fun g2 c2 u2 e jH lH hz2 CZ=>?_
  cases e
  have a2:=Oq Xe u2
  rw [← xy] at a2
  (refine ab (aC (.of rfl) (.of rfl) rfl (by omega) (by omega) bo) rfl ?_;refine bF rfl rfl ae ?_;refine ab (ai (.of rfl) (At.mO .here a2)) rfl ?_;refine Ja rfl<|Jn<|Jq<|Jr<|Jv rfl<|ab (dH (.of rfl)) rfl ?_;refine ab (cr bI) rfl ?_;refine Jv rfl<|Jv rfl ?_)
  refine c8 (E:=187) (sz:=3) (g:=g2) (by exact .here) jH lH hz2 CZ ?_
  refine c8 (E:=3) (sz:=1) (g:=g1) (by exact Take.there .here) jY aJ hz1 PH ?_
  refine ag dK rfl (fun w' az=>pW (r:=r.wp q) v (gy r ik) (RR.wp (cE az cY rfl) (cG az ei rfl) (cD az (by exact Take.there .here) rfl) (cy az eC rfl))) ?_
  have mT:iT (r.wp q).po v (gy r ik)=iT q v (gy r ik):=rfl
  rw [mT]
  have QH:(iW q).length=q.length*3:=ja q
  cases Bp:iT q v (gy r ik) with
  | false =>
   rw [Bp,if_neg (by decide)] at rE
   have Vk:iW (q++[⟨v,gy r ik,la⟩])=iW q++[.int .i64 v,.string (gy r ik),.string la]:=DZ _ _
   have zY:(q++[(⟨v,gy r ik,la⟩:Po)]).length=q.length+1:=by simp
   (refine JH rfl<|Jn<|cR (.of rfl) ?_;refine Jg<|Jv rfl<|Jv rfl<|ab (dH (.of rfl)) rfl ?_;refine bF rfl rfl ae ?_;refine JL rfl bI rfl<|Jv rfl<|Jv rfl<|Jv rfl<|ab (aS (.cons (.of rfl) (.cons (.of rfl) (.cons (.of rfl) .nil))) ak) rfl ?_;refine bb (bu (.cons (.of rfl) .nil) rfl rfl bM bM ak) rfl fun _ _=>?_)
   refine bz (.of rfl) (.of rfl) oq .here ak (by rfl) (fk rfl rfl rfl) (by rfl) (by rfl) (by rfl) ep (by rfl) ?_
   intro v'
   refine aW (by exact .here) fun a' gB e=>?_
   subst e
   (refine ab (dH (.of rfl)) rfl ?_;refine bF rfl rfl ae ?_;refine ao (.of rfl) (.of rfl) ei rfl rfl (dZ rfl) (bE rfl) ak ?_;refine Jn<|Jg<|Jv rfl<|Ja rfl<|Jx<|Jj<|Jt<|Jg<|JB rfl (by omega)<|Jv rfl<|Jn ?_)
   apply aL (k+1,.slice a' (q.length+1) gB) (by show k+1≤_;omega) (by show xp.length-(k+1)<xp.length-k;omega)
   case hs1=>
    dsimp only
    rw [rE]
    exact .cons rfl (.cons rfl (.cons rfl (.cons rfl (.cons rfl (.cons rfl (.cons rfl .nil))))))
   case ht=>
    dsimp only
    rw [rE]
    dsimp only
    rw [zY,Vk]
    exact .cons .here (.cons ei (.cons ei (.cons cY (.cons .here (.cons (.there .here) .nil)))))
  | true =>
   rw [Bp,if_pos rfl] at rE
   (refine JH rfl<|Jn<|bR (.of rfl) ?_;refine Jk<|Jg<|Jv rfl<|Ja rfl<|Jx<|Jj<|Jt<|Jg<|JB rfl (by omega)<|Jv rfl<|Jn ?_)
   apply aL (k+1,.slice va q.length vc) (by show k+1≤_;omega) (by show xp.length-(k+1)<xp.length-k;omega)
   case hs1=>
    dsimp only
    rw [rE]
    exact .cons rfl (.cons rfl (.cons rfl (.cons rfl (.cons rfl (.cons rfl (.cons rfl .nil))))))
   case ht=>
    dsimp only
    rw [rE]
    exact .cons bI (.cons bI (.cons bI (.cons (.there .here) (.cons (.there .here) (.cons .here .nil)))))
 ·have e:k=xp.length:=by omega
  subst e
  rw [List.take_length] at *
  refine aW (E:=188) (sz:=3) (v:=pv) ei fun va vc e=>?_
  subst e
  (refine Jr<|JA rfl<|Jn<|Jq<|Jc rfl fun aq=>Jp<|Jl<|Jo<|Jt<|Jr<|Jv rfl<|Jv rfl<|ab (dH (.of rfl)) rfl ?_;refine bF rfl rfl ae ?_;refine JL rfl .here rfl<|Jv rfl<|Jv rfl<|Jv rfl<|ab (aS (.cons (.of rfl) (.cons (.of rfl) (.cons (.of rfl) .nil))) ak) rfl ?_;refine bb (bu (.cons (.of rfl) .nil) rfl rfl bM bM ak) rfl fun _ _=>?_)
  refine bz (.of rfl) (.of rfl) eC .here ak (by rfl) (fk rfl rfl rfl) (by rfl) (by rfl) (by rfl) ep (by rfl) ?_
  intro v'
  refine aW (by exact .here) fun a' gB e=>?_
  subst e
  (refine ab (dH (.of rfl)) rfl ?_;refine bF rfl rfl ae ?_;refine ao (.of rfl) (.of rfl) bI rfl rfl (dZ rfl) (bE rfl) ak ?_;refine Ji<|Jv rfl<|ab (dH (.of rfl)) rfl ?_;refine ab (cr .here) rfl ?_)
  have hAo:=EK (r:=r) (v:=v) xp po so hi Fu
  have oW:∀ S:List Po,S.Perm ((pY r v po so xp).1++[⟨v,de,(pY r v po so xp).2⟩])→S.Pairwise (fun a b=>¬ OM r b a<0)→S=kT r po v so xp de:=fun S h1 h2=>GK hV h1 (h2.imp fun h=>fun c=>h (OL.2 c))
  have abR:=zP (r:=r) (v:=v) xp po so
  generalize pY r v po so xp=A at *
  obtain ⟨q,la⟩:=A
  dsimp only at *
  have Vk:iW (q++[⟨v,de,la⟩])=iW q++[.int .i64 v,.string de,.string la]:=DZ _ _
  have zY:(q++[(⟨v,de,la⟩:Po)]).length=q.length+1:=by simp
  rw [← Vk,← zY]
  have iv:∀ y∈q++[(⟨v,de,la⟩:Po)],iF (dX r) y.ou=true:=fun y hy=>by
   rw [eX]
   rcases List.mem_append.1 hy with hy | hy
   ·exact I6 ((hAo y hy).elim (fun e=>.inr (.inl e)) fun e=>.inr (.inr e))
   ·rw [List.mem_singleton.1 hy];exact I6 (.inr (.inl lO))
  have hlen:(q++[(⟨v,de,la⟩:Po)]).length≤100000:=by omega
  generalize q++[(⟨v,de,la⟩:Po)]=L at *
  refine JN bC rfl (fun w1 aJ=>DY (r:=r.wp L) (RR.wp (cE aJ cY rfl) (cG aJ ei rfl) (cD aJ eC rfl) (cy aJ (by exact Take.there .here) rfl)) (by have:=cJ;unfold mP at this;show r.de.length+r.ti.length≤_;omega)) ?_
  intro bm _
  dsimp only [id_eq,List.cons_append,List.nil_append]
  rw [show nH (r.wp L)=nH r from rfl]
  (refine Jz rfl rfl fun _ _=>ao (.of rfl) (.of rfl) .here rfl rfl (dZ rfl) (bE rfl) ak ?_;refine Jn<|Jg<|Jv rfl<|ab (dH (.of rfl)) rfl ?_;refine bF rfl rfl ae ?_;refine JL rfl bI rfl<|ab (bn .nil (.cons (.of rfl) .nil)) rfl ?_)
  rename_i b61 abI Ko abP
  refine EX (b:=bm) (l:=nH r) (kv:=fun s:ByteArray=>Value.string s) (by exact Take.there .here) fun es ck eK=>?_
  with_reducible apply fE (As:=[row 188 3 (.slice a' L.length gB) L.length (iW L)])
  case hr=>exact aZ
  case hd=>rfl
  case ht=>exact .cons cY .nil
  case hc=>
   intro w1 Ad aJ uO hs1 B5 kd
   have Wo:Ko ∉ Ad:=kd Ko _ _ (by exact Take.there .here)
   have Uc:bm ∉ Ad:=kd bm _ _ (by exact .here)
   have f14:w1.cell? ⟨Ko,0,none⟩=some (.map (some bm)):=At.lit (by exact Take.there .here) rfl w1 aJ
   exact GD (r:=r) (l:=L) hs1 hd iv (by omega) f14 ⟨es,ck,aJ.bD (by exact .here),eK⟩ Wo Uc
  rintro S ⟨Wg,QQ⟩
  rw [oW S Wg QQ]
  have hlS:S.length=L.length:=Wg.length_eq
  dsimp only [id_eq,List.cons_append,List.nil_append]
  unfold PB
  have hzl:(kT r po v so xp de).length=L.length:=by rw [← oW S Wg QQ];exact hlS
  refine Gk ?_
  first | with_reducible apply aO | with_reducible apply aP
  case he=>exact pj rfl
  case hR=>
   intro w' az
   exact aB (.slice a' L.length gB) trivial (by exact .cons cY (.cons ei (.cons ei (.cons ei (.cons .here (.cons cY .nil)))))) az rfl
end Go.Proofs.A1
namespace Go.SL
open Go
theorem lp {P:Program} {c:Cx} {sl:aG} {hs hs':List ba} {fn:Func} {s t u:Tmp} {T:TypeId} {b o n:Nat} {cs vs:List Value} {E:TypeId} {fz:Nat×Nat} {x y:Value} (h:fn.results=#[.cell t T,.tmp s,.tmp u]) (hT:Ty P T true n) (hp:cI sl t=some (.pointer (some ⟨b,o,none⟩))) (ht:Take hs (SL.bD b (.cells cs.toArray E fz)) hs') (hv:dU cs o n=vs) (hl:vs.length=n) (hx:cI sl s=some x) (hy:cI sl u=some y):Ends P fn c sl hs (.tuple #[.agg vs.toArray,x,y]):=
 NR (xs:=[.cell t T,.tmp s,.tmp u]) (vs:=[.agg vs.toArray,x,y]) h (F4.cons (RV.cell hp (Hz (eG.bD ht hv) hl)) (F4.cons (RV.tmp hx) (F4.cons (RV.tmp hy) F4.nil))) (by simp)
end Go.SL
namespace Go.Proofs.A1
open Go Go.SL
def HA (r:Ro) (t:Tk):Bool:=(r.de.getD (bA (cm r) t.de).toNat ⟨⟨#[]⟩,0,false⟩).pr
theorem LF {r:Ro} {s d t p:Value} {x:fZ} {b:Nat} {w:World} (h:RR w r s d t p) (hA:BR w b (RC r s d t p)) (hx:x.tk.de∈cm r):aj Tryz.prog 253 [.agg x.cells.toArray,.pointer (some ⟨b,0,none⟩)] w (.bool (HA r x.tk)):=by
 have h1:=Rd.one h.sr
 have h3:=Rd.one h.ti
 have h4:=Rd.one h.po
 have lO:=h.de
 obtain ⟨a3,rP,b3,o3,rfl,mS,fX,sR,pL⟩:=lO
 rw [bX] at *
 unfold maxLen at fX
 obtain ⟨j0,zk⟩:∃ i:Nat,bA (cm r) x.tk.de=(i:Nat):=⟨(bA (cm r) x.tk.de).toNat,by have:=eu hx;omega⟩
 have Bm:j0<r.de.length:=by
  obtain ⟨hl,_⟩:=fw (l:=cm r) (s:=x.tk.de) (by omega)
  rw [zk,Int.toNat_natCast] at hl
  unfold cm at hl;rwa [List.length_map] at hl
 have e0:HA r x.tk=(r.de[j0]).pr:=by unfold HA;rw [zk,Int.toNat_natCast,List.getD_eq_getElem?_getD,List.getElem?_eq_getElem Bm];rfl
 have cM:=sR (gm Bm)
 have aD:=(pL j0 _ (fa Bm)).2
 unfold De.cells at aD
 have c2:=aD 2 _ rfl
 have QM:∀ w',aF [] w w'→aj Tryz.prog 155 [.agg #[.int .i64 r.lv,.int .i64 r.ma,s,.slice a3 r.de.length rP,t,p],.string x.tk.de] w' (.int .i64 (j0:Nat)):=fun w' hk=>zk ▸ fB x.tk.de (h.keeps hk)
 have f3:w.cell? ⟨b,3,none⟩=some (.slice a3 r.de.length rP):=hA 3 _ rfl
 have jI:∀ (j:Nat) (u:Value),[Value.int .i64 r.lv,.int .i64 r.ma,s,.slice a3 r.de.length rP,t,p][j]? = some u→w.cell? ⟨b,0+j,none⟩=some u:=hA
 clear hA
 rw [e0]
 unfold fZ.cells
 refine ah Tryz.func253 rfl rfl ?_
 refine Jr<|Jy rfl rfl fun _ _=>Ja rfl<|Jn<|Jq ?_
 with_reducible refine dN 10 (by kernel_rfl) ?_
 (refine np rfl rfl ae ?_;refine aH (ai (.of rfl) (At.base f3 rfl)) rfl ?_;refine aH (iz (eG.base jI rfl)) rfl ?_;refine np rfl rfl ae ?_;refine aH (gp .here) rfl ?_;refine eZ aZ rfl (fun w' az=>(QM w' (Mem.keeps az))) ?_;refine aH (aC (.of rfl) (.of rfl) cM (by omega) (by omega) bo) rfl ?_;refine np rfl rfl ae ?_;refine aH (ai (.of rfl) (At.base c2 rfl)) rfl ?_;refine aH (cq (.of rfl)) rfl ?_)
 with_reducible refine dW ?_
 refine Jn<|Je<|JT ?_
 rfl
theorem L8 {r:Ro} {s d t p:Value} {x:fZ} {b:Nat} {w:World} (h:RR w r s d t p) (hA:BR w b (RC r s d t p)) (zi:r.lv≤1000) (cJ:r.ti.length≤1000000):bd Tryz.prog 255 [.agg x.cells.toArray,.pointer (some ⟨b,0,none⟩)] w [] (fun _:Value=>True) id (fun v=>[row 9 1 v r.lv.toNat (aM (cu r x.tk.de))]):=by
 have h1:=Rd.one h.sr
 have h2:=Rd.one h.de
 have h3:=Rd.one h.ti
 have h4:=Rd.one h.po
 have jI:∀ (j:Nat) (u:Value),[Value.int .i64 r.lv,.int .i64 r.ma,s,d,t,p][j]? = some u→w.cell? ⟨b,0+j,none⟩=some u:=hA
 clear hA
 unfold fZ.cells
 refine aR Tryz.func255 rfl rfl ?_
 (refine Jr<|Jy rfl rfl fun _ _=>Ja rfl<|Ji<|ab (iz (eG.base jI rfl)) rfl ?_;refine bF rfl rfl ae ?_;refine JL rfl .here rfl ?_)
 refine JN aZ rfl (fun w1 aJ=>uS x.tk.de (h.keeps aJ.keeps) zi cJ) ?_
 intro v _
 dsimp only [id_eq,List.cons_append,List.nil_append]
 refine aW (v:=v) (by exact .here) fun va vc e=>?_
 subst e
 refine Ja rfl<|Jn<|Je ?_
 first | with_reducible apply aO | with_reducible apply aP
 case he=>exact dj rfl rfl
 case hR=>
  intro w' az
  exact aB (.slice va r.lv.toNat vc) trivial (by exact .cons .here .nil) az rfl
theorem O5 {kv:Value} {l:List fZ} {g:fZ→List ByteArray} {n:Nat} {f:FuncId} {first cap:List Value} [bP Tryz.prog f] {w:World} (h:Rd w kv 2 (ji l)) (hM:vF w l) (hn:l.length≤1000) (hg:∀ x∈l,(g x).length=n)
  (ch:∀ x∈l,∀ w',aF [] w w'→bd Tryz.prog f (first++[.agg x.cells.toArray]++cap) w' [] (fun _:Value=>True) id (fun v=>[row 9 1 v n (aM (g x))])) :
  bd Tryz.prog 254 [kv,.func (.func f) first.toArray cap.toArray] w [] (fun x:Value×List Value=>x.2.length=l.length) (fun x=>x.1) (fun x=>[row 32 1 x.1 l.length x.2,mz 9 x.2 (l.map fun y=>aM (g y))]):=by
 obtain ⟨a,cp,b,o,rfl,df,bO,ha,hc⟩:=h
 rw [eH] at *
 unfold maxLen at bO
 refine aR Tryz.func254 rfl rfl ?_
 refine Jr<|Ja rfl<|Ji<|Ja rfl<|Jn<|Jq<|Jr<|Jv rfl<|JI rfl<|Jv rfl<|Jn<|J0 ?_
 refine aQ 32 1 ?_
 refine kz 9 ?_
 refine aX (ι:=Nat×Value×List Value) (fun x=>x.1≤l.length∧x.2.2.length=x.1) (fun x=>[(10,.int .i64 (x.1:Nat)),(9,.int .i64 (l.length:Nat)),(8,.slice a l.length cp),(5,x.2.1),(1,.func (.func f) first.toArray cap.toArray)])
  (fun x=>[row 32 1 x.2.1 x.1 x.2.2,mz 9 x.2.2 ((l.take x.1).map fun y=>aM (g y))]) (fun x=>l.length-x.1) ?_ ?_
 ·apply aK (0,.slice none 0 0,[]) ⟨Nat.zero_le _,rfl⟩
  case hs1=>exact cn
  case ht=>
   exact .cons (.there .here) (.cons .here .nil)
 rintro ⟨k,v,vs⟩ ⟨hk,nP⟩
 dsimp only at hk nP ⊢
 by_cases aN:k<l.length
 ·have cM:=ha (mr aN)
  have aD:=(hc k _ (j4 aN)).2
  have ix:=ch _ (List.getElem_mem aN)
  have PN:=hg _ (List.getElem_mem aN)
  have iD:=Rd.one (hM _ (List.getElem_mem aN))
  have htk:(l.take (k+1)).map (fun y=>aM (g y))=((l.take k).map fun y=>aM (g y))++[aM (g l[k])]:=by
   rw [List.take_succ_eq_append_getElem aN,List.map_append];rfl
  have vz:((l.take k).map fun y=>aM (g y)).length=k:=by rw [List.length_map,List.length_take];omega
  unfold fZ.cells at aD ix
  refine aW (E:=32) (sz:=1) (v:=v) (by exact .here) fun va vc e=>?_
  subst e
  (refine Jr<|JA rfl<|Jn<|Jq<|Jd rfl fun aq=>Jk<|Jq<|J0<|Jr<|ab (fM cM aq) rfl ?_;refine ab (iz (eG.base aD rfl)) rfl ?_;refine Jz rfl rfl fun _ _=>ao (.of rfl) (.of rfl) .here rfl rfl (gn rfl iD) (bE rfl) ak ?_;refine Jn<|Jg<|Jv rfl<|Jv rfl<|ab (cr .here) rfl ?_)
  refine JN bC rfl (fun w1 aJ=>ix w1 aJ.keeps) ?_
  intro hv _
  dsimp only [id_eq,List.cons_append,List.nil_append]
  refine aW (E:=9) (sz:=1) (v:=hv) (by exact .here) fun je jH e=>?_
  subst e
  refine bb (aA (.cons (.of rfl) .nil) rfl rfl rfl rfl) rfl (fun _ _=>?_)
  refine bz (.of rfl) (.of rfl) cY .here ak (by rfl) (dZ rfl) (by rfl) (by rfl) (by rfl) ep (by rfl) ?_
  intro v'
  refine Ja rfl<|Jx<|Jj<|Jt<|Jg<|JB rfl (by omega)<|Jv rfl<|Jn ?_
  refine mn (E:=9) (vs:=vs) (v:=.slice je n jH) (x:=aM (g l[k])) ei bI (by rw [cS,PN]) (by rw [vz,nP]) ?_
  apply aL (k+1,v',vs++[.slice je n jH]) ⟨by show k+1≤_;omega,by rw [List.length_append,nP];rfl⟩ (by show l.length-(k+1)<l.length-k;omega)
  case hs1=>exact cn
  case ht=>
   dsimp only
   rw [htk]
   exact .cons (.there .here) (.cons .here .nil)
 ·have e:k=l.length:=by omega
  subst e
  rw [List.take_length] at *
  refine aW (E:=32) (sz:=1) (v:=v) (by exact .here) fun va vc e=>?_
  subst e
  refine Jr<|JA rfl<|Jn<|Jq<|Jc rfl fun aq=>Jp<|Jl<|Jo<|Jt<|Jr<|Jv rfl<|Ja rfl<|Jn<|Je ?_
  first | with_reducible apply aO | with_reducible apply aP
  case he=>exact dj rfl rfl
  case hR=>
   intro w' az
   exact aB (.slice va l.length vc,vs) nP (by exact .cons .here (.cons .here .nil)) az rfl
end Go.Proofs.A1
namespace Go.Proofs.A1
open Go Go.SL
theorem pE {r:Ro} (h:sJ r) {s:ByteArray} (hs:s∈cm r∨s∈cK r):0≤dP r s∧dP r s<14:=by
 have hl:=h.len
 have l1:(cm r).length=r.de.length:=by unfold cm;rw [List.length_map]
 have l2:(cK r).length=r.ti.length:=by unfold cK;rw [List.length_map]
 rw [Lo hs]
 by_cases c:s∈cm r
 ·have:=eu c
  have:=zv this
  rw [if_pos (by omega)];omega
 ·have h2:=bT.2 c
  have h3:=eu (hs.resolve_left c)
  have:=zv h3
  rw [if_neg (by omega)];omega
theorem oA {r:Ro} (h:sJ r) {q:List Po} (hq:iL r q):q.length≤42:=by
 have hl:=h.lim
 have key:∀ p∈q,0≤p.lv*14+dP r p.ou∧p.lv*14+dP r p.ou<42:=fun p hp=>by
  have:=pE h (hq.out p hp)
  have:=hq.Kh p hp
  omega
 have:=kp 42 (q.map fun p=>(p.lv*14+dP r p.ou).toNat) (by
  unfold List.Nodup
  rw [List.pairwise_map]
  refine (List.Pairwise.and_mem.1 hq.qp).imp fun {a b} ⟨ha,hb,QO⟩ e=>?_
  have:=key a ha
  have:=key b hb
  have:=pE h (hq.out a ha)
  have:=pE h (hq.out b hb)
  unfold pb at QO
  simp only [Bool.or_eq_true,Bool.and_eq_true,decide_eq_true_eq] at QO
  omega) (fun x hx=>by
  obtain ⟨p,hp,rfl⟩:=List.mem_map.1 hx
  have:=key p hp
  omega)
 rwa [List.length_map] at this
theorem GM {r:Ro} (h:sJ r) {po:List Po} {v:Int} {s d:ByteArray} (hv:0≤v∧v<r.lv) (qg:iL r po) (hs:s∈cz r) (lO:d∈cm r) (eF:dY po v d=none) {p:List Nat} (hp:(fo r po v s).least (nk r d) p):iL r (kT r po v s p d):=
 (GL h.xo h.nd hv qg hs lO eF hp.1 (hp.2.1.trans (Iy lO).symm)).1
end Go.Proofs.A1
namespace Go.SL
open Go
def qF (E:TypeId) (vs:List Value) (xs:List (List Value)) (j:Nat):ba:=J8 (fQ E (vs.take j) (xs.take j))
def qE (E:TypeId) (vs:List Value) (xs:List (List Value)) (j:Nat):ba:=J8 (fQ E (vs.drop (j+1)) (xs.drop (j+1)))
theorem nI {E:TypeId} {v:Value} {x:List Value}:∀ {vs:List Value} {xs:List (List Value)} {j:Nat},vs[j]? = some v→xs[j]? = some x→fQ E vs xs=fQ E (vs.take j) (xs.take j)++row E 1 v x.length x::fQ E (vs.drop (j+1)) (xs.drop (j+1))
 | [],_,j,h,_=>by simp at h
 | _::_,[],j,_,h=>by simp at h
 | v' :: vs, x' :: xs, 0, h1, h2 => by
  simp only [List.getElem?_cons_zero,Option.some.injEq] at h1 h2
  subst h1 h2
  rfl
 | v' :: vs, x' :: xs, j + 1, h1, h2 => by
  simp only [List.getElem?_cons_succ] at h1 h2
  show row E 1 v' x'.length x'::fQ E vs xs=row E 1 v' x'.length x'::(fQ E (vs.take j) (xs.take j)++_)
  rw [nI h1 h2];rfl
theorem wK:∀ (l:List ba) (A:ba) (m:List ba),Take (l++A::m) A (l++m)
 | [],_,_=>.here
 | _::l,A,m=>.there (wK l A m)
theorem oD:∀ (P l m:List ba),bj (P++(l++m)) l (P++m)
 | _,[],_=>.nil
 | P,A::l,m=>.cons (wK P A (l++m)) (oD P l m)
section
variable {P:Program} {c:Cx} {D:List Nat} {sl:aG} {hs hs':List ba} {X:Act→World→Prop}
theorem tT {E:TypeId} {vs:List Value} {xs:List (List Value)} {v:Value} {x:List Value} {n j:Nat} (ht:Take hs (mz E vs xs) hs') (hv:vs[j]? = some v) (hx:xs[j]? = some x) (hn:x.length=n)
  (k:Tr c D sl (row E 1 v n x::qF E vs xs j::qE E vs xs j::hs') X):Tr c D sl hs X:=by
 subst hn
 refine wz (As:=fQ E vs xs) ht ?_
 rw [nI hv hx,List.append_assoc]
 refine rf (As:=fQ E (vs.take j) (xs.take j)) (oD [] _ _) ?_
 refine rf (As:=fQ E (vs.drop (j+1)) (xs.drop (j+1))) (hs':=J8 (fQ E (vs.take j) (xs.take j))::row E 1 v x.length x::hs') (oD [_,_] _ _) ?_
 intro a w a7
 have hT:bj (J8 (fQ E (vs.drop (j+1)) (xs.drop (j+1)))::J8 (fQ E (vs.take j) (xs.take j))::row E 1 v x.length x::hs') [row E 1 v x.length x,qF E vs xs j,qE E vs xs j] hs':=.cons (.there (.there .here)) (.cons (.there .here) (.cons .here .nil))
 have hm:=a7.mem.iQ (hT.append (lX D))
 exact k a w (a7.heap hm)
theorem wB {E:TypeId} {vs:List Value} {xs:List (List Value)} {v:Value} {x:List Value} {n:Nat} (j:Nat) {h1 h2:List ba} (ht:Take hs (qF E vs xs j) h1) (ht2:Take h1 (qE E vs xs j) h2) (ht3:Take h2 (row E 1 v n x) hs') (hv:vs[j]? = some v) (hx:xs[j]? = some x) (hn:x.length=n)
  (k:Tr c D sl (mz E vs xs::hs') X):Tr c D sl hs X:=fun a w a7=>by
 subst hn
 have hT:bj hs [qF E vs xs j,qE E vs xs j,row E 1 v x.length x] hs':=.cons ht (.cons ht2 (.cons ht3 .nil))
 have hT2:bj ([qF E vs xs j,qE E vs xs j,row E 1 v x.length x]++(hs'++lX D)) [qF E vs xs j,row E 1 v x.length x,qE E vs xs j] (hs'++lX D):=.cons .here (.cons (.there .here) (.cons .here .nil))
 have hm:=(a7.mem.iQ (hT.append (lX D))).iQ hT2
 obtain ⟨kk,fp,tC,⟨f1,f2',rfl,g1,⟨f2,f3',rfl,g2,⟨f3,f4,rfl,g3,g4⟩⟩⟩,hb⟩:=hm
 refine k a w (a7.heap ⟨kk,(f1++(f2++f3))++f4,by simpa only [List.append_assoc] using tC,⟨f1++(f2++f3),f4,rfl,?_,g4⟩,by simpa only [List.append_assoc] using hb⟩)
 show bY (hp w) (fQ E vs xs) _
 rw [nI hv hx]
 exact bY.append_iff.2 ⟨f1,f2++f3,rfl,g1,⟨f2,f3,rfl,g2,g3⟩⟩
end
attribute [irreducible] qF qE
end Go.SL
namespace Go.Proofs.A1
open Go Go.SL
theorem HM {α β:Type} (f:α→β) (p:β→Bool) (l:List α):gA p (l.map f)=gA (fun x=>p (f x)) l:=by
 unfold gA
 rw [List.length_map]
 congr 1
 congr 1
 funext i
 rw [List.getElem?_map,Option.map_map];rfl
theorem Hy (r:Ro) (l:List fZ):se r (dd l)=gA (fun x:fZ=>HA r x.tk) l:=by
 unfold se dd
 rw [HM];rfl
def rb (r:Ro) (x:Value×Value×Value×Value):List ba:=[J1 r x.1,J2 r x.2.1,J3 r x.2.2.1,PB x.2.2.2 r.po]
theorem EZ {c:Cx} {D:List Nat} {sl:aG} {hs hs':List ba} {X:Act→World→Prop} {jS:List Wy} {xv:Value} {xp:List Nat} {xf:Nat} (hx:(⟨xv,xp,xf⟩:Wy)∈jS∨(⟨xv,xp,xf⟩:Wy)=⟨.slice none 0 0,[],0⟩) (ht:Take hs (ia jS) hs')
  (k:∀ nb,Tr c D sl (row 3 1 xv xp.length (fI xp)::ia nb::hs') X):Tr c D sl hs X:=by
 rcases hx with hx | hx
 ·refine tV hx ht fun nb _=>?_
  intro a w a7
  have hT:bj (ia nb::row 3 1 xv xp.length (fI xp)::hs') [row 3 1 xv xp.length (fI xp),ia nb] hs':=.cons (.there .here) (.cons .here .nil)
  have Fq:St c D sl (ia nb::row 3 1 xv xp.length (fI xp)::hs') a w:=a7
  have hm:=Fq.mem.iQ (hT.append (lX D))
  exact k nb a w (a7.heap hm)
 ·cases hx
  refine aQ 3 1 ?_
  intro a w a7
  have hT:bj (row 3 1 (.slice none 0 0) 0 []::hs) [row 3 1 (.slice none 0 0) 0 [],ia jS] hs':=.cons .here (.cons ht .nil)
  have hm:=a7.mem.iQ (hT.append (lX D))
  exact k jS a w (a7.heap hm)
set_option maxHeartbeats 4000000 in
theorem DO {r:Ro} {s d t p kv:Value} {l:List fZ} {w:World} (h:RR w r s d t p) (eK:sJ r) (Vi:r.po.length≤500) (hw:Rd w kv 2 (ji l)) (hM:vF w l) (hT:JR r (dd l)) :
  bd Tryz.prog 165 [RA r s d t p,kv] w [] (fun _:Value×Value×Value×Value=>True) (fun x=>.tuple #[RA (kU r (dd l)).1 x.1 x.2.1 x.2.2.1 x.2.2.2,.int .i64 (kU r (dd l)).2.1,.int .i64 (kU r (dd l)).2.2]) (fun x=>rb (kU r (dd l)).1 x):=by
 have zi:=eK.lim
 have zj:=eK.len
 have cJ:mP r:=by unfold mP;omega
 have Su:=hT.C8
 unfold dd at Su
 rw [List.length_map] at Su
 have h1:=Rd.one h.sr
 have h2:=Rd.one h.de
 have h3:=Rd.one h.ti
 have h4:=Rd.one h.po
 have B1:=hw
 obtain ⟨a,cp,b,o,rfl,df,bO,ha,hc⟩:=hw
 rw [eH] at *
 unfold maxLen at bO
 have Sn:=Hy r l
 unfold RA
 refine aR Tryz.func165 rfl rfl ?_
 refine Jr<|Jy rfl rfl fun _ _=>Jz rfl rfl fun _ _=>Ja rfl<|Ja rfl<|Ji<|Jv rfl<|ab (bn .nil (.cons (.of rfl) .nil)) rfl ?_
 rename_i b2 sQ b4 vC
 with_reducible apply ag
 case hr=>exact aZ
 case hd=>rfl
 case hc=>
  intro w' az
  have hA:BR w' b2 [.int .i64 r.lv,.int .i64 r.ma,s,d,t,p]:=BR.of az (by exact Take.there .here)
  have hR:=h.keeps az.keeps
  exact Eg (f:=253) (p:=fun x:fZ=>HA r x.tk) (first:=[]) (cap:=[.pointer (some ⟨b2,0,none⟩)]) (B1.keeps az.keeps) (fun x hx w2 ez=>LF (hR.keeps ez) (hA.keeps ez) (hT.de _ (List.mem_map_of_mem hx)))
 rw [← Sn]
 (refine Ja rfl<|Jn<|Jq<|Jr<|Jv rfl<|JG rfl<|Jn<|fY rfl (fun aq=>?_) fun aq=>?_;refine Jr<|ab (aS .nil ak) rfl ?_;refine Jv rfl<|ao (.of rfl) (.of rfl) .here rfl rfl (ib rfl rfl rfl rfl rfl rfl) (bE rfl) ak ?_;refine Ja rfl<|Ja rfl<|Jn<|Ju ?_;rotate_left;refine Jk<|Jr<|ab (cr (.there .here)) rfl ?_;rotate_right)
 ·have e0:kU r (dd l)=(Ro.nil,se r (dd l),31):=by unfold kU;rw [if_pos (by omega)]
  rw [e0]
  dsimp only
  refine aQ 186 2 ?_
  refine aQ 90 3 ?_
  refine aQ 187 3 ?_
  refine aQ 188 3 ?_
  first | with_reducible apply aO | with_reducible apply aP
  case he=>exact lp rfl inferInstance rfl ei ak (by rfl) (by rfl) (by rfl)
  case hR=>
   intro w' az
   exact aB (.slice none 0 0,.slice none 0 0,.slice none 0 0,.slice none 0 0) trivial (by exact .cons cY (.cons bI (.cons (.there .here) (.cons .here .nil)))) az rfl
 have XC:¬ 0≤se r (dd l):=by omega
 refine JN bC rfl (fun w1 aJ=>yQ (h.keeps aJ.keeps) cJ (by omega)) ?_
 intro y _
 dsimp only [id_eq,List.cons_append,List.nil_append]
 obtain ⟨s1,d1,t1,p1⟩:=y
 dsimp only
 unfold RA PB
 refine aW (E:=186) (sz:=2) (v:=s1) (by exact .here) fun _ _ e=>?_
 have k1:s1.oneCell'=true:=by rw [e];rfl
 clear e
 refine aW (E:=90) (sz:=3) (v:=d1) (by exact Take.there .here) fun _ _ e=>?_
 have k2:d1.oneCell'=true:=by rw [e];rfl
 clear e
 refine aW (E:=187) (sz:=3) (v:=t1) bI fun _ _ e=>?_
 have k3:t1.oneCell'=true:=by rw [e];rfl
 clear e
 refine aW (E:=188) (sz:=3) (v:=p1) cY fun _ _ e=>?_
 have k4:p1.oneCell'=true:=by rw [e];rfl
 clear e
 (refine Jz rfl rfl fun _ _=>ao (.of rfl) (.of rfl) .here rfl rfl (ib rfl rfl k1 k2 k3 k4) (bE rfl) ak ?_;refine Ji<|Jv rfl<|ab (bn .nil (.cons (.of rfl) .nil)) rfl ?_)
 rename_i b8 Xr
 with_reducible apply iX
 case hr=>exact aZ
 case hd=>rfl
 case ht=>exact bj.nil
 case hc=>
  intro w1 fp aJ _ hs1
  obtain rfl:fp=[]:=hs1
  have hA:BR w1 b2 [.int .i64 r.lv,.int .i64 r.ma,s,d,t,p]:=BR.of aJ oq
  have hR:=h.keeps aJ.keeps
  exact O5 (f:=255) (first:=[]) (cap:=[.pointer (some ⟨b2,0,none⟩)]) (g:=fun x:fZ=>cu r x.tk.de) (n:=r.lv.toNat) (B1.keeps aJ.keeps) (hM.keeps aJ.keeps) (by omega) (fun x _=>by unfold cu;simp) (fun x hx w2 ez=>L8 (hR.keeps ez) (hA.keeps ez) (by omega) (by omega))
 rintro ⟨hv,nP⟩ Pf
 dsimp only at Pf
 dsimp only [id_eq,List.cons_append,List.nil_append]
 refine aW (E:=32) (sz:=1) (v:=hv) (by exact .here) fun lo jY e=>?_
 subst e
 refine Ja rfl<|Jn<|Jq<|Jr<|Jv rfl<|JI rfl<|Jv rfl<|Jn<|J0 ?_
 have Xk:∀ i,(jJ r (dd l) i).length≤r.po.length:=fun i=>by rw [kg];exact List.length_filter_le _ _
 have xy:(dd l).length=l.length:=by unfold dd;rw [List.length_map]
 refine aX (ι:=Nat×Value×List Po) (fun y=>y.1≤l.length∧y.2.2=jJ r (dd l) y.1) (fun y=>[(34,.int .i64 (y.1:Nat)),(33,.int .i64 (l.length:Nat)),(32,.slice a l.length cp),(9,.slice lo l.length jY),(8,.pointer (some ⟨b8,0,none⟩)),(4,.pointer (some ⟨b4,0,none⟩)),(1,.slice a l.length cp)])
  (fun y=>[JP b8 r s1 d1 t1 (y.2.1),J1 r s1,J2 r d1,J3 r t1,row 188 3 y.2.1 y.2.2.length (iW y.2.2),row 32 1 (.slice lo l.length jY) l.length nP,mz 9 nP (l.map fun y=>aM (cu r y.tk.de)),bD b4 (.cells #[.int .i64 0,.int .i64 0,.slice none 0 0,.slice none 0 0,.slice none 0 0,.slice none 0 0] 41 (0,0))]) (fun y=>l.length-y.1) ?_ ?_
 ·apply aK (0,p1,r.po) ⟨Nat.zero_le _,rfl⟩
  case hs1=>exact cn
  case ht=>exact .cons bI (.cons bI (.cons bI (.cons bI (.cons bI (.cons .here (.cons .here (.cons .here .nil)))))))
 rintro ⟨i,pv,L⟩ ⟨hi,hL⟩
 dsimp only at hi hL ⊢
 by_cases aN:i<l.length
 ·have PG:=mr aN
  have cM:=ha PG
  have aD:=(hc i _ (j4 aN)).2
  have jj:=List.getElem_mem aN
  have Wh:=hM _ jj
  have Ns:(dd l).getD i Tk.zero=l[i].tk:=by unfold dd;rw [List.getD_eq_getElem?_getD,List.getElem?_map,List.getElem?_eq_getElem aN];rfl
  have fy:jJ r (dd l) (i+1)=mU r l[i].tk l[i].tk.so.length (jJ r (dd l) i):=by rw [jJ,Ns]
  have hls:=hT.lv l[i].tk (List.mem_map_of_mem jj)
  have hdi:L.length≤r.po.length:=by rw [hL];exact Xk i
  rw [← hL] at fy
  have VZ:∀ k,(mU r l[i].tk k L).length≤r.po.length:=fun k=>Nat.le_trans (by rw [mM];exact List.length_filter_le _ _) hdi
  have Pg:∃ u,nP[i]? = some u:=⟨nP[i],List.getElem?_eq_getElem (by omega)⟩
  have RK:(l.map fun y=>aM (cu r y.tk.de))[i]? = some (aM (cu r l[i].tk.de)):=by rw [List.getElem?_map,List.getElem?_eq_getElem aN];rfl
  unfold fZ.cells at aD
  generalize hti:l[i]=ti at *
  obtain ⟨tk,tv⟩:=ti
  dsimp only at *
  obtain ⟨sa,M3,sb,Q6,rfl,Nj,Bi,R5,R3⟩:=Wh
  rw [bV] at *
  unfold maxLen at Bi
  (refine Jr<|JA rfl<|Jn<|Jq<|Jd rfl fun aq=>Jk<|Jq<|J0<|Jr<|Jv rfl<|ab (fM cM aq) rfl ?_;refine ab (iz (eG.base aD rfl)) rfl ?_;refine Jz rfl rfl fun _ _=>Ja rfl<|ao (.of rfl) (.of rfl) .here rfl rfl (gn rfl rfl) (bE rfl) ak ?_;refine Ji<|bF rfl rfl ae ?_;refine JL rfl .here rfl<|JI rfl<|Jv rfl<|Jn<|J0 ?_)
  rename_i NX Wb
  obtain ⟨u,hu⟩:=Pg
  have P3:(cu r tk.de).length=r.lv.toNat:=by unfold cu;simp
  refine tT (E:=9) (j:=i) (n:=r.lv.toNat) tL hu RK (by rw [cS,P3]) ?_
  refine db (E:=9) (sz:=1) (v:=u) (by exact .here) (by omega) fun gu uc Gg e UZ RQ UY UX=>?_
  subst e
  refine db (E:=32) (sz:=1) (v:=.slice lo l.length jY) gC (by omega) fun gh hc mI e VO VN VM VL=>?_
  cases e
  have f1:(nP++mI)[i*1]? = some (.slice (some ⟨gu,0,none⟩) r.lv.toNat uc):=by
   rw [Nat.mul_one,List.getElem?_append_left (by omega)];exact hu
  have f2:∀ k,k<r.lv.toNat→(aM (cu r tk.de)++Gg)[k*1]? = some (.string (kQ r (k:Nat) tk.de)):=fun k hk=>by
   rw [Nat.mul_one,List.getElem?_append_left (by rw [cS,P3];exact hk)]
   unfold aM cu
   rw [List.getElem?_map,List.getElem?_map,List.getElem?_range hk];rfl
  refine aX (ι:=Nat×Value×List Po) (fun y=>y.1≤tk.so.length∧y.2.2=mU r tk y.1 L) (fun y=>[(42,.int .i64 (y.1:Nat)),(41,.int .i64 (tk.so.length:Nat)),(40,.slice sa tk.so.length M3),(34,.int .i64 (i:Nat)),(33,.int .i64 (l.length:Nat)),(32,.slice a l.length cp),(10,.int .i64 (i:Nat)),(11,.pointer (some ⟨NX,0,none⟩)),(9,.slice (some ⟨gh,0,none⟩) l.length jY),(8,.pointer (some ⟨b8,0,none⟩)),(4,.pointer (some ⟨b4,0,none⟩)),(1,.slice a l.length cp)])
   (fun y=>[JP b8 r s1 d1 t1 (y.2.1),J1 r s1,J2 r d1,J3 r t1,row 188 3 y.2.1 y.2.2.length (iW y.2.2),bD gh (.cells (nP++mI).toArray 32 (0,0)),bD gu (.cells (aM (cu r tk.de)++Gg).toArray 9 (0,0)),qF 9 nP (l.map fun y=>aM (cu r y.tk.de)) i,qE 9 nP (l.map fun y=>aM (cu r y.tk.de)) i,bD b4 (.cells #[.int .i64 0,.int .i64 0,.slice none 0 0,.slice none 0 0,.slice none 0 0,.slice none 0 0] 41 (0,0)),bD NX (.cells #[.string tk.de,.slice sa tk.so.length M3] 78 (0,0))]) (fun y=>tk.so.length-y.1) ?_ ?_
  ·apply aK (0,pv,L) ⟨Nat.zero_le _,rfl⟩
   case hs1=>exact cn
   case ht=>exact .cons eC (.cons eC (.cons eC (.cons eC (.cons eC (.cons .here (.cons .here (.cons .here (.cons .here (.cons (.there .here) (.cons .here .nil))))))))))
  rintro ⟨k,G2,L2⟩ ⟨hk,tD⟩
  dsimp only at hk tD ⊢
  by_cases vz:k<tk.so.length
  ·have HV:=R5 (mw vz)
   have HT:w.cell? ⟨sb,Q6+k*1,none⟩=some (.string tk.so[k]):=(R3 k _ (jz vz)).2 0 _ rfl
   have f3:=f2 k (by omega)
   have jk:tk.at k=tk.so[k]:=by unfold Tk.at;rw [List.getD_eq_getElem?_getD,List.getElem?_eq_getElem vz];rfl
   have hdk:=VZ k
   rw [← tD] at hdk
   have hs2:mU r tk (k+1) L=if mZ r tk k then L2.filter (fun x=>!xi (k:Nat) tk.de x) else L2:=by rw [mU,← tD]
   have Xl:mZ r tk k=(!decide (tk.so[k]=⟨#[]⟩)&&!decide (tk.so[k]=kQ r (k:Nat) tk.de)):=by unfold mZ;rw [jk]
   generalize kQ r (k:Nat) tk.de=ck at *
   generalize tk.so[k]=sk at *
   (refine Jr<|JA rfl<|Jn<|Jq<|Jd rfl fun aq=>Jk<|Jq<|J0<|Jr<|Jv rfl<|ab (aC (.of rfl) (.of rfl) HV (by omega) aq bo) rfl ?_;refine ab (ai (.of rfl) (At.base HT rfl)) rfl ?_;refine Ja rfl<|Ja rfl<|Ji<|Jv rfl<|ab (iI (.of rfl) (.of rfl)) rfl ?_;refine Jv rfl<|jT rfl rfl rfl rfl ?_;refine jT rfl rfl rfl rfl ?_;refine jT rfl rfl rfl rfl ?_;refine aI rfl rfl inferInstance (fun hg bL=>(aC (.cA hg rfl) (.cA hg rfl) rfl (by omega) (by assumption) bo)) rfl ?_;refine aI rfl rfl inferInstance (fun hg bL=>(ai (.cA hg rfl) (At.mO eC f1))) rfl ?_;refine jT rfl rfl rfl rfl ?_;refine aI rfl rfl inferInstance (fun hg bL=>(aC (.cA hg rfl) (.cA hg rfl) rfl (by omega) (by omega) bo)) rfl ?_;refine aI rfl rfl inferInstance (fun hg bL=>(ai (.cA hg rfl) (At.mO oq f3))) rfl ?_;refine aI rfl rfl inferInstance (fun hg bL=>(iI (.cA hg rfl) (.cA hg rfl))) rfl ?_;refine ab (c7 (.of rfl) rfl) rfl ?_;refine Jn<|pV rfl (fun aq=>?_) fun aq=>?_;refine Jg<|Jv rfl<|bF rfl rfl ae ?_;refine JL rfl jL rfl ?_;rotate_left;refine Jw<|Jj<|Jt<|Jg<|JB rfl (by omega)<|Jv rfl<|Jn ?_;rotate_right)
   ·obtain ⟨q1,q2⟩:sk≠⟨#[]⟩∧sk≠ck:=by simpa using aq
    have C2:mZ r tk k=true:=by rw [Xl,decide_eq_false q1,decide_eq_false q2];rfl
    rw [C2,if_pos rfl] at hs2
    obtain ⟨L3,NC⟩:∃ L3,L3=mU r tk (k+1) L:=⟨_,rfl⟩
    rw [← NC] at hs2
    with_reducible apply fE (As:=[JP b8 r s1 d1 t1 G2,row 188 3 G2 L2.length (iW L2)])
    case hr=>exact dK
    case hd=>rfl
    case ht=>exact sK
    case hc=>
     intro w1 Ad aJ uO hs1 B5 kd
     exact wm (r:=r) (s:=s1) (d:=d1) (t:=t1) (p:=G2) (b:=b8) (l:=L2) (k:Nat) tk.de uO hs1 (by omega)
    intro p3 _
    dsimp only [id_eq,List.cons_append,List.nil_append]
    unfold RB PB
    rw [← hs2]
    refine Jx<|Jj<|Jt<|Jg<|JB rfl (by omega)<|Jv rfl<|Jn ?_
    apply aL (k+1,p3,L3) ⟨by show k+1≤_;omega,NC⟩ (by show tk.so.length-(k+1)<tk.so.length-k;omega)
    case hs1=>exact cn
    case ht=>exact sK
   ·have C2:mZ r tk k=false:=by
     rw [Xl]
     simp only [ne_eq,Decidable.not_not,decide_eq_true_eq,Classical.not_and_iff_not_or_not] at aq
     rcases aq with e | e
     ·rw [decide_eq_true e];rfl
     ·rw [decide_eq_true e];simp
    rw [C2,if_neg (by decide)] at hs2
    apply aL (k+1,G2,L2) ⟨by show k+1≤_;omega,hs2.symm⟩ (by show tk.so.length-(k+1)<tk.so.length-k;omega)
    case hs1=>exact cn
    case ht=>exact sK
  ·have e:k=tk.so.length:=by omega
   subst e
   refine Jr<|JA rfl<|Jn<|Jq<|Jc rfl fun aq=>Jp<|Jl<|Jo<|Jj<|Jt<|Jg<|JB rfl (by omega)<|Jv rfl<|Jn ?_
   refine c8 (E:=9) (sz:=1) (g:=gu) oq UZ RQ UY UX ?_
   refine c8 (E:=32) (sz:=1) (g:=gh) oq VO VN VM VL ?_
   have TP:(aM (cu r tk.de)).length=r.lv.toNat:=by rw [cS,P3]
   with_reducible apply wB (E:=9) (vs:=nP) (xs:=l.map fun y=>aM (cu r y.tk.de)) (v:=.slice (some ⟨gu,0,none⟩) r.lv.toNat uc) (x:=aM (cu r tk.de)) (n:=r.lv.toNat) i
   case ht=>exact tL
   case ht2=>exact tL
   case ht3=>exact Take.there .here
   case hv=>exact hu
   case hn=>exact TP
   case hx=>exact RK
   case k=>
    apply aL (i+1,G2,L2) ⟨by show i+1≤_;omega,by show L2=jJ r (dd l) (i+1);rw [fy,tD]⟩ (by show l.length-(i+1)<l.length-i;omega)
    case hs1=>exact cn
    case ht=>exact .cons bI (.cons bI (.cons bI (.cons bI (.cons bI (.cons (.there .here) (.cons .here (.cons .here .nil)))))))
 ·have e:i=l.length:=by omega
  subst e
  refine Jr<|JA rfl<|Jn<|Jq<|Jc rfl fun aq=>Jp<|Jl<|Jo<|Jt<|Jr ?_
  have Xz:L=r.po.filter (fun p=>!Ix r (dd l) l.length p):=by rw [hL,kg]
  have FE:=Xk l.length
  rw [← hL] at FE
  with_reducible apply fE (As:=[JP b8 r s1 d1 t1 pv,J1 r s1,J2 r d1,J3 r t1,row 188 3 pv L.length (iW L)])
  case hr=>exact bC
  case hd=>rfl
  case ht=>exact sK
  case hc=>
   intro w1 Ad aJ uO hs1 B5 kd
   exact KP (r:=r.wp L) (s:=s1) (d:=d1) (t:=t1) (p:=pv) (b:=b8) uO hs1 cJ (by show L.length≤1000;omega)
  rintro ⟨pw,ff⟩ ⟨PZ,Ue⟩
  have qg:(r.wp L).po.filter ff=tG r (dd l):=by
   show L.filter ff=Ar (cm r) (jJ r (dd l) (dd l).length)
   rw [xy,← hL]
   exact MV.tid eK.xo (by rw [Xz];exact eK.val.XP.sub _) ⟨PZ,Ue⟩
  dsimp only [id_eq,List.cons_append,List.nil_append]
  rw [qg]
  unfold RW RB PB
  dsimp only [List.cons_append,List.nil_append]
  unfold JP J1 J2 J3
  rw [show (r.wp L).lv=r.lv from rfl,show (r.wp L).ma=r.ma from rfl,show (r.wp L).sr=r.sr from rfl,show (r.wp L).de=r.de from rfl,show (r.wp L).ti=r.ti from rfl]
  refine Jn<|Jq<|Jr<|Jv rfl<|JI rfl<|Jv rfl<|Jn<|J0 ?_
  refine aX (ι:=Nat×Value×List Po) (fun y=>y.1≤l.length∧jq r (dd l) (tG r (dd l)) y.1=some y.2.2∧iL r y.2.2) (fun y=>[(69,.int .i64 (y.1:Nat)),(68,.int .i64 (l.length:Nat)),(67,.slice a l.length cp),(9,.slice lo l.length jY),(8,.pointer (some ⟨b8,0,none⟩)),(4,.pointer (some ⟨b4,0,none⟩)),(1,.slice a l.length cp)])
   (fun y=>[JP b8 r s1 d1 t1 (y.2.1),J1 r s1,J2 r d1,J3 r t1,row 188 3 y.2.1 y.2.2.length (iW y.2.2),row 32 1 (.slice lo l.length jY) l.length nP,mz 9 nP (l.map fun y=>aM (cu r y.tk.de)),bD b4 (.cells #[.int .i64 0,.int .i64 0,.slice none 0 0,.slice none 0 0,.slice none 0 0,.slice none 0 0] 41 (0,0))]) (fun y=>l.length-y.1) ?_ ?_
  ·have Wq:jq r (dd l) (tG r (dd l)) 0=some (tG r (dd l)):=by rw [jq]
   have h01:=(pS eK hT).1
   generalize tG r (dd l)=D0 at *
   apply aK (0,pw,D0) ⟨Nat.zero_le _,Wq,h01⟩
   case hs1=>exact cn
   case ht=>exact sK
  clear PZ Ue qg ff pw FE Xz hL pv L hi
  rintro ⟨i,pv,L⟩ ⟨hi,hL,hLV⟩
  dsimp only at hi hL hLV ⊢
  by_cases aN:i<l.length
  ·have cM:=ha (mr aN)
   have aD:=(hc i _ (j4 aN)).2
   have jj:=List.getElem_mem aN
   have Wh:=hM _ jj
   have rF:i<(dd l).length:=by omega
   have T5:(dd l)[i]=l[i].tk:=List.getElem_map _
   have Ns:(dd l).getD i Tk.zero=l[i].tk:=by rw [List.getD_eq_getElem?_getD,List.getElem?_eq_getElem rF,Option.getD_some,T5]
   have Sk:=fun k hk q h1=>O2 eK hT rF (k:=k) (q0:=L) (q:=q) hk hL h1
   have Sv:=fun k=>y5 eK hT (List.getElem_mem rF) (k:=k)
   rw [T5] at Sk Sv
   have TU:jq r (dd l) (tG r (dd l)) (i+1)=oV r l[i].tk l[i].tk.so.length L:=by rw [jq,hL,Ns];rfl
   have hrf:=fun h2=>Lc (r:=r) (l:=dd l) (po:=tG r (dd l)) rF hL h2
   have hls:=hT.lv l[i].tk (List.mem_map_of_mem jj)
   have Pg:∃ u,nP[i]? = some u:=⟨nP[i],List.getElem?_eq_getElem (by omega)⟩
   have RK:(l.map fun y=>aM (cu r y.tk.de))[i]? = some (aM (cu r l[i].tk.de)):=by rw [List.getElem?_map,List.getElem?_eq_getElem aN];rfl
   unfold fZ.cells at aD
   generalize hti:l[i]=ti at *
   obtain ⟨tk,tv⟩:=ti
   dsimp only at *
   obtain ⟨sa,M3,sb,Q6,rfl,Nj,Bi,R5,R3⟩:=Wh
   rw [bV] at *
   unfold maxLen at Bi
   (refine Jr<|JA rfl<|Jn<|Jq<|Jd rfl fun aq=>Jk<|Jq<|J0<|Jr<|Jv rfl<|ab (fM cM aq) rfl ?_;refine ab (iz (eG.base aD rfl)) rfl ?_;refine Jz rfl rfl fun _ _=>Ja rfl<|ao (.of rfl) (.of rfl) .here rfl rfl (gn rfl rfl) (bE rfl) ak ?_;refine Ji<|bF rfl rfl ae ?_;refine JL rfl .here rfl<|JI rfl<|Jv rfl<|Jn<|J0 ?_)
   rename_i Qm V9
   obtain ⟨u,hu⟩:=Pg
   have P3:(cu r tk.de).length=r.lv.toNat:=by unfold cu;simp
   refine tT (E:=9) (j:=i) (n:=r.lv.toNat) tL hu RK (by rw [cS,P3]) ?_
   refine db (E:=9) (sz:=1) (v:=u) (by exact .here) (by omega) fun gu uc Gg e UZ RQ UY UX=>?_
   subst e
   refine db (E:=32) (sz:=1) (v:=.slice lo l.length jY) gC (by omega) fun gh hc mI e VO VN VM VL=>?_
   cases e
   have f1:(nP++mI)[i*1]? = some (.slice (some ⟨gu,0,none⟩) r.lv.toNat uc):=by
    rw [Nat.mul_one,List.getElem?_append_left (by omega)];exact hu
   have f2:∀ k,k<r.lv.toNat→(aM (cu r tk.de)++Gg)[k*1]? = some (.string (kQ r (k:Nat) tk.de)):=fun k hk=>by
    rw [Nat.mul_one,List.getElem?_append_left (by rw [cS,P3];exact hk)]
    unfold aM cu
    rw [List.getElem?_map,List.getElem?_map,List.getElem?_range hk];rfl
   refine aX (ι:=Nat×Value×List Po) (fun y=>y.1≤tk.so.length∧oV r tk y.1 L=some y.2.2) (fun y=>[(77,.int .i64 (y.1:Nat)),(76,.int .i64 (tk.so.length:Nat)),(75,.slice sa tk.so.length M3),(69,.int .i64 (i:Nat)),(68,.int .i64 (l.length:Nat)),(67,.slice a l.length cp),(14,.int .i64 (i:Nat)),(15,.pointer (some ⟨Qm,0,none⟩)),(9,.slice (some ⟨gh,0,none⟩) l.length jY),(8,.pointer (some ⟨b8,0,none⟩)),(4,.pointer (some ⟨b4,0,none⟩)),(1,.slice a l.length cp)])
    (fun y=>[JP b8 r s1 d1 t1 (y.2.1),J1 r s1,J2 r d1,J3 r t1,row 188 3 y.2.1 y.2.2.length (iW y.2.2),bD gh (.cells (nP++mI).toArray 32 (0,0)),bD gu (.cells (aM (cu r tk.de)++Gg).toArray 9 (0,0)),qF 9 nP (l.map fun y=>aM (cu r y.tk.de)) i,qE 9 nP (l.map fun y=>aM (cu r y.tk.de)) i,bD b4 (.cells #[.int .i64 0,.int .i64 0,.slice none 0 0,.slice none 0 0,.slice none 0 0,.slice none 0 0] 41 (0,0)),bD Qm (.cells #[.string tk.de,.slice sa tk.so.length M3] 78 (0,0))]) (fun y=>tk.so.length-y.1) ?_ ?_
   ·have Wq:oV r tk 0 L=some L:=by rw [oV]
    apply aK (0,pv,L) ⟨Nat.zero_le _,Wq⟩
    case hs1=>exact cn
    case ht=>exact .cons eC (.cons eC (.cons eC (.cons eC (.cons eC (.cons .here (.cons .here (.cons .here (.cons .here (.cons (.there .here) (.cons .here .nil))))))))))
   rintro ⟨k,G2,L2⟩ ⟨hk,tD⟩
   dsimp only at hk tD ⊢
   obtain ⟨SS,eF⟩:=Sk k hk L2 tD
   have hfw:=oA eK SS
   by_cases vz:k<tk.so.length
   ·have HV:=R5 (mw vz)
    have HT:w.cell? ⟨sb,Q6+k*1,none⟩=some (.string tk.so[k]):=(R3 k _ (jz vz)).2 0 _ rfl
    have f3:=f2 k (by omega)
    have jk:tk.at k=tk.so[k]:=by unfold Tk.at;rw [List.getD_eq_getElem?_getD,List.getElem?_eq_getElem vz];rfl
    have hs2:oV r tk (k+1) L=if nK r tk k then (qj (r.wp L2) (k:Nat) tk.so[k] tk.de).map (fun p=>kT r L2 (k:Nat) tk.so[k] p tk.de) else some L2:=by rw [oV,tD,Option.bind_some,jk]
    have Xd:nK r tk k=true↔¬ ((tk.so[k]=⟨#[]⟩∨tk.so[k]=⟨#[45]⟩)∨tk.so[k]=kQ r (k:Nat) tk.de):=by
     rw [lZ,jk]
     constructor
     ·rintro ⟨x1,x2,x3⟩ ((e | e) | e)
      ·exact x1 e
      ·exact x3 e
      ·exact x2 e
     ·intro e
      exact ⟨fun c=>e (.inl (.inl c)),fun c=>e (.inr c),fun c=>e (.inl (.inr c))⟩
    have Xc:=Sv k vz
    rw [jk] at Xc
    have C2:nK r tk k=true→mZ r tk k=true:=fun c=>by
     obtain ⟨x1,x2,_⟩:=lZ.1 c
     exact kK.2 ⟨x1,x2⟩
    generalize kQ r (k:Nat) tk.de=ck at *
    generalize tk.so[k]=sk at *
    (refine Jr<|JA rfl<|Jn<|Jq<|Jd rfl fun aq=>Jk<|Jq<|J0<|Jr<|Jv rfl<|ab (aC (.of rfl) (.of rfl) HV (by omega) aq bo) rfl ?_;refine ab (ai (.of rfl) (At.base HT rfl)) rfl ?_;refine Ja rfl<|Ja rfl<|Jn<|Jq<|Jr<|Jv rfl<|ab (ee (.of rfl) (.of rfl)) rfl ?_;refine Jv rfl<|jT rfl rfl rfl rfl ?_;refine aI rfl rfl inferInstance (fun hg bL=>(ee (.cA hg rfl) (.of rfl))) rfl ?_;refine ab (bW (.of rfl) rfl) rfl ?_;refine Jv rfl<|jT rfl rfl rfl rfl ?_;refine jT rfl rfl rfl rfl ?_;refine jT rfl rfl rfl rfl ?_;refine aI rfl rfl inferInstance (fun hg bL=>(aC (.cA hg rfl) (.cA hg rfl) rfl (by omega) (by assumption) bo)) rfl ?_;refine aI rfl rfl inferInstance (fun hg bL=>(ai (.cA hg rfl) (At.mO eC f1))) rfl ?_;refine jT rfl rfl rfl rfl ?_;refine aI rfl rfl inferInstance (fun hg bL=>(aC (.cA hg rfl) (.cA hg rfl) rfl (by omega) (by omega) bo)) rfl ?_;refine aI rfl rfl inferInstance (fun hg bL=>(ai (.cA hg rfl) (At.mO oq f3))) rfl ?_;refine aI rfl rfl inferInstance (fun hg bL=>(ee (.cA hg rfl) (.cA hg rfl))) rfl ?_;refine ab (bW (.of rfl) rfl) rfl ?_;refine Jn<|pV rfl (fun aq=>?_) fun aq=>?_;refine Jp<|Jo<|Jt<|Jg<|JB rfl (by omega)<|Jv rfl<|Jn ?_;rotate_left;refine Jk<|Jr<|ab (cr .here) rfl ?_;refine Jv rfl<|Jv rfl<|bF rfl rfl ae ?_;refine JL rfl jL rfl ?_;rotate_right)
    ·have hj:nK r tk k=false:=by
      rw [← Bool.not_eq_true]
      exact fun c=>Xd.1 c aq
     rw [hj,if_neg (by decide)] at hs2
     apply aL (k+1,G2,L2) ⟨by show k+1≤_;omega,hs2⟩ (by show tk.so.length-(k+1)<tk.so.length-k;omega)
     case hs1=>exact cn
     case ht=>exact sK
    have hj:nK r tk k=true:=Xd.2 (fun c=>c.elim (fun c=>c.elim aq.1.1 aq.1.2) aq.2)
    obtain ⟨⟨j1,j2⟩,rE,fy,_⟩:=Xc hj
    have vU:=eF k (Nat.le_refl _) vz (C2 hj)
    rw [hj,if_pos rfl] at hs2
    refine JN eS rfl (fun w1 aJ=>MY (r:=r.wp L2) (k:Nat) sk tk.de (RR.wp (cE aJ (by exact Take.there .here) rfl) (cG aJ bI rfl) (cD aJ cY rfl) (cy aJ ei rfl)) eK.xo.wp SS.wp eK.NS.wp rE fy) ?_
    rintro ⟨Uj,⟨xv,xp,xf⟩,jS⟩ ⟨WS,WR,WQ⟩
    dsimp only at WS WR WQ
    dsimp only [Wy.cells,List.cons_append,List.nil_append]
    (refine Jv rfl<|JJ rfl rfl<|JJ rfl rfl<|Jz rfl rfl fun _ _=>ao (.of rfl) (.of rfl) .here rfl rfl (gn WQ rfl) (bE rfl) ak ?_;refine Ja rfl<|Jn<|Jq<|Jr<|Jv rfl<|JH rfl<|Jn<|pV rfl (fun aq=>?_) fun aq=>?_;refine Jr<|ab (aS .nil ak) rfl ?_;refine Jv rfl<|ao (.of rfl) (.of rfl) vp rfl rfl (ib rfl rfl rfl rfl rfl rfl) (bE rfl) ak ?_;refine Ja rfl<|Ja rfl<|Jn<|Ju<|Jm<|Jh<|Jh<|Jm<|Jm<|Jh<|Jh<|Jm<|Jh ?_;rotate_left;refine Jk<|Jg<|Jv rfl<|Jv rfl<|ab (cr .here) rfl ?_;refine bF rfl rfl ae ?_;refine JL rfl kl rfl ?_;rotate_right)
    ·have hf:Uj=false:=by simpa using aq
     subst hf
     have e1:oV r tk (k+1) L=none:=by rw [hs2,wq (WR rfl)];rfl
     have e2:jq r (dd l) (tG r (dd l)) (i+1)=none:=by rw [TU];exact E4 e1 (by omega)
     have e3:=wO e2 (m:=(dd l).length) (by omega)
     have e4:kU r (dd l)=(Ro.nil,((i:Nat):Int),18):=by
      unfold kU
      rw [if_neg XC]
      show (match jq r (dd l) (tG r (dd l)) (dd l).length with | none=>(Ro.nil,((GZ r (dd l) (tG r (dd l)):Nat):Int),(18:Int)) | some po=>(r.wp po,0,0))=_
      rw [e3,hrf e2]
     rw [e4]
     dsimp only
     refine aQ 186 2 ?_
     refine aQ 90 3 ?_
     refine aQ 187 3 ?_
     refine aQ 188 3 ?_
     first | with_reducible apply aO | with_reducible apply aP
     case he=>exact lp rfl inferInstance rfl ei ak (by rfl) (by rfl) (by rfl)
     case hR=>
      intro w' az
      exact aB (.slice none 0 0,.slice none 0 0,.slice none 0 0,.slice none 0 0) trivial (by exact .cons cY (.cons bI (.cons (.there .here) (.cons .here .nil)))) az rfl
    have hf:Uj=true:=by simpa using aq
    subst hf
    obtain ⟨hle,PV⟩:=WS rfl
    have hwp:=wo hle
    have L5:(fo r L2 (k:Nat) sk).least (nk r tk.de) xp:=hle
    have ll:oV r tk (k+1) L=some (kT r L2 (k:Nat) sk xp tk.de):=by rw [hs2,hwp];rfl
    have hVn:=GM eK ⟨j1,j2⟩ SS rE fy vU L5
    have hxp:∀ i∈xp,i<r.ti.length:=Wn.A4 L5.1
    have Nh:xp.length≤6:=by have:=Wn.uv L5.1;show _≤_;have h6:(fo r L2 (k:Nat) sk).n=r.ti.length:=rfl;omega
    refine EZ PV (by exact Take.there .here) fun nb=>?_
    with_reducible apply fE (As:=[JP b8 r s1 d1 t1 G2,J1 r s1,J2 r d1,J3 r t1,row 188 3 G2 L2.length (iW L2),row 3 1 xv xp.length (fI xp)])
    case hr=>exact JY
    case hd=>rfl
    case ht=>exact .cons cY (.cons cY (.cons cY (.cons cY (.cons cY (.cons .here .nil)))))
    case hc=>
     intro w1 Ad aJ uO hs1 B5 kd
     exact Q8 (r:=r) (s:=s1) (d:=d1) (t:=t1) (p:=G2) (b:=b8) (po:=L2) xf (k:Nat) sk tk.de uO hs1 cJ (by omega) (by omega) eK.NS hxp SS.out fy hVn.qp
    intro p3 _
    dsimp only [id_eq,List.cons_append,List.nil_append]
    unfold RB PB
    generalize kT r L2 (k:Nat) sk xp tk.de=L3 at *
    refine Jx<|Jj<|Jt<|Jg<|JB rfl (by omega)<|Jv rfl<|Jn ?_
    apply aL (k+1,p3,L3) ⟨by show k+1≤_;omega,ll⟩ (by show tk.so.length-(k+1)<tk.so.length-k;omega)
    case hs1=>exact cn
    case ht=>exact sK
   ·have e:k=tk.so.length:=by omega
    subst e
    refine Jr<|JA rfl<|Jn<|Jq<|Jc rfl fun aq=>Jp<|Jl<|Jo<|Jj<|Jt<|Jg<|JB rfl (by omega)<|Jv rfl<|Jn ?_
    refine c8 (E:=9) (sz:=1) (g:=gu) oq UZ RQ UY UX ?_
    refine c8 (E:=32) (sz:=1) (g:=gh) oq VO VN VM VL ?_
    have TP:(aM (cu r tk.de)).length=r.lv.toNat:=by rw [cS,P3]
    with_reducible apply wB (E:=9) (vs:=nP) (xs:=l.map fun y=>aM (cu r y.tk.de)) (v:=.slice (some ⟨gu,0,none⟩) r.lv.toNat uc) (x:=aM (cu r tk.de)) (n:=r.lv.toNat) i
    case ht=>exact tL
    case ht2=>exact tL
    case ht3=>exact Take.there .here
    case hv=>exact hu
    case hn=>exact TP
    case hx=>exact RK
    case k=>
     have hne:jq r (dd l) (tG r (dd l)) (i+1)=some L2:=by rw [TU,tD]
     apply aL (i+1,G2,L2) ⟨by show i+1≤_;omega,hne,SS⟩ (by show l.length-(i+1)<l.length-i;omega)
     case hs1=>exact cn
     case ht=>exact .cons bI (.cons bI (.cons bI (.cons bI (.cons bI (.cons (.there .here) (.cons .here (.cons .here .nil)))))))
  ·have e:i=l.length:=by omega
   subst e
   refine Jr<|JA rfl<|Jn<|Jq<|Jc rfl fun aq=>Jp<|Jl<|Jo<|Jt<|Jr<|ab (cr .here) rfl ?_
   have e4:kU r (dd l)=(r.wp L,0,0):=by
    unfold kU
    rw [if_neg XC]
    show (match jq r (dd l) (tG r (dd l)) (dd l).length with | none=>(Ro.nil,((GZ r (dd l) (tG r (dd l)):Nat):Int),(18:Int)) | some po=>(r.wp po,0,0))=_
    rw [xy,hL]
   rw [e4]
   dsimp only
   refine aW (E:=188) (sz:=3) (v:=pv) ei fun _ _ e=>?_
   have k5:pv.oneCell'=true:=by rw [e];rfl
   clear e
   (refine ao (.of rfl) (.of rfl) tL rfl rfl (ib rfl rfl k1 k2 k3 k5) (bE rfl) ak ?_;refine Ja rfl<|Ja rfl<|Jn<|Je ?_)
   first | with_reducible apply aO | with_reducible apply aP
   case he=>exact lp rfl inferInstance rfl .here ak (by rfl) (by rfl) (by rfl)
   case hR=>
    intro w' az
    exact aB (s1,d1,t1,pv) trivial (by exact .cons bI (.cons bI (.cons bI (.cons bI .nil)))) az rfl
end Go.Proofs.A1
namespace Go.Proofs.A1
open Go Go.SL
def iV (r:Ro) (l:List Tk):Ro×Int×Int:=if fN r≠0 then (Ro.nil,0,fN r) else if Ap r l≠0 then (Ro.nil,0,Ap r l) else kU r l
theorem Ck (l:List fZ):∀ r∈ji l,r.length=2:=fun r hr=>by obtain ⟨x,_,rfl⟩:=List.mem_map.1 hr;rfl
theorem lT {c:Cx} {hs hs':List ba} {w:World} {l:List fZ} {E:TypeId} {v:Value} {n:Nat} (hm:Mem c hs w) (ht:Take hs (row E 2 v n (ji l).flatten) hs') (hn:l.length=n):Rd w v 2 (ji l):=hm.o9 ht rfl (Ck l) (by rw [eH,hn])
theorem a8 (l m:List ba):bj (l++m) l m:=oD [] l m
theorem cP {c:Cx} {D:List Nat} {sl:aG} {hs hs':List ba} {X:Act→World→Prop} {r:Ro} {s d t p:Value} (ht:bj hs (rb r (s,d,t,p)) hs')
  (k:s.oneCell'=true→d.oneCell'=true→t.oneCell'=true→p.oneCell'=true→Tr c D sl (J1 r s::J2 r d::J3 r t::J4 r p::hs') X):Tr c D sl hs X:=by
 intro a w a7
 have hm:=a7.mem.iQ (ht.append (lX D))
 have k2:Tr c D sl (J1 r s::J2 r d::J3 r t::J4 r p::hs') X:=by
  refine aW (E:=186) (sz:=2) (v:=s) .here fun _ _ e=>?_
  have k1:s.oneCell'=true:=by rw [e];rfl
  clear e
  refine aW (E:=90) (sz:=3) (v:=d) (.there .here) fun _ _ e=>?_
  have k2:d.oneCell'=true:=by rw [e];rfl
  clear e
  refine aW (E:=187) (sz:=3) (v:=t) bI fun _ _ e=>?_
  have k3:t.oneCell'=true:=by rw [e];rfl
  clear e
  refine aW (E:=188) (sz:=3) (v:=p) cY fun _ _ e=>?_
  have k4:p.oneCell'=true:=by rw [e];rfl
  clear e
  exact k k1 k2 k3 k4
 exact k2 a w (a7.heap hm)
set_option maxHeartbeats 1000000 in
theorem zT {r:Ro} {s d t p kv:Value} {l:List fZ} {w:World} (h:RR w r s d t p) (cJ:mP r) (hw:Rd w kv 2 (ji l)) (hM:vF w l) :
  bd Tryz.prog 45 [RA r s d t p,kv] w [] (fun _:Value×Value×Value×Value=>True) (fun x=>.tuple #[RA (iV r (dd l)).1 x.1 x.2.1 x.2.2.1 x.2.2.2,.int .i64 (iV r (dd l)).2.1,.int .i64 (iV r (dd l)).2.2]) (fun x=>rb (iV r (dd l)).1 x):=by
 have h1:=Rd.one h.sr
 have h2:=Rd.one h.de
 have h3:=Rd.one h.ti
 have h4:=Rd.one h.po
 have T2:=Rd.one hw
 have jd:∀ w',aF [] w w'→aj Tryz.prog 34 [.agg #[.int .i64 r.lv,.int .i64 r.ma,s,d,t,p]] w' (.int .i64 (fN r)):=fun w' hk=>bZ (h.keeps hk) cJ
 have htk:∀ w',aF [] w w'→aj Tryz.prog 164 [.agg #[.int .i64 r.lv,.int .i64 r.ma,s,d,t,p],kv] w' (.int .i64 (Ap r (dd l))):=fun w' hk=>qZ (h.keeps hk) (hw.keeps hk) (hM.keeps hk)
 unfold RA
 refine aR Tryz.func45 rfl rfl ?_
 (refine Jr<|Jy rfl rfl fun _ _=>Jz rfl rfl fun _ _=>Ja rfl<|Ja rfl<|Jn<|Jq<|Jr<|ab (cr (.there .here)) rfl ?_;refine ag bC rfl (fun w' az=>(jd w' (Mem.keeps az))) ?_;refine Ja rfl<|Ji<|Jv rfl<|JD rfl<|Jn<|fY rfl (fun aq=>?_) fun aq=>?_;refine Jr<|ab (aS .nil ak) rfl ?_;refine Jv rfl<|ao (.of rfl) (.of rfl) .here rfl rfl (ib rfl rfl rfl rfl rfl rfl) (bE rfl) ak ?_;refine Ja rfl<|Ja rfl<|Jn<|Ju ?_;rotate_left;refine Jk<|Jq<|Jr<|ab (cr (.there .here)) rfl ?_;refine Jv rfl<|ag aZ rfl (fun w' az=>(htk w' (Mem.keeps az))) ?_;refine Ja rfl<|Ji<|Jv rfl<|JD rfl<|Jn<|fY rfl (fun aq=>?_) fun aq=>?_;refine Jr<|ab (aS .nil ak) rfl ?_;refine Jv rfl<|ao (.of rfl) (.of rfl) .here rfl rfl (ib rfl rfl rfl rfl rfl rfl) (bE rfl) ak ?_;refine Ja rfl<|Ja rfl<|Jn<|Ju ?_;rotate_left;refine Jk<|Jr<|ab (cr (.there .here)) rfl ?_;refine Jv rfl ?_;rotate_right;rotate_right)
 ·have e:iV r (dd l)=(Ro.nil,0,fN r):=if_pos aq
  rw [e]
  dsimp only
  refine aQ 186 2 ?_;refine aQ 90 3 ?_;refine aQ 187 3 ?_;refine aQ 188 3 ?_
  first | with_reducible apply aO | with_reducible apply aP
  case he=>exact lp rfl inferInstance rfl ei ak (by rfl) (by rfl) (by rfl)
  case hR=>
   intro w' az
   exact aB (.slice none 0 0,.slice none 0 0,.slice none 0 0,.slice none 0 0) trivial (by exact .cons cY (.cons bI (.cons (.there .here) (.cons .here .nil)))) az rfl
 ·have e:iV r (dd l)=(Ro.nil,0,Ap r (dd l)):=by unfold iV;rw [if_neg (by assumption),if_pos aq]
  rw [e]
  dsimp only
  refine aQ 186 2 ?_;refine aQ 90 3 ?_;refine aQ 187 3 ?_;refine aQ 188 3 ?_
  first | with_reducible apply aO | with_reducible apply aP
  case he=>exact lp rfl inferInstance rfl ei ak (by rfl) (by rfl) (by rfl)
  case hR=>
   intro w' az
   exact aB (.slice none 0 0,.slice none 0 0,.slice none 0 0,.slice none 0 0) trivial (by exact .cons cY (.cons bI (.cons (.there .here) (.cons .here .nil)))) az rfl
 have B4:fN r=0:=Decidable.not_not.1 (by assumption)
 have Pn:Ap r (dd l)=0:=Decidable.not_not.1 aq
 have e:iV r (dd l)=kU r (dd l):=by unfold iV;rw [if_neg (not_not_intro B4),if_neg (not_not_intro Pn)]
 have eK:=xj B4
 have hf:=oA eK eK.val
 rw [e]
 refine JN aZ rfl (fun w1 aJ=>DO (h.keeps aJ.keeps) eK (by omega) (hw.keeps aJ.keeps) (hM.keeps aJ.keeps) (yp.1 Pn).2) ?_
 generalize kU r (dd l)=R
 obtain ⟨R,at_,e_⟩:=R
 rintro ⟨s1,d1,t1,p1⟩ _
 dsimp only
 unfold RA
 refine cP (r:=R) (s:=s1) (d:=d1) (t:=t1) (p:=p1) (a8 _ _) fun k1 k2 k3 k4=>?_
 (refine JJ rfl rfl<|JJ rfl rfl<|JJ rfl rfl<|ao (.of rfl) (.of rfl) ei rfl rfl (ib rfl rfl k1 k2 k3 k4) (bE rfl) ak ?_;refine Ja rfl<|Ja rfl<|Jn<|Je ?_)
 first | with_reducible apply aO | with_reducible apply aP
 case he=>exact lp rfl inferInstance rfl .here ak (by rfl) (by rfl) (by rfl)
 case hR=>
  intro w' az
  exact aB (s1,d1,t1,p1) trivial (by exact .cons (.there .here) (.cons (.there .here) (.cons (.there .here) (.cons (.there .here) .nil)))) az rfl
set_option maxHeartbeats 1000000 in
theorem MP {r:Ro} {s d t p:Value} {x:fZ} {w:World} (h:RR w r s d t p) (cJ:mP r) (hM:Rd w x.v 1 (fg x.tk.so)) :
  bd Tryz.prog 48 [RA r s d t p,.agg x.cells.toArray] w [] (fun _:Value×Value×Value×Value=>True) (fun y=>.tuple #[RA (iV r [x.tk]).1 y.1 y.2.1 y.2.2.1 y.2.2.2,.int .i64 (iV r [x.tk]).2.2]) (fun y=>rb (iV r [x.tk]).1 y):=by
 have h1:=Rd.one h.sr
 have h2:=Rd.one h.de
 have h3:=Rd.one h.ti
 have h4:=Rd.one h.po
 have T2:=Rd.one hM
 unfold RA fZ.cells
 refine aR Tryz.func48 rfl rfl ?_
 (refine Jr<|Jy rfl rfl fun _ _=>Jy rfl rfl fun _ _=>Jz rfl rfl fun _ _=>Ja rfl<|Ji<|ab (cr bI) rfl ?_;refine ab (cr (.there .here)) rfl ?_;refine bb (bu (.cons (.of rfl) .nil) rfl rfl bM bM ak) rfl fun _ _=>?_)
 rename_i b2 sQ b3 rG b4 vC bq mT
 refine bQ (g:=bq) (E:=78) (xs:=[.string x.tk.de,x.v]) (ys:=(ji [x]).flatten) 1 2 (by exact .here) (by exact rfl) rfl rfl ?_
 with_reducible apply iX
 case hr=>exact aZ
 case hd=>rfl
 case ht=>exact bj.nil
 case hc=>
  intro w1 fp aJ _ hs1
  obtain rfl:fp=[]:=hs1
  have hR:Rd w1 (.slice (some ⟨bq,0,none⟩) 1 1) 2 (ji [x]):=lT (l:=[x]) aJ (by exact .here) (by exact rfl)
  exact zT (l:=[x]) (h.keeps aJ.keeps) cJ hR (fun y hy=>by rw [List.mem_singleton.1 hy];exact hM.keeps aJ.keeps)
 rw [show dd [x]=[x.tk] from rfl]
 generalize iV r [x.tk]=R
 obtain ⟨R,at_,e_⟩:=R
 rintro ⟨s1,d1,t1,p1⟩ _
 dsimp only
 unfold RA
 refine cP (r:=R) (s:=s1) (d:=d1) (t:=t1) (p:=p1) (a8 _ _) fun k1 k2 k3 k4=>?_
 (refine Jv rfl<|JJ rfl rfl<|JJ rfl rfl<|JJ rfl rfl<|Jz rfl rfl fun _ _=>ao (.of rfl) (.of rfl) .here rfl rfl (ib rfl rfl k1 k2 k3 k4) (bE rfl) ak ?_;refine Ja rfl<|Ja rfl<|Ji<|ab (cr .here) rfl ?_;refine Jv rfl<|ao (.of rfl) (.of rfl) oq rfl rfl (ib rfl rfl k1 k2 k3 k4) (bE rfl) ak ?_;refine Ja rfl<|Jn<|Je ?_)
 first | with_reducible apply aO | with_reducible apply aP
 case he=>exact rN rfl inferInstance rfl .here ak (by rfl) (by rfl)
 case hR=>
  intro w' az
  exact aB (s1,d1,t1,p1) trivial (by exact .cons bI (.cons bI (.cons bI (.cons bI .nil)))) az rfl
end Go.Proofs.A1
