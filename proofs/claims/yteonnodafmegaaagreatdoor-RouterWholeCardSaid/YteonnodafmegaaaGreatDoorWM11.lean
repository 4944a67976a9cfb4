/- Parts of the proof: LD LE LF LG GkRegP LH TryzShelf GkDraws. -/
import Derived.Test.YteonnodafmegaaaGreatDoorWM10
import Derived.Test.YteonnodafmegaaaGreatDoorWM04
import Derived.Test.YteonnodafmegaaaGreatDoorWM06
import Derived.Shelf.Strings.OnBuilder
import Derived.Shelf.Strconv.Itoa3
import Derived.Ground.NamesProg
import Derived.Ground.Names2Prog
import Derived.Test.YteonnodafmegaaaGreatDoorProg
import Derived.Calls
import Derived.RunT
set_option linter.unusedSectionVars false
set_option linter.unusedVariables false
set_option linter.unusedSimpArgs false
namespace Go.Proofs.A1
open Go Go.SL
theorem pI (cs:List Value) (o:Nat) (v:Value) (h:o<cs.length):setCells cs o [v]=cs.set o v:=by
 simp [setCells]
theorem EI (L:List ByteArray) (cur:List Value) {k:Nat} (h:k<L.length) (v:ByteArray):setCells (aL L++cur) (k*1) [.string v]=aL (L.set k v)++cur:=by
 rw [Zaq,pI _ _ _ (by rw [Zg,c7];omega),List.set_append_left _ _ (by rw [c7];exact h)]
 unfold aL
 rw [List.map_set]
theorem nV (L:List ByteArray) (cur:List Value) {k:Nat} (h:k<L.length):(aL L++cur)[k*1]? = some (.string L[k]):=by
 rw [Zaq,ZD (by rw [c7];exact h)]
 unfold aL
 rw [ZF,Zc h];rfl
def A0 (r:Ro) (t:Tk) (k:Nat):ByteArray:=if t.at k=⟨#[]⟩ then ⟨#[]⟩ else if jG r (k:Nat) t.de=⟨#[]⟩ then dash else jG r (k:Nat) t.de
def kG (r:Ro) (t:Tk) (k:Nat):List ByteArray:=(List.range r.lv.toNat).map fun i=>if i<k then A0 r t i else jG r (i:Nat) t.de
theorem k7 (r:Ro) (t:Tk) (k:Nat):(kG r t k).length=r.lv.toNat:=by unfold kG;simp
theorem FW (r:Ro) (t:Tk):kG r t 0=bo r t.de:=by unfold kG bo;simp
theorem Hk (r:Ro) (t:Tk):kG r t r.lv.toNat=(wH r t).so:=by
 unfold kG wH
 refine Zbb fun i hi=>?_
 rw [if_pos (ZQ.1 hi)];rfl
theorem y6 {r:Ro} {t:Tk} {k i:Nat} (h:i<r.lv.toNat):(kG r t k)[i]? = some (if i<k then A0 r t i else jG r (i:Nat) t.de):=by
 unfold kG
 rw [ZF,List.getElem?_range h];rfl
theorem Hj {r:Ro} {t:Tk} {k:Nat} (h:k<(kG r t k).length):(kG r t k)[k]=jG r (k:Nat) t.de:=by
 have h1:=Zc h
 rw [y6 (by rw [k7] at h;exact h),if_neg (Nat.lt_irrefl _)] at h1
 exact (Option.some.inj h1).symm
theorem Hi {r:Ro} {t:Tk} {k:Nat} (h:k<r.lv.toNat):(kG r t k).set k (A0 r t k)=kG r t (k+1):=by
 apply Zap
 intro i
 rw [List.getElem?_set]
 by_cases hi:i<r.lv.toNat
 ·rw [y6 hi,y6 hi,k7]
  by_cases e:k=i
  ·subst e
   rw [if_pos rfl,if_pos hi,if_pos (Nat.lt_succ_self _)]
  ·rw [if_neg e]
   by_cases e2:i<k
   ·rw [if_pos e2,if_pos (by omega)]
   ·rw [if_neg e2,if_neg (by omega)]
 ·have e1:(kG r t k)[i]? = none:=Zah (by rw [k7];omega)
  have e2:(kG r t (k+1))[i]? = none:=Zah (by rw [k7];omega)
  rw [if_neg (by omega),e1,e2]
theorem FX {r:Ro} {t:Tk} {k:Nat} (h:A0 r t k=jG r (k:Nat) t.de):kG r t (k+1)=kG r t k:=by
 unfold kG
 refine Zbb fun i _=>?_
 by_cases e:i=k
 ·subst e
  rw [if_pos (Nat.lt_succ_self _),if_neg (Nat.lt_irrefl _),h]
 ·by_cases e2:i<k
  ·rw [if_pos e2,if_pos (by omega)]
  ·rw [if_neg e2,if_neg (by omega)]
set_option maxHeartbeats 1000000 in
theorem PT {r:Ro} {s d t p:Value} {x:fu} {b:Nat} {w:World} (h:RR w r s d t p) (hA:BR w b (RC r s d t p)) (z7:1≤r.lv∧r.lv≤1000) (cT:r.ti.length≤1000000) (hx:Rd w x.v 1 (im x.tk.so)) (ON:(x.tk.so.length:Int)=r.lv) :
  bu Tryz.prog 167 [.agg x.cells.toArray,.pointer (some ⟨b,0,none⟩)] w [] (fun _:Value=>True) (fun v=>.agg #[.string x.tk.de,v]) (fun v=>[row 9 1 v r.lv.toNat (aL (wH r x.tk).so)]):=by
 have h1:=Rd.one h.sr
 have h2:=Rd.one h.de
 have h3:=Rd.one h.ti
 have h4:=Rd.one h.po
 have ke:∀ (j:Nat) (u:Value),[Value.int .i64 r.lv,.int .i64 r.ma,s,d,t,p][j]? = some u→w.cell? ⟨b,0+j,none⟩=some u:=hA
 clear hA
 unfold fu.cells
 obtain ⟨tk,tv⟩:=x
 dsimp only at *
 obtain ⟨sa,HR,sb,P1,rfl,I8,vu,QS,QR⟩:=hx
 rw [bW] at *
 unfold maxLen at vu
 refine aS Tryz.func167 rfl rfl ?_
 (refine Jr<|Jy rfl rfl fun _ _=>Jz rfl rfl fun _ _=>Ji<|ab (gW (ew.base ke rfl)) rfl<|bS rfl rfl ae<|JL rfl (.there .here) rfl ?_)
 rename_i b2 afw b3 afs
 refine JN bj rfl (fun w1 aR=>vE tk.de (h.keeps aR.keeps) z7.2 cT) ?_
 intro v _
 dsimp only [id_eq,Zb,Za]
 have qk:=k7 r tk
 rw [← FW]
 refine cU (E:=9) (sz:=1) (v:=v) (by exact .here) (by omega) fun gb cap cur e tw tL vI wA=>?_
 subst e
 (refine Ja rfl<|Jn<|Jq<|Jr<|bS rfl rfl ae<|JL rfl bL rfl<|JI rfl<|Jv rfl<|Jn<|J0 ?_)
 refine aW (ι:=Nat×List ByteArray) (fun y=>y.1≤tk.so.length∧y.2=kG r tk y.1) (fun y=>[(14,.int .i64 (y.1:Nat)),(13,.int .i64 (tk.so.length:Nat)),(12,.slice sa tk.so.length HR),(4,.slice (some ⟨gb,0,none⟩) r.lv.toNat cap),(3,.pointer (some ⟨b3,0,none⟩)),(2,.pointer (some ⟨b2,0,none⟩))])
  (fun y=>[bH gb (.cells (aL y.2++cur).toArray 9 (0,0)),bH b3 (.cells #[.string ⟨#[]⟩,.slice none 0 0] 78 (0,0)),bH b2 (.cells #[.string tk.de,.slice sa tk.so.length HR] 78 (0,0))]) (fun y=>tk.so.length-y.1) ?_ ?_
 ·apply aI (0,kG r tk 0) ⟨Zi _,rfl⟩
  case hs1=>exact cg
  case ht=>exact l6
 rintro ⟨k,L⟩ ⟨hk,hL⟩
 dsimp only at hk hL ⊢
 have Fi:L.length=r.lv.toNat:=by rw [hL,k7]
 have iT:(aL L++cur).length=cap*1:=by
  rw [Zg,c7] at vI ⊢
  rw [k7] at vI
  omega
 by_cases aM:k<tk.so.length
 ·have DP:=QS (lf aM)
  have DO:w.cell? ⟨sb,P1+k*1,none⟩=some (.string tk.so[k]):=(QR k _ (ji aM)).2 0 _ rfl
  have Nx:k<L.length:=by omega
  have eQ:L[k]=jG r (k:Nat) tk.de:=by subst hL;exact Hj Nx
  have c1:=nV L cur Nx
  rw [eQ] at c1
  have p1:=EI L cur Nx ⟨#[]⟩
  have p2:=EI L cur Nx ⟨#[45]⟩
  have hle:k*1+1≤(aL L++cur).length:=by omega
  have VN:k<r.lv.toNat:=by omega
  have jv:tk.at k=tk.so[k]:=by unfold Tk.at;rw [Zk,Zc aM];rfl
  have hF:A0 r tk k=if tk.so[k]=⟨#[]⟩ then ⟨#[]⟩ else if jG r (k:Nat) tk.de=⟨#[]⟩ then dash else jG r (k:Nat) tk.de:=by unfold A0;rw [jv]
  have pB:∀ u,A0 r tk k=u→L.set k u=kG r tk (k+1):=fun u hu=>by rw [← hu,hL];exact Hi VN
  have I9:A0 r tk k=jG r (k:Nat) tk.de→L=kG r tk (k+1):=fun hu=>by rw [hL,FX hu]
  generalize jG r (k:Nat) tk.de=ck at *
  generalize tk.so[k]=sk at *
  (refine Jr<|JA rfl<|Jn<|Jq<|Jd rfl fun az=>Jk<|Jq<|J0<|Jr<|Jv rfl<|ab (ar (.of rfl) (.of rfl) DP (by omega) az bb) rfl ?_;refine ab (ag (.of rfl) (At.base DO rfl)) rfl ?_;refine Ja rfl<|Ja rfl<|Ji<|Jv rfl<|ab (dG (.of rfl) (.of rfl)) rfl ?_;refine Jn<|gm rfl (fun az=>?_) fun az=>?_;refine Jg<|Jv rfl<|Jv rfl<|ab (ar (.of rfl) (.of rfl) rfl (by omega) (by omega) bb) rfl ?_;refine aq (.of rfl) (.of rfl) .here rfl rfl (en rfl) hle p1 ?_;refine Jx<|Jj<|Jt<|Jg<|JB rfl (by omega)<|Jv rfl<|Jn ?_;rotate_left;refine Jr<|Jv rfl<|Jv rfl<|ab (ar (.of rfl) (.of rfl) rfl (by omega) (by omega) bb) rfl ?_;refine ab (ag (.of rfl) (At.jL .here c1)) rfl ?_;refine ab (dG (.of rfl) (.of rfl)) rfl ?_;refine Jn<|gm rfl (fun az=>?_) fun az=>?_;refine Jg<|Jv rfl<|Jv rfl<|ab (ar (.of rfl) (.of rfl) rfl (by omega) (by omega) bb) rfl ?_;refine aq (.of rfl) (.of rfl) .here rfl rfl (en rfl) hle p2 ?_;refine Jx<|Jj<|Jt<|Jg<|JB rfl (by omega)<|Jv rfl<|Jn ?_;rotate_left;refine Jw<|Jj<|Jt<|Jg<|JB rfl (by omega)<|Jv rfl<|Jn ?_;rotate_right;rotate_right)
  ·rw [if_pos az] at hF
   rw [pB _ hF]
   apply aK (k+1,kG r tk (k+1)) ⟨by show k+1≤_;omega,rfl⟩ (by show tk.so.length-(k+1)<tk.so.length-k;omega)
   case hs1=>exact cg
   case ht=>exact l6
  ·rw [if_neg (by assumption),if_pos az] at hF
   have hq:L.set k ⟨#[45]⟩=kG r tk (k+1):=pB _ hF
   rw [hq]
   apply aK (k+1,kG r tk (k+1)) ⟨by show k+1≤_;omega,rfl⟩ (by show tk.so.length-(k+1)<tk.so.length-k;omega)
   case hs1=>exact cg
   case ht=>exact l6
  ·rw [if_neg (by assumption),if_neg az] at hF
   apply aK (k+1,L) ⟨by show k+1≤_;omega,I9 hF⟩ (by show tk.so.length-(k+1)<tk.so.length-k;omega)
   case hs1=>exact cg
   case ht=>exact l6
 ·have e:k=tk.so.length:=by omega
  subst e
  have rE:L=(wH r tk).so:=by rw [hL,← Hk];congr 1;omega
  (refine Jr<|JA rfl<|Jn<|Jq<|Jc rfl fun az=>Jp<|Jl<|Jo<|Jt<|Jr<|bS rfl rfl ae<|JL rfl bL rfl<|Jv rfl<|ab (aU (.cons (.of rfl) (.cons (.of rfl) .nil)) ak) rfl<|aq (.of rfl) (.of rfl) (.there .here) rfl rfl (fY rfl rfl) (bG rfl) ak<|Jn<|Je ?_)
  subst rE
  have QK:(aL (wH r tk).so).length=r.lv.toNat*1:=by rw [c7,Fi,Zaq]
  refine cN (n:=r.lv.toNat) (xs:=aL (wH r tk).so) (cap:=cap) (g:=gb) (E:=9) (sz:=1) (by exact Take.there .here) tw tL iT QK ?_
  first | with_reducible apply aO | with_reducible apply aP
  case he=>exact kR rfl inferInstance rfl (.there .here) ak (by rfl)
  case hR=>
   intro w' aA
   exact aG (.slice (some ⟨gb,0,none⟩) r.lv.toNat cap) trivial (by exact .cons .here .nil) aA rfl
def Li (W:List fu):bd:=mB 9 (W.map fu.v) (W.map fun y=>aL y.tk.so)
theorem LU:mB 9 [] []=Li []:=rfl
theorem ze (W:List fu) (y:fu):(iF (W++[y])).flatten=(iF W).flatten++[.string y.tk.de,y.v]:=by
 unfold iF;simp [fu.cells]
theorem Qw {kv:Value} {l:List fu} {g:Tk→Tk} {n:Nat} {f:FuncId} {first cap:List Value} [bR Tryz.prog f] {w:World} (h:Rd w kv 2 (iF l)) (hM:sR w l) (hn:l.length≤1000) (hg:∀ x∈l,(g x.tk).so.length=n)
  (cz:∀ x∈l,∀ w',aJ [] w w'→bu Tryz.prog f (first++[.agg x.cells.toArray]++cap) w' [] (fun _:Value=>True) (fun v=>.agg #[.string (g x.tk).de,v]) (fun v=>[row 9 1 v n (aL (g x.tk).so)])) :
  bu Tryz.prog 166 [kv,.func (.func f) first.toArray cap.toArray] w [] (fun x:Value×List fu=>cr x.2=(cr l).map g) (fun x=>x.1) (fun x=>[row 78 2 x.1 x.2.length (iF x.2).flatten,Li x.2]):=by
 obtain ⟨a,cp,b,o,rfl,dj,bV,ha,hc⟩:=h
 rw [du] at *
 unfold maxLen at bV
 refine aS Tryz.func166 rfl rfl ?_
 refine Jr<|Ja rfl<|Ji<|Ja rfl<|Jn<|Jq<|Jr<|Jv rfl<|JI rfl<|Jv rfl<|Jn<|J0 ?_
 refine aQ 78 2 ?_
 refine jP 9 ?_
 refine aW (ι:=Nat×Value×List fu) (fun x=>x.1≤l.length∧cr x.2.2=(cr (l.take x.1)).map g) (fun x=>[(10,.int .i64 (x.1:Nat)),(9,.int .i64 (l.length:Nat)),(8,.slice a l.length cp),(5,x.2.1),(1,.func (.func f) first.toArray cap.toArray)])
  (fun x=>[row 78 2 x.2.1 x.2.2.length (iF x.2.2).flatten,mB 9 (x.2.2.map fu.v) (x.2.2.map fun y=>aL y.tk.so)]) (fun x=>l.length-x.1) ?_ ?_
 ·apply aI (0,.slice none 0 0,[]) ⟨Zi _,rfl⟩
  case hs1=>exact cg
  case ht=>
   exact .cons (.there .here) (.cons .here .nil)
 rintro ⟨k,v,W⟩ ⟨hk,hW⟩
 dsimp only at hk hW ⊢
 have RD:W.length=k:=by
  have:=congrArg List.length hW
  unfold cr at this
  rw [Zd,Zd,Zd,Zr] at this
  omega
 by_cases aM:k<l.length
 ·have cG:=ha (jk aM)
  have aB:=(hc k _ (jy aM)).2
  have iT:=cz _ (Zj aM)
  have Rm:=hg _ (Zj aM)
  have gR:=Rd.one (hM _ (Zj aM))
  have htk:(cr (l.take (k+1))).map g=(cr (l.take k)).map g++[g l[k].tk]:=by
   unfold cr
   rw [Zn aM,Zs,Zs];rfl
  have sy:(iF W).flatten.length=W.length*2:=by rw [fG (zd W),du]
  unfold fu.cells at aB iT
  refine aT (E:=78) (sz:=2) (v:=v) (by exact .here) fun va vc e=>?_
  subst e
  (refine Jr<|JA rfl<|Jn<|Jq<|Jd rfl fun az=>Jk<|Jq<|J0<|Jr<|ab (fM cG az) rfl<|ab (gW (ew.base aB rfl)) rfl<|Jz rfl rfl fun _ _=>aq (.of rfl) (.of rfl) .here rfl rfl (fY rfl gR) (bG rfl) ak<|Jn<|Jg<|Jv rfl<|Jv rfl<|ab (cR .here) rfl ?_)
  refine JN bN rfl (fun w1 aR=>iT w1 aR.keeps) ?_
  intro hv _
  dsimp only [id_eq,Zb,Za]
  refine aT (E:=9) (sz:=1) (v:=hv) (by exact .here) fun jD jS e=>?_
  subst e
  refine br (bB (.cons (.of rfl) .nil) rfl rfl bQ bQ ak) rfl (fun _ _=>?_)
  refine bF (.of rfl) (.of rfl) cW .here ak (by rfl) (fY rfl rfl) (by rfl) (by rfl) (by rfl) eC (by rfl) ?_
  intro v'
  refine Ja rfl<|Jx<|Jj<|Jt<|Jg<|JB rfl (by omega)<|Jv rfl<|Jn ?_
  have T2:(aL (g l[k].tk).so).length=n:=by rw [c7,Rm]
  with_reducible apply k8 (E:=9) (vs:=W.map fu.v) (xs:=W.map fun y=>aL y.tk.so) (v:=.slice jD n jS) (x:=aL (g l[k].tk).so) (n:=n)
  case ht=>exact dT
  case ht2=>exact bL
  case hn=>exact T2.symm
  case hl=>rw [Zd,Zd]
  case k=>
   apply aK (k+1,v',W++[⟨g l[k].tk,.slice jD n jS⟩]) ⟨by show k+1≤_;omega,by
    show cr (W++[_])=_
    unfold cr at hW htk ⊢
    rw [Zs,hW];exact htk.symm⟩ (by show l.length-(k+1)<l.length-k;omega)
   case hs1=>exact cg
   case ht=>
    dsimp only
    rw [ze,Zg,Zs,Zs]
    simp only [Z8,Zf,ZL,Zai,ZC]
    exact .cons (.there .here) (.cons .here .nil)
 ·have e:k=l.length:=by omega
  rw [e,ZN] at hW
  refine aT (E:=78) (sz:=2) (v:=v) (by exact .here) fun va vc e=>?_
  subst e
  refine Jr<|JA rfl<|Jn<|Jq<|Jc rfl fun az=>Jp<|Jl<|Jo<|Jt<|Jr<|Jv rfl<|Ja rfl<|Jn<|Je ?_
  first | with_reducible apply aO | with_reducible apply aP
  case he=>exact dH rfl rfl
  case hR=>
   intro w' aA
   exact aG (.slice va W.length vc,W) hW (by exact .cons .here (.cons .here .nil)) aA rfl
def LS (r:Ro) (l:List Tk):List Tk:=if (gI r l).2.2≠0 then [] else l.map (wH r)
set_option maxHeartbeats 1000000 in
theorem Lb {r:Ro} {s d t p kv:Value} {l:List fu} {w:World} (h:RR w r s d t p) (cT:lD r) (hw:Rd w kv 2 (iF l)) (hM:sR w l) :
  bu Tryz.prog 47 [RA r s d t p,kv] w [] (fun x:Value×List fu=>cr x.2=LS r (cr l)) (fun x=>.tuple #[x.1,.int .i64 (gI r (cr l)).2.2]) (fun x=>[row 78 2 x.1 x.2.length (iF x.2).flatten,Li x.2]):=by
 have h1:=Rd.one h.sr
 have h2:=Rd.one h.de
 have h3:=Rd.one h.ti
 have h4:=Rd.one h.po
 have VN:=Rd.one hw
 unfold RA
 refine aS Tryz.func47 rfl rfl ?_
 (refine Jr<|Jy rfl rfl fun _ _=>Ja rfl<|Ja rfl<|Jn<|Jq<|Jr<|ab (cR .here) rfl<|Jv rfl ?_)
 rename_i b2 tL
 refine JN bj rfl (fun w1 aR=>AD (h.keeps aR.keeps) cT (hw.keeps aR.keeps) (hM.keeps aR.keeps)) ?_
 have GC:LS r (cr l)=if (gI r (cr l)).2.2≠0 then [] else (cr l).map (wH r):=rfl
 have QO:(gI r (cr l)).2.2=0→fX r=0∧tH r (cr l)=0:=fun h0=>by
  unfold gI at h0
  by_cases c1:fX r=0
  ·rw [if_neg (not_not_intro c1)] at h0
   by_cases c2:tH r (cr l)=0
   ·exact ⟨c1,c2⟩
   ·rw [if_pos c2] at h0;exact absurd h0 c2
  ·rw [if_pos c1] at h0;exact absurd h0 c1
 by_cases AP:(gI r (cr l)).2.2=0
 ·obtain ⟨xe,QL⟩:=QO AP
  have eJ:=CM xe
  have hT:=(qR.1 QL).2
  have z7:=eJ.lim
  have DR:=eJ.len
  rw [if_neg (not_not_intro AP)] at GC
  rw [GC]
  clear GC QO
  generalize gI r (cr l)=R at *
  obtain ⟨R,at_,e_⟩:=R
  dsimp only at AP
  subst AP
  rintro ⟨s1,d1,t1,p1⟩ _
  dsimp only
  unfold RA
  refine di (r:=R) (s:=s1) (d:=d1) (t:=t1) (p:=p1) (a8 _ _) fun k1 k2 k3 k4=>?_
  (refine Jv rfl<|JJ rfl rfl<|JJ rfl rfl<|JJ rfl rfl<|Jz rfl rfl fun _ _=>aq (.of rfl) (.of rfl) .here rfl rfl (gA rfl rfl k1 k2 k3 k4) (bG rfl) ak<|Ja rfl<|Ja rfl<|Ji<|Jv rfl<|JD rfl<|Jn<|Jc rfl fun az=>Jk<|Jr<|Jv rfl<|ab (bC .nil (.cons (.of rfl) .nil)) rfl ?_)
  with_reducible apply jw
  case hr=>exact bj
  case hd=>rfl
  case ht=>exact bD.nil
  case hc=>
   intro w1 fp aR _ hs1
   obtain rfl:fp=[]:=hs1
   have hA:BR w1 b2 [.int .i64 r.lv,.int .i64 r.ma,s,d,t,p]:=BR.of aR eX
   have hR:=h.keeps aR.keeps
   have hK:=hM.keeps aR.keeps
   have Uh:=hT.D8
   unfold cr at Uh
   rw [Zd] at Uh
   exact Qw (f:=167) (first:=[]) (cap:=[.pointer (some ⟨b2,0,none⟩)]) (g:=wH r) (n:=r.lv.toNat) (hw.keeps aR.keeps) hK (by omega) (fun x _=>by unfold wH;simp) (fun x hx w2 eF=>PT (hR.keeps eF) (hA.keeps eF) (by omega) (by omega) ((hK x hx).keeps eF) (hT.lv _ (Z3 hx)))
  rintro ⟨v,W⟩ hW
  dsimp only at hW ⊢
  unfold Li
  dsimp only [Zb,Za]
  refine aT (E:=78) (sz:=2) (v:=v) (by exact .here) fun va vc e=>?_
  subst e
  refine Ja rfl<|Ja rfl<|Jn<|Je ?_
  first | with_reducible apply aO | with_reducible apply aP
  case he=>exact fV rfl rfl rfl
  case hR=>
   intro w' aA
   exact aG (.slice va W.length vc,W) hW (by exact .cons .here (.cons .here .nil)) aA rfl
 ·rw [if_pos AP] at GC
  rw [GC]
  clear GC QO
  generalize gI r (cr l)=R at *
  obtain ⟨R,at_,e_⟩:=R
  dsimp only at AP
  rintro ⟨s1,d1,t1,p1⟩ _
  dsimp only
  unfold RA
  refine di (r:=R) (s:=s1) (d:=d1) (t:=t1) (p:=p1) (a8 _ _) fun k1 k2 k3 k4=>?_
  (refine Jv rfl<|JJ rfl rfl<|JJ rfl rfl<|JJ rfl rfl<|Jz rfl rfl fun _ _=>aq (.of rfl) (.of rfl) .here rfl rfl (gA rfl rfl k1 k2 k3 k4) (bG rfl) ak<|Ja rfl<|Ja rfl<|Ji<|Jv rfl<|JD rfl<|Jn<|Jd rfl fun az=>Jr<|Jv rfl<|Ja rfl<|Ja rfl<|Jn<|Ju ?_)
  refine aQ 78 2 ?_
  refine jP 9 ?_
  rw [LU]
  first | with_reducible apply aO | with_reducible apply aP
  case he=>exact fV rfl rfl rfl
  case hR=>
   intro w' aA
   exact aG (.slice none 0 0,([]:List fu)) (show cr []=[] from rfl) (by exact .cons (.there .here) (.cons .here .nil)) aA rfl
def yk (r:Ro) (o:ByteArray):Int:=aX [fX r,ph r o]
def yj (r:Ro) (o:ByteArray) (q:Bool):Ro:=if yk r o≠0 then Ro.nil else r.H8 o q
theorem sJ (l:List De):(iZ l).length=l.length*3:=by unfold iZ;rw [fG (Eb l),cn]
theorem R2 (l:List De) (cur:List Value) {k:Nat} (h:k<l.length) (q:Bool):setCells (iZ l++cur) (k*3+2) [.bool q]=iZ (l.modify k fun x=>⟨x.nm,x.mx,q⟩)++cur:=by
 rw [pI _ _ _ (by rw [Zg,sJ];omega),List.set_append_left _ _ (by rw [sJ];omega)]
 congr 1
 have e:l=l.take k++l[k]::l.drop (k+1):=by rw [← Zw h,ZZ]
 have hm:l.modify k (fun x=>⟨x.nm,x.mx,q⟩)=l.take k++⟨l[k].nm,l[k].mx,q⟩::l.drop (k+1):=by
  rw [List.modify_eq_take_cons_drop h]
 have ht:(iZ (l.take k)).length=k*3:=by rw [sJ,Zr,Zbk (by omega)]
 have hs:∀ (a:List De) (x:De) (b:List De),iZ (a++x::b)=iZ a++(x.cells++iZ b):=fun a x b=>by unfold iZ uy;simp
 rw [hm,hs]
 conv=>lhs;rw [e,hs]
 rw [List.set_append_right _ _ (by omega),ht,Nat.add_sub_cancel_left]
 rfl
set_option maxHeartbeats 1000000 in
theorem CH {r:Ro} {s d t p:Value} (o:ByteArray) (q:Bool) {w:World} (h:RR w r s d t p) (cT:lD r) :
  bu Tryz.prog 78 [RA r s d t p,.string o,.bool q] w [] (fun _:Value×Value×Value×Value=>True) (fun x=>.tuple #[RA (yj r o q) x.1 x.2.1 x.2.2.1 x.2.2.2,.int .i64 (yk r o)]) (fun x=>nS (yj r o q) x):=by
 have h1:=Rd.one h.sr
 have h2:=Rd.one h.de
 have h3:=Rd.one h.ti
 have h4:=Rd.one h.po
 have eQ:∀ w',aJ [] w w'→aj Tryz.prog 34 [.agg #[.int .i64 r.lv,.int .i64 r.ma,s,d,t,p]] w' (.int .i64 (fX r)):=fun w' hk=>eH (h.keeps hk) cT
 have mq:∀ w',aJ [] w w'→aj Tryz.prog 112 [.agg #[.int .i64 r.lv,.int .i64 r.ma,s,d,t,p],.string o] w' (.int .i64 (ph r o)):=fun w' hk=>eA o (h.keeps hk)
 unfold RA
 refine aS Tryz.func78 rfl rfl ?_
 refine Jr<|Jy rfl rfl fun _ _=>Jz rfl rfl fun _ _=>Ja rfl<|Jn<|Jq<|Jq ?_
 rename_i b3 vI b6 hb6
 with_reducible refine cZ 6 (by kernel_rfl) ?_
 (refine ao (cR (.there .here)) rfl<|aY bN rfl (fun w' aA=>(eQ w' (Mem.keeps aA)))<|ao (cR (.there .here)) rfl<|ao l7 rfl<|aY bj rfl (fun w' aA=>(mq w' (Mem.keeps aA)))<|eB (aC (.cons (.of rfl) (.cons (.of rfl) .nil)) rfl rfl rfl rfl) rfl rfl ?_)
 with_reducible refine dB rfl fun bq nq=>?_
 (refine ai bN rfl (fun w' aA=>(dO (Mem.dw aA .here rfl rfl) (bY.cons (bY.cons bY.nil))))<|Ja rfl<|Ji<|Jv rfl<|JD rfl<|Jn<|gm rfl (fun az=>?_) fun az=>?_;refine Jr<|ab (aU .nil ak) rfl<|Jv rfl<|aq (.of rfl) (.of rfl) (.there .here) rfl rfl (gA rfl rfl rfl rfl rfl rfl) (bG rfl) ak<|Ja rfl<|Jn<|Ju ?_;rotate_left;refine Jk<|Jr<|ab (cR bL) rfl ?_;rotate_right)
 ·have e1:yj r o q=Ro.nil:=if_pos az
  have e2:yk r o=aX [fX r,ph r o]:=rfl
  rw [e1,e2]
  refine aQ 186 2<|aQ 90 3<|aQ 187 3<|aQ 188 3 ?_
  first | with_reducible apply aO | with_reducible apply aP
  case he=>exact sG rfl inferInstance rfl dT ak (by rfl) (by rfl)
  case hR=>
   intro w' aA
   exact aG (.slice none 0 0,.slice none 0 0,.slice none 0 0,.slice none 0 0) trivial (by exact .cons cW (.cons bL (.cons (.there .here) (.cons .here .nil)))) aA rfl
 have e0:aX [fX r,ph r o]=0:=Zo.1 az
 have e1:yj r o q=r.H8 o q:=if_neg az
 have e2:yk r o=0:=e0
 have xe:fX r=0:=cy.1 e0 _ Zq
 have SH:o∈cq r:=by
  have:=(bO (by decide)).1 (cy.1 e0 (ph r o) (by simp))
  rwa [decide_eq_false_iff_not,cm,Classical.not_not] at this
 have eJ:=CM xe
 have hf:=mU eJ eJ.val
 rw [e1,e2]
 refine JN bN rfl (fun w1 aR=>zH (h.keeps aR.keeps) cT (by omega)) ?_
 intro y _
 dsimp only [id_eq,Zb,Za]
 obtain ⟨s1,d1,t1,p1⟩:=y
 dsimp only
 unfold RA PB
 refine di (r:=r) (s:=s1) (d:=d1) (t:=t1) (p:=p1) (by unfold nS PB;exact .cons .here (.cons .here (.cons .here (.cons .here .nil)))) fun k1 k2 k3 k4=>?_
 (refine Jz rfl rfl fun _ _=>aq (.of rfl) (.of rfl) .here rfl rfl (gA rfl rfl k1 k2 k3 k4) (bG rfl) ak<|Jn<|Jq ?_)
 rename_i b9 hb9
 obtain ⟨j0,z8⟩:∃ i:Nat,bE (cq r) o=(i:Nat):=⟨(bE (cq r) o).toNat,by have:=eG SH;omega⟩
 have AN:j0<r.de.length:=by
  obtain ⟨hl,_⟩:=fq (l:=cq r) (s:=o) (by omega)
  rw [z8,ZI] at hl
  unfold cq at hl;rwa [Zd] at hl
 have hdd:∀ w',aJ [] w w'→aj Tryz.prog 155 [.agg #[.int .i64 r.lv,.int .i64 r.ma,s,d,t,p],.string o] w' (.int .i64 (j0:Nat)):=fun w' hk=>z8 ▸ fL o (h.keeps hk)
 refine cU (E:=90) (sz:=3) (v:=d1) bL (by omega) fun gd cap cur e XP XO VP hg4=>?_
 subst e
 have p0:=R2 r.de cur AN q
 have hle:j0*3+2+1≤(iZ r.de++cur).length:=by rw [Zg,sJ];omega
 with_reducible refine dE 8 (by kernel_rfl) ?_
 (refine nF rfl rfl ae<|aF (gT (.there .here)) rfl<|aF (cR AH) rfl<|ju rfl rfl<|fI bj rfl (fun w' aA=>(hdd w' (Mem.keeps aA)))<|ju rfl rfl<|aF (ar (.of rfl) (.of rfl) rfl (by omega) (by omega) bb) rfl<|nF rfl rfl ae ?_)
 with_reducible refine dI ?_
 (refine aq (.of rfl) (.of rfl) .here rfl rfl (en rfl) hle p0<|Ji<|ab (cR (.there .here)) rfl<|aq (.of rfl) (.of rfl) pz rfl rfl (gA rfl rfl k1 rfl k3 k4) (bG rfl) ak<|Ja rfl<|Jn<|Je ?_)
 have hpr:r.H8 o q=⟨r.lv,r.ma,r.sr,r.de.modify j0 fun x=>⟨x.nm,x.mx,q⟩,r.ti,r.po⟩:=by unfold Ro.H8;rw [z8,ZI]
 have T9:(r.de.modify j0 fun x=>(⟨x.nm,x.mx,q⟩:De)).length=r.de.length:=List.length_modify _ _ _
 rw [hpr]
 generalize (r.de.modify j0 fun x=>(⟨x.nm,x.mx,q⟩:De))=D' at *
 have XN:(iZ D'++cur).length=cap*3:=by rw [Zg,sJ] at VP ⊢;rw [T9];exact VP
 refine cN (n:=r.de.length) (xs:=iZ D') (cap:=cap) (g:=gd) (E:=90) (sz:=3) (by exact Take.there .here) XP XO XN (by rw [sJ,T9]) ?_
 first | with_reducible apply aO | with_reducible apply aP
 case he=>exact sG rfl inferInstance rfl (.there .here) ak (by rfl) (by rfl)
 case hR=>
  intro w' aA
  exact aG (s1,.slice (some ⟨gd,0,none⟩) r.de.length cap,t1,p1) trivial (show bD _ [J1 r s1,row 90 3 (.slice (some ⟨gd,0,none⟩) r.de.length cap) D'.length (iZ D'),J3 r t1,J4 r p1] _ by rw [T9];exact .cons cW (.cons .here (.cons bL (.cons bL .nil)))) aA rfl
structure pE where
 fr:Int
 tk:List fu
 v:Value
def pE.cells (x:pE):List Value:=[.int .i64 x.fr,x.v]
def te (l:List pE):List (List Value):=l.map pE.cells
theorem lh (l:List pE):(te l).length=l.length:=by simp [te]
theorem zN {l:List pE} {k:Nat} (h:k<l.length):(te l)[k]? = some (l[k]).cells:=by simp [te,h]
theorem DD {l:List pE} {k:Nat} (h:k<l.length):te l≠[]:=by intro e;have:=congrArg List.length e;rw [lh] at this;simp at this;subst this;simp at h
def G8 (w:World) (l:List pE):Prop:=∀ x∈l,Rd w x.v 2 (iF x.tk)∧sR w x.tk
theorem G8.keeps {w w':World} {l:List pE} (h:G8 w l) (hk:aJ [] w w'):G8 w' l:=fun x hx=>⟨(h x hx).1.keeps hk,(h x hx).2.keeps hk⟩
def eo (l:List pE):List Od:=l.map fun x=>⟨x.fr,cr x.tk⟩
theorem uh (l:List pE):(eo l).length=l.length:=Zd _
theorem BK {l:List pE} {k:Nat} (h:k<l.length):(eo l).getD k Od.zero=⟨l[k].fr,cr l[k].tk⟩:=by
 unfold eo;rw [Zk,ZF,Zc h];rfl
theorem Nk {lv:Value} {l:List pE} {p:pE→Bool} {f:FuncId} {first cap:List Value} [bR Tryz.prog f] {w:World} (h:Rd w lv 2 (te l)) (cz:∀ x∈l,∀ w',aJ [] w w'→aj Tryz.prog f (first++[.agg x.cells.toArray]++cap) w' (.bool (p x))) :
  aj Tryz.prog 173 [lv,.func (.func f) first.toArray cap.toArray] w (.int .i64 (fT p l)):=by
 obtain ⟨a,cp,b,o,rfl,dj,bV,ha,hc⟩:=h
 rw [lh] at *
 unfold maxLen at bV
 refine ah Tryz.func173 rfl rfl ?_
 refine Jr<|Ja rfl<|Jn<|Jq<|Jr<|Jv rfl<|JI rfl<|Jv rfl<|Jn<|J0 ?_
 refine aW (fun k:Nat=>k≤l.length∧∀ i,i<k→(l[i]?.map p).getD false=false) (fun k=>[(8,.int .i64 k),(7,.int .i64 l.length),(0,.slice a l.length cp),(1,.func (.func f) first.toArray cap.toArray)]) (fun _=>[]) (fun k=>l.length-k) ?_ ?_
 ·apply aI 0 ⟨Zi _,fun i h=>by omega⟩
  case hs1=>exact cg
  case ht=>(try simp only [Ze,Zf,Za]);exact .nil
 rintro k ⟨hk,hf⟩
 by_cases aM:k<l.length
 ·have cG:=ha (DD aM)
  have aB:=(hc k _ (zN aM)).2
  have iT:=cz _ (Zj aM)
  have hps:(l[k]?.map p).getD false=p l[k]:=by simp [aM]
  unfold pE.cells at aB iT
  (refine Jr<|JA rfl<|Jn<|Jq<|Jd rfl fun az=>Jk<|Jq<|J0<|Jr<|Jv rfl<|Ja rfl<|Ji<|Jv rfl<|Jv rfl<|Jv rfl<|ab (fM cG az) rfl<|ab (gW (ew.base aB rfl)) rfl<|ai bN rfl (fun w' aA=>(iT w' (Mem.keeps aA)))<|Jn<|pt rfl (fun az=>?_) fun az=>?_;refine Jr<|Jv rfl<|Ja rfl<|Jn<|Je<|Jm<|Jh<|Jh<|Jm<|Jh<|JT ?_;rotate_left;refine Jw<|Jj<|Jt<|Jg<|JB rfl (by omega)<|Jv rfl<|Jn ?_;rotate_right)
  ·rw [gy hf aM az]
  ·apply aK (k+1) ⟨by omega,fun i hi=>by
    by_cases e:i=k
    ·rw [e,hps];exact az
    ·exact hf i (by omega)⟩ (by omega)
   case hs1=>exact cg
   case ht=>(try simp only [Ze,Zf,Za]);exact .nil
 ·obtain rfl:k=l.length:=by omega
  refine Jr<|JA rfl<|Jn<|Jq<|Jc rfl fun az=>Jp<|Jl<|Jo<|Jt<|Jr<|Ja rfl<|Jn<|Je<|JT ?_
  rw [fA hf]
theorem Mp {x:pE} {f:Int} {b:Nat} {w:World} (f1:w.cell? ⟨b,0,none⟩=some (.int .i64 f)):aj Tryz.prog 174 [.agg x.cells.toArray,.pointer (some ⟨b,0,none⟩)] w (.bool (decide (f<x.fr))):=by
 unfold pE.cells
 refine ah Tryz.func174 rfl rfl ?_
 (refine Jr<|Jy rfl rfl fun _ _=>Ja rfl<|Ji<|bS rfl rfl ae<|JL rfl .here rfl<|ab (ag (.of rfl) (At.base f1 rfl)) rfl<|JE rfl<|Ja rfl<|Jn<|Je<|JT ?_)
 rfl
def MS (r:Ro) (l:List Od):Int:=if fX r≠0 then fX r else Vt r l
def Sy (r:Ro) (l:List Od):Int:=aX [fX r,ch (decide ((16:Int)<(l.length:Nat))) 5]
theorem Qm (r:Ro) (l:List Od):MS r l=if Sy r l≠0 then Sy r l else jE (Lp r l) l.length:=by
 unfold MS Sy Vt
 by_cases h1:fX r=0
 ·rw [if_neg (not_not_intro h1)]
  by_cases h2:(16:Int)<(l.length:Nat)
  ·rw [if_pos h2,if_pos (by rw [h1,decide_eq_true h2];decide),h1,decide_eq_true h2];rfl
  ·rw [if_neg h2,if_neg (by rw [h1,decide_eq_false h2];decide)]
 ·have:aX [fX r,ch (decide ((16:Int)<(l.length:Nat))) 5]=fX r:=by unfold aX;rw [if_pos h1]
  rw [if_pos h1,this,if_pos h1]
def ID (l:List pE) (k:Nat):Int:=if k=0 then -1 else ((eo l).getD (k-1) Od.zero).fr
theorem Qs {r:Ro} {l:List pE} {k:Nat} (h:k<l.length):Lp r (eo l) k=aX [gp l[k].fr 0 10000000,ch (decide (l[k].fr≤ID l k)) 11,tH r (cr l[k].tk)]:=by
 unfold Lp ID
 have:(eo l)[k]? = some ⟨l[k].fr,cr l[k].tk⟩:=by unfold eo;rw [ZF,Zc h];rfl
 rw [this];rfl
theorem Gn {l:List pE} {k:Nat} (h:k<l.length):ID l (k+1)=l[k].fr:=by
 unfold ID
 rw [if_neg (by omega),Zas,BK h]
set_option maxHeartbeats 1000000 in
theorem xo {r:Ro} {s d t p kv:Value} {l:List pE} {w:World} (h:RR w r s d t p) (cT:lD r) (hw:Rd w kv 2 (te l)) (hM:G8 w l) :
  aj Tryz.prog 171 [RA r s d t p,kv] w (.int .i64 (MS r (eo l))):=by
 have h1:=Rd.one h.sr
 have h2:=Rd.one h.de
 have h3:=Rd.one h.ti
 have h4:=Rd.one h.po
 obtain ⟨aw,cw,bw,ow,rfl,O4,B2,Uy,Kb⟩:=hw
 rw [lh] at *
 unfold maxLen at B2
 have qh:=uh l
 have eQ:∀ w',aJ [] w w'→aj Tryz.prog 34 [.agg #[.int .i64 r.lv,.int .i64 r.ma,s,d,t,p]] w' (.int .i64 (fX r)):=fun w' hk=>eH (h.keeps hk) cT
 have hX:=Qm r (eo l)
 have hA:Sy r (eo l)=aX [fX r,ch (decide ((16:Int)<(l.length:Nat))) 5]:=by unfold Sy;rw [qh]
 unfold RA
 refine ah Tryz.func171 rfl rfl ?_
 (refine Jr<|Jy rfl rfl fun _ _=>Ja rfl<|Jn<|Jq<|Jr<|ab (cR .here) rfl<|ai bN rfl (fun w' aA=>(eQ w' (Mem.keeps aA)))<|Jv rfl<|JI rfl<|JE rfl<|ai bj rfl (fun w' aA=>(dV _ 5 w'))<|br (aC (.cons (.of rfl) (.cons (.of rfl) .nil)) rfl rfl rfl rfl) rfl fun _ _=>ai bN rfl (fun w' aA=>(dO (Mem.dw aA .here rfl rfl) (bY.cons (bY.cons bY.nil))))<|Ja rfl<|Ji<|Jv rfl<|JD rfl<|Jn<|gm rfl (fun az=>?_) fun az=>?_;refine Jr<|Jv rfl<|Ja rfl<|Jn<|Ju<|JT ?_;rotate_left;refine Jk<|Jr<|Ja rfl<|Jn<|Jq<|Jr<|Jv rfl<|JI rfl<|Jv rfl<|Jn<|J0 ?_;rotate_right)
 ·rw [hX,hA,if_pos az]
 have Kl:Sy r (eo l)=0:=by rw [hA];exact Zo.1 az
 rw [if_neg (not_not_intro Kl),qh] at hX
 clear az
 rename_i b2 tL bq nq
 refine aW (fun k:Nat=>k≤l.length∧∀ i,i<k→Lp r (eo l) i=0) (fun k=>[(23,.int .i64 (k:Nat)),(22,.int .i64 (l.length:Nat)),(21,.slice aw l.length cw),(6,.int .i64 (ID l k)),(2,.pointer (some ⟨b2,0,none⟩))])
  (fun k=>[JP b2 r s d t p]) (fun k=>l.length-k) ?_ ?_
 ·apply aI 0 ⟨Zi _,fun i hi=>by omega⟩
  case hs1=>exact cg
  case ht=>(try simp only [Ze,Zf,Za]);exact .cons (.there .here) .nil
 rintro k ⟨hk,hf⟩
 by_cases aM:k<l.length
 ·have Ke:=Uy (DD aM)
  have aB:=(Kb k _ (zN aM)).2
  unfold pE.cells at aB
  have hx:=hM _ (Zj aM)
  have jv:=Qs (r:=r) aM
  have DR:=Gn aM
  generalize l[k]=x at aB hx jv DR ⊢
  obtain ⟨xf,xt,xv⟩:=x
  dsimp only at aB hx jv DR ⊢
  have gR:=Rd.one hx.1
  have htk:∀ w',aJ [] w w'→aj Tryz.prog 164 [.agg #[.int .i64 r.lv,.int .i64 r.ma,s,d,t,p],xv] w' (.int .i64 (tH r (cr xt))):=fun w' hk=>rK (h.keeps hk) (hx.1.keeps hk) (hx.2.keeps hk)
  (refine Jr<|JA rfl<|Jn<|Jq<|Jd rfl fun az=>Jk<|Jq<|J0<|Jr<|ab (ar (.of rfl) (.of rfl) Ke (by omega) az bb) rfl<|ab (gW (ew.base aB rfl)) rfl<|Jz rfl rfl fun _ _=>aq (.of rfl) (.of rfl) .here rfl rfl (fY rfl gR) (bG rfl) ak<|Jn<|Jq<|Jq ?_)
  with_reducible refine cZ 13 (by kernel_rfl) ?_
  (refine ao kZ rfl<|ao (gT .here) rfl<|aY eM rfl (fun w' aA=>(mu xf 0 10000000 w'))<|ao kZ rfl<|ao (gT .here) rfl<|ao l7 rfl<|ao (mf (.of rfl) (.of rfl)) rfl<|aY bj rfl (fun w' aA=>(dV _ 11 w'))<|ao (cR (.there .here)) rfl<|ao kZ rfl<|ao (gT .here) rfl<|aY bj rfl (fun w' aA=>(htk w' (Mem.keeps aA)))<|eB (aC (.cons (.of rfl) (.cons (.of rfl) (.cons (.of rfl) .nil))) rfl rfl rfl rfl) rfl rfl ?_)
  with_reducible refine dB rfl fun b55 Yf=>?_
  (refine ai bN rfl (fun w' aA=>(dO (Mem.dw aA .here rfl rfl) (bY.cons (bY.cons (bY.cons bY.nil)))))<|Ja rfl<|Ji<|Jv rfl<|JD rfl<|Jn<|gm rfl (fun az=>?_) fun az=>?_;refine Jr<|Jv rfl<|Ja rfl<|Jn<|Ju<|Jm<|Jh<|Jh<|Jm<|Jh<|JT ?_;rotate_left;refine Jk<|Jg<|bS rfl rfl ae<|JL rfl (.there .here) rfl<|Ja rfl<|Jx<|Jj<|Jt<|Jg<|JB rfl (by omega)<|Jv rfl<|Jn ?_;rotate_right)
  ·rw [← jv] at az ⊢
   have hB:jE (Lp r (eo l)) l.length=Lp r (eo l) k:=eW hf aM az
   rw [hX,hB]
  have hz:Lp r (eo l) k=0:=by rw [jv];exact Zo.1 az
  rw [← DR]
  apply aK (k+1) ⟨by omega,fun i hi=>by
   by_cases e:i=k
   ·rw [e];exact hz
   ·exact hf i (by omega)⟩ (by omega)
  case hs1=>exact cg
  case ht=>(try simp only [Ze,Zf,Za]);exact .cons bL .nil
 ·obtain rfl:k=l.length:=by omega
  have UL:jE (Lp r (eo l)) l.length=0:=dS.2 hf
  refine Jr<|JA rfl<|Jn<|Jq<|Jc rfl fun az=>Jp<|Jl<|Jo<|Jt<|Jr<|Ja rfl<|Jn<|Je<|JT ?_
  rw [hX,UL]
set_option maxHeartbeats 2000000 in
theorem OE {r:Ro} {s d t p kv:Value} {l:List pE} {w:World} (h:RR w r s d t p) (xe:fX r=0) (hw:Rd w kv 2 (te l)) (hM:G8 w l) (hO:Oq r (eo l)) :
  bu Tryz.prog 172 [RA r s d t p,kv] w [] (fun _:Value×Value×Value×Value=>True) (fun x=>.tuple #[RA (iN r (eo l)).1 x.1 x.2.1 x.2.2.1 x.2.2.2,.int .i64 (iN r (eo l)).2.1,.int .i64 (iN r (eo l)).2.2]) (fun x=>nS (iN r (eo l)).1 x):=by
 have eJ:=CM xe
 have z7:=eJ.lim
 have DR:=eJ.len
 have cT:lD r:=by unfold lD;omega
 have VS:=mU eJ eJ.val
 have hlf:=hO.D8
 rw [uh] at hlf
 have qh:=uh l
 have h1:=Rd.one h.sr
 have h2:=Rd.one h.de
 have h3:=Rd.one h.ti
 have h4:=Rd.one h.po
 obtain ⟨a,cp,b,o,rfl,dj,bV,ha,hc⟩:=hw
 rw [lh] at *
 unfold maxLen at bV
 have hX:iN r (eo l)=if jE (BF r (eo l)) l.length=0 then (OD r (eo l) l.length,0,0) else (Ro.nil,((Ol (BF r (eo l)) l.length:Nat):Int),jE (BF r (eo l)) l.length):=by unfold iN;rw [qh]
 unfold RA
 refine aS Tryz.func172 rfl rfl ?_
 refine Jr<|Jy rfl rfl fun _ _=>Jz rfl rfl fun _ _=>Ja rfl<|Ja rfl<|Ji<|ab (cR (.there .here)) rfl ?_
 rename_i b2 tL b4 wA
 refine JN bN rfl (fun w1 aR=>zH (h.keeps aR.keeps) cT (by omega)) ?_
 intro y _
 dsimp only [id_eq,Zb,Za]
 obtain ⟨s1,d1,t1,p1⟩:=y
 dsimp only
 unfold RA PB
 refine di (r:=r) (s:=s1) (d:=d1) (t:=t1) (p:=p1) (by unfold nS PB;exact .cons .here (.cons .here (.cons .here (.cons .here .nil)))) fun k1 k2 k3 k4=>?_
 (refine Jz rfl rfl fun _ _=>aq (.of rfl) (.of rfl) .here rfl rfl (gA rfl rfl k1 k2 k3 k4) (bG rfl) ak<|Jn<|Jq<|Jr<|Jv rfl<|JI rfl<|Jv rfl<|Jn<|J0 ?_)
 rename_i b7 Ux
 refine aW (ι:=Nat×(Value×Value×Value×Value)×List Po) (fun y=>y.1≤l.length∧Ld r (eo l) y.1 y.2.2∧(∀ j,j<y.1→BF r (eo l) j=0)∧y.2.1.1.oneCell'=true∧y.2.1.2.1.oneCell'=true∧y.2.1.2.2.1.oneCell'=true∧y.2.1.2.2.2.oneCell'=true) (fun y=>[(17,.int .i64 (y.1:Nat)),(16,.int .i64 (l.length:Nat)),(15,.slice a l.length cp),(7,.pointer (some ⟨b7,0,none⟩)),(4,.pointer (some ⟨b4,0,none⟩))])
  (fun y=>[JP b7 r (y.2.1.1) (y.2.1.2.1) (y.2.1.2.2.1) (y.2.1.2.2.2),J1 r y.2.1.1,J2 r y.2.1.2.1,J3 r y.2.1.2.2.1,row 188 3 y.2.1.2.2.2 y.2.2.length (fO y.2.2),bH b4 (.cells #[.int .i64 0,.int .i64 0,.slice none 0 0,.slice none 0 0,.slice none 0 0,.slice none 0 0] 41 (0,0))]) (fun y=>l.length-y.1) ?_ ?_
 ·apply aI (0,(s1,d1,t1,p1),r.po) ⟨Zi _,⟨rfl,eJ.val⟩,fun j hj=>absurd hj (ZP j),k1,k2,k3,k4⟩
  case hs1=>exact cg
  case ht=>exact l6
 clear k1 k2 k3 k4 s1 d1 t1 p1
 rintro ⟨i,⟨s1,d1,t1,p1⟩,q⟩ ⟨hi,RG,NC,k1,k2,k3,k4⟩
 dsimp only at hi RG NC k1 k2 k3 k4 ⊢
 have hqf:=mU eJ RG.val
 by_cases aM:i<l.length
 ·have cG:=ha (DD aM)
  have aB:=(hc i _ (zN aM)).2
  have gJ:=Zj aM
  have hx:=hM _ gJ
  have nn:i<(eo l).length:=by omega
  have OX:=BK aM
  have hti:=hO.tk i nn
  have Rl:(eo l)[i].tk=cr l[i].tk:=by
   rw [Zk,Zc nn,Zab] at OX
   rw [OX]
  rw [Rl] at hti
  have JR:BF r (eo l) i=(hP (r.wp q) (cr l[i].tk)).2.2:=by unfold BF;rw [RG.eq,OX]
  have bh:OD r (eo l) (i+1)=(hP (r.wp q) (cr l[i].tk)).1:=by rw [OD,RG.eq,OX]
  have j9:=fun h0=>RG.next xe hO nn h0
  unfold pE.cells at aB
  generalize l[i]=x at *
  obtain ⟨xf,xt,xv⟩:=x
  dsimp only at *
  have gR:=Rd.one hx.1
  (refine Jr<|JA rfl<|Jn<|Jq<|Jd rfl fun az=>Jk<|Jq<|J0<|Jr<|Jv rfl<|ab (fM cG az) rfl<|ab (gW (ew.base aB rfl)) rfl<|Jz rfl rfl fun _ _=>Ja rfl<|aq (.of rfl) (.of rfl) .here rfl rfl (fY rfl gR) (bG rfl) ak<|Ji<|ab (cR (.there .here)) rfl<|bS rfl rfl ae<|JL rfl .here rfl ?_)
  refine JN bj rfl (fun w1 aR=>EG (r:=r.wp q) (RR.wp (cK aR bL rfl) (cL aR cW rfl) (cJ aR dT rfl) (cE aR eX rfl)) (eJ.wp RG.val) (by show q.length≤500;omega) (hx.1.keeps aR.keeps) (hx.2.keeps aR.keeps) (hti.wp q)) ?_
  have jt:∀ q',hP (r.wp q) (cr xt)=(r.wp q',0,0)→True:=fun _ _=>trivial
  generalize hP (r.wp q) (cr xt)=R at *
  obtain ⟨R,at_,e_⟩:=R
  rintro ⟨s2,d2,t2,p2⟩ _
  dsimp only at JR bh ⊢
  unfold RA
  refine di (r:=R) (s:=s2) (d:=d2) (t:=t2) (p:=p2) (a8 _ _) fun m1 m2 m3 m4=>?_
  clear jt
  (refine Jv rfl<|JJ rfl rfl<|JJ rfl rfl<|JJ rfl rfl<|Jz rfl rfl fun _ _=>aq (.of rfl) (.of rfl) .here rfl rfl (gA rfl rfl m1 m2 m3 m4) (bG rfl) ak<|Ja rfl<|Ja rfl<|Jn<|Jq<|Jr<|Jv rfl<|JD rfl<|Jn<|gm rfl (fun az=>?_) fun az=>?_;refine Jr<|ab (aU .nil ak) rfl<|Jv rfl<|Jv rfl<|aq (.of rfl) (.of rfl) qJ rfl rfl (gA rfl rfl rfl rfl rfl rfl) (bG rfl) ak<|Ja rfl<|Ja rfl<|Jn<|Ju<|Jm<|Jh<|Jh<|Jm<|Jh ?_;rotate_left;refine Jk<|Jg<|ab (cR .here) rfl<|aq (.of rfl) (.of rfl) pz rfl rfl (gA rfl rfl m1 m2 m3 m4) (bG rfl) ak<|Jx<|Jj<|Jt<|Jg<|JB rfl (by omega)<|Jv rfl<|Jn ?_;rotate_right)
  ·have hne:BF r (eo l) i≠0:=by rw [JR];exact az
   have hE:jE (BF r (eo l)) l.length=e_:=(eW NC aM hne).trans JR
   have e4:iN r (eo l)=(Ro.nil,((i:Nat):Int),e_):=by rw [hX,hE,if_neg az,Oj NC aM hne]
   rw [e4]
   dsimp only
   refine aQ 186 2<|aQ 90 3<|aQ 187 3<|aQ 188 3 ?_
   first | with_reducible apply aO | with_reducible apply aP
   case he=>exact lX rfl inferInstance rfl dT ak (by rfl) (by rfl) (by rfl)
   case hR=>
    intro w' aA
    exact aG (.slice none 0 0,.slice none 0 0,.slice none 0 0,.slice none 0 0) trivial (by exact .cons cW (.cons bL (.cons (.there .here) (.cons .here .nil)))) aA rfl
  have hz:e_=0:=Zo.1 az
  have ho0:BF r (eo l) i=0:=JR.trans hz
  obtain ⟨q',wx,_⟩:=j9 ho0
  have UF:R=r.wp q':=bh.symm.trans wx.eq
  subst UF
  apply aK (i+1,(s2,d2,t2,p2),q') ⟨by show i+1≤_;omega,wx,fun j hj=>by
   by_cases e:j=i
   ·rw [e];exact ho0
   ·exact NC j (by have:j<i+1:=hj;omega),m1,m2,m3,m4⟩ (by show l.length-(i+1)<l.length-i;omega)
  case hs1=>exact cg
  case ht=>
   dsimp only
   have w1:(r.wp q').lv=r.lv:=rfl
   have w2:(r.wp q').ma=r.ma:=rfl
   have w3:(r.wp q').sr=r.sr:=rfl
   have w4:(r.wp q').de=r.de:=rfl
   have w5:(r.wp q').ti=r.ti:=rfl
   have w6:(r.wp q').po=q':=rfl
   try unfold J1 J2 J3
   try unfold J4
   rw [w1,w2,w3,w4,w5,w6]
   exact .cons .here (.cons (.there .here) (.cons (.there .here) (.cons (.there .here) (.cons (.there .here) (.cons pz .nil)))))
 ·have e:i=l.length:=by omega
  subst e
  (refine Jr<|JA rfl<|Jn<|Jq<|Jc rfl fun az=>Jp<|Jl<|Jo<|Jt<|Jr<|ab (cR .here) rfl<|aq (.of rfl) (.of rfl) eX rfl rfl (gA rfl rfl k1 k2 k3 k4) (bG rfl) ak<|Ja rfl<|Ja rfl<|Jn<|Je ?_)
  have hE:jE (BF r (eo l)) l.length=0:=dS.2 NC
  have e4:iN r (eo l)=(r.wp q,0,0):=by rw [hX,hE,if_pos rfl,RG.eq]
  rw [e4]
  dsimp only
  first | with_reducible apply aO | with_reducible apply aP
  case he=>exact lX rfl inferInstance rfl .here ak (by rfl) (by rfl) (by rfl)
  case hR=>
   intro w' aA
   exact aG (s1,d1,t1,p1) trivial (by exact .cons bL (.cons bL (.cons bL (.cons bL .nil)))) aA rfl
theorem Ql {r:Ro} {l:List Od} (h:MS r l=0):fX r=0∧Oq r l:=by
 unfold MS at h
 by_cases c:fX r=0
 ·rw [if_neg (not_not_intro c)] at h
  exact ⟨c,ods h⟩
 ·rw [if_pos c] at h;exact absurd h c
end Go.Proofs.A1
namespace Go.SL
open Go
def zw (l:List Oper) (m:Nat) (p:List Nat):Bool:=
 l.all nf&&tS l 0&&kL l.toArray (l.take m) 0&&(List.range' m (l.length-m)).all (fun k=>(List.range m).all fun i=>p.any (Nat.beq i)||((iG l []).getD k 0).testBit i)&&Nat.ble m l.length
structure FN (l:List Oper) (m:Nat) (p:List Nat):Prop where
 op:∀ o∈l,nf o=true
 ac:tS l 0=true
 BE:kL l.toArray (l.take m) 0=true
 tail:∀ k,m≤k→k<l.length→∀ i,i<m→i ∉ p→((iG l []).getD k 0).testBit i=true
 le:m≤l.length
theorem zv {l:List Oper} {m:Nat} {p:List Nat} (h:zw l m p=true):FN l m p:=by
 simp only [zw,Zm,Zaa] at h
 obtain ⟨⟨⟨⟨h1,h2⟩,h3⟩,h5⟩,h6⟩:=h
 refine ⟨h1,h2,h3,fun k hk aM i hi hne=>?_,by simpa using h6⟩
 have:=h5 k (ZaM.2 ⟨hk,by omega⟩) i (ZQ.2 hi)
 rw [ZO] at this
 refine this.resolve_left fun h=>hne ?_
 obtain ⟨x,hx,hxe⟩:=ZM.1 h
 rw [Zag hxe];exact hx
theorem o9 {l:List Oper} {m:Nat} {p:List Nat} (hc:FN l m p) {i j:Nat} {x y:Oper} (wY:i<j) (hj:j<m) (hx:l[i]? = some x) (hy:l[j]? = some y):pZ l.toArray x y i=true:=by
 have:=mZ hc.BE (i:=i) (j:=j) wY (by rw [ZG,if_pos (by omega)];exact hx) (by rw [ZG,if_pos hj];exact hy)
 simpa using this
theorem zy {l:List Oper} {m:Nat} {p:List Nat} (hc:FN l m p) {listed:Array Bool} (hsz:listed.size=l.length) (vF:DC l (Ls listed)) {i:Nat} (hi:i∈Region.ready .any l.toArray listed) (hm:m≤i):∀ j,j<m→j ∉ p→Ls listed j:=by
 intro j hj XE
 obtain ⟨o,ho,hn,hd⟩:=(dD hsz).1 hi
 have aM:i<l.length:=(Zl.1 ho).1
 have DW:DC l (fun k=>k=i∨Ls listed k):=by
  intro k ok hk hL e he hb
  rcases hL with e' | hL
  ·subst e'
   rw [ho] at hk;cases hk
   exact .inr (hd e he hb)
  ·exact .inr (vF k ok hk hL e he hb)
 rcases ia DW hc.ac i aM (.inl rfl) j (hc.tail i hm aM j hj XE) with h | h
 ·omega
 ·exact h
section
variable {P:Program} {c:Cx} {D:List Nat} {sl:aH} {hs:List bd} {Q:Exit→Act→World→Prop} {l:List Oper} {m:Nat}
theorem MM {p:List Nat} (hc:FN l m p) (Gw:∀ q∈p,q<m→AF l q) (VX:∀ c a w,¬ Q (.panic c) a w) {S:List cI} {ny:(Nat→Value)→aH} (T3:tG P c hs l 0 (l.take m) (fun _=>sl) [] S ny) {a0:Act} (h0:bU sl a0) (JX:a0.tmps.size=c.nt)
  (tail:∀ β a w,St c D (ny β) (dR β (fun _=>true) S 0++hs) a w→wpAnyIn (FR none) 0 P .any l.toArray Q (l.length-m) (lK l.length m) a w) :
  ∀ (fuel:Nat) (listed:Array Bool) (a:Act) (w:World),Ot c D hs l m S a0 fuel listed a w→wpAnyIn (FR none) 0 P .any l.toArray Q fuel listed a w:=by
 have hle:=hc.le
 have JO:nG sl [] (fun _=>sl) []:=fun β t v hv=>.inr ⟨fun oj h=>(Zp h).elim,hv⟩
 obtain ⟨Cd,_,kP,fU⟩:=T3.spec (sl:=sl) [] rfl rfl JO
 rw [Za] at kP fU
 rw [ZC,Zr,Zbk hle] at Cd
 have dY:∀ (j:Nat) (o:Oper),j<m→l[j]? = some o→(l.take m)[j]? = some o:=fun j o hj ho=>by rw [ZG,if_pos hj];exact ho
 have fy:∀ (j:Nat) (o:Oper),(l.take m)[j]? = some o→j<m∧l[j]? = some o:=fun j o ho=>by
  rw [ZG] at ho
  split at ho
  ·exact ⟨by assumption,ho⟩
  ·cases ho
 have O7:∀ j,j<m→∃ s,S[j]? = some s:=fun j hj=>⟨S[j]'(by omega),Zc (by omega)⟩
 have mH:∀ fuel listed a w,Ot c D hs l m S a0 fuel listed a w→(∀ i,i<m→Ls listed i)→wpAnyIn (FR none) 0 P .any l.toArray Q fuel listed a w:=by
  intro fuel listed a w hI dZ
  have hL:∀ i,i<l.length→(Ls listed i↔i<m):=fun i _=>⟨fun h=>ZR fun hm=>hI.hi i hm h,dZ i⟩
  obtain ⟨U,xg,qm,sA⟩:=hI.left
  have ig:U.Perm (List.range' m (l.length-m)):=by
   rw [Zaz xg (Zbz)]
   intro i
   rw [qm i,ZaM]
   constructor
   ·rintro ⟨h1,h2⟩
    exact ⟨ZaS fun h=>h2 (dZ i h),by omega⟩
   ·rintro ⟨h1,h2⟩
    exact ⟨by omega,hI.hi i h1⟩
  have hlen:fuel=l.length-m:=by rw [← sA,ig.length_eq,Zbv]
  have JY:listed=lK l.length m:=by
   have vr:(lK l.length m).size=l.length:=by simp [lK];omega
   apply Array.ext
   ·rw [hI.sz,vr]
   ·intro i h1 h2
    rw [hI.sz] at h1
    have h3:=hL i h1
    unfold Ls at h3
    rw [Zy,Zar (by rw [hI.sz];exact h1),Zab] at h3
    have h4:(lK l.length m)[i]=decide (i<m):=by
     simp only [lK,List.getElem_toArray]
     by_cases hi:i<m
     ·rw [Zat (by simpa using hi)];simp [hi]
     ·rw [Zao (by simpa using hi)];simp [hi]
    rw [h4]
    by_cases hi:i<m
    ·rw [h3.2 hi];simp [hi]
    ·have:¬ listed[i]=true:=fun h=>hi (h3.1 h)
     simp [hi,this]
  subst hlen
  rw [JY]
  obtain ⟨β,hm,jt⟩:=hI.own
  have e:dR β (fun i=>listed.getD i false) S 0=dR β (fun _=>true) S 0:=ix fun j s hj=>by
   have iq:j<m:=by have:=(Zl.1 hj).1;omega
   rw [ZC]
   exact ⟨dZ j iq,fun _=>rfl⟩
  rw [e] at hm
  refine tail β a w ⟨by rw [Zh];exact hm,fun t v hv=>?_,hI.size,hI.defers⟩
  rcases kP β t v hv with ⟨j,oj,s,h1,h2,h3,h4⟩ | ⟨h1,h2⟩
  ·obtain ⟨iq,mm⟩:=fy j oj h1
   rw [h4];exact jt j oj t s mm h2 h3 (dZ j iq)
  ·rw [hI.BH t fun j oj hj jK=>h1 oj (ZV (dY j oj (ZR fun hm=>hI.hi j hm jK) hj))]
   exact h0 t v h2
 intro fuel
 induction fuel with
 | zero =>
  intro listed a w hI
  obtain ⟨U,_,qm,sA⟩:=hI.left
  have hU:U=[]:=Zan.1 sA
  refine mH 0 listed a w hI fun i hi=>Classical.byContradiction fun hn=>?_
  have:=(qm i).2 ⟨by omega,hn⟩
  rw [hU] at this;cases this
 | succ fuel ih =>
  intro listed a w hI
  by_cases dZ:∀ i,i<m→Ls listed i
  ·exact mH _ listed a w hI dZ
  ·have hex:∃ i,i<m∧¬ Ls listed i:=Classical.byContradiction fun hh=>dZ fun i hi=>Classical.byContradiction fun hn=>hh ⟨i,hi,hn⟩
   obtain ⟨i0,wZ,pC⟩:=hex
   have main:∀ i,i∈Region.ready .any l.toArray listed→i<m→wpOpIn (FR none) 0 P l.toArray Q i (wpAnyIn (FR none) 0 P .any l.toArray Q fuel (listed.setIfInBounds i true)) a w∧(i∈p→wpAnyIn (FR none) 0 P .any l.toArray Q (fuel+1) listed a w):=by
    intro i hi pf
    obtain ⟨o,ho,hn,lV⟩:=(dD hI.sz).1 hi
    obtain ⟨d,FM,s,hd,fJ,rF,tt,eJ⟩:=fU i o (Zi _) (dY i o pf ho)
    obtain ⟨zV,zW,B,hB,gF⟩:=eJ
    obtain ⟨β,hm,jt⟩:=hI.own
    have kD:∀ (j:Nat),eY o j=true→Ls listed j:=fun j hw=>by
     obtain ⟨e,he,hb,nP⟩:=df hw
     rw [← nP];exact lV e he hb
    have vq:∀ (j:Nat),jO l o j=true→Ls listed j:=fun j hw=>by
     unfold jO at hw
     rw [ZO] at hw
     rcases hw with hw | hw
     ·exact kD j hw
     ·obtain ⟨k,_,hk⟩:=ZM.1 hw
      rw [Zm] at hk
      have GI:=kD k hk.1
      cases hq:l[k]? with
      | none=>rw [hq] at hk;cases hk.2
      | some q =>
       rw [hq] at hk
       obtain ⟨e,he,hb,nP⟩:=df hk.2
       rw [← nP]
       exact hI.dc k q hq GI e he hb
    have pL:∀ (j:Nat) (oj:Oper) (e:Nat),l[j]? = some oj→j<m→j≠i→oj.dst=some e→d≠e:=by
     intro j oj e hj iq hne he
     rcases Zbo j i with h | h
     ·exact fun e'=>(dq (o9 hc h pf hj ho) he hd).1 e'.symm
     ·exact (dq (o9 hc (show i<j by omega) iq ho hj) hd he).1
    have gU:i<listed.size:=by rw [hI.sz];omega
    have CO:nf o=true:=hc.op o (ZV ho)
    -- AJ c5 PV AJ operation looks at
    have hT:∀ t∈o.looksAt l.toArray,∀ v,cS (FM β) t=some v→a.tmps[t]? = some v:=by
     intro t ht v hv
     rcases tt β t v hv with ⟨j,oj,sj,h1,h2,h3,h4⟩ | ⟨h1,h2⟩
     ·have nC:j<i:=by have:=(Zl.1 h1).1;rw [Zr] at this;omega
      rw [ZG,if_pos nC] at h1 h3
      obtain ⟨iq,mm⟩:=fy j oj h1
      have jK:=kD j ((dq (o9 hc nC pf mm ho) h2 hd).2 (.inl ht))
      rw [h4];exact jt j oj t sj mm h2 h3 jK
     ·rw [hI.BH t fun j oj hj jK iI=>?_]
      ·exact h0 t v h2
      ·have iq:j<m:=ZR fun hm=>hI.hi j hm jK
       rcases Zam j i with h | h | h
       ·exact h1 oj (ZV (by rw [ZG,if_pos h];exact dY j oj iq hj)) iI
       ·subst h;exact hn jK
       ·have hw:=(dq (o9 hc h iq ho hj) hd iI).2 (.inr ht)
        obtain ⟨e,he,hb,nP⟩:=df hw
        have:=hI.dc j oj hj jK e he hb
        rw [nP] at this
        exact hn this
    have vC:∀ t v,cS (FM β) t=some v→t<c.nt:=by
     intro t v hv
     rcases tt β t v hv with ⟨j,oj,sj,h1,h2,_,_⟩ | ⟨_,h2⟩
     ·have nC:j<i:=by have:=(Zl.1 h1).1;rw [Zr] at this;omega
      rw [ZG,if_pos nC] at h1
      obtain ⟨d',_,_,wz,Ab,_⟩:=fU j oj (Zi _) h1
      rw [h2] at wz;cases wz
      exact Ab
     ·have:=h0 t v h2
      rw [← JX]
      exact (ZY.1 this).1
    obtain ⟨a',lW,jD,_⟩:=oL hI.size vC hT
    have Ad:jJ c hs (S.take i) B β w:=by
     rintro A (rfl | ⟨j,hj,sj,h1,rfl⟩)
     ·exact hm.sublist ((ZaG _ _).trans (ZaQ _ _))
     ·have nC:j<i:=by have:=(Zl.1 h1).1;rw [Zr] at this;omega
      rw [ZG,if_pos nC] at h1
      have jK:=vq j (hB j hj)
      exact hm.sublist ((q7 (lst:=fun i=>listed.getD i false) (i:=0) h1 (by rw [ZC];exact jK)).append (ZaG _ _))
    have hq:=gF β a' w lW Ad
    have hex:=iA (o:=o) (ops:=l.toArray) CO jD
    -- PL a done operation S8 U2 not UC on this one
    have oH:∀ j,Ls listed j→∀ x k,wb l j k=true→β k=uD β i x k:=by
     intro j jK x k hk
     refine (uC fun e=>?_).symm
     subst e
     unfold wb at hk
     rw [ZO] at hk
     rcases hk with hk | hk
     ·have:j=k:=by simpa using hk
      subst this;exact hn jK
     ·have Lz:j<l.length:=by
       have iq:j<m:=ZR fun hm=>hI.hi j hm jK
       omega
      exact hn (ia hI.dc hc.ac j Lz jK k hk)
    have gO:∀ v w',GZ i s β w v w'→wpAnyIn (FR none) 0 P .any l.toArray Q fuel (listed.setIfInBounds i true) (a.put o.dst v) w':=by
     rintro v w' ⟨x,rfl,hk,fp,lj,iz,w7⟩
     refine ih _ _ _ ⟨by simpa using hI.sz,?_,?_,by rw [hd];exact hI.defers,by simpa [Act.put,hd] using hI.size,?_,?_,uD β i x,?_,?_⟩
     ·intro k ok rQ hL e he hb
      rw [cA gU] at hL ⊢
      rcases hL with e' | hL
      ·subst e'
       rw [ho] at rQ;cases rQ
       exact .inr (lV e he hb)
      ·exact .inr (hI.dc k ok rQ hL e he hb)
     ·intro k rQ hL
      rw [cA gU] at hL
      rcases hL with e | hL
      ·omega
      ·exact hI.hi k rQ hL
     ·intro t ht
      have h1:d≠t:=fun e=>by subst e;exact ht i o ho ((cA gU).2 (.inl rfl)) hd
      rw [hd]
      simp only [Act.put,ZJ h1]
      exact hI.BH t fun j oj hj hL=>ht j oj hj ((cA gU).2 (.inr hL))
     ·obtain ⟨U,xg,qm,sA⟩:=hI.left
      refine ⟨U.erase i,xg.erase i,fun k=>?_,?_⟩
      ·rw [xg.mem_erase_iff,qm k,cA gU]
       constructor
       ·rintro ⟨h1,h2,h3⟩
        exact ⟨h2,fun h=>h.elim h1 h3⟩
       ·rintro ⟨h1,h2⟩
        exact ⟨fun e=>h2 (.inl e),h1,fun h=>h2 (.inr h)⟩
      ·have Ri:i∈U:=(qm i).2 ⟨by omega,hn⟩
       rw [ZaF Ri,sA];rfl
     ·have ml:Mem c (s.A (uD β i x)++(dR β (fun i=>listed.getD i false) S 0++(hs++mE D))) w':=Mem.O9 (As:=[]) hm fun sC _ hf=>by
       rw [show sC=[] from hf]
       exact ⟨hk,fp,lj,iz,fun b hb=>.inr (w7 b hb)⟩
      have e1:dR β (fun i=>listed.getD i false) S 0=dR (uD β i x) (fun i=>listed.getD i false) S 0:=ix fun j sj hj=>by
       refine ⟨rfl,fun hl=>?_⟩
       rw [ZC] at hl
       have iq:j<m:=by have:=(Zl.1 hj).1;omega
       obtain ⟨oj,JU⟩:∃ oj,l[j]? = some oj:=⟨l[j]'(by omega),Zc (by omega)⟩
       obtain ⟨_,_,s2,_,_,hs2,_,vz⟩:=fU j oj (Zi _) (dY j oj iq JU)
       rw [hj] at hs2;cases hs2
       exact vz.zW _ _ (oH j hl x)
      rw [e1,← Zh] at ml
      refine ml.perm ((rb (k:=i) rF ?_ ?_ ?_).append_right _)
      ·rw [ZC]
       show listed.getD i false=false
       have:¬ listed.getD i false=true:=hn
       simpa using this
      ·rw [ZC];exact (cA gU).2 (.inl rfl)
      ·intro j hj
       rw [ZC] at hj
       simp [Zy,ZJ (Ne.symm hj)]
     ·intro j oj e sj hj he jN hL
      rw [cA gU] at hL
      by_cases nC:j=i
      ·subst nC
       rw [ho] at hj;cases hj
       rw [hd] at he;cases he
       rw [rF] at jN;cases jN
       rw [hd]
       simp [Act.put,hI.size,fJ]
      ·have AS:=hL.resolve_left nC
       have iq:j<m:=ZR fun hm=>hI.hi j hm AS
       obtain ⟨_,_,s2,_,_,hs2,_,vz⟩:=fU j oj (Zi _) (dY j oj iq hj)
       rw [jN] at hs2;cases hs2
       rw [hd]
       simp only [Act.put,ZJ (pL j oj e hj iq nC he)]
       rw [← vz.zV _ _ (oH j AS x)]
       exact jt j oj e sj hj he jN AS
    have OT:=hq
    refine ⟨?_,fun Uk=>?_⟩
    rotate_left
    ·obtain ⟨d',x',k',V7,pos',YJ,B5,QQ,eP⟩:=Gw i Uk pf
     rw [ho] at B5;cases B5
     rw [if_pos (by simp [Region.wanted])] at OT
     unfold oU at OT
     obtain ⟨v,hv,Cc⟩:=Cj OT
     have w7:Region.free .any l.toArray listed i=true:=yE eP fun j hj hne hb=>by
      have mm:j<l.length:=by simpa using hj
      have dz:((iG l []).getD i 0).testBit j=true:=by
       rw [Zy] at hb
       simpa [mm] using hb
      have XD:j<listed.size:=by rw [hI.sz];exact mm
      rcases yh hc.ac hI.sz hI.dc hi dz with e | hL
      ·exact absurd e hne
      ·unfold Ls at hL
       rw [Zy,Zar XD] at hL ⊢
       exact hL
     refine wpAnyIn_take (oi:=⟨some d',.extract x' k',V7,pos',YJ,none⟩) (v:=v) rfl (by simpa using ho) QQ w7 (by simpa using hi) (fun c a w h=>(VX c _ w h).elim) ⟨.inl ⟨by simp [Region.wanted],fun w2=>by rw [← hex];exact Cc w2⟩,fun w2=>rfl⟩ (gO v w hv)
    unfold wpOpIn
    rw [show l.toArray[i]? = some o from by simpa using ho]
    simp only []
    rw [gX jD] at hq
    split
    ·rename_i hw
     rw [if_pos hw] at hq
     refine ⟨dN _ _ _ _ _,?_⟩
     rw [Oper.semAt_eq _ _ _ (fun cc he=>by simp [nf,he] at CO),← hex]
     unfold oU at hq
     revert hq
     generalize (execOp a'.eval o).run P w=res
     intro hq
     match res,hq with
     | .ok (.value v) w',hq=>exact gO v w' hq
     | .ok (.enter f args) w', ⟨e, cz⟩ =>
      subst e
      refine ⟨by simp [FR,Fence.wide],(ij cz).mono fun e wG h=>?_⟩
      obtain ⟨v,rfl,hq⟩:=h
      exact gO v wG hq
    ·rename_i hw
     rw [if_neg hw] at hq
     exact ⟨fun _ _=>trivial,gO undef w hq⟩
   by_cases hp:∃ q,q∈p∧q<m∧q∈Region.ready .any l.toArray listed
   ·obtain ⟨q,Nt,yz,TZ⟩:=hp
    exact (main q TZ yz).2 Nt
   ·refine ⟨fun hr=>?_,fun i hi=>?_⟩
    ·obtain ⟨i,hi⟩:=jq hI.sz hc.ac ⟨i0,by omega,pC⟩
     rw [hr] at hi;cases hi
    ·have pf:i<m:=ZR fun hm=>by
      have Lw:=zy hc hI.sz hI.dc hi hm
      have Cc:∀ q,q<m→Ls listed q:=by
       intro q
       induction q using Nat.strongRecOn with
       | _ q ih =>
        intro Xe
        by_cases Ns:q∈p
        ·by_cases hLq:Ls listed q
         ·exact hLq
         ·refine absurd ⟨q,Ns,Xe,(dD hI.sz).2 ⟨l[q]'(by omega),Zc (by omega),hLq,fun e he hb=>?_⟩⟩ hp
          have aM:=jX hc.ac (Zc (show q<l.length by omega)) e he hb
          exact ih e.on (by omega) (by omega)
        ·exact Lw q Xe Ns
      exact pC (Cc i0 wZ)
     exact (main i hi pf).1
theorem rV {id:Nat} (m:Nat) (p:List Nat) [qi:Sl P] (eQ:zw l m p=true) (Gw:∀ q∈p,AF l q) (k:nA P c D hs l Q m 0 m l (fun _=>sl) []):Tr c D sl hs (WP P none (.region id l.toArray true) Q):=fun a w bh=>by
 obtain ⟨S,ny,hp,ht⟩:=k
 have h:(Code.region id l.toArray true).wpIn (FR none) 0 P (NP Q) a w:=wpIn_region_any qi.eq (by
  refine MM (p:=p) (zv eQ) (fun q hq _=>Gw q hq) (fun c a w h=>h.elim) hp bh.c5 bh.size (fun β a w bh=>ht β a w bh) l.toArray.size _ _ _ ⟨by simp,?_,?_,bh.defers,bh.size,fun t _=>rfl,?_,fun _=>undef,?_,?_⟩
  ·exact fun k o _ hL=>absurd hL (eS _ _)
  ·exact fun k _ hL=>eS _ _ hL
  ·exact ⟨List.range l.length,Zbs,fun i=>⟨fun h=>⟨by simpa using h,eS _ _⟩,fun h=>by simpa using h.1⟩,by simp⟩
  ·have e:∀ (T:List cI) (i:Nat),dR (fun _=>undef) (fun i=>(Array.replicate l.toArray.size false).getD i false) T i=[]:=by
    intro T
    induction T with
    | nil=>intro i;rfl
    | cons s T ih =>
     intro i
     have:=eS l.toArray.size i
     unfold Ls at this
     unfold dR
     rw [if_neg this,ih];rfl
   rw [e]
   exact bh.mem.drew
  ·exact fun j o d s _ _ _ hL=>absurd hL (eS _ _))
 exact wpIn_mono h fun e a' w' h=>by
  cases e with
  | panic c=>exact h.elim
  | _=>exact h
end
theorem rf {l:List Oper} {p d k:Nat} {x:Operand} {ty:TypeId} {pos:String} {af:Array Edge} (h:l[p]? = some ⟨some d,.extract x k,ty,pos,af,none⟩) (h2:Region.noSelect l.toArray=true) (h3:Region.free .any l.toArray ((List.range l.length).map fun j=>((iG l []).getD p 0).testBit j).toArray p=true):AF l p:=⟨d,x,k,ty,pos,af,h,h2,h3⟩
end Go.SL
namespace Go.Proofs.A1
open Go Go.SL
def g4:Value→Value×Value×Value×Value
 | .agg a=>(a.getD 0 (.slice none 0 0),a.getD 1 (.slice none 0 0),a.getD 2 (.slice none 0 0),a.getD 3 (.slice none 0 0))
 | _=>(.slice none 0 0,.slice none 0 0,.slice none 0 0,.slice none 0 0)
theorem ln (x:Value×Value×Value×Value):∃ v,g4 v=x:=⟨.agg #[x.1,x.2.1,x.2.2.1,x.2.2.2],rfl⟩
def HL (r:Ro) (o:ByteArray) (f:Int):Int:=aX [ph r o,gp f 0 10000000]
def qW (r:Ro) (l:List Od) (o:ByteArray) (f:Int):Int:=if MS r l≠0 then MS r l else if HL r o f≠0 then HL r o f else (iN r (l.take (ir l f))).2.2
def tJ (r:Ro) (l:List Od) (o:ByteArray) (f:Int):List ByteArray:=if qW r l o f≠0 then [] else bo (iN r (l.take (ir l f))).1 o
theorem Ni (l:List pE) (f:Int):fT (fun x:pE=>decide (f<x.fr)) l=if ir (eo l) f<l.length then ((ir (eo l) f:Nat):Int) else -1:=by
 have hn:ir (eo l) f=l.findIdx fun x=>decide (f<x.fr):=by
  unfold ir eo
  rw [List.findIdx_map];rfl
 rw [hn]
 by_cases c:(l.findIdx fun x=>decide (f<x.fr))<l.length
 ·rw [if_pos c]
  refine gy (fun i hi=>?_) c (List.findIdx_getElem (w:=c))
  have:=List.not_of_lt_findIdx hi
  rw [Zc (by omega)]
  simpa using this
 ·rw [if_neg c]
  refine fA fun i hi=>?_
  have:=List.not_of_lt_findIdx (p:=fun x:pE=>decide (f<x.fr)) (xs:=l) (i:=i) (by omega)
  rw [Zc hi]
  simpa using this
theorem Oq.take {r:Ro} {l:List Od} (h:Oq r l) (n:Nat):Oq r (l.take n):=by
 refine ⟨by rw [Zr];have:=h.D8;omega,fun k hk=>?_,fun i j hi hj wY=>?_,fun k hk=>?_⟩
 ·rw [Zr] at hk;rw [ZaL];exact h.fr k (by omega)
 ·rw [Zr] at hi hj;rw [ZaL,ZaL];exact h.inc i j (by omega) (by omega) wY
 ·rw [Zr] at hk;rw [ZaL];exact h.tk k (by omega)
theorem EM {r:Ro} {l:List Od} (hc:fX r=0) (hO:Oq r l) (h:(iN r l).2.2=0):∃ q,iJ r q∧(iN r l).1=r.wp q:=by
 unfold iN at h ⊢
 by_cases c:jE (BF r l) l.length=0
 ·rw [if_pos c]
  obtain ⟨q,hq⟩:=HV hc hO l.length (Zz _) (dS.1 c)
  exact ⟨q,hq.val,hq.eq⟩
 ·rw [if_neg c] at h;exact absurd h c
set_option maxHeartbeats 2000000 in
theorem Sj {r:Ro} {s d t p kv:Value} {l:List pE} (o:ByteArray) (f:Int) {w:World} (h:RR w r s d t p) (cT:lD r) (hw:Rd w kv 2 (te l)) (hM:G8 w l) :
  bu Tryz.prog 64 [RA r s d t p,kv,.string o,.int .i64 f] w [] (fun _:Value=>True) (fun v=>.tuple #[v,.int .i64 (qW r (eo l) o f)]) (fun v=>[row 9 1 v (tJ r (eo l) o f).length (aL (tJ r (eo l) o f))]):=by
 have h1:=Rd.one h.sr
 have h2:=Rd.one h.de
 have h3:=Rd.one h.ti
 have h4:=Rd.one h.po
 have AK:=hw
 obtain ⟨a,cp,b,ow,rfl,dj,bV,ha,hc⟩:=hw
 rw [lh] at *
 unfold maxLen at bV
 have qh:=uh l
 have JR:∀ w',aJ [] w w'→aj Tryz.prog 171 [.agg #[.int .i64 r.lv,.int .i64 r.ma,s,d,t,p],.slice a l.length cp] w' (.int .i64 (MS r (eo l))):=fun w' hk=>xo (h.keeps hk) cT (AK.keeps hk) (hM.keeps hk)
 have mq:∀ w',aJ [] w w'→aj Tryz.prog 112 [.agg #[.int .i64 r.lv,.int .i64 r.ma,s,d,t,p],.string o] w' (.int .i64 (ph r o)):=fun w' hk=>eA o (h.keeps hk)
 unfold RA
 refine aS Tryz.func64 rfl rfl ?_
 (refine Jr<|Jy rfl rfl fun _ _=>Jy rfl rfl fun _ _=>Ja rfl<|Ja rfl<|Jn<|Jq<|Jr<|ab (cR (.there .here)) rfl<|Jv rfl<|ai bj rfl (fun w' aA=>(JR w' (Mem.keeps aA)))<|Ja rfl<|Ji<|Jv rfl<|JD rfl<|Jn<|gm rfl (fun az=>?_) fun az=>?_;refine Jr<|Jv rfl<|Ja rfl<|Ja rfl<|Jn<|Ju ?_;rotate_left;refine Jk<|Jq<|Jq ?_;rotate_right)
 ·have e1:qW r (eo l) o f=MS r (eo l):=if_pos az
  have e2:tJ r (eo l) o f=[]:=if_pos (by rw [e1];exact az)
  rw [e1,e2]
  refine aQ 9 1 ?_
  first | with_reducible apply aO | with_reducible apply aP
  case he=>exact fV rfl rfl rfl
  case hR=>
   intro w' aA
   exact aG (.slice none 0 0) trivial (by exact .cons .here .nil) aA rfl
 have SN:qW r (eo l) o f=if HL r o f≠0 then HL r o f else (iN r ((eo l).take (ir (eo l) f))).2.2:=if_neg az
 obtain ⟨xe,hO⟩:=Ql (Zo.1 az)
 clear az
 rename_i b4 wA b7 Ux
 with_reducible refine cZ 6 (by kernel_rfl) ?_
 (refine ao (cR (.there .here)) rfl<|ao l7 rfl<|aY bj rfl (fun w' aA=>(mq w' (Mem.keeps aA)))<|ao (gT .here) rfl<|aY eM rfl (fun w' aA=>(mu f 0 10000000 w'))<|eB (aC (.cons (.of rfl) (.cons (.of rfl) .nil)) rfl rfl rfl rfl) rfl rfl ?_)
 with_reducible refine dB rfl fun bq nq=>?_
 (refine ai bN rfl (fun w' aA=>(dO (Mem.dw aA .here rfl rfl) (bY.cons (bY.cons bY.nil))))<|Ja rfl<|Ji<|Jv rfl<|JD rfl<|Jn<|gm rfl (fun az=>?_) fun az=>?_;refine Jr<|Jv rfl<|Ja rfl<|Ja rfl<|Jn<|Ju ?_;rotate_left;refine Jk<|Jr<|Jv rfl<|ab (bC .nil (.cons (.of rfl) .nil)) rfl ?_;rotate_right)
 ·have e1:qW r (eo l) o f=HL r o f:=by rw [SN];exact if_pos az
  have e2:tJ r (eo l) o f=[]:=if_pos (by rw [e1];exact az)
  rw [e1,e2]
  refine aQ 9 1 ?_
  first | with_reducible apply aO | with_reducible apply aP
  case he=>exact fV rfl rfl rfl
  case hR=>
   intro w' aA
   exact aG (.slice none 0 0) trivial (by exact .cons .here .nil) aA rfl
 have eq2:qW r (eo l) o f=(iN r ((eo l).take (ir (eo l) f))).2.2:=by rw [SN];exact if_neg az
 clear SN
 have SN:=eq2
 have hsd:o∈cq r:=by
  have:=(bO (by decide)).1 (cy.1 (Zo.1 az) (ph r o) (by simp))
  rwa [decide_eq_false_iff_not,cm,Classical.not_not] at this
 clear az eq2
 with_reducible apply ai
 case hr=>exact bj
 case hd=>rfl
 case hc=>
  intro w' aA
  have f7:w'.cell? ⟨b7,0,none⟩=some (.int .i64 f):=At.lit (by exact Take.there .here) rfl w' aA
  exact Nk (f:=174) (p:=fun x:pE=>decide (f<x.fr)) (first:=[]) (cap:=[.pointer (some ⟨b7,0,none⟩)]) (AK.keeps aA.keeps) (fun x _ w2 eF=>Mp (cu f7 rfl eF))
 rw [Ni]
 have QK:=PS (eo l) f
 rw [qh] at QK
 by_cases kF:ir (eo l) f<l.length
 ·rw [if_pos kF]
  have QI:ir (eo l) f≤l.length:=QK
  have QJ:ir (eo l) f=ir (eo l) f:=rfl
  refine Ja rfl<|Jn<|Jq<|Jr<|Jv rfl<|JA rfl<|Jn<|Jc rfl fun az=>Jk<|Jq ?_
  have vt:qW r (eo l) o f=(iN r ((eo l).take (ir (eo l) f))).2.2∧tJ r (eo l) o f=if (iN r ((eo l).take (ir (eo l) f))).2.2≠0 then [] else bo (iN r ((eo l).take (ir (eo l) f))).1 o:=by
   have x1:qW r (eo l) o f=(iN r ((eo l).take (ir (eo l) f))).2.2:=by rw [SN,QJ]
   refine ⟨x1,?_⟩
   unfold tJ
   rw [x1,QJ]
  have RH:=hO.take (ir (eo l) f)
  have nP:(eo l).take (ir (eo l) f)=eo (l.take (ir (eo l) f)):=by unfold eo;rw [ZaV]
  rw [nP] at vt RH
  have vw:=EM xe RH
  have vv:Rd w (Go.sliced a 0 (((ir (eo l) f):Nat):Int).toNat cp 2) 2 (te (l.take (ir (eo l) f))):=by
   have:=AK.sliced (l:=0) (m:=(ir (eo l) f)) (Zi _) QI
   rw [ZI]
   rwa [List.drop_zero,show (te l).take (ir (eo l) f)=te (l.take (ir (eo l) f)) by unfold te;rw [ZaV]] at this
  have Yr:G8 w (l.take (ir (eo l) f)):=fun x hx=>hM x (Zbn hx)
  rw [vt.1,vt.2]
  have rA:∀ w',aJ [] w w'→bu Tryz.prog 172 [.agg #[.int .i64 r.lv,.int .i64 r.ma,s,d,t,p],Go.sliced a 0 (((ir (eo l) f):Nat):Int).toNat cp 2] w' [] (fun _:Value×Value×Value×Value=>True) (fun x=>.tuple #[RA (iN r (eo (l.take (ir (eo l) f)))).1 x.1 x.2.1 x.2.2.1 x.2.2.2,.int .i64 (iN r (eo (l.take (ir (eo l) f)))).2.1,.int .i64 (iN r (eo (l.take (ir (eo l) f)))).2.2]) (fun x=>nS (iN r (eo (l.take (ir (eo l) f)))).1 x):=fun w' hk=>OE (h.keeps hk) xe (vv.keeps hk) (Yr.keeps hk) RH
  generalize iN r (eo (l.take (ir (eo l) f)))=R at vw rA ⊢
  obtain ⟨R,at_,e_⟩:=R
  dsimp only at vw rA ⊢
  with_reducible refine rV 10 [7,8] (by kernel_rfl) (ZA.2 ⟨rf rfl (by kernel_rfl) (by kernel_rfl),ZA.2 ⟨rf rfl (by kernel_rfl) (by kernel_rfl),fun _ h=>absurd h Zp⟩⟩) ?_
  (refine an (fun β=>(bT (.of rfl) bL ak (by rfl))) dy rfl<|an (fun β=>(aN (.of rfl))) dy rfl<|an (fun β=>(aN (.of rfl))) dy rfl<|an (fun β=>(hY (.of rfl) (.of rfl) (by omega) (by omega))) dy rfl ?_)
  dsimp only [Nat.zero_add,Nat.reduceAdd]
  with_reducible apply dp (ι:=Value×Value×Value×Value) (Φ:=fun _=>True) (val:=fun x=>.tuple #[.agg #[.int .i64 R.lv,.int .i64 R.ma,x.1,x.2.1,x.2.2.1,x.2.2.2],.int .i64 at_,.int .i64 e_]) (own:=fun x=>[J1 R x.1,J2 R x.2.1,J3 R x.2.2.1,J4 R x.2.2.2]) (g:=g4) (B:=[]) (args:=fun _=>[.agg #[.int .i64 r.lv,.int .i64 r.ma,s,d,t,p],Go.sliced a 0 (((ir (eo l) f):Nat):Int).toNat cp 2])
  case hg=>exact ln
  case hB=>rfl
  case hr=>exact fun β=>aZ (.of rfl) (.cons (.of rfl) (.cons (.of rfl) .nil)) inferInstance rfl
  case hd=>rfl
  case hc=>exact fun β w' hb=>rA w' hb.mem.keeps
  dsimp only [Nat.reduceAdd]
  with_reducible apply an
  case hr=>(intro β;exact aN (.of rfl))
  case hi=>exact fun β β' h=>by simp only [h 4 (by kernel_rfl)]
  case hd=>rfl
  dsimp only [Nat.reduceAdd]
  with_reducible apply an
  case hr=>(intro β;exact dh (.of rfl) rfl)
  case hi=>exact fun β β' h=>by simp only [h 4 (by kernel_rfl)]
  case hd=>rfl
  dsimp only [Nat.reduceAdd]
  (refine an (fun β=>(dh (.of rfl) rfl)) dy rfl<|an (fun β=>(dh (.of rfl) rfl)) dy rfl ?_)
  refine kA (fun β=>(q6 rfl)) (fun _ _ _=>rfl) rfl ?_
  refine fh fun β=>?_
  dsimp only [ei,Za,Zb,List.append_eq,Nat.reduceAdd]
  generalize fm (β 9)=Sd
  generalize g4 (β 4)=y
  obtain ⟨s1,d1,t1,p1⟩:=y
  clear β
  dsimp only
  refine di (r:=R) (s:=s1) (d:=d1) (t:=t1) (p:=p1) (by unfold nS PB;exact .cons .here (.cons .here (.cons .here (.cons .here .nil)))) fun m1 m2 m3 m4=>?_
  refine cC (rs:=[10]) (by kernel_rfl) (by simp) (ZA.2 ⟨?_,fun _ h=>absurd h Zp⟩)
  refine cQ rfl ?_
  (refine aq (.of rfl) (.of rfl) dT rfl rfl (gA rfl rfl m1 m2 m3 m4) (bG rfl) ak<|Jn ?_)
  refine cC (rs:=[11]) (by kernel_rfl) (by simp) (ZA.2 ⟨?_,fun _ h=>absurd h Zp⟩)
  refine cQ rfl ?_
  refine Ja rfl<|Jn ?_
  refine cC (rs:=[12]) (by kernel_rfl) (by simp) (ZA.2 ⟨?_,fun _ h=>absurd h Zp⟩)
  refine cQ rfl ?_
  refine Ja rfl<|Jn ?_
  with_reducible refine cH (by kernel_rfl) ?_
  clear rA
  by_cases AP:e_=0
  ·obtain ⟨q,Yn,UF⟩:=vw AP
   clear vw
   rw [if_neg (not_not_intro AP)]
   subst UF
   subst AP
   have T5:=(CM xe).wp Yn
   have z7:=T5.lim
   have DR:=T5.len
   (refine Jt<|Jq<|Jr<|Jv rfl<|JD rfl<|Jn<|Jc rfl fun az=>Jk<|Jr<|ab (cR .here) rfl<|Jv rfl ?_)
   have Xq:(bo (r.wp q) o).length=(r.wp q).lv.toNat:=by unfold bo;simp
   rw [Xq]
   generalize r.wp q=R at *
   refine JN bj rfl (fun w1 aR=>vE (r:=R) o ⟨cK aR (by exact Take.there .here) rfl,cL aR bL rfl,cJ aR cW rfl,cE aR dT rfl⟩ (by omega) (by omega)) ?_
   intro hv _
   dsimp only [id_eq,Zb,Za]
   refine aT (E:=9) (sz:=1) (v:=hv) (by exact .here) fun va vc e=>?_
   subst e
   refine Ja rfl<|Ja rfl<|Jn<|Je ?_
   first | with_reducible apply aO | with_reducible apply aP
   case he=>exact fV rfl rfl rfl
   case hR=>
    intro w' aA
    exact aG (.slice va R.lv.toNat vc) trivial (by exact .cons .here .nil) aA rfl
  ·clear vw
   rw [if_pos AP]
   refine Jt<|Jq<|Jr<|Jv rfl<|JD rfl<|Jn<|Jd rfl fun az=>Jr<|Jv rfl<|Ja rfl<|Ja rfl<|Jn<|Ju ?_
   refine aQ 9 1 ?_
   first | with_reducible apply aO | with_reducible apply aP
   case he=>exact fV rfl rfl rfl
   case hR=>
    intro w' aA
    exact aG (.slice none 0 0) trivial (by exact .cons .here .nil) aA rfl
 ·rw [if_neg kF]
  have QI:l.length≤l.length:=Zz _
  have QJ:ir (eo l) f=l.length:=by omega
  refine Ja rfl<|Jn<|Jq<|Jr<|Jv rfl<|JA rfl<|Jn<|Jd rfl fun az=>Jg<|Jv rfl<|JI rfl<|Ja rfl<|Jn<|Jq ?_
  have vt:qW r (eo l) o f=(iN r ((eo l).take l.length)).2.2∧tJ r (eo l) o f=if (iN r ((eo l).take l.length)).2.2≠0 then [] else bo (iN r ((eo l).take l.length)).1 o:=by
   have x1:qW r (eo l) o f=(iN r ((eo l).take l.length)).2.2:=by rw [SN,QJ]
   refine ⟨x1,?_⟩
   unfold tJ
   rw [x1,QJ]
  have RH:=hO.take l.length
  have nP:(eo l).take l.length=eo (l.take l.length):=by unfold eo;rw [ZaV]
  rw [nP] at vt RH
  have vw:=EM xe RH
  have vv:Rd w (Go.sliced a 0 ((l.length:Nat):Int).toNat cp 2) 2 (te (l.take l.length)):=by
   have:=AK.sliced (l:=0) (m:=l.length) (Zi _) QI
   rw [ZI]
   rwa [List.drop_zero,show (te l).take l.length=te (l.take l.length) by unfold te;rw [ZaV]] at this
  have Yr:G8 w (l.take l.length):=fun x hx=>hM x (Zbn hx)
  rw [vt.1,vt.2]
  have rA:∀ w',aJ [] w w'→bu Tryz.prog 172 [.agg #[.int .i64 r.lv,.int .i64 r.ma,s,d,t,p],Go.sliced a 0 ((l.length:Nat):Int).toNat cp 2] w' [] (fun _:Value×Value×Value×Value=>True) (fun x=>.tuple #[RA (iN r (eo (l.take l.length))).1 x.1 x.2.1 x.2.2.1 x.2.2.2,.int .i64 (iN r (eo (l.take l.length))).2.1,.int .i64 (iN r (eo (l.take l.length))).2.2]) (fun x=>nS (iN r (eo (l.take l.length))).1 x):=fun w' hk=>OE (h.keeps hk) xe (vv.keeps hk) (Yr.keeps hk) RH
  generalize iN r (eo (l.take l.length))=R at vw rA ⊢
  obtain ⟨R,at_,e_⟩:=R
  dsimp only at vw rA ⊢
  with_reducible refine rV 10 [7,8] (by kernel_rfl) (ZA.2 ⟨rf rfl (by kernel_rfl) (by kernel_rfl),ZA.2 ⟨rf rfl (by kernel_rfl) (by kernel_rfl),fun _ h=>absurd h Zp⟩⟩) ?_
  (refine an (fun β=>(bT (.of rfl) bL ak (by rfl))) dy rfl<|an (fun β=>(aN (.of rfl))) dy rfl<|an (fun β=>(aN (.of rfl))) dy rfl<|an (fun β=>(hY (.of rfl) (.of rfl) (by omega) (by omega))) dy rfl ?_)
  dsimp only [Nat.zero_add,Nat.reduceAdd]
  with_reducible apply dp (ι:=Value×Value×Value×Value) (Φ:=fun _=>True) (val:=fun x=>.tuple #[.agg #[.int .i64 R.lv,.int .i64 R.ma,x.1,x.2.1,x.2.2.1,x.2.2.2],.int .i64 at_,.int .i64 e_]) (own:=fun x=>[J1 R x.1,J2 R x.2.1,J3 R x.2.2.1,J4 R x.2.2.2]) (g:=g4) (B:=[]) (args:=fun _=>[.agg #[.int .i64 r.lv,.int .i64 r.ma,s,d,t,p],Go.sliced a 0 ((l.length:Nat):Int).toNat cp 2])
  case hg=>exact ln
  case hB=>rfl
  case hr=>exact fun β=>aZ (.of rfl) (.cons (.of rfl) (.cons (.of rfl) .nil)) inferInstance rfl
  case hd=>rfl
  case hc=>exact fun β w' hb=>rA w' hb.mem.keeps
  dsimp only [Nat.reduceAdd]
  with_reducible apply an
  case hr=>(intro β;exact aN (.of rfl))
  case hi=>exact fun β β' h=>by simp only [h 4 (by kernel_rfl)]
  case hd=>rfl
  dsimp only [Nat.reduceAdd]
  with_reducible apply an
  case hr=>(intro β;exact dh (.of rfl) rfl)
  case hi=>exact fun β β' h=>by simp only [h 4 (by kernel_rfl)]
  case hd=>rfl
  dsimp only [Nat.reduceAdd]
  (refine an (fun β=>(dh (.of rfl) rfl)) dy rfl<|an (fun β=>(dh (.of rfl) rfl)) dy rfl ?_)
  refine kA (fun β=>(q6 rfl)) (fun _ _ _=>rfl) rfl ?_
  refine fh fun β=>?_
  dsimp only [ei,Za,Zb,List.append_eq,Nat.reduceAdd]
  generalize fm (β 9)=Sd
  generalize g4 (β 4)=y
  obtain ⟨s1,d1,t1,p1⟩:=y
  clear β
  dsimp only
  refine di (r:=R) (s:=s1) (d:=d1) (t:=t1) (p:=p1) (by unfold nS PB;exact .cons .here (.cons .here (.cons .here (.cons .here .nil)))) fun m1 m2 m3 m4=>?_
  refine cC (rs:=[10]) (by kernel_rfl) (by simp) (ZA.2 ⟨?_,fun _ h=>absurd h Zp⟩)
  refine cQ rfl ?_
  (refine aq (.of rfl) (.of rfl) dT rfl rfl (gA rfl rfl m1 m2 m3 m4) (bG rfl) ak<|Jn ?_)
  refine cC (rs:=[11]) (by kernel_rfl) (by simp) (ZA.2 ⟨?_,fun _ h=>absurd h Zp⟩)
  refine cQ rfl ?_
  refine Ja rfl<|Jn ?_
  refine cC (rs:=[12]) (by kernel_rfl) (by simp) (ZA.2 ⟨?_,fun _ h=>absurd h Zp⟩)
  refine cQ rfl ?_
  refine Ja rfl<|Jn ?_
  with_reducible refine cH (by kernel_rfl) ?_
  clear rA
  by_cases AP:e_=0
  ·obtain ⟨q,Yn,UF⟩:=vw AP
   clear vw
   rw [if_neg (not_not_intro AP)]
   subst UF
   subst AP
   have T5:=(CM xe).wp Yn
   have z7:=T5.lim
   have DR:=T5.len
   (refine Jt<|Jq<|Jr<|Jv rfl<|JD rfl<|Jn<|Jc rfl fun az=>Jk<|Jr<|ab (cR .here) rfl<|Jv rfl ?_)
   have Xq:(bo (r.wp q) o).length=(r.wp q).lv.toNat:=by unfold bo;simp
   rw [Xq]
   generalize r.wp q=R at *
   refine JN bj rfl (fun w1 aR=>vE (r:=R) o ⟨cK aR (by exact Take.there .here) rfl,cL aR bL rfl,cJ aR cW rfl,cE aR dT rfl⟩ (by omega) (by omega)) ?_
   intro hv _
   dsimp only [id_eq,Zb,Za]
   refine aT (E:=9) (sz:=1) (v:=hv) (by exact .here) fun va vc e=>?_
   subst e
   refine Ja rfl<|Ja rfl<|Jn<|Je ?_
   first | with_reducible apply aO | with_reducible apply aP
   case he=>exact fV rfl rfl rfl
   case hR=>
    intro w' aA
    exact aG (.slice va R.lv.toNat vc) trivial (by exact .cons .here .nil) aA rfl
  ·clear vw
   rw [if_pos AP]
   refine Jt<|Jq<|Jr<|Jv rfl<|JD rfl<|Jn<|Jd rfl fun az=>Jr<|Jv rfl<|Ja rfl<|Ja rfl<|Jn<|Ju ?_
   refine aQ 9 1 ?_
   first | with_reducible apply aO | with_reducible apply aP
   case he=>exact fV rfl rfl rfl
   case hR=>
    intro w' aA
    exact aG (.slice none 0 0) trivial (by exact .cons .here .nil) aA rfl
end Go.Proofs.A1
namespace Go.Proofs
open Go.Shelf
def Tryz.tl:Go.Shelf.Ren:=⟨fun | 156=>278 | 165=>326 | 166=>327 | 169=>328 | 240=>357 | 241=>358 | 276=>379 | 277=>380 | n=>n,fun | 31=>32 | 9=>9 | 3=>3 | 4=>4 | 0=>0 | 20=>20 | 72=>397 | 76=>401 | 70=>395 | 37=>351 | 75=>400 | 127=>421 | 164=>437 | 5=>5 | 80=>197 | n=>n,fun | n=>n⟩
theorem Tryz.E5:Go.Proofs.Lays.n156 Tryz.prog Tryz.tl:={
 mixed:=by kernel_rfl
 f156:=Tryz.func278.trans (congrArg some (by kernel_rfl))
 f165:=Tryz.func326.trans (congrArg some (by kernel_rfl))
 f166:=Tryz.func327.trans (congrArg some (by kernel_rfl))
 f169:=Tryz.func328.trans (congrArg some (by kernel_rfl))
 f240:=Tryz.func357.trans (congrArg some (by kernel_rfl))
 f241:=Tryz.func358.trans (congrArg some (by kernel_rfl))
 f276:=Tryz.func379.trans (congrArg some (by kernel_rfl))
 f277:=Tryz.func380.trans (congrArg some (by kernel_rfl))
 t0:=Tryz.underlying0
 a0:=Tryz.isAgg0
 z0:=Tryz.sizeOf0
 v0:=Tryz.zeroValue0
 t3:=Tryz.underlying3
 a3:=Tryz.isAgg3
 z3:=Tryz.sizeOf3
 v3:=Tryz.zeroValue3
 t4:=Tryz.underlying4
 a4:=Tryz.isAgg4
 z4:=Tryz.sizeOf4
 v4:=Tryz.zeroValue4
 t9:=Tryz.underlying9
 a9:=Tryz.isAgg9
 z9:=Tryz.sizeOf9
 v9:=Tryz.zeroValue9
 t20:=Tryz.underlying20
 a20:=Tryz.isAgg20
 z20:=Tryz.sizeOf20
 v20:=Tryz.zeroValue20
 t31:=Tryz.underlying32
 a31:=Tryz.isAgg32
 z31:=Tryz.sizeOf32
 v31:=Tryz.zeroValue32
 t37:=Tryz.underlying351
 a37:=Tryz.isAgg351
 z37:=Tryz.sizeOf351
 v37:=Tryz.zeroValue351
 t70:=Tryz.underlying395
 a70:=Tryz.isAgg395
 z70:=Tryz.sizeOf395
 v70:=Tryz.zeroValue395
 t72:=Tryz.underlying397
 a72:=Tryz.isAgg397
 z72:=Tryz.sizeOf397
 v72:=Tryz.zeroValue397
 t75:=Tryz.underlying400
 a75:=Tryz.isAgg400
 z75:=Tryz.sizeOf400
 v75:=Tryz.zeroValue400
 t76:=Tryz.underlying401
 a76:=Tryz.isAgg401
 z76:=Tryz.sizeOf401
 v76:=Tryz.zeroValue401
 t127:=Tryz.underlying421
 a127:=Tryz.isAgg421
 z127:=Tryz.sizeOf421
 v127:=Tryz.zeroValue421
 t164:=Tryz.underlying437
 a164:=Tryz.isAgg437
 z164:=Tryz.sizeOf437
 v164:=Tryz.zeroValue437 }
theorem Tryz.l8:Builder.Extra Tryz.prog Tryz.tl:={
 sizeBuilder:=by kernel_rfl
 liesBuilder:=by kernel_rfl
 t5:=Tryz.underlying5
 a5:=Tryz.isAgg5
 z5:=Tryz.sizeOf5
 v5:=Tryz.zeroValue5
 infoByte:=by kernel_rfl
 cellsByte:=by kernel_rfl
 sizeByte:=by kernel_rfl
 neB5:=by decide }
open Go.RowKit in
theorem Tryz.strings_Join_none (a:Option Addr) (c:Nat) (sep:ByteArray) (w:World) :
  Calls Tryz.prog 278 #[.slice a 0 c,.string sep] w fun e w'=>e=.returned (.string ⟨#[]⟩)∧w'=w:=Any.strings_Join_none Tryz.E5 Tryz.l8 a c sep w
open Go.RowKit in
theorem Tryz.strings_Join (bk o c:Nat) (xs:List ByteArray) (sep:ByteArray) (w:World) (Ru:∀ (j:Nat) x,xs[j]? = some x→w.cell? ⟨bk,o+j,none⟩=some (.string x)) (hbk:bk<w.heap.size) (hN:xs.length≤140737488355328) (dj:xs.length≤c) (hlen:(Lib.join (xs.map (·.data.toList)) sep.data.toList).length≤140737488355328) :
  Calls Tryz.prog 278 #[.slice (some ⟨bk,o,none⟩) xs.length c,.string sep] w fun e w'=>e=.returned (.string ⟨(Lib.join (xs.map (·.data.toList)) sep.data.toList).toArray⟩)∧Below w.heap.size w w':=Any.strings_Join Tryz.E5 Tryz.l8 bk o c xs sep w Ru hbk hN dj hlen
def Tryz.BU:Go.Shelf.Ren:=⟨fun | 243=>279 | 246=>329 | 283=>359 | 284=>360 | 285=>361 | 286=>362 | 129=>313 | 317=>381 | 318=>382 | 319=>383 | 320=>384 | 337=>393 | 338=>394 | n=>n,fun | 3=>3 | 9=>9 | 2=>2 | 4=>4 | 171=>422 | 0=>0 | 53=>383 | 37=>351 | 5=>5 | 173=>424 | 212=>441 | 51=>381 | 20=>20 | 213=>442 | 46=>318 | 232=>449 | 233=>450 | n=>n,fun | 17=>1 | 18=>3 | 19=>4 | n=>n⟩
theorem Tryz.M9:Go.Proofs.Lays.n243 Tryz.prog Tryz.BU:={
 mixed:=by kernel_rfl
 f129:=Tryz.func313.trans (congrArg some (by kernel_rfl))
 f243:=Tryz.func279.trans (congrArg some (by kernel_rfl))
 f246:=Tryz.func329.trans (congrArg some (by kernel_rfl))
 f283:=Tryz.func359.trans (congrArg some (by kernel_rfl))
 f284:=Tryz.func360.trans (congrArg some (by kernel_rfl))
 f285:=Tryz.func361.trans (congrArg some (by kernel_rfl))
 f286:=Tryz.func362.trans (congrArg some (by kernel_rfl))
 f317:=Tryz.func381.trans (congrArg some (by kernel_rfl))
 f318:=Tryz.func382.trans (congrArg some (by kernel_rfl))
 f319:=Tryz.func383.trans (congrArg some (by kernel_rfl))
 f320:=Tryz.func384.trans (congrArg some (by kernel_rfl))
 f337:=Tryz.func393.trans (congrArg some (by kernel_rfl))
 f338:=Tryz.func394.trans (congrArg some (by kernel_rfl))
 t0:=Tryz.underlying0
 a0:=Tryz.isAgg0
 z0:=Tryz.sizeOf0
 v0:=Tryz.zeroValue0
 t2:=Tryz.underlying2
 a2:=Tryz.isAgg2
 z2:=Tryz.sizeOf2
 v2:=Tryz.zeroValue2
 t3:=Tryz.underlying3
 a3:=Tryz.isAgg3
 z3:=Tryz.sizeOf3
 v3:=Tryz.zeroValue3
 t4:=Tryz.underlying4
 a4:=Tryz.isAgg4
 z4:=Tryz.sizeOf4
 v4:=Tryz.zeroValue4
 t5:=Tryz.underlying5
 a5:=Tryz.isAgg5
 z5:=Tryz.sizeOf5
 v5:=Tryz.zeroValue5
 t9:=Tryz.underlying9
 a9:=Tryz.isAgg9
 z9:=Tryz.sizeOf9
 v9:=Tryz.zeroValue9
 t20:=Tryz.underlying20
 a20:=Tryz.isAgg20
 z20:=Tryz.sizeOf20
 v20:=Tryz.zeroValue20
 t37:=Tryz.underlying351
 a37:=Tryz.isAgg351
 z37:=Tryz.sizeOf351
 v37:=Tryz.zeroValue351
 t46:=Tryz.underlying318
 a46:=Tryz.isAgg318
 z46:=Tryz.sizeOf318
 v46:=Tryz.zeroValue318
 t51:=Tryz.underlying381
 a51:=Tryz.isAgg381
 z51:=Tryz.sizeOf381
 v51:=Tryz.zeroValue381
 t53:=Tryz.underlying383
 a53:=Tryz.isAgg383
 z53:=Tryz.sizeOf383
 v53:=Tryz.zeroValue383
 t171:=Tryz.underlying422
 a171:=Tryz.isAgg422
 z171:=Tryz.sizeOf422
 v171:=Tryz.zeroValue422
 t173:=Tryz.underlying424
 a173:=Tryz.isAgg424
 z173:=Tryz.sizeOf424
 v173:=Tryz.zeroValue424
 t212:=Tryz.underlying441
 a212:=Tryz.isAgg441
 z212:=Tryz.sizeOf441
 v212:=Tryz.zeroValue441
 t213:=Tryz.underlying442
 a213:=Tryz.isAgg442
 z213:=Tryz.sizeOf442
 t232:=Tryz.underlying449
 a232:=Tryz.isAgg449
 z232:=Tryz.sizeOf449
 v232:=Tryz.zeroValue449
 t233:=Tryz.underlying450
 a233:=Tryz.isAgg450
 z233:=Tryz.sizeOf450
 v233:=Tryz.zeroValue450
 g17:=by kernel_rfl
 g18:=by kernel_rfl
 g19:=by kernel_rfl }
open Go.RowKit Go.Sort Go.Lib in
theorem Tryz.internal_strconv_Itoa_small (i:Nat) (hi:i<100) (w:World) :
  Calls Tryz.prog 279 #[.int .i64 i] w fun e w'=>e=.returned (.string ⟨(Lib.decDigits i).toArray⟩)∧w'=w:=Any.internal_strconv_Itoa_small Tryz.M9 i hi w
end Go.Proofs
namespace Go
def Result.up {α:Type} (w:World):Result α→Prop
  | .ok _ w'=>w.drawn≤w'.drawn
  | .halt _ w'=>w.drawn≤w'.drawn
theorem Result.dx {α:Type} {w w':World} (h:w.drawn≤w'.drawn) {r:Result α} (k:r.up w'):r.up w:=by
  cases r <;> exact Nat.le_trans h k
theorem Sh {α:Type} (a:Ask α):∀ w:World,w.drawn≤(w.ask a).2.drawn:=by
  induction a with
  | done a=>intro w;exact Nat.le_refl _
  | ask PL range k ih =>
    intro w
    unfold World.ask
    dsimp only
    split
    · exact ih _ w
    · exact Nat.le_trans (Nat.le_succ _) (ih _ { w with drawn:=w.drawn+1 })
theorem PW (w:World) (c:Sys):w.drawn≤(w.sys c).2.drawn:=by
  unfold World.sys
  have h:=Sh (Kernel.perform c w.os) w
  generalize w.ask (Kernel.perform c w.os)=r at h
  obtain ⟨⟨x,os⟩,w'⟩:=r
  cases x <;> first | exact Nat.le_refl _ | exact h
theorem yZ {p:Program} {w:World} {at_:Addr} {u:TypeId} {k:Addr} {v:Value} {atomic:Bool} {r:World×List Addr}
    (h:w.viewStore p at_ u k v atomic=.ok r):r.1.drawn=w.drawn:=by
  unfold World.viewStore at h
  simp only [bind,Except.bind,pure,Except.pure,throw,throwThe,MonadExceptOf.throw] at h
  repeat' split at h
  all_goals first | (cases h;rfl) | (injection h with h;rw [← h]) | nomatch h
theorem Ci {p:Program} {w:World} {a:Addr} {v:Value} {atomic:Bool} {r:World×List Addr}
    (h:w.farStore p a v atomic=.ok r):r.1.drawn=w.drawn:=by
  unfold World.farStore at h
  split at h
  · split at h
    · next e=>injection h with h;rw [← h];exact yZ e
    · nomatch h
  · nomatch h
theorem GL (w:World) (a:Addr) (n:Nat):(w.freeze a n).drawn=w.drawn:=by
  unfold World.freeze;split <;> rfl
theorem zp {α:Type} (p:Program) (s:Sem α):∀ w:World,(s.run p w).up w:=by
  induction s with
  | pure a=>intro w;exact Nat.le_refl _
  | load m a k ih =>
    intro w;unfold Sem.run
    split
    · exact ih _ w
    · split
      · exact ih _ w
      · exact Nat.le_refl _
  | store m a v k ih =>
    intro w
    cases v <;> first
      | exact Nat.le_refl _
      | (simp only [Sem.run]
         split
         · split
           · exact Nat.le_refl _
           · exact ih (w.setCell _ _)
         · split
           · next hf=>exact Result.dx (Nat.le_of_eq (Ci hf).symm) (ih _)
           · exact Nat.le_refl _)
  | new o k ih=>intro w;exact ih _ _
  | shape r k ih=>intro w;exact ih _ w
  | freeze a n k ih=>intro w;exact Result.dx (Nat.le_of_eq (GL w a n).symm) (ih (w.freeze a n))
  | frozen a k ih=>intro w;exact ih _ w
  | getObj r k ih =>
    intro w;unfold Sem.run
    split
    · exact Nat.le_refl _
    · exact ih _ w
    · exact Nat.le_refl _
  | setObj r o k ih =>
    intro w;unfold Sem.run
    split
    · exact Nat.le_refl _
    · exact ih _
    · exact Nat.le_refl _
  | choose q k ih =>
    intro w;unfold Sem.run
    split
    · exact ih _ w
    · exact Result.dx (Nat.le_succ w.drawn) (ih _ { w with drawn:=w.drawn+1 })
  | sys c k ih=>intro w;exact Result.dx (PW w c) (ih _ _)
  | program k ih=>intro w;exact ih _ w
  | mark m k ih=>intro w;exact ih w
  | halt h=>intro w;exact Nat.le_refl _
theorem qX {α:Type} (p:Program) (s:Sem α) (w:World) (es:Array Event):(s.runT p w es).1.up w:=by
  rw [Sem.runT_fst];exact zp p s w
theorem gN {α:Type} {p:Program} {s:Sem α} {w w':World} {a:α} (h:s.run p w=.ok a w'):w.drawn≤w'.drawn:=by
  have k:=zp p s w
  rw [h] at k;exact k
theorem NI {α:Type} {p:Program} {s:Sem α} {w w':World} {a:Halt} (h:s.run p w=.halt a w'):w.drawn≤w'.drawn:=by
  have k:=zp p s w
  rw [h] at k;exact k
theorem Qr {α:Type} {p:Program} {s:Sem α} {w w':World} {es NU:Array Event} {a:α} (h:s.runT p w es=(.ok a w',NU)):w.drawn≤w'.drawn:=by
  have k:=qX p s w es
  rw [h] at k;exact k
theorem Ki {α:Type} {p:Program} {s:Sem α} {w w':World} {es NU:Array Event} {a:Halt} (h:s.runT p w es=(.halt a w',NU)):w.drawn≤w'.drawn:=by
  have k:=qX p s w es
  rw [h] at k;exact k
theorem jA {α:Type} {p:Program} {s:Sem α} {w w':World} {es:Array Event} {a:α} (h:(s.runT p w es).1=.ok a w'):w.drawn≤w'.drawn:=by
  have k:=qX p s w es
  rw [h] at k;exact k
theorem kY {α:Type} {p:Program} {s:Sem α} {w w':World} {es:Array Event} {a:Halt} (h:(s.runT p w es).1=.halt a w'):w.drawn≤w'.drawn:=by
  have k:=qX p s w es
  rw [h] at k;exact k
def GStep.up (w:World):GStep→Prop
  | .go _ w' _=>w.drawn≤w'.drawn
  | .comm _ _ _ _ w' _=>w.drawn≤w'.drawn
  | .spawn _ _ w' _=>w.drawn≤w'.drawn
  | .count _ w' _=>w.drawn≤w'.drawn
  | .timer _ _ w' _=>w.drawn≤w'.drawn
  | .alone _ _ w' _=>w.drawn≤w'.drawn
  | .newcoro _ _ _ w' _=>w.drawn≤w'.drawn
  | .coroswitch _ _ _ w' _=>w.drawn≤w'.drawn
  | .collect _ w' _=>w.drawn≤w'.drawn
  | .watch _ w' _=>w.drawn≤w'.drawn
  | .ended _ _ _=>True
theorem GStep.dx {w w':World} (h:w.drawn≤w'.drawn) {s:GStep} (k:s.up w'):s.up w:=by
  cases s <;> first | trivial | exact Nat.le_trans h k
theorem GStep.y5 {w:World} {c:Prop} [Decidable c] {s t:GStep} (h:s.up w) (k:t.up w):(if c then s else t).up w:=by
  split
  · exact h
  · exact k
theorem GStep.ja {w:World} (es:Array Event) {s:GStep} (k:s.up w):(s.after es).up w:=by
  cases s <;> exact k
theorem oM (fr:Frame) (m:String) (w:World):(endThrow fr m w).up w:=Nat.le_refl _
theorem Ea (w0 w:World) (fd:Nat) (text:ByteArray) (o:Outcome):(endWith w fd text o).up w0:=by
  unfold endWith;dsimp only
  split
  · split <;> trivial
  · trivial
  · trivial
theorem oN (p:Program) (fr:Frame) (v:Value) (w:World):(endPrinting p fr v w).up w:=by
  unfold endPrinting;dsimp only
  split
  · exact oM _ _ _
  · trivial
theorem tA (p:Program) (fr:Frame) (callers:List Frame) (dying:Option Dying) (m:String) (w:World):(endFatal p fr callers dying m w).up w:=by
  unfold endFatal;dsimp only
  split
  · next h=>exact gN h
  · trivial
  · trivial
theorem CW (p:Program) (fr:Frame) (d:Dying) (f:Fatal) (w:World):(writeOn p fr d f w).up w:=by
  unfold writeOn;dsimp only
  split
  · trivial
  · split
    · next h=>exact Qr h
    · next h=>exact Ki h
    · trivial
    · trivial
theorem RY (p:Program) (fr:Frame) (d:Dying) (w:World):(die p fr d w).up w:=by
  unfold die;dsimp only
  split
  · exact CW _ _ _ _ _
  · split
    · split
      · exact Nat.le_refl _
      · exact Ea _ _ _ _ _
    · split
      · exact Nat.le_refl _
      · split
        · next h=>exact gN h
        · trivial
      · apply GStep.ja
        split
        · next h=>exact jA h
        · next h=>exact jA h
        · trivial
        · next h=>exact GStep.dx (kY h) (oN _ _ _ _)
        · trivial
      · trivial
theorem kg (p:Program) (main:Bool) (fr:Frame) (callers:List Frame) (dying:Option Dying) (v:Value) (w:World) :
    (doReturn p main fr callers dying v w).up w:=by
  unfold doReturn;dsimp only
  repeat' split
  all_goals first | trivial | exact Nat.le_refl _
theorem tR (p:Program) (fr:Frame) (callers:List Frame) (dying:Option Dying) (d:Deferred) (w:World) :
    (callDeferred p fr callers dying d w).up w:=by
  unfold callDeferred;dsimp only
  apply GStep.y5
  · trivial
  · apply GStep.ja
    repeat' split
    all_goals first
      | trivial
      | exact jA (by assumption)
      | exact kY (by assumption)
      | exact GStep.dx (kY (by assumption)) (tA _ _ _ _ _ _)
      | exact GStep.dx (kY (by assumption)) (oM _ _ _)
theorem FV (p:Program) (main:Bool) (fr:Frame) (callers:List Frame) (dying:Option Dying) (w:World) :
    (unwind p main fr callers dying w).up w:=by
  unfold unwind;dsimp only
  split
  · apply GStep.ja
    split
    · next h=>exact jA h
    · trivial
  · exact tR _ _ _ _ _ _
  · split
    · trivial
    · split
      · trivial
      · split
        · exact Nat.le_refl _
        · split
          · split
            · exact Nat.le_refl _
            · split
              · next h=>exact gN h
              · trivial
              · trivial
          · split
            · exact oN _ _ _ _
            · trivial
    · split
      · exact kg _ _ _ _ _ _ _
      · apply GStep.ja
        split
        · next h=>exact GStep.dx (jA h) (kg _ _ _ _ _ _ _)
        · trivial
        · trivial
theorem Ks (p:Program) (fr:Frame) (callers:List Frame) (dying:Option Dying) (g:Nat) (w:World) :
    (early p fr callers dying g w).up w:=by
  unfold early;dsimp only
  repeat' split
  all_goals first
    | trivial
    | exact Nat.le_refl _
    | (next h _=>have k:=gN h;exact k)
    | (next h _ _=>have k:=gN h;exact k)
    | (next h=>have k:=gN h;exact k)
    | (next h _ _ _=>have k:=gN h;exact k)
    | (next h _ _ _ _=>have k:=gN h;exact k)
theorem rM (p:Program) (listen:Bool) (fr:Frame) (callers:List Frame) (dying:Option Dying) (s:Sem Next) (w:World) :
    (stepG.apply p listen fr callers dying s w).up w:=by
  unfold stepG.apply;dsimp only
  apply GStep.ja
  have hr:∃ r:Result Next×Array Event,(if listen=true then s.runT p w #[] else (s.run p w,#[]))=r∧r.1.up w:=by
    refine ⟨_,rfl,?_⟩
    split
    · exact qX p s w #[]
    · exact zp p s w
  obtain ⟨r,hr,hu⟩:=hr
  rw [hr]
  generalize r.1=r1 at hu ⊢
  repeat' split
  all_goals first
    | trivial
    | exact SY hu (by assumption)
    | exact LR hu (by assumption)
    | exact hu
    | (refine GStep.dx ?_ (oM _ _ _);first | exact hu | exact SY hu (by assumption) | exact LR hu (by assumption))
    | (refine GStep.dx ?_ (tA _ _ _ _ _ _);exact hu)
    | (refine GStep.dx ?_ (Ks _ _ _ _ _ _);exact hu)
theorem EV (p:Program) (listen:Bool) (fr:Frame) (callers:List Frame) (dying:Option Dying) (w:World) :
    (stepG.oper p listen fr callers dying w).up w:=by
  unfold stepG.oper
  repeat' split
  all_goals first | trivial | exact rM _ _ _ _ _ _ _
theorem NS (p:Program) (main listen:Bool) (fr:Frame) (callers:List Frame) (dying:Option Dying) (w:World) :
    (stepG.exec p main listen fr callers dying w).up w:=by
  unfold stepG.exec;dsimp only
  split
  all_goals first
    | trivial
    | exact Nat.le_refl _
    | (split
       · first | exact Nat.le_refl _ | (apply GStep.y5 <;> first | exact Nat.le_refl _ | trivial) | trivial
       · apply GStep.ja
         split
         · next h=>exact GStep.dx (jA h) (kg _ _ _ _ _ _ _)
         · trivial)
    | (split <;> first | exact Nat.le_refl _ | trivial)
    | (generalize exitTo _ _ = o; cases o with
       | none =>
         split
         · first | exact Nat.le_refl _ | (apply GStep.y5 <;> first | exact Nat.le_refl _ | trivial) | trivial
         · apply GStep.ja
           split
           · next h=>exact GStep.dx (jA h) (kg _ _ _ _ _ _ _)
           · trivial
       | some k=>exact Nat.le_refl _)
    | (generalize gotoIn _ _ = o; cases o with
       | none =>
         split
         · first | exact Nat.le_refl _ | (apply GStep.y5 <;> first | exact Nat.le_refl _ | trivial) | trivial
         · apply GStep.ja
           split
           · next h=>exact GStep.dx (jA h) (kg _ _ _ _ _ _ _)
           · trivial
       | some k=>exact Nat.le_refl _)
    | (apply GStep.ja
       split
       · next h=>first | (have k:=jA h;exact k) | exact GStep.dx (jA h) (rM _ _ _ _ _ _ _)
       · first | trivial | (next h=>have k:=kY h;exact k)
       done)
    | (apply GStep.ja
       split
       · next h=>(have k:=jA h;exact k)
       · next h=>(have k:=kY h;exact k)
       · trivial)
    | exact rM _ _ _ _ _ _ _
    | exact EV _ _ _ _ _ _
    | (generalize Extern.next _ = o; cases o with
       | none=>trivial
       | some e=>exact rM _ _ _ _ _ _ _)
    | (split
       · exact Nat.le_refl _
       · split
         · next h=>have k:=gN h;exact k
         · trivial)
    | (split
       · exact EV _ _ _ _ _ _
       · exact Nat.le_refl _)
    | skip
theorem HF (p:Program) (main:Bool) (g:Goroutine) (w:World) (listen:Bool):(stepG p main g w listen).up w:=by
  unfold stepG
  split
  split
  · exact RY _ _ _ _
  · exact NS _ _ _ _ _ _ _
  · exact FV _ _ _ _ _ _
def Stepped.up (w:World):Stepped→Prop
  | .next m=>w.drawn≤m.world.drawn
  | .ended _ _=>True
theorem Stepped.dx {w w':World} (h:w.drawn≤w'.drawn) {s:Stepped} (k:s.up w'):s.up w:=by
  cases s <;> first | trivial | exact Nat.le_trans h k
theorem zP (p:Program) (gs:Array Goroutine) (rest:Rest) (w:World):(look p gs rest w).up w:=by
  unfold look;dsimp only
  split
  · split
    · trivial
    · split
      · trivial
      · split
        · next h=>have k:=gN h;exact k
        · trivial
        · trivial
  · trivial
theorem yY {rest:Rest} {cases:Array CommCase} {w w':World} (h:waitingAt rest cases w=some w'):w.drawn≤w'.drawn:=by
  unfold waitingAt at h
  split at h
  · split at h
    · injection h with h;rw [← h];exact Nat.le_refl _
    · nomatch h
  · injection h with h;rw [← h];exact Nat.le_refl _
theorem vS (p:Program) (rest:Rest) (gs:Array Goroutine) (i:Nat) (g:Goroutine) (cases:Array CommCase) (CA:Bool)
    (shape:CommShape) (w:World):(communicate p rest gs i g cases CA shape w).1.up w:=by
  unfold communicate;dsimp only
  split
  · trivial
  · split
    · split
      · split
        · next h=>exact yY h
        · trivial
      · exact Nat.le_refl _
    · split
      · trivial
      · next h=>
        have k:=gN h
        split
        · split
          · next h2=>
            have k2:=NI h2
            exact Nat.le_trans k k2
          · trivial
        · exact k
        · exact k
        · split
          · exact k
          · split
            · next h3=>have k3:=gN h3;exact Nat.le_trans k k3
            · trivial
        · exact k
        · exact k
        · trivial
theorem Kt (w:World) (c:Nat):(drain w c).2.drawn=w.drawn:=by
  unfold drain;split <;> rfl
theorem yf (m:Machine) (k:Nat) (t:Timer) (when period:Nat):(retime m k t when period).2.world.drawn=m.world.drawn:=by
  unfold retime;dsimp only
  split
  · exact Kt _ _
  · rfl
theorem BO {m:Machine} {var:Addr} {f:Nat→Timer→Value×Machine} {n:Nat} (hf:∀ k t,(f k t).2.world.drawn=n) {r:Value×Machine}
    (h:timerOp.named m var f=.ok r):r.2.world.drawn=n:=by
  unfold timerOp.named at h
  split at h
  · injection h with h;rw [← h];exact hf _ _
  · nomatch h
theorem Gj {m m':Machine} {var:Addr} (h:timerOp.opened m var=some m'):m'.world.drawn=m.world.drawn:=by
  unfold timerOp.opened at h
  split at h
  · split at h
    · injection h with h;rw [← h]
    · nomatch h
  · injection h with h;rw [← h]
theorem Dc {m:Machine} {op:TimerOp} {r:Value×Machine} (h:timerOp m op=.ok r):r.2.world.drawn=m.world.drawn:=by
  unfold timerOp at h
  split at h
  · split at h
    · injection h with h;rw [← h];rfl
    · split at h
      · split at h
        · nomatch h
        · injection h with h;rw [← h]
      · nomatch h
  · exact BO (fun k t=>yf m k t 0 t.period) h
  · split at h
    · next ho=>exact (BO (fun k t=>yf _ k t _ _) h).trans (Gj ho)
    · nomatch h
  · injection h with h;rw [← h];rfl
theorem HQ (p:Program) (m:Machine) (k:Nat):(serve p m k).up m.world:=by
  unfold serve;dsimp only
  split
  · trivial
  · exact Nat.le_refl _
  · split
    · trivial
    · exact Nat.le_refl _
def Move.up (w:World):Move→Prop
  | .goroutine m _=>w.drawn≤m.world.drawn
  | .machine s _=>s.up w
theorem vZ (p:Program) (m:Machine):(askOn p m).up m.world:=by
  unfold askOn;dsimp only
  split
  · trivial
  · next h=>
    have k:=gN h
    split
    · exact Stepped.dx k (HQ _ _ _)
    · split
      · split
        · exact k
        · split
          · exact k
          · split
            · trivial
            · trivial
      · split
        · split
          · trivial
          · next h0=>
            have k0:=gN h0
            split
            · exact Nat.le_trans k k0
            · split
              · trivial
              · next h3=>have k3:=gN h3;exact Nat.le_trans k (Nat.le_trans k0 k3)
        · split
          · trivial
          · next h2=>
            have k2:=gN h2
            split
            · trivial
            · next h0=>
              have k0:=gN h0
              split
              · exact Nat.le_trans (Nat.le_trans k k2) k0
              · split
                · trivial
                · next h3=>have k3:=gN h3;exact Nat.le_trans (Nat.le_trans k k2) (Nat.le_trans k0 k3)
          · next h2=>have k2:=gN h2;exact Nat.le_trans k k2
          · next h2=>
            have k2:=gN h2
            split
            · trivial
            · next h0=>
              have k0:=gN h0
              split
              · exact Nat.le_trans (Nat.le_trans k k2) k0
              · split
                · trivial
                · next h3=>have k3:=gN h3;exact Nat.le_trans (Nat.le_trans k k2) (Nat.le_trans k0 k3)
theorem Move.dx {w w':World} (h:w.drawn≤w'.drawn) {s:Move} (k:s.up w'):s.up w:=by
  cases s with
  | goroutine m i=>exact Nat.le_trans h k
  | machine s ops=>exact Stepped.dx h k
theorem FI (p:Program) (m:Machine):(Go.ask p m).up m.world:=by
  unfold Go.ask
  split
  · split
    · trivial
    · next h=>
      have k:=gN h
      split
      · next hl=>
        have k2:=zP p m.gs m.rest ‹World›
        rw [hl] at k2
        exact Move.dx (Nat.le_trans k k2) (vZ _ _)
      · exact Stepped.dx k (zP _ _ _ _)
    · next h=>have k:=gN h;exact Move.dx k (vZ _ _)
  · exact vZ _ _
theorem MZ (p:Program) (m:Machine):(move p m).up m.world:=by
  unfold move
  split
  · split
    · exact Nat.le_refl _
    · trivial
  · split
    · split
      · exact Nat.le_refl _
      · exact FI p { m with rest:=_ }
    · exact FI p m
theorem zq (p:Program) (m:Machine) (i:Nat) (listen:Bool):(Go.runT p m i listen).1.up m.world:=by
  unfold Go.runT;dsimp only
  have h:=HF p (i==0) (m.gs.swapAt! i { (default:Goroutine) with status:=.finished }).1 m.world listen
  generalize stepG p (i==0) (m.gs.swapAt! i { (default:Goroutine) with status:=.finished }).1 m.world listen=s at h ⊢
  cases s with
  | ended o w es=>trivial
  | comm g cases CA shape w es=>exact Stepped.dx h (vS _ _ _ _ _ _ _ _ _)
  | go g w es=>exact h
  | spawn g child w es=>exact h
  | count g w es =>
    dsimp only
    split
    · trivial
    · exact h
  | alone g on w es=>exact h
  | collect g w es=>exact Stepped.dx h (zP _ _ _ _)
  | watch g w es=>exact h
  | newcoro g c d w es=>exact h
  | coroswitch g c exit w es =>
    dsimp only
    split
    · exact h
    · exact h
    · trivial
  | timer g op w es =>
    dsimp only
    split
    · next ht=>have k:=Dc ht;exact Nat.le_trans h (Nat.le_of_eq k.symm)
    · exact h
    · trivial
    · trivial
theorem Mh (p:Program) (m:Machine):(step p m).up m.world:=by
  unfold step stepT
  have h:=MZ p m
  generalize move p m=v at h ⊢
  cases v with
  | goroutine m' i=>exact Stepped.dx h (zq p m' i true)
  | machine s ops=>exact h
theorem Mv (p:Program) (n:Nat):∀ m:Machine,(runN p n m).up m.world:=by
  induction n with
  | zero=>intro m;exact Nat.le_refl _
  | succ n ih =>
    intro m
    have h:=Mh p m
    unfold runN
    generalize step p m=s at h ⊢
    cases s with
    | next m'=>exact Stepped.dx h (ih m')
    | ended o w=>trivial
theorem Steps.up {P:Program} {m m':Machine} (h:Steps P m m'):m.world.drawn≤m'.world.drawn:=by
  obtain ⟨n,hn⟩:=h
  have k:=Mv P n m
  rw [hn] at k;exact k
theorem Calls.up {P:Program} {f:FuncId} {args:Array Value} {w:World} {v:Value} {R:World→Prop}
    (h:Calls P f args w fun e w'=>e=.returned v∧R w'):Calls P f args w fun e w'=>e=.returned v∧R w'∧w.drawn≤w'.drawn:=by
  intro cs
  obtain ⟨e,w',fr,⟨rfl,hR⟩,hc,hf,hl⟩:=h cs
  exact ⟨_,w',fr,⟨rfl,hR,Steps.up hc⟩,hc,hf,hl⟩
end Go
