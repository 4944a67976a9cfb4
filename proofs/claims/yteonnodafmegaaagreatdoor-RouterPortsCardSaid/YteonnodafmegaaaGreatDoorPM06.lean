/- Parts of the proof: GkRegP GkRegN GkStr GkBits GkArr KA KB KC GkClear GkFl KD KE. -/
import Derived.Test.YteonnodafmegaaaGreatDoorPM05
import Derived.Test.YteonnodafmegaaaGreatDoorPM03
import Derived.Laws.Strings
import Derived.Laws.BytesString
import Derived.Test.YteonnodafmegaaaGreatDoorPM01
import Derived.Laws.Entries
import Derived.Test.YteonnodafmegaaaGreatDoorPM04
set_option linter.unusedSectionVars false
set_option linter.unusedVariables false
set_option linter.unusedSimpArgs false
namespace Go.SL
open Go
def vj (l:List Oper) (m:Nat) (p:List Nat):Bool:=
 l.all pD&&uU l 0&&lH l.toArray (l.take m) 0&&(List.range' m (l.length-m)).all (fun k=>(List.range m).all fun i=>p.any (Nat.beq i)||((jD l []).getD k 0).testBit i)&&Nat.ble m l.length
structure GW (l:List Oper) (m:Nat) (p:List Nat):Prop where
 op:∀ o∈l,pD o=true
 ac:uU l 0=true
 CS:lH l.toArray (l.take m) 0=true
 tail:∀ k,m<=k->k<l.length->∀ i,i<m->i ∉ p->((jD l []).getD k 0).testBit i=true
 le:m<=l.length
variable {p:List Nat}
theorem AH {l:List Oper} {m:Nat} (h:vj l m p=true):GW l m p:=by
 simp only [vj,Zn,Zaj] at h;obtain ⟨⟨⟨⟨h1,h2⟩,h3⟩,h5⟩,h6⟩:=h;refine ⟨h1,h2,h3,fun k hk aL i hi hne=>?_,by simpa using h6⟩;have:=h5 k (Zbb.2 ⟨hk,by omega⟩) i (ZU.2 hi);rw [ZS] at this;refine this.resolve_left fun h=>hne ?_;obtain ⟨x,hx,hxe⟩:=ZR.1 h;rw [Zad hxe];exact hx
theorem qx {l:List Oper} {m:Nat} (hc:GW l m p) {i j:Nat} {x y:Oper} (zB:i<j) (hj:j<m) (hx:l[i]? = some x) (hy:l[j]? = some y):rf l.toArray x y i=true:=by
 have:=oy hc.CS (i:=i) (j:=j) zB (by rw [ZN,if_pos (by omega)];exact hx) (by rw [ZN,if_pos hj];exact hy);simpa using this
theorem AI {l:List Oper} {m:Nat} (hc:GW l m p) {listed:Array Bool} (hsz:listed.size=l.length) (Bj:DC l (Ls listed)) {i:Nat} (hi:i∈Region.ready .any l.toArray listed) (hm:m<=i):∀ j,j<m->j ∉ p->Ls listed j:=by
 intro j hj hjp;obtain ⟨o,ho,hn,hd⟩:=(eI hsz).1 hi;have aL:i<l.length:=(Zl.1 ho).1;have EX:DC l (fun k=>k=i\/Ls listed k):=by
  intro k ok hk hL e he hb;rcases hL with e' | hL
  ·subst e';rw [ho] at hk;cases hk;exact .inr (hd e he hb)
  ·exact .inr (Bj k ok hk hL e he hb)
 rcases jR EX hc.ac i aL (.inl rfl) j (hc.tail i hm aL j hj hjp) with h | h
 ·omega
 ·exact h
section
variable {P:Program} {c:Cx} {D:List Nat} {sl:aN} {hs:List bd} {Q:Exit->Act->World->Prop} {l:List Oper} {m:Nat}
theorem OP {p:List Nat} (hc:GW l m p) (LG:∀ q∈p,q<m->Fs l q) (hQp:∀ c a w,¬ Q (.panic c) a w) {S:List dd} {qQ:(Nat->Value)->aN} (hpM:xL P c hs l 0 (l.take m) (fun _=>sl) [] S qQ) {a0:Act} (h0:bZ sl a0) (PH:a0.tmps.size=c.nt)
  (tail:∀ β a w,St c D (qQ β) (fh β (fun _=>true) S 0++hs) a w->wpAnyIn (FR none) 0 P .any l.toArray Q (l.length-m) (qU l.length m) a w) :
  ∀ (fuel:Nat) (listed:Array Bool) (a:Act) (w:World),Yc c D hs l m S a0 fuel listed a w->wpAnyIn (FR none) 0 P .any l.toArray Q fuel listed a w:=by
 have hle:=hc.le;have PF:qh sl [] (fun _=>sl) []:=fun β t v hv=>.inr ⟨fun oj h=>(Zo h).elim,hv⟩
 obtain ⟨Ma,_,nn,iY⟩:=hpM.spec (sl:=sl) [] rfl rfl PF;rw [Za] at nn iY;rw [ZF,Zs,Zbf hle] at Ma;have fD:∀ (j:Nat) (o:Oper),j<m->l[j]? = some o->(l.take m)[j]? = some o:=fun j o hj ho=>by rw [ZN,if_pos hj];exact ho
 have ie:∀ (j:Nat) (o:Oper),(l.take m)[j]? = some o->j<m/\l[j]? = some o:=fun j o ho=>by
  rw [ZN] at ho;split at ho
  ·exact ⟨by assumption,ho⟩
  ·cases ho
 have Xp:∀ j,j<m->∃ s,S[j]? = some s:=fun j hj=>⟨S[j]'(by omega),Zc (by omega)⟩
 have pQ:∀ fuel listed a w,Yc c D hs l m S a0 fuel listed a w->(∀ i,i<m->Ls listed i)->wpAnyIn (FR none) 0 P .any l.toArray Q fuel listed a w:=by
  intro fuel listed a w hI fj;have hL:∀ i,i<l.length->(Ls listed i↔i<m):=fun i _=>⟨fun h=>ZZ fun hm=>hI.hi i hm h,fj i⟩
  obtain ⟨U,DY,vB,yA⟩:=hI.left;have jE:U.Perm (List.range' m (l.length-m)):=by
   rw [ZaQ DY (List.nodup_range')];intro i;rw [vB i,Zbb];constructor
   ·rintro ⟨h1,h2⟩;exact ⟨Zbj fun h=>h2 (fj i h),by omega⟩
   ·rintro ⟨h1,h2⟩;exact ⟨by omega,hI.hi i h1⟩
  have hlen:fuel=l.length-m:=by rw [<- yA,jE.length_eq,List.length_range']
  have TX:listed=qU l.length m:=by
   have A8:(qU l.length m).size=l.length:=by simp [qU];omega
   apply Array.ext
   ·rw [hI.sz,A8]
   ·intro i h1 h2;rw [hI.sz] at h1;have h3:=hL i h1;unfold Ls at h3;rw [ZJ,ZaT (by rw [hI.sz];exact h1),Zaq] at h3;have h4:(qU l.length m)[i]=decide (i<m):=by
     simp only [qU,List.getElem_toArray];by_cases hi:i<m
     ·rw [ZaJ (by simpa using hi)];simp [hi]
     ·rw [Zap (by simpa using hi)];simp [hi]
    rw [h4];by_cases hi:i<m
    ·rw [h3.2 hi];simp [hi]
    ·have:¬ listed[i]=true:=fun h=>hi (h3.1 h)
     simp [hi,this]
  subst hlen;rw [TX];obtain ⟨β,hm,pL⟩:=hI.own;have e:fh β (fun i=>listed.getD i false) S 0=fh β (fun _=>true) S 0:=kG fun j s hj=>by
   have kS:j<m:=by have:=(Zl.1 hj).1;omega
   rw [ZF];exact ⟨fj j kS,fun _=>rfl⟩
  rw [e] at hm;refine tail β a w ⟨by rw [Zh];exact hm,fun t v hv=>?_,hI.size,hI.defers⟩;rcases nn β t v hv with ⟨j,oj,s,h1,h2,h3,h4⟩ | ⟨h1,h2⟩
  ·obtain ⟨kS,pP⟩:=ie j oj h1;rw [h4];exact pL j oj t s pP h2 h3 (fj j kS)
  ·rw [hI.F9 t fun j oj hj np=>h1 oj (Z2 (fD j oj (ZZ fun hm=>hI.hi j hm np) hj))]
   exact h0 t v h2
 intro fuel
 induction fuel with
 | zero =>
  intro listed a w hI;obtain ⟨U,_,vB,yA⟩:=hI.left;have hU:U=[]:=Zav.1 yA;refine pQ 0 listed a w hI fun i hi=>Classical.byContradiction fun hn=>?_;have:=(vB i).2 ⟨by omega,hn⟩;rw [hU] at this;cases this
 | succ fuel ih =>
  intro listed a w hI;by_cases fj:∀ i,i<m->Ls listed i
  ·exact pQ _ listed a w hI fj
  ·have hex:∃ i,i<m/\¬ Ls listed i:=Classical.byContradiction fun hh=>fj fun i hi=>Classical.byContradiction fun hn=>hh ⟨i,hi,hn⟩
   obtain ⟨i0,vA,uO⟩:=hex;have main:∀ i,i∈Region.ready .any l.toArray listed->i<m->wpOpIn (FR none) 0 P l.toArray Q i (wpAnyIn (FR none) 0 P .any l.toArray Q fuel (listed.setIfInBounds i true)) a w/\(i∈p->wpAnyIn (FR none) 0 P .any l.toArray Q (fuel+1) listed a w):=by
    intro i hi tH;obtain ⟨o,ho,hn,pR⟩:=(eI hI.sz).1 hi;obtain ⟨d,M7,s,hd,gl,uC,Dc,dP⟩:=iY i o (Zi _) (fD i o tH ho);obtain ⟨EK,EL,B,hB,iE⟩:=dP;obtain ⟨β,hm,pL⟩:=hI.own;have oN:∀ (j:Nat),fG o j=true->Ls listed j:=fun j hw=>by
     obtain ⟨e,he,hb,rN⟩:=eo hw;rw [<- rN];exact pR e he hb
    have EN:∀ (j:Nat),lX l o j=true->Ls listed j:=fun j hw=>by
     unfold lX at hw;rw [ZS] at hw;rcases hw with hw | hw
     ·exact oN j hw
     ·obtain ⟨k,_,hk⟩:=ZR.1 hw;rw [Zn] at hk;have IE:=oN k hk.1;cases hq:l[k]? with
      | none=>rw [hq] at hk;cases hk.2
      | some q =>
       rw [hq] at hk;obtain ⟨e,he,hb,rN⟩:=eo hk.2;rw [<- rN];exact hI.dc k q hq IE e he hb
    have uB:∀ (j:Nat) (oj:Oper) (e:Nat),l[j]? = some oj->j<m->j≠i->oj.dst=some e->d≠e:=by
     intro j oj e hj kS hne he;rcases Zbx j i with h | h
     ·exact fun e'=>(eQ (qx hc h tH hj ho) he hd).1 e'.symm
     ·exact (eQ (qx hc (show i<j by omega) kS ho hj) hd he).1
    have kr:i<listed.size:=by rw [hI.sz];omega
    have HL:pD o=true:=hc.op o (Z2 ho)
    -- DV dw VJ DV operation looks at
    have hT:∀ t∈o.looksAt l.toArray,∀ v,dj (M7 β) t=some v->a.tmps[t]? = some v:=by
     intro t ht v hv;rcases Dc β t v hv with ⟨j,oj,sj,h1,h2,h3,h4⟩ | ⟨h1,h2⟩
     ·have td:j<i:=by have:=(Zl.1 h1).1;rw [Zs] at this;omega
      rw [ZN,if_pos td] at h1 h3;obtain ⟨kS,pP⟩:=ie j oj h1;have np:=oN j ((eQ (qx hc td tH pP ho) h2 hd).2 (.inl ht));rw [h4];exact pL j oj t sj pP h2 h3 np
     ·rw [hI.F9 t fun j oj hj np jG=>?_]
      ·exact h0 t v h2
      ·have kS:j<m:=ZZ fun hm=>hI.hi j hm np
       rcases Zau j i with h | h | h
       ·exact h1 oj (Z2 (by rw [ZN,if_pos h];exact fD j oj kS hj)) jG
       ·subst h;exact hn np
       ·have hw:=(eQ (qx hc h kS ho hj) hd jG).2 (.inr ht);obtain ⟨e,he,hb,rN⟩:=eo hw;have:=hI.dc j oj hj np e he hb;rw [rN] at this;exact hn this
    have Be:∀ t v,dj (M7 β) t=some v->t<c.nt:=by
     intro t v hv;rcases Dc β t v hv with ⟨j,oj,sj,h1,h2,_,_⟩ | ⟨_,h2⟩
     ·have td:j<i:=by have:=(Zl.1 h1).1;rw [Zs] at this;omega
      rw [ZN,if_pos td] at h1;obtain ⟨d',_,_,Bk,Bi,_⟩:=iY j oj (Zi _) h1;rw [h2] at Bk;cases Bk;exact Bi
     ·have:=h0 t v h2;rw [<- PH];exact (Z3.1 this).1
    obtain ⟨a',mz,jU,_⟩:=sP hI.size Be hT;have Bl:kq c hs (S.take i) B β w:=by
     rintro A (rfl | ⟨j,hj,sj,h1,rfl⟩)
     ·exact hm.sublist ((Zbs _ _).trans (Zbo _ _))
     ·have td:j<i:=by have:=(Zl.1 h1).1;rw [Zs] at this;omega
      rw [ZN,if_pos td] at h1;have np:=EN j (hB j hj);exact hm.sublist ((wj (lst:=fun i=>listed.getD i false) (i:=0) h1 (by rw [ZF];exact np)).append (Zbs _ _))
    have hq:=iE β a' w mz Bl;have hex:=kh (o:=o) (ops:=l.toArray) HL jU
    -- VC a done operation aab acr not abY on this one
    have uA:∀ j,Ls listed j->∀ x k,BL l j k=true->β k=Af β i x k:=by
     intro j np x k hk;refine (Ae fun e=>?_).symm;subst e;unfold BL at hk;rw [ZS] at hk;rcases hk with hk | hk
     ·have:j=k:=by simpa using hk
      subst this;exact hn np
     ·have IB:j<l.length:=by
       have kS:j<m:=ZZ fun hm=>hI.hi j hm np
       omega
      exact hn (jR hI.dc hc.ac j IB np k hk)
    have kd:∀ v w',Na i s β w v w'->wpAnyIn (FR none) 0 P .any l.toArray Q fuel (listed.setIfInBounds i true) (a.put o.dst v) w':=by
     rintro v w' ⟨x,rfl,hk,fp,iB,gi,Bg⟩;refine ih _ _ _ ⟨by simpa using hI.sz,?_,?_,by rw [hd];exact hI.defers,by simpa [Act.put,hd] using hI.size,?_,?_,Af β i x,?_,?_⟩
     ·intro k ok xV hL e he hb;rw [dA kr] at hL ⊢;rcases hL with e' | hL
      ·subst e';rw [ho] at xV;cases xV;exact .inr (pR e he hb)
      ·exact .inr (hI.dc k ok xV hL e he hb)
     ·intro k xV hL;rw [dA kr] at hL;rcases hL with e | hL
      ·omega
      ·exact hI.hi k xV hL
     ·intro t ht;have h1:d≠t:=fun e=>by subst e;exact ht i o ho ((dA kr).2 (.inl rfl)) hd
      rw [hd];simp only [Act.put,ZO h1];exact hI.F9 t fun j oj hj hL=>ht j oj hj ((dA kr).2 (.inr hL))
     ·obtain ⟨U,DY,vB,yA⟩:=hI.left;refine ⟨U.erase i,DY.erase i,fun k=>?_,?_⟩
      ·rw [DY.mem_erase_iff,vB k,dA kr];constructor
       ·rintro ⟨h1,h2,h3⟩;exact ⟨h2,fun h=>h.elim h1 h3⟩
       ·rintro ⟨h1,h2⟩;exact ⟨fun e=>h2 (.inl e),h1,fun h=>h2 (.inr h)⟩
      ·have WZ:i∈U:=(vB i).2 ⟨by omega,hn⟩;rw [ZaY WZ,yA];rfl
     ·have me:Mem c (s.A (Af β i x)++(fh β (fun i=>listed.getD i false) S 0++(hs++nF D))) w':=Mem.XC (As:=[]) hm fun rQ _ hf=>by
       rw [show rQ=[] from hf];exact ⟨hk,fp,iB,gi,fun b hb=>.inr (Bg b hb)⟩
      have e1:fh β (fun i=>listed.getD i false) S 0=fh (Af β i x) (fun i=>listed.getD i false) S 0:=kG fun j sj hj=>by
       refine ⟨I,fun hl=>?_⟩;rw [ZF] at hl;have kS:j<m:=by have:=(Zl.1 hj).1;omega
       obtain ⟨oj,PG⟩:∃ oj,l[j]? = some oj:=⟨l[j]'(by omega),Zc (by omega)⟩;obtain ⟨_,_,s2,_,_,hs2,_,Bc⟩:=iY j oj (Zi _) (fD j oj kS PG);rw [hj] at hs2;cases hs2;exact Bc.EL _ _ (uA j hl x)
      rw [e1,<- Zh] at me;refine me.perm ((wu (k:=i) uC ?_ ?_ ?_).append_right _)
      ·rw [ZF];show listed.getD i false=false;have:¬ listed.getD i false=true:=hn;simpa using this
      ·rw [ZF];exact (dA kr).2 (.inl I)
      ·intro j hj;rw [ZF] at hj;simp [ZJ,ZO (Ne.symm hj)]
     ·intro j oj e sj hj he lu hL;rw [dA kr] at hL;by_cases td:j=i
      ·subst td;rw [ho] at hj;cases hj;rw [hd] at he;cases he;rw [uC] at lu;cases lu;rw [hd];simp [Act.put,hI.size,gl]
      ·have Gs:=hL.resolve_left td;have kS:j<m:=ZZ fun hm=>hI.hi j hm Gs
       obtain ⟨_,_,s2,_,_,hs2,_,Bc⟩:=iY j oj (Zi _) (fD j oj kS hj);rw [lu] at hs2;cases hs2;rw [hd];simp only [Act.put,ZO (uB j oj e hj kS td he)];rw [<- Bc.EK _ _ (uA j Gs x)];exact pL j oj e sj hj he lu Gs
    have YE:=hq;refine ⟨?_,fun Vf=>?_⟩
    rotate_left
    ·obtain ⟨d',x',k',ty',pos',af',EU,aaP,fA⟩:=LG i Vf tH;rw [ho] at EU;cases EU;rw [if_pos (by simp [Region.wanted])] at YE;unfold qT at YE;obtain ⟨v,hv,L7⟩:=Mi YE;have Bg:Region.free .any l.toArray listed i=true:=HX fA fun j hj hne hb=>by
      have pP:j<l.length:=by simpa using hj
      have dQ:((jD l []).getD i 0).testBit j=true:=by
       rw [ZJ] at hb;simpa [pP] using hb
      have hjs:j<listed.size:=by rw [hI.sz];exact pP
      rcases Hp hc.ac hI.sz hI.dc hi dQ with e | hL
      ·exact absurd e hne
      ·unfold Ls at hL;rw [ZJ,ZaT hjs] at hL ⊢;exact hL
     refine wpAnyIn_take (oi:=⟨some d',.extract x' k',ty',pos',af',none⟩) (v:=v) I (by simpa using ho) aaP Bg (by simpa using hi) (fun c a w h=>(hQp c _ w h).elim) ⟨.inl ⟨by simp [Region.wanted],fun w2=>by rw [<- hex];exact L7 w2⟩,fun w2=>rfl⟩ (kd v w hv)
    unfold wpOpIn;rw [show l.toArray[i]? = some o from by simpa using ho];simp only [];rw [j4 jU] at hq;split
    ·rename_i hw;rw [if_pos hw] at hq;refine ⟨eh _ _ _ _ _,?_⟩;rw [Oper.semAt_eq _ _ _ (fun cc he=>by simp [pD,he] at HL),<- hex]
     unfold qT at hq
     revert hq
     generalize (execOp a'.eval o).run P w=res;intro hq
     match res,hq with
     | .ok (.value v) w',hq=>exact kd v w' hq
     | .ok (.enter f args) w', ⟨e, cV⟩ =>
      subst e;refine ⟨by simp [FR,Fence.wide],(jN cV).mono fun e z8 h=>?_⟩;obtain ⟨v,rfl,hq⟩:=h;exact kd v z8 hq
    ·rename_i hw;rw [if_neg hw] at hq;exact ⟨fun _ _=>trivial,kd undef w hq⟩
   by_cases hp:∃ q,q∈p/\q<m/\q∈Region.ready .any l.toArray listed
   ·obtain ⟨q,o8,my,uw⟩:=hp;exact (main q uw my).2 o8
   ·refine ⟨fun hr=>?_,fun i hi=>?_⟩
    ·obtain ⟨i,hi⟩:=k8 hI.sz hc.ac ⟨i0,by omega,uO⟩;rw [hr] at hi;cases hi
    ·have tH:i<m:=ZZ fun hm=>by
      have Vc:=AI hc hI.sz hI.dc hi hm;have L7:∀ q,q<m->Ls listed q:=by
       intro q
       induction q using Nat.strongRecOn with
       | _ q ih =>
        intro WC;by_cases PD:q∈p
        ·by_cases hLq:Ls listed q
         ·exact hLq
         ·refine absurd ⟨q,PD,WC,(eI hI.sz).2 ⟨l[q]'(by omega),Zc (by omega),hLq,fun e he hb=>?_⟩⟩ hp;have aL:=lV hc.ac (Zc (show q<l.length by omega)) e he hb;exact ih e.on (by omega) (by omega)
        ·exact Vc q WC PD
      exact uO (L7 i0 vA)
     exact (main i hi tH).1
theorem kF {id:Nat} (m:Nat) (p:List Nat) [sD:UQ P] (fP:vj l m p=true) (LG:∀ q∈p,Fs l q) (k:qi P c D hs l Q m 0 m l (fun _=>sl) []):Tr c D sl hs (WP P none (.region id l.toArray true) Q):=fun a w bb=>by
 obtain ⟨S,qQ,hp,ht⟩:=k;have h:(Code.region id l.toArray true).wpIn (FR none) 0 P (NP Q) a w:=wpIn_region_any sD.eq (by
  refine OP (p:=p) (AH fP) (fun q hq _=>LG q hq) (fun c a w h=>h.elim) hp bb.dw bb.size (fun β a w bb=>ht β a w bb) l.toArray.size _ _ _ ⟨by simp,?_,?_,bb.defers,bb.size,fun t _=>rfl,?_,fun _=>undef,?_,?_⟩
  ·exact fun k o _ hL=>absurd hL (gQ _ _)
  ·exact fun k _ hL=>gQ _ _ hL
  ·exact ⟨List.range l.length,ZbD,fun i=>⟨fun h=>⟨by simpa using h,gQ _ _⟩,fun h=>by simpa using h.1⟩,by simp⟩
  ·have e:∀ (T:List dd) (i:Nat),fh (fun _=>undef) (fun i=>(Array.replicate l.toArray.size false).getD i false) T i=[]:=by
    intro T
    induction T with
    | nil=>intro i;rfl
    | cons s T ih =>
     intro i;have:=gQ l.toArray.size i;unfold Ls at this;unfold fh;rw [if_neg this,ih];rfl
   rw [e];exact bb.mem.drew
  ·exact fun j o d s _ _ _ hL=>absurd hL (gQ _ _))
 exact wpIn_mono h fun e a' w' h=>by
  cases e with
  | panic c=>exact h.elim
  | _=>exact h
end
theorem lG {l:List Oper} {p d k:Nat} {x:Operand} {ty:TypeId} {pos:String} {af:Array Edge} (h:l[p]? = some ⟨some d,.extract x k,ty,pos,af,none⟩) (h2:Region.noSelect l.toArray=true) (h3:Region.free .any l.toArray ((List.range l.length).map fun j=>((jD l []).getD p 0).testBit j).toArray p=true):Fs l p:=⟨d,x,k,ty,pos,af,h,h2,h3⟩
theorem dL {P:Program} {c:Cx} {D:List Nat} {sl:aN} {hs:List bd} {Q:Exit->Act->World->Prop} {l:List Oper} {id:Nat} (m:Nat) [sD:UQ P] (fP:vj l m []=true) (k:qi P c D hs l Q m 0 m l (fun _=>sl) []):Tr c D sl hs (WP P none (.region id l.toArray true) Q):=kF m [] fP (fun _ h=>absurd h Zo) k
end Go.SL
namespace Go.SL
open Go
def eu:Value->Nat
 | .int _ n=>n.toNat
 | _=>0
theorem qC (b:Nat):eu (.q (b:Int))=b:=by simp [eu]
def uD:Value->Option Addr×Nat
 | .slice a _ c=>(a,c)
 | _=>(none,0)
theorem Uq (x:Option Addr×Nat):∃ v,uD v=x:=⟨.slice x.1 0 x.2,I⟩
theorem a8.slice {P:Program} {f:FuncId} {args:List Value} {w:World} {md:List Nat} {E:TypeId} {sz n:Nat} {xs:List Value} (h:a8 P f args w md (fun _:Value=>True) id (fun v=>[row E sz v n xs])) :
  a8 P f args w md (fun _:Option Addr×Nat=>True) (fun x=>.slice x.1 n x.2) (fun x=>[row E sz (.slice x.1 n x.2) n xs]):=
 Calls.mono h fun e w' ⟨v,he,_,hk,fp,hn,hs,hf⟩=>by
  have hv:∃ x:Option Addr×Nat,v=.slice x.1 n x.2:=by
   obtain ⟨f1,f2,_,⟨_,_,⟨e1,e2⟩ | ⟨g,cap,cur,e1,_⟩⟩,_⟩:=hs
   ·exact ⟨(none,0),by rw [e1,e2]⟩
   ·exact ⟨(_,cap),e1⟩
  obtain ⟨x,rfl⟩:=hv;exact ⟨x,he,trivial,hk,fp,hn,hs,hf⟩
def dW (β:Nat->Value):List dd->List bd
 | []=>[]
 | s::S=>s.A β++dW β S
theorem CM (β:Nat->Value):∀ (S:List dd) (i:Nat),fh β (fun _=>true) S i=dW β S
 | [],_=>rfl
 | s::S,i=>by rw [fh,dW,if_pos rfl,CM β S]
section
variable {P:Program} {c:Cx} {D:List Nat} {sl:aN} {hs hs':List bd} {X:Act->World->Prop} {Q:Exit->Act->World->Prop} {l:List Oper} {m i n d:Nat} {op:Op} {ty:TypeId} {pos:String} {af:Array Edge} {rest:List Oper} {SL:(Nat->Value)->aN} {S:List dd}
theorem iw (l:List Oper) (i:Nat):BL l i i=true:=by simp [BL]
theorem sU {o:Oper} {s:dd} (hd:o.dst=some d) (gl:Nat.blt d c.nt=true) (h:Fo P c hs l i o SL S s) (k:qi P c D hs l Q m (i+1) n rest (fun β=>(d,s.F β)::SL β) (S++[s])):qi P c D hs l Q m i (n+1) (o::rest) SL S:=by
 obtain ⟨S',qQ,hp,ht⟩:=k;exact ⟨S',qQ,.step hd (by simpa [Z8] using gl) h.toT hp,ht⟩
variable {F:(Nat->Value)->Value} {want:Bool}
theorem dp {dst:Option Tmp} {j gs:Nat} (hj:((l.toArray[j]?).bind (·.dst))=some gs) (hq:∀ β,dj (SL β) gs=some (.bool want))
  (k:qi P c D hs l Q m i (n+1) (⟨dst,op,ty,pos,af,none⟩::rest) SL S):qi P c D hs l Q m i (n+1) (⟨dst,op,ty,pos,af,some (j,want)⟩::rest) SL S:=by
 obtain ⟨S',qQ,hp,ht⟩:=k;refine ⟨S',qQ,?_,ht⟩;cases hp with
 | step hd gl h t =>
  obtain ⟨h1,h2,B,hB,hr⟩:=h;refine .step hd gl ⟨h1,h2,B,hB,fun β a w hs1 hb=>?_⟩ t;have:=hr β a w hs1 hb;rw [if_pos (by simp [Region.wanted])] at this;rw [lR (o:=⟨dst,op,ty,pos,af,some (j,want)⟩) (c0:=true) I hj hs1 (by rw [hq β];rfl),if_pos (by simp)];exact this
theorem dY {j gs:Nat} {v:Value} (hj:((l.toArray[j]?).bind (·.dst))=some gs) (hq:∀ β,dj (SL β) gs=some v) (hv:v=undef\/v=.bool (!want)) (hd:Nat.blt d c.nt=true)
  (k:qi P c D hs l Q m (i+1) n rest (fun β=>(d,undef)::SL β) (S++[⟨fun _=>undef,fun _=>[]⟩])):qi P c D hs l Q m i (n+1) (⟨some d,op,ty,pos,af,some (j,want)⟩::rest) SL S:=
 sU (s:=⟨fun _=>undef,fun _=>[]⟩) I hd ⟨fun _ _ _=>rfl,fun _ _ _=>rfl,[],by simp,fun β a w h1 h2=>by
  have hw:∃ c0 q,gv c0 (.bool q)=v/\(c0&&(q==want))=false:=by
   rcases hv with e | e
   ·exact ⟨false,want,by rw [e];rfl,I⟩
   ·exact ⟨true,!want,by rw [e];rfl,by cases want <;> rfl⟩
  obtain ⟨c0,q,e,Vj⟩:=hw;rw [lR (o:=⟨some d,op,ty,pos,af,some (j,want)⟩) (c0:=c0) (q:=q) I hj h1 (by rw [hq β,e]),if_neg (by simpa using Vj)];exact ⟨β i,I,.refl _ _,[],Zao,I,by simp⟩⟩ k
theorem eN (k:∀ β,Tr c D (SL β) (dW β S++hs) (Left P l.toArray Q (l.length-m) (qU l.length m))):qi P c D hs l Q m i 0 rest SL S:=
 ⟨S,SL,.nil,fun β=>by rw [CM];exact k β⟩
theorem au (hr:∀ β,du P c (SL β) hs ⟨some d,op,ty,pos,af,none⟩ (F β)) (hi:oT l i F) (hd:Nat.blt d c.nt=true) (k:qi P c D hs l Q m (i+1) n rest (fun β=>(d,F β)::SL β) (S++[⟨F,fun _=>[]⟩])) :
  qi P c D hs l Q m i (n+1) (⟨some d,op,ty,pos,af,none⟩::rest) SL S:=
 sU (s:=⟨F,fun _=>[]⟩) I hd ⟨hi,fun _ _ _=>rfl,[],by simp,fun β a w h1 h2=>by
  rw [if_pos (by simp [Region.wanted])];unfold qT;rw [(hr β).2 a w h1 h2.mem];exact ⟨β i,by rw [vN],.refl _ _,[],Zao,I,by simp⟩⟩ k
theorem cj {f:FuncId} {args:(Nat->Value)->List Value} (B:List Nat) (hB:(B.all fun j=>fG ⟨some d,op,ty,pos,af,none⟩ j)=true) (hr:∀ β,mH P (SL β) ⟨some d,op,ty,pos,af,none⟩ f (args β)) (hi:oT l i F) (hd:Nat.blt d c.nt=true)
  (hc:∀ β w,kq c hs S B β w->an P f (args β) w (F β)) (k:qi P c D hs l Q m (i+1) n rest (fun β=>(d,F β)::SL β) (S++[⟨F,fun _=>[]⟩])) :
  qi P c D hs l Q m i (n+1) (⟨some d,op,ty,pos,af,none⟩::rest) SL S:=
 sU (s:=⟨F,fun _=>[]⟩) I hd ⟨hi,fun _ _ _=>rfl,B,fun j hj=>Zaj.1 hB j hj,fun β a w h1 h2=>by
  rw [if_pos (by simp [Region.wanted])];unfold qT;rw [(hr β).2 a w h1];exact ⟨I,(hc β w h2).mono fun e w' ⟨he,hk⟩=>⟨F β,he,β i,by rw [vN],hk,[],Zao,I,by simp⟩⟩⟩ k
theorem dZ {ι:Type} {Φ:ι->Prop} {val:ι->Value} {own:ι->List bd} (g:Value->ι) (hg:∀ x,∃ v,g v=x) {f:FuncId} {args:(Nat->Value)->List Value} (B:List Nat) (hB:(B.all fun j=>fG ⟨some d,op,ty,pos,af,none⟩ j)=true)
  (hr:∀ β,mH P (SL β) ⟨some d,op,ty,pos,af,none⟩ f (args β)) (hd:Nat.blt d c.nt=true) (hc:∀ β w,kq c hs S B β w->a8 P f (args β) w [] Φ val own)
  (k:qi P c D hs l Q m (i+1) n rest (fun β=>(d,val (g (β i)))::SL β) (S++[⟨fun β=>val (g (β i)),fun β=>own (g (β i))⟩])) :
  qi P c D hs l Q m i (n+1) (⟨some d,op,ty,pos,af,none⟩::rest) SL S:=
 sU (s:=⟨fun β=>val (g (β i)),fun β=>own (g (β i))⟩) I hd ⟨fun β β' h=>by simp only [h i (iw l i)],fun β β' h=>by simp only [h i (iw l i)],B,fun j hj=>Zaj.1 hB j hj,fun β a w h1 h2=>by
  rw [if_pos (by simp [Region.wanted])];unfold qT;rw [(hr β).2 a w h1];refine ⟨I,(hc β w h2).mono fun e w' ⟨x,he,_,hk,fp,hn,hs',hf⟩=>?_⟩;obtain ⟨v,hv⟩:=hg x;refine ⟨val x,he,v,by simp only [jo,hv],hk,fp,hn,by simp only [jo,hv];exact hs',fun b hb=>?_⟩;rcases hf b hb with h | h
  ·cases h
  ·exact h⟩ k
theorem iG {V:Nat->Value} {ob:(Nat->Value)->Obj} (hr:∀ β,qR P c (SL β) hs ⟨some d,op,ty,pos,af,none⟩ V (ob β)) (hi:∀ β β',(∀ k,k≠i->BL l i k=true->β k=β' k)->ob β=ob β') (hd:Nat.blt d c.nt=true)
  (k:qi P c D hs l Q m (i+1) n rest (fun β=>(d,V (eu (β i)))::SL β) (S++[⟨fun β=>V (eu (β i)),fun β=>[bu (eu (β i)) (ob β)]⟩])) :
  qi P c D hs l Q m i (n+1) (⟨some d,op,ty,pos,af,none⟩::rest) SL S:=
 sU (s:=⟨fun β=>V (eu (β i)),fun β=>[bu (eu (β i)) (ob β)]⟩) I hd ⟨fun β β' h=>by simp only [h i (iw l i)],fun β β' h=>by simp only [h i (iw l i),hi β β' fun k _ hk=>h k hk],[],by simp,fun β a w h1 h2=>by
  rw [if_pos (by simp [Region.wanted])];unfold qT;rw [(hr β).2 a w h1 h2.mem];have e:ob (Af β i (.q (w.heap.size:Int)))=ob β:=hi _ _ fun k hk _=>Ae hk
  exact ⟨.q (w.heap.size:Int),by simp only [jo,qC],.alloc _ _ _,[w.heap.size],by simp,⟨[w.heap.size],[],I,⟨by simp only [jo,qC],by simp only [jo,qC];rw [e];exact World.alloc_heap_new w (ob β)⟩,I⟩,by simp⟩⟩ k
end
end Go.SL
namespace Go.SL
open Go
section
variable {P:Program} {c:Cx} {sl:aN} {hs:List bd} {dst:Option Tmp} {ty:TypeId} {pos:String} {af:Array Edge} {g:Option (Nat×Bool)}
theorem dM {x:Operand} {a:Addr} (hx:Is sl x (.pointer (some a))):du P c sl hs ⟨dst,.nilCheck x,ty,pos,af,g⟩ (.pointer (some a)):=
 ⟨by simp,fun ac w ha _=>by simp [execOp,hx ac ha]⟩
end
section
variable {P:Program} {c:Cx} {D:List Nat} {hs:List bd} {Q:Exit->Act->World->Prop} {l:List Oper} {m i n d:Nat} {op:Op} {ty:TypeId} {pos:String} {af:Array Edge} {rest:List Oper} {SL:(Nat->Value)->aN} {S:List dd}
theorem dH {v:Value}:oT l i (fun _=>v):=fun _ _ _=>rfl
end
section
variable {P:Program} {c:Cx} {D:List Nat} {sl:aN} {hs:List bd} {Q:Exit->Act->World->Prop} {ops:Array Oper} {fuel:Nat} {listed:Array Bool}
end
section
variable {P:Program} {r:Option Nat} {c:Cx} {D:List Nat} {sl:aN} {hs:List bd} {Q:Exit->Act->World->Prop} {ops:Array Oper} {fuel i:Nat} {listed:Array Bool}
def zV (P:Program) (r:Option Nat) (ops:Array Oper) (Q:Exit->Act->World->Prop) (fuel:Nat) (listed:Array Bool):Act->World->Prop:=wpAnyIn (FR r) 0 P .any ops (NP Q) fuel listed
def R7 (P:Program) (r:Option Nat) (c:Cx) (D:List Nat) (sl:aN) (hs:List bd) (ops:Array Oper) (Q:Exit->Act->World->Prop) (fuel:Nat) (listed:Array Bool) (i:Nat):Prop:=
 ∀ a w,St c D sl hs a w->wpOpIn (FR r) 0 P ops (NP Q) i (zV P r ops Q fuel (listed.setIfInBounds i true)) a w
theorem ui {rs:List Nat} (hr:Region.ready .any ops listed=rs) (hne:rs≠[]) (h:∀ i∈rs,R7 P r c D sl hs ops Q fuel listed i):Tr c D sl hs (zV P r ops Q (fuel+1) listed):=fun a w bb=>
 wpAnyIn_all hr hne fun i hi=>h i hi a w bb
theorem wI {d:Option Tmp} {op:Op} {ty:TypeId} {pos:String} {af:Array Edge} {g:Option (Nat×Bool)} (hi:ops[i]? = some ⟨d,op,ty,pos,af,g⟩) (h:Tr c D sl hs (WL P r ops (Exit.then (zV P r ops Q fuel (listed.setIfInBounds i true)) (NP Q)) [⟨d,op,ty,pos,af,g⟩])):R7 P r c D sl hs ops Q fuel listed i:=fun a w bb=>by
 have h1:=h a w bb;unfold wpOpIn;simp only [hi];unfold WL at h1;split
 ·rename_i hw;rw [if_pos hw] at h1;exact Oper.vL (fun a w h=>h) (fun c a w h=>h) (fun h=>h) h1
 ·rename_i hw;rw [if_neg hw] at h1;exact ⟨fun _ _=>trivial,h1⟩
theorem wU (hr:Region.ready .any ops listed=[]) (k:Tr c D sl hs (Q .normal)):Tr c D sl hs (zV P r ops Q fuel listed):=fun a w bb=>
 wpAnyIn_done (Q:=NP Q) hr (k a w bb) fuel
end
end Go.SL
namespace Go.SL
open Go
variable {P:Program} {c:Cx} {sl:aN} {hs:List bd} {dst:Option Tmp} {ty:TypeId} {pos:String} {af:Array Edge} {g:Option (Nat×Bool)}
end Go.SL
namespace Go.SL
open Go
section
variable {P:Program} {c:Cx} {sl:aN} {hs:List bd} {dst:Option Tmp} {ty:TypeId} {pos:String} {af:Array Edge} {g:Option (Nat×Bool)}
theorem zg {t e:TypeId} {m n:Nat} {agg:Bool} {x:Operand} {b o:Nat} [hu:iI P t (.array m e)] [hT:Ty P e agg n] (hx:Is sl x (.pointer (some ⟨b,o,none⟩))) :
  du P c sl hs ⟨dst,.slice t x none none none,ty,pos,af,g⟩ (.slice (some ⟨b,o,none⟩) m m):=
 ⟨by simp,fun ac w ha _=>by
  simp only [execOp,hx ac ha,Option.map];refine value_of ?_;simp [Instr.sliceAt,aX hu.eq,Instr.sureAddr,Instr.sliceBounds,gj (t:=e) (agg:=agg) (n:=n),eO]⟩
end
end Go.SL
namespace Go.Proofs.A1
open Go Go.SL
open Tryz
open Tryz renaming prog->T_
theorem Q5 (x:Int) (w:World):an T_ 342 [.q x] w (.bool false):=by
 refine aj func342 I I ?_;refine Jr<|Ja I<|Ji<|Jv I<|Jv I<|JD I<|Ja I<|Jn<|Je<|JT ?_;simp
theorem DA (x y:Int) (w:World):an T_ 300 [.q x,.q y] w (.q (lx x y)):=by
 refine aj func300 I I ?_
 (refine Jr<|Ja I<|Ji<|Jv I<|ah bJ I (fun w' aB=>(Q5 x w'))<|Ja I<|Ji<|Jv I<|ah bJ I (fun w' aB=>(Q5 y w'))<|Ja I<|Jn<|Jq<|Jr<|Jv I<|Jn<|cd (.of I)<|Jk<|Jq<|Jr<|Jv I<|Jn<|cd (.of I)<|Jk<|Jq<|Jr<|Jv I<|Jv I<|JA I<|Jn<|gL I (fun aA=>?_) fun aA=>?_;refine Jr<|Ja I<|Jn<|Ju<|JT ?_;rotate_left;refine Jk<|Jq<|Jr<|Jv I<|Jv I<|JE I<|Jn<|gL I (fun aA=>?_) fun aA=>?_;refine Jr<|Ja I<|Jn<|Ju<|JT ?_;rotate_left;refine Jk<|Jr<|Ja I<|Jn<|Je<|JT ?_;rotate_right;rotate_right)
 ·rw [lx,if_pos aA]
 ·rename_i h1;rw [lx,if_neg h1,if_pos aA]
 ·rename_i h1;rw [lx,if_neg h1,if_neg aA]
variable {w:World}
theorem V4 {lv:Value} {l:List Int} (h:Rd w lv 1 (ints l)):an T_ 319 [lv] w (.q (aY l)):=by
 obtain ⟨a,cp,b,o,rfl,dC,ch,ha,hc⟩:=h;rw [dz] at *;unfold maxLen at ch;refine aj func319 I I ?_;refine Jr<|Ja I<|Ji<|Ja I<|Jn<|Jq<|Jr<|Jv I<|JI I<|Jv I<|Jn<|J0 ?_;refine aV (fun k:Nat=>k<=l.length/\aY l=aY (l.drop k)) (fun k=>[(8,.int .i64 k),(7,.int .i64 l.length),(6,.slice a l.length cp),(3,.int .i64 0)]) (fun _=>[]) (fun k=>l.length-k) ?_ ?_
 ·apply aH 0 ⟨Zi _,I⟩
  case hs1=>exact bT
  case ht=>(try simp only [Ze,Zf,Za]);exact .nil
 rintro k ⟨hk,hf⟩;by_cases aL:k<l.length
 ·have cY:=ha (kc aL);have c0:w.cell? ⟨b,o+k*1,none⟩=some (.q l[k]):=(hc k _ (iV aL)).2 0 _ I;have fZ:=tN aL
  (refine Jr<|JA I<|Jn<|Jq<|Jd I fun aA=>Jk<|Jq<|J0<|Jr<|ab (gE cY aA) I<|ab (ag (.of I) (At.base c0 I)) I<|Ja I<|Ji<|Jv I<|Jv I<|JD I<|Jn<|gL I (fun aA=>?_) fun aA=>?_;refine Jr<|Jv I<|Ja I<|Jn<|Je<|Jm<|Jh<|Jh<|Jm<|Jh<|JT ?_;rotate_left;refine Jw<|Jj<|Jt<|Jg<|JB I (by omega)<|Jv I<|Jn ?_;rotate_right)
  ·rw [hf,fZ,if_pos aA]
  ·apply aG (k+1) ⟨by omega,by rw [hf,fZ,if_neg aA]⟩ (by omega)
   case hs1=>exact bT
   case ht=>(try simp only [Ze,Zf,Za]);exact .nil
 ·rw [List.drop_eq_nil_of_le (by omega)] at hf;refine Jr<|JA I<|Jn<|Jq<|Jc I fun aA=>Jp<|Jl<|Jo<|Jt<|Jr<|Jv I<|Ja I<|Jn<|Je<|JT ?_;rw [hf];rfl
theorem zN {lv mv:Value} {l m:List Int} (h:Rd w lv 1 (ints l)) (h':Rd w mv 1 (ints m)):an T_ 236 [lv,mv] w (.q (mG l m)):=by
 obtain ⟨a,cp,b,o,rfl,dC,ch,ha,hc⟩:=h;rw [dz] at *;obtain ⟨a',Vv,b',o',rfl,oP,Rm,cY,YS⟩:=h';rw [dz] at *;unfold maxLen at ch Rm;refine aj func236 I I ?_;refine Jr<|Ja I<|Jn<|Jq<|Jr<|Jv I<|JI I<|Jv I<|Jn<|J0 ?_;refine aV (fun k:Nat=>k<=l.length/\k<=m.length/\mG l m=mG (l.drop k) (m.drop k)) (fun k=>[(11,.int .i64 k),(10,.int .i64 l.length),(9,.slice a l.length cp),(0,.slice a l.length cp),(1,.slice a' m.length Vv)]) (fun _=>[]) (fun k=>l.length-k) ?_ ?_
 ·apply aH 0 ⟨Zi _,Zi _,I⟩
  case hs1=>exact bT
  case ht=>(try simp only [Ze,Zf,Za]);exact .nil
 rintro k ⟨hk,xV,hf⟩;by_cases aL:k<l.length
 ·have mz:=ha (kc aL);have c0:w.cell? ⟨b,o+k*1,none⟩=some (.q l[k]):=(hc k _ (iV aL)).2 0 _ I;by_cases ke:k<m.length
  ·have jU:=cY (kc ke);have c1:w.cell? ⟨b',o'+k*1,none⟩=some (.q m[k]):=(YS k _ (iV ke)).2 0 _ I;have fZ:=H5 aL ke
   (refine Jr<|JA I<|Jn<|Jq<|Jd I fun aA=>Jk<|Jq<|J0<|Jr<|Jv I<|ab (gE mz aA) I<|ab (ag (.of I) (At.base c0 I)) I<|Ja I<|Ja I<|Jn<|Jq<|Jr<|Jv I<|Jv I<|JI I<|JG I<|Jn<|Jc I fun aA=>Jk<|Jr<|Jv I<|Jv I<|ab (ao (.of I) (.of I) jU (by omega) (by omega) aW) I<|ab (ag (.of I) (At.base c1 I)) I<|Ja I<|Ji<|Jv I<|Jv I<|ah bn I (fun w' aB=>(DA _ _ w'))<|Ja I<|Ji<|Jv I<|JD I<|Jn<|gL I (fun aA=>?_) fun aA=>?_;refine Jr<|Jv I<|Ja I<|Jn<|Je<|Jm<|Jh<|Jh<|Jm<|Jh<|JT ?_;rotate_left;refine Jw<|Jj<|Jt<|Jg<|JB I (by omega)<|Jv I<|Jn ?_;rotate_right)
   ·rw [hf,fZ,if_pos aA]
   ·apply aG (k+1) ⟨by omega,by omega,by rw [hf,fZ,if_neg aA]⟩ (by omega)
    case hs1=>exact bT
    case ht=>(try simp only [Ze,Zf,Za]);exact .nil
  ·rw [Zt aL,List.drop_eq_nil_of_le (show m.length<=k by omega)] at hf
   (refine Jr<|JA I<|Jn<|Jq<|Jd I fun aA=>Jk<|Jq<|J0<|Jr<|Jv I<|ab (gE mz aA) I<|ab (ag (.of I) (At.base c0 I)) I<|Ja I<|Ja I<|Jn<|Jq<|Jr<|Jv I<|Jv I<|JI I<|JG I<|Jn<|Jd I fun aA=>Jr<|Ja I<|Jn<|Ju<|Jm<|Jh<|Jh<|Jm<|Jh<|JT ?_)
   rw [hf];rfl
 ·rw [List.drop_eq_nil_of_le (show l.length<=k by omega),Mz,ZaU] at hf;by_cases ke:k<m.length
  ·rw [if_pos (by omega)] at hf;refine Jr<|JA I<|Jn<|Jq<|Jc I fun aA=>Jp<|Jl<|Jo<|Jt<|Jq<|Jr<|Jv I<|JI I<|Jv I<|JI I<|JA I<|Jn<|Jd I fun aA=>Jr<|Ja I<|Jn<|Ju<|JT ?_;rw [hf]
  ·rw [if_neg (by omega)] at hf;refine Jr<|JA I<|Jn<|Jq<|Jc I fun aA=>Jp<|Jl<|Jo<|Jt<|Jq<|Jr<|Jv I<|JI I<|Jv I<|JI I<|JA I<|Jn<|Jc I fun aA=>Jk<|Jr<|Ja I<|Jn<|Je<|JT ?_;rw [hf]
def oU (r:Ro) (x:Ti):Int:=aY [fL r x.fr,fL r x.to,bL (decide (x.fr=x.to)) 24]
theorem Qq {r:Ro} {s d t p:Value} (x:Ti) {w w1:World} (h:RR w1 r s d t p):an T_ 145 [RA r s d t p,.agg x.cells.toArray] w (.q (oU r x)):=by
 obtain ⟨h1,h2,h3,h4⟩:=h.one;have W1:∀ m w',an T_ 136 [.agg #[.int .i64 r.lv,.int .i64 r.ma,s,d,t,p],.int .i64 m] w' (.int .i64 (fL r m)):=fun m w'=>Gq m h
 unfold RA Ti.cells;refine aj func145 I I ?_
 (refine Jr<|Jy I I fun _ _=>Jy I I fun _ _=>Ja I<|Ji<|bD I I ae<|JL I .here I<|bD I I ae<|JL I .here I<|ab (aU (.o I (.o I .nil)) ai) I<|Jz I I fun _ _=>ak (.of I) (.of I) .here I I (ix I I) (br I) ai<|Jn<|Jq ?_)
 with_reducible refine db 17 (by kernel_rfl) ?_
 (refine az (bU bE) I<|az lP I<|az (gn (.there .here)) I<|aZ bn I (fun w' aB=>(W1 _ w'))<|az (bU bE) I<|az lP I<|az (gn (.there .here)) I<|aZ bn I (fun w' aB=>(W1 _ w'))<|az (bU .here) I<|az lP I<|az (gn (.there .here)) I<|az lP I<|az (gn (.there .here)) I<|az (aU (.o I (.o I .nil)) ai) I<|az (vi (.of I) (.of I) (kQ (kQ mQ)) I) I<|aZ bn I (fun w' aB=>(ef _ 24 w'))<|eM (aD (.o I (.o I (.o I .nil))) I I I I) I I ?_)
 with_reducible refine dI I fun bq mV=>?_
 (refine ah bJ I (fun w' aB=>(dV (Mem.dy aB .here I I) (cr.cons (cr.cons (cr.cons cr.nil)))))<|Ja I<|Jn<|Je<|JT ?_)
 have e:(decide True&&(decide (x.to=x.fr)&&true))=decide (x.fr=x.to):=by
  rw [ZaS];simp [eq_comm]
 unfold oU;rw [<- e]
theorem oe {P:Program} {c:Cx} {sl:aN} {hs:List bd} {dst:Option Tmp} {ty:TypeId} {pos:String} {af:Array Edge} {g:Option (Nat×Bool)} {t kt et:TypeId} {x y:Operand} {b:Nat} {k:ByteArray} {l:List (ByteArray×Value)} {z V:Value} [hu:iI P t (.map kt et)] [HO:iI P kt .string] [hz:mA P et z]
  (hx:Is sl x (.map (some b))) (hy:Is sl y (.string k)) (hl:Looks c hs b (fun s:ByteArray=>Value.string s) l) (e:(eS k l).getD z=V) :
  du P c sl hs ⟨dst,.lookup t x y true,ty,pos,af,g⟩ (.tuple #[V,.bool (eS k l).isSome]):=e ▸ Ep Lk hx hy hl
theorem KS {r:Ro} (hd:DT r) (s:ByteArray):∃ (a b c:Int) (one:Bool),(eS s (om r)).getD (kZ 0 0 0)=kZ a b c/\(eS s (om r)).isSome=one/\(one=true->a=eE r s/\b=k6 r s/\c=kD r s)/\(one=false->k6 r s<0/\kD r s<0):=by
 rw [oo hd];cases h:eZ (dh r) s with
 | true=>exact ⟨_,_,_,true,rfl,rfl,fun _=>⟨rfl,rfl,rfl⟩,fun h=>by cases h⟩
 | false =>
  refine ⟨0,0,0,false,I,I,(fun h=>by cases h),fun _=>?_⟩;have hn:s ∉ dh r:=fun hm=>by rw [fE.2 hm] at h;cases h
  unfold dh at hn;rw [Zz,Zz,not_or,not_or] at hn;have e1:=cJ.2 hn.1.1;have e2:=cJ.2 hn.1.2;have e3:=cJ.2 hn.2;unfold k6 kD;rw [if_neg (by omega),if_neg (by omega),if_neg (by omega),if_neg (by omega)];omega
def nk (r:Ro) (x:Po):Int:=aY [gX x.lv 0 (r.lv-1),bL (decide (k6 r x.ou<0)) 10,bL (decide (kD r x.ip<0)) 10,bL (decide (k6 r x.ou≠kD r x.ip)) 24]
def Fh (r:Ro):Option Po->List Int
 | none=>[-1,-1]
 | some x=>[x.lv,eE r x.ou]
def Hv (r:Ro) (po:List Po) (k:Nat):Int:=
 match po[k]? with
 | none=>0
 | some x=>if nk r x≠0 then nk r x else if mG [x.lv,eE r x.ou] (Fh r (if k=0 then none else po[k-1]?))<=0 then 11 else 0
theorem sh {r:Ro} {po:List Po} {k:Nat} (h:k<po.length):Hv r po k=if nk r po[k]≠0 then nk r po[k] else if mG [po[k].lv,eE r po[k].ou] (Fh r (if k=0 then none else po[k-1]?))<=0 then 11 else 0:=by
 unfold Hv;rw [Zc h]
theorem OO {r:Ro} {x:Po} {a b c a' b' c':Int} {one two:Bool} (h1:one=true->a=eE r x.ou/\b=k6 r x.ou/\c=kD r x.ou) (h2:one=false->k6 r x.ou<0/\kD r x.ou<0)
  (h3:two=true->a'=eE r x.ip/\b'=k6 r x.ip/\c'=kD r x.ip) (h4:two=false->k6 r x.ip<0/\kD r x.ip<0) :
  aY [gX x.lv 0 (r.lv-1),bL (!one||decide (b<0)) 10,bL (!two||decide (c'<0)) 10,bL (decide (b≠c')) 24]=nk r x/\(nk r x=0->one=true):=by
 unfold nk;cases one with
 | true =>
  obtain ⟨-,rfl,-⟩:=h1 rfl;cases two with
  | true=>obtain ⟨-,-,rfl⟩:=h3 rfl;exact ⟨rfl,fun _=>rfl⟩
  | false =>
   have:=(h4 I).2;refine ⟨?_,fun _=>rfl⟩;simp [aY,bL,this]
 | false =>
  have:=(h2 I).1;constructor
  ·simp [aY,bL,this]
  ·intro h;simp [aY,bL,this] at h;split at h <;> simp_all
def kC (r:Ro) (po:List Po):Int:=kA (Hv r po) po.length
theorem yG {r:Ro} {s d t p:Value} (h:RR w r s d t p) (hd:DT r) (c6:r.de.length+r.ti.length<=1000000) (tb:Ye (r.lv-1)):an T_ 146 [RA r s d t p] w (.q (kC r r.po)):=by
 obtain ⟨h1,h2,h3,h4⟩:=h.one;have hp:=h.po;obtain ⟨a,cp,b,o',rfl,dC,ch,ha,hc⟩:=hp;rw [cT] at *;unfold maxLen at ch;unfold RA;refine aj func146 I I ?_;refine Jr<|Jy I I fun _ _=>Ja I<|Ji<|ab (bU .here) I ?_;refine JN bJ I (fun w1 aT=>AN (h.keeps aT.keeps) c6) ?_;intro bm _;dsimp only [id_eq,Zb,Za]
 (refine Ja I<|Ji<|ab (aU (.o I (.o I .nil)) ai) I<|Jz I I fun _ _=>ak (.of I) (.of I) .here I I (ix I I) (br I) ai<|Jn<|Jq<|Jr<|bD I I ae<|JL I bE I<|JI I<|Jv I<|Jn<|J0 ?_)
 rename_i b1 tJ _ b4 sH
 refine aV (ι:=Nat×Int×Int) (fun x=>x.1<=r.po.length/\(∀ i,i<x.1->Hv r r.po i=0)/\[x.2.1,x.2.2]=Fh r (if x.1=0 then none else r.po[x.1-1]?))
  (fun x=>[(19,.q (x.1:Nat)),(18,.q r.po.length),(17,.slice a r.po.length cp),(4,.p b4),(3,.map (some bm)),(2,.q 0),(1,.p b1)])
  (fun x=>[bu b4 (.cells #[.q x.2.1,.q x.2.2] 299 (0,0)),mp (fun s:ByteArray=>Value.string s) bm (om r),JP b1 r s d t (.slice a r.po.length cp)])
  (fun x=>r.po.length-x.1) ?_ ?_
 ·apply aH (0,-1,-1) ⟨Zi _,fun i h=>by omega,I⟩
  case hs1=>exact bT
  case ht=>(try simp only [Ze,Zf,Za]);exact .h3 .nil
 rintro ⟨k,l0,l1⟩ ⟨hk,hz,hl⟩;dsimp only at hk hz hl ⊢;by_cases aL:k<r.po.length
 ·have cY:=ha (j8 aL);obtain ⟨iO,aF⟩:=hc k _ (ia aL);unfold Po.cells at aF;have fZ:=sh (r:=r) aL;obtain ⟨o1,o2,o3,one,e1,e2,e3,e4⟩:=KS hd (r.po[k]).ou;obtain ⟨i1,i2,i3,two,q1,q2,q3,q4⟩:=KS hd (r.po[k]).ip;obtain ⟨v1,v2⟩:=OO e3 e4 q3 q4;unfold kZ at e1 q1
  (refine Jr<|JA I<|Jn<|Jq<|Jd I fun aA=>Jk<|Jq<|J0<|Jr<|ab (gE cY aA) I<|ab (ja (fo.base aF I)) I<|Jz I I fun _ _=>ak (.of I) (.of I) .here I I (fc I I I) (br I) ai<|Ji<|Jv I<|bD I I ae<|JL I .here I ?_)
  refine ab (oe (.of I) (.of I) (Looks.mp bE) e1) I ?_;rw [e2]
  (refine Jv I<|JJ I I<|JJ I I<|Jz I I fun _ _=>ak (.of I) (.of I) .here I I (fc I I I) (br I) ai<|Ja I<|Ji<|Jv I<|bD I I ae<|JL I (.there .here) I ?_)
  refine ab (oe (.of I) (.of I) (Looks.mp cI) q1) I ?_;rw [q2]
  (refine Jv I<|JJ I I<|JJ I I<|Jz I I fun _ _=>ak (.of I) (.of I) .here I I (fc I I I) (br I) ai<|Ja I<|Jn<|Jq<|Jq ?_)
  with_reducible refine db 29 (by kernel_rfl) ?_
  (refine az lP I<|az (gn bE) I<|az lP I<|az (gn ek) I<|az (tw (.of I) (.of I) tb) I<|aZ dU I (fun w' aB=>(nw _ 0 _ w'))<|az mw I<|az (fu (.of I)) I<|az mw I<|tS I I (fun hg bH=>(ar (.of I) ae)) I<|tS I I (fun hg bH=>(ag (.bW hg I) (At.lit (.there .here) I))) I<|tS I I (fun hg bH=>(l7 (.bW hg I) (.of I))) I<|az (bV (.of I) I) I<|aZ bn I (fun w' aB=>(ef _ 10 w'))<|az mw I<|az (fu (.of I)) I<|az mw I<|tS I I (fun hg bH=>(ar (.of I) ae)) I<|tS I I (fun hg bH=>(ag (.bW hg I) (At.lit .here I))) I<|tS I I (fun hg bH=>(l7 (.bW hg I) (.of I))) I<|az (bV (.of I) I) I<|aZ bn I (fun w' aB=>(ef _ 10 w'))<|az lP I<|az (gn (.there .here)) I<|az lP I<|az (gn .here) I<|az (j7 (.of I) (.of I)) I<|aZ bn I (fun w' aB=>(ef _ 24 w'))<|eM (aD (.o I (.o I (.o I (.o I .nil)))) I I I I) I I ?_)
  with_reducible refine dI I fun bq mV=>?_
  (refine ah bJ I (fun w' aB=>(dV (Mem.dy aB .here I I) (cr.cons (cr.cons (cr.cons (cr.cons cr.nil))))))<|Ja I<|Ji<|Jv I<|JD I<|Jn<|gL I (fun aA=>?_) fun aA=>?_;refine Jr<|Jv I<|Ja I<|Jn<|Ju<|Jm<|Jh<|Jh<|Jm<|Jh<|JT ?_;rotate_left;refine Jk<|Jr<|bD I I ae<|JL I cI I<|bD I I ae<|JL I bE I<|ab (aU (.o I (.o I .nil)) ai) I<|Jz I I fun _ _=>ak (.of I) (.of I) .here I I (ix I I) (br I) ai<|Jn<|Jq<|Jq ?_;rotate_right)
  ·rw [v1] at aA ⊢;have hb:kC r r.po=nk r r.po[k]:=(fV hz aL (by rw [fZ,if_pos aA];exact aA)).trans (by rw [fZ,if_pos aA]);rw [hb]
  rw [v1] at aA;have hE:nk r r.po[k]=0:=Zq.1 aA;obtain ⟨g1,g2,g3⟩:=e3 (v2 hE);rename_i MR abV
  with_reducible refine cz 2 (by kernel_rfl) ?_
  (refine aq (zg (.of I)) I<|aq (zg (.of I)) I ?_)
  with_reducible refine cC ?_
  skip
  with_reducible apply ah
  case hr=>exact bn
  case hd=>rfl
  case hc=>
   intro w' aB;have y1:Rd w' (.w MR 2 2) 1 (ints [(r.po[k]).lv,o1]):=Mem.dy (b:=MR) (cs:=[.q (r.po[k]).lv,.q o1]) aB (by exact .here) I I;have y2:Rd w' (.w b4 2 2) 1 (ints [l0,l1]):=Mem.dy (b:=b4) (cs:=[.q l0,.q l1]) aB ek I I;exact zN y1 y2
  rw [hE] at fZ;rw [if_neg (by decide),<- g1,<- hl] at fZ
  (refine JF I<|Jn<|gL I (fun aA=>?_) fun aA=>?_;refine Jr<|Ja I<|Jn<|Ju<|Jm<|Jh<|Jh<|Jm<|Jh<|JT ?_;rotate_left;refine Jk<|Jg<|ab (bU .here) I<|ak (.of I) (.of I) ek I I (ix I I) (br I) ai<|Jx<|Jj<|Jt<|Jg<|JB I (by omega)<|Jv I<|Jn ?_;rotate_right)
  ·rw [if_pos aA] at fZ;have hb:kC r r.po=11:=(fV hz aL (by rw [fZ];decide)).trans fZ;rw [hb]
  rw [if_neg aA] at fZ;have Ly:∀ i,i<k+1->Hv r r.po i=0:=fun i hi=>by
   by_cases e:i=k
   ·rw [e];exact fZ
   ·exact hz i (by omega)
  apply aG (k+1,(r.po[k]).lv,o1) ⟨show k+1<=r.po.length by omega,Ly,by
   show [(r.po[k]).lv,o1]=Fh r (if k+1=0 then none else r.po[k+1-1]?)
   rw [if_neg (by omega),Zay,Zc aL,g1];rfl⟩ (show r.po.length-(k+1)<r.po.length-k by omega)
  case hs1=>exact bT
  case ht=>(try simp only [Ze,Zf,Za]);exact .h1 (.cons ek (.cons ek .nil))
 ·obtain rfl:k=r.po.length:=by omega
  have e:kC r r.po=0:=eK.2 hz;rw [e];refine Jr<|JA I<|Jn<|Jq<|Jc I fun aA=>Jp<|Jl<|Jo<|Jt<|Jr<|Ja I<|Jn<|Je<|JT ?_
  rfl
theorem SD {r:Ro} {s d t p:Value} (x:Sr) {b1:Nat} {w:World} (h:RR w r s d t p) (hA:BR w b1 (RC r s d t p)) :
  an T_ 135 [.agg x.cells.toArray,.p b1] w (.q (fL r x.mx)):=by
 obtain ⟨h1,h2,h3,h4⟩:=h.one;have lg:∀ (j:Nat) (u:Value),[Value.int .i64 r.lv,.int .i64 r.ma,s,d,t,p][j]? = some u->w.cell? ⟨b1,0+j,none⟩=some u:=hA;unfold Sr.cells;refine aj func135 I I ?_
 (refine Jr<|Jy I I fun _ _=>Ja I<|Ji<|ab (ja (fo.base lg I)) I<|bD I I ae<|JL I .here I ?_)
 refine ah bn I (fun w' aB=>Gq x.mx h) ?_;refine Ja I<|Jn<|Je<|JT ?_
 rfl
theorem UB {r:Ro} {s d t p:Value} (x:De) {b1:Nat} {w:World} (h:RR w r s d t p) (hA:BR w b1 (RC r s d t p)) :
  an T_ 137 [.agg x.cells.toArray,.p b1] w (.q (fL r x.mx)):=by
 obtain ⟨h1,h2,h3,h4⟩:=h.one;have lg:∀ (j:Nat) (u:Value),[Value.int .i64 r.lv,.int .i64 r.ma,s,d,t,p][j]? = some u->w.cell? ⟨b1,0+j,none⟩=some u:=hA;unfold De.cells;refine aj func137 I I ?_
 (refine Jr<|Jy I I fun _ _=>Ja I<|Ji<|ab (ja (fo.base lg I)) I<|bD I I ae<|JL I .here I ?_)
 refine ah bn I (fun w' aB=>Gq x.mx h) ?_;refine Ja I<|Jn<|Je<|JT ?_
 rfl
def kK (r:Ro) (q:Int->Bool):Bool:=(List.range r.lv.toNat).any fun i=>q (i:Nat)
def oD (r:Ro):Int:=aY [gX r.lv 1 3,gX r.ma 1 4]
def kH (r:Ro):Int:=aY [fJ 8 [] Sr.nm (fun x=>fL r x.mx) r.sr,fJ 8 (cN r) De.nm (fun x=>fL r x.mx) r.de,fJ 6 (cN r++cu r) Ti.nm (oU r) r.ti]
def A2 (r:Ro):Int:=aY [bL (kK r fun v=>r.ti.any (NA r v)) 33,bL (kK r fun v=>r.ti.any (K0 r v)) 32]
def fm (r:Ro):Int:=if oD r≠0 then oD r else if kH r≠0 then kH r else if kC r r.po≠0 then kC r r.po else A2 r
theorem ck1 {r:Ro} (h:oD r≠0):fm r=oD r:=by unfold fm;rw [if_pos h]
theorem ck2 {r:Ro} (h1:oD r=0) (h:kH r≠0):fm r=kH r:=by unfold fm;rw [if_neg (by rw [h1];decide),if_pos h]
theorem ck3 {r:Ro} (h1:oD r=0) (h2:kH r=0) (h:kC r r.po≠0):fm r=kC r r.po:=by unfold fm;rw [if_neg (by rw [h1];decide),if_neg (by rw [h2];decide),if_pos h]
theorem ck4 {r:Ro} (h1:oD r=0) (h2:kH r=0) (h3:kC r r.po=0):fm r=A2 r:=by unfold fm;rw [if_neg (by rw [h1];decide),if_neg (by rw [h2];decide),if_neg (by rw [h3];decide)]
theorem po1 {r:Ro} (h:fJ 8 [] Sr.nm (fun x=>fL r x.mx) r.sr≠0):kH r=fJ 8 [] Sr.nm (fun x=>fL r x.mx) r.sr:=by unfold kH aY;rw [if_pos h]
theorem po2 {r:Ro} (h1:fJ 8 [] Sr.nm (fun x=>fL r x.mx) r.sr=0) (h:fJ 8 (cN r) De.nm (fun x=>fL r x.mx) r.de≠0):kH r=fJ 8 (cN r) De.nm (fun x=>fL r x.mx) r.de:=by unfold kH aY aY;rw [if_neg (by rw [h1];decide),if_pos h]
theorem Yp {r:Ro} (h1:fJ 8 [] Sr.nm (fun x=>fL r x.mx) r.sr=0) (h2:fJ 8 (cN r) De.nm (fun x=>fL r x.mx) r.de=0):kH r=aY [fJ 6 (cN r++cu r) Ti.nm (oU r) r.ti]:=by unfold kH;rw [aY,if_neg (by rw [h1];decide),aY,if_neg (by rw [h2];decide)]
theorem r9 {α:Type} {rj:Int} {bf:List ByteArray} {nm:α->ByteArray} {ck:α->Int} {l:List α} (hb:bf.Nodup) (h:fJ rj bf nm ck l=0):(bf++l.map nm).Nodup/\(l.length:Int)<=rj/\∀ x∈l,ck x=0:=by
 unfold fJ at h;split at h
 ·cases h
 rename_i hl;rw [eK] at h;have hk:∀ k,k<=l.length->(bf++(l.take k).map nm).Nodup/\∀ x∈l.take k,ck x=0:=by
  intro k
  induction k with
  | zero=>intro _;simpa using hb
  | succ k ih =>
   intro hk;obtain ⟨i1,i2⟩:=ih (by omega);have:=h k (by omega);rw [pB (by omega)] at this;rw [bX] at this;have h9:eZ (bf++(l.take k).map nm) (nm l[k])=false/\ck l[k]=0:=⟨(bO (show (9:Int)≠0 by decide)).1 (this _ (ZM _ Zr)),this _ (ZM _ (ZM _ Zr))⟩;rw [Zm (by omega),Zy,<- Zh];refine ⟨?_,?_⟩
   ·rw [ZI];refine ⟨i1,by simp,fun x hx y hy e=>?_⟩;rw [Z4,Zf,ZD] at hy;subst hy;subst e;rw [fE.2 hx] at h9;cases h9.1
   ·intro x hx;rcases Zz.1 hx with hx | hx
    ·exact i2 x hx
    ·rw [ZD.1 hx];exact h9.2
 have:=hk _ (Zv _);rw [ZL] at this;exact ⟨this.1,by omega,this.2⟩
theorem AO {r:Ro} (h:kH r=0):DT r/\(r.sr.length<=8/\r.de.length<=8/\r.ti.length<=6)/\(∀ x∈r.sr,fL r x.mx=0)/\(∀ x∈r.de,fL r x.mx=0)/\∀ x∈r.ti,oU r x=0:=by
 unfold kH at h;have h3:fJ 8 [] Sr.nm (fun x=>fL r x.mx) r.sr=0/\fJ 8 (cN r) De.nm (fun x=>fL r x.mx) r.de=0/\fJ 6 (cN r++cu r) Ti.nm (oU r) r.ti=0:=by
  rw [bX] at h;exact ⟨h _ (by simp),h _ (by simp),h _ (by simp)⟩
 obtain ⟨h4,h5,h6⟩:=r9 Zao h3.1;rw [Za] at h4;obtain ⟨h7,h8,h9⟩:=r9 (show (cN r).Nodup from h4) h3.2.1;obtain ⟨g7,g8,g9⟩:=r9 (show (cN r++cu r).Nodup from h7) h3.2.2;exact ⟨⟨g7⟩,⟨by omega,by omega,by omega⟩,h6,h9,g9⟩
theorem wQ {r:Ro} (h:oD r=0):1<=r.lv/\r.lv<=3/\1<=r.ma/\r.ma<=4:=by
 unfold oD at h;rw [bX] at h;have h1:=jb.1 (h _ (Zr));have h2:=jb.1 (h _ (ZM _ Zr));omega
theorem ei {r:Ro} {s d t p:Value} (h:RR w r s d t p) (c6:r.sr.length<=300/\r.de.length<=300/\r.ti.length<=300):an T_ 34 [RA r s d t p] w (.q (fm r)):=by
 obtain ⟨h1,h2,h3,h4⟩:=h.one;unfold RA;refine aj func34 I I ?_;refine Jr<|Jy I I fun _ _=>Ja I<|Jn<|Jq<|Jq ?_;rename_i b1 tJ
 with_reducible refine db 7 (by kernel_rfl) ?_
 (refine az lP I<|az (gn .here) I<|aZ dU I (fun w' aB=>(nw _ 1 3 w'))<|az lP I<|az (gn .here) I<|aZ dU I (fun w' aB=>(nw _ 1 4 w'))<|eM (aD (.o I (.o I .nil)) I I I I) I I ?_)
 with_reducible refine dI I fun bq mV=>?_
 (refine ah bJ I (fun w' aB=>(dV (Mem.dy aB .here I I) (cr.cons (cr.cons cr.nil))))<|Ja I<|Ji<|Jv I<|JD I<|Jn<|gL I (fun aA=>?_) fun aA=>?_;refine Jr<|Jv I<|Ja I<|Jn<|Ju<|JT ?_;rotate_left;refine Jk<|Jr<|ab (bC .nil (.o I .nil)) I<|Ja I<|Ji<|ab (bC .nil (.o I .nil)) I<|Ja I<|Jn<|Jq<|Jr<|bD I I ae<|JL I (.there .here) I<|Jv I ?_;rotate_right)
 ·exact congrArg (Value.int .i64) (ck1 aA).symm
 have nX:oD r=0:=Zq.1 aA;have hl:=wQ nX;clear aA;have LI:∀ w',Rd w' (.z) 1 (fN []):=fun w'=>⟨none,0,0,0,I,by simp [fN],by unfold maxLen;omega,fun h=>absurd I h,fun i r hr=>by simp [fN] at hr⟩
 with_reducible apply ah
 case hr=>exact DS
 case hd=>rfl
 case hc=>
  intro w' aB;have hA:BR w' b1 [.q r.lv,.q r.ma,s,d,t,p]:=BR.of aB (by exact Take.there .here);have hR:=h.keeps aB.keeps;exact DE (bf:=[]) 8 (f2:=135) (first2:=[]) (cap:=[.p b1]) hR.sr (LI _) (by rw [Zaf];omega) (fun x _ w2 _=>K5 x w2) (fun x _ w2 fg=>SD x (hR.keeps fg) (hA.keeps fg))
 (refine Ja I<|Ji<|Jv I<|JD I<|Jn<|gL I (fun aA=>?_) fun aA=>?_;refine Jr<|Jv I<|Ja I<|Jn<|Ju<|JT ?_;rotate_left;refine Jk<|Jr<|bD I I ae<|JL I (.there .here) I ?_;rotate_right)
 ·have hp:=po1 aA;rw [<- hp] at aA ⊢;exact congrArg (Value.int .i64) (ck2 nX aA).symm
 have p1:fJ 8 [] Sr.nm (fun x=>fL r x.mx) r.sr=0:=Zq.1 aA
 clear aA;have q1:=r9 Zao p1;refine JN bn I (fun w1 aT=>O4 (f:=139) (first:=[]) (cap:=[]) (g:=Sr.nm) (h.keeps aT.keeps).sr (by omega) (fun x _ w2 _=>K5 x w2)) ?_
 intro nv _;dsimp only [id_eq,Zb,Za];refine aK (by exact .here) fun na nc e=>?_;subst e
 (refine Ja I<|Jn<|Jq<|Jr<|bD I I ae<|JL I bE I<|Jv I<|Jv I ?_)
 with_reducible apply ah
 case hr=>exact DS
 case hd=>rfl
 case hc=>
  intro w' aB;have hA:BR w' b1 [.q r.lv,.q r.ma,s,d,t,p]:=BR.of aB bE;have hR:=h.keeps aB.keeps;have hN:Rd w' (.slice na r.sr.length nc) 1 (fN (r.sr.map Sr.nm)):=ez aB (by exact .here) (by rw [Zd]);exact DF (bf:=cN r) 8 (f2:=137) (first2:=[]) (cap:=[.p b1]) hR.de hN (by unfold cN;rw [Zd];omega) (fun x _ w2 _=>EF x w2) (fun x _ w2 fg=>UB x (hR.keeps fg) (hA.keeps fg))
 (refine Ja I<|Ji<|Jv I<|JD I<|Jn<|gL I (fun aA=>?_) fun aA=>?_;refine Jr<|Jv I<|Ja I<|Jn<|Ju<|JT ?_;rotate_left;refine Jk<|Jr<|Jv I<|bD I I ae<|JL I bE I ?_;rotate_right)
 ·have hp:=po2 p1 aA;rw [<- hp] at aA ⊢;exact congrArg (Value.int .i64) (ck2 nX aA).symm
 have p2:fJ 8 (cN r) De.nm (fun x=>fL r x.mx) r.de=0:=Zq.1 aA
 clear aA;have q2:=r9 (show (cN r).Nodup from q1.1) p2;refine JN bn I (fun w1 aT=>Gc (f:=124) (first:=[]) (cap:=[]) (g:=De.nm) (h.keeps aT.keeps).de (by omega) (fun x _ w2 _=>EF x w2)) ?_
 intro dv _;dsimp only [id_eq,Zb,Za];refine aK (by exact .here) fun da dc e=>?_;subst e;refine bh (aD (.o I (.o I .nil)) I I I I) I (fun _ _=>?_);rename_i bq2 aip
 with_reducible apply jd
 case hr=>exact bJ
 case hd=>rfl
 case ht=>exact bj.nil
 case hc=>
  intro w1 fp aT _ hs1;obtain rfl:fp=[]:=hs1;have hN:Rd w1 (.slice na r.sr.length nc) 1 (fN (r.sr.map Sr.nm)):=ez aT bE (by rw [Zd]);have hD:Rd w1 (.slice da r.de.length dc) 1 (fN (r.de.map De.nm)):=ez aT (by exact Take.there .here) (by rw [Zd])
  exact H4 (vs:=[.slice na r.sr.length nc,.slice da r.de.length dc]) (ess:=[r.sr.map Sr.nm,r.de.map De.nm]) (Mem.dy (b:=bq2) aT (by exact .here) I I) I
   (fun i v es hv he=>by
    match i,hv,he with
    | 0,hv,he=>cases hv;cases he;exact hN
    | 1,hv,he=>cases hv;cases he;exact hD) (by simp;omega)
 intro av _;dsimp only [id_eq,Zb,Za]
 (refine Ja I<|Jn<|Jq<|Jr<|bD I I ae<|JL I ek I<|Jv I<|ab (bU ek) I<|ab (bC (.o I .nil) .nil) I ?_)
 have uz:[r.sr.map Sr.nm,r.de.map De.nm].flatten=cN r++cu r:=by simp [cN,cu]
 with_reducible apply ah
 case hr=>exact DS
 case hd=>rfl
 case hc=>
  intro w' aB;have hR:=h.keeps aB.keeps;have hB:Rd w' av 1 (fN [r.sr.map Sr.nm,r.de.map De.nm].flatten):=aB.qY (by exact .here) I (Ke _) (by rw [bG]);rw [uz] at hB;exact DD (bf:=cN r++cu r) 6 (f2:=145) (first2:=[RA r s d t p]) (cap:=[]) hR.ti hB (by unfold cN cu;rw [Zg,Zd,Zd];omega) (fun x _ w2 _=>K4 x w2) (fun x _ w2 fg=>Qq x h)
 (refine bh (aD (.o I .nil) I I I I) I fun _ _=>ah bJ I (fun w' aB=>(dV (Mem.dy aB .here I I) (cr.cons cr.nil)))<|Ja I<|Ji<|Jv I<|JD I<|Jn<|gL I (fun aA=>?_) fun aA=>?_;refine Jr<|Jv I<|Ja I<|Jn<|Ju<|JT ?_;rotate_left;refine Jk<|Jq<|Jr<|ab (bU nR) I ?_;rotate_right)
 ·have hp:kH r≠0:=by rw [Yp p1 p2];exact aA
  exact congrArg (Value.int .i64) ((Yp p1 p2).symm.trans (ck2 nX hp).symm)
 have PF:kH r=0:=by rw [Yp p1 p2];exact Zq.1 aA
 obtain ⟨ku,hlen,-⟩:=AO PF;clear aA;refine ah bJ I (fun w' aB=>yG (h.keeps aB.keeps) ku (by omega) (by unfold Ye;omega)) ?_
 (refine Ja I<|Ji<|Jv I<|JD I<|Jn<|gL I (fun aA=>?_) fun aA=>?_;refine Jr<|Jv I<|Ja I<|Jn<|Ju<|JT ?_;rotate_left;refine Jk<|Jq ?_;rotate_right)
 ·exact congrArg (Value.int .i64) (ck3 nX PF aA).symm
 have TR:kC r r.po=0:=Zq.1 aA;clear aA;rw [ck4 nX PF TR];have Xk:∀ w',aI [] w w'->an T_ 148 [.agg #[.q r.lv,.q r.ma,s,d,t,p],.func (.func 149) #[.agg #[.q r.lv,.q r.ma,s,d,t,p]] #[]] w' (.bool (kK r fun v=>r.ti.any (NA r v))):=fun w' hk=>
  R5 (f:=149) (first:=[RA r s d t p]) (cap:=[]) h (by omega) (fun v _ _ w2 fg=>Ql v ((h.keeps hk).keeps fg) (by omega))
 have Xj:∀ w',aI [] w w'->an T_ 148 [.agg #[.q r.lv,.q r.ma,s,d,t,p],.func (.func 150) #[.agg #[.q r.lv,.q r.ma,s,d,t,p]] #[]] w' (.bool (kK r fun v=>r.ti.any (K0 r v))):=fun w' hk=>
  R5 (f:=150) (first:=[RA r s d t p]) (cap:=[]) h (by omega) (fun v _ _ w2 fg=>S9 v ((h.keeps hk).keeps fg))
 with_reducible refine db 11 (by kernel_rfl) ?_
 (refine az (bU nR) I<|az (bU nR) I<|az (bC (.o I .nil) .nil) I<|aZ bn I (fun w' aB=>(Xk w' (Mem.keeps aB)))<|aZ bn I (fun w' aB=>(ef _ 33 w'))<|az (bU nR) I<|az (bU nR) I<|az (bC (.o I .nil) .nil) I<|aZ bn I (fun w' aB=>(Xj w' (Mem.keeps aB)))<|aZ bn I (fun w' aB=>(ef _ 32 w'))<|eM (aD (.o I (.o I .nil)) I I I I) I I ?_)
 with_reducible refine dI I fun bq mV=>?_
 (refine ah bJ I (fun w' aB=>(dV (Mem.dy aB .here I I) (cr.cons (cr.cons cr.nil))))<|Ja I<|Jn<|Je<|JT ?_)
 rfl
theorem C9 {α:Type} (nm:α->ByteArray) (l:List α) (s:ByteArray):iN (fun x=>decide (nm x=s)) l=bB (l.map nm) s:=by
 rcases qA (fun x=>decide (nm x=s)) l with ⟨e1,e2⟩ | ⟨i,hi,e1,e2⟩
 ·rw [e1];refine (Bu fun j hj e=>?_).symm;rw [ZaM] at e2;rw [Z1] at e;exact e2 _ (Zj _) (by simpa using e)
 ·rw [e1];rw [ZaD] at e2;obtain ⟨hp,k,hk,he,hb⟩:=e2;have YO:i=k:=by
   have h1:iN (fun x=>decide (nm x=s)) l=(k:Nat):=gN (fun j hj=>by
    rw [Zc (by omega)];have:=hb j hj;simpa using this) hk (by rw [he];exact hp)
   rw [e1] at h1
   exact_mod_cast h1
  subst YO;refine (rC (by rw [Zd];exact hi) (by rw [Z1];simpa using hp) fun j hj e=>?_).symm;rw [Z1] at e;have:=hb j hj;simp [e] at this
theorem UA (x:De) (o:ByteArray) {b2:Nat} {w:World} (f2:w.cell? ⟨b2,0,none⟩=some (.string o)) :
  an T_ 243 [.agg x.cells.toArray,.p b2] w (.bool (decide (x.nm=o))):=by
 unfold De.cells;refine aj func243 I I ?_
 (refine Jr<|Jy I I fun _ _=>Ja I<|Ji<|bD I I ae<|JL I .here I<|ab (ag (.of I) (At.base f2 I)) I<|ab (dD (.of I) (.of I)) I<|Ja I<|Jn<|Je<|JT ?_)
 rfl
theorem SC (x:Sr) (o:ByteArray) {b2:Nat} {w:World} (f2:w.cell? ⟨b2,0,none⟩=some (.string o)) :
  an T_ 264 [.agg x.cells.toArray,.p b2] w (.bool (decide (x.nm=o))):=by
 unfold Sr.cells;refine aj func264 I I ?_
 (refine Jr<|Jy I I fun _ _=>Ja I<|Ji<|bD I I ae<|JL I .here I<|ab (ag (.of I) (At.base f2 I)) I<|ab (dD (.of I) (.of I)) I<|Ja I<|Jn<|Je<|JT ?_)
 rfl
theorem gH {r:Ro} {s d t p:Value} (o:ByteArray) {w:World} (h:RR w r s d t p):an T_ 155 [RA r s d t p,.string o] w (.q (bB (cu r) o)):=by
 obtain ⟨h1,h2,h3,h4⟩:=h.one;unfold RA;refine aj func155 I I ?_
 (refine Jr<|Jy I I fun _ _=>Jy I I fun _ _=>Ja I<|Ji<|bD I I ae<|JL I (.there .here) I<|ab (bC .nil (.o I .nil)) I ?_)
 rename_i b3 rz b4 sH
 with_reducible apply ah
 case hr=>exact bn
 case hd=>rfl
 case hc=>
  intro w' aB;have f2:w'.cell? ⟨b4,0,none⟩=some (.string o):=At.lit (by exact .here) I w' aB
  exact Pt (f:=243) (p:=fun x=>decide (x.nm=o)) (first:=[]) (cap:=[.p b4]) (h.keeps aB.keeps).de
   (fun x hx w2 fg=>UA x o (cK f2 I fg))
 rw [C9];refine Ja I<|Jn<|Je<|JT ?_
 rfl
theorem pt {r:Ro} {s d t p:Value} (o:ByteArray) {w:World} (h:RR w r s d t p):an T_ 180 [RA r s d t p,.string o] w (.q (bB (cN r) o)):=by
 obtain ⟨h1,h2,h3,h4⟩:=h.one;unfold RA;refine aj func180 I I ?_
 (refine Jr<|Jy I I fun _ _=>Jy I I fun _ _=>Ja I<|Ji<|bD I I ae<|JL I (.there .here) I<|ab (bC .nil (.o I .nil)) I ?_)
 rename_i b3 rz b4 sH
 with_reducible apply ah
 case hr=>exact bn
 case hd=>rfl
 case hc=>
  intro w' aB;have f2:w'.cell? ⟨b4,0,none⟩=some (.string o):=At.lit (by exact .here) I w' aB
  exact Gl (f:=264) (p:=fun x=>decide (x.nm=o)) (first:=[]) (cap:=[.p b4]) (h.keeps aB.keeps).sr
   (fun x hx w2 fg=>SC x o (cK f2 I fg))
 rw [C9];refine Ja I<|Jn<|Je<|JT ?_
 rfl
def Ge (r:Ro) (v:Int):Int:=gX v 0 (IntKind.i64.wrap (r.lv-1))
def mF (r:Ro) (o:ByteArray):Int:=bL (decide (bB (cu r) o<0)) 10
def SF (r:Ro) (o:ByteArray):Int:=bL (decide (bB (cN r) o<0)) 10
theorem lN {r:Ro} {s d t p:Value} (v:Int) {w w1:World} (h:RR w1 r s d t p):an T_ 114 [RA r s d t p,.q v] w (.q (Ge r v)):=by
 obtain ⟨h1,h2,h3,h4⟩:=h.one;unfold RA;refine aj func114 I I ?_
 (refine Jr<|Jy I I fun _ _=>Ja I<|Ji<|Jv I<|bD I I ae<|JL I .here I ?_)
 refine ab (OD (.of I) (.of I)) I ?_
 (refine ah dU I (fun w' aB=>(nw v 0 _ w'))<|Ja I<|Jn<|Je<|JT ?_)
 rfl
theorem eA {r:Ro} {s d t p:Value} (o:ByteArray) {w:World} (h:RR w r s d t p):an T_ 112 [RA r s d t p,.string o] w (.q (mF r o)):=by
 obtain ⟨h1,h2,h3,h4⟩:=h.one;have uP:∀ w',aI [] w w'->an T_ 155 [.agg #[.int .i64 r.lv,.int .i64 r.ma,s,d,t,p],.string o] w' (.int .i64 (bB (cu r) o)):=fun w' hk=>gH o (h.keeps hk)
 unfold RA;refine aj func112 I I ?_
 (refine Jr<|Jy I I fun _ _=>Ja I<|Ji<|ab (bU .here) I<|Jv I<|ah bn I (fun w' aB=>(uP w' (Mem.keeps aB)))<|JA I<|ah bn I (fun w' aB=>(ef _ 10 w'))<|Ja I<|Jn<|Je<|JT ?_)
 rfl
theorem q9 {r:Ro} {s d t p:Value} (o:ByteArray) {w:World} (h:RR w r s d t p):an T_ 122 [RA r s d t p,.string o] w (.q (SF r o)):=by
 obtain ⟨h1,h2,h3,h4⟩:=h.one;have hsrc:∀ w',aI [] w w'->an T_ 180 [.agg #[.int .i64 r.lv,.int .i64 r.ma,s,d,t,p],.string o] w' (.int .i64 (bB (cN r) o)):=fun w' hk=>pt o (h.keeps hk)
 unfold RA;refine aj func122 I I ?_
 (refine Jr<|Jy I I fun _ _=>Ja I<|Ji<|ab (bU .here) I<|Jv I<|ah bn I (fun w' aB=>(hsrc w' (Mem.keeps aB)))<|JA I<|ah bn I (fun w' aB=>(ef _ 10 w'))<|Ja I<|Jn<|Je<|JT ?_)
 rfl
def cZ (r:Ro) (o:ByteArray):List ByteArray:=(List.range r.lv.toNat).map fun (v:Nat)=>jY r v o
theorem xe {r:Ro} {s d t p:Value} (o:ByteArray) {w:World} (h:RR w r s d t p) (tb:r.lv<=1000) (c6:r.ti.length<=1000000):a8 T_ 113 [RA r s d t p,.string o] w [] (fun _:Value=>True) id (fun v=>[row 9 1 v r.lv.toNat (aR (cZ r o))]):=by
 obtain ⟨h1,h2,h3,h4⟩:=h.one;unfold RA;refine aS func113 I I ?_
 (refine Jr<|Jy I I fun _ _=>Ja I<|Ji<|Ja I<|Jn<|Jq<|Jr<|bD I I ae<|JL I .here I<|Jv I<|Jn<|J0 ?_)
 rename_i b2 sJ;refine aJ 9 1 ?_
 refine aV (ι:=Nat×Value) (fun x=>x.1<=r.lv.toNat)
  (fun x=>[(9,.q (x.1:Nat)),(8,.q r.lv),(5,x.2),(2,.p b2),(1,.string o)])
  (fun x=>[row 9 1 x.2 x.1 (aR ((cZ r o).take x.1)),JP b2 r s d t p]) (fun x=>r.lv.toNat-x.1) ?_ ?_
 ·apply aH (0,.z) (Zi _)
  case hs1=>exact bT
  case ht=>
   exact .h2 .nil
 rintro ⟨k,v⟩ hk;dsimp only at hk ⊢;by_cases aL:k<r.lv.toNat
 ·have ET:((k:Nat):Int)<r.lv:=by omega
  have htk:(cZ r o).take (k+1)=(cZ r o).take k++[jY r (k:Nat) o]:=by
   unfold cZ;rw [Zm (by simpa using aL)];simp
  have bb:aR ((cZ r o).take (k+1))=aR ((cZ r o).take k)++[.string (jY r (k:Nat) o)]:=by rw [htk,eU];rfl
  have hlen:(aR ((cZ r o).take k)).length=k*1:=by
   rw [dx,Zs];unfold cZ;rw [Zd,ZaB];omega
  (refine Jr<|JA I<|Jn<|Jq<|Jd I fun aA=>Jk<|Jq<|J0<|Jr<|Jv I<|Ja I<|Jn<|Jg<|Jv I<|ab (bU (.there .here)) I<|Jv I<|Jv I ?_)
  refine ah dU I (fun w' aB=>qJ (s:=s) (d:=d) (t:=t) (p:=p) (k:Nat) o (h.keeps aB.keeps) c6) ?_;refine bh (aD (.o I .nil) I I I I) I (fun _ _=>?_);refine bA (.of I) (.of I) (.there .here) .here ai (by rfl) (dE I) (by rfl) (by rfl) (by rfl) eC (by rfl) ?_;intro v';refine Ja I<|Jx<|Jj<|Jt<|Jg<|JB I (by omega)<|Jv I<|Jn ?_;apply aG (k+1,v') (by show k+1<=r.lv.toNat;omega) (by show r.lv.toNat-(k+1)<r.lv.toNat-k;omega)
  case hs1=>exact bT
  case ht=>
   show bj _ [row 9 1 v' (k+1) (aR ((cZ r o).take (k+1))),JP b2 r s d t p] _;rw [bb];exact .h1 (.cons (.there .here) .nil)
 ·have e:k=r.lv.toNat:=by omega
  subst e;have htk:(cZ r o).take r.lv.toNat=cZ r o:=Z9 (by unfold cZ;simp);rw [htk];refine Jr<|JA I<|Jn<|Jq<|Jc I fun aA=>Jp<|Jl<|Jo<|Jt<|Jr<|Jv I<|Ja I<|Jn<|Je ?_
  with_reducible first|apply aO|apply aP
  case he=>exact dN I I
  case hR=>
   intro w' aB;exact aC v trivial (by exact .h1 .nil) aB I
theorem rI {r:Ro} {s d t p:Value} (v:Int) (o:ByteArray) {w:World} (h:RR w r s d t p):an T_ 121 [RA r s d t p,.q v,.string o] w (.bool (gI r.po v o)):=by
 obtain ⟨h1,h2,h3,h4⟩:=h.one;unfold RA;refine aj func121 I I ?_
 (refine Jr<|Jy I I fun _ _=>Ja I<|Ji<|ab (bU .here) I<|Jv I<|Jv I ?_)
 refine ah dU I (fun w' aB=>A5 (s:=s) (d:=d) (t:=t) (p:=p) v o (h.keeps aB.keeps)) ?_;refine Jv I<|JJ I I<|JJ I I<|Ja I<|Ja I<|Ji<|Jv I<|Ja I<|Jn<|Je<|JT ?_
 rfl
def mX (r:Ro):Prop:=r.sr.length<=300/\r.de.length<=300/\r.ti.length<=300
theorem tQ {r:Ro} (h:fm r=0):oD r=0/\kH r=0/\kC r r.po=0/\A2 r=0:=by
 unfold fm at h;by_cases h1:oD r=0
 ·rw [if_neg (by rw [h1];decide)] at h;by_cases h2:kH r=0
  ·rw [if_neg (by rw [h2];decide)] at h;by_cases h3:kC r r.po=0
   ·rw [if_neg (by rw [h3];decide)] at h;exact ⟨h1,h2,h3,h⟩
   ·rw [if_pos h3] at h;exact absurd h h3
  ·rw [if_pos h2] at h;exact absurd h h2
 ·rw [if_pos h1] at h;exact absurd h h1
def LO (r:Ro) (o:ByteArray):Int:=aY [fm r,mF r o]
def HN (r:Ro) (o:ByteArray):List ByteArray:=if LO r o≠0 then [] else cZ r o
theorem UR {r:Ro} {s d t p:Value} (o:ByteArray) {w:World} (h:RR w r s d t p) (c6:mX r):a8 T_ 20 [RA r s d t p,.string o] w [] (fun _:Value=>True) (fun v=>.tuple #[v,.q (LO r o)]) (fun v=>[row 9 1 v (HN r o).length (aR (HN r o))]):=by
 obtain ⟨h1,h2,h3,h4⟩:=h.one;have fP:∀ w',aI [] w w'->an T_ 34 [.agg #[.int .i64 r.lv,.int .i64 r.ma,s,d,t,p]] w' (.int .i64 (fm r)):=fun w' hk=>ei (h.keeps hk) c6
 have kz:∀ w',aI [] w w'->an T_ 112 [.agg #[.q r.lv,.q r.ma,s,d,t,p],.string o] w' (.q (mF r o)):=fun w' hk=>eA o (h.keeps hk)
 unfold RA;refine aS func20 I I ?_;refine Jr<|Jy I I fun _ _=>Ja I<|Ja I<|Jn<|Jq<|Jq ?_;rename_i b2 sJ
 with_reducible refine db 6 (by kernel_rfl) ?_
 (refine az (bU .here) I<|aZ bJ I (fun w' aB=>(fP w' (Mem.keeps aB)))<|az (bU .here) I<|az mw I<|aZ bn I (fun w' aB=>(kz w' (Mem.keeps aB)))<|eM (aD (.o I (.o I .nil)) I I I I) I I ?_)
 with_reducible refine dI I fun bq mV=>?_
 (refine ah bJ I (fun w' aB=>(dV (Mem.dy aB .here I I) (cr.cons (cr.cons cr.nil))))<|Ja I<|Ji<|Jv I<|JD I<|Jn<|gL I (fun aA=>?_) fun aA=>?_;refine Jr<|Jv I<|Ja I<|Ja I<|Jn<|Ju ?_;rotate_left;refine Jk<|Jr<|ab (bU (.there .here)) I<|Jv I ?_;rotate_right)
 ·have e1:HN r o=[]:=if_pos aA;rw [e1];refine aJ 9 1 ?_
  with_reducible first|apply aO|apply aP
  case he=>exact gD I I I
  case hR=>
   intro w' aB;exact aC (.z) trivial (by exact .h1 .nil) aB I
 have e1:HN r o=cZ r o:=if_neg aA;have e0:aY [fm r,mF r o]=0:=Zq.1 aA;have e2:LO r o=0:=e0;have hl:=wQ (tQ (bX.1 e0 _ Zr)).1;have hn:(cZ r o).length=r.lv.toNat:=by unfold cZ;simp
 rw [e1,e2,hn];refine JN bn I (fun w1 aT=>xe o (h.keeps aT.keeps) (by omega) (by have:=c6.2.2;omega)) ?_;intro v _;dsimp only [id_eq,Zb,Za];refine Ja I<|Ja I<|Jn<|Je ?_
 with_reducible first|apply aO|apply aP
 case he=>exact gD I I I
 case hR=>
  intro w' aB;exact aC v trivial (by exact .h1 .nil) aB I
end Go.Proofs.A1
namespace Go.SL
open Go
section
variable {P:Program} {c:Cx} {D:List Nat} {sl:aN} {hs hs':List bd} {ty:TypeId} {pos:String} {af:Array Edge} {r:Option Nat} {ops:Array Oper} {Q:Exit->Act->World->Prop} {rest:List Oper}
theorem zW (zs:List Value) (n:Nat):Builtin.zeroCells zs.toArray n=((List.replicate n zs).flatten).toArray:=by
 unfold Builtin.zeroCells;apply Array.ext
 ·simp
 ·intro i h1 h2;have hi:i<n*zs.length:=by simpa using h1
  have hz:0<zs.length:=by
   rcases Nat.eq_zero_or_pos zs.length with e | e
   ·rw [e] at hi;omega
   ·exact e
  have hm:i % zs.length<zs.length:=Nat.mod_lt _ hz;have uz:∀ (n i:Nat) (h:i<(List.replicate n zs).flatten.length),(List.replicate n zs).flatten[i]=zs[i % zs.length]'(Nat.mod_lt _ hz):=by
   intro n
   induction n with
   | zero=>intro i h;simp at h
   | succ n ih =>
    intro i h;have e:(List.replicate (n+1) zs).flatten=zs++(List.replicate n zs).flatten:=by simp [List.replicate_succ]
    rw [List.getElem_of_eq e];by_cases hl:i<zs.length
    ·rw [ZaJ hl];congr 1;exact (Nat.mod_eq_of_lt hl).symm
    ·rw [Zap (by omega),ih];congr 1;exact (Nat.mod_eq_sub_mod (by omega)).symm
  have:=uz n i (by simpa using hi);rw [show (List.replicate n zs).flatten.toArray[i]=(List.replicate n zs).flatten[i]'(by simpa using hi) from I,this];simp [hm]
theorem Ci {t e:TypeId} {x:Operand} {g o n cap:Nat} {E:TypeId} {cs zs:List Value} {z:Value} [hu:iI P t (.slice e)] [hZ:mA P e z]
  (hx:Is sl x (.slice (some ⟨g,o,none⟩) n cap)) (ht:Take hs (bu g (.cells cs.toArray E (0,0))) hs') (hz:z.cells=zs.toArray) (h1:∀ u∈zs,u.oneCell'=true) (hfit:o+n*zs.length<=cs.length)
  (k:Tr c D sl (bu g (.cells (setCells cs o (List.replicate n zs).flatten).toArray E (0,0))::hs') (WL P r ops Q rest)) :
  Tr c D sl hs (WL P r ops Q (⟨none,.call ⟨.builtin .clear,#[x],#[t]⟩,ty,pos,af,none⟩::rest)):=fun a w bb=>by
 have hm:=bb.mem.take (ht.append _);have hg:w.heap[g]? = some (.cells cs.toArray E (0,0)):=hm.bu .here;obtain ⟨w',h3,h4,h5⟩:=iy (P:=P) (o:=o) (List.replicate n zs).flatten 0 cs w hg (fun u hu=>by
  obtain ⟨l,hl,TE⟩:=Zbu.1 hu;rw [List.eq_of_mem_replicate hl] at TE;exact h1 u TE) (by
  have:(List.replicate n zs).flatten.length=n*zs.length:=by simp
  omega)
 refine mJ I ⟨eh _ _ _ _ _,?_⟩;rw [Oper.semAt_eq _ _ _ (by simp)];have:(execOp a.eval ⟨none,.call ⟨.builtin .clear,#[x],#[t]⟩,ty,pos,af,none⟩).run P w=.ok (.value (.tuple #[])) w':=by
  cases n with
  | zero =>
   simp [execOp,resolve,invoke,builtin,hx a bb.dw,Builtin.clear_,aX hu.eq];simpa [storeCells] using h3
  | succ n =>
   simp [execOp,resolve,invoke,builtin,hx a bb.dw,Builtin.clear_,aX hu.eq,jf (t:=e) (v:=z),hz,zW];simp [h3]
 rw [this];have me:=Mem.store hm h4 h5;exact k _ _ (bb.heap me)
end
end Go.SL
namespace Go.SL
open Go
section
variable {α:Type} {f:α->List Value} {sz:Nat}
theorem ju (hf:∀ x,(f x).length=sz) (l:List α):(l.map f).flatten.length=l.length*sz:=by
 rw [fU (sz:=sz) (fun r hr=>by obtain ⟨x,_,rfl⟩:=Zw.1 hr;exact hf x),Zd]
theorem sO (hf:∀ x,(f x).length=sz) {l:List α} {i:Nat} (h:i<l.length) (cur:List Value):eL ((l.map f).flatten++cur) (i*sz) sz=f l[i]:=by
 have hl:l=l.take i++l[i]::l.drop (i+1):=by rw [<- Zt h,ZX]
 have e:(l.map f).flatten=((l.take i).map f).flatten++(f l[i]++((l.drop (i+1)).map f).flatten):=
  (congrArg (fun m=>(List.map f m).flatten) hl).trans (by simp only [Zy,Zag,Z4,Zak])
 have hk:((l.take i).map f).flatten.length=i*sz:=by rw [ju hf,ZaO (by omega)]
 rw [jM,e,Zh,<- hk,List.drop_append_of_le_length (by omega),ZY,Za,<- hf l[i],Zh,Zai (by omega),ZL]
theorem uG {cs:List Value} {o n j:Nat} (hj:j<n):(eL cs o n)[j]? = cs[o+j]?:=by
 rw [jM,ZN,if_pos hj,Zbl]
theorem Mg (hf:∀ x,(f x).length=sz) {l:List α} {i j:Nat} (h:i<l.length) (hj:j<sz) (cur:List Value):((l.map f).flatten++cur)[i*sz+j]? = (f l[i])[j]?:=by
 rw [<- sO hf h cur,uG hj]
theorem Au:∀ (A B C Z:List Value),Z.length=B.length->setCells (A++(B++C)) A.length Z=A++(Z++C):=by
 intro A B C Z h;apply Zat;intro k;rw [hG _ _ _ _ (by simp;omega)];by_cases h1:k<A.length
 ·rw [if_neg (by omega),Zx h1,Zx h1]
 ·by_cases h2:k-A.length<Z.length
  ·rw [if_pos (by omega),ZC (show A.length<=k by omega),Zx h2]
  ·rw [if_neg (by omega),ZC (show A.length<=k by omega),ZC (show A.length<=k by omega),ZC (show B.length<=k-A.length by omega),ZC (show Z.length<=k-A.length by omega),h]
theorem Mf (hf:∀ x,(f x).length=sz) {l:List α} {i:Nat} (h:i<l.length) (x:α) (cur:List Value):setCells ((l.map f).flatten++cur) (i*sz) (f x)=((l.set i x).map f).flatten++cur:=by
 have hl:l=l.take i++l[i]::l.drop (i+1):=by rw [<- Zt h,ZX]
 have e:(l.map f).flatten=((l.take i).map f).flatten++(f l[i]++((l.drop (i+1)).map f).flatten):=
  (congrArg (fun m=>(List.map f m).flatten) hl).trans (by simp only [Zy,Zag,Z4,Zak])
 have e2:((l.set i x).map f).flatten=((l.take i).map f).flatten++(f x++((l.drop (i+1)).map f).flatten):=by
  rw [List.set_eq_take_append_cons_drop,if_pos h];simp
 have hk:((l.take i).map f).flatten.length=i*sz:=by rw [ju hf,ZaO (by omega)]
 rw [e,e2,Zh,Zh,Zh,Zh,<- hk];exact Au _ _ _ _ (by rw [hf,hf])
theorem GC (hf:∀ x,(f x).length=sz) (A B:List α) (Z cur:List Value) (hz:Z.length=B.length*sz):setCells (((A++B).map f).flatten++cur) (A.length*sz) Z=(A.map f).flatten++(Z++cur):=by
 rw [Zy,Zag,Zh,<- ju hf A];exact Au _ _ _ _ (by rw [hz,ju hf])
theorem tl {g k n cap:Nat} (sz:Nat) (h:k<n) (hc:n<=cap):Go.sliced (some ⟨g,0,none⟩) ((k:Nat):Int).toNat n cap sz=.slice (some ⟨g,k*sz,none⟩) (n-k) (cap-k):=by
 unfold Go.sliced;rw [if_neg (by rw [ZE];omega),ZE];simp [eO]
theorem tp (g k cap sz:Nat):Go.sliced (some ⟨g,0,none⟩) 0 ((k:Nat):Int).toNat cap sz=.w g k cap:=by
 unfold Go.sliced;rw [ZE];by_cases h:cap=0
 ·rw [if_pos h];simp
 ·rw [if_neg h];simp [eO]
theorem filter_lt {q:α->Bool} {l:List α} {i:Nat} (hi:i<l.length) (h:q l[i]=false):(l.filter q).length<l.length:=
 List.length_filter_lt_length_iff_exists.2 ⟨l[i],Zj hi,by simp [h]⟩
def vD (q:α->Bool) (l:List α) (j:Nat):List α:=(l.take j).filter q++l.drop ((l.take j).filter q).length
def mi (q:α->Bool) (l:List α) (j:Nat):Nat:=((l.take j).filter q).length
theorem oH (q:α->Bool) (l:List α) {j:Nat} (hj:j<=l.length):mi q l j<=j:=by
 have:=ZW q (l.take j);rw [ZaO hj] at this;exact this
theorem Gy (q:α->Bool) (l:List α) {j:Nat} (hj:j<=l.length):(vD q l j).length=l.length:=by
 have:=oH q l hj;unfold mi at this;unfold vD;rw [Zg,ZaU];omega
theorem Gz (q:α->Bool) (l:List α) {j:Nat} (hj:j<l.length):∃ h:j<(vD q l j).length,(vD q l j)[j]=l[j]:=by
 have:=oH q l (Nat.le_of_lt hj);unfold mi at this;have h:(vD q l j)[j]? = some l[j]:=by
  unfold vD;rw [ZC this,Zbl,<- Zc hj];congr 1;omega
 exact Zl.1 h
theorem vT (q:α->Bool) (l:List α) {j:Nat} (hj:j<l.length):(l.take (j+1)).filter q=(l.take j).filter q++if q l[j] then [l[j]] else []:=by
 rw [Zm hj,ZaL];congr 1;by_cases h:q l[j]=true
 ·rw [Zbv h,if_pos h];rfl
 ·rw [List.filter_cons_of_neg h,if_neg h];rfl
theorem E4 (q:α->Bool) (l:List α) {j:Nat} (hj:j<l.length) (hq:q l[j]=false):vD q l (j+1)=vD q l j/\mi q l (j+1)=mi q l j:=by
 have e:(l.take (j+1)).filter q=(l.take j).filter q:=by rw [vT q l hj,hq];simp
 unfold vD mi;rw [e];exact ⟨I,I⟩
theorem Gx (q:α->Bool) (l:List α) {j:Nat} (hj:j<l.length) (hq:q l[j]=true):vD q l (j+1)=(vD q l j).set (mi q l j) l[j]/\mi q l (j+1)=mi q l j+1:=by
 have e:(l.take (j+1)).filter q=(l.take j).filter q++[l[j]]:=by rw [vT q l hj,if_pos hq]
 have hle:=oH q l (Nat.le_of_lt hj);unfold mi at hle;have hm:((l.take j).filter q).length<l.length:=by omega
 unfold vD mi;rw [e];refine ⟨?_,by simp⟩;rw [Zbm _ _ (Zv _),Nat.sub_self,Zt hm,List.set_cons_zero,Zg,Zh]
 rfl
theorem GA (q:α->Bool) (l:List α):vD q l l.length=l.filter q++l.drop (l.filter q).length/\mi q l l.length=(l.filter q).length:=by
 unfold vD mi;rw [ZL];exact ⟨I,I⟩
theorem zH (q:α->Bool) (l:List α) {i:Nat} (hi:i<l.length) (hb:∀ j (h:j<i),q (l[j]'(by omega))=true) (hq:q l[i]=false):vD q l (i+1)=l/\mi q l (i+1)=i:=by
 have e:(l.take i).filter q=l.take i:=ZaF.2 fun x hx=>by
  obtain ⟨j,hj,rfl⟩:=ZA hx;rw [ZaP];exact hb j (by rw [Zs] at hj;omega)
 obtain ⟨h1,h2⟩:=E4 q l hi hq;rw [h1,h2];unfold vD mi;rw [e,ZaO (by omega),ZX];exact ⟨I,I⟩
end
end Go.SL
namespace Go.Proofs.A1
open Go Go.SL
open Tryz
open Tryz renaming prog->T_
variable {cap first:List Value} {lv:Value} {o:ByteArray} {p q:ByteArray->Bool} {v:Value}
theorem C8 {l:List ByteArray} {f:FuncId} [bN T_ f] {w:World} (h:Rd w lv 1 (fN l)) (cV:∀ x∈l,∀ w',aI [] w w'->an T_ f (first++[.string x]++cap) w' (.bool (p x))) :
  an T_ 299 [lv,.func (.func f) first.toArray cap.toArray] w (.q (iN p l)):=by
 obtain ⟨a,cp,b,o,rfl,dC,ch,ha,hc⟩:=h;rw [bG] at *;unfold maxLen at ch;refine aj func299 I I ?_;refine Jr<|Ja I<|Jn<|Jq<|Jr<|Jv I<|JI I<|Jv I<|Jn<|J0 ?_;refine aV (fun k:Nat=>k<=l.length/\∀ i,i<k->(l[i]?.map p).getD false=false) (fun k=>[(8,.int .i64 k),(7,.int .i64 l.length),(0,.slice a l.length cp),(1,.func (.func f) first.toArray cap.toArray)]) (fun _=>[]) (fun k=>l.length-k) ?_ ?_
 ·apply aH 0 ⟨Zi _,fun i h=>by omega⟩
  case hs1=>exact bT
  case ht=>(try simp only [Ze,Zf,Za]);exact .nil
 rintro k ⟨hk,hf⟩;by_cases aL:k<l.length
 ·have cY:=ha (iU aL);have c0:w.cell? ⟨b,o+k*1,none⟩=some (.string l[k]):=(hc k _ (fH aL)).2 0 _ I;have iZ:=cV _ (Zj aL);have hps:(l[k]?.map p).getD false=p l[k]:=by simp [aL]
  (refine Jr<|JA I<|Jn<|Jq<|Jd I fun aA=>Jk<|Jq<|J0<|Jr<|Jv I<|Ja I<|Ji<|Jv I<|Jv I<|Jv I<|ab (gE cY aA) I<|ab (ag (.of I) (At.base c0 I)) I<|ah bJ I (fun w' aB=>(iZ w' (Mem.keeps aB)))<|Jn<|oK I (fun aA=>?_) fun aA=>?_;refine Jr<|Jv I<|Ja I<|Jn<|Je<|Jm<|Jh<|Jh<|Jm<|Jh<|JT ?_;rotate_left;refine Jw<|Jj<|Jt<|Jg<|JB I (by omega)<|Jv I<|Jn ?_;rotate_right)
  ·rw [gN hf aL aA]
  ·apply aG (k+1) ⟨by omega,fun i hi=>by
    by_cases e:i=k
    ·rw [e,hps];exact aA
    ·exact hf i (by omega)⟩ (by omega)
   case hs1=>exact bT
   case ht=>(try simp only [Ze,Zf,Za]);exact .nil
 ·obtain rfl:k=l.length:=by omega
  refine Jr<|JA I<|Jn<|Jq<|Jc I fun aA=>Jp<|Jl<|Jo<|Jt<|Jr<|Ja I<|Jn<|Je<|JT ?_;rw [fO hf]
theorem L4 {l:List ByteArray} {f:FuncId} [bN T_ f] {w:World} (h:Rd w lv 1 (fN l)) (cV:∀ x∈l,∀ w',aI [] w w'->an T_ f (first++[.string x]++cap) w' (.bool (p x))) :
  an T_ 250 [lv,.func (.func f) first.toArray cap.toArray] w (.bool (l.any p)):=by
 have iZ:∀ w',aI [] w w'->an T_ 299 [lv,.func (.func f) first.toArray cap.toArray] w' (.q (iN p l)):=fun w' hk=>
  C8 (h.keeps hk) fun x hx w2 fg=>cV x hx w2 (hk.trans fg)
 rw [<- lb];refine aj func250 I I ?_
 (refine Jr<|Ja I<|Ji<|Jv I<|Jv I<|ah bn I (fun w' aB=>(iZ w' (Mem.keeps aB)))<|JG I<|Ja I<|Jn<|Je<|JT ?_)
 rfl
set_option maxHeartbeats 1000000 in
theorem Mp {n:Nat} {l:List ByteArray} {f:FuncId} [bN T_ f] {w:World} {fp:List Nat} (iB:fp.Nodup) (hs:cy (hp w) [row 9 1 v n (aR l)] fp) (hn:l.length=n) (c6:n<=1000000)
  (cV:∀ x∈l,∀ w',aI fp w w'->an T_ f (first++[.string x]++cap) w' (.bool (p x))) :
  a8 T_ 224 [v,.func (.func f) first.toArray cap.toArray] w fp (fun _:Value=>True) id (fun v'=>[row 9 1 v' (l.filter fun x=>!p x).length (aR (l.filter fun x=>!p x))]):=by
 refine dT func224 I I iB hs ?_;refine Jr<|Ja I<|Ji<|Jv I<|Jv I ?_;refine aK (by exact .here) fun va vc e=>?_;subst e
 skip
 with_reducible apply ah
 case hr=>exact bn
 case hd=>rfl
 case hc=>
  intro w' aB;have hR:Rd w' (.slice va n vc) 1 (fN l):=ez aB (by exact .here) hn;exact C8 (f:=f) (p:=p) (first:=first) (cap:=cap) hR (fun x hx w2 fg=>cV x hx w2 (aB.keeps.trans (fg.mono (by simp))))
 rcases qA p l with ⟨e1,e2⟩ | ⟨i,hi,e1,e2⟩
 ·rw [e1];have uz:(l.filter fun x=>!p x)=l:=ZaF.2 fun x hx=>by
   have:=ZaM.1 e2 x hx;simpa using this
  rw [uz];refine Ja I<|Jn<|Jq<|Jr<|Jv I<|JC I<|Jn<|Jd I fun aA=>Jr<|Jv I<|Ja I<|Jn<|Ju ?_
  with_reducible first|apply aO|apply aP
  case he=>exact dN I I
  case hR=>
   intro w' aB;exact aC (.slice va n vc) trivial (show bj _ [row 9 1 (.slice va n vc) l.length (aR l)] _ by rw [hn];exact .h1 .nil) aB I
 rw [e1];rw [ZaD] at e2;obtain ⟨Rl,i',yu,ID,dQ⟩:=e2;have Dj:i'=i:=by
  have h1:iN p l=(i':Nat):=gN (fun j hj=>by
   rw [Zc (by omega)];simpa using dQ j hj) yu (by rw [ID];exact Rl)
  rw [e1] at h1
  exact_mod_cast h1.symm
 subst Dj;obtain ⟨st1,st2⟩:=zH (fun x=>!p x) l yu (fun j hj=>dQ j hj) (by rw [ID];simp [Rl]);have hne:¬ ((i':Nat):Int) = -1:=by omega
 refine Ja I<|Jn<|Jq<|Jr<|Jv I<|JC I<|Jn<|Jc I fun aA=>Jk<|Jq<|Jr<|Jv I<|JB I (by omega)<|Ja I<|Jn<|J0 ?_;refine cm (by exact .here) (by omega) ?_;rintro g iv cur e oP pO hsz hl;cases e;have hF:∀ x,((fun s:ByteArray=>[Value.string s]) x).length=1:=fun _=>rfl
 have hV:∀ l,aR l=(l.map (fun s:ByteArray=>[Value.string s])).flatten:=fun l=>ph l
 refine aV (fun j:Nat=>i'<j/\j<=l.length) (fun j=>[(6,.q (j:Nat)),(5,.q (mi (fun x=>!p x) l j)),(0,.w g n vc),(1,.func (.func f) first.toArray cap.toArray)])
  (fun j=>[bu g (.cells (((vD (fun x=>!p x) l j).map (fun s:ByteArray=>[Value.string s])).flatten++cur).toArray 9 (0,0))]) (fun j=>l.length-j) ?_ ?_
 ·apply aH (i'+1) ⟨by omega,by omega⟩
  case hs1=>rw [st2];exact .cons I (.cons I (.cons I (.cons I .nil)))
  case ht=>rw [st1,<- hV];exact .h1 .nil
 rintro j ⟨hj,hk⟩;by_cases aL:j<l.length
 ·have vz:j<n:=by omega
  have hle:=oH (fun x=>!p x) l hk
  have uz:=Gy (fun x=>!p x) l hk
  obtain ⟨hjf,hgj⟩:=Gz (fun x=>!p x) l aL;have c0:=Mg hF hjf (show 0<1 by omega) cur;rw [hgj] at c0;have c1:(((vD (fun x=>!p x) l j).map (fun s:ByteArray=>[Value.string s])).flatten++cur)[j*1]? = some (.string l[j]):=c0
  (refine Jq<|Jr<|Jv I<|Jv I<|JI I<|JA I<|Jn<|Jd I fun aA=>Jk<|Jq<|J0<|Jr<|Jv I<|Jv I<|ab (ao (.of I) (.of I) I (by omega) aA aW) I ?_;refine ab (ag (.of I) (At.kB .here c1)) I ?_;refine Ja I<|Ji<|Jv I<|Jv I ?_)
  with_reducible apply ah
  case hr=>exact bJ
  case hd=>rfl
  case hc=>
   intro w' aB;exact cV l[j] (Zj aL) w' aB.keeps
  have hm:mi (fun x=>!p x) l j<(vD (fun x=>!p x) l j).length:=by rw [uz];have:=st2;omega
  have hb:mi (fun x=>!p x) l j*1+1<=(((vD (fun x=>!p x) l j).map (fun s:ByteArray=>[Value.string s])).flatten++cur).length:=by rw [Zg,ju hF,uz];omega
  have qN:=Mf hF hm l[j] cur;have hmn:mi (fun x=>!p x) l j<n:=by omega
  cases hq:p l[j] with
  | true =>
   obtain ⟨s1,s2⟩:=E4 (fun x=>!p x) l aL (by simp [hq])
   (refine JH I<|Jn<|cd (.of I)<|Jw<|Jj<|Jt<|Jg<|Jv I<|JB I (by omega)<|Ja I<|Jn ?_)
   apply aG (j+1) ⟨by omega,by omega⟩ (by omega)
   case hs1=>rw [s2];exact .cons I (.cons I (.cons I (.cons I .nil)))
   case ht=>rw [s1];exact .h1 .nil
  | false =>
   obtain ⟨s1,s2⟩:=Gx (fun x=>!p x) l aL (by simp [hq])
   (refine JH I<|Jn<|c5 (.of I) ?_;refine Jr<|Jv I<|Jv I<|Jv I<|ab (ao (.of I) (.of I) I (by omega) (by omega) aW) I ?_;refine ak (.of I) (.of I) .here I I (dE I) hb qN ?_;refine Jn<|Jg<|Jv I<|JB I (by omega)<|Ja I<|Jx<|Jj<|Jt<|Jg<|Jv I<|JB I (by omega)<|Ja I<|Jn ?_)
   apply aG (j+1) ⟨by omega,by omega⟩ (by omega)
   case hs1=>rw [s2];exact .cons I (.cons I (.cons I (.cons I .nil)))
   case ht=>rw [s1];exact .h1 .nil
 ·obtain rfl:j=l.length:=by omega
  obtain ⟨a1,a2⟩:=GA (fun x=>!p x) l;have hle:=oH (fun x=>!p x) l (Zv _)
  rw [a1,a2];rw [a2] at hle;have hZ:=GC hF (l.filter fun x=>!p x) (l.drop (l.filter fun x=>!p x).length) (List.replicate (n-(l.filter fun x=>!p x).length) [Value.string ⟨#[]⟩]).flatten cur (by simp;omega)
  have Rk:(l.filter fun x=>!p x).length<l.length:=filter_lt yu (by rw [ID];simp [Rl])
  generalize (l.filter fun x=>!p x)=q at hle hZ Rk ⊢
  have hqn:q.length<n:=by omega
  have Vb:q.length<=vc:=by omega
  have hfit:q.length*1+(n-q.length)*[Value.string ⟨#[]⟩].length<=(((q++l.drop q.length).map (fun s:ByteArray=>[Value.string s])).flatten++cur).length:=by
   rw [Zg,ju hF,Zg,ZaU];simp only [ZB,Zaf];omega
  refine Jq<|Jr<|Jv I<|Jv I<|JI I<|JA I<|Jn<|Jc I fun aA=>Jp<|Jl<|Jo<|Jt<|Jr<|Jv I<|Jv I<|ab (od (.of I) (.of I) (by omega) (by omega)) I ?_;rw [tl 1 hqn oP];refine Ci (zs:=[Value.string ⟨#[]⟩]) (z:=.string ⟨#[]⟩) (.of I) .here I (dE I) hfit ?_;rw [hZ]
  (refine Ji<|Jv I<|Jv I<|ab (hY (.of I) (.of I) (by omega) (by omega)) I<|Ja I<|Jn<|Je ?_)
  rw [tp];have A8:((q.map (fun s:ByteArray=>[Value.string s])).flatten++((List.replicate (n-q.length) [Value.string ⟨#[]⟩]).flatten++cur)).length=vc*1:=by
   rw [<- hsz,Zg,ju hF,Zg,Zg,<- hn,hV,ju hF];have:(List.replicate (l.length-q.length) [Value.string ⟨#[]⟩]).flatten.length=(l.length-q.length)*1:=by simp
   rw [this];omega
  refine ct (n:=q.length) (sz:=1) (by exact .here) Vb pO A8 (by rw [ju hF]) ?_
  skip
  with_reducible first|apply aO|apply aP
  case he=>exact dN I I
  case hR=>
   intro w' aB;exact aC (.w g q.length vc) trivial (show bj _ [row 9 1 (.w g q.length vc) q.length (aR q)] _ by rw [hV];exact .h1 .nil) aB I
set_option maxHeartbeats 1000000 in
theorem Qg {n:Nat} {l:List Po} {p:Po->Bool} {f:FuncId} [bN T_ f] {w:World} {fp:List Nat} (iB:fp.Nodup) (hs:cy (hp w) [row 188 3 v n (eF l)] fp) (hn:l.length=n) (c6:n<=1000000)
  (cV:∀ x∈l,∀ w',aI fp w w'->an T_ f (first++[.agg x.cells.toArray]++cap) w' (.bool (p x))) :
  a8 T_ 314 [v,.func (.func f) first.toArray cap.toArray] w fp (fun _:Value=>True) id (fun v'=>[row 188 3 v' (l.filter fun x=>!p x).length (eF (l.filter fun x=>!p x))]):=by
 refine dT func314 I I iB hs ?_;refine Jr<|Ja I<|Ji<|Jv I<|Jv I ?_;refine aK (by exact .here) fun va vc e=>?_;subst e
 skip
 with_reducible apply ah
 case hr=>exact bn
 case hd=>rfl
 case hc=>
  intro w' aB;have hR:Rd w' (.slice va n vc) 3 (uf l):=cq aB (by exact .here) hn;exact A6 (f:=f) (p:=p) (first:=first) (cap:=cap) hR (fun x hx w2 fg=>cV x hx w2 (aB.keeps.trans (fg.mono (by simp))))
 rcases qA p l with ⟨e1,e2⟩ | ⟨i,hi,e1,e2⟩
 ·rw [e1];have uz:(l.filter fun x=>!p x)=l:=ZaF.2 fun x hx=>by
   have:=ZaM.1 e2 x hx;simpa using this
  rw [uz];refine Ja I<|Jn<|Jq<|Jr<|Jv I<|JC I<|Jn<|Jd I fun aA=>Jr<|Jv I<|Ja I<|Jn<|Ju ?_
  with_reducible first|apply aO|apply aP
  case he=>exact dN I I
  case hR=>
   intro w' aB;exact aC (.slice va n vc) trivial (show bj _ [row 188 3 (.slice va n vc) l.length (eF l)] _ by rw [hn];exact .h1 .nil) aB I
 rw [e1];rw [ZaD] at e2;obtain ⟨Rl,i',yu,ID,dQ⟩:=e2;have Dj:i'=i:=by
  have h1:iN p l=(i':Nat):=gN (fun j hj=>by
   rw [Zc (by omega)];simpa using dQ j hj) yu (by rw [ID];exact Rl)
  rw [e1] at h1
  exact_mod_cast h1.symm
 subst Dj;obtain ⟨st1,st2⟩:=zH (fun x=>!p x) l yu (fun j hj=>dQ j hj) (by rw [ID];simp [Rl]);have hne:¬ ((i':Nat):Int) = -1:=by omega
 refine Ja I<|Jn<|Jq<|Jr<|Jv I<|JC I<|Jn<|Jc I fun aA=>Jk<|Jq<|Jr<|Jv I<|JB I (by omega)<|Ja I<|Jn<|J0 ?_;refine cm (by exact .here) (by omega) ?_;rintro g iv cur e oP pO hsz hl;cases e;have hF:∀ x,(Po.cells x).length=3:=fun _=>rfl
 have hV:∀ l,eF l=(l.map Po.cells).flatten:=fun l=>rfl
 refine aV (fun j:Nat=>i'<j/\j<=l.length) (fun j=>[(6,.q (j:Nat)),(5,.q (mi (fun x=>!p x) l j)),(0,.w g n vc),(1,.func (.func f) first.toArray cap.toArray)])
  (fun j=>[bu g (.cells (((vD (fun x=>!p x) l j).map Po.cells).flatten++cur).toArray 188 (0,0))]) (fun j=>l.length-j) ?_ ?_
 ·apply aH (i'+1) ⟨by omega,by omega⟩
  case hs1=>rw [st2];exact .cons I (.cons I (.cons I (.cons I .nil)))
  case ht=>rw [st1,<- hV];exact .h1 .nil
 rintro j ⟨hj,hk⟩;by_cases aL:j<l.length
 ·have vz:j<n:=by omega
  have hle:=oH (fun x=>!p x) l hk
  have uz:=Gy (fun x=>!p x) l hk
  obtain ⟨hjf,hgj⟩:=Gz (fun x=>!p x) l aL;have c0:=sO hF hjf cur;rw [hgj] at c0;have c1:eL (((vD (fun x=>!p x) l j).map Po.cells).flatten++cur) (j*3) 3=[.int .i64 (l[j]).lv,.string (l[j]).ou,.string (l[j]).ip]:=c0
  (refine Jq<|Jr<|Jv I<|Jv I<|JI I<|JA I<|Jn<|Jd I fun aA=>Jk<|Jq<|J0<|Jr<|Jv I<|Jv I<|ab (ao (.of I) (.of I) I (by omega) aA aW) I ?_;refine ab (bQ (.of I) .here c1 I) I ?_;refine Jz I I fun _ _=>ak (.of I) (.of I) .here I I (fc I I I) (br I) ai ?_;refine Ji<|Jv I<|ab (bU .here) I ?_)
  with_reducible apply ah
  case hr=>exact bJ
  case hd=>rfl
  case hc=>
   intro w' aB;exact cV l[j] (Zj aL) w' aB.keeps
  have hm:mi (fun x=>!p x) l j<(vD (fun x=>!p x) l j).length:=by rw [uz];have:=st2;omega
  have hb:mi (fun x=>!p x) l j*3+3<=(((vD (fun x=>!p x) l j).map Po.cells).flatten++cur).length:=by rw [Zg,ju hF,uz];omega
  have qN:=Mf hF hm l[j] cur;have hmn:mi (fun x=>!p x) l j<n:=by omega
  cases hq:p l[j] with
  | true =>
   obtain ⟨s1,s2⟩:=E4 (fun x=>!p x) l aL (by simp [hq])
   (refine JH I<|Jn<|cd (.of I)<|Jw<|Jj<|Jt<|Jg<|Jv I<|JB I (by omega)<|Ja I<|Jn ?_)
   apply aG (j+1) ⟨by omega,by omega⟩ (by omega)
   case hs1=>rw [s2];exact .cons I (.cons I (.cons I (.cons I .nil)))
   case ht=>rw [s1];exact .cons (.there .here) .nil
  | false =>
   obtain ⟨s1,s2⟩:=Gx (fun x=>!p x) l aL (by simp [hq])
   (refine JH I<|Jn<|c5 (.of I) ?_;refine Jr<|Jv I<|Jv I<|ab (bU .here) I ?_;refine ab (ao (.of I) (.of I) I (by omega) (by omega) aW) I ?_;refine ak (.of I) (.of I) (.there .here) I I (fc I I I) hb qN ?_;refine Jn<|Jg<|Jv I<|JB I (by omega)<|Ja I<|Jx<|Jj<|Jt<|Jg<|Jv I<|JB I (by omega)<|Ja I<|Jn ?_)
   apply aG (j+1) ⟨by omega,by omega⟩ (by omega)
   case hs1=>rw [s2];exact .cons I (.cons I (.cons I (.cons I .nil)))
   case ht=>rw [s1];exact .h1 .nil
 ·obtain rfl:j=l.length:=by omega
  obtain ⟨a1,a2⟩:=GA (fun x=>!p x) l;have hle:=oH (fun x=>!p x) l (Zv _)
  rw [a1,a2];rw [a2] at hle;have hZ:=GC hF (l.filter fun x=>!p x) (l.drop (l.filter fun x=>!p x).length) (List.replicate (n-(l.filter fun x=>!p x).length) [Value.int .i64 0,Value.string ⟨#[]⟩,Value.string ⟨#[]⟩]).flatten cur (by simp;omega)
  have Rk:(l.filter fun x=>!p x).length<l.length:=filter_lt yu (by rw [ID];simp [Rl])
  generalize (l.filter fun x=>!p x)=q at hle hZ Rk ⊢
  have hqn:q.length<n:=by omega
  have Vb:q.length<=vc:=by omega
  have hfit:q.length*3+(n-q.length)*[Value.int .i64 0,Value.string ⟨#[]⟩,Value.string ⟨#[]⟩].length<=(((q++l.drop q.length).map Po.cells).flatten++cur).length:=by
   rw [Zg,ju hF,Zg,ZaU];simp only [ZB,Zaf];omega
  refine Jq<|Jr<|Jv I<|Jv I<|JI I<|JA I<|Jn<|Jc I fun aA=>Jp<|Jl<|Jo<|Jt<|Jr<|Jv I<|Jv I<|ab (od (.of I) (.of I) (by omega) (by omega)) I ?_;rw [tl 3 hqn oP];refine Ci (zs:=[Value.int .i64 0,Value.string ⟨#[]⟩,Value.string ⟨#[]⟩]) (z:=.agg #[.q 0,.string ⟨#[]⟩,.string ⟨#[]⟩]) (.of I) .here I (fc I I I) hfit ?_;rw [hZ]
  (refine Ji<|Jv I<|Jv I<|ab (hY (.of I) (.of I) (by omega) (by omega)) I<|Ja I<|Jn<|Je ?_)
  rw [tp];have A8:((q.map Po.cells).flatten++((List.replicate (n-q.length) [Value.int .i64 0,Value.string ⟨#[]⟩,Value.string ⟨#[]⟩]).flatten++cur)).length=vc*3:=by
   rw [<- hsz,Zg,ju hF,Zg,Zg,<- hn,hV,ju hF];have:(List.replicate (l.length-q.length) [Value.int .i64 0,Value.string ⟨#[]⟩,Value.string ⟨#[]⟩]).flatten.length=(l.length-q.length)*3:=by simp
   rw [this];omega
  refine ct (n:=q.length) (sz:=3) (by exact .here) Vb pO A8 (by rw [ju hF]) ?_
  skip
  with_reducible first|apply aO|apply aP
  case he=>exact dN I I
  case hR=>
   intro w' aB;exact aC (.w g q.length vc) trivial (show bj _ [row 188 3 (.w g q.length vc) q.length (eF q)] _ by rw [hV];exact .h1 .nil) aB I
theorem eR {w w':World} {a:Addr} {md:List Nat} (h:w.cell? a=some v) (hs:a.spot=none) (hn:a.block ∉ md) (hk:aI md w w'):w'.cell? a=some v:=by
 have hb:=World.block_lt_of_cell? w a h;obtain ⟨b,o,s⟩:=a;subst hs;have:=hk.block b hb hn;rw [<- h];simp [World.cell?,this]
theorem MB {q:Bool} {f:FuncId} [bN T_ f] {b5:Nat} {w:World} (f5:w.cell? ⟨b5,0,none⟩=some (.func (.func f) first.toArray cap.toArray))
  (cV:∀ w',aI [] w w'->an T_ f (first++[.string o]++cap) w' (.bool q)) :
  an T_ 225 [.string o,.p b5] w (.bool (!q)):=by
 refine aj func225 I I ?_
 (refine Jr<|Ja I<|Ji<|ab (ag (.of I) (At.base f5 I)) I<|Jv I ?_)
 refine ah bJ I (fun w' aB=>cV w' aB.keeps) ?_;refine JH I<|Ja I<|Jn<|Je<|JT ?_
 rfl
theorem Fa {l:List Ti} {f:FuncId} [bN T_ f] {w:World} (h:Rd w lv 3 (u7 l)) (hn:l.length<=1000000)
  (cV:∀ o w',aI [] w w'->an T_ f (first++[.string o]++cap) w' (.bool (q o))) :
  a8 T_ 118 [lv,.func (.func 119) #[] #[],.func (.func f) first.toArray cap.toArray] w [] (fun _:Value=>True) id (fun v=>[row 9 1 v ((l.map Ti.nm).filter q).length (aR ((l.map Ti.nm).filter q))]):=by
 have tb:=Rd.one h;refine aS func118 I I ?_;refine Jr<|Jy I I fun _ _=>Ja I<|Ji<|Jv I<|Jv I ?_;rename_i b5 HS;refine JN bn I (fun w1 aT=>O3 (f:=119) (first:=[]) (cap:=[]) (g:=Ti.nm) (h.keeps aT.keeps) hn (fun x _ w2 _=>K4 x w2)) ?_
 intro nv _;dsimp only [id_eq,Zb,Za];refine ab (bC .nil (.o I .nil)) I ?_
 with_reducible apply eH (As:=[row 9 1 nv l.length (aR (l.map Ti.nm))])
 case hr=>exact bn
 case hd=>rfl
 case ht=>exact jv
 case hc=>
  intro w1 Bt aT uN hs1 Ds ku;have h5:b5 ∉ Bt:=ku b5 _ _ (by exact .here);have f5:w1.cell? ⟨b5,0,none⟩=some (.func (.func f) first.toArray cap.toArray):=At.lit (by exact Take.there .here) I w1 aT
  exact Mp (f:=225) (p:=fun o=>!q o) (first:=[]) (cap:=[.p b5]) uN hs1 (by rw [Zd]) hn
   (fun o _ w2 fg=>MB (eR f5 I h5 fg) (fun w3 hk3=>cV o w3 ((aT.keeps.over (fun b hb=>Ds b hb) fg).trans hk3)))
 intro v' _;dsimp only [id_eq,Zb,Za];simp only [Bool.not_not];refine Ja I<|Jn<|Je ?_
 with_reducible first|apply aO|apply aP
 case he=>exact dN I I
 case hR=>
  intro w' aB;exact aC v' trivial (by exact .h1 .nil) aB I
theorem MC {q:Bool} {f:FuncId} [bN T_ f] {b5:Nat} {w:World} (f5:w.cell? ⟨b5,0,none⟩=some (.func (.func f) first.toArray cap.toArray))
  (cV:∀ w',aI [] w w'->an T_ f (first++[.string o]++cap) w' (.bool q)) :
  an T_ 226 [.string o,.p b5] w (.bool (!q)):=by
 refine aj func226 I I ?_
 (refine Jr<|Ja I<|Ji<|ab (ag (.of I) (At.base f5 I)) I<|Jv I ?_)
 refine ah bJ I (fun w' aB=>cV w' aB.keeps) ?_;refine JH I<|Ja I<|Jn<|Je<|JT ?_
 rfl
theorem Fb {l:List De} {f:FuncId} [bN T_ f] {w:World} (h:Rd w lv 3 (vG l)) (hn:l.length<=1000000)
  (cV:∀ o w',aI [] w w'->an T_ f (first++[.string o]++cap) w' (.bool (q o))) :
  a8 T_ 123 [lv,.func (.func 124) #[] #[],.func (.func f) first.toArray cap.toArray] w [] (fun _:Value=>True) id (fun v=>[row 9 1 v ((l.map De.nm).filter q).length (aR ((l.map De.nm).filter q))]):=by
 have tb:=Rd.one h;refine aS func123 I I ?_;refine Jr<|Jy I I fun _ _=>Ja I<|Ji<|Jv I<|Jv I ?_;rename_i b5 HS;refine JN bn I (fun w1 aT=>Gc (f:=124) (first:=[]) (cap:=[]) (g:=De.nm) (h.keeps aT.keeps) hn (fun x _ w2 _=>EF x w2)) ?_
 intro nv _;dsimp only [id_eq,Zb,Za];refine ab (bC .nil (.o I .nil)) I ?_
 with_reducible apply eH (As:=[row 9 1 nv l.length (aR (l.map De.nm))])
 case hr=>exact bn
 case hd=>rfl
 case ht=>exact jv
 case hc=>
  intro w1 Bt aT uN hs1 Ds ku;have h5:b5 ∉ Bt:=ku b5 _ _ (by exact .here);have f5:w1.cell? ⟨b5,0,none⟩=some (.func (.func f) first.toArray cap.toArray):=At.lit (by exact Take.there .here) I w1 aT
  exact Mp (f:=226) (p:=fun o=>!q o) (first:=[]) (cap:=[.p b5]) uN hs1 (by rw [Zd]) hn
   (fun o _ w2 fg=>MC (eR f5 I h5 fg) (fun w3 hk3=>cV o w3 ((aT.keeps.over (fun b hb=>Ds b hb) fg).trans hk3)))
 intro v' _;dsimp only [id_eq,Zb,Za];simp only [Bool.not_not];refine Ja I<|Jn<|Je ?_
 with_reducible first|apply aO|apply aP
 case he=>exact dN I I
 case hR=>
  intro w' aB;exact aC v' trivial (by exact .h1 .nil) aB I
theorem Qw {r:Ro} {s d t p:Value} (v:Int) (o:ByteArray) {b1 b2:Nat} {w:World} (h:RR w r s d t p) (hA:BR w b1 (RC r s d t p)) (f2:w.cell? ⟨b2,0,none⟩=some (.q v)) :
  an T_ 120 [.string o,.p b1,.p b2] w (.bool (gI r.po v o)):=by
 obtain ⟨h1,h2,h3,h4⟩:=h.one;have lg:∀ (j:Nat) (u:Value),[Value.int .i64 r.lv,.int .i64 r.ma,s,d,t,p][j]? = some u->w.cell? ⟨b1,0+j,none⟩=some u:=hA;refine aj func120 I I ?_
 (refine Jr<|Ja I<|Ji<|ab (ja (fo.base lg I)) I<|ab (ag (.of I) (At.base f2 I)) I<|Jv I ?_)
 refine ah dU I (fun w' aB=>rI v o (h.keeps aB.keeps)) ?_;refine Ja I<|Jn<|Je<|JT ?_
 rfl
theorem I5 {r:Ro} {s d t p:Value} (v:Int) (o so:ByteArray) {b1 b2 b3:Nat} {w:World} (h:RR w r s d t p) (c6:r.ti.length<=1000000) (hA:BR w b1 (RC r s d t p)) (f2:w.cell? ⟨b2,0,none⟩=some (.q v)) (f3:w.cell? ⟨b3,0,none⟩=some (.string so)) :
  an T_ 125 [.string o,.p b1,.p b2,.p b3] w (.bool (decide (jY r v o=so))):=by
 obtain ⟨h1,h2,h3,h4⟩:=h.one;have lg:∀ (j:Nat) (u:Value),[Value.int .i64 r.lv,.int .i64 r.ma,s,d,t,p][j]? = some u->w.cell? ⟨b1,0+j,none⟩=some u:=hA;refine aj func125 I I ?_;refine Jr<|Ja I<|Jn<|Jq ?_
 with_reducible refine cz 6 (by kernel_rfl) ?_
 (refine aq (ja (fo.base lg I)) I<|aq (ag (.of I) (At.base f2 I)) I<|fw I I<|cW dU I (fun w' aB=>(qJ v o (RR.keeps h (Mem.keeps aB)) c6))<|aq (ag (.of I) (At.base f3 I)) I<|aq (dD (.of I) (.of I)) I ?_)
 with_reducible refine cC ?_
 refine Ja I<|Jn<|Je<|JT ?_
 rfl
def MM (r:Ro) (v:Int):Int:=aY [fm r,Ge r v]
def Ic (r:Ro) (v:Int):List ByteArray:=if MM r v≠0 then [] else (cQ r).filter (gI r.po v)
theorem UT {r:Ro} {s d t p:Value} (v:Int) {w:World} (h:RR w r s d t p) (c6:mX r):a8 T_ 23 [RA r s d t p,.q v] w [] (fun _:Value=>True) (fun x=>.tuple #[x,.q (MM r v)]) (fun x=>[row 9 1 x (Ic r v).length (aR (Ic r v))]):=by
 obtain ⟨h1,h2,h3,h4⟩:=h.one;have fP:∀ w',aI [] w w'->an T_ 34 [.agg #[.int .i64 r.lv,.int .i64 r.ma,s,d,t,p]] w' (.int .i64 (fm r)):=fun w' hk=>ei (h.keeps hk) c6
 have hle:∀ w',aI [] w w'->an T_ 114 [.agg #[.q r.lv,.q r.ma,s,d,t,p],.q v] w' (.q (Ge r v)):=fun w' hk=>lN v (h.keeps hk)
 unfold RA;refine aS func23 I I ?_;refine Jr<|Jy I I fun _ _=>Jy I I fun _ _=>Ja I<|Ja I<|Jn<|Jq<|Jq ?_;rename_i b2 sJ b3 rz
 with_reducible refine db 6 (by kernel_rfl) ?_
 (refine az (bU (.there .here)) I<|aZ bJ I (fun w' aB=>(fP w' (Mem.keeps aB)))<|az (bU (.there .here)) I<|az (gn .here) I<|aZ bn I (fun w' aB=>(hle w' (Mem.keeps aB)))<|eM (aD (.o I (.o I .nil)) I I I I) I I ?_)
 with_reducible refine dI I fun bq mV=>?_
 (refine ah bJ I (fun w' aB=>(dV (Mem.dy aB .here I I) (cr.cons (cr.cons cr.nil))))<|Ja I<|Ji<|Jv I<|JD I<|Jn<|gL I (fun aA=>?_) fun aA=>?_;refine Jr<|Jv I<|Ja I<|Ja I<|Jn<|Ju ?_;rotate_left;refine Jk<|Jr<|bD I I ae<|JL I bE I<|ab (bC .nil (.o I (.o I .nil))) I ?_;rotate_right)
 ·have e1:Ic r v=[]:=if_pos aA;rw [e1];refine aJ 9 1 ?_
  with_reducible first|apply aO|apply aP
  case he=>exact gD I I I
  case hR=>
   intro w' aB;exact aC (.z) trivial (by exact .h1 .nil) aB I
 have e1:Ic r v=(r.ti.map Ti.nm).filter (gI r.po v):=if_neg aA;have e0:aY [fm r,Ge r v]=0:=Zq.1 aA;have e2:MM r v=0:=e0;rw [e1,e2]
 with_reducible apply jd
 case hr=>exact dU
 case hd=>rfl
 case ht=>exact bj.nil
 case hc=>
  intro w1 fp aT _ hs1;obtain rfl:fp=[]:=hs1;have hA:BR w1 b2 [.int .i64 r.lv,.int .i64 r.ma,s,d,t,p]:=BR.of aT bE;have f2:w1.cell? ⟨b3,0,none⟩=some (.int .i64 v):=At.lit (by exact Take.there .here) I w1 aT;have hR:=h.keeps aT.keeps
  exact Fa (f:=120) (q:=gI r.po v) (first:=[]) (cap:=[.p b2,.p b3]) hR.ti (by have:=c6.2.2;omega)
   (fun o w2 fg=>Qw v o (hR.keeps fg) (hA.keeps fg) (cK f2 I fg))
 intro x _;dsimp only [id_eq,Zb,Za];refine Ja I<|Ja I<|Jn<|Je ?_
 with_reducible first|apply aO|apply aP
 case he=>exact gD I I I
 case hR=>
  intro w' aB;exact aC x trivial (by exact .h1 .nil) aB I
def I8 (r:Ro) (v:Int) (so:ByteArray):Int:=aY [fm r,Ge r v,SF r so]
def G0 (r:Ro) (v:Int) (so:ByteArray):List ByteArray:=if I8 r v so≠0 then [] else (cu r).filter fun o=>decide (jY r v o=so)
theorem QB {r:Ro} {s d t p:Value} (v:Int) (so:ByteArray) {w:World} (h:RR w r s d t p) (c6:mX r):a8 T_ 24 [RA r s d t p,.q v,.string so] w [] (fun _:Value=>True) (fun x=>.tuple #[x,.q (I8 r v so)]) (fun x=>[row 9 1 x (G0 r v so).length (aR (G0 r v so))]):=by
 obtain ⟨h1,h2,h3,h4⟩:=h.one;have fP:∀ w',aI [] w w'->an T_ 34 [.agg #[.int .i64 r.lv,.int .i64 r.ma,s,d,t,p]] w' (.int .i64 (fm r)):=fun w' hk=>ei (h.keeps hk) c6
 have hle:∀ w',aI [] w w'->an T_ 114 [.agg #[.q r.lv,.q r.ma,s,d,t,p],.q v] w' (.q (Ge r v)):=fun w' hk=>lN v (h.keeps hk)
 have A9:∀ w',aI [] w w'->an T_ 122 [.agg #[.q r.lv,.q r.ma,s,d,t,p],.string so] w' (.q (SF r so)):=fun w' hk=>q9 so (h.keeps hk)
 unfold RA;refine aS func24 I I ?_;refine Jr<|Jy I I fun _ _=>Jy I I fun _ _=>Jy I I fun _ _=>Ja I<|Ja I<|Jn<|Jq<|Jq ?_;rename_i b2 sJ b3 rz b4 sH
 with_reducible refine db 9 (by kernel_rfl) ?_
 (refine az (bU bE) I<|aZ bJ I (fun w' aB=>(fP w' (Mem.keeps aB)))<|az (bU bE) I<|az (gn (.there .here)) I<|aZ bn I (fun w' aB=>(hle w' (Mem.keeps aB)))<|az (bU bE) I<|az (gn .here) I<|aZ bn I (fun w' aB=>(A9 w' (Mem.keeps aB)))<|eM (aD (.o I (.o I (.o I .nil))) I I I I) I I ?_)
 with_reducible refine dI I fun bq mV=>?_
 (refine ah bJ I (fun w' aB=>(dV (Mem.dy aB .here I I) (cr.cons (cr.cons (cr.cons cr.nil)))))<|Ja I<|Ji<|Jv I<|JD I<|Jn<|gL I (fun aA=>?_) fun aA=>?_;refine Jr<|Jv I<|Ja I<|Ja I<|Jn<|Ju ?_;rotate_left;refine Jk<|Jr<|bD I I ae<|JL I cI I<|ab (bC .nil (.o I (.o I (.o I .nil)))) I ?_;rotate_right)
 ·have e1:G0 r v so=[]:=if_pos aA;rw [e1];refine aJ 9 1 ?_
  with_reducible first|apply aO|apply aP
  case he=>exact gD I I I
  case hR=>
   intro w' aB;exact aC (.z) trivial (by exact .h1 .nil) aB I
 have e1:G0 r v so=(r.de.map De.nm).filter (fun o=>decide (jY r v o=so)):=if_neg aA
 have e0:aY [fm r,Ge r v,SF r so]=0:=Zq.1 aA;have e2:I8 r v so=0:=e0;rw [e1,e2]
 with_reducible apply jd
 case hr=>exact dU
 case hd=>rfl
 case ht=>exact bj.nil
 case hc=>
  intro w1 fp aT _ hs1;obtain rfl:fp=[]:=hs1;have hA:BR w1 b2 [.int .i64 r.lv,.int .i64 r.ma,s,d,t,p]:=BR.of aT cI;have f2:w1.cell? ⟨b3,0,none⟩=some (.int .i64 v):=At.lit bE I w1 aT;have f3:w1.cell? ⟨b4,0,none⟩=some (.string so):=At.lit (by exact Take.there .here) I w1 aT;have hR:=h.keeps aT.keeps
  exact Fb (f:=125) (q:=fun o=>decide (jY r v o=so)) (first:=[]) (cap:=[.p b2,.p b3,.p b4]) hR.de (by have:=c6.2.1;omega)
   (fun o w2 fg=>I5 v o so (hR.keeps fg) (by have:=c6.2.2;omega) (hA.keeps fg) (cK f2 I fg) (cK f3 I fg))
 intro x _;dsimp only [id_eq,Zb,Za];refine Ja I<|Ja I<|Jn<|Je ?_
 with_reducible first|apply aO|apply aP
 case he=>exact gD I I I
 case hR=>
  intro w' aB;exact aC x trivial (by exact .h1 .nil) aB I
end Go.Proofs.A1
