/- Parts of the proof: GkRegP GkRegN GkStr GkBits GkArr KA KB KC GkClear GkFl KD KE. -/
import Derived.Test.YteonnodafmegaaaGreatDoorKM05
import Derived.Test.YteonnodafmegaaaGreatDoorKM03
import Derived.Laws.Strings
import Derived.Laws.BytesString
import Derived.Test.YteonnodafmegaaaGreatDoorKM01
import Derived.Laws.Entries
import Derived.Test.YteonnodafmegaaaGreatDoorKM04
set_option linter.unusedSectionVars false
set_option linter.unusedVariables false
set_option linter.unusedSimpArgs false
namespace Go.SL
open Go
def uN (l:List Oper) (m:Nat) (p:List Nat):Bool:=
 l.all mo&&si l 0&&kV l.toArray (l.take m) 0&&(List.range' m (l.length-m)).all (fun k=>(List.range m).all fun i=>p.any (Nat.beq i)||((ix l []).getD k 0).testBit i)&&Nat.ble m l.length
structure Gh (l:List Oper) (m:Nat) (p:List Nat):Prop where
 op:∀ o∈l,mo o=true
 ac:si l 0=true
 vH:kV l.toArray (l.take m) 0=true
 tail:∀ k,m<=k->k<l.length->∀ i,i<m->i ∉ p->((ix l []).getD k 0).testBit i=true
 le:m<=l.length
variable {p:List Nat}
theorem Ah {l:List Oper} {m:Nat} (h:uN l m p=true):Gh l m p:=by
 simp only [uN,Zm,Z7] at h;obtain ⟨⟨⟨⟨h1,h2⟩,h3⟩,h5⟩,h6⟩:=h;refine ⟨h1,h2,h3,fun k hk aN i hi hne=>?_,by simpa using h6⟩;have:=h5 k (ZaF.2 ⟨hk,by omega⟩) i (ZU.2 hi);rw [ZP] at this;refine this.resolve_left fun h=>hne ?_;obtain ⟨x,hx,hxe⟩:=ZR.1 h;rw [Z3 hxe];exact hx
theorem pN {l:List Oper} {m:Nat} (hc:Gh l m p) {i j:Nat} {x y:Oper} (wA:i<j) (hj:j<m) (hx:l[i]? = some x) (hy:l[j]? = some y):qB l.toArray x y i=true:=by
 have:=ny hc.vH (i:=i) (j:=j) wA (by rw [ZH,if_pos (by omega)];exact hx) (by rw [ZH,if_pos hj];exact hy);simpa using this
theorem Ai {l:List Oper} {m:Nat} (hc:Gh l m p) {listed:Array Bool} (hsz:listed.size=l.length) (ur:DC l (Ls listed)) {i:Nat} (hi:i∈Region.ready .any l.toArray listed) (hm:m<=i):∀ j,j<m->j ∉ p->Ls listed j:=by
 intro j hj Yw;obtain ⟨o,ho,hn,hd⟩:=(dQ hsz).1 hi;have aN:i<l.length:=(Zl.1 ho).1;have AP:DC l (fun k=>k=i\/Ls listed k):=by
  intro k ok hk hL e he hb;rcases hL with e' | hL
  ·subst e';rw [ho] at hk;cases hk;exact .inr (hd e he hb)
  ·exact .inr (ur k ok hk hL e he hb)
 rcases gA AP hc.ac i aN (.inl rfl) j (hc.tail i hm aN j hj Yw) with h | h
 ·omega
 ·exact h
section
variable {P:Program} {c:Cx} {D:List Nat} {sl:aD} {hs:List bh} {Q:Exit->Act->World->Prop} {l:List Oper} {m:Nat}
theorem NB {p:List Nat} (hc:Gh l m p) (FH:∀ q∈p,q<m->ES l q) (hQp:∀ c a w,¬ Q (.panic c) a w) {S:List cj} {kJ:(Nat->Value)->aD} (UH:xk P c hs l 0 (l.take m) (fun _=>sl) [] S kJ) {a0:Act} (h0:bW sl a0) (KH:a0.tmps.size=c.nt)
  (tail:∀ β a w,St c D (kJ β) (dM β (fun _=>true) S 0++hs) a w->wpAnyIn (FR none) 0 P .any l.toArray Q (l.length-m) (kK l.length m) a w) :
  ∀ (fuel:Nat) (listed:Array Bool) (a:Act) (w:World),Wh c D hs l m S a0 fuel listed a w->wpAnyIn (FR none) 0 P .any l.toArray Q fuel listed a w:=by
 have hle:=hc.le;have KE:jP sl [] (fun _=>sl) []:=fun β t v hv=>.inr ⟨fun oj h=>(Zo h).elim,hv⟩
 obtain ⟨CH,_,jI,fI⟩:=UH.spec (sl:=sl) [] rfl rfl KE;rw [Za] at jI fI;rw [ZE,Zs,Zbk hle] at CH;have eo:∀ (j:Nat) (o:Oper),j<m->l[j]? = some o->(l.take m)[j]? = some o:=fun j o hj ho=>by rw [ZH,if_pos hj];exact ho
 have fJ:∀ (j:Nat) (o:Oper),(l.take m)[j]? = some o->j<m/\l[j]? = some o:=fun j o ho=>by
  rw [ZH] at ho;split at ho
  ·exact ⟨by assumption,ho⟩
  ·cases ho
 have PT:∀ j,j<m->∃ s,S[j]? = some s:=fun j hj=>⟨S[j]'(by omega),Zc (by omega)⟩
 have mR:∀ fuel listed a w,Wh c D hs l m S a0 fuel listed a w->(∀ i,i<m->Ls listed i)->wpAnyIn (FR none) 0 P .any l.toArray Q fuel listed a w:=by
  intro fuel listed a w hI dZ;have hL:∀ i,i<l.length->(Ls listed i↔i<m):=fun i _=>⟨fun h=>ZS fun hm=>hI.hi i hm h,dZ i⟩
  obtain ⟨U,yf,qI,sY⟩:=hI.left;have iB:U.Perm (List.range' m (l.length-m)):=by
   rw [ZaA yf (ZbB)];intro i;rw [qI i,ZaF];constructor
   ·rintro ⟨h1,h2⟩;exact ⟨ZaV fun h=>h2 (dZ i h),by omega⟩
   ·rintro ⟨h1,h2⟩;exact ⟨by omega,hI.hi i h1⟩
  have hlen:fuel=l.length-m:=by rw [<- sY,iB.length_eq,Zbx]
  have KI:listed=kK l.length m:=by
   have we:(kK l.length m).size=l.length:=by simp [kK];omega
   apply Array.ext
   ·rw [hI.sz,we]
   ·intro i h1 h2;rw [hI.sz] at h1;have h3:=hL i h1;unfold Ls at h3;rw [ZF,ZaC (by rw [hI.sz];exact h1),Zam] at h3;have h4:(kK l.length m)[i]=decide (i<m):=by
     simp only [kK,List.getElem_toArray];by_cases hi:i<m
     ·rw [Zac (by simpa using hi)];simp [hi]
     ·rw [Zag (by simpa using hi)];simp [hi]
    rw [h4];by_cases hi:i<m
    ·rw [h3.2 hi];simp [hi]
    ·have:¬ listed[i]=true:=fun h=>hi (h3.1 h)
     simp [hi,this]
  subst hlen;rw [KI];obtain ⟨β,hm,fZ⟩:=hI.own;have e:dM β (fun i=>listed.getD i false) S 0=dM β (fun _=>true) S 0:=gU fun j s hj=>by
   have iQ:j<m:=by have:=(Zl.1 hj).1;omega
   rw [ZE];exact ⟨dZ j iQ,fun _=>rfl⟩
  rw [e] at hm;refine tail β a w ⟨by rw [Zh];exact hm,fun t v hv=>?_,hI.size,hI.defers⟩;rcases jI β t v hv with ⟨j,oj,s,h1,h2,h3,h4⟩ | ⟨h1,h2⟩
  ·obtain ⟨iQ,nh⟩:=fJ j oj h1;rw [h4];exact fZ j oj t s nh h2 h3 (dZ j iQ)
  ·rw [hI.Bo t fun j oj hj jU=>h1 oj (ZV (eo j oj (ZS fun hm=>hI.hi j hm jU) hj))]
   exact h0 t v h2
 intro fuel
 induction fuel with
 | zero =>
  intro listed a w hI;obtain ⟨U,_,qI,sY⟩:=hI.left;have hU:U=[]:=Zaq.1 sY;refine mR 0 listed a w hI fun i hi=>Classical.byContradiction fun hn=>?_;have:=(qI i).2 ⟨by omega,hn⟩;rw [hU] at this;cases this
 | succ fuel ih =>
  intro listed a w hI;by_cases dZ:∀ i,i<m->Ls listed i
  ·exact mR _ listed a w hI dZ
  ·have hex:∃ i,i<m/\¬ Ls listed i:=Classical.byContradiction fun hh=>dZ fun i hi=>Classical.byContradiction fun hn=>hh ⟨i,hi,hn⟩
   obtain ⟨i0,uX,qH⟩:=hex;have main:∀ i,i∈Region.ready .any l.toArray listed->i<m->wpOpIn (FR none) 0 P l.toArray Q i (wpAnyIn (FR none) 0 P .any l.toArray Q fuel (listed.setIfInBounds i true)) a w/\(i∈p->wpAnyIn (FR none) 0 P .any l.toArray Q (fuel+1) listed a w):=by
    intro i hi oV;obtain ⟨o,ho,hn,l6⟩:=(dQ hI.sz).1 hi;obtain ⟨d,C8,s,hd,fF,qJ,tT,dw⟩:=fI i o (Zi _) (eo i o oV ho);obtain ⟨xQ,xR,B,hB,ij⟩:=dw;obtain ⟨β,hm,fZ⟩:=hI.own;have km:∀ (j:Nat),dR o j=true->Ls listed j:=fun j hw=>by
     obtain ⟨e,he,hb,nG⟩:=cR hw;rw [<- nG];exact l6 e he hb
    have wb:∀ (j:Nat),jZ l o j=true->Ls listed j:=fun j hw=>by
     unfold jZ at hw;rw [ZP] at hw;rcases hw with hw | hw
     ·exact km j hw
     ·obtain ⟨k,_,hk⟩:=ZR.1 hw;rw [Zm] at hk;have Ha:=km k hk.1;cases hq:l[k]? with
      | none=>rw [hq] at hk;cases hk.2
      | some q =>
       rw [hq] at hk;obtain ⟨e,he,hb,nG⟩:=cR hk.2;rw [<- nG];exact hI.dc k q hq Ha e he hb
    have qn:∀ (j:Nat) (oj:Oper) (e:Nat),l[j]? = some oj->j<m->j≠i->oj.dst=some e->d≠e:=by
     intro j oj e hj iQ hne he;rcases Zbp j i with h | h
     ·exact fun e'=>(eB (pN hc h oV hj ho) he hd).1 e'.symm
     ·exact (eB (pN hc (show i<j by omega) iQ ho hj) hd he).1
    have iY:i<listed.size:=by rw [hI.sz];omega
    have Dh:mo o=true:=hc.op o (ZV ho)
    -- Bn dh QF Bn operation looks at
    have hT:∀ t∈o.looksAt l.toArray,∀ v,cW (C8 β) t=some v->a.tmps[t]? = some v:=by
     intro t ht v hv;rcases tT β t v hv with ⟨j,oj,sj,h1,h2,h3,h4⟩ | ⟨h1,h2⟩
     ·have nP:j<i:=by have:=(Zl.1 h1).1;rw [Zs] at this;omega
      rw [ZH,if_pos nP] at h1 h3;obtain ⟨iQ,nh⟩:=fJ j oj h1;have jU:=km j ((eB (pN hc nP oV nh ho) h2 hd).2 (.inl ht));rw [h4];exact fZ j oj t sj nh h2 h3 jU
     ·rw [hI.Bo t fun j oj hj jU iR=>?_]
      ·exact h0 t v h2
      ·have iQ:j<m:=ZS fun hm=>hI.hi j hm jU
       rcases Zao j i with h | h | h
       ·exact h1 oj (ZV (by rw [ZH,if_pos h];exact eo j oj iQ hj)) iR
       ·subst h;exact hn jU
       ·have hw:=(eB (pN hc h iQ ho hj) hd iR).2 (.inr ht);obtain ⟨e,he,hb,nG⟩:=cR hw;have:=hI.dc j oj hj jU e he hb;rw [nG] at this;exact hn this
    have wu:∀ t v,cW (C8 β) t=some v->t<c.nt:=by
     intro t v hv;rcases tT β t v hv with ⟨j,oj,sj,h1,h2,_,_⟩ | ⟨_,h2⟩
     ·have nP:j<i:=by have:=(Zl.1 h1).1;rw [Zs] at this;omega
      rw [ZH,if_pos nP] at h1;obtain ⟨d',_,_,AQ,AO,_⟩:=fI j oj (Zi _) h1;rw [h2] at AQ;cases AQ;exact AO
     ·have:=h0 t v h2;rw [<- KH];exact (Z0.1 this).1
    obtain ⟨a',l7,js,_⟩:=o6 hI.size wu hT;have ye:jm c hs (S.take i) B β w:=by
     rintro A (rfl | ⟨j,hj,sj,h1,rfl⟩)
     ·exact hm.sublist ((ZaY _ _).trans (ZaT _ _))
     ·have nP:j<i:=by have:=(Zl.1 h1).1;rw [Zs] at this;omega
      rw [ZH,if_pos nP] at h1;have jU:=wb j (hB j hj);exact hm.sublist ((rj (lst:=fun i=>listed.getD i false) (i:=0) h1 (by rw [ZE];exact jU)).append (ZaY _ _))
    have hq:=ij β a' w l7 ye;have hex:=iL (o:=o) (ops:=l.toArray) Dh js
    -- Qt a done operation TP VM not Vi on this one
    have oW:∀ j,Ls listed j->∀ x k,uz l j k=true->β k=uE β i x k:=by
     intro j jU x k hk;refine (vg fun e=>?_).symm;subst e;unfold uz at hk;rw [ZP] at hk;rcases hk with hk | hk
     ·have:j=k:=by simpa using hk
      subst this;exact hn jU
     ·have KN:j<l.length:=by
       have iQ:j<m:=ZS fun hm=>hI.hi j hm jU
       omega
      exact hn (gA hI.dc hc.ac j KN jU k hk)
    have ia:∀ v w',L5 i s β w v w'->wpAnyIn (FR none) 0 P .any l.toArray Q fuel (listed.setIfInBounds i true) (a.put o.dst v) w':=by
     rintro v w' ⟨x,rfl,hk,fp,jX,gY,sA⟩;refine ih _ _ _ ⟨by simpa using hI.sz,?_,?_,by rw [hd];exact hI.defers,by simpa [Act.put,hd] using hI.size,?_,?_,uE β i x,?_,?_⟩
     ·intro k ok sy hL e he hb;rw [cH iY] at hL ⊢;rcases hL with e' | hL
      ·subst e';rw [ho] at sy;cases sy;exact .inr (l6 e he hb)
      ·exact .inr (hI.dc k ok sy hL e he hb)
     ·intro k sy hL;rw [cH iY] at hL;rcases hL with e | hL
      ·omega
      ·exact hI.hi k sy hL
     ·intro t ht;have h1:d≠t:=fun e=>by subst e;exact ht i o ho ((cH iY).2 (.inl rfl)) hd
      rw [hd];simp only [Act.put,ZK h1];exact hI.Bo t fun j oj hj hL=>ht j oj hj ((cH iY).2 (.inr hL))
     ·obtain ⟨U,yf,qI,sY⟩:=hI.left;refine ⟨U.erase i,yf.erase i,fun k=>?_,?_⟩
      ·rw [yf.mem_erase_iff,qI k,cH iY];constructor
       ·rintro ⟨h1,h2,h3⟩;exact ⟨h2,fun h=>h.elim h1 h3⟩
       ·rintro ⟨h1,h2⟩;exact ⟨fun e=>h2 (.inl e),h1,fun h=>h2 (.inr h)⟩
      ·have Sf:i∈U:=(qI i).2 ⟨by omega,hn⟩;rw [ZaH Sf,sY];rfl
     ·have mr:Mem c (s.A (uE β i x)++(dM β (fun i=>listed.getD i false) S 0++(hs++mN D))) w':=Mem.VA (As:=[]) hm fun oZ _ hf=>by
       rw [show oZ=[] from hf];exact ⟨hk,fp,jX,gY,fun b hb=>.inr (sA b hb)⟩
      have e1:dM β (fun i=>listed.getD i false) S 0=dM (uE β i x) (fun i=>listed.getD i false) S 0:=gU fun j sj hj=>by
       refine ⟨I,fun hl=>?_⟩;rw [ZE] at hl;have iQ:j<m:=by have:=(Zl.1 hj).1;omega
       obtain ⟨oj,CA⟩:∃ oj,l[j]? = some oj:=⟨l[j]'(by omega),Zc (by omega)⟩;obtain ⟨_,_,s2,_,_,hs2,_,wj⟩:=fI j oj (Zi _) (eo j oj iQ CA);rw [hj] at hs2;cases hs2;exact wj.xR _ _ (oW j hl x)
      rw [e1,<- Zh] at mr;refine mr.perm ((rk (k:=i) qJ ?_ ?_ ?_).append_right _)
      ·rw [ZE];show listed.getD i false=false;have:¬ listed.getD i false=true:=hn;simpa using this
      ·rw [ZE];exact (cH iY).2 (.inl I)
      ·intro j hj;rw [ZE] at hj;simp [ZF,ZK (Ne.symm hj)]
     ·intro j oj e sj hj he jY hL;rw [cH iY] at hL;by_cases nP:j=i
      ·subst nP;rw [ho] at hj;cases hj;rw [hd] at he;cases he;rw [qJ] at jY;cases jY;rw [hd];simp [Act.put,hI.size,fF]
      ·have Bv:=hL.resolve_left nP;have iQ:j<m:=ZS fun hm=>hI.hi j hm Bv
       obtain ⟨_,_,s2,_,_,hs2,_,wj⟩:=fI j oj (Zi _) (eo j oj iQ hj);rw [jY] at hs2;cases hs2;rw [hd];simp only [Act.put,ZK (qn j oj e hj iQ nP he)];rw [<- wj.xQ _ _ (oW j Bv x)];exact fZ j oj e sj hj he jY Bv
    have UE:=hq;refine ⟨?_,fun YC=>?_⟩
    rotate_left
    ·obtain ⟨d',x',k',ty',pos',af',xV,XT,fu⟩:=FH i YC oV;rw [ho] at xV;cases xV;rw [if_pos (by simp [Region.wanted])] at UE;unfold od at UE;obtain ⟨v,hv,K4⟩:=Lf UE;have sA:Region.free .any l.toArray listed i=true:=He fu fun j hj hne hb=>by
      have nh:j<l.length:=by simpa using hj
      have dK:((ix l []).getD i 0).testBit j=true:=by
       rw [ZF] at hb;simpa [nh] using hb
      have hjs:j<listed.size:=by rw [hI.sz];exact nh
      rcases GI hc.ac hI.sz hI.dc hi dK with e | hL
      ·exact absurd e hne
      ·unfold Ls at hL;rw [ZF,ZaC hjs] at hL ⊢;exact hL
     refine wpAnyIn_take (oi:=⟨some d',.extract x' k',ty',pos',af',none⟩) (v:=v) I (by simpa using ho) XT sA (by simpa using hi) (fun c a w h=>(hQp c _ w h).elim) ⟨.inl ⟨by simp [Region.wanted],fun w2=>by rw [<- hex];exact K4 w2⟩,fun w2=>rfl⟩ (ia v w hv)
    unfold wpOpIn;rw [show l.toArray[i]? = some o from by simpa using ho];simp only [];rw [iq js] at hq;split
    ·rename_i hw;rw [if_pos hw] at hq;refine ⟨eb _ _ _ _ _,?_⟩;rw [Oper.semAt_eq _ _ _ (fun cc he=>by simp [mo,he] at Dh),<- hex]
     unfold od at hq
     revert hq
     generalize (execOp a'.eval o).run P w=res;intro hq
     match res,hq with
     | .ok (.value v) w',hq=>exact ia v w' hq
     | .ok (.enter f args) w', ⟨e, cG⟩ =>
      subst e;refine ⟨by simp [FR,Fence.wide],(iC cG).mono fun e vf h=>?_⟩;obtain ⟨v,rfl,hq⟩:=h;exact ia v vf hq
    ·rename_i hw;rw [if_neg hw] at hq;exact ⟨fun _ _=>trivial,ia undef w hq⟩
   by_cases hp:∃ q,q∈p/\q<m/\q∈Region.ready .any l.toArray listed
   ·obtain ⟨q,Mo,xS,UD⟩:=hp;exact (main q UD xS).2 Mo
   ·refine ⟨fun hr=>?_,fun i hi=>?_⟩
    ·obtain ⟨i,hi⟩:=jq hI.sz hc.ac ⟨i0,by omega,qH⟩;rw [hr] at hi;cases hi
    ·have oV:i<m:=ZS fun hm=>by
      have Tt:=Ai hc hI.sz hI.dc hi hm;have K4:∀ q,q<m->Ls listed q:=by
       intro q
       induction q using Nat.strongRecOn with
       | _ q ih =>
        intro X3;by_cases Oa:q∈p
        ·by_cases hLq:Ls listed q
         ·exact hLq
         ·refine absurd ⟨q,Oa,X3,(dQ hI.sz).2 ⟨l[q]'(by omega),Zc (by omega),hLq,fun e he hb=>?_⟩⟩ hp;have aN:=j7 hc.ac (Zc (show q<l.length by omega)) e he hb;exact ih e.on (by omega) (by omega)
        ·exact Tt q X3 Oa
      exact qH (K4 i0 uX)
     exact (main i hi oV).1
theorem mE {id:Nat} (m:Nat) (p:List Nat) [qd:Qm P] (fB:uN l m p=true) (FH:∀ q∈p,ES l q) (k:py P c D hs l Q m 0 m l (fun _=>sl) []):Tr c D sl hs (WP P none (.region id l.toArray true) Q):=fun a w bj=>by
 obtain ⟨S,kJ,hp,ht⟩:=k;have h:(Code.region id l.toArray true).wpIn (FR none) 0 P (NP Q) a w:=wpIn_region_any qd.eq (by
  refine NB (p:=p) (Ah fB) (fun q hq _=>FH q hq) (fun c a w h=>h.elim) hp bj.dh bj.size (fun β a w bj=>ht β a w bj) l.toArray.size _ _ _ ⟨by simp,?_,?_,bj.defers,bj.size,fun t _=>rfl,?_,fun _=>undef,?_,?_⟩
  ·exact fun k o _ hL=>absurd hL (fb _ _)
  ·exact fun k _ hL=>fb _ _ hL
  ·exact ⟨List.range l.length,Zbu,fun i=>⟨fun h=>⟨by simpa using h,fb _ _⟩,fun h=>by simpa using h.1⟩,by simp⟩
  ·have e:∀ (T:List cj) (i:Nat),dM (fun _=>undef) (fun i=>(Array.replicate l.toArray.size false).getD i false) T i=[]:=by
    intro T
    induction T with
    | nil=>intro i;rfl
    | cons s T ih =>
     intro i;have:=fb l.toArray.size i;unfold Ls at this;unfold dM;rw [if_neg this,ih];rfl
   rw [e];exact bj.mem.drew
  ·exact fun j o d s _ _ _ hL=>absurd hL (fb _ _))
 exact wpIn_mono h fun e a' w' h=>by
  cases e with
  | panic c=>exact h.elim
  | _=>exact h
end
theorem pL {l:List Oper} {p d k:Nat} {x:Operand} {ty:TypeId} {pos:String} {af:Array Edge} (h:l[p]? = some ⟨some d,.extract x k,ty,pos,af,none⟩) (h2:Region.noSelect l.toArray=true) (h3:Region.free .any l.toArray ((List.range l.length).map fun j=>((ix l []).getD p 0).testBit j).toArray p=true):ES l p:=⟨d,x,k,ty,pos,af,h,h2,h3⟩
theorem dy {P:Program} {c:Cx} {D:List Nat} {sl:aD} {hs:List bh} {Q:Exit->Act->World->Prop} {l:List Oper} {id:Nat} (m:Nat) [qd:Qm P] (fB:uN l m []=true) (k:py P c D hs l Q m 0 m l (fun _=>sl) []):Tr c D sl hs (WP P none (.region id l.toArray true) Q):=mE m [] fB (fun _ h=>absurd h Zo) k
end Go.SL
namespace Go.SL
open Go
def ep:Value->Nat
 | .int _ n=>n.toNat
 | _=>0
theorem kZ (b:Nat):ep (.q (b:Int))=b:=by simp [ep]
def xC:Value->Option Addr×Nat
 | .slice a _ c=>(a,c)
 | _=>(none,0)
def dX (β:Nat->Value):List cj->List bh
 | []=>[]
 | s::S=>s.A β++dX β S
theorem Cc (β:Nat->Value):∀ (S:List cj) (i:Nat),dM β (fun _=>true) S i=dX β S
 | [],_=>rfl
 | s::S,i=>by rw [dM,dX,if_pos rfl,Cc β S]
section
variable {P:Program} {c:Cx} {D:List Nat} {sl:aD} {hs hs':List bh} {X:Act->World->Prop} {Q:Exit->Act->World->Prop} {l:List Oper} {m i n d:Nat} {op:Op} {ty:TypeId} {pos:String} {af:Array Edge} {rest:List Oper} {SL:(Nat->Value)->aD} {S:List cj}
theorem gS (l:List Oper) (i:Nat):uz l i i=true:=by simp [uz]
theorem sh {o:Oper} {s:cj} (hd:o.dst=some d) (fF:Nat.blt d c.nt=true) (h:EP P c hs l i o SL S s) (k:py P c D hs l Q m (i+1) n rest (fun β=>(d,s.F β)::SL β) (S++[s])):py P c D hs l Q m i (n+1) (o::rest) SL S:=by
 obtain ⟨S',kJ,hp,ht⟩:=k;exact ⟨S',kJ,.step hd (by simpa [Z1] using fF) h.toT hp,ht⟩
variable {F:(Nat->Value)->Value} {want:Bool}
theorem aS {dst:Option Tmp} {j gs:Nat} (hj:((l.toArray[j]?).bind (·.dst))=some gs) (hq:∀ β,cW (SL β) gs=some (.bool want))
  (k:py P c D hs l Q m i (n+1) (⟨dst,op,ty,pos,af,none⟩::rest) SL S):py P c D hs l Q m i (n+1) (⟨dst,op,ty,pos,af,some (j,want)⟩::rest) SL S:=by
 obtain ⟨S',kJ,hp,ht⟩:=k;refine ⟨S',kJ,?_,ht⟩;cases hp with
 | step hd fF h t =>
  obtain ⟨h1,h2,B,hB,hr⟩:=h;refine .step hd fF ⟨h1,h2,B,hB,fun β a w hs1 hb=>?_⟩ t;have:=hr β a w hs1 hb;rw [if_pos (by simp [Region.wanted])] at this;rw [lb (o:=⟨dst,op,ty,pos,af,some (j,want)⟩) (c0:=true) I hj hs1 (by rw [hq β];rfl),if_pos (by simp)];exact this
theorem a7 {j gs:Nat} {v:Value} (hj:((l.toArray[j]?).bind (·.dst))=some gs) (hq:∀ β,cW (SL β) gs=some v) (hv:v=undef\/v=.bool (!want)) (hd:Nat.blt d c.nt=true)
  (k:py P c D hs l Q m (i+1) n rest (fun β=>(d,undef)::SL β) (S++[⟨fun _=>undef,fun _=>[]⟩])):py P c D hs l Q m i (n+1) (⟨some d,op,ty,pos,af,some (j,want)⟩::rest) SL S:=
 sh (s:=⟨fun _=>undef,fun _=>[]⟩) I hd ⟨fun _ _ _=>rfl,fun _ _ _=>rfl,[],by simp,fun β a w h1 h2=>by
  have hw:∃ c0 q,gv c0 (.bool q)=v/\(c0&&(q==want))=false:=by
   rcases hv with e | e
   ·exact ⟨false,want,by rw [e];rfl,I⟩
   ·exact ⟨true,!want,by rw [e];rfl,by cases want <;> rfl⟩
  obtain ⟨c0,q,e,Tw⟩:=hw;rw [lb (o:=⟨some d,op,ty,pos,af,some (j,want)⟩) (c0:=c0) (q:=q) I hj h1 (by rw [hq β,e]),if_neg (by simpa using Tw)];exact ⟨β i,I,.refl _ _,[],Zah,I,by simp⟩⟩ k
theorem eG (k:∀ β,Tr c D (SL β) (dX β S++hs) (Left P l.toArray Q (l.length-m) (kK l.length m))):py P c D hs l Q m i 0 rest SL S:=
 ⟨S,SL,.nil,fun β=>by rw [Cc];exact k β⟩
theorem ah (hr:∀ β,cM P c (SL β) hs ⟨some d,op,ty,pos,af,none⟩ (F β)) (hi:lI l i F) (hd:Nat.blt d c.nt=true) (k:py P c D hs l Q m (i+1) n rest (fun β=>(d,F β)::SL β) (S++[⟨F,fun _=>[]⟩])) :
  py P c D hs l Q m i (n+1) (⟨some d,op,ty,pos,af,none⟩::rest) SL S:=
 sh (s:=⟨F,fun _=>[]⟩) I hd ⟨hi,fun _ _ _=>rfl,[],by simp,fun β a w h1 h2=>by
  rw [if_pos (by simp [Region.wanted])];unfold od;rw [(hr β).2 a w h1 h2.mem];exact ⟨β i,by rw [mD],.refl _ _,[],Zah,I,by simp⟩⟩ k
theorem cV {f:FuncId} {args:(Nat->Value)->List Value} (B:List Nat) (hB:(B.all fun j=>dR ⟨some d,op,ty,pos,af,none⟩ j)=true) (hr:∀ β,lR P (SL β) ⟨some d,op,ty,pos,af,none⟩ f (args β)) (hi:lI l i F) (hd:Nat.blt d c.nt=true)
  (hc:∀ β w,jm c hs S B β w->ao P f (args β) w (F β)) (k:py P c D hs l Q m (i+1) n rest (fun β=>(d,F β)::SL β) (S++[⟨F,fun _=>[]⟩])) :
  py P c D hs l Q m i (n+1) (⟨some d,op,ty,pos,af,none⟩::rest) SL S:=
 sh (s:=⟨F,fun _=>[]⟩) I hd ⟨hi,fun _ _ _=>rfl,B,fun j hj=>Z7.1 hB j hj,fun β a w h1 h2=>by
  rw [if_pos (by simp [Region.wanted])];unfold od;rw [(hr β).2 a w h1];exact ⟨I,(hc β w h2).mono fun e w' ⟨he,hk⟩=>⟨F β,he,β i,by rw [mD],hk,[],Zah,I,by simp⟩⟩⟩ k
theorem cZ {ι:Type} {Φ:ι->Prop} {val:ι->Value} {own:ι->List bh} (g:Value->ι) (hg:∀ x,∃ v,g v=x) {f:FuncId} {args:(Nat->Value)->List Value} (B:List Nat) (hB:(B.all fun j=>dR ⟨some d,op,ty,pos,af,none⟩ j)=true)
  (hr:∀ β,lR P (SL β) ⟨some d,op,ty,pos,af,none⟩ f (args β)) (hd:Nat.blt d c.nt=true) (hc:∀ β w,jm c hs S B β w->bB P f (args β) w [] Φ val own)
  (k:py P c D hs l Q m (i+1) n rest (fun β=>(d,val (g (β i)))::SL β) (S++[⟨fun β=>val (g (β i)),fun β=>own (g (β i))⟩])) :
  py P c D hs l Q m i (n+1) (⟨some d,op,ty,pos,af,none⟩::rest) SL S:=
 sh (s:=⟨fun β=>val (g (β i)),fun β=>own (g (β i))⟩) I hd ⟨fun β β' h=>by simp only [h i (gS l i)],fun β β' h=>by simp only [h i (gS l i)],B,fun j hj=>Z7.1 hB j hj,fun β a w h1 h2=>by
  rw [if_pos (by simp [Region.wanted])];unfold od;rw [(hr β).2 a w h1];refine ⟨I,(hc β w h2).mono fun e w' ⟨x,he,_,hk,fp,hn,hs',hf⟩=>?_⟩;obtain ⟨v,hv⟩:=hg x;refine ⟨val x,he,v,by simp only [ji,hv],hk,fp,hn,by simp only [ji,hv];exact hs',fun b hb=>?_⟩;rcases hf b hb with h | h
  ·cases h
  ·exact h⟩ k
theorem lG {V:Nat->Value} {ob:(Nat->Value)->Obj} (hr:∀ β,pt P c (SL β) hs ⟨some d,op,ty,pos,af,none⟩ V (ob β)) (hi:∀ β β',(∀ k,k≠i->uz l i k=true->β k=β' k)->ob β=ob β') (hd:Nat.blt d c.nt=true)
  (k:py P c D hs l Q m (i+1) n rest (fun β=>(d,V (ep (β i)))::SL β) (S++[⟨fun β=>V (ep (β i)),fun β=>[bA (ep (β i)) (ob β)]⟩])) :
  py P c D hs l Q m i (n+1) (⟨some d,op,ty,pos,af,none⟩::rest) SL S:=
 sh (s:=⟨fun β=>V (ep (β i)),fun β=>[bA (ep (β i)) (ob β)]⟩) I hd ⟨fun β β' h=>by simp only [h i (gS l i)],fun β β' h=>by simp only [h i (gS l i),hi β β' fun k _ hk=>h k hk],[],by simp,fun β a w h1 h2=>by
  rw [if_pos (by simp [Region.wanted])];unfold od;rw [(hr β).2 a w h1 h2.mem];have e:ob (uE β i (.q (w.heap.size:Int)))=ob β:=hi _ _ fun k hk _=>vg hk
  exact ⟨.q (w.heap.size:Int),by simp only [ji,kZ],.alloc _ _ _,[w.heap.size],by simp,⟨[w.heap.size],[],I,⟨by simp only [ji,kZ],by simp only [ji,kZ];rw [e];exact World.alloc_heap_new w (ob β)⟩,I⟩,by simp⟩⟩ k
end
end Go.SL
namespace Go.SL
open Go
section
variable {P:Program} {c:Cx} {sl:aD} {hs:List bh} {dst:Option Tmp} {ty:TypeId} {pos:String} {af:Array Edge} {g:Option (Nat×Bool)}
theorem ee {x:Operand} {a:Addr} (hx:Is sl x (.pointer (some a))):cM P c sl hs ⟨dst,.nilCheck x,ty,pos,af,g⟩ (.pointer (some a)):=
 ⟨by simp,fun ac w ha _=>by simp [execOp,hx ac ha]⟩
end
section
variable {P:Program} {c:Cx} {D:List Nat} {hs:List bh} {Q:Exit->Act->World->Prop} {l:List Oper} {m i n d:Nat} {op:Op} {ty:TypeId} {pos:String} {af:Array Edge} {rest:List Oper} {SL:(Nat->Value)->aD} {S:List cj}
theorem dJ {v:Value}:lI l i (fun _=>v):=fun _ _ _=>rfl
end
section
variable {P:Program} {c:Cx} {D:List Nat} {sl:aD} {hs:List bh} {Q:Exit->Act->World->Prop} {ops:Array Oper} {fuel:Nat} {listed:Array Bool}
end
section
variable {P:Program} {r:Option Nat} {c:Cx} {D:List Nat} {sl:aD} {hs:List bh} {Q:Exit->Act->World->Prop} {ops:Array Oper} {fuel i:Nat} {listed:Array Bool}
def zC (P:Program) (r:Option Nat) (ops:Array Oper) (Q:Exit->Act->World->Prop) (fuel:Nat) (listed:Array Bool):Act->World->Prop:=wpAnyIn (FR r) 0 P .any ops (NP Q) fuel listed
def Ql (P:Program) (r:Option Nat) (c:Cx) (D:List Nat) (sl:aD) (hs:List bh) (ops:Array Oper) (Q:Exit->Act->World->Prop) (fuel:Nat) (listed:Array Bool) (i:Nat):Prop:=
 ∀ a w,St c D sl hs a w->wpOpIn (FR r) 0 P ops (NP Q) i (zC P r ops Q fuel (listed.setIfInBounds i true)) a w
theorem tN {rs:List Nat} (hr:Region.ready .any ops listed=rs) (hne:rs≠[]) (h:∀ i∈rs,Ql P r c D sl hs ops Q fuel listed i):Tr c D sl hs (zC P r ops Q (fuel+1) listed):=fun a w bj=>
 wpAnyIn_all hr hne fun i hi=>h i hi a w bj
theorem vL {d:Option Tmp} {op:Op} {ty:TypeId} {pos:String} {af:Array Edge} {g:Option (Nat×Bool)} (hi:ops[i]? = some ⟨d,op,ty,pos,af,g⟩) (h:Tr c D sl hs (WL P r ops (Exit.then (zC P r ops Q fuel (listed.setIfInBounds i true)) (NP Q)) [⟨d,op,ty,pos,af,g⟩])):Ql P r c D sl hs ops Q fuel listed i:=fun a w bj=>by
 have h1:=h a w bj;unfold wpOpIn;simp only [hi];unfold WL at h1;split
 ·rename_i hw;rw [if_pos hw] at h1;exact Oper.vb (fun a w h=>h) (fun c a w h=>h) (fun h=>h) h1
 ·rename_i hw;rw [if_neg hw] at h1;exact ⟨fun _ _=>trivial,h1⟩
theorem Ed (hr:Region.ready .any ops listed=[]) (k:Tr c D sl hs (Q .normal)):Tr c D sl hs (zC P r ops Q fuel listed):=fun a w bj=>
 wpAnyIn_done (Q:=NP Q) hr (k a w bj) fuel
end
end Go.SL
namespace Go.SL
open Go
variable {P:Program} {c:Cx} {sl:aD} {hs:List bh} {dst:Option Tmp} {ty:TypeId} {pos:String} {af:Array Edge} {g:Option (Nat×Bool)}
end Go.SL
namespace Go.SL
open Go
section
variable {P:Program} {c:Cx} {sl:aD} {hs:List bh} {dst:Option Tmp} {ty:TypeId} {pos:String} {af:Array Edge} {g:Option (Nat×Bool)}
theorem yP {t e:TypeId} {m n:Nat} {agg:Bool} {x:Operand} {b o:Nat} [hu:gJ P t (.array m e)] [hT:Ty P e agg n] (hx:Is sl x (.pointer (some ⟨b,o,none⟩))) :
  cM P c sl hs ⟨dst,.slice t x none none none,ty,pos,af,g⟩ (.slice (some ⟨b,o,none⟩) m m):=
 ⟨by simp,fun ac w ha _=>by
  simp only [execOp,hx ac ha,Option.map];refine value_of ?_;simp [Instr.sliceAt,aW hu.eq,Instr.sureAddr,Instr.sliceBounds,fK (t:=e) (agg:=agg) (n:=n),eW]⟩
end
end Go.SL
namespace Go.Proofs.A1
open Go Go.SL
open Tryz
open Tryz renaming prog->T_
theorem Pu (x:Int) (w:World):ao T_ 342 [.q x] w (.bool false):=by
 refine ak func342 I I ?_;refine Jr<|Ja I<|Ji<|Jv I<|Jv I<|JD I<|Ja I<|Jn<|Je<|JT ?_;simp
theorem CQ (x y:Int) (w:World):ao T_ 300 [.q x,.q y] w (.q (kH x y)):=by
 refine ak func300 I I ?_
 (refine Jr<|Ja I<|Ji<|Jv I<|aj bS I (fun w' az=>(Pu x w'))<|Ja I<|Ji<|Jv I<|aj bS I (fun w' az=>(Pu y w'))<|Ja I<|Jn<|Jq<|Jr<|Jv I<|Jn<|bJ (.of I)<|Jk<|Jq<|Jr<|Jv I<|Jn<|bJ (.of I)<|Jk<|Jq<|Jr<|Jv I<|Jv I<|JA I<|Jn<|gR I (fun aA=>?_) fun aA=>?_;refine Jr<|Ja I<|Jn<|Ju<|JT ?_;rotate_left;refine Jk<|Jq<|Jr<|Jv I<|Jv I<|JE I<|Jn<|gR I (fun aA=>?_) fun aA=>?_;refine Jr<|Ja I<|Jn<|Ju<|JT ?_;rotate_left;refine Jk<|Jr<|Ja I<|Jn<|Je<|JT ?_;rotate_right;rotate_right)
 ·rw [kH,if_pos aA]
 ·rename_i h1;rw [kH,if_neg h1,if_pos aA]
 ·rename_i h1;rw [kH,if_neg h1,if_neg aA]
variable {w:World}
theorem T6 {lv:Value} {l:List Int} (h:Rd w lv 1 (ints l)):ao T_ 319 [lv] w (.q (ba l)):=by
 obtain ⟨a,cp,b,o,rfl,dD,cr,ha,hc⟩:=h;rw [cU] at *;unfold maxLen at cr;refine ak func319 I I ?_;refine Jr<|Ja I<|Ji<|Ja I<|Jn<|Jq<|Jr<|Jv I<|JI I<|Jv I<|Jn<|J0 ?_;refine bd (fun k:Nat=>k<=l.length/\ba l=ba (l.drop k)) (fun k=>[(8,.int .i64 k),(7,.int .i64 l.length),(6,.slice a l.length cp),(3,.int .i64 0)]) (fun _=>[]) (fun k=>l.length-k) ?_ ?_
 ·apply aJ 0 ⟨Zi _,I⟩
  case hs1=>exact cB
  case ht=>(try simp only [Ze,Zf,Za]);exact .nil
 rintro k ⟨hk,hf⟩;by_cases aN:k<l.length
 ·have c8:=ha (jG aN);have c0:w.cell? ⟨b,o+k*1,none⟩=some (.q l[k]):=(hc k _ (iz aN)).2 0 _ I;have jJ:=tg aN
  (refine Jr<|JA I<|Jn<|Jq<|Jd I fun aA=>Jk<|Jq<|J0<|Jr<|ab (gr c8 aA) I<|ab (ag (.of I) (At.base c0 I)) I<|Ja I<|Ji<|Jv I<|Jv I<|JD I<|Jn<|gR I (fun aA=>?_) fun aA=>?_;refine Jr<|Jv I<|Ja I<|Jn<|Je<|Jm<|Jh<|Jh<|Jm<|Jh<|JT ?_;rotate_left;refine Jw<|Jj<|Jt<|Jg<|JB I (by omega)<|Jv I<|Jn ?_;rotate_right)
  ·rw [hf,jJ,if_pos aA]
  ·apply aI (k+1) ⟨by omega,by rw [hf,jJ,if_neg aA]⟩ (by omega)
   case hs1=>exact cB
   case ht=>(try simp only [Ze,Zf,Za]);exact .nil
 ·rw [Zbz (by omega)] at hf;refine Jr<|JA I<|Jn<|Jq<|Jc I fun aA=>Jp<|Jl<|Jo<|Jt<|Jr<|Jv I<|Ja I<|Jn<|Je<|JT ?_;rw [hf];rfl
theorem zq {lv mv:Value} {l m:List Int} (h:Rd w lv 1 (ints l)) (h':Rd w mv 1 (ints m)):ao T_ 236 [lv,mv] w (.q (lP l m)):=by
 obtain ⟨a,cp,b,o,rfl,dD,cr,ha,hc⟩:=h;rw [cU] at *;obtain ⟨a',TC,b',o',rfl,oX,PH,c8,Oo⟩:=h';rw [cU] at *;unfold maxLen at cr PH;refine ak func236 I I ?_;refine Jr<|Ja I<|Jn<|Jq<|Jr<|Jv I<|JI I<|Jv I<|Jn<|J0 ?_;refine bd (fun k:Nat=>k<=l.length/\k<=m.length/\lP l m=lP (l.drop k) (m.drop k)) (fun k=>[(11,.int .i64 k),(10,.int .i64 l.length),(9,.slice a l.length cp),(0,.slice a l.length cp),(1,.slice a' m.length TC)]) (fun _=>[]) (fun k=>l.length-k) ?_ ?_
 ·apply aJ 0 ⟨Zi _,Zi _,I⟩
  case hs1=>exact cB
  case ht=>(try simp only [Ze,Zf,Za]);exact .nil
 rintro k ⟨hk,sy,hf⟩;by_cases aN:k<l.length
 ·have l7:=ha (jG aN);have c0:w.cell? ⟨b,o+k*1,none⟩=some (.q l[k]):=(hc k _ (iz aN)).2 0 _ I;by_cases sW:k<m.length
  ·have js:=c8 (jG sW);have c1:w.cell? ⟨b',o'+k*1,none⟩=some (.q m[k]):=(Oo k _ (iz sW)).2 0 _ I;have jJ:=Hk aN sW
   (refine Jr<|JA I<|Jn<|Jq<|Jd I fun aA=>Jk<|Jq<|J0<|Jr<|Jv I<|ab (gr l7 aA) I<|ab (ag (.of I) (At.base c0 I)) I<|Ja I<|Ja I<|Jn<|Jq<|Jr<|Jv I<|Jv I<|JI I<|JG I<|Jn<|Jc I fun aA=>Jk<|Jr<|Jv I<|Jv I<|ab (aC (.of I) (.of I) js (by omega) (by omega) bu) I<|ab (ag (.of I) (At.base c1 I)) I<|Ja I<|Ji<|Jv I<|Jv I<|aj bo I (fun w' az=>(CQ _ _ w'))<|Ja I<|Ji<|Jv I<|JD I<|Jn<|gR I (fun aA=>?_) fun aA=>?_;refine Jr<|Jv I<|Ja I<|Jn<|Je<|Jm<|Jh<|Jh<|Jm<|Jh<|JT ?_;rotate_left;refine Jw<|Jj<|Jt<|Jg<|JB I (by omega)<|Jv I<|Jn ?_;rotate_right)
   ·rw [hf,jJ,if_pos aA]
   ·apply aI (k+1) ⟨by omega,by omega,by rw [hf,jJ,if_neg aA]⟩ (by omega)
    case hs1=>exact cB
    case ht=>(try simp only [Ze,Zf,Za]);exact .nil
  ·rw [Zv aN,Zbz (show m.length<=k by omega)] at hf
   (refine Jr<|JA I<|Jn<|Jq<|Jd I fun aA=>Jk<|Jq<|J0<|Jr<|Jv I<|ab (gr l7 aA) I<|ab (ag (.of I) (At.base c0 I)) I<|Ja I<|Ja I<|Jn<|Jq<|Jr<|Jv I<|Jv I<|JI I<|JG I<|Jn<|Jd I fun aA=>Jr<|Ja I<|Jn<|Ju<|Jm<|Jh<|Jh<|Jm<|Jh<|JT ?_)
   rw [hf];rfl
 ·rw [Zbz (show l.length<=k by omega),Lu,Zbe] at hf;by_cases sW:k<m.length
  ·rw [if_pos (by omega)] at hf;refine Jr<|JA I<|Jn<|Jq<|Jc I fun aA=>Jp<|Jl<|Jo<|Jt<|Jq<|Jr<|Jv I<|JI I<|Jv I<|JI I<|JA I<|Jn<|Jd I fun aA=>Jr<|Ja I<|Jn<|Ju<|JT ?_;rw [hf]
  ·rw [if_neg (by omega)] at hf;refine Jr<|JA I<|Jn<|Jq<|Jc I fun aA=>Jp<|Jl<|Jo<|Jt<|Jq<|Jr<|Jv I<|JI I<|Jv I<|JI I<|JA I<|Jn<|Jc I fun aA=>Jk<|Jr<|Ja I<|Jn<|Je<|JT ?_;rw [hf]
def nq (r:Ro) (x:Ti):Int:=ba [fo r x.fr,fo r x.to,bT (decide (x.fr=x.to)) 24]
theorem OX {r:Ro} {s d t p:Value} (x:Ti) {w w1:World} (h:RR w1 r s d t p):ao T_ 145 [RA r s d t p,.agg x.cells.toArray] w (.q (nq r x)):=by
 obtain ⟨h1,h2,h3,h4⟩:=h.one;have U3:∀ m w',ao T_ 136 [.agg #[.int .i64 r.lv,.int .i64 r.ma,s,d,t,p],.int .i64 m] w' (.int .i64 (fo r m)):=fun m w'=>FK m h
 unfold RA Ti.cells;refine ak func145 I I ?_
 (refine Jr<|Jy I I fun _ _=>Jy I I fun _ _=>Ja I<|Ji<|bN I I ae<|JL I .here I<|bN I I ae<|JL I .here I<|ab (aX (.o I (.o I .nil)) an) I<|Jz I I fun _ _=>aq (.of I) (.of I) .here I I (gK I I) (bF I) an<|Jn<|Jq ?_)
 with_reducible refine cS 17 (by kernel_rfl) ?_
 (refine ar (cN bO) I<|ar k9 I<|ar (ic (.there .here)) I<|aZ bo I (fun w' az=>(U3 _ w'))<|ar (cN bO) I<|ar k9 I<|ar (ic (.there .here)) I<|aZ bo I (fun w' az=>(U3 _ w'))<|ar (cN .here) I<|ar k9 I<|ar (ic (.there .here)) I<|ar k9 I<|ar (ic (.there .here)) I<|ar (aX (.o I (.o I .nil)) an) I<|ar (uM (.of I) (.of I) (ka (ka lZ)) I) I<|aZ bo I (fun w' az=>(dO _ 24 w'))<|eA (aB (.o I (.o I (.o I .nil))) I I I I) I I ?_)
 with_reducible refine dz I fun bq lN=>?_
 (refine aj bS I (fun w' az=>(dE (Mem.dB az .here I I) (cg.cons (cg.cons (cg.cons cg.nil)))))<|Ja I<|Jn<|Je<|JT ?_)
 have e:(decide True&&(decide (x.to=x.fr)&&true))=decide (x.fr=x.to):=by
  rw [ZaS];simp [eq_comm]
 unfold nq;rw [<- e]
theorem vw {P:Program} {c:Cx} {sl:aD} {hs:List bh} {dst:Option Tmp} {ty:TypeId} {pos:String} {af:Array Edge} {g:Option (Nat×Bool)} {t kt et:TypeId} {x y:Operand} {b:Nat} {k:ByteArray} {l:List (ByteArray×Value)} {z V:Value} [hu:gJ P t (.map kt et)] [G4:gJ P kt .string] [hz:lQ P et z]
  (hx:Is sl x (.map (some b))) (hy:Is sl y (.string k)) (hl:Looks c hs b (fun s:ByteArray=>Value.string s) l) (e:(eN k l).getD z=V) :
  cM P c sl hs ⟨dst,.lookup t x y true,ty,pos,af,g⟩ (.tuple #[V,.bool (eN k l).isSome]):=e ▸ DR Kg hx hy hl
theorem IY {r:Ro} (hd:Dq r) (s:ByteArray):∃ (a b c:Int) (one:Bool),(eN s (oI r)).getD (lM 0 0 0)=lM a b c/\(eN s (oI r)).isSome=one/\(one=true->a=dY r s/\b=jR r s/\c=jH r s)/\(one=false->jR r s<0/\jH r s<0):=by
 rw [qA hd];cases h:fy (cY r) s with
 | true=>exact ⟨_,_,_,true,rfl,rfl,fun _=>⟨rfl,rfl,rfl⟩,fun h=>by cases h⟩
 | false =>
  refine ⟨0,0,0,false,I,I,(fun h=>by cases h),fun _=>?_⟩;have hn:s ∉ cY r:=fun hm=>by rw [dN.2 hm] at h;cases h
  unfold cY at hn;rw [Zq,Zq,not_or,not_or] at hn;have e1:=cm.2 hn.1.1;have e2:=cm.2 hn.1.2;have e3:=cm.2 hn.2;unfold jR jH;rw [if_neg (by omega),if_neg (by omega),if_neg (by omega),if_neg (by omega)];omega
def mn (r:Ro) (x:Po):Int:=ba [gC x.lv 0 (r.lv-1),bT (decide (jR r x.ou<0)) 10,bT (decide (jH r x.ip<0)) 10,bT (decide (jR r x.ou≠jH r x.ip)) 24]
def EJ (r:Ro):Option Po->List Int
 | none=>[-1,-1]
 | some x=>[x.lv,dY r x.ou]
def GM (r:Ro) (po:List Po) (k:Nat):Int:=
 match po[k]? with
 | none=>0
 | some x=>if mn r x≠0 then mn r x else if lP [x.lv,dY r x.ou] (EJ r (if k=0 then none else po[k-1]?))<=0 then 11 else 0
theorem ru {r:Ro} {po:List Po} {k:Nat} (h:k<po.length):GM r po k=if mn r po[k]≠0 then mn r po[k] else if lP [po[k].lv,dY r po[k].ou] (EJ r (if k=0 then none else po[k-1]?))<=0 then 11 else 0:=by
 unfold GM;rw [Zc h]
theorem NA {r:Ro} {x:Po} {a b c a' b' c':Int} {one two:Bool} (h1:one=true->a=dY r x.ou/\b=jR r x.ou/\c=jH r x.ou) (h2:one=false->jR r x.ou<0/\jH r x.ou<0)
  (h3:two=true->a'=dY r x.ip/\b'=jR r x.ip/\c'=jH r x.ip) (h4:two=false->jR r x.ip<0/\jH r x.ip<0) :
  ba [gC x.lv 0 (r.lv-1),bT (!one||decide (b<0)) 10,bT (!two||decide (c'<0)) 10,bT (decide (b≠c')) 24]=mn r x/\(mn r x=0->one=true):=by
 unfold mn;cases one with
 | true =>
  obtain ⟨-,rfl,-⟩:=h1 rfl;cases two with
  | true=>obtain ⟨-,-,rfl⟩:=h3 rfl;exact ⟨rfl,fun _=>rfl⟩
  | false =>
   have:=(h4 I).2;refine ⟨?_,fun _=>rfl⟩;simp [ba,bT,this]
 | false =>
  have:=(h2 I).1;constructor
  ·simp [ba,bT,this]
  ·intro h;simp [ba,bT,this] at h;split at h <;> simp_all
def jV (r:Ro) (po:List Po):Int:=jK (GM r po) po.length
theorem yj {r:Ro} {s d t p:Value} (h:RR w r s d t p) (hd:Dq r) (cJ:r.de.length+r.ti.length<=1000000) (AM:Wj (r.lv-1)):ao T_ 146 [RA r s d t p] w (.q (jV r r.po)):=by
 obtain ⟨h1,h2,h3,h4⟩:=h.one;have hp:=h.po;obtain ⟨a,cp,b,o',rfl,dD,cr,ha,hc⟩:=hp;rw [cO] at *;unfold maxLen at cr;unfold RA;refine ak func146 I I ?_;refine Jr<|Jy I I fun _ _=>Ja I<|Ji<|ab (cN .here) I ?_;refine JN bS I (fun w1 aY=>Fp (h.keeps aY.keeps) cJ) ?_;intro bm _;dsimp only [id_eq,Zb,Za]
 (refine Ja I<|Ji<|ab (aX (.o I (.o I .nil)) an) I<|Jz I I fun _ _=>aq (.of I) (.of I) .here I I (gK I I) (bF I) an<|Jn<|Jq<|Jr<|bN I I ae<|JL I bO I<|JI I<|Jv I<|Jn<|J0 ?_)
 rename_i b1 rW _ b4 xB
 refine bd (ι:=Nat×Int×Int) (fun x=>x.1<=r.po.length/\(∀ i,i<x.1->GM r r.po i=0)/\[x.2.1,x.2.2]=EJ r (if x.1=0 then none else r.po[x.1-1]?))
  (fun x=>[(19,.q (x.1:Nat)),(18,.q r.po.length),(17,.slice a r.po.length cp),(4,.p b4),(3,.map (some bm)),(2,.q 0),(1,.p b1)])
  (fun x=>[bA b4 (.cells #[.q x.2.1,.q x.2.2] 299 (0,0)),mp (fun s:ByteArray=>Value.string s) bm (oI r),JP b1 r s d t (.slice a r.po.length cp)])
  (fun x=>r.po.length-x.1) ?_ ?_
 ·apply aJ (0,-1,-1) ⟨Zi _,fun i h=>by omega,I⟩
  case hs1=>exact cB
  case ht=>(try simp only [Ze,Zf,Za]);exact .h3 .nil
 rintro ⟨k,l0,l1⟩ ⟨hk,hz,hl⟩;dsimp only at hk hz hl ⊢;by_cases aN:k<r.po.length
 ·have c8:=ha (kE aN);obtain ⟨jc,aG⟩:=hc k _ (iK aN);unfold Po.cells at aG;have jJ:=ru (r:=r) aN;obtain ⟨o1,o2,o3,one,e1,e2,e3,e4⟩:=IY hd (r.po[k]).ou;obtain ⟨i1,i2,i3,two,q1,q2,q3,q4⟩:=IY hd (r.po[k]).ip;obtain ⟨v1,v2⟩:=NA e3 e4 q3 q4;unfold lM at e1 q1
  (refine Jr<|JA I<|Jn<|Jq<|Jd I fun aA=>Jk<|Jq<|J0<|Jr<|ab (gr c8 aA) I<|ab (iD (eO.base aG I)) I<|Jz I I fun _ _=>aq (.of I) (.of I) .here I I (fc I I I) (bF I) an<|Ji<|Jv I<|bN I I ae<|JL I .here I ?_)
  refine ab (vw (.of I) (.of I) (Looks.mp bO) e1) I ?_;rw [e2]
  (refine Jv I<|JJ I I<|JJ I I<|Jz I I fun _ _=>aq (.of I) (.of I) .here I I (fc I I I) (bF I) an<|Ja I<|Ji<|Jv I<|bN I I ae<|JL I (.there .here) I ?_)
  refine ab (vw (.of I) (.of I) (Looks.mp c6) q1) I ?_;rw [q2]
  (refine Jv I<|JJ I I<|JJ I I<|Jz I I fun _ _=>aq (.of I) (.of I) .here I I (fc I I I) (bF I) an<|Ja I<|Jn<|Jq<|Jq ?_)
  with_reducible refine cS 29 (by kernel_rfl) ?_
  (refine ar k9 I<|ar (ic bO) I<|ar k9 I<|ar (ic fx) I<|ar (Ab (.of I) (.of I) AM) I<|aZ ek I (fun w' az=>(mC _ 0 _ w'))<|ar kL I<|ar (fC (.of I)) I<|ar kL I<|tz I I (fun hg bG=>(ai (.of I) ae)) I<|tz I I (fun hg bG=>(ag (.bX hg I) (At.lit (.there .here) I))) I<|tz I I (fun hg bG=>(oF (.bX hg I) (.of I))) I<|ar (bE (.of I) I) I<|aZ bo I (fun w' az=>(dO _ 10 w'))<|ar kL I<|ar (fC (.of I)) I<|ar kL I<|tz I I (fun hg bG=>(ai (.of I) ae)) I<|tz I I (fun hg bG=>(ag (.bX hg I) (At.lit .here I))) I<|tz I I (fun hg bG=>(oF (.bX hg I) (.of I))) I<|ar (bE (.of I) I) I<|aZ bo I (fun w' az=>(dO _ 10 w'))<|ar k9 I<|ar (ic (.there .here)) I<|ar k9 I<|ar (ic .here) I<|ar (eE (.of I) (.of I)) I<|aZ bo I (fun w' az=>(dO _ 24 w'))<|eA (aB (.o I (.o I (.o I (.o I .nil)))) I I I I) I I ?_)
  with_reducible refine dz I fun bq lN=>?_
  (refine aj bS I (fun w' az=>(dE (Mem.dB az .here I I) (cg.cons (cg.cons (cg.cons (cg.cons cg.nil))))))<|Ja I<|Ji<|Jv I<|JD I<|Jn<|gR I (fun aA=>?_) fun aA=>?_;refine Jr<|Jv I<|Ja I<|Jn<|Ju<|Jm<|Jh<|Jh<|Jm<|Jh<|JT ?_;rotate_left;refine Jk<|Jr<|bN I I ae<|JL I c6 I<|bN I I ae<|JL I bO I<|ab (aX (.o I (.o I .nil)) an) I<|Jz I I fun _ _=>aq (.of I) (.of I) .here I I (gK I I) (bF I) an<|Jn<|Jq<|Jq ?_;rotate_right)
  ·rw [v1] at aA ⊢;have hb:jV r r.po=mn r r.po[k]:=(fj hz aN (by rw [jJ,if_pos aA];exact aA)).trans (by rw [jJ,if_pos aA]);rw [hb]
  rw [v1] at aA;have hE:mn r r.po[k]=0:=Zr.1 aA;obtain ⟨g1,g2,g3⟩:=e3 (v2 hE);rename_i Bc Su
  with_reducible refine eP 2 (by kernel_rfl) ?_
  (refine aM (yP (.of I)) I<|aM (yP (.of I)) I ?_)
  with_reducible refine eU ?_
  skip
  with_reducible apply aj
  case hr=>exact bo
  case hd=>rfl
  case hc=>
   intro w' az;have y1:Rd w' (.w Bc 2 2) 1 (ints [(r.po[k]).lv,o1]):=Mem.dB (b:=Bc) (cs:=[.q (r.po[k]).lv,.q o1]) az (by exact .here) I I;have y2:Rd w' (.w b4 2 2) 1 (ints [l0,l1]):=Mem.dB (b:=b4) (cs:=[.q l0,.q l1]) az fx I I;exact zq y1 y2
  rw [hE] at jJ;rw [if_neg (by decide),<- g1,<- hl] at jJ
  (refine JF I<|Jn<|gR I (fun aA=>?_) fun aA=>?_;refine Jr<|Ja I<|Jn<|Ju<|Jm<|Jh<|Jh<|Jm<|Jh<|JT ?_;rotate_left;refine Jk<|Jg<|ab (cN .here) I<|aq (.of I) (.of I) fx I I (gK I I) (bF I) an<|Jx<|Jj<|Jt<|Jg<|JB I (by omega)<|Jv I<|Jn ?_;rotate_right)
  ·rw [if_pos aA] at jJ;have hb:jV r r.po=11:=(fj hz aN (by rw [jJ];decide)).trans jJ;rw [hb]
  rw [if_neg aA] at jJ;have Kr:∀ i,i<k+1->GM r r.po i=0:=fun i hi=>by
   by_cases e:i=k
   ·rw [e];exact jJ
   ·exact hz i (by omega)
  apply aI (k+1,(r.po[k]).lv,o1) ⟨show k+1<=r.po.length by omega,Kr,by
   show [(r.po[k]).lv,o1]=EJ r (if k+1=0 then none else r.po[k+1-1]?)
   rw [if_neg (by omega),ZaK,Zc aN,g1];rfl⟩ (show r.po.length-(k+1)<r.po.length-k by omega)
  case hs1=>exact cB
  case ht=>(try simp only [Ze,Zf,Za]);exact .h1 (.cons fx (.cons fx .nil))
 ·obtain rfl:k=r.po.length:=by omega
  have e:jV r r.po=0:=dC.2 hz;rw [e];refine Jr<|JA I<|Jn<|Jq<|Jc I fun aA=>Jp<|Jl<|Jo<|Jt<|Jr<|Ja I<|Jn<|Je<|JT ?_
  rfl
theorem QI {r:Ro} {s d t p:Value} (x:Sr) {b1:Nat} {w:World} (h:RR w r s d t p) (hA:BR w b1 (RC r s d t p)) :
  ao T_ 135 [.agg x.cells.toArray,.p b1] w (.q (fo r x.mx)):=by
 obtain ⟨h1,h2,h3,h4⟩:=h.one;have kq:∀ (j:Nat) (u:Value),[Value.int .i64 r.lv,.int .i64 r.ma,s,d,t,p][j]? = some u->w.cell? ⟨b1,0+j,none⟩=some u:=hA;unfold Sr.cells;refine ak func135 I I ?_
 (refine Jr<|Jy I I fun _ _=>Ja I<|Ji<|ab (iD (eO.base kq I)) I<|bN I I ae<|JL I .here I ?_)
 refine aj bo I (fun w' az=>FK x.mx h) ?_;refine Ja I<|Jn<|Je<|JT ?_
 rfl
theorem SP {r:Ro} {s d t p:Value} (x:De) {b1:Nat} {w:World} (h:RR w r s d t p) (hA:BR w b1 (RC r s d t p)) :
  ao T_ 137 [.agg x.cells.toArray,.p b1] w (.q (fo r x.mx)):=by
 obtain ⟨h1,h2,h3,h4⟩:=h.one;have kq:∀ (j:Nat) (u:Value),[Value.int .i64 r.lv,.int .i64 r.ma,s,d,t,p][j]? = some u->w.cell? ⟨b1,0+j,none⟩=some u:=hA;unfold De.cells;refine ak func137 I I ?_
 (refine Jr<|Jy I I fun _ _=>Ja I<|Ji<|ab (iD (eO.base kq I)) I<|bN I I ae<|JL I .here I ?_)
 refine aj bo I (fun w' az=>FK x.mx h) ?_;refine Ja I<|Jn<|Je<|JT ?_
 rfl
def j6 (r:Ro) (q:Int->Bool):Bool:=(List.range r.lv.toNat).any fun i=>q (i:Nat)
def nE (r:Ro):Int:=ba [gC r.lv 1 3,gC r.ma 1 4]
def jy (r:Ro):Int:=ba [fa 8 [] Sr.nm (fun x=>fo r x.mx) r.sr,fa 8 (cz r) De.nm (fun x=>fo r x.mx) r.de,fa 6 (cz r++bY r) Ti.nm (nq r) r.ti]
def AF (r:Ro):Int:=ba [bT (j6 r fun v=>r.ti.any (Mv r v)) 33,bT (j6 r fun v=>r.ti.any (I9 r v)) 32]
def fT (r:Ro):Int:=if nE r≠0 then nE r else if jy r≠0 then jy r else if jV r r.po≠0 then jV r r.po else AF r
theorem ck1 {r:Ro} (h:nE r≠0):fT r=nE r:=by unfold fT;rw [if_pos h]
theorem ck2 {r:Ro} (h1:nE r=0) (h:jy r≠0):fT r=jy r:=by unfold fT;rw [if_neg (by rw [h1];decide),if_pos h]
theorem ck3 {r:Ro} (h1:nE r=0) (h2:jy r=0) (h:jV r r.po≠0):fT r=jV r r.po:=by unfold fT;rw [if_neg (by rw [h1];decide),if_neg (by rw [h2];decide),if_pos h]
theorem ck4 {r:Ro} (h1:nE r=0) (h2:jy r=0) (h3:jV r r.po=0):fT r=AF r:=by unfold fT;rw [if_neg (by rw [h1];decide),if_neg (by rw [h2];decide),if_neg (by rw [h3];decide)]
theorem Xm {r:Ro} (h:fa 8 [] Sr.nm (fun x=>fo r x.mx) r.sr≠0):jy r=fa 8 [] Sr.nm (fun x=>fo r x.mx) r.sr:=by unfold jy ba;rw [if_pos h]
theorem Xl {r:Ro} (h1:fa 8 [] Sr.nm (fun x=>fo r x.mx) r.sr=0) (h:fa 8 (cz r) De.nm (fun x=>fo r x.mx) r.de≠0):jy r=fa 8 (cz r) De.nm (fun x=>fo r x.mx) r.de:=by unfold jy ba ba;rw [if_neg (by rw [h1];decide),if_pos h]
theorem Wo {r:Ro} (h1:fa 8 [] Sr.nm (fun x=>fo r x.mx) r.sr=0) (h2:fa 8 (cz r) De.nm (fun x=>fo r x.mx) r.de=0):jy r=ba [fa 6 (cz r++bY r) Ti.nm (nq r) r.ti]:=by unfold jy;rw [ba,if_neg (by rw [h1];decide),ba,if_neg (by rw [h2];decide)]
theorem rp {α:Type} {nW:Int} {bf:List ByteArray} {nm:α->ByteArray} {ck:α->Int} {l:List α} (hb:bf.Nodup) (h:fa nW bf nm ck l=0):(bf++l.map nm).Nodup/\(l.length:Int)<=nW/\∀ x∈l,ck x=0:=by
 unfold fa at h;split at h
 ·cases h
 rename_i hl;rw [dC] at h;have hk:∀ k,k<=l.length->(bf++(l.take k).map nm).Nodup/\∀ x∈l.take k,ck x=0:=by
  intro k
  induction k with
  | zero=>intro _;simpa using hb
  | succ k ih =>
   intro hk;obtain ⟨i1,i2⟩:=ih (by omega);have:=h k (by omega);rw [ns (by omega)] at this;rw [bP] at this;have h9:fy (bf++(l.take k).map nm) (nm l[k])=false/\ck l[k]=0:=⟨(bC (show (9:Int)≠0 by decide)).1 (this _ (ZT _ Zp)),this _ (ZT _ (ZT _ Zp))⟩;rw [Zn (by omega),Zz,<- Zh];refine ⟨?_,?_⟩
   ·rw [Zx];refine ⟨i1,by simp,fun x hx y hy e=>?_⟩;rw [Zaf,Zf,ZB] at hy;subst hy;subst e;rw [dN.2 hx] at h9;cases h9.1
   ·intro x hx;rcases Zq.1 hx with hx | hx
    ·exact i2 x hx
    ·rw [ZB.1 hx];exact h9.2
 have:=hk _ (ZC _);rw [ZN] at this;exact ⟨this.1,by omega,this.2⟩
theorem Ao {r:Ro} (h:jy r=0):Dq r/\(r.sr.length<=8/\r.de.length<=8/\r.ti.length<=6)/\(∀ x∈r.sr,fo r x.mx=0)/\(∀ x∈r.de,fo r x.mx=0)/\∀ x∈r.ti,nq r x=0:=by
 unfold jy at h;have h3:fa 8 [] Sr.nm (fun x=>fo r x.mx) r.sr=0/\fa 8 (cz r) De.nm (fun x=>fo r x.mx) r.de=0/\fa 6 (cz r++bY r) Ti.nm (nq r) r.ti=0:=by
  rw [bP] at h;exact ⟨h _ (by simp),h _ (by simp),h _ (by simp)⟩
 obtain ⟨h4,h5,h6⟩:=rp Zah h3.1;rw [Za] at h4;obtain ⟨h7,h8,h9⟩:=rp (show (cz r).Nodup from h4) h3.2.1;obtain ⟨g7,g8,g9⟩:=rp (show (cz r++bY r).Nodup from h7) h3.2.2;exact ⟨⟨g7⟩,⟨by omega,by omega,by omega⟩,h6,h9,g9⟩
theorem vR {r:Ro} (h:nE r=0):1<=r.lv/\r.lv<=3/\1<=r.ma/\r.ma<=4:=by
 unfold nE at h;rw [bP] at h;have h1:=gB.1 (h _ (Zp));have h2:=gB.1 (h _ (ZT _ Zp));omega
theorem eT {r:Ro} {s d t p:Value} (h:RR w r s d t p) (cJ:r.sr.length<=300/\r.de.length<=300/\r.ti.length<=300):ao T_ 34 [RA r s d t p] w (.q (fT r)):=by
 obtain ⟨h1,h2,h3,h4⟩:=h.one;unfold RA;refine ak func34 I I ?_;refine Jr<|Jy I I fun _ _=>Ja I<|Jn<|Jq<|Jq ?_;rename_i b1 rW
 with_reducible refine cS 7 (by kernel_rfl) ?_
 (refine ar k9 I<|ar (ic .here) I<|aZ ek I (fun w' az=>(mC _ 1 3 w'))<|ar k9 I<|ar (ic .here) I<|aZ ek I (fun w' az=>(mC _ 1 4 w'))<|eA (aB (.o I (.o I .nil)) I I I I) I I ?_)
 with_reducible refine dz I fun bq lN=>?_
 (refine aj bS I (fun w' az=>(dE (Mem.dB az .here I I) (cg.cons (cg.cons cg.nil))))<|Ja I<|Ji<|Jv I<|JD I<|Jn<|gR I (fun aA=>?_) fun aA=>?_;refine Jr<|Jv I<|Ja I<|Jn<|Ju<|JT ?_;rotate_left;refine Jk<|Jr<|ab (bI .nil (.o I .nil)) I<|Ja I<|Ji<|ab (bI .nil (.o I .nil)) I<|Ja I<|Jn<|Jq<|Jr<|bN I I ae<|JL I (.there .here) I<|Jv I ?_;rotate_right)
 ·exact congrArg (Value.int .i64) (ck1 aA).symm
 have oo:nE r=0:=Zr.1 aA;have hl:=vR oo;clear aA;have KG:∀ w',Rd w' (.z) 1 (ie []):=fun w'=>⟨none,0,0,0,I,by simp [ie],by unfold maxLen;omega,fun h=>absurd I h,fun i r hr=>by simp [ie] at hr⟩
 with_reducible apply aj
 case hr=>exact L6
 case hd=>rfl
 case hc=>
  intro w' az;have hA:BR w' b1 [.q r.lv,.q r.ma,s,d,t,p]:=BR.of az (by exact Take.there .here);have hR:=h.keeps az.keeps;exact CT (bf:=[]) 8 (f2:=135) (first2:=[]) (cap:=[.p b1]) hR.sr (KG _) (by rw [Zan];omega) (fun x _ w2 _=>JO x w2) (fun x _ w2 eL=>QI x (hR.keeps eL) (hA.keeps eL))
 (refine Ja I<|Ji<|Jv I<|JD I<|Jn<|gR I (fun aA=>?_) fun aA=>?_;refine Jr<|Jv I<|Ja I<|Jn<|Ju<|JT ?_;rotate_left;refine Jk<|Jr<|bN I I ae<|JL I (.there .here) I ?_;rotate_right)
 ·have hp:=Xm aA;rw [<- hp] at aA ⊢;exact congrArg (Value.int .i64) (ck2 oo aA).symm
 have p1:fa 8 [] Sr.nm (fun x=>fo r x.mx) r.sr=0:=Zr.1 aA
 clear aA;have q1:=rp Zah p1;refine JN bo I (fun w1 aY=>NN (f:=139) (first:=[]) (cap:=[]) (g:=Sr.nm) (h.keeps aY.keeps).sr (by omega) (fun x _ w2 _=>JO x w2)) ?_
 intro nv _;dsimp only [id_eq,Zb,Za];refine aT (by exact .here) fun na nc e=>?_;subst e
 (refine Ja I<|Jn<|Jq<|Jr<|bN I I ae<|JL I bO I<|Jv I<|Jv I ?_)
 with_reducible apply aj
 case hr=>exact L6
 case hd=>rfl
 case hc=>
  intro w' az;have hA:BR w' b1 [.q r.lv,.q r.ma,s,d,t,p]:=BR.of az bO;have hR:=h.keeps az.keeps;have hN:Rd w' (.slice na r.sr.length nc) 1 (ie (r.sr.map Sr.nm)):=dA az (by exact .here) (by rw [Zd]);exact CU (bf:=cz r) 8 (f2:=137) (first2:=[]) (cap:=[.p b1]) hR.de hN (by unfold cz;rw [Zd];omega) (fun x _ w2 _=>Ea x w2) (fun x _ w2 eL=>SP x (hR.keeps eL) (hA.keeps eL))
 (refine Ja I<|Ji<|Jv I<|JD I<|Jn<|gR I (fun aA=>?_) fun aA=>?_;refine Jr<|Jv I<|Ja I<|Jn<|Ju<|JT ?_;rotate_left;refine Jk<|Jr<|Jv I<|bN I I ae<|JL I bO I ?_;rotate_right)
 ·have hp:=Xl p1 aA;rw [<- hp] at aA ⊢;exact congrArg (Value.int .i64) (ck2 oo aA).symm
 have p2:fa 8 (cz r) De.nm (fun x=>fo r x.mx) r.de=0:=Zr.1 aA
 clear aA;have q2:=rp (show (cz r).Nodup from q1.1) p2;refine JN bo I (fun w1 aY=>Fy (f:=124) (first:=[]) (cap:=[]) (g:=De.nm) (h.keeps aY.keeps).de (by omega) (fun x _ w2 _=>Ea x w2)) ?_
 intro dv _;dsimp only [id_eq,Zb,Za];refine aT (by exact .here) fun da dc e=>?_;subst e;refine bn (aB (.o I (.o I .nil)) I I I I) I (fun _ _=>?_);rename_i bq2 afM
 with_reducible apply jt
 case hr=>exact bS
 case hd=>rfl
 case ht=>exact bK.nil
 case hc=>
  intro w1 fp aY _ hs1;obtain rfl:fp=[]:=hs1;have hN:Rd w1 (.slice na r.sr.length nc) 1 (ie (r.sr.map Sr.nm)):=dA aY bO (by rw [Zd]);have hD:Rd w1 (.slice da r.de.length dc) 1 (ie (r.de.map De.nm)):=dA aY (by exact Take.there .here) (by rw [Zd])
  exact Hj (vs:=[.slice na r.sr.length nc,.slice da r.de.length dc]) (ess:=[r.sr.map Sr.nm,r.de.map De.nm]) (Mem.dB (b:=bq2) aY (by exact .here) I I) I
   (fun i v es hv he=>by
    match i,hv,he with
    | 0,hv,he=>cases hv;cases he;exact hN
    | 1,hv,he=>cases hv;cases he;exact hD) (by simp;omega)
 intro av _;dsimp only [id_eq,Zb,Za]
 (refine Ja I<|Jn<|Jq<|Jr<|bN I I ae<|JL I fx I<|Jv I<|ab (cN fx) I<|ab (bI (.o I .nil) .nil) I ?_)
 have tV:[r.sr.map Sr.nm,r.de.map De.nm].flatten=cz r++bY r:=by simp [cz,bY]
 with_reducible apply aj
 case hr=>exact L6
 case hd=>rfl
 case hc=>
  intro w' az;have hR:=h.keeps az.keeps;have hB:Rd w' av 1 (ie [r.sr.map Sr.nm,r.de.map De.nm].flatten):=az.qm (by exact .here) I (H9 _) (by rw [cu]);rw [tV] at hB;exact CS (bf:=cz r++bY r) 6 (f2:=145) (first2:=[RA r s d t p]) (cap:=[]) hR.ti hB (by unfold cz bY;rw [Zg,Zd,Zd];omega) (fun x _ w2 _=>D9 x w2) (fun x _ w2 eL=>OX x h)
 (refine bn (aB (.o I .nil) I I I I) I fun _ _=>aj bS I (fun w' az=>(dE (Mem.dB az .here I I) (cg.cons cg.nil)))<|Ja I<|Ji<|Jv I<|JD I<|Jn<|gR I (fun aA=>?_) fun aA=>?_;refine Jr<|Jv I<|Ja I<|Jn<|Ju<|JT ?_;rotate_left;refine Jk<|Jq<|Jr<|ab (cN qY) I ?_;rotate_right)
 ·have hp:jy r≠0:=by rw [Wo p1 p2];exact aA
  exact congrArg (Value.int .i64) ((Wo p1 p2).symm.trans (ck2 oo hp).symm)
 have KE:jy r=0:=by rw [Wo p1 p2];exact Zr.1 aA
 obtain ⟨kY,hlen,-⟩:=Ao KE;clear aA;refine aj bS I (fun w' az=>yj (h.keeps az.keeps) kY (by omega) (by unfold Wj;omega)) ?_
 (refine Ja I<|Ji<|Jv I<|JD I<|Jn<|gR I (fun aA=>?_) fun aA=>?_;refine Jr<|Jv I<|Ja I<|Jn<|Ju<|JT ?_;rotate_left;refine Jk<|Jq ?_;rotate_right)
 ·exact congrArg (Value.int .i64) (ck3 oo KE aA).symm
 have R5:jV r r.po=0:=Zr.1 aA;clear aA;rw [ck4 oo KE R5];have Vh:∀ w',aH [] w w'->ao T_ 148 [.agg #[.q r.lv,.q r.ma,s,d,t,p],.func (.func 149) #[.agg #[.q r.lv,.q r.ma,s,d,t,p]] #[]] w' (.bool (j6 r fun v=>r.ti.any (Mv r v))):=fun w' hk=>
  Qj (f:=149) (first:=[RA r s d t p]) (cap:=[]) h (by omega) (fun v _ _ w2 eL=>OQ v ((h.keeps hk).keeps eL) (by omega))
 have Vg:∀ w',aH [] w w'->ao T_ 148 [.agg #[.q r.lv,.q r.ma,s,d,t,p],.func (.func 150) #[.agg #[.q r.lv,.q r.ma,s,d,t,p]] #[]] w' (.bool (j6 r fun v=>r.ti.any (I9 r v))):=fun w' hk=>
  Qj (f:=150) (first:=[RA r s d t p]) (cap:=[]) h (by omega) (fun v _ _ w2 eL=>Rk v ((h.keeps hk).keeps eL))
 with_reducible refine cS 11 (by kernel_rfl) ?_
 (refine ar (cN qY) I<|ar (cN qY) I<|ar (bI (.o I .nil) .nil) I<|aZ bo I (fun w' az=>(Vh w' (Mem.keeps az)))<|aZ bo I (fun w' az=>(dO _ 33 w'))<|ar (cN qY) I<|ar (cN qY) I<|ar (bI (.o I .nil) .nil) I<|aZ bo I (fun w' az=>(Vg w' (Mem.keeps az)))<|aZ bo I (fun w' az=>(dO _ 32 w'))<|eA (aB (.o I (.o I .nil)) I I I I) I I ?_)
 with_reducible refine dz I fun bq lN=>?_
 (refine aj bS I (fun w' az=>(dE (Mem.dB az .here I I) (cg.cons (cg.cons cg.nil))))<|Ja I<|Jn<|Je<|JT ?_)
 rfl
theorem v8 {α:Type} (nm:α->ByteArray) (l:List α) (s:ByteArray):gH (fun x=>decide (nm x=s)) l=br (l.map nm) s:=by
 rcases pR (fun x=>decide (nm x=s)) l with ⟨e1,e2⟩ | ⟨i,hi,e1,e2⟩
 ·rw [e1];refine (AX fun j hj e=>?_).symm;rw [ZaM] at e2;rw [Z2] at e;exact e2 _ (Zj _) (by simpa using e)
 ·rw [e1];rw [ZaB] at e2;obtain ⟨hp,k,hk,he,hb⟩:=e2;have WT:i=k:=by
   have h1:gH (fun x=>decide (nm x=s)) l=(k:Nat):=gG (fun j hj=>by
    rw [Zc (by omega)];have:=hb j hj;simpa using this) hk (by rw [he];exact hp)
   rw [e1] at h1
   exact_mod_cast h1
  subst WT;refine (lx (by rw [Zd];exact hi) (by rw [Z2];simpa using hp) fun j hj e=>?_).symm;rw [Z2] at e;have:=hb j hj;simp [e] at this
theorem SO (x:De) (o:ByteArray) {b2:Nat} {w:World} (f2:w.cell? ⟨b2,0,none⟩=some (.string o)) :
  ao T_ 243 [.agg x.cells.toArray,.p b2] w (.bool (decide (x.nm=o))):=by
 unfold De.cells;refine ak func243 I I ?_
 (refine Jr<|Jy I I fun _ _=>Ja I<|Ji<|bN I I ae<|JL I .here I<|ab (ag (.of I) (At.base f2 I)) I<|ab (eR (.of I) (.of I)) I<|Ja I<|Jn<|Je<|JT ?_)
 rfl
theorem QH (x:Sr) (o:ByteArray) {b2:Nat} {w:World} (f2:w.cell? ⟨b2,0,none⟩=some (.string o)) :
  ao T_ 264 [.agg x.cells.toArray,.p b2] w (.bool (decide (x.nm=o))):=by
 unfold Sr.cells;refine ak func264 I I ?_
 (refine Jr<|Jy I I fun _ _=>Ja I<|Ji<|bN I I ae<|JL I .here I<|ab (ag (.of I) (At.base f2 I)) I<|ab (eR (.of I) (.of I)) I<|Ja I<|Jn<|Je<|JT ?_)
 rfl
theorem fw {r:Ro} {s d t p:Value} (o:ByteArray) {w:World} (h:RR w r s d t p):ao T_ 155 [RA r s d t p,.string o] w (.q (br (bY r) o)):=by
 obtain ⟨h1,h2,h3,h4⟩:=h.one;unfold RA;refine ak func155 I I ?_
 (refine Jr<|Jy I I fun _ _=>Jy I I fun _ _=>Ja I<|Ji<|bN I I ae<|JL I (.there .here) I<|ab (bI .nil (.o I .nil)) I ?_)
 rename_i b3 uY b4 xB
 with_reducible apply aj
 case hr=>exact bo
 case hd=>rfl
 case hc=>
  intro w' az;have f2:w'.cell? ⟨b4,0,none⟩=some (.string o):=At.lit (by exact .here) I w' az
  exact N4 (f:=243) (p:=fun x=>decide (x.nm=o)) (first:=[]) (cap:=[.p b4]) (h.keeps az.keeps).de
   (fun x hx w2 eL=>SO x o (cD f2 I eL))
 rw [v8];refine Ja I<|Jn<|Je<|JT ?_
 rfl
theorem mI {r:Ro} {s d t p:Value} (o:ByteArray) {w:World} (h:RR w r s d t p):ao T_ 180 [RA r s d t p,.string o] w (.q (br (cz r) o)):=by
 obtain ⟨h1,h2,h3,h4⟩:=h.one;unfold RA;refine ak func180 I I ?_
 (refine Jr<|Jy I I fun _ _=>Jy I I fun _ _=>Ja I<|Ji<|bN I I ae<|JL I (.there .here) I<|ab (bI .nil (.o I .nil)) I ?_)
 rename_i b3 uY b4 xB
 with_reducible apply aj
 case hr=>exact bo
 case hd=>rfl
 case hc=>
  intro w' az;have f2:w'.cell? ⟨b4,0,none⟩=some (.string o):=At.lit (by exact .here) I w' az
  exact FG (f:=264) (p:=fun x=>decide (x.nm=o)) (first:=[]) (cap:=[.p b4]) (h.keeps az.keeps).sr
   (fun x hx w2 eL=>QH x o (cD f2 I eL))
 rw [v8];refine Ja I<|Jn<|Je<|JT ?_
 rfl
def Dg (r:Ro) (v:Int):Int:=gC v 0 (IntKind.i64.wrap (r.lv-1))
def ux (r:Ro) (o:ByteArray):Int:=bT (decide (br (bY r) o<0)) 10
def Na (r:Ro) (o:ByteArray):Int:=bT (decide (br (cz r) o<0)) 10
theorem k6 {r:Ro} {s d t p:Value} (v:Int) {w w1:World} (h:RR w1 r s d t p):ao T_ 114 [RA r s d t p,.q v] w (.q (Dg r v)):=by
 obtain ⟨h1,h2,h3,h4⟩:=h.one;unfold RA;refine ak func114 I I ?_
 (refine Jr<|Jy I I fun _ _=>Ja I<|Ji<|Jv I<|bN I I ae<|JL I .here I ?_)
 refine ab (No (.of I) (.of I)) I ?_
 (refine aj ek I (fun w' az=>(mC v 0 _ w'))<|Ja I<|Jn<|Je<|JT ?_)
 rfl
theorem eM {r:Ro} {s d t p:Value} (o:ByteArray) {w:World} (h:RR w r s d t p):ao T_ 112 [RA r s d t p,.string o] w (.q (ux r o)):=by
 obtain ⟨h1,h2,h3,h4⟩:=h.one;have xZ:∀ w',aH [] w w'->ao T_ 155 [.agg #[.int .i64 r.lv,.int .i64 r.ma,s,d,t,p],.string o] w' (.int .i64 (br (bY r) o)):=fun w' hk=>fw o (h.keeps hk)
 unfold RA;refine ak func112 I I ?_
 (refine Jr<|Jy I I fun _ _=>Ja I<|Ji<|ab (cN .here) I<|Jv I<|aj bo I (fun w' az=>(xZ w' (Mem.keeps az)))<|JA I<|aj bo I (fun w' az=>(dO _ 10 w'))<|Ja I<|Jn<|Je<|JT ?_)
 rfl
theorem qu {r:Ro} {s d t p:Value} (o:ByteArray) {w:World} (h:RR w r s d t p):ao T_ 122 [RA r s d t p,.string o] w (.q (Na r o)):=by
 obtain ⟨h1,h2,h3,h4⟩:=h.one;have hsrc:∀ w',aH [] w w'->ao T_ 180 [.agg #[.int .i64 r.lv,.int .i64 r.ma,s,d,t,p],.string o] w' (.int .i64 (br (cz r) o)):=fun w' hk=>mI o (h.keeps hk)
 unfold RA;refine ak func122 I I ?_
 (refine Jr<|Jy I I fun _ _=>Ja I<|Ji<|ab (cN .here) I<|Jv I<|aj bo I (fun w' az=>(hsrc w' (Mem.keeps az)))<|JA I<|aj bo I (fun w' az=>(dO _ 10 w'))<|Ja I<|Jn<|Je<|JT ?_)
 rfl
def cL (r:Ro) (o:ByteArray):List ByteArray:=(List.range r.lv.toNat).map fun (v:Nat)=>kN r v o
theorem wE {r:Ro} {s d t p:Value} (o:ByteArray) {w:World} (h:RR w r s d t p) (AM:r.lv<=1000) (cJ:r.ti.length<=1000000):bB T_ 113 [RA r s d t p,.string o] w [] (fun _:Value=>True) id (fun v=>[row 9 1 v r.lv.toNat (aO (cL r o))]):=by
 obtain ⟨h1,h2,h3,h4⟩:=h.one;unfold RA;refine aV func113 I I ?_
 (refine Jr<|Jy I I fun _ _=>Ja I<|Ji<|Ja I<|Jn<|Jq<|Jr<|bN I I ae<|JL I .here I<|Jv I<|Jn<|J0 ?_)
 rename_i b2 tX;refine aR 9 1 ?_
 refine bd (ι:=Nat×Value) (fun x=>x.1<=r.lv.toNat)
  (fun x=>[(9,.q (x.1:Nat)),(8,.q r.lv),(5,x.2),(2,.p b2),(1,.string o)])
  (fun x=>[row 9 1 x.2 x.1 (aO ((cL r o).take x.1)),JP b2 r s d t p]) (fun x=>r.lv.toNat-x.1) ?_ ?_
 ·apply aJ (0,.z) (Zi _)
  case hs1=>exact cB
  case ht=>
   exact .h2 .nil
 rintro ⟨k,v⟩ hk;dsimp only at hk ⊢;by_cases aN:k<r.lv.toNat
 ·have FJ:((k:Nat):Int)<r.lv:=by omega
  have htk:(cL r o).take (k+1)=(cL r o).take k++[kN r (k:Nat) o]:=by
   unfold cL;rw [Zn (by simpa using aN)];simp
  have bj:aO ((cL r o).take (k+1))=aO ((cL r o).take k)++[.string (kN r (k:Nat) o)]:=by rw [htk,fg];rfl
  have hlen:(aO ((cL r o).take k)).length=k*1:=by
   rw [dj,Zs];unfold cL;rw [Zd,Zar];omega
  (refine Jr<|JA I<|Jn<|Jq<|Jd I fun aA=>Jk<|Jq<|J0<|Jr<|Jv I<|Ja I<|Jn<|Jg<|Jv I<|ab (cN (.there .here)) I<|Jv I<|Jv I ?_)
  refine aj ek I (fun w' az=>mX (s:=s) (d:=d) (t:=t) (p:=p) (k:Nat) o (h.keeps az.keeps) cJ) ?_;refine bn (aB (.o I .nil) I I I I) I (fun _ _=>?_);refine bH (.of I) (.of I) (.there .here) .here an (by rfl) (dG I) (by rfl) (by rfl) (by rfl) eC (by rfl) ?_;intro v';refine Ja I<|Jx<|Jj<|Jt<|Jg<|JB I (by omega)<|Jv I<|Jn ?_;apply aI (k+1,v') (by show k+1<=r.lv.toNat;omega) (by show r.lv.toNat-(k+1)<r.lv.toNat-k;omega)
  case hs1=>exact cB
  case ht=>
   show bK _ [row 9 1 v' (k+1) (aO ((cL r o).take (k+1))),JP b2 r s d t p] _;rw [bj];exact .h1 (.cons (.there .here) .nil)
 ·have e:k=r.lv.toNat:=by omega
  subst e;have htk:(cL r o).take r.lv.toNat=cL r o:=Zal (by unfold cL;simp);rw [htk];refine Jr<|JA I<|Jn<|Jq<|Jc I fun aA=>Jp<|Jl<|Jo<|Jt<|Jr<|Jv I<|Ja I<|Jn<|Je ?_
  with_reducible first|apply aP|apply aQ
  case he=>exact dS I I
  case hR=>
   intro w' az;exact aF v trivial (by exact .h1 .nil) az I
theorem ph {r:Ro} {s d t p:Value} (v:Int) (o:ByteArray) {w:World} (h:RR w r s d t p):ao T_ 121 [RA r s d t p,.q v,.string o] w (.bool (ib r.po v o)):=by
 obtain ⟨h1,h2,h3,h4⟩:=h.one;unfold RA;refine ak func121 I I ?_
 (refine Jr<|Jy I I fun _ _=>Ja I<|Ji<|ab (cN .here) I<|Jv I<|Jv I ?_)
 refine aj ek I (fun w' az=>AJ (s:=s) (d:=d) (t:=t) (p:=p) v o (h.keeps az.keeps)) ?_;refine Jv I<|JJ I I<|JJ I I<|Ja I<|Ja I<|Ji<|Jv I<|Ja I<|Jn<|Je<|JT ?_
 rfl
def me (r:Ro):Prop:=r.sr.length<=300/\r.de.length<=300/\r.ti.length<=300
theorem qP {r:Ro} (h:fT r=0):nE r=0/\jy r=0/\jV r r.po=0/\AF r=0:=by
 unfold fT at h;by_cases h1:nE r=0
 ·rw [if_neg (by rw [h1];decide)] at h;by_cases h2:jy r=0
  ·rw [if_neg (by rw [h2];decide)] at h;by_cases h3:jV r r.po=0
   ·rw [if_neg (by rw [h3];decide)] at h;exact ⟨h1,h2,h3,h⟩
   ·rw [if_pos h3] at h;exact absurd h h3
  ·rw [if_pos h2] at h;exact absurd h h2
 ·rw [if_pos h1] at h;exact absurd h h1
def KL (r:Ro) (o:ByteArray):Int:=ba [fT r,ux r o]
def G3 (r:Ro) (o:ByteArray):List ByteArray:=if KL r o≠0 then [] else cL r o
theorem Ta {r:Ro} {s d t p:Value} (o:ByteArray) {w:World} (h:RR w r s d t p) (cJ:me r):bB T_ 20 [RA r s d t p,.string o] w [] (fun _:Value=>True) (fun v=>.tuple #[v,.q (KL r o)]) (fun v=>[row 9 1 v (G3 r o).length (aO (G3 r o))]):=by
 obtain ⟨h1,h2,h3,h4⟩:=h.one;have fB:∀ w',aH [] w w'->ao T_ 34 [.agg #[.int .i64 r.lv,.int .i64 r.ma,s,d,t,p]] w' (.int .i64 (fT r)):=fun w' hk=>eT (h.keeps hk) cJ
 have lp:∀ w',aH [] w w'->ao T_ 112 [.agg #[.q r.lv,.q r.ma,s,d,t,p],.string o] w' (.q (ux r o)):=fun w' hk=>eM o (h.keeps hk)
 unfold RA;refine aV func20 I I ?_;refine Jr<|Jy I I fun _ _=>Ja I<|Ja I<|Jn<|Jq<|Jq ?_;rename_i b2 tX
 with_reducible refine cS 6 (by kernel_rfl) ?_
 (refine ar (cN .here) I<|aZ bS I (fun w' az=>(fB w' (Mem.keeps az)))<|ar (cN .here) I<|ar kL I<|aZ bo I (fun w' az=>(lp w' (Mem.keeps az)))<|eA (aB (.o I (.o I .nil)) I I I I) I I ?_)
 with_reducible refine dz I fun bq lN=>?_
 (refine aj bS I (fun w' az=>(dE (Mem.dB az .here I I) (cg.cons (cg.cons cg.nil))))<|Ja I<|Ji<|Jv I<|JD I<|Jn<|gR I (fun aA=>?_) fun aA=>?_;refine Jr<|Jv I<|Ja I<|Ja I<|Jn<|Ju ?_;rotate_left;refine Jk<|Jr<|ab (cN (.there .here)) I<|Jv I ?_;rotate_right)
 ·have e1:G3 r o=[]:=if_pos aA;rw [e1];refine aR 9 1 ?_
  with_reducible first|apply aP|apply aQ
  case he=>exact gl I I I
  case hR=>
   intro w' az;exact aF (.z) trivial (by exact .h1 .nil) az I
 have e1:G3 r o=cL r o:=if_neg aA;have e0:ba [fT r,ux r o]=0:=Zr.1 aA;have e2:KL r o=0:=e0;have hl:=vR (qP (bP.1 e0 _ Zp)).1;have hn:(cL r o).length=r.lv.toNat:=by unfold cL;simp
 rw [e1,e2,hn];refine JN bo I (fun w1 aY=>wE o (h.keeps aY.keeps) (by omega) (by have:=cJ.2.2;omega)) ?_;intro v _;dsimp only [id_eq,Zb,Za];refine Ja I<|Ja I<|Jn<|Je ?_
 with_reducible first|apply aP|apply aQ
 case he=>exact gl I I I
 case hR=>
  intro w' az;exact aF v trivial (by exact .h1 .nil) az I
end Go.Proofs.A1
namespace Go.SL
open Go
section
variable {P:Program} {c:Cx} {D:List Nat} {sl:aD} {hs hs':List bh} {ty:TypeId} {pos:String} {af:Array Edge} {r:Option Nat} {ops:Array Oper} {Q:Exit->Act->World->Prop} {rest:List Oper}
theorem zF (zs:List Value) (n:Nat):Builtin.zeroCells zs.toArray n=((List.replicate n zs).flatten).toArray:=by
 unfold Builtin.zeroCells;apply Array.ext
 ·simp
 ·intro i h1 h2;have hi:i<n*zs.length:=by simpa using h1
  have hz:0<zs.length:=by
   rcases Nat.eq_zero_or_pos zs.length with e | e
   ·rw [e] at hi;omega
   ·exact e
  have hm:i % zs.length<zs.length:=Nat.mod_lt _ hz;have tV:∀ (n i:Nat) (h:i<(List.replicate n zs).flatten.length),(List.replicate n zs).flatten[i]=zs[i % zs.length]'(Nat.mod_lt _ hz):=by
   intro n
   induction n with
   | zero=>intro i h;simp at h
   | succ n ih =>
    intro i h;have e:(List.replicate (n+1) zs).flatten=zs++(List.replicate n zs).flatten:=by simp [List.replicate_succ]
    rw [List.getElem_of_eq e];by_cases hl:i<zs.length
    ·rw [Zac hl];congr 1;exact (Nat.mod_eq_of_lt hl).symm
    ·rw [Zag (by omega),ih];congr 1;exact (Nat.mod_eq_sub_mod (by omega)).symm
  have:=tV n i (by simpa using hi);rw [show (List.replicate n zs).flatten.toArray[i]=(List.replicate n zs).flatten[i]'(by simpa using hi) from I,this];simp [hm]
theorem BI {t e:TypeId} {x:Operand} {g o n cap:Nat} {E:TypeId} {cs zs:List Value} {z:Value} [hu:gJ P t (.slice e)] [hZ:lQ P e z]
  (hx:Is sl x (.slice (some ⟨g,o,none⟩) n cap)) (ht:Take hs (bA g (.cells cs.toArray E (0,0))) hs') (hz:z.cells=zs.toArray) (h1:∀ u∈zs,u.oneCell'=true) (hfit:o+n*zs.length<=cs.length)
  (k:Tr c D sl (bA g (.cells (setCells cs o (List.replicate n zs).flatten).toArray E (0,0))::hs') (WL P r ops Q rest)) :
  Tr c D sl hs (WL P r ops Q (⟨none,.call ⟨.builtin .clear,#[x],#[t]⟩,ty,pos,af,none⟩::rest)):=fun a w bj=>by
 have hm:=bj.mem.take (ht.append _);have hg:w.heap[g]? = some (.cells cs.toArray E (0,0)):=hm.bA .here;obtain ⟨w',h3,h4,h5⟩:=ja (P:=P) (o:=o) (List.replicate n zs).flatten 0 cs w hg (fun u hu=>by
  obtain ⟨l,hl,RP⟩:=List.mem_flatten.1 hu;rw [List.eq_of_mem_replicate hl] at RP;exact h1 u RP) (by
  have:(List.replicate n zs).flatten.length=n*zs.length:=by simp
  omega)
 refine mB I ⟨eb _ _ _ _ _,?_⟩;rw [Oper.semAt_eq _ _ _ (by simp)];have:(execOp a.eval ⟨none,.call ⟨.builtin .clear,#[x],#[t]⟩,ty,pos,af,none⟩).run P w=.ok (.value (.tuple #[])) w':=by
  cases n with
  | zero =>
   simp [execOp,resolve,invoke,builtin,hx a bj.dh,Builtin.clear_,aW hu.eq];simpa [storeCells] using h3
  | succ n =>
   simp [execOp,resolve,invoke,builtin,hx a bj.dh,Builtin.clear_,aW hu.eq,iI (t:=e) (v:=z),hz,zF];simp [h3]
 rw [this];have mr:=Mem.store hm h4 h5;exact k _ _ (bj.heap mr)
end
end Go.SL
namespace Go.SL
open Go
section
variable {α:Type} {f:α->List Value} {sz:Nat}
theorem iX (hf:∀ x,(f x).length=sz) (l:List α):(l.map f).flatten.length=l.length*sz:=by
 rw [gj (sz:=sz) (fun r hr=>by obtain ⟨x,_,rfl⟩:=Zw.1 hr;exact hf x),Zd]
theorem r5 (hf:∀ x,(f x).length=sz) {l:List α} {i:Nat} (h:i<l.length) (cur:List Value):eu ((l.map f).flatten++cur) (i*sz) sz=f l[i]:=by
 have hl:l=l.take i++l[i]::l.drop (i+1):=by rw [<- Zv h,ZX]
 have e:(l.map f).flatten=((l.take i).map f).flatten++(f l[i]++((l.drop (i+1)).map f).flatten):=
  (congrArg (fun m=>(List.map f m).flatten) hl).trans (by simp only [Zz,Zab,Zaf,ZaD])
 have hk:((l.take i).map f).flatten.length=i*sz:=by rw [iX hf,ZaO (by omega)]
 rw [jl,e,Zh,<- hk,List.drop_append_of_le_length (by omega),Z8,Za,<- hf l[i],Zh,Zad (by omega),ZN]
theorem ug {cs:List Value} {o n j:Nat} (hj:j<n):(eu cs o n)[j]? = cs[o+j]?:=by
 rw [jl,ZH,if_pos hj,Zbg]
theorem Lc (hf:∀ x,(f x).length=sz) {l:List α} {i j:Nat} (h:i<l.length) (hj:j<sz) (cur:List Value):((l.map f).flatten++cur)[i*sz+j]? = (f l[i])[j]?:=by
 rw [<- r5 hf h cur,ug hj]
theorem zY:∀ (A B C Z:List Value),Z.length=B.length->setCells (A++(B++C)) A.length Z=A++(Z++C):=by
 intro A B C Z h;apply Zat;intro k;rw [iH _ _ _ _ (by simp;omega)];by_cases h1:k<A.length
 ·rw [if_neg (by omega),ZG h1,ZG h1]
 ·by_cases h2:k-A.length<Z.length
  ·rw [if_pos (by omega),ZI (show A.length<=k by omega),ZG h2]
  ·rw [if_neg (by omega),ZI (show A.length<=k by omega),ZI (show A.length<=k by omega),ZI (show B.length<=k-A.length by omega),ZI (show Z.length<=k-A.length by omega),h]
theorem Lb (hf:∀ x,(f x).length=sz) {l:List α} {i:Nat} (h:i<l.length) (x:α) (cur:List Value):setCells ((l.map f).flatten++cur) (i*sz) (f x)=((l.set i x).map f).flatten++cur:=by
 have hl:l=l.take i++l[i]::l.drop (i+1):=by rw [<- Zv h,ZX]
 have e:(l.map f).flatten=((l.take i).map f).flatten++(f l[i]++((l.drop (i+1)).map f).flatten):=
  (congrArg (fun m=>(List.map f m).flatten) hl).trans (by simp only [Zz,Zab,Zaf,ZaD])
 have e2:((l.set i x).map f).flatten=((l.take i).map f).flatten++(f x++((l.drop (i+1)).map f).flatten):=by
  rw [List.set_eq_take_append_cons_drop,if_pos h];simp
 have hk:((l.take i).map f).flatten.length=i*sz:=by rw [iX hf,ZaO (by omega)]
 rw [e,e2,Zh,Zh,Zh,Zh,<- hk];exact zY _ _ _ _ (by rw [hf,hf])
theorem FY (hf:∀ x,(f x).length=sz) (A B:List α) (Z cur:List Value) (hz:Z.length=B.length*sz):setCells (((A++B).map f).flatten++cur) (A.length*sz) Z=(A.map f).flatten++(Z++cur):=by
 rw [Zz,Zab,Zh,<- iX hf A];exact zY _ _ _ _ (by rw [hz,iX hf])
theorem yH {g k n cap:Nat} (sz:Nat) (h:k<n) (hc:n<=cap):Go.sliced (some ⟨g,0,none⟩) ((k:Nat):Int).toNat n cap sz=.slice (some ⟨g,k*sz,none⟩) (n-k) (cap-k):=by
 unfold Go.sliced;rw [if_neg (by rw [Zy];omega),Zy];simp [eW]
theorem yI (g k cap sz:Nat):Go.sliced (some ⟨g,0,none⟩) 0 ((k:Nat):Int).toNat cap sz=.w g k cap:=by
 unfold Go.sliced;rw [Zy];by_cases h:cap=0
 ·rw [if_pos h];simp
 ·rw [if_neg h];simp [eW]
theorem filter_lt {q:α->Bool} {l:List α} {i:Nat} (hi:i<l.length) (h:q l[i]=false):(l.filter q).length<l.length:=
 List.length_filter_lt_length_iff_exists.2 ⟨l[i],Zj hi,by simp [h]⟩
def u4 (q:α->Bool) (l:List α) (j:Nat):List α:=(l.take j).filter q++l.drop ((l.take j).filter q).length
def ly (q:α->Bool) (l:List α) (j:Nat):Nat:=((l.take j).filter q).length
theorem nI (q:α->Bool) (l:List α) {j:Nat} (hj:j<=l.length):ly q l j<=j:=by
 have:=Z5 q (l.take j);rw [ZaO hj] at this;exact this
theorem FU (q:α->Bool) (l:List α) {j:Nat} (hj:j<=l.length):(u4 q l j).length=l.length:=by
 have:=nI q l hj;unfold ly at this;unfold u4;rw [Zg,Zbe];omega
theorem FV (q:α->Bool) (l:List α) {j:Nat} (hj:j<l.length):∃ h:j<(u4 q l j).length,(u4 q l j)[j]=l[j]:=by
 have:=nI q l (Nat.le_of_lt hj);unfold ly at this;have h:(u4 q l j)[j]? = some l[j]:=by
  unfold u4;rw [ZI this,Zbg,<- Zc hj];congr 1;omega
 exact Zl.1 h
theorem vm (q:α->Bool) (l:List α) {j:Nat} (hj:j<l.length):(l.take (j+1)).filter q=(l.take j).filter q++if q l[j] then [l[j]] else []:=by
 rw [Zn hj,Zbh];congr 1;by_cases h:q l[j]=true
 ·rw [Zbt h,if_pos h];rfl
 ·rw [List.filter_cons_of_neg h,if_neg h];rfl
theorem Ex (q:α->Bool) (l:List α) {j:Nat} (hj:j<l.length) (hq:q l[j]=false):u4 q l (j+1)=u4 q l j/\ly q l (j+1)=ly q l j:=by
 have e:(l.take (j+1)).filter q=(l.take j).filter q:=by rw [vm q l hj,hq];simp
 unfold u4 ly;rw [e];exact ⟨I,I⟩
theorem FT (q:α->Bool) (l:List α) {j:Nat} (hj:j<l.length) (hq:q l[j]=true):u4 q l (j+1)=(u4 q l j).set (ly q l j) l[j]/\ly q l (j+1)=ly q l j+1:=by
 have e:(l.take (j+1)).filter q=(l.take j).filter q++[l[j]]:=by rw [vm q l hj,if_pos hq]
 have hle:=nI q l (Nat.le_of_lt hj);unfold ly at hle;have hm:((l.take j).filter q).length<l.length:=by omega
 unfold u4 ly;rw [e];refine ⟨?_,by simp⟩;rw [List.set_append_right _ _ (ZC _),Nat.sub_self,Zv hm,List.set_cons_zero,Zg,Zh]
 rfl
theorem FW (q:α->Bool) (l:List α):u4 q l l.length=l.filter q++l.drop (l.filter q).length/\ly q l l.length=(l.filter q).length:=by
 unfold u4 ly;rw [ZN];exact ⟨I,I⟩
theorem zl (q:α->Bool) (l:List α) {i:Nat} (hi:i<l.length) (hb:∀ j (h:j<i),q (l[j]'(by omega))=true) (hq:q l[i]=false):u4 q l (i+1)=l/\ly q l (i+1)=i:=by
 have e:(l.take i).filter q=l.take i:=Zaw.2 fun x hx=>by
  obtain ⟨j,hj,rfl⟩:=Zu hx;rw [ZaE];exact hb j (by rw [Zs] at hj;omega)
 obtain ⟨h1,h2⟩:=Ex q l hi hq;rw [h1,h2];unfold u4 ly;rw [e,ZaO (by omega),ZX];exact ⟨I,I⟩
end
end Go.SL
namespace Go.Proofs.A1
open Go Go.SL
open Tryz
open Tryz renaming prog->T_
variable {cap first:List Value} {lv:Value} {o:ByteArray} {p q:ByteArray->Bool} {v:Value}
theorem Cw {l:List ByteArray} {f:FuncId} [bQ T_ f] {w:World} (h:Rd w lv 1 (ie l)) (cG:∀ x∈l,∀ w',aH [] w w'->ao T_ f (first++[.string x]++cap) w' (.bool (p x))) :
  ao T_ 299 [lv,.func (.func f) first.toArray cap.toArray] w (.q (gH p l)):=by
 obtain ⟨a,cp,b,o,rfl,dD,cr,ha,hc⟩:=h;rw [cu] at *;unfold maxLen at cr;refine ak func299 I I ?_;refine Jr<|Ja I<|Jn<|Jq<|Jr<|Jv I<|JI I<|Jv I<|Jn<|J0 ?_;refine bd (fun k:Nat=>k<=l.length/\∀ i,i<k->(l[i]?.map p).getD false=false) (fun k=>[(8,.int .i64 k),(7,.int .i64 l.length),(0,.slice a l.length cp),(1,.func (.func f) first.toArray cap.toArray)]) (fun _=>[]) (fun k=>l.length-k) ?_ ?_
 ·apply aJ 0 ⟨Zi _,fun i h=>by omega⟩
  case hs1=>exact cB
  case ht=>(try simp only [Ze,Zf,Za]);exact .nil
 rintro k ⟨hk,hf⟩;by_cases aN:k<l.length
 ·have c8:=ha (lk aN);have c0:w.cell? ⟨b,o+k*1,none⟩=some (.string l[k]):=(hc k _ (jf aN)).2 0 _ I;have iE:=cG _ (Zj aN);have hps:(l[k]?.map p).getD false=p l[k]:=by simp [aN]
  (refine Jr<|JA I<|Jn<|Jq<|Jd I fun aA=>Jk<|Jq<|J0<|Jr<|Jv I<|Ja I<|Ji<|Jv I<|Jv I<|Jv I<|ab (gr c8 aA) I<|ab (ag (.of I) (At.base c0 I)) I<|aj bS I (fun w' az=>(iE w' (Mem.keeps az)))<|Jn<|oq I (fun aA=>?_) fun aA=>?_;refine Jr<|Jv I<|Ja I<|Jn<|Je<|Jm<|Jh<|Jh<|Jm<|Jh<|JT ?_;rotate_left;refine Jw<|Jj<|Jt<|Jg<|JB I (by omega)<|Jv I<|Jn ?_;rotate_right)
  ·rw [gG hf aN aA]
  ·apply aI (k+1) ⟨by omega,fun i hi=>by
    by_cases e:i=k
    ·rw [e,hps];exact aA
    ·exact hf i (by omega)⟩ (by omega)
   case hs1=>exact cB
   case ht=>(try simp only [Ze,Zf,Za]);exact .nil
 ·obtain rfl:k=l.length:=by omega
  refine Jr<|JA I<|Jn<|Jq<|Jc I fun aA=>Jp<|Jl<|Jo<|Jt<|Jr<|Ja I<|Jn<|Je<|JT ?_;rw [fL hf]
theorem K2 {l:List ByteArray} {f:FuncId} [bQ T_ f] {w:World} (h:Rd w lv 1 (ie l)) (cG:∀ x∈l,∀ w',aH [] w w'->ao T_ f (first++[.string x]++cap) w' (.bool (p x))) :
  ao T_ 250 [lv,.func (.func f) first.toArray cap.toArray] w (.bool (l.any p)):=by
 have iE:∀ w',aH [] w w'->ao T_ 299 [lv,.func (.func f) first.toArray cap.toArray] w' (.q (gH p l)):=fun w' hk=>
  Cw (h.keeps hk) fun x hx w2 eL=>cG x hx w2 (hk.trans eL)
 rw [<- kl];refine ak func250 I I ?_
 (refine Jr<|Ja I<|Ji<|Jv I<|Jv I<|aj bo I (fun w' az=>(iE w' (Mem.keeps az)))<|JG I<|Ja I<|Jn<|Je<|JT ?_)
 rfl
set_option maxHeartbeats 1000000 in
theorem Lk {n:Nat} {l:List ByteArray} {f:FuncId} [bQ T_ f] {w:World} {fp:List Nat} (jX:fp.Nodup) (hs:cA (hp w) [row 9 1 v n (aO l)] fp) (hn:l.length=n) (cJ:n<=1000000)
  (cG:∀ x∈l,∀ w',aH fp w w'->ao T_ f (first++[.string x]++cap) w' (.bool (p x))) :
  bB T_ 224 [v,.func (.func f) first.toArray cap.toArray] w fp (fun _:Value=>True) id (fun v'=>[row 9 1 v' (l.filter fun x=>!p x).length (aO (l.filter fun x=>!p x))]):=by
 refine er func224 I I jX hs ?_;refine Jr<|Ja I<|Ji<|Jv I<|Jv I ?_;refine aT (by exact .here) fun va vc e=>?_;subst e
 skip
 with_reducible apply aj
 case hr=>exact bo
 case hd=>rfl
 case hc=>
  intro w' az;have hR:Rd w' (.slice va n vc) 1 (ie l):=dA az (by exact .here) hn;exact Cw (f:=f) (p:=p) (first:=first) (cap:=cap) hR (fun x hx w2 eL=>cG x hx w2 (az.keeps.trans (eL.mono (by simp))))
 rcases pR p l with ⟨e1,e2⟩ | ⟨i,hi,e1,e2⟩
 ·rw [e1];have tV:(l.filter fun x=>!p x)=l:=Zaw.2 fun x hx=>by
   have:=ZaM.1 e2 x hx;simpa using this
  rw [tV];refine Ja I<|Jn<|Jq<|Jr<|Jv I<|JC I<|Jn<|Jd I fun aA=>Jr<|Jv I<|Ja I<|Jn<|Ju ?_
  with_reducible first|apply aP|apply aQ
  case he=>exact dS I I
  case hR=>
   intro w' az;exact aF (.slice va n vc) trivial (show bK _ [row 9 1 (.slice va n vc) l.length (aO l)] _ by rw [hn];exact .h1 .nil) az I
 rw [e1];rw [ZaB] at e2;obtain ⟨Mq,i',xX,Hz,dK⟩:=e2;have Hw:i'=i:=by
  have h1:gH p l=(i':Nat):=gG (fun j hj=>by
   rw [Zc (by omega)];simpa using dK j hj) xX (by rw [Hz];exact Mq)
  rw [e1] at h1
  exact_mod_cast h1.symm
 subst Hw;obtain ⟨st1,st2⟩:=zl (fun x=>!p x) l xX (fun j hj=>dK j hj) (by rw [Hz];simp [Mq]);have hne:¬ ((i':Nat):Int) = -1:=by omega
 refine Ja I<|Jn<|Jq<|Jr<|Jv I<|JC I<|Jn<|Jc I fun aA=>Jk<|Jq<|Jr<|Jv I<|JB I (by omega)<|Ja I<|Jn<|J0 ?_;refine dP (by exact .here) (by omega) ?_;rintro g il cur e oX xT hsz hl;cases e;have hF:∀ x,((fun s:ByteArray=>[Value.string s]) x).length=1:=fun _=>rfl
 have hV:∀ l,aO l=(l.map (fun s:ByteArray=>[Value.string s])).flatten:=fun l=>q6 l
 refine bd (fun j:Nat=>i'<j/\j<=l.length) (fun j=>[(6,.q (j:Nat)),(5,.q (ly (fun x=>!p x) l j)),(0,.w g n vc),(1,.func (.func f) first.toArray cap.toArray)])
  (fun j=>[bA g (.cells (((u4 (fun x=>!p x) l j).map (fun s:ByteArray=>[Value.string s])).flatten++cur).toArray 9 (0,0))]) (fun j=>l.length-j) ?_ ?_
 ·apply aJ (i'+1) ⟨by omega,by omega⟩
  case hs1=>rw [st2];exact .cons I (.cons I (.cons I (.cons I .nil)))
  case ht=>rw [st1,<- hV];exact .h1 .nil
 rintro j ⟨hj,hk⟩;by_cases aN:j<l.length
 ·have AN:j<n:=by omega
  have hle:=nI (fun x=>!p x) l hk
  have tV:=FU (fun x=>!p x) l hk
  obtain ⟨Yy,YJ⟩:=FV (fun x=>!p x) l aN;have c0:=Lc hF Yy (show 0<1 by omega) cur;rw [YJ] at c0;have c1:(((u4 (fun x=>!p x) l j).map (fun s:ByteArray=>[Value.string s])).flatten++cur)[j*1]? = some (.string l[j]):=c0
  (refine Jq<|Jr<|Jv I<|Jv I<|JI I<|JA I<|Jn<|Jd I fun aA=>Jk<|Jq<|J0<|Jr<|Jv I<|Jv I<|ab (aC (.of I) (.of I) I (by omega) aA bu) I ?_;refine ab (ag (.of I) (At.pj .here c1)) I ?_;refine Ja I<|Ji<|Jv I<|Jv I ?_)
  with_reducible apply aj
  case hr=>exact bS
  case hd=>rfl
  case hc=>
   intro w' az;exact cG l[j] (Zj aN) w' az.keeps
  have hm:ly (fun x=>!p x) l j<(u4 (fun x=>!p x) l j).length:=by rw [tV];have:=st2;omega
  have hb:ly (fun x=>!p x) l j*1+1<=(((u4 (fun x=>!p x) l j).map (fun s:ByteArray=>[Value.string s])).flatten++cur).length:=by rw [Zg,iX hF,tV];omega
  have mq:=Lb hF hm l[j] cur;have hmn:ly (fun x=>!p x) l j<n:=by omega
  cases hq:p l[j] with
  | true =>
   obtain ⟨s1,s2⟩:=Ex (fun x=>!p x) l aN (by simp [hq])
   (refine JH I<|Jn<|bJ (.of I)<|Jw<|Jj<|Jt<|Jg<|Jv I<|JB I (by omega)<|Ja I<|Jn ?_)
   apply aI (j+1) ⟨by omega,by omega⟩ (by omega)
   case hs1=>rw [s2];exact .cons I (.cons I (.cons I (.cons I .nil)))
   case ht=>rw [s1];exact .h1 .nil
  | false =>
   obtain ⟨s1,s2⟩:=FT (fun x=>!p x) l aN (by simp [hq])
   (refine JH I<|Jn<|ch (.of I) ?_;refine Jr<|Jv I<|Jv I<|Jv I<|ab (aC (.of I) (.of I) I (by omega) (by omega) bu) I ?_;refine aq (.of I) (.of I) .here I I (dG I) hb mq ?_;refine Jn<|Jg<|Jv I<|JB I (by omega)<|Ja I<|Jx<|Jj<|Jt<|Jg<|Jv I<|JB I (by omega)<|Ja I<|Jn ?_)
   apply aI (j+1) ⟨by omega,by omega⟩ (by omega)
   case hs1=>rw [s2];exact .cons I (.cons I (.cons I (.cons I .nil)))
   case ht=>rw [s1];exact .h1 .nil
 ·obtain rfl:j=l.length:=by omega
  obtain ⟨a1,a2⟩:=FW (fun x=>!p x) l;have hle:=nI (fun x=>!p x) l (ZC _)
  rw [a1,a2];rw [a2] at hle;have hZ:=FY hF (l.filter fun x=>!p x) (l.drop (l.filter fun x=>!p x).length) (List.replicate (n-(l.filter fun x=>!p x).length) [Value.string ⟨#[]⟩]).flatten cur (by simp;omega)
  have Tp:(l.filter fun x=>!p x).length<l.length:=filter_lt xX (by rw [Hz];simp [Mq])
  generalize (l.filter fun x=>!p x)=q at hle hZ Tp ⊢
  have X2:q.length<n:=by omega
  have Ts:q.length<=vc:=by omega
  have hfit:q.length*1+(n-q.length)*[Value.string ⟨#[]⟩].length<=(((q++l.drop q.length).map (fun s:ByteArray=>[Value.string s])).flatten++cur).length:=by
   rw [Zg,iX hF,Zg,Zbe];simp only [ZL,Zan];omega
  refine Jq<|Jr<|Jv I<|Jv I<|JI I<|JA I<|Jn<|Jc I fun aA=>Jp<|Jl<|Jo<|Jt<|Jr<|Jv I<|Jv I<|ab (qx (.of I) (.of I) (by omega) (by omega)) I ?_;rw [yH 1 X2 oX];refine BI (zs:=[Value.string ⟨#[]⟩]) (z:=.string ⟨#[]⟩) (.of I) .here I (dG I) hfit ?_;rw [hZ]
  (refine Ji<|Jv I<|Jv I<|ab (gE (.of I) (.of I) (by omega) (by omega)) I<|Ja I<|Jn<|Je ?_)
  rw [yI];have we:((q.map (fun s:ByteArray=>[Value.string s])).flatten++((List.replicate (n-q.length) [Value.string ⟨#[]⟩]).flatten++cur)).length=vc*1:=by
   rw [<- hsz,Zg,iX hF,Zg,Zg,<- hn,hV,iX hF];have:(List.replicate (l.length-q.length) [Value.string ⟨#[]⟩]).flatten.length=(l.length-q.length)*1:=by simp
   rw [this];omega
  refine dq (n:=q.length) (sz:=1) (by exact .here) Ts xT we (by rw [iX hF]) ?_
  skip
  with_reducible first|apply aP|apply aQ
  case he=>exact dS I I
  case hR=>
   intro w' az;exact aF (.w g q.length vc) trivial (show bK _ [row 9 1 (.w g q.length vc) q.length (aO q)] _ by rw [hV];exact .h1 .nil) az I
set_option maxHeartbeats 1000000 in
theorem OO {n:Nat} {l:List Po} {p:Po->Bool} {f:FuncId} [bQ T_ f] {w:World} {fp:List Nat} (jX:fp.Nodup) (hs:cA (hp w) [row 188 3 v n (jb l)] fp) (hn:l.length=n) (cJ:n<=1000000)
  (cG:∀ x∈l,∀ w',aH fp w w'->ao T_ f (first++[.agg x.cells.toArray]++cap) w' (.bool (p x))) :
  bB T_ 314 [v,.func (.func f) first.toArray cap.toArray] w fp (fun _:Value=>True) id (fun v'=>[row 188 3 v' (l.filter fun x=>!p x).length (jb (l.filter fun x=>!p x))]):=by
 refine er func314 I I jX hs ?_;refine Jr<|Ja I<|Ji<|Jv I<|Jv I ?_;refine aT (by exact .here) fun va vc e=>?_;subst e
 skip
 with_reducible apply aj
 case hr=>exact bo
 case hd=>rfl
 case hc=>
  intro w' az;have hR:Rd w' (.slice va n vc) 3 (sq l):=c7 az (by exact .here) hn;exact AL (f:=f) (p:=p) (first:=first) (cap:=cap) hR (fun x hx w2 eL=>cG x hx w2 (az.keeps.trans (eL.mono (by simp))))
 rcases pR p l with ⟨e1,e2⟩ | ⟨i,hi,e1,e2⟩
 ·rw [e1];have tV:(l.filter fun x=>!p x)=l:=Zaw.2 fun x hx=>by
   have:=ZaM.1 e2 x hx;simpa using this
  rw [tV];refine Ja I<|Jn<|Jq<|Jr<|Jv I<|JC I<|Jn<|Jd I fun aA=>Jr<|Jv I<|Ja I<|Jn<|Ju ?_
  with_reducible first|apply aP|apply aQ
  case he=>exact dS I I
  case hR=>
   intro w' az;exact aF (.slice va n vc) trivial (show bK _ [row 188 3 (.slice va n vc) l.length (jb l)] _ by rw [hn];exact .h1 .nil) az I
 rw [e1];rw [ZaB] at e2;obtain ⟨Mq,i',xX,Hz,dK⟩:=e2;have Hw:i'=i:=by
  have h1:gH p l=(i':Nat):=gG (fun j hj=>by
   rw [Zc (by omega)];simpa using dK j hj) xX (by rw [Hz];exact Mq)
  rw [e1] at h1
  exact_mod_cast h1.symm
 subst Hw;obtain ⟨st1,st2⟩:=zl (fun x=>!p x) l xX (fun j hj=>dK j hj) (by rw [Hz];simp [Mq]);have hne:¬ ((i':Nat):Int) = -1:=by omega
 refine Ja I<|Jn<|Jq<|Jr<|Jv I<|JC I<|Jn<|Jc I fun aA=>Jk<|Jq<|Jr<|Jv I<|JB I (by omega)<|Ja I<|Jn<|J0 ?_;refine dP (by exact .here) (by omega) ?_;rintro g il cur e oX xT hsz hl;cases e;have hF:∀ x,(Po.cells x).length=3:=fun _=>rfl
 have hV:∀ l,jb l=(l.map Po.cells).flatten:=fun l=>rfl
 refine bd (fun j:Nat=>i'<j/\j<=l.length) (fun j=>[(6,.q (j:Nat)),(5,.q (ly (fun x=>!p x) l j)),(0,.w g n vc),(1,.func (.func f) first.toArray cap.toArray)])
  (fun j=>[bA g (.cells (((u4 (fun x=>!p x) l j).map Po.cells).flatten++cur).toArray 188 (0,0))]) (fun j=>l.length-j) ?_ ?_
 ·apply aJ (i'+1) ⟨by omega,by omega⟩
  case hs1=>rw [st2];exact .cons I (.cons I (.cons I (.cons I .nil)))
  case ht=>rw [st1,<- hV];exact .h1 .nil
 rintro j ⟨hj,hk⟩;by_cases aN:j<l.length
 ·have AN:j<n:=by omega
  have hle:=nI (fun x=>!p x) l hk
  have tV:=FU (fun x=>!p x) l hk
  obtain ⟨Yy,YJ⟩:=FV (fun x=>!p x) l aN;have c0:=r5 hF Yy cur;rw [YJ] at c0;have c1:eu (((u4 (fun x=>!p x) l j).map Po.cells).flatten++cur) (j*3) 3=[.int .i64 (l[j]).lv,.string (l[j]).ou,.string (l[j]).ip]:=c0
  (refine Jq<|Jr<|Jv I<|Jv I<|JI I<|JA I<|Jn<|Jd I fun aA=>Jk<|Jq<|J0<|Jr<|Jv I<|Jv I<|ab (aC (.of I) (.of I) I (by omega) aA bu) I ?_;refine ab (bL (.of I) .here c1 I) I ?_;refine Jz I I fun _ _=>aq (.of I) (.of I) .here I I (fc I I I) (bF I) an ?_;refine Ji<|Jv I<|ab (cN .here) I ?_)
  with_reducible apply aj
  case hr=>exact bS
  case hd=>rfl
  case hc=>
   intro w' az;exact cG l[j] (Zj aN) w' az.keeps
  have hm:ly (fun x=>!p x) l j<(u4 (fun x=>!p x) l j).length:=by rw [tV];have:=st2;omega
  have hb:ly (fun x=>!p x) l j*3+3<=(((u4 (fun x=>!p x) l j).map Po.cells).flatten++cur).length:=by rw [Zg,iX hF,tV];omega
  have mq:=Lb hF hm l[j] cur;have hmn:ly (fun x=>!p x) l j<n:=by omega
  cases hq:p l[j] with
  | true =>
   obtain ⟨s1,s2⟩:=Ex (fun x=>!p x) l aN (by simp [hq])
   (refine JH I<|Jn<|bJ (.of I)<|Jw<|Jj<|Jt<|Jg<|Jv I<|JB I (by omega)<|Ja I<|Jn ?_)
   apply aI (j+1) ⟨by omega,by omega⟩ (by omega)
   case hs1=>rw [s2];exact .cons I (.cons I (.cons I (.cons I .nil)))
   case ht=>rw [s1];exact .cons (.there .here) .nil
  | false =>
   obtain ⟨s1,s2⟩:=FT (fun x=>!p x) l aN (by simp [hq])
   (refine JH I<|Jn<|ch (.of I) ?_;refine Jr<|Jv I<|Jv I<|ab (cN .here) I ?_;refine ab (aC (.of I) (.of I) I (by omega) (by omega) bu) I ?_;refine aq (.of I) (.of I) (.there .here) I I (fc I I I) hb mq ?_;refine Jn<|Jg<|Jv I<|JB I (by omega)<|Ja I<|Jx<|Jj<|Jt<|Jg<|Jv I<|JB I (by omega)<|Ja I<|Jn ?_)
   apply aI (j+1) ⟨by omega,by omega⟩ (by omega)
   case hs1=>rw [s2];exact .cons I (.cons I (.cons I (.cons I .nil)))
   case ht=>rw [s1];exact .h1 .nil
 ·obtain rfl:j=l.length:=by omega
  obtain ⟨a1,a2⟩:=FW (fun x=>!p x) l;have hle:=nI (fun x=>!p x) l (ZC _)
  rw [a1,a2];rw [a2] at hle;have hZ:=FY hF (l.filter fun x=>!p x) (l.drop (l.filter fun x=>!p x).length) (List.replicate (n-(l.filter fun x=>!p x).length) [Value.int .i64 0,Value.string ⟨#[]⟩,Value.string ⟨#[]⟩]).flatten cur (by simp;omega)
  have Tp:(l.filter fun x=>!p x).length<l.length:=filter_lt xX (by rw [Hz];simp [Mq])
  generalize (l.filter fun x=>!p x)=q at hle hZ Tp ⊢
  have X2:q.length<n:=by omega
  have Ts:q.length<=vc:=by omega
  have hfit:q.length*3+(n-q.length)*[Value.int .i64 0,Value.string ⟨#[]⟩,Value.string ⟨#[]⟩].length<=(((q++l.drop q.length).map Po.cells).flatten++cur).length:=by
   rw [Zg,iX hF,Zg,Zbe];simp only [ZL,Zan];omega
  refine Jq<|Jr<|Jv I<|Jv I<|JI I<|JA I<|Jn<|Jc I fun aA=>Jp<|Jl<|Jo<|Jt<|Jr<|Jv I<|Jv I<|ab (qx (.of I) (.of I) (by omega) (by omega)) I ?_;rw [yH 3 X2 oX];refine BI (zs:=[Value.int .i64 0,Value.string ⟨#[]⟩,Value.string ⟨#[]⟩]) (z:=.agg #[.q 0,.string ⟨#[]⟩,.string ⟨#[]⟩]) (.of I) .here I (fc I I I) hfit ?_;rw [hZ]
  (refine Ji<|Jv I<|Jv I<|ab (gE (.of I) (.of I) (by omega) (by omega)) I<|Ja I<|Jn<|Je ?_)
  rw [yI];have we:((q.map Po.cells).flatten++((List.replicate (n-q.length) [Value.int .i64 0,Value.string ⟨#[]⟩,Value.string ⟨#[]⟩]).flatten++cur)).length=vc*3:=by
   rw [<- hsz,Zg,iX hF,Zg,Zg,<- hn,hV,iX hF];have:(List.replicate (l.length-q.length) [Value.int .i64 0,Value.string ⟨#[]⟩,Value.string ⟨#[]⟩]).flatten.length=(l.length-q.length)*3:=by simp
   rw [this];omega
  refine dq (n:=q.length) (sz:=3) (by exact .here) Ts xT we (by rw [iX hF]) ?_
  skip
  with_reducible first|apply aP|apply aQ
  case he=>exact dS I I
  case hR=>
   intro w' az;exact aF (.w g q.length vc) trivial (show bK _ [row 188 3 (.w g q.length vc) q.length (jb q)] _ by rw [hV];exact .h1 .nil) az I
theorem eD {w w':World} {a:Addr} {md:List Nat} (h:w.cell? a=some v) (hs:a.spot=none) (hn:a.block ∉ md) (hk:aH md w w'):w'.cell? a=some v:=by
 have hb:=World.block_lt_of_cell? w a h;obtain ⟨b,o,s⟩:=a;subst hs;have:=hk.block b hb hn;rw [<- h];simp [World.cell?,this]
theorem Lw {q:Bool} {f:FuncId} [bQ T_ f] {b5:Nat} {w:World} (f5:w.cell? ⟨b5,0,none⟩=some (.func (.func f) first.toArray cap.toArray))
  (cG:∀ w',aH [] w w'->ao T_ f (first++[.string o]++cap) w' (.bool q)) :
  ao T_ 225 [.string o,.p b5] w (.bool (!q)):=by
 refine ak func225 I I ?_
 (refine Jr<|Ja I<|Ji<|ab (ag (.of I) (At.base f5 I)) I<|Jv I ?_)
 refine aj bS I (fun w' az=>cG w' az.keeps) ?_;refine JH I<|Ja I<|Jn<|Je<|JT ?_
 rfl
theorem EF {l:List Ti} {f:FuncId} [bQ T_ f] {w:World} (h:Rd w lv 3 (tE l)) (hn:l.length<=1000000)
  (cG:∀ o w',aH [] w w'->ao T_ f (first++[.string o]++cap) w' (.bool (q o))) :
  bB T_ 118 [lv,.func (.func 119) #[] #[],.func (.func f) first.toArray cap.toArray] w [] (fun _:Value=>True) id (fun v=>[row 9 1 v ((l.map Ti.nm).filter q).length (aO ((l.map Ti.nm).filter q))]):=by
 have AM:=Rd.one h;refine aV func118 I I ?_;refine Jr<|Jy I I fun _ _=>Ja I<|Ji<|Jv I<|Jv I ?_;rename_i b5 Mu;refine JN bo I (fun w1 aY=>Fx (f:=119) (first:=[]) (cap:=[]) (g:=Ti.nm) (h.keeps aY.keeps) hn (fun x _ w2 _=>D9 x w2)) ?_
 intro nv _;dsimp only [id_eq,Zb,Za];refine ab (bI .nil (.o I .nil)) I ?_
 with_reducible apply fW (As:=[row 9 1 nv l.length (aO (l.map Ti.nm))])
 case hr=>exact bo
 case hd=>rfl
 case ht=>exact qv
 case hc=>
  intro w1 Bx aY wm hs1 Dm kY;have h5:b5 ∉ Bx:=kY b5 _ _ (by exact .here);have f5:w1.cell? ⟨b5,0,none⟩=some (.func (.func f) first.toArray cap.toArray):=At.lit (by exact Take.there .here) I w1 aY
  exact Lk (f:=225) (p:=fun o=>!q o) (first:=[]) (cap:=[.p b5]) wm hs1 (by rw [Zd]) hn
   (fun o _ w2 eL=>Lw (eD f5 I h5 eL) (fun w3 Yu=>cG o w3 ((aY.keeps.over (fun b hb=>Dm b hb) eL).trans Yu)))
 intro v' _;dsimp only [id_eq,Zb,Za];simp only [Bool.not_not];refine Ja I<|Jn<|Je ?_
 with_reducible first|apply aP|apply aQ
 case he=>exact dS I I
 case hR=>
  intro w' az;exact aF v' trivial (by exact .h1 .nil) az I
theorem Lx {q:Bool} {f:FuncId} [bQ T_ f] {b5:Nat} {w:World} (f5:w.cell? ⟨b5,0,none⟩=some (.func (.func f) first.toArray cap.toArray))
  (cG:∀ w',aH [] w w'->ao T_ f (first++[.string o]++cap) w' (.bool q)) :
  ao T_ 226 [.string o,.p b5] w (.bool (!q)):=by
 refine ak func226 I I ?_
 (refine Jr<|Ja I<|Ji<|ab (ag (.of I) (At.base f5 I)) I<|Jv I ?_)
 refine aj bS I (fun w' az=>cG w' az.keeps) ?_;refine JH I<|Ja I<|Jn<|Je<|JT ?_
 rfl
theorem EG {l:List De} {f:FuncId} [bQ T_ f] {w:World} (h:Rd w lv 3 (ue l)) (hn:l.length<=1000000)
  (cG:∀ o w',aH [] w w'->ao T_ f (first++[.string o]++cap) w' (.bool (q o))) :
  bB T_ 123 [lv,.func (.func 124) #[] #[],.func (.func f) first.toArray cap.toArray] w [] (fun _:Value=>True) id (fun v=>[row 9 1 v ((l.map De.nm).filter q).length (aO ((l.map De.nm).filter q))]):=by
 have AM:=Rd.one h;refine aV func123 I I ?_;refine Jr<|Jy I I fun _ _=>Ja I<|Ji<|Jv I<|Jv I ?_;rename_i b5 Mu;refine JN bo I (fun w1 aY=>Fy (f:=124) (first:=[]) (cap:=[]) (g:=De.nm) (h.keeps aY.keeps) hn (fun x _ w2 _=>Ea x w2)) ?_
 intro nv _;dsimp only [id_eq,Zb,Za];refine ab (bI .nil (.o I .nil)) I ?_
 with_reducible apply fW (As:=[row 9 1 nv l.length (aO (l.map De.nm))])
 case hr=>exact bo
 case hd=>rfl
 case ht=>exact qv
 case hc=>
  intro w1 Bx aY wm hs1 Dm kY;have h5:b5 ∉ Bx:=kY b5 _ _ (by exact .here);have f5:w1.cell? ⟨b5,0,none⟩=some (.func (.func f) first.toArray cap.toArray):=At.lit (by exact Take.there .here) I w1 aY
  exact Lk (f:=226) (p:=fun o=>!q o) (first:=[]) (cap:=[.p b5]) wm hs1 (by rw [Zd]) hn
   (fun o _ w2 eL=>Lx (eD f5 I h5 eL) (fun w3 Yu=>cG o w3 ((aY.keeps.over (fun b hb=>Dm b hb) eL).trans Yu)))
 intro v' _;dsimp only [id_eq,Zb,Za];simp only [Bool.not_not];refine Ja I<|Jn<|Je ?_
 with_reducible first|apply aP|apply aQ
 case he=>exact dS I I
 case hR=>
  intro w' az;exact aF v' trivial (by exact .h1 .nil) az I
theorem O3 {r:Ro} {s d t p:Value} (v:Int) (o:ByteArray) {b1 b2:Nat} {w:World} (h:RR w r s d t p) (hA:BR w b1 (RC r s d t p)) (f2:w.cell? ⟨b2,0,none⟩=some (.q v)) :
  ao T_ 120 [.string o,.p b1,.p b2] w (.bool (ib r.po v o)):=by
 obtain ⟨h1,h2,h3,h4⟩:=h.one;have kq:∀ (j:Nat) (u:Value),[Value.int .i64 r.lv,.int .i64 r.ma,s,d,t,p][j]? = some u->w.cell? ⟨b1,0+j,none⟩=some u:=hA;refine ak func120 I I ?_
 (refine Jr<|Ja I<|Ji<|ab (iD (eO.base kq I)) I<|ab (ag (.of I) (At.base f2 I)) I<|Jv I ?_)
 refine aj ek I (fun w' az=>ph v o (h.keeps az.keeps)) ?_;refine Ja I<|Jn<|Je<|JT ?_
 rfl
theorem HL {r:Ro} {s d t p:Value} (v:Int) (o so:ByteArray) {b1 b2 b3:Nat} {w:World} (h:RR w r s d t p) (cJ:r.ti.length<=1000000) (hA:BR w b1 (RC r s d t p)) (f2:w.cell? ⟨b2,0,none⟩=some (.q v)) (f3:w.cell? ⟨b3,0,none⟩=some (.string so)) :
  ao T_ 125 [.string o,.p b1,.p b2,.p b3] w (.bool (decide (kN r v o=so))):=by
 obtain ⟨h1,h2,h3,h4⟩:=h.one;have kq:∀ (j:Nat) (u:Value),[Value.int .i64 r.lv,.int .i64 r.ma,s,d,t,p][j]? = some u->w.cell? ⟨b1,0+j,none⟩=some u:=hA;refine ak func125 I I ?_;refine Jr<|Ja I<|Jn<|Jq ?_
 with_reducible refine eP 6 (by kernel_rfl) ?_
 (refine aM (iD (eO.base kq I)) I<|aM (ag (.of I) (At.base f2 I)) I<|mZ I I<|fQ ek I (fun w' az=>(mX v o (RR.keeps h (Mem.keeps az)) cJ))<|aM (ag (.of I) (At.base f3 I)) I<|aM (eR (.of I) (.of I)) I ?_)
 with_reducible refine eU ?_
 refine Ja I<|Jn<|Je<|JT ?_
 rfl
def LG (r:Ro) (v:Int):Int:=ba [fT r,Dg r v]
def Hp (r:Ro) (v:Int):List ByteArray:=if LG r v≠0 then [] else (ct r).filter (ib r.po v)
theorem Tc {r:Ro} {s d t p:Value} (v:Int) {w:World} (h:RR w r s d t p) (cJ:me r):bB T_ 23 [RA r s d t p,.q v] w [] (fun _:Value=>True) (fun x=>.tuple #[x,.q (LG r v)]) (fun x=>[row 9 1 x (Hp r v).length (aO (Hp r v))]):=by
 obtain ⟨h1,h2,h3,h4⟩:=h.one;have fB:∀ w',aH [] w w'->ao T_ 34 [.agg #[.int .i64 r.lv,.int .i64 r.ma,s,d,t,p]] w' (.int .i64 (fT r)):=fun w' hk=>eT (h.keeps hk) cJ
 have hle:∀ w',aH [] w w'->ao T_ 114 [.agg #[.q r.lv,.q r.ma,s,d,t,p],.q v] w' (.q (Dg r v)):=fun w' hk=>k6 v (h.keeps hk)
 unfold RA;refine aV func23 I I ?_;refine Jr<|Jy I I fun _ _=>Jy I I fun _ _=>Ja I<|Ja I<|Jn<|Jq<|Jq ?_;rename_i b2 tX b3 uY
 with_reducible refine cS 6 (by kernel_rfl) ?_
 (refine ar (cN (.there .here)) I<|aZ bS I (fun w' az=>(fB w' (Mem.keeps az)))<|ar (cN (.there .here)) I<|ar (ic .here) I<|aZ bo I (fun w' az=>(hle w' (Mem.keeps az)))<|eA (aB (.o I (.o I .nil)) I I I I) I I ?_)
 with_reducible refine dz I fun bq lN=>?_
 (refine aj bS I (fun w' az=>(dE (Mem.dB az .here I I) (cg.cons (cg.cons cg.nil))))<|Ja I<|Ji<|Jv I<|JD I<|Jn<|gR I (fun aA=>?_) fun aA=>?_;refine Jr<|Jv I<|Ja I<|Ja I<|Jn<|Ju ?_;rotate_left;refine Jk<|Jr<|bN I I ae<|JL I bO I<|ab (bI .nil (.o I (.o I .nil))) I ?_;rotate_right)
 ·have e1:Hp r v=[]:=if_pos aA;rw [e1];refine aR 9 1 ?_
  with_reducible first|apply aP|apply aQ
  case he=>exact gl I I I
  case hR=>
   intro w' az;exact aF (.z) trivial (by exact .h1 .nil) az I
 have e1:Hp r v=(r.ti.map Ti.nm).filter (ib r.po v):=if_neg aA;have e0:ba [fT r,Dg r v]=0:=Zr.1 aA;have e2:LG r v=0:=e0;rw [e1,e2]
 with_reducible apply jt
 case hr=>exact ek
 case hd=>rfl
 case ht=>exact bK.nil
 case hc=>
  intro w1 fp aY _ hs1;obtain rfl:fp=[]:=hs1;have hA:BR w1 b2 [.int .i64 r.lv,.int .i64 r.ma,s,d,t,p]:=BR.of aY bO;have f2:w1.cell? ⟨b3,0,none⟩=some (.int .i64 v):=At.lit (by exact Take.there .here) I w1 aY;have hR:=h.keeps aY.keeps
  exact EF (f:=120) (q:=ib r.po v) (first:=[]) (cap:=[.p b2,.p b3]) hR.ti (by have:=cJ.2.2;omega)
   (fun o w2 eL=>O3 v o (hR.keeps eL) (hA.keeps eL) (cD f2 I eL))
 intro x _;dsimp only [id_eq,Zb,Za];refine Ja I<|Ja I<|Jn<|Je ?_
 with_reducible first|apply aP|apply aQ
 case he=>exact gl I I I
 case hR=>
  intro w' az;exact aF x trivial (by exact .h1 .nil) az I
def HN (r:Ro) (v:Int) (so:ByteArray):Int:=ba [fT r,Dg r v,Na r so]
def Gj (r:Ro) (v:Int) (so:ByteArray):List ByteArray:=if HN r v so≠0 then [] else (bY r).filter fun o=>decide (kN r v o=so)
theorem O9 {r:Ro} {s d t p:Value} (v:Int) (so:ByteArray) {w:World} (h:RR w r s d t p) (cJ:me r):bB T_ 24 [RA r s d t p,.q v,.string so] w [] (fun _:Value=>True) (fun x=>.tuple #[x,.q (HN r v so)]) (fun x=>[row 9 1 x (Gj r v so).length (aO (Gj r v so))]):=by
 obtain ⟨h1,h2,h3,h4⟩:=h.one;have fB:∀ w',aH [] w w'->ao T_ 34 [.agg #[.int .i64 r.lv,.int .i64 r.ma,s,d,t,p]] w' (.int .i64 (fT r)):=fun w' hk=>eT (h.keeps hk) cJ
 have hle:∀ w',aH [] w w'->ao T_ 114 [.agg #[.q r.lv,.q r.ma,s,d,t,p],.q v] w' (.q (Dg r v)):=fun w' hk=>k6 v (h.keeps hk)
 have rN:∀ w',aH [] w w'->ao T_ 122 [.agg #[.q r.lv,.q r.ma,s,d,t,p],.string so] w' (.q (Na r so)):=fun w' hk=>qu so (h.keeps hk)
 unfold RA;refine aV func24 I I ?_;refine Jr<|Jy I I fun _ _=>Jy I I fun _ _=>Jy I I fun _ _=>Ja I<|Ja I<|Jn<|Jq<|Jq ?_;rename_i b2 tX b3 uY b4 xB
 with_reducible refine cS 9 (by kernel_rfl) ?_
 (refine ar (cN bO) I<|aZ bS I (fun w' az=>(fB w' (Mem.keeps az)))<|ar (cN bO) I<|ar (ic (.there .here)) I<|aZ bo I (fun w' az=>(hle w' (Mem.keeps az)))<|ar (cN bO) I<|ar (ic .here) I<|aZ bo I (fun w' az=>(rN w' (Mem.keeps az)))<|eA (aB (.o I (.o I (.o I .nil))) I I I I) I I ?_)
 with_reducible refine dz I fun bq lN=>?_
 (refine aj bS I (fun w' az=>(dE (Mem.dB az .here I I) (cg.cons (cg.cons (cg.cons cg.nil)))))<|Ja I<|Ji<|Jv I<|JD I<|Jn<|gR I (fun aA=>?_) fun aA=>?_;refine Jr<|Jv I<|Ja I<|Ja I<|Jn<|Ju ?_;rotate_left;refine Jk<|Jr<|bN I I ae<|JL I c6 I<|ab (bI .nil (.o I (.o I (.o I .nil)))) I ?_;rotate_right)
 ·have e1:Gj r v so=[]:=if_pos aA;rw [e1];refine aR 9 1 ?_
  with_reducible first|apply aP|apply aQ
  case he=>exact gl I I I
  case hR=>
   intro w' az;exact aF (.z) trivial (by exact .h1 .nil) az I
 have e1:Gj r v so=(r.de.map De.nm).filter (fun o=>decide (kN r v o=so)):=if_neg aA
 have e0:ba [fT r,Dg r v,Na r so]=0:=Zr.1 aA;have e2:HN r v so=0:=e0;rw [e1,e2]
 with_reducible apply jt
 case hr=>exact ek
 case hd=>rfl
 case ht=>exact bK.nil
 case hc=>
  intro w1 fp aY _ hs1;obtain rfl:fp=[]:=hs1;have hA:BR w1 b2 [.int .i64 r.lv,.int .i64 r.ma,s,d,t,p]:=BR.of aY c6;have f2:w1.cell? ⟨b3,0,none⟩=some (.int .i64 v):=At.lit bO I w1 aY;have f3:w1.cell? ⟨b4,0,none⟩=some (.string so):=At.lit (by exact Take.there .here) I w1 aY;have hR:=h.keeps aY.keeps
  exact EG (f:=125) (q:=fun o=>decide (kN r v o=so)) (first:=[]) (cap:=[.p b2,.p b3,.p b4]) hR.de (by have:=cJ.2.1;omega)
   (fun o w2 eL=>HL v o so (hR.keeps eL) (by have:=cJ.2.2;omega) (hA.keeps eL) (cD f2 I eL) (cD f3 I eL))
 intro x _;dsimp only [id_eq,Zb,Za];refine Ja I<|Ja I<|Jn<|Je ?_
 with_reducible first|apply aP|apply aQ
 case he=>exact gl I I I
 case hR=>
  intro w' az;exact aF x trivial (by exact .h1 .nil) az I
end Go.Proofs.A1
