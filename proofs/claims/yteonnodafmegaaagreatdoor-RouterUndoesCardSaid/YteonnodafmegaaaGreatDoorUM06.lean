/- Parts of the proof: GkRegP GkRegN GkStr GkBits GkArr KA KB KC GkClear GkFl KD KE. -/
import Derived.Test.YteonnodafmegaaaGreatDoorUM05
import Derived.Test.YteonnodafmegaaaGreatDoorUM03
import Derived.Laws.Strings
import Derived.Laws.BytesString
import Derived.Test.YteonnodafmegaaaGreatDoorUM01
import Derived.Laws.Entries
import Derived.Test.YteonnodafmegaaaGreatDoorUM04
set_option linter.unusedSectionVars false
set_option linter.unusedVariables false
set_option linter.unusedSimpArgs false
namespace Go.SL
open Go
def uG (l:List Oper) (m:Nat) (p:List Nat):Bool:=
 l.all oJ&&ur l 0&&kM l.toArray (l.take m) 0&&(List.range' m (l.length-m)).all (fun k=>(List.range m).all fun i=>p.any (Nat.beq i)||((iW l []).getD k 0).testBit i)&&Nat.ble m l.length
structure GM (l:List Oper) (m:Nat) (p:List Nat):Prop where
 op:∀ o∈l,oJ o=true
 ac:ur l 0=true
 Cz:kM l.toArray (l.take m) 0=true
 tail:∀ k,m<=k->k<l.length->∀ i,i<m->i ∉ p->((iW l []).getD k 0).testBit i=true
 le:m<=l.length
variable {p:List Nat}
theorem Ad {l:List Oper} {m:Nat} (h:uG l m p=true):GM l m p:=by
 simp only [uG,Zl,Z6] at h;obtain ⟨⟨⟨⟨h1,h2⟩,h3⟩,h5⟩,h6⟩:=h;refine ⟨h1,h2,h3,fun k hk aN i hi hne=>?_,by simpa using h6⟩;have:=h5 k (ZaZ.2 ⟨hk,by omega⟩) i (ZP.2 hi);rw [ZQ] at this;refine this.resolve_left fun h=>hne ?_;obtain ⟨x,hx,hxe⟩:=ZN.1 h;rw [Zah hxe];exact hx
theorem pN {l:List Oper} {m:Nat} (hc:GM l m p) {i j:Nat} {x y:Oper} (xK:i<j) (hj:j<m) (hx:l[i]? = some x) (hy:l[j]? = some y):qB l.toArray x y i=true:=by
 have:=nB hc.Cz (i:=i) (j:=j) xK (by rw [ZK,if_pos (by omega)];exact hx) (by rw [ZK,if_pos hj];exact hy);simpa using this
theorem Af {l:List Oper} {m:Nat} (hc:GM l m p) {listed:Array Bool} (hsz:listed.size=l.length) (xr:DC l (Ls listed)) {i:Nat} (hi:i∈Region.ready .any l.toArray listed) (hm:m<=i):∀ j,j<m->j ∉ p->Ls listed j:=by
 intro j hj hjp;obtain ⟨o,ho,hn,hd⟩:=(ek hsz).1 hi;have aN:i<l.length:=(Zm.1 ho).1;have EZ:DC l (fun k=>k=i\/Ls listed k):=by
  intro k ok hk hL e he hb;rcases hL with e' | hL
  ·subst e';rw [ho] at hk;cases hk;exact .inr (hd e he hb)
  ·exact .inr (xr k ok hk hL e he hb)
 rcases jq EZ hc.ac i aN (.inl rfl) j (hc.tail i hm aN j hj hjp) with h | h
 ·omega
 ·exact h
section
variable {P:Program} {c:Cx} {D:List Nat} {sl:aH} {hs:List bd} {Q:Exit->Act->World->Prop} {l:List Oper} {m:Nat}
theorem N9 {p:List Nat} (hc:GM l m p) (K9:∀ q∈p,q<m->Fp l q) (hQp:∀ c a w,¬ Q (.panic c) a w) {S:List cT} {qg:(Nat->Value)->aH} (YN:wV P c hs l 0 (l.take m) (fun _=>sl) [] S qg) {a0:Act} (h0:bZ sl a0) (OW:a0.tmps.size=c.nt)
  (tail:∀ β a w,St c D (qg β) (eP β (fun _=>true) S 0++hs) a w->wpAnyIn (FR none) 0 P .any l.toArray Q (l.length-m) (qi l.length m) a w) :
  ∀ (fuel:Nat) (listed:Array Bool) (a:Act) (w:World),W0 c D hs l m S a0 fuel listed a w->wpAnyIn (FR none) 0 P .any l.toArray Q fuel listed a w:=by
 have hle:=hc.le;have OU:py sl [] (fun _=>sl) []:=fun β t v hv=>.inr ⟨fun oj h=>(Zp h).elim,hv⟩
 obtain ⟨LC,_,mz,iZ⟩:=YN.spec (sl:=sl) [] rfl rfl OU;rw [Za] at mz iZ;rw [ZH,Zs,Zbd hle] at LC;have fc:∀ (j:Nat) (o:Oper),j<m->l[j]? = some o->(l.take m)[j]? = some o:=fun j o hj ho=>by rw [ZK,if_pos hj];exact ho
 have gH:∀ (j:Nat) (o:Oper),(l.take m)[j]? = some o->j<m/\l[j]? = some o:=fun j o ho=>by
  rw [ZK] at ho;split at ho
  ·exact ⟨by assumption,ho⟩
  ·cases ho
 have Wd:∀ j,j<m->∃ s,S[j]? = some s:=fun j hj=>⟨S[j]'(by omega),Zc (by omega)⟩
 have oR:∀ fuel listed a w,W0 c D hs l m S a0 fuel listed a w->(∀ i,i<m->Ls listed i)->wpAnyIn (FR none) 0 P .any l.toArray Q fuel listed a w:=by
  intro fuel listed a w hI eR;have hL:∀ i,i<l.length->(Ls listed i↔i<m):=fun i _=>⟨fun h=>ZY fun hm=>hI.hi i hm h,eR i⟩
  obtain ⟨U,DM,uS,xN⟩:=hI.left;have jb:U.Perm (List.range' m (l.length-m)):=by
   rw [ZaK DM (List.nodup_range')];intro i;rw [uS i,ZaZ];constructor
   ·rintro ⟨h1,h2⟩;exact ⟨Zbh fun h=>h2 (eR i h),by omega⟩
   ·rintro ⟨h1,h2⟩;exact ⟨by omega,hI.hi i h1⟩
  have hlen:fuel=l.length-m:=by rw [<- xN,jb.length_eq,List.length_range']
  have SO:listed=qi l.length m:=by
   have AO:(qi l.length m).size=l.length:=by simp [qi];omega
   apply Array.ext
   ·rw [hI.sz,AO]
   ·intro i h1 h2;rw [hI.sz] at h1;have h3:=hL i h1;unfold Ls at h3;rw [ZG,ZaQ (by rw [hI.sz];exact h1),Zal] at h3;have h4:(qi l.length m)[i]=decide (i<m):=by
     simp only [qi,List.getElem_toArray];by_cases hi:i<m
     ·rw [ZaC (by simpa using hi)];simp [hi]
     ·rw [Zar (by simpa using hi)];simp [hi]
    rw [h4];by_cases hi:i<m
    ·rw [h3.2 hi];simp [hi]
    ·have:¬ listed[i]=true:=fun h=>hi (h3.1 h)
     simp [hi,this]
  subst hlen;rw [SO];obtain ⟨β,hm,jj⟩:=hI.own;have e:eP β (fun i=>listed.getD i false) S 0=eP β (fun _=>true) S 0:=jX fun j s hj=>by
   have kb:j<m:=by have:=(Zm.1 hj).1;omega
   rw [ZH];exact ⟨eR j kb,fun _=>rfl⟩
  rw [e] at hm;refine tail β a w ⟨by rw [Zh];exact hm,fun t v hv=>?_,hI.size,hI.defers⟩;rcases mz β t v hv with ⟨j,oj,s,h1,h2,h3,h4⟩ | ⟨h1,h2⟩
  ·obtain ⟨kb,nZ⟩:=gH j oj h1;rw [h4];exact jj j oj t s nZ h2 h3 (eR j kb)
  ·rw [hI.FX t fun j oj hj mA=>h1 oj (Z1 (fc j oj (ZY fun hm=>hI.hi j hm mA) hj))]
   exact h0 t v h2
 intro fuel
 induction fuel with
 | zero =>
  intro listed a w hI;obtain ⟨U,_,uS,xN⟩:=hI.left;have hU:U=[]:=Zaw.1 xN;refine oR 0 listed a w hI fun i hi=>Classical.byContradiction fun hn=>?_;have:=(uS i).2 ⟨by omega,hn⟩;rw [hU] at this;cases this
 | succ fuel ih =>
  intro listed a w hI;by_cases eR:∀ i,i<m->Ls listed i
  ·exact oR _ listed a w hI eR
  ·have hex:∃ i,i<m/\¬ Ls listed i:=Classical.byContradiction fun hh=>eR fun i hi=>Classical.byContradiction fun hn=>hh ⟨i,hi,hn⟩
   obtain ⟨i0,Bz,ug⟩:=hex;have main:∀ i,i∈Region.ready .any l.toArray listed->i<m->wpOpIn (FR none) 0 P l.toArray Q i (wpAnyIn (FR none) 0 P .any l.toArray Q fuel (listed.setIfInBounds i true)) a w/\(i∈p->wpAnyIn (FR none) 0 P .any l.toArray Q (fuel+1) listed a w):=by
    intro i hi sW;obtain ⟨o,ho,hn,oS⟩:=(ek hI.sz).1 hi;obtain ⟨d,MC,s,hd,fH,tO,CT,ee⟩:=iZ i o (Zi _) (fc i o sW ho);obtain ⟨EJ,EK,B,hB,ja⟩:=ee;obtain ⟨β,hm,jj⟩:=hI.own;have nP:∀ (j:Nat),fD o j=true->Ls listed j:=fun j hw=>by
     obtain ⟨e,he,hb,re⟩:=dS hw;rw [<- re];exact oS e he hb
    have EM:∀ (j:Nat),ml l o j=true->Ls listed j:=fun j hw=>by
     unfold ml at hw;rw [ZQ] at hw;rcases hw with hw | hw
     ·exact nP j hw
     ·obtain ⟨k,_,hk⟩:=ZN.1 hw;rw [Zl] at hk;have LD:=nP k hk.1;cases hq:l[k]? with
      | none=>rw [hq] at hk;cases hk.2
      | some q =>
       rw [hq] at hk;obtain ⟨e,he,hb,re⟩:=dS hk.2;rw [<- re];exact hI.dc k q hq LD e he hb
    have tL:∀ (j:Nat) (oj:Oper) (e:Nat),l[j]? = some oj->j<m->j≠i->oj.dst=some e->d≠e:=by
     intro j oj e hj kb hne he;rcases ZbC j i with h | h
     ·exact fun e'=>(eu (pN hc h sW hj ho) he hd).1 e'.symm
     ·exact (eu (pN hc (show i<j by omega) kb ho hj) hd he).1
    have ju:i<listed.size:=by rw [hI.sz];omega
    have HA:oJ o=true:=hc.op o (Z1 ho)
    -- DF cZ Uy DF operation looks at
    have hT:∀ t∈o.looksAt l.toArray,∀ v,cX (MC β) t=some v->a.tmps[t]? = some v:=by
     intro t ht v hv;rcases CT β t v hv with ⟨j,oj,sj,h1,h2,h3,h4⟩ | ⟨h1,h2⟩
     ·have sV:j<i:=by have:=(Zm.1 h1).1;rw [Zs] at this;omega
      rw [ZK,if_pos sV] at h1 h3;obtain ⟨kb,nZ⟩:=gH j oj h1;have mA:=nP j ((eu (pN hc sV sW nZ ho) h2 hd).2 (.inl ht));rw [h4];exact jj j oj t sj nZ h2 h3 mA
     ·rw [hI.FX t fun j oj hj mA jd=>?_]
      ·exact h0 t v h2
      ·have kb:j<m:=ZY fun hm=>hI.hi j hm mA
       rcases Zas j i with h | h | h
       ·exact h1 oj (Z1 (by rw [ZK,if_pos h];exact fc j oj kb hj)) jd
       ·subst h;exact hn mA
       ·have hw:=(eu (pN hc h kb ho hj) hd jd).2 (.inr ht);obtain ⟨e,he,hb,re⟩:=dS hw;have:=hI.dc j oj hj mA e he hb;rw [re] at this;exact hn this
    have AQ:∀ t v,cX (MC β) t=some v->t<c.nt:=by
     intro t v hv;rcases CT β t v hv with ⟨j,oj,sj,h1,h2,_,_⟩ | ⟨_,h2⟩
     ·have sV:j<i:=by have:=(Zm.1 h1).1;rw [Zs] at this;omega
      rw [ZK,if_pos sV] at h1;obtain ⟨d',_,_,xu,EY,_⟩:=iZ j oj (Zi _) h1;rw [h2] at xu;cases xu;exact EY
     ·have:=h0 t v h2;rw [<- OW];exact (Z2.1 this).1
    obtain ⟨a',mG,jT,_⟩:=r8 hI.size AQ hT;have E1:j6 c hs (S.take i) B β w:=by
     rintro A (rfl | ⟨j,hj,sj,h1,rfl⟩)
     ·exact hm.sublist ((Zbw _ _).trans (Zbr _ _))
     ·have sV:j<i:=by have:=(Zm.1 h1).1;rw [Zs] at this;omega
      rw [ZK,if_pos sV] at h1;have mA:=EM j (hB j hj);exact hm.sublist ((vw (lst:=fun i=>listed.getD i false) (i:=0) h1 (by rw [ZH];exact mA)).append (Zbw _ _))
    have hq:=ja β a' w mG E1;have hex:=jI (o:=o) (ops:=l.toArray) HA jT
    -- Um a done operation XS abk not aaY on this one
    have tK:∀ j,Ls listed j->∀ x k,Bj l j k=true->β k=zu β i x k:=by
     intro j mA x k hk;refine (zt fun e=>?_).symm;subst e;unfold Bj at hk;rw [ZQ] at hk;rcases hk with hk | hk
     ·have:j=k:=by simpa using hk
      subst this;exact hn mA
     ·have VM:j<l.length:=by
       have kb:j<m:=ZY fun hm=>hI.hi j hm mA
       omega
      exact hn (jq hI.dc hc.ac j VM mA k hk)
    have jH:∀ v w',MF i s β w v w'->wpAnyIn (FR none) 0 P .any l.toArray Q fuel (listed.setIfInBounds i true) (a.put o.dst v) w':=by
     rintro v w' ⟨x,rfl,hk,fp,jv,fV,C2⟩;refine ih _ _ _ ⟨by simpa using hI.sz,?_,?_,by rw [hd];exact hI.defers,by simpa [Act.put,hd] using hI.size,?_,?_,zu β i x,?_,?_⟩
     ·intro k ok xl hL e he hb;rw [c8 ju] at hL ⊢;rcases hL with e' | hL
      ·subst e';rw [ho] at xl;cases xl;exact .inr (oS e he hb)
      ·exact .inr (hI.dc k ok xl hL e he hb)
     ·intro k xl hL;rw [c8 ju] at hL;rcases hL with e | hL
      ·omega
      ·exact hI.hi k xl hL
     ·intro t ht;have h1:d≠t:=fun e=>by subst e;exact ht i o ho ((c8 ju).2 (.inl rfl)) hd
      rw [hd];simp only [Act.put,ZM h1];exact hI.FX t fun j oj hj hL=>ht j oj hj ((c8 ju).2 (.inr hL))
     ·obtain ⟨U,DM,uS,xN⟩:=hI.left;refine ⟨U.erase i,DM.erase i,fun k=>?_,?_⟩
      ·rw [DM.mem_erase_iff,uS k,c8 ju];constructor
       ·rintro ⟨h1,h2,h3⟩;exact ⟨h2,fun h=>h.elim h1 h3⟩
       ·rintro ⟨h1,h2⟩;exact ⟨fun e=>h2 (.inl e),h1,fun h=>h2 (.inr h)⟩
      ·have VQ:i∈U:=(uS i).2 ⟨by omega,hn⟩;rw [ZaV VQ,xN];rfl
     ·have k6:Mem c (s.A (zu β i x)++(eP β (fun i=>listed.getD i false) S 0++(hs++nb D))) w':=Mem.Wl (As:=[]) hm fun um _ hf=>by
       rw [show um=[] from hf];exact ⟨hk,fp,jv,fV,fun b hb=>.inr (C2 b hb)⟩
      have e1:eP β (fun i=>listed.getD i false) S 0=eP (zu β i x) (fun i=>listed.getD i false) S 0:=jX fun j sj hj=>by
       refine ⟨I,fun hl=>?_⟩;rw [ZH] at hl;have kb:j<m:=by have:=(Zm.1 hj).1;omega
       obtain ⟨oj,OV⟩:∃ oj,l[j]? = some oj:=⟨l[j]'(by omega),Zc (by omega)⟩;obtain ⟨_,_,s2,_,_,hs2,_,ES⟩:=iZ j oj (Zi _) (fc j oj kb OV);rw [hj] at hs2;cases hs2;exact ES.EK _ _ (tK j hl x)
      rw [e1,<- Zh] at k6;refine k6.perm ((vA (k:=i) tO ?_ ?_ ?_).append_right _)
      ·rw [ZH];show listed.getD i false=false;have:¬ listed.getD i false=true:=hn;simpa using this
      ·rw [ZH];exact (c8 ju).2 (.inl I)
      ·intro j hj;rw [ZH] at hj;simp [ZG,ZM (Ne.symm hj)]
     ·intro j oj e sj hj he kB hL;rw [c8 ju] at hL;by_cases sV:j=i
      ·subst sV;rw [ho] at hj;cases hj;rw [hd] at he;cases he;rw [tO] at kB;cases kB;rw [hd];simp [Act.put,hI.size,fH]
      ·have Gh:=hL.resolve_left sV;have kb:j<m:=ZY fun hm=>hI.hi j hm Gh
       obtain ⟨_,_,s2,_,_,hs2,_,ES⟩:=iZ j oj (Zi _) (fc j oj kb hj);rw [kB] at hs2;cases hs2;rw [hd];simp only [Act.put,ZM (tL j oj e hj kb sV he)];rw [<- ES.EJ _ _ (tK j Gh x)];exact jj j oj e sj hj he kB Gh
    have Xq:=hq;refine ⟨?_,fun hip=>?_⟩
    rotate_left
    ·obtain ⟨d',x',k',ty',pos',af',Gd,Yx,fu⟩:=K9 i hip sW;rw [ho] at Gd;cases Gd;rw [if_pos (by simp [Region.wanted])] at Xq;unfold si at Xq;obtain ⟨v,hv,Lz⟩:=LL Xq;have C2:Region.free .any l.toArray listed i=true:=HQ fu fun j hj hne hb=>by
      have nZ:j<l.length:=by simpa using hj
      have dF:((iW l []).getD i 0).testBit j=true:=by
       rw [ZG] at hb;simpa [nZ] using hb
      have hjs:j<listed.size:=by rw [hI.sz];exact nZ
      rcases Hf hc.ac hI.sz hI.dc hi dF with e | hL
      ·exact absurd e hne
      ·unfold Ls at hL;rw [ZG,ZaQ hjs] at hL ⊢;exact hL
     refine wpAnyIn_take (oi:=⟨some d',.extract x' k',ty',pos',af',none⟩) (v:=v) I (by simpa using ho) Yx C2 (by simpa using hi) (fun c a w h=>(hQp c _ w h).elim) ⟨.inl ⟨by simp [Region.wanted],fun w2=>by rw [<- hex];exact Lz w2⟩,fun w2=>rfl⟩ (jH v w hv)
    unfold wpOpIn;rw [show l.toArray[i]? = some o from by simpa using ho];simp only [];rw [jw jT] at hq;split
    ·rename_i hw;rw [if_pos hw] at hq;refine ⟨dQ _ _ _ _ _,?_⟩;rw [Oper.semAt_eq _ _ _ (fun cc he=>by simp [oJ,he] at HA),<- hex]
     unfold si at hq
     revert hq
     generalize (execOp a'.eval o).run P w=res;intro hq
     match res,hq with
     | .ok (.value v) w',hq=>exact jH v w' hq
     | .ok (.enter f args) w', ⟨e, cJ⟩ =>
      subst e;refine ⟨by simp [FR,Fence.wide],(jm cJ).mono fun e zq h=>?_⟩;obtain ⟨v,rfl,hq⟩:=h;exact jH v zq hq
    ·rename_i hw;rw [if_neg hw] at hq;exact ⟨fun _ _=>trivial,jH undef w hq⟩
   by_cases hp:∃ q,q∈p/\q<m/\q∈Region.ready .any l.toArray listed
   ·obtain ⟨q,OR,yR,Vp⟩:=hp;exact (main q Vp yR).2 OR
   ·refine ⟨fun hr=>?_,fun i hi=>?_⟩
    ·obtain ⟨i,hi⟩:=kg hI.sz hc.ac ⟨i0,by omega,ug⟩;rw [hr] at hi;cases hi
    ·have sW:i<m:=ZY fun hm=>by
      have T4:=Af hc hI.sz hI.dc hi hm;have Lz:∀ q,q<m->Ls listed q:=by
       intro q
       induction q using Nat.strongRecOn with
       | _ q ih =>
        intro YH;by_cases OQ:q∈p
        ·by_cases hLq:Ls listed q
         ·exact hLq
         ·refine absurd ⟨q,OQ,YH,(ek hI.sz).2 ⟨l[q]'(by omega),Zc (by omega),hLq,fun e he hb=>?_⟩⟩ hp;have aN:=k9 hc.ac (Zc (show q<l.length by omega)) e he hb;exact ih e.on (by omega) (by omega)
        ·exact T4 q YH OQ
      exact ug (Lz i0 Bz)
     exact (main i hi sW).1
theorem pD {id:Nat} (m:Nat) (p:List Nat) [rY:TM P] (dD:uG l m p=true) (K9:∀ q∈p,Fp l q) (k:pz P c D hs l Q m 0 m l (fun _=>sl) []):Tr c D sl hs (WP P none (.region id l.toArray true) Q):=fun a w bh=>by
 obtain ⟨S,qg,hp,ht⟩:=k;have h:(Code.region id l.toArray true).wpIn (FR none) 0 P (NP Q) a w:=wpIn_region_any rY.eq (by
  refine N9 (p:=p) (Ad dD) (fun q hq _=>K9 q hq) (fun c a w h=>h.elim) hp bh.cZ bh.size (fun β a w bh=>ht β a w bh) l.toArray.size _ _ _ ⟨by simp,?_,?_,bh.defers,bh.size,fun t _=>rfl,?_,fun _=>undef,?_,?_⟩
  ·exact fun k o _ hL=>absurd hL (gm _ _)
  ·exact fun k _ hL=>gm _ _ hL
  ·exact ⟨List.range l.length,ZbG,fun i=>⟨fun h=>⟨by simpa using h,gm _ _⟩,fun h=>by simpa using h.1⟩,by simp⟩
  ·have e:∀ (T:List cT) (i:Nat),eP (fun _=>undef) (fun i=>(Array.replicate l.toArray.size false).getD i false) T i=[]:=by
    intro T
    induction T with
    | nil=>intro i;rfl
    | cons s T ih =>
     intro i;have:=gm l.toArray.size i;unfold Ls at this;unfold eP;rw [if_neg this,ih];rfl
   rw [e];exact bh.mem.drew
  ·exact fun j o d s _ _ _ hL=>absurd hL (gm _ _))
 exact wpIn_mono h fun e a' w' h=>by
  cases e with
  | panic c=>exact h.elim
  | _=>exact h
end
theorem pL {l:List Oper} {p d k:Nat} {x:Operand} {ty:TypeId} {pos:String} {af:Array Edge} (h:l[p]? = some ⟨some d,.extract x k,ty,pos,af,none⟩) (h2:Region.noSelect l.toArray=true) (h3:Region.free .any l.toArray ((List.range l.length).map fun j=>((iW l []).getD p 0).testBit j).toArray p=true):Fp l p:=⟨d,x,k,ty,pos,af,h,h2,h3⟩
theorem dP {P:Program} {c:Cx} {D:List Nat} {sl:aH} {hs:List bd} {Q:Exit->Act->World->Prop} {l:List Oper} {id:Nat} (m:Nat) [rY:TM P] (dD:uG l m []=true) (k:pz P c D hs l Q m 0 m l (fun _=>sl) []):Tr c D sl hs (WP P none (.region id l.toArray true) Q):=pD m [] dD (fun _ h=>absurd h Zp) k
end Go.SL
namespace Go.SL
open Go
def fk:Value->Nat
 | .int _ n=>n.toNat
 | _=>0
theorem pU (b:Nat):fk (.q (b:Int))=b:=by simp [fk]
def tP:Value->Option Addr×Nat
 | .slice a _ c=>(a,c)
 | _=>(none,0)
theorem Te (x:Option Addr×Nat):∃ v,tP v=x:=⟨.slice x.1 0 x.2,I⟩
theorem bb.slice {P:Program} {f:FuncId} {args:List Value} {w:World} {md:List Nat} {E:TypeId} {sz n:Nat} {xs:List Value} (h:bb P f args w md (fun _:Value=>True) id (fun v=>[row E sz v n xs])) :
  bb P f args w md (fun _:Option Addr×Nat=>True) (fun x=>.slice x.1 n x.2) (fun x=>[row E sz (.slice x.1 n x.2) n xs]):=
 Calls.mono h fun e w' ⟨v,he,_,hk,fp,hn,hs,hf⟩=>by
  have hv:∃ x:Option Addr×Nat,v=.slice x.1 n x.2:=by
   obtain ⟨f1,f2,_,⟨_,_,⟨e1,e2⟩ | ⟨g,cap,cur,e1,_⟩⟩,_⟩:=hs
   ·exact ⟨(none,0),by rw [e1,e2]⟩
   ·exact ⟨(_,cap),e1⟩
  obtain ⟨x,rfl⟩:=hv;exact ⟨x,he,trivial,hk,fp,hn,hs,hf⟩
def eB (β:Nat->Value):List cT->List bd
 | []=>[]
 | s::S=>s.A β++eB β S
theorem Cs (β:Nat->Value):∀ (S:List cT) (i:Nat),eP β (fun _=>true) S i=eB β S
 | [],_=>rfl
 | s::S,i=>by rw [eP,eB,if_pos rfl,Cs β S]
section
variable {P:Program} {c:Cx} {D:List Nat} {sl:aH} {hs hs':List bd} {X:Act->World->Prop} {Q:Exit->Act->World->Prop} {l:List Oper} {m i n d:Nat} {op:Op} {ty:TypeId} {pos:String} {af:Array Edge} {rest:List Oper} {SL:(Nat->Value)->aH} {S:List cT}
theorem je (l:List Oper) (i:Nat):Bj l i i=true:=by simp [Bj]
theorem sh {o:Oper} {s:cT} (hd:o.dst=some d) (fH:Nat.blt d c.nt=true) (h:Fm P c hs l i o SL S s) (k:pz P c D hs l Q m (i+1) n rest (fun β=>(d,s.F β)::SL β) (S++[s])):pz P c D hs l Q m i (n+1) (o::rest) SL S:=by
 obtain ⟨S',qg,hp,ht⟩:=k;exact ⟨S',qg,.step hd (by simpa [Z9] using fH) h.toT hp,ht⟩
variable {F:(Nat->Value)->Value} {want:Bool}
theorem cd {dst:Option Tmp} {j gs:Nat} (hj:((l.toArray[j]?).bind (·.dst))=some gs) (hq:∀ β,cX (SL β) gs=some (.bool want))
  (k:pz P c D hs l Q m i (n+1) (⟨dst,op,ty,pos,af,none⟩::rest) SL S):pz P c D hs l Q m i (n+1) (⟨dst,op,ty,pos,af,some (j,want)⟩::rest) SL S:=by
 obtain ⟨S',qg,hp,ht⟩:=k;refine ⟨S',qg,?_,ht⟩;cases hp with
 | step hd fH h t =>
  obtain ⟨h1,h2,B,hB,hr⟩:=h;refine .step hd fH ⟨h1,h2,B,hB,fun β a w hs1 hb=>?_⟩ t;have:=hr β a w hs1 hb;rw [if_pos (by simp [Region.wanted])] at this;rw [kX (o:=⟨dst,op,ty,pos,af,some (j,want)⟩) (c0:=true) I hj hs1 (by rw [hq β];rfl),if_pos (by simp)];exact this
theorem dK {j gs:Nat} {v:Value} (hj:((l.toArray[j]?).bind (·.dst))=some gs) (hq:∀ β,cX (SL β) gs=some v) (hv:v=undef\/v=.bool (!want)) (hd:Nat.blt d c.nt=true)
  (k:pz P c D hs l Q m (i+1) n rest (fun β=>(d,undef)::SL β) (S++[⟨fun _=>undef,fun _=>[]⟩])):pz P c D hs l Q m i (n+1) (⟨some d,op,ty,pos,af,some (j,want)⟩::rest) SL S:=
 sh (s:=⟨fun _=>undef,fun _=>[]⟩) I hd ⟨fun _ _ _=>rfl,fun _ _ _=>rfl,[],by simp,fun β a w h1 h2=>by
  have hw:∃ c0 q,gv c0 (.bool q)=v/\(c0&&(q==want))=false:=by
   rcases hv with e | e
   ·exact ⟨false,want,by rw [e];rfl,I⟩
   ·exact ⟨true,!want,by rw [e];rfl,by cases want <;> rfl⟩
  obtain ⟨c0,q,e,Ub⟩:=hw;rw [kX (o:=⟨some d,op,ty,pos,af,some (j,want)⟩) (c0:=c0) (q:=q) I hj h1 (by rw [hq β,e]),if_neg (by simpa using Ub)];exact ⟨β i,I,.refl _ _,[],Zao,I,by simp⟩⟩ k
theorem fo (k:∀ β,Tr c D (SL β) (eB β S++hs) (Left P l.toArray Q (l.length-m) (qi l.length m))):pz P c D hs l Q m i 0 rest SL S:=
 ⟨S,SL,.nil,fun β=>by rw [Cs];exact k β⟩
theorem aq (hr:∀ β,cY P c (SL β) hs ⟨some d,op,ty,pos,af,none⟩ (F β)) (hi:nW l i F) (hd:Nat.blt d c.nt=true) (k:pz P c D hs l Q m (i+1) n rest (fun β=>(d,F β)::SL β) (S++[⟨F,fun _=>[]⟩])) :
  pz P c D hs l Q m i (n+1) (⟨some d,op,ty,pos,af,none⟩::rest) SL S:=
 sh (s:=⟨F,fun _=>[]⟩) I hd ⟨hi,fun _ _ _=>rfl,[],by simp,fun β a w h1 h2=>by
  rw [if_pos (by simp [Region.wanted])];unfold si;rw [(hr β).2 a w h1 h2.mem];exact ⟨β i,by rw [ve],.refl _ _,[],Zao,I,by simp⟩⟩ k
theorem cy {f:FuncId} {args:(Nat->Value)->List Value} (B:List Nat) (hB:(B.all fun j=>fD ⟨some d,op,ty,pos,af,none⟩ j)=true) (hr:∀ β,lV P (SL β) ⟨some d,op,ty,pos,af,none⟩ f (args β)) (hi:nW l i F) (hd:Nat.blt d c.nt=true)
  (hc:∀ β w,j6 c hs S B β w->aj P f (args β) w (F β)) (k:pz P c D hs l Q m (i+1) n rest (fun β=>(d,F β)::SL β) (S++[⟨F,fun _=>[]⟩])) :
  pz P c D hs l Q m i (n+1) (⟨some d,op,ty,pos,af,none⟩::rest) SL S:=
 sh (s:=⟨F,fun _=>[]⟩) I hd ⟨hi,fun _ _ _=>rfl,B,fun j hj=>Z6.1 hB j hj,fun β a w h1 h2=>by
  rw [if_pos (by simp [Region.wanted])];unfold si;rw [(hr β).2 a w h1];exact ⟨I,(hc β w h2).mono fun e w' ⟨he,hk⟩=>⟨F β,he,β i,by rw [ve],hk,[],Zao,I,by simp⟩⟩⟩ k
theorem dW {ι:Type} {Φ:ι->Prop} {val:ι->Value} {own:ι->List bd} (g:Value->ι) (hg:∀ x,∃ v,g v=x) {f:FuncId} {args:(Nat->Value)->List Value} (B:List Nat) (hB:(B.all fun j=>fD ⟨some d,op,ty,pos,af,none⟩ j)=true)
  (hr:∀ β,lV P (SL β) ⟨some d,op,ty,pos,af,none⟩ f (args β)) (hd:Nat.blt d c.nt=true) (hc:∀ β w,j6 c hs S B β w->bb P f (args β) w [] Φ val own)
  (k:pz P c D hs l Q m (i+1) n rest (fun β=>(d,val (g (β i)))::SL β) (S++[⟨fun β=>val (g (β i)),fun β=>own (g (β i))⟩])) :
  pz P c D hs l Q m i (n+1) (⟨some d,op,ty,pos,af,none⟩::rest) SL S:=
 sh (s:=⟨fun β=>val (g (β i)),fun β=>own (g (β i))⟩) I hd ⟨fun β β' h=>by simp only [h i (je l i)],fun β β' h=>by simp only [h i (je l i)],B,fun j hj=>Z6.1 hB j hj,fun β a w h1 h2=>by
  rw [if_pos (by simp [Region.wanted])];unfold si;rw [(hr β).2 a w h1];refine ⟨I,(hc β w h2).mono fun e w' ⟨x,he,_,hk,fp,hn,hs',hf⟩=>?_⟩;obtain ⟨v,hv⟩:=hg x;refine ⟨val x,he,v,by simp only [kq,hv],hk,fp,hn,by simp only [kq,hv];exact hs',fun b hb=>?_⟩;rcases hf b hb with h | h
  ·cases h
  ·exact h⟩ k
theorem jN {V:Nat->Value} {ob:(Nat->Value)->Obj} (hr:∀ β,qZ P c (SL β) hs ⟨some d,op,ty,pos,af,none⟩ V (ob β)) (hi:∀ β β',(∀ k,k≠i->Bj l i k=true->β k=β' k)->ob β=ob β') (hd:Nat.blt d c.nt=true)
  (k:pz P c D hs l Q m (i+1) n rest (fun β=>(d,V (fk (β i)))::SL β) (S++[⟨fun β=>V (fk (β i)),fun β=>[bo (fk (β i)) (ob β)]⟩])) :
  pz P c D hs l Q m i (n+1) (⟨some d,op,ty,pos,af,none⟩::rest) SL S:=
 sh (s:=⟨fun β=>V (fk (β i)),fun β=>[bo (fk (β i)) (ob β)]⟩) I hd ⟨fun β β' h=>by simp only [h i (je l i)],fun β β' h=>by simp only [h i (je l i),hi β β' fun k _ hk=>h k hk],[],by simp,fun β a w h1 h2=>by
  rw [if_pos (by simp [Region.wanted])];unfold si;rw [(hr β).2 a w h1 h2.mem];have e:ob (zu β i (.q (w.heap.size:Int)))=ob β:=hi _ _ fun k hk _=>zt hk
  exact ⟨.q (w.heap.size:Int),by simp only [kq,pU],.alloc _ _ _,[w.heap.size],by simp,⟨[w.heap.size],[],I,⟨by simp only [kq,pU],by simp only [kq,pU];rw [e];exact World.alloc_heap_new w (ob β)⟩,I⟩,by simp⟩⟩ k
end
end Go.SL
namespace Go.SL
open Go
section
variable {P:Program} {c:Cx} {sl:aH} {hs:List bd} {dst:Option Tmp} {ty:TypeId} {pos:String} {af:Array Edge} {g:Option (Nat×Bool)}
theorem dA {x:Operand} {a:Addr} (hx:Is sl x (.pointer (some a))):cY P c sl hs ⟨dst,.nilCheck x,ty,pos,af,g⟩ (.pointer (some a)):=
 ⟨by simp,fun ac w ha _=>by simp [execOp,hx ac ha]⟩
end
section
variable {P:Program} {c:Cx} {D:List Nat} {hs:List bd} {Q:Exit->Act->World->Prop} {l:List Oper} {m i n d:Nat} {op:Op} {ty:TypeId} {pos:String} {af:Array Edge} {rest:List Oper} {SL:(Nat->Value)->aH} {S:List cT}
theorem dj {v:Value}:nW l i (fun _=>v):=fun _ _ _=>rfl
end
section
variable {P:Program} {c:Cx} {D:List Nat} {sl:aH} {hs:List bd} {Q:Exit->Act->World->Prop} {ops:Array Oper} {fuel:Nat} {listed:Array Bool}
end
section
variable {P:Program} {r:Option Nat} {c:Cx} {D:List Nat} {sl:aH} {hs:List bd} {Q:Exit->Act->World->Prop} {ops:Array Oper} {fuel i:Nat} {listed:Array Bool}
def zk (P:Program) (r:Option Nat) (ops:Array Oper) (Q:Exit->Act->World->Prop) (fuel:Nat) (listed:Array Bool):Act->World->Prop:=wpAnyIn (FR r) 0 P .any ops (NP Q) fuel listed
def Q2 (P:Program) (r:Option Nat) (c:Cx) (D:List Nat) (sl:aH) (hs:List bd) (ops:Array Oper) (Q:Exit->Act->World->Prop) (fuel:Nat) (listed:Array Bool) (i:Nat):Prop:=
 ∀ a w,St c D sl hs a w->wpOpIn (FR r) 0 P ops (NP Q) i (zk P r ops Q fuel (listed.setIfInBounds i true)) a w
theorem tD {rs:List Nat} (hr:Region.ready .any ops listed=rs) (hne:rs≠[]) (h:∀ i∈rs,Q2 P r c D sl hs ops Q fuel listed i):Tr c D sl hs (zk P r ops Q (fuel+1) listed):=fun a w bh=>
 wpAnyIn_all hr hne fun i hi=>h i hi a w bh
theorem vL {d:Option Tmp} {op:Op} {ty:TypeId} {pos:String} {af:Array Edge} {g:Option (Nat×Bool)} (hi:ops[i]? = some ⟨d,op,ty,pos,af,g⟩) (h:Tr c D sl hs (WL P r ops (Exit.then (zk P r ops Q fuel (listed.setIfInBounds i true)) (NP Q)) [⟨d,op,ty,pos,af,g⟩])):Q2 P r c D sl hs ops Q fuel listed i:=fun a w bh=>by
 have h1:=h a w bh;unfold wpOpIn;simp only [hi];unfold WL at h1;split
 ·rename_i hw;rw [if_pos hw] at h1;exact Oper.vb (fun a w h=>h) (fun c a w h=>h) (fun h=>h) h1
 ·rename_i hw;rw [if_neg hw] at h1;exact ⟨fun _ _=>trivial,h1⟩
theorem EF (hr:Region.ready .any ops listed=[]) (k:Tr c D sl hs (Q .normal)):Tr c D sl hs (zk P r ops Q fuel listed):=fun a w bh=>
 wpAnyIn_done (Q:=NP Q) hr (k a w bh) fuel
end
end Go.SL
namespace Go.SL
open Go
variable {P:Program} {c:Cx} {sl:aH} {hs:List bd} {dst:Option Tmp} {ty:TypeId} {pos:String} {af:Array Edge} {g:Option (Nat×Bool)}
end Go.SL
namespace Go.SL
open Go
section
variable {P:Program} {c:Cx} {sl:aH} {hs:List bd} {dst:Option Tmp} {ty:TypeId} {pos:String} {af:Array Edge} {g:Option (Nat×Bool)}
theorem yB {t e:TypeId} {m n:Nat} {agg:Bool} {x:Operand} {b o:Nat} [hu:ij P t (.array m e)] [hT:Ty P e agg n] (hx:Is sl x (.pointer (some ⟨b,o,none⟩))) :
  cY P c sl hs ⟨dst,.slice t x none none none,ty,pos,af,g⟩ (.slice (some ⟨b,o,none⟩) m m):=
 ⟨by simp,fun ac w ha _=>by
  simp only [execOp,hx ac ha,Option.map];refine value_of ?_;simp [Instr.sliceAt,aV hu.eq,Instr.sureAddr,Instr.sliceBounds,gj (t:=e) (agg:=agg) (n:=n),eT]⟩
end
end Go.SL
namespace Go.Proofs.A1
open Go Go.SL
open Tryz
open Tryz renaming prog->T_
theorem P8 (x:Int) (w:World):aj T_ 342 [.q x] w (.bool false):=by
 refine ah func342 I I ?_;refine Jr<|Ja I<|Ji<|Jv I<|Jv I<|JD I<|Ja I<|Jn<|Je<|JT ?_;simp
theorem Dh (x y:Int) (w:World):aj T_ 300 [.q x,.q y] w (.q (kC x y)):=by
 refine ah func300 I I ?_
 (refine Jr<|Ja I<|Ji<|Jv I<|ai bz I (fun w' aA=>(P8 x w'))<|Ja I<|Ji<|Jv I<|ai bz I (fun w' aA=>(P8 y w'))<|Ja I<|Jn<|Jq<|Jr<|Jv I<|Jn<|bE (.of I)<|Jk<|Jq<|Jr<|Jv I<|Jn<|bE (.of I)<|Jk<|Jq<|Jr<|Jv I<|Jv I<|JA I<|Jn<|gB I (fun ar=>?_) fun ar=>?_;refine Jr<|Ja I<|Jn<|Ju<|JT ?_;rotate_left;refine Jk<|Jq<|Jr<|Jv I<|Jv I<|JE I<|Jn<|gB I (fun ar=>?_) fun ar=>?_;refine Jr<|Ja I<|Jn<|Ju<|JT ?_;rotate_left;refine Jk<|Jr<|Ja I<|Jn<|Je<|JT ?_;rotate_right;rotate_right)
 ·rw [kC,if_pos ar]
 ·rename_i h1;rw [kC,if_neg h1,if_pos ar]
 ·rename_i h1;rw [kC,if_neg h1,if_neg ar]
variable {w:World}
theorem US {lv:Value} {l:List Int} (h:Rd w lv 1 (ints l)):aj T_ 319 [lv] w (.q (aW l)):=by
 obtain ⟨a,cp,b,o,rfl,dp,bY,ha,hc⟩:=h;rw [c7] at *;unfold maxLen at bY;refine ah func319 I I ?_;refine Jr<|Ja I<|Ji<|Ja I<|Jn<|Jq<|Jr<|Jv I<|JI I<|Jv I<|Jn<|J0 ?_;refine a7 (fun k:Nat=>k<=l.length/\aW l=aW (l.drop k)) (fun k=>[(8,.int .i64 k),(7,.int .i64 l.length),(6,.slice a l.length cp),(3,.int .i64 0)]) (fun _=>[]) (fun k=>l.length-k) ?_ ?_
 ·apply aI 0 ⟨Zi _,I⟩
  case hs1=>exact cu
  case ht=>(try simp only [Ze,Zf,Za]);exact .nil
 rintro k ⟨hk,hf⟩;by_cases aN:k<l.length
 ·have cP:=ha (jG aN);have c0:w.cell? ⟨b,o+k*1,none⟩=some (.q l[k]):=(hc k _ (iw aN)).2 0 _ I;have iF:=td aN
  (refine Jr<|JA I<|Jn<|Jq<|Jd I fun ar=>Jk<|Jq<|J0<|Jr<|ab (fZ cP ar) I<|ab (ag (.of I) (At.base c0 I)) I<|Ja I<|Ji<|Jv I<|Jv I<|JD I<|Jn<|gB I (fun ar=>?_) fun ar=>?_;refine Jr<|Jv I<|Ja I<|Jn<|Je<|Jm<|Jh<|Jh<|Jm<|Jh<|JT ?_;rotate_left;refine Jw<|Jj<|Jt<|Jg<|JB I (by omega)<|Jv I<|Jn ?_;rotate_right)
  ·rw [hf,iF,if_pos ar]
  ·apply aL (k+1) ⟨by omega,by rw [hf,iF,if_neg ar]⟩ (by omega)
   case hs1=>exact cu
   case ht=>(try simp only [Ze,Zf,Za]);exact .nil
 ·rw [List.drop_eq_nil_of_le (by omega)] at hf;refine Jr<|JA I<|Jn<|Jq<|Jc I fun ar=>Jp<|Jl<|Jo<|Jt<|Jr<|Jv I<|Ja I<|Jn<|Je<|JT ?_;rw [hf];rfl
theorem zd {lv mv:Value} {l m:List Int} (h:Rd w lv 1 (ints l)) (h':Rd w mv 1 (ints m)):aj T_ 236 [lv,mv] w (.q (lT l m)):=by
 obtain ⟨a,cp,b,o,rfl,dp,bY,ha,hc⟩:=h;rw [c7] at *;obtain ⟨a',Uh,b',o',rfl,oU,Qm,cP,XC⟩:=h';rw [c7] at *;unfold maxLen at bY Qm;refine ah func236 I I ?_;refine Jr<|Ja I<|Jn<|Jq<|Jr<|Jv I<|JI I<|Jv I<|Jn<|J0 ?_;refine a7 (fun k:Nat=>k<=l.length/\k<=m.length/\lT l m=lT (l.drop k) (m.drop k)) (fun k=>[(11,.int .i64 k),(10,.int .i64 l.length),(9,.slice a l.length cp),(0,.slice a l.length cp),(1,.slice a' m.length Uh)]) (fun _=>[]) (fun k=>l.length-k) ?_ ?_
 ·apply aI 0 ⟨Zi _,Zi _,I⟩
  case hs1=>exact cu
  case ht=>(try simp only [Ze,Zf,Za]);exact .nil
 rintro k ⟨hk,xl,hf⟩;by_cases aN:k<l.length
 ·have mG:=ha (jG aN);have c0:w.cell? ⟨b,o+k*1,none⟩=some (.q l[k]):=(hc k _ (iw aN)).2 0 _ I;by_cases nH:k<m.length
  ·have jT:=cP (jG nH);have c1:w.cell? ⟨b',o'+k*1,none⟩=some (.q m[k]):=(XC k _ (iw nH)).2 0 _ I;have iF:=HW aN nH
   (refine Jr<|JA I<|Jn<|Jq<|Jd I fun ar=>Jk<|Jq<|J0<|Jr<|Jv I<|ab (fZ mG ar) I<|ab (ag (.of I) (At.base c0 I)) I<|Ja I<|Ja I<|Jn<|Jq<|Jr<|Jv I<|Jv I<|JI I<|JG I<|Jn<|Jc I fun ar=>Jk<|Jr<|Jv I<|Jv I<|ab (au (.of I) (.of I) jT (by omega) (by omega) bn) I<|ab (ag (.of I) (At.base c1 I)) I<|Ja I<|Ji<|Jv I<|Jv I<|ai ba I (fun w' aA=>(Dh _ _ w'))<|Ja I<|Ji<|Jv I<|JD I<|Jn<|gB I (fun ar=>?_) fun ar=>?_;refine Jr<|Jv I<|Ja I<|Jn<|Je<|Jm<|Jh<|Jh<|Jm<|Jh<|JT ?_;rotate_left;refine Jw<|Jj<|Jt<|Jg<|JB I (by omega)<|Jv I<|Jn ?_;rotate_right)
   ·rw [hf,iF,if_pos ar]
   ·apply aL (k+1) ⟨by omega,by omega,by rw [hf,iF,if_neg ar]⟩ (by omega)
    case hs1=>exact cu
    case ht=>(try simp only [Ze,Zf,Za]);exact .nil
  ·rw [Zu aN,List.drop_eq_nil_of_le (show m.length<=k by omega)] at hf
   (refine Jr<|JA I<|Jn<|Jq<|Jd I fun ar=>Jk<|Jq<|J0<|Jr<|Jv I<|ab (fZ mG ar) I<|ab (ag (.of I) (At.base c0 I)) I<|Ja I<|Ja I<|Jn<|Jq<|Jr<|Jv I<|Jv I<|JI I<|JG I<|Jn<|Jd I fun ar=>Jr<|Ja I<|Jn<|Ju<|Jm<|Jh<|Jh<|Jm<|Jh<|JT ?_)
   rw [hf];rfl
 ·rw [List.drop_eq_nil_of_le (show l.length<=k by omega),L7,ZaS] at hf;by_cases nH:k<m.length
  ·rw [if_pos (by omega)] at hf;refine Jr<|JA I<|Jn<|Jq<|Jc I fun ar=>Jp<|Jl<|Jo<|Jt<|Jq<|Jr<|Jv I<|JI I<|Jv I<|JI I<|JA I<|Jn<|Jd I fun ar=>Jr<|Ja I<|Jn<|Ju<|JT ?_;rw [hf]
  ·rw [if_neg (by omega)] at hf;refine Jr<|JA I<|Jn<|Jq<|Jc I fun ar=>Jp<|Jl<|Jo<|Jt<|Jq<|Jr<|Jv I<|JI I<|Jv I<|JI I<|JA I<|Jn<|Jc I fun ar=>Jk<|Jr<|Ja I<|Jn<|Je<|JT ?_;rw [hf]
def nk (r:Ro) (x:Ti):Int:=aW [fj r x.fr,fj r x.to,bQ (decide (x.fr=x.to)) 24]
theorem PC {r:Ro} {s d t p:Value} (x:Ti) {w w1:World} (h:RR w1 r s d t p):aj T_ 145 [RA r s d t p,.agg x.cells.toArray] w (.q (nk r x)):=by
 obtain ⟨h1,h2,h3,h4⟩:=h.one;have VR:∀ m w',aj T_ 136 [.agg #[.int .i64 r.lv,.int .i64 r.ma,s,d,t,p],.int .i64 m] w' (.int .i64 (fj r m)):=fun m w'=>Gf m h
 unfold RA Ti.cells;refine ah func145 I I ?_
 (refine Jr<|Jy I I fun _ _=>Jy I I fun _ _=>Ja I<|Ji<|bP I I ae<|JL I .here I<|bP I I ae<|JL I .here I<|ab (aU (.o I (.o I .nil)) ak) I<|Jz I I fun _ _=>an (.of I) (.of I) .here I I (gJ I I) (bG I) ak<|Jn<|Jq ?_)
 with_reducible refine cW 17 (by kernel_rfl) ?_
 (refine ao (cK bF) I<|ao lf I<|ao (ie (.there .here)) I<|a8 ba I (fun w' aA=>(VR _ w'))<|ao (cK bF) I<|ao lf I<|ao (ie (.there .here)) I<|a8 ba I (fun w' aA=>(VR _ w'))<|ao (cK .here) I<|ao lf I<|ao (ie (.there .here)) I<|ao lf I<|ao (ie (.there .here)) I<|ao (aU (.o I (.o I .nil)) ak) I<|ao (uE (.of I) (.of I) (ka (ka me)) I) I<|a8 ba I (fun w' aA=>(dO _ 24 w'))<|eC (aC (.o I (.o I (.o I .nil))) I I I I) I I ?_)
 with_reducible refine dw I fun bq nf=>?_
 (refine ai bz I (fun w' aA=>(dG (Mem.dh aA .here I I) (cm.cons (cm.cons (cm.cons cm.nil)))))<|Ja I<|Jn<|Je<|JT ?_)
 have e:(decide True&&(decide (x.to=x.fr)&&true))=decide (x.fr=x.to):=by
  rw [Zbe];simp [eq_comm]
 unfold nk;rw [<- e]
theorem nr {P:Program} {c:Cx} {sl:aH} {hs:List bd} {dst:Option Tmp} {ty:TypeId} {pos:String} {af:Array Edge} {g:Option (Nat×Bool)} {t kt et:TypeId} {x y:Operand} {b:Nat} {k:ByteArray} {l:List (ByteArray×Value)} {z V:Value} [hu:ij P t (.map kt et)] [HE:ij P kt .string] [hz:lU P et z]
  (hx:Is sl x (.map (some b))) (hy:Is sl y (.string k)) (hl:Looks c hs b (fun s:ByteArray=>Value.string s) l) (e:(eA k l).getD z=V) :
  cY P c sl hs ⟨dst,.lookup t x y true,ty,pos,af,g⟩ (.tuple #[V,.bool (eA k l).isSome]):=e ▸ El KM hx hy hl
theorem Kk {r:Ro} (hd:DB r) (s:ByteArray):∃ (a b c:Int) (one:Bool),(eA s (nw r)).getD (ke 0 0 0)=ke a b c/\(eA s (nw r)).isSome=one/\(one=true->a=dI r s/\b=jO r s/\c=jP r s)/\(one=false->jO r s<0/\jP r s<0):=by
 rw [ny hd];cases h:fv (bW r) s with
 | true=>exact ⟨_,_,_,true,rfl,rfl,fun _=>⟨rfl,rfl,rfl⟩,fun h=>by cases h⟩
 | false =>
  refine ⟨0,0,0,false,I,I,(fun h=>by cases h),fun _=>?_⟩;have hn:s ∉ bW r:=fun hm=>by rw [dZ.2 hm] at h;cases h
  unfold bW at hn;rw [Zv,Zv,not_or,not_or] at hn;have e1:=cg.2 hn.1.1;have e2:=cg.2 hn.1.2;have e3:=cg.2 hn.2;unfold jO jP;rw [if_neg (by omega),if_neg (by omega),if_neg (by omega),if_neg (by omega)];omega
def my (r:Ro) (x:Po):Int:=aW [gD x.lv 0 (r.lv-1),bQ (decide (jO r x.ou<0)) 10,bQ (decide (jP r x.ip<0)) 10,bQ (decide (jO r x.ou≠jP r x.ip)) 24]
def Fh (r:Ro):Option Po->List Int
 | none=>[-1,-1]
 | some x=>[x.lv,dI r x.ou]
def Hk (r:Ro) (po:List Po) (k:Nat):Int:=
 match po[k]? with
 | none=>0
 | some x=>if my r x≠0 then my r x else if lT [x.lv,dI r x.ou] (Fh r (if k=0 then none else po[k-1]?))<=0 then 11 else 0
theorem rL {r:Ro} {po:List Po} {k:Nat} (h:k<po.length):Hk r po k=if my r po[k]≠0 then my r po[k] else if lT [po[k].lv,dI r po[k].ou] (Fh r (if k=0 then none else po[k-1]?))<=0 then 11 else 0:=by
 unfold Hk;rw [Zc h]
theorem N8 {r:Ro} {x:Po} {a b c a' b' c':Int} {one two:Bool} (h1:one=true->a=dI r x.ou/\b=jO r x.ou/\c=jP r x.ou) (h2:one=false->jO r x.ou<0/\jP r x.ou<0)
  (h3:two=true->a'=dI r x.ip/\b'=jO r x.ip/\c'=jP r x.ip) (h4:two=false->jO r x.ip<0/\jP r x.ip<0) :
  aW [gD x.lv 0 (r.lv-1),bQ (!one||decide (b<0)) 10,bQ (!two||decide (c'<0)) 10,bQ (decide (b≠c')) 24]=my r x/\(my r x=0->one=true):=by
 unfold my;cases one with
 | true =>
  obtain ⟨-,rfl,-⟩:=h1 rfl;cases two with
  | true=>obtain ⟨-,-,rfl⟩:=h3 rfl;exact ⟨rfl,fun _=>rfl⟩
  | false =>
   have:=(h4 I).2;refine ⟨?_,fun _=>rfl⟩;simp [aW,bQ,this]
 | false =>
  have:=(h2 I).1;constructor
  ·simp [aW,bQ,this]
  ·intro h;simp [aW,bQ,this] at h;split at h <;> simp_all
def jR (r:Ro) (po:List Po):Int:=jJ (Hk r po) po.length
theorem xR {r:Ro} {s d t p:Value} (h:RR w r s d t p) (hd:DB r) (cO:r.de.length+r.ti.length<=1000000) (wb:W6 (r.lv-1)):aj T_ 146 [RA r s d t p] w (.q (jR r r.po)):=by
 obtain ⟨h1,h2,h3,h4⟩:=h.one;have hp:=h.po;obtain ⟨a,cp,b,o',rfl,dp,bY,ha,hc⟩:=hp;rw [c5] at *;unfold maxLen at bY;unfold RA;refine ah func146 I I ?_;refine Jr<|Jy I I fun _ _=>Ja I<|Ji<|ab (cK .here) I ?_;refine JN bz I (fun w1 aG=>Am (h.keeps aG.keeps) cO) ?_;intro bm _;dsimp only [id_eq,Zb,Za]
 (refine Ja I<|Ji<|ab (aU (.o I (.o I .nil)) ak) I<|Jz I I fun _ _=>an (.of I) (.of I) .here I I (gJ I I) (bG I) ak<|Jn<|Jq<|Jr<|bP I I ae<|JL I bF I<|JI I<|Jv I<|Jn<|J0 ?_)
 rename_i b1 tN _ b4 uQ
 refine a7 (ι:=Nat×Int×Int) (fun x=>x.1<=r.po.length/\(∀ i,i<x.1->Hk r r.po i=0)/\[x.2.1,x.2.2]=Fh r (if x.1=0 then none else r.po[x.1-1]?))
  (fun x=>[(19,.q (x.1:Nat)),(18,.q r.po.length),(17,.slice a r.po.length cp),(4,.p b4),(3,.map (some bm)),(2,.q 0),(1,.p b1)])
  (fun x=>[bo b4 (.cells #[.q x.2.1,.q x.2.2] 299 (0,0)),mp (fun s:ByteArray=>Value.string s) bm (nw r),JP b1 r s d t (.slice a r.po.length cp)])
  (fun x=>r.po.length-x.1) ?_ ?_
 ·apply aI (0,-1,-1) ⟨Zi _,fun i h=>by omega,I⟩
  case hs1=>exact cu
  case ht=>(try simp only [Ze,Zf,Za]);exact .h3 .nil
 rintro ⟨k,l0,l1⟩ ⟨hk,hz,hl⟩;dsimp only at hk hz hl ⊢;by_cases aN:k<r.po.length
 ·have cP:=ha (ku aN);obtain ⟨ia,aB⟩:=hc k _ (iE aN);unfold Po.cells at aB;have iF:=rL (r:=r) aN;obtain ⟨o1,o2,o3,one,e1,e2,e3,e4⟩:=Kk hd (r.po[k]).ou;obtain ⟨i1,i2,i3,two,q1,q2,q3,q4⟩:=Kk hd (r.po[k]).ip;obtain ⟨v1,v2⟩:=N8 e3 e4 q3 q4;unfold ke at e1 q1
  (refine Jr<|JA I<|Jn<|Jq<|Jd I fun ar=>Jk<|Jq<|J0<|Jr<|ab (fZ cP ar) I<|ab (iA (eV.base aB I)) I<|Jz I I fun _ _=>an (.of I) (.of I) .here I I (fq I I I) (bG I) ak<|Ji<|Jv I<|bP I I ae<|JL I .here I ?_)
  refine ab (nr (.of I) (.of I) (Looks.mp bF) e1) I ?_;rw [e2]
  (refine Jv I<|JJ I I<|JJ I I<|Jz I I fun _ _=>an (.of I) (.of I) .here I I (fq I I I) (bG I) ak<|Ja I<|Ji<|Jv I<|bP I I ae<|JL I (.there .here) I ?_)
  refine ab (nr (.of I) (.of I) (Looks.mp cA) q1) I ?_;rw [q2]
  (refine Jv I<|JJ I I<|JJ I I<|Jz I I fun _ _=>an (.of I) (.of I) .here I I (fq I I I) (bG I) ak<|Ja I<|Jn<|Jq<|Jq ?_)
  with_reducible refine cW 29 (by kernel_rfl) ?_
  (refine ao lf I<|ao (ie bF) I<|ao lf I<|ao (ie eG) I<|ao (z8 (.of I) (.of I) wb) I<|a8 eK I (fun w' aA=>(mH _ 0 _ w'))<|ao lX I<|ao (dX (.of I)) I<|ao lX I<|tj I I (fun hg bT=>(az (.of I) ae)) I<|tj I I (fun hg bT=>(ag (.cD hg I) (At.lit (.there .here) I))) I<|tj I I (fun hg bT=>(nq (.cD hg I) (.of I))) I<|ao (bC (.of I) I) I<|a8 ba I (fun w' aA=>(dO _ 10 w'))<|ao lX I<|ao (dX (.of I)) I<|ao lX I<|tj I I (fun hg bT=>(az (.of I) ae)) I<|tj I I (fun hg bT=>(ag (.cD hg I) (At.lit .here I))) I<|tj I I (fun hg bT=>(nq (.cD hg I) (.of I))) I<|ao (bC (.of I) I) I<|a8 ba I (fun w' aA=>(dO _ 10 w'))<|ao lf I<|ao (ie (.there .here)) I<|ao lf I<|ao (ie .here) I<|ao (gU (.of I) (.of I)) I<|a8 ba I (fun w' aA=>(dO _ 24 w'))<|eC (aC (.o I (.o I (.o I (.o I .nil)))) I I I I) I I ?_)
  with_reducible refine dw I fun bq nf=>?_
  (refine ai bz I (fun w' aA=>(dG (Mem.dh aA .here I I) (cm.cons (cm.cons (cm.cons (cm.cons cm.nil))))))<|Ja I<|Ji<|Jv I<|JD I<|Jn<|gB I (fun ar=>?_) fun ar=>?_;refine Jr<|Jv I<|Ja I<|Jn<|Ju<|Jm<|Jh<|Jh<|Jm<|Jh<|JT ?_;rotate_left;refine Jk<|Jr<|bP I I ae<|JL I cA I<|bP I I ae<|JL I bF I<|ab (aU (.o I (.o I .nil)) ak) I<|Jz I I fun _ _=>an (.of I) (.of I) .here I I (gJ I I) (bG I) ak<|Jn<|Jq<|Jq ?_;rotate_right)
  ·rw [v1] at ar ⊢;have hb:jR r r.po=my r r.po[k]:=(fg hz aN (by rw [iF,if_pos ar];exact ar)).trans (by rw [iF,if_pos ar]);rw [hb]
  rw [v1] at ar;have hE:my r r.po[k]=0:=Zq.1 ar;obtain ⟨g1,g2,g3⟩:=e3 (v2 hE);rename_i Mo aaR
  with_reducible refine ef 2 (by kernel_rfl) ?_
  (refine aO (yB (.of I)) I<|aO (yB (.of I)) I ?_)
  with_reducible refine er ?_
  skip
  with_reducible apply ai
  case hr=>exact ba
  case hd=>rfl
  case hc=>
   intro w' aA;have y1:Rd w' (.w Mo 2 2) 1 (ints [(r.po[k]).lv,o1]):=Mem.dh (b:=Mo) (cs:=[.q (r.po[k]).lv,.q o1]) aA (by exact .here) I I;have y2:Rd w' (.w b4 2 2) 1 (ints [l0,l1]):=Mem.dh (b:=b4) (cs:=[.q l0,.q l1]) aA eG I I;exact zd y1 y2
  rw [hE] at iF;rw [if_neg (by decide),<- g1,<- hl] at iF
  (refine JF I<|Jn<|gB I (fun ar=>?_) fun ar=>?_;refine Jr<|Ja I<|Jn<|Ju<|Jm<|Jh<|Jh<|Jm<|Jh<|JT ?_;rotate_left;refine Jk<|Jg<|ab (cK .here) I<|an (.of I) (.of I) eG I I (gJ I I) (bG I) ak<|Jx<|Jj<|Jt<|Jg<|JB I (by omega)<|Jv I<|Jn ?_;rotate_right)
  ·rw [if_pos ar] at iF;have hb:jR r r.po=11:=(fg hz aN (by rw [iF];decide)).trans iF;rw [hb]
  rw [if_neg ar] at iF;have KZ:∀ i,i<k+1->Hk r r.po i=0:=fun i hi=>by
   by_cases e:i=k
   ·rw [e];exact iF
   ·exact hz i (by omega)
  apply aL (k+1,(r.po[k]).lv,o1) ⟨show k+1<=r.po.length by omega,KZ,by
   show [(r.po[k]).lv,o1]=Fh r (if k+1=0 then none else r.po[k+1-1]?)
   rw [if_neg (by omega),ZaE,Zc aN,g1];rfl⟩ (show r.po.length-(k+1)<r.po.length-k by omega)
  case hs1=>exact cu
  case ht=>(try simp only [Ze,Zf,Za]);exact .h1 (.cons eG (.cons eG .nil))
 ·obtain rfl:k=r.po.length:=by omega
  have e:jR r r.po=0:=dV.2 hz;rw [e];refine Jr<|JA I<|Jn<|Jq<|Jc I fun ar=>Jp<|Jl<|Jo<|Jt<|Jr<|Ja I<|Jn<|Je<|JT ?_
  rfl
theorem Rn {r:Ro} {s d t p:Value} (x:Sr) {b1:Nat} {w:World} (h:RR w r s d t p) (hA:BR w b1 (RC r s d t p)) :
  aj T_ 135 [.agg x.cells.toArray,.p b1] w (.q (fj r x.mx)):=by
 obtain ⟨h1,h2,h3,h4⟩:=h.one;have kl:∀ (j:Nat) (u:Value),[Value.int .i64 r.lv,.int .i64 r.ma,s,d,t,p][j]? = some u->w.cell? ⟨b1,0+j,none⟩=some u:=hA;unfold Sr.cells;refine ah func135 I I ?_
 (refine Jr<|Jy I I fun _ _=>Ja I<|Ji<|ab (iA (eV.base kl I)) I<|bP I I ae<|JL I .here I ?_)
 refine ai ba I (fun w' aA=>Gf x.mx h) ?_;refine Ja I<|Jn<|Je<|JT ?_
 rfl
theorem Tu {r:Ro} {s d t p:Value} (x:De) {b1:Nat} {w:World} (h:RR w r s d t p) (hA:BR w b1 (RC r s d t p)) :
  aj T_ 137 [.agg x.cells.toArray,.p b1] w (.q (fj r x.mx)):=by
 obtain ⟨h1,h2,h3,h4⟩:=h.one;have kl:∀ (j:Nat) (u:Value),[Value.int .i64 r.lv,.int .i64 r.ma,s,d,t,p][j]? = some u->w.cell? ⟨b1,0+j,none⟩=some u:=hA;unfold De.cells;refine ah func137 I I ?_
 (refine Jr<|Jy I I fun _ _=>Ja I<|Ji<|ab (iA (eV.base kl I)) I<|bP I I ae<|JL I .here I ?_)
 refine ai ba I (fun w' aA=>Gf x.mx h) ?_;refine Ja I<|Jn<|Je<|JT ?_
 rfl
def j5 (r:Ro) (q:Int->Bool):Bool:=(List.range r.lv.toNat).any fun i=>q (i:Nat)
def nF (r:Ro):Int:=aW [gD r.lv 1 3,gD r.ma 1 4]
def jC (r:Ro):Int:=aW [eY 8 [] Sr.nm (fun x=>fj r x.mx) r.sr,eY 8 (cG r) De.nm (fun x=>fj r x.mx) r.de,eY 6 (cG r++bU r) Ti.nm (nk r) r.ti]
def AF (r:Ro):Int:=aW [bQ (j5 r fun v=>r.ti.any (MZ r v)) 33,bQ (j5 r fun v=>r.ti.any (Ku r v)) 32]
def ew (r:Ro):Int:=if nF r≠0 then nF r else if jC r≠0 then jC r else if jR r r.po≠0 then jR r r.po else AF r
theorem ck1 {r:Ro} (h:nF r≠0):ew r=nF r:=by unfold ew;rw [if_pos h]
theorem ck2 {r:Ro} (h1:nF r=0) (h:jC r≠0):ew r=jC r:=by unfold ew;rw [if_neg (by rw [h1];decide),if_pos h]
theorem ck3 {r:Ro} (h1:nF r=0) (h2:jC r=0) (h:jR r r.po≠0):ew r=jR r r.po:=by unfold ew;rw [if_neg (by rw [h1];decide),if_neg (by rw [h2];decide),if_pos h]
theorem ck4 {r:Ro} (h1:nF r=0) (h2:jC r=0) (h3:jR r r.po=0):ew r=AF r:=by unfold ew;rw [if_neg (by rw [h1];decide),if_neg (by rw [h2];decide),if_neg (by rw [h3];decide)]
theorem X1 {r:Ro} (h:eY 8 [] Sr.nm (fun x=>fj r x.mx) r.sr≠0):jC r=eY 8 [] Sr.nm (fun x=>fj r x.mx) r.sr:=by unfold jC aW;rw [if_pos h]
theorem X0 {r:Ro} (h1:eY 8 [] Sr.nm (fun x=>fj r x.mx) r.sr=0) (h:eY 8 (cG r) De.nm (fun x=>fj r x.mx) r.de≠0):jC r=eY 8 (cG r) De.nm (fun x=>fj r x.mx) r.de:=by unfold jC aW aW;rw [if_neg (by rw [h1];decide),if_pos h]
theorem Xd {r:Ro} (h1:eY 8 [] Sr.nm (fun x=>fj r x.mx) r.sr=0) (h2:eY 8 (cG r) De.nm (fun x=>fj r x.mx) r.de=0):jC r=aW [eY 6 (cG r++bU r) Ti.nm (nk r) r.ti]:=by unfold jC;rw [aW,if_neg (by rw [h1];decide),aW,if_neg (by rw [h2];decide)]
theorem rI {α:Type} {nY:Int} {bf:List ByteArray} {nm:α->ByteArray} {ck:α->Int} {l:List α} (hb:bf.Nodup) (h:eY nY bf nm ck l=0):(bf++l.map nm).Nodup/\(l.length:Int)<=nY/\∀ x∈l,ck x=0:=by
 unfold eY at h;split at h
 ·cases h
 rename_i hl;rw [dV] at h;have hk:∀ k,k<=l.length->(bf++(l.take k).map nm).Nodup/\∀ x∈l.take k,ck x=0:=by
  intro k
  induction k with
  | zero=>intro _;simpa using hb
  | succ k ih =>
   intro hk;obtain ⟨i1,i2⟩:=ih (by omega);have:=h k (by omega);rw [nu (by omega)] at this;rw [bS] at this;have h9:fv (bf++(l.take k).map nm) (nm l[k])=false/\ck l[k]=0:=⟨(bI (show (9:Int)≠0 by decide)).1 (this _ (ZW _ Zr)),this _ (ZW _ (ZW _ Zr))⟩;rw [Zn (by omega),Zt,<- Zh];refine ⟨?_,?_⟩
   ·rw [ZB];refine ⟨i1,by simp,fun x hx y hy e=>?_⟩;rw [ZZ,Zf,ZE] at hy;subst hy;subst e;rw [dZ.2 hx] at h9;cases h9.1
   ·intro x hx;rcases Zv.1 hx with hx | hx
    ·exact i2 x hx
    ·rw [ZE.1 hx];exact h9.2
 have:=hk _ (Zz _);rw [ZL] at this;exact ⟨this.1,by omega,this.2⟩
theorem An {r:Ro} (h:jC r=0):DB r/\(r.sr.length<=8/\r.de.length<=8/\r.ti.length<=6)/\(∀ x∈r.sr,fj r x.mx=0)/\(∀ x∈r.de,fj r x.mx=0)/\∀ x∈r.ti,nk r x=0:=by
 unfold jC at h;have h3:eY 8 [] Sr.nm (fun x=>fj r x.mx) r.sr=0/\eY 8 (cG r) De.nm (fun x=>fj r x.mx) r.de=0/\eY 6 (cG r++bU r) Ti.nm (nk r) r.ti=0:=by
  rw [bS] at h;exact ⟨h _ (by simp),h _ (by simp),h _ (by simp)⟩
 obtain ⟨h4,h5,h6⟩:=rI Zao h3.1;rw [Za] at h4;obtain ⟨h7,h8,h9⟩:=rI (show (cG r).Nodup from h4) h3.2.1;obtain ⟨g7,g8,g9⟩:=rI (show (cG r++bU r).Nodup from h7) h3.2.2;exact ⟨⟨g7⟩,⟨by omega,by omega,by omega⟩,h6,h9,g9⟩
theorem vR {r:Ro} (h:nF r=0):1<=r.lv/\r.lv<=3/\1<=r.ma/\r.ma<=4:=by
 unfold nF at h;rw [bS] at h;have h1:=gC.1 (h _ (Zr));have h2:=gC.1 (h _ (ZW _ Zr));omega
theorem dR {r:Ro} {s d t p:Value} (h:RR w r s d t p) (cO:r.sr.length<=300/\r.de.length<=300/\r.ti.length<=300):aj T_ 34 [RA r s d t p] w (.q (ew r)):=by
 obtain ⟨h1,h2,h3,h4⟩:=h.one;unfold RA;refine ah func34 I I ?_;refine Jr<|Jy I I fun _ _=>Ja I<|Jn<|Jq<|Jq ?_;rename_i b1 tN
 with_reducible refine cW 7 (by kernel_rfl) ?_
 (refine ao lf I<|ao (ie .here) I<|a8 eK I (fun w' aA=>(mH _ 1 3 w'))<|ao lf I<|ao (ie .here) I<|a8 eK I (fun w' aA=>(mH _ 1 4 w'))<|eC (aC (.o I (.o I .nil)) I I I I) I I ?_)
 with_reducible refine dw I fun bq nf=>?_
 (refine ai bz I (fun w' aA=>(dG (Mem.dh aA .here I I) (cm.cons (cm.cons cm.nil))))<|Ja I<|Ji<|Jv I<|JD I<|Jn<|gB I (fun ar=>?_) fun ar=>?_;refine Jr<|Jv I<|Ja I<|Jn<|Ju<|JT ?_;rotate_left;refine Jk<|Jr<|ab (bD .nil (.o I .nil)) I<|Ja I<|Ji<|ab (bD .nil (.o I .nil)) I<|Ja I<|Jn<|Jq<|Jr<|bP I I ae<|JL I (.there .here) I<|Jv I ?_;rotate_right)
 ·exact congrArg (Value.int .i64) (ck1 ar).symm
 have pT:nF r=0:=Zq.1 ar;have hl:=vR pT;clear ar;have Ld:∀ w',Rd w' (.z) 1 (fX []):=fun w'=>⟨none,0,0,0,I,by simp [fX],by unfold maxLen;omega,fun h=>absurd I h,fun i r hr=>by simp [fX] at hr⟩
 with_reducible apply ai
 case hr=>exact MG
 case hd=>rfl
 case hc=>
  intro w' aA;have hA:BR w' b1 [.q r.lv,.q r.ma,s,d,t,p]:=BR.of aA (by exact Take.there .here);have hR:=h.keeps aA.keeps;exact Dk (bf:=[]) 8 (f2:=135) (first2:=[]) (cap:=[.p b1]) hR.sr (Ld _) (by rw [Zaj];omega) (fun x _ w2 _=>Kz x w2) (fun x _ w2 eM=>Rn x (hR.keeps eM) (hA.keeps eM))
 (refine Ja I<|Ji<|Jv I<|JD I<|Jn<|gB I (fun ar=>?_) fun ar=>?_;refine Jr<|Jv I<|Ja I<|Jn<|Ju<|JT ?_;rotate_left;refine Jk<|Jr<|bP I I ae<|JL I (.there .here) I ?_;rotate_right)
 ·have hp:=X1 ar;rw [<- hp] at ar ⊢;exact congrArg (Value.int .i64) (ck2 pT ar).symm
 have p1:eY 8 [] Sr.nm (fun x=>fj r x.mx) r.sr=0:=Zq.1 ar
 clear ar;have q1:=rI Zao p1;refine JN ba I (fun w1 aG=>Oq (f:=139) (first:=[]) (cap:=[]) (g:=Sr.nm) (h.keeps aG.keeps).sr (by omega) (fun x _ w2 _=>Kz x w2)) ?_
 intro nv _;dsimp only [id_eq,Zb,Za];refine aY (by exact .here) fun na nc e=>?_;subst e
 (refine Ja I<|Jn<|Jq<|Jr<|bP I I ae<|JL I bF I<|Jv I<|Jv I ?_)
 with_reducible apply ai
 case hr=>exact MG
 case hd=>rfl
 case hc=>
  intro w' aA;have hA:BR w' b1 [.q r.lv,.q r.ma,s,d,t,p]:=BR.of aA bF;have hR:=h.keeps aA.keeps;have hN:Rd w' (.slice na r.sr.length nc) 1 (fX (r.sr.map Sr.nm)):=dz aA (by exact .here) (by rw [Zd]);exact Dl (bf:=cG r) 8 (f2:=137) (first2:=[]) (cap:=[.p b1]) hR.de hN (by unfold cG;rw [Zd];omega) (fun x _ w2 _=>ED x w2) (fun x _ w2 eM=>Tu x (hR.keeps eM) (hA.keeps eM))
 (refine Ja I<|Ji<|Jv I<|JD I<|Jn<|gB I (fun ar=>?_) fun ar=>?_;refine Jr<|Jv I<|Ja I<|Jn<|Ju<|JT ?_;rotate_left;refine Jk<|Jr<|Jv I<|bP I I ae<|JL I bF I ?_;rotate_right)
 ·have hp:=X0 p1 ar;rw [<- hp] at ar ⊢;exact congrArg (Value.int .i64) (ck2 pT ar).symm
 have p2:eY 8 (cG r) De.nm (fun x=>fj r x.mx) r.de=0:=Zq.1 ar
 clear ar;have q2:=rI (show (cG r).Nodup from q1.1) p2;refine JN ba I (fun w1 aG=>F0 (f:=124) (first:=[]) (cap:=[]) (g:=De.nm) (h.keeps aG.keeps).de (by omega) (fun x _ w2 _=>ED x w2)) ?_
 intro dv _;dsimp only [id_eq,Zb,Za];refine aY (by exact .here) fun da dc e=>?_;subst e;refine bu (aC (.o I (.o I .nil)) I I I I) I (fun _ _=>?_);rename_i bq2 ahQ
 with_reducible apply jy
 case hr=>exact bz
 case hd=>rfl
 case ht=>exact bj.nil
 case hc=>
  intro w1 fp aG _ hs1;obtain rfl:fp=[]:=hs1;have hN:Rd w1 (.slice na r.sr.length nc) 1 (fX (r.sr.map Sr.nm)):=dz aG bF (by rw [Zd]);have hD:Rd w1 (.slice da r.de.length dc) 1 (fX (r.de.map De.nm)):=dz aG (by exact Take.there .here) (by rw [Zd])
  exact HV (vs:=[.slice na r.sr.length nc,.slice da r.de.length dc]) (ess:=[r.sr.map Sr.nm,r.de.map De.nm]) (Mem.dh (b:=bq2) aG (by exact .here) I I) I
   (fun i v es hv he=>by
    match i,hv,he with
    | 0,hv,he=>cases hv;cases he;exact hN
    | 1,hv,he=>cases hv;cases he;exact hD) (by simp;omega)
 intro av _;dsimp only [id_eq,Zb,Za]
 (refine Ja I<|Jn<|Jq<|Jr<|bP I I ae<|JL I eG I<|Jv I<|ab (cK eG) I<|ab (bD (.o I .nil) .nil) I ?_)
 have sX:[r.sr.map Sr.nm,r.de.map De.nm].flatten=cG r++bU r:=by simp [cG,bU]
 with_reducible apply ai
 case hr=>exact MG
 case hd=>rfl
 case hc=>
  intro w' aA;have hR:=h.keeps aA.keeps;have hB:Rd w' av 1 (fX [r.sr.map Sr.nm,r.de.map De.nm].flatten):=aA.qm (by exact .here) I (IN _) (by rw [bX]);rw [sX] at hB;exact Dj (bf:=cG r++bU r) 6 (f2:=145) (first2:=[RA r s d t p]) (cap:=[]) hR.ti hB (by unfold cG bU;rw [Zg,Zd,Zd];omega) (fun x _ w2 _=>Ky x w2) (fun x _ w2 eM=>PC x h)
 (refine bu (aC (.o I .nil) I I I I) I fun _ _=>ai bz I (fun w' aA=>(dG (Mem.dh aA .here I I) (cm.cons cm.nil)))<|Ja I<|Ji<|Jv I<|JD I<|Jn<|gB I (fun ar=>?_) fun ar=>?_;refine Jr<|Jv I<|Ja I<|Jn<|Ju<|JT ?_;rotate_left;refine Jk<|Jq<|Jr<|ab (cK kU) I ?_;rotate_right)
 ·have hp:jC r≠0:=by rw [Xd p1 p2];exact ar
  exact congrArg (Value.int .i64) ((Xd p1 p2).symm.trans (ck2 pT hp).symm)
 have OU:jC r=0:=by rw [Xd p1 p2];exact Zq.1 ar
 obtain ⟨jZ,hlen,-⟩:=An OU;clear ar;refine ai bz I (fun w' aA=>xR (h.keeps aA.keeps) jZ (by omega) (by unfold W6;omega)) ?_
 (refine Ja I<|Ji<|Jv I<|JD I<|Jn<|gB I (fun ar=>?_) fun ar=>?_;refine Jr<|Jv I<|Ja I<|Jn<|Ju<|JT ?_;rotate_left;refine Jk<|Jq ?_;rotate_right)
 ·exact congrArg (Value.int .i64) (ck3 pT OU ar).symm
 have SG:jR r r.po=0:=Zq.1 ar;clear ar;rw [ck4 pT OU SG];have V7:∀ w',aK [] w w'->aj T_ 148 [.agg #[.q r.lv,.q r.ma,s,d,t,p],.func (.func 149) #[.agg #[.q r.lv,.q r.ma,s,d,t,p]] #[]] w' (.bool (j5 r fun v=>r.ti.any (MZ r v))):=fun w' hk=>
  Q0 (f:=149) (first:=[RA r s d t p]) (cap:=[]) h (by omega) (fun v _ _ w2 eM=>Px v ((h.keeps hk).keeps eM) (by omega))
 have V6:∀ w',aK [] w w'->aj T_ 148 [.agg #[.q r.lv,.q r.ma,s,d,t,p],.func (.func 150) #[.agg #[.q r.lv,.q r.ma,s,d,t,p]] #[]] w' (.bool (j5 r fun v=>r.ti.any (Ku r v))):=fun w' hk=>
  Q0 (f:=150) (first:=[RA r s d t p]) (cap:=[]) h (by omega) (fun v _ _ w2 eM=>R4 v ((h.keeps hk).keeps eM))
 with_reducible refine cW 11 (by kernel_rfl) ?_
 (refine ao (cK kU) I<|ao (cK kU) I<|ao (bD (.o I .nil) .nil) I<|a8 ba I (fun w' aA=>(V7 w' (Mem.keeps aA)))<|a8 ba I (fun w' aA=>(dO _ 33 w'))<|ao (cK kU) I<|ao (cK kU) I<|ao (bD (.o I .nil) .nil) I<|a8 ba I (fun w' aA=>(V6 w' (Mem.keeps aA)))<|a8 ba I (fun w' aA=>(dO _ 32 w'))<|eC (aC (.o I (.o I .nil)) I I I I) I I ?_)
 with_reducible refine dw I fun bq nf=>?_
 (refine ai bz I (fun w' aA=>(dG (Mem.dh aA .here I I) (cm.cons (cm.cons cm.nil))))<|Ja I<|Jn<|Je<|JT ?_)
 rfl
theorem CQ {α:Type} (nm:α->ByteArray) (l:List α) (s:ByteArray):fU (fun x=>decide (nm x=s)) l=bA (l.map nm) s:=by
 rcases pS (fun x=>decide (nm x=s)) l with ⟨e1,e2⟩ | ⟨i,hi,e1,e2⟩
 ·rw [e1];refine (AX fun j hj e=>?_).symm;rw [ZaF] at e2;rw [Z0] at e;exact e2 _ (Zj _) (by simpa using e)
 ·rw [e1];rw [ZaA] at e2;obtain ⟨hp,k,hk,he,hb⟩:=e2;have Xx:i=k:=by
   have h1:fU (fun x=>decide (nm x=s)) l=(k:Nat):=gG (fun j hj=>by
    rw [Zc (by omega)];have:=hb j hj;simpa using this) hk (by rw [he];exact hp)
   rw [e1] at h1
   exact_mod_cast h1
  subst Xx;refine (qL (by rw [Zd];exact hi) (by rw [Z0];simpa using hp) fun j hj e=>?_).symm;rw [Z0] at e;have:=hb j hj;simp [e] at this
theorem Tt (x:De) (o:ByteArray) {b2:Nat} {w:World} (f2:w.cell? ⟨b2,0,none⟩=some (.string o)) :
  aj T_ 243 [.agg x.cells.toArray,.p b2] w (.bool (decide (x.nm=o))):=by
 unfold De.cells;refine ah func243 I I ?_
 (refine Jr<|Jy I I fun _ _=>Ja I<|Ji<|bP I I ae<|JL I .here I<|ab (ag (.of I) (At.base f2 I)) I<|ab (ei (.of I) (.of I)) I<|Ja I<|Jn<|Je<|JT ?_)
 rfl
theorem Rm (x:Sr) (o:ByteArray) {b2:Nat} {w:World} (f2:w.cell? ⟨b2,0,none⟩=some (.string o)) :
  aj T_ 264 [.agg x.cells.toArray,.p b2] w (.bool (decide (x.nm=o))):=by
 unfold Sr.cells;refine ah func264 I I ?_
 (refine Jr<|Jy I I fun _ _=>Ja I<|Ji<|bP I I ae<|JL I .here I<|ab (ag (.of I) (At.base f2 I)) I<|ab (ei (.of I) (.of I)) I<|Ja I<|Jn<|Je<|JT ?_)
 rfl
theorem fS {r:Ro} {s d t p:Value} (o:ByteArray) {w:World} (h:RR w r s d t p):aj T_ 155 [RA r s d t p,.string o] w (.q (bA (bU r) o)):=by
 obtain ⟨h1,h2,h3,h4⟩:=h.one;unfold RA;refine ah func155 I I ?_
 (refine Jr<|Jy I I fun _ _=>Jy I I fun _ _=>Ja I<|Ji<|bP I I ae<|JL I (.there .here) I<|ab (bD .nil (.o I .nil)) I ?_)
 rename_i b3 uR b4 uQ
 with_reducible apply ai
 case hr=>exact ba
 case hd=>rfl
 case hc=>
  intro w' aA;have f2:w'.cell? ⟨b4,0,none⟩=some (.string o):=At.lit (by exact .here) I w' aA
  exact OJ (f:=243) (p:=fun x=>decide (x.nm=o)) (first:=[]) (cap:=[.p b4]) (h.keeps aA.keeps).de
   (fun x hx w2 eM=>Tt x o (cE f2 I eM))
 rw [CQ];refine Ja I<|Jn<|Je<|JT ?_
 rfl
theorem oE {r:Ro} {s d t p:Value} (o:ByteArray) {w:World} (h:RR w r s d t p):aj T_ 180 [RA r s d t p,.string o] w (.q (bA (cG r) o)):=by
 obtain ⟨h1,h2,h3,h4⟩:=h.one;unfold RA;refine ah func180 I I ?_
 (refine Jr<|Jy I I fun _ _=>Jy I I fun _ _=>Ja I<|Ji<|bP I I ae<|JL I (.there .here) I<|ab (bD .nil (.o I .nil)) I ?_)
 rename_i b3 uR b4 uQ
 with_reducible apply ai
 case hr=>exact ba
 case hd=>rfl
 case hc=>
  intro w' aA;have f2:w'.cell? ⟨b4,0,none⟩=some (.string o):=At.lit (by exact .here) I w' aA
  exact Ga (f:=264) (p:=fun x=>decide (x.nm=o)) (first:=[]) (cap:=[.p b4]) (h.keeps aA.keeps).sr
   (fun x hx w2 eM=>Rm x o (cE f2 I eM))
 rw [CQ];refine Ja I<|Jn<|Je<|JT ?_
 rfl
def DH (r:Ro) (v:Int):Int:=gD v 0 (IntKind.i64.wrap (r.lv-1))
def mB (r:Ro) (o:ByteArray):Int:=bQ (decide (bA (bU r) o<0)) 10
def Rq (r:Ro) (o:ByteArray):Int:=bQ (decide (bA (cG r) o<0)) 10
theorem kS {r:Ro} {s d t p:Value} (v:Int) {w w1:World} (h:RR w1 r s d t p):aj T_ 114 [RA r s d t p,.q v] w (.q (DH r v)):=by
 obtain ⟨h1,h2,h3,h4⟩:=h.one;unfold RA;refine ah func114 I I ?_
 (refine Jr<|Jy I I fun _ _=>Ja I<|Ji<|Jv I<|bP I I ae<|JL I .here I ?_)
 refine ab (NV (.of I) (.of I)) I ?_
 (refine ai eK I (fun w' aA=>(mH v 0 _ w'))<|Ja I<|Jn<|Je<|JT ?_)
 rfl
theorem dY {r:Ro} {s d t p:Value} (o:ByteArray) {w:World} (h:RR w r s d t p):aj T_ 112 [RA r s d t p,.string o] w (.q (mB r o)):=by
 obtain ⟨h1,h2,h3,h4⟩:=h.one;have xM:∀ w',aK [] w w'->aj T_ 155 [.agg #[.int .i64 r.lv,.int .i64 r.ma,s,d,t,p],.string o] w' (.int .i64 (bA (bU r) o)):=fun w' hk=>fS o (h.keeps hk)
 unfold RA;refine ah func112 I I ?_
 (refine Jr<|Jy I I fun _ _=>Ja I<|Ji<|ab (cK .here) I<|Jv I<|ai ba I (fun w' aA=>(xM w' (Mem.keeps aA)))<|JA I<|ai ba I (fun w' aA=>(dO _ 10 w'))<|Ja I<|Jn<|Je<|JT ?_)
 rfl
theorem qt {r:Ro} {s d t p:Value} (o:ByteArray) {w:World} (h:RR w r s d t p):aj T_ 122 [RA r s d t p,.string o] w (.q (Rq r o)):=by
 obtain ⟨h1,h2,h3,h4⟩:=h.one;have hsrc:∀ w',aK [] w w'->aj T_ 180 [.agg #[.int .i64 r.lv,.int .i64 r.ma,s,d,t,p],.string o] w' (.int .i64 (bA (cG r) o)):=fun w' hk=>oE o (h.keeps hk)
 unfold RA;refine ah func122 I I ?_
 (refine Jr<|Jy I I fun _ _=>Ja I<|Ji<|ab (cK .here) I<|Jv I<|ai ba I (fun w' aA=>(hsrc w' (Mem.keeps aA)))<|JA I<|ai ba I (fun w' aA=>(dO _ 10 w'))<|Ja I<|Jn<|Je<|JT ?_)
 rfl
def bH (r:Ro) (o:ByteArray):List ByteArray:=(List.range r.lv.toNat).map fun (v:Nat)=>k8 r v o
theorem wi {r:Ro} {s d t p:Value} (o:ByteArray) {w:World} (h:RR w r s d t p) (wb:r.lv<=1000) (cO:r.ti.length<=1000000):bb T_ 113 [RA r s d t p,.string o] w [] (fun _:Value=>True) id (fun v=>[row 9 1 v r.lv.toNat (aJ (bH r o))]):=by
 obtain ⟨h1,h2,h3,h4⟩:=h.one;unfold RA;refine aT func113 I I ?_
 (refine Jr<|Jy I I fun _ _=>Ja I<|Ji<|Ja I<|Jn<|Jq<|Jr<|bP I I ae<|JL I .here I<|Jv I<|Jn<|J0 ?_)
 rename_i b2 tM;refine aP 9 1 ?_
 refine a7 (ι:=Nat×Value) (fun x=>x.1<=r.lv.toNat)
  (fun x=>[(9,.q (x.1:Nat)),(8,.q r.lv),(5,x.2),(2,.p b2),(1,.string o)])
  (fun x=>[row 9 1 x.2 x.1 (aJ ((bH r o).take x.1)),JP b2 r s d t p]) (fun x=>r.lv.toNat-x.1) ?_ ?_
 ·apply aI (0,.z) (Zi _)
  case hs1=>exact cu
  case ht=>
   exact .h2 .nil
 rintro ⟨k,v⟩ hk;dsimp only at hk ⊢;by_cases aN:k<r.lv.toNat
 ·have Gc:((k:Nat):Int)<r.lv:=by omega
  have htk:(bH r o).take (k+1)=(bH r o).take k++[k8 r (k:Nat) o]:=by
   unfold bH;rw [Zn (by simpa using aN)];simp
  have bh:aJ ((bH r o).take (k+1))=aJ ((bH r o).take k)++[.string (k8 r (k:Nat) o)]:=by rw [htk,fw];rfl
  have hlen:(aJ ((bH r o).take k)).length=k*1:=by
   rw [dq,Zs];unfold bH;rw [Zd,ZaM];omega
  (refine Jr<|JA I<|Jn<|Jq<|Jd I fun ar=>Jk<|Jq<|J0<|Jr<|Jv I<|Ja I<|Jn<|Jg<|Jv I<|ab (cK (.there .here)) I<|Jv I<|Jv I ?_)
  refine ai eK I (fun w' aA=>pY (s:=s) (d:=d) (t:=t) (p:=p) (k:Nat) o (h.keeps aA.keeps) cO) ?_;refine bu (aC (.o I .nil) I I I I) I (fun _ _=>?_);refine bK (.of I) (.of I) (.there .here) .here ak (by rfl) (eL I) (by rfl) (by rfl) (by rfl) fa (by rfl) ?_;intro v';refine Ja I<|Jx<|Jj<|Jt<|Jg<|JB I (by omega)<|Jv I<|Jn ?_;apply aL (k+1,v') (by show k+1<=r.lv.toNat;omega) (by show r.lv.toNat-(k+1)<r.lv.toNat-k;omega)
  case hs1=>exact cu
  case ht=>
   show bj _ [row 9 1 v' (k+1) (aJ ((bH r o).take (k+1))),JP b2 r s d t p] _;rw [bh];exact .h1 (.cons (.there .here) .nil)
 ·have e:k=r.lv.toNat:=by omega
  subst e;have htk:(bH r o).take r.lv.toNat=bH r o:=Zae (by unfold bH;simp);rw [htk];refine Jr<|JA I<|Jn<|Jq<|Jc I fun ar=>Jp<|Jl<|Jo<|Jt<|Jr<|Jv I<|Ja I<|Jn<|Je ?_
  with_reducible first|apply aR|apply aS
  case he=>exact dH I I
  case hR=>
   intro w' aA;exact aD v trivial (by exact .h1 .nil) aA I
theorem qS {r:Ro} {s d t p:Value} (v:Int) (o:ByteArray) {w:World} (h:RR w r s d t p):aj T_ 121 [RA r s d t p,.q v,.string o] w (.bool (ig r.po v o)):=by
 obtain ⟨h1,h2,h3,h4⟩:=h.one;unfold RA;refine ah func121 I I ?_
 (refine Jr<|Jy I I fun _ _=>Ja I<|Ji<|ab (cK .here) I<|Jv I<|Jv I ?_)
 refine ai eK I (fun w' aA=>AK (s:=s) (d:=d) (t:=t) (p:=p) v o (h.keeps aA.keeps)) ?_;refine Jv I<|JJ I I<|JJ I I<|Ja I<|Ja I<|Ji<|Jv I<|Ja I<|Jn<|Je<|JT ?_
 rfl
def kE (r:Ro):Prop:=r.sr.length<=300/\r.de.length<=300/\r.ti.length<=300
theorem mC {r:Ro} (h:ew r=0):nF r=0/\jC r=0/\jR r r.po=0/\AF r=0:=by
 unfold ew at h;by_cases h1:nF r=0
 ·rw [if_neg (by rw [h1];decide)] at h;by_cases h2:jC r=0
  ·rw [if_neg (by rw [h2];decide)] at h;by_cases h3:jR r r.po=0
   ·rw [if_neg (by rw [h3];decide)] at h;exact ⟨h1,h2,h3,h⟩
   ·rw [if_pos h3] at h;exact absurd h h3
  ·rw [if_pos h2] at h;exact absurd h h2
 ·rw [if_pos h1] at h;exact absurd h h1
def CY (r:Ro) (o:ByteArray):Int:=aW [ew r,mB r o]
def ET (r:Ro) (o:ByteArray):List ByteArray:=if CY r o≠0 then [] else bH r o
theorem TN {r:Ro} {s d t p:Value} (o:ByteArray) {w:World} (h:RR w r s d t p) (cO:kE r):bb T_ 20 [RA r s d t p,.string o] w [] (fun _:Value=>True) (fun v=>.tuple #[v,.q (CY r o)]) (fun v=>[row 9 1 v (ET r o).length (aJ (ET r o))]):=by
 obtain ⟨h1,h2,h3,h4⟩:=h.one;have dD:∀ w',aK [] w w'->aj T_ 34 [.agg #[.int .i64 r.lv,.int .i64 r.ma,s,d,t,p]] w' (.int .i64 (ew r)):=fun w' hk=>dR (h.keeps hk) cO
 have lR:∀ w',aK [] w w'->aj T_ 112 [.agg #[.q r.lv,.q r.ma,s,d,t,p],.string o] w' (.q (mB r o)):=fun w' hk=>dY o (h.keeps hk)
 unfold RA;refine aT func20 I I ?_;refine Jr<|Jy I I fun _ _=>Ja I<|Ja I<|Jn<|Jq<|Jq ?_;rename_i b2 tM
 with_reducible refine cW 6 (by kernel_rfl) ?_
 (refine ao (cK .here) I<|a8 bz I (fun w' aA=>(dD w' (Mem.keeps aA)))<|ao (cK .here) I<|ao lX I<|a8 ba I (fun w' aA=>(lR w' (Mem.keeps aA)))<|eC (aC (.o I (.o I .nil)) I I I I) I I ?_)
 with_reducible refine dw I fun bq nf=>?_
 (refine ai bz I (fun w' aA=>(dG (Mem.dh aA .here I I) (cm.cons (cm.cons cm.nil))))<|Ja I<|Ji<|Jv I<|JD I<|Jn<|gB I (fun ar=>?_) fun ar=>?_;refine Jr<|Jv I<|Ja I<|Ja I<|Jn<|Ju ?_;rotate_left;refine Jk<|Jr<|ab (cK (.there .here)) I<|Jv I ?_;rotate_right)
 ·have e1:ET r o=[]:=if_pos ar;rw [e1];refine aP 9 1 ?_
  with_reducible first|apply aR|apply aS
  case he=>exact gq I I I
  case hR=>
   intro w' aA;exact aD (.z) trivial (by exact .h1 .nil) aA I
 have e1:ET r o=bH r o:=if_neg ar;have e0:aW [ew r,mB r o]=0:=Zq.1 ar;have e2:CY r o=0:=e0;have hl:=vR (mC (bS.1 e0 _ Zr)).1;have hn:(bH r o).length=r.lv.toNat:=by unfold bH;simp
 rw [e1,e2,hn];refine JN ba I (fun w1 aG=>wi o (h.keeps aG.keeps) (by omega) (by have:=cO.2.2;omega)) ?_;intro v _;dsimp only [id_eq,Zb,Za];refine Ja I<|Ja I<|Jn<|Je ?_
 with_reducible first|apply aR|apply aS
 case he=>exact gq I I I
 case hR=>
  intro w' aA;exact aD v trivial (by exact .h1 .nil) aA I
end Go.Proofs.A1
namespace Go.SL
open Go
section
variable {P:Program} {c:Cx} {D:List Nat} {sl:aH} {hs hs':List bd} {ty:TypeId} {pos:String} {af:Array Edge} {r:Option Nat} {ops:Array Oper} {Q:Exit->Act->World->Prop} {rest:List Oper}
theorem zl (zs:List Value) (n:Nat):Builtin.zeroCells zs.toArray n=((List.replicate n zs).flatten).toArray:=by
 unfold Builtin.zeroCells;apply Array.ext
 ·simp
 ·intro i h1 h2;have hi:i<n*zs.length:=by simpa using h1
  have hz:0<zs.length:=by
   rcases Nat.eq_zero_or_pos zs.length with e | e
   ·rw [e] at hi;omega
   ·exact e
  have hm:i % zs.length<zs.length:=Nat.mod_lt _ hz;have sX:∀ (n i:Nat) (h:i<(List.replicate n zs).flatten.length),(List.replicate n zs).flatten[i]=zs[i % zs.length]'(Nat.mod_lt _ hz):=by
   intro n
   induction n with
   | zero=>intro i h;simp at h
   | succ n ih =>
    intro i h;have e:(List.replicate (n+1) zs).flatten=zs++(List.replicate n zs).flatten:=by simp [List.replicate_succ]
    rw [List.getElem_of_eq e];by_cases hl:i<zs.length
    ·rw [ZaC hl];congr 1;exact (Nat.mod_eq_of_lt hl).symm
    ·rw [Zar (by omega),ih];congr 1;exact (Nat.mod_eq_sub_mod (by omega)).symm
  have:=sX n i (by simpa using hi);rw [show (List.replicate n zs).flatten.toArray[i]=(List.replicate n zs).flatten[i]'(by simpa using hi) from I,this];simp [hm]
theorem BV {t e:TypeId} {x:Operand} {g o n cap:Nat} {E:TypeId} {cs zs:List Value} {z:Value} [hu:ij P t (.slice e)] [hZ:lU P e z]
  (hx:Is sl x (.slice (some ⟨g,o,none⟩) n cap)) (ht:Take hs (bo g (.cells cs.toArray E (0,0))) hs') (hz:z.cells=zs.toArray) (h1:∀ u∈zs,u.oneCell'=true) (hfit:o+n*zs.length<=cs.length)
  (k:Tr c D sl (bo g (.cells (setCells cs o (List.replicate n zs).flatten).toArray E (0,0))::hs') (WL P r ops Q rest)) :
  Tr c D sl hs (WL P r ops Q (⟨none,.call ⟨.builtin .clear,#[x],#[t]⟩,ty,pos,af,none⟩::rest)):=fun a w bh=>by
 have hm:=bh.mem.take (ht.append _);have hg:w.heap[g]? = some (.cells cs.toArray E (0,0)):=hm.bo .here;obtain ⟨w',h3,h4,h5⟩:=gR (P:=P) (o:=o) (List.replicate n zs).flatten 0 cs w hg (fun u hu=>by
  obtain ⟨l,hl,Su⟩:=ZbE.1 hu;rw [List.eq_of_mem_replicate hl] at Su;exact h1 u Su) (by
  have:(List.replicate n zs).flatten.length=n*zs.length:=by simp
  omega)
 refine lY I ⟨dQ _ _ _ _ _,?_⟩;rw [Oper.semAt_eq _ _ _ (by simp)];have:(execOp a.eval ⟨none,.call ⟨.builtin .clear,#[x],#[t]⟩,ty,pos,af,none⟩).run P w=.ok (.value (.tuple #[])) w':=by
  cases n with
  | zero =>
   simp [execOp,resolve,invoke,builtin,hx a bh.cZ,Builtin.clear_,aV hu.eq];simpa [storeCells] using h3
  | succ n =>
   simp [execOp,resolve,invoke,builtin,hx a bh.cZ,Builtin.clear_,aV hu.eq,iC (t:=e) (v:=z),hz,zl];simp [h3]
 rw [this];have k6:=Mem.store hm h4 h5;exact k _ _ (bh.heap k6)
end
end Go.SL
namespace Go.SL
open Go
section
variable {α:Type} {f:α->List Value} {sz:Nat}
theorem iQ (hf:∀ x,(f x).length=sz) (l:List α):(l.map f).flatten.length=l.length*sz:=by
 rw [fC (sz:=sz) (fun r hr=>by obtain ⟨x,_,rfl⟩:=Zo.1 hr;exact hf x),Zd]
theorem r7 (hf:∀ x,(f x).length=sz) {l:List α} {i:Nat} (h:i<l.length) (cur:List Value):eo ((l.map f).flatten++cur) (i*sz) sz=f l[i]:=by
 have hl:l=l.take i++l[i]::l.drop (i+1):=by rw [<- Zu h,ZV]
 have e:(l.map f).flatten=((l.take i).map f).flatten++(f l[i]++((l.drop (i+1)).map f).flatten):=
  (congrArg (fun m=>(List.map f m).flatten) hl).trans (by simp only [Zt,Zad,ZZ,Zam])
 have hk:((l.take i).map f).flatten.length=i*sz:=by rw [iQ hf,ZaI (by omega)]
 rw [jl,e,Zh,<- hk,List.drop_append_of_le_length (by omega),Z7,Za,<- hf l[i],Zh,Zag (by omega),ZL]
theorem tU {cs:List Value} {o n j:Nat} (hj:j<n):(eo cs o n)[j]? = cs[o+j]?:=by
 rw [jl,ZK,if_pos hj,Zbj]
theorem LJ (hf:∀ x,(f x).length=sz) {l:List α} {i j:Nat} (h:i<l.length) (hj:j<sz) (cur:List Value):((l.map f).flatten++cur)[i*sz+j]? = (f l[i])[j]?:=by
 rw [<- r7 hf h cur,tU hj]
theorem zS:∀ (A B C Z:List Value),Z.length=B.length->setCells (A++(B++C)) A.length Z=A++(Z++C):=by
 intro A B C Z h;apply Zan;intro k;rw [gE _ _ _ _ (by simp;omega)];by_cases h1:k<A.length
 ·rw [if_neg (by omega),ZD h1,ZD h1]
 ·by_cases h2:k-A.length<Z.length
  ·rw [if_pos (by omega),ZJ (show A.length<=k by omega),ZD h2]
  ·rw [if_neg (by omega),ZJ (show A.length<=k by omega),ZJ (show A.length<=k by omega),ZJ (show B.length<=k-A.length by omega),ZJ (show Z.length<=k-A.length by omega),h]
theorem LI (hf:∀ x,(f x).length=sz) {l:List α} {i:Nat} (h:i<l.length) (x:α) (cur:List Value):setCells ((l.map f).flatten++cur) (i*sz) (f x)=((l.set i x).map f).flatten++cur:=by
 have hl:l=l.take i++l[i]::l.drop (i+1):=by rw [<- Zu h,ZV]
 have e:(l.map f).flatten=((l.take i).map f).flatten++(f l[i]++((l.drop (i+1)).map f).flatten):=
  (congrArg (fun m=>(List.map f m).flatten) hl).trans (by simp only [Zt,Zad,ZZ,Zam])
 have e2:((l.set i x).map f).flatten=((l.take i).map f).flatten++(f x++((l.drop (i+1)).map f).flatten):=by
  rw [List.set_eq_take_append_cons_drop,if_pos h];simp
 have hk:((l.take i).map f).flatten.length=i*sz:=by rw [iQ hf,ZaI (by omega)]
 rw [e,e2,Zh,Zh,Zh,Zh,<- hk];exact zS _ _ _ _ (by rw [hf,hf])
theorem Gt (hf:∀ x,(f x).length=sz) (A B:List α) (Z cur:List Value) (hz:Z.length=B.length*sz):setCells (((A++B).map f).flatten++cur) (A.length*sz) Z=(A.map f).flatten++(Z++cur):=by
 rw [Zt,Zad,Zh,<- iQ hf A];exact zS _ _ _ _ (by rw [hz,iQ hf])
theorem sB {g k n cap:Nat} (sz:Nat) (h:k<n) (hc:n<=cap):Go.sliced (some ⟨g,0,none⟩) ((k:Nat):Int).toNat n cap sz=.slice (some ⟨g,k*sz,none⟩) (n-k) (cap-k):=by
 unfold Go.sliced;rw [if_neg (by rw [ZF];omega),ZF];simp [eT]
theorem sC (g k cap sz:Nat):Go.sliced (some ⟨g,0,none⟩) 0 ((k:Nat):Int).toNat cap sz=.w g k cap:=by
 unfold Go.sliced;rw [ZF];by_cases h:cap=0
 ·rw [if_pos h];simp
 ·rw [if_neg h];simp [eT]
theorem filter_lt {q:α->Bool} {l:List α} {i:Nat} (hi:i<l.length) (h:q l[i]=false):(l.filter q).length<l.length:=
 List.length_filter_lt_length_iff_exists.2 ⟨l[i],Zj hi,by simp [h]⟩
def uX (q:α->Bool) (l:List α) (j:Nat):List α:=(l.take j).filter q++l.drop ((l.take j).filter q).length
def lx (q:α->Bool) (l:List α) (j:Nat):Nat:=((l.take j).filter q).length
theorem nJ (q:α->Bool) (l:List α) {j:Nat} (hj:j<=l.length):lx q l j<=j:=by
 have:=Z8 q (l.take j);rw [ZaI hj] at this;exact this
theorem Gp (q:α->Bool) (l:List α) {j:Nat} (hj:j<=l.length):(uX q l j).length=l.length:=by
 have:=nJ q l hj;unfold lx at this;unfold uX;rw [Zg,ZaS];omega
theorem Gq (q:α->Bool) (l:List α) {j:Nat} (hj:j<l.length):∃ h:j<(uX q l j).length,(uX q l j)[j]=l[j]:=by
 have:=nJ q l (Nat.le_of_lt hj);unfold lx at this;have h:(uX q l j)[j]? = some l[j]:=by
  unfold uX;rw [ZJ this,Zbj,<- Zc hj];congr 1;omega
 exact Zm.1 h
theorem vl (q:α->Bool) (l:List α) {j:Nat} (hj:j<l.length):(l.take (j+1)).filter q=(l.take j).filter q++if q l[j] then [l[j]] else []:=by
 rw [Zn hj,Zbk];congr 1;by_cases h:q l[j]=true
 ·rw [Zbz h,if_pos h];rfl
 ·rw [List.filter_cons_of_neg h,if_neg h];rfl
theorem E5 (q:α->Bool) (l:List α) {j:Nat} (hj:j<l.length) (hq:q l[j]=false):uX q l (j+1)=uX q l j/\lx q l (j+1)=lx q l j:=by
 have e:(l.take (j+1)).filter q=(l.take j).filter q:=by rw [vl q l hj,hq];simp
 unfold uX lx;rw [e];exact ⟨I,I⟩
theorem Gn (q:α->Bool) (l:List α) {j:Nat} (hj:j<l.length) (hq:q l[j]=true):uX q l (j+1)=(uX q l j).set (lx q l j) l[j]/\lx q l (j+1)=lx q l j+1:=by
 have e:(l.take (j+1)).filter q=(l.take j).filter q++[l[j]]:=by rw [vl q l hj,if_pos hq]
 have hle:=nJ q l (Nat.le_of_lt hj);unfold lx at hle;have hm:((l.take j).filter q).length<l.length:=by omega
 unfold uX lx;rw [e];refine ⟨?_,by simp⟩;rw [Zbn _ _ (Zz _),Nat.sub_self,Zu hm,List.set_cons_zero,Zg,Zh]
 rfl
theorem Gr (q:α->Bool) (l:List α):uX q l l.length=l.filter q++l.drop (l.filter q).length/\lx q l l.length=(l.filter q).length:=by
 unfold uX lx;rw [ZL];exact ⟨I,I⟩
theorem yY (q:α->Bool) (l:List α) {i:Nat} (hi:i<l.length) (hb:∀ j (h:j<i),q (l[j]'(by omega))=true) (hq:q l[i]=false):uX q l (i+1)=l/\lx q l (i+1)=i:=by
 have e:(l.take i).filter q=l.take i:=ZaO.2 fun x hx=>by
  obtain ⟨j,hj,rfl⟩:=Zx hx;rw [ZaJ];exact hb j (by rw [Zs] at hj;omega)
 obtain ⟨h1,h2⟩:=E5 q l hi hq;rw [h1,h2];unfold uX lx;rw [e,ZaI (by omega),ZV];exact ⟨I,I⟩
end
end Go.SL
namespace Go.Proofs.A1
open Go Go.SL
open Tryz
open Tryz renaming prog->T_
variable {cap first:List Value} {lv:Value} {o:ByteArray} {p q:ByteArray->Bool} {v:Value}
theorem CP {l:List ByteArray} {f:FuncId} [bO T_ f] {w:World} (h:Rd w lv 1 (fX l)) (cJ:∀ x∈l,∀ w',aK [] w w'->aj T_ f (first++[.string x]++cap) w' (.bool (p x))) :
  aj T_ 299 [lv,.func (.func f) first.toArray cap.toArray] w (.q (fU p l)):=by
 obtain ⟨a,cp,b,o,rfl,dp,bY,ha,hc⟩:=h;rw [bX] at *;unfold maxLen at bY;refine ah func299 I I ?_;refine Jr<|Ja I<|Jn<|Jq<|Jr<|Jv I<|JI I<|Jv I<|Jn<|J0 ?_;refine a7 (fun k:Nat=>k<=l.length/\∀ i,i<k->(l[i]?.map p).getD false=false) (fun k=>[(8,.int .i64 k),(7,.int .i64 l.length),(0,.slice a l.length cp),(1,.func (.func f) first.toArray cap.toArray)]) (fun _=>[]) (fun k=>l.length-k) ?_ ?_
 ·apply aI 0 ⟨Zi _,fun i h=>by omega⟩
  case hs1=>exact cu
  case ht=>(try simp only [Ze,Zf,Za]);exact .nil
 rintro k ⟨hk,hf⟩;by_cases aN:k<l.length
 ·have cP:=ha (mm aN);have c0:w.cell? ⟨b,o+k*1,none⟩=some (.string l[k]):=(hc k _ (jf aN)).2 0 _ I;have iz:=cJ _ (Zj aN);have hps:(l[k]?.map p).getD false=p l[k]:=by simp [aN]
  (refine Jr<|JA I<|Jn<|Jq<|Jd I fun ar=>Jk<|Jq<|J0<|Jr<|Jv I<|Ja I<|Ji<|Jv I<|Jv I<|Jv I<|ab (fZ cP ar) I<|ab (ag (.of I) (At.base c0 I)) I<|ai bz I (fun w' aA=>(iz w' (Mem.keeps aA)))<|Jn<|qv I (fun ar=>?_) fun ar=>?_;refine Jr<|Jv I<|Ja I<|Jn<|Je<|Jm<|Jh<|Jh<|Jm<|Jh<|JT ?_;rotate_left;refine Jw<|Jj<|Jt<|Jg<|JB I (by omega)<|Jv I<|Jn ?_;rotate_right)
  ·rw [gG hf aN ar]
  ·apply aL (k+1) ⟨by omega,fun i hi=>by
    by_cases e:i=k
    ·rw [e,hps];exact ar
    ·exact hf i (by omega)⟩ (by omega)
   case hs1=>exact cu
   case ht=>(try simp only [Ze,Zf,Za]);exact .nil
 ·obtain rfl:k=l.length:=by omega
  refine Jr<|JA I<|Jn<|Jq<|Jc I fun ar=>Jp<|Jl<|Jo<|Jt<|Jr<|Ja I<|Jn<|Je<|JT ?_;rw [fG hf]
theorem Lx {l:List ByteArray} {f:FuncId} [bO T_ f] {w:World} (h:Rd w lv 1 (fX l)) (cJ:∀ x∈l,∀ w',aK [] w w'->aj T_ f (first++[.string x]++cap) w' (.bool (p x))) :
  aj T_ 250 [lv,.func (.func f) first.toArray cap.toArray] w (.bool (l.any p)):=by
 have iz:∀ w',aK [] w w'->aj T_ 299 [lv,.func (.func f) first.toArray cap.toArray] w' (.q (fU p l)):=fun w' hk=>
  CP (h.keeps hk) fun x hx w2 eM=>cJ x hx w2 (hk.trans eM)
 rw [<- iY];refine ah func250 I I ?_
 (refine Jr<|Ja I<|Ji<|Jv I<|Jv I<|ai ba I (fun w' aA=>(iz w' (Mem.keeps aA)))<|JG I<|Ja I<|Jn<|Je<|JT ?_)
 rfl
set_option maxHeartbeats 1000000 in
theorem LU {n:Nat} {l:List ByteArray} {f:FuncId} [bO T_ f] {w:World} {fp:List Nat} (jv:fp.Nodup) (hs:cC (hp w) [row 9 1 v n (aJ l)] fp) (hn:l.length=n) (cO:n<=1000000)
  (cJ:∀ x∈l,∀ w',aK fp w w'->aj T_ f (first++[.string x]++cap) w' (.bool (p x))) :
  bb T_ 224 [v,.func (.func f) first.toArray cap.toArray] w fp (fun _:Value=>True) id (fun v'=>[row 9 1 v' (l.filter fun x=>!p x).length (aJ (l.filter fun x=>!p x))]):=by
 refine dU func224 I I jv hs ?_;refine Jr<|Ja I<|Ji<|Jv I<|Jv I ?_;refine aY (by exact .here) fun va vc e=>?_;subst e
 skip
 with_reducible apply ai
 case hr=>exact ba
 case hd=>rfl
 case hc=>
  intro w' aA;have hR:Rd w' (.slice va n vc) 1 (fX l):=dz aA (by exact .here) hn;exact CP (f:=f) (p:=p) (first:=first) (cap:=cap) hR (fun x hx w2 eM=>cJ x hx w2 (aA.keeps.trans (eM.mono (by simp))))
 rcases pS p l with ⟨e1,e2⟩ | ⟨i,hi,e1,e2⟩
 ·rw [e1];have sX:(l.filter fun x=>!p x)=l:=ZaO.2 fun x hx=>by
   have:=ZaF.1 e2 x hx;simpa using this
  rw [sX];refine Ja I<|Jn<|Jq<|Jr<|Jv I<|JC I<|Jn<|Jd I fun ar=>Jr<|Jv I<|Ja I<|Jn<|Ju ?_
  with_reducible first|apply aR|apply aS
  case he=>exact dH I I
  case hR=>
   intro w' aA;exact aD (.slice va n vc) trivial (show bj _ [row 9 1 (.slice va n vc) l.length (aJ l)] _ by rw [hn];exact .h1 .nil) aA I
 rw [e1];rw [ZaA] at e2;obtain ⟨Qj,i',we,Ie,dF⟩:=e2;have Ic:i'=i:=by
  have h1:fU p l=(i':Nat):=gG (fun j hj=>by
   rw [Zc (by omega)];simpa using dF j hj) we (by rw [Ie];exact Qj)
  rw [e1] at h1
  exact_mod_cast h1.symm
 subst Ic;obtain ⟨st1,st2⟩:=yY (fun x=>!p x) l we (fun j hj=>dF j hj) (by rw [Ie];simp [Qj]);have hne:¬ ((i':Nat):Int) = -1:=by omega
 refine Ja I<|Jn<|Jq<|Jr<|Jv I<|JC I<|Jn<|Jc I fun ar=>Jk<|Jq<|Jr<|Jv I<|JB I (by omega)<|Ja I<|Jn<|J0 ?_;refine cQ (by exact .here) (by omega) ?_;rintro g ic cur e oU sU hsz hl;cases e;have hF:∀ x,((fun s:ByteArray=>[Value.string s]) x).length=1:=fun _=>rfl
 have hV:∀ l,aJ l=(l.map (fun s:ByteArray=>[Value.string s])).flatten:=fun l=>rn l
 refine a7 (fun j:Nat=>i'<j/\j<=l.length) (fun j=>[(6,.q (j:Nat)),(5,.q (lx (fun x=>!p x) l j)),(0,.w g n vc),(1,.func (.func f) first.toArray cap.toArray)])
  (fun j=>[bo g (.cells (((uX (fun x=>!p x) l j).map (fun s:ByteArray=>[Value.string s])).flatten++cur).toArray 9 (0,0))]) (fun j=>l.length-j) ?_ ?_
 ·apply aI (i'+1) ⟨by omega,by omega⟩
  case hs1=>rw [st2];exact .cons I (.cons I (.cons I (.cons I .nil)))
  case ht=>rw [st1,<- hV];exact .h1 .nil
 rintro j ⟨hj,hk⟩;by_cases aN:j<l.length
 ·have CX:j<n:=by omega
  have hle:=nJ (fun x=>!p x) l hk
  have sX:=Gp (fun x=>!p x) l hk
  obtain ⟨hjf,hgj⟩:=Gq (fun x=>!p x) l aN;have c0:=LJ hF hjf (show 0<1 by omega) cur;rw [hgj] at c0;have c1:(((uX (fun x=>!p x) l j).map (fun s:ByteArray=>[Value.string s])).flatten++cur)[j*1]? = some (.string l[j]):=c0
  (refine Jq<|Jr<|Jv I<|Jv I<|JI I<|JA I<|Jn<|Jd I fun ar=>Jk<|Jq<|J0<|Jr<|Jv I<|Jv I<|ab (au (.of I) (.of I) I (by omega) ar bn) I ?_;refine ab (ag (.of I) (At.mW .here c1)) I ?_;refine Ja I<|Ji<|Jv I<|Jv I ?_)
  with_reducible apply ai
  case hr=>exact bz
  case hd=>rfl
  case hc=>
   intro w' aA;exact cJ l[j] (Zj aN) w' aA.keeps
  have hm:lx (fun x=>!p x) l j<(uX (fun x=>!p x) l j).length:=by rw [sX];have:=st2;omega
  have hb:lx (fun x=>!p x) l j*1+1<=(((uX (fun x=>!p x) l j).map (fun s:ByteArray=>[Value.string s])).flatten++cur).length:=by rw [Zg,iQ hF,sX];omega
  have qe:=LI hF hm l[j] cur;have hmn:lx (fun x=>!p x) l j<n:=by omega
  cases hq:p l[j] with
  | true =>
   obtain ⟨s1,s2⟩:=E5 (fun x=>!p x) l aN (by simp [hq])
   (refine JH I<|Jn<|bE (.of I)<|Jw<|Jj<|Jt<|Jg<|Jv I<|JB I (by omega)<|Ja I<|Jn ?_)
   apply aL (j+1) ⟨by omega,by omega⟩ (by omega)
   case hs1=>rw [s2];exact .cons I (.cons I (.cons I (.cons I .nil)))
   case ht=>rw [s1];exact .h1 .nil
  | false =>
   obtain ⟨s1,s2⟩:=Gn (fun x=>!p x) l aN (by simp [hq])
   (refine JH I<|Jn<|cL (.of I) ?_;refine Jr<|Jv I<|Jv I<|Jv I<|ab (au (.of I) (.of I) I (by omega) (by omega) bn) I ?_;refine an (.of I) (.of I) .here I I (eL I) hb qe ?_;refine Jn<|Jg<|Jv I<|JB I (by omega)<|Ja I<|Jx<|Jj<|Jt<|Jg<|Jv I<|JB I (by omega)<|Ja I<|Jn ?_)
   apply aL (j+1) ⟨by omega,by omega⟩ (by omega)
   case hs1=>rw [s2];exact .cons I (.cons I (.cons I (.cons I .nil)))
   case ht=>rw [s1];exact .h1 .nil
 ·obtain rfl:j=l.length:=by omega
  obtain ⟨a1,a2⟩:=Gr (fun x=>!p x) l;have hle:=nJ (fun x=>!p x) l (Zz _)
  rw [a1,a2];rw [a2] at hle;have hZ:=Gt hF (l.filter fun x=>!p x) (l.drop (l.filter fun x=>!p x).length) (List.replicate (n-(l.filter fun x=>!p x).length) [Value.string ⟨#[]⟩]).flatten cur (by simp;omega)
  have T1:(l.filter fun x=>!p x).length<l.length:=filter_lt we (by rw [Ie];simp [Qj])
  generalize (l.filter fun x=>!p x)=q at hle hZ T1 ⊢
  have YG:q.length<n:=by omega
  have T3:q.length<=vc:=by omega
  have hfit:q.length*1+(n-q.length)*[Value.string ⟨#[]⟩].length<=(((q++l.drop q.length).map (fun s:ByteArray=>[Value.string s])).flatten++cur).length:=by
   rw [Zg,iQ hF,Zg,ZaS];simp only [ZI,Zaj];omega
  refine Jq<|Jr<|Jv I<|Jv I<|JI I<|JA I<|Jn<|Jc I fun ar=>Jp<|Jl<|Jo<|Jt<|Jr<|Jv I<|Jv I<|ab (np (.of I) (.of I) (by omega) (by omega)) I ?_;rw [sB 1 YG oU];refine BV (zs:=[Value.string ⟨#[]⟩]) (z:=.string ⟨#[]⟩) (.of I) .here I (eL I) hfit ?_;rw [hZ]
  (refine Ji<|Jv I<|Jv I<|ab (gF (.of I) (.of I) (by omega) (by omega)) I<|Ja I<|Jn<|Je ?_)
  rw [sC];have AO:((q.map (fun s:ByteArray=>[Value.string s])).flatten++((List.replicate (n-q.length) [Value.string ⟨#[]⟩]).flatten++cur)).length=vc*1:=by
   rw [<- hsz,Zg,iQ hF,Zg,Zg,<- hn,hV,iQ hF];have:(List.replicate (l.length-q.length) [Value.string ⟨#[]⟩]).flatten.length=(l.length-q.length)*1:=by simp
   rw [this];omega
  refine cH (n:=q.length) (sz:=1) (by exact .here) T3 sU AO (by rw [iQ hF]) ?_
  skip
  with_reducible first|apply aR|apply aS
  case he=>exact dH I I
  case hR=>
   intro w' aA;exact aD (.w g q.length vc) trivial (show bj _ [row 9 1 (.w g q.length vc) q.length (aJ q)] _ by rw [hV];exact .h1 .nil) aA I
set_option maxHeartbeats 1000000 in
theorem Pt {n:Nat} {l:List Po} {p:Po->Bool} {f:FuncId} [bO T_ f] {w:World} {fp:List Nat} (jv:fp.Nodup) (hs:cC (hp w) [row 188 3 v n (gK l)] fp) (hn:l.length=n) (cO:n<=1000000)
  (cJ:∀ x∈l,∀ w',aK fp w w'->aj T_ f (first++[.agg x.cells.toArray]++cap) w' (.bool (p x))) :
  bb T_ 314 [v,.func (.func f) first.toArray cap.toArray] w fp (fun _:Value=>True) id (fun v'=>[row 188 3 v' (l.filter fun x=>!p x).length (gK (l.filter fun x=>!p x))]):=by
 refine dU func314 I I jv hs ?_;refine Jr<|Ja I<|Ji<|Jv I<|Jv I ?_;refine aY (by exact .here) fun va vc e=>?_;subst e
 skip
 with_reducible apply ai
 case hr=>exact ba
 case hd=>rfl
 case hc=>
  intro w' aA;have hR:Rd w' (.slice va n vc) 3 (ud l):=bJ aA (by exact .here) hn;exact AM (f:=f) (p:=p) (first:=first) (cap:=cap) hR (fun x hx w2 eM=>cJ x hx w2 (aA.keeps.trans (eM.mono (by simp))))
 rcases pS p l with ⟨e1,e2⟩ | ⟨i,hi,e1,e2⟩
 ·rw [e1];have sX:(l.filter fun x=>!p x)=l:=ZaO.2 fun x hx=>by
   have:=ZaF.1 e2 x hx;simpa using this
  rw [sX];refine Ja I<|Jn<|Jq<|Jr<|Jv I<|JC I<|Jn<|Jd I fun ar=>Jr<|Jv I<|Ja I<|Jn<|Ju ?_
  with_reducible first|apply aR|apply aS
  case he=>exact dH I I
  case hR=>
   intro w' aA;exact aD (.slice va n vc) trivial (show bj _ [row 188 3 (.slice va n vc) l.length (gK l)] _ by rw [hn];exact .h1 .nil) aA I
 rw [e1];rw [ZaA] at e2;obtain ⟨Qj,i',we,Ie,dF⟩:=e2;have Ic:i'=i:=by
  have h1:fU p l=(i':Nat):=gG (fun j hj=>by
   rw [Zc (by omega)];simpa using dF j hj) we (by rw [Ie];exact Qj)
  rw [e1] at h1
  exact_mod_cast h1.symm
 subst Ic;obtain ⟨st1,st2⟩:=yY (fun x=>!p x) l we (fun j hj=>dF j hj) (by rw [Ie];simp [Qj]);have hne:¬ ((i':Nat):Int) = -1:=by omega
 refine Ja I<|Jn<|Jq<|Jr<|Jv I<|JC I<|Jn<|Jc I fun ar=>Jk<|Jq<|Jr<|Jv I<|JB I (by omega)<|Ja I<|Jn<|J0 ?_;refine cQ (by exact .here) (by omega) ?_;rintro g ic cur e oU sU hsz hl;cases e;have hF:∀ x,(Po.cells x).length=3:=fun _=>rfl
 have hV:∀ l,gK l=(l.map Po.cells).flatten:=fun l=>rfl
 refine a7 (fun j:Nat=>i'<j/\j<=l.length) (fun j=>[(6,.q (j:Nat)),(5,.q (lx (fun x=>!p x) l j)),(0,.w g n vc),(1,.func (.func f) first.toArray cap.toArray)])
  (fun j=>[bo g (.cells (((uX (fun x=>!p x) l j).map Po.cells).flatten++cur).toArray 188 (0,0))]) (fun j=>l.length-j) ?_ ?_
 ·apply aI (i'+1) ⟨by omega,by omega⟩
  case hs1=>rw [st2];exact .cons I (.cons I (.cons I (.cons I .nil)))
  case ht=>rw [st1,<- hV];exact .h1 .nil
 rintro j ⟨hj,hk⟩;by_cases aN:j<l.length
 ·have CX:j<n:=by omega
  have hle:=nJ (fun x=>!p x) l hk
  have sX:=Gp (fun x=>!p x) l hk
  obtain ⟨hjf,hgj⟩:=Gq (fun x=>!p x) l aN;have c0:=r7 hF hjf cur;rw [hgj] at c0;have c1:eo (((uX (fun x=>!p x) l j).map Po.cells).flatten++cur) (j*3) 3=[.int .i64 (l[j]).lv,.string (l[j]).ou,.string (l[j]).ip]:=c0
  (refine Jq<|Jr<|Jv I<|Jv I<|JI I<|JA I<|Jn<|Jd I fun ar=>Jk<|Jq<|J0<|Jr<|Jv I<|Jv I<|ab (au (.of I) (.of I) I (by omega) ar bn) I ?_;refine ab (bV (.of I) .here c1 I) I ?_;refine Jz I I fun _ _=>an (.of I) (.of I) .here I I (fq I I I) (bG I) ak ?_;refine Ji<|Jv I<|ab (cK .here) I ?_)
  with_reducible apply ai
  case hr=>exact bz
  case hd=>rfl
  case hc=>
   intro w' aA;exact cJ l[j] (Zj aN) w' aA.keeps
  have hm:lx (fun x=>!p x) l j<(uX (fun x=>!p x) l j).length:=by rw [sX];have:=st2;omega
  have hb:lx (fun x=>!p x) l j*3+3<=(((uX (fun x=>!p x) l j).map Po.cells).flatten++cur).length:=by rw [Zg,iQ hF,sX];omega
  have qe:=LI hF hm l[j] cur;have hmn:lx (fun x=>!p x) l j<n:=by omega
  cases hq:p l[j] with
  | true =>
   obtain ⟨s1,s2⟩:=E5 (fun x=>!p x) l aN (by simp [hq])
   (refine JH I<|Jn<|bE (.of I)<|Jw<|Jj<|Jt<|Jg<|Jv I<|JB I (by omega)<|Ja I<|Jn ?_)
   apply aL (j+1) ⟨by omega,by omega⟩ (by omega)
   case hs1=>rw [s2];exact .cons I (.cons I (.cons I (.cons I .nil)))
   case ht=>rw [s1];exact .cons (.there .here) .nil
  | false =>
   obtain ⟨s1,s2⟩:=Gn (fun x=>!p x) l aN (by simp [hq])
   (refine JH I<|Jn<|cL (.of I) ?_;refine Jr<|Jv I<|Jv I<|ab (cK .here) I ?_;refine ab (au (.of I) (.of I) I (by omega) (by omega) bn) I ?_;refine an (.of I) (.of I) (.there .here) I I (fq I I I) hb qe ?_;refine Jn<|Jg<|Jv I<|JB I (by omega)<|Ja I<|Jx<|Jj<|Jt<|Jg<|Jv I<|JB I (by omega)<|Ja I<|Jn ?_)
   apply aL (j+1) ⟨by omega,by omega⟩ (by omega)
   case hs1=>rw [s2];exact .cons I (.cons I (.cons I (.cons I .nil)))
   case ht=>rw [s1];exact .h1 .nil
 ·obtain rfl:j=l.length:=by omega
  obtain ⟨a1,a2⟩:=Gr (fun x=>!p x) l;have hle:=nJ (fun x=>!p x) l (Zz _)
  rw [a1,a2];rw [a2] at hle;have hZ:=Gt hF (l.filter fun x=>!p x) (l.drop (l.filter fun x=>!p x).length) (List.replicate (n-(l.filter fun x=>!p x).length) [Value.int .i64 0,Value.string ⟨#[]⟩,Value.string ⟨#[]⟩]).flatten cur (by simp;omega)
  have T1:(l.filter fun x=>!p x).length<l.length:=filter_lt we (by rw [Ie];simp [Qj])
  generalize (l.filter fun x=>!p x)=q at hle hZ T1 ⊢
  have YG:q.length<n:=by omega
  have T3:q.length<=vc:=by omega
  have hfit:q.length*3+(n-q.length)*[Value.int .i64 0,Value.string ⟨#[]⟩,Value.string ⟨#[]⟩].length<=(((q++l.drop q.length).map Po.cells).flatten++cur).length:=by
   rw [Zg,iQ hF,Zg,ZaS];simp only [ZI,Zaj];omega
  refine Jq<|Jr<|Jv I<|Jv I<|JI I<|JA I<|Jn<|Jc I fun ar=>Jp<|Jl<|Jo<|Jt<|Jr<|Jv I<|Jv I<|ab (np (.of I) (.of I) (by omega) (by omega)) I ?_;rw [sB 3 YG oU];refine BV (zs:=[Value.int .i64 0,Value.string ⟨#[]⟩,Value.string ⟨#[]⟩]) (z:=.agg #[.q 0,.string ⟨#[]⟩,.string ⟨#[]⟩]) (.of I) .here I (fq I I I) hfit ?_;rw [hZ]
  (refine Ji<|Jv I<|Jv I<|ab (gF (.of I) (.of I) (by omega) (by omega)) I<|Ja I<|Jn<|Je ?_)
  rw [sC];have AO:((q.map Po.cells).flatten++((List.replicate (n-q.length) [Value.int .i64 0,Value.string ⟨#[]⟩,Value.string ⟨#[]⟩]).flatten++cur)).length=vc*3:=by
   rw [<- hsz,Zg,iQ hF,Zg,Zg,<- hn,hV,iQ hF];have:(List.replicate (l.length-q.length) [Value.int .i64 0,Value.string ⟨#[]⟩,Value.string ⟨#[]⟩]).flatten.length=(l.length-q.length)*3:=by simp
   rw [this];omega
  refine cH (n:=q.length) (sz:=3) (by exact .here) T3 sU AO (by rw [iQ hF]) ?_
  skip
  with_reducible first|apply aR|apply aS
  case he=>exact dH I I
  case hR=>
   intro w' aA;exact aD (.w g q.length vc) trivial (show bj _ [row 188 3 (.w g q.length vc) q.length (gK q)] _ by rw [hV];exact .h1 .nil) aA I
theorem ez {w w':World} {a:Addr} {md:List Nat} (h:w.cell? a=some v) (hs:a.spot=none) (hn:a.block ∉ md) (hk:aK md w w'):w'.cell? a=some v:=by
 have hb:=World.block_lt_of_cell? w a h;obtain ⟨b,o,s⟩:=a;subst hs;have:=hk.block b hb hn;rw [<- h];simp [World.cell?,this]
theorem Mb {q:Bool} {f:FuncId} [bO T_ f] {b5:Nat} {w:World} (f5:w.cell? ⟨b5,0,none⟩=some (.func (.func f) first.toArray cap.toArray))
  (cJ:∀ w',aK [] w w'->aj T_ f (first++[.string o]++cap) w' (.bool q)) :
  aj T_ 225 [.string o,.p b5] w (.bool (!q)):=by
 refine ah func225 I I ?_
 (refine Jr<|Ja I<|Ji<|ab (ag (.of I) (At.base f5 I)) I<|Jv I ?_)
 refine ai bz I (fun w' aA=>cJ w' aA.keeps) ?_;refine JH I<|Ja I<|Jn<|Je<|JT ?_
 rfl
theorem Fb {l:List Ti} {f:FuncId} [bO T_ f] {w:World} (h:Rd w lv 3 (vk l)) (hn:l.length<=1000000)
  (cJ:∀ o w',aK [] w w'->aj T_ f (first++[.string o]++cap) w' (.bool (q o))) :
  bb T_ 118 [lv,.func (.func 119) #[] #[],.func (.func f) first.toArray cap.toArray] w [] (fun _:Value=>True) id (fun v=>[row 9 1 v ((l.map Ti.nm).filter q).length (aJ ((l.map Ti.nm).filter q))]):=by
 have wb:=Rd.one h;refine aT func118 I I ?_;refine Jr<|Jy I I fun _ _=>Ja I<|Ji<|Jv I<|Jv I ?_;rename_i b5 MY;refine JN ba I (fun w1 aG=>Oo (f:=119) (first:=[]) (cap:=[]) (g:=Ti.nm) (h.keeps aG.keeps) hn (fun x _ w2 _=>Ky x w2)) ?_
 intro nv _;dsimp only [id_eq,Zb,Za];refine ab (bD .nil (.o I .nil)) I ?_
 with_reducible apply eH (As:=[row 9 1 nv l.length (aJ (l.map Ti.nm))])
 case hr=>exact ba
 case hd=>rfl
 case ht=>exact ng
 case hc=>
  intro w1 BE aG uf hs1 DN jZ;have h5:b5 ∉ BE:=jZ b5 _ _ (by exact .here);have f5:w1.cell? ⟨b5,0,none⟩=some (.func (.func f) first.toArray cap.toArray):=At.lit (by exact Take.there .here) I w1 aG
  exact LU (f:=225) (p:=fun o=>!q o) (first:=[]) (cap:=[.p b5]) uf hs1 (by rw [Zd]) hn
   (fun o _ w2 eM=>Mb (ez f5 I h5 eM) (fun w3 hk3=>cJ o w3 ((aG.keeps.over (fun b hb=>DN b hb) eM).trans hk3)))
 intro v' _;dsimp only [id_eq,Zb,Za];simp only [Bool.not_not];refine Ja I<|Jn<|Je ?_
 with_reducible first|apply aR|apply aS
 case he=>exact dH I I
 case hR=>
  intro w' aA;exact aD v' trivial (by exact .h1 .nil) aA I
theorem Mc {q:Bool} {f:FuncId} [bO T_ f] {b5:Nat} {w:World} (f5:w.cell? ⟨b5,0,none⟩=some (.func (.func f) first.toArray cap.toArray))
  (cJ:∀ w',aK [] w w'->aj T_ f (first++[.string o]++cap) w' (.bool q)) :
  aj T_ 226 [.string o,.p b5] w (.bool (!q)):=by
 refine ah func226 I I ?_
 (refine Jr<|Ja I<|Ji<|ab (ag (.of I) (At.base f5 I)) I<|Jv I ?_)
 refine ai bz I (fun w' aA=>cJ w' aA.keeps) ?_;refine JH I<|Ja I<|Jn<|Je<|JT ?_
 rfl
theorem Fc {l:List De} {f:FuncId} [bO T_ f] {w:World} (h:Rd w lv 3 (wz l)) (hn:l.length<=1000000)
  (cJ:∀ o w',aK [] w w'->aj T_ f (first++[.string o]++cap) w' (.bool (q o))) :
  bb T_ 123 [lv,.func (.func 124) #[] #[],.func (.func f) first.toArray cap.toArray] w [] (fun _:Value=>True) id (fun v=>[row 9 1 v ((l.map De.nm).filter q).length (aJ ((l.map De.nm).filter q))]):=by
 have wb:=Rd.one h;refine aT func123 I I ?_;refine Jr<|Jy I I fun _ _=>Ja I<|Ji<|Jv I<|Jv I ?_;rename_i b5 MY;refine JN ba I (fun w1 aG=>F0 (f:=124) (first:=[]) (cap:=[]) (g:=De.nm) (h.keeps aG.keeps) hn (fun x _ w2 _=>ED x w2)) ?_
 intro nv _;dsimp only [id_eq,Zb,Za];refine ab (bD .nil (.o I .nil)) I ?_
 with_reducible apply eH (As:=[row 9 1 nv l.length (aJ (l.map De.nm))])
 case hr=>exact ba
 case hd=>rfl
 case ht=>exact ng
 case hc=>
  intro w1 BE aG uf hs1 DN jZ;have h5:b5 ∉ BE:=jZ b5 _ _ (by exact .here);have f5:w1.cell? ⟨b5,0,none⟩=some (.func (.func f) first.toArray cap.toArray):=At.lit (by exact Take.there .here) I w1 aG
  exact LU (f:=226) (p:=fun o=>!q o) (first:=[]) (cap:=[.p b5]) uf hs1 (by rw [Zd]) hn
   (fun o _ w2 eM=>Mc (ez f5 I h5 eM) (fun w3 hk3=>cJ o w3 ((aG.keeps.over (fun b hb=>DN b hb) eM).trans hk3)))
 intro v' _;dsimp only [id_eq,Zb,Za];simp only [Bool.not_not];refine Ja I<|Jn<|Je ?_
 with_reducible first|apply aR|apply aS
 case he=>exact dH I I
 case hR=>
  intro w' aA;exact aD v' trivial (by exact .h1 .nil) aA I
theorem PI {r:Ro} {s d t p:Value} (v:Int) (o:ByteArray) {b1 b2:Nat} {w:World} (h:RR w r s d t p) (hA:BR w b1 (RC r s d t p)) (f2:w.cell? ⟨b2,0,none⟩=some (.q v)) :
  aj T_ 120 [.string o,.p b1,.p b2] w (.bool (ig r.po v o)):=by
 obtain ⟨h1,h2,h3,h4⟩:=h.one;have kl:∀ (j:Nat) (u:Value),[Value.int .i64 r.lv,.int .i64 r.ma,s,d,t,p][j]? = some u->w.cell? ⟨b1,0+j,none⟩=some u:=hA;refine ah func120 I I ?_
 (refine Jr<|Ja I<|Ji<|ab (iA (eV.base kl I)) I<|ab (ag (.of I) (At.base f2 I)) I<|Jv I ?_)
 refine ai eK I (fun w' aA=>qS v o (h.keeps aA.keeps)) ?_;refine Ja I<|Jn<|Je<|JT ?_
 rfl
theorem It {r:Ro} {s d t p:Value} (v:Int) (o so:ByteArray) {b1 b2 b3:Nat} {w:World} (h:RR w r s d t p) (cO:r.ti.length<=1000000) (hA:BR w b1 (RC r s d t p)) (f2:w.cell? ⟨b2,0,none⟩=some (.q v)) (f3:w.cell? ⟨b3,0,none⟩=some (.string so)) :
  aj T_ 125 [.string o,.p b1,.p b2,.p b3] w (.bool (decide (k8 r v o=so))):=by
 obtain ⟨h1,h2,h3,h4⟩:=h.one;have kl:∀ (j:Nat) (u:Value),[Value.int .i64 r.lv,.int .i64 r.ma,s,d,t,p][j]? = some u->w.cell? ⟨b1,0+j,none⟩=some u:=hA;refine ah func125 I I ?_;refine Jr<|Ja I<|Jn<|Jq ?_
 with_reducible refine ef 6 (by kernel_rfl) ?_
 (refine aO (iA (eV.base kl I)) I<|aO (ag (.of I) (At.base f2 I)) I<|lH I I<|gQ eK I (fun w' aA=>(pY v o (RR.keeps h (Mem.keeps aA)) cO))<|aO (ag (.of I) (At.base f3 I)) I<|aO (ei (.of I) (.of I)) I ?_)
 with_reducible refine er ?_
 refine Ja I<|Jn<|Je<|JT ?_
 rfl
def Dq (r:Ro) (v:Int):Int:=aW [ew r,DH r v]
def Fg (r:Ro) (v:Int):List ByteArray:=if Dq r v≠0 then [] else (cN r).filter (ig r.po v)
theorem TP {r:Ro} {s d t p:Value} (v:Int) {w:World} (h:RR w r s d t p) (cO:kE r):bb T_ 23 [RA r s d t p,.q v] w [] (fun _:Value=>True) (fun x=>.tuple #[x,.q (Dq r v)]) (fun x=>[row 9 1 x (Fg r v).length (aJ (Fg r v))]):=by
 obtain ⟨h1,h2,h3,h4⟩:=h.one;have dD:∀ w',aK [] w w'->aj T_ 34 [.agg #[.int .i64 r.lv,.int .i64 r.ma,s,d,t,p]] w' (.int .i64 (ew r)):=fun w' hk=>dR (h.keeps hk) cO
 have hle:∀ w',aK [] w w'->aj T_ 114 [.agg #[.q r.lv,.q r.ma,s,d,t,p],.q v] w' (.q (DH r v)):=fun w' hk=>kS v (h.keeps hk)
 unfold RA;refine aT func23 I I ?_;refine Jr<|Jy I I fun _ _=>Jy I I fun _ _=>Ja I<|Ja I<|Jn<|Jq<|Jq ?_;rename_i b2 tM b3 uR
 with_reducible refine cW 6 (by kernel_rfl) ?_
 (refine ao (cK (.there .here)) I<|a8 bz I (fun w' aA=>(dD w' (Mem.keeps aA)))<|ao (cK (.there .here)) I<|ao (ie .here) I<|a8 ba I (fun w' aA=>(hle w' (Mem.keeps aA)))<|eC (aC (.o I (.o I .nil)) I I I I) I I ?_)
 with_reducible refine dw I fun bq nf=>?_
 (refine ai bz I (fun w' aA=>(dG (Mem.dh aA .here I I) (cm.cons (cm.cons cm.nil))))<|Ja I<|Ji<|Jv I<|JD I<|Jn<|gB I (fun ar=>?_) fun ar=>?_;refine Jr<|Jv I<|Ja I<|Ja I<|Jn<|Ju ?_;rotate_left;refine Jk<|Jr<|bP I I ae<|JL I bF I<|ab (bD .nil (.o I (.o I .nil))) I ?_;rotate_right)
 ·have e1:Fg r v=[]:=if_pos ar;rw [e1];refine aP 9 1 ?_
  with_reducible first|apply aR|apply aS
  case he=>exact gq I I I
  case hR=>
   intro w' aA;exact aD (.z) trivial (by exact .h1 .nil) aA I
 have e1:Fg r v=(r.ti.map Ti.nm).filter (ig r.po v):=if_neg ar;have e0:aW [ew r,DH r v]=0:=Zq.1 ar;have e2:Dq r v=0:=e0;rw [e1,e2]
 with_reducible apply jy
 case hr=>exact eK
 case hd=>rfl
 case ht=>exact bj.nil
 case hc=>
  intro w1 fp aG _ hs1;obtain rfl:fp=[]:=hs1;have hA:BR w1 b2 [.int .i64 r.lv,.int .i64 r.ma,s,d,t,p]:=BR.of aG bF;have f2:w1.cell? ⟨b3,0,none⟩=some (.int .i64 v):=At.lit (by exact Take.there .here) I w1 aG;have hR:=h.keeps aG.keeps
  exact Fb (f:=120) (q:=ig r.po v) (first:=[]) (cap:=[.p b2,.p b3]) hR.ti (by have:=cO.2.2;omega)
   (fun o w2 eM=>PI v o (hR.keeps eM) (hA.keeps eM) (cE f2 I eM))
 intro x _;dsimp only [id_eq,Zb,Za];refine Ja I<|Ja I<|Jn<|Je ?_
 with_reducible first|apply aR|apply aS
 case he=>exact gq I I I
 case hR=>
  intro w' aA;exact aD x trivial (by exact .h1 .nil) aA I
def Iv (r:Ro) (v:Int) (so:ByteArray):Int:=aW [ew r,DH r v,Rq r so]
def GQ (r:Ro) (v:Int) (so:ByteArray):List ByteArray:=if Iv r v so≠0 then [] else (bU r).filter fun o=>decide (k8 r v o=so)
theorem PO {r:Ro} {s d t p:Value} (v:Int) (so:ByteArray) {w:World} (h:RR w r s d t p) (cO:kE r):bb T_ 24 [RA r s d t p,.q v,.string so] w [] (fun _:Value=>True) (fun x=>.tuple #[x,.q (Iv r v so)]) (fun x=>[row 9 1 x (GQ r v so).length (aJ (GQ r v so))]):=by
 obtain ⟨h1,h2,h3,h4⟩:=h.one;have dD:∀ w',aK [] w w'->aj T_ 34 [.agg #[.int .i64 r.lv,.int .i64 r.ma,s,d,t,p]] w' (.int .i64 (ew r)):=fun w' hk=>dR (h.keeps hk) cO
 have hle:∀ w',aK [] w w'->aj T_ 114 [.agg #[.q r.lv,.q r.ma,s,d,t,p],.q v] w' (.q (DH r v)):=fun w' hk=>kS v (h.keeps hk)
 have AP:∀ w',aK [] w w'->aj T_ 122 [.agg #[.q r.lv,.q r.ma,s,d,t,p],.string so] w' (.q (Rq r so)):=fun w' hk=>qt so (h.keeps hk)
 unfold RA;refine aT func24 I I ?_;refine Jr<|Jy I I fun _ _=>Jy I I fun _ _=>Jy I I fun _ _=>Ja I<|Ja I<|Jn<|Jq<|Jq ?_;rename_i b2 tM b3 uR b4 uQ
 with_reducible refine cW 9 (by kernel_rfl) ?_
 (refine ao (cK bF) I<|a8 bz I (fun w' aA=>(dD w' (Mem.keeps aA)))<|ao (cK bF) I<|ao (ie (.there .here)) I<|a8 ba I (fun w' aA=>(hle w' (Mem.keeps aA)))<|ao (cK bF) I<|ao (ie .here) I<|a8 ba I (fun w' aA=>(AP w' (Mem.keeps aA)))<|eC (aC (.o I (.o I (.o I .nil))) I I I I) I I ?_)
 with_reducible refine dw I fun bq nf=>?_
 (refine ai bz I (fun w' aA=>(dG (Mem.dh aA .here I I) (cm.cons (cm.cons (cm.cons cm.nil)))))<|Ja I<|Ji<|Jv I<|JD I<|Jn<|gB I (fun ar=>?_) fun ar=>?_;refine Jr<|Jv I<|Ja I<|Ja I<|Jn<|Ju ?_;rotate_left;refine Jk<|Jr<|bP I I ae<|JL I cA I<|ab (bD .nil (.o I (.o I (.o I .nil)))) I ?_;rotate_right)
 ·have e1:GQ r v so=[]:=if_pos ar;rw [e1];refine aP 9 1 ?_
  with_reducible first|apply aR|apply aS
  case he=>exact gq I I I
  case hR=>
   intro w' aA;exact aD (.z) trivial (by exact .h1 .nil) aA I
 have e1:GQ r v so=(r.de.map De.nm).filter (fun o=>decide (k8 r v o=so)):=if_neg ar
 have e0:aW [ew r,DH r v,Rq r so]=0:=Zq.1 ar;have e2:Iv r v so=0:=e0;rw [e1,e2]
 with_reducible apply jy
 case hr=>exact eK
 case hd=>rfl
 case ht=>exact bj.nil
 case hc=>
  intro w1 fp aG _ hs1;obtain rfl:fp=[]:=hs1;have hA:BR w1 b2 [.int .i64 r.lv,.int .i64 r.ma,s,d,t,p]:=BR.of aG cA;have f2:w1.cell? ⟨b3,0,none⟩=some (.int .i64 v):=At.lit bF I w1 aG;have f3:w1.cell? ⟨b4,0,none⟩=some (.string so):=At.lit (by exact Take.there .here) I w1 aG;have hR:=h.keeps aG.keeps
  exact Fc (f:=125) (q:=fun o=>decide (k8 r v o=so)) (first:=[]) (cap:=[.p b2,.p b3,.p b4]) hR.de (by have:=cO.2.1;omega)
   (fun o w2 eM=>It v o so (hR.keeps eM) (by have:=cO.2.2;omega) (hA.keeps eM) (cE f2 I eM) (cE f3 I eM))
 intro x _;dsimp only [id_eq,Zb,Za];refine Ja I<|Ja I<|Jn<|Je ?_
 with_reducible first|apply aR|apply aS
 case he=>exact gq I I I
 case hR=>
  intro w' aA;exact aD x trivial (by exact .h1 .nil) aA I
end Go.Proofs.A1
