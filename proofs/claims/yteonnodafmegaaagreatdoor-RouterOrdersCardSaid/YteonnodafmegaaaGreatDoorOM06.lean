/- Parts of the proof: GkRegP GkRegN GkStr GkBits GkArr KA KB KC GkClear GkFl KD KE. -/
import Derived.Test.YteonnodafmegaaaGreatDoorOM05
import Derived.Test.YteonnodafmegaaaGreatDoorOM03
import Derived.Laws.Strings
import Derived.Laws.BytesString
import Derived.Test.YteonnodafmegaaaGreatDoorOM01
import Derived.Laws.Entries
import Derived.Test.YteonnodafmegaaaGreatDoorOM04
set_option linter.unusedSectionVars false
set_option linter.unusedVariables false
set_option linter.unusedSimpArgs false
namespace Go.SL
open Go
def vp (l:List Oper) (m:Nat) (p:List Nat):Bool:=
 l.all ph&&u4 l 0&&lD l.toArray (l.take m) 0&&(List.range' m (l.length-m)).all (fun k=>(List.range m).all fun i=>p.any (Nat.beq i)||((jB l []).getD k 0).testBit i)&&Nat.ble m l.length
structure Hg (l:List Oper) (m:Nat) (p:List Nat):Prop where
 op:∀ o∈l,ph o=true
 ac:u4 l 0=true
 CV:lD l.toArray (l.take m) 0=true
 tail:∀ k,m<=k->k<l.length->∀ i,i<m->i ∉ p->((jB l []).getD k 0).testBit i=true
 le:m<=l.length
variable {p:List Nat}
theorem AP {l:List Oper} {m:Nat} (h:vp l m p=true):Hg l m p:=by
 simp only [vp,Zm,Z4] at h;obtain ⟨⟨⟨⟨h1,h2⟩,h3⟩,h5⟩,h6⟩:=h;refine ⟨h1,h2,h3,fun k hk aK i hi hne=>?_,by simpa using h6⟩;have:=h5 k (Zba.2 ⟨hk,by omega⟩) i (ZW.2 hi);rw [ZT] at this;refine this.resolve_left fun h=>hne ?_;obtain ⟨x,hx,hxe⟩:=ZR.1 h;rw [Zae hxe];exact hx
theorem qp {l:List Oper} {m:Nat} (hc:Hg l m p) {i j:Nat} {x y:Oper} (yy:i<j) (hj:j<m) (hx:l[i]? = some x) (hy:l[j]? = some y):rh l.toArray x y i=true:=by
 have:=nV hc.CV (i:=i) (j:=j) yy (by rw [ZP,if_pos (by omega)];exact hx) (by rw [ZP,if_pos hj];exact hy);simpa using this
theorem AQ {l:List Oper} {m:Nat} (hc:Hg l m p) {listed:Array Bool} (hsz:listed.size=l.length) (Bo:DC l (Ls listed)) {i:Nat} (hi:i∈Region.ready .any l.toArray listed) (hm:m<=i):∀ j,j<m->j ∉ p->Ls listed j:=by
 intro j hj hjp;obtain ⟨o,ho,hn,hd⟩:=(eI hsz).1 hi;have aK:i<l.length:=(Zn.1 ho).1;have Fe:DC l (fun k=>k=i\/Ls listed k):=by
  intro k ok hk hL e he hb;rcases hL with e' | hL
  ·subst e';rw [ho] at hk;cases hk;exact .inr (hd e he hb)
  ·exact .inr (Bo k ok hk hL e he hb)
 rcases jT Fe hc.ac i aK (.inl rfl) j (hc.tail i hm aK j hj hjp) with h | h
 ·omega
 ·exact h
section
variable {P:Program} {c:Cx} {D:List Nat} {sl:aL} {hs:List bd} {Q:Exit->Act->World->Prop} {l:List Oper} {m:Nat}
theorem Pz {p:List Nat} (hc:Hg l m p) (Mj:∀ q∈p,q<m->FH l q) (hQp:∀ c a w,¬ Q (.panic c) a w) {S:List c5} {qK:(Nat->Value)->aL} (hpM:xO P c hs l 0 (l.take m) (fun _=>sl) [] S qK) {a0:Act} (h0:cg sl a0) (Qt:a0.tmps.size=c.nt)
  (tail:∀ β a w,St c D (qK β) (fh β (fun _=>true) S 0++hs) a w->wpAnyIn (FR none) 0 P .any l.toArray Q (l.length-m) (qN l.length m) a w) :
  ∀ (fuel:Nat) (listed:Array Bool) (a:Act) (w:World),aac c D hs l m S a0 fuel listed a w->wpAnyIn (FR none) 0 P .any l.toArray Q fuel listed a w:=by
 have hle:=hc.le;have Qr:pX sl [] (fun _=>sl) []:=fun β t v hv=>.inr ⟨fun oj h=>(Zo h).elim,hv⟩
 obtain ⟨MO,_,mY,iY⟩:=hpM.spec (sl:=sl) [] rfl rfl Qr;rw [Za] at mY iY;rw [ZD,Zs,Zbv hle] at MO;have fH:∀ (j:Nat) (o:Oper),j<m->l[j]? = some o->(l.take m)[j]? = some o:=fun j o hj ho=>by rw [ZP,if_pos hj];exact ho
 have il:∀ (j:Nat) (o:Oper),(l.take m)[j]? = some o->j<m/\l[j]? = some o:=fun j o ho=>by
  rw [ZP] at ho;split at ho
  ·exact ⟨by assumption,ho⟩
  ·cases ho
 have Ym:∀ j,j<m->∃ s,S[j]? = some s:=fun j hj=>⟨S[j]'(by omega),Zc (by omega)⟩
 have pG:∀ fuel listed a w,aac c D hs l m S a0 fuel listed a w->(∀ i,i<m->Ls listed i)->wpAnyIn (FR none) 0 P .any l.toArray Q fuel listed a w:=by
  intro fuel listed a w hI eO;have hL:∀ i,i<l.length->(Ls listed i↔i<m):=fun i _=>⟨fun h=>Z2 fun hm=>hI.hi i hm h,eO i⟩
  obtain ⟨U,D7,vC,yD⟩:=hI.left;have jD:U.Perm (List.range' m (l.length-m)):=by
   rw [ZaO D7 (List.nodup_range')];intro i;rw [vC i,Zba];constructor
   ·rintro ⟨h1,h2⟩;exact ⟨Zbg fun h=>h2 (eO i h),by omega⟩
   ·rintro ⟨h1,h2⟩;exact ⟨by omega,hI.hi i h1⟩
  have hlen:fuel=l.length-m:=by rw [<- yD,jD.length_eq,List.length_range']
  have UI:listed=qN l.length m:=by
   have yu:(qN l.length m).size=l.length:=by simp [qN];omega
   apply Array.ext
   ·rw [hI.sz,yu]
   ·intro i h1 h2;rw [hI.sz] at h1;have h3:=hL i h1;unfold Ls at h3;rw [ZI,ZaR (by rw [hI.sz];exact h1),Zaj] at h3;have h4:(qN l.length m)[i]=decide (i<m):=by
     simp only [qN,List.getElem_toArray];by_cases hi:i<m
     ·rw [ZaJ (by simpa using hi)];simp [hi]
     ·rw [Zav (by simpa using hi)];simp [hi]
    rw [h4];by_cases hi:i<m
    ·rw [h3.2 hi];simp [hi]
    ·have:¬ listed[i]=true:=fun h=>hi (h3.1 h)
     simp [hi,this]
  subst hlen;rw [UI];obtain ⟨β,hm,jZ⟩:=hI.own;have e:fh β (fun i=>listed.getD i false) S 0=fh β (fun _=>true) S 0:=kA fun j s hj=>by
   have kK:j<m:=by have:=(Zn.1 hj).1;omega
   rw [ZD];exact ⟨eO j kK,fun _=>rfl⟩
  rw [e] at hm;refine tail β a w ⟨by rw [Zh];exact hm,fun t v hv=>?_,hI.size,hI.defers⟩;rcases mY β t v hv with ⟨j,oj,s,h1,h2,h3,h4⟩ | ⟨h1,h2⟩
  ·obtain ⟨kK,pF⟩:=il j oj h1;rw [h4];exact jZ j oj t s pF h2 h3 (eO j kK)
  ·rw [hI.Gs t fun j oj hj nb=>h1 oj (Z5 (fH j oj (Z2 fun hm=>hI.hi j hm nb) hj))]
   exact h0 t v h2
 intro fuel
 induction fuel with
 | zero =>
  intro listed a w hI;obtain ⟨U,_,vC,yD⟩:=hI.left;have hU:U=[]:=Zas.1 yD;refine pG 0 listed a w hI fun i hi=>Classical.byContradiction fun hn=>?_;have:=(vC i).2 ⟨by omega,hn⟩;rw [hU] at this;cases this
 | succ fuel ih =>
  intro listed a w hI;by_cases eO:∀ i,i<m->Ls listed i
  ·exact pG _ listed a w hI eO
  ·have hex:∃ i,i<m/\¬ Ls listed i:=Classical.byContradiction fun hh=>eO fun i hi=>Classical.byContradiction fun hn=>hh ⟨i,hi,hn⟩
   obtain ⟨i0,vB,uW⟩:=hex;have main:∀ i,i∈Region.ready .any l.toArray listed->i<m->wpOpIn (FR none) 0 P l.toArray Q i (wpAnyIn (FR none) 0 P .any l.toArray Q fuel (listed.setIfInBounds i true)) a w/\(i∈p->wpAnyIn (FR none) 0 P .any l.toArray Q (fuel+1) listed a w):=by
    intro i hi tQ;obtain ⟨o,ho,hn,pH⟩:=(eI hI.sz).1 hi;obtain ⟨d,NV,s,hd,gq,uK,Dc,dU⟩:=iY i o (Zi _) (fH i o tQ ho);obtain ⟨EX,EY,B,hB,iH⟩:=dU;obtain ⟨β,hm,jZ⟩:=hI.own;have oz:∀ (j:Nat),fL o j=true->Ls listed j:=fun j hw=>by
     obtain ⟨e,he,hb,rK⟩:=eh hw;rw [<- rK];exact pH e he hb
    have E5:∀ (j:Nat),lT l o j=true->Ls listed j:=fun j hw=>by
     unfold lT at hw;rw [ZT] at hw;rcases hw with hw | hw
     ·exact oz j hw
     ·obtain ⟨k,_,hk⟩:=ZR.1 hw;rw [Zm] at hk;have I3:=oz k hk.1;cases hq:l[k]? with
      | none=>rw [hq] at hk;cases hk.2
      | some q =>
       rw [hq] at hk;obtain ⟨e,he,hb,rK⟩:=eh hk.2;rw [<- rK];exact hI.dc k q hq I3 e he hb
    have uI:∀ (j:Nat) (oj:Oper) (e:Nat),l[j]? = some oj->j<m->j≠i->oj.dst=some e->d≠e:=by
     intro j oj e hj kK hne he;rcases Zbt j i with h | h
     ·exact fun e'=>(eN (qp hc h tQ hj ho) he hd).1 e'.symm
     ·exact (eN (qp hc (show i<j by omega) kK ho hj) hd he).1
    have jO:i<listed.size:=by rw [hI.sz];omega
    have H3:ph o=true:=hc.op o (Z5 ho)
    -- DZ du WH DZ operation looks at
    have hT:∀ t∈o.looksAt l.toArray,∀ v,db (NV β) t=some v->a.tmps[t]? = some v:=by
     intro t ht v hv;rcases Dc β t v hv with ⟨j,oj,sj,h1,h2,h3,h4⟩ | ⟨h1,h2⟩
     ·have tq:j<i:=by have:=(Zn.1 h1).1;rw [Zs] at this;omega
      rw [ZP,if_pos tq] at h1 h3;obtain ⟨kK,pF⟩:=il j oj h1;have nb:=oz j ((eN (qp hc tq tQ pF ho) h2 hd).2 (.inl ht));rw [h4];exact jZ j oj t sj pF h2 h3 nb
     ·rw [hI.Gs t fun j oj hj nb jF=>?_]
      ·exact h0 t v h2
      ·have kK:j<m:=Z2 fun hm=>hI.hi j hm nb
       rcases Zaq j i with h | h | h
       ·exact h1 oj (Z5 (by rw [ZP,if_pos h];exact fH j oj kK hj)) jF
       ·subst h;exact hn nb
       ·have hw:=(eN (qp hc h kK ho hj) hd jF).2 (.inr ht);obtain ⟨e,he,hb,rK⟩:=eh hw;have:=hI.dc j oj hj nb e he hb;rw [rK] at this;exact hn this
    have Bk:∀ t v,db (NV β) t=some v->t<c.nt:=by
     intro t v hv;rcases Dc β t v hv with ⟨j,oj,sj,h1,h2,_,_⟩ | ⟨_,h2⟩
     ·have tq:j<i:=by have:=(Zn.1 h1).1;rw [Zs] at this;omega
      rw [ZP,if_pos tq] at h1;obtain ⟨d',_,_,Bp,Bn,_⟩:=iY j oj (Zi _) h1;rw [h2] at Bp;cases Bp;exact Bn
     ·have:=h0 t v h2;rw [<- Qt];exact (Z6.1 this).1
    obtain ⟨a',mm,jV,_⟩:=sV hI.size Bk hT;have Bq:km c hs (S.take i) B β w:=by
     rintro A (rfl | ⟨j,hj,sj,h1,rfl⟩)
     ·exact hm.sublist ((Zbp _ _).trans (Zbl _ _))
     ·have tq:j<i:=by have:=(Zn.1 h1).1;rw [Zs] at this;omega
      rw [ZP,if_pos tq] at h1;have nb:=E5 j (hB j hj);exact hm.sublist ((wj (lst:=fun i=>listed.getD i false) (i:=0) h1 (by rw [ZD];exact nb)).append (Zbp _ _))
    have hq:=iH β a' w mm Bq;have hex:=kg (o:=o) (ops:=l.toArray) H3 jV
    -- Wt a done operation abd adF not ac9 on this one
    have uH:∀ j,Ls listed j->∀ x k,BM l j k=true->β k=An β i x k:=by
     intro j nb x k hk;refine (Am fun e=>?_).symm;subst e;unfold BM at hk;rw [ZT] at hk;rcases hk with hk | hk
     ·have:j=k:=by simpa using hk
      subst this;exact hn nb
     ·have IX:j<l.length:=by
       have kK:j<m:=Z2 fun hm=>hI.hi j hm nb
       omega
      exact hn (jT hI.dc hc.ac j IX nb k hk)
    have kc:∀ v w',NX i s β w v w'->wpAnyIn (FR none) 0 P .any l.toArray Q fuel (listed.setIfInBounds i true) (a.put o.dst v) w':=by
     rintro v w' ⟨x,rfl,hk,fp,jw,iZ,Bl⟩;refine ih _ _ _ ⟨by simpa using hI.sz,?_,?_,by rw [hd];exact hI.defers,by simpa [Act.put,hd] using hI.size,?_,?_,An β i x,?_,?_⟩
     ·intro k ok xY hL e he hb;rw [dx jO] at hL ⊢;rcases hL with e' | hL
      ·subst e';rw [ho] at xY;cases xY;exact .inr (pH e he hb)
      ·exact .inr (hI.dc k ok xY hL e he hb)
     ·intro k xY hL;rw [dx jO] at hL;rcases hL with e | hL
      ·omega
      ·exact hI.hi k xY hL
     ·intro t ht;have h1:d≠t:=fun e=>by subst e;exact ht i o ho ((dx jO).2 (.inl rfl)) hd
      rw [hd];simp only [Act.put,ZO h1];exact hI.Gs t fun j oj hj hL=>ht j oj hj ((dx jO).2 (.inr hL))
     ·obtain ⟨U,D7,vC,yD⟩:=hI.left;refine ⟨U.erase i,D7.erase i,fun k=>?_,?_⟩
      ·rw [D7.mem_erase_iff,vC k,dx jO];constructor
       ·rintro ⟨h1,h2,h3⟩;exact ⟨h2,fun h=>h.elim h1 h3⟩
       ·rintro ⟨h1,h2⟩;exact ⟨fun e=>h2 (.inl e),h1,fun h=>h2 (.inr h)⟩
      ·have XX:i∈U:=(vC i).2 ⟨by omega,hn⟩;rw [ZaW XX,yD];rfl
     ·have ni:Mem c (s.A (An β i x)++(fh β (fun i=>listed.getD i false) S 0++(hs++nB D))) w':=Mem.Yy (As:=[]) hm fun rO _ hf=>by
       rw [show rO=[] from hf];exact ⟨hk,fp,jw,iZ,fun b hb=>.inr (Bl b hb)⟩
      have e1:fh β (fun i=>listed.getD i false) S 0=fh (An β i x) (fun i=>listed.getD i false) S 0:=kA fun j sj hj=>by
       refine ⟨I,fun hl=>?_⟩;rw [ZD] at hl;have kK:j<m:=by have:=(Zn.1 hj).1;omega
       obtain ⟨oj,Qs⟩:∃ oj,l[j]? = some oj:=⟨l[j]'(by omega),Zc (by omega)⟩;obtain ⟨_,_,s2,_,_,hs2,_,Bi⟩:=iY j oj (Zi _) (fH j oj kK Qs);rw [hj] at hs2;cases hs2;exact Bi.EY _ _ (uH j hl x)
      rw [e1,<- Zh] at ni;refine ni.perm ((wu (k:=i) uK ?_ ?_ ?_).append_right _)
      ·rw [ZD];show listed.getD i false=false;have:¬ listed.getD i false=true:=hn;simpa using this
      ·rw [ZD];exact (dx jO).2 (.inl I)
      ·intro j hj;rw [ZD] at hj;simp [ZI,ZO (Ne.symm hj)]
     ·intro j oj e sj hj he lq hL;rw [dx jO] at hL;by_cases tq:j=i
      ·subst tq;rw [ho] at hj;cases hj;rw [hd] at he;cases he;rw [uK] at lq;cases lq;rw [hd];simp [Act.put,hI.size,gq]
      ·have GP:=hL.resolve_left tq;have kK:j<m:=Z2 fun hm=>hI.hi j hm GP
       obtain ⟨_,_,s2,_,_,hs2,_,Bi⟩:=iY j oj (Zi _) (fH j oj kK hj);rw [lq] at hs2;cases hs2;rw [hd];simp only [Act.put,ZO (uI j oj e hj kK tq he)];rw [<- Bi.EX _ _ (uH j GP x)];exact jZ j oj e sj hj he lq GP
    have hq0:=hq;refine ⟨?_,fun V4=>?_⟩
    rotate_left
    ·obtain ⟨d',x',k',ty',pos',af',Fb,abT,fC⟩:=Mj i V4 tQ;rw [ho] at Fb;cases Fb;rw [if_pos (by simp [Region.wanted])] at hq0;unfold qM at hq0;obtain ⟨v,hv,ML⟩:=MW hq0;have Bl:Region.free .any l.toArray listed i=true:=Ii fC fun j hj hne hb=>by
      have pF:j<l.length:=by simpa using hj
      have dK:((jB l []).getD i 0).testBit j=true:=by
       rw [ZI] at hb;simpa [pF] using hb
      have hjs:j<listed.size:=by rw [hI.sz];exact pF
      rcases HG hc.ac hI.sz hI.dc hi dK with e | hL
      ·exact absurd e hne
      ·unfold Ls at hL;rw [ZI,ZaR hjs] at hL ⊢;exact hL
     refine wpAnyIn_take (oi:=⟨some d',.extract x' k',ty',pos',af',none⟩) (v:=v) I (by simpa using ho) abT Bl (by simpa using hi) (fun c a w h=>(hQp c _ w h).elim) ⟨.inl ⟨by simp [Region.wanted],fun w2=>by rw [<- hex];exact ML w2⟩,fun w2=>rfl⟩ (kc v w hv)
    unfold wpOpIn;rw [show l.toArray[i]? = some o from by simpa using ho];simp only [];rw [j5 jV] at hq;split
    ·rename_i hw;rw [if_pos hw] at hq;refine ⟨eA _ _ _ _ _,?_⟩;rw [Oper.semAt_eq _ _ _ (fun cc he=>by simp [ph,he] at H3),<- hex]
     unfold qM at hq
     revert hq
     generalize (execOp a'.eval o).run P w=res;intro hq
     match res,hq with
     | .ok (.value v) w',hq=>exact kc v w' hq
     | .ok (.enter f args) w', ⟨e, cV⟩ =>
      subst e;refine ⟨by simp [FR,Fence.wide],(jQ cV).mono fun e Ah h=>?_⟩;obtain ⟨v,rfl,hq⟩:=h;exact kc v Ah hq
    ·rename_i hw;rw [if_neg hw] at hq;exact ⟨fun _ _=>trivial,kc undef w hq⟩
   by_cases hp:∃ q,q∈p/\q<m/\q∈Region.ready .any l.toArray listed
   ·obtain ⟨q,oA,lo,tp⟩:=hp;exact (main q tp lo).2 oA
   ·refine ⟨fun hr=>?_,fun i hi=>?_⟩
    ·obtain ⟨i,hi⟩:=kS hI.sz hc.ac ⟨i0,by omega,uW⟩;rw [hr] at hi;cases hi
    ·have tQ:i<m:=Z2 fun hm=>by
      have V1:=AQ hc hI.sz hI.dc hi hm;have ML:∀ q,q<m->Ls listed q:=by
       intro q
       induction q using Nat.strongRecOn with
       | _ q ih =>
        intro XB;by_cases Qp:q∈p
        ·by_cases hLq:Ls listed q
         ·exact hLq
         ·refine absurd ⟨q,Qp,XB,(eI hI.sz).2 ⟨l[q]'(by omega),Zc (by omega),hLq,fun e he hb=>?_⟩⟩ hp;have aK:=lR hc.ac (Zc (show q<l.length by omega)) e he hb;exact ih e.on (by omega) (by omega)
        ·exact V1 q XB Qp
      exact uW (ML i0 vB)
     exact (main i hi tQ).1
theorem nr {id:Nat} (m:Nat) (p:List Nat) [sH:VI P] (gr:vp l m p=true) (Mj:∀ q∈p,FH l q) (k:pY P c D hs l Q m 0 m l (fun _=>sl) []):Tr c D sl hs (WP P none (.region id l.toArray true) Q):=fun a w ba=>by
 obtain ⟨S,qK,hp,ht⟩:=k;have h:(Code.region id l.toArray true).wpIn (FR none) 0 P (NP Q) a w:=wpIn_region_any sH.eq (by
  refine Pz (p:=p) (AP gr) (fun q hq _=>Mj q hq) (fun c a w h=>h.elim) hp ba.du ba.size (fun β a w ba=>ht β a w ba) l.toArray.size _ _ _ ⟨by simp,?_,?_,ba.defers,ba.size,fun t _=>rfl,?_,fun _=>undef,?_,?_⟩
  ·exact fun k o _ hL=>absurd hL (gS _ _)
  ·exact fun k _ hL=>gS _ _ hL
  ·exact ⟨List.range l.length,Zbz,fun i=>⟨fun h=>⟨by simpa using h,gS _ _⟩,fun h=>by simpa using h.1⟩,by simp⟩
  ·have e:∀ (T:List c5) (i:Nat),fh (fun _=>undef) (fun i=>(Array.replicate l.toArray.size false).getD i false) T i=[]:=by
    intro T
    induction T with
    | nil=>intro i;rfl
    | cons s T ih =>
     intro i;have:=gS l.toArray.size i;unfold Ls at this;unfold fh;rw [if_neg this,ih];rfl
   rw [e];exact ba.mem.drew
  ·exact fun j o d s _ _ _ hL=>absurd hL (gS _ _))
 exact wpIn_mono h fun e a' w' h=>by
  cases e with
  | panic c=>exact h.elim
  | _=>exact h
end
theorem mH {l:List Oper} {p d k:Nat} {x:Operand} {ty:TypeId} {pos:String} {af:Array Edge} (h:l[p]? = some ⟨some d,.extract x k,ty,pos,af,none⟩) (h2:Region.noSelect l.toArray=true) (h3:Region.free .any l.toArray ((List.range l.length).map fun j=>((jB l []).getD p 0).testBit j).toArray p=true):FH l p:=⟨d,x,k,ty,pos,af,h,h2,h3⟩
theorem dE {P:Program} {c:Cx} {D:List Nat} {sl:aL} {hs:List bd} {Q:Exit->Act->World->Prop} {l:List Oper} {id:Nat} (m:Nat) [sH:VI P] (gr:vp l m []=true) (k:pY P c D hs l Q m 0 m l (fun _=>sl) []):Tr c D sl hs (WP P none (.region id l.toArray true) Q):=nr m [] gr (fun _ h=>absurd h Zo) k
end Go.SL
namespace Go.SL
open Go
def fu:Value->Nat
 | .int _ n=>n.toNat
 | _=>0
theorem qv (b:Nat):fu (.q (b:Int))=b:=by simp [fu]
def xZ:Value->Option Addr×Nat
 | .slice a _ c=>(a,c)
 | _=>(none,0)
def dY (β:Nat->Value):List c5->List bd
 | []=>[]
 | s::S=>s.A β++dY β S
theorem CO (β:Nat->Value):∀ (S:List c5) (i:Nat),fh β (fun _=>true) S i=dY β S
 | [],_=>rfl
 | s::S,i=>by rw [fh,dY,if_pos rfl,CO β S]
section
variable {P:Program} {c:Cx} {D:List Nat} {sl:aL} {hs hs':List bd} {X:Act->World->Prop} {Q:Exit->Act->World->Prop} {l:List Oper} {m i n d:Nat} {op:Op} {ty:TypeId} {pos:String} {af:Array Edge} {rest:List Oper} {SL:(Nat->Value)->aL} {S:List c5}
theorem iA (l:List Oper) (i:Nat):BM l i i=true:=by simp [BM]
theorem tb {o:Oper} {s:c5} (hd:o.dst=some d) (gq:Nat.blt d c.nt=true) (h:FE P c hs l i o SL S s) (k:pY P c D hs l Q m (i+1) n rest (fun β=>(d,s.F β)::SL β) (S++[s])):pY P c D hs l Q m i (n+1) (o::rest) SL S:=by
 obtain ⟨S',qK,hp,ht⟩:=k;exact ⟨S',qK,.step hd (by simpa [Zac] using gq) h.toT hp,ht⟩
variable {F:(Nat->Value)->Value} {want:Bool}
theorem df {dst:Option Tmp} {j gs:Nat} (hj:((l.toArray[j]?).bind (·.dst))=some gs) (hq:∀ β,db (SL β) gs=some (.bool want))
  (k:pY P c D hs l Q m i (n+1) (⟨dst,op,ty,pos,af,none⟩::rest) SL S):pY P c D hs l Q m i (n+1) (⟨dst,op,ty,pos,af,some (j,want)⟩::rest) SL S:=by
 obtain ⟨S',qK,hp,ht⟩:=k;refine ⟨S',qK,?_,ht⟩;cases hp with
 | step hd gq h t =>
  obtain ⟨h1,h2,B,hB,hr⟩:=h;refine .step hd gq ⟨h1,h2,B,hB,fun β a w hs1 hb=>?_⟩ t;have:=hr β a w hs1 hb;rw [if_pos (by simp [Region.wanted])] at this;rw [lN (o:=⟨dst,op,ty,pos,af,some (j,want)⟩) (c0:=true) I hj hs1 (by rw [hq β];rfl),if_pos (by simp)];exact this
theorem dV {j gs:Nat} {v:Value} (hj:((l.toArray[j]?).bind (·.dst))=some gs) (hq:∀ β,db (SL β) gs=some v) (hv:v=undef\/v=.bool (!want)) (hd:Nat.blt d c.nt=true)
  (k:pY P c D hs l Q m (i+1) n rest (fun β=>(d,undef)::SL β) (S++[⟨fun _=>undef,fun _=>[]⟩])):pY P c D hs l Q m i (n+1) (⟨some d,op,ty,pos,af,some (j,want)⟩::rest) SL S:=
 tb (s:=⟨fun _=>undef,fun _=>[]⟩) I hd ⟨fun _ _ _=>rfl,fun _ _ _=>rfl,[],by simp,fun β a w h1 h2=>by
  have hw:∃ c0 q,gv c0 (.bool q)=v/\(c0&&(q==want))=false:=by
   rcases hv with e | e
   ·exact ⟨false,want,by rw [e];rfl,I⟩
   ·exact ⟨true,!want,by rw [e];rfl,by cases want <;> rfl⟩
  obtain ⟨c0,q,e,V7⟩:=hw;rw [lN (o:=⟨some d,op,ty,pos,af,some (j,want)⟩) (c0:=c0) (q:=q) I hj h1 (by rw [hq β,e]),if_neg (by simpa using V7)];exact ⟨β i,I,.refl _ _,[],Zan,I,by simp⟩⟩ k
theorem eS (k:∀ β,Tr c D (SL β) (dY β S++hs) (Left P l.toArray Q (l.length-m) (qN l.length m))):pY P c D hs l Q m i 0 rest SL S:=
 ⟨S,SL,.nil,fun β=>by rw [CO];exact k β⟩
theorem au (hr:∀ β,di P c (SL β) hs ⟨some d,op,ty,pos,af,none⟩ (F β)) (hi:oF l i F) (hd:Nat.blt d c.nt=true) (k:pY P c D hs l Q m (i+1) n rest (fun β=>(d,F β)::SL β) (S++[⟨F,fun _=>[]⟩])) :
  pY P c D hs l Q m i (n+1) (⟨some d,op,ty,pos,af,none⟩::rest) SL S:=
 tb (s:=⟨F,fun _=>[]⟩) I hd ⟨hi,fun _ _ _=>rfl,[],by simp,fun β a w h1 h2=>by
  rw [if_pos (by simp [Region.wanted])];unfold qM;rw [(hr β).2 a w h1 h2.mem];exact ⟨β i,by rw [vL],.refl _ _,[],Zan,I,by simp⟩⟩ k
theorem dq {f:FuncId} {args:(Nat->Value)->List Value} (B:List Nat) (hB:(B.all fun j=>fL ⟨some d,op,ty,pos,af,none⟩ j)=true) (hr:∀ β,mA P (SL β) ⟨some d,op,ty,pos,af,none⟩ f (args β)) (hi:oF l i F) (hd:Nat.blt d c.nt=true)
  (hc:∀ β w,km c hs S B β w->aj P f (args β) w (F β)) (k:pY P c D hs l Q m (i+1) n rest (fun β=>(d,F β)::SL β) (S++[⟨F,fun _=>[]⟩])) :
  pY P c D hs l Q m i (n+1) (⟨some d,op,ty,pos,af,none⟩::rest) SL S:=
 tb (s:=⟨F,fun _=>[]⟩) I hd ⟨hi,fun _ _ _=>rfl,B,fun j hj=>Z4.1 hB j hj,fun β a w h1 h2=>by
  rw [if_pos (by simp [Region.wanted])];unfold qM;rw [(hr β).2 a w h1];exact ⟨I,(hc β w h2).mono fun e w' ⟨he,hk⟩=>⟨F β,he,β i,by rw [vL],hk,[],Zan,I,by simp⟩⟩⟩ k
theorem eB {ι:Type} {Φ:ι->Prop} {val:ι->Value} {own:ι->List bd} (g:Value->ι) (hg:∀ x,∃ v,g v=x) {f:FuncId} {args:(Nat->Value)->List Value} (B:List Nat) (hB:(B.all fun j=>fL ⟨some d,op,ty,pos,af,none⟩ j)=true)
  (hr:∀ β,mA P (SL β) ⟨some d,op,ty,pos,af,none⟩ f (args β)) (hd:Nat.blt d c.nt=true) (hc:∀ β w,km c hs S B β w->a8 P f (args β) w [] Φ val own)
  (k:pY P c D hs l Q m (i+1) n rest (fun β=>(d,val (g (β i)))::SL β) (S++[⟨fun β=>val (g (β i)),fun β=>own (g (β i))⟩])) :
  pY P c D hs l Q m i (n+1) (⟨some d,op,ty,pos,af,none⟩::rest) SL S:=
 tb (s:=⟨fun β=>val (g (β i)),fun β=>own (g (β i))⟩) I hd ⟨fun β β' h=>by simp only [h i (iA l i)],fun β β' h=>by simp only [h i (iA l i)],B,fun j hj=>Z4.1 hB j hj,fun β a w h1 h2=>by
  rw [if_pos (by simp [Region.wanted])];unfold qM;rw [(hr β).2 a w h1];refine ⟨I,(hc β w h2).mono fun e w' ⟨x,he,_,hk,fp,hn,hs',hf⟩=>?_⟩;obtain ⟨v,hv⟩:=hg x;refine ⟨val x,he,v,by simp only [jk,hv],hk,fp,hn,by simp only [jk,hv];exact hs',fun b hb=>?_⟩;rcases hf b hb with h | h
  ·cases h
  ·exact h⟩ k
theorem kE {V:Nat->Value} {ob:(Nat->Value)->Obj} (hr:∀ β,qL P c (SL β) hs ⟨some d,op,ty,pos,af,none⟩ V (ob β)) (hi:∀ β β',(∀ k,k≠i->BM l i k=true->β k=β' k)->ob β=ob β') (hd:Nat.blt d c.nt=true)
  (k:pY P c D hs l Q m (i+1) n rest (fun β=>(d,V (fu (β i)))::SL β) (S++[⟨fun β=>V (fu (β i)),fun β=>[bE (fu (β i)) (ob β)]⟩])) :
  pY P c D hs l Q m i (n+1) (⟨some d,op,ty,pos,af,none⟩::rest) SL S:=
 tb (s:=⟨fun β=>V (fu (β i)),fun β=>[bE (fu (β i)) (ob β)]⟩) I hd ⟨fun β β' h=>by simp only [h i (iA l i)],fun β β' h=>by simp only [h i (iA l i),hi β β' fun k _ hk=>h k hk],[],by simp,fun β a w h1 h2=>by
  rw [if_pos (by simp [Region.wanted])];unfold qM;rw [(hr β).2 a w h1 h2.mem];have e:ob (An β i (.q (w.heap.size:Int)))=ob β:=hi _ _ fun k hk _=>Am hk
  exact ⟨.q (w.heap.size:Int),by simp only [jk,qv],.alloc _ _ _,[w.heap.size],by simp,⟨[w.heap.size],[],I,⟨by simp only [jk,qv],by simp only [jk,qv];rw [e];exact World.alloc_heap_new w (ob β)⟩,I⟩,by simp⟩⟩ k
end
end Go.SL
namespace Go.SL
open Go
section
variable {P:Program} {c:Cx} {sl:aL} {hs:List bd} {dst:Option Tmp} {ty:TypeId} {pos:String} {af:Array Edge} {g:Option (Nat×Bool)}
theorem ez {x:Operand} {a:Addr} (hx:Is sl x (.pointer (some a))):di P c sl hs ⟨dst,.nilCheck x,ty,pos,af,g⟩ (.pointer (some a)):=
 ⟨by simp,fun ac w ha _=>by simp [execOp,hx ac ha]⟩
end
section
variable {P:Program} {c:Cx} {D:List Nat} {hs:List bd} {Q:Exit->Act->World->Prop} {l:List Oper} {m i n d:Nat} {op:Op} {ty:TypeId} {pos:String} {af:Array Edge} {rest:List Oper} {SL:(Nat->Value)->aL} {S:List c5}
theorem dO {v:Value}:oF l i (fun _=>v):=fun _ _ _=>rfl
end
section
variable {P:Program} {c:Cx} {D:List Nat} {sl:aL} {hs:List bd} {Q:Exit->Act->World->Prop} {ops:Array Oper} {fuel:Nat} {listed:Array Bool}
end
section
variable {P:Program} {r:Option Nat} {c:Cx} {D:List Nat} {sl:aL} {hs:List bd} {Q:Exit->Act->World->Prop} {ops:Array Oper} {fuel i:Nat} {listed:Array Bool}
def Aa (P:Program) (r:Option Nat) (ops:Array Oper) (Q:Exit->Act->World->Prop) (fuel:Nat) (listed:Array Bool):Act->World->Prop:=wpAnyIn (FR r) 0 P .any ops (NP Q) fuel listed
def SZ (P:Program) (r:Option Nat) (c:Cx) (D:List Nat) (sl:aL) (hs:List bd) (ops:Array Oper) (Q:Exit->Act->World->Prop) (fuel:Nat) (listed:Array Bool) (i:Nat):Prop:=
 ∀ a w,St c D sl hs a w->wpOpIn (FR r) 0 P ops (NP Q) i (Aa P r ops Q fuel (listed.setIfInBounds i true)) a w
theorem ur {rs:List Nat} (hr:Region.ready .any ops listed=rs) (hne:rs≠[]) (h:∀ i∈rs,SZ P r c D sl hs ops Q fuel listed i):Tr c D sl hs (Aa P r ops Q (fuel+1) listed):=fun a w ba=>
 wpAnyIn_all hr hne fun i hi=>h i hi a w ba
theorem wI {d:Option Tmp} {op:Op} {ty:TypeId} {pos:String} {af:Array Edge} {g:Option (Nat×Bool)} (hi:ops[i]? = some ⟨d,op,ty,pos,af,g⟩) (h:Tr c D sl hs (WL P r ops (Exit.then (Aa P r ops Q fuel (listed.setIfInBounds i true)) (NP Q)) [⟨d,op,ty,pos,af,g⟩])):SZ P r c D sl hs ops Q fuel listed i:=fun a w ba=>by
 have h1:=h a w ba;unfold wpOpIn;simp only [hi];unfold WL at h1;split
 ·rename_i hw;rw [if_pos hw] at h1;exact Oper.vJ (fun a w h=>h) (fun c a w h=>h) (fun h=>h) h1
 ·rename_i hw;rw [if_neg hw] at h1;exact ⟨fun _ _=>trivial,h1⟩
theorem wU (hr:Region.ready .any ops listed=[]) (k:Tr c D sl hs (Q .normal)):Tr c D sl hs (Aa P r ops Q fuel listed):=fun a w ba=>
 wpAnyIn_done (Q:=NP Q) hr (k a w ba) fuel
end
end Go.SL
namespace Go.SL
open Go
variable {P:Program} {c:Cx} {sl:aL} {hs:List bd} {dst:Option Tmp} {ty:TypeId} {pos:String} {af:Array Edge} {g:Option (Nat×Bool)}
end Go.SL
namespace Go.SL
open Go
section
variable {P:Program} {c:Cx} {sl:aL} {hs:List bd} {dst:Option Tmp} {ty:TypeId} {pos:String} {af:Array Edge} {g:Option (Nat×Bool)}
theorem zm {t e:TypeId} {m n:Nat} {agg:Bool} {x:Operand} {b o:Nat} [hu:ja P t (.array m e)] [hT:Ty P e agg n] (hx:Is sl x (.pointer (some ⟨b,o,none⟩))) :
  di P c sl hs ⟨dst,.slice t x none none none,ty,pos,af,g⟩ (.slice (some ⟨b,o,none⟩) m m):=
 ⟨by simp,fun ac w ha _=>by
  simp only [execOp,hx ac ha,Option.map];refine value_of ?_;simp [Instr.sliceAt,aY hu.eq,Instr.sureAddr,Instr.sliceBounds,gp (t:=e) (agg:=agg) (n:=n),eM]⟩
end
end Go.SL
namespace Go.Proofs.A1
open Go Go.SL
open Tryz
open Tryz renaming prog->T_
theorem RX (x:Int) (w:World):aj T_ 342 [.q x] w (.bool false):=by
 refine ah func342 I I ?_;refine Jr<|Ja I<|Ji<|Jv I<|Jv I<|JD I<|Ja I<|Jn<|Je<|JT ?_;simp
theorem DE (x y:Int) (w:World):aj T_ 300 [.q x,.q y] w (.q (lr x y)):=by
 refine ah func300 I I ?_
 (refine Jr<|Ja I<|Ji<|Jv I<|ai bM I (fun w' aB=>(RX x w'))<|Ja I<|Ji<|Jv I<|ai bM I (fun w' aB=>(RX y w'))<|Ja I<|Jn<|Jq<|Jr<|Jv I<|Jn<|ch (.of I)<|Jk<|Jq<|Jr<|Jv I<|Jn<|ch (.of I)<|Jk<|Jq<|Jr<|Jv I<|Jv I<|JA I<|Jn<|gm I (fun az=>?_) fun az=>?_;refine Jr<|Ja I<|Jn<|Ju<|JT ?_;rotate_left;refine Jk<|Jq<|Jr<|Jv I<|Jv I<|JE I<|Jn<|gm I (fun az=>?_) fun az=>?_;refine Jr<|Ja I<|Jn<|Ju<|JT ?_;rotate_left;refine Jk<|Jr<|Ja I<|Jn<|Je<|JT ?_;rotate_right;rotate_right)
 ·rw [lr,if_pos az]
 ·rename_i h1;rw [lr,if_neg h1,if_pos az]
 ·rename_i h1;rw [lr,if_neg h1,if_neg az]
variable {w:World}
theorem W6 {lv:Value} {l:List Int} (h:Rd w lv 1 (ints l)):aj T_ 319 [lv] w (.q (aZ l)):=by
 obtain ⟨a,cp,b,o,rfl,dd,bO,ha,hc⟩:=h;rw [dw] at *;unfold maxLen at bO;refine ah func319 I I ?_;refine Jr<|Ja I<|Ji<|Ja I<|Jn<|Jq<|Jr<|Jv I<|JI I<|Jv I<|Jn<|J0 ?_;refine aV (fun k:Nat=>k<=l.length/\aZ l=aZ (l.drop k)) (fun k=>[(8,.int .i64 k),(7,.int .i64 l.length),(6,.slice a l.length cp),(3,.int .i64 0)]) (fun _=>[]) (fun k=>l.length-k) ?_ ?_
 ·apply aI 0 ⟨Zi _,I⟩
  case hs1=>exact bS
  case ht=>(try simp only [Ze,Zf,Za]);exact .nil
 rintro k ⟨hk,hf⟩;by_cases aK:k<l.length
 ·have cq:=ha (kb aK);have c0:w.cell? ⟨b,o+k*1,none⟩=some (.q l[k]):=(hc k _ (iV aK)).2 0 _ I;have iy:=tX aK
  (refine Jr<|JA I<|Jn<|Jq<|Jd I fun az=>Jk<|Jq<|J0<|Jr<|ab (fT cq az) I<|ab (ag (.of I) (At.base c0 I)) I<|Ja I<|Ji<|Jv I<|Jv I<|JD I<|Jn<|gm I (fun az=>?_) fun az=>?_;refine Jr<|Jv I<|Ja I<|Jn<|Je<|Jm<|Jh<|Jh<|Jm<|Jh<|JT ?_;rotate_left;refine Jw<|Jj<|Jt<|Jg<|JB I (by omega)<|Jv I<|Jn ?_;rotate_right)
  ·rw [hf,iy,if_pos az]
  ·apply aH (k+1) ⟨by omega,by rw [hf,iy,if_neg az]⟩ (by omega)
   case hs1=>exact bS
   case ht=>(try simp only [Ze,Zf,Za]);exact .nil
 ·rw [List.drop_eq_nil_of_le (by omega)] at hf;refine Jr<|JA I<|Jn<|Jq<|Jc I fun az=>Jp<|Jl<|Jo<|Jt<|Jr<|Jv I<|Ja I<|Jn<|Je<|JT ?_;rw [hf];rfl
theorem zV {lv mv:Value} {l m:List Int} (h:Rd w lv 1 (ints l)) (h':Rd w mv 1 (ints m)):aj T_ 236 [lv,mv] w (.q (my l m)):=by
 obtain ⟨a,cp,b,o,rfl,dd,bO,ha,hc⟩:=h;rw [dw] at *;obtain ⟨a',Wg,b',o',rfl,oD,Sb,cq,hc'⟩:=h';rw [dw] at *;unfold maxLen at bO Sb;refine ah func236 I I ?_;refine Jr<|Ja I<|Jn<|Jq<|Jr<|Jv I<|JI I<|Jv I<|Jn<|J0 ?_;refine aV (fun k:Nat=>k<=l.length/\k<=m.length/\my l m=my (l.drop k) (m.drop k)) (fun k=>[(11,.int .i64 k),(10,.int .i64 l.length),(9,.slice a l.length cp),(0,.slice a l.length cp),(1,.slice a' m.length Wg)]) (fun _=>[]) (fun k=>l.length-k) ?_ ?_
 ·apply aI 0 ⟨Zi _,Zi _,I⟩
  case hs1=>exact bS
  case ht=>(try simp only [Ze,Zf,Za]);exact .nil
 rintro k ⟨hk,xY,hf⟩;by_cases aK:k<l.length
 ·have mm:=ha (kb aK);have c0:w.cell? ⟨b,o+k*1,none⟩=some (.q l[k]):=(hc k _ (iV aK)).2 0 _ I;by_cases gV:k<m.length
  ·have jV:=cq (kb gV);have c1:w.cell? ⟨b',o'+k*1,none⟩=some (.q m[k]):=(hc' k _ (iV gV)).2 0 _ I;have iy:=Ir aK gV
   (refine Jr<|JA I<|Jn<|Jq<|Jd I fun az=>Jk<|Jq<|J0<|Jr<|Jv I<|ab (fT mm az) I<|ab (ag (.of I) (At.base c0 I)) I<|Ja I<|Ja I<|Jn<|Jq<|Jr<|Jv I<|Jv I<|JI I<|JG I<|Jn<|Jc I fun az=>Jk<|Jr<|Jv I<|Jv I<|ab (an (.of I) (.of I) jV (by omega) (by omega) aW) I<|ab (ag (.of I) (At.base c1 I)) I<|Ja I<|Ji<|Jv I<|Jv I<|ai bb I (fun w' aB=>(DE _ _ w'))<|Ja I<|Ji<|Jv I<|JD I<|Jn<|gm I (fun az=>?_) fun az=>?_;refine Jr<|Jv I<|Ja I<|Jn<|Je<|Jm<|Jh<|Jh<|Jm<|Jh<|JT ?_;rotate_left;refine Jw<|Jj<|Jt<|Jg<|JB I (by omega)<|Jv I<|Jn ?_;rotate_right)
   ·rw [hf,iy,if_pos az]
   ·apply aH (k+1) ⟨by omega,by omega,by rw [hf,iy,if_neg az]⟩ (by omega)
    case hs1=>exact bS
    case ht=>(try simp only [Ze,Zf,Za]);exact .nil
  ·rw [Zt aK,List.drop_eq_nil_of_le (show m.length<=k by omega)] at hf
   (refine Jr<|JA I<|Jn<|Jq<|Jd I fun az=>Jk<|Jq<|J0<|Jr<|Jv I<|ab (fT mm az) I<|ab (ag (.of I) (At.base c0 I)) I<|Ja I<|Ja I<|Jn<|Jq<|Jr<|Jv I<|Jv I<|JI I<|JG I<|Jn<|Jd I fun az=>Jr<|Ja I<|Jn<|Ju<|Jm<|Jh<|Jh<|Jm<|Jh<|JT ?_)
   rw [hf];rfl
 ·rw [List.drop_eq_nil_of_le (show l.length<=k by omega),Nj,ZaS] at hf;by_cases gV:k<m.length
  ·rw [if_pos (by omega)] at hf;refine Jr<|JA I<|Jn<|Jq<|Jc I fun az=>Jp<|Jl<|Jo<|Jt<|Jq<|Jr<|Jv I<|JI I<|Jv I<|JI I<|JA I<|Jn<|Jd I fun az=>Jr<|Ja I<|Jn<|Ju<|JT ?_;rw [hf]
  ·rw [if_neg (by omega)] at hf;refine Jr<|JA I<|Jn<|Jq<|Jc I fun az=>Jp<|Jl<|Jo<|Jt<|Jq<|Jr<|Jv I<|JI I<|Jv I<|JI I<|JA I<|Jn<|Jc I fun az=>Jk<|Jr<|Ja I<|Jn<|Je<|JT ?_;rw [hf]
def oG (r:Ro) (x:Ti):Int:=aZ [fQ r x.fr,fQ r x.to,cn (decide (x.fr=x.to)) 24]
theorem Rf {r:Ro} {s d t p:Value} (x:Ti) {w w1:World} (h:RR w1 r s d t p):aj T_ 145 [RA r s d t p,.agg x.cells.toArray] w (.q (oG r x)):=by
 obtain ⟨h1,h2,h3,h4⟩:=h.one;have XZ:∀ m w',aj T_ 136 [.agg #[.int .i64 r.lv,.int .i64 r.ma,s,d,t,p],.int .i64 m] w' (.int .i64 (fQ r m)):=fun m w'=>GO m h
 unfold RA Ti.cells;refine ah func145 I I ?_
 (refine Jr<|Jy I I fun _ _=>Jy I I fun _ _=>Ja I<|Ji<|bJ I I ae<|JL I .here I<|bJ I I ae<|JL I .here I<|ab (aU (.o I (.o I .nil)) ak) I<|Jz I I fun _ _=>ao (.of I) (.of I) .here I I (gO I I) (bz I) ak<|Jn<|Jq ?_)
 with_reducible refine cY 17 (by kernel_rfl) ?_
 (refine ar (cm bL) I<|ar k6 I<|ar (gX (.there .here)) I<|aX bb I (fun w' aB=>(XZ _ w'))<|ar (cm bL) I<|ar k6 I<|ar (gX (.there .here)) I<|aX bb I (fun w' aB=>(XZ _ w'))<|ar (cm .here) I<|ar k6 I<|ar (gX (.there .here)) I<|ar k6 I<|ar (gX (.there .here)) I<|ar (aU (.o I (.o I .nil)) ak) I<|ar (vo (.of I) (.of I) (kI (kI mJ)) I) I<|aX bb I (fun w' aB=>(eG _ 24 w'))<|eC (aG (.o I (.o I (.o I .nil))) I I I I) I I ?_)
 with_reducible refine dA I fun bq ml=>?_
 (refine ai bM I (fun w' aB=>(ee (Mem.dz aB .here I I) (bY.cons (bY.cons (bY.cons bY.nil)))))<|Ja I<|Jn<|Je<|JT ?_)
 have e:(decide True&&(decide (x.to=x.fr)&&true))=decide (x.fr=x.to):=by
  rw [ZaQ];simp [eq_comm]
 unfold oG;rw [<- e]
theorem we {P:Program} {c:Cx} {sl:aL} {hs:List bd} {dst:Option Tmp} {ty:TypeId} {pos:String} {af:Array Edge} {g:Option (Nat×Bool)} {t kt et:TypeId} {x y:Operand} {b:Nat} {k:ByteArray} {l:List (ByteArray×Value)} {z V:Value} [hu:ja P t (.map kt et)] [H6:ja P kt .string] [hz:mn P et z]
  (hx:Is sl x (.map (some b))) (hy:Is sl y (.string k)) (hl:Looks c hs b (fun s:ByteArray=>Value.string s) l) (e:(fc k l).getD z=V) :
  di P c sl hs ⟨dst,.lookup t x y true,ty,pos,af,g⟩ (.tuple #[V,.bool (fc k l).isSome]):=e ▸ EC LV hx hy hl
theorem Ln {r:Ro} (hd:Ea r) (s:ByteArray):∃ (a b c:Int) (one:Bool),(fc s (pe r)).getD (mq 0 0 0)=mq a b c/\(fc s (pe r)).isSome=one/\(one=true->a=eE r s/\b=kP r s/\c=kq r s)/\(one=false->kP r s<0/\kq r s<0):=by
 rw [rf hd];cases h:jr (eL r) s with
 | true=>exact ⟨_,_,_,true,rfl,rfl,fun _=>⟨rfl,rfl,rfl⟩,fun h=>by cases h⟩
 | false =>
  refine ⟨0,0,0,false,I,I,(fun h=>by cases h),fun _=>?_⟩;have hn:s ∉ eL r:=fun hm=>by rw [fI.2 hm] at h;cases h
  unfold eL at hn;rw [Zz,Zz,not_or,not_or] at hn;have e1:=cH.2 hn.1.1;have e2:=cH.2 hn.1.2;have e3:=cH.2 hn.2;unfold kP kq;rw [if_neg (by omega),if_neg (by omega),if_neg (by omega),if_neg (by omega)];omega
def mX (r:Ro) (x:Po):Int:=aZ [fK x.lv 0 (r.lv-1),cn (decide (kP r x.ou<0)) 10,cn (decide (kq r x.ip<0)) 10,cn (decide (kP r x.ou≠kq r x.ip)) 24]
def Fx (r:Ro):Option Po->List Int
 | none=>[-1,-1]
 | some x=>[x.lv,eE r x.ou]
def HL (r:Ro) (po:List Po) (k:Nat):Int:=
 match po[k]? with
 | none=>0
 | some x=>if mX r x≠0 then mX r x else if my [x.lv,eE r x.ou] (Fx r (if k=0 then none else po[k-1]?))<=0 then 11 else 0
theorem sh {r:Ro} {po:List Po} {k:Nat} (h:k<po.length):HL r po k=if mX r po[k]≠0 then mX r po[k] else if my [po[k].lv,eE r po[k].ou] (Fx r (if k=0 then none else po[k-1]?))<=0 then 11 else 0:=by
 unfold HL;rw [Zc h]
theorem Py {r:Ro} {x:Po} {a b c a' b' c':Int} {one two:Bool} (h1:one=true->a=eE r x.ou/\b=kP r x.ou/\c=kq r x.ou) (h2:one=false->kP r x.ou<0/\kq r x.ou<0)
  (h3:two=true->a'=eE r x.ip/\b'=kP r x.ip/\c'=kq r x.ip) (h4:two=false->kP r x.ip<0/\kq r x.ip<0) :
  aZ [fK x.lv 0 (r.lv-1),cn (!one||decide (b<0)) 10,cn (!two||decide (c'<0)) 10,cn (decide (b≠c')) 24]=mX r x/\(mX r x=0->one=true):=by
 unfold mX;cases one with
 | true =>
  obtain ⟨-,rfl,-⟩:=h1 rfl;cases two with
  | true=>obtain ⟨-,-,rfl⟩:=h3 rfl;exact ⟨rfl,fun _=>rfl⟩
  | false =>
   have:=(h4 I).2;refine ⟨?_,fun _=>rfl⟩;simp [aZ,cn,this]
 | false =>
  have:=(h2 I).1;constructor
  ·simp [aZ,cn,this]
  ·intro h;simp [aZ,cn,this] at h;split at h <;> simp_all
def kp (r:Ro) (po:List Po):Int:=jd (HL r po) po.length
theorem yJ {r:Ro} {s d t p:Value} (h:RR w r s d t p) (hd:Ea r) (cZ:r.de.length+r.ti.length<=1000000) (tO:InI (r.lv-1)):aj T_ 146 [RA r s d t p] w (.q (kp r r.po)):=by
 obtain ⟨h1,h2,h3,h4⟩:=h.one;have hp:=h.po;obtain ⟨a,cp,b,o',rfl,dd,bO,ha,hc⟩:=hp;rw [cR] at *;unfold maxLen at bO;unfold RA;refine ah func146 I I ?_;refine Jr<|Jy I I fun _ _=>Ja I<|Ji<|ab (cm .here) I ?_;refine JN bM I (fun w1 aT=>Gk (h.keeps aT.keeps) cZ) ?_;intro bm _;dsimp only [id_eq,Zb,Za]
 (refine Ja I<|Ji<|ab (aU (.o I (.o I .nil)) ak) I<|Jz I I fun _ _=>ao (.of I) (.of I) .here I I (gO I I) (bz I) ak<|Jn<|Jq<|Jr<|bJ I I ae<|JL I bL I<|JI I<|Jv I<|Jn<|J0 ?_)
 rename_i b1 tT _ b4 tS
 refine aV (ι:=Nat×Int×Int) (fun x=>x.1<=r.po.length/\(∀ i,i<x.1->HL r r.po i=0)/\[x.2.1,x.2.2]=Fx r (if x.1=0 then none else r.po[x.1-1]?))
  (fun x=>[(19,.q (x.1:Nat)),(18,.q r.po.length),(17,.slice a r.po.length cp),(4,.p b4),(3,.map (some bm)),(2,.q 0),(1,.p b1)])
  (fun x=>[bE b4 (.cells #[.q x.2.1,.q x.2.2] 299 (0,0)),mp (fun s:ByteArray=>Value.string s) bm (pe r),JP b1 r s d t (.slice a r.po.length cp)])
  (fun x=>r.po.length-x.1) ?_ ?_
 ·apply aI (0,-1,-1) ⟨Zi _,fun i h=>by omega,I⟩
  case hs1=>exact bS
  case ht=>(try simp only [Ze,Zf,Za]);exact .h3 .nil
 rintro ⟨k,l0,l1⟩ ⟨hk,hz,hl⟩;dsimp only at hk hz hl ⊢;by_cases aK:k<r.po.length
 ·have cq:=ha (j8 aK);obtain ⟨fo,aC⟩:=hc k _ (ie aK);unfold Po.cells at aC;have iy:=sh (r:=r) aK;obtain ⟨o1,o2,o3,one,e1,e2,e3,e4⟩:=Ln hd (r.po[k]).ou;obtain ⟨i1,i2,i3,two,q1,q2,q3,q4⟩:=Ln hd (r.po[k]).ip;obtain ⟨v1,v2⟩:=Py e3 e4 q3 q4;unfold mq at e1 q1
  (refine Jr<|JA I<|Jn<|Jq<|Jd I fun az=>Jk<|Jq<|J0<|Jr<|ab (fT cq az) I<|ab (iO (eZ.base aC I)) I<|Jz I I fun _ _=>ao (.of I) (.of I) .here I I (fx I I I) (bz I) ak<|Ji<|Jv I<|bJ I I ae<|JL I .here I ?_)
  refine ab (we (.of I) (.of I) (Looks.mp bL) e1) I ?_;rw [e2]
  (refine Jv I<|JJ I I<|JJ I I<|Jz I I fun _ _=>ao (.of I) (.of I) .here I I (fx I I I) (bz I) ak<|Ja I<|Ji<|Jv I<|bJ I I ae<|JL I (.there .here) I ?_)
  refine ab (we (.of I) (.of I) (Looks.mp cX) q1) I ?_;rw [q2]
  (refine Jv I<|JJ I I<|JJ I I<|Jz I I fun _ _=>ao (.of I) (.of I) .here I I (fx I I I) (bz I) ak<|Ja I<|Jn<|Jq<|Jq ?_)
  with_reducible refine cY 29 (by kernel_rfl) ?_
  (refine ar k6 I<|ar (gX bL) I<|ar k6 I<|ar (gX eu) I<|ar (q8 (.of I) (.of I) tO) I<|aX ef I (fun w' aB=>(np _ 0 _ w'))<|ar k8 I<|ar (dN (.of I)) I<|ar k8 I<|ir I I inferInstance (fun hg br=>(aq (.of I) ae)) I<|ir I I inferInstance (fun hg br=>(ag (.bF hg I) (At.lit (.there .here) I))) I<|ir I I inferInstance (fun hg br=>(lh (.bF hg I) (.of I))) I<|ar (bA (.of I) I) I<|aX bb I (fun w' aB=>(eG _ 10 w'))<|ar k8 I<|ar (dN (.of I)) I<|ar k8 I<|ir I I inferInstance (fun hg br=>(aq (.of I) ae)) I<|ir I I inferInstance (fun hg br=>(ag (.bF hg I) (At.lit .here I))) I<|ir I I inferInstance (fun hg br=>(lh (.bF hg I) (.of I))) I<|ar (bA (.of I) I) I<|aX bb I (fun w' aB=>(eG _ 10 w'))<|ar k6 I<|ar (gX (.there .here)) I<|ar k6 I<|ar (gX .here) I<|ar (jl (.of I) (.of I)) I<|aX bb I (fun w' aB=>(eG _ 24 w'))<|eC (aG (.o I (.o I (.o I (.o I .nil)))) I I I I) I I ?_)
  with_reducible refine dA I fun bq ml=>?_
  (refine ai bM I (fun w' aB=>(ee (Mem.dz aB .here I I) (bY.cons (bY.cons (bY.cons (bY.cons bY.nil))))))<|Ja I<|Ji<|Jv I<|JD I<|Jn<|gm I (fun az=>?_) fun az=>?_;refine Jr<|Jv I<|Ja I<|Jn<|Ju<|Jm<|Jh<|Jh<|Jm<|Jh<|JT ?_;rotate_left;refine Jk<|Jr<|bJ I I ae<|JL I cX I<|bJ I I ae<|JL I bL I<|ab (aU (.o I (.o I .nil)) ak) I<|Jz I I fun _ _=>ao (.of I) (.of I) .here I I (gO I I) (bz I) ak<|Jn<|Jq<|Jq ?_;rotate_right)
  ·rw [v1] at az ⊢;have hb:kp r r.po=mX r r.po[k]:=(eV hz aK (by rw [iy,if_pos az];exact az)).trans (by rw [iy,if_pos az]);rw [hb]
  rw [v1] at az;have hE:mX r r.po[k]=0:=Zp.1 az;obtain ⟨g1,g2,g3⟩:=e3 (v2 hE);rename_i ND ac5
  with_reducible refine cN 2 (by kernel_rfl) ?_
  (refine aA (zm (.of I)) I<|aA (zm (.of I)) I ?_)
  with_reducible refine cT ?_
  skip
  with_reducible apply ai
  case hr=>exact bb
  case hd=>rfl
  case hc=>
   intro w' aB;have y1:Rd w' (.w ND 2 2) 1 (ints [(r.po[k]).lv,o1]):=Mem.dz (b:=ND) (cs:=[.q (r.po[k]).lv,.q o1]) aB (by exact .here) I I;have y2:Rd w' (.w b4 2 2) 1 (ints [l0,l1]):=Mem.dz (b:=b4) (cs:=[.q l0,.q l1]) aB eu I I;exact zV y1 y2
  rw [hE] at iy;rw [if_neg (by decide),<- g1,<- hl] at iy
  (refine JF I<|Jn<|gm I (fun az=>?_) fun az=>?_;refine Jr<|Ja I<|Jn<|Ju<|Jm<|Jh<|Jh<|Jm<|Jh<|JT ?_;rotate_left;refine Jk<|Jg<|ab (cm .here) I<|ao (.of I) (.of I) eu I I (gO I I) (bz I) ak<|Jx<|Jj<|Jt<|Jg<|JB I (by omega)<|Jv I<|Jn ?_;rotate_right)
  ·rw [if_pos az] at iy;have hb:kp r r.po=11:=(eV hz aK (by rw [iy];decide)).trans iy;rw [hb]
  rw [if_neg az] at iy;have Mc:∀ i,i<k+1->HL r r.po i=0:=fun i hi=>by
   by_cases e:i=k
   ·rw [e];exact iy
   ·exact hz i (by omega)
  apply aH (k+1,(r.po[k]).lv,o1) ⟨show k+1<=r.po.length by omega,Mc,by
   show [(r.po[k]).lv,o1]=Fx r (if k+1=0 then none else r.po[k+1-1]?)
   rw [if_neg (by omega),Zax,Zc aK,g1];rfl⟩ (show r.po.length-(k+1)<r.po.length-k by omega)
  case hs1=>exact bS
  case ht=>(try simp only [Ze,Zf,Za]);exact .h1 (.cons eu (.cons eu .nil))
 ·obtain rfl:k=r.po.length:=by omega
  have e:kp r r.po=0:=dQ.2 hz;rw [e];refine Jr<|JA I<|Jn<|Jq<|Jc I fun az=>Jp<|Jl<|Jo<|Jt<|Jr<|Ja I<|Jn<|Je<|JT ?_
  rfl
theorem Tw {r:Ro} {s d t p:Value} (x:Sr) {b1:Nat} {w:World} (h:RR w r s d t p) (hA:BR w b1 (RC r s d t p)) :
  aj T_ 135 [.agg x.cells.toArray,.p b1] w (.q (fQ r x.mx)):=by
 obtain ⟨h1,h2,h3,h4⟩:=h.one;have kW:∀ (j:Nat) (u:Value),[Value.int .i64 r.lv,.int .i64 r.ma,s,d,t,p][j]? = some u->w.cell? ⟨b1,0+j,none⟩=some u:=hA;unfold Sr.cells;refine ah func135 I I ?_
 (refine Jr<|Jy I I fun _ _=>Ja I<|Ji<|ab (iO (eZ.base kW I)) I<|bJ I I ae<|JL I .here I ?_)
 refine ai bb I (fun w' aB=>GO x.mx h) ?_;refine Ja I<|Jn<|Je<|JT ?_
 rfl
theorem Vn {r:Ro} {s d t p:Value} (x:De) {b1:Nat} {w:World} (h:RR w r s d t p) (hA:BR w b1 (RC r s d t p)) :
  aj T_ 137 [.agg x.cells.toArray,.p b1] w (.q (fQ r x.mx)):=by
 obtain ⟨h1,h2,h3,h4⟩:=h.one;have kW:∀ (j:Nat) (u:Value),[Value.int .i64 r.lv,.int .i64 r.ma,s,d,t,p][j]? = some u->w.cell? ⟨b1,0+j,none⟩=some u:=hA;unfold De.cells;refine ah func137 I I ?_
 (refine Jr<|Jy I I fun _ _=>Ja I<|Ji<|ab (iO (eZ.base kW I)) I<|bJ I I ae<|JL I .here I ?_)
 refine ai bb I (fun w' aB=>GO x.mx h) ?_;refine Ja I<|Jn<|Je<|JT ?_
 rfl
def kD (r:Ro) (q:Int->Bool):Bool:=(List.range r.lv.toNat).any fun i=>q (i:Nat)
def n9 (r:Ro):Int:=aZ [fK r.lv 1 3,fK r.ma 1 4]
def kB (r:Ro):Int:=aZ [fO 8 [] Sr.nm (fun x=>fQ r x.mx) r.sr,fO 8 (cK r) De.nm (fun x=>fQ r x.mx) r.de,fO 6 (cK r++cE r) Ti.nm (oG r) r.ti]
def A8 (r:Ro):Int:=aZ [cn (kD r fun v=>r.ti.any (Oj r v)) 33,cn (kD r fun v=>r.ti.any (Lx r v)) 32]
def gy (r:Ro):Int:=if n9 r≠0 then n9 r else if kB r≠0 then kB r else if kp r r.po≠0 then kp r r.po else A8 r
theorem ck1 {r:Ro} (h:n9 r≠0):gy r=n9 r:=by unfold gy;rw [if_pos h]
theorem ck2 {r:Ro} (h1:n9 r=0) (h:kB r≠0):gy r=kB r:=by unfold gy;rw [if_neg (by rw [h1];decide),if_pos h]
theorem ck3 {r:Ro} (h1:n9 r=0) (h2:kB r=0) (h:kp r r.po≠0):gy r=kp r r.po:=by unfold gy;rw [if_neg (by rw [h1];decide),if_neg (by rw [h2];decide),if_pos h]
theorem ck4 {r:Ro} (h1:n9 r=0) (h2:kB r=0) (h3:kp r r.po=0):gy r=A8 r:=by unfold gy;rw [if_neg (by rw [h1];decide),if_neg (by rw [h2];decide),if_neg (by rw [h3];decide)]
theorem po1 {r:Ro} (h:fO 8 [] Sr.nm (fun x=>fQ r x.mx) r.sr≠0):kB r=fO 8 [] Sr.nm (fun x=>fQ r x.mx) r.sr:=by unfold kB aZ;rw [if_pos h]
theorem po2 {r:Ro} (h1:fO 8 [] Sr.nm (fun x=>fQ r x.mx) r.sr=0) (h:fO 8 (cK r) De.nm (fun x=>fQ r x.mx) r.de≠0):kB r=fO 8 (cK r) De.nm (fun x=>fQ r x.mx) r.de:=by unfold kB aZ aZ;rw [if_neg (by rw [h1];decide),if_pos h]
theorem po3 {r:Ro} (h1:fO 8 [] Sr.nm (fun x=>fQ r x.mx) r.sr=0) (h2:fO 8 (cK r) De.nm (fun x=>fQ r x.mx) r.de=0):kB r=aZ [fO 6 (cK r++cE r) Ti.nm (oG r) r.ti]:=by unfold kB;rw [aZ,if_neg (by rw [h1];decide),aZ,if_neg (by rw [h2];decide)]
theorem r9 {α:Type} {rm:Int} {bf:List ByteArray} {nm:α->ByteArray} {ck:α->Int} {l:List α} (hb:bf.Nodup) (h:fO rm bf nm ck l=0):(bf++l.map nm).Nodup/\(l.length:Int)<=rm/\∀ x∈l,ck x=0:=by
 unfold fO at h;split at h
 ·cases h
 rename_i hl;rw [dQ] at h;have hk:∀ k,k<=l.length->(bf++(l.take k).map nm).Nodup/\∀ x∈l.take k,ck x=0:=by
  intro k
  induction k with
  | zero=>intro _;simpa using hb
  | succ k ih =>
   intro hk;obtain ⟨i1,i2⟩:=ih (by omega);have:=h k (by omega);rw [pb (by omega)] at this;rw [cz] at this;have h9:jr (bf++(l.take k).map nm) (nm l[k])=false/\ck l[k]=0:=⟨(bT (show (9:Int)≠0 by decide)).1 (this _ (ZM _ Zu)),this _ (ZM _ (ZM _ Zu))⟩;rw [Zl (by omega),Zv,<- Zh];refine ⟨?_,?_⟩
   ·rw [ZG];refine ⟨i1,by simp,fun x hx y hy e=>?_⟩;rw [Z3,Zf,ZL] at hy;subst hy;subst e;rw [fI.2 hx] at h9;cases h9.1
   ·intro x hx;rcases Zz.1 hx with hx | hx
    ·exact i2 x hx
    ·rw [ZL.1 hx];exact h9.2
 have:=hk _ (Zy _);rw [ZK] at this;exact ⟨this.1,by omega,this.2⟩
theorem AU {r:Ro} (h:kB r=0):Ea r/\(r.sr.length<=8/\r.de.length<=8/\r.ti.length<=6)/\(∀ x∈r.sr,fQ r x.mx=0)/\(∀ x∈r.de,fQ r x.mx=0)/\∀ x∈r.ti,oG r x=0:=by
 unfold kB at h;have h3:fO 8 [] Sr.nm (fun x=>fQ r x.mx) r.sr=0/\fO 8 (cK r) De.nm (fun x=>fQ r x.mx) r.de=0/\fO 6 (cK r++cE r) Ti.nm (oG r) r.ti=0:=by
  rw [cz] at h;exact ⟨h _ (by simp),h _ (by simp),h _ (by simp)⟩
 obtain ⟨h4,h5,h6⟩:=r9 Zan h3.1;rw [Za] at h4;obtain ⟨h7,h8,h9⟩:=r9 (show (cK r).Nodup from h4) h3.2.1;obtain ⟨g7,g8,g9⟩:=r9 (show (cK r++cE r).Nodup from h7) h3.2.2;exact ⟨⟨g7⟩,⟨by omega,by omega,by omega⟩,h6,h9,g9⟩
theorem wQ {r:Ro} (h:n9 r=0):1<=r.lv/\r.lv<=3/\1<=r.ma/\r.ma<=4:=by
 unfold n9 at h;rw [cz] at h;have h1:=gZ.1 (h _ (Zu));have h2:=gZ.1 (h _ (ZM _ Zu));omega
theorem fj {r:Ro} {s d t p:Value} (h:RR w r s d t p) (cZ:r.sr.length<=300/\r.de.length<=300/\r.ti.length<=300):aj T_ 34 [RA r s d t p] w (.q (gy r)):=by
 obtain ⟨h1,h2,h3,h4⟩:=h.one;unfold RA;refine ah func34 I I ?_;refine Jr<|Jy I I fun _ _=>Ja I<|Jn<|Jq<|Jq ?_;rename_i b1 tT
 with_reducible refine cY 7 (by kernel_rfl) ?_
 (refine ar k6 I<|ar (gX .here) I<|aX ef I (fun w' aB=>(np _ 1 3 w'))<|ar k6 I<|ar (gX .here) I<|aX ef I (fun w' aB=>(np _ 1 4 w'))<|eC (aG (.o I (.o I .nil)) I I I I) I I ?_)
 with_reducible refine dA I fun bq ml=>?_
 (refine ai bM I (fun w' aB=>(ee (Mem.dz aB .here I I) (bY.cons (bY.cons bY.nil))))<|Ja I<|Ji<|Jv I<|JD I<|Jn<|gm I (fun az=>?_) fun az=>?_;refine Jr<|Jv I<|Ja I<|Jn<|Ju<|JT ?_;rotate_left;refine Jk<|Jr<|ab (bD .nil (.o I .nil)) I<|Ja I<|Ji<|ab (bD .nil (.o I .nil)) I<|Ja I<|Jn<|Jq<|Jr<|bJ I I ae<|JL I (.there .here) I<|Jv I ?_;rotate_right)
 ·exact congrArg (Value.int .i64) (ck1 az).symm
 have nN:n9 r=0:=Zp.1 az;have hl:=wQ nN;clear az;have Ml:∀ w',Rd w' (.z) 1 (gi []):=fun w'=>⟨none,0,0,0,I,by simp [gi],by unfold maxLen;omega,fun h=>absurd I h,fun i r hr=>by simp [gi] at hr⟩
 with_reducible apply ai
 case hr=>exact DW
 case hd=>rfl
 case hc=>
  intro w' aB;have hA:BR w' b1 [.q r.lv,.q r.ma,s,d,t,p]:=BR.of aB (by exact Take.there .here);have hR:=h.keeps aB.keeps;exact DH (bf:=[]) 8 (f2:=135) (first2:=[]) (cap:=[.p b1]) hR.sr (Ml _) (by rw [Zaa];omega) (fun x _ w2 _=>LG x w2) (fun x _ w2 fq=>Tw x (hR.keeps fq) (hA.keeps fq))
 (refine Ja I<|Ji<|Jv I<|JD I<|Jn<|gm I (fun az=>?_) fun az=>?_;refine Jr<|Jv I<|Ja I<|Jn<|Ju<|JT ?_;rotate_left;refine Jk<|Jr<|bJ I I ae<|JL I (.there .here) I ?_;rotate_right)
 ·have hp:=po1 az;rw [<- hp] at az ⊢;exact congrArg (Value.int .i64) (ck2 nN az).symm
 have p1:fO 8 [] Sr.nm (fun x=>fQ r x.mx) r.sr=0:=Zp.1 az
 clear az;have q1:=r9 Zan p1;refine JN bb I (fun w1 aT=>PT (f:=139) (first:=[]) (cap:=[]) (g:=Sr.nm) (h.keeps aT.keeps).sr (by omega) (fun x _ w2 _=>LG x w2)) ?_
 intro nv _;dsimp only [id_eq,Zb,Za];refine aM (by exact .here) fun na nc e=>?_;subst e
 (refine Ja I<|Jn<|Jq<|Jr<|bJ I I ae<|JL I bL I<|Jv I<|Jv I ?_)
 with_reducible apply ai
 case hr=>exact DW
 case hd=>rfl
 case hc=>
  intro w' aB;have hA:BR w' b1 [.q r.lv,.q r.ma,s,d,t,p]:=BR.of aB bL;have hR:=h.keeps aB.keeps;have hN:Rd w' (.slice na r.sr.length nc) 1 (gi (r.sr.map Sr.nm)):=dS aB (by exact .here) (by rw [Zd]);exact DI (bf:=cK r) 8 (f2:=137) (first2:=[]) (cap:=[.p b1]) hR.de hN (by unfold cK;rw [Zd];omega) (fun x _ w2 _=>ER x w2) (fun x _ w2 fq=>Vn x (hR.keeps fq) (hA.keeps fq))
 (refine Ja I<|Ji<|Jv I<|JD I<|Jn<|gm I (fun az=>?_) fun az=>?_;refine Jr<|Jv I<|Ja I<|Jn<|Ju<|JT ?_;rotate_left;refine Jk<|Jr<|Jv I<|bJ I I ae<|JL I bL I ?_;rotate_right)
 ·have hp:=po2 p1 az;rw [<- hp] at az ⊢;exact congrArg (Value.int .i64) (ck2 nN az).symm
 have p2:fO 8 (cK r) De.nm (fun x=>fQ r x.mx) r.de=0:=Zp.1 az
 clear az;have q2:=r9 (show (cK r).Nodup from q1.1) p2;refine JN bb I (fun w1 aT=>Gx (f:=124) (first:=[]) (cap:=[]) (g:=De.nm) (h.keeps aT.keeps).de (by omega) (fun x _ w2 _=>ER x w2)) ?_
 intro dv _;dsimp only [id_eq,Zb,Za];refine aM (by exact .here) fun da dc e=>?_;subst e;refine bj (aG (.o I (.o I .nil)) I I I I) I (fun _ _=>?_);rename_i bq2 ajg
 with_reducible apply jH
 case hr=>exact bM
 case hd=>rfl
 case ht=>exact bB.nil
 case hc=>
  intro w1 fp aT _ hs1;obtain rfl:fp=[]:=hs1;have hN:Rd w1 (.slice na r.sr.length nc) 1 (gi (r.sr.map Sr.nm)):=dS aT bL (by rw [Zd]);have hD:Rd w1 (.slice da r.de.length dc) 1 (gi (r.de.map De.nm)):=dS aT (by exact Take.there .here) (by rw [Zd])
  exact Iq (vs:=[.slice na r.sr.length nc,.slice da r.de.length dc]) (ess:=[r.sr.map Sr.nm,r.de.map De.nm]) (Mem.dz (b:=bq2) aT (by exact .here) I I) I
   (fun i v es hv he=>by
    match i,hv,he with
    | 0,hv,he=>cases hv;cases he;exact hN
    | 1,hv,he=>cases hv;cases he;exact hD) (by simp;omega)
 intro av _;dsimp only [id_eq,Zb,Za]
 (refine Ja I<|Jn<|Jq<|Jr<|bJ I I ae<|JL I eu I<|Jv I<|ab (cm eu) I<|ab (bD (.o I .nil) .nil) I ?_)
 have sK:[r.sr.map Sr.nm,r.de.map De.nm].flatten=cK r++cE r:=by simp [cK,cE]
 with_reducible apply ai
 case hr=>exact DW
 case hd=>rfl
 case hc=>
  intro w' aB;have hR:=h.keeps aB.keeps;have hB:Rd w' av 1 (gi [r.sr.map Sr.nm,r.de.map De.nm].flatten):=aB.o9 (by exact .here) I (KC _) (by rw [bG]);rw [sK] at hB;exact DG (bf:=cK r++cE r) 6 (f2:=145) (first2:=[RA r s d t p]) (cap:=[]) hR.ti hB (by unfold cK cE;rw [Zg,Zd,Zd];omega) (fun x _ w2 _=>LF x w2) (fun x _ w2 fq=>Rf x h)
 (refine bj (aG (.o I .nil) I I I I) I fun _ _=>ai bM I (fun w' aB=>(ee (Mem.dz aB .here I I) (bY.cons bY.nil)))<|Ja I<|Ji<|Jv I<|JD I<|Jn<|gm I (fun az=>?_) fun az=>?_;refine Jr<|Jv I<|Ja I<|Jn<|Ju<|JT ?_;rotate_left;refine Jk<|Jq<|Jr<|ab (cm kr) I ?_;rotate_right)
 ·have hp:kB r≠0:=by rw [po3 p1 p2];exact az
  exact congrArg (Value.int .i64) ((po3 p1 p2).symm.trans (ck2 nN hp).symm)
 have Qr:kB r=0:=by rw [po3 p1 p2];exact Zp.1 az
 obtain ⟨lp,hlen,-⟩:=AU Qr;clear az;refine ai bM I (fun w' aB=>yJ (h.keeps aB.keeps) lp (by omega) (by unfold InI;omega)) ?_
 (refine Ja I<|Ji<|Jv I<|JD I<|Jn<|gm I (fun az=>?_) fun az=>?_;refine Jr<|Jv I<|Ja I<|Jn<|Ju<|JT ?_;rotate_left;refine Jk<|Jq ?_;rotate_right)
 ·exact congrArg (Value.int .i64) (ck3 nN Qr az).symm
 have UA:kp r r.po=0:=Zp.1 az;clear az;rw [ck4 nN Qr UA];have Yi:∀ w',aJ [] w w'->aj T_ 148 [.agg #[.q r.lv,.q r.ma,s,d,t,p],.func (.func 149) #[.agg #[.q r.lv,.q r.ma,s,d,t,p]] #[]] w' (.bool (kD r fun v=>r.ti.any (Oj r v))):=fun w' hk=>
  SX (f:=149) (first:=[RA r s d t p]) (cap:=[]) h (by omega) (fun v _ _ w2 fq=>Ra v ((h.keeps hk).keeps fq) (by omega))
 have Yh:∀ w',aJ [] w w'->aj T_ 148 [.agg #[.q r.lv,.q r.ma,s,d,t,p],.func (.func 150) #[.agg #[.q r.lv,.q r.ma,s,d,t,p]] #[]] w' (.bool (kD r fun v=>r.ti.any (Lx r v))):=fun w' hk=>
  SX (f:=150) (first:=[RA r s d t p]) (cap:=[]) h (by omega) (fun v _ _ w2 fq=>TX v ((h.keeps hk).keeps fq))
 with_reducible refine cY 11 (by kernel_rfl) ?_
 (refine ar (cm kr) I<|ar (cm kr) I<|ar (bD (.o I .nil) .nil) I<|aX bb I (fun w' aB=>(Yi w' (Mem.keeps aB)))<|aX bb I (fun w' aB=>(eG _ 33 w'))<|ar (cm kr) I<|ar (cm kr) I<|ar (bD (.o I .nil) .nil) I<|aX bb I (fun w' aB=>(Yh w' (Mem.keeps aB)))<|aX bb I (fun w' aB=>(eG _ 32 w'))<|eC (aG (.o I (.o I .nil)) I I I I) I I ?_)
 with_reducible refine dA I fun bq ml=>?_
 (refine ai bM I (fun w' aB=>(ee (Mem.dz aB .here I I) (bY.cons (bY.cons bY.nil))))<|Ja I<|Jn<|Je<|JT ?_)
 rfl
theorem C8 {α:Type} (nm:α->ByteArray) (l:List α) (s:ByteArray):iN (fun x=>decide (nm x=s)) l=bC (l.map nm) s:=by
 rcases qt (fun x=>decide (nm x=s)) l with ⟨e1,e2⟩ | ⟨i,hi,e1,e2⟩
 ·rw [e1];refine (Bw fun j hj e=>?_).symm;rw [ZaL] at e2;rw [ZZ] at e;exact e2 _ (Zj _) (by simpa using e)
 ·rw [e1];rw [ZaD] at e2;obtain ⟨hp,k,hk,he,hb⟩:=e2;have hik:i=k:=by
   have h1:iN (fun x=>decide (nm x=s)) l=(k:Nat):=gP (fun j hj=>by
    rw [Zc (by omega)];have:=hb j hj;simpa using this) hk (by rw [he];exact hp)
   rw [e1] at h1
   exact_mod_cast h1
  subst hik;refine (rz (by rw [Zd];exact hi) (by rw [ZZ];simpa using hp) fun j hj e=>?_).symm;rw [ZZ] at e;have:=hb j hj;simp [e] at this
theorem Vm (x:De) (o:ByteArray) {b2:Nat} {w:World} (f2:w.cell? ⟨b2,0,none⟩=some (.string o)) :
  aj T_ 243 [.agg x.cells.toArray,.p b2] w (.bool (decide (x.nm=o))):=by
 unfold De.cells;refine ah func243 I I ?_
 (refine Jr<|Jy I I fun _ _=>Ja I<|Ji<|bJ I I ae<|JL I .here I<|ab (ag (.of I) (At.base f2 I)) I<|ab (dF (.of I) (.of I)) I<|Ja I<|Jn<|Je<|JT ?_)
 rfl
theorem Tv (x:Sr) (o:ByteArray) {b2:Nat} {w:World} (f2:w.cell? ⟨b2,0,none⟩=some (.string o)) :
  aj T_ 264 [.agg x.cells.toArray,.p b2] w (.bool (decide (x.nm=o))):=by
 unfold Sr.cells;refine ah func264 I I ?_
 (refine Jr<|Jy I I fun _ _=>Ja I<|Ji<|bJ I I ae<|JL I .here I<|ab (ag (.of I) (At.base f2 I)) I<|ab (dF (.of I) (.of I)) I<|Ja I<|Jn<|Je<|JT ?_)
 rfl
theorem gK {r:Ro} {s d t p:Value} (o:ByteArray) {w:World} (h:RR w r s d t p):aj T_ 155 [RA r s d t p,.string o] w (.q (bC (cE r) o)):=by
 obtain ⟨h1,h2,h3,h4⟩:=h.one;unfold RA;refine ah func155 I I ?_
 (refine Jr<|Jy I I fun _ _=>Jy I I fun _ _=>Ja I<|Ji<|bJ I I ae<|JL I (.there .here) I<|ab (bD .nil (.o I .nil)) I ?_)
 rename_i b3 tr b4 tS
 with_reducible apply ai
 case hr=>exact bb
 case hd=>rfl
 case hc=>
  intro w' aB;have f2:w'.cell? ⟨b4,0,none⟩=some (.string o):=At.lit (by exact .here) I w' aB
  exact Qf (f:=243) (p:=fun x=>decide (x.nm=o)) (first:=[]) (cap:=[.p b4]) (h.keeps aB.keeps).de
   (fun x hx w2 fq=>Vm x o (cJ f2 I fq))
 rw [C8];refine Ja I<|Jn<|Je<|JT ?_
 rfl
theorem oY {r:Ro} {s d t p:Value} (o:ByteArray) {w:World} (h:RR w r s d t p):aj T_ 180 [RA r s d t p,.string o] w (.q (bC (cK r) o)):=by
 obtain ⟨h1,h2,h3,h4⟩:=h.one;unfold RA;refine ah func180 I I ?_
 (refine Jr<|Jy I I fun _ _=>Jy I I fun _ _=>Ja I<|Ji<|bJ I I ae<|JL I (.there .here) I<|ab (bD .nil (.o I .nil)) I ?_)
 rename_i b3 tr b4 tS
 with_reducible apply ai
 case hr=>exact bb
 case hd=>rfl
 case hc=>
  intro w' aB;have f2:w'.cell? ⟨b4,0,none⟩=some (.string o):=At.lit (by exact .here) I w' aB
  exact GI (f:=264) (p:=fun x=>decide (x.nm=o)) (first:=[]) (cap:=[.p b4]) (h.keeps aB.keeps).sr
   (fun x hx w2 fq=>Tv x o (cJ f2 I fq))
 rw [C8];refine Ja I<|Jn<|Je<|JT ?_
 rfl
def GA (r:Ro) (v:Int):Int:=fK v 0 (IntKind.i64.wrap (r.lv-1))
def oL (r:Ro) (o:ByteArray):Int:=cn (decide (bC (cE r) o<0)) 10
def Tz (r:Ro) (o:ByteArray):Int:=cn (decide (bC (cK r) o<0)) 10
theorem lJ {r:Ro} {s d t p:Value} (v:Int) {w w1:World} (h:RR w1 r s d t p):aj T_ 114 [RA r s d t p,.q v] w (.q (GA r v)):=by
 obtain ⟨h1,h2,h3,h4⟩:=h.one;unfold RA;refine ah func114 I I ?_
 (refine Jr<|Jy I I fun _ _=>Ja I<|Ji<|Jv I<|bJ I I ae<|JL I .here I ?_)
 refine ab (Pm (.of I) (.of I)) I ?_
 (refine ai ef I (fun w' aB=>(np v 0 _ w'))<|Ja I<|Jn<|Je<|JT ?_)
 rfl
theorem eY {r:Ro} {s d t p:Value} (o:ByteArray) {w:World} (h:RR w r s d t p):aj T_ 112 [RA r s d t p,.string o] w (.q (oL r o)):=by
 obtain ⟨h1,h2,h3,h4⟩:=h.one;have uX:∀ w',aJ [] w w'->aj T_ 155 [.agg #[.int .i64 r.lv,.int .i64 r.ma,s,d,t,p],.string o] w' (.int .i64 (bC (cE r) o)):=fun w' hk=>gK o (h.keeps hk)
 unfold RA;refine ah func112 I I ?_
 (refine Jr<|Jy I I fun _ _=>Ja I<|Ji<|ab (cm .here) I<|Jv I<|ai bb I (fun w' aB=>(uX w' (Mem.keeps aB)))<|JA I<|ai bb I (fun w' aB=>(eG _ 10 w'))<|Ja I<|Jn<|Je<|JT ?_)
 rfl
theorem qW {r:Ro} {s d t p:Value} (o:ByteArray) {w:World} (h:RR w r s d t p):aj T_ 122 [RA r s d t p,.string o] w (.q (Tz r o)):=by
 obtain ⟨h1,h2,h3,h4⟩:=h.one;have hsrc:∀ w',aJ [] w w'->aj T_ 180 [.agg #[.int .i64 r.lv,.int .i64 r.ma,s,d,t,p],.string o] w' (.int .i64 (bC (cK r) o)):=fun w' hk=>oY o (h.keeps hk)
 unfold RA;refine ah func122 I I ?_
 (refine Jr<|Jy I I fun _ _=>Ja I<|Ji<|ab (cm .here) I<|Jv I<|ai bb I (fun w' aB=>(hsrc w' (Mem.keeps aB)))<|JA I<|ai bb I (fun w' aB=>(eG _ 10 w'))<|Ja I<|Jn<|Je<|JT ?_)
 rfl
def cU (r:Ro) (o:ByteArray):List ByteArray:=(List.range r.lv.toNat).map fun (v:Nat)=>j4 r v o
theorem xe {r:Ro} {s d t p:Value} (o:ByteArray) {w:World} (h:RR w r s d t p) (tO:r.lv<=1000) (cZ:r.ti.length<=1000000):a8 T_ 113 [RA r s d t p,.string o] w [] (fun _:Value=>True) id (fun v=>[row 9 1 v r.lv.toNat (aR (cU r o))]):=by
 obtain ⟨h1,h2,h3,h4⟩:=h.one;unfold RA;refine aS func113 I I ?_
 (refine Jr<|Jy I I fun _ _=>Ja I<|Ji<|Ja I<|Jn<|Jq<|Jr<|bJ I I ae<|JL I .here I<|Jv I<|Jn<|J0 ?_)
 rename_i b2 rM;refine aN 9 1 ?_
 refine aV (ι:=Nat×Value) (fun x=>x.1<=r.lv.toNat)
  (fun x=>[(9,.q (x.1:Nat)),(8,.q r.lv),(5,x.2),(2,.p b2),(1,.string o)])
  (fun x=>[row 9 1 x.2 x.1 (aR ((cU r o).take x.1)),JP b2 r s d t p]) (fun x=>r.lv.toNat-x.1) ?_ ?_
 ·apply aI (0,.z) (Zi _)
  case hs1=>exact bS
  case ht=>
   exact .h2 .nil
 rintro ⟨k,v⟩ hk;dsimp only at hk ⊢;by_cases aK:k<r.lv.toNat
 ·have D5:((k:Nat):Int)<r.lv:=by omega
  have htk:(cU r o).take (k+1)=(cU r o).take k++[j4 r (k:Nat) o]:=by
   unfold cU;rw [Zl (by simpa using aK)];simp
  have ba:aR ((cU r o).take (k+1))=aR ((cU r o).take k)++[.string (j4 r (k:Nat) o)]:=by rw [htk,eT];rfl
  have hlen:(aR ((cU r o).take k)).length=k*1:=by
   rw [dj,Zs];unfold cU;rw [Zd,Zau];omega
  (refine Jr<|JA I<|Jn<|Jq<|Jd I fun az=>Jk<|Jq<|J0<|Jr<|Jv I<|Ja I<|Jn<|Jg<|Jv I<|ab (cm (.there .here)) I<|Jv I<|Jv I ?_)
  refine ai ef I (fun w' aB=>qD (s:=s) (d:=d) (t:=t) (p:=p) (k:Nat) o (h.keeps aB.keeps) cZ) ?_;refine bj (aG (.o I .nil) I I I I) I (fun _ _=>?_);refine bu (.of I) (.of I) (.there .here) .here ak (by rfl) (dR I) (by rfl) (by rfl) (by rfl) ed (by rfl) ?_;intro v';refine Ja I<|Jx<|Jj<|Jt<|Jg<|JB I (by omega)<|Jv I<|Jn ?_;apply aH (k+1,v') (by show k+1<=r.lv.toNat;omega) (by show r.lv.toNat-(k+1)<r.lv.toNat-k;omega)
  case hs1=>exact bS
  case ht=>
   show bB _ [row 9 1 v' (k+1) (aR ((cU r o).take (k+1))),JP b2 r s d t p] _;rw [ba];exact .h1 (.cons (.there .here) .nil)
 ·have e:k=r.lv.toNat:=by omega
  subst e;have htk:(cU r o).take r.lv.toNat=cU r o:=Zab (by unfold cU;simp);rw [htk];refine Jr<|JA I<|Jn<|Jq<|Jc I fun az=>Jp<|Jl<|Jo<|Jt<|Jr<|Jv I<|Ja I<|Jn<|Je ?_
  with_reducible first|apply aO|apply aQ
  case he=>exact dB I I
  case hR=>
   intro w' aB;exact aD v trivial (by exact .h1 .nil) aB I
theorem rF {r:Ro} {s d t p:Value} (v:Int) (o:ByteArray) {w:World} (h:RR w r s d t p):aj T_ 121 [RA r s d t p,.q v,.string o] w (.bool (gL r.po v o)):=by
 obtain ⟨h1,h2,h3,h4⟩:=h.one;unfold RA;refine ah func121 I I ?_
 (refine Jr<|Jy I I fun _ _=>Ja I<|Ji<|ab (cm .here) I<|Jv I<|Jv I ?_)
 refine ai ef I (fun w' aB=>Bb (s:=s) (d:=d) (t:=t) (p:=p) v o (h.keeps aB.keeps)) ?_;refine Jv I<|JJ I I<|JJ I I<|Ja I<|Ja I<|Ji<|Jv I<|Ja I<|Jn<|Je<|JT ?_
 rfl
def nk (r:Ro):Prop:=r.sr.length<=300/\r.de.length<=300/\r.ti.length<=300
theorem ue {r:Ro} (h:gy r=0):n9 r=0/\kB r=0/\kp r r.po=0/\A8 r=0:=by
 unfold gy at h;by_cases h1:n9 r=0
 ·rw [if_neg (by rw [h1];decide)] at h;by_cases h2:kB r=0
  ·rw [if_neg (by rw [h2];decide)] at h;by_cases h3:kp r r.po=0
   ·rw [if_neg (by rw [h3];decide)] at h;exact ⟨h1,h2,h3,h⟩
   ·rw [if_pos h3] at h;exact absurd h h3
  ·rw [if_pos h2] at h;exact absurd h h2
 ·rw [if_pos h1] at h;exact absurd h h1
def Mo (r:Ro) (o:ByteArray):Int:=aZ [gy r,oL r o]
def H5 (r:Ro) (o:ByteArray):List ByteArray:=if Mo r o≠0 then [] else cU r o
theorem VJ {r:Ro} {s d t p:Value} (o:ByteArray) {w:World} (h:RR w r s d t p) (cZ:nk r):a8 T_ 20 [RA r s d t p,.string o] w [] (fun _:Value=>True) (fun v=>.tuple #[v,.q (Mo r o)]) (fun v=>[row 9 1 v (H5 r o).length (aR (H5 r o))]):=by
 obtain ⟨h1,h2,h3,h4⟩:=h.one;have gr:∀ w',aJ [] w w'->aj T_ 34 [.agg #[.int .i64 r.lv,.int .i64 r.ma,s,d,t,p]] w' (.int .i64 (gy r)):=fun w' hk=>fj (h.keeps hk) cZ
 have mZ:∀ w',aJ [] w w'->aj T_ 112 [.agg #[.q r.lv,.q r.ma,s,d,t,p],.string o] w' (.q (oL r o)):=fun w' hk=>eY o (h.keeps hk)
 unfold RA;refine aS func20 I I ?_;refine Jr<|Jy I I fun _ _=>Ja I<|Ja I<|Jn<|Jq<|Jq ?_;rename_i b2 rM
 with_reducible refine cY 6 (by kernel_rfl) ?_
 (refine ar (cm .here) I<|aX bM I (fun w' aB=>(gr w' (Mem.keeps aB)))<|ar (cm .here) I<|ar k8 I<|aX bb I (fun w' aB=>(mZ w' (Mem.keeps aB)))<|eC (aG (.o I (.o I .nil)) I I I I) I I ?_)
 with_reducible refine dA I fun bq ml=>?_
 (refine ai bM I (fun w' aB=>(ee (Mem.dz aB .here I I) (bY.cons (bY.cons bY.nil))))<|Ja I<|Ji<|Jv I<|JD I<|Jn<|gm I (fun az=>?_) fun az=>?_;refine Jr<|Jv I<|Ja I<|Ja I<|Jn<|Ju ?_;rotate_left;refine Jk<|Jr<|ab (cm (.there .here)) I<|Jv I ?_;rotate_right)
 ·have e1:H5 r o=[]:=if_pos az;rw [e1];refine aN 9 1 ?_
  with_reducible first|apply aO|apply aQ
  case he=>exact gH I I I
  case hR=>
   intro w' aB;exact aD (.z) trivial (by exact .h1 .nil) aB I
 have e1:H5 r o=cU r o:=if_neg az;have e0:aZ [gy r,oL r o]=0:=Zp.1 az;have e2:Mo r o=0:=e0;have hl:=wQ (ue (cz.1 e0 _ Zu)).1;have hn:(cU r o).length=r.lv.toNat:=by unfold cU;simp
 rw [e1,e2,hn];refine JN bb I (fun w1 aT=>xe o (h.keeps aT.keeps) (by omega) (by have:=cZ.2.2;omega)) ?_;intro v _;dsimp only [id_eq,Zb,Za];refine Ja I<|Ja I<|Jn<|Je ?_
 with_reducible first|apply aO|apply aQ
 case he=>exact gH I I I
 case hR=>
  intro w' aB;exact aD v trivial (by exact .h1 .nil) aB I
end Go.Proofs.A1
namespace Go.SL
open Go
section
variable {P:Program} {c:Cx} {D:List Nat} {sl:aL} {hs hs':List bd} {ty:TypeId} {pos:String} {af:Array Edge} {r:Option Nat} {ops:Array Oper} {Q:Exit->Act->World->Prop} {rest:List Oper}
theorem Ab (zs:List Value) (n:Nat):Builtin.zeroCells zs.toArray n=((List.replicate n zs).flatten).toArray:=by
 unfold Builtin.zeroCells;apply Array.ext
 ·simp
 ·intro i h1 h2;have hi:i<n*zs.length:=by simpa using h1
  have hz:0<zs.length:=by
   rcases Nat.eq_zero_or_pos zs.length with e | e
   ·rw [e] at hi;omega
   ·exact e
  have hm:i % zs.length<zs.length:=Nat.mod_lt _ hz;have sK:∀ (n i:Nat) (h:i<(List.replicate n zs).flatten.length),(List.replicate n zs).flatten[i]=zs[i % zs.length]'(Nat.mod_lt _ hz):=by
   intro n
   induction n with
   | zero=>intro i h;simp at h
   | succ n ih =>
    intro i h;have e:(List.replicate (n+1) zs).flatten=zs++(List.replicate n zs).flatten:=by simp [List.replicate_succ]
    rw [List.getElem_of_eq e];by_cases hl:i<zs.length
    ·rw [ZaJ hl];congr 1;exact (Nat.mod_eq_of_lt hl).symm
    ·rw [Zav (by omega),ih];congr 1;exact (Nat.mod_eq_sub_mod (by omega)).symm
  have:=sK n i (by simpa using hi);rw [show (List.replicate n zs).flatten.toArray[i]=(List.replicate n zs).flatten[i]'(by simpa using hi) from I,this];simp [hm]
theorem Cj {t e:TypeId} {x:Operand} {g o n cap:Nat} {E:TypeId} {cs zs:List Value} {z:Value} [hu:ja P t (.slice e)] [hZ:mn P e z]
  (hx:Is sl x (.slice (some ⟨g,o,none⟩) n cap)) (ht:Take hs (bE g (.cells cs.toArray E (0,0))) hs') (hz:z.cells=zs.toArray) (h1:∀ u∈zs,u.oneCell'=true) (hfit:o+n*zs.length<=cs.length)
  (k:Tr c D sl (bE g (.cells (setCells cs o (List.replicate n zs).flatten).toArray E (0,0))::hs') (WL P r ops Q rest)) :
  Tr c D sl hs (WL P r ops Q (⟨none,.call ⟨.builtin .clear,#[x],#[t]⟩,ty,pos,af,none⟩::rest)):=fun a w ba=>by
 have hm:=ba.mem.take (ht.append _);have hg:w.heap[g]? = some (.cells cs.toArray E (0,0)):=hm.bE .here;obtain ⟨w',h3,h4,h5⟩:=jz (P:=P) (o:=o) (List.replicate n zs).flatten 0 cs w hg (fun u hu=>by
  obtain ⟨l,hl,Uo⟩:=Zby.1 hu;rw [List.eq_of_mem_replicate hl] at Uo;exact h1 u Uo) (by
  have:(List.replicate n zs).flatten.length=n*zs.length:=by simp
  omega)
 refine nn I ⟨eA _ _ _ _ _,?_⟩;rw [Oper.semAt_eq _ _ _ (by simp)];have:(execOp a.eval ⟨none,.call ⟨.builtin .clear,#[x],#[t]⟩,ty,pos,af,none⟩).run P w=.ok (.value (.tuple #[])) w':=by
  cases n with
  | zero =>
   simp [execOp,resolve,invoke,builtin,hx a ba.du,Builtin.clear_,aY hu.eq];simpa [storeCells] using h3
  | succ n =>
   simp [execOp,resolve,invoke,builtin,hx a ba.du,Builtin.clear_,aY hu.eq,jc (t:=e) (v:=z),hz,Ab];simp [h3]
 rw [this];have ni:=Mem.store hm h4 h5;exact k _ _ (ba.heap ni)
end
end Go.SL
namespace Go.SL
open Go
section
variable {α:Type} {f:α->List Value} {sz:Nat}
theorem js (hf:∀ x,(f x).length=sz) (l:List α):(l.map f).flatten.length=l.length*sz:=by
 rw [fv (sz:=sz) (fun r hr=>by obtain ⟨x,_,rfl⟩:=Zx.1 hr;exact hf x),Zd]
theorem sS (hf:∀ x,(f x).length=sz) {l:List α} {i:Nat} (h:i<l.length) (cur:List Value):eK ((l.map f).flatten++cur) (i*sz) sz=f l[i]:=by
 have hl:l=l.take i++l[i]::l.drop (i+1):=by rw [<- Zt h,Z0]
 have e:(l.map f).flatten=((l.take i).map f).flatten++(f l[i]++((l.drop (i+1)).map f).flatten):=
  (congrArg (fun m=>(List.map f m).flatten) hl).trans (by simp only [Zv,Zaf,Z3,ZaB])
 have hk:((l.take i).map f).flatten.length=i*sz:=by rw [js hf,ZaN (by omega)]
 rw [jP,e,Zh,<- hk,List.drop_append_of_le_length (by omega),Z1,Za,<- hf l[i],Zh,Zah (by omega),ZK]
theorem uN {cs:List Value} {o n j:Nat} (hj:j<n):(eK cs o n)[j]? = cs[o+j]?:=by
 rw [jP,ZP,if_pos hj,Zbi]
theorem MU (hf:∀ x,(f x).length=sz) {l:List α} {i j:Nat} (h:i<l.length) (hj:j<sz) (cur:List Value):((l.map f).flatten++cur)[i*sz+j]? = (f l[i])[j]?:=by
 rw [<- sS hf h cur,uN hj]
theorem AF:∀ (A B C Z:List Value),Z.length=B.length->setCells (A++(B++C)) A.length Z=A++(Z++C):=by
 intro A B C Z h;apply Zat;intro k;rw [jb _ _ _ _ (by simp;omega)];by_cases h1:k<A.length
 ·rw [if_neg (by omega),ZB h1,ZB h1]
 ·by_cases h2:k-A.length<Z.length
  ·rw [if_pos (by omega),ZC (show A.length<=k by omega),ZB h2]
  ·rw [if_neg (by omega),ZC (show A.length<=k by omega),ZC (show A.length<=k by omega),ZC (show B.length<=k-A.length by omega),ZC (show Z.length<=k-A.length by omega),h]
theorem MT (hf:∀ x,(f x).length=sz) {l:List α} {i:Nat} (h:i<l.length) (x:α) (cur:List Value):setCells ((l.map f).flatten++cur) (i*sz) (f x)=((l.set i x).map f).flatten++cur:=by
 have hl:l=l.take i++l[i]::l.drop (i+1):=by rw [<- Zt h,Z0]
 have e:(l.map f).flatten=((l.take i).map f).flatten++(f l[i]++((l.drop (i+1)).map f).flatten):=
  (congrArg (fun m=>(List.map f m).flatten) hl).trans (by simp only [Zv,Zaf,Z3,ZaB])
 have e2:((l.set i x).map f).flatten=((l.take i).map f).flatten++(f x++((l.drop (i+1)).map f).flatten):=by
  rw [List.set_eq_take_append_cons_drop,if_pos h];simp
 have hk:((l.take i).map f).flatten.length=i*sz:=by rw [js hf,ZaN (by omega)]
 rw [e,e2,Zh,Zh,Zh,Zh,<- hk];exact AF _ _ _ _ (by rw [hf,hf])
theorem G0 (hf:∀ x,(f x).length=sz) (A B:List α) (Z cur:List Value) (hz:Z.length=B.length*sz):setCells (((A++B).map f).flatten++cur) (A.length*sz) Z=(A.map f).flatten++(Z++cur):=by
 rw [Zv,Zaf,Zh,<- js hf A];exact AF _ _ _ _ (by rw [hz,js hf])
theorem ze {g k n cap:Nat} (sz:Nat) (h:k<n) (hc:n<=cap):Go.sliced (some ⟨g,0,none⟩) ((k:Nat):Int).toNat n cap sz=.slice (some ⟨g,k*sz,none⟩) (n-k) (cap-k):=by
 unfold Go.sliced;rw [if_neg (by rw [ZH];omega),ZH];simp [eM]
theorem zf (g k cap sz:Nat):Go.sliced (some ⟨g,0,none⟩) 0 ((k:Nat):Int).toNat cap sz=.w g k cap:=by
 unfold Go.sliced;rw [ZH];by_cases h:cap=0
 ·rw [if_pos h];simp
 ·rw [if_neg h];simp [eM]
theorem filter_lt {q:α->Bool} {l:List α} {i:Nat} (hi:i<l.length) (h:q l[i]=false):(l.filter q).length<l.length:=
 List.length_filter_lt_length_iff_exists.2 ⟨l[i],Zj hi,by simp [h]⟩
def vE (q:α->Bool) (l:List α) (j:Nat):List α:=(l.take j).filter q++l.drop ((l.take j).filter q).length
def lY (q:α->Bool) (l:List α) (j:Nat):Nat:=((l.take j).filter q).length
theorem og (q:α->Bool) (l:List α) {j:Nat} (hj:j<=l.length):lY q l j<=j:=by
 have:=ZV q (l.take j);rw [ZaN hj] at this;exact this
theorem GW (q:α->Bool) (l:List α) {j:Nat} (hj:j<=l.length):(vE q l j).length=l.length:=by
 have:=og q l hj;unfold lY at this;unfold vE;rw [Zg,ZaS];omega
theorem GX (q:α->Bool) (l:List α) {j:Nat} (hj:j<l.length):∃ h:j<(vE q l j).length,(vE q l j)[j]=l[j]:=by
 have:=og q l (Nat.le_of_lt hj);unfold lY at this;have h:(vE q l j)[j]? = some l[j]:=by
  unfold vE;rw [ZC this,Zbi,<- Zc hj];congr 1;omega
 exact Zn.1 h
theorem vS (q:α->Bool) (l:List α) {j:Nat} (hj:j<l.length):(l.take (j+1)).filter q=(l.take j).filter q++if q l[j] then [l[j]] else []:=by
 rw [Zl hj,Zay];congr 1;by_cases h:q l[j]=true
 ·rw [Zbq h,if_pos h];rfl
 ·rw [List.filter_cons_of_neg h,if_neg h];rfl
theorem Fj (q:α->Bool) (l:List α) {j:Nat} (hj:j<l.length) (hq:q l[j]=false):vE q l (j+1)=vE q l j/\lY q l (j+1)=lY q l j:=by
 have e:(l.take (j+1)).filter q=(l.take j).filter q:=by rw [vS q l hj,hq];simp
 unfold vE lY;rw [e];exact ⟨I,I⟩
theorem GV (q:α->Bool) (l:List α) {j:Nat} (hj:j<l.length) (hq:q l[j]=true):vE q l (j+1)=(vE q l j).set (lY q l j) l[j]/\lY q l (j+1)=lY q l j+1:=by
 have e:(l.take (j+1)).filter q=(l.take j).filter q++[l[j]]:=by rw [vS q l hj,if_pos hq]
 have hle:=og q l (Nat.le_of_lt hj);unfold lY at hle;have hm:((l.take j).filter q).length<l.length:=by omega
 unfold vE lY;rw [e];refine ⟨?_,by simp⟩;rw [List.set_append_right _ _ (Zy _),Nat.sub_self,Zt hm,List.set_cons_zero,Zg,Zh]
 rfl
theorem GY (q:α->Bool) (l:List α):vE q l l.length=l.filter q++l.drop (l.filter q).length/\lY q l l.length=(l.filter q).length:=by
 unfold vE lY;rw [ZK];exact ⟨I,I⟩
theorem zP (q:α->Bool) (l:List α) {i:Nat} (hi:i<l.length) (hb:∀ j (h:j<i),q (l[j]'(by omega))=true) (hq:q l[i]=false):vE q l (i+1)=l/\lY q l (i+1)=i:=by
 have e:(l.take i).filter q=l.take i:=Zaz.2 fun x hx=>by
  obtain ⟨j,hj,rfl⟩:=Zw hx;rw [ZaF];exact hb j (by rw [Zs] at hj;omega)
 obtain ⟨h1,h2⟩:=Fj q l hi hq;rw [h1,h2];unfold vE lY;rw [e,ZaN (by omega),Z0];exact ⟨I,I⟩
end
end Go.SL
namespace Go.Proofs.A1
open Go Go.SL
open Tryz
open Tryz renaming prog->T_
variable {cap first:List Value} {lv:Value} {o:ByteArray} {p q:ByteArray->Bool} {v:Value}
theorem C7 {l:List ByteArray} {f:FuncId} [bW T_ f] {w:World} (h:Rd w lv 1 (gi l)) (cV:∀ x∈l,∀ w',aJ [] w w'->aj T_ f (first++[.string x]++cap) w' (.bool (p x))) :
  aj T_ 299 [lv,.func (.func f) first.toArray cap.toArray] w (.q (iN p l)):=by
 obtain ⟨a,cp,b,o,rfl,dd,bO,ha,hc⟩:=h;rw [bG] at *;unfold maxLen at bO;refine ah func299 I I ?_;refine Jr<|Ja I<|Jn<|Jq<|Jr<|Jv I<|JI I<|Jv I<|Jn<|J0 ?_;refine aV (fun k:Nat=>k<=l.length/\∀ i,i<k->(l[i]?.map p).getD false=false) (fun k=>[(8,.int .i64 k),(7,.int .i64 l.length),(0,.slice a l.length cp),(1,.func (.func f) first.toArray cap.toArray)]) (fun _=>[]) (fun k=>l.length-k) ?_ ?_
 ·apply aI 0 ⟨Zi _,fun i h=>by omega⟩
  case hs1=>exact bS
  case ht=>(try simp only [Ze,Zf,Za]);exact .nil
 rintro k ⟨hk,hf⟩;by_cases aK:k<l.length
 ·have cq:=ha (iE aK);have c0:w.cell? ⟨b,o+k*1,none⟩=some (.string l[k]):=(hc k _ (fM aK)).2 0 _ I;have jq:=cV _ (Zj aK);have hps:(l[k]?.map p).getD false=p l[k]:=by simp [aK]
  (refine Jr<|JA I<|Jn<|Jq<|Jd I fun az=>Jk<|Jq<|J0<|Jr<|Jv I<|Ja I<|Ji<|Jv I<|Jv I<|Jv I<|ab (fT cq az) I<|ab (ag (.of I) (At.base c0 I)) I<|ai bM I (fun w' aB=>(jq w' (Mem.keeps aB)))<|Jn<|nj I (fun az=>?_) fun az=>?_;refine Jr<|Jv I<|Ja I<|Jn<|Je<|Jm<|Jh<|Jh<|Jm<|Jh<|JT ?_;rotate_left;refine Jw<|Jj<|Jt<|Jg<|JB I (by omega)<|Jv I<|Jn ?_;rotate_right)
  ·rw [gP hf aK az]
  ·apply aH (k+1) ⟨by omega,fun i hi=>by
    by_cases e:i=k
    ·rw [e,hps];exact az
    ·exact hf i (by omega)⟩ (by omega)
   case hs1=>exact bS
   case ht=>(try simp only [Ze,Zf,Za]);exact .nil
 ·obtain rfl:k=l.length:=by omega
  refine Jr<|JA I<|Jn<|Jq<|Jc I fun az=>Jp<|Jl<|Jo<|Jt<|Jr<|Ja I<|Jn<|Je<|JT ?_;rw [fS hf]
theorem MI {l:List ByteArray} {f:FuncId} [bW T_ f] {w:World} (h:Rd w lv 1 (gi l)) (cV:∀ x∈l,∀ w',aJ [] w w'->aj T_ f (first++[.string x]++cap) w' (.bool (p x))) :
  aj T_ 250 [lv,.func (.func f) first.toArray cap.toArray] w (.bool (l.any p)):=by
 have jq:∀ w',aJ [] w w'->aj T_ 299 [lv,.func (.func f) first.toArray cap.toArray] w' (.q (iN p l)):=fun w' hk=>
  C7 (h.keeps hk) fun x hx w2 fq=>cV x hx w2 (hk.trans fq)
 rw [<- kU];refine ah func250 I I ?_
 (refine Jr<|Ja I<|Ji<|Jv I<|Jv I<|ai bb I (fun w' aB=>(jq w' (Mem.keeps aB)))<|JG I<|Ja I<|Jn<|Je<|JT ?_)
 rfl
set_option maxHeartbeats 1000000 in
theorem M9 {n:Nat} {l:List ByteArray} {f:FuncId} [bW T_ f] {w:World} {fp:List Nat} (jw:fp.Nodup) (hs:cr (hp w) [row 9 1 v n (aR l)] fp) (hn:l.length=n) (cZ:n<=1000000)
  (cV:∀ x∈l,∀ w',aJ fp w w'->aj T_ f (first++[.string x]++cap) w' (.bool (p x))) :
  a8 T_ 224 [v,.func (.func f) first.toArray cap.toArray] w fp (fun _:Value=>True) id (fun v'=>[row 9 1 v' (l.filter fun x=>!p x).length (aR (l.filter fun x=>!p x))]):=by
 refine ek func224 I I jw hs ?_;refine Jr<|Ja I<|Ji<|Jv I<|Jv I ?_;refine aM (by exact .here) fun va vc e=>?_;subst e
 skip
 with_reducible apply ai
 case hr=>exact bb
 case hd=>rfl
 case hc=>
  intro w' aB;have hR:Rd w' (.slice va n vc) 1 (gi l):=dS aB (by exact .here) hn;exact C7 (f:=f) (p:=p) (first:=first) (cap:=cap) hR (fun x hx w2 fq=>cV x hx w2 (aB.keeps.trans (fq.mono (by simp))))
 rcases qt p l with ⟨e1,e2⟩ | ⟨i,hi,e1,e2⟩
 ·rw [e1];have sK:(l.filter fun x=>!p x)=l:=Zaz.2 fun x hx=>by
   have:=ZaL.1 e2 x hx;simpa using this
  rw [sK];refine Ja I<|Jn<|Jq<|Jr<|Jv I<|JC I<|Jn<|Jd I fun az=>Jr<|Jv I<|Ja I<|Jn<|Ju ?_
  with_reducible first|apply aO|apply aQ
  case he=>exact dB I I
  case hR=>
   intro w' aB;exact aD (.slice va n vc) trivial (show bB _ [row 9 1 (.slice va n vc) l.length (aR l)] _ by rw [hn];exact .h1 .nil) aB I
 rw [e1];rw [ZaD] at e2;obtain ⟨Sa,i',yz,I0,dK⟩:=e2;have Dl:i'=i:=by
  have h1:iN p l=(i':Nat):=gP (fun j hj=>by
   rw [Zc (by omega)];simpa using dK j hj) yz (by rw [I0];exact Sa)
  rw [e1] at h1
  exact_mod_cast h1.symm
 subst Dl;obtain ⟨st1,st2⟩:=zP (fun x=>!p x) l yz (fun j hj=>dK j hj) (by rw [I0];simp [Sa]);have hne:¬ ((i':Nat):Int) = -1:=by omega
 refine Ja I<|Jn<|Jq<|Jr<|Jv I<|JC I<|Jn<|Jc I fun az=>Jk<|Jq<|Jr<|Jv I<|JB I (by omega)<|Ja I<|Jn<|J0 ?_;refine dy (by exact .here) (by omega) ?_;rintro g iz cur e oD Bj hsz hl;cases e;have hF:∀ x,((fun s:ByteArray=>[Value.string s]) x).length=1:=fun _=>rfl
 have hV:∀ l,aR l=(l.map (fun s:ByteArray=>[Value.string s])).flatten:=fun l=>oU l
 refine aV (fun j:Nat=>i'<j/\j<=l.length) (fun j=>[(6,.q (j:Nat)),(5,.q (lY (fun x=>!p x) l j)),(0,.w g n vc),(1,.func (.func f) first.toArray cap.toArray)])
  (fun j=>[bE g (.cells (((vE (fun x=>!p x) l j).map (fun s:ByteArray=>[Value.string s])).flatten++cur).toArray 9 (0,0))]) (fun j=>l.length-j) ?_ ?_
 ·apply aI (i'+1) ⟨by omega,by omega⟩
  case hs1=>rw [st2];exact .cons I (.cons I (.cons I (.cons I .nil)))
  case ht=>rw [st1,<- hV];exact .h1 .nil
 rintro j ⟨hj,hk⟩;by_cases aK:j<l.length
 ·have uE:j<n:=by omega
  have hle:=og (fun x=>!p x) l hk
  have sK:=GW (fun x=>!p x) l hk
  obtain ⟨hjf,hgj⟩:=GX (fun x=>!p x) l aK;have c0:=MU hF hjf (show 0<1 by omega) cur;rw [hgj] at c0;have c1:(((vE (fun x=>!p x) l j).map (fun s:ByteArray=>[Value.string s])).flatten++cur)[j*1]? = some (.string l[j]):=c0
  (refine Jq<|Jr<|Jv I<|Jv I<|JI I<|JA I<|Jn<|Jd I fun az=>Jk<|Jq<|J0<|Jr<|Jv I<|Jv I<|ab (an (.of I) (.of I) I (by omega) az aW) I ?_;refine ab (ag (.of I) (At.mz .here c1)) I ?_;refine Ja I<|Ji<|Jv I<|Jv I ?_)
  with_reducible apply ai
  case hr=>exact bM
  case hd=>rfl
  case hc=>
   intro w' aB;exact cV l[j] (Zj aK) w' aB.keeps
  have hm:lY (fun x=>!p x) l j<(vE (fun x=>!p x) l j).length:=by rw [sK];have:=st2;omega
  have hb:lY (fun x=>!p x) l j*1+1<=(((vE (fun x=>!p x) l j).map (fun s:ByteArray=>[Value.string s])).flatten++cur).length:=by rw [Zg,js hF,sK];omega
  have qH:=MT hF hm l[j] cur;have hmn:lY (fun x=>!p x) l j<n:=by omega
  cases hq:p l[j] with
  | true =>
   obtain ⟨s1,s2⟩:=Fj (fun x=>!p x) l aK (by simp [hq])
   (refine JH I<|Jn<|ch (.of I)<|Jw<|Jj<|Jt<|Jg<|Jv I<|JB I (by omega)<|Ja I<|Jn ?_)
   apply aH (j+1) ⟨by omega,by omega⟩ (by omega)
   case hs1=>rw [s2];exact .cons I (.cons I (.cons I (.cons I .nil)))
   case ht=>rw [s1];exact .h1 .nil
  | false =>
   obtain ⟨s1,s2⟩:=GV (fun x=>!p x) l aK (by simp [hq])
   (refine JH I<|Jn<|cW (.of I) ?_;refine Jr<|Jv I<|Jv I<|Jv I<|ab (an (.of I) (.of I) I (by omega) (by omega) aW) I ?_;refine ao (.of I) (.of I) .here I I (dR I) hb qH ?_;refine Jn<|Jg<|Jv I<|JB I (by omega)<|Ja I<|Jx<|Jj<|Jt<|Jg<|Jv I<|JB I (by omega)<|Ja I<|Jn ?_)
   apply aH (j+1) ⟨by omega,by omega⟩ (by omega)
   case hs1=>rw [s2];exact .cons I (.cons I (.cons I (.cons I .nil)))
   case ht=>rw [s1];exact .h1 .nil
 ·obtain rfl:j=l.length:=by omega
  obtain ⟨a1,a2⟩:=GY (fun x=>!p x) l;have hle:=og (fun x=>!p x) l (Zy _)
  rw [a1,a2];rw [a2] at hle;have hZ:=G0 hF (l.filter fun x=>!p x) (l.drop (l.filter fun x=>!p x).length) (List.replicate (n-(l.filter fun x=>!p x).length) [Value.string ⟨#[]⟩]).flatten cur (by simp;omega)
  have R8:(l.filter fun x=>!p x).length<l.length:=filter_lt yz (by rw [I0];simp [Sa])
  generalize (l.filter fun x=>!p x)=q at hle hZ R8 ⊢
  have hqn:q.length<n:=by omega
  have VZ:q.length<=vc:=by omega
  have hfit:q.length*1+(n-q.length)*[Value.string ⟨#[]⟩].length<=(((q++l.drop q.length).map (fun s:ByteArray=>[Value.string s])).flatten++cur).length:=by
   rw [Zg,js hF,Zg,ZaS];simp only [ZA,Zaa];omega
  refine Jq<|Jr<|Jv I<|Jv I<|JI I<|JA I<|Jn<|Jc I fun az=>Jp<|Jl<|Jo<|Jt<|Jr<|Jv I<|Jv I<|ab (rb (.of I) (.of I) (by omega) (by omega)) I ?_;rw [ze 1 hqn oD];refine Cj (zs:=[Value.string ⟨#[]⟩]) (z:=.string ⟨#[]⟩) (.of I) .here I (dR I) hfit ?_;rw [hZ]
  (refine Ji<|Jv I<|Jv I<|ab (iU (.of I) (.of I) (by omega) (by omega)) I<|Ja I<|Jn<|Je ?_)
  rw [zf];have yu:((q.map (fun s:ByteArray=>[Value.string s])).flatten++((List.replicate (n-q.length) [Value.string ⟨#[]⟩]).flatten++cur)).length=vc*1:=by
   rw [<- hsz,Zg,js hF,Zg,Zg,<- hn,hV,js hF];have:(List.replicate (l.length-q.length) [Value.string ⟨#[]⟩]).flatten.length=(l.length-q.length)*1:=by simp
   rw [this];omega
  refine dC (n:=q.length) (sz:=1) (by exact .here) VZ Bj yu (by rw [js hF]) ?_
  skip
  with_reducible first|apply aO|apply aQ
  case he=>exact dB I I
  case hR=>
   intro w' aB;exact aD (.w g q.length vc) trivial (show bB _ [row 9 1 (.w g q.length vc) q.length (aR q)] _ by rw [hV];exact .h1 .nil) aB I
set_option maxHeartbeats 1000000 in
theorem Q5 {n:Nat} {l:List Po} {p:Po->Bool} {f:FuncId} [bW T_ f] {w:World} {fp:List Nat} (jw:fp.Nodup) (hs:cr (hp w) [row 188 3 v n (gl l)] fp) (hn:l.length=n) (cZ:n<=1000000)
  (cV:∀ x∈l,∀ w',aJ fp w w'->aj T_ f (first++[.agg x.cells.toArray]++cap) w' (.bool (p x))) :
  a8 T_ 314 [v,.func (.func f) first.toArray cap.toArray] w fp (fun _:Value=>True) id (fun v'=>[row 188 3 v' (l.filter fun x=>!p x).length (gl (l.filter fun x=>!p x))]):=by
 refine ek func314 I I jw hs ?_;refine Jr<|Ja I<|Ji<|Jv I<|Jv I ?_;refine aM (by exact .here) fun va vc e=>?_;subst e
 skip
 with_reducible apply ai
 case hr=>exact bb
 case hd=>rfl
 case hc=>
  intro w' aB;have hR:Rd w' (.slice va n vc) 3 (tG l):=ct aB (by exact .here) hn;exact Bc (f:=f) (p:=p) (first:=first) (cap:=cap) hR (fun x hx w2 fq=>cV x hx w2 (aB.keeps.trans (fq.mono (by simp))))
 rcases qt p l with ⟨e1,e2⟩ | ⟨i,hi,e1,e2⟩
 ·rw [e1];have sK:(l.filter fun x=>!p x)=l:=Zaz.2 fun x hx=>by
   have:=ZaL.1 e2 x hx;simpa using this
  rw [sK];refine Ja I<|Jn<|Jq<|Jr<|Jv I<|JC I<|Jn<|Jd I fun az=>Jr<|Jv I<|Ja I<|Jn<|Ju ?_
  with_reducible first|apply aO|apply aQ
  case he=>exact dB I I
  case hR=>
   intro w' aB;exact aD (.slice va n vc) trivial (show bB _ [row 188 3 (.slice va n vc) l.length (gl l)] _ by rw [hn];exact .h1 .nil) aB I
 rw [e1];rw [ZaD] at e2;obtain ⟨Sa,i',yz,I0,dK⟩:=e2;have Dl:i'=i:=by
  have h1:iN p l=(i':Nat):=gP (fun j hj=>by
   rw [Zc (by omega)];simpa using dK j hj) yz (by rw [I0];exact Sa)
  rw [e1] at h1
  exact_mod_cast h1.symm
 subst Dl;obtain ⟨st1,st2⟩:=zP (fun x=>!p x) l yz (fun j hj=>dK j hj) (by rw [I0];simp [Sa]);have hne:¬ ((i':Nat):Int) = -1:=by omega
 refine Ja I<|Jn<|Jq<|Jr<|Jv I<|JC I<|Jn<|Jc I fun az=>Jk<|Jq<|Jr<|Jv I<|JB I (by omega)<|Ja I<|Jn<|J0 ?_;refine dy (by exact .here) (by omega) ?_;rintro g iz cur e oD Bj hsz hl;cases e;have hF:∀ x,(Po.cells x).length=3:=fun _=>rfl
 have hV:∀ l,gl l=(l.map Po.cells).flatten:=fun l=>rfl
 refine aV (fun j:Nat=>i'<j/\j<=l.length) (fun j=>[(6,.q (j:Nat)),(5,.q (lY (fun x=>!p x) l j)),(0,.w g n vc),(1,.func (.func f) first.toArray cap.toArray)])
  (fun j=>[bE g (.cells (((vE (fun x=>!p x) l j).map Po.cells).flatten++cur).toArray 188 (0,0))]) (fun j=>l.length-j) ?_ ?_
 ·apply aI (i'+1) ⟨by omega,by omega⟩
  case hs1=>rw [st2];exact .cons I (.cons I (.cons I (.cons I .nil)))
  case ht=>rw [st1,<- hV];exact .h1 .nil
 rintro j ⟨hj,hk⟩;by_cases aK:j<l.length
 ·have uE:j<n:=by omega
  have hle:=og (fun x=>!p x) l hk
  have sK:=GW (fun x=>!p x) l hk
  obtain ⟨hjf,hgj⟩:=GX (fun x=>!p x) l aK;have c0:=sS hF hjf cur;rw [hgj] at c0;have c1:eK (((vE (fun x=>!p x) l j).map Po.cells).flatten++cur) (j*3) 3=[.int .i64 (l[j]).lv,.string (l[j]).ou,.string (l[j]).ip]:=c0
  (refine Jq<|Jr<|Jv I<|Jv I<|JI I<|JA I<|Jn<|Jd I fun az=>Jk<|Jq<|J0<|Jr<|Jv I<|Jv I<|ab (an (.of I) (.of I) I (by omega) az aW) I ?_;refine ab (bK (.of I) .here c1 I) I ?_;refine Jz I I fun _ _=>ao (.of I) (.of I) .here I I (fx I I I) (bz I) ak ?_;refine Ji<|Jv I<|ab (cm .here) I ?_)
  with_reducible apply ai
  case hr=>exact bM
  case hd=>rfl
  case hc=>
   intro w' aB;exact cV l[j] (Zj aK) w' aB.keeps
  have hm:lY (fun x=>!p x) l j<(vE (fun x=>!p x) l j).length:=by rw [sK];have:=st2;omega
  have hb:lY (fun x=>!p x) l j*3+3<=(((vE (fun x=>!p x) l j).map Po.cells).flatten++cur).length:=by rw [Zg,js hF,sK];omega
  have qH:=MT hF hm l[j] cur;have hmn:lY (fun x=>!p x) l j<n:=by omega
  cases hq:p l[j] with
  | true =>
   obtain ⟨s1,s2⟩:=Fj (fun x=>!p x) l aK (by simp [hq])
   (refine JH I<|Jn<|ch (.of I)<|Jw<|Jj<|Jt<|Jg<|Jv I<|JB I (by omega)<|Ja I<|Jn ?_)
   apply aH (j+1) ⟨by omega,by omega⟩ (by omega)
   case hs1=>rw [s2];exact .cons I (.cons I (.cons I (.cons I .nil)))
   case ht=>rw [s1];exact .cons (.there .here) .nil
  | false =>
   obtain ⟨s1,s2⟩:=GV (fun x=>!p x) l aK (by simp [hq])
   (refine JH I<|Jn<|cW (.of I) ?_;refine Jr<|Jv I<|Jv I<|ab (cm .here) I ?_;refine ab (an (.of I) (.of I) I (by omega) (by omega) aW) I ?_;refine ao (.of I) (.of I) (.there .here) I I (fx I I I) hb qH ?_;refine Jn<|Jg<|Jv I<|JB I (by omega)<|Ja I<|Jx<|Jj<|Jt<|Jg<|Jv I<|JB I (by omega)<|Ja I<|Jn ?_)
   apply aH (j+1) ⟨by omega,by omega⟩ (by omega)
   case hs1=>rw [s2];exact .cons I (.cons I (.cons I (.cons I .nil)))
   case ht=>rw [s1];exact .h1 .nil
 ·obtain rfl:j=l.length:=by omega
  obtain ⟨a1,a2⟩:=GY (fun x=>!p x) l;have hle:=og (fun x=>!p x) l (Zy _)
  rw [a1,a2];rw [a2] at hle;have hZ:=G0 hF (l.filter fun x=>!p x) (l.drop (l.filter fun x=>!p x).length) (List.replicate (n-(l.filter fun x=>!p x).length) [Value.int .i64 0,Value.string ⟨#[]⟩,Value.string ⟨#[]⟩]).flatten cur (by simp;omega)
  have R8:(l.filter fun x=>!p x).length<l.length:=filter_lt yz (by rw [I0];simp [Sa])
  generalize (l.filter fun x=>!p x)=q at hle hZ R8 ⊢
  have hqn:q.length<n:=by omega
  have VZ:q.length<=vc:=by omega
  have hfit:q.length*3+(n-q.length)*[Value.int .i64 0,Value.string ⟨#[]⟩,Value.string ⟨#[]⟩].length<=(((q++l.drop q.length).map Po.cells).flatten++cur).length:=by
   rw [Zg,js hF,Zg,ZaS];simp only [ZA,Zaa];omega
  refine Jq<|Jr<|Jv I<|Jv I<|JI I<|JA I<|Jn<|Jc I fun az=>Jp<|Jl<|Jo<|Jt<|Jr<|Jv I<|Jv I<|ab (rb (.of I) (.of I) (by omega) (by omega)) I ?_;rw [ze 3 hqn oD];refine Cj (zs:=[Value.int .i64 0,Value.string ⟨#[]⟩,Value.string ⟨#[]⟩]) (z:=.agg #[.q 0,.string ⟨#[]⟩,.string ⟨#[]⟩]) (.of I) .here I (fx I I I) hfit ?_;rw [hZ]
  (refine Ji<|Jv I<|Jv I<|ab (iU (.of I) (.of I) (by omega) (by omega)) I<|Ja I<|Jn<|Je ?_)
  rw [zf];have yu:((q.map Po.cells).flatten++((List.replicate (n-q.length) [Value.int .i64 0,Value.string ⟨#[]⟩,Value.string ⟨#[]⟩]).flatten++cur)).length=vc*3:=by
   rw [<- hsz,Zg,js hF,Zg,Zg,<- hn,hV,js hF];have:(List.replicate (l.length-q.length) [Value.int .i64 0,Value.string ⟨#[]⟩,Value.string ⟨#[]⟩]).flatten.length=(l.length-q.length)*3:=by simp
   rw [this];omega
  refine dC (n:=q.length) (sz:=3) (by exact .here) VZ Bj yu (by rw [js hF]) ?_
  skip
  with_reducible first|apply aO|apply aQ
  case he=>exact dB I I
  case hR=>
   intro w' aB;exact aD (.w g q.length vc) trivial (show bB _ [row 188 3 (.w g q.length vc) q.length (gl q)] _ by rw [hV];exact .h1 .nil) aB I
theorem eR {w w':World} {a:Addr} {md:List Nat} (h:w.cell? a=some v) (hs:a.spot=none) (hn:a.block ∉ md) (hk:aJ md w w'):w'.cell? a=some v:=by
 have hb:=World.block_lt_of_cell? w a h;obtain ⟨b,o,s⟩:=a;subst hs;have:=hk.block b hb hn;rw [<- h];simp [World.cell?,this]
theorem Nk {q:Bool} {f:FuncId} [bW T_ f] {b5:Nat} {w:World} (f5:w.cell? ⟨b5,0,none⟩=some (.func (.func f) first.toArray cap.toArray))
  (cV:∀ w',aJ [] w w'->aj T_ f (first++[.string o]++cap) w' (.bool q)) :
  aj T_ 225 [.string o,.p b5] w (.bool (!q)):=by
 refine ah func225 I I ?_
 (refine Jr<|Ja I<|Ji<|ab (ag (.of I) (At.base f5 I)) I<|Jv I ?_)
 refine ai bM I (fun w' aB=>cV w' aB.keeps) ?_;refine JH I<|Ja I<|Jn<|Je<|JT ?_
 rfl
theorem Fq {l:List Ti} {f:FuncId} [bW T_ f] {w:World} (h:Rd w lv 3 (uS l)) (hn:l.length<=1000000)
  (cV:∀ o w',aJ [] w w'->aj T_ f (first++[.string o]++cap) w' (.bool (q o))) :
  a8 T_ 118 [lv,.func (.func 119) #[] #[],.func (.func f) first.toArray cap.toArray] w [] (fun _:Value=>True) id (fun v=>[row 9 1 v ((l.map Ti.nm).filter q).length (aR ((l.map Ti.nm).filter q))]):=by
 have tO:=Rd.one h;refine aS func118 I I ?_;refine Jr<|Jy I I fun _ _=>Ja I<|Ji<|Jv I<|Jv I ?_;rename_i b5 Ia;refine JN bb I (fun w1 aT=>PS (f:=119) (first:=[]) (cap:=[]) (g:=Ti.nm) (h.keeps aT.keeps) hn (fun x _ w2 _=>LF x w2)) ?_
 intro nv _;dsimp only [id_eq,Zb,Za];refine ab (bD .nil (.o I .nil)) I ?_
 with_reducible apply gA (As:=[row 9 1 nv l.length (aR (l.map Ti.nm))])
 case hr=>exact bb
 case hd=>rfl
 case ht=>exact iP
 case hc=>
  intro w1 Bv aT uV hs1 Dt lp;have h5:b5 ∉ Bv:=lp b5 _ _ (by exact .here);have f5:w1.cell? ⟨b5,0,none⟩=some (.func (.func f) first.toArray cap.toArray):=At.lit (by exact Take.there .here) I w1 aT
  exact M9 (f:=225) (p:=fun o=>!q o) (first:=[]) (cap:=[.p b5]) uV hs1 (by rw [Zd]) hn
   (fun o _ w2 fq=>Nk (eR f5 I h5 fq) (fun w3 hk3=>cV o w3 ((aT.keeps.over (fun b hb=>Dt b hb) fq).trans hk3)))
 intro v' _;dsimp only [id_eq,Zb,Za];simp only [Bool.not_not];refine Ja I<|Jn<|Je ?_
 with_reducible first|apply aO|apply aQ
 case he=>exact dB I I
 case hR=>
  intro w' aB;exact aD v' trivial (by exact .h1 .nil) aB I
theorem Nl {q:Bool} {f:FuncId} [bW T_ f] {b5:Nat} {w:World} (f5:w.cell? ⟨b5,0,none⟩=some (.func (.func f) first.toArray cap.toArray))
  (cV:∀ w',aJ [] w w'->aj T_ f (first++[.string o]++cap) w' (.bool q)) :
  aj T_ 226 [.string o,.p b5] w (.bool (!q)):=by
 refine ah func226 I I ?_
 (refine Jr<|Ja I<|Ji<|ab (ag (.of I) (At.base f5 I)) I<|Jv I ?_)
 refine ai bM I (fun w' aB=>cV w' aB.keeps) ?_;refine JH I<|Ja I<|Jn<|Je<|JT ?_
 rfl
theorem Fs {l:List De} {f:FuncId} [bW T_ f] {w:World} (h:Rd w lv 3 (u0 l)) (hn:l.length<=1000000)
  (cV:∀ o w',aJ [] w w'->aj T_ f (first++[.string o]++cap) w' (.bool (q o))) :
  a8 T_ 123 [lv,.func (.func 124) #[] #[],.func (.func f) first.toArray cap.toArray] w [] (fun _:Value=>True) id (fun v=>[row 9 1 v ((l.map De.nm).filter q).length (aR ((l.map De.nm).filter q))]):=by
 have tO:=Rd.one h;refine aS func123 I I ?_;refine Jr<|Jy I I fun _ _=>Ja I<|Ji<|Jv I<|Jv I ?_;rename_i b5 Ia;refine JN bb I (fun w1 aT=>Gx (f:=124) (first:=[]) (cap:=[]) (g:=De.nm) (h.keeps aT.keeps) hn (fun x _ w2 _=>ER x w2)) ?_
 intro nv _;dsimp only [id_eq,Zb,Za];refine ab (bD .nil (.o I .nil)) I ?_
 with_reducible apply gA (As:=[row 9 1 nv l.length (aR (l.map De.nm))])
 case hr=>exact bb
 case hd=>rfl
 case ht=>exact iP
 case hc=>
  intro w1 Bv aT uV hs1 Dt lp;have h5:b5 ∉ Bv:=lp b5 _ _ (by exact .here);have f5:w1.cell? ⟨b5,0,none⟩=some (.func (.func f) first.toArray cap.toArray):=At.lit (by exact Take.there .here) I w1 aT
  exact M9 (f:=226) (p:=fun o=>!q o) (first:=[]) (cap:=[.p b5]) uV hs1 (by rw [Zd]) hn
   (fun o _ w2 fq=>Nl (eR f5 I h5 fq) (fun w3 hk3=>cV o w3 ((aT.keeps.over (fun b hb=>Dt b hb) fq).trans hk3)))
 intro v' _;dsimp only [id_eq,Zb,Za];simp only [Bool.not_not];refine Ja I<|Jn<|Je ?_
 with_reducible first|apply aO|apply aQ
 case he=>exact dB I I
 case hR=>
  intro w' aB;exact aD v' trivial (by exact .h1 .nil) aB I
theorem Rn {r:Ro} {s d t p:Value} (v:Int) (o:ByteArray) {b1 b2:Nat} {w:World} (h:RR w r s d t p) (hA:BR w b1 (RC r s d t p)) (f2:w.cell? ⟨b2,0,none⟩=some (.q v)) :
  aj T_ 120 [.string o,.p b1,.p b2] w (.bool (gL r.po v o)):=by
 obtain ⟨h1,h2,h3,h4⟩:=h.one;have kW:∀ (j:Nat) (u:Value),[Value.int .i64 r.lv,.int .i64 r.ma,s,d,t,p][j]? = some u->w.cell? ⟨b1,0+j,none⟩=some u:=hA;refine ah func120 I I ?_
 (refine Jr<|Ja I<|Ji<|ab (iO (eZ.base kW I)) I<|ab (ag (.of I) (At.base f2 I)) I<|Jv I ?_)
 refine ai ef I (fun w' aB=>rF v o (h.keeps aB.keeps)) ?_;refine Ja I<|Jn<|Je<|JT ?_
 rfl
theorem Kc {r:Ro} {s d t p:Value} (v:Int) (o so:ByteArray) {b1 b2 b3:Nat} {w:World} (h:RR w r s d t p) (cZ:r.ti.length<=1000000) (hA:BR w b1 (RC r s d t p)) (f2:w.cell? ⟨b2,0,none⟩=some (.q v)) (f3:w.cell? ⟨b3,0,none⟩=some (.string so)) :
  aj T_ 125 [.string o,.p b1,.p b2,.p b3] w (.bool (decide (j4 r v o=so))):=by
 obtain ⟨h1,h2,h3,h4⟩:=h.one;have kW:∀ (j:Nat) (u:Value),[Value.int .i64 r.lv,.int .i64 r.ma,s,d,t,p][j]? = some u->w.cell? ⟨b1,0+j,none⟩=some u:=hA;refine ah func125 I I ?_;refine Jr<|Ja I<|Jn<|Jq ?_
 with_reducible refine cN 6 (by kernel_rfl) ?_
 (refine aA (iO (eZ.base kW I)) I<|aA (ag (.of I) (At.base f2 I)) I<|gn I I<|dp ef I (fun w' aB=>(qD v o (RR.keeps h (Mem.keeps aB)) cZ))<|aA (ag (.of I) (At.base f3 I)) I<|aA (dF (.of I) (.of I)) I ?_)
 with_reducible refine cT ?_
 refine Ja I<|Jn<|Je<|JT ?_
 rfl
def Nw (r:Ro) (v:Int):Int:=aZ [gy r,GA r v]
def Iy (r:Ro) (v:Int):List ByteArray:=if Nw r v≠0 then [] else (cQ r).filter (gL r.po v)
theorem VL {r:Ro} {s d t p:Value} (v:Int) {w:World} (h:RR w r s d t p) (cZ:nk r):a8 T_ 23 [RA r s d t p,.q v] w [] (fun _:Value=>True) (fun x=>.tuple #[x,.q (Nw r v)]) (fun x=>[row 9 1 x (Iy r v).length (aR (Iy r v))]):=by
 obtain ⟨h1,h2,h3,h4⟩:=h.one;have gr:∀ w',aJ [] w w'->aj T_ 34 [.agg #[.int .i64 r.lv,.int .i64 r.ma,s,d,t,p]] w' (.int .i64 (gy r)):=fun w' hk=>fj (h.keeps hk) cZ
 have hle:∀ w',aJ [] w w'->aj T_ 114 [.agg #[.q r.lv,.q r.ma,s,d,t,p],.q v] w' (.q (GA r v)):=fun w' hk=>lJ v (h.keeps hk)
 unfold RA;refine aS func23 I I ?_;refine Jr<|Jy I I fun _ _=>Jy I I fun _ _=>Ja I<|Ja I<|Jn<|Jq<|Jq ?_;rename_i b2 rM b3 tr
 with_reducible refine cY 6 (by kernel_rfl) ?_
 (refine ar (cm (.there .here)) I<|aX bM I (fun w' aB=>(gr w' (Mem.keeps aB)))<|ar (cm (.there .here)) I<|ar (gX .here) I<|aX bb I (fun w' aB=>(hle w' (Mem.keeps aB)))<|eC (aG (.o I (.o I .nil)) I I I I) I I ?_)
 with_reducible refine dA I fun bq ml=>?_
 (refine ai bM I (fun w' aB=>(ee (Mem.dz aB .here I I) (bY.cons (bY.cons bY.nil))))<|Ja I<|Ji<|Jv I<|JD I<|Jn<|gm I (fun az=>?_) fun az=>?_;refine Jr<|Jv I<|Ja I<|Ja I<|Jn<|Ju ?_;rotate_left;refine Jk<|Jr<|bJ I I ae<|JL I bL I<|ab (bD .nil (.o I (.o I .nil))) I ?_;rotate_right)
 ·have e1:Iy r v=[]:=if_pos az;rw [e1];refine aN 9 1 ?_
  with_reducible first|apply aO|apply aQ
  case he=>exact gH I I I
  case hR=>
   intro w' aB;exact aD (.z) trivial (by exact .h1 .nil) aB I
 have e1:Iy r v=(r.ti.map Ti.nm).filter (gL r.po v):=if_neg az;have e0:aZ [gy r,GA r v]=0:=Zp.1 az;have e2:Nw r v=0:=e0;rw [e1,e2]
 with_reducible apply jH
 case hr=>exact ef
 case hd=>rfl
 case ht=>exact bB.nil
 case hc=>
  intro w1 fp aT _ hs1;obtain rfl:fp=[]:=hs1;have hA:BR w1 b2 [.int .i64 r.lv,.int .i64 r.ma,s,d,t,p]:=BR.of aT bL;have f2:w1.cell? ⟨b3,0,none⟩=some (.int .i64 v):=At.lit (by exact Take.there .here) I w1 aT;have hR:=h.keeps aT.keeps
  exact Fq (f:=120) (q:=gL r.po v) (first:=[]) (cap:=[.p b2,.p b3]) hR.ti (by have:=cZ.2.2;omega)
   (fun o w2 fq=>Rn v o (hR.keeps fq) (hA.keeps fq) (cJ f2 I fq))
 intro x _;dsimp only [id_eq,Zb,Za];refine Ja I<|Ja I<|Jn<|Je ?_
 with_reducible first|apply aO|apply aQ
 case he=>exact gH I I I
 case hR=>
  intro w' aB;exact aD x trivial (by exact .h1 .nil) aB I
def Kf (r:Ro) (v:Int) (so:ByteArray):Int:=aZ [gy r,GA r v,Tz r so]
def Hk (r:Ro) (v:Int) (so:ByteArray):List ByteArray:=if Kf r v so≠0 then [] else (cE r).filter fun o=>decide (j4 r v o=so)
theorem Rr {r:Ro} {s d t p:Value} (v:Int) (so:ByteArray) {w:World} (h:RR w r s d t p) (cZ:nk r):a8 T_ 24 [RA r s d t p,.q v,.string so] w [] (fun _:Value=>True) (fun x=>.tuple #[x,.q (Kf r v so)]) (fun x=>[row 9 1 x (Hk r v so).length (aR (Hk r v so))]):=by
 obtain ⟨h1,h2,h3,h4⟩:=h.one;have gr:∀ w',aJ [] w w'->aj T_ 34 [.agg #[.int .i64 r.lv,.int .i64 r.ma,s,d,t,p]] w' (.int .i64 (gy r)):=fun w' hk=>fj (h.keeps hk) cZ
 have hle:∀ w',aJ [] w w'->aj T_ 114 [.agg #[.q r.lv,.q r.ma,s,d,t,p],.q v] w' (.q (GA r v)):=fun w' hk=>lJ v (h.keeps hk)
 have Be:∀ w',aJ [] w w'->aj T_ 122 [.agg #[.q r.lv,.q r.ma,s,d,t,p],.string so] w' (.q (Tz r so)):=fun w' hk=>qW so (h.keeps hk)
 unfold RA;refine aS func24 I I ?_;refine Jr<|Jy I I fun _ _=>Jy I I fun _ _=>Jy I I fun _ _=>Ja I<|Ja I<|Jn<|Jq<|Jq ?_;rename_i b2 rM b3 tr b4 tS
 with_reducible refine cY 9 (by kernel_rfl) ?_
 (refine ar (cm bL) I<|aX bM I (fun w' aB=>(gr w' (Mem.keeps aB)))<|ar (cm bL) I<|ar (gX (.there .here)) I<|aX bb I (fun w' aB=>(hle w' (Mem.keeps aB)))<|ar (cm bL) I<|ar (gX .here) I<|aX bb I (fun w' aB=>(Be w' (Mem.keeps aB)))<|eC (aG (.o I (.o I (.o I .nil))) I I I I) I I ?_)
 with_reducible refine dA I fun bq ml=>?_
 (refine ai bM I (fun w' aB=>(ee (Mem.dz aB .here I I) (bY.cons (bY.cons (bY.cons bY.nil)))))<|Ja I<|Ji<|Jv I<|JD I<|Jn<|gm I (fun az=>?_) fun az=>?_;refine Jr<|Jv I<|Ja I<|Ja I<|Jn<|Ju ?_;rotate_left;refine Jk<|Jr<|bJ I I ae<|JL I cX I<|ab (bD .nil (.o I (.o I (.o I .nil)))) I ?_;rotate_right)
 ·have e1:Hk r v so=[]:=if_pos az;rw [e1];refine aN 9 1 ?_
  with_reducible first|apply aO|apply aQ
  case he=>exact gH I I I
  case hR=>
   intro w' aB;exact aD (.z) trivial (by exact .h1 .nil) aB I
 have e1:Hk r v so=(r.de.map De.nm).filter (fun o=>decide (j4 r v o=so)):=if_neg az
 have e0:aZ [gy r,GA r v,Tz r so]=0:=Zp.1 az;have e2:Kf r v so=0:=e0;rw [e1,e2]
 with_reducible apply jH
 case hr=>exact ef
 case hd=>rfl
 case ht=>exact bB.nil
 case hc=>
  intro w1 fp aT _ hs1;obtain rfl:fp=[]:=hs1;have hA:BR w1 b2 [.int .i64 r.lv,.int .i64 r.ma,s,d,t,p]:=BR.of aT cX;have f2:w1.cell? ⟨b3,0,none⟩=some (.int .i64 v):=At.lit bL I w1 aT;have f3:w1.cell? ⟨b4,0,none⟩=some (.string so):=At.lit (by exact Take.there .here) I w1 aT;have hR:=h.keeps aT.keeps
  exact Fs (f:=125) (q:=fun o=>decide (j4 r v o=so)) (first:=[]) (cap:=[.p b2,.p b3,.p b4]) hR.de (by have:=cZ.2.1;omega)
   (fun o w2 fq=>Kc v o so (hR.keeps fq) (by have:=cZ.2.2;omega) (hA.keeps fq) (cJ f2 I fq) (cJ f3 I fq))
 intro x _;dsimp only [id_eq,Zb,Za];refine Ja I<|Ja I<|Jn<|Je ?_
 with_reducible first|apply aO|apply aQ
 case he=>exact gH I I I
 case hR=>
  intro w' aB;exact aD x trivial (by exact .h1 .nil) aB I
end Go.Proofs.A1
