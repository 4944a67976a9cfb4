/- Parts of the proof: GkRegO GkCopy GkZ K2 K3 KZz GkPool K4. -/
import Derived.Test.YteonnodafmegaaaGreatDoorOM03
import Derived.Lib.AppendZerosOnto
import Derived.Test.YteonnodafmegaaaGreatDoorOM01
import Derived.Laws.RangeAny
import Derived.Laws.RangeString
import Derived.Test.YteonnodafmegaaaGreatDoorOM02
set_option linter.unusedSectionVars false
set_option linter.unusedVariables false
set_option linter.unusedSimpArgs false
namespace Go.SL
open Go
inductive Step where
 | rel (R:Rel)
 | new (V:Nat->Value) (ob:Obj)
def Step.r:Step->Rel
 | .rel R=>R
 | .new V ob=>EE V ob
section
variable {P:Program} {r:Option Nat} {c:Cx} {D:List Nat} {sl jX:aL} {rl lA:fw} {hs:List bd} {Q:Exit->Act->World->Prop} {l:List Oper} {ops:Array Oper} {m:Nat} {S:List Step}
inductive nI (P:Program) (c:Cx) (hs:List bd) (ops:Array Oper):List Oper->aL->fw->List Step->aL->fw->Prop
 | nil {sl:aL} {rl:fw}:nI P c hs ops [] sl rl [] sl rl
 | val {o:Oper} {l:List Oper} {sl jX:aL} {rl lA:fw} {d:Nat} {V:Value} {S:List Step} (hd:o.dst=some d) (gq:d<c.nt) (h:uP P c hs ops sl rl o (.val V)) (t:nI P c hs ops l ((d,V)::sl) rl S jX lA) :
   nI P c hs ops (o::l) sl rl (.rel (.val V)::S) jX lA
 | new {o:Oper} {l:List Oper} {sl jX:aL} {rl lA:fw} {d:Nat} {V:Nat->Value} {ob:Obj} {S:List Step} (hd:o.dst=some d) (gq:d<c.nt) (hn:db sl d=none) (hg:o.guard=none)
   (hr:qL P c sl hs o V ob) (t:nI P c hs ops l sl ((d,EE V ob)::rl) S jX lA):nI P c hs ops (o::l) sl rl (.new V ob::S) jX lA
theorem nI.W3 {sl jX:aL} {rl lA:fw} (h:nI P c hs ops l sl rl S jX lA):uf P c hs ops l sl rl (S.map Step.r) jX lA:=by
 induction h with
 | nil=>exact .nil
 | val hd gq h _ ih=>exact .val hd gq h ih
 | @new o l sl jX rl lA d V ob S hd gq hn hg hr _ ih =>
  refine .rel hd gq hn (oW hg fun a w h1 _ h3=>?_) ih;unfold yM;rw [hr.2 a w h1 h3];exact ⟨.alloc _ _ _,w.heap.size,I,World.alloc_heap_new w ob⟩
theorem nI.VE {sl jX:aL} {rl lA:fw} (h:nI P c hs ops l sl rl S jX lA) :
  ∀ (i : Nat) (o : Oper) (V : Nat -> Value) (ob : Obj), l[i]? = some o -> S[i]? = some (.new V ob) -> ∃ vl, o.guard = none /\ qL P c vl hs o V ob /\
   (∀ t v,db vl t=some v->(∃ (j:Nat) (oj:Oper),j<i/\l[j]? = some oj/\oj.dst=some t/\(S.map Step.r)[j]? = some (.val v))\/((∀ (j:Nat) (oj:Oper),j<i->l[j]? = some oj->oj.dst≠some t)/\db sl t=some v)):=by
 induction h with
 | nil=>intro i o V ob h;simp at h
 | @val o0 l sl jX rl lA d V0 S hd gq ba t ih =>
  intro i o V ob ho hS;cases i with
  | zero=>simp at hS
  | succ i =>
   obtain ⟨vl,hg,hr,h1⟩:=ih i o V ob (by simpa using ho) (by simpa using hS);refine ⟨vl,hg,hr,fun t v hv=>?_⟩;rcases h1 t v hv with ⟨j,oj,hj,jo,jF,lq⟩ | ⟨oB,nK⟩
   ·exact .inl ⟨j+1,oj,by omega,by simpa using jo,jF,by simpa using lq⟩
   ·by_cases yA:d=t
    ·subst yA;rw [gC] at nK;cases nK;exact .inl ⟨0,o0,by omega,I,hd,I⟩
    ·rw [gB yA] at nK;refine .inr ⟨fun j oj hj jo=>?_,nK⟩;cases j with
     | zero=>simp at jo;subst jo;rw [hd];simp [yA]
     | succ j=>exact oB j oj (by omega) (by simpa using jo)
 | @new o0 l sl jX rl lA d V0 ob0 S hd gq hn hg0 N7 t ih =>
  intro i o V ob ho hS;cases i with
  | zero =>
   simp at ho hS;subst ho;obtain ⟨rfl,rfl⟩:=hS;exact ⟨sl,hg0,N7,fun t v hv=>.inr ⟨fun j _ hj=>by omega,hv⟩⟩
  | succ i =>
   obtain ⟨vl,hg,hr,h1⟩:=ih i o V ob (by simpa using ho) (by simpa using hS);refine ⟨vl,hg,hr,fun t v hv=>?_⟩;rcases h1 t v hv with ⟨j,oj,hj,jo,jF,lq⟩ | ⟨oB,nK⟩
   ·exact .inl ⟨j+1,oj,by omega,by simpa using jo,jF,by simpa using lq⟩
   ·have yA:d≠t:=fun e=>by subst e;rw [hn] at nK;cases nK
    refine .inr ⟨fun j oj hj jo=>?_,nK⟩;cases j with
    | zero=>simp at jo;subst jo;rw [hd];simp [yA]
    | succ j=>exact oB j oj (by omega) (by simpa using jo)
def rP (β:Nat->Nat) (lst:Nat->Bool):List Step->Nat->List bd
 | [],_=>[]
 | .new _ ob::S,i=>if lst i then bE (β i) ob::rP β lst S (i+1) else rP β lst S (i+1)
 | .rel _::S,i=>rP β lst S (i+1)
theorem pV {β β':Nat->Nat} {lst nZ:Nat->Bool}:∀ {S:List Step} {i:Nat},(∀ j V ob,S[j]? = some (.new V ob)->lst (i+j)=nZ (i+j)/\(lst (i+j)=true->β (i+j)=β' (i+j)))->rP β lst S i=rP β' nZ S i
 | [],_,_=>rfl
 | .rel _ :: S, i, h => by
  unfold rP;exact pV fun j V ob hj=>by have:=h (j+1) V ob (by simpa using hj);rwa [show i+(j+1)=i+1+j from by omega] at this
 | .new V ob :: S, i, h => by
  have h0:=h 0 V ob I;have ih:rP β lst S (i+1)=rP β' nZ S (i+1):=pV fun j V ob hj=>by have:=h (j+1) V ob (by simpa using hj);rwa [show i+(j+1)=i+1+j from by omega] at this
  simp only [Zaw] at h0;unfold rP;rw [ih,<- h0.1];by_cases hl:lst i=true
  ·rw [if_pos hl,if_pos hl,h0.2 hl]
  ·rw [if_neg hl,if_neg hl]
theorem BN {β β':Nat->Nat} {lst nZ:Nat->Bool} {k b:Nat} {V:Nat->Value} {ob:Obj}:∀ {S:List Step} {i:Nat},S[k]? = some (.new V ob)->lst (i+k)=false->nZ (i+k)=true->β' (i+k)=b->(∀ j,j≠i+k->nZ j=lst j/\β' j=β j) ->
  (bE b ob::rP β lst S i).Perm (rP β' nZ S i)
 | [],_,h,_,_,_,_=>by simp at h
 | .rel _ :: S, i, h, h1, h2, h3, h4 => by
  cases k with
  | zero=>simp at h
  | succ k =>
   unfold rP;refine BN (k:=k) (V:=V) (by simpa using h) ?_ ?_ ?_ ?_
   all_goals rw [show i+1+k=i+(k+1) from by omega];assumption
 | .new V0 ob0 :: S, i, h, h1, h2, h3, h4 => by
  cases k with
  | zero =>
   simp at h;obtain ⟨rfl,rfl⟩:=h;have e:rP β lst S (i+1)=rP β' nZ S (i+1):=pV fun j V ob hj=>by
    obtain ⟨e1,e2⟩:=h4 (i+1+j) (by omega);exact ⟨e1.symm,fun _=>e2.symm⟩
   simp only [Zaw] at h1 h2 h3;unfold rP;rw [if_neg (by simp [h1]),if_pos h2,h3,e]
  | succ k =>
   have ih:(bE b ob::rP β lst S (i+1)).Perm (rP β' nZ S (i+1)):=by
    refine BN (k:=k) (V:=V) (by simpa using h) ?_ ?_ ?_ ?_
    all_goals rw [show i+1+k=i+(k+1) from by omega];assumption
   obtain ⟨e1,e2⟩:=h4 i (by omega);unfold rP;rw [e1,e2];by_cases hl:lst i=true
   ·rw [if_pos hl,if_pos hl];exact (List.Perm.swap _ _ _).trans (ih.cons _)
   ·rw [if_neg hl,if_neg hl];exact ih
theorem cr.perm {h:Nat->Option Obj} {l1 l2:List bd} (hp:l1.Perm l2):∀ {fp:List Nat},cr h l1 fp->∃ mw,cr h l2 mw/\fp.Perm mw:=by
 induction hp with
 | nil=>intro fp hf;exact ⟨fp,hf,.refl _⟩
 | cons A _ ih =>
  rintro fp ⟨f1,f2,rfl,h1,h2⟩;obtain ⟨g,hg,hpg⟩:=ih h2;exact ⟨f1++g,⟨f1,g,I,h1,hg⟩,hpg.append_left f1⟩
 | swap A B l =>
  rintro fp ⟨f1,_,rfl,h1,f2,f3,rfl,h2,h3⟩;refine ⟨f2++(f1++f3),⟨f2,f1++f3,I,h2,f1,f3,I,h1,h3⟩,?_⟩;rw [<- Zh,<- Zh];exact List.perm_append_comm.append_right f3
 | trans _ _ ih1 ih2 =>
  intro fp hf;obtain ⟨g,hg,h1⟩:=ih1 hf;obtain ⟨g',hg',h2⟩:=ih2 hg;exact ⟨g',hg',h1.trans h2⟩
theorem Mem.perm {c:Cx} {l1 l2:List bd} {w:World} (h:Mem c l1 w) (hp:l1.Perm l2):Mem c l2 w:=by
 obtain ⟨k,fp,hn,hs,hb⟩:=h;obtain ⟨g,hg,hpg⟩:=hs.perm hp;exact ⟨k,g,hpg.nodup_iff.1 hn,hg,fun b dK=>hb b (hpg.mem_iff.2 dK)⟩
def ID (c:Cx) (D:List Nat) (hs:List bd) (l:List Oper) (S:List Step) (listed:Array Bool) (a:Act) (w:World):Prop:=
 ∃ β : Nat -> Nat, Mem c (rP β (fun i => listed.getD i false) S 0 ++ (hs ++ nB D)) w /\ (∀ i, c.w0.heap.size <= β i \/ ¬ Ls listed i \/ ∀ V ob, S[i]? ≠ some (.new V ob)) /\
  ∀ (i:Nat) (o:Oper) (d:Nat) (V:Nat->Value) (ob:Obj),l[i]? = some o->o.dst=some d->S[i]? = some (.new V ob)->Ls listed i->a.tmps[d]? = some (V (β i))
theorem PA (hc:VK l m) (hpO:nI P c hs l.toArray (l.take m) sl [] S jX lA) {a0:Act} (h0:cg sl a0) (Qt:a0.tmps.size=c.nt)
  (tail:∀ listed a w,(∀ i,i<m->Ls listed i)->St c D jX hs a w->ID c D hs (l.take m) S listed a w->WL P r l.toArray Q (l.drop m) a w) :
  ∀ (fuel:Nat) (listed:Array Bool) (a:Act) (w:World),Inv1 c D hs l m (S.map Step.r) a0 fuel listed a w->ID c D hs (l.take m) S listed a w->wpAnyIn (FR r) 0 P .any l.toArray Q fuel listed a w:=by
 have hp:=hpO.W3;have sL:=hp.end_;have fH:∀ (j:Nat) (o:Oper),j<m->l[j]? = some o->(l.take m)[j]? = some o:=fun j o hj ho=>by rw [ZP,if_pos hj];exact ho
 have il:∀ (j:Nat) (o:Oper),(l.take m)[j]? = some o->j<m/\l[j]? = some o:=fun j o ho=>by
  rw [ZP] at ho;split at ho
  ·exact ⟨by assumption,ho⟩
  ·cases ho
 have pG:∀ fuel listed a w,Inv1 c D hs l m (S.map Step.r) a0 fuel listed a w->ID c D hs (l.take m) S listed a w->(∀ i,i<m->Ls listed i)->wpAnyIn (FR r) 0 P .any l.toArray Q fuel listed a w:=by
  intro fuel listed a w hI hO eO;have hL:∀ i,i<l.length->(Ls listed i↔i<m):=fun i _=>⟨fun h=>Z2 fun hm=>hI.hi i hm h,eO i⟩
  obtain ⟨U,D7,vC,yD⟩:=hI.left;have jD:U.Perm (List.range' m (l.length-m)):=by
   rw [ZaO D7 (List.nodup_range')];intro i;rw [vC i,Zba];constructor
   ·rintro ⟨h1,h2⟩;exact ⟨Zbg fun h=>h2 (eO i h),by omega⟩
   ·rintro ⟨h1,h2⟩;exact ⟨by omega,hI.hi i h1⟩
  have hlen:fuel=l.length-m:=by rw [<- yD,jD.length_eq,List.length_range']
  refine EJ hc fuel m listed a w (Zy _) (by have:=hc.le;omega) hI.sz hL (tail listed a w eO ⟨hI.mem,?_,hI.size,hI.defers⟩ hO)
  ·intro t v hv;rcases sL.1 t v hv with ⟨j,oj,hj,jF,lq⟩ | ⟨oB,nK⟩
   ·obtain ⟨kK,pF⟩:=il j oj hj;obtain ⟨u,hu,mu⟩:=hI.new j oj pF (eO j kK) t _ jF lq;rw [hu,show u=v from mu]
   ·rw [hI.Gs t fun j oj hj nb=>oB j oj (fH j oj (Z2 fun hm=>hI.hi j hm nb) hj)]
    exact h0 t v nK
 intro fuel
 induction fuel with
 | zero =>
  intro listed a w hI hO;obtain ⟨U,_,vC,yD⟩:=hI.left;have hU:U=[]:=Zas.1 yD;refine pG 0 listed a w hI hO fun i hi=>Classical.byContradiction fun hn=>?_;have:=(vC i).2 ⟨by have:=hc.le;omega,hn⟩;rw [hU] at this;cases this
 | succ fuel ih =>
  intro listed a w hI hO;by_cases eO:∀ i,i<m->Ls listed i
  ·exact pG _ listed a w hI hO eO
  ·have hex:∃ i,i<m/\¬ Ls listed i:=Classical.byContradiction fun hh=>eO fun i hi=>Classical.byContradiction fun hn=>hh ⟨i,hi,hn⟩
   obtain ⟨i0,vB,uW⟩:=hex;refine ⟨fun hr=>?_,fun i hi=>?_⟩
   ·obtain ⟨i,hi⟩:=kS hI.sz hc.ac ⟨i0,by have:=hc.le;omega,uW⟩;rw [hr] at hi;cases hi
   ·have tQ:i<m:=Z2 fun hm=>uW (re hc hI.sz hI.dc hi hm i0 (by omega))
    obtain ⟨o,ho,hn,pH⟩:=(eI hI.sz).1 hi;obtain ⟨vl,N1,R,U3,iY,hs1,hs2⟩:=hp.at_ i o (fH i o tQ ho);obtain ⟨d,R',hd,gq,uK⟩:=sL.2.2 i o (fH i o tQ ho);rw [U3] at uK;cases uK;have oz:∀ (j:Nat),fL o j=true->Ls listed j:=fun j hw=>by
     obtain ⟨e,he,hb,rK⟩:=eh hw;rw [<- rK];exact pH e he hb
    have Ds:∀ (j t:Nat) (oj:Oper),j<i->(l.take m)[j]? = some oj->oj.dst=some t->t∈o.looksAt l.toArray->Ls listed j:=by
     intro j t oj hj jo jF ht;obtain ⟨kK,pF⟩:=il j oj jo;exact oz j ((eN (mI hc hj tQ pF ho) jF hd).2 (.inl ht))
    have Sg:∀ vl:aL,(∀ t v,db vl t=some v->(∃ (j:Nat) (oj:Oper),j<i/\(l.take m)[j]? = some oj/\oj.dst=some t/\(S.map Step.r)[j]? = some (.val v))\/((∀ (j:Nat) (oj:Oper),j<i->(l.take m)[j]? = some oj->oj.dst≠some t)/\db sl t=some v)) ->
      ∃ a':Act,cg vl a'/\∀ t∈o.looksAt l.toArray,a'.tmps[t]? = a.tmps[t]?:=by
     intro vl hs1;have hT:∀ t∈o.looksAt l.toArray,∀ v,db vl t=some v->a.tmps[t]? = some v:=by
      intro t ht v hv;rcases hs1 t v hv with ⟨j,oj,hj,jo,jF,lq⟩ | ⟨oB,nK⟩
      ·obtain ⟨u,hu,mu⟩:=hI.new j oj (il j oj jo).2 (Ds j t oj hj jo jF ht) t _ jF lq;rw [hu,show u=v from mu]
      ·rw [hI.Gs t fun j oj hj nb jF=>?_]
       ·exact h0 t v nK
       ·have kK:j<m:=Z2 fun hm=>hI.hi j hm nb
        rcases Zaq j i with h | h | h
        ·exact oB j oj h (fH j oj kK hj) jF
        ·subst h;exact hn nb
        ·have hw:=(eN (mI hc h kK ho hj) hd jF).2 (.inr ht);obtain ⟨e,he,hb,rK⟩:=eh hw;have:=hI.dc j oj hj nb e he hb;rw [rK] at this;exact hn this
     have Bk:∀ t v,db vl t=some v->t<c.nt:=by
      intro t v hv;rcases hs1 t v hv with ⟨j,oj,_,jo,jF,_⟩ | ⟨_,nK⟩
      ·obtain ⟨d',_,Bp,Bn,_⟩:=sL.2.2 j oj jo;rw [jF] at Bp;cases Bp;exact Bn
      ·have:=h0 t v nK;rw [<- Qt];exact (Z6.1 this).1
     obtain ⟨a',mm,jV,_⟩:=sV hI.size Bk hT;exact ⟨a',mm,jV⟩
    have uI:∀ (j:Nat) (oj:Oper) (e:Nat),l[j]? = some oj->j<m->j≠i->oj.dst=some e->d≠e:=by
     intro j oj e hj kK hne he;rcases Zbt j i with h | h
     ·exact fun e'=>(eN (mI hc h tQ hj ho) he hd).1 e'.symm
     ·exact (eN (mI hc (show i<j by omega) kK ho hj) hd he).1
    have jO:i<listed.size:=by rw [hI.sz];have:=hc.le;omega
    have H3:ph o=true:=hc.op o (Z5 ho);have kc:∀ v w',aJ [] w w'->R.p v w'->ID c D hs (l.take m) S (listed.setIfInBounds i true) (a.put o.dst v) w'->wpAnyIn (FR r) 0 P .any l.toArray Q fuel (listed.setIfInBounds i true) (a.put o.dst v) w':=fun v w' hk hv Yp=>
     ih _ _ _ (C6 hc hc.le hI hi tQ ho hd gq U3 (fun j oj hj jo=>let ⟨e,_,he,_⟩:=sL.2.2 j oj (fH j oj hj jo);⟨e,he⟩) hk hv) Yp
    unfold wpOpIn;rw [show l.toArray[i]? = some o from by simpa using ho];simp only [];have uK:∃ st,S[i]? = some st/\st.r=R:=by
     rw [ZE] at U3;obtain ⟨st,h1,h2⟩:=Zal.1 U3;exact ⟨st,h1,h2⟩
    obtain ⟨st,uK,ba⟩:=uK;have Ms:∀ j,j≠i->(listed.setIfInBounds i true).getD j false=listed.getD j false:=fun j hj=>by
     simp [ZI,ZO (Ne.symm hj)]
    cases st with
    | new V ob =>
     obtain ⟨sln,hgn,Ux,abU⟩:=hpO.VE i o V ob (fH i o tQ ho) uK;obtain ⟨a',mm,jV⟩:=Sg sln abU;have hex:=kg (o:=o) (ops:=l.toArray) H3 jV;have iH:=Ux.2 a' w mm hI.mem.l8;rw [if_pos (by simp [Region.wanted,hgn])];refine ⟨eA _ _ _ _ _,?_⟩;rw [Oper.semAt_eq _ _ _ (fun cc he=>by simp [ph,he] at H3),<- hex,iH]
     refine kc _ _ (.alloc _ _ _) (by rw [<- ba];exact ⟨w.heap.size,I,World.alloc_heap_new w ob⟩) ?_;obtain ⟨β,hm,hb,uB⟩:=hO;refine ⟨fun k=>if k=i then w.heap.size else β k,?_,?_,?_⟩
     ·refine Mem.perm (hm.alloc ob) ((BN (k:=i) (V:=V) uK ?_ ?_ ?_ ?_).append_right _)
      ·rw [ZD];show listed.getD i false=false;have:¬ listed.getD i false=true:=hn;simpa using this
      ·rw [ZD];exact (dx jO).2 (.inl I)
      ·simp
      ·intro j hj;rw [ZD] at hj;exact ⟨Ms j hj,by simp [hj]⟩
     ·intro j;by_cases e:j=i
      ·subst e;left;simp;exact hI.mem.keeps.size
      ·rcases hb j with h | h | h
       ·left;simpa [e] using h
       ·right;left;intro h';exact h (((dx jO).1 h').resolve_left e)
       ·exact .inr (.inr h)
     ·intro j oj e V' T2 hj jF lq nb;by_cases ej:j=i
      ·subst ej;rw [uK] at lq;cases lq;obtain ⟨kK,pF⟩:=il j oj hj;rw [ho] at pF;cases pF;rw [hd] at jF;cases jF;rw [hd];simp [Act.put,hI.size,gq]
      ·obtain ⟨kK,pF⟩:=il j oj hj;have GP:=((dx jO).1 nb).resolve_left ej;have:=uB j oj e V' T2 hj jF lq GP;rw [hd];simp only [Act.put,ZO (uI j oj e pF kK ej jF),if_neg ej];exact this
    | rel R0 =>
     have Yp:∀ v w',aJ [] w w'->ID c D hs (l.take m) S (listed.setIfInBounds i true) (a.put o.dst v) w':=by
      intro v w' hk;obtain ⟨β,hm,hb,uB⟩:=hO;refine ⟨β,?_,?_,?_⟩
      ·have e:rP β (fun j=>(listed.setIfInBounds i true).getD j false) S 0=rP β (fun j=>listed.getD j false) S 0:=pV fun j V ob hj=>by
        have:j≠i:=fun e=>by subst e;rw [uK] at hj;cases hj
        rw [ZD];exact ⟨Ms j this,fun _=>rfl⟩
       rw [e];exact hm.sC hk
      ·intro j;by_cases e:j=i
       ·subst e;right;right;intro V ob h;rw [uK] at h;cases h
       ·rcases hb j with h | h | h
        ·exact .inl h
        ·right;left;intro h';exact h (((dx jO).1 h').resolve_left e)
        ·exact .inr (.inr h)
      ·intro j oj e V' T2 hj jF lq nb;have ej:j≠i:=fun e=>by subst e;rw [uK] at lq;cases lq
       obtain ⟨kK,pF⟩:=il j oj hj;have GP:=((dx jO).1 nb).resolve_left ej;have:=uB j oj e V' T2 hj jF lq GP;rw [hd];simp only [Act.put,ZO (uI j oj e pF kK ej jF)];exact this
     obtain ⟨a',mm,jV⟩:=Sg vl hs1;have Uy:BV (o.looksAt l.toArray) N1 a' w:=by
      intro t Rt hm ht;rcases hs2 t Rt hm with ⟨j,oj,hj,jo,jF,lq⟩ | aB
      ·obtain ⟨v,hv,mu⟩:=hI.new j oj (il j oj jo).2 (Ds j t oj hj jo jF ht) t _ jF lq;exact ⟨v,by rw [jV t ht];exact hv,mu⟩
      ·cases aB
     have hq:=iY a' w mm Uy hI.mem.l8;have hex:=kg (o:=o) (ops:=l.toArray) H3 jV;rw [j5 jV] at hq;split
     ·rename_i hw;rw [if_pos hw] at hq;refine ⟨eA _ _ _ _ _,?_⟩;rw [Oper.semAt_eq _ _ _ (fun cc he=>by simp [ph,he] at H3),<- hex]
      unfold yM at hq
      revert hq
      generalize (execOp a'.eval o).run P w=res;intro hq
      match res,hq with
      | .ok (.value v) w',⟨hk,hv⟩=>exact kc v w' hk hv (Yp v w' hk)
      | .ok (.enter f args) w', ⟨e, cV⟩ =>
       subst e;refine ⟨by simp [FR,Fence.wide],(jQ cV).mono fun e Ah h=>?_⟩;obtain ⟨v,rfl,hk,hv⟩:=h;exact kc v Ah hk hv (Yp v Ah hk)
     ·rename_i hw;rw [if_neg hw] at hq;exact ⟨fun _ _=>trivial,kc undef w (.refl _ _) hq (Yp undef w (.refl _ _))⟩
theorem xN {β:Nat->Nat} {lst:Nat->Bool} (h:∀ i,lst i=false):∀ {S:List Step} {i:Nat},rP β lst S i=[]
 | [],_=>rfl
 | .rel _::S,i=>by unfold rP;exact xN h
 | .new _ _::S,i=>by unfold rP;rw [if_neg (by simp [h]),xN h]
variable {id:Nat}
theorem yi (sH:P.follows .mixedOrders=true) (gr:zo l m=true) (hp:nI P c hs l.toArray (l.take m) sl [] S jX lA)
  (tail:∀ listed a w,(∀ i,i<m->Ls listed i)->St c D jX hs a w->ID c D hs (l.take m) S listed a w->WL P r l.toArray Q (l.drop m) a w):Tr c D sl hs (WP P r (.region id l.toArray true) Q):=fun a w ba=>by
 unfold WP;refine wpIn_region_any sH ?_;refine PA (wx gr) hp ba.du ba.size tail l.toArray.size _ a _ ⟨by simp,?_,?_,?_,ba.defers,ba.size,fun t _=>rfl,?_,List.range l.length,Zbz,?_,by simp⟩ ?_
 ·exact fun k o _ hL=>absurd hL (gS _ _)
 ·exact fun k _ hL=>gS _ _ hL
 ·exact ba.mem.drew
 ·exact fun j o _ hL=>absurd hL (gS _ _)
 ·exact fun i=>⟨fun h=>⟨by simpa using h,gS _ _⟩,fun h=>by simpa using h.1⟩
 ·refine ⟨fun _=>c.w0.heap.size,?_,fun i=>.inl (Zy _),fun i o d V ob _ _ _ hL=>absurd hL (gS _ _)⟩;rw [xN fun i=>by have:=gS l.toArray.size i;unfold Ls at this;simpa using this]
  exact ba.mem.drew
def N0 (β:Nat->Nat):List Oper->List Step->Nat->aL
 | o::l,.new V _::S,i=>(o.dst.getD 0,V (β i))::N0 β l S (i+1)
 | _::l,.rel _::S,i=>N0 β l S (i+1)
 | _,_,_=>[]
theorem AD {β:Nat->Nat}:∀ {l:List Oper} {S:List Step} {i:Nat} {p:Nat×Value},p∈N0 β l S i->∃ (j:Nat) (o:Oper) (V:Nat->Value) (ob:Obj),l[j]? = some o/\S[j]? = some (.new V ob)/\p=(o.dst.getD 0,V (β (i+j)))
 | [],_,_,_,h=>by cases h
 | _::_,[],_,_,h=>by cases h
 | o :: l, .new V ob :: S, i, p, h => by
  unfold N0 at h;rcases ZS.1 h with h | h
  ·exact ⟨0,o,V,ob,I,I,h⟩
  ·obtain ⟨j,o',V',T2,h1,h2,h3⟩:=AD h;exact ⟨j+1,o',V',T2,by simpa using h1,by simpa using h2,by rw [h3,show i+1+j=i+(j+1) from by omega]⟩
 | o :: l, .rel R :: S, i, p, h => by
  unfold N0 at h;obtain ⟨j,o',V',T2,h1,h2,h3⟩:=AD h;exact ⟨j+1,o',V',T2,by simpa using h1,by simpa using h2,by rw [h3,show i+1+j=i+(j+1) from by omega]⟩
theorem vV {L s:aL} {a:Act} (h:∀ p∈L,a.tmps[p.1]? = some p.2) (hs:cg s a):cg (L++s) a:=by
 induction L with
 | nil=>exact hs
 | cons p L ih =>
  intro t v hv;obtain ⟨d,u⟩:=p;by_cases e:d=t
  ·subst e;rw [Zb,gC] at hv;cases hv;exact h (d,v) (by simp)
  ·rw [Zb,gB e] at hv;exact ih (fun p hp=>h p (by simp [hp])) t v hv
def zs (nl:List (Nat×(Nat->Value)×Obj)) (bs:List Nat):aL:=(nl.zip bs).map fun x=>(x.1.1,x.1.2.1 x.2)
def zb (nl:List (Nat×(Nat->Value)×Obj)) (bs:List Nat):List bd:=(nl.zip bs).map fun x=>bE x.2 x.1.2.2
def tj (P:Program) (r:Option Nat) (c:Cx) (D:List Nat) (hs:List bd) (ops:Array Oper) (Q:Exit->Act->World->Prop) (nl:List (Nat×(Nat->Value)×Obj)) (m:Nat) (l:List Oper) (sl:aL) (rl:fw):Prop:=
 ∃ S jX lA, nI P c hs ops (l.take m) sl rl S jX lA /\ ∀ (bs : List Nat) (β : Nat -> Nat) (i0 : Nat), bs.length = nl.length -> (∀ b ∈ bs, c.w0.heap.size <= b) -> (∀ i V ob, S[i]? = some (.new V ob) -> c.w0.heap.size <= β (i0 + i)) ->
  Tr c D (zs nl bs++N0 β (l.take m) S i0++jX) (zb nl bs++rP β (fun _=>true) S i0++hs) (WL P r ops Q (l.drop m))
theorem cY {l:List Oper} (m:Nat) [sH:VI P] (gr:zo l m=true) (k:tj P r c D hs l.toArray Q [] m l sl []):Tr c D sl hs (WP P r (.region id l.toArray true) Q):=by
 obtain ⟨S,jX,lA,hp,ht⟩:=k;have sL:=hp.W3.end_;have hlen:∀ i V ob,S[i]? = some (.new V ob)->i<m:=by
  intro i V ob h;have h1:=(Zn.1 h).1;have abD:∀ {l0:Array Oper} {l:List Oper} {sl jX:aL} {rl lA:fw} {S:List Step},nI P c hs l0 l sl rl S jX lA->S.length=l.length:=by
   intro l0 l sl jX rl lA S h
   induction h with
   | nil=>rfl
   | val _ _ _ _ ih=>simp [ih]
   | new _ _ _ _ _ _ ih=>simp [ih]
  rw [abD hp,Zs] at h1;omega
 refine yi sH.eq gr hp fun listed a w eO ba hO=>?_;obtain ⟨β,hm,hb,uB⟩:=hO;have MM:∀ i V ob,S[i]? = some (.new V ob)->Ls listed i:=fun i V ob h=>eO i (hlen i V ob h)
 have B3:∀ i V ob,S[i]? = some (.new V ob)->c.w0.heap.size<=β (0+i):=fun i V ob h=>by
  rw [ZD];rcases hb i with h1 | h1 | h1
  ·exact h1
  ·exact absurd (MM i V ob h) h1
  ·exact absurd h (h1 V ob)
 refine ht [] β 0 I (fun b hb=>by cases hb) B3 a w ⟨?_,?_,ba.size,ba.defers⟩
 ·have e:rP β (fun i=>listed.getD i false) S 0=rP β (fun _=>true) S 0:=pV fun j V ob hj=>by
   rw [ZD];exact ⟨MM j V ob hj,fun _=>rfl⟩
  rw [e] at hm;simpa [zb,Zh] using hm
 ·refine vV (L:=zs [] []++N0 β (List.take m l) S 0) (fun p mu=>?_) ba.du;obtain ⟨j,o,V,ob,h1,h2,rfl⟩:=AD (by simpa [zs] using mu);obtain ⟨d,R,hd,gq,_⟩:=sL.2.2 j o h1;rw [hd,ZD];exact uB j o d V ob h1 hd h2 (MM j V ob h2)
section
variable {nl:List (Nat×(Nat->Value)×Obj)} {d:Nat} {op:Op} {ty:TypeId} {pos:String} {af:Array Edge} {rest:List Oper}
variable {V:Value} {ob:Obj}
theorem dA {V:Nat->Value} {l:List Oper} (hn:nl=[(d,V,ob)]) (k:∀ b,c.w0.heap.size<=b->Tr c D ((d,V b)::sl) (bE b ob::hs) (WL P r ops Q l)):tj P r c D hs ops Q nl 0 l sl rl:=
 ⟨[],sl,rl,.nil,fun bs β i0 hl hb _=>by
  subst hn
  match bs,hl with
  | [b],_=>simpa [zs,zb,N0,rP] using k b (hb b (by simp))⟩
theorem xM {o:Oper} (ho:o.dst=some d) (hd:Nat.blt d c.nt=true) (h:uP P c hs ops sl rl o (.val V)) (k:tj P r c D hs ops Q nl m rest ((d,V)::sl) rl):tj P r c D hs ops Q nl (m+1) (o::rest) sl rl:=by
 obtain ⟨S,jX,lA,hp,ht⟩:=k;refine ⟨_,_,_,.val ho (by simpa [Zac] using hd) h hp,fun bs β i0 h1 h2 h3=>?_⟩;have:=ht bs β (i0+1) h1 h2 fun i V ob hi=>by have:=h3 (i+1) V ob (by simpa using hi);rwa [show i0+(i+1)=i0+1+i from by omega] at this
 simpa [N0,rP] using this
theorem eC {V:Nat->Value} (hr:qL P c sl hs ⟨some d,op,ty,pos,af,none⟩ V ob) (hd:Nat.blt d c.nt=true) (hn:db sl d=none) (k:tj P r c D hs ops Q (nl++[(d,V,ob)]) m rest sl ((d,EE V ob)::rl)) :
  tj P r c D hs ops Q nl (m+1) (⟨some d,op,ty,pos,af,none⟩::rest) sl rl:=by
 obtain ⟨S,jX,lA,hp,ht⟩:=k;refine ⟨_,_,_,.new I (by simpa [Zac] using hd) hn I hr hp,fun bs β i0 h1 h2 h3=>?_⟩;have hb0:=h3 0 V ob I;rw [Zaw] at hb0;have:=ht (bs++[β i0]) β (i0+1) (by simp [h1]) (fun b hb=>by
  rcases Zz.1 hb with h | h
  ·exact h2 b h
  ·rw [ZL.1 h];exact hb0) fun i V ob hi=>by have:=h3 (i+1) V ob (by simpa using hi);rwa [show i0+(i+1)=i0+1+i from by omega] at this
 simpa [N0,rP,zs,zb,List.zip_append h1.symm,Zh] using this
theorem ar (hr:di P c sl hs ⟨some d,op,ty,pos,af,none⟩ V) (hd:Nat.blt d c.nt=true) (k:tj P r c D hs ops Q nl m rest ((d,V)::sl) rl) :
  tj P r c D hs ops Q nl (m+1) (⟨some d,op,ty,pos,af,none⟩::rest) sl rl:=
 xM I hd (oW I fun _ _ h1 _ h3=>r8 hr h1 h3) k
theorem aX {f:FuncId} {args:List Value} (hr:mA P sl ⟨some d,op,ty,pos,af,none⟩ f args) (hd:Nat.blt d c.nt=true) (hc:∀ w,Mem c hs w->aj P f args w V) (k:tj P r c D hs ops Q nl m rest ((d,V)::sl) rl) :
  tj P r c D hs ops Q nl (m+1) (⟨some d,op,ty,pos,af,none⟩::rest) sl rl:=
 xM I hd (oW I fun _ w h1 _ h3=>tF hr h1 (hc w h3)) k
theorem Y5 {p p':Prop} {j gs:Nat} {want c0 q:Bool} (hj:((ops[j]?).bind (·.dst))=some gs) (hq:db sl gs=some (gv c0 (.bool q))) (hb:BP (c0&&(q==want)) p p')
  (hr:(c0&&(q==want))=true->p->di P c sl hs ⟨some d,op,ty,pos,af,some (j,want)⟩ V) (hd:Nat.blt d c.nt=true) (k:tj P r c D hs ops Q nl m rest ((d,gv (c0&&(q==want)) V)::sl) rl) :
  tj P r c D hs ops Q nl (m+1) (⟨some d,op,ty,pos,af,some (j,want)⟩::rest) sl rl:=
 xM I hd (oX I hj hq fun hc _ _ h1 h3=>r8 (hr hc (hb.t hc)) h1 h3) k
theorem ir {p p':Prop} {j gs:Nat} {want q:Bool} (hj:((ops[j]?).bind (·.dst))=some gs) (hq:db sl gs=some (.bool q)) (hb:BP (q==want) p p')
  (hr:(q==want)=true->p->di P c sl hs ⟨some d,op,ty,pos,af,some (j,want)⟩ V) (hd:Nat.blt d c.nt=true) (k:tj P r c D hs ops Q nl m rest ((d,gv (q==want) V)::sl) rl) :
  tj P r c D hs ops Q nl (m+1) (⟨some d,op,ty,pos,af,some (j,want)⟩::rest) sl rl:=
 Y5 (c0:=true) (p:=p) (p':=p') hj (by rw [hq];rfl) (by simpa using hb) (by simpa using hr) hd (by simpa using k)
end
end
end Go.SL
namespace Go.SL
open Go
theorem l5 {w:World} {b sz:Nat}:∀ {xs:List (List Value)} {o:Nat},(∀ i r,xs[i]? = some r->r.length=sz/\∀ j u,r[j]? = some u->w.cell? ⟨b,o+i*sz+j,none⟩=some u)->∀ (k:Nat) u,xs.flatten[k]? = some u->w.cell? ⟨b,o+k,none⟩=some u
 | [],o,_,k,u,hu=>by simp at hu
 | x :: xs, o, h, k, u, hu => by
  obtain ⟨hl,h0⟩:=h 0 x rfl;rw [ZaB,List.getElem?_append] at hu;split at hu
  ·have:=h0 k u hu;rwa [Zbo,Zaw] at this
  ·rename_i hk;have ih:=l5 (xs:=xs) (o:=o+sz) (fun i r hr=>⟨(h (i+1) r (by simpa using hr)).1,fun j v hv=>by
    have:=(h (i+1) r (by simpa using hr)).2 j v hv;rwa [Zai,show o+(i*sz+sz)+j=o+sz+i*sz+j by omega] at this⟩) (k-x.length) u hu
   rwa [hl,show o+sz+(k-sz)=o+k by omega] at ih
theorem fv {sz:Nat}:∀ {xs:List (List Value)},(∀ r∈xs,r.length=sz)->xs.flatten.length=xs.length*sz
 | [],_=>by simp
 | x :: xs, h => by
  rw [ZaB,Zg,fv (fun r hr=>h r (by simp [hr])),h x (by simp),ZA,Zai,Nat.add_comm]
theorem Rd.sz {w:World} {v:Value} {sz:Nat} {xs:List (List Value)} (h:Rd w v sz xs):∀ r∈xs,r.length=sz:=by
 obtain ⟨a,cap,b,o,rfl,h1,h2,h3,h4⟩:=h;intro r hr;obtain ⟨i,hi,rfl⟩:=Zw hr;exact (h4 i _ (Zc hi)).1
section
variable {P:Program} {r:Option Nat} {c:Cx} {D:List Nat} {sl:aL} {hs hs':List bd} {ops:Array Oper} {Q:Exit->Act->World->Prop} {d:Nat} {ty:TypeId} {pos:String} {af:Array Edge} {rest:List Oper}
variable {V:Value} {agg:Bool} {news:List (List Value)} {size:Nat} {v:Value} {x y:Operand} {z:Value}
theorem O1 {sz:Nat} {xs:List (List Value)} {b o cap:Nat} (hsrc:∀ w,Mem c hs w->Rd w V sz xs) (hne:xs≠[]) (hV:V=.slice (some ⟨b,o,none⟩) xs.length cap):eZ c hs b o xs.flatten:=by
 refine eZ.wG fun j u hu w hm=>?_;obtain ⟨a',iz,b',o',e',_,_,cq,hc'⟩:=hsrc w hm;rw [hV] at e';simp only [Value.slice.injEq] at e';obtain ⟨e1,_,_⟩:=e';have:=cq hne;rw [<- e1] at this;simp only [Option.some.injEq,Addr.mk.injEq,and_true] at this;obtain ⟨rfl,rfl⟩:=this;exact l5 hc' j u hu
theorem uj {t e:TypeId} {w:World} [hu:ja P t (.slice e)] [hT:Ty P e agg size] {a:Option Addr} {cp n:Nat} (hv:(v=.z/\n=0)\/∃ g cap,v=.w g n cap/\n<=cap) :
  (Builtin.append_ #[t,t] ty #[v,.slice a 0 cp]).run P w=.ok v w:=by
 obtain ⟨de,i,mZ,hi,_,gY⟩:=Ty.parts (P:=P) (t:=e) (agg:=agg) (n:=size);rcases hv with ⟨rfl,rfl⟩ | ⟨g,cap,rfl,hc⟩
 ·cases a <;> simp [Builtin.append_,aY hu.eq,sizeOf,typeInfo,hi,Builtin.lenOf,Builtin.firstCells,loadCells,loadCellsFrom]
 ·cases a <;> simp [Builtin.append_,aY hu.eq,sizeOf,typeInfo,hi,Builtin.lenOf,Builtin.firstCells,loadCells,loadCellsFrom,hc,storeCells]
theorem eX {t e:TypeId} {size bytes:Nat} {n:Nat} {xs:List Value} [hu:ja P t (.slice e)] [hT:Ty P e agg size] [hZ:mn P e z] [hB:u6 P e bytes]
  (hx:Is sl x v) (hy:Is sl y V) (ht:Take hs (row e size v n xs) hs') (hsrc:∀ w,Mem c hs w->Rd w V size news) (h1:∀ r∈news,∀ u∈r,u.oneCell'=true) (hz:z.cells.size=size) (hsz:Nat.blt 0 size=true) (hb0:Nat.blt 0 bytes=true)
  (hb:(n+news.length)*bytes<=140737488355328) (hd:Nat.blt d c.nt=true)
  (k:∀ v',Tr c D ((d,v')::sl) (row e size v' (n+news.length) (xs++news.flatten)::hs') (WL P r ops Q rest)) :
  Tr c D sl hs (WL P r ops Q (⟨some d,.call ⟨.builtin .append,#[x,y],#[t,t]⟩,ty,pos,af,none⟩::rest)):=fun a w ba=>by
 have hR:=hsrc w ba.pq;have hlen:=fv hR.sz;by_cases hne:news=[]
 ·subst hne;obtain ⟨aa,cap,b,o,rfl,_⟩:=hR;have hm:=ba.mem.take (ht.append _);have hrow:(v=.slice none 0 0/\n=0)\/∃ g cap,v=.slice (some ⟨g,0,none⟩) n cap/\n<=cap:=by
   obtain ⟨_,fp,_,⟨f1,f2,_,⟨_,_,h1⟩,_⟩,_⟩:=hm;exact h1.imp id fun ⟨g,cap,cur,e,_,hc,_⟩=>⟨g,cap,e,hc⟩
  refine nn I ⟨eA _ _ _ _ _,?_⟩;rw [Oper.semAt_eq _ _ _ (by simp)];have:(execOp a.eval ⟨some d,.call ⟨.builtin .append,#[x,y],#[t,t]⟩,ty,pos,af,none⟩).run P w=.ok (.value v) w:=by
   have:=uj (P:=P) (t:=t) (e:=e) (ty:=ty) (w:=w) (agg:=agg) (size:=size) (a:=aa) (cp:=cap) hrow;simp only [Zaa] at hy;simp [execOp,resolve,invoke,builtin,hx a ba.du,hy a ba.du,this]
  rw [this];have k2:=k v;simp only [Zaa,Zaw,List.flatten_nil,ZJ] at k2;exact k2 _ _ ((ba.put (by simpa [Zac] using hd) v).heap hm)
 ·obtain ⟨aa,cap,b,o,hV,dd,bO,ha,hc⟩:=hR;have:=ha hne;subst this;rw [hV] at hy;exact y8 hx hy ht (O1 hsrc hne hV) hlen (fun u hu=>by obtain ⟨r,hr,Ul⟩:=Zby.1 hu;exact h1 r hr u Ul) hz hsz hb0 hb hd k a w ba
theorem Kv {t t2 e:TypeId} {g n cap:Nat} {E:TypeId} {cs:List Value} [hu:ja P t (.slice e)] [hT:Ty P e agg size]
  (hx:Is sl x (.w g n cap)) (hy:Is sl y V) (ht:Take hs (bE g (.cells cs.toArray E (0,0))) hs') (hsrc:∀ w,Mem c hs w->Rd w V size news) (h1:∀ r∈news,∀ u∈r,u.oneCell'=true) (hfit:n*size<=cs.length) (hd:Nat.blt d c.nt=true)
  (k:Tr c D ((d,.q (Nat.min news.length n:Nat))::sl) (bE g (.cells (setCells cs 0 (news.take n).flatten).toArray E (0,0))::hs') (WL P r ops Q rest)) :
  Tr c D sl hs (WL P r ops Q (⟨some d,.call ⟨.builtin .copy,#[x,y],#[t,t2]⟩,ty,pos,af,none⟩::rest)):=fun a w ba=>by
 have hR:=hsrc w ba.pq;obtain ⟨de,i,mZ,hi,_,gY⟩:=Ty.parts (P:=P) (t:=e) (agg:=agg) (n:=size);have hlen:(news.take n).flatten.length=Nat.min news.length n*size:=by
  rw [fv (fun r hr=>hR.sz r (ZaM hr)),Zs]
  show min n news.length*size=min news.length n*size;rw [Nat.min_comm]
 have hle:Nat.min news.length n<=n:=Nat.min_le_right _ _;have hm:=ba.mem.take (ht.append _);have hg:w.heap[g]? = some (.cells cs.toArray E (0,0)):=hm.bE .here;obtain ⟨w',h3,h4,h5⟩:=jz (P:=P) (o:=0) (news.take n).flatten 0 cs w hg (fun u hu=>by
  obtain ⟨r,hr,Ul⟩:=Zby.1 hu;exact h1 r (ZaM hr) u Ul) (by
  rw [hlen];have:Nat.min news.length n*size<=n*size:=Z7 _ hle;omega)
 have XO:(Builtin.firstCells size (Nat.min news.length n) V).run P w=.ok (news.take n).flatten.toArray w:=by
  obtain ⟨aa,c6,b,o,hV,kd,bO,ha,hc⟩:=hR;subst hV;by_cases hne:news=[]
  ·subst hne;cases aa <;> simp [Builtin.firstCells,loadCells,loadCellsFrom]
  ·have:=ha hne;subst this;simp only [Builtin.firstCells];refine rY hlen fun j u hu=>?_;refine l5 (sz:=size) (xs:=news.take n) (fun i r hr=>?_) j u hu;rw [ZP] at hr;split at hr
   ·exact hc i r hr
   ·cases hr
 have XR:(Builtin.lenOf V).run P w=.ok news.length w:=by
  obtain ⟨aa,c6,b,o,hV,_⟩:=hR;subst hV
  rfl
 refine nn I ⟨eA _ _ _ _ _,?_⟩;rw [Oper.semAt_eq _ _ _ (by simp)];have:(execOp a.eval ⟨some d,.call ⟨.builtin .copy,#[x,y],#[t,t2]⟩,ty,pos,af,none⟩).run P w=.ok (.value (.q (Nat.min news.length n:Nat))) w':=by
  simp [execOp,resolve,invoke,builtin,hx a ba.du,hy a ba.du,Builtin.copy_,aY hu.eq,XR,sizeOf,typeInfo,hi,gY,XO,h3,goInt]
 rw [this];have ni:=Mem.store hm h4 h5;rw [show (0+0:Nat)=0 from I] at ni;exact k _ _ ((ba.put (by simpa [Zac] using hd) _).heap ni)
theorem Ek {t tn e:TypeId} {kn:IntKind} {size bytes m:Nat} [hu:ja P t (.slice e)] [Un:ja P tn (.int kn)] [hT:Ty P e agg size] [hZ:mn P e z] [hB:u6 P e bytes]
  (hx:Is sl x (.z)) (hy:Is sl y (.q m)) (h0:0<m) (hz:z.cells.size=size) (hsz:Nat.blt 0 size=true) (hb0:Nat.blt 0 bytes=true) (hb:m*bytes<=140737488355328) (hd:Nat.blt d c.nt=true)
  (k:∀ v',Tr c D ((d,v')::sl) (row e size v' m (Builtin.zeroCells z.cells m).toList::hs) (WL P r ops Q rest)) :
  Tr c D sl hs (WL P r ops Q (⟨some d,.call ⟨.builtin .append,#[x,y],#[t,tn]⟩,ty,pos,af,none⟩::rest)):=fun a w ba=>by
 obtain ⟨de,i,mZ,hi,_,gY⟩:=Ty.parts (P:=P) (t:=e) (agg:=agg) (n:=size);have hzero:i.zero=some z:=by have:=hZ.eq;rw [hi] at this;simpa using this
 have gJ:i.bytes=bytes:=by have:=hB.eq;rw [hi] at this;simpa using this
 have hs0:0<size:=by simpa [Zac] using hsz
 have ac7:0<bytes:=by simpa [Zac] using hb0
 have aT:m*1<=m*bytes:=Zbd _ ac7;have iH:=Lib.run_append_grow_zeros (P:=P) w t tn ty e i z .i64 kn hu.eq Un.eq hi hzero none 0 0 [] (by simp [Builtin.firstCells]) m h0 (by omega) (by omega) (by omega) (by rw [gJ];omega) (growslice_fits (by omega) (by rw [gJ];simpa using hb));simp only [ZD] at iH;have Mt:=grownCap_ge w m 0 e;have hle:=grownCap_le_maxLen w m 0 e (by unfold maxLen;omega);refine nn I ⟨eA _ _ _ _ _,?_⟩;rw [Oper.semAt_eq _ _ _ (by simp)];generalize grownCap w m 0 e=G at iH Mt hle;have:(execOp a.eval ⟨some d,.call ⟨.builtin .append,#[x,y],#[t,tn]⟩,ty,pos,af,none⟩).run P w=.ok (.value (.slice (some ⟨w.heap.size,0,none⟩) m G)) (w.drew.alloc (.cells (#[]++Builtin.zeroCells z.cells m++Builtin.zeroCells z.cells (G-m)) e)):=by
  simp [execOp,resolve,invoke,builtin,hx a ba.du,hy a ba.du,iH]
 rw [this];have E6:∀ q,(Builtin.zeroCells z.cells q).size=q*size:=fun q=>by rw [size_zeroCells,hz]
 have ni:=(ba.mem.drew.alloc (.cells (#[]++Builtin.zeroCells z.cells m++Builtin.zeroCells z.cells (G-m)) e (0,0)));refine k _ _ _ ((ba.put (by simpa [Zac] using hd) _).heap ?_);obtain ⟨kk,fp,hn,⟨f1,f2,rfl,⟨e1,h1⟩,h2⟩,Bm⟩:=ni;refine ⟨kk,f1++f2,hn,⟨f1,f2,I,⟨by rw [e1];rfl,by simp [E6],.inr ⟨w.heap.size,G,_,I,h1,Mt,hle,?_,?_⟩⟩,h2⟩,Bm⟩
 ·simp only [Array.size_append,E6];simp only [Array.size_empty,ZD,<- Nat.add_mul];congr 1;omega
 ·simp only [Array.toList_append,Array.toList_empty,Za];rw [List.take_left' (by rw [ZaP,E6])]
theorem lB {dst:Option Tmp} {g:Option (Nat×Bool)} {t e:TypeId} [hu:ja P t (.slice e)] [hT:Ty P e agg size] :
  qL P c sl hs ⟨dst,.buildSlice t 0 #[],ty,pos,af,g⟩ (fun b=>.w b 0 0) (.cells #[] e):=
 kH (ps:=#[]) (fun a _=>by simp) fun w=>by
  unfold Instr.buildSlice;simp only [Sem.run_bind,aY hu.eq,Result.andThen_ok,gp (t:=e) (agg:=agg) (n:=size),Zbo];simp [Instr.fill,newRow,show Array.range 0=#[] from I]
theorem r5 {dst:Option Tmp} {g:Option (Nat×Bool)} {t e:TypeId} {a:Option Addr} {n cp:Nat} [hu:ja P t (.slice e)] (hx:Is sl x (.slice a n cp)) :
  di P c sl hs ⟨dst,.call ⟨.builtin .cap,#[x],#[t]⟩,ty,pos,af,g⟩ (.q cp):=
 ⟨by simp,fun ac w ha _=>by simp [execOp,hx ac ha,resolve,invoke,builtin,Builtin.cap_,aY hu.eq,goInt]⟩
theorem Cs (g cap sz:Nat):Go.sliced (some ⟨g,0,none⟩) 0 0 cap sz=.w g 0 cap:=by
 unfold Go.sliced;by_cases h:cap=0
 ·rw [if_pos h];simp
 ·rw [if_neg h];simp [eM]
theorem AG:∀ (vs cs:List Value),vs.length<=cs.length->setCells cs 0 vs=vs++cs.drop vs.length:=by
 intro vs cs h;apply Zat;intro k;rw [jb _ _ _ _ (by omega),List.getElem?_append];by_cases hk:k<vs.length
 ·rw [if_pos (by omega),if_pos hk,Nat.sub_zero]
 ·rw [if_neg (by omega),if_neg hk,Zbi];congr 1;omega
end
end Go.SL
namespace Go.SL
open Go
theorem bc {α:Type} {b:Bool} {o:Option α} {v:α} (h:(bif b then o else none)=some v):b=true/\o=some v:=by cases b <;> simp_all
theorem bp {α β:Type} {o:Option α} {q:Option β} {v:α} {u:β} (h:(o.bind fun a=>q.map fun b=>(a,b))=some (v,u)):o=some v/\q=some u:=by
 cases o <;> cases q <;> simp_all
section
variable {P:Program} {r:Option Nat} {c:Cx} {D:List Nat} {sl:aL} {rl:fw} {hs hs':List bd} {Q:Exit->Act->World->Prop} {ops:Array Oper} {m d:Nat} {op:Op} {ty:TypeId} {pos:String} {af:Array Edge} {rest:List Oper} {dst:Option Tmp} {g:Option (Nat×Bool)}
theorem Jq {P:Program} {r:Option Nat} {c:Cx} {D:List Nat} {sl:aL} {hs:List bd} {x y:Code} {Q:Exit->Act->World->Prop}
  (h:Tr c D sl hs (WP P r x (Exit.then (WP P r y Q) Q))):Tr c D sl hs (WP P r (.seq x y) Q):=qZ h
variable {N:Act->World->Prop} {a b:Int} {cs:List Value} {id:Nat} {k:IntKind} {p:Prop} {v:Value} {x y:Operand}
theorem Jt {c:Cx} {D:List Nat} {sl:aL} {hs:List bd} {Q:Exit->Act->World->Prop}
  (h:Tr c D sl hs N):Tr c D sl hs (Exit.then N Q .normal):=vb h
theorem J0 {P:Program} {r:Option Nat} {c:Cx} {D:List Nat} {sl:aL} {hs:List bd} {x:Code} {Q:Exit->Act->World->Prop}
  (h:Tr c D sl hs (WP P r x (Exit.inBlock id Q))):Tr c D sl hs (WP P r (.block id x) Q):=Kx h
theorem Je {P:Program} {r:Option Nat} {c:Cx} {D:List Nat} {sl:aL} {hs:List bd} {Q:Exit->Act->World->Prop}
  (h:Tr c D sl hs (Q .ret)):Tr c D sl hs (WP P r .ret Q):=Kp h
theorem Jg {P:Program} {r:Option Nat} {c:Cx} {D:List Nat} {sl:aL} {hs:List bd} {l:List Oper} {Q:Exit->Act->World->Prop}
  (h:Tr c D sl hs (WL P r l.toArray Q l)):Tr c D sl hs (WP P r (.region id l.toArray false) Q):=nq h
theorem Jh {c:Cx} {D:List Nat} {sl:aL} {hs:List bd} {Q:Exit->Act->World->Prop}
  (h:Tr c D sl hs (Q .ret)):Tr c D sl hs (Exit.then N Q .ret):=Cb h
theorem Ji {l:List Oper} {y:Code} {Q':Exit->Act->World->Prop} (h:Tr c D sl hs (WL P r l.toArray (Exit.then (WP P r y Q) Q) l)):Tr c D sl hs (WL P r ops (Exit.then (WP P r (.seq (.region id l.toArray false) y) Q) Q') []):=n_r h
theorem Jj {c:Cx} {D:List Nat} {sl:aL} {hs:List bd} {Q:Exit->Act->World->Prop}
  (h:Tr c D sl hs (Q .normal)):Tr c D sl hs (Exit.inBlock id Q .normal):=qP h
theorem Jk (h:Tr c D sl hs N):Tr c D sl hs (WP P r .skip (Exit.then N Q)):=s_t h
theorem Jl {c:Cx} {D:List Nat} {sl:aL} {hs:List bd} {Q:Exit->Act->World->Prop}
  (h:Tr c D sl hs (Q (.exit id))):Tr c D sl hs (Exit.then N Q (.exit id)):=Aq h
theorem Jm {c:Cx} {D:List Nat} {sl:aL} {hs:List bd} {Q:Exit->Act->World->Prop}
  (h:Tr c D sl hs (Q .ret)):Tr c D sl hs (Exit.inBlock id Q .ret):=Ej h
theorem Jo {c:Cx} {D:List Nat} {sl:aL} {hs:List bd} {Q:Exit->Act->World->Prop}
  (h:Tr c D sl hs (Q .normal)):Tr c D sl hs (Exit.inBlock id Q (.exit id)):=Ck h
theorem Jp (h:Tr c D sl hs (Q (.exit id))):Tr c D sl hs (WP P r (.exit id) (Exit.then N Q)):=x_t h
theorem Jn (h:Tr c D sl hs N):Tr c D sl hs (WL P r ops (Exit.then N Q) []):=n_t h
theorem Jr {l:List Oper} {y:Code} (h:Tr c D sl hs (WL P r l.toArray (Exit.then (WP P r y Q) Q) l)):Tr c D sl hs (WP P r (.seq (.region id l.toArray false) y) Q):=s_r h
theorem Ju (h:Tr c D sl hs (Q .ret)):Tr c D sl hs (WP P r .ret (Exit.then N Q)):=r_t h
theorem Jw {P:Program} {r:Option Nat} {c:Cx} {D:List Nat} {sl:aL} {hs:List bd} {Q:Exit->Act->World->Prop}
  (h:Tr c D sl hs (Q .normal)):Tr c D sl hs (WP P r .skip Q):=F0 h
theorem Jx {P:Program} {r:Option Nat} {c:Cx} {D:List Nat} {sl:aL} {hs:List bd} {ops:Array Oper} {Q:Exit->Act->World->Prop}
  (h:Tr c D sl hs (Q .normal)):Tr c D sl hs (WL P r ops Q []):=vO h
theorem Jv (h:(bif Nat.blt d c.nt then ev sl x else none)=some v) (k:Tr c D ((d,v)::sl) hs (WL P r ops Q rest)):Tr c D sl hs (WL P r ops Q (⟨some d,.move x,ty,pos,af,none⟩::rest)):=PU (bc h).2 (bc h).1 k
theorem Ja (h:(bif Nat.blt d c.nt then ev sl x else none)=some v) (k:Tr c D ((d,v)::sl) hs (WL P r ops Q rest)):Tr c D sl hs (WL P r ops Q (⟨some d,.assign x,ty,pos,af,none⟩::rest)):=a_s (bc h).2 (bc h).1 k
theorem JA {t u:TypeId} (h:(bif Nat.blt d c.nt then ((ev sl x).bind fun a=>(ev sl y).map fun b=>(a,b)) else none)=some (.int k a,.int k b)) (k:Tr c D ((d,.bool (decide (a<b)))::sl) hs (WL P r ops Q rest)):Tr c D sl hs (WL P r ops Q (⟨some d,.binOp .lss t x y u,ty,pos,af,none⟩::rest)):=ab (lh (.of (bp (bc h).2).1) (.of (bp (bc h).2).2)) (bc h).1 k
theorem JC {t u:TypeId} (h:(bif Nat.blt d c.nt then ((ev sl x).bind fun a=>(ev sl y).map fun b=>(a,b)) else none)=some (.int k a,.int k b)) (k:Tr c D ((d,.bool (decide (a=b)))::sl) hs (WL P r ops Q rest)):Tr c D sl hs (WL P r ops Q (⟨some d,.binOp .eql t x y u,ty,pos,af,none⟩::rest)):=ab (lk (.of (bp (bc h).2).1) (.of (bp (bc h).2).2)) (bc h).1 k
theorem JD {t u:TypeId} (h:(bif Nat.blt d c.nt then ((ev sl x).bind fun a=>(ev sl y).map fun b=>(a,b)) else none)=some (.int k a,.int k b)) (k:Tr c D ((d,.bool (decide (a≠b)))::sl) hs (WL P r ops Q rest)):Tr c D sl hs (WL P r ops Q (⟨some d,.binOp .neq t x y u,ty,pos,af,none⟩::rest)):=ab (jl (.of (bp (bc h).2).1) (.of (bp (bc h).2).2)) (bc h).1 k
theorem JE {t u:TypeId} (h:(bif Nat.blt d c.nt then ((ev sl x).bind fun a=>(ev sl y).map fun b=>(a,b)) else none)=some (.int k a,.int k b)) (k:Tr c D ((d,.bool (decide (b<a)))::sl) hs (WL P r ops Q rest)):Tr c D sl hs (WL P r ops Q (⟨some d,.binOp .gtr t x y u,ty,pos,af,none⟩::rest)):=ab (lV (.of (bp (bc h).2).1) (.of (bp (bc h).2).2)) (bc h).1 k
theorem JF {t u:TypeId} (h:(bif Nat.blt d c.nt then ((ev sl x).bind fun a=>(ev sl y).map fun b=>(a,b)) else none)=some (.int k a,.int k b)) (k:Tr c D ((d,.bool (decide (a<=b)))::sl) hs (WL P r ops Q rest)):Tr c D sl hs (WL P r ops Q (⟨some d,.binOp .leq t x y u,ty,pos,af,none⟩::rest)):=ab (lj (.of (bp (bc h).2).1) (.of (bp (bc h).2).2)) (bc h).1 k
theorem JG {t u:TypeId} (h:(bif Nat.blt d c.nt then ((ev sl x).bind fun a=>(ev sl y).map fun b=>(a,b)) else none)=some (.int k a,.int k b)) (k:Tr c D ((d,.bool (decide (b<=a)))::sl) hs (WL P r ops Q rest)):Tr c D sl hs (WL P r ops Q (⟨some d,.binOp .geq t x y u,ty,pos,af,none⟩::rest)):=ab (AO (.of (bp (bc h).2).1) (.of (bp (bc h).2).2)) (bc h).1 k
theorem JB {t u:TypeId} (h:(bif Nat.blt d c.nt then ((ev sl x).bind fun a=>(ev sl y).map fun b=>(a,b)) else none)=some (.q a,.q b)) (hb:-9223372036854775808<=a+b/\a+b<=9223372036854775807) (k:Tr c D ((d,.q (a+b))::sl) hs (WL P r ops Q rest)):Tr c D sl hs (WL P r ops Q (⟨some d,.binOp .add t x y u,ty,pos,af,none⟩::rest)):=ab (K6 (.of (bp (bc h).2).1) (.of (bp (bc h).2).2) (R3 hb)) (bc h).1 k
theorem JS {t u:TypeId} (h:(bif Nat.blt d c.nt then ((ev sl x).bind fun a=>(ev sl y).map fun b=>(a,b)) else none)=some (.q a,.q b)) (hb:-9223372036854775808<=a-b/\a-b<=9223372036854775807) (k:Tr c D ((d,.q (a-b))::sl) hs (WL P r ops Q rest)):Tr c D sl hs (WL P r ops Q (⟨some d,.binOp .sub t x y u,ty,pos,af,none⟩::rest)):=ab (q8 (.of (bp (bc h).2).1) (.of (bp (bc h).2).2) (R3 hb)) (bc h).1 k
theorem JH {t:TypeId} {b:Bool} (h:(bif Nat.blt d c.nt then ev sl x else none)=some (.bool b)) (k:Tr c D ((d,.bool (!b))::sl) hs (WL P r ops Q rest)):Tr c D sl hs (WL P r ops Q (⟨some d,.unOp .not t x,ty,pos,af,none⟩::rest)):=ab (dN (.of (bc h).2)) (bc h).1 k
theorem JI {t e:TypeId} {b:Option Addr} {n cap:Nat} [ja P t (.slice e)] (h:(bif Nat.blt d c.nt then ev sl x else none)=some (.slice b n cap)) (k:Tr c D ((d,.q n)::sl) hs (WL P r ops Q rest)):Tr c D sl hs (WL P r ops Q (⟨some d,.call ⟨.builtin .len,#[x],#[t]⟩,ty,pos,af,none⟩::rest)):=ab (bZ (e:=e) (.of (bc h).2)) (bc h).1 k
theorem JJ {i:Nat} {vs:List Value} (h:(bif Nat.blt d c.nt then ev sl x else none)=some (.tuple vs.toArray)) (hv:uU vs i=some v) (k:Tr c D ((d,v)::sl) hs (WL P r ops Q rest)):Tr c D sl hs (WL P r ops Q (⟨some d,.extract x i,ty,pos,af,none⟩::rest)):=ab (dJ (.of (bc h).2) hv) (bc h).1 k
theorem JK {r:Option Nat} {D:List Nat} {ops:Array Oper} {Q:Exit->Act->World->Prop} {d:Option Tmp} {op:Op} {rest:List Oper} {j gs:Nat} {want:Bool} (hj:((ops[j]?).bind (·.dst))=some gs) (hq:db sl gs=some (.bool want))
  (k:Tr c D sl hs (WL P r ops Q (⟨d,op,ty,pos,af,none⟩::rest))):Tr c D sl hs (WL P r ops Q (⟨d,op,ty,pos,af,some (j,want)⟩::rest)):=Tl hj hq k
theorem JL {t:TypeId} {n:Nat} {b o:Nat} {E:TypeId} {fz:Nat×Nat} [Ty P t false n] (h:(bif Nat.blt d c.nt then ev sl x else none)=some (.pointer (some ⟨b,o,none⟩))) (ht:Take hs (SL.bE b (.cells cs.toArray E fz)) hs') (hv:uU cs o=some v) (k:Tr c D ((d,v)::sl) hs (WL P r ops Q rest)):Tr c D sl hs (WL P r ops Q (⟨some d,.load t x,ty,pos,af,none⟩::rest)):=ab (ag (.of (bc h).2) (At.lit ht hv)) (bc h).1 k
theorem Jc {inst:Decidable p} {u v:Code} (hx:ev sl x=some (.bool (decide p))) (hf:¬ p->Tr c D sl hs (WP P r v Q)) (ht:p->Tr c D sl hs (WP P r u Q):=by intro h;exfalso;omega):Tr c D sl hs (WP P r (.cond x u v) Q):=gm hx ht hf
theorem Jd {inst:Decidable p} {u v:Code} (hx:ev sl x=some (.bool (decide p))) (ht:p->Tr c D sl hs (WP P r u Q)) (hf:¬ p->Tr c D sl hs (WP P r v Q):=by intro h;exfalso;omega):Tr c D sl hs (WP P r (.cond x u v) Q):=gm hx ht hf
theorem Jy {t:TypeId} (h:(bif Nat.blt d c.nt then ev sl x else none)=some v) (hc:v.cells=cs.toArray) (k:∀ b,c.w0.heap.size<=b->Tr c D ((d,.p b)::sl) (bE b (.cells cs.toArray t)::hs) (WL P r ops Q rest)):Tr c D sl hs (WL P r ops Q (⟨some d,.box t x,ty,pos,af,none⟩::rest)):=bj (K5 (.of (bc h).2) hc) (bc h).1 k
theorem Jz {t:TypeId} {z:Value} [mn P t z] (hc:z.cells=cs.toArray) (hd:Nat.blt d c.nt=true) (k:∀ b,c.w0.heap.size<=b->Tr c D ((d,.p b)::sl) (bE b (.cells cs.toArray t)::hs) (WL P r ops Q rest)):Tr c D sl hs (WL P r ops Q (⟨some d,.alloc t,ty,pos,af,none⟩::rest)):=bj (o8 hc) hd k
end
theorem JN {P:Program} {r:Option Nat} {c:Cx} {D:List Nat} {sl:aL} {hs:List bd} {Q:Exit->Act->World->Prop} {ops:Array Oper} {d:Nat} {op:Op} {ty:TypeId} {pos:String} {af:Array Edge} {rest:List Oper} {f:FuncId} {args:List Value} {ι:Type} {Φ:ι->Prop} {val:ι->Value} {own:ι->List bd} (hr:mA P sl ⟨some d,op,ty,pos,af,none⟩ f args) (hd:Nat.blt d c.nt=true) (hc:∀ w,Mem c hs w->a8 P f args w [] Φ val own)
  (k:∀ x,Φ x->Tr c D ((d,val x)::sl) (own x++hs) (WL P r ops Q rest)):Tr c D sl hs (WL P r ops Q (⟨some d,op,ty,pos,af,none⟩::rest)):=jH hr hd bB.nil (fun w fp hm _ hs=>by obtain rfl:fp=[]:=hs;exact hc w hm) k
section
variable {P:Program} {r:Option Nat} {c:Cx} {sl:aL} {hs hs':List bd} {d:Nat} {dst:Option Tmp} {ty:TypeId} {pos:String} {af:Array Edge} {g:Option (Nat×Bool)}
variable {b:Nat} {cs:List Value} {fz:Nat×Nat} {n o:Nat} {v:Value} {vs:List Value} {x:Operand}
theorem gX {t:TypeId} {E:TypeId} [Ty P t false n] (ht:Take hs (SL.bE b (.cells cs.toArray E fz)) hs') (hx:Is sl x (.pointer (some ⟨b,o,none⟩)):=by exact Is.of I) (hv:uU cs o=some v:=by exact I):di P c sl hs ⟨dst,.load t x,ty,pos,af,g⟩ v:=ag hx (At.lit ht hv)
theorem cm {t:TypeId} {E:TypeId} [Ty P t true n] (ht:Take hs (SL.bE b (.cells cs.toArray E fz)) hs') (hx:Is sl x (.pointer (some ⟨b,o,none⟩)):=by exact Is.of I) (hv:eK cs o n=vs:=by exact ak) (hl:vs.length=n:=by rfl):di P c sl hs ⟨dst,.load t x,ty,pos,af,g⟩ (.agg vs.toArray):=bK hx ht hv hl
theorem k6 {t:TypeId} {i o:Nat} {b k q:Nat} [eQ P t i o] (hx:Is sl x (.pointer (some ⟨b,k,none⟩)):=by exact Is.of I) (he:k+o=q:=by exact ae):di P c sl hs ⟨dst,.fieldAddr t x i,ty,pos,af,g⟩ (.pointer (some ⟨b,q,none⟩)):=aq hx he
theorem k8 (hx:Is sl x v:=by exact Is.of I):di P c sl hs ⟨dst,.move x,ty,pos,af,g⟩ v:=aP hx
theorem iO {t:TypeId} [Ty P t true n] (hv:eZ c hs b o vs) (hx:Is sl x (.pointer (some ⟨b,o,none⟩)):=by exact Is.of I) (hl:vs.length=n:=by exact I):di P c sl hs ⟨dst,.load t x,ty,pos,af,g⟩ (.agg vs.toArray):=jA hx hv hl
theorem fT {t e:TypeId} {agg:Bool} {x y:Operand} {a0:Option Addr} {b o len cap q:Nat} {k:IntKind} {i:Int} [hu:ja P t (.slice e)] [Ty P e agg n] (ha:a0=some ⟨b,o,none⟩) (h1:i<len) (hx:Is sl x (.slice a0 len cap):=by exact Is.of I) (hy:Is sl y (.int k i):=by exact Is.of I) (h0:0<=i:=by omega) (he:o+i.toNat*n=q:=by exact aW):di P c sl hs ⟨dst,.indexAddr t x y,ty,pos,af,g⟩ (.pointer (some ⟨b,q,none⟩)):=an hx hy ha h0 h1 he
theorem JT {fn:Func} {v v':Value} {t:Tmp} (hv:v'=v) (H4:c.md=[]:=by exact I) (h1:fn.results=#[.tmp t]:=by exact I) (h2:db sl t=some v':=by exact I):Tr c [] sl hs (bodyPostM (FR r) 0 P fn (fun e w'=>e=.returned v/\aJ [] c.w0 w') .ret):=qe H4 (dB h1 h2) hv
end
variable {args cap:List Value} {f:FuncId} {first:List Value} {h:List bd} {ts:Array TypeId}
theorem bL {A x0 x1:bd}:Take (x0::x1::A::h) A (x0::x1::h):=.there (.there .here)
theorem cX {A x0 x1 x2:bd}:Take (x0::x1::x2::A::h) A (x0::x1::x2::h):=.there bL
theorem dD {A x0 x1 x2 x3:bd}:Take (x0::x1::x2::x3::A::h) A (x0::x1::x2::x3::h):=.there cX
theorem eu {A x0 x1 x2 x3 x4:bd}:Take (x0::x1::x2::x3::x4::A::h) A (x0::x1::x2::x3::x4::h):=.there dD
theorem kr {A x0 x1 x2 x3 x4 x5:bd}:Take (x0::x1::x2::x3::x4::x5::A::h) A (x0::x1::x2::x3::x4::x5::h):=.there eu
theorem tt {A x0 x1 x2 x3 x4 x5 x6:bd}:Take (x0::x1::x2::x3::x4::x5::x6::A::h) A (x0::x1::x2::x3::x4::x5::x6::h):=.there kr
theorem IF {A x0 x1 x2 x3 x4 x5 x6 x7:bd}:Take (x0::x1::x2::x3::x4::x5::x6::x7::A::h) A (x0::x1::x2::x3::x4::x5::x6::x7::h):=.there tt
theorem ju {A x0 x1 x2 x3 x4 x5 x6 x7 x8:bd}:Take (x0::x1::x2::x3::x4::x5::x6::x7::x8::A::h) A (x0::x1::x2::x3::x4::x5::x6::x7::x8::h):=.there IF
theorem lL {A x0 x1 x2 x3 x4 x5 x6 x7 x8 x9:bd}:Take (x0::x1::x2::x3::x4::x5::x6::x7::x8::x9::A::h) A (x0::x1::x2::x3::x4::x5::x6::x7::x8::x9::h):=.there ju
theorem u5 {A x0 x1 x2 x3 x4 x5 x6 x7 x8 x9 yO:bd}:Take (x0::x1::x2::x3::x4::x5::x6::x7::x8::x9::yO::A::h) A (x0::x1::x2::x3::x4::x5::x6::x7::x8::x9::yO::h):=.there lL
theorem kF {A x0 x1 x2 x3 x4 x5 x6 x7 x8 x9 yO FK:bd}:Take (x0::x1::x2::x3::x4::x5::x6::x7::x8::x9::yO::FK::A::h) A (x0::x1::x2::x3::x4::x5::x6::x7::x8::x9::yO::FK::h):=.there u5
theorem IG {A x0 x1 x2 x3 x4 x5 x6 x7 x8 x9 yO FK II:bd}:Take (x0::x1::x2::x3::x4::x5::x6::x7::x8::x9::yO::FK::II::A::h) A (x0::x1::x2::x3::x4::x5::x6::x7::x8::x9::yO::FK::II::h):=.there kF
theorem yN {A x0 x1 x2 x3 x4 x5 x6 x7 x8 x9 yO FK II Ry:bd}:Take (x0::x1::x2::x3::x4::x5::x6::x7::x8::x9::yO::FK::II::Ry::A::h) A (x0::x1::x2::x3::x4::x5::x6::x7::x8::x9::yO::FK::II::Ry::h):=.there IG
theorem ji {A x0 x1 x2 x3 x4 x5 x6 x7 x8 x9 yO FK II Ry S4:bd}:Take (x0::x1::x2::x3::x4::x5::x6::x7::x8::x9::yO::FK::II::Ry::S4::A::h) A (x0::x1::x2::x3::x4::x5::x6::x7::x8::x9::yO::FK::II::Ry::S4::h):=.there yN
theorem mB {A x0 x1 x2 x3 x4 x5 x6 x7 x8 x9 yO FK II Ry S4 x15:bd}:Take (x0::x1::x2::x3::x4::x5::x6::x7::x8::x9::yO::FK::II::Ry::S4::x15::A::h) A (x0::x1::x2::x3::x4::x5::x6::x7::x8::x9::yO::FK::II::Ry::S4::x15::h):=.there ji
theorem dR {v0:Value} (h0:v0.oneCell'=true):∀ u∈[v0],u.oneCell'=true:=bR h0 (ig)
theorem gO {v0 v1:Value} (h0:v0.oneCell'=true) (h1:v1.oneCell'=true):∀ u∈[v0,v1],u.oneCell'=true:=bR h0 (bR h1 (ig))
theorem fx {v0 v1 v2:Value} (h0:v0.oneCell'=true) (h1:v1.oneCell'=true) (h2:v2.oneCell'=true):∀ u∈[v0,v1,v2],u.oneCell'=true:=bR h0 (bR h1 (bR h2 (ig)))
theorem eF {v0 v1 v2 v3 v4 v5:Value} (h0:v0.oneCell'=true) (h1:v1.oneCell'=true) (h2:v2.oneCell'=true) (h3:v3.oneCell'=true) (h4:v4.oneCell'=true) (h5:v5.oneCell'=true):∀ u∈[v0,v1,v2,v3,v4,v5],u.oneCell'=true:=bR h0 (bR h1 (bR h2 (bR h3 (bR h4 (bR h5 (ig))))))
theorem aab {v0 v1 v2 v3 v4 v5 v6 v7:Value} (h0:v0.oneCell'=true) (h1:v1.oneCell'=true) (h2:v2.oneCell'=true) (h3:v3.oneCell'=true) (h4:v4.oneCell'=true) (h5:v5.oneCell'=true) (h6:v6.oneCell'=true) (h7:v7.oneCell'=true):∀ u∈[v0,v1,v2,v3,v4,v5,v6,v7],u.oneCell'=true:=bR h0 (bR h1 (bR h2 (bR h3 (bR h4 (bR h5 (bR h6 (bR h7 (ig))))))))
theorem bS {sl w:aL} (h:mh sl w:=by repeat' first | with_reducible exact mh.nil | ((with_reducible apply mh.cons);(case h=>exact I))):mh sl w:=h
theorem iP {hs w q:List bd} (h:bB hs w q:=by repeat' first | with_reducible exact bB.nil | with_reducible apply bB.cons | with_reducible exact Take.here | with_reducible apply Take.there):bB hs w q:=h
theorem mj {P:Program} {sl:aL} {dst:Option Tmp} {ty:TypeId} {pos:String} {af:Array Edge} {g:Option (Nat×Bool)} {x :Operand} (hx:Is sl x (.func (.func f) first.toArray cap.toArray):=by exact Is.of I)  (hb:bW P f:=by exact inferInstance) (he:first++[]++cap=args:=by exact dZ):mA P sl ⟨dst,.call ⟨.value x,#[],ts⟩,ty,pos,af,g⟩ f args:=a7 (xs:=[]) hx (.nil) hb he
theorem bM {P:Program} {sl:aL} {dst:Option Tmp} {ty:TypeId} {pos:String} {af:Array Edge} {g:Option (Nat×Bool)} {x y0:Operand} {w0:Value} (hx:Is sl x (.func (.func f) first.toArray cap.toArray):=by exact Is.of I) (h0:Is sl y0 w0:=by exact Is.of I) (hb:bW P f:=by exact inferInstance) (he:first++[w0]++cap=args:=by exact dZ):mA P sl ⟨dst,.call ⟨.value x,#[y0],ts⟩,ty,pos,af,g⟩ f args:=a7 (xs:=[y0]) hx (.cons h0 (.nil)) hb he
theorem bb {P:Program} {sl:aL} {dst:Option Tmp} {ty:TypeId} {pos:String} {af:Array Edge} {g:Option (Nat×Bool)} {x y0 y1:Operand} {w0 w1:Value} (hx:Is sl x (.func (.func f) first.toArray cap.toArray):=by exact Is.of I) (h0:Is sl y0 w0:=by exact Is.of I) (h1:Is sl y1 w1:=by exact Is.of I) (hb:bW P f:=by exact inferInstance) (he:first++[w0,w1]++cap=args:=by exact dZ):mA P sl ⟨dst,.call ⟨.value x,#[y0,y1],ts⟩,ty,pos,af,g⟩ f args:=a7 (xs:=[y0,y1]) hx (.cons h0 (.cons h1 (.nil))) hb he
theorem ef {P:Program} {sl:aL} {dst:Option Tmp} {ty:TypeId} {pos:String} {af:Array Edge} {g:Option (Nat×Bool)} {x y0 y1 y2:Operand} {w0 w1 w2:Value} (hx:Is sl x (.func (.func f) first.toArray cap.toArray):=by exact Is.of I) (h0:Is sl y0 w0:=by exact Is.of I) (h1:Is sl y1 w1:=by exact Is.of I) (h2:Is sl y2 w2:=by exact Is.of I) (hb:bW P f:=by exact inferInstance) (he:first++[w0,w1,w2]++cap=args:=by exact dZ):mA P sl ⟨dst,.call ⟨.value x,#[y0,y1,y2],ts⟩,ty,pos,af,g⟩ f args:=a7 (xs:=[y0,y1,y2]) hx (.cons h0 (.cons h1 (.cons h2 (.nil)))) hb he
theorem mi {P:Program} {sl:aL} {dst:Option Tmp} {ty:TypeId} {pos:String} {af:Array Edge} {g:Option (Nat×Bool)} {x y0 y1 y2 y3:Operand} {w0 w1 w2 w3:Value} (hx:Is sl x (.func (.func f) first.toArray cap.toArray):=by exact Is.of I) (h0:Is sl y0 w0:=by exact Is.of I) (h1:Is sl y1 w1:=by exact Is.of I) (h2:Is sl y2 w2:=by exact Is.of I) (h3:Is sl y3 w3:=by exact Is.of I) (hb:bW P f:=by exact inferInstance) (he:first++[w0,w1,w2,w3]++cap=args:=by exact dZ):mA P sl ⟨dst,.call ⟨.value x,#[y0,y1,y2,y3],ts⟩,ty,pos,af,g⟩ f args:=a7 (xs:=[y0,y1,y2,y3]) hx (.cons h0 (.cons h1 (.cons h2 (.cons h3 (.nil))))) hb he
theorem DW {P:Program} {sl:aL} {dst:Option Tmp} {ty:TypeId} {pos:String} {af:Array Edge} {g:Option (Nat×Bool)} {x y0 y1 y2 y3 y4:Operand} {w0 w1 w2 w3 w4:Value} (hx:Is sl x (.func (.func f) first.toArray cap.toArray):=by exact Is.of I) (h0:Is sl y0 w0:=by exact Is.of I) (h1:Is sl y1 w1:=by exact Is.of I) (h2:Is sl y2 w2:=by exact Is.of I) (h3:Is sl y3 w3:=by exact Is.of I) (h4:Is sl y4 w4:=by exact Is.of I) (hb:bW P f:=by exact inferInstance) (he:first++[w0,w1,w2,w3,w4]++cap=args:=by exact dZ):mA P sl ⟨dst,.call ⟨.value x,#[y0,y1,y2,y3,y4],ts⟩,ty,pos,af,g⟩ f args:=a7 (xs:=[y0,y1,y2,y3,y4]) hx (.cons h0 (.cons h1 (.cons h2 (.cons h3 (.cons h4 (.nil)))))) hb he
end Go.SL
namespace Go.Proofs.A1
open Go Go.SL
open Tryz
open Tryz renaming prog->T_
def ints (es:List Int):List (List Value):=es.map fun e=>[.q e]
theorem dw (es:List Int):(ints es).length=es.length:=by simp [ints]
variable {cs:List Value} {es:List Int} {k n p:Nat} {s:ByteArray} {v:Value} {w:World}
theorem iV (h:k<es.length):(ints es)[k]? = some [.q es[k]]:=by simp [ints,h]
theorem kb (h:k<es.length):ints es≠[]:=by intro e;have:=congrArg List.length e;rw [dw] at this;simp at this;subst this;simp at h
inductive bY:List Value->List Int->Prop
 | nil:bY [] []
 | cons {e:Int} {vs:List Value} {es:List Int} (h:bY vs es):bY (.int .i64 e::vs) (e::es)
theorem bY.eq {vs:List Value} (h:bY vs es):(vs.map fun v=>[v])=ints es:=by
 induction h with
 | nil=>rfl
 | cons h ih=>simp only [Z3,ints,ih]
theorem R2 (c:Int) (w:World):aj T_ 323 [.int .u8 c] w (.bool (HV c)):=by
 refine ah func323 I I ?_
 (refine Jr<|Ja I<|Ji<|Jv I<|JF I<|Jv I<|iQ I I I I<|aF I I inferInstance (fun hg br=>(lj (.bF hg I) (.of I))) I<|ab (bX (.of I) I) I<|Jv I<|iQ I I I I<|aF I I inferInstance (fun hg br=>(lj (.of I) (.bF hg I))) I<|aF I I inferInstance (fun hg br=>(aP (.bF hg I))) I<|fk I I inferInstance (fun hg br=>(aP (.of I))) I<|fk I I inferInstance (fun hg br=>(lj (.bF hg I) (.of I))) I<|aF I I inferInstance (fun hg br=>(gE hg (.bF hg I) I)) I<|ab (bA (.of I) I) I<|Ja I<|Jn<|Je<|JT ?_)
 rfl
theorem Xe (c:Int) (w:World):aj T_ 324 [.int .u8 c] w (.bool (Xf c)):=by
 refine ah func324 I I ?_
 (refine Jr<|Ja I<|Ji<|Jv I<|JF I<|Jv I<|iQ I I I I<|aF I I inferInstance (fun hg br=>(lj (.bF hg I) (.of I))) I<|ab (bX (.of I) I) I<|Ja I<|Jn<|Je<|JT ?_)
 rfl
theorem k9 (h:Bool) (e:Int) (w:World):aj T_ 129 [.bool h,.q e] w (.q (cn h e)):=by
 refine ah func129 I I ?_
 (refine Jr<|Ja I<|Jn<|Jq<|Jr<|Jv I<|Jn<|nj I (fun az=>?_) fun az=>?_;refine Jr<|Jv I<|Ja I<|Jn<|Ju<|JT ?_;rotate_left;refine Jk<|Jr<|Ja I<|Jn<|Je<|JT ?_;rotate_right)
 all_goals simp [cn, *]
theorem r7 (n l m:Int) (w:World):aj T_ 67 [.q n,.q l,.q m] w (.q (fK n l m)):=by
 refine ah func67 I I ?_
 (refine Jr<|Ja I<|Ji<|Jv I<|Jv I<|JA I<|Jv I<|iQ I I I I<|iQ I I I I<|aF I I inferInstance (fun hg br=>(lV (.bF hg I) (.bF hg I))) I<|ab (bA (.of I) I) I<|ai bb I (fun w' aB=>(k9 _ 3 w'))<|Ja I<|Jn<|Je<|JT ?_)
 rfl
theorem T4 (s:ByteArray) (w:World):aj T_ 270 [.string s] w (.bool (kR s)):=by
 refine ah func270 I I ?_
 (refine Jr<|Ja I<|Jn<|Jq<|Jr<|Jv I<|ab (fg (.of I)) I<|JC I<|Jv I<|iQ I I I I<|aF I I inferInstance (fun hg br=>(fg (.bF hg I))) I<|aF I I inferInstance (fun hg br=>(lV (.bF hg I) (.of I))) I<|ab (bA (.of I) I) I<|Jv I<|iQ I I I I<|aF I I inferInstance (fun hg br=>(qm (.bF hg I) (.of I) (by omega) (by omega))) I<|ep I I (fun hg=>(a7 (.of I) (.cons (.bF hg I) .nil) inferInstance dZ)) I (fun hg w' aB=>(R2 _ w'))<|aF I I inferInstance (fun hg br=>(dN (.bF hg I))) I<|ab (bA (.of I) I) I<|Jn<|nj I (fun az=>?_) fun az=>?_;refine Jr<|Ja I<|Jn<|Ju<|JT ?_;rotate_left;refine Jk<|Jq<|Jr<|Ja I<|Jn<|J0 ?_;rotate_right)
 ·congr 1;symm;change (_\/_)\/HV (bt s 0)=false at az;unfold kR;rcases az with (h | h) | h
  ·simp;omega
  ·simp;omega
  ·simp [h]
 change (_/\_)/\HV (bt s 0)=true at az;obtain ⟨⟨h0,h1⟩,h2⟩:=az;have hN:kR s=okF s 1:=by
  unfold kR;rw [h2,decide_eq_true (by omega),decide_eq_true (by omega)];rfl
 rw [hN];refine aV (fun k:Nat=>1<=k/\k<=s.size/\okF s 1=okF s k) (fun k=>[(3,.q k),(0,.string s)]) (fun _=>[]) (fun k=>s.size-k) ?_ ?_
 ·apply aI 1 ⟨by omega,by omega,I⟩
  case hs1=>exact bS
  case ht=>(try simp only [Ze,Zf,Za]);exact .nil
 intro k ⟨Qw,hk,hf⟩;rw [hf];by_cases aK:k<s.size
 ·rw [A3 aK]
  (refine Jq<|Jr<|Jv I<|Jv I<|ab (fg (.of I)) I<|JA I<|Jn<|Jd I fun az=>Jk<|Jq<|J0<|Jr<|Jv I<|Jv I<|ab (qm (.of I) (.of I) (by omega) az) I<|ai bM I (fun w' aB=>(R2 _ w'))<|JH I<|Jv I<|iQ I I I I<|iQ I I I I<|aF I I inferInstance (fun hg br=>(qm (.bF hg I) (.bF hg I) (by omega) az)) I<|ep I I (fun hg=>(a7 (.of I) (.cons (.bF hg I) .nil) inferInstance dZ)) I (fun hg w' aB=>(Xe _ w'))<|aF I I inferInstance (fun hg br=>(dN (.bF hg I))) I<|ab (bX (.of I) I) I<|Jv I<|iQ I I I I<|iQ I I I I<|aF I I inferInstance (fun hg br=>(qm (.bF hg I) (.bF hg I) (by omega) az)) I<|aF I I inferInstance (fun hg br=>(jl (.bF hg I) (.of I))) I<|ab (bX (.of I) I) I<|Jn<|nj I (fun az=>?_) fun az=>?_;refine Jr<|Ja I<|Jn<|Je<|Jm<|Jh<|Jh<|Jm<|Jh<|JT ?_;rotate_left;refine Jw<|Jj<|Jt<|Jg<|Jv I<|JB I (by omega)<|Ja I<|Jn ?_;rotate_right)
  ·congr 1;symm;change (HV (bt s k)=false/\Xf (bt s k)=false)/\bt s k≠95 at az;simp [okB,az]
  ·have ho:okB (bt s k)=true:=by
    change (HV (bt s k)=true\/Xf (bt s k)=true)\/¬ bt s k≠95 at az;rcases az with (h | h) | h
    ·simp [okB,h]
    ·simp [okB,h]
    ·simp [okB,Zp.1 h]
   rw [ho,Zao];rw [A3 aK,ho,Zao] at hf;rw [<- hf];apply aH (k+1) ⟨by omega,by omega,hf⟩ (by omega)
   case hs1=>exact bS
   case ht=>(try simp only [Ze,Zf,Za]);exact .nil
 ·(refine Jq<|Jr<|Jv I<|Jv I<|ab (fg (.of I)) I<|JA I<|Jn<|Jc I fun az=>Jp<|Jl<|Jo<|Jt<|Jr<|Ja I<|Jn<|Je<|JT ?_)
  rw [Gu (by omega)]
theorem abt (s:ByteArray) (w:World):aj T_ 189 [.string s] w (.q (nmF s)):=by
 refine ah func189 I I ?_
 (refine Jr<|Ja I<|Ji<|Jv I<|ai bM I (fun w' aB=>(T4 s w'))<|JH I<|ai bb I (fun w' aB=>(k9 _ 8 w'))<|Ja I<|Jn<|Je<|JT ?_)
 rfl
theorem QQ (v:Value) (es:List Int) (w:World) (h:Rd w v 1 (ints es)):aj T_ 28 [v] w (.q (aZ es)):=by
 obtain ⟨a,cap,b,o,rfl,dd,bO,ha,hc⟩:=h;rw [dw] at *;unfold maxLen at bO;refine ah func28 I I ?_;refine Jr<|Ja I<|Jn<|Jq<|Jr<|Ja I<|Jn<|J0 ?_;refine aV (fun k:Nat=>k<=es.length/\aZ es=aZ (es.drop k)) (fun k=>[(3,.int .i64 k),(0,.slice a es.length cap)]) (fun _=>[]) (fun k=>es.length-k) ?_ ?_
 ·apply aI 0 ⟨Zi _,I⟩
  case hs1=>exact bS
  case ht=>(try simp only [Ze,Zf,Za]);exact .nil
 intro k ⟨hk,hf⟩;by_cases aK:k<es.length
 ·have cq:=ha (kb aK);have aC:=rd1 hc (iV aK);have hs:=tX aK
  (refine Jq<|Jr<|Jv I<|Jv I<|JI I<|JA I<|Jn<|Jd I fun az=>Jk<|Jq<|J0<|Jr<|Jv I<|Jv I<|ab (fT cq az) I<|ab (ag (.of I) (At.base aC I)) I<|JD I<|Jn<|gm I (fun az=>?_) fun az=>?_;refine Jr<|Jv I<|Jv I<|ab (an (.of I) (.of I) cq (by omega) (by assumption) aW) I<|ab (ag (.of I) (At.base aC I)) I<|Ja I<|Jn<|Je<|Jm<|Jh<|Jh<|Jm<|Jh<|JT ?_;rotate_left;refine Jw<|Jj<|Jt<|Jg<|Jv I<|JB I (by omega)<|Ja I<|Jn ?_;rotate_right)
  ·rw [hf,hs,if_pos az]
  ·apply aH (k+1) ⟨by omega,by rw [hf,hs,if_neg az]⟩ (by omega)
   case hs1=>exact bS
   case ht=>(try simp only [Ze,Zf,Za]);exact .nil
 ·refine Jq<|Jr<|Jv I<|Jv I<|JI I<|JA I<|Jn<|Jc I fun az=>Jp<|Jl<|Jo<|Jt<|Jr<|Ja I<|Jn<|Je<|JT ?_;rw [hf,Zbf (by omega)];rfl
theorem jG (h:Rd w v 1 (cs.map fun v=>[v])) (hl:bY cs es):aj T_ 28 [v] w (.q (aZ es)):=
 QQ v es w (by rw [<- hl.eq];exact h)
theorem eG (h:Bool) (e:Int) (w:World):aj T_ 147 [.bool h,.q e] w (.q (cn h e)):=by
 refine ah func147 I I ?_
 (refine Jr<|Ja I<|Jn<|Jq<|Jr<|Jv I<|Jn<|nj I (fun az=>?_) fun az=>?_;refine Jr<|Jv I<|Ja I<|Jn<|Ju<|JT ?_;rotate_left;refine Jk<|Jr<|Ja I<|Jn<|Je<|JT ?_;rotate_right)
 all_goals simp [cn, *]
theorem np (n l m:Int) (w:World):aj T_ 134 [.q n,.q l,.q m] w (.q (fK n l m)):=by
 refine ah func134 I I ?_
 (refine Jr<|Ja I<|Ji<|Jv I<|Jv I<|JA I<|Jv I<|iQ I I I I<|iQ I I I I<|aF I I inferInstance (fun hg br=>(lV (.bF hg I) (.bF hg I))) I<|ab (bA (.of I) I) I<|ai bb I (fun w' aB=>(eG _ 3 w'))<|Ja I<|Jn<|Je<|JT ?_)
 rfl
theorem QR (v:Value) (es:List Int) (w:World) (h:Rd w v 1 (ints es)):aj T_ 111 [v] w (.q (aZ es)):=by
 obtain ⟨a,cap,b,o,rfl,dd,bO,ha,hc⟩:=h;rw [dw] at *;unfold maxLen at bO;refine ah func111 I I ?_;refine Jr<|Ja I<|Jn<|Jq<|Jr<|Jv I<|JI I<|Jv I<|Jn<|J0 ?_;refine aV (fun k:Nat=>k<=es.length/\aZ es=aZ (es.drop k)) (fun k=>[(7,.int .i64 k),(6,.int .i64 es.length),(5,.slice a es.length cap)]) (fun _=>[]) (fun k=>es.length-k) ?_ ?_
 ·apply aI 0 ⟨Zi _,I⟩
  case hs1=>exact bS
  case ht=>(try simp only [Ze,Zf,Za]);exact .nil
 intro k ⟨hk,hf⟩;by_cases aK:k<es.length
 ·have cq:=ha (kb aK);have aC:=rd1 hc (iV aK);have hs:=tX aK
  (refine Jr<|JA I<|Jn<|Jq<|Jd I fun az=>Jk<|Jq<|J0<|Jr<|ab (fT cq az) I<|ab (ag (.of I) (At.base aC I)) I<|Ja I<|Ji<|Jv I<|JD I<|Jn<|gm I (fun az=>?_) fun az=>?_;refine Jr<|Jv I<|Ja I<|Jn<|Je<|Jm<|Jh<|Jh<|Jm<|Jh<|JT ?_;rotate_left;refine Jw<|Jj<|Jt<|Jg<|JB I (by omega)<|Jv I<|Jn ?_;rotate_right)
  ·rw [hf,hs,if_pos az]
  ·apply aH (k+1) ⟨by omega,by rw [hf,hs,if_neg az]⟩ (by omega)
   case hs1=>exact bS
   case ht=>(try simp only [Ze,Zf,Za]);exact .nil
 ·refine Jr<|JA I<|Jn<|Jq<|Jc I fun az=>Jp<|Jl<|Jo<|Jt<|Jr<|Ja I<|Jn<|Je<|JT ?_;rw [hf,Zbf (by omega)];rfl
theorem ee (h:Rd w v 1 (cs.map fun v=>[v])) (hl:bY cs es):aj T_ 111 [v] w (.q (aZ es)):=
 QR v es w (by rw [<- hl.eq];exact h)
theorem YV (h:p<s.size):bt s p=((s[p]'h).toNat:Nat):=by
 unfold bt;have:s.data.toList[p]? = some (s[p]'h):=by
  rw [ZaH];exact getElem?_pos s.data p h
 rw [this];rfl
theorem zT (h:p<s.size):(bt s p<128/\((Utf8.decode s p).1:Int)=bt s p/\(Utf8.decode s p).2=1)\/(128<=bt s p/\(128:Int)<=(Utf8.decode s p).1/\1<=(Utf8.decode s p).2):=by
 rw [YV h];by_cases ha:(s[p]'h).toNat<128
 ·have:=decode_ascii s p h ha
  left;rw [this];exact ⟨by omega,I,I⟩
 ·have:=decode_high s p h (by omega)
  right;omega
theorem CZ :s.size=0↔s=⟨#[]⟩:=by
 constructor
 ·intro h;have:s.data=#[]:=Array.eq_empty_of_size_eq_zero h;cases s;simp_all
 ·rintro rfl;rfl
theorem GD {c:Int}:HV c=true↔(65<=c/\c<=90)\/(97<=c/\c<=122):=by simp [HV]
theorem A4 {c:Int}:okB c=true↔((65<=c/\c<=90)\/(97<=c/\c<=122))\/(48<=c/\c<=57)\/c=95:=by simp [okB,HV,Xf,or_assoc]
theorem ES (s:ByteArray) (w:World):aj T_ 187 [.string s] w (.bool (kR s)):=by
 refine ah func187 I I ?_
 (refine Jr<|Ja I<|Jn<|Jq<|Jr<|Jv I<|bj (HC (.of I)) I fun _ _=>Jn<|J0 ?_)
 rename_i bi hbi;refine aV (fun p:Nat=>p<=s.size/\(p=0\/(1<=p/\HV (bt s 0)=true/\okF s 1=okF s p))) (fun _=>[(7,.p bi),(0,.string s)]) (fun p=>[bE bi (.stringIter s p)]) (fun p=>s.size-p) ?_ ?_
 ·apply aI 0 ⟨by omega,.inl I⟩
  case hs1=>exact bS
  case ht=>(try simp only [Ze,Zf,Za]);exact .h1 .nil
 intro p ⟨hp,hI⟩
 (refine Jr<|Ks (.of I) .here I (fun aK=>?_) fun aK=>?_;refine JJ I I<|Jn<|Jq<|cW (.of I)<|Jk<|J0<|Jr<|JJ I I<|JJ I I<|Ja I<|Ja I<|Ji<|Jv I<|JG I<|Jv I<|iQ I I I I<|aF I I inferInstance (fun hg br=>(lj (.bF hg I) (.of I))) I<|ab (bX (.of I) I) I<|Jv I<|iQ I I I I<|aF I I inferInstance (fun hg br=>(AO (.bF hg I) (.of I))) I<|aF I I inferInstance (fun hg br=>(aP (.bF hg I))) I<|fk I I inferInstance (fun hg br=>(aP (.of I))) I<|fk I I inferInstance (fun hg br=>(lj (.bF hg I) (.of I))) I<|aF I I inferInstance (fun hg br=>(gE hg (.bF hg I) I)) I<|ab (bA (.of I) I) I<|Ja I<|Ji<|Jv I<|JH I<|Jv I<|iQ I I I I<|aF I I inferInstance (fun hg br=>(lk (.bF hg I) (.of I))) I<|aF I I inferInstance (fun hg br=>(aP (.bF hg I))) I<|fk I I inferInstance (fun hg br=>(aP (.of I))) I<|fk I I inferInstance (fun hg br=>(lh (.bF hg I) (.of I))) I<|fk I I inferInstance (fun hg br=>(aP (.bF hg I))) I<|fk I I inferInstance (fun hg br=>(aP (.of I))) I<|fk I I inferInstance (fun hg br=>(lV (.bF hg I) (.of I))) I<|fk I I inferInstance (fun hg br=>(jS hg (.bF hg I) I)) I<|fk I I inferInstance (fun hg br=>(aP (.bF hg I))) I<|fk I I inferInstance (fun hg br=>(aP (.of I))) I<|fk I I inferInstance (fun hg br=>(jl (.bF hg I) (.of I))) I<|fk I I inferInstance (fun hg br=>(gE hg (.bF hg I) I)) I<|aF I I inferInstance (fun hg br=>(jS hg (.bF hg I) I)) I<|ab (bX (.of I) I) I<|Jn<|nj I (fun az=>?_) fun az=>?_;refine Jr<|Ja I<|Jn<|Je<|Jm<|Jh<|Jm<|Jh<|JT ?_;rotate_left;refine Jw<|Jj<|Jt ?_;rotate_right;rotate_left 2;refine JJ I I<|Jn<|Jq<|ch (.of I)<|Jp<|Jl<|Jo<|Jt<|Jr<|Jv I<|ab (fN (.of I) (.of I)) I<|Jv I<|iQ I I I I<|aF I I inferInstance (fun hg br=>(fg (.bF hg I))) I<|aF I I inferInstance (fun hg br=>(lj (.bF hg I) (.of I))) I<|ab (bX (.of I) I) I<|Ja I<|Jn<|Je<|JT ?_;rotate_right 2)
 ·congr 1;symm;unfold kR;have hd:=zT aK;rcases hI with rfl | ⟨h1,h2,h3⟩
  ·have:HV (bt s 0)=false:=by rw [<- Zap,GD];omega
   simp [this]
  ·have:okF s p=false:=by
    rw [A3 aK];have:okB (bt s p)=false:=by rw [<- Zap,A4];omega
    rw [this];rfl
   rw [h3,this];simp
 ·have hd:=zT aK;have ho:okB (bt s p)=true:=by rw [A4];omega
  have hw:(Utf8.decode s p).2=1:=by rw [A4] at ho;omega
  rw [hw];have hn:HV (bt s 0)=true/\okF s 1=okF s (p+1):=by
   rcases hI with rfl | ⟨h1,h2,h3⟩
   ·refine ⟨?_,I⟩;rw [GD];omega
   ·exact ⟨h2,by rw [h3,A3 aK,ho];rfl⟩
  apply aH (p+1) ⟨by omega,.inr ⟨by omega,hn⟩⟩ (by omega)
  case hs1=>exact bS
  case ht=>(try simp only [Ze,Zf,Za]);exact .h1 .nil
 ·unfold kR;congr 1;by_cases h0:s.size=0
  ·have:s=⟨#[]⟩:=CZ.1 h0;rw [decide_eq_false (p:=s≠⟨#[]⟩) (fun h=>h this),decide_eq_false (p:=0<s.size) (by omega)];rfl
  ·rw [decide_eq_true (p:=s≠⟨#[]⟩) (fun h=>h0 (CZ.2 h)),decide_eq_true (p:=0<s.size) (by omega)]
   rcases hI with rfl | ⟨h1,h2,h3⟩
   ·omega
   ·rw [h2,h3,Gu (by omega)];simp;omega
def Sr.cells (x:Sr):List Value:=[.string x.nm,.q x.mx]
def vk (l:List Sr):List (List Value):=l.map Sr.cells
def ko (l:List Sr):List Value:=(vk l).flatten
theorem cy (l:List Sr):(vk l).length=l.length:=by simp [vk]
theorem fZ {l:List Sr} (h:k<l.length):(vk l)[k]? = some ((Sr.cells) l[k]):=by simp [vk,h]
theorem iF {l:List Sr} (h:k<l.length):vk l≠[]:=by intro e;have:=congrArg List.length e;rw [cy] at this;simp at this;subst this;simp at h
theorem KH (l:List Sr):∀ r∈vk l,r.length=2:=fun r hr=>by obtain ⟨x,_,rfl⟩:=Zx.1 hr;rfl
theorem Gd (l:List Sr):∀ r∈vk l,∀ u∈r,u.oneCell'=true:=fun r hr=>by obtain ⟨x,_,rfl⟩:=Zx.1 hr;exact bR rfl (bR rfl (ig))
theorem Gc (l:List Sr):(ko l).length=l.length*2:=by unfold ko;rw [fv (KH l),cy]
theorem O3 (a b:List Sr):ko (a++b)=ko a++ko b:=by unfold ko vk;rw [Zv,Zaf]
theorem Cq {l:List Sr} (h:k<l.length):ko (l.take (k+1))=ko (l.take k)++(Sr.cells) l[k]:=by rw [Zl h,O3];unfold ko vk;simp
theorem cG {c:Cx} {hs hs':List bd} {l:List Sr} {E:TypeId} (hm:Mem c hs w) (ht:Take hs (row E 2 v n (ko l)) hs') (hn:l.length=n):Rd w v 2 (vk l):=hm.o9 ht I (KH l) (by rw [cy,hn])
def De.cells (x:De):List Value:=[.string x.nm,.q x.mx,.bool x.pr]
def u0 (l:List De):List (List Value):=l.map De.cells
def jt (l:List De):List Value:=(u0 l).flatten
theorem cd (l:List De):(u0 l).length=l.length:=by simp [u0]
theorem fR {l:List De} (h:k<l.length):(u0 l)[k]? = some ((De.cells) l[k]):=by simp [u0,h]
theorem iq {l:List De} (h:k<l.length):u0 l≠[]:=by intro e;have:=congrArg List.length e;rw [cd] at this;simp at this;subst this;simp at h
theorem Fo (l:List De):∀ r∈u0 l,r.length=3:=fun r hr=>by obtain ⟨x,_,rfl⟩:=Zx.1 hr;rfl
theorem G6 (l:List De):∀ r∈u0 l,∀ u∈r,u.oneCell'=true:=fun r hr=>by obtain ⟨x,_,rfl⟩:=Zx.1 hr;exact bR rfl (bR rfl (bR rfl (ig)))
theorem G5 (l:List De):(jt l).length=l.length*3:=by unfold jt;rw [fv (Fo l),cd]
theorem Q7 (a b:List De):jt (a++b)=jt a++jt b:=by unfold jt u0;rw [Zv,Zaf]
theorem DB {l:List De} (h:k<l.length):jt (l.take (k+1))=jt (l.take k)++(De.cells) l[k]:=by rw [Zl h,Q7];unfold jt u0;simp
theorem cI {c:Cx} {hs hs':List bd} {l:List De} {E:TypeId} (hm:Mem c hs w) (ht:Take hs (row E 3 v n (jt l)) hs') (hn:l.length=n):Rd w v 3 (u0 l):=hm.o9 ht I (Fo l) (by rw [cd,hn])
def Ti.cells (x:Ti):List Value:=[.string x.nm,.q x.fr,.q x.to]
def uS (l:List Ti):List (List Value):=l.map Ti.cells
def kz (l:List Ti):List Value:=(uS l).flatten
theorem bV (l:List Ti):(uS l).length=l.length:=by simp [uS]
theorem ei {l:List Ti} (h:k<l.length):(uS l)[k]? = some ((Ti.cells) l[k]):=by simp [uS,h]
theorem fm {l:List Ti} (h:k<l.length):uS l≠[]:=by intro e;have:=congrArg List.length e;rw [bV] at this;simp at this;subst this;simp at h
theorem Kz (l:List Ti):∀ r∈uS l,r.length=3:=fun r hr=>by obtain ⟨x,_,rfl⟩:=Zx.1 hr;rfl
theorem F7 (l:List Ti):∀ r∈uS l,∀ u∈r,u.oneCell'=true:=fun r hr=>by obtain ⟨x,_,rfl⟩:=Zx.1 hr;exact bR rfl (bR rfl (bR rfl (ig)))
theorem F6 (l:List Ti):(kz l).length=l.length*3:=by unfold kz;rw [fv (Kz l),bV]
theorem OQ (a b:List Ti):kz (a++b)=kz a++kz b:=by unfold kz uS;rw [Zv,Zaf]
theorem Cm {l:List Ti} (h:k<l.length):kz (l.take (k+1))=kz (l.take k)++(Ti.cells) l[k]:=by rw [Zl h,OQ];unfold kz uS;simp
theorem cF {c:Cx} {hs hs':List bd} {l:List Ti} {E:TypeId} (hm:Mem c hs w) (ht:Take hs (row E 3 v n (kz l)) hs') (hn:l.length=n):Rd w v 3 (uS l):=hm.o9 ht I (Kz l) (by rw [bV,hn])
def Po.cells (x:Po):List Value:=[.q x.lv,.string x.ou,.string x.ip]
def tG (l:List Po):List (List Value):=l.map Po.cells
def gl (l:List Po):List Value:=(tG l).flatten
theorem cR (l:List Po):(tG l).length=l.length:=by simp [tG]
theorem ie {l:List Po} (h:k<l.length):(tG l)[k]? = some ((Po.cells) l[k]):=by simp [tG,h]
theorem j8 {l:List Po} (h:k<l.length):tG l≠[]:=by intro e;have:=congrArg List.length e;rw [cR] at this;simp at this;subst this;simp at h
theorem Lm (l:List Po):∀ r∈tG l,r.length=3:=fun r hr=>by obtain ⟨x,_,rfl⟩:=Zx.1 hr;rfl
theorem AX (l:List Po):∀ r∈tG l,∀ u∈r,u.oneCell'=true:=fun r hr=>by obtain ⟨x,_,rfl⟩:=Zx.1 hr;exact bR rfl (bR rfl (bR rfl (ig)))
theorem ic (l:List Po):(gl l).length=l.length*3:=by unfold gl;rw [fv (Lm l),cR]
theorem AW (a b:List Po):gl (a++b)=gl a++gl b:=by unfold gl tG;rw [Zv,Zaf]
theorem CU {l:List Po} (h:k<l.length):gl (l.take (k+1))=gl (l.take k)++(Po.cells) l[k]:=by rw [Zl h,AW];unfold gl tG;simp
theorem ct {c:Cx} {hs hs':List bd} {l:List Po} {E:TypeId} (hm:Mem c hs w) (ht:Take hs (row E 3 v n (gl l)) hs') (hn:l.length=n):Rd w v 3 (tG l):=hm.o9 ht I (Lm l) (by rw [cR,hn])
def gi (l:List ByteArray):List (List Value):=l.map fun s=>[.string s]
def aR (l:List ByteArray):List Value:=l.map Value.string
theorem bG (l:List ByteArray):(gi l).length=l.length:=by simp [gi]
theorem fM {l:List ByteArray} (h:k<l.length):(gi l)[k]? = some [.string l[k]]:=by simp [gi,h]
theorem iE {l:List ByteArray} (h:k<l.length):gi l≠[]:=by intro e;have:=congrArg List.length e;rw [bG] at this;simp at this;subst this;simp at h
theorem KC (l:List ByteArray):∀ r∈gi l,r.length=1:=fun r hr=>by obtain ⟨x,_,rfl⟩:=Zx.1 hr;rfl
theorem vi (l:List ByteArray):∀ r∈gi l,∀ u∈r,u.oneCell'=true:=fun r hr=>by obtain ⟨x,_,rfl⟩:=Zx.1 hr;exact bR rfl ig
theorem oU (l:List ByteArray):aR l=(gi l).flatten:=by
 induction l with
 | nil=>rfl
 | cons x l ih=>show [Value.string x]++aR l=_;rw [ih];rfl
theorem dj (l:List ByteArray):(aR l).length=l.length:=by simp [aR]
theorem eT (a b:List ByteArray):aR (a++b)=aR a++aR b:=by simp [aR]
theorem dS {c:Cx} {hs hs':List bd} {l:List ByteArray} {E:TypeId} (hm:Mem c hs w) (ht:Take hs (row E 1 v n (aR l)) hs') (hn:l.length=n):Rd w v 1 (gi l):=hm.o9 ht (oU l) (KC l) (by rw [bG,hn])
structure RR (w:World) (r:Ro) (s d t p:Value):Prop where
 sr:Rd w s 2 (vk r.sr)
 de:Rd w d 3 (u0 r.de)
 ti:Rd w t 3 (uS r.ti)
 po:Rd w p 3 (tG r.po)
theorem RR.keeps {w w':World} {r:Ro} {s d t p:Value} (h:RR w r s d t p) (hk:aJ [] w w'):RR w' r s d t p:=⟨h.sr.keeps hk,h.de.keeps hk,h.ti.keeps hk,h.po.keeps hk⟩
def RA (r:Ro) (s d t p:Value):Value:=.agg #[.q r.lv,.q r.ma,s,d,t,p]
abbrev JQ (b:Nat) (r:Ro) (s d t p:Value):bd:=bE b (.cells #[.q r.lv,.q r.ma,s,d,t,p] 27 (0,0))
abbrev JP (b:Nat) (r:Ro) (s d t p:Value):bd:=bE b (.cells #[.q r.lv,.q r.ma,s,d,t,p] 41 (0,0))
abbrev J1 (r:Ro) (v:Value):bd:=row 186 2 v r.sr.length (ko r.sr)
abbrev J2 (r:Ro) (v:Value):bd:=row 90 3 v r.de.length (jt r.de)
abbrev J3 (r:Ro) (v:Value):bd:=row 187 3 v r.ti.length (kz r.ti)
abbrev J4 (r:Ro) (v:Value):bd:=row 188 3 v r.po.length (gl r.po)
abbrev JW (v:Value) (l:List ByteArray):bd:=row 9 1 v l.length (aR l)
end Go.Proofs.A1
namespace Go.SL
open Go
def Gb (As:List bd):bd where
 sat h fp:=cr h As fp
 loc:=fun hs hb=>hs.loc hb
 own:=fun hs b hb=>hs.own b hb
def fW (E:TypeId):List Value->List (List Value)->List bd
 | v::vs,x::xs=>row E 1 v x.length x::fW E vs xs
 | _,_=>[]
def iG (E:TypeId) (vs:List Value) (xs:List (List Value)):bd:=Gb (fW E vs xs)
theorem zt {E:TypeId} {v:Value} {x:List Value}:∀ {vs:List Value} {xs:List (List Value)} {j:Nat},vs[j]? = some v->xs[j]? = some x->∃ r,Take (fW E vs xs) (row E 1 v x.length x) r
 | [],_,j,h,_=>by simp at h
 | _::_,[],j,_,h=>by simp at h
 | v' :: vs, x' :: xs, 0, h1, h2 => by
  simp only [ZaC,Option.some.injEq] at h1 h2;subst h1 h2;exact ⟨_,.here⟩
 | v' :: vs, x' :: xs, j + 1, h1, h2 => by
  simp only [ZaZ] at h1 h2;obtain ⟨r,hr⟩:=zt h1 h2;exact ⟨_,.there hr⟩
theorem zv {E:TypeId} {v:Value} {x:List Value}:∀ {vs:List Value} {xs:List (List Value)},vs.length=xs.length->fW E (vs++[v]) (xs++[x])=fW E vs xs++[row E 1 v x.length x]
 | [],[],_=>rfl
 | [],_::_,h=>by simp at h
 | _::_,[],h=>by simp at h
 | v' :: vs, x' :: xs, h => by
  simp only [ZA,Nat.add_right_cancel_iff] at h;simp only [Zb,fW,zv h]
theorem Mem.wy {c:Cx} {hs hs':List bd} {w:World} {E:TypeId} {vs:List Value} {xs:List (List Value)} {j:Nat} {v:Value} {x:List Value} (hm:Mem c hs w) (ht:Take hs (iG E vs xs) hs') (hv:vs[j]? = some v) (hx:xs[j]? = some x):Rd w v 1 (x.map fun u=>[u]):=by
 obtain ⟨k,fp,hn,⟨f1,f2,rfl,h1,h2⟩,hb⟩:=hm.take ht;have ni:Mem c (fW E vs xs++hs') w:=⟨k,f1++f2,hn,cr.append_iff.2 ⟨f1,f2,I,h1,h2⟩,hb⟩;obtain ⟨r,hr⟩:=zt (E:=E) hv hx;exact ni.K9 (hr.append hs') I
section
variable {P:Program} {r:Option Nat} {c:Cx} {D:List Nat} {sl:aL} {hs hs':List bd} {X:Act->World->Prop} {Q:Exit->Act->World->Prop} {ι:Type}
variable {ops:Array Oper} {d:Nat} {ty:TypeId} {pos:String} {af:Array Edge} {rest:List Oper}
theorem ku {E:TypeId} {vs:List Value} {xs:List (List Value)} {v:Value} {x:List Value} {n:Nat} {h1 h2:List bd} (ht:Take hs (iG E vs xs) h1) (ht2:Take h1 (row E 1 v n x) h2) (hn:n=x.length) (hl:vs.length=xs.length)
  (k:Tr c D sl (iG E (vs++[v]) (xs++[x])::h2) X):Tr c D sl hs X:=fun a w ba=>by
 subst hn;have hT:bB hs [iG E vs xs,row E 1 v x.length x] h2:=.cons ht (.cons ht2 .nil);have hm:=ba.mem.jj (hT.append (nB D));obtain ⟨kk,fp,uD,⟨f1,f2',rfl,g1,⟨f2,f3,rfl,g2,g3⟩⟩,hb⟩:=hm;refine k a w (ba.heap ⟨kk,(f1++f2)++f3,by rw [Zh];exact uD,⟨f1++f2,f3,I,?_,g3⟩,by rw [Zh];exact hb⟩);show cr (hp w) (fW E (vs++[v]) (xs++[x])) (f1++f2);rw [zv hl];exact cr.append_iff.2 ⟨f1,f2,I,g1,⟨f2,[],by simp,g2,I⟩⟩
theorem jL (E:TypeId) (k:Tr c D sl (iG E [] []::hs) X):Tr c D sl hs X:=fun a w ba=>
 k a w (ba.heap (Mem.change (As := []) (Bs := [iG E [] []]) ba.mem fun fp _ hf => by
  rw [show fp=[] from hf];exact ⟨.refl _ _,[],Zan,⟨[],[],I,I,I⟩,by simp⟩))
variable {As:List bd}
theorem yY (ht:Take hs (Gb As) hs') (k:Tr c D sl (As++hs') X):Tr c D sl hs X:=fun a w ba=>by
 obtain ⟨kk,fp,hn,⟨f1,f2,rfl,h1,h2⟩,hb⟩:=ba.mem.take (ht.append _);exact k a w (ba.heap ⟨kk,f1++f2,hn,by rw [Zh];exact cr.append_iff.2 ⟨f1,f2,I,h1,h2⟩,hb⟩)
theorem qb (ht:bB hs As hs') (k:Tr c D sl (Gb As::hs') X):Tr c D sl hs X:=fun a w ba=>by
 obtain ⟨kk,fp,hn,iZ,hb⟩:=ba.mem.jj (ht.append (nB D));obtain ⟨f1,f2,rfl,h1,h2⟩:=cr.append_iff.1 iZ;exact k a w (ba.heap ⟨kk,f1++f2,hn,⟨f1,f2,I,h1,h2⟩,hb⟩)
theorem gA {op:Op} {f:FuncId} {args:List Value} {Φ:ι->Prop} {val:ι->Value} {own:ι->List bd} (hr:mA P sl ⟨some d,op,ty,pos,af,none⟩ f args) (hd:Nat.blt d c.nt=true) (ht:bB hs As hs')
  (hc:∀ w fp,Mem c hs w->fp.Nodup->cr (hp w) As fp->(∀ b∈fp,b∈c.md\/c.w0.heap.size<=b)->(∀ b o h2,Take hs' (bE b o) h2->b ∉ fp)->a8 P f args w fp Φ val own)
  (k:∀ x,Φ x->Tr c D ((d,val x)::sl) (own x++hs') (WL P r ops Q rest)):Tr c D sl hs (WL P r ops Q (⟨some d,op,ty,pos,af,none⟩::rest)):=fun a w ba=>by
 have hm:=ba.mem.jj (ht.append (nB D));obtain ⟨kk,fp,hn,iZ,hb⟩:=hm;obtain ⟨f1,f2,rfl,h1,h2⟩:=cr.append_iff.1 iZ;obtain ⟨n1,n2,n12⟩:=ZG.1 hn;have lp:∀ b o h3,Take hs' (bE b o) h3->b ∉ f1:=fun b o h3 htk QD=>by
  obtain ⟨g1,g2,⟨e1,_⟩,_,hp⟩:=cr.take (htk.append (nB D)) h2;have:b∈f2:=hp.mem_iff.2 (ZF _ (by rw [e1];simp));exact n12 b QD b this I
 refine Ad I hr ba.du (hc w f1 ba.pq n1 h1 (fun b dK=>(hb b (ZF _ dK)).symm) lp) fun e w' ⟨x,he,hx,hk,mw,uD,hs',zL⟩=>⟨val x,he,k x hx _ _ ((ba.put (by simpa [Zac] using hd) (val x)).heap ?_)⟩;have aK:∀ b∈f2,b<w.heap.size:=fun b dK=>let ⟨o,ho⟩:=h2.own b dK;kV ho
 rw [Zh];refine ⟨?_,mw++f2,?_,cr.append_iff.2 ⟨mw,f2,I,hs',h2.loc fun b dK=>?_⟩,?_⟩
 ·refine ⟨hk.os.trans kk.os,hk.tape.trans kk.tape,hk.output.trans kk.output,ZQ kk.dr hk.dr,ZQ kk.size hk.size,fun b dK hm=>?_⟩;rw [<- kk.block b dK hm];refine hk.block b (ZaK dK kk.size) (fun hf=>?_);rcases hb b (ZF _ hf) with h | h
  ·omega
  ·exact hm h
 ·refine ZG.2 ⟨uD,n2,fun x hx y hy e=>?_⟩;subst e;rcases zL x hx with h | h
  ·exact n12 x h x hy I
  ·have:=aK x hy;omega
 ·exact hk.block b (aK b dK) (fun hf=>n12 b hf b dK I)
 ·intro b dK;rcases Zz.1 dK with h | h
  ·rcases zL b h with h | h
   ·exact hb b (ZF _ h)
   ·exact .inl (ZQ kk.size h)
  ·exact hb b (ZU _ h)
end
end Go.SL
namespace Go.Proofs.A1
open Go Go.SL
open Tryz
open Tryz renaming prog->T_
def iN {α:Type} (p:α->Bool) (l:List α):Int:=((List.range l.length).find? fun i=>(l[i]?.map p).getD false).elim (-1) (fun i=>(i:Int))
theorem gP {α:Type} {p:α->Bool} {l:List α} {k:Nat} (h:∀ i,i<k->(l[i]?.map p).getD false=false) (hk:k<l.length) (hp:p l[k]=true):iN p l=k:=by
 unfold iN;have:(List.range l.length).find? (fun i=>(l[i]?.map p).getD false)=some k:=by
  rw [List.find?_range_eq_some];exact ⟨by simp [hk,hp],by simpa using hk,fun i hi=>by simpa using h i hi⟩
 rw [this];rfl
theorem fS {α:Type} {p:α->Bool} {l:List α} (h:∀ i,i<l.length->(l[i]?.map p).getD false=false):iN p l = -1:=by
 unfold iN;have:(List.range l.length).find? (fun i=>(l[i]?.map p).getD false)=none:=by
  rw [ZaL];intro i hi;simp [h i (ZW.1 hi)]
 rw [this];rfl
theorem kU {α:Type} (p:α->Bool) (l:List α):decide (0<=iN p l)=l.any p:=by
 unfold iN;cases h:(List.range l.length).find? fun i=>(l[i]?.map p).getD false with
 | none =>
  have:l.any p=false:=by
   rw [Zam];intro x hx;obtain ⟨i,hi,rfl⟩:=Zw hx;have:=ZaL.1 h i (ZW.2 hi);simpa [hi] using this
  rw [this];rfl
 | some i =>
  have h1:=ZW.1 (List.mem_of_find?_eq_some h);have h2:=List.find?_some h;have:l.any p=true:=by
   rw [ZR];exact ⟨l[i],Zj h1,by simpa [h1] using h2⟩
  rw [this];simp
variable {cap:List Value} {f:FuncId} {first:List Value} {lv:Value}
theorem GI {l:List Sr} {p:Sr->Bool} [bW T_ f] {w:World} (h:Rd w lv 2 (vk l)) (cV:∀ x∈l,∀ w',aJ [] w w'->aj T_ f (first++[.agg x.cells.toArray]++cap) w' (.bool (p x))) :
  aj T_ 263 [lv,.func (.func f) first.toArray cap.toArray] w (.q (iN p l)):=by
 obtain ⟨a,cp,b,o,rfl,dd,bO,ha,hc⟩:=h;rw [cy] at *;unfold maxLen at bO;refine ah func263 I I ?_;refine Jr<|Ja I<|Jn<|Jq<|Jr<|Jv I<|JI I<|Jv I<|Jn<|J0 ?_;refine aV (fun k:Nat=>k<=l.length/\∀ i,i<k->(l[i]?.map p).getD false=false) (fun k=>[(8,.int .i64 k),(7,.int .i64 l.length),(0,.slice a l.length cp),(1,.func (.func f) first.toArray cap.toArray)]) (fun _=>[]) (fun k=>l.length-k) ?_ ?_
 ·apply aI 0 ⟨Zi _,fun i h=>by omega⟩
  case hs1=>exact bS
  case ht=>(try simp only [Ze,Zf,Za]);exact .nil
 rintro k ⟨hk,hf⟩;by_cases aK:k<l.length
 ·have cq:=ha (iF aK);have aC:=(hc k _ (fZ aK)).2;have jq:=cV _ (Zj aK);have hps:(l[k]?.map p).getD false=p l[k]:=by simp [aK]
  unfold Sr.cells at aC jq
  (refine Jr<|JA I<|Jn<|Jq<|Jd I fun az=>Jk<|Jq<|J0<|Jr<|Jv I<|Ja I<|Ji<|Jv I<|Jv I<|Jv I<|ab (fT cq az) I<|ab (iO (eZ.base aC I)) I<|ai bM I (fun w' aB=>(jq w' (Mem.keeps aB)))<|Jn<|nj I (fun az=>?_) fun az=>?_;refine Jr<|Jv I<|Ja I<|Jn<|Je<|Jm<|Jh<|Jh<|Jm<|Jh<|JT ?_;rotate_left;refine Jw<|Jj<|Jt<|Jg<|JB I (by omega)<|Jv I<|Jn ?_;rotate_right)
  ·rw [gP hf aK az]
  ·apply aH (k+1) ⟨by omega,fun i hi=>by
    by_cases e:i=k
    ·rw [e,hps];exact az
    ·exact hf i (by omega)⟩ (by omega)
   case hs1=>exact bS
   case ht=>(try simp only [Ze,Zf,Za]);exact .nil
 ·obtain rfl:k=l.length:=by omega
  refine Jr<|JA I<|Jn<|Jq<|Jc I fun az=>Jp<|Jl<|Jo<|Jt<|Jr<|Ja I<|Jn<|Je<|JT ?_;rw [fS hf]
theorem QG {l:List Sr} {p:Sr->Bool} [bW T_ f] {w:World} (h:Rd w lv 2 (vk l)) (cV:∀ x∈l,∀ w',aJ [] w w'->aj T_ f (first++[.agg x.cells.toArray]++cap) w' (.bool (p x))) :
  aj T_ 227 [lv,.func (.func f) first.toArray cap.toArray] w (.bool (l.any p)):=by
 have jq:∀ w',aJ [] w w'->aj T_ 263 [lv,.func (.func f) first.toArray cap.toArray] w' (.q (iN p l)):=fun w' hk=>
  GI (h.keeps hk) fun x hx w2 fq=>cV x hx w2 (hk.trans fq)
 rw [<- kU];refine ah func227 I I ?_
 (refine Jr<|Ja I<|Ji<|Jv I<|Jv I<|ai bb I (fun w' aB=>(jq w' (Mem.keeps aB)))<|JG I<|Ja I<|Jn<|Je<|JT ?_)
 rfl
theorem Qf {l:List De} {p:De->Bool} [bW T_ f] {w:World} (h:Rd w lv 3 (u0 l)) (cV:∀ x∈l,∀ w',aJ [] w w'->aj T_ f (first++[.agg x.cells.toArray]++cap) w' (.bool (p x))) :
  aj T_ 242 [lv,.func (.func f) first.toArray cap.toArray] w (.q (iN p l)):=by
 obtain ⟨a,cp,b,o,rfl,dd,bO,ha,hc⟩:=h;rw [cd] at *;unfold maxLen at bO;refine ah func242 I I ?_;refine Jr<|Ja I<|Jn<|Jq<|Jr<|Jv I<|JI I<|Jv I<|Jn<|J0 ?_;refine aV (fun k:Nat=>k<=l.length/\∀ i,i<k->(l[i]?.map p).getD false=false) (fun k=>[(8,.int .i64 k),(7,.int .i64 l.length),(0,.slice a l.length cp),(1,.func (.func f) first.toArray cap.toArray)]) (fun _=>[]) (fun k=>l.length-k) ?_ ?_
 ·apply aI 0 ⟨Zi _,fun i h=>by omega⟩
  case hs1=>exact bS
  case ht=>(try simp only [Ze,Zf,Za]);exact .nil
 rintro k ⟨hk,hf⟩;by_cases aK:k<l.length
 ·have cq:=ha (iq aK);have aC:=(hc k _ (fR aK)).2;have jq:=cV _ (Zj aK);have hps:(l[k]?.map p).getD false=p l[k]:=by simp [aK]
  unfold De.cells at aC jq
  (refine Jr<|JA I<|Jn<|Jq<|Jd I fun az=>Jk<|Jq<|J0<|Jr<|Jv I<|Ja I<|Ji<|Jv I<|Jv I<|Jv I<|ab (fT cq az) I<|ab (iO (eZ.base aC I)) I<|ai bM I (fun w' aB=>(jq w' (Mem.keeps aB)))<|Jn<|nj I (fun az=>?_) fun az=>?_;refine Jr<|Jv I<|Ja I<|Jn<|Je<|Jm<|Jh<|Jh<|Jm<|Jh<|JT ?_;rotate_left;refine Jw<|Jj<|Jt<|Jg<|JB I (by omega)<|Jv I<|Jn ?_;rotate_right)
  ·rw [gP hf aK az]
  ·apply aH (k+1) ⟨by omega,fun i hi=>by
    by_cases e:i=k
    ·rw [e,hps];exact az
    ·exact hf i (by omega)⟩ (by omega)
   case hs1=>exact bS
   case ht=>(try simp only [Ze,Zf,Za]);exact .nil
 ·obtain rfl:k=l.length:=by omega
  refine Jr<|JA I<|Jn<|Jq<|Jc I fun az=>Jp<|Jl<|Jo<|Jt<|Jr<|Ja I<|Jn<|Je<|JT ?_;rw [fS hf]
theorem Qd {l:List Ti} {p:Ti->Bool} [bW T_ f] {w:World} (h:Rd w lv 3 (uS l)) (cV:∀ x∈l,∀ w',aJ [] w w'->aj T_ f (first++[.agg x.cells.toArray]++cap) w' (.bool (p x))) :
  aj T_ 246 [lv,.func (.func f) first.toArray cap.toArray] w (.q (iN p l)):=by
 obtain ⟨a,cp,b,o,rfl,dd,bO,ha,hc⟩:=h;rw [bV] at *;unfold maxLen at bO;refine ah func246 I I ?_;refine Jr<|Ja I<|Jn<|Jq<|Jr<|Jv I<|JI I<|Jv I<|Jn<|J0 ?_;refine aV (fun k:Nat=>k<=l.length/\∀ i,i<k->(l[i]?.map p).getD false=false) (fun k=>[(8,.int .i64 k),(7,.int .i64 l.length),(0,.slice a l.length cp),(1,.func (.func f) first.toArray cap.toArray)]) (fun _=>[]) (fun k=>l.length-k) ?_ ?_
 ·apply aI 0 ⟨Zi _,fun i h=>by omega⟩
  case hs1=>exact bS
  case ht=>(try simp only [Ze,Zf,Za]);exact .nil
 rintro k ⟨hk,hf⟩;by_cases aK:k<l.length
 ·have cq:=ha (fm aK);have aC:=(hc k _ (ei aK)).2;have jq:=cV _ (Zj aK);have hps:(l[k]?.map p).getD false=p l[k]:=by simp [aK]
  unfold Ti.cells at aC jq
  (refine Jr<|JA I<|Jn<|Jq<|Jd I fun az=>Jk<|Jq<|J0<|Jr<|Jv I<|Ja I<|Ji<|Jv I<|Jv I<|Jv I<|ab (fT cq az) I<|ab (iO (eZ.base aC I)) I<|ai bM I (fun w' aB=>(jq w' (Mem.keeps aB)))<|Jn<|nj I (fun az=>?_) fun az=>?_;refine Jr<|Jv I<|Ja I<|Jn<|Je<|Jm<|Jh<|Jh<|Jm<|Jh<|JT ?_;rotate_left;refine Jw<|Jj<|Jt<|Jg<|JB I (by omega)<|Jv I<|Jn ?_;rotate_right)
  ·rw [gP hf aK az]
  ·apply aH (k+1) ⟨by omega,fun i hi=>by
    by_cases e:i=k
    ·rw [e,hps];exact az
    ·exact hf i (by omega)⟩ (by omega)
   case hs1=>exact bS
   case ht=>(try simp only [Ze,Zf,Za]);exact .nil
 ·obtain rfl:k=l.length:=by omega
  refine Jr<|JA I<|Jn<|Jq<|Jc I fun az=>Jp<|Jl<|Jo<|Jt<|Jr<|Ja I<|Jn<|Je<|JT ?_;rw [fS hf]
theorem Br {l:List Ti} {p:Ti->Bool} [bW T_ f] {w:World} (h:Rd w lv 3 (uS l)) (cV:∀ x∈l,∀ w',aJ [] w w'->aj T_ f (first++[.agg x.cells.toArray]++cap) w' (.bool (p x))) :
  aj T_ 159 [lv,.func (.func f) first.toArray cap.toArray] w (.bool (l.any p)):=by
 have jq:∀ w',aJ [] w w'->aj T_ 246 [lv,.func (.func f) first.toArray cap.toArray] w' (.q (iN p l)):=fun w' hk=>
  Qd (h.keeps hk) fun x hx w2 fq=>cV x hx w2 (hk.trans fq)
 rw [<- kU];refine ah func159 I I ?_
 (refine Jr<|Ja I<|Ji<|Jv I<|Jv I<|ai bb I (fun w' aB=>(jq w' (Mem.keeps aB)))<|JG I<|Ja I<|Jn<|Je<|JT ?_)
 rfl
theorem Bc {l:List Po} {p:Po->Bool} [bW T_ f] {w:World} (h:Rd w lv 3 (tG l)) (cV:∀ x∈l,∀ w',aJ [] w w'->aj T_ f (first++[.agg x.cells.toArray]++cap) w' (.bool (p x))) :
  aj T_ 297 [lv,.func (.func f) first.toArray cap.toArray] w (.q (iN p l)):=by
 obtain ⟨a,cp,b,o,rfl,dd,bO,ha,hc⟩:=h;rw [cR] at *;unfold maxLen at bO;refine ah func297 I I ?_;refine Jr<|Ja I<|Jn<|Jq<|Jr<|Jv I<|JI I<|Jv I<|Jn<|J0 ?_;refine aV (fun k:Nat=>k<=l.length/\∀ i,i<k->(l[i]?.map p).getD false=false) (fun k=>[(8,.int .i64 k),(7,.int .i64 l.length),(0,.slice a l.length cp),(1,.func (.func f) first.toArray cap.toArray)]) (fun _=>[]) (fun k=>l.length-k) ?_ ?_
 ·apply aI 0 ⟨Zi _,fun i h=>by omega⟩
  case hs1=>exact bS
  case ht=>(try simp only [Ze,Zf,Za]);exact .nil
 rintro k ⟨hk,hf⟩;by_cases aK:k<l.length
 ·have cq:=ha (j8 aK);have aC:=(hc k _ (ie aK)).2;have jq:=cV _ (Zj aK);have hps:(l[k]?.map p).getD false=p l[k]:=by simp [aK]
  unfold Po.cells at aC jq
  (refine Jr<|JA I<|Jn<|Jq<|Jd I fun az=>Jk<|Jq<|J0<|Jr<|Jv I<|Ja I<|Ji<|Jv I<|Jv I<|Jv I<|ab (fT cq az) I<|ab (iO (eZ.base aC I)) I<|ai bM I (fun w' aB=>(jq w' (Mem.keeps aB)))<|Jn<|nj I (fun az=>?_) fun az=>?_;refine Jr<|Jv I<|Ja I<|Jn<|Je<|Jm<|Jh<|Jh<|Jm<|Jh<|JT ?_;rotate_left;refine Jw<|Jj<|Jt<|Jg<|JB I (by omega)<|Jv I<|Jn ?_;rotate_right)
  ·rw [gP hf aK az]
  ·apply aH (k+1) ⟨by omega,fun i hi=>by
    by_cases e:i=k
    ·rw [e,hps];exact az
    ·exact hf i (by omega)⟩ (by omega)
   case hs1=>exact bS
   case ht=>(try simp only [Ze,Zf,Za]);exact .nil
 ·obtain rfl:k=l.length:=by omega
  refine Jr<|JA I<|Jn<|Jq<|Jc I fun az=>Jp<|Jl<|Jo<|Jt<|Jr<|Ja I<|Jn<|Je<|JT ?_;rw [fS hf]
theorem QH {l:List Po} {p:Po->Bool} [bW T_ f] {w:World} (h:Rd w lv 3 (tG l)) (cV:∀ x∈l,∀ w',aJ [] w w'->aj T_ f (first++[.agg x.cells.toArray]++cap) w' (.bool (p x))) :
  aj T_ 301 [lv,.func (.func f) first.toArray cap.toArray] w (.bool (l.any p)):=by
 have jq:∀ w',aJ [] w w'->aj T_ 297 [lv,.func (.func f) first.toArray cap.toArray] w' (.q (iN p l)):=fun w' hk=>
  Bc (h.keeps hk) fun x hx w2 fq=>cV x hx w2 (hk.trans fq)
 rw [<- kU];refine ah func301 I I ?_
 (refine Jr<|Ja I<|Ji<|Jv I<|Jv I<|ai bb I (fun w' aB=>(jq w' (Mem.keeps aB)))<|JG I<|Ja I<|Jn<|Je<|JT ?_)
 rfl
end Go.Proofs.A1
