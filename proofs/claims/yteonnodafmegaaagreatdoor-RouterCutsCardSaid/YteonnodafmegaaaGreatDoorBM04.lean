/- Parts of the proof: GkRegO GkCopy GkZ K2 K3 KZz GkPool K4. -/
import Derived.Test.YteonnodafmegaaaGreatDoorBM03
import Derived.Lib.AppendZerosOnto
import Derived.Test.YteonnodafmegaaaGreatDoorBM01
import Derived.Laws.RangeAny
import Derived.Laws.RangeString
import Derived.Test.YteonnodafmegaaaGreatDoorBM02
set_option linter.unusedSectionVars false
set_option linter.unusedVariables false
set_option linter.unusedSimpArgs false
namespace Go.SL
open Go
inductive Step where
 | rel (R:Rel)
 | new (V:Nat→Value) (ob:Obj)
def Step.r:Step→Rel
 | .rel R=>R
 | .new V ob=>Cs V ob
section
variable {P:Program} {r:Option Nat} {c:Cx} {D:List Nat} {sl jc:aI} {rl ke:eE} {hs:List a8} {Q:Exit→Act→World→Prop} {l:List Oper} {ops:Array Oper} {m:Nat} {S:List Step}
inductive mn (P:Program) (c:Cx) (hs:List a8) (ops:Array Oper):List Oper→aI→eE→List Step→aI→eE→Prop
 | nil {sl:aI} {rl:eE}:mn P c hs ops [] sl rl [] sl rl
 | val {o:Oper} {l:List Oper} {sl jc:aI} {rl ke:eE} {d:Nat} {V:Value} {S:List Step} (hd:o.dst=some d) (fw:d<c.nt) (h:sQ P c hs ops sl rl o (.val V)) (t:mn P c hs ops l ((d,V)::sl) rl S jc ke) :
   mn P c hs ops (o::l) sl rl (.rel (.val V)::S) jc ke
 | new {o:Oper} {l:List Oper} {sl jc:aI} {rl ke:eE} {d:Nat} {V:Nat→Value} {ob:Obj} {S:List Step} (hd:o.dst=some d) (fw:d<c.nt) (hn:cF sl d=none) (hg:o.guard=none)
   (hr:qg P c sl hs o V ob) (t:mn P c hs ops l sl ((d,Cs V ob)::rl) S jc ke):mn P c hs ops (o::l) sl rl (.new V ob::S) jc ke
theorem mn.Sm {sl jc:aI} {rl ke:eE} (h:mn P c hs ops l sl rl S jc ke):r8 P c hs ops l sl rl (S.map Step.r) jc ke:=by
 induction h with
 | nil=>exact .nil
 | val hd fw h _ ih=>exact .val hd fw h ih
 | @new o l sl jc rl ke d V ob S hd fw hn hg hr _ ih =>
  refine .rel hd fw hn (nF hg fun a w h1 _ h3=>?_) ih
  unfold wx
  rw [hr.2 a w h1 h3]
  exact ⟨.alloc _ _ _,w.heap.size,rfl,World.alloc_heap_new w ob⟩
theorem mn.Q9 {sl jc:aI} {rl ke:eE} (h:mn P c hs ops l sl rl S jc ke) :
  ∀ (i : Nat) (o : Oper) (V : Nat → Value) (ob : Obj), l[i]? = some o → S[i]? = some (.new V ob) → ∃ tx, o.guard = none ∧ qg P c tx hs o V ob ∧
   (∀ t v,cF tx t=some v→(∃ (j:Nat) (oj:Oper),j<i∧l[j]? = some oj∧oj.dst=some t∧(S.map Step.r)[j]? = some (.val v))∨((∀ (j:Nat) (oj:Oper),j<i→l[j]? = some oj→oj.dst≠some t)∧cF sl t=some v)):=by
 induction h with
 | nil=>intro i o V ob h;simp at h
 | @val o0 l sl jc rl ke d V0 S hd fw a7 t ih =>
  intro i o V ob ho hS
  cases i with
  | zero=>simp at hS
  | succ i =>
   obtain ⟨tx,hg,hr,h1⟩:=ih i o V ob (by simpa using ho) (by simpa using hS)
   refine ⟨tx,hg,hr,fun t v hv=>?_⟩
   rcases h1 t v hv with ⟨j,oj,hj,iE,iy,ju⟩ | ⟨uX,mu⟩
   ·exact .inl ⟨j+1,oj,by omega,by simpa using iE,iy,by simpa using ju⟩
   ·by_cases wg:d=t
    ·subst wg
     rw [fA] at mu
     cases mu
     exact .inl ⟨0,o0,by omega,rfl,hd,rfl⟩
    ·rw [fy wg] at mu
     refine .inr ⟨fun j oj hj iE=>?_,mu⟩
     cases j with
     | zero=>simp at iE;subst iE;rw [hd];simp [wg]
     | succ j=>exact uX j oj (by omega) (by simpa using iE)
 | @new o0 l sl jc rl ke d V0 ZS S hd fw hn hg0 UJ t ih =>
  intro i o V ob ho hS
  cases i with
  | zero =>
   simp at ho hS
   subst ho
   obtain ⟨rfl,rfl⟩:=hS
   exact ⟨sl,hg0,UJ,fun t v hv=>.inr ⟨fun j _ hj=>by omega,hv⟩⟩
  | succ i =>
   obtain ⟨tx,hg,hr,h1⟩:=ih i o V ob (by simpa using ho) (by simpa using hS)
   refine ⟨tx,hg,hr,fun t v hv=>?_⟩
   rcases h1 t v hv with ⟨j,oj,hj,iE,iy,ju⟩ | ⟨uX,mu⟩
   ·exact .inl ⟨j+1,oj,by omega,by simpa using iE,iy,by simpa using ju⟩
   ·have wg:d≠t:=fun e=>by subst e;rw [hn] at mu;cases mu
    refine .inr ⟨fun j oj hj iE=>?_,mu⟩
    cases j with
    | zero=>simp at iE;subst iE;rw [hd];simp [wg]
    | succ j=>exact uX j oj (by omega) (by simpa using iE)
def ql (β:Nat→Nat) (lst:Nat→Bool):List Step→Nat→List a8
 | [],_=>[]
 | .new _ ob::S,i=>if lst i then bA (β i) ob::ql β lst S (i+1) else ql β lst S (i+1)
 | .rel _::S,i=>ql β lst S (i+1)
theorem oD {β β':Nat→Nat} {lst mL:Nat→Bool}:∀ {S:List Step} {i:Nat},(∀ j V ob,S[j]? = some (.new V ob)→lst (i+j)=mL (i+j)∧(lst (i+j)=true→β (i+j)=β' (i+j)))→ql β lst S i=ql β' mL S i
 | [],_,_=>rfl
 | .rel _ :: S, i, h => by
  unfold ql
  exact oD fun j V ob hj=>by have:=h (j+1) V ob (by simpa using hj);rwa [show i+(j+1)=i+1+j from by omega] at this
 | .new V ob :: S, i, h => by
  have h0:=h 0 V ob rfl
  have ih:ql β lst S (i+1)=ql β' mL S (i+1):=oD fun j V ob hj=>by have:=h (j+1) V ob (by simpa using hj);rwa [show i+(j+1)=i+1+j from by omega] at this
  simp only [Nat.add_zero] at h0
  unfold ql
  rw [ih,← h0.1]
  by_cases hl:lst i=true
  ·rw [if_pos hl,if_pos hl,h0.2 hl]
  ·rw [if_neg hl,if_neg hl]
theorem zC {β β':Nat→Nat} {lst mL:Nat→Bool} {k b:Nat} {V:Nat→Value} {ob:Obj}:∀ {S:List Step} {i:Nat},S[k]? = some (.new V ob)→lst (i+k)=false→mL (i+k)=true→β' (i+k)=b→(∀ j,j≠i+k→mL j=lst j∧β' j=β j) →
  (bA b ob::ql β lst S i).Perm (ql β' mL S i)
 | [],_,h,_,_,_,_=>by simp at h
 | .rel _ :: S, i, h, h1, h2, h3, h4 => by
  cases k with
  | zero=>simp at h
  | succ k =>
   unfold ql
   refine zC (k:=k) (V:=V) (by simpa using h) ?_ ?_ ?_ ?_
   all_goals rw [show i+1+k=i+(k+1) from by omega];assumption
 | .new V0 ZS :: S, i, h, h1, h2, h3, h4 => by
  cases k with
  | zero =>
   simp at h
   obtain ⟨rfl,rfl⟩:=h
   have e:ql β lst S (i+1)=ql β' mL S (i+1):=oD fun j V ob hj=>by
    obtain ⟨e1,e2⟩:=h4 (i+1+j) (by omega)
    exact ⟨e1.symm,fun _=>e2.symm⟩
   simp only [Nat.add_zero] at h1 h2 h3
   unfold ql
   rw [if_neg (by simp [h1]),if_pos h2,h3,e]
  | succ k =>
   have ih:(bA b ob::ql β lst S (i+1)).Perm (ql β' mL S (i+1)):=by
    refine zC (k:=k) (V:=V) (by simpa using h) ?_ ?_ ?_ ?_
    all_goals rw [show i+1+k=i+(k+1) from by omega];assumption
   obtain ⟨e1,e2⟩:=h4 i (by omega)
   unfold ql
   rw [e1,e2]
   by_cases hl:lst i=true
   ·rw [if_pos hl,if_pos hl]
    exact (List.Perm.swap _ _ _).trans (ih.cons _)
   ·rw [if_neg hl,if_neg hl];exact ih
theorem bY.perm {h:Nat→Option Obj} {l1 l2:List a8} (hp:l1.Perm l2):∀ {fp:List Nat},bY h l1 fp→∃ lh,bY h l2 lh∧fp.Perm lh:=by
 induction hp with
 | nil=>intro fp hf;exact ⟨fp,hf,.refl _⟩
 | cons A _ ih =>
  rintro fp ⟨f1,f2,rfl,h1,h2⟩
  obtain ⟨g,hg,UK⟩:=ih h2
  exact ⟨f1++g,⟨f1,g,rfl,h1,hg⟩,UK.append_left f1⟩
 | swap A B l =>
  rintro fp ⟨f1,_,rfl,h1,f2,f3,rfl,h2,h3⟩
  refine ⟨f2++(f1++f3),⟨f2,f1++f3,rfl,h2,f1,f3,rfl,h1,h3⟩,?_⟩
  rw [← Zh,← Zh]
  exact List.perm_append_comm.append_right f3
 | trans _ _ ih1 ih2 =>
  intro fp hf
  obtain ⟨g,hg,h1⟩:=ih1 hf
  obtain ⟨g',hg',h2⟩:=ih2 hg
  exact ⟨g',hg',h1.trans h2⟩
theorem Mem.perm {c:Cx} {l1 l2:List a8} {w:World} (h:Mem c l1 w) (hp:l1.Perm l2):Mem c l2 w:=by
 obtain ⟨k,fp,hn,hs,hb⟩:=h
 obtain ⟨g,hg,UK⟩:=hs.perm hp
 exact ⟨k,g,UK.nodup_iff.1 hn,hg,fun b dy=>hb b (UK.mem_iff.2 dy)⟩
def F1 (c:Cx) (D:List Nat) (hs:List a8) (l:List Oper) (S:List Step) (listed:Array Bool) (a:Act) (w:World):Prop:=
 ∃ β : Nat → Nat, Mem c (ql β (fun i => listed.getD i false) S 0 ++ (hs ++ l8 D)) w ∧ (∀ i, c.w0.heap.size ≤ β i ∨ ¬ Ls listed i ∨ ∀ V ob, S[i]? ≠ some (.new V ob)) ∧
  ∀ (i:Nat) (o:Oper) (d:Nat) (V:Nat→Value) (ob:Obj),l[i]? = some o→o.dst=some d→S[i]? = some (.new V ob)→Ls listed i→a.tmps[d]? = some (V (β i))
theorem LH (hc:Rl l m) (XY:mn P c hs l.toArray (l.take m) sl [] S jc ke) {a0:Act} (h0:bK sl a0) (Ih:a0.tmps.size=c.nt)
  (tail:∀ listed a w,(∀ i,i<m→Ls listed i)→St c D jc hs a w→F1 c D hs (l.take m) S listed a w→WL P r l.toArray Q (l.drop m) a w) :
  ∀ (fuel:Nat) (listed:Array Bool) (a:Act) (w:World),Inv1 c D hs l m (S.map Step.r) a0 fuel listed a w→F1 c D hs (l.take m) S listed a w→wpAnyIn (FR r) 0 P .any l.toArray Q fuel listed a w:=by
 have hp:=XY.Sm
 have qW:=hp.end_
 have dT:∀ (j:Nat) (o:Oper),j<m→l[j]? = some o→(l.take m)[j]? = some o:=fun j o hj ho=>by rw [List.getElem?_take,if_pos hj];exact ho
 have fu:∀ (j:Nat) (o:Oper),(l.take m)[j]? = some o→j<m∧l[j]? = some o:=fun j o ho=>by
  rw [List.getElem?_take] at ho
  split at ho
  ·exact ⟨by assumption,ho⟩
  ·cases ho
 have mf:∀ fuel listed a w,Inv1 c D hs l m (S.map Step.r) a0 fuel listed a w→F1 c D hs (l.take m) S listed a w→(∀ i,i<m→Ls listed i)→wpAnyIn (FR r) 0 P .any l.toArray Q fuel listed a w:=by
  intro fuel listed a w hI hO dU
  have hL:∀ i,i<l.length→(Ls listed i↔i<m):=fun i _=>⟨fun h=>Nat.lt_of_not_le fun hm=>hI.hi i hm h,dU i⟩
  obtain ⟨U,wh,pN,rQ⟩:=hI.left
  have gU:U.Perm (List.range' m (l.length-m)):=by
   rw [List.perm_ext_iff_of_nodup wh (List.nodup_range')]
   intro i
   rw [pN i,List.mem_range'_1]
   constructor
   ·rintro ⟨h1,h2⟩
    exact ⟨Nat.le_of_not_lt fun h=>h2 (dU i h),by omega⟩
   ·rintro ⟨h1,h2⟩
    exact ⟨by omega,hI.hi i h1⟩
  have hlen:fuel=l.length-m:=by rw [← rQ,gU.length_eq,List.length_range']
  refine CB hc fuel m listed a w (Nat.le_refl _) (by have:=hc.le;omega) hI.sz hL (tail listed a w dU ⟨hI.mem,?_,hI.size,hI.defers⟩ hO)
  ·intro t v hv
   rcases qW.1 t v hv with ⟨j,oj,hj,iy,ju⟩ | ⟨uX,mu⟩
   ·obtain ⟨gX,lQ⟩:=fu j oj hj
    obtain ⟨u,hu,nb⟩:=hI.new j oj lQ (dU j gX) t _ iy ju
    rw [hu,show u=v from nb]
   ·rw [hI.AP t fun j oj hj jr=>uX j oj (dT j oj (Nat.lt_of_not_le fun hm=>hI.hi j hm jr) hj)]
    exact h0 t v mu
 intro fuel
 induction fuel with
 | zero =>
  intro listed a w hI hO
  obtain ⟨U,_,pN,rQ⟩:=hI.left
  have hU:U=[]:=List.length_eq_zero_iff.1 rQ
  refine mf 0 listed a w hI hO fun i hi=>Classical.byContradiction fun hn=>?_
  have:=(pN i).2 ⟨by have:=hc.le;omega,hn⟩
  rw [hU] at this;cases this
 | succ fuel ih =>
  intro listed a w hI hO
  by_cases dU:∀ i,i<m→Ls listed i
  ·exact mf _ listed a w hI hO dU
  ·have hex:∃ i,i<m∧¬ Ls listed i:=Classical.byContradiction fun hh=>dU fun i hi=>Classical.byContradiction fun hn=>hh ⟨i,hi,hn⟩
   obtain ⟨i0,rP,o7⟩:=hex
   refine ⟨fun hr=>?_,fun i hi=>?_⟩
   ·obtain ⟨i,hi⟩:=ja hI.sz hc.ac ⟨i0,by have:=hc.le;omega,o7⟩
    rw [hr] at hi;cases hi
   ·have oT:i<m:=Nat.lt_of_not_le fun hm=>o7 (pE hc hI.sz hI.dc hi hm i0 (by omega))
    obtain ⟨o,ho,hn,lB⟩:=(dA hI.sz).1 hi
    obtain ⟨tx,Ku,R,QH,fO,hs1,hs2⟩:=hp.at_ i o (dT i o oT ho)
    obtain ⟨d,R',hd,fw,qZ⟩:=qW.2.2 i o (dT i o oT ho)
    rw [QH] at qZ;cases qZ
    have lA:∀ (j:Nat),fk o j=true→Ls listed j:=fun j hw=>by
     obtain ⟨e,he,hb,pq⟩:=dq hw
     rw [← pq];exact lB e he hb
    have Bk:∀ (j t:Nat) (oj:Oper),j<i→(l.take m)[j]? = some oj→oj.dst=some t→t∈o.looksAt l.toArray→Ls listed j:=by
     intro j t oj hj iE iy ht
     obtain ⟨gX,lQ⟩:=fu j oj iE
     exact lA j ((di (ly hc hj oT lQ ho) iy hd).2 (.inl ht))
    have Ob:∀ tx:aI,(∀ t v,cF tx t=some v→(∃ (j:Nat) (oj:Oper),j<i∧(l.take m)[j]? = some oj∧oj.dst=some t∧(S.map Step.r)[j]? = some (.val v))∨((∀ (j:Nat) (oj:Oper),j<i→(l.take m)[j]? = some oj→oj.dst≠some t)∧cF sl t=some v)) →
      ∃ a':Act,bK tx a'∧∀ t∈o.looksAt l.toArray,a'.tmps[t]? = a.tmps[t]?:=by
     intro tx hs1
     have hT:∀ t∈o.looksAt l.toArray,∀ v,cF tx t=some v→a.tmps[t]? = some v:=by
      intro t ht v hv
      rcases hs1 t v hv with ⟨j,oj,hj,iE,iy,ju⟩ | ⟨uX,mu⟩
      ·obtain ⟨u,hu,nb⟩:=hI.new j oj (fu j oj iE).2 (Bk j t oj hj iE iy ht) t _ iy ju
       rw [hu,show u=v from nb]
      ·rw [hI.AP t fun j oj hj jr iy=>?_]
       ·exact h0 t v mu
       ·have gX:j<m:=Nat.lt_of_not_le fun hm=>hI.hi j hm jr
        rcases Nat.lt_trichotomy j i with h | h | h
        ·exact uX j oj h (dT j oj gX hj) iy
        ·subst h;exact hn jr
        ·have hw:=(di (ly hc h gX ho hj) hd iy).2 (.inr ht)
         obtain ⟨e,he,hb,pq⟩:=dq hw
         have:=hI.dc j oj hj jr e he hb
         rw [pq] at this
         exact hn this
     have u0:∀ t v,cF tx t=some v→t<c.nt:=by
      intro t v hv
      rcases hs1 t v hv with ⟨j,oj,_,iE,iy,_⟩ | ⟨_,mu⟩
      ·obtain ⟨d',_,vK,ze,_⟩:=qW.2.2 j oj iE
       rw [iy] at vK;cases vK
       exact ze
      ·have:=h0 t v mu
       rw [← Ih]
       exact (Array.getElem?_eq_some_iff.1 this).1
     obtain ⟨a',kF,iW,_⟩:=om hI.size u0 hT
     exact ⟨a',kF,iW⟩
    have pt:∀ (j:Nat) (oj:Oper) (e:Nat),l[j]? = some oj→j<m→j≠i→oj.dst=some e→d≠e:=by
     intro j oj e hj gX hne he
     rcases Nat.lt_or_ge j i with h | h
     ·exact fun e'=>(di (ly hc h oT hj ho) he hd).1 e'.symm
     ·exact (di (ly hc (show i<j by omega) gX ho hj) hd he).1
    have iP:i<listed.size:=by rw [hI.sz];have:=hc.le;omega
    have BY:mH o=true:=hc.op o (List.mem_of_getElem? ho)
    have gH:∀ v w',aG [] w w'→R.p v w'→F1 c D hs (l.take m) S (listed.setIfInBounds i true) (a.put o.dst v) w'→wpAnyIn (FR r) 0 P .any l.toArray Q fuel (listed.setIfInBounds i true) (a.put o.dst v) w':=fun v w' hk hv TL=>
     ih _ _ _ (A3 hc hc.le hI hi oT ho hd fw QH (fun j oj hj iE=>let ⟨e,_,he,_⟩:=qW.2.2 j oj (dT j oj hj iE);⟨e,he⟩) hk hv) TL
    unfold wpOpIn
    rw [show l.toArray[i]? = some o from by simpa using ho]
    simp only []
    have qZ:∃ st,S[i]? = some st∧st.r=R:=by
     rw [List.getElem?_map] at QH
     obtain ⟨st,h1,h2⟩:=Option.map_eq_some_iff.1 QH
     exact ⟨st,h1,h2⟩
    obtain ⟨st,qZ,a7⟩:=qZ
    have Ip:∀ j,j≠i→(listed.setIfInBounds i true).getD j false=listed.getD j false:=fun j hj=>by
     simp [Array.getD_eq_getD_getElem?,Array.getElem?_setIfInBounds_ne (Ne.symm hj)]
    cases st with
    | new V ob =>
     obtain ⟨YS,hgn,UI,VT⟩:=XY.Q9 i o V ob (dT i o oT ho) qZ
     obtain ⟨a',kF,iW⟩:=Ob YS VT
     have hex:=im (o:=o) (ops:=l.toArray) BY iW
     have ig:=UI.2 a' w kF hI.mem.kX
     rw [if_pos (by simp [Region.wanted,hgn])]
     refine ⟨dH _ _ _ _ _,?_⟩
     rw [Oper.semAt_eq _ _ _ (fun cc he=>by simp [mH,he] at BY),← hex,ig]
     refine gH _ _ (.alloc _ _ _) (by rw [← a7];exact ⟨w.heap.size,rfl,World.alloc_heap_new w ob⟩) ?_
     obtain ⟨β,hm,hb,rm⟩:=hO
     refine ⟨fun k=>if k=i then w.heap.size else β k,?_,?_,?_⟩
     ·refine Mem.perm (hm.alloc ob) ((zC (k:=i) (V:=V) qZ ?_ ?_ ?_ ?_).append_right _)
      ·rw [Nat.zero_add]
       show listed.getD i false=false
       have:¬ listed.getD i false=true:=hn
       simpa using this
      ·rw [Nat.zero_add];exact (cr iP).2 (.inl rfl)
      ·simp
      ·intro j hj
       rw [Nat.zero_add] at hj
       exact ⟨Ip j hj,by simp [hj]⟩
     ·intro j
      by_cases e:j=i
      ·subst e;left;simp;exact hI.mem.keeps.size
      ·rcases hb j with h | h | h
       ·left;simpa [e] using h
       ·right;left;intro h';exact h (((cr iP).1 h').resolve_left e)
       ·exact .inr (.inr h)
     ·intro j oj e V' PG hj iy ju jr
      by_cases ej:j=i
      ·subst ej
       rw [qZ] at ju;cases ju
       obtain ⟨gX,lQ⟩:=fu j oj hj
       rw [ho] at lQ;cases lQ
       rw [hd] at iy;cases iy
       rw [hd]
       simp [Act.put,hI.size,fw]
      ·obtain ⟨gX,lQ⟩:=fu j oj hj
       have zQ:=((cr iP).1 jr).resolve_left ej
       have:=rm j oj e V' PG hj iy ju zQ
       rw [hd]
       simp only [Act.put,Array.getElem?_setIfInBounds_ne (pt j oj e lQ gX ej iy),if_neg ej]
       exact this
    | rel R0 =>
     have TL:∀ v w',aG [] w w'→F1 c D hs (l.take m) S (listed.setIfInBounds i true) (a.put o.dst v) w':=by
      intro v w' hk
      obtain ⟨β,hm,hb,rm⟩:=hO
      refine ⟨β,?_,?_,?_⟩
      ·have e:ql β (fun j=>(listed.setIfInBounds i true).getD j false) S 0=ql β (fun j=>listed.getD j false) S 0:=oD fun j V ob hj=>by
        have:j≠i:=fun e=>by subst e;rw [qZ] at hj;cases hj
        rw [Nat.zero_add]
        exact ⟨Ip j this,fun _=>rfl⟩
       rw [e];exact hm.qP hk
      ·intro j
       by_cases e:j=i
       ·subst e;right;right;intro V ob h;rw [qZ] at h;cases h
       ·rcases hb j with h | h | h
        ·exact .inl h
        ·right;left;intro h';exact h (((cr iP).1 h').resolve_left e)
        ·exact .inr (.inr h)
      ·intro j oj e V' PG hj iy ju jr
       have ej:j≠i:=fun e=>by subst e;rw [qZ] at ju;cases ju
       obtain ⟨gX,lQ⟩:=fu j oj hj
       have zQ:=((cr iP).1 jr).resolve_left ej
       have:=rm j oj e V' PG hj iy ju zQ
       rw [hd]
       simp only [Act.put,Array.getElem?_setIfInBounds_ne (pt j oj e lQ gX ej iy)]
       exact this
     obtain ⟨a',kF,iW⟩:=Ob tx hs1
     have Qe:zH (o.looksAt l.toArray) Ku a' w:=by
      intro t Rt hm ht
      rcases hs2 t Rt hm with ⟨j,oj,hj,iE,iy,ju⟩ | au
      ·obtain ⟨v,hv,nb⟩:=hI.new j oj (fu j oj iE).2 (Bk j t oj hj iE iy ht) t _ iy ju
       exact ⟨v,by rw [iW t ht];exact hv,nb⟩
      ·cases au
     have hq:=fO a' w kF Qe hI.mem.kX
     have hex:=im (o:=o) (ops:=l.toArray) BY iW
     rw [gM iW] at hq
     split
     ·rename_i hw
      rw [if_pos hw] at hq
      refine ⟨dH _ _ _ _ _,?_⟩
      rw [Oper.semAt_eq _ _ _ (fun cc he=>by simp [mH,he] at BY),← hex]
      unfold wx at hq
      revert hq
      generalize (execOp a'.eval o).run P w=res
      intro hq
      match res,hq with
      | .ok (.value v) w',⟨hk,hv⟩=>exact gH v w' hk hv (TL v w' hk)
      | .ok (.enter f args) w', ⟨e, cn⟩ =>
       subst e
       refine ⟨by simp [FR,Fence.wide],(gV cn).mono fun e vQ h=>?_⟩
       obtain ⟨v,rfl,hk,hv⟩:=h
       exact gH v vQ hk hv (TL v vQ hk)
     ·rename_i hw
      rw [if_neg hw] at hq
      exact ⟨fun _ _=>trivial,gH undef w (.refl _ _) hq (TL undef w (.refl _ _))⟩
theorem vw {β:Nat→Nat} {lst:Nat→Bool} (h:∀ i,lst i=false):∀ {S:List Step} {i:Nat},ql β lst S i=[]
 | [],_=>rfl
 | .rel _::S,i=>by unfold ql;exact vw h
 | .new _ _::S,i=>by unfold ql;rw [if_neg (by simp [h]),vw h]
theorem vS {id:Nat} (pM:P.follows .mixedOrders=true) (iQ:xg l m=true) (hp:mn P c hs l.toArray (l.take m) sl [] S jc ke)
  (tail:∀ listed a w,(∀ i,i<m→Ls listed i)→St c D jc hs a w→F1 c D hs (l.take m) S listed a w→WL P r l.toArray Q (l.drop m) a w):Tr c D sl hs (WP P r (.region id l.toArray true) Q):=fun a w a7=>by
 unfold WP
 refine wpIn_region_any pM ?_
 refine LH (uB iQ) hp a7.cM a7.size tail l.toArray.size _ a _ ⟨by simp,?_,?_,?_,a7.defers,a7.size,fun t _=>rfl,?_,List.range l.length,List.nodup_range,?_,by simp⟩ ?_
 ·exact fun k o _ hL=>absurd hL (eL _ _)
 ·exact fun k _ hL=>eL _ _ hL
 ·exact a7.mem.drew
 ·exact fun j o _ hL=>absurd hL (eL _ _)
 ·exact fun i=>⟨fun h=>⟨by simpa using h,eL _ _⟩,fun h=>by simpa using h.1⟩
 ·refine ⟨fun _=>c.w0.heap.size,?_,fun i=>.inl (Nat.le_refl _),fun i o d V ob _ _ _ hL=>absurd hL (eL _ _)⟩
  rw [vw fun i=>by have:=eL l.toArray.size i;unfold Ls at this;simpa using this]
  exact a7.mem.drew
def Kt (β:Nat→Nat):List Oper→List Step→Nat→aI
 | o::l,.new V _::S,i=>(o.dst.getD 0,V (β i))::Kt β l S (i+1)
 | _::l,.rel _::S,i=>Kt β l S (i+1)
 | _,_,_=>[]
theorem yq {β:Nat→Nat}:∀ {l:List Oper} {S:List Step} {i:Nat} {p:Nat×Value},p∈Kt β l S i→∃ (j:Nat) (o:Oper) (V:Nat→Value) (ob:Obj),l[j]? = some o∧S[j]? = some (.new V ob)∧p=(o.dst.getD 0,V (β (i+j)))
 | [],_,_,_,h=>by cases h
 | _::_,[],_,_,h=>by cases h
 | o :: l, .new V ob :: S, i, p, h => by
  unfold Kt at h
  rcases List.mem_cons.1 h with h | h
  ·exact ⟨0,o,V,ob,rfl,rfl,h⟩
  ·obtain ⟨j,o',V',PG,h1,h2,h3⟩:=yq h
   exact ⟨j+1,o',V',PG,by simpa using h1,by simpa using h2,by rw [h3,show i+1+j=i+(j+1) from by omega]⟩
 | o :: l, .rel R :: S, i, p, h => by
  unfold Kt at h
  obtain ⟨j,o',V',PG,h1,h2,h3⟩:=yq h
  exact ⟨j+1,o',V',PG,by simpa using h1,by simpa using h2,by rw [h3,show i+1+j=i+(j+1) from by omega]⟩
theorem um {L s:aI} {a:Act} (h:∀ p∈L,a.tmps[p.1]? = some p.2) (hs:bK s a):bK (L++s) a:=by
 induction L with
 | nil=>exact hs
 | cons p L ih =>
  intro t v hv
  obtain ⟨d,u⟩:=p
  by_cases e:d=t
  ·subst e
   rw [Zb,fA] at hv
   cases hv
   exact h (d,v) (by simp)
  ·rw [Zb,fy e] at hv
   exact ih (fun p hp=>h p (by simp [hp])) t v hv
def zs (nl:List (Nat×(Nat→Value)×Obj)) (bs:List Nat):aI:=(nl.zip bs).map fun x=>(x.1.1,x.1.2.1 x.2)
def zb (nl:List (Nat×(Nat→Value)×Obj)) (bs:List Nat):List a8:=(nl.zip bs).map fun x=>bA x.2 x.1.2.2
def rj (P:Program) (r:Option Nat) (c:Cx) (D:List Nat) (hs:List a8) (ops:Array Oper) (Q:Exit→Act→World→Prop) (nl:List (Nat×(Nat→Value)×Obj)) (m:Nat) (l:List Oper) (sl:aI) (rl:eE):Prop:=
 ∃ S jc ke, mn P c hs ops (l.take m) sl rl S jc ke ∧ ∀ (bs : List Nat) (β : Nat → Nat) (i0 : Nat), bs.length = nl.length → (∀ b ∈ bs, c.w0.heap.size ≤ b) → (∀ i V ob, S[i]? = some (.new V ob) → c.w0.heap.size ≤ β (i0 + i)) →
  Tr c D (zs nl bs++Kt β (l.take m) S i0++jc) (zb nl bs++ql β (fun _=>true) S i0++hs) (WL P r ops Q (l.drop m))
theorem cC {id:Nat} {l:List Oper} (m:Nat) [pM:Rh P] (iQ:xg l m=true) (k:rj P r c D hs l.toArray Q [] m l sl []):Tr c D sl hs (WP P r (.region id l.toArray true) Q):=by
 obtain ⟨S,jc,ke,hp,ht⟩:=k
 have qW:=hp.Sm.end_
 have hlen:∀ i V ob,S[i]? = some (.new V ob)→i<m:=by
  intro i V ob h
  have h1:=(List.getElem?_eq_some_iff.1 h).1
  have VG:∀ {l0:Array Oper} {l:List Oper} {sl jc:aI} {rl ke:eE} {S:List Step},mn P c hs l0 l sl rl S jc ke→S.length=l.length:=by
   intro l0 l sl jc rl ke S h
   induction h with
   | nil=>rfl
   | val _ _ _ _ ih=>simp [ih]
   | new _ _ _ _ _ _ ih=>simp [ih]
  rw [VG hp,List.length_take] at h1
  omega
 refine vS pM.eq iQ hp fun listed a w dU a7 hO=>?_
 obtain ⟨β,hm,hb,rm⟩:=hO
 have Iz:∀ i V ob,S[i]? = some (.new V ob)→Ls listed i:=fun i V ob h=>dU i (hlen i V ob h)
 have zP:∀ i V ob,S[i]? = some (.new V ob)→c.w0.heap.size≤β (0+i):=fun i V ob h=>by
  rw [Nat.zero_add]
  rcases hb i with h1 | h1 | h1
  ·exact h1
  ·exact absurd (Iz i V ob h) h1
  ·exact absurd h (h1 V ob)
 refine ht [] β 0 rfl (fun b hb=>by cases hb) zP a w ⟨?_,?_,a7.size,a7.defers⟩
 ·have e:ql β (fun i=>listed.getD i false) S 0=ql β (fun _=>true) S 0:=oD fun j V ob hj=>by
   rw [Nat.zero_add]
   exact ⟨Iz j V ob hj,fun _=>rfl⟩
  rw [e] at hm
  simpa [zb,Zh] using hm
 ·refine um (L:=zs [] []++Kt β (List.take m l) S 0) (fun p nb=>?_) a7.cM
  obtain ⟨j,o,V,ob,h1,h2,rfl⟩:=yq (by simpa [zs] using nb)
  obtain ⟨d,R,hd,fw,_⟩:=qW.2.2 j o h1
  rw [hd,Nat.zero_add]
  exact rm j o d V ob h1 hd h2 (Iz j V ob h2)
section
variable {nl:List (Nat×(Nat→Value)×Obj)} {d:Nat} {op:Op} {ty:TypeId} {pos:String} {af:Array Edge} {rest:List Oper}
theorem df {V:Nat→Value} {ob:Obj} {l:List Oper} (hn:nl=[(d,V,ob)]) (k:∀ b,c.w0.heap.size≤b→Tr c D ((d,V b)::sl) (bA b ob::hs) (WL P r ops Q l)):rj P r c D hs ops Q nl 0 l sl rl:=
 ⟨[],sl,rl,.nil,fun bs β i0 hl hb _=>by
  subst hn
  match bs,hl with
  | [b],_=>simpa [zs,zb,Kt,ql] using k b (hb b (by simp))⟩
theorem vu {o:Oper} {V:Value} (ho:o.dst=some d) (hd:Nat.blt d c.nt=true) (h:sQ P c hs ops sl rl o (.val V)) (k:rj P r c D hs ops Q nl m rest ((d,V)::sl) rl):rj P r c D hs ops Q nl (m+1) (o::rest) sl rl:=by
 obtain ⟨S,jc,ke,hp,ht⟩:=k
 refine ⟨_,_,_,.val ho (by simpa [Nat.blt_eq] using hd) h hp,fun bs β i0 h1 h2 h3=>?_⟩
 have:=ht bs β (i0+1) h1 h2 fun i V ob hi=>by have:=h3 (i+1) V ob (by simpa using hi);rwa [show i0+(i+1)=i0+1+i from by omega] at this
 simpa [Kt,ql] using this
theorem dX {V:Nat→Value} {ob:Obj} (hr:qg P c sl hs ⟨some d,op,ty,pos,af,none⟩ V ob) (hd:Nat.blt d c.nt=true) (hn:cF sl d=none) (k:rj P r c D hs ops Q (nl++[(d,V,ob)]) m rest sl ((d,Cs V ob)::rl)) :
  rj P r c D hs ops Q nl (m+1) (⟨some d,op,ty,pos,af,none⟩::rest) sl rl:=by
 obtain ⟨S,jc,ke,hp,ht⟩:=k
 refine ⟨_,_,_,.new rfl (by simpa [Nat.blt_eq] using hd) hn rfl hr hp,fun bs β i0 h1 h2 h3=>?_⟩
 have hb0:=h3 0 V ob rfl
 rw [Nat.add_zero] at hb0
 have:=ht (bs++[β i0]) β (i0+1) (by simp [h1]) (fun b hb=>by
  rcases List.mem_append.1 hb with h | h
  ·exact h2 b h
  ·rw [List.mem_singleton.1 h];exact hb0) fun i V ob hi=>by have:=h3 (i+1) V ob (by simpa using hi);rwa [show i0+(i+1)=i0+1+i from by omega] at this
 simpa [Kt,ql,zs,zb,List.zip_append h1.symm,Zh] using this
theorem ak {V:Value} (hr:cL P c sl hs ⟨some d,op,ty,pos,af,none⟩ V) (hd:Nat.blt d c.nt=true) (k:rj P r c D hs ops Q nl m rest ((d,V)::sl) rl) :
  rj P r c D hs ops Q nl (m+1) (⟨some d,op,ty,pos,af,none⟩::rest) sl rl:=
 vu rfl hd (nF rfl fun _ _ h1 _ h3=>qF hr h1 h3) k
theorem aT {f:FuncId} {args:List Value} {V:Value} (hr:ln P sl ⟨some d,op,ty,pos,af,none⟩ f args) (hd:Nat.blt d c.nt=true) (hc:∀ w,Mem c hs w→aj P f args w V) (k:rj P r c D hs ops Q nl m rest ((d,V)::sl) rl) :
  rj P r c D hs ops Q nl (m+1) (⟨some d,op,ty,pos,af,none⟩::rest) sl rl:=
 vu rfl hd (nF rfl fun _ w h1 _ h3=>rF hr h1 (hc w h3)) k
theorem Uo {V:Value} {p p':Prop} {j gs:Nat} {want c0 q:Bool} (hj:((ops[j]?).bind (·.dst))=some gs) (hq:cF sl gs=some (gv c0 (.bool q))) (hb:BP (c0&&(q==want)) p p')
  (hr:(c0&&(q==want))=true→p→cL P c sl hs ⟨some d,op,ty,pos,af,some (j,want)⟩ V) (hd:Nat.blt d c.nt=true) (k:rj P r c D hs ops Q nl m rest ((d,gv (c0&&(q==want)) V)::sl) rl) :
  rj P r c D hs ops Q nl (m+1) (⟨some d,op,ty,pos,af,some (j,want)⟩::rest) sl rl:=
 vu rfl hd (nG rfl hj hq fun hc _ _ h1 h3=>qF (hr hc (hb.t hc)) h1 h3) k
theorem gW {V:Value} {p p':Prop} {j gs:Nat} {want q:Bool} (hj:((ops[j]?).bind (·.dst))=some gs) (hq:cF sl gs=some (.bool q)) (hb:BP (q==want) p p')
  (hr:(q==want)=true→p→cL P c sl hs ⟨some d,op,ty,pos,af,some (j,want)⟩ V) (hd:Nat.blt d c.nt=true) (k:rj P r c D hs ops Q nl m rest ((d,gv (q==want) V)::sl) rl) :
  rj P r c D hs ops Q nl (m+1) (⟨some d,op,ty,pos,af,some (j,want)⟩::rest) sl rl:=
 Uo (c0:=true) (p:=p) (p':=p') hj (by rw [hq];rfl) (by simpa using hb) (by simpa using hr) hd (by simpa using k)
end
end
end Go.SL
namespace Go.SL
open Go
theorem mR {w:World} {b sz:Nat}:∀ {xs:List (List Value)} {o:Nat},(∀ i r,xs[i]? = some r→r.length=sz∧∀ j u,r[j]? = some u→w.cell? ⟨b,o+i*sz+j,none⟩=some u)→∀ (k:Nat) u,xs.flatten[k]? = some u→w.cell? ⟨b,o+k,none⟩=some u
 | [],o,_,k,u,hu=>by simp at hu
 | x :: xs, o, h, k, u, hu => by
  obtain ⟨hl,h0⟩:=h 0 x rfl
  rw [List.flatten_cons,List.getElem?_append] at hu
  split at hu
  ·have:=h0 k u hu
   rwa [Nat.zero_mul,Nat.add_zero] at this
  ·rename_i hk
   have ih:=mR (xs:=xs) (o:=o+sz) (fun i r hr=>⟨(h (i+1) r (by simpa using hr)).1,fun j v hv=>by
    have:=(h (i+1) r (by simpa using hr)).2 j v hv
    rwa [Nat.succ_mul,show o+(i*sz+sz)+j=o+sz+i*sz+j by omega] at this⟩) (k-x.length) u hu
   rwa [hl,show o+sz+(k-sz)=o+k by omega] at ih
theorem fQ {sz:Nat}:∀ {xs:List (List Value)},(∀ r∈xs,r.length=sz)→xs.flatten.length=xs.length*sz
 | [],_=>by simp
 | x :: xs, h => by
  rw [List.flatten_cons,Zg,fQ (fun r hr=>h r (by simp [hr])),h x (by simp),List.length_cons,Nat.succ_mul,Nat.add_comm]
theorem Rd.sz {w:World} {v:Value} {sz:Nat} {xs:List (List Value)} (h:Rd w v sz xs):∀ r∈xs,r.length=sz:=by
 obtain ⟨a,cap,b,o,rfl,h1,h2,h3,h4⟩:=h
 intro r hr
 obtain ⟨i,hi,rfl⟩:=List.getElem_of_mem hr
 exact (h4 i _ (Zc hi)).1
section
variable {P:Program} {r:Option Nat} {c:Cx} {D:List Nat} {sl:aI} {hs hs':List a8} {ops:Array Oper} {Q:Exit→Act→World→Prop} {d:Nat} {ty:TypeId} {pos:String} {af:Array Edge} {rest:List Oper}
theorem Lg {V:Value} {sz:Nat} {xs:List (List Value)} {b o cap:Nat} (hsrc:∀ w,Mem c hs w→Rd w V sz xs) (hne:xs≠[]) (hV:V=.slice (some ⟨b,o,none⟩) xs.length cap):eF c hs b o xs.flatten:=by
 refine eF.uG fun j u hu w hm=>?_
 obtain ⟨a',gL,b',o',e',_,_,cE,UX⟩:=hsrc w hm
 rw [hV] at e'
 simp only [Value.slice.injEq] at e'
 obtain ⟨e1,_,_⟩:=e'
 have:=cE hne
 rw [← e1] at this
 simp only [Option.some.injEq,Addr.mk.injEq,and_true] at this
 obtain ⟨rfl,rfl⟩:=this
 exact mR UX j u hu
theorem Aq {t e:TypeId} {w:World} {v:Value} {agg:Bool} {size:Nat} [hu:iH P t (.slice e)] [hT:Ty P e agg size] {a:Option Addr} {cp n:Nat} (hv:(v=.slice none 0 0∧n=0)∨∃ g cap,v=.slice (some ⟨g,0,none⟩) n cap∧n≤cap) :
  (Builtin.append_ #[t,t] ty #[v,.slice a 0 cp]).run P w=.ok v w:=by
 obtain ⟨de,i,lT,hi,_,ix⟩:=Ty.parts (P:=P) (t:=e) (agg:=agg) (n:=size)
 rcases hv with ⟨rfl,rfl⟩ | ⟨g,cap,rfl,hc⟩
 ·cases a <;> simp [Builtin.append_,aV hu.eq,sizeOf,typeInfo,hi,Builtin.lenOf,Builtin.firstCells,loadCells,loadCellsFrom]
 ·cases a <;> simp [Builtin.append_,aV hu.eq,sizeOf,typeInfo,hi,Builtin.lenOf,Builtin.firstCells,loadCells,loadCellsFrom,hc,storeCells]
theorem fX {t e:TypeId} {agg:Bool} {size bytes:Nat} {z:Value} {x y:Operand} {v V:Value} {n:Nat} {xs:List Value} {news:List (List Value)} [hu:iH P t (.slice e)] [hT:Ty P e agg size] [hZ:lG P e z] [hB:vO P e bytes]
  (hx:Is sl x v) (hy:Is sl y V) (ht:Take hs (row e size v n xs) hs') (hsrc:∀ w,Mem c hs w→Rd w V size news) (h1:∀ r∈news,∀ u∈r,u.oneCell'=true) (hz:z.cells.size=size) (hsz:Nat.blt 0 size=true) (hb0:Nat.blt 0 bytes=true)
  (hb:(n+news.length)*bytes≤140737488355328) (hd:Nat.blt d c.nt=true)
  (k:∀ v',Tr c D ((d,v')::sl) (row e size v' (n+news.length) (xs++news.flatten)::hs') (WL P r ops Q rest)) :
  Tr c D sl hs (WL P r ops Q (⟨some d,.call ⟨.builtin .append,#[x,y],#[t,t]⟩,ty,pos,af,none⟩::rest)):=fun a w a7=>by
 have hR:=hsrc w a7.qL
 have hlen:=fQ hR.sz
 by_cases hne:news=[]
 ·subst hne
  obtain ⟨aa,cap,b,o,rfl,_⟩:=hR
  have hm:=a7.mem.take (ht.append _)
  have hrow:(v=.slice none 0 0∧n=0)∨∃ g cap,v=.slice (some ⟨g,0,none⟩) n cap∧n≤cap:=by
   obtain ⟨_,fp,_,⟨f1,f2,_,⟨_,_,h1⟩,_⟩,_⟩:=hm
   exact h1.imp id fun ⟨g,cap,cur,e,_,hc,_⟩=>⟨g,cap,e,hc⟩
  refine lU rfl ⟨dH _ _ _ _ _,?_⟩
  rw [Oper.semAt_eq _ _ _ (by simp)]
  have:(execOp a.eval ⟨some d,.call ⟨.builtin .append,#[x,y],#[t,t]⟩,ty,pos,af,none⟩).run P w=.ok (.value v) w:=by
   have:=Aq (P:=P) (t:=t) (e:=e) (ty:=ty) (w:=w) (agg:=agg) (size:=size) (a:=aa) (cp:=cap) hrow
   simp only [List.length_nil] at hy
   simp [execOp,resolve,invoke,builtin,hx a a7.cM,hy a a7.cM,this]
  rw [this]
  have k2:=k v
  simp only [List.length_nil,Nat.add_zero,List.flatten_nil,List.append_nil] at k2
  exact k2 _ _ ((a7.put (by simpa [Nat.blt_eq] using hd) v).heap hm)
 ·obtain ⟨aa,cap,b,o,hV,db,bT,ha,hc⟩:=hR
  have:=ha hne
  subst this
  rw [hV] at hy
  exact wN hx hy ht (Lg hsrc hne hV) hlen (fun u hu=>by obtain ⟨r,hr,SH⟩:=List.mem_flatten.1 hu;exact h1 r hr u SH) hz hsz hb0 hb hd k a w a7
theorem GC {t t2 e:TypeId} {agg:Bool} {size:Nat} {x y:Operand} {V:Value} {g n cap:Nat} {E:TypeId} {cs:List Value} {news:List (List Value)} [hu:iH P t (.slice e)] [hT:Ty P e agg size]
  (hx:Is sl x (.slice (some ⟨g,0,none⟩) n cap)) (hy:Is sl y V) (ht:Take hs (bA g (.cells cs.toArray E (0,0))) hs') (hsrc:∀ w,Mem c hs w→Rd w V size news) (h1:∀ r∈news,∀ u∈r,u.oneCell'=true) (hfit:n*size≤cs.length) (hd:Nat.blt d c.nt=true)
  (k:Tr c D ((d,.int .i64 (Nat.min news.length n:Nat))::sl) (bA g (.cells (setCells cs 0 (news.take n).flatten).toArray E (0,0))::hs') (WL P r ops Q rest)) :
  Tr c D sl hs (WL P r ops Q (⟨some d,.call ⟨.builtin .copy,#[x,y],#[t,t2]⟩,ty,pos,af,none⟩::rest)):=fun a w a7=>by
 have hR:=hsrc w a7.qL
 obtain ⟨de,i,lT,hi,_,ix⟩:=Ty.parts (P:=P) (t:=e) (agg:=agg) (n:=size)
 have hlen:(news.take n).flatten.length=Nat.min news.length n*size:=by
  rw [fQ (fun r hr=>hR.sz r (List.mem_of_mem_take hr)),List.length_take]
  show min n news.length*size=min news.length n*size
  rw [Nat.min_comm]
 have hle:Nat.min news.length n≤n:=Nat.min_le_right _ _
 have hm:=a7.mem.take (ht.append _)
 have hg:w.heap[g]? = some (.cells cs.toArray E (0,0)):=hm.bA .here
 obtain ⟨w',h3,h4,h5⟩:=iJ (P:=P) (o:=0) (news.take n).flatten 0 cs w hg (fun u hu=>by
  obtain ⟨r,hr,SH⟩:=List.mem_flatten.1 hu
  exact h1 r (List.mem_of_mem_take hr) u SH) (by
  rw [hlen]
  have:Nat.min news.length n*size≤n*size:=Nat.mul_le_mul_right _ hle
  omega)
 have Tg:(Builtin.firstCells size (Nat.min news.length n) V).run P w=.ok (news.take n).flatten.toArray w:=by
  obtain ⟨aa,cU,b,o,hV,jt,bT,ha,hc⟩:=hR
  subst hV
  by_cases hne:news=[]
  ·subst hne
   cases aa <;> simp [Builtin.firstCells,loadCells,loadCellsFrom]
  ·have:=ha hne
   subst this
   simp only [Builtin.firstCells]
   refine qz hlen fun j u hu=>?_
   refine mR (sz:=size) (xs:=news.take n) (fun i r hr=>?_) j u hu
   rw [List.getElem?_take] at hr
   split at hr
   ·exact hc i r hr
   ·cases hr
 have Th:(Builtin.lenOf V).run P w=.ok news.length w:=by
  obtain ⟨aa,cU,b,o,hV,_⟩:=hR
  subst hV
  rfl
 refine lU rfl ⟨dH _ _ _ _ _,?_⟩
 rw [Oper.semAt_eq _ _ _ (by simp)]
 have:(execOp a.eval ⟨some d,.call ⟨.builtin .copy,#[x,y],#[t,t2]⟩,ty,pos,af,none⟩).run P w=.ok (.value (.int .i64 (Nat.min news.length n:Nat))) w':=by
  simp [execOp,resolve,invoke,builtin,hx a a7.cM,hy a a7.cM,Builtin.copy_,aV hu.eq,Th,sizeOf,typeInfo,hi,ix,Tg,h3,goInt]
 rw [this]
 have lP:=Mem.store hm h4 h5
 rw [show (0+0:Nat)=0 from rfl] at lP
 exact k _ _ ((a7.put (by simpa [Nat.blt_eq] using hd) _).heap lP)
theorem Cd {t tn e:TypeId} {kn:IntKind} {agg:Bool} {size bytes m:Nat} {z:Value} {x y:Operand} [hu:iH P t (.slice e)] [P3:iH P tn (.int kn)] [hT:Ty P e agg size] [hZ:lG P e z] [hB:vO P e bytes]
  (hx:Is sl x (.slice none 0 0)) (hy:Is sl y (.int .i64 m)) (h0:0<m) (hz:z.cells.size=size) (hsz:Nat.blt 0 size=true) (hb0:Nat.blt 0 bytes=true) (hb:m*bytes≤140737488355328) (hd:Nat.blt d c.nt=true)
  (k:∀ v',Tr c D ((d,v')::sl) (row e size v' m (Builtin.zeroCells z.cells m).toList::hs) (WL P r ops Q rest)) :
  Tr c D sl hs (WL P r ops Q (⟨some d,.call ⟨.builtin .append,#[x,y],#[t,tn]⟩,ty,pos,af,none⟩::rest)):=fun a w a7=>by
 obtain ⟨de,i,lT,hi,_,ix⟩:=Ty.parts (P:=P) (t:=e) (agg:=agg) (n:=size)
 have hzero:i.zero=some z:=by have:=hZ.eq;rw [hi] at this;simpa using this
 have gC:i.bytes=bytes:=by have:=hB.eq;rw [hi] at this;simpa using this
 have hs0:0<size:=by simpa [Nat.blt_eq] using hsz
 have Xb:0<bytes:=by simpa [Nat.blt_eq] using hb0
 have aS:m*1≤m*bytes:=Nat.mul_le_mul_left _ Xb
 have ig:=Lib.run_append_grow_zeros (P:=P) w t tn ty e i z .i64 kn hu.eq P3.eq hi hzero none 0 0 [] (by simp [Builtin.firstCells]) m h0 (by omega) (by omega) (by omega) (by rw [gC];omega) (growslice_fits (by omega) (by rw [gC];simpa using hb))
 simp only [Nat.zero_add] at ig
 have Iq:=grownCap_ge w m 0 e
 have hle:=grownCap_le_maxLen w m 0 e (by unfold maxLen;omega)
 refine lU rfl ⟨dH _ _ _ _ _,?_⟩
 rw [Oper.semAt_eq _ _ _ (by simp)]
 generalize grownCap w m 0 e=G at ig Iq hle
 have:(execOp a.eval ⟨some d,.call ⟨.builtin .append,#[x,y],#[t,tn]⟩,ty,pos,af,none⟩).run P w=.ok (.value (.slice (some ⟨w.heap.size,0,none⟩) m G)) (w.drew.alloc (.cells (#[]++Builtin.zeroCells z.cells m++Builtin.zeroCells z.cells (G-m)) e)):=by
  simp [execOp,resolve,invoke,builtin,hx a a7.cM,hy a a7.cM,ig]
 rw [this]
 have CT:∀ q,(Builtin.zeroCells z.cells q).size=q*size:=fun q=>by rw [size_zeroCells,hz]
 have lP:=(a7.mem.drew.alloc (.cells (#[]++Builtin.zeroCells z.cells m++Builtin.zeroCells z.cells (G-m)) e (0,0)))
 refine k _ _ _ ((a7.put (by simpa [Nat.blt_eq] using hd) _).heap ?_)
 obtain ⟨kk,fp,hn,⟨f1,f2,rfl,⟨e1,h1⟩,h2⟩,CW⟩:=lP
 refine ⟨kk,f1++f2,hn,⟨f1,f2,rfl,⟨by rw [e1];rfl,by simp [CT],.inr ⟨w.heap.size,G,_,rfl,h1,Iq,hle,?_,?_⟩⟩,h2⟩,CW⟩
 ·simp only [Array.size_append,CT]
  simp only [Array.size_empty,Nat.zero_add,← Nat.add_mul]
  congr 1;omega
 ·simp only [Array.toList_append,Array.toList_empty,Za]
  rw [List.take_left' (by rw [Array.length_toList,CT])]
theorem kg {dst:Option Tmp} {g:Option (Nat×Bool)} {t e:TypeId} {agg:Bool} {size:Nat} [hu:iH P t (.slice e)] [hT:Ty P e agg size] :
  qg P c sl hs ⟨dst,.buildSlice t 0 #[],ty,pos,af,g⟩ (fun b=>.slice (some ⟨b,0,none⟩) 0 0) (.cells #[] e):=
 lM (ps:=#[]) (fun a _=>by simp) fun w=>by
  unfold Instr.buildSlice
  simp only [Sem.run_bind,aV hu.eq,Result.andThen_ok,fL (t:=e) (agg:=agg) (n:=size),Nat.zero_mul]
  simp [Instr.fill,newRow,show Array.range 0=#[] from rfl]
theorem qB {dst:Option Tmp} {g:Option (Nat×Bool)} {t e:TypeId} {x:Operand} {a:Option Addr} {n cp:Nat} [hu:iH P t (.slice e)] (hx:Is sl x (.slice a n cp)) :
  cL P c sl hs ⟨dst,.call ⟨.builtin .cap,#[x],#[t]⟩,ty,pos,af,g⟩ (.int .i64 cp):=
 ⟨by simp,fun ac w ha _=>by simp [execOp,hx ac ha,resolve,invoke,builtin,Builtin.cap_,aV hu.eq,goInt]⟩
theorem Aj (g cap sz:Nat):Go.sliced (some ⟨g,0,none⟩) 0 0 cap sz=.slice (some ⟨g,0,none⟩) 0 cap:=by
 unfold Go.sliced
 by_cases h:cap=0
 ·rw [if_pos h];simp
 ·rw [if_neg h];simp [eD]
theorem yt:∀ (vs cs:List Value),vs.length≤cs.length→setCells cs 0 vs=vs++cs.drop vs.length:=by
 intro vs cs h
 apply List.ext_getElem?
 intro k
 rw [hG _ _ _ _ (by omega),List.getElem?_append]
 by_cases hk:k<vs.length
 ·rw [if_pos (by omega),if_pos hk,Nat.sub_zero]
 ·rw [if_neg (by omega),if_neg hk,List.getElem?_drop]
  congr 1;omega
end
end Go.SL
namespace Go.SL
open Go
theorem bc {α:Type} {b:Bool} {o:Option α} {v:α} (h:(bif b then o else none)=some v):b=true∧o=some v:=by cases b <;> simp_all
theorem bp {α β:Type} {o:Option α} {q:Option β} {v:α} {u:β} (h:(o.bind fun a=>q.map fun b=>(a,b))=some (v,u)):o=some v∧q=some u:=by
 cases o <;> cases q <;> simp_all
section
variable {P:Program} {r:Option Nat} {c:Cx} {D:List Nat} {sl:aI} {rl:eE} {hs hs':List a8} {Q:Exit→Act→World→Prop} {ops:Array Oper} {m d:Nat} {op:Op} {ty:TypeId} {pos:String} {af:Array Edge} {rest:List Oper} {dst:Option Tmp} {g:Option (Nat×Bool)}
theorem Jq {P:Program} {r:Option Nat} {c:Cx} {D:List Nat} {sl:aI} {hs:List a8} {x y:Code} {Q:Exit→Act→World→Prop}
  (h:Tr c D sl hs (WP P r x (Exit.then (WP P r y Q) Q))):Tr c D sl hs (WP P r (.seq x y) Q):=Ca h
theorem Jt {c:Cx} {D:List Nat} {sl:aI} {hs:List a8} {N:Act→World→Prop} {Q:Exit→Act→World→Prop}
  (h:Tr c D sl hs N):Tr c D sl hs (Exit.then N Q .normal):=KZ h
theorem J0 {P:Program} {r:Option Nat} {c:Cx} {D:List Nat} {sl:aI} {hs:List a8} {id:Nat} {x:Code} {Q:Exit→Act→World→Prop}
  (h:Tr c D sl hs (WP P r x (Exit.inBlock id Q))):Tr c D sl hs (WP P r (.block id x) Q):=GF h
theorem Je {P:Program} {r:Option Nat} {c:Cx} {D:List Nat} {sl:aI} {hs:List a8} {Q:Exit→Act→World→Prop}
  (h:Tr c D sl hs (Q .ret)):Tr c D sl hs (WP P r .ret Q):=Gx h
theorem Jg {P:Program} {r:Option Nat} {c:Cx} {D:List Nat} {sl:aI} {hs:List a8} {id:Nat} {l:List Oper} {Q:Exit→Act→World→Prop}
  (h:Tr c D sl hs (WL P r l.toArray Q l)):Tr c D sl hs (WP P r (.region id l.toArray false) Q):=rq h
theorem Jh {c:Cx} {D:List Nat} {sl:aI} {hs:List a8} {N:Act→World→Prop} {Q:Exit→Act→World→Prop}
  (h:Tr c D sl hs (Q .ret)):Tr c D sl hs (Exit.then N Q .ret):=zX h
theorem Ji {id:Nat} {l:List Oper} {y:Code} {Q':Exit→Act→World→Prop} (h:Tr c D sl hs (WL P r l.toArray (Exit.then (WP P r y Q) Q) l)):Tr c D sl hs (WL P r ops (Exit.then (WP P r (.seq (.region id l.toArray false) y) Q) Q') []):=ZW h
theorem Jj {c:Cx} {D:List Nat} {sl:aI} {hs:List a8} {id:Nat} {Q:Exit→Act→World→Prop}
  (h:Tr c D sl hs (Q .normal)):Tr c D sl hs (Exit.inBlock id Q .normal):=pf h
theorem Jk {N:Act→World→Prop} (h:Tr c D sl hs N):Tr c D sl hs (WP P r .skip (Exit.then N Q)):=YT h
theorem Jl {c:Cx} {D:List Nat} {sl:aI} {hs:List a8} {N:Act→World→Prop} {Q:Exit→Act→World→Prop} {id:Nat}
  (h:Tr c D sl hs (Q (.exit id))):Tr c D sl hs (Exit.then N Q (.exit id)):=yj h
theorem Jm {c:Cx} {D:List Nat} {sl:aI} {hs:List a8} {id:Nat} {Q:Exit→Act→World→Prop}
  (h:Tr c D sl hs (Q .ret)):Tr c D sl hs (Exit.inBlock id Q .ret):=Cc h
theorem Jo {c:Cx} {D:List Nat} {sl:aI} {hs:List a8} {id:Nat} {Q:Exit→Act→World→Prop}
  (h:Tr c D sl hs (Q .normal)):Tr c D sl hs (Exit.inBlock id Q (.exit id)):=Ab h
theorem Jp {N:Act→World→Prop} {id:Nat} (h:Tr c D sl hs (Q (.exit id))):Tr c D sl hs (WP P r (.exit id) (Exit.then N Q)):=YQ h
theorem Jn {N:Act→World→Prop} (h:Tr c D sl hs N):Tr c D sl hs (WL P r ops (Exit.then N Q) []):=ZV h
theorem Jr {id:Nat} {l:List Oper} {y:Code} (h:Tr c D sl hs (WL P r l.toArray (Exit.then (WP P r y Q) Q) l)):Tr c D sl hs (WP P r (.seq (.region id l.toArray false) y) Q):=YU h
theorem Ju {N:Act→World→Prop} (h:Tr c D sl hs (Q .ret)):Tr c D sl hs (WP P r .ret (Exit.then N Q)):=Zr h
theorem Jw {P:Program} {r:Option Nat} {c:Cx} {D:List Nat} {sl:aI} {hs:List a8} {Q:Exit→Act→World→Prop}
  (h:Tr c D sl hs (Q .normal)):Tr c D sl hs (WP P r .skip Q):=Dx h
theorem Jx {P:Program} {r:Option Nat} {c:Cx} {D:List Nat} {sl:aI} {hs:List a8} {ops:Array Oper} {Q:Exit→Act→World→Prop}
  (h:Tr c D sl hs (Q .normal)):Tr c D sl hs (WL P r ops Q []):=Gy h
theorem Jv {x:Operand} {v:Value} (h:(bif Nat.blt d c.nt then ev sl x else none)=some v) (k:Tr c D ((d,v)::sl) hs (WL P r ops Q rest)):Tr c D sl hs (WL P r ops Q (⟨some d,.move x,ty,pos,af,none⟩::rest)):=NR (bc h).2 (bc h).1 k
theorem Ja {x:Operand} {v:Value} (h:(bif Nat.blt d c.nt then ev sl x else none)=some v) (k:Tr c D ((d,v)::sl) hs (WL P r ops Q rest)):Tr c D sl hs (WL P r ops Q (⟨some d,.assign x,ty,pos,af,none⟩::rest)):=a_s (bc h).2 (bc h).1 k
theorem JA {k:IntKind} {t u:TypeId} {x y:Operand} {a b:Int} (h:(bif Nat.blt d c.nt then ((ev sl x).bind fun a=>(ev sl y).map fun b=>(a,b)) else none)=some (.int k a,.int k b)) (k:Tr c D ((d,.bool (decide (a<b)))::sl) hs (WL P r ops Q rest)):Tr c D sl hs (WL P r ops Q (⟨some d,.binOp .lss t x y u,ty,pos,af,none⟩::rest)):=ab (nL (.of (bp (bc h).2).1) (.of (bp (bc h).2).2)) (bc h).1 k
theorem JC {k:IntKind} {t u:TypeId} {x y:Operand} {a b:Int} (h:(bif Nat.blt d c.nt then ((ev sl x).bind fun a=>(ev sl y).map fun b=>(a,b)) else none)=some (.int k a,.int k b)) (k:Tr c D ((d,.bool (decide (a=b)))::sl) hs (WL P r ops Q rest)):Tr c D sl hs (WL P r ops Q (⟨some d,.binOp .eql t x y u,ty,pos,af,none⟩::rest)):=ab (kN (.of (bp (bc h).2).1) (.of (bp (bc h).2).2)) (bc h).1 k
theorem JD {k:IntKind} {t u:TypeId} {x y:Operand} {a b:Int} (h:(bif Nat.blt d c.nt then ((ev sl x).bind fun a=>(ev sl y).map fun b=>(a,b)) else none)=some (.int k a,.int k b)) (k:Tr c D ((d,.bool (decide (a≠b)))::sl) hs (WL P r ops Q rest)):Tr c D sl hs (WL P r ops Q (⟨some d,.binOp .neq t x y u,ty,pos,af,none⟩::rest)):=ab (jw (.of (bp (bc h).2).1) (.of (bp (bc h).2).2)) (bc h).1 k
theorem JE {k:IntKind} {t u:TypeId} {x y:Operand} {a b:Int} (h:(bif Nat.blt d c.nt then ((ev sl x).bind fun a=>(ev sl y).map fun b=>(a,b)) else none)=some (.int k a,.int k b)) (k:Tr c D ((d,.bool (decide (b<a)))::sl) hs (WL P r ops Q rest)):Tr c D sl hs (WL P r ops Q (⟨some d,.binOp .gtr t x y u,ty,pos,af,none⟩::rest)):=ab (kM (.of (bp (bc h).2).1) (.of (bp (bc h).2).2)) (bc h).1 k
theorem JF {k:IntKind} {t u:TypeId} {x y:Operand} {a b:Int} (h:(bif Nat.blt d c.nt then ((ev sl x).bind fun a=>(ev sl y).map fun b=>(a,b)) else none)=some (.int k a,.int k b)) (k:Tr c D ((d,.bool (decide (a≤b)))::sl) hs (WL P r ops Q rest)):Tr c D sl hs (WL P r ops Q (⟨some d,.binOp .leq t x y u,ty,pos,af,none⟩::rest)):=ab (jY (.of (bp (bc h).2).1) (.of (bp (bc h).2).2)) (bc h).1 k
theorem JG {k:IntKind} {t u:TypeId} {x y:Operand} {a b:Int} (h:(bif Nat.blt d c.nt then ((ev sl x).bind fun a=>(ev sl y).map fun b=>(a,b)) else none)=some (.int k a,.int k b)) (k:Tr c D ((d,.bool (decide (b≤a)))::sl) hs (WL P r ops Q rest)):Tr c D sl hs (WL P r ops Q (⟨some d,.binOp .geq t x y u,ty,pos,af,none⟩::rest)):=ab (yB (.of (bp (bc h).2).1) (.of (bp (bc h).2).2)) (bc h).1 k
theorem JB {t u:TypeId} {x y:Operand} {a b:Int} (h:(bif Nat.blt d c.nt then ((ev sl x).bind fun a=>(ev sl y).map fun b=>(a,b)) else none)=some (.int .i64 a,.int .i64 b)) (hb:-9223372036854775808≤a+b∧a+b≤9223372036854775807) (k:Tr c D ((d,.int .i64 (a+b))::sl) hs (WL P r ops Q rest)):Tr c D sl hs (WL P r ops Q (⟨some d,.binOp .add t x y u,ty,pos,af,none⟩::rest)):=ab (G7 (.of (bp (bc h).2).1) (.of (bp (bc h).2).2) (PS hb)) (bc h).1 k
theorem JS {t u:TypeId} {x y:Operand} {a b:Int} (h:(bif Nat.blt d c.nt then ((ev sl x).bind fun a=>(ev sl y).map fun b=>(a,b)) else none)=some (.int .i64 a,.int .i64 b)) (hb:-9223372036854775808≤a-b∧a-b≤9223372036854775807) (k:Tr c D ((d,.int .i64 (a-b))::sl) hs (WL P r ops Q rest)):Tr c D sl hs (WL P r ops Q (⟨some d,.binOp .sub t x y u,ty,pos,af,none⟩::rest)):=ab (rD (.of (bp (bc h).2).1) (.of (bp (bc h).2).2) (PS hb)) (bc h).1 k
theorem JH {t:TypeId} {x:Operand} {b:Bool} (h:(bif Nat.blt d c.nt then ev sl x else none)=some (.bool b)) (k:Tr c D ((d,.bool (!b))::sl) hs (WL P r ops Q rest)):Tr c D sl hs (WL P r ops Q (⟨some d,.unOp .not t x,ty,pos,af,none⟩::rest)):=ab (eU (.of (bc h).2)) (bc h).1 k
theorem JI {t e:TypeId} {x:Operand} {b:Option Addr} {n cap:Nat} [iH P t (.slice e)] (h:(bif Nat.blt d c.nt then ev sl x else none)=some (.slice b n cap)) (k:Tr c D ((d,.int .i64 n)::sl) hs (WL P r ops Q rest)):Tr c D sl hs (WL P r ops Q (⟨some d,.call ⟨.builtin .len,#[x],#[t]⟩,ty,pos,af,none⟩::rest)):=ab (bZ (e:=e) (.of (bc h).2)) (bc h).1 k
theorem JJ {x:Operand} {i:Nat} {vs:List Value} {v:Value} (h:(bif Nat.blt d c.nt then ev sl x else none)=some (.tuple vs.toArray)) (hv:sV vs i=some v) (k:Tr c D ((d,v)::sl) hs (WL P r ops Q rest)):Tr c D sl hs (WL P r ops Q (⟨some d,.extract x i,ty,pos,af,none⟩::rest)):=ab (fY (.of (bc h).2) hv) (bc h).1 k
theorem JK {r:Option Nat} {D:List Nat} {ops:Array Oper} {Q:Exit→Act→World→Prop} {d:Option Tmp} {op:Op} {rest:List Oper} {j gs:Nat} {want:Bool} (hj:((ops[j]?).bind (·.dst))=some gs) (hq:cF sl gs=some (.bool want))
  (k:Tr c D sl hs (WL P r ops Q (⟨d,op,ty,pos,af,none⟩::rest))):Tr c D sl hs (WL P r ops Q (⟨d,op,ty,pos,af,some (j,want)⟩::rest)):=O2 hj hq k
theorem JL {t:TypeId} {n:Nat} {x:Operand} {b o:Nat} {cs:List Value} {E:TypeId} {fz:Nat×Nat} {v:Value} [Ty P t false n] (h:(bif Nat.blt d c.nt then ev sl x else none)=some (.pointer (some ⟨b,o,none⟩))) (ht:Take hs (SL.bA b (.cells cs.toArray E fz)) hs') (hv:sV cs o=some v) (k:Tr c D ((d,v)::sl) hs (WL P r ops Q rest)):Tr c D sl hs (WL P r ops Q (⟨some d,.load t x,ty,pos,af,none⟩::rest)):=ab (ag (.of (bc h).2) (At.lit ht hv)) (bc h).1 k
theorem Jc {x:Operand} {p:Prop} {inst:Decidable p} {u v:Code} (hx:ev sl x=some (.bool (decide p))) (hf:¬ p→Tr c D sl hs (WP P r v Q)) (ht:p→Tr c D sl hs (WP P r u Q):=by intro h;exfalso;omega):Tr c D sl hs (WP P r (.cond x u v) Q):=gm hx ht hf
theorem Jd {x:Operand} {p:Prop} {inst:Decidable p} {u v:Code} (hx:ev sl x=some (.bool (decide p))) (ht:p→Tr c D sl hs (WP P r u Q)) (hf:¬ p→Tr c D sl hs (WP P r v Q):=by intro h;exfalso;omega):Tr c D sl hs (WP P r (.cond x u v) Q):=gm hx ht hf
theorem Jy {t:TypeId} {x:Operand} {v:Value} {cs:List Value} (h:(bif Nat.blt d c.nt then ev sl x else none)=some v) (hc:v.cells=cs.toArray) (k:∀ b,c.w0.heap.size≤b→Tr c D ((d,.pointer (some ⟨b,0,none⟩))::sl) (bA b (.cells cs.toArray t)::hs) (WL P r ops Q rest)):Tr c D sl hs (WL P r ops Q (⟨some d,.box t x,ty,pos,af,none⟩::rest)):=bb (Pf (.of (bc h).2) hc) (bc h).1 k
theorem Jz {t:TypeId} {z:Value} {cs:List Value} [lG P t z] (hc:z.cells=cs.toArray) (hd:Nat.blt d c.nt=true) (k:∀ b,c.w0.heap.size≤b→Tr c D ((d,.pointer (some ⟨b,0,none⟩))::sl) (bA b (.cells cs.toArray t)::hs) (WL P r ops Q rest)):Tr c D sl hs (WL P r ops Q (⟨some d,.alloc t,ty,pos,af,none⟩::rest)):=bb (uz hc) hd k
end
theorem JN {P:Program} {r:Option Nat} {c:Cx} {D:List Nat} {sl:aI} {hs:List a8} {Q:Exit→Act→World→Prop} {ops:Array Oper} {d:Nat} {op:Op} {ty:TypeId} {pos:String} {af:Array Edge} {rest:List Oper} {f:FuncId} {args:List Value} {ι:Type} {Φ:ι→Prop} {val:ι→Value} {own:ι→List a8} (hr:ln P sl ⟨some d,op,ty,pos,af,none⟩ f args) (hd:Nat.blt d c.nt=true) (hc:∀ w,Mem c hs w→bd P f args w [] Φ val own)
  (k:∀ x,Φ x→Tr c D ((d,val x)::sl) (own x++hs) (WL P r ops Q rest)):Tr c D sl hs (WL P r ops Q (⟨some d,op,ty,pos,af,none⟩::rest)):=jg hr hd bo.nil (fun w fp hm _ hs=>by obtain rfl:fp=[]:=hs;exact hc w hm) k
section
variable {P:Program} {r:Option Nat} {c:Cx} {sl:aI} {hs hs':List a8} {d:Nat} {dst:Option Tmp} {ty:TypeId} {pos:String} {af:Array Edge} {g:Option (Nat×Bool)}
theorem gz {t:TypeId} {n:Nat} {x:Operand} {b o:Nat} {cs:List Value} {E:TypeId} {fz:Nat×Nat} {v:Value} [Ty P t false n] (ht:Take hs (SL.bA b (.cells cs.toArray E fz)) hs') (hx:Is sl x (.pointer (some ⟨b,o,none⟩)):=by exact Is.of rfl) (hv:sV cs o=some v:=by exact rfl):cL P c sl hs ⟨dst,.load t x,ty,pos,af,g⟩ v:=ag hx (At.lit ht hv)
theorem cz {t:TypeId} {n:Nat} {x:Operand} {b o:Nat} {cs vs:List Value} {E:TypeId} {fz:Nat×Nat} [Ty P t true n] (ht:Take hs (SL.bA b (.cells cs.toArray E fz)) hs') (hx:Is sl x (.pointer (some ⟨b,o,none⟩)):=by exact Is.of rfl) (hv:dW cs o n=vs:=by exact an) (hl:vs.length=n:=by rfl):cL P c sl hs ⟨dst,.load t x,ty,pos,af,g⟩ (.agg vs.toArray):=cA hx ht hv hl
theorem j9 {t:TypeId} {i o:Nat} {x:Operand} {b k q:Nat} [ek P t i o] (hx:Is sl x (.pointer (some ⟨b,k,none⟩)):=by exact Is.of rfl) (he:k+o=q:=by exact ae):cL P c sl hs ⟨dst,.fieldAddr t x i,ty,pos,af,g⟩ (.pointer (some ⟨b,q,none⟩)):=ao hx he
theorem kG {x:Operand} {v:Value} (hx:Is sl x v:=by exact Is.of rfl):cL P c sl hs ⟨dst,.move x,ty,pos,af,g⟩ v:=aR hx
theorem iv {t:TypeId} {n:Nat} {x:Operand} {b o:Nat} {vs:List Value} [Ty P t true n] (hv:eF c hs b o vs) (hx:Is sl x (.pointer (some ⟨b,o,none⟩)):=by exact Is.of rfl) (hl:vs.length=n:=by exact rfl):cL P c sl hs ⟨dst,.load t x,ty,pos,af,g⟩ (.agg vs.toArray):=jh hx hv hl
theorem fH {t e:TypeId} {n:Nat} {agg:Bool} {x y:Operand} {a0:Option Addr} {b o len cap q:Nat} {k:IntKind} {i:Int} [hu:iH P t (.slice e)] [Ty P e agg n] (ha:a0=some ⟨b,o,none⟩) (h1:i<len) (hx:Is sl x (.slice a0 len cap):=by exact Is.of rfl) (hy:Is sl y (.int k i):=by exact Is.of rfl) (h0:0≤i:=by omega) (he:o+i.toNat*n=q:=by exact ba):cL P c sl hs ⟨dst,.indexAddr t x y,ty,pos,af,g⟩ (.pointer (some ⟨b,q,none⟩)):=az hx hy ha h0 h1 he
theorem JT {fn:Func} {v v':Value} {t:Tmp} (hv:v'=v) (Fz:c.md=[]:=by exact rfl) (h1:fn.results=#[.tmp t]:=by exact rfl) (h2:cF sl t=some v':=by exact rfl):Tr c [] sl hs (bodyPostM (FR r) 0 P fn (fun e w'=>e=.returned v∧aG [] c.w0 w') .ret):=oJ Fz (dp h1 h2) hv
end
theorem bN {A x0 x1:a8} {h:List a8}:Take (x0::x1::A::h) A (x0::x1::h):=.there (.there .here)
theorem cX {A x0 x1 x2:a8} {h:List a8}:Take (x0::x1::x2::A::h) A (x0::x1::x2::h):=.there bN
theorem eR {A x0 x1 x2 x3:a8} {h:List a8}:Take (x0::x1::x2::x3::A::h) A (x0::x1::x2::x3::h):=.there cX
theorem fg {A x0 x1 x2 x3 x4:a8} {h:List a8}:Take (x0::x1::x2::x3::x4::A::h) A (x0::x1::x2::x3::x4::h):=.there eR
theorem qm {A x0 x1 x2 x3 x4 x5:a8} {h:List a8}:Take (x0::x1::x2::x3::x4::x5::A::h) A (x0::x1::x2::x3::x4::x5::h):=.there fg
theorem BQ {A x0 x1 x2 x3 x4 x5 x6:a8} {h:List a8}:Take (x0::x1::x2::x3::x4::x5::x6::A::h) A (x0::x1::x2::x3::x4::x5::x6::h):=.there qm
theorem Nw {A x0 x1 x2 x3 x4 x5 x6 x7:a8} {h:List a8}:Take (x0::x1::x2::x3::x4::x5::x6::x7::A::h) A (x0::x1::x2::x3::x4::x5::x6::x7::h):=.there BQ
theorem iS {A x0 x1 x2 x3 x4 x5 x6 x7 x8:a8} {h:List a8}:Take (x0::x1::x2::x3::x4::x5::x6::x7::x8::A::h) A (x0::x1::x2::x3::x4::x5::x6::x7::x8::h):=.there Nw
theorem mq {A x0 x1 x2 x3 x4 x5 x6 x7 x8 x9:a8} {h:List a8}:Take (x0::x1::x2::x3::x4::x5::x6::x7::x8::x9::A::h) A (x0::x1::x2::x3::x4::x5::x6::x7::x8::x9::h):=.there iS
theorem BU {A x0 x1 x2 x3 x4 x5 x6 x7 x8 x9 wy:a8} {h:List a8}:Take (x0::x1::x2::x3::x4::x5::x6::x7::x8::x9::wy::A::h) A (x0::x1::x2::x3::x4::x5::x6::x7::x8::x9::wy::h):=.there mq
theorem lp {A x0 x1 x2 x3 x4 x5 x6 x7 x8 x9 wy Ds:a8} {h:List a8}:Take (x0::x1::x2::x3::x4::x5::x6::x7::x8::x9::wy::Ds::A::h) A (x0::x1::x2::x3::x4::x5::x6::x7::x8::x9::wy::Ds::h):=.there BU
theorem Ri {A x0 x1 x2 x3 x4 x5 x6 x7 x8 x9 wy Ds F3:a8} {h:List a8}:Take (x0::x1::x2::x3::x4::x5::x6::x7::x8::x9::wy::Ds::F3::A::h) A (x0::x1::x2::x3::x4::x5::x6::x7::x8::x9::wy::Ds::F3::h):=.there lp
theorem BS {A x0 x1 x2 x3 x4 x5 x6 x7 x8 x9 wy Ds F3 NA:a8} {h:List a8}:Take (x0::x1::x2::x3::x4::x5::x6::x7::x8::x9::wy::Ds::F3::NA::A::h) A (x0::x1::x2::x3::x4::x5::x6::x7::x8::x9::wy::Ds::F3::NA::h):=.there Ri
theorem iN {A x0 x1 x2 x3 x4 x5 x6 x7 x8 x9 wy Ds F3 NA OP:a8} {h:List a8}:Take (x0::x1::x2::x3::x4::x5::x6::x7::x8::x9::wy::Ds::F3::NA::OP::A::h) A (x0::x1::x2::x3::x4::x5::x6::x7::x8::x9::wy::Ds::F3::NA::OP::h):=.there BS
theorem mo {A x0 x1 x2 x3 x4 x5 x6 x7 x8 x9 wy Ds F3 NA OP XH:a8} {h:List a8}:Take (x0::x1::x2::x3::x4::x5::x6::x7::x8::x9::wy::Ds::F3::NA::OP::XH::A::h) A (x0::x1::x2::x3::x4::x5::x6::x7::x8::x9::wy::Ds::F3::NA::OP::XH::h):=.there iN
theorem ed {v0:Value} (h0:v0.oneCell'=true):∀ u∈[v0],u.oneCell'=true:=bD h0 (fZ)
theorem gF {v0 v1:Value} (h0:v0.oneCell'=true) (h1:v1.oneCell'=true):∀ u∈[v0,v1],u.oneCell'=true:=bD h0 (bD h1 (fZ))
theorem fh {v0 v1 v2:Value} (h0:v0.oneCell'=true) (h1:v1.oneCell'=true) (h2:v2.oneCell'=true):∀ u∈[v0,v1,v2],u.oneCell'=true:=bD h0 (bD h1 (bD h2 (fZ)))
theorem iu {v0 v1 v2 v3 v4 v5:Value} (h0:v0.oneCell'=true) (h1:v1.oneCell'=true) (h2:v2.oneCell'=true) (h3:v3.oneCell'=true) (h4:v4.oneCell'=true) (h5:v5.oneCell'=true):∀ u∈[v0,v1,v2,v3,v4,v5],u.oneCell'=true:=bD h0 (bD h1 (bD h2 (bD h3 (bD h4 (bD h5 (fZ))))))
theorem Ur {v0 v1 v2 v3 v4 v5 v6 v7:Value} (h0:v0.oneCell'=true) (h1:v1.oneCell'=true) (h2:v2.oneCell'=true) (h3:v3.oneCell'=true) (h4:v4.oneCell'=true) (h5:v5.oneCell'=true) (h6:v6.oneCell'=true) (h7:v7.oneCell'=true):∀ u∈[v0,v1,v2,v3,v4,v5,v6,v7],u.oneCell'=true:=bD h0 (bD h1 (bD h2 (bD h3 (bD h4 (bD h5 (bD h6 (bD h7 (fZ))))))))
theorem cd {sl w:aI} (h:ll sl w:=by repeat' first | with_reducible exact ll.nil | ((with_reducible apply ll.cons);(case h=>exact rfl))):ll sl w:=h
theorem sS {hs w q:List a8} (h:bo hs w q:=by repeat' first | with_reducible exact bo.nil | with_reducible apply bo.cons | with_reducible exact Take.here | with_reducible apply Take.there):bo hs w q:=h
theorem ns {P:Program} {sl:aI} {dst:Option Tmp} {ty:TypeId} {pos:String} {af:Array Edge} {g:Option (Nat×Bool)} {x :Operand} {ts:Array TypeId} {f:FuncId} {first cap args:List Value} (hx:Is sl x (.func (.func f) first.toArray cap.toArray):=by exact Is.of rfl)  (hb:bS P f:=by exact inferInstance) (he:first++[]++cap=args:=by exact e9):ln P sl ⟨dst,.call ⟨.value x,#[],ts⟩,ty,pos,af,g⟩ f args:=bh (xs:=[]) hx (.nil) hb he
theorem bI {P:Program} {sl:aI} {dst:Option Tmp} {ty:TypeId} {pos:String} {af:Array Edge} {g:Option (Nat×Bool)} {x y0:Operand} {ts:Array TypeId} {f:FuncId} {first cap args:List Value} {w0:Value} (hx:Is sl x (.func (.func f) first.toArray cap.toArray):=by exact Is.of rfl) (h0:Is sl y0 w0:=by exact Is.of rfl) (hb:bS P f:=by exact inferInstance) (he:first++[w0]++cap=args:=by exact e9):ln P sl ⟨dst,.call ⟨.value x,#[y0],ts⟩,ty,pos,af,g⟩ f args:=bh (xs:=[y0]) hx (.cons h0 (.nil)) hb he
theorem aZ {P:Program} {sl:aI} {dst:Option Tmp} {ty:TypeId} {pos:String} {af:Array Edge} {g:Option (Nat×Bool)} {x y0 y1:Operand} {ts:Array TypeId} {f:FuncId} {first cap args:List Value} {w0 w1:Value} (hx:Is sl x (.func (.func f) first.toArray cap.toArray):=by exact Is.of rfl) (h0:Is sl y0 w0:=by exact Is.of rfl) (h1:Is sl y1 w1:=by exact Is.of rfl) (hb:bS P f:=by exact inferInstance) (he:first++[w0,w1]++cap=args:=by exact e9):ln P sl ⟨dst,.call ⟨.value x,#[y0,y1],ts⟩,ty,pos,af,g⟩ f args:=bh (xs:=[y0,y1]) hx (.cons h0 (.cons h1 (.nil))) hb he
theorem eh {P:Program} {sl:aI} {dst:Option Tmp} {ty:TypeId} {pos:String} {af:Array Edge} {g:Option (Nat×Bool)} {x y0 y1 y2:Operand} {ts:Array TypeId} {f:FuncId} {first cap args:List Value} {w0 w1 w2:Value} (hx:Is sl x (.func (.func f) first.toArray cap.toArray):=by exact Is.of rfl) (h0:Is sl y0 w0:=by exact Is.of rfl) (h1:Is sl y1 w1:=by exact Is.of rfl) (h2:Is sl y2 w2:=by exact Is.of rfl) (hb:bS P f:=by exact inferInstance) (he:first++[w0,w1,w2]++cap=args:=by exact e9):ln P sl ⟨dst,.call ⟨.value x,#[y0,y1,y2],ts⟩,ty,pos,af,g⟩ f args:=bh (xs:=[y0,y1,y2]) hx (.cons h0 (.cons h1 (.cons h2 (.nil)))) hb he
theorem pb {P:Program} {sl:aI} {dst:Option Tmp} {ty:TypeId} {pos:String} {af:Array Edge} {g:Option (Nat×Bool)} {x y0 y1 y2 y3:Operand} {ts:Array TypeId} {f:FuncId} {first cap args:List Value} {w0 w1 w2 w3:Value} (hx:Is sl x (.func (.func f) first.toArray cap.toArray):=by exact Is.of rfl) (h0:Is sl y0 w0:=by exact Is.of rfl) (h1:Is sl y1 w1:=by exact Is.of rfl) (h2:Is sl y2 w2:=by exact Is.of rfl) (h3:Is sl y3 w3:=by exact Is.of rfl) (hb:bS P f:=by exact inferInstance) (he:first++[w0,w1,w2,w3]++cap=args:=by exact e9):ln P sl ⟨dst,.call ⟨.value x,#[y0,y1,y2,y3],ts⟩,ty,pos,af,g⟩ f args:=bh (xs:=[y0,y1,y2,y3]) hx (.cons h0 (.cons h1 (.cons h2 (.cons h3 (.nil))))) hb he
theorem Km {P:Program} {sl:aI} {dst:Option Tmp} {ty:TypeId} {pos:String} {af:Array Edge} {g:Option (Nat×Bool)} {x y0 y1 y2 y3 y4:Operand} {ts:Array TypeId} {f:FuncId} {first cap args:List Value} {w0 w1 w2 w3 w4:Value} (hx:Is sl x (.func (.func f) first.toArray cap.toArray):=by exact Is.of rfl) (h0:Is sl y0 w0:=by exact Is.of rfl) (h1:Is sl y1 w1:=by exact Is.of rfl) (h2:Is sl y2 w2:=by exact Is.of rfl) (h3:Is sl y3 w3:=by exact Is.of rfl) (h4:Is sl y4 w4:=by exact Is.of rfl) (hb:bS P f:=by exact inferInstance) (he:first++[w0,w1,w2,w3,w4]++cap=args:=by exact e9):ln P sl ⟨dst,.call ⟨.value x,#[y0,y1,y2,y3,y4],ts⟩,ty,pos,af,g⟩ f args:=bh (xs:=[y0,y1,y2,y3,y4]) hx (.cons h0 (.cons h1 (.cons h2 (.cons h3 (.cons h4 (.nil)))))) hb he
end Go.SL
namespace Go.Proofs.A1
open Go Go.SL
def ints (es:List Int):List (List Value):=es.map fun e=>[.int .i64 e]
theorem bW (es:List Int):(ints es).length=es.length:=by simp [ints]
theorem fC {es:List Int} {k:Nat} (h:k<es.length):(ints es)[k]? = some [.int .i64 es[k]]:=by simp [ints,h]
theorem ic {es:List Int} {k:Nat} (h:k<es.length):ints es≠[]:=by intro e;have:=congrArg List.length e;rw [bW] at this;simp at this;subst this;simp at h
inductive bP:List Value→List Int→Prop
 | nil:bP [] []
 | cons {e:Int} {vs:List Value} {es:List Int} (h:bP vs es):bP (.int .i64 e::vs) (e::es)
theorem bP.eq {vs:List Value} {es:List Int} (h:bP vs es):(vs.map fun v=>[v])=ints es:=by
 induction h with
 | nil=>rfl
 | cons h ih=>simp only [List.map_cons,ints,ih]
theorem NU (c:Int) (w:World):aj Tryz.prog 323 [.int .u8 c] w (.bool (Fo c)):=by
 refine ah Tryz.func323 rfl rfl ?_
 (refine Jr<|Ja rfl<|Ji<|Jv rfl<|JF rfl<|Jv rfl<|je rfl rfl rfl rfl ?_;refine aF rfl rfl inferInstance (fun hg bj=>(jY (.bE hg rfl) (.of rfl))) rfl ?_;refine ab (bV (.of rfl) rfl) rfl ?_;refine Jv rfl<|je rfl rfl rfl rfl ?_;refine aF rfl rfl inferInstance (fun hg bj=>(jY (.of rfl) (.bE hg rfl))) rfl ?_;refine aF rfl rfl inferInstance (fun hg bj=>(aR (.bE hg rfl))) rfl ?_;refine cT rfl rfl inferInstance (fun hg bj=>(aR (.of rfl))) rfl ?_;refine cT rfl rfl inferInstance (fun hg bj=>(jY (.bE hg rfl) (.of rfl))) rfl ?_;refine aF rfl rfl inferInstance (fun hg bj=>(eo hg (.bE hg rfl) rfl)) rfl ?_;refine ab (bR (.of rfl) rfl) rfl ?_;refine Ja rfl<|Jn<|Je<|JT ?_)
 rfl
theorem SA (c:Int) (w:World):aj Tryz.prog 324 [.int .u8 c] w (.bool (SB c)):=by
 refine ah Tryz.func324 rfl rfl ?_
 (refine Jr<|Ja rfl<|Ji<|Jv rfl<|JF rfl<|Jv rfl<|je rfl rfl rfl rfl ?_;refine aF rfl rfl inferInstance (fun hg bj=>(jY (.bE hg rfl) (.of rfl))) rfl ?_;refine ab (bV (.of rfl) rfl) rfl ?_;refine Ja rfl<|Jn<|Je<|JT ?_)
 rfl
theorem kH (h:Bool) (e:Int) (w:World):aj Tryz.prog 129 [.bool h,.int .i64 e] w (.int .i64 (bO h e)):=by
 refine ah Tryz.func129 rfl rfl ?_
 (refine Jr<|Ja rfl<|Jn<|Jq<|Jr<|Jv rfl<|Jn<|nB rfl (fun ar=>?_) fun ar=>?_;refine Jr<|Jv rfl<|Ja rfl<|Jn<|Ju<|JT ?_;rotate_left;refine Jk<|Jr<|Ja rfl<|Jn<|Je<|JT ?_;rotate_right)
 all_goals simp [bO, *]
theorem tC (n l m:Int) (w:World):aj Tryz.prog 67 [.int .i64 n,.int .i64 l,.int .i64 m] w (.int .i64 (fW n l m)):=by
 refine ah Tryz.func67 rfl rfl ?_
 (refine Jr<|Ja rfl<|Ji<|Jv rfl<|Jv rfl<|JA rfl<|Jv rfl<|je rfl rfl rfl rfl ?_;refine je rfl rfl rfl rfl ?_;refine aF rfl rfl inferInstance (fun hg bj=>(kM (.bE hg rfl) (.bE hg rfl))) rfl ?_;refine ab (bR (.of rfl) rfl) rfl ?_;refine ai aZ rfl (fun w' au=>(kH _ 3 w')) ?_;refine Ja rfl<|Jn<|Je<|JT ?_)
 rfl
theorem PH (s:ByteArray) (w:World):aj Tryz.prog 270 [.string s] w (.bool (jO s)):=by
 refine ah Tryz.func270 rfl rfl ?_
 (refine Jr<|Ja rfl<|Jn<|Jq<|Jr<|Jv rfl<|ab (eY (.of rfl)) rfl ?_;refine JC rfl<|Jv rfl<|je rfl rfl rfl rfl ?_;refine aF rfl rfl inferInstance (fun hg bj=>(eY (.bE hg rfl))) rfl ?_;refine aF rfl rfl inferInstance (fun hg bj=>(kM (.bE hg rfl) (.of rfl))) rfl ?_;refine ab (bR (.of rfl) rfl) rfl ?_;refine Jv rfl<|je rfl rfl rfl rfl ?_;refine aF rfl rfl inferInstance (fun hg bj=>(oO (.bE hg rfl) (.of rfl) (by omega) (by omega))) rfl ?_;refine kK rfl rfl (fun hg=>(bh (.of rfl) (.cons (.bE hg rfl) .nil) inferInstance e9)) rfl (fun hg w' au=>(NU _ w')) ?_;refine aF rfl rfl inferInstance (fun hg bj=>(eU (.bE hg rfl))) rfl ?_;refine ab (bR (.of rfl) rfl) rfl ?_;refine Jn<|nB rfl (fun ar=>?_) fun ar=>?_;refine Jr<|Ja rfl<|Jn<|Ju<|JT ?_;rotate_left;refine Jk<|Jq<|Jr<|Ja rfl<|Jn<|J0 ?_;rotate_right)
 ·congr 1;symm
  change (_∨_)∨Fo (bt s 0)=false at ar
  unfold jO
  rcases ar with (h | h) | h
  ·simp;omega
  ·simp;omega
  ·simp [h]
 change (_∧_)∧Fo (bt s 0)=true at ar
 obtain ⟨⟨h0,h1⟩,h2⟩:=ar
 have hN:jO s=okF s 1:=by
  unfold jO
  rw [h2,decide_eq_true (by omega),decide_eq_true (by omega)];rfl
 rw [hN]
 refine aX (fun k:Nat=>1≤k∧k≤s.size∧okF s 1=okF s k) (fun k=>[(3,.int .i64 k),(0,.string s)]) (fun _=>[]) (fun k=>s.size-k) ?_ ?_
 ·apply aJ 1 ⟨by omega,by omega,rfl⟩
  case hs1=>exact cd
  case ht=>(try simp only [Ze,Zf,Za]);exact .nil
 intro k ⟨Mw,hk,hf⟩
 rw [hf]
 by_cases aL:k<s.size
 ·rw [yO aL]
  (refine Jq<|Jr<|Jv rfl<|Jv rfl<|ab (eY (.of rfl)) rfl ?_;refine JA rfl<|Jn<|Jd rfl fun ar=>Jk<|Jq<|J0<|Jr<|Jv rfl<|Jv rfl<|ab (oO (.of rfl) (.of rfl) (by omega) ar) rfl ?_;refine ai bI rfl (fun w' au=>(NU _ w')) ?_;refine JH rfl<|Jv rfl<|je rfl rfl rfl rfl ?_;refine je rfl rfl rfl rfl ?_;refine aF rfl rfl inferInstance (fun hg bj=>(oO (.bE hg rfl) (.bE hg rfl) (by omega) ar)) rfl ?_;refine kK rfl rfl (fun hg=>(bh (.of rfl) (.cons (.bE hg rfl) .nil) inferInstance e9)) rfl (fun hg w' au=>(SA _ w')) ?_;refine aF rfl rfl inferInstance (fun hg bj=>(eU (.bE hg rfl))) rfl ?_;refine ab (bV (.of rfl) rfl) rfl ?_;refine Jv rfl<|je rfl rfl rfl rfl ?_;refine je rfl rfl rfl rfl ?_;refine aF rfl rfl inferInstance (fun hg bj=>(oO (.bE hg rfl) (.bE hg rfl) (by omega) ar)) rfl ?_;refine aF rfl rfl inferInstance (fun hg bj=>(jw (.bE hg rfl) (.of rfl))) rfl ?_;refine ab (bV (.of rfl) rfl) rfl ?_;refine Jn<|nB rfl (fun ar=>?_) fun ar=>?_;refine Jr<|Ja rfl<|Jn<|Je<|Jm<|Jh<|Jh<|Jm<|Jh<|JT ?_;rotate_left;refine Jw<|Jj<|Jt<|Jg<|Jv rfl<|JB rfl (by omega)<|Ja rfl<|Jn ?_;rotate_right)
  ·congr 1;symm
   change (Fo (bt s k)=false∧SB (bt s k)=false)∧bt s k≠95 at ar
   simp [okB,ar]
  ·have ho:okB (bt s k)=true:=by
    change (Fo (bt s k)=true∨SB (bt s k)=true)∨¬ bt s k≠95 at ar
    rcases ar with (h | h) | h
    ·simp [okB,h]
    ·simp [okB,h]
    ·simp [okB,Decidable.not_not.1 h]
   rw [ho,Bool.true_and]
   rw [yO aL,ho,Bool.true_and] at hf
   rw [← hf]
   apply aK (k+1) ⟨by omega,by omega,hf⟩ (by omega)
   case hs1=>exact cd
   case ht=>(try simp only [Ze,Zf,Za]);exact .nil
 ·(refine Jq<|Jr<|Jv rfl<|Jv rfl<|ab (eY (.of rfl)) rfl ?_;refine JA rfl<|Jn<|Jc rfl fun ar=>Jp<|Jl<|Jo<|Jt<|Jr<|Ja rfl<|Jn<|Je<|JT ?_)
  rw [D3 (by omega)]
theorem Vv (s:ByteArray) (w:World):aj Tryz.prog 189 [.string s] w (.int .i64 (ZU s)):=by
 refine ah Tryz.func189 rfl rfl ?_
 (refine Jr<|Ja rfl<|Ji<|Jv rfl<|ai bI rfl (fun w' au=>(PH s w')) ?_;refine JH rfl<|ai aZ rfl (fun w' au=>(kH _ 8 w')) ?_;refine Ja rfl<|Jn<|Je<|JT ?_)
 rfl
theorem MM (v:Value) (es:List Int) (w:World) (h:Rd w v 1 (ints es)):aj Tryz.prog 28 [v] w (.int .i64 (aW es)):=by
 obtain ⟨a,cap,b,o,rfl,db,bT,ha,hc⟩:=h
 rw [bW] at *
 unfold maxLen at bT
 refine ah Tryz.func28 rfl rfl ?_
 refine Jr<|Ja rfl<|Jn<|Jq<|Jr<|Ja rfl<|Jn<|J0 ?_
 refine aX (fun k:Nat=>k≤es.length∧aW es=aW (es.drop k)) (fun k=>[(3,.int .i64 k),(0,.slice a es.length cap)]) (fun _=>[]) (fun k=>es.length-k) ?_ ?_
 ·apply aJ 0 ⟨Zi _,rfl⟩
  case hs1=>exact cd
  case ht=>(try simp only [Ze,Zf,Za]);exact .nil
 intro k ⟨hk,hf⟩
 by_cases aL:k<es.length
 ·have cE:=ha (ic aL)
  have aC:=XM hc (fC aL)
  have hs:=rV aL
  (refine Jq<|Jr<|Jv rfl<|Jv rfl<|JI rfl<|JA rfl<|Jn<|Jd rfl fun ar=>Jk<|Jq<|J0<|Jr<|Jv rfl<|Jv rfl<|ab (fH cE ar) rfl ?_;refine ab (ag (.of rfl) (At.base aC rfl)) rfl ?_;refine JD rfl<|Jn<|gm rfl (fun ar=>?_) fun ar=>?_;refine Jr<|Jv rfl<|Jv rfl<|ab (az (.of rfl) (.of rfl) cE (by omega) (by assumption) ba) rfl ?_;refine ab (ag (.of rfl) (At.base aC rfl)) rfl ?_;refine Ja rfl<|Jn<|Je<|Jm<|Jh<|Jh<|Jm<|Jh<|JT ?_;rotate_left;refine Jw<|Jj<|Jt<|Jg<|Jv rfl<|JB rfl (by omega)<|Ja rfl<|Jn ?_;rotate_right)
  ·rw [hf,hs,if_pos ar]
  ·apply aK (k+1) ⟨by omega,by rw [hf,hs,if_neg ar]⟩ (by omega)
   case hs1=>exact cd
   case ht=>(try simp only [Ze,Zf,Za]);exact .nil
 ·refine Jq<|Jr<|Jv rfl<|Jv rfl<|JI rfl<|JA rfl<|Jn<|Jc rfl fun ar=>Jp<|Jl<|Jo<|Jt<|Jr<|Ja rfl<|Jn<|Je<|JT ?_
  rw [hf,List.drop_of_length_le (by omega)];rfl
theorem jS {v:Value} {cs:List Value} {es:List Int} {w:World} (h:Rd w v 1 (cs.map fun v=>[v])) (hl:bP cs es):aj Tryz.prog 28 [v] w (.int .i64 (aW es)):=
 MM v es w (by rw [← hl.eq];exact h)
theorem dO (h:Bool) (e:Int) (w:World):aj Tryz.prog 147 [.bool h,.int .i64 e] w (.int .i64 (bO h e)):=by
 refine ah Tryz.func147 rfl rfl ?_
 (refine Jr<|Ja rfl<|Jn<|Jq<|Jr<|Jv rfl<|Jn<|nB rfl (fun ar=>?_) fun ar=>?_;refine Jr<|Jv rfl<|Ja rfl<|Jn<|Ju<|JT ?_;rotate_left;refine Jk<|Jr<|Ja rfl<|Jn<|Je<|JT ?_;rotate_right)
 all_goals simp [bO, *]
theorem lV (n l m:Int) (w:World):aj Tryz.prog 134 [.int .i64 n,.int .i64 l,.int .i64 m] w (.int .i64 (fW n l m)):=by
 refine ah Tryz.func134 rfl rfl ?_
 (refine Jr<|Ja rfl<|Ji<|Jv rfl<|Jv rfl<|JA rfl<|Jv rfl<|je rfl rfl rfl rfl ?_;refine je rfl rfl rfl rfl ?_;refine aF rfl rfl inferInstance (fun hg bj=>(kM (.bE hg rfl) (.bE hg rfl))) rfl ?_;refine ab (bR (.of rfl) rfl) rfl ?_;refine ai aZ rfl (fun w' au=>(dO _ 3 w')) ?_;refine Ja rfl<|Jn<|Je<|JT ?_)
 rfl
theorem MN (v:Value) (es:List Int) (w:World) (h:Rd w v 1 (ints es)):aj Tryz.prog 111 [v] w (.int .i64 (aW es)):=by
 obtain ⟨a,cap,b,o,rfl,db,bT,ha,hc⟩:=h
 rw [bW] at *
 unfold maxLen at bT
 refine ah Tryz.func111 rfl rfl ?_
 refine Jr<|Ja rfl<|Jn<|Jq<|Jr<|Jv rfl<|JI rfl<|Jv rfl<|Jn<|J0 ?_
 refine aX (fun k:Nat=>k≤es.length∧aW es=aW (es.drop k)) (fun k=>[(7,.int .i64 k),(6,.int .i64 es.length),(5,.slice a es.length cap)]) (fun _=>[]) (fun k=>es.length-k) ?_ ?_
 ·apply aJ 0 ⟨Zi _,rfl⟩
  case hs1=>exact cd
  case ht=>(try simp only [Ze,Zf,Za]);exact .nil
 intro k ⟨hk,hf⟩
 by_cases aL:k<es.length
 ·have cE:=ha (ic aL)
  have aC:=XM hc (fC aL)
  have hs:=rV aL
  (refine Jr<|JA rfl<|Jn<|Jq<|Jd rfl fun ar=>Jk<|Jq<|J0<|Jr<|ab (fH cE ar) rfl ?_;refine ab (ag (.of rfl) (At.base aC rfl)) rfl ?_;refine Ja rfl<|Ji<|Jv rfl<|JD rfl<|Jn<|gm rfl (fun ar=>?_) fun ar=>?_;refine Jr<|Jv rfl<|Ja rfl<|Jn<|Je<|Jm<|Jh<|Jh<|Jm<|Jh<|JT ?_;rotate_left;refine Jw<|Jj<|Jt<|Jg<|JB rfl (by omega)<|Jv rfl<|Jn ?_;rotate_right)
  ·rw [hf,hs,if_pos ar]
  ·apply aK (k+1) ⟨by omega,by rw [hf,hs,if_neg ar]⟩ (by omega)
   case hs1=>exact cd
   case ht=>(try simp only [Ze,Zf,Za]);exact .nil
 ·refine Jr<|JA rfl<|Jn<|Jq<|Jc rfl fun ar=>Jp<|Jl<|Jo<|Jt<|Jr<|Ja rfl<|Jn<|Je<|JT ?_
  rw [hf,List.drop_of_length_le (by omega)];rfl
theorem dI {v:Value} {cs:List Value} {es:List Int} {w:World} (h:Rd w v 1 (cs.map fun v=>[v])) (hl:bP cs es):aj Tryz.prog 111 [v] w (.int .i64 (aW es)):=
 MN v es w (by rw [← hl.eq];exact h)
theorem Ue {s:ByteArray} {p:Nat} (h:p<s.size):bt s p=((s[p]'h).toNat:Nat):=by
 unfold bt
 have:s.data.toList[p]? = some (s[p]'h):=by
  rw [Array.getElem?_toList]
  exact getElem?_pos s.data p h
 rw [this];rfl
theorem xM {s:ByteArray} {p:Nat} (h:p<s.size):(bt s p<128∧((Utf8.decode s p).1:Int)=bt s p∧(Utf8.decode s p).2=1)∨(128≤bt s p∧(128:Int)≤(Utf8.decode s p).1∧1≤(Utf8.decode s p).2):=by
 rw [Ue h]
 by_cases ha:(s[p]'h).toNat<128
 ·have:=decode_ascii s p h ha
  left;rw [this];exact ⟨by omega,rfl,rfl⟩
 ·have:=decode_high s p h (by omega)
  right;omega
theorem AU {s:ByteArray}:s.size=0↔s=⟨#[]⟩:=by
 constructor
 ·intro h
  have:s.data=#[]:=Array.eq_empty_of_size_eq_zero h
  cases s;simp_all
 ·rintro rfl;rfl
theorem Ea {c:Int}:Fo c=true↔(65≤c∧c≤90)∨(97≤c∧c≤122):=by simp [Fo]
theorem yP {c:Int}:okB c=true↔((65≤c∧c≤90)∨(97≤c∧c≤122))∨(48≤c∧c≤57)∨c=95:=by simp [okB,Fo,SB,or_assoc]
theorem CI (s:ByteArray) (w:World):aj Tryz.prog 187 [.string s] w (.bool (jO s)):=by
 refine ah Tryz.func187 rfl rfl ?_
 (refine Jr<|Ja rfl<|Jn<|Jq<|Jr<|Jv rfl<|bb (E7 (.of rfl)) rfl fun _ _=>?_;refine Jn<|J0 ?_)
 rename_i bi hbi
 refine aX (fun p:Nat=>p≤s.size∧(p=0∨(1≤p∧Fo (bt s 0)=true∧okF s 1=okF s p))) (fun _=>[(7,.pointer (some ⟨bi,0,none⟩)),(0,.string s)]) (fun p=>[bA bi (.stringIter s p)]) (fun p=>s.size-p) ?_ ?_
 ·apply aJ 0 ⟨by omega,.inl rfl⟩
  case hs1=>exact cd
  case ht=>(try simp only [Ze,Zf,Za]);exact .cons .here .nil
 intro p ⟨hp,hI⟩
 (refine Jr<|Gz (.of rfl) .here rfl (fun aL=>?_) fun aL=>?_;refine JJ rfl rfl<|Jn<|Jq<|cB (.of rfl) ?_;refine Jk<|J0<|Jr<|JJ rfl rfl<|JJ rfl rfl<|Ja rfl<|Ja rfl<|Ji<|Jv rfl<|JG rfl<|Jv rfl<|je rfl rfl rfl rfl ?_;refine aF rfl rfl inferInstance (fun hg bj=>(jY (.bE hg rfl) (.of rfl))) rfl ?_;refine ab (bV (.of rfl) rfl) rfl ?_;refine Jv rfl<|je rfl rfl rfl rfl ?_;refine aF rfl rfl inferInstance (fun hg bj=>(yB (.bE hg rfl) (.of rfl))) rfl ?_;refine aF rfl rfl inferInstance (fun hg bj=>(aR (.bE hg rfl))) rfl ?_;refine cT rfl rfl inferInstance (fun hg bj=>(aR (.of rfl))) rfl ?_;refine cT rfl rfl inferInstance (fun hg bj=>(jY (.bE hg rfl) (.of rfl))) rfl ?_;refine aF rfl rfl inferInstance (fun hg bj=>(eo hg (.bE hg rfl) rfl)) rfl ?_;refine ab (bR (.of rfl) rfl) rfl ?_;refine Ja rfl<|Ji<|Jv rfl<|JH rfl<|Jv rfl<|je rfl rfl rfl rfl ?_;refine aF rfl rfl inferInstance (fun hg bj=>(kN (.bE hg rfl) (.of rfl))) rfl ?_;refine aF rfl rfl inferInstance (fun hg bj=>(aR (.bE hg rfl))) rfl ?_;refine cT rfl rfl inferInstance (fun hg bj=>(aR (.of rfl))) rfl ?_;refine cT rfl rfl inferInstance (fun hg bj=>(nL (.bE hg rfl) (.of rfl))) rfl ?_;refine cT rfl rfl inferInstance (fun hg bj=>(aR (.bE hg rfl))) rfl ?_;refine cT rfl rfl inferInstance (fun hg bj=>(aR (.of rfl))) rfl ?_;refine cT rfl rfl inferInstance (fun hg bj=>(kM (.bE hg rfl) (.of rfl))) rfl ?_;refine cT rfl rfl inferInstance (fun hg bj=>(jM hg (.bE hg rfl) rfl)) rfl ?_;refine cT rfl rfl inferInstance (fun hg bj=>(aR (.bE hg rfl))) rfl ?_;refine cT rfl rfl inferInstance (fun hg bj=>(aR (.of rfl))) rfl ?_;refine cT rfl rfl inferInstance (fun hg bj=>(jw (.bE hg rfl) (.of rfl))) rfl ?_;refine cT rfl rfl inferInstance (fun hg bj=>(eo hg (.bE hg rfl) rfl)) rfl ?_;refine aF rfl rfl inferInstance (fun hg bj=>(jM hg (.bE hg rfl) rfl)) rfl ?_;refine ab (bV (.of rfl) rfl) rfl ?_;refine Jn<|nB rfl (fun ar=>?_) fun ar=>?_;refine Jr<|Ja rfl<|Jn<|Je<|Jm<|Jh<|Jm<|Jh<|JT ?_;rotate_left;refine Jw<|Jj<|Jt ?_;rotate_right;rotate_left 2;refine JJ rfl rfl<|Jn<|Jq<|bL (.of rfl) ?_;refine Jp<|Jl<|Jo<|Jt<|Jr<|Jv rfl<|ab (hY (.of rfl) (.of rfl)) rfl ?_;refine Jv rfl<|je rfl rfl rfl rfl ?_;refine aF rfl rfl inferInstance (fun hg bj=>(eY (.bE hg rfl))) rfl ?_;refine aF rfl rfl inferInstance (fun hg bj=>(jY (.bE hg rfl) (.of rfl))) rfl ?_;refine ab (bV (.of rfl) rfl) rfl ?_;refine Ja rfl<|Jn<|Je<|JT ?_;rotate_right 2)
 ·congr 1;symm
  unfold jO
  have hd:=xM aL
  rcases hI with rfl | ⟨h1,h2,h3⟩
  ·have:Fo (bt s 0)=false:=by rw [← Bool.not_eq_true,Ea];omega
   simp [this]
  ·have:okF s p=false:=by
    rw [yO aL]
    have:okB (bt s p)=false:=by rw [← Bool.not_eq_true,yP];omega
    rw [this];rfl
   rw [h3,this];simp
 ·have hd:=xM aL
  have ho:okB (bt s p)=true:=by rw [yP];omega
  have hw:(Utf8.decode s p).2=1:=by rw [yP] at ho;omega
  rw [hw]
  have hn:Fo (bt s 0)=true∧okF s 1=okF s (p+1):=by
   rcases hI with rfl | ⟨h1,h2,h3⟩
   ·refine ⟨?_,rfl⟩
    rw [Ea];omega
   ·exact ⟨h2,by rw [h3,yO aL,ho];rfl⟩
  apply aK (p+1) ⟨by omega,.inr ⟨by omega,hn⟩⟩ (by omega)
  case hs1=>exact cd
  case ht=>(try simp only [Ze,Zf,Za]);exact .cons .here .nil
 ·unfold jO
  congr 1
  by_cases h0:s.size=0
  ·have:s=⟨#[]⟩:=AU.1 h0
   rw [decide_eq_false (p:=s≠⟨#[]⟩) (fun h=>h this),decide_eq_false (p:=0<s.size) (by omega)];rfl
  ·rw [decide_eq_true (p:=s≠⟨#[]⟩) (fun h=>h0 (AU.2 h)),decide_eq_true (p:=0<s.size) (by omega)]
   rcases hI with rfl | ⟨h1,h2,h3⟩
   ·omega
   ·rw [h2,h3,D3 (by omega)]
    simp
    omega
def Sr.cells (x:Sr):List Value:=[.string x.nm,.int .i64 x.mx]
def vF (l:List Sr):List (List Value):=l.map Sr.cells
def nH (l:List Sr):List Value:=(vF l).flatten
theorem cu (l:List Sr):(vF l).length=l.length:=by simp [vF]
theorem fm {l:List Sr} {k:Nat} (h:k<l.length):(vF l)[k]? = some ((Sr.cells) l[k]):=by simp [vF,h]
theorem gB {l:List Sr} {k:Nat} (h:k<l.length):vF l≠[]:=by intro e;have:=congrArg List.length e;rw [cu] at this;simp at this;subst this;simp at h
theorem GO (l:List Sr):∀ r∈vF l,r.length=2:=fun r hr=>by obtain ⟨x,_,rfl⟩:=List.mem_map.1 hr;rfl
theorem Lj (l:List Sr):∀ r∈vF l,∀ u∈r,u.oneCell'=true:=fun r hr=>by obtain ⟨x,_,rfl⟩:=List.mem_map.1 hr;exact bD rfl (bD rfl (fZ))
theorem DJ (l:List Sr):(nH l).length=l.length*2:=by unfold nH;rw [fQ (GO l),cu]
theorem Li (a b:List Sr):nH (a++b)=nH a++nH b:=by unfold nH vF;rw [List.map_append,List.flatten_append]
theorem Ah {l:List Sr} {k:Nat} (h:k<l.length):nH (l.take (k+1))=nH (l.take k)++(Sr.cells) l[k]:=by rw [List.take_succ_eq_append_getElem h,Li];unfold nH vF;simp
theorem cZ {c:Cx} {hs hs':List a8} {w:World} {l:List Sr} {E:TypeId} {v:Value} {n:Nat} (hm:Mem c hs w) (ht:Take hs (row E 2 v n (nH l)) hs') (hn:l.length=n):Rd w v 2 (vF l):=hm.ph ht rfl (GO l) (by rw [cu,hn])
def De.cells (x:De):List Value:=[.string x.nm,.int .i64 x.mx,.bool x.pr]
def vi (l:List De):List (List Value):=l.map De.cells
def lE (l:List De):List Value:=(vi l).flatten
theorem bU (l:List De):(vi l).length=l.length:=by simp [vi]
theorem eX {l:List De} {k:Nat} (h:k<l.length):(vi l)[k]? = some ((De.cells) l[k]):=by simp [vi,h]
theorem gl {l:List De} {k:Nat} (h:k<l.length):vi l≠[]:=by intro e;have:=congrArg List.length e;rw [bU] at this;simp at this;subst this;simp at h
theorem C6 (l:List De):∀ r∈vi l,r.length=3:=fun r hr=>by obtain ⟨x,_,rfl⟩:=List.mem_map.1 hr;rfl
theorem M0 (l:List De):∀ r∈vi l,∀ u∈r,u.oneCell'=true:=fun r hr=>by obtain ⟨x,_,rfl⟩:=List.mem_map.1 hr;exact bD rfl (bD rfl (bD rfl (fZ)))
theorem Ez (l:List De):(lE l).length=l.length*3:=by unfold lE;rw [fQ (C6 l),bU]
theorem MZ (a b:List De):lE (a++b)=lE a++lE b:=by unfold lE vi;rw [List.map_append,List.flatten_append]
theorem Bv {l:List De} {k:Nat} (h:k<l.length):lE (l.take (k+1))=lE (l.take k)++(De.cells) l[k]:=by rw [List.take_succ_eq_append_getElem h,MZ];unfold lE vi;simp
theorem c5 {c:Cx} {hs hs':List a8} {w:World} {l:List De} {E:TypeId} {v:Value} {n:Nat} (hm:Mem c hs w) (ht:Take hs (row E 3 v n (lE l)) hs') (hn:l.length=n):Rd w v 3 (vi l):=hm.ph ht rfl (C6 l) (by rw [bU,hn])
def Ti.cells (x:Ti):List Value:=[.string x.nm,.int .i64 x.fr,.int .i64 x.to]
def ui (l:List Ti):List (List Value):=l.map Ti.cells
def pC (l:List Ti):List Value:=(ui l).flatten
theorem bJ (l:List Ti):(ui l).length=l.length:=by simp [ui]
theorem dQ {l:List Ti} {k:Nat} (h:k<l.length):(ui l)[k]? = some ((Ti.cells) l[k]):=by simp [ui,h]
theorem eT {l:List Ti} {k:Nat} (h:k<l.length):ui l≠[]:=by intro e;have:=congrArg List.length e;rw [bJ] at this;simp at this;subst this;simp at h
theorem GI (l:List Ti):∀ r∈ui l,r.length=3:=fun r hr=>by obtain ⟨x,_,rfl⟩:=List.mem_map.1 hr;rfl
theorem K7 (l:List Ti):∀ r∈ui l,∀ u∈r,u.oneCell'=true:=fun r hr=>by obtain ⟨x,_,rfl⟩:=List.mem_map.1 hr;exact bD rfl (bD rfl (bD rfl (fZ)))
theorem DF (l:List Ti):(pC l).length=l.length*3:=by unfold pC;rw [fQ (GI l),bJ]
theorem K6 (a b:List Ti):pC (a++b)=pC a++pC b:=by unfold pC ui;rw [List.map_append,List.flatten_append]
theorem Af {l:List Ti} {k:Nat} (h:k<l.length):pC (l.take (k+1))=pC (l.take k)++(Ti.cells) l[k]:=by rw [List.take_succ_eq_append_getElem h,K6];unfold pC ui;simp
theorem cY {c:Cx} {hs hs':List a8} {w:World} {l:List Ti} {E:TypeId} {v:Value} {n:Nat} (hm:Mem c hs w) (ht:Take hs (row E 3 v n (pC l)) hs') (hn:l.length=n):Rd w v 3 (ui l):=hm.ph ht rfl (GI l) (by rw [bJ,hn])
def Po.cells (x:Po):List Value:=[.int .i64 x.lv,.string x.ou,.string x.ip]
def sU (l:List Po):List (List Value):=l.map Po.cells
def jf (l:List Po):List Value:=(sU l).flatten
theorem cN (l:List Po):(sU l).length=l.length:=by simp [sU]
theorem ib {l:List Po} {k:Nat} (h:k<l.length):(sU l)[k]? = some ((Po.cells) l[k]):=by simp [sU,h]
theorem jZ {l:List Po} {k:Nat} (h:k<l.length):sU l≠[]:=by intro e;have:=congrArg List.length e;rw [cN] at this;simp at this;subst this;simp at h
theorem Hn (l:List Po):∀ r∈sU l,r.length=3:=fun r hr=>by obtain ⟨x,_,rfl⟩:=List.mem_map.1 hr;rfl
theorem DW (l:List Po):∀ r∈sU l,∀ u∈r,u.oneCell'=true:=fun r hr=>by obtain ⟨x,_,rfl⟩:=List.mem_map.1 hr;exact bD rfl (bD rfl (bD rfl (fZ)))
theorem ji (l:List Po):(jf l).length=l.length*3:=by unfold jf;rw [fQ (Hn l),cN]
theorem LC (a b:List Po):jf (a++b)=jf a++jf b:=by unfold jf sU;rw [List.map_append,List.flatten_append]
theorem AL {l:List Po} {k:Nat} (h:k<l.length):jf (l.take (k+1))=jf (l.take k)++(Po.cells) l[k]:=by rw [List.take_succ_eq_append_getElem h,LC];unfold jf sU;simp
theorem cR {c:Cx} {hs hs':List a8} {w:World} {l:List Po} {E:TypeId} {v:Value} {n:Nat} (hm:Mem c hs w) (ht:Take hs (row E 3 v n (jf l)) hs') (hn:l.length=n):Rd w v 3 (sU l):=hm.ph ht rfl (Hn l) (by rw [cN,hn])
def iT (l:List ByteArray):List (List Value):=l.map fun s=>[.string s]
def aO (l:List ByteArray):List Value:=l.map Value.string
theorem cg (l:List ByteArray):(iT l).length=l.length:=by simp [iT]
theorem jG {l:List ByteArray} {k:Nat} (h:k<l.length):(iT l)[k]? = some [.string l[k]]:=by simp [iT,h]
theorem mC {l:List ByteArray} {k:Nat} (h:k<l.length):iT l≠[]:=by intro e;have:=congrArg List.length e;rw [cg] at this;simp at this;subst this;simp at h
theorem GK (l:List ByteArray):∀ r∈iT l,r.length=1:=fun r hr=>by obtain ⟨x,_,rfl⟩:=List.mem_map.1 hr;rfl
theorem yp (l:List ByteArray):∀ r∈iT l,∀ u∈r,u.oneCell'=true:=fun r hr=>by obtain ⟨x,_,rfl⟩:=List.mem_map.1 hr;exact bD rfl fZ
theorem qt (l:List ByteArray):aO l=(iT l).flatten:=by
 induction l with
 | nil=>rfl
 | cons x l ih=>show [Value.string x]++aO l=_;rw [ih];rfl
theorem dd (l:List ByteArray):(aO l).length=l.length:=by simp [aO]
theorem eO (a b:List ByteArray):aO (a++b)=aO a++aO b:=by simp [aO]
theorem ez {c:Cx} {hs hs':List a8} {w:World} {l:List ByteArray} {E:TypeId} {v:Value} {n:Nat} (hm:Mem c hs w) (ht:Take hs (row E 1 v n (aO l)) hs') (hn:l.length=n):Rd w v 1 (iT l):=hm.ph ht (qt l) (GK l) (by rw [cg,hn])
structure RR (w:World) (r:Ro) (s d t p:Value):Prop where
 sr:Rd w s 2 (vF r.sr)
 de:Rd w d 3 (vi r.de)
 ti:Rd w t 3 (ui r.ti)
 po:Rd w p 3 (sU r.po)
theorem RR.keeps {w w':World} {r:Ro} {s d t p:Value} (h:RR w r s d t p) (hk:aG [] w w'):RR w' r s d t p:=⟨h.sr.keeps hk,h.de.keeps hk,h.ti.keeps hk,h.po.keeps hk⟩
def RA (r:Ro) (s d t p:Value):Value:=.agg #[.int .i64 r.lv,.int .i64 r.ma,s,d,t,p]
abbrev JQ (b:Nat) (r:Ro) (s d t p:Value):a8:=bA b (.cells #[.int .i64 r.lv,.int .i64 r.ma,s,d,t,p] 27 (0,0))
abbrev JP (b:Nat) (r:Ro) (s d t p:Value):a8:=bA b (.cells #[.int .i64 r.lv,.int .i64 r.ma,s,d,t,p] 41 (0,0))
abbrev J1 (r:Ro) (v:Value):a8:=row 186 2 v r.sr.length (nH r.sr)
abbrev J2 (r:Ro) (v:Value):a8:=row 90 3 v r.de.length (lE r.de)
abbrev J3 (r:Ro) (v:Value):a8:=row 187 3 v r.ti.length (pC r.ti)
abbrev J4 (r:Ro) (v:Value):a8:=row 188 3 v r.po.length (jf r.po)
abbrev JW (v:Value) (l:List ByteArray):a8:=row 9 1 v l.length (aO l)
end Go.Proofs.A1
namespace Go.SL
open Go
def Kr (As:List a8):a8 where
 sat h fp:=bY h As fp
 loc:=fun hs hb=>hs.loc hb
 own:=fun hs b hb=>hs.own b hb
def fT (E:TypeId):List Value→List (List Value)→List a8
 | v::vs,x::xs=>row E 1 v x.length x::fT E vs xs
 | _,_=>[]
def mE (E:TypeId) (vs:List Value) (xs:List (List Value)):a8:=Kr (fT E vs xs)
theorem xl {E:TypeId} {v:Value} {x:List Value}:∀ {vs:List Value} {xs:List (List Value)} {j:Nat},vs[j]? = some v→xs[j]? = some x→∃ r,Take (fT E vs xs) (row E 1 v x.length x) r
 | [],_,j,h,_=>by simp at h
 | _::_,[],j,_,h=>by simp at h
 | v' :: vs, x' :: xs, 0, h1, h2 => by
  simp only [List.getElem?_cons_zero,Option.some.injEq] at h1 h2
  subst h1 h2
  exact ⟨_,.here⟩
 | v' :: vs, x' :: xs, j + 1, h1, h2 => by
  simp only [List.getElem?_cons_succ] at h1 h2
  obtain ⟨r,hr⟩:=xl h1 h2
  exact ⟨_,.there hr⟩
theorem xo {E:TypeId} {v:Value} {x:List Value}:∀ {vs:List Value} {xs:List (List Value)},vs.length=xs.length→fT E (vs++[v]) (xs++[x])=fT E vs xs++[row E 1 v x.length x]
 | [],[],_=>rfl
 | [],_::_,h=>by simp at h
 | _::_,[],h=>by simp at h
 | v' :: vs, x' :: xs, h => by
  simp only [List.length_cons,Nat.add_right_cancel_iff] at h
  simp only [Zb,fT,xo h]
theorem Mem.Cu {c:Cx} {hs hs':List a8} {w:World} {E:TypeId} {vs:List Value} {xs:List (List Value)} {j:Nat} {v:Value} {x:List Value} (hm:Mem c hs w) (ht:Take hs (mE E vs xs) hs') (hv:vs[j]? = some v) (hx:xs[j]? = some x):Rd w v 1 (x.map fun u=>[u]):=by
 obtain ⟨k,fp,hn,⟨f1,f2,rfl,h1,h2⟩,hb⟩:=hm.take ht
 have lP:Mem c (fT E vs xs++hs') w:=⟨k,f1++f2,hn,bY.append_iff.2 ⟨f1,f2,rfl,h1,h2⟩,hb⟩
 obtain ⟨r,hr⟩:=xl (E:=E) hv hx
 exact lP.Ph (hr.append hs') rfl
section
variable {P:Program} {r:Option Nat} {c:Cx} {D:List Nat} {sl:aI} {hs hs':List a8} {X:Act→World→Prop} {Q:Exit→Act→World→Prop} {ι:Type}
variable {ops:Array Oper} {d:Nat} {ty:TypeId} {pos:String} {af:Array Edge} {rest:List Oper}
theorem my {E:TypeId} {vs:List Value} {xs:List (List Value)} {v:Value} {x:List Value} {n:Nat} {h1 h2:List a8} (ht:Take hs (mE E vs xs) h1) (ht2:Take h1 (row E 1 v n x) h2) (hn:n=x.length) (hl:vs.length=xs.length)
  (k:Tr c D sl (mE E (vs++[v]) (xs++[x])::h2) X):Tr c D sl hs X:=fun a w a7=>by
 subst hn
 have hT:bo hs [mE E vs xs,row E 1 v x.length x] h2:=.cons ht (.cons ht2 .nil)
 have hm:=a7.mem.iZ (hT.append (l8 D))
 obtain ⟨kk,fp,qV,⟨f1,f2',rfl,g1,⟨f2,f3,rfl,g2,g3⟩⟩,hb⟩:=hm
 refine k a w (a7.heap ⟨kk,(f1++f2)++f3,by rw [Zh];exact qV,⟨f1++f2,f3,rfl,?_,g3⟩,by rw [Zh];exact hb⟩)
 show bY (hp w) (fT E (vs++[v]) (xs++[x])) (f1++f2)
 rw [xo hl]
 exact bY.append_iff.2 ⟨f1,f2,rfl,g1,⟨f2,[],by simp,g2,rfl⟩⟩
theorem kJ (E:TypeId) (k:Tr c D sl (mE E [] []::hs) X):Tr c D sl hs X:=fun a w a7=>
 k a w (a7.heap (Mem.change (As := []) (Bs := [mE E [] []]) a7.mem fun fp _ hf => by
  rw [show fp=[] from hf]
  exact ⟨.refl _ _,[],List.nodup_nil,⟨[],[],rfl,rfl,rfl⟩,by simp⟩))
theorem wI {As:List a8} (ht:Take hs (Kr As) hs') (k:Tr c D sl (As++hs') X):Tr c D sl hs X:=fun a w a7=>by
 obtain ⟨kk,fp,hn,⟨f1,f2,rfl,h1,h2⟩,hb⟩:=a7.mem.take (ht.append _)
 exact k a w (a7.heap ⟨kk,f1++f2,hn,by rw [Zh];exact bY.append_iff.2 ⟨f1,f2,rfl,h1,h2⟩,hb⟩)
theorem rp {As:List a8} (ht:bo hs As hs') (k:Tr c D sl (Kr As::hs') X):Tr c D sl hs X:=fun a w a7=>by
 obtain ⟨kk,fp,hn,ie,hb⟩:=a7.mem.iZ (ht.append (l8 D))
 obtain ⟨f1,f2,rfl,h1,h2⟩:=bY.append_iff.1 ie
 exact k a w (a7.heap ⟨kk,f1++f2,hn,⟨f1,f2,rfl,h1,h2⟩,hb⟩)
theorem fI {op:Op} {f:FuncId} {args:List Value} {As:List a8} {Φ:ι→Prop} {val:ι→Value} {own:ι→List a8} (hr:ln P sl ⟨some d,op,ty,pos,af,none⟩ f args) (hd:Nat.blt d c.nt=true) (ht:bo hs As hs')
  (hc:∀ w fp,Mem c hs w→fp.Nodup→bY (hp w) As fp→(∀ b∈fp,b∈c.md∨c.w0.heap.size≤b)→(∀ b o h2,Take hs' (bA b o) h2→b ∉ fp)→bd P f args w fp Φ val own)
  (k:∀ x,Φ x→Tr c D ((d,val x)::sl) (own x++hs') (WL P r ops Q rest)):Tr c D sl hs (WL P r ops Q (⟨some d,op,ty,pos,af,none⟩::rest)):=fun a w a7=>by
 have hm:=a7.mem.iZ (ht.append (l8 D))
 obtain ⟨kk,fp,hn,ie,hb⟩:=hm
 obtain ⟨f1,f2,rfl,h1,h2⟩:=bY.append_iff.1 ie
 obtain ⟨n1,n2,n12⟩:=List.nodup_append.1 hn
 have kp:∀ b o h3,Take hs' (bA b o) h3→b ∉ f1:=fun b o h3 htk MA=>by
  obtain ⟨g1,g2,⟨e1,_⟩,_,hp⟩:=bY.take (htk.append (l8 D)) h2
  have:b∈f2:=hp.mem_iff.2 (List.mem_append_left _ (by rw [e1];simp))
  exact n12 b MA b this rfl
 refine yb rfl hr a7.cM (hc w f1 a7.qL n1 h1 (fun b dy=>(hb b (List.mem_append_left _ dy)).symm) kp) fun e w' ⟨x,he,hx,hk,lh,qV,hs',u4⟩=>⟨val x,he,k x hx _ _ ((a7.put (by simpa [Nat.blt_eq] using hd) (val x)).heap ?_)⟩
 have aL:∀ b∈f2,b<w.heap.size:=fun b dy=>let ⟨o,ho⟩:=h2.own b dy;jQ ho
 rw [Zh]
 refine ⟨?_,lh++f2,?_,bY.append_iff.2 ⟨lh,f2,rfl,hs',h2.loc fun b dy=>?_⟩,?_⟩
 ·refine ⟨hk.os.trans kk.os,hk.tape.trans kk.tape,hk.output.trans kk.output,Nat.le_trans kk.dr hk.dr,Nat.le_trans kk.size hk.size,fun b dy hm=>?_⟩
  rw [← kk.block b dy hm]
  refine hk.block b (Nat.lt_of_lt_of_le dy kk.size) (fun hf=>?_)
  rcases hb b (List.mem_append_left _ hf) with h | h
  ·omega
  ·exact hm h
 ·refine List.nodup_append.2 ⟨qV,n2,fun x hx y hy e=>?_⟩
  subst e
  rcases u4 x hx with h | h
  ·exact n12 x h x hy rfl
  ·have:=aL x hy;omega
 ·exact hk.block b (aL b dy) (fun hf=>n12 b hf b dy rfl)
 ·intro b dy
  rcases List.mem_append.1 dy with h | h
  ·rcases u4 b h with h | h
   ·exact hb b (List.mem_append_left _ h)
   ·exact .inl (Nat.le_trans kk.size h)
  ·exact hb b (List.mem_append_right _ h)
end
end Go.SL
namespace Go.Proofs.A1
open Go Go.SL
def gK {α:Type} (p:α→Bool) (l:List α):Int:=((List.range l.length).find? fun i=>(l[i]?.map p).getD false).elim (-1) (fun i=>(i:Int))
theorem gj {α:Type} {p:α→Bool} {l:List α} {k:Nat} (h:∀ i,i<k→(l[i]?.map p).getD false=false) (hk:k<l.length) (hp:p l[k]=true):gK p l=k:=by
 unfold gK
 have:(List.range l.length).find? (fun i=>(l[i]?.map p).getD false)=some k:=by
  rw [List.find?_range_eq_some]
  exact ⟨by simp [hk,hp],by simpa using hk,fun i hi=>by simpa using h i hi⟩
 rw [this];rfl
theorem fx {α:Type} {p:α→Bool} {l:List α} (h:∀ i,i<l.length→(l[i]?.map p).getD false=false):gK p l = -1:=by
 unfold gK
 have:(List.range l.length).find? (fun i=>(l[i]?.map p).getD false)=none:=by
  rw [List.find?_eq_none]
  intro i hi
  simp [h i (List.mem_range.1 hi)]
 rw [this];rfl
theorem jP {α:Type} (p:α→Bool) (l:List α):decide (0≤gK p l)=l.any p:=by
 unfold gK
 cases h:(List.range l.length).find? fun i=>(l[i]?.map p).getD false with
 | none =>
  have:l.any p=false:=by
   rw [List.any_eq_false]
   intro x hx
   obtain ⟨i,hi,rfl⟩:=List.getElem_of_mem hx
   have:=List.find?_eq_none.1 h i (List.mem_range.2 hi)
   simpa [hi] using this
  rw [this];rfl
 | some i =>
  have h1:=List.mem_range.1 (List.mem_of_find?_eq_some h)
  have h2:=List.find?_some h
  have:l.any p=true:=by
   rw [List.any_eq_true]
   exact ⟨l[i],Zj h1,by simpa [h1] using h2⟩
  rw [this];simp
theorem Ee {lv:Value} {l:List Sr} {p:Sr→Bool} {f:FuncId} {first cap:List Value} [bS Tryz.prog f] {w:World} (h:Rd w lv 2 (vF l)) (cn:∀ x∈l,∀ w',aG [] w w'→aj Tryz.prog f (first++[.agg x.cells.toArray]++cap) w' (.bool (p x))) :
  aj Tryz.prog 263 [lv,.func (.func f) first.toArray cap.toArray] w (.int .i64 (gK p l)):=by
 obtain ⟨a,cp,b,o,rfl,db,bT,ha,hc⟩:=h
 rw [cu] at *
 unfold maxLen at bT
 refine ah Tryz.func263 rfl rfl ?_
 refine Jr<|Ja rfl<|Jn<|Jq<|Jr<|Jv rfl<|JI rfl<|Jv rfl<|Jn<|J0 ?_
 refine aX (fun k:Nat=>k≤l.length∧∀ i,i<k→(l[i]?.map p).getD false=false) (fun k=>[(8,.int .i64 k),(7,.int .i64 l.length),(0,.slice a l.length cp),(1,.func (.func f) first.toArray cap.toArray)]) (fun _=>[]) (fun k=>l.length-k) ?_ ?_
 ·apply aJ 0 ⟨Zi _,fun i h=>by omega⟩
  case hs1=>exact cd
  case ht=>(try simp only [Ze,Zf,Za]);exact .nil
 rintro k ⟨hk,hf⟩
 by_cases aL:k<l.length
 ·have cE:=ha (gB aL)
  have aC:=(hc k _ (fm aL)).2
  have iF:=cn _ (Zj aL)
  have hps:(l[k]?.map p).getD false=p l[k]:=by simp [aL]
  unfold Sr.cells at aC iF
  (refine Jr<|JA rfl<|Jn<|Jq<|Jd rfl fun ar=>Jk<|Jq<|J0<|Jr<|Jv rfl<|Ja rfl<|Ji<|Jv rfl<|Jv rfl<|Jv rfl<|ab (fH cE ar) rfl ?_;refine ab (iv (eF.base aC rfl)) rfl ?_;refine ai bI rfl (fun w' au=>(iF w' (Mem.keeps au))) ?_;refine Jn<|nB rfl (fun ar=>?_) fun ar=>?_;refine Jr<|Jv rfl<|Ja rfl<|Jn<|Je<|Jm<|Jh<|Jh<|Jm<|Jh<|JT ?_;rotate_left;refine Jw<|Jj<|Jt<|Jg<|JB rfl (by omega)<|Jv rfl<|Jn ?_;rotate_right)
  ·rw [gj hf aL ar]
  ·apply aK (k+1) ⟨by omega,fun i hi=>by
    by_cases e:i=k
    ·rw [e,hps];exact ar
    ·exact hf i (by omega)⟩ (by omega)
   case hs1=>exact cd
   case ht=>(try simp only [Ze,Zf,Za]);exact .nil
 ·obtain rfl:k=l.length:=by omega
  refine Jr<|JA rfl<|Jn<|Jq<|Jc rfl fun ar=>Jp<|Jl<|Jo<|Jt<|Jr<|Ja rfl<|Jn<|Je<|JT ?_
  rw [fx hf]
theorem MD {lv:Value} {l:List Sr} {p:Sr→Bool} {f:FuncId} {first cap:List Value} [bS Tryz.prog f] {w:World} (h:Rd w lv 2 (vF l)) (cn:∀ x∈l,∀ w',aG [] w w'→aj Tryz.prog f (first++[.agg x.cells.toArray]++cap) w' (.bool (p x))) :
  aj Tryz.prog 227 [lv,.func (.func f) first.toArray cap.toArray] w (.bool (l.any p)):=by
 have iF:∀ w',aG [] w w'→aj Tryz.prog 263 [lv,.func (.func f) first.toArray cap.toArray] w' (.int .i64 (gK p l)):=fun w' hk=>
  Ee (h.keeps hk) fun x hx w2 eC=>cn x hx w2 (hk.trans eC)
 rw [← jP]
 refine ah Tryz.func227 rfl rfl ?_
 (refine Jr<|Ja rfl<|Ji<|Jv rfl<|Jv rfl<|ai aZ rfl (fun w' au=>(iF w' (Mem.keeps au))) ?_;refine JG rfl<|Ja rfl<|Jn<|Je<|JT ?_)
 rfl
theorem Mm {lv:Value} {l:List De} {p:De→Bool} {f:FuncId} {first cap:List Value} [bS Tryz.prog f] {w:World} (h:Rd w lv 3 (vi l)) (cn:∀ x∈l,∀ w',aG [] w w'→aj Tryz.prog f (first++[.agg x.cells.toArray]++cap) w' (.bool (p x))) :
  aj Tryz.prog 242 [lv,.func (.func f) first.toArray cap.toArray] w (.int .i64 (gK p l)):=by
 obtain ⟨a,cp,b,o,rfl,db,bT,ha,hc⟩:=h
 rw [bU] at *
 unfold maxLen at bT
 refine ah Tryz.func242 rfl rfl ?_
 refine Jr<|Ja rfl<|Jn<|Jq<|Jr<|Jv rfl<|JI rfl<|Jv rfl<|Jn<|J0 ?_
 refine aX (fun k:Nat=>k≤l.length∧∀ i,i<k→(l[i]?.map p).getD false=false) (fun k=>[(8,.int .i64 k),(7,.int .i64 l.length),(0,.slice a l.length cp),(1,.func (.func f) first.toArray cap.toArray)]) (fun _=>[]) (fun k=>l.length-k) ?_ ?_
 ·apply aJ 0 ⟨Zi _,fun i h=>by omega⟩
  case hs1=>exact cd
  case ht=>(try simp only [Ze,Zf,Za]);exact .nil
 rintro k ⟨hk,hf⟩
 by_cases aL:k<l.length
 ·have cE:=ha (gl aL)
  have aC:=(hc k _ (eX aL)).2
  have iF:=cn _ (Zj aL)
  have hps:(l[k]?.map p).getD false=p l[k]:=by simp [aL]
  unfold De.cells at aC iF
  (refine Jr<|JA rfl<|Jn<|Jq<|Jd rfl fun ar=>Jk<|Jq<|J0<|Jr<|Jv rfl<|Ja rfl<|Ji<|Jv rfl<|Jv rfl<|Jv rfl<|ab (fH cE ar) rfl ?_;refine ab (iv (eF.base aC rfl)) rfl ?_;refine ai bI rfl (fun w' au=>(iF w' (Mem.keeps au))) ?_;refine Jn<|nB rfl (fun ar=>?_) fun ar=>?_;refine Jr<|Jv rfl<|Ja rfl<|Jn<|Je<|Jm<|Jh<|Jh<|Jm<|Jh<|JT ?_;rotate_left;refine Jw<|Jj<|Jt<|Jg<|JB rfl (by omega)<|Jv rfl<|Jn ?_;rotate_right)
  ·rw [gj hf aL ar]
  ·apply aK (k+1) ⟨by omega,fun i hi=>by
    by_cases e:i=k
    ·rw [e,hps];exact ar
    ·exact hf i (by omega)⟩ (by omega)
   case hs1=>exact cd
   case ht=>(try simp only [Ze,Zf,Za]);exact .nil
 ·obtain rfl:k=l.length:=by omega
  refine Jr<|JA rfl<|Jn<|Jq<|Jc rfl fun ar=>Jp<|Jl<|Jo<|Jt<|Jr<|Ja rfl<|Jn<|Je<|JT ?_
  rw [fx hf]
theorem Mk {lv:Value} {l:List Ti} {p:Ti→Bool} {f:FuncId} {first cap:List Value} [bS Tryz.prog f] {w:World} (h:Rd w lv 3 (ui l)) (cn:∀ x∈l,∀ w',aG [] w w'→aj Tryz.prog f (first++[.agg x.cells.toArray]++cap) w' (.bool (p x))) :
  aj Tryz.prog 246 [lv,.func (.func f) first.toArray cap.toArray] w (.int .i64 (gK p l)):=by
 obtain ⟨a,cp,b,o,rfl,db,bT,ha,hc⟩:=h
 rw [bJ] at *
 unfold maxLen at bT
 refine ah Tryz.func246 rfl rfl ?_
 refine Jr<|Ja rfl<|Jn<|Jq<|Jr<|Jv rfl<|JI rfl<|Jv rfl<|Jn<|J0 ?_
 refine aX (fun k:Nat=>k≤l.length∧∀ i,i<k→(l[i]?.map p).getD false=false) (fun k=>[(8,.int .i64 k),(7,.int .i64 l.length),(0,.slice a l.length cp),(1,.func (.func f) first.toArray cap.toArray)]) (fun _=>[]) (fun k=>l.length-k) ?_ ?_
 ·apply aJ 0 ⟨Zi _,fun i h=>by omega⟩
  case hs1=>exact cd
  case ht=>(try simp only [Ze,Zf,Za]);exact .nil
 rintro k ⟨hk,hf⟩
 by_cases aL:k<l.length
 ·have cE:=ha (eT aL)
  have aC:=(hc k _ (dQ aL)).2
  have iF:=cn _ (Zj aL)
  have hps:(l[k]?.map p).getD false=p l[k]:=by simp [aL]
  unfold Ti.cells at aC iF
  (refine Jr<|JA rfl<|Jn<|Jq<|Jd rfl fun ar=>Jk<|Jq<|J0<|Jr<|Jv rfl<|Ja rfl<|Ji<|Jv rfl<|Jv rfl<|Jv rfl<|ab (fH cE ar) rfl ?_;refine ab (iv (eF.base aC rfl)) rfl ?_;refine ai bI rfl (fun w' au=>(iF w' (Mem.keeps au))) ?_;refine Jn<|nB rfl (fun ar=>?_) fun ar=>?_;refine Jr<|Jv rfl<|Ja rfl<|Jn<|Je<|Jm<|Jh<|Jh<|Jm<|Jh<|JT ?_;rotate_left;refine Jw<|Jj<|Jt<|Jg<|JB rfl (by omega)<|Jv rfl<|Jn ?_;rotate_right)
  ·rw [gj hf aL ar]
  ·apply aK (k+1) ⟨by omega,fun i hi=>by
    by_cases e:i=k
    ·rw [e,hps];exact ar
    ·exact hf i (by omega)⟩ (by omega)
   case hs1=>exact cd
   case ht=>(try simp only [Ze,Zf,Za]);exact .nil
 ·obtain rfl:k=l.length:=by omega
  refine Jr<|JA rfl<|Jn<|Jq<|Jc rfl fun ar=>Jp<|Jl<|Jo<|Jt<|Jr<|Ja rfl<|Jn<|Je<|JT ?_
  rw [fx hf]
theorem zi {lv:Value} {l:List Ti} {p:Ti→Bool} {f:FuncId} {first cap:List Value} [bS Tryz.prog f] {w:World} (h:Rd w lv 3 (ui l)) (cn:∀ x∈l,∀ w',aG [] w w'→aj Tryz.prog f (first++[.agg x.cells.toArray]++cap) w' (.bool (p x))) :
  aj Tryz.prog 159 [lv,.func (.func f) first.toArray cap.toArray] w (.bool (l.any p)):=by
 have iF:∀ w',aG [] w w'→aj Tryz.prog 246 [lv,.func (.func f) first.toArray cap.toArray] w' (.int .i64 (gK p l)):=fun w' hk=>
  Mk (h.keeps hk) fun x hx w2 eC=>cn x hx w2 (hk.trans eC)
 rw [← jP]
 refine ah Tryz.func159 rfl rfl ?_
 (refine Jr<|Ja rfl<|Ji<|Jv rfl<|Jv rfl<|ai aZ rfl (fun w' au=>(iF w' (Mem.keeps au))) ?_;refine JG rfl<|Ja rfl<|Jn<|Je<|JT ?_)
 rfl
theorem y7 {lv:Value} {l:List Po} {p:Po→Bool} {f:FuncId} {first cap:List Value} [bS Tryz.prog f] {w:World} (h:Rd w lv 3 (sU l)) (cn:∀ x∈l,∀ w',aG [] w w'→aj Tryz.prog f (first++[.agg x.cells.toArray]++cap) w' (.bool (p x))) :
  aj Tryz.prog 297 [lv,.func (.func f) first.toArray cap.toArray] w (.int .i64 (gK p l)):=by
 obtain ⟨a,cp,b,o,rfl,db,bT,ha,hc⟩:=h
 rw [cN] at *
 unfold maxLen at bT
 refine ah Tryz.func297 rfl rfl ?_
 refine Jr<|Ja rfl<|Jn<|Jq<|Jr<|Jv rfl<|JI rfl<|Jv rfl<|Jn<|J0 ?_
 refine aX (fun k:Nat=>k≤l.length∧∀ i,i<k→(l[i]?.map p).getD false=false) (fun k=>[(8,.int .i64 k),(7,.int .i64 l.length),(0,.slice a l.length cp),(1,.func (.func f) first.toArray cap.toArray)]) (fun _=>[]) (fun k=>l.length-k) ?_ ?_
 ·apply aJ 0 ⟨Zi _,fun i h=>by omega⟩
  case hs1=>exact cd
  case ht=>(try simp only [Ze,Zf,Za]);exact .nil
 rintro k ⟨hk,hf⟩
 by_cases aL:k<l.length
 ·have cE:=ha (jZ aL)
  have aC:=(hc k _ (ib aL)).2
  have iF:=cn _ (Zj aL)
  have hps:(l[k]?.map p).getD false=p l[k]:=by simp [aL]
  unfold Po.cells at aC iF
  (refine Jr<|JA rfl<|Jn<|Jq<|Jd rfl fun ar=>Jk<|Jq<|J0<|Jr<|Jv rfl<|Ja rfl<|Ji<|Jv rfl<|Jv rfl<|Jv rfl<|ab (fH cE ar) rfl ?_;refine ab (iv (eF.base aC rfl)) rfl ?_;refine ai bI rfl (fun w' au=>(iF w' (Mem.keeps au))) ?_;refine Jn<|nB rfl (fun ar=>?_) fun ar=>?_;refine Jr<|Jv rfl<|Ja rfl<|Jn<|Je<|Jm<|Jh<|Jh<|Jm<|Jh<|JT ?_;rotate_left;refine Jw<|Jj<|Jt<|Jg<|JB rfl (by omega)<|Jv rfl<|Jn ?_;rotate_right)
  ·rw [gj hf aL ar]
  ·apply aK (k+1) ⟨by omega,fun i hi=>by
    by_cases e:i=k
    ·rw [e,hps];exact ar
    ·exact hf i (by omega)⟩ (by omega)
   case hs1=>exact cd
   case ht=>(try simp only [Ze,Zf,Za]);exact .nil
 ·obtain rfl:k=l.length:=by omega
  refine Jr<|JA rfl<|Jn<|Jq<|Jc rfl fun ar=>Jp<|Jl<|Jo<|Jt<|Jr<|Ja rfl<|Jn<|Je<|JT ?_
  rw [fx hf]
theorem ME {lv:Value} {l:List Po} {p:Po→Bool} {f:FuncId} {first cap:List Value} [bS Tryz.prog f] {w:World} (h:Rd w lv 3 (sU l)) (cn:∀ x∈l,∀ w',aG [] w w'→aj Tryz.prog f (first++[.agg x.cells.toArray]++cap) w' (.bool (p x))) :
  aj Tryz.prog 301 [lv,.func (.func f) first.toArray cap.toArray] w (.bool (l.any p)):=by
 have iF:∀ w',aG [] w w'→aj Tryz.prog 297 [lv,.func (.func f) first.toArray cap.toArray] w' (.int .i64 (gK p l)):=fun w' hk=>
  y7 (h.keeps hk) fun x hx w2 eC=>cn x hx w2 (hk.trans eC)
 rw [← jP]
 refine ah Tryz.func301 rfl rfl ?_
 (refine Jr<|Ja rfl<|Ji<|Jv rfl<|Jv rfl<|ai aZ rfl (fun w' au=>(iF w' (Mem.keeps au))) ?_;refine JG rfl<|Ja rfl<|Jn<|Je<|JT ?_)
 rfl
end Go.Proofs.A1
