/- Parts of the proof: GkRegO GkCopy GkZ K2 K3 KZz GkPool K4. -/
import Derived.Test.YteonnodafmegaaaGreatDoorNM03
import Derived.Lib.AppendZerosOnto
import Derived.Test.YteonnodafmegaaaGreatDoorNM01
import Derived.Laws.RangeAny
import Derived.Laws.RangeString
import Derived.Test.YteonnodafmegaaaGreatDoorNM02
set_option linter.unusedSectionVars false
set_option linter.unusedVariables false
set_option linter.unusedSimpArgs false
namespace Go.SL
open Go
inductive Step where
 | rel (R:Rel)
 | new (V:Nat→Value) (ob:Obj)
def Step.r:Step→Rel
 | .rel R=>R
 | .new V ob=>Dp V ob
section
variable {P:Program} {r:Option Nat} {c:Cx} {D:List Nat} {sl jk:aG} {rl kE:eJ} {hs:List a8} {Q:Exit→Act→World→Prop} {l:List Oper} {ops:Array Oper} {m:Nat} {S:List Step}
inductive mH (P:Program) (c:Cx) (hs:List a8) (ops:Array Oper):List Oper→aG→eJ→List Step→aG→eJ→Prop
 | nil {sl:aG} {rl:eJ}:mH P c hs ops [] sl rl [] sl rl
 | val {o:Oper} {l:List Oper} {sl jk:aG} {rl kE:eJ} {d:Nat} {V:Value} {S:List Step} (hd:o.dst=some d) (fH:d<c.nt) (h:tl P c hs ops sl rl o (.val V)) (t:mH P c hs ops l ((d,V)::sl) rl S jk kE) :
   mH P c hs ops (o::l) sl rl (.rel (.val V)::S) jk kE
 | new {o:Oper} {l:List Oper} {sl jk:aG} {rl kE:eJ} {d:Nat} {V:Nat→Value} {ob:Obj} {S:List Step} (hd:o.dst=some d) (fH:d<c.nt) (hn:cK sl d=none) (hg:o.guard=none)
   (hr:qD P c sl hs o V ob) (t:mH P c hs ops l sl ((d,Dp V ob)::rl) S jk kE):mH P c hs ops (o::l) sl rl (.new V ob::S) jk kE
theorem mH.TP {sl jk:aG} {rl kE:eJ} (h:mH P c hs ops l sl rl S jk kE):sy P c hs ops l sl rl (S.map Step.r) jk kE:=by
 induction h with
 | nil=>exact .nil
 | val hd fH h _ ih=>exact .val hd fH h ih
 | @new o l sl jk rl kE d V ob S hd fH hn hg hr _ ih =>
  refine .rel hd fH hn (nP hg fun a w h1 _ h3=>?_) ih
  unfold wW
  rw [hr.2 a w h1 h3]
  exact ⟨.alloc _ _ _,w.heap.size,rfl,World.alloc_heap_new w ob⟩
theorem mH.SC {sl jk:aG} {rl kE:eJ} (h:mH P c hs ops l sl rl S jk kE) :
  ∀ (i : Nat) (o : Oper) (V : Nat → Value) (ob : Obj), l[i]? = some o → S[i]? = some (.new V ob) → ∃ tM, o.guard = none ∧ qD P c tM hs o V ob ∧
   (∀ t v,cK tM t=some v→(∃ (j:Nat) (oj:Oper),j<i∧l[j]? = some oj∧oj.dst=some t∧(S.map Step.r)[j]? = some (.val v))∨((∀ (j:Nat) (oj:Oper),j<i→l[j]? = some oj→oj.dst≠some t)∧cK sl t=some v)):=by
 induction h with
 | nil=>intro i o V ob h;simp at h
 | @val o0 l sl jk rl kE d V0 S hd fH bb t ih =>
  intro i o V ob ho hS
  cases i with
  | zero=>simp at hS
  | succ i =>
   obtain ⟨tM,hg,hr,h1⟩:=ih i o V ob (by simpa using ho) (by simpa using hS)
   refine ⟨tM,hg,hr,fun t v hv=>?_⟩
   rcases h1 t v hv with ⟨j,oj,hj,iO,iE,jH⟩ | ⟨pH,mM⟩
   ·exact .inl ⟨j+1,oj,by omega,by simpa using iO,iE,by simpa using jH⟩
   ·by_cases wH:d=t
    ·subst wH
     rw [fB] at mM
     cases mM
     exact .inl ⟨0,o0,by omega,rfl,hd,rfl⟩
    ·rw [fA wH] at mM
     refine .inr ⟨fun j oj hj iO=>?_,mM⟩
     cases j with
     | zero=>simp at iO;subst iO;rw [hd];simp [wH]
     | succ j=>exact pH j oj (by omega) (by simpa using iO)
 | @new o0 l sl jk rl kE d V0 ob0 S hd fH hn hg0 Wj t ih =>
  intro i o V ob ho hS
  cases i with
  | zero =>
   simp at ho hS
   subst ho
   obtain ⟨rfl,rfl⟩:=hS
   exact ⟨sl,hg0,Wj,fun t v hv=>.inr ⟨fun j _ hj=>by omega,hv⟩⟩
  | succ i =>
   obtain ⟨tM,hg,hr,h1⟩:=ih i o V ob (by simpa using ho) (by simpa using hS)
   refine ⟨tM,hg,hr,fun t v hv=>?_⟩
   rcases h1 t v hv with ⟨j,oj,hj,iO,iE,jH⟩ | ⟨pH,mM⟩
   ·exact .inl ⟨j+1,oj,by omega,by simpa using iO,iE,by simpa using jH⟩
   ·have wH:d≠t:=fun e=>by subst e;rw [hn] at mM;cases mM
    refine .inr ⟨fun j oj hj iO=>?_,mM⟩
    cases j with
    | zero=>simp at iO;subst iO;rw [hd];simp [wH]
    | succ j=>exact pH j oj (by omega) (by simpa using iO)
def qF (β:Nat→Nat) (lst:Nat→Bool):List Step→Nat→List a8
 | [],_=>[]
 | .new _ ob::S,i=>if lst i then bG (β i) ob::qF β lst S (i+1) else qF β lst S (i+1)
 | .rel _::S,i=>qF β lst S (i+1)
theorem oN {β β':Nat→Nat} {lst mX:Nat→Bool}:∀ {S:List Step} {i:Nat},(∀ j V ob,S[j]? = some (.new V ob)→lst (i+j)=mX (i+j)∧(lst (i+j)=true→β (i+j)=β' (i+j)))→qF β lst S i=qF β' mX S i
 | [],_,_=>rfl
 | .rel _ :: S, i, h => by
  unfold qF
  exact oN fun j V ob hj=>by have:=h (j+1) V ob (by simpa using hj);rwa [show i+(j+1)=i+1+j from by omega] at this
 | .new V ob :: S, i, h => by
  have h0:=h 0 V ob rfl
  have ih:qF β lst S (i+1)=qF β' mX S (i+1):=oN fun j V ob hj=>by have:=h (j+1) V ob (by simpa using hj);rwa [show i+(j+1)=i+1+j from by omega] at this
  simp only [Zaw] at h0
  unfold qF
  rw [ih,← h0.1]
  by_cases hl:lst i=true
  ·rw [if_pos hl,if_pos hl,h0.2 hl]
  ·rw [if_neg hl,if_neg hl]
theorem Aq {β β':Nat→Nat} {lst mX:Nat→Bool} {k b:Nat} {V:Nat→Value} {ob:Obj}:∀ {S:List Step} {i:Nat},S[k]? = some (.new V ob)→lst (i+k)=false→mX (i+k)=true→β' (i+k)=b→(∀ j,j≠i+k→mX j=lst j∧β' j=β j) →
  (bG b ob::qF β lst S i).Perm (qF β' mX S i)
 | [],_,h,_,_,_,_=>by simp at h
 | .rel _ :: S, i, h, h1, h2, h3, h4 => by
  cases k with
  | zero=>simp at h
  | succ k =>
   unfold qF
   refine Aq (k:=k) (V:=V) (by simpa using h) ?_ ?_ ?_ ?_
   all_goals rw [show i+1+k=i+(k+1) from by omega];assumption
 | .new V0 ob0 :: S, i, h, h1, h2, h3, h4 => by
  cases k with
  | zero =>
   simp at h
   obtain ⟨rfl,rfl⟩:=h
   have e:qF β lst S (i+1)=qF β' mX S (i+1):=oN fun j V ob hj=>by
    obtain ⟨e1,e2⟩:=h4 (i+1+j) (by omega)
    exact ⟨e1.symm,fun _=>e2.symm⟩
   simp only [Zaw] at h1 h2 h3
   unfold qF
   rw [if_neg (by simp [h1]),if_pos h2,h3,e]
  | succ k =>
   have ih:(bG b ob::qF β lst S (i+1)).Perm (qF β' mX S (i+1)):=by
    refine Aq (k:=k) (V:=V) (by simpa using h) ?_ ?_ ?_ ?_
    all_goals rw [show i+1+k=i+(k+1) from by omega];assumption
   obtain ⟨e1,e2⟩:=h4 i (by omega)
   unfold qF
   rw [e1,e2]
   by_cases hl:lst i=true
   ·rw [if_pos hl,if_pos hl]
    exact (List.Perm.swap _ _ _).trans (ih.cons _)
   ·rw [if_neg hl,if_neg hl];exact ih
theorem ch.perm {h:Nat→Option Obj} {l1 l2:List a8} (hp:l1.Perm l2):∀ {fp:List Nat},ch h l1 fp→∃ lD,ch h l2 lD∧fp.Perm lD:=by
 induction hp with
 | nil=>intro fp hf;exact ⟨fp,hf,.refl _⟩
 | cons A _ ih =>
  rintro fp ⟨f1,f2,rfl,h1,h2⟩
  obtain ⟨g,hg,Wk⟩:=ih h2
  exact ⟨f1++g,⟨f1,g,rfl,h1,hg⟩,Wk.append_left f1⟩
 | swap A B l =>
  rintro fp ⟨f1,_,rfl,h1,f2,f3,rfl,h2,h3⟩
  refine ⟨f2++(f1++f3),⟨f2,f1++f3,rfl,h2,f1,f3,rfl,h1,h3⟩,?_⟩
  rw [← Zh,← Zh]
  exact List.perm_append_comm.append_right f3
 | trans _ _ ih1 ih2 =>
  intro fp hf
  obtain ⟨g,hg,h1⟩:=ih1 hf
  obtain ⟨g',hg',h2⟩:=ih2 hg
  exact ⟨g',hg',h1.trans h2⟩
theorem Mem.perm {c:Cx} {l1 l2:List a8} {w:World} (h:Mem c l1 w) (hp:l1.Perm l2):Mem c l2 w:=by
 obtain ⟨k,fp,hn,hs,hb⟩:=h
 obtain ⟨g,hg,Wk⟩:=hs.perm hp
 exact ⟨k,g,Wk.nodup_iff.1 hn,hg,fun b dA=>hb b (Wk.mem_iff.2 dA)⟩
def G4 (c:Cx) (D:List Nat) (hs:List a8) (l:List Oper) (S:List Step) (listed:Array Bool) (a:Act) (w:World):Prop:=
 ∃ β : Nat → Nat, Mem c (qF β (fun i => listed.getD i false) S 0 ++ (hs ++ mw D)) w ∧ (∀ i, c.w0.heap.size ≤ β i ∨ ¬ Ls listed i ∨ ∀ V ob, S[i]? ≠ some (.new V ob)) ∧
  ∀ (i:Nat) (o:Oper) (d:Nat) (V:Nat→Value) (ob:Obj),l[i]? = some o→o.dst=some d→S[i]? = some (.new V ob)→Ls listed i→a.tmps[d]? = some (V (β i))
theorem MZ (hc:SJ l m) (hpO:mH P c hs l.toArray (l.take m) sl [] S jk kE) {a0:Act} (h0:bR sl a0) (Kc:a0.tmps.size=c.nt)
  (tail:∀ listed a w,(∀ i,i<m→Ls listed i)→St c D jk hs a w→G4 c D hs (l.take m) S listed a w→WL P r l.toArray Q (l.drop m) a w) :
  ∀ (fuel:Nat) (listed:Array Bool) (a:Act) (w:World),Inv1 c D hs l m (S.map Step.r) a0 fuel listed a w→G4 c D hs (l.take m) S listed a w→wpAnyIn (FR r) 0 P .any l.toArray Q fuel listed a w:=by
 have hp:=hpO.TP
 have l9:=hp.end_
 have dY:∀ (j:Nat) (o:Oper),j<m→l[j]? = some o→(l.take m)[j]? = some o:=fun j o hj ho=>by rw [ZC,if_pos hj];exact ho
 have fu:∀ (j:Nat) (o:Oper),(l.take m)[j]? = some o→j<m∧l[j]? = some o:=fun j o ho=>by
  rw [ZC] at ho
  split at ho
  ·exact ⟨by assumption,ho⟩
  ·cases ho
 have mA:∀ fuel listed a w,Inv1 c D hs l m (S.map Step.r) a0 fuel listed a w→G4 c D hs (l.take m) S listed a w→(∀ i,i<m→Ls listed i)→wpAnyIn (FR r) 0 P .any l.toArray Q fuel listed a w:=by
  intro fuel listed a w hI hO dT
  have hL:∀ i,i<l.length→(Ls listed i↔i<m):=fun i _=>⟨fun h=>ZQ fun hm=>hI.hi i hm h,dT i⟩
  obtain ⟨U,wK,ql,r7⟩:=hI.left
  have ic:U.Perm (List.range' m (l.length-m)):=by
   rw [Zaz wK (Zby)]
   intro i
   rw [ql i,ZaK]
   constructor
   ·rintro ⟨h1,h2⟩
    exact ⟨ZaQ fun h=>h2 (dT i h),by omega⟩
   ·rintro ⟨h1,h2⟩
    exact ⟨by omega,hI.hi i h1⟩
  have hlen:fuel=l.length-m:=by rw [← r7,ic.length_eq,Zbv]
  refine Dv hc fuel m listed a w (Zz _) (by have:=hc.le;omega) hI.sz hL (tail listed a w dT ⟨hI.mem,?_,hI.size,hI.defers⟩ hO)
  ·intro t v hv
   rcases l9.1 t v hv with ⟨j,oj,hj,iE,jH⟩ | ⟨pH,mM⟩
   ·obtain ⟨ig,l8⟩:=fu j oj hj
    obtain ⟨u,hu,np⟩:=hI.new j oj l8 (dT j ig) t _ iE jH
    rw [hu,show u=v from np]
   ·rw [hI.BA t fun j oj hj jF=>pH j oj (dY j oj (ZQ fun hm=>hI.hi j hm jF) hj)]
    exact h0 t v mM
 intro fuel
 induction fuel with
 | zero =>
  intro listed a w hI hO
  obtain ⟨U,_,ql,r7⟩:=hI.left
  have hU:U=[]:=Zan.1 r7
  refine mA 0 listed a w hI hO fun i hi=>Classical.byContradiction fun hn=>?_
  have:=(ql i).2 ⟨by have:=hc.le;omega,hn⟩
  rw [hU] at this;cases this
 | succ fuel ih =>
  intro listed a w hI hO
  by_cases dT:∀ i,i<m→Ls listed i
  ·exact mA _ listed a w hI hO dT
  ·have hex:∃ i,i<m∧¬ Ls listed i:=Classical.byContradiction fun hh=>dT fun i hi=>Classical.byContradiction fun hn=>hh ⟨i,hi,hn⟩
   obtain ⟨i0,wG,px⟩:=hex
   refine ⟨fun hr=>?_,fun i hi=>?_⟩
   ·obtain ⟨i,hi⟩:=ji hI.sz hc.ac ⟨i0,by have:=hc.le;omega,px⟩
    rw [hr] at hi;cases hi
   ·have o8:i<m:=ZQ fun hm=>px (pV hc hI.sz hI.dc hi hm i0 (by omega))
    obtain ⟨o,ho,hn,lQ⟩:=(dE hI.sz).1 hi
    obtain ⟨tM,Lz,R,R3,fW,hs1,hs2⟩:=hp.at_ i o (dY i o o8 ho)
    obtain ⟨d,R',hd,fH,rp⟩:=l9.2.2 i o (dY i o o8 ho)
    rw [R3] at rp;cases rp
    have kr:∀ (j:Nat),eR o j=true→Ls listed j:=fun j hw=>by
     obtain ⟨e,he,hb,nL⟩:=c5 hw
     rw [← nL];exact lQ e he hb
    have B4:∀ (j t:Nat) (oj:Oper),j<i→(l.take m)[j]? = some oj→oj.dst=some t→t∈o.looksAt l.toArray→Ls listed j:=by
     intro j t oj hj iO iE ht
     obtain ⟨ig,l8⟩:=fu j oj iO
     exact kr j ((di (lO hc hj o8 l8 ho) iE hd).2 (.inl ht))
    have Pb:∀ tM:aG,(∀ t v,cK tM t=some v→(∃ (j:Nat) (oj:Oper),j<i∧(l.take m)[j]? = some oj∧oj.dst=some t∧(S.map Step.r)[j]? = some (.val v))∨((∀ (j:Nat) (oj:Oper),j<i→(l.take m)[j]? = some oj→oj.dst≠some t)∧cK sl t=some v)) →
      ∃ a':Act,bR tM a'∧∀ t∈o.looksAt l.toArray,a'.tmps[t]? = a.tmps[t]?:=by
     intro tM hs1
     have hT:∀ t∈o.looksAt l.toArray,∀ v,cK tM t=some v→a.tmps[t]? = some v:=by
      intro t ht v hv
      rcases hs1 t v hv with ⟨j,oj,hj,iO,iE,jH⟩ | ⟨pH,mM⟩
      ·obtain ⟨u,hu,np⟩:=hI.new j oj (fu j oj iO).2 (B4 j t oj hj iO iE ht) t _ iE jH
       rw [hu,show u=v from np]
      ·rw [hI.BA t fun j oj hj jF iE=>?_]
       ·exact h0 t v mM
       ·have ig:j<m:=ZQ fun hm=>hI.hi j hm jF
        rcases Zak j i with h | h | h
        ·exact pH j oj h (dY j oj ig hj) iE
        ·subst h;exact hn jF
        ·have hw:=(di (lO hc h ig ho hj) hd iE).2 (.inr ht)
         obtain ⟨e,he,hb,nL⟩:=c5 hw
         have:=hI.dc j oj hj jF e he hb
         rw [nL] at this
         exact hn this
     have vj:∀ t v,cK tM t=some v→t<c.nt:=by
      intro t v hv
      rcases hs1 t v hv with ⟨j,oj,_,iO,iE,_⟩ | ⟨_,mM⟩
      ·obtain ⟨d',_,wa,zU,_⟩:=l9.2.2 j oj iO
       rw [iE] at wa;cases wa
       exact zU
      ·have:=h0 t v mM
       rw [← Kc]
       exact (ZX.1 this).1
     obtain ⟨a',lR,jz,_⟩:=oG hI.size vj hT
     exact ⟨a',lR,jz⟩
    have pI:∀ (j:Nat) (oj:Oper) (e:Nat),l[j]? = some oj→j<m→j≠i→oj.dst=some e→d≠e:=by
     intro j oj e hj ig hne he
     rcases Zbm j i with h | h
     ·exact fun e'=>(di (lO hc h o8 hj ho) he hd).1 e'.symm
     ·exact (di (lO hc (show i<j by omega) ig ho hj) hd he).1
    have iw:i<listed.size:=by rw [hI.sz];have:=hc.le;omega
    have CI:mU o=true:=hc.op o (ZW ho)
    have gL:∀ v w',aH [] w w'→R.p v w'→G4 c D hs (l.take m) S (listed.setIfInBounds i true) (a.put o.dst v) w'→wpAnyIn (FR r) 0 P .any l.toArray Q fuel (listed.setIfInBounds i true) (a.put o.dst v) w':=fun v w' hk hv Vh=>
     ih _ _ _ (BL hc hc.le hI hi o8 ho hd fH R3 (fun j oj hj iO=>let ⟨e,_,he,_⟩:=l9.2.2 j oj (dY j oj hj iO);⟨e,he⟩) hk hv) Vh
    unfold wpOpIn
    rw [show l.toArray[i]? = some o from by simpa using ho]
    simp only []
    have rp:∃ st,S[i]? = some st∧st.r=R:=by
     rw [ZD] at R3
     obtain ⟨st,h1,h2⟩:=Zah.1 R3
     exact ⟨st,h1,h2⟩
    obtain ⟨st,rp,bb⟩:=rp
    have Ki:∀ j,j≠i→(listed.setIfInBounds i true).getD j false=listed.getD j false:=fun j hj=>by
     simp [Zy,ZH (Ne.symm hj)]
    cases st with
    | new V ob =>
     obtain ⟨sln,hgn,Wi,Xx⟩:=hpO.SC i o V ob (dY i o o8 ho) rp
     obtain ⟨a',lR,jz⟩:=Pb sln Xx
     have hex:=ix (o:=o) (ops:=l.toArray) CI jz
     have iu:=Wi.2 a' w lR hI.mem.lp
     rw [if_pos (by simp [Region.wanted,hgn])]
     refine ⟨dM _ _ _ _ _,?_⟩
     rw [Oper.semAt_eq _ _ _ (fun cc he=>by simp [mU,he] at CI),← hex,iu]
     refine gL _ _ (.alloc _ _ _) (by rw [← bb];exact ⟨w.heap.size,rfl,World.alloc_heap_new w ob⟩) ?_
     obtain ⟨β,hm,hb,ve⟩:=hO
     refine ⟨fun k=>if k=i then w.heap.size else β k,?_,?_,?_⟩
     ·refine Mem.perm (hm.alloc ob) ((Aq (k:=i) (V:=V) rp ?_ ?_ ?_ ?_).append_right _)
      ·rw [ZB]
       show listed.getD i false=false
       have:¬ listed.getD i false=true:=hn
       simpa using this
      ·rw [ZB];exact (ct iw).2 (.inl rfl)
      ·simp
      ·intro j hj
       rw [ZB] at hj
       exact ⟨Ki j hj,by simp [hj]⟩
     ·intro j
      by_cases e:j=i
      ·subst e;left;simp;exact hI.mem.keeps.size
      ·rcases hb j with h | h | h
       ·left;simpa [e] using h
       ·right;left;intro h';exact h (((ct iw).1 h').resolve_left e)
       ·exact .inr (.inr h)
     ·intro j oj e V' QN hj iE jH jF
      by_cases ej:j=i
      ·subst ej
       rw [rp] at jH;cases jH
       obtain ⟨ig,l8⟩:=fu j oj hj
       rw [ho] at l8;cases l8
       rw [hd] at iE;cases iE
       rw [hd]
       simp [Act.put,hI.size,fH]
      ·obtain ⟨ig,l8⟩:=fu j oj hj
       have AN:=((ct iw).1 jF).resolve_left ej
       have:=ve j oj e V' QN hj iE jH AN
       rw [hd]
       simp only [Act.put,ZH (pI j oj e l8 ig ej iE),if_neg ej]
       exact this
    | rel R0 =>
     have Vh:∀ v w',aH [] w w'→G4 c D hs (l.take m) S (listed.setIfInBounds i true) (a.put o.dst v) w':=by
      intro v w' hk
      obtain ⟨β,hm,hb,ve⟩:=hO
      refine ⟨β,?_,?_,?_⟩
      ·have e:qF β (fun j=>(listed.setIfInBounds i true).getD j false) S 0=qF β (fun j=>listed.getD j false) S 0:=oN fun j V ob hj=>by
        have:j≠i:=fun e=>by subst e;rw [rp] at hj;cases hj
        rw [ZB]
        exact ⟨Ki j this,fun _=>rfl⟩
       rw [e];exact hm.rh hk
      ·intro j
       by_cases e:j=i
       ·subst e;right;right;intro V ob h;rw [rp] at h;cases h
       ·rcases hb j with h | h | h
        ·exact .inl h
        ·right;left;intro h';exact h (((ct iw).1 h').resolve_left e)
        ·exact .inr (.inr h)
      ·intro j oj e V' QN hj iE jH jF
       have ej:j≠i:=fun e=>by subst e;rw [rp] at jH;cases jH
       obtain ⟨ig,l8⟩:=fu j oj hj
       have AN:=((ct iw).1 jF).resolve_left ej
       have:=ve j oj e V' QN hj iE jH AN
       rw [hd]
       simp only [Act.put,ZH (pI j oj e l8 ig ej iE)]
       exact this
     obtain ⟨a',lR,jz⟩:=Pb tM hs1
     have Rk:Ay (o.looksAt l.toArray) Lz a' w:=by
      intro t Rt hm ht
      rcases hs2 t Rt hm with ⟨j,oj,hj,iO,iE,jH⟩ | aB
      ·obtain ⟨v,hv,np⟩:=hI.new j oj (fu j oj iO).2 (B4 j t oj hj iO iE ht) t _ iE jH
       exact ⟨v,by rw [jz t ht];exact hv,np⟩
      ·cases aB
     have hq:=fW a' w lR Rk hI.mem.lp
     have hex:=ix (o:=o) (ops:=l.toArray) CI jz
     rw [gU jz] at hq
     split
     ·rename_i hw
      rw [if_pos hw] at hq
      refine ⟨dM _ _ _ _ _,?_⟩
      rw [Oper.semAt_eq _ _ _ (fun cc he=>by simp [mU,he] at CI),← hex]
      unfold wW at hq
      revert hq
      generalize (execOp a'.eval o).run P w=res
      intro hq
      match res,hq with
      | .ok (.value v) w',⟨hk,hv⟩=>exact gL v w' hk hv (Vh v w' hk)
      | .ok (.enter f args) w', ⟨e, cr⟩ =>
       subst e
       refine ⟨by simp [FR,Fence.wide],(ie cr).mono fun e wh h=>?_⟩
       obtain ⟨v,rfl,hk,hv⟩:=h
       exact gL v wh hk hv (Vh v wh hk)
     ·rename_i hw
      rw [if_neg hw] at hq
      exact ⟨fun _ _=>trivial,gL undef w (.refl _ _) hq (Vh undef w (.refl _ _))⟩
theorem vP {β:Nat→Nat} {lst:Nat→Bool} (h:∀ i,lst i=false):∀ {S:List Step} {i:Nat},qF β lst S i=[]
 | [],_=>rfl
 | .rel _::S,i=>by unfold qF;exact vP h
 | .new _ _::S,i=>by unfold qF;rw [if_neg (by simp [h]),vP h]
theorem wj {id:Nat} (qh:P.follows .mixedOrders=true) (fK:xK l m=true) (hp:mH P c hs l.toArray (l.take m) sl [] S jk kE)
  (tail:∀ listed a w,(∀ i,i<m→Ls listed i)→St c D jk hs a w→G4 c D hs (l.take m) S listed a w→WL P r l.toArray Q (l.drop m) a w):Tr c D sl hs (WP P r (.region id l.toArray true) Q):=fun a w bb=>by
 unfold WP
 refine wpIn_region_any qh ?_
 refine MZ (uN fK) hp bb.cS bb.size tail l.toArray.size _ a _ ⟨by simp,?_,?_,?_,bb.defers,bb.size,fun t _=>rfl,?_,List.range l.length,Zbs,?_,by simp⟩ ?_
 ·exact fun k o _ hL=>absurd hL (eQ _ _)
 ·exact fun k _ hL=>eQ _ _ hL
 ·exact bb.mem.drew
 ·exact fun j o _ hL=>absurd hL (eQ _ _)
 ·exact fun i=>⟨fun h=>⟨by simpa using h,eQ _ _⟩,fun h=>by simpa using h.1⟩
 ·refine ⟨fun _=>c.w0.heap.size,?_,fun i=>.inl (Zz _),fun i o d V ob _ _ _ hL=>absurd hL (eQ _ _)⟩
  rw [vP fun i=>by have:=eQ l.toArray.size i;unfold Ls at this;simpa using this]
  exact bb.mem.drew
def Ly (β:Nat→Nat):List Oper→List Step→Nat→aG
 | o::l,.new V _::S,i=>(o.dst.getD 0,V (β i))::Ly β l S (i+1)
 | _::l,.rel _::S,i=>Ly β l S (i+1)
 | _,_,_=>[]
theorem yX {β:Nat→Nat}:∀ {l:List Oper} {S:List Step} {i:Nat} {p:Nat×Value},p∈Ly β l S i→∃ (j:Nat) (o:Oper) (V:Nat→Value) (ob:Obj),l[j]? = some o∧S[j]? = some (.new V ob)∧p=(o.dst.getD 0,V (β (i+j)))
 | [],_,_,_,h=>by cases h
 | _::_,[],_,_,h=>by cases h
 | o :: l, .new V ob :: S, i, p, h => by
  unfold Ly at h
  rcases ZR.1 h with h | h
  ·exact ⟨0,o,V,ob,rfl,rfl,h⟩
  ·obtain ⟨j,o',V',QN,h1,h2,h3⟩:=yX h
   exact ⟨j+1,o',V',QN,by simpa using h1,by simpa using h2,by rw [h3,show i+1+j=i+(j+1) from by omega]⟩
 | o :: l, .rel R :: S, i, p, h => by
  unfold Ly at h
  obtain ⟨j,o',V',QN,h1,h2,h3⟩:=yX h
  exact ⟨j+1,o',V',QN,by simpa using h1,by simpa using h2,by rw [h3,show i+1+j=i+(j+1) from by omega]⟩
theorem uD {L s:aG} {a:Act} (h:∀ p∈L,a.tmps[p.1]? = some p.2) (hs:bR s a):bR (L++s) a:=by
 induction L with
 | nil=>exact hs
 | cons p L ih =>
  intro t v hv
  obtain ⟨d,u⟩:=p
  by_cases e:d=t
  ·subst e
   rw [Zb,fB] at hv
   cases hv
   exact h (d,v) (by simp)
  ·rw [Zb,fA e] at hv
   exact ih (fun p hp=>h p (by simp [hp])) t v hv
def zs (nl:List (Nat×(Nat→Value)×Obj)) (bs:List Nat):aG:=(nl.zip bs).map fun x=>(x.1.1,x.1.2.1 x.2)
def zb (nl:List (Nat×(Nat→Value)×Obj)) (bs:List Nat):List a8:=(nl.zip bs).map fun x=>bG x.2 x.1.2.2
def rF (P:Program) (r:Option Nat) (c:Cx) (D:List Nat) (hs:List a8) (ops:Array Oper) (Q:Exit→Act→World→Prop) (nl:List (Nat×(Nat→Value)×Obj)) (m:Nat) (l:List Oper) (sl:aG) (rl:eJ):Prop:=
 ∃ S jk kE, mH P c hs ops (l.take m) sl rl S jk kE ∧ ∀ (bs : List Nat) (β : Nat → Nat) (i0 : Nat), bs.length = nl.length → (∀ b ∈ bs, c.w0.heap.size ≤ b) → (∀ i V ob, S[i]? = some (.new V ob) → c.w0.heap.size ≤ β (i0 + i)) →
  Tr c D (zs nl bs++Ly β (l.take m) S i0++jk) (zb nl bs++qF β (fun _=>true) S i0++hs) (WL P r ops Q (l.drop m))
theorem cQ {id:Nat} {l:List Oper} (m:Nat) [qh:SG P] (fK:xK l m=true) (k:rF P r c D hs l.toArray Q [] m l sl []):Tr c D sl hs (WP P r (.region id l.toArray true) Q):=by
 obtain ⟨S,jk,kE,hp,ht⟩:=k
 have l9:=hp.TP.end_
 have hlen:∀ i V ob,S[i]? = some (.new V ob)→i<m:=by
  intro i V ob h
  have h1:=(Zl.1 h).1
  have Xi:∀ {l0:Array Oper} {l:List Oper} {sl jk:aG} {rl kE:eJ} {S:List Step},mH P c hs l0 l sl rl S jk kE→S.length=l.length:=by
   intro l0 l sl jk rl kE S h
   induction h with
   | nil=>rfl
   | val _ _ _ _ ih=>simp [ih]
   | new _ _ _ _ _ _ ih=>simp [ih]
  rw [Xi hp,Zp] at h1
  omega
 refine wj qh.eq fK hp fun listed a w dT bb hO=>?_
 obtain ⟨β,hm,hb,ve⟩:=hO
 have Ku:∀ i V ob,S[i]? = some (.new V ob)→Ls listed i:=fun i V ob h=>dT i (hlen i V ob h)
 have AM:∀ i V ob,S[i]? = some (.new V ob)→c.w0.heap.size≤β (0+i):=fun i V ob h=>by
  rw [ZB]
  rcases hb i with h1 | h1 | h1
  ·exact h1
  ·exact absurd (Ku i V ob h) h1
  ·exact absurd h (h1 V ob)
 refine ht [] β 0 rfl (fun b hb=>by cases hb) AM a w ⟨?_,?_,bb.size,bb.defers⟩
 ·have e:qF β (fun i=>listed.getD i false) S 0=qF β (fun _=>true) S 0:=oN fun j V ob hj=>by
   rw [ZB]
   exact ⟨Ku j V ob hj,fun _=>rfl⟩
  rw [e] at hm
  simpa [zb,Zh] using hm
 ·refine uD (L:=zs [] []++Ly β (List.take m l) S 0) (fun p np=>?_) bb.cS
  obtain ⟨j,o,V,ob,h1,h2,rfl⟩:=yX (by simpa [zs] using np)
  obtain ⟨d,R,hd,fH,_⟩:=l9.2.2 j o h1
  rw [hd,ZB]
  exact ve j o d V ob h1 hd h2 (Ku j V ob h2)
section
variable {nl:List (Nat×(Nat→Value)×Obj)} {d:Nat} {op:Op} {ty:TypeId} {pos:String} {af:Array Edge} {rest:List Oper}
theorem dp {V:Nat→Value} {ob:Obj} {l:List Oper} (hn:nl=[(d,V,ob)]) (k:∀ b,c.w0.heap.size≤b→Tr c D ((d,V b)::sl) (bG b ob::hs) (WL P r ops Q l)):rF P r c D hs ops Q nl 0 l sl rl:=
 ⟨[],sl,rl,.nil,fun bs β i0 hl hb _=>by
  subst hn
  match bs,hl with
  | [b],_=>simpa [zs,zb,Ly,qF] using k b (hb b (by simp))⟩
theorem vM {o:Oper} {V:Value} (ho:o.dst=some d) (hd:Nat.blt d c.nt=true) (h:tl P c hs ops sl rl o (.val V)) (k:rF P r c D hs ops Q nl m rest ((d,V)::sl) rl):rF P r c D hs ops Q nl (m+1) (o::rest) sl rl:=by
 obtain ⟨S,jk,kE,hp,ht⟩:=k
 refine ⟨_,_,_,.val ho (by simpa [Z4] using hd) h hp,fun bs β i0 h1 h2 h3=>?_⟩
 have:=ht bs β (i0+1) h1 h2 fun i V ob hi=>by have:=h3 (i+1) V ob (by simpa using hi);rwa [show i0+(i+1)=i0+1+i from by omega] at this
 simpa [Ly,qF] using this
theorem ek {V:Nat→Value} {ob:Obj} (hr:qD P c sl hs ⟨some d,op,ty,pos,af,none⟩ V ob) (hd:Nat.blt d c.nt=true) (hn:cK sl d=none) (k:rF P r c D hs ops Q (nl++[(d,V,ob)]) m rest sl ((d,Dp V ob)::rl)) :
  rF P r c D hs ops Q nl (m+1) (⟨some d,op,ty,pos,af,none⟩::rest) sl rl:=by
 obtain ⟨S,jk,kE,hp,ht⟩:=k
 refine ⟨_,_,_,.new rfl (by simpa [Z4] using hd) hn rfl hr hp,fun bs β i0 h1 h2 h3=>?_⟩
 have hb0:=h3 0 V ob rfl
 rw [Zaw] at hb0
 have:=ht (bs++[β i0]) β (i0+1) (by simp [h1]) (fun b hb=>by
  rcases Zx.1 hb with h | h
  ·exact h2 b h
  ·rw [ZK.1 h];exact hb0) fun i V ob hi=>by have:=h3 (i+1) V ob (by simpa using hi);rwa [show i0+(i+1)=i0+1+i from by omega] at this
 simpa [Ly,qF,zs,zb,List.zip_append h1.symm,Zh] using this
theorem an {V:Value} (hr:cR P c sl hs ⟨some d,op,ty,pos,af,none⟩ V) (hd:Nat.blt d c.nt=true) (k:rF P r c D hs ops Q nl m rest ((d,V)::sl) rl) :
  rF P r c D hs ops Q nl (m+1) (⟨some d,op,ty,pos,af,none⟩::rest) sl rl:=
 vM rfl hd (nP rfl fun _ _ h1 _ h3=>qW hr h1 h3) k
theorem aT {f:FuncId} {args:List Value} {V:Value} (hr:lG P sl ⟨some d,op,ty,pos,af,none⟩ f args) (hd:Nat.blt d c.nt=true) (hc:∀ w,Mem c hs w→aj P f args w V) (k:rF P r c D hs ops Q nl m rest ((d,V)::sl) rl) :
  rF P r c D hs ops Q nl (m+1) (⟨some d,op,ty,pos,af,none⟩::rest) sl rl:=
 vM rfl hd (nP rfl fun _ w h1 _ h3=>rT hr h1 (hc w h3)) k
theorem VV {V:Value} {p p':Prop} {j gs:Nat} {want c0 q:Bool} (hj:((ops[j]?).bind (·.dst))=some gs) (hq:cK sl gs=some (gv c0 (.bool q))) (hb:BP (c0&&(q==want)) p p')
  (hr:(c0&&(q==want))=true→p→cR P c sl hs ⟨some d,op,ty,pos,af,some (j,want)⟩ V) (hd:Nat.blt d c.nt=true) (k:rF P r c D hs ops Q nl m rest ((d,gv (c0&&(q==want)) V)::sl) rl) :
  rF P r c D hs ops Q nl (m+1) (⟨some d,op,ty,pos,af,some (j,want)⟩::rest) sl rl:=
 vM rfl hd (nQ rfl hj hq fun hc _ _ h1 h3=>qW (hr hc (hb.t hc)) h1 h3) k
theorem gq {V:Value} {p p':Prop} {j gs:Nat} {want q:Bool} (hj:((ops[j]?).bind (·.dst))=some gs) (hq:cK sl gs=some (.bool q)) (hb:BP (q==want) p p')
  (hr:(q==want)=true→p→cR P c sl hs ⟨some d,op,ty,pos,af,some (j,want)⟩ V) (hd:Nat.blt d c.nt=true) (k:rF P r c D hs ops Q nl m rest ((d,gv (q==want) V)::sl) rl) :
  rF P r c D hs ops Q nl (m+1) (⟨some d,op,ty,pos,af,some (j,want)⟩::rest) sl rl:=
 VV (c0:=true) (p:=p) (p':=p') hj (by rw [hq];rfl) (by simpa using hb) (by simpa using hr) hd (by simpa using k)
end
end
end Go.SL
namespace Go.SL
open Go
theorem ni {w:World} {b sz:Nat}:∀ {xs:List (List Value)} {o:Nat},(∀ i r,xs[i]? = some r→r.length=sz∧∀ j u,r[j]? = some u→w.cell? ⟨b,o+i*sz+j,none⟩=some u)→∀ (k:Nat) u,xs.flatten[k]? = some u→w.cell? ⟨b,o+k,none⟩=some u
 | [],o,_,k,u,hu=>by simp at hu
 | x :: xs, o, h, k, u, hu => by
  obtain ⟨hl,h0⟩:=h 0 x rfl
  rw [ZaB,List.getElem?_append] at hu
  split at hu
  ·have:=h0 k u hu
   rwa [Zbu,Zaw] at this
  ·rename_i hk
   have ih:=ni (xs:=xs) (o:=o+sz) (fun i r hr=>⟨(h (i+1) r (by simpa using hr)).1,fun j v hv=>by
    have:=(h (i+1) r (by simpa using hr)).2 j v hv
    rwa [Zag,show o+(i*sz+sz)+j=o+sz+i*sz+j by omega] at this⟩) (k-x.length) u hu
   rwa [hl,show o+sz+(k-sz)=o+k by omega] at ih
theorem fg {sz:Nat}:∀ {xs:List (List Value)},(∀ r∈xs,r.length=sz)→xs.flatten.length=xs.length*sz
 | [],_=>by simp
 | x :: xs, h => by
  rw [ZaB,Zg,fg (fun r hr=>h r (by simp [hr])),h x (by simp),ZJ,Zag,Nat.add_comm]
theorem Rd.sz {w:World} {v:Value} {sz:Nat} {xs:List (List Value)} (h:Rd w v sz xs):∀ r∈xs,r.length=sz:=by
 obtain ⟨a,cap,b,o,rfl,h1,h2,h3,h4⟩:=h
 intro r hr
 obtain ⟨i,hi,rfl⟩:=Zs hr
 exact (h4 i _ (Zc hi)).1
section
variable {P:Program} {r:Option Nat} {c:Cx} {D:List Nat} {sl:aG} {hs hs':List a8} {ops:Array Oper} {Q:Exit→Act→World→Prop} {d:Nat} {ty:TypeId} {pos:String} {af:Array Edge} {rest:List Oper}
theorem Mu {V:Value} {sz:Nat} {xs:List (List Value)} {b o cap:Nat} (hsrc:∀ w,Mem c hs w→Rd w V sz xs) (hne:xs≠[]) (hV:V=.slice (some ⟨b,o,none⟩) xs.length cap):eF c hs b o xs.flatten:=by
 refine eF.uT fun j u hu w hm=>?_
 obtain ⟨a',gQ,b',o',e',_,_,cB,Wz⟩:=hsrc w hm
 rw [hV] at e'
 simp only [Value.slice.injEq] at e'
 obtain ⟨e1,_,_⟩:=e'
 have:=cB hne
 rw [← e1] at this
 simp only [Option.some.injEq,Addr.mk.injEq,and_true] at this
 obtain ⟨rfl,rfl⟩:=this
 exact ni Wz j u hu
theorem Bg {t e:TypeId} {w:World} {v:Value} {agg:Bool} {size:Nat} [hu:iF P t (.slice e)] [hT:Ty P e agg size] {a:Option Addr} {cp n:Nat} (hv:(v=.slice none 0 0∧n=0)∨∃ g cap,v=.slice (some ⟨g,0,none⟩) n cap∧n≤cap) :
  (Builtin.append_ #[t,t] ty #[v,.slice a 0 cp]).run P w=.ok v w:=by
 obtain ⟨de,i,mh,hi,_,iD⟩:=Ty.parts (P:=P) (t:=e) (agg:=agg) (n:=size)
 rcases hv with ⟨rfl,rfl⟩ | ⟨g,cap,rfl,hc⟩
 ·cases a <;> simp [Builtin.append_,aU hu.eq,sizeOf,typeInfo,hi,Builtin.lenOf,Builtin.firstCells,loadCells,loadCellsFrom]
 ·cases a <;> simp [Builtin.append_,aU hu.eq,sizeOf,typeInfo,hi,Builtin.lenOf,Builtin.firstCells,loadCells,loadCellsFrom,hc,storeCells]
theorem gV {t e:TypeId} {agg:Bool} {size bytes:Nat} {z:Value} {x y:Operand} {v V:Value} {n:Nat} {xs:List Value} {news:List (List Value)} [hu:iF P t (.slice e)] [hT:Ty P e agg size] [hZ:lF P e z] [hB:ug P e bytes]
  (hx:Is sl x v) (hy:Is sl y V) (ht:Take hs (row e size v n xs) hs') (hsrc:∀ w,Mem c hs w→Rd w V size news) (h1:∀ r∈news,∀ u∈r,u.oneCell'=true) (hz:z.cells.size=size) (hsz:Nat.blt 0 size=true) (hb0:Nat.blt 0 bytes=true)
  (hb:(n+news.length)*bytes≤140737488355328) (hd:Nat.blt d c.nt=true)
  (k:∀ v',Tr c D ((d,v')::sl) (row e size v' (n+news.length) (xs++news.flatten)::hs') (WL P r ops Q rest)) :
  Tr c D sl hs (WL P r ops Q (⟨some d,.call ⟨.builtin .append,#[x,y],#[t,t]⟩,ty,pos,af,none⟩::rest)):=fun a w bb=>by
 have hR:=hsrc w bb.rb
 have hlen:=fg hR.sz
 by_cases hne:news=[]
 ·subst hne
  obtain ⟨aa,cap,b,o,rfl,_⟩:=hR
  have hm:=bb.mem.take (ht.append _)
  have hrow:(v=.slice none 0 0∧n=0)∨∃ g cap,v=.slice (some ⟨g,0,none⟩) n cap∧n≤cap:=by
   obtain ⟨_,fp,_,⟨f1,f2,_,⟨_,_,h1⟩,_⟩,_⟩:=hm
   exact h1.imp id fun ⟨g,cap,cur,e,_,hc,_⟩=>⟨g,cap,e,hc⟩
  refine mi rfl ⟨dM _ _ _ _ _,?_⟩
  rw [Oper.semAt_eq _ _ _ (by simp)]
  have:(execOp a.eval ⟨some d,.call ⟨.builtin .append,#[x,y],#[t,t]⟩,ty,pos,af,none⟩).run P w=.ok (.value v) w:=by
   have:=Bg (P:=P) (t:=t) (e:=e) (ty:=ty) (w:=w) (agg:=agg) (size:=size) (a:=aa) (cp:=cap) hrow
   simp only [Zaa] at hy
   simp [execOp,resolve,invoke,builtin,hx a bb.cS,hy a bb.cS,this]
  rw [this]
  have k2:=k v
  simp only [Zaa,Zaw,List.flatten_nil,ZU] at k2
  exact k2 _ _ ((bb.put (by simpa [Z4] using hd) v).heap hm)
 ·obtain ⟨aa,cap,b,o,hV,c7,bQ,ha,hc⟩:=hR
  have:=ha hne
  subst this
  rw [hV] at hy
  exact xw hx hy ht (Mu hsrc hne hV) hlen (fun u hu=>by obtain ⟨r,hr,T9⟩:=List.mem_flatten.1 hu;exact h1 r hr u T9) hz hsz hb0 hb hd k a w bb
theorem HD {t t2 e:TypeId} {agg:Bool} {size:Nat} {x y:Operand} {V:Value} {g n cap:Nat} {E:TypeId} {cs:List Value} {news:List (List Value)} [hu:iF P t (.slice e)] [hT:Ty P e agg size]
  (hx:Is sl x (.slice (some ⟨g,0,none⟩) n cap)) (hy:Is sl y V) (ht:Take hs (bG g (.cells cs.toArray E (0,0))) hs') (hsrc:∀ w,Mem c hs w→Rd w V size news) (h1:∀ r∈news,∀ u∈r,u.oneCell'=true) (hfit:n*size≤cs.length) (hd:Nat.blt d c.nt=true)
  (k:Tr c D ((d,.int .i64 (Nat.min news.length n:Nat))::sl) (bG g (.cells (setCells cs 0 (news.take n).flatten).toArray E (0,0))::hs') (WL P r ops Q rest)) :
  Tr c D sl hs (WL P r ops Q (⟨some d,.call ⟨.builtin .copy,#[x,y],#[t,t2]⟩,ty,pos,af,none⟩::rest)):=fun a w bb=>by
 have hR:=hsrc w bb.rb
 obtain ⟨de,i,mh,hi,_,iD⟩:=Ty.parts (P:=P) (t:=e) (agg:=agg) (n:=size)
 have hlen:(news.take n).flatten.length=Nat.min news.length n*size:=by
  rw [fg (fun r hr=>hR.sz r (Zbl hr)),Zp]
  show min n news.length*size=min news.length n*size
  rw [Nat.min_comm]
 have hle:Nat.min news.length n≤n:=Nat.min_le_right _ _
 have hm:=bb.mem.take (ht.append _)
 have hg:w.heap[g]? = some (.cells cs.toArray E (0,0)):=hm.bG .here
 obtain ⟨w',h3,h4,h5⟩:=iU (P:=P) (o:=0) (news.take n).flatten 0 cs w hg (fun u hu=>by
  obtain ⟨r,hr,T9⟩:=List.mem_flatten.1 hu
  exact h1 r (Zbl hr) u T9) (by
  rw [hlen]
  have:Nat.min news.length n*size≤n*size:=Z9 _ hle
  omega)
 have UI:(Builtin.firstCells size (Nat.min news.length n) V).run P w=.ok (news.take n).flatten.toArray w:=by
  obtain ⟨aa,dB,b,o,hV,ku,bQ,ha,hc⟩:=hR
  subst hV
  by_cases hne:news=[]
  ·subst hne
   cases aa <;> simp [Builtin.firstCells,loadCells,loadCellsFrom]
  ·have:=ha hne
   subst this
   simp only [Builtin.firstCells]
   refine qP hlen fun j u hu=>?_
   refine ni (sz:=size) (xs:=news.take n) (fun i r hr=>?_) j u hu
   rw [ZC] at hr
   split at hr
   ·exact hc i r hr
   ·cases hr
 have UK:(Builtin.lenOf V).run P w=.ok news.length w:=by
  obtain ⟨aa,dB,b,o,hV,_⟩:=hR
  subst hV
  rfl
 refine mi rfl ⟨dM _ _ _ _ _,?_⟩
 rw [Oper.semAt_eq _ _ _ (by simp)]
 have:(execOp a.eval ⟨some d,.call ⟨.builtin .copy,#[x,y],#[t,t2]⟩,ty,pos,af,none⟩).run P w=.ok (.value (.int .i64 (Nat.min news.length n:Nat))) w':=by
  simp [execOp,resolve,invoke,builtin,hx a bb.cS,hy a bb.cS,Builtin.copy_,aU hu.eq,UK,sizeOf,typeInfo,hi,iD,UI,h3,goInt]
 rw [this]
 have l7:=Mem.store hm h4 h5
 rw [show (0+0:Nat)=0 from rfl] at l7
 exact k _ _ ((bb.put (by simpa [Z4] using hd) _).heap l7)
theorem C0 {t tn e:TypeId} {kn:IntKind} {agg:Bool} {size bytes m:Nat} {z:Value} {x y:Operand} [hu:iF P t (.slice e)] [Q5:iF P tn (.int kn)] [hT:Ty P e agg size] [hZ:lF P e z] [hB:ug P e bytes]
  (hx:Is sl x (.slice none 0 0)) (hy:Is sl y (.int .i64 m)) (h0:0<m) (hz:z.cells.size=size) (hsz:Nat.blt 0 size=true) (hb0:Nat.blt 0 bytes=true) (hb:m*bytes≤140737488355328) (hd:Nat.blt d c.nt=true)
  (k:∀ v',Tr c D ((d,v')::sl) (row e size v' m (Builtin.zeroCells z.cells m).toList::hs) (WL P r ops Q rest)) :
  Tr c D sl hs (WL P r ops Q (⟨some d,.call ⟨.builtin .append,#[x,y],#[t,tn]⟩,ty,pos,af,none⟩::rest)):=fun a w bb=>by
 obtain ⟨de,i,mh,hi,_,iD⟩:=Ty.parts (P:=P) (t:=e) (agg:=agg) (n:=size)
 have hzero:i.zero=some z:=by have:=hZ.eq;rw [hi] at this;simpa using this
 have gI:i.bytes=bytes:=by have:=hB.eq;rw [hi] at this;simpa using this
 have hs0:0<size:=by simpa [Z4] using hsz
 have YL:0<bytes:=by simpa [Z4] using hb0
 have aR:m*1≤m*bytes:=Zbo _ YL
 have iu:=Lib.run_append_grow_zeros (P:=P) w t tn ty e i z .i64 kn hu.eq Q5.eq hi hzero none 0 0 [] (by simp [Builtin.firstCells]) m h0 (by omega) (by omega) (by omega) (by rw [gI];omega) (growslice_fits (by omega) (by rw [gI];simpa using hb))
 simp only [ZB] at iu
 have Kj:=grownCap_ge w m 0 e
 have hle:=grownCap_le_maxLen w m 0 e (by unfold maxLen;omega)
 refine mi rfl ⟨dM _ _ _ _ _,?_⟩
 rw [Oper.semAt_eq _ _ _ (by simp)]
 generalize grownCap w m 0 e=G at iu Kj hle
 have:(execOp a.eval ⟨some d,.call ⟨.builtin .append,#[x,y],#[t,tn]⟩,ty,pos,af,none⟩).run P w=.ok (.value (.slice (some ⟨w.heap.size,0,none⟩) m G)) (w.drew.alloc (.cells (#[]++Builtin.zeroCells z.cells m++Builtin.zeroCells z.cells (G-m)) e)):=by
  simp [execOp,resolve,invoke,builtin,hx a bb.cS,hy a bb.cS,iu]
 rw [this]
 have DK:∀ q,(Builtin.zeroCells z.cells q).size=q*size:=fun q=>by rw [size_zeroCells,hz]
 have l7:=(bb.mem.drew.alloc (.cells (#[]++Builtin.zeroCells z.cells m++Builtin.zeroCells z.cells (G-m)) e (0,0)))
 refine k _ _ _ ((bb.put (by simpa [Z4] using hd) _).heap ?_)
 obtain ⟨kk,fp,hn,⟨f1,f2,rfl,⟨e1,h1⟩,h2⟩,DP⟩:=l7
 refine ⟨kk,f1++f2,hn,⟨f1,f2,rfl,⟨by rw [e1];rfl,by simp [DK],.inr ⟨w.heap.size,G,_,rfl,h1,Kj,hle,?_,?_⟩⟩,h2⟩,DP⟩
 ·simp only [Array.size_append,DK]
  simp only [Array.size_empty,ZB,← Nat.add_mul]
  congr 1;omega
 ·simp only [Array.toList_append,Array.toList_empty,Za]
  rw [List.take_left' (by rw [ZaN,DK])]
theorem kF {dst:Option Tmp} {g:Option (Nat×Bool)} {t e:TypeId} {agg:Bool} {size:Nat} [hu:iF P t (.slice e)] [hT:Ty P e agg size] :
  qD P c sl hs ⟨dst,.buildSlice t 0 #[],ty,pos,af,g⟩ (fun b=>.slice (some ⟨b,0,none⟩) 0 0) (.cells #[] e):=
 lZ (ps:=#[]) (fun a _=>by simp) fun w=>by
  unfold Instr.buildSlice
  simp only [Sem.run_bind,aU hu.eq,Result.andThen_ok,fT (t:=e) (agg:=agg) (n:=size),Zbu]
  simp [Instr.fill,newRow,show Array.range 0=#[] from rfl]
theorem qR {dst:Option Tmp} {g:Option (Nat×Bool)} {t e:TypeId} {x:Operand} {a:Option Addr} {n cp:Nat} [hu:iF P t (.slice e)] (hx:Is sl x (.slice a n cp)) :
  cR P c sl hs ⟨dst,.call ⟨.builtin .cap,#[x],#[t]⟩,ty,pos,af,g⟩ (.int .i64 cp):=
 ⟨by simp,fun ac w ha _=>by simp [execOp,hx ac ha,resolve,invoke,builtin,Builtin.cap_,aU hu.eq,goInt]⟩
theorem A9 (g cap sz:Nat):Go.sliced (some ⟨g,0,none⟩) 0 0 cap sz=.slice (some ⟨g,0,none⟩) 0 cap:=by
 unfold Go.sliced
 by_cases h:cap=0
 ·rw [if_pos h];simp
 ·rw [if_neg h];simp [eI]
theorem y5:∀ (vs cs:List Value),vs.length≤cs.length→setCells cs 0 vs=vs++cs.drop vs.length:=by
 intro vs cs h
 apply Zap
 intro k
 rw [ij _ _ _ _ (by omega),List.getElem?_append]
 by_cases hk:k<vs.length
 ·rw [if_pos (by omega),if_pos hk,Nat.sub_zero]
 ·rw [if_neg (by omega),if_neg hk,Zbc]
  congr 1;omega
end
end Go.SL
namespace Go.SL
open Go
theorem bc {α:Type} {b:Bool} {o:Option α} {v:α} (h:(bif b then o else none)=some v):b=true∧o=some v:=by cases b <;> simp_all
theorem bp {α β:Type} {o:Option α} {q:Option β} {v:α} {u:β} (h:(o.bind fun a=>q.map fun b=>(a,b))=some (v,u)):o=some v∧q=some u:=by
 cases o <;> cases q <;> simp_all
section
variable {P:Program} {r:Option Nat} {c:Cx} {D:List Nat} {sl:aG} {rl:eJ} {hs hs':List a8} {Q:Exit→Act→World→Prop} {ops:Array Oper} {m d:Nat} {op:Op} {ty:TypeId} {pos:String} {af:Array Edge} {rest:List Oper} {dst:Option Tmp} {g:Option (Nat×Bool)}
theorem Jq {P:Program} {r:Option Nat} {c:Cx} {D:List Nat} {sl:aG} {hs:List a8} {x y:Code} {Q:Exit→Act→World→Prop}
  (h:Tr c D sl hs (WP P r x (Exit.then (WP P r y Q) Q))):Tr c D sl hs (WP P r (.seq x y) Q):=mP h
theorem Jt {c:Cx} {D:List Nat} {sl:aG} {hs:List a8} {N:Act→World→Prop} {Q:Exit→Act→World→Prop}
  (h:Tr c D sl hs N):Tr c D sl hs (Exit.then N Q .normal):=tG h
theorem J0 {P:Program} {r:Option Nat} {c:Cx} {D:List Nat} {sl:aG} {hs:List a8} {id:Nat} {x:Code} {Q:Exit→Act→World→Prop}
  (h:Tr c D sl hs (WP P r x (Exit.inBlock id Q))):Tr c D sl hs (WP P r (.block id x) Q):=AZ h
theorem Je {P:Program} {r:Option Nat} {c:Cx} {D:List Nat} {sl:aG} {hs:List a8} {Q:Exit→Act→World→Prop}
  (h:Tr c D sl hs (Q .ret)):Tr c D sl hs (WP P r .ret Q):=Hx h
theorem Jg {P:Program} {r:Option Nat} {c:Cx} {D:List Nat} {sl:aG} {hs:List a8} {id:Nat} {l:List Oper} {Q:Exit→Act→World→Prop}
  (h:Tr c D sl hs (WL P r l.toArray Q l)):Tr c D sl hs (WP P r (.region id l.toArray false) Q):=ml h
theorem Jh {c:Cx} {D:List Nat} {sl:aG} {hs:List a8} {N:Act→World→Prop} {Q:Exit→Act→World→Prop}
  (h:Tr c D sl hs (Q .ret)):Tr c D sl hs (Exit.then N Q .ret):=AS h
theorem Ji {id:Nat} {l:List Oper} {y:Code} {Q':Exit→Act→World→Prop} (h:Tr c D sl hs (WL P r l.toArray (Exit.then (WP P r y Q) Q) l)):Tr c D sl hs (WL P r ops (Exit.then (WP P r (.seq (.region id l.toArray false) y) Q) Q') []):=n_r h
theorem Jj {c:Cx} {D:List Nat} {sl:aG} {hs:List a8} {id:Nat} {Q:Exit→Act→World→Prop}
  (h:Tr c D sl hs (Q .normal)):Tr c D sl hs (Exit.inBlock id Q .normal):=pB h
theorem Jk {N:Act→World→Prop} (h:Tr c D sl hs N):Tr c D sl hs (WP P r .skip (Exit.then N Q)):=s_t h
theorem Jl {c:Cx} {D:List Nat} {sl:aG} {hs:List a8} {N:Act→World→Prop} {Q:Exit→Act→World→Prop} {id:Nat}
  (h:Tr c D sl hs (Q (.exit id))):Tr c D sl hs (Exit.then N Q (.exit id)):=yJ h
theorem Jm {c:Cx} {D:List Nat} {sl:aG} {hs:List a8} {id:Nat} {Q:Exit→Act→World→Prop}
  (h:Tr c D sl hs (Q .ret)):Tr c D sl hs (Exit.inBlock id Q .ret):=CZ h
theorem Jo {c:Cx} {D:List Nat} {sl:aG} {hs:List a8} {id:Nat} {Q:Exit→Act→World→Prop}
  (h:Tr c D sl hs (Q .normal)):Tr c D sl hs (Exit.inBlock id Q (.exit id)):=A0 h
theorem Jp {N:Act→World→Prop} {id:Nat} (h:Tr c D sl hs (Q (.exit id))):Tr c D sl hs (WP P r (.exit id) (Exit.then N Q)):=x_t h
theorem Jn {N:Act→World→Prop} (h:Tr c D sl hs N):Tr c D sl hs (WL P r ops (Exit.then N Q) []):=n_t h
theorem Jr {id:Nat} {l:List Oper} {y:Code} (h:Tr c D sl hs (WL P r l.toArray (Exit.then (WP P r y Q) Q) l)):Tr c D sl hs (WP P r (.seq (.region id l.toArray false) y) Q):=s_r h
theorem Ju {N:Act→World→Prop} (h:Tr c D sl hs (Q .ret)):Tr c D sl hs (WP P r .ret (Exit.then N Q)):=r_t h
theorem Jw {P:Program} {r:Option Nat} {c:Cx} {D:List Nat} {sl:aG} {hs:List a8} {Q:Exit→Act→World→Prop}
  (h:Tr c D sl hs (Q .normal)):Tr c D sl hs (WP P r .skip Q):=yK h
theorem Jx {P:Program} {r:Option Nat} {c:Cx} {D:List Nat} {sl:aG} {hs:List a8} {ops:Array Oper} {Q:Exit→Act→World→Prop}
  (h:Tr c D sl hs (Q .normal)):Tr c D sl hs (WL P r ops Q []):=yM h
theorem Jv {x:Operand} {v:Value} (h:(bif Nat.blt d c.nt then ev sl x else none)=some v) (k:Tr c D ((d,v)::sl) hs (WL P r ops Q rest)):Tr c D sl hs (WL P r ops Q (⟨some d,.move x,ty,pos,af,none⟩::rest)):=Nh (bc h).2 (bc h).1 k
theorem Ja {x:Operand} {v:Value} (h:(bif Nat.blt d c.nt then ev sl x else none)=some v) (k:Tr c D ((d,v)::sl) hs (WL P r ops Q rest)):Tr c D sl hs (WL P r ops Q (⟨some d,.assign x,ty,pos,af,none⟩::rest)):=a_s (bc h).2 (bc h).1 k
theorem JA {k:IntKind} {t u:TypeId} {x y:Operand} {a b:Int} (h:(bif Nat.blt d c.nt then ((ev sl x).bind fun a=>(ev sl y).map fun b=>(a,b)) else none)=some (.int k a,.int k b)) (k:Tr c D ((d,.bool (decide (a<b)))::sl) hs (WL P r ops Q rest)):Tr c D sl hs (WL P r ops Q (⟨some d,.binOp .lss t x y u,ty,pos,af,none⟩::rest)):=ab (k8 (.of (bp (bc h).2).1) (.of (bp (bc h).2).2)) (bc h).1 k
theorem JC {k:IntKind} {t u:TypeId} {x y:Operand} {a b:Int} (h:(bif Nat.blt d c.nt then ((ev sl x).bind fun a=>(ev sl y).map fun b=>(a,b)) else none)=some (.int k a,.int k b)) (k:Tr c D ((d,.bool (decide (a=b)))::sl) hs (WL P r ops Q rest)):Tr c D sl hs (WL P r ops Q (⟨some d,.binOp .eql t x y u,ty,pos,af,none⟩::rest)):=ab (lY (.of (bp (bc h).2).1) (.of (bp (bc h).2).2)) (bc h).1 k
theorem JD {k:IntKind} {t u:TypeId} {x y:Operand} {a b:Int} (h:(bif Nat.blt d c.nt then ((ev sl x).bind fun a=>(ev sl y).map fun b=>(a,b)) else none)=some (.int k a,.int k b)) (k:Tr c D ((d,.bool (decide (a≠b)))::sl) hs (WL P r ops Q rest)):Tr c D sl hs (WL P r ops Q (⟨some d,.binOp .neq t x y u,ty,pos,af,none⟩::rest)):=ab (gl (.of (bp (bc h).2).1) (.of (bp (bc h).2).2)) (bc h).1 k
theorem JE {k:IntKind} {t u:TypeId} {x y:Operand} {a b:Int} (h:(bif Nat.blt d c.nt then ((ev sl x).bind fun a=>(ev sl y).map fun b=>(a,b)) else none)=some (.int k a,.int k b)) (k:Tr c D ((d,.bool (decide (b<a)))::sl) hs (WL P r ops Q rest)):Tr c D sl hs (WL P r ops Q (⟨some d,.binOp .gtr t x y u,ty,pos,af,none⟩::rest)):=ab (iK (.of (bp (bc h).2).1) (.of (bp (bc h).2).2)) (bc h).1 k
theorem JF {k:IntKind} {t u:TypeId} {x y:Operand} {a b:Int} (h:(bif Nat.blt d c.nt then ((ev sl x).bind fun a=>(ev sl y).map fun b=>(a,b)) else none)=some (.int k a,.int k b)) (k:Tr c D ((d,.bool (decide (a≤b)))::sl) hs (WL P r ops Q rest)):Tr c D sl hs (WL P r ops Q (⟨some d,.binOp .leq t x y u,ty,pos,af,none⟩::rest)):=ab (k9 (.of (bp (bc h).2).1) (.of (bp (bc h).2).2)) (bc h).1 k
theorem JG {k:IntKind} {t u:TypeId} {x y:Operand} {a b:Int} (h:(bif Nat.blt d c.nt then ((ev sl x).bind fun a=>(ev sl y).map fun b=>(a,b)) else none)=some (.int k a,.int k b)) (k:Tr c D ((d,.bool (decide (b≤a)))::sl) hs (WL P r ops Q rest)):Tr c D sl hs (WL P r ops Q (⟨some d,.binOp .geq t x y u,ty,pos,af,none⟩::rest)):=ab (zh (.of (bp (bc h).2).1) (.of (bp (bc h).2).2)) (bc h).1 k
theorem JB {t u:TypeId} {x y:Operand} {a b:Int} (h:(bif Nat.blt d c.nt then ((ev sl x).bind fun a=>(ev sl y).map fun b=>(a,b)) else none)=some (.int .i64 a,.int .i64 b)) (hb:-9223372036854775808≤a+b∧a+b≤9223372036854775807) (k:Tr c D ((d,.int .i64 (a+b))::sl) hs (WL P r ops Q rest)):Tr c D sl hs (WL P r ops Q (⟨some d,.binOp .add t x y u,ty,pos,af,none⟩::rest)):=ab (H8 (.of (bp (bc h).2).1) (.of (bp (bc h).2).2) (QV hb)) (bc h).1 k
theorem JS {t u:TypeId} {x y:Operand} {a b:Int} (h:(bif Nat.blt d c.nt then ((ev sl x).bind fun a=>(ev sl y).map fun b=>(a,b)) else none)=some (.int .i64 a,.int .i64 b)) (hb:-9223372036854775808≤a-b∧a-b≤9223372036854775807) (k:Tr c D ((d,.int .i64 (a-b))::sl) hs (WL P r ops Q rest)):Tr c D sl hs (WL P r ops Q (⟨some d,.binOp .sub t x y u,ty,pos,af,none⟩::rest)):=ab (rR (.of (bp (bc h).2).1) (.of (bp (bc h).2).2) (QV hb)) (bc h).1 k
theorem JH {t:TypeId} {x:Operand} {b:Bool} (h:(bif Nat.blt d c.nt then ev sl x else none)=some (.bool b)) (k:Tr c D ((d,.bool (!b))::sl) hs (WL P r ops Q rest)):Tr c D sl hs (WL P r ops Q (⟨some d,.unOp .not t x,ty,pos,af,none⟩::rest)):=ab (dV (.of (bc h).2)) (bc h).1 k
theorem JI {t e:TypeId} {x:Operand} {b:Option Addr} {n cap:Nat} [iF P t (.slice e)] (h:(bif Nat.blt d c.nt then ev sl x else none)=some (.slice b n cap)) (k:Tr c D ((d,.int .i64 n)::sl) hs (WL P r ops Q rest)):Tr c D sl hs (WL P r ops Q (⟨some d,.call ⟨.builtin .len,#[x],#[t]⟩,ty,pos,af,none⟩::rest)):=ab (bD (e:=e) (.of (bc h).2)) (bc h).1 k
theorem JJ {x:Operand} {i:Nat} {vs:List Value} {v:Value} (h:(bif Nat.blt d c.nt then ev sl x else none)=some (.tuple vs.toArray)) (hv:tu vs i=some v) (k:Tr c D ((d,v)::sl) hs (WL P r ops Q rest)):Tr c D sl hs (WL P r ops Q (⟨some d,.extract x i,ty,pos,af,none⟩::rest)):=ab (dx (.of (bc h).2) hv) (bc h).1 k
theorem JK {r:Option Nat} {D:List Nat} {ops:Array Oper} {Q:Exit→Act→World→Prop} {d:Option Tmp} {op:Op} {rest:List Oper} {j gs:Nat} {want:Bool} (hj:((ops[j]?).bind (·.dst))=some gs) (hq:cK sl gs=some (.bool want))
  (k:Tr c D sl hs (WL P r ops Q (⟨d,op,ty,pos,af,none⟩::rest))):Tr c D sl hs (WL P r ops Q (⟨d,op,ty,pos,af,some (j,want)⟩::rest)):=P5 hj hq k
theorem JL {t:TypeId} {n:Nat} {x:Operand} {b o:Nat} {cs:List Value} {E:TypeId} {fz:Nat×Nat} {v:Value} [Ty P t false n] (h:(bif Nat.blt d c.nt then ev sl x else none)=some (.pointer (some ⟨b,o,none⟩))) (ht:Take hs (SL.bG b (.cells cs.toArray E fz)) hs') (hv:tu cs o=some v) (k:Tr c D ((d,v)::sl) hs (WL P r ops Q rest)):Tr c D sl hs (WL P r ops Q (⟨some d,.load t x,ty,pos,af,none⟩::rest)):=ab (ag (.of (bc h).2) (At.lit ht hv)) (bc h).1 k
theorem Jc {x:Operand} {p:Prop} {inst:Decidable p} {u v:Code} (hx:ev sl x=some (.bool (decide p))) (hf:¬ p→Tr c D sl hs (WP P r v Q)) (ht:p→Tr c D sl hs (WP P r u Q):=by intro h;exfalso;omega):Tr c D sl hs (WP P r (.cond x u v) Q):=fP hx ht hf
theorem Jd {x:Operand} {p:Prop} {inst:Decidable p} {u v:Code} (hx:ev sl x=some (.bool (decide p))) (ht:p→Tr c D sl hs (WP P r u Q)) (hf:¬ p→Tr c D sl hs (WP P r v Q):=by intro h;exfalso;omega):Tr c D sl hs (WP P r (.cond x u v) Q):=fP hx ht hf
theorem Jy {t:TypeId} {x:Operand} {v:Value} {cs:List Value} (h:(bif Nat.blt d c.nt then ev sl x else none)=some v) (hc:v.cells=cs.toArray) (k:∀ b,c.w0.heap.size≤b→Tr c D ((d,.pointer (some ⟨b,0,none⟩))::sl) (bG b (.cells cs.toArray t)::hs) (WL P r ops Q rest)):Tr c D sl hs (WL P r ops Q (⟨some d,.box t x,ty,pos,af,none⟩::rest)):=bo (Qq (.of (bc h).2) hc) (bc h).1 k
theorem Jz {t:TypeId} {z:Value} {cs:List Value} [lF P t z] (hc:z.cells=cs.toArray) (hd:Nat.blt d c.nt=true) (k:∀ b,c.w0.heap.size≤b→Tr c D ((d,.pointer (some ⟨b,0,none⟩))::sl) (bG b (.cells cs.toArray t)::hs) (WL P r ops Q rest)):Tr c D sl hs (WL P r ops Q (⟨some d,.alloc t,ty,pos,af,none⟩::rest)):=bo (qS hc) hd k
end
theorem JN {P:Program} {r:Option Nat} {c:Cx} {D:List Nat} {sl:aG} {hs:List a8} {Q:Exit→Act→World→Prop} {ops:Array Oper} {d:Nat} {op:Op} {ty:TypeId} {pos:String} {af:Array Edge} {rest:List Oper} {f:FuncId} {args:List Value} {ι:Type} {Φ:ι→Prop} {val:ι→Value} {own:ι→List a8} (hr:lG P sl ⟨some d,op,ty,pos,af,none⟩ f args) (hd:Nat.blt d c.nt=true) (hc:∀ w,Mem c hs w→bh P f args w [] Φ val own)
  (k:∀ x,Φ x→Tr c D ((d,val x)::sl) (own x++hs) (WL P r ops Q rest)):Tr c D sl hs (WL P r ops Q (⟨some d,op,ty,pos,af,none⟩::rest)):=jr hr hd bz.nil (fun w fp hm _ hs=>by obtain rfl:fp=[]:=hs;exact hc w hm) k
section
variable {P:Program} {r:Option Nat} {c:Cx} {sl:aG} {hs hs':List a8} {d:Nat} {dst:Option Tmp} {ty:TypeId} {pos:String} {af:Array Edge} {g:Option (Nat×Bool)}
theorem gT {t:TypeId} {n:Nat} {x:Operand} {b o:Nat} {cs:List Value} {E:TypeId} {fz:Nat×Nat} {v:Value} [Ty P t false n] (ht:Take hs (SL.bG b (.cells cs.toArray E fz)) hs') (hx:Is sl x (.pointer (some ⟨b,o,none⟩)):=by exact Is.of rfl) (hv:tu cs o=some v:=by exact rfl):cR P c sl hs ⟨dst,.load t x,ty,pos,af,g⟩ v:=ag hx (At.lit ht hv)
theorem cL {t:TypeId} {n:Nat} {x:Operand} {b o:Nat} {cs vs:List Value} {E:TypeId} {fz:Nat×Nat} [Ty P t true n] (ht:Take hs (SL.bG b (.cells cs.toArray E fz)) hs') (hx:Is sl x (.pointer (some ⟨b,o,none⟩)):=by exact Is.of rfl) (hv:ed cs o n=vs:=by exact ak) (hl:vs.length=n:=by rfl):cR P c sl hs ⟨dst,.load t x,ty,pos,af,g⟩ (.agg vs.toArray):=bS hx ht hv hl
theorem kB {t:TypeId} {i o:Nat} {x:Operand} {b k q:Nat} [eh P t i o] (hx:Is sl x (.pointer (some ⟨b,k,none⟩)):=by exact Is.of rfl) (he:k+o=q:=by exact ae):cR P c sl hs ⟨dst,.fieldAddr t x i,ty,pos,af,g⟩ (.pointer (some ⟨b,q,none⟩)):=ao hx he
theorem kA {x:Operand} {v:Value} (hx:Is sl x v:=by exact Is.of rfl):cR P c sl hs ⟨dst,.move x,ty,pos,af,g⟩ v:=a7 hx
theorem gS {t:TypeId} {n:Nat} {x:Operand} {b o:Nat} {vs:List Value} [Ty P t true n] (hv:eF c hs b o vs) (hx:Is sl x (.pointer (some ⟨b,o,none⟩)):=by exact Is.of rfl) (hl:vs.length=n:=by exact rfl):cR P c sl hs ⟨dst,.load t x,ty,pos,af,g⟩ (.agg vs.toArray):=jt hx hv hl
theorem fG {t e:TypeId} {n:Nat} {agg:Bool} {x y:Operand} {a0:Option Addr} {b o len cap q:Nat} {k:IntKind} {i:Int} [hu:iF P t (.slice e)] [Ty P e agg n] (ha:a0=some ⟨b,o,none⟩) (h1:i<len) (hx:Is sl x (.slice a0 len cap):=by exact Is.of rfl) (hy:Is sl y (.int k i):=by exact Is.of rfl) (h0:0≤i:=by omega) (he:o+i.toNat*n=q:=by exact bj):cR P c sl hs ⟨dst,.indexAddr t x y,ty,pos,af,g⟩ (.pointer (some ⟨b,q,none⟩)):=az hx hy ha h0 h1 he
theorem JT {fn:Func} {v v':Value} {t:Tmp} (hv:v'=v) (GA:c.md=[]:=by exact rfl) (h1:fn.results=#[.tmp t]:=by exact rfl) (h2:cK sl t=some v':=by exact rfl):Tr c [] sl hs (bodyPostM (FR r) 0 P fn (fun e w'=>e=.returned v∧aH [] c.w0 w') .ret):=oT GA (dD h1 h2) hv
end
theorem bT {A x0 x1:a8} {h:List a8}:Take (x0::x1::A::h) A (x0::x1::h):=.there (.there .here)
theorem c6 {A x0 x1 x2:a8} {h:List a8}:Take (x0::x1::x2::A::h) A (x0::x1::x2::h):=.there bT
theorem dO {A x0 x1 x2 x3:a8} {h:List a8}:Take (x0::x1::x2::x3::A::h) A (x0::x1::x2::x3::h):=.there c6
theorem fk {A x0 x1 x2 x3 x4:a8} {h:List a8}:Take (x0::x1::x2::x3::x4::A::h) A (x0::x1::x2::x3::x4::h):=.there dO
theorem jo {A x0 x1 x2 x3 x4 x5:a8} {h:List a8}:Take (x0::x1::x2::x3::x4::x5::A::h) A (x0::x1::x2::x3::x4::x5::h):=.there fk
theorem AB {A x0 x1 x2 x3 x4 x5 x6:a8} {h:List a8}:Take (x0::x1::x2::x3::x4::x5::x6::A::h) A (x0::x1::x2::x3::x4::x5::x6::h):=.there jo
theorem wY {A x0 x1 x2 x3 x4 x5 x6 x7:a8} {h:List a8}:Take (x0::x1::x2::x3::x4::x5::x6::x7::A::h) A (x0::x1::x2::x3::x4::x5::x6::x7::h):=.there AB
theorem iR {A x0 x1 x2 x3 x4 x5 x6 x7 x8:a8} {h:List a8}:Take (x0::x1::x2::x3::x4::x5::x6::x7::x8::A::h) A (x0::x1::x2::x3::x4::x5::x6::x7::x8::h):=.there wY
theorem mJ {A x0 x1 x2 x3 x4 x5 x6 x7 x8 x9:a8} {h:List a8}:Take (x0::x1::x2::x3::x4::x5::x6::x7::x8::x9::A::h) A (x0::x1::x2::x3::x4::x5::x6::x7::x8::x9::h):=.there iR
theorem CB {A x0 x1 x2 x3 x4 x5 x6 x7 x8 x9 wZ:a8} {h:List a8}:Take (x0::x1::x2::x3::x4::x5::x6::x7::x8::x9::wZ::A::h) A (x0::x1::x2::x3::x4::x5::x6::x7::x8::x9::wZ::h):=.there mJ
theorem lI {A x0 x1 x2 x3 x4 x5 x6 x7 x8 x9 wZ En:a8} {h:List a8}:Take (x0::x1::x2::x3::x4::x5::x6::x7::x8::x9::wZ::En::A::h) A (x0::x1::x2::x3::x4::x5::x6::x7::x8::x9::wZ::En::h):=.there CB
theorem SH {A x0 x1 x2 x3 x4 x5 x6 x7 x8 x9 wZ En G8:a8} {h:List a8}:Take (x0::x1::x2::x3::x4::x5::x6::x7::x8::x9::wZ::En::G8::A::h) A (x0::x1::x2::x3::x4::x5::x6::x7::x8::x9::wZ::En::G8::h):=.there lI
theorem CA {A x0 x1 x2 x3 x4 x5 x6 x7 x8 x9 wZ En G8 OI:a8} {h:List a8}:Take (x0::x1::x2::x3::x4::x5::x6::x7::x8::x9::wZ::En::G8::OI::A::h) A (x0::x1::x2::x3::x4::x5::x6::x7::x8::x9::wZ::En::G8::OI::h):=.there SH
theorem ja {A x0 x1 x2 x3 x4 x5 x6 x7 x8 x9 wZ En G8 OI PU:a8} {h:List a8}:Take (x0::x1::x2::x3::x4::x5::x6::x7::x8::x9::wZ::En::G8::OI::PU::A::h) A (x0::x1::x2::x3::x4::x5::x6::x7::x8::x9::wZ::En::G8::OI::PU::h):=.there CA
theorem mI {A x0 x1 x2 x3 x4 x5 x6 x7 x8 x9 wZ En G8 OI PU x15:a8} {h:List a8}:Take (x0::x1::x2::x3::x4::x5::x6::x7::x8::x9::wZ::En::G8::OI::PU::x15::A::h) A (x0::x1::x2::x3::x4::x5::x6::x7::x8::x9::wZ::En::G8::OI::PU::x15::h):=.there ja
theorem eE {v0:Value} (h0:v0.oneCell'=true):∀ u∈[v0],u.oneCell'=true:=bJ h0 (gm)
theorem fN {v0 v1:Value} (h0:v0.oneCell'=true) (h1:v1.oneCell'=true):∀ u∈[v0,v1],u.oneCell'=true:=bJ h0 (bJ h1 (gm))
theorem fo {v0 v1 v2:Value} (h0:v0.oneCell'=true) (h1:v1.oneCell'=true) (h2:v2.oneCell'=true):∀ u∈[v0,v1,v2],u.oneCell'=true:=bJ h0 (bJ h1 (bJ h2 (gm)))
theorem gE {v0 v1 v2 v3 v4 v5:Value} (h0:v0.oneCell'=true) (h1:v1.oneCell'=true) (h2:v2.oneCell'=true) (h3:v3.oneCell'=true) (h4:v4.oneCell'=true) (h5:v5.oneCell'=true):∀ u∈[v0,v1,v2,v3,v4,v5],u.oneCell'=true:=bJ h0 (bJ h1 (bJ h2 (bJ h3 (bJ h4 (bJ h5 (gm))))))
theorem V1 {v0 v1 v2 v3 v4 v5 v6 v7:Value} (h0:v0.oneCell'=true) (h1:v1.oneCell'=true) (h2:v2.oneCell'=true) (h3:v3.oneCell'=true) (h4:v4.oneCell'=true) (h5:v5.oneCell'=true) (h6:v6.oneCell'=true) (h7:v7.oneCell'=true):∀ u∈[v0,v1,v2,v3,v4,v5,v6,v7],u.oneCell'=true:=bJ h0 (bJ h1 (bJ h2 (bJ h3 (bJ h4 (bJ h5 (bJ h6 (bJ h7 (gm))))))))
theorem cd {sl w:aG} (h:lx sl w:=by repeat' first | with_reducible exact lx.nil | ((with_reducible apply lx.cons);(case h=>exact rfl))):lx sl w:=h
theorem lU {hs w q:List a8} (h:bz hs w q:=by repeat' first | with_reducible exact bz.nil | with_reducible apply bz.cons | with_reducible exact Take.here | with_reducible apply Take.there):bz hs w q:=h
theorem ka {P:Program} {sl:aG} {dst:Option Tmp} {ty:TypeId} {pos:String} {af:Array Edge} {g:Option (Nat×Bool)} {x :Operand} {ts:Array TypeId} {f:FuncId} {first cap args:List Value} (hx:Is sl x (.func (.func f) first.toArray cap.toArray):=by exact Is.of rfl)  (hb:bM P f:=by exact inferInstance) (he:first++[]++cap=args:=by exact dX):lG P sl ⟨dst,.call ⟨.value x,#[],ts⟩,ty,pos,af,g⟩ f args:=aY (xs:=[]) hx (.nil) hb he
theorem bL {P:Program} {sl:aG} {dst:Option Tmp} {ty:TypeId} {pos:String} {af:Array Edge} {g:Option (Nat×Bool)} {x y0:Operand} {ts:Array TypeId} {f:FuncId} {first cap args:List Value} {w0:Value} (hx:Is sl x (.func (.func f) first.toArray cap.toArray):=by exact Is.of rfl) (h0:Is sl y0 w0:=by exact Is.of rfl) (hb:bM P f:=by exact inferInstance) (he:first++[w0]++cap=args:=by exact dX):lG P sl ⟨dst,.call ⟨.value x,#[y0],ts⟩,ty,pos,af,g⟩ f args:=aY (xs:=[y0]) hx (.cons h0 (.nil)) hb he
theorem bd {P:Program} {sl:aG} {dst:Option Tmp} {ty:TypeId} {pos:String} {af:Array Edge} {g:Option (Nat×Bool)} {x y0 y1:Operand} {ts:Array TypeId} {f:FuncId} {first cap args:List Value} {w0 w1:Value} (hx:Is sl x (.func (.func f) first.toArray cap.toArray):=by exact Is.of rfl) (h0:Is sl y0 w0:=by exact Is.of rfl) (h1:Is sl y1 w1:=by exact Is.of rfl) (hb:bM P f:=by exact inferInstance) (he:first++[w0,w1]++cap=args:=by exact dX):lG P sl ⟨dst,.call ⟨.value x,#[y0,y1],ts⟩,ty,pos,af,g⟩ f args:=aY (xs:=[y0,y1]) hx (.cons h0 (.cons h1 (.nil))) hb he
theorem eK {P:Program} {sl:aG} {dst:Option Tmp} {ty:TypeId} {pos:String} {af:Array Edge} {g:Option (Nat×Bool)} {x y0 y1 y2:Operand} {ts:Array TypeId} {f:FuncId} {first cap args:List Value} {w0 w1 w2:Value} (hx:Is sl x (.func (.func f) first.toArray cap.toArray):=by exact Is.of rfl) (h0:Is sl y0 w0:=by exact Is.of rfl) (h1:Is sl y1 w1:=by exact Is.of rfl) (h2:Is sl y2 w2:=by exact Is.of rfl) (hb:bM P f:=by exact inferInstance) (he:first++[w0,w1,w2]++cap=args:=by exact dX):lG P sl ⟨dst,.call ⟨.value x,#[y0,y1,y2],ts⟩,ty,pos,af,g⟩ f args:=aY (xs:=[y0,y1,y2]) hx (.cons h0 (.cons h1 (.cons h2 (.nil)))) hb he
theorem vT {P:Program} {sl:aG} {dst:Option Tmp} {ty:TypeId} {pos:String} {af:Array Edge} {g:Option (Nat×Bool)} {x y0 y1 y2 y3:Operand} {ts:Array TypeId} {f:FuncId} {first cap args:List Value} {w0 w1 w2 w3:Value} (hx:Is sl x (.func (.func f) first.toArray cap.toArray):=by exact Is.of rfl) (h0:Is sl y0 w0:=by exact Is.of rfl) (h1:Is sl y1 w1:=by exact Is.of rfl) (h2:Is sl y2 w2:=by exact Is.of rfl) (h3:Is sl y3 w3:=by exact Is.of rfl) (hb:bM P f:=by exact inferInstance) (he:first++[w0,w1,w2,w3]++cap=args:=by exact dX):lG P sl ⟨dst,.call ⟨.value x,#[y0,y1,y2,y3],ts⟩,ty,pos,af,g⟩ f args:=aY (xs:=[y0,y1,y2,y3]) hx (.cons h0 (.cons h1 (.cons h2 (.cons h3 (.nil))))) hb he
theorem Lu {P:Program} {sl:aG} {dst:Option Tmp} {ty:TypeId} {pos:String} {af:Array Edge} {g:Option (Nat×Bool)} {x y0 y1 y2 y3 y4:Operand} {ts:Array TypeId} {f:FuncId} {first cap args:List Value} {w0 w1 w2 w3 w4:Value} (hx:Is sl x (.func (.func f) first.toArray cap.toArray):=by exact Is.of rfl) (h0:Is sl y0 w0:=by exact Is.of rfl) (h1:Is sl y1 w1:=by exact Is.of rfl) (h2:Is sl y2 w2:=by exact Is.of rfl) (h3:Is sl y3 w3:=by exact Is.of rfl) (h4:Is sl y4 w4:=by exact Is.of rfl) (hb:bM P f:=by exact inferInstance) (he:first++[w0,w1,w2,w3,w4]++cap=args:=by exact dX):lG P sl ⟨dst,.call ⟨.value x,#[y0,y1,y2,y3,y4],ts⟩,ty,pos,af,g⟩ f args:=aY (xs:=[y0,y1,y2,y3,y4]) hx (.cons h0 (.cons h1 (.cons h2 (.cons h3 (.cons h4 (.nil)))))) hb he
end Go.SL
namespace Go.Proofs.A1
open Go Go.SL
def ints (es:List Int):List (List Value):=es.map fun e=>[.int .i64 e]
theorem cY (es:List Int):(ints es).length=es.length:=by simp [ints]
theorem hP {es:List Int} {k:Nat} (h:k<es.length):(ints es)[k]? = some [.int .i64 es[k]]:=by simp [ints,h]
theorem jy {es:List Int} {k:Nat} (h:k<es.length):ints es≠[]:=by intro e;have:=congrArg List.length e;rw [cY] at this;simp at this;subst this;simp at h
inductive bU:List Value→List Int→Prop
 | nil:bU [] []
 | cons {e:Int} {vs:List Value} {es:List Int} (h:bU vs es):bU (.int .i64 e::vs) (e::es)
theorem bU.eq {vs:List Value} {es:List Int} (h:bU vs es):(vs.map fun v=>[v])=ints es:=by
 induction h with
 | nil=>rfl
 | cons h ih=>simp only [Z8,ints,ih]
theorem OY (c:Int) (w:World):aj Tryz.prog 323 [.int .u8 c] w (.bool (Gm c)):=by
 refine ah Tryz.func323 rfl rfl ?_
 (refine Jr<|Ja rfl<|Ji<|Jv rfl<|JF rfl<|Jv rfl<|gr rfl rfl rfl rfl<|aA rfl rfl inferInstance (fun hg bB=>(k9 (.bI hg rfl) (.of rfl))) rfl<|ab (cz (.of rfl) rfl) rfl<|Jv rfl<|gr rfl rfl rfl rfl<|aA rfl rfl inferInstance (fun hg bB=>(k9 (.of rfl) (.bI hg rfl))) rfl<|aA rfl rfl inferInstance (fun hg bB=>(a7 (.bI hg rfl))) rfl<|kp rfl rfl inferInstance (fun hg bB=>(a7 (.of rfl))) rfl<|kp rfl rfl inferInstance (fun hg bB=>(k9 (.bI hg rfl) (.of rfl))) rfl<|aA rfl rfl inferInstance (fun hg bB=>(kG hg (.bI hg rfl) rfl)) rfl<|ab (aZ (.of rfl) rfl) rfl<|Ja rfl<|Jn<|Je<|JT ?_)
 rfl
theorem T0 (c:Int) (w:World):aj Tryz.prog 324 [.int .u8 c] w (.bool (T1 c)):=by
 refine ah Tryz.func324 rfl rfl ?_
 (refine Jr<|Ja rfl<|Ji<|Jv rfl<|JF rfl<|Jv rfl<|gr rfl rfl rfl rfl<|aA rfl rfl inferInstance (fun hg bB=>(k9 (.bI hg rfl) (.of rfl))) rfl<|ab (cz (.of rfl) rfl) rfl<|Ja rfl<|Jn<|Je<|JT ?_)
 rfl
theorem kb (h:Bool) (e:Int) (w:World):aj Tryz.prog 129 [.bool h,.int .i64 e] w (.int .i64 (bW h e)):=by
 refine ah Tryz.func129 rfl rfl ?_
 (refine Jr<|Ja rfl<|Jn<|Jq<|Jr<|Jv rfl<|Jn<|nF rfl (fun ar=>?_) fun ar=>?_;refine Jr<|Jv rfl<|Ja rfl<|Jn<|Ju<|JT ?_;rotate_left;refine Jk<|Jr<|Ja rfl<|Jn<|Je<|JT ?_;rotate_right)
 all_goals simp [bW, *]
theorem tQ (n l m:Int) (w:World):aj Tryz.prog 67 [.int .i64 n,.int .i64 l,.int .i64 m] w (.int .i64 (fy n l m)):=by
 refine ah Tryz.func67 rfl rfl ?_
 (refine Jr<|Ja rfl<|Ji<|Jv rfl<|Jv rfl<|JA rfl<|Jv rfl<|gr rfl rfl rfl rfl<|gr rfl rfl rfl rfl<|aA rfl rfl inferInstance (fun hg bB=>(iK (.bI hg rfl) (.bI hg rfl))) rfl<|ab (aZ (.of rfl) rfl) rfl<|ai bd rfl (fun w' aB=>(kb _ 3 w'))<|Ja rfl<|Jn<|Je<|JT ?_)
 rfl
theorem QO (s:ByteArray) (w:World):aj Tryz.prog 270 [.string s] w (.bool (jY s)):=by
 refine ah Tryz.func270 rfl rfl ?_
 (refine Jr<|Ja rfl<|Jn<|Jq<|Jr<|Jv rfl<|ab (fJ (.of rfl)) rfl<|JC rfl<|Jv rfl<|gr rfl rfl rfl rfl<|aA rfl rfl inferInstance (fun hg bB=>(fJ (.bI hg rfl))) rfl<|aA rfl rfl inferInstance (fun hg bB=>(iK (.bI hg rfl) (.of rfl))) rfl<|ab (aZ (.of rfl) rfl) rfl<|Jv rfl<|gr rfl rfl rfl rfl<|aA rfl rfl inferInstance (fun hg bB=>(oY (.bI hg rfl) (.of rfl) (by omega) (by omega))) rfl<|du rfl rfl (fun hg=>(aY (.of rfl) (.cons (.bI hg rfl) .nil) inferInstance dX)) rfl (fun hg w' aB=>(OY _ w'))<|aA rfl rfl inferInstance (fun hg bB=>(dV (.bI hg rfl))) rfl<|ab (aZ (.of rfl) rfl) rfl<|Jn<|nF rfl (fun ar=>?_) fun ar=>?_;refine Jr<|Ja rfl<|Jn<|Ju<|JT ?_;rotate_left;refine Jk<|Jq<|Jr<|Ja rfl<|Jn<|J0 ?_;rotate_right)
 ·congr 1;symm
  change (_∨_)∨Gm (bt s 0)=false at ar
  unfold jY
  rcases ar with (h | h) | h
  ·simp;omega
  ·simp;omega
  ·simp [h]
 change (_∧_)∧Gm (bt s 0)=true at ar
 obtain ⟨⟨h0,h1⟩,h2⟩:=ar
 have hN:jY s=okF s 1:=by
  unfold jY
  rw [h2,decide_eq_true (by omega),decide_eq_true (by omega)];rfl
 rw [hN]
 refine aX (fun k:Nat=>1≤k∧k≤s.size∧okF s 1=okF s k) (fun k=>[(3,.int .i64 k),(0,.string s)]) (fun _=>[]) (fun k=>s.size-k) ?_ ?_
 ·apply aI 1 ⟨by omega,by omega,rfl⟩
  case hs1=>exact cd
  case ht=>(try simp only [Ze,Zf,Za]);exact .nil
 intro k ⟨NI,hk,hf⟩
 rw [hf]
 by_cases aK:k<s.size
 ·rw [zu aK]
  (refine Jq<|Jr<|Jv rfl<|Jv rfl<|ab (fJ (.of rfl)) rfl<|JA rfl<|Jn<|Jd rfl fun ar=>Jk<|Jq<|J0<|Jr<|Jv rfl<|Jv rfl<|ab (oY (.of rfl) (.of rfl) (by omega) ar) rfl<|ai bL rfl (fun w' aB=>(OY _ w'))<|JH rfl<|Jv rfl<|gr rfl rfl rfl rfl<|gr rfl rfl rfl rfl<|aA rfl rfl inferInstance (fun hg bB=>(oY (.bI hg rfl) (.bI hg rfl) (by omega) ar)) rfl<|du rfl rfl (fun hg=>(aY (.of rfl) (.cons (.bI hg rfl) .nil) inferInstance dX)) rfl (fun hg w' aB=>(T0 _ w'))<|aA rfl rfl inferInstance (fun hg bB=>(dV (.bI hg rfl))) rfl<|ab (cz (.of rfl) rfl) rfl<|Jv rfl<|gr rfl rfl rfl rfl<|gr rfl rfl rfl rfl<|aA rfl rfl inferInstance (fun hg bB=>(oY (.bI hg rfl) (.bI hg rfl) (by omega) ar)) rfl<|aA rfl rfl inferInstance (fun hg bB=>(gl (.bI hg rfl) (.of rfl))) rfl<|ab (cz (.of rfl) rfl) rfl<|Jn<|nF rfl (fun ar=>?_) fun ar=>?_;refine Jr<|Ja rfl<|Jn<|Je<|Jm<|Jh<|Jh<|Jm<|Jh<|JT ?_;rotate_left;refine Jw<|Jj<|Jt<|Jg<|Jv rfl<|JB rfl (by omega)<|Ja rfl<|Jn ?_;rotate_right)
  ·congr 1;symm
   change (Gm (bt s k)=false∧T1 (bt s k)=false)∧bt s k≠95 at ar
   simp [okB,ar]
  ·have ho:okB (bt s k)=true:=by
    change (Gm (bt s k)=true∨T1 (bt s k)=true)∨¬ bt s k≠95 at ar
    rcases ar with (h | h) | h
    ·simp [okB,h]
    ·simp [okB,h]
    ·simp [okB,Zo.1 h]
   rw [ho,Zaq]
   rw [zu aK,ho,Zaq] at hf
   rw [← hf]
   apply aJ (k+1) ⟨by omega,by omega,hf⟩ (by omega)
   case hs1=>exact cd
   case ht=>(try simp only [Ze,Zf,Za]);exact .nil
 ·(refine Jq<|Jr<|Jv rfl<|Jv rfl<|ab (fJ (.of rfl)) rfl<|JA rfl<|Jn<|Jc rfl fun ar=>Jp<|Jl<|Jo<|Jt<|Jr<|Ja rfl<|Jn<|Je<|JT ?_)
  rw [ES (by omega)]
theorem W9 (s:ByteArray) (w:World):aj Tryz.prog 189 [.string s] w (.int .i64 (nmF s)):=by
 refine ah Tryz.func189 rfl rfl ?_
 (refine Jr<|Ja rfl<|Ji<|Jv rfl<|ai bL rfl (fun w' aB=>(QO s w'))<|JH rfl<|ai bd rfl (fun w' aB=>(kb _ 8 w'))<|Ja rfl<|Jn<|Je<|JT ?_)
 rfl
theorem N3 (v:Value) (es:List Int) (w:World) (h:Rd w v 1 (ints es)):aj Tryz.prog 28 [v] w (.int .i64 (aV es)):=by
 obtain ⟨a,cap,b,o,rfl,c7,bQ,ha,hc⟩:=h
 rw [cY] at *
 unfold maxLen at bQ
 refine ah Tryz.func28 rfl rfl ?_
 refine Jr<|Ja rfl<|Jn<|Jq<|Jr<|Ja rfl<|Jn<|J0 ?_
 refine aX (fun k:Nat=>k≤es.length∧aV es=aV (es.drop k)) (fun k=>[(3,.int .i64 k),(0,.slice a es.length cap)]) (fun _=>[]) (fun k=>es.length-k) ?_ ?_
 ·apply aI 0 ⟨Zi _,rfl⟩
  case hs1=>exact cd
  case ht=>(try simp only [Ze,Zf,Za]);exact .nil
 intro k ⟨hk,hf⟩
 by_cases aK:k<es.length
 ·have cB:=ha (jy aK)
  have aC:=rd1 hc (hP aK)
  have hs:=sg aK
  (refine Jq<|Jr<|Jv rfl<|Jv rfl<|JI rfl<|JA rfl<|Jn<|Jd rfl fun ar=>Jk<|Jq<|J0<|Jr<|Jv rfl<|Jv rfl<|ab (fG cB ar) rfl<|ab (ag (.of rfl) (At.base aC rfl)) rfl<|JD rfl<|Jn<|fP rfl (fun ar=>?_) fun ar=>?_;refine Jr<|Jv rfl<|Jv rfl<|ab (az (.of rfl) (.of rfl) cB (by omega) (by assumption) bj) rfl<|ab (ag (.of rfl) (At.base aC rfl)) rfl<|Ja rfl<|Jn<|Je<|Jm<|Jh<|Jh<|Jm<|Jh<|JT ?_;rotate_left;refine Jw<|Jj<|Jt<|Jg<|Jv rfl<|JB rfl (by omega)<|Ja rfl<|Jn ?_;rotate_right)
  ·rw [hf,hs,if_pos ar]
  ·apply aJ (k+1) ⟨by omega,by rw [hf,hs,if_neg ar]⟩ (by omega)
   case hs1=>exact cd
   case ht=>(try simp only [Ze,Zf,Za]);exact .nil
 ·refine Jq<|Jr<|Jv rfl<|Jv rfl<|JI rfl<|JA rfl<|Jn<|Jc rfl fun ar=>Jp<|Jl<|Jo<|Jt<|Jr<|Ja rfl<|Jn<|Je<|JT ?_
  rw [hf,ZaZ (by omega)];rfl
theorem j8 {v:Value} {cs:List Value} {es:List Int} {w:World} (h:Rd w v 1 (cs.map fun v=>[v])) (hl:bU cs es):aj Tryz.prog 28 [v] w (.int .i64 (aV es)):=
 N3 v es w (by rw [← hl.eq];exact h)
theorem dU (h:Bool) (e:Int) (w:World):aj Tryz.prog 147 [.bool h,.int .i64 e] w (.int .i64 (bW h e)):=by
 refine ah Tryz.func147 rfl rfl ?_
 (refine Jr<|Ja rfl<|Jn<|Jq<|Jr<|Jv rfl<|Jn<|nF rfl (fun ar=>?_) fun ar=>?_;refine Jr<|Jv rfl<|Ja rfl<|Jn<|Ju<|JT ?_;rotate_left;refine Jk<|Jr<|Ja rfl<|Jn<|Je<|JT ?_;rotate_right)
 all_goals simp [bW, *]
theorem mj (n l m:Int) (w:World):aj Tryz.prog 134 [.int .i64 n,.int .i64 l,.int .i64 m] w (.int .i64 (fy n l m)):=by
 refine ah Tryz.func134 rfl rfl ?_
 (refine Jr<|Ja rfl<|Ji<|Jv rfl<|Jv rfl<|JA rfl<|Jv rfl<|gr rfl rfl rfl rfl<|gr rfl rfl rfl rfl<|aA rfl rfl inferInstance (fun hg bB=>(iK (.bI hg rfl) (.bI hg rfl))) rfl<|ab (aZ (.of rfl) rfl) rfl<|ai bd rfl (fun w' aB=>(dU _ 3 w'))<|Ja rfl<|Jn<|Je<|JT ?_)
 rfl
theorem N4 (v:Value) (es:List Int) (w:World) (h:Rd w v 1 (ints es)):aj Tryz.prog 111 [v] w (.int .i64 (aV es)):=by
 obtain ⟨a,cap,b,o,rfl,c7,bQ,ha,hc⟩:=h
 rw [cY] at *
 unfold maxLen at bQ
 refine ah Tryz.func111 rfl rfl ?_
 refine Jr<|Ja rfl<|Jn<|Jq<|Jr<|Jv rfl<|JI rfl<|Jv rfl<|Jn<|J0 ?_
 refine aX (fun k:Nat=>k≤es.length∧aV es=aV (es.drop k)) (fun k=>[(7,.int .i64 k),(6,.int .i64 es.length),(5,.slice a es.length cap)]) (fun _=>[]) (fun k=>es.length-k) ?_ ?_
 ·apply aI 0 ⟨Zi _,rfl⟩
  case hs1=>exact cd
  case ht=>(try simp only [Ze,Zf,Za]);exact .nil
 intro k ⟨hk,hf⟩
 by_cases aK:k<es.length
 ·have cB:=ha (jy aK)
  have aC:=rd1 hc (hP aK)
  have hs:=sg aK
  (refine Jr<|JA rfl<|Jn<|Jq<|Jd rfl fun ar=>Jk<|Jq<|J0<|Jr<|ab (fG cB ar) rfl<|ab (ag (.of rfl) (At.base aC rfl)) rfl<|Ja rfl<|Ji<|Jv rfl<|JD rfl<|Jn<|fP rfl (fun ar=>?_) fun ar=>?_;refine Jr<|Jv rfl<|Ja rfl<|Jn<|Je<|Jm<|Jh<|Jh<|Jm<|Jh<|JT ?_;rotate_left;refine Jw<|Jj<|Jt<|Jg<|JB rfl (by omega)<|Jv rfl<|Jn ?_;rotate_right)
  ·rw [hf,hs,if_pos ar]
  ·apply aJ (k+1) ⟨by omega,by rw [hf,hs,if_neg ar]⟩ (by omega)
   case hs1=>exact cd
   case ht=>(try simp only [Ze,Zf,Za]);exact .nil
 ·refine Jr<|JA rfl<|Jn<|Jq<|Jc rfl fun ar=>Jp<|Jl<|Jo<|Jt<|Jr<|Ja rfl<|Jn<|Je<|JT ?_
  rw [hf,ZaZ (by omega)];rfl
theorem dN {v:Value} {cs:List Value} {es:List Int} {w:World} (h:Rd w v 1 (cs.map fun v=>[v])) (hl:bU cs es):aj Tryz.prog 111 [v] w (.int .i64 (aV es)):=
 N4 v es w (by rw [← hl.eq];exact h)
theorem VN {s:ByteArray} {p:Nat} (h:p<s.size):bt s p=((s[p]'h).toNat:Nat):=by
 unfold bt
 have:s.data.toList[p]? = some (s[p]'h):=by
  rw [ZaC]
  exact getElem?_pos s.data p h
 rw [this];rfl
theorem yq {s:ByteArray} {p:Nat} (h:p<s.size):(bt s p<128∧((Utf8.decode s p).1:Int)=bt s p∧(Utf8.decode s p).2=1)∨(128≤bt s p∧(128:Int)≤(Utf8.decode s p).1∧1≤(Utf8.decode s p).2):=by
 rw [VN h]
 by_cases ha:(s[p]'h).toNat<128
 ·have:=decode_ascii s p h ha
  left;rw [this];exact ⟨by omega,rfl,rfl⟩
 ·have:=decode_high s p h (by omega)
  right;omega
theorem BE {s:ByteArray}:s.size=0↔s=⟨#[]⟩:=by
 constructor
 ·intro h
  have:s.data=#[]:=Array.eq_empty_of_size_eq_zero h
  cases s;simp_all
 ·rintro rfl;rfl
theorem E0 {c:Int}:Gm c=true↔(65≤c∧c≤90)∨(97≤c∧c≤122):=by simp [Gm]
theorem zv {c:Int}:okB c=true↔((65≤c∧c≤90)∨(97≤c∧c≤122))∨(48≤c∧c≤57)∨c=95:=by simp [okB,Gm,T1,or_assoc]
theorem DA (s:ByteArray) (w:World):aj Tryz.prog 187 [.string s] w (.bool (jY s)):=by
 refine ah Tryz.func187 rfl rfl ?_
 (refine Jr<|Ja rfl<|Jn<|Jq<|Jr<|Jv rfl<|bo (F6 (.of rfl)) rfl fun _ _=>Jn<|J0 ?_)
 rename_i bi hbi
 refine aX (fun p:Nat=>p≤s.size∧(p=0∨(1≤p∧Gm (bt s 0)=true∧okF s 1=okF s p))) (fun _=>[(7,.pointer (some ⟨bi,0,none⟩)),(0,.string s)]) (fun p=>[bG bi (.stringIter s p)]) (fun p=>s.size-p) ?_ ?_
 ·apply aI 0 ⟨by omega,.inl rfl⟩
  case hs1=>exact cd
  case ht=>(try simp only [Ze,Zf,Za]);exact .cons .here .nil
 intro p ⟨hp,hI⟩
 (refine Jr<|HA (.of rfl) .here rfl (fun aK=>?_) fun aK=>?_;refine JJ rfl rfl<|Jn<|Jq<|cF (.of rfl)<|Jk<|J0<|Jr<|JJ rfl rfl<|JJ rfl rfl<|Ja rfl<|Ja rfl<|Ji<|Jv rfl<|JG rfl<|Jv rfl<|gr rfl rfl rfl rfl<|aA rfl rfl inferInstance (fun hg bB=>(k9 (.bI hg rfl) (.of rfl))) rfl<|ab (cz (.of rfl) rfl) rfl<|Jv rfl<|gr rfl rfl rfl rfl<|aA rfl rfl inferInstance (fun hg bB=>(zh (.bI hg rfl) (.of rfl))) rfl<|aA rfl rfl inferInstance (fun hg bB=>(a7 (.bI hg rfl))) rfl<|kp rfl rfl inferInstance (fun hg bB=>(a7 (.of rfl))) rfl<|kp rfl rfl inferInstance (fun hg bB=>(k9 (.bI hg rfl) (.of rfl))) rfl<|aA rfl rfl inferInstance (fun hg bB=>(kG hg (.bI hg rfl) rfl)) rfl<|ab (aZ (.of rfl) rfl) rfl<|Ja rfl<|Ji<|Jv rfl<|JH rfl<|Jv rfl<|gr rfl rfl rfl rfl<|aA rfl rfl inferInstance (fun hg bB=>(lY (.bI hg rfl) (.of rfl))) rfl<|aA rfl rfl inferInstance (fun hg bB=>(a7 (.bI hg rfl))) rfl<|kp rfl rfl inferInstance (fun hg bB=>(a7 (.of rfl))) rfl<|kp rfl rfl inferInstance (fun hg bB=>(k8 (.bI hg rfl) (.of rfl))) rfl<|kp rfl rfl inferInstance (fun hg bB=>(a7 (.bI hg rfl))) rfl<|kp rfl rfl inferInstance (fun hg bB=>(a7 (.of rfl))) rfl<|kp rfl rfl inferInstance (fun hg bB=>(iK (.bI hg rfl) (.of rfl))) rfl<|kp rfl rfl inferInstance (fun hg bB=>(nX hg (.bI hg rfl) rfl)) rfl<|kp rfl rfl inferInstance (fun hg bB=>(a7 (.bI hg rfl))) rfl<|kp rfl rfl inferInstance (fun hg bB=>(a7 (.of rfl))) rfl<|kp rfl rfl inferInstance (fun hg bB=>(gl (.bI hg rfl) (.of rfl))) rfl<|kp rfl rfl inferInstance (fun hg bB=>(kG hg (.bI hg rfl) rfl)) rfl<|aA rfl rfl inferInstance (fun hg bB=>(nX hg (.bI hg rfl) rfl)) rfl<|ab (cz (.of rfl) rfl) rfl<|Jn<|nF rfl (fun ar=>?_) fun ar=>?_;refine Jr<|Ja rfl<|Jn<|Je<|Jm<|Jh<|Jm<|Jh<|JT ?_;rotate_left;refine Jw<|Jj<|Jt ?_;rotate_right;rotate_left 2;refine JJ rfl rfl<|Jn<|Jq<|bN (.of rfl)<|Jp<|Jl<|Jo<|Jt<|Jr<|Jv rfl<|ab (fR (.of rfl) (.of rfl)) rfl<|Jv rfl<|gr rfl rfl rfl rfl<|aA rfl rfl inferInstance (fun hg bB=>(fJ (.bI hg rfl))) rfl<|aA rfl rfl inferInstance (fun hg bB=>(k9 (.bI hg rfl) (.of rfl))) rfl<|ab (cz (.of rfl) rfl) rfl<|Ja rfl<|Jn<|Je<|JT ?_;rotate_right 2)
 ·congr 1;symm
  unfold jY
  have hd:=yq aK
  rcases hI with rfl | ⟨h1,h2,h3⟩
  ·have:Gm (bt s 0)=false:=by rw [← Zau,E0];omega
   simp [this]
  ·have:okF s p=false:=by
    rw [zu aK]
    have:okB (bt s p)=false:=by rw [← Zau,zv];omega
    rw [this];rfl
   rw [h3,this];simp
 ·have hd:=yq aK
  have ho:okB (bt s p)=true:=by rw [zv];omega
  have hw:(Utf8.decode s p).2=1:=by rw [zv] at ho;omega
  rw [hw]
  have hn:Gm (bt s 0)=true∧okF s 1=okF s (p+1):=by
   rcases hI with rfl | ⟨h1,h2,h3⟩
   ·refine ⟨?_,rfl⟩
    rw [E0];omega
   ·exact ⟨h2,by rw [h3,zu aK,ho];rfl⟩
  apply aJ (p+1) ⟨by omega,.inr ⟨by omega,hn⟩⟩ (by omega)
  case hs1=>exact cd
  case ht=>(try simp only [Ze,Zf,Za]);exact .cons .here .nil
 ·unfold jY
  congr 1
  by_cases h0:s.size=0
  ·have:s=⟨#[]⟩:=BE.1 h0
   rw [decide_eq_false (p:=s≠⟨#[]⟩) (fun h=>h this),decide_eq_false (p:=0<s.size) (by omega)];rfl
  ·rw [decide_eq_true (p:=s≠⟨#[]⟩) (fun h=>h0 (BE.2 h)),decide_eq_true (p:=0<s.size) (by omega)]
   rcases hI with rfl | ⟨h1,h2,h3⟩
   ·omega
   ·rw [h2,h3,ES (by omega)]
    simp
    omega
def Sr.cells (x:Sr):List Value:=[.string x.nm,.int .i64 x.mx]
def uC (l:List Sr):List (List Value):=l.map Sr.cells
def nR (l:List Sr):List Value:=(uC l).flatten
theorem cE (l:List Sr):(uC l).length=l.length:=by simp [uC]
theorem fQ {l:List Sr} {k:Nat} (h:k<l.length):(uC l)[k]? = some ((Sr.cells) l[k]):=by simp [uC,h]
theorem iJ {l:List Sr} {k:Nat} (h:k<l.length):uC l≠[]:=by intro e;have:=congrArg List.length e;rw [cE] at this;simp at this;subst this;simp at h
theorem HO (l:List Sr):∀ r∈uC l,r.length=2:=fun r hr=>by obtain ⟨x,_,rfl⟩:=Zu.1 hr;rfl
theorem Mx (l:List Sr):∀ r∈uC l,∀ u∈r,u.oneCell'=true:=fun r hr=>by obtain ⟨x,_,rfl⟩:=Zu.1 hr;exact bJ rfl (bJ rfl (gm))
theorem EF (l:List Sr):(nR l).length=l.length*2:=by unfold nR;rw [fg (HO l),cE]
theorem Mw (a b:List Sr):nR (a++b)=nR a++nR b:=by unfold nR uC;rw [Zr,Zab]
theorem A7 {l:List Sr} {k:Nat} (h:k<l.length):nR (l.take (k+1))=nR (l.take k)++(Sr.cells) l[k]:=by rw [Zn h,Mw];unfold nR uC;simp
theorem cW {c:Cx} {hs hs':List a8} {w:World} {l:List Sr} {E:TypeId} {v:Value} {n:Nat} (hm:Mem c hs w) (ht:Take hs (row E 2 v n (nR l)) hs') (hn:l.length=n):Rd w v 2 (uC l):=hm.n9 ht rfl (HO l) (by rw [cE,hn])
def De.cells (x:De):List Value:=[.string x.nm,.int .i64 x.mx,.bool x.pr]
def ue (l:List De):List (List Value):=l.map De.cells
def lS (l:List De):List Value:=(ue l).flatten
theorem cg (l:List De):(ue l).length=l.length:=by simp [ue]
theorem fj {l:List De} {k:Nat} (h:k<l.length):(ue l)[k]? = some ((De.cells) l[k]):=by simp [ue,h]
theorem gJ {l:List De} {k:Nat} (h:k<l.length):ue l≠[]:=by intro e;have:=congrArg List.length e;rw [cg] at this;simp at this;subst this;simp at h
theorem D5 (l:List De):∀ r∈ue l,r.length=3:=fun r hr=>by obtain ⟨x,_,rfl⟩:=Zu.1 hr;rfl
theorem Oj (l:List De):∀ r∈ue l,∀ u∈r,u.oneCell'=true:=fun r hr=>by obtain ⟨x,_,rfl⟩:=Zu.1 hr;exact bJ rfl (bJ rfl (bJ rfl (gm)))
theorem Fu (l:List De):(lS l).length=l.length*3:=by unfold lS;rw [fg (D5 l),cg]
theorem Oi (a b:List De):lS (a++b)=lS a++lS b:=by unfold lS ue;rw [Zr,Zab]
theorem Ce {l:List De} {k:Nat} (h:k<l.length):lS (l.take (k+1))=lS (l.take k)++(De.cells) l[k]:=by rw [Zn h,Oi];unfold lS ue;simp
theorem cX {c:Cx} {hs hs':List a8} {w:World} {l:List De} {E:TypeId} {v:Value} {n:Nat} (hm:Mem c hs w) (ht:Take hs (row E 3 v n (lS l)) hs') (hn:l.length=n):Rd w v 3 (ue l):=hm.n9 ht rfl (D5 l) (by rw [cg,hn])
def Ti.cells (x:Ti):List Value:=[.string x.nm,.int .i64 x.fr,.int .i64 x.to]
def tK (l:List Ti):List (List Value):=l.map Ti.cells
def pS (l:List Ti):List Value:=(tK l).flatten
theorem bY (l:List Ti):(tK l).length=l.length:=by simp [tK]
theorem eB {l:List Ti} {k:Nat} (h:k<l.length):(tK l)[k]? = some ((Ti.cells) l[k]):=by simp [tK,h]
theorem fq {l:List Ti} {k:Nat} (h:k<l.length):tK l≠[]:=by intro e;have:=congrArg List.length e;rw [bY] at this;simp at this;subst this;simp at h
theorem HG (l:List Ti):∀ r∈tK l,r.length=3:=fun r hr=>by obtain ⟨x,_,rfl⟩:=Zu.1 hr;rfl
theorem Ml (l:List Ti):∀ r∈tK l,∀ u∈r,u.oneCell'=true:=fun r hr=>by obtain ⟨x,_,rfl⟩:=Zu.1 hr;exact bJ rfl (bJ rfl (bJ rfl (gm)))
theorem EA (l:List Ti):(pS l).length=l.length*3:=by unfold pS;rw [fg (HG l),bY]
theorem Mk (a b:List Ti):pS (a++b)=pS a++pS b:=by unfold pS tK;rw [Zr,Zab]
theorem A3 {l:List Ti} {k:Nat} (h:k<l.length):pS (l.take (k+1))=pS (l.take k)++(Ti.cells) l[k]:=by rw [Zn h,Mk];unfold pS tK;simp
theorem cV {c:Cx} {hs hs':List a8} {w:World} {l:List Ti} {E:TypeId} {v:Value} {n:Nat} (hm:Mem c hs w) (ht:Take hs (row E 3 v n (pS l)) hs') (hn:l.length=n):Rd w v 3 (tK l):=hm.n9 ht rfl (HG l) (by rw [bY,hn])
def Po.cells (x:Po):List Value:=[.int .i64 x.lv,.string x.ou,.string x.ip]
def sJ (l:List Po):List (List Value):=l.map Po.cells
def gR (l:List Po):List Value:=(sJ l).flatten
theorem cT (l:List Po):(sJ l).length=l.length:=by simp [sJ]
theorem iq {l:List Po} {k:Nat} (h:k<l.length):(sJ l)[k]? = some ((Po.cells) l[k]):=by simp [sJ,h]
theorem kg {l:List Po} {k:Nat} (h:k<l.length):sJ l≠[]:=by intro e;have:=congrArg List.length e;rw [cT] at this;simp at this;subst this;simp at h
theorem Iq (l:List Po):∀ r∈sJ l,r.length=3:=fun r hr=>by obtain ⟨x,_,rfl⟩:=Zu.1 hr;rfl
theorem EN (l:List Po):∀ r∈sJ l,∀ u∈r,u.oneCell'=true:=fun r hr=>by obtain ⟨x,_,rfl⟩:=Zu.1 hr;exact bJ rfl (bJ rfl (bJ rfl (gm)))
theorem ju (l:List Po):(gR l).length=l.length*3:=by unfold gR;rw [fg (Iq l),cT]
theorem MV (a b:List Po):gR (a++b)=gR a++gR b:=by unfold gR sJ;rw [Zr,Zab]
theorem Bx {l:List Po} {k:Nat} (h:k<l.length):gR (l.take (k+1))=gR (l.take k)++(Po.cells) l[k]:=by rw [Zn h,MV];unfold gR sJ;simp
theorem cM {c:Cx} {hs hs':List a8} {w:World} {l:List Po} {E:TypeId} {v:Value} {n:Nat} (hm:Mem c hs w) (ht:Take hs (row E 3 v n (gR l)) hs') (hn:l.length=n):Rd w v 3 (sJ l):=hm.n9 ht rfl (Iq l) (by rw [cT,hn])
def iI (l:List ByteArray):List (List Value):=l.map fun s=>[.string s]
def aM (l:List ByteArray):List Value:=l.map Value.string
theorem bV (l:List ByteArray):(iI l).length=l.length:=by simp [iI]
theorem jb {l:List ByteArray} {k:Nat} (h:k<l.length):(iI l)[k]? = some [.string l[k]]:=by simp [iI,h]
theorem k6 {l:List ByteArray} {k:Nat} (h:k<l.length):iI l≠[]:=by intro e;have:=congrArg List.length e;rw [bV] at this;simp at this;subst this;simp at h
theorem HJ (l:List ByteArray):∀ r∈iI l,r.length=1:=fun r hr=>by obtain ⟨x,_,rfl⟩:=Zu.1 hr;rfl
theorem yV (l:List ByteArray):∀ r∈iI l,∀ u∈r,u.oneCell'=true:=fun r hr=>by obtain ⟨x,_,rfl⟩:=Zu.1 hr;exact bJ rfl gm
theorem qI (l:List ByteArray):aM l=(iI l).flatten:=by
 induction l with
 | nil=>rfl
 | cons x l ih=>show [Value.string x]++aM l=_;rw [ih];rfl
theorem df (l:List ByteArray):(aM l).length=l.length:=by simp [aM]
theorem eX (a b:List ByteArray):aM (a++b)=aM a++aM b:=by simp [aM]
theorem dL {c:Cx} {hs hs':List a8} {w:World} {l:List ByteArray} {E:TypeId} {v:Value} {n:Nat} (hm:Mem c hs w) (ht:Take hs (row E 1 v n (aM l)) hs') (hn:l.length=n):Rd w v 1 (iI l):=hm.n9 ht (qI l) (HJ l) (by rw [bV,hn])
structure RR (w:World) (r:Ro) (s d t p:Value):Prop where
 sr:Rd w s 2 (uC r.sr)
 de:Rd w d 3 (ue r.de)
 ti:Rd w t 3 (tK r.ti)
 po:Rd w p 3 (sJ r.po)
theorem RR.keeps {w w':World} {r:Ro} {s d t p:Value} (h:RR w r s d t p) (hk:aH [] w w'):RR w' r s d t p:=⟨h.sr.keeps hk,h.de.keeps hk,h.ti.keeps hk,h.po.keeps hk⟩
def RA (r:Ro) (s d t p:Value):Value:=.agg #[.int .i64 r.lv,.int .i64 r.ma,s,d,t,p]
abbrev JQ (b:Nat) (r:Ro) (s d t p:Value):a8:=bG b (.cells #[.int .i64 r.lv,.int .i64 r.ma,s,d,t,p] 27 (0,0))
abbrev JP (b:Nat) (r:Ro) (s d t p:Value):a8:=bG b (.cells #[.int .i64 r.lv,.int .i64 r.ma,s,d,t,p] 41 (0,0))
abbrev J1 (r:Ro) (v:Value):a8:=row 186 2 v r.sr.length (nR r.sr)
abbrev J2 (r:Ro) (v:Value):a8:=row 90 3 v r.de.length (lS r.de)
abbrev J3 (r:Ro) (v:Value):a8:=row 187 3 v r.ti.length (pS r.ti)
abbrev J4 (r:Ro) (v:Value):a8:=row 188 3 v r.po.length (gR r.po)
abbrev JW (v:Value) (l:List ByteArray):a8:=row 9 1 v l.length (aM l)
end Go.Proofs.A1
namespace Go.SL
open Go
def EE (As:List a8):a8 where
 sat h fp:=ch h As fp
 loc:=fun hs hb=>hs.loc hb
 own:=fun hs b hb=>hs.own b hb
def gj (E:TypeId):List Value→List (List Value)→List a8
 | v::vs,x::xs=>row E 1 v x.length x::gj E vs xs
 | _,_=>[]
def mq (E:TypeId) (vs:List Value) (xs:List (List Value)):a8:=EE (gj E vs xs)
theorem xP {E:TypeId} {v:Value} {x:List Value}:∀ {vs:List Value} {xs:List (List Value)} {j:Nat},vs[j]? = some v→xs[j]? = some x→∃ r,Take (gj E vs xs) (row E 1 v x.length x) r
 | [],_,j,h,_=>by simp at h
 | _::_,[],j,_,h=>by simp at h
 | v' :: vs, x' :: xs, 0, h1, h2 => by
  simp only [Zax,Option.some.injEq] at h1 h2
  subst h1 h2
  exact ⟨_,.here⟩
 | v' :: vs, x' :: xs, j + 1, h1, h2 => by
  simp only [ZaV] at h1 h2
  obtain ⟨r,hr⟩:=xP h1 h2
  exact ⟨_,.there hr⟩
theorem xQ {E:TypeId} {v:Value} {x:List Value}:∀ {vs:List Value} {xs:List (List Value)},vs.length=xs.length→gj E (vs++[v]) (xs++[x])=gj E vs xs++[row E 1 v x.length x]
 | [],[],_=>rfl
 | [],_::_,h=>by simp at h
 | _::_,[],h=>by simp at h
 | v' :: vs, x' :: xs, h => by
  simp only [ZJ,Nat.add_right_cancel_iff] at h
  simp only [Zb,gj,xQ h]
theorem Mem.Dr {c:Cx} {hs hs':List a8} {w:World} {E:TypeId} {vs:List Value} {xs:List (List Value)} {j:Nat} {v:Value} {x:List Value} (hm:Mem c hs w) (ht:Take hs (mq E vs xs) hs') (hv:vs[j]? = some v) (hx:xs[j]? = some x):Rd w v 1 (x.map fun u=>[u]):=by
 obtain ⟨k,fp,hn,⟨f1,f2,rfl,h1,h2⟩,hb⟩:=hm.take ht
 have l7:Mem c (gj E vs xs++hs') w:=⟨k,f1++f2,hn,ch.append_iff.2 ⟨f1,f2,rfl,h1,h2⟩,hb⟩
 obtain ⟨r,hr⟩:=xP (E:=E) hv hx
 exact l7.Qs (hr.append hs') rfl
section
variable {P:Program} {r:Option Nat} {c:Cx} {D:List Nat} {sl:aG} {hs hs':List a8} {X:Act→World→Prop} {Q:Exit→Act→World→Prop} {ι:Type}
variable {ops:Array Oper} {d:Nat} {ty:TypeId} {pos:String} {af:Array Edge} {rest:List Oper}
theorem kY {E:TypeId} {vs:List Value} {xs:List (List Value)} {v:Value} {x:List Value} {n:Nat} {h1 h2:List a8} (ht:Take hs (mq E vs xs) h1) (ht2:Take h1 (row E 1 v n x) h2) (hn:n=x.length) (hl:vs.length=xs.length)
  (k:Tr c D sl (mq E (vs++[v]) (xs++[x])::h2) X):Tr c D sl hs X:=fun a w bb=>by
 subst hn
 have hT:bz hs [mq E vs xs,row E 1 v x.length x] h2:=.cons ht (.cons ht2 .nil)
 have hm:=bb.mem.iT (hT.append (mw D))
 obtain ⟨kk,fp,tX,⟨f1,f2',rfl,g1,⟨f2,f3,rfl,g2,g3⟩⟩,hb⟩:=hm
 refine k a w (bb.heap ⟨kk,(f1++f2)++f3,by rw [Zh];exact tX,⟨f1++f2,f3,rfl,?_,g3⟩,by rw [Zh];exact hb⟩)
 show ch (hp w) (gj E (vs++[v]) (xs++[x])) (f1++f2)
 rw [xQ hl]
 exact ch.append_iff.2 ⟨f1,f2,rfl,g1,⟨f2,[],by simp,g2,rfl⟩⟩
theorem jI (E:TypeId) (k:Tr c D sl (mq E [] []::hs) X):Tr c D sl hs X:=fun a w bb=>
 k a w (bb.heap (Mem.change (As := []) (Bs := [mq E [] []]) bb.mem fun fp _ hf => by
  rw [show fp=[] from hf]
  exact ⟨.refl _ _,[],Zam,⟨[],[],rfl,rfl,rfl⟩,by simp⟩))
theorem xl {As:List a8} (ht:Take hs (EE As) hs') (k:Tr c D sl (As++hs') X):Tr c D sl hs X:=fun a w bb=>by
 obtain ⟨kk,fp,hn,⟨f1,f2,rfl,h1,h2⟩,hb⟩:=bb.mem.take (ht.append _)
 exact k a w (bb.heap ⟨kk,f1++f2,hn,by rw [Zh];exact ch.append_iff.2 ⟨f1,f2,rfl,h1,h2⟩,hb⟩)
theorem oS {As:List a8} (ht:bz hs As hs') (k:Tr c D sl (EE As::hs') X):Tr c D sl hs X:=fun a w bb=>by
 obtain ⟨kk,fp,hn,ir,hb⟩:=bb.mem.iT (ht.append (mw D))
 obtain ⟨f1,f2,rfl,h1,h2⟩:=ch.append_iff.1 ir
 exact k a w (bb.heap ⟨kk,f1++f2,hn,⟨f1,f2,rfl,h1,h2⟩,hb⟩)
theorem fS {op:Op} {f:FuncId} {args:List Value} {As:List a8} {Φ:ι→Prop} {val:ι→Value} {own:ι→List a8} (hr:lG P sl ⟨some d,op,ty,pos,af,none⟩ f args) (hd:Nat.blt d c.nt=true) (ht:bz hs As hs')
  (hc:∀ w fp,Mem c hs w→fp.Nodup→ch (hp w) As fp→(∀ b∈fp,b∈c.md∨c.w0.heap.size≤b)→(∀ b o h2,Take hs' (bG b o) h2→b ∉ fp)→bh P f args w fp Φ val own)
  (k:∀ x,Φ x→Tr c D ((d,val x)::sl) (own x++hs') (WL P r ops Q rest)):Tr c D sl hs (WL P r ops Q (⟨some d,op,ty,pos,af,none⟩::rest)):=fun a w bb=>by
 have hm:=bb.mem.iT (ht.append (mw D))
 obtain ⟨kk,fp,hn,ir,hb⟩:=hm
 obtain ⟨f1,f2,rfl,h1,h2⟩:=ch.append_iff.1 ir
 obtain ⟨n1,n2,n12⟩:=ZF.1 hn
 have kM:∀ b o h3,Take hs' (bG b o) h3→b ∉ f1:=fun b o h3 htk NO=>by
  obtain ⟨g1,g2,⟨e1,_⟩,_,hp⟩:=ch.take (htk.append (mw D)) h2
  have:b∈f2:=hp.mem_iff.2 (ZE _ (by rw [e1];simp))
  exact n12 b NO b this rfl
 refine yD rfl hr bb.cS (hc w f1 bb.rb n1 h1 (fun b dA=>(hb b (ZE _ dA)).symm) kM) fun e w' ⟨x,he,hx,hk,lD,tX,hs',yh⟩=>⟨val x,he,k x hx _ _ ((bb.put (by simpa [Z4] using hd) (val x)).heap ?_)⟩
 have aK:∀ b∈f2,b<w.heap.size:=fun b dA=>let ⟨o,ho⟩:=h2.own b dA;j5 ho
 rw [Zh]
 refine ⟨?_,lD++f2,?_,ch.append_iff.2 ⟨lD,f2,rfl,hs',h2.loc fun b dA=>?_⟩,?_⟩
 ·refine ⟨hk.os.trans kk.os,hk.tape.trans kk.tape,hk.output.trans kk.output,ZY kk.dr hk.dr,ZY kk.size hk.size,fun b dA hm=>?_⟩
  rw [← kk.block b dA hm]
  refine hk.block b (Zay dA kk.size) (fun hf=>?_)
  rcases hb b (ZE _ hf) with h | h
  ·omega
  ·exact hm h
 ·refine ZF.2 ⟨tX,n2,fun x hx y hy e=>?_⟩
  subst e
  rcases yh x hx with h | h
  ·exact n12 x h x hy rfl
  ·have:=aK x hy;omega
 ·exact hk.block b (aK b dA) (fun hf=>n12 b hf b dA rfl)
 ·intro b dA
  rcases Zx.1 dA with h | h
  ·rcases yh b h with h | h
   ·exact hb b (ZE _ h)
   ·exact .inl (ZY kk.size h)
  ·exact hb b (ZS _ h)
end
end Go.SL
namespace Go.Proofs.A1
open Go Go.SL
def gP {α:Type} (p:α→Bool) (l:List α):Int:=((List.range l.length).find? fun i=>(l[i]?.map p).getD false).elim (-1) (fun i=>(i:Int))
theorem gp {α:Type} {p:α→Bool} {l:List α} {k:Nat} (h:∀ i,i<k→(l[i]?.map p).getD false=false) (hk:k<l.length) (hp:p l[k]=true):gP p l=k:=by
 unfold gP
 have:(List.range l.length).find? (fun i=>(l[i]?.map p).getD false)=some k:=by
  rw [List.find?_range_eq_some]
  exact ⟨by simp [hk,hp],by simpa using hk,fun i hi=>by simpa using h i hi⟩
 rw [this];rfl
theorem fv {α:Type} {p:α→Bool} {l:List α} (h:∀ i,i<l.length→(l[i]?.map p).getD false=false):gP p l = -1:=by
 unfold gP
 have:(List.range l.length).find? (fun i=>(l[i]?.map p).getD false)=none:=by
  rw [ZaH]
  intro i hi
  simp [h i (ZT.1 hi)]
 rw [this];rfl
theorem j4 {α:Type} (p:α→Bool) (l:List α):decide (0≤gP p l)=l.any p:=by
 unfold gP
 cases h:(List.range l.length).find? fun i=>(l[i]?.map p).getD false with
 | none =>
  have:l.any p=false:=by
   rw [Zal]
   intro x hx
   obtain ⟨i,hi,rfl⟩:=Zs hx
   have:=ZaH.1 h i (ZT.2 hi)
   simpa [hi] using this
  rw [this];rfl
 | some i =>
  have h1:=ZT.1 (List.mem_of_find?_eq_some h)
  have h2:=List.find?_some h
  have:l.any p=true:=by
   rw [ZM]
   exact ⟨l[i],Zj h1,by simpa [h1] using h2⟩
  rw [this];simp
theorem E6 {lv:Value} {l:List Sr} {p:Sr→Bool} {f:FuncId} {first cap:List Value} [bM Tryz.prog f] {w:World} (h:Rd w lv 2 (uC l)) (cr:∀ x∈l,∀ w',aH [] w w'→aj Tryz.prog f (first++[.agg x.cells.toArray]++cap) w' (.bool (p x))) :
  aj Tryz.prog 263 [lv,.func (.func f) first.toArray cap.toArray] w (.int .i64 (gP p l)):=by
 obtain ⟨a,cp,b,o,rfl,c7,bQ,ha,hc⟩:=h
 rw [cE] at *
 unfold maxLen at bQ
 refine ah Tryz.func263 rfl rfl ?_
 refine Jr<|Ja rfl<|Jn<|Jq<|Jr<|Jv rfl<|JI rfl<|Jv rfl<|Jn<|J0 ?_
 refine aX (fun k:Nat=>k≤l.length∧∀ i,i<k→(l[i]?.map p).getD false=false) (fun k=>[(8,.int .i64 k),(7,.int .i64 l.length),(0,.slice a l.length cp),(1,.func (.func f) first.toArray cap.toArray)]) (fun _=>[]) (fun k=>l.length-k) ?_ ?_
 ·apply aI 0 ⟨Zi _,fun i h=>by omega⟩
  case hs1=>exact cd
  case ht=>(try simp only [Ze,Zf,Za]);exact .nil
 rintro k ⟨hk,hf⟩
 by_cases aK:k<l.length
 ·have cB:=ha (iJ aK)
  have aC:=(hc k _ (fQ aK)).2
  have iP:=cr _ (Zj aK)
  have hps:(l[k]?.map p).getD false=p l[k]:=by simp [aK]
  unfold Sr.cells at aC iP
  (refine Jr<|JA rfl<|Jn<|Jq<|Jd rfl fun ar=>Jk<|Jq<|J0<|Jr<|Jv rfl<|Ja rfl<|Ji<|Jv rfl<|Jv rfl<|Jv rfl<|ab (fG cB ar) rfl<|ab (gS (eF.base aC rfl)) rfl<|ai bL rfl (fun w' aB=>(iP w' (Mem.keeps aB)))<|Jn<|nF rfl (fun ar=>?_) fun ar=>?_;refine Jr<|Jv rfl<|Ja rfl<|Jn<|Je<|Jm<|Jh<|Jh<|Jm<|Jh<|JT ?_;rotate_left;refine Jw<|Jj<|Jt<|Jg<|JB rfl (by omega)<|Jv rfl<|Jn ?_;rotate_right)
  ·rw [gp hf aK ar]
  ·apply aJ (k+1) ⟨by omega,fun i hi=>by
    by_cases e:i=k
    ·rw [e,hps];exact ar
    ·exact hf i (by omega)⟩ (by omega)
   case hs1=>exact cd
   case ht=>(try simp only [Ze,Zf,Za]);exact .nil
 ·obtain rfl:k=l.length:=by omega
  refine Jr<|JA rfl<|Jn<|Jq<|Jc rfl fun ar=>Jp<|Jl<|Jo<|Jt<|Jr<|Ja rfl<|Jn<|Je<|JT ?_
  rw [fv hf]
theorem NS {lv:Value} {l:List Sr} {p:Sr→Bool} {f:FuncId} {first cap:List Value} [bM Tryz.prog f] {w:World} (h:Rd w lv 2 (uC l)) (cr:∀ x∈l,∀ w',aH [] w w'→aj Tryz.prog f (first++[.agg x.cells.toArray]++cap) w' (.bool (p x))) :
  aj Tryz.prog 227 [lv,.func (.func f) first.toArray cap.toArray] w (.bool (l.any p)):=by
 have iP:∀ w',aH [] w w'→aj Tryz.prog 263 [lv,.func (.func f) first.toArray cap.toArray] w' (.int .i64 (gP p l)):=fun w' hk=>
  E6 (h.keeps hk) fun x hx w2 eH=>cr x hx w2 (hk.trans eH)
 rw [← j4]
 refine ah Tryz.func227 rfl rfl ?_
 (refine Jr<|Ja rfl<|Ji<|Jv rfl<|Jv rfl<|ai bd rfl (fun w' aB=>(iP w' (Mem.keeps aB)))<|JG rfl<|Ja rfl<|Jn<|Je<|JT ?_)
 rfl
theorem Nx {lv:Value} {l:List De} {p:De→Bool} {f:FuncId} {first cap:List Value} [bM Tryz.prog f] {w:World} (h:Rd w lv 3 (ue l)) (cr:∀ x∈l,∀ w',aH [] w w'→aj Tryz.prog f (first++[.agg x.cells.toArray]++cap) w' (.bool (p x))) :
  aj Tryz.prog 242 [lv,.func (.func f) first.toArray cap.toArray] w (.int .i64 (gP p l)):=by
 obtain ⟨a,cp,b,o,rfl,c7,bQ,ha,hc⟩:=h
 rw [cg] at *
 unfold maxLen at bQ
 refine ah Tryz.func242 rfl rfl ?_
 refine Jr<|Ja rfl<|Jn<|Jq<|Jr<|Jv rfl<|JI rfl<|Jv rfl<|Jn<|J0 ?_
 refine aX (fun k:Nat=>k≤l.length∧∀ i,i<k→(l[i]?.map p).getD false=false) (fun k=>[(8,.int .i64 k),(7,.int .i64 l.length),(0,.slice a l.length cp),(1,.func (.func f) first.toArray cap.toArray)]) (fun _=>[]) (fun k=>l.length-k) ?_ ?_
 ·apply aI 0 ⟨Zi _,fun i h=>by omega⟩
  case hs1=>exact cd
  case ht=>(try simp only [Ze,Zf,Za]);exact .nil
 rintro k ⟨hk,hf⟩
 by_cases aK:k<l.length
 ·have cB:=ha (gJ aK)
  have aC:=(hc k _ (fj aK)).2
  have iP:=cr _ (Zj aK)
  have hps:(l[k]?.map p).getD false=p l[k]:=by simp [aK]
  unfold De.cells at aC iP
  (refine Jr<|JA rfl<|Jn<|Jq<|Jd rfl fun ar=>Jk<|Jq<|J0<|Jr<|Jv rfl<|Ja rfl<|Ji<|Jv rfl<|Jv rfl<|Jv rfl<|ab (fG cB ar) rfl<|ab (gS (eF.base aC rfl)) rfl<|ai bL rfl (fun w' aB=>(iP w' (Mem.keeps aB)))<|Jn<|nF rfl (fun ar=>?_) fun ar=>?_;refine Jr<|Jv rfl<|Ja rfl<|Jn<|Je<|Jm<|Jh<|Jh<|Jm<|Jh<|JT ?_;rotate_left;refine Jw<|Jj<|Jt<|Jg<|JB rfl (by omega)<|Jv rfl<|Jn ?_;rotate_right)
  ·rw [gp hf aK ar]
  ·apply aJ (k+1) ⟨by omega,fun i hi=>by
    by_cases e:i=k
    ·rw [e,hps];exact ar
    ·exact hf i (by omega)⟩ (by omega)
   case hs1=>exact cd
   case ht=>(try simp only [Ze,Zf,Za]);exact .nil
 ·obtain rfl:k=l.length:=by omega
  refine Jr<|JA rfl<|Jn<|Jq<|Jc rfl fun ar=>Jp<|Jl<|Jo<|Jt<|Jr<|Ja rfl<|Jn<|Je<|JT ?_
  rw [fv hf]
theorem Nv {lv:Value} {l:List Ti} {p:Ti→Bool} {f:FuncId} {first cap:List Value} [bM Tryz.prog f] {w:World} (h:Rd w lv 3 (tK l)) (cr:∀ x∈l,∀ w',aH [] w w'→aj Tryz.prog f (first++[.agg x.cells.toArray]++cap) w' (.bool (p x))) :
  aj Tryz.prog 246 [lv,.func (.func f) first.toArray cap.toArray] w (.int .i64 (gP p l)):=by
 obtain ⟨a,cp,b,o,rfl,c7,bQ,ha,hc⟩:=h
 rw [bY] at *
 unfold maxLen at bQ
 refine ah Tryz.func246 rfl rfl ?_
 refine Jr<|Ja rfl<|Jn<|Jq<|Jr<|Jv rfl<|JI rfl<|Jv rfl<|Jn<|J0 ?_
 refine aX (fun k:Nat=>k≤l.length∧∀ i,i<k→(l[i]?.map p).getD false=false) (fun k=>[(8,.int .i64 k),(7,.int .i64 l.length),(0,.slice a l.length cp),(1,.func (.func f) first.toArray cap.toArray)]) (fun _=>[]) (fun k=>l.length-k) ?_ ?_
 ·apply aI 0 ⟨Zi _,fun i h=>by omega⟩
  case hs1=>exact cd
  case ht=>(try simp only [Ze,Zf,Za]);exact .nil
 rintro k ⟨hk,hf⟩
 by_cases aK:k<l.length
 ·have cB:=ha (fq aK)
  have aC:=(hc k _ (eB aK)).2
  have iP:=cr _ (Zj aK)
  have hps:(l[k]?.map p).getD false=p l[k]:=by simp [aK]
  unfold Ti.cells at aC iP
  (refine Jr<|JA rfl<|Jn<|Jq<|Jd rfl fun ar=>Jk<|Jq<|J0<|Jr<|Jv rfl<|Ja rfl<|Ji<|Jv rfl<|Jv rfl<|Jv rfl<|ab (fG cB ar) rfl<|ab (gS (eF.base aC rfl)) rfl<|ai bL rfl (fun w' aB=>(iP w' (Mem.keeps aB)))<|Jn<|nF rfl (fun ar=>?_) fun ar=>?_;refine Jr<|Jv rfl<|Ja rfl<|Jn<|Je<|Jm<|Jh<|Jh<|Jm<|Jh<|JT ?_;rotate_left;refine Jw<|Jj<|Jt<|Jg<|JB rfl (by omega)<|Jv rfl<|Jn ?_;rotate_right)
  ·rw [gp hf aK ar]
  ·apply aJ (k+1) ⟨by omega,fun i hi=>by
    by_cases e:i=k
    ·rw [e,hps];exact ar
    ·exact hf i (by omega)⟩ (by omega)
   case hs1=>exact cd
   case ht=>(try simp only [Ze,Zf,Za]);exact .nil
 ·obtain rfl:k=l.length:=by omega
  refine Jr<|JA rfl<|Jn<|Jq<|Jc rfl fun ar=>Jp<|Jl<|Jo<|Jt<|Jr<|Ja rfl<|Jn<|Je<|JT ?_
  rw [fv hf]
theorem zX {lv:Value} {l:List Ti} {p:Ti→Bool} {f:FuncId} {first cap:List Value} [bM Tryz.prog f] {w:World} (h:Rd w lv 3 (tK l)) (cr:∀ x∈l,∀ w',aH [] w w'→aj Tryz.prog f (first++[.agg x.cells.toArray]++cap) w' (.bool (p x))) :
  aj Tryz.prog 159 [lv,.func (.func f) first.toArray cap.toArray] w (.bool (l.any p)):=by
 have iP:∀ w',aH [] w w'→aj Tryz.prog 246 [lv,.func (.func f) first.toArray cap.toArray] w' (.int .i64 (gP p l)):=fun w' hk=>
  Nv (h.keeps hk) fun x hx w2 eH=>cr x hx w2 (hk.trans eH)
 rw [← j4]
 refine ah Tryz.func159 rfl rfl ?_
 (refine Jr<|Ja rfl<|Ji<|Jv rfl<|Jv rfl<|ai bd rfl (fun w' aB=>(iP w' (Mem.keeps aB)))<|JG rfl<|Ja rfl<|Jn<|Je<|JT ?_)
 rfl
theorem zL {lv:Value} {l:List Po} {p:Po→Bool} {f:FuncId} {first cap:List Value} [bM Tryz.prog f] {w:World} (h:Rd w lv 3 (sJ l)) (cr:∀ x∈l,∀ w',aH [] w w'→aj Tryz.prog f (first++[.agg x.cells.toArray]++cap) w' (.bool (p x))) :
  aj Tryz.prog 297 [lv,.func (.func f) first.toArray cap.toArray] w (.int .i64 (gP p l)):=by
 obtain ⟨a,cp,b,o,rfl,c7,bQ,ha,hc⟩:=h
 rw [cT] at *
 unfold maxLen at bQ
 refine ah Tryz.func297 rfl rfl ?_
 refine Jr<|Ja rfl<|Jn<|Jq<|Jr<|Jv rfl<|JI rfl<|Jv rfl<|Jn<|J0 ?_
 refine aX (fun k:Nat=>k≤l.length∧∀ i,i<k→(l[i]?.map p).getD false=false) (fun k=>[(8,.int .i64 k),(7,.int .i64 l.length),(0,.slice a l.length cp),(1,.func (.func f) first.toArray cap.toArray)]) (fun _=>[]) (fun k=>l.length-k) ?_ ?_
 ·apply aI 0 ⟨Zi _,fun i h=>by omega⟩
  case hs1=>exact cd
  case ht=>(try simp only [Ze,Zf,Za]);exact .nil
 rintro k ⟨hk,hf⟩
 by_cases aK:k<l.length
 ·have cB:=ha (kg aK)
  have aC:=(hc k _ (iq aK)).2
  have iP:=cr _ (Zj aK)
  have hps:(l[k]?.map p).getD false=p l[k]:=by simp [aK]
  unfold Po.cells at aC iP
  (refine Jr<|JA rfl<|Jn<|Jq<|Jd rfl fun ar=>Jk<|Jq<|J0<|Jr<|Jv rfl<|Ja rfl<|Ji<|Jv rfl<|Jv rfl<|Jv rfl<|ab (fG cB ar) rfl<|ab (gS (eF.base aC rfl)) rfl<|ai bL rfl (fun w' aB=>(iP w' (Mem.keeps aB)))<|Jn<|nF rfl (fun ar=>?_) fun ar=>?_;refine Jr<|Jv rfl<|Ja rfl<|Jn<|Je<|Jm<|Jh<|Jh<|Jm<|Jh<|JT ?_;rotate_left;refine Jw<|Jj<|Jt<|Jg<|JB rfl (by omega)<|Jv rfl<|Jn ?_;rotate_right)
  ·rw [gp hf aK ar]
  ·apply aJ (k+1) ⟨by omega,fun i hi=>by
    by_cases e:i=k
    ·rw [e,hps];exact ar
    ·exact hf i (by omega)⟩ (by omega)
   case hs1=>exact cd
   case ht=>(try simp only [Ze,Zf,Za]);exact .nil
 ·obtain rfl:k=l.length:=by omega
  refine Jr<|JA rfl<|Jn<|Jq<|Jc rfl fun ar=>Jp<|Jl<|Jo<|Jt<|Jr<|Ja rfl<|Jn<|Je<|JT ?_
  rw [fv hf]
theorem NT {lv:Value} {l:List Po} {p:Po→Bool} {f:FuncId} {first cap:List Value} [bM Tryz.prog f] {w:World} (h:Rd w lv 3 (sJ l)) (cr:∀ x∈l,∀ w',aH [] w w'→aj Tryz.prog f (first++[.agg x.cells.toArray]++cap) w' (.bool (p x))) :
  aj Tryz.prog 301 [lv,.func (.func f) first.toArray cap.toArray] w (.bool (l.any p)):=by
 have iP:∀ w',aH [] w w'→aj Tryz.prog 297 [lv,.func (.func f) first.toArray cap.toArray] w' (.int .i64 (gP p l)):=fun w' hk=>
  zL (h.keeps hk) fun x hx w2 eH=>cr x hx w2 (hk.trans eH)
 rw [← j4]
 refine ah Tryz.func301 rfl rfl ?_
 (refine Jr<|Ja rfl<|Ji<|Jv rfl<|Jv rfl<|ai bd rfl (fun w' aB=>(iP w' (Mem.keeps aB)))<|JG rfl<|Ja rfl<|Jn<|Je<|JT ?_)
 rfl
end Go.Proofs.A1
