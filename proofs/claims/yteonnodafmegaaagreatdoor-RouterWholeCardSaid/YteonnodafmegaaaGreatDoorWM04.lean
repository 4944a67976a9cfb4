/- Parts of the proof: GkRegO GkCopy GkZ K2 K3 KZz GkPool K4. -/
import Derived.Test.YteonnodafmegaaaGreatDoorWM03
import Derived.Lib.AppendZerosOnto
import Derived.Test.YteonnodafmegaaaGreatDoorWM01
import Derived.Laws.RangeAny
import Derived.Laws.RangeString
import Derived.Test.YteonnodafmegaaaGreatDoorWM02
set_option linter.unusedSectionVars false
set_option linter.unusedVariables false
set_option linter.unusedSimpArgs false
namespace Go.SL
open Go
inductive Step where
 | rel (R:Rel)
 | new (V:Nat→Value) (ob:Obj)
def Step.r:Step→Rel
 | .rel R=>R
 | .new V ob=>Dr V ob
section
variable {P:Program} {r:Option Nat} {c:Cx} {D:List Nat} {sl js:aH} {rl kJ:eL} {hs:List bd} {Q:Exit→Act→World→Prop} {l:List Oper} {ops:Array Oper} {m:Nat} {S:List Step}
inductive mO (P:Program) (c:Cx) (hs:List bd) (ops:Array Oper):List Oper→aH→eL→List Step→aH→eL→Prop
 | nil {sl:aH} {rl:eL}:mO P c hs ops [] sl rl [] sl rl
 | val {o:Oper} {l:List Oper} {sl js:aH} {rl kJ:eL} {d:Nat} {V:Value} {S:List Step} (hd:o.dst=some d) (fJ:d<c.nt) (h:tF P c hs ops sl rl o (.val V)) (t:mO P c hs ops l ((d,V)::sl) rl S js kJ) :
   mO P c hs ops (o::l) sl rl (.rel (.val V)::S) js kJ
 | new {o:Oper} {l:List Oper} {sl js:aH} {rl kJ:eL} {d:Nat} {V:Nat→Value} {ob:Obj} {S:List Step} (hd:o.dst=some d) (fJ:d<c.nt) (hn:cS sl d=none) (hg:o.guard=none)
   (hr:qI P c sl hs o V ob) (t:mO P c hs ops l sl ((d,Dr V ob)::rl) S js kJ):mO P c hs ops (o::l) sl rl (.new V ob::S) js kJ
theorem mO.To {sl js:aH} {rl kJ:eL} (h:mO P c hs ops l sl rl S js kJ):sS P c hs ops l sl rl (S.map Step.r) js kJ:=by
 induction h with
 | nil=>exact .nil
 | val hd fJ h _ ih=>exact .val hd fJ h ih
 | @new o l sl js rl kJ d V ob S hd fJ hn hg hr _ ih =>
  refine .rel hd fJ hn (nX hg fun a w h1 _ h3=>?_) ih
  unfold xu
  rw [hr.2 a w h1 h3]
  exact ⟨.alloc _ _ _,w.heap.size,rfl,World.alloc_heap_new w ob⟩
theorem mO.Sg {sl js:aH} {rl kJ:eL} (h:mO P c hs ops l sl rl S js kJ) :
  ∀ (i : Nat) (o : Oper) (V : Nat → Value) (ob : Obj), l[i]? = some o → S[i]? = some (.new V ob) → ∃ tZ, o.guard = none ∧ qI P c tZ hs o V ob ∧
   (∀ t v,cS tZ t=some v→(∃ (j:Nat) (oj:Oper),j<i∧l[j]? = some oj∧oj.dst=some t∧(S.map Step.r)[j]? = some (.val v))∨((∀ (j:Nat) (oj:Oper),j<i→l[j]? = some oj→oj.dst≠some t)∧cS sl t=some v)):=by
 induction h with
 | nil=>intro i o V ob h;simp at h
 | @val o0 l sl js rl kJ d V0 S hd fJ bh t ih =>
  intro i o V ob ho hS
  cases i with
  | zero=>simp at hS
  | succ i =>
   obtain ⟨tZ,hg,hr,h1⟩:=ih i o V ob (by simpa using ho) (by simpa using hS)
   refine ⟨tZ,hg,hr,fun t v hv=>?_⟩
   rcases h1 t v hv with ⟨j,oj,hj,iS,iI,jN⟩ | ⟨qM,mS⟩
   ·exact .inl ⟨j+1,oj,by omega,by simpa using iS,iI,by simpa using jN⟩
   ·by_cases w8:d=t
    ·subst w8
     rw [fD] at mS
     cases mS
     exact .inl ⟨0,o0,by omega,rfl,hd,rfl⟩
    ·rw [fC w8] at mS
     refine .inr ⟨fun j oj hj iS=>?_,mS⟩
     cases j with
     | zero=>simp at iS;subst iS;rw [hd];simp [w8]
     | succ j=>exact qM j oj (by omega) (by simpa using iS)
 | @new o0 l sl js rl kJ d V0 ob0 S hd fJ hn XQ VG t ih =>
  intro i o V ob ho hS
  cases i with
  | zero =>
   simp at ho hS
   subst ho
   obtain ⟨rfl,rfl⟩:=hS
   exact ⟨sl,XQ,VG,fun t v hv=>.inr ⟨fun j _ hj=>by omega,hv⟩⟩
  | succ i =>
   obtain ⟨tZ,hg,hr,h1⟩:=ih i o V ob (by simpa using ho) (by simpa using hS)
   refine ⟨tZ,hg,hr,fun t v hv=>?_⟩
   rcases h1 t v hv with ⟨j,oj,hj,iS,iI,jN⟩ | ⟨qM,mS⟩
   ·exact .inl ⟨j+1,oj,by omega,by simpa using iS,iI,by simpa using jN⟩
   ·have w8:d≠t:=fun e=>by subst e;rw [hn] at mS;cases mS
    refine .inr ⟨fun j oj hj iS=>?_,mS⟩
    cases j with
    | zero=>simp at iS;subst iS;rw [hd];simp [w8]
    | succ j=>exact qM j oj (by omega) (by simpa using iS)
def qN (β:Nat→Nat) (lst:Nat→Bool):List Step→Nat→List bd
 | [],_=>[]
 | .new _ ob::S,i=>if lst i then bH (β i) ob::qN β lst S (i+1) else qN β lst S (i+1)
 | .rel _::S,i=>qN β lst S (i+1)
theorem oS {β β':Nat→Nat} {lst ni:Nat→Bool}:∀ {S:List Step} {i:Nat},(∀ j V ob,S[j]? = some (.new V ob)→lst (i+j)=ni (i+j)∧(lst (i+j)=true→β (i+j)=β' (i+j)))→qN β lst S i=qN β' ni S i
 | [],_,_=>rfl
 | .rel _ :: S, i, h => by
  unfold qN
  exact oS fun j V ob hj=>by have:=h (j+1) V ob (by simpa using hj);rwa [show i+(j+1)=i+1+j from by omega] at this
 | .new V ob :: S, i, h => by
  have h0:=h 0 V ob rfl
  have ih:qN β lst S (i+1)=qN β' ni S (i+1):=oS fun j V ob hj=>by have:=h (j+1) V ob (by simpa using hj);rwa [show i+(j+1)=i+1+j from by omega] at this
  simp only [Zaw] at h0
  unfold qN
  rw [ih,← h0.1]
  by_cases hl:lst i=true
  ·rw [if_pos hl,if_pos hl,h0.2 hl]
  ·rw [if_neg hl,if_neg hl]
theorem Ay {β β':Nat→Nat} {lst ni:Nat→Bool} {k b:Nat} {V:Nat→Value} {ob:Obj}:∀ {S:List Step} {i:Nat},S[k]? = some (.new V ob)→lst (i+k)=false→ni (i+k)=true→β' (i+k)=b→(∀ j,j≠i+k→ni j=lst j∧β' j=β j) →
  (bH b ob::qN β lst S i).Perm (qN β' ni S i)
 | [],_,h,_,_,_,_=>by simp at h
 | .rel _ :: S, i, h, h1, h2, h3, h4 => by
  cases k with
  | zero=>simp at h
  | succ k =>
   unfold qN
   refine Ay (k:=k) (V:=V) (by simpa using h) ?_ ?_ ?_ ?_
   all_goals rw [show i+1+k=i+(k+1) from by omega];assumption
 | .new V0 ob0 :: S, i, h, h1, h2, h3, h4 => by
  cases k with
  | zero =>
   simp at h
   obtain ⟨rfl,rfl⟩:=h
   have e:qN β lst S (i+1)=qN β' ni S (i+1):=oS fun j V ob hj=>by
    obtain ⟨e1,e2⟩:=h4 (i+1+j) (by omega)
    exact ⟨e1.symm,fun _=>e2.symm⟩
   simp only [Zaw] at h1 h2 h3
   unfold qN
   rw [if_neg (by simp [h1]),if_pos h2,h3,e]
  | succ k =>
   have ih:(bH b ob::qN β lst S (i+1)).Perm (qN β' ni S (i+1)):=by
    refine Ay (k:=k) (V:=V) (by simpa using h) ?_ ?_ ?_ ?_
    all_goals rw [show i+1+k=i+(k+1) from by omega];assumption
   obtain ⟨e1,e2⟩:=h4 i (by omega)
   unfold qN
   rw [e1,e2]
   by_cases hl:lst i=true
   ·rw [if_pos hl,if_pos hl]
    exact (List.Perm.swap _ _ _).trans (ih.cons _)
   ·rw [if_neg hl,if_neg hl];exact ih
theorem ct.perm {h:Nat→Option Obj} {l1 l2:List bd} (hp:l1.Perm l2):∀ {fp:List Nat},ct h l1 fp→∃ lH,ct h l2 lH∧fp.Perm lH:=by
 induction hp with
 | nil=>intro fp hf;exact ⟨fp,hf,.refl _⟩
 | cons A _ ih =>
  rintro fp ⟨f1,f2,rfl,h1,h2⟩
  obtain ⟨g,hg,VH⟩:=ih h2
  exact ⟨f1++g,⟨f1,g,rfl,h1,hg⟩,VH.append_left f1⟩
 | swap A B l =>
  rintro fp ⟨f1,_,rfl,h1,f2,f3,rfl,h2,h3⟩
  refine ⟨f2++(f1++f3),⟨f2,f1++f3,rfl,h2,f1,f3,rfl,h1,h3⟩,?_⟩
  rw [← Zh,← Zh]
  exact List.perm_append_comm.append_right f3
 | trans _ _ ih1 ih2 =>
  intro fp hf
  obtain ⟨g,hg,h1⟩:=ih1 hf
  obtain ⟨g',hg',h2⟩:=ih2 hg
  exact ⟨g',hg',h1.trans h2⟩
theorem Mem.perm {c:Cx} {l1 l2:List bd} {w:World} (h:Mem c l1 w) (hp:l1.Perm l2):Mem c l2 w:=by
 obtain ⟨k,fp,hn,hs,hb⟩:=h
 obtain ⟨g,hg,VH⟩:=hs.perm hp
 exact ⟨k,g,VH.nodup_iff.1 hn,hg,fun b dz=>hb b (VH.mem_iff.2 dz)⟩
def GY (c:Cx) (D:List Nat) (hs:List bd) (l:List Oper) (S:List Step) (listed:Array Bool) (a:Act) (w:World):Prop:=
 ∃ β : Nat → Nat, Mem c (qN β (fun i => listed.getD i false) S 0 ++ (hs ++ mE D)) w ∧ (∀ i, c.w0.heap.size ≤ β i ∨ ¬ Ls listed i ∨ ∀ V ob, S[i]? ≠ some (.new V ob)) ∧
  ∀ (i:Nat) (o:Oper) (d:Nat) (V:Nat→Value) (ob:Obj),l[i]? = some o→o.dst=some d→S[i]? = some (.new V ob)→Ls listed i→a.tmps[d]? = some (V (β i))
theorem MN (hc:Sp l m) (hpO:mO P c hs l.toArray (l.take m) sl [] S js kJ) {a0:Act} (h0:bU sl a0) (JX:a0.tmps.size=c.nt)
  (tail:∀ listed a w,(∀ i,i<m→Ls listed i)→St c D js hs a w→GY c D hs (l.take m) S listed a w→WL P r l.toArray Q (l.drop m) a w) :
  ∀ (fuel:Nat) (listed:Array Bool) (a:Act) (w:World),Inv1 c D hs l m (S.map Step.r) a0 fuel listed a w→GY c D hs (l.take m) S listed a w→wpAnyIn (FR r) 0 P .any l.toArray Q fuel listed a w:=by
 have hp:=hpO.To
 have rE:=hp.end_
 have dY:∀ (j:Nat) (o:Oper),j<m→l[j]? = some o→(l.take m)[j]? = some o:=fun j o hj ho=>by rw [ZG,if_pos hj];exact ho
 have fy:∀ (j:Nat) (o:Oper),(l.take m)[j]? = some o→j<m∧l[j]? = some o:=fun j o ho=>by
  rw [ZG] at ho
  split at ho
  ·exact ⟨by assumption,ho⟩
  ·cases ho
 have mH:∀ fuel listed a w,Inv1 c D hs l m (S.map Step.r) a0 fuel listed a w→GY c D hs (l.take m) S listed a w→(∀ i,i<m→Ls listed i)→wpAnyIn (FR r) 0 P .any l.toArray Q fuel listed a w:=by
  intro fuel listed a w hI hO dZ
  have hL:∀ i,i<l.length→(Ls listed i↔i<m):=fun i _=>⟨fun h=>ZR fun hm=>hI.hi i hm h,dZ i⟩
  obtain ⟨U,xg,qm,sA⟩:=hI.left
  have ig:U.Perm (List.range' m (l.length-m)):=by
   rw [Zaz xg (Zbz)]
   intro i
   rw [qm i,ZaM]
   constructor
   ·rintro ⟨h1,h2⟩
    exact ⟨ZaS fun h=>h2 (dZ i h),by omega⟩
   ·rintro ⟨h1,h2⟩
    exact ⟨by omega,hI.hi i h1⟩
  have hlen:fuel=l.length-m:=by rw [← sA,ig.length_eq,Zbv]
  refine Dx hc fuel m listed a w (Zz _) (by have:=hc.le;omega) hI.sz hL (tail listed a w dZ ⟨hI.mem,?_,hI.size,hI.defers⟩ hO)
  ·intro t v hv
   rcases rE.1 t v hv with ⟨j,oj,hj,iI,jN⟩ | ⟨qM,mS⟩
   ·obtain ⟨iq,mm⟩:=fy j oj hj
    obtain ⟨u,hu,nB⟩:=hI.new j oj mm (dZ j iq) t _ iI jN
    rw [hu,show u=v from nB]
   ·rw [hI.BH t fun j oj hj jK=>qM j oj (dY j oj (ZR fun hm=>hI.hi j hm jK) hj)]
    exact h0 t v mS
 intro fuel
 induction fuel with
 | zero =>
  intro listed a w hI hO
  obtain ⟨U,_,qm,sA⟩:=hI.left
  have hU:U=[]:=Zan.1 sA
  refine mH 0 listed a w hI hO fun i hi=>Classical.byContradiction fun hn=>?_
  have:=(qm i).2 ⟨by have:=hc.le;omega,hn⟩
  rw [hU] at this;cases this
 | succ fuel ih =>
  intro listed a w hI hO
  by_cases dZ:∀ i,i<m→Ls listed i
  ·exact mH _ listed a w hI hO dZ
  ·have hex:∃ i,i<m∧¬ Ls listed i:=Classical.byContradiction fun hh=>dZ fun i hi=>Classical.byContradiction fun hn=>hh ⟨i,hi,hn⟩
   obtain ⟨i0,wZ,pC⟩:=hex
   refine ⟨fun hr=>?_,fun i hi=>?_⟩
   ·obtain ⟨i,hi⟩:=jq hI.sz hc.ac ⟨i0,by have:=hc.le;omega,pC⟩
    rw [hr] at hi;cases hi
   ·have pf:i<m:=ZR fun hm=>pC (pX hc hI.sz hI.dc hi hm i0 (by omega))
    obtain ⟨o,ho,hn,lV⟩:=(dD hI.sz).1 hi
    obtain ⟨tZ,Ll,R,RF,fU,hs1,hs2⟩:=hp.at_ i o (dY i o pf ho)
    obtain ⟨d,R',hd,fJ,rF⟩:=rE.2.2 i o (dY i o pf ho)
    rw [RF] at rF;cases rF
    have kD:∀ (j:Nat),eY o j=true→Ls listed j:=fun j hw=>by
     obtain ⟨e,he,hb,nP⟩:=df hw
     rw [← nP];exact lV e he hb
    have Ca:∀ (j t:Nat) (oj:Oper),j<i→(l.take m)[j]? = some oj→oj.dst=some t→t∈o.looksAt l.toArray→Ls listed j:=by
     intro j t oj hj iS iI ht
     obtain ⟨iq,mm⟩:=fy j oj iS
     exact kD j ((dq (lS hc hj pf mm ho) iI hd).2 (.inl ht))
    have OZ:∀ tZ:aH,(∀ t v,cS tZ t=some v→(∃ (j:Nat) (oj:Oper),j<i∧(l.take m)[j]? = some oj∧oj.dst=some t∧(S.map Step.r)[j]? = some (.val v))∨((∀ (j:Nat) (oj:Oper),j<i→(l.take m)[j]? = some oj→oj.dst≠some t)∧cS sl t=some v)) →
      ∃ a':Act,bU tZ a'∧∀ t∈o.looksAt l.toArray,a'.tmps[t]? = a.tmps[t]?:=by
     intro tZ hs1
     have hT:∀ t∈o.looksAt l.toArray,∀ v,cS tZ t=some v→a.tmps[t]? = some v:=by
      intro t ht v hv
      rcases hs1 t v hv with ⟨j,oj,hj,iS,iI,jN⟩ | ⟨qM,mS⟩
      ·obtain ⟨u,hu,nB⟩:=hI.new j oj (fy j oj iS).2 (Ca j t oj hj iS iI ht) t _ iI jN
       rw [hu,show u=v from nB]
      ·rw [hI.BH t fun j oj hj jK iI=>?_]
       ·exact h0 t v mS
       ·have iq:j<m:=ZR fun hm=>hI.hi j hm jK
        rcases Zam j i with h | h | h
        ·exact qM j oj h (dY j oj iq hj) iI
        ·subst h;exact hn jK
        ·have hw:=(dq (lS hc h iq ho hj) hd iI).2 (.inr ht)
         obtain ⟨e,he,hb,nP⟩:=df hw
         have:=hI.dc j oj hj jK e he hb
         rw [nP] at this
         exact hn this
     have vC:∀ t v,cS tZ t=some v→t<c.nt:=by
      intro t v hv
      rcases hs1 t v hv with ⟨j,oj,_,iS,iI,_⟩ | ⟨_,mS⟩
      ·obtain ⟨d',_,wz,Ab,_⟩:=rE.2.2 j oj iS
       rw [iI] at wz;cases wz
       exact Ab
      ·have:=h0 t v mS
       rw [← JX]
       exact (ZY.1 this).1
     obtain ⟨a',lW,jD,_⟩:=oL hI.size vC hT
     exact ⟨a',lW,jD⟩
    have pL:∀ (j:Nat) (oj:Oper) (e:Nat),l[j]? = some oj→j<m→j≠i→oj.dst=some e→d≠e:=by
     intro j oj e hj iq hne he
     rcases Zbo j i with h | h
     ·exact fun e'=>(dq (lS hc h pf hj ho) he hd).1 e'.symm
     ·exact (dq (lS hc (show i<j by omega) iq ho hj) hd he).1
    have gU:i<listed.size:=by rw [hI.sz];have:=hc.le;omega
    have CO:nf o=true:=hc.op o (ZV ho)
    have gO:∀ v w',aJ [] w w'→R.p v w'→GY c D hs (l.take m) S (listed.setIfInBounds i true) (a.put o.dst v) w'→wpAnyIn (FR r) 0 P .any l.toArray Q fuel (listed.setIfInBounds i true) (a.put o.dst v) w':=fun v w' hk hv UH=>
     ih _ _ _ (BX hc hc.le hI hi pf ho hd fJ RF (fun j oj hj iS=>let ⟨e,_,he,_⟩:=rE.2.2 j oj (dY j oj hj iS);⟨e,he⟩) hk hv) UH
    unfold wpOpIn
    rw [show l.toArray[i]? = some o from by simpa using ho]
    simp only []
    have rF:∃ st,S[i]? = some st∧st.r=R:=by
     rw [ZF] at RF
     obtain ⟨st,h1,h2⟩:=Zak.1 RF
     exact ⟨st,h1,h2⟩
    obtain ⟨st,rF,bh⟩:=rF
    have J7:∀ j,j≠i→(listed.setIfInBounds i true).getD j false=listed.getD j false:=fun j hj=>by
     simp [Zy,ZJ (Ne.symm hj)]
    cases st with
    | new V ob =>
     obtain ⟨sln,hgn,VF,W0⟩:=hpO.Sg i o V ob (dY i o pf ho) rF
     obtain ⟨a',lW,jD⟩:=OZ sln W0
     have hex:=iA (o:=o) (ops:=l.toArray) CO jD
     have gF:=VF.2 a' w lW hI.mem.lx
     rw [if_pos (by simp [Region.wanted,hgn])]
     refine ⟨dN _ _ _ _ _,?_⟩
     rw [Oper.semAt_eq _ _ _ (fun cc he=>by simp [nf,he] at CO),← hex,gF]
     refine gO _ _ (.alloc _ _ _) (by rw [← bh];exact ⟨w.heap.size,rfl,World.alloc_heap_new w ob⟩) ?_
     obtain ⟨β,hm,hb,vv⟩:=hO
     refine ⟨fun k=>if k=i then w.heap.size else β k,?_,?_,?_⟩
     ·refine Mem.perm (hm.alloc ob) ((Ay (k:=i) (V:=V) rF ?_ ?_ ?_ ?_).append_right _)
      ·rw [ZC]
       show listed.getD i false=false
       have:¬ listed.getD i false=true:=hn
       simpa using this
      ·rw [ZC];exact (cA gU).2 (.inl rfl)
      ·simp
      ·intro j hj
       rw [ZC] at hj
       exact ⟨J7 j hj,by simp [hj]⟩
     ·intro j
      by_cases e:j=i
      ·subst e;left;simp;exact hI.mem.keeps.size
      ·rcases hb j with h | h | h
       ·left;simpa [e] using h
       ·right;left;intro h';exact h (((cA gU).1 h').resolve_left e)
       ·exact .inr (.inr h)
     ·intro j oj e V' Qt hj iI jN jK
      by_cases ej:j=i
      ·subst ej
       rw [rF] at jN;cases jN
       obtain ⟨iq,mm⟩:=fy j oj hj
       rw [ho] at mm;cases mm
       rw [hd] at iI;cases iI
       rw [hd]
       simp [Act.put,hI.size,fJ]
      ·obtain ⟨iq,mm⟩:=fy j oj hj
       have AS:=((cA gU).1 jK).resolve_left ej
       have:=vv j oj e V' Qt hj iI jN AS
       rw [hd]
       simp only [Act.put,ZJ (pL j oj e mm iq ej iI),if_neg ej]
       exact this
    | rel R0 =>
     have UH:∀ v w',aJ [] w w'→GY c D hs (l.take m) S (listed.setIfInBounds i true) (a.put o.dst v) w':=by
      intro v w' hk
      obtain ⟨β,hm,hb,vv⟩:=hO
      refine ⟨β,?_,?_,?_⟩
      ·have e:qN β (fun j=>(listed.setIfInBounds i true).getD j false) S 0=qN β (fun j=>listed.getD j false) S 0:=oS fun j V ob hj=>by
        have:j≠i:=fun e=>by subst e;rw [rF] at hj;cases hj
        rw [ZC]
        exact ⟨J7 j this,fun _=>rfl⟩
       rw [e];exact hm.rr hk
      ·intro j
       by_cases e:j=i
       ·subst e;right;right;intro V ob h;rw [rF] at h;cases h
       ·rcases hb j with h | h | h
        ·exact .inl h
        ·right;left;intro h';exact h (((cA gU).1 h').resolve_left e)
        ·exact .inr (.inr h)
      ·intro j oj e V' Qt hj iI jN jK
       have ej:j≠i:=fun e=>by subst e;rw [rF] at jN;cases jN
       obtain ⟨iq,mm⟩:=fy j oj hj
       have AS:=((cA gU).1 jK).resolve_left ej
       have:=vv j oj e V' Qt hj iI jN AS
       rw [hd]
       simp only [Act.put,ZJ (pL j oj e mm iq ej iI)]
       exact this
     obtain ⟨a',lW,jD⟩:=OZ tZ hs1
     have QU:AE (o.looksAt l.toArray) Ll a' w:=by
      intro t Rt hm ht
      rcases hs2 t Rt hm with ⟨j,oj,hj,iS,iI,jN⟩ | aA
      ·obtain ⟨v,hv,nB⟩:=hI.new j oj (fy j oj iS).2 (Ca j t oj hj iS iI ht) t _ iI jN
       exact ⟨v,by rw [jD t ht];exact hv,nB⟩
      ·cases aA
     have hq:=fU a' w lW QU hI.mem.lx
     have hex:=iA (o:=o) (ops:=l.toArray) CO jD
     rw [gX jD] at hq
     split
     ·rename_i hw
      rw [if_pos hw] at hq
      refine ⟨dN _ _ _ _ _,?_⟩
      rw [Oper.semAt_eq _ _ _ (fun cc he=>by simp [nf,he] at CO),← hex]
      unfold xu at hq
      revert hq
      generalize (execOp a'.eval o).run P w=res
      intro hq
      match res,hq with
      | .ok (.value v) w',⟨hk,hv⟩=>exact gO v w' hk hv (UH v w' hk)
      | .ok (.enter f args) w', ⟨e, cz⟩ =>
       subst e
       refine ⟨by simp [FR,Fence.wide],(ij cz).mono fun e wG h=>?_⟩
       obtain ⟨v,rfl,hk,hv⟩:=h
       exact gO v wG hk hv (UH v wG hk)
     ·rename_i hw
      rw [if_neg hw] at hq
      exact ⟨fun _ _=>trivial,gO undef w (.refl _ _) hq (UH undef w (.refl _ _))⟩
theorem we {β:Nat→Nat} {lst:Nat→Bool} (h:∀ i,lst i=false):∀ {S:List Step} {i:Nat},qN β lst S i=[]
 | [],_=>rfl
 | .rel _::S,i=>by unfold qN;exact we h
 | .new _ _::S,i=>by unfold qN;rw [if_neg (by simp [h]),we h]
theorem wI {id:Nat} (qi:P.follows .mixedOrders=true) (eQ:yg l m=true) (hp:mO P c hs l.toArray (l.take m) sl [] S js kJ)
  (tail:∀ listed a w,(∀ i,i<m→Ls listed i)→St c D js hs a w→GY c D hs (l.take m) S listed a w→WL P r l.toArray Q (l.drop m) a w):Tr c D sl hs (WP P r (.region id l.toArray true) Q):=fun a w bh=>by
 unfold WP
 refine wpIn_region_any qi ?_
 refine MN (uY eQ) hp bh.c5 bh.size tail l.toArray.size _ a _ ⟨by simp,?_,?_,?_,bh.defers,bh.size,fun t _=>rfl,?_,List.range l.length,Zbs,?_,by simp⟩ ?_
 ·exact fun k o _ hL=>absurd hL (eS _ _)
 ·exact fun k _ hL=>eS _ _ hL
 ·exact bh.mem.drew
 ·exact fun j o _ hL=>absurd hL (eS _ _)
 ·exact fun i=>⟨fun h=>⟨by simpa using h,eS _ _⟩,fun h=>by simpa using h.1⟩
 ·refine ⟨fun _=>c.w0.heap.size,?_,fun i=>.inl (Zz _),fun i o d V ob _ _ _ hL=>absurd hL (eS _ _)⟩
  rw [we fun i=>by have:=eS l.toArray.size i;unfold Ls at this;simpa using this]
  exact bh.mem.drew
def Lk (β:Nat→Nat):List Oper→List Step→Nat→aH
 | o::l,.new V _::S,i=>(o.dst.getD 0,V (β i))::Lk β l S (i+1)
 | _::l,.rel _::S,i=>Lk β l S (i+1)
 | _,_,_=>[]
theorem zi {β:Nat→Nat}:∀ {l:List Oper} {S:List Step} {i:Nat} {p:Nat×Value},p∈Lk β l S i→∃ (j:Nat) (o:Oper) (V:Nat→Value) (ob:Obj),l[j]? = some o∧S[j]? = some (.new V ob)∧p=(o.dst.getD 0,V (β (i+j)))
 | [],_,_,_,h=>by cases h
 | _::_,[],_,_,h=>by cases h
 | o :: l, .new V ob :: S, i, p, h => by
  unfold Lk at h
  rcases ZS.1 h with h | h
  ·exact ⟨0,o,V,ob,rfl,rfl,h⟩
  ·obtain ⟨j,o',V',Qt,h1,h2,h3⟩:=zi h
   exact ⟨j+1,o',V',Qt,by simpa using h1,by simpa using h2,by rw [h3,show i+1+j=i+(j+1) from by omega]⟩
 | o :: l, .rel R :: S, i, p, h => by
  unfold Lk at h
  obtain ⟨j,o',V',Qt,h1,h2,h3⟩:=zi h
  exact ⟨j+1,o',V',Qt,by simpa using h1,by simpa using h2,by rw [h3,show i+1+j=i+(j+1) from by omega]⟩
theorem uM {L s:aH} {a:Act} (h:∀ p∈L,a.tmps[p.1]? = some p.2) (hs:bU s a):bU (L++s) a:=by
 induction L with
 | nil=>exact hs
 | cons p L ih =>
  intro t v hv
  obtain ⟨d,u⟩:=p
  by_cases e:d=t
  ·subst e
   rw [Zb,fD] at hv
   cases hv
   exact h (d,v) (by simp)
  ·rw [Zb,fC e] at hv
   exact ih (fun p hp=>h p (by simp [hp])) t v hv
def zs (nl:List (Nat×(Nat→Value)×Obj)) (bs:List Nat):aH:=(nl.zip bs).map fun x=>(x.1.1,x.1.2.1 x.2)
def zb (nl:List (Nat×(Nat→Value)×Obj)) (bs:List Nat):List bd:=(nl.zip bs).map fun x=>bH x.2 x.1.2.2
def rO (P:Program) (r:Option Nat) (c:Cx) (D:List Nat) (hs:List bd) (ops:Array Oper) (Q:Exit→Act→World→Prop) (nl:List (Nat×(Nat→Value)×Obj)) (m:Nat) (l:List Oper) (sl:aH) (rl:eL):Prop:=
 ∃ S js kJ, mO P c hs ops (l.take m) sl rl S js kJ ∧ ∀ (bs : List Nat) (β : Nat → Nat) (i0 : Nat), bs.length = nl.length → (∀ b ∈ bs, c.w0.heap.size ≤ b) → (∀ i V ob, S[i]? = some (.new V ob) → c.w0.heap.size ≤ β (i0 + i)) →
  Tr c D (zs nl bs++Lk β (l.take m) S i0++js) (zb nl bs++qN β (fun _=>true) S i0++hs) (WL P r ops Q (l.drop m))
theorem cZ {id:Nat} {l:List Oper} (m:Nat) [qi:Sl P] (eQ:yg l m=true) (k:rO P r c D hs l.toArray Q [] m l sl []):Tr c D sl hs (WP P r (.region id l.toArray true) Q):=by
 obtain ⟨S,js,kJ,hp,ht⟩:=k
 have rE:=hp.To.end_
 have hlen:∀ i V ob,S[i]? = some (.new V ob)→i<m:=by
  intro i V ob h
  have h1:=(Zl.1 h).1
  have WK:∀ {l0:Array Oper} {l:List Oper} {sl js:aH} {rl kJ:eL} {S:List Step},mO P c hs l0 l sl rl S js kJ→S.length=l.length:=by
   intro l0 l sl js rl kJ S h
   induction h with
   | nil=>rfl
   | val _ _ _ _ ih=>simp [ih]
   | new _ _ _ _ _ _ ih=>simp [ih]
  rw [WK hp,Zr] at h1
  omega
 refine wI qi.eq eQ hp fun listed a w dZ bh hO=>?_
 obtain ⟨β,hm,hb,vv⟩:=hO
 have Kj:∀ i V ob,S[i]? = some (.new V ob)→Ls listed i:=fun i V ob h=>dZ i (hlen i V ob h)
 have AR:∀ i V ob,S[i]? = some (.new V ob)→c.w0.heap.size≤β (0+i):=fun i V ob h=>by
  rw [ZC]
  rcases hb i with h1 | h1 | h1
  ·exact h1
  ·exact absurd (Kj i V ob h) h1
  ·exact absurd h (h1 V ob)
 refine ht [] β 0 rfl (fun b hb=>by cases hb) AR a w ⟨?_,?_,bh.size,bh.defers⟩
 ·have e:qN β (fun i=>listed.getD i false) S 0=qN β (fun _=>true) S 0:=oS fun j V ob hj=>by
   rw [ZC]
   exact ⟨Kj j V ob hj,fun _=>rfl⟩
  rw [e] at hm
  simpa [zb,Zh] using hm
 ·refine uM (L:=zs [] []++Lk β (List.take m l) S 0) (fun p nB=>?_) bh.c5
  obtain ⟨j,o,V,ob,h1,h2,rfl⟩:=zi (by simpa [zs] using nB)
  obtain ⟨d,R,hd,fJ,_⟩:=rE.2.2 j o h1
  rw [hd,ZC]
  exact vv j o d V ob h1 hd h2 (Kj j V ob h2)
section
variable {nl:List (Nat×(Nat→Value)×Obj)} {d:Nat} {op:Op} {ty:TypeId} {pos:String} {af:Array Edge} {rest:List Oper}
theorem dB {V:Nat→Value} {ob:Obj} {l:List Oper} (hn:nl=[(d,V,ob)]) (k:∀ b,c.w0.heap.size≤b→Tr c D ((d,V b)::sl) (bH b ob::hs) (WL P r ops Q l)):rO P r c D hs ops Q nl 0 l sl rl:=
 ⟨[],sl,rl,.nil,fun bs β i0 hl hb _=>by
  subst hn
  match bs,hl with
  | [b],_=>simpa [zs,zb,Lk,qN] using k b (hb b (by simp))⟩
theorem v8 {o:Oper} {V:Value} (ho:o.dst=some d) (hd:Nat.blt d c.nt=true) (h:tF P c hs ops sl rl o (.val V)) (k:rO P r c D hs ops Q nl m rest ((d,V)::sl) rl):rO P r c D hs ops Q nl (m+1) (o::rest) sl rl:=by
 obtain ⟨S,js,kJ,hp,ht⟩:=k
 refine ⟨_,_,_,.val ho (by simpa [Z2] using hd) h hp,fun bs β i0 h1 h2 h3=>?_⟩
 have:=ht bs β (i0+1) h1 h2 fun i V ob hi=>by have:=h3 (i+1) V ob (by simpa using hi);rwa [show i0+(i+1)=i0+1+i from by omega] at this
 simpa [Lk,qN] using this
theorem eB {V:Nat→Value} {ob:Obj} (hr:qI P c sl hs ⟨some d,op,ty,pos,af,none⟩ V ob) (hd:Nat.blt d c.nt=true) (hn:cS sl d=none) (k:rO P r c D hs ops Q (nl++[(d,V,ob)]) m rest sl ((d,Dr V ob)::rl)) :
  rO P r c D hs ops Q nl (m+1) (⟨some d,op,ty,pos,af,none⟩::rest) sl rl:=by
 obtain ⟨S,js,kJ,hp,ht⟩:=k
 refine ⟨_,_,_,.new rfl (by simpa [Z2] using hd) hn rfl hr hp,fun bs β i0 h1 h2 h3=>?_⟩
 have hb0:=h3 0 V ob rfl
 rw [Zaw] at hb0
 have:=ht (bs++[β i0]) β (i0+1) (by simp [h1]) (fun b hb=>by
  rcases Zx.1 hb with h | h
  ·exact h2 b h
  ·rw [ZB.1 h];exact hb0) fun i V ob hi=>by have:=h3 (i+1) V ob (by simpa using hi);rwa [show i0+(i+1)=i0+1+i from by omega] at this
 simpa [Lk,qN,zs,zb,List.zip_append h1.symm,Zh] using this
theorem ao {V:Value} (hr:cY P c sl hs ⟨some d,op,ty,pos,af,none⟩ V) (hd:Nat.blt d c.nt=true) (k:rO P r c D hs ops Q nl m rest ((d,V)::sl) rl) :
  rO P r c D hs ops Q nl (m+1) (⟨some d,op,ty,pos,af,none⟩::rest) sl rl:=
 v8 rfl hd (nX rfl fun _ _ h1 _ h3=>re hr h1 h3) k
theorem aY {f:FuncId} {args:List Value} {V:Value} (hr:lJ P sl ⟨some d,op,ty,pos,af,none⟩ f args) (hd:Nat.blt d c.nt=true) (hc:∀ w,Mem c hs w→aj P f args w V) (k:rO P r c D hs ops Q nl m rest ((d,V)::sl) rl) :
  rO P r c D hs ops Q nl (m+1) (⟨some d,op,ty,pos,af,none⟩::rest) sl rl:=
 v8 rfl hd (nX rfl fun _ w h1 _ h3=>sf hr h1 (hc w h3)) k
theorem Vi {V:Value} {p p':Prop} {j gs:Nat} {want c0 q:Bool} (hj:((ops[j]?).bind (·.dst))=some gs) (hq:cS sl gs=some (gv c0 (.bool q))) (hb:BP (c0&&(q==want)) p p')
  (hr:(c0&&(q==want))=true→p→cY P c sl hs ⟨some d,op,ty,pos,af,some (j,want)⟩ V) (hd:Nat.blt d c.nt=true) (k:rO P r c D hs ops Q nl m rest ((d,gv (c0&&(q==want)) V)::sl) rl) :
  rO P r c D hs ops Q nl (m+1) (⟨some d,op,ty,pos,af,some (j,want)⟩::rest) sl rl:=
 v8 rfl hd (nY rfl hj hq fun hc _ _ h1 h3=>re (hr hc (hb.t hc)) h1 h3) k
theorem sP {V:Value} {p p':Prop} {j gs:Nat} {want q:Bool} (hj:((ops[j]?).bind (·.dst))=some gs) (hq:cS sl gs=some (.bool q)) (hb:BP (q==want) p p')
  (hr:(q==want)=true→p→cY P c sl hs ⟨some d,op,ty,pos,af,some (j,want)⟩ V) (hd:Nat.blt d c.nt=true) (k:rO P r c D hs ops Q nl m rest ((d,gv (q==want) V)::sl) rl) :
  rO P r c D hs ops Q nl (m+1) (⟨some d,op,ty,pos,af,some (j,want)⟩::rest) sl rl:=
 Vi (c0:=true) (p:=p) (p':=p') hj (by rw [hq];rfl) (by simpa using hb) (by simpa using hr) hd (by simpa using k)
end
end
end Go.SL
namespace Go.SL
open Go
theorem ns {w:World} {b sz:Nat}:∀ {xs:List (List Value)} {o:Nat},(∀ i r,xs[i]? = some r→r.length=sz∧∀ j u,r[j]? = some u→w.cell? ⟨b,o+i*sz+j,none⟩=some u)→∀ (k:Nat) u,xs.flatten[k]? = some u→w.cell? ⟨b,o+k,none⟩=some u
 | [],o,_,k,u,hu=>by simp at hu
 | x :: xs, o, h, k, u, hu => by
  obtain ⟨hl,h0⟩:=h 0 x rfl
  rw [ZaC,List.getElem?_append] at hu
  split at hu
  ·have:=h0 k u hu
   rwa [Zbu,Zaw] at this
  ·rename_i hk
   have ih:=ns (xs:=xs) (o:=o+sz) (fun i r hr=>⟨(h (i+1) r (by simpa using hr)).1,fun j v hv=>by
    have:=(h (i+1) r (by simpa using hr)).2 j v hv
    rwa [Zaf,show o+(i*sz+sz)+j=o+sz+i*sz+j by omega] at this⟩) (k-x.length) u hu
   rwa [hl,show o+sz+(k-sz)=o+k by omega] at ih
theorem fG {sz:Nat}:∀ {xs:List (List Value)},(∀ r∈xs,r.length=sz)→xs.flatten.length=xs.length*sz
 | [],_=>by simp
 | x :: xs, h => by
  rw [ZaC,Zg,fG (fun r hr=>h r (by simp [hr])),h x (by simp),ZL,Zaf,Nat.add_comm]
theorem Rd.sz {w:World} {v:Value} {sz:Nat} {xs:List (List Value)} (h:Rd w v sz xs):∀ r∈xs,r.length=sz:=by
 obtain ⟨a,cap,b,o,rfl,h1,h2,h3,h4⟩:=h
 intro r hr
 obtain ⟨i,hi,rfl⟩:=Zu hr
 exact (h4 i _ (Zc hi)).1
section
variable {P:Program} {r:Option Nat} {c:Cx} {D:List Nat} {sl:aH} {hs hs':List bd} {ops:Array Oper} {Q:Exit→Act→World→Prop} {d:Nat} {ty:TypeId} {pos:String} {af:Array Edge} {rest:List Oper}
theorem Mj {V:Value} {sz:Nat} {xs:List (List Value)} {b o cap:Nat} (hsrc:∀ w,Mem c hs w→Rd w V sz xs) (hne:xs≠[]) (hV:V=.slice (some ⟨b,o,none⟩) xs.length cap):ew c hs b o xs.flatten:=by
 refine ew.si fun j u hu w hm=>?_
 obtain ⟨a',gL,b',o',e',_,_,cG,VT⟩:=hsrc w hm
 rw [hV] at e'
 simp only [Value.slice.injEq] at e'
 obtain ⟨e1,_,_⟩:=e'
 have:=cG hne
 rw [← e1] at this
 simp only [Option.some.injEq,Addr.mk.injEq,and_true] at this
 obtain ⟨rfl,rfl⟩:=this
 exact ns VT j u hu
theorem Bn {t e:TypeId} {w:World} {v:Value} {agg:Bool} {size:Nat} [hu:iV P t (.slice e)] [hT:Ty P e agg size] {a:Option Addr} {cp n:Nat} (hv:(v=.slice none 0 0∧n=0)∨∃ g cap,v=.slice (some ⟨g,0,none⟩) n cap∧n≤cap) :
  (Builtin.append_ #[t,t] ty #[v,.slice a 0 cp]).run P w=.ok v w:=by
 obtain ⟨de,i,mq,hi,_,iH⟩:=Ty.parts (P:=P) (t:=e) (agg:=agg) (n:=size)
 rcases hv with ⟨rfl,rfl⟩ | ⟨g,cap,rfl,hc⟩
 ·cases a <;> simp [Builtin.append_,aV hu.eq,sizeOf,typeInfo,hi,Builtin.lenOf,Builtin.firstCells,loadCells,loadCellsFrom]
 ·cases a <;> simp [Builtin.append_,aV hu.eq,sizeOf,typeInfo,hi,Builtin.lenOf,Builtin.firstCells,loadCells,loadCellsFrom,hc,storeCells]
theorem gY {t e:TypeId} {agg:Bool} {size bytes:Nat} {z:Value} {x y:Operand} {v V:Value} {n:Nat} {xs:List Value} {news:List (List Value)} [hu:iV P t (.slice e)] [hT:Ty P e agg size] [hZ:lZ P e z] [hB:wE P e bytes]
  (hx:Is sl x v) (hy:Is sl y V) (ht:Take hs (row e size v n xs) hs') (hsrc:∀ w,Mem c hs w→Rd w V size news) (h1:∀ r∈news,∀ u∈r,u.oneCell'=true) (hz:z.cells.size=size) (hsz:Nat.blt 0 size=true) (hb0:Nat.blt 0 bytes=true)
  (hb:(n+news.length)*bytes≤140737488355328) (hd:Nat.blt d c.nt=true)
  (k:∀ v',Tr c D ((d,v')::sl) (row e size v' (n+news.length) (xs++news.flatten)::hs') (WL P r ops Q rest)) :
  Tr c D sl hs (WL P r ops Q (⟨some d,.call ⟨.builtin .append,#[x,y],#[t,t]⟩,ty,pos,af,none⟩::rest)):=fun a w bh=>by
 have hR:=hsrc w bh.rn
 have hlen:=fG hR.sz
 by_cases hne:news=[]
 ·subst hne
  obtain ⟨aa,cap,b,o,rfl,_⟩:=hR
  have hm:=bh.mem.take (ht.append _)
  have hrow:(v=.slice none 0 0∧n=0)∨∃ g cap,v=.slice (some ⟨g,0,none⟩) n cap∧n≤cap:=by
   obtain ⟨_,fp,_,⟨f1,f2,_,⟨_,_,h1⟩,_⟩,_⟩:=hm
   exact h1.imp id fun ⟨g,cap,cur,e,_,hc,_⟩=>⟨g,cap,e,hc⟩
  refine mr rfl ⟨dN _ _ _ _ _,?_⟩
  rw [Oper.semAt_eq _ _ _ (by simp)]
  have:(execOp a.eval ⟨some d,.call ⟨.builtin .append,#[x,y],#[t,t]⟩,ty,pos,af,none⟩).run P w=.ok (.value v) w:=by
   have:=Bn (P:=P) (t:=t) (e:=e) (ty:=ty) (w:=w) (agg:=agg) (size:=size) (a:=aa) (cp:=cap) hrow
   simp only [Zai] at hy
   simp [execOp,resolve,invoke,builtin,hx a bh.c5,hy a bh.c5,this]
  rw [this]
  have k2:=k v
  simp only [Zai,Zaw,List.flatten_nil,ZU] at k2
  exact k2 _ _ ((bh.put (by simpa [Z2] using hd) v).heap hm)
 ·obtain ⟨aa,cap,b,o,hV,dj,bV,ha,hc⟩:=hR
  have:=ha hne
  subst this
  rw [hV] at hy
  exact xM hx hy ht (Mj hsrc hne hV) hlen (fun u hu=>by obtain ⟨r,hr,TI⟩:=List.mem_flatten.1 hu;exact h1 r hr u TI) hz hsz hb0 hb hd k a w bh
theorem Hw {t t2 e:TypeId} {agg:Bool} {size:Nat} {x y:Operand} {V:Value} {g n cap:Nat} {E:TypeId} {cs:List Value} {news:List (List Value)} [hu:iV P t (.slice e)] [hT:Ty P e agg size]
  (hx:Is sl x (.slice (some ⟨g,0,none⟩) n cap)) (hy:Is sl y V) (ht:Take hs (bH g (.cells cs.toArray E (0,0))) hs') (hsrc:∀ w,Mem c hs w→Rd w V size news) (h1:∀ r∈news,∀ u∈r,u.oneCell'=true) (hfit:n*size≤cs.length) (hd:Nat.blt d c.nt=true)
  (k:Tr c D ((d,.int .i64 (Nat.min news.length n:Nat))::sl) (bH g (.cells (setCells cs 0 (news.take n).flatten).toArray E (0,0))::hs') (WL P r ops Q rest)) :
  Tr c D sl hs (WL P r ops Q (⟨some d,.call ⟨.builtin .copy,#[x,y],#[t,t2]⟩,ty,pos,af,none⟩::rest)):=fun a w bh=>by
 have hR:=hsrc w bh.rn
 obtain ⟨de,i,mq,hi,_,iH⟩:=Ty.parts (P:=P) (t:=e) (agg:=agg) (n:=size)
 have hlen:(news.take n).flatten.length=Nat.min news.length n*size:=by
  rw [fG (fun r hr=>hR.sz r (Zbn hr)),Zr]
  show min n news.length*size=min news.length n*size
  rw [Nat.min_comm]
 have hle:Nat.min news.length n≤n:=Nat.min_le_right _ _
 have hm:=bh.mem.take (ht.append _)
 have hg:w.heap[g]? = some (.cells cs.toArray E (0,0)):=hm.bH .here
 obtain ⟨w',h3,h4,h5⟩:=jb (P:=P) (o:=0) (news.take n).flatten 0 cs w hg (fun u hu=>by
  obtain ⟨r,hr,TI⟩:=List.mem_flatten.1 hu
  exact h1 r (Zbn hr) u TI) (by
  rw [hlen]
  have:Nat.min news.length n*size≤n*size:=Z7 _ hle
  omega)
 have Ud:(Builtin.firstCells size (Nat.min news.length n) V).run P w=.ok (news.take n).flatten.toArray w:=by
  obtain ⟨aa,dA,b,o,hV,kE,bV,ha,hc⟩:=hR
  subst hV
  by_cases hne:news=[]
  ·subst hne
   cases aa <;> simp [Builtin.firstCells,loadCells,loadCellsFrom]
  ·have:=ha hne
   subst this
   simp only [Builtin.firstCells]
   refine qY hlen fun j u hu=>?_
   refine ns (sz:=size) (xs:=news.take n) (fun i r hr=>?_) j u hu
   rw [ZG] at hr
   split at hr
   ·exact hc i r hr
   ·cases hr
 have Uf:(Builtin.lenOf V).run P w=.ok news.length w:=by
  obtain ⟨aa,dA,b,o,hV,_⟩:=hR
  subst hV
  rfl
 refine mr rfl ⟨dN _ _ _ _ _,?_⟩
 rw [Oper.semAt_eq _ _ _ (by simp)]
 have:(execOp a.eval ⟨some d,.call ⟨.builtin .copy,#[x,y],#[t,t2]⟩,ty,pos,af,none⟩).run P w=.ok (.value (.int .i64 (Nat.min news.length n:Nat))) w':=by
  simp [execOp,resolve,invoke,builtin,hx a bh.c5,hy a bh.c5,Builtin.copy_,aV hu.eq,Uf,sizeOf,typeInfo,hi,iH,Ud,h3,goInt]
 rw [this]
 have ml:=Mem.store hm h4 h5
 rw [show (0+0:Nat)=0 from rfl] at ml
 exact k _ _ ((bh.put (by simpa [Z2] using hd) _).heap ml)
theorem C6 {t tn e:TypeId} {kn:IntKind} {agg:Bool} {size bytes m:Nat} {z:Value} {x y:Operand} [hu:iV P t (.slice e)] [QJ:iV P tn (.int kn)] [hT:Ty P e agg size] [hZ:lZ P e z] [hB:wE P e bytes]
  (hx:Is sl x (.slice none 0 0)) (hy:Is sl y (.int .i64 m)) (h0:0<m) (hz:z.cells.size=size) (hsz:Nat.blt 0 size=true) (hb0:Nat.blt 0 bytes=true) (hb:m*bytes≤140737488355328) (hd:Nat.blt d c.nt=true)
  (k:∀ v',Tr c D ((d,v')::sl) (row e size v' m (Builtin.zeroCells z.cells m).toList::hs) (WL P r ops Q rest)) :
  Tr c D sl hs (WL P r ops Q (⟨some d,.call ⟨.builtin .append,#[x,y],#[t,tn]⟩,ty,pos,af,none⟩::rest)):=fun a w bh=>by
 obtain ⟨de,i,mq,hi,_,iH⟩:=Ty.parts (P:=P) (t:=e) (agg:=agg) (n:=size)
 have hzero:i.zero=some z:=by have:=hZ.eq;rw [hi] at this;simpa using this
 have gK:i.bytes=bytes:=by have:=hB.eq;rw [hi] at this;simpa using this
 have hs0:0<size:=by simpa [Z2] using hsz
 have Yj:0<bytes:=by simpa [Z2] using hb0
 have aR:m*1≤m*bytes:=Zbq _ Yj
 have gF:=Lib.run_append_grow_zeros (P:=P) w t tn ty e i z .i64 kn hu.eq QJ.eq hi hzero none 0 0 [] (by simp [Builtin.firstCells]) m h0 (by omega) (by omega) (by omega) (by rw [gK];omega) (growslice_fits (by omega) (by rw [gK];simpa using hb))
 simp only [ZC] at gF
 have J8:=grownCap_ge w m 0 e
 have hle:=grownCap_le_maxLen w m 0 e (by unfold maxLen;omega)
 refine mr rfl ⟨dN _ _ _ _ _,?_⟩
 rw [Oper.semAt_eq _ _ _ (by simp)]
 generalize grownCap w m 0 e=G at gF J8 hle
 have:(execOp a.eval ⟨some d,.call ⟨.builtin .append,#[x,y],#[t,tn]⟩,ty,pos,af,none⟩).run P w=.ok (.value (.slice (some ⟨w.heap.size,0,none⟩) m G)) (w.drew.alloc (.cells (#[]++Builtin.zeroCells z.cells m++Builtin.zeroCells z.cells (G-m)) e)):=by
  simp [execOp,resolve,invoke,builtin,hx a bh.c5,hy a bh.c5,gF]
 rw [this]
 have DN:∀ q,(Builtin.zeroCells z.cells q).size=q*size:=fun q=>by rw [size_zeroCells,hz]
 have ml:=(bh.mem.drew.alloc (.cells (#[]++Builtin.zeroCells z.cells m++Builtin.zeroCells z.cells (G-m)) e (0,0)))
 refine k _ _ _ ((bh.put (by simpa [Z2] using hd) _).heap ?_)
 obtain ⟨kk,fp,hn,⟨f1,f2,rfl,⟨e1,h1⟩,h2⟩,DU⟩:=ml
 refine ⟨kk,f1++f2,hn,⟨f1,f2,rfl,⟨by rw [e1];rfl,by simp [DN],.inr ⟨w.heap.size,G,_,rfl,h1,J8,hle,?_,?_⟩⟩,h2⟩,DU⟩
 ·simp only [Array.size_append,DN]
  simp only [Array.size_empty,ZC,← Nat.add_mul]
  congr 1;omega
 ·simp only [Array.toList_append,Array.toList_empty,Za]
  rw [List.take_left' (by rw [ZaO,DN])]
theorem kK {dst:Option Tmp} {g:Option (Nat×Bool)} {t e:TypeId} {agg:Bool} {size:Nat} [hu:iV P t (.slice e)] [hT:Ty P e agg size] :
  qI P c sl hs ⟨dst,.buildSlice t 0 #[],ty,pos,af,g⟩ (fun b=>.slice (some ⟨b,0,none⟩) 0 0) (.cells #[] e):=
 mg (ps:=#[]) (fun a _=>by simp) fun w=>by
  unfold Instr.buildSlice
  simp only [Sem.run_bind,aV hu.eq,Result.andThen_ok,fQ (t:=e) (agg:=agg) (n:=size),Zbu]
  simp [Instr.fill,newRow,show Array.range 0=#[] from rfl]
theorem q5 {dst:Option Tmp} {g:Option (Nat×Bool)} {t e:TypeId} {x:Operand} {a:Option Addr} {n cp:Nat} [hu:iV P t (.slice e)] (hx:Is sl x (.slice a n cp)) :
  cY P c sl hs ⟨dst,.call ⟨.builtin .cap,#[x],#[t]⟩,ty,pos,af,g⟩ (.int .i64 cp):=
 ⟨by simp,fun ac w ha _=>by simp [execOp,hx ac ha,resolve,invoke,builtin,Builtin.cap_,aV hu.eq,goInt]⟩
theorem Bg (g cap sz:Nat):Go.sliced (some ⟨g,0,none⟩) 0 0 cap sz=.slice (some ⟨g,0,none⟩) 0 cap:=by
 unfold Go.sliced
 by_cases h:cap=0
 ·rw [if_pos h];simp
 ·rw [if_neg h];simp [eK]
theorem zm:∀ (vs cs:List Value),vs.length≤cs.length→setCells cs 0 vs=vs++cs.drop vs.length:=by
 intro vs cs h
 apply Zap
 intro k
 rw [iu _ _ _ _ (by omega),List.getElem?_append]
 by_cases hk:k<vs.length
 ·rw [if_pos (by omega),if_pos hk,Nat.sub_zero]
 ·rw [if_neg (by omega),if_neg hk,Zbf]
  congr 1;omega
end
end Go.SL
namespace Go.SL
open Go
theorem bc {α:Type} {b:Bool} {o:Option α} {v:α} (h:(bif b then o else none)=some v):b=true∧o=some v:=by cases b <;> simp_all
theorem bp {α β:Type} {o:Option α} {q:Option β} {v:α} {u:β} (h:(o.bind fun a=>q.map fun b=>(a,b))=some (v,u)):o=some v∧q=some u:=by
 cases o <;> cases q <;> simp_all
section
variable {P:Program} {r:Option Nat} {c:Cx} {D:List Nat} {sl:aH} {rl:eL} {hs hs':List bd} {Q:Exit→Act→World→Prop} {ops:Array Oper} {m d:Nat} {op:Op} {ty:TypeId} {pos:String} {af:Array Edge} {rest:List Oper} {dst:Option Tmp} {g:Option (Nat×Bool)}
theorem Jq {P:Program} {r:Option Nat} {c:Cx} {D:List Nat} {sl:aH} {hs:List bd} {x y:Code} {Q:Exit→Act→World→Prop}
  (h:Tr c D sl hs (WP P r x (Exit.then (WP P r y Q) Q))):Tr c D sl hs (WP P r (.seq x y) Q):=C3 h
theorem Jt {c:Cx} {D:List Nat} {sl:aH} {hs:List bd} {N:Act→World→Prop} {Q:Exit→Act→World→Prop}
  (h:Tr c D sl hs N):Tr c D sl hs (Exit.then N Q .normal):=LW h
theorem J0 {P:Program} {r:Option Nat} {c:Cx} {D:List Nat} {sl:aH} {hs:List bd} {id:Nat} {x:Code} {Q:Exit→Act→World→Prop}
  (h:Tr c D sl hs (WP P r x (Exit.inBlock id Q))):Tr c D sl hs (WP P r (.block id x) Q):=Hy h
theorem Je {P:Program} {r:Option Nat} {c:Cx} {D:List Nat} {sl:aH} {hs:List bd} {Q:Exit→Act→World→Prop}
  (h:Tr c D sl hs (Q .ret)):Tr c D sl hs (WP P r .ret Q):=Hq h
theorem Jg {P:Program} {r:Option Nat} {c:Cx} {D:List Nat} {sl:aH} {hs:List bd} {id:Nat} {l:List Oper} {Q:Exit→Act→World→Prop}
  (h:Tr c D sl hs (WL P r l.toArray Q l)):Tr c D sl hs (WP P r (.region id l.toArray false) Q):=rT h
theorem Jh {c:Cx} {D:List Nat} {sl:aH} {hs:List bd} {N:Act→World→Prop} {Q:Exit→Act→World→Prop}
  (h:Tr c D sl hs (Q .ret)):Tr c D sl hs (Exit.then N Q .ret):=A3 h
theorem Ji {id:Nat} {l:List Oper} {y:Code} {Q':Exit→Act→World→Prop} (h:Tr c D sl hs (WL P r l.toArray (Exit.then (WP P r y Q) Q) l)):Tr c D sl hs (WL P r ops (Exit.then (WP P r (.seq (.region id l.toArray false) y) Q) Q') []):=n_r h
theorem Jj {c:Cx} {D:List Nat} {sl:aH} {hs:List bd} {id:Nat} {Q:Exit→Act→World→Prop}
  (h:Tr c D sl hs (Q .normal)):Tr c D sl hs (Exit.inBlock id Q .normal):=pG h
theorem Jk {N:Act→World→Prop} (h:Tr c D sl hs N):Tr c D sl hs (WP P r .skip (Exit.then N Q)):=s_t h
theorem Jl {c:Cx} {D:List Nat} {sl:aH} {hs:List bd} {N:Act→World→Prop} {Q:Exit→Act→World→Prop} {id:Nat}
  (h:Tr c D sl hs (Q (.exit id))):Tr c D sl hs (Exit.then N Q (.exit id)):=y7 h
theorem Jm {c:Cx} {D:List Nat} {sl:aH} {hs:List bd} {id:Nat} {Q:Exit→Act→World→Prop}
  (h:Tr c D sl hs (Q .ret)):Tr c D sl hs (Exit.inBlock id Q .ret):=C5 h
theorem Jo {c:Cx} {D:List Nat} {sl:aH} {hs:List bd} {id:Nat} {Q:Exit→Act→World→Prop}
  (h:Tr c D sl hs (Q .normal)):Tr c D sl hs (Exit.inBlock id Q (.exit id)):=Ba h
theorem Jp {N:Act→World→Prop} {id:Nat} (h:Tr c D sl hs (Q (.exit id))):Tr c D sl hs (WP P r (.exit id) (Exit.then N Q)):=x_t h
theorem Jn {N:Act→World→Prop} (h:Tr c D sl hs N):Tr c D sl hs (WL P r ops (Exit.then N Q) []):=n_t h
theorem Jr {id:Nat} {l:List Oper} {y:Code} (h:Tr c D sl hs (WL P r l.toArray (Exit.then (WP P r y Q) Q) l)):Tr c D sl hs (WP P r (.seq (.region id l.toArray false) y) Q):=s_r h
theorem Ju {N:Act→World→Prop} (h:Tr c D sl hs (Q .ret)):Tr c D sl hs (WP P r .ret (Exit.then N Q)):=r_t h
theorem Jw {P:Program} {r:Option Nat} {c:Cx} {D:List Nat} {sl:aH} {hs:List bd} {Q:Exit→Act→World→Prop}
  (h:Tr c D sl hs (Q .normal)):Tr c D sl hs (WP P r .skip Q):=Ey h
theorem Jx {P:Program} {r:Option Nat} {c:Cx} {D:List Nat} {sl:aH} {hs:List bd} {ops:Array Oper} {Q:Exit→Act→World→Prop}
  (h:Tr c D sl hs (Q .normal)):Tr c D sl hs (WL P r ops Q []):=Hr h
theorem Jv {x:Operand} {v:Value} (h:(bif Nat.blt d c.nt then ev sl x else none)=some v) (k:Tr c D ((d,v)::sl) hs (WL P r ops Q rest)):Tr c D sl hs (WL P r ops Q (⟨some d,.move x,ty,pos,af,none⟩::rest)):=Lq (bc h).2 (bc h).1 k
theorem Ja {x:Operand} {v:Value} (h:(bif Nat.blt d c.nt then ev sl x else none)=some v) (k:Tr c D ((d,v)::sl) hs (WL P r ops Q rest)):Tr c D sl hs (WL P r ops Q (⟨some d,.assign x,ty,pos,af,none⟩::rest)):=a_s (bc h).2 (bc h).1 k
theorem JA {k:IntKind} {t u:TypeId} {x y:Operand} {a b:Int} (h:(bif Nat.blt d c.nt then ((ev sl x).bind fun a=>(ev sl y).map fun b=>(a,b)) else none)=some (.int k a,.int k b)) (k:Tr c D ((d,.bool (decide (a<b)))::sl) hs (WL P r ops Q rest)):Tr c D sl hs (WL P r ops Q (⟨some d,.binOp .lss t x y u,ty,pos,af,none⟩::rest)):=ab (lg (.of (bp (bc h).2).1) (.of (bp (bc h).2).2)) (bc h).1 k
theorem JC {k:IntKind} {t u:TypeId} {x y:Operand} {a b:Int} (h:(bif Nat.blt d c.nt then ((ev sl x).bind fun a=>(ev sl y).map fun b=>(a,b)) else none)=some (.int k a,.int k b)) (k:Tr c D ((d,.bool (decide (a=b)))::sl) hs (WL P r ops Q rest)):Tr c D sl hs (WL P r ops Q (⟨some d,.binOp .eql t x y u,ty,pos,af,none⟩::rest)):=ab (mX (.of (bp (bc h).2).1) (.of (bp (bc h).2).2)) (bc h).1 k
theorem JD {k:IntKind} {t u:TypeId} {x y:Operand} {a b:Int} (h:(bif Nat.blt d c.nt then ((ev sl x).bind fun a=>(ev sl y).map fun b=>(a,b)) else none)=some (.int k a,.int k b)) (k:Tr c D ((d,.bool (decide (a≠b)))::sl) hs (WL P r ops Q rest)):Tr c D sl hs (WL P r ops Q (⟨some d,.binOp .neq t x y u,ty,pos,af,none⟩::rest)):=ab (fa (.of (bp (bc h).2).1) (.of (bp (bc h).2).2)) (bc h).1 k
theorem JE {k:IntKind} {t u:TypeId} {x y:Operand} {a b:Int} (h:(bif Nat.blt d c.nt then ((ev sl x).bind fun a=>(ev sl y).map fun b=>(a,b)) else none)=some (.int k a,.int k b)) (k:Tr c D ((d,.bool (decide (b<a)))::sl) hs (WL P r ops Q rest)):Tr c D sl hs (WL P r ops Q (⟨some d,.binOp .gtr t x y u,ty,pos,af,none⟩::rest)):=ab (km (.of (bp (bc h).2).1) (.of (bp (bc h).2).2)) (bc h).1 k
theorem JF {k:IntKind} {t u:TypeId} {x y:Operand} {a b:Int} (h:(bif Nat.blt d c.nt then ((ev sl x).bind fun a=>(ev sl y).map fun b=>(a,b)) else none)=some (.int k a,.int k b)) (k:Tr c D ((d,.bool (decide (a≤b)))::sl) hs (WL P r ops Q rest)):Tr c D sl hs (WL P r ops Q (⟨some d,.binOp .leq t x y u,ty,pos,af,none⟩::rest)):=ab (mf (.of (bp (bc h).2).1) (.of (bp (bc h).2).2)) (bc h).1 k
theorem JG {k:IntKind} {t u:TypeId} {x y:Operand} {a b:Int} (h:(bif Nat.blt d c.nt then ((ev sl x).bind fun a=>(ev sl y).map fun b=>(a,b)) else none)=some (.int k a,.int k b)) (k:Tr c D ((d,.bool (decide (b≤a)))::sl) hs (WL P r ops Q rest)):Tr c D sl hs (WL P r ops Q (⟨some d,.binOp .geq t x y u,ty,pos,af,none⟩::rest)):=ab (uU (.of (bp (bc h).2).1) (.of (bp (bc h).2).2)) (bc h).1 k
theorem JB {t u:TypeId} {x y:Operand} {a b:Int} (h:(bif Nat.blt d c.nt then ((ev sl x).bind fun a=>(ev sl y).map fun b=>(a,b)) else none)=some (.int .i64 a,.int .i64 b)) (hb:-9223372036854775808≤a+b∧a+b≤9223372036854775807) (k:Tr c D ((d,.int .i64 (a+b))::sl) hs (WL P r ops Q rest)):Tr c D sl hs (WL P r ops Q (⟨some d,.binOp .add t x y u,ty,pos,af,none⟩::rest)):=ab (HY (.of (bp (bc h).2).1) (.of (bp (bc h).2).2) (SB hb)) (bc h).1 k
theorem JS {t u:TypeId} {x y:Operand} {a b:Int} (h:(bif Nat.blt d c.nt then ((ev sl x).bind fun a=>(ev sl y).map fun b=>(a,b)) else none)=some (.int .i64 a,.int .i64 b)) (hb:-9223372036854775808≤a-b∧a-b≤9223372036854775807) (k:Tr c D ((d,.int .i64 (a-b))::sl) hs (WL P r ops Q rest)):Tr c D sl hs (WL P r ops Q (⟨some d,.binOp .sub t x y u,ty,pos,af,none⟩::rest)):=ab (uP (.of (bp (bc h).2).1) (.of (bp (bc h).2).2) (SB hb)) (bc h).1 k
theorem JH {t:TypeId} {x:Operand} {b:Bool} (h:(bif Nat.blt d c.nt then ev sl x else none)=some (.bool b)) (k:Tr c D ((d,.bool (!b))::sl) hs (WL P r ops Q rest)):Tr c D sl hs (WL P r ops Q (⟨some d,.unOp .not t x,ty,pos,af,none⟩::rest)):=ab (dU (.of (bc h).2)) (bc h).1 k
theorem JI {t e:TypeId} {x:Operand} {b:Option Addr} {n cap:Nat} [iV P t (.slice e)] (h:(bif Nat.blt d c.nt then ev sl x else none)=some (.slice b n cap)) (k:Tr c D ((d,.int .i64 n)::sl) hs (WL P r ops Q rest)):Tr c D sl hs (WL P r ops Q (⟨some d,.call ⟨.builtin .len,#[x],#[t]⟩,ty,pos,af,none⟩::rest)):=ab (bJ (e:=e) (.of (bc h).2)) (bc h).1 k
theorem JJ {x:Operand} {i:Nat} {vs:List Value} {v:Value} (h:(bif Nat.blt d c.nt then ev sl x else none)=some (.tuple vs.toArray)) (hv:tK vs i=some v) (k:Tr c D ((d,v)::sl) hs (WL P r ops Q rest)):Tr c D sl hs (WL P r ops Q (⟨some d,.extract x i,ty,pos,af,none⟩::rest)):=ab (dh (.of (bc h).2) hv) (bc h).1 k
theorem JK {r:Option Nat} {D:List Nat} {ops:Array Oper} {Q:Exit→Act→World→Prop} {d:Option Tmp} {op:Op} {rest:List Oper} {j gs:Nat} {want:Bool} (hj:((ops[j]?).bind (·.dst))=some gs) (hq:cS sl gs=some (.bool want))
  (k:Tr c D sl hs (WL P r ops Q (⟨d,op,ty,pos,af,none⟩::rest))):Tr c D sl hs (WL P r ops Q (⟨d,op,ty,pos,af,some (j,want)⟩::rest)):=Hu hj hq k
theorem JL {t:TypeId} {n:Nat} {x:Operand} {b o:Nat} {cs:List Value} {E:TypeId} {fz:Nat×Nat} {v:Value} [Ty P t false n] (h:(bif Nat.blt d c.nt then ev sl x else none)=some (.pointer (some ⟨b,o,none⟩))) (ht:Take hs (SL.bH b (.cells cs.toArray E fz)) hs') (hv:tK cs o=some v) (k:Tr c D ((d,v)::sl) hs (WL P r ops Q rest)):Tr c D sl hs (WL P r ops Q (⟨some d,.load t x,ty,pos,af,none⟩::rest)):=ab (ag (.of (bc h).2) (At.lit ht hv)) (bc h).1 k
theorem Jc {x:Operand} {p:Prop} {inst:Decidable p} {u v:Code} (hx:ev sl x=some (.bool (decide p))) (hf:¬ p→Tr c D sl hs (WP P r v Q)) (ht:p→Tr c D sl hs (WP P r u Q):=by intro h;exfalso;omega):Tr c D sl hs (WP P r (.cond x u v) Q):=gm hx ht hf
theorem Jd {x:Operand} {p:Prop} {inst:Decidable p} {u v:Code} (hx:ev sl x=some (.bool (decide p))) (ht:p→Tr c D sl hs (WP P r u Q)) (hf:¬ p→Tr c D sl hs (WP P r v Q):=by intro h;exfalso;omega):Tr c D sl hs (WP P r (.cond x u v) Q):=gm hx ht hf
theorem Jy {t:TypeId} {x:Operand} {v:Value} {cs:List Value} (h:(bif Nat.blt d c.nt then ev sl x else none)=some v) (hc:v.cells=cs.toArray) (k:∀ b,c.w0.heap.size≤b→Tr c D ((d,.pointer (some ⟨b,0,none⟩))::sl) (bH b (.cells cs.toArray t)::hs) (WL P r ops Q rest)):Tr c D sl hs (WL P r ops Q (⟨some d,.box t x,ty,pos,af,none⟩::rest)):=br (P7 (.of (bc h).2) hc) (bc h).1 k
theorem Jz {t:TypeId} {z:Value} {cs:List Value} [lZ P t z] (hc:z.cells=cs.toArray) (hd:Nat.blt d c.nt=true) (k:∀ b,c.w0.heap.size≤b→Tr c D ((d,.pointer (some ⟨b,0,none⟩))::sl) (bH b (.cells cs.toArray t)::hs) (WL P r ops Q rest)):Tr c D sl hs (WL P r ops Q (⟨some d,.alloc t,ty,pos,af,none⟩::rest)):=br (q6 hc) hd k
end
theorem JN {P:Program} {r:Option Nat} {c:Cx} {D:List Nat} {sl:aH} {hs:List bd} {Q:Exit→Act→World→Prop} {ops:Array Oper} {d:Nat} {op:Op} {ty:TypeId} {pos:String} {af:Array Edge} {rest:List Oper} {f:FuncId} {args:List Value} {ι:Type} {Φ:ι→Prop} {val:ι→Value} {own:ι→List bd} (hr:lJ P sl ⟨some d,op,ty,pos,af,none⟩ f args) (hd:Nat.blt d c.nt=true) (hc:∀ w,Mem c hs w→bu P f args w [] Φ val own)
  (k:∀ x,Φ x→Tr c D ((d,val x)::sl) (own x++hs) (WL P r ops Q rest)):Tr c D sl hs (WL P r ops Q (⟨some d,op,ty,pos,af,none⟩::rest)):=jw hr hd bD.nil (fun w fp hm _ hs=>by obtain rfl:fp=[]:=hs;exact hc w hm) k
section
variable {P:Program} {r:Option Nat} {c:Cx} {sl:aH} {hs hs':List bd} {d:Nat} {dst:Option Tmp} {ty:TypeId} {pos:String} {af:Array Edge} {g:Option (Nat×Bool)}
theorem gT {t:TypeId} {n:Nat} {x:Operand} {b o:Nat} {cs:List Value} {E:TypeId} {fz:Nat×Nat} {v:Value} [Ty P t false n] (ht:Take hs (SL.bH b (.cells cs.toArray E fz)) hs') (hx:Is sl x (.pointer (some ⟨b,o,none⟩)):=by exact Is.of rfl) (hv:tK cs o=some v:=by exact rfl):cY P c sl hs ⟨dst,.load t x,ty,pos,af,g⟩ v:=ag hx (At.lit ht hv)
theorem cR {t:TypeId} {n:Nat} {x:Operand} {b o:Nat} {cs vs:List Value} {E:TypeId} {fz:Nat×Nat} [Ty P t true n] (ht:Take hs (SL.bH b (.cells cs.toArray E fz)) hs') (hx:Is sl x (.pointer (some ⟨b,o,none⟩)):=by exact Is.of rfl) (hv:ed cs o n=vs:=by exact ak) (hl:vs.length=n:=by rfl):cY P c sl hs ⟨dst,.load t x,ty,pos,af,g⟩ (.agg vs.toArray):=bT hx ht hv hl
theorem kZ {t:TypeId} {i o:Nat} {x:Operand} {b k q:Nat} [eu P t i o] (hx:Is sl x (.pointer (some ⟨b,k,none⟩)):=by exact Is.of rfl) (he:k+o=q:=by exact ae):cY P c sl hs ⟨dst,.fieldAddr t x i,ty,pos,af,g⟩ (.pointer (some ⟨b,q,none⟩)):=au hx he
theorem l7 {x:Operand} {v:Value} (hx:Is sl x v:=by exact Is.of rfl):cY P c sl hs ⟨dst,.move x,ty,pos,af,g⟩ v:=aN hx
theorem gW {t:TypeId} {n:Nat} {x:Operand} {b o:Nat} {vs:List Value} [Ty P t true n] (hv:ew c hs b o vs) (hx:Is sl x (.pointer (some ⟨b,o,none⟩)):=by exact Is.of rfl) (hl:vs.length=n:=by exact rfl):cY P c sl hs ⟨dst,.load t x,ty,pos,af,g⟩ (.agg vs.toArray):=jc hx hv hl
theorem fM {t e:TypeId} {n:Nat} {agg:Bool} {x y:Operand} {a0:Option Addr} {b o len cap q:Nat} {k:IntKind} {i:Int} [hu:iV P t (.slice e)] [Ty P e agg n] (ha:a0=some ⟨b,o,none⟩) (h1:i<len) (hx:Is sl x (.slice a0 len cap):=by exact Is.of rfl) (hy:Is sl y (.int k i):=by exact Is.of rfl) (h0:0≤i:=by omega) (he:o+i.toNat*n=q:=by exact bb):cY P c sl hs ⟨dst,.indexAddr t x y,ty,pos,af,g⟩ (.pointer (some ⟨b,q,none⟩)):=ar hx hy ha h0 h1 he
theorem JT {fn:Func} {v v':Value} {t:Tmp} (hv:v'=v) (Gz:c.md=[]:=by exact rfl) (h1:fn.results=#[.tmp t]:=by exact rfl) (h2:cS sl t=some v':=by exact rfl):Tr c [] sl hs (bodyPostM (FR r) 0 P fn (fun e w'=>e=.returned v∧aJ [] c.w0 w') .ret):=oW Gz (dH h1 h2) hv
end
theorem bL {A x0 x1:bd} {h:List bd}:Take (x0::x1::A::h) A (x0::x1::h):=.there (.there .here)
theorem cW {A x0 x1 x2:bd} {h:List bd}:Take (x0::x1::x2::A::h) A (x0::x1::x2::h):=.there bL
theorem dT {A x0 x1 x2 x3:bd} {h:List bd}:Take (x0::x1::x2::x3::A::h) A (x0::x1::x2::x3::h):=.there cW
theorem eX {A x0 x1 x2 x3 x4:bd} {h:List bd}:Take (x0::x1::x2::x3::x4::A::h) A (x0::x1::x2::x3::x4::h):=.there dT
theorem pz {A x0 x1 x2 x3 x4 x5:bd} {h:List bd}:Take (x0::x1::x2::x3::x4::x5::A::h) A (x0::x1::x2::x3::x4::x5::h):=.there eX
theorem AH {A x0 x1 x2 x3 x4 x5 x6:bd} {h:List bd}:Take (x0::x1::x2::x3::x4::x5::x6::A::h) A (x0::x1::x2::x3::x4::x5::x6::h):=.there pz
theorem iW {A x0 x1 x2 x3 x4 x5 x6 x7:bd} {h:List bd}:Take (x0::x1::x2::x3::x4::x5::x6::x7::A::h) A (x0::x1::x2::x3::x4::x5::x6::x7::h):=.there AH
theorem iE {A x0 x1 x2 x3 x4 x5 x6 x7 x8:bd} {h:List bd}:Take (x0::x1::x2::x3::x4::x5::x6::x7::x8::A::h) A (x0::x1::x2::x3::x4::x5::x6::x7::x8::h):=.there iW
theorem lL {A x0 x1 x2 x3 x4 x5 x6 x7 x8 x9:bd} {h:List bd}:Take (x0::x1::x2::x3::x4::x5::x6::x7::x8::x9::A::h) A (x0::x1::x2::x3::x4::x5::x6::x7::x8::x9::h):=.there iE
theorem qJ {A x0 x1 x2 x3 x4 x5 x6 x7 x8 x9 xx:bd} {h:List bd}:Take (x0::x1::x2::x3::x4::x5::x6::x7::x8::x9::xx::A::h) A (x0::x1::x2::x3::x4::x5::x6::x7::x8::x9::xx::h):=.there lL
theorem iY {A x0 x1 x2 x3 x4 x5 x6 x7 x8 x9 xx Es:bd} {h:List bd}:Take (x0::x1::x2::x3::x4::x5::x6::x7::x8::x9::xx::Es::A::h) A (x0::x1::x2::x3::x4::x5::x6::x7::x8::x9::xx::Es::h):=.there qJ
theorem Sm {A x0 x1 x2 x3 x4 x5 x6 x7 x8 x9 xx Es G1:bd} {h:List bd}:Take (x0::x1::x2::x3::x4::x5::x6::x7::x8::x9::xx::Es::G1::A::h) A (x0::x1::x2::x3::x4::x5::x6::x7::x8::x9::xx::Es::G1::h):=.there iY
theorem CJ {A x0 x1 x2 x3 x4 x5 x6 x7 x8 x9 xx Es G1 Ow:bd} {h:List bd}:Take (x0::x1::x2::x3::x4::x5::x6::x7::x8::x9::xx::Es::G1::Ow::A::h) A (x0::x1::x2::x3::x4::x5::x6::x7::x8::x9::xx::Es::G1::Ow::h):=.there Sm
theorem iX {A x0 x1 x2 x3 x4 x5 x6 x7 x8 x9 xx Es G1 Ow PG:bd} {h:List bd}:Take (x0::x1::x2::x3::x4::x5::x6::x7::x8::x9::xx::Es::G1::Ow::PG::A::h) A (x0::x1::x2::x3::x4::x5::x6::x7::x8::x9::xx::Es::G1::Ow::PG::h):=.there CJ
theorem mP {A x0 x1 x2 x3 x4 x5 x6 x7 x8 x9 xx Es G1 Ow PG YL:bd} {h:List bd}:Take (x0::x1::x2::x3::x4::x5::x6::x7::x8::x9::xx::Es::G1::Ow::PG::YL::A::h) A (x0::x1::x2::x3::x4::x5::x6::x7::x8::x9::xx::Es::G1::Ow::PG::YL::h):=.there iX
theorem en {v0:Value} (h0:v0.oneCell'=true):∀ u∈[v0],u.oneCell'=true:=bM h0 (gq)
theorem fY {v0 v1:Value} (h0:v0.oneCell'=true) (h1:v1.oneCell'=true):∀ u∈[v0,v1],u.oneCell'=true:=bM h0 (bM h1 (gq))
theorem fo {v0 v1 v2:Value} (h0:v0.oneCell'=true) (h1:v1.oneCell'=true) (h2:v2.oneCell'=true):∀ u∈[v0,v1,v2],u.oneCell'=true:=bM h0 (bM h1 (bM h2 (gq)))
theorem gA {v0 v1 v2 v3 v4 v5:Value} (h0:v0.oneCell'=true) (h1:v1.oneCell'=true) (h2:v2.oneCell'=true) (h3:v3.oneCell'=true) (h4:v4.oneCell'=true) (h5:v5.oneCell'=true):∀ u∈[v0,v1,v2,v3,v4,v5],u.oneCell'=true:=bM h0 (bM h1 (bM h2 (bM h3 (bM h4 (bM h5 (gq))))))
theorem Vn {v0 v1 v2 v3 v4 v5 v6 v7:Value} (h0:v0.oneCell'=true) (h1:v1.oneCell'=true) (h2:v2.oneCell'=true) (h3:v3.oneCell'=true) (h4:v4.oneCell'=true) (h5:v5.oneCell'=true) (h6:v6.oneCell'=true) (h7:v7.oneCell'=true):∀ u∈[v0,v1,v2,v3,v4,v5,v6,v7],u.oneCell'=true:=bM h0 (bM h1 (bM h2 (bM h3 (bM h4 (bM h5 (bM h6 (bM h7 (gq))))))))
theorem cg {sl w:aH} (h:lB sl w:=by repeat' first | with_reducible exact lB.nil | ((with_reducible apply lB.cons);(case h=>exact rfl))):lB sl w:=h
theorem l6 {hs w q:List bd} (h:bD hs w q:=by repeat' first | with_reducible exact bD.nil | with_reducible apply bD.cons | with_reducible exact Take.here | with_reducible apply Take.there):bD hs w q:=h
theorem lC {P:Program} {sl:aH} {dst:Option Tmp} {ty:TypeId} {pos:String} {af:Array Edge} {g:Option (Nat×Bool)} {x :Operand} {ts:Array TypeId} {f:FuncId} {first cap args:List Value} (hx:Is sl x (.func (.func f) first.toArray cap.toArray):=by exact Is.of rfl)  (hb:bR P f:=by exact inferInstance) (he:first++[]++cap=args:=by exact ez):lJ P sl ⟨dst,.call ⟨.value x,#[],ts⟩,ty,pos,af,g⟩ f args:=aZ (xs:=[]) hx (.nil) hb he
theorem bN {P:Program} {sl:aH} {dst:Option Tmp} {ty:TypeId} {pos:String} {af:Array Edge} {g:Option (Nat×Bool)} {x y0:Operand} {ts:Array TypeId} {f:FuncId} {first cap args:List Value} {w0:Value} (hx:Is sl x (.func (.func f) first.toArray cap.toArray):=by exact Is.of rfl) (h0:Is sl y0 w0:=by exact Is.of rfl) (hb:bR P f:=by exact inferInstance) (he:first++[w0]++cap=args:=by exact ez):lJ P sl ⟨dst,.call ⟨.value x,#[y0],ts⟩,ty,pos,af,g⟩ f args:=aZ (xs:=[y0]) hx (.cons h0 (.nil)) hb he
theorem bj {P:Program} {sl:aH} {dst:Option Tmp} {ty:TypeId} {pos:String} {af:Array Edge} {g:Option (Nat×Bool)} {x y0 y1:Operand} {ts:Array TypeId} {f:FuncId} {first cap args:List Value} {w0 w1:Value} (hx:Is sl x (.func (.func f) first.toArray cap.toArray):=by exact Is.of rfl) (h0:Is sl y0 w0:=by exact Is.of rfl) (h1:Is sl y1 w1:=by exact Is.of rfl) (hb:bR P f:=by exact inferInstance) (he:first++[w0,w1]++cap=args:=by exact ez):lJ P sl ⟨dst,.call ⟨.value x,#[y0,y1],ts⟩,ty,pos,af,g⟩ f args:=aZ (xs:=[y0,y1]) hx (.cons h0 (.cons h1 (.nil))) hb he
theorem eM {P:Program} {sl:aH} {dst:Option Tmp} {ty:TypeId} {pos:String} {af:Array Edge} {g:Option (Nat×Bool)} {x y0 y1 y2:Operand} {ts:Array TypeId} {f:FuncId} {first cap args:List Value} {w0 w1 w2:Value} (hx:Is sl x (.func (.func f) first.toArray cap.toArray):=by exact Is.of rfl) (h0:Is sl y0 w0:=by exact Is.of rfl) (h1:Is sl y1 w1:=by exact Is.of rfl) (h2:Is sl y2 w2:=by exact Is.of rfl) (hb:bR P f:=by exact inferInstance) (he:first++[w0,w1,w2]++cap=args:=by exact ez):lJ P sl ⟨dst,.call ⟨.value x,#[y0,y1,y2],ts⟩,ty,pos,af,g⟩ f args:=aZ (xs:=[y0,y1,y2]) hx (.cons h0 (.cons h1 (.cons h2 (.nil)))) hb he
theorem wj {P:Program} {sl:aH} {dst:Option Tmp} {ty:TypeId} {pos:String} {af:Array Edge} {g:Option (Nat×Bool)} {x y0 y1 y2 y3:Operand} {ts:Array TypeId} {f:FuncId} {first cap args:List Value} {w0 w1 w2 w3:Value} (hx:Is sl x (.func (.func f) first.toArray cap.toArray):=by exact Is.of rfl) (h0:Is sl y0 w0:=by exact Is.of rfl) (h1:Is sl y1 w1:=by exact Is.of rfl) (h2:Is sl y2 w2:=by exact Is.of rfl) (h3:Is sl y3 w3:=by exact Is.of rfl) (hb:bR P f:=by exact inferInstance) (he:first++[w0,w1,w2,w3]++cap=args:=by exact ez):lJ P sl ⟨dst,.call ⟨.value x,#[y0,y1,y2,y3],ts⟩,ty,pos,af,g⟩ f args:=aZ (xs:=[y0,y1,y2,y3]) hx (.cons h0 (.cons h1 (.cons h2 (.cons h3 (.nil))))) hb he
theorem Lf {P:Program} {sl:aH} {dst:Option Tmp} {ty:TypeId} {pos:String} {af:Array Edge} {g:Option (Nat×Bool)} {x y0 y1 y2 y3 y4:Operand} {ts:Array TypeId} {f:FuncId} {first cap args:List Value} {w0 w1 w2 w3 w4:Value} (hx:Is sl x (.func (.func f) first.toArray cap.toArray):=by exact Is.of rfl) (h0:Is sl y0 w0:=by exact Is.of rfl) (h1:Is sl y1 w1:=by exact Is.of rfl) (h2:Is sl y2 w2:=by exact Is.of rfl) (h3:Is sl y3 w3:=by exact Is.of rfl) (h4:Is sl y4 w4:=by exact Is.of rfl) (hb:bR P f:=by exact inferInstance) (he:first++[w0,w1,w2,w3,w4]++cap=args:=by exact ez):lJ P sl ⟨dst,.call ⟨.value x,#[y0,y1,y2,y3,y4],ts⟩,ty,pos,af,g⟩ f args:=aZ (xs:=[y0,y1,y2,y3,y4]) hx (.cons h0 (.cons h1 (.cons h2 (.cons h3 (.cons h4 (.nil)))))) hb he
end Go.SL
namespace Go.Proofs.A1
open Go Go.SL
def ints (es:List Int):List (List Value):=es.map fun e=>[.int .i64 e]
theorem c8 (es:List Int):(ints es).length=es.length:=by simp [ints]
theorem ib {es:List Int} {k:Nat} (h:k<es.length):(ints es)[k]? = some [.int .i64 es[k]]:=by simp [ints,h]
theorem jC {es:List Int} {k:Nat} (h:k<es.length):ints es≠[]:=by intro e;have:=congrArg List.length e;rw [c8] at this;simp at this;subst this;simp at h
inductive bY:List Value→List Int→Prop
 | nil:bY [] []
 | cons {e:Int} {vs:List Value} {es:List Int} (h:bY vs es):bY (.int .i64 e::vs) (e::es)
theorem bY.eq {vs:List Value} {es:List Int} (h:bY vs es):(vs.map fun v=>[v])=ints es:=by
 induction h with
 | nil=>rfl
 | cons h ih=>simp only [Z8,ints,ih]
theorem OM (c:Int) (w:World):aj Tryz.prog 323 [.int .u8 c] w (.bool (Gq c)):=by
 refine ah Tryz.func323 rfl rfl ?_
 (refine Jr<|Ja rfl<|Ji<|Jv rfl<|JF rfl<|Jv rfl<|il rfl rfl rfl rfl<|aD rfl rfl inferInstance (fun hg bA=>(mf (.bI hg rfl) (.of rfl))) rfl<|ab (cD (.of rfl) rfl) rfl<|Jv rfl<|il rfl rfl rfl rfl<|aD rfl rfl inferInstance (fun hg bA=>(mf (.of rfl) (.bI hg rfl))) rfl<|aD rfl rfl inferInstance (fun hg bA=>(aN (.bI hg rfl))) rfl<|kB rfl rfl inferInstance (fun hg bA=>(aN (.of rfl))) rfl<|kB rfl rfl inferInstance (fun hg bA=>(mf (.bI hg rfl) (.of rfl))) rfl<|aD rfl rfl inferInstance (fun hg bA=>(iw hg (.bI hg rfl) rfl)) rfl<|ab (a7 (.of rfl) rfl) rfl<|Ja rfl<|Jn<|Je<|JT ?_)
 rfl
theorem Tz (c:Int) (w:World):aj Tryz.prog 324 [.int .u8 c] w (.bool (TA c)):=by
 refine ah Tryz.func324 rfl rfl ?_
 (refine Jr<|Ja rfl<|Ji<|Jv rfl<|JF rfl<|Jv rfl<|il rfl rfl rfl rfl<|aD rfl rfl inferInstance (fun hg bA=>(mf (.bI hg rfl) (.of rfl))) rfl<|ab (cD (.of rfl) rfl) rfl<|Ja rfl<|Jn<|Je<|JT ?_)
 rfl
theorem k6 (h:Bool) (e:Int) (w:World):aj Tryz.prog 129 [.bool h,.int .i64 e] w (.int .i64 (ch h e)):=by
 refine ah Tryz.func129 rfl rfl ?_
 (refine Jr<|Ja rfl<|Jn<|Jq<|Jr<|Jv rfl<|Jn<|pt rfl (fun az=>?_) fun az=>?_;refine Jr<|Jv rfl<|Ja rfl<|Jn<|Ju<|JT ?_;rotate_left;refine Jk<|Jr<|Ja rfl<|Jn<|Je<|JT ?_;rotate_right)
 all_goals simp [ch, *]
theorem zA (n l m:Int) (w:World):aj Tryz.prog 67 [.int .i64 n,.int .i64 l,.int .i64 m] w (.int .i64 (gp n l m)):=by
 refine ah Tryz.func67 rfl rfl ?_
 (refine Jr<|Ja rfl<|Ji<|Jv rfl<|Jv rfl<|JA rfl<|Jv rfl<|il rfl rfl rfl rfl<|il rfl rfl rfl rfl<|aD rfl rfl inferInstance (fun hg bA=>(km (.bI hg rfl) (.bI hg rfl))) rfl<|ab (a7 (.of rfl) rfl) rfl<|ai bj rfl (fun w' aA=>(k6 _ 3 w'))<|Ja rfl<|Jn<|Je<|JT ?_)
 rfl
theorem Qu (s:ByteArray) (w:World):aj Tryz.prog 270 [.string s] w (.bool (j6 s)):=by
 refine ah Tryz.func270 rfl rfl ?_
 (refine Jr<|Ja rfl<|Jn<|Jq<|Jr<|Jv rfl<|ab (fK (.of rfl)) rfl<|JC rfl<|Jv rfl<|il rfl rfl rfl rfl<|aD rfl rfl inferInstance (fun hg bA=>(fK (.bI hg rfl))) rfl<|aD rfl rfl inferInstance (fun hg bA=>(km (.bI hg rfl) (.of rfl))) rfl<|ab (a7 (.of rfl) rfl) rfl<|Jv rfl<|il rfl rfl rfl rfl<|aD rfl rfl inferInstance (fun hg bA=>(o7 (.bI hg rfl) (.of rfl) (by omega) (by omega))) rfl<|dW rfl rfl (fun hg=>(aZ (.of rfl) (.cons (.bI hg rfl) .nil) inferInstance ez)) rfl (fun hg w' aA=>(OM _ w'))<|aD rfl rfl inferInstance (fun hg bA=>(dU (.bI hg rfl))) rfl<|ab (a7 (.of rfl) rfl) rfl<|Jn<|pt rfl (fun az=>?_) fun az=>?_;refine Jr<|Ja rfl<|Jn<|Ju<|JT ?_;rotate_left;refine Jk<|Jq<|Jr<|Ja rfl<|Jn<|J0 ?_;rotate_right)
 ·congr 1;symm
  change (_∨_)∨Gq (bt s 0)=false at az
  unfold j6
  rcases az with (h | h) | h
  ·simp;omega
  ·simp;omega
  ·simp [h]
 change (_∧_)∧Gq (bt s 0)=true at az
 obtain ⟨⟨h0,h1⟩,h2⟩:=az
 have hN:j6 s=okF s 1:=by
  unfold j6
  rw [h2,decide_eq_true (by omega),decide_eq_true (by omega)];rfl
 rw [hN]
 refine aW (fun k:Nat=>1≤k∧k≤s.size∧okF s 1=okF s k) (fun k=>[(3,.int .i64 k),(0,.string s)]) (fun _=>[]) (fun k=>s.size-k) ?_ ?_
 ·apply aI 1 ⟨by omega,by omega,rfl⟩
  case hs1=>exact cg
  case ht=>(try simp only [Ze,Zf,Za]);exact .nil
 intro k ⟨Rh,hk,hf⟩
 rw [hf]
 by_cases aM:k<s.size
 ·rw [zK aM]
  (refine Jq<|Jr<|Jv rfl<|Jv rfl<|ab (fK (.of rfl)) rfl<|JA rfl<|Jn<|Jd rfl fun az=>Jk<|Jq<|J0<|Jr<|Jv rfl<|Jv rfl<|ab (o7 (.of rfl) (.of rfl) (by omega) az) rfl<|ai bN rfl (fun w' aA=>(OM _ w'))<|JH rfl<|Jv rfl<|il rfl rfl rfl rfl<|il rfl rfl rfl rfl<|aD rfl rfl inferInstance (fun hg bA=>(o7 (.bI hg rfl) (.bI hg rfl) (by omega) az)) rfl<|dW rfl rfl (fun hg=>(aZ (.of rfl) (.cons (.bI hg rfl) .nil) inferInstance ez)) rfl (fun hg w' aA=>(Tz _ w'))<|aD rfl rfl inferInstance (fun hg bA=>(dU (.bI hg rfl))) rfl<|ab (cD (.of rfl) rfl) rfl<|Jv rfl<|il rfl rfl rfl rfl<|il rfl rfl rfl rfl<|aD rfl rfl inferInstance (fun hg bA=>(o7 (.bI hg rfl) (.bI hg rfl) (by omega) az)) rfl<|aD rfl rfl inferInstance (fun hg bA=>(fa (.bI hg rfl) (.of rfl))) rfl<|ab (cD (.of rfl) rfl) rfl<|Jn<|pt rfl (fun az=>?_) fun az=>?_;refine Jr<|Ja rfl<|Jn<|Je<|Jm<|Jh<|Jh<|Jm<|Jh<|JT ?_;rotate_left;refine Jw<|Jj<|Jt<|Jg<|Jv rfl<|JB rfl (by omega)<|Ja rfl<|Jn ?_;rotate_right)
  ·congr 1;symm
   change (Gq (bt s k)=false∧TA (bt s k)=false)∧bt s k≠95 at az
   simp [okB,az]
  ·have ho:okB (bt s k)=true:=by
    change (Gq (bt s k)=true∨TA (bt s k)=true)∨¬ bt s k≠95 at az
    rcases az with (h | h) | h
    ·simp [okB,h]
    ·simp [okB,h]
    ·simp [okB,Zo.1 h]
   rw [ho,ZaA]
   rw [zK aM,ho,ZaA] at hf
   rw [← hf]
   apply aK (k+1) ⟨by omega,by omega,hf⟩ (by omega)
   case hs1=>exact cg
   case ht=>(try simp only [Ze,Zf,Za]);exact .nil
 ·(refine Jq<|Jr<|Jv rfl<|Jv rfl<|ab (fK (.of rfl)) rfl<|JA rfl<|Jn<|Jc rfl fun az=>Jp<|Jl<|Jo<|Jt<|Jr<|Ja rfl<|Jn<|Je<|JT ?_)
  rw [EY (by omega)]
theorem WA (s:ByteArray) (w:World):aj Tryz.prog 189 [.string s] w (.int .i64 (nmF s)):=by
 refine ah Tryz.func189 rfl rfl ?_
 (refine Jr<|Ja rfl<|Ji<|Jv rfl<|ai bN rfl (fun w' aA=>(Qu s w'))<|JH rfl<|ai bj rfl (fun w' aA=>(k6 _ 8 w'))<|Ja rfl<|Jn<|Je<|JT ?_)
 rfl
theorem NO (v:Value) (es:List Int) (w:World) (h:Rd w v 1 (ints es)):aj Tryz.prog 28 [v] w (.int .i64 (aX es)):=by
 obtain ⟨a,cap,b,o,rfl,dj,bV,ha,hc⟩:=h
 rw [c8] at *
 unfold maxLen at bV
 refine ah Tryz.func28 rfl rfl ?_
 refine Jr<|Ja rfl<|Jn<|Jq<|Jr<|Ja rfl<|Jn<|J0 ?_
 refine aW (fun k:Nat=>k≤es.length∧aX es=aX (es.drop k)) (fun k=>[(3,.int .i64 k),(0,.slice a es.length cap)]) (fun _=>[]) (fun k=>es.length-k) ?_ ?_
 ·apply aI 0 ⟨Zi _,rfl⟩
  case hs1=>exact cg
  case ht=>(try simp only [Ze,Zf,Za]);exact .nil
 intro k ⟨hk,hf⟩
 by_cases aM:k<es.length
 ·have cG:=ha (jC aM)
  have aB:=YP hc (ib aM)
  have hs:=sF aM
  (refine Jq<|Jr<|Jv rfl<|Jv rfl<|JI rfl<|JA rfl<|Jn<|Jd rfl fun az=>Jk<|Jq<|J0<|Jr<|Jv rfl<|Jv rfl<|ab (fM cG az) rfl<|ab (ag (.of rfl) (At.base aB rfl)) rfl<|JD rfl<|Jn<|gm rfl (fun az=>?_) fun az=>?_;refine Jr<|Jv rfl<|Jv rfl<|ab (ar (.of rfl) (.of rfl) cG (by omega) (by assumption) bb) rfl<|ab (ag (.of rfl) (At.base aB rfl)) rfl<|Ja rfl<|Jn<|Je<|Jm<|Jh<|Jh<|Jm<|Jh<|JT ?_;rotate_left;refine Jw<|Jj<|Jt<|Jg<|Jv rfl<|JB rfl (by omega)<|Ja rfl<|Jn ?_;rotate_right)
  ·rw [hf,hs,if_pos az]
  ·apply aK (k+1) ⟨by omega,by rw [hf,hs,if_neg az]⟩ (by omega)
   case hs1=>exact cg
   case ht=>(try simp only [Ze,Zf,Za]);exact .nil
 ·refine Jq<|Jr<|Jv rfl<|Jv rfl<|JI rfl<|JA rfl<|Jn<|Jc rfl fun az=>Jp<|Jl<|Jo<|Jt<|Jr<|Ja rfl<|Jn<|Je<|JT ?_
  rw [hf,Zbc (by omega)];rfl
theorem lq {v:Value} {cs:List Value} {es:List Int} {w:World} (h:Rd w v 1 (cs.map fun v=>[v])) (hl:bY cs es):aj Tryz.prog 28 [v] w (.int .i64 (aX es)):=
 NO v es w (by rw [← hl.eq];exact h)
theorem dV (h:Bool) (e:Int) (w:World):aj Tryz.prog 147 [.bool h,.int .i64 e] w (.int .i64 (ch h e)):=by
 refine ah Tryz.func147 rfl rfl ?_
 (refine Jr<|Ja rfl<|Jn<|Jq<|Jr<|Jv rfl<|Jn<|pt rfl (fun az=>?_) fun az=>?_;refine Jr<|Jv rfl<|Ja rfl<|Jn<|Ju<|JT ?_;rotate_left;refine Jk<|Jr<|Ja rfl<|Jn<|Je<|JT ?_;rotate_right)
 all_goals simp [ch, *]
theorem mu (n l m:Int) (w:World):aj Tryz.prog 134 [.int .i64 n,.int .i64 l,.int .i64 m] w (.int .i64 (gp n l m)):=by
 refine ah Tryz.func134 rfl rfl ?_
 (refine Jr<|Ja rfl<|Ji<|Jv rfl<|Jv rfl<|JA rfl<|Jv rfl<|il rfl rfl rfl rfl<|il rfl rfl rfl rfl<|aD rfl rfl inferInstance (fun hg bA=>(km (.bI hg rfl) (.bI hg rfl))) rfl<|ab (a7 (.of rfl) rfl) rfl<|ai bj rfl (fun w' aA=>(dV _ 3 w'))<|Ja rfl<|Jn<|Je<|JT ?_)
 rfl
theorem NQ (v:Value) (es:List Int) (w:World) (h:Rd w v 1 (ints es)):aj Tryz.prog 111 [v] w (.int .i64 (aX es)):=by
 obtain ⟨a,cap,b,o,rfl,dj,bV,ha,hc⟩:=h
 rw [c8] at *
 unfold maxLen at bV
 refine ah Tryz.func111 rfl rfl ?_
 refine Jr<|Ja rfl<|Jn<|Jq<|Jr<|Jv rfl<|JI rfl<|Jv rfl<|Jn<|J0 ?_
 refine aW (fun k:Nat=>k≤es.length∧aX es=aX (es.drop k)) (fun k=>[(7,.int .i64 k),(6,.int .i64 es.length),(5,.slice a es.length cap)]) (fun _=>[]) (fun k=>es.length-k) ?_ ?_
 ·apply aI 0 ⟨Zi _,rfl⟩
  case hs1=>exact cg
  case ht=>(try simp only [Ze,Zf,Za]);exact .nil
 intro k ⟨hk,hf⟩
 by_cases aM:k<es.length
 ·have cG:=ha (jC aM)
  have aB:=YP hc (ib aM)
  have hs:=sF aM
  (refine Jr<|JA rfl<|Jn<|Jq<|Jd rfl fun az=>Jk<|Jq<|J0<|Jr<|ab (fM cG az) rfl<|ab (ag (.of rfl) (At.base aB rfl)) rfl<|Ja rfl<|Ji<|Jv rfl<|JD rfl<|Jn<|gm rfl (fun az=>?_) fun az=>?_;refine Jr<|Jv rfl<|Ja rfl<|Jn<|Je<|Jm<|Jh<|Jh<|Jm<|Jh<|JT ?_;rotate_left;refine Jw<|Jj<|Jt<|Jg<|JB rfl (by omega)<|Jv rfl<|Jn ?_;rotate_right)
  ·rw [hf,hs,if_pos az]
  ·apply aK (k+1) ⟨by omega,by rw [hf,hs,if_neg az]⟩ (by omega)
   case hs1=>exact cg
   case ht=>(try simp only [Ze,Zf,Za]);exact .nil
 ·refine Jr<|JA rfl<|Jn<|Jq<|Jc rfl fun az=>Jp<|Jl<|Jo<|Jt<|Jr<|Ja rfl<|Jn<|Je<|JT ?_
  rw [hf,Zbc (by omega)];rfl
theorem dO {v:Value} {cs:List Value} {es:List Int} {w:World} (h:Rd w v 1 (cs.map fun v=>[v])) (hl:bY cs es):aj Tryz.prog 111 [v] w (.int .i64 (aX es)):=
 NQ v es w (by rw [← hl.eq];exact h)
theorem Vc {s:ByteArray} {p:Nat} (h:p<s.size):bt s p=((s[p]'h).toNat:Nat):=by
 unfold bt
 have:s.data.toList[p]? = some (s[p]'h):=by
  rw [ZaD]
  exact getElem?_pos s.data p h
 rw [this];rfl
theorem yK {s:ByteArray} {p:Nat} (h:p<s.size):(bt s p<128∧((Utf8.decode s p).1:Int)=bt s p∧(Utf8.decode s p).2=1)∨(128≤bt s p∧(128:Int)≤(Utf8.decode s p).1∧1≤(Utf8.decode s p).2):=by
 rw [Vc h]
 by_cases ha:(s[p]'h).toNat<128
 ·have:=decode_ascii s p h ha
  left;rw [this];exact ⟨by omega,rfl,rfl⟩
 ·have:=decode_high s p h (by omega)
  right;omega
theorem BM {s:ByteArray}:s.size=0↔s=⟨#[]⟩:=by
 constructor
 ·intro h
  have:s.data=#[]:=Array.eq_empty_of_size_eq_zero h
  cases s;simp_all
 ·rintro rfl;rfl
theorem E6 {c:Int}:Gq c=true↔(65≤c∧c≤90)∨(97≤c∧c≤122):=by simp [Gq]
theorem zL {c:Int}:okB c=true↔((65≤c∧c≤90)∨(97≤c∧c≤122))∨(48≤c∧c≤57)∨c=95:=by simp [okB,Gq,TA,or_assoc]
theorem DF (s:ByteArray) (w:World):aj Tryz.prog 187 [.string s] w (.bool (j6 s)):=by
 refine ah Tryz.func187 rfl rfl ?_
 (refine Jr<|Ja rfl<|Jn<|Jq<|Jr<|Jv rfl<|br (Gb (.of rfl)) rfl fun _ _=>Jn<|J0 ?_)
 rename_i bi hbi
 refine aW (fun p:Nat=>p≤s.size∧(p=0∨(1≤p∧Gq (bt s 0)=true∧okF s 1=okF s p))) (fun _=>[(7,.pointer (some ⟨bi,0,none⟩)),(0,.string s)]) (fun p=>[bH bi (.stringIter s p)]) (fun p=>s.size-p) ?_ ?_
 ·apply aI 0 ⟨by omega,.inl rfl⟩
  case hs1=>exact cg
  case ht=>(try simp only [Ze,Zf,Za]);exact .cons .here .nil
 intro p ⟨hp,hI⟩
 (refine Jr<|Hs (.of rfl) .here rfl (fun aM=>?_) fun aM=>?_;refine JJ rfl rfl<|Jn<|Jq<|cP (.of rfl)<|Jk<|J0<|Jr<|JJ rfl rfl<|JJ rfl rfl<|Ja rfl<|Ja rfl<|Ji<|Jv rfl<|JG rfl<|Jv rfl<|il rfl rfl rfl rfl<|aD rfl rfl inferInstance (fun hg bA=>(mf (.bI hg rfl) (.of rfl))) rfl<|ab (cD (.of rfl) rfl) rfl<|Jv rfl<|il rfl rfl rfl rfl<|aD rfl rfl inferInstance (fun hg bA=>(uU (.bI hg rfl) (.of rfl))) rfl<|aD rfl rfl inferInstance (fun hg bA=>(aN (.bI hg rfl))) rfl<|kB rfl rfl inferInstance (fun hg bA=>(aN (.of rfl))) rfl<|kB rfl rfl inferInstance (fun hg bA=>(mf (.bI hg rfl) (.of rfl))) rfl<|aD rfl rfl inferInstance (fun hg bA=>(iw hg (.bI hg rfl) rfl)) rfl<|ab (a7 (.of rfl) rfl) rfl<|Ja rfl<|Ji<|Jv rfl<|JH rfl<|Jv rfl<|il rfl rfl rfl rfl<|aD rfl rfl inferInstance (fun hg bA=>(mX (.bI hg rfl) (.of rfl))) rfl<|aD rfl rfl inferInstance (fun hg bA=>(aN (.bI hg rfl))) rfl<|kB rfl rfl inferInstance (fun hg bA=>(aN (.of rfl))) rfl<|kB rfl rfl inferInstance (fun hg bA=>(lg (.bI hg rfl) (.of rfl))) rfl<|kB rfl rfl inferInstance (fun hg bA=>(aN (.bI hg rfl))) rfl<|kB rfl rfl inferInstance (fun hg bA=>(aN (.of rfl))) rfl<|kB rfl rfl inferInstance (fun hg bA=>(km (.bI hg rfl) (.of rfl))) rfl<|kB rfl rfl inferInstance (fun hg bA=>(lR hg (.bI hg rfl) rfl)) rfl<|kB rfl rfl inferInstance (fun hg bA=>(aN (.bI hg rfl))) rfl<|kB rfl rfl inferInstance (fun hg bA=>(aN (.of rfl))) rfl<|kB rfl rfl inferInstance (fun hg bA=>(fa (.bI hg rfl) (.of rfl))) rfl<|kB rfl rfl inferInstance (fun hg bA=>(iw hg (.bI hg rfl) rfl)) rfl<|aD rfl rfl inferInstance (fun hg bA=>(lR hg (.bI hg rfl) rfl)) rfl<|ab (cD (.of rfl) rfl) rfl<|Jn<|pt rfl (fun az=>?_) fun az=>?_;refine Jr<|Ja rfl<|Jn<|Je<|Jm<|Jh<|Jm<|Jh<|JT ?_;rotate_left;refine Jw<|Jj<|Jt ?_;rotate_right;rotate_left 2;refine JJ rfl rfl<|Jn<|Jq<|bK (.of rfl)<|Jp<|Jl<|Jo<|Jt<|Jr<|Jv rfl<|ab (eZ (.of rfl) (.of rfl)) rfl<|Jv rfl<|il rfl rfl rfl rfl<|aD rfl rfl inferInstance (fun hg bA=>(fK (.bI hg rfl))) rfl<|aD rfl rfl inferInstance (fun hg bA=>(mf (.bI hg rfl) (.of rfl))) rfl<|ab (cD (.of rfl) rfl) rfl<|Ja rfl<|Jn<|Je<|JT ?_;rotate_right 2)
 ·congr 1;symm
  unfold j6
  have hd:=yK aM
  rcases hI with rfl | ⟨h1,h2,h3⟩
  ·have:Gq (bt s 0)=false:=by rw [← Zau,E6];omega
   simp [this]
  ·have:okF s p=false:=by
    rw [zK aM]
    have:okB (bt s p)=false:=by rw [← Zau,zL];omega
    rw [this];rfl
   rw [h3,this];simp
 ·have hd:=yK aM
  have ho:okB (bt s p)=true:=by rw [zL];omega
  have hw:(Utf8.decode s p).2=1:=by rw [zL] at ho;omega
  rw [hw]
  have hn:Gq (bt s 0)=true∧okF s 1=okF s (p+1):=by
   rcases hI with rfl | ⟨h1,h2,h3⟩
   ·refine ⟨?_,rfl⟩
    rw [E6];omega
   ·exact ⟨h2,by rw [h3,zK aM,ho];rfl⟩
  apply aK (p+1) ⟨by omega,.inr ⟨by omega,hn⟩⟩ (by omega)
  case hs1=>exact cg
  case ht=>(try simp only [Ze,Zf,Za]);exact .cons .here .nil
 ·unfold j6
  congr 1
  by_cases h0:s.size=0
  ·have:s=⟨#[]⟩:=BM.1 h0
   rw [decide_eq_false (p:=s≠⟨#[]⟩) (fun h=>h this),decide_eq_false (p:=0<s.size) (by omega)];rfl
  ·rw [decide_eq_true (p:=s≠⟨#[]⟩) (fun h=>h0 (BM.2 h)),decide_eq_true (p:=0<s.size) (by omega)]
   rcases hI with rfl | ⟨h1,h2,h3⟩
   ·omega
   ·rw [h2,h3,EY (by omega)]
    simp
    omega
def Sr.cells (x:Sr):List Value:=[.string x.nm,.int .i64 x.mx]
def uL (l:List Sr):List (List Value):=l.map Sr.cells
def nZ (l:List Sr):List Value:=(uL l).flatten
theorem cO (l:List Sr):(uL l).length=l.length:=by simp [uL]
theorem fN {l:List Sr} {k:Nat} (h:k<l.length):(uL l)[k]? = some ((Sr.cells) l[k]):=by simp [uL,h]
theorem iM {l:List Sr} {k:Nat} (h:k<l.length):uL l≠[]:=by intro e;have:=congrArg List.length e;rw [cO] at this;simp at this;subst this;simp at h
theorem HI (l:List Sr):∀ r∈uL l,r.length=2:=fun r hr=>by obtain ⟨x,_,rfl⟩:=Zt.1 hr;rfl
theorem Mm (l:List Sr):∀ r∈uL l,∀ u∈r,u.oneCell'=true:=fun r hr=>by obtain ⟨x,_,rfl⟩:=Zt.1 hr;exact bM rfl (bM rfl (gq))
theorem EK (l:List Sr):(nZ l).length=l.length*2:=by unfold nZ;rw [fG (HI l),cO]
theorem Ml (a b:List Sr):nZ (a++b)=nZ a++nZ b:=by unfold nZ uL;rw [Zs,Zac]
theorem Be {l:List Sr} {k:Nat} (h:k<l.length):nZ (l.take (k+1))=nZ (l.take k)++(Sr.cells) l[k]:=by rw [Zn h,Ml];unfold nZ uL;simp
theorem cK {c:Cx} {hs hs':List bd} {w:World} {l:List Sr} {E:TypeId} {v:Value} {n:Nat} (hm:Mem c hs w) (ht:Take hs (row E 2 v n (nZ l)) hs') (hn:l.length=n):Rd w v 2 (uL l):=hm.om ht rfl (HI l) (by rw [cO,hn])
def De.cells (x:De):List Value:=[.string x.nm,.int .i64 x.mx,.bool x.pr]
def uy (l:List De):List (List Value):=l.map De.cells
def iZ (l:List De):List Value:=(uy l).flatten
theorem cn (l:List De):(uy l).length=l.length:=by simp [uy]
theorem eR {l:List De} {k:Nat} (h:k<l.length):(uy l)[k]? = some ((De.cells) l[k]):=by simp [uy,h]
theorem fW {l:List De} {k:Nat} (h:k<l.length):uy l≠[]:=by intro e;have:=congrArg List.length e;rw [cn] at this;simp at this;subst this;simp at h
theorem Eb (l:List De):∀ r∈uy l,r.length=3:=fun r hr=>by obtain ⟨x,_,rfl⟩:=Zt.1 hr;rfl
theorem N3 (l:List De):∀ r∈uy l,∀ u∈r,u.oneCell'=true:=fun r hr=>by obtain ⟨x,_,rfl⟩:=Zt.1 hr;exact bM rfl (bM rfl (bM rfl (gq)))
theorem FC (l:List De):(iZ l).length=l.length*3:=by unfold iZ;rw [fG (Eb l),cn]
theorem N2 (a b:List De):iZ (a++b)=iZ a++iZ b:=by unfold iZ uy;rw [Zs,Zac]
theorem Cl {l:List De} {k:Nat} (h:k<l.length):iZ (l.take (k+1))=iZ (l.take k)++(De.cells) l[k]:=by rw [Zn h,N2];unfold iZ uy;simp
theorem cL {c:Cx} {hs hs':List bd} {w:World} {l:List De} {E:TypeId} {v:Value} {n:Nat} (hm:Mem c hs w) (ht:Take hs (row E 3 v n (iZ l)) hs') (hn:l.length=n):Rd w v 3 (uy l):=hm.om ht rfl (Eb l) (by rw [cn,hn])
def Ti.cells (x:Ti):List Value:=[.string x.nm,.int .i64 x.fr,.int .i64 x.to]
def tX (l:List Ti):List (List Value):=l.map Ti.cells
def pV (l:List Ti):List Value:=(tX l).flatten
theorem cd (l:List Ti):(tX l).length=l.length:=by simp [tX]
theorem eE {l:List Ti} {k:Nat} (h:k<l.length):(tX l)[k]? = some ((Ti.cells) l[k]):=by simp [tX,h]
theorem fw {l:List Ti} {k:Nat} (h:k<l.length):tX l≠[]:=by intro e;have:=congrArg List.length e;rw [cd] at this;simp at this;subst this;simp at h
theorem Hz (l:List Ti):∀ r∈tX l,r.length=3:=fun r hr=>by obtain ⟨x,_,rfl⟩:=Zt.1 hr;rfl
theorem L9 (l:List Ti):∀ r∈tX l,∀ u∈r,u.oneCell'=true:=fun r hr=>by obtain ⟨x,_,rfl⟩:=Zt.1 hr;exact bM rfl (bM rfl (bM rfl (gq)))
theorem EF (l:List Ti):(pV l).length=l.length*3:=by unfold pV;rw [fG (Hz l),cd]
theorem L8 (a b:List Ti):pV (a++b)=pV a++pV b:=by unfold pV tX;rw [Zs,Zac]
theorem Bc {l:List Ti} {k:Nat} (h:k<l.length):pV (l.take (k+1))=pV (l.take k)++(Ti.cells) l[k]:=by rw [Zn h,L8];unfold pV tX;simp
theorem cJ {c:Cx} {hs hs':List bd} {w:World} {l:List Ti} {E:TypeId} {v:Value} {n:Nat} (hm:Mem c hs w) (ht:Take hs (row E 3 v n (pV l)) hs') (hn:l.length=n):Rd w v 3 (tX l):=hm.om ht rfl (Hz l) (by rw [cd,hn])
def Po.cells (x:Po):List Value:=[.int .i64 x.lv,.string x.ou,.string x.ip]
def td (l:List Po):List (List Value):=l.map Po.cells
def fO (l:List Po):List Value:=(td l).flatten
theorem c6 (l:List Po):(td l).length=l.length:=by simp [td]
theorem iy {l:List Po} {k:Nat} (h:k<l.length):(td l)[k]? = some ((Po.cells) l[k]):=by simp [td,h]
theorem ko {l:List Po} {k:Nat} (h:k<l.length):td l≠[]:=by intro e;have:=congrArg List.length e;rw [c6] at this;simp at this;subst this;simp at h
theorem Ie (l:List Po):∀ r∈td l,r.length=3:=fun r hr=>by obtain ⟨x,_,rfl⟩:=Zt.1 hr;rfl
theorem EU (l:List Po):∀ r∈td l,∀ u∈r,u.oneCell'=true:=fun r hr=>by obtain ⟨x,_,rfl⟩:=Zt.1 hr;exact bM rfl (bM rfl (bM rfl (gq)))
theorem jz (l:List Po):(fO l).length=l.length*3:=by unfold fO;rw [fG (Ie l),c6]
theorem MJ (a b:List Po):fO (a++b)=fO a++fO b:=by unfold fO td;rw [Zs,Zac]
theorem BD {l:List Po} {k:Nat} (h:k<l.length):fO (l.take (k+1))=fO (l.take k)++(Po.cells) l[k]:=by rw [Zn h,MJ];unfold fO td;simp
theorem cE {c:Cx} {hs hs':List bd} {w:World} {l:List Po} {E:TypeId} {v:Value} {n:Nat} (hm:Mem c hs w) (ht:Take hs (row E 3 v n (fO l)) hs') (hn:l.length=n):Rd w v 3 (td l):=hm.om ht rfl (Ie l) (by rw [c6,hn])
def im (l:List ByteArray):List (List Value):=l.map fun s=>[.string s]
def aL (l:List ByteArray):List Value:=l.map Value.string
theorem bW (l:List ByteArray):(im l).length=l.length:=by simp [im]
theorem ji {l:List ByteArray} {k:Nat} (h:k<l.length):(im l)[k]? = some [.string l[k]]:=by simp [im,h]
theorem lf {l:List ByteArray} {k:Nat} (h:k<l.length):im l≠[]:=by intro e;have:=congrArg List.length e;rw [bW] at this;simp at this;subst this;simp at h
theorem HB (l:List ByteArray):∀ r∈im l,r.length=1:=fun r hr=>by obtain ⟨x,_,rfl⟩:=Zt.1 hr;rfl
theorem zh (l:List ByteArray):∀ r∈im l,∀ u∈r,u.oneCell'=true:=fun r hr=>by obtain ⟨x,_,rfl⟩:=Zt.1 hr;exact bM rfl gq
theorem qS (l:List ByteArray):aL l=(im l).flatten:=by
 induction l with
 | nil=>rfl
 | cons x l ih=>show [Value.string x]++aL l=_;rw [ih];rfl
theorem c7 (l:List ByteArray):(aL l).length=l.length:=by simp [aL]
theorem eU (a b:List ByteArray):aL (a++b)=aL a++aL b:=by simp [aL]
theorem dM {c:Cx} {hs hs':List bd} {w:World} {l:List ByteArray} {E:TypeId} {v:Value} {n:Nat} (hm:Mem c hs w) (ht:Take hs (row E 1 v n (aL l)) hs') (hn:l.length=n):Rd w v 1 (im l):=hm.om ht (qS l) (HB l) (by rw [bW,hn])
structure RR (w:World) (r:Ro) (s d t p:Value):Prop where
 sr:Rd w s 2 (uL r.sr)
 de:Rd w d 3 (uy r.de)
 ti:Rd w t 3 (tX r.ti)
 po:Rd w p 3 (td r.po)
theorem RR.keeps {w w':World} {r:Ro} {s d t p:Value} (h:RR w r s d t p) (hk:aJ [] w w'):RR w' r s d t p:=⟨h.sr.keeps hk,h.de.keeps hk,h.ti.keeps hk,h.po.keeps hk⟩
def RA (r:Ro) (s d t p:Value):Value:=.agg #[.int .i64 r.lv,.int .i64 r.ma,s,d,t,p]
abbrev JQ (b:Nat) (r:Ro) (s d t p:Value):bd:=bH b (.cells #[.int .i64 r.lv,.int .i64 r.ma,s,d,t,p] 27 (0,0))
abbrev JP (b:Nat) (r:Ro) (s d t p:Value):bd:=bH b (.cells #[.int .i64 r.lv,.int .i64 r.ma,s,d,t,p] 41 (0,0))
abbrev J1 (r:Ro) (v:Value):bd:=row 186 2 v r.sr.length (nZ r.sr)
abbrev J2 (r:Ro) (v:Value):bd:=row 90 3 v r.de.length (iZ r.de)
abbrev J3 (r:Ro) (v:Value):bd:=row 187 3 v r.ti.length (pV r.ti)
abbrev J4 (r:Ro) (v:Value):bd:=row 188 3 v r.po.length (fO r.po)
abbrev JW (v:Value) (l:List ByteArray):bd:=row 9 1 v l.length (aL l)
end Go.Proofs.A1
namespace Go.SL
open Go
def Lj (As:List bd):bd where
 sat h fp:=ct h As fp
 loc:=fun hs hb=>hs.loc hb
 own:=fun hs b hb=>hs.own b hb
def gj (E:TypeId):List Value→List (List Value)→List bd
 | v::vs,x::xs=>row E 1 v x.length x::gj E vs xs
 | _,_=>[]
def mB (E:TypeId) (vs:List Value) (xs:List (List Value)):bd:=Lj (gj E vs xs)
theorem yl {E:TypeId} {v:Value} {x:List Value}:∀ {vs:List Value} {xs:List (List Value)} {j:Nat},vs[j]? = some v→xs[j]? = some x→∃ r,Take (gj E vs xs) (row E 1 v x.length x) r
 | [],_,j,h,_=>by simp at h
 | _::_,[],j,_,h=>by simp at h
 | v' :: vs, x' :: xs, 0, h1, h2 => by
  simp only [Zay,Option.some.injEq] at h1 h2
  subst h1 h2
  exact ⟨_,.here⟩
 | v' :: vs, x' :: xs, j + 1, h1, h2 => by
  simp only [ZaX] at h1 h2
  obtain ⟨r,hr⟩:=yl h1 h2
  exact ⟨_,.there hr⟩
theorem ym {E:TypeId} {v:Value} {x:List Value}:∀ {vs:List Value} {xs:List (List Value)},vs.length=xs.length→gj E (vs++[v]) (xs++[x])=gj E vs xs++[row E 1 v x.length x]
 | [],[],_=>rfl
 | [],_::_,h=>by simp at h
 | _::_,[],h=>by simp at h
 | v' :: vs, x' :: xs, h => by
  simp only [ZL,Nat.add_right_cancel_iff] at h
  simp only [Zb,gj,ym h]
theorem Mem.Dt {c:Cx} {hs hs':List bd} {w:World} {E:TypeId} {vs:List Value} {xs:List (List Value)} {j:Nat} {v:Value} {x:List Value} (hm:Mem c hs w) (ht:Take hs (mB E vs xs) hs') (hv:vs[j]? = some v) (hx:xs[j]? = some x):Rd w v 1 (x.map fun u=>[u]):=by
 obtain ⟨k,fp,hn,⟨f1,f2,rfl,h1,h2⟩,hb⟩:=hm.take ht
 have ml:Mem c (gj E vs xs++hs') w:=⟨k,f1++f2,hn,ct.append_iff.2 ⟨f1,f2,rfl,h1,h2⟩,hb⟩
 obtain ⟨r,hr⟩:=yl (E:=E) hv hx
 exact ml.P9 (hr.append hs') rfl
section
variable {P:Program} {r:Option Nat} {c:Cx} {D:List Nat} {sl:aH} {hs hs':List bd} {X:Act→World→Prop} {Q:Exit→Act→World→Prop} {ι:Type}
variable {ops:Array Oper} {d:Nat} {ty:TypeId} {pos:String} {af:Array Edge} {rest:List Oper}
theorem k8 {E:TypeId} {vs:List Value} {xs:List (List Value)} {v:Value} {x:List Value} {n:Nat} {h1 h2:List bd} (ht:Take hs (mB E vs xs) h1) (ht2:Take h1 (row E 1 v n x) h2) (hn:n=x.length) (hl:vs.length=xs.length)
  (k:Tr c D sl (mB E (vs++[v]) (xs++[x])::h2) X):Tr c D sl hs X:=fun a w bh=>by
 subst hn
 have hT:bD hs [mB E vs xs,row E 1 v x.length x] h2:=.cons ht (.cons ht2 .nil)
 have hm:=bh.mem.jo (hT.append (mE D))
 obtain ⟨kk,fp,uo,⟨f1,f2',rfl,g1,⟨f2,f3,rfl,g2,g3⟩⟩,hb⟩:=hm
 refine k a w (bh.heap ⟨kk,(f1++f2)++f3,by rw [Zh];exact uo,⟨f1++f2,f3,rfl,?_,g3⟩,by rw [Zh];exact hb⟩)
 show ct (hp w) (gj E (vs++[v]) (xs++[x])) (f1++f2)
 rw [ym hl]
 exact ct.append_iff.2 ⟨f1,f2,rfl,g1,⟨f2,[],by simp,g2,rfl⟩⟩
theorem jP (E:TypeId) (k:Tr c D sl (mB E [] []::hs) X):Tr c D sl hs X:=fun a w bh=>
 k a w (bh.heap (Mem.change (As := []) (Bs := [mB E [] []]) bh.mem fun fp _ hf => by
  rw [show fp=[] from hf]
  exact ⟨.refl _ _,[],Zaj,⟨[],[],rfl,rfl,rfl⟩,by simp⟩))
theorem xI {As:List bd} (ht:Take hs (Lj As) hs') (k:Tr c D sl (As++hs') X):Tr c D sl hs X:=fun a w bh=>by
 obtain ⟨kk,fp,hn,⟨f1,f2,rfl,h1,h2⟩,hb⟩:=bh.mem.take (ht.append _)
 exact k a w (bh.heap ⟨kk,f1++f2,hn,by rw [Zh];exact ct.append_iff.2 ⟨f1,f2,rfl,h1,h2⟩,hb⟩)
theorem rS {As:List bd} (ht:bD hs As hs') (k:Tr c D sl (Lj As::hs') X):Tr c D sl hs X:=fun a w bh=>by
 obtain ⟨kk,fp,hn,iz,hb⟩:=bh.mem.jo (ht.append (mE D))
 obtain ⟨f1,f2,rfl,h1,h2⟩:=ct.append_iff.1 iz
 exact k a w (bh.heap ⟨kk,f1++f2,hn,⟨f1,f2,rfl,h1,h2⟩,hb⟩)
theorem fP {op:Op} {f:FuncId} {args:List Value} {As:List bd} {Φ:ι→Prop} {val:ι→Value} {own:ι→List bd} (hr:lJ P sl ⟨some d,op,ty,pos,af,none⟩ f args) (hd:Nat.blt d c.nt=true) (ht:bD hs As hs')
  (hc:∀ w fp,Mem c hs w→fp.Nodup→ct (hp w) As fp→(∀ b∈fp,b∈c.md∨c.w0.heap.size≤b)→(∀ b o h2,Take hs' (bH b o) h2→b ∉ fp)→bu P f args w fp Φ val own)
  (k:∀ x,Φ x→Tr c D ((d,val x)::sl) (own x++hs') (WL P r ops Q rest)):Tr c D sl hs (WL P r ops Q (⟨some d,op,ty,pos,af,none⟩::rest)):=fun a w bh=>by
 have hm:=bh.mem.jo (ht.append (mE D))
 obtain ⟨kk,fp,hn,iz,hb⟩:=hm
 obtain ⟨f1,f2,rfl,h1,h2⟩:=ct.append_iff.1 iz
 obtain ⟨n1,n2,n12⟩:=ZH.1 hn
 have kQ:∀ b o h3,Take hs' (bH b o) h3→b ∉ f1:=fun b o h3 htk NC=>by
  obtain ⟨g1,g2,⟨e1,_⟩,_,hp⟩:=ct.take (htk.append (mE D)) h2
  have:b∈f2:=hp.mem_iff.2 (ZE _ (by rw [e1];simp))
  exact n12 b NC b this rfl
 refine yW rfl hr bh.c5 (hc w f1 bh.rn n1 h1 (fun b dz=>(hb b (ZE _ dz)).symm) kQ) fun e w' ⟨x,he,hx,hk,lH,uo,hs',yC⟩=>⟨val x,he,k x hx _ _ ((bh.put (by simpa [Z2] using hd) (val x)).heap ?_)⟩
 have aM:∀ b∈f2,b<w.heap.size:=fun b dz=>let ⟨o,ho⟩:=h2.own b dz;j8 ho
 rw [Zh]
 refine ⟨?_,lH++f2,?_,ct.append_iff.2 ⟨lH,f2,rfl,hs',h2.loc fun b dz=>?_⟩,?_⟩
 ·refine ⟨hk.os.trans kk.os,hk.tape.trans kk.tape,hk.output.trans kk.output,ZX kk.dr hk.dr,ZX kk.size hk.size,fun b dz hm=>?_⟩
  rw [← kk.block b dz hm]
  refine hk.block b (ZaI dz kk.size) (fun hf=>?_)
  rcases hb b (ZE _ hf) with h | h
  ·omega
  ·exact hm h
 ·refine ZH.2 ⟨uo,n2,fun x hx y hy e=>?_⟩
  subst e
  rcases yC x hx with h | h
  ·exact n12 x h x hy rfl
  ·have:=aM x hy;omega
 ·exact hk.block b (aM b dz) (fun hf=>n12 b hf b dz rfl)
 ·intro b dz
  rcases Zx.1 dz with h | h
  ·rcases yC b h with h | h
   ·exact hb b (ZE _ h)
   ·exact .inl (ZX kk.size h)
  ·exact hb b (ZT _ h)
end
end Go.SL
namespace Go.Proofs.A1
open Go Go.SL
def fT {α:Type} (p:α→Bool) (l:List α):Int:=((List.range l.length).find? fun i=>(l[i]?.map p).getD false).elim (-1) (fun i=>(i:Int))
theorem gy {α:Type} {p:α→Bool} {l:List α} {k:Nat} (h:∀ i,i<k→(l[i]?.map p).getD false=false) (hk:k<l.length) (hp:p l[k]=true):fT p l=k:=by
 unfold fT
 have:(List.range l.length).find? (fun i=>(l[i]?.map p).getD false)=some k:=by
  rw [List.find?_range_eq_some]
  exact ⟨by simp [hk,hp],by simpa using hk,fun i hi=>by simpa using h i hi⟩
 rw [this];rfl
theorem fA {α:Type} {p:α→Bool} {l:List α} (h:∀ i,i<l.length→(l[i]?.map p).getD false=false):fT p l = -1:=by
 unfold fT
 have:(List.range l.length).find? (fun i=>(l[i]?.map p).getD false)=none:=by
  rw [ZaJ]
  intro i hi
  simp [h i (ZQ.1 hi)]
 rw [this];rfl
theorem je {α:Type} (p:α→Bool) (l:List α):decide (0≤fT p l)=l.any p:=by
 unfold fT
 cases h:(List.range l.length).find? fun i=>(l[i]?.map p).getD false with
 | none =>
  have:l.any p=false:=by
   rw [Z9]
   intro x hx
   obtain ⟨i,hi,rfl⟩:=Zu hx
   have:=ZaJ.1 h i (ZQ.2 hi)
   simpa [hi] using this
  rw [this];rfl
 | some i =>
  have h1:=ZQ.1 (ZaR h)
  have h2:=List.find?_some h
  have:l.any p=true:=by
   rw [ZM]
   exact ⟨l[i],Zj h1,by simpa [h1] using h2⟩
  rw [this];simp
theorem Fb {lv:Value} {l:List Sr} {p:Sr→Bool} {f:FuncId} {first cap:List Value} [bR Tryz.prog f] {w:World} (h:Rd w lv 2 (uL l)) (cz:∀ x∈l,∀ w',aJ [] w w'→aj Tryz.prog f (first++[.agg x.cells.toArray]++cap) w' (.bool (p x))) :
  aj Tryz.prog 263 [lv,.func (.func f) first.toArray cap.toArray] w (.int .i64 (fT p l)):=by
 obtain ⟨a,cp,b,o,rfl,dj,bV,ha,hc⟩:=h
 rw [cO] at *
 unfold maxLen at bV
 refine ah Tryz.func263 rfl rfl ?_
 refine Jr<|Ja rfl<|Jn<|Jq<|Jr<|Jv rfl<|JI rfl<|Jv rfl<|Jn<|J0 ?_
 refine aW (fun k:Nat=>k≤l.length∧∀ i,i<k→(l[i]?.map p).getD false=false) (fun k=>[(8,.int .i64 k),(7,.int .i64 l.length),(0,.slice a l.length cp),(1,.func (.func f) first.toArray cap.toArray)]) (fun _=>[]) (fun k=>l.length-k) ?_ ?_
 ·apply aI 0 ⟨Zi _,fun i h=>by omega⟩
  case hs1=>exact cg
  case ht=>(try simp only [Ze,Zf,Za]);exact .nil
 rintro k ⟨hk,hf⟩
 by_cases aM:k<l.length
 ·have cG:=ha (iM aM)
  have aB:=(hc k _ (fN aM)).2
  have iT:=cz _ (Zj aM)
  have hps:(l[k]?.map p).getD false=p l[k]:=by simp [aM]
  unfold Sr.cells at aB iT
  (refine Jr<|JA rfl<|Jn<|Jq<|Jd rfl fun az=>Jk<|Jq<|J0<|Jr<|Jv rfl<|Ja rfl<|Ji<|Jv rfl<|Jv rfl<|Jv rfl<|ab (fM cG az) rfl<|ab (gW (ew.base aB rfl)) rfl<|ai bN rfl (fun w' aA=>(iT w' (Mem.keeps aA)))<|Jn<|pt rfl (fun az=>?_) fun az=>?_;refine Jr<|Jv rfl<|Ja rfl<|Jn<|Je<|Jm<|Jh<|Jh<|Jm<|Jh<|JT ?_;rotate_left;refine Jw<|Jj<|Jt<|Jg<|JB rfl (by omega)<|Jv rfl<|Jn ?_;rotate_right)
  ·rw [gy hf aM az]
  ·apply aK (k+1) ⟨by omega,fun i hi=>by
    by_cases e:i=k
    ·rw [e,hps];exact az
    ·exact hf i (by omega)⟩ (by omega)
   case hs1=>exact cg
   case ht=>(try simp only [Ze,Zf,Za]);exact .nil
 ·obtain rfl:k=l.length:=by omega
  refine Jr<|JA rfl<|Jn<|Jq<|Jc rfl fun az=>Jp<|Jl<|Jo<|Jt<|Jr<|Ja rfl<|Jn<|Je<|JT ?_
  rw [fA hf]
theorem NG {lv:Value} {l:List Sr} {p:Sr→Bool} {f:FuncId} {first cap:List Value} [bR Tryz.prog f] {w:World} (h:Rd w lv 2 (uL l)) (cz:∀ x∈l,∀ w',aJ [] w w'→aj Tryz.prog f (first++[.agg x.cells.toArray]++cap) w' (.bool (p x))) :
  aj Tryz.prog 227 [lv,.func (.func f) first.toArray cap.toArray] w (.bool (l.any p)):=by
 have iT:∀ w',aJ [] w w'→aj Tryz.prog 263 [lv,.func (.func f) first.toArray cap.toArray] w' (.int .i64 (fT p l)):=fun w' hk=>
  Fb (h.keeps hk) fun x hx w2 eF=>cz x hx w2 (hk.trans eF)
 rw [← je]
 refine ah Tryz.func227 rfl rfl ?_
 (refine Jr<|Ja rfl<|Ji<|Jv rfl<|Jv rfl<|ai bj rfl (fun w' aA=>(iT w' (Mem.keeps aA)))<|JG rfl<|Ja rfl<|Jn<|Je<|JT ?_)
 rfl
theorem Nl {lv:Value} {l:List De} {p:De→Bool} {f:FuncId} {first cap:List Value} [bR Tryz.prog f] {w:World} (h:Rd w lv 3 (uy l)) (cz:∀ x∈l,∀ w',aJ [] w w'→aj Tryz.prog f (first++[.agg x.cells.toArray]++cap) w' (.bool (p x))) :
  aj Tryz.prog 242 [lv,.func (.func f) first.toArray cap.toArray] w (.int .i64 (fT p l)):=by
 obtain ⟨a,cp,b,o,rfl,dj,bV,ha,hc⟩:=h
 rw [cn] at *
 unfold maxLen at bV
 refine ah Tryz.func242 rfl rfl ?_
 refine Jr<|Ja rfl<|Jn<|Jq<|Jr<|Jv rfl<|JI rfl<|Jv rfl<|Jn<|J0 ?_
 refine aW (fun k:Nat=>k≤l.length∧∀ i,i<k→(l[i]?.map p).getD false=false) (fun k=>[(8,.int .i64 k),(7,.int .i64 l.length),(0,.slice a l.length cp),(1,.func (.func f) first.toArray cap.toArray)]) (fun _=>[]) (fun k=>l.length-k) ?_ ?_
 ·apply aI 0 ⟨Zi _,fun i h=>by omega⟩
  case hs1=>exact cg
  case ht=>(try simp only [Ze,Zf,Za]);exact .nil
 rintro k ⟨hk,hf⟩
 by_cases aM:k<l.length
 ·have cG:=ha (fW aM)
  have aB:=(hc k _ (eR aM)).2
  have iT:=cz _ (Zj aM)
  have hps:(l[k]?.map p).getD false=p l[k]:=by simp [aM]
  unfold De.cells at aB iT
  (refine Jr<|JA rfl<|Jn<|Jq<|Jd rfl fun az=>Jk<|Jq<|J0<|Jr<|Jv rfl<|Ja rfl<|Ji<|Jv rfl<|Jv rfl<|Jv rfl<|ab (fM cG az) rfl<|ab (gW (ew.base aB rfl)) rfl<|ai bN rfl (fun w' aA=>(iT w' (Mem.keeps aA)))<|Jn<|pt rfl (fun az=>?_) fun az=>?_;refine Jr<|Jv rfl<|Ja rfl<|Jn<|Je<|Jm<|Jh<|Jh<|Jm<|Jh<|JT ?_;rotate_left;refine Jw<|Jj<|Jt<|Jg<|JB rfl (by omega)<|Jv rfl<|Jn ?_;rotate_right)
  ·rw [gy hf aM az]
  ·apply aK (k+1) ⟨by omega,fun i hi=>by
    by_cases e:i=k
    ·rw [e,hps];exact az
    ·exact hf i (by omega)⟩ (by omega)
   case hs1=>exact cg
   case ht=>(try simp only [Ze,Zf,Za]);exact .nil
 ·obtain rfl:k=l.length:=by omega
  refine Jr<|JA rfl<|Jn<|Jq<|Jc rfl fun az=>Jp<|Jl<|Jo<|Jt<|Jr<|Ja rfl<|Jn<|Je<|JT ?_
  rw [fA hf]
theorem Nj {lv:Value} {l:List Ti} {p:Ti→Bool} {f:FuncId} {first cap:List Value} [bR Tryz.prog f] {w:World} (h:Rd w lv 3 (tX l)) (cz:∀ x∈l,∀ w',aJ [] w w'→aj Tryz.prog f (first++[.agg x.cells.toArray]++cap) w' (.bool (p x))) :
  aj Tryz.prog 246 [lv,.func (.func f) first.toArray cap.toArray] w (.int .i64 (fT p l)):=by
 obtain ⟨a,cp,b,o,rfl,dj,bV,ha,hc⟩:=h
 rw [cd] at *
 unfold maxLen at bV
 refine ah Tryz.func246 rfl rfl ?_
 refine Jr<|Ja rfl<|Jn<|Jq<|Jr<|Jv rfl<|JI rfl<|Jv rfl<|Jn<|J0 ?_
 refine aW (fun k:Nat=>k≤l.length∧∀ i,i<k→(l[i]?.map p).getD false=false) (fun k=>[(8,.int .i64 k),(7,.int .i64 l.length),(0,.slice a l.length cp),(1,.func (.func f) first.toArray cap.toArray)]) (fun _=>[]) (fun k=>l.length-k) ?_ ?_
 ·apply aI 0 ⟨Zi _,fun i h=>by omega⟩
  case hs1=>exact cg
  case ht=>(try simp only [Ze,Zf,Za]);exact .nil
 rintro k ⟨hk,hf⟩
 by_cases aM:k<l.length
 ·have cG:=ha (fw aM)
  have aB:=(hc k _ (eE aM)).2
  have iT:=cz _ (Zj aM)
  have hps:(l[k]?.map p).getD false=p l[k]:=by simp [aM]
  unfold Ti.cells at aB iT
  (refine Jr<|JA rfl<|Jn<|Jq<|Jd rfl fun az=>Jk<|Jq<|J0<|Jr<|Jv rfl<|Ja rfl<|Ji<|Jv rfl<|Jv rfl<|Jv rfl<|ab (fM cG az) rfl<|ab (gW (ew.base aB rfl)) rfl<|ai bN rfl (fun w' aA=>(iT w' (Mem.keeps aA)))<|Jn<|pt rfl (fun az=>?_) fun az=>?_;refine Jr<|Jv rfl<|Ja rfl<|Jn<|Je<|Jm<|Jh<|Jh<|Jm<|Jh<|JT ?_;rotate_left;refine Jw<|Jj<|Jt<|Jg<|JB rfl (by omega)<|Jv rfl<|Jn ?_;rotate_right)
  ·rw [gy hf aM az]
  ·apply aK (k+1) ⟨by omega,fun i hi=>by
    by_cases e:i=k
    ·rw [e,hps];exact az
    ·exact hf i (by omega)⟩ (by omega)
   case hs1=>exact cg
   case ht=>(try simp only [Ze,Zf,Za]);exact .nil
 ·obtain rfl:k=l.length:=by omega
  refine Jr<|JA rfl<|Jn<|Jq<|Jc rfl fun az=>Jp<|Jl<|Jo<|Jt<|Jr<|Ja rfl<|Jn<|Je<|JT ?_
  rw [fA hf]
theorem Ae {lv:Value} {l:List Ti} {p:Ti→Bool} {f:FuncId} {first cap:List Value} [bR Tryz.prog f] {w:World} (h:Rd w lv 3 (tX l)) (cz:∀ x∈l,∀ w',aJ [] w w'→aj Tryz.prog f (first++[.agg x.cells.toArray]++cap) w' (.bool (p x))) :
  aj Tryz.prog 159 [lv,.func (.func f) first.toArray cap.toArray] w (.bool (l.any p)):=by
 have iT:∀ w',aJ [] w w'→aj Tryz.prog 246 [lv,.func (.func f) first.toArray cap.toArray] w' (.int .i64 (fT p l)):=fun w' hk=>
  Nj (h.keeps hk) fun x hx w2 eF=>cz x hx w2 (hk.trans eF)
 rw [← je]
 refine ah Tryz.func159 rfl rfl ?_
 (refine Jr<|Ja rfl<|Ji<|Jv rfl<|Jv rfl<|ai bj rfl (fun w' aA=>(iT w' (Mem.keeps aA)))<|JG rfl<|Ja rfl<|Jn<|Je<|JT ?_)
 rfl
theorem zY {lv:Value} {l:List Po} {p:Po→Bool} {f:FuncId} {first cap:List Value} [bR Tryz.prog f] {w:World} (h:Rd w lv 3 (td l)) (cz:∀ x∈l,∀ w',aJ [] w w'→aj Tryz.prog f (first++[.agg x.cells.toArray]++cap) w' (.bool (p x))) :
  aj Tryz.prog 297 [lv,.func (.func f) first.toArray cap.toArray] w (.int .i64 (fT p l)):=by
 obtain ⟨a,cp,b,o,rfl,dj,bV,ha,hc⟩:=h
 rw [c6] at *
 unfold maxLen at bV
 refine ah Tryz.func297 rfl rfl ?_
 refine Jr<|Ja rfl<|Jn<|Jq<|Jr<|Jv rfl<|JI rfl<|Jv rfl<|Jn<|J0 ?_
 refine aW (fun k:Nat=>k≤l.length∧∀ i,i<k→(l[i]?.map p).getD false=false) (fun k=>[(8,.int .i64 k),(7,.int .i64 l.length),(0,.slice a l.length cp),(1,.func (.func f) first.toArray cap.toArray)]) (fun _=>[]) (fun k=>l.length-k) ?_ ?_
 ·apply aI 0 ⟨Zi _,fun i h=>by omega⟩
  case hs1=>exact cg
  case ht=>(try simp only [Ze,Zf,Za]);exact .nil
 rintro k ⟨hk,hf⟩
 by_cases aM:k<l.length
 ·have cG:=ha (ko aM)
  have aB:=(hc k _ (iy aM)).2
  have iT:=cz _ (Zj aM)
  have hps:(l[k]?.map p).getD false=p l[k]:=by simp [aM]
  unfold Po.cells at aB iT
  (refine Jr<|JA rfl<|Jn<|Jq<|Jd rfl fun az=>Jk<|Jq<|J0<|Jr<|Jv rfl<|Ja rfl<|Ji<|Jv rfl<|Jv rfl<|Jv rfl<|ab (fM cG az) rfl<|ab (gW (ew.base aB rfl)) rfl<|ai bN rfl (fun w' aA=>(iT w' (Mem.keeps aA)))<|Jn<|pt rfl (fun az=>?_) fun az=>?_;refine Jr<|Jv rfl<|Ja rfl<|Jn<|Je<|Jm<|Jh<|Jh<|Jm<|Jh<|JT ?_;rotate_left;refine Jw<|Jj<|Jt<|Jg<|JB rfl (by omega)<|Jv rfl<|Jn ?_;rotate_right)
  ·rw [gy hf aM az]
  ·apply aK (k+1) ⟨by omega,fun i hi=>by
    by_cases e:i=k
    ·rw [e,hps];exact az
    ·exact hf i (by omega)⟩ (by omega)
   case hs1=>exact cg
   case ht=>(try simp only [Ze,Zf,Za]);exact .nil
 ·obtain rfl:k=l.length:=by omega
  refine Jr<|JA rfl<|Jn<|Jq<|Jc rfl fun az=>Jp<|Jl<|Jo<|Jt<|Jr<|Ja rfl<|Jn<|Je<|JT ?_
  rw [fA hf]
theorem NH {lv:Value} {l:List Po} {p:Po→Bool} {f:FuncId} {first cap:List Value} [bR Tryz.prog f] {w:World} (h:Rd w lv 3 (td l)) (cz:∀ x∈l,∀ w',aJ [] w w'→aj Tryz.prog f (first++[.agg x.cells.toArray]++cap) w' (.bool (p x))) :
  aj Tryz.prog 301 [lv,.func (.func f) first.toArray cap.toArray] w (.bool (l.any p)):=by
 have iT:∀ w',aJ [] w w'→aj Tryz.prog 297 [lv,.func (.func f) first.toArray cap.toArray] w' (.int .i64 (fT p l)):=fun w' hk=>
  zY (h.keeps hk) fun x hx w2 eF=>cz x hx w2 (hk.trans eF)
 rw [← je]
 refine ah Tryz.func301 rfl rfl ?_
 (refine Jr<|Ja rfl<|Ji<|Jv rfl<|Jv rfl<|ai bj rfl (fun w' aA=>(iT w' (Mem.keeps aA)))<|JG rfl<|Ja rfl<|Jn<|Je<|JT ?_)
 rfl
end Go.Proofs.A1
