/- Parts of the proof: GkRegO GkCopy GkZ K2 K3 KZz GkPool K4. -/
import Derived.Test.YteonnodafmegaaaGreatDoorAM03
import Derived.Lib.AppendZerosOnto
import Derived.Test.YteonnodafmegaaaGreatDoorAM01
import Derived.Laws.RangeAny
import Derived.Laws.RangeString
import Derived.Test.YteonnodafmegaaaGreatDoorAM02
set_option linter.unusedSectionVars false
set_option linter.unusedVariables false
set_option linter.unusedSimpArgs false
namespace Go.SL
open Go
inductive Step where
 | rel (R:Rel)
 | new (V:Nat→Value) (ob:Obj)
def Step.r:Step→Rel
 | .rel R=>R
 | .new V ob=>Cy V ob
section
variable {P:Program} {r:Option Nat} {c:Cx} {D:List Nat} {sl iU:aG} {rl j6:eB} {hs:List ba} {Q:Exit→Act→World→Prop} {l:List Oper} {ops:Array Oper} {m:Nat} {S:List Step}
inductive mg (P:Program) (c:Cx) (hs:List ba) (ops:Array Oper):List Oper→aG→eB→List Step→aG→eB→Prop
 | nil {sl:aG} {rl:eB}:mg P c hs ops [] sl rl [] sl rl
 | val {o:Oper} {l:List Oper} {sl iU:aG} {rl j6:eB} {d:Nat} {V:Value} {S:List Step} (hd:o.dst=some d) (fy:d<c.nt) (h:sG P c hs ops sl rl o (.val V)) (t:mg P c hs ops l ((d,V)::sl) rl S iU j6) :
   mg P c hs ops (o::l) sl rl (.rel (.val V)::S) iU j6
 | new {o:Oper} {l:List Oper} {sl iU:aG} {rl j6:eB} {d:Nat} {V:Nat→Value} {ob:Obj} {S:List Step} (hd:o.dst=some d) (fy:d<c.nt) (hn:cI sl d=none) (hg:o.guard=none)
   (hr:qe P c sl hs o V ob) (t:mg P c hs ops l sl ((d,Cy V ob)::rl) S iU j6):mg P c hs ops (o::l) sl rl (.new V ob::S) iU j6
theorem mg.Rs {sl iU:aG} {rl j6:eB} (h:mg P c hs ops l sl rl S iU j6):rU P c hs ops l sl rl (S.map Step.r) iU j6:=by
 induction h with
 | nil=>exact .nil
 | val hd fy h _ ih=>exact .val hd fy h ih
 | @new o l sl iU rl j6 d V ob S hd fy hn hg hr _ ih =>
  refine .rel hd fy hn (ns hg fun a w h1 _ h3=>?_) ih
  unfold we
  rw [hr.2 a w h1 h3]
  exact ⟨.alloc _ _ _,w.heap.size,rfl,World.alloc_heap_new w ob⟩
theorem mg.Qq {sl iU:aG} {rl j6:eB} (h:mg P c hs ops l sl rl S iU j6) :
  ∀ (i : Nat) (o : Oper) (V : Nat → Value) (ob : Obj), l[i]? = some o → S[i]? = some (.new V ob) → ∃ tg, o.guard = none ∧ qe P c tg hs o V ob ∧
   (∀ t v,cI tg t=some v→(∃ (j:Nat) (oj:Oper),j<i∧l[j]? = some oj∧oj.dst=some t∧(S.map Step.r)[j]? = some (.val v))∨((∀ (j:Nat) (oj:Oper),j<i→l[j]? = some oj→oj.dst≠some t)∧cI sl t=some v)):=by
 induction h with
 | nil=>intro i o V ob h;simp at h
 | @val o0 l sl iU rl j6 d V0 S hd fy a7 t ih =>
  intro i o V ob ho hS
  cases i with
  | zero=>simp at hS
  | succ i =>
   obtain ⟨tg,hg,hr,h1⟩:=ih i o V ob (by simpa using ho) (by simpa using hS)
   refine ⟨tg,hg,hr,fun t v hv=>?_⟩
   rcases h1 t v hv with ⟨j,oj,hj,iw,ig,jo⟩ | ⟨uN,ml⟩
   ·exact .inl ⟨j+1,oj,by omega,by simpa using iw,ig,by simpa using jo⟩
   ·by_cases vV:d=t
    ·subst vV
     rw [fu] at ml
     cases ml
     exact .inl ⟨0,o0,by omega,rfl,hd,rfl⟩
    ·rw [fq vV] at ml
     refine .inr ⟨fun j oj hj iw=>?_,ml⟩
     cases j with
     | zero=>simp at iw;subst iw;rw [hd];simp [vV]
     | succ j=>exact uN j oj (by omega) (by simpa using iw)
 | @new o0 l sl iU rl j6 d V0 YL S hd fy hn hg0 TV t ih =>
  intro i o V ob ho hS
  cases i with
  | zero =>
   simp at ho hS
   subst ho
   obtain ⟨rfl,rfl⟩:=hS
   exact ⟨sl,hg0,TV,fun t v hv=>.inr ⟨fun j _ hj=>by omega,hv⟩⟩
  | succ i =>
   obtain ⟨tg,hg,hr,h1⟩:=ih i o V ob (by simpa using ho) (by simpa using hS)
   refine ⟨tg,hg,hr,fun t v hv=>?_⟩
   rcases h1 t v hv with ⟨j,oj,hj,iw,ig,jo⟩ | ⟨uN,ml⟩
   ·exact .inl ⟨j+1,oj,by omega,by simpa using iw,ig,by simpa using jo⟩
   ·have vV:d≠t:=fun e=>by subst e;rw [hn] at ml;cases ml
    refine .inr ⟨fun j oj hj iw=>?_,ml⟩
    cases j with
    | zero=>simp at iw;subst iw;rw [hd];simp [vV]
    | succ j=>exact uN j oj (by omega) (by simpa using iw)
def qi (β:Nat→Nat) (lst:Nat→Bool):List Step→Nat→List ba
 | [],_=>[]
 | .new _ ob::S,i=>if lst i then bD (β i) ob::qi β lst S (i+1) else qi β lst S (i+1)
 | .rel _::S,i=>qi β lst S (i+1)
theorem om {β β':Nat→Nat} {lst mF:Nat→Bool}:∀ {S:List Step} {i:Nat},(∀ j V ob,S[j]? = some (.new V ob)→lst (i+j)=mF (i+j)∧(lst (i+j)=true→β (i+j)=β' (i+j)))→qi β lst S i=qi β' mF S i
 | [],_,_=>rfl
 | .rel _ :: S, i, h => by
  unfold qi
  exact om fun j V ob hj=>by have:=h (j+1) V ob (by simpa using hj);rwa [show i+(j+1)=i+1+j from by omega] at this
 | .new V ob :: S, i, h => by
  have h0:=h 0 V ob rfl
  have ih:qi β lst S (i+1)=qi β' mF S (i+1):=om fun j V ob hj=>by have:=h (j+1) V ob (by simpa using hj);rwa [show i+(j+1)=i+1+j from by omega] at this
  simp only [Nat.add_zero] at h0
  unfold qi
  rw [ih,← h0.1]
  by_cases hl:lst i=true
  ·rw [if_pos hl,if_pos hl,h0.2 hl]
  ·rw [if_neg hl,if_neg hl]
theorem zQ {β β':Nat→Nat} {lst mF:Nat→Bool} {k b:Nat} {V:Nat→Value} {ob:Obj}:∀ {S:List Step} {i:Nat},S[k]? = some (.new V ob)→lst (i+k)=false→mF (i+k)=true→β' (i+k)=b→(∀ j,j≠i+k→mF j=lst j∧β' j=β j) →
  (bD b ob::qi β lst S i).Perm (qi β' mF S i)
 | [],_,h,_,_,_,_=>by simp at h
 | .rel _ :: S, i, h, h1, h2, h3, h4 => by
  cases k with
  | zero=>simp at h
  | succ k =>
   unfold qi
   refine zQ (k:=k) (V:=V) (by simpa using h) ?_ ?_ ?_ ?_
   all_goals rw [show i+1+k=i+(k+1) from by omega];assumption
 | .new V0 YL :: S, i, h, h1, h2, h3, h4 => by
  cases k with
  | zero =>
   simp at h
   obtain ⟨rfl,rfl⟩:=h
   have e:qi β lst S (i+1)=qi β' mF S (i+1):=om fun j V ob hj=>by
    obtain ⟨e1,e2⟩:=h4 (i+1+j) (by omega)
    exact ⟨e1.symm,fun _=>e2.symm⟩
   simp only [Nat.add_zero] at h1 h2 h3
   unfold qi
   rw [if_neg (by simp [h1]),if_pos h2,h3,e]
  | succ k =>
   have ih:(bD b ob::qi β lst S (i+1)).Perm (qi β' mF S (i+1)):=by
    refine zQ (k:=k) (V:=V) (by simpa using h) ?_ ?_ ?_ ?_
    all_goals rw [show i+1+k=i+(k+1) from by omega];assumption
   obtain ⟨e1,e2⟩:=h4 i (by omega)
   unfold qi
   rw [e1,e2]
   by_cases hl:lst i=true
   ·rw [if_pos hl,if_pos hl]
    exact (List.Perm.swap _ _ _).trans (ih.cons _)
   ·rw [if_neg hl,if_neg hl];exact ih
theorem bY.perm {h:Nat→Option Obj} {l1 l2:List ba} (hp:l1.Perm l2):∀ {fp:List Nat},bY h l1 fp→∃ kX,bY h l2 kX∧fp.Perm kX:=by
 induction hp with
 | nil=>intro fp hf;exact ⟨fp,hf,.refl _⟩
 | cons A _ ih =>
  rintro fp ⟨f1,f2,rfl,h1,h2⟩
  obtain ⟨g,hg,TW⟩:=ih h2
  exact ⟨f1++g,⟨f1,g,rfl,h1,hg⟩,TW.append_left f1⟩
 | swap A B l =>
  rintro fp ⟨f1,_,rfl,h1,f2,f3,rfl,h2,h3⟩
  refine ⟨f2++(f1++f3),⟨f2,f1++f3,rfl,h2,f1,f3,rfl,h1,h3⟩,?_⟩
  rw [← List.append_assoc,← List.append_assoc]
  exact List.perm_append_comm.append_right f3
 | trans _ _ ih1 ih2 =>
  intro fp hf
  obtain ⟨g,hg,h1⟩:=ih1 hf
  obtain ⟨g',hg',h2⟩:=ih2 hg
  exact ⟨g',hg',h1.trans h2⟩
theorem Mem.perm {c:Cx} {l1 l2:List ba} {w:World} (h:Mem c l1 w) (hp:l1.Perm l2):Mem c l2 w:=by
 obtain ⟨k,fp,hn,hs,hb⟩:=h
 obtain ⟨g,hg,TW⟩:=hs.perm hp
 exact ⟨k,g,TW.nodup_iff.1 hn,hg,fun b dw=>hb b (TW.mem_iff.2 dw)⟩
def FX (c:Cx) (D:List Nat) (hs:List ba) (l:List Oper) (S:List Step) (listed:Array Bool) (a:Act) (w:World):Prop:=
 ∃ β : Nat → Nat, Mem c (qi β (fun i => listed.getD i false) S 0 ++ (hs ++ lX D)) w ∧ (∀ i, c.w0.heap.size ≤ β i ∨ ¬ Ls listed i ∨ ∀ V ob, S[i]? ≠ some (.new V ob)) ∧
  ∀ (i:Nat) (o:Oper) (d:Nat) (V:Nat→Value) (ob:Obj),l[i]? = some o→o.dst=some d→S[i]? = some (.new V ob)→Ls listed i→a.tmps[d]? = some (V (β i))
theorem Ll (hc:Qx l m) (W1:mg P c hs l.toArray (l.take m) sl [] S iU j6) {a0:Act} (h0:bK sl a0) (H3:a0.tmps.size=c.nt)
  (tail:∀ listed a w,(∀ i,i<m→Ls listed i)→St c D iU hs a w→FX c D hs (l.take m) S listed a w→WL P r l.toArray Q (l.drop m) a w) :
  ∀ (fuel:Nat) (listed:Array Bool) (a:Act) (w:World),Inv1 c D hs l m (S.map Step.r) a0 fuel listed a w→FX c D hs (l.take m) S listed a w→wpAnyIn (FR r) 0 P .any l.toArray Q fuel listed a w:=by
 have hp:=W1.Rs
 have qR:=hp.end_
 have dQ:∀ (j:Nat) (o:Oper),j<m→l[j]? = some o→(l.take m)[j]? = some o:=fun j o hj ho=>by rw [List.getElem?_take,if_pos hj];exact ho
 have fh:∀ (j:Nat) (o:Oper),(l.take m)[j]? = some o→j<m∧l[j]? = some o:=fun j o ho=>by
  rw [List.getElem?_take] at ho
  split at ho
  ·exact ⟨by assumption,ho⟩
  ·cases ho
 have l6:∀ fuel listed a w,Inv1 c D hs l m (S.map Step.r) a0 fuel listed a w→FX c D hs (l.take m) S listed a w→(∀ i,i<m→Ls listed i)→wpAnyIn (FR r) 0 P .any l.toArray Q fuel listed a w:=by
  intro fuel listed a w hI hO dR
  have hL:∀ i,i<l.length→(Ls listed i↔i<m):=fun i _=>⟨fun h=>Nat.lt_of_not_le fun hm=>hI.hi i hm h,dR i⟩
  obtain ⟨U,vW,pM,rH⟩:=hI.left
  have gP:U.Perm (List.range' m (l.length-m)):=by
   rw [List.perm_ext_iff_of_nodup vW (List.nodup_range')]
   intro i
   rw [pM i,List.mem_range'_1]
   constructor
   ·rintro ⟨h1,h2⟩
    exact ⟨Nat.le_of_not_lt fun h=>h2 (dR i h),by omega⟩
   ·rintro ⟨h1,h2⟩
    exact ⟨by omega,hI.hi i h1⟩
  have hlen:fuel=l.length-m:=by rw [← rH,gP.length_eq,List.length_range']
  refine CE hc fuel m listed a w (Nat.le_refl _) (by have:=hc.le;omega) hI.sz hL (tail listed a w dR ⟨hI.mem,?_,hI.size,hI.defers⟩ hO)
  ·intro t v hv
   rcases qR.1 t v hv with ⟨j,oj,hj,ig,jo⟩ | ⟨uN,ml⟩
   ·obtain ⟨gR,lI⟩:=fh j oj hj
    obtain ⟨u,hu,mQ⟩:=hI.new j oj lI (dR j gR) t _ ig jo
    rw [hu,show u=v from mQ]
   ·rw [hI.A2 t fun j oj hj jl=>uN j oj (dQ j oj (Nat.lt_of_not_le fun hm=>hI.hi j hm jl) hj)]
    exact h0 t v ml
 intro fuel
 induction fuel with
 | zero =>
  intro listed a w hI hO
  obtain ⟨U,_,pM,rH⟩:=hI.left
  have hU:U=[]:=List.length_eq_zero_iff.1 rH
  refine l6 0 listed a w hI hO fun i hi=>Classical.byContradiction fun hn=>?_
  have:=(pM i).2 ⟨by have:=hc.le;omega,hn⟩
  rw [hU] at this;cases this
 | succ fuel ih =>
  intro listed a w hI hO
  by_cases dR:∀ i,i<m→Ls listed i
  ·exact l6 _ listed a w hI hO dR
  ·have hex:∃ i,i<m∧¬ Ls listed i:=Classical.byContradiction fun hh=>dR fun i hi=>Classical.byContradiction fun hn=>hh ⟨i,hi,hn⟩
   obtain ⟨i0,vT,oX⟩:=hex
   refine ⟨fun hr=>?_,fun i hi=>?_⟩
   ·obtain ⟨i,hi⟩:=iR hI.sz hc.ac ⟨i0,by have:=hc.le;omega,oX⟩
    rw [hr] at hi;cases hi
   ·have oM:i<m:=Nat.lt_of_not_le fun hm=>oX (pB hc hI.sz hI.dc hi hm i0 (by omega))
    obtain ⟨o,ho,hn,ln⟩:=(dz hI.sz).1 hi
    obtain ⟨tg,Ka,R,P0,fJ,hs1,hs2⟩:=hp.at_ i o (dQ i o oM ho)
    obtain ⟨d,R',hd,fy,qU⟩:=qR.2.2 i o (dQ i o oM ho)
    rw [P0] at qU;cases qU
    have lk:∀ (j:Nat),e9 o j=true→Ls listed j:=fun j hw=>by
     obtain ⟨e,he,hb,pe⟩:=dp hw
     rw [← pe];exact ln e he hb
    have Br:∀ (j t:Nat) (oj:Oper),j<i→(l.take m)[j]? = some oj→oj.dst=some t→t∈o.looksAt l.toArray→Ls listed j:=by
     intro j t oj hj iw ig ht
     obtain ⟨gR,lI⟩:=fh j oj iw
     exact lk j ((di (lh hc hj oM lI ho) ig hd).2 (.inl ht))
    have Nu:∀ tg:aG,(∀ t v,cI tg t=some v→(∃ (j:Nat) (oj:Oper),j<i∧(l.take m)[j]? = some oj∧oj.dst=some t∧(S.map Step.r)[j]? = some (.val v))∨((∀ (j:Nat) (oj:Oper),j<i→(l.take m)[j]? = some oj→oj.dst≠some t)∧cI sl t=some v)) →
      ∃ a':Act,bK tg a'∧∀ t∈o.looksAt l.toArray,a'.tmps[t]? = a.tmps[t]?:=by
     intro tg hs1
     have hT:∀ t∈o.looksAt l.toArray,∀ v,cI tg t=some v→a.tmps[t]? = some v:=by
      intro t ht v hv
      rcases hs1 t v hv with ⟨j,oj,hj,iw,ig,jo⟩ | ⟨uN,ml⟩
      ·obtain ⟨u,hu,mQ⟩:=hI.new j oj (fh j oj iw).2 (Br j t oj hj iw ig ht) t _ ig jo
       rw [hu,show u=v from mQ]
      ·rw [hI.A2 t fun j oj hj jl ig=>?_]
       ·exact h0 t v ml
       ·have gR:j<m:=Nat.lt_of_not_le fun hm=>hI.hi j hm jl
        rcases Nat.lt_trichotomy j i with h | h | h
        ·exact uN j oj h (dQ j oj gR hj) ig
        ·subst h;exact hn jl
        ·have hw:=(di (lh hc h gR ho hj) hd ig).2 (.inr ht)
         obtain ⟨e,he,hb,pe⟩:=dp hw
         have:=hI.dc j oj hj jl e he hb
         rw [pe] at this
         exact hn this
     have uQ:∀ t v,cI tg t=some v→t<c.nt:=by
      intro t v hv
      rcases hs1 t v hv with ⟨j,oj,_,iw,ig,_⟩ | ⟨_,ml⟩
      ·obtain ⟨d',_,vA,zm,_⟩:=qR.2.2 j oj iw
       rw [ig] at vA;cases vA
       exact zm
      ·have:=h0 t v ml
       rw [← H3]
       exact (Array.getElem?_eq_some_iff.1 this).1
     obtain ⟨a',lo,je,_⟩:=nX hI.size uQ hT
     exact ⟨a',lo,je⟩
    have pf:∀ (j:Nat) (oj:Oper) (e:Nat),l[j]? = some oj→j<m→j≠i→oj.dst=some e→d≠e:=by
     intro j oj e hj gR hne he
     rcases Nat.lt_or_ge j i with h | h
     ·exact fun e'=>(di (lh hc h oM hj ho) he hd).1 e'.symm
     ·exact (di (lh hc (show i<j by omega) gR ho hj) hd he).1
    have iK:i<listed.size:=by rw [hI.sz];have:=hc.le;omega
    have B2:mC o=true:=hc.op o (List.mem_of_getElem? ho)
    have gr:∀ v w',aF [] w w'→R.p v w'→FX c D hs (l.take m) S (listed.setIfInBounds i true) (a.put o.dst v) w'→wpAnyIn (FR r) 0 P .any l.toArray Q fuel (listed.setIfInBounds i true) (a.put o.dst v) w':=fun v w' hk hv SX=>
     ih _ _ _ (Be hc hc.le hI hi oM ho hd fy P0 (fun j oj hj iw=>let ⟨e,_,he,_⟩:=qR.2.2 j oj (dQ j oj hj iw);⟨e,he⟩) hk hv) SX
    unfold wpOpIn
    rw [show l.toArray[i]? = some o from by simpa using ho]
    simp only []
    have qU:∃ st,S[i]? = some st∧st.r=R:=by
     rw [List.getElem?_map] at P0
     obtain ⟨st,h1,h2⟩:=Option.map_eq_some_iff.1 P0
     exact ⟨st,h1,h2⟩
    obtain ⟨st,qU,a7⟩:=qU
    have H9:∀ j,j≠i→(listed.setIfInBounds i true).getD j false=listed.getD j false:=fun j hj=>by
     simp [Array.getD_eq_getD_getElem?,Array.getElem?_setIfInBounds_ne (Ne.symm hj)]
    cases st with
    | new V ob =>
     obtain ⟨XV,hgn,TU,U4⟩:=W1.Qq i o V ob (dQ i o oM ho) qU
     obtain ⟨a',lo,je⟩:=Nu XV U4
     have hex:=hP (o:=o) (ops:=l.toArray) B2 je
     have hG:=TU.2 a' w lo hI.mem.kL
     rw [if_pos (by simp [Region.wanted,hgn])]
     refine ⟨dE _ _ _ _ _,?_⟩
     rw [Oper.semAt_eq _ _ _ (fun cc he=>by simp [mC,he] at B2),← hex,hG]
     refine gr _ _ (.alloc _ _ _) (by rw [← a7];exact ⟨w.heap.size,rfl,World.alloc_heap_new w ob⟩) ?_
     obtain ⟨β,hm,hb,uK⟩:=hO
     refine ⟨fun k=>if k=i then w.heap.size else β k,?_,?_,?_⟩
     ·refine Mem.perm (hm.alloc ob) ((zQ (k:=i) (V:=V) qU ?_ ?_ ?_ ?_).append_right _)
      ·rw [Nat.zero_add]
       show listed.getD i false=false
       have:¬ listed.getD i false=true:=hn
       simpa using this
      ·rw [Nat.zero_add];exact (cj iK).2 (.inl rfl)
      ·simp
      ·intro j hj
       rw [Nat.zero_add] at hj
       exact ⟨H9 j hj,by simp [hj]⟩
     ·intro j
      by_cases e:j=i
      ·subst e;left;simp;exact hI.mem.keeps.size
      ·rcases hb j with h | h | h
       ·left;simpa [e] using h
       ·right;left;intro h';exact h (((cj iK).1 h').resolve_left e)
       ·exact .inr (.inr h)
     ·intro j oj e V' OZ hj ig jo jl
      by_cases ej:j=i
      ·subst ej
       rw [qU] at jo;cases jo
       obtain ⟨gR,lI⟩:=fh j oj hj
       rw [ho] at lI;cases lI
       rw [hd] at ig;cases ig
       rw [hd]
       simp [Act.put,hI.size,fy]
      ·obtain ⟨gR,lI⟩:=fh j oj hj
       have Ab:=((cj iK).1 jl).resolve_left ej
       have:=uK j oj e V' OZ hj ig jo Ab
       rw [hd]
       simp only [Act.put,Array.getElem?_setIfInBounds_ne (pf j oj e lI gR ej ig),if_neg ej]
       exact this
    | rel R0 =>
     have SX:∀ v w',aF [] w w'→FX c D hs (l.take m) S (listed.setIfInBounds i true) (a.put o.dst v) w':=by
      intro v w' hk
      obtain ⟨β,hm,hb,uK⟩:=hO
      refine ⟨β,?_,?_,?_⟩
      ·have e:qi β (fun j=>(listed.setIfInBounds i true).getD j false) S 0=qi β (fun j=>listed.getD j false) S 0:=om fun j V ob hj=>by
        have:j≠i:=fun e=>by subst e;rw [qU] at hj;cases hj
        rw [Nat.zero_add]
        exact ⟨H9 j this,fun _=>rfl⟩
       rw [e];exact hm.qL hk
      ·intro j
       by_cases e:j=i
       ·subst e;right;right;intro V ob h;rw [qU] at h;cases h
       ·rcases hb j with h | h | h
        ·exact .inl h
        ·right;left;intro h';exact h (((cj iK).1 h').resolve_left e)
        ·exact .inr (.inr h)
      ·intro j oj e V' OZ hj ig jo jl
       have ej:j≠i:=fun e=>by subst e;rw [qU] at jo;cases jo
       obtain ⟨gR,lI⟩:=fh j oj hj
       have Ab:=((cj iK).1 jl).resolve_left ej
       have:=uK j oj e V' OZ hj ig jo Ab
       rw [hd]
       simp only [Act.put,Array.getElem?_setIfInBounds_ne (pf j oj e lI gR ej ig)]
       exact this
     obtain ⟨a',lo,je⟩:=Nu tg hs1
     have Pv:zU (o.looksAt l.toArray) Ka a' w:=by
      intro t Rt hm ht
      rcases hs2 t Rt hm with ⟨j,oj,hj,iw,ig,jo⟩ | az
      ·obtain ⟨v,hv,mQ⟩:=hI.new j oj (fh j oj iw).2 (Br j t oj hj iw ig ht) t _ ig jo
       exact ⟨v,by rw [je t ht];exact hv,mQ⟩
      ·cases az
     have hq:=fJ a' w lo Pv hI.mem.kL
     have hex:=hP (o:=o) (ops:=l.toArray) B2 je
     rw [gD je] at hq
     split
     ·rename_i hw
      rw [if_pos hw] at hq
      refine ⟨dE _ _ _ _ _,?_⟩
      rw [Oper.semAt_eq _ _ _ (fun cc he=>by simp [mC,he] at B2),← hex]
      unfold we at hq
      revert hq
      generalize (execOp a'.eval o).run P w=res
      intro hq
      match res,hq with
      | .ok (.value v) w',⟨hk,hv⟩=>exact gr v w' hk hv (SX v w' hk)
      | .ok (.enter f args) w', ⟨e, ch⟩ =>
       subst e
       refine ⟨by simp [FR,Fence.wide],(gQ ch).mono fun e vH h=>?_⟩
       obtain ⟨v,rfl,hk,hv⟩:=h
       exact gr v vH hk hv (SX v vH hk)
     ·rename_i hw
      rw [if_neg hw] at hq
      exact ⟨fun _ _=>trivial,gr undef w (.refl _ _) hq (SX undef w (.refl _ _))⟩
theorem vl {β:Nat→Nat} {lst:Nat→Bool} (h:∀ i,lst i=false):∀ {S:List Step} {i:Nat},qi β lst S i=[]
 | [],_=>rfl
 | .rel _::S,i=>by unfold qi;exact vl h
 | .new _ _::S,i=>by unfold qi;rw [if_neg (by simp [h]),vl h]
theorem vJ {id:Nat} (pJ:P.follows .mixedOrders=true) (jd:wY l m=true) (hp:mg P c hs l.toArray (l.take m) sl [] S iU j6)
  (tail:∀ listed a w,(∀ i,i<m→Ls listed i)→St c D iU hs a w→FX c D hs (l.take m) S listed a w→WL P r l.toArray Q (l.drop m) a w):Tr c D sl hs (WP P r (.region id l.toArray true) Q):=fun a w a7=>by
 unfold WP
 refine wpIn_region_any pJ ?_
 refine Ll (uo jd) hp a7.cT a7.size tail l.toArray.size _ a _ ⟨by simp,?_,?_,?_,a7.defers,a7.size,fun t _=>rfl,?_,List.range l.length,List.nodup_range,?_,by simp⟩ ?_
 ·exact fun k o _ hL=>absurd hL (eJ _ _)
 ·exact fun k _ hL=>eJ _ _ hL
 ·exact a7.mem.drew
 ·exact fun j o _ hL=>absurd hL (eJ _ _)
 ·exact fun i=>⟨fun h=>⟨by simpa using h,eJ _ _⟩,fun h=>by simpa using h.1⟩
 ·refine ⟨fun _=>c.w0.heap.size,?_,fun i=>.inl (Nat.le_refl _),fun i o d V ob _ _ _ hL=>absurd hL (eJ _ _)⟩
  rw [vl fun i=>by have:=eJ l.toArray.size i;unfold Ls at this;simpa using this]
  exact a7.mem.drew
def J9 (β:Nat→Nat):List Oper→List Step→Nat→aG
 | o::l,.new V _::S,i=>(o.dst.getD 0,V (β i))::J9 β l S (i+1)
 | _::l,.rel _::S,i=>J9 β l S (i+1)
 | _,_,_=>[]
theorem yx {β:Nat→Nat}:∀ {l:List Oper} {S:List Step} {i:Nat} {p:Nat×Value},p∈J9 β l S i→∃ (j:Nat) (o:Oper) (V:Nat→Value) (ob:Obj),l[j]? = some o∧S[j]? = some (.new V ob)∧p=(o.dst.getD 0,V (β (i+j)))
 | [],_,_,_,h=>by cases h
 | _::_,[],_,_,h=>by cases h
 | o :: l, .new V ob :: S, i, p, h => by
  unfold J9 at h
  rcases List.mem_cons.1 h with h | h
  ·exact ⟨0,o,V,ob,rfl,rfl,h⟩
  ·obtain ⟨j,o',V',OZ,h1,h2,h3⟩:=yx h
   exact ⟨j+1,o',V',OZ,by simpa using h1,by simpa using h2,by rw [h3,show i+1+j=i+(j+1) from by omega]⟩
 | o :: l, .rel R :: S, i, p, h => by
  unfold J9 at h
  obtain ⟨j,o',V',OZ,h1,h2,h3⟩:=yx h
  exact ⟨j+1,o',V',OZ,by simpa using h1,by simpa using h2,by rw [h3,show i+1+j=i+(j+1) from by omega]⟩
theorem tZ {L s:aG} {a:Act} (h:∀ p∈L,a.tmps[p.1]? = some p.2) (hs:bK s a):bK (L++s) a:=by
 induction L with
 | nil=>exact hs
 | cons p L ih =>
  intro t v hv
  obtain ⟨d,u⟩:=p
  by_cases e:d=t
  ·subst e
   rw [List.cons_append,fu] at hv
   cases hv
   exact h (d,v) (by simp)
  ·rw [List.cons_append,fq e] at hv
   exact ih (fun p hp=>h p (by simp [hp])) t v hv
def zs (nl:List (Nat×(Nat→Value)×Obj)) (bs:List Nat):aG:=(nl.zip bs).map fun x=>(x.1.1,x.1.2.1 x.2)
def zb (nl:List (Nat×(Nat→Value)×Obj)) (bs:List Nat):List ba:=(nl.zip bs).map fun x=>bD x.2 x.1.2.2
def q8 (P:Program) (r:Option Nat) (c:Cx) (D:List Nat) (hs:List ba) (ops:Array Oper) (Q:Exit→Act→World→Prop) (nl:List (Nat×(Nat→Value)×Obj)) (m:Nat) (l:List Oper) (sl:aG) (rl:eB):Prop:=
 ∃ S iU j6, mg P c hs ops (l.take m) sl rl S iU j6 ∧ ∀ (bs : List Nat) (β : Nat → Nat) (i0 : Nat), bs.length = nl.length → (∀ b ∈ bs, c.w0.heap.size ≤ b) → (∀ i V ob, S[i]? = some (.new V ob) → c.w0.heap.size ≤ β (i0 + i)) →
  Tr c D (zs nl bs++J9 β (l.take m) S i0++iU) (zb nl bs++qi β (fun _=>true) S i0++hs) (WL P r ops Q (l.drop m))
theorem cQ {id:Nat} {l:List Oper} (m:Nat) [pJ:Qv P] (jd:wY l m=true) (k:q8 P r c D hs l.toArray Q [] m l sl []):Tr c D sl hs (WP P r (.region id l.toArray true) Q):=by
 obtain ⟨S,iU,j6,hp,ht⟩:=k
 have qR:=hp.Rs.end_
 have hlen:∀ i V ob,S[i]? = some (.new V ob)→i<m:=by
  intro i V ob h
  have h1:=(List.getElem?_eq_some_iff.1 h).1
  have US:∀ {l0:Array Oper} {l:List Oper} {sl iU:aG} {rl j6:eB} {S:List Step},mg P c hs l0 l sl rl S iU j6→S.length=l.length:=by
   intro l0 l sl iU rl j6 S h
   induction h with
   | nil=>rfl
   | val _ _ _ _ ih=>simp [ih]
   | new _ _ _ _ _ _ ih=>simp [ih]
  rw [US hp,List.length_take] at h1
  omega
 refine vJ pJ.eq jd hp fun listed a w dR a7 hO=>?_
 obtain ⟨β,hm,hb,uK⟩:=hO
 have Ik:∀ i V ob,S[i]? = some (.new V ob)→Ls listed i:=fun i V ob h=>dR i (hlen i V ob h)
 have Aa:∀ i V ob,S[i]? = some (.new V ob)→c.w0.heap.size≤β (0+i):=fun i V ob h=>by
  rw [Nat.zero_add]
  rcases hb i with h1 | h1 | h1
  ·exact h1
  ·exact absurd (Ik i V ob h) h1
  ·exact absurd h (h1 V ob)
 refine ht [] β 0 rfl (fun b hb=>by cases hb) Aa a w ⟨?_,?_,a7.size,a7.defers⟩
 ·have e:qi β (fun i=>listed.getD i false) S 0=qi β (fun _=>true) S 0:=om fun j V ob hj=>by
   rw [Nat.zero_add]
   exact ⟨Ik j V ob hj,fun _=>rfl⟩
  rw [e] at hm
  simpa [zb,List.append_assoc] using hm
 ·refine tZ (L:=zs [] []++J9 β (List.take m l) S 0) (fun p mQ=>?_) a7.cT
  obtain ⟨j,o,V,ob,h1,h2,rfl⟩:=yx (by simpa [zs] using mQ)
  obtain ⟨d,R,hd,fy,_⟩:=qR.2.2 j o h1
  rw [hd,Nat.zero_add]
  exact uK j o d V ob h1 hd h2 (Ik j V ob h2)
section
variable {nl:List (Nat×(Nat→Value)×Obj)} {d:Nat} {op:Op} {ty:TypeId} {pos:String} {af:Array Edge} {rest:List Oper}
theorem dy {V:Nat→Value} {ob:Obj} {l:List Oper} (hn:nl=[(d,V,ob)]) (k:∀ b,c.w0.heap.size≤b→Tr c D ((d,V b)::sl) (bD b ob::hs) (WL P r ops Q l)):q8 P r c D hs ops Q nl 0 l sl rl:=
 ⟨[],sl,rl,.nil,fun bs β i0 hl hb _=>by
  subst hn
  match bs,hl with
  | [b],_=>simpa [zs,zb,J9,qi] using k b (hb b (by simp))⟩
theorem vi {o:Oper} {V:Value} (ho:o.dst=some d) (hd:Nat.blt d c.nt=true) (h:sG P c hs ops sl rl o (.val V)) (k:q8 P r c D hs ops Q nl m rest ((d,V)::sl) rl):q8 P r c D hs ops Q nl (m+1) (o::rest) sl rl:=by
 obtain ⟨S,iU,j6,hp,ht⟩:=k
 refine ⟨_,_,_,.val ho (by simpa [Nat.blt_eq] using hd) h hp,fun bs β i0 h1 h2 h3=>?_⟩
 have:=ht bs β (i0+1) h1 h2 fun i V ob hi=>by have:=h3 (i+1) V ob (by simpa using hi);rwa [show i0+(i+1)=i0+1+i from by omega] at this
 simpa [J9,qi] using this
theorem en {V:Nat→Value} {ob:Obj} (hr:qe P c sl hs ⟨some d,op,ty,pos,af,none⟩ V ob) (hd:Nat.blt d c.nt=true) (hn:cI sl d=none) (k:q8 P r c D hs ops Q (nl++[(d,V,ob)]) m rest sl ((d,Cy V ob)::rl)) :
  q8 P r c D hs ops Q nl (m+1) (⟨some d,op,ty,pos,af,none⟩::rest) sl rl:=by
 obtain ⟨S,iU,j6,hp,ht⟩:=k
 refine ⟨_,_,_,.new rfl (by simpa [Nat.blt_eq] using hd) hn rfl hr hp,fun bs β i0 h1 h2 h3=>?_⟩
 have hb0:=h3 0 V ob rfl
 rw [Nat.add_zero] at hb0
 have:=ht (bs++[β i0]) β (i0+1) (by simp [h1]) (fun b hb=>by
  rcases List.mem_append.1 hb with h | h
  ·exact h2 b h
  ·rw [List.mem_singleton.1 h];exact hb0) fun i V ob hi=>by have:=h3 (i+1) V ob (by simpa using hi);rwa [show i0+(i+1)=i0+1+i from by omega] at this
 simpa [J9,qi,zs,zb,List.zip_append h1.symm,List.append_assoc] using this
theorem an {V:Value} (hr:cX P c sl hs ⟨some d,op,ty,pos,af,none⟩ V) (hd:Nat.blt d c.nt=true) (k:q8 P r c D hs ops Q nl m rest ((d,V)::sl) rl) :
  q8 P r c D hs ops Q nl (m+1) (⟨some d,op,ty,pos,af,none⟩::rest) sl rl:=
 vi rfl hd (ns rfl fun _ _ h1 _ h3=>qC hr h1 h3) k
theorem aU {f:FuncId} {args:List Value} {V:Value} (hr:k7 P sl ⟨some d,op,ty,pos,af,none⟩ f args) (hd:Nat.blt d c.nt=true) (hc:∀ w,Mem c hs w→aj P f args w V) (k:q8 P r c D hs ops Q nl m rest ((d,V)::sl) rl) :
  q8 P r c D hs ops Q nl (m+1) (⟨some d,op,ty,pos,af,none⟩::rest) sl rl:=
 vi rfl hd (ns rfl fun _ w h1 _ h3=>rr hr h1 (hc w h3)) k
theorem Tx {V:Value} {p p':Prop} {j gs:Nat} {want c0 q:Bool} (hj:((ops[j]?).bind (·.dst))=some gs) (hq:cI sl gs=some (gv c0 (.bool q))) (hb:BP (c0&&(q==want)) p p')
  (hr:(c0&&(q==want))=true→p→cX P c sl hs ⟨some d,op,ty,pos,af,some (j,want)⟩ V) (hd:Nat.blt d c.nt=true) (k:q8 P r c D hs ops Q nl m rest ((d,gv (c0&&(q==want)) V)::sl) rl) :
  q8 P r c D hs ops Q nl (m+1) (⟨some d,op,ty,pos,af,some (j,want)⟩::rest) sl rl:=
 vi rfl hd (nu rfl hj hq fun hc _ _ h1 h3=>qC (hr hc (hb.t hc)) h1 h3) k
theorem rS {V:Value} {p p':Prop} {j gs:Nat} {want q:Bool} (hj:((ops[j]?).bind (·.dst))=some gs) (hq:cI sl gs=some (.bool q)) (hb:BP (q==want) p p')
  (hr:(q==want)=true→p→cX P c sl hs ⟨some d,op,ty,pos,af,some (j,want)⟩ V) (hd:Nat.blt d c.nt=true) (k:q8 P r c D hs ops Q nl m rest ((d,gv (q==want) V)::sl) rl) :
  q8 P r c D hs ops Q nl (m+1) (⟨some d,op,ty,pos,af,some (j,want)⟩::rest) sl rl:=
 Tx (c0:=true) (p:=p) (p':=p') hj (by rw [hq];rfl) (by simpa using hb) (by simpa using hr) hd (by simpa using k)
end
end
end Go.SL
namespace Go.SL
open Go
theorem mL {w:World} {b sz:Nat}:∀ {xs:List (List Value)} {o:Nat},(∀ i r,xs[i]? = some r→r.length=sz∧∀ j u,r[j]? = some u→w.cell? ⟨b,o+i*sz+j,none⟩=some u)→∀ (k:Nat) u,xs.flatten[k]? = some u→w.cell? ⟨b,o+k,none⟩=some u
 | [],o,_,k,u,hu=>by simp at hu
 | x :: xs, o, h, k, u, hu => by
  obtain ⟨hl,h0⟩:=h 0 x rfl
  rw [List.flatten_cons,List.getElem?_append] at hu
  split at hu
  ·have:=h0 k u hu
   rwa [Nat.zero_mul,Nat.add_zero] at this
  ·rename_i hk
   have ih:=mL (xs:=xs) (o:=o+sz) (fun i r hr=>⟨(h (i+1) r (by simpa using hr)).1,fun j v hv=>by
    have:=(h (i+1) r (by simpa using hr)).2 j v hv
    rwa [Nat.succ_mul,show o+(i*sz+sz)+j=o+sz+i*sz+j by omega] at this⟩) (k-x.length) u hu
   rwa [hl,show o+sz+(k-sz)=o+k by omega] at ih
theorem fK {sz:Nat}:∀ {xs:List (List Value)},(∀ r∈xs,r.length=sz)→xs.flatten.length=xs.length*sz
 | [],_=>by simp
 | x :: xs, h => by
  rw [List.flatten_cons,List.length_append,fK (fun r hr=>h r (by simp [hr])),h x (by simp),List.length_cons,Nat.succ_mul,Nat.add_comm]
theorem Rd.sz {w:World} {v:Value} {sz:Nat} {xs:List (List Value)} (h:Rd w v sz xs):∀ r∈xs,r.length=sz:=by
 obtain ⟨a,cap,b,o,rfl,h1,h2,h3,h4⟩:=h
 intro r hr
 obtain ⟨i,hi,rfl⟩:=List.getElem_of_mem hr
 exact (h4 i _ (List.getElem?_eq_getElem hi)).1
section
variable {P:Program} {r:Option Nat} {c:Cx} {D:List Nat} {sl:aG} {hs hs':List ba} {ops:Array Oper} {Q:Exit→Act→World→Prop} {d:Nat} {ty:TypeId} {pos:String} {af:Array Edge} {rest:List Oper}
theorem KV {V:Value} {sz:Nat} {xs:List (List Value)} {b o cap:Nat} (hsrc:∀ w,Mem c hs w→Rd w V sz xs) (hne:xs≠[]) (hV:V=.slice (some ⟨b,o,none⟩) xs.length cap):eG c hs b o xs.flatten:=by
 refine eG.uw fun j u hu w hm=>?_
 obtain ⟨a',gB,b',o',e',_,_,cM,Ub⟩:=hsrc w hm
 rw [hV] at e'
 simp only [Value.slice.injEq] at e'
 obtain ⟨e1,_,_⟩:=e'
 have:=cM hne
 rw [← e1] at this
 simp only [Option.some.injEq,Addr.mk.injEq,and_true] at this
 obtain ⟨rfl,rfl⟩:=this
 exact mL Ub j u hu
theorem AI {t e:TypeId} {w:World} {v:Value} {agg:Bool} {size:Nat} [hu:iA P t (.slice e)] [hT:Ty P e agg size] {a:Option Addr} {cp n:Nat} (hv:(v=.slice none 0 0∧n=0)∨∃ g cap,v=.slice (some ⟨g,0,none⟩) n cap∧n≤cap) :
  (Builtin.append_ #[t,t] ty #[v,.slice a 0 cp]).run P w=.ok v w:=by
 obtain ⟨de,i,lO,hi,_,ie⟩:=Ty.parts (P:=P) (t:=e) (agg:=agg) (n:=size)
 rcases hv with ⟨rfl,rfl⟩ | ⟨g,cap,rfl,hc⟩
 ·cases a <;> simp [Builtin.append_,aT hu.eq,sizeOf,typeInfo,hi,Builtin.lenOf,Builtin.firstCells,loadCells,loadCellsFrom]
 ·cases a <;> simp [Builtin.append_,aT hu.eq,sizeOf,typeInfo,hi,Builtin.lenOf,Builtin.firstCells,loadCells,loadCellsFrom,hc,storeCells]
theorem gF {t e:TypeId} {agg:Bool} {size bytes:Nat} {z:Value} {x y:Operand} {v V:Value} {n:Nat} {xs:List Value} {news:List (List Value)} [hu:iA P t (.slice e)] [hT:Ty P e agg size] [hZ:lu P e z] [hB:wg P e bytes]
  (hx:Is sl x v) (hy:Is sl y V) (ht:Take hs (row e size v n xs) hs') (hsrc:∀ w,Mem c hs w→Rd w V size news) (h1:∀ r∈news,∀ u∈r,u.oneCell'=true) (hz:z.cells.size=size) (hsz:Nat.blt 0 size=true) (hb0:Nat.blt 0 bytes=true)
  (hb:(n+news.length)*bytes≤140737488355328) (hd:Nat.blt d c.nt=true)
  (k:∀ v',Tr c D ((d,v')::sl) (row e size v' (n+news.length) (xs++news.flatten)::hs') (WL P r ops Q rest)) :
  Tr c D sl hs (WL P r ops Q (⟨some d,.call ⟨.builtin .append,#[x,y],#[t,t]⟩,ty,pos,af,none⟩::rest)):=fun a w a7=>by
 have hR:=hsrc w a7.qI
 have hlen:=fK hR.sz
 by_cases hne:news=[]
 ·subst hne
  obtain ⟨aa,cap,b,o,rfl,_⟩:=hR
  have hm:=a7.mem.take (ht.append _)
  have hrow:(v=.slice none 0 0∧n=0)∨∃ g cap,v=.slice (some ⟨g,0,none⟩) n cap∧n≤cap:=by
   obtain ⟨_,fp,_,⟨f1,f2,_,⟨_,_,h1⟩,_⟩,_⟩:=hm
   exact h1.imp id fun ⟨g,cap,cur,e,_,hc,_⟩=>⟨g,cap,e,hc⟩
  refine lP rfl ⟨dE _ _ _ _ _,?_⟩
  rw [Oper.semAt_eq _ _ _ (by simp)]
  have:(execOp a.eval ⟨some d,.call ⟨.builtin .append,#[x,y],#[t,t]⟩,ty,pos,af,none⟩).run P w=.ok (.value v) w:=by
   have:=AI (P:=P) (t:=t) (e:=e) (ty:=ty) (w:=w) (agg:=agg) (size:=size) (a:=aa) (cp:=cap) hrow
   simp only [List.length_nil] at hy
   simp [execOp,resolve,invoke,builtin,hx a a7.cT,hy a a7.cT,this]
  rw [this]
  have k2:=k v
  simp only [List.length_nil,Nat.add_zero,List.flatten_nil,List.append_nil] at k2
  exact k2 _ _ ((a7.put (by simpa [Nat.blt_eq] using hd) v).heap hm)
 ·obtain ⟨aa,cap,b,o,hV,df,bO,ha,hc⟩:=hR
  have:=ha hne
  subst this
  rw [hV] at hy
  exact wG hx hy ht (KV hsrc hne hV) hlen (fun u hu=>by obtain ⟨r,hr,RP⟩:=List.mem_flatten.1 hu;exact h1 r hr u RP) hz hsz hb0 hb hd k a w a7
theorem Gp {t t2 e:TypeId} {agg:Bool} {size:Nat} {x y:Operand} {V:Value} {g n cap:Nat} {E:TypeId} {cs:List Value} {news:List (List Value)} [hu:iA P t (.slice e)] [hT:Ty P e agg size]
  (hx:Is sl x (.slice (some ⟨g,0,none⟩) n cap)) (hy:Is sl y V) (ht:Take hs (bD g (.cells cs.toArray E (0,0))) hs') (hsrc:∀ w,Mem c hs w→Rd w V size news) (h1:∀ r∈news,∀ u∈r,u.oneCell'=true) (hfit:n*size≤cs.length) (hd:Nat.blt d c.nt=true)
  (k:Tr c D ((d,.int .i64 (Nat.min news.length n:Nat))::sl) (bD g (.cells (setCells cs 0 (news.take n).flatten).toArray E (0,0))::hs') (WL P r ops Q rest)) :
  Tr c D sl hs (WL P r ops Q (⟨some d,.call ⟨.builtin .copy,#[x,y],#[t,t2]⟩,ty,pos,af,none⟩::rest)):=fun a w a7=>by
 have hR:=hsrc w a7.qI
 obtain ⟨de,i,lO,hi,_,ie⟩:=Ty.parts (P:=P) (t:=e) (agg:=agg) (n:=size)
 have hlen:(news.take n).flatten.length=Nat.min news.length n*size:=by
  rw [fK (fun r hr=>hR.sz r (List.mem_of_mem_take hr)),List.length_take]
  show min n news.length*size=min news.length n*size
  rw [Nat.min_comm]
 have hle:Nat.min news.length n≤n:=Nat.min_le_right _ _
 have hm:=a7.mem.take (ht.append _)
 have hg:w.heap[g]? = some (.cells cs.toArray E (0,0)):=hm.bD .here
 obtain ⟨w',h3,h4,h5⟩:=iC (P:=P) (o:=0) (news.take n).flatten 0 cs w hg (fun u hu=>by
  obtain ⟨r,hr,RP⟩:=List.mem_flatten.1 hu
  exact h1 r (List.mem_of_mem_take hr) u RP) (by
  rw [hlen]
  have:Nat.min news.length n*size≤n*size:=Nat.mul_le_mul_right _ hle
  omega)
 have Sp:(Builtin.firstCells size (Nat.min news.length n) V).run P w=.ok (news.take n).flatten.toArray w:=by
  obtain ⟨aa,dx,b,o,hV,jX,bO,ha,hc⟩:=hR
  subst hV
  by_cases hne:news=[]
  ·subst hne
   cases aa <;> simp [Builtin.firstCells,loadCells,loadCellsFrom]
  ·have:=ha hne
   subst this
   simp only [Builtin.firstCells]
   refine qw hlen fun j u hu=>?_
   refine mL (sz:=size) (xs:=news.take n) (fun i r hr=>?_) j u hu
   rw [List.getElem?_take] at hr
   split at hr
   ·exact hc i r hr
   ·cases hr
 have Ss:(Builtin.lenOf V).run P w=.ok news.length w:=by
  obtain ⟨aa,dx,b,o,hV,_⟩:=hR
  subst hV
  rfl
 refine lP rfl ⟨dE _ _ _ _ _,?_⟩
 rw [Oper.semAt_eq _ _ _ (by simp)]
 have:(execOp a.eval ⟨some d,.call ⟨.builtin .copy,#[x,y],#[t,t2]⟩,ty,pos,af,none⟩).run P w=.ok (.value (.int .i64 (Nat.min news.length n:Nat))) w':=by
  simp [execOp,resolve,invoke,builtin,hx a a7.cT,hy a a7.cT,Builtin.copy_,aT hu.eq,Ss,sizeOf,typeInfo,hi,ie,Sp,h3,goInt]
 rw [this]
 have lH:=Mem.store hm h4 h5
 rw [show (0+0:Nat)=0 from rfl] at lH
 exact k _ _ ((a7.put (by simpa [Nat.blt_eq] using hd) _).heap lH)
theorem Ci {t tn e:TypeId} {kn:IntKind} {agg:Bool} {size bytes m:Nat} {z:Value} {x y:Operand} [hu:iA P t (.slice e)] [Pj:iA P tn (.int kn)] [hT:Ty P e agg size] [hZ:lu P e z] [hB:wg P e bytes]
  (hx:Is sl x (.slice none 0 0)) (hy:Is sl y (.int .i64 m)) (h0:0<m) (hz:z.cells.size=size) (hsz:Nat.blt 0 size=true) (hb0:Nat.blt 0 bytes=true) (hb:m*bytes≤140737488355328) (hd:Nat.blt d c.nt=true)
  (k:∀ v',Tr c D ((d,v')::sl) (row e size v' m (Builtin.zeroCells z.cells m).toList::hs) (WL P r ops Q rest)) :
  Tr c D sl hs (WL P r ops Q (⟨some d,.call ⟨.builtin .append,#[x,y],#[t,tn]⟩,ty,pos,af,none⟩::rest)):=fun a w a7=>by
 obtain ⟨de,i,lO,hi,_,ie⟩:=Ty.parts (P:=P) (t:=e) (agg:=agg) (n:=size)
 have hzero:i.zero=some z:=by have:=hZ.eq;rw [hi] at this;simpa using this
 have gj:i.bytes=bytes:=by have:=hB.eq;rw [hi] at this;simpa using this
 have hs0:0<size:=by simpa [Nat.blt_eq] using hsz
 have Wc:0<bytes:=by simpa [Nat.blt_eq] using hb0
 have aJ:m*1≤m*bytes:=Nat.mul_le_mul_left _ Wc
 have hG:=Lib.run_append_grow_zeros (P:=P) w t tn ty e i z .i64 kn hu.eq Pj.eq hi hzero none 0 0 [] (by simp [Builtin.firstCells]) m h0 (by omega) (by omega) (by omega) (by rw [gj];omega) (growslice_fits (by omega) (by rw [gj];simpa using hb))
 simp only [Nat.zero_add] at hG
 have Ia:=grownCap_ge w m 0 e
 have hle:=grownCap_le_maxLen w m 0 e (by unfold maxLen;omega)
 refine lP rfl ⟨dE _ _ _ _ _,?_⟩
 rw [Oper.semAt_eq _ _ _ (by simp)]
 generalize grownCap w m 0 e=G at hG Ia hle
 have:(execOp a.eval ⟨some d,.call ⟨.builtin .append,#[x,y],#[t,tn]⟩,ty,pos,af,none⟩).run P w=.ok (.value (.slice (some ⟨w.heap.size,0,none⟩) m G)) (w.drew.alloc (.cells (#[]++Builtin.zeroCells z.cells m++Builtin.zeroCells z.cells (G-m)) e)):=by
  simp [execOp,resolve,invoke,builtin,hx a a7.cT,hy a a7.cT,hG]
 rw [this]
 have CW:∀ q,(Builtin.zeroCells z.cells q).size=q*size:=fun q=>by rw [size_zeroCells,hz]
 have lH:=(a7.mem.drew.alloc (.cells (#[]++Builtin.zeroCells z.cells m++Builtin.zeroCells z.cells (G-m)) e (0,0)))
 refine k _ _ _ ((a7.put (by simpa [Nat.blt_eq] using hd) _).heap ?_)
 obtain ⟨kk,fp,hn,⟨f1,f2,rfl,⟨e1,h1⟩,h2⟩,C1⟩:=lH
 refine ⟨kk,f1++f2,hn,⟨f1,f2,rfl,⟨by rw [e1];rfl,by simp [CW],.inr ⟨w.heap.size,G,_,rfl,h1,Ia,hle,?_,?_⟩⟩,h2⟩,C1⟩
 ·simp only [Array.size_append,CW]
  simp only [Array.size_empty,Nat.zero_add,← Nat.add_mul]
  congr 1;omega
 ·simp only [Array.toList_append,Array.toList_empty,List.nil_append]
  rw [List.take_left' (by rw [Array.length_toList,CW])]
theorem j7 {dst:Option Tmp} {g:Option (Nat×Bool)} {t e:TypeId} {agg:Bool} {size:Nat} [hu:iA P t (.slice e)] [hT:Ty P e agg size] :
  qe P c sl hs ⟨dst,.buildSlice t 0 #[],ty,pos,af,g⟩ (fun b=>.slice (some ⟨b,0,none⟩) 0 0) (.cells #[] e):=
 lE (ps:=#[]) (fun a _=>by simp) fun w=>by
  unfold Instr.buildSlice
  simp only [Sem.run_bind,aT hu.eq,Result.andThen_ok,fF (t:=e) (agg:=agg) (n:=size),Nat.zero_mul]
  simp [Instr.fill,newRow,show Array.range 0=#[] from rfl]
theorem qy {dst:Option Tmp} {g:Option (Nat×Bool)} {t e:TypeId} {x:Operand} {a:Option Addr} {n cp:Nat} [hu:iA P t (.slice e)] (hx:Is sl x (.slice a n cp)) :
  cX P c sl hs ⟨dst,.call ⟨.builtin .cap,#[x],#[t]⟩,ty,pos,af,g⟩ (.int .i64 cp):=
 ⟨by simp,fun ac w ha _=>by simp [execOp,hx ac ha,resolve,invoke,builtin,Builtin.cap_,aT hu.eq,goInt]⟩
theorem AA (g cap sz:Nat):Go.sliced (some ⟨g,0,none⟩) 0 0 cap sz=.slice (some ⟨g,0,none⟩) 0 cap:=by
 unfold Go.sliced
 by_cases h:cap=0
 ·rw [if_pos h];simp
 ·rw [if_neg h];simp [eA]
theorem yz:∀ (vs cs:List Value),vs.length≤cs.length→setCells cs 0 vs=vs++cs.drop vs.length:=by
 intro vs cs h
 apply List.ext_getElem?
 intro k
 rw [gU _ _ _ _ (by omega),List.getElem?_append]
 by_cases hk:k<vs.length
 ·rw [if_pos (by omega),if_pos hk,Nat.sub_zero]
 ·rw [if_neg (by omega),if_neg hk,List.getElem?_drop]
  congr 1;omega
end
end Go.SL
namespace Go.SL
open Go
theorem bc {α:Type} {b:Bool} {o:Option α} {v:α} (h:(bif b then o else none)=some v):b=true∧o=some v:=by cases b <;> simp_all
theorem bp {α β:Type} {o:Option α} {q:Option β} {v:α} {u:β} (h:(o.bind fun a=>q.map fun b=>(a,b))=some (v,u)):o=some v∧q=some u:=by
 cases o <;> cases q <;> simp_all
section
variable {P:Program} {r:Option Nat} {c:Cx} {D:List Nat} {sl:aG} {rl:eB} {hs hs':List ba} {Q:Exit→Act→World→Prop} {ops:Array Oper} {m d:Nat} {op:Op} {ty:TypeId} {pos:String} {af:Array Edge} {rest:List Oper} {dst:Option Tmp} {g:Option (Nat×Bool)}
theorem Jq {P:Program} {r:Option Nat} {c:Cx} {D:List Nat} {sl:aG} {hs:List ba} {x y:Code} {Q:Exit→Act→World→Prop}
  (h:Tr c D sl hs (WP P r x (Exit.then (WP P r y Q) Q))):Tr c D sl hs (WP P r (.seq x y) Q):=Cf h
theorem Jt {c:Cx} {D:List Nat} {sl:aG} {hs:List ba} {N:Act→World→Prop} {Q:Exit→Act→World→Prop}
  (h:Tr c D sl hs N):Tr c D sl hs (Exit.then N Q .normal):=KD h
theorem J0 {P:Program} {r:Option Nat} {c:Cx} {D:List Nat} {sl:aG} {hs:List ba} {id:Nat} {x:Code} {Q:Exit→Act→World→Prop}
  (h:Tr c D sl hs (WP P r x (Exit.inBlock id Q))):Tr c D sl hs (WP P r (.block id x) Q):=Gr h
theorem Je {P:Program} {r:Option Nat} {c:Cx} {D:List Nat} {sl:aG} {hs:List ba} {Q:Exit→Act→World→Prop}
  (h:Tr c D sl hs (Q .ret)):Tr c D sl hs (WP P r .ret Q):=Gj h
theorem Jg {P:Program} {r:Option Nat} {c:Cx} {D:List Nat} {sl:aG} {hs:List ba} {id:Nat} {l:List Oper} {Q:Exit→Act→World→Prop}
  (h:Tr c D sl hs (WL P r l.toArray Q l)):Tr c D sl hs (WP P r (.region id l.toArray false) Q):=rh h
theorem Jh {c:Cx} {D:List Nat} {sl:aG} {hs:List ba} {N:Act→World→Prop} {Q:Exit→Act→World→Prop}
  (h:Tr c D sl hs (Q .ret)):Tr c D sl hs (Exit.then N Q .ret):=Ah h
theorem Ji {id:Nat} {l:List Oper} {y:Code} {Q':Exit→Act→World→Prop} (h:Tr c D sl hs (WL P r l.toArray (Exit.then (WP P r y Q) Q) l)):Tr c D sl hs (WL P r ops (Exit.then (WP P r (.seq (.region id l.toArray false) y) Q) Q') []):=YP h
theorem Jj {c:Cx} {D:List Nat} {sl:aG} {hs:List ba} {id:Nat} {Q:Exit→Act→World→Prop}
  (h:Tr c D sl hs (Q .normal)):Tr c D sl hs (Exit.inBlock id Q .normal):=o6 h
theorem Jk {N:Act→World→Prop} (h:Tr c D sl hs N):Tr c D sl hs (WP P r .skip (Exit.then N Q)):=XW h
theorem Jl {c:Cx} {D:List Nat} {sl:aG} {hs:List ba} {N:Act→World→Prop} {Q:Exit→Act→World→Prop} {id:Nat}
  (h:Tr c D sl hs (Q (.exit id))):Tr c D sl hs (Exit.then N Q (.exit id)):=ym h
theorem Jm {c:Cx} {D:List Nat} {sl:aG} {hs:List ba} {id:Nat} {Q:Exit→Act→World→Prop}
  (h:Tr c D sl hs (Q .ret)):Tr c D sl hs (Exit.inBlock id Q .ret):=Ch h
theorem Jo {c:Cx} {D:List Nat} {sl:aG} {hs:List ba} {id:Nat} {Q:Exit→Act→World→Prop}
  (h:Tr c D sl hs (Q .normal)):Tr c D sl hs (Exit.inBlock id Q (.exit id)):=Ao h
theorem Jp {N:Act→World→Prop} {id:Nat} (h:Tr c D sl hs (Q (.exit id))):Tr c D sl hs (WP P r (.exit id) (Exit.then N Q)):=XT h
theorem Jn {N:Act→World→Prop} (h:Tr c D sl hs N):Tr c D sl hs (WL P r ops (Exit.then N Q) []):=YO h
theorem Jr {id:Nat} {l:List Oper} {y:Code} (h:Tr c D sl hs (WL P r l.toArray (Exit.then (WP P r y Q) Q) l)):Tr c D sl hs (WP P r (.seq (.region id l.toArray false) y) Q):=XX h
theorem Ju {N:Act→World→Prop} (h:Tr c D sl hs (Q .ret)):Tr c D sl hs (WP P r .ret (Exit.then N Q)):=Yk h
theorem Jw {P:Program} {r:Option Nat} {c:Cx} {D:List Nat} {sl:aG} {hs:List ba} {Q:Exit→Act→World→Prop}
  (h:Tr c D sl hs (Q .normal)):Tr c D sl hs (WP P r .skip Q):=DG h
theorem Jx {P:Program} {r:Option Nat} {c:Cx} {D:List Nat} {sl:aG} {hs:List ba} {ops:Array Oper} {Q:Exit→Act→World→Prop}
  (h:Tr c D sl hs (Q .normal)):Tr c D sl hs (WL P r ops Q []):=Gk h
theorem Jv {x:Operand} {v:Value} (h:(bif Nat.blt d c.nt then ev sl x else none)=some v) (k:Tr c D ((d,v)::sl) hs (WL P r ops Q rest)):Tr c D sl hs (WL P r ops Q (⟨some d,.move x,ty,pos,af,none⟩::rest)):=Na (bc h).2 (bc h).1 k
theorem Ja {x:Operand} {v:Value} (h:(bif Nat.blt d c.nt then ev sl x else none)=some v) (k:Tr c D ((d,v)::sl) hs (WL P r ops Q rest)):Tr c D sl hs (WL P r ops Q (⟨some d,.assign x,ty,pos,af,none⟩::rest)):=a_s (bc h).2 (bc h).1 k
theorem JA {k:IntKind} {t u:TypeId} {x y:Operand} {a b:Int} (h:(bif Nat.blt d c.nt then ((ev sl x).bind fun a=>(ev sl y).map fun b=>(a,b)) else none)=some (.int k a,.int k b)) (k:Tr c D ((d,.bool (decide (a<b)))::sl) hs (WL P r ops Q rest)):Tr c D sl hs (WL P r ops Q (⟨some d,.binOp .lss t x y u,ty,pos,af,none⟩::rest)):=ab (nD (.of (bp (bc h).2).1) (.of (bp (bc h).2).2)) (bc h).1 k
theorem JC {k:IntKind} {t u:TypeId} {x y:Operand} {a b:Int} (h:(bif Nat.blt d c.nt then ((ev sl x).bind fun a=>(ev sl y).map fun b=>(a,b)) else none)=some (.int k a,.int k b)) (k:Tr c D ((d,.bool (decide (a=b)))::sl) hs (WL P r ops Q rest)):Tr c D sl hs (WL P r ops Q (⟨some d,.binOp .eql t x y u,ty,pos,af,none⟩::rest)):=ab (nF (.of (bp (bc h).2).1) (.of (bp (bc h).2).2)) (bc h).1 k
theorem JD {k:IntKind} {t u:TypeId} {x y:Operand} {a b:Int} (h:(bif Nat.blt d c.nt then ((ev sl x).bind fun a=>(ev sl y).map fun b=>(a,b)) else none)=some (.int k a,.int k b)) (k:Tr c D ((d,.bool (decide (a≠b)))::sl) hs (WL P r ops Q rest)):Tr c D sl hs (WL P r ops Q (⟨some d,.binOp .neq t x y u,ty,pos,af,none⟩::rest)):=ab (jr (.of (bp (bc h).2).1) (.of (bp (bc h).2).2)) (bc h).1 k
theorem JE {k:IntKind} {t u:TypeId} {x y:Operand} {a b:Int} (h:(bif Nat.blt d c.nt then ((ev sl x).bind fun a=>(ev sl y).map fun b=>(a,b)) else none)=some (.int k a,.int k b)) (k:Tr c D ((d,.bool (decide (b<a)))::sl) hs (WL P r ops Q rest)):Tr c D sl hs (WL P r ops Q (⟨some d,.binOp .gtr t x y u,ty,pos,af,none⟩::rest)):=ab (my (.of (bp (bc h).2).1) (.of (bp (bc h).2).2)) (bc h).1 k
theorem JF {k:IntKind} {t u:TypeId} {x y:Operand} {a b:Int} (h:(bif Nat.blt d c.nt then ((ev sl x).bind fun a=>(ev sl y).map fun b=>(a,b)) else none)=some (.int k a,.int k b)) (k:Tr c D ((d,.bool (decide (a≤b)))::sl) hs (WL P r ops Q rest)):Tr c D sl hs (WL P r ops Q (⟨some d,.binOp .leq t x y u,ty,pos,af,none⟩::rest)):=ab (kB (.of (bp (bc h).2).1) (.of (bp (bc h).2).2)) (bc h).1 k
theorem JG {k:IntKind} {t u:TypeId} {x y:Operand} {a b:Int} (h:(bif Nat.blt d c.nt then ((ev sl x).bind fun a=>(ev sl y).map fun b=>(a,b)) else none)=some (.int k a,.int k b)) (k:Tr c D ((d,.bool (decide (b≤a)))::sl) hs (WL P r ops Q rest)):Tr c D sl hs (WL P r ops Q (⟨some d,.binOp .geq t x y u,ty,pos,af,none⟩::rest)):=ab (yH (.of (bp (bc h).2).1) (.of (bp (bc h).2).2)) (bc h).1 k
theorem JB {t u:TypeId} {x y:Operand} {a b:Int} (h:(bif Nat.blt d c.nt then ((ev sl x).bind fun a=>(ev sl y).map fun b=>(a,b)) else none)=some (.int .i64 a,.int .i64 b)) (hb:-9223372036854775808≤a+b∧a+b≤9223372036854775807) (k:Tr c D ((d,.int .i64 (a+b))::sl) hs (WL P r ops Q rest)):Tr c D sl hs (WL P r ops Q (⟨some d,.binOp .add t x y u,ty,pos,af,none⟩::rest)):=ab (GW (.of (bp (bc h).2).1) (.of (bp (bc h).2).2) (QF hb)) (bc h).1 k
theorem JS {t u:TypeId} {x y:Operand} {a b:Int} (h:(bif Nat.blt d c.nt then ((ev sl x).bind fun a=>(ev sl y).map fun b=>(a,b)) else none)=some (.int .i64 a,.int .i64 b)) (hb:-9223372036854775808≤a-b∧a-b≤9223372036854775807) (k:Tr c D ((d,.int .i64 (a-b))::sl) hs (WL P r ops Q rest)):Tr c D sl hs (WL P r ops Q (⟨some d,.binOp .sub t x y u,ty,pos,af,none⟩::rest)):=ab (ud (.of (bp (bc h).2).1) (.of (bp (bc h).2).2) (QF hb)) (bc h).1 k
theorem JH {t:TypeId} {x:Operand} {b:Bool} (h:(bif Nat.blt d c.nt then ev sl x else none)=some (.bool b)) (k:Tr c D ((d,.bool (!b))::sl) hs (WL P r ops Q rest)):Tr c D sl hs (WL P r ops Q (⟨some d,.unOp .not t x,ty,pos,af,none⟩::rest)):=ab (fG (.of (bc h).2)) (bc h).1 k
theorem JI {t e:TypeId} {x:Operand} {b:Option Addr} {n cap:Nat} [iA P t (.slice e)] (h:(bif Nat.blt d c.nt then ev sl x else none)=some (.slice b n cap)) (k:Tr c D ((d,.int .i64 n)::sl) hs (WL P r ops Q rest)):Tr c D sl hs (WL P r ops Q (⟨some d,.call ⟨.builtin .len,#[x],#[t]⟩,ty,pos,af,none⟩::rest)):=ab (ct (e:=e) (.of (bc h).2)) (bc h).1 k
theorem JJ {x:Operand} {i:Nat} {vs:List Value} {v:Value} (h:(bif Nat.blt d c.nt then ev sl x else none)=some (.tuple vs.toArray)) (hv:sO vs i=some v) (k:Tr c D ((d,v)::sl) hs (WL P r ops Q rest)):Tr c D sl hs (WL P r ops Q (⟨some d,.extract x i,ty,pos,af,none⟩::rest)):=ab (dG (.of (bc h).2) hv) (bc h).1 k
theorem JK {r:Option Nat} {D:List Nat} {ops:Array Oper} {Q:Exit→Act→World→Prop} {d:Option Tmp} {op:Op} {rest:List Oper} {j gs:Nat} {want:Bool} (hj:((ops[j]?).bind (·.dst))=some gs) (hq:cI sl gs=some (.bool want))
  (k:Tr c D sl hs (WL P r ops Q (⟨d,op,ty,pos,af,none⟩::rest))):Tr c D sl hs (WL P r ops Q (⟨d,op,ty,pos,af,some (j,want)⟩::rest)):=On hj hq k
theorem JL {t:TypeId} {n:Nat} {x:Operand} {b o:Nat} {cs:List Value} {E:TypeId} {fz:Nat×Nat} {v:Value} [Ty P t false n] (h:(bif Nat.blt d c.nt then ev sl x else none)=some (.pointer (some ⟨b,o,none⟩))) (ht:Take hs (SL.bD b (.cells cs.toArray E fz)) hs') (hv:sO cs o=some v) (k:Tr c D ((d,v)::sl) hs (WL P r ops Q rest)):Tr c D sl hs (WL P r ops Q (⟨some d,.load t x,ty,pos,af,none⟩::rest)):=ab (ai (.of (bc h).2) (At.lit ht hv)) (bc h).1 k
theorem Jc {x:Operand} {p:Prop} {inst:Decidable p} {u v:Code} (hx:ev sl x=some (.bool (decide p))) (hf:¬ p→Tr c D sl hs (WP P r v Q)) (ht:p→Tr c D sl hs (WP P r u Q):=by intro h;exfalso;omega):Tr c D sl hs (WP P r (.cond x u v) Q):=fY hx ht hf
theorem Jd {x:Operand} {p:Prop} {inst:Decidable p} {u v:Code} (hx:ev sl x=some (.bool (decide p))) (ht:p→Tr c D sl hs (WP P r u Q)) (hf:¬ p→Tr c D sl hs (WP P r v Q):=by intro h;exfalso;omega):Tr c D sl hs (WP P r (.cond x u v) Q):=fY hx ht hf
theorem Jy {t:TypeId} {x:Operand} {v:Value} {cs:List Value} (h:(bif Nat.blt d c.nt then ev sl x else none)=some v) (hc:v.cells=cs.toArray) (k:∀ b,c.w0.heap.size≤b→Tr c D ((d,.pointer (some ⟨b,0,none⟩))::sl) (bD b (.cells cs.toArray t)::hs) (WL P r ops Q rest)):Tr c D sl hs (WL P r ops Q (⟨some d,.box t x,ty,pos,af,none⟩::rest)):=bb (OD (.of (bc h).2) hc) (bc h).1 k
theorem Jz {t:TypeId} {z:Value} {cs:List Value} [lu P t z] (hc:z.cells=cs.toArray) (hd:Nat.blt d c.nt=true) (k:∀ b,c.w0.heap.size≤b→Tr c D ((d,.pointer (some ⟨b,0,none⟩))::sl) (bD b (.cells cs.toArray t)::hs) (WL P r ops Q rest)):Tr c D sl hs (WL P r ops Q (⟨some d,.alloc t,ty,pos,af,none⟩::rest)):=bb (uk hc) hd k
end
theorem JN {P:Program} {r:Option Nat} {c:Cx} {D:List Nat} {sl:aG} {hs:List ba} {Q:Exit→Act→World→Prop} {ops:Array Oper} {d:Nat} {op:Op} {ty:TypeId} {pos:String} {af:Array Edge} {rest:List Oper} {f:FuncId} {args:List Value} {ι:Type} {Φ:ι→Prop} {val:ι→Value} {own:ι→List ba} (hr:k7 P sl ⟨some d,op,ty,pos,af,none⟩ f args) (hd:Nat.blt d c.nt=true) (hc:∀ w,Mem c hs w→bd P f args w [] Φ val own)
  (k:∀ x,Φ x→Tr c D ((d,val x)::sl) (own x++hs) (WL P r ops Q rest)):Tr c D sl hs (WL P r ops Q (⟨some d,op,ty,pos,af,none⟩::rest)):=iX hr hd bj.nil (fun w fp hm _ hs=>by obtain rfl:fp=[]:=hs;exact hc w hm) k
section
variable {P:Program} {r:Option Nat} {c:Cx} {sl:aG} {hs hs':List ba} {d:Nat} {dst:Option Tmp} {ty:TypeId} {pos:String} {af:Array Edge} {g:Option (Nat×Bool)}
theorem gp {t:TypeId} {n:Nat} {x:Operand} {b o:Nat} {cs:List Value} {E:TypeId} {fz:Nat×Nat} {v:Value} [Ty P t false n] (ht:Take hs (SL.bD b (.cells cs.toArray E fz)) hs') (hx:Is sl x (.pointer (some ⟨b,o,none⟩)):=by exact Is.of rfl) (hv:sO cs o=some v:=by exact rfl):cX P c sl hs ⟨dst,.load t x,ty,pos,af,g⟩ v:=ai hx (At.lit ht hv)
theorem cr {t:TypeId} {n:Nat} {x:Operand} {b o:Nat} {cs vs:List Value} {E:TypeId} {fz:Nat×Nat} [Ty P t true n] (ht:Take hs (SL.bD b (.cells cs.toArray E fz)) hs') (hx:Is sl x (.pointer (some ⟨b,o,none⟩)):=by exact Is.of rfl) (hv:dU cs o n=vs:=by exact ak) (hl:vs.length=n:=by rfl):cX P c sl hs ⟨dst,.load t x,ty,pos,af,g⟩ (.agg vs.toArray):=cF hx ht hv hl
theorem kr {t:TypeId} {i o:Nat} {x:Operand} {b k q:Nat} [eo P t i o] (hx:Is sl x (.pointer (some ⟨b,k,none⟩)):=by exact Is.of rfl) (he:k+o=q:=by exact ae):cX P c sl hs ⟨dst,.fieldAddr t x i,ty,pos,af,g⟩ (.pointer (some ⟨b,q,none⟩)):=ar hx he
theorem lx {x:Operand} {v:Value} (hx:Is sl x v:=by exact Is.of rfl):cX P c sl hs ⟨dst,.move x,ty,pos,af,g⟩ v:=aY hx
theorem iz {t:TypeId} {n:Nat} {x:Operand} {b o:Nat} {vs:List Value} [Ty P t true n] (hv:eG c hs b o vs) (hx:Is sl x (.pointer (some ⟨b,o,none⟩)):=by exact Is.of rfl) (hl:vs.length=n:=by exact rfl):cX P c sl hs ⟨dst,.load t x,ty,pos,af,g⟩ (.agg vs.toArray):=iY hx hv hl
theorem fM {t e:TypeId} {n:Nat} {agg:Bool} {x y:Operand} {a0:Option Addr} {b o len cap q:Nat} {k:IntKind} {i:Int} [hu:iA P t (.slice e)] [Ty P e agg n] (ha:a0=some ⟨b,o,none⟩) (h1:i<len) (hx:Is sl x (.slice a0 len cap):=by exact Is.of rfl) (hy:Is sl y (.int k i):=by exact Is.of rfl) (h0:0≤i:=by omega) (he:o+i.toNat*n=q:=by exact bo):cX P c sl hs ⟨dst,.indexAddr t x y,ty,pos,af,g⟩ (.pointer (some ⟨b,q,none⟩)):=aC hx hy ha h0 h1 he
theorem JT {fn:Func} {v v':Value} {t:Tmp} (hv:v'=v) (Fw:c.md=[]:=by exact rfl) (h1:fn.results=#[.tmp t]:=by exact rfl) (h2:cI sl t=some v':=by exact rfl):Tr c [] sl hs (bodyPostM (FR r) 0 P fn (fun e w'=>e=.returned v∧aF [] c.w0 w') .ret):=oB Fw (dj h1 h2) hv
end
theorem bI {A x0 x1:ba} {h:List ba}:Take (x0::x1::A::h) A (x0::x1::h):=.there (.there .here)
theorem cY {A x0 x1 x2:ba} {h:List ba}:Take (x0::x1::x2::A::h) A (x0::x1::x2::h):=.there bI
theorem ei {A x0 x1 x2 x3:ba} {h:List ba}:Take (x0::x1::x2::x3::A::h) A (x0::x1::x2::x3::h):=.there cY
theorem eC {A x0 x1 x2 x3 x4:ba} {h:List ba}:Take (x0::x1::x2::x3::x4::A::h) A (x0::x1::x2::x3::x4::h):=.there ei
theorem oq {A x0 x1 x2 x3 x4 x5:ba} {h:List ba}:Take (x0::x1::x2::x3::x4::x5::A::h) A (x0::x1::x2::x3::x4::x5::h):=.there eC
theorem tL {A x0 x1 x2 x3 x4 x5 x6:ba} {h:List ba}:Take (x0::x1::x2::x3::x4::x5::x6::A::h) A (x0::x1::x2::x3::x4::x5::x6::h):=.there oq
theorem B6 {A x0 x1 x2 x3 x4 x5 x6 x7:ba} {h:List ba}:Take (x0::x1::x2::x3::x4::x5::x6::x7::A::h) A (x0::x1::x2::x3::x4::x5::x6::x7::h):=.there tL
theorem gC {A x0 x1 x2 x3 x4 x5 x6 x7 x8:ba} {h:List ba}:Take (x0::x1::x2::x3::x4::x5::x6::x7::x8::A::h) A (x0::x1::x2::x3::x4::x5::x6::x7::x8::h):=.there B6
theorem jL {A x0 x1 x2 x3 x4 x5 x6 x7 x8 x9:ba} {h:List ba}:Take (x0::x1::x2::x3::x4::x5::x6::x7::x8::x9::A::h) A (x0::x1::x2::x3::x4::x5::x6::x7::x8::x9::h):=.there gC
theorem vp {A x0 x1 x2 x3 x4 x5 x6 x7 x8 x9 wh:ba} {h:List ba}:Take (x0::x1::x2::x3::x4::x5::x6::x7::x8::x9::wh::A::h) A (x0::x1::x2::x3::x4::x5::x6::x7::x8::x9::wh::h):=.there jL
theorem kl {A x0 x1 x2 x3 x4 x5 x6 x7 x8 x9 wh Dx:ba} {h:List ba}:Take (x0::x1::x2::x3::x4::x5::x6::x7::x8::x9::wh::Dx::A::h) A (x0::x1::x2::x3::x4::x5::x6::x7::x8::x9::wh::Dx::h):=.there vp
theorem MT {A x0 x1 x2 x3 x4 x5 x6 x7 x8 x9 wh Dx FZ:ba} {h:List ba}:Take (x0::x1::x2::x3::x4::x5::x6::x7::x8::x9::wh::Dx::FZ::A::h) A (x0::x1::x2::x3::x4::x5::x6::x7::x8::x9::wh::Dx::FZ::h):=.there kl
theorem BY {A x0 x1 x2 x3 x4 x5 x6 x7 x8 x9 wh Dx FZ MX:ba} {h:List ba}:Take (x0::x1::x2::x3::x4::x5::x6::x7::x8::x9::wh::Dx::FZ::MX::A::h) A (x0::x1::x2::x3::x4::x5::x6::x7::x8::x9::wh::Dx::FZ::MX::h):=.there MT
theorem iH {A x0 x1 x2 x3 x4 x5 x6 x7 x8 x9 wh Dx FZ MX N9:ba} {h:List ba}:Take (x0::x1::x2::x3::x4::x5::x6::x7::x8::x9::wh::Dx::FZ::MX::N9::A::h) A (x0::x1::x2::x3::x4::x5::x6::x7::x8::x9::wh::Dx::FZ::MX::N9::h):=.there BY
theorem mh {A x0 x1 x2 x3 x4 x5 x6 x7 x8 x9 wh Dx FZ MX N9 WG:ba} {h:List ba}:Take (x0::x1::x2::x3::x4::x5::x6::x7::x8::x9::wh::Dx::FZ::MX::N9::WG::A::h) A (x0::x1::x2::x3::x4::x5::x6::x7::x8::x9::wh::Dx::FZ::MX::N9::WG::h):=.there iH
theorem dZ {v0:Value} (h0:v0.oneCell'=true):∀ u∈[v0],u.oneCell'=true:=bG h0 (fS)
theorem gn {v0 v1:Value} (h0:v0.oneCell'=true) (h1:v1.oneCell'=true):∀ u∈[v0,v1],u.oneCell'=true:=bG h0 (bG h1 (fS))
theorem fk {v0 v1 v2:Value} (h0:v0.oneCell'=true) (h1:v1.oneCell'=true) (h2:v2.oneCell'=true):∀ u∈[v0,v1,v2],u.oneCell'=true:=bG h0 (bG h1 (bG h2 (fS)))
theorem ib {v0 v1 v2 v3 v4 v5:Value} (h0:v0.oneCell'=true) (h1:v1.oneCell'=true) (h2:v2.oneCell'=true) (h3:v3.oneCell'=true) (h4:v4.oneCell'=true) (h5:v5.oneCell'=true):∀ u∈[v0,v1,v2,v3,v4,v5],u.oneCell'=true:=bG h0 (bG h1 (bG h2 (bG h3 (bG h4 (bG h5 (fS))))))
theorem TC {v0 v1 v2 v3 v4 v5 v6 v7:Value} (h0:v0.oneCell'=true) (h1:v1.oneCell'=true) (h2:v2.oneCell'=true) (h3:v3.oneCell'=true) (h4:v4.oneCell'=true) (h5:v5.oneCell'=true) (h6:v6.oneCell'=true) (h7:v7.oneCell'=true):∀ u∈[v0,v1,v2,v3,v4,v5,v6,v7],u.oneCell'=true:=bG h0 (bG h1 (bG h2 (bG h3 (bG h4 (bG h5 (bG h6 (bG h7 (fS))))))))
theorem cn {sl w:aG} (h:k6 sl w:=by repeat' first | with_reducible exact k6.nil | ((with_reducible apply k6.cons);(case h=>exact rfl))):k6 sl w:=h
theorem sK {hs w q:List ba} (h:bj hs w q:=by repeat' first | with_reducible exact bj.nil | with_reducible apply bj.cons | with_reducible exact Take.here | with_reducible apply Take.there):bj hs w q:=h
theorem ng {P:Program} {sl:aG} {dst:Option Tmp} {ty:TypeId} {pos:String} {af:Array Edge} {g:Option (Nat×Bool)} {x :Operand} {ts:Array TypeId} {f:FuncId} {first cap args:List Value} (hx:Is sl x (.func (.func f) first.toArray cap.toArray):=by exact Is.of rfl)  (hb:bP P f:=by exact inferInstance) (he:first++[]++cap=args:=by exact gJ):k7 P sl ⟨dst,.call ⟨.value x,#[],ts⟩,ty,pos,af,g⟩ f args:=bh (xs:=[]) hx (.nil) hb he
theorem bC {P:Program} {sl:aG} {dst:Option Tmp} {ty:TypeId} {pos:String} {af:Array Edge} {g:Option (Nat×Bool)} {x y0:Operand} {ts:Array TypeId} {f:FuncId} {first cap args:List Value} {w0:Value} (hx:Is sl x (.func (.func f) first.toArray cap.toArray):=by exact Is.of rfl) (h0:Is sl y0 w0:=by exact Is.of rfl) (hb:bP P f:=by exact inferInstance) (he:first++[w0]++cap=args:=by exact gJ):k7 P sl ⟨dst,.call ⟨.value x,#[y0],ts⟩,ty,pos,af,g⟩ f args:=bh (xs:=[y0]) hx (.cons h0 (.nil)) hb he
theorem aZ {P:Program} {sl:aG} {dst:Option Tmp} {ty:TypeId} {pos:String} {af:Array Edge} {g:Option (Nat×Bool)} {x y0 y1:Operand} {ts:Array TypeId} {f:FuncId} {first cap args:List Value} {w0 w1:Value} (hx:Is sl x (.func (.func f) first.toArray cap.toArray):=by exact Is.of rfl) (h0:Is sl y0 w0:=by exact Is.of rfl) (h1:Is sl y1 w1:=by exact Is.of rfl) (hb:bP P f:=by exact inferInstance) (he:first++[w0,w1]++cap=args:=by exact gJ):k7 P sl ⟨dst,.call ⟨.value x,#[y0,y1],ts⟩,ty,pos,af,g⟩ f args:=bh (xs:=[y0,y1]) hx (.cons h0 (.cons h1 (.nil))) hb he
theorem dK {P:Program} {sl:aG} {dst:Option Tmp} {ty:TypeId} {pos:String} {af:Array Edge} {g:Option (Nat×Bool)} {x y0 y1 y2:Operand} {ts:Array TypeId} {f:FuncId} {first cap args:List Value} {w0 w1 w2:Value} (hx:Is sl x (.func (.func f) first.toArray cap.toArray):=by exact Is.of rfl) (h0:Is sl y0 w0:=by exact Is.of rfl) (h1:Is sl y1 w1:=by exact Is.of rfl) (h2:Is sl y2 w2:=by exact Is.of rfl) (hb:bP P f:=by exact inferInstance) (he:first++[w0,w1,w2]++cap=args:=by exact gJ):k7 P sl ⟨dst,.call ⟨.value x,#[y0,y1,y2],ts⟩,ty,pos,af,g⟩ f args:=bh (xs:=[y0,y1,y2]) hx (.cons h0 (.cons h1 (.cons h2 (.nil)))) hb he
theorem eS {P:Program} {sl:aG} {dst:Option Tmp} {ty:TypeId} {pos:String} {af:Array Edge} {g:Option (Nat×Bool)} {x y0 y1 y2 y3:Operand} {ts:Array TypeId} {f:FuncId} {first cap args:List Value} {w0 w1 w2 w3:Value} (hx:Is sl x (.func (.func f) first.toArray cap.toArray):=by exact Is.of rfl) (h0:Is sl y0 w0:=by exact Is.of rfl) (h1:Is sl y1 w1:=by exact Is.of rfl) (h2:Is sl y2 w2:=by exact Is.of rfl) (h3:Is sl y3 w3:=by exact Is.of rfl) (hb:bP P f:=by exact inferInstance) (he:first++[w0,w1,w2,w3]++cap=args:=by exact gJ):k7 P sl ⟨dst,.call ⟨.value x,#[y0,y1,y2,y3],ts⟩,ty,pos,af,g⟩ f args:=bh (xs:=[y0,y1,y2,y3]) hx (.cons h0 (.cons h1 (.cons h2 (.cons h3 (.nil))))) hb he
theorem JY {P:Program} {sl:aG} {dst:Option Tmp} {ty:TypeId} {pos:String} {af:Array Edge} {g:Option (Nat×Bool)} {x y0 y1 y2 y3 y4:Operand} {ts:Array TypeId} {f:FuncId} {first cap args:List Value} {w0 w1 w2 w3 w4:Value} (hx:Is sl x (.func (.func f) first.toArray cap.toArray):=by exact Is.of rfl) (h0:Is sl y0 w0:=by exact Is.of rfl) (h1:Is sl y1 w1:=by exact Is.of rfl) (h2:Is sl y2 w2:=by exact Is.of rfl) (h3:Is sl y3 w3:=by exact Is.of rfl) (h4:Is sl y4 w4:=by exact Is.of rfl) (hb:bP P f:=by exact inferInstance) (he:first++[w0,w1,w2,w3,w4]++cap=args:=by exact gJ):k7 P sl ⟨dst,.call ⟨.value x,#[y0,y1,y2,y3,y4],ts⟩,ty,pos,af,g⟩ f args:=bh (xs:=[y0,y1,y2,y3,y4]) hx (.cons h0 (.cons h1 (.cons h2 (.cons h3 (.cons h4 (.nil)))))) hb he
end Go.SL
namespace Go.Proofs.A1
open Go Go.SL
def ints (es:List Int):List (List Value):=es.map fun e=>[.int .i64 e]
theorem cZ (es:List Int):(ints es).length=es.length:=by simp [ints]
theorem gM {es:List Int} {k:Nat} (h:k<es.length):(ints es)[k]? = some [.int .i64 es[k]]:=by simp [ints,h]
theorem jc {es:List Int} {k:Nat} (h:k<es.length):ints es≠[]:=by intro e;have:=congrArg List.length e;rw [cZ] at this;simp at this;subst this;simp at h
inductive bU:List Value→List Int→Prop
 | nil:bU [] []
 | cons {e:Int} {vs:List Value} {es:List Int} (h:bU vs es):bU (.int .i64 e::vs) (e::es)
theorem bU.eq {vs:List Value} {es:List Int} (h:bU vs es):(vs.map fun v=>[v])=ints es:=by
 induction h with
 | nil=>rfl
 | cons h ih=>simp only [List.map_cons,ints,ih]
theorem Nf (c:Int) (w:World):aj Tryz.prog 323 [.int .u8 c] w (.bool (Fl c)):=by
 refine ah Tryz.func323 rfl rfl ?_
 (refine Jr<|Ja rfl<|Ji<|Jv rfl<|JF rfl<|Jv rfl<|jT rfl rfl rfl rfl ?_;refine aI rfl rfl inferInstance (fun hg bL=>(kB (.cA hg rfl) (.of rfl))) rfl ?_;refine ab (c7 (.of rfl) rfl) rfl ?_;refine Jv rfl<|jT rfl rfl rfl rfl ?_;refine aI rfl rfl inferInstance (fun hg bL=>(kB (.of rfl) (.cA hg rfl))) rfl ?_;refine aI rfl rfl inferInstance (fun hg bL=>(aY (.cA hg rfl))) rfl ?_;refine gE rfl rfl inferInstance (fun hg bL=>(aY (.of rfl))) rfl ?_;refine gE rfl rfl inferInstance (fun hg bL=>(kB (.cA hg rfl) (.of rfl))) rfl ?_;refine aI rfl rfl inferInstance (fun hg bL=>(gW hg (.cA hg rfl) rfl)) rfl ?_;refine ab (bW (.of rfl) rfl) rfl ?_;refine Ja rfl<|Jn<|Je<|JT ?_)
 rfl
theorem RH (c:Int) (w:World):aj Tryz.prog 324 [.int .u8 c] w (.bool (RI c)):=by
 refine ah Tryz.func324 rfl rfl ?_
 (refine Jr<|Ja rfl<|Ji<|Jv rfl<|JF rfl<|Jv rfl<|jT rfl rfl rfl rfl ?_;refine aI rfl rfl inferInstance (fun hg bL=>(kB (.cA hg rfl) (.of rfl))) rfl ?_;refine ab (c7 (.of rfl) rfl) rfl ?_;refine Ja rfl<|Jn<|Je<|JT ?_)
 rfl
theorem lz (h:Bool) (e:Int) (w:World):aj Tryz.prog 129 [.bool h,.int .i64 e] w (.int .i64 (bS h e)):=by
 refine ah Tryz.func129 rfl rfl ?_
 (refine Jr<|Ja rfl<|Jn<|Jq<|Jr<|Jv rfl<|Jn<|pV rfl (fun aq=>?_) fun aq=>?_;refine Jr<|Jv rfl<|Ja rfl<|Jn<|Ju<|JT ?_;rotate_left;refine Jk<|Jr<|Ja rfl<|Jn<|Je<|JT ?_;rotate_right)
 all_goals simp [bS, *]
theorem tp (n l m:Int) (w:World):aj Tryz.prog 67 [.int .i64 n,.int .i64 l,.int .i64 m] w (.int .i64 (fR n l m)):=by
 refine ah Tryz.func67 rfl rfl ?_
 (refine Jr<|Ja rfl<|Ji<|Jv rfl<|Jv rfl<|JA rfl<|Jv rfl<|jT rfl rfl rfl rfl ?_;refine jT rfl rfl rfl rfl ?_;refine aI rfl rfl inferInstance (fun hg bL=>(my (.cA hg rfl) (.cA hg rfl))) rfl ?_;refine ab (bW (.of rfl) rfl) rfl ?_;refine ag aZ rfl (fun w' az=>(lz _ 3 w')) ?_;refine Ja rfl<|Jn<|Je<|JT ?_)
 rfl
theorem O1 (s:ByteArray) (w:World):aj Tryz.prog 270 [.string s] w (.bool (jD s)):=by
 refine ah Tryz.func270 rfl rfl ?_
 (refine Jr<|Ja rfl<|Jn<|Jq<|Jr<|Jv rfl<|ab (eR (.of rfl)) rfl ?_;refine JC rfl<|Jv rfl<|jT rfl rfl rfl rfl ?_;refine aI rfl rfl inferInstance (fun hg bL=>(eR (.cA hg rfl))) rfl ?_;refine aI rfl rfl inferInstance (fun hg bL=>(my (.cA hg rfl) (.of rfl))) rfl ?_;refine ab (bW (.of rfl) rfl) rfl ?_;refine Jv rfl<|jT rfl rfl rfl rfl ?_;refine aI rfl rfl inferInstance (fun hg bL=>(oG (.cA hg rfl) (.of rfl) (by omega) (by omega))) rfl ?_;refine mq rfl rfl (fun hg=>(bh (.of rfl) (.cons (.cA hg rfl) .nil) inferInstance gJ)) rfl (fun hg w' az=>(Nf _ w')) ?_;refine aI rfl rfl inferInstance (fun hg bL=>(fG (.cA hg rfl))) rfl ?_;refine ab (bW (.of rfl) rfl) rfl ?_;refine Jn<|pV rfl (fun aq=>?_) fun aq=>?_;refine Jr<|Ja rfl<|Jn<|Ju<|JT ?_;rotate_left;refine Jk<|Jq<|Jr<|Ja rfl<|Jn<|J0 ?_;rotate_right)
 ·congr 1;symm
  change (_∨_)∨Fl (bt s 0)=false at aq
  unfold jD
  rcases aq with (h | h) | h
  ·simp;omega
  ·simp;omega
  ·simp [h]
 change (_∧_)∧Fl (bt s 0)=true at aq
 obtain ⟨⟨h0,h1⟩,h2⟩:=aq
 have hN:jD s=okF s 1:=by
  unfold jD
  rw [h2,decide_eq_true (by omega),decide_eq_true (by omega)];rfl
 rw [hN]
 refine aX (fun k:Nat=>1≤k∧k≤s.size∧okF s 1=okF s k) (fun k=>[(3,.int .i64 k),(0,.string s)]) (fun _=>[]) (fun k=>s.size-k) ?_ ?_
 ·apply aK 1 ⟨by omega,by omega,rfl⟩
  case hs1=>exact cn
  case ht=>(try simp only [List.take_zero,List.map_nil,List.nil_append]);exact .nil
 intro k ⟨QL,hk,hf⟩
 rw [hf]
 by_cases aN:k<s.size
 ·rw [yT aN]
  (refine Jq<|Jr<|Jv rfl<|Jv rfl<|ab (eR (.of rfl)) rfl ?_;refine JA rfl<|Jn<|Jd rfl fun aq=>Jk<|Jq<|J0<|Jr<|Jv rfl<|Jv rfl<|ab (oG (.of rfl) (.of rfl) (by omega) aq) rfl ?_;refine ag bC rfl (fun w' az=>(Nf _ w')) ?_;refine JH rfl<|Jv rfl<|jT rfl rfl rfl rfl ?_;refine jT rfl rfl rfl rfl ?_;refine aI rfl rfl inferInstance (fun hg bL=>(oG (.cA hg rfl) (.cA hg rfl) (by omega) aq)) rfl ?_;refine mq rfl rfl (fun hg=>(bh (.of rfl) (.cons (.cA hg rfl) .nil) inferInstance gJ)) rfl (fun hg w' az=>(RH _ w')) ?_;refine aI rfl rfl inferInstance (fun hg bL=>(fG (.cA hg rfl))) rfl ?_;refine ab (c7 (.of rfl) rfl) rfl ?_;refine Jv rfl<|jT rfl rfl rfl rfl ?_;refine jT rfl rfl rfl rfl ?_;refine aI rfl rfl inferInstance (fun hg bL=>(oG (.cA hg rfl) (.cA hg rfl) (by omega) aq)) rfl ?_;refine aI rfl rfl inferInstance (fun hg bL=>(jr (.cA hg rfl) (.of rfl))) rfl ?_;refine ab (c7 (.of rfl) rfl) rfl ?_;refine Jn<|pV rfl (fun aq=>?_) fun aq=>?_;refine Jr<|Ja rfl<|Jn<|Je<|Jm<|Jh<|Jh<|Jm<|Jh<|JT ?_;rotate_left;refine Jw<|Jj<|Jt<|Jg<|Jv rfl<|JB rfl (by omega)<|Ja rfl<|Jn ?_;rotate_right)
  ·congr 1;symm
   change (Fl (bt s k)=false∧RI (bt s k)=false)∧bt s k≠95 at aq
   simp [okB,aq]
  ·have ho:okB (bt s k)=true:=by
    change (Fl (bt s k)=true∨RI (bt s k)=true)∨¬ bt s k≠95 at aq
    rcases aq with (h | h) | h
    ·simp [okB,h]
    ·simp [okB,h]
    ·simp [okB,Decidable.not_not.1 h]
   rw [ho,Bool.true_and]
   rw [yT aN,ho,Bool.true_and] at hf
   rw [← hf]
   apply aL (k+1) ⟨by omega,by omega,hf⟩ (by omega)
   case hs1=>exact cn
   case ht=>(try simp only [List.take_zero,List.map_nil,List.nil_append]);exact .nil
 ·(refine Jq<|Jr<|Jv rfl<|Jv rfl<|ab (eR (.of rfl)) rfl ?_;refine JA rfl<|Jn<|Jc rfl fun aq=>Jp<|Jl<|Jo<|Jt<|Jr<|Ja rfl<|Jn<|Je<|JT ?_)
  rw [D6 (by omega)]
theorem UJ (s:ByteArray) (w:World):aj Tryz.prog 189 [.string s] w (.int .i64 (YN s)):=by
 refine ah Tryz.func189 rfl rfl ?_
 (refine Jr<|Ja rfl<|Ji<|Jv rfl<|ag bC rfl (fun w' az=>(O1 s w')) ?_;refine JH rfl<|ag aZ rfl (fun w' az=>(lz _ 8 w')) ?_;refine Ja rfl<|Jn<|Je<|JT ?_)
 rfl
theorem zw (v:Value) (es:List Int) (w:World) (h:Rd w v 1 (ints es)):aj Tryz.prog 28 [v] w (.int .i64 (aV es)):=by
 obtain ⟨a,cap,b,o,rfl,df,bO,ha,hc⟩:=h
 rw [cZ] at *
 unfold maxLen at bO
 refine ah Tryz.func28 rfl rfl ?_
 refine Jr<|Ja rfl<|Jn<|Jq<|Jr<|Ja rfl<|Jn<|J0 ?_
 refine aX (fun k:Nat=>k≤es.length∧aV es=aV (es.drop k)) (fun k=>[(3,.int .i64 k),(0,.slice a es.length cap)]) (fun _=>[]) (fun k=>es.length-k) ?_ ?_
 ·apply aK 0 ⟨Nat.zero_le _,rfl⟩
  case hs1=>exact cn
  case ht=>(try simp only [List.take_zero,List.map_nil,List.nil_append]);exact .nil
 intro k ⟨hk,hf⟩
 by_cases aN:k<es.length
 ·have cM:=ha (jc aN)
  have aD:=WM hc (gM aN)
  have hs:=rM aN
  (refine Jq<|Jr<|Jv rfl<|Jv rfl<|JI rfl<|JA rfl<|Jn<|Jd rfl fun aq=>Jk<|Jq<|J0<|Jr<|Jv rfl<|Jv rfl<|ab (fM cM aq) rfl ?_;refine ab (ai (.of rfl) (At.base aD rfl)) rfl ?_;refine JD rfl<|Jn<|fY rfl (fun aq=>?_) fun aq=>?_;refine Jr<|Jv rfl<|Jv rfl<|ab (aC (.of rfl) (.of rfl) cM (by omega) (by assumption) bo) rfl ?_;refine ab (ai (.of rfl) (At.base aD rfl)) rfl ?_;refine Ja rfl<|Jn<|Je<|Jm<|Jh<|Jh<|Jm<|Jh<|JT ?_;rotate_left;refine Jw<|Jj<|Jt<|Jg<|Jv rfl<|JB rfl (by omega)<|Ja rfl<|Jn ?_;rotate_right)
  ·rw [hf,hs,if_pos aq]
  ·apply aL (k+1) ⟨by omega,by rw [hf,hs,if_neg aq]⟩ (by omega)
   case hs1=>exact cn
   case ht=>(try simp only [List.take_zero,List.map_nil,List.nil_append]);exact .nil
 ·refine Jq<|Jr<|Jv rfl<|Jv rfl<|JI rfl<|JA rfl<|Jn<|Jc rfl fun aq=>Jp<|Jl<|Jo<|Jt<|Jr<|Ja rfl<|Jn<|Je<|JT ?_
  rw [hf,List.drop_of_length_le (by omega)];rfl
theorem l7 {v:Value} {cs:List Value} {es:List Int} {w:World} (h:Rd w v 1 (cs.map fun v=>[v])) (hl:bU cs es):aj Tryz.prog 28 [v] w (.int .i64 (aV es)):=
 zw v es w (by rw [← hl.eq];exact h)
theorem dL (h:Bool) (e:Int) (w:World):aj Tryz.prog 147 [.bool h,.int .i64 e] w (.int .i64 (bS h e)):=by
 refine ah Tryz.func147 rfl rfl ?_
 (refine Jr<|Ja rfl<|Jn<|Jq<|Jr<|Jv rfl<|Jn<|pV rfl (fun aq=>?_) fun aq=>?_;refine Jr<|Jv rfl<|Ja rfl<|Jn<|Ju<|JT ?_;rotate_left;refine Jk<|Jr<|Ja rfl<|Jn<|Je<|JT ?_;rotate_right)
 all_goals simp [bS, *]
theorem lQ (n l m:Int) (w:World):aj Tryz.prog 134 [.int .i64 n,.int .i64 l,.int .i64 m] w (.int .i64 (fR n l m)):=by
 refine ah Tryz.func134 rfl rfl ?_
 (refine Jr<|Ja rfl<|Ji<|Jv rfl<|Jv rfl<|JA rfl<|Jv rfl<|jT rfl rfl rfl rfl ?_;refine jT rfl rfl rfl rfl ?_;refine aI rfl rfl inferInstance (fun hg bL=>(my (.cA hg rfl) (.cA hg rfl))) rfl ?_;refine ab (bW (.of rfl) rfl) rfl ?_;refine ag aZ rfl (fun w' az=>(dL _ 3 w')) ?_;refine Ja rfl<|Jn<|Je<|JT ?_)
 rfl
theorem Ml (v:Value) (es:List Int) (w:World) (h:Rd w v 1 (ints es)):aj Tryz.prog 111 [v] w (.int .i64 (aV es)):=by
 obtain ⟨a,cap,b,o,rfl,df,bO,ha,hc⟩:=h
 rw [cZ] at *
 unfold maxLen at bO
 refine ah Tryz.func111 rfl rfl ?_
 refine Jr<|Ja rfl<|Jn<|Jq<|Jr<|Jv rfl<|JI rfl<|Jv rfl<|Jn<|J0 ?_
 refine aX (fun k:Nat=>k≤es.length∧aV es=aV (es.drop k)) (fun k=>[(7,.int .i64 k),(6,.int .i64 es.length),(5,.slice a es.length cap)]) (fun _=>[]) (fun k=>es.length-k) ?_ ?_
 ·apply aK 0 ⟨Nat.zero_le _,rfl⟩
  case hs1=>exact cn
  case ht=>(try simp only [List.take_zero,List.map_nil,List.nil_append]);exact .nil
 intro k ⟨hk,hf⟩
 by_cases aN:k<es.length
 ·have cM:=ha (jc aN)
  have aD:=WM hc (gM aN)
  have hs:=rM aN
  (refine Jr<|JA rfl<|Jn<|Jq<|Jd rfl fun aq=>Jk<|Jq<|J0<|Jr<|ab (fM cM aq) rfl ?_;refine ab (ai (.of rfl) (At.base aD rfl)) rfl ?_;refine Ja rfl<|Ji<|Jv rfl<|JD rfl<|Jn<|fY rfl (fun aq=>?_) fun aq=>?_;refine Jr<|Jv rfl<|Ja rfl<|Jn<|Je<|Jm<|Jh<|Jh<|Jm<|Jh<|JT ?_;rotate_left;refine Jw<|Jj<|Jt<|Jg<|JB rfl (by omega)<|Jv rfl<|Jn ?_;rotate_right)
  ·rw [hf,hs,if_pos aq]
  ·apply aL (k+1) ⟨by omega,by rw [hf,hs,if_neg aq]⟩ (by omega)
   case hs1=>exact cn
   case ht=>(try simp only [List.take_zero,List.map_nil,List.nil_append]);exact .nil
 ·refine Jr<|JA rfl<|Jn<|Jq<|Jc rfl fun aq=>Jp<|Jl<|Jo<|Jt<|Jr<|Ja rfl<|Jn<|Je<|JT ?_
  rw [hf,List.drop_of_length_le (by omega)];rfl
theorem dF {v:Value} {cs:List Value} {es:List Int} {w:World} (h:Rd w v 1 (cs.map fun v=>[v])) (hl:bU cs es):aj Tryz.prog 111 [v] w (.int .i64 (aV es)):=
 Ml v es w (by rw [← hl.eq];exact h)
theorem Tq {s:ByteArray} {p:Nat} (h:p<s.size):bt s p=((s[p]'h).toNat:Nat):=by
 unfold bt
 have:s.data.toList[p]? = some (s[p]'h):=by
  rw [Array.getElem?_toList]
  exact getElem?_pos s.data p h
 rw [this];rfl
theorem xN {s:ByteArray} {p:Nat} (h:p<s.size):(bt s p<128∧((Utf8.decode s p).1:Int)=bt s p∧(Utf8.decode s p).2=1)∨(128≤bt s p∧(128:Int)≤(Utf8.decode s p).1∧1≤(Utf8.decode s p).2):=by
 rw [Tq h]
 by_cases ha:(s[p]'h).toNat<128
 ·have:=decode_ascii s p h ha
  left;rw [this];exact ⟨by omega,rfl,rfl⟩
 ·have:=decode_high s p h (by omega)
  right;omega
theorem A7 {s:ByteArray}:s.size=0↔s=⟨#[]⟩:=by
 constructor
 ·intro h
  have:s.data=#[]:=Array.eq_empty_of_size_eq_zero h
  cases s;simp_all
 ·rintro rfl;rfl
theorem Ed {c:Int}:Fl c=true↔(65≤c∧c≤90)∨(97≤c∧c≤122):=by simp [Fl]
theorem yU {c:Int}:okB c=true↔((65≤c∧c≤90)∨(97≤c∧c≤122))∨(48≤c∧c≤57)∨c=95:=by simp [okB,Fl,RI,or_assoc]
theorem CL (s:ByteArray) (w:World):aj Tryz.prog 187 [.string s] w (.bool (jD s)):=by
 refine ah Tryz.func187 rfl rfl ?_
 (refine Jr<|Ja rfl<|Jn<|Jq<|Jr<|Jv rfl<|bb (E6 (.of rfl)) rfl fun _ _=>?_;refine Jn<|J0 ?_)
 rename_i bi hbi
 refine aX (fun p:Nat=>p≤s.size∧(p=0∨(1≤p∧Fl (bt s 0)=true∧okF s 1=okF s p))) (fun _=>[(7,.pointer (some ⟨bi,0,none⟩)),(0,.string s)]) (fun p=>[bD bi (.stringIter s p)]) (fun p=>s.size-p) ?_ ?_
 ·apply aK 0 ⟨by omega,.inl rfl⟩
  case hs1=>exact cn
  case ht=>(try simp only [List.take_zero,List.map_nil,List.nil_append]);exact .cons .here .nil
 intro p ⟨hp,hI⟩
 (refine Jr<|Gl (.of rfl) .here rfl (fun aN=>?_) fun aN=>?_;refine JJ rfl rfl<|Jn<|Jq<|cR (.of rfl) ?_;refine Jk<|J0<|Jr<|JJ rfl rfl<|JJ rfl rfl<|Ja rfl<|Ja rfl<|Ji<|Jv rfl<|JG rfl<|Jv rfl<|jT rfl rfl rfl rfl ?_;refine aI rfl rfl inferInstance (fun hg bL=>(kB (.cA hg rfl) (.of rfl))) rfl ?_;refine ab (c7 (.of rfl) rfl) rfl ?_;refine Jv rfl<|jT rfl rfl rfl rfl ?_;refine aI rfl rfl inferInstance (fun hg bL=>(yH (.cA hg rfl) (.of rfl))) rfl ?_;refine aI rfl rfl inferInstance (fun hg bL=>(aY (.cA hg rfl))) rfl ?_;refine gE rfl rfl inferInstance (fun hg bL=>(aY (.of rfl))) rfl ?_;refine gE rfl rfl inferInstance (fun hg bL=>(kB (.cA hg rfl) (.of rfl))) rfl ?_;refine aI rfl rfl inferInstance (fun hg bL=>(gW hg (.cA hg rfl) rfl)) rfl ?_;refine ab (bW (.of rfl) rfl) rfl ?_;refine Ja rfl<|Ji<|Jv rfl<|JH rfl<|Jv rfl<|jT rfl rfl rfl rfl ?_;refine aI rfl rfl inferInstance (fun hg bL=>(nF (.cA hg rfl) (.of rfl))) rfl ?_;refine aI rfl rfl inferInstance (fun hg bL=>(aY (.cA hg rfl))) rfl ?_;refine gE rfl rfl inferInstance (fun hg bL=>(aY (.of rfl))) rfl ?_;refine gE rfl rfl inferInstance (fun hg bL=>(nD (.cA hg rfl) (.of rfl))) rfl ?_;refine gE rfl rfl inferInstance (fun hg bL=>(aY (.cA hg rfl))) rfl ?_;refine gE rfl rfl inferInstance (fun hg bL=>(aY (.of rfl))) rfl ?_;refine gE rfl rfl inferInstance (fun hg bL=>(my (.cA hg rfl) (.of rfl))) rfl ?_;refine gE rfl rfl inferInstance (fun hg bL=>(nC hg (.cA hg rfl) rfl)) rfl ?_;refine gE rfl rfl inferInstance (fun hg bL=>(aY (.cA hg rfl))) rfl ?_;refine gE rfl rfl inferInstance (fun hg bL=>(aY (.of rfl))) rfl ?_;refine gE rfl rfl inferInstance (fun hg bL=>(jr (.cA hg rfl) (.of rfl))) rfl ?_;refine gE rfl rfl inferInstance (fun hg bL=>(gW hg (.cA hg rfl) rfl)) rfl ?_;refine aI rfl rfl inferInstance (fun hg bL=>(nC hg (.cA hg rfl) rfl)) rfl ?_;refine ab (c7 (.of rfl) rfl) rfl ?_;refine Jn<|pV rfl (fun aq=>?_) fun aq=>?_;refine Jr<|Ja rfl<|Jn<|Je<|Jm<|Jh<|Jm<|Jh<|JT ?_;rotate_left;refine Jw<|Jj<|Jt ?_;rotate_right;rotate_left 2;refine JJ rfl rfl<|Jn<|Jq<|bR (.of rfl) ?_;refine Jp<|Jl<|Jo<|Jt<|Jr<|Jv rfl<|ab (iI (.of rfl) (.of rfl)) rfl ?_;refine Jv rfl<|jT rfl rfl rfl rfl ?_;refine aI rfl rfl inferInstance (fun hg bL=>(eR (.cA hg rfl))) rfl ?_;refine aI rfl rfl inferInstance (fun hg bL=>(kB (.cA hg rfl) (.of rfl))) rfl ?_;refine ab (c7 (.of rfl) rfl) rfl ?_;refine Ja rfl<|Jn<|Je<|JT ?_;rotate_right 2)
 ·congr 1;symm
  unfold jD
  have hd:=xN aN
  rcases hI with rfl | ⟨h1,h2,h3⟩
  ·have:Fl (bt s 0)=false:=by rw [← Bool.not_eq_true,Ed];omega
   simp [this]
  ·have:okF s p=false:=by
    rw [yT aN]
    have:okB (bt s p)=false:=by rw [← Bool.not_eq_true,yU];omega
    rw [this];rfl
   rw [h3,this];simp
 ·have hd:=xN aN
  have ho:okB (bt s p)=true:=by rw [yU];omega
  have hw:(Utf8.decode s p).2=1:=by rw [yU] at ho;omega
  rw [hw]
  have hn:Fl (bt s 0)=true∧okF s 1=okF s (p+1):=by
   rcases hI with rfl | ⟨h1,h2,h3⟩
   ·refine ⟨?_,rfl⟩
    rw [Ed];omega
   ·exact ⟨h2,by rw [h3,yT aN,ho];rfl⟩
  apply aL (p+1) ⟨by omega,.inr ⟨by omega,hn⟩⟩ (by omega)
  case hs1=>exact cn
  case ht=>(try simp only [List.take_zero,List.map_nil,List.nil_append]);exact .cons .here .nil
 ·unfold jD
  congr 1
  by_cases h0:s.size=0
  ·have:s=⟨#[]⟩:=A7.1 h0
   rw [decide_eq_false (p:=s≠⟨#[]⟩) (fun h=>h this),decide_eq_false (p:=0<s.size) (by omega)];rfl
  ·rw [decide_eq_true (p:=s≠⟨#[]⟩) (fun h=>h0 (A7.2 h)),decide_eq_true (p:=0<s.size) (by omega)]
   rcases hI with rfl | ⟨h1,h2,h3⟩
   ·omega
   ·rw [h2,h3,D6 (by omega)]
    simp
    omega
end Go.Proofs.A1
namespace Go.Proofs.A1
open Go Go.SL
def Sr.cells (x:Sr):List Value:=[.string x.nm,.int .i64 x.mx]
def vt (l:List Sr):List (List Value):=l.map Sr.cells
def nw (l:List Sr):List Value:=(vt l).flatten
theorem cC (l:List Sr):(vt l).length=l.length:=by simp [vt]
theorem fD {l:List Sr} {k:Nat} (h:k<l.length):(vt l)[k]? = some ((Sr.cells) l[k]):=by simp [vt,h]
theorem im {l:List Sr} {k:Nat} (h:k<l.length):vt l≠[]:=by intro e;have:=congrArg List.length e;rw [cC] at this;simp at this;subst this;simp at h
theorem GB (l:List Sr):∀ r∈vt l,r.length=2:=fun r hr=>by obtain ⟨x,_,rfl⟩:=List.mem_map.1 hr;rfl
theorem KY (l:List Sr):∀ r∈vt l,∀ u∈r,u.oneCell'=true:=fun r hr=>by obtain ⟨x,_,rfl⟩:=List.mem_map.1 hr;exact bG rfl (bG rfl (fS))
theorem DR (l:List Sr):(nw l).length=l.length*2:=by unfold nw;rw [fK (GB l),cC]
theorem KX (a b:List Sr):nw (a++b)=nw a++nw b:=by unfold nw vt;rw [List.map_append,List.flatten_append]
theorem Aw {l:List Sr} {k:Nat} (h:k<l.length):nw (l.take (k+1))=nw (l.take k)++(Sr.cells) l[k]:=by rw [List.take_succ_eq_append_getElem h,KX];unfold nw vt;simp
theorem cE {c:Cx} {hs hs':List ba} {w:World} {l:List Sr} {E:TypeId} {v:Value} {n:Nat} (hm:Mem c hs w) (ht:Take hs (row E 2 v n (nw l)) hs') (hn:l.length=n):Rd w v 2 (vt l):=hm.o9 ht rfl (GB l) (by rw [cC,hn])
def De.cells (x:De):List Value:=[.string x.nm,.int .i64 x.mx,.bool x.pr]
def u3 (l:List De):List (List Value):=l.map De.cells
def lq (l:List De):List Value:=(u3 l).flatten
theorem bX (l:List De):(u3 l).length=l.length:=by simp [u3]
theorem fa {l:List De} {k:Nat} (h:k<l.length):(u3 l)[k]? = some ((De.cells) l[k]):=by simp [u3,h]
theorem gm {l:List De} {k:Nat} (h:k<l.length):u3 l≠[]:=by intro e;have:=congrArg List.length e;rw [bX] at this;simp at this;subst this;simp at h
theorem Db (l:List De):∀ r∈u3 l,r.length=3:=fun r hr=>by obtain ⟨x,_,rfl⟩:=List.mem_map.1 hr;rfl
theorem My (l:List De):∀ r∈u3 l,∀ u∈r,u.oneCell'=true:=fun r hr=>by obtain ⟨x,_,rfl⟩:=List.mem_map.1 hr;exact bG rfl (bG rfl (bG rfl (fS)))
theorem EB (l:List De):(lq l).length=l.length*3:=by unfold lq;rw [fK (Db l),bX]
theorem Mx (a b:List De):lq (a++b)=lq a++lq b:=by unfold lq u3;rw [List.map_append,List.flatten_append]
theorem BB {l:List De} {k:Nat} (h:k<l.length):lq (l.take (k+1))=lq (l.take k)++(De.cells) l[k]:=by rw [List.take_succ_eq_append_getElem h,Mx];unfold lq u3;simp
theorem cG {c:Cx} {hs hs':List ba} {w:World} {l:List De} {E:TypeId} {v:Value} {n:Nat} (hm:Mem c hs w) (ht:Take hs (row E 3 v n (lq l)) hs') (hn:l.length=n):Rd w v 3 (u3 l):=hm.o9 ht rfl (Db l) (by rw [bX,hn])
def Ti.cells (x:Ti):List Value:=[.string x.nm,.int .i64 x.fr,.int .i64 x.to]
def tW (l:List Ti):List (List Value):=l.map Ti.cells
def pz (l:List Ti):List Value:=(tW l).flatten
theorem bN (l:List Ti):(tW l).length=l.length:=by simp [tW]
theorem ed {l:List Ti} {k:Nat} (h:k<l.length):(tW l)[k]? = some ((Ti.cells) l[k]):=by simp [tW,h]
theorem eT {l:List Ti} {k:Nat} (h:k<l.length):tW l≠[]:=by intro e;have:=congrArg List.length e;rw [bN] at this;simp at this;subst this;simp at h
theorem Gu (l:List Ti):∀ r∈tW l,r.length=3:=fun r hr=>by obtain ⟨x,_,rfl⟩:=List.mem_map.1 hr;rfl
theorem KL (l:List Ti):∀ r∈tW l,∀ u∈r,u.oneCell'=true:=fun r hr=>by obtain ⟨x,_,rfl⟩:=List.mem_map.1 hr;exact bG rfl (bG rfl (bG rfl (fS)))
theorem DN (l:List Ti):(pz l).length=l.length*3:=by unfold pz;rw [fK (Gu l),bN]
theorem KK (a b:List Ti):pz (a++b)=pz a++pz b:=by unfold pz tW;rw [List.map_append,List.flatten_append]
theorem Au {l:List Ti} {k:Nat} (h:k<l.length):pz (l.take (k+1))=pz (l.take k)++(Ti.cells) l[k]:=by rw [List.take_succ_eq_append_getElem h,KK];unfold pz tW;simp
theorem cD {c:Cx} {hs hs':List ba} {w:World} {l:List Ti} {E:TypeId} {v:Value} {n:Nat} (hm:Mem c hs w) (ht:Take hs (row E 3 v n (pz l)) hs') (hn:l.length=n):Rd w v 3 (tW l):=hm.o9 ht rfl (Gu l) (by rw [bN,hn])
def Po.cells (x:Po):List Value:=[.int .i64 x.lv,.string x.ou,.string x.ip]
def sN (l:List Po):List (List Value):=l.map Po.cells
def iW (l:List Po):List Value:=(sN l).flatten
theorem cU (l:List Po):(sN l).length=l.length:=by simp [sN]
theorem gY {l:List Po} {k:Nat} (h:k<l.length):(sN l)[k]? = some ((Po.cells) l[k]):=by simp [sN,h]
theorem jO {l:List Po} {k:Nat} (h:k<l.length):sN l≠[]:=by intro e;have:=congrArg List.length e;rw [cU] at this;simp at this;subst this;simp at h
theorem Hb (l:List Po):∀ r∈sN l,r.length=3:=fun r hr=>by obtain ⟨x,_,rfl⟩:=List.mem_map.1 hr;rfl
theorem D1 (l:List Po):∀ r∈sN l,∀ u∈r,u.oneCell'=true:=fun r hr=>by obtain ⟨x,_,rfl⟩:=List.mem_map.1 hr;exact bG rfl (bG rfl (bG rfl (fS)))
theorem ja (l:List Po):(iW l).length=l.length*3:=by unfold iW;rw [fK (Hb l),cU]
theorem Lh (a b:List Po):iW (a++b)=iW a++iW b:=by unfold iW sN;rw [List.map_append,List.flatten_append]
theorem AX {l:List Po} {k:Nat} (h:k<l.length):iW (l.take (k+1))=iW (l.take k)++(Po.cells) l[k]:=by rw [List.take_succ_eq_append_getElem h,Lh];unfold iW sN;simp
theorem cy {c:Cx} {hs hs':List ba} {w:World} {l:List Po} {E:TypeId} {v:Value} {n:Nat} (hm:Mem c hs w) (ht:Take hs (row E 3 v n (iW l)) hs') (hn:l.length=n):Rd w v 3 (sN l):=hm.o9 ht rfl (Hb l) (by rw [cU,hn])
def fg (l:List ByteArray):List (List Value):=l.map fun s=>[.string s]
def aM (l:List ByteArray):List Value:=l.map Value.string
theorem bV (l:List ByteArray):(fg l).length=l.length:=by simp [fg]
theorem jz {l:List ByteArray} {k:Nat} (h:k<l.length):(fg l)[k]? = some [.string l[k]]:=by simp [fg,h]
theorem mw {l:List ByteArray} {k:Nat} (h:k<l.length):fg l≠[]:=by intro e;have:=congrArg List.length e;rw [bV] at this;simp at this;subst this;simp at h
theorem Gw (l:List ByteArray):∀ r∈fg l,r.length=1:=fun r hr=>by obtain ⟨x,_,rfl⟩:=List.mem_map.1 hr;rfl
theorem yw (l:List ByteArray):∀ r∈fg l,∀ u∈r,u.oneCell'=true:=fun r hr=>by obtain ⟨x,_,rfl⟩:=List.mem_map.1 hr;exact bG rfl fS
theorem qm (l:List ByteArray):aM l=(fg l).flatten:=by
 induction l with
 | nil=>rfl
 | cons x l ih=>show [Value.string x]++aM l=_;rw [ih];rfl
theorem cS (l:List ByteArray):(aM l).length=l.length:=by simp [aM]
theorem dO (a b:List ByteArray):aM (a++b)=aM a++aM b:=by simp [aM]
theorem br {c:Cx} {hs hs':List ba} {w:World} {l:List ByteArray} {E:TypeId} {v:Value} {n:Nat} (hm:Mem c hs w) (ht:Take hs (row E 1 v n (aM l)) hs') (hn:l.length=n):Rd w v 1 (fg l):=hm.o9 ht (qm l) (Gw l) (by rw [bV,hn])
structure RR (w:World) (r:Ro) (s d t p:Value):Prop where
 sr:Rd w s 2 (vt r.sr)
 de:Rd w d 3 (u3 r.de)
 ti:Rd w t 3 (tW r.ti)
 po:Rd w p 3 (sN r.po)
theorem RR.keeps {w w':World} {r:Ro} {s d t p:Value} (h:RR w r s d t p) (hk:aF [] w w'):RR w' r s d t p:=⟨h.sr.keeps hk,h.de.keeps hk,h.ti.keeps hk,h.po.keeps hk⟩
def RA (r:Ro) (s d t p:Value):Value:=.agg #[.int .i64 r.lv,.int .i64 r.ma,s,d,t,p]
end Go.Proofs.A1
namespace Go.Proofs.A1
open Go Go.SL
abbrev JQ (b:Nat) (r:Ro) (s d t p:Value):ba:=bD b (.cells #[.int .i64 r.lv,.int .i64 r.ma,s,d,t,p] 27 (0,0))
abbrev JP (b:Nat) (r:Ro) (s d t p:Value):ba:=bD b (.cells #[.int .i64 r.lv,.int .i64 r.ma,s,d,t,p] 41 (0,0))
abbrev J1 (r:Ro) (v:Value):ba:=row 186 2 v r.sr.length (nw r.sr)
abbrev J2 (r:Ro) (v:Value):ba:=row 90 3 v r.de.length (lq r.de)
abbrev J3 (r:Ro) (v:Value):ba:=row 187 3 v r.ti.length (pz r.ti)
abbrev J4 (r:Ro) (v:Value):ba:=row 188 3 v r.po.length (iW r.po)
abbrev JW (v:Value) (l:List ByteArray):ba:=row 9 1 v l.length (aM l)
end Go.Proofs.A1
namespace Go.SL
open Go
def J8 (As:List ba):ba where
 sat h fp:=bY h As fp
 loc:=fun hs hb=>hs.loc hb
 own:=fun hs b hb=>hs.own b hb
def fQ (E:TypeId):List Value→List (List Value)→List ba
 | v::vs,x::xs=>row E 1 v x.length x::fQ E vs xs
 | _,_=>[]
def mz (E:TypeId) (vs:List Value) (xs:List (List Value)):ba:=J8 (fQ E vs xs)
theorem xe {E:TypeId} {v:Value} {x:List Value}:∀ {vs:List Value} {xs:List (List Value)} {j:Nat},vs[j]? = some v→xs[j]? = some x→∃ r,Take (fQ E vs xs) (row E 1 v x.length x) r
 | [],_,j,h,_=>by simp at h
 | _::_,[],j,_,h=>by simp at h
 | v' :: vs, x' :: xs, 0, h1, h2 => by
  simp only [List.getElem?_cons_zero,Option.some.injEq] at h1 h2
  subst h1 h2
  exact ⟨_,.here⟩
 | v' :: vs, x' :: xs, j + 1, h1, h2 => by
  simp only [List.getElem?_cons_succ] at h1 h2
  obtain ⟨r,hr⟩:=xe h1 h2
  exact ⟨_,.there hr⟩
theorem xg {E:TypeId} {v:Value} {x:List Value}:∀ {vs:List Value} {xs:List (List Value)},vs.length=xs.length→fQ E (vs++[v]) (xs++[x])=fQ E vs xs++[row E 1 v x.length x]
 | [],[],_=>rfl
 | [],_::_,h=>by simp at h
 | _::_,[],h=>by simp at h
 | v' :: vs, x' :: xs, h => by
  simp only [List.length_cons,Nat.add_right_cancel_iff] at h
  simp only [List.cons_append,fQ,xg h]
theorem Mem.CA {c:Cx} {hs hs':List ba} {w:World} {E:TypeId} {vs:List Value} {xs:List (List Value)} {j:Nat} {v:Value} {x:List Value} (hm:Mem c hs w) (ht:Take hs (mz E vs xs) hs') (hv:vs[j]? = some v) (hx:xs[j]? = some x):Rd w v 1 (x.map fun u=>[u]):=by
 obtain ⟨k,fp,hn,⟨f1,f2,rfl,h1,h2⟩,hb⟩:=hm.take ht
 have lH:Mem c (fQ E vs xs++hs') w:=⟨k,f1++f2,hn,bY.append_iff.2 ⟨f1,f2,rfl,h1,h2⟩,hb⟩
 obtain ⟨r,hr⟩:=xe (E:=E) hv hx
 exact lH.OF (hr.append hs') rfl
section
variable {P:Program} {r:Option Nat} {c:Cx} {D:List Nat} {sl:aG} {hs hs':List ba} {X:Act→World→Prop} {Q:Exit→Act→World→Prop} {ι:Type}
variable {ops:Array Oper} {d:Nat} {ty:TypeId} {pos:String} {af:Array Edge} {rest:List Oper}
theorem mn {E:TypeId} {vs:List Value} {xs:List (List Value)} {v:Value} {x:List Value} {n:Nat} {h1 h2:List ba} (ht:Take hs (mz E vs xs) h1) (ht2:Take h1 (row E 1 v n x) h2) (hn:n=x.length) (hl:vs.length=xs.length)
  (k:Tr c D sl (mz E (vs++[v]) (xs++[x])::h2) X):Tr c D sl hs X:=fun a w a7=>by
 subst hn
 have hT:bj hs [mz E vs xs,row E 1 v x.length x] h2:=.cons ht (.cons ht2 .nil)
 have hm:=a7.mem.iQ (hT.append (lX D))
 obtain ⟨kk,fp,tC,⟨f1,f2',rfl,g1,⟨f2,f3,rfl,g2,g3⟩⟩,hb⟩:=hm
 refine k a w (a7.heap ⟨kk,(f1++f2)++f3,by rw [List.append_assoc];exact tC,⟨f1++f2,f3,rfl,?_,g3⟩,by rw [List.append_assoc];exact hb⟩)
 show bY (hp w) (fQ E (vs++[v]) (xs++[x])) (f1++f2)
 rw [xg hl]
 exact bY.append_iff.2 ⟨f1,f2,rfl,g1,⟨f2,[],by simp,g2,rfl⟩⟩
theorem kz (E:TypeId) (k:Tr c D sl (mz E [] []::hs) X):Tr c D sl hs X:=fun a w a7=>
 k a w (a7.heap (Mem.change (As := []) (Bs := [mz E [] []]) a7.mem fun fp _ hf => by
  rw [show fp=[] from hf]
  exact ⟨.refl _ _,[],List.nodup_nil,⟨[],[],rfl,rfl,rfl⟩,by simp⟩))
theorem wz {As:List ba} (ht:Take hs (J8 As) hs') (k:Tr c D sl (As++hs') X):Tr c D sl hs X:=fun a w a7=>by
 obtain ⟨kk,fp,hn,⟨f1,f2,rfl,h1,h2⟩,hb⟩:=a7.mem.take (ht.append _)
 exact k a w (a7.heap ⟨kk,f1++f2,hn,by rw [List.append_assoc];exact bY.append_iff.2 ⟨f1,f2,rfl,h1,h2⟩,hb⟩)
theorem rf {As:List ba} (ht:bj hs As hs') (k:Tr c D sl (J8 As::hs') X):Tr c D sl hs X:=fun a w a7=>by
 obtain ⟨kk,fp,hn,gZ,hb⟩:=a7.mem.iQ (ht.append (lX D))
 obtain ⟨f1,f2,rfl,h1,h2⟩:=bY.append_iff.1 gZ
 exact k a w (a7.heap ⟨kk,f1++f2,hn,⟨f1,f2,rfl,h1,h2⟩,hb⟩)
theorem fE {op:Op} {f:FuncId} {args:List Value} {As:List ba} {Φ:ι→Prop} {val:ι→Value} {own:ι→List ba} (hr:k7 P sl ⟨some d,op,ty,pos,af,none⟩ f args) (hd:Nat.blt d c.nt=true) (ht:bj hs As hs')
  (hc:∀ w fp,Mem c hs w→fp.Nodup→bY (hp w) As fp→(∀ b∈fp,b∈c.md∨c.w0.heap.size≤b)→(∀ b o h2,Take hs' (bD b o) h2→b ∉ fp)→bd P f args w fp Φ val own)
  (k:∀ x,Φ x→Tr c D ((d,val x)::sl) (own x++hs') (WL P r ops Q rest)):Tr c D sl hs (WL P r ops Q (⟨some d,op,ty,pos,af,none⟩::rest)):=fun a w a7=>by
 have hm:=a7.mem.iQ (ht.append (lX D))
 obtain ⟨kk,fp,hn,gZ,hb⟩:=hm
 obtain ⟨f1,f2,rfl,h1,h2⟩:=bY.append_iff.1 gZ
 obtain ⟨n1,n2,n12⟩:=List.nodup_append.1 hn
 have kd:∀ b o h3,Take hs' (bD b o) h3→b ∉ f1:=fun b o h3 htk Ma=>by
  obtain ⟨g1,g2,⟨e1,_⟩,_,hp⟩:=bY.take (htk.append (lX D)) h2
  have:b∈f2:=hp.mem_iff.2 (List.mem_append_left _ (by rw [e1];simp))
  exact n12 b Ma b this rfl
 refine ye rfl hr a7.cT (hc w f1 a7.qI n1 h1 (fun b dw=>(hb b (List.mem_append_left _ dw)).symm) kd) fun e w' ⟨x,he,hx,hk,kX,tC,hs',xE⟩=>⟨val x,he,k x hx _ _ ((a7.put (by simpa [Nat.blt_eq] using hd) (val x)).heap ?_)⟩
 have aN:∀ b∈f2,b<w.heap.size:=fun b dw=>let ⟨o,ho⟩:=h2.own b dw;jG ho
 rw [List.append_assoc]
 refine ⟨?_,kX++f2,?_,bY.append_iff.2 ⟨kX,f2,rfl,hs',h2.loc fun b dw=>?_⟩,?_⟩
 ·refine ⟨hk.os.trans kk.os,hk.tape.trans kk.tape,hk.output.trans kk.output,Nat.le_trans kk.dr hk.dr,Nat.le_trans kk.size hk.size,fun b dw hm=>?_⟩
  rw [← kk.block b dw hm]
  refine hk.block b (Nat.lt_of_lt_of_le dw kk.size) (fun hf=>?_)
  rcases hb b (List.mem_append_left _ hf) with h | h
  ·omega
  ·exact hm h
 ·refine List.nodup_append.2 ⟨tC,n2,fun x hx y hy e=>?_⟩
  subst e
  rcases xE x hx with h | h
  ·exact n12 x h x hy rfl
  ·have:=aN x hy;omega
 ·exact hk.block b (aN b dw) (fun hf=>n12 b hf b dw rfl)
 ·intro b dw
  rcases List.mem_append.1 dw with h | h
  ·rcases xE b h with h | h
   ·exact hb b (List.mem_append_left _ h)
   ·exact .inl (Nat.le_trans kk.size h)
  ·exact hb b (List.mem_append_right _ h)
end
end Go.SL
namespace Go.Proofs.A1
open Go Go.SL
def gA {α:Type} (p:α→Bool) (l:List α):Int:=((List.range l.length).find? fun i=>(l[i]?.map p).getD false).elim (-1) (fun i=>(i:Int))
theorem fT {α:Type} {p:α→Bool} {l:List α} {k:Nat} (h:∀ i,i<k→(l[i]?.map p).getD false=false) (hk:k<l.length) (hp:p l[k]=true):gA p l=k:=by
 unfold gA
 have:(List.range l.length).find? (fun i=>(l[i]?.map p).getD false)=some k:=by
  rw [List.find?_range_eq_some]
  exact ⟨by simp [hk,hp],by simpa using hk,fun i hi=>by simpa using h i hi⟩
 rw [this];rfl
theorem fm {α:Type} {p:α→Bool} {l:List α} (h:∀ i,i<l.length→(l[i]?.map p).getD false=false):gA p l = -1:=by
 unfold gA
 have:(List.range l.length).find? (fun i=>(l[i]?.map p).getD false)=none:=by
  rw [List.find?_eq_none]
  intro i hi
  simp [h i (List.mem_range.1 hi)]
 rw [this];rfl
theorem jF {α:Type} (p:α→Bool) (l:List α):decide (0≤gA p l)=l.any p:=by
 unfold gA
 cases h:(List.range l.length).find? fun i=>(l[i]?.map p).getD false with
 | none =>
  have:l.any p=false:=by
   rw [List.any_eq_false]
   intro x hx
   obtain ⟨i,hi,rfl⟩:=List.getElem_of_mem hx
   have:=List.find?_eq_none.1 h i (List.mem_range.2 hi)
   simpa [hi] using this
  rw [this];rfl
 | some i =>
  have h1:=List.mem_range.1 (List.mem_of_find?_eq_some h)
  have h2:=List.find?_some h
  have:l.any p=true:=by
   rw [List.any_eq_true]
   exact ⟨l[i],List.getElem_mem h1,by simpa [h1] using h2⟩
  rw [this];simp
theorem Eh {lv:Value} {l:List Sr} {p:Sr→Bool} {f:FuncId} {first cap:List Value} [bP Tryz.prog f] {w:World} (h:Rd w lv 2 (vt l)) (ch:∀ x∈l,∀ w',aF [] w w'→aj Tryz.prog f (first++[.agg x.cells.toArray]++cap) w' (.bool (p x))) :
  aj Tryz.prog 263 [lv,.func (.func f) first.toArray cap.toArray] w (.int .i64 (gA p l)):=by
 obtain ⟨a,cp,b,o,rfl,df,bO,ha,hc⟩:=h
 rw [cC] at *
 unfold maxLen at bO
 refine ah Tryz.func263 rfl rfl ?_
 refine Jr<|Ja rfl<|Jn<|Jq<|Jr<|Jv rfl<|JI rfl<|Jv rfl<|Jn<|J0 ?_
 refine aX (fun k:Nat=>k≤l.length∧∀ i,i<k→(l[i]?.map p).getD false=false) (fun k=>[(8,.int .i64 k),(7,.int .i64 l.length),(0,.slice a l.length cp),(1,.func (.func f) first.toArray cap.toArray)]) (fun _=>[]) (fun k=>l.length-k) ?_ ?_
 ·apply aK 0 ⟨Nat.zero_le _,fun i h=>by omega⟩
  case hs1=>exact cn
  case ht=>(try simp only [List.take_zero,List.map_nil,List.nil_append]);exact .nil
 rintro k ⟨hk,hf⟩
 by_cases aN:k<l.length
 ·have cM:=ha (im aN)
  have aD:=(hc k _ (fD aN)).2
  have ix:=ch _ (List.getElem_mem aN)
  have hps:(l[k]?.map p).getD false=p l[k]:=by simp [aN]
  unfold Sr.cells at aD ix
  (refine Jr<|JA rfl<|Jn<|Jq<|Jd rfl fun aq=>Jk<|Jq<|J0<|Jr<|Jv rfl<|Ja rfl<|Ji<|Jv rfl<|Jv rfl<|Jv rfl<|ab (fM cM aq) rfl ?_;refine ab (iz (eG.base aD rfl)) rfl ?_;refine ag bC rfl (fun w' az=>(ix w' (Mem.keeps az))) ?_;refine Jn<|pV rfl (fun aq=>?_) fun aq=>?_;refine Jr<|Jv rfl<|Ja rfl<|Jn<|Je<|Jm<|Jh<|Jh<|Jm<|Jh<|JT ?_;rotate_left;refine Jw<|Jj<|Jt<|Jg<|JB rfl (by omega)<|Jv rfl<|Jn ?_;rotate_right)
  ·rw [fT hf aN aq]
  ·apply aL (k+1) ⟨by omega,fun i hi=>by
    by_cases e:i=k
    ·rw [e,hps];exact aq
    ·exact hf i (by omega)⟩ (by omega)
   case hs1=>exact cn
   case ht=>(try simp only [List.take_zero,List.map_nil,List.nil_append]);exact .nil
 ·obtain rfl:k=l.length:=by omega
  refine Jr<|JA rfl<|Jn<|Jq<|Jc rfl fun aq=>Jp<|Jl<|Jo<|Jt<|Jr<|Ja rfl<|Jn<|Je<|JT ?_
  rw [fm hf]
theorem Md {lv:Value} {l:List Sr} {p:Sr→Bool} {f:FuncId} {first cap:List Value} [bP Tryz.prog f] {w:World} (h:Rd w lv 2 (vt l)) (ch:∀ x∈l,∀ w',aF [] w w'→aj Tryz.prog f (first++[.agg x.cells.toArray]++cap) w' (.bool (p x))) :
  aj Tryz.prog 227 [lv,.func (.func f) first.toArray cap.toArray] w (.bool (l.any p)):=by
 have ix:∀ w',aF [] w w'→aj Tryz.prog 263 [lv,.func (.func f) first.toArray cap.toArray] w' (.int .i64 (gA p l)):=fun w' hk=>
  Eh (h.keeps hk) fun x hx w2 ez=>ch x hx w2 (hk.trans ez)
 rw [← jF]
 refine ah Tryz.func227 rfl rfl ?_
 (refine Jr<|Ja rfl<|Ji<|Jv rfl<|Jv rfl<|ag aZ rfl (fun w' az=>(ix w' (Mem.keeps az))) ?_;refine JG rfl<|Ja rfl<|Jn<|Je<|JT ?_)
 rfl
theorem LS {lv:Value} {l:List De} {p:De→Bool} {f:FuncId} {first cap:List Value} [bP Tryz.prog f] {w:World} (h:Rd w lv 3 (u3 l)) (ch:∀ x∈l,∀ w',aF [] w w'→aj Tryz.prog f (first++[.agg x.cells.toArray]++cap) w' (.bool (p x))) :
  aj Tryz.prog 242 [lv,.func (.func f) first.toArray cap.toArray] w (.int .i64 (gA p l)):=by
 obtain ⟨a,cp,b,o,rfl,df,bO,ha,hc⟩:=h
 rw [bX] at *
 unfold maxLen at bO
 refine ah Tryz.func242 rfl rfl ?_
 refine Jr<|Ja rfl<|Jn<|Jq<|Jr<|Jv rfl<|JI rfl<|Jv rfl<|Jn<|J0 ?_
 refine aX (fun k:Nat=>k≤l.length∧∀ i,i<k→(l[i]?.map p).getD false=false) (fun k=>[(8,.int .i64 k),(7,.int .i64 l.length),(0,.slice a l.length cp),(1,.func (.func f) first.toArray cap.toArray)]) (fun _=>[]) (fun k=>l.length-k) ?_ ?_
 ·apply aK 0 ⟨Nat.zero_le _,fun i h=>by omega⟩
  case hs1=>exact cn
  case ht=>(try simp only [List.take_zero,List.map_nil,List.nil_append]);exact .nil
 rintro k ⟨hk,hf⟩
 by_cases aN:k<l.length
 ·have cM:=ha (gm aN)
  have aD:=(hc k _ (fa aN)).2
  have ix:=ch _ (List.getElem_mem aN)
  have hps:(l[k]?.map p).getD false=p l[k]:=by simp [aN]
  unfold De.cells at aD ix
  (refine Jr<|JA rfl<|Jn<|Jq<|Jd rfl fun aq=>Jk<|Jq<|J0<|Jr<|Jv rfl<|Ja rfl<|Ji<|Jv rfl<|Jv rfl<|Jv rfl<|ab (fM cM aq) rfl ?_;refine ab (iz (eG.base aD rfl)) rfl ?_;refine ag bC rfl (fun w' az=>(ix w' (Mem.keeps az))) ?_;refine Jn<|pV rfl (fun aq=>?_) fun aq=>?_;refine Jr<|Jv rfl<|Ja rfl<|Jn<|Je<|Jm<|Jh<|Jh<|Jm<|Jh<|JT ?_;rotate_left;refine Jw<|Jj<|Jt<|Jg<|JB rfl (by omega)<|Jv rfl<|Jn ?_;rotate_right)
  ·rw [fT hf aN aq]
  ·apply aL (k+1) ⟨by omega,fun i hi=>by
    by_cases e:i=k
    ·rw [e,hps];exact aq
    ·exact hf i (by omega)⟩ (by omega)
   case hs1=>exact cn
   case ht=>(try simp only [List.take_zero,List.map_nil,List.nil_append]);exact .nil
 ·obtain rfl:k=l.length:=by omega
  refine Jr<|JA rfl<|Jn<|Jq<|Jc rfl fun aq=>Jp<|Jl<|Jo<|Jt<|Jr<|Ja rfl<|Jn<|Je<|JT ?_
  rw [fm hf]
theorem LQ {lv:Value} {l:List Ti} {p:Ti→Bool} {f:FuncId} {first cap:List Value} [bP Tryz.prog f] {w:World} (h:Rd w lv 3 (tW l)) (ch:∀ x∈l,∀ w',aF [] w w'→aj Tryz.prog f (first++[.agg x.cells.toArray]++cap) w' (.bool (p x))) :
  aj Tryz.prog 246 [lv,.func (.func f) first.toArray cap.toArray] w (.int .i64 (gA p l)):=by
 obtain ⟨a,cp,b,o,rfl,df,bO,ha,hc⟩:=h
 rw [bN] at *
 unfold maxLen at bO
 refine ah Tryz.func246 rfl rfl ?_
 refine Jr<|Ja rfl<|Jn<|Jq<|Jr<|Jv rfl<|JI rfl<|Jv rfl<|Jn<|J0 ?_
 refine aX (fun k:Nat=>k≤l.length∧∀ i,i<k→(l[i]?.map p).getD false=false) (fun k=>[(8,.int .i64 k),(7,.int .i64 l.length),(0,.slice a l.length cp),(1,.func (.func f) first.toArray cap.toArray)]) (fun _=>[]) (fun k=>l.length-k) ?_ ?_
 ·apply aK 0 ⟨Nat.zero_le _,fun i h=>by omega⟩
  case hs1=>exact cn
  case ht=>(try simp only [List.take_zero,List.map_nil,List.nil_append]);exact .nil
 rintro k ⟨hk,hf⟩
 by_cases aN:k<l.length
 ·have cM:=ha (eT aN)
  have aD:=(hc k _ (ed aN)).2
  have ix:=ch _ (List.getElem_mem aN)
  have hps:(l[k]?.map p).getD false=p l[k]:=by simp [aN]
  unfold Ti.cells at aD ix
  (refine Jr<|JA rfl<|Jn<|Jq<|Jd rfl fun aq=>Jk<|Jq<|J0<|Jr<|Jv rfl<|Ja rfl<|Ji<|Jv rfl<|Jv rfl<|Jv rfl<|ab (fM cM aq) rfl ?_;refine ab (iz (eG.base aD rfl)) rfl ?_;refine ag bC rfl (fun w' az=>(ix w' (Mem.keeps az))) ?_;refine Jn<|pV rfl (fun aq=>?_) fun aq=>?_;refine Jr<|Jv rfl<|Ja rfl<|Jn<|Je<|Jm<|Jh<|Jh<|Jm<|Jh<|JT ?_;rotate_left;refine Jw<|Jj<|Jt<|Jg<|JB rfl (by omega)<|Jv rfl<|Jn ?_;rotate_right)
  ·rw [fT hf aN aq]
  ·apply aL (k+1) ⟨by omega,fun i hi=>by
    by_cases e:i=k
    ·rw [e,hps];exact aq
    ·exact hf i (by omega)⟩ (by omega)
   case hs1=>exact cn
   case ht=>(try simp only [List.take_zero,List.map_nil,List.nil_append]);exact .nil
 ·obtain rfl:k=l.length:=by omega
  refine Jr<|JA rfl<|Jn<|Jq<|Jc rfl fun aq=>Jp<|Jl<|Jo<|Jt<|Jr<|Ja rfl<|Jn<|Je<|JT ?_
  rw [fm hf]
theorem zq {lv:Value} {l:List Ti} {p:Ti→Bool} {f:FuncId} {first cap:List Value} [bP Tryz.prog f] {w:World} (h:Rd w lv 3 (tW l)) (ch:∀ x∈l,∀ w',aF [] w w'→aj Tryz.prog f (first++[.agg x.cells.toArray]++cap) w' (.bool (p x))) :
  aj Tryz.prog 159 [lv,.func (.func f) first.toArray cap.toArray] w (.bool (l.any p)):=by
 have ix:∀ w',aF [] w w'→aj Tryz.prog 246 [lv,.func (.func f) first.toArray cap.toArray] w' (.int .i64 (gA p l)):=fun w' hk=>
  LQ (h.keeps hk) fun x hx w2 ez=>ch x hx w2 (hk.trans ez)
 rw [← jF]
 refine ah Tryz.func159 rfl rfl ?_
 (refine Jr<|Ja rfl<|Ji<|Jv rfl<|Jv rfl<|ag aZ rfl (fun w' az=>(ix w' (Mem.keeps az))) ?_;refine JG rfl<|Ja rfl<|Jn<|Je<|JT ?_)
 rfl
theorem ze {lv:Value} {l:List Po} {p:Po→Bool} {f:FuncId} {first cap:List Value} [bP Tryz.prog f] {w:World} (h:Rd w lv 3 (sN l)) (ch:∀ x∈l,∀ w',aF [] w w'→aj Tryz.prog f (first++[.agg x.cells.toArray]++cap) w' (.bool (p x))) :
  aj Tryz.prog 297 [lv,.func (.func f) first.toArray cap.toArray] w (.int .i64 (gA p l)):=by
 obtain ⟨a,cp,b,o,rfl,df,bO,ha,hc⟩:=h
 rw [cU] at *
 unfold maxLen at bO
 refine ah Tryz.func297 rfl rfl ?_
 refine Jr<|Ja rfl<|Jn<|Jq<|Jr<|Jv rfl<|JI rfl<|Jv rfl<|Jn<|J0 ?_
 refine aX (fun k:Nat=>k≤l.length∧∀ i,i<k→(l[i]?.map p).getD false=false) (fun k=>[(8,.int .i64 k),(7,.int .i64 l.length),(0,.slice a l.length cp),(1,.func (.func f) first.toArray cap.toArray)]) (fun _=>[]) (fun k=>l.length-k) ?_ ?_
 ·apply aK 0 ⟨Nat.zero_le _,fun i h=>by omega⟩
  case hs1=>exact cn
  case ht=>(try simp only [List.take_zero,List.map_nil,List.nil_append]);exact .nil
 rintro k ⟨hk,hf⟩
 by_cases aN:k<l.length
 ·have cM:=ha (jO aN)
  have aD:=(hc k _ (gY aN)).2
  have ix:=ch _ (List.getElem_mem aN)
  have hps:(l[k]?.map p).getD false=p l[k]:=by simp [aN]
  unfold Po.cells at aD ix
  (refine Jr<|JA rfl<|Jn<|Jq<|Jd rfl fun aq=>Jk<|Jq<|J0<|Jr<|Jv rfl<|Ja rfl<|Ji<|Jv rfl<|Jv rfl<|Jv rfl<|ab (fM cM aq) rfl ?_;refine ab (iz (eG.base aD rfl)) rfl ?_;refine ag bC rfl (fun w' az=>(ix w' (Mem.keeps az))) ?_;refine Jn<|pV rfl (fun aq=>?_) fun aq=>?_;refine Jr<|Jv rfl<|Ja rfl<|Jn<|Je<|Jm<|Jh<|Jh<|Jm<|Jh<|JT ?_;rotate_left;refine Jw<|Jj<|Jt<|Jg<|JB rfl (by omega)<|Jv rfl<|Jn ?_;rotate_right)
  ·rw [fT hf aN aq]
  ·apply aL (k+1) ⟨by omega,fun i hi=>by
    by_cases e:i=k
    ·rw [e,hps];exact aq
    ·exact hf i (by omega)⟩ (by omega)
   case hs1=>exact cn
   case ht=>(try simp only [List.take_zero,List.map_nil,List.nil_append]);exact .nil
 ·obtain rfl:k=l.length:=by omega
  refine Jr<|JA rfl<|Jn<|Jq<|Jc rfl fun aq=>Jp<|Jl<|Jo<|Jt<|Jr<|Ja rfl<|Jn<|Je<|JT ?_
  rw [fm hf]
theorem Me {lv:Value} {l:List Po} {p:Po→Bool} {f:FuncId} {first cap:List Value} [bP Tryz.prog f] {w:World} (h:Rd w lv 3 (sN l)) (ch:∀ x∈l,∀ w',aF [] w w'→aj Tryz.prog f (first++[.agg x.cells.toArray]++cap) w' (.bool (p x))) :
  aj Tryz.prog 301 [lv,.func (.func f) first.toArray cap.toArray] w (.bool (l.any p)):=by
 have ix:∀ w',aF [] w w'→aj Tryz.prog 297 [lv,.func (.func f) first.toArray cap.toArray] w' (.int .i64 (gA p l)):=fun w' hk=>
  ze (h.keeps hk) fun x hx w2 ez=>ch x hx w2 (hk.trans ez)
 rw [← jF]
 refine ah Tryz.func301 rfl rfl ?_
 (refine Jr<|Ja rfl<|Ji<|Jv rfl<|Jv rfl<|ag aZ rfl (fun w' az=>(ix w' (Mem.keeps az))) ?_;refine JG rfl<|Ja rfl<|Jn<|Je<|JT ?_)
 rfl
end Go.Proofs.A1
