/- Parts of the proof: GkRegM GkRegN GkStr GkBits GkArr KA KB KC GkClear GkFl KD. -/
import Derived.Test.YteonnodafmegaaaGreatDoorAM04
import Derived.Test.YteonnodafmegaaaGreatDoorAM03
import Derived.Laws.Strings
import Derived.Laws.BytesString
import Derived.Test.YteonnodafmegaaaGreatDoorAM01
import Derived.Laws.Entries
import Derived.Test.YteonnodafmegaaaGreatDoorAM05
set_option linter.unusedSectionVars false
set_option linter.unusedVariables false
set_option linter.unusedSimpArgs false
namespace Go.SL
open Go
def Cz (l:List Oper) (m p:Nat):Bool:=
 l.all mC&&sY l 0&&j8 l.toArray (l.take m) 0&&(List.range' m (l.length-m)).all (fun k=>(List.range m).all fun i=>Nat.beq i p||((ic l []).getD k 0).testBit i)&&Nat.ble m l.length
def GY (l:List Oper) (m:Nat):Bool:=Cz l m m
structure JZ (l:List Oper) (m p:Nat):Prop where
 op:∀ o∈l,mC o=true
 ac:sY l 0=true
 AY:j8 l.toArray (l.take m) 0=true
 tail:∀ k,m≤k→k<l.length→∀ i,i<m→i≠p→((ic l []).getD k 0).testBit i=true
 le:m≤l.length
theorem r6 {l:List Oper} {m p:Nat} (h:Cz l m p=true):JZ l m p:=by
 simp only [Cz,Bool.and_eq_true,List.all_eq_true] at h
 obtain ⟨⟨⟨⟨h1,h2⟩,h3⟩,h5⟩,h6⟩:=h
 refine ⟨h1,h2,h3,fun k hk aN i hi hne=>?_,by simpa using h6⟩
 have:=h5 k (List.mem_range'_1.2 ⟨hk,by omega⟩) i (List.mem_range.2 hi)
 rw [Bool.or_eq_true] at this
 exact this.resolve_left (by simpa using hne)
theorem jC {l:List Oper} {m p:Nat} (hc:JZ l m p) {i j:Nat} {x y:Oper} (xD:i<j) (hj:j<m) (hx:l[i]? = some x) (hy:l[j]? = some y):pD l.toArray x y i=true:=by
 have:=mB hc.AY (i:=i) (j:=j) xD (by rw [List.getElem?_take,if_pos (by omega)];exact hx) (by rw [List.getElem?_take,if_pos hj];exact hy)
 simpa using this
theorem r7 {l:List Oper} {m p:Nat} (hc:JZ l m p) {listed:Array Bool} (hsz:listed.size=l.length) (zn:DC l (Ls listed)) {i:Nat} (hi:i∈Region.ready .any l.toArray listed) (hm:m≤i):∀ j,j<m→j≠p→Ls listed j:=by
 intro j hj VH
 obtain ⟨o,ho,hn,hd⟩:=(dz hsz).1 hi
 have aN:i<l.length:=(List.getElem?_eq_some_iff.1 ho).1
 have C3:DC l (fun k=>k=i∨Ls listed k):=by
  intro k ok hk hL e he hb
  rcases hL with e' | hL
  ·subst e'
   rw [ho] at hk;cases hk
   exact .inr (hd e he hb)
  ·exact .inr (zn k ok hk hL e he hb)
 rcases gK C3 hc.ac i aN (.inl rfl) j (hc.tail i hm aN j hj VH) with h | h
 ·omega
 ·exact h
structure cO where
 F:(Nat→Value)→Value
 A:(Nat→Value)→List ba
def tR (β:Nat→Value) (i:Nat) (x:Value):Nat→Value:=fun k=>if k=i then x else β k
theorem tP (β:Nat→Value) (i:Nat):tR β i (β i)=β:=by
 funext k;unfold tR;split
 ·rename_i h;rw [h]
 ·rfl
theorem jM (β:Nat→Value) (i:Nat) (x:Value):tR β i x i=x:=by unfold tR;rw [if_pos rfl]
theorem tQ {β:Nat→Value} {i k:Nat} {x:Value} (h:k≠i):tR β i x k=β k:=by unfold tR;rw [if_neg h]
def vk (l:List Oper) (i k:Nat):Bool:=Nat.beq i k||((ic l []).getD i 0).testBit k
def dI (β:Nat→Value) (lst:Nat→Bool):List cO→Nat→List ba
 | [],_=>[]
 | s::S,i=>(if lst i then s.A β else [])++dI β lst S (i+1)
theorem gX {β β':Nat→Value} {lst mF:Nat→Bool}:∀ {S:List cO} {i:Nat},(∀ j s,S[j]? = some s→lst (i+j)=mF (i+j)∧(lst (i+j)=true→s.A β=s.A β'))→dI β lst S i=dI β' mF S i
 | [],_,_=>rfl
 | s :: S, i, h => by
  have h0:=h 0 s rfl
  have ih:dI β lst S (i+1)=dI β' mF S (i+1):=gX fun j s' hj=>by have:=h (j+1) s' (by simpa using hj);rwa [show i+(j+1)=i+1+j from by omega] at this
  simp only [Nat.add_zero] at h0
  unfold dI
  rw [ih,← h0.1]
  by_cases hl:lst i=true
  ·rw [if_pos hl,if_pos hl,h0.2 hl]
  ·rw [if_neg hl,if_neg hl]
theorem qB {β:Nat→Value} {lst mF:Nat→Bool} {k:Nat} {s:cO}:∀ {S:List cO} {i:Nat},S[k]? = some s→lst (i+k)=false→mF (i+k)=true→(∀ j,j≠i+k→mF j=lst j) →
  (s.A β++dI β lst S i).Perm (dI β mF S i)
 | [],_,h,_,_,_=>by simp at h
 | s0 :: S, i, h, h1, h2, h3 => by
  cases k with
  | zero =>
   simp at h
   subst h
   have e:dI β lst S (i+1)=dI β mF S (i+1):=gX fun j s' hj=>⟨(h3 (i+1+j) (by omega)).symm,fun _=>rfl⟩
   simp only [Nat.add_zero] at h1 h2
   unfold dI
   rw [if_neg (by simp [h1]),if_pos h2,e];simp
  | succ k =>
   have ih:(s.A β++dI β lst S (i+1)).Perm (dI β mF S (i+1)):=by
    refine qB (k:=k) (by simpa using h) ?_ ?_ ?_
    all_goals rw [show i+1+k=i+(k+1) from by omega];assumption
   unfold dI
   rw [h3 i (by omega)]
   refine List.Perm.trans ?_ (ih.append_left _)
   rw [← List.append_assoc,← List.append_assoc]
   exact List.perm_append_comm.append_right _
theorem qz {β:Nat→Value} {lst:Nat→Bool} {s:cO}:∀ {S:List cO} {i j:Nat},S[j]? = some s→lst (i+j)=true→(s.A β).Sublist (dI β lst S i)
 | [],_,j,h,_=>by simp at h
 | s0 :: S, i, 0, h, h1 => by
  simp at h
  subst h
  unfold dI
  rw [Nat.add_zero] at h1
  rw [if_pos h1]
  exact List.sublist_append_left _ _
 | s0 :: S, i, j + 1, h, h1 => by
  unfold dI
  exact (qz (S:=S) (i:=i+1) (j:=j) (by simpa using h) (by rwa [show i+1+j=i+(j+1) from by omega])).trans (List.sublist_append_right _ _)
theorem bY.sublist {h:Nat→Option Obj} {l1 l2:List ba} (hs:l1.Sublist l2):∀ {fp:List Nat},bY h l2 fp→∃ kX:List Nat,bY h l1 kX∧kX.Sublist fp:=by
 induction hs with
 | slnil=>intro fp hf;exact ⟨fp,hf,List.Sublist.refl _⟩
 | cons A _ ih =>
  rintro fp ⟨f1,f2,rfl,_,h2⟩
  obtain ⟨g,hg,iv⟩:=ih h2
  exact ⟨g,hg,iv.trans (List.sublist_append_right _ _)⟩
 | cons_cons A _ ih =>
  rintro fp ⟨f1,f2,rfl,h1,h2⟩
  obtain ⟨g,hg,iv⟩:=ih h2
  exact ⟨f1++g,⟨f1,g,rfl,h1,hg⟩,(List.Sublist.refl f1).append iv⟩
theorem Mem.sublist {c:Cx} {l1 l2:List ba} {w:World} (h:Mem c l2 w) (hs:l1.Sublist l2):Mem c l1 w:=by
 obtain ⟨k,fp,hn,gZ,hb⟩:=h
 obtain ⟨g,hg,iv⟩:=gZ.sublist hs
 exact ⟨k,g,hn.sublist iv,hg,fun b dw=>hb b (iv.subset dw)⟩
def qf (P:Program) (o:Oper) (a:Act) (w:World) (K:Value→World→Prop):Prop:=
 match (execOp a.eval o).run P w with
 | .ok (.value v) w'=>K v w'
 | .ok (.enter f args) w'=>w'=w∧Calls P f args w (fun e vH=>∃ v,e=.returned v∧K v vH)
 | _=>False
section
variable {P:Program} {c:Cx} {D:List Nat} {sl:aG} {hs:List ba} {Q:Exit→Act→World→Prop} {l:List Oper} {m:Nat}
def jw (c:Cx) (hs:List ba) (S:List cO) (B:List Nat) (β:Nat→Value) (w:World):Prop:=∀ A:List ba,(A=[]∨∃ j,j∈B∧∃ s,S[j]? = some s∧A=s.A β)→Mem c (A++hs) w
theorem jw.mem {S:List cO} {B:List Nat} {β:Nat→Value} {w:World} (h:jw c hs S B β w):Mem c hs w:=h [] (.inl rfl)
theorem jw.at {S:List cO} {B:List Nat} {β:Nat→Value} {w:World} (h:jw c hs S B β w) (j:Nat) {s:cO} (hj:j∈B) (hs':S[j]? = some s):Mem c (s.A β++hs) w:=h _ (.inr ⟨j,hj,s,hs',rfl⟩)
def MS (i:Nat) (s:cO) (β:Nat→Value) (w:World) (v:Value) (w':World):Prop:=∃ x,v=s.F (tR β i x)∧aF [] w w'∧∃ fp:List Nat,fp.Nodup∧bY (hp w') (s.A (tR β i x)) fp∧∀ b∈fp,w.heap.size≤b
def px {α:Type} (l:List Oper) (i:Nat) (F:(Nat→Value)→α):Prop:=∀ β β',(∀ k,vk l i k=true→β k=β' k)→F β=F β'
structure Dt (P:Program) (c:Cx) (hs:List ba) (l:List Oper) (i:Nat) (o:Oper) (SL:(Nat→Value)→aG) (S:List cO) (s:cO):Prop where
 CS:px l i s.F
 CT:px l i s.A
 run:∃ B:List Nat,(∀ j∈B,e9 o j=true)∧∀ β a w,bK (SL β) a→jw c hs S B β w→if Region.wanted o (yielded l.toArray a.tmps)=true then qf P o a w (MS i s β w) else MS i s β w undef w
inductive sH (P:Program) (c:Cx) (hs:List ba) (l:List Oper):Nat→List Oper→((Nat→Value)→aG)→List cO→List cO→((Nat→Value)→aG)→Prop
 | nil {i:Nat} {SL:(Nat→Value)→aG} {S:List cO}:sH P c hs l i [] SL S S SL
 | step {i d:Nat} {o:Oper} {rest:List Oper} {SL nf:(Nat→Value)→aG} {S S':List cO} {s:cO} (hd:o.dst=some d) (fy:d<c.nt) (h:Dt P c hs l i o SL S s)
   (t:sH P c hs l (i+1) rest (fun β=>(d,s.F β)::SL β) (S++[s]) S' nf):sH P c hs l i (o::rest) SL S S' nf
def mV (sl:aG) (pre:List Oper) (SL:(Nat→Value)→aG) (S:List cO):Prop:=
 ∀ β t v,cI (SL β) t=some v→(∃ (j:Nat) (oj:Oper) (s:cO),pre[j]? = some oj∧oj.dst=some t∧S[j]? = some s∧v=s.F β)∨((∀ oj∈pre,oj.dst≠some t)∧cI sl t=some v)
theorem mV.step {pre:List Oper} {SL:(Nat→Value)→aG} {S:List cO} (h:mV sl pre SL S) (hl:S.length=pre.length) {o:Oper} {d:Nat} {s:cO} (hd:o.dst=some d):mV sl (pre++[o]) (fun β=>(d,s.F β)::SL β) (S++[s]):=by
 intro β t v hv
 by_cases e:d=t
 ·subst e
  rw [fu] at hv
  cases hv
  exact .inl ⟨pre.length,o,s,by simp,hd,by rw [← hl];simp,rfl⟩
 ·rw [fq e] at hv
  rcases h β t v hv with ⟨j,oj,s',h1,h2,h3,h4⟩ | ⟨h1,h2⟩
  ·refine .inl ⟨j,oj,s',?_,h2,?_,h4⟩
   ·rw [List.getElem?_append_left (List.getElem?_eq_some_iff.1 h1).1];exact h1
   ·rw [List.getElem?_append_left (List.getElem?_eq_some_iff.1 h3).1];exact h3
  ·refine .inr ⟨fun oj H0=>?_,h2⟩
   rcases List.mem_append.1 H0 with H0 | H0
   ·exact h1 oj H0
   ·rw [List.mem_singleton.1 H0,hd];simp [e]
theorem sH.spec {i:Nat} {rest:List Oper} {SL nf:(Nat→Value)→aG} {S S':List cO} (h:sH P c hs l i rest SL S S' nf):∀ pre:List Oper,pre.length=i→S.length=i→mV sl pre SL S →
  S'.length=i+rest.length∧S <+: S'∧mV sl (pre++rest) nf S'∧∀ k o,i≤k→(pre++rest)[k]? = some o→∃ d EM s,o.dst=some d∧d<c.nt∧S'[k]? = some s∧mV sl ((pre++rest).take k) EM (S'.take k)∧Dt P c hs l k o EM (S'.take k) s:=by
 induction h with
 | @nil i SL S =>
  intro pre hp hS kc
  refine ⟨by simpa using hS,List.prefix_rfl,by simpa using kc,fun k o hk ho=>?_⟩
  have:=(List.getElem?_eq_some_iff.1 ho).1
  simp at this;omega
 | @step i d o rest SL nf S S' s hd fy a7 t ih =>
  intro pre hp hS kc
  obtain ⟨h1,h2,h3,h4⟩:=ih (pre++[o]) (by simp [hp]) (by simp [hS]) (kc.step (by omega) hd)
  rw [List.append_assoc,List.singleton_append] at h3 h4
  have Ft:S <+: S':=(List.prefix_append S [s]).trans h2
  have qU:S'[i]? = some s:=by
   obtain ⟨r,rfl⟩:=h2
   rw [List.append_assoc,List.getElem?_append_right (by omega),hS];simp
  have Wf:S'.take i=S:=by
   obtain ⟨r,rfl⟩:=Ft
   rw [← hS];simp
  refine ⟨by rw [h1];simp;omega,Ft,h3,fun k ok hk ho=>?_⟩
  by_cases e:k=i
  ·subst e
   have Ei:ok=o:=by
    rw [List.getElem?_append_right (by omega),hp] at ho
    simpa using ho.symm
   subst Ei
   have htk:(pre++ok::rest).take k=pre:=by rw [← hp];simp
   rw [htk,Wf]
   exact ⟨d,SL,s,hd,fy,qU,kc,a7⟩
  ·exact h4 k ok (by omega) ho
structure MU (c:Cx) (D:List Nat) (hs:List ba) (l:List Oper) (m:Nat) (S:List cO) (a0:Act) (fuel:Nat) (listed:Array Bool) (a:Act) (w:World):Prop where
 sz:listed.size=l.length
 dc:DC l (Ls listed)
 hi:∀ k,m≤k→¬ Ls listed k
 defers:a.defers=D.map mark
 size:a.tmps.size=c.nt
 A2:∀ t,(∀ (j:Nat) (o:Oper),l[j]? = some o→Ls listed j→o.dst≠some t)→a.tmps[t]? = a0.tmps[t]?
 left:∃ U:List Nat,U.Nodup∧(∀ i,i∈U↔i<l.length∧¬ Ls listed i)∧U.length=fuel
 own:∃ β:Nat→Value,Mem c (dI β (fun i=>listed.getD i false) S 0++(hs++lX D)) w∧∀ (j:Nat) (o:Oper) (d:Nat) (s:cO),l[j]? = some o→o.dst=some d→S[j]? = some s→Ls listed j→a.tmps[d]? = some (s.F β)
def k8 (n m:Nat):Array Bool:=(List.replicate m true++List.replicate (n-m) false).toArray
theorem Bz {P:Program} {dst:Option Tmp} {x:Operand} {k:Nat} {ty:TypeId} {pos:String} {af:Array Edge} {ρ:Operand→Value} {w:World} {K:Value→World→Prop}
  (h:match (execOp ρ ⟨dst,.extract x k,ty,pos,af,none⟩).run P w with
   | .ok (.value v) w'=>K v w'
   | .ok (.enter f args) w'=>w'=w∧Calls P f args w (fun e vH=>∃ v,e=.returned v∧K v vH)
   | _=>False):∃ v,K v w∧∀ w2,(execOp ρ ⟨dst,.extract x k,ty,pos,af,none⟩).run P w2=.ok (.value v) w2:=by
 simp only [execOp] at h ⊢
 generalize ρ x=u at h ⊢
 cases u with
 | tuple vs =>
  simp only [Instr.extract] at h ⊢
  cases hv:vs[k]? with
  | none=>simp [hv] at h
  | some v=>simp [hv] at h ⊢;exact h
 | _=>simp [Instr.extract] at h
def zV (l:List Oper) (p:Nat):Prop:=∃ d x k ty pos af,l[p]? = some ⟨some d,.extract x k,ty,pos,af,none⟩∧Region.noSelect l.toArray=true∧Region.free .any l.toArray ((List.range l.length).map fun j=>((ic l []).getD p 0).testBit j).toArray p=true
theorem xH {ops:Array Oper} {l1 l2:Array Bool} {i:Nat} (h:Region.free .any ops l1 i=true) (hle:∀ j,j<ops.size→j≠i→l1.getD j true=true→l2.getD j true=true):Region.free .any ops l2 i=true:=by
 unfold Region.free at h ⊢
 cases hi:ops[i]? with
 | none=>rw [hi] at h;cases h
 | some oi =>
  rw [hi] at h
  simp only [List.all_eq_true,List.mem_range] at h ⊢
  intro j hj
  have h1:=h j hj
  simp only [Bool.or_eq_true] at h1 ⊢
  rcases h1 with (h1 | h1) | h1
  ·exact .inl (.inl h1)
  ·by_cases e:j=i
   ·exact .inl (.inl (by simp [e]))
   ·exact .inl (.inr (hle j hj e h1))
  ·exact .inr h1
theorem wZ {l:List Oper} (SR:sY l 0=true) {listed:Array Bool} (hsz:listed.size=l.length) (zn:DC l (Ls listed)) {i:Nat} (hi:i∈Region.ready .any l.toArray listed) {j:Nat} (V7:((ic l []).getD i 0).testBit j=true):j=i∨Ls listed j:=by
 obtain ⟨o,ho,hn,hd⟩:=(dz hsz).1 hi
 have aN:i<l.length:=(List.getElem?_eq_some_iff.1 ho).1
 have C3:DC l (fun k=>k=i∨Ls listed k):=by
  intro k ok hk hL e he hb
  rcases hL with e' | hL
  ·subst e'
   rw [ho] at hk;cases hk
   exact .inr (hd e he hb)
  ·exact .inr (zn k ok hk hL e he hb)
 exact gK C3 SR i aN (.inl rfl) j V7
theorem ON {p:Nat} (hc:JZ l m p) (Ft:p<m→zV l p) (Uf:∀ c a w,¬ Q (.panic c) a w) {S:List cO} {nf:(Nat→Value)→aG} (Se:sH P c hs l 0 (l.take m) (fun _=>sl) [] S nf) {a0:Act} (h0:bK sl a0) (H3:a0.tmps.size=c.nt)
  (tail:∀ β a w,St c D (nf β) (dI β (fun _=>true) S 0++hs) a w→wpAnyIn (FR none) 0 P .any l.toArray Q (l.length-m) (k8 l.length m) a w) :
  ∀ (fuel:Nat) (listed:Array Bool) (a:Act) (w:World),MU c D hs l m S a0 fuel listed a w→wpAnyIn (FR none) 0 P .any l.toArray Q fuel listed a w:=by
 have hle:=hc.le
 have HY:mV sl [] (fun _=>sl) []:=fun β t v hv=>.inr ⟨fun oj h=>(List.not_mem_nil h).elim,hv⟩
 obtain ⟨Bu,_,kc,fJ⟩:=Se.spec (sl:=sl) [] rfl rfl HY
 rw [List.nil_append] at kc fJ
 rw [Nat.zero_add,List.length_take,Nat.min_eq_left hle] at Bu
 have dQ:∀ (j:Nat) (o:Oper),j<m→l[j]? = some o→(l.take m)[j]? = some o:=fun j o hj ho=>by rw [List.getElem?_take,if_pos hj];exact ho
 have fh:∀ (j:Nat) (o:Oper),(l.take m)[j]? = some o→j<m∧l[j]? = some o:=fun j o ho=>by
  rw [List.getElem?_take] at ho
  split at ho
  ·exact ⟨by assumption,ho⟩
  ·cases ho
 have NB:∀ j,j<m→∃ s,S[j]? = some s:=fun j hj=>⟨S[j]'(by omega),List.getElem?_eq_getElem (by omega)⟩
 have l6:∀ fuel listed a w,MU c D hs l m S a0 fuel listed a w→(∀ i,i<m→Ls listed i)→wpAnyIn (FR none) 0 P .any l.toArray Q fuel listed a w:=by
  intro fuel listed a w hI dR
  have hL:∀ i,i<l.length→(Ls listed i↔i<m):=fun i _=>⟨fun h=>Nat.lt_of_not_le fun hm=>hI.hi i hm h,dR i⟩
  obtain ⟨U,vW,pM,rH⟩:=hI.left
  have gP:U.Perm (List.range' m (l.length-m)):=by
   rw [List.perm_ext_iff_of_nodup vW (List.nodup_range')]
   intro i
   rw [pM i,List.mem_range'_1]
   constructor
   ·rintro ⟨h1,h2⟩
    exact ⟨Nat.le_of_not_lt fun h=>h2 (dR i h),by omega⟩
   ·rintro ⟨h1,h2⟩
    exact ⟨by omega,hI.hi i h1⟩
  have hlen:fuel=l.length-m:=by rw [← rH,gP.length_eq,List.length_range']
  have H4:listed=k8 l.length m:=by
   have uI:(k8 l.length m).size=l.length:=by simp [k8];omega
   apply Array.ext
   ·rw [hI.sz,uI]
   ·intro i h1 h2
    rw [hI.sz] at h1
    have h3:=hL i h1
    unfold Ls at h3
    rw [Array.getD_eq_getD_getElem?,Array.getElem?_eq_getElem (by rw [hI.sz];exact h1),Option.getD_some] at h3
    have h4:(k8 l.length m)[i]=decide (i<m):=by
     simp only [k8,List.getElem_toArray]
     by_cases hi:i<m
     ·rw [List.getElem_append_left (by simpa using hi)];simp [hi]
     ·rw [List.getElem_append_right (by simpa using hi)];simp [hi]
    rw [h4]
    by_cases hi:i<m
    ·rw [h3.2 hi];simp [hi]
    ·have:¬ listed[i]=true:=fun h=>hi (h3.1 h)
     simp [hi,this]
  subst hlen
  rw [H4]
  obtain ⟨β,hm,kW⟩:=hI.own
  have e:dI β (fun i=>listed.getD i false) S 0=dI β (fun _=>true) S 0:=gX fun j s hj=>by
   have gR:j<m:=by have:=(List.getElem?_eq_some_iff.1 hj).1;omega
   rw [Nat.zero_add]
   exact ⟨dR j gR,fun _=>rfl⟩
  rw [e] at hm
  refine tail β a w ⟨by rw [List.append_assoc];exact hm,fun t v hv=>?_,hI.size,hI.defers⟩
  rcases kc β t v hv with ⟨j,oj,s,h1,h2,h3,h4⟩ | ⟨h1,h2⟩
  ·obtain ⟨gR,lI⟩:=fh j oj h1
   rw [h4];exact kW j oj t s lI h2 h3 (dR j gR)
  ·rw [hI.A2 t fun j oj hj jl=>h1 oj (List.mem_of_getElem? (dQ j oj (Nat.lt_of_not_le fun hm=>hI.hi j hm jl) hj))]
   exact h0 t v h2
 intro fuel
 induction fuel with
 | zero =>
  intro listed a w hI
  obtain ⟨U,_,pM,rH⟩:=hI.left
  have hU:U=[]:=List.length_eq_zero_iff.1 rH
  refine l6 0 listed a w hI fun i hi=>Classical.byContradiction fun hn=>?_
  have:=(pM i).2 ⟨by omega,hn⟩
  rw [hU] at this;cases this
 | succ fuel ih =>
  intro listed a w hI
  by_cases dR:∀ i,i<m→Ls listed i
  ·exact l6 _ listed a w hI dR
  ·have hex:∃ i,i<m∧¬ Ls listed i:=Classical.byContradiction fun hh=>dR fun i hi=>Classical.byContradiction fun hn=>hh ⟨i,hi,hn⟩
   obtain ⟨i0,vT,oX⟩:=hex
   have main:∀ i,i∈Region.ready .any l.toArray listed→i<m→wpOpIn (FR none) 0 P l.toArray Q i (wpAnyIn (FR none) 0 P .any l.toArray Q fuel (listed.setIfInBounds i true)) a w∧(i=p→wpAnyIn (FR none) 0 P .any l.toArray Q (fuel+1) listed a w):=by
    intro i hi oM
    obtain ⟨o,ho,hn,ln⟩:=(dz hI.sz).1 hi
    obtain ⟨d,EM,s,hd,fy,qU,su,eK⟩:=fJ i o (Nat.zero_le _) (dQ i o oM ho)
    obtain ⟨CS,CT,B,hB,hG⟩:=eK
    obtain ⟨β,hm,kW⟩:=hI.own
    have lk:∀ (j:Nat),e9 o j=true→Ls listed j:=fun j hw=>by
     obtain ⟨e,he,hb,pe⟩:=dp hw
     rw [← pe];exact ln e he hb
    have pf:∀ (j:Nat) (oj:Oper) (e:Nat),l[j]? = some oj→j<m→j≠i→oj.dst=some e→d≠e:=by
     intro j oj e hj gR hne he
     rcases Nat.lt_or_ge j i with h | h
     ·exact fun e'=>(di (jC hc h oM hj ho) he hd).1 e'.symm
     ·exact (di (jC hc (show i<j by omega) gR ho hj) hd he).1
    have iK:i<listed.size:=by rw [hI.sz];omega
    have B2:mC o=true:=hc.op o (List.mem_of_getElem? ho)
    -- zX cT Ot zX operation looks at
    have hT:∀ t∈o.looksAt l.toArray,∀ v,cI (EM β) t=some v→a.tmps[t]? = some v:=by
     intro t ht v hv
     rcases su β t v hv with ⟨j,oj,sj,h1,h2,h3,h4⟩ | ⟨h1,h2⟩
     ·have mR:j<i:=by have:=(List.getElem?_eq_some_iff.1 h1).1;rw [List.length_take] at this;omega
      rw [List.getElem?_take,if_pos mR] at h1 h3
      obtain ⟨gR,lI⟩:=fh j oj h1
      have jl:=lk j ((di (jC hc mR oM lI ho) h2 hd).2 (.inl ht))
      rw [h4];exact kW j oj t sj lI h2 h3 jl
     ·rw [hI.A2 t fun j oj hj jl ig=>?_]
      ·exact h0 t v h2
      ·have gR:j<m:=Nat.lt_of_not_le fun hm=>hI.hi j hm jl
       rcases Nat.lt_trichotomy j i with h | h | h
       ·exact h1 oj (List.mem_of_getElem? (by rw [List.getElem?_take,if_pos h];exact dQ j oj gR hj)) ig
       ·subst h;exact hn jl
       ·have hw:=(di (jC hc h gR ho hj) hd ig).2 (.inr ht)
        obtain ⟨e,he,hb,pe⟩:=dp hw
        have:=hI.dc j oj hj jl e he hb
        rw [pe] at this
        exact hn this
    have uQ:∀ t v,cI (EM β) t=some v→t<c.nt:=by
     intro t v hv
     rcases su β t v hv with ⟨j,oj,sj,h1,h2,_,_⟩ | ⟨_,h2⟩
     ·have mR:j<i:=by have:=(List.getElem?_eq_some_iff.1 h1).1;rw [List.length_take] at this;omega
      rw [List.getElem?_take,if_pos mR] at h1
      obtain ⟨d',_,_,vA,zm,_⟩:=fJ j oj (Nat.zero_le _) h1
      rw [h2] at vA;cases vA
      exact zm
     ·have:=h0 t v h2
      rw [← H3]
      exact (Array.getElem?_eq_some_iff.1 this).1
    obtain ⟨a',lo,je,_⟩:=nX hI.size uQ hT
    have zp:jw c hs (S.take i) B β w:=by
     rintro A (rfl | ⟨j,hj,sj,h1,rfl⟩)
     ·exact hm.sublist ((List.sublist_append_left _ _).trans (List.sublist_append_right _ _))
     ·have mR:j<i:=by have:=(List.getElem?_eq_some_iff.1 h1).1;rw [List.length_take] at this;omega
      rw [List.getElem?_take,if_pos mR] at h1
      have jl:=lk j (hB j hj)
      exact hm.sublist ((qz (lst:=fun i=>listed.getD i false) (i:=0) h1 (by rw [Nat.zero_add];exact jl)).append (List.sublist_append_left _ _))
    have hq:=hG β a' w lo zp
    have hex:=hP (o:=o) (ops:=l.toArray) B2 je
    -- Of a done operation Q9 Tg not SQ on this one
    have nQ:∀ j,Ls listed j→∀ x k,vk l j k=true→β k=tR β i x k:=by
     intro j jl x k hk
     refine (tQ fun e=>?_).symm
     subst e
     unfold vk at hk
     rw [Bool.or_eq_true] at hk
     rcases hk with hk | hk
     ·have:j=k:=by simpa using hk
      subst this;exact hn jl
     ·have PJ:j<l.length:=by
       have gR:j<m:=Nat.lt_of_not_le fun hm=>hI.hi j hm jl
       omega
      exact hn (gK hI.dc hc.ac j PJ jl k hk)
    have gr:∀ v w',MS i s β w v w'→wpAnyIn (FR none) 0 P .any l.toArray Q fuel (listed.setIfInBounds i true) (a.put o.dst v) w':=by
     rintro v w' ⟨x,rfl,hk,fp,kD,gZ,vU⟩
     refine ih _ _ _ ⟨by simpa using hI.sz,?_,?_,by rw [hd];exact hI.defers,by simpa [Act.put,hd] using hI.size,?_,?_,tR β i x,?_,?_⟩
     ·intro k ok re hL e he hb
      rw [cj iK] at hL ⊢
      rcases hL with e' | hL
      ·subst e'
       rw [ho] at re;cases re
       exact .inr (ln e he hb)
      ·exact .inr (hI.dc k ok re hL e he hb)
     ·intro k re hL
      rw [cj iK] at hL
      rcases hL with e | hL
      ·omega
      ·exact hI.hi k re hL
     ·intro t ht
      have h1:d≠t:=fun e=>by subst e;exact ht i o ho ((cj iK).2 (.inl rfl)) hd
      rw [hd]
      simp only [Act.put,Array.getElem?_setIfInBounds_ne h1]
      exact hI.A2 t fun j oj hj hL=>ht j oj hj ((cj iK).2 (.inr hL))
     ·obtain ⟨U,vW,pM,rH⟩:=hI.left
      refine ⟨U.erase i,vW.erase i,fun k=>?_,?_⟩
      ·rw [vW.mem_erase_iff,pM k,cj iK]
       constructor
       ·rintro ⟨h1,h2,h3⟩
        exact ⟨h2,fun h=>h.elim h1 h3⟩
       ·rintro ⟨h1,h2⟩
        exact ⟨fun e=>h2 (.inl e),h1,fun h=>h2 (.inr h)⟩
      ·have PK:i∈U:=(pM i).2 ⟨by omega,hn⟩
       rw [List.length_erase_of_mem PK,rH];rfl
     ·have lH:Mem c (s.A (tR β i x)++(dI β (fun i=>listed.getD i false) S 0++(hs++lX D))) w':=Mem.ND (As:=[]) hm fun rJ _ hf=>by
       rw [show rJ=[] from hf]
       exact ⟨hk,fp,kD,gZ,fun b hb=>.inr (vU b hb)⟩
      have e1:dI β (fun i=>listed.getD i false) S 0=dI (tR β i x) (fun i=>listed.getD i false) S 0:=gX fun j sj hj=>by
       refine ⟨rfl,fun hl=>?_⟩
       rw [Nat.zero_add] at hl
       have gR:j<m:=by have:=(List.getElem?_eq_some_iff.1 hj).1;omega
       obtain ⟨oj,H0⟩:∃ oj,l[j]? = some oj:=⟨l[j]'(by omega),List.getElem?_eq_getElem (by omega)⟩
       obtain ⟨_,_,s2,_,_,hs2,_,uM⟩:=fJ j oj (Nat.zero_le _) (dQ j oj gR H0)
       rw [hj] at hs2;cases hs2
       exact uM.CT _ _ (nQ j hl x)
      rw [e1,← List.append_assoc] at lH
      refine lH.perm ((qB (k:=i) qU ?_ ?_ ?_).append_right _)
      ·rw [Nat.zero_add]
       show listed.getD i false=false
       have:¬ listed.getD i false=true:=hn
       simpa using this
      ·rw [Nat.zero_add];exact (cj iK).2 (.inl rfl)
      ·intro j hj
       rw [Nat.zero_add] at hj
       simp [Array.getD_eq_getD_getElem?,Array.getElem?_setIfInBounds_ne (Ne.symm hj)]
     ·intro j oj e sj hj he jo hL
      rw [cj iK] at hL
      by_cases mR:j=i
      ·subst mR
       rw [ho] at hj;cases hj
       rw [hd] at he;cases he
       rw [qU] at jo;cases jo
       rw [hd]
       simp [Act.put,hI.size,fy]
      ·have Ab:=hL.resolve_left mR
       have gR:j<m:=Nat.lt_of_not_le fun hm=>hI.hi j hm Ab
       obtain ⟨_,_,s2,_,_,hs2,_,uM⟩:=fJ j oj (Nat.zero_le _) (dQ j oj gR hj)
       rw [jo] at hs2;cases hs2
       rw [hd]
       simp only [Act.put,Array.getElem?_setIfInBounds_ne (pf j oj e hj gR mR he)]
       rw [← uM.CS _ _ (nQ j Ab x)]
       exact kW j oj e sj hj he jo Ab
    have Nn:=hq
    refine ⟨?_,fun Sx=>?_⟩
    rotate_left
    ·subst Sx
     obtain ⟨d',x',k',Up,pos',WD,Bl,Pt,eF⟩:=Ft oM
     rw [ho] at Bl;cases Bl
     rw [if_pos (by simp [Region.wanted])] at Nn
     unfold qf at Nn
     obtain ⟨v,hv,Bt⟩:=Bz Nn
     have vU:Region.free .any l.toArray listed i=true:=xH eF fun j hj hne hb=>by
      have lI:j<l.length:=by simpa using hj
      have dw:((ic l []).getD i 0).testBit j=true:=by
       rw [Array.getD_eq_getD_getElem?] at hb
       simpa [lI] using hb
      have VG:j<listed.size:=by rw [hI.sz];exact lI
      rcases wZ hc.ac hI.sz hI.dc hi dw with e | hL
      ·exact absurd e hne
      ·unfold Ls at hL
       rw [Array.getD_eq_getD_getElem?,Array.getElem?_eq_getElem VG] at hL ⊢
       exact hL
     refine wpAnyIn_take (oi:=⟨some d',.extract x' k',Up,pos',WD,none⟩) (v:=v) rfl (by simpa using ho) Pt vU (by simpa using hi) (fun c a w h=>(Uf c _ w h).elim) ⟨.inl ⟨by simp [Region.wanted],fun w2=>by rw [← hex];exact Bt w2⟩,fun w2=>rfl⟩ (gr v w hv)
    unfold wpOpIn
    rw [show l.toArray[i]? = some o from by simpa using ho]
    simp only []
    rw [gD je] at hq
    split
    ·rename_i hw
     rw [if_pos hw] at hq
     refine ⟨dE _ _ _ _ _,?_⟩
     rw [Oper.semAt_eq _ _ _ (fun cc he=>by simp [mC,he] at B2),← hex]
     unfold qf at hq
     revert hq
     generalize (execOp a'.eval o).run P w=res
     intro hq
     match res,hq with
     | .ok (.value v) w',hq=>exact gr v w' hq
     | .ok (.enter f args) w', ⟨e, ch⟩ =>
      subst e
      refine ⟨by simp [FR,Fence.wide],(gQ ch).mono fun e vH h=>?_⟩
      obtain ⟨v,rfl,hq⟩:=h
      exact gr v vH hq
    ·rename_i hw
     rw [if_neg hw] at hq
     exact ⟨fun _ _=>trivial,gr undef w hq⟩
   by_cases hp:p<m∧p∈Region.ready .any l.toArray listed
   ·exact (main p hp.2 hp.1).2 rfl
   ·refine ⟨fun hr=>?_,fun i hi=>?_⟩
    ·obtain ⟨i,hi⟩:=iR hI.sz hc.ac ⟨i0,by omega,oX⟩
     rw [hr] at hi;cases hi
    ·have oM:i<m:=Nat.lt_of_not_le fun hm=>by
      have Kk:=r7 hc hI.sz hI.dc hi hm
      by_cases HW:p<m
      ·by_cases SY:Ls listed p
       ·exact oX (by
         by_cases e:i0=p
         ·rw [e];exact SY
         ·exact Kk i0 vT e)
       ·refine hp ⟨HW,(dz hI.sz).2 ⟨l[p]'(by omega),List.getElem?_eq_getElem (by omega),SY,fun e he hb=>?_⟩⟩
        have aN:=jv hc.ac (List.getElem?_eq_getElem (show p<l.length by omega)) e he hb
        exact Kk e.on (by omega) (by omega)
      ·exact oX (Kk i0 vT (by omega))
     exact (main i hi oM).1
def oy (P:Program) (c:Cx) (D:List Nat) (hs:List ba) (l:List Oper) (Q:Exit→Act→World→Prop) (m i n:Nat) (rest:List Oper) (SL:(Nat→Value)→aG) (S:List cO):Prop:=
 ∃ S' nf,sH P c hs l i (rest.take n) SL S S' nf∧∀ β,Tr c D (nf β) (dI β (fun _=>true) S' 0++hs) (Left P l.toArray Q (l.length-m) (k8 l.length m))
theorem dM {id:Nat} (m:Nat) [pJ:Qv P] (jd:GY l m=true) (k:oy P c D hs l Q m 0 m l (fun _=>sl) []):Tr c D sl hs (WP P none (.region id l.toArray true) Q):=fun a w a7=>by
 obtain ⟨S,nf,hp,ht⟩:=k
 have h:(Code.region id l.toArray true).wpIn (FR none) 0 P (NP Q) a w:=wpIn_region_any pJ.eq (by
  refine ON (p:=m) (r6 jd) (fun h=>absurd h (Nat.lt_irrefl _)) (fun c a w h=>h.elim) hp a7.cT a7.size (fun β a w a7=>ht β a w a7) l.toArray.size _ _ _ ⟨by simp,?_,?_,a7.defers,a7.size,fun t _=>rfl,?_,fun _=>undef,?_,?_⟩
  ·exact fun k o _ hL=>absurd hL (eJ _ _)
  ·exact fun k _ hL=>eJ _ _ hL
  ·exact ⟨List.range l.length,List.nodup_range,fun i=>⟨fun h=>⟨by simpa using h,eJ _ _⟩,fun h=>by simpa using h.1⟩,by simp⟩
  ·have e:∀ (T:List cO) (i:Nat),dI (fun _=>undef) (fun i=>(Array.replicate l.toArray.size false).getD i false) T i=[]:=by
    intro T
    induction T with
    | nil=>intro i;rfl
    | cons s T ih =>
     intro i
     have:=eJ l.toArray.size i
     unfold Ls at this
     unfold dI
     rw [if_neg this,ih];rfl
   rw [e]
   exact a7.mem.drew
  ·exact fun j o d s _ _ _ hL=>absurd hL (eJ _ _))
 exact wpIn_mono h fun e a' w' h=>by
  cases e with
  | panic c=>exact h.elim
  | _=>exact h
end
end Go.SL
namespace Go.SL
open Go
def eQ:Value→Nat
 | .int _ n=>n.toNat
 | _=>0
theorem oN (b:Nat):eQ (.int .i64 (b:Int))=b:=by simp [eQ]
def vD:Value→Option Addr×Nat
 | .slice a _ c=>(a,c)
 | _=>(none,0)
def eI (β:Nat→Value):List cO→List ba
 | []=>[]
 | s::S=>s.A β++eI β S
theorem AV (β:Nat→Value):∀ (S:List cO) (i:Nat),dI β (fun _=>true) S i=eI β S
 | [],_=>rfl
 | s::S,i=>by rw [dI,eI,if_pos rfl,AV β S]
section
variable {P:Program} {c:Cx} {D:List Nat} {sl:aG} {hs hs':List ba} {X:Act→World→Prop} {Q:Exit→Act→World→Prop} {l:List Oper} {m i n d:Nat} {op:Op} {ty:TypeId} {pos:String} {af:Array Edge} {rest:List Oper} {SL:(Nat→Value)→aG} {S:List cO}
theorem iG (l:List Oper) (i:Nat):vk l i i=true:=by simp [vk]
theorem q7 {o:Oper} {s:cO} (hd:o.dst=some d) (fy:Nat.blt d c.nt=true) (h:Dt P c hs l i o SL S s) (k:oy P c D hs l Q m (i+1) n rest (fun β=>(d,s.F β)::SL β) (S++[s])):oy P c D hs l Q m i (n+1) (o::rest) SL S:=by
 obtain ⟨S',nf,hp,ht⟩:=k
 exact ⟨S',nf,.step hd (by simpa [Nat.blt_eq] using fy) h hp,ht⟩
theorem c5 {dst:Option Tmp} {j gs:Nat} {want:Bool} (hj:((l.toArray[j]?).bind (·.dst))=some gs) (hq:∀ β,cI (SL β) gs=some (.bool want))
  (k:oy P c D hs l Q m i (n+1) (⟨dst,op,ty,pos,af,none⟩::rest) SL S):oy P c D hs l Q m i (n+1) (⟨dst,op,ty,pos,af,some (j,want)⟩::rest) SL S:=by
 obtain ⟨S',nf,hp,ht⟩:=k
 refine ⟨S',nf,?_,ht⟩
 cases hp with
 | step hd fy h t =>
  obtain ⟨h1,h2,B,hB,hr⟩:=h
  refine .step hd fy ⟨h1,h2,B,hB,fun β a w hs1 hb=>?_⟩ t
  have:=hr β a w hs1 hb
  rw [if_pos (by simp [Region.wanted])] at this
  rw [ko (o:=⟨dst,op,ty,pos,af,some (j,want)⟩) (c0:=true) rfl hj hs1 (by rw [hq β];rfl),if_pos (by simp)]
  exact this
theorem dB {j gs:Nat} {want:Bool} {v:Value} (hj:((l.toArray[j]?).bind (·.dst))=some gs) (hq:∀ β,cI (SL β) gs=some v) (hv:v=undef∨v=.bool (!want)) (hd:Nat.blt d c.nt=true)
  (k:oy P c D hs l Q m (i+1) n rest (fun β=>(d,undef)::SL β) (S++[⟨fun _=>undef,fun _=>[]⟩])):oy P c D hs l Q m i (n+1) (⟨some d,op,ty,pos,af,some (j,want)⟩::rest) SL S:=
 q7 (s:=⟨fun _=>undef,fun _=>[]⟩) rfl hd ⟨fun _ _ _=>rfl,fun _ _ _=>rfl,[],by simp,fun β a w h1 h2=>by
  have hw:∃ c0 q,gv c0 (.bool q)=v∧(c0&&(q==want))=false:=by
   rcases hv with e | e
   ·exact ⟨false,want,by rw [e];rfl,rfl⟩
   ·exact ⟨true,!want,by rw [e];rfl,by cases want <;> rfl⟩
  obtain ⟨c0,q,e,QN⟩:=hw
  rw [ko (o:=⟨some d,op,ty,pos,af,some (j,want)⟩) (c0:=c0) (q:=q) rfl hj h1 (by rw [hq β,e]),if_neg (by simpa using QN)]
  exact ⟨β i,rfl,.refl _ _,[],List.nodup_nil,rfl,by simp⟩⟩ k
theorem fC (k:∀ β,Tr c D (SL β) (eI β S++hs) (Left P l.toArray Q (l.length-m) (k8 l.length m))):oy P c D hs l Q m i 0 rest SL S:=
 ⟨S,SL,.nil,fun β=>by rw [AV];exact k β⟩
theorem au {F:(Nat→Value)→Value} (hr:∀ β,cX P c (SL β) hs ⟨some d,op,ty,pos,af,none⟩ (F β)) (hi:px l i F) (hd:Nat.blt d c.nt=true) (k:oy P c D hs l Q m (i+1) n rest (fun β=>(d,F β)::SL β) (S++[⟨F,fun _=>[]⟩])) :
  oy P c D hs l Q m i (n+1) (⟨some d,op,ty,pos,af,none⟩::rest) SL S:=
 q7 (s:=⟨F,fun _=>[]⟩) rfl hd ⟨hi,fun _ _ _=>rfl,[],by simp,fun β a w h1 h2=>by
  rw [if_pos (by simp [Region.wanted])]
  unfold qf
  rw [(hr β).2 a w h1 h2.mem]
  exact ⟨β i,by rw [tP],.refl _ _,[],List.nodup_nil,rfl,by simp⟩⟩ k
theorem cH {f:FuncId} {args:(Nat→Value)→List Value} {F:(Nat→Value)→Value} (B:List Nat) (hB:(B.all fun j=>e9 ⟨some d,op,ty,pos,af,none⟩ j)=true) (hr:∀ β,k7 P (SL β) ⟨some d,op,ty,pos,af,none⟩ f (args β)) (hi:px l i F) (hd:Nat.blt d c.nt=true)
  (hc:∀ β w,jw c hs S B β w→aj P f (args β) w (F β)) (k:oy P c D hs l Q m (i+1) n rest (fun β=>(d,F β)::SL β) (S++[⟨F,fun _=>[]⟩])) :
  oy P c D hs l Q m i (n+1) (⟨some d,op,ty,pos,af,none⟩::rest) SL S:=
 q7 (s:=⟨F,fun _=>[]⟩) rfl hd ⟨hi,fun _ _ _=>rfl,B,fun j hj=>List.all_eq_true.1 hB j hj,fun β a w h1 h2=>by
  rw [if_pos (by simp [Region.wanted])]
  unfold qf
  rw [(hr β).2 a w h1]
  exact ⟨rfl,(hc β w h2).mono fun e w' ⟨he,hk⟩=>⟨F β,he,β i,by rw [tP],hk,[],List.nodup_nil,rfl,by simp⟩⟩⟩ k
theorem fb {ι:Type} {Φ:ι→Prop} {val:ι→Value} {own:ι→List ba} (g:Value→ι) (hg:∀ x,∃ v,g v=x) {f:FuncId} {args:(Nat→Value)→List Value} (B:List Nat) (hB:(B.all fun j=>e9 ⟨some d,op,ty,pos,af,none⟩ j)=true)
  (hr:∀ β,k7 P (SL β) ⟨some d,op,ty,pos,af,none⟩ f (args β)) (hd:Nat.blt d c.nt=true) (hc:∀ β w,jw c hs S B β w→bd P f (args β) w [] Φ val own)
  (k:oy P c D hs l Q m (i+1) n rest (fun β=>(d,val (g (β i)))::SL β) (S++[⟨fun β=>val (g (β i)),fun β=>own (g (β i))⟩])) :
  oy P c D hs l Q m i (n+1) (⟨some d,op,ty,pos,af,none⟩::rest) SL S:=
 q7 (s:=⟨fun β=>val (g (β i)),fun β=>own (g (β i))⟩) rfl hd ⟨fun β β' h=>by simp only [h i (iG l i)],fun β β' h=>by simp only [h i (iG l i)],B,fun j hj=>List.all_eq_true.1 hB j hj,fun β a w h1 h2=>by
  rw [if_pos (by simp [Region.wanted])]
  unfold qf
  rw [(hr β).2 a w h1]
  refine ⟨rfl,(hc β w h2).mono fun e w' ⟨x,he,_,hk,fp,hn,hs',hf⟩=>?_⟩
  obtain ⟨v,hv⟩:=hg x
  refine ⟨val x,he,v,by simp only [jM,hv],hk,fp,hn,by simp only [jM,hv];exact hs',fun b hb=>?_⟩
  rcases hf b hb with h | h
  ·cases h
  ·exact h⟩ k
theorem kP {V:Nat→Value} {ob:(Nat→Value)→Obj} (hr:∀ β,qe P c (SL β) hs ⟨some d,op,ty,pos,af,none⟩ V (ob β)) (hi:∀ β β',(∀ k,k≠i→vk l i k=true→β k=β' k)→ob β=ob β') (hd:Nat.blt d c.nt=true)
  (k:oy P c D hs l Q m (i+1) n rest (fun β=>(d,V (eQ (β i)))::SL β) (S++[⟨fun β=>V (eQ (β i)),fun β=>[bD (eQ (β i)) (ob β)]⟩])) :
  oy P c D hs l Q m i (n+1) (⟨some d,op,ty,pos,af,none⟩::rest) SL S:=
 q7 (s:=⟨fun β=>V (eQ (β i)),fun β=>[bD (eQ (β i)) (ob β)]⟩) rfl hd ⟨fun β β' h=>by simp only [h i (iG l i)],fun β β' h=>by simp only [h i (iG l i),hi β β' fun k _ hk=>h k hk],[],by simp,fun β a w h1 h2=>by
  rw [if_pos (by simp [Region.wanted])]
  unfold qf
  rw [(hr β).2 a w h1 h2.mem]
  have e:ob (tR β i (.int .i64 (w.heap.size:Int)))=ob β:=hi _ _ fun k hk _=>tQ hk
  exact ⟨.int .i64 (w.heap.size:Int),by simp only [jM,oN],.alloc _ _ _,[w.heap.size],by simp,⟨[w.heap.size],[],rfl,⟨by simp only [jM,oN],by simp only [jM,oN];rw [e];exact World.alloc_heap_new w (ob β)⟩,rfl⟩,by simp⟩⟩ k
end
end Go.SL
namespace Go.SL
open Go
section
variable {P:Program} {c:Cx} {sl:aG} {hs:List ba} {dst:Option Tmp} {ty:TypeId} {pos:String} {af:Array Edge} {g:Option (Nat×Bool)}
theorem dH {x:Operand} {a:Addr} (hx:Is sl x (.pointer (some a))):cX P c sl hs ⟨dst,.nilCheck x,ty,pos,af,g⟩ (.pointer (some a)):=
 ⟨by simp,fun ac w ha _=>by simp [execOp,hx ac ha]⟩
end
section
variable {P:Program} {c:Cx} {D:List Nat} {hs:List ba} {Q:Exit→Act→World→Prop} {l:List Oper} {m i n d:Nat} {op:Op} {ty:TypeId} {pos:String} {af:Array Edge} {rest:List Oper} {SL:(Nat→Value)→aG} {S:List cO}
theorem du {v:Value}:px l i (fun _=>v):=fun _ _ _=>rfl
end
section
variable {P:Program} {c:Cx} {D:List Nat} {sl:aG} {hs:List ba} {Q:Exit→Act→World→Prop} {ops:Array Oper} {fuel:Nat} {listed:Array Bool}
end
section
variable {P:Program} {r:Option Nat} {c:Cx} {D:List Nat} {sl:aG} {hs:List ba} {Q:Exit→Act→World→Prop} {ops:Array Oper} {fuel i:Nat} {listed:Array Bool}
def xX (P:Program) (r:Option Nat) (ops:Array Oper) (Q:Exit→Act→World→Prop) (fuel:Nat) (listed:Array Bool):Act→World→Prop:=wpAnyIn (FR r) 0 P .any ops (NP Q) fuel listed
def N7 (P:Program) (r:Option Nat) (c:Cx) (D:List Nat) (sl:aG) (hs:List ba) (ops:Array Oper) (Q:Exit→Act→World→Prop) (fuel:Nat) (listed:Array Bool) (i:Nat):Prop:=
 ∀ a w,St c D sl hs a w→wpOpIn (FR r) 0 P ops (NP Q) i (xX P r ops Q fuel (listed.setIfInBounds i true)) a w
theorem sf {rs:List Nat} (hr:Region.ready .any ops listed=rs) (hne:rs≠[]) (h:∀ i∈rs,N7 P r c D sl hs ops Q fuel listed i):Tr c D sl hs (xX P r ops Q (fuel+1) listed):=fun a w a7=>
 wpAnyIn_all hr hne fun i hi=>h i hi a w a7
theorem ux {d:Option Tmp} {op:Op} {ty:TypeId} {pos:String} {af:Array Edge} {g:Option (Nat×Bool)} (hi:ops[i]? = some ⟨d,op,ty,pos,af,g⟩) (h:Tr c D sl hs (WL P r ops (Exit.then (xX P r ops Q fuel (listed.setIfInBounds i true)) (NP Q)) [⟨d,op,ty,pos,af,g⟩])):N7 P r c D sl hs ops Q fuel listed i:=fun a w a7=>by
 have h1:=h a w a7
 unfold wpOpIn
 simp only [hi]
 unfold WL at h1
 split
 ·rename_i hw
  rw [if_pos hw] at h1
  exact Oper.tM (fun a w h=>h) (fun c a w h=>h) (fun h=>h) h1
 ·rename_i hw
  rw [if_neg hw] at h1
  exact ⟨fun _ _=>trivial,h1⟩
theorem CN (hr:Region.ready .any ops listed=[]) (k:Tr c D sl hs (Q .normal)):Tr c D sl hs (xX P r ops Q fuel listed):=fun a w a7=>
 wpAnyIn_done (Q:=NP Q) hr (k a w a7) fuel
end
end Go.SL
namespace Go.SL
open Go
variable {P:Program} {c:Cx} {sl:aG} {hs:List ba} {dst:Option Tmp} {ty:TypeId} {pos:String} {af:Array Edge} {g:Option (Nat×Bool)}
end Go.SL
namespace Go.SL
open Go
section
variable {P:Program} {c:Cx} {sl:aG} {hs:List ba} {dst:Option Tmp} {ty:TypeId} {pos:String} {af:Array Edge} {g:Option (Nat×Bool)}
theorem wW {t e:TypeId} {m n:Nat} {agg:Bool} {x:Operand} {b o:Nat} [hu:iA P t (.array m e)] [hT:Ty P e agg n] (hx:Is sl x (.pointer (some ⟨b,o,none⟩))) :
  cX P c sl hs ⟨dst,.slice t x none none none,ty,pos,af,g⟩ (.slice (some ⟨b,o,none⟩) m m):=
 ⟨by simp,fun ac w ha _=>by
  simp only [execOp,hx ac ha,Option.map]
  refine value_of ?_
  simp [Instr.sliceAt,aT hu.eq,Instr.sureAddr,Instr.sliceBounds,fF (t:=e) (agg:=agg) (n:=n),eA]⟩
end
end Go.SL
namespace Go.Proofs.A1
open Go Go.SL
theorem M8 (x:Int) (w:World):aj Tryz.prog 342 [.int .i64 x] w (.bool false):=by
 refine ah Tryz.func342 rfl rfl ?_
 refine Jr<|Ja rfl<|Ji<|Jv rfl<|Jv rfl<|JD rfl<|Ja rfl<|Jn<|Je<|JT ?_
 simp
theorem BD (x y:Int) (w:World):aj Tryz.prog 300 [.int .i64 x,.int .i64 y] w (.int .i64 (jR x y)):=by
 refine ah Tryz.func300 rfl rfl ?_
 (refine Jr<|Ja rfl<|Ji<|Jv rfl<|ag bC rfl (fun w' az=>(M8 x w')) ?_;refine Ja rfl<|Ji<|Jv rfl<|ag bC rfl (fun w' az=>(M8 y w')) ?_;refine Ja rfl<|Jn<|Jq<|Jr<|Jv rfl<|Jn<|bR (.of rfl) ?_;refine Jk<|Jq<|Jr<|Jv rfl<|Jn<|bR (.of rfl) ?_;refine Jk<|Jq<|Jr<|Jv rfl<|Jv rfl<|JA rfl<|Jn<|fY rfl (fun aq=>?_) fun aq=>?_;refine Jr<|Ja rfl<|Jn<|Ju<|JT ?_;rotate_left;refine Jk<|Jq<|Jr<|Jv rfl<|Jv rfl<|JE rfl<|Jn<|fY rfl (fun aq=>?_) fun aq=>?_;refine Jr<|Ja rfl<|Jn<|Ju<|JT ?_;rotate_left;refine Jk<|Jr<|Ja rfl<|Jn<|Je<|JT ?_;rotate_right;rotate_right)
 ·rw [jR,if_pos aq]
 ·rename_i h1
  rw [jR,if_neg h1,if_pos aq]
 ·rename_i h1
  rw [jR,if_neg h1,if_neg aq]
theorem Rw {lv:Value} {l:List Int} {w:World} (h:Rd w lv 1 (ints l)):aj Tryz.prog 319 [lv] w (.int .i64 (aV l)):=by
 obtain ⟨a,cp,b,o,rfl,df,bO,ha,hc⟩:=h
 rw [cZ] at *
 unfold maxLen at bO
 refine ah Tryz.func319 rfl rfl ?_
 refine Jr<|Ja rfl<|Ji<|Ja rfl<|Jn<|Jq<|Jr<|Jv rfl<|JI rfl<|Jv rfl<|Jn<|J0 ?_
 refine aX (fun k:Nat=>k≤l.length∧aV l=aV (l.drop k)) (fun k=>[(8,.int .i64 k),(7,.int .i64 l.length),(6,.slice a l.length cp),(3,.int .i64 0)]) (fun _=>[]) (fun k=>l.length-k) ?_ ?_
 ·apply aK 0 ⟨Nat.zero_le _,rfl⟩
  case hs1=>exact cn
  case ht=>(try simp only [List.take_zero,List.map_nil,List.nil_append]);exact .nil
 rintro k ⟨hk,hf⟩
 by_cases aN:k<l.length
 ·have cM:=ha (jc aN)
  have c0:w.cell? ⟨b,o+k*1,none⟩=some (.int .i64 l[k]):=(hc k _ (gM aN)).2 0 _ rfl
  have jk:=rM aN
  (refine Jr<|JA rfl<|Jn<|Jq<|Jd rfl fun aq=>Jk<|Jq<|J0<|Jr<|ab (fM cM aq) rfl ?_;refine ab (ai (.of rfl) (At.base c0 rfl)) rfl ?_;refine Ja rfl<|Ji<|Jv rfl<|Jv rfl<|JD rfl<|Jn<|fY rfl (fun aq=>?_) fun aq=>?_;refine Jr<|Jv rfl<|Ja rfl<|Jn<|Je<|Jm<|Jh<|Jh<|Jm<|Jh<|JT ?_;rotate_left;refine Jw<|Jj<|Jt<|Jg<|JB rfl (by omega)<|Jv rfl<|Jn ?_;rotate_right)
  ·rw [hf,jk,if_pos aq]
  ·apply aL (k+1) ⟨by omega,by rw [hf,jk,if_neg aq]⟩ (by omega)
   case hs1=>exact cn
   case ht=>(try simp only [List.take_zero,List.map_nil,List.nil_append]);exact .nil
 ·rw [List.drop_eq_nil_of_le (by omega)] at hf
  refine Jr<|JA rfl<|Jn<|Jq<|Jc rfl fun aq=>Jp<|Jl<|Jo<|Jt<|Jr<|Jv rfl<|Ja rfl<|Jn<|Je<|JT ?_
  rw [hf];rfl
theorem xP {lv mv:Value} {l m:List Int} {w:World} (h:Rd w lv 1 (ints l)) (h':Rd w mv 1 (ints m)):aj Tryz.prog 236 [lv,mv] w (.int .i64 (kY l m)):=by
 obtain ⟨a,cp,b,o,rfl,df,bO,ha,hc⟩:=h
 rw [cZ] at *
 obtain ⟨a',QV,b',o',rfl,nS,Nq,cM,Ub⟩:=h'
 rw [cZ] at *
 unfold maxLen at bO Nq
 refine ah Tryz.func236 rfl rfl ?_
 refine Jr<|Ja rfl<|Jn<|Jq<|Jr<|Jv rfl<|JI rfl<|Jv rfl<|Jn<|J0 ?_
 refine aX (fun k:Nat=>k≤l.length∧k≤m.length∧kY l m=kY (l.drop k) (m.drop k)) (fun k=>[(11,.int .i64 k),(10,.int .i64 l.length),(9,.slice a l.length cp),(0,.slice a l.length cp),(1,.slice a' m.length QV)]) (fun _=>[]) (fun k=>l.length-k) ?_ ?_
 ·apply aK 0 ⟨Nat.zero_le _,Nat.zero_le _,rfl⟩
  case hs1=>exact cn
  case ht=>(try simp only [List.take_zero,List.map_nil,List.nil_append]);exact .nil
 rintro k ⟨hk,re,hf⟩
 by_cases aN:k<l.length
 ·have lo:=ha (jc aN)
  have c0:w.cell? ⟨b,o+k*1,none⟩=some (.int .i64 l[k]):=(hc k _ (gM aN)).2 0 _ rfl
  by_cases rF:k<m.length
  ·have je:=cM (jc rF)
   have c1:w.cell? ⟨b',o'+k*1,none⟩=some (.int .i64 m[k]):=(Ub k _ (gM rF)).2 0 _ rfl
   have jk:=FN aN rF
   (refine Jr<|JA rfl<|Jn<|Jq<|Jd rfl fun aq=>Jk<|Jq<|J0<|Jr<|Jv rfl<|ab (fM lo aq) rfl ?_;refine ab (ai (.of rfl) (At.base c0 rfl)) rfl ?_;refine Ja rfl<|Ja rfl<|Jn<|Jq<|Jr<|Jv rfl<|Jv rfl<|JI rfl<|JG rfl<|Jn<|Jc rfl fun aq=>Jk<|Jr<|Jv rfl<|Jv rfl<|ab (aC (.of rfl) (.of rfl) je (by omega) (by omega) bo) rfl ?_;refine ab (ai (.of rfl) (At.base c1 rfl)) rfl ?_;refine Ja rfl<|Ji<|Jv rfl<|Jv rfl<|ag aZ rfl (fun w' az=>(BD _ _ w')) ?_;refine Ja rfl<|Ji<|Jv rfl<|JD rfl<|Jn<|fY rfl (fun aq=>?_) fun aq=>?_;refine Jr<|Jv rfl<|Ja rfl<|Jn<|Je<|Jm<|Jh<|Jh<|Jm<|Jh<|JT ?_;rotate_left;refine Jw<|Jj<|Jt<|Jg<|JB rfl (by omega)<|Jv rfl<|Jn ?_;rotate_right)
   ·rw [hf,jk,if_pos aq]
   ·apply aL (k+1) ⟨by omega,by omega,by rw [hf,jk,if_neg aq]⟩ (by omega)
    case hs1=>exact cn
    case ht=>(try simp only [List.take_zero,List.map_nil,List.nil_append]);exact .nil
  ·rw [List.drop_eq_getElem_cons aN,List.drop_eq_nil_of_le (show m.length≤k by omega)] at hf
   (refine Jr<|JA rfl<|Jn<|Jq<|Jd rfl fun aq=>Jk<|Jq<|J0<|Jr<|Jv rfl<|ab (fM lo aq) rfl ?_;refine ab (ai (.of rfl) (At.base c0 rfl)) rfl ?_;refine Ja rfl<|Ja rfl<|Jn<|Jq<|Jr<|Jv rfl<|Jv rfl<|JI rfl<|JG rfl<|Jn<|Jd rfl fun aq=>Jr<|Ja rfl<|Jn<|Ju<|Jm<|Jh<|Jh<|Jm<|Jh<|JT ?_)
   rw [hf];rfl
 ·rw [List.drop_eq_nil_of_le (show l.length≤k by omega),IL,List.length_drop] at hf
  by_cases rF:k<m.length
  ·rw [if_pos (by omega)] at hf
   refine Jr<|JA rfl<|Jn<|Jq<|Jc rfl fun aq=>Jp<|Jl<|Jo<|Jt<|Jq<|Jr<|Jv rfl<|JI rfl<|Jv rfl<|JI rfl<|JA rfl<|Jn<|Jd rfl fun aq=>Jr<|Ja rfl<|Jn<|Ju<|JT ?_
   rw [hf]
  ·rw [if_neg (by omega)] at hf
   refine Jr<|JA rfl<|Jn<|Jq<|Jc rfl fun aq=>Jp<|Jl<|Jo<|Jt<|Jq<|Jr<|Jv rfl<|JI rfl<|Jv rfl<|JI rfl<|JA rfl<|Jn<|Jc rfl fun aq=>Jk<|Jr<|Ja rfl<|Jn<|Je<|JT ?_
   rw [hf]
def mX (r:Ro) (x:Ti):Int:=aV [eP r x.fr,eP r x.to,bS (decide (x.fr=x.to)) 24]
theorem MD {r:Ro} {s d t p:Value} (x:Ti) {w w1:World} (h:RR w1 r s d t p):aj Tryz.prog 145 [RA r s d t p,.agg x.cells.toArray] w (.int .i64 (mX r x)):=by
 have h1:=Rd.one h.sr
 have h2:=Rd.one h.de
 have h3:=Rd.one h.ti
 have h4:=Rd.one h.po
 have SA:∀ m w',aj Tryz.prog 136 [.agg #[.int .i64 r.lv,.int .i64 r.ma,s,d,t,p],.int .i64 m] w' (.int .i64 (eP r m)):=fun m w'=>Ek m h
 unfold RA Ti.cells
 refine ah Tryz.func145 rfl rfl ?_
 (refine Jr<|Jy rfl rfl fun _ _=>Jy rfl rfl fun _ _=>Ja rfl<|Ji<|bF rfl rfl ae ?_;refine JL rfl .here rfl<|bF rfl rfl ae ?_;refine JL rfl .here rfl<|ab (aS (.cons (.of rfl) (.cons (.of rfl) .nil)) ak) rfl ?_;refine Jz rfl rfl fun _ _=>ao (.of rfl) (.of rfl) .here rfl rfl (gn rfl rfl) (bE rfl) ak ?_;refine Jn<|Jq ?_)
 with_reducible refine cQ 17 (by kernel_rfl) ?_
 (refine an (cr bI) rfl ?_;refine an kr rfl ?_;refine an (gp (.there .here)) rfl ?_;refine aU aZ rfl (fun w' az=>(SA _ w')) ?_;refine an (cr bI) rfl ?_;refine an kr rfl ?_;refine an (gp (.there .here)) rfl ?_;refine aU aZ rfl (fun w' az=>(SA _ w')) ?_;refine an (cr .here) rfl ?_;refine an kr rfl ?_;refine an (gp (.there .here)) rfl ?_;refine an kr rfl ?_;refine an (gp (.there .here)) rfl ?_;refine an (aS (.cons (.of rfl) (.cons (.of rfl) .nil)) ak) rfl ?_;refine an (tl (.of rfl) (.of rfl) (jA (jA lj)) rfl) rfl ?_;refine aU aZ rfl (fun w' az=>(dL _ 24 w')) ?_;refine en (aA (.cons (.of rfl) (.cons (.of rfl) (.cons (.of rfl) .nil))) rfl rfl rfl rfl) rfl rfl ?_)
 with_reducible refine dy rfl fun bq mT=>?_
 (refine ag bC rfl (fun w' az=>(dF (Mem.dh az .here rfl rfl) (bU.cons (bU.cons (bU.cons bU.nil))))) ?_;refine Ja rfl<|Jn<|Je<|JT ?_)
 have e:(decide True&&(decide (x.to=x.fr)&&true))=decide (x.fr=x.to):=by
  rw [Bool.eq_iff_iff];simp [eq_comm]
 unfold mX
 rw [← e]
theorem ug {P:Program} {c:Cx} {sl:aG} {hs:List ba} {dst:Option Tmp} {ty:TypeId} {pos:String} {af:Array Edge} {g:Option (Nat×Bool)} {t kt et:TypeId} {x y:Operand} {b:Nat} {k:ByteArray} {l:List (ByteArray×Value)} {z V:Value} [hu:iA P t (.map kt et)] [Fx:iA P kt .string] [hz:lu P et z]
  (hx:Is sl x (.map (some b))) (hy:Is sl y (.string k)) (hl:Looks c hs b (fun s:ByteArray=>Value.string s) l) (e:(er k l).getD z=V) :
  cX P c sl hs ⟨dst,.lookup t x y true,ty,pos,af,g⟩ (.tuple #[V,.bool (er k l).isSome]):=e ▸ Cv HB hx hy hl
theorem Hc {r:Ro} (hd:B7 r) (s:ByteArray):∃ (a b c:Int) (one:Bool),(er s (nH r)).getD (kV 0 0 0)=kV a b c∧(er s (nH r)).isSome=one∧(one=true→a=dP r s∧b=jU r s∧c=jE r s)∧(one=false→jU r s<0∧jE r s<0):=by
 rw [pC hd]
 cases h:iF (dX r) s with
 | true=>exact ⟨_,_,_,true,rfl,rfl,fun _=>⟨rfl,rfl,rfl⟩,fun h=>by cases h⟩
 | false =>
  refine ⟨0,0,0,false,rfl,rfl,(fun h=>by cases h),fun _=>?_⟩
  have hn:s ∉ dX r:=fun hm=>by rw [eX.2 hm] at h;cases h
  unfold dX at hn
  rw [List.mem_append,List.mem_append,not_or,not_or] at hn
  have e1:=bT.2 hn.1.1
  have e2:=bT.2 hn.1.2
  have e3:=bT.2 hn.2
  unfold jU jE
  rw [if_neg (by omega),if_neg (by omega),if_neg (by omega),if_neg (by omega)]
  omega
def lG (r:Ro) (x:Po):Int:=aV [fR x.lv 0 (r.lv-1),bS (decide (jU r x.ou<0)) 10,bS (decide (jE r x.ip<0)) 10,bS (decide (jU r x.ou≠jE r x.ip)) 24]
def Dl (r:Ro):Option Po→List Int
 | none=>[-1,-1]
 | some x=>[x.lv,dP r x.ou]
def Fe (r:Ro) (po:List Po) (k:Nat):Int:=
 match po[k]? with
 | none=>0
 | some x=>if lG r x≠0 then lG r x else if kY [x.lv,dP r x.ou] (Dl r (if k=0 then none else po[k-1]?))≤0 then 11 else 0
theorem qG {r:Ro} {po:List Po} {k:Nat} (h:k<po.length):Fe r po k=if lG r po[k]≠0 then lG r po[k] else if kY [po[k].lv,dP r po[k].ou] (Dl r (if k=0 then none else po[k-1]?))≤0 then 11 else 0:=by
 unfold Fe;rw [List.getElem?_eq_getElem h]
theorem Lj {r:Ro} {x:Po} {a b c a' b' c':Int} {one two:Bool} (h1:one=true→a=dP r x.ou∧b=jU r x.ou∧c=jE r x.ou) (h2:one=false→jU r x.ou<0∧jE r x.ou<0)
  (h3:two=true→a'=dP r x.ip∧b'=jU r x.ip∧c'=jE r x.ip) (h4:two=false→jU r x.ip<0∧jE r x.ip<0) :
  aV [fR x.lv 0 (r.lv-1),bS (!one||decide (b<0)) 10,bS (!two||decide (c'<0)) 10,bS (decide (b≠c')) 24]=lG r x∧(lG r x=0→one=true):=by
 unfold lG
 cases one with
 | true =>
  obtain ⟨-,rfl,-⟩:=h1 rfl
  cases two with
  | true=>obtain ⟨-,-,rfl⟩:=h3 rfl;exact ⟨rfl,fun _=>rfl⟩
  | false =>
   have:=(h4 rfl).2
   refine ⟨?_,fun _=>rfl⟩
   simp [aV,bS,this]
 | false =>
  have:=(h2 rfl).1
  constructor
  ·simp [aV,bS,this]
  ·intro h
   simp [aV,bS,this] at h
   split at h <;> simp_all
def jn (r:Ro) (po:List Po):Int:=jm (Fe r po) po.length
theorem v8 {r:Ro} {s d t p:Value} {w:World} (h:RR w r s d t p) (hd:B7 r) (cJ:r.de.length+r.ti.length≤1000000) (zi:TE (r.lv-1)):aj Tryz.prog 146 [RA r s d t p] w (.int .i64 (jn r r.po)):=by
 have h1:=Rd.one h.sr
 have h2:=Rd.one h.de
 have h3:=Rd.one h.ti
 have h4:=Rd.one h.po
 have hp:=h.po
 obtain ⟨a,cp,b,o',rfl,df,bO,ha,hc⟩:=hp
 rw [cU] at *
 unfold maxLen at bO
 unfold RA
 refine ah Tryz.func146 rfl rfl ?_
 refine Jr<|Jy rfl rfl fun _ _=>Ja rfl<|Ji<|ab (cr .here) rfl ?_
 refine JN bC rfl (fun w1 aJ=>DY (h.keeps aJ.keeps) cJ) ?_
 intro bm _
 dsimp only [id_eq,List.cons_append,List.nil_append]
 (refine Ja rfl<|Ji<|ab (aS (.cons (.of rfl) (.cons (.of rfl) .nil)) ak) rfl ?_;refine Jz rfl rfl fun _ _=>ao (.of rfl) (.of rfl) .here rfl rfl (gn rfl rfl) (bE rfl) ak ?_;refine Jn<|Jq<|Jr<|bF rfl rfl ae ?_;refine JL rfl bI rfl<|JI rfl<|Jv rfl<|Jn<|J0 ?_)
 rename_i b1 sy _ b4 vC
 refine aX (ι:=Nat×Int×Int) (fun x=>x.1≤r.po.length∧(∀ i,i<x.1→Fe r r.po i=0)∧[x.2.1,x.2.2]=Dl r (if x.1=0 then none else r.po[x.1-1]?))
  (fun x=>[(19,.int .i64 (x.1:Nat)),(18,.int .i64 r.po.length),(17,.slice a r.po.length cp),(4,.pointer (some ⟨b4,0,none⟩)),(3,.map (some bm)),(2,.int .i64 0),(1,.pointer (some ⟨b1,0,none⟩))])
  (fun x=>[bD b4 (.cells #[.int .i64 x.2.1,.int .i64 x.2.2] 299 (0,0)),mp (fun s:ByteArray=>Value.string s) bm (nH r),JP b1 r s d t (.slice a r.po.length cp)])
  (fun x=>r.po.length-x.1) ?_ ?_
 ·apply aK (0,-1,-1) ⟨Nat.zero_le _,fun i h=>by omega,rfl⟩
  case hs1=>exact cn
  case ht=>(try simp only [List.take_zero,List.map_nil,List.nil_append]);exact .cons .here (.cons .here (.cons .here .nil))
 rintro ⟨k,l0,l1⟩ ⟨hk,hz,hl⟩
 dsimp only at hk hz hl ⊢
 by_cases aN:k<r.po.length
 ·have cM:=ha (jO aN)
  obtain ⟨iD,aD⟩:=hc k _ (gY aN)
  unfold Po.cells at aD
  have jk:=qG (r:=r) aN
  obtain ⟨o1,o2,o3,one,e1,e2,e3,e4⟩:=Hc hd (r.po[k]).ou
  obtain ⟨i1,i2,i3,two,q1,q2,q3,q4⟩:=Hc hd (r.po[k]).ip
  obtain ⟨v1,v2⟩:=Lj e3 e4 q3 q4
  unfold kV at e1 q1
  (refine Jr<|JA rfl<|Jn<|Jq<|Jd rfl fun aq=>Jk<|Jq<|J0<|Jr<|ab (fM cM aq) rfl ?_;refine ab (iz (eG.base aD rfl)) rfl ?_;refine Jz rfl rfl fun _ _=>ao (.of rfl) (.of rfl) .here rfl rfl (fk rfl rfl rfl) (bE rfl) ak ?_;refine Ji<|Jv rfl<|bF rfl rfl ae ?_;refine JL rfl .here rfl ?_)
  refine ab (ug (.of rfl) (.of rfl) (Looks.mp bI) e1) rfl ?_
  rw [e2]
  (refine Jv rfl<|JJ rfl rfl<|JJ rfl rfl<|Jz rfl rfl fun _ _=>ao (.of rfl) (.of rfl) .here rfl rfl (fk rfl rfl rfl) (bE rfl) ak ?_;refine Ja rfl<|Ji<|Jv rfl<|bF rfl rfl ae ?_;refine JL rfl (.there .here) rfl ?_)
  refine ab (ug (.of rfl) (.of rfl) (Looks.mp cY) q1) rfl ?_
  rw [q2]
  (refine Jv rfl<|JJ rfl rfl<|JJ rfl rfl<|Jz rfl rfl fun _ _=>ao (.of rfl) (.of rfl) .here rfl rfl (fk rfl rfl rfl) (bE rfl) ak ?_;refine Ja rfl<|Jn<|Jq<|Jq ?_)
  with_reducible refine cQ 29 (by kernel_rfl) ?_
  (refine an kr rfl ?_;refine an (gp bI) rfl ?_;refine an kr rfl ?_;refine an (gp eC) rfl ?_;refine an (ud (.of rfl) (.of rfl) zi) rfl ?_;refine aU dK rfl (fun w' az=>(lQ _ 0 _ w')) ?_;refine an lx rfl ?_;refine an (fG (.of rfl)) rfl ?_;refine an lx rfl ?_;refine rS rfl rfl inferInstance (fun hg bL=>(ar (.of rfl) ae)) rfl ?_;refine rS rfl rfl inferInstance (fun hg bL=>(ai (.cA hg rfl) (At.lit (.there .here) rfl))) rfl ?_;refine rS rfl rfl inferInstance (fun hg bL=>(nD (.cA hg rfl) (.of rfl))) rfl ?_;refine an (bW (.of rfl) rfl) rfl ?_;refine aU aZ rfl (fun w' az=>(dL _ 10 w')) ?_;refine an lx rfl ?_;refine an (fG (.of rfl)) rfl ?_;refine an lx rfl ?_;refine rS rfl rfl inferInstance (fun hg bL=>(ar (.of rfl) ae)) rfl ?_;refine rS rfl rfl inferInstance (fun hg bL=>(ai (.cA hg rfl) (At.lit .here rfl))) rfl ?_;refine rS rfl rfl inferInstance (fun hg bL=>(nD (.cA hg rfl) (.of rfl))) rfl ?_;refine an (bW (.of rfl) rfl) rfl ?_;refine aU aZ rfl (fun w' az=>(dL _ 10 w')) ?_;refine an kr rfl ?_;refine an (gp (.there .here)) rfl ?_;refine an kr rfl ?_;refine an (gp .here) rfl ?_;refine an (jr (.of rfl) (.of rfl)) rfl ?_;refine aU aZ rfl (fun w' az=>(dL _ 24 w')) ?_;refine en (aA (.cons (.of rfl) (.cons (.of rfl) (.cons (.of rfl) (.cons (.of rfl) .nil)))) rfl rfl rfl rfl) rfl rfl ?_)
  with_reducible refine dy rfl fun bq mT=>?_
  (refine ag bC rfl (fun w' az=>(dF (Mem.dh az .here rfl rfl) (bU.cons (bU.cons (bU.cons (bU.cons bU.nil)))))) ?_;refine Ja rfl<|Ji<|Jv rfl<|JD rfl<|Jn<|fY rfl (fun aq=>?_) fun aq=>?_;refine Jr<|Jv rfl<|Ja rfl<|Jn<|Ju<|Jm<|Jh<|Jh<|Jm<|Jh<|JT ?_;rotate_left;refine Jk<|Jr<|bF rfl rfl ae ?_;refine JL rfl cY rfl<|bF rfl rfl ae ?_;refine JL rfl bI rfl<|ab (aS (.cons (.of rfl) (.cons (.of rfl) .nil)) ak) rfl ?_;refine Jz rfl rfl fun _ _=>ao (.of rfl) (.of rfl) .here rfl rfl (gn rfl rfl) (bE rfl) ak ?_;refine Jn<|Jq<|Jq ?_;rotate_right)
  ·rw [v1] at aq ⊢
   have hb:jn r r.po=lG r r.po[k]:=(eY hz aN (by rw [jk,if_pos aq];exact aq)).trans (by rw [jk,if_pos aq])
   rw [hb]
  rw [v1] at aq
  have hE:lG r r.po[k]=0:=Decidable.not_not.1 aq
  obtain ⟨g1,g2,g3⟩:=e3 (v2 hE)
  rename_i I1 Wa
  with_reducible refine dN 2 (by kernel_rfl) ?_
  (refine aH (wW (.of rfl)) rfl ?_;refine aH (wW (.of rfl)) rfl ?_)
  with_reducible refine dW ?_
  skip
  with_reducible apply ag
  case hr=>exact aZ
  case hd=>rfl
  case hc=>
   intro w' az
   have y1:Rd w' (.slice (some ⟨I1,0,none⟩) 2 2) 1 (ints [(r.po[k]).lv,o1]):=Mem.dh (b:=I1) (cs:=[.int .i64 (r.po[k]).lv,.int .i64 o1]) az (by exact .here) rfl rfl
   have y2:Rd w' (.slice (some ⟨b4,0,none⟩) 2 2) 1 (ints [l0,l1]):=Mem.dh (b:=b4) (cs:=[.int .i64 l0,.int .i64 l1]) az eC rfl rfl
   exact xP y1 y2
  rw [hE] at jk
  rw [if_neg (by decide),← g1,← hl] at jk
  (refine JF rfl<|Jn<|fY rfl (fun aq=>?_) fun aq=>?_;refine Jr<|Ja rfl<|Jn<|Ju<|Jm<|Jh<|Jh<|Jm<|Jh<|JT ?_;rotate_left;refine Jk<|Jg<|ab (cr .here) rfl ?_;refine ao (.of rfl) (.of rfl) eC rfl rfl (gn rfl rfl) (bE rfl) ak ?_;refine Jx<|Jj<|Jt<|Jg<|JB rfl (by omega)<|Jv rfl<|Jn ?_;rotate_right)
  ·rw [if_pos aq] at jk
   have hb:jn r r.po=11:=(eY hz aN (by rw [jk];decide)).trans jk
   rw [hb]
  rw [if_neg aq] at jk
  have HN:∀ i,i<k+1→Fe r r.po i=0:=fun i hi=>by
   by_cases e:i=k
   ·rw [e];exact jk
   ·exact hz i (by omega)
  apply aL (k+1,(r.po[k]).lv,o1) ⟨show k+1≤r.po.length by omega,HN,by
   show [(r.po[k]).lv,o1]=Dl r (if k+1=0 then none else r.po[k+1-1]?)
   rw [if_neg (by omega),Nat.add_sub_cancel,List.getElem?_eq_getElem aN,g1];rfl⟩ (show r.po.length-(k+1)<r.po.length-k by omega)
  case hs1=>exact cn
  case ht=>(try simp only [List.take_zero,List.map_nil,List.nil_append]);exact .cons .here (.cons eC (.cons eC .nil))
 ·obtain rfl:k=r.po.length:=by omega
  have e:jn r r.po=0:=dT.2 hz
  rw [e]
  refine Jr<|JA rfl<|Jn<|Jq<|Jc rfl fun aq=>Jp<|Jl<|Jo<|Jt<|Jr<|Ja rfl<|Jn<|Je<|JT ?_
  rfl
end Go.Proofs.A1
namespace Go.Proofs.A1
open Go Go.SL
theorem Ox {r:Ro} {s d t p:Value} (x:Sr) {b1:Nat} {w:World} (h:RR w r s d t p) (hA:BR w b1 (RC r s d t p)) :
  aj Tryz.prog 135 [.agg x.cells.toArray,.pointer (some ⟨b1,0,none⟩)] w (.int .i64 (eP r x.mx)):=by
 have h1:=Rd.one h.sr
 have h2:=Rd.one h.de
 have h3:=Rd.one h.ti
 have h4:=Rd.one h.po
 have jI:∀ (j:Nat) (u:Value),[Value.int .i64 r.lv,.int .i64 r.ma,s,d,t,p][j]? = some u→w.cell? ⟨b1,0+j,none⟩=some u:=hA
 unfold Sr.cells
 refine ah Tryz.func135 rfl rfl ?_
 (refine Jr<|Jy rfl rfl fun _ _=>Ja rfl<|Ji<|ab (iz (eG.base jI rfl)) rfl ?_;refine bF rfl rfl ae ?_;refine JL rfl .here rfl ?_)
 refine ag aZ rfl (fun w' az=>Ek x.mx h) ?_
 refine Ja rfl<|Jn<|Je<|JT ?_
 rfl
theorem Qd {r:Ro} {s d t p:Value} (x:De) {b1:Nat} {w:World} (h:RR w r s d t p) (hA:BR w b1 (RC r s d t p)) :
  aj Tryz.prog 137 [.agg x.cells.toArray,.pointer (some ⟨b1,0,none⟩)] w (.int .i64 (eP r x.mx)):=by
 have h1:=Rd.one h.sr
 have h2:=Rd.one h.de
 have h3:=Rd.one h.ti
 have h4:=Rd.one h.po
 have jI:∀ (j:Nat) (u:Value),[Value.int .i64 r.lv,.int .i64 r.ma,s,d,t,p][j]? = some u→w.cell? ⟨b1,0+j,none⟩=some u:=hA
 unfold De.cells
 refine ah Tryz.func137 rfl rfl ?_
 (refine Jr<|Jy rfl rfl fun _ _=>Ja rfl<|Ji<|ab (iz (eG.base jI rfl)) rfl ?_;refine bF rfl rfl ae ?_;refine JL rfl .here rfl ?_)
 refine ag aZ rfl (fun w' az=>Ek x.mx h) ?_
 refine Ja rfl<|Jn<|Je<|JT ?_
 rfl
def ju (r:Ro) (q:Int→Bool):Bool:=(List.range r.lv.toNat).any fun i=>q (i:Nat)
def mG (r:Ro):Int:=aV [fR r.lv 1 3,fR r.ma 1 4]
def js (r:Ro):Int:=aV [eN 8 [] Sr.nm (fun x=>eP r x.mx) r.sr,eN 8 (cz r) De.nm (fun x=>eP r x.mx) r.de,eN 6 (cz r++cm r) Ti.nm (mX r) r.ti]
def yZ (r:Ro):Int:=aV [bS (ju r fun v=>r.ti.any (Km r v)) 33,bS (ju r fun v=>r.ti.any (Hl r v)) 32]
def fN (r:Ro):Int:=if mG r≠0 then mG r else if js r≠0 then js r else if jn r r.po≠0 then jn r r.po else yZ r
theorem ck1 {r:Ro} (h:mG r≠0):fN r=mG r:=by unfold fN;rw [if_pos h]
theorem Wz {r:Ro} (h1:mG r=0) (h:js r≠0):fN r=js r:=by unfold fN;rw [if_neg (by rw [h1];decide),if_pos h]
theorem ck3 {r:Ro} (h1:mG r=0) (h2:js r=0) (h:jn r r.po≠0):fN r=jn r r.po:=by unfold fN;rw [if_neg (by rw [h1];decide),if_neg (by rw [h2];decide),if_pos h]
theorem ck4 {r:Ro} (h1:mG r=0) (h2:js r=0) (h3:jn r r.po=0):fN r=yZ r:=by unfold fN;rw [if_neg (by rw [h1];decide),if_neg (by rw [h2];decide),if_neg (by rw [h3];decide)]
theorem UC {r:Ro} (h:eN 8 [] Sr.nm (fun x=>eP r x.mx) r.sr≠0):js r=eN 8 [] Sr.nm (fun x=>eP r x.mx) r.sr:=by unfold js aV;rw [if_pos h]
theorem UB {r:Ro} (h1:eN 8 [] Sr.nm (fun x=>eP r x.mx) r.sr=0) (h:eN 8 (cz r) De.nm (fun x=>eP r x.mx) r.de≠0):js r=eN 8 (cz r) De.nm (fun x=>eP r x.mx) r.de:=by unfold js aV aV;rw [if_neg (by rw [h1];decide),if_pos h]
theorem TK {r:Ro} (h1:eN 8 [] Sr.nm (fun x=>eP r x.mx) r.sr=0) (h2:eN 8 (cz r) De.nm (fun x=>eP r x.mx) r.de=0):js r=aV [eN 6 (cz r++cm r) Ti.nm (mX r) r.ti]:=by unfold js;rw [aV,if_neg (by rw [h1];decide),aV,if_neg (by rw [h2];decide)]
theorem qD {α:Type} {pF:Int} {bf:List ByteArray} {nm:α→ByteArray} {ck:α→Int} {l:List α} (hb:bf.Nodup) (h:eN pF bf nm ck l=0):(bf++l.map nm).Nodup∧(l.length:Int)≤pF∧∀ x∈l,ck x=0:=by
 unfold eN at h
 split at h
 ·cases h
 rename_i hl
 rw [dT] at h
 have hk:∀ k,k≤l.length→(bf++(l.take k).map nm).Nodup∧∀ x∈l.take k,ck x=0:=by
  intro k
  induction k with
  | zero=>intro _;simpa using hb
  | succ k ih =>
   intro hk
   obtain ⟨i1,i2⟩:=ih (by omega)
   have:=h k (by omega)
   rw [nG (by omega)] at this
   rw [cg] at this
   have h9:iF (bf++(l.take k).map nm) (nm l[k])=false∧ck l[k]=0:=⟨(bH (show (9:Int)≠0 by decide)).1 (this _ (List.mem_cons_of_mem _ List.mem_cons_self)),this _ (List.mem_cons_of_mem _ (List.mem_cons_of_mem _ List.mem_cons_self))⟩
   rw [List.take_succ_eq_append_getElem (by omega),List.map_append,← List.append_assoc]
   refine ⟨?_,?_⟩
   ·rw [List.nodup_append]
    refine ⟨i1,by simp,fun x hx y hy e=>?_⟩
    rw [List.map_cons,List.map_nil,List.mem_singleton] at hy
    subst hy;subst e
    rw [eX.2 hx] at h9
    cases h9.1
   ·intro x hx
    rcases List.mem_append.1 hx with hx | hx
    ·exact i2 x hx
    ·rw [List.mem_singleton.1 hx];exact h9.2
 have:=hk _ (Nat.le_refl _)
 rw [List.take_length] at this
 exact ⟨this.1,by omega,this.2⟩
theorem yO {r:Ro} (h:js r=0):B7 r∧(r.sr.length≤8∧r.de.length≤8∧r.ti.length≤6)∧(∀ x∈r.sr,eP r x.mx=0)∧(∀ x∈r.de,eP r x.mx=0)∧∀ x∈r.ti,mX r x=0:=by
 unfold js at h
 have h3:eN 8 [] Sr.nm (fun x=>eP r x.mx) r.sr=0∧eN 8 (cz r) De.nm (fun x=>eP r x.mx) r.de=0∧eN 6 (cz r++cm r) Ti.nm (mX r) r.ti=0:=by
  rw [cg] at h
  exact ⟨h _ (by simp),h _ (by simp),h _ (by simp)⟩
 obtain ⟨h4,h5,h6⟩:=qD List.nodup_nil h3.1
 rw [List.nil_append] at h4
 obtain ⟨h7,h8,h9⟩:=qD (show (cz r).Nodup from h4) h3.2.1
 obtain ⟨g7,g8,g9⟩:=qD (show (cz r++cm r).Nodup from h7) h3.2.2
 exact ⟨⟨g7⟩,⟨by omega,by omega,by omega⟩,h6,h9,g9⟩
theorem uC {r:Ro} (h:mG r=0):1≤r.lv∧r.lv≤3∧1≤r.ma∧r.ma≤4:=by
 unfold mG at h
 rw [cg] at h
 have h1:=gS.1 (h _ (List.mem_cons_self))
 have h2:=gS.1 (h _ (List.mem_cons_of_mem _ List.mem_cons_self))
 omega
theorem bZ {r:Ro} {s d t p:Value} {w:World} (h:RR w r s d t p) (cJ:r.sr.length≤300∧r.de.length≤300∧r.ti.length≤300):aj Tryz.prog 34 [RA r s d t p] w (.int .i64 (fN r)):=by
 have h1:=Rd.one h.sr
 have h2:=Rd.one h.de
 have h3:=Rd.one h.ti
 have h4:=Rd.one h.po
 unfold RA
 refine ah Tryz.func34 rfl rfl ?_
 refine Jr<|Jy rfl rfl fun _ _=>Ja rfl<|Jn<|Jq<|Jq ?_
 rename_i b1 sy
 with_reducible refine cQ 7 (by kernel_rfl) ?_
 (refine an kr rfl ?_;refine an (gp .here) rfl ?_;refine aU dK rfl (fun w' az=>(lQ _ 1 3 w')) ?_;refine an kr rfl ?_;refine an (gp .here) rfl ?_;refine aU dK rfl (fun w' az=>(lQ _ 1 4 w')) ?_;refine en (aA (.cons (.of rfl) (.cons (.of rfl) .nil)) rfl rfl rfl rfl) rfl rfl ?_)
 with_reducible refine dy rfl fun bq mT=>?_
 (refine ag bC rfl (fun w' az=>(dF (Mem.dh az .here rfl rfl) (bU.cons (bU.cons bU.nil)))) ?_;refine Ja rfl<|Ji<|Jv rfl<|JD rfl<|Jn<|fY rfl (fun aq=>?_) fun aq=>?_;refine Jr<|Jv rfl<|Ja rfl<|Jn<|Ju<|JT ?_;rotate_left;refine Jk<|Jr<|ab (bn .nil (.cons (.of rfl) .nil)) rfl ?_;refine Ja rfl<|Ji<|ab (bn .nil (.cons (.of rfl) .nil)) rfl ?_;refine Ja rfl<|Jn<|Jq<|Jr<|bF rfl rfl ae ?_;refine JL rfl (.there .here) rfl<|Jv rfl ?_;rotate_right)
 ·exact congrArg (Value.int .i64) (ck1 aq).symm
 have pK:mG r=0:=Decidable.not_not.1 aq
 have hl:=uC pK
 clear aq
 have H2:∀ w',Rd w' (.slice none 0 0) 1 (fg []):=fun w'=>⟨none,0,0,0,rfl,by simp [fg],by unfold maxLen;omega,fun h=>absurd rfl h,fun i r hr=>by simp [fg] at hr⟩
 with_reducible apply ag
 case hr=>exact JY
 case hd=>rfl
 case hc=>
  intro w' az
  have hA:BR w' b1 [.int .i64 r.lv,.int .i64 r.ma,s,d,t,p]:=BR.of az (by exact Take.there .here)
  have hR:=h.keeps az.keeps
  exact BG (bf:=[]) 8 (f2:=135) (first2:=[]) (cap:=[.pointer (some ⟨b1,0,none⟩)]) hR.sr (H2 _) (by rw [List.length_nil];omega) (fun x _ w2 _=>Hq x w2) (fun x _ w2 ez=>Ox x (hR.keeps ez) (hA.keeps ez))
 (refine Ja rfl<|Ji<|Jv rfl<|JD rfl<|Jn<|fY rfl (fun aq=>?_) fun aq=>?_;refine Jr<|Jv rfl<|Ja rfl<|Jn<|Ju<|JT ?_;rotate_left;refine Jk<|Jr<|bF rfl rfl ae ?_;refine JL rfl (.there .here) rfl ?_;rotate_right)
 ·have hp:=UC aq
  rw [← hp] at aq ⊢
  exact congrArg (Value.int .i64) (Wz pK aq).symm
 have p1:eN 8 [] Sr.nm (fun x=>eP r x.mx) r.sr=0:=Decidable.not_not.1 aq
 clear aq
 have q1:=qD List.nodup_nil p1
 refine JN aZ rfl (fun w1 aJ=>LC (f:=139) (first:=[]) (cap:=[]) (g:=Sr.nm) (h.keeps aJ.keeps).sr (by omega) (fun x _ w2 _=>Hq x w2)) ?_
 intro nv _
 dsimp only [id_eq,List.cons_append,List.nil_append]
 refine aW (by exact .here) fun na nc e=>?_
 subst e
 (refine Ja rfl<|Jn<|Jq<|Jr<|bF rfl rfl ae ?_;refine JL rfl bI rfl<|Jv rfl<|Jv rfl ?_)
 with_reducible apply ag
 case hr=>exact JY
 case hd=>rfl
 case hc=>
  intro w' az
  have hA:BR w' b1 [.int .i64 r.lv,.int .i64 r.ma,s,d,t,p]:=BR.of az bI
  have hR:=h.keeps az.keeps
  have hN:Rd w' (.slice na r.sr.length nc) 1 (fg (r.sr.map Sr.nm)):=br az (by exact .here) (by rw [List.length_map])
  exact BH (bf:=cz r) 8 (f2:=137) (first2:=[]) (cap:=[.pointer (some ⟨b1,0,none⟩)]) hR.de hN (by unfold cz;rw [List.length_map];omega) (fun x _ w2 _=>CK x w2) (fun x _ w2 ez=>Qd x (hR.keeps ez) (hA.keeps ez))
 (refine Ja rfl<|Ji<|Jv rfl<|JD rfl<|Jn<|fY rfl (fun aq=>?_) fun aq=>?_;refine Jr<|Jv rfl<|Ja rfl<|Jn<|Ju<|JT ?_;rotate_left;refine Jk<|Jr<|Jv rfl<|bF rfl rfl ae ?_;refine JL rfl bI rfl ?_;rotate_right)
 ·have hp:=UB p1 aq
  rw [← hp] at aq ⊢
  exact congrArg (Value.int .i64) (Wz pK aq).symm
 have p2:eN 8 (cz r) De.nm (fun x=>eP r x.mx) r.de=0:=Decidable.not_not.1 aq
 clear aq
 have q2:=qD (show (cz r).Nodup from q1.1) p2
 refine JN aZ rfl (fun w1 aJ=>D8 (f:=124) (first:=[]) (cap:=[]) (g:=De.nm) (h.keeps aJ.keeps).de (by omega) (fun x _ w2 _=>CK x w2)) ?_
 intro dv _
 dsimp only [id_eq,List.cons_append,List.nil_append]
 refine aW (by exact .here) fun da dc e=>?_
 subst e
 refine bb (aA (.cons (.of rfl) (.cons (.of rfl) .nil)) rfl rfl rfl rfl) rfl (fun _ _=>?_)
 rename_i bq2 abG
 with_reducible apply iX
 case hr=>exact bC
 case hd=>rfl
 case ht=>exact bj.nil
 case hc=>
  intro w1 fp aJ _ hs1
  obtain rfl:fp=[]:=hs1
  have hN:Rd w1 (.slice na r.sr.length nc) 1 (fg (r.sr.map Sr.nm)):=br aJ bI (by rw [List.length_map])
  have hD:Rd w1 (.slice da r.de.length dc) 1 (fg (r.de.map De.nm)):=br aJ (by exact Take.there .here) (by rw [List.length_map])
  exact FM (vs:=[.slice na r.sr.length nc,.slice da r.de.length dc]) (ess:=[r.sr.map Sr.nm,r.de.map De.nm]) (Mem.dh (b:=bq2) aJ (by exact .here) rfl rfl) rfl
   (fun i v es hv he=>by
    match i,hv,he with
    | 0,hv,he=>cases hv;cases he;exact hN
    | 1,hv,he=>cases hv;cases he;exact hD) (by simp;omega)
 intro av _
 dsimp only [id_eq,List.cons_append,List.nil_append]
 (refine Ja rfl<|Jn<|Jq<|Jr<|bF rfl rfl ae ?_;refine JL rfl eC rfl<|Jv rfl<|ab (cr eC) rfl ?_;refine ab (bn (.cons (.of rfl) .nil) .nil) rfl ?_)
 have sx:[r.sr.map Sr.nm,r.de.map De.nm].flatten=cz r++cm r:=by simp [cz,cm]
 with_reducible apply ag
 case hr=>exact JY
 case hd=>rfl
 case hc=>
  intro w' az
  have hR:=h.keeps az.keeps
  have hB:Rd w' av 1 (fg [r.sr.map Sr.nm,r.de.map De.nm].flatten):=az.o9 (by exact .here) rfl (Gw _) (by rw [bV])
  rw [sx] at hB
  exact BF (bf:=cz r++cm r) 6 (f2:=145) (first2:=[RA r s d t p]) (cap:=[]) hR.ti hB (by unfold cz cm;rw [List.length_append,List.length_map,List.length_map];omega) (fun x _ w2 _=>Hp x w2) (fun x _ w2 ez=>MD x h)
 (refine bb (aA (.cons (.of rfl) .nil) rfl rfl rfl rfl) rfl fun _ _=>?_;refine ag bC rfl (fun w' az=>(dF (Mem.dh az .here rfl rfl) (bU.cons bU.nil))) ?_;refine Ja rfl<|Ji<|Jv rfl<|JD rfl<|Jn<|fY rfl (fun aq=>?_) fun aq=>?_;refine Jr<|Jv rfl<|Ja rfl<|Jn<|Ju<|JT ?_;rotate_left;refine Jk<|Jq<|Jr<|ab (cr oq) rfl ?_;rotate_right)
 ·have hp:js r≠0:=by rw [TK p1 p2];exact aq
  exact congrArg (Value.int .i64) ((TK p1 p2).symm.trans (Wz pK hp).symm)
 have HY:js r=0:=by rw [TK p1 p2];exact Decidable.not_not.1 aq
 obtain ⟨kd,hlen,-⟩:=yO HY
 clear aq
 refine ag bC rfl (fun w' az=>v8 (h.keeps az.keeps) kd (by omega) (by unfold TE;omega)) ?_
 (refine Ja rfl<|Ji<|Jv rfl<|JD rfl<|Jn<|fY rfl (fun aq=>?_) fun aq=>?_;refine Jr<|Jv rfl<|Ja rfl<|Jn<|Ju<|JT ?_;rotate_left;refine Jk<|Jq ?_;rotate_right)
 ·exact congrArg (Value.int .i64) (ck3 pK HY aq).symm
 have Py:jn r r.po=0:=Decidable.not_not.1 aq
 clear aq
 rw [ck4 pK HY Py]
 have SP:∀ w',aF [] w w'→aj Tryz.prog 148 [.agg #[.int .i64 r.lv,.int .i64 r.ma,s,d,t,p],.func (.func 149) #[.agg #[.int .i64 r.lv,.int .i64 r.ma,s,d,t,p]] #[]] w' (.bool (ju r fun v=>r.ti.any (Km r v))):=fun w' hk=>
  N5 (f:=149) (first:=[RA r s d t p]) (cap:=[]) h (by omega) (fun v _ _ w2 ez=>Mz v ((h.keeps hk).keeps ez) (by omega))
 have SO:∀ w',aF [] w w'→aj Tryz.prog 148 [.agg #[.int .i64 r.lv,.int .i64 r.ma,s,d,t,p],.func (.func 150) #[.agg #[.int .i64 r.lv,.int .i64 r.ma,s,d,t,p]] #[]] w' (.bool (ju r fun v=>r.ti.any (Hl r v))):=fun w' hk=>
  N5 (f:=150) (first:=[RA r s d t p]) (cap:=[]) h (by omega) (fun v _ _ w2 ez=>OT v ((h.keeps hk).keeps ez))
 with_reducible refine cQ 11 (by kernel_rfl) ?_
 (refine an (cr oq) rfl ?_;refine an (cr oq) rfl ?_;refine an (bn (.cons (.of rfl) .nil) .nil) rfl ?_;refine aU aZ rfl (fun w' az=>(SP w' (Mem.keeps az))) ?_;refine aU aZ rfl (fun w' az=>(dL _ 33 w')) ?_;refine an (cr oq) rfl ?_;refine an (cr oq) rfl ?_;refine an (bn (.cons (.of rfl) .nil) .nil) rfl ?_;refine aU aZ rfl (fun w' az=>(SO w' (Mem.keeps az))) ?_;refine aU aZ rfl (fun w' az=>(dL _ 32 w')) ?_;refine en (aA (.cons (.of rfl) (.cons (.of rfl) .nil)) rfl rfl rfl rfl) rfl rfl ?_)
 with_reducible refine dy rfl fun bq mT=>?_
 (refine ag bC rfl (fun w' az=>(dF (Mem.dh az .here rfl rfl) (bU.cons (bU.cons bU.nil)))) ?_;refine Ja rfl<|Jn<|Je<|JT ?_)
 rfl
end Go.Proofs.A1
namespace Go.Proofs.A1
open Go Go.SL
theorem Bg {α:Type} (nm:α→ByteArray) (l:List α) (s:ByteArray):gA (fun x=>decide (nm x=s)) l=bA (l.map nm) s:=by
 rcases oL (fun x=>decide (nm x=s)) l with ⟨e1,e2⟩ | ⟨i,hi,e1,e2⟩
 ·rw [e1]
  refine (zu fun j hj e=>?_).symm
  rw [List.find?_eq_none] at e2
  rw [List.getElem_map] at e
  exact e2 _ (List.getElem_mem _) (by simpa using e)
 ·rw [e1]
  rw [List.find?_eq_some_iff_getElem] at e2
  obtain ⟨hp,k,hk,he,hb⟩:=e2
  have T4:i=k:=by
   have h1:gA (fun x=>decide (nm x=s)) l=(k:Nat):=fT (fun j hj=>by
    rw [List.getElem?_eq_getElem (by omega)]
    have:=hb j hj
    simpa using this) hk (by rw [he];exact hp)
   rw [e1] at h1
   exact_mod_cast h1
  subst T4
  refine (pP (by rw [List.length_map];exact hi) (by rw [List.getElem_map];simpa using hp) fun j hj e=>?_).symm
  rw [List.getElem_map] at e
  have:=hb j hj
  simp [e] at this
theorem Qc (x:De) (o:ByteArray) {b2:Nat} {w:World} (f2:w.cell? ⟨b2,0,none⟩=some (.string o)) :
  aj Tryz.prog 243 [.agg x.cells.toArray,.pointer (some ⟨b2,0,none⟩)] w (.bool (decide (x.nm=o))):=by
 unfold De.cells
 refine ah Tryz.func243 rfl rfl ?_
 (refine Jr<|Jy rfl rfl fun _ _=>Ja rfl<|Ji<|bF rfl rfl ae ?_;refine JL rfl .here rfl<|ab (ai (.of rfl) (At.base f2 rfl)) rfl ?_;refine ab (ee (.of rfl) (.of rfl)) rfl ?_;refine Ja rfl<|Jn<|Je<|JT ?_)
 rfl
theorem Ow (x:Sr) (o:ByteArray) {b2:Nat} {w:World} (f2:w.cell? ⟨b2,0,none⟩=some (.string o)) :
  aj Tryz.prog 264 [.agg x.cells.toArray,.pointer (some ⟨b2,0,none⟩)] w (.bool (decide (x.nm=o))):=by
 unfold Sr.cells
 refine ah Tryz.func264 rfl rfl ?_
 (refine Jr<|Jy rfl rfl fun _ _=>Ja rfl<|Ji<|bF rfl rfl ae ?_;refine JL rfl .here rfl<|ab (ai (.of rfl) (At.base f2 rfl)) rfl ?_;refine ab (ee (.of rfl) (.of rfl)) rfl ?_;refine Ja rfl<|Jn<|Je<|JT ?_)
 rfl
theorem fB {r:Ro} {s d t p:Value} (o:ByteArray) {w:World} (h:RR w r s d t p):aj Tryz.prog 155 [RA r s d t p,.string o] w (.int .i64 (bA (cm r) o)):=by
 have h1:=Rd.one h.sr
 have h2:=Rd.one h.de
 have h3:=Rd.one h.ti
 have h4:=Rd.one h.po
 unfold RA
 refine ah Tryz.func155 rfl rfl ?_
 (refine Jr<|Jy rfl rfl fun _ _=>Jy rfl rfl fun _ _=>Ja rfl<|Ji<|bF rfl rfl ae ?_;refine JL rfl (.there .here) rfl<|ab (bn .nil (.cons (.of rfl) .nil)) rfl ?_)
 rename_i b3 rG b4 vC
 with_reducible apply ag
 case hr=>exact aZ
 case hd=>rfl
 case hc=>
  intro w' az
  have f2:w'.cell? ⟨b4,0,none⟩=some (.string o):=At.lit (by exact .here) rfl w' az
  exact LS (f:=243) (p:=fun x=>decide (x.nm=o)) (first:=[]) (cap:=[.pointer (some ⟨b4,0,none⟩)]) (h.keeps az.keeps).de
   (fun x hx w2 ez=>Qc x o (cd f2 rfl ez))
 rw [Bg]
 refine Ja rfl<|Jn<|Je<|JT ?_
 rfl
theorem ny {r:Ro} {s d t p:Value} (o:ByteArray) {w:World} (h:RR w r s d t p):aj Tryz.prog 180 [RA r s d t p,.string o] w (.int .i64 (bA (cz r) o)):=by
 have h1:=Rd.one h.sr
 have h2:=Rd.one h.de
 have h3:=Rd.one h.ti
 have h4:=Rd.one h.po
 unfold RA
 refine ah Tryz.func180 rfl rfl ?_
 (refine Jr<|Jy rfl rfl fun _ _=>Jy rfl rfl fun _ _=>Ja rfl<|Ji<|bF rfl rfl ae ?_;refine JL rfl (.there .here) rfl<|ab (bn .nil (.cons (.of rfl) .nil)) rfl ?_)
 rename_i b3 rG b4 vC
 with_reducible apply ag
 case hr=>exact aZ
 case hd=>rfl
 case hc=>
  intro w' az
  have f2:w'.cell? ⟨b4,0,none⟩=some (.string o):=At.lit (by exact .here) rfl w' az
  exact Eh (f:=264) (p:=fun x=>decide (x.nm=o)) (first:=[]) (cap:=[.pointer (some ⟨b4,0,none⟩)]) (h.keeps az.keeps).sr
   (fun x hx w2 ez=>Ow x o (cd f2 rfl ez))
 rw [Bg]
 refine Ja rfl<|Jn<|Je<|JT ?_
 rfl
def tA (r:Ro) (v:Int):Int:=fR v 0 (IntKind.i64.wrap (r.lv-1))
def pn (r:Ro) (o:ByteArray):Int:=bS (decide (bA (cm r) o<0)) 10
def Az (r:Ro) (o:ByteArray):Int:=bS (decide (bA (cz r) o<0)) 10
theorem kh {r:Ro} {s d t p:Value} (v:Int) {w w1:World} (h:RR w1 r s d t p):aj Tryz.prog 114 [RA r s d t p,.int .i64 v] w (.int .i64 (tA r v)):=by
 have h1:=Rd.one h.sr
 have h2:=Rd.one h.de
 have h3:=Rd.one h.ti
 have h4:=Rd.one h.po
 unfold RA
 refine ah Tryz.func114 rfl rfl ?_
 (refine Jr<|Jy rfl rfl fun _ _=>Ja rfl<|Ji<|Jv rfl<|bF rfl rfl ae ?_;refine JL rfl .here rfl ?_)
 refine ab (DW (.of rfl) (.of rfl)) rfl ?_
 (refine ag dK rfl (fun w' az=>(lQ v 0 _ w')) ?_;refine Ja rfl<|Jn<|Je<|JT ?_)
 rfl
theorem ek {r:Ro} {s d t p:Value} (o:ByteArray) {w:World} (h:RR w r s d t p):aj Tryz.prog 112 [RA r s d t p,.string o] w (.int .i64 (pn r o)):=by
 have h1:=Rd.one h.sr
 have h2:=Rd.one h.de
 have h3:=Rd.one h.ti
 have h4:=Rd.one h.po
 have qT:∀ w',aF [] w w'→aj Tryz.prog 155 [.agg #[.int .i64 r.lv,.int .i64 r.ma,s,d,t,p],.string o] w' (.int .i64 (bA (cm r) o)):=fun w' hk=>fB o (h.keeps hk)
 unfold RA
 refine ah Tryz.func112 rfl rfl ?_
 (refine Jr<|Jy rfl rfl fun _ _=>Ja rfl<|Ji<|ab (cr .here) rfl ?_;refine Jv rfl<|ag aZ rfl (fun w' az=>(qT w' (Mem.keeps az))) ?_;refine JA rfl<|ag aZ rfl (fun w' az=>(dL _ 10 w')) ?_;refine Ja rfl<|Jn<|Je<|JT ?_)
 rfl
theorem pq {r:Ro} {s d t p:Value} (o:ByteArray) {w:World} (h:RR w r s d t p):aj Tryz.prog 122 [RA r s d t p,.string o] w (.int .i64 (Az r o)):=by
 have h1:=Rd.one h.sr
 have h2:=Rd.one h.de
 have h3:=Rd.one h.ti
 have h4:=Rd.one h.po
 have hsrc:∀ w',aF [] w w'→aj Tryz.prog 180 [.agg #[.int .i64 r.lv,.int .i64 r.ma,s,d,t,p],.string o] w' (.int .i64 (bA (cz r) o)):=fun w' hk=>ny o (h.keeps hk)
 unfold RA
 refine ah Tryz.func122 rfl rfl ?_
 (refine Jr<|Jy rfl rfl fun _ _=>Ja rfl<|Ji<|ab (cr .here) rfl ?_;refine Jv rfl<|ag aZ rfl (fun w' az=>(hsrc w' (Mem.keeps az))) ?_;refine JA rfl<|ag aZ rfl (fun w' az=>(dL _ 10 w')) ?_;refine Ja rfl<|Jn<|Je<|JT ?_)
 rfl
def cu (r:Ro) (o:ByteArray):List ByteArray:=(List.range r.lv.toNat).map fun (v:Nat)=>kQ r v o
theorem uS {r:Ro} {s d t p:Value} (o:ByteArray) {w:World} (h:RR w r s d t p) (zi:r.lv≤1000) (cJ:r.ti.length≤1000000):bd Tryz.prog 113 [RA r s d t p,.string o] w [] (fun _:Value=>True) id (fun v=>[row 9 1 v r.lv.toNat (aM (cu r o))]):=by
 have h1:=Rd.one h.sr
 have h2:=Rd.one h.de
 have h3:=Rd.one h.ti
 have h4:=Rd.one h.po
 unfold RA
 refine aR Tryz.func113 rfl rfl ?_
 (refine Jr<|Jy rfl rfl fun _ _=>Ja rfl<|Ji<|Ja rfl<|Jn<|Jq<|Jr<|bF rfl rfl ae ?_;refine JL rfl .here rfl<|Jv rfl<|Jn<|J0 ?_)
 rename_i b2 sQ
 refine aQ 9 1 ?_
 refine aX (ι:=Nat×Value) (fun x=>x.1≤r.lv.toNat)
  (fun x=>[(9,.int .i64 (x.1:Nat)),(8,.int .i64 r.lv),(5,x.2),(2,.pointer (some ⟨b2,0,none⟩)),(1,.string o)])
  (fun x=>[row 9 1 x.2 x.1 (aM ((cu r o).take x.1)),JP b2 r s d t p]) (fun x=>r.lv.toNat-x.1) ?_ ?_
 ·apply aK (0,.slice none 0 0) (Nat.zero_le _)
  case hs1=>exact cn
  case ht=>
   exact .cons .here (.cons .here .nil)
 rintro ⟨k,v⟩ hk
 dsimp only at hk ⊢
 by_cases aN:k<r.lv.toNat
 ·have CZ:((k:Nat):Int)<r.lv:=by omega
  have htk:(cu r o).take (k+1)=(cu r o).take k++[kQ r (k:Nat) o]:=by
   unfold cu
   rw [List.take_succ_eq_append_getElem (by simpa using aN)]
   simp
  have a7:aM ((cu r o).take (k+1))=aM ((cu r o).take k)++[.string (kQ r (k:Nat) o)]:=by rw [htk,dO];rfl
  have hlen:(aM ((cu r o).take k)).length=k*1:=by
   rw [cS,List.length_take];unfold cu;rw [List.length_map,List.length_range];omega
  (refine Jr<|JA rfl<|Jn<|Jq<|Jd rfl fun aq=>Jk<|Jq<|J0<|Jr<|Jv rfl<|Ja rfl<|Jn<|Jg<|Jv rfl<|ab (cr (.there .here)) rfl ?_;refine Jv rfl<|Jv rfl ?_)
  refine ag dK rfl (fun w' az=>oS (s:=s) (d:=d) (t:=t) (p:=p) (k:Nat) o (h.keeps az.keeps) cJ) ?_
  refine bb (aA (.cons (.of rfl) .nil) rfl rfl rfl rfl) rfl (fun _ _=>?_)
  refine bz (.of rfl) (.of rfl) (.there .here) .here ak (by rfl) (dZ rfl) (by rfl) (by rfl) (by rfl) ep (by rfl) ?_
  intro v'
  refine Ja rfl<|Jx<|Jj<|Jt<|Jg<|JB rfl (by omega)<|Jv rfl<|Jn ?_
  apply aL (k+1,v') (by show k+1≤r.lv.toNat;omega) (by show r.lv.toNat-(k+1)<r.lv.toNat-k;omega)
  case hs1=>exact cn
  case ht=>
   show bj _ [row 9 1 v' (k+1) (aM ((cu r o).take (k+1))),JP b2 r s d t p] _
   rw [a7]
   exact .cons .here (.cons (.there .here) .nil)
 ·have e:k=r.lv.toNat:=by omega
  subst e
  have htk:(cu r o).take r.lv.toNat=cu r o:=List.take_of_length_le (by unfold cu;simp)
  rw [htk]
  refine Jr<|JA rfl<|Jn<|Jq<|Jc rfl fun aq=>Jp<|Jl<|Jo<|Jt<|Jr<|Jv rfl<|Ja rfl<|Jn<|Je ?_
  first | with_reducible apply aO | with_reducible apply aP
  case he=>exact dj rfl rfl
  case hR=>
   intro w' az
   exact aB v trivial (by exact .cons .here .nil) az rfl
theorem pW {r:Ro} {s d t p:Value} (v:Int) (o:ByteArray) {w:World} (h:RR w r s d t p):aj Tryz.prog 121 [RA r s d t p,.int .i64 v,.string o] w (.bool (iT r.po v o)):=by
 have h1:=Rd.one h.sr
 have h2:=Rd.one h.de
 have h3:=Rd.one h.ti
 have h4:=Rd.one h.po
 unfold RA
 refine ah Tryz.func121 rfl rfl ?_
 (refine Jr<|Jy rfl rfl fun _ _=>Ja rfl<|Ji<|ab (cr .here) rfl ?_;refine Jv rfl<|Jv rfl ?_)
 refine ag dK rfl (fun w' az=>y9 (s:=s) (d:=d) (t:=t) (p:=p) v o (h.keeps az.keeps)) ?_
 refine Jv rfl<|JJ rfl rfl<|JJ rfl rfl<|Ja rfl<|Ja rfl<|Ji<|Jv rfl<|Ja rfl<|Jn<|Je<|JT ?_
 rfl
def mP (r:Ro):Prop:=r.sr.length≤300∧r.de.length≤300∧r.ti.length≤300
theorem rQ {r:Ro} (h:fN r=0):mG r=0∧js r=0∧jn r r.po=0∧yZ r=0:=by
 unfold fN at h
 by_cases h1:mG r=0
 ·rw [if_neg (by rw [h1];decide)] at h
  by_cases h2:js r=0
  ·rw [if_neg (by rw [h2];decide)] at h
   by_cases h3:jn r r.po=0
   ·rw [if_neg (by rw [h3];decide)] at h
    exact ⟨h1,h2,h3,h⟩
   ·rw [if_pos h3] at h;exact absurd h h3
  ·rw [if_pos h2] at h;exact absurd h h2
 ·rw [if_pos h1] at h;exact absurd h h1
def sP (r:Ro) (o:ByteArray):Int:=aV [fN r,pn r o]
def kE (r:Ro) (o:ByteArray):List ByteArray:=if sP r o≠0 then [] else cu r o
theorem Qw {r:Ro} {s d t p:Value} (o:ByteArray) {w:World} (h:RR w r s d t p) (cJ:mP r):bd Tryz.prog 20 [RA r s d t p,.string o] w [] (fun _:Value=>True) (fun v=>.tuple #[v,.int .i64 (sP r o)]) (fun v=>[row 9 1 v (kE r o).length (aM (kE r o))]):=by
 have h1:=Rd.one h.sr
 have h2:=Rd.one h.de
 have h3:=Rd.one h.ti
 have h4:=Rd.one h.po
 have jd:∀ w',aF [] w w'→aj Tryz.prog 34 [.agg #[.int .i64 r.lv,.int .i64 r.ma,s,d,t,p]] w' (.int .i64 (fN r)):=fun w' hk=>bZ (h.keeps hk) cJ
 have lO:∀ w',aF [] w w'→aj Tryz.prog 112 [.agg #[.int .i64 r.lv,.int .i64 r.ma,s,d,t,p],.string o] w' (.int .i64 (pn r o)):=fun w' hk=>ek o (h.keeps hk)
 unfold RA
 refine aR Tryz.func20 rfl rfl ?_
 refine Jr<|Jy rfl rfl fun _ _=>Ja rfl<|Ja rfl<|Jn<|Jq<|Jq ?_
 rename_i b2 sQ
 with_reducible refine cQ 6 (by kernel_rfl) ?_
 (refine an (cr .here) rfl ?_;refine aU bC rfl (fun w' az=>(jd w' (Mem.keeps az))) ?_;refine an (cr .here) rfl ?_;refine an lx rfl ?_;refine aU aZ rfl (fun w' az=>(lO w' (Mem.keeps az))) ?_;refine en (aA (.cons (.of rfl) (.cons (.of rfl) .nil)) rfl rfl rfl rfl) rfl rfl ?_)
 with_reducible refine dy rfl fun bq mT=>?_
 (refine ag bC rfl (fun w' az=>(dF (Mem.dh az .here rfl rfl) (bU.cons (bU.cons bU.nil)))) ?_;refine Ja rfl<|Ji<|Jv rfl<|JD rfl<|Jn<|fY rfl (fun aq=>?_) fun aq=>?_;refine Jr<|Jv rfl<|Ja rfl<|Ja rfl<|Jn<|Ju ?_;rotate_left;refine Jk<|Jr<|ab (cr (.there .here)) rfl ?_;refine Jv rfl ?_;rotate_right)
 ·have e1:kE r o=[]:=if_pos aq
  rw [e1]
  refine aQ 9 1 ?_
  first | with_reducible apply aO | with_reducible apply aP
  case he=>exact fL rfl rfl rfl
  case hR=>
   intro w' az
   exact aB (.slice none 0 0) trivial (by exact .cons .here .nil) az rfl
 have e1:kE r o=cu r o:=if_neg aq
 have e0:aV [fN r,pn r o]=0:=Decidable.not_not.1 aq
 have e2:sP r o=0:=e0
 have hl:=uC (rQ (cg.1 e0 _ List.mem_cons_self)).1
 have hn:(cu r o).length=r.lv.toNat:=by unfold cu;simp
 rw [e1,e2,hn]
 refine JN aZ rfl (fun w1 aJ=>uS o (h.keeps aJ.keeps) (by omega) (by have:=cJ.2.2;omega)) ?_
 intro v _
 dsimp only [id_eq,List.cons_append,List.nil_append]
 refine Ja rfl<|Ja rfl<|Jn<|Je ?_
 first | with_reducible apply aO | with_reducible apply aP
 case he=>exact fL rfl rfl rfl
 case hR=>
  intro w' az
  exact aB v trivial (by exact .cons .here .nil) az rfl
end Go.Proofs.A1
namespace Go.SL
open Go
section
variable {P:Program} {c:Cx} {D:List Nat} {sl:aG} {hs hs':List ba} {ty:TypeId} {pos:String} {af:Array Edge} {r:Option Nat} {ops:Array Oper} {Q:Exit→Act→World→Prop} {rest:List Oper}
theorem xY (zs:List Value) (n:Nat):Builtin.zeroCells zs.toArray n=((List.replicate n zs).flatten).toArray:=by
 unfold Builtin.zeroCells
 apply Array.ext
 ·simp
 ·intro i h1 h2
  have hi:i<n*zs.length:=by simpa using h1
  have hz:0<zs.length:=by
   rcases Nat.eq_zero_or_pos zs.length with e | e
   ·rw [e] at hi;omega
   ·exact e
  have hm:i % zs.length<zs.length:=Nat.mod_lt _ hz
  have sx:∀ (n i:Nat) (h:i<(List.replicate n zs).flatten.length),(List.replicate n zs).flatten[i]=zs[i % zs.length]'(Nat.mod_lt _ hz):=by
   intro n
   induction n with
   | zero=>intro i h;simp at h
   | succ n ih =>
    intro i h
    have e:(List.replicate (n+1) zs).flatten=zs++(List.replicate n zs).flatten:=by simp [List.replicate_succ]
    rw [List.getElem_of_eq e]
    by_cases hl:i<zs.length
    ·rw [List.getElem_append_left hl]
     congr 1
     exact (Nat.mod_eq_of_lt hl).symm
    ·rw [List.getElem_append_right (by omega),ih]
     congr 1
     exact (Nat.mod_eq_sub_mod (by omega)).symm
  have:=sx n i (by simpa using hi)
  rw [show (List.replicate n zs).flatten.toArray[i]=(List.replicate n zs).flatten[i]'(by simpa using hi) from rfl,this]
  simp [hm]
theorem An {t e:TypeId} {x:Operand} {g o n cap:Nat} {E:TypeId} {cs zs:List Value} {z:Value} [hu:iA P t (.slice e)] [hZ:lu P e z]
  (hx:Is sl x (.slice (some ⟨g,o,none⟩) n cap)) (ht:Take hs (bD g (.cells cs.toArray E (0,0))) hs') (hz:z.cells=zs.toArray) (h1:∀ u∈zs,u.oneCell'=true) (hfit:o+n*zs.length≤cs.length)
  (k:Tr c D sl (bD g (.cells (setCells cs o (List.replicate n zs).flatten).toArray E (0,0))::hs') (WL P r ops Q rest)) :
  Tr c D sl hs (WL P r ops Q (⟨none,.call ⟨.builtin .clear,#[x],#[t]⟩,ty,pos,af,none⟩::rest)):=fun a w a7=>by
 have hm:=a7.mem.take (ht.append _)
 have hg:w.heap[g]? = some (.cells cs.toArray E (0,0)):=hm.bD .here
 obtain ⟨w',h3,h4,h5⟩:=iC (P:=P) (o:=o) (List.replicate n zs).flatten 0 cs w hg (fun u hu=>by
  obtain ⟨l,hl,Pk⟩:=List.mem_flatten.1 hu
  rw [List.eq_of_mem_replicate hl] at Pk
  exact h1 u Pk) (by
  have:(List.replicate n zs).flatten.length=n*zs.length:=by simp
  omega)
 refine lP rfl ⟨dE _ _ _ _ _,?_⟩
 rw [Oper.semAt_eq _ _ _ (by simp)]
 have:(execOp a.eval ⟨none,.call ⟨.builtin .clear,#[x],#[t]⟩,ty,pos,af,none⟩).run P w=.ok (.value (.tuple #[])) w':=by
  cases n with
  | zero =>
   simp [execOp,resolve,invoke,builtin,hx a a7.cT,Builtin.clear_,aT hu.eq]
   simpa [storeCells] using h3
  | succ n =>
   simp [execOp,resolve,invoke,builtin,hx a a7.cT,Builtin.clear_,aT hu.eq,gV (t:=e) (v:=z),hz,xY]
   simp [h3]
 rw [this]
 have lH:=Mem.store hm h4 h5
 exact k _ _ (a7.heap lH)
end
end Go.SL
namespace Go.SL
open Go
section
variable {α:Type} {f:α→List Value} {sz:Nat}
theorem iy (hf:∀ x,(f x).length=sz) (l:List α):(l.map f).flatten.length=l.length*sz:=by
 rw [fK (sz:=sz) (fun r hr=>by obtain ⟨x,_,rfl⟩:=List.mem_map.1 hr;exact hf x),List.length_map]
theorem qX (hf:∀ x,(f x).length=sz) {l:List α} {i:Nat} (h:i<l.length) (cur:List Value):dU ((l.map f).flatten++cur) (i*sz) sz=f l[i]:=by
 have hl:l=l.take i++l[i]::l.drop (i+1):=by rw [← List.drop_eq_getElem_cons h,List.take_append_drop]
 have e:(l.map f).flatten=((l.take i).map f).flatten++(f l[i]++((l.drop (i+1)).map f).flatten):=
  (congrArg (fun m=>(List.map f m).flatten) hl).trans (by simp only [List.map_append,List.flatten_append,List.map_cons,List.flatten_cons])
 have hk:((l.take i).map f).flatten.length=i*sz:=by rw [iy hf,List.length_take_of_le (by omega)]
 rw [iO,e,List.append_assoc,← hk,List.drop_append_of_le_length (by omega),List.drop_length,List.nil_append,← hf l[i],List.append_assoc,List.take_append_of_le_length (by omega),List.take_length]
theorem sE {cs:List Value} {o n j:Nat} (hj:j<n):(dU cs o n)[j]? = cs[o+j]?:=by
 rw [iO,List.getElem?_take,if_pos hj,List.getElem?_drop]
theorem It (hf:∀ x,(f x).length=sz) {l:List α} {i j:Nat} (h:i<l.length) (hj:j<sz) (cur:List Value):((l.map f).flatten++cur)[i*sz+j]? = (f l[i])[j]?:=by
 rw [← qX hf h cur,sE hj]
theorem yy:∀ (A B C Z:List Value),Z.length=B.length→setCells (A++(B++C)) A.length Z=A++(Z++C):=by
 intro A B C Z h
 apply List.ext_getElem?
 intro k
 rw [gU _ _ _ _ (by simp;omega)]
 by_cases h1:k<A.length
 ·rw [if_neg (by omega),List.getElem?_append_left h1,List.getElem?_append_left h1]
 ·by_cases h2:k-A.length<Z.length
  ·rw [if_pos (by omega),List.getElem?_append_right (show A.length≤k by omega),List.getElem?_append_left h2]
  ·rw [if_neg (by omega),List.getElem?_append_right (show A.length≤k by omega),List.getElem?_append_right (show A.length≤k by omega),List.getElem?_append_right (show B.length≤k-A.length by omega),List.getElem?_append_right (show Z.length≤k-A.length by omega),h]
theorem Ir (hf:∀ x,(f x).length=sz) {l:List α} {i:Nat} (h:i<l.length) (x:α) (cur:List Value):setCells ((l.map f).flatten++cur) (i*sz) (f x)=((l.set i x).map f).flatten++cur:=by
 have hl:l=l.take i++l[i]::l.drop (i+1):=by rw [← List.drop_eq_getElem_cons h,List.take_append_drop]
 have e:(l.map f).flatten=((l.take i).map f).flatten++(f l[i]++((l.drop (i+1)).map f).flatten):=
  (congrArg (fun m=>(List.map f m).flatten) hl).trans (by simp only [List.map_append,List.flatten_append,List.map_cons,List.flatten_cons])
 have e2:((l.set i x).map f).flatten=((l.take i).map f).flatten++(f x++((l.drop (i+1)).map f).flatten):=by
  rw [List.set_eq_take_append_cons_drop,if_pos h]
  simp
 have hk:((l.take i).map f).flatten.length=i*sz:=by rw [iy hf,List.length_take_of_le (by omega)]
 rw [e,e2,List.append_assoc,List.append_assoc,List.append_assoc,List.append_assoc,← hk]
 exact yy _ _ _ _ (by rw [hf,hf])
theorem Ew (hf:∀ x,(f x).length=sz) (A B:List α) (Z cur:List Value) (hz:Z.length=B.length*sz):setCells (((A++B).map f).flatten++cur) (A.length*sz) Z=(A.map f).flatten++(Z++cur):=by
 rw [List.map_append,List.flatten_append,List.append_assoc,← iy hf A]
 exact yy _ _ _ _ (by rw [hz,iy hf])
theorem wL {g k n cap:Nat} (sz:Nat) (h:k<n) (hc:n≤cap):Go.sliced (some ⟨g,0,none⟩) ((k:Nat):Int).toNat n cap sz=.slice (some ⟨g,k*sz,none⟩) (n-k) (cap-k):=by
 unfold Go.sliced
 rw [if_neg (by rw [Int.toNat_natCast];omega),Int.toNat_natCast]
 simp [eA]
theorem wM (g k cap sz:Nat):Go.sliced (some ⟨g,0,none⟩) 0 ((k:Nat):Int).toNat cap sz=.slice (some ⟨g,0,none⟩) k cap:=by
 unfold Go.sliced
 rw [Int.toNat_natCast]
 by_cases h:cap=0
 ·rw [if_pos h];simp
 ·rw [if_neg h];simp [eA]
theorem filter_lt {q:α→Bool} {l:List α} {i:Nat} (hi:i<l.length) (h:q l[i]=false):(l.filter q).length<l.length:=
 List.length_filter_lt_length_iff_exists.2 ⟨l[i],List.getElem_mem hi,by simp [h]⟩
def tF (q:α→Bool) (l:List α) (j:Nat):List α:=(l.take j).filter q++l.drop ((l.take j).filter q).length
def kH (q:α→Bool) (l:List α) (j:Nat):Nat:=((l.take j).filter q).length
theorem mJ (q:α→Bool) (l:List α) {j:Nat} (hj:j≤l.length):kH q l j≤j:=by
 have:=List.length_filter_le q (l.take j)
 rw [List.length_take_of_le hj] at this
 exact this
theorem Es (q:α→Bool) (l:List α) {j:Nat} (hj:j≤l.length):(tF q l j).length=l.length:=by
 have:=mJ q l hj
 unfold kH at this
 unfold tF
 rw [List.length_append,List.length_drop]
 omega
theorem Et (q:α→Bool) (l:List α) {j:Nat} (hj:j<l.length):∃ h:j<(tF q l j).length,(tF q l j)[j]=l[j]:=by
 have:=mJ q l (Nat.le_of_lt hj)
 unfold kH at this
 have h:(tF q l j)[j]? = some l[j]:=by
  unfold tF
  rw [List.getElem?_append_right this,List.getElem?_drop,← List.getElem?_eq_getElem hj]
  congr 1;omega
 exact List.getElem?_eq_some_iff.1 h
theorem tX (q:α→Bool) (l:List α) {j:Nat} (hj:j<l.length):(l.take (j+1)).filter q=(l.take j).filter q++if q l[j] then [l[j]] else []:=by
 rw [List.take_succ_eq_append_getElem hj,List.filter_append]
 congr 1
 by_cases h:q l[j]=true
 ·rw [List.filter_cons_of_pos h,if_pos h];rfl
 ·rw [List.filter_cons_of_neg h,if_neg h];rfl
theorem C6 (q:α→Bool) (l:List α) {j:Nat} (hj:j<l.length) (hq:q l[j]=false):tF q l (j+1)=tF q l j∧kH q l (j+1)=kH q l j:=by
 have e:(l.take (j+1)).filter q=(l.take j).filter q:=by rw [tX q l hj,hq];simp
 unfold tF kH
 rw [e];exact ⟨rfl,rfl⟩
theorem Er (q:α→Bool) (l:List α) {j:Nat} (hj:j<l.length) (hq:q l[j]=true):tF q l (j+1)=(tF q l j).set (kH q l j) l[j]∧kH q l (j+1)=kH q l j+1:=by
 have e:(l.take (j+1)).filter q=(l.take j).filter q++[l[j]]:=by rw [tX q l hj,if_pos hq]
 have hle:=mJ q l (Nat.le_of_lt hj)
 unfold kH at hle
 have hm:((l.take j).filter q).length<l.length:=by omega
 unfold tF kH
 rw [e]
 refine ⟨?_,by simp⟩
 rw [List.set_append_right _ _ (Nat.le_refl _),Nat.sub_self,List.drop_eq_getElem_cons hm,List.set_cons_zero,List.length_append,List.append_assoc]
 rfl
theorem Eu (q:α→Bool) (l:List α):tF q l l.length=l.filter q++l.drop (l.filter q).length∧kH q l l.length=(l.filter q).length:=by
 unfold tF kH
 rw [List.take_length]
 exact ⟨rfl,rfl⟩
theorem xJ (q:α→Bool) (l:List α) {i:Nat} (hi:i<l.length) (hb:∀ j (h:j<i),q (l[j]'(by omega))=true) (hq:q l[i]=false):tF q l (i+1)=l∧kH q l (i+1)=i:=by
 have e:(l.take i).filter q=l.take i:=List.filter_eq_self.2 fun x hx=>by
  obtain ⟨j,hj,rfl⟩:=List.getElem_of_mem hx
  rw [List.getElem_take]
  exact hb j (by rw [List.length_take] at hj;omega)
 obtain ⟨h1,h2⟩:=C6 q l hi hq
 rw [h1,h2]
 unfold tF kH
 rw [e,List.length_take_of_le (by omega),List.take_append_drop]
 exact ⟨rfl,rfl⟩
end
end Go.SL
namespace Go.Proofs.A1
open Go Go.SL
theorem Bf {lv:Value} {l:List ByteArray} {p:ByteArray→Bool} {f:FuncId} {first cap:List Value} [bP Tryz.prog f] {w:World} (h:Rd w lv 1 (fg l)) (ch:∀ x∈l,∀ w',aF [] w w'→aj Tryz.prog f (first++[.string x]++cap) w' (.bool (p x))) :
  aj Tryz.prog 299 [lv,.func (.func f) first.toArray cap.toArray] w (.int .i64 (gA p l)):=by
 obtain ⟨a,cp,b,o,rfl,df,bO,ha,hc⟩:=h
 rw [bV] at *
 unfold maxLen at bO
 refine ah Tryz.func299 rfl rfl ?_
 refine Jr<|Ja rfl<|Jn<|Jq<|Jr<|Jv rfl<|JI rfl<|Jv rfl<|Jn<|J0 ?_
 refine aX (fun k:Nat=>k≤l.length∧∀ i,i<k→(l[i]?.map p).getD false=false) (fun k=>[(8,.int .i64 k),(7,.int .i64 l.length),(0,.slice a l.length cp),(1,.func (.func f) first.toArray cap.toArray)]) (fun _=>[]) (fun k=>l.length-k) ?_ ?_
 ·apply aK 0 ⟨Nat.zero_le _,fun i h=>by omega⟩
  case hs1=>exact cn
  case ht=>(try simp only [List.take_zero,List.map_nil,List.nil_append]);exact .nil
 rintro k ⟨hk,hf⟩
 by_cases aN:k<l.length
 ·have cM:=ha (mw aN)
  have c0:w.cell? ⟨b,o+k*1,none⟩=some (.string l[k]):=(hc k _ (jz aN)).2 0 _ rfl
  have ix:=ch _ (List.getElem_mem aN)
  have hps:(l[k]?.map p).getD false=p l[k]:=by simp [aN]
  (refine Jr<|JA rfl<|Jn<|Jq<|Jd rfl fun aq=>Jk<|Jq<|J0<|Jr<|Jv rfl<|Ja rfl<|Ji<|Jv rfl<|Jv rfl<|Jv rfl<|ab (fM cM aq) rfl ?_;refine ab (ai (.of rfl) (At.base c0 rfl)) rfl ?_;refine ag bC rfl (fun w' az=>(ix w' (Mem.keeps az))) ?_;refine Jn<|pV rfl (fun aq=>?_) fun aq=>?_;refine Jr<|Jv rfl<|Ja rfl<|Jn<|Je<|Jm<|Jh<|Jh<|Jm<|Jh<|JT ?_;rotate_left;refine Jw<|Jj<|Jt<|Jg<|JB rfl (by omega)<|Jv rfl<|Jn ?_;rotate_right)
  ·rw [fT hf aN aq]
  ·apply aL (k+1) ⟨by omega,fun i hi=>by
    by_cases e:i=k
    ·rw [e,hps];exact aq
    ·exact hf i (by omega)⟩ (by omega)
   case hs1=>exact cn
   case ht=>(try simp only [List.take_zero,List.map_nil,List.nil_append]);exact .nil
 ·obtain rfl:k=l.length:=by omega
  refine Jr<|JA rfl<|Jn<|Jq<|Jc rfl fun aq=>Jp<|Jl<|Jo<|Jt<|Jr<|Ja rfl<|Jn<|Je<|JT ?_
  rw [fm hf]
theorem Ii {lv:Value} {l:List ByteArray} {p:ByteArray→Bool} {f:FuncId} {first cap:List Value} [bP Tryz.prog f] {w:World} (h:Rd w lv 1 (fg l)) (ch:∀ x∈l,∀ w',aF [] w w'→aj Tryz.prog f (first++[.string x]++cap) w' (.bool (p x))) :
  aj Tryz.prog 250 [lv,.func (.func f) first.toArray cap.toArray] w (.bool (l.any p)):=by
 have ix:∀ w',aF [] w w'→aj Tryz.prog 299 [lv,.func (.func f) first.toArray cap.toArray] w' (.int .i64 (gA p l)):=fun w' hk=>
  Bf (h.keeps hk) fun x hx w2 ez=>ch x hx w2 (hk.trans ez)
 rw [← jF]
 refine ah Tryz.func250 rfl rfl ?_
 (refine Jr<|Ja rfl<|Ji<|Jv rfl<|Jv rfl<|ag aZ rfl (fun w' az=>(ix w' (Mem.keeps az))) ?_;refine JG rfl<|Ja rfl<|Jn<|Je<|JT ?_)
 rfl
set_option maxHeartbeats 1000000 in
theorem Iz {v:Value} {n:Nat} {l:List ByteArray} {p:ByteArray→Bool} {f:FuncId} {first cap:List Value} [bP Tryz.prog f] {w:World} {fp:List Nat} (kD:fp.Nodup) (hs:bY (hp w) [row 9 1 v n (aM l)] fp) (hn:l.length=n) (cJ:n≤1000000)
  (ch:∀ x∈l,∀ w',aF fp w w'→aj Tryz.prog f (first++[.string x]++cap) w' (.bool (p x))) :
  bd Tryz.prog 224 [v,.func (.func f) first.toArray cap.toArray] w fp (fun _:Value=>True) id (fun v'=>[row 9 1 v' (l.filter fun x=>!p x).length (aM (l.filter fun x=>!p x))]):=by
 refine dS Tryz.func224 rfl rfl kD hs ?_
 refine Jr<|Ja rfl<|Ji<|Jv rfl<|Jv rfl ?_
 refine aW (by exact .here) fun va vc e=>?_
 subst e
 skip
 with_reducible apply ag
 case hr=>exact aZ
 case hd=>rfl
 case hc=>
  intro w' az
  have hR:Rd w' (.slice va n vc) 1 (fg l):=br az (by exact .here) hn
  exact Bf (f:=f) (p:=p) (first:=first) (cap:=cap) hR (fun x hx w2 ez=>ch x hx w2 (az.keeps.trans (ez.mono (by simp))))
 rcases oL p l with ⟨e1,e2⟩ | ⟨i,hi,e1,e2⟩
 ·rw [e1]
  have sx:(l.filter fun x=>!p x)=l:=List.filter_eq_self.2 fun x hx=>by
   have:=List.find?_eq_none.1 e2 x hx
   simpa using this
  rw [sx]
  refine Ja rfl<|Jn<|Jq<|Jr<|Jv rfl<|JC rfl<|Jn<|Jd rfl fun aq=>Jr<|Jv rfl<|Ja rfl<|Jn<|Ju ?_
  first | with_reducible apply aO | with_reducible apply aP
  case he=>exact dj rfl rfl
  case hR=>
   intro w' az
   exact aB (.slice va n vc) trivial (show bj _ [row 9 1 (.slice va n vc) l.length (aM l)] _ by rw [hn];exact .cons .here .nil) az rfl
 rw [e1]
 rw [List.find?_eq_some_iff_getElem] at e2
 obtain ⟨No,i',z6,F1,dw⟩:=e2
 have F0:i'=i:=by
  have h1:gA p l=(i':Nat):=fT (fun j hj=>by
   rw [List.getElem?_eq_getElem (by omega)]
   simpa using dw j hj) z6 (by rw [F1];exact No)
  rw [e1] at h1
  exact_mod_cast h1.symm
 subst F0
 obtain ⟨st1,st2⟩:=xJ (fun x=>!p x) l z6 (fun j hj=>dw j hj) (by rw [F1];simp [No])
 have hne:¬ ((i':Nat):Int) = -1:=by omega
 refine Ja rfl<|Jn<|Jq<|Jr<|Jv rfl<|JC rfl<|Jn<|Jc rfl fun aq=>Jk<|Jq<|Jr<|Jv rfl<|JB rfl (by omega)<|Ja rfl<|Jn<|J0 ?_
 refine db (by exact .here) (by omega) ?_
 rintro g gB cur e nS zh hsz hl
 cases e
 have hF:∀ x,((fun s:ByteArray=>[Value.string s]) x).length=1:=fun _=>rfl
 have hV:∀ l,aM l=(l.map (fun s:ByteArray=>[Value.string s])).flatten:=fun l=>qm l
 refine aX (fun j:Nat=>i'<j∧j≤l.length) (fun j=>[(6,.int .i64 (j:Nat)),(5,.int .i64 (kH (fun x=>!p x) l j)),(0,.slice (some ⟨g,0,none⟩) n vc),(1,.func (.func f) first.toArray cap.toArray)])
  (fun j=>[bD g (.cells (((tF (fun x=>!p x) l j).map (fun s:ByteArray=>[Value.string s])).flatten++cur).toArray 9 (0,0))]) (fun j=>l.length-j) ?_ ?_
 ·apply aK (i'+1) ⟨by omega,by omega⟩
  case hs1=>rw [st2];exact .cons rfl (.cons rfl (.cons rfl (.cons rfl .nil)))
  case ht=>rw [st1,← hV];exact .cons .here .nil
 rintro j ⟨hj,hk⟩
 by_cases aN:j<l.length
 ·have zj:j<n:=by omega
  have hle:=mJ (fun x=>!p x) l hk
  have sx:=Es (fun x=>!p x) l hk
  obtain ⟨VI,VP⟩:=Et (fun x=>!p x) l aN
  have c0:=It hF VI (show 0<1 by omega) cur
  rw [VP] at c0
  have c1:(((tF (fun x=>!p x) l j).map (fun s:ByteArray=>[Value.string s])).flatten++cur)[j*1]? = some (.string l[j]):=c0
  (refine Jq<|Jr<|Jv rfl<|Jv rfl<|JI rfl<|JA rfl<|Jn<|Jd rfl fun aq=>Jk<|Jq<|J0<|Jr<|Jv rfl<|Jv rfl<|ab (aC (.of rfl) (.of rfl) rfl (by omega) aq bo) rfl ?_;refine ab (ai (.of rfl) (At.mO .here c1)) rfl ?_;refine Ja rfl<|Ji<|Jv rfl<|Jv rfl ?_)
  with_reducible apply ag
  case hr=>exact bC
  case hd=>rfl
  case hc=>
   intro w' az
   exact ch l[j] (List.getElem_mem aN) w' az.keeps
  have hm:kH (fun x=>!p x) l j<(tF (fun x=>!p x) l j).length:=by rw [sx];have:=st2;omega
  have hb:kH (fun x=>!p x) l j*1+1≤(((tF (fun x=>!p x) l j).map (fun s:ByteArray=>[Value.string s])).flatten++cur).length:=by rw [List.length_append,iy hF,sx];omega
  have oW:=Ir hF hm l[j] cur
  have hmn:kH (fun x=>!p x) l j<n:=by omega
  cases hq:p l[j] with
  | true =>
   obtain ⟨s1,s2⟩:=C6 (fun x=>!p x) l aN (by simp [hq])
   (refine JH rfl<|Jn<|bR (.of rfl) ?_;refine Jw<|Jj<|Jt<|Jg<|Jv rfl<|JB rfl (by omega)<|Ja rfl<|Jn ?_)
   apply aL (j+1) ⟨by omega,by omega⟩ (by omega)
   case hs1=>rw [s2];exact .cons rfl (.cons rfl (.cons rfl (.cons rfl .nil)))
   case ht=>rw [s1];exact .cons .here .nil
  | false =>
   obtain ⟨s1,s2⟩:=Er (fun x=>!p x) l aN (by simp [hq])
   (refine JH rfl<|Jn<|cR (.of rfl) ?_;refine Jr<|Jv rfl<|Jv rfl<|Jv rfl<|ab (aC (.of rfl) (.of rfl) rfl (by omega) (by omega) bo) rfl ?_;refine ao (.of rfl) (.of rfl) .here rfl rfl (dZ rfl) hb oW ?_;refine Jn<|Jg<|Jv rfl<|JB rfl (by omega)<|Ja rfl<|Jx<|Jj<|Jt<|Jg<|Jv rfl<|JB rfl (by omega)<|Ja rfl<|Jn ?_)
   apply aL (j+1) ⟨by omega,by omega⟩ (by omega)
   case hs1=>rw [s2];exact .cons rfl (.cons rfl (.cons rfl (.cons rfl .nil)))
   case ht=>rw [s1];exact .cons .here .nil
 ·obtain rfl:j=l.length:=by omega
  obtain ⟨a1,a2⟩:=Eu (fun x=>!p x) l
  have hle:=mJ (fun x=>!p x) l (Nat.le_refl _)
  rw [a1,a2]
  rw [a2] at hle
  have hZ:=Ew hF (l.filter fun x=>!p x) (l.drop (l.filter fun x=>!p x).length) (List.replicate (n-(l.filter fun x=>!p x).length) [Value.string ⟨#[]⟩]).flatten cur (by simp;omega)
  have QH:(l.filter fun x=>!p x).length<l.length:=filter_lt z6 (by rw [F1];simp [No])
  generalize (l.filter fun x=>!p x)=q at hle hZ QH ⊢
  have Vc:q.length<n:=by omega
  have QJ:q.length≤vc:=by omega
  have hfit:q.length*1+(n-q.length)*[Value.string ⟨#[]⟩].length≤(((q++l.drop q.length).map (fun s:ByteArray=>[Value.string s])).flatten++cur).length:=by
   rw [List.length_append,iy hF,List.length_append,List.length_drop]
   simp only [List.length_cons,List.length_nil]
   omega
  refine Jq<|Jr<|Jv rfl<|Jv rfl<|JI rfl<|JA rfl<|Jn<|Jc rfl fun aq=>Jp<|Jl<|Jo<|Jt<|Jr<|Jv rfl<|Jv rfl<|ab (pA (.of rfl) (.of rfl) (by omega) (by omega)) rfl ?_
  rw [wL 1 Vc nS]
  refine An (zs:=[Value.string ⟨#[]⟩]) (z:=.string ⟨#[]⟩) (.of rfl) .here rfl (dZ rfl) hfit ?_
  rw [hZ]
  (refine Ji<|Jv rfl<|Jv rfl<|ab (gI (.of rfl) (.of rfl) (by omega) (by omega)) rfl ?_;refine Ja rfl<|Jn<|Je ?_)
  rw [wM]
  have uI:((q.map (fun s:ByteArray=>[Value.string s])).flatten++((List.replicate (n-q.length) [Value.string ⟨#[]⟩]).flatten++cur)).length=vc*1:=by
   rw [← hsz,List.length_append,iy hF,List.length_append,List.length_append,← hn,hV,iy hF]
   have:(List.replicate (l.length-q.length) [Value.string ⟨#[]⟩]).flatten.length=(l.length-q.length)*1:=by simp
   rw [this]
   omega
  refine c8 (n:=q.length) (sz:=1) (by exact .here) QJ zh uI (by rw [iy hF]) ?_
  skip
  first | with_reducible apply aO | with_reducible apply aP
  case he=>exact dj rfl rfl
  case hR=>
   intro w' az
   exact aB (.slice (some ⟨g,0,none⟩) q.length vc) trivial (show bj _ [row 9 1 (.slice (some ⟨g,0,none⟩) q.length vc) q.length (aM q)] _ by rw [hV];exact .cons .here .nil) az rfl
set_option maxHeartbeats 1000000 in
theorem Mv {v:Value} {n:Nat} {l:List Po} {p:Po→Bool} {f:FuncId} {first cap:List Value} [bP Tryz.prog f] {w:World} {fp:List Nat} (kD:fp.Nodup) (hs:bY (hp w) [row 188 3 v n (iW l)] fp) (hn:l.length=n) (cJ:n≤1000000)
  (ch:∀ x∈l,∀ w',aF fp w w'→aj Tryz.prog f (first++[.agg x.cells.toArray]++cap) w' (.bool (p x))) :
  bd Tryz.prog 314 [v,.func (.func f) first.toArray cap.toArray] w fp (fun _:Value=>True) id (fun v'=>[row 188 3 v' (l.filter fun x=>!p x).length (iW (l.filter fun x=>!p x))]):=by
 refine dS Tryz.func314 rfl rfl kD hs ?_
 refine Jr<|Ja rfl<|Ji<|Jv rfl<|Jv rfl ?_
 refine aW (by exact .here) fun va vc e=>?_
 subst e
 skip
 with_reducible apply ag
 case hr=>exact aZ
 case hd=>rfl
 case hc=>
  intro w' az
  have hR:Rd w' (.slice va n vc) 3 (sN l):=cy az (by exact .here) hn
  exact ze (f:=f) (p:=p) (first:=first) (cap:=cap) hR (fun x hx w2 ez=>ch x hx w2 (az.keeps.trans (ez.mono (by simp))))
 rcases oL p l with ⟨e1,e2⟩ | ⟨i,hi,e1,e2⟩
 ·rw [e1]
  have sx:(l.filter fun x=>!p x)=l:=List.filter_eq_self.2 fun x hx=>by
   have:=List.find?_eq_none.1 e2 x hx
   simpa using this
  rw [sx]
  refine Ja rfl<|Jn<|Jq<|Jr<|Jv rfl<|JC rfl<|Jn<|Jd rfl fun aq=>Jr<|Jv rfl<|Ja rfl<|Jn<|Ju ?_
  first | with_reducible apply aO | with_reducible apply aP
  case he=>exact dj rfl rfl
  case hR=>
   intro w' az
   exact aB (.slice va n vc) trivial (show bj _ [row 188 3 (.slice va n vc) l.length (iW l)] _ by rw [hn];exact .cons .here .nil) az rfl
 rw [e1]
 rw [List.find?_eq_some_iff_getElem] at e2
 obtain ⟨No,i',z6,F1,dw⟩:=e2
 have F0:i'=i:=by
  have h1:gA p l=(i':Nat):=fT (fun j hj=>by
   rw [List.getElem?_eq_getElem (by omega)]
   simpa using dw j hj) z6 (by rw [F1];exact No)
  rw [e1] at h1
  exact_mod_cast h1.symm
 subst F0
 obtain ⟨st1,st2⟩:=xJ (fun x=>!p x) l z6 (fun j hj=>dw j hj) (by rw [F1];simp [No])
 have hne:¬ ((i':Nat):Int) = -1:=by omega
 refine Ja rfl<|Jn<|Jq<|Jr<|Jv rfl<|JC rfl<|Jn<|Jc rfl fun aq=>Jk<|Jq<|Jr<|Jv rfl<|JB rfl (by omega)<|Ja rfl<|Jn<|J0 ?_
 refine db (by exact .here) (by omega) ?_
 rintro g gB cur e nS zh hsz hl
 cases e
 have hF:∀ x,(Po.cells x).length=3:=fun _=>rfl
 have hV:∀ l,iW l=(l.map Po.cells).flatten:=fun l=>rfl
 refine aX (fun j:Nat=>i'<j∧j≤l.length) (fun j=>[(6,.int .i64 (j:Nat)),(5,.int .i64 (kH (fun x=>!p x) l j)),(0,.slice (some ⟨g,0,none⟩) n vc),(1,.func (.func f) first.toArray cap.toArray)])
  (fun j=>[bD g (.cells (((tF (fun x=>!p x) l j).map Po.cells).flatten++cur).toArray 188 (0,0))]) (fun j=>l.length-j) ?_ ?_
 ·apply aK (i'+1) ⟨by omega,by omega⟩
  case hs1=>rw [st2];exact .cons rfl (.cons rfl (.cons rfl (.cons rfl .nil)))
  case ht=>rw [st1,← hV];exact .cons .here .nil
 rintro j ⟨hj,hk⟩
 by_cases aN:j<l.length
 ·have zj:j<n:=by omega
  have hle:=mJ (fun x=>!p x) l hk
  have sx:=Es (fun x=>!p x) l hk
  obtain ⟨VI,VP⟩:=Et (fun x=>!p x) l aN
  have c0:=qX hF VI cur
  rw [VP] at c0
  have c1:dU (((tF (fun x=>!p x) l j).map Po.cells).flatten++cur) (j*3) 3=[.int .i64 (l[j]).lv,.string (l[j]).ou,.string (l[j]).ip]:=c0
  (refine Jq<|Jr<|Jv rfl<|Jv rfl<|JI rfl<|JA rfl<|Jn<|Jd rfl fun aq=>Jk<|Jq<|J0<|Jr<|Jv rfl<|Jv rfl<|ab (aC (.of rfl) (.of rfl) rfl (by omega) aq bo) rfl ?_;refine ab (cF (.of rfl) .here c1 rfl) rfl ?_;refine Jz rfl rfl fun _ _=>ao (.of rfl) (.of rfl) .here rfl rfl (fk rfl rfl rfl) (bE rfl) ak ?_;refine Ji<|Jv rfl<|ab (cr .here) rfl ?_)
  with_reducible apply ag
  case hr=>exact bC
  case hd=>rfl
  case hc=>
   intro w' az
   exact ch l[j] (List.getElem_mem aN) w' az.keeps
  have hm:kH (fun x=>!p x) l j<(tF (fun x=>!p x) l j).length:=by rw [sx];have:=st2;omega
  have hb:kH (fun x=>!p x) l j*3+3≤(((tF (fun x=>!p x) l j).map Po.cells).flatten++cur).length:=by rw [List.length_append,iy hF,sx];omega
  have oW:=Ir hF hm l[j] cur
  have hmn:kH (fun x=>!p x) l j<n:=by omega
  cases hq:p l[j] with
  | true =>
   obtain ⟨s1,s2⟩:=C6 (fun x=>!p x) l aN (by simp [hq])
   (refine JH rfl<|Jn<|bR (.of rfl) ?_;refine Jw<|Jj<|Jt<|Jg<|Jv rfl<|JB rfl (by omega)<|Ja rfl<|Jn ?_)
   apply aL (j+1) ⟨by omega,by omega⟩ (by omega)
   case hs1=>rw [s2];exact .cons rfl (.cons rfl (.cons rfl (.cons rfl .nil)))
   case ht=>rw [s1];exact .cons (.there .here) .nil
  | false =>
   obtain ⟨s1,s2⟩:=Er (fun x=>!p x) l aN (by simp [hq])
   (refine JH rfl<|Jn<|cR (.of rfl) ?_;refine Jr<|Jv rfl<|Jv rfl<|ab (cr .here) rfl ?_;refine ab (aC (.of rfl) (.of rfl) rfl (by omega) (by omega) bo) rfl ?_;refine ao (.of rfl) (.of rfl) (.there .here) rfl rfl (fk rfl rfl rfl) hb oW ?_;refine Jn<|Jg<|Jv rfl<|JB rfl (by omega)<|Ja rfl<|Jx<|Jj<|Jt<|Jg<|Jv rfl<|JB rfl (by omega)<|Ja rfl<|Jn ?_)
   apply aL (j+1) ⟨by omega,by omega⟩ (by omega)
   case hs1=>rw [s2];exact .cons rfl (.cons rfl (.cons rfl (.cons rfl .nil)))
   case ht=>rw [s1];exact .cons .here .nil
 ·obtain rfl:j=l.length:=by omega
  obtain ⟨a1,a2⟩:=Eu (fun x=>!p x) l
  have hle:=mJ (fun x=>!p x) l (Nat.le_refl _)
  rw [a1,a2]
  rw [a2] at hle
  have hZ:=Ew hF (l.filter fun x=>!p x) (l.drop (l.filter fun x=>!p x).length) (List.replicate (n-(l.filter fun x=>!p x).length) [Value.int .i64 0,Value.string ⟨#[]⟩,Value.string ⟨#[]⟩]).flatten cur (by simp;omega)
  have QH:(l.filter fun x=>!p x).length<l.length:=filter_lt z6 (by rw [F1];simp [No])
  generalize (l.filter fun x=>!p x)=q at hle hZ QH ⊢
  have Vc:q.length<n:=by omega
  have QJ:q.length≤vc:=by omega
  have hfit:q.length*3+(n-q.length)*[Value.int .i64 0,Value.string ⟨#[]⟩,Value.string ⟨#[]⟩].length≤(((q++l.drop q.length).map Po.cells).flatten++cur).length:=by
   rw [List.length_append,iy hF,List.length_append,List.length_drop]
   simp only [List.length_cons,List.length_nil]
   omega
  refine Jq<|Jr<|Jv rfl<|Jv rfl<|JI rfl<|JA rfl<|Jn<|Jc rfl fun aq=>Jp<|Jl<|Jo<|Jt<|Jr<|Jv rfl<|Jv rfl<|ab (pA (.of rfl) (.of rfl) (by omega) (by omega)) rfl ?_
  rw [wL 3 Vc nS]
  refine An (zs:=[Value.int .i64 0,Value.string ⟨#[]⟩,Value.string ⟨#[]⟩]) (z:=.agg #[.int .i64 0,.string ⟨#[]⟩,.string ⟨#[]⟩]) (.of rfl) .here rfl (fk rfl rfl rfl) hfit ?_
  rw [hZ]
  (refine Ji<|Jv rfl<|Jv rfl<|ab (gI (.of rfl) (.of rfl) (by omega) (by omega)) rfl ?_;refine Ja rfl<|Jn<|Je ?_)
  rw [wM]
  have uI:((q.map Po.cells).flatten++((List.replicate (n-q.length) [Value.int .i64 0,Value.string ⟨#[]⟩,Value.string ⟨#[]⟩]).flatten++cur)).length=vc*3:=by
   rw [← hsz,List.length_append,iy hF,List.length_append,List.length_append,← hn,hV,iy hF]
   have:(List.replicate (l.length-q.length) [Value.int .i64 0,Value.string ⟨#[]⟩,Value.string ⟨#[]⟩]).flatten.length=(l.length-q.length)*3:=by simp
   rw [this]
   omega
  refine c8 (n:=q.length) (sz:=3) (by exact .here) QJ zh uI (by rw [iy hF]) ?_
  skip
  first | with_reducible apply aO | with_reducible apply aP
  case he=>exact dj rfl rfl
  case hR=>
   intro w' az
   exact aB (.slice (some ⟨g,0,none⟩) q.length vc) trivial (show bj _ [row 188 3 (.slice (some ⟨g,0,none⟩) q.length vc) q.length (iW q)] _ by rw [hV];exact .cons .here .nil) az rfl
end Go.Proofs.A1
