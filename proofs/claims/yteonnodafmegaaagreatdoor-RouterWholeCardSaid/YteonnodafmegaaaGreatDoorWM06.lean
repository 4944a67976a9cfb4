/- Parts of the proof: GkRegM GkRegN GkStr GkBits GkArr KA KB KC GkClear GkFl KD. -/
import Derived.Test.YteonnodafmegaaaGreatDoorWM04
import Derived.Test.YteonnodafmegaaaGreatDoorWM03
import Derived.Laws.Strings
import Derived.Laws.BytesString
import Derived.Test.YteonnodafmegaaaGreatDoorWM01
import Derived.Laws.Entries
import Derived.Test.YteonnodafmegaaaGreatDoorWM05
set_option linter.unusedSectionVars false
set_option linter.unusedVariables false
set_option linter.unusedSimpArgs false
namespace Go.SL
open Go
def Ds (l:List Oper) (m p:Nat):Bool:=
 l.all nf&&tS l 0&&kL l.toArray (l.take m) 0&&(List.range' m (l.length-m)).all (fun k=>(List.range m).all fun i=>Nat.beq i p||((iG l []).getD k 0).testBit i)&&Nat.ble m l.length
def H0 (l:List Oper) (m:Nat):Bool:=Ds l m m
structure Lg (l:List Oper) (m p:Nat):Prop where
 op:∀ o∈l,nf o=true
 ac:tS l 0=true
 BE:kL l.toArray (l.take m) 0=true
 tail:∀ k,m≤k→k<l.length→∀ i,i<m→i≠p→((iG l []).getD k 0).testBit i=true
 le:m≤l.length
theorem sZ {l:List Oper} {m p:Nat} (h:Ds l m p=true):Lg l m p:=by
 simp only [Ds,Zm,Zaa] at h
 obtain ⟨⟨⟨⟨h1,h2⟩,h3⟩,h5⟩,h6⟩:=h
 refine ⟨h1,h2,h3,fun k hk aM i hi hne=>?_,by simpa using h6⟩
 have:=h5 k (ZaM.2 ⟨hk,by omega⟩) i (ZQ.2 hi)
 rw [ZO] at this
 exact this.resolve_left (by simpa using hne)
theorem j5 {l:List Oper} {m p:Nat} (hc:Lg l m p) {i j:Nat} {x y:Oper} (wY:i<j) (hj:j<m) (hx:l[i]? = some x) (hy:l[j]? = some y):pZ l.toArray x y i=true:=by
 have:=mZ hc.BE (i:=i) (j:=j) wY (by rw [ZG,if_pos (by omega)];exact hx) (by rw [ZG,if_pos hj];exact hy)
 simpa using this
theorem tb {l:List Oper} {m p:Nat} (hc:Lg l m p) {listed:Array Bool} (hsz:listed.size=l.length) (vF:DC l (Ls listed)) {i:Nat} (hi:i∈Region.ready .any l.toArray listed) (hm:m≤i):∀ j,j<m→j≠p→Ls listed j:=by
 intro j hj XE
 obtain ⟨o,ho,hn,hd⟩:=(dD hsz).1 hi
 have aM:i<l.length:=(Zl.1 ho).1
 have DW:DC l (fun k=>k=i∨Ls listed k):=by
  intro k ok hk hL e he hb
  rcases hL with e' | hL
  ·subst e'
   rw [ho] at hk;cases hk
   exact .inr (hd e he hb)
  ·exact .inr (vF k ok hk hL e he hb)
 rcases ia DW hc.ac i aM (.inl rfl) j (hc.tail i hm aM j hj XE) with h | h
 ·omega
 ·exact h
structure cI where
 F:(Nat→Value)→Value
 A:(Nat→Value)→List bd
def uD (β:Nat→Value) (i:Nat) (x:Value):Nat→Value:=fun k=>if k=i then x else β k
theorem qP (β:Nat→Value) (i:Nat):uD β i (β i)=β:=by
 funext k;unfold uD;split
 ·rename_i h;rw [h]
 ·rfl
theorem kh (β:Nat→Value) (i:Nat) (x:Value):uD β i x i=x:=by unfold uD;rw [if_pos rfl]
theorem uC {β:Nat→Value} {i k:Nat} {x:Value} (h:k≠i):uD β i x k=β k:=by unfold uD;rw [if_neg h]
def wb (l:List Oper) (i k:Nat):Bool:=Nat.beq i k||((iG l []).getD i 0).testBit k
def dR (β:Nat→Value) (lst:Nat→Bool):List cI→Nat→List bd
 | [],_=>[]
 | s::S,i=>(if lst i then s.A β else [])++dR β lst S (i+1)
theorem ix {β β':Nat→Value} {lst ni:Nat→Bool}:∀ {S:List cI} {i:Nat},(∀ j s,S[j]? = some s→lst (i+j)=ni (i+j)∧(lst (i+j)=true→s.A β=s.A β'))→dR β lst S i=dR β' ni S i
 | [],_,_=>rfl
 | s :: S, i, h => by
  have h0:=h 0 s rfl
  have ih:dR β lst S (i+1)=dR β' ni S (i+1):=ix fun j s' hj=>by have:=h (j+1) s' (by simpa using hj);rwa [show i+(j+1)=i+1+j from by omega] at this
  simp only [Zaw] at h0
  unfold dR
  rw [ih,← h0.1]
  by_cases hl:lst i=true
  ·rw [if_pos hl,if_pos hl,h0.2 hl]
  ·rw [if_neg hl,if_neg hl]
theorem rb {β:Nat→Value} {lst ni:Nat→Bool} {k:Nat} {s:cI}:∀ {S:List cI} {i:Nat},S[k]? = some s→lst (i+k)=false→ni (i+k)=true→(∀ j,j≠i+k→ni j=lst j) →
  (s.A β++dR β lst S i).Perm (dR β ni S i)
 | [],_,h,_,_,_=>by simp at h
 | s0 :: S, i, h, h1, h2, h3 => by
  cases k with
  | zero =>
   simp at h
   subst h
   have e:dR β lst S (i+1)=dR β ni S (i+1):=ix fun j s' hj=>⟨(h3 (i+1+j) (by omega)).symm,fun _=>rfl⟩
   simp only [Zaw] at h1 h2
   unfold dR
   rw [if_neg (by simp [h1]),if_pos h2,e];simp
  | succ k =>
   have ih:(s.A β++dR β lst S (i+1)).Perm (dR β ni S (i+1)):=by
    refine rb (k:=k) (by simpa using h) ?_ ?_ ?_
    all_goals rw [show i+1+k=i+(k+1) from by omega];assumption
   unfold dR
   rw [h3 i (by omega)]
   refine List.Perm.trans ?_ (ih.append_left _)
   rw [← Zh,← Zh]
   exact List.perm_append_comm.append_right _
theorem q7 {β:Nat→Value} {lst:Nat→Bool} {s:cI}:∀ {S:List cI} {i j:Nat},S[j]? = some s→lst (i+j)=true→(s.A β).Sublist (dR β lst S i)
 | [],_,j,h,_=>by simp at h
 | s0 :: S, i, 0, h, h1 => by
  simp at h
  subst h
  unfold dR
  rw [Zaw] at h1
  rw [if_pos h1]
  exact ZaG _ _
 | s0 :: S, i, j + 1, h, h1 => by
  unfold dR
  exact (q7 (S:=S) (i:=i+1) (j:=j) (by simpa using h) (by rwa [show i+1+j=i+(j+1) from by omega])).trans (ZaQ _ _)
theorem ct.sublist {h:Nat→Option Obj} {l1 l2:List bd} (hs:l1.Sublist l2):∀ {fp:List Nat},ct h l2 fp→∃ lH:List Nat,ct h l1 lH∧lH.Sublist fp:=by
 induction hs with
 | slnil=>intro fp hf;exact ⟨fp,hf,List.Sublist.refl _⟩
 | cons A _ ih =>
  rintro fp ⟨f1,f2,rfl,_,h2⟩
  obtain ⟨g,hg,iR⟩:=ih h2
  exact ⟨g,hg,iR.trans (ZaQ _ _)⟩
 | cons_cons A _ ih =>
  rintro fp ⟨f1,f2,rfl,h1,h2⟩
  obtain ⟨g,hg,iR⟩:=ih h2
  exact ⟨f1++g,⟨f1,g,rfl,h1,hg⟩,(List.Sublist.refl f1).append iR⟩
theorem Mem.sublist {c:Cx} {l1 l2:List bd} {w:World} (h:Mem c l2 w) (hs:l1.Sublist l2):Mem c l1 w:=by
 obtain ⟨k,fp,hn,iz,hb⟩:=h
 obtain ⟨g,hg,iR⟩:=iz.sublist hs
 exact ⟨k,g,hn.sublist iR,hg,fun b dz=>hb b (iR.subset dz)⟩
def oU (P:Program) (o:Oper) (a:Act) (w:World) (K:Value→World→Prop):Prop:=
 match (execOp a.eval o).run P w with
 | .ok (.value v) w'=>K v w'
 | .ok (.enter f args) w'=>w'=w∧Calls P f args w (fun e wG=>∃ v,e=.returned v∧K v wG)
 | _=>False
section
variable {P:Program} {c:Cx} {D:List Nat} {sl:aH} {hs:List bd} {Q:Exit→Act→World→Prop} {l:List Oper} {m:Nat}
def jJ (c:Cx) (hs:List bd) (S:List cI) (B:List Nat) (β:Nat→Value) (w:World):Prop:=∀ A:List bd,(A=[]∨∃ j,j∈B∧∃ s,S[j]? = some s∧A=s.A β)→Mem c (A++hs) w
theorem jJ.mem {S:List cI} {B:List Nat} {β:Nat→Value} {w:World} (h:jJ c hs S B β w):Mem c hs w:=h [] (.inl rfl)
theorem jJ.at {S:List cI} {B:List Nat} {β:Nat→Value} {w:World} (h:jJ c hs S B β w) (j:Nat) {s:cI} (hj:j∈B) (hs':S[j]? = some s):Mem c (s.A β++hs) w:=h _ (.inr ⟨j,hj,s,hs',rfl⟩)
def GZ (i:Nat) (s:cI) (β:Nat→Value) (w:World) (v:Value) (w':World):Prop:=∃ x,v=s.F (uD β i x)∧aJ [] w w'∧∃ fp:List Nat,fp.Nodup∧ct (hp w') (s.A (uD β i x)) fp∧∀ b∈fp,w.heap.size≤b
def mQ {α:Type} (l:List Oper) (i:Nat) (F:(Nat→Value)→α):Prop:=∀ β β',(∀ k,wb l i k=true→β k=β' k)→F β=F β'
structure En (P:Program) (c:Cx) (hs:List bd) (l:List Oper) (i:Nat) (o:Oper) (SL:(Nat→Value)→aH) (S:List cI) (s:cI):Prop where
 zV:mQ l i s.F
 zW:mQ l i s.A
 run:∃ B:List Nat,(∀ j∈B,eY o j=true)∧∀ β a w,bU (SL β) a→jJ c hs S B β w→if Region.wanted o (yielded l.toArray a.tmps)=true then oU P o a w (GZ i s β w) else GZ i s β w undef w
def jO (l:List Oper) (o:Oper) (j:Nat):Bool:=eY o j||(List.range l.length).any fun k=>eY o k&&(match l[k]? with | some q=>eY q j | none=>false)
theorem FT {l:List Oper} {o:Oper} {j:Nat} (h:eY o j=true):jO l o j=true:=by unfold jO;rw [h];rfl
structure AB (P:Program) (c:Cx) (hs:List bd) (l:List Oper) (i:Nat) (o:Oper) (SL:(Nat→Value)→aH) (S:List cI) (s:cI):Prop where
 zV:mQ l i s.F
 zW:mQ l i s.A
 run:∃ B:List Nat,(∀ j∈B,jO l o j=true)∧∀ β a w,bU (SL β) a→jJ c hs S B β w→if Region.wanted o (yielded l.toArray a.tmps)=true then oU P o a w (GZ i s β w) else GZ i s β w undef w
theorem En.toT {P:Program} {c:Cx} {hs:List bd} {l:List Oper} {i:Nat} {o:Oper} {SL:(Nat→Value)→aH} {S:List cI} {s:cI} (h:En P c hs l i o SL S s):AB P c hs l i o SL S s:=⟨h.zV,h.zW,let ⟨B,hB,r⟩:=h.run;⟨B,fun j hj=>FT (hB j hj),r⟩⟩
inductive tG (P:Program) (c:Cx) (hs:List bd) (l:List Oper):Nat→List Oper→((Nat→Value)→aH)→List cI→List cI→((Nat→Value)→aH)→Prop
 | nil {i:Nat} {SL:(Nat→Value)→aH} {S:List cI}:tG P c hs l i [] SL S S SL
 | step {i d:Nat} {o:Oper} {rest:List Oper} {SL ny:(Nat→Value)→aH} {S S':List cI} {s:cI} (hd:o.dst=some d) (fJ:d<c.nt) (h:AB P c hs l i o SL S s)
   (t:tG P c hs l (i+1) rest (fun β=>(d,s.F β)::SL β) (S++[s]) S' ny):tG P c hs l i (o::rest) SL S S' ny
def nG (sl:aH) (pre:List Oper) (SL:(Nat→Value)→aH) (S:List cI):Prop:=
 ∀ β t v,cS (SL β) t=some v→(∃ (j:Nat) (oj:Oper) (s:cI),pre[j]? = some oj∧oj.dst=some t∧S[j]? = some s∧v=s.F β)∨((∀ oj∈pre,oj.dst≠some t)∧cS sl t=some v)
theorem nG.step {pre:List Oper} {SL:(Nat→Value)→aH} {S:List cI} (h:nG sl pre SL S) (hl:S.length=pre.length) {o:Oper} {d:Nat} {s:cI} (hd:o.dst=some d):nG sl (pre++[o]) (fun β=>(d,s.F β)::SL β) (S++[s]):=by
 intro β t v hv
 by_cases e:d=t
 ·subst e
  rw [fD] at hv
  cases hv
  exact .inl ⟨pre.length,o,s,by simp,hd,by rw [← hl];simp,rfl⟩
 ·rw [fC e] at hv
  rcases h β t v hv with ⟨j,oj,s',h1,h2,h3,h4⟩ | ⟨h1,h2⟩
  ·refine .inl ⟨j,oj,s',?_,h2,?_,h4⟩
   ·rw [ZD (Zl.1 h1).1];exact h1
   ·rw [ZD (Zl.1 h3).1];exact h3
  ·refine .inr ⟨fun oj JU=>?_,h2⟩
   rcases Zx.1 JU with JU | JU
   ·exact h1 oj JU
   ·rw [ZB.1 JU,hd];simp [e]
theorem tG.spec {i:Nat} {rest:List Oper} {SL ny:(Nat→Value)→aH} {S S':List cI} (h:tG P c hs l i rest SL S S' ny):∀ pre:List Oper,pre.length=i→S.length=i→nG sl pre SL S →
  S'.length=i+rest.length∧S <+: S'∧nG sl (pre++rest) ny S'∧∀ k o,i≤k→(pre++rest)[k]? = some o→∃ d FM s,o.dst=some d∧d<c.nt∧S'[k]? = some s∧nG sl ((pre++rest).take k) FM (S'.take k)∧AB P c hs l k o FM (S'.take k) s:=by
 induction h with
 | @nil i SL S =>
  intro pre hp hS kP
  refine ⟨by simpa using hS,List.prefix_rfl,by simpa using kP,fun k o hk ho=>?_⟩
  have:=(Zl.1 ho).1
  simp at this;omega
 | @step i d o rest SL ny S S' s hd fJ bh t ih =>
  intro pre hp hS kP
  obtain ⟨h1,h2,h3,h4⟩:=ih (pre++[o]) (by simp [hp]) (by simp [hS]) (kP.step (by omega) hd)
  rw [Zh,List.singleton_append] at h3 h4
  have Gw:S <+: S':=(Zbh S [s]).trans h2
  have rF:S'[i]? = some s:=by
   obtain ⟨r,rfl⟩:=h2
   rw [Zh,ZK (by omega),hS];simp
  have Yo:S'.take i=S:=by
   obtain ⟨r,rfl⟩:=Gw
   rw [← hS];simp
  refine ⟨by rw [h1];simp;omega,Gw,h3,fun k ok hk ho=>?_⟩
  by_cases e:k=i
  ·subst e
   have Fc:ok=o:=by
    rw [ZK (by omega),hp] at ho
    simpa using ho.symm
   subst Fc
   have htk:(pre++ok::rest).take k=pre:=by rw [← hp];simp
   rw [htk,Yo]
   exact ⟨d,SL,s,hd,fJ,rF,kP,bh⟩
  ·exact h4 k ok (by omega) ho
structure Ot (c:Cx) (D:List Nat) (hs:List bd) (l:List Oper) (m:Nat) (S:List cI) (a0:Act) (fuel:Nat) (listed:Array Bool) (a:Act) (w:World):Prop where
 sz:listed.size=l.length
 dc:DC l (Ls listed)
 hi:∀ k,m≤k→¬ Ls listed k
 defers:a.defers=D.map mark
 size:a.tmps.size=c.nt
 BH:∀ t,(∀ (j:Nat) (o:Oper),l[j]? = some o→Ls listed j→o.dst≠some t)→a.tmps[t]? = a0.tmps[t]?
 left:∃ U:List Nat,U.Nodup∧(∀ i,i∈U↔i<l.length∧¬ Ls listed i)∧U.length=fuel
 own:∃ β:Nat→Value,Mem c (dR β (fun i=>listed.getD i false) S 0++(hs++mE D)) w∧∀ (j:Nat) (o:Oper) (d:Nat) (s:cI),l[j]? = some o→o.dst=some d→S[j]? = some s→Ls listed j→a.tmps[d]? = some (s.F β)
def lK (n m:Nat):Array Bool:=(List.replicate m true++List.replicate (n-m) false).toArray
theorem Cj {P:Program} {dst:Option Tmp} {x:Operand} {k:Nat} {ty:TypeId} {pos:String} {af:Array Edge} {ρ:Operand→Value} {w:World} {K:Value→World→Prop}
  (h:match (execOp ρ ⟨dst,.extract x k,ty,pos,af,none⟩).run P w with
   | .ok (.value v) w'=>K v w'
   | .ok (.enter f args) w'=>w'=w∧Calls P f args w (fun e wG=>∃ v,e=.returned v∧K v wG)
   | _=>False):∃ v,K v w∧∀ w2,(execOp ρ ⟨dst,.extract x k,ty,pos,af,none⟩).run P w2=.ok (.value v) w2:=by
 simp only [execOp] at h ⊢
 generalize ρ x=u at h ⊢
 cases u with
 | tuple vs =>
  simp only [Instr.extract] at h ⊢
  cases hv:vs[k]? with
  | none=>simp [hv] at h
  | some v=>simp [hv] at h ⊢;exact h
 | _=>simp [Instr.extract] at h
def AF (l:List Oper) (p:Nat):Prop:=∃ d x k ty pos af,l[p]? = some ⟨some d,.extract x k,ty,pos,af,none⟩∧Region.noSelect l.toArray=true∧Region.free .any l.toArray ((List.range l.length).map fun j=>((iG l []).getD p 0).testBit j).toArray p=true
theorem yE {ops:Array Oper} {l1 l2:Array Bool} {i:Nat} (h:Region.free .any ops l1 i=true) (hle:∀ j,j<ops.size→j≠i→l1.getD j true=true→l2.getD j true=true):Region.free .any ops l2 i=true:=by
 unfold Region.free at h ⊢
 cases hi:ops[i]? with
 | none=>rw [hi] at h;cases h
 | some oi =>
  rw [hi] at h
  simp only [Zaa,ZQ] at h ⊢
  intro j hj
  have h1:=h j hj
  simp only [ZO] at h1 ⊢
  rcases h1 with (h1 | h1) | h1
  ·exact .inl (.inl h1)
  ·by_cases e:j=i
   ·exact .inl (.inl (by simp [e]))
   ·exact .inl (.inr (hle j hj e h1))
  ·exact .inr h1
theorem yh {l:List Oper} (UD:tS l 0=true) {listed:Array Bool} (hsz:listed.size=l.length) (vF:DC l (Ls listed)) {i:Nat} (hi:i∈Region.ready .any l.toArray listed) {j:Nat} (Ye:((iG l []).getD i 0).testBit j=true):j=i∨Ls listed j:=by
 obtain ⟨o,ho,hn,hd⟩:=(dD hsz).1 hi
 have aM:i<l.length:=(Zl.1 ho).1
 have DW:DC l (fun k=>k=i∨Ls listed k):=by
  intro k ok hk hL e he hb
  rcases hL with e' | hL
  ·subst e'
   rw [ho] at hk;cases hk
   exact .inr (hd e he hb)
  ·exact .inr (vF k ok hk hL e he hb)
 exact ia DW UD i aM (.inl rfl) j Ye
theorem Qh {p:Nat} (hc:Lg l m p) (Gw:p<m→AF l p) (VX:∀ c a w,¬ Q (.panic c) a w) {S:List cI} {ny:(Nat→Value)→aH} (T3:tG P c hs l 0 (l.take m) (fun _=>sl) [] S ny) {a0:Act} (h0:bU sl a0) (JX:a0.tmps.size=c.nt)
  (tail:∀ β a w,St c D (ny β) (dR β (fun _=>true) S 0++hs) a w→wpAnyIn (FR none) 0 P .any l.toArray Q (l.length-m) (lK l.length m) a w) :
  ∀ (fuel:Nat) (listed:Array Bool) (a:Act) (w:World),Ot c D hs l m S a0 fuel listed a w→wpAnyIn (FR none) 0 P .any l.toArray Q fuel listed a w:=by
 have hle:=hc.le
 have JO:nG sl [] (fun _=>sl) []:=fun β t v hv=>.inr ⟨fun oj h=>(Zp h).elim,hv⟩
 obtain ⟨Cd,_,kP,fU⟩:=T3.spec (sl:=sl) [] rfl rfl JO
 rw [Za] at kP fU
 rw [ZC,Zr,Zbk hle] at Cd
 have dY:∀ (j:Nat) (o:Oper),j<m→l[j]? = some o→(l.take m)[j]? = some o:=fun j o hj ho=>by rw [ZG,if_pos hj];exact ho
 have fy:∀ (j:Nat) (o:Oper),(l.take m)[j]? = some o→j<m∧l[j]? = some o:=fun j o ho=>by
  rw [ZG] at ho
  split at ho
  ·exact ⟨by assumption,ho⟩
  ·cases ho
 have O7:∀ j,j<m→∃ s,S[j]? = some s:=fun j hj=>⟨S[j]'(by omega),Zc (by omega)⟩
 have mH:∀ fuel listed a w,Ot c D hs l m S a0 fuel listed a w→(∀ i,i<m→Ls listed i)→wpAnyIn (FR none) 0 P .any l.toArray Q fuel listed a w:=by
  intro fuel listed a w hI dZ
  have hL:∀ i,i<l.length→(Ls listed i↔i<m):=fun i _=>⟨fun h=>ZR fun hm=>hI.hi i hm h,dZ i⟩
  obtain ⟨U,xg,qm,sA⟩:=hI.left
  have ig:U.Perm (List.range' m (l.length-m)):=by
   rw [Zaz xg (Zbz)]
   intro i
   rw [qm i,ZaM]
   constructor
   ·rintro ⟨h1,h2⟩
    exact ⟨ZaS fun h=>h2 (dZ i h),by omega⟩
   ·rintro ⟨h1,h2⟩
    exact ⟨by omega,hI.hi i h1⟩
  have hlen:fuel=l.length-m:=by rw [← sA,ig.length_eq,Zbv]
  have JY:listed=lK l.length m:=by
   have vr:(lK l.length m).size=l.length:=by simp [lK];omega
   apply Array.ext
   ·rw [hI.sz,vr]
   ·intro i h1 h2
    rw [hI.sz] at h1
    have h3:=hL i h1
    unfold Ls at h3
    rw [Zy,Zar (by rw [hI.sz];exact h1),Zab] at h3
    have h4:(lK l.length m)[i]=decide (i<m):=by
     simp only [lK,List.getElem_toArray]
     by_cases hi:i<m
     ·rw [Zat (by simpa using hi)];simp [hi]
     ·rw [Zao (by simpa using hi)];simp [hi]
    rw [h4]
    by_cases hi:i<m
    ·rw [h3.2 hi];simp [hi]
    ·have:¬ listed[i]=true:=fun h=>hi (h3.1 h)
     simp [hi,this]
  subst hlen
  rw [JY]
  obtain ⟨β,hm,jt⟩:=hI.own
  have e:dR β (fun i=>listed.getD i false) S 0=dR β (fun _=>true) S 0:=ix fun j s hj=>by
   have iq:j<m:=by have:=(Zl.1 hj).1;omega
   rw [ZC]
   exact ⟨dZ j iq,fun _=>rfl⟩
  rw [e] at hm
  refine tail β a w ⟨by rw [Zh];exact hm,fun t v hv=>?_,hI.size,hI.defers⟩
  rcases kP β t v hv with ⟨j,oj,s,h1,h2,h3,h4⟩ | ⟨h1,h2⟩
  ·obtain ⟨iq,mm⟩:=fy j oj h1
   rw [h4];exact jt j oj t s mm h2 h3 (dZ j iq)
  ·rw [hI.BH t fun j oj hj jK=>h1 oj (ZV (dY j oj (ZR fun hm=>hI.hi j hm jK) hj))]
   exact h0 t v h2
 intro fuel
 induction fuel with
 | zero =>
  intro listed a w hI
  obtain ⟨U,_,qm,sA⟩:=hI.left
  have hU:U=[]:=Zan.1 sA
  refine mH 0 listed a w hI fun i hi=>Classical.byContradiction fun hn=>?_
  have:=(qm i).2 ⟨by omega,hn⟩
  rw [hU] at this;cases this
 | succ fuel ih =>
  intro listed a w hI
  by_cases dZ:∀ i,i<m→Ls listed i
  ·exact mH _ listed a w hI dZ
  ·have hex:∃ i,i<m∧¬ Ls listed i:=Classical.byContradiction fun hh=>dZ fun i hi=>Classical.byContradiction fun hn=>hh ⟨i,hi,hn⟩
   obtain ⟨i0,wZ,pC⟩:=hex
   have main:∀ i,i∈Region.ready .any l.toArray listed→i<m→wpOpIn (FR none) 0 P l.toArray Q i (wpAnyIn (FR none) 0 P .any l.toArray Q fuel (listed.setIfInBounds i true)) a w∧(i=p→wpAnyIn (FR none) 0 P .any l.toArray Q (fuel+1) listed a w):=by
    intro i hi pf
    obtain ⟨o,ho,hn,lV⟩:=(dD hI.sz).1 hi
    obtain ⟨d,FM,s,hd,fJ,rF,tt,eJ⟩:=fU i o (Zi _) (dY i o pf ho)
    obtain ⟨zV,zW,B,hB,gF⟩:=eJ
    obtain ⟨β,hm,jt⟩:=hI.own
    have kD:∀ (j:Nat),eY o j=true→Ls listed j:=fun j hw=>by
     obtain ⟨e,he,hb,nP⟩:=df hw
     rw [← nP];exact lV e he hb
    have vq:∀ (j:Nat),jO l o j=true→Ls listed j:=fun j hw=>by
     unfold jO at hw
     rw [ZO] at hw
     rcases hw with hw | hw
     ·exact kD j hw
     ·obtain ⟨k,_,hk⟩:=ZM.1 hw
      rw [Zm] at hk
      have GI:=kD k hk.1
      cases hq:l[k]? with
      | none=>rw [hq] at hk;cases hk.2
      | some q =>
       rw [hq] at hk
       obtain ⟨e,he,hb,nP⟩:=df hk.2
       rw [← nP]
       exact hI.dc k q hq GI e he hb
    have pL:∀ (j:Nat) (oj:Oper) (e:Nat),l[j]? = some oj→j<m→j≠i→oj.dst=some e→d≠e:=by
     intro j oj e hj iq hne he
     rcases Zbo j i with h | h
     ·exact fun e'=>(dq (j5 hc h pf hj ho) he hd).1 e'.symm
     ·exact (dq (j5 hc (show i<j by omega) iq ho hj) hd he).1
    have gU:i<listed.size:=by rw [hI.sz];omega
    have CO:nf o=true:=hc.op o (ZV ho)
    -- AJ c5 PV AJ operation looks at
    have hT:∀ t∈o.looksAt l.toArray,∀ v,cS (FM β) t=some v→a.tmps[t]? = some v:=by
     intro t ht v hv
     rcases tt β t v hv with ⟨j,oj,sj,h1,h2,h3,h4⟩ | ⟨h1,h2⟩
     ·have nC:j<i:=by have:=(Zl.1 h1).1;rw [Zr] at this;omega
      rw [ZG,if_pos nC] at h1 h3
      obtain ⟨iq,mm⟩:=fy j oj h1
      have jK:=kD j ((dq (j5 hc nC pf mm ho) h2 hd).2 (.inl ht))
      rw [h4];exact jt j oj t sj mm h2 h3 jK
     ·rw [hI.BH t fun j oj hj jK iI=>?_]
      ·exact h0 t v h2
      ·have iq:j<m:=ZR fun hm=>hI.hi j hm jK
       rcases Zam j i with h | h | h
       ·exact h1 oj (ZV (by rw [ZG,if_pos h];exact dY j oj iq hj)) iI
       ·subst h;exact hn jK
       ·have hw:=(dq (j5 hc h iq ho hj) hd iI).2 (.inr ht)
        obtain ⟨e,he,hb,nP⟩:=df hw
        have:=hI.dc j oj hj jK e he hb
        rw [nP] at this
        exact hn this
    have vC:∀ t v,cS (FM β) t=some v→t<c.nt:=by
     intro t v hv
     rcases tt β t v hv with ⟨j,oj,sj,h1,h2,_,_⟩ | ⟨_,h2⟩
     ·have nC:j<i:=by have:=(Zl.1 h1).1;rw [Zr] at this;omega
      rw [ZG,if_pos nC] at h1
      obtain ⟨d',_,_,wz,Ab,_⟩:=fU j oj (Zi _) h1
      rw [h2] at wz;cases wz
      exact Ab
     ·have:=h0 t v h2
      rw [← JX]
      exact (ZY.1 this).1
    obtain ⟨a',lW,jD,_⟩:=oL hI.size vC hT
    have Ad:jJ c hs (S.take i) B β w:=by
     rintro A (rfl | ⟨j,hj,sj,h1,rfl⟩)
     ·exact hm.sublist ((ZaG _ _).trans (ZaQ _ _))
     ·have nC:j<i:=by have:=(Zl.1 h1).1;rw [Zr] at this;omega
      rw [ZG,if_pos nC] at h1
      have jK:=vq j (hB j hj)
      exact hm.sublist ((q7 (lst:=fun i=>listed.getD i false) (i:=0) h1 (by rw [ZC];exact jK)).append (ZaG _ _))
    have hq:=gF β a' w lW Ad
    have hex:=iA (o:=o) (ops:=l.toArray) CO jD
    -- PL a done operation S8 U2 not UC on this one
    have oH:∀ j,Ls listed j→∀ x k,wb l j k=true→β k=uD β i x k:=by
     intro j jK x k hk
     refine (uC fun e=>?_).symm
     subst e
     unfold wb at hk
     rw [ZO] at hk
     rcases hk with hk | hk
     ·have:j=k:=by simpa using hk
      subst this;exact hn jK
     ·have Lz:j<l.length:=by
       have iq:j<m:=ZR fun hm=>hI.hi j hm jK
       omega
      exact hn (ia hI.dc hc.ac j Lz jK k hk)
    have gO:∀ v w',GZ i s β w v w'→wpAnyIn (FR none) 0 P .any l.toArray Q fuel (listed.setIfInBounds i true) (a.put o.dst v) w':=by
     rintro v w' ⟨x,rfl,hk,fp,lj,iz,w7⟩
     refine ih _ _ _ ⟨by simpa using hI.sz,?_,?_,by rw [hd];exact hI.defers,by simpa [Act.put,hd] using hI.size,?_,?_,uD β i x,?_,?_⟩
     ·intro k ok rQ hL e he hb
      rw [cA gU] at hL ⊢
      rcases hL with e' | hL
      ·subst e'
       rw [ho] at rQ;cases rQ
       exact .inr (lV e he hb)
      ·exact .inr (hI.dc k ok rQ hL e he hb)
     ·intro k rQ hL
      rw [cA gU] at hL
      rcases hL with e | hL
      ·omega
      ·exact hI.hi k rQ hL
     ·intro t ht
      have h1:d≠t:=fun e=>by subst e;exact ht i o ho ((cA gU).2 (.inl rfl)) hd
      rw [hd]
      simp only [Act.put,ZJ h1]
      exact hI.BH t fun j oj hj hL=>ht j oj hj ((cA gU).2 (.inr hL))
     ·obtain ⟨U,xg,qm,sA⟩:=hI.left
      refine ⟨U.erase i,xg.erase i,fun k=>?_,?_⟩
      ·rw [xg.mem_erase_iff,qm k,cA gU]
       constructor
       ·rintro ⟨h1,h2,h3⟩
        exact ⟨h2,fun h=>h.elim h1 h3⟩
       ·rintro ⟨h1,h2⟩
        exact ⟨fun e=>h2 (.inl e),h1,fun h=>h2 (.inr h)⟩
      ·have Ri:i∈U:=(qm i).2 ⟨by omega,hn⟩
       rw [ZaF Ri,sA];rfl
     ·have ml:Mem c (s.A (uD β i x)++(dR β (fun i=>listed.getD i false) S 0++(hs++mE D))) w':=Mem.O9 (As:=[]) hm fun sC _ hf=>by
       rw [show sC=[] from hf]
       exact ⟨hk,fp,lj,iz,fun b hb=>.inr (w7 b hb)⟩
      have e1:dR β (fun i=>listed.getD i false) S 0=dR (uD β i x) (fun i=>listed.getD i false) S 0:=ix fun j sj hj=>by
       refine ⟨rfl,fun hl=>?_⟩
       rw [ZC] at hl
       have iq:j<m:=by have:=(Zl.1 hj).1;omega
       obtain ⟨oj,JU⟩:∃ oj,l[j]? = some oj:=⟨l[j]'(by omega),Zc (by omega)⟩
       obtain ⟨_,_,s2,_,_,hs2,_,vz⟩:=fU j oj (Zi _) (dY j oj iq JU)
       rw [hj] at hs2;cases hs2
       exact vz.zW _ _ (oH j hl x)
      rw [e1,← Zh] at ml
      refine ml.perm ((rb (k:=i) rF ?_ ?_ ?_).append_right _)
      ·rw [ZC]
       show listed.getD i false=false
       have:¬ listed.getD i false=true:=hn
       simpa using this
      ·rw [ZC];exact (cA gU).2 (.inl rfl)
      ·intro j hj
       rw [ZC] at hj
       simp [Zy,ZJ (Ne.symm hj)]
     ·intro j oj e sj hj he jN hL
      rw [cA gU] at hL
      by_cases nC:j=i
      ·subst nC
       rw [ho] at hj;cases hj
       rw [hd] at he;cases he
       rw [rF] at jN;cases jN
       rw [hd]
       simp [Act.put,hI.size,fJ]
      ·have AS:=hL.resolve_left nC
       have iq:j<m:=ZR fun hm=>hI.hi j hm AS
       obtain ⟨_,_,s2,_,_,hs2,_,vz⟩:=fU j oj (Zi _) (dY j oj iq hj)
       rw [jN] at hs2;cases hs2
       rw [hd]
       simp only [Act.put,ZJ (pL j oj e hj iq nC he)]
       rw [← vz.zV _ _ (oH j AS x)]
       exact jt j oj e sj hj he jN AS
    have OT:=hq
    refine ⟨?_,fun Uk=>?_⟩
    rotate_left
    ·subst Uk
     obtain ⟨d',x',k',V7,pos',YJ,B5,QQ,eP⟩:=Gw pf
     rw [ho] at B5;cases B5
     rw [if_pos (by simp [Region.wanted])] at OT
     unfold oU at OT
     obtain ⟨v,hv,Cc⟩:=Cj OT
     have w7:Region.free .any l.toArray listed i=true:=yE eP fun j hj hne hb=>by
      have mm:j<l.length:=by simpa using hj
      have dz:((iG l []).getD i 0).testBit j=true:=by
       rw [Zy] at hb
       simpa [mm] using hb
      have XD:j<listed.size:=by rw [hI.sz];exact mm
      rcases yh hc.ac hI.sz hI.dc hi dz with e | hL
      ·exact absurd e hne
      ·unfold Ls at hL
       rw [Zy,Zar XD] at hL ⊢
       exact hL
     refine wpAnyIn_take (oi:=⟨some d',.extract x' k',V7,pos',YJ,none⟩) (v:=v) rfl (by simpa using ho) QQ w7 (by simpa using hi) (fun c a w h=>(VX c _ w h).elim) ⟨.inl ⟨by simp [Region.wanted],fun w2=>by rw [← hex];exact Cc w2⟩,fun w2=>rfl⟩ (gO v w hv)
    unfold wpOpIn
    rw [show l.toArray[i]? = some o from by simpa using ho]
    simp only []
    rw [gX jD] at hq
    split
    ·rename_i hw
     rw [if_pos hw] at hq
     refine ⟨dN _ _ _ _ _,?_⟩
     rw [Oper.semAt_eq _ _ _ (fun cc he=>by simp [nf,he] at CO),← hex]
     unfold oU at hq
     revert hq
     generalize (execOp a'.eval o).run P w=res
     intro hq
     match res,hq with
     | .ok (.value v) w',hq=>exact gO v w' hq
     | .ok (.enter f args) w', ⟨e, cz⟩ =>
      subst e
      refine ⟨by simp [FR,Fence.wide],(ij cz).mono fun e wG h=>?_⟩
      obtain ⟨v,rfl,hq⟩:=h
      exact gO v wG hq
    ·rename_i hw
     rw [if_neg hw] at hq
     exact ⟨fun _ _=>trivial,gO undef w hq⟩
   by_cases hp:p<m∧p∈Region.ready .any l.toArray listed
   ·exact (main p hp.2 hp.1).2 rfl
   ·refine ⟨fun hr=>?_,fun i hi=>?_⟩
    ·obtain ⟨i,hi⟩:=jq hI.sz hc.ac ⟨i0,by omega,pC⟩
     rw [hr] at hi;cases hi
    ·have pf:i<m:=ZR fun hm=>by
      have Lw:=tb hc hI.sz hI.dc hi hm
      by_cases Js:p<m
      ·by_cases UI:Ls listed p
       ·exact pC (by
         by_cases e:i0=p
         ·rw [e];exact UI
         ·exact Lw i0 wZ e)
       ·refine hp ⟨Js,(dD hI.sz).2 ⟨l[p]'(by omega),Zc (by omega),UI,fun e he hb=>?_⟩⟩
        have aM:=jX hc.ac (Zc (show p<l.length by omega)) e he hb
        exact Lw e.on (by omega) (by omega)
      ·exact pC (Lw i0 wZ (by omega))
     exact (main i hi pf).1
def nA (P:Program) (c:Cx) (D:List Nat) (hs:List bd) (l:List Oper) (Q:Exit→Act→World→Prop) (m i n:Nat) (rest:List Oper) (SL:(Nat→Value)→aH) (S:List cI):Prop:=
 ∃ S' ny,tG P c hs l i (rest.take n) SL S S' ny∧∀ β,Tr c D (ny β) (dR β (fun _=>true) S' 0++hs) (Left P l.toArray Q (l.length-m) (lK l.length m))
theorem dL {id:Nat} (m:Nat) [qi:Sl P] (eQ:H0 l m=true) (k:nA P c D hs l Q m 0 m l (fun _=>sl) []):Tr c D sl hs (WP P none (.region id l.toArray true) Q):=fun a w bh=>by
 obtain ⟨S,ny,hp,ht⟩:=k
 have h:(Code.region id l.toArray true).wpIn (FR none) 0 P (NP Q) a w:=wpIn_region_any qi.eq (by
  refine Qh (p:=m) (sZ eQ) (fun h=>absurd h (Nat.lt_irrefl _)) (fun c a w h=>h.elim) hp bh.c5 bh.size (fun β a w bh=>ht β a w bh) l.toArray.size _ _ _ ⟨by simp,?_,?_,bh.defers,bh.size,fun t _=>rfl,?_,fun _=>undef,?_,?_⟩
  ·exact fun k o _ hL=>absurd hL (eS _ _)
  ·exact fun k _ hL=>eS _ _ hL
  ·exact ⟨List.range l.length,Zbs,fun i=>⟨fun h=>⟨by simpa using h,eS _ _⟩,fun h=>by simpa using h.1⟩,by simp⟩
  ·have e:∀ (T:List cI) (i:Nat),dR (fun _=>undef) (fun i=>(Array.replicate l.toArray.size false).getD i false) T i=[]:=by
    intro T
    induction T with
    | nil=>intro i;rfl
    | cons s T ih =>
     intro i
     have:=eS l.toArray.size i
     unfold Ls at this
     unfold dR
     rw [if_neg this,ih];rfl
   rw [e]
   exact bh.mem.drew
  ·exact fun j o d s _ _ _ hL=>absurd hL (eS _ _))
 exact wpIn_mono h fun e a' w' h=>by
  cases e with
  | panic c=>exact h.elim
  | _=>exact h
end
end Go.SL
namespace Go.SL
open Go
def fm:Value→Nat
 | .int _ n=>n.toNat
 | _=>0
theorem pg (b:Nat):fm (.int .i64 (b:Int))=b:=by simp [fm]
def wB:Value→Option Addr×Nat
 | .slice a _ c=>(a,c)
 | _=>(none,0)
def ei (β:Nat→Value):List cI→List bd
 | []=>[]
 | s::S=>s.A β++ei β S
theorem BB (β:Nat→Value):∀ (S:List cI) (i:Nat),dR β (fun _=>true) S i=ei β S
 | [],_=>rfl
 | s::S,i=>by rw [dR,ei,if_pos rfl,BB β S]
section
variable {P:Program} {c:Cx} {D:List Nat} {sl:aH} {hs hs':List bd} {X:Act→World→Prop} {Q:Exit→Act→World→Prop} {l:List Oper} {m i n d:Nat} {op:Op} {ty:TypeId} {pos:String} {af:Array Edge} {rest:List Oper} {SL:(Nat→Value)→aH} {S:List cI}
theorem jh (l:List Oper) (i:Nat):wb l i i=true:=by simp [wb]
theorem rN {o:Oper} {s:cI} (hd:o.dst=some d) (fJ:Nat.blt d c.nt=true) (h:En P c hs l i o SL S s) (k:nA P c D hs l Q m (i+1) n rest (fun β=>(d,s.F β)::SL β) (S++[s])):nA P c D hs l Q m i (n+1) (o::rest) SL S:=by
 obtain ⟨S',ny,hp,ht⟩:=k
 exact ⟨S',ny,.step hd (by simpa [Z2] using fJ) h.toT hp,ht⟩
theorem Vj {F:(Nat→Value)→Value} {s:cI} (j:Nat) (hS:S[j]? = some s) (hw:jO l ⟨some d,op,ty,pos,af,none⟩ j=true) (hr:∀ β,cY P c (SL β) (s.A β++hs) ⟨some d,op,ty,pos,af,none⟩ (F β)) (hi:mQ l i F) (hd:Nat.blt d c.nt=true)
  (k:nA P c D hs l Q m (i+1) n rest (fun β=>(d,F β)::SL β) (S++[⟨F,fun _=>[]⟩])):nA P c D hs l Q m i (n+1) (⟨some d,op,ty,pos,af,none⟩::rest) SL S:=by
 obtain ⟨S',ny,hp,ht⟩:=k
 refine ⟨S',ny,.step rfl (by simpa [Z2] using hd) (s:=⟨F,fun _=>[]⟩) ⟨hi,fun _ _ _=>rfl,[j],by simpa using hw,fun β a w h1 h2=>?_⟩ hp,ht⟩
 rw [if_pos (by simp [Region.wanted])]
 unfold oU
 rw [(hr β).2 a w h1 (h2.at j (by simp) hS)]
 exact ⟨β i,by rw [qP],.refl _ _,[],Zaj,rfl,by simp⟩
theorem bX {dst:Option Tmp} {j gs:Nat} {want:Bool} (hj:((l.toArray[j]?).bind (·.dst))=some gs) (hq:∀ β,cS (SL β) gs=some (.bool want))
  (k:nA P c D hs l Q m i (n+1) (⟨dst,op,ty,pos,af,none⟩::rest) SL S):nA P c D hs l Q m i (n+1) (⟨dst,op,ty,pos,af,some (j,want)⟩::rest) SL S:=by
 obtain ⟨S',ny,hp,ht⟩:=k
 refine ⟨S',ny,?_,ht⟩
 cases hp with
 | step hd fJ h t =>
  obtain ⟨h1,h2,B,hB,hr⟩:=h
  refine .step hd fJ ⟨h1,h2,B,hB,fun β a w hs1 hb=>?_⟩ t
  have:=hr β a w hs1 hb
  rw [if_pos (by simp [Region.wanted])] at this
  rw [kW (o:=⟨dst,op,ty,pos,af,some (j,want)⟩) (c0:=true) rfl hj hs1 (by rw [hq β];rfl),if_pos (by simp)]
  exact this
theorem bP {j gs:Nat} {want:Bool} {v:Value} (hj:((l.toArray[j]?).bind (·.dst))=some gs) (hq:∀ β,cS (SL β) gs=some v) (hv:v=undef∨v=.bool (!want)) (hd:Nat.blt d c.nt=true)
  (k:nA P c D hs l Q m (i+1) n rest (fun β=>(d,undef)::SL β) (S++[⟨fun _=>undef,fun _=>[]⟩])):nA P c D hs l Q m i (n+1) (⟨some d,op,ty,pos,af,some (j,want)⟩::rest) SL S:=
 rN (s:=⟨fun _=>undef,fun _=>[]⟩) rfl hd ⟨fun _ _ _=>rfl,fun _ _ _=>rfl,[],by simp,fun β a w h1 h2=>by
  have hw:∃ c0 q,gv c0 (.bool q)=v∧(c0&&(q==want))=false:=by
   rcases hv with e | e
   ·exact ⟨false,want,by rw [e];rfl,rfl⟩
   ·exact ⟨true,!want,by rw [e];rfl,by cases want <;> rfl⟩
  obtain ⟨c0,q,e,SI⟩:=hw
  rw [kW (o:=⟨some d,op,ty,pos,af,some (j,want)⟩) (c0:=c0) (q:=q) rfl hj h1 (by rw [hq β,e]),if_neg (by simpa using SI)]
  exact ⟨β i,rfl,.refl _ _,[],Zaj,rfl,by simp⟩⟩ k
theorem fh (k:∀ β,Tr c D (SL β) (ei β S++hs) (Left P l.toArray Q (l.length-m) (lK l.length m))):nA P c D hs l Q m i 0 rest SL S:=
 ⟨S,SL,.nil,fun β=>by rw [BB];exact k β⟩
theorem an {F:(Nat→Value)→Value} (hr:∀ β,cY P c (SL β) hs ⟨some d,op,ty,pos,af,none⟩ (F β)) (hi:mQ l i F) (hd:Nat.blt d c.nt=true) (k:nA P c D hs l Q m (i+1) n rest (fun β=>(d,F β)::SL β) (S++[⟨F,fun _=>[]⟩])) :
  nA P c D hs l Q m i (n+1) (⟨some d,op,ty,pos,af,none⟩::rest) SL S:=
 rN (s:=⟨F,fun _=>[]⟩) rfl hd ⟨hi,fun _ _ _=>rfl,[],by simp,fun β a w h1 h2=>by
  rw [if_pos (by simp [Region.wanted])]
  unfold oU
  rw [(hr β).2 a w h1 h2.mem]
  exact ⟨β i,by rw [qP],.refl _ _,[],Zaj,rfl,by simp⟩⟩ k
theorem dd {f:FuncId} {args:(Nat→Value)→List Value} {F:(Nat→Value)→Value} (B:List Nat) (hB:(B.all fun j=>eY ⟨some d,op,ty,pos,af,none⟩ j)=true) (hr:∀ β,lJ P (SL β) ⟨some d,op,ty,pos,af,none⟩ f (args β)) (hi:mQ l i F) (hd:Nat.blt d c.nt=true)
  (hc:∀ β w,jJ c hs S B β w→aj P f (args β) w (F β)) (k:nA P c D hs l Q m (i+1) n rest (fun β=>(d,F β)::SL β) (S++[⟨F,fun _=>[]⟩])) :
  nA P c D hs l Q m i (n+1) (⟨some d,op,ty,pos,af,none⟩::rest) SL S:=
 rN (s:=⟨F,fun _=>[]⟩) rfl hd ⟨hi,fun _ _ _=>rfl,B,fun j hj=>Zaa.1 hB j hj,fun β a w h1 h2=>by
  rw [if_pos (by simp [Region.wanted])]
  unfold oU
  rw [(hr β).2 a w h1]
  exact ⟨rfl,(hc β w h2).mono fun e w' ⟨he,hk⟩=>⟨F β,he,β i,by rw [qP],hk,[],Zaj,rfl,by simp⟩⟩⟩ k
theorem dp {ι:Type} {Φ:ι→Prop} {val:ι→Value} {own:ι→List bd} (g:Value→ι) (hg:∀ x,∃ v,g v=x) {f:FuncId} {args:(Nat→Value)→List Value} (B:List Nat) (hB:(B.all fun j=>eY ⟨some d,op,ty,pos,af,none⟩ j)=true)
  (hr:∀ β,lJ P (SL β) ⟨some d,op,ty,pos,af,none⟩ f (args β)) (hd:Nat.blt d c.nt=true) (hc:∀ β w,jJ c hs S B β w→bu P f (args β) w [] Φ val own)
  (k:nA P c D hs l Q m (i+1) n rest (fun β=>(d,val (g (β i)))::SL β) (S++[⟨fun β=>val (g (β i)),fun β=>own (g (β i))⟩])) :
  nA P c D hs l Q m i (n+1) (⟨some d,op,ty,pos,af,none⟩::rest) SL S:=
 rN (s:=⟨fun β=>val (g (β i)),fun β=>own (g (β i))⟩) rfl hd ⟨fun β β' h=>by simp only [h i (jh l i)],fun β β' h=>by simp only [h i (jh l i)],B,fun j hj=>Zaa.1 hB j hj,fun β a w h1 h2=>by
  rw [if_pos (by simp [Region.wanted])]
  unfold oU
  rw [(hr β).2 a w h1]
  refine ⟨rfl,(hc β w h2).mono fun e w' ⟨x,he,_,hk,fp,hn,hs',hf⟩=>?_⟩
  obtain ⟨v,hv⟩:=hg x
  refine ⟨val x,he,v,by simp only [kh,hv],hk,fp,hn,by simp only [kh,hv];exact hs',fun b hb=>?_⟩
  rcases hf b hb with h | h
  ·cases h
  ·exact h⟩ k
theorem kA {V:Nat→Value} {ob:(Nat→Value)→Obj} (hr:∀ β,qI P c (SL β) hs ⟨some d,op,ty,pos,af,none⟩ V (ob β)) (hi:∀ β β',(∀ k,k≠i→wb l i k=true→β k=β' k)→ob β=ob β') (hd:Nat.blt d c.nt=true)
  (k:nA P c D hs l Q m (i+1) n rest (fun β=>(d,V (fm (β i)))::SL β) (S++[⟨fun β=>V (fm (β i)),fun β=>[bH (fm (β i)) (ob β)]⟩])) :
  nA P c D hs l Q m i (n+1) (⟨some d,op,ty,pos,af,none⟩::rest) SL S:=
 rN (s:=⟨fun β=>V (fm (β i)),fun β=>[bH (fm (β i)) (ob β)]⟩) rfl hd ⟨fun β β' h=>by simp only [h i (jh l i)],fun β β' h=>by simp only [h i (jh l i),hi β β' fun k _ hk=>h k hk],[],by simp,fun β a w h1 h2=>by
  rw [if_pos (by simp [Region.wanted])]
  unfold oU
  rw [(hr β).2 a w h1 h2.mem]
  have e:ob (uD β i (.int .i64 (w.heap.size:Int)))=ob β:=hi _ _ fun k hk _=>uC hk
  exact ⟨.int .i64 (w.heap.size:Int),by simp only [kh,pg],.alloc _ _ _,[w.heap.size],by simp,⟨[w.heap.size],[],rfl,⟨by simp only [kh,pg],by simp only [kh,pg];rw [e];exact World.alloc_heap_new w (ob β)⟩,rfl⟩,by simp⟩⟩ k
end
end Go.SL
namespace Go.SL
open Go
section
variable {P:Program} {c:Cx} {sl:aH} {hs:List bd} {dst:Option Tmp} {ty:TypeId} {pos:String} {af:Array Edge} {g:Option (Nat×Bool)}
theorem dQ {x:Operand} {a:Addr} (hx:Is sl x (.pointer (some a))):cY P c sl hs ⟨dst,.nilCheck x,ty,pos,af,g⟩ (.pointer (some a)):=
 ⟨by simp,fun ac w ha _=>by simp [execOp,hx ac ha]⟩
end
section
variable {P:Program} {c:Cx} {D:List Nat} {hs:List bd} {Q:Exit→Act→World→Prop} {l:List Oper} {m i n d:Nat} {op:Op} {ty:TypeId} {pos:String} {af:Array Edge} {rest:List Oper} {SL:(Nat→Value)→aH} {S:List cI}
theorem dy {v:Value}:mQ l i (fun _=>v):=fun _ _ _=>rfl
end
section
variable {P:Program} {c:Cx} {D:List Nat} {sl:aH} {hs:List bd} {Q:Exit→Act→World→Prop} {ops:Array Oper} {fuel:Nat} {listed:Array Bool}
end
section
variable {P:Program} {r:Option Nat} {c:Cx} {D:List Nat} {sl:aH} {hs:List bd} {Q:Exit→Act→World→Prop} {ops:Array Oper} {fuel i:Nat} {listed:Array Bool}
def yS (P:Program) (r:Option Nat) (ops:Array Oper) (Q:Exit→Act→World→Prop) (fuel:Nat) (listed:Array Bool):Act→World→Prop:=wpAnyIn (FR r) 0 P .any ops (NP Q) fuel listed
def PD (P:Program) (r:Option Nat) (c:Cx) (D:List Nat) (sl:aH) (hs:List bd) (ops:Array Oper) (Q:Exit→Act→World→Prop) (fuel:Nat) (listed:Array Bool) (i:Nat):Prop:=
 ∀ a w,St c D sl hs a w→wpOpIn (FR r) 0 P ops (NP Q) i (yS P r ops Q fuel (listed.setIfInBounds i true)) a w
theorem tg {rs:List Nat} (hr:Region.ready .any ops listed=rs) (hne:rs≠[]) (h:∀ i∈rs,PD P r c D sl hs ops Q fuel listed i):Tr c D sl hs (yS P r ops Q (fuel+1) listed):=fun a w bh=>
 wpAnyIn_all hr hne fun i hi=>h i hi a w bh
theorem vb {d:Option Tmp} {op:Op} {ty:TypeId} {pos:String} {af:Array Edge} {g:Option (Nat×Bool)} (hi:ops[i]? = some ⟨d,op,ty,pos,af,g⟩) (h:Tr c D sl hs (WL P r ops (Exit.then (yS P r ops Q fuel (listed.setIfInBounds i true)) (NP Q)) [⟨d,op,ty,pos,af,g⟩])):PD P r c D sl hs ops Q fuel listed i:=fun a w bh=>by
 have h1:=h a w bh
 unfold wpOpIn
 simp only [hi]
 unfold WL at h1
 split
 ·rename_i hw
  rw [if_pos hw] at h1
  exact Oper.uA (fun a w h=>h) (fun c a w h=>h) (fun h=>h) h1
 ·rename_i hw
  rw [if_neg hw] at h1
  exact ⟨fun _ _=>trivial,h1⟩
theorem DH (hr:Region.ready .any ops listed=[]) (k:Tr c D sl hs (Q .normal)):Tr c D sl hs (yS P r ops Q fuel listed):=fun a w bh=>
 wpAnyIn_done (Q:=NP Q) hr (k a w bh) fuel
end
end Go.SL
namespace Go.SL
open Go
variable {P:Program} {c:Cx} {sl:aH} {hs:List bd} {dst:Option Tmp} {ty:TypeId} {pos:String} {af:Array Edge} {g:Option (Nat×Bool)}
end Go.SL
namespace Go.SL
open Go
section
variable {P:Program} {c:Cx} {sl:aH} {hs:List bd} {dst:Option Tmp} {ty:TypeId} {pos:String} {af:Array Edge} {g:Option (Nat×Bool)}
theorem ye {t e:TypeId} {m n:Nat} {agg:Bool} {x:Operand} {b o:Nat} [hu:iV P t (.array m e)] [hT:Ty P e agg n] (hx:Is sl x (.pointer (some ⟨b,o,none⟩))) :
  cY P c sl hs ⟨dst,.slice t x none none none,ty,pos,af,g⟩ (.slice (some ⟨b,o,none⟩) m m):=
 ⟨by simp,fun ac w ha _=>by
  simp only [execOp,hx ac ha,Option.map]
  refine value_of ?_
  simp [Instr.sliceAt,aV hu.eq,Instr.sureAddr,Instr.sliceBounds,fQ (t:=e) (agg:=agg) (n:=n),eK]⟩
end
end Go.SL
namespace Go.Proofs.A1
open Go Go.SL
theorem OI (x:Int) (w:World):aj Tryz.prog 342 [.int .i64 x] w (.bool false):=by
 refine ah Tryz.func342 rfl rfl ?_
 refine Jr<|Ja rfl<|Ji<|Jv rfl<|Jv rfl<|JD rfl<|Ja rfl<|Jn<|Je<|JT ?_
 simp
theorem Cq (x y:Int) (w:World):aj Tryz.prog 300 [.int .i64 x,.int .i64 y] w (.int .i64 (kr x y)):=by
 refine ah Tryz.func300 rfl rfl ?_
 (refine Jr<|Ja rfl<|Ji<|Jv rfl<|ai bN rfl (fun w' aA=>(OI x w'))<|Ja rfl<|Ji<|Jv rfl<|ai bN rfl (fun w' aA=>(OI y w'))<|Ja rfl<|Jn<|Jq<|Jr<|Jv rfl<|Jn<|bK (.of rfl)<|Jk<|Jq<|Jr<|Jv rfl<|Jn<|bK (.of rfl)<|Jk<|Jq<|Jr<|Jv rfl<|Jv rfl<|JA rfl<|Jn<|gm rfl (fun az=>?_) fun az=>?_;refine Jr<|Ja rfl<|Jn<|Ju<|JT ?_;rotate_left;refine Jk<|Jq<|Jr<|Jv rfl<|Jv rfl<|JE rfl<|Jn<|gm rfl (fun az=>?_) fun az=>?_;refine Jr<|Ja rfl<|Jn<|Ju<|JT ?_;rotate_left;refine Jk<|Jr<|Ja rfl<|Jn<|Je<|JT ?_;rotate_right;rotate_right)
 ·rw [kr,if_pos az]
 ·rename_i h1
  rw [kr,if_neg h1,if_pos az]
 ·rename_i h1
  rw [kr,if_neg h1,if_neg az]
theorem Ts {lv:Value} {l:List Int} {w:World} (h:Rd w lv 1 (ints l)):aj Tryz.prog 319 [lv] w (.int .i64 (aX l)):=by
 obtain ⟨a,cp,b,o,rfl,dj,bV,ha,hc⟩:=h
 rw [c8] at *
 unfold maxLen at bV
 refine ah Tryz.func319 rfl rfl ?_
 refine Jr<|Ja rfl<|Ji<|Ja rfl<|Jn<|Jq<|Jr<|Jv rfl<|JI rfl<|Jv rfl<|Jn<|J0 ?_
 refine aW (fun k:Nat=>k≤l.length∧aX l=aX (l.drop k)) (fun k=>[(8,.int .i64 k),(7,.int .i64 l.length),(6,.slice a l.length cp),(3,.int .i64 0)]) (fun _=>[]) (fun k=>l.length-k) ?_ ?_
 ·apply aI 0 ⟨Zi _,rfl⟩
  case hs1=>exact cg
  case ht=>(try simp only [Ze,Zf,Za]);exact .nil
 rintro k ⟨hk,hf⟩
 by_cases aM:k<l.length
 ·have cG:=ha (jC aM)
  have c0:w.cell? ⟨b,o+k*1,none⟩=some (.int .i64 l[k]):=(hc k _ (ib aM)).2 0 _ rfl
  have jv:=sF aM
  (refine Jr<|JA rfl<|Jn<|Jq<|Jd rfl fun az=>Jk<|Jq<|J0<|Jr<|ab (fM cG az) rfl<|ab (ag (.of rfl) (At.base c0 rfl)) rfl<|Ja rfl<|Ji<|Jv rfl<|Jv rfl<|JD rfl<|Jn<|gm rfl (fun az=>?_) fun az=>?_;refine Jr<|Jv rfl<|Ja rfl<|Jn<|Je<|Jm<|Jh<|Jh<|Jm<|Jh<|JT ?_;rotate_left;refine Jw<|Jj<|Jt<|Jg<|JB rfl (by omega)<|Jv rfl<|Jn ?_;rotate_right)
  ·rw [hf,jv,if_pos az]
  ·apply aK (k+1) ⟨by omega,by rw [hf,jv,if_neg az]⟩ (by omega)
   case hs1=>exact cg
   case ht=>(try simp only [Ze,Zf,Za]);exact .nil
 ·rw [List.drop_eq_nil_of_le (by omega)] at hf
  refine Jr<|JA rfl<|Jn<|Jq<|Jc rfl fun az=>Jp<|Jl<|Jo<|Jt<|Jr<|Jv rfl<|Ja rfl<|Jn<|Je<|JT ?_
  rw [hf];rfl
theorem yL {lv mv:Value} {l m:List Int} {w:World} (h:Rd w lv 1 (ints l)) (h':Rd w mv 1 (ints m)):aj Tryz.prog 236 [lv,mv] w (.int .i64 (lI l m)):=by
 obtain ⟨a,cp,b,o,rfl,dj,bV,ha,hc⟩:=h
 rw [c8] at *
 obtain ⟨a',SQ,b',o',rfl,oJ,OW,cG,VT⟩:=h'
 rw [c8] at *
 unfold maxLen at bV OW
 refine ah Tryz.func236 rfl rfl ?_
 refine Jr<|Ja rfl<|Jn<|Jq<|Jr<|Jv rfl<|JI rfl<|Jv rfl<|Jn<|J0 ?_
 refine aW (fun k:Nat=>k≤l.length∧k≤m.length∧lI l m=lI (l.drop k) (m.drop k)) (fun k=>[(11,.int .i64 k),(10,.int .i64 l.length),(9,.slice a l.length cp),(0,.slice a l.length cp),(1,.slice a' m.length SQ)]) (fun _=>[]) (fun k=>l.length-k) ?_ ?_
 ·apply aI 0 ⟨Zi _,Zi _,rfl⟩
  case hs1=>exact cg
  case ht=>(try simp only [Ze,Zf,Za]);exact .nil
 rintro k ⟨hk,rQ,hf⟩
 by_cases aM:k<l.length
 ·have lW:=ha (jC aM)
  have c0:w.cell? ⟨b,o+k*1,none⟩=some (.int .i64 l[k]):=(hc k _ (ib aM)).2 0 _ rfl
  by_cases nn:k<m.length
  ·have jD:=cG (jC nn)
   have c1:w.cell? ⟨b',o'+k*1,none⟩=some (.int .i64 m[k]):=(VT k _ (ib nn)).2 0 _ rfl
   have jv:=GR aM nn
   (refine Jr<|JA rfl<|Jn<|Jq<|Jd rfl fun az=>Jk<|Jq<|J0<|Jr<|Jv rfl<|ab (fM lW az) rfl<|ab (ag (.of rfl) (At.base c0 rfl)) rfl<|Ja rfl<|Ja rfl<|Jn<|Jq<|Jr<|Jv rfl<|Jv rfl<|JI rfl<|JG rfl<|Jn<|Jc rfl fun az=>Jk<|Jr<|Jv rfl<|Jv rfl<|ab (ar (.of rfl) (.of rfl) jD (by omega) (by omega) bb) rfl<|ab (ag (.of rfl) (At.base c1 rfl)) rfl<|Ja rfl<|Ji<|Jv rfl<|Jv rfl<|ai bj rfl (fun w' aA=>(Cq _ _ w'))<|Ja rfl<|Ji<|Jv rfl<|JD rfl<|Jn<|gm rfl (fun az=>?_) fun az=>?_;refine Jr<|Jv rfl<|Ja rfl<|Jn<|Je<|Jm<|Jh<|Jh<|Jm<|Jh<|JT ?_;rotate_left;refine Jw<|Jj<|Jt<|Jg<|JB rfl (by omega)<|Jv rfl<|Jn ?_;rotate_right)
   ·rw [hf,jv,if_pos az]
   ·apply aK (k+1) ⟨by omega,by omega,by rw [hf,jv,if_neg az]⟩ (by omega)
    case hs1=>exact cg
    case ht=>(try simp only [Ze,Zf,Za]);exact .nil
  ·rw [Zw aM,List.drop_eq_nil_of_le (show m.length≤k by omega)] at hf
   (refine Jr<|JA rfl<|Jn<|Jq<|Jd rfl fun az=>Jk<|Jq<|J0<|Jr<|Jv rfl<|ab (fM lW az) rfl<|ab (ag (.of rfl) (At.base c0 rfl)) rfl<|Ja rfl<|Ja rfl<|Jn<|Jq<|Jr<|Jv rfl<|Jv rfl<|JI rfl<|JG rfl<|Jn<|Jd rfl fun az=>Jr<|Ja rfl<|Jn<|Ju<|Jm<|Jh<|Jh<|Jm<|Jh<|JT ?_)
   rw [hf];rfl
 ·rw [List.drop_eq_nil_of_le (show l.length≤k by omega),KI,Zbd] at hf
  by_cases nn:k<m.length
  ·rw [if_pos (by omega)] at hf
   refine Jr<|JA rfl<|Jn<|Jq<|Jc rfl fun az=>Jp<|Jl<|Jo<|Jt<|Jq<|Jr<|Jv rfl<|JI rfl<|Jv rfl<|JI rfl<|JA rfl<|Jn<|Jd rfl fun az=>Jr<|Ja rfl<|Jn<|Ju<|JT ?_
   rw [hf]
  ·rw [if_neg (by omega)] at hf
   refine Jr<|JA rfl<|Jn<|Jq<|Jc rfl fun az=>Jp<|Jl<|Jo<|Jt<|Jq<|Jr<|Jv rfl<|JI rfl<|Jv rfl<|JI rfl<|JA rfl<|Jn<|Jc rfl fun az=>Jk<|Jr<|Ja rfl<|Jn<|Je<|JT ?_
   rw [hf]
def nI (r:Ro) (x:Ti):Int:=aX [fg r x.fr,fg r x.to,ch (decide (x.fr=x.to)) 24]
theorem N8 {r:Ro} {s d t p:Value} (x:Ti) {w w1:World} (h:RR w1 r s d t p):aj Tryz.prog 145 [RA r s d t p,.agg x.cells.toArray] w (.int .i64 (nI r x)):=by
 have h1:=Rd.one h.sr
 have h2:=Rd.one h.de
 have h3:=Rd.one h.ti
 have h4:=Rd.one h.po
 have Un:∀ m w',aj Tryz.prog 136 [.agg #[.int .i64 r.lv,.int .i64 r.ma,s,d,t,p],.int .i64 m] w' (.int .i64 (fg r m)):=fun m w'=>Fg m h
 unfold RA Ti.cells
 refine ah Tryz.func145 rfl rfl ?_
 (refine Jr<|Jy rfl rfl fun _ _=>Jy rfl rfl fun _ _=>Ja rfl<|Ji<|bS rfl rfl ae<|JL rfl .here rfl<|bS rfl rfl ae<|JL rfl .here rfl<|ab (aU (.cons (.of rfl) (.cons (.of rfl) .nil)) ak) rfl<|Jz rfl rfl fun _ _=>aq (.of rfl) (.of rfl) .here rfl rfl (fY rfl rfl) (bG rfl) ak<|Jn<|Jq ?_)
 with_reducible refine cZ 17 (by kernel_rfl) ?_
 (refine ao (cR bL) rfl<|ao kZ rfl<|ao (gT (.there .here)) rfl<|aY bj rfl (fun w' aA=>(Un _ w'))<|ao (cR bL) rfl<|ao kZ rfl<|ao (gT (.there .here)) rfl<|aY bj rfl (fun w' aA=>(Un _ w'))<|ao (cR .here) rfl<|ao kZ rfl<|ao (gT (.there .here)) rfl<|ao kZ rfl<|ao (gT (.there .here)) rfl<|ao (aU (.cons (.of rfl) (.cons (.of rfl) .nil)) ak) rfl<|ao (ue (.of rfl) (.of rfl) (jZ (jZ lT)) rfl) rfl<|aY bj rfl (fun w' aA=>(dV _ 24 w'))<|eB (aC (.cons (.of rfl) (.cons (.of rfl) (.cons (.of rfl) .nil))) rfl rfl rfl rfl) rfl rfl ?_)
 with_reducible refine dB rfl fun bq nq=>?_
 (refine ai bN rfl (fun w' aA=>(dO (Mem.dw aA .here rfl rfl) (bY.cons (bY.cons (bY.cons bY.nil)))))<|Ja rfl<|Jn<|Je<|JT ?_)
 have e:(decide True&&(decide (x.to=x.fr)&&true))=decide (x.fr=x.to):=by
  rw [Zba];simp [eq_comm]
 unfold nI
 rw [← e]
theorem uS {P:Program} {c:Cx} {sl:aH} {hs:List bd} {dst:Option Tmp} {ty:TypeId} {pos:String} {af:Array Edge} {g:Option (Nat×Bool)} {t kt et:TypeId} {x y:Operand} {b:Nat} {k:ByteArray} {l:List (ByteArray×Value)} {z V:Value} [hu:iV P t (.map kt et)] [GA:iV P kt .string] [hz:lZ P et z]
  (hx:Is sl x (.map (some b))) (hy:Is sl y (.string k)) (hl:Looks c hs b (fun s:ByteArray=>Value.string s) l) (e:(eD k l).getD z=V) :
  cY P c sl hs ⟨dst,.lookup t x y true,ty,pos,af,g⟩ (.tuple #[V,.bool (eD k l).isSome]):=e ▸ Dp IK hx hy hl
theorem Ig {r:Ro} (hd:CT r) (s:ByteArray):∃ (a b c:Int) (one:Bool),(eD s (oq r)).getD (lG 0 0 0)=lG a b c∧(eD s (oq r)).isSome=one∧(one=true→a=dX r s∧b=kC r s∧c=j7 r s)∧(one=false→kC r s<0∧j7 r s<0):=by
 rw [pY hd]
 cases h:jg (ef r) s with
 | true=>exact ⟨_,_,_,true,rfl,rfl,fun _=>⟨rfl,rfl,rfl⟩,fun h=>by cases h⟩
 | false =>
  refine ⟨0,0,0,false,rfl,rfl,(fun h=>by cases h),fun _=>?_⟩
  have hn:s ∉ ef r:=fun hm=>by rw [eV.2 hm] at h;cases h
  unfold ef at hn
  rw [Zx,Zx,not_or,not_or] at hn
  have e1:=cm.2 hn.1.1
  have e2:=cm.2 hn.1.2
  have e3:=cm.2 hn.2
  unfold kC j7
  rw [if_neg (by omega),if_neg (by omega),if_neg (by omega),if_neg (by omega)]
  omega
def mi (r:Ro) (x:Po):Int:=aX [gp x.lv 0 (r.lv-1),ch (decide (kC r x.ou<0)) 10,ch (decide (j7 r x.ip<0)) 10,ch (decide (kC r x.ou≠j7 r x.ip)) 24]
def Eh (r:Ro):Option Po→List Int
 | none=>[-1,-1]
 | some x=>[x.lv,dX r x.ou]
def Gi (r:Ro) (po:List Po) (k:Nat):Int:=
 match po[k]? with
 | none=>0
 | some x=>if mi r x≠0 then mi r x else if lI [x.lv,dX r x.ou] (Eh r (if k=0 then none else po[k-1]?))≤0 then 11 else 0
theorem rk {r:Ro} {po:List Po} {k:Nat} (h:k<po.length):Gi r po k=if mi r po[k]≠0 then mi r po[k] else if lI [po[k].lv,dX r po[k].ou] (Eh r (if k=0 then none else po[k-1]?))≤0 then 11 else 0:=by
 unfold Gi;rw [Zc h]
theorem ML {r:Ro} {x:Po} {a b c a' b' c':Int} {one two:Bool} (h1:one=true→a=dX r x.ou∧b=kC r x.ou∧c=j7 r x.ou) (h2:one=false→kC r x.ou<0∧j7 r x.ou<0)
  (h3:two=true→a'=dX r x.ip∧b'=kC r x.ip∧c'=j7 r x.ip) (h4:two=false→kC r x.ip<0∧j7 r x.ip<0) :
  aX [gp x.lv 0 (r.lv-1),ch (!one||decide (b<0)) 10,ch (!two||decide (c'<0)) 10,ch (decide (b≠c')) 24]=mi r x∧(mi r x=0→one=true):=by
 unfold mi
 cases one with
 | true =>
  obtain ⟨-,rfl,-⟩:=h1 rfl
  cases two with
  | true=>obtain ⟨-,-,rfl⟩:=h3 rfl;exact ⟨rfl,fun _=>rfl⟩
  | false =>
   have:=(h4 rfl).2
   refine ⟨?_,fun _=>rfl⟩
   simp [aX,ch,this]
 | false =>
  have:=(h2 rfl).1
  constructor
  ·simp [aX,ch,this]
  ·intro h
   simp [aX,ch,this] at h
   split at h <;> simp_all
def jM (r:Ro) (po:List Po):Int:=jE (Gi r po) po.length
theorem xl {r:Ro} {s d t p:Value} {w:World} (h:RR w r s d t p) (hd:CT r) (cT:r.de.length+r.ti.length≤1000000) (z7:Vp (r.lv-1)):aj Tryz.prog 146 [RA r s d t p] w (.int .i64 (jM r r.po)):=by
 have h1:=Rd.one h.sr
 have h2:=Rd.one h.de
 have h3:=Rd.one h.ti
 have h4:=Rd.one h.po
 have hp:=h.po
 obtain ⟨a,cp,b,o',rfl,dj,bV,ha,hc⟩:=hp
 rw [c6] at *
 unfold maxLen at bV
 unfold RA
 refine ah Tryz.func146 rfl rfl ?_
 refine Jr<|Jy rfl rfl fun _ _=>Ja rfl<|Ji<|ab (cR .here) rfl ?_
 refine JN bN rfl (fun w1 aR=>ES (h.keeps aR.keeps) cT) ?_
 intro bm _
 dsimp only [id_eq,Zb,Za]
 (refine Ja rfl<|Ji<|ab (aU (.cons (.of rfl) (.cons (.of rfl) .nil)) ak) rfl<|Jz rfl rfl fun _ _=>aq (.of rfl) (.of rfl) .here rfl rfl (fY rfl rfl) (bG rfl) ak<|Jn<|Jq<|Jr<|bS rfl rfl ae<|JL rfl bL rfl<|JI rfl<|Jv rfl<|Jn<|J0 ?_)
 rename_i b1 tw _ b4 wA
 refine aW (ι:=Nat×Int×Int) (fun x=>x.1≤r.po.length∧(∀ i,i<x.1→Gi r r.po i=0)∧[x.2.1,x.2.2]=Eh r (if x.1=0 then none else r.po[x.1-1]?))
  (fun x=>[(19,.int .i64 (x.1:Nat)),(18,.int .i64 r.po.length),(17,.slice a r.po.length cp),(4,.pointer (some ⟨b4,0,none⟩)),(3,.map (some bm)),(2,.int .i64 0),(1,.pointer (some ⟨b1,0,none⟩))])
  (fun x=>[bH b4 (.cells #[.int .i64 x.2.1,.int .i64 x.2.2] 299 (0,0)),mp (fun s:ByteArray=>Value.string s) bm (oq r),JP b1 r s d t (.slice a r.po.length cp)])
  (fun x=>r.po.length-x.1) ?_ ?_
 ·apply aI (0,-1,-1) ⟨Zi _,fun i h=>by omega,rfl⟩
  case hs1=>exact cg
  case ht=>(try simp only [Ze,Zf,Za]);exact .cons .here (.cons .here (.cons .here .nil))
 rintro ⟨k,l0,l1⟩ ⟨hk,hz,hl⟩
 dsimp only at hk hz hl ⊢
 by_cases aM:k<r.po.length
 ·have cG:=ha (ko aM)
  obtain ⟨gR,aB⟩:=hc k _ (iy aM)
  unfold Po.cells at aB
  have jv:=rk (r:=r) aM
  obtain ⟨o1,o2,o3,one,e1,e2,e3,e4⟩:=Ig hd (r.po[k]).ou
  obtain ⟨i1,i2,i3,two,q1,q2,q3,q4⟩:=Ig hd (r.po[k]).ip
  obtain ⟨v1,v2⟩:=ML e3 e4 q3 q4
  unfold lG at e1 q1
  (refine Jr<|JA rfl<|Jn<|Jq<|Jd rfl fun az=>Jk<|Jq<|J0<|Jr<|ab (fM cG az) rfl<|ab (gW (ew.base aB rfl)) rfl<|Jz rfl rfl fun _ _=>aq (.of rfl) (.of rfl) .here rfl rfl (fo rfl rfl rfl) (bG rfl) ak<|Ji<|Jv rfl<|bS rfl rfl ae<|JL rfl .here rfl ?_)
  refine ab (uS (.of rfl) (.of rfl) (Looks.mp bL) e1) rfl ?_
  rw [e2]
  (refine Jv rfl<|JJ rfl rfl<|JJ rfl rfl<|Jz rfl rfl fun _ _=>aq (.of rfl) (.of rfl) .here rfl rfl (fo rfl rfl rfl) (bG rfl) ak<|Ja rfl<|Ji<|Jv rfl<|bS rfl rfl ae<|JL rfl (.there .here) rfl ?_)
  refine ab (uS (.of rfl) (.of rfl) (Looks.mp cW) q1) rfl ?_
  rw [q2]
  (refine Jv rfl<|JJ rfl rfl<|JJ rfl rfl<|Jz rfl rfl fun _ _=>aq (.of rfl) (.of rfl) .here rfl rfl (fo rfl rfl rfl) (bG rfl) ak<|Ja rfl<|Jn<|Jq<|Jq ?_)
  with_reducible refine cZ 29 (by kernel_rfl) ?_
  (refine ao kZ rfl<|ao (gT bL) rfl<|ao kZ rfl<|ao (gT eX) rfl<|ao (uP (.of rfl) (.of rfl) z7) rfl<|aY eM rfl (fun w' aA=>(mu _ 0 _ w'))<|ao l7 rfl<|ao (dU (.of rfl)) rfl<|ao l7 rfl<|sP rfl rfl inferInstance (fun hg bA=>(au (.of rfl) ae)) rfl<|sP rfl rfl inferInstance (fun hg bA=>(ag (.bI hg rfl) (At.lit (.there .here) rfl))) rfl<|sP rfl rfl inferInstance (fun hg bA=>(lg (.bI hg rfl) (.of rfl))) rfl<|ao (a7 (.of rfl) rfl) rfl<|aY bj rfl (fun w' aA=>(dV _ 10 w'))<|ao l7 rfl<|ao (dU (.of rfl)) rfl<|ao l7 rfl<|sP rfl rfl inferInstance (fun hg bA=>(au (.of rfl) ae)) rfl<|sP rfl rfl inferInstance (fun hg bA=>(ag (.bI hg rfl) (At.lit .here rfl))) rfl<|sP rfl rfl inferInstance (fun hg bA=>(lg (.bI hg rfl) (.of rfl))) rfl<|ao (a7 (.of rfl) rfl) rfl<|aY bj rfl (fun w' aA=>(dV _ 10 w'))<|ao kZ rfl<|ao (gT (.there .here)) rfl<|ao kZ rfl<|ao (gT .here) rfl<|ao (fa (.of rfl) (.of rfl)) rfl<|aY bj rfl (fun w' aA=>(dV _ 24 w'))<|eB (aC (.cons (.of rfl) (.cons (.of rfl) (.cons (.of rfl) (.cons (.of rfl) .nil)))) rfl rfl rfl rfl) rfl rfl ?_)
  with_reducible refine dB rfl fun bq nq=>?_
  (refine ai bN rfl (fun w' aA=>(dO (Mem.dw aA .here rfl rfl) (bY.cons (bY.cons (bY.cons (bY.cons bY.nil))))))<|Ja rfl<|Ji<|Jv rfl<|JD rfl<|Jn<|gm rfl (fun az=>?_) fun az=>?_;refine Jr<|Jv rfl<|Ja rfl<|Jn<|Ju<|Jm<|Jh<|Jh<|Jm<|Jh<|JT ?_;rotate_left;refine Jk<|Jr<|bS rfl rfl ae<|JL rfl cW rfl<|bS rfl rfl ae<|JL rfl bL rfl<|ab (aU (.cons (.of rfl) (.cons (.of rfl) .nil)) ak) rfl<|Jz rfl rfl fun _ _=>aq (.of rfl) (.of rfl) .here rfl rfl (fY rfl rfl) (bG rfl) ak<|Jn<|Jq<|Jq ?_;rotate_right)
  ·rw [v1] at az ⊢
   have hb:jM r r.po=mi r r.po[k]:=(eW hz aM (by rw [jv,if_pos az];exact az)).trans (by rw [jv,if_pos az])
   rw [hb]
  rw [v1] at az
  have hE:mi r r.po[k]=0:=Zo.1 az
  obtain ⟨g1,g2,g3⟩:=e3 (v2 hE)
  rename_i KY Yh
  with_reducible refine dE 2 (by kernel_rfl) ?_
  (refine aF (ye (.of rfl)) rfl<|aF (ye (.of rfl)) rfl ?_)
  with_reducible refine dI ?_
  skip
  with_reducible apply ai
  case hr=>exact bj
  case hd=>rfl
  case hc=>
   intro w' aA
   have y1:Rd w' (.slice (some ⟨KY,0,none⟩) 2 2) 1 (ints [(r.po[k]).lv,o1]):=Mem.dw (b:=KY) (cs:=[.int .i64 (r.po[k]).lv,.int .i64 o1]) aA (by exact .here) rfl rfl
   have y2:Rd w' (.slice (some ⟨b4,0,none⟩) 2 2) 1 (ints [l0,l1]):=Mem.dw (b:=b4) (cs:=[.int .i64 l0,.int .i64 l1]) aA eX rfl rfl
   exact yL y1 y2
  rw [hE] at jv
  rw [if_neg (by decide),← g1,← hl] at jv
  (refine JF rfl<|Jn<|gm rfl (fun az=>?_) fun az=>?_;refine Jr<|Ja rfl<|Jn<|Ju<|Jm<|Jh<|Jh<|Jm<|Jh<|JT ?_;rotate_left;refine Jk<|Jg<|ab (cR .here) rfl<|aq (.of rfl) (.of rfl) eX rfl rfl (fY rfl rfl) (bG rfl) ak<|Jx<|Jj<|Jt<|Jg<|JB rfl (by omega)<|Jv rfl<|Jn ?_;rotate_right)
  ·rw [if_pos az] at jv
   have hb:jM r r.po=11:=(eW hz aM (by rw [jv];decide)).trans jv
   rw [hb]
  rw [if_neg az] at jv
  have IY:∀ i,i<k+1→Gi r r.po i=0:=fun i hi=>by
   by_cases e:i=k
   ·rw [e];exact jv
   ·exact hz i (by omega)
  apply aK (k+1,(r.po[k]).lv,o1) ⟨show k+1≤r.po.length by omega,IY,by
   show [(r.po[k]).lv,o1]=Eh r (if k+1=0 then none else r.po[k+1-1]?)
   rw [if_neg (by omega),Zas,Zc aM,g1];rfl⟩ (show r.po.length-(k+1)<r.po.length-k by omega)
  case hs1=>exact cg
  case ht=>(try simp only [Ze,Zf,Za]);exact .cons .here (.cons eX (.cons eX .nil))
 ·obtain rfl:k=r.po.length:=by omega
  have e:jM r r.po=0:=dS.2 hz
  rw [e]
  refine Jr<|JA rfl<|Jn<|Jq<|Jc rfl fun az=>Jp<|Jl<|Jo<|Jt<|Jr<|Ja rfl<|Jn<|Je<|JT ?_
  rfl
theorem PZ {r:Ro} {s d t p:Value} (x:Sr) {b1:Nat} {w:World} (h:RR w r s d t p) (hA:BR w b1 (RC r s d t p)) :
  aj Tryz.prog 135 [.agg x.cells.toArray,.pointer (some ⟨b1,0,none⟩)] w (.int .i64 (fg r x.mx)):=by
 have h1:=Rd.one h.sr
 have h2:=Rd.one h.de
 have h3:=Rd.one h.ti
 have h4:=Rd.one h.po
 have ke:∀ (j:Nat) (u:Value),[Value.int .i64 r.lv,.int .i64 r.ma,s,d,t,p][j]? = some u→w.cell? ⟨b1,0+j,none⟩=some u:=hA
 unfold Sr.cells
 refine ah Tryz.func135 rfl rfl ?_
 (refine Jr<|Jy rfl rfl fun _ _=>Ja rfl<|Ji<|ab (gW (ew.base ke rfl)) rfl<|bS rfl rfl ae<|JL rfl .here rfl ?_)
 refine ai bj rfl (fun w' aA=>Fg x.mx h) ?_
 refine Ja rfl<|Jn<|Je<|JT ?_
 rfl
theorem R1 {r:Ro} {s d t p:Value} (x:De) {b1:Nat} {w:World} (h:RR w r s d t p) (hA:BR w b1 (RC r s d t p)) :
  aj Tryz.prog 137 [.agg x.cells.toArray,.pointer (some ⟨b1,0,none⟩)] w (.int .i64 (fg r x.mx)):=by
 have h1:=Rd.one h.sr
 have h2:=Rd.one h.de
 have h3:=Rd.one h.ti
 have h4:=Rd.one h.po
 have ke:∀ (j:Nat) (u:Value),[Value.int .i64 r.lv,.int .i64 r.ma,s,d,t,p][j]? = some u→w.cell? ⟨b1,0+j,none⟩=some u:=hA
 unfold De.cells
 refine ah Tryz.func137 rfl rfl ?_
 (refine Jr<|Jy rfl rfl fun _ _=>Ja rfl<|Ji<|ab (gW (ew.base ke rfl)) rfl<|bS rfl rfl ae<|JL rfl .here rfl ?_)
 refine ai bj rfl (fun w' aA=>Fg x.mx h) ?_
 refine Ja rfl<|Jn<|Je<|JT ?_
 rfl
def jV (r:Ro) (q:Int→Bool):Bool:=(List.range r.lv.toNat).any fun i=>q (i:Nat)
def nj (r:Ro):Int:=aX [gp r.lv 1 3,gp r.ma 1 4]
def jQ (r:Ro):Int:=aX [fb 8 [] Sr.nm (fun x=>fg r x.mx) r.sr,fb 8 (cF r) De.nm (fun x=>fg r x.mx) r.de,fb 6 (cF r++cq r) Ti.nm (nI r) r.ti]
def zQ (r:Ro):Int:=aX [ch (jV r fun v=>r.ti.any (LB r v)) 33,ch (jV r fun v=>r.ti.any (Ir r v)) 32]
def fX (r:Ro):Int:=if nj r≠0 then nj r else if jQ r≠0 then jQ r else if jM r r.po≠0 then jM r r.po else zQ r
theorem ck1 {r:Ro} (h:nj r≠0):fX r=nj r:=by unfold fX;rw [if_pos h]
theorem YG {r:Ro} (h1:nj r=0) (h:jQ r≠0):fX r=jQ r:=by unfold fX;rw [if_neg (by rw [h1];decide),if_pos h]
theorem ck3 {r:Ro} (h1:nj r=0) (h2:jQ r=0) (h:jM r r.po≠0):fX r=jM r r.po:=by unfold fX;rw [if_neg (by rw [h1];decide),if_neg (by rw [h2];decide),if_pos h]
theorem ck4 {r:Ro} (h1:nj r=0) (h2:jQ r=0) (h3:jM r r.po=0):fX r=zQ r:=by unfold fX;rw [if_neg (by rw [h1];decide),if_neg (by rw [h2];decide),if_neg (by rw [h3];decide)]
theorem Wr {r:Ro} (h:fb 8 [] Sr.nm (fun x=>fg r x.mx) r.sr≠0):jQ r=fb 8 [] Sr.nm (fun x=>fg r x.mx) r.sr:=by unfold jQ aX;rw [if_pos h]
theorem Wq {r:Ro} (h1:fb 8 [] Sr.nm (fun x=>fg r x.mx) r.sr=0) (h:fb 8 (cF r) De.nm (fun x=>fg r x.mx) r.de≠0):jQ r=fb 8 (cF r) De.nm (fun x=>fg r x.mx) r.de:=by unfold jQ aX aX;rw [if_neg (by rw [h1];decide),if_pos h]
theorem Vs {r:Ro} (h1:fb 8 [] Sr.nm (fun x=>fg r x.mx) r.sr=0) (h2:fb 8 (cF r) De.nm (fun x=>fg r x.mx) r.de=0):jQ r=aX [fb 6 (cF r++cq r) Ti.nm (nI r) r.ti]:=by unfold jQ;rw [aX,if_neg (by rw [h1];decide),aX,if_neg (by rw [h2];decide)]
theorem rh {α:Type} {qd:Int} {bf:List ByteArray} {nm:α→ByteArray} {ck:α→Int} {l:List α} (hb:bf.Nodup) (h:fb qd bf nm ck l=0):(bf++l.map nm).Nodup∧(l.length:Int)≤qd∧∀ x∈l,ck x=0:=by
 unfold fb at h
 split at h
 ·cases h
 rename_i hl
 rw [dS] at h
 have hk:∀ k,k≤l.length→(bf++(l.take k).map nm).Nodup∧∀ x∈l.take k,ck x=0:=by
  intro k
  induction k with
  | zero=>intro _;simpa using hb
  | succ k ih =>
   intro hk
   obtain ⟨i1,i2⟩:=ih (by omega)
   have:=h k (by omega)
   rw [oo (by omega)] at this
   rw [cy] at this
   have h9:jg (bf++(l.take k).map nm) (nm l[k])=false∧ck l[k]=0:=⟨(bO (show (9:Int)≠0 by decide)).1 (this _ (ZW _ Zq)),this _ (ZW _ (ZW _ Zq))⟩
   rw [Zn (by omega),Zs,← Zh]
   refine ⟨?_,?_⟩
   ·rw [ZH]
    refine ⟨i1,by simp,fun x hx y hy e=>?_⟩
    rw [Z8,Zf,ZB] at hy
    subst hy;subst e
    rw [eV.2 hx] at h9
    cases h9.1
   ·intro x hx
    rcases Zx.1 hx with hx | hx
    ·exact i2 x hx
    ·rw [ZB.1 hx];exact h9.2
 have:=hk _ (Zz _)
 rw [ZN] at this
 exact ⟨this.1,by omega,this.2⟩
theorem zF {r:Ro} (h:jQ r=0):CT r∧(r.sr.length≤8∧r.de.length≤8∧r.ti.length≤6)∧(∀ x∈r.sr,fg r x.mx=0)∧(∀ x∈r.de,fg r x.mx=0)∧∀ x∈r.ti,nI r x=0:=by
 unfold jQ at h
 have h3:fb 8 [] Sr.nm (fun x=>fg r x.mx) r.sr=0∧fb 8 (cF r) De.nm (fun x=>fg r x.mx) r.de=0∧fb 6 (cF r++cq r) Ti.nm (nI r) r.ti=0:=by
  rw [cy] at h
  exact ⟨h _ (by simp),h _ (by simp),h _ (by simp)⟩
 obtain ⟨h4,h5,h6⟩:=rh Zaj h3.1
 rw [Za] at h4
 obtain ⟨h7,h8,h9⟩:=rh (show (cF r).Nodup from h4) h3.2.1
 obtain ⟨g7,g8,g9⟩:=rh (show (cF r++cq r).Nodup from h7) h3.2.2
 exact ⟨⟨g7⟩,⟨by omega,by omega,by omega⟩,h6,h9,g9⟩
theorem vh {r:Ro} (h:nj r=0):1≤r.lv∧r.lv≤3∧1≤r.ma∧r.ma≤4:=by
 unfold nj at h
 rw [cy] at h
 have h1:=gn.1 (h _ (Zq))
 have h2:=gn.1 (h _ (ZW _ Zq))
 omega
theorem eH {r:Ro} {s d t p:Value} {w:World} (h:RR w r s d t p) (cT:r.sr.length≤300∧r.de.length≤300∧r.ti.length≤300):aj Tryz.prog 34 [RA r s d t p] w (.int .i64 (fX r)):=by
 have h1:=Rd.one h.sr
 have h2:=Rd.one h.de
 have h3:=Rd.one h.ti
 have h4:=Rd.one h.po
 unfold RA
 refine ah Tryz.func34 rfl rfl ?_
 refine Jr<|Jy rfl rfl fun _ _=>Ja rfl<|Jn<|Jq<|Jq ?_
 rename_i b1 tw
 with_reducible refine cZ 7 (by kernel_rfl) ?_
 (refine ao kZ rfl<|ao (gT .here) rfl<|aY eM rfl (fun w' aA=>(mu _ 1 3 w'))<|ao kZ rfl<|ao (gT .here) rfl<|aY eM rfl (fun w' aA=>(mu _ 1 4 w'))<|eB (aC (.cons (.of rfl) (.cons (.of rfl) .nil)) rfl rfl rfl rfl) rfl rfl ?_)
 with_reducible refine dB rfl fun bq nq=>?_
 (refine ai bN rfl (fun w' aA=>(dO (Mem.dw aA .here rfl rfl) (bY.cons (bY.cons bY.nil))))<|Ja rfl<|Ji<|Jv rfl<|JD rfl<|Jn<|gm rfl (fun az=>?_) fun az=>?_;refine Jr<|Jv rfl<|Ja rfl<|Jn<|Ju<|JT ?_;rotate_left;refine Jk<|Jr<|ab (bC .nil (.cons (.of rfl) .nil)) rfl<|Ja rfl<|Ji<|ab (bC .nil (.cons (.of rfl) .nil)) rfl<|Ja rfl<|Jn<|Jq<|Jr<|bS rfl rfl ae<|JL rfl (.there .here) rfl<|Jv rfl ?_;rotate_right)
 ·exact congrArg (Value.int .i64) (ck1 az).symm
 have qk:nj r=0:=Zo.1 az
 have hl:=vh qk
 clear az
 have JV:∀ w',Rd w' (.slice none 0 0) 1 (im []):=fun w'=>⟨none,0,0,0,rfl,by simp [im],by unfold maxLen;omega,fun h=>absurd rfl h,fun i r hr=>by simp [im] at hr⟩
 with_reducible apply ai
 case hr=>exact Lf
 case hd=>rfl
 case hc=>
  intro w' aA
  have hA:BR w' b1 [.int .i64 r.lv,.int .i64 r.ma,s,d,t,p]:=BR.of aA (by exact Take.there .here)
  have hR:=h.keeps aA.keeps
  exact Ct (bf:=[]) 8 (f2:=135) (first2:=[]) (cap:=[.pointer (some ⟨b1,0,none⟩)]) hR.sr (JV _) (by rw [Zai];omega) (fun x _ w2 _=>Ix x w2) (fun x _ w2 eF=>PZ x (hR.keeps eF) (hA.keeps eF))
 (refine Ja rfl<|Ji<|Jv rfl<|JD rfl<|Jn<|gm rfl (fun az=>?_) fun az=>?_;refine Jr<|Jv rfl<|Ja rfl<|Jn<|Ju<|JT ?_;rotate_left;refine Jk<|Jr<|bS rfl rfl ae<|JL rfl (.there .here) rfl ?_;rotate_right)
 ·have hp:=Wr az
  rw [← hp] at az ⊢
  exact congrArg (Value.int .i64) (YG qk az).symm
 have p1:fb 8 [] Sr.nm (fun x=>fg r x.mx) r.sr=0:=Zo.1 az
 clear az
 have q1:=rh Zaj p1
 refine JN bj rfl (fun w1 aR=>M3 (f:=139) (first:=[]) (cap:=[]) (g:=Sr.nm) (h.keeps aR.keeps).sr (by omega) (fun x _ w2 _=>Ix x w2)) ?_
 intro nv _
 dsimp only [id_eq,Zb,Za]
 refine aT (by exact .here) fun na nc e=>?_
 subst e
 (refine Ja rfl<|Jn<|Jq<|Jr<|bS rfl rfl ae<|JL rfl bL rfl<|Jv rfl<|Jv rfl ?_)
 with_reducible apply ai
 case hr=>exact Lf
 case hd=>rfl
 case hc=>
  intro w' aA
  have hA:BR w' b1 [.int .i64 r.lv,.int .i64 r.ma,s,d,t,p]:=BR.of aA bL
  have hR:=h.keeps aA.keeps
  have hN:Rd w' (.slice na r.sr.length nc) 1 (im (r.sr.map Sr.nm)):=dM aA (by exact .here) (by rw [Zd])
  exact Cu (bf:=cF r) 8 (f2:=137) (first2:=[]) (cap:=[.pointer (some ⟨b1,0,none⟩)]) hR.de hN (by unfold cF;rw [Zd];omega) (fun x _ w2 _=>DE x w2) (fun x _ w2 eF=>R1 x (hR.keeps eF) (hA.keeps eF))
 (refine Ja rfl<|Ji<|Jv rfl<|JD rfl<|Jn<|gm rfl (fun az=>?_) fun az=>?_;refine Jr<|Jv rfl<|Ja rfl<|Jn<|Ju<|JT ?_;rotate_left;refine Jk<|Jr<|Jv rfl<|bS rfl rfl ae<|JL rfl bL rfl ?_;rotate_right)
 ·have hp:=Wq p1 az
  rw [← hp] at az ⊢
  exact congrArg (Value.int .i64) (YG qk az).symm
 have p2:fb 8 (cF r) De.nm (fun x=>fg r x.mx) r.de=0:=Zo.1 az
 clear az
 have q2:=rh (show (cF r).Nodup from q1.1) p2
 refine JN bj rfl (fun w1 aR=>E0 (f:=124) (first:=[]) (cap:=[]) (g:=De.nm) (h.keeps aR.keeps).de (by omega) (fun x _ w2 _=>DE x w2)) ?_
 intro dv _
 dsimp only [id_eq,Zb,Za]
 refine aT (by exact .here) fun da dc e=>?_
 subst e
 refine br (aC (.cons (.of rfl) (.cons (.of rfl) .nil)) rfl rfl rfl rfl) rfl (fun _ _=>?_)
 rename_i bq2 afo
 with_reducible apply jw
 case hr=>exact bN
 case hd=>rfl
 case ht=>exact bD.nil
 case hc=>
  intro w1 fp aR _ hs1
  obtain rfl:fp=[]:=hs1
  have hN:Rd w1 (.slice na r.sr.length nc) 1 (im (r.sr.map Sr.nm)):=dM aR bL (by rw [Zd])
  have hD:Rd w1 (.slice da r.de.length dc) 1 (im (r.de.map De.nm)):=dM aR (by exact Take.there .here) (by rw [Zd])
  exact GQ (vs:=[.slice na r.sr.length nc,.slice da r.de.length dc]) (ess:=[r.sr.map Sr.nm,r.de.map De.nm]) (Mem.dw (b:=bq2) aR (by exact .here) rfl rfl) rfl
   (fun i v es hv he=>by
    match i,hv,he with
    | 0,hv,he=>cases hv;cases he;exact hN
    | 1,hv,he=>cases hv;cases he;exact hD) (by simp;omega)
 intro av _
 dsimp only [id_eq,Zb,Za]
 (refine Ja rfl<|Jn<|Jq<|Jr<|bS rfl rfl ae<|JL rfl eX rfl<|Jv rfl<|ab (cR eX) rfl<|ab (bC (.cons (.of rfl) .nil) .nil) rfl ?_)
 have sy:[r.sr.map Sr.nm,r.de.map De.nm].flatten=cF r++cq r:=by simp [cF,cq]
 with_reducible apply ai
 case hr=>exact Lf
 case hd=>rfl
 case hc=>
  intro w' aA
  have hR:=h.keeps aA.keeps
  have hB:Rd w' av 1 (im [r.sr.map Sr.nm,r.de.map De.nm].flatten):=aA.om (by exact .here) rfl (HB _) (by rw [bW])
  rw [sy] at hB
  exact Cs (bf:=cF r++cq r) 6 (f2:=145) (first2:=[RA r s d t p]) (cap:=[]) hR.ti hB (by unfold cF cq;rw [Zg,Zd,Zd];omega) (fun x _ w2 _=>Iw x w2) (fun x _ w2 eF=>N8 x h)
 (refine br (aC (.cons (.of rfl) .nil) rfl rfl rfl rfl) rfl fun _ _=>ai bN rfl (fun w' aA=>(dO (Mem.dw aA .here rfl rfl) (bY.cons bY.nil)))<|Ja rfl<|Ji<|Jv rfl<|JD rfl<|Jn<|gm rfl (fun az=>?_) fun az=>?_;refine Jr<|Jv rfl<|Ja rfl<|Jn<|Ju<|JT ?_;rotate_left;refine Jk<|Jq<|Jr<|ab (cR pz) rfl ?_;rotate_right)
 ·have hp:jQ r≠0:=by rw [Vs p1 p2];exact az
  exact congrArg (Value.int .i64) ((Vs p1 p2).symm.trans (YG qk hp).symm)
 have JO:jQ r=0:=by rw [Vs p1 p2];exact Zo.1 az
 obtain ⟨kQ,hlen,-⟩:=zF JO
 clear az
 refine ai bN rfl (fun w' aA=>xl (h.keeps aA.keeps) kQ (by omega) (by unfold Vp;omega)) ?_
 (refine Ja rfl<|Ji<|Jv rfl<|JD rfl<|Jn<|gm rfl (fun az=>?_) fun az=>?_;refine Jr<|Jv rfl<|Ja rfl<|Jn<|Ju<|JT ?_;rotate_left;refine Jk<|Jq ?_;rotate_right)
 ·exact congrArg (Value.int .i64) (ck3 qk JO az).symm
 have QX:jM r r.po=0:=Zo.1 az
 clear az
 rw [ck4 qk JO QX]
 have UB:∀ w',aJ [] w w'→aj Tryz.prog 148 [.agg #[.int .i64 r.lv,.int .i64 r.ma,s,d,t,p],.func (.func 149) #[.agg #[.int .i64 r.lv,.int .i64 r.ma,s,d,t,p]] #[]] w' (.bool (jV r fun v=>r.ti.any (LB r v))):=fun w' hk=>
  PA (f:=149) (first:=[RA r s d t p]) (cap:=[]) h (by omega) (fun v _ _ w2 eF=>N4 v ((h.keeps hk).keeps eF) (by omega))
 have UA:∀ w',aJ [] w w'→aj Tryz.prog 148 [.agg #[.int .i64 r.lv,.int .i64 r.ma,s,d,t,p],.func (.func 150) #[.agg #[.int .i64 r.lv,.int .i64 r.ma,s,d,t,p]] #[]] w' (.bool (jV r fun v=>r.ti.any (Ir r v))):=fun w' hk=>
  PA (f:=150) (first:=[RA r s d t p]) (cap:=[]) h (by omega) (fun v _ _ w2 eF=>Qn v ((h.keeps hk).keeps eF))
 with_reducible refine cZ 11 (by kernel_rfl) ?_
 (refine ao (cR pz) rfl<|ao (cR pz) rfl<|ao (bC (.cons (.of rfl) .nil) .nil) rfl<|aY bj rfl (fun w' aA=>(UB w' (Mem.keeps aA)))<|aY bj rfl (fun w' aA=>(dV _ 33 w'))<|ao (cR pz) rfl<|ao (cR pz) rfl<|ao (bC (.cons (.of rfl) .nil) .nil) rfl<|aY bj rfl (fun w' aA=>(UA w' (Mem.keeps aA)))<|aY bj rfl (fun w' aA=>(dV _ 32 w'))<|eB (aC (.cons (.of rfl) (.cons (.of rfl) .nil)) rfl rfl rfl rfl) rfl rfl ?_)
 with_reducible refine dB rfl fun bq nq=>?_
 (refine ai bN rfl (fun w' aA=>(dO (Mem.dw aA .here rfl rfl) (bY.cons (bY.cons bY.nil))))<|Ja rfl<|Jn<|Je<|JT ?_)
 rfl
theorem BZ {α:Type} (nm:α→ByteArray) (l:List α) (s:ByteArray):fT (fun x=>decide (nm x=s)) l=bE (l.map nm) s:=by
 rcases pe (fun x=>decide (nm x=s)) l with ⟨e1,e2⟩ | ⟨i,hi,e1,e2⟩
 ·rw [e1]
  refine (Ah fun j hj e=>?_).symm
  rw [ZaJ] at e2
  rw [Z1] at e
  exact e2 _ (Zj _) (by simpa using e)
 ·rw [e1]
  rw [ZaB] at e2
  obtain ⟨hp,k,hk,he,hb⟩:=e2
  have VO:i=k:=by
   have h1:fT (fun x=>decide (nm x=s)) l=(k:Nat):=gy (fun j hj=>by
    rw [Zc (by omega)]
    have:=hb j hj
    simpa using this) hk (by rw [he];exact hp)
   rw [e1] at h1
   exact_mod_cast h1
  subst VO
  refine (qt (by rw [Zd];exact hi) (by rw [Z1];simpa using hp) fun j hj e=>?_).symm
  rw [Z1] at e
  have:=hb j hj
  simp [e] at this
theorem RZ (x:De) (o:ByteArray) {b2:Nat} {w:World} (f2:w.cell? ⟨b2,0,none⟩=some (.string o)) :
  aj Tryz.prog 243 [.agg x.cells.toArray,.pointer (some ⟨b2,0,none⟩)] w (.bool (decide (x.nm=o))):=by
 unfold De.cells
 refine ah Tryz.func243 rfl rfl ?_
 (refine Jr<|Jy rfl rfl fun _ _=>Ja rfl<|Ji<|bS rfl rfl ae<|JL rfl .here rfl<|ab (ag (.of rfl) (At.base f2 rfl)) rfl<|ab (dG (.of rfl) (.of rfl)) rfl<|Ja rfl<|Jn<|Je<|JT ?_)
 rfl
theorem PY (x:Sr) (o:ByteArray) {b2:Nat} {w:World} (f2:w.cell? ⟨b2,0,none⟩=some (.string o)) :
  aj Tryz.prog 264 [.agg x.cells.toArray,.pointer (some ⟨b2,0,none⟩)] w (.bool (decide (x.nm=o))):=by
 unfold Sr.cells
 refine ah Tryz.func264 rfl rfl ?_
 (refine Jr<|Jy rfl rfl fun _ _=>Ja rfl<|Ji<|bS rfl rfl ae<|JL rfl .here rfl<|ab (ag (.of rfl) (At.base f2 rfl)) rfl<|ab (dG (.of rfl) (.of rfl)) rfl<|Ja rfl<|Jn<|Je<|JT ?_)
 rfl
theorem fL {r:Ro} {s d t p:Value} (o:ByteArray) {w:World} (h:RR w r s d t p):aj Tryz.prog 155 [RA r s d t p,.string o] w (.int .i64 (bE (cq r) o)):=by
 have h1:=Rd.one h.sr
 have h2:=Rd.one h.de
 have h3:=Rd.one h.ti
 have h4:=Rd.one h.po
 unfold RA
 refine ah Tryz.func155 rfl rfl ?_
 (refine Jr<|Jy rfl rfl fun _ _=>Jy rfl rfl fun _ _=>Ja rfl<|Ji<|bS rfl rfl ae<|JL rfl (.there .here) rfl<|ab (bC .nil (.cons (.of rfl) .nil)) rfl ?_)
 rename_i b3 vI b4 wA
 with_reducible apply ai
 case hr=>exact bj
 case hd=>rfl
 case hc=>
  intro w' aA
  have f2:w'.cell? ⟨b4,0,none⟩=some (.string o):=At.lit (by exact .here) rfl w' aA
  exact Nl (f:=243) (p:=fun x=>decide (x.nm=o)) (first:=[]) (cap:=[.pointer (some ⟨b4,0,none⟩)]) (h.keeps aA.keeps).de
   (fun x hx w2 eF=>RZ x o (cu f2 rfl eF))
 rw [BZ]
 refine Ja rfl<|Jn<|Je<|JT ?_
 rfl
theorem n9 {r:Ro} {s d t p:Value} (o:ByteArray) {w:World} (h:RR w r s d t p):aj Tryz.prog 180 [RA r s d t p,.string o] w (.int .i64 (bE (cF r) o)):=by
 have h1:=Rd.one h.sr
 have h2:=Rd.one h.de
 have h3:=Rd.one h.ti
 have h4:=Rd.one h.po
 unfold RA
 refine ah Tryz.func180 rfl rfl ?_
 (refine Jr<|Jy rfl rfl fun _ _=>Jy rfl rfl fun _ _=>Ja rfl<|Ji<|bS rfl rfl ae<|JL rfl (.there .here) rfl<|ab (bC .nil (.cons (.of rfl) .nil)) rfl ?_)
 rename_i b3 vI b4 wA
 with_reducible apply ai
 case hr=>exact bj
 case hd=>rfl
 case hc=>
  intro w' aA
  have f2:w'.cell? ⟨b4,0,none⟩=some (.string o):=At.lit (by exact .here) rfl w' aA
  exact Fb (f:=264) (p:=fun x=>decide (x.nm=o)) (first:=[]) (cap:=[.pointer (some ⟨b4,0,none⟩)]) (h.keeps aA.keeps).sr
   (fun x hx w2 eF=>PY x o (cu f2 rfl eF))
 rw [BZ]
 refine Ja rfl<|Jn<|Je<|JT ?_
 rfl
def CN (r:Ro) (v:Int):Int:=gp v 0 (IntKind.i64.wrap (r.lv-1))
def ph (r:Ro) (o:ByteArray):Int:=ch (decide (bE (cq r) o<0)) 10
def P2 (r:Ro) (o:ByteArray):Int:=ch (decide (bE (cF r) o<0)) 10
theorem kT {r:Ro} {s d t p:Value} (v:Int) {w w1:World} (h:RR w1 r s d t p):aj Tryz.prog 114 [RA r s d t p,.int .i64 v] w (.int .i64 (CN r v)):=by
 have h1:=Rd.one h.sr
 have h2:=Rd.one h.de
 have h3:=Rd.one h.ti
 have h4:=Rd.one h.po
 unfold RA
 refine ah Tryz.func114 rfl rfl ?_
 (refine Jr<|Jy rfl rfl fun _ _=>Ja rfl<|Ji<|Jv rfl<|bS rfl rfl ae<|JL rfl .here rfl ?_)
 refine ab (Mz (.of rfl) (.of rfl)) rfl ?_
 (refine ai eM rfl (fun w' aA=>(mu v 0 _ w'))<|Ja rfl<|Jn<|Je<|JT ?_)
 rfl
theorem eA {r:Ro} {s d t p:Value} (o:ByteArray) {w:World} (h:RR w r s d t p):aj Tryz.prog 112 [RA r s d t p,.string o] w (.int .i64 (ph r o)):=by
 have h1:=Rd.one h.sr
 have h2:=Rd.one h.de
 have h3:=Rd.one h.ti
 have h4:=Rd.one h.po
 have w9:∀ w',aJ [] w w'→aj Tryz.prog 155 [.agg #[.int .i64 r.lv,.int .i64 r.ma,s,d,t,p],.string o] w' (.int .i64 (bE (cq r) o)):=fun w' hk=>fL o (h.keeps hk)
 unfold RA
 refine ah Tryz.func112 rfl rfl ?_
 (refine Jr<|Jy rfl rfl fun _ _=>Ja rfl<|Ji<|ab (cR .here) rfl<|Jv rfl<|ai bj rfl (fun w' aA=>(w9 w' (Mem.keeps aA)))<|JA rfl<|ai bj rfl (fun w' aA=>(dV _ 10 w'))<|Ja rfl<|Jn<|Je<|JT ?_)
 rfl
theorem pP {r:Ro} {s d t p:Value} (o:ByteArray) {w:World} (h:RR w r s d t p):aj Tryz.prog 122 [RA r s d t p,.string o] w (.int .i64 (P2 r o)):=by
 have h1:=Rd.one h.sr
 have h2:=Rd.one h.de
 have h3:=Rd.one h.ti
 have h4:=Rd.one h.po
 have hsrc:∀ w',aJ [] w w'→aj Tryz.prog 180 [.agg #[.int .i64 r.lv,.int .i64 r.ma,s,d,t,p],.string o] w' (.int .i64 (bE (cF r) o)):=fun w' hk=>n9 o (h.keeps hk)
 unfold RA
 refine ah Tryz.func122 rfl rfl ?_
 (refine Jr<|Jy rfl rfl fun _ _=>Ja rfl<|Ji<|ab (cR .here) rfl<|Jv rfl<|ai bj rfl (fun w' aA=>(hsrc w' (Mem.keeps aA)))<|JA rfl<|ai bj rfl (fun w' aA=>(dV _ 10 w'))<|Ja rfl<|Jn<|Je<|JT ?_)
 rfl
def bo (r:Ro) (o:ByteArray):List ByteArray:=(List.range r.lv.toNat).map fun (v:Nat)=>jG r v o
theorem vE {r:Ro} {s d t p:Value} (o:ByteArray) {w:World} (h:RR w r s d t p) (z7:r.lv≤1000) (cT:r.ti.length≤1000000):bu Tryz.prog 113 [RA r s d t p,.string o] w [] (fun _:Value=>True) id (fun v=>[row 9 1 v r.lv.toNat (aL (bo r o))]):=by
 have h1:=Rd.one h.sr
 have h2:=Rd.one h.de
 have h3:=Rd.one h.ti
 have h4:=Rd.one h.po
 unfold RA
 refine aS Tryz.func113 rfl rfl ?_
 (refine Jr<|Jy rfl rfl fun _ _=>Ja rfl<|Ji<|Ja rfl<|Jn<|Jq<|Jr<|bS rfl rfl ae<|JL rfl .here rfl<|Jv rfl<|Jn<|J0 ?_)
 rename_i b2 tL
 refine aQ 9 1 ?_
 refine aW (ι:=Nat×Value) (fun x=>x.1≤r.lv.toNat)
  (fun x=>[(9,.int .i64 (x.1:Nat)),(8,.int .i64 r.lv),(5,x.2),(2,.pointer (some ⟨b2,0,none⟩)),(1,.string o)])
  (fun x=>[row 9 1 x.2 x.1 (aL ((bo r o).take x.1)),JP b2 r s d t p]) (fun x=>r.lv.toNat-x.1) ?_ ?_
 ·apply aI (0,.slice none 0 0) (Zi _)
  case hs1=>exact cg
  case ht=>
   exact .cons .here (.cons .here .nil)
 rintro ⟨k,v⟩ hk
 dsimp only at hk ⊢
 by_cases aM:k<r.lv.toNat
 ·have Fe:((k:Nat):Int)<r.lv:=by omega
  have htk:(bo r o).take (k+1)=(bo r o).take k++[jG r (k:Nat) o]:=by
   unfold bo
   rw [Zn (by simpa using aM)]
   simp
  have bh:aL ((bo r o).take (k+1))=aL ((bo r o).take k)++[.string (jG r (k:Nat) o)]:=by rw [htk,eU];rfl
  have hlen:(aL ((bo r o).take k)).length=k*1:=by
   rw [c7,Zr];unfold bo;rw [Zd,ZaN];omega
  (refine Jr<|JA rfl<|Jn<|Jq<|Jd rfl fun az=>Jk<|Jq<|J0<|Jr<|Jv rfl<|Ja rfl<|Jn<|Jg<|Jv rfl<|ab (cR (.there .here)) rfl<|Jv rfl<|Jv rfl ?_)
  refine ai eM rfl (fun w' aA=>pq (s:=s) (d:=d) (t:=t) (p:=p) (k:Nat) o (h.keeps aA.keeps) cT) ?_
  refine br (aC (.cons (.of rfl) .nil) rfl rfl rfl rfl) rfl (fun _ _=>?_)
  refine bF (.of rfl) (.of rfl) (.there .here) .here ak (by rfl) (en rfl) (by rfl) (by rfl) (by rfl) eC (by rfl) ?_
  intro v'
  refine Ja rfl<|Jx<|Jj<|Jt<|Jg<|JB rfl (by omega)<|Jv rfl<|Jn ?_
  apply aK (k+1,v') (by show k+1≤r.lv.toNat;omega) (by show r.lv.toNat-(k+1)<r.lv.toNat-k;omega)
  case hs1=>exact cg
  case ht=>
   show bD _ [row 9 1 v' (k+1) (aL ((bo r o).take (k+1))),JP b2 r s d t p] _
   rw [bh]
   exact .cons .here (.cons (.there .here) .nil)
 ·have e:k=r.lv.toNat:=by omega
  subst e
  have htk:(bo r o).take r.lv.toNat=bo r o:=Zal (by unfold bo;simp)
  rw [htk]
  refine Jr<|JA rfl<|Jn<|Jq<|Jc rfl fun az=>Jp<|Jl<|Jo<|Jt<|Jr<|Jv rfl<|Ja rfl<|Jn<|Je ?_
  first | with_reducible apply aO | with_reducible apply aP
  case he=>exact dH rfl rfl
  case hR=>
   intro w' aA
   exact aG v trivial (by exact .cons .here .nil) aA rfl
theorem qC {r:Ro} {s d t p:Value} (v:Int) (o:ByteArray) {w:World} (h:RR w r s d t p):aj Tryz.prog 121 [RA r s d t p,.int .i64 v,.string o] w (.bool (gV r.po v o)):=by
 have h1:=Rd.one h.sr
 have h2:=Rd.one h.de
 have h3:=Rd.one h.ti
 have h4:=Rd.one h.po
 unfold RA
 refine ah Tryz.func121 rfl rfl ?_
 (refine Jr<|Jy rfl rfl fun _ _=>Ja rfl<|Ji<|ab (cR .here) rfl<|Jv rfl<|Jv rfl ?_)
 refine ai eM rfl (fun w' aA=>zU (s:=s) (d:=d) (t:=t) (p:=p) v o (h.keeps aA.keeps)) ?_
 refine Jv rfl<|JJ rfl rfl<|JJ rfl rfl<|Ja rfl<|Ja rfl<|Ji<|Jv rfl<|Ja rfl<|Jn<|Je<|JT ?_
 rfl
def lD (r:Ro):Prop:=r.sr.length≤300∧r.de.length≤300∧r.ti.length≤300
theorem sL {r:Ro} (h:fX r=0):nj r=0∧jQ r=0∧jM r r.po=0∧zQ r=0:=by
 unfold fX at h
 by_cases h1:nj r=0
 ·rw [if_neg (by rw [h1];decide)] at h
  by_cases h2:jQ r=0
  ·rw [if_neg (by rw [h2];decide)] at h
   by_cases h3:jM r r.po=0
   ·rw [if_neg (by rw [h3];decide)] at h
    exact ⟨h1,h2,h3,h⟩
   ·rw [if_pos h3] at h;exact absurd h h3
  ·rw [if_pos h2] at h;exact absurd h h2
 ·rw [if_pos h1] at h;exact absurd h h1
def B4 (r:Ro) (o:ByteArray):Int:=aX [fX r,ph r o]
def DS (r:Ro) (o:ByteArray):List ByteArray:=if B4 r o≠0 then [] else bo r o
theorem Sn {r:Ro} {s d t p:Value} (o:ByteArray) {w:World} (h:RR w r s d t p) (cT:lD r):bu Tryz.prog 20 [RA r s d t p,.string o] w [] (fun _:Value=>True) (fun v=>.tuple #[v,.int .i64 (B4 r o)]) (fun v=>[row 9 1 v (DS r o).length (aL (DS r o))]):=by
 have h1:=Rd.one h.sr
 have h2:=Rd.one h.de
 have h3:=Rd.one h.ti
 have h4:=Rd.one h.po
 have eQ:∀ w',aJ [] w w'→aj Tryz.prog 34 [.agg #[.int .i64 r.lv,.int .i64 r.ma,s,d,t,p]] w' (.int .i64 (fX r)):=fun w' hk=>eH (h.keeps hk) cT
 have mq:∀ w',aJ [] w w'→aj Tryz.prog 112 [.agg #[.int .i64 r.lv,.int .i64 r.ma,s,d,t,p],.string o] w' (.int .i64 (ph r o)):=fun w' hk=>eA o (h.keeps hk)
 unfold RA
 refine aS Tryz.func20 rfl rfl ?_
 refine Jr<|Jy rfl rfl fun _ _=>Ja rfl<|Ja rfl<|Jn<|Jq<|Jq ?_
 rename_i b2 tL
 with_reducible refine cZ 6 (by kernel_rfl) ?_
 (refine ao (cR .here) rfl<|aY bN rfl (fun w' aA=>(eQ w' (Mem.keeps aA)))<|ao (cR .here) rfl<|ao l7 rfl<|aY bj rfl (fun w' aA=>(mq w' (Mem.keeps aA)))<|eB (aC (.cons (.of rfl) (.cons (.of rfl) .nil)) rfl rfl rfl rfl) rfl rfl ?_)
 with_reducible refine dB rfl fun bq nq=>?_
 (refine ai bN rfl (fun w' aA=>(dO (Mem.dw aA .here rfl rfl) (bY.cons (bY.cons bY.nil))))<|Ja rfl<|Ji<|Jv rfl<|JD rfl<|Jn<|gm rfl (fun az=>?_) fun az=>?_;refine Jr<|Jv rfl<|Ja rfl<|Ja rfl<|Jn<|Ju ?_;rotate_left;refine Jk<|Jr<|ab (cR (.there .here)) rfl<|Jv rfl ?_;rotate_right)
 ·have e1:DS r o=[]:=if_pos az
  rw [e1]
  refine aQ 9 1 ?_
  first | with_reducible apply aO | with_reducible apply aP
  case he=>exact fV rfl rfl rfl
  case hR=>
   intro w' aA
   exact aG (.slice none 0 0) trivial (by exact .cons .here .nil) aA rfl
 have e1:DS r o=bo r o:=if_neg az
 have e0:aX [fX r,ph r o]=0:=Zo.1 az
 have e2:B4 r o=0:=e0
 have hl:=vh (sL (cy.1 e0 _ Zq)).1
 have hn:(bo r o).length=r.lv.toNat:=by unfold bo;simp
 rw [e1,e2,hn]
 refine JN bj rfl (fun w1 aR=>vE o (h.keeps aR.keeps) (by omega) (by have:=cT.2.2;omega)) ?_
 intro v _
 dsimp only [id_eq,Zb,Za]
 refine Ja rfl<|Ja rfl<|Jn<|Je ?_
 first | with_reducible apply aO | with_reducible apply aP
 case he=>exact fV rfl rfl rfl
 case hR=>
  intro w' aA
  exact aG v trivial (by exact .cons .here .nil) aA rfl
end Go.Proofs.A1
namespace Go.SL
open Go
section
variable {P:Program} {c:Cx} {D:List Nat} {sl:aH} {hs hs':List bd} {ty:TypeId} {pos:String} {af:Array Edge} {r:Option Nat} {ops:Array Oper} {Q:Exit→Act→World→Prop} {rest:List Oper}
theorem yT (zs:List Value) (n:Nat):Builtin.zeroCells zs.toArray n=((List.replicate n zs).flatten).toArray:=by
 unfold Builtin.zeroCells
 apply Array.ext
 ·simp
 ·intro i h1 h2
  have hi:i<n*zs.length:=by simpa using h1
  have hz:0<zs.length:=by
   rcases Nat.eq_zero_or_pos zs.length with e | e
   ·rw [e] at hi;omega
   ·exact e
  have hm:i % zs.length<zs.length:=Nat.mod_lt _ hz
  have sy:∀ (n i:Nat) (h:i<(List.replicate n zs).flatten.length),(List.replicate n zs).flatten[i]=zs[i % zs.length]'(Nat.mod_lt _ hz):=by
   intro n
   induction n with
   | zero=>intro i h;simp at h
   | succ n ih =>
    intro i h
    have e:(List.replicate (n+1) zs).flatten=zs++(List.replicate n zs).flatten:=by simp [List.replicate_succ]
    rw [List.getElem_of_eq e]
    by_cases hl:i<zs.length
    ·rw [Zat hl]
     congr 1
     exact (Nat.mod_eq_of_lt hl).symm
    ·rw [Zao (by omega),ih]
     congr 1
     exact (Nat.mod_eq_sub_mod (by omega)).symm
  have:=sy n i (by simpa using hi)
  rw [show (List.replicate n zs).flatten.toArray[i]=(List.replicate n zs).flatten[i]'(by simpa using hi) from rfl,this]
  simp [hm]
theorem A9 {t e:TypeId} {x:Operand} {g o n cap:Nat} {E:TypeId} {cs zs:List Value} {z:Value} [hu:iV P t (.slice e)] [hZ:lZ P e z]
  (hx:Is sl x (.slice (some ⟨g,o,none⟩) n cap)) (ht:Take hs (bH g (.cells cs.toArray E (0,0))) hs') (hz:z.cells=zs.toArray) (h1:∀ u∈zs,u.oneCell'=true) (hfit:o+n*zs.length≤cs.length)
  (k:Tr c D sl (bH g (.cells (setCells cs o (List.replicate n zs).flatten).toArray E (0,0))::hs') (WL P r ops Q rest)) :
  Tr c D sl hs (WL P r ops Q (⟨none,.call ⟨.builtin .clear,#[x],#[t]⟩,ty,pos,af,none⟩::rest)):=fun a w bh=>by
 have hm:=bh.mem.take (ht.append _)
 have hg:w.heap[g]? = some (.cells cs.toArray E (0,0)):=hm.bH .here
 obtain ⟨w',h3,h4,h5⟩:=jb (P:=P) (o:=o) (List.replicate n zs).flatten 0 cs w hg (fun u hu=>by
  obtain ⟨l,hl,QK⟩:=List.mem_flatten.1 hu
  rw [List.eq_of_mem_replicate hl] at QK
  exact h1 u QK) (by
  have:(List.replicate n zs).flatten.length=n*zs.length:=by simp
  omega)
 refine mr rfl ⟨dN _ _ _ _ _,?_⟩
 rw [Oper.semAt_eq _ _ _ (by simp)]
 have:(execOp a.eval ⟨none,.call ⟨.builtin .clear,#[x],#[t]⟩,ty,pos,af,none⟩).run P w=.ok (.value (.tuple #[])) w':=by
  cases n with
  | zero =>
   simp [execOp,resolve,invoke,builtin,hx a bh.c5,Builtin.clear_,aV hu.eq]
   simpa [storeCells] using h3
  | succ n =>
   simp [execOp,resolve,invoke,builtin,hx a bh.c5,Builtin.clear_,aV hu.eq,iv (t:=e) (v:=z),hz,yT]
   simp [h3]
 rw [this]
 have ml:=Mem.store hm h4 h5
 exact k _ _ (bh.heap ml)
end
end Go.SL
namespace Go.SL
open Go
section
variable {α:Type} {f:α→List Value} {sz:Nat}
theorem iU (hf:∀ x,(f x).length=sz) (l:List α):(l.map f).flatten.length=l.length*sz:=by
 rw [fG (sz:=sz) (fun r hr=>by obtain ⟨x,_,rfl⟩:=Zt.1 hr;exact hf x),Zd]
theorem rH (hf:∀ x,(f x).length=sz) {l:List α} {i:Nat} (h:i<l.length) (cur:List Value):ed ((l.map f).flatten++cur) (i*sz) sz=f l[i]:=by
 have hl:l=l.take i++l[i]::l.drop (i+1):=by rw [← Zw h,ZZ]
 have e:(l.map f).flatten=((l.take i).map f).flatten++(f l[i]++((l.drop (i+1)).map f).flatten):=
  (congrArg (fun m=>(List.map f m).flatten) hl).trans (by simp only [Zs,Zac,Z8,ZaC])
 have hk:((l.take i).map f).flatten.length=i*sz:=by rw [iU hf,ZaK (by omega)]
 rw [jm,e,Zh,← hk,List.drop_append_of_le_length (by omega),Z5,Za,← hf l[i],Zh,Zae (by omega),ZN]
theorem tD {cs:List Value} {o n j:Nat} (hj:j<n):(ed cs o n)[j]? = cs[o+j]?:=by
 rw [jm,ZG,if_pos hj,Zbf]
theorem Kq (hf:∀ x,(f x).length=sz) {l:List α} {i j:Nat} (h:i<l.length) (hj:j<sz) (cur:List Value):((l.map f).flatten++cur)[i*sz+j]? = (f l[i])[j]?:=by
 rw [← rH hf h cur,tD hj]
theorem zl:∀ (A B C Z:List Value),Z.length=B.length→setCells (A++(B++C)) A.length Z=A++(Z++C):=by
 intro A B C Z h
 apply Zap
 intro k
 rw [iu _ _ _ _ (by simp;omega)]
 by_cases h1:k<A.length
 ·rw [if_neg (by omega),ZD h1,ZD h1]
 ·by_cases h2:k-A.length<Z.length
  ·rw [if_pos (by omega),ZK (show A.length≤k by omega),ZD h2]
  ·rw [if_neg (by omega),ZK (show A.length≤k by omega),ZK (show A.length≤k by omega),ZK (show B.length≤k-A.length by omega),ZK (show Z.length≤k-A.length by omega),h]
theorem Kp (hf:∀ x,(f x).length=sz) {l:List α} {i:Nat} (h:i<l.length) (x:α) (cur:List Value):setCells ((l.map f).flatten++cur) (i*sz) (f x)=((l.set i x).map f).flatten++cur:=by
 have hl:l=l.take i++l[i]::l.drop (i+1):=by rw [← Zw h,ZZ]
 have e:(l.map f).flatten=((l.take i).map f).flatten++(f l[i]++((l.drop (i+1)).map f).flatten):=
  (congrArg (fun m=>(List.map f m).flatten) hl).trans (by simp only [Zs,Zac,Z8,ZaC])
 have e2:((l.set i x).map f).flatten=((l.take i).map f).flatten++(f x++((l.drop (i+1)).map f).flatten):=by
  rw [List.set_eq_take_append_cons_drop,if_pos h]
  simp
 have hk:((l.take i).map f).flatten.length=i*sz:=by rw [iU hf,ZaK (by omega)]
 rw [e,e2,Zh,Zh,Zh,Zh,← hk]
 exact zl _ _ _ _ (by rw [hf,hf])
theorem Fv (hf:∀ x,(f x).length=sz) (A B:List α) (Z cur:List Value) (hz:Z.length=B.length*sz):setCells (((A++B).map f).flatten++cur) (A.length*sz) Z=(A.map f).flatten++(Z++cur):=by
 rw [Zs,Zac,Zh,← iU hf A]
 exact zl _ _ _ _ (by rw [hz,iU hf])
theorem xR {g k n cap:Nat} (sz:Nat) (h:k<n) (hc:n≤cap):Go.sliced (some ⟨g,0,none⟩) ((k:Nat):Int).toNat n cap sz=.slice (some ⟨g,k*sz,none⟩) (n-k) (cap-k):=by
 unfold Go.sliced
 rw [if_neg (by rw [ZI];omega),ZI]
 simp [eK]
theorem xS (g k cap sz:Nat):Go.sliced (some ⟨g,0,none⟩) 0 ((k:Nat):Int).toNat cap sz=.slice (some ⟨g,0,none⟩) k cap:=by
 unfold Go.sliced
 rw [ZI]
 by_cases h:cap=0
 ·rw [if_pos h];simp
 ·rw [if_neg h];simp [eK]
theorem filter_lt {q:α→Bool} {l:List α} {i:Nat} (hi:i<l.length) (h:q l[i]=false):(l.filter q).length<l.length:=
 List.length_filter_lt_length_iff_exists.2 ⟨l[i],Zj hi,by simp [h]⟩
def uv (q:α→Bool) (l:List α) (j:Nat):List α:=(l.take j).filter q++l.drop ((l.take j).filter q).length
def lo (q:α→Bool) (l:List α) (j:Nat):Nat:=((l.take j).filter q).length
theorem nr (q:α→Bool) (l:List α) {j:Nat} (hj:j≤l.length):lo q l j≤j:=by
 have:=Z6 q (l.take j)
 rw [ZaK hj] at this
 exact this
theorem Fq (q:α→Bool) (l:List α) {j:Nat} (hj:j≤l.length):(uv q l j).length=l.length:=by
 have:=nr q l hj
 unfold lo at this
 unfold uv
 rw [Zg,Zbd]
 omega
theorem Fs (q:α→Bool) (l:List α) {j:Nat} (hj:j<l.length):∃ h:j<(uv q l j).length,(uv q l j)[j]=l[j]:=by
 have:=nr q l (Nat.le_of_lt hj)
 unfold lo at this
 have h:(uv q l j)[j]? = some l[j]:=by
  unfold uv
  rw [ZK this,Zbf,← Zc hj]
  congr 1;omega
 exact Zl.1 h
theorem uI (q:α→Bool) (l:List α) {j:Nat} (hj:j<l.length):(l.take (j+1)).filter q=(l.take j).filter q++if q l[j] then [l[j]] else []:=by
 rw [Zn hj,Zbg]
 congr 1
 by_cases h:q l[j]=true
 ·rw [Zbr h,if_pos h];rfl
 ·rw [List.filter_cons_of_neg h,if_neg h];rfl
theorem D4 (q:α→Bool) (l:List α) {j:Nat} (hj:j<l.length) (hq:q l[j]=false):uv q l (j+1)=uv q l j∧lo q l (j+1)=lo q l j:=by
 have e:(l.take (j+1)).filter q=(l.take j).filter q:=by rw [uI q l hj,hq];simp
 unfold uv lo
 rw [e];exact ⟨rfl,rfl⟩
theorem Fp (q:α→Bool) (l:List α) {j:Nat} (hj:j<l.length) (hq:q l[j]=true):uv q l (j+1)=(uv q l j).set (lo q l j) l[j]∧lo q l (j+1)=lo q l j+1:=by
 have e:(l.take (j+1)).filter q=(l.take j).filter q++[l[j]]:=by rw [uI q l hj,if_pos hq]
 have hle:=nr q l (Nat.le_of_lt hj)
 unfold lo at hle
 have hm:((l.take j).filter q).length<l.length:=by omega
 unfold uv lo
 rw [e]
 refine ⟨?_,by simp⟩
 rw [List.set_append_right _ _ (Zz _),Nat.sub_self,Zw hm,List.set_cons_zero,Zg,Zh]
 rfl
theorem Ft (q:α→Bool) (l:List α):uv q l l.length=l.filter q++l.drop (l.filter q).length∧lo q l l.length=(l.filter q).length:=by
 unfold uv lo
 rw [ZN]
 exact ⟨rfl,rfl⟩
theorem yG (q:α→Bool) (l:List α) {i:Nat} (hi:i<l.length) (hb:∀ j (h:j<i),q (l[j]'(by omega))=true) (hq:q l[i]=false):uv q l (i+1)=l∧lo q l (i+1)=i:=by
 have e:(l.take i).filter q=l.take i:=ZaP.2 fun x hx=>by
  obtain ⟨j,hj,rfl⟩:=Zu hx
  rw [ZaL]
  exact hb j (by rw [Zr] at hj;omega)
 obtain ⟨h1,h2⟩:=D4 q l hi hq
 rw [h1,h2]
 unfold uv lo
 rw [e,ZaK (by omega),ZZ]
 exact ⟨rfl,rfl⟩
end
end Go.SL
namespace Go.Proofs.A1
open Go Go.SL
theorem BY {lv:Value} {l:List ByteArray} {p:ByteArray→Bool} {f:FuncId} {first cap:List Value} [bR Tryz.prog f] {w:World} (h:Rd w lv 1 (im l)) (cz:∀ x∈l,∀ w',aJ [] w w'→aj Tryz.prog f (first++[.string x]++cap) w' (.bool (p x))) :
  aj Tryz.prog 299 [lv,.func (.func f) first.toArray cap.toArray] w (.int .i64 (fT p l)):=by
 obtain ⟨a,cp,b,o,rfl,dj,bV,ha,hc⟩:=h
 rw [bW] at *
 unfold maxLen at bV
 refine ah Tryz.func299 rfl rfl ?_
 refine Jr<|Ja rfl<|Jn<|Jq<|Jr<|Jv rfl<|JI rfl<|Jv rfl<|Jn<|J0 ?_
 refine aW (fun k:Nat=>k≤l.length∧∀ i,i<k→(l[i]?.map p).getD false=false) (fun k=>[(8,.int .i64 k),(7,.int .i64 l.length),(0,.slice a l.length cp),(1,.func (.func f) first.toArray cap.toArray)]) (fun _=>[]) (fun k=>l.length-k) ?_ ?_
 ·apply aI 0 ⟨Zi _,fun i h=>by omega⟩
  case hs1=>exact cg
  case ht=>(try simp only [Ze,Zf,Za]);exact .nil
 rintro k ⟨hk,hf⟩
 by_cases aM:k<l.length
 ·have cG:=ha (lf aM)
  have c0:w.cell? ⟨b,o+k*1,none⟩=some (.string l[k]):=(hc k _ (ji aM)).2 0 _ rfl
  have iT:=cz _ (Zj aM)
  have hps:(l[k]?.map p).getD false=p l[k]:=by simp [aM]
  (refine Jr<|JA rfl<|Jn<|Jq<|Jd rfl fun az=>Jk<|Jq<|J0<|Jr<|Jv rfl<|Ja rfl<|Ji<|Jv rfl<|Jv rfl<|Jv rfl<|ab (fM cG az) rfl<|ab (ag (.of rfl) (At.base c0 rfl)) rfl<|ai bN rfl (fun w' aA=>(iT w' (Mem.keeps aA)))<|Jn<|pt rfl (fun az=>?_) fun az=>?_;refine Jr<|Jv rfl<|Ja rfl<|Jn<|Je<|Jm<|Jh<|Jh<|Jm<|Jh<|JT ?_;rotate_left;refine Jw<|Jj<|Jt<|Jg<|JB rfl (by omega)<|Jv rfl<|Jn ?_;rotate_right)
  ·rw [gy hf aM az]
  ·apply aK (k+1) ⟨by omega,fun i hi=>by
    by_cases e:i=k
    ·rw [e,hps];exact az
    ·exact hf i (by omega)⟩ (by omega)
   case hs1=>exact cg
   case ht=>(try simp only [Ze,Zf,Za]);exact .nil
 ·obtain rfl:k=l.length:=by omega
  refine Jr<|JA rfl<|Jn<|Jq<|Jc rfl fun az=>Jp<|Jl<|Jo<|Jt<|Jr<|Ja rfl<|Jn<|Je<|JT ?_
  rw [fA hf]
theorem Kh {lv:Value} {l:List ByteArray} {p:ByteArray→Bool} {f:FuncId} {first cap:List Value} [bR Tryz.prog f] {w:World} (h:Rd w lv 1 (im l)) (cz:∀ x∈l,∀ w',aJ [] w w'→aj Tryz.prog f (first++[.string x]++cap) w' (.bool (p x))) :
  aj Tryz.prog 250 [lv,.func (.func f) first.toArray cap.toArray] w (.bool (l.any p)):=by
 have iT:∀ w',aJ [] w w'→aj Tryz.prog 299 [lv,.func (.func f) first.toArray cap.toArray] w' (.int .i64 (fT p l)):=fun w' hk=>
  BY (h.keeps hk) fun x hx w2 eF=>cz x hx w2 (hk.trans eF)
 rw [← je]
 refine ah Tryz.func250 rfl rfl ?_
 (refine Jr<|Ja rfl<|Ji<|Jv rfl<|Jv rfl<|ai bj rfl (fun w' aA=>(iT w' (Mem.keeps aA)))<|JG rfl<|Ja rfl<|Jn<|Je<|JT ?_)
 rfl
set_option maxHeartbeats 1000000 in
theorem Kw {v:Value} {n:Nat} {l:List ByteArray} {p:ByteArray→Bool} {f:FuncId} {first cap:List Value} [bR Tryz.prog f] {w:World} {fp:List Nat} (lj:fp.Nodup) (hs:ct (hp w) [row 9 1 v n (aL l)] fp) (hn:l.length=n) (cT:n≤1000000)
  (cz:∀ x∈l,∀ w',aJ fp w w'→aj Tryz.prog f (first++[.string x]++cap) w' (.bool (p x))) :
  bu Tryz.prog 224 [v,.func (.func f) first.toArray cap.toArray] w fp (fun _:Value=>True) id (fun v'=>[row 9 1 v' (l.filter fun x=>!p x).length (aL (l.filter fun x=>!p x))]):=by
 refine eb Tryz.func224 rfl rfl lj hs ?_
 refine Jr<|Ja rfl<|Ji<|Jv rfl<|Jv rfl ?_
 refine aT (by exact .here) fun va vc e=>?_
 subst e
 skip
 with_reducible apply ai
 case hr=>exact bj
 case hd=>rfl
 case hc=>
  intro w' aA
  have hR:Rd w' (.slice va n vc) 1 (im l):=dM aA (by exact .here) hn
  exact BY (f:=f) (p:=p) (first:=first) (cap:=cap) hR (fun x hx w2 eF=>cz x hx w2 (aA.keeps.trans (eF.mono (by simp))))
 rcases pe p l with ⟨e1,e2⟩ | ⟨i,hi,e1,e2⟩
 ·rw [e1]
  have sy:(l.filter fun x=>!p x)=l:=ZaP.2 fun x hx=>by
   have:=ZaJ.1 e2 x hx
   simpa using this
  rw [sy]
  refine Ja rfl<|Jn<|Jq<|Jr<|Jv rfl<|JC rfl<|Jn<|Jd rfl fun az=>Jr<|Jv rfl<|Ja rfl<|Jn<|Ju ?_
  first | with_reducible apply aO | with_reducible apply aP
  case he=>exact dH rfl rfl
  case hR=>
   intro w' aA
   exact aG (.slice va n vc) trivial (show bD _ [row 9 1 (.slice va n vc) l.length (aL l)] _ by rw [hn];exact .cons .here .nil) aA rfl
 rw [e1]
 rw [ZaB] at e2
 obtain ⟨OU,i',AO,G3,dz⟩:=e2
 have G2:i'=i:=by
  have h1:fT p l=(i':Nat):=gy (fun j hj=>by
   rw [Zc (by omega)]
   simpa using dz j hj) AO (by rw [G3];exact OU)
  rw [e1] at h1
  exact_mod_cast h1.symm
 subst G2
 obtain ⟨st1,st2⟩:=yG (fun x=>!p x) l AO (fun j hj=>dz j hj) (by rw [G3];simp [OU])
 have hne:¬ ((i':Nat):Int) = -1:=by omega
 refine Ja rfl<|Jn<|Jq<|Jr<|Jv rfl<|JC rfl<|Jn<|Jc rfl fun az=>Jk<|Jq<|Jr<|Jv rfl<|JB rfl (by omega)<|Ja rfl<|Jn<|J0 ?_
 refine cU (by exact .here) (by omega) ?_
 rintro g gL cur e oJ z6 hsz hl
 cases e
 have hF:∀ x,((fun s:ByteArray=>[Value.string s]) x).length=1:=fun _=>rfl
 have hV:∀ l,aL l=(l.map (fun s:ByteArray=>[Value.string s])).flatten:=fun l=>qS l
 refine aW (fun j:Nat=>i'<j∧j≤l.length) (fun j=>[(6,.int .i64 (j:Nat)),(5,.int .i64 (lo (fun x=>!p x) l j)),(0,.slice (some ⟨g,0,none⟩) n vc),(1,.func (.func f) first.toArray cap.toArray)])
  (fun j=>[bH g (.cells (((uv (fun x=>!p x) l j).map (fun s:ByteArray=>[Value.string s])).flatten++cur).toArray 9 (0,0))]) (fun j=>l.length-j) ?_ ?_
 ·apply aI (i'+1) ⟨by omega,by omega⟩
  case hs1=>rw [st2];exact .cons rfl (.cons rfl (.cons rfl (.cons rfl .nil)))
  case ht=>rw [st1,← hV];exact .cons .here .nil
 rintro j ⟨hj,hk⟩
 by_cases aM:j<l.length
 ·have DR:j<n:=by omega
  have hle:=nr (fun x=>!p x) l hk
  have sy:=Fq (fun x=>!p x) l hk
  obtain ⟨XF,XM⟩:=Fs (fun x=>!p x) l aM
  have c0:=Kq hF XF (show 0<1 by omega) cur
  rw [XM] at c0
  have c1:(((uv (fun x=>!p x) l j).map (fun s:ByteArray=>[Value.string s])).flatten++cur)[j*1]? = some (.string l[j]):=c0
  (refine Jq<|Jr<|Jv rfl<|Jv rfl<|JI rfl<|JA rfl<|Jn<|Jd rfl fun az=>Jk<|Jq<|J0<|Jr<|Jv rfl<|Jv rfl<|ab (ar (.of rfl) (.of rfl) rfl (by omega) az bb) rfl ?_;refine ab (ag (.of rfl) (At.jL .here c1)) rfl ?_;refine Ja rfl<|Ji<|Jv rfl<|Jv rfl ?_)
  with_reducible apply ai
  case hr=>exact bN
  case hd=>rfl
  case hc=>
   intro w' aA
   exact cz l[j] (Zj aM) w' aA.keeps
  have hm:lo (fun x=>!p x) l j<(uv (fun x=>!p x) l j).length:=by rw [sy];have:=st2;omega
  have hb:lo (fun x=>!p x) l j*1+1≤(((uv (fun x=>!p x) l j).map (fun s:ByteArray=>[Value.string s])).flatten++cur).length:=by rw [Zg,iU hF,sy];omega
  have pB:=Kp hF hm l[j] cur
  have hmn:lo (fun x=>!p x) l j<n:=by omega
  cases hq:p l[j] with
  | true =>
   obtain ⟨s1,s2⟩:=D4 (fun x=>!p x) l aM (by simp [hq])
   (refine JH rfl<|Jn<|bK (.of rfl)<|Jw<|Jj<|Jt<|Jg<|Jv rfl<|JB rfl (by omega)<|Ja rfl<|Jn ?_)
   apply aK (j+1) ⟨by omega,by omega⟩ (by omega)
   case hs1=>rw [s2];exact .cons rfl (.cons rfl (.cons rfl (.cons rfl .nil)))
   case ht=>rw [s1];exact .cons .here .nil
  | false =>
   obtain ⟨s1,s2⟩:=Fp (fun x=>!p x) l aM (by simp [hq])
   (refine JH rfl<|Jn<|cP (.of rfl) ?_;refine Jr<|Jv rfl<|Jv rfl<|Jv rfl<|ab (ar (.of rfl) (.of rfl) rfl (by omega) (by omega) bb) rfl ?_;refine aq (.of rfl) (.of rfl) .here rfl rfl (en rfl) hb pB ?_;refine Jn<|Jg<|Jv rfl<|JB rfl (by omega)<|Ja rfl<|Jx<|Jj<|Jt<|Jg<|Jv rfl<|JB rfl (by omega)<|Ja rfl<|Jn ?_)
   apply aK (j+1) ⟨by omega,by omega⟩ (by omega)
   case hs1=>rw [s2];exact .cons rfl (.cons rfl (.cons rfl (.cons rfl .nil)))
   case ht=>rw [s1];exact .cons .here .nil
 ·obtain rfl:j=l.length:=by omega
  obtain ⟨a1,a2⟩:=Ft (fun x=>!p x) l
  have hle:=nr (fun x=>!p x) l (Zz _)
  rw [a1,a2]
  rw [a2] at hle
  have hZ:=Fv hF (l.filter fun x=>!p x) (l.drop (l.filter fun x=>!p x).length) (List.replicate (n-(l.filter fun x=>!p x).length) [Value.string ⟨#[]⟩]).flatten cur (by simp;omega)
  have SE:(l.filter fun x=>!p x).length<l.length:=filter_lt AO (by rw [G3];simp [OU])
  generalize (l.filter fun x=>!p x)=q at hle hZ SE ⊢
  have Xd:q.length<n:=by omega
  have OS:q.length≤vc:=by omega
  have hfit:q.length*1+(n-q.length)*[Value.string ⟨#[]⟩].length≤(((q++l.drop q.length).map (fun s:ByteArray=>[Value.string s])).flatten++cur).length:=by
   rw [Zg,iU hF,Zg,Zbd]
   simp only [ZL,Zai]
   omega
  refine Jq<|Jr<|Jv rfl<|Jv rfl<|JI rfl<|JA rfl<|Jn<|Jc rfl fun az=>Jp<|Jl<|Jo<|Jt<|Jr<|Jv rfl<|Jv rfl<|ab (pW (.of rfl) (.of rfl) (by omega) (by omega)) rfl ?_
  rw [xR 1 Xd oJ]
  refine A9 (zs:=[Value.string ⟨#[]⟩]) (z:=.string ⟨#[]⟩) (.of rfl) .here rfl (en rfl) hfit ?_
  rw [hZ]
  (refine Ji<|Jv rfl<|Jv rfl<|ab (hY (.of rfl) (.of rfl) (by omega) (by omega)) rfl<|Ja rfl<|Jn<|Je ?_)
  rw [xS]
  have vr:((q.map (fun s:ByteArray=>[Value.string s])).flatten++((List.replicate (n-q.length) [Value.string ⟨#[]⟩]).flatten++cur)).length=vc*1:=by
   rw [← hsz,Zg,iU hF,Zg,Zg,← hn,hV,iU hF]
   have:(List.replicate (l.length-q.length) [Value.string ⟨#[]⟩]).flatten.length=(l.length-q.length)*1:=by simp
   rw [this]
   omega
  refine cN (n:=q.length) (sz:=1) (by exact .here) OS z6 vr (by rw [iU hF]) ?_
  skip
  first | with_reducible apply aO | with_reducible apply aP
  case he=>exact dH rfl rfl
  case hR=>
   intro w' aA
   exact aG (.slice (some ⟨g,0,none⟩) q.length vc) trivial (show bD _ [row 9 1 (.slice (some ⟨g,0,none⟩) q.length vc) q.length (aL q)] _ by rw [hV];exact .cons .here .nil) aA rfl
set_option maxHeartbeats 1000000 in
theorem N0 {v:Value} {n:Nat} {l:List Po} {p:Po→Bool} {f:FuncId} {first cap:List Value} [bR Tryz.prog f] {w:World} {fp:List Nat} (lj:fp.Nodup) (hs:ct (hp w) [row 188 3 v n (fO l)] fp) (hn:l.length=n) (cT:n≤1000000)
  (cz:∀ x∈l,∀ w',aJ fp w w'→aj Tryz.prog f (first++[.agg x.cells.toArray]++cap) w' (.bool (p x))) :
  bu Tryz.prog 314 [v,.func (.func f) first.toArray cap.toArray] w fp (fun _:Value=>True) id (fun v'=>[row 188 3 v' (l.filter fun x=>!p x).length (fO (l.filter fun x=>!p x))]):=by
 refine eb Tryz.func314 rfl rfl lj hs ?_
 refine Jr<|Ja rfl<|Ji<|Jv rfl<|Jv rfl ?_
 refine aT (by exact .here) fun va vc e=>?_
 subst e
 skip
 with_reducible apply ai
 case hr=>exact bj
 case hd=>rfl
 case hc=>
  intro w' aA
  have hR:Rd w' (.slice va n vc) 3 (td l):=cE aA (by exact .here) hn
  exact zY (f:=f) (p:=p) (first:=first) (cap:=cap) hR (fun x hx w2 eF=>cz x hx w2 (aA.keeps.trans (eF.mono (by simp))))
 rcases pe p l with ⟨e1,e2⟩ | ⟨i,hi,e1,e2⟩
 ·rw [e1]
  have sy:(l.filter fun x=>!p x)=l:=ZaP.2 fun x hx=>by
   have:=ZaJ.1 e2 x hx
   simpa using this
  rw [sy]
  refine Ja rfl<|Jn<|Jq<|Jr<|Jv rfl<|JC rfl<|Jn<|Jd rfl fun az=>Jr<|Jv rfl<|Ja rfl<|Jn<|Ju ?_
  first | with_reducible apply aO | with_reducible apply aP
  case he=>exact dH rfl rfl
  case hR=>
   intro w' aA
   exact aG (.slice va n vc) trivial (show bD _ [row 188 3 (.slice va n vc) l.length (fO l)] _ by rw [hn];exact .cons .here .nil) aA rfl
 rw [e1]
 rw [ZaB] at e2
 obtain ⟨OU,i',AO,G3,dz⟩:=e2
 have G2:i'=i:=by
  have h1:fT p l=(i':Nat):=gy (fun j hj=>by
   rw [Zc (by omega)]
   simpa using dz j hj) AO (by rw [G3];exact OU)
  rw [e1] at h1
  exact_mod_cast h1.symm
 subst G2
 obtain ⟨st1,st2⟩:=yG (fun x=>!p x) l AO (fun j hj=>dz j hj) (by rw [G3];simp [OU])
 have hne:¬ ((i':Nat):Int) = -1:=by omega
 refine Ja rfl<|Jn<|Jq<|Jr<|Jv rfl<|JC rfl<|Jn<|Jc rfl fun az=>Jk<|Jq<|Jr<|Jv rfl<|JB rfl (by omega)<|Ja rfl<|Jn<|J0 ?_
 refine cU (by exact .here) (by omega) ?_
 rintro g gL cur e oJ z6 hsz hl
 cases e
 have hF:∀ x,(Po.cells x).length=3:=fun _=>rfl
 have hV:∀ l,fO l=(l.map Po.cells).flatten:=fun l=>rfl
 refine aW (fun j:Nat=>i'<j∧j≤l.length) (fun j=>[(6,.int .i64 (j:Nat)),(5,.int .i64 (lo (fun x=>!p x) l j)),(0,.slice (some ⟨g,0,none⟩) n vc),(1,.func (.func f) first.toArray cap.toArray)])
  (fun j=>[bH g (.cells (((uv (fun x=>!p x) l j).map Po.cells).flatten++cur).toArray 188 (0,0))]) (fun j=>l.length-j) ?_ ?_
 ·apply aI (i'+1) ⟨by omega,by omega⟩
  case hs1=>rw [st2];exact .cons rfl (.cons rfl (.cons rfl (.cons rfl .nil)))
  case ht=>rw [st1,← hV];exact .cons .here .nil
 rintro j ⟨hj,hk⟩
 by_cases aM:j<l.length
 ·have DR:j<n:=by omega
  have hle:=nr (fun x=>!p x) l hk
  have sy:=Fq (fun x=>!p x) l hk
  obtain ⟨XF,XM⟩:=Fs (fun x=>!p x) l aM
  have c0:=rH hF XF cur
  rw [XM] at c0
  have c1:ed (((uv (fun x=>!p x) l j).map Po.cells).flatten++cur) (j*3) 3=[.int .i64 (l[j]).lv,.string (l[j]).ou,.string (l[j]).ip]:=c0
  (refine Jq<|Jr<|Jv rfl<|Jv rfl<|JI rfl<|JA rfl<|Jn<|Jd rfl fun az=>Jk<|Jq<|J0<|Jr<|Jv rfl<|Jv rfl<|ab (ar (.of rfl) (.of rfl) rfl (by omega) az bb) rfl ?_;refine ab (bT (.of rfl) .here c1 rfl) rfl ?_;refine Jz rfl rfl fun _ _=>aq (.of rfl) (.of rfl) .here rfl rfl (fo rfl rfl rfl) (bG rfl) ak ?_;refine Ji<|Jv rfl<|ab (cR .here) rfl ?_)
  with_reducible apply ai
  case hr=>exact bN
  case hd=>rfl
  case hc=>
   intro w' aA
   exact cz l[j] (Zj aM) w' aA.keeps
  have hm:lo (fun x=>!p x) l j<(uv (fun x=>!p x) l j).length:=by rw [sy];have:=st2;omega
  have hb:lo (fun x=>!p x) l j*3+3≤(((uv (fun x=>!p x) l j).map Po.cells).flatten++cur).length:=by rw [Zg,iU hF,sy];omega
  have pB:=Kp hF hm l[j] cur
  have hmn:lo (fun x=>!p x) l j<n:=by omega
  cases hq:p l[j] with
  | true =>
   obtain ⟨s1,s2⟩:=D4 (fun x=>!p x) l aM (by simp [hq])
   (refine JH rfl<|Jn<|bK (.of rfl)<|Jw<|Jj<|Jt<|Jg<|Jv rfl<|JB rfl (by omega)<|Ja rfl<|Jn ?_)
   apply aK (j+1) ⟨by omega,by omega⟩ (by omega)
   case hs1=>rw [s2];exact .cons rfl (.cons rfl (.cons rfl (.cons rfl .nil)))
   case ht=>rw [s1];exact .cons (.there .here) .nil
  | false =>
   obtain ⟨s1,s2⟩:=Fp (fun x=>!p x) l aM (by simp [hq])
   (refine JH rfl<|Jn<|cP (.of rfl) ?_;refine Jr<|Jv rfl<|Jv rfl<|ab (cR .here) rfl ?_;refine ab (ar (.of rfl) (.of rfl) rfl (by omega) (by omega) bb) rfl ?_;refine aq (.of rfl) (.of rfl) (.there .here) rfl rfl (fo rfl rfl rfl) hb pB ?_;refine Jn<|Jg<|Jv rfl<|JB rfl (by omega)<|Ja rfl<|Jx<|Jj<|Jt<|Jg<|Jv rfl<|JB rfl (by omega)<|Ja rfl<|Jn ?_)
   apply aK (j+1) ⟨by omega,by omega⟩ (by omega)
   case hs1=>rw [s2];exact .cons rfl (.cons rfl (.cons rfl (.cons rfl .nil)))
   case ht=>rw [s1];exact .cons .here .nil
 ·obtain rfl:j=l.length:=by omega
  obtain ⟨a1,a2⟩:=Ft (fun x=>!p x) l
  have hle:=nr (fun x=>!p x) l (Zz _)
  rw [a1,a2]
  rw [a2] at hle
  have hZ:=Fv hF (l.filter fun x=>!p x) (l.drop (l.filter fun x=>!p x).length) (List.replicate (n-(l.filter fun x=>!p x).length) [Value.int .i64 0,Value.string ⟨#[]⟩,Value.string ⟨#[]⟩]).flatten cur (by simp;omega)
  have SE:(l.filter fun x=>!p x).length<l.length:=filter_lt AO (by rw [G3];simp [OU])
  generalize (l.filter fun x=>!p x)=q at hle hZ SE ⊢
  have Xd:q.length<n:=by omega
  have OS:q.length≤vc:=by omega
  have hfit:q.length*3+(n-q.length)*[Value.int .i64 0,Value.string ⟨#[]⟩,Value.string ⟨#[]⟩].length≤(((q++l.drop q.length).map Po.cells).flatten++cur).length:=by
   rw [Zg,iU hF,Zg,Zbd]
   simp only [ZL,Zai]
   omega
  refine Jq<|Jr<|Jv rfl<|Jv rfl<|JI rfl<|JA rfl<|Jn<|Jc rfl fun az=>Jp<|Jl<|Jo<|Jt<|Jr<|Jv rfl<|Jv rfl<|ab (pW (.of rfl) (.of rfl) (by omega) (by omega)) rfl ?_
  rw [xR 3 Xd oJ]
  refine A9 (zs:=[Value.int .i64 0,Value.string ⟨#[]⟩,Value.string ⟨#[]⟩]) (z:=.agg #[.int .i64 0,.string ⟨#[]⟩,.string ⟨#[]⟩]) (.of rfl) .here rfl (fo rfl rfl rfl) hfit ?_
  rw [hZ]
  (refine Ji<|Jv rfl<|Jv rfl<|ab (hY (.of rfl) (.of rfl) (by omega) (by omega)) rfl<|Ja rfl<|Jn<|Je ?_)
  rw [xS]
  have vr:((q.map Po.cells).flatten++((List.replicate (n-q.length) [Value.int .i64 0,Value.string ⟨#[]⟩,Value.string ⟨#[]⟩]).flatten++cur)).length=vc*3:=by
   rw [← hsz,Zg,iU hF,Zg,Zg,← hn,hV,iU hF]
   have:(List.replicate (l.length-q.length) [Value.int .i64 0,Value.string ⟨#[]⟩,Value.string ⟨#[]⟩]).flatten.length=(l.length-q.length)*3:=by simp
   rw [this]
   omega
  refine cN (n:=q.length) (sz:=3) (by exact .here) OS z6 vr (by rw [iU hF]) ?_
  skip
  first | with_reducible apply aO | with_reducible apply aP
  case he=>exact dH rfl rfl
  case hR=>
   intro w' aA
   exact aG (.slice (some ⟨g,0,none⟩) q.length vc) trivial (show bD _ [row 188 3 (.slice (some ⟨g,0,none⟩) q.length vc) q.length (fO q)] _ by rw [hV];exact .cons .here .nil) aA rfl
end Go.Proofs.A1
