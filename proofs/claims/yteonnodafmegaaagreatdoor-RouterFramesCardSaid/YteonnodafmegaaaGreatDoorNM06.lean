/- Parts of the proof: GkRegM GkRegN GkStr GkBits GkArr KA KB KC GkClear GkFl KD. -/
import Derived.Test.YteonnodafmegaaaGreatDoorNM04
import Derived.Test.YteonnodafmegaaaGreatDoorNM03
import Derived.Laws.Strings
import Derived.Laws.BytesString
import Derived.Test.YteonnodafmegaaaGreatDoorNM01
import Derived.Laws.Entries
import Derived.Test.YteonnodafmegaaaGreatDoorNM05
set_option linter.unusedSectionVars false
set_option linter.unusedVariables false
set_option linter.unusedSimpArgs false
namespace Go.SL
open Go
def Dq (l:List Oper) (m p:Nat):Bool:=
 l.all mU&&tE l 0&&kH l.toArray (l.take m) 0&&(List.range' m (l.length-m)).all (fun k=>(List.range m).all fun i=>Nat.beq i p||((iC l []).getD k 0).testBit i)&&Nat.ble m l.length
def Ia (l:List Oper) (m:Nat):Bool:=Dq l m m
structure Lv (l:List Oper) (m p:Nat):Prop where
 op:∀ o∈l,mU o=true
 ac:tE l 0=true
 By:kH l.toArray (l.take m) 0=true
 tail:∀ k,m≤k→k<l.length→∀ i,i<m→i≠p→((iC l []).getD k 0).testBit i=true
 le:m≤l.length
theorem sG {l:List Oper} {m p:Nat} (h:Dq l m p=true):Lv l m p:=by
 simp only [Dq,Zm,Z3] at h
 obtain ⟨⟨⟨⟨h1,h2⟩,h3⟩,h5⟩,h6⟩:=h
 refine ⟨h1,h2,h3,fun k hk aK i hi hne=>?_,by simpa using h6⟩
 have:=h5 k (ZaK.2 ⟨hk,by omega⟩) i (ZT.2 hi)
 rw [ZP] at this
 exact this.resolve_left (by simpa using hne)
theorem jX {l:List Oper} {m p:Nat} (hc:Lv l m p) {i j:Nat} {x y:Oper} (wF:i<j) (hj:j<m) (hx:l[i]? = some x) (hy:l[j]? = some y):pX l.toArray x y i=true:=by
 have:=mT hc.By (i:=i) (j:=j) wF (by rw [ZC,if_pos (by omega)];exact hx) (by rw [ZC,if_pos hj];exact hy)
 simpa using this
theorem sH {l:List Oper} {m p:Nat} (hc:Lv l m p) {listed:Array Bool} (hsz:listed.size=l.length) (wJ:DC l (Ls listed)) {i:Nat} (hi:i∈Region.ready .any l.toArray listed) (hm:m≤i):∀ j,j<m→j≠p→Ls listed j:=by
 intro j hj Yc
 obtain ⟨o,ho,hn,hd⟩:=(dE hsz).1 hi
 have aK:i<l.length:=(Zl.1 ho).1
 have DR:DC l (fun k=>k=i∨Ls listed k):=by
  intro k ok hk hL e he hb
  rcases hL with e' | hL
  ·subst e'
   rw [ho] at hk;cases hk
   exact .inr (hd e he hb)
  ·exact .inr (wJ k ok hk hL e he hb)
 rcases gZ DR hc.ac i aK (.inl rfl) j (hc.tail i hm aK j hj Yc) with h | h
 ·omega
 ·exact h
structure cD where
 F:(Nat→Value)→Value
 A:(Nat→Value)→List a8
def uq (β:Nat→Value) (i:Nat) (x:Value):Nat→Value:=fun k=>if k=i then x else β k
theorem um (β:Nat→Value) (i:Nat):uq β i (β i)=β:=by
 funext k;unfold uq;split
 ·rename_i h;rw [h]
 ·rfl
theorem kd (β:Nat→Value) (i:Nat) (x:Value):uq β i x i=x:=by unfold uq;rw [if_pos rfl]
theorem uo {β:Nat→Value} {i k:Nat} {x:Value} (h:k≠i):uq β i x k=β k:=by unfold uq;rw [if_neg h]
def vO (l:List Oper) (i k:Nat):Bool:=Nat.beq i k||((iC l []).getD i 0).testBit k
def dQ (β:Nat→Value) (lst:Nat→Bool):List cD→Nat→List a8
 | [],_=>[]
 | s::S,i=>(if lst i then s.A β else [])++dQ β lst S (i+1)
theorem im {β β':Nat→Value} {lst mX:Nat→Bool}:∀ {S:List cD} {i:Nat},(∀ j s,S[j]? = some s→lst (i+j)=mX (i+j)∧(lst (i+j)=true→s.A β=s.A β'))→dQ β lst S i=dQ β' mX S i
 | [],_,_=>rfl
 | s :: S, i, h => by
  have h0:=h 0 s rfl
  have ih:dQ β lst S (i+1)=dQ β' mX S (i+1):=im fun j s' hj=>by have:=h (j+1) s' (by simpa using hj);rwa [show i+(j+1)=i+1+j from by omega] at this
  simp only [Zaw] at h0
  unfold dQ
  rw [ih,← h0.1]
  by_cases hl:lst i=true
  ·rw [if_pos hl,if_pos hl,h0.2 hl]
  ·rw [if_neg hl,if_neg hl]
theorem qV {β:Nat→Value} {lst mX:Nat→Bool} {k:Nat} {s:cD}:∀ {S:List cD} {i:Nat},S[k]? = some s→lst (i+k)=false→mX (i+k)=true→(∀ j,j≠i+k→mX j=lst j) →
  (s.A β++dQ β lst S i).Perm (dQ β mX S i)
 | [],_,h,_,_,_=>by simp at h
 | s0 :: S, i, h, h1, h2, h3 => by
  cases k with
  | zero =>
   simp at h
   subst h
   have e:dQ β lst S (i+1)=dQ β mX S (i+1):=im fun j s' hj=>⟨(h3 (i+1+j) (by omega)).symm,fun _=>rfl⟩
   simp only [Zaw] at h1 h2
   unfold dQ
   rw [if_neg (by simp [h1]),if_pos h2,e];simp
  | succ k =>
   have ih:(s.A β++dQ β lst S (i+1)).Perm (dQ β mX S (i+1)):=by
    refine qV (k:=k) (by simpa using h) ?_ ?_ ?_
    all_goals rw [show i+1+k=i+(k+1) from by omega];assumption
   unfold dQ
   rw [h3 i (by omega)]
   refine List.Perm.trans ?_ (ih.append_left _)
   rw [← Zh,← Zh]
   exact List.perm_append_comm.append_right _
theorem qT {β:Nat→Value} {lst:Nat→Bool} {s:cD}:∀ {S:List cD} {i j:Nat},S[j]? = some s→lst (i+j)=true→(s.A β).Sublist (dQ β lst S i)
 | [],_,j,h,_=>by simp at h
 | s0 :: S, i, 0, h, h1 => by
  simp at h
  subst h
  unfold dQ
  rw [Zaw] at h1
  rw [if_pos h1]
  exact ZaE _ _
 | s0 :: S, i, j + 1, h, h1 => by
  unfold dQ
  exact (qT (S:=S) (i:=i+1) (j:=j) (by simpa using h) (by rwa [show i+1+j=i+(j+1) from by omega])).trans (ZaP _ _)
theorem ch.sublist {h:Nat→Option Obj} {l1 l2:List a8} (hs:l1.Sublist l2):∀ {fp:List Nat},ch h l2 fp→∃ lD:List Nat,ch h l1 lD∧lD.Sublist fp:=by
 induction hs with
 | slnil=>intro fp hf;exact ⟨fp,hf,List.Sublist.refl _⟩
 | cons A _ ih =>
  rintro fp ⟨f1,f2,rfl,_,h2⟩
  obtain ⟨g,hg,iN⟩:=ih h2
  exact ⟨g,hg,iN.trans (ZaP _ _)⟩
 | cons_cons A _ ih =>
  rintro fp ⟨f1,f2,rfl,h1,h2⟩
  obtain ⟨g,hg,iN⟩:=ih h2
  exact ⟨f1++g,⟨f1,g,rfl,h1,hg⟩,(List.Sublist.refl f1).append iN⟩
theorem Mem.sublist {c:Cx} {l1 l2:List a8} {w:World} (h:Mem c l2 w) (hs:l1.Sublist l2):Mem c l1 w:=by
 obtain ⟨k,fp,hn,ir,hb⟩:=h
 obtain ⟨g,hg,iN⟩:=ir.sublist hs
 exact ⟨k,g,hn.sublist iN,hg,fun b dA=>hb b (iN.subset dA)⟩
def pz (P:Program) (o:Oper) (a:Act) (w:World) (K:Value→World→Prop):Prop:=
 match (execOp a.eval o).run P w with
 | .ok (.value v) w'=>K v w'
 | .ok (.enter f args) w'=>w'=w∧Calls P f args w (fun e wh=>∃ v,e=.returned v∧K v wh)
 | _=>False
section
variable {P:Program} {c:Cx} {D:List Nat} {sl:aG} {hs:List a8} {Q:Exit→Act→World→Prop} {l:List Oper} {m:Nat}
def jD (c:Cx) (hs:List a8) (S:List cD) (B:List Nat) (β:Nat→Value) (w:World):Prop:=∀ A:List a8,(A=[]∨∃ j,j∈B∧∃ s,S[j]? = some s∧A=s.A β)→Mem c (A++hs) w
theorem jD.mem {S:List cD} {B:List Nat} {β:Nat→Value} {w:World} (h:jD c hs S B β w):Mem c hs w:=h [] (.inl rfl)
theorem jD.at {S:List cD} {B:List Nat} {β:Nat→Value} {w:World} (h:jD c hs S B β w) (j:Nat) {s:cD} (hj:j∈B) (hs':S[j]? = some s):Mem c (s.A β++hs) w:=h _ (.inr ⟨j,hj,s,hs',rfl⟩)
def G6 (i:Nat) (s:cD) (β:Nat→Value) (w:World) (v:Value) (w':World):Prop:=∃ x,v=s.F (uq β i x)∧aH [] w w'∧∃ fp:List Nat,fp.Nodup∧ch (hp w') (s.A (uq β i x)) fp∧∀ b∈fp,w.heap.size≤b
def nw {α:Type} (l:List Oper) (i:Nat) (F:(Nat→Value)→α):Prop:=∀ β β',(∀ k,vO l i k=true→β k=β' k)→F β=F β'
structure Ei (P:Program) (c:Cx) (hs:List a8) (l:List Oper) (i:Nat) (o:Oper) (SL:(Nat→Value)→aG) (S:List cD) (s:cD):Prop where
 zI:nw l i s.F
 zJ:nw l i s.A
 run:∃ B:List Nat,(∀ j∈B,eR o j=true)∧∀ β a w,bR (SL β) a→jD c hs S B β w→if Region.wanted o (yielded l.toArray a.tmps)=true then pz P o a w (G6 i s β w) else G6 i s β w undef w
def kc (l:List Oper) (o:Oper) (j:Nat):Bool:=eR o j||(List.range l.length).any fun k=>eR o k&&(match l[k]? with | some q=>eR q j | none=>false)
theorem FI {l:List Oper} {o:Oper} {j:Nat} (h:eR o j=true):kc l o j=true:=by unfold kc;rw [h];rfl
structure Av (P:Program) (c:Cx) (hs:List a8) (l:List Oper) (i:Nat) (o:Oper) (SL:(Nat→Value)→aG) (S:List cD) (s:cD):Prop where
 zI:nw l i s.F
 zJ:nw l i s.A
 run:∃ B:List Nat,(∀ j∈B,kc l o j=true)∧∀ β a w,bR (SL β) a→jD c hs S B β w→if Region.wanted o (yielded l.toArray a.tmps)=true then pz P o a w (G6 i s β w) else G6 i s β w undef w
theorem Ei.toT {P:Program} {c:Cx} {hs:List a8} {l:List Oper} {i:Nat} {o:Oper} {SL:(Nat→Value)→aG} {S:List cD} {s:cD} (h:Ei P c hs l i o SL S s):Av P c hs l i o SL S s:=⟨h.zI,h.zJ,let ⟨B,hB,r⟩:=h.run;⟨B,fun j hj=>FI (hB j hj),r⟩⟩
inductive tp (P:Program) (c:Cx) (hs:List a8) (l:List Oper):Nat→List Oper→((Nat→Value)→aG)→List cD→List cD→((Nat→Value)→aG)→Prop
 | nil {i:Nat} {SL:(Nat→Value)→aG} {S:List cD}:tp P c hs l i [] SL S S SL
 | step {i d:Nat} {o:Oper} {rest:List Oper} {SL nH:(Nat→Value)→aG} {S S':List cD} {s:cD} (hd:o.dst=some d) (fH:d<c.nt) (h:Av P c hs l i o SL S s)
   (t:tp P c hs l (i+1) rest (fun β=>(d,s.F β)::SL β) (S++[s]) S' nH):tp P c hs l i (o::rest) SL S S' nH
def nu (sl:aG) (pre:List Oper) (SL:(Nat→Value)→aG) (S:List cD):Prop:=
 ∀ β t v,cK (SL β) t=some v→(∃ (j:Nat) (oj:Oper) (s:cD),pre[j]? = some oj∧oj.dst=some t∧S[j]? = some s∧v=s.F β)∨((∀ oj∈pre,oj.dst≠some t)∧cK sl t=some v)
theorem nu.step {pre:List Oper} {SL:(Nat→Value)→aG} {S:List cD} (h:nu sl pre SL S) (hl:S.length=pre.length) {o:Oper} {d:Nat} {s:cD} (hd:o.dst=some d):nu sl (pre++[o]) (fun β=>(d,s.F β)::SL β) (S++[s]):=by
 intro β t v hv
 by_cases e:d=t
 ·subst e
  rw [fB] at hv
  cases hv
  exact .inl ⟨pre.length,o,s,by simp,hd,by rw [← hl];simp,rfl⟩
 ·rw [fA e] at hv
  rcases h β t v hv with ⟨j,oj,s',h1,h2,h3,h4⟩ | ⟨h1,h2⟩
  ·refine .inl ⟨j,oj,s',?_,h2,?_,h4⟩
   ·rw [ZI (Zl.1 h1).1];exact h1
   ·rw [ZI (Zl.1 h3).1];exact h3
  ·refine .inr ⟨fun oj J9=>?_,h2⟩
   rcases Zx.1 J9 with J9 | J9
   ·exact h1 oj J9
   ·rw [ZK.1 J9,hd];simp [e]
theorem tp.spec {i:Nat} {rest:List Oper} {SL nH:(Nat→Value)→aG} {S S':List cD} (h:tp P c hs l i rest SL S S' nH):∀ pre:List Oper,pre.length=i→S.length=i→nu sl pre SL S →
  S'.length=i+rest.length∧S <+: S'∧nu sl (pre++rest) nH S'∧∀ k o,i≤k→(pre++rest)[k]? = some o→∃ d FE s,o.dst=some d∧d<c.nt∧S'[k]? = some s∧nu sl ((pre++rest).take k) FE (S'.take k)∧Av P c hs l k o FE (S'.take k) s:=by
 induction h with
 | @nil i SL S =>
  intro pre hp hS kL
  refine ⟨by simpa using hS,List.prefix_rfl,by simpa using kL,fun k o hk ho=>?_⟩
  have:=(Zl.1 ho).1
  simp at this;omega
 | @step i d o rest SL nH S S' s hd fH bb t ih =>
  intro pre hp hS kL
  obtain ⟨h1,h2,h3,h4⟩:=ih (pre++[o]) (by simp [hp]) (by simp [hS]) (kL.step (by omega) hd)
  rw [Zh,List.singleton_append] at h3 h4
  have Gv:S <+: S':=(Zbe S [s]).trans h2
  have rp:S'[i]? = some s:=by
   obtain ⟨r,rfl⟩:=h2
   rw [Zh,ZN (by omega),hS];simp
  have YS:S'.take i=S:=by
   obtain ⟨r,rfl⟩:=Gv
   rw [← hS];simp
  refine ⟨by rw [h1];simp;omega,Gv,h3,fun k ok hk ho=>?_⟩
  by_cases e:k=i
  ·subst e
   have E7:ok=o:=by
    rw [ZN (by omega),hp] at ho
    simpa using ho.symm
   subst E7
   have htk:(pre++ok::rest).take k=pre:=by rw [← hp];simp
   rw [htk,YS]
   exact ⟨d,SL,s,hd,fH,rp,kL,bb⟩
  ·exact h4 k ok (by omega) ho
structure OF (c:Cx) (D:List Nat) (hs:List a8) (l:List Oper) (m:Nat) (S:List cD) (a0:Act) (fuel:Nat) (listed:Array Bool) (a:Act) (w:World):Prop where
 sz:listed.size=l.length
 dc:DC l (Ls listed)
 hi:∀ k,m≤k→¬ Ls listed k
 defers:a.defers=D.map mark
 size:a.tmps.size=c.nt
 BA:∀ t,(∀ (j:Nat) (o:Oper),l[j]? = some o→Ls listed j→o.dst≠some t)→a.tmps[t]? = a0.tmps[t]?
 left:∃ U:List Nat,U.Nodup∧(∀ i,i∈U↔i<l.length∧¬ Ls listed i)∧U.length=fuel
 own:∃ β:Nat→Value,Mem c (dQ β (fun i=>listed.getD i false) S 0++(hs++mw D)) w∧∀ (j:Nat) (o:Oper) (d:Nat) (s:cD),l[j]? = some o→o.dst=some d→S[j]? = some s→Ls listed j→a.tmps[d]? = some (s.F β)
def lH (n m:Nat):Array Bool:=(List.replicate m true++List.replicate (n-m) false).toArray
theorem Cb {P:Program} {dst:Option Tmp} {x:Operand} {k:Nat} {ty:TypeId} {pos:String} {af:Array Edge} {ρ:Operand→Value} {w:World} {K:Value→World→Prop}
  (h:match (execOp ρ ⟨dst,.extract x k,ty,pos,af,none⟩).run P w with
   | .ok (.value v) w'=>K v w'
   | .ok (.enter f args) w'=>w'=w∧Calls P f args w (fun e wh=>∃ v,e=.returned v∧K v wh)
   | _=>False):∃ v,K v w∧∀ w2,(execOp ρ ⟨dst,.extract x k,ty,pos,af,none⟩).run P w2=.ok (.value v) w2:=by
 simp only [execOp] at h ⊢
 generalize ρ x=u at h ⊢
 cases u with
 | tuple vs =>
  simp only [Instr.extract] at h ⊢
  cases hv:vs[k]? with
  | none=>simp [hv] at h
  | some v=>simp [hv] at h ⊢;exact h
 | _=>simp [Instr.extract] at h
def Az (l:List Oper) (p:Nat):Prop:=∃ d x k ty pos af,l[p]? = some ⟨some d,.extract x k,ty,pos,af,none⟩∧Region.noSelect l.toArray=true∧Region.free .any l.toArray ((List.range l.length).map fun j=>((iC l []).getD p 0).testBit j).toArray p=true
theorem yk {ops:Array Oper} {l1 l2:Array Bool} {i:Nat} (h:Region.free .any ops l1 i=true) (hle:∀ j,j<ops.size→j≠i→l1.getD j true=true→l2.getD j true=true):Region.free .any ops l2 i=true:=by
 unfold Region.free at h ⊢
 cases hi:ops[i]? with
 | none=>rw [hi] at h;cases h
 | some oi =>
  rw [hi] at h
  simp only [Z3,ZT] at h ⊢
  intro j hj
  have h1:=h j hj
  simp only [ZP] at h1 ⊢
  rcases h1 with (h1 | h1) | h1
  ·exact .inl (.inl h1)
  ·by_cases e:j=i
   ·exact .inl (.inl (by simp [e]))
   ·exact .inl (.inr (hle j hj e h1))
  ·exact .inr h1
theorem xL {l:List Oper} (Vd:tE l 0=true) {listed:Array Bool} (hsz:listed.size=l.length) (wJ:DC l (Ls listed)) {i:Nat} (hi:i∈Region.ready .any l.toArray listed) {j:Nat} (YE:((iC l []).getD i 0).testBit j=true):j=i∨Ls listed j:=by
 obtain ⟨o,ho,hn,hd⟩:=(dE hsz).1 hi
 have aK:i<l.length:=(Zl.1 ho).1
 have DR:DC l (fun k=>k=i∨Ls listed k):=by
  intro k ok hk hL e he hb
  rcases hL with e' | hL
  ·subst e'
   rw [ho] at hk;cases hk
   exact .inr (hd e he hb)
  ·exact .inr (wJ k ok hk hL e he hb)
 exact gZ DR Vd i aK (.inl rfl) j YE
theorem QB {p:Nat} (hc:Lv l m p) (Gv:p<m→Az l p) (WC:∀ c a w,¬ Q (.panic c) a w) {S:List cD} {nH:(Nat→Value)→aG} (Uv:tp P c hs l 0 (l.take m) (fun _=>sl) [] S nH) {a0:Act} (h0:bR sl a0) (Kc:a0.tmps.size=c.nt)
  (tail:∀ β a w,St c D (nH β) (dQ β (fun _=>true) S 0++hs) a w→wpAnyIn (FR none) 0 P .any l.toArray Q (l.length-m) (lH l.length m) a w) :
  ∀ (fuel:Nat) (listed:Array Bool) (a:Act) (w:World),OF c D hs l m S a0 fuel listed a w→wpAnyIn (FR none) 0 P .any l.toArray Q fuel listed a w:=by
 have hle:=hc.le
 have J8:nu sl [] (fun _=>sl) []:=fun β t v hv=>.inr ⟨fun oj h=>(Zq h).elim,hv⟩
 obtain ⟨B6,_,kL,fW⟩:=Uv.spec (sl:=sl) [] rfl rfl J8
 rw [Za] at kL fW
 rw [ZB,Zp,Zbi hle] at B6
 have dY:∀ (j:Nat) (o:Oper),j<m→l[j]? = some o→(l.take m)[j]? = some o:=fun j o hj ho=>by rw [ZC,if_pos hj];exact ho
 have fu:∀ (j:Nat) (o:Oper),(l.take m)[j]? = some o→j<m∧l[j]? = some o:=fun j o ho=>by
  rw [ZC] at ho
  split at ho
  ·exact ⟨by assumption,ho⟩
  ·cases ho
 have Pm:∀ j,j<m→∃ s,S[j]? = some s:=fun j hj=>⟨S[j]'(by omega),Zc (by omega)⟩
 have mA:∀ fuel listed a w,OF c D hs l m S a0 fuel listed a w→(∀ i,i<m→Ls listed i)→wpAnyIn (FR none) 0 P .any l.toArray Q fuel listed a w:=by
  intro fuel listed a w hI dT
  have hL:∀ i,i<l.length→(Ls listed i↔i<m):=fun i _=>⟨fun h=>ZQ fun hm=>hI.hi i hm h,dT i⟩
  obtain ⟨U,wK,ql,r7⟩:=hI.left
  have ic:U.Perm (List.range' m (l.length-m)):=by
   rw [Zaz wK (Zby)]
   intro i
   rw [ql i,ZaK]
   constructor
   ·rintro ⟨h1,h2⟩
    exact ⟨ZaQ fun h=>h2 (dT i h),by omega⟩
   ·rintro ⟨h1,h2⟩
    exact ⟨by omega,hI.hi i h1⟩
  have hlen:fuel=l.length-m:=by rw [← r7,ic.length_eq,Zbv]
  have Kd:listed=lH l.length m:=by
   have u9:(lH l.length m).size=l.length:=by simp [lH];omega
   apply Array.ext
   ·rw [hI.sz,u9]
   ·intro i h1 h2
    rw [hI.sz] at h1
    have h3:=hL i h1
    unfold Ls at h3
    rw [Zy,Zas (by rw [hI.sz];exact h1),Zaj] at h3
    have h4:(lH l.length m)[i]=decide (i<m):=by
     simp only [lH,List.getElem_toArray]
     by_cases hi:i<m
     ·rw [Zat (by simpa using hi)];simp [hi]
     ·rw [Zao (by simpa using hi)];simp [hi]
    rw [h4]
    by_cases hi:i<m
    ·rw [h3.2 hi];simp [hi]
    ·have:¬ listed[i]=true:=fun h=>hi (h3.1 h)
     simp [hi,this]
  subst hlen
  rw [Kd]
  obtain ⟨β,hm,gH⟩:=hI.own
  have e:dQ β (fun i=>listed.getD i false) S 0=dQ β (fun _=>true) S 0:=im fun j s hj=>by
   have ig:j<m:=by have:=(Zl.1 hj).1;omega
   rw [ZB]
   exact ⟨dT j ig,fun _=>rfl⟩
  rw [e] at hm
  refine tail β a w ⟨by rw [Zh];exact hm,fun t v hv=>?_,hI.size,hI.defers⟩
  rcases kL β t v hv with ⟨j,oj,s,h1,h2,h3,h4⟩ | ⟨h1,h2⟩
  ·obtain ⟨ig,l8⟩:=fu j oj h1
   rw [h4];exact gH j oj t s l8 h2 h3 (dT j ig)
  ·rw [hI.BA t fun j oj hj jF=>h1 oj (ZW (dY j oj (ZQ fun hm=>hI.hi j hm jF) hj))]
   exact h0 t v h2
 intro fuel
 induction fuel with
 | zero =>
  intro listed a w hI
  obtain ⟨U,_,ql,r7⟩:=hI.left
  have hU:U=[]:=Zan.1 r7
  refine mA 0 listed a w hI fun i hi=>Classical.byContradiction fun hn=>?_
  have:=(ql i).2 ⟨by omega,hn⟩
  rw [hU] at this;cases this
 | succ fuel ih =>
  intro listed a w hI
  by_cases dT:∀ i,i<m→Ls listed i
  ·exact mA _ listed a w hI dT
  ·have hex:∃ i,i<m∧¬ Ls listed i:=Classical.byContradiction fun hh=>dT fun i hi=>Classical.byContradiction fun hn=>hh ⟨i,hi,hn⟩
   obtain ⟨i0,wG,px⟩:=hex
   have main:∀ i,i∈Region.ready .any l.toArray listed→i<m→wpOpIn (FR none) 0 P l.toArray Q i (wpAnyIn (FR none) 0 P .any l.toArray Q fuel (listed.setIfInBounds i true)) a w∧(i=p→wpAnyIn (FR none) 0 P .any l.toArray Q (fuel+1) listed a w):=by
    intro i hi o8
    obtain ⟨o,ho,hn,lQ⟩:=(dE hI.sz).1 hi
    obtain ⟨d,FE,s,hd,fH,rp,sU,eG⟩:=fW i o (Zi _) (dY i o o8 ho)
    obtain ⟨zI,zJ,B,hB,iu⟩:=eG
    obtain ⟨β,hm,gH⟩:=hI.own
    have kr:∀ (j:Nat),eR o j=true→Ls listed j:=fun j hw=>by
     obtain ⟨e,he,hb,nL⟩:=c5 hw
     rw [← nL];exact lQ e he hb
    have u7:∀ (j:Nat),kc l o j=true→Ls listed j:=fun j hw=>by
     unfold kc at hw
     rw [ZP] at hw
     rcases hw with hw | hw
     ·exact kr j hw
     ·obtain ⟨k,_,hk⟩:=ZM.1 hw
      rw [Zm] at hk
      have GK:=kr k hk.1
      cases hq:l[k]? with
      | none=>rw [hq] at hk;cases hk.2
      | some q =>
       rw [hq] at hk
       obtain ⟨e,he,hb,nL⟩:=c5 hk.2
       rw [← nL]
       exact hI.dc k q hq GK e he hb
    have pI:∀ (j:Nat) (oj:Oper) (e:Nat),l[j]? = some oj→j<m→j≠i→oj.dst=some e→d≠e:=by
     intro j oj e hj ig hne he
     rcases Zbm j i with h | h
     ·exact fun e'=>(di (jX hc h o8 hj ho) he hd).1 e'.symm
     ·exact (di (jX hc (show i<j by omega) ig ho hj) hd he).1
    have iw:i<listed.size:=by rw [hI.sz];omega
    have CI:mU o=true:=hc.op o (ZW ho)
    -- AD cS P9 AD operation looks at
    have hT:∀ t∈o.looksAt l.toArray,∀ v,cK (FE β) t=some v→a.tmps[t]? = some v:=by
     intro t ht v hv
     rcases sU β t v hv with ⟨j,oj,sj,h1,h2,h3,h4⟩ | ⟨h1,h2⟩
     ·have nq:j<i:=by have:=(Zl.1 h1).1;rw [Zp] at this;omega
      rw [ZC,if_pos nq] at h1 h3
      obtain ⟨ig,l8⟩:=fu j oj h1
      have jF:=kr j ((di (jX hc nq o8 l8 ho) h2 hd).2 (.inl ht))
      rw [h4];exact gH j oj t sj l8 h2 h3 jF
     ·rw [hI.BA t fun j oj hj jF iE=>?_]
      ·exact h0 t v h2
      ·have ig:j<m:=ZQ fun hm=>hI.hi j hm jF
       rcases Zak j i with h | h | h
       ·exact h1 oj (ZW (by rw [ZC,if_pos h];exact dY j oj ig hj)) iE
       ·subst h;exact hn jF
       ·have hw:=(di (jX hc h ig ho hj) hd iE).2 (.inr ht)
        obtain ⟨e,he,hb,nL⟩:=c5 hw
        have:=hI.dc j oj hj jF e he hb
        rw [nL] at this
        exact hn this
    have vj:∀ t v,cK (FE β) t=some v→t<c.nt:=by
     intro t v hv
     rcases sU β t v hv with ⟨j,oj,sj,h1,h2,_,_⟩ | ⟨_,h2⟩
     ·have nq:j<i:=by have:=(Zl.1 h1).1;rw [Zp] at this;omega
      rw [ZC,if_pos nq] at h1
      obtain ⟨d',_,_,wa,zU,_⟩:=fW j oj (Zi _) h1
      rw [h2] at wa;cases wa
      exact zU
     ·have:=h0 t v h2
      rw [← Kc]
      exact (ZX.1 this).1
    obtain ⟨a',lR,jz,_⟩:=oG hI.size vj hT
    have zW:jD c hs (S.take i) B β w:=by
     rintro A (rfl | ⟨j,hj,sj,h1,rfl⟩)
     ·exact hm.sublist ((ZaE _ _).trans (ZaP _ _))
     ·have nq:j<i:=by have:=(Zl.1 h1).1;rw [Zp] at this;omega
      rw [ZC,if_pos nq] at h1
      have jF:=u7 j (hB j hj)
      exact hm.sublist ((qT (lst:=fun i=>listed.getD i false) (i:=0) h1 (by rw [ZB];exact jF)).append (ZaE _ _))
    have hq:=iu β a' w lR zW
    have hex:=ix (o:=o) (ops:=l.toArray) CI jz
    -- PY a done operation TB VD not Vc on this one
    have oD:∀ j,Ls listed j→∀ x k,vO l j k=true→β k=uq β i x k:=by
     intro j jF x k hk
     refine (uo fun e=>?_).symm
     subst e
     unfold vO at hk
     rw [ZP] at hk
     rcases hk with hk | hk
     ·have:j=k:=by simpa using hk
      subst this;exact hn jF
     ·have RE:j<l.length:=by
       have ig:j<m:=ZQ fun hm=>hI.hi j hm jF
       omega
      exact hn (gZ hI.dc hc.ac j RE jF k hk)
    have gL:∀ v w',G6 i s β w v w'→wpAnyIn (FR none) 0 P .any l.toArray Q fuel (listed.setIfInBounds i true) (a.put o.dst v) w':=by
     rintro v w' ⟨x,rfl,hk,fp,kU,ir,r6⟩
     refine ih _ _ _ ⟨by simpa using hI.sz,?_,?_,by rw [hd];exact hI.defers,by simpa [Act.put,hd] using hI.size,?_,?_,uq β i x,?_,?_⟩
     ·intro k ok rH hL e he hb
      rw [ct iw] at hL ⊢
      rcases hL with e' | hL
      ·subst e'
       rw [ho] at rH;cases rH
       exact .inr (lQ e he hb)
      ·exact .inr (hI.dc k ok rH hL e he hb)
     ·intro k rH hL
      rw [ct iw] at hL
      rcases hL with e | hL
      ·omega
      ·exact hI.hi k rH hL
     ·intro t ht
      have h1:d≠t:=fun e=>by subst e;exact ht i o ho ((ct iw).2 (.inl rfl)) hd
      rw [hd]
      simp only [Act.put,ZH h1]
      exact hI.BA t fun j oj hj hL=>ht j oj hj ((ct iw).2 (.inr hL))
     ·obtain ⟨U,wK,ql,r7⟩:=hI.left
      refine ⟨U.erase i,wK.erase i,fun k=>?_,?_⟩
      ·rw [wK.mem_erase_iff,ql k,ct iw]
       constructor
       ·rintro ⟨h1,h2,h3⟩
        exact ⟨h2,fun h=>h.elim h1 h3⟩
       ·rintro ⟨h1,h2⟩
        exact ⟨fun e=>h2 (.inl e),h1,fun h=>h2 (.inr h)⟩
      ·have RF:i∈U:=(ql i).2 ⟨by omega,hn⟩
       rw [ZaD RF,r7];rfl
     ·have l7:Mem c (s.A (uq β i x)++(dQ β (fun i=>listed.getD i false) S 0++(hs++mw D))) w':=Mem.Pp (As:=[]) hm fun r9 _ hf=>by
       rw [show r9=[] from hf]
       exact ⟨hk,fp,kU,ir,fun b hb=>.inr (r6 b hb)⟩
      have e1:dQ β (fun i=>listed.getD i false) S 0=dQ (uq β i x) (fun i=>listed.getD i false) S 0:=im fun j sj hj=>by
       refine ⟨rfl,fun hl=>?_⟩
       rw [ZB] at hl
       have ig:j<m:=by have:=(Zl.1 hj).1;omega
       obtain ⟨oj,J9⟩:∃ oj,l[j]? = some oj:=⟨l[j]'(by omega),Zc (by omega)⟩
       obtain ⟨_,_,s2,_,_,hs2,_,vg⟩:=fW j oj (Zi _) (dY j oj ig J9)
       rw [hj] at hs2;cases hs2
       exact vg.zJ _ _ (oD j hl x)
      rw [e1,← Zh] at l7
      refine l7.perm ((qV (k:=i) rp ?_ ?_ ?_).append_right _)
      ·rw [ZB]
       show listed.getD i false=false
       have:¬ listed.getD i false=true:=hn
       simpa using this
      ·rw [ZB];exact (ct iw).2 (.inl rfl)
      ·intro j hj
       rw [ZB] at hj
       simp [Zy,ZH (Ne.symm hj)]
     ·intro j oj e sj hj he jH hL
      rw [ct iw] at hL
      by_cases nq:j=i
      ·subst nq
       rw [ho] at hj;cases hj
       rw [hd] at he;cases he
       rw [rp] at jH;cases jH
       rw [hd]
       simp [Act.put,hI.size,fH]
      ·have AN:=hL.resolve_left nq
       have ig:j<m:=ZQ fun hm=>hI.hi j hm AN
       obtain ⟨_,_,s2,_,_,hs2,_,vg⟩:=fW j oj (Zi _) (dY j oj ig hj)
       rw [jH] at hs2;cases hs2
       rw [hd]
       simp only [Act.put,ZH (pI j oj e hj ig nq he)]
       rw [← vg.zI _ _ (oD j AN x)]
       exact gH j oj e sj hj he jH AN
    have O4:=hq
    refine ⟨?_,fun UP=>?_⟩
    rotate_left
    ·subst UP
     obtain ⟨d',x',k',WO,pos',af',BY,Rb,eP⟩:=Gv o8
     rw [ho] at BY;cases BY
     rw [if_pos (by simp [Region.wanted])] at O4
     unfold pz at O4
     obtain ⟨v,hv,B5⟩:=Cb O4
     have r6:Region.free .any l.toArray listed i=true:=yk eP fun j hj hne hb=>by
      have l8:j<l.length:=by simpa using hj
      have dA:((iC l []).getD i 0).testBit j=true:=by
       rw [Zy] at hb
       simpa [l8] using hb
      have Yb:j<listed.size:=by rw [hI.sz];exact l8
      rcases xL hc.ac hI.sz hI.dc hi dA with e | hL
      ·exact absurd e hne
      ·unfold Ls at hL
       rw [Zy,Zas Yb] at hL ⊢
       exact hL
     refine wpAnyIn_take (oi:=⟨some d',.extract x' k',WO,pos',af',none⟩) (v:=v) rfl (by simpa using ho) Rb r6 (by simpa using hi) (fun c a w h=>(WC c _ w h).elim) ⟨.inl ⟨by simp [Region.wanted],fun w2=>by rw [← hex];exact B5 w2⟩,fun w2=>rfl⟩ (gL v w hv)
    unfold wpOpIn
    rw [show l.toArray[i]? = some o from by simpa using ho]
    simp only []
    rw [gU jz] at hq
    split
    ·rename_i hw
     rw [if_pos hw] at hq
     refine ⟨dM _ _ _ _ _,?_⟩
     rw [Oper.semAt_eq _ _ _ (fun cc he=>by simp [mU,he] at CI),← hex]
     unfold pz at hq
     revert hq
     generalize (execOp a'.eval o).run P w=res
     intro hq
     match res,hq with
     | .ok (.value v) w',hq=>exact gL v w' hq
     | .ok (.enter f args) w', ⟨e, cr⟩ =>
      subst e
      refine ⟨by simp [FR,Fence.wide],(ie cr).mono fun e wh h=>?_⟩
      obtain ⟨v,rfl,hq⟩:=h
      exact gL v wh hq
    ·rename_i hw
     rw [if_neg hw] at hq
     exact ⟨fun _ _=>trivial,gL undef w hq⟩
   by_cases hp:p<m∧p∈Region.ready .any l.toArray listed
   ·exact (main p hp.2 hp.1).2 rfl
   ·refine ⟨fun hr=>?_,fun i hi=>?_⟩
    ·obtain ⟨i,hi⟩:=ji hI.sz hc.ac ⟨i0,by omega,px⟩
     rw [hr] at hi;cases hi
    ·have o8:i<m:=ZQ fun hm=>by
      have LL:=sH hc hI.sz hI.dc hi hm
      by_cases J6:p<m
      ·by_cases Vi:Ls listed p
       ·exact px (by
         by_cases e:i0=p
         ·rw [e];exact Vi
         ·exact LL i0 wG e)
       ·refine hp ⟨J6,(dE hI.sz).2 ⟨l[p]'(by omega),Zc (by omega),Vi,fun e he hb=>?_⟩⟩
        have aK:=jO hc.ac (Zc (show p<l.length by omega)) e he hb
        exact LL e.on (by omega) (by omega)
      ·exact px (LL i0 wG (by omega))
     exact (main i hi o8).1
def oQ (P:Program) (c:Cx) (D:List Nat) (hs:List a8) (l:List Oper) (Q:Exit→Act→World→Prop) (m i n:Nat) (rest:List Oper) (SL:(Nat→Value)→aG) (S:List cD):Prop:=
 ∃ S' nH,tp P c hs l i (rest.take n) SL S S' nH∧∀ β,Tr c D (nH β) (dQ β (fun _=>true) S' 0++hs) (Left P l.toArray Q (l.length-m) (lH l.length m))
theorem dK {id:Nat} (m:Nat) [qh:SG P] (fK:Ia l m=true) (k:oQ P c D hs l Q m 0 m l (fun _=>sl) []):Tr c D sl hs (WP P none (.region id l.toArray true) Q):=fun a w bb=>by
 obtain ⟨S,nH,hp,ht⟩:=k
 have h:(Code.region id l.toArray true).wpIn (FR none) 0 P (NP Q) a w:=wpIn_region_any qh.eq (by
  refine QB (p:=m) (sG fK) (fun h=>absurd h (Nat.lt_irrefl _)) (fun c a w h=>h.elim) hp bb.cS bb.size (fun β a w bb=>ht β a w bb) l.toArray.size _ _ _ ⟨by simp,?_,?_,bb.defers,bb.size,fun t _=>rfl,?_,fun _=>undef,?_,?_⟩
  ·exact fun k o _ hL=>absurd hL (eQ _ _)
  ·exact fun k _ hL=>eQ _ _ hL
  ·exact ⟨List.range l.length,Zbs,fun i=>⟨fun h=>⟨by simpa using h,eQ _ _⟩,fun h=>by simpa using h.1⟩,by simp⟩
  ·have e:∀ (T:List cD) (i:Nat),dQ (fun _=>undef) (fun i=>(Array.replicate l.toArray.size false).getD i false) T i=[]:=by
    intro T
    induction T with
    | nil=>intro i;rfl
    | cons s T ih =>
     intro i
     have:=eQ l.toArray.size i
     unfold Ls at this
     unfold dQ
     rw [if_neg this,ih];rfl
   rw [e]
   exact bb.mem.drew
  ·exact fun j o d s _ _ _ hL=>absurd hL (eQ _ _))
 exact wpIn_mono h fun e a' w' h=>by
  cases e with
  | panic c=>exact h.elim
  | _=>exact h
end
end Go.SL
namespace Go.SL
open Go
def fL:Value→Nat
 | .int _ n=>n.toNat
 | _=>0
theorem o9 (b:Nat):fL (.int .i64 (b:Int))=b:=by simp [fL]
def wc:Value→Option Addr×Nat
 | .slice a _ c=>(a,c)
 | _=>(none,0)
def eu (β:Nat→Value):List cD→List a8
 | []=>[]
 | s::S=>s.A β++eu β S
theorem Bv (β:Nat→Value):∀ (S:List cD) (i:Nat),dQ β (fun _=>true) S i=eu β S
 | [],_=>rfl
 | s::S,i=>by rw [dQ,eu,if_pos rfl,Bv β S]
section
variable {P:Program} {c:Cx} {D:List Nat} {sl:aG} {hs hs':List a8} {X:Act→World→Prop} {Q:Exit→Act→World→Prop} {l:List Oper} {m i n d:Nat} {op:Op} {ty:TypeId} {pos:String} {af:Array Edge} {rest:List Oper} {SL:(Nat→Value)→aG} {S:List cD}
theorem iY (l:List Oper) (i:Nat):vO l i i=true:=by simp [vO]
theorem rE {o:Oper} {s:cD} (hd:o.dst=some d) (fH:Nat.blt d c.nt=true) (h:Ei P c hs l i o SL S s) (k:oQ P c D hs l Q m (i+1) n rest (fun β=>(d,s.F β)::SL β) (S++[s])):oQ P c D hs l Q m i (n+1) (o::rest) SL S:=by
 obtain ⟨S',nH,hp,ht⟩:=k
 exact ⟨S',nH,.step hd (by simpa [Z4] using fH) h.toT hp,ht⟩
theorem c8 {dst:Option Tmp} {j gs:Nat} {want:Bool} (hj:((l.toArray[j]?).bind (·.dst))=some gs) (hq:∀ β,cK (SL β) gs=some (.bool want))
  (k:oQ P c D hs l Q m i (n+1) (⟨dst,op,ty,pos,af,none⟩::rest) SL S):oQ P c D hs l Q m i (n+1) (⟨dst,op,ty,pos,af,some (j,want)⟩::rest) SL S:=by
 obtain ⟨S',nH,hp,ht⟩:=k
 refine ⟨S',nH,?_,ht⟩
 cases hp with
 | step hd fH h t =>
  obtain ⟨h1,h2,B,hB,hr⟩:=h
  refine .step hd fH ⟨h1,h2,B,hB,fun β a w hs1 hb=>?_⟩ t
  have:=hr β a w hs1 hb
  rw [if_pos (by simp [Region.wanted])] at this
  rw [kS (o:=⟨dst,op,ty,pos,af,some (j,want)⟩) (c0:=true) rfl hj hs1 (by rw [hq β];rfl),if_pos (by simp)]
  exact this
theorem dG {j gs:Nat} {want:Bool} {v:Value} (hj:((l.toArray[j]?).bind (·.dst))=some gs) (hq:∀ β,cK (SL β) gs=some v) (hv:v=undef∨v=.bool (!want)) (hd:Nat.blt d c.nt=true)
  (k:oQ P c D hs l Q m (i+1) n rest (fun β=>(d,undef)::SL β) (S++[⟨fun _=>undef,fun _=>[]⟩])):oQ P c D hs l Q m i (n+1) (⟨some d,op,ty,pos,af,some (j,want)⟩::rest) SL S:=
 rE (s:=⟨fun _=>undef,fun _=>[]⟩) rfl hd ⟨fun _ _ _=>rfl,fun _ _ _=>rfl,[],by simp,fun β a w h1 h2=>by
  have hw:∃ c0 q,gv c0 (.bool q)=v∧(c0&&(q==want))=false:=by
   rcases hv with e | e
   ·exact ⟨false,want,by rw [e];rfl,rfl⟩
   ·exact ⟨true,!want,by rw [e];rfl,by cases want <;> rfl⟩
  obtain ⟨c0,q,e,S1⟩:=hw
  rw [kS (o:=⟨some d,op,ty,pos,af,some (j,want)⟩) (c0:=c0) (q:=q) rfl hj h1 (by rw [hq β,e]),if_neg (by simpa using S1)]
  exact ⟨β i,rfl,.refl _ _,[],Zam,rfl,by simp⟩⟩ k
theorem fh (k:∀ β,Tr c D (SL β) (eu β S++hs) (Left P l.toArray Q (l.length-m) (lH l.length m))):oQ P c D hs l Q m i 0 rest SL S:=
 ⟨S,SL,.nil,fun β=>by rw [Bv];exact k β⟩
theorem au {F:(Nat→Value)→Value} (hr:∀ β,cR P c (SL β) hs ⟨some d,op,ty,pos,af,none⟩ (F β)) (hi:nw l i F) (hd:Nat.blt d c.nt=true) (k:oQ P c D hs l Q m (i+1) n rest (fun β=>(d,F β)::SL β) (S++[⟨F,fun _=>[]⟩])) :
  oQ P c D hs l Q m i (n+1) (⟨some d,op,ty,pos,af,none⟩::rest) SL S:=
 rE (s:=⟨F,fun _=>[]⟩) rfl hd ⟨hi,fun _ _ _=>rfl,[],by simp,fun β a w h1 h2=>by
  rw [if_pos (by simp [Region.wanted])]
  unfold pz
  rw [(hr β).2 a w h1 h2.mem]
  exact ⟨β i,by rw [um],.refl _ _,[],Zam,rfl,by simp⟩⟩ k
theorem cZ {f:FuncId} {args:(Nat→Value)→List Value} {F:(Nat→Value)→Value} (B:List Nat) (hB:(B.all fun j=>eR ⟨some d,op,ty,pos,af,none⟩ j)=true) (hr:∀ β,lG P (SL β) ⟨some d,op,ty,pos,af,none⟩ f (args β)) (hi:nw l i F) (hd:Nat.blt d c.nt=true)
  (hc:∀ β w,jD c hs S B β w→aj P f (args β) w (F β)) (k:oQ P c D hs l Q m (i+1) n rest (fun β=>(d,F β)::SL β) (S++[⟨F,fun _=>[]⟩])) :
  oQ P c D hs l Q m i (n+1) (⟨some d,op,ty,pos,af,none⟩::rest) SL S:=
 rE (s:=⟨F,fun _=>[]⟩) rfl hd ⟨hi,fun _ _ _=>rfl,B,fun j hj=>Z3.1 hB j hj,fun β a w h1 h2=>by
  rw [if_pos (by simp [Region.wanted])]
  unfold pz
  rw [(hr β).2 a w h1]
  exact ⟨rfl,(hc β w h2).mono fun e w' ⟨he,hk⟩=>⟨F β,he,β i,by rw [um],hk,[],Zam,rfl,by simp⟩⟩⟩ k
theorem dH {ι:Type} {Φ:ι→Prop} {val:ι→Value} {own:ι→List a8} (g:Value→ι) (hg:∀ x,∃ v,g v=x) {f:FuncId} {args:(Nat→Value)→List Value} (B:List Nat) (hB:(B.all fun j=>eR ⟨some d,op,ty,pos,af,none⟩ j)=true)
  (hr:∀ β,lG P (SL β) ⟨some d,op,ty,pos,af,none⟩ f (args β)) (hd:Nat.blt d c.nt=true) (hc:∀ β w,jD c hs S B β w→bh P f (args β) w [] Φ val own)
  (k:oQ P c D hs l Q m (i+1) n rest (fun β=>(d,val (g (β i)))::SL β) (S++[⟨fun β=>val (g (β i)),fun β=>own (g (β i))⟩])) :
  oQ P c D hs l Q m i (n+1) (⟨some d,op,ty,pos,af,none⟩::rest) SL S:=
 rE (s:=⟨fun β=>val (g (β i)),fun β=>own (g (β i))⟩) rfl hd ⟨fun β β' h=>by simp only [h i (iY l i)],fun β β' h=>by simp only [h i (iY l i)],B,fun j hj=>Z3.1 hB j hj,fun β a w h1 h2=>by
  rw [if_pos (by simp [Region.wanted])]
  unfold pz
  rw [(hr β).2 a w h1]
  refine ⟨rfl,(hc β w h2).mono fun e w' ⟨x,he,_,hk,fp,hn,hs',hf⟩=>?_⟩
  obtain ⟨v,hv⟩:=hg x
  refine ⟨val x,he,v,by simp only [kd,hv],hk,fp,hn,by simp only [kd,hv];exact hs',fun b hb=>?_⟩
  rcases hf b hb with h | h
  ·cases h
  ·exact h⟩ k
theorem lu {V:Nat→Value} {ob:(Nat→Value)→Obj} (hr:∀ β,qD P c (SL β) hs ⟨some d,op,ty,pos,af,none⟩ V (ob β)) (hi:∀ β β',(∀ k,k≠i→vO l i k=true→β k=β' k)→ob β=ob β') (hd:Nat.blt d c.nt=true)
  (k:oQ P c D hs l Q m (i+1) n rest (fun β=>(d,V (fL (β i)))::SL β) (S++[⟨fun β=>V (fL (β i)),fun β=>[bG (fL (β i)) (ob β)]⟩])) :
  oQ P c D hs l Q m i (n+1) (⟨some d,op,ty,pos,af,none⟩::rest) SL S:=
 rE (s:=⟨fun β=>V (fL (β i)),fun β=>[bG (fL (β i)) (ob β)]⟩) rfl hd ⟨fun β β' h=>by simp only [h i (iY l i)],fun β β' h=>by simp only [h i (iY l i),hi β β' fun k _ hk=>h k hk],[],by simp,fun β a w h1 h2=>by
  rw [if_pos (by simp [Region.wanted])]
  unfold pz
  rw [(hr β).2 a w h1 h2.mem]
  have e:ob (uq β i (.int .i64 (w.heap.size:Int)))=ob β:=hi _ _ fun k hk _=>uo hk
  exact ⟨.int .i64 (w.heap.size:Int),by simp only [kd,o9],.alloc _ _ _,[w.heap.size],by simp,⟨[w.heap.size],[],rfl,⟨by simp only [kd,o9],by simp only [kd,o9];rw [e];exact World.alloc_heap_new w (ob β)⟩,rfl⟩,by simp⟩⟩ k
end
end Go.SL
namespace Go.SL
open Go
section
variable {P:Program} {c:Cx} {sl:aG} {hs:List a8} {dst:Option Tmp} {ty:TypeId} {pos:String} {af:Array Edge} {g:Option (Nat×Bool)}
theorem dP {x:Operand} {a:Addr} (hx:Is sl x (.pointer (some a))):cR P c sl hs ⟨dst,.nilCheck x,ty,pos,af,g⟩ (.pointer (some a)):=
 ⟨by simp,fun ac w ha _=>by simp [execOp,hx ac ha]⟩
end
section
variable {P:Program} {c:Cx} {D:List Nat} {hs:List a8} {Q:Exit→Act→World→Prop} {l:List Oper} {m i n d:Nat} {op:Op} {ty:TypeId} {pos:String} {af:Array Edge} {rest:List Oper} {SL:(Nat→Value)→aG} {S:List cD}
theorem dz {v:Value}:nw l i (fun _=>v):=fun _ _ _=>rfl
end
section
variable {P:Program} {c:Cx} {D:List Nat} {sl:aG} {hs:List a8} {Q:Exit→Act→World→Prop} {ops:Array Oper} {fuel:Nat} {listed:Array Bool}
end
section
variable {P:Program} {r:Option Nat} {c:Cx} {D:List Nat} {sl:aG} {hs:List a8} {Q:Exit→Act→World→Prop} {ops:Array Oper} {fuel i:Nat} {listed:Array Bool}
def yA (P:Program) (r:Option Nat) (ops:Array Oper) (Q:Exit→Act→World→Prop) (fuel:Nat) (listed:Array Bool):Act→World→Prop:=wpAnyIn (FR r) 0 P .any ops (NP Q) fuel listed
def PR (P:Program) (r:Option Nat) (c:Cx) (D:List Nat) (sl:aG) (hs:List a8) (ops:Array Oper) (Q:Exit→Act→World→Prop) (fuel:Nat) (listed:Array Bool) (i:Nat):Prop:=
 ∀ a w,St c D sl hs a w→wpOpIn (FR r) 0 P ops (NP Q) i (yA P r ops Q fuel (listed.setIfInBounds i true)) a w
theorem sN {rs:List Nat} (hr:Region.ready .any ops listed=rs) (hne:rs≠[]) (h:∀ i∈rs,PR P r c D sl hs ops Q fuel listed i):Tr c D sl hs (yA P r ops Q (fuel+1) listed):=fun a w bb=>
 wpAnyIn_all hr hne fun i hi=>h i hi a w bb
theorem uU {d:Option Tmp} {op:Op} {ty:TypeId} {pos:String} {af:Array Edge} {g:Option (Nat×Bool)} (hi:ops[i]? = some ⟨d,op,ty,pos,af,g⟩) (h:Tr c D sl hs (WL P r ops (Exit.then (yA P r ops Q fuel (listed.setIfInBounds i true)) (NP Q)) [⟨d,op,ty,pos,af,g⟩])):PR P r c D sl hs ops Q fuel listed i:=fun a w bb=>by
 have h1:=h a w bb
 unfold wpOpIn
 simp only [hi]
 unfold WL at h1
 split
 ·rename_i hw
  rw [if_pos hw] at h1
  exact Oper.uh (fun a w h=>h) (fun c a w h=>h) (fun h=>h) h1
 ·rename_i hw
  rw [if_neg hw] at h1
  exact ⟨fun _ _=>trivial,h1⟩
theorem DD (hr:Region.ready .any ops listed=[]) (k:Tr c D sl hs (Q .normal)):Tr c D sl hs (yA P r ops Q fuel listed):=fun a w bb=>
 wpAnyIn_done (Q:=NP Q) hr (k a w bb) fuel
end
end Go.SL
namespace Go.SL
open Go
variable {P:Program} {c:Cx} {sl:aG} {hs:List a8} {dst:Option Tmp} {ty:TypeId} {pos:String} {af:Array Edge} {g:Option (Nat×Bool)}
end Go.SL
namespace Go.SL
open Go
section
variable {P:Program} {c:Cx} {sl:aG} {hs:List a8} {dst:Option Tmp} {ty:TypeId} {pos:String} {af:Array Edge} {g:Option (Nat×Bool)}
theorem xI {t e:TypeId} {m n:Nat} {agg:Bool} {x:Operand} {b o:Nat} [hu:iF P t (.array m e)] [hT:Ty P e agg n] (hx:Is sl x (.pointer (some ⟨b,o,none⟩))) :
  cR P c sl hs ⟨dst,.slice t x none none none,ty,pos,af,g⟩ (.slice (some ⟨b,o,none⟩) m m):=
 ⟨by simp,fun ac w ha _=>by
  simp only [execOp,hx ac ha,Option.map]
  refine value_of ?_
  simp [Instr.sliceAt,aU hu.eq,Instr.sureAddr,Instr.sliceBounds,fT (t:=e) (agg:=agg) (n:=n),eI]⟩
end
end Go.SL
namespace Go.Proofs.A1
open Go Go.SL
theorem OU (x:Int) (w:World):aj Tryz.prog 342 [.int .i64 x] w (.bool false):=by
 refine ah Tryz.func342 rfl rfl ?_
 refine Jr<|Ja rfl<|Ji<|Jv rfl<|Jv rfl<|JD rfl<|Ja rfl<|Jn<|Je<|JT ?_
 simp
theorem Ch (x y:Int) (w:World):aj Tryz.prog 300 [.int .i64 x,.int .i64 y] w (.int .i64 (km x y)):=by
 refine ah Tryz.func300 rfl rfl ?_
 (refine Jr<|Ja rfl<|Ji<|Jv rfl<|ai bL rfl (fun w' aB=>(OU x w'))<|Ja rfl<|Ji<|Jv rfl<|ai bL rfl (fun w' aB=>(OU y w'))<|Ja rfl<|Jn<|Jq<|Jr<|Jv rfl<|Jn<|bN (.of rfl)<|Jk<|Jq<|Jr<|Jv rfl<|Jn<|bN (.of rfl)<|Jk<|Jq<|Jr<|Jv rfl<|Jv rfl<|JA rfl<|Jn<|fP rfl (fun ar=>?_) fun ar=>?_;refine Jr<|Ja rfl<|Jn<|Ju<|JT ?_;rotate_left;refine Jk<|Jq<|Jr<|Jv rfl<|Jv rfl<|JE rfl<|Jn<|fP rfl (fun ar=>?_) fun ar=>?_;refine Jr<|Ja rfl<|Jn<|Ju<|JT ?_;rotate_left;refine Jk<|Jr<|Ja rfl<|Jn<|Je<|JT ?_;rotate_right;rotate_right)
 ·rw [km,if_pos ar]
 ·rename_i h1
  rw [km,if_neg h1,if_pos ar]
 ·rename_i h1
  rw [km,if_neg h1,if_neg ar]
theorem TT {lv:Value} {l:List Int} {w:World} (h:Rd w lv 1 (ints l)):aj Tryz.prog 319 [lv] w (.int .i64 (aV l)):=by
 obtain ⟨a,cp,b,o,rfl,c7,bQ,ha,hc⟩:=h
 rw [cY] at *
 unfold maxLen at bQ
 refine ah Tryz.func319 rfl rfl ?_
 refine Jr<|Ja rfl<|Ji<|Ja rfl<|Jn<|Jq<|Jr<|Jv rfl<|JI rfl<|Jv rfl<|Jn<|J0 ?_
 refine aX (fun k:Nat=>k≤l.length∧aV l=aV (l.drop k)) (fun k=>[(8,.int .i64 k),(7,.int .i64 l.length),(6,.slice a l.length cp),(3,.int .i64 0)]) (fun _=>[]) (fun k=>l.length-k) ?_ ?_
 ·apply aI 0 ⟨Zi _,rfl⟩
  case hs1=>exact cd
  case ht=>(try simp only [Ze,Zf,Za]);exact .nil
 rintro k ⟨hk,hf⟩
 by_cases aK:k<l.length
 ·have cB:=ha (jy aK)
  have c0:w.cell? ⟨b,o+k*1,none⟩=some (.int .i64 l[k]):=(hc k _ (hP aK)).2 0 _ rfl
  have jd:=sg aK
  (refine Jr<|JA rfl<|Jn<|Jq<|Jd rfl fun ar=>Jk<|Jq<|J0<|Jr<|ab (fG cB ar) rfl<|ab (ag (.of rfl) (At.base c0 rfl)) rfl<|Ja rfl<|Ji<|Jv rfl<|Jv rfl<|JD rfl<|Jn<|fP rfl (fun ar=>?_) fun ar=>?_;refine Jr<|Jv rfl<|Ja rfl<|Jn<|Je<|Jm<|Jh<|Jh<|Jm<|Jh<|JT ?_;rotate_left;refine Jw<|Jj<|Jt<|Jg<|JB rfl (by omega)<|Jv rfl<|Jn ?_;rotate_right)
  ·rw [hf,jd,if_pos ar]
  ·apply aJ (k+1) ⟨by omega,by rw [hf,jd,if_neg ar]⟩ (by omega)
   case hs1=>exact cd
   case ht=>(try simp only [Ze,Zf,Za]);exact .nil
 ·rw [List.drop_eq_nil_of_le (by omega)] at hf
  refine Jr<|JA rfl<|Jn<|Jq<|Jc rfl fun ar=>Jp<|Jl<|Jo<|Jt<|Jr<|Jv rfl<|Ja rfl<|Jn<|Je<|JT ?_
  rw [hf];rfl
theorem yr {lv mv:Value} {l m:List Int} {w:World} (h:Rd w lv 1 (ints l)) (h':Rd w mv 1 (ints m)):aj Tryz.prog 236 [lv,mv] w (.int .i64 (lE l m)):=by
 obtain ⟨a,cp,b,o,rfl,c7,bQ,ha,hc⟩:=h
 rw [cY] at *
 obtain ⟨a',Tb,b',o',rfl,oE,O8,cB,Wz⟩:=h'
 rw [cY] at *
 unfold maxLen at bQ O8
 refine ah Tryz.func236 rfl rfl ?_
 refine Jr<|Ja rfl<|Jn<|Jq<|Jr<|Jv rfl<|JI rfl<|Jv rfl<|Jn<|J0 ?_
 refine aX (fun k:Nat=>k≤l.length∧k≤m.length∧lE l m=lE (l.drop k) (m.drop k)) (fun k=>[(11,.int .i64 k),(10,.int .i64 l.length),(9,.slice a l.length cp),(0,.slice a l.length cp),(1,.slice a' m.length Tb)]) (fun _=>[]) (fun k=>l.length-k) ?_ ?_
 ·apply aI 0 ⟨Zi _,Zi _,rfl⟩
  case hs1=>exact cd
  case ht=>(try simp only [Ze,Zf,Za]);exact .nil
 rintro k ⟨hk,rH,hf⟩
 by_cases aK:k<l.length
 ·have lR:=ha (jy aK)
  have c0:w.cell? ⟨b,o+k*1,none⟩=some (.int .i64 l[k]):=(hc k _ (hP aK)).2 0 _ rfl
  by_cases nf:k<m.length
  ·have jz:=cB (jy nf)
   have c1:w.cell? ⟨b',o'+k*1,none⟩=some (.int .i64 m[k]):=(Wz k _ (hP nf)).2 0 _ rfl
   have jd:=GW aK nf
   (refine Jr<|JA rfl<|Jn<|Jq<|Jd rfl fun ar=>Jk<|Jq<|J0<|Jr<|Jv rfl<|ab (fG lR ar) rfl<|ab (ag (.of rfl) (At.base c0 rfl)) rfl<|Ja rfl<|Ja rfl<|Jn<|Jq<|Jr<|Jv rfl<|Jv rfl<|JI rfl<|JG rfl<|Jn<|Jc rfl fun ar=>Jk<|Jr<|Jv rfl<|Jv rfl<|ab (az (.of rfl) (.of rfl) jz (by omega) (by omega) bj) rfl<|ab (ag (.of rfl) (At.base c1 rfl)) rfl<|Ja rfl<|Ji<|Jv rfl<|Jv rfl<|ai bd rfl (fun w' aB=>(Ch _ _ w'))<|Ja rfl<|Ji<|Jv rfl<|JD rfl<|Jn<|fP rfl (fun ar=>?_) fun ar=>?_;refine Jr<|Jv rfl<|Ja rfl<|Jn<|Je<|Jm<|Jh<|Jh<|Jm<|Jh<|JT ?_;rotate_left;refine Jw<|Jj<|Jt<|Jg<|JB rfl (by omega)<|Jv rfl<|Jn ?_;rotate_right)
   ·rw [hf,jd,if_pos ar]
   ·apply aJ (k+1) ⟨by omega,by omega,by rw [hf,jd,if_neg ar]⟩ (by omega)
    case hs1=>exact cd
    case ht=>(try simp only [Ze,Zf,Za]);exact .nil
  ·rw [Zw aK,List.drop_eq_nil_of_le (show m.length≤k by omega)] at hf
   (refine Jr<|JA rfl<|Jn<|Jq<|Jd rfl fun ar=>Jk<|Jq<|J0<|Jr<|Jv rfl<|ab (fG lR ar) rfl<|ab (ag (.of rfl) (At.base c0 rfl)) rfl<|Ja rfl<|Ja rfl<|Jn<|Jq<|Jr<|Jv rfl<|Jv rfl<|JI rfl<|JG rfl<|Jn<|Jd rfl fun ar=>Jr<|Ja rfl<|Jn<|Ju<|Jm<|Jh<|Jh<|Jm<|Jh<|JT ?_)
   rw [hf];rfl
 ·rw [List.drop_eq_nil_of_le (show l.length≤k by omega),KX,Zba] at hf
  by_cases nf:k<m.length
  ·rw [if_pos (by omega)] at hf
   refine Jr<|JA rfl<|Jn<|Jq<|Jc rfl fun ar=>Jp<|Jl<|Jo<|Jt<|Jq<|Jr<|Jv rfl<|JI rfl<|Jv rfl<|JI rfl<|JA rfl<|Jn<|Jd rfl fun ar=>Jr<|Ja rfl<|Jn<|Ju<|JT ?_
   rw [hf]
  ·rw [if_neg (by omega)] at hf
   refine Jr<|JA rfl<|Jn<|Jq<|Jc rfl fun ar=>Jp<|Jl<|Jo<|Jt<|Jq<|Jr<|Jv rfl<|JI rfl<|Jv rfl<|JI rfl<|JA rfl<|Jn<|Jc rfl fun ar=>Jk<|Jr<|Ja rfl<|Jn<|Je<|JT ?_
   rw [hf]
def nA (r:Ro) (x:Ti):Int:=aV [eV r x.fr,eV r x.to,bW (decide (x.fr=x.to)) 24]
theorem Oo {r:Ro} {s d t p:Value} (x:Ti) {w w1:World} (h:RR w1 r s d t p):aj Tryz.prog 145 [RA r s d t p,.agg x.cells.toArray] w (.int .i64 (nA r x)):=by
 have h1:=Rd.one h.sr
 have h2:=Rd.one h.de
 have h3:=Rd.one h.ti
 have h4:=Rd.one h.po
 have US:∀ m w',aj Tryz.prog 136 [.agg #[.int .i64 r.lv,.int .i64 r.ma,s,d,t,p],.int .i64 m] w' (.int .i64 (eV r m)):=fun m w'=>Fa m h
 unfold RA Ti.cells
 refine ah Tryz.func145 rfl rfl ?_
 (refine Jr<|Jy rfl rfl fun _ _=>Jy rfl rfl fun _ _=>Ja rfl<|Ji<|bP rfl rfl ae<|JL rfl .here rfl<|bP rfl rfl ae<|JL rfl .here rfl<|ab (aS (.cons (.of rfl) (.cons (.of rfl) .nil)) ak) rfl<|Jz rfl rfl fun _ _=>aq (.of rfl) (.of rfl) .here rfl rfl (fN rfl rfl) (bF rfl) ak<|Jn<|Jq ?_)
 with_reducible refine cQ 17 (by kernel_rfl) ?_
 (refine an (cL bT) rfl<|an kB rfl<|an (gT (.there .here)) rfl<|aT bd rfl (fun w' aB=>(US _ w'))<|an (cL bT) rfl<|an kB rfl<|an (gT (.there .here)) rfl<|aT bd rfl (fun w' aB=>(US _ w'))<|an (cL .here) rfl<|an kB rfl<|an (gT (.there .here)) rfl<|an kB rfl<|an (gT (.there .here)) rfl<|an (aS (.cons (.of rfl) (.cons (.of rfl) .nil)) ak) rfl<|an (tP (.of rfl) (.of rfl) (jQ (jQ lP)) rfl) rfl<|aT bd rfl (fun w' aB=>(dU _ 24 w'))<|ek (aD (.cons (.of rfl) (.cons (.of rfl) (.cons (.of rfl) .nil))) rfl rfl rfl rfl) rfl rfl ?_)
 with_reducible refine dp rfl fun bq mN=>?_
 (refine ai bL rfl (fun w' aB=>(dN (Mem.dh aB .here rfl rfl) (bU.cons (bU.cons (bU.cons bU.nil)))))<|Ja rfl<|Jn<|Je<|JT ?_)
 have e:(decide True&&(decide (x.to=x.fr)&&true))=decide (x.fr=x.to):=by
  rw [ZaY];simp [eq_comm]
 unfold nA
 rw [← e]
theorem uI {P:Program} {c:Cx} {sl:aG} {hs:List a8} {dst:Option Tmp} {ty:TypeId} {pos:String} {af:Array Edge} {g:Option (Nat×Bool)} {t kt et:TypeId} {x y:Operand} {b:Nat} {k:ByteArray} {l:List (ByteArray×Value)} {z V:Value} [hu:iF P t (.map kt et)] [GC:iF P kt .string] [hz:lF P et z]
  (hx:Is sl x (.map (some b))) (hy:Is sl y (.string k)) (hl:Looks c hs b (fun s:ByteArray=>Value.string s) l) (e:(eA k l).getD z=V) :
  cR P c sl hs ⟨dst,.lookup t x y true,ty,pos,af,g⟩ (.tuple #[V,.bool (eA k l).isSome]):=e ▸ Dm I3 hx hy hl
theorem Ir {r:Ro} (hd:CN r) (s:ByteArray):∃ (a b c:Int) (one:Bool),(eA s (oe r)).getD (lC 0 0 0)=lC a b c∧(eA s (oe r)).isSome=one∧(one=true→a=dW r s∧b=kq r s∧c=jZ r s)∧(one=false→kq r s<0∧jZ r s<0):=by
 rw [pW hd]
 cases h:iX (ef r) s with
 | true=>exact ⟨_,_,_,true,rfl,rfl,fun _=>⟨rfl,rfl,rfl⟩,fun h=>by cases h⟩
 | false =>
  refine ⟨0,0,0,false,rfl,rfl,(fun h=>by cases h),fun _=>?_⟩
  have hn:s ∉ ef r:=fun hm=>by rw [fc.2 hm] at h;cases h
  unfold ef at hn
  rw [Zx,Zx,not_or,not_or] at hn
  have e1:=cm.2 hn.1.1
  have e2:=cm.2 hn.1.2
  have e3:=cm.2 hn.2
  unfold kq jZ
  rw [if_neg (by omega),if_neg (by omega),if_neg (by omega),if_neg (by omega)]
  omega
def l6 (r:Ro) (x:Po):Int:=aV [fy x.lv 0 (r.lv-1),bW (decide (kq r x.ou<0)) 10,bW (decide (jZ r x.ip<0)) 10,bW (decide (kq r x.ou≠jZ r x.ip)) 24]
def Ec (r:Ro):Option Po→List Int
 | none=>[-1,-1]
 | some x=>[x.lv,dW r x.ou]
def Ge (r:Ro) (po:List Po) (k:Nat):Int:=
 match po[k]? with
 | none=>0
 | some x=>if l6 r x≠0 then l6 r x else if lE [x.lv,dW r x.ou] (Ec r (if k=0 then none else po[k-1]?))≤0 then 11 else 0
theorem q5 {r:Ro} {po:List Po} {k:Nat} (h:k<po.length):Ge r po k=if l6 r po[k]≠0 then l6 r po[k] else if lE [po[k].lv,dW r po[k].ou] (Ec r (if k=0 then none else po[k-1]?))≤0 then 11 else 0:=by
 unfold Ge;rw [Zc h]
theorem MX {r:Ro} {x:Po} {a b c a' b' c':Int} {one two:Bool} (h1:one=true→a=dW r x.ou∧b=kq r x.ou∧c=jZ r x.ou) (h2:one=false→kq r x.ou<0∧jZ r x.ou<0)
  (h3:two=true→a'=dW r x.ip∧b'=kq r x.ip∧c'=jZ r x.ip) (h4:two=false→kq r x.ip<0∧jZ r x.ip<0) :
  aV [fy x.lv 0 (r.lv-1),bW (!one||decide (b<0)) 10,bW (!two||decide (c'<0)) 10,bW (decide (b≠c')) 24]=l6 r x∧(l6 r x=0→one=true):=by
 unfold l6
 cases one with
 | true =>
  obtain ⟨-,rfl,-⟩:=h1 rfl
  cases two with
  | true=>obtain ⟨-,-,rfl⟩:=h3 rfl;exact ⟨rfl,fun _=>rfl⟩
  | false =>
   have:=(h4 rfl).2
   refine ⟨?_,fun _=>rfl⟩
   simp [aV,bW,this]
 | false =>
  have:=(h2 rfl).1
  constructor
  ·simp [aV,bW,this]
  ·intro h
   simp [aV,bW,this] at h
   split at h <;> simp_all
def jG (r:Ro) (po:List Po):Int:=iy (Ge r po) po.length
theorem wO {r:Ro} {s d t p:Value} {w:World} (h:RR w r s d t p) (hd:CN r) (cI:r.de.length+r.ti.length≤1000000) (zR:V3 (r.lv-1)):aj Tryz.prog 146 [RA r s d t p] w (.int .i64 (jG r r.po)):=by
 have h1:=Rd.one h.sr
 have h2:=Rd.one h.de
 have h3:=Rd.one h.ti
 have h4:=Rd.one h.po
 have hp:=h.po
 obtain ⟨a,cp,b,o',rfl,c7,bQ,ha,hc⟩:=hp
 rw [cT] at *
 unfold maxLen at bQ
 unfold RA
 refine ah Tryz.func146 rfl rfl ?_
 refine Jr<|Jy rfl rfl fun _ _=>Ja rfl<|Ji<|ab (cL .here) rfl ?_
 refine JN bL rfl (fun w1 aR=>EL (h.keeps aR.keeps) cI) ?_
 intro bm _
 dsimp only [id_eq,Zb,Za]
 (refine Ja rfl<|Ji<|ab (aS (.cons (.of rfl) (.cons (.of rfl) .nil)) ak) rfl<|Jz rfl rfl fun _ _=>aq (.of rfl) (.of rfl) .here rfl rfl (fN rfl rfl) (bF rfl) ak<|Jn<|Jq<|Jr<|bP rfl rfl ae<|JL rfl bT rfl<|JI rfl<|Jv rfl<|Jn<|J0 ?_)
 rename_i b1 sX _ b4 wb
 refine aX (ι:=Nat×Int×Int) (fun x=>x.1≤r.po.length∧(∀ i,i<x.1→Ge r r.po i=0)∧[x.2.1,x.2.2]=Ec r (if x.1=0 then none else r.po[x.1-1]?))
  (fun x=>[(19,.int .i64 (x.1:Nat)),(18,.int .i64 r.po.length),(17,.slice a r.po.length cp),(4,.pointer (some ⟨b4,0,none⟩)),(3,.map (some bm)),(2,.int .i64 0),(1,.pointer (some ⟨b1,0,none⟩))])
  (fun x=>[bG b4 (.cells #[.int .i64 x.2.1,.int .i64 x.2.2] 299 (0,0)),mp (fun s:ByteArray=>Value.string s) bm (oe r),JP b1 r s d t (.slice a r.po.length cp)])
  (fun x=>r.po.length-x.1) ?_ ?_
 ·apply aI (0,-1,-1) ⟨Zi _,fun i h=>by omega,rfl⟩
  case hs1=>exact cd
  case ht=>(try simp only [Ze,Zf,Za]);exact .cons .here (.cons .here (.cons .here .nil))
 rintro ⟨k,l0,l1⟩ ⟨hk,hz,hl⟩
 dsimp only at hk hz hl ⊢
 by_cases aK:k<r.po.length
 ·have cB:=ha (kg aK)
  obtain ⟨fa,aC⟩:=hc k _ (iq aK)
  unfold Po.cells at aC
  have jd:=q5 (r:=r) aK
  obtain ⟨o1,o2,o3,one,e1,e2,e3,e4⟩:=Ir hd (r.po[k]).ou
  obtain ⟨i1,i2,i3,two,q1,q2,q3,q4⟩:=Ir hd (r.po[k]).ip
  obtain ⟨v1,v2⟩:=MX e3 e4 q3 q4
  unfold lC at e1 q1
  (refine Jr<|JA rfl<|Jn<|Jq<|Jd rfl fun ar=>Jk<|Jq<|J0<|Jr<|ab (fG cB ar) rfl<|ab (gS (eF.base aC rfl)) rfl<|Jz rfl rfl fun _ _=>aq (.of rfl) (.of rfl) .here rfl rfl (fo rfl rfl rfl) (bF rfl) ak<|Ji<|Jv rfl<|bP rfl rfl ae<|JL rfl .here rfl ?_)
  refine ab (uI (.of rfl) (.of rfl) (Looks.mp bT) e1) rfl ?_
  rw [e2]
  (refine Jv rfl<|JJ rfl rfl<|JJ rfl rfl<|Jz rfl rfl fun _ _=>aq (.of rfl) (.of rfl) .here rfl rfl (fo rfl rfl rfl) (bF rfl) ak<|Ja rfl<|Ji<|Jv rfl<|bP rfl rfl ae<|JL rfl (.there .here) rfl ?_)
  refine ab (uI (.of rfl) (.of rfl) (Looks.mp c6) q1) rfl ?_
  rw [q2]
  (refine Jv rfl<|JJ rfl rfl<|JJ rfl rfl<|Jz rfl rfl fun _ _=>aq (.of rfl) (.of rfl) .here rfl rfl (fo rfl rfl rfl) (bF rfl) ak<|Ja rfl<|Jn<|Jq<|Jq ?_)
  with_reducible refine cQ 29 (by kernel_rfl) ?_
  (refine an kB rfl<|an (gT bT) rfl<|an kB rfl<|an (gT fk) rfl<|an (rR (.of rfl) (.of rfl) zR) rfl<|aT eK rfl (fun w' aB=>(mj _ 0 _ w'))<|an kA rfl<|an (dV (.of rfl)) rfl<|an kA rfl<|gq rfl rfl inferInstance (fun hg bB=>(ao (.of rfl) ae)) rfl<|gq rfl rfl inferInstance (fun hg bB=>(ag (.bI hg rfl) (At.lit (.there .here) rfl))) rfl<|gq rfl rfl inferInstance (fun hg bB=>(k8 (.bI hg rfl) (.of rfl))) rfl<|an (aZ (.of rfl) rfl) rfl<|aT bd rfl (fun w' aB=>(dU _ 10 w'))<|an kA rfl<|an (dV (.of rfl)) rfl<|an kA rfl<|gq rfl rfl inferInstance (fun hg bB=>(ao (.of rfl) ae)) rfl<|gq rfl rfl inferInstance (fun hg bB=>(ag (.bI hg rfl) (At.lit .here rfl))) rfl<|gq rfl rfl inferInstance (fun hg bB=>(k8 (.bI hg rfl) (.of rfl))) rfl<|an (aZ (.of rfl) rfl) rfl<|aT bd rfl (fun w' aB=>(dU _ 10 w'))<|an kB rfl<|an (gT (.there .here)) rfl<|an kB rfl<|an (gT .here) rfl<|an (gl (.of rfl) (.of rfl)) rfl<|aT bd rfl (fun w' aB=>(dU _ 24 w'))<|ek (aD (.cons (.of rfl) (.cons (.of rfl) (.cons (.of rfl) (.cons (.of rfl) .nil)))) rfl rfl rfl rfl) rfl rfl ?_)
  with_reducible refine dp rfl fun bq mN=>?_
  (refine ai bL rfl (fun w' aB=>(dN (Mem.dh aB .here rfl rfl) (bU.cons (bU.cons (bU.cons (bU.cons bU.nil))))))<|Ja rfl<|Ji<|Jv rfl<|JD rfl<|Jn<|fP rfl (fun ar=>?_) fun ar=>?_;refine Jr<|Jv rfl<|Ja rfl<|Jn<|Ju<|Jm<|Jh<|Jh<|Jm<|Jh<|JT ?_;rotate_left;refine Jk<|Jr<|bP rfl rfl ae<|JL rfl c6 rfl<|bP rfl rfl ae<|JL rfl bT rfl<|ab (aS (.cons (.of rfl) (.cons (.of rfl) .nil)) ak) rfl<|Jz rfl rfl fun _ _=>aq (.of rfl) (.of rfl) .here rfl rfl (fN rfl rfl) (bF rfl) ak<|Jn<|Jq<|Jq ?_;rotate_right)
  ·rw [v1] at ar ⊢
   have hb:jG r r.po=l6 r r.po[k]:=(ep hz aK (by rw [jd,if_pos ar];exact ar)).trans (by rw [jd,if_pos ar])
   rw [hb]
  rw [v1] at ar
  have hE:l6 r r.po[k]=0:=Zo.1 ar
  obtain ⟨g1,g2,g3⟩:=e3 (v2 hE)
  rename_i Ld YJ
  with_reducible refine en 2 (by kernel_rfl) ?_
  (refine aL (xI (.of rfl)) rfl<|aL (xI (.of rfl)) rfl ?_)
  with_reducible refine eo ?_
  skip
  with_reducible apply ai
  case hr=>exact bd
  case hd=>rfl
  case hc=>
   intro w' aB
   have y1:Rd w' (.slice (some ⟨Ld,0,none⟩) 2 2) 1 (ints [(r.po[k]).lv,o1]):=Mem.dh (b:=Ld) (cs:=[.int .i64 (r.po[k]).lv,.int .i64 o1]) aB (by exact .here) rfl rfl
   have y2:Rd w' (.slice (some ⟨b4,0,none⟩) 2 2) 1 (ints [l0,l1]):=Mem.dh (b:=b4) (cs:=[.int .i64 l0,.int .i64 l1]) aB fk rfl rfl
   exact yr y1 y2
  rw [hE] at jd
  rw [if_neg (by decide),← g1,← hl] at jd
  (refine JF rfl<|Jn<|fP rfl (fun ar=>?_) fun ar=>?_;refine Jr<|Ja rfl<|Jn<|Ju<|Jm<|Jh<|Jh<|Jm<|Jh<|JT ?_;rotate_left;refine Jk<|Jg<|ab (cL .here) rfl<|aq (.of rfl) (.of rfl) fk rfl rfl (fN rfl rfl) (bF rfl) ak<|Jx<|Jj<|Jt<|Jg<|JB rfl (by omega)<|Jv rfl<|Jn ?_;rotate_right)
  ·rw [if_pos ar] at jd
   have hb:jG r r.po=11:=(ep hz aK (by rw [jd];decide)).trans jd
   rw [hb]
  rw [if_neg ar] at jd
  have JU:∀ i,i<k+1→Ge r r.po i=0:=fun i hi=>by
   by_cases e:i=k
   ·rw [e];exact jd
   ·exact hz i (by omega)
  apply aJ (k+1,(r.po[k]).lv,o1) ⟨show k+1≤r.po.length by omega,JU,by
   show [(r.po[k]).lv,o1]=Ec r (if k+1=0 then none else r.po[k+1-1]?)
   rw [if_neg (by omega),ZaG,Zc aK,g1];rfl⟩ (show r.po.length-(k+1)<r.po.length-k by omega)
  case hs1=>exact cd
  case ht=>(try simp only [Ze,Zf,Za]);exact .cons .here (.cons fk (.cons fk .nil))
 ·obtain rfl:k=r.po.length:=by omega
  have e:jG r r.po=0:=dj.2 hz
  rw [e]
  refine Jr<|JA rfl<|Jn<|Jq<|Jc rfl fun ar=>Jp<|Jl<|Jo<|Jt<|Jr<|Ja rfl<|Jn<|Je<|JT ?_
  rfl
theorem Qc {r:Ro} {s d t p:Value} (x:Sr) {b1:Nat} {w:World} (h:RR w r s d t p) (hA:BR w b1 (RC r s d t p)) :
  aj Tryz.prog 135 [.agg x.cells.toArray,.pointer (some ⟨b1,0,none⟩)] w (.int .i64 (eV r x.mx)):=by
 have h1:=Rd.one h.sr
 have h2:=Rd.one h.de
 have h3:=Rd.one h.ti
 have h4:=Rd.one h.po
 have j7:∀ (j:Nat) (u:Value),[Value.int .i64 r.lv,.int .i64 r.ma,s,d,t,p][j]? = some u→w.cell? ⟨b1,0+j,none⟩=some u:=hA
 unfold Sr.cells
 refine ah Tryz.func135 rfl rfl ?_
 (refine Jr<|Jy rfl rfl fun _ _=>Ja rfl<|Ji<|ab (gS (eF.base j7 rfl)) rfl<|bP rfl rfl ae<|JL rfl .here rfl ?_)
 refine ai bd rfl (fun w' aB=>Fa x.mx h) ?_
 refine Ja rfl<|Jn<|Je<|JT ?_
 rfl
theorem Sk {r:Ro} {s d t p:Value} (x:De) {b1:Nat} {w:World} (h:RR w r s d t p) (hA:BR w b1 (RC r s d t p)) :
  aj Tryz.prog 137 [.agg x.cells.toArray,.pointer (some ⟨b1,0,none⟩)] w (.int .i64 (eV r x.mx)):=by
 have h1:=Rd.one h.sr
 have h2:=Rd.one h.de
 have h3:=Rd.one h.ti
 have h4:=Rd.one h.po
 have j7:∀ (j:Nat) (u:Value),[Value.int .i64 r.lv,.int .i64 r.ma,s,d,t,p][j]? = some u→w.cell? ⟨b1,0+j,none⟩=some u:=hA
 unfold De.cells
 refine ah Tryz.func137 rfl rfl ?_
 (refine Jr<|Jy rfl rfl fun _ _=>Ja rfl<|Ji<|ab (gS (eF.base j7 rfl)) rfl<|bP rfl rfl ae<|JL rfl .here rfl ?_)
 refine ai bd rfl (fun w' aB=>Fa x.mx h) ?_
 refine Ja rfl<|Jn<|Je<|JT ?_
 rfl
def jN (r:Ro) (q:Int→Bool):Bool:=(List.range r.lv.toNat).any fun i=>q (i:Nat)
def mY (r:Ro):Int:=aV [fy r.lv 1 3,fy r.ma 1 4]
def jK (r:Ro):Int:=aV [eS 8 [] Sr.nm (fun x=>eV r x.mx) r.sr,eS 8 (cC r) De.nm (fun x=>eV r x.mx) r.de,eS 6 (cC r++cy r) Ti.nm (nA r) r.ti]
def zC (r:Ro):Int:=aV [bW (jN r fun v=>r.ti.any (LP r v)) 33,bW (jN r fun v=>r.ti.any (IE r v)) 32]
def gC (r:Ro):Int:=if mY r≠0 then mY r else if jK r≠0 then jK r else if jG r r.po≠0 then jG r r.po else zC r
theorem ck1 {r:Ro} (h:mY r≠0):gC r=mY r:=by unfold gC;rw [if_pos h]
theorem ck2 {r:Ro} (h1:mY r=0) (h:jK r≠0):gC r=jK r:=by unfold gC;rw [if_neg (by rw [h1];decide),if_pos h]
theorem ck3 {r:Ro} (h1:mY r=0) (h2:jK r=0) (h:jG r r.po≠0):gC r=jG r r.po:=by unfold gC;rw [if_neg (by rw [h1];decide),if_neg (by rw [h2];decide),if_pos h]
theorem ck4 {r:Ro} (h1:mY r=0) (h2:jK r=0) (h3:jG r r.po=0):gC r=zC r:=by unfold gC;rw [if_neg (by rw [h1];decide),if_neg (by rw [h2];decide),if_neg (by rw [h3];decide)]
theorem W0 {r:Ro} (h:eS 8 [] Sr.nm (fun x=>eV r x.mx) r.sr≠0):jK r=eS 8 [] Sr.nm (fun x=>eV r x.mx) r.sr:=by unfold jK aV;rw [if_pos h]
theorem WZ {r:Ro} (h1:eS 8 [] Sr.nm (fun x=>eV r x.mx) r.sr=0) (h:eS 8 (cC r) De.nm (fun x=>eV r x.mx) r.de≠0):jK r=eS 8 (cC r) De.nm (fun x=>eV r x.mx) r.de:=by unfold jK aV aV;rw [if_neg (by rw [h1];decide),if_pos h]
theorem V6 {r:Ro} (h1:eS 8 [] Sr.nm (fun x=>eV r x.mx) r.sr=0) (h2:eS 8 (cC r) De.nm (fun x=>eV r x.mx) r.de=0):jK r=aV [eS 6 (cC r++cy r) Ti.nm (nA r) r.ti]:=by unfold jK;rw [aV,if_neg (by rw [h1];decide),aV,if_neg (by rw [h2];decide)]
theorem qX {α:Type} {qd:Int} {bf:List ByteArray} {nm:α→ByteArray} {ck:α→Int} {l:List α} (hb:bf.Nodup) (h:eS qd bf nm ck l=0):(bf++l.map nm).Nodup∧(l.length:Int)≤qd∧∀ x∈l,ck x=0:=by
 unfold eS at h
 split at h
 ·cases h
 rename_i hl
 rw [dj] at h
 have hk:∀ k,k≤l.length→(bf++(l.take k).map nm).Nodup∧∀ x∈l.take k,ck x=0:=by
  intro k
  induction k with
  | zero=>intro _;simpa using hb
  | succ k ih =>
   intro hk
   obtain ⟨i1,i2⟩:=ih (by omega)
   have:=h k (by omega)
   rw [od (by omega)] at this
   rw [cq] at this
   have h9:iX (bf++(l.take k).map nm) (nm l[k])=false∧ck l[k]=0:=⟨(bK (show (9:Int)≠0 by decide)).1 (this _ (ZV _ Zt)),this _ (ZV _ (ZV _ Zt))⟩
   rw [Zn (by omega),Zr,← Zh]
   refine ⟨?_,?_⟩
   ·rw [ZF]
    refine ⟨i1,by simp,fun x hx y hy e=>?_⟩
    rw [Z8,Zf,ZK] at hy
    subst hy;subst e
    rw [fc.2 hx] at h9
    cases h9.1
   ·intro x hx
    rcases Zx.1 hx with hx | hx
    ·exact i2 x hx
    ·rw [ZK.1 hx];exact h9.2
 have:=hk _ (Zz _)
 rw [ZL] at this
 exact ⟨this.1,by omega,this.2⟩
theorem zo {r:Ro} (h:jK r=0):CN r∧(r.sr.length≤8∧r.de.length≤8∧r.ti.length≤6)∧(∀ x∈r.sr,eV r x.mx=0)∧(∀ x∈r.de,eV r x.mx=0)∧∀ x∈r.ti,nA r x=0:=by
 unfold jK at h
 have h3:eS 8 [] Sr.nm (fun x=>eV r x.mx) r.sr=0∧eS 8 (cC r) De.nm (fun x=>eV r x.mx) r.de=0∧eS 6 (cC r++cy r) Ti.nm (nA r) r.ti=0:=by
  rw [cq] at h
  exact ⟨h _ (by simp),h _ (by simp),h _ (by simp)⟩
 obtain ⟨h4,h5,h6⟩:=qX Zam h3.1
 rw [Za] at h4
 obtain ⟨h7,h8,h9⟩:=qX (show (cC r).Nodup from h4) h3.2.1
 obtain ⟨g7,g8,g9⟩:=qX (show (cC r++cy r).Nodup from h7) h3.2.2
 exact ⟨⟨g7⟩,⟨by omega,by omega,by omega⟩,h6,h9,g9⟩
theorem uZ {r:Ro} (h:mY r=0):1≤r.lv∧r.lv≤3∧1≤r.ma∧r.ma≤4:=by
 unfold mY at h
 rw [cq] at h
 have h1:=fx.1 (h _ (Zt))
 have h2:=fx.1 (h _ (ZV _ Zt))
 omega
theorem eD {r:Ro} {s d t p:Value} {w:World} (h:RR w r s d t p) (cI:r.sr.length≤300∧r.de.length≤300∧r.ti.length≤300):aj Tryz.prog 34 [RA r s d t p] w (.int .i64 (gC r)):=by
 have h1:=Rd.one h.sr
 have h2:=Rd.one h.de
 have h3:=Rd.one h.ti
 have h4:=Rd.one h.po
 unfold RA
 refine ah Tryz.func34 rfl rfl ?_
 refine Jr<|Jy rfl rfl fun _ _=>Ja rfl<|Jn<|Jq<|Jq ?_
 rename_i b1 sX
 with_reducible refine cQ 7 (by kernel_rfl) ?_
 (refine an kB rfl<|an (gT .here) rfl<|aT eK rfl (fun w' aB=>(mj _ 1 3 w'))<|an kB rfl<|an (gT .here) rfl<|aT eK rfl (fun w' aB=>(mj _ 1 4 w'))<|ek (aD (.cons (.of rfl) (.cons (.of rfl) .nil)) rfl rfl rfl rfl) rfl rfl ?_)
 with_reducible refine dp rfl fun bq mN=>?_
 (refine ai bL rfl (fun w' aB=>(dN (Mem.dh aB .here rfl rfl) (bU.cons (bU.cons bU.nil))))<|Ja rfl<|Ji<|Jv rfl<|JD rfl<|Jn<|fP rfl (fun ar=>?_) fun ar=>?_;refine Jr<|Jv rfl<|Ja rfl<|Jn<|Ju<|JT ?_;rotate_left;refine Jk<|Jr<|ab (bA .nil (.cons (.of rfl) .nil)) rfl<|Ja rfl<|Ji<|ab (bA .nil (.cons (.of rfl) .nil)) rfl<|Ja rfl<|Jn<|Jq<|Jr<|bP rfl rfl ae<|JL rfl (.there .here) rfl<|Jv rfl ?_;rotate_right)
 ·exact congrArg (Value.int .i64) (ck1 ar).symm
 have qi:mY r=0:=Zo.1 ar
 have hl:=uZ qi
 clear ar
 have Kb:∀ w',Rd w' (.slice none 0 0) 1 (iI []):=fun w'=>⟨none,0,0,0,rfl,by simp [iI],by unfold maxLen;omega,fun h=>absurd rfl h,fun i r hr=>by simp [iI] at hr⟩
 with_reducible apply ai
 case hr=>exact Lu
 case hd=>rfl
 case hc=>
  intro w' aB
  have hA:BR w' b1 [.int .i64 r.lv,.int .i64 r.ma,s,d,t,p]:=BR.of aB (by exact Take.there .here)
  have hR:=h.keeps aB.keeps
  exact Ck (bf:=[]) 8 (f2:=135) (first2:=[]) (cap:=[.pointer (some ⟨b1,0,none⟩)]) hR.sr (Kb _) (by rw [Zaa];omega) (fun x _ w2 _=>IP x w2) (fun x _ w2 eH=>Qc x (hR.keeps eH) (hA.keeps eH))
 (refine Ja rfl<|Ji<|Jv rfl<|JD rfl<|Jn<|fP rfl (fun ar=>?_) fun ar=>?_;refine Jr<|Jv rfl<|Ja rfl<|Jn<|Ju<|JT ?_;rotate_left;refine Jk<|Jr<|bP rfl rfl ae<|JL rfl (.there .here) rfl ?_;rotate_right)
 ·have hp:=W0 ar
  rw [← hp] at ar ⊢
  exact congrArg (Value.int .i64) (ck2 qi ar).symm
 have p1:eS 8 [] Sr.nm (fun x=>eV r x.mx) r.sr=0:=Zo.1 ar
 clear ar
 have q1:=qX Zam p1
 refine JN bd rfl (fun w1 aR=>Ng (f:=139) (first:=[]) (cap:=[]) (g:=Sr.nm) (h.keeps aR.keeps).sr (by omega) (fun x _ w2 _=>IP x w2)) ?_
 intro nv _
 dsimp only [id_eq,Zb,Za]
 refine aW (by exact .here) fun na nc e=>?_
 subst e
 (refine Ja rfl<|Jn<|Jq<|Jr<|bP rfl rfl ae<|JL rfl bT rfl<|Jv rfl<|Jv rfl ?_)
 with_reducible apply ai
 case hr=>exact Lu
 case hd=>rfl
 case hc=>
  intro w' aB
  have hA:BR w' b1 [.int .i64 r.lv,.int .i64 r.ma,s,d,t,p]:=BR.of aB bT
  have hR:=h.keeps aB.keeps
  have hN:Rd w' (.slice na r.sr.length nc) 1 (iI (r.sr.map Sr.nm)):=dL aB (by exact .here) (by rw [Zd])
  exact Cl (bf:=cC r) 8 (f2:=137) (first2:=[]) (cap:=[.pointer (some ⟨b1,0,none⟩)]) hR.de hN (by unfold cC;rw [Zd];omega) (fun x _ w2 _=>Dz x w2) (fun x _ w2 eH=>Sk x (hR.keeps eH) (hA.keeps eH))
 (refine Ja rfl<|Ji<|Jv rfl<|JD rfl<|Jn<|fP rfl (fun ar=>?_) fun ar=>?_;refine Jr<|Jv rfl<|Ja rfl<|Jn<|Ju<|JT ?_;rotate_left;refine Jk<|Jr<|Jv rfl<|bP rfl rfl ae<|JL rfl bT rfl ?_;rotate_right)
 ·have hp:=WZ p1 ar
  rw [← hp] at ar ⊢
  exact congrArg (Value.int .i64) (ck2 qi ar).symm
 have p2:eS 8 (cC r) De.nm (fun x=>eV r x.mx) r.de=0:=Zo.1 ar
 clear ar
 have q2:=qX (show (cC r).Nodup from q1.1) p2
 refine JN bd rfl (fun w1 aR=>EV (f:=124) (first:=[]) (cap:=[]) (g:=De.nm) (h.keeps aR.keeps).de (by omega) (fun x _ w2 _=>Dz x w2)) ?_
 intro dv _
 dsimp only [id_eq,Zb,Za]
 refine aW (by exact .here) fun da dc e=>?_
 subst e
 refine bo (aD (.cons (.of rfl) (.cons (.of rfl) .nil)) rfl rfl rfl rfl) rfl (fun _ _=>?_)
 rename_i bq2 afr
 with_reducible apply jr
 case hr=>exact bL
 case hd=>rfl
 case ht=>exact bz.nil
 case hc=>
  intro w1 fp aR _ hs1
  obtain rfl:fp=[]:=hs1
  have hN:Rd w1 (.slice na r.sr.length nc) 1 (iI (r.sr.map Sr.nm)):=dL aR bT (by rw [Zd])
  have hD:Rd w1 (.slice da r.de.length dc) 1 (iI (r.de.map De.nm)):=dL aR (by exact Take.there .here) (by rw [Zd])
  exact GV (vs:=[.slice na r.sr.length nc,.slice da r.de.length dc]) (ess:=[r.sr.map Sr.nm,r.de.map De.nm]) (Mem.dh (b:=bq2) aR (by exact .here) rfl rfl) rfl
   (fun i v es hv he=>by
    match i,hv,he with
    | 0,hv,he=>cases hv;cases he;exact hN
    | 1,hv,he=>cases hv;cases he;exact hD) (by simp;omega)
 intro av _
 dsimp only [id_eq,Zb,Za]
 (refine Ja rfl<|Jn<|Jq<|Jr<|bP rfl rfl ae<|JL rfl fk rfl<|Jv rfl<|ab (cL fk) rfl<|ab (bA (.cons (.of rfl) .nil) .nil) rfl ?_)
 have rI:[r.sr.map Sr.nm,r.de.map De.nm].flatten=cC r++cy r:=by simp [cC,cy]
 with_reducible apply ai
 case hr=>exact Lu
 case hd=>rfl
 case hc=>
  intro w' aB
  have hR:=h.keeps aB.keeps
  have hB:Rd w' av 1 (iI [r.sr.map Sr.nm,r.de.map De.nm].flatten):=aB.n9 (by exact .here) rfl (HJ _) (by rw [bV])
  rw [rI] at hB
  exact Cj (bf:=cC r++cy r) 6 (f2:=145) (first2:=[RA r s d t p]) (cap:=[]) hR.ti hB (by unfold cC cy;rw [Zg,Zd,Zd];omega) (fun x _ w2 _=>IN x w2) (fun x _ w2 eH=>Oo x h)
 (refine bo (aD (.cons (.of rfl) .nil) rfl rfl rfl rfl) rfl fun _ _=>ai bL rfl (fun w' aB=>(dN (Mem.dh aB .here rfl rfl) (bU.cons bU.nil)))<|Ja rfl<|Ji<|Jv rfl<|JD rfl<|Jn<|fP rfl (fun ar=>?_) fun ar=>?_;refine Jr<|Jv rfl<|Ja rfl<|Jn<|Ju<|JT ?_;rotate_left;refine Jk<|Jq<|Jr<|ab (cL jo) rfl ?_;rotate_right)
 ·have hp:jK r≠0:=by rw [V6 p1 p2];exact ar
  exact congrArg (Value.int .i64) ((V6 p1 p2).symm.trans (ck2 qi hp).symm)
 have J8:jK r=0:=by rw [V6 p1 p2];exact Zo.1 ar
 obtain ⟨kM,hlen,-⟩:=zo J8
 clear ar
 refine ai bL rfl (fun w' aB=>wO (h.keeps aB.keeps) kM (by omega) (by unfold V3;omega)) ?_
 (refine Ja rfl<|Ji<|Jv rfl<|JD rfl<|Jn<|fP rfl (fun ar=>?_) fun ar=>?_;refine Jr<|Jv rfl<|Ja rfl<|Jn<|Ju<|JT ?_;rotate_left;refine Jk<|Jq ?_;rotate_right)
 ·exact congrArg (Value.int .i64) (ck3 qi J8 ar).symm
 have Rm:jG r r.po=0:=Zo.1 ar
 clear ar
 rw [ck4 qi J8 Rm]
 have Vb:∀ w',aH [] w w'→aj Tryz.prog 148 [.agg #[.int .i64 r.lv,.int .i64 r.ma,s,d,t,p],.func (.func 149) #[.agg #[.int .i64 r.lv,.int .i64 r.ma,s,d,t,p]] #[]] w' (.bool (jN r fun v=>r.ti.any (LP r v))):=fun w' hk=>
  PO (f:=149) (first:=[RA r s d t p]) (cap:=[]) h (by omega) (fun v _ _ w2 eH=>Ol v ((h.keeps hk).keeps eH) (by omega))
 have Va:∀ w',aH [] w w'→aj Tryz.prog 148 [.agg #[.int .i64 r.lv,.int .i64 r.ma,s,d,t,p],.func (.func 150) #[.agg #[.int .i64 r.lv,.int .i64 r.ma,s,d,t,p]] #[]] w' (.bool (jN r fun v=>r.ti.any (IE r v))):=fun w' hk=>
  PO (f:=150) (first:=[RA r s d t p]) (cap:=[]) h (by omega) (fun v _ _ w2 eH=>QH v ((h.keeps hk).keeps eH))
 with_reducible refine cQ 11 (by kernel_rfl) ?_
 (refine an (cL jo) rfl<|an (cL jo) rfl<|an (bA (.cons (.of rfl) .nil) .nil) rfl<|aT bd rfl (fun w' aB=>(Vb w' (Mem.keeps aB)))<|aT bd rfl (fun w' aB=>(dU _ 33 w'))<|an (cL jo) rfl<|an (cL jo) rfl<|an (bA (.cons (.of rfl) .nil) .nil) rfl<|aT bd rfl (fun w' aB=>(Va w' (Mem.keeps aB)))<|aT bd rfl (fun w' aB=>(dU _ 32 w'))<|ek (aD (.cons (.of rfl) (.cons (.of rfl) .nil)) rfl rfl rfl rfl) rfl rfl ?_)
 with_reducible refine dp rfl fun bq mN=>?_
 (refine ai bL rfl (fun w' aB=>(dN (Mem.dh aB .here rfl rfl) (bU.cons (bU.cons bU.nil))))<|Ja rfl<|Jn<|Je<|JT ?_)
 rfl
theorem BN {α:Type} (nm:α→ByteArray) (l:List α) (s:ByteArray):gP (fun x=>decide (nm x=s)) l=bE (l.map nm) s:=by
 rcases o7 (fun x=>decide (nm x=s)) l with ⟨e1,e2⟩ | ⟨i,hi,e1,e2⟩
 ·rw [e1]
  refine (z6 fun j hj e=>?_).symm
  rw [ZaH] at e2
  rw [Z1] at e
  exact e2 _ (Zj _) (by simpa using e)
 ·rw [e1]
  rw [ZaA] at e2
  obtain ⟨hp,k,hk,he,hb⟩:=e2
  have Wt:i=k:=by
   have h1:gP (fun x=>decide (nm x=s)) l=(k:Nat):=gp (fun j hj=>by
    rw [Zc (by omega)]
    have:=hb j hj
    simpa using this) hk (by rw [he];exact hp)
   rw [e1] at h1
   exact_mod_cast h1
  subst Wt
  refine (qp (by rw [Zd];exact hi) (by rw [Z1];simpa using hp) fun j hj e=>?_).symm
  rw [Z1] at e
  have:=hb j hj
  simp [e] at this
theorem Sj (x:De) (o:ByteArray) {b2:Nat} {w:World} (f2:w.cell? ⟨b2,0,none⟩=some (.string o)) :
  aj Tryz.prog 243 [.agg x.cells.toArray,.pointer (some ⟨b2,0,none⟩)] w (.bool (decide (x.nm=o))):=by
 unfold De.cells
 refine ah Tryz.func243 rfl rfl ?_
 (refine Jr<|Jy rfl rfl fun _ _=>Ja rfl<|Ji<|bP rfl rfl ae<|JL rfl .here rfl<|ab (ag (.of rfl) (At.base f2 rfl)) rfl<|ab (dS (.of rfl) (.of rfl)) rfl<|Ja rfl<|Jn<|Je<|JT ?_)
 rfl
theorem Qb (x:Sr) (o:ByteArray) {b2:Nat} {w:World} (f2:w.cell? ⟨b2,0,none⟩=some (.string o)) :
  aj Tryz.prog 264 [.agg x.cells.toArray,.pointer (some ⟨b2,0,none⟩)] w (.bool (decide (x.nm=o))):=by
 unfold Sr.cells
 refine ah Tryz.func264 rfl rfl ?_
 (refine Jr<|Jy rfl rfl fun _ _=>Ja rfl<|Ji<|bP rfl rfl ae<|JL rfl .here rfl<|ab (ag (.of rfl) (At.base f2 rfl)) rfl<|ab (dS (.of rfl) (.of rfl)) rfl<|Ja rfl<|Jn<|Je<|JT ?_)
 rfl
theorem fM {r:Ro} {s d t p:Value} (o:ByteArray) {w:World} (h:RR w r s d t p):aj Tryz.prog 155 [RA r s d t p,.string o] w (.int .i64 (bE (cy r) o)):=by
 have h1:=Rd.one h.sr
 have h2:=Rd.one h.de
 have h3:=Rd.one h.ti
 have h4:=Rd.one h.po
 unfold RA
 refine ah Tryz.func155 rfl rfl ?_
 (refine Jr<|Jy rfl rfl fun _ _=>Jy rfl rfl fun _ _=>Ja rfl<|Ji<|bP rfl rfl ae<|JL rfl (.there .here) rfl<|ab (bA .nil (.cons (.of rfl) .nil)) rfl ?_)
 rename_i b3 vo b4 wb
 with_reducible apply ai
 case hr=>exact bd
 case hd=>rfl
 case hc=>
  intro w' aB
  have f2:w'.cell? ⟨b4,0,none⟩=some (.string o):=At.lit (by exact .here) rfl w' aB
  exact Nx (f:=243) (p:=fun x=>decide (x.nm=o)) (first:=[]) (cap:=[.pointer (some ⟨b4,0,none⟩)]) (h.keeps aB.keeps).de
   (fun x hx w2 eH=>Sj x o (cn f2 rfl eH))
 rw [BN]
 refine Ja rfl<|Jn<|Je<|JT ?_
 rfl
theorem nS {r:Ro} {s d t p:Value} (o:ByteArray) {w:World} (h:RR w r s d t p):aj Tryz.prog 180 [RA r s d t p,.string o] w (.int .i64 (bE (cC r) o)):=by
 have h1:=Rd.one h.sr
 have h2:=Rd.one h.de
 have h3:=Rd.one h.ti
 have h4:=Rd.one h.po
 unfold RA
 refine ah Tryz.func180 rfl rfl ?_
 (refine Jr<|Jy rfl rfl fun _ _=>Jy rfl rfl fun _ _=>Ja rfl<|Ji<|bP rfl rfl ae<|JL rfl (.there .here) rfl<|ab (bA .nil (.cons (.of rfl) .nil)) rfl ?_)
 rename_i b3 vo b4 wb
 with_reducible apply ai
 case hr=>exact bd
 case hd=>rfl
 case hc=>
  intro w' aB
  have f2:w'.cell? ⟨b4,0,none⟩=some (.string o):=At.lit (by exact .here) rfl w' aB
  exact E6 (f:=264) (p:=fun x=>decide (x.nm=o)) (first:=[]) (cap:=[.pointer (some ⟨b4,0,none⟩)]) (h.keeps aB.keeps).sr
   (fun x hx w2 eH=>Qb x o (cn f2 rfl eH))
 rw [BN]
 refine Ja rfl<|Jn<|Je<|JT ?_
 rfl
def EX (r:Ro) (v:Int):Int:=fy v 0 (IntKind.i64.wrap (r.lv-1))
def pb (r:Ro) (o:ByteArray):Int:=bW (decide (bE (cy r) o<0)) 10
def Qf (r:Ro) (o:ByteArray):Int:=bW (decide (bE (cC r) o<0)) 10
theorem kP {r:Ro} {s d t p:Value} (v:Int) {w w1:World} (h:RR w1 r s d t p):aj Tryz.prog 114 [RA r s d t p,.int .i64 v] w (.int .i64 (EX r v)):=by
 have h1:=Rd.one h.sr
 have h2:=Rd.one h.de
 have h3:=Rd.one h.ti
 have h4:=Rd.one h.po
 unfold RA
 refine ah Tryz.func114 rfl rfl ?_
 (refine Jr<|Jy rfl rfl fun _ _=>Ja rfl<|Ji<|Jv rfl<|bP rfl rfl ae<|JL rfl .here rfl ?_)
 refine ab (ML (.of rfl) (.of rfl)) rfl ?_
 (refine ai eK rfl (fun w' aB=>(mj v 0 _ w'))<|Ja rfl<|Jn<|Je<|JT ?_)
 rfl
theorem ew {r:Ro} {s d t p:Value} (o:ByteArray) {w:World} (h:RR w r s d t p):aj Tryz.prog 112 [RA r s d t p,.string o] w (.int .i64 (pb r o)):=by
 have h1:=Rd.one h.sr
 have h2:=Rd.one h.de
 have h3:=Rd.one h.ti
 have h4:=Rd.one h.po
 have wI:∀ w',aH [] w w'→aj Tryz.prog 155 [.agg #[.int .i64 r.lv,.int .i64 r.ma,s,d,t,p],.string o] w' (.int .i64 (bE (cy r) o)):=fun w' hk=>fM o (h.keeps hk)
 unfold RA
 refine ah Tryz.func112 rfl rfl ?_
 (refine Jr<|Jy rfl rfl fun _ _=>Ja rfl<|Ji<|ab (cL .here) rfl<|Jv rfl<|ai bd rfl (fun w' aB=>(wI w' (Mem.keeps aB)))<|JA rfl<|ai bd rfl (fun w' aB=>(dU _ 10 w'))<|Ja rfl<|Jn<|Je<|JT ?_)
 rfl
theorem pM {r:Ro} {s d t p:Value} (o:ByteArray) {w:World} (h:RR w r s d t p):aj Tryz.prog 122 [RA r s d t p,.string o] w (.int .i64 (Qf r o)):=by
 have h1:=Rd.one h.sr
 have h2:=Rd.one h.de
 have h3:=Rd.one h.ti
 have h4:=Rd.one h.po
 have hsrc:∀ w',aH [] w w'→aj Tryz.prog 180 [.agg #[.int .i64 r.lv,.int .i64 r.ma,s,d,t,p],.string o] w' (.int .i64 (bE (cC r) o)):=fun w' hk=>nS o (h.keeps hk)
 unfold RA
 refine ah Tryz.func122 rfl rfl ?_
 (refine Jr<|Jy rfl rfl fun _ _=>Ja rfl<|Ji<|ab (cL .here) rfl<|Jv rfl<|ai bd rfl (fun w' aB=>(hsrc w' (Mem.keeps aB)))<|JA rfl<|ai bd rfl (fun w' aB=>(dU _ 10 w'))<|Ja rfl<|Jn<|Je<|JT ?_)
 rfl
def br (r:Ro) (o:ByteArray):List ByteArray:=(List.range r.lv.toNat).map fun (v:Nat)=>jM r v o
theorem vl {r:Ro} {s d t p:Value} (o:ByteArray) {w:World} (h:RR w r s d t p) (zR:r.lv≤1000) (cI:r.ti.length≤1000000):bh Tryz.prog 113 [RA r s d t p,.string o] w [] (fun _:Value=>True) id (fun v=>[row 9 1 v r.lv.toNat (aM (br r o))]):=by
 have h1:=Rd.one h.sr
 have h2:=Rd.one h.de
 have h3:=Rd.one h.ti
 have h4:=Rd.one h.po
 unfold RA
 refine aQ Tryz.func113 rfl rfl ?_
 (refine Jr<|Jy rfl rfl fun _ _=>Ja rfl<|Ji<|Ja rfl<|Jn<|Jq<|Jr<|bP rfl rfl ae<|JL rfl .here rfl<|Jv rfl<|Jn<|J0 ?_)
 rename_i b2 sW
 refine aP 9 1 ?_
 refine aX (ι:=Nat×Value) (fun x=>x.1≤r.lv.toNat)
  (fun x=>[(9,.int .i64 (x.1:Nat)),(8,.int .i64 r.lv),(5,x.2),(2,.pointer (some ⟨b2,0,none⟩)),(1,.string o)])
  (fun x=>[row 9 1 x.2 x.1 (aM ((br r o).take x.1)),JP b2 r s d t p]) (fun x=>r.lv.toNat-x.1) ?_ ?_
 ·apply aI (0,.slice none 0 0) (Zi _)
  case hs1=>exact cd
  case ht=>
   exact .cons .here (.cons .here .nil)
 rintro ⟨k,v⟩ hk
 dsimp only at hk ⊢
 by_cases aK:k<r.lv.toNat
 ·have E8:((k:Nat):Int)<r.lv:=by omega
  have htk:(br r o).take (k+1)=(br r o).take k++[jM r (k:Nat) o]:=by
   unfold br
   rw [Zn (by simpa using aK)]
   simp
  have bb:aM ((br r o).take (k+1))=aM ((br r o).take k)++[.string (jM r (k:Nat) o)]:=by rw [htk,eX];rfl
  have hlen:(aM ((br r o).take k)).length=k*1:=by
   rw [df,Zp];unfold br;rw [Zd,ZaL];omega
  (refine Jr<|JA rfl<|Jn<|Jq<|Jd rfl fun ar=>Jk<|Jq<|J0<|Jr<|Jv rfl<|Ja rfl<|Jn<|Jg<|Jv rfl<|ab (cL (.there .here)) rfl<|Jv rfl<|Jv rfl ?_)
  refine ai eK rfl (fun w' aB=>ph (s:=s) (d:=d) (t:=t) (p:=p) (k:Nat) o (h.keeps aB.keeps) cI) ?_
  refine bo (aD (.cons (.of rfl) .nil) rfl rfl rfl rfl) rfl (fun _ _=>?_)
  refine bH (.of rfl) (.of rfl) (.there .here) .here ak (by rfl) (eE rfl) (by rfl) (by rfl) (by rfl) eN (by rfl) ?_
  intro v'
  refine Ja rfl<|Jx<|Jj<|Jt<|Jg<|JB rfl (by omega)<|Jv rfl<|Jn ?_
  apply aJ (k+1,v') (by show k+1≤r.lv.toNat;omega) (by show r.lv.toNat-(k+1)<r.lv.toNat-k;omega)
  case hs1=>exact cd
  case ht=>
   show bz _ [row 9 1 v' (k+1) (aM ((br r o).take (k+1))),JP b2 r s d t p] _
   rw [bb]
   exact .cons .here (.cons (.there .here) .nil)
 ·have e:k=r.lv.toNat:=by omega
  subst e
  have htk:(br r o).take r.lv.toNat=br r o:=Zai (by unfold br;simp)
  rw [htk]
  refine Jr<|JA rfl<|Jn<|Jq<|Jc rfl fun ar=>Jp<|Jl<|Jo<|Jt<|Jr<|Jv rfl<|Ja rfl<|Jn<|Je ?_
  first | with_reducible apply aN | with_reducible apply aO
  case he=>exact dD rfl rfl
  case hR=>
   intro w' aB
   exact aF v trivial (by exact .cons .here .nil) aB rfl
theorem qx {r:Ro} {s d t p:Value} (v:Int) (o:ByteArray) {w:World} (h:RR w r s d t p):aj Tryz.prog 121 [RA r s d t p,.int .i64 v,.string o] w (.bool (jq r.po v o)):=by
 have h1:=Rd.one h.sr
 have h2:=Rd.one h.de
 have h3:=Rd.one h.ti
 have h4:=Rd.one h.po
 unfold RA
 refine ah Tryz.func121 rfl rfl ?_
 (refine Jr<|Jy rfl rfl fun _ _=>Ja rfl<|Ji<|ab (cL .here) rfl<|Jv rfl<|Jv rfl ?_)
 refine ai eK rfl (fun w' aB=>zH (s:=s) (d:=d) (t:=t) (p:=p) v o (h.keeps aB.keeps)) ?_
 refine Jv rfl<|JJ rfl rfl<|JJ rfl rfl<|Ja rfl<|Ja rfl<|Ji<|Jv rfl<|Ja rfl<|Jn<|Je<|JT ?_
 rfl
def lz (r:Ro):Prop:=r.sr.length≤300∧r.de.length≤300∧r.ti.length≤300
theorem ss {r:Ro} (h:gC r=0):mY r=0∧jK r=0∧jG r r.po=0∧zC r=0:=by
 unfold gC at h
 by_cases h1:mY r=0
 ·rw [if_neg (by rw [h1];decide)] at h
  by_cases h2:jK r=0
  ·rw [if_neg (by rw [h2];decide)] at h
   by_cases h3:jG r r.po=0
   ·rw [if_neg (by rw [h3];decide)] at h
    exact ⟨h1,h2,h3,h⟩
   ·rw [if_pos h3] at h;exact absurd h h3
  ·rw [if_pos h2] at h;exact absurd h h2
 ·rw [if_pos h1] at h;exact absurd h h1
def BX (r:Ro) (o:ByteArray):Int:=aV [gC r,pb r o]
def DN (r:Ro) (o:ByteArray):List ByteArray:=if BX r o≠0 then [] else br r o
theorem SI {r:Ro} {s d t p:Value} (o:ByteArray) {w:World} (h:RR w r s d t p) (cI:lz r):bh Tryz.prog 20 [RA r s d t p,.string o] w [] (fun _:Value=>True) (fun v=>.tuple #[v,.int .i64 (BX r o)]) (fun v=>[row 9 1 v (DN r o).length (aM (DN r o))]):=by
 have h1:=Rd.one h.sr
 have h2:=Rd.one h.de
 have h3:=Rd.one h.ti
 have h4:=Rd.one h.po
 have fK:∀ w',aH [] w w'→aj Tryz.prog 34 [.agg #[.int .i64 r.lv,.int .i64 r.ma,s,d,t,p]] w' (.int .i64 (gC r)):=fun w' hk=>eD (h.keeps hk) cI
 have mh:∀ w',aH [] w w'→aj Tryz.prog 112 [.agg #[.int .i64 r.lv,.int .i64 r.ma,s,d,t,p],.string o] w' (.int .i64 (pb r o)):=fun w' hk=>ew o (h.keeps hk)
 unfold RA
 refine aQ Tryz.func20 rfl rfl ?_
 refine Jr<|Jy rfl rfl fun _ _=>Ja rfl<|Ja rfl<|Jn<|Jq<|Jq ?_
 rename_i b2 sW
 with_reducible refine cQ 6 (by kernel_rfl) ?_
 (refine an (cL .here) rfl<|aT bL rfl (fun w' aB=>(fK w' (Mem.keeps aB)))<|an (cL .here) rfl<|an kA rfl<|aT bd rfl (fun w' aB=>(mh w' (Mem.keeps aB)))<|ek (aD (.cons (.of rfl) (.cons (.of rfl) .nil)) rfl rfl rfl rfl) rfl rfl ?_)
 with_reducible refine dp rfl fun bq mN=>?_
 (refine ai bL rfl (fun w' aB=>(dN (Mem.dh aB .here rfl rfl) (bU.cons (bU.cons bU.nil))))<|Ja rfl<|Ji<|Jv rfl<|JD rfl<|Jn<|fP rfl (fun ar=>?_) fun ar=>?_;refine Jr<|Jv rfl<|Ja rfl<|Ja rfl<|Jn<|Ju ?_;rotate_left;refine Jk<|Jr<|ab (cL (.there .here)) rfl<|Jv rfl ?_;rotate_right)
 ·have e1:DN r o=[]:=if_pos ar
  rw [e1]
  refine aP 9 1 ?_
  first | with_reducible apply aN | with_reducible apply aO
  case he=>exact fY rfl rfl rfl
  case hR=>
   intro w' aB
   exact aF (.slice none 0 0) trivial (by exact .cons .here .nil) aB rfl
 have e1:DN r o=br r o:=if_neg ar
 have e0:aV [gC r,pb r o]=0:=Zo.1 ar
 have e2:BX r o=0:=e0
 have hl:=uZ (ss (cq.1 e0 _ Zt)).1
 have hn:(br r o).length=r.lv.toNat:=by unfold br;simp
 rw [e1,e2,hn]
 refine JN bd rfl (fun w1 aR=>vl o (h.keeps aR.keeps) (by omega) (by have:=cI.2.2;omega)) ?_
 intro v _
 dsimp only [id_eq,Zb,Za]
 refine Ja rfl<|Ja rfl<|Jn<|Je ?_
 first | with_reducible apply aN | with_reducible apply aO
 case he=>exact fY rfl rfl rfl
 case hR=>
  intro w' aB
  exact aF v trivial (by exact .cons .here .nil) aB rfl
end Go.Proofs.A1
namespace Go.SL
open Go
section
variable {P:Program} {c:Cx} {D:List Nat} {sl:aG} {hs hs':List a8} {ty:TypeId} {pos:String} {af:Array Edge} {r:Option Nat} {ops:Array Oper} {Q:Exit→Act→World→Prop} {rest:List Oper}
theorem yB (zs:List Value) (n:Nat):Builtin.zeroCells zs.toArray n=((List.replicate n zs).flatten).toArray:=by
 unfold Builtin.zeroCells
 apply Array.ext
 ·simp
 ·intro i h1 h2
  have hi:i<n*zs.length:=by simpa using h1
  have hz:0<zs.length:=by
   rcases Nat.eq_zero_or_pos zs.length with e | e
   ·rw [e] at hi;omega
   ·exact e
  have hm:i % zs.length<zs.length:=Nat.mod_lt _ hz
  have rI:∀ (n i:Nat) (h:i<(List.replicate n zs).flatten.length),(List.replicate n zs).flatten[i]=zs[i % zs.length]'(Nat.mod_lt _ hz):=by
   intro n
   induction n with
   | zero=>intro i h;simp at h
   | succ n ih =>
    intro i h
    have e:(List.replicate (n+1) zs).flatten=zs++(List.replicate n zs).flatten:=by simp [List.replicate_succ]
    rw [List.getElem_of_eq e]
    by_cases hl:i<zs.length
    ·rw [Zat hl]
     congr 1
     exact (Nat.mod_eq_of_lt hl).symm
    ·rw [Zao (by omega),ih]
     congr 1
     exact (Nat.mod_eq_sub_mod (by omega)).symm
  have:=rI n i (by simpa using hi)
  rw [show (List.replicate n zs).flatten.toArray[i]=(List.replicate n zs).flatten[i]'(by simpa using hi) from rfl,this]
  simp [hm]
theorem AY {t e:TypeId} {x:Operand} {g o n cap:Nat} {E:TypeId} {cs zs:List Value} {z:Value} [hu:iF P t (.slice e)] [hZ:lF P e z]
  (hx:Is sl x (.slice (some ⟨g,o,none⟩) n cap)) (ht:Take hs (bG g (.cells cs.toArray E (0,0))) hs') (hz:z.cells=zs.toArray) (h1:∀ u∈zs,u.oneCell'=true) (hfit:o+n*zs.length≤cs.length)
  (k:Tr c D sl (bG g (.cells (setCells cs o (List.replicate n zs).flatten).toArray E (0,0))::hs') (WL P r ops Q rest)) :
  Tr c D sl hs (WL P r ops Q (⟨none,.call ⟨.builtin .clear,#[x],#[t]⟩,ty,pos,af,none⟩::rest)):=fun a w bb=>by
 have hm:=bb.mem.take (ht.append _)
 have hg:w.heap[g]? = some (.cells cs.toArray E (0,0)):=hm.bG .here
 obtain ⟨w',h3,h4,h5⟩:=iU (P:=P) (o:=o) (List.replicate n zs).flatten 0 cs w hg (fun u hu=>by
  obtain ⟨l,hl,LI⟩:=List.mem_flatten.1 hu
  rw [List.eq_of_mem_replicate hl] at LI
  exact h1 u LI) (by
  have:(List.replicate n zs).flatten.length=n*zs.length:=by simp
  omega)
 refine mi rfl ⟨dM _ _ _ _ _,?_⟩
 rw [Oper.semAt_eq _ _ _ (by simp)]
 have:(execOp a.eval ⟨none,.call ⟨.builtin .clear,#[x],#[t]⟩,ty,pos,af,none⟩).run P w=.ok (.value (.tuple #[])) w':=by
  cases n with
  | zero =>
   simp [execOp,resolve,invoke,builtin,hx a bb.cS,Builtin.clear_,aU hu.eq]
   simpa [storeCells] using h3
  | succ n =>
   simp [execOp,resolve,invoke,builtin,hx a bb.cS,Builtin.clear_,aU hu.eq,il (t:=e) (v:=z),hz,yB]
   simp [h3]
 rw [this]
 have l7:=Mem.store hm h4 h5
 exact k _ _ (bb.heap l7)
end
end Go.SL
namespace Go.SL
open Go
section
variable {α:Type} {f:α→List Value} {sz:Nat}
theorem iQ (hf:∀ x,(f x).length=sz) (l:List α):(l.map f).flatten.length=l.length*sz:=by
 rw [fg (sz:=sz) (fun r hr=>by obtain ⟨x,_,rfl⟩:=Zu.1 hr;exact hf x),Zd]
theorem rz (hf:∀ x,(f x).length=sz) {l:List α} {i:Nat} (h:i<l.length) (cur:List Value):ed ((l.map f).flatten++cur) (i*sz) sz=f l[i]:=by
 have hl:l=l.take i++l[i]::l.drop (i+1):=by rw [← Zw h,ZZ]
 have e:(l.map f).flatten=((l.take i).map f).flatten++(f l[i]++((l.drop (i+1)).map f).flatten):=
  (congrArg (fun m=>(List.map f m).flatten) hl).trans (by simp only [Zr,Zab,Z8,ZaB])
 have hk:((l.take i).map f).flatten.length=i*sz:=by rw [iQ hf,ZaI (by omega)]
 rw [jf,e,Zh,← hk,List.drop_append_of_le_length (by omega),Z6,Za,← hf l[i],Zh,Zad (by omega),ZL]
theorem th {cs:List Value} {o n j:Nat} (hj:j<n):(ed cs o n)[j]? = cs[o+j]?:=by
 rw [jf,ZC,if_pos hj,Zbc]
theorem KA (hf:∀ x,(f x).length=sz) {l:List α} {i j:Nat} (h:i<l.length) (hj:j<sz) (cur:List Value):((l.map f).flatten++cur)[i*sz+j]? = (f l[i])[j]?:=by
 rw [← rz hf h cur,th hj]
theorem yZ:∀ (A B C Z:List Value),Z.length=B.length→setCells (A++(B++C)) A.length Z=A++(Z++C):=by
 intro A B C Z h
 apply Zap
 intro k
 rw [ij _ _ _ _ (by simp;omega)]
 by_cases h1:k<A.length
 ·rw [if_neg (by omega),ZI h1,ZI h1]
 ·by_cases h2:k-A.length<Z.length
  ·rw [if_pos (by omega),ZN (show A.length≤k by omega),ZI h2]
  ·rw [if_neg (by omega),ZN (show A.length≤k by omega),ZN (show A.length≤k by omega),ZN (show B.length≤k-A.length by omega),ZN (show Z.length≤k-A.length by omega),h]
theorem Kz (hf:∀ x,(f x).length=sz) {l:List α} {i:Nat} (h:i<l.length) (x:α) (cur:List Value):setCells ((l.map f).flatten++cur) (i*sz) (f x)=((l.set i x).map f).flatten++cur:=by
 have hl:l=l.take i++l[i]::l.drop (i+1):=by rw [← Zw h,ZZ]
 have e:(l.map f).flatten=((l.take i).map f).flatten++(f l[i]++((l.drop (i+1)).map f).flatten):=
  (congrArg (fun m=>(List.map f m).flatten) hl).trans (by simp only [Zr,Zab,Z8,ZaB])
 have e2:((l.set i x).map f).flatten=((l.take i).map f).flatten++(f x++((l.drop (i+1)).map f).flatten):=by
  rw [List.set_eq_take_append_cons_drop,if_pos h]
  simp
 have hk:((l.take i).map f).flatten.length=i*sz:=by rw [iQ hf,ZaI (by omega)]
 rw [e,e2,Zh,Zh,Zh,Zh,← hk]
 exact yZ _ _ _ _ (by rw [hf,hf])
theorem Fm (hf:∀ x,(f x).length=sz) (A B:List α) (Z cur:List Value) (hz:Z.length=B.length*sz):setCells (((A++B).map f).flatten++cur) (A.length*sz) Z=(A.map f).flatten++(Z++cur):=by
 rw [Zr,Zab,Zh,← iQ hf A]
 exact yZ _ _ _ _ (by rw [hz,iQ hf])
theorem xB {g k n cap:Nat} (sz:Nat) (h:k<n) (hc:n≤cap):Go.sliced (some ⟨g,0,none⟩) ((k:Nat):Int).toNat n cap sz=.slice (some ⟨g,k*sz,none⟩) (n-k) (cap-k):=by
 unfold Go.sliced
 rw [if_neg (by rw [ZG];omega),ZG]
 simp [eI]
theorem xC (g k cap sz:Nat):Go.sliced (some ⟨g,0,none⟩) 0 ((k:Nat):Int).toNat cap sz=.slice (some ⟨g,0,none⟩) k cap:=by
 unfold Go.sliced
 rw [ZG]
 by_cases h:cap=0
 ·rw [if_pos h];simp
 ·rw [if_neg h];simp [eI]
theorem filter_lt {q:α→Bool} {l:List α} {i:Nat} (hi:i<l.length) (h:q l[i]=false):(l.filter q).length<l.length:=
 List.length_filter_lt_length_iff_exists.2 ⟨l[i],Zj hi,by simp [h]⟩
def ub (q:α→Bool) (l:List α) (j:Nat):List α:=(l.take j).filter q++l.drop ((l.take j).filter q).length
def lj (q:α→Bool) (l:List α) (j:Nat):Nat:=((l.take j).filter q).length
theorem nh (q:α→Bool) (l:List α) {j:Nat} (hj:j≤l.length):lj q l j≤j:=by
 have:=Z7 q (l.take j)
 rw [ZaI hj] at this
 exact this
theorem Fi (q:α→Bool) (l:List α) {j:Nat} (hj:j≤l.length):(ub q l j).length=l.length:=by
 have:=nh q l hj
 unfold lj at this
 unfold ub
 rw [Zg,Zba]
 omega
theorem Fj (q:α→Bool) (l:List α) {j:Nat} (hj:j<l.length):∃ h:j<(ub q l j).length,(ub q l j)[j]=l[j]:=by
 have:=nh q l (Nat.le_of_lt hj)
 unfold lj at this
 have h:(ub q l j)[j]? = some l[j]:=by
  unfold ub
  rw [ZN this,Zbc,← Zc hj]
  congr 1;omega
 exact Zl.1 h
theorem uy (q:α→Bool) (l:List α) {j:Nat} (hj:j<l.length):(l.take (j+1)).filter q=(l.take j).filter q++if q l[j] then [l[j]] else []:=by
 rw [Zn hj,Zbd]
 congr 1
 by_cases h:q l[j]=true
 ·rw [Zbr h,if_pos h];rfl
 ·rw [List.filter_cons_of_neg h,if_neg h];rfl
theorem DX (q:α→Bool) (l:List α) {j:Nat} (hj:j<l.length) (hq:q l[j]=false):ub q l (j+1)=ub q l j∧lj q l (j+1)=lj q l j:=by
 have e:(l.take (j+1)).filter q=(l.take j).filter q:=by rw [uy q l hj,hq];simp
 unfold ub lj
 rw [e];exact ⟨rfl,rfl⟩
theorem Fh (q:α→Bool) (l:List α) {j:Nat} (hj:j<l.length) (hq:q l[j]=true):ub q l (j+1)=(ub q l j).set (lj q l j) l[j]∧lj q l (j+1)=lj q l j+1:=by
 have e:(l.take (j+1)).filter q=(l.take j).filter q++[l[j]]:=by rw [uy q l hj,if_pos hq]
 have hle:=nh q l (Nat.le_of_lt hj)
 unfold lj at hle
 have hm:((l.take j).filter q).length<l.length:=by omega
 unfold ub lj
 rw [e]
 refine ⟨?_,by simp⟩
 rw [List.set_append_right _ _ (Zz _),Nat.sub_self,Zw hm,List.set_cons_zero,Zg,Zh]
 rfl
theorem Fk (q:α→Bool) (l:List α):ub q l l.length=l.filter q++l.drop (l.filter q).length∧lj q l l.length=(l.filter q).length:=by
 unfold ub lj
 rw [ZL]
 exact ⟨rfl,rfl⟩
theorem ym (q:α→Bool) (l:List α) {i:Nat} (hi:i<l.length) (hb:∀ j (h:j<i),q (l[j]'(by omega))=true) (hq:q l[i]=false):ub q l (i+1)=l∧lj q l (i+1)=i:=by
 have e:(l.take i).filter q=l.take i:=ZaO.2 fun x hx=>by
  obtain ⟨j,hj,rfl⟩:=Zs hx
  rw [ZaJ]
  exact hb j (by rw [Zp] at hj;omega)
 obtain ⟨h1,h2⟩:=DX q l hi hq
 rw [h1,h2]
 unfold ub lj
 rw [e,ZaI (by omega),ZZ]
 exact ⟨rfl,rfl⟩
end
end Go.SL
namespace Go.Proofs.A1
open Go Go.SL
theorem BM {lv:Value} {l:List ByteArray} {p:ByteArray→Bool} {f:FuncId} {first cap:List Value} [bM Tryz.prog f] {w:World} (h:Rd w lv 1 (iI l)) (cr:∀ x∈l,∀ w',aH [] w w'→aj Tryz.prog f (first++[.string x]++cap) w' (.bool (p x))) :
  aj Tryz.prog 299 [lv,.func (.func f) first.toArray cap.toArray] w (.int .i64 (gP p l)):=by
 obtain ⟨a,cp,b,o,rfl,c7,bQ,ha,hc⟩:=h
 rw [bV] at *
 unfold maxLen at bQ
 refine ah Tryz.func299 rfl rfl ?_
 refine Jr<|Ja rfl<|Jn<|Jq<|Jr<|Jv rfl<|JI rfl<|Jv rfl<|Jn<|J0 ?_
 refine aX (fun k:Nat=>k≤l.length∧∀ i,i<k→(l[i]?.map p).getD false=false) (fun k=>[(8,.int .i64 k),(7,.int .i64 l.length),(0,.slice a l.length cp),(1,.func (.func f) first.toArray cap.toArray)]) (fun _=>[]) (fun k=>l.length-k) ?_ ?_
 ·apply aI 0 ⟨Zi _,fun i h=>by omega⟩
  case hs1=>exact cd
  case ht=>(try simp only [Ze,Zf,Za]);exact .nil
 rintro k ⟨hk,hf⟩
 by_cases aK:k<l.length
 ·have cB:=ha (k6 aK)
  have c0:w.cell? ⟨b,o+k*1,none⟩=some (.string l[k]):=(hc k _ (jb aK)).2 0 _ rfl
  have iP:=cr _ (Zj aK)
  have hps:(l[k]?.map p).getD false=p l[k]:=by simp [aK]
  (refine Jr<|JA rfl<|Jn<|Jq<|Jd rfl fun ar=>Jk<|Jq<|J0<|Jr<|Jv rfl<|Ja rfl<|Ji<|Jv rfl<|Jv rfl<|Jv rfl<|ab (fG cB ar) rfl<|ab (ag (.of rfl) (At.base c0 rfl)) rfl<|ai bL rfl (fun w' aB=>(iP w' (Mem.keeps aB)))<|Jn<|nF rfl (fun ar=>?_) fun ar=>?_;refine Jr<|Jv rfl<|Ja rfl<|Jn<|Je<|Jm<|Jh<|Jh<|Jm<|Jh<|JT ?_;rotate_left;refine Jw<|Jj<|Jt<|Jg<|JB rfl (by omega)<|Jv rfl<|Jn ?_;rotate_right)
  ·rw [gp hf aK ar]
  ·apply aJ (k+1) ⟨by omega,fun i hi=>by
    by_cases e:i=k
    ·rw [e,hps];exact ar
    ·exact hf i (by omega)⟩ (by omega)
   case hs1=>exact cd
   case ht=>(try simp only [Ze,Zf,Za]);exact .nil
 ·obtain rfl:k=l.length:=by omega
  refine Jr<|JA rfl<|Jn<|Jq<|Jc rfl fun ar=>Jp<|Jl<|Jo<|Jt<|Jr<|Ja rfl<|Jn<|Je<|JT ?_
  rw [fv hf]
theorem Ks {lv:Value} {l:List ByteArray} {p:ByteArray→Bool} {f:FuncId} {first cap:List Value} [bM Tryz.prog f] {w:World} (h:Rd w lv 1 (iI l)) (cr:∀ x∈l,∀ w',aH [] w w'→aj Tryz.prog f (first++[.string x]++cap) w' (.bool (p x))) :
  aj Tryz.prog 250 [lv,.func (.func f) first.toArray cap.toArray] w (.bool (l.any p)):=by
 have iP:∀ w',aH [] w w'→aj Tryz.prog 299 [lv,.func (.func f) first.toArray cap.toArray] w' (.int .i64 (gP p l)):=fun w' hk=>
  BM (h.keeps hk) fun x hx w2 eH=>cr x hx w2 (hk.trans eH)
 rw [← j4]
 refine ah Tryz.func250 rfl rfl ?_
 (refine Jr<|Ja rfl<|Ji<|Jv rfl<|Jv rfl<|ai bd rfl (fun w' aB=>(iP w' (Mem.keeps aB)))<|JG rfl<|Ja rfl<|Jn<|Je<|JT ?_)
 rfl
set_option maxHeartbeats 1000000 in
theorem KN {v:Value} {n:Nat} {l:List ByteArray} {p:ByteArray→Bool} {f:FuncId} {first cap:List Value} [bM Tryz.prog f] {w:World} {fp:List Nat} (kU:fp.Nodup) (hs:ch (hp w) [row 9 1 v n (aM l)] fp) (hn:l.length=n) (cI:n≤1000000)
  (cr:∀ x∈l,∀ w',aH fp w w'→aj Tryz.prog f (first++[.string x]++cap) w' (.bool (p x))) :
  bh Tryz.prog 224 [v,.func (.func f) first.toArray cap.toArray] w fp (fun _:Value=>True) id (fun v'=>[row 9 1 v' (l.filter fun x=>!p x).length (aM (l.filter fun x=>!p x))]):=by
 refine eb Tryz.func224 rfl rfl kU hs ?_
 refine Jr<|Ja rfl<|Ji<|Jv rfl<|Jv rfl ?_
 refine aW (by exact .here) fun va vc e=>?_
 subst e
 skip
 with_reducible apply ai
 case hr=>exact bd
 case hd=>rfl
 case hc=>
  intro w' aB
  have hR:Rd w' (.slice va n vc) 1 (iI l):=dL aB (by exact .here) hn
  exact BM (f:=f) (p:=p) (first:=first) (cap:=cap) hR (fun x hx w2 eH=>cr x hx w2 (aB.keeps.trans (eH.mono (by simp))))
 rcases o7 p l with ⟨e1,e2⟩ | ⟨i,hi,e1,e2⟩
 ·rw [e1]
  have rI:(l.filter fun x=>!p x)=l:=ZaO.2 fun x hx=>by
   have:=ZaH.1 e2 x hx
   simpa using this
  rw [rI]
  refine Ja rfl<|Jn<|Jq<|Jr<|Jv rfl<|JC rfl<|Jn<|Jd rfl fun ar=>Jr<|Jv rfl<|Ja rfl<|Jn<|Ju ?_
  first | with_reducible apply aN | with_reducible apply aO
  case he=>exact dD rfl rfl
  case hR=>
   intro w' aB
   exact aF (.slice va n vc) trivial (show bz _ [row 9 1 (.slice va n vc) l.length (aM l)] _ by rw [hn];exact .cons .here .nil) aB rfl
 rw [e1]
 rw [ZaA] at e2
 obtain ⟨O5,i',AH,Hc,dA⟩:=e2
 have Hb:i'=i:=by
  have h1:gP p l=(i':Nat):=gp (fun j hj=>by
   rw [Zc (by omega)]
   simpa using dA j hj) AH (by rw [Hc];exact O5)
  rw [e1] at h1
  exact_mod_cast h1.symm
 subst Hb
 obtain ⟨st1,st2⟩:=ym (fun x=>!p x) l AH (fun j hj=>dA j hj) (by rw [Hc];simp [O5])
 have hne:¬ ((i':Nat):Int) = -1:=by omega
 refine Ja rfl<|Jn<|Jq<|Jr<|Jv rfl<|JC rfl<|Jn<|Jc rfl fun ar=>Jk<|Jq<|Jr<|Jv rfl<|JB rfl (by omega)<|Ja rfl<|Jn<|J0 ?_
 refine dd (by exact .here) (by omega) ?_
 rintro g gQ cur e oE zQ hsz hl
 cases e
 have hF:∀ x,((fun s:ByteArray=>[Value.string s]) x).length=1:=fun _=>rfl
 have hV:∀ l,aM l=(l.map (fun s:ByteArray=>[Value.string s])).flatten:=fun l=>qI l
 refine aX (fun j:Nat=>i'<j∧j≤l.length) (fun j=>[(6,.int .i64 (j:Nat)),(5,.int .i64 (lj (fun x=>!p x) l j)),(0,.slice (some ⟨g,0,none⟩) n vc),(1,.func (.func f) first.toArray cap.toArray)])
  (fun j=>[bG g (.cells (((ub (fun x=>!p x) l j).map (fun s:ByteArray=>[Value.string s])).flatten++cur).toArray 9 (0,0))]) (fun j=>l.length-j) ?_ ?_
 ·apply aI (i'+1) ⟨by omega,by omega⟩
  case hs1=>rw [st2];exact .cons rfl (.cons rfl (.cons rfl (.cons rfl .nil)))
  case ht=>rw [st1,← hV];exact .cons .here .nil
 rintro j ⟨hj,hk⟩
 by_cases aK:j<l.length
 ·have DM:j<n:=by omega
  have hle:=nh (fun x=>!p x) l hk
  have rI:=Fi (fun x=>!p x) l hk
  obtain ⟨Yd,Yi⟩:=Fj (fun x=>!p x) l aK
  have c0:=KA hF Yd (show 0<1 by omega) cur
  rw [Yi] at c0
  have c1:(((ub (fun x=>!p x) l j).map (fun s:ByteArray=>[Value.string s])).flatten++cur)[j*1]? = some (.string l[j]):=c0
  (refine Jq<|Jr<|Jv rfl<|Jv rfl<|JI rfl<|JA rfl<|Jn<|Jd rfl fun ar=>Jk<|Jq<|J0<|Jr<|Jv rfl<|Jv rfl<|ab (az (.of rfl) (.of rfl) rfl (by omega) ar bj) rfl ?_;refine ab (ag (.of rfl) (At.mF .here c1)) rfl ?_;refine Ja rfl<|Ji<|Jv rfl<|Jv rfl ?_)
  with_reducible apply ai
  case hr=>exact bL
  case hd=>rfl
  case hc=>
   intro w' aB
   exact cr l[j] (Zj aK) w' aB.keeps
  have hm:lj (fun x=>!p x) l j<(ub (fun x=>!p x) l j).length:=by rw [rI];have:=st2;omega
  have hb:lj (fun x=>!p x) l j*1+1≤(((ub (fun x=>!p x) l j).map (fun s:ByteArray=>[Value.string s])).flatten++cur).length:=by rw [Zg,iQ hF,rI];omega
  have pt:=Kz hF hm l[j] cur
  have hmn:lj (fun x=>!p x) l j<n:=by omega
  cases hq:p l[j] with
  | true =>
   obtain ⟨s1,s2⟩:=DX (fun x=>!p x) l aK (by simp [hq])
   (refine JH rfl<|Jn<|bN (.of rfl)<|Jw<|Jj<|Jt<|Jg<|Jv rfl<|JB rfl (by omega)<|Ja rfl<|Jn ?_)
   apply aJ (j+1) ⟨by omega,by omega⟩ (by omega)
   case hs1=>rw [s2];exact .cons rfl (.cons rfl (.cons rfl (.cons rfl .nil)))
   case ht=>rw [s1];exact .cons .here .nil
  | false =>
   obtain ⟨s1,s2⟩:=Fh (fun x=>!p x) l aK (by simp [hq])
   (refine JH rfl<|Jn<|cF (.of rfl) ?_;refine Jr<|Jv rfl<|Jv rfl<|Jv rfl<|ab (az (.of rfl) (.of rfl) rfl (by omega) (by omega) bj) rfl ?_;refine aq (.of rfl) (.of rfl) .here rfl rfl (eE rfl) hb pt ?_;refine Jn<|Jg<|Jv rfl<|JB rfl (by omega)<|Ja rfl<|Jx<|Jj<|Jt<|Jg<|Jv rfl<|JB rfl (by omega)<|Ja rfl<|Jn ?_)
   apply aJ (j+1) ⟨by omega,by omega⟩ (by omega)
   case hs1=>rw [s2];exact .cons rfl (.cons rfl (.cons rfl (.cons rfl .nil)))
   case ht=>rw [s1];exact .cons .here .nil
 ·obtain rfl:j=l.length:=by omega
  obtain ⟨a1,a2⟩:=Fk (fun x=>!p x) l
  have hle:=nh (fun x=>!p x) l (Zz _)
  rw [a1,a2]
  rw [a2] at hle
  have hZ:=Fm hF (l.filter fun x=>!p x) (l.drop (l.filter fun x=>!p x).length) (List.replicate (n-(l.filter fun x=>!p x).length) [Value.string ⟨#[]⟩]).flatten cur (by simp;omega)
  have SU:(l.filter fun x=>!p x).length<l.length:=filter_lt AH (by rw [Hc];simp [O5])
  generalize (l.filter fun x=>!p x)=q at hle hZ SU ⊢
  have XF:q.length<n:=by omega
  have SX:q.length≤vc:=by omega
  have hfit:q.length*1+(n-q.length)*[Value.string ⟨#[]⟩].length≤(((q++l.drop q.length).map (fun s:ByteArray=>[Value.string s])).flatten++cur).length:=by
   rw [Zg,iQ hF,Zg,Zba]
   simp only [ZJ,Zaa]
   omega
  refine Jq<|Jr<|Jv rfl<|Jv rfl<|JI rfl<|JA rfl<|Jn<|Jc rfl fun ar=>Jp<|Jl<|Jo<|Jt<|Jr<|Jv rfl<|Jv rfl<|ab (pU (.of rfl) (.of rfl) (by omega) (by omega)) rfl ?_
  rw [xB 1 XF oE]
  refine AY (zs:=[Value.string ⟨#[]⟩]) (z:=.string ⟨#[]⟩) (.of rfl) .here rfl (eE rfl) hfit ?_
  rw [hZ]
  (refine Ji<|Jv rfl<|Jv rfl<|ab (gY (.of rfl) (.of rfl) (by omega) (by omega)) rfl<|Ja rfl<|Jn<|Je ?_)
  rw [xC]
  have u9:((q.map (fun s:ByteArray=>[Value.string s])).flatten++((List.replicate (n-q.length) [Value.string ⟨#[]⟩]).flatten++cur)).length=vc*1:=by
   rw [← hsz,Zg,iQ hF,Zg,Zg,← hn,hV,iQ hF]
   have:(List.replicate (l.length-q.length) [Value.string ⟨#[]⟩]).flatten.length=(l.length-q.length)*1:=by simp
   rw [this]
   omega
  refine cN (n:=q.length) (sz:=1) (by exact .here) SX zQ u9 (by rw [iQ hF]) ?_
  skip
  first | with_reducible apply aN | with_reducible apply aO
  case he=>exact dD rfl rfl
  case hR=>
   intro w' aB
   exact aF (.slice (some ⟨g,0,none⟩) q.length vc) trivial (show bz _ [row 9 1 (.slice (some ⟨g,0,none⟩) q.length vc) q.length (aM q)] _ by rw [hV];exact .cons .here .nil) aB rfl
set_option maxHeartbeats 1000000 in
theorem Og {v:Value} {n:Nat} {l:List Po} {p:Po→Bool} {f:FuncId} {first cap:List Value} [bM Tryz.prog f] {w:World} {fp:List Nat} (kU:fp.Nodup) (hs:ch (hp w) [row 188 3 v n (gR l)] fp) (hn:l.length=n) (cI:n≤1000000)
  (cr:∀ x∈l,∀ w',aH fp w w'→aj Tryz.prog f (first++[.agg x.cells.toArray]++cap) w' (.bool (p x))) :
  bh Tryz.prog 314 [v,.func (.func f) first.toArray cap.toArray] w fp (fun _:Value=>True) id (fun v'=>[row 188 3 v' (l.filter fun x=>!p x).length (gR (l.filter fun x=>!p x))]):=by
 refine eb Tryz.func314 rfl rfl kU hs ?_
 refine Jr<|Ja rfl<|Ji<|Jv rfl<|Jv rfl ?_
 refine aW (by exact .here) fun va vc e=>?_
 subst e
 skip
 with_reducible apply ai
 case hr=>exact bd
 case hd=>rfl
 case hc=>
  intro w' aB
  have hR:Rd w' (.slice va n vc) 3 (sJ l):=cM aB (by exact .here) hn
  exact zL (f:=f) (p:=p) (first:=first) (cap:=cap) hR (fun x hx w2 eH=>cr x hx w2 (aB.keeps.trans (eH.mono (by simp))))
 rcases o7 p l with ⟨e1,e2⟩ | ⟨i,hi,e1,e2⟩
 ·rw [e1]
  have rI:(l.filter fun x=>!p x)=l:=ZaO.2 fun x hx=>by
   have:=ZaH.1 e2 x hx
   simpa using this
  rw [rI]
  refine Ja rfl<|Jn<|Jq<|Jr<|Jv rfl<|JC rfl<|Jn<|Jd rfl fun ar=>Jr<|Jv rfl<|Ja rfl<|Jn<|Ju ?_
  first | with_reducible apply aN | with_reducible apply aO
  case he=>exact dD rfl rfl
  case hR=>
   intro w' aB
   exact aF (.slice va n vc) trivial (show bz _ [row 188 3 (.slice va n vc) l.length (gR l)] _ by rw [hn];exact .cons .here .nil) aB rfl
 rw [e1]
 rw [ZaA] at e2
 obtain ⟨O5,i',AH,Hc,dA⟩:=e2
 have Hb:i'=i:=by
  have h1:gP p l=(i':Nat):=gp (fun j hj=>by
   rw [Zc (by omega)]
   simpa using dA j hj) AH (by rw [Hc];exact O5)
  rw [e1] at h1
  exact_mod_cast h1.symm
 subst Hb
 obtain ⟨st1,st2⟩:=ym (fun x=>!p x) l AH (fun j hj=>dA j hj) (by rw [Hc];simp [O5])
 have hne:¬ ((i':Nat):Int) = -1:=by omega
 refine Ja rfl<|Jn<|Jq<|Jr<|Jv rfl<|JC rfl<|Jn<|Jc rfl fun ar=>Jk<|Jq<|Jr<|Jv rfl<|JB rfl (by omega)<|Ja rfl<|Jn<|J0 ?_
 refine dd (by exact .here) (by omega) ?_
 rintro g gQ cur e oE zQ hsz hl
 cases e
 have hF:∀ x,(Po.cells x).length=3:=fun _=>rfl
 have hV:∀ l,gR l=(l.map Po.cells).flatten:=fun l=>rfl
 refine aX (fun j:Nat=>i'<j∧j≤l.length) (fun j=>[(6,.int .i64 (j:Nat)),(5,.int .i64 (lj (fun x=>!p x) l j)),(0,.slice (some ⟨g,0,none⟩) n vc),(1,.func (.func f) first.toArray cap.toArray)])
  (fun j=>[bG g (.cells (((ub (fun x=>!p x) l j).map Po.cells).flatten++cur).toArray 188 (0,0))]) (fun j=>l.length-j) ?_ ?_
 ·apply aI (i'+1) ⟨by omega,by omega⟩
  case hs1=>rw [st2];exact .cons rfl (.cons rfl (.cons rfl (.cons rfl .nil)))
  case ht=>rw [st1,← hV];exact .cons .here .nil
 rintro j ⟨hj,hk⟩
 by_cases aK:j<l.length
 ·have DM:j<n:=by omega
  have hle:=nh (fun x=>!p x) l hk
  have rI:=Fi (fun x=>!p x) l hk
  obtain ⟨Yd,Yi⟩:=Fj (fun x=>!p x) l aK
  have c0:=rz hF Yd cur
  rw [Yi] at c0
  have c1:ed (((ub (fun x=>!p x) l j).map Po.cells).flatten++cur) (j*3) 3=[.int .i64 (l[j]).lv,.string (l[j]).ou,.string (l[j]).ip]:=c0
  (refine Jq<|Jr<|Jv rfl<|Jv rfl<|JI rfl<|JA rfl<|Jn<|Jd rfl fun ar=>Jk<|Jq<|J0<|Jr<|Jv rfl<|Jv rfl<|ab (az (.of rfl) (.of rfl) rfl (by omega) ar bj) rfl ?_;refine ab (bS (.of rfl) .here c1 rfl) rfl ?_;refine Jz rfl rfl fun _ _=>aq (.of rfl) (.of rfl) .here rfl rfl (fo rfl rfl rfl) (bF rfl) ak ?_;refine Ji<|Jv rfl<|ab (cL .here) rfl ?_)
  with_reducible apply ai
  case hr=>exact bL
  case hd=>rfl
  case hc=>
   intro w' aB
   exact cr l[j] (Zj aK) w' aB.keeps
  have hm:lj (fun x=>!p x) l j<(ub (fun x=>!p x) l j).length:=by rw [rI];have:=st2;omega
  have hb:lj (fun x=>!p x) l j*3+3≤(((ub (fun x=>!p x) l j).map Po.cells).flatten++cur).length:=by rw [Zg,iQ hF,rI];omega
  have pt:=Kz hF hm l[j] cur
  have hmn:lj (fun x=>!p x) l j<n:=by omega
  cases hq:p l[j] with
  | true =>
   obtain ⟨s1,s2⟩:=DX (fun x=>!p x) l aK (by simp [hq])
   (refine JH rfl<|Jn<|bN (.of rfl)<|Jw<|Jj<|Jt<|Jg<|Jv rfl<|JB rfl (by omega)<|Ja rfl<|Jn ?_)
   apply aJ (j+1) ⟨by omega,by omega⟩ (by omega)
   case hs1=>rw [s2];exact .cons rfl (.cons rfl (.cons rfl (.cons rfl .nil)))
   case ht=>rw [s1];exact .cons (.there .here) .nil
  | false =>
   obtain ⟨s1,s2⟩:=Fh (fun x=>!p x) l aK (by simp [hq])
   (refine JH rfl<|Jn<|cF (.of rfl) ?_;refine Jr<|Jv rfl<|Jv rfl<|ab (cL .here) rfl ?_;refine ab (az (.of rfl) (.of rfl) rfl (by omega) (by omega) bj) rfl ?_;refine aq (.of rfl) (.of rfl) (.there .here) rfl rfl (fo rfl rfl rfl) hb pt ?_;refine Jn<|Jg<|Jv rfl<|JB rfl (by omega)<|Ja rfl<|Jx<|Jj<|Jt<|Jg<|Jv rfl<|JB rfl (by omega)<|Ja rfl<|Jn ?_)
   apply aJ (j+1) ⟨by omega,by omega⟩ (by omega)
   case hs1=>rw [s2];exact .cons rfl (.cons rfl (.cons rfl (.cons rfl .nil)))
   case ht=>rw [s1];exact .cons .here .nil
 ·obtain rfl:j=l.length:=by omega
  obtain ⟨a1,a2⟩:=Fk (fun x=>!p x) l
  have hle:=nh (fun x=>!p x) l (Zz _)
  rw [a1,a2]
  rw [a2] at hle
  have hZ:=Fm hF (l.filter fun x=>!p x) (l.drop (l.filter fun x=>!p x).length) (List.replicate (n-(l.filter fun x=>!p x).length) [Value.int .i64 0,Value.string ⟨#[]⟩,Value.string ⟨#[]⟩]).flatten cur (by simp;omega)
  have SU:(l.filter fun x=>!p x).length<l.length:=filter_lt AH (by rw [Hc];simp [O5])
  generalize (l.filter fun x=>!p x)=q at hle hZ SU ⊢
  have XF:q.length<n:=by omega
  have SX:q.length≤vc:=by omega
  have hfit:q.length*3+(n-q.length)*[Value.int .i64 0,Value.string ⟨#[]⟩,Value.string ⟨#[]⟩].length≤(((q++l.drop q.length).map Po.cells).flatten++cur).length:=by
   rw [Zg,iQ hF,Zg,Zba]
   simp only [ZJ,Zaa]
   omega
  refine Jq<|Jr<|Jv rfl<|Jv rfl<|JI rfl<|JA rfl<|Jn<|Jc rfl fun ar=>Jp<|Jl<|Jo<|Jt<|Jr<|Jv rfl<|Jv rfl<|ab (pU (.of rfl) (.of rfl) (by omega) (by omega)) rfl ?_
  rw [xB 3 XF oE]
  refine AY (zs:=[Value.int .i64 0,Value.string ⟨#[]⟩,Value.string ⟨#[]⟩]) (z:=.agg #[.int .i64 0,.string ⟨#[]⟩,.string ⟨#[]⟩]) (.of rfl) .here rfl (fo rfl rfl rfl) hfit ?_
  rw [hZ]
  (refine Ji<|Jv rfl<|Jv rfl<|ab (gY (.of rfl) (.of rfl) (by omega) (by omega)) rfl<|Ja rfl<|Jn<|Je ?_)
  rw [xC]
  have u9:((q.map Po.cells).flatten++((List.replicate (n-q.length) [Value.int .i64 0,Value.string ⟨#[]⟩,Value.string ⟨#[]⟩]).flatten++cur)).length=vc*3:=by
   rw [← hsz,Zg,iQ hF,Zg,Zg,← hn,hV,iQ hF]
   have:(List.replicate (l.length-q.length) [Value.int .i64 0,Value.string ⟨#[]⟩,Value.string ⟨#[]⟩]).flatten.length=(l.length-q.length)*3:=by simp
   rw [this]
   omega
  refine cN (n:=q.length) (sz:=3) (by exact .here) SX zQ u9 (by rw [iQ hF]) ?_
  skip
  first | with_reducible apply aN | with_reducible apply aO
  case he=>exact dD rfl rfl
  case hR=>
   intro w' aB
   exact aF (.slice (some ⟨g,0,none⟩) q.length vc) trivial (show bz _ [row 188 3 (.slice (some ⟨g,0,none⟩) q.length vc) q.length (gR q)] _ by rw [hV];exact .cons .here .nil) aB rfl
end Go.Proofs.A1
