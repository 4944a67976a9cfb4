/- Parts of the proof: GkRegM GkRegN GkStr GkBits GkArr KA KB KC GkClear GkFl KD. -/
import Derived.Test.YteonnodafmegaaaGreatDoorBM04
import Derived.Test.YteonnodafmegaaaGreatDoorBM03
import Derived.Laws.Strings
import Derived.Laws.BytesString
import Derived.Test.YteonnodafmegaaaGreatDoorBM01
import Derived.Laws.Entries
import Derived.Test.YteonnodafmegaaaGreatDoorBM05
set_option linter.unusedSectionVars false
set_option linter.unusedVariables false
set_option linter.unusedSimpArgs false
namespace Go.SL
open Go
def Ct (l:List Oper) (m p:Nat):Bool:=
 l.all mH&&th l 0&&kh l.toArray (l.take m) 0&&(List.range' m (l.length-m)).all (fun k=>(List.range m).all fun i=>Nat.beq i p||((iw l []).getD k 0).testBit i)&&Nat.ble m l.length
def G9 (l:List Oper) (m:Nat):Bool:=Ct l m m
structure Kn (l:List Oper) (m p:Nat):Prop where
 op:∀ o∈l,mH o=true
 ac:th l 0=true
 AM:kh l.toArray (l.take m) 0=true
 tail:∀ k,m≤k→k<l.length→∀ i,i<m→i≠p→((iw l []).getD k 0).testBit i=true
 le:m≤l.length
theorem sq {l:List Oper} {m p:Nat} (h:Ct l m p=true):Kn l m p:=by
 simp only [Ct,Bool.and_eq_true,List.all_eq_true] at h
 obtain ⟨⟨⟨⟨h1,h2⟩,h3⟩,h5⟩,h6⟩:=h
 refine ⟨h1,h2,h3,fun k hk aL i hi hne=>?_,by simpa using h6⟩
 have:=h5 k (List.mem_range'_1.2 ⟨hk,by omega⟩) i (List.mem_range.2 hi)
 rw [Bool.or_eq_true] at this
 exact this.resolve_left (by simpa using hne)
theorem jN {l:List Oper} {m p:Nat} (hc:Kn l m p) {i j:Nat} {x y:Oper} (xE:i<j) (hj:j<m) (hx:l[i]? = some x) (hy:l[j]? = some y):pG l.toArray x y i=true:=by
 have:=mG hc.AM (i:=i) (j:=j) xE (by rw [List.getElem?_take,if_pos (by omega)];exact hx) (by rw [List.getElem?_take,if_pos hj];exact hy)
 simpa using this
theorem ss {l:List Oper} {m p:Nat} (hc:Kn l m p) {listed:Array Bool} (hsz:listed.size=l.length) (zf:DC l (Ls listed)) {i:Nat} (hi:i∈Region.ready .any l.toArray listed) (hm:m≤i):∀ j,j<m→j≠p→Ls listed j:=by
 intro j hj Wx
 obtain ⟨o,ho,hn,hd⟩:=(dA hsz).1 hi
 have aL:i<l.length:=(List.getElem?_eq_some_iff.1 ho).1
 have CY:DC l (fun k=>k=i∨Ls listed k):=by
  intro k ok hk hL e he hb
  rcases hL with e' | hL
  ·subst e'
   rw [ho] at hk;cases hk
   exact .inr (hd e he hb)
  ·exact .inr (zf k ok hk hL e he hb)
 rcases gQ CY hc.ac i aL (.inl rfl) j (hc.tail i hm aL j hj Wx) with h | h
 ·omega
 ·exact h
structure cK where
 F:(Nat→Value)→Value
 A:(Nat→Value)→List a8
def ud (β:Nat→Value) (i:Nat) (x:Value):Nat→Value:=fun k=>if k=i then x else β k
theorem tZ (β:Nat→Value) (i:Nat):ud β i (β i)=β:=by
 funext k;unfold ud;split
 ·rename_i h;rw [h]
 ·rfl
theorem jV (β:Nat→Value) (i:Nat) (x:Value):ud β i x i=x:=by unfold ud;rw [if_pos rfl]
theorem ub {β:Nat→Value} {i k:Nat} {x:Value} (h:k≠i):ud β i x k=β k:=by unfold ud;rw [if_neg h]
def vv (l:List Oper) (i k:Nat):Bool:=Nat.beq i k||((iw l []).getD i 0).testBit k
def dL (β:Nat→Value) (lst:Nat→Bool):List cK→Nat→List a8
 | [],_=>[]
 | s::S,i=>(if lst i then s.A β else [])++dL β lst S (i+1)
theorem ia {β β':Nat→Value} {lst mL:Nat→Bool}:∀ {S:List cK} {i:Nat},(∀ j s,S[j]? = some s→lst (i+j)=mL (i+j)∧(lst (i+j)=true→s.A β=s.A β'))→dL β lst S i=dL β' mL S i
 | [],_,_=>rfl
 | s :: S, i, h => by
  have h0:=h 0 s rfl
  have ih:dL β lst S (i+1)=dL β' mL S (i+1):=ia fun j s' hj=>by have:=h (j+1) s' (by simpa using hj);rwa [show i+(j+1)=i+1+j from by omega] at this
  simp only [Nat.add_zero] at h0
  unfold dL
  rw [ih,← h0.1]
  by_cases hl:lst i=true
  ·rw [if_pos hl,if_pos hl,h0.2 hl]
  ·rw [if_neg hl,if_neg hl]
theorem qE {β:Nat→Value} {lst mL:Nat→Bool} {k:Nat} {s:cK}:∀ {S:List cK} {i:Nat},S[k]? = some s→lst (i+k)=false→mL (i+k)=true→(∀ j,j≠i+k→mL j=lst j) →
  (s.A β++dL β lst S i).Perm (dL β mL S i)
 | [],_,h,_,_,_=>by simp at h
 | s0 :: S, i, h, h1, h2, h3 => by
  cases k with
  | zero =>
   simp at h
   subst h
   have e:dL β lst S (i+1)=dL β mL S (i+1):=ia fun j s' hj=>⟨(h3 (i+1+j) (by omega)).symm,fun _=>rfl⟩
   simp only [Nat.add_zero] at h1 h2
   unfold dL
   rw [if_neg (by simp [h1]),if_pos h2,e];simp
  | succ k =>
   have ih:(s.A β++dL β lst S (i+1)).Perm (dL β mL S (i+1)):=by
    refine qE (k:=k) (by simpa using h) ?_ ?_ ?_
    all_goals rw [show i+1+k=i+(k+1) from by omega];assumption
   unfold dL
   rw [h3 i (by omega)]
   refine List.Perm.trans ?_ (ih.append_left _)
   rw [← Zh,← Zh]
   exact List.perm_append_comm.append_right _
theorem qC {β:Nat→Value} {lst:Nat→Bool} {s:cK}:∀ {S:List cK} {i j:Nat},S[j]? = some s→lst (i+j)=true→(s.A β).Sublist (dL β lst S i)
 | [],_,j,h,_=>by simp at h
 | s0 :: S, i, 0, h, h1 => by
  simp at h
  subst h
  unfold dL
  rw [Nat.add_zero] at h1
  rw [if_pos h1]
  exact List.sublist_append_left _ _
 | s0 :: S, i, j + 1, h, h1 => by
  unfold dL
  exact (qC (S:=S) (i:=i+1) (j:=j) (by simpa using h) (by rwa [show i+1+j=i+(j+1) from by omega])).trans (List.sublist_append_right _ _)
theorem bY.sublist {h:Nat→Option Obj} {l1 l2:List a8} (hs:l1.Sublist l2):∀ {fp:List Nat},bY h l2 fp→∃ lh:List Nat,bY h l1 lh∧lh.Sublist fp:=by
 induction hs with
 | slnil=>intro fp hf;exact ⟨fp,hf,List.Sublist.refl _⟩
 | cons A _ ih =>
  rintro fp ⟨f1,f2,rfl,_,h2⟩
  obtain ⟨g,hg,iD⟩:=ih h2
  exact ⟨g,hg,iD.trans (List.sublist_append_right _ _)⟩
 | cons_cons A _ ih =>
  rintro fp ⟨f1,f2,rfl,h1,h2⟩
  obtain ⟨g,hg,iD⟩:=ih h2
  exact ⟨f1++g,⟨f1,g,rfl,h1,hg⟩,(List.Sublist.refl f1).append iD⟩
theorem Mem.sublist {c:Cx} {l1 l2:List a8} {w:World} (h:Mem c l2 w) (hs:l1.Sublist l2):Mem c l1 w:=by
 obtain ⟨k,fp,hn,ie,hb⟩:=h
 obtain ⟨g,hg,iD⟩:=ie.sublist hs
 exact ⟨k,g,hn.sublist iD,hg,fun b dy=>hb b (iD.subset dy)⟩
def qh (P:Program) (o:Oper) (a:Act) (w:World) (K:Value→World→Prop):Prop:=
 match (execOp a.eval o).run P w with
 | .ok (.value v) w'=>K v w'
 | .ok (.enter f args) w'=>w'=w∧Calls P f args w (fun e vQ=>∃ v,e=.returned v∧K v vQ)
 | _=>False
section
variable {P:Program} {c:Cx} {D:List Nat} {sl:aI} {hs:List a8} {Q:Exit→Act→World→Prop} {l:List Oper} {m:Nat}
def jE (c:Cx) (hs:List a8) (S:List cK) (B:List Nat) (β:Nat→Value) (w:World):Prop:=∀ A:List a8,(A=[]∨∃ j,j∈B∧∃ s,S[j]? = some s∧A=s.A β)→Mem c (A++hs) w
theorem jE.mem {S:List cK} {B:List Nat} {β:Nat→Value} {w:World} (h:jE c hs S B β w):Mem c hs w:=h [] (.inl rfl)
theorem jE.at {S:List cK} {B:List Nat} {β:Nat→Value} {w:World} (h:jE c hs S B β w) (j:Nat) {s:cK} (hj:j∈B) (hs':S[j]? = some s):Mem c (s.A β++hs) w:=h _ (.inr ⟨j,hj,s,hs',rfl⟩)
def Nv (i:Nat) (s:cK) (β:Nat→Value) (w:World) (v:Value) (w':World):Prop:=∃ x,v=s.F (ud β i x)∧aG [] w w'∧∃ fp:List Nat,fp.Nodup∧bY (hp w') (s.A (ud β i x)) fp∧∀ b∈fp,w.heap.size≤b
def pB {α:Type} (l:List Oper) (i:Nat) (F:(Nat→Value)→α):Prop:=∀ β β',(∀ k,vv l i k=true→β k=β' k)→F β=F β'
structure Dn (P:Program) (c:Cx) (hs:List a8) (l:List Oper) (i:Nat) (o:Oper) (SL:(Nat→Value)→aI) (S:List cK) (s:cK):Prop where
 CP:pB l i s.F
 CQ:pB l i s.A
 run:∃ B:List Nat,(∀ j∈B,fk o j=true)∧∀ β a w,bK (SL β) a→jE c hs S B β w→if Region.wanted o (yielded l.toArray a.tmps)=true then qh P o a w (Nv i s β w) else Nv i s β w undef w
inductive sR (P:Program) (c:Cx) (hs:List a8) (l:List Oper):Nat→List Oper→((Nat→Value)→aI)→List cK→List cK→((Nat→Value)→aI)→Prop
 | nil {i:Nat} {SL:(Nat→Value)→aI} {S:List cK}:sR P c hs l i [] SL S S SL
 | step {i d:Nat} {o:Oper} {rest:List Oper} {SL nr:(Nat→Value)→aI} {S S':List cK} {s:cK} (hd:o.dst=some d) (fw:d<c.nt) (h:Dn P c hs l i o SL S s)
   (t:sR P c hs l (i+1) rest (fun β=>(d,s.F β)::SL β) (S++[s]) S' nr):sR P c hs l i (o::rest) SL S S' nr
def ni (sl:aI) (pre:List Oper) (SL:(Nat→Value)→aI) (S:List cK):Prop:=
 ∀ β t v,cF (SL β) t=some v→(∃ (j:Nat) (oj:Oper) (s:cK),pre[j]? = some oj∧oj.dst=some t∧S[j]? = some s∧v=s.F β)∨((∀ oj∈pre,oj.dst≠some t)∧cF sl t=some v)
theorem ni.step {pre:List Oper} {SL:(Nat→Value)→aI} {S:List cK} (h:ni sl pre SL S) (hl:S.length=pre.length) {o:Oper} {d:Nat} {s:cK} (hd:o.dst=some d):ni sl (pre++[o]) (fun β=>(d,s.F β)::SL β) (S++[s]):=by
 intro β t v hv
 by_cases e:d=t
 ·subst e
  rw [fA] at hv
  cases hv
  exact .inl ⟨pre.length,o,s,by simp,hd,by rw [← hl];simp,rfl⟩
 ·rw [fy e] at hv
  rcases h β t v hv with ⟨j,oj,s',h1,h2,h3,h4⟩ | ⟨h1,h2⟩
  ·refine .inl ⟨j,oj,s',?_,h2,?_,h4⟩
   ·rw [List.getElem?_append_left (List.getElem?_eq_some_iff.1 h1).1];exact h1
   ·rw [List.getElem?_append_left (List.getElem?_eq_some_iff.1 h3).1];exact h3
  ·refine .inr ⟨fun oj Ie=>?_,h2⟩
   rcases List.mem_append.1 Ie with Ie | Ie
   ·exact h1 oj Ie
   ·rw [List.mem_singleton.1 Ie,hd];simp [e]
theorem sR.spec {i:Nat} {rest:List Oper} {SL nr:(Nat→Value)→aI} {S S':List cK} (h:sR P c hs l i rest SL S S' nr):∀ pre:List Oper,pre.length=i→S.length=i→ni sl pre SL S →
  S'.length=i+rest.length∧S <+: S'∧ni sl (pre++rest) nr S'∧∀ k o,i≤k→(pre++rest)[k]? = some o→∃ d EL s,o.dst=some d∧d<c.nt∧S'[k]? = some s∧ni sl ((pre++rest).take k) EL (S'.take k)∧Dn P c hs l k o EL (S'.take k) s:=by
 induction h with
 | @nil i SL S =>
  intro pre hp hS km
  refine ⟨by simpa using hS,List.prefix_rfl,by simpa using km,fun k o hk ho=>?_⟩
  have:=(List.getElem?_eq_some_iff.1 ho).1
  simp at this;omega
 | @step i d o rest SL nr S S' s hd fw a7 t ih =>
  intro pre hp hS km
  obtain ⟨h1,h2,h3,h4⟩:=ih (pre++[o]) (by simp [hp]) (by simp [hS]) (km.step (by omega) hd)
  rw [Zh,List.singleton_append] at h3 h4
  have Fv:S <+: S':=(List.prefix_append S [s]).trans h2
  have qZ:S'[i]? = some s:=by
   obtain ⟨r,rfl⟩:=h2
   rw [Zh,List.getElem?_append_right (by omega),hS];simp
  have Xe:S'.take i=S:=by
   obtain ⟨r,rfl⟩:=Fv
   rw [← hS];simp
  refine ⟨by rw [h1];simp;omega,Fv,h3,fun k ok hk ho=>?_⟩
  by_cases e:k=i
  ·subst e
   have Ef:ok=o:=by
    rw [List.getElem?_append_right (by omega),hp] at ho
    simpa using ho.symm
   subst Ef
   have htk:(pre++ok::rest).take k=pre:=by rw [← hp];simp
   rw [htk,Xe]
   exact ⟨d,SL,s,hd,fw,qZ,km,a7⟩
  ·exact h4 k ok (by omega) ho
structure Nx (c:Cx) (D:List Nat) (hs:List a8) (l:List Oper) (m:Nat) (S:List cK) (a0:Act) (fuel:Nat) (listed:Array Bool) (a:Act) (w:World):Prop where
 sz:listed.size=l.length
 dc:DC l (Ls listed)
 hi:∀ k,m≤k→¬ Ls listed k
 defers:a.defers=D.map mark
 size:a.tmps.size=c.nt
 AP:∀ t,(∀ (j:Nat) (o:Oper),l[j]? = some o→Ls listed j→o.dst≠some t)→a.tmps[t]? = a0.tmps[t]?
 left:∃ U:List Nat,U.Nodup∧(∀ i,i∈U↔i<l.length∧¬ Ls listed i)∧U.length=fuel
 own:∃ β:Nat→Value,Mem c (dL β (fun i=>listed.getD i false) S 0++(hs++l8 D)) w∧∀ (j:Nat) (o:Oper) (d:Nat) (s:cK),l[j]? = some o→o.dst=some d→S[j]? = some s→Ls listed j→a.tmps[d]? = some (s.F β)
def lo (n m:Nat):Array Bool:=(List.replicate m true++List.replicate (n-m) false).toArray
theorem Bt {P:Program} {dst:Option Tmp} {x:Operand} {k:Nat} {ty:TypeId} {pos:String} {af:Array Edge} {ρ:Operand→Value} {w:World} {K:Value→World→Prop}
  (h:match (execOp ρ ⟨dst,.extract x k,ty,pos,af,none⟩).run P w with
   | .ok (.value v) w'=>K v w'
   | .ok (.enter f args) w'=>w'=w∧Calls P f args w (fun e vQ=>∃ v,e=.returned v∧K v vQ)
   | _=>False):∃ v,K v w∧∀ w2,(execOp ρ ⟨dst,.extract x k,ty,pos,af,none⟩).run P w2=.ok (.value v) w2:=by
 simp only [execOp] at h ⊢
 generalize ρ x=u at h ⊢
 cases u with
 | tuple vs =>
  simp only [Instr.extract] at h ⊢
  cases hv:vs[k]? with
  | none=>simp [hv] at h
  | some v=>simp [hv] at h ⊢;exact h
 | _=>simp [Instr.extract] at h
def zI (l:List Oper) (p:Nat):Prop:=∃ d x k ty pos af,l[p]? = some ⟨some d,.extract x k,ty,pos,af,none⟩∧Region.noSelect l.toArray=true∧Region.free .any l.toArray ((List.range l.length).map fun j=>((iw l []).getD p 0).testBit j).toArray p=true
theorem xG {ops:Array Oper} {l1 l2:Array Bool} {i:Nat} (h:Region.free .any ops l1 i=true) (hle:∀ j,j<ops.size→j≠i→l1.getD j true=true→l2.getD j true=true):Region.free .any ops l2 i=true:=by
 unfold Region.free at h ⊢
 cases hi:ops[i]? with
 | none=>rw [hi] at h;cases h
 | some oi =>
  rw [hi] at h
  simp only [List.all_eq_true,List.mem_range] at h ⊢
  intro j hj
  have h1:=h j hj
  simp only [Bool.or_eq_true] at h1 ⊢
  rcases h1 with (h1 | h1) | h1
  ·exact .inl (.inl h1)
  ·by_cases e:j=i
   ·exact .inl (.inl (by simp [e]))
   ·exact .inl (.inr (hle j hj e h1))
  ·exact .inr h1
theorem xh {l:List Oper} (RH:th l 0=true) {listed:Array Bool} (hsz:listed.size=l.length) (zf:DC l (Ls listed)) {i:Nat} (hi:i∈Region.ready .any l.toArray listed) {j:Nat} (W6:((iw l []).getD i 0).testBit j=true):j=i∨Ls listed j:=by
 obtain ⟨o,ho,hn,hd⟩:=(dA hsz).1 hi
 have aL:i<l.length:=(List.getElem?_eq_some_iff.1 ho).1
 have CY:DC l (fun k=>k=i∨Ls listed k):=by
  intro k ok hk hL e he hb
  rcases hL with e' | hL
  ·subst e'
   rw [ho] at hk;cases hk
   exact .inr (hd e he hb)
  ·exact .inr (zf k ok hk hL e he hb)
 exact gQ CY RH i aL (.inl rfl) j W6
theorem Pt {p:Nat} (hc:Kn l m p) (Fv:p<m→zI l p) (U0:∀ c a w,¬ Q (.panic c) a w) {S:List cK} {nr:(Nat→Value)→aI} (S6:sR P c hs l 0 (l.take m) (fun _=>sl) [] S nr) {a0:Act} (h0:bK sl a0) (Ih:a0.tmps.size=c.nt)
  (tail:∀ β a w,St c D (nr β) (dL β (fun _=>true) S 0++hs) a w→wpAnyIn (FR none) 0 P .any l.toArray Q (l.length-m) (lo l.length m) a w) :
  ∀ (fuel:Nat) (listed:Array Bool) (a:Act) (w:World),Nx c D hs l m S a0 fuel listed a w→wpAnyIn (FR none) 0 P .any l.toArray Q fuel listed a w:=by
 have hle:=hc.le
 have Ic:ni sl [] (fun _=>sl) []:=fun β t v hv=>.inr ⟨fun oj h=>(List.not_mem_nil h).elim,hv⟩
 obtain ⟨Bm,_,km,fO⟩:=S6.spec (sl:=sl) [] rfl rfl Ic
 rw [Za] at km fO
 rw [Nat.zero_add,List.length_take,Nat.min_eq_left hle] at Bm
 have dT:∀ (j:Nat) (o:Oper),j<m→l[j]? = some o→(l.take m)[j]? = some o:=fun j o hj ho=>by rw [List.getElem?_take,if_pos hj];exact ho
 have fu:∀ (j:Nat) (o:Oper),(l.take m)[j]? = some o→j<m∧l[j]? = some o:=fun j o ho=>by
  rw [List.getElem?_take] at ho
  split at ho
  ·exact ⟨by assumption,ho⟩
  ·cases ho
 have Ol:∀ j,j<m→∃ s,S[j]? = some s:=fun j hj=>⟨S[j]'(by omega),Zc (by omega)⟩
 have mf:∀ fuel listed a w,Nx c D hs l m S a0 fuel listed a w→(∀ i,i<m→Ls listed i)→wpAnyIn (FR none) 0 P .any l.toArray Q fuel listed a w:=by
  intro fuel listed a w hI dU
  have hL:∀ i,i<l.length→(Ls listed i↔i<m):=fun i _=>⟨fun h=>Nat.lt_of_not_le fun hm=>hI.hi i hm h,dU i⟩
  obtain ⟨U,wh,pN,rQ⟩:=hI.left
  have gU:U.Perm (List.range' m (l.length-m)):=by
   rw [List.perm_ext_iff_of_nodup wh (List.nodup_range')]
   intro i
   rw [pN i,List.mem_range'_1]
   constructor
   ·rintro ⟨h1,h2⟩
    exact ⟨Nat.le_of_not_lt fun h=>h2 (dU i h),by omega⟩
   ·rintro ⟨h1,h2⟩
    exact ⟨by omega,hI.hi i h1⟩
  have hlen:fuel=l.length-m:=by rw [← rQ,gU.length_eq,List.length_range']
  have Ii:listed=lo l.length m:=by
   have uT:(lo l.length m).size=l.length:=by simp [lo];omega
   apply Array.ext
   ·rw [hI.sz,uT]
   ·intro i h1 h2
    rw [hI.sz] at h1
    have h3:=hL i h1
    unfold Ls at h3
    rw [Array.getD_eq_getD_getElem?,Array.getElem?_eq_getElem (by rw [hI.sz];exact h1),Option.getD_some] at h3
    have h4:(lo l.length m)[i]=decide (i<m):=by
     simp only [lo,List.getElem_toArray]
     by_cases hi:i<m
     ·rw [List.getElem_append_left (by simpa using hi)];simp [hi]
     ·rw [List.getElem_append_right (by simpa using hi)];simp [hi]
    rw [h4]
    by_cases hi:i<m
    ·rw [h3.2 hi];simp [hi]
    ·have:¬ listed[i]=true:=fun h=>hi (h3.1 h)
     simp [hi,this]
  subst hlen
  rw [Ii]
  obtain ⟨β,hm,kP⟩:=hI.own
  have e:dL β (fun i=>listed.getD i false) S 0=dL β (fun _=>true) S 0:=ia fun j s hj=>by
   have gX:j<m:=by have:=(List.getElem?_eq_some_iff.1 hj).1;omega
   rw [Nat.zero_add]
   exact ⟨dU j gX,fun _=>rfl⟩
  rw [e] at hm
  refine tail β a w ⟨by rw [Zh];exact hm,fun t v hv=>?_,hI.size,hI.defers⟩
  rcases km β t v hv with ⟨j,oj,s,h1,h2,h3,h4⟩ | ⟨h1,h2⟩
  ·obtain ⟨gX,lQ⟩:=fu j oj h1
   rw [h4];exact kP j oj t s lQ h2 h3 (dU j gX)
  ·rw [hI.AP t fun j oj hj jr=>h1 oj (List.mem_of_getElem? (dT j oj (Nat.lt_of_not_le fun hm=>hI.hi j hm jr) hj))]
   exact h0 t v h2
 intro fuel
 induction fuel with
 | zero =>
  intro listed a w hI
  obtain ⟨U,_,pN,rQ⟩:=hI.left
  have hU:U=[]:=List.length_eq_zero_iff.1 rQ
  refine mf 0 listed a w hI fun i hi=>Classical.byContradiction fun hn=>?_
  have:=(pN i).2 ⟨by omega,hn⟩
  rw [hU] at this;cases this
 | succ fuel ih =>
  intro listed a w hI
  by_cases dU:∀ i,i<m→Ls listed i
  ·exact mf _ listed a w hI dU
  ·have hex:∃ i,i<m∧¬ Ls listed i:=Classical.byContradiction fun hh=>dU fun i hi=>Classical.byContradiction fun hn=>hh ⟨i,hi,hn⟩
   obtain ⟨i0,rP,o7⟩:=hex
   have main:∀ i,i∈Region.ready .any l.toArray listed→i<m→wpOpIn (FR none) 0 P l.toArray Q i (wpAnyIn (FR none) 0 P .any l.toArray Q fuel (listed.setIfInBounds i true)) a w∧(i=p→wpAnyIn (FR none) 0 P .any l.toArray Q (fuel+1) listed a w):=by
    intro i hi oT
    obtain ⟨o,ho,hn,lB⟩:=(dA hI.sz).1 hi
    obtain ⟨d,EL,s,hd,fw,qZ,sF,dB⟩:=fO i o (Zi _) (dT i o oT ho)
    obtain ⟨CP,CQ,B,hB,ig⟩:=dB
    obtain ⟨β,hm,kP⟩:=hI.own
    have lA:∀ (j:Nat),fk o j=true→Ls listed j:=fun j hw=>by
     obtain ⟨e,he,hb,pq⟩:=dq hw
     rw [← pq];exact lB e he hb
    have pt:∀ (j:Nat) (oj:Oper) (e:Nat),l[j]? = some oj→j<m→j≠i→oj.dst=some e→d≠e:=by
     intro j oj e hj gX hne he
     rcases Nat.lt_or_ge j i with h | h
     ·exact fun e'=>(di (jN hc h oT hj ho) he hd).1 e'.symm
     ·exact (di (jN hc (show i<j by omega) gX ho hj) hd he).1
    have iP:i<listed.size:=by rw [hI.sz];omega
    have BY:mH o=true:=hc.op o (List.mem_of_getElem? ho)
    -- zK cM O5 zK operation looks at
    have hT:∀ t∈o.looksAt l.toArray,∀ v,cF (EL β) t=some v→a.tmps[t]? = some v:=by
     intro t ht v hv
     rcases sF β t v hv with ⟨j,oj,sj,h1,h2,h3,h4⟩ | ⟨h1,h2⟩
     ·have nf:j<i:=by have:=(List.getElem?_eq_some_iff.1 h1).1;rw [List.length_take] at this;omega
      rw [List.getElem?_take,if_pos nf] at h1 h3
      obtain ⟨gX,lQ⟩:=fu j oj h1
      have jr:=lA j ((di (jN hc nf oT lQ ho) h2 hd).2 (.inl ht))
      rw [h4];exact kP j oj t sj lQ h2 h3 jr
     ·rw [hI.AP t fun j oj hj jr iy=>?_]
      ·exact h0 t v h2
      ·have gX:j<m:=Nat.lt_of_not_le fun hm=>hI.hi j hm jr
       rcases Nat.lt_trichotomy j i with h | h | h
       ·exact h1 oj (List.mem_of_getElem? (by rw [List.getElem?_take,if_pos h];exact dT j oj gX hj)) iy
       ·subst h;exact hn jr
       ·have hw:=(di (jN hc h gX ho hj) hd iy).2 (.inr ht)
        obtain ⟨e,he,hb,pq⟩:=dq hw
        have:=hI.dc j oj hj jr e he hb
        rw [pq] at this
        exact hn this
    have u0:∀ t v,cF (EL β) t=some v→t<c.nt:=by
     intro t v hv
     rcases sF β t v hv with ⟨j,oj,sj,h1,h2,_,_⟩ | ⟨_,h2⟩
     ·have nf:j<i:=by have:=(List.getElem?_eq_some_iff.1 h1).1;rw [List.length_take] at this;omega
      rw [List.getElem?_take,if_pos nf] at h1
      obtain ⟨d',_,_,vK,ze,_⟩:=fO j oj (Zi _) h1
      rw [h2] at vK;cases vK
      exact ze
     ·have:=h0 t v h2
      rw [← Ih]
      exact (Array.getElem?_eq_some_iff.1 this).1
    obtain ⟨a',kF,iW,_⟩:=om hI.size u0 hT
    have zh:jE c hs (S.take i) B β w:=by
     rintro A (rfl | ⟨j,hj,sj,h1,rfl⟩)
     ·exact hm.sublist ((List.sublist_append_left _ _).trans (List.sublist_append_right _ _))
     ·have nf:j<i:=by have:=(List.getElem?_eq_some_iff.1 h1).1;rw [List.length_take] at this;omega
      rw [List.getElem?_take,if_pos nf] at h1
      have jr:=lA j (hB j hj)
      exact hm.sublist ((qC (lst:=fun i=>listed.getD i false) (i:=0) h1 (by rw [Nat.zero_add];exact jr)).append (List.sublist_append_left _ _))
    have hq:=ig β a' w kF zh
    have hex:=im (o:=o) (ops:=l.toArray) BY iW
    -- OU a done operation R5 T4 not TG on this one
    have nZ:∀ j,Ls listed j→∀ x k,vv l j k=true→β k=ud β i x k:=by
     intro j jr x k hk
     refine (ub fun e=>?_).symm
     subst e
     unfold vv at hk
     rw [Bool.or_eq_true] at hk
     rcases hk with hk | hk
     ·have:j=k:=by simpa using hk
      subst this;exact hn jr
     ·have Qq:j<l.length:=by
       have gX:j<m:=Nat.lt_of_not_le fun hm=>hI.hi j hm jr
       omega
      exact hn (gQ hI.dc hc.ac j Qq jr k hk)
    have gH:∀ v w',Nv i s β w v w'→wpAnyIn (FR none) 0 P .any l.toArray Q fuel (listed.setIfInBounds i true) (a.put o.dst v) w':=by
     rintro v w' ⟨x,rfl,hk,fp,kQ,ie,wc⟩
     refine ih _ _ _ ⟨by simpa using hI.sz,?_,?_,by rw [hd];exact hI.defers,by simpa [Act.put,hd] using hI.size,?_,?_,ud β i x,?_,?_⟩
     ·intro k ok rn hL e he hb
      rw [cr iP] at hL ⊢
      rcases hL with e' | hL
      ·subst e'
       rw [ho] at rn;cases rn
       exact .inr (lB e he hb)
      ·exact .inr (hI.dc k ok rn hL e he hb)
     ·intro k rn hL
      rw [cr iP] at hL
      rcases hL with e | hL
      ·omega
      ·exact hI.hi k rn hL
     ·intro t ht
      have h1:d≠t:=fun e=>by subst e;exact ht i o ho ((cr iP).2 (.inl rfl)) hd
      rw [hd]
      simp only [Act.put,Array.getElem?_setIfInBounds_ne h1]
      exact hI.AP t fun j oj hj hL=>ht j oj hj ((cr iP).2 (.inr hL))
     ·obtain ⟨U,wh,pN,rQ⟩:=hI.left
      refine ⟨U.erase i,wh.erase i,fun k=>?_,?_⟩
      ·rw [wh.mem_erase_iff,pN k,cr iP]
       constructor
       ·rintro ⟨h1,h2,h3⟩
        exact ⟨h2,fun h=>h.elim h1 h3⟩
       ·rintro ⟨h1,h2⟩
        exact ⟨fun e=>h2 (.inl e),h1,fun h=>h2 (.inr h)⟩
      ·have Qr:i∈U:=(pN i).2 ⟨by omega,hn⟩
       rw [List.length_erase_of_mem Qr,rQ];rfl
     ·have lP:Mem c (s.A (ud β i x)++(dL β (fun i=>listed.getD i false) S 0++(hs++l8 D))) w':=Mem.On (As:=[]) hm fun rS _ hf=>by
       rw [show rS=[] from hf]
       exact ⟨hk,fp,kQ,ie,fun b hb=>.inr (wc b hb)⟩
      have e1:dL β (fun i=>listed.getD i false) S 0=dL (ud β i x) (fun i=>listed.getD i false) S 0:=ia fun j sj hj=>by
       refine ⟨rfl,fun hl=>?_⟩
       rw [Nat.zero_add] at hl
       have gX:j<m:=by have:=(List.getElem?_eq_some_iff.1 hj).1;omega
       obtain ⟨oj,Ie⟩:∃ oj,l[j]? = some oj:=⟨l[j]'(by omega),Zc (by omega)⟩
       obtain ⟨_,_,s2,_,_,hs2,_,uW⟩:=fO j oj (Zi _) (dT j oj gX Ie)
       rw [hj] at hs2;cases hs2
       exact uW.CQ _ _ (nZ j hl x)
      rw [e1,← Zh] at lP
      refine lP.perm ((qE (k:=i) qZ ?_ ?_ ?_).append_right _)
      ·rw [Nat.zero_add]
       show listed.getD i false=false
       have:¬ listed.getD i false=true:=hn
       simpa using this
      ·rw [Nat.zero_add];exact (cr iP).2 (.inl rfl)
      ·intro j hj
       rw [Nat.zero_add] at hj
       simp [Array.getD_eq_getD_getElem?,Array.getElem?_setIfInBounds_ne (Ne.symm hj)]
     ·intro j oj e sj hj he ju hL
      rw [cr iP] at hL
      by_cases nf:j=i
      ·subst nf
       rw [ho] at hj;cases hj
       rw [hd] at he;cases he
       rw [qZ] at ju;cases ju
       rw [hd]
       simp [Act.put,hI.size,fw]
      ·have zQ:=hL.resolve_left nf
       have gX:j<m:=Nat.lt_of_not_le fun hm=>hI.hi j hm zQ
       obtain ⟨_,_,s2,_,_,hs2,_,uW⟩:=fO j oj (Zi _) (dT j oj gX hj)
       rw [ju] at hs2;cases hs2
       rw [hd]
       simp only [Act.put,Array.getElem?_setIfInBounds_ne (pt j oj e hj gX nf he)]
       rw [← uW.CP _ _ (nZ j zQ x)]
       exact kP j oj e sj hj he ju zQ
    have F7:=hq
    refine ⟨?_,fun Tn=>?_⟩
    rotate_left
    ·subst Tn
     obtain ⟨d',x',k',U8,pos',XF,Bc,Qc,eJ⟩:=Fv oT
     rw [ho] at Bc;cases Bc
     rw [if_pos (by simp [Region.wanted])] at F7
     unfold qh at F7
     obtain ⟨v,hv,Bl⟩:=Bt F7
     have wc:Region.free .any l.toArray listed i=true:=xG eJ fun j hj hne hb=>by
      have lQ:j<l.length:=by simpa using hj
      have dy:((iw l []).getD i 0).testBit j=true:=by
       rw [Array.getD_eq_getD_getElem?] at hb
       simpa [lQ] using hb
      have Ww:j<listed.size:=by rw [hI.sz];exact lQ
      rcases xh hc.ac hI.sz hI.dc hi dy with e | hL
      ·exact absurd e hne
      ·unfold Ls at hL
       rw [Array.getD_eq_getD_getElem?,Array.getElem?_eq_getElem Ww] at hL ⊢
       exact hL
     refine wpAnyIn_take (oi:=⟨some d',.extract x' k',U8,pos',XF,none⟩) (v:=v) rfl (by simpa using ho) Qc wc (by simpa using hi) (fun c a w h=>(U0 c _ w h).elim) ⟨.inl ⟨by simp [Region.wanted],fun w2=>by rw [← hex];exact Bl w2⟩,fun w2=>rfl⟩ (gH v w hv)
    unfold wpOpIn
    rw [show l.toArray[i]? = some o from by simpa using ho]
    simp only []
    rw [gM iW] at hq
    split
    ·rename_i hw
     rw [if_pos hw] at hq
     refine ⟨dH _ _ _ _ _,?_⟩
     rw [Oper.semAt_eq _ _ _ (fun cc he=>by simp [mH,he] at BY),← hex]
     unfold qh at hq
     revert hq
     generalize (execOp a'.eval o).run P w=res
     intro hq
     match res,hq with
     | .ok (.value v) w',hq=>exact gH v w' hq
     | .ok (.enter f args) w', ⟨e, cn⟩ =>
      subst e
      refine ⟨by simp [FR,Fence.wide],(gV cn).mono fun e vQ h=>?_⟩
      obtain ⟨v,rfl,hq⟩:=h
      exact gH v vQ hq
    ·rename_i hw
     rw [if_neg hw] at hq
     exact ⟨fun _ _=>trivial,gH undef w hq⟩
   by_cases hp:p<m∧p∈Region.ready .any l.toArray listed
   ·exact (main p hp.2 hp.1).2 rfl
   ·refine ⟨fun hr=>?_,fun i hi=>?_⟩
    ·obtain ⟨i,hi⟩:=ja hI.sz hc.ac ⟨i0,by omega,o7⟩
     rw [hr] at hi;cases hi
    ·have oT:i<m:=Nat.lt_of_not_le fun hm=>by
      have KD:=ss hc hI.sz hI.dc hi hm
      by_cases Ia:p<m
      ·by_cases TM:Ls listed p
       ·exact o7 (by
         by_cases e:i0=p
         ·rw [e];exact TM
         ·exact KD i0 rP e)
       ·refine hp ⟨Ia,(dA hI.sz).2 ⟨l[p]'(by omega),Zc (by omega),TM,fun e he hb=>?_⟩⟩
        have aL:=jD hc.ac (Zc (show p<l.length by omega)) e he hb
        exact KD e.on (by omega) (by omega)
      ·exact o7 (KD i0 rP (by omega))
     exact (main i hi oT).1
def oG (P:Program) (c:Cx) (D:List Nat) (hs:List a8) (l:List Oper) (Q:Exit→Act→World→Prop) (m i n:Nat) (rest:List Oper) (SL:(Nat→Value)→aI) (S:List cK):Prop:=
 ∃ S' nr,sR P c hs l i (rest.take n) SL S S' nr∧∀ β,Tr c D (nr β) (dL β (fun _=>true) S' 0++hs) (Left P l.toArray Q (l.length-m) (lo l.length m))
theorem eN {id:Nat} (m:Nat) [pM:Rh P] (iQ:G9 l m=true) (k:oG P c D hs l Q m 0 m l (fun _=>sl) []):Tr c D sl hs (WP P none (.region id l.toArray true) Q):=fun a w a7=>by
 obtain ⟨S,nr,hp,ht⟩:=k
 have h:(Code.region id l.toArray true).wpIn (FR none) 0 P (NP Q) a w:=wpIn_region_any pM.eq (by
  refine Pt (p:=m) (sq iQ) (fun h=>absurd h (Nat.lt_irrefl _)) (fun c a w h=>h.elim) hp a7.cM a7.size (fun β a w a7=>ht β a w a7) l.toArray.size _ _ _ ⟨by simp,?_,?_,a7.defers,a7.size,fun t _=>rfl,?_,fun _=>undef,?_,?_⟩
  ·exact fun k o _ hL=>absurd hL (eL _ _)
  ·exact fun k _ hL=>eL _ _ hL
  ·exact ⟨List.range l.length,List.nodup_range,fun i=>⟨fun h=>⟨by simpa using h,eL _ _⟩,fun h=>by simpa using h.1⟩,by simp⟩
  ·have e:∀ (T:List cK) (i:Nat),dL (fun _=>undef) (fun i=>(Array.replicate l.toArray.size false).getD i false) T i=[]:=by
    intro T
    induction T with
    | nil=>intro i;rfl
    | cons s T ih =>
     intro i
     have:=eL l.toArray.size i
     unfold Ls at this
     unfold dL
     rw [if_neg this,ih];rfl
   rw [e]
   exact a7.mem.drew
  ·exact fun j o d s _ _ _ hL=>absurd hL (eL _ _))
 exact wpIn_mono h fun e a' w' h=>by
  cases e with
  | panic c=>exact h.elim
  | _=>exact h
end
end Go.SL
namespace Go.SL
open Go
def fP:Value→Nat
 | .int _ n=>n.toNat
 | _=>0
theorem oU (b:Nat):fP (.int .i64 (b:Int))=b:=by simp [fP]
def vL:Value→Option Addr×Nat
 | .slice a _ c=>(a,c)
 | _=>(none,0)
def fq (β:Nat→Value):List cK→List a8
 | []=>[]
 | s::S=>s.A β++fq β S
theorem AI (β:Nat→Value):∀ (S:List cK) (i:Nat),dL β (fun _=>true) S i=fq β S
 | [],_=>rfl
 | s::S,i=>by rw [dL,fq,if_pos rfl,AI β S]
section
variable {P:Program} {c:Cx} {D:List Nat} {sl:aI} {hs hs':List a8} {X:Act→World→Prop} {Q:Exit→Act→World→Prop} {l:List Oper} {m i n d:Nat} {op:Op} {ty:TypeId} {pos:String} {af:Array Edge} {rest:List Oper} {SL:(Nat→Value)→aI} {S:List cK}
theorem iM (l:List Oper) (i:Nat):vv l i i=true:=by simp [vv]
theorem ri {o:Oper} {s:cK} (hd:o.dst=some d) (fw:Nat.blt d c.nt=true) (h:Dn P c hs l i o SL S s) (k:oG P c D hs l Q m (i+1) n rest (fun β=>(d,s.F β)::SL β) (S++[s])):oG P c D hs l Q m i (n+1) (o::rest) SL S:=by
 obtain ⟨S',nr,hp,ht⟩:=k
 exact ⟨S',nr,.step hd (by simpa [Nat.blt_eq] using fw) h hp,ht⟩
theorem cV {dst:Option Tmp} {j gs:Nat} {want:Bool} (hj:((l.toArray[j]?).bind (·.dst))=some gs) (hq:∀ β,cF (SL β) gs=some (.bool want))
  (k:oG P c D hs l Q m i (n+1) (⟨dst,op,ty,pos,af,none⟩::rest) SL S):oG P c D hs l Q m i (n+1) (⟨dst,op,ty,pos,af,some (j,want)⟩::rest) SL S:=by
 obtain ⟨S',nr,hp,ht⟩:=k
 refine ⟨S',nr,?_,ht⟩
 cases hp with
 | step hd fw h t =>
  obtain ⟨h1,h2,B,hB,hr⟩:=h
  refine .step hd fw ⟨h1,h2,B,hB,fun β a w hs1 hb=>?_⟩ t
  have:=hr β a w hs1 hb
  rw [if_pos (by simp [Region.wanted])] at this
  rw [kC (o:=⟨dst,op,ty,pos,af,some (j,want)⟩) (c0:=true) rfl hj hs1 (by rw [hq β];rfl),if_pos (by simp)]
  exact this
theorem dD {j gs:Nat} {want:Bool} {v:Value} (hj:((l.toArray[j]?).bind (·.dst))=some gs) (hq:∀ β,cF (SL β) gs=some v) (hv:v=undef∨v=.bool (!want)) (hd:Nat.blt d c.nt=true)
  (k:oG P c D hs l Q m (i+1) n rest (fun β=>(d,undef)::SL β) (S++[⟨fun _=>undef,fun _=>[]⟩])):oG P c D hs l Q m i (n+1) (⟨some d,op,ty,pos,af,some (j,want)⟩::rest) SL S:=
 ri (s:=⟨fun _=>undef,fun _=>[]⟩) rfl hd ⟨fun _ _ _=>rfl,fun _ _ _=>rfl,[],by simp,fun β a w h1 h2=>by
  have hw:∃ c0 q,gv c0 (.bool q)=v∧(c0&&(q==want))=false:=by
   rcases hv with e | e
   ·exact ⟨false,want,by rw [e];rfl,rfl⟩
   ·exact ⟨true,!want,by rw [e];rfl,by cases want <;> rfl⟩
  obtain ⟨c0,q,e,RG⟩:=hw
  rw [kC (o:=⟨some d,op,ty,pos,af,some (j,want)⟩) (c0:=c0) (q:=q) rfl hj h1 (by rw [hq β,e]),if_neg (by simpa using RG)]
  exact ⟨β i,rfl,.refl _ _,[],List.nodup_nil,rfl,by simp⟩⟩ k
theorem gE (k:∀ β,Tr c D (SL β) (fq β S++hs) (Left P l.toArray Q (l.length-m) (lo l.length m))):oG P c D hs l Q m i 0 rest SL S:=
 ⟨S,SL,.nil,fun β=>by rw [AI];exact k β⟩
theorem aD {F:(Nat→Value)→Value} (hr:∀ β,cL P c (SL β) hs ⟨some d,op,ty,pos,af,none⟩ (F β)) (hi:pB l i F) (hd:Nat.blt d c.nt=true) (k:oG P c D hs l Q m (i+1) n rest (fun β=>(d,F β)::SL β) (S++[⟨F,fun _=>[]⟩])) :
  oG P c D hs l Q m i (n+1) (⟨some d,op,ty,pos,af,none⟩::rest) SL S:=
 ri (s:=⟨F,fun _=>[]⟩) rfl hd ⟨hi,fun _ _ _=>rfl,[],by simp,fun β a w h1 h2=>by
  rw [if_pos (by simp [Region.wanted])]
  unfold qh
  rw [(hr β).2 a w h1 h2.mem]
  exact ⟨β i,by rw [tZ],.refl _ _,[],List.nodup_nil,rfl,by simp⟩⟩ k
theorem cP {f:FuncId} {args:(Nat→Value)→List Value} {F:(Nat→Value)→Value} (B:List Nat) (hB:(B.all fun j=>fk ⟨some d,op,ty,pos,af,none⟩ j)=true) (hr:∀ β,ln P (SL β) ⟨some d,op,ty,pos,af,none⟩ f (args β)) (hi:pB l i F) (hd:Nat.blt d c.nt=true)
  (hc:∀ β w,jE c hs S B β w→aj P f (args β) w (F β)) (k:oG P c D hs l Q m (i+1) n rest (fun β=>(d,F β)::SL β) (S++[⟨F,fun _=>[]⟩])) :
  oG P c D hs l Q m i (n+1) (⟨some d,op,ty,pos,af,none⟩::rest) SL S:=
 ri (s:=⟨F,fun _=>[]⟩) rfl hd ⟨hi,fun _ _ _=>rfl,B,fun j hj=>List.all_eq_true.1 hB j hj,fun β a w h1 h2=>by
  rw [if_pos (by simp [Region.wanted])]
  unfold qh
  rw [(hr β).2 a w h1]
  exact ⟨rfl,(hc β w h2).mono fun e w' ⟨he,hk⟩=>⟨F β,he,β i,by rw [tZ],hk,[],List.nodup_nil,rfl,by simp⟩⟩⟩ k
theorem gI {ι:Type} {Φ:ι→Prop} {val:ι→Value} {own:ι→List a8} (g:Value→ι) (hg:∀ x,∃ v,g v=x) {f:FuncId} {args:(Nat→Value)→List Value} (B:List Nat) (hB:(B.all fun j=>fk ⟨some d,op,ty,pos,af,none⟩ j)=true)
  (hr:∀ β,ln P (SL β) ⟨some d,op,ty,pos,af,none⟩ f (args β)) (hd:Nat.blt d c.nt=true) (hc:∀ β w,jE c hs S B β w→bd P f (args β) w [] Φ val own)
  (k:oG P c D hs l Q m (i+1) n rest (fun β=>(d,val (g (β i)))::SL β) (S++[⟨fun β=>val (g (β i)),fun β=>own (g (β i))⟩])) :
  oG P c D hs l Q m i (n+1) (⟨some d,op,ty,pos,af,none⟩::rest) SL S:=
 ri (s:=⟨fun β=>val (g (β i)),fun β=>own (g (β i))⟩) rfl hd ⟨fun β β' h=>by simp only [h i (iM l i)],fun β β' h=>by simp only [h i (iM l i)],B,fun j hj=>List.all_eq_true.1 hB j hj,fun β a w h1 h2=>by
  rw [if_pos (by simp [Region.wanted])]
  unfold qh
  rw [(hr β).2 a w h1]
  refine ⟨rfl,(hc β w h2).mono fun e w' ⟨x,he,_,hk,fp,hn,hs',hf⟩=>?_⟩
  obtain ⟨v,hv⟩:=hg x
  refine ⟨val x,he,v,by simp only [jV,hv],hk,fp,hn,by simp only [jV,hv];exact hs',fun b hb=>?_⟩
  rcases hf b hb with h | h
  ·cases h
  ·exact h⟩ k
theorem mW {V:Nat→Value} {ob:(Nat→Value)→Obj} (hr:∀ β,qg P c (SL β) hs ⟨some d,op,ty,pos,af,none⟩ V (ob β)) (hi:∀ β β',(∀ k,k≠i→vv l i k=true→β k=β' k)→ob β=ob β') (hd:Nat.blt d c.nt=true)
  (k:oG P c D hs l Q m (i+1) n rest (fun β=>(d,V (fP (β i)))::SL β) (S++[⟨fun β=>V (fP (β i)),fun β=>[bA (fP (β i)) (ob β)]⟩])) :
  oG P c D hs l Q m i (n+1) (⟨some d,op,ty,pos,af,none⟩::rest) SL S:=
 ri (s:=⟨fun β=>V (fP (β i)),fun β=>[bA (fP (β i)) (ob β)]⟩) rfl hd ⟨fun β β' h=>by simp only [h i (iM l i)],fun β β' h=>by simp only [h i (iM l i),hi β β' fun k _ hk=>h k hk],[],by simp,fun β a w h1 h2=>by
  rw [if_pos (by simp [Region.wanted])]
  unfold qh
  rw [(hr β).2 a w h1 h2.mem]
  have e:ob (ud β i (.int .i64 (w.heap.size:Int)))=ob β:=hi _ _ fun k hk _=>ub hk
  exact ⟨.int .i64 (w.heap.size:Int),by simp only [jV,oU],.alloc _ _ _,[w.heap.size],by simp,⟨[w.heap.size],[],rfl,⟨by simp only [jV,oU],by simp only [jV,oU];rw [e];exact World.alloc_heap_new w (ob β)⟩,rfl⟩,by simp⟩⟩ k
end
end Go.SL
namespace Go.SL
open Go
section
variable {P:Program} {c:Cx} {sl:aI} {hs:List a8} {dst:Option Tmp} {ty:TypeId} {pos:String} {af:Array Edge} {g:Option (Nat×Bool)}
theorem dK {x:Operand} {a:Addr} (hx:Is sl x (.pointer (some a))):cL P c sl hs ⟨dst,.nilCheck x,ty,pos,af,g⟩ (.pointer (some a)):=
 ⟨by simp,fun ac w ha _=>by simp [execOp,hx ac ha]⟩
end
section
variable {P:Program} {c:Cx} {D:List Nat} {hs:List a8} {Q:Exit→Act→World→Prop} {l:List Oper} {m i n d:Nat} {op:Op} {ty:TypeId} {pos:String} {af:Array Edge} {rest:List Oper} {SL:(Nat→Value)→aI} {S:List cK}
theorem dx {v:Value}:pB l i (fun _=>v):=fun _ _ _=>rfl
end
section
variable {P:Program} {c:Cx} {D:List Nat} {sl:aI} {hs:List a8} {Q:Exit→Act→World→Prop} {ops:Array Oper} {fuel:Nat} {listed:Array Bool}
end
section
variable {P:Program} {r:Option Nat} {c:Cx} {D:List Nat} {sl:aI} {hs:List a8} {Q:Exit→Act→World→Prop} {ops:Array Oper} {fuel i:Nat} {listed:Array Bool}
def xX (P:Program) (r:Option Nat) (ops:Array Oper) (Q:Exit→Act→World→Prop) (fuel:Nat) (listed:Array Bool):Act→World→Prop:=wpAnyIn (FR r) 0 P .any ops (NP Q) fuel listed
def ON (P:Program) (r:Option Nat) (c:Cx) (D:List Nat) (sl:aI) (hs:List a8) (ops:Array Oper) (Q:Exit→Act→World→Prop) (fuel:Nat) (listed:Array Bool) (i:Nat):Prop:=
 ∀ a w,St c D sl hs a w→wpOpIn (FR r) 0 P ops (NP Q) i (xX P r ops Q fuel (listed.setIfInBounds i true)) a w
theorem sA {rs:List Nat} (hr:Region.ready .any ops listed=rs) (hne:rs≠[]) (h:∀ i∈rs,ON P r c D sl hs ops Q fuel listed i):Tr c D sl hs (xX P r ops Q (fuel+1) listed):=fun a w a7=>
 wpAnyIn_all hr hne fun i hi=>h i hi a w a7
theorem uH {d:Option Tmp} {op:Op} {ty:TypeId} {pos:String} {af:Array Edge} {g:Option (Nat×Bool)} (hi:ops[i]? = some ⟨d,op,ty,pos,af,g⟩) (h:Tr c D sl hs (WL P r ops (Exit.then (xX P r ops Q fuel (listed.setIfInBounds i true)) (NP Q)) [⟨d,op,ty,pos,af,g⟩])):ON P r c D sl hs ops Q fuel listed i:=fun a w a7=>by
 have h1:=h a w a7
 unfold wpOpIn
 simp only [hi]
 unfold WL at h1
 split
 ·rename_i hw
  rw [if_pos hw] at h1
  exact Oper.tW (fun a w h=>h) (fun c a w h=>h) (fun h=>h) h1
 ·rename_i hw
  rw [if_neg hw] at h1
  exact ⟨fun _ _=>trivial,h1⟩
theorem CK (hr:Region.ready .any ops listed=[]) (k:Tr c D sl hs (Q .normal)):Tr c D sl hs (xX P r ops Q fuel listed):=fun a w a7=>
 wpAnyIn_done (Q:=NP Q) hr (k a w a7) fuel
end
end Go.SL
namespace Go.SL
open Go
variable {P:Program} {c:Cx} {sl:aI} {hs:List a8} {dst:Option Tmp} {ty:TypeId} {pos:String} {af:Array Edge} {g:Option (Nat×Bool)}
end Go.SL
namespace Go.SL
open Go
section
variable {P:Program} {c:Cx} {sl:aI} {hs:List a8} {dst:Option Tmp} {ty:TypeId} {pos:String} {af:Array Edge} {g:Option (Nat×Bool)}
theorem xb {t e:TypeId} {m n:Nat} {agg:Bool} {x:Operand} {b o:Nat} [hu:iH P t (.array m e)] [hT:Ty P e agg n] (hx:Is sl x (.pointer (some ⟨b,o,none⟩))) :
  cL P c sl hs ⟨dst,.slice t x none none none,ty,pos,af,g⟩ (.slice (some ⟨b,o,none⟩) m m):=
 ⟨by simp,fun ac w ha _=>by
  simp only [execOp,hx ac ha,Option.map]
  refine value_of ?_
  simp [Instr.sliceAt,aV hu.eq,Instr.sureAddr,Instr.sliceBounds,fL (t:=e) (agg:=agg) (n:=n),eD]⟩
end
end Go.SL
namespace Go.Proofs.A1
open Go Go.SL
theorem NO (x:Int) (w:World):aj Tryz.prog 342 [.int .i64 x] w (.bool false):=by
 refine ah Tryz.func342 rfl rfl ?_
 refine Jr<|Ja rfl<|Ji<|Jv rfl<|Jv rfl<|JD rfl<|Ja rfl<|Jn<|Je<|JT ?_
 simp
theorem Bx (x y:Int) (w:World):aj Tryz.prog 300 [.int .i64 x,.int .i64 y] w (.int .i64 (j7 x y)):=by
 refine ah Tryz.func300 rfl rfl ?_
 (refine Jr<|Ja rfl<|Ji<|Jv rfl<|ai bI rfl (fun w' au=>(NO x w')) ?_;refine Ja rfl<|Ji<|Jv rfl<|ai bI rfl (fun w' au=>(NO y w')) ?_;refine Ja rfl<|Jn<|Jq<|Jr<|Jv rfl<|Jn<|bL (.of rfl) ?_;refine Jk<|Jq<|Jr<|Jv rfl<|Jn<|bL (.of rfl) ?_;refine Jk<|Jq<|Jr<|Jv rfl<|Jv rfl<|JA rfl<|Jn<|gm rfl (fun ar=>?_) fun ar=>?_;refine Jr<|Ja rfl<|Jn<|Ju<|JT ?_;rotate_left;refine Jk<|Jq<|Jr<|Jv rfl<|Jv rfl<|JE rfl<|Jn<|gm rfl (fun ar=>?_) fun ar=>?_;refine Jr<|Ja rfl<|Jn<|Ju<|JT ?_;rotate_left;refine Jk<|Jr<|Ja rfl<|Jn<|Je<|JT ?_;rotate_right;rotate_right)
 ·rw [j7,if_pos ar]
 ·rename_i h1
  rw [j7,if_neg h1,if_pos ar]
 ·rename_i h1
  rw [j7,if_neg h1,if_neg ar]
theorem Sq {lv:Value} {l:List Int} {w:World} (h:Rd w lv 1 (ints l)):aj Tryz.prog 319 [lv] w (.int .i64 (aW l)):=by
 obtain ⟨a,cp,b,o,rfl,db,bT,ha,hc⟩:=h
 rw [bW] at *
 unfold maxLen at bT
 refine ah Tryz.func319 rfl rfl ?_
 refine Jr<|Ja rfl<|Ji<|Ja rfl<|Jn<|Jq<|Jr<|Jv rfl<|JI rfl<|Jv rfl<|Jn<|J0 ?_
 refine aX (fun k:Nat=>k≤l.length∧aW l=aW (l.drop k)) (fun k=>[(8,.int .i64 k),(7,.int .i64 l.length),(6,.slice a l.length cp),(3,.int .i64 0)]) (fun _=>[]) (fun k=>l.length-k) ?_ ?_
 ·apply aJ 0 ⟨Zi _,rfl⟩
  case hs1=>exact cd
  case ht=>(try simp only [Ze,Zf,Za]);exact .nil
 rintro k ⟨hk,hf⟩
 by_cases aL:k<l.length
 ·have cE:=ha (ic aL)
  have c0:w.cell? ⟨b,o+k*1,none⟩=some (.int .i64 l[k]):=(hc k _ (fC aL)).2 0 _ rfl
  have jb:=rV aL
  (refine Jr<|JA rfl<|Jn<|Jq<|Jd rfl fun ar=>Jk<|Jq<|J0<|Jr<|ab (fH cE ar) rfl ?_;refine ab (ag (.of rfl) (At.base c0 rfl)) rfl ?_;refine Ja rfl<|Ji<|Jv rfl<|Jv rfl<|JD rfl<|Jn<|gm rfl (fun ar=>?_) fun ar=>?_;refine Jr<|Jv rfl<|Ja rfl<|Jn<|Je<|Jm<|Jh<|Jh<|Jm<|Jh<|JT ?_;rotate_left;refine Jw<|Jj<|Jt<|Jg<|JB rfl (by omega)<|Jv rfl<|Jn ?_;rotate_right)
  ·rw [hf,jb,if_pos ar]
  ·apply aK (k+1) ⟨by omega,by rw [hf,jb,if_neg ar]⟩ (by omega)
   case hs1=>exact cd
   case ht=>(try simp only [Ze,Zf,Za]);exact .nil
 ·rw [List.drop_eq_nil_of_le (by omega)] at hf
  refine Jr<|JA rfl<|Jn<|Jq<|Jc rfl fun ar=>Jp<|Jl<|Jo<|Jt<|Jr<|Jv rfl<|Ja rfl<|Jn<|Je<|JT ?_
  rw [hf];rfl
theorem xO {lv mv:Value} {l m:List Int} {w:World} (h:Rd w lv 1 (ints l)) (h':Rd w mv 1 (ints m)):aj Tryz.prog 236 [lv,mv] w (.int .i64 (lj l m)):=by
 obtain ⟨a,cp,b,o,rfl,db,bT,ha,hc⟩:=h
 rw [bW] at *
 obtain ⟨a',RN,b',o',rfl,od,N5,cE,UX⟩:=h'
 rw [bW] at *
 unfold maxLen at bT N5
 refine ah Tryz.func236 rfl rfl ?_
 refine Jr<|Ja rfl<|Jn<|Jq<|Jr<|Jv rfl<|JI rfl<|Jv rfl<|Jn<|J0 ?_
 refine aX (fun k:Nat=>k≤l.length∧k≤m.length∧lj l m=lj (l.drop k) (m.drop k)) (fun k=>[(11,.int .i64 k),(10,.int .i64 l.length),(9,.slice a l.length cp),(0,.slice a l.length cp),(1,.slice a' m.length RN)]) (fun _=>[]) (fun k=>l.length-k) ?_ ?_
 ·apply aJ 0 ⟨Zi _,Zi _,rfl⟩
  case hs1=>exact cd
  case ht=>(try simp only [Ze,Zf,Za]);exact .nil
 rintro k ⟨hk,rn,hf⟩
 by_cases aL:k<l.length
 ·have kF:=ha (ic aL)
  have c0:w.cell? ⟨b,o+k*1,none⟩=some (.int .i64 l[k]):=(hc k _ (fC aL)).2 0 _ rfl
  by_cases rO:k<m.length
  ·have iW:=cE (ic rO)
   have c1:w.cell? ⟨b',o'+k*1,none⟩=some (.int .i64 m[k]):=(UX k _ (fC rO)).2 0 _ rfl
   have jb:=FP aL rO
   (refine Jr<|JA rfl<|Jn<|Jq<|Jd rfl fun ar=>Jk<|Jq<|J0<|Jr<|Jv rfl<|ab (fH kF ar) rfl ?_;refine ab (ag (.of rfl) (At.base c0 rfl)) rfl ?_;refine Ja rfl<|Ja rfl<|Jn<|Jq<|Jr<|Jv rfl<|Jv rfl<|JI rfl<|JG rfl<|Jn<|Jc rfl fun ar=>Jk<|Jr<|Jv rfl<|Jv rfl<|ab (az (.of rfl) (.of rfl) iW (by omega) (by omega) ba) rfl ?_;refine ab (ag (.of rfl) (At.base c1 rfl)) rfl ?_;refine Ja rfl<|Ji<|Jv rfl<|Jv rfl<|ai aZ rfl (fun w' au=>(Bx _ _ w')) ?_;refine Ja rfl<|Ji<|Jv rfl<|JD rfl<|Jn<|gm rfl (fun ar=>?_) fun ar=>?_;refine Jr<|Jv rfl<|Ja rfl<|Jn<|Je<|Jm<|Jh<|Jh<|Jm<|Jh<|JT ?_;rotate_left;refine Jw<|Jj<|Jt<|Jg<|JB rfl (by omega)<|Jv rfl<|Jn ?_;rotate_right)
   ·rw [hf,jb,if_pos ar]
   ·apply aK (k+1) ⟨by omega,by omega,by rw [hf,jb,if_neg ar]⟩ (by omega)
    case hs1=>exact cd
    case ht=>(try simp only [Ze,Zf,Za]);exact .nil
  ·rw [List.drop_eq_getElem_cons aL,List.drop_eq_nil_of_le (show m.length≤k by omega)] at hf
   (refine Jr<|JA rfl<|Jn<|Jq<|Jd rfl fun ar=>Jk<|Jq<|J0<|Jr<|Jv rfl<|ab (fH kF ar) rfl ?_;refine ab (ag (.of rfl) (At.base c0 rfl)) rfl ?_;refine Ja rfl<|Ja rfl<|Jn<|Jq<|Jr<|Jv rfl<|Jv rfl<|JI rfl<|JG rfl<|Jn<|Jd rfl fun ar=>Jr<|Ja rfl<|Jn<|Ju<|Jm<|Jh<|Jh<|Jm<|Jh<|JT ?_)
   rw [hf];rfl
 ·rw [List.drop_eq_nil_of_le (show l.length≤k by omega),I1,List.length_drop] at hf
  by_cases rO:k<m.length
  ·rw [if_pos (by omega)] at hf
   refine Jr<|JA rfl<|Jn<|Jq<|Jc rfl fun ar=>Jp<|Jl<|Jo<|Jt<|Jq<|Jr<|Jv rfl<|JI rfl<|Jv rfl<|JI rfl<|JA rfl<|Jn<|Jd rfl fun ar=>Jr<|Ja rfl<|Jn<|Ju<|JT ?_
   rw [hf]
  ·rw [if_neg (by omega)] at hf
   refine Jr<|JA rfl<|Jn<|Jq<|Jc rfl fun ar=>Jp<|Jl<|Jo<|Jt<|Jq<|Jr<|Jv rfl<|JI rfl<|Jv rfl<|JI rfl<|JA rfl<|Jn<|Jc rfl fun ar=>Jk<|Jr<|Ja rfl<|Jn<|Je<|JT ?_
   rw [hf]
def nk (r:Ro) (x:Ti):Int:=aW [ep r x.fr,ep r x.to,bO (decide (x.fr=x.to)) 24]
theorem Na {r:Ro} {s d t p:Value} (x:Ti) {w w1:World} (h:RR w1 r s d t p):aj Tryz.prog 145 [RA r s d t p,.agg x.cells.toArray] w (.int .i64 (nk r x)):=by
 have h1:=Rd.one h.sr
 have h2:=Rd.one h.de
 have h3:=Rd.one h.ti
 have h4:=Rd.one h.po
 have Tq:∀ m w',aj Tryz.prog 136 [.agg #[.int .i64 r.lv,.int .i64 r.ma,s,d,t,p],.int .i64 m] w' (.int .i64 (ep r m)):=fun m w'=>Ei m h
 unfold RA Ti.cells
 refine ah Tryz.func145 rfl rfl ?_
 (refine Jr<|Jy rfl rfl fun _ _=>Jy rfl rfl fun _ _=>Ja rfl<|Ji<|bF rfl rfl ae ?_;refine JL rfl .here rfl<|bF rfl rfl ae ?_;refine JL rfl .here rfl<|ab (aU (.cons (.of rfl) (.cons (.of rfl) .nil)) an) rfl ?_;refine Jz rfl rfl fun _ _=>aq (.of rfl) (.of rfl) .here rfl rfl (gF rfl rfl) (bC rfl) an ?_;refine Jn<|Jq ?_)
 with_reducible refine cC 17 (by kernel_rfl) ?_
 (refine ak (cz bN) rfl ?_;refine ak j9 rfl ?_;refine ak (gz (.there .here)) rfl ?_;refine aT aZ rfl (fun w' au=>(Tq _ w')) ?_;refine ak (cz bN) rfl ?_;refine ak j9 rfl ?_;refine ak (gz (.there .here)) rfl ?_;refine aT aZ rfl (fun w' au=>(Tq _ w')) ?_;refine ak (cz .here) rfl ?_;refine ak j9 rfl ?_;refine ak (gz (.there .here)) rfl ?_;refine ak j9 rfl ?_;refine ak (gz (.there .here)) rfl ?_;refine ak (aU (.cons (.of rfl) (.cons (.of rfl) .nil)) an) rfl ?_;refine ak (tB (.of rfl) (.of rfl) (jH (jH lz)) rfl) rfl ?_;refine aT aZ rfl (fun w' au=>(dO _ 24 w')) ?_;refine dX (aA (.cons (.of rfl) (.cons (.of rfl) (.cons (.of rfl) .nil))) rfl rfl rfl rfl) rfl rfl ?_)
 with_reducible refine df rfl fun bq mg=>?_
 (refine ai bI rfl (fun w' au=>(dI (Mem.dh au .here rfl rfl) (bP.cons (bP.cons (bP.cons bP.nil))))) ?_;refine Ja rfl<|Jn<|Je<|JT ?_)
 have e:(decide True&&(decide (x.to=x.fr)&&true))=decide (x.fr=x.to):=by
  rw [Bool.eq_iff_iff];simp [eq_comm]
 unfold nk
 rw [← e]
theorem uv {P:Program} {c:Cx} {sl:aI} {hs:List a8} {dst:Option Tmp} {ty:TypeId} {pos:String} {af:Array Edge} {g:Option (Nat×Bool)} {t kt et:TypeId} {x y:Operand} {b:Nat} {k:ByteArray} {l:List (ByteArray×Value)} {z V:Value} [hu:iH P t (.map kt et)] [FB:iH P kt .string] [hz:lG P et z]
  (hx:Is sl x (.map (some b))) (hy:Is sl y (.string k)) (hl:Looks c hs b (fun s:ByteArray=>Value.string s) l) (e:(en k l).getD z=V) :
  cL P c sl hs ⟨dst,.lookup t x y true,ty,pos,af,g⟩ (.tuple #[V,.bool (en k l).isSome]):=e ▸ Cq HN hx hy hl
theorem Ho {r:Ro} (hd:B3 r) (s:ByteArray):∃ (a b c:Int) (one:Bool),(en s (nO r)).getD (lg 0 0 0)=lg a b c∧(en s (nO r)).isSome=one∧(one=true→a=dS r s∧b=ka r s∧c=jz r s)∧(one=false→ka r s<0∧jz r s<0):=by
 rw [pF hd]
 cases h:iK (dZ r) s with
 | true=>exact ⟨_,_,_,true,rfl,rfl,fun _=>⟨rfl,rfl,rfl⟩,fun h=>by cases h⟩
 | false =>
  refine ⟨0,0,0,false,rfl,rfl,(fun h=>by cases h),fun _=>?_⟩
  have hn:s ∉ dZ r:=fun hm=>by rw [fb.2 hm] at h;cases h
  unfold dZ at hn
  rw [List.mem_append,List.mem_append,not_or,not_or] at hn
  have e1:=cj.2 hn.1.1
  have e2:=cj.2 hn.1.2
  have e3:=cj.2 hn.2
  unfold ka jz
  rw [if_neg (by omega),if_neg (by omega),if_neg (by omega),if_neg (by omega)]
  omega
def lO (r:Ro) (x:Po):Int:=aW [fW x.lv 0 (r.lv-1),bO (decide (ka r x.ou<0)) 10,bO (decide (jz r x.ip<0)) 10,bO (decide (ka r x.ou≠jz r x.ip)) 24]
def Dh (r:Ro):Option Po→List Int
 | none=>[-1,-1]
 | some x=>[x.lv,dS r x.ou]
def Ff (r:Ro) (po:List Po) (k:Nat):Int:=
 match po[k]? with
 | none=>0
 | some x=>if lO r x≠0 then lO r x else if lj [x.lv,dS r x.ou] (Dh r (if k=0 then none else po[k-1]?))≤0 then 11 else 0
theorem qJ {r:Ro} {po:List Po} {k:Nat} (h:k<po.length):Ff r po k=if lO r po[k]≠0 then lO r po[k] else if lj [po[k].lv,dS r po[k].ou] (Dh r (if k=0 then none else po[k-1]?))≤0 then 11 else 0:=by
 unfold Ff;rw [Zc h]
theorem LF {r:Ro} {x:Po} {a b c a' b' c':Int} {one two:Bool} (h1:one=true→a=dS r x.ou∧b=ka r x.ou∧c=jz r x.ou) (h2:one=false→ka r x.ou<0∧jz r x.ou<0)
  (h3:two=true→a'=dS r x.ip∧b'=ka r x.ip∧c'=jz r x.ip) (h4:two=false→ka r x.ip<0∧jz r x.ip<0) :
  aW [fW x.lv 0 (r.lv-1),bO (!one||decide (b<0)) 10,bO (!two||decide (c'<0)) 10,bO (decide (b≠c')) 24]=lO r x∧(lO r x=0→one=true):=by
 unfold lO
 cases one with
 | true =>
  obtain ⟨-,rfl,-⟩:=h1 rfl
  cases two with
  | true=>obtain ⟨-,-,rfl⟩:=h3 rfl;exact ⟨rfl,fun _=>rfl⟩
  | false =>
   have:=(h4 rfl).2
   refine ⟨?_,fun _=>rfl⟩
   simp [aW,bO,this]
 | false =>
  have:=(h2 rfl).1
  constructor
  ·simp [aW,bO,this]
  ·intro h
   simp [aW,bO,this] at h
   split at h <;> simp_all
def js (r:Ro) (po:List Po):Int:=iL (Ff r po) po.length
theorem wo {r:Ro} {s d t p:Value} {w:World} (h:RR w r s d t p) (hd:B3 r) (cG:r.de.length+r.ti.length≤1000000) (Bb:Ut (r.lv-1)):aj Tryz.prog 146 [RA r s d t p] w (.int .i64 (js r r.po)):=by
 have h1:=Rd.one h.sr
 have h2:=Rd.one h.de
 have h3:=Rd.one h.ti
 have h4:=Rd.one h.po
 have hp:=h.po
 obtain ⟨a,cp,b,o',rfl,db,bT,ha,hc⟩:=hp
 rw [cN] at *
 unfold maxLen at bT
 unfold RA
 refine ah Tryz.func146 rfl rfl ?_
 refine Jr<|Jy rfl rfl fun _ _=>Ja rfl<|Ji<|ab (cz .here) rfl ?_
 refine JN bI rfl (fun w1 aS=>DU (h.keeps aS.keeps) cG) ?_
 intro bm _
 dsimp only [id_eq,Zb,Za]
 (refine Ja rfl<|Ji<|ab (aU (.cons (.of rfl) (.cons (.of rfl) .nil)) an) rfl ?_;refine Jz rfl rfl fun _ _=>aq (.of rfl) (.of rfl) .here rfl rfl (gF rfl rfl) (bC rfl) an ?_;refine Jn<|Jq<|Jr<|bF rfl rfl ae ?_;refine JL rfl bN rfl<|JI rfl<|Jv rfl<|Jn<|J0 ?_)
 rename_i b1 sH _ b4 u9
 refine aX (ι:=Nat×Int×Int) (fun x=>x.1≤r.po.length∧(∀ i,i<x.1→Ff r r.po i=0)∧[x.2.1,x.2.2]=Dh r (if x.1=0 then none else r.po[x.1-1]?))
  (fun x=>[(19,.int .i64 (x.1:Nat)),(18,.int .i64 r.po.length),(17,.slice a r.po.length cp),(4,.pointer (some ⟨b4,0,none⟩)),(3,.map (some bm)),(2,.int .i64 0),(1,.pointer (some ⟨b1,0,none⟩))])
  (fun x=>[bA b4 (.cells #[.int .i64 x.2.1,.int .i64 x.2.2] 299 (0,0)),mp (fun s:ByteArray=>Value.string s) bm (nO r),JP b1 r s d t (.slice a r.po.length cp)])
  (fun x=>r.po.length-x.1) ?_ ?_
 ·apply aJ (0,-1,-1) ⟨Zi _,fun i h=>by omega,rfl⟩
  case hs1=>exact cd
  case ht=>(try simp only [Ze,Zf,Za]);exact .cons .here (.cons .here (.cons .here .nil))
 rintro ⟨k,l0,l1⟩ ⟨hk,hz,hl⟩
 dsimp only at hk hz hl ⊢
 by_cases aL:k<r.po.length
 ·have cE:=ha (jZ aL)
  obtain ⟨ij,aC⟩:=hc k _ (ib aL)
  unfold Po.cells at aC
  have jb:=qJ (r:=r) aL
  obtain ⟨o1,o2,o3,one,e1,e2,e3,e4⟩:=Ho hd (r.po[k]).ou
  obtain ⟨i1,i2,i3,two,q1,q2,q3,q4⟩:=Ho hd (r.po[k]).ip
  obtain ⟨v1,v2⟩:=LF e3 e4 q3 q4
  unfold lg at e1 q1
  (refine Jr<|JA rfl<|Jn<|Jq<|Jd rfl fun ar=>Jk<|Jq<|J0<|Jr<|ab (fH cE ar) rfl ?_;refine ab (iv (eF.base aC rfl)) rfl ?_;refine Jz rfl rfl fun _ _=>aq (.of rfl) (.of rfl) .here rfl rfl (fh rfl rfl rfl) (bC rfl) an ?_;refine Ji<|Jv rfl<|bF rfl rfl ae ?_;refine JL rfl .here rfl ?_)
  refine ab (uv (.of rfl) (.of rfl) (Looks.mp bN) e1) rfl ?_
  rw [e2]
  (refine Jv rfl<|JJ rfl rfl<|JJ rfl rfl<|Jz rfl rfl fun _ _=>aq (.of rfl) (.of rfl) .here rfl rfl (fh rfl rfl rfl) (bC rfl) an ?_;refine Ja rfl<|Ji<|Jv rfl<|bF rfl rfl ae ?_;refine JL rfl (.there .here) rfl ?_)
  refine ab (uv (.of rfl) (.of rfl) (Looks.mp cX) q1) rfl ?_
  rw [q2]
  (refine Jv rfl<|JJ rfl rfl<|JJ rfl rfl<|Jz rfl rfl fun _ _=>aq (.of rfl) (.of rfl) .here rfl rfl (fh rfl rfl rfl) (bC rfl) an ?_;refine Ja rfl<|Jn<|Jq<|Jq ?_)
  with_reducible refine cC 29 (by kernel_rfl) ?_
  (refine ak j9 rfl ?_;refine ak (gz bN) rfl ?_;refine ak j9 rfl ?_;refine ak (gz fg) rfl ?_;refine ak (rD (.of rfl) (.of rfl) Bb) rfl ?_;refine aT eh rfl (fun w' au=>(lV _ 0 _ w')) ?_;refine ak kG rfl ?_;refine ak (eU (.of rfl)) rfl ?_;refine ak kG rfl ?_;refine gW rfl rfl inferInstance (fun hg bj=>(ao (.of rfl) ae)) rfl ?_;refine gW rfl rfl inferInstance (fun hg bj=>(ag (.bE hg rfl) (At.lit (.there .here) rfl))) rfl ?_;refine gW rfl rfl inferInstance (fun hg bj=>(nL (.bE hg rfl) (.of rfl))) rfl ?_;refine ak (bR (.of rfl) rfl) rfl ?_;refine aT aZ rfl (fun w' au=>(dO _ 10 w')) ?_;refine ak kG rfl ?_;refine ak (eU (.of rfl)) rfl ?_;refine ak kG rfl ?_;refine gW rfl rfl inferInstance (fun hg bj=>(ao (.of rfl) ae)) rfl ?_;refine gW rfl rfl inferInstance (fun hg bj=>(ag (.bE hg rfl) (At.lit .here rfl))) rfl ?_;refine gW rfl rfl inferInstance (fun hg bj=>(nL (.bE hg rfl) (.of rfl))) rfl ?_;refine ak (bR (.of rfl) rfl) rfl ?_;refine aT aZ rfl (fun w' au=>(dO _ 10 w')) ?_;refine ak j9 rfl ?_;refine ak (gz (.there .here)) rfl ?_;refine ak j9 rfl ?_;refine ak (gz .here) rfl ?_;refine ak (jw (.of rfl) (.of rfl)) rfl ?_;refine aT aZ rfl (fun w' au=>(dO _ 24 w')) ?_;refine dX (aA (.cons (.of rfl) (.cons (.of rfl) (.cons (.of rfl) (.cons (.of rfl) .nil)))) rfl rfl rfl rfl) rfl rfl ?_)
  with_reducible refine df rfl fun bq mg=>?_
  (refine ai bI rfl (fun w' au=>(dI (Mem.dh au .here rfl rfl) (bP.cons (bP.cons (bP.cons (bP.cons bP.nil)))))) ?_;refine Ja rfl<|Ji<|Jv rfl<|JD rfl<|Jn<|gm rfl (fun ar=>?_) fun ar=>?_;refine Jr<|Jv rfl<|Ja rfl<|Jn<|Ju<|Jm<|Jh<|Jh<|Jm<|Jh<|JT ?_;rotate_left;refine Jk<|Jr<|bF rfl rfl ae ?_;refine JL rfl cX rfl<|bF rfl rfl ae ?_;refine JL rfl bN rfl<|ab (aU (.cons (.of rfl) (.cons (.of rfl) .nil)) an) rfl ?_;refine Jz rfl rfl fun _ _=>aq (.of rfl) (.of rfl) .here rfl rfl (gF rfl rfl) (bC rfl) an ?_;refine Jn<|Jq<|Jq ?_;rotate_right)
  ·rw [v1] at ar ⊢
   have hb:js r r.po=lO r r.po[k]:=(eP hz aL (by rw [jb,if_pos ar];exact ar)).trans (by rw [jb,if_pos ar])
   rw [hb]
  rw [v1] at ar
  have hE:lO r r.po[k]=0:=Decidable.not_not.1 ar
  obtain ⟨g1,g2,g3⟩:=e3 (v2 hE)
  rename_i JY W9
  with_reducible refine dP 2 (by kernel_rfl) ?_
  (refine aH (xb (.of rfl)) rfl ?_;refine aH (xb (.of rfl)) rfl ?_)
  with_reducible refine dY ?_
  skip
  with_reducible apply ai
  case hr=>exact aZ
  case hd=>rfl
  case hc=>
   intro w' au
   have y1:Rd w' (.slice (some ⟨JY,0,none⟩) 2 2) 1 (ints [(r.po[k]).lv,o1]):=Mem.dh (b:=JY) (cs:=[.int .i64 (r.po[k]).lv,.int .i64 o1]) au (by exact .here) rfl rfl
   have y2:Rd w' (.slice (some ⟨b4,0,none⟩) 2 2) 1 (ints [l0,l1]):=Mem.dh (b:=b4) (cs:=[.int .i64 l0,.int .i64 l1]) au fg rfl rfl
   exact xO y1 y2
  rw [hE] at jb
  rw [if_neg (by decide),← g1,← hl] at jb
  (refine JF rfl<|Jn<|gm rfl (fun ar=>?_) fun ar=>?_;refine Jr<|Ja rfl<|Jn<|Ju<|Jm<|Jh<|Jh<|Jm<|Jh<|JT ?_;rotate_left;refine Jk<|Jg<|ab (cz .here) rfl ?_;refine aq (.of rfl) (.of rfl) fg rfl rfl (gF rfl rfl) (bC rfl) an ?_;refine Jx<|Jj<|Jt<|Jg<|JB rfl (by omega)<|Jv rfl<|Jn ?_;rotate_right)
  ·rw [if_pos ar] at jb
   have hb:js r r.po=11:=(eP hz aL (by rw [jb];decide)).trans jb
   rw [hb]
  rw [if_neg ar] at jb
  have HZ:∀ i,i<k+1→Ff r r.po i=0:=fun i hi=>by
   by_cases e:i=k
   ·rw [e];exact jb
   ·exact hz i (by omega)
  apply aK (k+1,(r.po[k]).lv,o1) ⟨show k+1≤r.po.length by omega,HZ,by
   show [(r.po[k]).lv,o1]=Dh r (if k+1=0 then none else r.po[k+1-1]?)
   rw [if_neg (by omega),Nat.add_sub_cancel,Zc aL,g1];rfl⟩ (show r.po.length-(k+1)<r.po.length-k by omega)
  case hs1=>exact cd
  case ht=>(try simp only [Ze,Zf,Za]);exact .cons .here (.cons fg (.cons fg .nil))
 ·obtain rfl:k=r.po.length:=by omega
  have e:js r r.po=0:=dN.2 hz
  rw [e]
  refine Jr<|JA rfl<|Jn<|Jq<|Jc rfl fun ar=>Jp<|Jl<|Jo<|Jt<|Jr<|Ja rfl<|Jn<|Je<|JT ?_
  rfl
theorem O9 {r:Ro} {s d t p:Value} (x:Sr) {b1:Nat} {w:World} (h:RR w r s d t p) (hA:BR w b1 (RC r s d t p)) :
  aj Tryz.prog 135 [.agg x.cells.toArray,.pointer (some ⟨b1,0,none⟩)] w (.int .i64 (ep r x.mx)):=by
 have h1:=Rd.one h.sr
 have h2:=Rd.one h.de
 have h3:=Rd.one h.ti
 have h4:=Rd.one h.po
 have jR:∀ (j:Nat) (u:Value),[Value.int .i64 r.lv,.int .i64 r.ma,s,d,t,p][j]? = some u→w.cell? ⟨b1,0+j,none⟩=some u:=hA
 unfold Sr.cells
 refine ah Tryz.func135 rfl rfl ?_
 (refine Jr<|Jy rfl rfl fun _ _=>Ja rfl<|Ji<|ab (iv (eF.base jR rfl)) rfl ?_;refine bF rfl rfl ae ?_;refine JL rfl .here rfl ?_)
 refine ai aZ rfl (fun w' au=>Ei x.mx h) ?_
 refine Ja rfl<|Jn<|Je<|JT ?_
 rfl
theorem QV {r:Ro} {s d t p:Value} (x:De) {b1:Nat} {w:World} (h:RR w r s d t p) (hA:BR w b1 (RC r s d t p)) :
  aj Tryz.prog 137 [.agg x.cells.toArray,.pointer (some ⟨b1,0,none⟩)] w (.int .i64 (ep r x.mx)):=by
 have h1:=Rd.one h.sr
 have h2:=Rd.one h.de
 have h3:=Rd.one h.ti
 have h4:=Rd.one h.po
 have jR:∀ (j:Nat) (u:Value),[Value.int .i64 r.lv,.int .i64 r.ma,s,d,t,p][j]? = some u→w.cell? ⟨b1,0+j,none⟩=some u:=hA
 unfold De.cells
 refine ah Tryz.func137 rfl rfl ?_
 (refine Jr<|Jy rfl rfl fun _ _=>Ja rfl<|Ji<|ab (iv (eF.base jR rfl)) rfl ?_;refine bF rfl rfl ae ?_;refine JL rfl .here rfl ?_)
 refine ai aZ rfl (fun w' au=>Ei x.mx h) ?_
 refine Ja rfl<|Jn<|Je<|JT ?_
 rfl
def jC (r:Ro) (q:Int→Bool):Bool:=(List.range r.lv.toNat).any fun i=>q (i:Nat)
def mM (r:Ro):Int:=aW [fW r.lv 1 3,fW r.ma 1 4]
def jy (r:Ro):Int:=aW [eV 8 [] Sr.nm (fun x=>ep r x.mx) r.sr,eV 8 (cm r) De.nm (fun x=>ep r x.mx) r.de,eV 6 (cm r++ct r) Ti.nm (nk r) r.ti]
def yW (r:Ro):Int:=aW [bO (jC r fun v=>r.ti.any (KG r v)) 33,bO (jC r fun v=>r.ti.any (Hw r v)) 32]
def fU (r:Ro):Int:=if mM r≠0 then mM r else if jy r≠0 then jy r else if js r r.po≠0 then js r r.po else yW r
theorem ck1 {r:Ro} (h:mM r≠0):fU r=mM r:=by unfold fU;rw [if_pos h]
theorem XC {r:Ro} (h1:mM r=0) (h:jy r≠0):fU r=jy r:=by unfold fU;rw [if_neg (by rw [h1];decide),if_pos h]
theorem ck3 {r:Ro} (h1:mM r=0) (h2:jy r=0) (h:js r r.po≠0):fU r=js r r.po:=by unfold fU;rw [if_neg (by rw [h1];decide),if_neg (by rw [h2];decide),if_pos h]
theorem ck4 {r:Ro} (h1:mM r=0) (h2:jy r=0) (h3:js r r.po=0):fU r=yW r:=by unfold fU;rw [if_neg (by rw [h1];decide),if_neg (by rw [h2];decide),if_neg (by rw [h3];decide)]
theorem Vo {r:Ro} (h:eV 8 [] Sr.nm (fun x=>ep r x.mx) r.sr≠0):jy r=eV 8 [] Sr.nm (fun x=>ep r x.mx) r.sr:=by unfold jy aW;rw [if_pos h]
theorem Vn {r:Ro} (h1:eV 8 [] Sr.nm (fun x=>ep r x.mx) r.sr=0) (h:eV 8 (cm r) De.nm (fun x=>ep r x.mx) r.de≠0):jy r=eV 8 (cm r) De.nm (fun x=>ep r x.mx) r.de:=by unfold jy aW aW;rw [if_neg (by rw [h1];decide),if_pos h]
theorem Uz {r:Ro} (h1:eV 8 [] Sr.nm (fun x=>ep r x.mx) r.sr=0) (h2:eV 8 (cm r) De.nm (fun x=>ep r x.mx) r.de=0):jy r=aW [eV 6 (cm r++ct r) Ti.nm (nk r) r.ti]:=by unfold jy;rw [aW,if_neg (by rw [h1];decide),aW,if_neg (by rw [h2];decide)]
theorem qG {α:Type} {pI:Int} {bf:List ByteArray} {nm:α→ByteArray} {ck:α→Int} {l:List α} (hb:bf.Nodup) (h:eV pI bf nm ck l=0):(bf++l.map nm).Nodup∧(l.length:Int)≤pI∧∀ x∈l,ck x=0:=by
 unfold eV at h
 split at h
 ·cases h
 rename_i hl
 rw [dN] at h
 have hk:∀ k,k≤l.length→(bf++(l.take k).map nm).Nodup∧∀ x∈l.take k,ck x=0:=by
  intro k
  induction k with
  | zero=>intro _;simpa using hb
  | succ k ih =>
   intro hk
   obtain ⟨i1,i2⟩:=ih (by omega)
   have:=h k (by omega)
   rw [nN (by omega)] at this
   rw [bX] at this
   have h9:iK (bf++(l.take k).map nm) (nm l[k])=false∧ck l[k]=0:=⟨(bH (show (9:Int)≠0 by decide)).1 (this _ (List.mem_cons_of_mem _ List.mem_cons_self)),this _ (List.mem_cons_of_mem _ (List.mem_cons_of_mem _ List.mem_cons_self))⟩
   rw [List.take_succ_eq_append_getElem (by omega),List.map_append,← Zh]
   refine ⟨?_,?_⟩
   ·rw [List.nodup_append]
    refine ⟨i1,by simp,fun x hx y hy e=>?_⟩
    rw [List.map_cons,Zf,List.mem_singleton] at hy
    subst hy;subst e
    rw [fb.2 hx] at h9
    cases h9.1
   ·intro x hx
    rcases List.mem_append.1 hx with hx | hx
    ·exact i2 x hx
    ·rw [List.mem_singleton.1 hx];exact h9.2
 have:=hk _ (Nat.le_refl _)
 rw [List.take_length] at this
 exact ⟨this.1,by omega,this.2⟩
theorem yJ {r:Ro} (h:jy r=0):B3 r∧(r.sr.length≤8∧r.de.length≤8∧r.ti.length≤6)∧(∀ x∈r.sr,ep r x.mx=0)∧(∀ x∈r.de,ep r x.mx=0)∧∀ x∈r.ti,nk r x=0:=by
 unfold jy at h
 have h3:eV 8 [] Sr.nm (fun x=>ep r x.mx) r.sr=0∧eV 8 (cm r) De.nm (fun x=>ep r x.mx) r.de=0∧eV 6 (cm r++ct r) Ti.nm (nk r) r.ti=0:=by
  rw [bX] at h
  exact ⟨h _ (by simp),h _ (by simp),h _ (by simp)⟩
 obtain ⟨h4,h5,h6⟩:=qG List.nodup_nil h3.1
 rw [Za] at h4
 obtain ⟨h7,h8,h9⟩:=qG (show (cm r).Nodup from h4) h3.2.1
 obtain ⟨g7,g8,g9⟩:=qG (show (cm r++ct r).Nodup from h7) h3.2.2
 exact ⟨⟨g7⟩,⟨by omega,by omega,by omega⟩,h6,h9,g9⟩
theorem uN {r:Ro} (h:mM r=0):1≤r.lv∧r.lv≤3∧1≤r.ma∧r.ma≤4:=by
 unfold mM at h
 rw [bX] at h
 have h1:=gY.1 (h _ (List.mem_cons_self))
 have h2:=gY.1 (h _ (List.mem_cons_of_mem _ List.mem_cons_self))
 omega
theorem eu {r:Ro} {s d t p:Value} {w:World} (h:RR w r s d t p) (cG:r.sr.length≤300∧r.de.length≤300∧r.ti.length≤300):aj Tryz.prog 34 [RA r s d t p] w (.int .i64 (fU r)):=by
 have h1:=Rd.one h.sr
 have h2:=Rd.one h.de
 have h3:=Rd.one h.ti
 have h4:=Rd.one h.po
 unfold RA
 refine ah Tryz.func34 rfl rfl ?_
 refine Jr<|Jy rfl rfl fun _ _=>Ja rfl<|Jn<|Jq<|Jq ?_
 rename_i b1 sH
 with_reducible refine cC 7 (by kernel_rfl) ?_
 (refine ak j9 rfl ?_;refine ak (gz .here) rfl ?_;refine aT eh rfl (fun w' au=>(lV _ 1 3 w')) ?_;refine ak j9 rfl ?_;refine ak (gz .here) rfl ?_;refine aT eh rfl (fun w' au=>(lV _ 1 4 w')) ?_;refine dX (aA (.cons (.of rfl) (.cons (.of rfl) .nil)) rfl rfl rfl rfl) rfl rfl ?_)
 with_reducible refine df rfl fun bq mg=>?_
 (refine ai bI rfl (fun w' au=>(dI (Mem.dh au .here rfl rfl) (bP.cons (bP.cons bP.nil)))) ?_;refine Ja rfl<|Ji<|Jv rfl<|JD rfl<|Jn<|gm rfl (fun ar=>?_) fun ar=>?_;refine Jr<|Jv rfl<|Ja rfl<|Jn<|Ju<|JT ?_;rotate_left;refine Jk<|Jr<|ab (bn .nil (.cons (.of rfl) .nil)) rfl ?_;refine Ja rfl<|Ji<|ab (bn .nil (.cons (.of rfl) .nil)) rfl ?_;refine Ja rfl<|Jn<|Jq<|Jr<|bF rfl rfl ae ?_;refine JL rfl (.there .here) rfl<|Jv rfl ?_;rotate_right)
 ·exact congrArg (Value.int .i64) (ck1 ar).symm
 have me:mM r=0:=Decidable.not_not.1 ar
 have hl:=uN me
 clear ar
 have Ig:∀ w',Rd w' (.slice none 0 0) 1 (iT []):=fun w'=>⟨none,0,0,0,rfl,by simp [iT],by unfold maxLen;omega,fun h=>absurd rfl h,fun i r hr=>by simp [iT] at hr⟩
 with_reducible apply ai
 case hr=>exact Km
 case hd=>rfl
 case hc=>
  intro w' au
  have hA:BR w' b1 [.int .i64 r.lv,.int .i64 r.ma,s,d,t,p]:=BR.of au (by exact Take.there .here)
  have hR:=h.keeps au.keeps
  exact BA (bf:=[]) 8 (f2:=135) (first2:=[]) (cap:=[.pointer (some ⟨b1,0,none⟩)]) hR.sr (Ig _) (by rw [List.length_nil];omega) (fun x _ w2 _=>HB x w2) (fun x _ w2 eC=>O9 x (hR.keeps eC) (hA.keeps eC))
 (refine Ja rfl<|Ji<|Jv rfl<|JD rfl<|Jn<|gm rfl (fun ar=>?_) fun ar=>?_;refine Jr<|Jv rfl<|Ja rfl<|Jn<|Ju<|JT ?_;rotate_left;refine Jk<|Jr<|bF rfl rfl ae ?_;refine JL rfl (.there .here) rfl ?_;rotate_right)
 ·have hp:=Vo ar
  rw [← hp] at ar ⊢
  exact congrArg (Value.int .i64) (XC me ar).symm
 have p1:eV 8 [] Sr.nm (fun x=>ep r x.mx) r.sr=0:=Decidable.not_not.1 ar
 clear ar
 have q1:=qG List.nodup_nil p1
 refine JN aZ rfl (fun w1 aS=>LZ (f:=139) (first:=[]) (cap:=[]) (g:=Sr.nm) (h.keeps aS.keeps).sr (by omega) (fun x _ w2 _=>HB x w2)) ?_
 intro nv _
 dsimp only [id_eq,Zb,Za]
 refine aY (by exact .here) fun na nc e=>?_
 subst e
 (refine Ja rfl<|Jn<|Jq<|Jr<|bF rfl rfl ae ?_;refine JL rfl bN rfl<|Jv rfl<|Jv rfl ?_)
 with_reducible apply ai
 case hr=>exact Km
 case hd=>rfl
 case hc=>
  intro w' au
  have hA:BR w' b1 [.int .i64 r.lv,.int .i64 r.ma,s,d,t,p]:=BR.of au bN
  have hR:=h.keeps au.keeps
  have hN:Rd w' (.slice na r.sr.length nc) 1 (iT (r.sr.map Sr.nm)):=ez au (by exact .here) (by rw [Zd])
  exact BB (bf:=cm r) 8 (f2:=137) (first2:=[]) (cap:=[.pointer (some ⟨b1,0,none⟩)]) hR.de hN (by unfold cm;rw [Zd];omega) (fun x _ w2 _=>CH x w2) (fun x _ w2 eC=>QV x (hR.keeps eC) (hA.keeps eC))
 (refine Ja rfl<|Ji<|Jv rfl<|JD rfl<|Jn<|gm rfl (fun ar=>?_) fun ar=>?_;refine Jr<|Jv rfl<|Ja rfl<|Jn<|Ju<|JT ?_;rotate_left;refine Jk<|Jr<|Jv rfl<|bF rfl rfl ae ?_;refine JL rfl bN rfl ?_;rotate_right)
 ·have hp:=Vn p1 ar
  rw [← hp] at ar ⊢
  exact congrArg (Value.int .i64) (XC me ar).symm
 have p2:eV 8 (cm r) De.nm (fun x=>ep r x.mx) r.de=0:=Decidable.not_not.1 ar
 clear ar
 have q2:=qG (show (cm r).Nodup from q1.1) p2
 refine JN aZ rfl (fun w1 aS=>D5 (f:=124) (first:=[]) (cap:=[]) (g:=De.nm) (h.keeps aS.keeps).de (by omega) (fun x _ w2 _=>CH x w2)) ?_
 intro dv _
 dsimp only [id_eq,Zb,Za]
 refine aY (by exact .here) fun da dc e=>?_
 subst e
 refine bb (aA (.cons (.of rfl) (.cons (.of rfl) .nil)) rfl rfl rfl rfl) rfl (fun _ _=>?_)
 rename_i bq2 acS
 with_reducible apply jg
 case hr=>exact bI
 case hd=>rfl
 case ht=>exact bo.nil
 case hc=>
  intro w1 fp aS _ hs1
  obtain rfl:fp=[]:=hs1
  have hN:Rd w1 (.slice na r.sr.length nc) 1 (iT (r.sr.map Sr.nm)):=ez aS bN (by rw [Zd])
  have hD:Rd w1 (.slice da r.de.length dc) 1 (iT (r.de.map De.nm)):=ez aS (by exact Take.there .here) (by rw [Zd])
  exact FO (vs:=[.slice na r.sr.length nc,.slice da r.de.length dc]) (ess:=[r.sr.map Sr.nm,r.de.map De.nm]) (Mem.dh (b:=bq2) aS (by exact .here) rfl rfl) rfl
   (fun i v es hv he=>by
    match i,hv,he with
    | 0,hv,he=>cases hv;cases he;exact hN
    | 1,hv,he=>cases hv;cases he;exact hD) (by simp;omega)
 intro av _
 dsimp only [id_eq,Zb,Za]
 (refine Ja rfl<|Jn<|Jq<|Jr<|bF rfl rfl ae ?_;refine JL rfl fg rfl<|Jv rfl<|ab (cz fg) rfl ?_;refine ab (bn (.cons (.of rfl) .nil) .nil) rfl ?_)
 have sG:[r.sr.map Sr.nm,r.de.map De.nm].flatten=cm r++ct r:=by simp [cm,ct]
 with_reducible apply ai
 case hr=>exact Km
 case hd=>rfl
 case hc=>
  intro w' au
  have hR:=h.keeps au.keeps
  have hB:Rd w' av 1 (iT [r.sr.map Sr.nm,r.de.map De.nm].flatten):=au.ph (by exact .here) rfl (GK _) (by rw [cg])
  rw [sG] at hB
  exact Bz (bf:=cm r++ct r) 6 (f2:=145) (first2:=[RA r s d t p]) (cap:=[]) hR.ti hB (by unfold cm ct;rw [Zg,Zd,Zd];omega) (fun x _ w2 _=>HA x w2) (fun x _ w2 eC=>Na x h)
 (refine bb (aA (.cons (.of rfl) .nil) rfl rfl rfl rfl) rfl fun _ _=>?_;refine ai bI rfl (fun w' au=>(dI (Mem.dh au .here rfl rfl) (bP.cons bP.nil))) ?_;refine Ja rfl<|Ji<|Jv rfl<|JD rfl<|Jn<|gm rfl (fun ar=>?_) fun ar=>?_;refine Jr<|Jv rfl<|Ja rfl<|Jn<|Ju<|JT ?_;rotate_left;refine Jk<|Jq<|Jr<|ab (cz qm) rfl ?_;rotate_right)
 ·have hp:jy r≠0:=by rw [Uz p1 p2];exact ar
  exact congrArg (Value.int .i64) ((Uz p1 p2).symm.trans (XC me hp).symm)
 have Ic:jy r=0:=by rw [Uz p1 p2];exact Decidable.not_not.1 ar
 obtain ⟨kp,hlen,-⟩:=yJ Ic
 clear ar
 refine ai bI rfl (fun w' au=>wo (h.keeps au.keeps) kp (by omega) (by unfold Ut;omega)) ?_
 (refine Ja rfl<|Ji<|Jv rfl<|JD rfl<|Jn<|gm rfl (fun ar=>?_) fun ar=>?_;refine Jr<|Jv rfl<|Ja rfl<|Jn<|Ju<|JT ?_;rotate_left;refine Jk<|Jq ?_;rotate_right)
 ·exact congrArg (Value.int .i64) (ck3 me Ic ar).symm
 have Qh:js r r.po=0:=Decidable.not_not.1 ar
 clear ar
 rw [ck4 me Ic Qh]
 have TF:∀ w',aG [] w w'→aj Tryz.prog 148 [.agg #[.int .i64 r.lv,.int .i64 r.ma,s,d,t,p],.func (.func 149) #[.agg #[.int .i64 r.lv,.int .i64 r.ma,s,d,t,p]] #[]] w' (.bool (jC r fun v=>r.ti.any (KG r v))):=fun w' hk=>
  OL (f:=149) (first:=[RA r s d t p]) (cap:=[]) h (by omega) (fun v _ _ w2 eC=>M1 v ((h.keeps hk).keeps eC) (by omega))
 have TE:∀ w',aG [] w w'→aj Tryz.prog 148 [.agg #[.int .i64 r.lv,.int .i64 r.ma,s,d,t,p],.func (.func 150) #[.agg #[.int .i64 r.lv,.int .i64 r.ma,s,d,t,p]] #[]] w' (.bool (jC r fun v=>r.ti.any (Hw r v))):=fun w' hk=>
  OL (f:=150) (first:=[RA r s d t p]) (cap:=[]) h (by omega) (fun v _ _ w2 eC=>Pz v ((h.keeps hk).keeps eC))
 with_reducible refine cC 11 (by kernel_rfl) ?_
 (refine ak (cz qm) rfl ?_;refine ak (cz qm) rfl ?_;refine ak (bn (.cons (.of rfl) .nil) .nil) rfl ?_;refine aT aZ rfl (fun w' au=>(TF w' (Mem.keeps au))) ?_;refine aT aZ rfl (fun w' au=>(dO _ 33 w')) ?_;refine ak (cz qm) rfl ?_;refine ak (cz qm) rfl ?_;refine ak (bn (.cons (.of rfl) .nil) .nil) rfl ?_;refine aT aZ rfl (fun w' au=>(TE w' (Mem.keeps au))) ?_;refine aT aZ rfl (fun w' au=>(dO _ 32 w')) ?_;refine dX (aA (.cons (.of rfl) (.cons (.of rfl) .nil)) rfl rfl rfl rfl) rfl rfl ?_)
 with_reducible refine df rfl fun bq mg=>?_
 (refine ai bI rfl (fun w' au=>(dI (Mem.dh au .here rfl rfl) (bP.cons (bP.cons bP.nil)))) ?_;refine Ja rfl<|Jn<|Je<|JT ?_)
 rfl
theorem A6 {α:Type} (nm:α→ByteArray) (l:List α) (s:ByteArray):gK (fun x=>decide (nm x=s)) l=bu (l.map nm) s:=by
 rcases oS (fun x=>decide (nm x=s)) l with ⟨e1,e2⟩ | ⟨i,hi,e1,e2⟩
 ·rw [e1]
  refine (zl fun j hj e=>?_).symm
  rw [List.find?_eq_none] at e2
  rw [List.getElem_map] at e
  exact e2 _ (Zj _) (by simpa using e)
 ·rw [e1]
  rw [List.find?_eq_some_iff_getElem] at e2
  obtain ⟨hp,k,hk,he,hb⟩:=e2
  have RE:i=k:=by
   have h1:gK (fun x=>decide (nm x=s)) l=(k:Nat):=gj (fun j hj=>by
    rw [Zc (by omega)]
    have:=hb j hj
    simpa using this) hk (by rw [he];exact hp)
   rw [e1] at h1
   exact_mod_cast h1
  subst RE
  refine (pQ (by rw [Zd];exact hi) (by rw [List.getElem_map];simpa using hp) fun j hj e=>?_).symm
  rw [List.getElem_map] at e
  have:=hb j hj
  simp [e] at this
theorem QU (x:De) (o:ByteArray) {b2:Nat} {w:World} (f2:w.cell? ⟨b2,0,none⟩=some (.string o)) :
  aj Tryz.prog 243 [.agg x.cells.toArray,.pointer (some ⟨b2,0,none⟩)] w (.bool (decide (x.nm=o))):=by
 unfold De.cells
 refine ah Tryz.func243 rfl rfl ?_
 (refine Jr<|Jy rfl rfl fun _ _=>Ja rfl<|Ji<|bF rfl rfl ae ?_;refine JL rfl .here rfl<|ab (ag (.of rfl) (At.base f2 rfl)) rfl ?_;refine ab (dR (.of rfl) (.of rfl)) rfl ?_;refine Ja rfl<|Jn<|Je<|JT ?_)
 rfl
theorem O8 (x:Sr) (o:ByteArray) {b2:Nat} {w:World} (f2:w.cell? ⟨b2,0,none⟩=some (.string o)) :
  aj Tryz.prog 264 [.agg x.cells.toArray,.pointer (some ⟨b2,0,none⟩)] w (.bool (decide (x.nm=o))):=by
 unfold Sr.cells
 refine ah Tryz.func264 rfl rfl ?_
 (refine Jr<|Jy rfl rfl fun _ _=>Ja rfl<|Ji<|bF rfl rfl ae ?_;refine JL rfl .here rfl<|ab (ag (.of rfl) (At.base f2 rfl)) rfl ?_;refine ab (dR (.of rfl) (.of rfl)) rfl ?_;refine Ja rfl<|Jn<|Je<|JT ?_)
 rfl
theorem fG {r:Ro} {s d t p:Value} (o:ByteArray) {w:World} (h:RR w r s d t p):aj Tryz.prog 155 [RA r s d t p,.string o] w (.int .i64 (bu (ct r) o)):=by
 have h1:=Rd.one h.sr
 have h2:=Rd.one h.de
 have h3:=Rd.one h.ti
 have h4:=Rd.one h.po
 unfold RA
 refine ah Tryz.func155 rfl rfl ?_
 (refine Jr<|Jy rfl rfl fun _ _=>Jy rfl rfl fun _ _=>Ja rfl<|Ji<|bF rfl rfl ae ?_;refine JL rfl (.there .here) rfl<|ab (bn .nil (.cons (.of rfl) .nil)) rfl ?_)
 rename_i b3 sZ b4 u9
 with_reducible apply ai
 case hr=>exact aZ
 case hd=>rfl
 case hc=>
  intro w' au
  have f2:w'.cell? ⟨b4,0,none⟩=some (.string o):=At.lit (by exact .here) rfl w' au
  exact Mm (f:=243) (p:=fun x=>decide (x.nm=o)) (first:=[]) (cap:=[.pointer (some ⟨b4,0,none⟩)]) (h.keeps au.keeps).de
   (fun x hx w2 eC=>QU x o (ch f2 rfl eC))
 rw [A6]
 refine Ja rfl<|Jn<|Je<|JT ?_
 rfl
theorem nI {r:Ro} {s d t p:Value} (o:ByteArray) {w:World} (h:RR w r s d t p):aj Tryz.prog 180 [RA r s d t p,.string o] w (.int .i64 (bu (cm r) o)):=by
 have h1:=Rd.one h.sr
 have h2:=Rd.one h.de
 have h3:=Rd.one h.ti
 have h4:=Rd.one h.po
 unfold RA
 refine ah Tryz.func180 rfl rfl ?_
 (refine Jr<|Jy rfl rfl fun _ _=>Jy rfl rfl fun _ _=>Ja rfl<|Ji<|bF rfl rfl ae ?_;refine JL rfl (.there .here) rfl<|ab (bn .nil (.cons (.of rfl) .nil)) rfl ?_)
 rename_i b3 sZ b4 u9
 with_reducible apply ai
 case hr=>exact aZ
 case hd=>rfl
 case hc=>
  intro w' au
  have f2:w'.cell? ⟨b4,0,none⟩=some (.string o):=At.lit (by exact .here) rfl w' au
  exact Ee (f:=264) (p:=fun x=>decide (x.nm=o)) (first:=[]) (cap:=[.pointer (some ⟨b4,0,none⟩)]) (h.keeps au.keeps).sr
   (fun x hx w2 eC=>O8 x o (ch f2 rfl eC))
 rw [A6]
 refine Ja rfl<|Jn<|Je<|JT ?_
 rfl
def AZ (r:Ro) (v:Int):Int:=fW v 0 (IntKind.i64.wrap (r.lv-1))
def sM (r:Ro) (o:ByteArray):Int:=bO (decide (bu (ct r) o<0)) 10
def Ks (r:Ro) (o:ByteArray):Int:=bO (decide (bu (cm r) o<0)) 10
theorem ku {r:Ro} {s d t p:Value} (v:Int) {w w1:World} (h:RR w1 r s d t p):aj Tryz.prog 114 [RA r s d t p,.int .i64 v] w (.int .i64 (AZ r v)):=by
 have h1:=Rd.one h.sr
 have h2:=Rd.one h.de
 have h3:=Rd.one h.ti
 have h4:=Rd.one h.po
 unfold RA
 refine ah Tryz.func114 rfl rfl ?_
 (refine Jr<|Jy rfl rfl fun _ _=>Ja rfl<|Ji<|Jv rfl<|bF rfl rfl ae ?_;refine JL rfl .here rfl ?_)
 refine ab (DQ (.of rfl) (.of rfl)) rfl ?_
 (refine ai eh rfl (fun w' au=>(lV v 0 _ w')) ?_;refine Ja rfl<|Jn<|Je<|JT ?_)
 rfl
theorem ei {r:Ro} {s d t p:Value} (o:ByteArray) {w:World} (h:RR w r s d t p):aj Tryz.prog 112 [RA r s d t p,.string o] w (.int .i64 (sM r o)):=by
 have h1:=Rd.one h.sr
 have h2:=Rd.one h.de
 have h3:=Rd.one h.ti
 have h4:=Rd.one h.po
 have qX:∀ w',aG [] w w'→aj Tryz.prog 155 [.agg #[.int .i64 r.lv,.int .i64 r.ma,s,d,t,p],.string o] w' (.int .i64 (bu (ct r) o)):=fun w' hk=>fG o (h.keeps hk)
 unfold RA
 refine ah Tryz.func112 rfl rfl ?_
 (refine Jr<|Jy rfl rfl fun _ _=>Ja rfl<|Ji<|ab (cz .here) rfl ?_;refine Jv rfl<|ai aZ rfl (fun w' au=>(qX w' (Mem.keeps au))) ?_;refine JA rfl<|ai aZ rfl (fun w' au=>(dO _ 10 w')) ?_;refine Ja rfl<|Jn<|Je<|JT ?_)
 rfl
theorem pz {r:Ro} {s d t p:Value} (o:ByteArray) {w:World} (h:RR w r s d t p):aj Tryz.prog 122 [RA r s d t p,.string o] w (.int .i64 (Ks r o)):=by
 have h1:=Rd.one h.sr
 have h2:=Rd.one h.de
 have h3:=Rd.one h.ti
 have h4:=Rd.one h.po
 have hsrc:∀ w',aG [] w w'→aj Tryz.prog 180 [.agg #[.int .i64 r.lv,.int .i64 r.ma,s,d,t,p],.string o] w' (.int .i64 (bu (cm r) o)):=fun w' hk=>nI o (h.keeps hk)
 unfold RA
 refine ah Tryz.func122 rfl rfl ?_
 (refine Jr<|Jy rfl rfl fun _ _=>Ja rfl<|Ji<|ab (cz .here) rfl ?_;refine Jv rfl<|ai aZ rfl (fun w' au=>(hsrc w' (Mem.keeps au))) ?_;refine JA rfl<|ai aZ rfl (fun w' au=>(dO _ 10 w')) ?_;refine Ja rfl<|Jn<|Je<|JT ?_)
 rfl
def cy (r:Ro) (o:ByteArray):List ByteArray:=(List.range r.lv.toNat).map fun (v:Nat)=>jB r v o
theorem u5 {r:Ro} {s d t p:Value} (o:ByteArray) {w:World} (h:RR w r s d t p) (Bb:r.lv≤1000) (cG:r.ti.length≤1000000):bd Tryz.prog 113 [RA r s d t p,.string o] w [] (fun _:Value=>True) id (fun v=>[row 9 1 v r.lv.toNat (aO (cy r o))]):=by
 have h1:=Rd.one h.sr
 have h2:=Rd.one h.de
 have h3:=Rd.one h.ti
 have h4:=Rd.one h.po
 unfold RA
 refine aQ Tryz.func113 rfl rfl ?_
 (refine Jr<|Jy rfl rfl fun _ _=>Ja rfl<|Ji<|Ja rfl<|Jn<|Jq<|Jr<|bF rfl rfl ae ?_;refine JL rfl .here rfl<|Jv rfl<|Jn<|J0 ?_)
 rename_i b2 tb
 refine aP 9 1 ?_
 refine aX (ι:=Nat×Value) (fun x=>x.1≤r.lv.toNat)
  (fun x=>[(9,.int .i64 (x.1:Nat)),(8,.int .i64 r.lv),(5,x.2),(2,.pointer (some ⟨b2,0,none⟩)),(1,.string o)])
  (fun x=>[row 9 1 x.2 x.1 (aO ((cy r o).take x.1)),JP b2 r s d t p]) (fun x=>r.lv.toNat-x.1) ?_ ?_
 ·apply aJ (0,.slice none 0 0) (Zi _)
  case hs1=>exact cd
  case ht=>
   exact .cons .here (.cons .here .nil)
 rintro ⟨k,v⟩ hk
 dsimp only at hk ⊢
 by_cases aL:k<r.lv.toNat
 ·have Eg:((k:Nat):Int)<r.lv:=by omega
  have htk:(cy r o).take (k+1)=(cy r o).take k++[jB r (k:Nat) o]:=by
   unfold cy
   rw [List.take_succ_eq_append_getElem (by simpa using aL)]
   simp
  have a7:aO ((cy r o).take (k+1))=aO ((cy r o).take k)++[.string (jB r (k:Nat) o)]:=by rw [htk,eO];rfl
  have hlen:(aO ((cy r o).take k)).length=k*1:=by
   rw [dd,List.length_take];unfold cy;rw [Zd,List.length_range];omega
  (refine Jr<|JA rfl<|Jn<|Jq<|Jd rfl fun ar=>Jk<|Jq<|J0<|Jr<|Jv rfl<|Ja rfl<|Jn<|Jg<|Jv rfl<|ab (cz (.there .here)) rfl ?_;refine Jv rfl<|Jv rfl ?_)
  refine ai eh rfl (fun w' au=>oY (s:=s) (d:=d) (t:=t) (p:=p) (k:Nat) o (h.keeps au.keeps) cG) ?_
  refine bb (aA (.cons (.of rfl) .nil) rfl rfl rfl rfl) rfl (fun _ _=>?_)
  refine bB (.of rfl) (.of rfl) (.there .here) .here an (by rfl) (ed rfl) (by rfl) (by rfl) (by rfl) eH (by rfl) ?_
  intro v'
  refine Ja rfl<|Jx<|Jj<|Jt<|Jg<|JB rfl (by omega)<|Jv rfl<|Jn ?_
  apply aK (k+1,v') (by show k+1≤r.lv.toNat;omega) (by show r.lv.toNat-(k+1)<r.lv.toNat-k;omega)
  case hs1=>exact cd
  case ht=>
   show bo _ [row 9 1 v' (k+1) (aO ((cy r o).take (k+1))),JP b2 r s d t p] _
   rw [a7]
   exact .cons .here (.cons (.there .here) .nil)
 ·have e:k=r.lv.toNat:=by omega
  subst e
  have htk:(cy r o).take r.lv.toNat=cy r o:=List.take_of_length_le (by unfold cy;simp)
  rw [htk]
  refine Jr<|JA rfl<|Jn<|Jq<|Jc rfl fun ar=>Jp<|Jl<|Jo<|Jt<|Jr<|Jv rfl<|Ja rfl<|Jn<|Je ?_
  first | with_reducible apply aM | with_reducible apply aN
  case he=>exact dp rfl rfl
  case hR=>
   intro w' au
   exact aB v trivial (by exact .cons .here .nil) au rfl
theorem pY {r:Ro} {s d t p:Value} (v:Int) (o:ByteArray) {w:World} (h:RR w r s d t p):aj Tryz.prog 121 [RA r s d t p,.int .i64 v,.string o] w (.bool (fV r.po v o)):=by
 have h1:=Rd.one h.sr
 have h2:=Rd.one h.de
 have h3:=Rd.one h.ti
 have h4:=Rd.one h.po
 unfold RA
 refine ah Tryz.func121 rfl rfl ?_
 (refine Jr<|Jy rfl rfl fun _ _=>Ja rfl<|Ji<|ab (cz .here) rfl ?_;refine Jv rfl<|Jv rfl ?_)
 refine ai eh rfl (fun w' au=>y5 (s:=s) (d:=d) (t:=t) (p:=p) v o (h.keeps au.keeps)) ?_
 refine Jv rfl<|JJ rfl rfl<|JJ rfl rfl<|Ja rfl<|Ja rfl<|Ji<|Jv rfl<|Ja rfl<|Jn<|Je<|JT ?_
 rfl
def mY (r:Ro):Prop:=r.sr.length≤300∧r.de.length≤300∧r.ti.length≤300
theorem r6 {r:Ro} (h:fU r=0):mM r=0∧jy r=0∧js r r.po=0∧yW r=0:=by
 unfold fU at h
 by_cases h1:mM r=0
 ·rw [if_neg (by rw [h1];decide)] at h
  by_cases h2:jy r=0
  ·rw [if_neg (by rw [h2];decide)] at h
   by_cases h3:js r r.po=0
   ·rw [if_neg (by rw [h3];decide)] at h
    exact ⟨h1,h2,h3,h⟩
   ·rw [if_pos h3] at h;exact absurd h h3
  ·rw [if_pos h2] at h;exact absurd h h2
 ·rw [if_pos h1] at h;exact absurd h h1
def Il (r:Ro) (o:ByteArray):Int:=aW [fU r,sM r o]
def FA (r:Ro) (o:ByteArray):List ByteArray:=if Il r o≠0 then [] else cy r o
theorem Rk {r:Ro} {s d t p:Value} (o:ByteArray) {w:World} (h:RR w r s d t p) (cG:mY r):bd Tryz.prog 20 [RA r s d t p,.string o] w [] (fun _:Value=>True) (fun v=>.tuple #[v,.int .i64 (Il r o)]) (fun v=>[row 9 1 v (FA r o).length (aO (FA r o))]):=by
 have h1:=Rd.one h.sr
 have h2:=Rd.one h.de
 have h3:=Rd.one h.ti
 have h4:=Rd.one h.po
 have iQ:∀ w',aG [] w w'→aj Tryz.prog 34 [.agg #[.int .i64 r.lv,.int .i64 r.ma,s,d,t,p]] w' (.int .i64 (fU r)):=fun w' hk=>eu (h.keeps hk) cG
 have lT:∀ w',aG [] w w'→aj Tryz.prog 112 [.agg #[.int .i64 r.lv,.int .i64 r.ma,s,d,t,p],.string o] w' (.int .i64 (sM r o)):=fun w' hk=>ei o (h.keeps hk)
 unfold RA
 refine aQ Tryz.func20 rfl rfl ?_
 refine Jr<|Jy rfl rfl fun _ _=>Ja rfl<|Ja rfl<|Jn<|Jq<|Jq ?_
 rename_i b2 tb
 with_reducible refine cC 6 (by kernel_rfl) ?_
 (refine ak (cz .here) rfl ?_;refine aT bI rfl (fun w' au=>(iQ w' (Mem.keeps au))) ?_;refine ak (cz .here) rfl ?_;refine ak kG rfl ?_;refine aT aZ rfl (fun w' au=>(lT w' (Mem.keeps au))) ?_;refine dX (aA (.cons (.of rfl) (.cons (.of rfl) .nil)) rfl rfl rfl rfl) rfl rfl ?_)
 with_reducible refine df rfl fun bq mg=>?_
 (refine ai bI rfl (fun w' au=>(dI (Mem.dh au .here rfl rfl) (bP.cons (bP.cons bP.nil)))) ?_;refine Ja rfl<|Ji<|Jv rfl<|JD rfl<|Jn<|gm rfl (fun ar=>?_) fun ar=>?_;refine Jr<|Jv rfl<|Ja rfl<|Ja rfl<|Jn<|Ju ?_;rotate_left;refine Jk<|Jr<|ab (cz (.there .here)) rfl ?_;refine Jv rfl ?_;rotate_right)
 ·have e1:FA r o=[]:=if_pos ar
  rw [e1]
  refine aP 9 1 ?_
  first | with_reducible apply aM | with_reducible apply aN
  case he=>exact fF rfl rfl rfl
  case hR=>
   intro w' au
   exact aB (.slice none 0 0) trivial (by exact .cons .here .nil) au rfl
 have e1:FA r o=cy r o:=if_neg ar
 have e0:aW [fU r,sM r o]=0:=Decidable.not_not.1 ar
 have e2:Il r o=0:=e0
 have hl:=uN (r6 (bX.1 e0 _ List.mem_cons_self)).1
 have hn:(cy r o).length=r.lv.toNat:=by unfold cy;simp
 rw [e1,e2,hn]
 refine JN aZ rfl (fun w1 aS=>u5 o (h.keeps aS.keeps) (by omega) (by have:=cG.2.2;omega)) ?_
 intro v _
 dsimp only [id_eq,Zb,Za]
 refine Ja rfl<|Ja rfl<|Jn<|Je ?_
 first | with_reducible apply aM | with_reducible apply aN
 case he=>exact fF rfl rfl rfl
 case hR=>
  intro w' au
  exact aB v trivial (by exact .cons .here .nil) au rfl
end Go.Proofs.A1
namespace Go.SL
open Go
section
variable {P:Program} {c:Cx} {D:List Nat} {sl:aI} {hs hs':List a8} {ty:TypeId} {pos:String} {af:Array Edge} {r:Option Nat} {ops:Array Oper} {Q:Exit→Act→World→Prop} {rest:List Oper}
theorem xY (zs:List Value) (n:Nat):Builtin.zeroCells zs.toArray n=((List.replicate n zs).flatten).toArray:=by
 unfold Builtin.zeroCells
 apply Array.ext
 ·simp
 ·intro i h1 h2
  have hi:i<n*zs.length:=by simpa using h1
  have hz:0<zs.length:=by
   rcases Nat.eq_zero_or_pos zs.length with e | e
   ·rw [e] at hi;omega
   ·exact e
  have hm:i % zs.length<zs.length:=Nat.mod_lt _ hz
  have sG:∀ (n i:Nat) (h:i<(List.replicate n zs).flatten.length),(List.replicate n zs).flatten[i]=zs[i % zs.length]'(Nat.mod_lt _ hz):=by
   intro n
   induction n with
   | zero=>intro i h;simp at h
   | succ n ih =>
    intro i h
    have e:(List.replicate (n+1) zs).flatten=zs++(List.replicate n zs).flatten:=by simp [List.replicate_succ]
    rw [List.getElem_of_eq e]
    by_cases hl:i<zs.length
    ·rw [List.getElem_append_left hl]
     congr 1
     exact (Nat.mod_eq_of_lt hl).symm
    ·rw [List.getElem_append_right (by omega),ih]
     congr 1
     exact (Nat.mod_eq_sub_mod (by omega)).symm
  have:=sG n i (by simpa using hi)
  rw [show (List.replicate n zs).flatten.toArray[i]=(List.replicate n zs).flatten[i]'(by simpa using hi) from rfl,this]
  simp [hm]
theorem Aa {t e:TypeId} {x:Operand} {g o n cap:Nat} {E:TypeId} {cs zs:List Value} {z:Value} [hu:iH P t (.slice e)] [hZ:lG P e z]
  (hx:Is sl x (.slice (some ⟨g,o,none⟩) n cap)) (ht:Take hs (bA g (.cells cs.toArray E (0,0))) hs') (hz:z.cells=zs.toArray) (h1:∀ u∈zs,u.oneCell'=true) (hfit:o+n*zs.length≤cs.length)
  (k:Tr c D sl (bA g (.cells (setCells cs o (List.replicate n zs).flatten).toArray E (0,0))::hs') (WL P r ops Q rest)) :
  Tr c D sl hs (WL P r ops Q (⟨none,.call ⟨.builtin .clear,#[x],#[t]⟩,ty,pos,af,none⟩::rest)):=fun a w a7=>by
 have hm:=a7.mem.take (ht.append _)
 have hg:w.heap[g]? = some (.cells cs.toArray E (0,0)):=hm.bA .here
 obtain ⟨w',h3,h4,h5⟩:=iJ (P:=P) (o:=o) (List.replicate n zs).flatten 0 cs w hg (fun u hu=>by
  obtain ⟨l,hl,P4⟩:=List.mem_flatten.1 hu
  rw [List.eq_of_mem_replicate hl] at P4
  exact h1 u P4) (by
  have:(List.replicate n zs).flatten.length=n*zs.length:=by simp
  omega)
 refine lU rfl ⟨dH _ _ _ _ _,?_⟩
 rw [Oper.semAt_eq _ _ _ (by simp)]
 have:(execOp a.eval ⟨none,.call ⟨.builtin .clear,#[x],#[t]⟩,ty,pos,af,none⟩).run P w=.ok (.value (.tuple #[])) w':=by
  cases n with
  | zero =>
   simp [execOp,resolve,invoke,builtin,hx a a7.cM,Builtin.clear_,aV hu.eq]
   simpa [storeCells] using h3
  | succ n =>
   simp [execOp,resolve,invoke,builtin,hx a a7.cM,Builtin.clear_,aV hu.eq,hP (t:=e) (v:=z),hz,xY]
   simp [h3]
 rw [this]
 have lP:=Mem.store hm h4 h5
 exact k _ _ (a7.heap lP)
end
end Go.SL
namespace Go.SL
open Go
section
variable {α:Type} {f:α→List Value} {sz:Nat}
theorem iG (hf:∀ x,(f x).length=sz) (l:List α):(l.map f).flatten.length=l.length*sz:=by
 rw [fQ (sz:=sz) (fun r hr=>by obtain ⟨x,_,rfl⟩:=List.mem_map.1 hr;exact hf x),Zd]
theorem q8 (hf:∀ x,(f x).length=sz) {l:List α} {i:Nat} (h:i<l.length) (cur:List Value):dW ((l.map f).flatten++cur) (i*sz) sz=f l[i]:=by
 have hl:l=l.take i++l[i]::l.drop (i+1):=by rw [← List.drop_eq_getElem_cons h,List.take_append_drop]
 have e:(l.map f).flatten=((l.take i).map f).flatten++(f l[i]++((l.drop (i+1)).map f).flatten):=
  (congrArg (fun m=>(List.map f m).flatten) hl).trans (by simp only [List.map_append,List.flatten_append,List.map_cons,List.flatten_cons])
 have hk:((l.take i).map f).flatten.length=i*sz:=by rw [iG hf,List.length_take_of_le (by omega)]
 rw [iX,e,Zh,← hk,List.drop_append_of_le_length (by omega),List.drop_length,Za,← hf l[i],Zh,List.take_append_of_le_length (by omega),List.take_length]
theorem sN {cs:List Value} {o n j:Nat} (hj:j<n):(dW cs o n)[j]? = cs[o+j]?:=by
 rw [iX,List.getElem?_take,if_pos hj,List.getElem?_drop]
theorem IF (hf:∀ x,(f x).length=sz) {l:List α} {i j:Nat} (h:i<l.length) (hj:j<sz) (cur:List Value):((l.map f).flatten++cur)[i*sz+j]? = (f l[i])[j]?:=by
 rw [← q8 hf h cur,sN hj]
theorem yr:∀ (A B C Z:List Value),Z.length=B.length→setCells (A++(B++C)) A.length Z=A++(Z++C):=by
 intro A B C Z h
 apply List.ext_getElem?
 intro k
 rw [hG _ _ _ _ (by simp;omega)]
 by_cases h1:k<A.length
 ·rw [if_neg (by omega),List.getElem?_append_left h1,List.getElem?_append_left h1]
 ·by_cases h2:k-A.length<Z.length
  ·rw [if_pos (by omega),List.getElem?_append_right (show A.length≤k by omega),List.getElem?_append_left h2]
  ·rw [if_neg (by omega),List.getElem?_append_right (show A.length≤k by omega),List.getElem?_append_right (show A.length≤k by omega),List.getElem?_append_right (show B.length≤k-A.length by omega),List.getElem?_append_right (show Z.length≤k-A.length by omega),h]
theorem IE (hf:∀ x,(f x).length=sz) {l:List α} {i:Nat} (h:i<l.length) (x:α) (cur:List Value):setCells ((l.map f).flatten++cur) (i*sz) (f x)=((l.set i x).map f).flatten++cur:=by
 have hl:l=l.take i++l[i]::l.drop (i+1):=by rw [← List.drop_eq_getElem_cons h,List.take_append_drop]
 have e:(l.map f).flatten=((l.take i).map f).flatten++(f l[i]++((l.drop (i+1)).map f).flatten):=
  (congrArg (fun m=>(List.map f m).flatten) hl).trans (by simp only [List.map_append,List.flatten_append,List.map_cons,List.flatten_cons])
 have e2:((l.set i x).map f).flatten=((l.take i).map f).flatten++(f x++((l.drop (i+1)).map f).flatten):=by
  rw [List.set_eq_take_append_cons_drop,if_pos h]
  simp
 have hk:((l.take i).map f).flatten.length=i*sz:=by rw [iG hf,List.length_take_of_le (by omega)]
 rw [e,e2,Zh,Zh,Zh,Zh,← hk]
 exact yr _ _ _ _ (by rw [hf,hf])
theorem Eu (hf:∀ x,(f x).length=sz) (A B:List α) (Z cur:List Value) (hz:Z.length=B.length*sz):setCells (((A++B).map f).flatten++cur) (A.length*sz) Z=(A.map f).flatten++(Z++cur):=by
 rw [List.map_append,List.flatten_append,Zh,← iG hf A]
 exact yr _ _ _ _ (by rw [hz,iG hf])
theorem wW {g k n cap:Nat} (sz:Nat) (h:k<n) (hc:n≤cap):Go.sliced (some ⟨g,0,none⟩) ((k:Nat):Int).toNat n cap sz=.slice (some ⟨g,k*sz,none⟩) (n-k) (cap-k):=by
 unfold Go.sliced
 rw [if_neg (by rw [Int.toNat_natCast];omega),Int.toNat_natCast]
 simp [eD]
theorem wX (g k cap sz:Nat):Go.sliced (some ⟨g,0,none⟩) 0 ((k:Nat):Int).toNat cap sz=.slice (some ⟨g,0,none⟩) k cap:=by
 unfold Go.sliced
 rw [Int.toNat_natCast]
 by_cases h:cap=0
 ·rw [if_pos h];simp
 ·rw [if_neg h];simp [eD]
theorem filter_lt {q:α→Bool} {l:List α} {i:Nat} (hi:i<l.length) (h:q l[i]=false):(l.filter q).length<l.length:=
 List.length_filter_lt_length_iff_exists.2 ⟨l[i],Zj hi,by simp [h]⟩
def tP (q:α→Bool) (l:List α) (j:Nat):List α:=(l.take j).filter q++l.drop ((l.take j).filter q).length
def kT (q:α→Bool) (l:List α) (j:Nat):Nat:=((l.take j).filter q).length
theorem mQ (q:α→Bool) (l:List α) {j:Nat} (hj:j≤l.length):kT q l j≤j:=by
 have:=List.length_filter_le q (l.take j)
 rw [List.length_take_of_le hj] at this
 exact this
theorem Ep (q:α→Bool) (l:List α) {j:Nat} (hj:j≤l.length):(tP q l j).length=l.length:=by
 have:=mQ q l hj
 unfold kT at this
 unfold tP
 rw [Zg,List.length_drop]
 omega
theorem Er (q:α→Bool) (l:List α) {j:Nat} (hj:j<l.length):∃ h:j<(tP q l j).length,(tP q l j)[j]=l[j]:=by
 have:=mQ q l (Nat.le_of_lt hj)
 unfold kT at this
 have h:(tP q l j)[j]? = some l[j]:=by
  unfold tP
  rw [List.getElem?_append_right this,List.getElem?_drop,← Zc hj]
  congr 1;omega
 exact List.getElem?_eq_some_iff.1 h
theorem uj (q:α→Bool) (l:List α) {j:Nat} (hj:j<l.length):(l.take (j+1)).filter q=(l.take j).filter q++if q l[j] then [l[j]] else []:=by
 rw [List.take_succ_eq_append_getElem hj,List.filter_append]
 congr 1
 by_cases h:q l[j]=true
 ·rw [List.filter_cons_of_pos h,if_pos h];rfl
 ·rw [List.filter_cons_of_neg h,if_neg h];rfl
theorem C1 (q:α→Bool) (l:List α) {j:Nat} (hj:j<l.length) (hq:q l[j]=false):tP q l (j+1)=tP q l j∧kT q l (j+1)=kT q l j:=by
 have e:(l.take (j+1)).filter q=(l.take j).filter q:=by rw [uj q l hj,hq];simp
 unfold tP kT
 rw [e];exact ⟨rfl,rfl⟩
theorem Eo (q:α→Bool) (l:List α) {j:Nat} (hj:j<l.length) (hq:q l[j]=true):tP q l (j+1)=(tP q l j).set (kT q l j) l[j]∧kT q l (j+1)=kT q l j+1:=by
 have e:(l.take (j+1)).filter q=(l.take j).filter q++[l[j]]:=by rw [uj q l hj,if_pos hq]
 have hle:=mQ q l (Nat.le_of_lt hj)
 unfold kT at hle
 have hm:((l.take j).filter q).length<l.length:=by omega
 unfold tP kT
 rw [e]
 refine ⟨?_,by simp⟩
 rw [List.set_append_right _ _ (Nat.le_refl _),Nat.sub_self,List.drop_eq_getElem_cons hm,List.set_cons_zero,Zg,Zh]
 rfl
theorem Es (q:α→Bool) (l:List α):tP q l l.length=l.filter q++l.drop (l.filter q).length∧kT q l l.length=(l.filter q).length:=by
 unfold tP kT
 rw [List.take_length]
 exact ⟨rfl,rfl⟩
theorem xI (q:α→Bool) (l:List α) {i:Nat} (hi:i<l.length) (hb:∀ j (h:j<i),q (l[j]'(by omega))=true) (hq:q l[i]=false):tP q l (i+1)=l∧kT q l (i+1)=i:=by
 have e:(l.take i).filter q=l.take i:=List.filter_eq_self.2 fun x hx=>by
  obtain ⟨j,hj,rfl⟩:=List.getElem_of_mem hx
  rw [List.getElem_take]
  exact hb j (by rw [List.length_take] at hj;omega)
 obtain ⟨h1,h2⟩:=C1 q l hi hq
 rw [h1,h2]
 unfold tP kT
 rw [e,List.length_take_of_le (by omega),List.take_append_drop]
 exact ⟨rfl,rfl⟩
end
end Go.SL
namespace Go.Proofs.A1
open Go Go.SL
theorem A5 {lv:Value} {l:List ByteArray} {p:ByteArray→Bool} {f:FuncId} {first cap:List Value} [bS Tryz.prog f] {w:World} (h:Rd w lv 1 (iT l)) (cn:∀ x∈l,∀ w',aG [] w w'→aj Tryz.prog f (first++[.string x]++cap) w' (.bool (p x))) :
  aj Tryz.prog 299 [lv,.func (.func f) first.toArray cap.toArray] w (.int .i64 (gK p l)):=by
 obtain ⟨a,cp,b,o,rfl,db,bT,ha,hc⟩:=h
 rw [cg] at *
 unfold maxLen at bT
 refine ah Tryz.func299 rfl rfl ?_
 refine Jr<|Ja rfl<|Jn<|Jq<|Jr<|Jv rfl<|JI rfl<|Jv rfl<|Jn<|J0 ?_
 refine aX (fun k:Nat=>k≤l.length∧∀ i,i<k→(l[i]?.map p).getD false=false) (fun k=>[(8,.int .i64 k),(7,.int .i64 l.length),(0,.slice a l.length cp),(1,.func (.func f) first.toArray cap.toArray)]) (fun _=>[]) (fun k=>l.length-k) ?_ ?_
 ·apply aJ 0 ⟨Zi _,fun i h=>by omega⟩
  case hs1=>exact cd
  case ht=>(try simp only [Ze,Zf,Za]);exact .nil
 rintro k ⟨hk,hf⟩
 by_cases aL:k<l.length
 ·have cE:=ha (mC aL)
  have c0:w.cell? ⟨b,o+k*1,none⟩=some (.string l[k]):=(hc k _ (jG aL)).2 0 _ rfl
  have iF:=cn _ (Zj aL)
  have hps:(l[k]?.map p).getD false=p l[k]:=by simp [aL]
  (refine Jr<|JA rfl<|Jn<|Jq<|Jd rfl fun ar=>Jk<|Jq<|J0<|Jr<|Jv rfl<|Ja rfl<|Ji<|Jv rfl<|Jv rfl<|Jv rfl<|ab (fH cE ar) rfl ?_;refine ab (ag (.of rfl) (At.base c0 rfl)) rfl ?_;refine ai bI rfl (fun w' au=>(iF w' (Mem.keeps au))) ?_;refine Jn<|nB rfl (fun ar=>?_) fun ar=>?_;refine Jr<|Jv rfl<|Ja rfl<|Jn<|Je<|Jm<|Jh<|Jh<|Jm<|Jh<|JT ?_;rotate_left;refine Jw<|Jj<|Jt<|Jg<|JB rfl (by omega)<|Jv rfl<|Jn ?_;rotate_right)
  ·rw [gj hf aL ar]
  ·apply aK (k+1) ⟨by omega,fun i hi=>by
    by_cases e:i=k
    ·rw [e,hps];exact ar
    ·exact hf i (by omega)⟩ (by omega)
   case hs1=>exact cd
   case ht=>(try simp only [Ze,Zf,Za]);exact .nil
 ·obtain rfl:k=l.length:=by omega
  refine Jr<|JA rfl<|Jn<|Jq<|Jc rfl fun ar=>Jp<|Jl<|Jo<|Jt<|Jr<|Ja rfl<|Jn<|Je<|JT ?_
  rw [fx hf]
theorem Ix {lv:Value} {l:List ByteArray} {p:ByteArray→Bool} {f:FuncId} {first cap:List Value} [bS Tryz.prog f] {w:World} (h:Rd w lv 1 (iT l)) (cn:∀ x∈l,∀ w',aG [] w w'→aj Tryz.prog f (first++[.string x]++cap) w' (.bool (p x))) :
  aj Tryz.prog 250 [lv,.func (.func f) first.toArray cap.toArray] w (.bool (l.any p)):=by
 have iF:∀ w',aG [] w w'→aj Tryz.prog 299 [lv,.func (.func f) first.toArray cap.toArray] w' (.int .i64 (gK p l)):=fun w' hk=>
  A5 (h.keeps hk) fun x hx w2 eC=>cn x hx w2 (hk.trans eC)
 rw [← jP]
 refine ah Tryz.func250 rfl rfl ?_
 (refine Jr<|Ja rfl<|Ji<|Jv rfl<|Jv rfl<|ai aZ rfl (fun w' au=>(iF w' (Mem.keeps au))) ?_;refine JG rfl<|Ja rfl<|Jn<|Je<|JT ?_)
 rfl
set_option maxHeartbeats 1000000 in
theorem IN {v:Value} {n:Nat} {l:List ByteArray} {p:ByteArray→Bool} {f:FuncId} {first cap:List Value} [bS Tryz.prog f] {w:World} {fp:List Nat} (kQ:fp.Nodup) (hs:bY (hp w) [row 9 1 v n (aO l)] fp) (hn:l.length=n) (cG:n≤1000000)
  (cn:∀ x∈l,∀ w',aG fp w w'→aj Tryz.prog f (first++[.string x]++cap) w' (.bool (p x))) :
  bd Tryz.prog 224 [v,.func (.func f) first.toArray cap.toArray] w fp (fun _:Value=>True) id (fun v'=>[row 9 1 v' (l.filter fun x=>!p x).length (aO (l.filter fun x=>!p x))]):=by
 refine dV Tryz.func224 rfl rfl kQ hs ?_
 refine Jr<|Ja rfl<|Ji<|Jv rfl<|Jv rfl ?_
 refine aY (by exact .here) fun va vc e=>?_
 subst e
 skip
 with_reducible apply ai
 case hr=>exact aZ
 case hd=>rfl
 case hc=>
  intro w' au
  have hR:Rd w' (.slice va n vc) 1 (iT l):=ez au (by exact .here) hn
  exact A5 (f:=f) (p:=p) (first:=first) (cap:=cap) hR (fun x hx w2 eC=>cn x hx w2 (au.keeps.trans (eC.mono (by simp))))
 rcases oS p l with ⟨e1,e2⟩ | ⟨i,hi,e1,e2⟩
 ·rw [e1]
  have sG:(l.filter fun x=>!p x)=l:=List.filter_eq_self.2 fun x hx=>by
   have:=List.find?_eq_none.1 e2 x hx
   simpa using this
  rw [sG]
  refine Ja rfl<|Jn<|Jq<|Jr<|Jv rfl<|JC rfl<|Jn<|Jd rfl fun ar=>Jr<|Jv rfl<|Ja rfl<|Jn<|Ju ?_
  first | with_reducible apply aM | with_reducible apply aN
  case he=>exact dp rfl rfl
  case hR=>
   intro w' au
   exact aB (.slice va n vc) trivial (show bo _ [row 9 1 (.slice va n vc) l.length (aO l)] _ by rw [hn];exact .cons .here .nil) au rfl
 rw [e1]
 rw [List.find?_eq_some_iff_getElem] at e2
 obtain ⟨N3,i',sY,Ga,dy⟩:=e2
 have F8:i'=i:=by
  have h1:gK p l=(i':Nat):=gj (fun j hj=>by
   rw [Zc (by omega)]
   simpa using dy j hj) sY (by rw [Ga];exact N3)
  rw [e1] at h1
  exact_mod_cast h1.symm
 subst F8
 obtain ⟨st1,st2⟩:=xI (fun x=>!p x) l sY (fun j hj=>dy j hj) (by rw [Ga];simp [N3])
 have hne:¬ ((i':Nat):Int) = -1:=by omega
 refine Ja rfl<|Jn<|Jq<|Jr<|Jv rfl<|JC rfl<|Jn<|Jc rfl fun ar=>Jk<|Jq<|Jr<|Jv rfl<|JB rfl (by omega)<|Ja rfl<|Jn<|J0 ?_
 refine c7 (by exact .here) (by omega) ?_
 rintro g gL cur e od zd hsz hl
 cases e
 have hF:∀ x,((fun s:ByteArray=>[Value.string s]) x).length=1:=fun _=>rfl
 have hV:∀ l,aO l=(l.map (fun s:ByteArray=>[Value.string s])).flatten:=fun l=>qt l
 refine aX (fun j:Nat=>i'<j∧j≤l.length) (fun j=>[(6,.int .i64 (j:Nat)),(5,.int .i64 (kT (fun x=>!p x) l j)),(0,.slice (some ⟨g,0,none⟩) n vc),(1,.func (.func f) first.toArray cap.toArray)])
  (fun j=>[bA g (.cells (((tP (fun x=>!p x) l j).map (fun s:ByteArray=>[Value.string s])).flatten++cur).toArray 9 (0,0))]) (fun j=>l.length-j) ?_ ?_
 ·apply aJ (i'+1) ⟨by omega,by omega⟩
  case hs1=>rw [st2];exact .cons rfl (.cons rfl (.cons rfl (.cons rfl .nil)))
  case ht=>rw [st1,← hV];exact .cons .here .nil
 rintro j ⟨hj,hk⟩
 by_cases aL:j<l.length
 ·have sW:j<n:=by omega
  have hle:=mQ (fun x=>!p x) l hk
  have sG:=Ep (fun x=>!p x) l hk
  obtain ⟨Wz,WK⟩:=Er (fun x=>!p x) l aL
  have c0:=IF hF Wz (show 0<1 by omega) cur
  rw [WK] at c0
  have c1:(((tP (fun x=>!p x) l j).map (fun s:ByteArray=>[Value.string s])).flatten++cur)[j*1]? = some (.string l[j]):=c0
  (refine Jq<|Jr<|Jv rfl<|Jv rfl<|JI rfl<|JA rfl<|Jn<|Jd rfl fun ar=>Jk<|Jq<|J0<|Jr<|Jv rfl<|Jv rfl<|ab (az (.of rfl) (.of rfl) rfl (by omega) ar ba) rfl ?_;refine ab (ag (.of rfl) (At.kz .here c1)) rfl ?_;refine Ja rfl<|Ji<|Jv rfl<|Jv rfl ?_)
  with_reducible apply ai
  case hr=>exact bI
  case hd=>rfl
  case hc=>
   intro w' au
   exact cn l[j] (Zj aL) w' au.keeps
  have hm:kT (fun x=>!p x) l j<(tP (fun x=>!p x) l j).length:=by rw [sG];have:=st2;omega
  have hb:kT (fun x=>!p x) l j*1+1≤(((tP (fun x=>!p x) l j).map (fun s:ByteArray=>[Value.string s])).flatten++cur).length:=by rw [Zg,iG hF,sG];omega
  have mO:=IE hF hm l[j] cur
  have hmn:kT (fun x=>!p x) l j<n:=by omega
  cases hq:p l[j] with
  | true =>
   obtain ⟨s1,s2⟩:=C1 (fun x=>!p x) l aL (by simp [hq])
   (refine JH rfl<|Jn<|bL (.of rfl) ?_;refine Jw<|Jj<|Jt<|Jg<|Jv rfl<|JB rfl (by omega)<|Ja rfl<|Jn ?_)
   apply aK (j+1) ⟨by omega,by omega⟩ (by omega)
   case hs1=>rw [s2];exact .cons rfl (.cons rfl (.cons rfl (.cons rfl .nil)))
   case ht=>rw [s1];exact .cons .here .nil
  | false =>
   obtain ⟨s1,s2⟩:=Eo (fun x=>!p x) l aL (by simp [hq])
   (refine JH rfl<|Jn<|cB (.of rfl) ?_;refine Jr<|Jv rfl<|Jv rfl<|Jv rfl<|ab (az (.of rfl) (.of rfl) rfl (by omega) (by omega) ba) rfl ?_;refine aq (.of rfl) (.of rfl) .here rfl rfl (ed rfl) hb mO ?_;refine Jn<|Jg<|Jv rfl<|JB rfl (by omega)<|Ja rfl<|Jx<|Jj<|Jt<|Jg<|Jv rfl<|JB rfl (by omega)<|Ja rfl<|Jn ?_)
   apply aK (j+1) ⟨by omega,by omega⟩ (by omega)
   case hs1=>rw [s2];exact .cons rfl (.cons rfl (.cons rfl (.cons rfl .nil)))
   case ht=>rw [s1];exact .cons .here .nil
 ·obtain rfl:j=l.length:=by omega
  obtain ⟨a1,a2⟩:=Es (fun x=>!p x) l
  have hle:=mQ (fun x=>!p x) l (Nat.le_refl _)
  rw [a1,a2]
  rw [a2] at hle
  have hZ:=Eu hF (l.filter fun x=>!p x) (l.drop (l.filter fun x=>!p x).length) (List.replicate (n-(l.filter fun x=>!p x).length) [Value.string ⟨#[]⟩]).flatten cur (by simp;omega)
  have Rw:(l.filter fun x=>!p x).length<l.length:=filter_lt sY (by rw [Ga];simp [N3])
  generalize (l.filter fun x=>!p x)=q at hle hZ Rw ⊢
  have V2:q.length<n:=by omega
  have Ry:q.length≤vc:=by omega
  have hfit:q.length*1+(n-q.length)*[Value.string ⟨#[]⟩].length≤(((q++l.drop q.length).map (fun s:ByteArray=>[Value.string s])).flatten++cur).length:=by
   rw [Zg,iG hF,Zg,List.length_drop]
   simp only [List.length_cons,List.length_nil]
   omega
  refine Jq<|Jr<|Jv rfl<|Jv rfl<|JI rfl<|JA rfl<|Jn<|Jc rfl fun ar=>Jp<|Jl<|Jo<|Jt<|Jr<|Jv rfl<|Jv rfl<|ab (pD (.of rfl) (.of rfl) (by omega) (by omega)) rfl ?_
  rw [wW 1 V2 od]
  refine Aa (zs:=[Value.string ⟨#[]⟩]) (z:=.string ⟨#[]⟩) (.of rfl) .here rfl (ed rfl) hfit ?_
  rw [hZ]
  (refine Ji<|Jv rfl<|Jv rfl<|ab (gP (.of rfl) (.of rfl) (by omega) (by omega)) rfl ?_;refine Ja rfl<|Jn<|Je ?_)
  rw [wX]
  have uT:((q.map (fun s:ByteArray=>[Value.string s])).flatten++((List.replicate (n-q.length) [Value.string ⟨#[]⟩]).flatten++cur)).length=vc*1:=by
   rw [← hsz,Zg,iG hF,Zg,Zg,← hn,hV,iG hF]
   have:(List.replicate (l.length-q.length) [Value.string ⟨#[]⟩]).flatten.length=(l.length-q.length)*1:=by simp
   rw [this]
   omega
  refine c6 (n:=q.length) (sz:=1) (by exact .here) Ry zd uT (by rw [iG hF]) ?_
  skip
  first | with_reducible apply aM | with_reducible apply aN
  case he=>exact dp rfl rfl
  case hR=>
   intro w' au
   exact aB (.slice (some ⟨g,0,none⟩) q.length vc) trivial (show bo _ [row 9 1 (.slice (some ⟨g,0,none⟩) q.length vc) q.length (aO q)] _ by rw [hV];exact .cons .here .nil) au rfl
set_option maxHeartbeats 1000000 in
theorem MX {v:Value} {n:Nat} {l:List Po} {p:Po→Bool} {f:FuncId} {first cap:List Value} [bS Tryz.prog f] {w:World} {fp:List Nat} (kQ:fp.Nodup) (hs:bY (hp w) [row 188 3 v n (jf l)] fp) (hn:l.length=n) (cG:n≤1000000)
  (cn:∀ x∈l,∀ w',aG fp w w'→aj Tryz.prog f (first++[.agg x.cells.toArray]++cap) w' (.bool (p x))) :
  bd Tryz.prog 314 [v,.func (.func f) first.toArray cap.toArray] w fp (fun _:Value=>True) id (fun v'=>[row 188 3 v' (l.filter fun x=>!p x).length (jf (l.filter fun x=>!p x))]):=by
 refine dV Tryz.func314 rfl rfl kQ hs ?_
 refine Jr<|Ja rfl<|Ji<|Jv rfl<|Jv rfl ?_
 refine aY (by exact .here) fun va vc e=>?_
 subst e
 skip
 with_reducible apply ai
 case hr=>exact aZ
 case hd=>rfl
 case hc=>
  intro w' au
  have hR:Rd w' (.slice va n vc) 3 (sU l):=cR au (by exact .here) hn
  exact y7 (f:=f) (p:=p) (first:=first) (cap:=cap) hR (fun x hx w2 eC=>cn x hx w2 (au.keeps.trans (eC.mono (by simp))))
 rcases oS p l with ⟨e1,e2⟩ | ⟨i,hi,e1,e2⟩
 ·rw [e1]
  have sG:(l.filter fun x=>!p x)=l:=List.filter_eq_self.2 fun x hx=>by
   have:=List.find?_eq_none.1 e2 x hx
   simpa using this
  rw [sG]
  refine Ja rfl<|Jn<|Jq<|Jr<|Jv rfl<|JC rfl<|Jn<|Jd rfl fun ar=>Jr<|Jv rfl<|Ja rfl<|Jn<|Ju ?_
  first | with_reducible apply aM | with_reducible apply aN
  case he=>exact dp rfl rfl
  case hR=>
   intro w' au
   exact aB (.slice va n vc) trivial (show bo _ [row 188 3 (.slice va n vc) l.length (jf l)] _ by rw [hn];exact .cons .here .nil) au rfl
 rw [e1]
 rw [List.find?_eq_some_iff_getElem] at e2
 obtain ⟨N3,i',sY,Ga,dy⟩:=e2
 have F8:i'=i:=by
  have h1:gK p l=(i':Nat):=gj (fun j hj=>by
   rw [Zc (by omega)]
   simpa using dy j hj) sY (by rw [Ga];exact N3)
  rw [e1] at h1
  exact_mod_cast h1.symm
 subst F8
 obtain ⟨st1,st2⟩:=xI (fun x=>!p x) l sY (fun j hj=>dy j hj) (by rw [Ga];simp [N3])
 have hne:¬ ((i':Nat):Int) = -1:=by omega
 refine Ja rfl<|Jn<|Jq<|Jr<|Jv rfl<|JC rfl<|Jn<|Jc rfl fun ar=>Jk<|Jq<|Jr<|Jv rfl<|JB rfl (by omega)<|Ja rfl<|Jn<|J0 ?_
 refine c7 (by exact .here) (by omega) ?_
 rintro g gL cur e od zd hsz hl
 cases e
 have hF:∀ x,(Po.cells x).length=3:=fun _=>rfl
 have hV:∀ l,jf l=(l.map Po.cells).flatten:=fun l=>rfl
 refine aX (fun j:Nat=>i'<j∧j≤l.length) (fun j=>[(6,.int .i64 (j:Nat)),(5,.int .i64 (kT (fun x=>!p x) l j)),(0,.slice (some ⟨g,0,none⟩) n vc),(1,.func (.func f) first.toArray cap.toArray)])
  (fun j=>[bA g (.cells (((tP (fun x=>!p x) l j).map Po.cells).flatten++cur).toArray 188 (0,0))]) (fun j=>l.length-j) ?_ ?_
 ·apply aJ (i'+1) ⟨by omega,by omega⟩
  case hs1=>rw [st2];exact .cons rfl (.cons rfl (.cons rfl (.cons rfl .nil)))
  case ht=>rw [st1,← hV];exact .cons .here .nil
 rintro j ⟨hj,hk⟩
 by_cases aL:j<l.length
 ·have sW:j<n:=by omega
  have hle:=mQ (fun x=>!p x) l hk
  have sG:=Ep (fun x=>!p x) l hk
  obtain ⟨Wz,WK⟩:=Er (fun x=>!p x) l aL
  have c0:=q8 hF Wz cur
  rw [WK] at c0
  have c1:dW (((tP (fun x=>!p x) l j).map Po.cells).flatten++cur) (j*3) 3=[.int .i64 (l[j]).lv,.string (l[j]).ou,.string (l[j]).ip]:=c0
  (refine Jq<|Jr<|Jv rfl<|Jv rfl<|JI rfl<|JA rfl<|Jn<|Jd rfl fun ar=>Jk<|Jq<|J0<|Jr<|Jv rfl<|Jv rfl<|ab (az (.of rfl) (.of rfl) rfl (by omega) ar ba) rfl ?_;refine ab (cA (.of rfl) .here c1 rfl) rfl ?_;refine Jz rfl rfl fun _ _=>aq (.of rfl) (.of rfl) .here rfl rfl (fh rfl rfl rfl) (bC rfl) an ?_;refine Ji<|Jv rfl<|ab (cz .here) rfl ?_)
  with_reducible apply ai
  case hr=>exact bI
  case hd=>rfl
  case hc=>
   intro w' au
   exact cn l[j] (Zj aL) w' au.keeps
  have hm:kT (fun x=>!p x) l j<(tP (fun x=>!p x) l j).length:=by rw [sG];have:=st2;omega
  have hb:kT (fun x=>!p x) l j*3+3≤(((tP (fun x=>!p x) l j).map Po.cells).flatten++cur).length:=by rw [Zg,iG hF,sG];omega
  have mO:=IE hF hm l[j] cur
  have hmn:kT (fun x=>!p x) l j<n:=by omega
  cases hq:p l[j] with
  | true =>
   obtain ⟨s1,s2⟩:=C1 (fun x=>!p x) l aL (by simp [hq])
   (refine JH rfl<|Jn<|bL (.of rfl) ?_;refine Jw<|Jj<|Jt<|Jg<|Jv rfl<|JB rfl (by omega)<|Ja rfl<|Jn ?_)
   apply aK (j+1) ⟨by omega,by omega⟩ (by omega)
   case hs1=>rw [s2];exact .cons rfl (.cons rfl (.cons rfl (.cons rfl .nil)))
   case ht=>rw [s1];exact .cons (.there .here) .nil
  | false =>
   obtain ⟨s1,s2⟩:=Eo (fun x=>!p x) l aL (by simp [hq])
   (refine JH rfl<|Jn<|cB (.of rfl) ?_;refine Jr<|Jv rfl<|Jv rfl<|ab (cz .here) rfl ?_;refine ab (az (.of rfl) (.of rfl) rfl (by omega) (by omega) ba) rfl ?_;refine aq (.of rfl) (.of rfl) (.there .here) rfl rfl (fh rfl rfl rfl) hb mO ?_;refine Jn<|Jg<|Jv rfl<|JB rfl (by omega)<|Ja rfl<|Jx<|Jj<|Jt<|Jg<|Jv rfl<|JB rfl (by omega)<|Ja rfl<|Jn ?_)
   apply aK (j+1) ⟨by omega,by omega⟩ (by omega)
   case hs1=>rw [s2];exact .cons rfl (.cons rfl (.cons rfl (.cons rfl .nil)))
   case ht=>rw [s1];exact .cons .here .nil
 ·obtain rfl:j=l.length:=by omega
  obtain ⟨a1,a2⟩:=Es (fun x=>!p x) l
  have hle:=mQ (fun x=>!p x) l (Nat.le_refl _)
  rw [a1,a2]
  rw [a2] at hle
  have hZ:=Eu hF (l.filter fun x=>!p x) (l.drop (l.filter fun x=>!p x).length) (List.replicate (n-(l.filter fun x=>!p x).length) [Value.int .i64 0,Value.string ⟨#[]⟩,Value.string ⟨#[]⟩]).flatten cur (by simp;omega)
  have Rw:(l.filter fun x=>!p x).length<l.length:=filter_lt sY (by rw [Ga];simp [N3])
  generalize (l.filter fun x=>!p x)=q at hle hZ Rw ⊢
  have V2:q.length<n:=by omega
  have Ry:q.length≤vc:=by omega
  have hfit:q.length*3+(n-q.length)*[Value.int .i64 0,Value.string ⟨#[]⟩,Value.string ⟨#[]⟩].length≤(((q++l.drop q.length).map Po.cells).flatten++cur).length:=by
   rw [Zg,iG hF,Zg,List.length_drop]
   simp only [List.length_cons,List.length_nil]
   omega
  refine Jq<|Jr<|Jv rfl<|Jv rfl<|JI rfl<|JA rfl<|Jn<|Jc rfl fun ar=>Jp<|Jl<|Jo<|Jt<|Jr<|Jv rfl<|Jv rfl<|ab (pD (.of rfl) (.of rfl) (by omega) (by omega)) rfl ?_
  rw [wW 3 V2 od]
  refine Aa (zs:=[Value.int .i64 0,Value.string ⟨#[]⟩,Value.string ⟨#[]⟩]) (z:=.agg #[.int .i64 0,.string ⟨#[]⟩,.string ⟨#[]⟩]) (.of rfl) .here rfl (fh rfl rfl rfl) hfit ?_
  rw [hZ]
  (refine Ji<|Jv rfl<|Jv rfl<|ab (gP (.of rfl) (.of rfl) (by omega) (by omega)) rfl ?_;refine Ja rfl<|Jn<|Je ?_)
  rw [wX]
  have uT:((q.map Po.cells).flatten++((List.replicate (n-q.length) [Value.int .i64 0,Value.string ⟨#[]⟩,Value.string ⟨#[]⟩]).flatten++cur)).length=vc*3:=by
   rw [← hsz,Zg,iG hF,Zg,Zg,← hn,hV,iG hF]
   have:(List.replicate (l.length-q.length) [Value.int .i64 0,Value.string ⟨#[]⟩,Value.string ⟨#[]⟩]).flatten.length=(l.length-q.length)*3:=by simp
   rw [this]
   omega
  refine c6 (n:=q.length) (sz:=3) (by exact .here) Ry zd uT (by rw [iG hF]) ?_
  skip
  first | with_reducible apply aM | with_reducible apply aN
  case he=>exact dp rfl rfl
  case hR=>
   intro w' au
   exact aB (.slice (some ⟨g,0,none⟩) q.length vc) trivial (show bo _ [row 188 3 (.slice (some ⟨g,0,none⟩) q.length vc) q.length (jf q)] _ by rw [hV];exact .cons .here .nil) au rfl
end Go.Proofs.A1
