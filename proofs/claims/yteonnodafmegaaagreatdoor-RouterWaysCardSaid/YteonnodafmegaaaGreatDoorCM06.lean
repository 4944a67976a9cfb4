/- Parts of the proof: GkRegM GkRegN GkStr GkBits GkArr KA KB KC GkClear GkFl KD. -/
import Derived.Test.YteonnodafmegaaaGreatDoorCM04
import Derived.Test.YteonnodafmegaaaGreatDoorCM03
import Derived.Laws.Strings
import Derived.Laws.BytesString
import Derived.Test.YteonnodafmegaaaGreatDoorCM01
import Derived.Laws.Entries
import Derived.Test.YteonnodafmegaaaGreatDoorCM05
set_option linter.unusedSectionVars false
set_option linter.unusedVariables false
set_option linter.unusedSimpArgs false
namespace Go.SL
open Go
def C5 (l:List Oper) (m p:Nat):Bool:=
 l.all mu&&uo l 0&&kQ l.toArray (l.take m) 0&&(List.range' m (l.length-m)).all (fun k=>(List.range m).all fun i=>Nat.beq i p||((iz l []).getD k 0).testBit i)&&Nat.ble m l.length
def C6 (l:List Oper) (m:Nat):Bool:=C5 l m m
structure GS (l:List Oper) (m p:Nat):Prop where
 op:∀ o∈l,mu o=true
 ac:uo l 0=true
 BA:kQ l.toArray (l.take m) 0=true
 tail:∀ k,m<=k->k<l.length->∀ i,i<m->i≠p->((iz l []).getD k 0).testBit i=true
 le:m<=l.length
theorem oQ {l:List Oper} {m p:Nat} (h:C5 l m p=true):GS l m p:=by
 simp only [C5,Bool.and_eq_true,List.all_eq_true] at h;obtain ⟨⟨⟨⟨h1,h2⟩,h3⟩,h5⟩,h6⟩:=h;refine ⟨h1,h2,h3,fun k hk aL i hi hne=>?_,by simpa using h6⟩;have:=h5 k (List.mem_range'_1.2 ⟨hk,by omega⟩) i (List.mem_range.2 hi);rw [Bool.or_eq_true] at this;exact this.resolve_left (by simpa using hne)
theorem gX {l:List Oper} {m p:Nat} (hc:GS l m p) {i j:Nat} {x y:Oper} (yR:i<j) (hj:j<m) (hx:l[i]? = some x) (hy:l[j]? = some y):qM l.toArray x y i=true:=by
 have:=nw hc.BA (i:=i) (j:=j) yR (by rw [List.getElem?_take,if_pos (by omega)];exact hx) (by rw [List.getElem?_take,if_pos hj];exact hy);simpa using this
theorem oR {l:List Oper} {m p:Nat} (hc:GS l m p) {listed:Array Bool} (hsz:listed.size=l.length) (xC:DC l (Ls listed)) {i:Nat} (hi:i∈Region.ready .any l.toArray listed) (hm:m<=i):∀ j,j<m->j≠p->Ls listed j:=by
 intro j hj XG;obtain ⟨o,ho,hn,hd⟩:=(dz hsz).1 hi;have aL:i<l.length:=(List.getElem?_eq_some_iff.1 ho).1;have DF:DC l (fun k=>k=i\/Ls listed k):=by
  intro k ok hk hL e he hb;rcases hL with e' | hL
  ·subst e';rw [ho] at hk;cases hk;exact .inr (hd e he hb)
  ·exact .inr (xC k ok hk hL e he hb)
 rcases gF DF hc.ac i aL (.inl rfl) j (hc.tail i hm aL j hj XG) with h | h
 ·omega
 ·exact h
structure cI where
 F:(Nat->Value)->Value
 A:(Nat->Value)->List a8
def ss (β:Nat->Value) (i:Nat) (x:Value):Nat->Value:=fun k=>if k=i then x else β k
theorem rn (β:Nat->Value) (i:Nat):ss β i (β i)=β:=by
 funext k;unfold ss;split
 ·rename_i h;rw [h]
 ·rfl
theorem gI (β:Nat->Value) (i:Nat) (x:Value):ss β i x i=x:=by unfold ss;rw [if_pos I]
theorem qF {β:Nat->Value} {i k:Nat} {x:Value} (h:k≠i):ss β i x k=β k:=by unfold ss;rw [if_neg h]
def sf (l:List Oper) (i k:Nat):Bool:=Nat.beq i k||((iz l []).getD i 0).testBit k
def dA (β:Nat->Value) (lst:Nat->Bool):List cI->Nat->List a8
 | [],_=>[]
 | s::S,i=>(if lst i then s.A β else [])++dA β lst S (i+1)
theorem fN {β β':Nat->Value} {lst nC:Nat->Bool}:∀ {S:List cI} {i:Nat},(∀ j s,S[j]? = some s->lst (i+j)=nC (i+j)/\(lst (i+j)=true->s.A β=s.A β'))->dA β lst S i=dA β' nC S i
 | [],_,_=>rfl
 | s :: S, i, h => by
  have h0:=h 0 s I;have ih:dA β lst S (i+1)=dA β' nC S (i+1):=fN fun j s' hj=>by have:=h (j+1) s' (by simpa using hj);rwa [show i+(j+1)=i+1+j from by omega] at this
  simp only [Nat.add_zero] at h0;unfold dA;rw [ih,<- h0.1];by_cases hl:lst i=true
  ·rw [if_pos hl,if_pos hl,h0.2 hl]
  ·rw [if_neg hl,if_neg hl]
theorem oP {β:Nat->Value} {lst nC:Nat->Bool} {k:Nat} {s:cI}:∀ {S:List cI} {i:Nat},S[k]? = some s->lst (i+k)=false->nC (i+k)=true->(∀ j,j≠i+k->nC j=lst j) ->
  (s.A β++dA β lst S i).Perm (dA β nC S i)
 | [],_,h,_,_,_=>by simp at h
 | s0 :: S, i, h, h1, h2, h3 => by
  cases k with
  | zero =>
   simp at h;subst h;have e:dA β lst S (i+1)=dA β nC S (i+1):=fN fun j s' hj=>⟨(h3 (i+1+j) (by omega)).symm,fun _=>rfl⟩
   simp only [Nat.add_zero] at h1 h2;unfold dA;rw [if_neg (by simp [h1]),if_pos h2,e];simp
  | succ k =>
   have ih:(s.A β++dA β lst S (i+1)).Perm (dA β nC S (i+1)):=by
    refine oP (k:=k) (by simpa using h) ?_ ?_ ?_
    all_goals rw [show i+1+k=i+(k+1) from by omega];assumption
   unfold dA;rw [h3 i (by omega)];refine List.Perm.trans ?_ (ih.append_left _);rw [<- Zh,<- Zh];exact List.perm_append_comm.append_right _
theorem oN {β:Nat->Value} {lst:Nat->Bool} {s:cI}:∀ {S:List cI} {i j:Nat},S[j]? = some s->lst (i+j)=true->(s.A β).Sublist (dA β lst S i)
 | [],_,j,h,_=>by simp at h
 | s0 :: S, i, 0, h, h1 => by
  simp at h;subst h;unfold dA;rw [Nat.add_zero] at h1;rw [if_pos h1];exact List.sublist_append_left _ _
 | s0 :: S, i, j + 1, h, h1 => by
  unfold dA;exact (oN (S:=S) (i:=i+1) (j:=j) (by simpa using h) (by rwa [show i+1+j=i+(j+1) from by omega])).trans (List.sublist_append_right _ _)
theorem ch.sublist {h:Nat->Option Obj} {l1 l2:List a8} (hs:l1.Sublist l2):∀ {fp:List Nat},ch h l2 fp->∃ lN:List Nat,ch h l1 lN/\lN.Sublist fp:=by
 induction hs with
 | slnil=>intro fp hf;exact ⟨fp,hf,List.Sublist.refl _⟩
 | cons A _ ih =>
  rintro fp ⟨f1,f2,rfl,_,h2⟩;obtain ⟨g,hg,iY⟩:=ih h2;exact ⟨g,hg,iY.trans (List.sublist_append_right _ _)⟩
 | cons_cons A _ ih =>
  rintro fp ⟨f1,f2,rfl,h1,h2⟩;obtain ⟨g,hg,iY⟩:=ih h2;exact ⟨f1++g,⟨f1,g,I,h1,hg⟩,(List.Sublist.refl f1).append iY⟩
theorem Mem.sublist {c:Cx} {l1 l2:List a8} {w:World} (h:Mem c l2 w) (hs:l1.Sublist l2):Mem c l1 w:=by
 obtain ⟨k,fp,hn,gQ,hb⟩:=h;obtain ⟨g,hg,iY⟩:=gQ.sublist hs;exact ⟨k,g,hn.sublist iY,hg,fun b dD=>hb b (iY.subset dD)⟩
def mB (P:Program) (o:Oper) (a:Act) (w:World) (K:Value->World->Prop):Prop:=
 match (execOp a.eval o).run P w with
 | .ok (.value v) w'=>K v w'
 | .ok (.enter f args) w'=>w'=w/\Calls P f args w (fun e uZ=>∃ v,e=.returned v/\K v uZ)
 | _=>False
section
variable {P:Program} {c:Cx} {D:List Nat} {sl:aI} {hs:List a8} {Q:Exit->Act->World->Prop} {l:List Oper} {m:Nat}
def js (c:Cx) (hs:List a8) (S:List cI) (B:List Nat) (β:Nat->Value) (w:World):Prop:=∀ A:List a8,(A=[]\/∃ j,j∈B/\∃ s,S[j]? = some s/\A=s.A β)->Mem c (A++hs) w
theorem js.mem {S:List cI} {B:List Nat} {β:Nat->Value} {w:World} (h:js c hs S B β w):Mem c hs w:=h [] (.inl I)
theorem js.at {S:List cI} {B:List Nat} {β:Nat->Value} {w:World} (h:js c hs S B β w) (j:Nat) {s:cI} (hj:j∈B) (hs':S[j]? = some s):Mem c (s.A β++hs) w:=h _ (.inr ⟨j,hj,s,hs',I⟩)
def OA (i:Nat) (s:cI) (β:Nat->Value) (w:World) (v:Value) (w':World):Prop:=∃ x,v=s.F (ss β i x)/\aD [] w w'/\∃ fp:List Nat,fp.Nodup/\ch (hp w') (s.A (ss β i x)) fp/\∀ b∈fp,w.heap.size<=b
def pC {α:Type} (l:List Oper) (i:Nat) (F:(Nat->Value)->α):Prop:=∀ β β',(∀ k,sf l i k=true->β k=β' k)->F β=F β'
structure Ea (P:Program) (c:Cx) (hs:List a8) (l:List Oper) (i:Nat) (o:Oper) (SL:(Nat->Value)->aI) (S:List cI) (s:cI):Prop where
 Ad:pC l i s.F
 Ae:pC l i s.A
 run:∃ B:List Nat,(∀ j∈B,eL o j=true)/\∀ β a w,bS (SL β) a->js c hs S B β w->if Region.wanted o (yielded l.toArray a.tmps)=true then mB P o a w (OA i s β w) else OA i s β w undef w
inductive tZ (P:Program) (c:Cx) (hs:List a8) (l:List Oper):Nat->List Oper->((Nat->Value)->aI)->List cI->List cI->((Nat->Value)->aI)->Prop
 | nil {i:Nat} {SL:(Nat->Value)->aI} {S:List cI}:tZ P c hs l i [] SL S S SL
 | step {i d:Nat} {o:Oper} {rest:List Oper} {SL lH:(Nat->Value)->aI} {S S':List cI} {s:cI} (hd:o.dst=some d) (fH:d<c.nt) (h:Ea P c hs l i o SL S s)
   (t:tZ P c hs l (i+1) rest (fun β=>(d,s.F β)::SL β) (S++[s]) S' lH):tZ P c hs l i (o::rest) SL S S' lH
def ng (sl:aI) (pre:List Oper) (SL:(Nat->Value)->aI) (S:List cI):Prop:=
 ∀ β t v,cJ (SL β) t=some v->(∃ (j:Nat) (oj:Oper) (s:cI),pre[j]? = some oj/\oj.dst=some t/\S[j]? = some s/\v=s.F β)\/((∀ oj∈pre,oj.dst≠some t)/\cJ sl t=some v)
theorem ng.step {pre:List Oper} {SL:(Nat->Value)->aI} {S:List cI} (h:ng sl pre SL S) (hl:S.length=pre.length) {o:Oper} {d:Nat} {s:cI} (hd:o.dst=some d):ng sl (pre++[o]) (fun β=>(d,s.F β)::SL β) (S++[s]):=by
 intro β t v hv;by_cases e:d=t
 ·subst e;rw [fR] at hv;cases hv;exact .inl ⟨pre.length,o,s,by simp,hd,by rw [<- hl];simp,I⟩
 ·rw [fQ e] at hv;rcases h β t v hv with ⟨j,oj,s',h1,h2,h3,h4⟩ | ⟨h1,h2⟩
  ·refine .inl ⟨j,oj,s',?_,h2,?_,h4⟩
   ·rw [List.getElem?_append_left (List.getElem?_eq_some_iff.1 h1).1];exact h1
   ·rw [List.getElem?_append_left (List.getElem?_eq_some_iff.1 h3).1];exact h3
  ·refine .inr ⟨fun oj Gl=>?_,h2⟩;rcases List.mem_append.1 Gl with Gl | Gl
   ·exact h1 oj Gl
   ·rw [List.mem_singleton.1 Gl,hd];simp [e]
theorem tZ.spec {i:Nat} {rest:List Oper} {SL lH:(Nat->Value)->aI} {S S':List cI} (h:tZ P c hs l i rest SL S S' lH):∀ pre:List Oper,pre.length=i->S.length=i->ng sl pre SL S ->
  S'.length=i+rest.length/\S <+: S'/\ng sl (pre++rest) lH S'/\∀ k o,i<=k->(pre++rest)[k]? = some o->∃ d Cr s,o.dst=some d/\d<c.nt/\S'[k]? = some s/\ng sl ((pre++rest).take k) Cr (S'.take k)/\Ea P c hs l k o Cr (S'.take k) s:=by
 induction h with
 | @nil i SL S =>
  intro pre hp hS j5;refine ⟨by simpa using hS,List.prefix_rfl,by simpa using j5,fun k o hk ho=>?_⟩;have:=(List.getElem?_eq_some_iff.1 ho).1;simp at this;omega
 | @step i d o rest SL lH S S' s hd fH a7 t ih =>
  intro pre hp hS j5;obtain ⟨h1,h2,h3,h4⟩:=ih (pre++[o]) (by simp [hp]) (by simp [hS]) (j5.step (by omega) hd);rw [Zh,List.singleton_append] at h3 h4;have Dz:S <+: S':=(List.prefix_append S [s]).trans h2;have qB:S'[i]? = some s:=by
   obtain ⟨r,rfl⟩:=h2;rw [Zh,List.getElem?_append_right (by omega),hS];simp
  have Yn:S'.take i=S:=by
   obtain ⟨r,rfl⟩:=Dz;rw [<- hS];simp
  refine ⟨by rw [h1];simp;omega,Dz,h3,fun k ok hk ho=>?_⟩;by_cases e:k=i
  ·subst e;have E0:ok=o:=by
    rw [List.getElem?_append_right (by omega),hp] at ho;simpa using ho.symm
   subst E0;have htk:(pre++ok::rest).take k=pre:=by rw [<- hp];simp
   rw [htk,Yn];exact ⟨d,SL,s,hd,fH,qB,j5,a7⟩
  ·exact h4 k ok (by omega) ho
structure OC (c:Cx) (D:List Nat) (hs:List a8) (l:List Oper) (m:Nat) (S:List cI) (a0:Act) (fuel:Nat) (listed:Array Bool) (a:Act) (w:World):Prop where
 sz:listed.size=l.length
 dc:DC l (Ls listed)
 hi:∀ k,m<=k->¬ Ls listed k
 defers:a.defers=D.map mark
 size:a.tmps.size=c.nt
 yF:∀ t,(∀ (j:Nat) (o:Oper),l[j]? = some o->Ls listed j->o.dst≠some t)->a.tmps[t]? = a0.tmps[t]?
 left:∃ U:List Nat,U.Nodup/\(∀ i,i∈U↔i<l.length/\¬ Ls listed i)/\U.length=fuel
 own:∃ β:Nat->Value,Mem c (dA β (fun i=>listed.getD i false) S 0++(hs++mC D)) w/\∀ (j:Nat) (o:Oper) (d:Nat) (s:cI),l[j]? = some o->o.dst=some d->S[j]? = some s->Ls listed j->a.tmps[d]? = some (s.F β)
def jB (n m:Nat):Array Bool:=(List.replicate m true++List.replicate (n-m) false).toArray
theorem wm {P:Program} {dst:Option Tmp} {x:Operand} {k:Nat} {ty:TypeId} {pos:String} {af:Array Edge} {ρ:Operand->Value} {w:World} {K:Value->World->Prop}
  (h:match (execOp ρ ⟨dst,.extract x k,ty,pos,af,none⟩).run P w with
   | .ok (.value v) w'=>K v w'
   | .ok (.enter f args) w'=>w'=w/\Calls P f args w (fun e uZ=>∃ v,e=.returned v/\K v uZ)
   | _=>False):∃ v,K v w/\∀ w2,(execOp ρ ⟨dst,.extract x k,ty,pos,af,none⟩).run P w2=.ok (.value v) w2:=by
 simp only [execOp] at h ⊢;generalize ρ x=u at h ⊢;cases u with
 | tuple vs =>
  simp only [Instr.extract] at h ⊢;cases hv:vs[k]? with
  | none=>simp [hv] at h
  | some v=>simp [hv] at h ⊢;exact h
 | _=>simp [Instr.extract] at h
def wM (l:List Oper) (p:Nat):Prop:=∃ d x k ty pos af,l[p]? = some ⟨some d,.extract x k,ty,pos,af,none⟩/\Region.noSelect l.toArray=true/\Region.free .any l.toArray ((List.range l.length).map fun j=>((iz l []).getD p 0).testBit j).toArray p=true
theorem sU {ops:Array Oper} {l1 l2:Array Bool} {i:Nat} (h:Region.free .any ops l1 i=true) (hle:∀ j,j<ops.size->j≠i->l1.getD j true=true->l2.getD j true=true):Region.free .any ops l2 i=true:=by
 unfold Region.free at h ⊢;cases hi:ops[i]? with
 | none=>rw [hi] at h;cases h
 | some oi =>
  rw [hi] at h;simp only [List.all_eq_true,List.mem_range] at h ⊢;intro j hj;have h1:=h j hj;simp only [Bool.or_eq_true] at h1 ⊢;rcases h1 with (h1 | h1) | h1
  ·exact .inl (.inl h1)
  ·by_cases e:j=i
   ·exact .inl (.inl (by simp [e]))
   ·exact .inl (.inr (hle j hj e h1))
  ·exact .inr h1
theorem sF {l:List Oper} (SN:uo l 0=true) {listed:Array Bool} (hsz:listed.size=l.length) (xC:DC l (Ls listed)) {i:Nat} (hi:i∈Region.ready .any l.toArray listed) {j:Nat} (Yd:((iz l []).getD i 0).testBit j=true):j=i\/Ls listed j:=by
 obtain ⟨o,ho,hn,hd⟩:=(dz hsz).1 hi;have aL:i<l.length:=(List.getElem?_eq_some_iff.1 ho).1;have DF:DC l (fun k=>k=i\/Ls listed k):=by
  intro k ok hk hL e he hb;rcases hL with e' | hL
  ·subst e';rw [ho] at hk;cases hk;exact .inr (hd e he hb)
  ·exact .inr (xC k ok hk hL e he hb)
 exact gF DF SN i aL (.inl I) j Yd
theorem Qt {p:Nat} (hc:GS l m p) (Dz:p<m->wM l p) (SQ:∀ c a w,¬ Q (.panic c) a w) {S:List cI} {lH:(Nat->Value)->aI} (Re:tZ P c hs l 0 (l.take m) (fun _=>sl) [] S lH) {a0:Act} (h0:bS sl a0) (Gm:a0.tmps.size=c.nt)
  (tail:∀ β a w,St c D (lH β) (dA β (fun _=>true) S 0++hs) a w->wpAnyIn (FR none) 0 P .any l.toArray Q (l.length-m) (jB l.length m) a w) :
  ∀ (fuel:Nat) (listed:Array Bool) (a:Act) (w:World),OC c D hs l m S a0 fuel listed a w->wpAnyIn (FR none) 0 P .any l.toArray Q fuel listed a w:=by
 have hle:=hc.le;have Gj:ng sl [] (fun _=>sl) []:=fun β t v hv=>.inr ⟨fun oj h=>(List.not_mem_nil h).elim,hv⟩
 obtain ⟨wg,_,j5,eI⟩:=Re.spec (sl:=sl) [] rfl rfl Gj;rw [Za] at j5 eI;rw [Nat.zero_add,List.length_take,Nat.min_eq_left hle] at wg;have dI:∀ (j:Nat) (o:Oper),j<m->l[j]? = some o->(l.take m)[j]? = some o:=fun j o hj ho=>by rw [List.getElem?_take,if_pos hj];exact ho
 have eZ:∀ (j:Nat) (o:Oper),(l.take m)[j]? = some o->j<m/\l[j]? = some o:=fun j o ho=>by
  rw [List.getElem?_take] at ho;split at ho
  ·exact ⟨by assumption,ho⟩
  ·cases ho
 have Ki:∀ j,j<m->∃ s,S[j]? = some s:=fun j hj=>⟨S[j]'(by omega),Zc (by omega)⟩
 have lk:∀ fuel listed a w,OC c D hs l m S a0 fuel listed a w->(∀ i,i<m->Ls listed i)->wpAnyIn (FR none) 0 P .any l.toArray Q fuel listed a w:=by
  intro fuel listed a w hI dC;have hL:∀ i,i<l.length->(Ls listed i↔i<m):=fun i _=>⟨fun h=>Nat.lt_of_not_le fun hm=>hI.hi i hm h,dC i⟩
  obtain ⟨U,tS,nX,qm⟩:=hI.left;have gZ:U.Perm (List.range' m (l.length-m)):=by
   rw [List.perm_ext_iff_of_nodup tS (List.nodup_range')];intro i;rw [nX i,List.mem_range'_1];constructor
   ·rintro ⟨h1,h2⟩;exact ⟨Nat.le_of_not_lt fun h=>h2 (dC i h),by omega⟩
   ·rintro ⟨h1,h2⟩;exact ⟨by omega,hI.hi i h1⟩
  have hlen:fuel=l.length-m:=by rw [<- qm,gZ.length_eq,List.length_range']
  have DB:listed=jB l.length m:=by
   have sP:(jB l.length m).size=l.length:=by simp [jB];omega
   apply Array.ext
   ·rw [hI.sz,sP]
   ·intro i h1 h2;rw [hI.sz] at h1;have h3:=hL i h1;unfold Ls at h3;rw [Array.getD_eq_getD_getElem?,Array.getElem?_eq_getElem (by rw [hI.sz];exact h1),Option.getD_some] at h3;have h4:(jB l.length m)[i]=decide (i<m):=by
     simp only [jB,List.getElem_toArray];by_cases hi:i<m
     ·rw [List.getElem_append_left (by simpa using hi)];simp [hi]
     ·rw [List.getElem_append_right (by simpa using hi)];simp [hi]
    rw [h4];by_cases hi:i<m
    ·rw [h3.2 hi];simp [hi]
    ·have:¬ listed[i]=true:=fun h=>hi (h3.1 h)
     simp [hi,this]
  subst hlen;rw [DB];obtain ⟨β,hm,jS⟩:=hI.own;have e:dA β (fun i=>listed.getD i false) S 0=dA β (fun _=>true) S 0:=fN fun j s hj=>by
   have gm:j<m:=by have:=(List.getElem?_eq_some_iff.1 hj).1;omega
   rw [Nat.zero_add];exact ⟨dC j gm,fun _=>rfl⟩
  rw [e] at hm;refine tail β a w ⟨by rw [Zh];exact hm,fun t v hv=>?_,hI.size,hI.defers⟩;rcases j5 β t v hv with ⟨j,oj,s,h1,h2,h3,h4⟩ | ⟨h1,h2⟩
  ·obtain ⟨gm,kH⟩:=eZ j oj h1;rw [h4];exact jS j oj t s kH h2 h3 (dC j gm)
  ·rw [hI.yF t fun j oj hj iG=>h1 oj (List.mem_of_getElem? (dI j oj (Nat.lt_of_not_le fun hm=>hI.hi j hm iG) hj))]
   exact h0 t v h2
 intro fuel
 induction fuel with
 | zero =>
  intro listed a w hI;obtain ⟨U,_,nX,qm⟩:=hI.left;have hU:U=[]:=List.length_eq_zero_iff.1 qm;refine lk 0 listed a w hI fun i hi=>Classical.byContradiction fun hn=>?_;have:=(nX i).2 ⟨by omega,hn⟩;rw [hU] at this;cases this
 | succ fuel ih =>
  intro listed a w hI;by_cases dC:∀ i,i<m->Ls listed i
  ·exact lk _ listed a w hI dC
  ·have hex:∃ i,i<m/\¬ Ls listed i:=Classical.byContradiction fun hh=>dC fun i hi=>Classical.byContradiction fun hn=>hh ⟨i,hi,hn⟩
   obtain ⟨i0,pW,mV⟩:=hex;have main:∀ i,i∈Region.ready .any l.toArray listed->i<m->wpOpIn (FR none) 0 P l.toArray Q i (wpAnyIn (FR none) 0 P .any l.toArray Q fuel (listed.setIfInBounds i true)) a w/\(i=p->wpAnyIn (FR none) 0 P .any l.toArray Q (fuel+1) listed a w):=by
    intro i hi mz;obtain ⟨o,ho,hn,ko⟩:=(dz hI.sz).1 hi;obtain ⟨d,Cr,s,hd,fH,qB,o8,dU⟩:=eI i o (Zi _) (dI i o mz ho);obtain ⟨Ad,Ae,B,hB,gA⟩:=dU;obtain ⟨β,hm,jS⟩:=hI.own;have jJ:∀ (j:Nat),eL o j=true->Ls listed j:=fun j hw=>by
     obtain ⟨e,he,hb,mU⟩:=cH hw;rw [<- mU];exact ko e he hb
    have nR:∀ (j:Nat) (oj:Oper) (e:Nat),l[j]? = some oj->j<m->j≠i->oj.dst=some e->d≠e:=by
     intro j oj e hj gm hne he;rcases Nat.lt_or_ge j i with h | h
     ·exact fun e'=>(cO (gX hc h mz hj ho) he hd).1 e'.symm
     ·exact (cO (gX hc (show i<j by omega) gm ho hj) hd he).1
    have il:i<listed.size:=by rw [hI.sz];omega
    have Ah:mu o=true:=hc.op o (List.mem_of_getElem? ho)
    -- yf cP Me yf operation looks at
    have hT:∀ t∈o.looksAt l.toArray,∀ v,cJ (Cr β) t=some v->a.tmps[t]? = some v:=by
     intro t ht v hv;rcases o8 β t v hv with ⟨j,oj,sj,h1,h2,h3,h4⟩ | ⟨h1,h2⟩
     ·have kT:j<i:=by have:=(List.getElem?_eq_some_iff.1 h1).1;rw [List.length_take] at this;omega
      rw [List.getElem?_take,if_pos kT] at h1 h3;obtain ⟨gm,kH⟩:=eZ j oj h1;have iG:=jJ j ((cO (gX hc kT mz kH ho) h2 hd).2 (.inl ht));rw [h4];exact jS j oj t sj kH h2 h3 iG
     ·rw [hI.yF t fun j oj hj iG iF=>?_]
      ·exact h0 t v h2
      ·have gm:j<m:=Nat.lt_of_not_le fun hm=>hI.hi j hm iG
       rcases Nat.lt_trichotomy j i with h | h | h
       ·exact h1 oj (List.mem_of_getElem? (by rw [List.getElem?_take,if_pos h];exact dI j oj gm hj)) iF
       ·subst h;exact hn iG
       ·have hw:=(cO (gX hc h gm ho hj) hd iF).2 (.inr ht);obtain ⟨e,he,hb,mU⟩:=cH hw;have:=hI.dc j oj hj iG e he hb;rw [mU] at this;exact hn this
    have sR:∀ t v,cJ (Cr β) t=some v->t<c.nt:=by
     intro t v hv;rcases o8 β t v hv with ⟨j,oj,sj,h1,h2,_,_⟩ | ⟨_,h2⟩
     ·have kT:j<i:=by have:=(List.getElem?_eq_some_iff.1 h1).1;rw [List.length_take] at this;omega
      rw [List.getElem?_take,if_pos kT] at h1;obtain ⟨d',_,_,ug,vW,_⟩:=eI j oj (Zi _) h1;rw [h2] at ug;cases ug;exact vW
     ·have:=h0 t v h2;rw [<- Gm];exact (Array.getElem?_eq_some_iff.1 this).1
    obtain ⟨a',kK,iT,_⟩:=mW hI.size sR hT;have sT:js c hs (S.take i) B β w:=by
     rintro A (rfl | ⟨j,hj,sj,h1,rfl⟩)
     ·exact hm.sublist ((List.sublist_append_left _ _).trans (List.sublist_append_right _ _))
     ·have kT:j<i:=by have:=(List.getElem?_eq_some_iff.1 h1).1;rw [List.length_take] at this;omega
      rw [List.getElem?_take,if_pos kT] at h1;have iG:=jJ j (hB j hj);exact hm.sublist ((oN (lst:=fun i=>listed.getD i false) (i:=0) h1 (by rw [Nat.zero_add];exact iG)).append (List.sublist_append_left _ _))
    have hq:=gA β a' w kK sT;have hex:=gR (o:=o) (ops:=l.toArray) Ah iT
    -- LR a done operation Qh RZ not RF on this one
    have l5:∀ j,Ls listed j->∀ x k,sf l j k=true->β k=ss β i x k:=by
     intro j iG x k hk;refine (qF fun e=>?_).symm;subst e;unfold sf at hk;rw [Bool.or_eq_true] at hk;rcases hk with hk | hk
     ·have:j=k:=by simpa using hk
      subst this;exact hn iG
     ·have Nz:j<l.length:=by
       have gm:j<m:=Nat.lt_of_not_le fun hm=>hI.hi j hm iG
       omega
      exact hn (gF hI.dc hc.ac j Nz iG k hk)
    have fT:∀ v w',OA i s β w v w'->wpAnyIn (FR none) 0 P .any l.toArray Q fuel (listed.setIfInBounds i true) (a.put o.dst v) w':=by
     rintro v w' ⟨x,rfl,hk,fp,jf,gQ,pX⟩;refine ih _ _ _ ⟨by simpa using hI.sz,?_,?_,by rw [hd];exact hI.defers,by simpa [Act.put,hd] using hI.size,?_,?_,ss β i x,?_,?_⟩
     ·intro k ok pV hL e he hb;rw [bP il] at hL ⊢;rcases hL with e' | hL
      ·subst e';rw [ho] at pV;cases pV;exact .inr (ko e he hb)
      ·exact .inr (hI.dc k ok pV hL e he hb)
     ·intro k pV hL;rw [bP il] at hL;rcases hL with e | hL
      ·omega
      ·exact hI.hi k pV hL
     ·intro t ht;have h1:d≠t:=fun e=>by subst e;exact ht i o ho ((bP il).2 (.inl rfl)) hd
      rw [hd];simp only [Act.put,Array.getElem?_setIfInBounds_ne h1];exact hI.yF t fun j oj hj hL=>ht j oj hj ((bP il).2 (.inr hL))
     ·obtain ⟨U,tS,nX,qm⟩:=hI.left;refine ⟨U.erase i,tS.erase i,fun k=>?_,?_⟩
      ·rw [tS.mem_erase_iff,nX k,bP il];constructor
       ·rintro ⟨h1,h2,h3⟩;exact ⟨h2,fun h=>h.elim h1 h3⟩
       ·rintro ⟨h1,h2⟩;exact ⟨fun e=>h2 (.inl e),h1,fun h=>h2 (.inr h)⟩
      ·have NA:i∈U:=(nX i).2 ⟨by omega,hn⟩;rw [List.length_erase_of_mem NA,qm];rfl
     ·have k9:Mem c (s.A (ss β i x)++(dA β (fun i=>listed.getD i false) S 0++(hs++mC D))) w':=Mem.Pn (As:=[]) hm fun oe _ hf=>by
       rw [show oe=[] from hf];exact ⟨hk,fp,jf,gQ,fun b hb=>.inr (pX b hb)⟩
      have e1:dA β (fun i=>listed.getD i false) S 0=dA (ss β i x) (fun i=>listed.getD i false) S 0:=fN fun j sj hj=>by
       refine ⟨I,fun hl=>?_⟩;rw [Nat.zero_add] at hl;have gm:j<m:=by have:=(List.getElem?_eq_some_iff.1 hj).1;omega
       obtain ⟨oj,Gl⟩:∃ oj,l[j]? = some oj:=⟨l[j]'(by omega),Zc (by omega)⟩;obtain ⟨_,_,s2,_,_,hs2,_,pe⟩:=eI j oj (Zi _) (dI j oj gm Gl);rw [hj] at hs2;cases hs2;exact pe.Ae _ _ (l5 j hl x)
      rw [e1,<- Zh] at k9;refine k9.perm ((oP (k:=i) qB ?_ ?_ ?_).append_right _)
      ·rw [Nat.zero_add];show listed.getD i false=false;have:¬ listed.getD i false=true:=hn;simpa using this
      ·rw [Nat.zero_add];exact (bP il).2 (.inl I)
      ·intro j hj;rw [Nat.zero_add] at hj;simp [Array.getD_eq_getD_getElem?,Array.getElem?_setIfInBounds_ne (Ne.symm hj)]
     ·intro j oj e sj hj he jA hL;rw [bP il] at hL;by_cases kT:j=i
      ·subst kT;rw [ho] at hj;cases hj;rw [hd] at he;cases he;rw [qB] at jA;cases jA;rw [hd];simp [Act.put,hI.size,fH]
      ·have w7:=hL.resolve_left kT;have gm:j<m:=Nat.lt_of_not_le fun hm=>hI.hi j hm w7
       obtain ⟨_,_,s2,_,_,hs2,_,pe⟩:=eI j oj (Zi _) (dI j oj gm hj);rw [jA] at hs2;cases hs2;rw [hd];simp only [Act.put,Array.getElem?_setIfInBounds_ne (nR j oj e hj gm kT he)];rw [<- pe.Ad _ _ (l5 j w7 x)];exact jS j oj e sj hj he jA w7
    have GY:=hq;refine ⟨?_,fun Rm=>?_⟩
    rotate_left
    ·subst Rm;obtain ⟨d',x',k',S7,pos',Vn,tL,I7,eJ⟩:=Dz mz;rw [ho] at tL;cases tL;rw [if_pos (by simp [Region.wanted])] at GY;unfold mB at GY;obtain ⟨v,hv,wc⟩:=wm GY;have pX:Region.free .any l.toArray listed i=true:=sU eJ fun j hj hne hb=>by
      have kH:j<l.length:=by simpa using hj
      have dD:((iz l []).getD i 0).testBit j=true:=by
       rw [Array.getD_eq_getD_getElem?] at hb;simpa [kH] using hb
      have Uq:j<listed.size:=by rw [hI.sz];exact kH
      rcases sF hc.ac hI.sz hI.dc hi dD with e | hL
      ·exact absurd e hne
      ·unfold Ls at hL;rw [Array.getD_eq_getD_getElem?,Array.getElem?_eq_getElem Uq] at hL ⊢;exact hL
     refine wpAnyIn_take (oi:=⟨some d',.extract x' k',S7,pos',Vn,none⟩) (v:=v) I (by simpa using ho) I7 pX (by simpa using hi) (fun c a w h=>(SQ c _ w h).elim) ⟨.inl ⟨by simp [Region.wanted],fun w2=>by rw [<- hex];exact wc w2⟩,fun w2=>rfl⟩ (fT v w hv)
    unfold wpOpIn;rw [show l.toArray[i]? = some o from by simpa using ho];simp only [];rw [gn iT] at hq;split
    ·rename_i hw;rw [if_pos hw] at hq;refine ⟨dO _ _ _ _ _,?_⟩;rw [Oper.semAt_eq _ _ _ (fun cc he=>by simp [mu,he] at Ah),<- hex]
     unfold mB at hq
     revert hq
     generalize (execOp a'.eval o).run P w=res;intro hq
     match res,hq with
     | .ok (.value v) w',hq=>exact fT v w' hq
     | .ok (.enter f args) w', ⟨e, cn⟩ =>
      subst e;refine ⟨by simp [FR,Fence.wide],(gT cn).mono fun e uZ h=>?_⟩;obtain ⟨v,rfl,hq⟩:=h;exact fT v uZ hq
    ·rename_i hw;rw [if_neg hw] at hq;exact ⟨fun _ _=>trivial,fT undef w hq⟩
   by_cases hp:p<m/\p∈Region.ready .any l.toArray listed
   ·exact (main p hp.2 hp.1).2 I
   ·refine ⟨fun hr=>?_,fun i hi=>?_⟩
    ·obtain ⟨i,hi⟩:=iA hI.sz hc.ac ⟨i0,by omega,mV⟩;rw [hr] at hi;cases hi
    ·have mz:i<m:=Nat.lt_of_not_le fun hm=>by
      have E1:=oR hc hI.sz hI.dc hi hm;by_cases CB:p<m
      ·by_cases Pk:Ls listed p
       ·exact mV (by
         by_cases e:i0=p
         ·rw [e];exact Pk
         ·exact E1 i0 pW e)
       ·refine hp ⟨CB,(dz hI.sz).2 ⟨l[p]'(by omega),Zc (by omega),Pk,fun e he hb=>?_⟩⟩;have aL:=iR hc.ac (Zc (show p<l.length by omega)) e he hb;exact E1 e.on (by omega) (by omega)
      ·exact mV (E1 i0 pW (by omega))
     exact (main i hi mz).1
def pD (P:Program) (c:Cx) (D:List Nat) (hs:List a8) (l:List Oper) (Q:Exit->Act->World->Prop) (m i n:Nat) (rest:List Oper) (SL:(Nat->Value)->aI) (S:List cI):Prop:=
 ∃ S' lH,tZ P c hs l i (rest.take n) SL S S' lH/\∀ β,Tr c D (lH β) (dA β (fun _=>true) S' 0++hs) (Left P l.toArray Q (l.length-m) (jB l.length m))
theorem fc {id:Nat} (m:Nat) [pf:PO P] (jk:C6 l m=true) (k:pD P c D hs l Q m 0 m l (fun _=>sl) []):Tr c D sl hs (WP P none (.region id l.toArray true) Q):=fun a w a7=>by
 obtain ⟨S,lH,hp,ht⟩:=k;have h:(Code.region id l.toArray true).wpIn (FR none) 0 P (NP Q) a w:=wpIn_region_any pf.eq (by
  refine Qt (p:=m) (oQ jk) (fun h=>absurd h (Nat.lt_irrefl _)) (fun c a w h=>h.elim) hp a7.cP a7.size (fun β a w a7=>ht β a w a7) l.toArray.size _ _ _ ⟨by simp,?_,?_,a7.defers,a7.size,fun t _=>rfl,?_,fun _=>undef,?_,?_⟩
  ·exact fun k o _ hL=>absurd hL (ei _ _)
  ·exact fun k _ hL=>ei _ _ hL
  ·exact ⟨List.range l.length,List.nodup_range,fun i=>⟨fun h=>⟨by simpa using h,ei _ _⟩,fun h=>by simpa using h.1⟩,by simp⟩
  ·have e:∀ (T:List cI) (i:Nat),dA (fun _=>undef) (fun i=>(Array.replicate l.toArray.size false).getD i false) T i=[]:=by
    intro T
    induction T with
    | nil=>intro i;rfl
    | cons s T ih =>
     intro i;have:=ei l.toArray.size i;unfold Ls at this;unfold dA;rw [if_neg this,ih];rfl
   rw [e];exact a7.mem.drew
  ·exact fun j o d s _ _ _ hL=>absurd hL (ei _ _))
 exact wpIn_mono h fun e a' w' h=>by
  cases e with
  | panic c=>exact h.elim
  | _=>exact h
end
end Go.SL
namespace Go.SL
open Go
def eM:Value->Nat
 | .int _ n=>n.toNat
 | _=>0
theorem kV (b:Nat):eM (.int .i64 (b:Int))=b:=by simp [eM]
def w8:Value->Option Addr×Nat
 | .slice a _ c=>(a,c)
 | _=>(none,0)
def fK (β:Nat->Value):List cI->List a8
 | []=>[]
 | s::S=>s.A β++fK β S
theorem Bw (β:Nat->Value):∀ (S:List cI) (i:Nat),dA β (fun _=>true) S i=fK β S
 | [],_=>rfl
 | s::S,i=>by rw [dA,fK,if_pos rfl,Bw β S]
section
variable {P:Program} {c:Cx} {D:List Nat} {sl:aI} {hs hs':List a8} {X:Act->World->Prop} {Q:Exit->Act->World->Prop} {l:List Oper} {m i n d:Nat} {op:Op} {ty:TypeId} {pos:String} {af:Array Edge} {rest:List Oper} {SL:(Nat->Value)->aI} {S:List cI}
theorem fX (l:List Oper) (i:Nat):sf l i i=true:=by simp [sf]
theorem sg {o:Oper} {s:cI} (hd:o.dst=some d) (fH:Nat.blt d c.nt=true) (h:Ea P c hs l i o SL S s) (k:pD P c D hs l Q m (i+1) n rest (fun β=>(d,s.F β)::SL β) (S++[s])):pD P c D hs l Q m i (n+1) (o::rest) SL S:=by
 obtain ⟨S',lH,hp,ht⟩:=k;exact ⟨S',lH,.step hd (by simpa [Nat.blt_eq] using fH) h hp,ht⟩
theorem dh {dst:Option Tmp} {j gs:Nat} {want:Bool} (hj:((l.toArray[j]?).bind (·.dst))=some gs) (hq:∀ β,cJ (SL β) gs=some (.bool want))
  (k:pD P c D hs l Q m i (n+1) (⟨dst,op,ty,pos,af,none⟩::rest) SL S):pD P c D hs l Q m i (n+1) (⟨dst,op,ty,pos,af,some (j,want)⟩::rest) SL S:=by
 obtain ⟨S',lH,hp,ht⟩:=k;refine ⟨S',lH,?_,ht⟩;cases hp with
 | step hd fH h t =>
  obtain ⟨h1,h2,B,hB,hr⟩:=h;refine .step hd fH ⟨h1,h2,B,hB,fun β a w hs1 hb=>?_⟩ t;have:=hr β a w hs1 hb;rw [if_pos (by simp [Region.wanted])] at this;rw [k7 (o:=⟨dst,op,ty,pos,af,some (j,want)⟩) (c0:=true) I hj hs1 (by rw [hq β];rfl),if_pos (by simp)];exact this
theorem dS {j gs:Nat} {want:Bool} {v:Value} (hj:((l.toArray[j]?).bind (·.dst))=some gs) (hq:∀ β,cJ (SL β) gs=some v) (hv:v=undef\/v=.bool (!want)) (hd:Nat.blt d c.nt=true)
  (k:pD P c D hs l Q m (i+1) n rest (fun β=>(d,undef)::SL β) (S++[⟨fun _=>undef,fun _=>[]⟩])):pD P c D hs l Q m i (n+1) (⟨some d,op,ty,pos,af,some (j,want)⟩::rest) SL S:=
 sg (s:=⟨fun _=>undef,fun _=>[]⟩) I hd ⟨fun _ _ _=>rfl,fun _ _ _=>rfl,[],by simp,fun β a w h1 h2=>by
  have hw:∃ c0 q,gv c0 (.bool q)=v/\(c0&&(q==want))=false:=by
   rcases hv with e | e
   ·exact ⟨false,want,by rw [e];rfl,I⟩
   ·exact ⟨true,!want,by rw [e];rfl,by cases want <;> rfl⟩
  obtain ⟨c0,q,e,SJ⟩:=hw;rw [k7 (o:=⟨some d,op,ty,pos,af,some (j,want)⟩) (c0:=c0) (q:=q) I hj h1 (by rw [hq β,e]),if_neg (by simpa using SJ)];exact ⟨β i,I,.refl _ _,[],List.nodup_nil,I,by simp⟩⟩ k
theorem ic (k:∀ β,Tr c D (SL β) (fK β S++hs) (Left P l.toArray Q (l.length-m) (jB l.length m))):pD P c D hs l Q m i 0 rest SL S:=
 ⟨S,SL,.nil,fun β=>by rw [Bw];exact k β⟩
theorem aH {F:(Nat->Value)->Value} (hr:∀ β,cQ P c (SL β) hs ⟨some d,op,ty,pos,af,none⟩ (F β)) (hi:pC l i F) (hd:Nat.blt d c.nt=true) (k:pD P c D hs l Q m (i+1) n rest (fun β=>(d,F β)::SL β) (S++[⟨F,fun _=>[]⟩])) :
  pD P c D hs l Q m i (n+1) (⟨some d,op,ty,pos,af,none⟩::rest) SL S:=
 sg (s:=⟨F,fun _=>[]⟩) I hd ⟨hi,fun _ _ _=>rfl,[],by simp,fun β a w h1 h2=>by
  rw [if_pos (by simp [Region.wanted])];unfold mB;rw [(hr β).2 a w h1 h2.mem];exact ⟨β i,by rw [rn],.refl _ _,[],List.nodup_nil,I,by simp⟩⟩ k
theorem cV {f:FuncId} {args:(Nat->Value)->List Value} {F:(Nat->Value)->Value} (B:List Nat) (hB:(B.all fun j=>eL ⟨some d,op,ty,pos,af,none⟩ j)=true) (hr:∀ β,lR P (SL β) ⟨some d,op,ty,pos,af,none⟩ f (args β)) (hi:pC l i F) (hd:Nat.blt d c.nt=true)
  (hc:∀ β w,js c hs S B β w->aj P f (args β) w (F β)) (k:pD P c D hs l Q m (i+1) n rest (fun β=>(d,F β)::SL β) (S++[⟨F,fun _=>[]⟩])) :
  pD P c D hs l Q m i (n+1) (⟨some d,op,ty,pos,af,none⟩::rest) SL S:=
 sg (s:=⟨F,fun _=>[]⟩) I hd ⟨hi,fun _ _ _=>rfl,B,fun j hj=>List.all_eq_true.1 hB j hj,fun β a w h1 h2=>by
  rw [if_pos (by simp [Region.wanted])];unfold mB;rw [(hr β).2 a w h1];exact ⟨I,(hc β w h2).mono fun e w' ⟨he,hk⟩=>⟨F β,he,β i,by rw [rn],hk,[],List.nodup_nil,I,by simp⟩⟩⟩ k
theorem im {ι:Type} {Φ:ι->Prop} {val:ι->Value} {own:ι->List a8} (g:Value->ι) (hg:∀ x,∃ v,g v=x) {f:FuncId} {args:(Nat->Value)->List Value} (B:List Nat) (hB:(B.all fun j=>eL ⟨some d,op,ty,pos,af,none⟩ j)=true)
  (hr:∀ β,lR P (SL β) ⟨some d,op,ty,pos,af,none⟩ f (args β)) (hd:Nat.blt d c.nt=true) (hc:∀ β w,js c hs S B β w->bh P f (args β) w [] Φ val own)
  (k:pD P c D hs l Q m (i+1) n rest (fun β=>(d,val (g (β i)))::SL β) (S++[⟨fun β=>val (g (β i)),fun β=>own (g (β i))⟩])) :
  pD P c D hs l Q m i (n+1) (⟨some d,op,ty,pos,af,none⟩::rest) SL S:=
 sg (s:=⟨fun β=>val (g (β i)),fun β=>own (g (β i))⟩) I hd ⟨fun β β' h=>by simp only [h i (fX l i)],fun β β' h=>by simp only [h i (fX l i)],B,fun j hj=>List.all_eq_true.1 hB j hj,fun β a w h1 h2=>by
  rw [if_pos (by simp [Region.wanted])];unfold mB;rw [(hr β).2 a w h1];refine ⟨I,(hc β w h2).mono fun e w' ⟨x,he,_,hk,fp,hn,hs',hf⟩=>?_⟩;obtain ⟨v,hv⟩:=hg x;refine ⟨val x,he,v,by simp only [gI,hv],hk,fp,hn,by simp only [gI,hv];exact hs',fun b hb=>?_⟩;rcases hf b hb with h | h
  ·cases h
  ·exact h⟩ k
theorem nN {V:Nat->Value} {ob:(Nat->Value)->Obj} (hr:∀ β,qp P c (SL β) hs ⟨some d,op,ty,pos,af,none⟩ V (ob β)) (hi:∀ β β',(∀ k,k≠i->sf l i k=true->β k=β' k)->ob β=ob β') (hd:Nat.blt d c.nt=true)
  (k:pD P c D hs l Q m (i+1) n rest (fun β=>(d,V (eM (β i)))::SL β) (S++[⟨fun β=>V (eM (β i)),fun β=>[bC (eM (β i)) (ob β)]⟩])) :
  pD P c D hs l Q m i (n+1) (⟨some d,op,ty,pos,af,none⟩::rest) SL S:=
 sg (s:=⟨fun β=>V (eM (β i)),fun β=>[bC (eM (β i)) (ob β)]⟩) I hd ⟨fun β β' h=>by simp only [h i (fX l i)],fun β β' h=>by simp only [h i (fX l i),hi β β' fun k _ hk=>h k hk],[],by simp,fun β a w h1 h2=>by
  rw [if_pos (by simp [Region.wanted])];unfold mB;rw [(hr β).2 a w h1 h2.mem];have e:ob (ss β i (.int .i64 (w.heap.size:Int)))=ob β:=hi _ _ fun k hk _=>qF hk
  exact ⟨.int .i64 (w.heap.size:Int),by simp only [gI,kV],.alloc _ _ _,[w.heap.size],by simp,⟨[w.heap.size],[],I,⟨by simp only [gI,kV],by simp only [gI,kV];rw [e];exact World.alloc_heap_new w (ob β)⟩,I⟩,by simp⟩⟩ k
end
end Go.SL
namespace Go.SL
open Go
section
variable {P:Program} {c:Cx} {sl:aI} {hs:List a8} {dst:Option Tmp} {ty:TypeId} {pos:String} {af:Array Edge} {g:Option (Nat×Bool)}
theorem ee {x:Operand} {a:Addr} (hx:Is sl x (.pointer (some a))):cQ P c sl hs ⟨dst,.nilCheck x,ty,pos,af,g⟩ (.pointer (some a)):=
 ⟨by simp,fun ac w ha _=>by simp [execOp,hx ac ha]⟩
end
section
variable {P:Program} {c:Cx} {D:List Nat} {hs:List a8} {Q:Exit->Act->World->Prop} {l:List Oper} {m i n d:Nat} {op:Op} {ty:TypeId} {pos:String} {af:Array Edge} {rest:List Oper} {SL:(Nat->Value)->aI} {S:List cI}
theorem dM {v:Value}:pC l i (fun _=>v):=fun _ _ _=>rfl
end
section
variable {P:Program} {c:Cx} {D:List Nat} {sl:aI} {hs:List a8} {Q:Exit->Act->World->Prop} {ops:Array Oper} {fuel:Nat} {listed:Array Bool}
end
section
variable {P:Program} {r:Option Nat} {c:Cx} {D:List Nat} {sl:aI} {hs:List a8} {Q:Exit->Act->World->Prop} {ops:Array Oper} {fuel i:Nat} {listed:Array Bool}
def zi (P:Program) (r:Option Nat) (ops:Array Oper) (Q:Exit->Act->World->Prop) (fuel:Nat) (listed:Array Bool):Act->World->Prop:=wpAnyIn (FR r) 0 P .any ops (NP Q) fuel listed
def PN (P:Program) (r:Option Nat) (c:Cx) (D:List Nat) (sl:aI) (hs:List a8) (ops:Array Oper) (Q:Exit->Act->World->Prop) (fuel:Nat) (listed:Array Bool) (i:Nat):Prop:=
 ∀ a w,St c D sl hs a w->wpOpIn (FR r) 0 P ops (NP Q) i (zi P r ops Q fuel (listed.setIfInBounds i true)) a w
theorem tB {rs:List Nat} (hr:Region.ready .any ops listed=rs) (hne:rs≠[]) (h:∀ i∈rs,PN P r c D sl hs ops Q fuel listed i):Tr c D sl hs (zi P r ops Q (fuel+1) listed):=fun a w a7=>
 wpAnyIn_all hr hne fun i hi=>h i hi a w a7
theorem vA {d:Option Tmp} {op:Op} {ty:TypeId} {pos:String} {af:Array Edge} {g:Option (Nat×Bool)} (hi:ops[i]? = some ⟨d,op,ty,pos,af,g⟩) (h:Tr c D sl hs (WL P r ops (Exit.then (zi P r ops Q fuel (listed.setIfInBounds i true)) (NP Q)) [⟨d,op,ty,pos,af,g⟩])):PN P r c D sl hs ops Q fuel listed i:=fun a w a7=>by
 have h1:=h a w a7;unfold wpOpIn;simp only [hi];unfold WL at h1;split
 ·rename_i hw;rw [if_pos hw] at h1;exact Oper.uX (fun a w h=>h) (fun c a w h=>h) (fun h=>h) h1
 ·rename_i hw;rw [if_neg hw] at h1;exact ⟨fun _ _=>trivial,h1⟩
theorem Dq (hr:Region.ready .any ops listed=[]) (k:Tr c D sl hs (Q .normal)):Tr c D sl hs (zi P r ops Q fuel listed):=fun a w a7=>
 wpAnyIn_done (Q:=NP Q) hr (k a w a7) fuel
end
end Go.SL
namespace Go.SL
open Go
variable {P:Program} {c:Cx} {sl:aI} {hs:List a8} {dst:Option Tmp} {ty:TypeId} {pos:String} {af:Array Edge} {g:Option (Nat×Bool)}
end Go.SL
namespace Go.SL
open Go
section
variable {P:Program} {c:Cx} {sl:aI} {hs:List a8} {dst:Option Tmp} {ty:TypeId} {pos:String} {af:Array Edge} {g:Option (Nat×Bool)}
theorem yt {t e:TypeId} {m n:Nat} {agg:Bool} {x:Operand} {b o:Nat} [hu:iU P t (.array m e)] [hT:Ty P e agg n] (hx:Is sl x (.pointer (some ⟨b,o,none⟩))) :
  cQ P c sl hs ⟨dst,.slice t x none none none,ty,pos,af,g⟩ (.slice (some ⟨b,o,none⟩) m m):=
 ⟨by simp,fun ac w ha _=>by
  simp only [execOp,hx ac ha,Option.map];refine value_of ?_;simp [Instr.sliceAt,aU hu.eq,Instr.sureAddr,Instr.sliceBounds,gr (t:=e) (agg:=agg) (n:=n),ez]⟩
end
end Go.SL
namespace Go.Proofs.A1
open Go Go.SL
open Tryz
open Tryz renaming prog->T_
theorem OS (x:Int) (w:World):aj T_ 342 [.int .i64 x] w (.bool false):=by
 refine ah func342 I I ?_;refine Jr<|Ja I<|Ji<|Jv I<|Jv I<|JD I<|Ja I<|Jn<|Je<|JT ?_;simp
theorem Cc (x y:Int) (w:World):aj T_ 300 [.int .i64 x,.int .i64 y] w (.int .i64 (kI x y)):=by
 refine ah func300 I I ?_
 (refine Jr<|Ja I<|Ji<|Jv I<|ai bN I (fun w' aq=>(OS x w')) ?_;refine Ja I<|Ji<|Jv I<|ai bN I (fun w' aq=>(OS y w')) ?_;refine Ja I<|Jn<|Jq<|Jr<|Jv I<|Jn<|bR (.of I) ?_;refine Jk<|Jq<|Jr<|Jv I<|Jn<|bR (.of I) ?_;refine Jk<|Jq<|Jr<|Jv I<|Jv I<|JA I<|Jn<|gl I (fun ar=>?_) fun ar=>?_;refine Jr<|Ja I<|Jn<|Ju<|JT ?_;rotate_left;refine Jk<|Jq<|Jr<|Jv I<|Jv I<|JE I<|Jn<|gl I (fun ar=>?_) fun ar=>?_;refine Jr<|Ja I<|Jn<|Ju<|JT ?_;rotate_left;refine Jk<|Jr<|Ja I<|Jn<|Je<|JT ?_;rotate_right;rotate_right)
 ·rw [kI,if_pos ar]
 ·rename_i h1;rw [kI,if_neg h1,if_pos ar]
 ·rename_i h1;rw [kI,if_neg h1,if_neg ar]
theorem TB {lv:Value} {l:List Int} {w:World} (h:Rd w lv 1 (ints l)):aj T_ 319 [lv] w (.int .i64 (aV l)):=by
 obtain ⟨a,cp,b,o,rfl,c8,bV,ha,hc⟩:=h;rw [c5] at *;unfold maxLen at bV;refine ah func319 I I ?_;refine Jr<|Ja I<|Ji<|Ja I<|Jn<|Jq<|Jr<|Jv I<|JI I<|Jv I<|Jn<|J0 ?_;refine aY (fun k:Nat=>k<=l.length/\aV l=aV (l.drop k)) (fun k=>[(8,.int .i64 k),(7,.int .i64 l.length),(6,.slice a l.length cp),(3,.int .i64 0)]) (fun _=>[]) (fun k=>l.length-k) ?_ ?_
 ·apply aK 0 ⟨Zi _,I⟩
  case hs1=>exact cj
  case ht=>(try simp only [Ze,Zf,Za]);exact .nil
 rintro k ⟨hk,hf⟩;by_cases aL:k<l.length
 ·have cM:=ha (jI aL);have c0:w.cell? ⟨b,o+k*1,none⟩=some (.int .i64 l[k]):=(hc k _ (iC aL)).2 0 _ I;have ja:=sX aL
  (refine Jr<|JA I<|Jn<|Jq<|Jd I fun ar=>Jk<|Jq<|J0<|Jr<|ab (gj cM ar) I ?_;refine ab (ag (.of I) (At.base c0 I)) I ?_;refine Ja I<|Ji<|Jv I<|Jv I<|JD I<|Jn<|gl I (fun ar=>?_) fun ar=>?_;refine Jr<|Jv I<|Ja I<|Jn<|Je<|Jm<|Jh<|Jh<|Jm<|Jh<|JT ?_;rotate_left;refine Jw<|Jj<|Jt<|Jg<|JB I (by omega)<|Jv I<|Jn ?_;rotate_right)
  ·rw [hf,ja,if_pos ar]
  ·apply aJ (k+1) ⟨by omega,by rw [hf,ja,if_neg ar]⟩ (by omega)
   case hs1=>exact cj
   case ht=>(try simp only [Ze,Zf,Za]);exact .nil
 ·rw [List.drop_eq_nil_of_le (by omega)] at hf;refine Jr<|JA I<|Jn<|Jq<|Jc I fun ar=>Jp<|Jl<|Jo<|Jt<|Jr<|Jv I<|Ja I<|Jn<|Je<|JT ?_;rw [hf];rfl
theorem y6 {lv mv:Value} {l m:List Int} {w:World} (h:Rd w lv 1 (ints l)) (h':Rd w mv 1 (ints m)):aj T_ 236 [lv,mv] w (.int .i64 (lO l m)):=by
 obtain ⟨a,cp,b,o,rfl,c8,bV,ha,hc⟩:=h;rw [c5] at *;obtain ⟨a',SX,b',o',rfl,nV,O7,cM,V6⟩:=h';rw [c5] at *;unfold maxLen at bV O7;refine ah func236 I I ?_;refine Jr<|Ja I<|Jn<|Jq<|Jr<|Jv I<|JI I<|Jv I<|Jn<|J0 ?_;refine aY (fun k:Nat=>k<=l.length/\k<=m.length/\lO l m=lO (l.drop k) (m.drop k)) (fun k=>[(11,.int .i64 k),(10,.int .i64 l.length),(9,.slice a l.length cp),(0,.slice a l.length cp),(1,.slice a' m.length SX)]) (fun _=>[]) (fun k=>l.length-k) ?_ ?_
 ·apply aK 0 ⟨Zi _,Zi _,I⟩
  case hs1=>exact cj
  case ht=>(try simp only [Ze,Zf,Za]);exact .nil
 rintro k ⟨hk,pV,hf⟩;by_cases aL:k<l.length
 ·have kK:=ha (jI aL);have c0:w.cell? ⟨b,o+k*1,none⟩=some (.int .i64 l[k]):=(hc k _ (iC aL)).2 0 _ I;by_cases kG:k<m.length
  ·have iT:=cM (jI kG);have c1:w.cell? ⟨b',o'+k*1,none⟩=some (.int .i64 m[k]):=(V6 k _ (iC kG)).2 0 _ I;have ja:=GH aL kG
   (refine Jr<|JA I<|Jn<|Jq<|Jd I fun ar=>Jk<|Jq<|J0<|Jr<|Jv I<|ab (gj kK ar) I ?_;refine ab (ag (.of I) (At.base c0 I)) I ?_;refine Ja I<|Ja I<|Jn<|Jq<|Jr<|Jv I<|Jv I<|JI I<|JG I<|Jn<|Jc I fun ar=>Jk<|Jr<|Jv I<|Jv I<|ab (az (.of I) (.of I) iT (by omega) (by omega) ba) I ?_;refine ab (ag (.of I) (At.base c1 I)) I ?_;refine Ja I<|Ji<|Jv I<|Jv I<|ai aX I (fun w' aq=>(Cc _ _ w')) ?_;refine Ja I<|Ji<|Jv I<|JD I<|Jn<|gl I (fun ar=>?_) fun ar=>?_;refine Jr<|Jv I<|Ja I<|Jn<|Je<|Jm<|Jh<|Jh<|Jm<|Jh<|JT ?_;rotate_left;refine Jw<|Jj<|Jt<|Jg<|JB I (by omega)<|Jv I<|Jn ?_;rotate_right)
   ·rw [hf,ja,if_pos ar]
   ·apply aJ (k+1) ⟨by omega,by omega,by rw [hf,ja,if_neg ar]⟩ (by omega)
    case hs1=>exact cj
    case ht=>(try simp only [Ze,Zf,Za]);exact .nil
  ·rw [List.drop_eq_getElem_cons aL,List.drop_eq_nil_of_le (show m.length<=k by omega)] at hf
   (refine Jr<|JA I<|Jn<|Jq<|Jd I fun ar=>Jk<|Jq<|J0<|Jr<|Jv I<|ab (gj kK ar) I ?_;refine ab (ag (.of I) (At.base c0 I)) I ?_;refine Ja I<|Ja I<|Jn<|Jq<|Jr<|Jv I<|Jv I<|JI I<|JG I<|Jn<|Jd I fun ar=>Jr<|Ja I<|Jn<|Ju<|Jm<|Jh<|Jh<|Jm<|Jh<|JT ?_)
   rw [hf];rfl
 ·rw [List.drop_eq_nil_of_le (show l.length<=k by omega),KI,List.length_drop] at hf;by_cases kG:k<m.length
  ·rw [if_pos (by omega)] at hf;refine Jr<|JA I<|Jn<|Jq<|Jc I fun ar=>Jp<|Jl<|Jo<|Jt<|Jq<|Jr<|Jv I<|JI I<|Jv I<|JI I<|JA I<|Jn<|Jd I fun ar=>Jr<|Ja I<|Jn<|Ju<|JT ?_;rw [hf]
  ·rw [if_neg (by omega)] at hf;refine Jr<|JA I<|Jn<|Jq<|Jc I fun ar=>Jp<|Jl<|Jo<|Jt<|Jq<|Jr<|Jv I<|JI I<|Jv I<|JI I<|JA I<|Jn<|Jc I fun ar=>Jk<|Jr<|Ja I<|Jn<|Je<|JT ?_;rw [hf]
def n9 (r:Ro) (x:Ti):Int:=aV [fq r x.fr,fq r x.to,bG (decide (x.fr=x.to)) 24]
theorem Oe {r:Ro} {s d t p:Value} (x:Ti) {w w1:World} (h:RR w1 r s d t p):aj T_ 145 [RA r s d t p,.agg x.cells.toArray] w (.int .i64 (n9 r x)):=by
 obtain ⟨h1,h2,h3,h4⟩:=h.one;have Uw:∀ m w',aj T_ 136 [.agg #[.int .i64 r.lv,.int .i64 r.ma,s,d,t,p],.int .i64 m] w' (.int .i64 (fq r m)):=fun m w'=>E4 m h
 unfold RA Ti.cells;refine ah func145 I I ?_
 (refine Jr<|Jy I I fun _ _=>Jy I I fun _ _=>Ja I<|Ji<|bK I I ae ?_;refine JL I .here I<|bK I I ae ?_;refine JL I .here I<|ab (aT (.cons (.of I) (.cons (.of I) .nil)) an) I ?_;refine Jz I I fun _ _=>au (.of I) (.of I) .here I I (ie I I) (bF I) an ?_;refine Jn<|Jq ?_)
 with_reducible refine cC 17 (by kernel_rfl) ?_
 (refine ak (cr bT) I ?_;refine ak kA I ?_;refine ak (gD (.there .here)) I ?_;refine aQ aX I (fun w' aq=>(Uw _ w')) ?_;refine ak (cr bT) I ?_;refine ak kA I ?_;refine ak (gD (.there .here)) I ?_;refine aQ aX I (fun w' aq=>(Uw _ w')) ?_;refine ak (cr .here) I ?_;refine ak kA I ?_;refine ak (gD (.there .here)) I ?_;refine ak kA I ?_;refine ak (gD (.there .here)) I ?_;refine ak (aT (.cons (.of I) (.cons (.of I) .nil)) an) I ?_;refine ak (uD (.of I) (.of I) (ka (ka lZ)) I) I ?_;refine aQ aX I (fun w' aq=>(dP _ 24 w')) ?_;refine dX (aB (.cons (.of I) (.cons (.of I) (.cons (.of I) .nil))) I I I I) I I ?_)
 with_reducible refine cY I fun bq mA=>?_
 (refine ai bN I (fun w' aq=>(dF (Mem.df aq .here I I) (bQ.cons (bQ.cons (bQ.cons bQ.nil))))) ?_;refine Ja I<|Jn<|Je<|JT ?_)
 have e:(decide True&&(decide (x.to=x.fr)&&true))=decide (x.fr=x.to):=by
  rw [Bool.eq_iff_iff];simp [eq_comm]
 unfold n9;rw [<- e]
theorem vk {P:Program} {c:Cx} {sl:aI} {hs:List a8} {dst:Option Tmp} {ty:TypeId} {pos:String} {af:Array Edge} {g:Option (Nat×Bool)} {t kt et:TypeId} {x y:Operand} {b:Nat} {k:ByteArray} {l:List (ByteArray×Value)} {z V:Value} [hu:iU P t (.map kt et)] [Gq:iU P kt .string] [hz:lQ P et z]
  (hx:Is sl x (.map (some b))) (hy:Is sl y (.string k)) (hl:Looks c hs b (fun s:ByteArray=>Value.string s) l) (e:(eK k l).getD z=V) :
  cQ P c sl hs ⟨dst,.lookup t x y true,ty,pos,af,g⟩ (.tuple #[V,.bool (eK k l).isSome]):=e ▸ C2 IN hx hy hl
theorem Ij {r:Ro} (hd:CG r) (s:ByteArray):∃ (a b c:Int) (one:Bool),(eK s (oT r)).getD (lL 0 0 0)=lL a b c/\(eK s (oT r)).isSome=one/\(one=true->a=eo r s/\b=j9 r s/\c=jR r s)/\(one=false->j9 r s<0/\jR r s<0):=by
 rw [qL hd];cases h:fI (ew r) s with
 | true=>exact ⟨_,_,_,true,rfl,rfl,fun _=>⟨rfl,rfl,rfl⟩,fun h=>by cases h⟩
 | false =>
  refine ⟨0,0,0,false,I,I,(fun h=>by cases h),fun _=>?_⟩;have hn:s ∉ ew r:=fun hm=>by rw [ef.2 hm] at h;cases h
  unfold ew at hn;rw [List.mem_append,List.mem_append,not_or,not_or] at hn;have e1:=cq.2 hn.1.1;have e2:=cq.2 hn.1.2;have e3:=cq.2 hn.2;unfold j9 jR;rw [if_neg (by omega),if_neg (by omega),if_neg (by omega),if_neg (by omega)];omega
def mr (r:Ro) (x:Po):Int:=aV [gH x.lv 0 (r.lv-1),bG (decide (j9 r x.ou<0)) 10,bG (decide (jR r x.ip<0)) 10,bG (decide (j9 r x.ou≠jR r x.ip)) 24]
def DZ (r:Ro):Option Po->List Int
 | none=>[-1,-1]
 | some x=>[x.lv,eo r x.ou]
def F5 (r:Ro) (po:List Po) (k:Nat):Int:=
 match po[k]? with
 | none=>0
 | some x=>if mr r x≠0 then mr r x else if lO [x.lv,eo r x.ou] (DZ r (if k=0 then none else po[k-1]?))<=0 then 11 else 0
theorem rJ {r:Ro} {po:List Po} {k:Nat} (h:k<po.length):F5 r po k=if mr r po[k]≠0 then mr r po[k] else if lO [po[k].lv,eo r po[k].ou] (DZ r (if k=0 then none else po[k-1]?))<=0 then 11 else 0:=by
 unfold F5;rw [Zc h]
theorem ML {r:Ro} {x:Po} {a b c a' b' c':Int} {one two:Bool} (h1:one=true->a=eo r x.ou/\b=j9 r x.ou/\c=jR r x.ou) (h2:one=false->j9 r x.ou<0/\jR r x.ou<0)
  (h3:two=true->a'=eo r x.ip/\b'=j9 r x.ip/\c'=jR r x.ip) (h4:two=false->j9 r x.ip<0/\jR r x.ip<0) :
  aV [gH x.lv 0 (r.lv-1),bG (!one||decide (b<0)) 10,bG (!two||decide (c'<0)) 10,bG (decide (b≠c')) 24]=mr r x/\(mr r x=0->one=true):=by
 unfold mr;cases one with
 | true =>
  obtain ⟨-,rfl,-⟩:=h1 rfl;cases two with
  | true=>obtain ⟨-,-,rfl⟩:=h3 rfl;exact ⟨rfl,fun _=>rfl⟩
  | false =>
   have:=(h4 I).2;refine ⟨?_,fun _=>rfl⟩;simp [aV,bG,this]
 | false =>
  have:=(h2 I).1;constructor
  ·simp [aV,bG,this]
  ·intro h;simp [aV,bG,this] at h;split at h <;> simp_all
def jU (r:Ro) (po:List Po):Int:=jq (F5 r po) po.length
theorem xI {r:Ro} {s d t p:Value} {w:World} (h:RR w r s d t p) (hd:CG r) (cL:r.de.length+r.ti.length<=1000000) (BZ:Vs (r.lv-1)):aj T_ 146 [RA r s d t p] w (.int .i64 (jU r r.po)):=by
 obtain ⟨h1,h2,h3,h4⟩:=h.one;have hp:=h.po;obtain ⟨a,cp,b,o',rfl,c8,bV,ha,hc⟩:=hp;rw [cT] at *;unfold maxLen at bV;unfold RA;refine ah func146 I I ?_;refine Jr<|Jy I I fun _ _=>Ja I<|Ji<|ab (cr .here) I ?_;refine JN bN I (fun w1 aS=>EF (h.keeps aS.keeps) cL) ?_;intro bm _;dsimp only [id_eq,Zb,Za]
 (refine Ja I<|Ji<|ab (aT (.cons (.of I) (.cons (.of I) .nil)) an) I ?_;refine Jz I I fun _ _=>au (.of I) (.of I) .here I I (ie I I) (bF I) an ?_;refine Jn<|Jq<|Jr<|bK I I ae ?_;refine JL I bT I<|JI I<|Jv I<|Jn<|J0 ?_)
 rename_i b1 tR _ b4 uQ
 refine aY (ι:=Nat×Int×Int) (fun x=>x.1<=r.po.length/\(∀ i,i<x.1->F5 r r.po i=0)/\[x.2.1,x.2.2]=DZ r (if x.1=0 then none else r.po[x.1-1]?))
  (fun x=>[(19,.int .i64 (x.1:Nat)),(18,.int .i64 r.po.length),(17,.slice a r.po.length cp),(4,.pointer (some ⟨b4,0,none⟩)),(3,.map (some bm)),(2,.int .i64 0),(1,.pointer (some ⟨b1,0,none⟩))])
  (fun x=>[bC b4 (.cells #[.int .i64 x.2.1,.int .i64 x.2.2] 299 (0,0)),mp (fun s:ByteArray=>Value.string s) bm (oT r),JP b1 r s d t (.slice a r.po.length cp)])
  (fun x=>r.po.length-x.1) ?_ ?_
 ·apply aK (0,-1,-1) ⟨Zi _,fun i h=>by omega,I⟩
  case hs1=>exact cj
  case ht=>(try simp only [Ze,Zf,Za]);exact .cons .here (.cons .here (.cons .here .nil))
 rintro ⟨k,l0,l1⟩ ⟨hk,hz,hl⟩;dsimp only at hk hz hl ⊢;by_cases aL:k<r.po.length
 ·have cM:=ha (kD aL);obtain ⟨ir,aF⟩:=hc k _ (iN aL);unfold Po.cells at aF;have ja:=rJ (r:=r) aL;obtain ⟨o1,o2,o3,one,e1,e2,e3,e4⟩:=Ij hd (r.po[k]).ou;obtain ⟨i1,i2,i3,two,q1,q2,q3,q4⟩:=Ij hd (r.po[k]).ip;obtain ⟨v1,v2⟩:=ML e3 e4 q3 q4;unfold lL at e1 q1
  (refine Jr<|JA I<|Jn<|Jq<|Jd I fun ar=>Jk<|Jq<|J0<|Jr<|ab (gj cM ar) I ?_;refine ab (iI (eU.base aF I)) I ?_;refine Jz I I fun _ _=>au (.of I) (.of I) .here I I (fx I I I) (bF I) an ?_;refine Ji<|Jv I<|bK I I ae ?_;refine JL I .here I ?_)
  refine ab (vk (.of I) (.of I) (Looks.mp bT) e1) I ?_;rw [e2]
  (refine Jv I<|JJ I I<|JJ I I<|Jz I I fun _ _=>au (.of I) (.of I) .here I I (fx I I I) (bF I) an ?_;refine Ja I<|Ji<|Jv I<|bK I I ae ?_;refine JL I (.there .here) I ?_)
  refine ab (vk (.of I) (.of I) (Looks.mp db) q1) I ?_;rw [q2]
  (refine Jv I<|JJ I I<|JJ I I<|Jz I I fun _ _=>au (.of I) (.of I) .here I I (fx I I I) (bF I) an ?_;refine Ja I<|Jn<|Jq<|Jq ?_)
  with_reducible refine cC 29 (by kernel_rfl) ?_
  (refine ak kA I ?_;refine ak (gD bT) I ?_;refine ak kA I ?_;refine ak (gD fy) I ?_;refine ak (sD (.of I) (.of I) BZ) I ?_;refine aQ dH I (fun w' aq=>(mI _ 0 _ w')) ?_;refine ak jP I ?_;refine ak (eY (.of I)) I ?_;refine ak jP I ?_;refine tf I I inferInstance (fun hg br=>(ao (.of I) ae)) I ?_;refine tf I I inferInstance (fun hg br=>(ag (.bL hg I) (At.lit (.there .here) I))) I ?_;refine tf I I inferInstance (fun hg br=>(mm (.bL hg I) (.of I))) I ?_;refine ak (bX (.of I) I) I ?_;refine aQ aX I (fun w' aq=>(dP _ 10 w')) ?_;refine ak jP I ?_;refine ak (eY (.of I)) I ?_;refine ak jP I ?_;refine tf I I inferInstance (fun hg br=>(ao (.of I) ae)) I ?_;refine tf I I inferInstance (fun hg br=>(ag (.bL hg I) (At.lit .here I))) I ?_;refine tf I I inferInstance (fun hg br=>(mm (.bL hg I) (.of I))) I ?_;refine ak (bX (.of I) I) I ?_;refine aQ aX I (fun w' aq=>(dP _ 10 w')) ?_;refine ak kA I ?_;refine ak (gD (.there .here)) I ?_;refine ak kA I ?_;refine ak (gD .here) I ?_;refine ak (fZ (.of I) (.of I)) I ?_;refine aQ aX I (fun w' aq=>(dP _ 24 w')) ?_;refine dX (aB (.cons (.of I) (.cons (.of I) (.cons (.of I) (.cons (.of I) .nil)))) I I I I) I I ?_)
  with_reducible refine cY I fun bq mA=>?_
  (refine ai bN I (fun w' aq=>(dF (Mem.df aq .here I I) (bQ.cons (bQ.cons (bQ.cons (bQ.cons bQ.nil)))))) ?_;refine Ja I<|Ji<|Jv I<|JD I<|Jn<|gl I (fun ar=>?_) fun ar=>?_;refine Jr<|Jv I<|Ja I<|Jn<|Ju<|Jm<|Jh<|Jh<|Jm<|Jh<|JT ?_;rotate_left;refine Jk<|Jr<|bK I I ae ?_;refine JL I db I<|bK I I ae ?_;refine JL I bT I<|ab (aT (.cons (.of I) (.cons (.of I) .nil)) an) I ?_;refine Jz I I fun _ _=>au (.of I) (.of I) .here I I (ie I I) (bF I) an ?_;refine Jn<|Jq<|Jq ?_;rotate_right)
  ·rw [v1] at ar ⊢;have hb:jU r r.po=mr r r.po[k]:=(eS hz aL (by rw [ja,if_pos ar];exact ar)).trans (by rw [ja,if_pos ar]);rw [hb]
  rw [v1] at ar;have hE:mr r r.po[k]=0:=Decidable.not_not.1 ar;obtain ⟨g1,g2,g3⟩:=e3 (v2 hE);rename_i K0 Yg
  with_reducible refine cW 2 (by kernel_rfl) ?_
  (refine aA (yt (.of I)) I ?_;refine aA (yt (.of I)) I ?_)
  with_reducible refine cZ ?_
  skip
  with_reducible apply ai
  case hr=>exact aX
  case hd=>rfl
  case hc=>
   intro w' aq;have y1:Rd w' (.slice (some ⟨K0,0,none⟩) 2 2) 1 (ints [(r.po[k]).lv,o1]):=Mem.df (b:=K0) (cs:=[.int .i64 (r.po[k]).lv,.int .i64 o1]) aq (by exact .here) I I;have y2:Rd w' (.slice (some ⟨b4,0,none⟩) 2 2) 1 (ints [l0,l1]):=Mem.df (b:=b4) (cs:=[.int .i64 l0,.int .i64 l1]) aq fy I I;exact y6 y1 y2
  rw [hE] at ja;rw [if_neg (by decide),<- g1,<- hl] at ja
  (refine JF I<|Jn<|gl I (fun ar=>?_) fun ar=>?_;refine Jr<|Ja I<|Jn<|Ju<|Jm<|Jh<|Jh<|Jm<|Jh<|JT ?_;rotate_left;refine Jk<|Jg<|ab (cr .here) I ?_;refine au (.of I) (.of I) fy I I (ie I I) (bF I) an ?_;refine Jx<|Jj<|Jt<|Jg<|JB I (by omega)<|Jv I<|Jn ?_;rotate_right)
  ·rw [if_pos ar] at ja;have hb:jU r r.po=11:=(eS hz aL (by rw [ja];decide)).trans ja;rw [hb]
  rw [if_neg ar] at ja;have I0:∀ i,i<k+1->F5 r r.po i=0:=fun i hi=>by
   by_cases e:i=k
   ·rw [e];exact ja
   ·exact hz i (by omega)
  apply aJ (k+1,(r.po[k]).lv,o1) ⟨show k+1<=r.po.length by omega,I0,by
   show [(r.po[k]).lv,o1]=DZ r (if k+1=0 then none else r.po[k+1-1]?)
   rw [if_neg (by omega),Nat.add_sub_cancel,Zc aL,g1];rfl⟩ (show r.po.length-(k+1)<r.po.length-k by omega)
  case hs1=>exact cj
  case ht=>(try simp only [Ze,Zf,Za]);exact .cons .here (.cons fy (.cons fy .nil))
 ·obtain rfl:k=r.po.length:=by omega
  have e:jU r r.po=0:=dN.2 hz;rw [e];refine Jr<|JA I<|Jn<|Jq<|Jc I fun ar=>Jp<|Jl<|Jo<|Jt<|Jr<|Ja I<|Jn<|Je<|JT ?_
  rfl
theorem Qe {r:Ro} {s d t p:Value} (x:Sr) {b1:Nat} {w:World} (h:RR w r s d t p) (hA:BR w b1 (RC r s d t p)) :
  aj T_ 135 [.agg x.cells.toArray,.pointer (some ⟨b1,0,none⟩)] w (.int .i64 (fq r x.mx)):=by
 obtain ⟨h1,h2,h3,h4⟩:=h.one;have kp:∀ (j:Nat) (u:Value),[Value.int .i64 r.lv,.int .i64 r.ma,s,d,t,p][j]? = some u->w.cell? ⟨b1,0+j,none⟩=some u:=hA;unfold Sr.cells;refine ah func135 I I ?_
 (refine Jr<|Jy I I fun _ _=>Ja I<|Ji<|ab (iI (eU.base kp I)) I ?_;refine bK I I ae ?_;refine JL I .here I ?_)
 refine ai aX I (fun w' aq=>E4 x.mx h) ?_;refine Ja I<|Jn<|Je<|JT ?_
 rfl
theorem R3 {r:Ro} {s d t p:Value} (x:De) {b1:Nat} {w:World} (h:RR w r s d t p) (hA:BR w b1 (RC r s d t p)) :
  aj T_ 137 [.agg x.cells.toArray,.pointer (some ⟨b1,0,none⟩)] w (.int .i64 (fq r x.mx)):=by
 obtain ⟨h1,h2,h3,h4⟩:=h.one;have kp:∀ (j:Nat) (u:Value),[Value.int .i64 r.lv,.int .i64 r.ma,s,d,t,p][j]? = some u->w.cell? ⟨b1,0+j,none⟩=some u:=hA;unfold De.cells;refine ah func137 I I ?_
 (refine Jr<|Jy I I fun _ _=>Ja I<|Ji<|ab (iI (eU.base kp I)) I ?_;refine bK I I ae ?_;refine JL I .here I ?_)
 refine ai aX I (fun w' aq=>E4 x.mx h) ?_;refine Ja I<|Jn<|Je<|JT ?_
 rfl
def j7 (r:Ro) (q:Int->Bool):Bool:=(List.range r.lv.toNat).any fun i=>q (i:Nat)
def nD (r:Ro):Int:=aV [gH r.lv 1 3,gH r.ma 1 4]
def j4 (r:Ro):Int:=aV [fm 8 [] Sr.nm (fun x=>fq r x.mx) r.sr,fm 8 (ct r) De.nm (fun x=>fq r x.mx) r.de,fm 6 (ct r++cz r) Ti.nm (n9 r) r.ti]
def z7 (r:Ro):Int:=aV [bG (j7 r fun v=>r.ti.any (LF r v)) 33,bG (j7 r fun v=>r.ti.any (Iu r v)) 32]
def gB (r:Ro):Int:=if nD r≠0 then nD r else if j4 r≠0 then j4 r else if jU r r.po≠0 then jU r r.po else z7 r
theorem ck1 {r:Ro} (h:nD r≠0):gB r=nD r:=by unfold gB;rw [if_pos h]
theorem YK {r:Ro} (h1:nD r=0) (h:j4 r≠0):gB r=j4 r:=by unfold gB;rw [if_neg (by rw [h1];decide),if_pos h]
theorem ck3 {r:Ro} (h1:nD r=0) (h2:j4 r=0) (h:jU r r.po≠0):gB r=jU r r.po:=by unfold gB;rw [if_neg (by rw [h1];decide),if_neg (by rw [h2];decide),if_pos h]
theorem ck4 {r:Ro} (h1:nD r=0) (h2:j4 r=0) (h3:jU r r.po=0):gB r=z7 r:=by unfold gB;rw [if_neg (by rw [h1];decide),if_neg (by rw [h2];decide),if_neg (by rw [h3];decide)]
theorem WA {r:Ro} (h:fm 8 [] Sr.nm (fun x=>fq r x.mx) r.sr≠0):j4 r=fm 8 [] Sr.nm (fun x=>fq r x.mx) r.sr:=by unfold j4 aV;rw [if_pos h]
theorem Wz {r:Ro} (h1:fm 8 [] Sr.nm (fun x=>fq r x.mx) r.sr=0) (h:fm 8 (ct r) De.nm (fun x=>fq r x.mx) r.de≠0):j4 r=fm 8 (ct r) De.nm (fun x=>fq r x.mx) r.de:=by unfold j4 aV aV;rw [if_neg (by rw [h1];decide),if_pos h]
theorem VA {r:Ro} (h1:fm 8 [] Sr.nm (fun x=>fq r x.mx) r.sr=0) (h2:fm 8 (ct r) De.nm (fun x=>fq r x.mx) r.de=0):j4 r=aV [fm 6 (ct r++cz r) Ti.nm (n9 r) r.ti]:=by unfold j4;rw [aV,if_neg (by rw [h1];decide),aV,if_neg (by rw [h2];decide)]
theorem rG {α:Type} {qO:Int} {bf:List ByteArray} {nm:α->ByteArray} {ck:α->Int} {l:List α} (hb:bf.Nodup) (h:fm qO bf nm ck l=0):(bf++l.map nm).Nodup/\(l.length:Int)<=qO/\∀ x∈l,ck x=0:=by
 unfold fm at h;split at h
 ·cases h
 rename_i hl;rw [dN] at h;have hk:∀ k,k<=l.length->(bf++(l.take k).map nm).Nodup/\∀ x∈l.take k,ck x=0:=by
  intro k
  induction k with
  | zero=>intro _;simpa using hb
  | succ k ih =>
   intro hk;obtain ⟨i1,i2⟩:=ih (by omega);have:=h k (by omega);rw [oS (by omega)] at this;rw [bI] at this;have h9:fI (bf++(l.take k).map nm) (nm l[k])=false/\ck l[k]=0:=⟨(bD (show (9:Int)≠0 by decide)).1 (this _ (List.mem_cons_of_mem _ List.mem_cons_self)),this _ (List.mem_cons_of_mem _ (List.mem_cons_of_mem _ List.mem_cons_self))⟩;rw [List.take_succ_eq_append_getElem (by omega),List.map_append,<- Zh];refine ⟨?_,?_⟩
   ·rw [List.nodup_append];refine ⟨i1,by simp,fun x hx y hy e=>?_⟩;rw [List.map_cons,Zf,List.mem_singleton] at hy;subst hy;subst e;rw [ef.2 hx] at h9;cases h9.1
   ·intro x hx;rcases List.mem_append.1 hx with hx | hx
    ·exact i2 x hx
    ·rw [List.mem_singleton.1 hx];exact h9.2
 have:=hk _ (Nat.le_refl _);rw [List.take_length] at this;exact ⟨this.1,by omega,this.2⟩
theorem zR {r:Ro} (h:j4 r=0):CG r/\(r.sr.length<=8/\r.de.length<=8/\r.ti.length<=6)/\(∀ x∈r.sr,fq r x.mx=0)/\(∀ x∈r.de,fq r x.mx=0)/\∀ x∈r.ti,n9 r x=0:=by
 unfold j4 at h;have h3:fm 8 [] Sr.nm (fun x=>fq r x.mx) r.sr=0/\fm 8 (ct r) De.nm (fun x=>fq r x.mx) r.de=0/\fm 6 (ct r++cz r) Ti.nm (n9 r) r.ti=0:=by
  rw [bI] at h;exact ⟨h _ (by simp),h _ (by simp),h _ (by simp)⟩
 obtain ⟨h4,h5,h6⟩:=rG List.nodup_nil h3.1;rw [Za] at h4;obtain ⟨h7,h8,h9⟩:=rG (show (ct r).Nodup from h4) h3.2.1;obtain ⟨g7,g8,g9⟩:=rG (show (ct r++cz r).Nodup from h7) h3.2.2;exact ⟨⟨g7⟩,⟨by omega,by omega,by omega⟩,h6,h9,g9⟩
theorem vG {r:Ro} (h:nD r=0):1<=r.lv/\r.lv<=3/\1<=r.ma/\r.ma<=4:=by
 unfold nD at h;rw [bI] at h;have h1:=iJ.1 (h _ (List.mem_cons_self));have h2:=iJ.1 (h _ (List.mem_cons_of_mem _ List.mem_cons_self));omega
theorem eN {r:Ro} {s d t p:Value} {w:World} (h:RR w r s d t p) (cL:r.sr.length<=300/\r.de.length<=300/\r.ti.length<=300):aj T_ 34 [RA r s d t p] w (.int .i64 (gB r)):=by
 obtain ⟨h1,h2,h3,h4⟩:=h.one;unfold RA;refine ah func34 I I ?_;refine Jr<|Jy I I fun _ _=>Ja I<|Jn<|Jq<|Jq ?_;rename_i b1 tR
 with_reducible refine cC 7 (by kernel_rfl) ?_
 (refine ak kA I ?_;refine ak (gD .here) I ?_;refine aQ dH I (fun w' aq=>(mI _ 1 3 w')) ?_;refine ak kA I ?_;refine ak (gD .here) I ?_;refine aQ dH I (fun w' aq=>(mI _ 1 4 w')) ?_;refine dX (aB (.cons (.of I) (.cons (.of I) .nil)) I I I I) I I ?_)
 with_reducible refine cY I fun bq mA=>?_
 (refine ai bN I (fun w' aq=>(dF (Mem.df aq .here I I) (bQ.cons (bQ.cons bQ.nil)))) ?_;refine Ja I<|Ji<|Jv I<|JD I<|Jn<|gl I (fun ar=>?_) fun ar=>?_;refine Jr<|Jv I<|Ja I<|Jn<|Ju<|JT ?_;rotate_left;refine Jk<|Jr<|ab (bo .nil (.cons (.of I) .nil)) I ?_;refine Ja I<|Ji<|ab (bo .nil (.cons (.of I) .nil)) I ?_;refine Ja I<|Jn<|Jq<|Jr<|bK I I ae ?_;refine JL I (.there .here) I<|Jv I ?_;rotate_right)
 ·exact congrArg (Value.int .i64) (ck1 ar).symm
 have mF:nD r=0:=Decidable.not_not.1 ar;have hl:=vG mF;clear ar;have JR:∀ w',Rd w' (.slice none 0 0) 1 (fG []):=fun w'=>⟨none,0,0,0,I,by simp [fG],by unfold maxLen;omega,fun h=>absurd I h,fun i r hr=>by simp [fG] at hr⟩
 with_reducible apply ai
 case hr=>exact Cy
 case hd=>rfl
 case hc=>
  intro w' aq;have hA:BR w' b1 [.int .i64 r.lv,.int .i64 r.ma,s,d,t,p]:=BR.of aq (by exact Take.there .here);have hR:=h.keeps aq.keeps;exact Cf (bf:=[]) 8 (f2:=135) (first2:=[]) (cap:=[.pointer (some ⟨b1,0,none⟩)]) hR.sr (JR _) (by rw [List.length_nil];omega) (fun x _ w2 _=>Iz x w2) (fun x _ w2 eR=>Qe x (hR.keeps eR) (hA.keeps eR))
 (refine Ja I<|Ji<|Jv I<|JD I<|Jn<|gl I (fun ar=>?_) fun ar=>?_;refine Jr<|Jv I<|Ja I<|Jn<|Ju<|JT ?_;rotate_left;refine Jk<|Jr<|bK I I ae ?_;refine JL I (.there .here) I ?_;rotate_right)
 ·have hp:=WA ar;rw [<- hp] at ar ⊢;exact congrArg (Value.int .i64) (YK mF ar).symm
 have p1:fm 8 [] Sr.nm (fun x=>fq r x.mx) r.sr=0:=Decidable.not_not.1 ar
 clear ar;have q1:=rG List.nodup_nil p1;refine JN aX I (fun w1 aS=>M1 (f:=139) (first:=[]) (cap:=[]) (g:=Sr.nm) (h.keeps aS.keeps).sr (by omega) (fun x _ w2 _=>Iz x w2)) ?_
 intro nv _;dsimp only [id_eq,Zb,Za];refine aW (by exact .here) fun na nc e=>?_;subst e
 (refine Ja I<|Jn<|Jq<|Jr<|bK I I ae ?_;refine JL I bT I<|Jv I<|Jv I ?_)
 with_reducible apply ai
 case hr=>exact Cy
 case hd=>rfl
 case hc=>
  intro w' aq;have hA:BR w' b1 [.int .i64 r.lv,.int .i64 r.ma,s,d,t,p]:=BR.of aq bT;have hR:=h.keeps aq.keeps;have hN:Rd w' (.slice na r.sr.length nc) 1 (fG (r.sr.map Sr.nm)):=dL aq (by exact .here) (by rw [Zd]);exact Cg (bf:=ct r) 8 (f2:=137) (first2:=[]) (cap:=[.pointer (some ⟨b1,0,none⟩)]) hR.de hN (by unfold ct;rw [Zd];omega) (fun x _ w2 _=>Dm x w2) (fun x _ w2 eR=>R3 x (hR.keeps eR) (hA.keeps eR))
 (refine Ja I<|Ji<|Jv I<|JD I<|Jn<|gl I (fun ar=>?_) fun ar=>?_;refine Jr<|Jv I<|Ja I<|Jn<|Ju<|JT ?_;rotate_left;refine Jk<|Jr<|Jv I<|bK I I ae ?_;refine JL I bT I ?_;rotate_right)
 ·have hp:=Wz p1 ar;rw [<- hp] at ar ⊢;exact congrArg (Value.int .i64) (YK mF ar).symm
 have p2:fm 8 (ct r) De.nm (fun x=>fq r x.mx) r.de=0:=Decidable.not_not.1 ar
 clear ar;have q2:=rG (show (ct r).Nodup from q1.1) p2;refine JN aX I (fun w1 aS=>EP (f:=124) (first:=[]) (cap:=[]) (g:=De.nm) (h.keeps aS.keeps).de (by omega) (fun x _ w2 _=>Dm x w2)) ?_
 intro dv _;dsimp only [id_eq,Zb,Za];refine aW (by exact .here) fun da dc e=>?_;subst e;refine bb (aB (.cons (.of I) (.cons (.of I) .nil)) I I I I) I (fun _ _=>?_);rename_i bq2 adX
 with_reducible apply jh
 case hr=>exact bN
 case hd=>rfl
 case ht=>exact bn.nil
 case hc=>
  intro w1 fp aS _ hs1;obtain rfl:fp=[]:=hs1;have hN:Rd w1 (.slice na r.sr.length nc) 1 (fG (r.sr.map Sr.nm)):=dL aS bT (by rw [Zd]);have hD:Rd w1 (.slice da r.de.length dc) 1 (fG (r.de.map De.nm)):=dL aS (by exact Take.there .here) (by rw [Zd])
  exact GG (vs:=[.slice na r.sr.length nc,.slice da r.de.length dc]) (ess:=[r.sr.map Sr.nm,r.de.map De.nm]) (Mem.df (b:=bq2) aS (by exact .here) I I) I
   (fun i v es hv he=>by
    match i,hv,he with
    | 0,hv,he=>cases hv;cases he;exact hN
    | 1,hv,he=>cases hv;cases he;exact hD) (by simp;omega)
 intro av _;dsimp only [id_eq,Zb,Za]
 (refine Ja I<|Jn<|Jq<|Jr<|bK I I ae ?_;refine JL I fy I<|Jv I<|ab (cr fy) I ?_;refine ab (bo (.cons (.of I) .nil) .nil) I ?_)
 have tN:[r.sr.map Sr.nm,r.de.map De.nm].flatten=ct r++cz r:=by simp [ct,cz]
 with_reducible apply ai
 case hr=>exact Cy
 case hd=>rfl
 case hc=>
  intro w' aq;have hR:=h.keeps aq.keeps;have hB:Rd w' av 1 (fG [r.sr.map Sr.nm,r.de.map De.nm].flatten):=aq.qx (by exact .here) I (HE _) (by rw [bA]);rw [tN] at hB;exact Ce (bf:=ct r++cz r) 6 (f2:=145) (first2:=[RA r s d t p]) (cap:=[]) hR.ti hB (by unfold ct cz;rw [Zg,Zd,Zd];omega) (fun x _ w2 _=>Dl x w2) (fun x _ w2 eR=>Oe x h)
 (refine bb (aB (.cons (.of I) .nil) I I I I) I fun _ _=>?_;refine ai bN I (fun w' aq=>(dF (Mem.df aq .here I I) (bQ.cons bQ.nil))) ?_;refine Ja I<|Ji<|Jv I<|JD I<|Jn<|gl I (fun ar=>?_) fun ar=>?_;refine Jr<|Jv I<|Ja I<|Jn<|Ju<|JT ?_;rotate_left;refine Jk<|Jq<|Jr<|ab (cr re) I ?_;rotate_right)
 ·have hp:j4 r≠0:=by rw [VA p1 p2];exact ar
  exact congrArg (Value.int .i64) ((VA p1 p2).symm.trans (YK mF hp).symm)
 have Gj:j4 r=0:=by rw [VA p1 p2];exact Decidable.not_not.1 ar
 obtain ⟨kU,hlen,-⟩:=zR Gj;clear ar;refine ai bN I (fun w' aq=>xI (h.keeps aq.keeps) kU (by omega) (by unfold Vs;omega)) ?_
 (refine Ja I<|Ji<|Jv I<|JD I<|Jn<|gl I (fun ar=>?_) fun ar=>?_;refine Jr<|Jv I<|Ja I<|Jn<|Ju<|JT ?_;rotate_left;refine Jk<|Jq ?_;rotate_right)
 ·exact congrArg (Value.int .i64) (ck3 mF Gj ar).symm
 have Q9:jU r r.po=0:=Decidable.not_not.1 ar;clear ar;rw [ck4 mF Gj Q9];have UG:∀ w',aD [] w w'->aj T_ 148 [.agg #[.int .i64 r.lv,.int .i64 r.ma,s,d,t,p],.func (.func 149) #[.agg #[.int .i64 r.lv,.int .i64 r.ma,s,d,t,p]] #[]] w' (.bool (j7 r fun v=>r.ti.any (LF r v))):=fun w' hk=>
  PK (f:=149) (first:=[RA r s d t p]) (cap:=[]) h (by omega) (fun v _ _ w2 eR=>N8 v ((h.keeps hk).keeps eR) (by omega))
 have UF:∀ w',aD [] w w'->aj T_ 148 [.agg #[.int .i64 r.lv,.int .i64 r.ma,s,d,t,p],.func (.func 150) #[.agg #[.int .i64 r.lv,.int .i64 r.ma,s,d,t,p]] #[]] w' (.bool (j7 r fun v=>r.ti.any (Iu r v))):=fun w' hk=>
  PK (f:=150) (first:=[RA r s d t p]) (cap:=[]) h (by omega) (fun v _ _ w2 eR=>Qx v ((h.keeps hk).keeps eR))
 with_reducible refine cC 11 (by kernel_rfl) ?_
 (refine ak (cr re) I ?_;refine ak (cr re) I ?_;refine ak (bo (.cons (.of I) .nil) .nil) I ?_;refine aQ aX I (fun w' aq=>(UG w' (Mem.keeps aq))) ?_;refine aQ aX I (fun w' aq=>(dP _ 33 w')) ?_;refine ak (cr re) I ?_;refine ak (cr re) I ?_;refine ak (bo (.cons (.of I) .nil) .nil) I ?_;refine aQ aX I (fun w' aq=>(UF w' (Mem.keeps aq))) ?_;refine aQ aX I (fun w' aq=>(dP _ 32 w')) ?_;refine dX (aB (.cons (.of I) (.cons (.of I) .nil)) I I I I) I I ?_)
 with_reducible refine cY I fun bq mA=>?_
 (refine ai bN I (fun w' aq=>(dF (Mem.df aq .here I I) (bQ.cons (bQ.cons bQ.nil)))) ?_;refine Ja I<|Jn<|Je<|JT ?_)
 rfl
theorem vL {α:Type} (nm:α->ByteArray) (l:List α) (s:ByteArray):ia (fun x=>decide (nm x=s)) l=bd (l.map nm) s:=by
 rcases pU (fun x=>decide (nm x=s)) l with ⟨e1,e2⟩ | ⟨i,hi,e1,e2⟩
 ·rw [e1];refine (Ao fun j hj e=>?_).symm;rw [List.find?_eq_none] at e2;rw [List.getElem_map] at e;exact e2 _ (Zj _) (by simpa using e)
 ·rw [e1];rw [List.find?_eq_some_iff_getElem] at e2;obtain ⟨hp,k,hk,he,hb⟩:=e2;have VZ:i=k:=by
   have h1:ia (fun x=>decide (nm x=s)) l=(k:Nat):=gP (fun j hj=>by
    rw [Zc (by omega)];have:=hb j hj;simpa using this) hk (by rw [he];exact hp)
   rw [e1] at h1
   exact_mod_cast h1
  subst VZ;refine (qV (by rw [Zd];exact hi) (by rw [List.getElem_map];simpa using hp) fun j hj e=>?_).symm;rw [List.getElem_map] at e;have:=hb j hj;simp [e] at this
theorem R2 (x:De) (o:ByteArray) {b2:Nat} {w:World} (f2:w.cell? ⟨b2,0,none⟩=some (.string o)) :
  aj T_ 243 [.agg x.cells.toArray,.pointer (some ⟨b2,0,none⟩)] w (.bool (decide (x.nm=o))):=by
 unfold De.cells;refine ah func243 I I ?_
 (refine Jr<|Jy I I fun _ _=>Ja I<|Ji<|bK I I ae ?_;refine JL I .here I<|ab (ag (.of I) (At.base f2 I)) I ?_;refine ab (eh (.of I) (.of I)) I ?_;refine Ja I<|Jn<|Je<|JT ?_)
 rfl
theorem Qd (x:Sr) (o:ByteArray) {b2:Nat} {w:World} (f2:w.cell? ⟨b2,0,none⟩=some (.string o)) :
  aj T_ 264 [.agg x.cells.toArray,.pointer (some ⟨b2,0,none⟩)] w (.bool (decide (x.nm=o))):=by
 unfold Sr.cells;refine ah func264 I I ?_
 (refine Jr<|Jy I I fun _ _=>Ja I<|Ji<|bK I I ae ?_;refine JL I .here I<|ab (ag (.of I) (At.base f2 I)) I ?_;refine ab (eh (.of I) (.of I)) I ?_;refine Ja I<|Jn<|Je<|JT ?_)
 rfl
theorem fw {r:Ro} {s d t p:Value} (o:ByteArray) {w:World} (h:RR w r s d t p):aj T_ 155 [RA r s d t p,.string o] w (.int .i64 (bd (cz r) o)):=by
 obtain ⟨h1,h2,h3,h4⟩:=h.one;unfold RA;refine ah func155 I I ?_
 (refine Jr<|Jy I I fun _ _=>Jy I I fun _ _=>Ja I<|Ji<|bK I I ae ?_;refine JL I (.there .here) I<|ab (bo .nil (.cons (.of I) .nil)) I ?_)
 rename_i b3 tQ b4 uQ
 with_reducible apply ai
 case hr=>exact aX
 case hd=>rfl
 case hc=>
  intro w' aq;have f2:w'.cell? ⟨b4,0,none⟩=some (.string o):=At.lit (by exact .here) I w' aq
  exact Nl (f:=243) (p:=fun x=>decide (x.nm=o)) (first:=[]) (cap:=[.pointer (some ⟨b4,0,none⟩)]) (h.keeps aq.keeps).de
   (fun x hx w2 eR=>R2 x o (cy f2 I eR))
 rw [vL];refine Ja I<|Jn<|Je<|JT ?_
 rfl
theorem mO {r:Ro} {s d t p:Value} (o:ByteArray) {w:World} (h:RR w r s d t p):aj T_ 180 [RA r s d t p,.string o] w (.int .i64 (bd (ct r) o)):=by
 obtain ⟨h1,h2,h3,h4⟩:=h.one;unfold RA;refine ah func180 I I ?_
 (refine Jr<|Jy I I fun _ _=>Jy I I fun _ _=>Ja I<|Ji<|bK I I ae ?_;refine JL I (.there .here) I<|ab (bo .nil (.cons (.of I) .nil)) I ?_)
 rename_i b3 tQ b4 uQ
 with_reducible apply ai
 case hr=>exact aX
 case hd=>rfl
 case hc=>
  intro w' aq;have f2:w'.cell? ⟨b4,0,none⟩=some (.string o):=At.lit (by exact .here) I w' aq
  exact EZ (f:=264) (p:=fun x=>decide (x.nm=o)) (first:=[]) (cap:=[.pointer (some ⟨b4,0,none⟩)]) (h.keeps aq.keeps).sr
   (fun x hx w2 eR=>Qd x o (cy f2 I eR))
 rw [vL];refine Ja I<|Jn<|Je<|JT ?_
 rfl
def BI (r:Ro) (v:Int):Int:=gH v 0 (IntKind.i64.wrap (r.lv-1))
def tW (r:Ro) (o:ByteArray):Int:=bG (decide (bd (cz r) o<0)) 10
def Lk (r:Ro) (o:ByteArray):Int:=bG (decide (bd (ct r) o<0)) 10
theorem kY {r:Ro} {s d t p:Value} (v:Int) {w w1:World} (h:RR w1 r s d t p):aj T_ 114 [RA r s d t p,.int .i64 v] w (.int .i64 (BI r v)):=by
 obtain ⟨h1,h2,h3,h4⟩:=h.one;unfold RA;refine ah func114 I I ?_
 (refine Jr<|Jy I I fun _ _=>Ja I<|Ji<|Jv I<|bK I I ae ?_;refine JL I .here I ?_)
 refine ab (EB (.of I) (.of I)) I ?_
 (refine ai dH I (fun w' aq=>(mI v 0 _ w')) ?_;refine Ja I<|Jn<|Je<|JT ?_)
 rfl
theorem eG {r:Ro} {s d t p:Value} (o:ByteArray) {w:World} (h:RR w r s d t p):aj T_ 112 [RA r s d t p,.string o] w (.int .i64 (tW r o)):=by
 obtain ⟨h1,h2,h3,h4⟩:=h.one;have qk:∀ w',aD [] w w'->aj T_ 155 [.agg #[.int .i64 r.lv,.int .i64 r.ma,s,d,t,p],.string o] w' (.int .i64 (bd (cz r) o)):=fun w' hk=>fw o (h.keeps hk)
 unfold RA;refine ah func112 I I ?_
 (refine Jr<|Jy I I fun _ _=>Ja I<|Ji<|ab (cr .here) I ?_;refine Jv I<|ai aX I (fun w' aq=>(qk w' (Mem.keeps aq))) ?_;refine JA I<|ai aX I (fun w' aq=>(dP _ 10 w')) ?_;refine Ja I<|Jn<|Je<|JT ?_)
 rfl
theorem qE {r:Ro} {s d t p:Value} (o:ByteArray) {w:World} (h:RR w r s d t p):aj T_ 122 [RA r s d t p,.string o] w (.int .i64 (Lk r o)):=by
 obtain ⟨h1,h2,h3,h4⟩:=h.one;have hsrc:∀ w',aD [] w w'->aj T_ 180 [.agg #[.int .i64 r.lv,.int .i64 r.ma,s,d,t,p],.string o] w' (.int .i64 (bd (ct r) o)):=fun w' hk=>mO o (h.keeps hk)
 unfold RA;refine ah func122 I I ?_
 (refine Jr<|Jy I I fun _ _=>Ja I<|Ji<|ab (cr .here) I ?_;refine Jv I<|ai aX I (fun w' aq=>(hsrc w' (Mem.keeps aq))) ?_;refine JA I<|ai aX I (fun w' aq=>(dP _ 10 w')) ?_;refine Ja I<|Jn<|Je<|JT ?_)
 rfl
def cG (r:Ro) (o:ByteArray):List ByteArray:=(List.range r.lv.toNat).map fun (v:Nat)=>jX r v o
theorem vV {r:Ro} {s d t p:Value} (o:ByteArray) {w:World} (h:RR w r s d t p) (BZ:r.lv<=1000) (cL:r.ti.length<=1000000):bh T_ 113 [RA r s d t p,.string o] w [] (fun _:Value=>True) id (fun v=>[row 9 1 v r.lv.toNat (aM (cG r o))]):=by
 obtain ⟨h1,h2,h3,h4⟩:=h.one;unfold RA;refine aR func113 I I ?_
 (refine Jr<|Jy I I fun _ _=>Ja I<|Ji<|Ja I<|Jn<|Jq<|Jr<|bK I I ae ?_;refine JL I .here I<|Jv I<|Jn<|J0 ?_)
 rename_i b2 uh;refine aP 9 1 ?_
 refine aY (ι:=Nat×Value) (fun x=>x.1<=r.lv.toNat)
  (fun x=>[(9,.int .i64 (x.1:Nat)),(8,.int .i64 r.lv),(5,x.2),(2,.pointer (some ⟨b2,0,none⟩)),(1,.string o)])
  (fun x=>[row 9 1 x.2 x.1 (aM ((cG r o).take x.1)),JP b2 r s d t p]) (fun x=>r.lv.toNat-x.1) ?_ ?_
 ·apply aK (0,.slice none 0 0) (Zi _)
  case hs1=>exact cj
  case ht=>
   exact .cons .here (.cons .here .nil)
 rintro ⟨k,v⟩ hk;dsimp only at hk ⊢;by_cases aL:k<r.lv.toNat
 ·have E2:((k:Nat):Int)<r.lv:=by omega
  have htk:(cG r o).take (k+1)=(cG r o).take k++[jX r (k:Nat) o]:=by
   unfold cG;rw [List.take_succ_eq_append_getElem (by simpa using aL)];simp
  have a7:aM ((cG r o).take (k+1))=aM ((cG r o).take k)++[.string (jX r (k:Nat) o)]:=by rw [htk,eQ];rfl
  have hlen:(aM ((cG r o).take k)).length=k*1:=by
   rw [dd,List.length_take];unfold cG;rw [Zd,List.length_range];omega
  (refine Jr<|JA I<|Jn<|Jq<|Jd I fun ar=>Jk<|Jq<|J0<|Jr<|Jv I<|Ja I<|Jn<|Jg<|Jv I<|ab (cr (.there .here)) I ?_;refine Jv I<|Jv I ?_)
  refine ai dH I (fun w' aq=>nb (s:=s) (d:=d) (t:=t) (p:=p) (k:Nat) o (h.keeps aq.keeps) cL) ?_;refine bb (aB (.cons (.of I) .nil) I I I I) I (fun _ _=>?_);refine bE (.of I) (.of I) (.there .here) .here an (by rfl) (eF I) (by rfl) (by rfl) (by rfl) eV (by rfl) ?_;intro v';refine Ja I<|Jx<|Jj<|Jt<|Jg<|JB I (by omega)<|Jv I<|Jn ?_;apply aJ (k+1,v') (by show k+1<=r.lv.toNat;omega) (by show r.lv.toNat-(k+1)<r.lv.toNat-k;omega)
  case hs1=>exact cj
  case ht=>
   show bn _ [row 9 1 v' (k+1) (aM ((cG r o).take (k+1))),JP b2 r s d t p] _;rw [a7];exact .cons .here (.cons (.there .here) .nil)
 ·have e:k=r.lv.toNat:=by omega
  subst e;have htk:(cG r o).take r.lv.toNat=cG r o:=List.take_of_length_le (by unfold cG;simp);rw [htk];refine Jr<|JA I<|Jn<|Jq<|Jc I fun ar=>Jp<|Jl<|Jo<|Jt<|Jr<|Jv I<|Ja I<|Jn<|Je ?_
  first | with_reducible apply aN | with_reducible apply aO
  case he=>exact dJ I I
  case hR=>
   intro w' aq;exact aG v trivial (by exact .cons .here .nil) aq I
theorem pz {r:Ro} {s d t p:Value} (v:Int) (o:ByteArray) {w:World} (h:RR w r s d t p):aj T_ 121 [RA r s d t p,.int .i64 v,.string o] w (.bool (gC r.po v o)):=by
 obtain ⟨h1,h2,h3,h4⟩:=h.one;unfold RA;refine ah func121 I I ?_
 (refine Jr<|Jy I I fun _ _=>Ja I<|Ji<|ab (cr .here) I ?_;refine Jv I<|Jv I ?_)
 refine ai dH I (fun w' aq=>Ac (s:=s) (d:=d) (t:=t) (p:=p) v o (h.keeps aq.keeps)) ?_;refine Jv I<|JJ I I<|JJ I I<|Ja I<|Ja I<|Ji<|Jv I<|Ja I<|Jn<|Je<|JT ?_
 rfl
def np (r:Ro):Prop:=r.sr.length<=300/\r.de.length<=300/\r.ti.length<=300
theorem td {r:Ro} (h:gB r=0):nD r=0/\j4 r=0/\jU r r.po=0/\z7 r=0:=by
 unfold gB at h;by_cases h1:nD r=0
 ·rw [if_neg (by rw [h1];decide)] at h;by_cases h2:j4 r=0
  ·rw [if_neg (by rw [h2];decide)] at h;by_cases h3:jU r r.po=0
   ·rw [if_neg (by rw [h3];decide)] at h;exact ⟨h1,h2,h3,h⟩
   ·rw [if_pos h3] at h;exact absurd h h3
  ·rw [if_pos h2] at h;exact absurd h h2
 ·rw [if_pos h1] at h;exact absurd h h1
def JX (r:Ro) (o:ByteArray):Int:=aV [gB r,tW r o]
def Gp (r:Ro) (o:ByteArray):List ByteArray:=if JX r o≠0 then [] else cG r o
theorem Sn {r:Ro} {s d t p:Value} (o:ByteArray) {w:World} (h:RR w r s d t p) (cL:np r):bh T_ 20 [RA r s d t p,.string o] w [] (fun _:Value=>True) (fun v=>.tuple #[v,.int .i64 (JX r o)]) (fun v=>[row 9 1 v (Gp r o).length (aM (Gp r o))]):=by
 obtain ⟨h1,h2,h3,h4⟩:=h.one;have jk:∀ w',aD [] w w'->aj T_ 34 [.agg #[.int .i64 r.lv,.int .i64 r.ma,s,d,t,p]] w' (.int .i64 (gB r)):=fun w' hk=>eN (h.keeps hk) cL
 have lM:∀ w',aD [] w w'->aj T_ 112 [.agg #[.int .i64 r.lv,.int .i64 r.ma,s,d,t,p],.string o] w' (.int .i64 (tW r o)):=fun w' hk=>eG o (h.keeps hk)
 unfold RA;refine aR func20 I I ?_;refine Jr<|Jy I I fun _ _=>Ja I<|Ja I<|Jn<|Jq<|Jq ?_;rename_i b2 uh
 with_reducible refine cC 6 (by kernel_rfl) ?_
 (refine ak (cr .here) I ?_;refine aQ bN I (fun w' aq=>(jk w' (Mem.keeps aq))) ?_;refine ak (cr .here) I ?_;refine ak jP I ?_;refine aQ aX I (fun w' aq=>(lM w' (Mem.keeps aq))) ?_;refine dX (aB (.cons (.of I) (.cons (.of I) .nil)) I I I I) I I ?_)
 with_reducible refine cY I fun bq mA=>?_
 (refine ai bN I (fun w' aq=>(dF (Mem.df aq .here I I) (bQ.cons (bQ.cons bQ.nil)))) ?_;refine Ja I<|Ji<|Jv I<|JD I<|Jn<|gl I (fun ar=>?_) fun ar=>?_;refine Jr<|Jv I<|Ja I<|Ja I<|Jn<|Ju ?_;rotate_left;refine Jk<|Jr<|ab (cr (.there .here)) I ?_;refine Jv I ?_;rotate_right)
 ·have e1:Gp r o=[]:=if_pos ar;rw [e1];refine aP 9 1 ?_
  first | with_reducible apply aN | with_reducible apply aO
  case he=>exact fW I I I
  case hR=>
   intro w' aq;exact aG (.slice none 0 0) trivial (by exact .cons .here .nil) aq I
 have e1:Gp r o=cG r o:=if_neg ar;have e0:aV [gB r,tW r o]=0:=Decidable.not_not.1 ar;have e2:JX r o=0:=e0;have hl:=vG (td (bI.1 e0 _ List.mem_cons_self)).1;have hn:(cG r o).length=r.lv.toNat:=by unfold cG;simp
 rw [e1,e2,hn];refine JN aX I (fun w1 aS=>vV o (h.keeps aS.keeps) (by omega) (by have:=cL.2.2;omega)) ?_;intro v _;dsimp only [id_eq,Zb,Za];refine Ja I<|Ja I<|Jn<|Je ?_
 first | with_reducible apply aN | with_reducible apply aO
 case he=>exact fW I I I
 case hR=>
  intro w' aq;exact aG v trivial (by exact .cons .here .nil) aq I
end Go.Proofs.A1
namespace Go.SL
open Go
section
variable {P:Program} {c:Cx} {D:List Nat} {sl:aI} {hs hs':List a8} {ty:TypeId} {pos:String} {af:Array Edge} {r:Option Nat} {ops:Array Oper} {Q:Exit->Act->World->Prop} {rest:List Oper}
theorem zj (zs:List Value) (n:Nat):Builtin.zeroCells zs.toArray n=((List.replicate n zs).flatten).toArray:=by
 unfold Builtin.zeroCells;apply Array.ext
 ·simp
 ·intro i h1 h2;have hi:i<n*zs.length:=by simpa using h1
  have hz:0<zs.length:=by
   rcases Nat.eq_zero_or_pos zs.length with e | e
   ·rw [e] at hi;omega
   ·exact e
  have hm:i % zs.length<zs.length:=Nat.mod_lt _ hz;have tN:∀ (n i:Nat) (h:i<(List.replicate n zs).flatten.length),(List.replicate n zs).flatten[i]=zs[i % zs.length]'(Nat.mod_lt _ hz):=by
   intro n
   induction n with
   | zero=>intro i h;simp at h
   | succ n ih =>
    intro i h;have e:(List.replicate (n+1) zs).flatten=zs++(List.replicate n zs).flatten:=by simp [List.replicate_succ]
    rw [List.getElem_of_eq e];by_cases hl:i<zs.length
    ·rw [List.getElem_append_left hl];congr 1;exact (Nat.mod_eq_of_lt hl).symm
    ·rw [List.getElem_append_right (by omega),ih];congr 1;exact (Nat.mod_eq_sub_mod (by omega)).symm
  have:=tN n i (by simpa using hi);rw [show (List.replicate n zs).flatten.toArray[i]=(List.replicate n zs).flatten[i]'(by simpa using hi) from I,this];simp [hm]
theorem A5 {t e:TypeId} {x:Operand} {g o n cap:Nat} {E:TypeId} {cs zs:List Value} {z:Value} [hu:iU P t (.slice e)] [hZ:lQ P e z]
  (hx:Is sl x (.slice (some ⟨g,o,none⟩) n cap)) (ht:Take hs (bC g (.cells cs.toArray E (0,0))) hs') (hz:z.cells=zs.toArray) (h1:∀ u∈zs,u.oneCell'=true) (hfit:o+n*zs.length<=cs.length)
  (k:Tr c D sl (bC g (.cells (setCells cs o (List.replicate n zs).flatten).toArray E (0,0))::hs') (WL P r ops Q rest)) :
  Tr c D sl hs (WL P r ops Q (⟨none,.call ⟨.builtin .clear,#[x],#[t]⟩,ty,pos,af,none⟩::rest)):=fun a w a7=>by
 have hm:=a7.mem.take (ht.append _);have hg:w.heap[g]? = some (.cells cs.toArray E (0,0)):=hm.bC .here;obtain ⟨w',h3,h4,h5⟩:=je (P:=P) (o:=o) (List.replicate n zs).flatten 0 cs w hg (fun u hu=>by
  obtain ⟨l,hl,QY⟩:=List.mem_flatten.1 hu;rw [List.eq_of_mem_replicate hl] at QY;exact h1 u QY) (by
  have:(List.replicate n zs).flatten.length=n*zs.length:=by simp
  omega)
 refine mH I ⟨dO _ _ _ _ _,?_⟩;rw [Oper.semAt_eq _ _ _ (by simp)];have:(execOp a.eval ⟨none,.call ⟨.builtin .clear,#[x],#[t]⟩,ty,pos,af,none⟩).run P w=.ok (.value (.tuple #[])) w':=by
  cases n with
  | zero =>
   simp [execOp,resolve,invoke,builtin,hx a a7.cP,Builtin.clear_,aU hu.eq];simpa [storeCells] using h3
  | succ n =>
   simp [execOp,resolve,invoke,builtin,hx a a7.cP,Builtin.clear_,aU hu.eq,iM (t:=e) (v:=z),hz,zj];simp [h3]
 rw [this];have k9:=Mem.store hm h4 h5;exact k _ _ (a7.heap k9)
end
end Go.SL
namespace Go.SL
open Go
section
variable {α:Type} {f:α->List Value} {sz:Nat}
theorem jb (hf:∀ x,(f x).length=sz) (l:List α):(l.map f).flatten.length=l.length*sz:=by
 rw [fU (sz:=sz) (fun r hr=>by obtain ⟨x,_,rfl⟩:=List.mem_map.1 hr;exact hf x),Zd]
theorem r6 (hf:∀ x,(f x).length=sz) {l:List α} {i:Nat} (h:i<l.length) (cur:List Value):eu ((l.map f).flatten++cur) (i*sz) sz=f l[i]:=by
 have hl:l=l.take i++l[i]::l.drop (i+1):=by rw [<- List.drop_eq_getElem_cons h,List.take_append_drop]
 have e:(l.map f).flatten=((l.take i).map f).flatten++(f l[i]++((l.drop (i+1)).map f).flatten):=
  (congrArg (fun m=>(List.map f m).flatten) hl).trans (by simp only [List.map_append,List.flatten_append,List.map_cons,List.flatten_cons])
 have hk:((l.take i).map f).flatten.length=i*sz:=by rw [jb hf,List.length_take_of_le (by omega)]
 rw [jr,e,Zh,<- hk,List.drop_append_of_le_length (by omega),List.drop_length,Za,<- hf l[i],Zh,List.take_append_of_le_length (by omega),List.take_length]
theorem tX {cs:List Value} {o n j:Nat} (hj:j<n):(eu cs o n)[j]? = cs[o+j]?:=by
 rw [jr,List.getElem?_take,if_pos hj,List.getElem?_drop]
theorem Kp (hf:∀ x,(f x).length=sz) {l:List α} {i j:Nat} (h:i<l.length) (hj:j<sz) (cur:List Value):((l.map f).flatten++cur)[i*sz+j]? = (f l[i])[j]?:=by
 rw [<- r6 hf h cur,tX hj]
theorem zA:∀ (A B C Z:List Value),Z.length=B.length->setCells (A++(B++C)) A.length Z=A++(Z++C):=by
 intro A B C Z h;apply List.ext_getElem?;intro k;rw [iL _ _ _ _ (by simp;omega)];by_cases h1:k<A.length
 ·rw [if_neg (by omega),List.getElem?_append_left h1,List.getElem?_append_left h1]
 ·by_cases h2:k-A.length<Z.length
  ·rw [if_pos (by omega),List.getElem?_append_right (show A.length<=k by omega),List.getElem?_append_left h2]
  ·rw [if_neg (by omega),List.getElem?_append_right (show A.length<=k by omega),List.getElem?_append_right (show A.length<=k by omega),List.getElem?_append_right (show B.length<=k-A.length by omega),List.getElem?_append_right (show Z.length<=k-A.length by omega),h]
theorem Ko (hf:∀ x,(f x).length=sz) {l:List α} {i:Nat} (h:i<l.length) (x:α) (cur:List Value):setCells ((l.map f).flatten++cur) (i*sz) (f x)=((l.set i x).map f).flatten++cur:=by
 have hl:l=l.take i++l[i]::l.drop (i+1):=by rw [<- List.drop_eq_getElem_cons h,List.take_append_drop]
 have e:(l.map f).flatten=((l.take i).map f).flatten++(f l[i]++((l.drop (i+1)).map f).flatten):=
  (congrArg (fun m=>(List.map f m).flatten) hl).trans (by simp only [List.map_append,List.flatten_append,List.map_cons,List.flatten_cons])
 have e2:((l.set i x).map f).flatten=((l.take i).map f).flatten++(f x++((l.drop (i+1)).map f).flatten):=by
  rw [List.set_eq_take_append_cons_drop,if_pos h];simp
 have hk:((l.take i).map f).flatten.length=i*sz:=by rw [jb hf,List.length_take_of_le (by omega)]
 rw [e,e2,Zh,Zh,Zh,Zh,<- hk];exact zA _ _ _ _ (by rw [hf,hf])
theorem Fg (hf:∀ x,(f x).length=sz) (A B:List α) (Z cur:List Value) (hz:Z.length=B.length*sz):setCells (((A++B).map f).flatten++cur) (A.length*sz) Z=(A.map f).flatten++(Z++cur):=by
 rw [List.map_append,List.flatten_append,Zh,<- jb hf A];exact zA _ _ _ _ (by rw [hz,jb hf])
theorem yl {g k n cap:Nat} (sz:Nat) (h:k<n) (hc:n<=cap):Go.sliced (some ⟨g,0,none⟩) ((k:Nat):Int).toNat n cap sz=.slice (some ⟨g,k*sz,none⟩) (n-k) (cap-k):=by
 unfold Go.sliced;rw [if_neg (by rw [Int.toNat_natCast];omega),Int.toNat_natCast];simp [ez]
theorem ym (g k cap sz:Nat):Go.sliced (some ⟨g,0,none⟩) 0 ((k:Nat):Int).toNat cap sz=.slice (some ⟨g,0,none⟩) k cap:=by
 unfold Go.sliced;rw [Int.toNat_natCast];by_cases h:cap=0
 ·rw [if_pos h];simp
 ·rw [if_neg h];simp [ez]
theorem filter_lt {q:α->Bool} {l:List α} {i:Nat} (hi:i<l.length) (h:q l[i]=false):(l.filter q).length<l.length:=
 List.length_filter_lt_length_iff_exists.2 ⟨l[i],Zj hi,by simp [h]⟩
def uT (q:α->Bool) (l:List α) (j:Nat):List α:=(l.take j).filter q++l.drop ((l.take j).filter q).length
def lq (q:α->Bool) (l:List α) (j:Nat):Nat:=((l.take j).filter q).length
theorem nH (q:α->Bool) (l:List α) {j:Nat} (hj:j<=l.length):lq q l j<=j:=by
 have:=List.length_filter_le q (l.take j);rw [List.length_take_of_le hj] at this;exact this
theorem Fb (q:α->Bool) (l:List α) {j:Nat} (hj:j<=l.length):(uT q l j).length=l.length:=by
 have:=nH q l hj;unfold lq at this;unfold uT;rw [Zg,List.length_drop];omega
theorem Fc (q:α->Bool) (l:List α) {j:Nat} (hj:j<l.length):∃ h:j<(uT q l j).length,(uT q l j)[j]=l[j]:=by
 have:=nH q l (Nat.le_of_lt hj);unfold lq at this;have h:(uT q l j)[j]? = some l[j]:=by
  unfold uT;rw [List.getElem?_append_right this,List.getElem?_drop,<- Zc hj];congr 1;omega
 exact List.getElem?_eq_some_iff.1 h
theorem vb (q:α->Bool) (l:List α) {j:Nat} (hj:j<l.length):(l.take (j+1)).filter q=(l.take j).filter q++if q l[j] then [l[j]] else []:=by
 rw [List.take_succ_eq_append_getElem hj,List.filter_append];congr 1;by_cases h:q l[j]=true
 ·rw [List.filter_cons_of_pos h,if_pos h];rfl
 ·rw [List.filter_cons_of_neg h,if_neg h];rfl
theorem DK (q:α->Bool) (l:List α) {j:Nat} (hj:j<l.length) (hq:q l[j]=false):uT q l (j+1)=uT q l j/\lq q l (j+1)=lq q l j:=by
 have e:(l.take (j+1)).filter q=(l.take j).filter q:=by rw [vb q l hj,hq];simp
 unfold uT lq;rw [e];exact ⟨I,I⟩
theorem Fa (q:α->Bool) (l:List α) {j:Nat} (hj:j<l.length) (hq:q l[j]=true):uT q l (j+1)=(uT q l j).set (lq q l j) l[j]/\lq q l (j+1)=lq q l j+1:=by
 have e:(l.take (j+1)).filter q=(l.take j).filter q++[l[j]]:=by rw [vb q l hj,if_pos hq]
 have hle:=nH q l (Nat.le_of_lt hj);unfold lq at hle;have hm:((l.take j).filter q).length<l.length:=by omega
 unfold uT lq;rw [e];refine ⟨?_,by simp⟩;rw [List.set_append_right _ _ (Nat.le_refl _),Nat.sub_self,List.drop_eq_getElem_cons hm,List.set_cons_zero,Zg,Zh]
 rfl
theorem Fe (q:α->Bool) (l:List α):uT q l l.length=l.filter q++l.drop (l.filter q).length/\lq q l l.length=(l.filter q).length:=by
 unfold uT lq;rw [List.take_length];exact ⟨I,I⟩
theorem yV (q:α->Bool) (l:List α) {i:Nat} (hi:i<l.length) (hb:∀ j (h:j<i),q (l[j]'(by omega))=true) (hq:q l[i]=false):uT q l (i+1)=l/\lq q l (i+1)=i:=by
 have e:(l.take i).filter q=l.take i:=List.filter_eq_self.2 fun x hx=>by
  obtain ⟨j,hj,rfl⟩:=List.getElem_of_mem hx;rw [List.getElem_take];exact hb j (by rw [List.length_take] at hj;omega)
 obtain ⟨h1,h2⟩:=DK q l hi hq;rw [h1,h2];unfold uT lq;rw [e,List.length_take_of_le (by omega),List.take_append_drop];exact ⟨I,I⟩
end
end Go.SL
namespace Go.Proofs.A1
open Go Go.SL
open Tryz
open Tryz renaming prog->T_
theorem BO {lv:Value} {l:List ByteArray} {p:ByteArray->Bool} {f:FuncId} {first cap:List Value} [bU T_ f] {w:World} (h:Rd w lv 1 (fG l)) (cn:∀ x∈l,∀ w',aD [] w w'->aj T_ f (first++[.string x]++cap) w' (.bool (p x))) :
  aj T_ 299 [lv,.func (.func f) first.toArray cap.toArray] w (.int .i64 (ia p l)):=by
 obtain ⟨a,cp,b,o,rfl,c8,bV,ha,hc⟩:=h;rw [bA] at *;unfold maxLen at bV;refine ah func299 I I ?_;refine Jr<|Ja I<|Jn<|Jq<|Jr<|Jv I<|JI I<|Jv I<|Jn<|J0 ?_;refine aY (fun k:Nat=>k<=l.length/\∀ i,i<k->(l[i]?.map p).getD false=false) (fun k=>[(8,.int .i64 k),(7,.int .i64 l.length),(0,.slice a l.length cp),(1,.func (.func f) first.toArray cap.toArray)]) (fun _=>[]) (fun k=>l.length-k) ?_ ?_
 ·apply aK 0 ⟨Zi _,fun i h=>by omega⟩
  case hs1=>exact cj
  case ht=>(try simp only [Ze,Zf,Za]);exact .nil
 rintro k ⟨hk,hf⟩;by_cases aL:k<l.length
 ·have cM:=ha (iy aL);have c0:w.cell? ⟨b,o+k*1,none⟩=some (.string l[k]):=(hc k _ (fF aL)).2 0 _ I;have iH:=cn _ (Zj aL);have hps:(l[k]?.map p).getD false=p l[k]:=by simp [aL]
  (refine Jr<|JA I<|Jn<|Jq<|Jd I fun ar=>Jk<|Jq<|J0<|Jr<|Jv I<|Ja I<|Ji<|Jv I<|Jv I<|Jv I<|ab (gj cM ar) I ?_;refine ab (ag (.of I) (At.base c0 I)) I ?_;refine ai bN I (fun w' aq=>(iH w' (Mem.keeps aq))) ?_;refine Jn<|oz I (fun ar=>?_) fun ar=>?_;refine Jr<|Jv I<|Ja I<|Jn<|Je<|Jm<|Jh<|Jh<|Jm<|Jh<|JT ?_;rotate_left;refine Jw<|Jj<|Jt<|Jg<|JB I (by omega)<|Jv I<|Jn ?_;rotate_right)
  ·rw [gP hf aL ar]
  ·apply aJ (k+1) ⟨by omega,fun i hi=>by
    by_cases e:i=k
    ·rw [e,hps];exact ar
    ·exact hf i (by omega)⟩ (by omega)
   case hs1=>exact cj
   case ht=>(try simp only [Ze,Zf,Za]);exact .nil
 ·obtain rfl:k=l.length:=by omega
  refine Jr<|JA I<|Jn<|Jq<|Jc I fun ar=>Jp<|Jl<|Jo<|Jt<|Jr<|Ja I<|Jn<|Je<|JT ?_;rw [fO hf]
theorem Kd {lv:Value} {l:List ByteArray} {p:ByteArray->Bool} {f:FuncId} {first cap:List Value} [bU T_ f] {w:World} (h:Rd w lv 1 (fG l)) (cn:∀ x∈l,∀ w',aD [] w w'->aj T_ f (first++[.string x]++cap) w' (.bool (p x))) :
  aj T_ 250 [lv,.func (.func f) first.toArray cap.toArray] w (.bool (l.any p)):=by
 have iH:∀ w',aD [] w w'->aj T_ 299 [lv,.func (.func f) first.toArray cap.toArray] w' (.int .i64 (ia p l)):=fun w' hk=>
  BO (h.keeps hk) fun x hx w2 eR=>cn x hx w2 (hk.trans eR)
 rw [<- kh];refine ah func250 I I ?_
 (refine Jr<|Ja I<|Ji<|Jv I<|Jv I<|ai aX I (fun w' aq=>(iH w' (Mem.keeps aq))) ?_;refine JG I<|Ja I<|Jn<|Je<|JT ?_)
 rfl
set_option maxHeartbeats 1000000 in
theorem Kx {v:Value} {n:Nat} {l:List ByteArray} {p:ByteArray->Bool} {f:FuncId} {first cap:List Value} [bU T_ f] {w:World} {fp:List Nat} (jf:fp.Nodup) (hs:ch (hp w) [row 9 1 v n (aM l)] fp) (hn:l.length=n) (cL:n<=1000000)
  (cn:∀ x∈l,∀ w',aD fp w w'->aj T_ f (first++[.string x]++cap) w' (.bool (p x))) :
  bh T_ 224 [v,.func (.func f) first.toArray cap.toArray] w fp (fun _:Value=>True) id (fun v'=>[row 9 1 v' (l.filter fun x=>!p x).length (aM (l.filter fun x=>!p x))]):=by
 refine er func224 I I jf hs ?_;refine Jr<|Ja I<|Ji<|Jv I<|Jv I ?_;refine aW (by exact .here) fun va vc e=>?_;subst e
 skip
 with_reducible apply ai
 case hr=>exact aX
 case hd=>rfl
 case hc=>
  intro w' aq;have hR:Rd w' (.slice va n vc) 1 (fG l):=dL aq (by exact .here) hn;exact BO (f:=f) (p:=p) (first:=first) (cap:=cap) hR (fun x hx w2 eR=>cn x hx w2 (aq.keeps.trans (eR.mono (by simp))))
 rcases pU p l with ⟨e1,e2⟩ | ⟨i,hi,e1,e2⟩
 ·rw [e1];have tN:(l.filter fun x=>!p x)=l:=List.filter_eq_self.2 fun x hx=>by
   have:=List.find?_eq_none.1 e2 x hx;simpa using this
  rw [tN];refine Ja I<|Jn<|Jq<|Jr<|Jv I<|JC I<|Jn<|Jd I fun ar=>Jr<|Jv I<|Ja I<|Jn<|Ju ?_
  first | with_reducible apply aN | with_reducible apply aO
  case he=>exact dJ I I
  case hR=>
   intro w' aq;exact aG (.slice va n vc) trivial (show bn _ [row 9 1 (.slice va n vc) l.length (aM l)] _ by rw [hn];exact .cons .here .nil) aq I
 rw [e1];rw [List.find?_eq_some_iff_getElem] at e2;obtain ⟨O5,i',AO,GZ,dD⟩:=e2;have B0:i'=i:=by
  have h1:ia p l=(i':Nat):=gP (fun j hj=>by
   rw [Zc (by omega)];simpa using dD j hj) AO (by rw [GZ];exact O5)
  rw [e1] at h1
  exact_mod_cast h1.symm
 subst B0;obtain ⟨st1,st2⟩:=yV (fun x=>!p x) l AO (fun j hj=>dD j hj) (by rw [GZ];simp [O5]);have hne:¬ ((i':Nat):Int) = -1:=by omega
 refine Ja I<|Jn<|Jq<|Jr<|Jv I<|JC I<|Jn<|Jc I fun ar=>Jk<|Jq<|Jr<|Jv I<|JB I (by omega)<|Ja I<|Jn<|J0 ?_;refine c7 (by exact .here) (by omega) ?_;rintro g iu cur e nV xy hsz hl;cases e;have hF:∀ x,((fun s:ByteArray=>[Value.string s]) x).length=1:=fun _=>rfl
 have hV:∀ l,aM l=(l.map (fun s:ByteArray=>[Value.string s])).flatten:=fun l=>oD l
 refine aY (fun j:Nat=>i'<j/\j<=l.length) (fun j=>[(6,.int .i64 (j:Nat)),(5,.int .i64 (lq (fun x=>!p x) l j)),(0,.slice (some ⟨g,0,none⟩) n vc),(1,.func (.func f) first.toArray cap.toArray)])
  (fun j=>[bC g (.cells (((uT (fun x=>!p x) l j).map (fun s:ByteArray=>[Value.string s])).flatten++cur).toArray 9 (0,0))]) (fun j=>l.length-j) ?_ ?_
 ·apply aK (i'+1) ⟨by omega,by omega⟩
  case hs1=>rw [st2];exact .cons I (.cons I (.cons I (.cons I .nil)))
  case ht=>rw [st1,<- hV];exact .cons .here .nil
 rintro j ⟨hj,hk⟩;by_cases aL:j<l.length
 ·have vS:j<n:=by omega
  have hle:=nH (fun x=>!p x) l hk
  have tN:=Fb (fun x=>!p x) l hk
  obtain ⟨XH,XR⟩:=Fc (fun x=>!p x) l aL;have c0:=Kp hF XH (show 0<1 by omega) cur;rw [XR] at c0;have c1:(((uT (fun x=>!p x) l j).map (fun s:ByteArray=>[Value.string s])).flatten++cur)[j*1]? = some (.string l[j]):=c0
  (refine Jq<|Jr<|Jv I<|Jv I<|JI I<|JA I<|Jn<|Jd I fun ar=>Jk<|Jq<|J0<|Jr<|Jv I<|Jv I<|ab (az (.of I) (.of I) I (by omega) ar ba) I ?_;refine ab (ag (.of I) (At.lP .here c1)) I ?_;refine Ja I<|Ji<|Jv I<|Jv I ?_)
  with_reducible apply ai
  case hr=>exact bN
  case hd=>rfl
  case hc=>
   intro w' aq;exact cn l[j] (Zj aL) w' aq.keeps
  have hm:lq (fun x=>!p x) l j<(uT (fun x=>!p x) l j).length:=by rw [tN];have:=st2;omega
  have hb:lq (fun x=>!p x) l j*1+1<=(((uT (fun x=>!p x) l j).map (fun s:ByteArray=>[Value.string s])).flatten++cur).length:=by rw [Zg,jb hF,tN];omega
  have mw:=Ko hF hm l[j] cur;have hmn:lq (fun x=>!p x) l j<n:=by omega
  cases hq:p l[j] with
  | true =>
   obtain ⟨s1,s2⟩:=DK (fun x=>!p x) l aL (by simp [hq])
   (refine JH I<|Jn<|bR (.of I) ?_;refine Jw<|Jj<|Jt<|Jg<|Jv I<|JB I (by omega)<|Ja I<|Jn ?_)
   apply aJ (j+1) ⟨by omega,by omega⟩ (by omega)
   case hs1=>rw [s2];exact .cons I (.cons I (.cons I (.cons I .nil)))
   case ht=>rw [s1];exact .cons .here .nil
  | false =>
   obtain ⟨s1,s2⟩:=Fa (fun x=>!p x) l aL (by simp [hq])
   (refine JH I<|Jn<|cE (.of I) ?_;refine Jr<|Jv I<|Jv I<|Jv I<|ab (az (.of I) (.of I) I (by omega) (by omega) ba) I ?_;refine au (.of I) (.of I) .here I I (eF I) hb mw ?_;refine Jn<|Jg<|Jv I<|JB I (by omega)<|Ja I<|Jx<|Jj<|Jt<|Jg<|Jv I<|JB I (by omega)<|Ja I<|Jn ?_)
   apply aJ (j+1) ⟨by omega,by omega⟩ (by omega)
   case hs1=>rw [s2];exact .cons I (.cons I (.cons I (.cons I .nil)))
   case ht=>rw [s1];exact .cons .here .nil
 ·obtain rfl:j=l.length:=by omega
  obtain ⟨a1,a2⟩:=Fe (fun x=>!p x) l;have hle:=nH (fun x=>!p x) l (Nat.le_refl _)
  rw [a1,a2];rw [a2] at hle;have hZ:=Fg hF (l.filter fun x=>!p x) (l.drop (l.filter fun x=>!p x).length) (List.replicate (n-(l.filter fun x=>!p x).length) [Value.string ⟨#[]⟩]).flatten cur (by simp;omega)
  have SC:(l.filter fun x=>!p x).length<l.length:=filter_lt AO (by rw [GZ];simp [O5])
  generalize (l.filter fun x=>!p x)=q at hle hZ SC ⊢
  have Xh:q.length<n:=by omega
  have SE:q.length<=vc:=by omega
  have hfit:q.length*1+(n-q.length)*[Value.string ⟨#[]⟩].length<=(((q++l.drop q.length).map (fun s:ByteArray=>[Value.string s])).flatten++cur).length:=by
   rw [Zg,jb hF,Zg,List.length_drop];simp only [List.length_cons,List.length_nil];omega
  refine Jq<|Jr<|Jv I<|Jv I<|JI I<|JA I<|Jn<|Jc I fun ar=>Jp<|Jl<|Jo<|Jt<|Jr<|Jv I<|Jv I<|ab (qI (.of I) (.of I) (by omega) (by omega)) I ?_;rw [yl 1 Xh nV];refine A5 (zs:=[Value.string ⟨#[]⟩]) (z:=.string ⟨#[]⟩) (.of I) .here I (eF I) hfit ?_;rw [hZ]
  (refine Ji<|Jv I<|Jv I<|ab (fY (.of I) (.of I) (by omega) (by omega)) I ?_;refine Ja I<|Jn<|Je ?_)
  rw [ym];have sP:((q.map (fun s:ByteArray=>[Value.string s])).flatten++((List.replicate (n-q.length) [Value.string ⟨#[]⟩]).flatten++cur)).length=vc*1:=by
   rw [<- hsz,Zg,jb hF,Zg,Zg,<- hn,hV,jb hF];have:(List.replicate (l.length-q.length) [Value.string ⟨#[]⟩]).flatten.length=(l.length-q.length)*1:=by simp
   rw [this];omega
  refine dx (n:=q.length) (sz:=1) (by exact .here) SE xy sP (by rw [jb hF]) ?_
  skip
  first | with_reducible apply aN | with_reducible apply aO
  case he=>exact dJ I I
  case hR=>
   intro w' aq;exact aG (.slice (some ⟨g,0,none⟩) q.length vc) trivial (show bn _ [row 9 1 (.slice (some ⟨g,0,none⟩) q.length vc) q.length (aM q)] _ by rw [hV];exact .cons .here .nil) aq I
set_option maxHeartbeats 1000000 in
theorem N4 {v:Value} {n:Nat} {l:List Po} {p:Po->Bool} {f:FuncId} {first cap:List Value} [bU T_ f] {w:World} {fp:List Nat} (jf:fp.Nodup) (hs:ch (hp w) [row 188 3 v n (jC l)] fp) (hn:l.length=n) (cL:n<=1000000)
  (cn:∀ x∈l,∀ w',aD fp w w'->aj T_ f (first++[.agg x.cells.toArray]++cap) w' (.bool (p x))) :
  bh T_ 314 [v,.func (.func f) first.toArray cap.toArray] w fp (fun _:Value=>True) id (fun v'=>[row 188 3 v' (l.filter fun x=>!p x).length (jC (l.filter fun x=>!p x))]):=by
 refine er func314 I I jf hs ?_;refine Jr<|Ja I<|Ji<|Jv I<|Jv I ?_;refine aW (by exact .here) fun va vc e=>?_;subst e
 skip
 with_reducible apply ai
 case hr=>exact aX
 case hd=>rfl
 case hc=>
  intro w' aq;have hR:Rd w' (.slice va n vc) 3 (ud l):=cX aq (by exact .here) hn;exact Ag (f:=f) (p:=p) (first:=first) (cap:=cap) hR (fun x hx w2 eR=>cn x hx w2 (aq.keeps.trans (eR.mono (by simp))))
 rcases pU p l with ⟨e1,e2⟩ | ⟨i,hi,e1,e2⟩
 ·rw [e1];have tN:(l.filter fun x=>!p x)=l:=List.filter_eq_self.2 fun x hx=>by
   have:=List.find?_eq_none.1 e2 x hx;simpa using this
  rw [tN];refine Ja I<|Jn<|Jq<|Jr<|Jv I<|JC I<|Jn<|Jd I fun ar=>Jr<|Jv I<|Ja I<|Jn<|Ju ?_
  first | with_reducible apply aN | with_reducible apply aO
  case he=>exact dJ I I
  case hR=>
   intro w' aq;exact aG (.slice va n vc) trivial (show bn _ [row 188 3 (.slice va n vc) l.length (jC l)] _ by rw [hn];exact .cons .here .nil) aq I
 rw [e1];rw [List.find?_eq_some_iff_getElem] at e2;obtain ⟨O5,i',AO,GZ,dD⟩:=e2;have B0:i'=i:=by
  have h1:ia p l=(i':Nat):=gP (fun j hj=>by
   rw [Zc (by omega)];simpa using dD j hj) AO (by rw [GZ];exact O5)
  rw [e1] at h1
  exact_mod_cast h1.symm
 subst B0;obtain ⟨st1,st2⟩:=yV (fun x=>!p x) l AO (fun j hj=>dD j hj) (by rw [GZ];simp [O5]);have hne:¬ ((i':Nat):Int) = -1:=by omega
 refine Ja I<|Jn<|Jq<|Jr<|Jv I<|JC I<|Jn<|Jc I fun ar=>Jk<|Jq<|Jr<|Jv I<|JB I (by omega)<|Ja I<|Jn<|J0 ?_;refine c7 (by exact .here) (by omega) ?_;rintro g iu cur e nV xy hsz hl;cases e;have hF:∀ x,(Po.cells x).length=3:=fun _=>rfl
 have hV:∀ l,jC l=(l.map Po.cells).flatten:=fun l=>rfl
 refine aY (fun j:Nat=>i'<j/\j<=l.length) (fun j=>[(6,.int .i64 (j:Nat)),(5,.int .i64 (lq (fun x=>!p x) l j)),(0,.slice (some ⟨g,0,none⟩) n vc),(1,.func (.func f) first.toArray cap.toArray)])
  (fun j=>[bC g (.cells (((uT (fun x=>!p x) l j).map Po.cells).flatten++cur).toArray 188 (0,0))]) (fun j=>l.length-j) ?_ ?_
 ·apply aK (i'+1) ⟨by omega,by omega⟩
  case hs1=>rw [st2];exact .cons I (.cons I (.cons I (.cons I .nil)))
  case ht=>rw [st1,<- hV];exact .cons .here .nil
 rintro j ⟨hj,hk⟩;by_cases aL:j<l.length
 ·have vS:j<n:=by omega
  have hle:=nH (fun x=>!p x) l hk
  have tN:=Fb (fun x=>!p x) l hk
  obtain ⟨XH,XR⟩:=Fc (fun x=>!p x) l aL;have c0:=r6 hF XH cur;rw [XR] at c0;have c1:eu (((uT (fun x=>!p x) l j).map Po.cells).flatten++cur) (j*3) 3=[.int .i64 (l[j]).lv,.string (l[j]).ou,.string (l[j]).ip]:=c0
  (refine Jq<|Jr<|Jv I<|Jv I<|JI I<|JA I<|Jn<|Jd I fun ar=>Jk<|Jq<|J0<|Jr<|Jv I<|Jv I<|ab (az (.of I) (.of I) I (by omega) ar ba) I ?_;refine ab (cm (.of I) .here c1 I) I ?_;refine Jz I I fun _ _=>au (.of I) (.of I) .here I I (fx I I I) (bF I) an ?_;refine Ji<|Jv I<|ab (cr .here) I ?_)
  with_reducible apply ai
  case hr=>exact bN
  case hd=>rfl
  case hc=>
   intro w' aq;exact cn l[j] (Zj aL) w' aq.keeps
  have hm:lq (fun x=>!p x) l j<(uT (fun x=>!p x) l j).length:=by rw [tN];have:=st2;omega
  have hb:lq (fun x=>!p x) l j*3+3<=(((uT (fun x=>!p x) l j).map Po.cells).flatten++cur).length:=by rw [Zg,jb hF,tN];omega
  have mw:=Ko hF hm l[j] cur;have hmn:lq (fun x=>!p x) l j<n:=by omega
  cases hq:p l[j] with
  | true =>
   obtain ⟨s1,s2⟩:=DK (fun x=>!p x) l aL (by simp [hq])
   (refine JH I<|Jn<|bR (.of I) ?_;refine Jw<|Jj<|Jt<|Jg<|Jv I<|JB I (by omega)<|Ja I<|Jn ?_)
   apply aJ (j+1) ⟨by omega,by omega⟩ (by omega)
   case hs1=>rw [s2];exact .cons I (.cons I (.cons I (.cons I .nil)))
   case ht=>rw [s1];exact .cons (.there .here) .nil
  | false =>
   obtain ⟨s1,s2⟩:=Fa (fun x=>!p x) l aL (by simp [hq])
   (refine JH I<|Jn<|cE (.of I) ?_;refine Jr<|Jv I<|Jv I<|ab (cr .here) I ?_;refine ab (az (.of I) (.of I) I (by omega) (by omega) ba) I ?_;refine au (.of I) (.of I) (.there .here) I I (fx I I I) hb mw ?_;refine Jn<|Jg<|Jv I<|JB I (by omega)<|Ja I<|Jx<|Jj<|Jt<|Jg<|Jv I<|JB I (by omega)<|Ja I<|Jn ?_)
   apply aJ (j+1) ⟨by omega,by omega⟩ (by omega)
   case hs1=>rw [s2];exact .cons I (.cons I (.cons I (.cons I .nil)))
   case ht=>rw [s1];exact .cons .here .nil
 ·obtain rfl:j=l.length:=by omega
  obtain ⟨a1,a2⟩:=Fe (fun x=>!p x) l;have hle:=nH (fun x=>!p x) l (Nat.le_refl _)
  rw [a1,a2];rw [a2] at hle;have hZ:=Fg hF (l.filter fun x=>!p x) (l.drop (l.filter fun x=>!p x).length) (List.replicate (n-(l.filter fun x=>!p x).length) [Value.int .i64 0,Value.string ⟨#[]⟩,Value.string ⟨#[]⟩]).flatten cur (by simp;omega)
  have SC:(l.filter fun x=>!p x).length<l.length:=filter_lt AO (by rw [GZ];simp [O5])
  generalize (l.filter fun x=>!p x)=q at hle hZ SC ⊢
  have Xh:q.length<n:=by omega
  have SE:q.length<=vc:=by omega
  have hfit:q.length*3+(n-q.length)*[Value.int .i64 0,Value.string ⟨#[]⟩,Value.string ⟨#[]⟩].length<=(((q++l.drop q.length).map Po.cells).flatten++cur).length:=by
   rw [Zg,jb hF,Zg,List.length_drop];simp only [List.length_cons,List.length_nil];omega
  refine Jq<|Jr<|Jv I<|Jv I<|JI I<|JA I<|Jn<|Jc I fun ar=>Jp<|Jl<|Jo<|Jt<|Jr<|Jv I<|Jv I<|ab (qI (.of I) (.of I) (by omega) (by omega)) I ?_;rw [yl 3 Xh nV];refine A5 (zs:=[Value.int .i64 0,Value.string ⟨#[]⟩,Value.string ⟨#[]⟩]) (z:=.agg #[.int .i64 0,.string ⟨#[]⟩,.string ⟨#[]⟩]) (.of I) .here I (fx I I I) hfit ?_;rw [hZ]
  (refine Ji<|Jv I<|Jv I<|ab (fY (.of I) (.of I) (by omega) (by omega)) I ?_;refine Ja I<|Jn<|Je ?_)
  rw [ym];have sP:((q.map Po.cells).flatten++((List.replicate (n-q.length) [Value.int .i64 0,Value.string ⟨#[]⟩,Value.string ⟨#[]⟩]).flatten++cur)).length=vc*3:=by
   rw [<- hsz,Zg,jb hF,Zg,Zg,<- hn,hV,jb hF];have:(List.replicate (l.length-q.length) [Value.int .i64 0,Value.string ⟨#[]⟩,Value.string ⟨#[]⟩]).flatten.length=(l.length-q.length)*3:=by simp
   rw [this];omega
  refine dx (n:=q.length) (sz:=3) (by exact .here) SE xy sP (by rw [jb hF]) ?_
  skip
  first | with_reducible apply aN | with_reducible apply aO
  case he=>exact dJ I I
  case hR=>
   intro w' aq;exact aG (.slice (some ⟨g,0,none⟩) q.length vc) trivial (show bn _ [row 188 3 (.slice (some ⟨g,0,none⟩) q.length vc) q.length (jC q)] _ by rw [hV];exact .cons .here .nil) aq I
end Go.Proofs.A1
