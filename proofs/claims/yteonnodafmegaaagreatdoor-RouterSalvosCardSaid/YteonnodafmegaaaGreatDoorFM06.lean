/- Parts of the proof: GkRegM GkRegN GkStr GkBits GkArr KA KB KC GkClear GkFl KD. -/
import Derived.Test.YteonnodafmegaaaGreatDoorFM04
import Derived.Test.YteonnodafmegaaaGreatDoorFM03
import Derived.Laws.Strings
import Derived.Laws.BytesString
import Derived.Test.YteonnodafmegaaaGreatDoorFM01
import Derived.Laws.Entries
import Derived.Test.YteonnodafmegaaaGreatDoorFM05
set_option linter.unusedSectionVars false
set_option linter.unusedVariables false
set_option linter.unusedSimpArgs false
namespace Go.SL
open Go
def EA (l:List Oper) (m p:Nat):Bool:=
 l.all nw&&vf l 0&&lL l.toArray (l.take m) 0&&(List.range' m (l.length-m)).all (fun k=>(List.range m).all fun i=>Nat.beq i p||((jb l []).getD k 0).testBit i)&&Nat.ble m l.length
def EB (l:List Oper) (m:Nat):Bool:=EA l m m
structure IB (l:List Oper) (m p:Nat):Prop where
 op:∀ o∈l,nw o=true
 ac:vf l 0=true
 CS:lL l.toArray (l.take m) 0=true
 tail:∀ k,m<=k->k<l.length->∀ i,i<m->i≠p->((jb l []).getD k 0).testBit i=true
 le:m<=l.length
theorem pF {l:List Oper} {m p:Nat} (h:EA l m p=true):IB l m p:=by
 simp only [EA,Zn,Zad] at h;obtain ⟨⟨⟨⟨h1,h2⟩,h3⟩,h5⟩,h6⟩:=h;refine ⟨h1,h2,h3,fun k hk aM i hi hne=>?_,by simpa using h6⟩;have:=h5 k (ZaL.2 ⟨hk,by omega⟩) i (ZX.2 hi);rw [ZR] at this;exact this.resolve_left (by simpa using hne)
theorem iF {l:List Oper} {m p:Nat} (hc:IB l m p) {i j:Nat} {x y:Oper} (yC:i<j) (hj:j<m) (hx:l[i]? = some x) (hy:l[j]? = some y):rE l.toArray x y i=true:=by
 have:=oy hc.CS (i:=i) (j:=j) yC (by rw [ZC,if_pos (by omega)];exact hx) (by rw [ZC,if_pos hj];exact hy);simpa using this
theorem pG {l:List Oper} {m p:Nat} (hc:IB l m p) {listed:Array Bool} (hsz:listed.size=l.length) (Bo:DC l (Ls listed)) {i:Nat} (hi:i∈Region.ready .any l.toArray listed) (hm:m<=i):∀ j,j<m->j≠p->Ls listed j:=by
 intro j hj hjp;obtain ⟨o,ho,hn,hd⟩:=(dD hsz).1 hi;have aM:i<l.length:=(Zl.1 ho).1;have E7:DC l (fun k=>k=i\/Ls listed k):=by
  intro k ok hk hL e he hb;rcases hL with e' | hL
  ·subst e';rw [ho] at hk;cases hk;exact .inr (hd e he hb)
  ·exact .inr (Bo k ok hk hL e he hb)
 rcases hG E7 hc.ac i aM (.inl rfl) j (hc.tail i hm aM j hj hjp) with h | h
 ·omega
 ·exact h
structure cQ where
 F:(Nat->Value)->Value
 A:(Nat->Value)->List bd
def tA (β:Nat->Value) (i:Nat) (x:Value):Nat->Value:=fun k=>if k=i then x else β k
theorem pf (β:Nat->Value) (i:Nat):tA β i (β i)=β:=by
 funext k;unfold tA;split
 ·rename_i h;rw [h]
 ·rfl
theorem ic (β:Nat->Value) (i:Nat) (x:Value):tA β i x i=x:=by unfold tA;rw [if_pos I]
theorem rr {β:Nat->Value} {i k:Nat} {x:Value} (h:k≠i):tA β i x k=β k:=by unfold tA;rw [if_neg h]
def tl (l:List Oper) (i k:Nat):Bool:=Nat.beq i k||((jb l []).getD i 0).testBit k
def dF (β:Nat->Value) (lst:Nat->Bool):List cQ->Nat->List bd
 | [],_=>[]
 | s::S,i=>(if lst i then s.A β else [])++dF β lst S (i+1)
theorem gm {β β':Nat->Value} {lst oC:Nat->Bool}:∀ {S:List cQ} {i:Nat},(∀ j s,S[j]? = some s->lst (i+j)=oC (i+j)/\(lst (i+j)=true->s.A β=s.A β'))->dF β lst S i=dF β' oC S i
 | [],_,_=>rfl
 | s :: S, i, h => by
  have h0:=h 0 s I;have ih:dF β lst S (i+1)=dF β' oC S (i+1):=gm fun j s' hj=>by have:=h (j+1) s' (by simpa using hj);rwa [show i+(j+1)=i+1+j from by omega] at this
  simp only [Zaz] at h0;unfold dF;rw [ih,<- h0.1];by_cases hl:lst i=true
  ·rw [if_pos hl,if_pos hl,h0.2 hl]
  ·rw [if_neg hl,if_neg hl]
theorem pE {β:Nat->Value} {lst oC:Nat->Bool} {k:Nat} {s:cQ}:∀ {S:List cQ} {i:Nat},S[k]? = some s->lst (i+k)=false->oC (i+k)=true->(∀ j,j≠i+k->oC j=lst j) ->
  (s.A β++dF β lst S i).Perm (dF β oC S i)
 | [],_,h,_,_,_=>by simp at h
 | s0 :: S, i, h, h1, h2, h3 => by
  cases k with
  | zero =>
   simp at h;subst h;have e:dF β lst S (i+1)=dF β oC S (i+1):=gm fun j s' hj=>⟨(h3 (i+1+j) (by omega)).symm,fun _=>rfl⟩
   simp only [Zaz] at h1 h2;unfold dF;rw [if_neg (by simp [h1]),if_pos h2,e];simp
  | succ k =>
   have ih:(s.A β++dF β lst S (i+1)).Perm (dF β oC S (i+1)):=by
    refine pE (k:=k) (by simpa using h) ?_ ?_ ?_
    all_goals rw [show i+1+k=i+(k+1) from by omega];assumption
   unfold dF;rw [h3 i (by omega)];refine List.Perm.trans ?_ (ih.append_left _);rw [<- Zh,<- Zh];exact List.perm_append_comm.append_right _
theorem pC {β:Nat->Value} {lst:Nat->Bool} {s:cQ}:∀ {S:List cQ} {i j:Nat},S[j]? = some s->lst (i+j)=true->(s.A β).Sublist (dF β lst S i)
 | [],_,j,h,_=>by simp at h
 | s0 :: S, i, 0, h, h1 => by
  simp at h;subst h;unfold dF;rw [Zaz] at h1;rw [if_pos h1];exact ZaC _ _
 | s0 :: S, i, j + 1, h, h1 => by
  unfold dF;exact (pC (S:=S) (i:=i+1) (j:=j) (by simpa using h) (by rwa [show i+1+j=i+(j+1) from by omega])).trans (ZaJ _ _)
theorem cr.sublist {h:Nat->Option Obj} {l1 l2:List bd} (hs:l1.Sublist l2):∀ {fp:List Nat},cr h l2 fp->∃ mH:List Nat,cr h l1 mH/\mH.Sublist fp:=by
 induction hs with
 | slnil=>intro fp hf;exact ⟨fp,hf,List.Sublist.refl _⟩
 | cons A _ ih =>
  rintro fp ⟨f1,f2,rfl,_,h2⟩;obtain ⟨g,hg,jI⟩:=ih h2;exact ⟨g,hg,jI.trans (ZaJ _ _)⟩
 | cons_cons A _ ih =>
  rintro fp ⟨f1,f2,rfl,h1,h2⟩;obtain ⟨g,hg,jI⟩:=ih h2;exact ⟨f1++g,⟨f1,g,I,h1,hg⟩,(List.Sublist.refl f1).append jI⟩
theorem Mem.sublist {c:Cx} {l1 l2:List bd} {w:World} (h:Mem c l2 w) (hs:l1.Sublist l2):Mem c l1 w:=by
 obtain ⟨k,fp,hn,iv,hb⟩:=h;obtain ⟨g,hg,jI⟩:=iv.sublist hs;exact ⟨k,g,hn.sublist jI,hg,fun b dM=>hb b (jI.subset dM)⟩
def mz (P:Program) (o:Oper) (a:Act) (w:World) (K:Value->World->Prop):Prop:=
 match (execOp a.eval o).run P w with
 | .ok (.value v) w'=>K v w'
 | .ok (.enter f args) w'=>w'=w/\Calls P f args w (fun e vP=>∃ v,e=.returned v/\K v vP)
 | _=>False
section
variable {P:Program} {c:Cx} {D:List Nat} {sl:aL} {hs:List bd} {Q:Exit->Act->World->Prop} {l:List Oper} {m:Nat}
def jO (c:Cx) (hs:List bd) (S:List cQ) (B:List Nat) (β:Nat->Value) (w:World):Prop:=∀ A:List bd,(A=[]\/∃ j,j∈B/\∃ s,S[j]? = some s/\A=s.A β)->Mem c (A++hs) w
variable {B:List Nat} {o:Oper} {w:World} {β:Nat->Value}
theorem jO.mem {S:List cQ} (h:jO c hs S B β w):Mem c hs w:=h [] (.inl I)
theorem jO.at {S:List cQ} (h:jO c hs S B β w) (j:Nat) {s:cQ} (hj:j∈B) (hs':S[j]? = some s):Mem c (s.A β++hs) w:=h _ (.inr ⟨j,hj,s,hs',I⟩)
def Ix (i:Nat) (s:cQ) (β:Nat->Value) (w:World) (v:Value) (w':World):Prop:=∃ x,v=s.F (tA β i x)/\aJ [] w w'/\∃ fp:List Nat,fp.Nodup/\cr (hp w') (s.A (tA β i x)) fp/\∀ b∈fp,w.heap.size<=b
def ni {α:Type} (l:List Oper) (i:Nat) (F:(Nat->Value)->α):Prop:=∀ β β',(∀ k,tl l i k=true->β k=β' k)->F β=F β'
structure Fy (P:Program) (c:Cx) (hs:List bd) (l:List Oper) (i:Nat) (o:Oper) (SL:(Nat->Value)->aL) (S:List cQ) (s:cQ):Prop where
 wZ:ni l i s.F
 w7:ni l i s.A
 run:∃ B:List Nat,(∀ j∈B,eO o j=true)/\∀ β a w,bU (SL β) a->jO c hs S B β w->if Region.wanted o (yielded l.toArray a.tmps)=true then mz P o a w (Ix i s β w) else Ix i s β w undef w
def jE (l:List Oper) (o:Oper) (j:Nat):Bool:=eO o j||(List.range l.length).any fun k=>eO o k&&(match l[k]? with | some q=>eO q j | none=>false)
theorem Hc {l:List Oper} {j:Nat} (h:eO o j=true):jE l o j=true:=by unfold jE;rw [h];rfl
structure BS (P:Program) (c:Cx) (hs:List bd) (l:List Oper) (i:Nat) (o:Oper) (SL:(Nat->Value)->aL) (S:List cQ) (s:cQ):Prop where
 wZ:ni l i s.F
 w7:ni l i s.A
 run:∃ B:List Nat,(∀ j∈B,jE l o j=true)/\∀ β a w,bU (SL β) a->jO c hs S B β w->if Region.wanted o (yielded l.toArray a.tmps)=true then mz P o a w (Ix i s β w) else Ix i s β w undef w
theorem Fy.toT {P:Program} {c:Cx} {hs:List bd} {l:List Oper} {i:Nat} {SL:(Nat->Value)->aL} {S:List cQ} {s:cQ} (h:Fy P c hs l i o SL S s):BS P c hs l i o SL S s:=⟨h.wZ,h.w7,let ⟨B,hB,r⟩:=h.run;⟨B,fun j hj=>Hc (hB j hj),r⟩⟩
inductive u0 (P:Program) (c:Cx) (hs:List bd) (l:List Oper):Nat->List Oper->((Nat->Value)->aL)->List cQ->List cQ->((Nat->Value)->aL)->Prop
 | nil {i:Nat} {SL:(Nat->Value)->aL} {S:List cQ}:u0 P c hs l i [] SL S S SL
 | step {i d:Nat} {o:Oper} {rest:List Oper} {SL l7:(Nat->Value)->aL} {S S':List cQ} {s:cQ} (hd:o.dst=some d) (fO:d<c.nt) (h:BS P c hs l i o SL S s)
   (t:u0 P c hs l (i+1) rest (fun β=>(d,s.F β)::SL β) (S++[s]) S' l7):u0 P c hs l i (o::rest) SL S S' l7
def nZ (sl:aL) (pre:List Oper) (SL:(Nat->Value)->aL) (S:List cQ):Prop:=
 ∀ β t v,c5 (SL β) t=some v->(∃ (j:Nat) (oj:Oper) (s:cQ),pre[j]? = some oj/\oj.dst=some t/\S[j]? = some s/\v=s.F β)\/((∀ oj∈pre,oj.dst≠some t)/\c5 sl t=some v)
theorem nZ.step {pre:List Oper} {SL:(Nat->Value)->aL} {S:List cQ} (h:nZ sl pre SL S) (hl:S.length=pre.length) {o:Oper} {d:Nat} {s:cQ} (hd:o.dst=some d):nZ sl (pre++[o]) (fun β=>(d,s.F β)::SL β) (S++[s]):=by
 intro β t v hv;by_cases e:d=t
 ·subst e;rw [gy] at hv;cases hv;exact .inl ⟨pre.length,o,s,by simp,hd,by rw [<- hl];simp,I⟩
 ·rw [gr e] at hv;rcases h β t v hv with ⟨j,oj,s',h1,h2,h3,h4⟩ | ⟨h1,h2⟩
  ·refine .inl ⟨j,oj,s',?_,h2,?_,h4⟩
   ·rw [ZD (Zl.1 h1).1];exact h1
   ·rw [ZD (Zl.1 h3).1];exact h3
  ·refine .inr ⟨fun oj HY=>?_,h2⟩;rcases ZB.1 HY with HY | HY
   ·exact h1 oj HY
   ·rw [ZG.1 HY,hd];simp [e]
theorem u0.spec {i:Nat} {rest:List Oper} {SL l7:(Nat->Value)->aL} {S S':List cQ} (h:u0 P c hs l i rest SL S S' l7):∀ pre:List Oper,pre.length=i->S.length=i->nZ sl pre SL S ->
  S'.length=i+rest.length/\S <+: S'/\nZ sl (pre++rest) l7 S'/\∀ k o,i<=k->(pre++rest)[k]? = some o->∃ d DQ s,o.dst=some d/\d<c.nt/\S'[k]? = some s/\nZ sl ((pre++rest).take k) DQ (S'.take k)/\BS P c hs l k o DQ (S'.take k) s:=by
 induction h with
 | @nil i SL S =>
  intro pre hp hS kL;refine ⟨by simpa using hS,List.prefix_rfl,by simpa using kL,fun k o hk ho=>?_⟩;have:=(Zl.1 ho).1;simp at this;omega
 | @step i d o rest SL l7 S S' s hd fO a7 t ih =>
  intro pre hp hS kL;obtain ⟨h1,h2,h3,h4⟩:=ih (pre++[o]) (by simp [hp]) (by simp [hS]) (kL.step (by omega) hd);rw [Zh,List.singleton_append] at h3 h4;have EY:S <+: S':=(ZaY S [s]).trans h2;have rh:S'[i]? = some s:=by
   obtain ⟨r,rfl⟩:=h2;rw [Zh,ZH (by omega),hS];simp
  have hSt:S'.take i=S:=by
   obtain ⟨r,rfl⟩:=EY;rw [<- hS];simp
  refine ⟨by rw [h1];simp;omega,EY,h3,fun k ok hk ho=>?_⟩;by_cases e:k=i
  ·subst e;have GA:ok=o:=by
    rw [ZH (by omega),hp] at ho;simpa using ho.symm
   subst GA;have htk:(pre++ok::rest).take k=pre:=by rw [<- hp];simp
   rw [htk,hSt];exact ⟨d,SL,s,hd,fO,rh,kL,a7⟩
  ·exact h4 k ok (by omega) ho
structure QF (c:Cx) (D:List Nat) (hs:List bd) (l:List Oper) (m:Nat) (S:List cQ) (a0:Act) (fuel:Nat) (listed:Array Bool) (a:Act) (w:World):Prop where
 sz:listed.size=l.length
 dc:DC l (Ls listed)
 hi:∀ k,m<=k->¬ Ls listed k
 defers:a.defers=D.map mark
 size:a.tmps.size=c.nt
 zD:∀ t,(∀ (j:Nat) (o:Oper),l[j]? = some o->Ls listed j->o.dst≠some t)->a.tmps[t]? = a0.tmps[t]?
 left:∃ U:List Nat,U.Nodup/\(∀ i,i∈U↔i<l.length/\¬ Ls listed i)/\U.length=fuel
 own:∃ β:Nat->Value,Mem c (dF β (fun i=>listed.getD i false) S 0++(hs++nE D)) w/\∀ (j:Nat) (o:Oper) (d:Nat) (s:cQ),l[j]? = some o->o.dst=some d->S[j]? = some s->Ls listed j->a.tmps[d]? = some (s.F β)
def kg (n m:Nat):Array Bool:=(List.replicate m true++List.replicate (n-m) false).toArray
theorem xz {P:Program} {dst:Option Tmp} {x:Operand} {k:Nat} {ty:TypeId} {pos:String} {af:Array Edge} {ρ:Operand->Value} {K:Value->World->Prop}
  (h:match (execOp ρ ⟨dst,.extract x k,ty,pos,af,none⟩).run P w with
   | .ok (.value v) w'=>K v w'
   | .ok (.enter f args) w'=>w'=w/\Calls P f args w (fun e vP=>∃ v,e=.returned v/\K v vP)
   | _=>False):∃ v,K v w/\∀ w2,(execOp ρ ⟨dst,.extract x k,ty,pos,af,none⟩).run P w2=.ok (.value v) w2:=by
 simp only [execOp] at h ⊢;generalize ρ x=u at h ⊢;cases u with
 | tuple vs =>
  simp only [Instr.extract] at h ⊢;cases hv:vs[k]? with
  | none=>simp [hv] at h
  | some v=>simp [hv] at h ⊢;exact h
 | _=>simp [Instr.extract] at h
def xR (l:List Oper) (p:Nat):Prop:=∃ d x k ty pos af,l[p]? = some ⟨some d,.extract x k,ty,pos,af,none⟩/\Region.noSelect l.toArray=true/\Region.free .any l.toArray ((List.range l.length).map fun j=>((jb l []).getD p 0).testBit j).toArray p=true
theorem ug {ops:Array Oper} {l1 l2:Array Bool} {i:Nat} (h:Region.free .any ops l1 i=true) (hle:∀ j,j<ops.size->j≠i->l1.getD j true=true->l2.getD j true=true):Region.free .any ops l2 i=true:=by
 unfold Region.free at h ⊢;cases hi:ops[i]? with
 | none=>rw [hi] at h;cases h
 | some oi =>
  rw [hi] at h;simp only [Zad,ZX] at h ⊢;intro j hj;have h1:=h j hj;simp only [ZR] at h1 ⊢;rcases h1 with (h1 | h1) | h1
  ·exact .inl (.inl h1)
  ·by_cases e:j=i
   ·exact .inl (.inl (by simp [e]))
   ·exact .inl (.inr (hle j hj e h1))
  ·exact .inr h1
theorem tM {l:List Oper} (Xz:vf l 0=true) {listed:Array Bool} (hsz:listed.size=l.length) (Bo:DC l (Ls listed)) {i:Nat} (hi:i∈Region.ready .any l.toArray listed) {j:Nat} (ab8:((jb l []).getD i 0).testBit j=true):j=i\/Ls listed j:=by
 obtain ⟨o,ho,hn,hd⟩:=(dD hsz).1 hi;have aM:i<l.length:=(Zl.1 ho).1;have E7:DC l (fun k=>k=i\/Ls listed k):=by
  intro k ok hk hL e he hb;rcases hL with e' | hL
  ·subst e';rw [ho] at hk;cases hk;exact .inr (hd e he hb)
  ·exact .inr (Bo k ok hk hL e he hb)
 exact hG E7 Xz i aM (.inl I) j ab8
theorem S8 {p:Nat} (hc:IB l m p) (EY:p<m->xR l p) (Vu:∀ c a w,¬ Q (.panic c) a w) {S:List cQ} {l7:(Nat->Value)->aL} (T0:u0 P c hs l 0 (l.take m) (fun _=>sl) [] S l7) {a0:Act} (h0:bU sl a0) (HZ:a0.tmps.size=c.nt)
  (tail:∀ β a w,St c D (l7 β) (dF β (fun _=>true) S 0++hs) a w->wpAnyIn (FR none) 0 P .any l.toArray Q (l.length-m) (kg l.length m) a w) :
  ∀ (fuel:Nat) (listed:Array Bool) (a:Act) (w:World),QF c D hs l m S a0 fuel listed a w->wpAnyIn (FR none) 0 P .any l.toArray Q fuel listed a w:=by
 have hle:=hc.le;have HX:nZ sl [] (fun _=>sl) []:=fun β t v hv=>.inr ⟨fun oj h=>(Zp h).elim,hv⟩
 obtain ⟨xu,_,kL,fg⟩:=T0.spec (sl:=sl) [] rfl rfl HX;rw [Za] at kL fg;rw [Zx,Zq,Zbf hle] at xu;have dP:∀ (j:Nat) (o:Oper),j<m->l[j]? = some o->(l.take m)[j]? = some o:=fun j o hj ho=>by rw [ZC,if_pos hj];exact ho
 have fD:∀ (j:Nat) (o:Oper),(l.take m)[j]? = some o->j<m/\l[j]? = some o:=fun j o ho=>by
  rw [ZC] at ho;split at ho
  ·exact ⟨by assumption,ho⟩
  ·cases ho
 have Mu:∀ j,j<m->∃ s,S[j]? = some s:=fun j hj=>⟨S[j]'(by omega),Zc (by omega)⟩
 have mf:∀ fuel listed a w,QF c D hs l m S a0 fuel listed a w->(∀ i,i<m->Ls listed i)->wpAnyIn (FR none) 0 P .any l.toArray Q fuel listed a w:=by
  intro fuel listed a w hI dK;have hL:∀ i,i<l.length->(Ls listed i↔i<m):=fun i _=>⟨fun h=>ZM fun hm=>hI.hi i hm h,dK i⟩
  obtain ⟨U,uU,oR,qV⟩:=hI.left;have iH:U.Perm (List.range' m (l.length-m)):=by
   rw [Zaw uU (Zbt)];intro i;rw [oR i,ZaL];constructor
   ·rintro ⟨h1,h2⟩;exact ⟨ZaS fun h=>h2 (dK i h),by omega⟩
   ·rintro ⟨h1,h2⟩;exact ⟨by omega,hI.hi i h1⟩
  have hlen:fuel=l.length-m:=by rw [<- qV,iH.length_eq,Zbn]
  have E3:listed=kg l.length m:=by
   have tV:(kg l.length m).size=l.length:=by simp [kg];omega
   apply Array.ext
   ·rw [hI.sz,tV]
   ·intro i h1 h2;rw [hI.sz] at h1;have h3:=hL i h1;unfold Ls at h3;rw [Zv,Zao (by rw [hI.sz];exact h1),Zam] at h3;have h4:(kg l.length m)[i]=decide (i<m):=by
     simp only [kg,List.getElem_toArray];by_cases hi:i<m
     ·rw [Zat (by simpa using hi)];simp [hi]
     ·rw [Zap (by simpa using hi)];simp [hi]
    rw [h4];by_cases hi:i<m
    ·rw [h3.2 hi];simp [hi]
    ·have:¬ listed[i]=true:=fun h=>hi (h3.1 h)
     simp [hi,this]
  subst hlen;rw [E3];obtain ⟨β,hm,jo⟩:=hI.own;have e:dF β (fun i=>listed.getD i false) S 0=dF β (fun _=>true) S 0:=gm fun j s hj=>by
   have gR:j<m:=by have:=(Zl.1 hj).1;omega
   rw [Zx];exact ⟨dK j gR,fun _=>rfl⟩
  rw [e] at hm;refine tail β a w ⟨by rw [Zh];exact hm,fun t v hv=>?_,hI.size,hI.defers⟩;rcases kL β t v hv with ⟨j,oj,s,h1,h2,h3,h4⟩ | ⟨h1,h2⟩
  ·obtain ⟨gR,ly⟩:=fD j oj h1;rw [h4];exact jo j oj t s ly h2 h3 (dK j gR)
  ·rw [hI.zD t fun j oj hj ji=>h1 oj (ZV (dP j oj (ZM fun hm=>hI.hi j hm ji) hj))]
   exact h0 t v h2
 intro fuel
 induction fuel with
 | zero =>
  intro listed a w hI;obtain ⟨U,_,oR,qV⟩:=hI.left;have hU:U=[]:=Zak.1 qV;refine mf 0 listed a w hI fun i hi=>Classical.byContradiction fun hn=>?_;have:=(oR i).2 ⟨by omega,hn⟩;rw [hU] at this;cases this
 | succ fuel ih =>
  intro listed a w hI;by_cases dK:∀ i,i<m->Ls listed i
  ·exact mf _ listed a w hI dK
  ·have hex:∃ i,i<m/\¬ Ls listed i:=Classical.byContradiction fun hh=>dK fun i hi=>Classical.byContradiction fun hn=>hh ⟨i,hi,hn⟩
   obtain ⟨i0,r7,nO⟩:=hex;have main:∀ i,i∈Region.ready .any l.toArray listed->i<m->wpOpIn (FR none) 0 P l.toArray Q i (wpAnyIn (FR none) 0 P .any l.toArray Q fuel (listed.setIfInBounds i true)) a w/\(i=p->wpAnyIn (FR none) 0 P .any l.toArray Q (fuel+1) listed a w):=by
    intro i hi nP;obtain ⟨o,ho,hn,lh⟩:=(dD hI.sz).1 hi;obtain ⟨d,DQ,s,hd,fO,rh,pS,dU⟩:=fg i o (Zi _) (dP i o nP ho);obtain ⟨wZ,w7,B,hB,gW⟩:=dU;obtain ⟨β,hm,jo⟩:=hI.own;have jU:∀ (j:Nat),eO o j=true->Ls listed j:=fun j hw=>by
     obtain ⟨e,he,hb,mG⟩:=cz hw;rw [<- mG];exact lh e he hb
    have rL:∀ (j:Nat),jE l o j=true->Ls listed j:=fun j hw=>by
     unfold jE at hw;rw [ZR] at hw;rcases hw with hw | hw
     ·exact jU j hw
     ·obtain ⟨k,_,hk⟩:=ZQ.1 hw;rw [Zn] at hk;have DZ:=jU k hk.1;cases hq:l[k]? with
      | none=>rw [hq] at hk;cases hk.2
      | some q =>
       rw [hq] at hk;obtain ⟨e,he,hb,mG⟩:=cz hk.2;rw [<- mG];exact hI.dc k q hq DZ e he hb
    have oO:∀ (j:Nat) (oj:Oper) (e:Nat),l[j]? = some oj->j<m->j≠i->oj.dst=some e->d≠e:=by
     intro j oj e hj gR hne he;rcases Zbi j i with h | h
     ·exact fun e'=>(dh (iF hc h nP hj ho) he hd).1 e'.symm
     ·exact (dh (iF hc (show i<j by omega) gR ho hj) hd he).1
    have iw:i<listed.size:=by rw [hI.sz];omega
    have Bl:nw o=true:=hc.op o (ZV ho)
    -- ze dj Oh ze operation looks at
    have hT:∀ t∈o.looksAt l.toArray,∀ v,c5 (DQ β) t=some v->a.tmps[t]? = some v:=by
     intro t ht v hv;rcases pS β t v hv with ⟨j,oj,sj,h1,h2,h3,h4⟩ | ⟨h1,h2⟩
     ·have lE:j<i:=by have:=(Zl.1 h1).1;rw [Zq] at this;omega
      rw [ZC,if_pos lE] at h1 h3;obtain ⟨gR,ly⟩:=fD j oj h1;have ji:=jU j ((dh (iF hc lE nP ly ho) h2 hd).2 (.inl ht));rw [h4];exact jo j oj t sj ly h2 h3 ji
     ·rw [hI.zD t fun j oj hj ji jh=>?_]
      ·exact h0 t v h2
      ·have gR:j<m:=ZM fun hm=>hI.hi j hm ji
       rcases Zal j i with h | h | h
       ·exact h1 oj (ZV (by rw [ZC,if_pos h];exact dP j oj gR hj)) jh
       ·subst h;exact hn ji
       ·have hw:=(dh (iF hc h gR ho hj) hd jh).2 (.inr ht);obtain ⟨e,he,hb,mG⟩:=cz hw;have:=hI.dc j oj hj ji e he hb;rw [mG] at this;exact hn this
    have tY:∀ t v,c5 (DQ β) t=some v->t<c.nt:=by
     intro t v hv;rcases pS β t v hv with ⟨j,oj,sj,h1,h2,_,_⟩ | ⟨_,h2⟩
     ·have lE:j<i:=by have:=(Zl.1 h1).1;rw [Zq] at this;omega
      rw [ZC,if_pos lE] at h1;obtain ⟨d',_,_,u9,ub,_⟩:=fg j oj (Zi _) h1;rw [h2] at u9;cases u9;exact ub
     ·have:=h0 t v h2;rw [<- HZ];exact (Z1.1 this).1
    obtain ⟨a',lF,jB,_⟩:=nQ hI.size tY hT;have ue:jO c hs (S.take i) B β w:=by
     rintro A (rfl | ⟨j,hj,sj,h1,rfl⟩)
     ·exact hm.sublist ((ZaC _ _).trans (ZaJ _ _))
     ·have lE:j<i:=by have:=(Zl.1 h1).1;rw [Zq] at this;omega
      rw [ZC,if_pos lE] at h1;have ji:=rL j (hB j hj);exact hm.sublist ((pC (lst:=fun i=>listed.getD i false) (i:=0) h1 (by rw [Zx];exact ji)).append (ZaC _ _))
    have hq:=gW β a' w lF ue;have hex:=ix (o:=o) (ops:=l.toArray) Bl jB
    -- N0 a done operation SN UF not Uo on this one
    have mZ:∀ j,Ls listed j->∀ x k,tl l j k=true->β k=tA β i x k:=by
     intro j ji x k hk;refine (rr fun e=>?_).symm;subst e;unfold tl at hk;rw [ZR] at hk;rcases hk with hk | hk
     ·have:j=k:=by simpa using hk
      subst this;exact hn ji
     ·have DX:j<l.length:=by
       have gR:j<m:=ZM fun hm=>hI.hi j hm ji
       omega
      exact hn (hG hI.dc hc.ac j DX ji k hk)
    have gB:∀ v w',Ix i s β w v w'->wpAnyIn (FR none) 0 P .any l.toArray Q fuel (listed.setIfInBounds i true) (a.put o.dst v) w':=by
     rintro v w' ⟨x,rfl,hk,fp,jq,iv,tZ⟩;refine ih _ _ _ ⟨by simpa using hI.sz,?_,?_,by rw [hd];exact hI.defers,by simpa [Act.put,hd] using hI.size,?_,?_,tA β i x,?_,?_⟩
     ·intro k ok qH hL e he hb;rw [bX iw] at hL ⊢;rcases hL with e' | hL
      ·subst e';rw [ho] at qH;cases qH;exact .inr (lh e he hb)
      ·exact .inr (hI.dc k ok qH hL e he hb)
     ·intro k qH hL;rw [bX iw] at hL;rcases hL with e | hL
      ·omega
      ·exact hI.hi k qH hL
     ·intro t ht;have h1:d≠t:=fun e=>by subst e;exact ht i o ho ((bX iw).2 (.inl rfl)) hd
      rw [hd];simp only [Act.put,ZF h1];exact hI.zD t fun j oj hj hL=>ht j oj hj ((bX iw).2 (.inr hL))
     ·obtain ⟨U,uU,oR,qV⟩:=hI.left;refine ⟨U.erase i,uU.erase i,fun k=>?_,?_⟩
      ·rw [uU.mem_erase_iff,oR k,bX iw];constructor
       ·rintro ⟨h1,h2,h3⟩;exact ⟨h2,fun h=>h.elim h1 h3⟩
       ·rintro ⟨h1,h2⟩;exact ⟨fun e=>h2 (.inl e),h1,fun h=>h2 (.inr h)⟩
      ·have PN:i∈U:=(oR i).2 ⟨by omega,hn⟩;rw [ZaB PN,qV];rfl
     ·have l5:Mem c (s.A (tA β i x)++(dF β (fun i=>listed.getD i false) S 0++(hs++nE D))) w':=Mem.RF (As:=[]) hm fun oY _ hf=>by
       rw [show oY=[] from hf];exact ⟨hk,fp,jq,iv,fun b hb=>.inr (tZ b hb)⟩
      have e1:dF β (fun i=>listed.getD i false) S 0=dF (tA β i x) (fun i=>listed.getD i false) S 0:=gm fun j sj hj=>by
       refine ⟨I,fun hl=>?_⟩;rw [Zx] at hl;have gR:j<m:=by have:=(Zl.1 hj).1;omega
       obtain ⟨oj,HY⟩:∃ oj,l[j]? = some oj:=⟨l[j]'(by omega),Zc (by omega)⟩;obtain ⟨_,_,s2,_,_,hs2,_,pV⟩:=fg j oj (Zi _) (dP j oj gR HY);rw [hj] at hs2;cases hs2;exact pV.w7 _ _ (mZ j hl x)
      rw [e1,<- Zh] at l5;refine l5.perm ((pE (k:=i) rh ?_ ?_ ?_).append_right _)
      ·rw [Zx];show listed.getD i false=false;have:¬ listed.getD i false=true:=hn;simpa using this
      ·rw [Zx];exact (bX iw).2 (.inl I)
      ·intro j hj;rw [Zx] at hj;simp [Zv,ZF (Ne.symm hj)]
     ·intro j oj e sj hj he ke hL;rw [bX iw] at hL;by_cases lE:j=i
      ·subst lE;rw [ho] at hj;cases hj;rw [hd] at he;cases he;rw [rh] at ke;cases ke;rw [hd];simp [Act.put,hI.size,fO]
      ·have yh:=hL.resolve_left lE;have gR:j<m:=ZM fun hm=>hI.hi j hm yh
       obtain ⟨_,_,s2,_,_,hs2,_,pV⟩:=fg j oj (Zi _) (dP j oj gR hj);rw [ke] at hs2;cases hs2;rw [hd];simp only [Act.put,ZF (oO j oj e hj gR lE he)];rw [<- pV.wZ _ _ (mZ j yh x)];exact jo j oj e sj hj he ke yh
    have IN:=hq;refine ⟨?_,fun NI=>?_⟩
    rotate_left
    ·subst NI;obtain ⟨d',x',k',VN,pos',Yi,yA,LU,eK⟩:=EY nP;rw [ho] at yA;cases yA;rw [if_pos (by simp [Region.wanted])] at IN;unfold mz at IN;obtain ⟨v,hv,xq⟩:=xz IN;have tZ:Region.free .any l.toArray listed i=true:=ug eK fun j hj hne hb=>by
      have ly:j<l.length:=by simpa using hj
      have dM:((jb l []).getD i 0).testBit j=true:=by
       rw [Zv] at hb;simpa [ly] using hb
      have Xb:j<listed.size:=by rw [hI.sz];exact ly
      rcases tM hc.ac hI.sz hI.dc hi dM with e | hL
      ·exact absurd e hne
      ·unfold Ls at hL;rw [Zv,Zao Xb] at hL ⊢;exact hL
     refine wpAnyIn_take (oi:=⟨some d',.extract x' k',VN,pos',Yi,none⟩) (v:=v) I (by simpa using ho) LU tZ (by simpa using hi) (fun c a w h=>(Vu c _ w h).elim) ⟨.inl ⟨by simp [Region.wanted],fun w2=>by rw [<- hex];exact xq w2⟩,fun w2=>rfl⟩ (gB v w hv)
    unfold wpOpIn;rw [show l.toArray[i]? = some o from by simpa using ho];simp only [];rw [gS jB] at hq;split
    ·rename_i hw;rw [if_pos hw] at hq;refine ⟨dT _ _ _ _ _,?_⟩;rw [Oper.semAt_eq _ _ _ (fun cc he=>by simp [nw,he] at Bl),<- hex]
     unfold mz at hq
     revert hq
     generalize (execOp a'.eval o).run P w=res;intro hq
     match res,hq with
     | .ok (.value v) w',hq=>exact gB v w' hq
     | .ok (.enter f args) w', ⟨e, cF⟩ =>
      subst e;refine ⟨by simp [FR,Fence.wide],(iA cF).mono fun e vP h=>?_⟩;obtain ⟨v,rfl,hq⟩:=h;exact gB v vP hq
    ·rename_i hw;rw [if_neg hw] at hq;exact ⟨fun _ _=>trivial,gB undef w hq⟩
   by_cases hp:p<m/\p∈Region.ready .any l.toArray listed
   ·exact (main p hp.2 hp.1).2 I
   ·refine ⟨fun hr=>?_,fun i hi=>?_⟩
    ·obtain ⟨i,hi⟩:=jc hI.sz hc.ac ⟨i0,by omega,nO⟩;rw [hr] at hi;cases hi
    ·have nP:i<m:=ZM fun hm=>by
      have GB:=pG hc hI.sz hI.dc hi hm;by_cases DW:p<m
      ·by_cases RD:Ls listed p
       ·exact nO (by
         by_cases e:i0=p
         ·rw [e];exact RD
         ·exact GB i0 r7 e)
       ·refine hp ⟨DW,(dD hI.sz).2 ⟨l[p]'(by omega),Zc (by omega),RD,fun e he hb=>?_⟩⟩;have aM:=jv hc.ac (Zc (show p<l.length by omega)) e he hb;exact GB e.on (by omega) (by omega)
      ·exact nO (GB i0 r7 (by omega))
     exact (main i hi nP).1
def oM (P:Program) (c:Cx) (D:List Nat) (hs:List bd) (l:List Oper) (Q:Exit->Act->World->Prop) (m i n:Nat) (rest:List Oper) (SL:(Nat->Value)->aL) (S:List cQ):Prop:=
 ∃ S' l7,u0 P c hs l i (rest.take n) SL S S' l7/\∀ β,Tr c D (l7 β) (dF β (fun _=>true) S' 0++hs) (Left P l.toArray Q (l.length-m) (kg l.length m))
theorem dO {id:Nat} (m:Nat) [pW:Sa P] (gD:EB l m=true) (k:oM P c D hs l Q m 0 m l (fun _=>sl) []):Tr c D sl hs (WP P none (.region id l.toArray true) Q):=fun a w a7=>by
 obtain ⟨S,l7,hp,ht⟩:=k;have h:(Code.region id l.toArray true).wpIn (FR none) 0 P (NP Q) a w:=wpIn_region_any pW.eq (by
  refine S8 (p:=m) (pF gD) (fun h=>absurd h (ZbD _)) (fun c a w h=>h.elim) hp a7.dj a7.size (fun β a w a7=>ht β a w a7) l.toArray.size _ _ _ ⟨by simp,?_,?_,a7.defers,a7.size,fun t _=>rfl,?_,fun _=>undef,?_,?_⟩
  ·exact fun k o _ hL=>absurd hL (eA _ _)
  ·exact fun k _ hL=>eA _ _ hL
  ·exact ⟨List.range l.length,Zbk,fun i=>⟨fun h=>⟨by simpa using h,eA _ _⟩,fun h=>by simpa using h.1⟩,by simp⟩
  ·have e:∀ (T:List cQ) (i:Nat),dF (fun _=>undef) (fun i=>(Array.replicate l.toArray.size false).getD i false) T i=[]:=by
    intro T
    induction T with
    | nil=>intro i;rfl
    | cons s T ih =>
     intro i;have:=eA l.toArray.size i;unfold Ls at this;unfold dF;rw [if_neg this,ih];rfl
   rw [e];exact a7.mem.drew
  ·exact fun j o d s _ _ _ hL=>absurd hL (eA _ _))
 exact wpIn_mono h fun e a' w' h=>by
  cases e with
  | panic c=>exact h.elim
  | _=>exact h
end
end Go.SL
namespace Go.SL
open Go
def ed:Value->Nat
 | .int _ n=>n.toNat
 | _=>0
theorem lP (b:Nat):ed (.q (b:Int))=b:=by simp [ed]
def yi:Value->Option Addr×Nat
 | .slice a _ c=>(a,c)
 | _=>(none,0)
def ez (β:Nat->Value):List cQ->List bd
 | []=>[]
 | s::S=>s.A β++ez β S
theorem CP (β:Nat->Value):∀ (S:List cQ) (i:Nat),dF β (fun _=>true) S i=ez β S
 | [],_=>rfl
 | s::S,i=>by rw [dF,ez,if_pos rfl,CP β S]
section
variable {P:Program} {c:Cx} {D:List Nat} {sl:aL} {hs hs':List bd} {X:Act->World->Prop} {Q:Exit->Act->World->Prop} {l:List Oper} {m i n d:Nat} {op:Op} {ty:TypeId} {pos:String} {af:Array Edge} {rest:List Oper} {SL:(Nat->Value)->aL} {S:List cQ}
theorem gH (l:List Oper) (i:Nat):tl l i i=true:=by simp [tl]
theorem tp {o:Oper} {s:cQ} (hd:o.dst=some d) (fO:Nat.blt d c.nt=true) (h:Fy P c hs l i o SL S s) (k:oM P c D hs l Q m (i+1) n rest (fun β=>(d,s.F β)::SL β) (S++[s])):oM P c D hs l Q m i (n+1) (o::rest) SL S:=by
 obtain ⟨S',l7,hp,ht⟩:=k;exact ⟨S',l7,.step hd (by simpa [Z4] using fO) h.toT hp,ht⟩
variable {F:(Nat->Value)->Value} {want:Bool}
theorem Yh {s:cQ} (j:Nat) (hS:S[j]? = some s) (hw:jE l ⟨some d,op,ty,pos,af,none⟩ j=true) (hr:∀ β,du P c (SL β) (s.A β++hs) ⟨some d,op,ty,pos,af,none⟩ (F β)) (hi:ni l i F) (hd:Nat.blt d c.nt=true)
  (k:oM P c D hs l Q m (i+1) n rest (fun β=>(d,F β)::SL β) (S++[⟨F,fun _=>[]⟩])):oM P c D hs l Q m i (n+1) (⟨some d,op,ty,pos,af,none⟩::rest) SL S:=by
 obtain ⟨S',l7,hp,ht⟩:=k;refine ⟨S',l7,.step I (by simpa [Z4] using hd) (s:=⟨F,fun _=>[]⟩) ⟨hi,fun _ _ _=>rfl,[j],by simpa using hw,fun β a w h1 h2=>?_⟩ hp,ht⟩;rw [if_pos (by simp [Region.wanted])];unfold mz;rw [(hr β).2 a w h1 (h2.at j (by simp) hS)];exact ⟨β i,by rw [pf],.refl _ _,[],Zah,I,by simp⟩
theorem dq {dst:Option Tmp} {j gs:Nat} (hj:((l.toArray[j]?).bind (·.dst))=some gs) (hq:∀ β,c5 (SL β) gs=some (.bool want))
  (k:oM P c D hs l Q m i (n+1) (⟨dst,op,ty,pos,af,none⟩::rest) SL S):oM P c D hs l Q m i (n+1) (⟨dst,op,ty,pos,af,some (j,want)⟩::rest) SL S:=by
 obtain ⟨S',l7,hp,ht⟩:=k;refine ⟨S',l7,?_,ht⟩;cases hp with
 | step hd fO h t =>
  obtain ⟨h1,h2,B,hB,hr⟩:=h;refine .step hd fO ⟨h1,h2,B,hB,fun β a w hs1 hb=>?_⟩ t;have:=hr β a w hs1 hb;rw [if_pos (by simp [Region.wanted])] at this;rw [lX (o:=⟨dst,op,ty,pos,af,some (j,want)⟩) (c0:=true) I hj hs1 (by rw [hq β];rfl),if_pos (by simp)];exact this
theorem dX {j gs:Nat} {v:Value} (hj:((l.toArray[j]?).bind (·.dst))=some gs) (hq:∀ β,c5 (SL β) gs=some v) (hv:v=undef\/v=.bool (!want)) (hd:Nat.blt d c.nt=true)
  (k:oM P c D hs l Q m (i+1) n rest (fun β=>(d,undef)::SL β) (S++[⟨fun _=>undef,fun _=>[]⟩])):oM P c D hs l Q m i (n+1) (⟨some d,op,ty,pos,af,some (j,want)⟩::rest) SL S:=
 tp (s:=⟨fun _=>undef,fun _=>[]⟩) I hd ⟨fun _ _ _=>rfl,fun _ _ _=>rfl,[],by simp,fun β a w h1 h2=>by
  have hw:∃ c0 q,gv c0 (.bool q)=v/\(c0&&(q==want))=false:=by
   rcases hv with e | e
   ·exact ⟨false,want,by rw [e];rfl,I⟩
   ·exact ⟨true,!want,by rw [e];rfl,by cases want <;> rfl⟩
  obtain ⟨c0,q,e,Vq⟩:=hw;rw [lX (o:=⟨some d,op,ty,pos,af,some (j,want)⟩) (c0:=c0) (q:=q) I hj h1 (by rw [hq β,e]),if_neg (by simpa using Vq)];exact ⟨β i,I,.refl _ _,[],Zah,I,by simp⟩⟩ k
theorem fq (k:∀ β,Tr c D (SL β) (ez β S++hs) (Left P l.toArray Q (l.length-m) (kg l.length m))):oM P c D hs l Q m i 0 rest SL S:=
 ⟨S,SL,.nil,fun β=>by rw [CP];exact k β⟩
theorem aA (hr:∀ β,du P c (SL β) hs ⟨some d,op,ty,pos,af,none⟩ (F β)) (hi:ni l i F) (hd:Nat.blt d c.nt=true) (k:oM P c D hs l Q m (i+1) n rest (fun β=>(d,F β)::SL β) (S++[⟨F,fun _=>[]⟩])) :
  oM P c D hs l Q m i (n+1) (⟨some d,op,ty,pos,af,none⟩::rest) SL S:=
 tp (s:=⟨F,fun _=>[]⟩) I hd ⟨hi,fun _ _ _=>rfl,[],by simp,fun β a w h1 h2=>by
  rw [if_pos (by simp [Region.wanted])];unfold mz;rw [(hr β).2 a w h1 h2.mem];exact ⟨β i,by rw [pf],.refl _ _,[],Zah,I,by simp⟩⟩ k
theorem c7 {f:FuncId} {args:(Nat->Value)->List Value} (B:List Nat) (hB:(B.all fun j=>eO ⟨some d,op,ty,pos,af,none⟩ j)=true) (hr:∀ β,mM P (SL β) ⟨some d,op,ty,pos,af,none⟩ f (args β)) (hi:ni l i F) (hd:Nat.blt d c.nt=true)
  (hc:∀ β w,jO c hs S B β w->ak P f (args β) w (F β)) (k:oM P c D hs l Q m (i+1) n rest (fun β=>(d,F β)::SL β) (S++[⟨F,fun _=>[]⟩])) :
  oM P c D hs l Q m i (n+1) (⟨some d,op,ty,pos,af,none⟩::rest) SL S:=
 tp (s:=⟨F,fun _=>[]⟩) I hd ⟨hi,fun _ _ _=>rfl,B,fun j hj=>Zad.1 hB j hj,fun β a w h1 h2=>by
  rw [if_pos (by simp [Region.wanted])];unfold mz;rw [(hr β).2 a w h1];exact ⟨I,(hc β w h2).mono fun e w' ⟨he,hk⟩=>⟨F β,he,β i,by rw [pf],hk,[],Zah,I,by simp⟩⟩⟩ k
theorem fC {ι:Type} {Φ:ι->Prop} {val:ι->Value} {own:ι->List bd} (g:Value->ι) (hg:∀ x,∃ v,g v=x) {f:FuncId} {args:(Nat->Value)->List Value} (B:List Nat) (hB:(B.all fun j=>eO ⟨some d,op,ty,pos,af,none⟩ j)=true)
  (hr:∀ β,mM P (SL β) ⟨some d,op,ty,pos,af,none⟩ f (args β)) (hd:Nat.blt d c.nt=true) (hc:∀ β w,jO c hs S B β w->bh P f (args β) w [] Φ val own)
  (k:oM P c D hs l Q m (i+1) n rest (fun β=>(d,val (g (β i)))::SL β) (S++[⟨fun β=>val (g (β i)),fun β=>own (g (β i))⟩])) :
  oM P c D hs l Q m i (n+1) (⟨some d,op,ty,pos,af,none⟩::rest) SL S:=
 tp (s:=⟨fun β=>val (g (β i)),fun β=>own (g (β i))⟩) I hd ⟨fun β β' h=>by simp only [h i (gH l i)],fun β β' h=>by simp only [h i (gH l i)],B,fun j hj=>Zad.1 hB j hj,fun β a w h1 h2=>by
  rw [if_pos (by simp [Region.wanted])];unfold mz;rw [(hr β).2 a w h1];refine ⟨I,(hc β w h2).mono fun e w' ⟨x,he,_,hk,fp,hn,hs',hf⟩=>?_⟩;obtain ⟨v,hv⟩:=hg x;refine ⟨val x,he,v,by simp only [ic,hv],hk,fp,hn,by simp only [ic,hv];exact hs',fun b hb=>?_⟩;rcases hf b hb with h | h
  ·cases h
  ·exact h⟩ k
theorem kD {V:Nat->Value} {ob:(Nat->Value)->Obj} (hr:∀ β,ql P c (SL β) hs ⟨some d,op,ty,pos,af,none⟩ V (ob β)) (hi:∀ β β',(∀ k,k≠i->tl l i k=true->β k=β' k)->ob β=ob β') (hd:Nat.blt d c.nt=true)
  (k:oM P c D hs l Q m (i+1) n rest (fun β=>(d,V (ed (β i)))::SL β) (S++[⟨fun β=>V (ed (β i)),fun β=>[bz (ed (β i)) (ob β)]⟩])) :
  oM P c D hs l Q m i (n+1) (⟨some d,op,ty,pos,af,none⟩::rest) SL S:=
 tp (s:=⟨fun β=>V (ed (β i)),fun β=>[bz (ed (β i)) (ob β)]⟩) I hd ⟨fun β β' h=>by simp only [h i (gH l i)],fun β β' h=>by simp only [h i (gH l i),hi β β' fun k _ hk=>h k hk],[],by simp,fun β a w h1 h2=>by
  rw [if_pos (by simp [Region.wanted])];unfold mz;rw [(hr β).2 a w h1 h2.mem];have e:ob (tA β i (.q (w.heap.size:Int)))=ob β:=hi _ _ fun k hk _=>rr hk
  exact ⟨.q (w.heap.size:Int),by simp only [ic,lP],.alloc _ _ _,[w.heap.size],by simp,⟨[w.heap.size],[],I,⟨by simp only [ic,lP],by simp only [ic,lP];rw [e];exact World.alloc_heap_new w (ob β)⟩,I⟩,by simp⟩⟩ k
end
end Go.SL
namespace Go.SL
open Go
section
variable {P:Program} {c:Cx} {sl:aL} {hs:List bd} {dst:Option Tmp} {ty:TypeId} {pos:String} {af:Array Edge} {g:Option (Nat×Bool)}
theorem ep {x:Operand} {a:Addr} (hx:Is sl x (.pointer (some a))):du P c sl hs ⟨dst,.nilCheck x,ty,pos,af,g⟩ (.pointer (some a)):=
 ⟨by simp,fun ac w ha _=>by simp [execOp,hx ac ha]⟩
end
section
variable {P:Program} {c:Cx} {D:List Nat} {hs:List bd} {Q:Exit->Act->World->Prop} {l:List Oper} {m i n d:Nat} {op:Op} {ty:TypeId} {pos:String} {af:Array Edge} {rest:List Oper} {SL:(Nat->Value)->aL} {S:List cQ}
theorem dR {v:Value}:ni l i (fun _=>v):=fun _ _ _=>rfl
end
section
variable {P:Program} {c:Cx} {D:List Nat} {sl:aL} {hs:List bd} {Q:Exit->Act->World->Prop} {ops:Array Oper} {fuel:Nat} {listed:Array Bool}
end
section
variable {P:Program} {r:Option Nat} {c:Cx} {D:List Nat} {sl:aL} {hs:List bd} {Q:Exit->Act->World->Prop} {ops:Array Oper} {fuel i:Nat} {listed:Array Bool}
def Ah (P:Program) (r:Option Nat) (ops:Array Oper) (Q:Exit->Act->World->Prop) (fuel:Nat) (listed:Array Bool):Act->World->Prop:=wpAnyIn (FR r) 0 P .any ops (NP Q) fuel listed
def R9 (P:Program) (r:Option Nat) (c:Cx) (D:List Nat) (sl:aL) (hs:List bd) (ops:Array Oper) (Q:Exit->Act->World->Prop) (fuel:Nat) (listed:Array Bool) (i:Nat):Prop:=
 ∀ a w,St c D sl hs a w->wpOpIn (FR r) 0 P ops (NP Q) i (Ah P r ops Q fuel (listed.setIfInBounds i true)) a w
theorem uI {rs:List Nat} (hr:Region.ready .any ops listed=rs) (hne:rs≠[]) (h:∀ i∈rs,R9 P r c D sl hs ops Q fuel listed i):Tr c D sl hs (Ah P r ops Q (fuel+1) listed):=fun a w a7=>
 wpAnyIn_all hr hne fun i hi=>h i hi a w a7
theorem wI {d:Option Tmp} {op:Op} {ty:TypeId} {pos:String} {af:Array Edge} {g:Option (Nat×Bool)} (hi:ops[i]? = some ⟨d,op,ty,pos,af,g⟩) (h:Tr c D sl hs (WL P r ops (Exit.then (Ah P r ops Q fuel (listed.setIfInBounds i true)) (NP Q)) [⟨d,op,ty,pos,af,g⟩])):R9 P r c D sl hs ops Q fuel listed i:=fun a w a7=>by
 have h1:=h a w a7;unfold wpOpIn;simp only [hi];unfold WL at h1;split
 ·rename_i hw;rw [if_pos hw] at h1;exact Oper.vN (fun a w h=>h) (fun c a w h=>h) (fun h=>h) h1
 ·rename_i hw;rw [if_neg hw] at h1;exact ⟨fun _ _=>trivial,h1⟩
theorem ER (hr:Region.ready .any ops listed=[]) (k:Tr c D sl hs (Q .normal)):Tr c D sl hs (Ah P r ops Q fuel listed):=fun a w a7=>
 wpAnyIn_done (Q:=NP Q) hr (k a w a7) fuel
end
end Go.SL
namespace Go.SL
open Go
variable {P:Program} {c:Cx} {sl:aL} {hs:List bd} {dst:Option Tmp} {ty:TypeId} {pos:String} {af:Array Edge} {g:Option (Nat×Bool)}
end Go.SL
namespace Go.SL
open Go
section
variable {P:Program} {c:Cx} {sl:aL} {hs:List bd} {dst:Option Tmp} {ty:TypeId} {pos:String} {af:Array Edge} {g:Option (Nat×Bool)}
theorem zr {t e:TypeId} {m n:Nat} {agg:Bool} {x:Operand} {b o:Nat} [hu:jw P t (.array m e)] [hT:Ty P e agg n] (hx:Is sl x (.pointer (some ⟨b,o,none⟩))) :
  du P c sl hs ⟨dst,.slice t x none none none,ty,pos,af,g⟩ (.slice (some ⟨b,o,none⟩) m m):=
 ⟨by simp,fun ac w ha _=>by
  simp only [execOp,hx ac ha,Option.map];refine value_of ?_;simp [Instr.sliceAt,aX hu.eq,Instr.sureAddr,Instr.sliceBounds,gl (t:=e) (agg:=agg) (n:=n),eJ]⟩
end
end Go.SL
namespace Go.Proofs.A1
open Go Go.SL
open Tryz
open Tryz renaming prog->T_
theorem Q5 (x:Int) (w:World):ak T_ 342 [.q x] w (.bool false):=by
 refine ah func342 I I ?_;refine Jr<|Ja I<|Ji<|Jv I<|Jv I<|JD I<|Ja I<|Jn<|Je<|JT ?_;simp
theorem Dz (x y:Int) (w:World):ak T_ 300 [.q x,.q y] w (.q (lA x y)):=by
 refine ah func300 I I ?_
 (refine Jr<|Ja I<|Ji<|Jv I<|aj bN I (fun w' aB=>(Q5 x w'))<|Ja I<|Ji<|Jv I<|aj bN I (fun w' aB=>(Q5 y w'))<|Ja I<|Jn<|Jq<|Jr<|Jv I<|Jn<|bZ (.of I)<|Jk<|Jq<|Jr<|Jv I<|Jn<|bZ (.of I)<|Jk<|Jq<|Jr<|Jv I<|Jv I<|JA I<|Jn<|gG I (fun au=>?_) fun au=>?_;refine Jr<|Ja I<|Jn<|Ju<|JT ?_;rotate_left;refine Jk<|Jq<|Jr<|Jv I<|Jv I<|JE I<|Jn<|gG I (fun au=>?_) fun au=>?_;refine Jr<|Ja I<|Jn<|Ju<|JT ?_;rotate_left;refine Jk<|Jr<|Ja I<|Jn<|Je<|JT ?_;rotate_right;rotate_right)
 ·rw [lA,if_pos au]
 ·rename_i h1;rw [lA,if_neg h1,if_pos au]
 ·rename_i h1;rw [lA,if_neg h1,if_neg au]
variable {w:World}
theorem Wj {lv:Value} {l:List Int} (h:Rd w lv 1 (ints l)):ak T_ 319 [lv] w (.q (aZ l)):=by
 obtain ⟨a,cp,b,o,rfl,dy,bT,ha,hc⟩:=h;rw [dz] at *;unfold maxLen at bT;refine ah func319 I I ?_;refine Jr<|Ja I<|Ji<|Ja I<|Jn<|Jq<|Jr<|Jv I<|JI I<|Jv I<|Jn<|J0 ?_;refine aV (fun k:Nat=>k<=l.length/\aZ l=aZ (l.drop k)) (fun k=>[(8,.int .i64 k),(7,.int .i64 l.length),(6,.slice a l.length cp),(3,.int .i64 0)]) (fun _=>[]) (fun k=>l.length-k) ?_ ?_
 ·apply aI 0 ⟨Zi _,I⟩
  case hs1=>exact bS
  case ht=>(try simp only [Ze,Zf,Za]);exact .nil
 rintro k ⟨hk,hf⟩;by_cases aM:k<l.length
 ·have cu:=ha (kp aM);have c0:w.cell? ⟨b,o+k*1,none⟩=some (.q l[k]):=(hc k _ (jd aM)).2 0 _ I;have jA:=uk aM
  (refine Jr<|JA I<|Jn<|Jq<|Jd I fun au=>Jk<|Jq<|J0<|Jr<|ab (fY cu au) I<|ab (ag (.of I) (At.base c0 I)) I<|Ja I<|Ji<|Jv I<|Jv I<|JD I<|Jn<|gG I (fun au=>?_) fun au=>?_;refine Jr<|Jv I<|Ja I<|Jn<|Je<|Jm<|Jh<|Jh<|Jm<|Jh<|JT ?_;rotate_left;refine Jw<|Jj<|Jt<|Jg<|JB I (by omega)<|Jv I<|Jn ?_;rotate_right)
  ·rw [hf,jA,if_pos au]
  ·apply aG (k+1) ⟨by omega,by rw [hf,jA,if_neg au]⟩ (by omega)
   case hs1=>exact bS
   case ht=>(try simp only [Ze,Zf,Za]);exact .nil
 ·rw [List.drop_eq_nil_of_le (by omega)] at hf;refine Jr<|JA I<|Jn<|Jq<|Jc I fun au=>Jp<|Jl<|Jo<|Jt<|Jr<|Jv I<|Ja I<|Jn<|Je<|JT ?_;rw [hf];rfl
theorem z7 {lv mv:Value} {l m:List Int} (h:Rd w lv 1 (ints l)) (h':Rd w mv 1 (ints m)):ak T_ 236 [lv,mv] w (.q (mI l m)):=by
 obtain ⟨a,cp,b,o,rfl,dy,bT,ha,hc⟩:=h;rw [dz] at *;obtain ⟨a',VD,b',o',rfl,oQ,Rn,cu,Y1⟩:=h';rw [dz] at *;unfold maxLen at bT Rn;refine ah func236 I I ?_;refine Jr<|Ja I<|Jn<|Jq<|Jr<|Jv I<|JI I<|Jv I<|Jn<|J0 ?_;refine aV (fun k:Nat=>k<=l.length/\k<=m.length/\mI l m=mI (l.drop k) (m.drop k)) (fun k=>[(11,.int .i64 k),(10,.int .i64 l.length),(9,.slice a l.length cp),(0,.slice a l.length cp),(1,.slice a' m.length VD)]) (fun _=>[]) (fun k=>l.length-k) ?_ ?_
 ·apply aI 0 ⟨Zi _,Zi _,I⟩
  case hs1=>exact bS
  case ht=>(try simp only [Ze,Zf,Za]);exact .nil
 rintro k ⟨hk,qH,hf⟩;by_cases aM:k<l.length
 ·have lF:=ha (kp aM);have c0:w.cell? ⟨b,o+k*1,none⟩=some (.q l[k]):=(hc k _ (jd aM)).2 0 _ I;by_cases jg:k<m.length
  ·have jB:=cu (kp jg);have c1:w.cell? ⟨b',o'+k*1,none⟩=some (.q m[k]):=(Y1 k _ (jd jg)).2 0 _ I;have jA:=Ik aM jg
   (refine Jr<|JA I<|Jn<|Jq<|Jd I fun au=>Jk<|Jq<|J0<|Jr<|Jv I<|ab (fY lF au) I<|ab (ag (.of I) (At.base c0 I)) I<|Ja I<|Ja I<|Jn<|Jq<|Jr<|Jv I<|Jv I<|JI I<|JG I<|Jn<|Jc I fun au=>Jk<|Jr<|Jv I<|Jv I<|ab (an (.of I) (.of I) jB (by omega) (by omega) aW) I<|ab (ag (.of I) (At.base c1 I)) I<|Ja I<|Ji<|Jv I<|Jv I<|aj bb I (fun w' aB=>(Dz _ _ w'))<|Ja I<|Ji<|Jv I<|JD I<|Jn<|gG I (fun au=>?_) fun au=>?_;refine Jr<|Jv I<|Ja I<|Jn<|Je<|Jm<|Jh<|Jh<|Jm<|Jh<|JT ?_;rotate_left;refine Jw<|Jj<|Jt<|Jg<|JB I (by omega)<|Jv I<|Jn ?_;rotate_right)
   ·rw [hf,jA,if_pos au]
   ·apply aG (k+1) ⟨by omega,by omega,by rw [hf,jA,if_neg au]⟩ (by omega)
    case hs1=>exact bS
    case ht=>(try simp only [Ze,Zf,Za]);exact .nil
  ·rw [Zu aM,List.drop_eq_nil_of_le (show m.length<=k by omega)] at hf
   (refine Jr<|JA I<|Jn<|Jq<|Jd I fun au=>Jk<|Jq<|J0<|Jr<|Jv I<|ab (fY lF au) I<|ab (ag (.of I) (At.base c0 I)) I<|Ja I<|Ja I<|Jn<|Jq<|Jr<|Jv I<|Jv I<|JI I<|JG I<|Jn<|Jd I fun au=>Jr<|Ja I<|Jn<|Ju<|Jm<|Jh<|Jh<|Jm<|Jh<|JT ?_)
   rw [hf];rfl
 ·rw [List.drop_eq_nil_of_le (show l.length<=k by omega),MR,Zbj] at hf;by_cases jg:k<m.length
  ·rw [if_pos (by omega)] at hf;refine Jr<|JA I<|Jn<|Jq<|Jc I fun au=>Jp<|Jl<|Jo<|Jt<|Jq<|Jr<|Jv I<|JI I<|Jv I<|JI I<|JA I<|Jn<|Jd I fun au=>Jr<|Ja I<|Jn<|Ju<|JT ?_;rw [hf]
  ·rw [if_neg (by omega)] at hf;refine Jr<|JA I<|Jn<|Jq<|Jc I fun au=>Jp<|Jl<|Jo<|Jt<|Jq<|Jr<|Jv I<|JI I<|Jv I<|JI I<|JA I<|Jn<|Jc I fun au=>Jk<|Jr<|Ja I<|Jn<|Je<|JT ?_;rw [hf]
def oU (r:Ro) (x:Ti):Int:=aZ [fM r x.fr,fM r x.to,cn (decide (x.fr=x.to)) 24]
theorem Qp {r:Ro} {s d t p:Value} (x:Ti) {w w1:World} (h:RR w1 r s d t p):ak T_ 145 [RA r s d t p,.agg x.cells.toArray] w (.q (oU r x)):=by
 obtain ⟨h1,h2,h3,h4⟩:=h.one;have Xh:∀ m w',ak T_ 136 [.agg #[.int .i64 r.lv,.int .i64 r.ma,s,d,t,p],.int .i64 m] w' (.int .i64 (fM r m)):=fun m w'=>GD m h
 unfold RA Ti.cells;refine ah func145 I I ?_
 (refine Jr<|Jy I I fun _ _=>Jy I I fun _ _=>Ja I<|Ji<|bG I I ae<|JL I .here I<|bG I I ae<|JL I .here I<|ab (aU (.o I (.o I .nil)) ai) I<|Jz I I fun _ _=>ao (.of I) (.of I) .here I I (gO I I) (bu I) ai<|Jn<|Jq ?_)
 with_reducible refine di 17 (by kernel_rfl) ?_
 (refine az (cm bI) I<|az lV I<|az (iB (.there .here)) I<|aY bb I (fun w' aB=>(Xh _ w'))<|az (cm bI) I<|az lV I<|az (iB (.there .here)) I<|aY bb I (fun w' aB=>(Xh _ w'))<|az (cm .here) I<|az lV I<|az (iB (.there .here)) I<|az lV I<|az (iB (.there .here)) I<|az (aU (.o I (.o I .nil)) ai) I<|az (vt (.of I) (.of I) (kQ (kQ mU)) I) I<|aY bb I (fun w' aB=>(eE _ 24 w'))<|eN (aD (.o I (.o I (.o I .nil))) I I I I) I I ?_)
 with_reducible refine dN I fun bq nf=>?_
 (refine aj bN I (fun w' aB=>(ee (Mem.dH aB .here I I) (cg.cons (cg.cons (cg.cons cg.nil)))))<|Ja I<|Jn<|Je<|JT ?_)
 have e:(decide True&&(decide (x.to=x.fr)&&true))=decide (x.fr=x.to):=by
  rw [ZaW];simp [eq_comm]
 unfold oU;rw [<- e]
theorem wm {P:Program} {c:Cx} {sl:aL} {hs:List bd} {dst:Option Tmp} {ty:TypeId} {pos:String} {af:Array Edge} {g:Option (Nat×Bool)} {t kt et:TypeId} {x y:Operand} {b:Nat} {k:ByteArray} {l:List (ByteArray×Value)} {z V:Value} [hu:jw P t (.map kt et)] [H3:jw P kt .string] [hz:mL P et z]
  (hx:Is sl x (.map (some b))) (hy:Is sl y (.string k)) (hl:Looks c hs b (fun s:ByteArray=>Value.string s) l) (e:(fh k l).getD z=V) :
  du P c sl hs ⟨dst,.lookup t x y true,ty,pos,af,g⟩ (.tuple #[V,.bool (fh k l).isSome]):=e ▸ Ew Lz hx hy hl
theorem K5 {r:Ro} (hd:D4 r) (s:ByteArray):∃ (a b c:Int) (one:Bool),(fh s (pJ r)).getD (mD 0 0 0)=mD a b c/\(fh s (pJ r)).isSome=one/\(one=true->a=eC r s/\b=k6 r s/\c=kI r s)/\(one=false->k6 r s<0/\kI r s<0):=by
 rw [rD hd];cases h:jL (eI r) s with
 | true=>exact ⟨_,_,_,true,rfl,rfl,fun _=>⟨rfl,rfl,rfl⟩,fun h=>by cases h⟩
 | false =>
  refine ⟨0,0,0,false,I,I,(fun h=>by cases h),fun _=>?_⟩;have hn:s ∉ eI r:=fun hm=>by rw [fG.2 hm] at h;cases h
  unfold eI at hn;rw [ZB,ZB,not_or,not_or] at hn;have e1:=cM.2 hn.1.1;have e2:=cM.2 hn.1.2;have e3:=cM.2 hn.2;unfold k6 kI;rw [if_neg (by omega),if_neg (by omega),if_neg (by omega),if_neg (by omega)];omega
def nu (r:Ro) (x:Po):Int:=aZ [ia x.lv 0 (r.lv-1),cn (decide (k6 r x.ou<0)) 10,cn (decide (kI r x.ip<0)) 10,cn (decide (k6 r x.ou≠kI r x.ip)) 24]
def Fq (r:Ro):Option Po->List Int
 | none=>[-1,-1]
 | some x=>[x.lv,eC r x.ou]
def HH (r:Ro) (po:List Po) (k:Nat):Int:=
 match po[k]? with
 | none=>0
 | some x=>if nu r x≠0 then nu r x else if mI [x.lv,eC r x.ou] (Fq r (if k=0 then none else po[k-1]?))<=0 then 11 else 0
theorem sJ {r:Ro} {po:List Po} {k:Nat} (h:k<po.length):HH r po k=if nu r po[k]≠0 then nu r po[k] else if mI [po[k].lv,eC r po[k].ou] (Fq r (if k=0 then none else po[k-1]?))<=0 then 11 else 0:=by
 unfold HH;rw [Zc h]
theorem OU {r:Ro} {x:Po} {a b c a' b' c':Int} {one two:Bool} (h1:one=true->a=eC r x.ou/\b=k6 r x.ou/\c=kI r x.ou) (h2:one=false->k6 r x.ou<0/\kI r x.ou<0)
  (h3:two=true->a'=eC r x.ip/\b'=k6 r x.ip/\c'=kI r x.ip) (h4:two=false->k6 r x.ip<0/\kI r x.ip<0) :
  aZ [ia x.lv 0 (r.lv-1),cn (!one||decide (b<0)) 10,cn (!two||decide (c'<0)) 10,cn (decide (b≠c')) 24]=nu r x/\(nu r x=0->one=true):=by
 unfold nu;cases one with
 | true =>
  obtain ⟨-,rfl,-⟩:=h1 rfl;cases two with
  | true=>obtain ⟨-,-,rfl⟩:=h3 rfl;exact ⟨rfl,fun _=>rfl⟩
  | false =>
   have:=(h4 I).2;refine ⟨?_,fun _=>rfl⟩;simp [aZ,cn,this]
 | false =>
  have:=(h2 I).1;constructor
  ·simp [aZ,cn,this]
  ·intro h;simp [aZ,cn,this] at h;split at h <;> simp_all
def kH (r:Ro) (po:List Po):Int:=ku (HH r po) po.length
theorem yM {r:Ro} {s d t p:Value} (h:RR w r s d t p) (hd:D4 r) (c8:r.de.length+r.ti.length<=1000000) (tW:Yo (r.lv-1)):ak T_ 146 [RA r s d t p] w (.q (kH r r.po)):=by
 obtain ⟨h1,h2,h3,h4⟩:=h.one;have hp:=h.po;obtain ⟨a,cp,b,o',rfl,dy,bT,ha,hc⟩:=hp;rw [cT] at *;unfold maxLen at bT;unfold RA;refine ah func146 I I ?_;refine Jr<|Jy I I fun _ _=>Ja I<|Ji<|ab (cm .here) I ?_;refine JN bN I (fun w1 aT=>Gg (h.keeps aT.keeps) c8) ?_;intro bm _;dsimp only [id_eq,Zb,Za]
 (refine Ja I<|Ji<|ab (aU (.o I (.o I .nil)) ai) I<|Jz I I fun _ _=>ao (.of I) (.of I) .here I I (gO I I) (bu I) ai<|Jn<|Jq<|Jr<|bG I I ae<|JL I bI I<|JI I<|Jv I<|Jn<|J0 ?_)
 rename_i b1 r9 _ b4 uT
 refine aV (ι:=Nat×Int×Int) (fun x=>x.1<=r.po.length/\(∀ i,i<x.1->HH r r.po i=0)/\[x.2.1,x.2.2]=Fq r (if x.1=0 then none else r.po[x.1-1]?))
  (fun x=>[(19,.q (x.1:Nat)),(18,.q r.po.length),(17,.slice a r.po.length cp),(4,.p b4),(3,.map (some bm)),(2,.q 0),(1,.p b1)])
  (fun x=>[bz b4 (.cells #[.q x.2.1,.q x.2.2] 299 (0,0)),mp (fun s:ByteArray=>Value.string s) bm (pJ r),JP b1 r s d t (.slice a r.po.length cp)])
  (fun x=>r.po.length-x.1) ?_ ?_
 ·apply aI (0,-1,-1) ⟨Zi _,fun i h=>by omega,I⟩
  case hs1=>exact bS
  case ht=>(try simp only [Ze,Zf,Za]);exact .h3 .nil
 rintro ⟨k,l0,l1⟩ ⟨hk,hz,hl⟩;dsimp only at hk hz hl ⊢;by_cases aM:k<r.po.length
 ·have cu:=ha (kl aM);obtain ⟨gi,aC⟩:=hc k _ (iq aM);unfold Po.cells at aC;have jA:=sJ (r:=r) aM;obtain ⟨o1,o2,o3,one,e1,e2,e3,e4⟩:=K5 hd (r.po[k]).ou;obtain ⟨i1,i2,i3,two,q1,q2,q3,q4⟩:=K5 hd (r.po[k]).ip;obtain ⟨v1,v2⟩:=OU e3 e4 q3 q4;unfold mD at e1 q1
  (refine Jr<|JA I<|Jn<|Jq<|Jd I fun au=>Jk<|Jq<|J0<|Jr<|ab (fY cu au) I<|ab (iU (eR.base aC I)) I<|Jz I I fun _ _=>ao (.of I) (.of I) .here I I (fv I I I) (bu I) ai<|Ji<|Jv I<|bG I I ae<|JL I .here I ?_)
  refine ab (wm (.of I) (.of I) (Looks.mp bI) e1) I ?_;rw [e2]
  (refine Jv I<|JJ I I<|JJ I I<|Jz I I fun _ _=>ao (.of I) (.of I) .here I I (fv I I I) (bu I) ai<|Ja I<|Ji<|Jv I<|bG I I ae<|JL I (.there .here) I ?_)
  refine ab (wm (.of I) (.of I) (Looks.mp cZ) q1) I ?_;rw [q2]
  (refine Jv I<|JJ I I<|JJ I I<|Jz I I fun _ _=>ao (.of I) (.of I) .here I I (fv I I I) (bu I) ai<|Ja I<|Jn<|Jq<|Jq ?_)
  with_reducible refine di 29 (by kernel_rfl) ?_
  (refine az lV I<|az (iB bI) I<|az lV I<|az (iB eD) I<|az (tK (.of I) (.of I) tW) I<|aY eo I (fun w' aB=>(nI _ 0 _ w'))<|az mB I<|az (eF (.of I)) I<|az mB I<|uw I I inferInstance (fun hg bE=>(aq (.of I) ae)) I<|uw I I inferInstance (fun hg bE=>(ag (.bM hg I) (At.lit (.there .here) I))) I<|uw I I inferInstance (fun hg bE=>(lr (.bM hg I) (.of I))) I<|az (bH (.of I) I) I<|aY bb I (fun w' aB=>(eE _ 10 w'))<|az mB I<|az (eF (.of I)) I<|az mB I<|uw I I inferInstance (fun hg bE=>(aq (.of I) ae)) I<|uw I I inferInstance (fun hg bE=>(ag (.bM hg I) (At.lit .here I))) I<|uw I I inferInstance (fun hg bE=>(lr (.bM hg I) (.of I))) I<|az (bH (.of I) I) I<|aY bb I (fun w' aB=>(eE _ 10 w'))<|az lV I<|az (iB (.there .here)) I<|az lV I<|az (iB .here) I<|az (j8 (.of I) (.of I)) I<|aY bb I (fun w' aB=>(eE _ 24 w'))<|eN (aD (.o I (.o I (.o I (.o I .nil)))) I I I I) I I ?_)
  with_reducible refine dN I fun bq nf=>?_
  (refine aj bN I (fun w' aB=>(ee (Mem.dH aB .here I I) (cg.cons (cg.cons (cg.cons (cg.cons cg.nil))))))<|Ja I<|Ji<|Jv I<|JD I<|Jn<|gG I (fun au=>?_) fun au=>?_;refine Jr<|Jv I<|Ja I<|Jn<|Ju<|Jm<|Jh<|Jh<|Jm<|Jh<|JT ?_;rotate_left;refine Jk<|Jr<|bG I I ae<|JL I cZ I<|bG I I ae<|JL I bI I<|ab (aU (.o I (.o I .nil)) ai) I<|Jz I I fun _ _=>ao (.of I) (.of I) .here I I (gO I I) (bu I) ai<|Jn<|Jq<|Jq ?_;rotate_right)
  ·rw [v1] at au ⊢;have hb:kH r r.po=nu r r.po[k]:=(fI hz aM (by rw [jA,if_pos au];exact au)).trans (by rw [jA,if_pos au]);rw [hb]
  rw [v1] at au;have hE:nu r r.po[k]=0:=Zo.1 au;obtain ⟨g1,g2,g3⟩:=e3 (v2 hE);rename_i M9 ace
  with_reducible refine cJ 2 (by kernel_rfl) ?_
  (refine ar (zr (.of I)) I<|ar (zr (.of I)) I ?_)
  with_reducible refine cN ?_
  skip
  with_reducible apply aj
  case hr=>exact bb
  case hd=>rfl
  case hc=>
   intro w' aB;have y1:Rd w' (.w M9 2 2) 1 (ints [(r.po[k]).lv,o1]):=Mem.dH (b:=M9) (cs:=[.q (r.po[k]).lv,.q o1]) aB (by exact .here) I I;have y2:Rd w' (.w b4 2 2) 1 (ints [l0,l1]):=Mem.dH (b:=b4) (cs:=[.q l0,.q l1]) aB eD I I;exact z7 y1 y2
  rw [hE] at jA;rw [if_neg (by decide),<- g1,<- hl] at jA
  (refine JF I<|Jn<|gG I (fun au=>?_) fun au=>?_;refine Jr<|Ja I<|Jn<|Ju<|Jm<|Jh<|Jh<|Jm<|Jh<|JT ?_;rotate_left;refine Jk<|Jg<|ab (cm .here) I<|ao (.of I) (.of I) eD I I (gO I I) (bu I) ai<|Jx<|Jj<|Jt<|Jg<|JB I (by omega)<|Jv I<|Jn ?_;rotate_right)
  ·rw [if_pos au] at jA;have hb:kH r r.po=11:=(fI hz aM (by rw [jA];decide)).trans jA;rw [hb]
  rw [if_neg au] at jA;have LN:∀ i,i<k+1->HH r r.po i=0:=fun i hi=>by
   by_cases e:i=k
   ·rw [e];exact jA
   ·exact hz i (by omega)
  apply aG (k+1,(r.po[k]).lv,o1) ⟨show k+1<=r.po.length by omega,LN,by
   show [(r.po[k]).lv,o1]=Fq r (if k+1=0 then none else r.po[k+1-1]?)
   rw [if_neg (by omega),ZaA,Zc aM,g1];rfl⟩ (show r.po.length-(k+1)<r.po.length-k by omega)
  case hs1=>exact bS
  case ht=>(try simp only [Ze,Zf,Za]);exact .h1 (.cons eD (.cons eD .nil))
 ·obtain rfl:k=r.po.length:=by omega
  have e:kH r r.po=0:=ew.2 hz;rw [e];refine Jr<|JA I<|Jn<|Jq<|Jc I fun au=>Jp<|Jl<|Jo<|Jt<|Jr<|Ja I<|Jn<|Je<|JT ?_
  rfl
theorem SH {r:Ro} {s d t p:Value} (x:Sr) {b1:Nat} {w:World} (h:RR w r s d t p) (hA:BR w b1 (RC r s d t p)) :
  ak T_ 135 [.agg x.cells.toArray,.p b1] w (.q (fM r x.mx)):=by
 obtain ⟨h1,h2,h3,h4⟩:=h.one;have lj:∀ (j:Nat) (u:Value),[Value.int .i64 r.lv,.int .i64 r.ma,s,d,t,p][j]? = some u->w.cell? ⟨b1,0+j,none⟩=some u:=hA;unfold Sr.cells;refine ah func135 I I ?_
 (refine Jr<|Jy I I fun _ _=>Ja I<|Ji<|ab (iU (eR.base lj I)) I<|bG I I ae<|JL I .here I ?_)
 refine aj bb I (fun w' aB=>GD x.mx h) ?_;refine Ja I<|Jn<|Je<|JT ?_
 rfl
theorem UI {r:Ro} {s d t p:Value} (x:De) {b1:Nat} {w:World} (h:RR w r s d t p) (hA:BR w b1 (RC r s d t p)) :
  ak T_ 137 [.agg x.cells.toArray,.p b1] w (.q (fM r x.mx)):=by
 obtain ⟨h1,h2,h3,h4⟩:=h.one;have lj:∀ (j:Nat) (u:Value),[Value.int .i64 r.lv,.int .i64 r.ma,s,d,t,p][j]? = some u->w.cell? ⟨b1,0+j,none⟩=some u:=hA;unfold De.cells;refine ah func137 I I ?_
 (refine Jr<|Jy I I fun _ _=>Ja I<|Ji<|ab (iU (eR.base lj I)) I<|bG I I ae<|JL I .here I ?_)
 refine aj bb I (fun w' aB=>GD x.mx h) ?_;refine Ja I<|Jn<|Je<|JT ?_
 rfl
def kN (r:Ro) (q:Int->Bool):Bool:=(List.range r.lv.toNat).any fun i=>q (i:Nat)
def oD (r:Ro):Int:=aZ [ia r.lv 1 3,ia r.ma 1 4]
def kK (r:Ro):Int:=aZ [fK 8 [] Sr.nm (fun x=>fM r x.mx) r.sr,fK 8 (cK r) De.nm (fun x=>fM r x.mx) r.de,fK 6 (cK r++cy r) Ti.nm (oU r) r.ti]
def Be (r:Ro):Int:=aZ [cn (kN r fun v=>r.ti.any (NM r v)) 33,cn (kN r fun v=>r.ti.any (Le r v)) 32]
def fZ (r:Ro):Int:=if oD r≠0 then oD r else if kK r≠0 then kK r else if kH r r.po≠0 then kH r r.po else Be r
theorem ck1 {r:Ro} (h:oD r≠0):fZ r=oD r:=by unfold fZ;rw [if_pos h]
theorem ck2 {r:Ro} (h1:oD r=0) (h:kK r≠0):fZ r=kK r:=by unfold fZ;rw [if_neg (by rw [h1];decide),if_pos h]
theorem ck3 {r:Ro} (h1:oD r=0) (h2:kK r=0) (h:kH r r.po≠0):fZ r=kH r r.po:=by unfold fZ;rw [if_neg (by rw [h1];decide),if_neg (by rw [h2];decide),if_pos h]
theorem ck4 {r:Ro} (h1:oD r=0) (h2:kK r=0) (h3:kH r r.po=0):fZ r=Be r:=by unfold fZ;rw [if_neg (by rw [h1];decide),if_neg (by rw [h2];decide),if_neg (by rw [h3];decide)]
theorem po1 {r:Ro} (h:fK 8 [] Sr.nm (fun x=>fM r x.mx) r.sr≠0):kK r=fK 8 [] Sr.nm (fun x=>fM r x.mx) r.sr:=by unfold kK aZ;rw [if_pos h]
theorem po2 {r:Ro} (h1:fK 8 [] Sr.nm (fun x=>fM r x.mx) r.sr=0) (h:fK 8 (cK r) De.nm (fun x=>fM r x.mx) r.de≠0):kK r=fK 8 (cK r) De.nm (fun x=>fM r x.mx) r.de:=by unfold kK aZ aZ;rw [if_neg (by rw [h1];decide),if_pos h]
theorem Yw {r:Ro} (h1:fK 8 [] Sr.nm (fun x=>fM r x.mx) r.sr=0) (h2:fK 8 (cK r) De.nm (fun x=>fM r x.mx) r.de=0):kK r=aZ [fK 6 (cK r++cy r) Ti.nm (oU r) r.ti]:=by unfold kK;rw [aZ,if_neg (by rw [h1];decide),aZ,if_neg (by rw [h2];decide)]
theorem sE {α:Type} {rH:Int} {bf:List ByteArray} {nm:α->ByteArray} {ck:α->Int} {l:List α} (hb:bf.Nodup) (h:fK rH bf nm ck l=0):(bf++l.map nm).Nodup/\(l.length:Int)<=rH/\∀ x∈l,ck x=0:=by
 unfold fK at h;split at h
 ·cases h
 rename_i hl;rw [ew] at h;have hk:∀ k,k<=l.length->(bf++(l.take k).map nm).Nodup/\∀ x∈l.take k,ck x=0:=by
  intro k
  induction k with
  | zero=>intro _;simpa using hb
  | succ k ih =>
   intro hk;obtain ⟨i1,i2⟩:=ih (by omega);have:=h k (by omega);rw [pI (by omega)] at this;rw [cI] at this;have h9:jL (bf++(l.take k).map nm) (nm l[k])=false/\ck l[k]=0:=⟨(bW (show (9:Int)≠0 by decide)).1 (this _ (ZP _ Zs)),this _ (ZP _ (ZP _ Zs))⟩;rw [Zm (by omega),Zt,<- Zh];refine ⟨?_,?_⟩
   ·rw [ZK];refine ⟨i1,by simp,fun x hx y hy e=>?_⟩;rw [Z9,Zf,ZG] at hy;subst hy;subst e;rw [fG.2 hx] at h9;cases h9.1
   ·intro x hx;rcases ZB.1 hx with hx | hx
    ·exact i2 x hx
    ·rw [ZG.1 hx];exact h9.2
 have:=hk _ (Zz _);rw [ZO] at this;exact ⟨this.1,by omega,this.2⟩
theorem AZ {r:Ro} (h:kK r=0):D4 r/\(r.sr.length<=8/\r.de.length<=8/\r.ti.length<=6)/\(∀ x∈r.sr,fM r x.mx=0)/\(∀ x∈r.de,fM r x.mx=0)/\∀ x∈r.ti,oU r x=0:=by
 unfold kK at h;have h3:fK 8 [] Sr.nm (fun x=>fM r x.mx) r.sr=0/\fK 8 (cK r) De.nm (fun x=>fM r x.mx) r.de=0/\fK 6 (cK r++cy r) Ti.nm (oU r) r.ti=0:=by
  rw [cI] at h;exact ⟨h _ (by simp),h _ (by simp),h _ (by simp)⟩
 obtain ⟨h4,h5,h6⟩:=sE Zah h3.1;rw [Za] at h4;obtain ⟨h7,h8,h9⟩:=sE (show (cK r).Nodup from h4) h3.2.1;obtain ⟨g7,g8,g9⟩:=sE (show (cK r++cy r).Nodup from h7) h3.2.2;exact ⟨⟨g7⟩,⟨by omega,by omega,by omega⟩,h6,h9,g9⟩
theorem wQ {r:Ro} (h:oD r=0):1<=r.lv/\r.lv<=3/\1<=r.ma/\r.ma<=4:=by
 unfold oD at h;rw [cI] at h;have h1:=jj.1 (h _ (Zs));have h2:=jj.1 (h _ (ZP _ Zs));omega
theorem fj {r:Ro} {s d t p:Value} (h:RR w r s d t p) (c8:r.sr.length<=300/\r.de.length<=300/\r.ti.length<=300):ak T_ 34 [RA r s d t p] w (.q (fZ r)):=by
 obtain ⟨h1,h2,h3,h4⟩:=h.one;unfold RA;refine ah func34 I I ?_;refine Jr<|Jy I I fun _ _=>Ja I<|Jn<|Jq<|Jq ?_;rename_i b1 r9
 with_reducible refine di 7 (by kernel_rfl) ?_
 (refine az lV I<|az (iB .here) I<|aY eo I (fun w' aB=>(nI _ 1 3 w'))<|az lV I<|az (iB .here) I<|aY eo I (fun w' aB=>(nI _ 1 4 w'))<|eN (aD (.o I (.o I .nil)) I I I I) I I ?_)
 with_reducible refine dN I fun bq nf=>?_
 (refine aj bN I (fun w' aB=>(ee (Mem.dH aB .here I I) (cg.cons (cg.cons cg.nil))))<|Ja I<|Ji<|Jv I<|JD I<|Jn<|gG I (fun au=>?_) fun au=>?_;refine Jr<|Jv I<|Ja I<|Jn<|Ju<|JT ?_;rotate_left;refine Jk<|Jr<|ab (bD .nil (.o I .nil)) I<|Ja I<|Ji<|ab (bD .nil (.o I .nil)) I<|Ja I<|Jn<|Jq<|Jr<|bG I I ae<|JL I (.there .here) I<|Jv I ?_;rotate_right)
 ·exact congrArg (Value.int .i64) (ck1 au).symm
 have mX:oD r=0:=Zo.1 au;have hl:=wQ mX;clear au;have L6:∀ w',Rd w' (.z) 1 (gT []):=fun w'=>⟨none,0,0,0,I,by simp [gT],by unfold maxLen;omega,fun h=>absurd I h,fun i r hr=>by simp [gT] at hr⟩
 with_reducible apply aj
 case hr=>exact DT
 case hd=>rfl
 case hc=>
  intro w' aB;have hA:BR w' b1 [.q r.lv,.q r.ma,s,d,t,p]:=BR.of aB (by exact Take.there .here);have hR:=h.keeps aB.keeps;exact DD (bf:=[]) 8 (f2:=135) (first2:=[]) (cap:=[.p b1]) hR.sr (L6 _) (by rw [Zae];omega) (fun x _ w2 _=>Lj x w2) (fun x _ w2 fo=>SH x (hR.keeps fo) (hA.keeps fo))
 (refine Ja I<|Ji<|Jv I<|JD I<|Jn<|gG I (fun au=>?_) fun au=>?_;refine Jr<|Jv I<|Ja I<|Jn<|Ju<|JT ?_;rotate_left;refine Jk<|Jr<|bG I I ae<|JL I (.there .here) I ?_;rotate_right)
 ·have hp:=po1 au;rw [<- hp] at au ⊢;exact congrArg (Value.int .i64) (ck2 mX au).symm
 have p1:fK 8 [] Sr.nm (fun x=>fM r x.mx) r.sr=0:=Zo.1 au
 clear au;have q1:=sE Zah p1;refine JN bb I (fun w1 aT=>O9 (f:=139) (first:=[]) (cap:=[]) (g:=Sr.nm) (h.keeps aT.keeps).sr (by omega) (fun x _ w2 _=>Lj x w2)) ?_
 intro nv _;dsimp only [id_eq,Zb,Za];refine aK (by exact .here) fun na nc e=>?_;subst e
 (refine Ja I<|Jn<|Jq<|Jr<|bG I I ae<|JL I bI I<|Jv I<|Jv I ?_)
 with_reducible apply aj
 case hr=>exact DT
 case hd=>rfl
 case hc=>
  intro w' aB;have hA:BR w' b1 [.q r.lv,.q r.ma,s,d,t,p]:=BR.of aB bI;have hR:=h.keeps aB.keeps;have hN:Rd w' (.slice na r.sr.length nc) 1 (gT (r.sr.map Sr.nm)):=eM aB (by exact .here) (by rw [Zd]);exact DE (bf:=cK r) 8 (f2:=137) (first2:=[]) (cap:=[.p b1]) hR.de hN (by unfold cK;rw [Zd];omega) (fun x _ w2 _=>EN x w2) (fun x _ w2 fo=>UI x (hR.keeps fo) (hA.keeps fo))
 (refine Ja I<|Ji<|Jv I<|JD I<|Jn<|gG I (fun au=>?_) fun au=>?_;refine Jr<|Jv I<|Ja I<|Jn<|Ju<|JT ?_;rotate_left;refine Jk<|Jr<|Jv I<|bG I I ae<|JL I bI I ?_;rotate_right)
 ·have hp:=po2 p1 au;rw [<- hp] at au ⊢;exact congrArg (Value.int .i64) (ck2 mX au).symm
 have p2:fK 8 (cK r) De.nm (fun x=>fM r x.mx) r.de=0:=Zo.1 au
 clear au;have q2:=sE (show (cK r).Nodup from q1.1) p2;refine JN bb I (fun w1 aT=>Gq (f:=124) (first:=[]) (cap:=[]) (g:=De.nm) (h.keeps aT.keeps).de (by omega) (fun x _ w2 _=>EN x w2)) ?_
 intro dv _;dsimp only [id_eq,Zb,Za];refine aK (by exact .here) fun da dc e=>?_;subst e;refine a8 (aD (.o I (.o I .nil)) I I I I) I (fun _ _=>?_);rename_i bq2 ah8
 with_reducible apply jZ
 case hr=>exact bN
 case hd=>rfl
 case ht=>exact bC.nil
 case hc=>
  intro w1 fp aT _ hs1;obtain rfl:fp=[]:=hs1;have hN:Rd w1 (.slice na r.sr.length nc) 1 (gT (r.sr.map Sr.nm)):=eM aT bI (by rw [Zd]);have hD:Rd w1 (.slice da r.de.length dc) 1 (gT (r.de.map De.nm)):=eM aT (by exact Take.there .here) (by rw [Zd])
  exact Ij (vs:=[.slice na r.sr.length nc,.slice da r.de.length dc]) (ess:=[r.sr.map Sr.nm,r.de.map De.nm]) (Mem.dH (b:=bq2) aT (by exact .here) I I) I
   (fun i v es hv he=>by
    match i,hv,he with
    | 0,hv,he=>cases hv;cases he;exact hN
    | 1,hv,he=>cases hv;cases he;exact hD) (by simp;omega)
 intro av _;dsimp only [id_eq,Zb,Za]
 (refine Ja I<|Jn<|Jq<|Jr<|bG I I ae<|JL I eD I<|Jv I<|ab (cm eD) I<|ab (bD (.o I .nil) .nil) I ?_)
 have tz:[r.sr.map Sr.nm,r.de.map De.nm].flatten=cK r++cy r:=by simp [cK,cy]
 with_reducible apply aj
 case hr=>exact DT
 case hd=>rfl
 case hc=>
  intro w' aB;have hR:=h.keeps aB.keeps;have hB:Rd w' av 1 (gT [r.sr.map Sr.nm,r.de.map De.nm].flatten):=aB.pH (by exact .here) I (Ku _) (by rw [bF]);rw [tz] at hB;exact DB (bf:=cK r++cy r) 6 (f2:=145) (first2:=[RA r s d t p]) (cap:=[]) hR.ti hB (by unfold cK cy;rw [Zg,Zd,Zd];omega) (fun x _ w2 _=>Li x w2) (fun x _ w2 fo=>Qp x h)
 (refine a8 (aD (.o I .nil) I I I I) I fun _ _=>aj bN I (fun w' aB=>(ee (Mem.dH aB .here I I) (cg.cons cg.nil)))<|Ja I<|Ji<|Jv I<|JD I<|Jn<|gG I (fun au=>?_) fun au=>?_;refine Jr<|Jv I<|Ja I<|Jn<|Ju<|JT ?_;rotate_left;refine Jk<|Jq<|Jr<|ab (cm mN) I ?_;rotate_right)
 ·have hp:kK r≠0:=by rw [Yw p1 p2];exact au
  exact congrArg (Value.int .i64) ((Yw p1 p2).symm.trans (ck2 mX hp).symm)
 have HX:kK r=0:=by rw [Yw p1 p2];exact Zo.1 au
 obtain ⟨lz,hlen,-⟩:=AZ HX;clear au;refine aj bN I (fun w' aB=>yM (h.keeps aB.keeps) lz (by omega) (by unfold Yo;omega)) ?_
 (refine Ja I<|Ji<|Jv I<|JD I<|Jn<|gG I (fun au=>?_) fun au=>?_;refine Jr<|Jv I<|Ja I<|Jn<|Ju<|JT ?_;rotate_left;refine Jk<|Jq ?_;rotate_right)
 ·exact congrArg (Value.int .i64) (ck3 mX HX au).symm
 have TW:kH r r.po=0:=Zo.1 au;clear au;rw [ck4 mX HX TW];have Xy:∀ w',aJ [] w w'->ak T_ 148 [.agg #[.q r.lv,.q r.ma,s,d,t,p],.func (.func 149) #[.agg #[.q r.lv,.q r.ma,s,d,t,p]] #[]] w' (.bool (kN r fun v=>r.ti.any (NM r v))):=fun w' hk=>
  R6 (f:=149) (first:=[RA r s d t p]) (cap:=[]) h (by omega) (fun v _ _ w2 fo=>Qm v ((h.keeps hk).keeps fo) (by omega))
 have Xx:∀ w',aJ [] w w'->ak T_ 148 [.agg #[.q r.lv,.q r.ma,s,d,t,p],.func (.func 150) #[.agg #[.q r.lv,.q r.ma,s,d,t,p]] #[]] w' (.bool (kN r fun v=>r.ti.any (Le r v))):=fun w' hk=>
  R6 (f:=150) (first:=[RA r s d t p]) (cap:=[]) h (by omega) (fun v _ _ w2 fo=>Te v ((h.keeps hk).keeps fo))
 with_reducible refine di 11 (by kernel_rfl) ?_
 (refine az (cm mN) I<|az (cm mN) I<|az (bD (.o I .nil) .nil) I<|aY bb I (fun w' aB=>(Xy w' (Mem.keeps aB)))<|aY bb I (fun w' aB=>(eE _ 33 w'))<|az (cm mN) I<|az (cm mN) I<|az (bD (.o I .nil) .nil) I<|aY bb I (fun w' aB=>(Xx w' (Mem.keeps aB)))<|aY bb I (fun w' aB=>(eE _ 32 w'))<|eN (aD (.o I (.o I .nil)) I I I I) I I ?_)
 with_reducible refine dN I fun bq nf=>?_
 (refine aj bN I (fun w' aB=>(ee (Mem.dH aB .here I I) (cg.cons (cg.cons cg.nil))))<|Ja I<|Jn<|Je<|JT ?_)
 rfl
theorem C6 {α:Type} (nm:α->ByteArray) (l:List α) (s:ByteArray):iT (fun x=>decide (nm x=s)) l=bA (l.map nm) s:=by
 rcases qG (fun x=>decide (nm x=s)) l with ⟨e1,e2⟩ | ⟨i,hi,e1,e2⟩
 ·rw [e1];refine (Bw fun j hj e=>?_).symm;rw [ZaQ] at e2;rw [Z2] at e;exact e2 _ (Zj _) (by simpa using e)
 ·rw [e1];rw [ZaH] at e2;obtain ⟨hp,k,hk,he,hb⟩:=e2;have YX:i=k:=by
   have h1:iT (fun x=>decide (nm x=s)) l=(k:Nat):=gQ (fun j hj=>by
    rw [Zc (by omega)];have:=hb j hj;simpa using this) hk (by rw [he];exact hp)
   rw [e1] at h1
   exact_mod_cast h1
  subst YX;refine (rP (by rw [Zd];exact hi) (by rw [Z2];simpa using hp) fun j hj e=>?_).symm;rw [Z2] at e;have:=hb j hj;simp [e] at this
theorem UH (x:De) (o:ByteArray) {b2:Nat} {w:World} (f2:w.cell? ⟨b2,0,none⟩=some (.string o)) :
  ak T_ 243 [.agg x.cells.toArray,.p b2] w (.bool (decide (x.nm=o))):=by
 unfold De.cells;refine ah func243 I I ?_
 (refine Jr<|Jy I I fun _ _=>Ja I<|Ji<|bG I I ae<|JL I .here I<|ab (ag (.of I) (At.base f2 I)) I<|ab (dB (.of I) (.of I)) I<|Ja I<|Jn<|Je<|JT ?_)
 rfl
theorem SG (x:Sr) (o:ByteArray) {b2:Nat} {w:World} (f2:w.cell? ⟨b2,0,none⟩=some (.string o)) :
  ak T_ 264 [.agg x.cells.toArray,.p b2] w (.bool (decide (x.nm=o))):=by
 unfold Sr.cells;refine ah func264 I I ?_
 (refine Jr<|Jy I I fun _ _=>Ja I<|Ji<|bG I I ae<|JL I .here I<|ab (ag (.of I) (At.base f2 I)) I<|ab (dB (.of I) (.of I)) I<|Ja I<|Jn<|Je<|JT ?_)
 rfl
theorem gL {r:Ro} {s d t p:Value} (o:ByteArray) {w:World} (h:RR w r s d t p):ak T_ 155 [RA r s d t p,.string o] w (.q (bA (cy r) o)):=by
 obtain ⟨h1,h2,h3,h4⟩:=h.one;unfold RA;refine ah func155 I I ?_
 (refine Jr<|Jy I I fun _ _=>Jy I I fun _ _=>Ja I<|Ji<|bG I I ae<|JL I (.there .here) I<|ab (bD .nil (.o I .nil)) I ?_)
 rename_i b3 uf b4 uT
 with_reducible apply aj
 case hr=>exact bb
 case hd=>rfl
 case hc=>
  intro w' aB;have f2:w'.cell? ⟨b4,0,none⟩=some (.string o):=At.lit (by exact .here) I w' aB
  exact Px (f:=243) (p:=fun x=>decide (x.nm=o)) (first:=[]) (cap:=[.p b4]) (h.keeps aB.keeps).de
   (fun x hx w2 fo=>UH x o (cG f2 I fo))
 rw [C6];refine Ja I<|Jn<|Je<|JT ?_
 rfl
theorem px {r:Ro} {s d t p:Value} (o:ByteArray) {w:World} (h:RR w r s d t p):ak T_ 180 [RA r s d t p,.string o] w (.q (bA (cK r) o)):=by
 obtain ⟨h1,h2,h3,h4⟩:=h.one;unfold RA;refine ah func180 I I ?_
 (refine Jr<|Jy I I fun _ _=>Jy I I fun _ _=>Ja I<|Ji<|bG I I ae<|JL I (.there .here) I<|ab (bD .nil (.o I .nil)) I ?_)
 rename_i b3 uf b4 uT
 with_reducible apply aj
 case hr=>exact bb
 case hd=>rfl
 case hc=>
  intro w' aB;have f2:w'.cell? ⟨b4,0,none⟩=some (.string o):=At.lit (by exact .here) I w' aB
  exact Gz (f:=264) (p:=fun x=>decide (x.nm=o)) (first:=[]) (cap:=[.p b4]) (h.keeps aB.keeps).sr
   (fun x hx w2 fo=>SG x o (cG f2 I fo))
 rw [C6];refine Ja I<|Jn<|Je<|JT ?_
 rfl
def Gs (r:Ro) (v:Int):Int:=ia v 0 (IntKind.i64.wrap (r.lv-1))
def rm (r:Ro) (o:ByteArray):Int:=cn (decide (bA (cy r) o<0)) 10
def SJ (r:Ro) (o:ByteArray):Int:=cn (decide (bA (cK r) o<0)) 10
theorem lS {r:Ro} {s d t p:Value} (v:Int) {w w1:World} (h:RR w1 r s d t p):ak T_ 114 [RA r s d t p,.q v] w (.q (Gs r v)):=by
 obtain ⟨h1,h2,h3,h4⟩:=h.one;unfold RA;refine ah func114 I I ?_
 (refine Jr<|Jy I I fun _ _=>Ja I<|Ji<|Jv I<|bG I I ae<|JL I .here I ?_)
 refine ab (OK (.of I) (.of I)) I ?_
 (refine aj eo I (fun w' aB=>(nI v 0 _ w'))<|Ja I<|Jn<|Je<|JT ?_)
 rfl
theorem eZ {r:Ro} {s d t p:Value} (o:ByteArray) {w:World} (h:RR w r s d t p):ak T_ 112 [RA r s d t p,.string o] w (.q (rm r o)):=by
 obtain ⟨h1,h2,h3,h4⟩:=h.one;have yG:∀ w',aJ [] w w'->ak T_ 155 [.agg #[.int .i64 r.lv,.int .i64 r.ma,s,d,t,p],.string o] w' (.int .i64 (bA (cy r) o)):=fun w' hk=>gL o (h.keeps hk)
 unfold RA;refine ah func112 I I ?_
 (refine Jr<|Jy I I fun _ _=>Ja I<|Ji<|ab (cm .here) I<|Jv I<|aj bb I (fun w' aB=>(yG w' (Mem.keeps aB)))<|JA I<|aj bb I (fun w' aB=>(eE _ 10 w'))<|Ja I<|Jn<|Je<|JT ?_)
 rfl
theorem rn {r:Ro} {s d t p:Value} (o:ByteArray) {w:World} (h:RR w r s d t p):ak T_ 122 [RA r s d t p,.string o] w (.q (SJ r o)):=by
 obtain ⟨h1,h2,h3,h4⟩:=h.one;have hsrc:∀ w',aJ [] w w'->ak T_ 180 [.agg #[.int .i64 r.lv,.int .i64 r.ma,s,d,t,p],.string o] w' (.int .i64 (bA (cK r) o)):=fun w' hk=>px o (h.keeps hk)
 unfold RA;refine ah func122 I I ?_
 (refine Jr<|Jy I I fun _ _=>Ja I<|Ji<|ab (cm .here) I<|Jv I<|aj bb I (fun w' aB=>(hsrc w' (Mem.keeps aB)))<|JA I<|aj bb I (fun w' aB=>(eE _ 10 w'))<|Ja I<|Jn<|Je<|JT ?_)
 rfl
def cX (r:Ro) (o:ByteArray):List ByteArray:=(List.range r.lv.toNat).map fun (v:Nat)=>jD r v o
theorem xi {r:Ro} {s d t p:Value} (o:ByteArray) {w:World} (h:RR w r s d t p) (tW:r.lv<=1000) (c8:r.ti.length<=1000000):bh T_ 113 [RA r s d t p,.string o] w [] (fun _:Value=>True) id (fun v=>[row 9 1 v r.lv.toNat (aP (cX r o))]):=by
 obtain ⟨h1,h2,h3,h4⟩:=h.one;unfold RA;refine aR func113 I I ?_
 (refine Jr<|Jy I I fun _ _=>Ja I<|Ji<|Ja I<|Jn<|Jq<|Jr<|bG I I ae<|JL I .here I<|Jv I<|Jn<|J0 ?_)
 rename_i b2 rf;refine aN 9 1 ?_
 refine aV (ι:=Nat×Value) (fun x=>x.1<=r.lv.toNat)
  (fun x=>[(9,.q (x.1:Nat)),(8,.q r.lv),(5,x.2),(2,.p b2),(1,.string o)])
  (fun x=>[row 9 1 x.2 x.1 (aP ((cX r o).take x.1)),JP b2 r s d t p]) (fun x=>r.lv.toNat-x.1) ?_ ?_
 ·apply aI (0,.z) (Zi _)
  case hs1=>exact bS
  case ht=>
   exact .h2 .nil
 rintro ⟨k,v⟩ hk;dsimp only at hk ⊢;by_cases aM:k<r.lv.toNat
 ·have E5:((k:Nat):Int)<r.lv:=by omega
  have htk:(cX r o).take (k+1)=(cX r o).take k++[jD r (k:Nat) o]:=by
   unfold cX;rw [Zm (by simpa using aM)];simp
  have a7:aP ((cX r o).take (k+1))=aP ((cX r o).take k)++[.string (jD r (k:Nat) o)]:=by rw [htk,eT];rfl
  have hlen:(aP ((cX r o).take k)).length=k*1:=by
   rw [c6,Zq];unfold cX;rw [Zd,ZaF];omega
  (refine Jr<|JA I<|Jn<|Jq<|Jd I fun au=>Jk<|Jq<|J0<|Jr<|Jv I<|Ja I<|Jn<|Jg<|Jv I<|ab (cm (.there .here)) I<|Jv I<|Jv I ?_)
  refine aj eo I (fun w' aB=>qP (s:=s) (d:=d) (t:=t) (p:=p) (k:Nat) o (h.keeps aB.keeps) c8) ?_;refine a8 (aD (.o I .nil) I I I I) I (fun _ _=>?_);refine bn (.of I) (.of I) (.there .here) .here ai (by rfl) (dG I) (by rfl) (by rfl) (by rfl) dW (by rfl) ?_;intro v';refine Ja I<|Jx<|Jj<|Jt<|Jg<|JB I (by omega)<|Jv I<|Jn ?_;apply aG (k+1,v') (by show k+1<=r.lv.toNat;omega) (by show r.lv.toNat-(k+1)<r.lv.toNat-k;omega)
  case hs1=>exact bS
  case ht=>
   show bC _ [row 9 1 v' (k+1) (aP ((cX r o).take (k+1))),JP b2 r s d t p] _;rw [a7];exact .h1 (.cons (.there .here) .nil)
 ·have e:k=r.lv.toNat:=by omega
  subst e;have htk:(cX r o).take r.lv.toNat=cX r o:=Zab (by unfold cX;simp);rw [htk];refine Jr<|JA I<|Jn<|Jq<|Jc I fun au=>Jp<|Jl<|Jo<|Jt<|Jr<|Jv I<|Ja I<|Jn<|Je ?_
  first | with_reducible apply aO | with_reducible apply aQ
  case he=>exact dI I I
  case hR=>
   intro w' aB;exact aF v trivial (by exact .h1 .nil) aB I
theorem rV {r:Ro} {s d t p:Value} (v:Int) (o:ByteArray) {w:World} (h:RR w r s d t p):ak T_ 121 [RA r s d t p,.q v,.string o] w (.bool (gM r.po v o)):=by
 obtain ⟨h1,h2,h3,h4⟩:=h.one;unfold RA;refine ah func121 I I ?_
 (refine Jr<|Jy I I fun _ _=>Ja I<|Ji<|ab (cm .here) I<|Jv I<|Jv I ?_)
 refine aj eo I (fun w' aB=>Bh (s:=s) (d:=d) (t:=t) (p:=p) v o (h.keeps aB.keeps)) ?_;refine Jv I<|JJ I I<|JJ I I<|Ja I<|Ja I<|Ji<|Jv I<|Ja I<|Jn<|Je<|JT ?_
 rfl
def og (r:Ro):Prop:=r.sr.length<=300/\r.de.length<=300/\r.ti.length<=300
theorem uu {r:Ro} (h:fZ r=0):oD r=0/\kK r=0/\kH r r.po=0/\Be r=0:=by
 unfold fZ at h;by_cases h1:oD r=0
 ·rw [if_neg (by rw [h1];decide)] at h;by_cases h2:kK r=0
  ·rw [if_neg (by rw [h2];decide)] at h;by_cases h3:kH r r.po=0
   ·rw [if_neg (by rw [h3];decide)] at h;exact ⟨h1,h2,h3,h⟩
   ·rw [if_pos h3] at h;exact absurd h h3
  ·rw [if_pos h2] at h;exact absurd h h2
 ·rw [if_pos h1] at h;exact absurd h h1
def L9 (r:Ro) (o:ByteArray):Int:=aZ [fZ r,rm r o]
def H2 (r:Ro) (o:ByteArray):List ByteArray:=if L9 r o≠0 then [] else cX r o
theorem U2 {r:Ro} {s d t p:Value} (o:ByteArray) {w:World} (h:RR w r s d t p) (c8:og r):bh T_ 20 [RA r s d t p,.string o] w [] (fun _:Value=>True) (fun v=>.tuple #[v,.q (L9 r o)]) (fun v=>[row 9 1 v (H2 r o).length (aP (H2 r o))]):=by
 obtain ⟨h1,h2,h3,h4⟩:=h.one;have gD:∀ w',aJ [] w w'->ak T_ 34 [.agg #[.int .i64 r.lv,.int .i64 r.ma,s,d,t,p]] w' (.int .i64 (fZ r)):=fun w' hk=>fj (h.keeps hk) c8
 have nA:∀ w',aJ [] w w'->ak T_ 112 [.agg #[.q r.lv,.q r.ma,s,d,t,p],.string o] w' (.q (rm r o)):=fun w' hk=>eZ o (h.keeps hk)
 unfold RA;refine aR func20 I I ?_;refine Jr<|Jy I I fun _ _=>Ja I<|Ja I<|Jn<|Jq<|Jq ?_;rename_i b2 rf
 with_reducible refine di 6 (by kernel_rfl) ?_
 (refine az (cm .here) I<|aY bN I (fun w' aB=>(gD w' (Mem.keeps aB)))<|az (cm .here) I<|az mB I<|aY bb I (fun w' aB=>(nA w' (Mem.keeps aB)))<|eN (aD (.o I (.o I .nil)) I I I I) I I ?_)
 with_reducible refine dN I fun bq nf=>?_
 (refine aj bN I (fun w' aB=>(ee (Mem.dH aB .here I I) (cg.cons (cg.cons cg.nil))))<|Ja I<|Ji<|Jv I<|JD I<|Jn<|gG I (fun au=>?_) fun au=>?_;refine Jr<|Jv I<|Ja I<|Ja I<|Jn<|Ju ?_;rotate_left;refine Jk<|Jr<|ab (cm (.there .here)) I<|Jv I ?_;rotate_right)
 ·have e1:H2 r o=[]:=if_pos au;rw [e1];refine aN 9 1 ?_
  first | with_reducible apply aO | with_reducible apply aQ
  case he=>exact gF I I I
  case hR=>
   intro w' aB;exact aF (.z) trivial (by exact .h1 .nil) aB I
 have e1:H2 r o=cX r o:=if_neg au;have e0:aZ [fZ r,rm r o]=0:=Zo.1 au;have e2:L9 r o=0:=e0;have hl:=wQ (uu (cI.1 e0 _ Zs)).1;have hn:(cX r o).length=r.lv.toNat:=by unfold cX;simp
 rw [e1,e2,hn];refine JN bb I (fun w1 aT=>xi o (h.keeps aT.keeps) (by omega) (by have:=c8.2.2;omega)) ?_;intro v _;dsimp only [id_eq,Zb,Za];refine Ja I<|Ja I<|Jn<|Je ?_
 first | with_reducible apply aO | with_reducible apply aQ
 case he=>exact gF I I I
 case hR=>
  intro w' aB;exact aF v trivial (by exact .h1 .nil) aB I
end Go.Proofs.A1
namespace Go.SL
open Go
section
variable {P:Program} {c:Cx} {D:List Nat} {sl:aL} {hs hs':List bd} {ty:TypeId} {pos:String} {af:Array Edge} {r:Option Nat} {ops:Array Oper} {Q:Exit->Act->World->Prop} {rest:List Oper}
theorem Ai (zs:List Value) (n:Nat):Builtin.zeroCells zs.toArray n=((List.replicate n zs).flatten).toArray:=by
 unfold Builtin.zeroCells;apply Array.ext
 ·simp
 ·intro i h1 h2;have hi:i<n*zs.length:=by simpa using h1
  have hz:0<zs.length:=by
   rcases Nat.eq_zero_or_pos zs.length with e | e
   ·rw [e] at hi;omega
   ·exact e
  have hm:i % zs.length<zs.length:=Nat.mod_lt _ hz;have tz:∀ (n i:Nat) (h:i<(List.replicate n zs).flatten.length),(List.replicate n zs).flatten[i]=zs[i % zs.length]'(Nat.mod_lt _ hz):=by
   intro n
   induction n with
   | zero=>intro i h;simp at h
   | succ n ih =>
    intro i h;have e:(List.replicate (n+1) zs).flatten=zs++(List.replicate n zs).flatten:=by simp [List.replicate_succ]
    rw [List.getElem_of_eq e];by_cases hl:i<zs.length
    ·rw [Zat hl];congr 1;exact (Nat.mod_eq_of_lt hl).symm
    ·rw [Zap (by omega),ih];congr 1;exact (Nat.mod_eq_sub_mod (by omega)).symm
  have:=tz n i (by simpa using hi);rw [show (List.replicate n zs).flatten.toArray[i]=(List.replicate n zs).flatten[i]'(by simpa using hi) from I,this];simp [hm]
theorem Cm {t e:TypeId} {x:Operand} {g o n cap:Nat} {E:TypeId} {cs zs:List Value} {z:Value} [hu:jw P t (.slice e)] [hZ:mL P e z]
  (hx:Is sl x (.slice (some ⟨g,o,none⟩) n cap)) (ht:Take hs (bz g (.cells cs.toArray E (0,0))) hs') (hz:z.cells=zs.toArray) (h1:∀ u∈zs,u.oneCell'=true) (hfit:o+n*zs.length<=cs.length)
  (k:Tr c D sl (bz g (.cells (setCells cs o (List.replicate n zs).flatten).toArray E (0,0))::hs') (WL P r ops Q rest)) :
  Tr c D sl hs (WL P r ops Q (⟨none,.call ⟨.builtin .clear,#[x],#[t]⟩,ty,pos,af,none⟩::rest)):=fun a w a7=>by
 have hm:=a7.mem.take (ht.append _);have hg:w.heap[g]? = some (.cells cs.toArray E (0,0)):=hm.bz .here;obtain ⟨w',h3,h4,h5⟩:=jS (P:=P) (o:=o) (List.replicate n zs).flatten 0 cs w hg (fun u hu=>by
  obtain ⟨l,hl,TJ⟩:=ZbC.1 hu;rw [List.eq_of_mem_replicate hl] at TJ;exact h1 u TJ) (by
  have:(List.replicate n zs).flatten.length=n*zs.length:=by simp
  omega)
 refine nH I ⟨dT _ _ _ _ _,?_⟩;rw [Oper.semAt_eq _ _ _ (by simp)];have:(execOp a.eval ⟨none,.call ⟨.builtin .clear,#[x],#[t]⟩,ty,pos,af,none⟩).run P w=.ok (.value (.tuple #[])) w':=by
  cases n with
  | zero =>
   simp [execOp,resolve,invoke,builtin,hx a a7.dj,Builtin.clear_,aX hu.eq];simpa [storeCells] using h3
  | succ n =>
   simp [execOp,resolve,invoke,builtin,hx a a7.dj,Builtin.clear_,aX hu.eq,jm (t:=e) (v:=z),hz,Ai];simp [h3]
 rw [this];have l5:=Mem.store hm h4 h5;exact k _ _ (a7.heap l5)
end
end Go.SL
namespace Go.SL
open Go
section
variable {α:Type} {f:α->List Value} {sz:Nat}
theorem jM (hf:∀ x,(f x).length=sz) (l:List α):(l.map f).flatten.length=l.length*sz:=by
 rw [fH (sz:=sz) (fun r hr=>by obtain ⟨x,_,rfl⟩:=Zy.1 hr;exact hf x),Zd]
theorem sY (hf:∀ x,(f x).length=sz) {l:List α} {i:Nat} (h:i<l.length) (cur:List Value):eH ((l.map f).flatten++cur) (i*sz) sz=f l[i]:=by
 have hl:l=l.take i++l[i]::l.drop (i+1):=by rw [<- Zu h,Z5]
 have e:(l.map f).flatten=((l.take i).map f).flatten++(f l[i]++((l.drop (i+1)).map f).flatten):=
  (congrArg (fun m=>(List.map f m).flatten) hl).trans (by simp only [Zt,Zaf,Z9,ZaE])
 have hk:((l.take i).map f).flatten.length=i*sz:=by rw [jM hf,ZaT (by omega)]
 rw [ka,e,Zh,<- hk,List.drop_append_of_le_length (by omega),Z3,Za,<- hf l[i],Zh,Zai (by omega),ZO]
theorem uX {cs:List Value} {o n j:Nat} (hj:j<n):(eH cs o n)[j]? = cs[o+j]?:=by
 rw [ka,ZC,if_pos hj,Zbm]
theorem MB (hf:∀ x,(f x).length=sz) {l:List α} {i j:Nat} (h:i<l.length) (hj:j<sz) (cur:List Value):((l.map f).flatten++cur)[i*sz+j]? = (f l[i])[j]?:=by
 rw [<- sY hf h cur,uX hj]
theorem AJ:∀ (A B C Z:List Value),Z.length=B.length->setCells (A++(B++C)) A.length Z=A++(Z++C):=by
 intro A B C Z h;apply Zax;intro k;rw [jl _ _ _ _ (by simp;omega)];by_cases h1:k<A.length
 ·rw [if_neg (by omega),ZD h1,ZD h1]
 ·by_cases h2:k-A.length<Z.length
  ·rw [if_pos (by omega),ZH (show A.length<=k by omega),ZD h2]
  ·rw [if_neg (by omega),ZH (show A.length<=k by omega),ZH (show A.length<=k by omega),ZH (show B.length<=k-A.length by omega),ZH (show Z.length<=k-A.length by omega),h]
theorem MA (hf:∀ x,(f x).length=sz) {l:List α} {i:Nat} (h:i<l.length) (x:α) (cur:List Value):setCells ((l.map f).flatten++cur) (i*sz) (f x)=((l.set i x).map f).flatten++cur:=by
 have hl:l=l.take i++l[i]::l.drop (i+1):=by rw [<- Zu h,Z5]
 have e:(l.map f).flatten=((l.take i).map f).flatten++(f l[i]++((l.drop (i+1)).map f).flatten):=
  (congrArg (fun m=>(List.map f m).flatten) hl).trans (by simp only [Zt,Zaf,Z9,ZaE])
 have e2:((l.set i x).map f).flatten=((l.take i).map f).flatten++(f x++((l.drop (i+1)).map f).flatten):=by
  rw [List.set_eq_take_append_cons_drop,if_pos h];simp
 have hk:((l.take i).map f).flatten.length=i*sz:=by rw [jM hf,ZaT (by omega)]
 rw [e,e2,Zh,Zh,Zh,Zh,<- hk];exact AJ _ _ _ _ (by rw [hf,hf])
theorem GQ (hf:∀ x,(f x).length=sz) (A B:List α) (Z cur:List Value) (hz:Z.length=B.length*sz):setCells (((A++B).map f).flatten++cur) (A.length*sz) Z=(A.map f).flatten++(Z++cur):=by
 rw [Zt,Zaf,Zh,<- jM hf A];exact AJ _ _ _ _ (by rw [hz,jM hf])
theorem zj {g k n cap:Nat} (sz:Nat) (h:k<n) (hc:n<=cap):Go.sliced (some ⟨g,0,none⟩) ((k:Nat):Int).toNat n cap sz=.slice (some ⟨g,k*sz,none⟩) (n-k) (cap-k):=by
 unfold Go.sliced;rw [if_neg (by rw [ZL];omega),ZL];simp [eJ]
theorem zk (g k cap sz:Nat):Go.sliced (some ⟨g,0,none⟩) 0 ((k:Nat):Int).toNat cap sz=.w g k cap:=by
 unfold Go.sliced;rw [ZL];by_cases h:cap=0
 ·rw [if_pos h];simp
 ·rw [if_neg h];simp [eJ]
theorem filter_lt {q:α->Bool} {l:List α} {i:Nat} (hi:i<l.length) (h:q l[i]=false):(l.filter q).length<l.length:=
 List.length_filter_lt_length_iff_exists.2 ⟨l[i],Zj hi,by simp [h]⟩
def vI (q:α->Bool) (l:List α) (j:Nat):List α:=(l.take j).filter q++l.drop ((l.take j).filter q).length
def mi (q:α->Bool) (l:List α) (j:Nat):Nat:=((l.take j).filter q).length
theorem oG (q:α->Bool) (l:List α) {j:Nat} (hj:j<=l.length):mi q l j<=j:=by
 have:=ZY q (l.take j);rw [ZaT hj] at this;exact this
theorem GM (q:α->Bool) (l:List α) {j:Nat} (hj:j<=l.length):(vI q l j).length=l.length:=by
 have:=oG q l hj;unfold mi at this;unfold vI;rw [Zg,Zbj];omega
theorem GN (q:α->Bool) (l:List α) {j:Nat} (hj:j<l.length):∃ h:j<(vI q l j).length,(vI q l j)[j]=l[j]:=by
 have:=oG q l (Nat.le_of_lt hj);unfold mi at this;have h:(vI q l j)[j]? = some l[j]:=by
  unfold vI;rw [ZH this,Zbm,<- Zc hj];congr 1;omega
 exact Zl.1 h
theorem vW (q:α->Bool) (l:List α) {j:Nat} (hj:j<l.length):(l.take (j+1)).filter q=(l.take j).filter q++if q l[j] then [l[j]] else []:=by
 rw [Zm hj,ZaP];congr 1;by_cases h:q l[j]=true
 ·rw [Zbv h,if_pos h];rfl
 ·rw [List.filter_cons_of_neg h,if_neg h];rfl
theorem Fb (q:α->Bool) (l:List α) {j:Nat} (hj:j<l.length) (hq:q l[j]=false):vI q l (j+1)=vI q l j/\mi q l (j+1)=mi q l j:=by
 have e:(l.take (j+1)).filter q=(l.take j).filter q:=by rw [vW q l hj,hq];simp
 unfold vI mi;rw [e];exact ⟨I,I⟩
theorem GL (q:α->Bool) (l:List α) {j:Nat} (hj:j<l.length) (hq:q l[j]=true):vI q l (j+1)=(vI q l j).set (mi q l j) l[j]/\mi q l (j+1)=mi q l j+1:=by
 have e:(l.take (j+1)).filter q=(l.take j).filter q++[l[j]]:=by rw [vW q l hj,if_pos hq]
 have hle:=oG q l (Nat.le_of_lt hj);unfold mi at hle;have hm:((l.take j).filter q).length<l.length:=by omega
 unfold vI mi;rw [e];refine ⟨?_,by simp⟩;rw [List.set_append_right _ _ (Zz _),Nat.sub_self,Zu hm,List.set_cons_zero,Zg,Zh]
 rfl
theorem GO (q:α->Bool) (l:List α):vI q l l.length=l.filter q++l.drop (l.filter q).length/\mi q l l.length=(l.filter q).length:=by
 unfold vI mi;rw [ZO];exact ⟨I,I⟩
theorem zV (q:α->Bool) (l:List α) {i:Nat} (hi:i<l.length) (hb:∀ j (h:j<i),q (l[j]'(by omega))=true) (hq:q l[i]=false):vI q l (i+1)=l/\mi q l (i+1)=i:=by
 have e:(l.take i).filter q=l.take i:=ZaK.2 fun x hx=>by
  obtain ⟨j,hj,rfl⟩:=ZA hx;rw [ZaU];exact hb j (by rw [Zq] at hj;omega)
 obtain ⟨h1,h2⟩:=Fb q l hi hq;rw [h1,h2];unfold vI mi;rw [e,ZaT (by omega),Z5];exact ⟨I,I⟩
end
end Go.SL
namespace Go.Proofs.A1
open Go Go.SL
open Tryz
open Tryz renaming prog->T_
variable {cap first:List Value} {lv:Value} {p:ByteArray->Bool} {v:Value}
theorem C5 {l:List ByteArray} {f:FuncId} [bV T_ f] {w:World} (h:Rd w lv 1 (gT l)) (cF:∀ x∈l,∀ w',aJ [] w w'->ak T_ f (first++[.string x]++cap) w' (.bool (p x))) :
  ak T_ 299 [lv,.func (.func f) first.toArray cap.toArray] w (.q (iT p l)):=by
 obtain ⟨a,cp,b,o,rfl,dy,bT,ha,hc⟩:=h;rw [bF] at *;unfold maxLen at bT;refine ah func299 I I ?_;refine Jr<|Ja I<|Jn<|Jq<|Jr<|Jv I<|JI I<|Jv I<|Jn<|J0 ?_;refine aV (fun k:Nat=>k<=l.length/\∀ i,i<k->(l[i]?.map p).getD false=false) (fun k=>[(8,.int .i64 k),(7,.int .i64 l.length),(0,.slice a l.length cp),(1,.func (.func f) first.toArray cap.toArray)]) (fun _=>[]) (fun k=>l.length-k) ?_ ?_
 ·apply aI 0 ⟨Zi _,fun i h=>by omega⟩
  case hs1=>exact bS
  case ht=>(try simp only [Ze,Zf,Za]);exact .nil
 rintro k ⟨hk,hf⟩;by_cases aM:k<l.length
 ·have cu:=ha (ij aM);have c0:w.cell? ⟨b,o+k*1,none⟩=some (.string l[k]):=(hc k _ (fw aM)).2 0 _ I;have jK:=cF _ (Zj aM);have hps:(l[k]?.map p).getD false=p l[k]:=by simp [aM]
  (refine Jr<|JA I<|Jn<|Jq<|Jd I fun au=>Jk<|Jq<|J0<|Jr<|Jv I<|Ja I<|Ji<|Jv I<|Jv I<|Jv I<|ab (fY cu au) I<|ab (ag (.of I) (At.base c0 I)) I<|aj bN I (fun w' aB=>(jK w' (Mem.keeps aB)))<|Jn<|nW I (fun au=>?_) fun au=>?_;refine Jr<|Jv I<|Ja I<|Jn<|Je<|Jm<|Jh<|Jh<|Jm<|Jh<|JT ?_;rotate_left;refine Jw<|Jj<|Jt<|Jg<|JB I (by omega)<|Jv I<|Jn ?_;rotate_right)
  ·rw [gQ hf aM au]
  ·apply aG (k+1) ⟨by omega,fun i hi=>by
    by_cases e:i=k
    ·rw [e,hps];exact au
    ·exact hf i (by omega)⟩ (by omega)
   case hs1=>exact bS
   case ht=>(try simp only [Ze,Zf,Za]);exact .nil
 ·obtain rfl:k=l.length:=by omega
  refine Jr<|JA I<|Jn<|Jq<|Jc I fun au=>Jp<|Jl<|Jo<|Jt<|Jr<|Ja I<|Jn<|Je<|JT ?_;rw [fP hf]
theorem Mp {l:List ByteArray} {f:FuncId} [bV T_ f] {w:World} (h:Rd w lv 1 (gT l)) (cF:∀ x∈l,∀ w',aJ [] w w'->ak T_ f (first++[.string x]++cap) w' (.bool (p x))) :
  ak T_ 250 [lv,.func (.func f) first.toArray cap.toArray] w (.bool (l.any p)):=by
 have jK:∀ w',aJ [] w w'->ak T_ 299 [lv,.func (.func f) first.toArray cap.toArray] w' (.q (iT p l)):=fun w' hk=>
  C5 (h.keeps hk) fun x hx w2 fo=>cF x hx w2 (hk.trans fo)
 rw [<- lf];refine ah func250 I I ?_
 (refine Jr<|Ja I<|Ji<|Jv I<|Jv I<|aj bb I (fun w' aB=>(jK w' (Mem.keeps aB)))<|JG I<|Ja I<|Jn<|Je<|JT ?_)
 rfl
set_option maxHeartbeats 1000000 in
theorem MJ {n:Nat} {l:List ByteArray} {f:FuncId} [bV T_ f] {w:World} {fp:List Nat} (jq:fp.Nodup) (hs:cr (hp w) [row 9 1 v n (aP l)] fp) (hn:l.length=n) (c8:n<=1000000)
  (cF:∀ x∈l,∀ w',aJ fp w w'->ak T_ f (first++[.string x]++cap) w' (.bool (p x))) :
  bh T_ 224 [v,.func (.func f) first.toArray cap.toArray] w fp (fun _:Value=>True) id (fun v'=>[row 9 1 v' (l.filter fun x=>!p x).length (aP (l.filter fun x=>!p x))]):=by
 refine eh func224 I I jq hs ?_;refine Jr<|Ja I<|Ji<|Jv I<|Jv I ?_;refine aK (by exact .here) fun va vc e=>?_;subst e
 skip
 with_reducible apply aj
 case hr=>exact bb
 case hd=>rfl
 case hc=>
  intro w' aB;have hR:Rd w' (.slice va n vc) 1 (gT l):=eM aB (by exact .here) hn;exact C5 (f:=f) (p:=p) (first:=first) (cap:=cap) hR (fun x hx w2 fo=>cF x hx w2 (aB.keeps.trans (fo.mono (by simp))))
 rcases qG p l with ⟨e1,e2⟩ | ⟨i,hi,e1,e2⟩
 ·rw [e1];have tz:(l.filter fun x=>!p x)=l:=ZaK.2 fun x hx=>by
   have:=ZaQ.1 e2 x hx;simpa using this
  rw [tz];refine Ja I<|Jn<|Jq<|Jr<|Jv I<|JC I<|Jn<|Jd I fun au=>Jr<|Jv I<|Ja I<|Jn<|Ju ?_
  first | with_reducible apply aO | with_reducible apply aQ
  case he=>exact dI I I
  case hR=>
   intro w' aB;exact aF (.slice va n vc) trivial (show bC _ [row 9 1 (.slice va n vc) l.length (aP l)] _ by rw [hn];exact .h1 .nil) aB I
 rw [e1];rw [ZaH] at e2;obtain ⟨Rm,i',yD,IS,dM⟩:=e2;have Di:i'=i:=by
  have h1:iT p l=(i':Nat):=gQ (fun j hj=>by
   rw [Zc (by omega)];simpa using dM j hj) yD (by rw [IS];exact Rm)
  rw [e1] at h1
  exact_mod_cast h1.symm
 subst Di;obtain ⟨st1,st2⟩:=zV (fun x=>!p x) l yD (fun j hj=>dM j hj) (by rw [IS];simp [Rm]);have hne:¬ ((i':Nat):Int) = -1:=by omega
 refine Ja I<|Jn<|Jq<|Jr<|Jv I<|JC I<|Jn<|Jc I fun au=>Jk<|Jq<|Jr<|Jv I<|JB I (by omega)<|Ja I<|Jn<|J0 ?_;refine dA (by exact .here) (by omega) ?_;rintro g iz cur e oQ Bm hsz hl;cases e;have hF:∀ x,((fun s:ByteArray=>[Value.string s]) x).length=1:=fun _=>rfl
 have hV:∀ l,aP l=(l.map (fun s:ByteArray=>[Value.string s])).flatten:=fun l=>pj l
 refine aV (fun j:Nat=>i'<j/\j<=l.length) (fun j=>[(6,.q (j:Nat)),(5,.q (mi (fun x=>!p x) l j)),(0,.w g n vc),(1,.func (.func f) first.toArray cap.toArray)])
  (fun j=>[bz g (.cells (((vI (fun x=>!p x) l j).map (fun s:ByteArray=>[Value.string s])).flatten++cur).toArray 9 (0,0))]) (fun j=>l.length-j) ?_ ?_
 ·apply aI (i'+1) ⟨by omega,by omega⟩
  case hs1=>rw [st2];exact .cons I (.cons I (.cons I (.cons I .nil)))
  case ht=>rw [st1,<- hV];exact .h1 .nil
 rintro j ⟨hj,hk⟩;by_cases aM:j<l.length
 ·have vG:j<n:=by omega
  have hle:=oG (fun x=>!p x) l hk
  have tz:=GM (fun x=>!p x) l hk
  obtain ⟨hjf,hgj⟩:=GN (fun x=>!p x) l aM;have c0:=MB hF hjf (show 0<1 by omega) cur;rw [hgj] at c0;have c1:(((vI (fun x=>!p x) l j).map (fun s:ByteArray=>[Value.string s])).flatten++cur)[j*1]? = some (.string l[j]):=c0
  (refine Jq<|Jr<|Jv I<|Jv I<|JI I<|JA I<|Jn<|Jd I fun au=>Jk<|Jq<|J0<|Jr<|Jv I<|Jv I<|ab (an (.of I) (.of I) I (by omega) au aW) I ?_;refine ab (ag (.of I) (At.mJ .here c1)) I ?_;refine Ja I<|Ji<|Jv I<|Jv I ?_)
  with_reducible apply aj
  case hr=>exact bN
  case hd=>rfl
  case hc=>
   intro w' aB;exact cF l[j] (Zj aM) w' aB.keeps
  have hm:mi (fun x=>!p x) l j<(vI (fun x=>!p x) l j).length:=by rw [tz];have:=st2;omega
  have hb:mi (fun x=>!p x) l j*1+1<=(((vI (fun x=>!p x) l j).map (fun s:ByteArray=>[Value.string s])).flatten++cur).length:=by rw [Zg,jM hF,tz];omega
  have ny:=MA hF hm l[j] cur;have hmn:mi (fun x=>!p x) l j<n:=by omega
  cases hq:p l[j] with
  | true =>
   obtain ⟨s1,s2⟩:=Fb (fun x=>!p x) l aM (by simp [hq])
   (refine JH I<|Jn<|bZ (.of I)<|Jw<|Jj<|Jt<|Jg<|Jv I<|JB I (by omega)<|Ja I<|Jn ?_)
   apply aG (j+1) ⟨by omega,by omega⟩ (by omega)
   case hs1=>rw [s2];exact .cons I (.cons I (.cons I (.cons I .nil)))
   case ht=>rw [s1];exact .h1 .nil
  | false =>
   obtain ⟨s1,s2⟩:=GL (fun x=>!p x) l aM (by simp [hq])
   (refine JH I<|Jn<|cY (.of I) ?_;refine Jr<|Jv I<|Jv I<|Jv I<|ab (an (.of I) (.of I) I (by omega) (by omega) aW) I ?_;refine ao (.of I) (.of I) .here I I (dG I) hb ny ?_;refine Jn<|Jg<|Jv I<|JB I (by omega)<|Ja I<|Jx<|Jj<|Jt<|Jg<|Jv I<|JB I (by omega)<|Ja I<|Jn ?_)
   apply aG (j+1) ⟨by omega,by omega⟩ (by omega)
   case hs1=>rw [s2];exact .cons I (.cons I (.cons I (.cons I .nil)))
   case ht=>rw [s1];exact .h1 .nil
 ·obtain rfl:j=l.length:=by omega
  obtain ⟨a1,a2⟩:=GO (fun x=>!p x) l;have hle:=oG (fun x=>!p x) l (Zz _)
  rw [a1,a2];rw [a2] at hle;have hZ:=GQ hF (l.filter fun x=>!p x) (l.drop (l.filter fun x=>!p x).length) (List.replicate (n-(l.filter fun x=>!p x).length) [Value.string ⟨#[]⟩]).flatten cur (by simp;omega)
  have Ri:(l.filter fun x=>!p x).length<l.length:=filter_lt yD (by rw [IS];simp [Rm])
  generalize (l.filter fun x=>!p x)=q at hle hZ Ri ⊢
  have hqn:q.length<n:=by omega
  have Vk:q.length<=vc:=by omega
  have hfit:q.length*1+(n-q.length)*[Value.string ⟨#[]⟩].length<=(((q++l.drop q.length).map (fun s:ByteArray=>[Value.string s])).flatten++cur).length:=by
   rw [Zg,jM hF,Zg,Zbj];simp only [ZE,Zae];omega
  refine Jq<|Jr<|Jv I<|Jv I<|JI I<|JA I<|Jn<|Jc I fun au=>Jp<|Jl<|Jo<|Jt<|Jr<|Jv I<|Jv I<|ab (rA (.of I) (.of I) (by omega) (by omega)) I ?_;rw [zj 1 hqn oQ];refine Cm (zs:=[Value.string ⟨#[]⟩]) (z:=.string ⟨#[]⟩) (.of I) .here I (dG I) hfit ?_;rw [hZ]
  (refine Ji<|Jv I<|Jv I<|ab (iZ (.of I) (.of I) (by omega) (by omega)) I<|Ja I<|Jn<|Je ?_)
  rw [zk];have tV:((q.map (fun s:ByteArray=>[Value.string s])).flatten++((List.replicate (n-q.length) [Value.string ⟨#[]⟩]).flatten++cur)).length=vc*1:=by
   rw [<- hsz,Zg,jM hF,Zg,Zg,<- hn,hV,jM hF];have:(List.replicate (l.length-q.length) [Value.string ⟨#[]⟩]).flatten.length=(l.length-q.length)*1:=by simp
   rw [this];omega
  refine dC (n:=q.length) (sz:=1) (by exact .here) Vk Bm tV (by rw [jM hF]) ?_
  skip
  first | with_reducible apply aO | with_reducible apply aQ
  case he=>exact dI I I
  case hR=>
   intro w' aB;exact aF (.w g q.length vc) trivial (show bC _ [row 9 1 (.w g q.length vc) q.length (aP q)] _ by rw [hV];exact .h1 .nil) aB I
set_option maxHeartbeats 1000000 in
theorem Qh {n:Nat} {l:List Po} {p:Po->Bool} {f:FuncId} [bV T_ f] {w:World} {fp:List Nat} (jq:fp.Nodup) (hs:cr (hp w) [row 188 3 v n (gA l)] fp) (hn:l.length=n) (c8:n<=1000000)
  (cF:∀ x∈l,∀ w',aJ fp w w'->ak T_ f (first++[.agg x.cells.toArray]++cap) w' (.bool (p x))) :
  bh T_ 314 [v,.func (.func f) first.toArray cap.toArray] w fp (fun _:Value=>True) id (fun v'=>[row 188 3 v' (l.filter fun x=>!p x).length (gA (l.filter fun x=>!p x))]):=by
 refine eh func314 I I jq hs ?_;refine Jr<|Ja I<|Ji<|Jv I<|Jv I ?_;refine aK (by exact .here) fun va vc e=>?_;subst e
 skip
 with_reducible apply aj
 case hr=>exact bb
 case hd=>rfl
 case hc=>
  intro w' aB;have hR:Rd w' (.slice va n vc) 3 (uE l):=cH aB (by exact .here) hn;exact Bi (f:=f) (p:=p) (first:=first) (cap:=cap) hR (fun x hx w2 fo=>cF x hx w2 (aB.keeps.trans (fo.mono (by simp))))
 rcases qG p l with ⟨e1,e2⟩ | ⟨i,hi,e1,e2⟩
 ·rw [e1];have tz:(l.filter fun x=>!p x)=l:=ZaK.2 fun x hx=>by
   have:=ZaQ.1 e2 x hx;simpa using this
  rw [tz];refine Ja I<|Jn<|Jq<|Jr<|Jv I<|JC I<|Jn<|Jd I fun au=>Jr<|Jv I<|Ja I<|Jn<|Ju ?_
  first | with_reducible apply aO | with_reducible apply aQ
  case he=>exact dI I I
  case hR=>
   intro w' aB;exact aF (.slice va n vc) trivial (show bC _ [row 188 3 (.slice va n vc) l.length (gA l)] _ by rw [hn];exact .h1 .nil) aB I
 rw [e1];rw [ZaH] at e2;obtain ⟨Rm,i',yD,IS,dM⟩:=e2;have Di:i'=i:=by
  have h1:iT p l=(i':Nat):=gQ (fun j hj=>by
   rw [Zc (by omega)];simpa using dM j hj) yD (by rw [IS];exact Rm)
  rw [e1] at h1
  exact_mod_cast h1.symm
 subst Di;obtain ⟨st1,st2⟩:=zV (fun x=>!p x) l yD (fun j hj=>dM j hj) (by rw [IS];simp [Rm]);have hne:¬ ((i':Nat):Int) = -1:=by omega
 refine Ja I<|Jn<|Jq<|Jr<|Jv I<|JC I<|Jn<|Jc I fun au=>Jk<|Jq<|Jr<|Jv I<|JB I (by omega)<|Ja I<|Jn<|J0 ?_;refine dA (by exact .here) (by omega) ?_;rintro g iz cur e oQ Bm hsz hl;cases e;have hF:∀ x,(Po.cells x).length=3:=fun _=>rfl
 have hV:∀ l,gA l=(l.map Po.cells).flatten:=fun l=>rfl
 refine aV (fun j:Nat=>i'<j/\j<=l.length) (fun j=>[(6,.q (j:Nat)),(5,.q (mi (fun x=>!p x) l j)),(0,.w g n vc),(1,.func (.func f) first.toArray cap.toArray)])
  (fun j=>[bz g (.cells (((vI (fun x=>!p x) l j).map Po.cells).flatten++cur).toArray 188 (0,0))]) (fun j=>l.length-j) ?_ ?_
 ·apply aI (i'+1) ⟨by omega,by omega⟩
  case hs1=>rw [st2];exact .cons I (.cons I (.cons I (.cons I .nil)))
  case ht=>rw [st1,<- hV];exact .h1 .nil
 rintro j ⟨hj,hk⟩;by_cases aM:j<l.length
 ·have vG:j<n:=by omega
  have hle:=oG (fun x=>!p x) l hk
  have tz:=GM (fun x=>!p x) l hk
  obtain ⟨hjf,hgj⟩:=GN (fun x=>!p x) l aM;have c0:=sY hF hjf cur;rw [hgj] at c0;have c1:eH (((vI (fun x=>!p x) l j).map Po.cells).flatten++cur) (j*3) 3=[.int .i64 (l[j]).lv,.string (l[j]).ou,.string (l[j]).ip]:=c0
  (refine Jq<|Jr<|Jv I<|Jv I<|JI I<|JA I<|Jn<|Jd I fun au=>Jk<|Jq<|J0<|Jr<|Jv I<|Jv I<|ab (an (.of I) (.of I) I (by omega) au aW) I ?_;refine ab (bK (.of I) .here c1 I) I ?_;refine Jz I I fun _ _=>ao (.of I) (.of I) .here I I (fv I I I) (bu I) ai ?_;refine Ji<|Jv I<|ab (cm .here) I ?_)
  with_reducible apply aj
  case hr=>exact bN
  case hd=>rfl
  case hc=>
   intro w' aB;exact cF l[j] (Zj aM) w' aB.keeps
  have hm:mi (fun x=>!p x) l j<(vI (fun x=>!p x) l j).length:=by rw [tz];have:=st2;omega
  have hb:mi (fun x=>!p x) l j*3+3<=(((vI (fun x=>!p x) l j).map Po.cells).flatten++cur).length:=by rw [Zg,jM hF,tz];omega
  have ny:=MA hF hm l[j] cur;have hmn:mi (fun x=>!p x) l j<n:=by omega
  cases hq:p l[j] with
  | true =>
   obtain ⟨s1,s2⟩:=Fb (fun x=>!p x) l aM (by simp [hq])
   (refine JH I<|Jn<|bZ (.of I)<|Jw<|Jj<|Jt<|Jg<|Jv I<|JB I (by omega)<|Ja I<|Jn ?_)
   apply aG (j+1) ⟨by omega,by omega⟩ (by omega)
   case hs1=>rw [s2];exact .cons I (.cons I (.cons I (.cons I .nil)))
   case ht=>rw [s1];exact .cons (.there .here) .nil
  | false =>
   obtain ⟨s1,s2⟩:=GL (fun x=>!p x) l aM (by simp [hq])
   (refine JH I<|Jn<|cY (.of I) ?_;refine Jr<|Jv I<|Jv I<|ab (cm .here) I ?_;refine ab (an (.of I) (.of I) I (by omega) (by omega) aW) I ?_;refine ao (.of I) (.of I) (.there .here) I I (fv I I I) hb ny ?_;refine Jn<|Jg<|Jv I<|JB I (by omega)<|Ja I<|Jx<|Jj<|Jt<|Jg<|Jv I<|JB I (by omega)<|Ja I<|Jn ?_)
   apply aG (j+1) ⟨by omega,by omega⟩ (by omega)
   case hs1=>rw [s2];exact .cons I (.cons I (.cons I (.cons I .nil)))
   case ht=>rw [s1];exact .h1 .nil
 ·obtain rfl:j=l.length:=by omega
  obtain ⟨a1,a2⟩:=GO (fun x=>!p x) l;have hle:=oG (fun x=>!p x) l (Zz _)
  rw [a1,a2];rw [a2] at hle;have hZ:=GQ hF (l.filter fun x=>!p x) (l.drop (l.filter fun x=>!p x).length) (List.replicate (n-(l.filter fun x=>!p x).length) [Value.int .i64 0,Value.string ⟨#[]⟩,Value.string ⟨#[]⟩]).flatten cur (by simp;omega)
  have Ri:(l.filter fun x=>!p x).length<l.length:=filter_lt yD (by rw [IS];simp [Rm])
  generalize (l.filter fun x=>!p x)=q at hle hZ Ri ⊢
  have hqn:q.length<n:=by omega
  have Vk:q.length<=vc:=by omega
  have hfit:q.length*3+(n-q.length)*[Value.int .i64 0,Value.string ⟨#[]⟩,Value.string ⟨#[]⟩].length<=(((q++l.drop q.length).map Po.cells).flatten++cur).length:=by
   rw [Zg,jM hF,Zg,Zbj];simp only [ZE,Zae];omega
  refine Jq<|Jr<|Jv I<|Jv I<|JI I<|JA I<|Jn<|Jc I fun au=>Jp<|Jl<|Jo<|Jt<|Jr<|Jv I<|Jv I<|ab (rA (.of I) (.of I) (by omega) (by omega)) I ?_;rw [zj 3 hqn oQ];refine Cm (zs:=[Value.int .i64 0,Value.string ⟨#[]⟩,Value.string ⟨#[]⟩]) (z:=.agg #[.q 0,.string ⟨#[]⟩,.string ⟨#[]⟩]) (.of I) .here I (fv I I I) hfit ?_;rw [hZ]
  (refine Ji<|Jv I<|Jv I<|ab (iZ (.of I) (.of I) (by omega) (by omega)) I<|Ja I<|Jn<|Je ?_)
  rw [zk];have tV:((q.map Po.cells).flatten++((List.replicate (n-q.length) [Value.int .i64 0,Value.string ⟨#[]⟩,Value.string ⟨#[]⟩]).flatten++cur)).length=vc*3:=by
   rw [<- hsz,Zg,jM hF,Zg,Zg,<- hn,hV,jM hF];have:(List.replicate (l.length-q.length) [Value.int .i64 0,Value.string ⟨#[]⟩,Value.string ⟨#[]⟩]).flatten.length=(l.length-q.length)*3:=by simp
   rw [this];omega
  refine dC (n:=q.length) (sz:=3) (by exact .here) Vk Bm tV (by rw [jM hF]) ?_
  skip
  first | with_reducible apply aO | with_reducible apply aQ
  case he=>exact dI I I
  case hR=>
   intro w' aB;exact aF (.w g q.length vc) trivial (show bC _ [row 188 3 (.w g q.length vc) q.length (gA q)] _ by rw [hV];exact .h1 .nil) aB I
end Go.Proofs.A1
