/- Parts of the proof: GkCore GkOps P5w S1p P5a P5b P5c P5d P5e P5f P5g P5h. -/
import Derived.RangeFuncRecord
import Derived.OrdersIn
import Derived.KernelRfl
import Derived.Below
import Derived.IntWalk
import Derived.Laws.Strings
set_option linter.unusedSectionVars false
set_option linter.unusedVariables false
set_option linter.unusedSimpArgs false
namespace Go.SL
open Go
open Go.RowKit (Below)
abbrev aG:=List (Nat×Value)
def cI:aG→Nat→Option Value
 | [],_=>none
 | (t,v)::r,k=>bif Nat.beq t k then some v else cI r k
theorem fq {t k:Nat} {v:Value} {r:aG} (h:t≠k):cI ((t,v)::r) k=cI r k:=by
 have:Nat.beq t k=false:=by
  cases hb:Nat.beq t k with
  | false=>rfl
  | true=>exact absurd (Nat.eq_of_beq_eq_true hb) h
 simp [cI,this]
theorem fu {t:Nat} {v:Value} {r:aG}:cI ((t,v)::r) t=some v:=by
 simp [cI]
def bK (sl:aG) (a:Act):Prop:=∀ t v,cI sl t=some v→a.tmps[t]? = some v
theorem bK.eval {sl:aG} {a:Act} (h:bK sl a) {t:Nat} {v:Value} (hv:cI sl t=some v):a.eval (.tmp t)=v:=by
 have:=h t v hv
 simp [Act.eval,Array.getD_eq_getD_getElem?,this]
theorem bK.put {sl:aG} {a:Act} (h:bK sl a) {d:Nat} (hd:d<a.tmps.size) (v:Value):bK ((d,v)::sl) (a.put (some d) v):=by
 intro t u hu
 by_cases vV:d=t
 ·subst vV
  rw [fu] at hu
  cases hu
  simp [Act.put,hd]
 ·rw [fq vV] at hu
  simp only [Act.put,Array.getElem?_setIfInBounds_ne vV]
  exact h t u hu
theorem bK.sub {sl iU:aG} {a:Act} (h:bK sl a) (hs:∀ t v,cI iU t=some v→cI sl t=some v):bK iU a:=fun t v hv=>h t v (hs t v hv)
def Is (sl:aG) (x:Operand) (v:Value):Prop:=∀ a:Act,bK sl a→a.eval x=v
def gv (c:Bool) (v:Value):Value:=bif c then v else undef
theorem tE {c:Bool} {v:Value} (h:c=true):gv c v=v:=by simp [gv,h]
theorem uW {c:Bool} {v:Value} (h:c=false):gv c v=undef:=by simp [gv,h]
def hp (w:World):Nat→Option Obj:=fun b=>w.heap[b]?
theorem jG {w:World} {b:Nat} {o:Obj} (h:hp w b=some o):b<w.heap.size:=(Array.getElem?_eq_some_iff.1 h).1
structure ba where
 sat:(Nat→Option Obj)→List Nat→Prop
 loc:∀ {h h':Nat→Option Obj} {fp:List Nat},sat h fp→(∀ b∈fp,h' b=h b)→sat h' fp
 own:∀ {h:Nat→Option Obj} {fp:List Nat},sat h fp→∀ b∈fp,∃ o,h b=some o
def bY (h:Nat→Option Obj):List ba→List Nat→Prop
 | [],fp=>fp=[]
 | A::As,fp=>∃ f1 f2,fp=f1++f2∧A.sat h f1∧bY h As f2
theorem bY.own {h:Nat→Option Obj}:∀ {hs:List ba} {fp:List Nat},bY h hs fp→∀ b∈fp,∃ o,h b=some o
 | [],_,hh,b,hb=>by rw [show _=[] from hh] at hb;cases hb
 | A :: As, _, ⟨f1, f2, e, h1, h2⟩, b, hb => by
  subst e
  rcases List.mem_append.1 hb with hb | hb
  ·exact A.own h1 b hb
  ·exact bY.own h2 b hb
theorem bY.loc {h h':Nat→Option Obj}:∀ {hs:List ba} {fp:List Nat},bY h hs fp→(∀ b∈fp,h' b=h b)→bY h' hs fp
 | [],_,hh,_=>hh
 | A :: As, _, ⟨f1, f2, e, h1, h2⟩, hb => by
  subst e
  exact ⟨f1,f2,rfl,A.loc h1 (fun b dw=>hb b (List.mem_append_left _ dw)),bY.loc h2 (fun b dw=>hb b (List.mem_append_right _ dw))⟩
theorem bY.append_iff {h:Nat→Option Obj}:∀ {l1 l2:List ba} {fp:List Nat},bY h (l1++l2) fp↔∃ f1 f2,fp=f1++f2∧bY h l1 f1∧bY h l2 f2
 | [],l2,fp=>⟨fun hh=>⟨[],fp,rfl,rfl,hh⟩,fun ⟨f1,f2,e,h1,h2⟩=>by rw [show f1=[] from h1] at e;simpa [e] using h2⟩
 | A :: l1, l2, fp => by
  constructor
  ·rintro ⟨f1,f2,rfl,h1,h2⟩
   obtain ⟨g1,g2,rfl,h3,h4⟩:=bY.append_iff.1 h2
   exact ⟨f1++g1,g2,by simp,⟨f1,g1,rfl,h1,h3⟩,h4⟩
  ·rintro ⟨f1,f2,rfl,⟨g1,g2,rfl,h1,h2⟩,h3⟩
   exact ⟨g1,g2++f2,by simp,h1,bY.append_iff.2 ⟨g2,f2,rfl,h2,h3⟩⟩
inductive Take:List ba→ba→List ba→Prop
 | here {A:ba} {r:List ba}:Take (A::r) A r
 | there {A X:ba} {r r':List ba} (h:Take r A r'):Take (X::r) A (X::r')
theorem Take.append {hs hs':List ba} {A:ba} (h:Take hs A hs') (m:List ba):Take (hs++m) A (hs'++m):=by
 induction h with
 | here=>exact .here
 | there _ ih=>exact .there ih
theorem bY.take {h:Nat→Option Obj} {hs hs':List ba} {A:ba} (ht:Take hs A hs'):∀ {fp:List Nat},bY h hs fp→∃ f1 f2,A.sat h f1∧bY h hs' f2∧fp.Perm (f1++f2):=by
 induction ht with
 | here =>
  rintro fp ⟨f1,f2,rfl,h1,h2⟩
  exact ⟨f1,f2,h1,h2,.refl _⟩
 | there _ ih =>
  rintro fp ⟨f1,f2,rfl,h1,h2⟩
  obtain ⟨g1,g2,h3,h4,hp⟩:=ih h2
  refine ⟨g1,f1++g2,h3,⟨f1,g2,rfl,h1,h4⟩,?_⟩
  exact (hp.append_left f1).trans (by
   rw [← List.append_assoc,← List.append_assoc]
   exact (List.perm_append_comm).append_right g2)
structure aF (md:List Nat) (w w':World):Prop where
 os:w'.os=w.os
 tape:w'.tape=w.tape
 output:w'.output=w.output
 dr:w.drawn≤w'.drawn
 size:w.heap.size≤w'.heap.size
 block:∀ k,k<w.heap.size→k ∉ md→w'.heap[k]? = w.heap[k]?
theorem aF.refl (md:List Nat) (w:World):aF md w w:=⟨rfl,rfl,rfl,Nat.le_refl _,Nat.le_refl _,fun _ _ _=>rfl⟩
theorem aF.trans {md:List Nat} {a b c:World} (h:aF md a b) (k:aF md b c):aF md a c:=
 ⟨k.os.trans h.os,k.tape.trans h.tape,k.output.trans h.output,Nat.le_trans h.dr k.dr,Nat.le_trans h.size k.size,fun i hi hm=>(k.block i (Nat.lt_of_lt_of_le hi h.size) hm).trans (h.block i hi hm)⟩
theorem aF.mono {md WO:List Nat} {w w':World} (h:aF md w w') (hs:∀ b∈md,b∈WO):aF WO w w':=
 ⟨h.os,h.tape,h.output,h.dr,h.size,fun k hk hm=>h.block k hk (fun hb=>hm (hs k hb))⟩
theorem aF.below {w w':World} (h:aF [] w w'):Below w.heap.size w w':=⟨h.os,h.tape,h.output,h.size,fun k hk=>h.block k hk (by simp)⟩
theorem aF.Ho {w w':World} (h:Below w.heap.size w w') (hd:w.drawn≤w'.drawn):aF [] w w':=⟨h.os,h.tape,h.output,hd,h.size,fun k hk _=>h.block k hk⟩
theorem aF.drew (md:List Nat) (w:World):aF md w w.drew:=⟨rfl,rfl,rfl,Nat.le_succ _,Nat.le_refl _,fun _ _ _=>rfl⟩
theorem aF.alloc (md:List Nat) (w:World) (o:Obj):aF md w (w.alloc o):=
 ⟨rfl,rfl,rfl,Nat.le_refl _,by simp,fun k hk _=>by show (w.heap.push o)[k]? = _;rw [Array.getElem?_push,if_neg (by omega)]⟩
structure Cx where
 w0:World
 md:List Nat
 nt:Nat
structure Mem (c:Cx) (hs:List ba) (w:World):Prop where
 keeps:aF c.md c.w0 w
 own:∃ fp:List Nat,fp.Nodup∧bY (hp w) hs fp∧∀ b∈fp,c.w0.heap.size≤b∨b∈c.md
theorem Mem.take {c:Cx} {hs hs':List ba} {A:ba} {w:World} (h:Mem c hs w) (ht:Take hs A hs'):Mem c (A::hs') w:=by
 obtain ⟨k,fp,hn,hs,hb⟩:=h
 obtain ⟨f1,f2,h1,h2,hp⟩:=hs.take ht
 exact ⟨k,f1++f2,hp.nodup_iff.1 hn,⟨f1,f2,rfl,h1,h2⟩,fun b dw=>hb b (hp.mem_iff.2 dw)⟩
theorem Mem.change {c:Cx} {As Bs hs:List ba} {w w':World} (h:Mem c (As++hs) w)
  (PS:∀ fp,fp.Nodup→bY (hp w) As fp→aF fp w w'∧∃ kX:List Nat,kX.Nodup∧bY (hp w') Bs kX∧∀ b∈kX,b∈fp∨w.heap.size≤b):Mem c (Bs++hs) w':=by
 obtain ⟨k,fp,hn,hs,hb⟩:=h
 obtain ⟨f1,f2,rfl,h1,h2⟩:=bY.append_iff.1 hs
 obtain ⟨n1,n2,n12⟩:=List.nodup_append.1 hn
 obtain ⟨hk,kX,tC,hs',xE⟩:=PS f1 n1 h1
 have aN:∀ b∈f2,b<w.heap.size:=fun b dw=>let ⟨o,ho⟩:=h2.own b dw;jG ho
 refine ⟨?_,kX++f2,?_,bY.append_iff.2 ⟨kX,f2,rfl,hs',h2.loc fun b dw=>?_⟩,?_⟩
 ·refine ⟨hk.os.trans k.os,hk.tape.trans k.tape,hk.output.trans k.output,Nat.le_trans k.dr hk.dr,Nat.le_trans k.size hk.size,fun b dw hm=>?_⟩
  rw [← k.block b dw hm]
  refine hk.block b (Nat.lt_of_lt_of_le dw k.size) (fun hf=>?_)
  rcases hb b (List.mem_append_left _ hf) with h | h
  ·omega
  ·exact hm h
 ·refine List.nodup_append.2 ⟨tC,n2,fun x hx y hy e=>?_⟩
  subst e
  rcases xE x hx with h | h
  ·exact n12 x h x hy rfl
  ·have:=aN x hy;omega
 ·exact hk.block b (aN b dw) (fun hf=>n12 b hf b dw rfl)
 ·intro b dw
  rcases List.mem_append.1 dw with h | h
  ·rcases xE b h with h | h
   ·exact hb b (List.mem_append_left _ h)
   ·exact .inl (Nat.le_trans k.size h)
  ·exact hb b (List.mem_append_right _ h)
theorem Mem.qL {c:Cx} {hs:List ba} {w w':World} (h:Mem c hs w) (hk:aF [] w w'):Mem c hs w':=
 Mem.change (As:=[]) (Bs:=[]) h fun fp _ hf=>by
  rw [show fp=[] from hf]
  exact ⟨hk,[],List.nodup_nil,rfl,by simp⟩
theorem Mem.drew {c:Cx} {hs:List ba} {w:World} (h:Mem c hs w):Mem c hs w.drew:=h.qL (.drew _ _)
theorem Mem.kL {c:Cx} {l m:List ba} {w:World} (h:Mem c (l++m) w):Mem c l w:=by
 obtain ⟨k,fp,hn,hs,hb⟩:=h
 obtain ⟨f1,f2,rfl,h1,h2⟩:=bY.append_iff.1 hs
 exact ⟨k,f1,(List.nodup_append.1 hn).1,h1,fun b dw=>hb b (List.mem_append_left _ dw)⟩
theorem Mem.u0 {c:Cx} {A:ba} {l:List ba} {w:World} (h:Mem c (A::l) w):Mem c l w:=by
 obtain ⟨k,fp,hn,⟨f1,f2,rfl,h1,h2⟩,hb⟩:=h
 exact ⟨k,f2,(List.nodup_append.1 hn).2.1,h2,fun b dw=>hb b (List.mem_append_right _ dw)⟩
def bD (b:Nat) (o:Obj):ba where
 sat h fp:=fp=[b]∧h b=some o
 loc:=fun ⟨e,h1⟩ hb=>⟨e,by rw [hb _ (by rw [e];simp)];exact h1⟩
 own:=fun ⟨e,h1⟩ b' dw=>by rw [e] at dw;rw [List.mem_singleton.1 dw];exact ⟨o,h1⟩
theorem Mem.bD {c:Cx} {hs hs':List ba} {b:Nat} {o:Obj} {w:World} (h:Mem c hs w) (ht:Take hs (bD b o) hs'):w.heap[b]? = some o:=by
 obtain ⟨_,fp,_,⟨f1,f2,_,⟨_,h1⟩,_⟩,_⟩:=h.take ht
 exact h1
theorem Mem.alloc {c:Cx} {hs:List ba} {w:World} (h:Mem c hs w) (o:Obj):Mem c (SL.bD w.heap.size o::hs) (w.alloc o):=
 Mem.change (As:=[]) (Bs:=[SL.bD w.heap.size o]) h fun fp _ hf=>by
  rw [show fp=[] from hf]
  refine ⟨.alloc _ _ _,[w.heap.size],by simp,⟨[w.heap.size],[],rfl,⟨rfl,World.alloc_heap_new w o⟩,rfl⟩,by simp⟩
theorem Mem.store {c:Cx} {hs:List ba} {b:Nat} {o o':Obj} {w w':World} (h:Mem c (SL.bD b o::hs) w) (hk:aF [b] w w') (ho:w'.heap[b]? = some o'):Mem c (SL.bD b o'::hs) w':=
 Mem.change (As:=[SL.bD b o]) (Bs:=[SL.bD b o']) h fun fp _ hf=>by
  obtain ⟨f1,f2,e,⟨e1,_⟩,e2⟩:=hf
  have:fp=[b]:=by rw [e,e1,show f2=[] from e2];rfl
  subst this
  exact ⟨hk,[b],by simp,⟨[b],[],rfl,⟨rfl,ho⟩,rfl⟩,fun x hx=>.inl hx⟩
theorem Mem.base {c:Cx} {hs:List ba} {w:World} (h:Mem c hs w) {b:Nat} (hb:b<c.w0.heap.size) (hm:b ∉ c.md):w.heap[b]? = c.w0.heap[b]?:=h.keeps.block b hb hm
def mark (r:Nat):Deferred:={ target:=.collected r,args:=#[] }
def lX (D:List Nat):List ba:=D.map fun r=>bD r (.deferred (some []))
structure St (c:Cx) (D:List Nat) (sl:aG) (hs:List ba) (a:Act) (w:World):Prop where
 mem:Mem c (hs++lX D) w
 cT:bK sl a
 size:a.tmps.size=c.nt
 defers:a.defers=D.map mark
def Tr (c:Cx) (D:List Nat) (sl:aG) (hs:List ba) (X:Act→World→Prop):Prop:=∀ a w,St c D sl hs a w→X a w
theorem St.qI {c:Cx} {D:List Nat} {sl:aG} {hs:List ba} {a:Act} {w:World} (h:St c D sl hs a w):Mem c hs w:=h.mem.kL
theorem St.put {c:Cx} {D:List Nat} {sl:aG} {hs:List ba} {a:Act} {w:World} (h:St c D sl hs a w) {d:Nat} (hd:d<c.nt) (v:Value):St c D ((d,v)::sl) hs (a.put (some d) v) w:=
 ⟨h.mem,h.cT.put (by rw [h.size];exact hd) v,by simp [Act.put,h.size],h.defers⟩
theorem St.heap {c:Cx} {D:List Nat} {sl:aG} {hs hs':List ba} {a:Act} {w w':World} (h:St c D sl hs a w) (hm:Mem c (hs'++lX D) w'):St c D sl hs' a w':=
 ⟨hm,h.cT,h.size,h.defers⟩
def FR (r:Option Nat):Fence:={ Fence.wide with round:=r }
def WP (P:Program) (r:Option Nat) (code:Code) (Q:Exit→Act→World→Prop):Act→World→Prop:=code.wpIn (FR r) 0 P Q
def WL (P:Program) (r:Option Nat) (ops:Array Oper) (Q:Exit→Act→World→Prop):List Oper→Act→World→Prop
 | [],a,w=>Q .normal a w
 | o :: rest, a, w =>
  if Region.wanted o (yielded ops a.tmps) then o.wpIn (FR r) 0 P a w (WL P r ops Q rest) Q else WL P r ops Q rest (a.put o.dst undef) w
theorem dE (r:Option Nat) (o:Oper) (P:Program) (w:World) (ρ:Operand→Value):∀ f,o.about P w ρ=some f→(FR r).fn f:=fun _ _=>trivial
theorem vG {P:Program} {r:Option Nat} {ops:Array Oper} {Q:Exit→Act→World→Prop} (l:List Oper):∀ k,(∀ j,l[j]? = ops[k+j]?)→wpOpsIn (FR r) 0 P ops Q (List.range' k l.length)=WL P r ops Q l:=by
 induction l with
 | nil=>intro k _;funext a w;simp [wpOpsIn,WL]
 | cons o l ih =>
  intro k h
  have h0:ops[k]? = some o:=by simpa using (h 0).symm
  have ih':=ih (k+1) (fun j=>by have:=h (j+1);simpa [Nat.add_assoc,Nat.add_comm 1 j] using this)
  funext a w
  simp only [List.length_cons,List.range'_succ,wpOpsIn,h0,WL,ih']
  split
  ·rfl
  ·simp [FR,Fence.wide]
theorem rh {P:Program} {r:Option Nat} {c:Cx} {D:List Nat} {sl:aG} {hs:List ba} {id:Nat} {l:List Oper} {Q:Exit→Act→World→Prop}
  (h:Tr c D sl hs (WL P r l.toArray Q l)):Tr c D sl hs (WP P r (.region id l.toArray false) Q):=fun a w a7=>by
 unfold WP
 refine wpIn_region ?_
 rw [List.range_eq_range',show l.toArray.size=l.length from by simp,vG l 0 (by simp)]
 exact h a w a7
theorem Cf {P:Program} {r:Option Nat} {c:Cx} {D:List Nat} {sl:aG} {hs:List ba} {x y:Code} {Q:Exit→Act→World→Prop}
  (h:Tr c D sl hs (WP P r x (Exit.then (WP P r y Q) Q))):Tr c D sl hs (WP P r (.seq x y) Q):=fun a w a7=>wpIn_seq (h a w a7)
theorem Gk {P:Program} {r:Option Nat} {c:Cx} {D:List Nat} {sl:aG} {hs:List ba} {ops:Array Oper} {Q:Exit→Act→World→Prop}
  (h:Tr c D sl hs (Q .normal)):Tr c D sl hs (WL P r ops Q []):=h
theorem KD {c:Cx} {D:List Nat} {sl:aG} {hs:List ba} {N:Act→World→Prop} {Q:Exit→Act→World→Prop}
  (h:Tr c D sl hs N):Tr c D sl hs (Exit.then N Q .normal):=h
theorem Ah {c:Cx} {D:List Nat} {sl:aG} {hs:List ba} {N:Act→World→Prop} {Q:Exit→Act→World→Prop}
  (h:Tr c D sl hs (Q .ret)):Tr c D sl hs (Exit.then N Q .ret):=h
theorem ym {c:Cx} {D:List Nat} {sl:aG} {hs:List ba} {N:Act→World→Prop} {Q:Exit→Act→World→Prop} {id:Nat}
  (h:Tr c D sl hs (Q (.exit id))):Tr c D sl hs (Exit.then N Q (.exit id)):=h
theorem o6 {c:Cx} {D:List Nat} {sl:aG} {hs:List ba} {id:Nat} {Q:Exit→Act→World→Prop}
  (h:Tr c D sl hs (Q .normal)):Tr c D sl hs (Exit.inBlock id Q .normal):=h
theorem Ch {c:Cx} {D:List Nat} {sl:aG} {hs:List ba} {id:Nat} {Q:Exit→Act→World→Prop}
  (h:Tr c D sl hs (Q .ret)):Tr c D sl hs (Exit.inBlock id Q .ret):=h
theorem Ao {c:Cx} {D:List Nat} {sl:aG} {hs:List ba} {id:Nat} {Q:Exit→Act→World→Prop}
  (h:Tr c D sl hs (Q .normal)):Tr c D sl hs (Exit.inBlock id Q (.exit id)):=fun a w a7=>by
 simp only [Exit.inBlock,if_true];exact h a w a7
theorem tU {c:Cx} {D:List Nat} {sl:aG} {hs:List ba} {id TN:Nat} {Q:Exit→Act→World→Prop} (hne:Nat.beq TN id=false)
  (h:Tr c D sl hs (Q (.exit TN))):Tr c D sl hs (Exit.inBlock id Q (.exit TN)):=fun a w a7=>by
 have:¬ TN=id:=fun e=>by subst e;simp at hne
 simp only [Exit.inBlock,this,if_false];exact h a w a7
theorem Gr {P:Program} {r:Option Nat} {c:Cx} {D:List Nat} {sl:aG} {hs:List ba} {id:Nat} {x:Code} {Q:Exit→Act→World→Prop}
  (h:Tr c D sl hs (WP P r x (Exit.inBlock id Q))):Tr c D sl hs (WP P r (.block id x) Q):=fun a w a7=>wpIn_block (h a w a7)
theorem DG {P:Program} {r:Option Nat} {c:Cx} {D:List Nat} {sl:aG} {hs:List ba} {Q:Exit→Act→World→Prop}
  (h:Tr c D sl hs (Q .normal)):Tr c D sl hs (WP P r .skip Q):=fun a w a7=>wpIn_skip (h a w a7)
theorem KI {P:Program} {r:Option Nat} {c:Cx} {D:List Nat} {sl:aG} {hs:List ba} {id:Nat} {Q:Exit→Act→World→Prop}
  (h:Tr c D sl hs (Q (.exit id))):Tr c D sl hs (WP P r (.exit id) Q):=fun a w a7=>wpIn_exit (h a w a7)
theorem Gj {P:Program} {r:Option Nat} {c:Cx} {D:List Nat} {sl:aG} {hs:List ba} {Q:Exit→Act→World→Prop}
  (h:Tr c D sl hs (Q .ret)):Tr c D sl hs (WP P r .ret Q):=fun a w a7=>wpIn_ret (h a w a7)
theorem DI {P:Program} {r:Option Nat} {c:Cx} {D:List Nat} {sl:aG} {hs:List ba} {x:Operand} {b:Bool} {u v:Code} {Q:Exit→Act→World→Prop} (hx:Is sl x (.bool b))
  (ht:b=true→Tr c D sl hs (WP P r u Q)) (hf:b=false→Tr c D sl hs (WP P r v Q)):Tr c D sl hs (WP P r (.cond x u v) Q):=fun a w a7=>
 wpIn_cond_split (hx a a7.cT) (fun e=>ht e a w a7) (fun e=>hf e a w a7)
theorem cR {P:Program} {r:Option Nat} {c:Cx} {D:List Nat} {sl:aG} {hs:List ba} {x:Operand} {u v:Code} {Q:Exit→Act→World→Prop} (hx:Is sl x (.bool true))
  (ht:Tr c D sl hs (WP P r u Q)):Tr c D sl hs (WP P r (.cond x u v) Q):=fun a w a7=>wpIn_cond_true (hx a a7.cT) (ht a w a7)
theorem bR {P:Program} {r:Option Nat} {c:Cx} {D:List Nat} {sl:aG} {hs:List ba} {x:Operand} {u v:Code} {Q:Exit→Act→World→Prop} (hx:Is sl x (.bool false))
  (ht:Tr c D sl hs (WP P r v Q)):Tr c D sl hs (WP P r (.cond x u v) Q):=fun a w a7=>wpIn_cond_false (hx a a7.cT) (ht a w a7)
theorem EY {P:Program} {r:Option Nat} {c:Cx} {D:List Nat} {sl:aG} {hs:List ba} {x:Operand} {p:Prop} {inst:Decidable p} {u v:Code} {Q:Exit→Act→World→Prop} (hx:Is sl x (.bool (decide p)))
  (ht:p→Tr c D sl hs (WP P r u Q)) (hf:¬ p→Tr c D sl hs (WP P r v Q)):Tr c D sl hs (WP P r (.cond x u v) Q):=
 DI hx (fun e=>ht (of_decide_eq_true e)) (fun e=>hf (of_decide_eq_false e))
theorem KG {P:Program} {r:Option Nat} {c:Cx} {D:List Nat} {sl:aG} {hs:List ba} {x:Code} {Q:Exit→Act→World→Prop} {ι:Type} (Φ:ι→Prop) (sI:ι→aG) (hI:ι→List ba) (μ:ι→Nat)
  (h0:Tr c D sl hs fun a w=>∃ i,Φ i∧St c D (sI i) (hI i) a w)
  (round:∀ i,Φ i→Tr c D (sI i) (hI i) (WP P r x (Exit.then (fun a w=>∃ j,Φ j∧μ j<μ i∧St c D (sI j) (hI j) a w) Q))) :
  Tr c D sl hs (WP P r (.loop x) Q):=fun a w a7=>by
 have key:∀ (n:Nat) i,μ i=n→Φ i→∀ a w,St c D (sI i) (hI i) a w→True:=fun _ _ _ _ _ _ _=>trivial
 -- a measure on Uq: zX least 'μ i' of WI Ot fit
 let fits:Act→World→Nat→Prop:=fun a w n=>∃ i,Φ i∧μ i=n∧St c D (sI i) (hI i) a w
 have least:∀ a w,(∃ n,fits a w n)→∃ n,fits a w n∧∀ m,fits a w m→n≤m:=by
  intro a w ⟨n,hn⟩
  induction n using Nat.strongRecOn with
  | _ n ih =>
   by_cases h:∃ m,m<n∧fits a w m
   ·obtain ⟨m,hm,hf⟩:=h
    exact ih m hm hf
   ·exact ⟨n,hn,fun m hm=>Nat.le_of_not_lt fun aN=>h ⟨m,aN,hm⟩⟩
 let M:Act→World→Nat:=fun a w=>Classical.epsilon fun n=>fits a w n∧∀ m,fits a w m→n≤m
 have hM:∀ a w,(∃ n,fits a w n)→fits a w (M a w)∧∀ m,fits a w m→M a w≤m:=fun a w h=>Classical.epsilon_spec (least a w h)
 refine wpIn_loop (fun a w=>∃ n,fits a w n) M ?_ ?_
 ·obtain ⟨i,hi,hs⟩:=h0 a w a7
  exact ⟨μ i,i,hi,rfl,hs⟩
 ·intro a w hI
  obtain ⟨⟨i,hi,hm,hs⟩,_⟩:=hM a w hI
  refine wpIn_mono (round i hi a w hs) fun e a' w' h=>?_
  cases e with
  | normal =>
   obtain ⟨j,hj,aN,hs'⟩:=h
   have hf:fits a' w' (μ j):=⟨j,hj,rfl,hs'⟩
   exact ⟨⟨_,hf⟩,Nat.lt_of_le_of_lt ((hM a' w' ⟨_,hf⟩).2 _ hf) (by rw [← hm];exact aN)⟩
  | _=>exact h
theorem lP {P:Program} {r:Option Nat} {ops:Array Oper} {Q:Exit→Act→World→Prop} {o:Oper} {rest:List Oper} {a:Act} {w:World} (hg:o.guard=none)
  (h:o.wpIn (FR r) 0 P a w (WL P r ops Q rest) Q):WL P r ops Q (o::rest) a w:=by
 unfold WL
 rw [if_pos (by simp [Region.wanted,hg])]
 exact h
def cX (P:Program) (c:Cx) (sl:aG) (hs:List ba) (o:Oper) (V:Value):Prop:=
 (∀ d,o.op≠.defer d)∧∀ a w,bK sl a→Mem c hs w→(execOp a.eval o).run P w=.ok (.value V) w
theorem ab {P:Program} {r:Option Nat} {c:Cx} {D:List Nat} {sl:aG} {hs:List ba} {ops:Array Oper} {Q:Exit→Act→World→Prop} {d:Nat} {op:Op} {ty:TypeId} {pos:String} {af:Array Edge} {rest:List Oper} {V:Value}
  (hr:cX P c sl hs ⟨some d,op,ty,pos,af,none⟩ V) (hd:Nat.blt d c.nt=true) (k:Tr c D ((d,V)::sl) hs (WL P r ops Q rest)) :
  Tr c D sl hs (WL P r ops Q (⟨some d,op,ty,pos,af,none⟩::rest)):=fun a w a7=>by
 refine lP rfl ⟨dE _ _ _ _ _,?_⟩
 rw [Oper.semAt_eq _ _ _ hr.1,hr.2 a w a7.cT a7.qI]
 exact k _ _ (a7.put (by simpa [Nat.blt_eq] using hd) V)
theorem ko {ops:Array Oper} {o:Oper} {j g:Nat} {want c0 q:Bool} {a:Act} {sl:aG} (hg:o.guard=some (j,want)) (hj:((ops[j]?).bind (·.dst))=some g) (hs:bK sl a) (hq:cI sl g=some (gv c0 (.bool q))) :
  Region.wanted o (yielded ops a.tmps)=(c0&&(q==want)):=by
 have ht:=hs _ _ hq
 simp only [Region.wanted,hg,yielded,hj,Option.bind_some,ht]
 cases c0 <;> cases q <;> cases want <;> rfl
theorem DF {P:Program} {r:Option Nat} {c:Cx} {D:List Nat} {sl:aG} {hs:List ba} {ops:Array Oper} {Q:Exit→Act→World→Prop} {d:Nat} {op:Op} {ty:TypeId} {pos:String} {af:Array Edge} {rest:List Oper} {V:Value}
  {j g:Nat} {want c0 q:Bool} (hj:((ops[j]?).bind (·.dst))=some g) (hq:cI sl g=some (gv c0 (.bool q)))
  (hr:(c0&&(q==want))=true→cX P c sl hs ⟨some d,op,ty,pos,af,some (j,want)⟩ V) (hd:Nat.blt d c.nt=true) (k:Tr c D ((d,gv (c0&&(q==want)) V)::sl) hs (WL P r ops Q rest)) :
  Tr c D sl hs (WL P r ops Q (⟨some d,op,ty,pos,af,some (j,want)⟩::rest)):=fun a w a7=>by
 unfold WL
 rw [ko rfl hj a7.cT hq]
 by_cases h:(c0&&(q==want))=true
 ·rw [if_pos h]
  refine ⟨dE _ _ _ _ _,?_⟩
  rw [Oper.semAt_eq _ _ _ (hr h).1,(hr h).2 a w a7.cT a7.qI]
  rw [tE h] at k
  exact k _ _ (a7.put (by simpa [Nat.blt_eq] using hd) V)
 ·rw [if_neg h]
  rw [uW (by simpa using h)] at k
  exact k _ _ (a7.put (by simpa [Nat.blt_eq] using hd) undef)
theorem tS {P:Program} {r:Option Nat} {c:Cx} {D:List Nat} {sl:aG} {hs:List ba} {ops:Array Oper} {Q:Exit→Act→World→Prop} {d:Nat} {op:Op} {ty:TypeId} {pos:String} {af:Array Edge} {rest:List Oper} {V:Value}
  {j g:Nat} {want q:Bool} (hj:((ops[j]?).bind (·.dst))=some g) (hq:cI sl g=some (.bool q))
  (hr:(q==want)=true→cX P c sl hs ⟨some d,op,ty,pos,af,some (j,want)⟩ V) (hd:Nat.blt d c.nt=true) (k:Tr c D ((d,gv (q==want) V)::sl) hs (WL P r ops Q rest)) :
  Tr c D sl hs (WL P r ops Q (⟨some d,op,ty,pos,af,some (j,want)⟩::rest)):=
 DF (c0:=true) hj (by rw [hq];rfl) (by simpa using hr) hd (by simpa using k)
end Go.SL
namespace Go.SL
open Go
def jQ:TypeDesc→Bool
 | .struct _ | .array _ _=>true
 | _=>false
def MZ (P:Program) (t:TypeId):Option (Bool×Nat):=
 match P.underlying t,P.info? t with
 | some d,some i=>some (jQ d,i.size)
 | _,_=>none
class Ty (P:Program) (t:TypeId) (agg:outParam Bool) (n:outParam Nat):Prop where
 eq:MZ P t=some (agg,n)
class iA (P:Program) (t:TypeId) (d:outParam TypeDesc):Prop where
 eq:P.underlying t=some d
class lu (P:Program) (t:TypeId) (v:outParam Value):Prop where
 eq:(P.info? t).map (·.zero)=some (some v)
class wg (P:Program) (t:TypeId) (n:outParam Nat):Prop where
 eq:(P.info? t).map (·.bytes)=some n
section
variable {P:Program} {w:World} {t:TypeId}
theorem Ty.parts {agg:Bool} {n:Nat} [h:Ty P t agg n]:∃ d i,P.underlying t=some d∧P.info? t=some i∧jQ d=agg∧i.size=n:=by
 have:=h.eq
 unfold MZ at this
 split at this
 ·rename_i d i hd hi
  cases this
  exact ⟨d,i,hd,hi,rfl,rfl⟩
 ·cases this
theorem aT {d:TypeDesc} (h:P.underlying t=some d):(underlying t).run P w=.ok d w:=by simp [underlying,h]
theorem fv {i:TypeInfo} (h:P.info? t=some i):(typeInfo t).run P w=.ok i w:=by simp [typeInfo,h]
theorem fF {agg:Bool} {n:Nat} [h:Ty P t agg n]:(sizeOf t).run P w=.ok n w:=by
 obtain ⟨d,i,_,hi,_,hn⟩:=Ty.parts (P:=P) (t:=t)
 simp [sizeOf,fv hi,hn]
theorem uh {agg:Bool} {n:Nat} [h:Ty P t agg n]:(isAgg t).run P w=.ok agg w:=by
 obtain ⟨d,i,hd,_,ha,_⟩:=Ty.parts (P:=P) (t:=t)
 unfold isAgg
 rw [Sem.run_bind,aT hd,Result.andThen_ok]
 subst ha
 cases d <;> rfl
theorem gV {v:Value} [h:lu P t v]:(zeroValue t).run P w=.ok v w:=by
 have:=h.eq
 cases hi:P.info? t with
 | none=>rw [hi] at this;cases this
 | some i =>
  rw [hi] at this
  have hz:i.zero=some v:=by simpa using this
  simp [zeroValue,fv hi,hz]
theorem yG {a:Addr} {v:Value} (h:w.cell? a=some v) (m:Mode):(load a m).run P w=.ok v w:=by simp [h]
theorem cell_of_block {b:Nat} {cs:Array Value} {E:TypeId} {fz:Nat×Nat} (h:w.heap[b]? = some (.cells cs E fz)) (o:Nat):w.cell? ⟨b,o,none⟩=cs[o]?:=by
 simp [World.cell?,h]
theorem eA (b o n:Nat):Addr.add ⟨b,o,none⟩ n=⟨b,o+n,none⟩:=by
 unfold Addr.add
 split
 ·rename_i h;simp [h]
 ·rfl
theorem lV {b o:Nat}:∀ (n i:Nat) (acc:Array Value) (vs:List Value),vs.length=n→(∀ j v,vs[j]? = some v→w.cell? ⟨b,o+(i+j),none⟩=some v) →
  (loadCellsFrom ⟨b,o,none⟩ i n acc).run P w=.ok (acc++vs.toArray) w
 | 0, i, acc, vs, hl, _ => by
  have:vs=[]:=List.length_eq_zero_iff.1 hl
  subst this
  simp [loadCellsFrom]
 | n+1,i,acc,[],hl,_=>by simp at hl
 | n + 1, i, acc, v :: vs, hl, hc => by
  have h0:w.cell? (Addr.add ⟨b,o,none⟩ i)=some v:=by rw [eA];exact hc 0 v rfl
  simp only [loadCellsFrom,Sem.run_bind,yG h0,Result.andThen_ok]
  rw [lV n (i+1) (acc.push v) vs (by simpa using hl) (fun j u hu=>by
   have:=hc (j+1) u (by simpa using hu)
   rw [show i+1+j=i+(j+1) from by omega]
   exact this)]
  simp
theorem qw {b o n:Nat} {vs:List Value} (hl:vs.length=n) (hc:∀ j v,vs[j]? = some v→w.cell? ⟨b,o+j,none⟩=some v):(loadCells ⟨b,o,none⟩ n).run P w=.ok vs.toArray w:=by
 unfold loadCells
 rw [lV n 0 #[] vs hl (fun j v hv=>by simpa using hc j v hv)]
 simp
theorem rZ {b o n:Nat} {v:Value} [Ty P t false n] (hc:w.cell? ⟨b,o,none⟩=some v):(loadVar t ⟨b,o,none⟩).run P w=.ok v w:=by
 unfold loadVar
 rw [Sem.run_bind,uh (agg:=false) (n:=n),Result.andThen_ok]
 simp [hc]
theorem nE {b o n:Nat} {vs:List Value} [Ty P t true n] (hl:vs.length=n) (hc:∀ j v,vs[j]? = some v→w.cell? ⟨b,o+j,none⟩=some v):(loadVar t ⟨b,o,none⟩).run P w=.ok (.agg vs.toArray) w:=by
 unfold loadVar
 rw [Sem.run_bind,uh (agg:=true) (n:=n),Result.andThen_ok]
 simp only [if_true,Sem.run_bind,fF (t:=t) (agg:=true) (n:=n),Result.andThen_ok,qw hl hc,Sem.run_pure]
end
def At (c:Cx) (hs:List ba) (b o:Nat) (v:Value):Prop:=∀ w,Mem c hs w→w.cell? ⟨b,o,none⟩=some v
theorem At.bD {c:Cx} {hs hs':List ba} {b o:Nat} {cs:Array Value} {E:TypeId} {fz:Nat×Nat} {v:Value} (ht:Take hs (SL.bD b (.cells cs E fz)) hs') (hv:cs[o]? = some v):At c hs b o v:=
 fun w hm=>by rw [cell_of_block (hm.bD ht)];exact hv
theorem At.base {c:Cx} {hs:List ba} {b o:Nat} {v:Value} (h:c.w0.cell? ⟨b,o,none⟩=some v) (Fw:c.md=[]):At c hs b o v:=fun w hm=>by
 have hb:b<c.w0.heap.size:=World.block_lt_of_cell? c.w0 ⟨b,o,none⟩ h
 have:=hm.base hb (by rw [Fw];simp)
 rw [← h]
 simp [World.cell?,this]
theorem At.BN {c:Cx} {hs:List ba} {b o:Nat} {v:Value} (h:c.w0.cell? ⟨b,o,none⟩=some v) (Fw:b ∉ c.md):At c hs b o v:=fun w hm=>by
 have hb:b<c.w0.heap.size:=World.block_lt_of_cell? c.w0 ⟨b,o,none⟩ h
 have:=hm.base hb Fw
 rw [← h]
 simp [World.cell?,this]
def eG (c:Cx) (hs:List ba) (b o:Nat):List Value→Prop
 | []=>True
 | v::vs=>At c hs b o v∧eG c hs b (o+1) vs
theorem eG.get {c:Cx} {hs:List ba} {b:Nat}:∀ {vs:List Value} {o:Nat},eG c hs b o vs→∀ j v,vs[j]? = some v→At c hs b (o+j) v
 | [],_,_,j,v,h=>by simp at h
 | x :: vs, o, ⟨h0, h1⟩, j, v, h => by
  cases j with
  | zero=>simp at h;subst h;exact h0
  | succ j=>have:=eG.get h1 j v (by simpa using h);rwa [show o+1+j=o+(j+1) from by omega] at this
theorem eG.uw {c:Cx} {hs:List ba} {b:Nat}:∀ {vs:List Value} {o:Nat},(∀ j v,vs[j]? = some v→At c hs b (o+j) v)→eG c hs b o vs
 | [],_,_=>trivial
 | x::vs,o,h=>⟨h 0 x rfl,eG.uw fun j v hv=>by have:=h (j+1) v (by simpa using hv);rwa [show o+(j+1)=o+1+j from by omega] at this⟩
theorem eG.base {c:Cx} {hs:List ba} {b o:Nat} {vs:List Value} (h:∀ (j:Nat) (u:Value),vs[j]? = some u→c.w0.cell? ⟨b,o+j,none⟩=some u) (Fw:c.md=[]):eG c hs b o vs:=
 eG.uw fun j u hu=>At.base (h j u hu) Fw
def dU:List Value→Nat→Nat→List Value
 | _,_,0=>[]
 | [],_,_+1=>[]
 | v::r,0,n+1=>v::dU r 0 n
 | _::r,o+1,n+1=>dU r o (n+1)
theorem iO:∀ (cs:List Value) (o n:Nat),dU cs o n=(cs.drop o).take n
 | cs,o,0=>by simp [dU]
 | [],o,n+1=>by simp [dU]
 | v::r,0,n+1=>by simp [dU,iO r 0 n]
 | v::r,o+1,n+1=>by simp [dU,iO r o (n+1)]
def sO:List Value→Nat→Option Value
 | [],_=>none
 | v::_,0=>some v
 | _::r,n+1=>sO r n
theorem tz:∀ (cs:List Value) (o:Nat),sO cs o=cs[o]?
 | [],_=>by simp [sO]
 | v::_,0=>by simp [sO]
 | _::r,n+1=>by simp [sO,tz r n]
theorem At.lit {c:Cx} {hs hs':List ba} {b o:Nat} {cs:List Value} {E:TypeId} {fz:Nat×Nat} {v:Value} (ht:Take hs (SL.bD b (.cells cs.toArray E fz)) hs') (hv:sO cs o=some v):At c hs b o v:=
 At.bD ht (by rw [tz] at hv;simpa using hv)
theorem eG.bD {c:Cx} {hs hs':List ba} {b o n:Nat} {cs:List Value} {E:TypeId} {fz:Nat×Nat} {vs:List Value} (ht:Take hs (SL.bD b (.cells cs.toArray E fz)) hs') (hv:dU cs o n=vs):eG c hs b o vs:=by
 subst hv
 refine eG.uw fun j v hv=>At.bD ht ?_
 simp only [iO,List.getElem?_take,List.getElem?_drop] at hv
 split at hv
 ·simpa using hv
 ·cases hv
section
variable {P:Program} {c:Cx} {sl:aG} {hs hs':List ba} {dst:Option Tmp} {ty:TypeId} {pos:String} {af:Array Edge} {g:Option (Nat×Bool)}
theorem aY {x:Operand} {v:Value} (hx:Is sl x v):cX P c sl hs ⟨dst,.move x,ty,pos,af,g⟩ v:=
 ⟨by simp,fun a w ha _=>by simp [execOp,hx a ha]⟩
theorem cq {x:Operand} {v:Value} (hx:Is sl x v):cX P c sl hs ⟨dst,.assign x,ty,pos,af,g⟩ v:=
 ⟨by simp,fun a w ha _=>by simp [execOp,hx a ha]⟩
theorem th {x y z:Operand} {q:Bool} {v u:Value} (hx:Is sl x (.bool q)) (hy:Is sl y v) (hz:Is sl z u):cX P c sl hs ⟨dst,.pick x y z,ty,pos,af,g⟩ (bif q then v else u):=
 ⟨by simp,fun a w ha _=>by simp [execOp,hx a ha,hy a ha,hz a ha,asBool,cond_eq_ite]⟩
theorem bW {x:Operand} {t:Nat} {p q:Bool} (hx:Is sl x (.bool p)) (hq:cI sl t=some (gv (p==false) (.bool q))) :
  cX P c sl hs ⟨dst,.pick x (.const (.bool true)) (.tmp t),ty,pos,af,g⟩ (.bool (p||q)):=
 ⟨by simp,fun a w ha _=>by
  have h2:=ha.eval hq
  simp only [execOp,hx a ha,h2,asBool]
  cases p <;> simp [gv,Act.eval]⟩
theorem c7 {x:Operand} {t:Nat} {p q:Bool} (hx:Is sl x (.bool p)) (hq:cI sl t=some (gv (p==true) (.bool q))) :
  cX P c sl hs ⟨dst,.pick x (.tmp t) (.const (.bool false)),ty,pos,af,g⟩ (.bool (p&&q)):=
 ⟨by simp,fun a w ha _=>by
  have h2:=ha.eval hq
  simp only [execOp,hx a ha,h2,asBool]
  cases p <;> simp [gv,Act.eval]⟩
theorem nC {x:Operand} {t:Nat} {c0 p q:Bool} (hc:c0=true) (hx:Is sl x (.bool p)) (hq:cI sl t=some (gv (c0&&(p==false)) (.bool q))) :
  cX P c sl hs ⟨dst,.pick x (.const (.bool true)) (.tmp t),ty,pos,af,g⟩ (.bool (p||q)):=bW hx (by rw [hq,hc,Bool.true_and])
theorem gW {x:Operand} {t:Nat} {c0 p q:Bool} (hc:c0=true) (hx:Is sl x (.bool p)) (hq:cI sl t=some (gv (c0&&(p==true)) (.bool q))) :
  cX P c sl hs ⟨dst,.pick x (.tmp t) (.const (.bool false)),ty,pos,af,g⟩ (.bool (p&&q)):=c7 hx (by rw [hq,hc,Bool.true_and])
theorem ir {op:BinOp} {t u:TypeId} {x y:Operand} {v u' r:Value} (hx:Is sl x v) (hy:Is sl y u') (hr:∀ w,(do eqGuard op t x y v u';binOp op t v u').run P w=.ok r w) :
  cX P c sl hs ⟨dst,.binOp op t x y u,ty,pos,af,g⟩ r:=
 ⟨by simp,fun a w ha _=>by
  have:=hr w
  simp only [Sem.run_bind] at this
  simp only [execOp,hx a ha,hy a ha,Sem.run_bind,this,Result.andThen_ok,Sem.run_pure]⟩
theorem fx {op:BinOp} {t:TypeId} {x y:Operand} {k k':IntKind} {a b:Int} {w:World}:(eqGuard op t x y (.int k a) (.int k' b)).run P w=.ok () w:=by
 unfold eqGuard;split <;> rfl
theorem kJ {op:BinOp} {t:TypeId} {x y:Operand} {a b:ByteArray} {w:World}:(eqGuard op t x y (.string a) (.string b)).run P w=.ok () w:=by
 unfold eqGuard;split <;> rfl
theorem zD {op:BinOp} {t:TypeId} {x y:Operand} {a b:Bool} {w:World}:(eqGuard op t x y (.bool a) (.bool b)).run P w=.ok () w:=by
 unfold eqGuard;split <;> rfl
def TE (n:Int):Prop:=-9223372036854775808≤n∧n≤9223372036854775807
theorem GW {t u:TypeId} {x y:Operand} {a b:Int} (hx:Is sl x (.int .i64 a)) (hy:Is sl y (.int .i64 b)) (hb:TE (a+b)) :
  cX P c sl hs ⟨dst,.binOp .add t x y u,ty,pos,af,g⟩ (.int .i64 (a+b)):=
 ir hx hy fun w=>by simp [fx,binOp,Op.intArith,IntWalk.i64_in _ hb]
theorem ud {t u:TypeId} {x y:Operand} {a b:Int} (hx:Is sl x (.int .i64 a)) (hy:Is sl y (.int .i64 b)) (hb:TE (a-b)) :
  cX P c sl hs ⟨dst,.binOp .sub t x y u,ty,pos,af,g⟩ (.int .i64 (a-b)):=
 ir hx hy fun w=>by simp [fx,binOp,Op.intArith,IntWalk.i64_in _ hb]
theorem DW {k:IntKind} {t u:TypeId} {x y:Operand} {a b:Int} (hx:Is sl x (.int k a)) (hy:Is sl y (.int k b)) :
  cX P c sl hs ⟨dst,.binOp .sub t x y u,ty,pos,af,g⟩ (.int k (k.wrap (a-b))):=
 ir hx hy fun w=>by simp [fx,binOp,Op.intArith]
theorem nD {k:IntKind} {t u:TypeId} {x y:Operand} {a b:Int} (hx:Is sl x (.int k a)) (hy:Is sl y (.int k b)) :
  cX P c sl hs ⟨dst,.binOp .lss t x y u,ty,pos,af,g⟩ (.bool (decide (a<b))):=
 ir hx hy fun w=>by simp [fx,binOp,Op.intCmp]
theorem kB {k:IntKind} {t u:TypeId} {x y:Operand} {a b:Int} (hx:Is sl x (.int k a)) (hy:Is sl y (.int k b)) :
  cX P c sl hs ⟨dst,.binOp .leq t x y u,ty,pos,af,g⟩ (.bool (decide (a≤b))):=
 ir hx hy fun w=>by simp [fx,binOp,Op.intCmp]
theorem my {k:IntKind} {t u:TypeId} {x y:Operand} {a b:Int} (hx:Is sl x (.int k a)) (hy:Is sl y (.int k b)) :
  cX P c sl hs ⟨dst,.binOp .gtr t x y u,ty,pos,af,g⟩ (.bool (decide (b<a))):=
 ir hx hy fun w=>by simp [fx,binOp,Op.intCmp]
theorem yH {k:IntKind} {t u:TypeId} {x y:Operand} {a b:Int} (hx:Is sl x (.int k a)) (hy:Is sl y (.int k b)) :
  cX P c sl hs ⟨dst,.binOp .geq t x y u,ty,pos,af,g⟩ (.bool (decide (b≤a))):=
 ir hx hy fun w=>by simp [fx,binOp,Op.intCmp]
theorem nF {k:IntKind} {t u:TypeId} {x y:Operand} {a b:Int} (hx:Is sl x (.int k a)) (hy:Is sl y (.int k b)) :
  cX P c sl hs ⟨dst,.binOp .eql t x y u,ty,pos,af,g⟩ (.bool (decide (a=b))):=
 ir hx hy fun w=>by simp [fx,binOp,Op.intCmp];rfl
theorem jr {k:IntKind} {t u:TypeId} {x y:Operand} {a b:Int} (hx:Is sl x (.int k a)) (hy:Is sl y (.int k b)) :
  cX P c sl hs ⟨dst,.binOp .neq t x y u,ty,pos,af,g⟩ (.bool (decide (a≠b))):=
 ir hx hy fun w=>by simp [fx,binOp,Op.intCmp];rfl
theorem fG {t:TypeId} {x:Operand} {b:Bool} (hx:Is sl x (.bool b)):cX P c sl hs ⟨dst,.unOp .not t x,ty,pos,af,g⟩ (.bool (!b)):=
 ⟨by simp,fun a w ha _=>by simp [execOp,hx a ha,Op.unary]⟩
theorem tf (a b:ByteArray):(a.toList==b.toList)=decide (a=b):=by
 rw [ByteArray.toList_eq,ByteArray.toList_eq,Bool.eq_iff_iff]
 simp only [beq_iff_eq,decide_eq_true_eq]
 constructor
 ·intro h;cases a;cases b;simp at h;rw [h]
 ·intro h;rw [h]
theorem ee {t u:TypeId} {x y:Operand} {a b:ByteArray} (hx:Is sl x (.string a)) (hy:Is sl y (.string b)) :
  cX P c sl hs ⟨dst,.binOp .eql t x y u,ty,pos,af,g⟩ (.bool (decide (a=b))):=
 ir hx hy fun w=>by simp [kJ,binOp,Op.stringOp,tf]
theorem iI {t u:TypeId} {x y:Operand} {a b:ByteArray} (hx:Is sl x (.string a)) (hy:Is sl y (.string b)) :
  cX P c sl hs ⟨dst,.binOp .neq t x y u,ty,pos,af,g⟩ (.bool (decide (a≠b))):=
 ir hx hy fun w=>by simp [kJ,binOp,Op.stringOp,tf]
theorem rq {t u:TypeId} {x y:Operand} {a b:ByteArray} (hx:Is sl x (.string a)) (hy:Is sl y (.string b)) (hb:a.size+b.size≤9223372036854775807) :
  cX P c sl hs ⟨dst,.binOp .add t x y u,ty,pos,af,g⟩ (.string (a++b)):=
 ir hx hy fun w=>by
  simp [kJ,binOp,Op.stringOp]
  omega
theorem ai {t:TypeId} {n:Nat} {x:Operand} {b o:Nat} {v:Value} [Ty P t false n] (hx:Is sl x (.pointer (some ⟨b,o,none⟩))) (hv:At c hs b o v) :
  cX P c sl hs ⟨dst,.load t x,ty,pos,af,g⟩ v:=
 ⟨by simp,fun a w ha hm=>by simp [execOp,hx a ha,Instr.loadAt,Instr.sureAddr,rZ (hv w hm)]⟩
theorem iY {t:TypeId} {n:Nat} {x:Operand} {b o:Nat} {vs:List Value} [Ty P t true n] (hx:Is sl x (.pointer (some ⟨b,o,none⟩))) (hv:eG c hs b o vs) (hl:vs.length=n) :
  cX P c sl hs ⟨dst,.load t x,ty,pos,af,g⟩ (.agg vs.toArray):=
 ⟨by simp,fun a w ha hm=>by simp [execOp,hx a ha,Instr.loadAt,Instr.sureAddr,nE hl (fun j v h=>hv.get j v h w hm)]⟩
def Bx (P:Program) (t:TypeId) (i:Nat):Option Nat:=
 match P.underlying t with
 | some (.struct fs) => match fs[i]? with
  | some f => match P.info? f.type with
   | some fi=>if fi.size=0 then none else some f.offset
   | none=>none
  | none=>none
 | _=>none
class eo (P:Program) (t:TypeId) (i:Nat) (o:outParam Nat):Prop where
 eq:Bx P t i=some o
theorem eo.parts {t:TypeId} {i o:Nat} [h:eo P t i o]:∃ fs f fi,P.underlying t=some (.struct fs)∧fs[i]? = some f∧P.info? f.type=some fi∧fi.size≠0∧f.offset=o:=by
 have:=h.eq
 unfold Bx at this
 split at this
 ·rename_i fs SD
  split at this
  ·rename_i f hf
   split at this
   ·rename_i fi T7
    split at this
    ·cases this
    ·rename_i hz;cases this;exact ⟨fs,f,fi,SD,hf,T7,hz,rfl⟩
   ·cases this
  ·cases this
 ·cases this
theorem ar {t:TypeId} {i o:Nat} {x:Operand} {b k q:Nat} [eo P t i o] (hx:Is sl x (.pointer (some ⟨b,k,none⟩))) (he:k+o=q) :
  cX P c sl hs ⟨dst,.fieldAddr t x i,ty,pos,af,g⟩ (.pointer (some ⟨b,q,none⟩)):=
 ⟨by simp,fun a w ha _=>by
  subst he
  obtain ⟨fs,f,fi,h1,h2,h3,h4,h5⟩:=eo.parts (P:=P) (t:=t) (i:=i)
  simp only [execOp,hx a ha,Instr.fieldAt,Sem.run_bind,aT h1,Result.andThen_ok,h2,Instr.sureAddr,Sem.run_pure,fieldPlace,sizeOf,fv h3,h4,if_false,eA,h5]⟩
def partOf (agg:Bool) (n:Nat) (cs:List Value) (o:Nat):Option Value:=
 bif agg then some (.agg (dU cs o n).toArray) else sO cs o
theorem K9 {t:TypeId} {agg:Bool} {n:Nat} [Ty P t agg n] {cs:List Value} {o:Nat} {v:Value} {w:World} (h:partOf agg n cs o=some v):(part t cs.toArray o).run P w=.ok v w:=by
 unfold part
 rw [Sem.run_bind,uh (agg:=agg) (n:=n),Result.andThen_ok]
 cases agg with
 | true =>
  simp only [partOf,cond_true,Option.some.injEq] at h
  simp only [if_true,Sem.run_bind,fF (t:=t) (agg:=true) (n:=n),Result.andThen_ok,Sem.run_pure,← h,iO]
  congr 2
  simp [List.extract_eq_take_drop]
 | false =>
  simp only [partOf,cond_false,tz] at h
  simp [h]
def fieldInfo (P:Program) (t:TypeId) (i:Nat):Option (Nat×TypeId):=
 match P.underlying t with
 | some (.struct fs)=>(fs[i]?).map fun f=>(f.offset,f.type)
 | _=>none
class XS (P:Program) (t:TypeId) (i:Nat) (o:outParam Nat) (ft:outParam TypeId):Prop where
 eq:fieldInfo P t i=some (o,ft)
theorem AS {t ft:TypeId} {i o n:Nat} {agg:Bool} {x:Operand} {cs:List Value} {v:Value} [h:XS P t i o ft] [Ty P ft agg n] (hx:Is sl x (.agg cs.toArray)) (hv:partOf agg n cs o=some v) :
  cX P c sl hs ⟨dst,.field t x i,ty,pos,af,g⟩ v:=
 ⟨by
   simp,fun a w ha _=>by
  have h1:=h.eq
  unfold fieldInfo at h1
  split at h1
  ·rename_i fs SD
   obtain ⟨f,hf,he⟩:=Option.map_eq_some_iff.1 h1
   simp only [Prod.mk.injEq] at he
   obtain ⟨e1,e2⟩:=he
   subst e1;subst e2
   simp only [execOp,hx a ha,Instr.field,Sem.run_bind,aT SD,Result.andThen_ok,hf,asAgg,Sem.run_pure,K9 (agg:=agg) (n:=n) hv]
  ·cases h1⟩
theorem aC {t e:TypeId} {n:Nat} {agg:Bool} {x y:Operand} {a0:Option Addr} {b o len cap q:Nat} {k:IntKind} {i:Int} [hu:iA P t (.slice e)] [Ty P e agg n] (hx:Is sl x (.slice a0 len cap)) (hy:Is sl y (.int k i))
  (ha:a0=some ⟨b,o,none⟩) (h0:0≤i) (h1:i<len) (he:o+i.toNat*n=q):cX P c sl hs ⟨dst,.indexAddr t x y,ty,pos,af,g⟩ (.pointer (some ⟨b,q,none⟩)):=
 ⟨by simp,fun a w uK _=>by
  subst he;subst ha
  simp [execOp,hx a uK,hy a uK,Instr.indexAt,asIntOf,aT hu.eq,h0,h1,fF (agg:=agg) (n:=n),eA]⟩
theorem gi {t e:TypeId} {n len:Nat} {agg:Bool} {x y:Operand} {b o q:Nat} {k:IntKind} {i:Int} [hu:iA P t (.array len e)] [Ty P e agg n] (hx:Is sl x (.pointer (some ⟨b,o,none⟩))) (hy:Is sl y (.int k i))
  (h0:0≤i) (h1:i<len) (he:o+i.toNat*n=q):cX P c sl hs ⟨dst,.indexAddr t x y,ty,pos,af,g⟩ (.pointer (some ⟨b,q,none⟩)):=
 ⟨by simp,fun a w ha _=>by
  subst he
  simp [execOp,hx a ha,hy a ha,Instr.indexAt,Instr.sureAddr,asIntOf,aT hu.eq,h0,h1,fF (agg:=agg) (n:=n),eA]⟩
theorem oG {t:TypeId} {x y:Operand} {k:IntKind} {i:Int} {s:ByteArray} [hu:iA P t .string] (hx:Is sl x (.string s)) (hy:Is sl y (.int k i))
  (h0:0≤i) (h1:i<s.size):cX P c sl hs ⟨dst,.index t x y,ty,pos,af,g⟩ (.int .u8 ((s.data.toList[i.toNat]?.getD 0).toNat:Nat)):=
 ⟨by
   simp,fun a w ha _=>by
  have aN:i.toNat<s.size:=by omega
  have hs:s[i.toNat]? = some s[i.toNat]:=getElem?_pos s i.toNat aN
  have hd:s.data.toList[i.toNat]?.getD 0=s[i.toNat]:=by
   rw [Array.getElem?_toList,show s.data[i.toNat]? = some s.data[i.toNat] from Array.getElem?_eq_getElem aN]
   rfl
  simp [execOp,hx a ha,hy a ha,Instr.index,asIntOf,aT hu.eq,h0,hs,← hd]⟩
theorem AR {f:Fn} {first captured:Array Operand} {vs us:Array Value} (h1:∀ a,bK sl a→first.map a.eval=vs) (h2:∀ a,bK sl a→captured.map a.eval=us) :
  cX P c sl hs ⟨dst,.makeFunc f first captured,ty,pos,af,g⟩ (.func f vs us):=
 ⟨by simp,fun a w ha _=>by simp [execOp,h1 a ha,h2 a ha,Instr.makeFunc]⟩
theorem dG {x:Operand} {i:Nat} {vs:List Value} {v:Value} (hx:Is sl x (.tuple vs.toArray)) (hv:sO vs i=some v):cX P c sl hs ⟨dst,.extract x i,ty,pos,af,g⟩ v:=
 ⟨by simp,fun a w ha _=>by simp [execOp,hx a ha,Instr.extract,← tz,hv]⟩
theorem GV {t:TypeId} {parts:Array (Nat×Operand)} {ps:Array (Nat×Value)} {v:Value} (hp:∀ a,bK sl a→(parts.map fun (i,x)=>(i,a.eval x))=ps) (hb:∀ w,(Instr.build t ps).run P w=.ok v w) :
  cX P c sl hs ⟨dst,.build t parts,ty,pos,af,g⟩ v:=
 ⟨by simp,fun a w ha _=>by simp only [execOp,hp a ha,Sem.run_bind,hb w,Result.andThen_ok,Sem.run_pure]⟩
theorem ct {t:TypeId} {e:TypeId} {x:Operand} {b:Option Addr} {n cap:Nat} [hu:iA P t (.slice e)] (hx:Is sl x (.slice b n cap)) :
  cX P c sl hs ⟨dst,.call ⟨.builtin .len,#[x],#[t]⟩,ty,pos,af,g⟩ (.int .i64 n):=
 ⟨by simp,fun a w ha _=>by simp [execOp,hx a ha,resolve,invoke,builtin,Builtin.len_,aT hu.eq,goInt]⟩
theorem eR {t:TypeId} {x:Operand} {s:ByteArray} [hu:iA P t .string] (hx:Is sl x (.string s)) :
  cX P c sl hs ⟨dst,.call ⟨.builtin .len,#[x],#[t]⟩,ty,pos,af,g⟩ (.int .i64 s.size):=
 ⟨by simp,fun a w ha _=>by simp [execOp,hx a ha,resolve,invoke,builtin,Builtin.len_,aT hu.eq,goInt]⟩
end
end Go.SL
namespace Go.Proofs.A1
open Go Go.SL
structure Wn where
 n:Nat
 ca:Nat→Bool
 fe:Nat→Bool
 fr:Nat→Int
 to:Nat→Int
 Dp:Int
def Wn.fin (N:Wn) (p:List Nat):Int:=match p.getLast? with | none=>N.Dp | some j=>N.to j
def Wn.step (N:Wn) (p:List Nat) (j:Nat):Bool:=decide (j<N.n)&&(!p.contains j&&((p.isEmpty&&N.ca j)||(N.fe j&&decide (N.fr j=N.fin p))))
def Wn.ok (N:Wn) (p:List Nat):Prop:=∀ k (h:k<p.length),N.step (p.take k) p[k]=true
theorem Wn.l8 (N:Wn) (p:List Nat) (j:Nat):N.fin (p++[j])=N.to j:=by unfold Wn.fin;rw [List.getLast?_append];rfl
theorem Wn.ru (N:Wn):N.ok []:=fun k h=>absurd h (Nat.not_lt_zero k)
theorem Wn.j9 {N:Wn} {p:List Nat} {j:Nat}:N.ok (p++[j])↔N.ok p∧N.step p j=true:=by
 constructor
 ·intro h
  constructor
  ·intro k hk
   have:=h k (by rw [List.length_append];omega)
   rwa [List.take_append_of_le_length (by omega),List.getElem_append_left hk] at this
  ·have:=h p.length (by rw [List.length_append];simp)
   rwa [List.take_append_of_le_length (Nat.le_refl _),List.take_of_length_le (Nat.le_refl _),List.getElem_append_right (Nat.le_refl _),List.getElem_singleton] at this
 ·rintro ⟨h1,h2⟩ k hk
  rw [List.length_append] at hk
  by_cases hl:k<p.length
  ·rw [List.take_append_of_le_length (by omega),List.getElem_append_left hl];exact h1 k hl
  ·obtain rfl:k=p.length:=by simp at hk;omega
   rw [List.take_append_of_le_length (Nat.le_refl _),List.take_of_length_le (Nat.le_refl _),List.getElem_append_right (Nat.le_refl _),List.getElem_singleton];exact h2
theorem Wn.D5 {N:Wn} {p:List Nat} (h:N.ok p) (k:Nat):N.ok (p.take k):=by
 intro i hi
 rw [List.length_take] at hi
 have:=h i (by omega)
 rwa [List.take_take,Nat.min_eq_left (by omega),List.getElem_take]
theorem Wn.yS {N:Wn} {p q:List Nat} (h:N.ok p) (hp:q <+: p):N.ok q:=by
 rw [List.prefix_iff_eq_take.1 hp];exact Wn.D5 h _
theorem Wn.oE {N:Wn} {p:List Nat} {j:Nat} (h:N.step p j=true):j<N.n:=by
 unfold Wn.step at h;simp only [Bool.and_eq_true,decide_eq_true_eq] at h;exact h.1
theorem Wn.tY {N:Wn} {p:List Nat} {j:Nat} (h:N.step p j=true):j ∉ p:=by
 unfold Wn.step at h;simp only [Bool.and_eq_true,Bool.not_eq_true',List.contains_eq_mem,decide_eq_false_iff_not] at h;exact h.2.1
theorem Wn.A3 {N:Wn} {p:List Nat} (h:N.ok p):p.Nodup:=by
 have key:∀ k,k≤p.length→(p.take k).Nodup:=by
  intro k
  induction k with
  | zero=>intro _;rw [List.take_zero];exact List.nodup_nil
  | succ k ih =>
   intro hk
   rw [List.take_succ_eq_append_getElem (by omega),List.nodup_append]
   refine ⟨ih (by omega),by simp,?_⟩
   intro a ha b hb
   rw [List.mem_singleton] at hb
   subst hb
   intro e
   subst e
   exact Wn.tY (h k (by omega)) ha
 have:=key p.length (Nat.le_refl _)
 rwa [List.take_of_length_le (Nat.le_refl _)] at this
theorem Wn.Mm (N:Wn):N.fin []=N.Dp:=rfl
def Wn.sU (N:Wn) (p:List Nat):Nat:=p.countP N.fe
def lexB:List Nat→List Nat→Bool
 | x::a,y::b=>decide (x<y)||(decide (x=y)&&lexB a b)
 | _,_=>false
theorem nJ:∀ a,lexB a a=false
 | []=>rfl
 | x::a=>by rw [lexB,nJ a];simp
theorem pH:∀ {a b c:List Nat},lexB a b=true→lexB b c=true→lexB a c=true
 | [],_,_,h,_=>by cases h
 | _::_,[],_,h,_=>by cases h
 | _::_,_::_,[],_,h=>by cases h
 | x :: a, y :: b, z :: c, h1, h2 => by
  rw [lexB] at h1 h2 ⊢
  simp only [Bool.or_eq_true,Bool.and_eq_true,decide_eq_true_eq] at h1 h2 ⊢
  rcases h1 with h1 | ⟨h1,Ac⟩ <;> rcases h2 with h2 | ⟨h2,FF⟩
  ·exact .inl (by omega)
  ·exact .inl (by omega)
  ·exact .inl (by omega)
  ·exact .inr ⟨by omega,pH Ac FF⟩
theorem pI:∀ {a b:List Nat},a.length=b.length→a≠b→lexB a b=true∨lexB b a=true
 | [],[],_,h=>absurd rfl h
 | [],_::_,h,_=>by cases h
 | _::_,[],h,_=>by cases h
 | x :: a, y :: b, hl, h => by
  rw [lexB,lexB]
  simp only [Bool.or_eq_true,Bool.and_eq_true,decide_eq_true_eq]
  by_cases e:x=y
  ·subst e
   rcases pI (a:=a) (b:=b) (by simpa using hl) (fun e=>h (by rw [e])) with h | h
   ·exact .inl (.inr ⟨rfl,h⟩)
   ·exact .inr (.inr ⟨rfl,h⟩)
  ·rcases Nat.lt_or_gt_of_ne e with h | h
   ·exact .inl (.inl h)
   ·exact .inr (.inl h)
def Wn.lt (N:Wn) (a b:List Nat):Bool:=decide (N.sU a<N.sU b)||(decide (N.sU a=N.sU b)&&(decide (a.length<b.length)||(decide (a.length=b.length)&&lexB a b)))
theorem Wn.lt_irrefl (N:Wn) (a:List Nat):N.lt a a=false:=by unfold Wn.lt;rw [nJ];simp
theorem Wn.lt_trans {N:Wn} {a b c:List Nat} (h1:N.lt a b=true) (h2:N.lt b c=true):N.lt a c=true:=by
 unfold Wn.lt at *
 simp only [Bool.or_eq_true,Bool.and_eq_true,decide_eq_true_eq] at *
 rcases h1 with h1 | ⟨h1,h1 | ⟨Ac,Wp⟩⟩ <;> rcases h2 with h2 | ⟨h2,h2 | ⟨FF,Wm⟩⟩
 ·exact .inl (by omega)
 ·exact .inl (by omega)
 ·exact .inl (by omega)
 ·exact .inl (by omega)
 ·exact .inr ⟨by omega,.inl (by omega)⟩
 ·exact .inr ⟨by omega,.inl (by omega)⟩
 ·exact .inl (by omega)
 ·exact .inr ⟨by omega,.inl (by omega)⟩
 ·exact .inr ⟨by omega,.inr ⟨by omega,pH Wp Wm⟩⟩
theorem Wn.Ba {N:Wn} {a b:List Nat} (h:a≠b):N.lt a b=true∨N.lt b a=true:=by
 unfold Wn.lt
 simp only [Bool.or_eq_true,Bool.and_eq_true,decide_eq_true_eq]
 rcases Nat.lt_trichotomy (N.sU a) (N.sU b) with h1 | h1 | h1
 ·exact .inl (.inl h1)
 ·rcases Nat.lt_trichotomy a.length b.length with h2 | h2 | h2
  ·exact .inl (.inr ⟨h1,.inl h2⟩)
  ·rcases pI h2 h with h3 | h3
   ·exact .inl (.inr ⟨h1,.inr ⟨h2,h3⟩⟩)
   ·exact .inr (.inr ⟨h1.symm,.inr ⟨h2.symm,h3⟩⟩)
  ·exact .inr (.inr ⟨h1.symm,.inl h2⟩)
 ·exact .inr (.inl h1)
theorem Wn.Hv {N:Wn} {q p:List Nat} (h:q <+: p):q=p∨N.lt q p=true:=by
 obtain ⟨r,rfl⟩:=h
 cases r with
 | nil=>exact .inl (List.append_nil q).symm
 | cons x r =>
  refine .inr ?_
  unfold Wn.lt Wn.sU
  simp only [Bool.or_eq_true,Bool.and_eq_true,decide_eq_true_eq]
  rw [List.countP_append,List.length_append,List.length_cons]
  by_cases h0:List.countP N.fe (x::r)=0
  ·exact .inr ⟨by omega,.inl (by omega)⟩
  ·exact .inl (by omega)
def Wn.least (N:Wn) (d:Int) (p:List Nat):Prop:=N.ok p∧N.fin p=d∧∀ q,N.ok q→N.fin q=d→N.lt q p=false
theorem Wn.CO {N:Wn} {d:Int} {p q:List Nat} (hp:N.least d p) (hq:N.least d q):p=q:=by
 by_cases h:p=q
 ·exact h
 ·rcases Wn.Ba (N:=N) h with h | h
  ·rw [hq.2.2 p hp.1 hp.2.1] at h;cases h
  ·rw [hp.2.2 q hq.1 hq.2.1] at h;cases h
def Wn.all (N:Wn) (d:Int):Nat→List Nat→List (List Nat)
 | 0,_=>[]
 | k+1,p=>(if N.fin p=d then [p] else [])++((List.range N.n).filter (N.step p)).flatMap fun j=>N.all d k (p++[j])
theorem Wn.yX {N:Wn} {d:Int} {q:List Nat}:∀ {k:Nat} {p:List Nat},N.ok p→q∈N.all d k p→N.ok q∧N.fin q=d
 | 0,_,_,h=>by cases h
 | k + 1, p, ho, h => by
  rw [Wn.all,List.mem_append] at h
  rcases h with h | h
  ·split at h
   ·rw [List.mem_singleton] at h;subst h;exact ⟨ho,‹_›⟩
   ·cases h
  ·obtain ⟨j,hj,h⟩:=List.mem_flatMap.1 h
   exact Wn.yX (Wn.j9.2 ⟨ho,(List.mem_filter.1 hj).2⟩) h
theorem Wn.zR {N:Wn} {d:Int}:∀ {k:Nat} {p r:List Nat},N.ok (p++r)→N.fin (p++r)=d→r.length<k→p++r∈N.all d k p
 | 0,_,_,_,_,h=>absurd h (Nat.not_lt_zero _)
 | k + 1, p, [], ho, hf, _ => by
  rw [List.append_nil] at *
  rw [Wn.all,if_pos hf]
  simp
 | k + 1, p, j :: r, ho, hf, hk => by
  have e:p++j::r=(p++[j])++r:=by simp
  rw [e] at ho hf ⊢
  have h1:=Wn.yS ho (List.prefix_append (p++[j]) r)
  have h2:=(Wn.j9.1 h1).2
  rw [Wn.all,List.mem_append]
  refine .inr (List.mem_flatMap.2 ⟨j,List.mem_filter.2 ⟨List.mem_range.2 (Wn.oE h2),h2⟩,?_⟩)
  exact Wn.zR ho hf (by rw [List.length_cons] at hk;omega)
def Wn.QD (N:Wn) (x:List Nat):List Nat:=(List.range N.n).filter (N.step x)
def Wn.exts (N:Wn) (x:List Nat):List (List Nat):=(N.QD x).map fun j=>x++[j]
structure Wn.Inv (N:Wn) (d:Int) (Q:List (List Nat)):Prop where
 ok:∀ q∈Q,N.ok q∧q≠[]
 cover:∀ p,N.ok p→N.fin p=d→∃ q∈Q,q <+: p
theorem Wn.Fo {N:Wn} {d:Int} (h:N.Dp≠d) {Q:List (List Nat)} (hQ:∀ q,q∈Q↔q∈N.exts []):N.Inv d Q:=by
 constructor
 ·intro q hq
  obtain ⟨j,hj,rfl⟩:=List.mem_map.1 ((hQ q).1 hq)
  exact ⟨Wn.j9.2 ⟨N.ru,(List.mem_filter.1 hj).2⟩,by simp⟩
 ·intro p hp hf
  cases p with
  | nil=>exact absurd hf h
  | cons j r =>
   have h1:N.ok ([]++[j]):=Wn.yS hp ⟨r,rfl⟩
   have h2:=(Wn.j9.1 h1).2
   exact ⟨[j],(hQ _).2 (List.mem_map.2 ⟨j,List.mem_filter.2 ⟨List.mem_range.2 (Wn.oE h2),h2⟩,rfl⟩),⟨r,rfl⟩⟩
theorem Wn.Fm {N:Wn} {d:Int} {Q:List (List Nat)} {x:List Nat} (h:N.Inv d Q) (hx:x∈Q) (hm:∀ q∈Q,N.lt q x=false) (hf:N.fin x=d):N.least d x:=by
 refine ⟨(h.ok x hx).1,hf,fun q hq hfq=>?_⟩
 obtain ⟨c,hc,hp⟩:=h.cover q hq hfq
 have h0:=hm c hc
 rcases Wn.Hv (N:=N) hp with e | e
 ·rwa [← e]
 ·cases hb:N.lt q x with
  | false=>rfl
  | true=>rw [Wn.lt_trans e hb] at h0;exact h0
theorem Wn.HH {N:Wn} {d:Int} {Q R:List (List Nat)} {x:List Nat} (h:N.Inv d Q) (hQ:∀ q,q∈Q↔q=x∨q∈R) (hf:N.fin x≠d):N.Inv d (R++N.exts x):=by
 have hx:=h.ok x ((hQ x).2 (.inl rfl))
 constructor
 ·intro q hq
  rcases List.mem_append.1 hq with hq | hq
  ·exact h.ok q ((hQ q).2 (.inr hq))
  ·obtain ⟨j,hj,rfl⟩:=List.mem_map.1 hq
   exact ⟨Wn.j9.2 ⟨hx.1,(List.mem_filter.1 hj).2⟩,by simp⟩
 ·intro p hp Fy
  obtain ⟨c,hc,r,rfl⟩:=h.cover p hp Fy
  rcases (hQ c).1 hc with rfl | hc
  ·cases r with
   | nil=>rw [List.append_nil] at Fy;exact absurd Fy hf
   | cons j r =>
    have e:c++j::r=(c++[j])++r:=by simp
    rw [e] at hp ⊢
    have h2:=(Wn.j9.1 (Wn.yS hp (List.prefix_append (c++[j]) r))).2
    exact ⟨c++[j],List.mem_append.2 (.inr (List.mem_map.2 ⟨j,List.mem_filter.2 ⟨List.mem_range.2 (Wn.oE h2),h2⟩,rfl⟩)),⟨r,rfl⟩⟩
  ·exact ⟨c,List.mem_append.2 (.inl hc),⟨r,rfl⟩⟩
theorem Wn.HG {N:Wn} {d:Int} (h:N.Inv d []):∀ p,N.ok p→N.fin p≠d:=fun p hp hf=>by
 obtain ⟨q,hq,_⟩:=h.cover p hp hf
 cases hq
theorem kp:∀ (n:Nat) (l:List Nat),l.Nodup→(∀ x∈l,x<n)→l.length≤n
 | 0, l, _, h => by
  cases l with
  | nil=>exact Nat.le_refl _
  | cons x l=>exact absurd (h x (by simp)) (Nat.not_lt_zero _)
 | n + 1, l, hn, h => by
  have:=kp n (l.erase n) (hn.erase n) fun x hx=>by
   have h1:=h x (List.mem_of_mem_erase hx)
   have h2:=(List.Nodup.mem_erase_iff hn).1 hx
   omega
  by_cases hm:n∈l
  ·rw [List.length_erase_of_mem hm] at this;omega
  ·rw [List.erase_of_not_mem hm] at this;omega
theorem Wn.A4 {N:Wn} {p:List Nat} (h:N.ok p):∀ x∈p,x<N.n:=by
 intro x hx
 obtain ⟨k,hk,rfl⟩:=List.getElem_of_mem hx
 exact Wn.oE (h k hk)
theorem Wn.uv {N:Wn} {p:List Nat} (h:N.ok p):p.length≤N.n:=kp _ _ (Wn.A3 h) (Wn.A4 h)
theorem Wn.Lu {N:Wn} {x:List Nat} (h:N.ok x):x.length+(N.QD x).length≤N.n:=by
 rw [← List.length_append]
 refine kp _ _ ?_ ?_
 ·rw [List.nodup_append]
  refine ⟨Wn.A3 h,(List.nodup_range).filter _,?_⟩
  intro a ha b hb e
  subst e
  exact Wn.tY (List.mem_filter.1 hb).2 ha
 ·intro y hy
  rcases List.mem_append.1 hy with hy | hy
  ·exact Wn.A4 h y hy
  ·exact List.mem_range.1 (List.mem_filter.1 hy).1
def o5:Nat→Nat
 | 0=>1
 | m+1=>1+(m+1)*o5 m
theorem wu:∀ m,1≤o5 m
 | 0=>Nat.le_refl _
 | m+1=>by rw [o5];omega
def Wn.wt (N:Wn):List (List Nat)→Nat
 | []=>0
 | q::Q=>o5 (N.n-q.length)+N.wt Q
theorem Wn.wi (N:Wn):∀ A B,N.wt (A++B)=N.wt A+N.wt B
 | [],B=>by rw [List.nil_append,Wn.wt,Nat.zero_add]
 | q::A,B=>by rw [List.cons_append,Wn.wt,Wn.wt,Wn.wi N A B,Nat.add_assoc]
theorem Wn.Dy {N:Wn} {A B:List (List Nat)} (h:A.Perm B):N.wt A=N.wt B:=by
 induction h with
 | nil=>rfl
 | cons x _ ih=>rw [Wn.wt,Wn.wt,ih]
 | swap x y l=>rw [Wn.wt,Wn.wt,Wn.wt,Wn.wt];omega
 | trans _ _ h1 h2=>rw [h1,h2]
theorem Wn.F7 (N:Wn):∀ Q:List (List Nat),Q.length≤N.wt Q
 | []=>Nat.le_refl _
 | q::Q=>by rw [Wn.wt,List.length_cons];have:=N.F7 Q;have:=wu (N.n-q.length);omega
theorem Wn.B9 (N:Wn) (x:List Nat):∀ l:List Nat,N.wt (l.map fun j=>x++[j])=l.length*o5 (N.n-(x.length+1))
 | []=>by rw [List.map_nil,Wn.wt,List.length_nil,Nat.zero_mul]
 | j :: l => by
  rw [List.map_cons,Wn.wt,N.B9 x l,List.length_append,show (j::l).length=l.length+1 from rfl,Nat.succ_mul]
  show o5 (N.n-(x.length+1))+_=_
  omega
theorem Wn.Kv {N:Wn} {x:List Nat} (h:N.ok x):N.wt (N.exts x)<o5 (N.n-x.length):=by
 unfold Wn.exts
 rw [Wn.B9]
 have hf:=Wn.Lu h
 by_cases h0:(N.QD x).length=0
 ·rw [h0,Nat.zero_mul];exact wu _
 ·obtain ⟨m,hm⟩:∃ m,N.n-x.length=m+1:=⟨N.n-x.length-1,by omega⟩
  rw [hm,show N.n-(x.length+1)=m by omega,o5]
  have:=Nat.mul_le_mul_right (o5 m) (show (N.QD x).length≤m+1 by omega)
  omega
end Go.Proofs.A1
namespace Go.Proofs.A1
def bS (h:Bool) (e:Int):Int:=bif h then e else 0
theorem bH {h:Bool} {e:Int} (he:e≠0):bS h e=0↔h=false:=by cases h <;> simp [bS,he]
def fR (n l m:Int):Int:=bS (decide (n<l)||decide (m<n)) 3
theorem gS {n l m:Int}:fR n l m=0↔l≤n∧n≤m:=by
 unfold fR
 rw [bH (by decide)]
 simp
def aV:List Int→Int
 | []=>0
 | e::r=>if e≠0 then e else aV r
theorem cg:∀ {l:List Int},aV l=0↔∀ e∈l,e=0
 | []=>by simp [aV]
 | e :: r => by
  unfold aV
  by_cases h:e=0
  ·simp [h,cg (l:=r)]
  ·simp [h]
theorem rM {es:List Int} {k:Nat} (h:k<es.length):aV (es.drop k)=if es[k]≠0 then es[k] else aV (es.drop (k+1)):=by
 rw [List.drop_eq_getElem_cons h];rfl
def pQ (f:Nat→Int):Nat→Nat→Int
 | _,0=>0
 | k,n+1=>if f k≠0 then f k else pQ f (k+1) n
def jm (f:Nat→Int) (n:Nat):Int:=pQ f 0 n
theorem xK {f:Nat→Int}:∀ {n k:Nat},pQ f k n=0↔∀ i,k≤i→i<k+n→f i=0
 | 0,k=>by simp only [pQ,true_iff];intro i h1 h2;omega
 | n + 1, k => by
  unfold pQ
  by_cases h:f k=0
  ·rw [if_neg (by simpa using h),xK]
   constructor
   ·intro g i h1 h2
    by_cases e:i=k
    ·rw [e];exact h
    ·exact g i (by omega) (by omega)
   ·intro g i h1 h2;exact g i (by omega) (by omega)
  ·rw [if_pos h]
   constructor
   ·intro e;exact absurd e h
   ·intro g;exact absurd (g k (Nat.le_refl _) (by omega)) h
theorem dT {f:Nat→Int} {n:Nat}:jm f n=0↔∀ i,i<n→f i=0:=by
 unfold jm
 rw [xK]
 constructor
 ·intro g i h;exact g i (Nat.zero_le _) (by omega)
 ·intro g i _ h;exact g i (by omega)
theorem uZ {f:Nat→Int}:∀ {n k j:Nat},(∀ i,k≤i→i<j→f i=0)→k≤j→j<k+n→f j≠0→pQ f k n=f j
 | 0,k,j,_,h1,h2,_=>by omega
 | n + 1, k, j, h, h1, h2, h3 => by
  unfold pQ
  by_cases e:k=j
  ·subst e;rw [if_pos h3]
  ·rw [if_neg (by simpa using h k (Nat.le_refl _) (by omega))]
   exact uZ (fun i h4 h5=>h i (by omega) h5) (by omega) (by omega) h3
theorem eY {f:Nat→Int} {n j:Nat} (h:∀ i,i<j→f i=0) (hj:j<n) (hn:f j≠0):jm f n=f j:=
 uZ (fun i _ h2=>h i h2) (Nat.zero_le _) (by omega) hn
theorem C9 {f g:Nat→Int} {n:Nat} (h:∀ j,j<n→(∀ i,i<j→f i=0)→f j=g j):jm f n=jm g n:=by
 by_cases hf:∀ i,i<n→f i=0
 ·rw [dT.2 hf]
  symm
  refine dT.2 fun i hi=>?_
  rw [← h i hi fun k hk=>hf k (by omega)]
  exact hf i hi
 ·have:∃ j,j<n∧f j≠0∧∀ i,i<j→f i=0:=by
   apply Classical.byContradiction
   intro hc
   apply hf
   intro i
   induction i using Nat.strongRecOn with
   | _ i ih =>
    intro hi
    apply Classical.byContradiction
    intro hne
    exact hc ⟨i,hi,hne,fun k hk=>ih k hk (by omega)⟩
  obtain ⟨j,hj,hne,hb⟩:=this
  rw [eY hb hj hne,h j hj hb]
  symm
  have he:=h j hj hb
  refine eY (fun i hi=>?_) hj (by rw [← he];exact hne)
  rw [← h i (by omega) fun k hk=>hb k (by omega)]
  exact hb i hi
def bt (s:ByteArray) (i:Nat):Int:=((s.data.toList[i]?.getD 0).toNat:Nat)
def Fl (c:Int):Bool:=(decide (65≤c)&&decide (c≤90))||(decide (97≤c)&&decide (c≤122))
def RI (c:Int):Bool:=decide (48≤c)&&decide (c≤57)
def okB (c:Int):Bool:=Fl c||RI c||decide (c=95)
def okF (s:ByteArray) (k:Nat):Bool:=(List.range' k (s.size-k)).all fun i=>okB (bt s i)
theorem yT {s:ByteArray} {k:Nat} (h:k<s.size):okF s k=(okB (bt s k)&&okF s (k+1)):=by
 unfold okF
 rw [show s.size-k=(s.size-(k+1))+1 by omega,List.range'_succ]
 rfl
theorem D6 {s:ByteArray} {k:Nat} (h:s.size≤k):okF s k=true:=by
 unfold okF
 rw [show s.size-k=0 by omega];rfl
def jD (s:ByteArray):Bool:=decide (0<s.size)&&decide (s.size≤24)&&Fl (bt s 0)&&okF s 1
def YN (s:ByteArray):Int:=bS (!jD s) 8
end Go.Proofs.A1
namespace Go.Proofs.A1
open Go Go.SL
structure Sr where
 nm:ByteArray
 mx:Int
 deriving DecidableEq
structure De where
 nm:ByteArray
 mx:Int
 pr:Bool
 deriving DecidableEq
structure Ti where
 nm:ByteArray
 fr:Int
 to:Int
 deriving DecidableEq
structure Po where
 lv:Int
 ou:ByteArray
 ip:ByteArray
 deriving DecidableEq
structure Ro where
 lv:Int
 ma:Int
 sr:List Sr
 de:List De
 ti:List Ti
 po:List Po
 deriving DecidableEq
def Dn (v:Int) (o:ByteArray) (p:Po):Bool:=decide (p.lv=v)&&decide (p.ou=o)
def zd (v:Int) (i:ByteArray) (p:Po):Bool:=decide (p.lv=v)&&decide (p.ip=i)
def dY (po:List Po) (v:Int) (o:ByteArray):Option ByteArray:=(po.find? (Dn v o)).map Po.ip
def mW (po:List Po) (v:Int) (i:ByteArray):Bool:=po.any (zd v i)
def iT (po:List Po) (v:Int) (o:ByteArray):Bool:=(dY po v o).isSome
def eM (po:List Po) (v:Int):Nat→ByteArray→List ByteArray
 | 0,_=>[]
 | k + 1, o => match dY po v o with
  | none=>[]
  | some i=>i::eM po v k i
theorem q5 {po:List Po} {v:Int} {o:ByteArray} (h:dY po v o=none):∀ k,eM po v k o=[]
 | 0=>rfl
 | k+1=>by rw [eM,h]
theorem kN {po:List Po} {v:Int} {o i:ByteArray} (h:dY po v o=some i) (k:Nat):eM po v (k+1) o=i::eM po v k i:=by rw [eM,h]
theorem jf (po:List Po) (v:Int):∀ k o,(eM po v k o).length≤k
 | 0,_=>Nat.le_refl _
 | k + 1, o => by
  rw [eM]
  split
  ·exact Nat.zero_le _
  ·rw [List.length_cons];have:=jf po v k ‹_›;omega
theorem BL {po:List Po} {v:Int}:∀ {k:Nat} {o:ByteArray},(eM po v k o).length<k→∀ m,k≤m→eM po v m o=eM po v k o
 | 0,_,h,_,_=>absurd h (Nat.not_lt_zero _)
 | k + 1, o, h, m, hm => by
  obtain ⟨m,rfl⟩:∃ j,m=j+1:=⟨m-1,by omega⟩
  rw [eM,eM]
  cases hi:dY po v o with
  | none=>rfl
  | some i =>
   rw [eM,hi,List.length_cons] at h
   show i::_=i::_
   rw [BL (k:=k) (by omega) m (by omega)]
theorem BK {po:List Po} {v:Int}:∀ {k m:Nat} {o:ByteArray},k≤m→(eM po v m o).take k=eM po v k o
 | 0,_,_,_=>by rw [List.take_zero];rfl
 | k + 1, m, o, h => by
  obtain ⟨m,rfl⟩:∃ j,m=j+1:=⟨m-1,by omega⟩
  rw [eM,eM]
  cases dY po v o with
  | none=>rfl
  | some i =>
   show (i::eM po v m i).take (k+1)=i::eM po v k i
   rw [List.take_succ_cons,BK (by omega)]
def lN (po:List Po) (v:Int):Nat→ByteArray→Option ByteArray
 | 0,o=>some o
 | k+1,o=>(dY po v o).bind (lN po v k)
theorem jB {po:List Po} {v:Int}:∀ {a b:Nat} {o:ByteArray},lN po v (a+b) o=(lN po v a o).bind (lN po v b)
 | 0,b,o=>by rw [Nat.zero_add];rfl
 | a + 1, b, o => by
  rw [show a+1+b=(a+b)+1 by omega,lN,lN]
  cases dY po v o with
  | none=>rfl
  | some i=>exact jB
theorem gL {po:List Po} {v:Int} {a b:Nat} {o:ByteArray} (h:a≤b) (hb:(lN po v b o).isSome=true):(lN po v a o).isSome=true:=by
 obtain ⟨c,rfl⟩:∃ c,b=a+c:=⟨b-a,by omega⟩
 rw [jB] at hb
 cases h1:lN po v a o with
 | none=>rw [h1] at hb;cases hb
 | some x=>rfl
theorem mN {po:List Po} {v:Int}:∀ {k:Nat} {o:ByteArray} {j:Nat},j<k→(eM po v k o)[j]? = lN po v (j+1) o
 | 0,_,_,h=>absurd h (Nat.not_lt_zero _)
 | k + 1, o, j, h => by
  rw [eM,lN]
  cases dY po v o with
  | none=>rfl
  | some i =>
   cases j with
   | zero=>rfl
   | succ j =>
    show (i::eM po v k i)[j+1]? = lN po v (j+1) i
    rw [List.getElem?_cons_succ,mN (by omega)]
theorem pU {po:List Po} {v:Int} {k:Nat} {o:ByteArray}:(eM po v k o).length=k↔(lN po v k o).isSome=true:=by
 cases k with
 | zero=>exact ⟨fun _=>rfl,fun _=>rfl⟩
 | succ k =>
  rw [← mN (Nat.lt_add_one k)]
  have:=jf po v (k+1) o
  constructor
  ·intro h;rw [List.getElem?_eq_getElem (by omega)];rfl
  ·intro h
   apply Classical.byContradiction
   intro hn
   rw [List.getElem?_eq_none (by omega)] at h
   cases h
theorem tw {po:List Po} {v:Int} {k:Nat} {o x:ByteArray}:x∈eM po v k o↔∃ j,j<k∧lN po v (j+1) o=some x:=by
 constructor
 ·intro h
  obtain ⟨j,hj,e⟩:=List.getElem_of_mem h
  have hk:=jf po v k o
  refine ⟨j,by omega,?_⟩
  rw [← mN (by omega:j<k),List.getElem?_eq_getElem hj,e]
 ·rintro ⟨j,hj,e⟩
  rw [← mN hj] at e
  exact List.mem_of_getElem? e
theorem xk {α:Type} [DecidableEq α]:∀ {X T:List α},X.Nodup→(∀ x∈X,x∈T)→X.length≤T.length
 | [],_,_,_=>Nat.zero_le _
 | x :: X, T, hn, h => by
  have hx:=h x (by simp)
  rw [List.nodup_cons] at hn
  have:=xk (X:=X) (T:=T.erase x) hn.2 fun y hy=>(List.mem_erase_of_ne (a:=y) (b:=x) (fun e=>by rw [e] at hy;exact hn.1 hy)).2 (h y (List.mem_cons_of_mem _ hy))
  rw [List.length_erase_of_mem hx] at this
  have:=List.length_pos_of_mem hx
  rw [List.length_cons];omega
theorem Fg {α:Type} [DecidableEq α] {X:List α} (h:¬ X.Nodup):∃ i j,∃ (hi:i<X.length) (hj:j<X.length),i<j∧X[i]=X[j]:=by
 apply Classical.byContradiction
 intro hn
 apply h
 rw [List.nodup_iff_pairwise_ne,List.pairwise_iff_getElem]
 intro i j hi hj xD e
 exact hn ⟨i,j,hi,hj,xD,e⟩
theorem ID {po:List Po} {v:Int} {T:List ByteArray} (hT:∀ o i,dY po v o=some i→(dY po v i).isSome=true→i∈T) {o:ByteArray} (ho:(lN po v (T.length+2) o).isSome=true∨o∈T∧(lN po v (T.length+1) o).isSome=true):∃ t∈T,t∈eM po v (T.length+1) t:=by
 obtain ⟨s,hs,dR⟩:∃ s,(lN po v (s+T.length+1) o).isSome=true∧∀ k,k≤T.length→∃ x,lN po v (s+k) o=some x∧x∈T:=by
  rcases ho with ho | ⟨hoT,ho⟩
  ·refine ⟨1,by rw [show 1+T.length+1=T.length+2 by omega];exact ho,fun k hk=>?_⟩
   have h0:=gL (a:=k) (by omega) ho
   have h1:=gL (a:=1+k) (by omega) ho
   have h2:=gL (a:=1+k+1) (by omega) ho
   obtain ⟨y,hy⟩:=Option.isSome_iff_exists.1 h0
   obtain ⟨x,hx⟩:=Option.isSome_iff_exists.1 h1
   refine ⟨x,hx,hT y x ?_ ?_⟩
   ·rw [show 1+k=k+1 by omega,jB,hy] at hx
    simpa [lN] using hx
   ·rw [jB,hx] at h2
    simpa [lN] using h2
  ·refine ⟨0,by rw [Nat.zero_add];exact ho,fun k hk=>?_⟩
   rw [Nat.zero_add]
   cases k with
   | zero=>exact ⟨o,rfl,hoT⟩
   | succ k =>
    have h0:=gL (a:=k) (by omega) ho
    have h1:=gL (a:=k+1) (by omega) ho
    have h2:=gL (a:=k+1+1) (by omega) ho
    obtain ⟨y,hy⟩:=Option.isSome_iff_exists.1 h0
    obtain ⟨x,hx⟩:=Option.isSome_iff_exists.1 h1
    refine ⟨x,hx,hT y x ?_ ?_⟩
    ·rw [jB,hy] at hx
     simpa [lN] using hx
    ·rw [jB,hx] at h2
     simpa [lN] using h2
 let X:=(List.range (T.length+1)).map fun k=>(lN po v (s+k) o).getD ⟨#[]⟩
 have hXl:X.length=T.length+1:=by simp [X]
 have hX:∀ k (h:k<X.length),lN po v (s+k) o=some X[k]:=fun k h=>by
  obtain ⟨x,hx,_⟩:=dR k (by omega)
  simp [X,hx]
 have hn:¬ X.Nodup:=fun hn=>by
  have:=xk (T:=T) hn fun x hx=>by
   obtain ⟨k,hk,rfl⟩:=List.getElem_of_mem hx
   obtain ⟨y,hy,UT⟩:=dR k (by omega)
   rw [hX k hk] at hy
   cases hy
   exact UT
  omega
 obtain ⟨i,j,hi,hj,xD,e⟩:=Fg hn
 have h1:=hX i hi
 have h2:=hX j hj
 obtain ⟨y,hy,UT⟩:=dR i (by omega)
 rw [h1] at hy
 cases hy
 refine ⟨X[i],UT,tw.2 ⟨j-i-1,by omega,?_⟩⟩
 rw [show s+j=(s+i)+(j-i-1+1) by omega,jB,h1] at h2
 rw [e]
 rw [e] at h2
 exact h2
theorem MA {po:List Po} {v:Int} {m:Nat} {t:ByteArray} (h:t∈eM po v m t):∀ k,(lN po v k t).isSome=true:=by
 obtain ⟨j,_,hj⟩:=tw.1 h
 have key:∀ n,lN po v (n*(j+1)) t=some t:=fun n=>by
  induction n with
  | zero=>rw [Nat.zero_mul];rfl
  | succ n ih=>rw [Nat.succ_mul,jB,ih];exact hj
 intro k
 refine gL (b:=k*(j+1)) (Nat.le_mul_of_pos_right _ (by omega)) ?_
 rw [key];rfl
theorem IC {po:List Po} {v:Int} {T:List ByteArray} (hT:∀ o i,dY po v o=some i→(dY po v i).isSome=true→i∈T) (h6:T.length≤6):(∃ t∈T,t∈eM po v (T.length+1) t)↔∃ t∈T,(eM po v 7 t).length=7:=by
 constructor
 ·rintro ⟨t,ht,h⟩
  exact ⟨t,ht,pU.2 (MA h 7)⟩
 ·rintro ⟨t,ht,h⟩
  exact ID hT (.inr ⟨ht,gL (b:=7) (by omega) (pU.1 h)⟩)
theorem oP {po:List Po} {v:Int} {T:List ByteArray} (hT:∀ o i,dY po v o=some i→(dY po v i).isSome=true→i∈T) (hc:¬ ∃ t∈T,t∈eM po v (T.length+1) t) (o:ByteArray) {m:Nat} (hm:T.length+1≤m):eM po v m o=eM po v (T.length+1) o:=by
 have h2:(eM po v (T.length+2) o).length<T.length+2:=by
  have h0:=jf po v (T.length+2) o
  rcases Nat.lt_or_ge (eM po v (T.length+2) o).length (T.length+2) with h | h
  ·exact h
  ·exact absurd (ID hT (.inl (pU.1 (show (eM po v (T.length+2) o).length=T.length+2 by omega)))) hc
 have h3:eM po v (T.length+1) o=eM po v (T.length+2) o:=by
  rw [← BK (o:=o) (by omega:T.length+1≤T.length+2),List.take_of_length_le (by omega)]
 rcases Nat.lt_or_ge m (T.length+2) with h | h
 ·rw [show m=T.length+1 by omega]
 ·rw [BL h2 m h,h3]
end Go.Proofs.A1
namespace Go.Proofs.A1
open Go Go.SL
def bA:List ByteArray→ByteArray→Int
 | [],_=>-1
 | x::l,s=>if x=s then 0 else if bA l s<0 then -1 else bA l s+1
theorem Iq (l:List ByteArray) (s:ByteArray):-1≤bA l s:=by
 induction l with
 | nil=>exact Int.le_refl _
 | cons x l ih =>
  rw [bA]
  split
  ·omega
  ·split <;> omega
theorem bT {l:List ByteArray} {s:ByteArray}:bA l s<0↔s ∉ l:=by
 induction l with
 | nil=>simp [bA]
 | cons x l ih =>
  rw [bA,List.mem_cons,not_or]
  by_cases e:x=s
  ·rw [if_pos e];constructor
   ·intro h;omega
   ·intro h;exact absurd e.symm h.1
  ·rw [if_neg e]
   by_cases h:bA l s<0
   ·rw [if_pos h];exact ⟨fun _=>⟨fun q=>e q.symm,ih.1 h⟩,fun _=>by omega⟩
   ·rw [if_neg h];exact ⟨fun q=>by have:=Iq l s;omega,fun q=>absurd (ih.2 q.2) h⟩
theorem pP:∀ {l:List ByteArray} {s:ByteArray} {i:Nat} (h:i<l.length),l[i]=s→(∀ j (hj:j<i),l[j]'(by omega)≠s)→bA l s=(i:Nat)
 | x::l,s,0,_,e,_=>by rw [bA,if_pos (show x=s from e)];rfl
 | x :: l, s, i + 1, h, e, hb => by
  have h0:x≠s:=hb 0 (by omega)
  have ih:=pP (l:=l) (s:=s) (i:=i) (by rw [List.length_cons] at h;omega) e fun j hj=>hb (j+1) (by omega)
  rw [bA,if_neg h0,ih,if_neg (by omega)];omega
theorem zu {l:List ByteArray} {s:ByteArray} (h:∀ j (hj:j<l.length),l[j]≠s):bA l s = -1:=by
 have h1:=Iq l s
 have h2:bA l s<0:=bT.2 fun hm=>by
  obtain ⟨j,hj,e⟩:=List.getElem_of_mem hm
  exact h j hj e
 omega
theorem fw {l:List ByteArray} {s:ByteArray} (h:0≤bA l s):∃ hl:(bA l s).toNat<l.length,l[(bA l s).toNat]=s:=by
 induction l with
 | nil=>simp [bA] at h
 | cons x l ih =>
  by_cases e:x=s
  ·have:bA (x::l) s=0:=by rw [bA,if_pos e]
   rw [this]
   exact ⟨Nat.zero_lt_succ _,e⟩
  ·by_cases h0:bA l s<0
   ·rw [bA,if_neg e,if_pos h0] at h;omega
   ·obtain ⟨hl,hg⟩:=ih (by omega)
    have:bA (x::l) s=bA l s+1:=by rw [bA,if_neg e,if_neg h0]
    have e1:(bA (x::l) s).toNat=(bA l s).toNat+1:=by rw [this];omega
    have key:∀ n,n=(bA l s).toNat+1→∃ hl:n<(x::l).length,(x::l)[n]=s:=fun n hn=>by
     subst hn
     exact ⟨by rw [List.length_cons];omega,hg⟩
    exact key _ e1
def cz (r:Ro):List ByteArray:=r.sr.map Sr.nm
def cm (r:Ro):List ByteArray:=r.de.map De.nm
def cK (r:Ro):List ByteArray:=r.ti.map Ti.nm
def dX (r:Ro):List ByteArray:=cz r++cm r++cK r
def dP (r:Ro) (s:ByteArray):Int:=if 0≤bA (cm r) s then bA (cm r) s else if 0≤bA (cK r) s then (r.de.length:Nat)+bA (cK r) s else -1
def jU (r:Ro) (s:ByteArray):Int:=if 0≤bA (cm r) s then (r.de.getD (bA (cm r) s).toNat ⟨⟨#[]⟩,0,false⟩).mx else if 0≤bA (cK r) s then (r.ti.getD (bA (cK r) s).toNat ⟨⟨#[]⟩,0,0⟩).fr else -1
def jE (r:Ro) (s:ByteArray):Int:=if 0≤bA (cz r) s then (r.sr.getD (bA (cz r) s).toNat ⟨⟨#[]⟩,0⟩).mx else if 0≤bA (cK r) s then (r.ti.getD (bA (cK r) s).toNat ⟨⟨#[]⟩,0,0⟩).to else -1
theorem He {r:Ro} {s:ByteArray}:dP r s<0↔s ∉ cm r∧s ∉ cK r:=by
 unfold dP
 by_cases h1:bA (cm r) s<0
 ·rw [if_neg (by omega)]
  by_cases h2:bA (cK r) s<0
  ·rw [if_neg (by omega)];exact ⟨fun _=>⟨bT.1 h1,bT.1 h2⟩,fun _=>by omega⟩
  ·rw [if_pos (by omega)];exact ⟨fun h=>by omega,fun h=>absurd (bT.2 h.2) h2⟩
 ·rw [if_pos (by omega)];exact ⟨fun h=>absurd h h1,fun h=>absurd (bT.2 h.1) h1⟩
end Go.Proofs.A1
namespace Go.Proofs.A1
open Go Go.SL
def rW (po:List Po):Prop:=∀ p∈po,∀ q∈po,p.lv=q.lv→p.ou=q.ou→p=q
theorem rW.filter {po:List Po} (h:rW po) (f:Po→Bool):rW (po.filter f):=fun p hp q hq=>h p (List.mem_filter.1 hp).1 q (List.mem_filter.1 hq).1
theorem eV {po:List Po} {v:Int} {o i:ByteArray} (h:dY po v o=some i):∃ p∈po,p.lv=v∧p.ou=o∧p.ip=i:=by
 unfold dY at h
 obtain ⟨p,hp,e⟩:=Option.map_eq_some_iff.1 h
 have h1:=List.find?_some hp
 unfold Dn at h1
 rw [Bool.and_eq_true,decide_eq_true_eq,decide_eq_true_eq] at h1
 exact ⟨p,List.mem_of_find?_eq_some hp,h1.1,h1.2,e⟩
theorem mH {po:List Po} (h1:rW po) {p:Po} (hp:p∈po):dY po p.lv p.ou=some p.ip:=by
 cases h:po.find? (Dn p.lv p.ou) with
 | none =>
  have:=List.find?_eq_none.1 h p hp
  unfold Dn at this
  simp at this
 | some q =>
  have hq:=List.find?_some h
  unfold Dn at hq
  rw [Bool.and_eq_true,decide_eq_true_eq,decide_eq_true_eq] at hq
  have:=h1 q (List.mem_of_find?_eq_some h) p hp hq.1 hq.2
  unfold dY
  rw [h,this];rfl
theorem gO {po:List Po} {v:Int} {o:ByteArray}:dY po v o=none↔∀ p∈po,¬(p.lv=v∧p.ou=o):=by
 unfold dY
 rw [Option.map_eq_none_iff,List.find?_eq_none]
 constructor
 ·intro h p hp hq
  have:=h p hp
  unfold Dn at this
  rw [hq.1,hq.2] at this
  simp at this
 ·intro h p hp
  unfold Dn
  rw [Bool.and_eq_true,decide_eq_true_eq,decide_eq_true_eq]
  exact h p hp
theorem LN {po qo:List Po} (h1:rW po) (hs:∀ p∈qo,p∈po) {v:Int} {o i:ByteArray} (h:dY qo v o=some i):dY po v o=some i:=by
 obtain ⟨p,hp,rfl,rfl,rfl⟩:=eV h
 exact mH h1 (hs p hp)
inductive Nd (po:List Po) (D:List ByteArray):Po→Prop
 | de {p:Po}:p∈po→p.ou∈D→Nd po D p
 | up {p q:Po}:p∈po→q.lv=p.lv→q.ip=p.ou→Nd po D q→Nd po D p
theorem M7 {po S:List Po} {D:List ByteArray} (h1:rW po) (hS:∀ p∈S,p∈po) (hu:∀ p∈S,p.ou∈D∨∃ q∈S,q.lv=p.lv∧q.ip=p.ou) {N:Nat} (hN:∀ v o m,N≤m→eM po v m o=eM po v N o) :
  ∀ n p,p∈S→N-(eM po p.lv N p.ou).length≤n→Nd po D p
 | n, p, hp, hn => by
  rcases hu p hp with hd | ⟨q,hq,hv,hi⟩
  ·exact .de (hS p hp) hd
  ·have mm:=mH h1 (hS q hq)
   rw [hv,hi] at mm
   have hc:eM po p.lv (N+1) q.ou=p.ou::eM po p.lv N p.ou:=kN mm N
   have hl:(eM po q.lv N q.ou).length=(eM po p.lv N p.ou).length+1:=by
    rw [hv,← hN p.lv q.ou (N+1) (by omega),hc,List.length_cons]
   have hle:=jf po q.lv N q.ou
   cases n with
   | zero=>omega
   | succ n=>exact .up (hS p hp) hv hi (M7 h1 hS hu hN n q hq (by omega))
theorem Rz {po S:List Po} {D:List ByteArray} (hk:∀ p∈po,p.ou∈D→p∈S) (ez:∀ p∈po,∀ q∈S,q.lv=p.lv→q.ip=p.ou→p∈S) {p:Po} (h:Nd po D p):p∈S:=by
 induction h with
 | de hp hd=>exact hk _ hp hd
 | up hp hv hi _ ih=>exact ez _ hp _ ih hv hi
theorem Ly {po:List Po} {D:List ByteArray} (h1:rW po) {N:Nat} (hN:∀ v o m,N≤m→eM po v m o=eM po v N o) {f g:Po→Bool}
  (PQ:∀ p∈po,p.ou∈D→f p=true) (Nv:∀ p∈po,∀ q∈po,f q=true→q.lv=p.lv→q.ip=p.ou→f p=true) (VX:∀ p∈po,f p=true→p.ou∈D∨∃ q∈po,f q=true∧q.lv=p.lv∧q.ip=p.ou)
  (VS:∀ p∈po,p.ou∈D→g p=true) (VR:∀ p∈po,∀ q∈po,g q=true→q.lv=p.lv→q.ip=p.ou→g p=true) (T6:∀ p∈po,g p=true→p.ou∈D∨∃ q∈po,g q=true∧q.lv=p.lv∧q.ip=p.ou):po.filter f=po.filter g:=by
 have key:∀ (f:Po→Bool),(∀ p∈po,p.ou∈D→f p=true)→(∀ p∈po,∀ q∈po,f q=true→q.lv=p.lv→q.ip=p.ou→f p=true)→(∀ p∈po,f p=true→p.ou∈D∨∃ q∈po,f q=true∧q.lv=p.lv∧q.ip=p.ou)→∀ p∈po,(f p=true↔Nd po D p):=by
  intro f h2 h3 h4 p hp
  constructor
  ·intro hf
   refine M7 (S:=po.filter f) h1 (fun q hq=>(List.mem_filter.1 hq).1) (fun q hq=>?_) hN _ p (List.mem_filter.2 ⟨hp,hf⟩) (Nat.le_refl _)
   obtain ⟨LZ,xA⟩:=List.mem_filter.1 hq
   rcases h4 q LZ xA with h | ⟨x,hx,TR,RL⟩
   ·exact .inl h
   ·exact .inr ⟨x,List.mem_filter.2 ⟨hx,TR⟩,RL⟩
  ·intro hn
   have:=Rz (S:=po.filter f) (fun q hq hd=>List.mem_filter.2 ⟨hq,h2 q hq hd⟩) (fun q hq x hx hv hi=>List.mem_filter.2 ⟨hq,h3 q hq x (List.mem_filter.1 hx).1 (List.mem_filter.1 hx).2 hv hi⟩) hn
   exact (List.mem_filter.1 this).2
 refine List.filter_congr fun p hp=>?_
 rw [Bool.eq_iff_iff,key f PQ Nv VX p hp,key g VS VR T6 p hp]
end Go.Proofs.A1
namespace Go.Proofs.A1
open Go Go.SL
theorem nr {α:Type} {R:α→α→Prop} (has:∀ a b,R a b→¬ R b a):∀ {A B:List α},A.Pairwise R→B.Pairwise R→A.Perm B→A=B
 | [],B,_,_,h=>(List.nil_perm.1 h).symm
 | a::A,[],_,_,h=>absurd h (by intro h;have:=h.length_eq;cases this)
 | a :: A, b :: B, hA, hB, h => by
  rw [List.pairwise_cons] at hA hB
  have QO:a=b:=by
   apply Classical.byContradiction
   intro hne
   have h1:a∈b::B:=h.mem_iff.1 (by simp)
   have h2:b∈a::A:=h.mem_iff.2 (by simp)
   have h1:a∈B:=(List.mem_cons.1 h1).resolve_left hne
   have h2:b∈A:=(List.mem_cons.1 h2).resolve_left fun e=>hne e.symm
   exact has _ _ (hA.1 b h2) (hB.1 a h1)
  subst QO
  rw [nr has hA.2 hB.2 (List.Perm.cons_inv h)]
def pb (r:Ro) (p q:Po):Bool:=decide (p.lv<q.lv)||(decide (p.lv=q.lv)&&decide (dP r p.ou<dP r q.ou))
theorem Fi {r:Ro} (p q:Po) (h:pb r p q=true):¬ pb r q p=true:=by
 unfold pb at *
 simp only [Bool.or_eq_true,Bool.and_eq_true,decide_eq_true_eq] at *
 omega
theorem xq {r:Ro} {p q s:Po} (h1:pb r p q=true) (h2:pb r q s=true):pb r p s=true:=by
 unfold pb at *
 simp only [Bool.or_eq_true,Bool.and_eq_true,decide_eq_true_eq] at *
 omega
theorem Fh {r:Ro} {p q:Po} (h:¬(p.lv=q.lv∧dP r p.ou=dP r q.ou)):pb r p q=true∨pb r q p=true:=by
 unfold pb
 simp only [Bool.or_eq_true,Bool.and_eq_true,decide_eq_true_eq]
 omega
def iu (r:Ro) (p:Po):List Po→List Po
 | []=>[p]
 | b::l=>if pb r p b then p::b::l else b::iu r p l
theorem oK (r:Ro) (p:Po):∀ l,(iu r p l).Perm (p::l)
 | []=>List.Perm.refl _
 | b :: l => by
  rw [iu]
  split
  ·exact List.Perm.refl _
  ·exact ((oK r p l).cons b).trans (List.Perm.swap p b l)
theorem gN {r:Ro} {p q:Po} {l:List Po}:q∈iu r p l↔q=p∨q∈l:=by rw [(oK r p l).mem_iff,List.mem_cons]
theorem sq {r:Ro} {p:Po}:∀ {l:List Po},l.Pairwise (fun a b=>pb r a b=true)→(∀ q∈l,¬(p.lv=q.lv∧dP r p.ou=dP r q.ou))→(iu r p l).Pairwise (fun a b=>pb r a b=true)
 | [],_,_=>by rw [iu];exact List.pairwise_singleton _ _
 | b :: l, h, hn => by
  rw [List.pairwise_cons] at h
  rw [iu]
  split
  ·rename_i hb
   rw [List.pairwise_cons,List.pairwise_cons]
   refine ⟨fun q hq=>?_,h.1,h.2⟩
   rcases List.mem_cons.1 hq with rfl | hq
   ·exact hb
   ·exact xq hb (h.1 q hq)
  ·rename_i hb
   rw [List.pairwise_cons]
   refine ⟨fun q hq=>?_,sq h.2 fun q hq=>hn q (List.mem_cons_of_mem _ hq)⟩
   rcases gN.1 hq with rfl | hq
   ·rcases Fh (hn b (by simp)) with e | e
    ·exact absurd e hb
    ·exact e
   ·exact h.1 q hq
end Go.Proofs.A1
namespace Go.Proofs.A1
open Go Go.SL
structure pt (r:Ro):Prop where
 sd:∀ s∈cz r,s ∉ cm r
 st:∀ s∈cz r,s ∉ cK r
 dt:∀ s∈cm r,s ∉ cK r
 Q7:(cK r).length≤6
structure iL (r:Ro) (po:List Po):Prop where
 qp:po.Pairwise (fun a b=>pb r a b=true)
 Kh:∀ p∈po,0≤p.lv∧p.lv<r.lv
 out:∀ p∈po,p.ou∈cm r∨p.ou∈cK r
 vR:∀ p∈po,p.ip∈cz r∨p.ip∈cK r
 M9:∀ p∈po,jU r p.ou=jE r p.ip
 Dc:∀ v,¬ ∃ t∈cK r,t∈eM po v ((cK r).length+1) t
 use:∀ v t,t∈cK r→(mW po v t=true↔iT po v t=true)
theorem iL.one {r:Ro} {po:List Po} (h:po.Pairwise (fun a b=>pb r a b=true)):rW po:=by
 intro p hp q hq hv ho
 apply Classical.byContradiction
 intro hne
 obtain ⟨i,hi,rfl⟩:=List.getElem_of_mem hp
 obtain ⟨j,hj,rfl⟩:=List.getElem_of_mem hq
 rw [List.pairwise_iff_getElem] at h
 rcases Nat.lt_trichotomy i j with e | e | e
 ·have:=h i j hi hj e
  unfold pb at this
  simp only [Bool.or_eq_true,Bool.and_eq_true,decide_eq_true_eq] at this
  rw [ho] at this
  omega
 ·subst e;exact hne rfl
 ·have:=h j i hj hi e
  unfold pb at this
  simp only [Bool.or_eq_true,Bool.and_eq_true,decide_eq_true_eq] at this
  rw [ho] at this
  omega
theorem iL.tie {r:Ro} {po:List Po} (hn:pt r) (h2:∀ p∈po,p.ou∈cm r∨p.ou∈cK r) (h3:∀ p∈po,p.ip∈cz r∨p.ip∈cK r) {v:Int}:∀ o i,dY po v o=some i→(dY po v i).isSome=true→i∈cK r:=by
 intro o i h hi
 obtain ⟨p,hp,_,_,rfl⟩:=eV h
 rcases h3 p hp with hs | ht
 ·obtain ⟨j,hj⟩:=Option.isSome_iff_exists.1 hi
  obtain ⟨q,hq,_,Nl,_⟩:=eV hj
  rcases h2 q hq with hd | hd
  ·exact absurd (Nl ▸ hd) (hn.sd _ hs)
  ·exact absurd (Nl ▸ hd) (hn.st _ hs)
 ·exact ht
def gl (po:List Po) (v:Int) (k:Nat) (o:ByteArray):ByteArray:=((eM po v k o).getLast?).getD o
def qh (po:List Po) (v:Int) (S:List ByteArray) (o:ByteArray):ByteArray:=if bA S (gl po v 7 o)<0 then ⟨#[]⟩ else gl po v 7 o
theorem xM {po:List Po} {v:Int} {k:Nat} {o i:ByteArray} (h:dY po v o=some i):gl po v (k+1) o=gl po v k i:=by
 unfold gl
 rw [kN h,List.getLast?_cons]
 rfl
theorem oO {po:List Po} {v:Int} {k:Nat} {o:ByteArray} (h:dY po v o=none):gl po v k o=o:=by
 unfold gl
 rw [q5 h];rfl
theorem FJ {r:Ro} {po:List Po} (hn:pt r) (h:iL r po) (v:Int) (o:ByteArray):gl po v ((cK r).length+1) o=gl po v 7 o:=by
 have:=hn.Q7
 unfold gl
 rw [oP (T:=cK r) (iL.tie hn h.out h.vR) (h.Dc v) o (m:=7) (by omega)]
theorem EF {r:Ro} {po:List Po} (hn:pt r) (h:iL r po) {v:Int}:∀ (k:Nat) (o:ByteArray),(eM po v 7 o).length≤k→(dY po v o).isSome=true→gl po v 7 o∈cz r:=by
 have h6:=hn.Q7
 have hs:=fun o m hm=>oP (T:=cK r) (iL.tie hn h.out h.vR) (h.Dc v) o (m:=m) hm
 intro k
 induction k with
 | zero =>
  intro o hk ho
  obtain ⟨i,hi⟩:=Option.isSome_iff_exists.1 ho
  rw [kN hi,List.length_cons] at hk
  omega
 | succ k ih =>
  intro o hk ho
  obtain ⟨i,hi⟩:=Option.isSome_iff_exists.1 ho
  have e1:gl po v 7 o=gl po v 7 i:=by
   have:gl po v 8 o=gl po v 7 i:=xM hi
   unfold gl at this ⊢
   rw [hs o 8 (by omega)] at this
   rw [hs o 7 (by omega)]
   exact this
  rw [e1]
  cases F0:dY po v i with
  | none =>
   rw [oO F0]
   obtain ⟨p,hp,Kj,_,rfl⟩:=eV hi
   rcases h.vR p hp with hS | hT
   ·exact hS
   ·have hu:mW po v p.ip=true:=by
     unfold mW
     rw [List.any_eq_true]
     exact ⟨p,hp,by unfold zd;rw [Kj];simp⟩
    have:=(h.use v p.ip hT).1 hu
    unfold iT at this
    rw [F0] at this
    cases this
  | some j =>
   refine ih i ?_ (by rw [F0];rfl)
   have:(eM po v 8 o).length=(eM po v 7 i).length+1:=by rw [kN hi,List.length_cons]
   rw [hs o 8 (by omega),← hs o 7 (by omega)] at this
   omega
theorem xR {r:Ro} {po:List Po} (hn:pt r) (h:iL r po) {v:Int} {o:ByteArray} (ho:(dY po v o).isSome=true):qh po v (cz r) o=gl po v 7 o:=by
 unfold qh;rw [if_neg fun e=>bT.1 e (EF hn h _ o (Nat.le_refl _) ho)]
theorem FU {r:Ro} {po:List Po} {v:Int} {o:ByteArray} (hs:o ∉ cz r) (ho:dY po v o=none):qh po v (cz r) o=⟨#[]⟩:=by
 unfold qh;rw [oO ho,if_pos (bT.2 hs)]
theorem zJ {po qo:List Po} (h1:rW po) (hs:∀ p∈qo,p∈po) {v:Int}:∀ {k:Nat} {o x:ByteArray},x∈eM qo v k o→x∈eM po v k o
 | 0,_,_,h=>by cases h
 | k + 1, o, x, h => by
  rw [eM] at h
  cases hi:dY qo v o with
  | none=>rw [hi] at h;cases h
  | some i =>
   rw [hi] at h
   rw [kN (LN h1 hs hi)]
   rcases List.mem_cons.1 h with rfl | h
   ·exact List.mem_cons_self
   ·exact List.mem_cons_of_mem _ (zJ h1 hs h)
theorem iL.filter {r:Ro} {po:List Po} (hn:pt r) (h:iL r po) (f:Po→Bool) (h2:∀ p∈po,p.ou∈cK r→∀ q∈po,f q=true→q.lv=p.lv→q.ip=p.ou→f p=true) (h3:∀ p∈po,p.ou∈cK r→f p=true→∃ q∈po,f q=true∧q.lv=p.lv∧q.ip=p.ou):iL r (po.filter f):=by
 have iv:∀ p∈po.filter f,p∈po:=fun p hp=>(List.mem_filter.1 hp).1
 have h1:=iL.one h.qp
 refine ⟨h.qp.filter f,fun p hp=>h.Kh p (iv p hp),fun p hp=>h.out p (iv p hp),fun p hp=>h.vR p (iv p hp),fun p hp=>h.M9 p (iv p hp),fun v=>?_,fun v t ht=>?_⟩
 ·rintro ⟨t,ht,hc⟩
  exact h.Dc v ⟨t,ht,zJ h1 iv hc⟩
 ·constructor
  ·intro hu
   unfold mW at hu
   rw [List.any_eq_true] at hu
   obtain ⟨q,hq,LY⟩:=hu
   unfold zd at LY
   rw [Bool.and_eq_true,decide_eq_true_eq,decide_eq_true_eq] at LY
   obtain ⟨LZ,xA⟩:=List.mem_filter.1 hq
   have hb:=(h.use v t ht).1 (by unfold mW;rw [List.any_eq_true];exact ⟨q,LZ,by unfold zd;rw [LY.1,LY.2];simp⟩)
   unfold iT at hb
   obtain ⟨i,hi⟩:=Option.isSome_iff_exists.1 hb
   obtain ⟨p,hp,Kj,qg,rfl⟩:=eV hi
   have hf:=h2 p hp (qg ▸ ht) q LZ xA (LY.1.trans Kj.symm) (LY.2.trans qg.symm)
   have:=mH (h1.filter f) (List.mem_filter.2 ⟨hp,hf⟩)
   rw [Kj,qg] at this
   unfold iT
   rw [this];rfl
  ·intro hb
   unfold iT at hb
   obtain ⟨i,hi⟩:=Option.isSome_iff_exists.1 hb
   obtain ⟨p,hp,Kj,qg,rfl⟩:=eV hi
   obtain ⟨zZ,L4⟩:=List.mem_filter.1 hp
   obtain ⟨q,hq,xA,Sb,Ve⟩:=h3 p zZ (qg ▸ ht) L4
   unfold mW
   rw [List.any_eq_true]
   exact ⟨q,List.mem_filter.2 ⟨hq,xA⟩,by unfold zd;rw [Sb,Ve,Kj,qg];simp⟩
end Go.Proofs.A1
namespace Go.Proofs.A1
open Go Go.SL
theorem zv {l:List ByteArray} {s:ByteArray} (h:0≤bA l s):bA l s<(l.length:Nat):=by
 obtain ⟨hl,_⟩:=fw h
 omega
theorem Ep {l:List ByteArray} {a b:ByteArray} (ha:0≤bA l a) (h:bA l a=bA l b):a=b:=by
 obtain ⟨h1,e1⟩:=fw ha
 obtain ⟨h2,e2⟩:=fw (l:=l) (s:=b) (by omega)
 rw [← e1,← e2]
 have:(bA l a).toNat=(bA l b).toNat:=by rw [h]
 simp only [this]
theorem Hf {r:Ro} {a b:ByteArray} (ha:a∈cm r∨a∈cK r) (hb:b∈cm r∨b∈cK r) (h:dP r a=dP r b):a=b:=by
 have hd:(cm r).length=r.de.length:=by unfold cm;rw [List.length_map]
 unfold dP at h
 by_cases a1:0≤bA (cm r) a
 ·have:=zv a1
  by_cases b1:0≤bA (cm r) b
  ·rw [if_pos a1,if_pos b1] at h
   exact Ep a1 h
  ·by_cases b2:0≤bA (cK r) b
   ·rw [if_pos a1,if_neg b1,if_pos b2] at h;omega
   ·rcases hb with hb | hb
    ·exact absurd hb (bT.1 (by omega))
    ·exact absurd hb (bT.1 (by omega))
 ·by_cases a2:0≤bA (cK r) a
  ·by_cases b1:0≤bA (cm r) b
   ·have:=zv b1
    rw [if_neg a1,if_pos a2,if_pos b1] at h;omega
   ·by_cases b2:0≤bA (cK r) b
    ·rw [if_neg a1,if_pos a2,if_neg b1,if_pos b2] at h
     exact Ep a2 (by omega)
    ·rcases hb with hb | hb
     ·exact absurd hb (bT.1 (by omega))
     ·exact absurd hb (bT.1 (by omega))
  ·rcases ha with ha | ha
   ·exact absurd ha (bT.1 (by omega))
   ·exact absurd ha (bT.1 (by omega))
structure qd (r:Ro) (po:List Po) (v:Int) (x:ByteArray):Prop where
 qp:po.Pairwise (fun a b=>pb r a b=true)
 Kh:∀ p∈po,0≤p.lv∧p.lv<r.lv
 out:∀ p∈po,p.ou∈cm r∨p.ou∈cK r
 vR:∀ p∈po,p.ip∈cz r∨p.ip∈cK r
 M9:∀ p∈po,jU r p.ou=jE r p.ip
 Dc:∀ v,¬ ∃ t∈cK r,t∈eM po v ((cK r).length+1) t
 use:∀ u t,t∈cK r→(u=v∧t=x)∨(mW po u t=true↔iT po u t=true)
 Un:x∈cK r→iT po v x=true
theorem iL.Rx {r:Ro} {po:List Po} {v:Int} {x:ByteArray} (h:iL r po) (hb:x∈cK r→iT po v x=true):qd r po v x:=⟨h.qp,h.Kh,h.out,h.vR,h.M9,h.Dc,fun u t ht=>.inr (h.use u t ht),hb⟩
theorem qd.val {r:Ro} {po:List Po} {v:Int} {x:ByteArray} (h:qd r po v x) (hx:x ∉ cK r):iL r po:=⟨h.qp,h.Kh,h.out,h.vR,h.M9,h.Dc,fun u t ht=>(h.use u t ht).resolve_left fun e=>hx (e.2 ▸ ht)⟩
theorem nO {r:Ro} {po:List Po} {p:Po} (hs:po.Pairwise (fun a b=>pb r a b=true)) (ho:∀ q∈po,q.ou∈cm r∨q.ou∈cK r) (hp:p.ou∈cm r∨p.ou∈cK r) (Vs:dY po p.lv p.ou=none):(iu r p po).Pairwise (fun a b=>pb r a b=true):=
 sq hs fun q hq e=>gO.1 Vs q hq ⟨e.1.symm,(Hf hp (ho q hq) e.2).symm⟩
theorem qM {r:Ro} {po:List Po} {p:Po} (h1:rW (iu r p po)) (h0:rW po) (v:Int) (o:ByteArray):dY (iu r p po) v o=if p.lv=v∧p.ou=o then some p.ip else dY po v o:=by
 by_cases h:p.lv=v∧p.ou=o
 ·rw [if_pos h]
  have:=mH h1 (gN.2 (.inl rfl):p∈iu r p po)
  rwa [h.1,h.2] at this
 ·rw [if_neg h]
  cases hi:dY po v o with
  | none =>
   rw [gO]
   intro q hq
   rcases gN.1 hq with rfl | hq
   ·exact h
   ·exact gO.1 hi q hq
  | some i =>
   obtain ⟨q,hq,rfl,rfl,rfl⟩:=eV hi
   exact mH h1 (gN.2 (.inr hq))
theorem qd.add {r:Ro} {po:List Po} {v:Int} {x o:ByteArray} (hn:pt r) (h:qd r po v x) (hv:0≤v∧v<r.lv) (hx:x∈cz r∨x∈cK r) (ho:o∈cm r∨o∈cK r) (eF:dY po v o=none) (hm:jU r o=jE r x):qd r (iu r ⟨v,o,x⟩ po) v o:=by
 have hs:=nO (p:=⟨v,o,x⟩) h.qp h.out ho eF
 have h1:=iL.one hs
 have h0:=iL.one h.qp
 have mm:=qM (p:=⟨v,o,x⟩) h1 h0
 have ss:x≠o:=by
  intro e
  subst e
  rcases hx with hx | hx
  ·rcases ho with ho | ho
   ·exact hn.sd _ hx ho
   ·exact hn.st _ hx ho
  ·have:=h.Un hx
   unfold iT at this
   rw [eF] at this
   cases this
 -- no one XU zX new output
 have uN:∀ u,dY po v u≠some o:=by
  intro u hu
  obtain ⟨q,hq,Ki,_,Pw⟩:=eV hu
  rcases ho with ho | ho
  ·rcases h.vR q hq with hS | hT
   ·exact hn.sd _ (Pw ▸ hS) ho
   ·exact hn.dt _ ho (Pw ▸ hT)
  ·rcases h.use v o ho with e | e
   ·exact ss e.2.symm
   ·have:mW po v o=true:=by
     unfold mW
     rw [List.any_eq_true]
     exact ⟨q,hq,by unfold zd;rw [Ki,Pw];simp⟩
    have:=e.1 this
    unfold iT at this
    rw [eF] at this
    cases this
 have fJ:∀ u y,dY (iu r ⟨v,o,x⟩ po) v u=some y→y≠o:=by
  intro u y hu e
  subst e
  rw [mm] at hu
  split at hu
  ·exact ss (Option.some.inj hu)
  ·exact uN u hu
 refine ⟨hs,fun p hp=>?_,fun p hp=>?_,fun p hp=>?_,fun p hp=>?_,fun w=>?_,fun u t ht=>?_,fun _=>?_⟩
 ·rcases gN.1 hp with rfl | hp
  ·exact hv
  ·exact h.Kh p hp
 ·rcases gN.1 hp with rfl | hp
  ·exact ho
  ·exact h.out p hp
 ·rcases gN.1 hp with rfl | hp
  ·exact hx
  ·exact h.vR p hp
 ·rcases gN.1 hp with rfl | hp
  ·exact hm
  ·exact h.M9 p hp
 ·rintro ⟨t,ht,hc⟩
  obtain ⟨j,hj,he⟩:=tw.1 hc
  -- zX way round is one of zX A2 points
  have key:∀ k y z,(w=v→y≠o)→lN (iu r ⟨v,o,x⟩ po) w k y=some z→lN po w k y=some z:=by
   intro k
   induction k with
   | zero=>intro y z _ h;exact h
   | succ k ih =>
    intro y z hy hz
    rw [lN] at hz ⊢
    have e1:dY (iu r ⟨v,o,x⟩ po) w y=dY po w y:=by
     rw [mm,if_neg fun e=>hy e.1.symm e.2.symm]
    cases hi:dY po w y with
    | none=>rw [e1,hi] at hz;cases hz
    | some u =>
     rw [e1,hi] at hz
     refine ih u z (fun e q=>?_) hz
     subst e q
     exact fJ y u (by rw [e1];exact hi) rfl
  refine h.Dc w ⟨t,ht,tw.2 ⟨j,hj,key (j+1) t t (fun e q=>?_) he⟩⟩
  subst e q
  obtain ⟨u,hu,RQ⟩:∃ u,lN (iu r ⟨w,t,x⟩ po) w j t=some u∧dY (iu r ⟨w,t,x⟩ po) w u=some t:=by
   rw [jB] at he
   cases hq:lN (iu r ⟨w,t,x⟩ po) w j t with
   | none=>rw [hq] at he;cases he
   | some u =>
    rw [hq] at he
    exact ⟨u,rfl,by simpa [lN] using he⟩
  exact fJ u t RQ rfl
 ·by_cases e:u=v∧t=o
  ·exact .inl e
  ·refine .inr ?_
   have hb:iT (iu r ⟨v,o,x⟩ po) u t=iT po u t:=by
    unfold iT
    rw [mm,if_neg fun q=>e ⟨q.1.symm,q.2.symm⟩]
   have hu:mW (iu r ⟨v,o,x⟩ po) u t=true↔(u=v∧t=x)∨mW po u t=true:=by
    unfold mW
    rw [List.any_eq_true,List.any_eq_true]
    constructor
    ·rintro ⟨q,hq,xA⟩
     rcases gN.1 hq with rfl | hq
     ·unfold zd at xA
      rw [Bool.and_eq_true,decide_eq_true_eq,decide_eq_true_eq] at xA
      exact .inl ⟨xA.1.symm,xA.2.symm⟩
     ·exact .inr ⟨q,hq,xA⟩
    ·rintro (⟨rfl,rfl⟩ | ⟨q,hq,xA⟩)
     ·exact ⟨_,gN.2 (.inl rfl),by unfold zd;simp⟩
     ·exact ⟨q,gN.2 (.inr hq),xA⟩
   rw [hb,hu]
   rcases h.use u t ht with ex | ex
   ·obtain ⟨rfl,rfl⟩:=ex
    exact ⟨fun _=>h.Un ht,fun _=>.inl ⟨rfl,rfl⟩⟩
   ·constructor
    ·rintro (⟨rfl,rfl⟩ | q)
     ·exact h.Un ht
     ·exact ex.1 q
    ·exact fun q=>.inr (ex.2 q)
 ·unfold iT
  rw [mm,if_pos ⟨rfl,rfl⟩];rfl
end Go.Proofs.A1
namespace Go.Proofs.A1
open Go Go.SL
theorem qd.ne {r:Ro} {po:List Po} {v:Int} {x o:ByteArray} (hn:pt r) (h:qd r po v x) (hx:x∈cz r∨x∈cK r) (ho:o∈cm r∨o∈cK r) (eF:dY po v o=none):x≠o:=by
 intro e
 subst e
 rcases hx with hx | hx
 ·rcases ho with ho | ho
  ·exact hn.sd _ hx ho
  ·exact hn.st _ hx ho
 ·have:=h.Un hx
  unfold iT at this
  rw [eF] at this
  cases this
theorem qd.unused {r:Ro} {po:List Po} {v:Int} {x o:ByteArray} (hn:pt r) (h:qd r po v x) (hx:x∈cz r∨x∈cK r) (ho:o∈cm r∨o∈cK r) (eF:dY po v o=none):∀ u,dY po v u≠some o:=by
 have ss:=h.ne hn hx ho eF
 intro u hu
 obtain ⟨q,hq,Ki,_,Pw⟩:=eV hu
 rcases ho with ho | ho
 ·rcases h.vR q hq with hS | hT
  ·exact hn.sd _ (Pw ▸ hS) ho
  ·exact hn.dt _ ho (Pw ▸ hT)
 ·rcases h.use v o ho with e | e
  ·exact ss e.2.symm
  ·have:mW po v o=true:=by
    unfold mW
    rw [List.any_eq_true]
    exact ⟨q,hq,by unfold zd;rw [Ki,Pw];simp⟩
   have:=e.1 this
   unfold iT at this
   rw [eF] at this
   cases this
theorem zK {r:Ro} {po:List Po} {v:Int} {x o:ByteArray} (hn:pt r) (h:qd r po v x) (hx:x∈cz r∨x∈cK r) (ho:o∈cm r∨o∈cK r) (eF:dY po v o=none) {w:Int}:∀ {k:Nat} {y:ByteArray},¬(w=v∧y=o)→eM (iu r ⟨v,o,x⟩ po) w k y=eM po w k y
 | 0,_,_=>rfl
 | k + 1, y, hy => by
  have hs:=nO (p:=⟨v,o,x⟩) h.qp h.out ho eF
  have e1:dY (iu r ⟨v,o,x⟩ po) w y=dY po w y:=by
   rw [qM (p:=⟨v,o,x⟩) (iL.one hs) (iL.one h.qp),if_neg fun e=>hy ⟨e.1.symm,e.2.symm⟩]
  rw [eM,eM,e1]
  cases hi:dY po w y with
  | none=>rfl
  | some u =>
   show u::_=u::_
   rw [zK hn h hx ho eF fun e=>by
    obtain ⟨rfl,rfl⟩:=e
    exact h.unused hn hx ho eF y hi]
theorem EC {r:Ro} {po:List Po} {v:Int} {x o:ByteArray} (hn:pt r) (h:qd r po v x) (hx:x∈cz r∨x∈cK r) (ho:o∈cm r∨o∈cK r) (eF:dY po v o=none) {w:Int} {y:ByteArray} (hy:¬(w=v∧y=o)) {S:List ByteArray}:qh (iu r ⟨v,o,x⟩ po) w S y=qh po w S y:=by
 unfold qh gl
 rw [zK hn h hx ho eF hy]
theorem BA {r:Ro} {po:List Po} {v:Int} {x o:ByteArray} (hn:pt r) (h:qd r po v x) (hv:0≤v∧v<r.lv) (hx:x∈cz r∨x∈cK r) (ho:o∈cm r∨o∈cK r) (eF:dY po v o=none) (hm:jU r o=jE r x):gl (iu r ⟨v,o,x⟩ po) v 7 o=gl po v 7 x:=by
 have h6:=hn.Q7
 have hA:=h.add hn hv hx ho eF hm
 have hs:=nO (p:=⟨v,o,x⟩) h.qp h.out ho eF
 have mm:dY (iu r ⟨v,o,x⟩ po) v o=some x:=by
  rw [qM (p:=⟨v,o,x⟩) (iL.one hs) (iL.one h.qp),if_pos ⟨rfl,rfl⟩]
 have W0:=fun m hm=>oP (T:=cK r) (iL.tie hn hA.out hA.vR) (hA.Dc v) o (m:=m) hm
 have e8:gl (iu r ⟨v,o,x⟩ po) v 8 o=gl (iu r ⟨v,o,x⟩ po) v 7 x:=xM mm
 have e7:gl (iu r ⟨v,o,x⟩ po) v 7 o=gl (iu r ⟨v,o,x⟩ po) v 8 o:=by
  unfold gl
  rw [W0 7 (by omega),W0 8 (by omega)]
 rw [e7,e8]
 unfold gl
 rw [zK hn h hx ho eF fun e=>h.ne hn hx ho eF e.2]
theorem vd {po:List Po} (h1:rW po) {f:Po→Bool} (fy:∀ q∈po,f q=true→∀ p∈po,p.lv=q.lv→p.ou=q.ip→f p=true) {v:Int}:∀ {k:Nat} {y:ByteArray},(∀ p∈po,p.lv=v→p.ou=y→f p=true)→eM (po.filter f) v k y=eM po v k y
 | 0,_,_=>rfl
 | k + 1, y, hy => by
  rw [eM,eM]
  cases hi:dY po v y with
  | none =>
   have:dY (po.filter f) v y=none:=gO.2 fun p hp=>gO.1 hi p (List.mem_filter.1 hp).1
   rw [this]
  | some u =>
   obtain ⟨q,hq,Ki,Nl,rfl⟩:=eV hi
   have hf:=hy q hq Ki Nl
   have:dY (po.filter f) v y=some q.ip:=by
    have:=mH (h1.filter f) (List.mem_filter.2 ⟨hq,hf⟩)
    rwa [Ki,Nl] at this
   rw [this]
   show q.ip::_=q.ip::_
   rw [vd h1 fy fun p hp Kj qg=>fy q hq hf p hp (Kj.trans Ki.symm) qg]
end Go.Proofs.A1
namespace Go.Proofs.A1
open Go Go.SL
def Ti.zero:Ti:=⟨⟨#[]⟩,0,0⟩
def ij (r:Ro) (i:Nat):Ti:=r.ti.getD i Ti.zero
def gy (r:Ro) (i:Nat):ByteArray:=(ij r i).nm
theorem qk {r:Ro} {i:Nat} (h:i<r.ti.length):(cK r)[i]'(by unfold cK;rw [List.length_map];exact h)=gy r i:=by
 unfold cK gy ij
 rw [List.getElem_map,List.getD_eq_getElem?_getD,List.getElem?_eq_getElem h];rfl
theorem td {r:Ro} {i:Nat} (h:i<r.ti.length):gy r i∈cK r:=by rw [← qk h];exact List.getElem_mem _
theorem DJ {r:Ro} (hd:(cK r).Nodup) {i j:Nat} (hi:i<r.ti.length) (hj:j<r.ti.length) (h:gy r i=gy r j):i=j:=by
 have hl:(cK r).length=r.ti.length:=by unfold cK;rw [List.length_map]
 rw [← qk hi,← qk hj] at h
 rcases Nat.lt_trichotomy i j with aN | he | aN
 ·exact absurd h (List.pairwise_iff_getElem.1 hd i j (by omega) (by omega) aN)
 ·exact he
 ·exact absurd h.symm (List.pairwise_iff_getElem.1 hd j i (by omega) (by omega) aN)
theorem Eo {r:Ro} (hd:(cK r).Nodup) {i:Nat} (hi:i<r.ti.length):bA (cK r) (gy r i)=(i:Nat):=by
 have hl:(cK r).length=r.ti.length:=by unfold cK;rw [List.length_map]
 refine pP (by omega) (qk hi) fun j hj e=>?_
 rw [qk (by omega)] at e
 have:=DJ hd (by omega) hi e
 omega
theorem Lt {r:Ro} (hn:pt r) (hd:(cK r).Nodup) {i:Nat} (hi:i<r.ti.length):jU r (gy r i)=(ij r i).fr:=by
 have h1:¬ 0≤bA (cm r) (gy r i):=fun h=>by
  have:gy r i∈cm r:=Classical.byContradiction fun hq=>by have:=bT.2 hq;omega
  exact hn.dt _ this (td hi)
 unfold jU
 rw [if_neg h1,Eo hd hi,if_pos (by omega),Int.toNat_natCast];rfl
theorem Ef {r:Ro} (hn:pt r) (hd:(cK r).Nodup) {i:Nat} (hi:i<r.ti.length):jE r (gy r i)=(ij r i).to:=by
 have h1:¬ 0≤bA (cz r) (gy r i):=fun h=>by
  have:gy r i∈cz r:=Classical.byContradiction fun hq=>by have:=bT.2 hq;omega
  exact hn.st _ this (td hi)
 unfold jE
 rw [if_neg h1,Eo hd hi,if_pos (by omega),Int.toNat_natCast];rfl
def fo (r:Ro) (po:List Po) (v:Int) (s:ByteArray):Wn:=⟨r.ti.length,fun i=>iT po v (gy r i)&&decide (qh po v (cz r) (gy r i)=s),fun i=>!iT po v (gy r i),fun i=>(ij r i).fr,fun i=>(ij r i).to,jE r s⟩
def kR (r:Ro) (v:Int):List Po→ByteArray→List Nat→List Po×ByteArray
 | po,x,[]=>(po,x)
 | po,x,i::p=>kR r v (if iT po v (gy r i) then po else iu r ⟨v,gy r i,x⟩ po) (gy r i) p
def kT (r:Ro) (po:List Po) (v:Int) (s:ByteArray) (p:List Nat) (d:ByteArray):List Po:=iu r ⟨v,d,(kR r v po s p).2⟩ (kR r v po s p).1
theorem Cc {r:Ro} {po:List Po} {v:Int} {s:ByteArray} (hn:pt r) (hd:(cK r).Nodup) (hv:0≤v∧v<r.lv) (qg:iL r po):∀ (q u:List Nat) (oH:List Po) (x:ByteArray),(fo r po v s).ok (u++q)→qd r oH v x→(x∈cz r∨x∈cK r)→jE r x=(fo r po v s).fin u→gl oH v 7 x=s→(∀ i,i<r.ti.length→i ∉ u→iT oH v (gy r i)=iT po v (gy r i))→(u=[]→oH=po) →
  qd r (kR r v oH x q).1 v (kR r v oH x q).2∧((kR r v oH x q).2∈cz r∨(kR r v oH x q).2∈cK r)∧jE r (kR r v oH x q).2=(fo r po v s).fin (u++q)∧gl (kR r v oH x q).1 v 7 (kR r v oH x q).2=s ∧
  (∀ w y,y∈cm r→dY (kR r v oH x q).1 w y=dY oH w y)∧(∀ w y S,y∈cm r→qh (kR r v oH x q).1 w S y=qh oH w S y)
 | [], u, oH, x, _, h1, h2, h3, h4, _, _ => by
  rw [List.append_nil]
  exact ⟨h1,h2,h3,h4,fun _ _ _=>rfl,fun _ _ _ _=>rfl⟩
 | i :: q, u, oH, x, eK, h1, h2, h3, h4, h5, h6 => by
  have e:u++i::q=(u++[i])++q:=by simp
  rw [e] at eK ⊢
  have a7:=(Wn.j9.1 (Wn.yS eK (List.prefix_append (u++[i]) q))).2
  have hi:i<r.ti.length:=Wn.oE a7
  have hiu:i ∉ u:=Wn.tY a7
  have jj:=td hi
  have Xp:=h5 i hi hiu
  unfold Wn.step at a7
  simp only [Bool.and_eq_true,Bool.or_eq_true,decide_eq_true_eq] at a7
  obtain ⟨_,_,HZ⟩:=a7
  rw [kR]
  by_cases hb:iT oH v (gy r i)=true
  ·rw [if_pos hb]
   rw [Xp] at hb
   rcases HZ with ⟨hu,vB⟩ | ⟨T8,_⟩
   ·have hu:u=[]:=List.isEmpty_iff.1 hu
    have hpp:=h6 hu
    subst hpp
    have vB:(iT oH v (gy r i)&&decide (qh oH v (cz r) (gy r i)=s))=true:=vB
    rw [Bool.and_eq_true,decide_eq_true_eq] at vB
    refine Cc hn hd hv qg q (u++[i]) oH (gy r i) eK (qg.Rx fun _=>hb) (.inr jj) ?_ ?_ (fun j hj VF=>rfl) (fun h=>by simp at h)
    ·rw [Ef hn hd hi,Wn.l8];rfl
    ·rw [← xR hn qg (show (dY oH v (gy r i)).isSome=true from hb)]
     exact vB.2
   ·have T8:(!iT po v (gy r i))=true:=T8
    rw [hb] at T8;cases T8
  ·rw [if_neg hb]
   have eF:dY oH v (gy r i)=none:=by
    unfold iT at hb
    cases hq:dY oH v (gy r i) with
    | none=>rfl
    | some z=>rw [hq] at hb;exact absurd rfl hb
   have hm:jU r (gy r i)=jE r x:=by
    rcases HZ with ⟨_,vB⟩ | ⟨_,hf⟩
    ·have vB:(iT po v (gy r i)&&decide (qh po v (cz r) (gy r i)=s))=true:=vB
     rw [Bool.and_eq_true,← Xp] at vB
     exact absurd vB.1 hb
    ·rw [Lt hn hd hi,h3];exact hf
   have hs:=nO (p:=⟨v,gy r i,x⟩) h1.qp h1.out (.inr jj) eF
   have mm:=qM (p:=⟨v,gy r i,x⟩) (iL.one hs) (iL.one h1.qp)
   obtain ⟨g1,g2,g3,g4,g5,g6⟩:=Cc hn hd hv qg q (u++[i]) (iu r ⟨v,gy r i,x⟩ oH) (gy r i) eK (h1.add hn hv h2 (.inr jj) eF hm) (.inr jj) (by rw [Ef hn hd hi,Wn.l8];rfl)
    (by rw [BA hn h1 hv h2 (.inr jj) eF hm,h4])
    (fun j hj VF=>by
     have hne:gy r i≠gy r j:=fun e=>VF (by rw [DJ hd hi hj e];simp)
     unfold iT
     rw [mm,if_neg fun e=>hne e.2]
     exact h5 j hj fun e=>VF (List.mem_append.2 (.inl e))) (fun h=>by simp at h)
   refine ⟨g1,g2,g3,g4,fun w y hy=>?_,fun w y S hy=>?_⟩
   ·rw [g5 w y hy,mm,if_neg (fun e=>hn.dt y hy (by rw [← e.2];exact jj))]
   ·rw [g6 w y S hy,EC hn h1 h2 (.inr jj) eF (fun e=>hn.dt y hy (by rw [e.2];exact jj))]
theorem GL {r:Ro} {po:List Po} {v:Int} {s d:ByteArray} (hn:pt r) (hd:(cK r).Nodup) (hv:0≤v∧v<r.lv) (qg:iL r po) (hs:s∈cz r) (lO:d∈cm r) (eF:dY po v d=none) {p:List Nat} (eK:(fo r po v s).ok p) (l6:(fo r po v s).fin p=jU r d) :
  iL r (kT r po v s p d)∧qh (kT r po v s p d) v (cz r) d=s∧(∀ w y,y∈cm r→¬(w=v∧y=d)→qh (kT r po v s p d) w (cz r) y=qh po w (cz r) y∧dY (kT r po v s p d) w y=dY po w y):=by
 have a7:s ∉ cK r:=hn.st s hs
 have Sj:dY po v s=none:=gO.2 fun q hq e=>by
  rcases qg.out q hq with h | h
  ·exact hn.sd s hs (e.2 ▸ h)
  ·exact a7 (e.2 ▸ h)
 obtain ⟨g1,g2,g3,g4,g5,g6⟩:=Cc hn hd hv qg p [] po s eK (qg.Rx fun h=>absurd h a7) (.inl hs) rfl (oO Sj) (fun _ _ _=>rfl) (fun _=>rfl)
 have Nv:dY (kR r v po s p).1 v d=none:=by rw [g5 v d lO,eF]
 have hm:jU r d=jE r (kR r v po s p).2:=by rw [g3];exact l6.symm
 have hA:=g1.add hn hv g2 (.inl lO) Nv hm
 have hV:=hA.val (hn.dt d lO)
 have Pp:=nO (p:=⟨v,d,(kR r v po s p).2⟩) g1.qp g1.out (.inl lO) Nv
 have mm:=qM (p:=⟨v,d,(kR r v po s p).2⟩) (iL.one Pp) (iL.one g1.qp)
 refine ⟨hV,?_,fun w y hy hne=>⟨?_,?_⟩⟩
 ·have h9:(dY (iu r ⟨v,d,(kR r v po s p).2⟩ (kR r v po s p).1) v d).isSome=true:=by
   rw [mm,if_pos ⟨rfl,rfl⟩];rfl
  have h8:=xR hn hV h9
  unfold kT
  rw [h8,BA hn g1 hv g2 (.inl lO) Nv hm,g4]
 ·unfold kT
  rw [EC hn g1 g2 (.inl lO) Nv hne,g6 w y _ hy]
 ·unfold kT
  rw [mm,if_neg fun e=>hne ⟨e.1.symm,e.2.symm⟩,g5 w y hy]
end Go.Proofs.A1
