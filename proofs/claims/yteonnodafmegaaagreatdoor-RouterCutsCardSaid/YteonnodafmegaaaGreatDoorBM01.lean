/- Parts of the proof: GkCore GkOps P5w S1p P5a P5b P5c P5d P5e P5f P5g P5h. -/
import Derived.RangeFuncRecord
import Derived.OrdersIn
import Derived.KernelRfl
import Derived.Below
import Derived.IntWalk
import Derived.Laws.Strings
set_option linter.unusedSectionVars false
set_option linter.unusedVariables false
set_option linter.unusedSimpArgs false
namespace Go.SL
open Go
open Go.RowKit (Below)
theorem Za {α:Type _} (as:List α):[]++as=as:=rfl
theorem Zb:type_of% @List.cons_append:=rfl
theorem Zc:type_of% @List.getElem?_eq_getElem:=List.getElem?_eq_getElem
theorem Zd:type_of% @List.length_map:=@List.length_map
theorem Ze:type_of% @List.take_zero:=rfl
theorem Zf:type_of% @List.map_nil:=rfl
theorem Zg:type_of% @List.length_append:=@List.length_append
theorem Zh:type_of% @List.append_assoc:=@List.append_assoc
theorem Zi:type_of% @Nat.zero_le:=@Nat.zero_le
theorem Zj:type_of% @List.getElem_mem:=@List.getElem_mem
abbrev aI:=List (Nat×Value)
def cF:aI→Nat→Option Value
 | [],_=>none
 | (t,v)::r,k=>bif Nat.beq t k then some v else cF r k
theorem fy {t k:Nat} {v:Value} {r:aI} (h:t≠k):cF ((t,v)::r) k=cF r k:=by
 have:Nat.beq t k=false:=by
  cases hb:Nat.beq t k with
  | false=>rfl
  | true=>exact absurd (Nat.eq_of_beq_eq_true hb) h
 simp [cF,this]
theorem fA {t:Nat} {v:Value} {r:aI}:cF ((t,v)::r) t=some v:=by
 simp [cF]
def bK (sl:aI) (a:Act):Prop:=∀ t v,cF sl t=some v→a.tmps[t]? = some v
theorem bK.eval {sl:aI} {a:Act} (h:bK sl a) {t:Nat} {v:Value} (hv:cF sl t=some v):a.eval (.tmp t)=v:=by
 have:=h t v hv
 simp [Act.eval,Array.getD_eq_getD_getElem?,this]
theorem bK.put {sl:aI} {a:Act} (h:bK sl a) {d:Nat} (hd:d<a.tmps.size) (v:Value):bK ((d,v)::sl) (a.put (some d) v):=by
 intro t u hu
 by_cases wg:d=t
 ·subst wg
  rw [fA] at hu
  cases hu
  simp [Act.put,hd]
 ·rw [fy wg] at hu
  simp only [Act.put,Array.getElem?_setIfInBounds_ne wg]
  exact h t u hu
theorem bK.sub {sl jc:aI} {a:Act} (h:bK sl a) (hs:∀ t v,cF jc t=some v→cF sl t=some v):bK jc a:=fun t v hv=>h t v (hs t v hv)
def Is (sl:aI) (x:Operand) (v:Value):Prop:=∀ a:Act,bK sl a→a.eval x=v
def gv (c:Bool) (v:Value):Value:=bif c then v else undef
theorem tO {c:Bool} {v:Value} (h:c=true):gv c v=v:=by simp [gv,h]
theorem ve {c:Bool} {v:Value} (h:c=false):gv c v=undef:=by simp [gv,h]
def hp (w:World):Nat→Option Obj:=fun b=>w.heap[b]?
theorem jQ {w:World} {b:Nat} {o:Obj} (h:hp w b=some o):b<w.heap.size:=(Array.getElem?_eq_some_iff.1 h).1
structure a8 where
 sat:(Nat→Option Obj)→List Nat→Prop
 loc:∀ {h h':Nat→Option Obj} {fp:List Nat},sat h fp→(∀ b∈fp,h' b=h b)→sat h' fp
 own:∀ {h:Nat→Option Obj} {fp:List Nat},sat h fp→∀ b∈fp,∃ o,h b=some o
def bY (h:Nat→Option Obj):List a8→List Nat→Prop
 | [],fp=>fp=[]
 | A::As,fp=>∃ f1 f2,fp=f1++f2∧A.sat h f1∧bY h As f2
theorem bY.own {h:Nat→Option Obj}:∀ {hs:List a8} {fp:List Nat},bY h hs fp→∀ b∈fp,∃ o,h b=some o
 | [],_,hh,b,hb=>by rw [show _=[] from hh] at hb;cases hb
 | A :: As, _, ⟨f1, f2, e, h1, h2⟩, b, hb => by
  subst e
  rcases List.mem_append.1 hb with hb | hb
  ·exact A.own h1 b hb
  ·exact bY.own h2 b hb
theorem bY.loc {h h':Nat→Option Obj}:∀ {hs:List a8} {fp:List Nat},bY h hs fp→(∀ b∈fp,h' b=h b)→bY h' hs fp
 | [],_,hh,_=>hh
 | A :: As, _, ⟨f1, f2, e, h1, h2⟩, hb => by
  subst e
  exact ⟨f1,f2,rfl,A.loc h1 (fun b dy=>hb b (List.mem_append_left _ dy)),bY.loc h2 (fun b dy=>hb b (List.mem_append_right _ dy))⟩
theorem bY.append_iff {h:Nat→Option Obj}:∀ {l1 l2:List a8} {fp:List Nat},bY h (l1++l2) fp↔∃ f1 f2,fp=f1++f2∧bY h l1 f1∧bY h l2 f2
 | [],l2,fp=>⟨fun hh=>⟨[],fp,rfl,rfl,hh⟩,fun ⟨f1,f2,e,h1,h2⟩=>by rw [show f1=[] from h1] at e;simpa [e] using h2⟩
 | A :: l1, l2, fp => by
  constructor
  ·rintro ⟨f1,f2,rfl,h1,h2⟩
   obtain ⟨g1,g2,rfl,h3,h4⟩:=bY.append_iff.1 h2
   exact ⟨f1++g1,g2,by simp,⟨f1,g1,rfl,h1,h3⟩,h4⟩
  ·rintro ⟨f1,f2,rfl,⟨g1,g2,rfl,h1,h2⟩,h3⟩
   exact ⟨g1,g2++f2,by simp,h1,bY.append_iff.2 ⟨g2,f2,rfl,h2,h3⟩⟩
inductive Take:List a8→a8→List a8→Prop
 | here {A:a8} {r:List a8}:Take (A::r) A r
 | there {A X:a8} {r r':List a8} (h:Take r A r'):Take (X::r) A (X::r')
theorem Take.append {hs hs':List a8} {A:a8} (h:Take hs A hs') (m:List a8):Take (hs++m) A (hs'++m):=by
 induction h with
 | here=>exact .here
 | there _ ih=>exact .there ih
theorem bY.take {h:Nat→Option Obj} {hs hs':List a8} {A:a8} (ht:Take hs A hs'):∀ {fp:List Nat},bY h hs fp→∃ f1 f2,A.sat h f1∧bY h hs' f2∧fp.Perm (f1++f2):=by
 induction ht with
 | here =>
  rintro fp ⟨f1,f2,rfl,h1,h2⟩
  exact ⟨f1,f2,h1,h2,.refl _⟩
 | there _ ih =>
  rintro fp ⟨f1,f2,rfl,h1,h2⟩
  obtain ⟨g1,g2,h3,h4,hp⟩:=ih h2
  refine ⟨g1,f1++g2,h3,⟨f1,g2,rfl,h1,h4⟩,?_⟩
  exact (hp.append_left f1).trans (by
   rw [← Zh,← Zh]
   exact (List.perm_append_comm).append_right g2)
structure aG (md:List Nat) (w w':World):Prop where
 os:w'.os=w.os
 tape:w'.tape=w.tape
 output:w'.output=w.output
 dr:w.drawn≤w'.drawn
 size:w.heap.size≤w'.heap.size
 block:∀ k,k<w.heap.size→k ∉ md→w'.heap[k]? = w.heap[k]?
theorem aG.refl (md:List Nat) (w:World):aG md w w:=⟨rfl,rfl,rfl,Nat.le_refl _,Nat.le_refl _,fun _ _ _=>rfl⟩
theorem aG.trans {md:List Nat} {a b c:World} (h:aG md a b) (k:aG md b c):aG md a c:=
 ⟨k.os.trans h.os,k.tape.trans h.tape,k.output.trans h.output,Nat.le_trans h.dr k.dr,Nat.le_trans h.size k.size,fun i hi hm=>(k.block i (Nat.lt_of_lt_of_le hi h.size) hm).trans (h.block i hi hm)⟩
theorem aG.mono {md XO:List Nat} {w w':World} (h:aG md w w') (hs:∀ b∈md,b∈XO):aG XO w w':=
 ⟨h.os,h.tape,h.output,h.dr,h.size,fun k hk hm=>h.block k hk (fun hb=>hm (hs k hb))⟩
theorem aG.below {w w':World} (h:aG [] w w'):Below w.heap.size w w':=⟨h.os,h.tape,h.output,h.size,fun k hk=>h.block k hk (by simp)⟩
theorem aG.Hz {w w':World} (h:Below w.heap.size w w') (hd:w.drawn≤w'.drawn):aG [] w w':=⟨h.os,h.tape,h.output,hd,h.size,fun k hk _=>h.block k hk⟩
theorem aG.drew (md:List Nat) (w:World):aG md w w.drew:=⟨rfl,rfl,rfl,Nat.le_succ _,Nat.le_refl _,fun _ _ _=>rfl⟩
theorem aG.alloc (md:List Nat) (w:World) (o:Obj):aG md w (w.alloc o):=
 ⟨rfl,rfl,rfl,Nat.le_refl _,by simp,fun k hk _=>by show (w.heap.push o)[k]? = _;rw [Array.getElem?_push,if_neg (by omega)]⟩
structure Cx where
 w0:World
 md:List Nat
 nt:Nat
structure Mem (c:Cx) (hs:List a8) (w:World):Prop where
 keeps:aG c.md c.w0 w
 own:∃ fp:List Nat,fp.Nodup∧bY (hp w) hs fp∧∀ b∈fp,c.w0.heap.size≤b∨b∈c.md
theorem Mem.take {c:Cx} {hs hs':List a8} {A:a8} {w:World} (h:Mem c hs w) (ht:Take hs A hs'):Mem c (A::hs') w:=by
 obtain ⟨k,fp,hn,hs,hb⟩:=h
 obtain ⟨f1,f2,h1,h2,hp⟩:=hs.take ht
 exact ⟨k,f1++f2,hp.nodup_iff.1 hn,⟨f1,f2,rfl,h1,h2⟩,fun b dy=>hb b (hp.mem_iff.2 dy)⟩
theorem Mem.change {c:Cx} {As Bs hs:List a8} {w w':World} (h:Mem c (As++hs) w)
  (Qx:∀ fp,fp.Nodup→bY (hp w) As fp→aG fp w w'∧∃ lh:List Nat,lh.Nodup∧bY (hp w') Bs lh∧∀ b∈lh,b∈fp∨w.heap.size≤b):Mem c (Bs++hs) w':=by
 obtain ⟨k,fp,hn,hs,hb⟩:=h
 obtain ⟨f1,f2,rfl,h1,h2⟩:=bY.append_iff.1 hs
 obtain ⟨n1,n2,n12⟩:=List.nodup_append.1 hn
 obtain ⟨hk,lh,qV,hs',u4⟩:=Qx f1 n1 h1
 have aL:∀ b∈f2,b<w.heap.size:=fun b dy=>let ⟨o,ho⟩:=h2.own b dy;jQ ho
 refine ⟨?_,lh++f2,?_,bY.append_iff.2 ⟨lh,f2,rfl,hs',h2.loc fun b dy=>?_⟩,?_⟩
 ·refine ⟨hk.os.trans k.os,hk.tape.trans k.tape,hk.output.trans k.output,Nat.le_trans k.dr hk.dr,Nat.le_trans k.size hk.size,fun b dy hm=>?_⟩
  rw [← k.block b dy hm]
  refine hk.block b (Nat.lt_of_lt_of_le dy k.size) (fun hf=>?_)
  rcases hb b (List.mem_append_left _ hf) with h | h
  ·omega
  ·exact hm h
 ·refine List.nodup_append.2 ⟨qV,n2,fun x hx y hy e=>?_⟩
  subst e
  rcases u4 x hx with h | h
  ·exact n12 x h x hy rfl
  ·have:=aL x hy;omega
 ·exact hk.block b (aL b dy) (fun hf=>n12 b hf b dy rfl)
 ·intro b dy
  rcases List.mem_append.1 dy with h | h
  ·rcases u4 b h with h | h
   ·exact hb b (List.mem_append_left _ h)
   ·exact .inl (Nat.le_trans k.size h)
  ·exact hb b (List.mem_append_right _ h)
theorem Mem.qP {c:Cx} {hs:List a8} {w w':World} (h:Mem c hs w) (hk:aG [] w w'):Mem c hs w':=
 Mem.change (As:=[]) (Bs:=[]) h fun fp _ hf=>by
  rw [show fp=[] from hf]
  exact ⟨hk,[],List.nodup_nil,rfl,by simp⟩
theorem Mem.drew {c:Cx} {hs:List a8} {w:World} (h:Mem c hs w):Mem c hs w.drew:=h.qP (.drew _ _)
theorem Mem.kX {c:Cx} {l m:List a8} {w:World} (h:Mem c (l++m) w):Mem c l w:=by
 obtain ⟨k,fp,hn,hs,hb⟩:=h
 obtain ⟨f1,f2,rfl,h1,h2⟩:=bY.append_iff.1 hs
 exact ⟨k,f1,(List.nodup_append.1 hn).1,h1,fun b dy=>hb b (List.mem_append_left _ dy)⟩
theorem Mem.vh {c:Cx} {A:a8} {l:List a8} {w:World} (h:Mem c (A::l) w):Mem c l w:=by
 obtain ⟨k,fp,hn,⟨f1,f2,rfl,h1,h2⟩,hb⟩:=h
 exact ⟨k,f2,(List.nodup_append.1 hn).2.1,h2,fun b dy=>hb b (List.mem_append_right _ dy)⟩
def bA (b:Nat) (o:Obj):a8 where
 sat h fp:=fp=[b]∧h b=some o
 loc:=fun ⟨e,h1⟩ hb=>⟨e,by rw [hb _ (by rw [e];simp)];exact h1⟩
 own:=fun ⟨e,h1⟩ b' dy=>by rw [e] at dy;rw [List.mem_singleton.1 dy];exact ⟨o,h1⟩
theorem Mem.bA {c:Cx} {hs hs':List a8} {b:Nat} {o:Obj} {w:World} (h:Mem c hs w) (ht:Take hs (bA b o) hs'):w.heap[b]? = some o:=by
 obtain ⟨_,fp,_,⟨f1,f2,_,⟨_,h1⟩,_⟩,_⟩:=h.take ht
 exact h1
theorem Mem.alloc {c:Cx} {hs:List a8} {w:World} (h:Mem c hs w) (o:Obj):Mem c (SL.bA w.heap.size o::hs) (w.alloc o):=
 Mem.change (As:=[]) (Bs:=[SL.bA w.heap.size o]) h fun fp _ hf=>by
  rw [show fp=[] from hf]
  refine ⟨.alloc _ _ _,[w.heap.size],by simp,⟨[w.heap.size],[],rfl,⟨rfl,World.alloc_heap_new w o⟩,rfl⟩,by simp⟩
theorem Mem.store {c:Cx} {hs:List a8} {b:Nat} {o o':Obj} {w w':World} (h:Mem c (SL.bA b o::hs) w) (hk:aG [b] w w') (ho:w'.heap[b]? = some o'):Mem c (SL.bA b o'::hs) w':=
 Mem.change (As:=[SL.bA b o]) (Bs:=[SL.bA b o']) h fun fp _ hf=>by
  obtain ⟨f1,f2,e,⟨e1,_⟩,e2⟩:=hf
  have:fp=[b]:=by rw [e,e1,show f2=[] from e2];rfl
  subst this
  exact ⟨hk,[b],by simp,⟨[b],[],rfl,⟨rfl,ho⟩,rfl⟩,fun x hx=>.inl hx⟩
theorem Mem.base {c:Cx} {hs:List a8} {w:World} (h:Mem c hs w) {b:Nat} (hb:b<c.w0.heap.size) (hm:b ∉ c.md):w.heap[b]? = c.w0.heap[b]?:=h.keeps.block b hb hm
def mark (r:Nat):Deferred:={ target:=.collected r,args:=#[] }
def l8 (D:List Nat):List a8:=D.map fun r=>bA r (.deferred (some []))
structure St (c:Cx) (D:List Nat) (sl:aI) (hs:List a8) (a:Act) (w:World):Prop where
 mem:Mem c (hs++l8 D) w
 cM:bK sl a
 size:a.tmps.size=c.nt
 defers:a.defers=D.map mark
def Tr (c:Cx) (D:List Nat) (sl:aI) (hs:List a8) (X:Act→World→Prop):Prop:=∀ a w,St c D sl hs a w→X a w
theorem St.qL {c:Cx} {D:List Nat} {sl:aI} {hs:List a8} {a:Act} {w:World} (h:St c D sl hs a w):Mem c hs w:=h.mem.kX
theorem St.put {c:Cx} {D:List Nat} {sl:aI} {hs:List a8} {a:Act} {w:World} (h:St c D sl hs a w) {d:Nat} (hd:d<c.nt) (v:Value):St c D ((d,v)::sl) hs (a.put (some d) v) w:=
 ⟨h.mem,h.cM.put (by rw [h.size];exact hd) v,by simp [Act.put,h.size],h.defers⟩
theorem St.heap {c:Cx} {D:List Nat} {sl:aI} {hs hs':List a8} {a:Act} {w w':World} (h:St c D sl hs a w) (hm:Mem c (hs'++l8 D) w'):St c D sl hs' a w':=
 ⟨hm,h.cM,h.size,h.defers⟩
def FR (r:Option Nat):Fence:={ Fence.wide with round:=r }
def WP (P:Program) (r:Option Nat) (code:Code) (Q:Exit→Act→World→Prop):Act→World→Prop:=code.wpIn (FR r) 0 P Q
def WL (P:Program) (r:Option Nat) (ops:Array Oper) (Q:Exit→Act→World→Prop):List Oper→Act→World→Prop
 | [],a,w=>Q .normal a w
 | o :: rest, a, w =>
  if Region.wanted o (yielded ops a.tmps) then o.wpIn (FR r) 0 P a w (WL P r ops Q rest) Q else WL P r ops Q rest (a.put o.dst undef) w
theorem dH (r:Option Nat) (o:Oper) (P:Program) (w:World) (ρ:Operand→Value):∀ f,o.about P w ρ=some f→(FR r).fn f:=fun _ _=>trivial
theorem vP {P:Program} {r:Option Nat} {ops:Array Oper} {Q:Exit→Act→World→Prop} (l:List Oper):∀ k,(∀ j,l[j]? = ops[k+j]?)→wpOpsIn (FR r) 0 P ops Q (List.range' k l.length)=WL P r ops Q l:=by
 induction l with
 | nil=>intro k _;funext a w;simp [wpOpsIn,WL]
 | cons o l ih =>
  intro k h
  have h0:ops[k]? = some o:=by simpa using (h 0).symm
  have ih':=ih (k+1) (fun j=>by have:=h (j+1);simpa [Nat.add_assoc,Nat.add_comm 1 j] using this)
  funext a w
  simp only [List.length_cons,List.range'_succ,wpOpsIn,h0,WL,ih']
  split
  ·rfl
  ·simp [FR,Fence.wide]
theorem rq {P:Program} {r:Option Nat} {c:Cx} {D:List Nat} {sl:aI} {hs:List a8} {id:Nat} {l:List Oper} {Q:Exit→Act→World→Prop}
  (h:Tr c D sl hs (WL P r l.toArray Q l)):Tr c D sl hs (WP P r (.region id l.toArray false) Q):=fun a w a7=>by
 unfold WP
 refine wpIn_region ?_
 rw [List.range_eq_range',show l.toArray.size=l.length from by simp,vP l 0 (by simp)]
 exact h a w a7
theorem Ca {P:Program} {r:Option Nat} {c:Cx} {D:List Nat} {sl:aI} {hs:List a8} {x y:Code} {Q:Exit→Act→World→Prop}
  (h:Tr c D sl hs (WP P r x (Exit.then (WP P r y Q) Q))):Tr c D sl hs (WP P r (.seq x y) Q):=fun a w a7=>wpIn_seq (h a w a7)
theorem Gy {P:Program} {r:Option Nat} {c:Cx} {D:List Nat} {sl:aI} {hs:List a8} {ops:Array Oper} {Q:Exit→Act→World→Prop}
  (h:Tr c D sl hs (Q .normal)):Tr c D sl hs (WL P r ops Q []):=h
theorem KZ {c:Cx} {D:List Nat} {sl:aI} {hs:List a8} {N:Act→World→Prop} {Q:Exit→Act→World→Prop}
  (h:Tr c D sl hs N):Tr c D sl hs (Exit.then N Q .normal):=h
theorem zX {c:Cx} {D:List Nat} {sl:aI} {hs:List a8} {N:Act→World→Prop} {Q:Exit→Act→World→Prop}
  (h:Tr c D sl hs (Q .ret)):Tr c D sl hs (Exit.then N Q .ret):=h
theorem yj {c:Cx} {D:List Nat} {sl:aI} {hs:List a8} {N:Act→World→Prop} {Q:Exit→Act→World→Prop} {id:Nat}
  (h:Tr c D sl hs (Q (.exit id))):Tr c D sl hs (Exit.then N Q (.exit id)):=h
theorem pf {c:Cx} {D:List Nat} {sl:aI} {hs:List a8} {id:Nat} {Q:Exit→Act→World→Prop}
  (h:Tr c D sl hs (Q .normal)):Tr c D sl hs (Exit.inBlock id Q .normal):=h
theorem Cc {c:Cx} {D:List Nat} {sl:aI} {hs:List a8} {id:Nat} {Q:Exit→Act→World→Prop}
  (h:Tr c D sl hs (Q .ret)):Tr c D sl hs (Exit.inBlock id Q .ret):=h
theorem Ab {c:Cx} {D:List Nat} {sl:aI} {hs:List a8} {id:Nat} {Q:Exit→Act→World→Prop}
  (h:Tr c D sl hs (Q .normal)):Tr c D sl hs (Exit.inBlock id Q (.exit id)):=fun a w a7=>by
 simp only [Exit.inBlock,if_true];exact h a w a7
theorem ug {c:Cx} {D:List Nat} {sl:aI} {hs:List a8} {id UC:Nat} {Q:Exit→Act→World→Prop} (hne:Nat.beq UC id=false)
  (h:Tr c D sl hs (Q (.exit UC))):Tr c D sl hs (Exit.inBlock id Q (.exit UC)):=fun a w a7=>by
 have:¬ UC=id:=fun e=>by subst e;simp at hne
 simp only [Exit.inBlock,this,if_false];exact h a w a7
theorem GF {P:Program} {r:Option Nat} {c:Cx} {D:List Nat} {sl:aI} {hs:List a8} {id:Nat} {x:Code} {Q:Exit→Act→World→Prop}
  (h:Tr c D sl hs (WP P r x (Exit.inBlock id Q))):Tr c D sl hs (WP P r (.block id x) Q):=fun a w a7=>wpIn_block (h a w a7)
theorem Dx {P:Program} {r:Option Nat} {c:Cx} {D:List Nat} {sl:aI} {hs:List a8} {Q:Exit→Act→World→Prop}
  (h:Tr c D sl hs (Q .normal)):Tr c D sl hs (WP P r .skip Q):=fun a w a7=>wpIn_skip (h a w a7)
theorem K4 {P:Program} {r:Option Nat} {c:Cx} {D:List Nat} {sl:aI} {hs:List a8} {id:Nat} {Q:Exit→Act→World→Prop}
  (h:Tr c D sl hs (Q (.exit id))):Tr c D sl hs (WP P r (.exit id) Q):=fun a w a7=>wpIn_exit (h a w a7)
theorem Gx {P:Program} {r:Option Nat} {c:Cx} {D:List Nat} {sl:aI} {hs:List a8} {Q:Exit→Act→World→Prop}
  (h:Tr c D sl hs (Q .ret)):Tr c D sl hs (WP P r .ret Q):=fun a w a7=>wpIn_ret (h a w a7)
theorem Dz {P:Program} {r:Option Nat} {c:Cx} {D:List Nat} {sl:aI} {hs:List a8} {x:Operand} {b:Bool} {u v:Code} {Q:Exit→Act→World→Prop} (hx:Is sl x (.bool b))
  (ht:b=true→Tr c D sl hs (WP P r u Q)) (hf:b=false→Tr c D sl hs (WP P r v Q)):Tr c D sl hs (WP P r (.cond x u v) Q):=fun a w a7=>
 wpIn_cond_split (hx a a7.cM) (fun e=>ht e a w a7) (fun e=>hf e a w a7)
theorem cB {P:Program} {r:Option Nat} {c:Cx} {D:List Nat} {sl:aI} {hs:List a8} {x:Operand} {u v:Code} {Q:Exit→Act→World→Prop} (hx:Is sl x (.bool true))
  (ht:Tr c D sl hs (WP P r u Q)):Tr c D sl hs (WP P r (.cond x u v) Q):=fun a w a7=>wpIn_cond_true (hx a a7.cM) (ht a w a7)
theorem bL {P:Program} {r:Option Nat} {c:Cx} {D:List Nat} {sl:aI} {hs:List a8} {x:Operand} {u v:Code} {Q:Exit→Act→World→Prop} (hx:Is sl x (.bool false))
  (ht:Tr c D sl hs (WP P r v Q)):Tr c D sl hs (WP P r (.cond x u v) Q):=fun a w a7=>wpIn_cond_false (hx a a7.cM) (ht a w a7)
theorem EZ {P:Program} {r:Option Nat} {c:Cx} {D:List Nat} {sl:aI} {hs:List a8} {x:Operand} {p:Prop} {inst:Decidable p} {u v:Code} {Q:Exit→Act→World→Prop} (hx:Is sl x (.bool (decide p)))
  (ht:p→Tr c D sl hs (WP P r u Q)) (hf:¬ p→Tr c D sl hs (WP P r v Q)):Tr c D sl hs (WP P r (.cond x u v) Q):=
 Dz hx (fun e=>ht (of_decide_eq_true e)) (fun e=>hf (of_decide_eq_false e))
theorem K2 {P:Program} {r:Option Nat} {c:Cx} {D:List Nat} {sl:aI} {hs:List a8} {x:Code} {Q:Exit→Act→World→Prop} {ι:Type} (Φ:ι→Prop) (sI:ι→aI) (hI:ι→List a8) (μ:ι→Nat)
  (h0:Tr c D sl hs fun a w=>∃ i,Φ i∧St c D (sI i) (hI i) a w)
  (round:∀ i,Φ i→Tr c D (sI i) (hI i) (WP P r x (Exit.then (fun a w=>∃ j,Φ j∧μ j<μ i∧St c D (sI j) (hI j) a w) Q))) :
  Tr c D sl hs (WP P r (.loop x) Q):=fun a w a7=>by
 have key:∀ (n:Nat) i,μ i=n→Φ i→∀ a w,St c D (sI i) (hI i) a w→True:=fun _ _ _ _ _ _ _=>trivial
 -- a measure on U9: zK least 'μ i' of XJ O5 fit
 let fits:Act→World→Nat→Prop:=fun a w n=>∃ i,Φ i∧μ i=n∧St c D (sI i) (hI i) a w
 have least:∀ a w,(∃ n,fits a w n)→∃ n,fits a w n∧∀ m,fits a w m→n≤m:=by
  intro a w ⟨n,hn⟩
  induction n using Nat.strongRecOn with
  | _ n ih =>
   by_cases h:∃ m,m<n∧fits a w m
   ·obtain ⟨m,hm,hf⟩:=h
    exact ih m hm hf
   ·exact ⟨n,hn,fun m hm=>Nat.le_of_not_lt fun aL=>h ⟨m,aL,hm⟩⟩
 let M:Act→World→Nat:=fun a w=>Classical.epsilon fun n=>fits a w n∧∀ m,fits a w m→n≤m
 have hM:∀ a w,(∃ n,fits a w n)→fits a w (M a w)∧∀ m,fits a w m→M a w≤m:=fun a w h=>Classical.epsilon_spec (least a w h)
 refine wpIn_loop (fun a w=>∃ n,fits a w n) M ?_ ?_
 ·obtain ⟨i,hi,hs⟩:=h0 a w a7
  exact ⟨μ i,i,hi,rfl,hs⟩
 ·intro a w hI
  obtain ⟨⟨i,hi,hm,hs⟩,_⟩:=hM a w hI
  refine wpIn_mono (round i hi a w hs) fun e a' w' h=>?_
  cases e with
  | normal =>
   obtain ⟨j,hj,aL,hs'⟩:=h
   have hf:fits a' w' (μ j):=⟨j,hj,rfl,hs'⟩
   exact ⟨⟨_,hf⟩,Nat.lt_of_le_of_lt ((hM a' w' ⟨_,hf⟩).2 _ hf) (by rw [← hm];exact aL)⟩
  | _=>exact h
theorem lU {P:Program} {r:Option Nat} {ops:Array Oper} {Q:Exit→Act→World→Prop} {o:Oper} {rest:List Oper} {a:Act} {w:World} (hg:o.guard=none)
  (h:o.wpIn (FR r) 0 P a w (WL P r ops Q rest) Q):WL P r ops Q (o::rest) a w:=by
 unfold WL
 rw [if_pos (by simp [Region.wanted,hg])]
 exact h
def cL (P:Program) (c:Cx) (sl:aI) (hs:List a8) (o:Oper) (V:Value):Prop:=
 (∀ d,o.op≠.defer d)∧∀ a w,bK sl a→Mem c hs w→(execOp a.eval o).run P w=.ok (.value V) w
theorem ab {P:Program} {r:Option Nat} {c:Cx} {D:List Nat} {sl:aI} {hs:List a8} {ops:Array Oper} {Q:Exit→Act→World→Prop} {d:Nat} {op:Op} {ty:TypeId} {pos:String} {af:Array Edge} {rest:List Oper} {V:Value}
  (hr:cL P c sl hs ⟨some d,op,ty,pos,af,none⟩ V) (hd:Nat.blt d c.nt=true) (k:Tr c D ((d,V)::sl) hs (WL P r ops Q rest)) :
  Tr c D sl hs (WL P r ops Q (⟨some d,op,ty,pos,af,none⟩::rest)):=fun a w a7=>by
 refine lU rfl ⟨dH _ _ _ _ _,?_⟩
 rw [Oper.semAt_eq _ _ _ hr.1,hr.2 a w a7.cM a7.qL]
 exact k _ _ (a7.put (by simpa [Nat.blt_eq] using hd) V)
theorem kC {ops:Array Oper} {o:Oper} {j g:Nat} {want c0 q:Bool} {a:Act} {sl:aI} (hg:o.guard=some (j,want)) (hj:((ops[j]?).bind (·.dst))=some g) (hs:bK sl a) (hq:cF sl g=some (gv c0 (.bool q))) :
  Region.wanted o (yielded ops a.tmps)=(c0&&(q==want)):=by
 have ht:=hs _ _ hq
 simp only [Region.wanted,hg,yielded,hj,Option.bind_some,ht]
 cases c0 <;> cases q <;> cases want <;> rfl
theorem Dw {P:Program} {r:Option Nat} {c:Cx} {D:List Nat} {sl:aI} {hs:List a8} {ops:Array Oper} {Q:Exit→Act→World→Prop} {d:Nat} {op:Op} {ty:TypeId} {pos:String} {af:Array Edge} {rest:List Oper} {V:Value}
  {j g:Nat} {want c0 q:Bool} (hj:((ops[j]?).bind (·.dst))=some g) (hq:cF sl g=some (gv c0 (.bool q)))
  (hr:(c0&&(q==want))=true→cL P c sl hs ⟨some d,op,ty,pos,af,some (j,want)⟩ V) (hd:Nat.blt d c.nt=true) (k:Tr c D ((d,gv (c0&&(q==want)) V)::sl) hs (WL P r ops Q rest)) :
  Tr c D sl hs (WL P r ops Q (⟨some d,op,ty,pos,af,some (j,want)⟩::rest)):=fun a w a7=>by
 unfold WL
 rw [kC rfl hj a7.cM hq]
 by_cases h:(c0&&(q==want))=true
 ·rw [if_pos h]
  refine ⟨dH _ _ _ _ _,?_⟩
  rw [Oper.semAt_eq _ _ _ (hr h).1,(hr h).2 a w a7.cM a7.qL]
  rw [tO h] at k
  exact k _ _ (a7.put (by simpa [Nat.blt_eq] using hd) V)
 ·rw [if_neg h]
  rw [ve (by simpa using h)] at k
  exact k _ _ (a7.put (by simpa [Nat.blt_eq] using hd) undef)
theorem ue {P:Program} {r:Option Nat} {c:Cx} {D:List Nat} {sl:aI} {hs:List a8} {ops:Array Oper} {Q:Exit→Act→World→Prop} {d:Nat} {op:Op} {ty:TypeId} {pos:String} {af:Array Edge} {rest:List Oper} {V:Value}
  {j g:Nat} {want q:Bool} (hj:((ops[j]?).bind (·.dst))=some g) (hq:cF sl g=some (.bool q))
  (hr:(q==want)=true→cL P c sl hs ⟨some d,op,ty,pos,af,some (j,want)⟩ V) (hd:Nat.blt d c.nt=true) (k:Tr c D ((d,gv (q==want) V)::sl) hs (WL P r ops Q rest)) :
  Tr c D sl hs (WL P r ops Q (⟨some d,op,ty,pos,af,some (j,want)⟩::rest)):=
 Dw (c0:=true) hj (by rw [hq];rfl) (by simpa using hr) hd (by simpa using k)
end Go.SL
namespace Go.SL
open Go
def j5:TypeDesc→Bool
 | .struct _ | .array _ _=>true
 | _=>false
def NC (P:Program) (t:TypeId):Option (Bool×Nat):=
 match P.underlying t,P.info? t with
 | some d,some i=>some (j5 d,i.size)
 | _,_=>none
class Ty (P:Program) (t:TypeId) (agg:outParam Bool) (n:outParam Nat):Prop where
 eq:NC P t=some (agg,n)
class iH (P:Program) (t:TypeId) (d:outParam TypeDesc):Prop where
 eq:P.underlying t=some d
class lG (P:Program) (t:TypeId) (v:outParam Value):Prop where
 eq:(P.info? t).map (·.zero)=some (some v)
class vO (P:Program) (t:TypeId) (n:outParam Nat):Prop where
 eq:(P.info? t).map (·.bytes)=some n
section
variable {P:Program} {w:World} {t:TypeId}
theorem Ty.parts {agg:Bool} {n:Nat} [h:Ty P t agg n]:∃ d i,P.underlying t=some d∧P.info? t=some i∧j5 d=agg∧i.size=n:=by
 have:=h.eq
 unfold NC at this
 split at this
 ·rename_i d i hd hi
  cases this
  exact ⟨d,i,hd,hi,rfl,rfl⟩
 ·cases this
theorem aV {d:TypeDesc} (h:P.underlying t=some d):(underlying t).run P w=.ok d w:=by simp [underlying,h]
theorem fB {i:TypeInfo} (h:P.info? t=some i):(typeInfo t).run P w=.ok i w:=by simp [typeInfo,h]
theorem fL {agg:Bool} {n:Nat} [h:Ty P t agg n]:(sizeOf t).run P w=.ok n w:=by
 obtain ⟨d,i,_,hi,_,hn⟩:=Ty.parts (P:=P) (t:=t)
 simp [sizeOf,fB hi,hn]
theorem uw {agg:Bool} {n:Nat} [h:Ty P t agg n]:(isAgg t).run P w=.ok agg w:=by
 obtain ⟨d,i,hd,_,ha,_⟩:=Ty.parts (P:=P) (t:=t)
 unfold isAgg
 rw [Sem.run_bind,aV hd,Result.andThen_ok]
 subst ha
 cases d <;> rfl
theorem hP {v:Value} [h:lG P t v]:(zeroValue t).run P w=.ok v w:=by
 have:=h.eq
 cases hi:P.info? t with
 | none=>rw [hi] at this;cases this
 | some i =>
  rw [hi] at this
  have hz:i.zero=some v:=by simpa using this
  simp [zeroValue,fB hi,hz]
theorem yA {a:Addr} {v:Value} (h:w.cell? a=some v) (m:Mode):(load a m).run P w=.ok v w:=by simp [h]
theorem cell_of_block {b:Nat} {cs:Array Value} {E:TypeId} {fz:Nat×Nat} (h:w.heap[b]? = some (.cells cs E fz)) (o:Nat):w.cell? ⟨b,o,none⟩=cs[o]?:=by
 simp [World.cell?,h]
theorem eD (b o n:Nat):Addr.add ⟨b,o,none⟩ n=⟨b,o+n,none⟩:=by
 unfold Addr.add
 split
 ·rename_i h;simp [h]
 ·rfl
theorem l5 {b o:Nat}:∀ (n i:Nat) (acc:Array Value) (vs:List Value),vs.length=n→(∀ j v,vs[j]? = some v→w.cell? ⟨b,o+(i+j),none⟩=some v) →
  (loadCellsFrom ⟨b,o,none⟩ i n acc).run P w=.ok (acc++vs.toArray) w
 | 0, i, acc, vs, hl, _ => by
  have:vs=[]:=List.length_eq_zero_iff.1 hl
  subst this
  simp [loadCellsFrom]
 | n+1,i,acc,[],hl,_=>by simp at hl
 | n + 1, i, acc, v :: vs, hl, hc => by
  have h0:w.cell? (Addr.add ⟨b,o,none⟩ i)=some v:=by rw [eD];exact hc 0 v rfl
  simp only [loadCellsFrom,Sem.run_bind,yA h0,Result.andThen_ok]
  rw [l5 n (i+1) (acc.push v) vs (by simpa using hl) (fun j u hu=>by
   have:=hc (j+1) u (by simpa using hu)
   rw [show i+1+j=i+(j+1) from by omega]
   exact this)]
  simp
theorem qz {b o n:Nat} {vs:List Value} (hl:vs.length=n) (hc:∀ j v,vs[j]? = some v→w.cell? ⟨b,o+j,none⟩=some v):(loadCells ⟨b,o,none⟩ n).run P w=.ok vs.toArray w:=by
 unfold loadCells
 rw [l5 n 0 #[] vs hl (fun j v hv=>by simpa using hc j v hv)]
 simp
theorem si {b o n:Nat} {v:Value} [Ty P t false n] (hc:w.cell? ⟨b,o,none⟩=some v):(loadVar t ⟨b,o,none⟩).run P w=.ok v w:=by
 unfold loadVar
 rw [Sem.run_bind,uw (agg:=false) (n:=n),Result.andThen_ok]
 simp [hc]
theorem nM {b o n:Nat} {vs:List Value} [Ty P t true n] (hl:vs.length=n) (hc:∀ j v,vs[j]? = some v→w.cell? ⟨b,o+j,none⟩=some v):(loadVar t ⟨b,o,none⟩).run P w=.ok (.agg vs.toArray) w:=by
 unfold loadVar
 rw [Sem.run_bind,uw (agg:=true) (n:=n),Result.andThen_ok]
 simp only [if_true,Sem.run_bind,fL (t:=t) (agg:=true) (n:=n),Result.andThen_ok,qz hl hc,Sem.run_pure]
end
def At (c:Cx) (hs:List a8) (b o:Nat) (v:Value):Prop:=∀ w,Mem c hs w→w.cell? ⟨b,o,none⟩=some v
theorem At.bA {c:Cx} {hs hs':List a8} {b o:Nat} {cs:Array Value} {E:TypeId} {fz:Nat×Nat} {v:Value} (ht:Take hs (SL.bA b (.cells cs E fz)) hs') (hv:cs[o]? = some v):At c hs b o v:=
 fun w hm=>by rw [cell_of_block (hm.bA ht)];exact hv
theorem At.base {c:Cx} {hs:List a8} {b o:Nat} {v:Value} (h:c.w0.cell? ⟨b,o,none⟩=some v) (Fz:c.md=[]):At c hs b o v:=fun w hm=>by
 have hb:b<c.w0.heap.size:=World.block_lt_of_cell? c.w0 ⟨b,o,none⟩ h
 have:=hm.base hb (by rw [Fz];simp)
 rw [← h]
 simp [World.cell?,this]
theorem At.BH {c:Cx} {hs:List a8} {b o:Nat} {v:Value} (h:c.w0.cell? ⟨b,o,none⟩=some v) (Fz:b ∉ c.md):At c hs b o v:=fun w hm=>by
 have hb:b<c.w0.heap.size:=World.block_lt_of_cell? c.w0 ⟨b,o,none⟩ h
 have:=hm.base hb Fz
 rw [← h]
 simp [World.cell?,this]
def eF (c:Cx) (hs:List a8) (b o:Nat):List Value→Prop
 | []=>True
 | v::vs=>At c hs b o v∧eF c hs b (o+1) vs
theorem eF.get {c:Cx} {hs:List a8} {b:Nat}:∀ {vs:List Value} {o:Nat},eF c hs b o vs→∀ j v,vs[j]? = some v→At c hs b (o+j) v
 | [],_,_,j,v,h=>by simp at h
 | x :: vs, o, ⟨h0, h1⟩, j, v, h => by
  cases j with
  | zero=>simp at h;subst h;exact h0
  | succ j=>have:=eF.get h1 j v (by simpa using h);rwa [show o+1+j=o+(j+1) from by omega] at this
theorem eF.uG {c:Cx} {hs:List a8} {b:Nat}:∀ {vs:List Value} {o:Nat},(∀ j v,vs[j]? = some v→At c hs b (o+j) v)→eF c hs b o vs
 | [],_,_=>trivial
 | x::vs,o,h=>⟨h 0 x rfl,eF.uG fun j v hv=>by have:=h (j+1) v (by simpa using hv);rwa [show o+(j+1)=o+1+j from by omega] at this⟩
theorem eF.base {c:Cx} {hs:List a8} {b o:Nat} {vs:List Value} (h:∀ (j:Nat) (u:Value),vs[j]? = some u→c.w0.cell? ⟨b,o+j,none⟩=some u) (Fz:c.md=[]):eF c hs b o vs:=
 eF.uG fun j u hu=>At.base (h j u hu) Fz
def dW:List Value→Nat→Nat→List Value
 | _,_,0=>[]
 | [],_,_+1=>[]
 | v::r,0,n+1=>v::dW r 0 n
 | _::r,o+1,n+1=>dW r o (n+1)
theorem iX:∀ (cs:List Value) (o n:Nat),dW cs o n=(cs.drop o).take n
 | cs,o,0=>by simp [dW]
 | [],o,n+1=>by simp [dW]
 | v::r,0,n+1=>by simp [dW,iX r 0 n]
 | v::r,o+1,n+1=>by simp [dW,iX r o (n+1)]
def sV:List Value→Nat→Option Value
 | [],_=>none
 | v::_,0=>some v
 | _::r,n+1=>sV r n
theorem tJ:∀ (cs:List Value) (o:Nat),sV cs o=cs[o]?
 | [],_=>by simp [sV]
 | v::_,0=>by simp [sV]
 | _::r,n+1=>by simp [sV,tJ r n]
theorem At.lit {c:Cx} {hs hs':List a8} {b o:Nat} {cs:List Value} {E:TypeId} {fz:Nat×Nat} {v:Value} (ht:Take hs (SL.bA b (.cells cs.toArray E fz)) hs') (hv:sV cs o=some v):At c hs b o v:=
 At.bA ht (by rw [tJ] at hv;simpa using hv)
theorem eF.bA {c:Cx} {hs hs':List a8} {b o n:Nat} {cs:List Value} {E:TypeId} {fz:Nat×Nat} {vs:List Value} (ht:Take hs (SL.bA b (.cells cs.toArray E fz)) hs') (hv:dW cs o n=vs):eF c hs b o vs:=by
 subst hv
 refine eF.uG fun j v hv=>At.bA ht ?_
 simp only [iX,List.getElem?_take,List.getElem?_drop] at hv
 split at hv
 ·simpa using hv
 ·cases hv
section
variable {P:Program} {c:Cx} {sl:aI} {hs hs':List a8} {dst:Option Tmp} {ty:TypeId} {pos:String} {af:Array Edge} {g:Option (Nat×Bool)}
theorem aR {x:Operand} {v:Value} (hx:Is sl x v):cL P c sl hs ⟨dst,.move x,ty,pos,af,g⟩ v:=
 ⟨by simp,fun a w ha _=>by simp [execOp,hx a ha]⟩
theorem dw {x:Operand} {v:Value} (hx:Is sl x v):cL P c sl hs ⟨dst,.assign x,ty,pos,af,g⟩ v:=
 ⟨by simp,fun a w ha _=>by simp [execOp,hx a ha]⟩
theorem tz {x y z:Operand} {q:Bool} {v u:Value} (hx:Is sl x (.bool q)) (hy:Is sl y v) (hz:Is sl z u):cL P c sl hs ⟨dst,.pick x y z,ty,pos,af,g⟩ (bif q then v else u):=
 ⟨by simp,fun a w ha _=>by simp [execOp,hx a ha,hy a ha,hz a ha,asBool,cond_eq_ite]⟩
theorem bR {x:Operand} {t:Nat} {p q:Bool} (hx:Is sl x (.bool p)) (hq:cF sl t=some (gv (p==false) (.bool q))) :
  cL P c sl hs ⟨dst,.pick x (.const (.bool true)) (.tmp t),ty,pos,af,g⟩ (.bool (p||q)):=
 ⟨by simp,fun a w ha _=>by
  have h2:=ha.eval hq
  simp only [execOp,hx a ha,h2,asBool]
  cases p <;> simp [gv,Act.eval]⟩
theorem bV {x:Operand} {t:Nat} {p q:Bool} (hx:Is sl x (.bool p)) (hq:cF sl t=some (gv (p==true) (.bool q))) :
  cL P c sl hs ⟨dst,.pick x (.tmp t) (.const (.bool false)),ty,pos,af,g⟩ (.bool (p&&q)):=
 ⟨by simp,fun a w ha _=>by
  have h2:=ha.eval hq
  simp only [execOp,hx a ha,h2,asBool]
  cases p <;> simp [gv,Act.eval]⟩
theorem jM {x:Operand} {t:Nat} {c0 p q:Bool} (hc:c0=true) (hx:Is sl x (.bool p)) (hq:cF sl t=some (gv (c0&&(p==false)) (.bool q))) :
  cL P c sl hs ⟨dst,.pick x (.const (.bool true)) (.tmp t),ty,pos,af,g⟩ (.bool (p||q)):=bR hx (by rw [hq,hc,Bool.true_and])
theorem eo {x:Operand} {t:Nat} {c0 p q:Bool} (hc:c0=true) (hx:Is sl x (.bool p)) (hq:cF sl t=some (gv (c0&&(p==true)) (.bool q))) :
  cL P c sl hs ⟨dst,.pick x (.tmp t) (.const (.bool false)),ty,pos,af,g⟩ (.bool (p&&q)):=bV hx (by rw [hq,hc,Bool.true_and])
theorem iB {op:BinOp} {t u:TypeId} {x y:Operand} {v u' r:Value} (hx:Is sl x v) (hy:Is sl y u') (hr:∀ w,(do eqGuard op t x y v u';binOp op t v u').run P w=.ok r w) :
  cL P c sl hs ⟨dst,.binOp op t x y u,ty,pos,af,g⟩ r:=
 ⟨by simp,fun a w ha _=>by
  have:=hr w
  simp only [Sem.run_bind] at this
  simp only [execOp,hx a ha,hy a ha,Sem.run_bind,this,Result.andThen_ok,Sem.run_pure]⟩
theorem fE {op:BinOp} {t:TypeId} {x y:Operand} {k k':IntKind} {a b:Int} {w:World}:(eqGuard op t x y (.int k a) (.int k' b)).run P w=.ok () w:=by
 unfold eqGuard;split <;> rfl
theorem kV {op:BinOp} {t:TypeId} {x y:Operand} {a b:ByteArray} {w:World}:(eqGuard op t x y (.string a) (.string b)).run P w=.ok () w:=by
 unfold eqGuard;split <;> rfl
theorem zq {op:BinOp} {t:TypeId} {x y:Operand} {a b:Bool} {w:World}:(eqGuard op t x y (.bool a) (.bool b)).run P w=.ok () w:=by
 unfold eqGuard;split <;> rfl
def Ut (n:Int):Prop:=-9223372036854775808≤n∧n≤9223372036854775807
theorem G7 {t u:TypeId} {x y:Operand} {a b:Int} (hx:Is sl x (.int .i64 a)) (hy:Is sl y (.int .i64 b)) (hb:Ut (a+b)) :
  cL P c sl hs ⟨dst,.binOp .add t x y u,ty,pos,af,g⟩ (.int .i64 (a+b)):=
 iB hx hy fun w=>by simp [fE,binOp,Op.intArith,IntWalk.i64_in _ hb]
theorem rD {t u:TypeId} {x y:Operand} {a b:Int} (hx:Is sl x (.int .i64 a)) (hy:Is sl y (.int .i64 b)) (hb:Ut (a-b)) :
  cL P c sl hs ⟨dst,.binOp .sub t x y u,ty,pos,af,g⟩ (.int .i64 (a-b)):=
 iB hx hy fun w=>by simp [fE,binOp,Op.intArith,IntWalk.i64_in _ hb]
theorem DQ {k:IntKind} {t u:TypeId} {x y:Operand} {a b:Int} (hx:Is sl x (.int k a)) (hy:Is sl y (.int k b)) :
  cL P c sl hs ⟨dst,.binOp .sub t x y u,ty,pos,af,g⟩ (.int k (k.wrap (a-b))):=
 iB hx hy fun w=>by simp [fE,binOp,Op.intArith]
theorem nL {k:IntKind} {t u:TypeId} {x y:Operand} {a b:Int} (hx:Is sl x (.int k a)) (hy:Is sl y (.int k b)) :
  cL P c sl hs ⟨dst,.binOp .lss t x y u,ty,pos,af,g⟩ (.bool (decide (a<b))):=
 iB hx hy fun w=>by simp [fE,binOp,Op.intCmp]
theorem jY {k:IntKind} {t u:TypeId} {x y:Operand} {a b:Int} (hx:Is sl x (.int k a)) (hy:Is sl y (.int k b)) :
  cL P c sl hs ⟨dst,.binOp .leq t x y u,ty,pos,af,g⟩ (.bool (decide (a≤b))):=
 iB hx hy fun w=>by simp [fE,binOp,Op.intCmp]
theorem kM {k:IntKind} {t u:TypeId} {x y:Operand} {a b:Int} (hx:Is sl x (.int k a)) (hy:Is sl y (.int k b)) :
  cL P c sl hs ⟨dst,.binOp .gtr t x y u,ty,pos,af,g⟩ (.bool (decide (b<a))):=
 iB hx hy fun w=>by simp [fE,binOp,Op.intCmp]
theorem yB {k:IntKind} {t u:TypeId} {x y:Operand} {a b:Int} (hx:Is sl x (.int k a)) (hy:Is sl y (.int k b)) :
  cL P c sl hs ⟨dst,.binOp .geq t x y u,ty,pos,af,g⟩ (.bool (decide (b≤a))):=
 iB hx hy fun w=>by simp [fE,binOp,Op.intCmp]
theorem kN {k:IntKind} {t u:TypeId} {x y:Operand} {a b:Int} (hx:Is sl x (.int k a)) (hy:Is sl y (.int k b)) :
  cL P c sl hs ⟨dst,.binOp .eql t x y u,ty,pos,af,g⟩ (.bool (decide (a=b))):=
 iB hx hy fun w=>by simp [fE,binOp,Op.intCmp];rfl
theorem jw {k:IntKind} {t u:TypeId} {x y:Operand} {a b:Int} (hx:Is sl x (.int k a)) (hy:Is sl y (.int k b)) :
  cL P c sl hs ⟨dst,.binOp .neq t x y u,ty,pos,af,g⟩ (.bool (decide (a≠b))):=
 iB hx hy fun w=>by simp [fE,binOp,Op.intCmp];rfl
theorem eU {t:TypeId} {x:Operand} {b:Bool} (hx:Is sl x (.bool b)):cL P c sl hs ⟨dst,.unOp .not t x,ty,pos,af,g⟩ (.bool (!b)):=
 ⟨by simp,fun a w ha _=>by simp [execOp,hx a ha,Op.unary]⟩
theorem tw (a b:ByteArray):(a.toList==b.toList)=decide (a=b):=by
 rw [ByteArray.toList_eq,ByteArray.toList_eq,Bool.eq_iff_iff]
 simp only [beq_iff_eq,decide_eq_true_eq]
 constructor
 ·intro h;cases a;cases b;simp at h;rw [h]
 ·intro h;rw [h]
theorem dR {t u:TypeId} {x y:Operand} {a b:ByteArray} (hx:Is sl x (.string a)) (hy:Is sl y (.string b)) :
  cL P c sl hs ⟨dst,.binOp .eql t x y u,ty,pos,af,g⟩ (.bool (decide (a=b))):=
 iB hx hy fun w=>by simp [kV,binOp,Op.stringOp,tw]
theorem hY {t u:TypeId} {x y:Operand} {a b:ByteArray} (hx:Is sl x (.string a)) (hy:Is sl y (.string b)) :
  cL P c sl hs ⟨dst,.binOp .neq t x y u,ty,pos,af,g⟩ (.bool (decide (a≠b))):=
 iB hx hy fun w=>by simp [kV,binOp,Op.stringOp,tw]
theorem rE {t u:TypeId} {x y:Operand} {a b:ByteArray} (hx:Is sl x (.string a)) (hy:Is sl y (.string b)) (hb:a.size+b.size≤9223372036854775807) :
  cL P c sl hs ⟨dst,.binOp .add t x y u,ty,pos,af,g⟩ (.string (a++b)):=
 iB hx hy fun w=>by
  simp [kV,binOp,Op.stringOp]
  omega
theorem ag {t:TypeId} {n:Nat} {x:Operand} {b o:Nat} {v:Value} [Ty P t false n] (hx:Is sl x (.pointer (some ⟨b,o,none⟩))) (hv:At c hs b o v) :
  cL P c sl hs ⟨dst,.load t x,ty,pos,af,g⟩ v:=
 ⟨by simp,fun a w ha hm=>by simp [execOp,hx a ha,Instr.loadAt,Instr.sureAddr,si (hv w hm)]⟩
theorem jh {t:TypeId} {n:Nat} {x:Operand} {b o:Nat} {vs:List Value} [Ty P t true n] (hx:Is sl x (.pointer (some ⟨b,o,none⟩))) (hv:eF c hs b o vs) (hl:vs.length=n) :
  cL P c sl hs ⟨dst,.load t x,ty,pos,af,g⟩ (.agg vs.toArray):=
 ⟨by simp,fun a w ha hm=>by simp [execOp,hx a ha,Instr.loadAt,Instr.sureAddr,nM hl (fun j v h=>hv.get j v h w hm)]⟩
def Bq (P:Program) (t:TypeId) (i:Nat):Option Nat:=
 match P.underlying t with
 | some (.struct fs) => match fs[i]? with
  | some f => match P.info? f.type with
   | some fi=>if fi.size=0 then none else some f.offset
   | none=>none
  | none=>none
 | _=>none
class ek (P:Program) (t:TypeId) (i:Nat) (o:outParam Nat):Prop where
 eq:Bq P t i=some o
theorem ek.parts {t:TypeId} {i o:Nat} [h:ek P t i o]:∃ fs f fi,P.underlying t=some (.struct fs)∧fs[i]? = some f∧P.info? f.type=some fi∧fi.size≠0∧f.offset=o:=by
 have:=h.eq
 unfold Bq at this
 split at this
 ·rename_i fs Mx
  split at this
  ·rename_i f hf
   split at this
   ·rename_i fi UT
    split at this
    ·cases this
    ·rename_i hz;cases this;exact ⟨fs,f,fi,Mx,hf,UT,hz,rfl⟩
   ·cases this
  ·cases this
 ·cases this
theorem ao {t:TypeId} {i o:Nat} {x:Operand} {b k q:Nat} [ek P t i o] (hx:Is sl x (.pointer (some ⟨b,k,none⟩))) (he:k+o=q) :
  cL P c sl hs ⟨dst,.fieldAddr t x i,ty,pos,af,g⟩ (.pointer (some ⟨b,q,none⟩)):=
 ⟨by simp,fun a w ha _=>by
  subst he
  obtain ⟨fs,f,fi,h1,h2,h3,h4,h5⟩:=ek.parts (P:=P) (t:=t) (i:=i)
  simp only [execOp,hx a ha,Instr.fieldAt,Sem.run_bind,aV h1,Result.andThen_ok,h2,Instr.sureAddr,Sem.run_pure,fieldPlace,sizeOf,fB h3,h4,if_false,eD,h5]⟩
def partOf (agg:Bool) (n:Nat) (cs:List Value) (o:Nat):Option Value:=
 bif agg then some (.agg (dW cs o n).toArray) else sV cs o
theorem Lt {t:TypeId} {agg:Bool} {n:Nat} [Ty P t agg n] {cs:List Value} {o:Nat} {v:Value} {w:World} (h:partOf agg n cs o=some v):(part t cs.toArray o).run P w=.ok v w:=by
 unfold part
 rw [Sem.run_bind,uw (agg:=agg) (n:=n),Result.andThen_ok]
 cases agg with
 | true =>
  simp only [partOf,cond_true,Option.some.injEq] at h
  simp only [if_true,Sem.run_bind,fL (t:=t) (agg:=true) (n:=n),Result.andThen_ok,Sem.run_pure,← h,iX]
  congr 2
  simp [List.extract_eq_take_drop]
 | false =>
  simp only [partOf,cond_false,tJ] at h
  simp [h]
def fieldInfo (P:Program) (t:TypeId) (i:Nat):Option (Nat×TypeId):=
 match P.underlying t with
 | some (.struct fs)=>(fs[i]?).map fun f=>(f.offset,f.type)
 | _=>none
class YP (P:Program) (t:TypeId) (i:Nat) (o:outParam Nat) (ft:outParam TypeId):Prop where
 eq:fieldInfo P t i=some (o,ft)
theorem AF {t ft:TypeId} {i o n:Nat} {agg:Bool} {x:Operand} {cs:List Value} {v:Value} [h:YP P t i o ft] [Ty P ft agg n] (hx:Is sl x (.agg cs.toArray)) (hv:partOf agg n cs o=some v) :
  cL P c sl hs ⟨dst,.field t x i,ty,pos,af,g⟩ v:=
 ⟨by
   simp,fun a w ha _=>by
  have h1:=h.eq
  unfold fieldInfo at h1
  split at h1
  ·rename_i fs Mx
   obtain ⟨f,hf,he⟩:=Option.map_eq_some_iff.1 h1
   simp only [Prod.mk.injEq] at he
   obtain ⟨e1,e2⟩:=he
   subst e1;subst e2
   simp only [execOp,hx a ha,Instr.field,Sem.run_bind,aV Mx,Result.andThen_ok,hf,asAgg,Sem.run_pure,Lt (agg:=agg) (n:=n) hv]
  ·cases h1⟩
theorem az {t e:TypeId} {n:Nat} {agg:Bool} {x y:Operand} {a0:Option Addr} {b o len cap q:Nat} {k:IntKind} {i:Int} [hu:iH P t (.slice e)] [Ty P e agg n] (hx:Is sl x (.slice a0 len cap)) (hy:Is sl y (.int k i))
  (ha:a0=some ⟨b,o,none⟩) (h0:0≤i) (h1:i<len) (he:o+i.toNat*n=q):cL P c sl hs ⟨dst,.indexAddr t x y,ty,pos,af,g⟩ (.pointer (some ⟨b,q,none⟩)):=
 ⟨by simp,fun a w rm _=>by
  subst he;subst ha
  simp [execOp,hx a rm,hy a rm,Instr.indexAt,asIntOf,aV hu.eq,h0,h1,fL (agg:=agg) (n:=n),eD]⟩
theorem gA {t e:TypeId} {n len:Nat} {agg:Bool} {x y:Operand} {b o q:Nat} {k:IntKind} {i:Int} [hu:iH P t (.array len e)] [Ty P e agg n] (hx:Is sl x (.pointer (some ⟨b,o,none⟩))) (hy:Is sl y (.int k i))
  (h0:0≤i) (h1:i<len) (he:o+i.toNat*n=q):cL P c sl hs ⟨dst,.indexAddr t x y,ty,pos,af,g⟩ (.pointer (some ⟨b,q,none⟩)):=
 ⟨by simp,fun a w ha _=>by
  subst he
  simp [execOp,hx a ha,hy a ha,Instr.indexAt,Instr.sureAddr,asIntOf,aV hu.eq,h0,h1,fL (agg:=agg) (n:=n),eD]⟩
theorem oO {t:TypeId} {x y:Operand} {k:IntKind} {i:Int} {s:ByteArray} [hu:iH P t .string] (hx:Is sl x (.string s)) (hy:Is sl y (.int k i))
  (h0:0≤i) (h1:i<s.size):cL P c sl hs ⟨dst,.index t x y,ty,pos,af,g⟩ (.int .u8 ((s.data.toList[i.toNat]?.getD 0).toNat:Nat)):=
 ⟨by
   simp,fun a w ha _=>by
  have aL:i.toNat<s.size:=by omega
  have hs:s[i.toNat]? = some s[i.toNat]:=getElem?_pos s i.toNat aL
  have hd:s.data.toList[i.toNat]?.getD 0=s[i.toNat]:=by
   rw [Array.getElem?_toList,show s.data[i.toNat]? = some s.data[i.toNat] from Array.getElem?_eq_getElem aL]
   rfl
  simp [execOp,hx a ha,hy a ha,Instr.index,asIntOf,aV hu.eq,h0,hs,← hd]⟩
theorem AE {f:Fn} {first captured:Array Operand} {vs us:Array Value} (h1:∀ a,bK sl a→first.map a.eval=vs) (h2:∀ a,bK sl a→captured.map a.eval=us) :
  cL P c sl hs ⟨dst,.makeFunc f first captured,ty,pos,af,g⟩ (.func f vs us):=
 ⟨by simp,fun a w ha _=>by simp [execOp,h1 a ha,h2 a ha,Instr.makeFunc]⟩
theorem fY {x:Operand} {i:Nat} {vs:List Value} {v:Value} (hx:Is sl x (.tuple vs.toArray)) (hv:sV vs i=some v):cL P c sl hs ⟨dst,.extract x i,ty,pos,af,g⟩ v:=
 ⟨by simp,fun a w ha _=>by simp [execOp,hx a ha,Instr.extract,← tJ,hv]⟩
theorem G6 {t:TypeId} {parts:Array (Nat×Operand)} {ps:Array (Nat×Value)} {v:Value} (hp:∀ a,bK sl a→(parts.map fun (i,x)=>(i,a.eval x))=ps) (hb:∀ w,(Instr.build t ps).run P w=.ok v w) :
  cL P c sl hs ⟨dst,.build t parts,ty,pos,af,g⟩ v:=
 ⟨by simp,fun a w ha _=>by simp only [execOp,hp a ha,Sem.run_bind,hb w,Result.andThen_ok,Sem.run_pure]⟩
theorem bZ {t:TypeId} {e:TypeId} {x:Operand} {b:Option Addr} {n cap:Nat} [hu:iH P t (.slice e)] (hx:Is sl x (.slice b n cap)) :
  cL P c sl hs ⟨dst,.call ⟨.builtin .len,#[x],#[t]⟩,ty,pos,af,g⟩ (.int .i64 n):=
 ⟨by simp,fun a w ha _=>by simp [execOp,hx a ha,resolve,invoke,builtin,Builtin.len_,aV hu.eq,goInt]⟩
theorem eY {t:TypeId} {x:Operand} {s:ByteArray} [hu:iH P t .string] (hx:Is sl x (.string s)) :
  cL P c sl hs ⟨dst,.call ⟨.builtin .len,#[x],#[t]⟩,ty,pos,af,g⟩ (.int .i64 s.size):=
 ⟨by simp,fun a w ha _=>by simp [execOp,hx a ha,resolve,invoke,builtin,Builtin.len_,aV hu.eq,goInt]⟩
theorem Lu {k:IntKind} {ts:Array TypeId} {x y:Operand} {a b:Int} (hx:Is sl x (.int k a)) (hy:Is sl y (.int k b)) :
  cL P c sl hs ⟨dst,.call ⟨.builtin .max,#[x,y],ts⟩,ty,pos,af,g⟩ (.int k (max a b)):=
 ⟨by simp,fun e w ha _=>by
  simp [execOp,hx e ha,hy e ha,resolve,invoke,builtin,Builtin.max_,Builtin.max2]
  simp only [Int.max_def];split <;> split <;> first | rfl | omega⟩
end
end Go.SL
namespace Go.Proofs.A1
open Go Go.SL
structure Wn where
 n:Nat
 ca:Nat→Bool
 fe:Nat→Bool
 fr:Nat→Int
 to:Nat→Int
 xS:Int
def Wn.fin (N:Wn) (p:List Nat):Int:=match p.getLast? with | none=>N.xS | some j=>N.to j
def Wn.step (N:Wn) (p:List Nat) (j:Nat):Bool:=decide (j<N.n)&&(!p.contains j&&((p.isEmpty&&N.ca j)||(N.fe j&&decide (N.fr j=N.fin p))))
def Wn.ok (N:Wn) (p:List Nat):Prop:=∀ k (h:k<p.length),N.step (p.take k) p[k]=true
theorem Wn.mh (N:Wn) (p:List Nat) (j:Nat):N.fin (p++[j])=N.to j:=by unfold Wn.fin;rw [List.getLast?_append];rfl
theorem Wn.rG (N:Wn):N.ok []:=fun k h=>absurd h (Nat.not_lt_zero k)
theorem Wn.ki {N:Wn} {p:List Nat} {j:Nat}:N.ok (p++[j])↔N.ok p∧N.step p j=true:=by
 constructor
 ·intro h
  constructor
  ·intro k hk
   have:=h k (by rw [Zg];omega)
   rwa [List.take_append_of_le_length (by omega),List.getElem_append_left hk] at this
  ·have:=h p.length (by rw [Zg];simp)
   rwa [List.take_append_of_le_length (Nat.le_refl _),List.take_of_length_le (Nat.le_refl _),List.getElem_append_right (Nat.le_refl _),List.getElem_singleton] at this
 ·rintro ⟨h1,h2⟩ k hk
  rw [Zg] at hk
  by_cases hl:k<p.length
  ·rw [List.take_append_of_le_length (by omega),List.getElem_append_left hl];exact h1 k hl
  ·obtain rfl:k=p.length:=by simp at hk;omega
   rw [List.take_append_of_le_length (Nat.le_refl _),List.take_of_length_le (Nat.le_refl _),List.getElem_append_right (Nat.le_refl _),List.getElem_singleton];exact h2
theorem Wn.D1 {N:Wn} {p:List Nat} (h:N.ok p) (k:Nat):N.ok (p.take k):=by
 intro i hi
 rw [List.length_take] at hi
 have:=h i (by omega)
 rwa [List.take_take,Nat.min_eq_left (by omega),List.getElem_take]
theorem Wn.yN {N:Wn} {p q:List Nat} (h:N.ok p) (hp:q <+: p):N.ok q:=by
 rw [List.prefix_iff_eq_take.1 hp];exact Wn.D1 h _
theorem Wn.oM {N:Wn} {p:List Nat} {j:Nat} (h:N.step p j=true):j<N.n:=by
 unfold Wn.step at h;simp only [Bool.and_eq_true,decide_eq_true_eq] at h;exact h.1
theorem Wn.uk {N:Wn} {p:List Nat} {j:Nat} (h:N.step p j=true):j ∉ p:=by
 unfold Wn.step at h;simp only [Bool.and_eq_true,Bool.not_eq_true',List.contains_eq_mem,decide_eq_false_iff_not] at h;exact h.2.1
theorem Wn.AQ {N:Wn} {p:List Nat} (h:N.ok p):p.Nodup:=by
 have key:∀ k,k≤p.length→(p.take k).Nodup:=by
  intro k
  induction k with
  | zero=>intro _;rw [Ze];exact List.nodup_nil
  | succ k ih =>
   intro hk
   rw [List.take_succ_eq_append_getElem (by omega),List.nodup_append]
   refine ⟨ih (by omega),by simp,?_⟩
   intro a ha b hb
   rw [List.mem_singleton] at hb
   subst hb
   intro e
   subst e
   exact Wn.uk (h k (by omega)) ha
 have:=key p.length (Nat.le_refl _)
 rwa [List.take_of_length_le (Nat.le_refl _)] at this
theorem Wn.MO (N:Wn):N.fin []=N.xS:=rfl
def Wn.te (N:Wn) (p:List Nat):Nat:=p.countP N.fe
def lexB:List Nat→List Nat→Bool
 | x::a,y::b=>decide (x<y)||(decide (x=y)&&lexB a b)
 | _,_=>false
theorem nQ:∀ a,lexB a a=false
 | []=>rfl
 | x::a=>by rw [lexB,nQ a];simp
theorem pK:∀ {a b c:List Nat},lexB a b=true→lexB b c=true→lexB a c=true
 | [],_,_,h,_=>by cases h
 | _::_,[],_,h,_=>by cases h
 | _::_,_::_,[],_,h=>by cases h
 | x :: a, y :: b, z :: c, h1, h2 => by
  rw [lexB] at h1 h2 ⊢
  simp only [Bool.or_eq_true,Bool.and_eq_true,decide_eq_true_eq] at h1 h2 ⊢
  rcases h1 with h1 | ⟨h1,zR⟩ <;> rcases h2 with h2 | ⟨h2,FH⟩
  ·exact .inl (by omega)
  ·exact .inl (by omega)
  ·exact .inl (by omega)
  ·exact .inr ⟨by omega,pK zR FH⟩
theorem pL:∀ {a b:List Nat},a.length=b.length→a≠b→lexB a b=true∨lexB b a=true
 | [],[],_,h=>absurd rfl h
 | [],_::_,h,_=>by cases h
 | _::_,[],h,_=>by cases h
 | x :: a, y :: b, hl, h => by
  rw [lexB,lexB]
  simp only [Bool.or_eq_true,Bool.and_eq_true,decide_eq_true_eq]
  by_cases e:x=y
  ·subst e
   rcases pL (a:=a) (b:=b) (by simpa using hl) (fun e=>h (by rw [e])) with h | h
   ·exact .inl (.inr ⟨rfl,h⟩)
   ·exact .inr (.inr ⟨rfl,h⟩)
  ·rcases Nat.lt_or_gt_of_ne e with h | h
   ·exact .inl (.inl h)
   ·exact .inr (.inl h)
def Wn.lt (N:Wn) (a b:List Nat):Bool:=decide (N.te a<N.te b)||(decide (N.te a=N.te b)&&(decide (a.length<b.length)||(decide (a.length=b.length)&&lexB a b)))
theorem Wn.lt_irrefl (N:Wn) (a:List Nat):N.lt a a=false:=by unfold Wn.lt;rw [nQ];simp
theorem Wn.lt_trans {N:Wn} {a b c:List Nat} (h1:N.lt a b=true) (h2:N.lt b c=true):N.lt a c=true:=by
 unfold Wn.lt at *
 simp only [Bool.or_eq_true,Bool.and_eq_true,decide_eq_true_eq] at *
 rcases h1 with h1 | ⟨h1,h1 | ⟨zR,Xo⟩⟩ <;> rcases h2 with h2 | ⟨h2,h2 | ⟨FH,Xm⟩⟩
 ·exact .inl (by omega)
 ·exact .inl (by omega)
 ·exact .inl (by omega)
 ·exact .inl (by omega)
 ·exact .inr ⟨by omega,.inl (by omega)⟩
 ·exact .inr ⟨by omega,.inl (by omega)⟩
 ·exact .inl (by omega)
 ·exact .inr ⟨by omega,.inl (by omega)⟩
 ·exact .inr ⟨by omega,.inr ⟨by omega,pK Xo Xm⟩⟩
theorem Wn.AY {N:Wn} {a b:List Nat} (h:a≠b):N.lt a b=true∨N.lt b a=true:=by
 unfold Wn.lt
 simp only [Bool.or_eq_true,Bool.and_eq_true,decide_eq_true_eq]
 rcases Nat.lt_trichotomy (N.te a) (N.te b) with h1 | h1 | h1
 ·exact .inl (.inl h1)
 ·rcases Nat.lt_trichotomy a.length b.length with h2 | h2 | h2
  ·exact .inl (.inr ⟨h1,.inl h2⟩)
  ·rcases pL h2 h with h3 | h3
   ·exact .inl (.inr ⟨h1,.inr ⟨h2,h3⟩⟩)
   ·exact .inr (.inr ⟨h1.symm,.inr ⟨h2.symm,h3⟩⟩)
  ·exact .inr (.inr ⟨h1.symm,.inl h2⟩)
 ·exact .inr (.inl h1)
theorem Wn.HG {N:Wn} {q p:List Nat} (h:q <+: p):q=p∨N.lt q p=true:=by
 obtain ⟨r,rfl⟩:=h
 cases r with
 | nil=>exact .inl (List.append_nil q).symm
 | cons x r =>
  refine .inr ?_
  unfold Wn.lt Wn.te
  simp only [Bool.or_eq_true,Bool.and_eq_true,decide_eq_true_eq]
  rw [List.countP_append,Zg,List.length_cons]
  by_cases h0:List.countP N.fe (x::r)=0
  ·exact .inr ⟨by omega,.inl (by omega)⟩
  ·exact .inl (by omega)
def Wn.least (N:Wn) (d:Int) (p:List Nat):Prop:=N.ok p∧N.fin p=d∧∀ q,N.ok q→N.fin q=d→N.lt q p=false
theorem Wn.CL {N:Wn} {d:Int} {p q:List Nat} (hp:N.least d p) (hq:N.least d q):p=q:=by
 by_cases h:p=q
 ·exact h
 ·rcases Wn.AY (N:=N) h with h | h
  ·rw [hq.2.2 p hp.1 hp.2.1] at h;cases h
  ·rw [hp.2.2 q hq.1 hq.2.1] at h;cases h
def Wn.all (N:Wn) (d:Int):Nat→List Nat→List (List Nat)
 | 0,_=>[]
 | k+1,p=>(if N.fin p=d then [p] else [])++((List.range N.n).filter (N.step p)).flatMap fun j=>N.all d k (p++[j])
theorem Wn.yU {N:Wn} {d:Int} {q:List Nat}:∀ {k:Nat} {p:List Nat},N.ok p→q∈N.all d k p→N.ok q∧N.fin q=d
 | 0,_,_,h=>by cases h
 | k + 1, p, ho, h => by
  rw [Wn.all,List.mem_append] at h
  rcases h with h | h
  ·split at h
   ·rw [List.mem_singleton] at h;subst h;exact ⟨ho,‹_›⟩
   ·cases h
  ·obtain ⟨j,hj,h⟩:=List.mem_flatMap.1 h
   exact Wn.yU (Wn.ki.2 ⟨ho,(List.mem_filter.1 hj).2⟩) h
theorem Wn.zD {N:Wn} {d:Int}:∀ {k:Nat} {p r:List Nat},N.ok (p++r)→N.fin (p++r)=d→r.length<k→p++r∈N.all d k p
 | 0,_,_,_,_,h=>absurd h (Nat.not_lt_zero _)
 | k + 1, p, [], ho, hf, _ => by
  rw [List.append_nil] at *
  rw [Wn.all,if_pos hf]
  simp
 | k + 1, p, j :: r, ho, hf, hk => by
  have e:p++j::r=(p++[j])++r:=by simp
  rw [e] at ho hf ⊢
  have h1:=Wn.yN ho (List.prefix_append (p++[j]) r)
  have h2:=(Wn.ki.1 h1).2
  rw [Wn.all,List.mem_append]
  refine .inr (List.mem_flatMap.2 ⟨j,List.mem_filter.2 ⟨List.mem_range.2 (Wn.oM h2),h2⟩,?_⟩)
  exact Wn.zD ho hf (by rw [List.length_cons] at hk;omega)
def Wn.Rs (N:Wn) (x:List Nat):List Nat:=(List.range N.n).filter (N.step x)
def Wn.exts (N:Wn) (x:List Nat):List (List Nat):=(N.Rs x).map fun j=>x++[j]
structure Wn.Inv (N:Wn) (d:Int) (Q:List (List Nat)):Prop where
 ok:∀ q∈Q,N.ok q∧q≠[]
 cover:∀ p,N.ok p→N.fin p=d→∃ q∈Q,q <+: p
theorem Wn.Fs {N:Wn} {d:Int} (h:N.xS≠d) {Q:List (List Nat)} (hQ:∀ q,q∈Q↔q∈N.exts []):N.Inv d Q:=by
 constructor
 ·intro q hq
  obtain ⟨j,hj,rfl⟩:=List.mem_map.1 ((hQ q).1 hq)
  exact ⟨Wn.ki.2 ⟨N.rG,(List.mem_filter.1 hj).2⟩,by simp⟩
 ·intro p hp hf
  cases p with
  | nil=>exact absurd hf h
  | cons j r =>
   have h1:N.ok ([]++[j]):=Wn.yN hp ⟨r,rfl⟩
   have h2:=(Wn.ki.1 h1).2
   exact ⟨[j],(hQ _).2 (List.mem_map.2 ⟨j,List.mem_filter.2 ⟨List.mem_range.2 (Wn.oM h2),h2⟩,rfl⟩),⟨r,rfl⟩⟩
theorem Wn.Fq {N:Wn} {d:Int} {Q:List (List Nat)} {x:List Nat} (h:N.Inv d Q) (hx:x∈Q) (hm:∀ q∈Q,N.lt q x=false) (hf:N.fin x=d):N.least d x:=by
 refine ⟨(h.ok x hx).1,hf,fun q hq hfq=>?_⟩
 obtain ⟨c,hc,hp⟩:=h.cover q hq hfq
 have h0:=hm c hc
 rcases Wn.HG (N:=N) hp with e | e
 ·rwa [← e]
 ·cases hb:N.lt q x with
  | false=>rfl
  | true=>rw [Wn.lt_trans e hb] at h0;exact h0
theorem Wn.HU {N:Wn} {d:Int} {Q R:List (List Nat)} {x:List Nat} (h:N.Inv d Q) (hQ:∀ q,q∈Q↔q=x∨q∈R) (hf:N.fin x≠d):N.Inv d (R++N.exts x):=by
 have hx:=h.ok x ((hQ x).2 (.inl rfl))
 constructor
 ·intro q hq
  rcases List.mem_append.1 hq with hq | hq
  ·exact h.ok q ((hQ q).2 (.inr hq))
  ·obtain ⟨j,hj,rfl⟩:=List.mem_map.1 hq
   exact ⟨Wn.ki.2 ⟨hx.1,(List.mem_filter.1 hj).2⟩,by simp⟩
 ·intro p hp FC
  obtain ⟨c,hc,r,rfl⟩:=h.cover p hp FC
  rcases (hQ c).1 hc with rfl | hc
  ·cases r with
   | nil=>rw [List.append_nil] at FC;exact absurd FC hf
   | cons j r =>
    have e:c++j::r=(c++[j])++r:=by simp
    rw [e] at hp ⊢
    have h2:=(Wn.ki.1 (Wn.yN hp (List.prefix_append (c++[j]) r))).2
    exact ⟨c++[j],List.mem_append.2 (.inr (List.mem_map.2 ⟨j,List.mem_filter.2 ⟨List.mem_range.2 (Wn.oM h2),h2⟩,rfl⟩)),⟨r,rfl⟩⟩
  ·exact ⟨c,List.mem_append.2 (.inl hc),⟨r,rfl⟩⟩
theorem Wn.HT {N:Wn} {d:Int} (h:N.Inv d []):∀ p,N.ok p→N.fin p≠d:=fun p hp hf=>by
 obtain ⟨q,hq,_⟩:=h.cover p hp hf
 cases hq
theorem kD:∀ (n:Nat) (l:List Nat),l.Nodup→(∀ x∈l,x<n)→l.length≤n
 | 0, l, _, h => by
  cases l with
  | nil=>exact Nat.le_refl _
  | cons x l=>exact absurd (h x (by simp)) (Nat.not_lt_zero _)
 | n + 1, l, hn, h => by
  have:=kD n (l.erase n) (hn.erase n) fun x hx=>by
   have h1:=h x (List.mem_of_mem_erase hx)
   have h2:=(List.Nodup.mem_erase_iff hn).1 hx
   omega
  by_cases hm:n∈l
  ·rw [List.length_erase_of_mem hm] at this;omega
  ·rw [List.erase_of_not_mem hm] at this;omega
theorem Wn.AR {N:Wn} {p:List Nat} (h:N.ok p):∀ x∈p,x<N.n:=by
 intro x hx
 obtain ⟨k,hk,rfl⟩:=List.getElem_of_mem hx
 exact Wn.oM (h k hk)
theorem Wn.uF {N:Wn} {p:List Nat} (h:N.ok p):p.length≤N.n:=kD _ _ (Wn.AQ h) (Wn.AR h)
theorem Wn.LP {N:Wn} {x:List Nat} (h:N.ok x):x.length+(N.Rs x).length≤N.n:=by
 rw [← Zg]
 refine kD _ _ ?_ ?_
 ·rw [List.nodup_append]
  refine ⟨Wn.AQ h,(List.nodup_range).filter _,?_⟩
  intro a ha b hb e
  subst e
  exact Wn.uk (List.mem_filter.1 hb).2 ha
 ·intro y hy
  rcases List.mem_append.1 hy with hy | hy
  ·exact Wn.AR h y hy
  ·exact List.mem_range.1 (List.mem_filter.1 hy).1
def pe:Nat→Nat
 | 0=>1
 | m+1=>1+(m+1)*pe m
theorem wF:∀ m,1≤pe m
 | 0=>Nat.le_refl _
 | m+1=>by rw [pe];omega
def Wn.wt (N:Wn):List (List Nat)→Nat
 | []=>0
 | q::Q=>pe (N.n-q.length)+N.wt Q
theorem Wn.wz (N:Wn):∀ A B,N.wt (A++B)=N.wt A+N.wt B
 | [],B=>by rw [Za,Wn.wt,Nat.zero_add]
 | q::A,B=>by rw [Zb,Wn.wt,Wn.wt,Wn.wz N A B,Nat.add_assoc]
theorem Wn.Dt {N:Wn} {A B:List (List Nat)} (h:A.Perm B):N.wt A=N.wt B:=by
 induction h with
 | nil=>rfl
 | cons x _ ih=>rw [Wn.wt,Wn.wt,ih]
 | swap x y l=>rw [Wn.wt,Wn.wt,Wn.wt,Wn.wt];omega
 | trans _ _ h1 h2=>rw [h1,h2]
theorem Wn.Gi (N:Wn):∀ Q:List (List Nat),Q.length≤N.wt Q
 | []=>Nat.le_refl _
 | q::Q=>by rw [Wn.wt,List.length_cons];have:=N.Gi Q;have:=wF (N.n-q.length);omega
theorem Wn.B5 (N:Wn) (x:List Nat):∀ l:List Nat,N.wt (l.map fun j=>x++[j])=l.length*pe (N.n-(x.length+1))
 | []=>by rw [Zf,Wn.wt,List.length_nil,Nat.zero_mul]
 | j :: l => by
  rw [List.map_cons,Wn.wt,N.B5 x l,Zg,show (j::l).length=l.length+1 from rfl,Nat.succ_mul]
  show pe (N.n-(x.length+1))+_=_
  omega
theorem Wn.KP {N:Wn} {x:List Nat} (h:N.ok x):N.wt (N.exts x)<pe (N.n-x.length):=by
 unfold Wn.exts
 rw [Wn.B5]
 have hf:=Wn.LP h
 by_cases h0:(N.Rs x).length=0
 ·rw [h0,Nat.zero_mul];exact wF _
 ·obtain ⟨m,hm⟩:∃ m,N.n-x.length=m+1:=⟨N.n-x.length-1,by omega⟩
  rw [hm,show N.n-(x.length+1)=m by omega,pe]
  have:=Nat.mul_le_mul_right (pe m) (show (N.Rs x).length≤m+1 by omega)
  omega
end Go.Proofs.A1
namespace Go.Proofs.A1
def bO (h:Bool) (e:Int):Int:=bif h then e else 0
theorem bH {h:Bool} {e:Int} (he:e≠0):bO h e=0↔h=false:=by cases h <;> simp [bO,he]
def fW (n l m:Int):Int:=bO (decide (n<l)||decide (m<n)) 3
theorem gY {n l m:Int}:fW n l m=0↔l≤n∧n≤m:=by
 unfold fW
 rw [bH (by decide)]
 simp
def aW:List Int→Int
 | []=>0
 | e::r=>if e≠0 then e else aW r
theorem bX:∀ {l:List Int},aW l=0↔∀ e∈l,e=0
 | []=>by simp [aW]
 | e :: r => by
  unfold aW
  by_cases h:e=0
  ·simp [h,bX (l:=r)]
  ·simp [h]
theorem rV {es:List Int} {k:Nat} (h:k<es.length):aW (es.drop k)=if es[k]≠0 then es[k] else aW (es.drop (k+1)):=by
 rw [List.drop_eq_getElem_cons h];rfl
def pR (f:Nat→Int):Nat→Nat→Int
 | _,0=>0
 | k,n+1=>if f k≠0 then f k else pR f (k+1) n
def iL (f:Nat→Int) (n:Nat):Int:=pR f 0 n
theorem xJ {f:Nat→Int}:∀ {n k:Nat},pR f k n=0↔∀ i,k≤i→i<k+n→f i=0
 | 0,k=>by simp only [pR,true_iff];intro i h1 h2;omega
 | n + 1, k => by
  unfold pR
  by_cases h:f k=0
  ·rw [if_neg (by simpa using h),xJ]
   constructor
   ·intro g i h1 h2
    by_cases e:i=k
    ·rw [e];exact h
    ·exact g i (by omega) (by omega)
   ·intro g i h1 h2;exact g i (by omega) (by omega)
  ·rw [if_pos h]
   constructor
   ·intro e;exact absurd e h
   ·intro g;exact absurd (g k (Nat.le_refl _) (by omega)) h
theorem dN {f:Nat→Int} {n:Nat}:iL f n=0↔∀ i,i<n→f i=0:=by
 unfold iL
 rw [xJ]
 constructor
 ·intro g i h;exact g i (Nat.zero_le _) (by omega)
 ·intro g i _ h;exact g i (by omega)
theorem vg {f:Nat→Int}:∀ {n k j:Nat},(∀ i,k≤i→i<j→f i=0)→k≤j→j<k+n→f j≠0→pR f k n=f j
 | 0,k,j,_,h1,h2,_=>by omega
 | n + 1, k, j, h, h1, h2, h3 => by
  unfold pR
  by_cases e:k=j
  ·subst e;rw [if_pos h3]
  ·rw [if_neg (by simpa using h k (Nat.le_refl _) (by omega))]
   exact vg (fun i h4 h5=>h i (by omega) h5) (by omega) (by omega) h3
theorem eP {f:Nat→Int} {n j:Nat} (h:∀ i,i<j→f i=0) (hj:j<n) (hn:f j≠0):iL f n=f j:=
 vg (fun i _ h2=>h i h2) (Nat.zero_le _) (by omega) hn
theorem C4 {f g:Nat→Int} {n:Nat} (h:∀ j,j<n→(∀ i,i<j→f i=0)→f j=g j):iL f n=iL g n:=by
 by_cases hf:∀ i,i<n→f i=0
 ·rw [dN.2 hf]
  symm
  refine dN.2 fun i hi=>?_
  rw [← h i hi fun k hk=>hf k (by omega)]
  exact hf i hi
 ·have:∃ j,j<n∧f j≠0∧∀ i,i<j→f i=0:=by
   apply Classical.byContradiction
   intro hc
   apply hf
   intro i
   induction i using Nat.strongRecOn with
   | _ i ih =>
    intro hi
    apply Classical.byContradiction
    intro hne
    exact hc ⟨i,hi,hne,fun k hk=>ih k hk (by omega)⟩
  obtain ⟨j,hj,hne,hb⟩:=this
  rw [eP hb hj hne,h j hj hb]
  symm
  have he:=h j hj hb
  refine eP (fun i hi=>?_) hj (by rw [← he];exact hne)
  rw [← h i (by omega) fun k hk=>hb k (by omega)]
  exact hb i hi
def bt (s:ByteArray) (i:Nat):Int:=((s.data.toList[i]?.getD 0).toNat:Nat)
def Fo (c:Int):Bool:=(decide (65≤c)&&decide (c≤90))||(decide (97≤c)&&decide (c≤122))
def SB (c:Int):Bool:=decide (48≤c)&&decide (c≤57)
def okB (c:Int):Bool:=Fo c||SB c||decide (c=95)
def okF (s:ByteArray) (k:Nat):Bool:=(List.range' k (s.size-k)).all fun i=>okB (bt s i)
theorem yO {s:ByteArray} {k:Nat} (h:k<s.size):okF s k=(okB (bt s k)&&okF s (k+1)):=by
 unfold okF
 rw [show s.size-k=(s.size-(k+1))+1 by omega,List.range'_succ]
 rfl
theorem D3 {s:ByteArray} {k:Nat} (h:s.size≤k):okF s k=true:=by
 unfold okF
 rw [show s.size-k=0 by omega];rfl
def jO (s:ByteArray):Bool:=decide (0<s.size)&&decide (s.size≤24)&&Fo (bt s 0)&&okF s 1
def ZU (s:ByteArray):Int:=bO (!jO s) 8
end Go.Proofs.A1
namespace Go.Proofs.A1
open Go Go.SL
structure Sr where
 nm:ByteArray
 mx:Int
 deriving DecidableEq
structure De where
 nm:ByteArray
 mx:Int
 pr:Bool
 deriving DecidableEq
structure Ti where
 nm:ByteArray
 fr:Int
 to:Int
 deriving DecidableEq
structure Po where
 lv:Int
 ou:ByteArray
 ip:ByteArray
 deriving DecidableEq
structure Ro where
 lv:Int
 ma:Int
 sr:List Sr
 de:List De
 ti:List Ti
 po:List Po
 deriving DecidableEq
def Dj (v:Int) (o:ByteArray) (p:Po):Bool:=decide (p.lv=v)&&decide (p.ou=o)
def y6 (v:Int) (i:ByteArray) (p:Po):Bool:=decide (p.lv=v)&&decide (p.ip=i)
def ee (po:List Po) (v:Int) (o:ByteArray):Option ByteArray:=(po.find? (Dj v o)).map Po.ip
def nj (po:List Po) (v:Int) (i:ByteArray):Bool:=po.any (y6 v i)
def fV (po:List Po) (v:Int) (o:ByteArray):Bool:=(ee po v o).isSome
def eQ (po:List Po) (v:Int):Nat→ByteArray→List ByteArray
 | 0,_=>[]
 | k + 1, o => match ee po v o with
  | none=>[]
  | some i=>i::eQ po v k i
theorem vo {po:List Po} {v:Int} {o:ByteArray} (h:ee po v o=none):∀ k,eQ po v k o=[]
 | 0=>rfl
 | k+1=>by rw [eQ,h]
theorem mi {po:List Po} {v:Int} {o i:ByteArray} (h:ee po v o=some i) (k:Nat):eQ po v (k+1) o=i::eQ po v k i:=by rw [eQ,h]
theorem jK (po:List Po) (v:Int):∀ k o,(eQ po v k o).length≤k
 | 0,_=>Nat.le_refl _
 | k + 1, o => by
  rw [eQ]
  split
  ·exact Zi _
  ·rw [List.length_cons];have:=jK po v k ‹_›;omega
theorem BF {po:List Po} {v:Int}:∀ {k:Nat} {o:ByteArray},(eQ po v k o).length<k→∀ m,k≤m→eQ po v m o=eQ po v k o
 | 0,_,h,_,_=>absurd h (Nat.not_lt_zero _)
 | k + 1, o, h, m, hm => by
  obtain ⟨m,rfl⟩:∃ j,m=j+1:=⟨m-1,by omega⟩
  rw [eQ,eQ]
  cases hi:ee po v o with
  | none=>rfl
  | some i =>
   rw [eQ,hi,List.length_cons] at h
   show i::_=i::_
   rw [BF (k:=k) (by omega) m (by omega)]
theorem BE {po:List Po} {v:Int}:∀ {k m:Nat} {o:ByteArray},k≤m→(eQ po v m o).take k=eQ po v k o
 | 0,_,_,_=>by rw [Ze];rfl
 | k + 1, m, o, h => by
  obtain ⟨m,rfl⟩:∃ j,m=j+1:=⟨m-1,by omega⟩
  rw [eQ,eQ]
  cases ee po v o with
  | none=>rfl
  | some i =>
   show (i::eQ po v m i).take (k+1)=i::eQ po v k i
   rw [List.take_succ_cons,BE (by omega)]
def lS (po:List Po) (v:Int):Nat→ByteArray→Option ByteArray
 | 0,o=>some o
 | k+1,o=>(ee po v o).bind (lS po v k)
theorem jI {po:List Po} {v:Int}:∀ {a b:Nat} {o:ByteArray},lS po v (a+b) o=(lS po v a o).bind (lS po v b)
 | 0,b,o=>by rw [Nat.zero_add];rfl
 | a + 1, b, o => by
  rw [show a+1+b=(a+b)+1 by omega,lS,lS]
  cases ee po v o with
  | none=>rfl
  | some i=>exact jI
theorem gR {po:List Po} {v:Int} {a b:Nat} {o:ByteArray} (h:a≤b) (hb:(lS po v b o).isSome=true):(lS po v a o).isSome=true:=by
 obtain ⟨c,rfl⟩:∃ c,b=a+c:=⟨b-a,by omega⟩
 rw [jI] at hb
 cases h1:lS po v a o with
 | none=>rw [h1] at hb;cases hb
 | some x=>rfl
theorem mU {po:List Po} {v:Int}:∀ {k:Nat} {o:ByteArray} {j:Nat},j<k→(eQ po v k o)[j]? = lS po v (j+1) o
 | 0,_,_,h=>absurd h (Nat.not_lt_zero _)
 | k + 1, o, j, h => by
  rw [eQ,lS]
  cases ee po v o with
  | none=>rfl
  | some i =>
   cases j with
   | zero=>rfl
   | succ j =>
    show (i::eQ po v k i)[j+1]? = lS po v (j+1) i
    rw [List.getElem?_cons_succ,mU (by omega)]
theorem pW {po:List Po} {v:Int} {k:Nat} {o:ByteArray}:(eQ po v k o).length=k↔(lS po v k o).isSome=true:=by
 cases k with
 | zero=>exact ⟨fun _=>rfl,fun _=>rfl⟩
 | succ k =>
  rw [← mU (Nat.lt_add_one k)]
  have:=jK po v (k+1) o
  constructor
  ·intro h;rw [Zc (by omega)];rfl
  ·intro h
   apply Classical.byContradiction
   intro hn
   rw [List.getElem?_eq_none (by omega)] at h
   cases h
theorem tH {po:List Po} {v:Int} {k:Nat} {o x:ByteArray}:x∈eQ po v k o↔∃ j,j<k∧lS po v (j+1) o=some x:=by
 constructor
 ·intro h
  obtain ⟨j,hj,e⟩:=List.getElem_of_mem h
  have hk:=jK po v k o
  refine ⟨j,by omega,?_⟩
  rw [← mU (by omega:j<k),Zc hj,e]
 ·rintro ⟨j,hj,e⟩
  rw [← mU hj] at e
  exact List.mem_of_getElem? e
theorem xr {α:Type} [DecidableEq α]:∀ {X T:List α},X.Nodup→(∀ x∈X,x∈T)→X.length≤T.length
 | [],_,_,_=>Zi _
 | x :: X, T, hn, h => by
  have hx:=h x (by simp)
  rw [List.nodup_cons] at hn
  have:=xr (X:=X) (T:=T.erase x) hn.2 fun y hy=>(List.mem_erase_of_ne (a:=y) (b:=x) (fun e=>by rw [e] at hy;exact hn.1 hy)).2 (h y (List.mem_cons_of_mem _ hy))
  rw [List.length_erase_of_mem hx] at this
  have:=List.length_pos_of_mem hx
  rw [List.length_cons];omega
theorem Fi {α:Type} [DecidableEq α] {X:List α} (h:¬ X.Nodup):∃ i j,∃ (hi:i<X.length) (hj:j<X.length),i<j∧X[i]=X[j]:=by
 apply Classical.byContradiction
 intro hn
 apply h
 rw [List.nodup_iff_pairwise_ne,List.pairwise_iff_getElem]
 intro i j hi hj xE e
 exact hn ⟨i,j,hi,hj,xE,e⟩
theorem IS {po:List Po} {v:Int} {T:List ByteArray} (hT:∀ o i,ee po v o=some i→(ee po v i).isSome=true→i∈T) {o:ByteArray} (ho:(lS po v (T.length+2) o).isSome=true∨o∈T∧(lS po v (T.length+1) o).isSome=true):∃ t∈T,t∈eQ po v (T.length+1) t:=by
 obtain ⟨s,hs,dU⟩:∃ s,(lS po v (s+T.length+1) o).isSome=true∧∀ k,k≤T.length→∃ x,lS po v (s+k) o=some x∧x∈T:=by
  rcases ho with ho | ⟨hoT,ho⟩
  ·refine ⟨1,by rw [show 1+T.length+1=T.length+2 by omega];exact ho,fun k hk=>?_⟩
   have h0:=gR (a:=k) (by omega) ho
   have h1:=gR (a:=1+k) (by omega) ho
   have h2:=gR (a:=1+k+1) (by omega) ho
   obtain ⟨y,hy⟩:=Option.isSome_iff_exists.1 h0
   obtain ⟨x,hx⟩:=Option.isSome_iff_exists.1 h1
   refine ⟨x,hx,hT y x ?_ ?_⟩
   ·rw [show 1+k=k+1 by omega,jI,hy] at hx
    simpa [lS] using hx
   ·rw [jI,hx] at h2
    simpa [lS] using h2
  ·refine ⟨0,by rw [Nat.zero_add];exact ho,fun k hk=>?_⟩
   rw [Nat.zero_add]
   cases k with
   | zero=>exact ⟨o,rfl,hoT⟩
   | succ k =>
    have h0:=gR (a:=k) (by omega) ho
    have h1:=gR (a:=k+1) (by omega) ho
    have h2:=gR (a:=k+1+1) (by omega) ho
    obtain ⟨y,hy⟩:=Option.isSome_iff_exists.1 h0
    obtain ⟨x,hx⟩:=Option.isSome_iff_exists.1 h1
    refine ⟨x,hx,hT y x ?_ ?_⟩
    ·rw [jI,hy] at hx
     simpa [lS] using hx
    ·rw [jI,hx] at h2
     simpa [lS] using h2
 let X:=(List.range (T.length+1)).map fun k=>(lS po v (s+k) o).getD ⟨#[]⟩
 have hXl:X.length=T.length+1:=by simp [X]
 have hX:∀ k (h:k<X.length),lS po v (s+k) o=some X[k]:=fun k h=>by
  obtain ⟨x,hx,_⟩:=dU k (by omega)
  simp [X,hx]
 have hn:¬ X.Nodup:=fun hn=>by
  have:=xr (T:=T) hn fun x hx=>by
   obtain ⟨k,hk,rfl⟩:=List.getElem_of_mem hx
   obtain ⟨y,hy,VH⟩:=dU k (by omega)
   rw [hX k hk] at hy
   cases hy
   exact VH
  omega
 obtain ⟨i,j,hi,hj,xE,e⟩:=Fi hn
 have h1:=hX i hi
 have h2:=hX j hj
 obtain ⟨y,hy,VH⟩:=dU i (by omega)
 rw [h1] at hy
 cases hy
 refine ⟨X[i],VH,tH.2 ⟨j-i-1,by omega,?_⟩⟩
 rw [show s+j=(s+i)+(j-i-1+1) by omega,jI,h1] at h2
 rw [e]
 rw [e] at h2
 exact h2
theorem M3 {po:List Po} {v:Int} {m:Nat} {t:ByteArray} (h:t∈eQ po v m t):∀ k,(lS po v k t).isSome=true:=by
 obtain ⟨j,_,hj⟩:=tH.1 h
 have key:∀ n,lS po v (n*(j+1)) t=some t:=fun n=>by
  induction n with
  | zero=>rw [Nat.zero_mul];rfl
  | succ n ih=>rw [Nat.succ_mul,jI,ih];exact hj
 intro k
 refine gR (b:=k*(j+1)) (Nat.le_mul_of_pos_right _ (by omega)) ?_
 rw [key];rfl
theorem IQ {po:List Po} {v:Int} {T:List ByteArray} (hT:∀ o i,ee po v o=some i→(ee po v i).isSome=true→i∈T) (h6:T.length≤6):(∃ t∈T,t∈eQ po v (T.length+1) t)↔∃ t∈T,(eQ po v 7 t).length=7:=by
 constructor
 ·rintro ⟨t,ht,h⟩
  exact ⟨t,ht,pW.2 (M3 h 7)⟩
 ·rintro ⟨t,ht,h⟩
  exact IS hT (.inr ⟨ht,gR (b:=7) (by omega) (pW.1 h)⟩)
theorem oV {po:List Po} {v:Int} {T:List ByteArray} (hT:∀ o i,ee po v o=some i→(ee po v i).isSome=true→i∈T) (hc:¬ ∃ t∈T,t∈eQ po v (T.length+1) t) (o:ByteArray) {m:Nat} (hm:T.length+1≤m):eQ po v m o=eQ po v (T.length+1) o:=by
 have h2:(eQ po v (T.length+2) o).length<T.length+2:=by
  have h0:=jK po v (T.length+2) o
  rcases Nat.lt_or_ge (eQ po v (T.length+2) o).length (T.length+2) with h | h
  ·exact h
  ·exact absurd (IS hT (.inl (pW.1 (show (eQ po v (T.length+2) o).length=T.length+2 by omega)))) hc
 have h3:eQ po v (T.length+1) o=eQ po v (T.length+2) o:=by
  rw [← BE (o:=o) (by omega:T.length+1≤T.length+2),List.take_of_length_le (by omega)]
 rcases Nat.lt_or_ge m (T.length+2) with h | h
 ·rw [show m=T.length+1 by omega]
 ·rw [BF h2 m h,h3]
def bu:List ByteArray→ByteArray→Int
 | [],_=>-1
 | x::l,s=>if x=s then 0 else if bu l s<0 then -1 else bu l s+1
theorem ID (l:List ByteArray) (s:ByteArray):-1≤bu l s:=by
 induction l with
 | nil=>exact Int.le_refl _
 | cons x l ih =>
  rw [bu]
  split
  ·omega
  ·split <;> omega
theorem cj {l:List ByteArray} {s:ByteArray}:bu l s<0↔s ∉ l:=by
 induction l with
 | nil=>simp [bu]
 | cons x l ih =>
  rw [bu,List.mem_cons,not_or]
  by_cases e:x=s
  ·rw [if_pos e];constructor
   ·intro h;omega
   ·intro h;exact absurd e.symm h.1
  ·rw [if_neg e]
   by_cases h:bu l s<0
   ·rw [if_pos h];exact ⟨fun _=>⟨fun q=>e q.symm,ih.1 h⟩,fun _=>by omega⟩
   ·rw [if_neg h];exact ⟨fun q=>by have:=ID l s;omega,fun q=>absurd (ih.2 q.2) h⟩
theorem pQ:∀ {l:List ByteArray} {s:ByteArray} {i:Nat} (h:i<l.length),l[i]=s→(∀ j (hj:j<i),l[j]'(by omega)≠s)→bu l s=(i:Nat)
 | x::l,s,0,_,e,_=>by rw [bu,if_pos (show x=s from e)];rfl
 | x :: l, s, i + 1, h, e, hb => by
  have h0:x≠s:=hb 0 (by omega)
  have ih:=pQ (l:=l) (s:=s) (i:=i) (by rw [List.length_cons] at h;omega) e fun j hj=>hb (j+1) (by omega)
  rw [bu,if_neg h0,ih,if_neg (by omega)];omega
theorem zl {l:List ByteArray} {s:ByteArray} (h:∀ j (hj:j<l.length),l[j]≠s):bu l s = -1:=by
 have h1:=ID l s
 have h2:bu l s<0:=cj.2 fun hm=>by
  obtain ⟨j,hj,e⟩:=List.getElem_of_mem hm
  exact h j hj e
 omega
theorem er {l:List ByteArray} {s:ByteArray} (h:0≤bu l s):∃ hl:(bu l s).toNat<l.length,l[(bu l s).toNat]=s:=by
 induction l with
 | nil=>simp [bu] at h
 | cons x l ih =>
  by_cases e:x=s
  ·have:bu (x::l) s=0:=by rw [bu,if_pos e]
   rw [this]
   exact ⟨Nat.zero_lt_succ _,e⟩
  ·by_cases h0:bu l s<0
   ·rw [bu,if_neg e,if_pos h0] at h;omega
   ·obtain ⟨hl,hg⟩:=ih (by omega)
    have:bu (x::l) s=bu l s+1:=by rw [bu,if_neg e,if_neg h0]
    have e1:(bu (x::l) s).toNat=(bu l s).toNat+1:=by rw [this];omega
    have key:∀ n,n=(bu l s).toNat+1→∃ hl:n<(x::l).length,(x::l)[n]=s:=fun n hn=>by
     subst hn
     exact ⟨by rw [List.length_cons];omega,hg⟩
    exact key _ e1
def cm (r:Ro):List ByteArray:=r.sr.map Sr.nm
def ct (r:Ro):List ByteArray:=r.de.map De.nm
def cQ (r:Ro):List ByteArray:=r.ti.map Ti.nm
def dZ (r:Ro):List ByteArray:=cm r++ct r++cQ r
def dS (r:Ro) (s:ByteArray):Int:=if 0≤bu (ct r) s then bu (ct r) s else if 0≤bu (cQ r) s then (r.de.length:Nat)+bu (cQ r) s else -1
def ka (r:Ro) (s:ByteArray):Int:=if 0≤bu (ct r) s then (r.de.getD (bu (ct r) s).toNat ⟨⟨#[]⟩,0,false⟩).mx else if 0≤bu (cQ r) s then (r.ti.getD (bu (cQ r) s).toNat ⟨⟨#[]⟩,0,0⟩).fr else -1
def jz (r:Ro) (s:ByteArray):Int:=if 0≤bu (cm r) s then (r.sr.getD (bu (cm r) s).toNat ⟨⟨#[]⟩,0⟩).mx else if 0≤bu (cQ r) s then (r.ti.getD (bu (cQ r) s).toNat ⟨⟨#[]⟩,0,0⟩).to else -1
theorem Hq {r:Ro} {s:ByteArray}:dS r s<0↔s ∉ ct r∧s ∉ cQ r:=by
 unfold dS
 by_cases h1:bu (ct r) s<0
 ·rw [if_neg (by omega)]
  by_cases h2:bu (cQ r) s<0
  ·rw [if_neg (by omega)];exact ⟨fun _=>⟨cj.1 h1,cj.1 h2⟩,fun _=>by omega⟩
  ·rw [if_pos (by omega)];exact ⟨fun h=>by omega,fun h=>absurd (cj.2 h.2) h2⟩
 ·rw [if_pos (by omega)];exact ⟨fun h=>absurd h h1,fun h=>absurd (cj.2 h.1) h1⟩
def se (po:List Po):Prop:=∀ p∈po,∀ q∈po,p.lv=q.lv→p.ou=q.ou→p=q
theorem se.filter {po:List Po} (h:se po) (f:Po→Bool):se (po.filter f):=fun p hp q hq=>h p (List.mem_filter.1 hp).1 q (List.mem_filter.1 hq).1
theorem fa {po:List Po} {v:Int} {o i:ByteArray} (h:ee po v o=some i):∃ p∈po,p.lv=v∧p.ou=o∧p.ip=i:=by
 unfold ee at h
 obtain ⟨p,hp,e⟩:=Option.map_eq_some_iff.1 h
 have h1:=List.find?_some hp
 unfold Dj at h1
 rw [Bool.and_eq_true,decide_eq_true_eq,decide_eq_true_eq] at h1
 exact ⟨p,List.mem_of_find?_eq_some hp,h1.1,h1.2,e⟩
theorem mN {po:List Po} (h1:se po) {p:Po} (hp:p∈po):ee po p.lv p.ou=some p.ip:=by
 cases h:po.find? (Dj p.lv p.ou) with
 | none =>
  have:=List.find?_eq_none.1 h p hp
  unfold Dj at this
  simp at this
 | some q =>
  have hq:=List.find?_some h
  unfold Dj at hq
  rw [Bool.and_eq_true,decide_eq_true_eq,decide_eq_true_eq] at hq
  have:=h1 q (List.mem_of_find?_eq_some h) p hp hq.1 hq.2
  unfold ee
  rw [h,this];rfl
theorem gT {po:List Po} {v:Int} {o:ByteArray}:ee po v o=none↔∀ p∈po,¬(p.lv=v∧p.ou=o):=by
 unfold ee
 rw [Option.map_eq_none_iff,List.find?_eq_none]
 constructor
 ·intro h p hp hq
  have:=h p hp
  unfold Dj at this
  rw [hq.1,hq.2] at this
  simp at this
 ·intro h p hp
  unfold Dj
  rw [Bool.and_eq_true,decide_eq_true_eq,decide_eq_true_eq]
  exact h p hp
theorem Mh {po qo:List Po} (h1:se po) (hs:∀ p∈qo,p∈po) {v:Int} {o i:ByteArray} (h:ee qo v o=some i):ee po v o=some i:=by
 obtain ⟨p,hp,rfl,rfl,rfl⟩:=fa h
 exact mN h1 (hs p hp)
inductive Nd (po:List Po) (D:List ByteArray):Po→Prop
 | de {p:Po}:p∈po→p.ou∈D→Nd po D p
 | up {p q:Po}:p∈po→q.lv=p.lv→q.ip=p.ou→Nd po D q→Nd po D p
theorem NN {po S:List Po} {D:List ByteArray} (h1:se po) (hS:∀ p∈S,p∈po) (hu:∀ p∈S,p.ou∈D∨∃ q∈S,q.lv=p.lv∧q.ip=p.ou) {N:Nat} (hN:∀ v o m,N≤m→eQ po v m o=eQ po v N o) :
  ∀ n p,p∈S→N-(eQ po p.lv N p.ou).length≤n→Nd po D p
 | n, p, hp, hn => by
  rcases hu p hp with hd | ⟨q,hq,hv,hi⟩
  ·exact .de (hS p hp) hd
  ·have mw:=mN h1 (hS q hq)
   rw [hv,hi] at mw
   have hc:eQ po p.lv (N+1) q.ou=p.ou::eQ po p.lv N p.ou:=mi mw N
   have hl:(eQ po q.lv N q.ou).length=(eQ po p.lv N p.ou).length+1:=by
    rw [hv,← hN p.lv q.ou (N+1) (by omega),hc,List.length_cons]
   have hle:=jK po q.lv N q.ou
   cases n with
   | zero=>omega
   | succ n=>exact .up (hS p hp) hv hi (NN h1 hS hu hN n q hq (by omega))
theorem Sv {po S:List Po} {D:List ByteArray} (hk:∀ p∈po,p.ou∈D→p∈S) (eC:∀ p∈po,∀ q∈S,q.lv=p.lv→q.ip=p.ou→p∈S) {p:Po} (h:Nd po D p):p∈S:=by
 induction h with
 | de hp hd=>exact hk _ hp hd
 | up hp hv hi _ ih=>exact eC _ hp _ ih hv hi
theorem LS {po:List Po} {D:List ByteArray} (h1:se po) {N:Nat} (hN:∀ v o m,N≤m→eQ po v m o=eQ po v N o) {f g:Po→Bool}
  (Qv:∀ p∈po,p.ou∈D→f p=true) (F9:∀ p∈po,∀ q∈po,f q=true→q.lv=p.lv→q.ip=p.ou→f p=true) (WU:∀ p∈po,f p=true→p.ou∈D∨∃ q∈po,f q=true∧q.lv=p.lv∧q.ip=p.ou)
  (WO:∀ p∈po,p.ou∈D→g p=true) (WN:∀ p∈po,∀ q∈po,g q=true→q.lv=p.lv→q.ip=p.ou→g p=true) (US:∀ p∈po,g p=true→p.ou∈D∨∃ q∈po,g q=true∧q.lv=p.lv∧q.ip=p.ou):po.filter f=po.filter g:=by
 have key:∀ (f:Po→Bool),(∀ p∈po,p.ou∈D→f p=true)→(∀ p∈po,∀ q∈po,f q=true→q.lv=p.lv→q.ip=p.ou→f p=true)→(∀ p∈po,f p=true→p.ou∈D∨∃ q∈po,f q=true∧q.lv=p.lv∧q.ip=p.ou)→∀ p∈po,(f p=true↔Nd po D p):=by
  intro f h2 h3 h4 p hp
  constructor
  ·intro hf
   refine NN (S:=po.filter f) h1 (fun q hq=>(List.mem_filter.1 hq).1) (fun q hq=>?_) hN _ p (List.mem_filter.2 ⟨hp,hf⟩) (Nat.le_refl _)
   obtain ⟨Ms,xB⟩:=List.mem_filter.1 hq
   rcases h4 q Ms xB with h | ⟨x,hx,UG,SE⟩
   ·exact .inl h
   ·exact .inr ⟨x,List.mem_filter.2 ⟨hx,UG⟩,SE⟩
  ·intro hn
   have:=Sv (S:=po.filter f) (fun q hq hd=>List.mem_filter.2 ⟨hq,h2 q hq hd⟩) (fun q hq x hx hv hi=>List.mem_filter.2 ⟨hq,h3 q hq x (List.mem_filter.1 hx).1 (List.mem_filter.1 hx).2 hv hi⟩) hn
   exact (List.mem_filter.1 this).2
 refine List.filter_congr fun p hp=>?_
 rw [Bool.eq_iff_iff,key f Qv F9 WU p hp,key g WO WN US p hp]
theorem nE {α:Type} {R:α→α→Prop} (has:∀ a b,R a b→¬ R b a):∀ {A B:List α},A.Pairwise R→B.Pairwise R→A.Perm B→A=B
 | [],B,_,_,h=>(List.nil_perm.1 h).symm
 | a::A,[],_,_,h=>absurd h (by intro h;have:=h.length_eq;cases this)
 | a :: A, b :: B, hA, hB, h => by
  rw [List.pairwise_cons] at hA hB
  have RI:a=b:=by
   apply Classical.byContradiction
   intro hne
   have h1:a∈b::B:=h.mem_iff.1 (by simp)
   have h2:b∈a::A:=h.mem_iff.2 (by simp)
   have h1:a∈B:=(List.mem_cons.1 h1).resolve_left hne
   have h2:b∈A:=(List.mem_cons.1 h2).resolve_left fun e=>hne e.symm
   exact has _ _ (hA.1 b h2) (hB.1 a h1)
  subst RI
  rw [nE has hA.2 hB.2 (List.Perm.cons_inv h)]
def pj (r:Ro) (p q:Po):Bool:=decide (p.lv<q.lv)||(decide (p.lv=q.lv)&&decide (dS r p.ou<dS r q.ou))
theorem Fk {r:Ro} (p q:Po) (h:pj r p q=true):¬ pj r q p=true:=by
 unfold pj at *
 simp only [Bool.or_eq_true,Bool.and_eq_true,decide_eq_true_eq] at *
 omega
theorem xw {r:Ro} {p q s:Po} (h1:pj r p q=true) (h2:pj r q s=true):pj r p s=true:=by
 unfold pj at *
 simp only [Bool.or_eq_true,Bool.and_eq_true,decide_eq_true_eq] at *
 omega
theorem Fj {r:Ro} {p q:Po} (h:¬(p.lv=q.lv∧dS r p.ou=dS r q.ou)):pj r p q=true∨pj r q p=true:=by
 unfold pj
 simp only [Bool.or_eq_true,Bool.and_eq_true,decide_eq_true_eq]
 omega
def iC (r:Ro) (p:Po):List Po→List Po
 | []=>[p]
 | b::l=>if pj r p b then p::b::l else b::iC r p l
theorem oR (r:Ro) (p:Po):∀ l,(iC r p l).Perm (p::l)
 | []=>List.Perm.refl _
 | b :: l => by
  rw [iC]
  split
  ·exact List.Perm.refl _
  ·exact ((oR r p l).cons b).trans (List.Perm.swap p b l)
theorem gS {r:Ro} {p q:Po} {l:List Po}:q∈iC r p l↔q=p∨q∈l:=by rw [(oR r p l).mem_iff,List.mem_cons]
theorem sE {r:Ro} {p:Po}:∀ {l:List Po},l.Pairwise (fun a b=>pj r a b=true)→(∀ q∈l,¬(p.lv=q.lv∧dS r p.ou=dS r q.ou))→(iC r p l).Pairwise (fun a b=>pj r a b=true)
 | [],_,_=>by rw [iC];exact List.pairwise_singleton _ _
 | b :: l, h, hn => by
  rw [List.pairwise_cons] at h
  rw [iC]
  split
  ·rename_i hb
   rw [List.pairwise_cons,List.pairwise_cons]
   refine ⟨fun q hq=>?_,h.1,h.2⟩
   rcases List.mem_cons.1 hq with rfl | hq
   ·exact hb
   ·exact xw hb (h.1 q hq)
  ·rename_i hb
   rw [List.pairwise_cons]
   refine ⟨fun q hq=>?_,sE h.2 fun q hq=>hn q (List.mem_cons_of_mem _ hq)⟩
   rcases gS.1 hq with rfl | hq
   ·rcases Fj (hn b (by simp)) with e | e
    ·exact absurd e hb
    ·exact e
   ·exact h.1 q hq
structure pA (r:Ro):Prop where
 sd:∀ s∈cm r,s ∉ ct r
 st:∀ s∈cm r,s ∉ cQ r
 dt:∀ s∈ct r,s ∉ cQ r
 R3:(cQ r).length≤6
structure iR (r:Ro) (po:List Po):Prop where
 qv:po.Pairwise (fun a b=>pj r a b=true)
 KA:∀ p∈po,0≤p.lv∧p.lv<r.lv
 out:∀ p∈po,p.ou∈ct r∨p.ou∈cQ r
 v8:∀ p∈po,p.ip∈cm r∨p.ip∈cQ r
 NQ:∀ p∈po,ka r p.ou=jz r p.ip
 C7:∀ v,¬ ∃ t∈cQ r,t∈eQ po v ((cQ r).length+1) t
 use:∀ v t,t∈cQ r→(nj po v t=true↔fV po v t=true)
theorem iR.one {r:Ro} {po:List Po} (h:po.Pairwise (fun a b=>pj r a b=true)):se po:=by
 intro p hp q hq hv ho
 apply Classical.byContradiction
 intro hne
 obtain ⟨i,hi,rfl⟩:=List.getElem_of_mem hp
 obtain ⟨j,hj,rfl⟩:=List.getElem_of_mem hq
 rw [List.pairwise_iff_getElem] at h
 rcases Nat.lt_trichotomy i j with e | e | e
 ·have:=h i j hi hj e
  unfold pj at this
  simp only [Bool.or_eq_true,Bool.and_eq_true,decide_eq_true_eq] at this
  rw [ho] at this
  omega
 ·subst e;exact hne rfl
 ·have:=h j i hj hi e
  unfold pj at this
  simp only [Bool.or_eq_true,Bool.and_eq_true,decide_eq_true_eq] at this
  rw [ho] at this
  omega
theorem iR.tie {r:Ro} {po:List Po} (hn:pA r) (h2:∀ p∈po,p.ou∈ct r∨p.ou∈cQ r) (h3:∀ p∈po,p.ip∈cm r∨p.ip∈cQ r) {v:Int}:∀ o i,ee po v o=some i→(ee po v i).isSome=true→i∈cQ r:=by
 intro o i h hi
 obtain ⟨p,hp,_,_,rfl⟩:=fa h
 rcases h3 p hp with hs | ht
 ·obtain ⟨j,hj⟩:=Option.isSome_iff_exists.1 hi
  obtain ⟨q,hq,_,N2,_⟩:=fa hj
  rcases h2 q hq with hd | hd
  ·exact absurd (N2 ▸ hd) (hn.sd _ hs)
  ·exact absurd (N2 ▸ hd) (hn.st _ hs)
 ·exact ht
def gD (po:List Po) (v:Int) (k:Nat) (o:ByteArray):ByteArray:=((eQ po v k o).getLast?).getD o
def qk (po:List Po) (v:Int) (S:List ByteArray) (o:ByteArray):ByteArray:=if bu S (gD po v 7 o)<0 then ⟨#[]⟩ else gD po v 7 o
theorem xL {po:List Po} {v:Int} {k:Nat} {o i:ByteArray} (h:ee po v o=some i):gD po v (k+1) o=gD po v k i:=by
 unfold gD
 rw [mi h,List.getLast?_cons]
 rfl
theorem rX {po:List Po} {v:Int} {k:Nat} {o:ByteArray} (h:ee po v o=none):gD po v k o=o:=by
 unfold gD
 rw [vo h];rfl
theorem FL {r:Ro} {po:List Po} (hn:pA r) (h:iR r po) (v:Int) (o:ByteArray):gD po v ((cQ r).length+1) o=gD po v 7 o:=by
 have:=hn.R3
 unfold gD
 rw [oV (T:=cQ r) (iR.tie hn h.out h.v8) (h.C7 v) o (m:=7) (by omega)]
theorem Ng {r:Ro} {po:List Po} (hn:pA r) (h:iR r po) {v:Int}:∀ (k:Nat) (o:ByteArray),(eQ po v 7 o).length≤k→(ee po v o).isSome=true→gD po v 7 o∈cm r:=by
 have h6:=hn.R3
 have hs:=fun o m hm=>oV (T:=cQ r) (iR.tie hn h.out h.v8) (h.C7 v) o (m:=m) hm
 intro k
 induction k with
 | zero =>
  intro o hk ho
  obtain ⟨i,hi⟩:=Option.isSome_iff_exists.1 ho
  rw [mi hi,List.length_cons] at hk
  omega
 | succ k ih =>
  intro o hk ho
  obtain ⟨i,hi⟩:=Option.isSome_iff_exists.1 ho
  have e1:gD po v 7 o=gD po v 7 i:=by
   have:gD po v 8 o=gD po v 7 i:=xL hi
   unfold gD at this ⊢
   rw [hs o 8 (by omega)] at this
   rw [hs o 7 (by omega)]
   exact this
  rw [e1]
  cases F8:ee po v i with
  | none =>
   rw [rX F8]
   obtain ⟨p,hp,KC,_,rfl⟩:=fa hi
   rcases h.v8 p hp with hS | hT
   ·exact hS
   ·have hu:nj po v p.ip=true:=by
     unfold nj
     rw [List.any_eq_true]
     exact ⟨p,hp,by unfold y6;rw [KC];simp⟩
    have:=(h.use v p.ip hT).1 hu
    unfold fV at this
    rw [F8] at this
    cases this
  | some j =>
   refine ih i ?_ (by rw [F8];rfl)
   have:(eQ po v 8 o).length=(eQ po v 7 i).length+1:=by rw [mi hi,List.length_cons]
   rw [hs o 8 (by omega),← hs o 7 (by omega)] at this
   omega
theorem xQ {r:Ro} {po:List Po} (hn:pA r) (h:iR r po) {v:Int} {o:ByteArray} (ho:(ee po v o).isSome=true):qk po v (cm r) o=gD po v 7 o:=by
 unfold qk;rw [if_neg fun e=>cj.1 e (Ng hn h _ o (Nat.le_refl _) ho)]
theorem FW {r:Ro} {po:List Po} {v:Int} {o:ByteArray} (hs:o ∉ cm r) (ho:ee po v o=none):qk po v (cm r) o=⟨#[]⟩:=by
 unfold qk;rw [rX ho,if_pos (cj.2 hs)]
theorem zw {po qo:List Po} (h1:se po) (hs:∀ p∈qo,p∈po) {v:Int}:∀ {k:Nat} {o x:ByteArray},x∈eQ qo v k o→x∈eQ po v k o
 | 0,_,_,h=>by cases h
 | k + 1, o, x, h => by
  rw [eQ] at h
  cases hi:ee qo v o with
  | none=>rw [hi] at h;cases h
  | some i =>
   rw [hi] at h
   rw [mi (Mh h1 hs hi)]
   rcases List.mem_cons.1 h with rfl | h
   ·exact List.mem_cons_self
   ·exact List.mem_cons_of_mem _ (zw h1 hs h)
theorem iR.filter {r:Ro} {po:List Po} (hn:pA r) (h:iR r po) (f:Po→Bool) (h2:∀ p∈po,p.ou∈cQ r→∀ q∈po,f q=true→q.lv=p.lv→q.ip=p.ou→f p=true) (h3:∀ p∈po,p.ou∈cQ r→f p=true→∃ q∈po,f q=true∧q.lv=p.lv∧q.ip=p.ou):iR r (po.filter f):=by
 have iD:∀ p∈po.filter f,p∈po:=fun p hp=>(List.mem_filter.1 hp).1
 have h1:=iR.one h.qv
 refine ⟨h.qv.filter f,fun p hp=>h.KA p (iD p hp),fun p hp=>h.out p (iD p hp),fun p hp=>h.v8 p (iD p hp),fun p hp=>h.NQ p (iD p hp),fun v=>?_,fun v t ht=>?_⟩
 ·rintro ⟨t,ht,hc⟩
  exact h.C7 v ⟨t,ht,zw h1 iD hc⟩
 ·constructor
  ·intro hu
   unfold nj at hu
   rw [List.any_eq_true] at hu
   obtain ⟨q,hq,Mr⟩:=hu
   unfold y6 at Mr
   rw [Bool.and_eq_true,decide_eq_true_eq,decide_eq_true_eq] at Mr
   obtain ⟨Ms,xB⟩:=List.mem_filter.1 hq
   have hb:=(h.use v t ht).1 (by unfold nj;rw [List.any_eq_true];exact ⟨q,Ms,by unfold y6;rw [Mr.1,Mr.2];simp⟩)
   unfold fV at hb
   obtain ⟨i,hi⟩:=Option.isSome_iff_exists.1 hb
   obtain ⟨p,hp,KC,qj,rfl⟩:=fa hi
   have hf:=h2 p hp (qj ▸ ht) q Ms xB (Mr.1.trans KC.symm) (Mr.2.trans qj.symm)
   have:=mN (h1.filter f) (List.mem_filter.2 ⟨hp,hf⟩)
   rw [KC,qj] at this
   unfold fV
   rw [this];rfl
  ·intro hb
   unfold fV at hb
   obtain ⟨i,hi⟩:=Option.isSome_iff_exists.1 hb
   obtain ⟨p,hp,KC,qj,rfl⟩:=fa hi
   obtain ⟨zM,Mt⟩:=List.mem_filter.1 hp
   obtain ⟨q,hq,xB,S3,V4⟩:=h3 p zM (qj ▸ ht) Mt
   unfold nj
   rw [List.any_eq_true]
   exact ⟨q,List.mem_filter.2 ⟨hq,xB⟩,by unfold y6;rw [S3,V4,KC,qj];simp⟩
theorem zm {l:List ByteArray} {s:ByteArray} (h:0≤bu l s):bu l s<(l.length:Nat):=by
 obtain ⟨hl,_⟩:=er h
 omega
theorem En {l:List ByteArray} {a b:ByteArray} (ha:0≤bu l a) (h:bu l a=bu l b):a=b:=by
 obtain ⟨h1,e1⟩:=er ha
 obtain ⟨h2,e2⟩:=er (l:=l) (s:=b) (by omega)
 rw [← e1,← e2]
 have:(bu l a).toNat=(bu l b).toNat:=by rw [h]
 simp only [this]
theorem Hr {r:Ro} {a b:ByteArray} (ha:a∈ct r∨a∈cQ r) (hb:b∈ct r∨b∈cQ r) (h:dS r a=dS r b):a=b:=by
 have hd:(ct r).length=r.de.length:=by unfold ct;rw [Zd]
 unfold dS at h
 by_cases a1:0≤bu (ct r) a
 ·have:=zm a1
  by_cases b1:0≤bu (ct r) b
  ·rw [if_pos a1,if_pos b1] at h
   exact En a1 h
  ·by_cases b2:0≤bu (cQ r) b
   ·rw [if_pos a1,if_neg b1,if_pos b2] at h;omega
   ·rcases hb with hb | hb
    ·exact absurd hb (cj.1 (by omega))
    ·exact absurd hb (cj.1 (by omega))
 ·by_cases a2:0≤bu (cQ r) a
  ·by_cases b1:0≤bu (ct r) b
   ·have:=zm b1
    rw [if_neg a1,if_pos a2,if_pos b1] at h;omega
   ·by_cases b2:0≤bu (cQ r) b
    ·rw [if_neg a1,if_pos a2,if_neg b1,if_pos b2] at h
     exact En a2 (by omega)
    ·rcases hb with hb | hb
     ·exact absurd hb (cj.1 (by omega))
     ·exact absurd hb (cj.1 (by omega))
  ·rcases ha with ha | ha
   ·exact absurd ha (cj.1 (by omega))
   ·exact absurd ha (cj.1 (by omega))
structure qf (r:Ro) (po:List Po) (v:Int) (x:ByteArray):Prop where
 qv:po.Pairwise (fun a b=>pj r a b=true)
 KA:∀ p∈po,0≤p.lv∧p.lv<r.lv
 out:∀ p∈po,p.ou∈ct r∨p.ou∈cQ r
 v8:∀ p∈po,p.ip∈cm r∨p.ip∈cQ r
 NQ:∀ p∈po,ka r p.ou=jz r p.ip
 C7:∀ v,¬ ∃ t∈cQ r,t∈eQ po v ((cQ r).length+1) t
 use:∀ u t,t∈cQ r→(u=v∧t=x)∨(nj po u t=true↔fV po u t=true)
 U6:x∈cQ r→fV po v x=true
theorem iR.Ss {r:Ro} {po:List Po} {v:Int} {x:ByteArray} (h:iR r po) (hb:x∈cQ r→fV po v x=true):qf r po v x:=⟨h.qv,h.KA,h.out,h.v8,h.NQ,h.C7,fun u t ht=>.inr (h.use u t ht),hb⟩
theorem qf.val {r:Ro} {po:List Po} {v:Int} {x:ByteArray} (h:qf r po v x) (hx:x ∉ cQ r):iR r po:=⟨h.qv,h.KA,h.out,h.v8,h.NQ,h.C7,fun u t ht=>(h.use u t ht).resolve_left fun e=>hx (e.2 ▸ ht)⟩
theorem nX {r:Ro} {po:List Po} {p:Po} (hs:po.Pairwise (fun a b=>pj r a b=true)) (ho:∀ q∈po,q.ou∈ct r∨q.ou∈cQ r) (hp:p.ou∈ct r∨p.ou∈cQ r) (Wi:ee po p.lv p.ou=none):(iC r p po).Pairwise (fun a b=>pj r a b=true):=
 sE hs fun q hq e=>gT.1 Wi q hq ⟨e.1.symm,(Hr hp (ho q hq) e.2).symm⟩
theorem qQ {r:Ro} {po:List Po} {p:Po} (h1:se (iC r p po)) (h0:se po) (v:Int) (o:ByteArray):ee (iC r p po) v o=if p.lv=v∧p.ou=o then some p.ip else ee po v o:=by
 by_cases h:p.lv=v∧p.ou=o
 ·rw [if_pos h]
  have:=mN h1 (gS.2 (.inl rfl):p∈iC r p po)
  rwa [h.1,h.2] at this
 ·rw [if_neg h]
  cases hi:ee po v o with
  | none =>
   rw [gT]
   intro q hq
   rcases gS.1 hq with rfl | hq
   ·exact h
   ·exact gT.1 hi q hq
  | some i =>
   obtain ⟨q,hq,rfl,rfl,rfl⟩:=fa hi
   exact mN h1 (gS.2 (.inr hq))
theorem qf.add {r:Ro} {po:List Po} {v:Int} {x o:ByteArray} (hn:pA r) (h:qf r po v x) (hv:0≤v∧v<r.lv) (hx:x∈cm r∨x∈cQ r) (ho:o∈ct r∨o∈cQ r) (eJ:ee po v o=none) (hm:ka r o=jz r x):qf r (iC r ⟨v,o,x⟩ po) v o:=by
 have hs:=nX (p:=⟨v,o,x⟩) h.qv h.out ho eJ
 have h1:=iR.one hs
 have h0:=iR.one h.qv
 have mw:=qQ (p:=⟨v,o,x⟩) h1 h0
 have qi:x≠o:=by
  intro e
  subst e
  rcases hx with hx | hx
  ·rcases ho with ho | ho
   ·exact hn.sd _ hx ho
   ·exact hn.st _ hx ho
  ·have:=h.U6 hx
   unfold fV at this
   rw [eJ] at this
   cases this
 -- no one YR zK new output
 have uX:∀ u,ee po v u≠some o:=by
  intro u hu
  obtain ⟨q,hq,KB,_,Qf⟩:=fa hu
  rcases ho with ho | ho
  ·rcases h.v8 q hq with hS | hT
   ·exact hn.sd _ (Qf ▸ hS) ho
   ·exact hn.dt _ ho (Qf ▸ hT)
  ·rcases h.use v o ho with e | e
   ·exact qi e.2.symm
   ·have:nj po v o=true:=by
     unfold nj
     rw [List.any_eq_true]
     exact ⟨q,hq,by unfold y6;rw [KB,Qf];simp⟩
    have:=e.1 this
    unfold fV at this
    rw [eJ] at this
    cases this
 have fO:∀ u y,ee (iC r ⟨v,o,x⟩ po) v u=some y→y≠o:=by
  intro u y hu e
  subst e
  rw [mw] at hu
  split at hu
  ·exact qi (Option.some.inj hu)
  ·exact uX u hu
 refine ⟨hs,fun p hp=>?_,fun p hp=>?_,fun p hp=>?_,fun p hp=>?_,fun w=>?_,fun u t ht=>?_,fun _=>?_⟩
 ·rcases gS.1 hp with rfl | hp
  ·exact hv
  ·exact h.KA p hp
 ·rcases gS.1 hp with rfl | hp
  ·exact ho
  ·exact h.out p hp
 ·rcases gS.1 hp with rfl | hp
  ·exact hx
  ·exact h.v8 p hp
 ·rcases gS.1 hp with rfl | hp
  ·exact hm
  ·exact h.NQ p hp
 ·rintro ⟨t,ht,hc⟩
  obtain ⟨j,hj,he⟩:=tH.1 hc
  -- zK way round is one of zK AP points
  have key:∀ k y z,(w=v→y≠o)→lS (iC r ⟨v,o,x⟩ po) w k y=some z→lS po w k y=some z:=by
   intro k
   induction k with
   | zero=>intro y z _ h;exact h
   | succ k ih =>
    intro y z hy hz
    rw [lS] at hz ⊢
    have e1:ee (iC r ⟨v,o,x⟩ po) w y=ee po w y:=by
     rw [mw,if_neg fun e=>hy e.1.symm e.2.symm]
    cases hi:ee po w y with
    | none=>rw [e1,hi] at hz;cases hz
    | some u =>
     rw [e1,hi] at hz
     refine ih u z (fun e q=>?_) hz
     subst e q
     exact fO y u (by rw [e1];exact hi) rfl
  refine h.C7 w ⟨t,ht,tH.2 ⟨j,hj,key (j+1) t t (fun e q=>?_) he⟩⟩
  subst e q
  obtain ⟨u,hu,SI⟩:∃ u,lS (iC r ⟨w,t,x⟩ po) w j t=some u∧ee (iC r ⟨w,t,x⟩ po) w u=some t:=by
   rw [jI] at he
   cases hq:lS (iC r ⟨w,t,x⟩ po) w j t with
   | none=>rw [hq] at he;cases he
   | some u =>
    rw [hq] at he
    exact ⟨u,rfl,by simpa [lS] using he⟩
  exact fO u t SI rfl
 ·by_cases e:u=v∧t=o
  ·exact .inl e
  ·refine .inr ?_
   have hb:fV (iC r ⟨v,o,x⟩ po) u t=fV po u t:=by
    unfold fV
    rw [mw,if_neg fun q=>e ⟨q.1.symm,q.2.symm⟩]
   have hu:nj (iC r ⟨v,o,x⟩ po) u t=true↔(u=v∧t=x)∨nj po u t=true:=by
    unfold nj
    rw [List.any_eq_true,List.any_eq_true]
    constructor
    ·rintro ⟨q,hq,xB⟩
     rcases gS.1 hq with rfl | hq
     ·unfold y6 at xB
      rw [Bool.and_eq_true,decide_eq_true_eq,decide_eq_true_eq] at xB
      exact .inl ⟨xB.1.symm,xB.2.symm⟩
     ·exact .inr ⟨q,hq,xB⟩
    ·rintro (⟨rfl,rfl⟩ | ⟨q,hq,xB⟩)
     ·exact ⟨_,gS.2 (.inl rfl),by unfold y6;simp⟩
     ·exact ⟨q,gS.2 (.inr hq),xB⟩
   rw [hb,hu]
   rcases h.use u t ht with ex | ex
   ·obtain ⟨rfl,rfl⟩:=ex
    exact ⟨fun _=>h.U6 ht,fun _=>.inl ⟨rfl,rfl⟩⟩
   ·constructor
    ·rintro (⟨rfl,rfl⟩ | q)
     ·exact h.U6 ht
     ·exact ex.1 q
    ·exact fun q=>.inr (ex.2 q)
 ·unfold fV
  rw [mw,if_pos ⟨rfl,rfl⟩];rfl
theorem qf.ne {r:Ro} {po:List Po} {v:Int} {x o:ByteArray} (hn:pA r) (h:qf r po v x) (hx:x∈cm r∨x∈cQ r) (ho:o∈ct r∨o∈cQ r) (eJ:ee po v o=none):x≠o:=by
 intro e
 subst e
 rcases hx with hx | hx
 ·rcases ho with ho | ho
  ·exact hn.sd _ hx ho
  ·exact hn.st _ hx ho
 ·have:=h.U6 hx
  unfold fV at this
  rw [eJ] at this
  cases this
theorem qf.unused {r:Ro} {po:List Po} {v:Int} {x o:ByteArray} (hn:pA r) (h:qf r po v x) (hx:x∈cm r∨x∈cQ r) (ho:o∈ct r∨o∈cQ r) (eJ:ee po v o=none):∀ u,ee po v u≠some o:=by
 have qi:=h.ne hn hx ho eJ
 intro u hu
 obtain ⟨q,hq,KB,_,Qf⟩:=fa hu
 rcases ho with ho | ho
 ·rcases h.v8 q hq with hS | hT
  ·exact hn.sd _ (Qf ▸ hS) ho
  ·exact hn.dt _ ho (Qf ▸ hT)
 ·rcases h.use v o ho with e | e
  ·exact qi e.2.symm
  ·have:nj po v o=true:=by
    unfold nj
    rw [List.any_eq_true]
    exact ⟨q,hq,by unfold y6;rw [KB,Qf];simp⟩
   have:=e.1 this
   unfold fV at this
   rw [eJ] at this
   cases this
theorem zx {r:Ro} {po:List Po} {v:Int} {x o:ByteArray} (hn:pA r) (h:qf r po v x) (hx:x∈cm r∨x∈cQ r) (ho:o∈ct r∨o∈cQ r) (eJ:ee po v o=none) {w:Int}:∀ {k:Nat} {y:ByteArray},¬(w=v∧y=o)→eQ (iC r ⟨v,o,x⟩ po) w k y=eQ po w k y
 | 0,_,_=>rfl
 | k + 1, y, hy => by
  have hs:=nX (p:=⟨v,o,x⟩) h.qv h.out ho eJ
  have e1:ee (iC r ⟨v,o,x⟩ po) w y=ee po w y:=by
   rw [qQ (p:=⟨v,o,x⟩) (iR.one hs) (iR.one h.qv),if_neg fun e=>hy ⟨e.1.symm,e.2.symm⟩]
  rw [eQ,eQ,e1]
  cases hi:ee po w y with
  | none=>rfl
  | some u =>
   show u::_=u::_
   rw [zx hn h hx ho eJ fun e=>by
    obtain ⟨rfl,rfl⟩:=e
    exact h.unused hn hx ho eJ y hi]
theorem EA {r:Ro} {po:List Po} {v:Int} {x o:ByteArray} (hn:pA r) (h:qf r po v x) (hx:x∈cm r∨x∈cQ r) (ho:o∈ct r∨o∈cQ r) (eJ:ee po v o=none) {w:Int} {y:ByteArray} (hy:¬(w=v∧y=o)) {S:List ByteArray}:qk (iC r ⟨v,o,x⟩ po) w S y=qk po w S y:=by
 unfold qk gD
 rw [zx hn h hx ho eJ hy]
theorem Bu {r:Ro} {po:List Po} {v:Int} {x o:ByteArray} (hn:pA r) (h:qf r po v x) (hv:0≤v∧v<r.lv) (hx:x∈cm r∨x∈cQ r) (ho:o∈ct r∨o∈cQ r) (eJ:ee po v o=none) (hm:ka r o=jz r x):gD (iC r ⟨v,o,x⟩ po) v 7 o=gD po v 7 x:=by
 have h6:=hn.R3
 have hA:=h.add hn hv hx ho eJ hm
 have hs:=nX (p:=⟨v,o,x⟩) h.qv h.out ho eJ
 have mw:ee (iC r ⟨v,o,x⟩ po) v o=some x:=by
  rw [qQ (p:=⟨v,o,x⟩) (iR.one hs) (iR.one h.qv),if_pos ⟨rfl,rfl⟩]
 have XX:=fun m hm=>oV (T:=cQ r) (iR.tie hn hA.out hA.v8) (hA.C7 v) o (m:=m) hm
 have e8:gD (iC r ⟨v,o,x⟩ po) v 8 o=gD (iC r ⟨v,o,x⟩ po) v 7 x:=xL mw
 have e7:gD (iC r ⟨v,o,x⟩ po) v 7 o=gD (iC r ⟨v,o,x⟩ po) v 8 o:=by
  unfold gD
  rw [XX 7 (by omega),XX 8 (by omega)]
 rw [e7,e8]
 unfold gD
 rw [zx hn h hx ho eJ fun e=>h.ne hn hx ho eJ e.2]
theorem vp {po:List Po} (h1:se po) {f:Po→Bool} (fw:∀ q∈po,f q=true→∀ p∈po,p.lv=q.lv→p.ou=q.ip→f p=true) {v:Int}:∀ {k:Nat} {y:ByteArray},(∀ p∈po,p.lv=v→p.ou=y→f p=true)→eQ (po.filter f) v k y=eQ po v k y
 | 0,_,_=>rfl
 | k + 1, y, hy => by
  rw [eQ,eQ]
  cases hi:ee po v y with
  | none =>
   have:ee (po.filter f) v y=none:=gT.2 fun p hp=>gT.1 hi p (List.mem_filter.1 hp).1
   rw [this]
  | some u =>
   obtain ⟨q,hq,KB,N2,rfl⟩:=fa hi
   have hf:=hy q hq KB N2
   have:ee (po.filter f) v y=some q.ip:=by
    have:=mN (h1.filter f) (List.mem_filter.2 ⟨hq,hf⟩)
    rwa [KB,N2] at this
   rw [this]
   show q.ip::_=q.ip::_
   rw [vp h1 fw fun p hp KC qj=>fw q hq hf p hp (KC.trans KB.symm) qj]
def Ti.zero:Ti:=⟨⟨#[]⟩,0,0⟩
def fJ (r:Ro) (i:Nat):Ti:=r.ti.getD i Ti.zero
def gn (r:Ro) (i:Nat):ByteArray:=(fJ r i).nm
theorem qp {r:Ro} {i:Nat} (h:i<r.ti.length):(cQ r)[i]'(by unfold cQ;rw [Zd];exact h)=gn r i:=by
 unfold cQ gn fJ
 rw [List.getElem_map,List.getD_eq_getElem?_getD,Zc h];rfl
theorem tq {r:Ro} {i:Nat} (h:i<r.ti.length):gn r i∈cQ r:=by rw [← qp h];exact Zj _
theorem DA {r:Ro} (hd:(cQ r).Nodup) {i j:Nat} (hi:i<r.ti.length) (hj:j<r.ti.length) (h:gn r i=gn r j):i=j:=by
 have hl:(cQ r).length=r.ti.length:=by unfold cQ;rw [Zd]
 rw [← qp hi,← qp hj] at h
 rcases Nat.lt_trichotomy i j with aL | he | aL
 ·exact absurd h (List.pairwise_iff_getElem.1 hd i j (by omega) (by omega) aL)
 ·exact he
 ·exact absurd h.symm (List.pairwise_iff_getElem.1 hd j i (by omega) (by omega) aL)
theorem Em {r:Ro} (hd:(cQ r).Nodup) {i:Nat} (hi:i<r.ti.length):bu (cQ r) (gn r i)=(i:Nat):=by
 have hl:(cQ r).length=r.ti.length:=by unfold cQ;rw [Zd]
 refine pQ (by omega) (qp hi) fun j hj e=>?_
 rw [qp (by omega)] at e
 have:=DA hd (by omega) hi e
 omega
theorem LO {r:Ro} (hn:pA r) (hd:(cQ r).Nodup) {i:Nat} (hi:i<r.ti.length):ka r (gn r i)=(fJ r i).fr:=by
 have h1:¬ 0≤bu (ct r) (gn r i):=fun h=>by
  have:gn r i∈ct r:=Classical.byContradiction fun hq=>by have:=cj.2 hq;omega
  exact hn.dt _ this (tq hi)
 unfold ka
 rw [if_neg h1,Em hd hi,if_pos (by omega),Int.toNat_natCast];rfl
theorem Ec {r:Ro} (hn:pA r) (hd:(cQ r).Nodup) {i:Nat} (hi:i<r.ti.length):jz r (gn r i)=(fJ r i).to:=by
 have h1:¬ 0≤bu (cm r) (gn r i):=fun h=>by
  have:gn r i∈cm r:=Classical.byContradiction fun hq=>by have:=cj.2 hq;omega
  exact hn.st _ this (tq hi)
 unfold jz
 rw [if_neg h1,Em hd hi,if_pos (by omega),Int.toNat_natCast];rfl
def fj (r:Ro) (po:List Po) (v:Int) (s:ByteArray):Wn:=⟨r.ti.length,fun i=>fV po v (gn r i)&&decide (qk po v (cm r) (gn r i)=s),fun i=>!fV po v (gn r i),fun i=>(fJ r i).fr,fun i=>(fJ r i).to,jz r s⟩
def k8 (r:Ro) (v:Int):List Po→ByteArray→List Nat→List Po×ByteArray
 | po,x,[]=>(po,x)
 | po,x,i::p=>k8 r v (if fV po v (gn r i) then po else iC r ⟨v,gn r i,x⟩ po) (gn r i) p
def k9 (r:Ro) (po:List Po) (v:Int) (s:ByteArray) (p:List Nat) (d:ByteArray):List Po:=iC r ⟨v,d,(k8 r v po s p).2⟩ (k8 r v po s p).1
theorem B8 {r:Ro} {po:List Po} {v:Int} {s:ByteArray} (hn:pA r) (hd:(cQ r).Nodup) (hv:0≤v∧v<r.lv) (qj:iR r po):∀ (q u:List Nat) (oP:List Po) (x:ByteArray),(fj r po v s).ok (u++q)→qf r oP v x→(x∈cm r∨x∈cQ r)→jz r x=(fj r po v s).fin u→gD oP v 7 x=s→(∀ i,i<r.ti.length→i ∉ u→fV oP v (gn r i)=fV po v (gn r i))→(u=[]→oP=po) →
  qf r (k8 r v oP x q).1 v (k8 r v oP x q).2∧((k8 r v oP x q).2∈cm r∨(k8 r v oP x q).2∈cQ r)∧jz r (k8 r v oP x q).2=(fj r po v s).fin (u++q)∧gD (k8 r v oP x q).1 v 7 (k8 r v oP x q).2=s ∧
  (∀ w y,y∈ct r→ee (k8 r v oP x q).1 w y=ee oP w y)∧(∀ w y S,y∈ct r→qk (k8 r v oP x q).1 w S y=qk oP w S y)
 | [], u, oP, x, _, h1, h2, h3, h4, _, _ => by
  rw [List.append_nil]
  exact ⟨h1,h2,h3,h4,fun _ _ _=>rfl,fun _ _ _ _=>rfl⟩
 | i :: q, u, oP, x, dB, h1, h2, h3, h4, h5, h6 => by
  have e:u++i::q=(u++[i])++q:=by simp
  rw [e] at dB ⊢
  have a7:=(Wn.ki.1 (Wn.yN dB (List.prefix_append (u++[i]) q))).2
  have hi:i<r.ti.length:=Wn.oM a7
  have hiu:i ∉ u:=Wn.uk a7
  have jo:=tq hi
  have Ym:=h5 i hi hiu
  unfold Wn.step at a7
  simp only [Bool.and_eq_true,Bool.or_eq_true,decide_eq_true_eq] at a7
  obtain ⟨_,_,Fx⟩:=a7
  rw [k8]
  by_cases hb:fV oP v (gn r i)=true
  ·rw [if_pos hb]
   rw [Ym] at hb
   rcases Fx with ⟨hu,tM⟩ | ⟨UU,_⟩
   ·have hu:u=[]:=List.isEmpty_iff.1 hu
    have hpp:=h6 hu
    subst hpp
    have tM:(fV oP v (gn r i)&&decide (qk oP v (cm r) (gn r i)=s))=true:=tM
    rw [Bool.and_eq_true,decide_eq_true_eq] at tM
    refine B8 hn hd hv qj q (u++[i]) oP (gn r i) dB (qj.Ss fun _=>hb) (.inr jo) ?_ ?_ (fun j hj Wv=>rfl) (fun h=>by simp at h)
    ·rw [Ec hn hd hi,Wn.mh];rfl
    ·rw [← xQ hn qj (show (ee oP v (gn r i)).isSome=true from hb)]
     exact tM.2
   ·have UU:(!fV po v (gn r i))=true:=UU
    rw [hb] at UU;cases UU
  ·rw [if_neg hb]
   have eJ:ee oP v (gn r i)=none:=by
    unfold fV at hb
    cases hq:ee oP v (gn r i) with
    | none=>rfl
    | some z=>rw [hq] at hb;exact absurd rfl hb
   have hm:ka r (gn r i)=jz r x:=by
    rcases Fx with ⟨_,tM⟩ | ⟨_,hf⟩
    ·have tM:(fV po v (gn r i)&&decide (qk po v (cm r) (gn r i)=s))=true:=tM
     rw [Bool.and_eq_true,← Ym] at tM
     exact absurd tM.1 hb
    ·rw [LO hn hd hi,h3];exact hf
   have hs:=nX (p:=⟨v,gn r i,x⟩) h1.qv h1.out (.inr jo) eJ
   have mw:=qQ (p:=⟨v,gn r i,x⟩) (iR.one hs) (iR.one h1.qv)
   obtain ⟨g1,g2,g3,g4,g5,g6⟩:=B8 hn hd hv qj q (u++[i]) (iC r ⟨v,gn r i,x⟩ oP) (gn r i) dB (h1.add hn hv h2 (.inr jo) eJ hm) (.inr jo) (by rw [Ec hn hd hi,Wn.mh];rfl)
    (by rw [Bu hn h1 hv h2 (.inr jo) eJ hm,h4])
    (fun j hj Wv=>by
     have hne:gn r i≠gn r j:=fun e=>Wv (by rw [DA hd hi hj e];simp)
     unfold fV
     rw [mw,if_neg fun e=>hne e.2]
     exact h5 j hj fun e=>Wv (List.mem_append.2 (.inl e))) (fun h=>by simp at h)
   refine ⟨g1,g2,g3,g4,fun w y hy=>?_,fun w y S hy=>?_⟩
   ·rw [g5 w y hy,mw,if_neg (fun e=>hn.dt y hy (by rw [← e.2];exact jo))]
   ·rw [g6 w y S hy,EA hn h1 h2 (.inr jo) eJ (fun e=>hn.dt y hy (by rw [e.2];exact jo))]
theorem GY {r:Ro} {po:List Po} {v:Int} {s d:ByteArray} (hn:pA r) (hd:(cQ r).Nodup) (hv:0≤v∧v<r.lv) (qj:iR r po) (hs:s∈cm r) (lT:d∈ct r) (eJ:ee po v d=none) {p:List Nat} (dB:(fj r po v s).ok p) (mf:(fj r po v s).fin p=ka r d) :
  iR r (k9 r po v s p d)∧qk (k9 r po v s p d) v (cm r) d=s∧(∀ w y,y∈ct r→¬(w=v∧y=d)→qk (k9 r po v s p d) w (cm r) y=qk po w (cm r) y∧ee (k9 r po v s p d) w y=ee po w y):=by
 have a7:s ∉ cQ r:=hn.st s hs
 have Tb:ee po v s=none:=gT.2 fun q hq e=>by
  rcases qj.out q hq with h | h
  ·exact hn.sd s hs (e.2 ▸ h)
  ·exact a7 (e.2 ▸ h)
 obtain ⟨g1,g2,g3,g4,g5,g6⟩:=B8 hn hd hv qj p [] po s dB (qj.Ss fun h=>absurd h a7) (.inl hs) rfl (rX Tb) (fun _ _ _=>rfl) (fun _=>rfl)
 have F9:ee (k8 r v po s p).1 v d=none:=by rw [g5 v d lT,eJ]
 have hm:ka r d=jz r (k8 r v po s p).2:=by rw [g3];exact mf.symm
 have hA:=g1.add hn hv g2 (.inl lT) F9 hm
 have hV:=hA.val (hn.dt d lT)
 have P8:=nX (p:=⟨v,d,(k8 r v po s p).2⟩) g1.qv g1.out (.inl lT) F9
 have mw:=qQ (p:=⟨v,d,(k8 r v po s p).2⟩) (iR.one P8) (iR.one g1.qv)
 refine ⟨hV,?_,fun w y hy hne=>⟨?_,?_⟩⟩
 ·have h9:(ee (iC r ⟨v,d,(k8 r v po s p).2⟩ (k8 r v po s p).1) v d).isSome=true:=by
   rw [mw,if_pos ⟨rfl,rfl⟩];rfl
  have h8:=xQ hn hV h9
  unfold k9
  rw [h8,Bu hn g1 hv g2 (.inl lT) F9 hm,g4]
 ·unfold k9
  rw [EA hn g1 g2 (.inl lT) F9 hne,g6 w y _ hy]
 ·unfold k9
  rw [mw,if_neg fun e=>hne ⟨e.1.symm,e.2.symm⟩,g5 w y hy]
end Go.Proofs.A1
