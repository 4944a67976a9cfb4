/- Parts of the proof: GkCore GkOps P5w S1p P5a P5b P5c P5d P5e P5f P5g P5h. -/
import Derived.RangeFuncRecord
import Derived.OrdersIn
import Derived.KernelRfl
import Derived.Below
import Derived.IntWalk
import Derived.Laws.Strings
set_option linter.unusedSectionVars false
set_option linter.unusedVariables false
set_option linter.unusedSimpArgs false
namespace Go.SL
open Go
open Go.RowKit (Below)
theorem I {α:Sort _} {a:α}:a=a:=rfl
theorem Za {α:Type _} (as:List α):[]++as=as:=rfl
theorem Zb:type_of% @List.cons_append:=rfl
theorem Zc:type_of% @List.getElem?_eq_getElem:=List.getElem?_eq_getElem
theorem Zd:type_of% @List.length_map:=@List.length_map
theorem Ze:type_of% @List.take_zero:=rfl
theorem Zf:type_of% @List.map_nil:=rfl
theorem Zg:type_of% @List.length_append:=@List.length_append
theorem Zh:type_of% @List.append_assoc:=@List.append_assoc
theorem Zi:type_of% @Nat.zero_le:=@Nat.zero_le
theorem Zj:type_of% @List.getElem_mem:=@List.getElem_mem
abbrev aI:=List (Nat×Value)
def cJ:aI->Nat->Option Value
 | [],_=>none
 | (t,v)::r,k=>bif Nat.beq t k then some v else cJ r k
theorem fQ {t k:Nat} {v:Value} {r:aI} (h:t≠k):cJ ((t,v)::r) k=cJ r k:=by
 have:Nat.beq t k=false:=by
  cases hb:Nat.beq t k with
  | false=>rfl
  | true=>exact absurd (Nat.eq_of_beq_eq_true hb) h
 simp [cJ,this]
theorem fR {t:Nat} {v:Value} {r:aI}:cJ ((t,v)::r) t=some v:=by
 simp [cJ]
def bS (sl:aI) (a:Act):Prop:=∀ t v,cJ sl t=some v->a.tmps[t]? = some v
theorem bS.eval {sl:aI} {a:Act} (h:bS sl a) {t:Nat} {v:Value} (hv:cJ sl t=some v):a.eval (.tmp t)=v:=by
 have:=h t v hv;simp [Act.eval,Array.getD_eq_getD_getElem?,this]
theorem bS.put {sl:aI} {a:Act} (h:bS sl a) {d:Nat} (hd:d<a.tmps.size) (v:Value):bS ((d,v)::sl) (a.put (some d) v):=by
 intro t u hu;by_cases xB:d=t
 ·subst xB;rw [fR] at hu;cases hu;simp [Act.put,hd]
 ·rw [fQ xB] at hu;simp only [Act.put,Array.getElem?_setIfInBounds_ne xB];exact h t u hu
theorem bS.sub {sl jy:aI} {a:Act} (h:bS sl a) (hs:∀ t v,cJ jy t=some v->cJ sl t=some v):bS jy a:=fun t v hv=>h t v (hs t v hv)
def Is (sl:aI) (x:Operand) (v:Value):Prop:=∀ a:Act,bS sl a->a.eval x=v
theorem KY {a b:Bool} (h:(a&&b)=true):a=true:=by cases a <;> simp_all
def gv (c:Bool) (v:Value):Value:=bif c then v else undef
theorem uS {c:Bool} {v:Value} (h:c=true):gv c v=v:=by simp [gv,h]
theorem wh {c:Bool} {v:Value} (h:c=false):gv c v=undef:=by simp [gv,h]
def hp (w:World):Nat->Option Obj:=fun b=>w.heap[b]?
theorem ki {w:World} {b:Nat} {o:Obj} (h:hp w b=some o):b<w.heap.size:=(Array.getElem?_eq_some_iff.1 h).1
structure a8 where
 sat:(Nat->Option Obj)->List Nat->Prop
 loc:∀ {h h':Nat->Option Obj} {fp:List Nat},sat h fp->(∀ b∈fp,h' b=h b)->sat h' fp
 own:∀ {h:Nat->Option Obj} {fp:List Nat},sat h fp->∀ b∈fp,∃ o,h b=some o
def ch (h:Nat->Option Obj):List a8->List Nat->Prop
 | [],fp=>fp=[]
 | A::As,fp=>∃ f1 f2,fp=f1++f2/\A.sat h f1/\ch h As f2
theorem ch.own {h:Nat->Option Obj}:∀ {hs:List a8} {fp:List Nat},ch h hs fp->∀ b∈fp,∃ o,h b=some o
 | [],_,hh,b,hb=>by rw [show _=[] from hh] at hb;cases hb
 | A :: As, _, ⟨f1, f2, e, h1, h2⟩, b, hb => by
  subst e;rcases List.mem_append.1 hb with hb | hb
  ·exact A.own h1 b hb
  ·exact ch.own h2 b hb
theorem ch.loc {h h':Nat->Option Obj}:∀ {hs:List a8} {fp:List Nat},ch h hs fp->(∀ b∈fp,h' b=h b)->ch h' hs fp
 | [],_,hh,_=>hh
 | A :: As, _, ⟨f1, f2, e, h1, h2⟩, hb => by
  subst e;exact ⟨f1,f2,I,A.loc h1 (fun b dD=>hb b (List.mem_append_left _ dD)),ch.loc h2 (fun b dD=>hb b (List.mem_append_right _ dD))⟩
theorem ch.append_iff {h:Nat->Option Obj}:∀ {l1 l2:List a8} {fp:List Nat},ch h (l1++l2) fp↔∃ f1 f2,fp=f1++f2/\ch h l1 f1/\ch h l2 f2
 | [],l2,fp=>⟨fun hh=>⟨[],fp,rfl,rfl,hh⟩,fun ⟨f1,f2,e,h1,h2⟩=>by rw [show f1=[] from h1] at e;simpa [e] using h2⟩
 | A :: l1, l2, fp => by
  constructor
  ·rintro ⟨f1,f2,rfl,h1,h2⟩;obtain ⟨g1,g2,rfl,h3,h4⟩:=ch.append_iff.1 h2;exact ⟨f1++g1,g2,by simp,⟨f1,g1,I,h1,h3⟩,h4⟩
  ·rintro ⟨f1,f2,rfl,⟨g1,g2,rfl,h1,h2⟩,h3⟩;exact ⟨g1,g2++f2,by simp,h1,ch.append_iff.2 ⟨g2,f2,I,h2,h3⟩⟩
inductive Take:List a8->a8->List a8->Prop
 | here {A:a8} {r:List a8}:Take (A::r) A r
 | there {A X:a8} {r r':List a8} (h:Take r A r'):Take (X::r) A (X::r')
theorem Take.append {hs hs':List a8} {A:a8} (h:Take hs A hs') (m:List a8):Take (hs++m) A (hs'++m):=by
 induction h with
 | here=>exact .here
 | there _ ih=>exact .there ih
theorem ch.take {h:Nat->Option Obj} {hs hs':List a8} {A:a8} (ht:Take hs A hs'):∀ {fp:List Nat},ch h hs fp->∃ f1 f2,A.sat h f1/\ch h hs' f2/\fp.Perm (f1++f2):=by
 induction ht with
 | here =>
  rintro fp ⟨f1,f2,rfl,h1,h2⟩;exact ⟨f1,f2,h1,h2,.refl _⟩
 | there _ ih =>
  rintro fp ⟨f1,f2,rfl,h1,h2⟩;obtain ⟨g1,g2,h3,h4,hp⟩:=ih h2;refine ⟨g1,f1++g2,h3,⟨f1,g2,I,h1,h4⟩,?_⟩;exact (hp.append_left f1).trans (by
   rw [<- Zh,<- Zh];exact (List.perm_append_comm).append_right g2)
structure aD (md:List Nat) (w w':World):Prop where
 os:w'.os=w.os
 tape:w'.tape=w.tape
 output:w'.output=w.output
 dr:w.drawn<=w'.drawn
 size:w.heap.size<=w'.heap.size
 block:∀ k,k<w.heap.size->k ∉ md->w'.heap[k]? = w.heap[k]?
theorem aD.refl (md:List Nat) (w:World):aD md w w:=⟨I,I,I,Nat.le_refl _,Nat.le_refl _,fun _ _ _=>rfl⟩
theorem aD.trans {md:List Nat} {a b c:World} (h:aD md a b) (k:aD md b c):aD md a c:=
 ⟨k.os.trans h.os,k.tape.trans h.tape,k.output.trans h.output,Nat.le_trans h.dr k.dr,Nat.le_trans h.size k.size,fun i hi hm=>(k.block i (Nat.lt_of_lt_of_le hi h.size) hm).trans (h.block i hi hm)⟩
theorem aD.mono {md YW:List Nat} {w w':World} (h:aD md w w') (hs:∀ b∈md,b∈YW):aD YW w w':=
 ⟨h.os,h.tape,h.output,h.dr,h.size,fun k hk hm=>h.block k hk (fun hb=>hm (hs k hb))⟩
theorem aD.below {w w':World} (h:aD [] w w'):Below w.heap.size w w':=⟨h.os,h.tape,h.output,h.size,fun k hk=>h.block k hk (by simp)⟩
theorem aD.Ix {w w':World} (h:Below w.heap.size w w') (hd:w.drawn<=w'.drawn):aD [] w w':=⟨h.os,h.tape,h.output,hd,h.size,fun k hk _=>h.block k hk⟩
theorem aD.drew (md:List Nat) (w:World):aD md w w.drew:=⟨I,I,I,Nat.le_succ _,Nat.le_refl _,fun _ _ _=>rfl⟩
theorem aD.alloc (md:List Nat) (w:World) (o:Obj):aD md w (w.alloc o):=
 ⟨I,I,I,Nat.le_refl _,by simp,fun k hk _=>by show (w.heap.push o)[k]? = _;rw [Array.getElem?_push,if_neg (by omega)]⟩
structure Cx where
 w0:World
 md:List Nat
 nt:Nat
structure Mem (c:Cx) (hs:List a8) (w:World):Prop where
 keeps:aD c.md c.w0 w
 own:∃ fp:List Nat,fp.Nodup/\ch (hp w) hs fp/\∀ b∈fp,c.w0.heap.size<=b\/b∈c.md
theorem Mem.take {c:Cx} {hs hs':List a8} {A:a8} {w:World} (h:Mem c hs w) (ht:Take hs A hs'):Mem c (A::hs') w:=by
 obtain ⟨k,fp,hn,hs,hb⟩:=h;obtain ⟨f1,f2,h1,h2,hp⟩:=hs.take ht;exact ⟨k,f1++f2,hp.nodup_iff.1 hn,⟨f1,f2,I,h1,h2⟩,fun b dD=>hb b (hp.mem_iff.2 dD)⟩
theorem Mem.change {c:Cx} {As Bs hs:List a8} {w w':World} (h:Mem c (As++hs) w)
  (Rw:∀ fp,fp.Nodup->ch (hp w) As fp->aD fp w w'/\∃ lN:List Nat,lN.Nodup/\ch (hp w') Bs lN/\∀ b∈lN,b∈fp\/w.heap.size<=b):Mem c (Bs++hs) w':=by
 obtain ⟨k,fp,hn,hs,hb⟩:=h;obtain ⟨f1,f2,rfl,h1,h2⟩:=ch.append_iff.1 hs;obtain ⟨n1,n2,n12⟩:=List.nodup_append.1 hn;obtain ⟨hk,lN,tK,hs',yS⟩:=Rw f1 n1 h1;have aL:∀ b∈f2,b<w.heap.size:=fun b dD=>let ⟨o,ho⟩:=h2.own b dD;ki ho
 refine ⟨?_,lN++f2,?_,ch.append_iff.2 ⟨lN,f2,I,hs',h2.loc fun b dD=>?_⟩,?_⟩
 ·refine ⟨hk.os.trans k.os,hk.tape.trans k.tape,hk.output.trans k.output,Nat.le_trans k.dr hk.dr,Nat.le_trans k.size hk.size,fun b dD hm=>?_⟩;rw [<- k.block b dD hm];refine hk.block b (Nat.lt_of_lt_of_le dD k.size) (fun hf=>?_);rcases hb b (List.mem_append_left _ hf) with h | h
  ·omega
  ·exact hm h
 ·refine List.nodup_append.2 ⟨tK,n2,fun x hx y hy e=>?_⟩;subst e;rcases yS x hx with h | h
  ·exact n12 x h x hy I
  ·have:=aL x hy;omega
 ·exact hk.block b (aL b dD) (fun hf=>n12 b hf b dD I)
 ·intro b dD;rcases List.mem_append.1 dD with h | h
  ·rcases yS b h with h | h
   ·exact hb b (List.mem_append_left _ h)
   ·exact .inl (Nat.le_trans k.size h)
  ·exact hb b (List.mem_append_right _ h)
theorem Mem.rN {c:Cx} {hs:List a8} {w w':World} (h:Mem c hs w) (hk:aD [] w w'):Mem c hs w':=
 Mem.change (As:=[]) (Bs:=[]) h fun fp _ hf=>by
  rw [show fp=[] from hf];exact ⟨hk,[],List.nodup_nil,I,by simp⟩
theorem Mem.drew {c:Cx} {hs:List a8} {w:World} (h:Mem c hs w):Mem c hs w.drew:=h.rN (.drew _ _)
theorem Mem.lA {c:Cx} {l m:List a8} {w:World} (h:Mem c (l++m) w):Mem c l w:=by
 obtain ⟨k,fp,hn,hs,hb⟩:=h;obtain ⟨f1,f2,rfl,h1,h2⟩:=ch.append_iff.1 hs;exact ⟨k,f1,(List.nodup_append.1 hn).1,h1,fun b dD=>hb b (List.mem_append_left _ dD)⟩
theorem Mem.wo {c:Cx} {A:a8} {l:List a8} {w:World} (h:Mem c (A::l) w):Mem c l w:=by
 obtain ⟨k,fp,hn,⟨f1,f2,rfl,h1,h2⟩,hb⟩:=h;exact ⟨k,f2,(List.nodup_append.1 hn).2.1,h2,fun b dD=>hb b (List.mem_append_right _ dD)⟩
def bC (b:Nat) (o:Obj):a8 where
 sat h fp:=fp=[b]/\h b=some o
 loc:=fun ⟨e,h1⟩ hb=>⟨e,by rw [hb _ (by rw [e];simp)];exact h1⟩
 own:=fun ⟨e,h1⟩ b' dD=>by rw [e] at dD;rw [List.mem_singleton.1 dD];exact ⟨o,h1⟩
theorem Mem.bC {c:Cx} {hs hs':List a8} {b:Nat} {o:Obj} {w:World} (h:Mem c hs w) (ht:Take hs (bC b o) hs'):w.heap[b]? = some o:=by
 obtain ⟨_,fp,_,⟨f1,f2,_,⟨_,h1⟩,_⟩,_⟩:=h.take ht;exact h1
theorem Mem.alloc {c:Cx} {hs:List a8} {w:World} (h:Mem c hs w) (o:Obj):Mem c (SL.bC w.heap.size o::hs) (w.alloc o):=
 Mem.change (As:=[]) (Bs:=[SL.bC w.heap.size o]) h fun fp _ hf=>by
  rw [show fp=[] from hf];refine ⟨.alloc _ _ _,[w.heap.size],by simp,⟨[w.heap.size],[],I,⟨I,World.alloc_heap_new w o⟩,I⟩,by simp⟩
theorem Mem.store {c:Cx} {hs:List a8} {b:Nat} {o o':Obj} {w w':World} (h:Mem c (SL.bC b o::hs) w) (hk:aD [b] w w') (ho:w'.heap[b]? = some o'):Mem c (SL.bC b o'::hs) w':=
 Mem.change (As:=[SL.bC b o]) (Bs:=[SL.bC b o']) h fun fp _ hf=>by
  obtain ⟨f1,f2,e,⟨e1,_⟩,e2⟩:=hf;have:fp=[b]:=by rw [e,e1,show f2=[] from e2];rfl
  subst this;exact ⟨hk,[b],by simp,⟨[b],[],I,⟨I,ho⟩,I⟩,fun x hx=>.inl hx⟩
theorem Mem.base {c:Cx} {hs:List a8} {w:World} (h:Mem c hs w) {b:Nat} (hb:b<c.w0.heap.size) (hm:b ∉ c.md):w.heap[b]? = c.w0.heap[b]?:=h.keeps.block b hb hm
def mark (r:Nat):Deferred:={ target:=.collected r,args:=#[] }
def mC (D:List Nat):List a8:=D.map fun r=>bC r (.deferred (some []))
structure St (c:Cx) (D:List Nat) (sl:aI) (hs:List a8) (a:Act) (w:World):Prop where
 mem:Mem c (hs++mC D) w
 cP:bS sl a
 size:a.tmps.size=c.nt
 defers:a.defers=D.map mark
def Tr (c:Cx) (D:List Nat) (sl:aI) (hs:List a8) (X:Act->World->Prop):Prop:=∀ a w,St c D sl hs a w->X a w
theorem St.qP {c:Cx} {D:List Nat} {sl:aI} {hs:List a8} {a:Act} {w:World} (h:St c D sl hs a w):Mem c hs w:=h.mem.lA
theorem St.put {c:Cx} {D:List Nat} {sl:aI} {hs:List a8} {a:Act} {w:World} (h:St c D sl hs a w) {d:Nat} (hd:d<c.nt) (v:Value):St c D ((d,v)::sl) hs (a.put (some d) v) w:=
 ⟨h.mem,h.cP.put (by rw [h.size];exact hd) v,by simp [Act.put,h.size],h.defers⟩
theorem St.heap {c:Cx} {D:List Nat} {sl:aI} {hs hs':List a8} {a:Act} {w w':World} (h:St c D sl hs a w) (hm:Mem c (hs'++mC D) w'):St c D sl hs' a w':=
 ⟨hm,h.cP,h.size,h.defers⟩
def FR (r:Option Nat):Fence:={ Fence.wide with round:=r }
def WP (P:Program) (r:Option Nat) (code:Code) (Q:Exit->Act->World->Prop):Act->World->Prop:=code.wpIn (FR r) 0 P Q
def WL (P:Program) (r:Option Nat) (ops:Array Oper) (Q:Exit->Act->World->Prop):List Oper->Act->World->Prop
 | [],a,w=>Q .normal a w
 | o :: rest, a, w =>
  if Region.wanted o (yielded ops a.tmps) then o.wpIn (FR r) 0 P a w (WL P r ops Q rest) Q else WL P r ops Q rest (a.put o.dst undef) w
theorem dO (r:Option Nat) (o:Oper) (P:Program) (w:World) (ρ:Operand->Value):∀ f,o.about P w ρ=some f->(FR r).fn f:=fun _ _=>trivial
theorem xg {P:Program} {r:Option Nat} {ops:Array Oper} {Q:Exit->Act->World->Prop} (l:List Oper):∀ k,(∀ j,l[j]? = ops[k+j]?)->wpOpsIn (FR r) 0 P ops Q (List.range' k l.length)=WL P r ops Q l:=by
 induction l with
 | nil=>intro k _;funext a w;simp [wpOpsIn,WL]
 | cons o l ih =>
  intro k h;have h0:ops[k]? = some o:=by simpa using (h 0).symm
  have ih':=ih (k+1) (fun j=>by have:=h (j+1);simpa [Nat.add_assoc,Nat.add_comm 1 j] using this)
  funext a w;simp only [List.length_cons,List.range'_succ,wpOpsIn,h0,WL,ih'];split
  ·rfl
  ·simp [FR,Fence.wide]
theorem mJ {P:Program} {r:Option Nat} {c:Cx} {D:List Nat} {sl:aI} {hs:List a8} {id:Nat} {l:List Oper} {Q:Exit->Act->World->Prop}
  (h:Tr c D sl hs (WL P r l.toArray Q l)):Tr c D sl hs (WP P r (.region id l.toArray false) Q):=fun a w a7=>by
 unfold WP;refine wpIn_region ?_;rw [List.range_eq_range',show l.toArray.size=l.length from by simp,xg l 0 (by simp)];exact h a w a7
theorem qG {P:Program} {r:Option Nat} {c:Cx} {D:List Nat} {sl:aI} {hs:List a8} {x y:Code} {Q:Exit->Act->World->Prop}
  (h:Tr c D sl hs (WP P r x (Exit.then (WP P r y Q) Q))):Tr c D sl hs (WP P r (.seq x y) Q):=fun a w a7=>wpIn_seq (h a w a7)
theorem u4 {P:Program} {r:Option Nat} {c:Cx} {D:List Nat} {sl:aI} {hs:List a8} {ops:Array Oper} {Q:Exit->Act->World->Prop}
  (h:Tr c D sl hs (Q .normal)):Tr c D sl hs (WL P r ops Q []):=h
theorem uq {c:Cx} {D:List Nat} {sl:aI} {hs:List a8} {N:Act->World->Prop} {Q:Exit->Act->World->Prop}
  (h:Tr c D sl hs N):Tr c D sl hs (Exit.then N Q .normal):=h
theorem AX {c:Cx} {D:List Nat} {sl:aI} {hs:List a8} {N:Act->World->Prop} {Q:Exit->Act->World->Prop}
  (h:Tr c D sl hs (Q .ret)):Tr c D sl hs (Exit.then N Q .ret):=h
theorem zr {c:Cx} {D:List Nat} {sl:aI} {hs:List a8} {N:Act->World->Prop} {Q:Exit->Act->World->Prop} {id:Nat}
  (h:Tr c D sl hs (Q (.exit id))):Tr c D sl hs (Exit.then N Q (.exit id)):=h
theorem qu {c:Cx} {D:List Nat} {sl:aI} {hs:List a8} {id:Nat} {Q:Exit->Act->World->Prop}
  (h:Tr c D sl hs (Q .normal)):Tr c D sl hs (Exit.inBlock id Q .normal):=h
theorem CN {c:Cx} {D:List Nat} {sl:aI} {hs:List a8} {id:Nat} {Q:Exit->Act->World->Prop}
  (h:Tr c D sl hs (Q .ret)):Tr c D sl hs (Exit.inBlock id Q .ret):=h
theorem A6 {c:Cx} {D:List Nat} {sl:aI} {hs:List a8} {id:Nat} {Q:Exit->Act->World->Prop}
  (h:Tr c D sl hs (Q .normal)):Tr c D sl hs (Exit.inBlock id Q (.exit id)):=fun a w a7=>by
 simp only [Exit.inBlock,if_true];exact h a w a7
theorem u6 {c:Cx} {D:List Nat} {sl:aI} {hs:List a8} {id VD:Nat} {Q:Exit->Act->World->Prop} (hne:Nat.beq VD id=false)
  (h:Tr c D sl hs (Q (.exit VD))):Tr c D sl hs (Exit.inBlock id Q (.exit VD)):=fun a w a7=>by
 have:¬ VD=id:=fun e=>by subst e;simp at hne
 simp only [Exit.inBlock,this,if_false];exact h a w a7
theorem Hy {P:Program} {r:Option Nat} {c:Cx} {D:List Nat} {sl:aI} {hs:List a8} {id:Nat} {x:Code} {Q:Exit->Act->World->Prop}
  (h:Tr c D sl hs (WP P r x (Exit.inBlock id Q))):Tr c D sl hs (WP P r (.block id x) Q):=fun a w a7=>wpIn_block (h a w a7)
theorem Em {P:Program} {r:Option Nat} {c:Cx} {D:List Nat} {sl:aI} {hs:List a8} {Q:Exit->Act->World->Prop}
  (h:Tr c D sl hs (Q .normal)):Tr c D sl hs (WP P r .skip Q):=fun a w a7=>wpIn_skip (h a w a7)
theorem Ma {P:Program} {r:Option Nat} {c:Cx} {D:List Nat} {sl:aI} {hs:List a8} {id:Nat} {Q:Exit->Act->World->Prop}
  (h:Tr c D sl hs (Q (.exit id))):Tr c D sl hs (WP P r (.exit id) Q):=fun a w a7=>wpIn_exit (h a w a7)
theorem Hs {P:Program} {r:Option Nat} {c:Cx} {D:List Nat} {sl:aI} {hs:List a8} {Q:Exit->Act->World->Prop}
  (h:Tr c D sl hs (Q .ret)):Tr c D sl hs (WP P r .ret Q):=fun a w a7=>wpIn_ret (h a w a7)
theorem Eo {P:Program} {r:Option Nat} {c:Cx} {D:List Nat} {sl:aI} {hs:List a8} {x:Operand} {b:Bool} {u v:Code} {Q:Exit->Act->World->Prop} (hx:Is sl x (.bool b))
  (ht:b=true->Tr c D sl hs (WP P r u Q)) (hf:b=false->Tr c D sl hs (WP P r v Q)):Tr c D sl hs (WP P r (.cond x u v) Q):=fun a w a7=>
 wpIn_cond_split (hx a a7.cP) (fun e=>ht e a w a7) (fun e=>hf e a w a7)
theorem cE {P:Program} {r:Option Nat} {c:Cx} {D:List Nat} {sl:aI} {hs:List a8} {x:Operand} {u v:Code} {Q:Exit->Act->World->Prop} (hx:Is sl x (.bool true))
  (ht:Tr c D sl hs (WP P r u Q)):Tr c D sl hs (WP P r (.cond x u v) Q):=fun a w a7=>wpIn_cond_true (hx a a7.cP) (ht a w a7)
theorem bR {P:Program} {r:Option Nat} {c:Cx} {D:List Nat} {sl:aI} {hs:List a8} {x:Operand} {u v:Code} {Q:Exit->Act->World->Prop} (hx:Is sl x (.bool false))
  (ht:Tr c D sl hs (WP P r v Q)):Tr c D sl hs (WP P r (.cond x u v) Q):=fun a w a7=>wpIn_cond_false (hx a a7.cP) (ht a w a7)
theorem FN {P:Program} {r:Option Nat} {c:Cx} {D:List Nat} {sl:aI} {hs:List a8} {x:Operand} {p:Prop} {inst:Decidable p} {u v:Code} {Q:Exit->Act->World->Prop} (hx:Is sl x (.bool (decide p)))
  (ht:p->Tr c D sl hs (WP P r u Q)) (hf:¬ p->Tr c D sl hs (WP P r v Q)):Tr c D sl hs (WP P r (.cond x u v) Q):=
 Eo hx (fun e=>ht (of_decide_eq_true e)) (fun e=>hf (of_decide_eq_false e))
theorem L7 {P:Program} {r:Option Nat} {c:Cx} {D:List Nat} {sl:aI} {hs:List a8} {x:Code} {Q:Exit->Act->World->Prop} {ι:Type} (Φ:ι->Prop) (sI:ι->aI) (hI:ι->List a8) (μ:ι->Nat)
  (h0:Tr c D sl hs fun a w=>∃ i,Φ i/\St c D (sI i) (hI i) a w)
  (round:∀ i,Φ i->Tr c D (sI i) (hI i) (WP P r x (Exit.then (fun a w=>∃ j,Φ j/\μ j<μ i/\St c D (sI j) (hI j) a w) Q))) :
  Tr c D sl hs (WP P r (.loop x) Q):=fun a w a7=>by
 have key:∀ (n:Nat) i,μ i=n->Φ i->∀ a w,St c D (sI i) (hI i) a w->True:=fun _ _ _ _ _ _ _=>trivial
 -- a measure on Wi: yf least 'μ i' of YR Me fit
 let fits:Act->World->Nat->Prop:=fun a w n=>∃ i,Φ i/\μ i=n/\St c D (sI i) (hI i) a w
 have least:∀ a w,(∃ n,fits a w n)->∃ n,fits a w n/\∀ m,fits a w m->n<=m:=by
  intro a w ⟨n,hn⟩
  induction n using Nat.strongRecOn with
  | _ n ih =>
   by_cases h:∃ m,m<n/\fits a w m
   ·obtain ⟨m,hm,hf⟩:=h;exact ih m hm hf
   ·exact ⟨n,hn,fun m hm=>Nat.le_of_not_lt fun aL=>h ⟨m,aL,hm⟩⟩
 let M:Act->World->Nat:=fun a w=>Classical.epsilon fun n=>fits a w n/\∀ m,fits a w m->n<=m
 have hM:∀ a w,(∃ n,fits a w n)->fits a w (M a w)/\∀ m,fits a w m->M a w<=m:=fun a w h=>Classical.epsilon_spec (least a w h)
 refine wpIn_loop (fun a w=>∃ n,fits a w n) M ?_ ?_
 ·obtain ⟨i,hi,hs⟩:=h0 a w a7;exact ⟨μ i,i,hi,I,hs⟩
 ·intro a w hI;obtain ⟨⟨i,hi,hm,hs⟩,_⟩:=hM a w hI;refine wpIn_mono (round i hi a w hs) fun e a' w' h=>?_;cases e with
  | normal =>
   obtain ⟨j,hj,aL,hs'⟩:=h;have hf:fits a' w' (μ j):=⟨j,hj,I,hs'⟩;exact ⟨⟨_,hf⟩,Nat.lt_of_le_of_lt ((hM a' w' ⟨_,hf⟩).2 _ hf) (by rw [<- hm];exact aL)⟩
  | _=>exact h
theorem mH {P:Program} {r:Option Nat} {ops:Array Oper} {Q:Exit->Act->World->Prop} {o:Oper} {rest:List Oper} {a:Act} {w:World} (hg:o.guard=none)
  (h:o.wpIn (FR r) 0 P a w (WL P r ops Q rest) Q):WL P r ops Q (o::rest) a w:=by
 unfold WL;rw [if_pos (by simp [Region.wanted,hg])];exact h
def cQ (P:Program) (c:Cx) (sl:aI) (hs:List a8) (o:Oper) (V:Value):Prop:=
 (∀ d,o.op≠.defer d)/\∀ a w,bS sl a->Mem c hs w->(execOp a.eval o).run P w=.ok (.value V) w
theorem ab {P:Program} {r:Option Nat} {c:Cx} {D:List Nat} {sl:aI} {hs:List a8} {ops:Array Oper} {Q:Exit->Act->World->Prop} {d:Nat} {op:Op} {ty:TypeId} {pos:String} {af:Array Edge} {rest:List Oper} {V:Value}
  (hr:cQ P c sl hs ⟨some d,op,ty,pos,af,none⟩ V) (hd:Nat.blt d c.nt=true) (k:Tr c D ((d,V)::sl) hs (WL P r ops Q rest)) :
  Tr c D sl hs (WL P r ops Q (⟨some d,op,ty,pos,af,none⟩::rest)):=fun a w a7=>by
 refine mH I ⟨dO _ _ _ _ _,?_⟩;rw [Oper.semAt_eq _ _ _ hr.1,hr.2 a w a7.cP a7.qP];exact k _ _ (a7.put (by simpa [Nat.blt_eq] using hd) V)
theorem k7 {ops:Array Oper} {o:Oper} {j g:Nat} {want c0 q:Bool} {a:Act} {sl:aI} (hg:o.guard=some (j,want)) (hj:((ops[j]?).bind (·.dst))=some g) (hs:bS sl a) (hq:cJ sl g=some (gv c0 (.bool q))) :
  Region.wanted o (yielded ops a.tmps)=(c0&&(q==want)):=by
 have ht:=hs _ _ hq;simp only [Region.wanted,hg,yielded,hj,Option.bind_some,ht];cases c0 <;> cases q <;> cases want <;> rfl
theorem El {P:Program} {r:Option Nat} {c:Cx} {D:List Nat} {sl:aI} {hs:List a8} {ops:Array Oper} {Q:Exit->Act->World->Prop} {d:Nat} {op:Op} {ty:TypeId} {pos:String} {af:Array Edge} {rest:List Oper} {V:Value}
  {j g:Nat} {want c0 q:Bool} (hj:((ops[j]?).bind (·.dst))=some g) (hq:cJ sl g=some (gv c0 (.bool q)))
  (hr:(c0&&(q==want))=true->cQ P c sl hs ⟨some d,op,ty,pos,af,some (j,want)⟩ V) (hd:Nat.blt d c.nt=true) (k:Tr c D ((d,gv (c0&&(q==want)) V)::sl) hs (WL P r ops Q rest)) :
  Tr c D sl hs (WL P r ops Q (⟨some d,op,ty,pos,af,some (j,want)⟩::rest)):=fun a w a7=>by
 unfold WL;rw [k7 I hj a7.cP hq];by_cases h:(c0&&(q==want))=true
 ·rw [if_pos h];refine ⟨dO _ _ _ _ _,?_⟩;rw [Oper.semAt_eq _ _ _ (hr h).1,(hr h).2 a w a7.cP a7.qP];rw [uS h] at k;exact k _ _ (a7.put (by simpa [Nat.blt_eq] using hd) V)
 ·rw [if_neg h];rw [wh (by simpa using h)] at k;exact k _ _ (a7.put (by simpa [Nat.blt_eq] using hd) undef)
theorem u0 {P:Program} {r:Option Nat} {c:Cx} {D:List Nat} {sl:aI} {hs:List a8} {ops:Array Oper} {Q:Exit->Act->World->Prop} {d:Nat} {op:Op} {ty:TypeId} {pos:String} {af:Array Edge} {rest:List Oper} {V:Value}
  {j g:Nat} {want q:Bool} (hj:((ops[j]?).bind (·.dst))=some g) (hq:cJ sl g=some (.bool q))
  (hr:(q==want)=true->cQ P c sl hs ⟨some d,op,ty,pos,af,some (j,want)⟩ V) (hd:Nat.blt d c.nt=true) (k:Tr c D ((d,gv (q==want) V)::sl) hs (WL P r ops Q rest)) :
  Tr c D sl hs (WL P r ops Q (⟨some d,op,ty,pos,af,some (j,want)⟩::rest)):=
 El (c0:=true) hj (by rw [hq];rfl) (by simpa using hr) hd (by simpa using k)
end Go.SL
namespace Go.SL
open Go
def kF:TypeDesc->Bool
 | .struct _ | .array _ _=>true
 | _=>false
def OI (P:Program) (t:TypeId):Option (Bool×Nat):=
 match P.underlying t,P.info? t with
 | some d,some i=>some (kF d,i.size)
 | _,_=>none
class Ty (P:Program) (t:TypeId) (agg:outParam Bool) (n:outParam Nat):Prop where
 eq:OI P t=some (agg,n)
class iU (P:Program) (t:TypeId) (d:outParam TypeDesc):Prop where
 eq:P.underlying t=some d
class lQ (P:Program) (t:TypeId) (v:outParam Value):Prop where
 eq:(P.info? t).map (·.zero)=some (some v)
class wV (P:Program) (t:TypeId) (n:outParam Nat):Prop where
 eq:(P.info? t).map (·.bytes)=some n
section
variable {P:Program} {w:World} {t:TypeId}
theorem Ty.parts {agg:Bool} {n:Nat} [h:Ty P t agg n]:∃ d i,P.underlying t=some d/\P.info? t=some i/\kF d=agg/\i.size=n:=by
 have:=h.eq;unfold OI at this;split at this
 ·rename_i d i hd hi;cases this;exact ⟨d,i,hd,hi,I,I⟩
 ·cases this
theorem aU {d:TypeDesc} (h:P.underlying t=some d):(underlying t).run P w=.ok d w:=by simp [underlying,h]
theorem fS {i:TypeInfo} (h:P.info? t=some i):(typeInfo t).run P w=.ok i w:=by simp [typeInfo,h]
theorem gr {agg:Bool} {n:Nat} [h:Ty P t agg n]:(sizeOf t).run P w=.ok n w:=by
 obtain ⟨d,i,_,hi,_,hn⟩:=Ty.parts (P:=P) (t:=t);simp [sizeOf,fS hi,hn]
theorem vl {agg:Bool} {n:Nat} [h:Ty P t agg n]:(isAgg t).run P w=.ok agg w:=by
 obtain ⟨d,i,hd,_,ha,_⟩:=Ty.parts (P:=P) (t:=t);unfold isAgg;rw [Sem.run_bind,aU hd,Result.andThen_ok];subst ha;cases d <;> rfl
theorem iM {v:Value} [h:lQ P t v]:(zeroValue t).run P w=.ok v w:=by
 have:=h.eq;cases hi:P.info? t with
 | none=>rw [hi] at this;cases this
 | some i =>
  rw [hi] at this;have hz:i.zero=some v:=by simpa using this
  simp [zeroValue,fS hi,hz]
theorem zJ {a:Addr} {v:Value} (h:w.cell? a=some v) (m:Mode):(load a m).run P w=.ok v w:=by simp [h]
theorem cell_of_block {b:Nat} {cs:Array Value} {E:TypeId} {fz:Nat×Nat} (h:w.heap[b]? = some (.cells cs E fz)) (o:Nat):w.cell? ⟨b,o,none⟩=cs[o]?:=by
 simp [World.cell?,h]
theorem ez (b o n:Nat):Addr.add ⟨b,o,none⟩ n=⟨b,o+n,none⟩:=by
 unfold Addr.add;split
 ·rename_i h;simp [h]
 ·rfl
theorem mP {b o:Nat}:∀ (n i:Nat) (acc:Array Value) (vs:List Value),vs.length=n->(∀ j v,vs[j]? = some v->w.cell? ⟨b,o+(i+j),none⟩=some v) ->
  (loadCellsFrom ⟨b,o,none⟩ i n acc).run P w=.ok (acc++vs.toArray) w
 | 0, i, acc, vs, hl, _ => by
  have:vs=[]:=List.length_eq_zero_iff.1 hl;subst this;simp [loadCellsFrom]
 | n+1,i,acc,[],hl,_=>by simp at hl
 | n + 1, i, acc, v :: vs, hl, hc => by
  have h0:w.cell? (Addr.add ⟨b,o,none⟩ i)=some v:=by rw [ez];exact hc 0 v I
  simp only [loadCellsFrom,Sem.run_bind,zJ h0,Result.andThen_ok];rw [mP n (i+1) (acc.push v) vs (by simpa using hl) (fun j u hu=>by
   have:=hc (j+1) u (by simpa using hu);rw [show i+1+j=i+(j+1) from by omega];exact this)]
  simp
theorem rB {b o n:Nat} {vs:List Value} (hl:vs.length=n) (hc:∀ j v,vs[j]? = some v->w.cell? ⟨b,o+j,none⟩=some v):(loadCells ⟨b,o,none⟩ n).run P w=.ok vs.toArray w:=by
 unfold loadCells;rw [mP n 0 #[] vs hl (fun j v hv=>by simpa using hc j v hv)]
 simp
theorem tt {b o n:Nat} {v:Value} [Ty P t false n] (hc:w.cell? ⟨b,o,none⟩=some v):(loadVar t ⟨b,o,none⟩).run P w=.ok v w:=by
 unfold loadVar;rw [Sem.run_bind,vl (agg:=false) (n:=n),Result.andThen_ok];simp [hc]
theorem oL {b o n:Nat} {vs:List Value} [Ty P t true n] (hl:vs.length=n) (hc:∀ j v,vs[j]? = some v->w.cell? ⟨b,o+j,none⟩=some v):(loadVar t ⟨b,o,none⟩).run P w=.ok (.agg vs.toArray) w:=by
 unfold loadVar;rw [Sem.run_bind,vl (agg:=true) (n:=n),Result.andThen_ok];simp only [if_true,Sem.run_bind,gr (t:=t) (agg:=true) (n:=n),Result.andThen_ok,rB hl hc,Sem.run_pure]
end
def At (c:Cx) (hs:List a8) (b o:Nat) (v:Value):Prop:=∀ w,Mem c hs w->w.cell? ⟨b,o,none⟩=some v
theorem At.bC {c:Cx} {hs hs':List a8} {b o:Nat} {cs:Array Value} {E:TypeId} {fz:Nat×Nat} {v:Value} (ht:Take hs (SL.bC b (.cells cs E fz)) hs') (hv:cs[o]? = some v):At c hs b o v:=
 fun w hm=>by rw [cell_of_block (hm.bC ht)];exact hv
theorem At.base {c:Cx} {hs:List a8} {b o:Nat} {v:Value} (h:c.w0.cell? ⟨b,o,none⟩=some v) (Gn:c.md=[]):At c hs b o v:=fun w hm=>by
 have hb:b<c.w0.heap.size:=World.block_lt_of_cell? c.w0 ⟨b,o,none⟩ h;have:=hm.base hb (by rw [Gn];simp);rw [<- h];simp [World.cell?,this]
theorem At.Cl {c:Cx} {hs:List a8} {b o:Nat} {v:Value} (h:c.w0.cell? ⟨b,o,none⟩=some v) (Gn:b ∉ c.md):At c hs b o v:=fun w hm=>by
 have hb:b<c.w0.heap.size:=World.block_lt_of_cell? c.w0 ⟨b,o,none⟩ h;have:=hm.base hb Gn;rw [<- h];simp [World.cell?,this]
def eU (c:Cx) (hs:List a8) (b o:Nat):List Value->Prop
 | []=>True
 | v::vs=>At c hs b o v/\eU c hs b (o+1) vs
theorem eU.get {c:Cx} {hs:List a8} {b:Nat}:∀ {vs:List Value} {o:Nat},eU c hs b o vs->∀ j v,vs[j]? = some v->At c hs b (o+j) v
 | [],_,_,j,v,h=>by simp at h
 | x :: vs, o, ⟨h0, h1⟩, j, v, h => by
  cases j with
  | zero=>simp at h;subst h;exact h0
  | succ j=>have:=eU.get h1 j v (by simpa using h);rwa [show o+1+j=o+(j+1) from by omega] at this
theorem eU.vz {c:Cx} {hs:List a8} {b:Nat}:∀ {vs:List Value} {o:Nat},(∀ j v,vs[j]? = some v->At c hs b (o+j) v)->eU c hs b o vs
 | [],_,_=>trivial
 | x::vs,o,h=>⟨h 0 x rfl,eU.vz fun j v hv=>by have:=h (j+1) v (by simpa using hv);rwa [show o+(j+1)=o+1+j from by omega] at this⟩
theorem eU.base {c:Cx} {hs:List a8} {b o:Nat} {vs:List Value} (h:∀ (j:Nat) (u:Value),vs[j]? = some u->c.w0.cell? ⟨b,o+j,none⟩=some u) (Gn:c.md=[]):eU c hs b o vs:=
 eU.vz fun j u hu=>At.base (h j u hu) Gn
def eu:List Value->Nat->Nat->List Value
 | _,_,0=>[]
 | [],_,_+1=>[]
 | v::r,0,n+1=>v::eu r 0 n
 | _::r,o+1,n+1=>eu r o (n+1)
theorem jr:∀ (cs:List Value) (o n:Nat),eu cs o n=(cs.drop o).take n
 | cs,o,0=>by simp [eu]
 | [],o,n+1=>by simp [eu]
 | v::r,0,n+1=>by simp [eu,jr r 0 n]
 | v::r,o+1,n+1=>by simp [eu,jr r o (n+1)]
def uf:List Value->Nat->Option Value
 | [],_=>none
 | v::_,0=>some v
 | _::r,n+1=>uf r n
theorem uO:∀ (cs:List Value) (o:Nat),uf cs o=cs[o]?
 | [],_=>by simp [uf]
 | v::_,0=>by simp [uf]
 | _::r,n+1=>by simp [uf,uO r n]
theorem At.lit {c:Cx} {hs hs':List a8} {b o:Nat} {cs:List Value} {E:TypeId} {fz:Nat×Nat} {v:Value} (ht:Take hs (SL.bC b (.cells cs.toArray E fz)) hs') (hv:uf cs o=some v):At c hs b o v:=
 At.bC ht (by rw [uO] at hv;simpa using hv)
theorem eU.bC {c:Cx} {hs hs':List a8} {b o n:Nat} {cs:List Value} {E:TypeId} {fz:Nat×Nat} {vs:List Value} (ht:Take hs (SL.bC b (.cells cs.toArray E fz)) hs') (hv:eu cs o n=vs):eU c hs b o vs:=by
 subst hv;refine eU.vz fun j v hv=>At.bC ht ?_;simp only [jr,List.getElem?_take,List.getElem?_drop] at hv;split at hv
 ·simpa using hv
 ·cases hv
section
variable {P:Program} {c:Cx} {sl:aI} {hs hs':List a8} {dst:Option Tmp} {ty:TypeId} {pos:String} {af:Array Edge} {g:Option (Nat×Bool)}
theorem aZ {x:Operand} {v:Value} (hx:Is sl x v):cQ P c sl hs ⟨dst,.move x,ty,pos,af,g⟩ v:=
 ⟨by simp,fun a w ha _=>by simp [execOp,hx a ha]⟩
theorem cF {x:Operand} {v:Value} (hx:Is sl x v):cQ P c sl hs ⟨dst,.assign x,ty,pos,af,g⟩ v:=
 ⟨by simp,fun a w ha _=>by simp [execOp,hx a ha]⟩
theorem uA {x y z:Operand} {q:Bool} {v u:Value} (hx:Is sl x (.bool q)) (hy:Is sl y v) (hz:Is sl z u):cQ P c sl hs ⟨dst,.pick x y z,ty,pos,af,g⟩ (bif q then v else u):=
 ⟨by simp,fun a w ha _=>by simp [execOp,hx a ha,hy a ha,hz a ha,asBool,cond_eq_ite]⟩
theorem bX {x:Operand} {t:Nat} {p q:Bool} (hx:Is sl x (.bool p)) (hq:cJ sl t=some (gv (p==false) (.bool q))) :
  cQ P c sl hs ⟨dst,.pick x (.const (.bool true)) (.tmp t),ty,pos,af,g⟩ (.bool (p||q)):=
 ⟨by simp,fun a w ha _=>by
  have h2:=ha.eval hq;simp only [execOp,hx a ha,h2,asBool];cases p <;> simp [gv,Act.eval]⟩
theorem bH {x:Operand} {t:Nat} {p q:Bool} (hx:Is sl x (.bool p)) (hq:cJ sl t=some (gv (p==true) (.bool q))) :
  cQ P c sl hs ⟨dst,.pick x (.tmp t) (.const (.bool false)),ty,pos,af,g⟩ (.bool (p&&q)):=
 ⟨by simp,fun a w ha _=>by
  have h2:=ha.eval hq;simp only [execOp,hx a ha,h2,asBool];cases p <;> simp [gv,Act.eval]⟩
theorem ju {x:Operand} {t:Nat} {c0 p q:Bool} (hc:c0=true) (hx:Is sl x (.bool p)) (hq:cJ sl t=some (gv (c0&&(p==false)) (.bool q))) :
  cQ P c sl hs ⟨dst,.pick x (.const (.bool true)) (.tmp t),ty,pos,af,g⟩ (.bool (p||q)):=bX hx (by rw [hq,hc,Bool.true_and])
theorem gM {x:Operand} {t:Nat} {c0 p q:Bool} (hc:c0=true) (hx:Is sl x (.bool p)) (hq:cJ sl t=some (gv (c0&&(p==true)) (.bool q))) :
  cQ P c sl hs ⟨dst,.pick x (.tmp t) (.const (.bool false)),ty,pos,af,g⟩ (.bool (p&&q)):=bH hx (by rw [hq,hc,Bool.true_and])
theorem iW {op:BinOp} {t u:TypeId} {x y:Operand} {v u' r:Value} (hx:Is sl x v) (hy:Is sl y u') (hr:∀ w,(do eqGuard op t x y v u';binOp op t v u').run P w=.ok r w) :
  cQ P c sl hs ⟨dst,.binOp op t x y u,ty,pos,af,g⟩ r:=
 ⟨by simp,fun a w ha _=>by
  have:=hr w;simp only [Sem.run_bind] at this;simp only [execOp,hx a ha,hy a ha,Sem.run_bind,this,Result.andThen_ok,Sem.run_pure]⟩
theorem fV {op:BinOp} {t:TypeId} {x y:Operand} {k k':IntKind} {a b:Int} {w:World}:(eqGuard op t x y (.int k a) (.int k' b)).run P w=.ok () w:=by
 unfold eqGuard;split <;> rfl
theorem ly {op:BinOp} {t:TypeId} {x y:Operand} {a b:ByteArray} {w:World}:(eqGuard op t x y (.string a) (.string b)).run P w=.ok () w:=by
 unfold eqGuard;split <;> rfl
theorem Au {op:BinOp} {t:TypeId} {x y:Operand} {a b:Bool} {w:World}:(eqGuard op t x y (.bool a) (.bool b)).run P w=.ok () w:=by
 unfold eqGuard;split <;> rfl
def Vs (n:Int):Prop:=-9223372036854775808<=n/\n<=9223372036854775807
theorem H0 {t u:TypeId} {x y:Operand} {a b:Int} (hx:Is sl x (.int .i64 a)) (hy:Is sl y (.int .i64 b)) (hb:Vs (a+b)) :
  cQ P c sl hs ⟨dst,.binOp .add t x y u,ty,pos,af,g⟩ (.int .i64 (a+b)):=
 iW hx hy fun w=>by simp [fV,binOp,Op.intArith,IntWalk.i64_in _ hb]
theorem sD {t u:TypeId} {x y:Operand} {a b:Int} (hx:Is sl x (.int .i64 a)) (hy:Is sl y (.int .i64 b)) (hb:Vs (a-b)) :
  cQ P c sl hs ⟨dst,.binOp .sub t x y u,ty,pos,af,g⟩ (.int .i64 (a-b)):=
 iW hx hy fun w=>by simp [fV,binOp,Op.intArith,IntWalk.i64_in _ hb]
theorem EB {k:IntKind} {t u:TypeId} {x y:Operand} {a b:Int} (hx:Is sl x (.int k a)) (hy:Is sl y (.int k b)) :
  cQ P c sl hs ⟨dst,.binOp .sub t x y u,ty,pos,af,g⟩ (.int k (k.wrap (a-b))):=
 iW hx hy fun w=>by simp [fV,binOp,Op.intArith]
theorem mm {k:IntKind} {t u:TypeId} {x y:Operand} {a b:Int} (hx:Is sl x (.int k a)) (hy:Is sl y (.int k b)) :
  cQ P c sl hs ⟨dst,.binOp .lss t x y u,ty,pos,af,g⟩ (.bool (decide (a<b))):=
 iW hx hy fun w=>by simp [fV,binOp,Op.intCmp]
theorem lh {k:IntKind} {t u:TypeId} {x y:Operand} {a b:Int} (hx:Is sl x (.int k a)) (hy:Is sl y (.int k b)) :
  cQ P c sl hs ⟨dst,.binOp .leq t x y u,ty,pos,af,g⟩ (.bool (decide (a<=b))):=
 iW hx hy fun w=>by simp [fV,binOp,Op.intCmp]
theorem mn {k:IntKind} {t u:TypeId} {x y:Operand} {a b:Int} (hx:Is sl x (.int k a)) (hy:Is sl y (.int k b)) :
  cQ P c sl hs ⟨dst,.binOp .gtr t x y u,ty,pos,af,g⟩ (.bool (decide (b<a))):=
 iW hx hy fun w=>by simp [fV,binOp,Op.intCmp]
theorem zK {k:IntKind} {t u:TypeId} {x y:Operand} {a b:Int} (hx:Is sl x (.int k a)) (hy:Is sl y (.int k b)) :
  cQ P c sl hs ⟨dst,.binOp .geq t x y u,ty,pos,af,g⟩ (.bool (decide (b<=a))):=
 iW hx hy fun w=>by simp [fV,binOp,Op.intCmp]
theorem jE {k:IntKind} {t u:TypeId} {x y:Operand} {a b:Int} (hx:Is sl x (.int k a)) (hy:Is sl y (.int k b)) :
  cQ P c sl hs ⟨dst,.binOp .eql t x y u,ty,pos,af,g⟩ (.bool (decide (a=b))):=
 iW hx hy fun w=>by simp [fV,binOp,Op.intCmp];rfl
theorem fZ {k:IntKind} {t u:TypeId} {x y:Operand} {a b:Int} (hx:Is sl x (.int k a)) (hy:Is sl y (.int k b)) :
  cQ P c sl hs ⟨dst,.binOp .neq t x y u,ty,pos,af,g⟩ (.bool (decide (a≠b))):=
 iW hx hy fun w=>by simp [fV,binOp,Op.intCmp];rfl
theorem eY {t:TypeId} {x:Operand} {b:Bool} (hx:Is sl x (.bool b)):cQ P c sl hs ⟨dst,.unOp .not t x,ty,pos,af,g⟩ (.bool (!b)):=
 ⟨by simp,fun a w ha _=>by simp [execOp,hx a ha,Op.unary]⟩
theorem uy (a b:ByteArray):(a.toList==b.toList)=decide (a=b):=by
 rw [ByteArray.toList_eq,ByteArray.toList_eq,Bool.eq_iff_iff];simp only [beq_iff_eq,decide_eq_true_eq];constructor
 ·intro h;cases a;cases b;simp at h;rw [h]
 ·intro h;rw [h]
theorem eh {t u:TypeId} {x y:Operand} {a b:ByteArray} (hx:Is sl x (.string a)) (hy:Is sl y (.string b)) :
  cQ P c sl hs ⟨dst,.binOp .eql t x y u,ty,pos,af,g⟩ (.bool (decide (a=b))):=
 iW hx hy fun w=>by simp [ly,binOp,Op.stringOp,uy]
theorem ig {t u:TypeId} {x y:Operand} {a b:ByteArray} (hx:Is sl x (.string a)) (hy:Is sl y (.string b)) :
  cQ P c sl hs ⟨dst,.binOp .neq t x y u,ty,pos,af,g⟩ (.bool (decide (a≠b))):=
 iW hx hy fun w=>by simp [ly,binOp,Op.stringOp,uy]
theorem sE {t u:TypeId} {x y:Operand} {a b:ByteArray} (hx:Is sl x (.string a)) (hy:Is sl y (.string b)) (hb:a.size+b.size<=9223372036854775807) :
  cQ P c sl hs ⟨dst,.binOp .add t x y u,ty,pos,af,g⟩ (.string (a++b)):=
 iW hx hy fun w=>by
  simp [ly,binOp,Op.stringOp];omega
theorem ag {t:TypeId} {n:Nat} {x:Operand} {b o:Nat} {v:Value} [Ty P t false n] (hx:Is sl x (.pointer (some ⟨b,o,none⟩))) (hv:At c hs b o v) :
  cQ P c sl hs ⟨dst,.load t x,ty,pos,af,g⟩ v:=
 ⟨by simp,fun a w ha hm=>by simp [execOp,hx a ha,Instr.loadAt,Instr.sureAddr,tt (hv w hm)]⟩
theorem jD {t:TypeId} {n:Nat} {x:Operand} {b o:Nat} {vs:List Value} [Ty P t true n] (hx:Is sl x (.pointer (some ⟨b,o,none⟩))) (hv:eU c hs b o vs) (hl:vs.length=n) :
  cQ P c sl hs ⟨dst,.load t x,ty,pos,af,g⟩ (.agg vs.toArray):=
 ⟨by simp,fun a w ha hm=>by simp [execOp,hx a ha,Instr.loadAt,Instr.sureAddr,oL hl (fun j v h=>hv.get j v h w hm)]⟩
def B7 (P:Program) (t:TypeId) (i:Nat):Option Nat:=
 match P.underlying t with
 | some (.struct fs) => match fs[i]? with
  | some f => match P.info? f.type with
   | some fi=>if fi.size=0 then none else some f.offset
   | none=>none
  | none=>none
 | _=>none
class eH (P:Program) (t:TypeId) (i:Nat) (o:outParam Nat):Prop where
 eq:B7 P t i=some o
theorem eH.parts {t:TypeId} {i o:Nat} [h:eH P t i o]:∃ fs f fi,P.underlying t=some (.struct fs)/\fs[i]? = some f/\P.info? f.type=some fi/\fi.size≠0/\f.offset=o:=by
 have:=h.eq;unfold B7 at this;split at this
 ·rename_i fs NB;split at this
  ·rename_i f hf;split at this
   ·rename_i fi Rp;split at this
    ·cases this
    ·rename_i hz;cases this;exact ⟨fs,f,fi,NB,hf,Rp,hz,I⟩
   ·cases this
  ·cases this
 ·cases this
theorem ao {t:TypeId} {i o:Nat} {x:Operand} {b k q:Nat} [eH P t i o] (hx:Is sl x (.pointer (some ⟨b,k,none⟩))) (he:k+o=q) :
  cQ P c sl hs ⟨dst,.fieldAddr t x i,ty,pos,af,g⟩ (.pointer (some ⟨b,q,none⟩)):=
 ⟨by simp,fun a w ha _=>by
  subst he;obtain ⟨fs,f,fi,h1,h2,h3,h4,h5⟩:=eH.parts (P:=P) (t:=t) (i:=i);simp only [execOp,hx a ha,Instr.fieldAt,Sem.run_bind,aU h1,Result.andThen_ok,h2,Instr.sureAddr,Sem.run_pure,fieldPlace,sizeOf,fS h3,h4,if_false,ez,h5]⟩
def partOf (agg:Bool) (n:Nat) (cs:List Value) (o:Nat):Option Value:=
 bif agg then some (.agg (eu cs o n).toArray) else uf cs o
theorem MB {t:TypeId} {agg:Bool} {n:Nat} [Ty P t agg n] {cs:List Value} {o:Nat} {v:Value} {w:World} (h:partOf agg n cs o=some v):(part t cs.toArray o).run P w=.ok v w:=by
 unfold part;rw [Sem.run_bind,vl (agg:=agg) (n:=n),Result.andThen_ok];cases agg with
 | true =>
  simp only [partOf,cond_true,Option.some.injEq] at h;simp only [if_true,Sem.run_bind,gr (t:=t) (agg:=true) (n:=n),Result.andThen_ok,Sem.run_pure,<- h,jr];congr 2;simp [List.extract_eq_take_drop]
 | false =>
  simp only [partOf,cond_false,uO] at h;simp [h]
def fieldInfo (P:Program) (t:TypeId) (i:Nat):Option (Nat×TypeId):=
 match P.underlying t with
 | some (.struct fs)=>(fs[i]?).map fun f=>(f.offset,f.type)
 | _=>none
class FTy (P:Program) (t:TypeId) (i:Nat) (o:outParam Nat) (ft:outParam TypeId):Prop where
 eq:fieldInfo P t i=some (o,ft)
theorem Bv {t ft:TypeId} {i o n:Nat} {agg:Bool} {x:Operand} {cs:List Value} {v:Value} [h:FTy P t i o ft] [Ty P ft agg n] (hx:Is sl x (.agg cs.toArray)) (hv:partOf agg n cs o=some v) :
  cQ P c sl hs ⟨dst,.field t x i,ty,pos,af,g⟩ v:=
 ⟨by
   simp,fun a w ha _=>by
  have h1:=h.eq;unfold fieldInfo at h1;split at h1
  ·rename_i fs NB;obtain ⟨f,hf,he⟩:=Option.map_eq_some_iff.1 h1;simp only [Prod.mk.injEq] at he;obtain ⟨e1,e2⟩:=he;subst e1;subst e2;simp only [execOp,hx a ha,Instr.field,Sem.run_bind,aU NB,Result.andThen_ok,hf,asAgg,Sem.run_pure,MB (agg:=agg) (n:=n) hv]
  ·cases h1⟩
theorem az {t e:TypeId} {n:Nat} {agg:Bool} {x y:Operand} {a0:Option Addr} {b o len cap q:Nat} {k:IntKind} {i:Int} [hu:iU P t (.slice e)] [Ty P e agg n] (hx:Is sl x (.slice a0 len cap)) (hy:Is sl y (.int k i))
  (ha:a0=some ⟨b,o,none⟩) (h0:0<=i) (h1:i<len) (he:o+i.toNat*n=q):cQ P c sl hs ⟨dst,.indexAddr t x y,ty,pos,af,g⟩ (.pointer (some ⟨b,q,none⟩)):=
 ⟨by simp,fun a w rf _=>by
  subst he;subst ha;simp [execOp,hx a rf,hy a rf,Instr.indexAt,asIntOf,aU hu.eq,h0,h1,gr (agg:=agg) (n:=n),ez]⟩
theorem hY {t e:TypeId} {n len:Nat} {agg:Bool} {x y:Operand} {b o q:Nat} {k:IntKind} {i:Int} [hu:iU P t (.array len e)] [Ty P e agg n] (hx:Is sl x (.pointer (some ⟨b,o,none⟩))) (hy:Is sl y (.int k i))
  (h0:0<=i) (h1:i<len) (he:o+i.toNat*n=q):cQ P c sl hs ⟨dst,.indexAddr t x y,ty,pos,af,g⟩ (.pointer (some ⟨b,q,none⟩)):=
 ⟨by simp,fun a w ha _=>by
  subst he;simp [execOp,hx a ha,hy a ha,Instr.indexAt,Instr.sureAddr,asIntOf,aU hu.eq,h0,h1,gr (agg:=agg) (n:=n),ez]⟩
theorem pP {t:TypeId} {x y:Operand} {k:IntKind} {i:Int} {s:ByteArray} [hu:iU P t .string] (hx:Is sl x (.string s)) (hy:Is sl y (.int k i))
  (h0:0<=i) (h1:i<s.size):cQ P c sl hs ⟨dst,.index t x y,ty,pos,af,g⟩ (.int .u8 ((s.data.toList[i.toNat]?.getD 0).toNat:Nat)):=
 ⟨by
   simp,fun a w ha _=>by
  have aL:i.toNat<s.size:=by omega
  have hs:s[i.toNat]? = some s[i.toNat]:=getElem?_pos s i.toNat aL;have hd:s.data.toList[i.toNat]?.getD 0=s[i.toNat]:=by
   rw [Array.getElem?_toList,show s.data[i.toNat]? = some s.data[i.toNat] from Array.getElem?_eq_getElem aL]
   rfl
  simp [execOp,hx a ha,hy a ha,Instr.index,asIntOf,aU hu.eq,h0,hs,<- hd]⟩
theorem Bu {f:Fn} {first captured:Array Operand} {vs us:Array Value} (h1:∀ a,bS sl a->first.map a.eval=vs) (h2:∀ a,bS sl a->captured.map a.eval=us) :
  cQ P c sl hs ⟨dst,.makeFunc f first captured,ty,pos,af,g⟩ (.func f vs us):=
 ⟨by simp,fun a w ha _=>by simp [execOp,h1 a ha,h2 a ha,Instr.makeFunc]⟩
theorem gN {x:Operand} {i:Nat} {vs:List Value} {v:Value} (hx:Is sl x (.tuple vs.toArray)) (hv:uf vs i=some v):cQ P c sl hs ⟨dst,.extract x i,ty,pos,af,g⟩ v:=
 ⟨by simp,fun a w ha _=>by simp [execOp,hx a ha,Instr.extract,<- uO,hv]⟩
theorem HY {t:TypeId} {parts:Array (Nat×Operand)} {ps:Array (Nat×Value)} {v:Value} (hp:∀ a,bS sl a->(parts.map fun (i,x)=>(i,a.eval x))=ps) (hb:∀ w,(Instr.build t ps).run P w=.ok v w) :
  cQ P c sl hs ⟨dst,.build t parts,ty,pos,af,g⟩ v:=
 ⟨by simp,fun a w ha _=>by simp only [execOp,hp a ha,Sem.run_bind,hb w,Result.andThen_ok,Sem.run_pure]⟩
theorem cg {t:TypeId} {e:TypeId} {x:Operand} {b:Option Addr} {n cap:Nat} [hu:iU P t (.slice e)] (hx:Is sl x (.slice b n cap)) :
  cQ P c sl hs ⟨dst,.call ⟨.builtin .len,#[x],#[t]⟩,ty,pos,af,g⟩ (.int .i64 n):=
 ⟨by simp,fun a w ha _=>by simp [execOp,hx a ha,resolve,invoke,builtin,Builtin.len_,aU hu.eq,goInt]⟩
theorem fv {t:TypeId} {x:Operand} {s:ByteArray} [hu:iU P t .string] (hx:Is sl x (.string s)) :
  cQ P c sl hs ⟨dst,.call ⟨.builtin .len,#[x],#[t]⟩,ty,pos,af,g⟩ (.int .i64 s.size):=
 ⟨by simp,fun a w ha _=>by simp [execOp,hx a ha,resolve,invoke,builtin,Builtin.len_,aU hu.eq,goInt]⟩
end
end Go.SL
namespace Go.Proofs.A1
open Go Go.SL
structure Wn where
 n:Nat
 ca:Nat->Bool
 fe:Nat->Bool
 fr:Nat->Int
 to:Nat->Int
 D5:Int
def Wn.fin (N:Wn) (p:List Nat):Int:=match p.getLast? with | none=>N.D5 | some j=>N.to j
def Wn.step (N:Wn) (p:List Nat) (j:Nat):Bool:=decide (j<N.n)&&(!p.contains j&&((p.isEmpty&&N.ca j)||(N.fe j&&decide (N.fr j=N.fin p))))
def Wn.ok (N:Wn) (p:List Nat):Prop:=∀ k (h:k<p.length),N.step (p.take k) p[k]=true
theorem Wn.lx (N:Wn) (p:List Nat) (j:Nat):N.fin (p++[j])=N.to j:=by unfold Wn.fin;rw [List.getLast?_append];rfl
theorem Wn.ny (N:Wn):N.ok []:=fun k h=>absurd h (Nat.not_lt_zero k)
theorem Wn.ji {N:Wn} {p:List Nat} {j:Nat}:N.ok (p++[j])↔N.ok p/\N.step p j=true:=by
 constructor
 ·intro h;constructor
  ·intro k hk;have:=h k (by rw [Zg];omega);rwa [List.take_append_of_le_length (by omega),List.getElem_append_left hk] at this
  ·have:=h p.length (by rw [Zg];simp);rwa [List.take_append_of_le_length (Nat.le_refl _),List.take_of_length_le (Nat.le_refl _),List.getElem_append_right (Nat.le_refl _),List.getElem_singleton] at this
 ·rintro ⟨h1,h2⟩ k hk;rw [Zg] at hk;by_cases hl:k<p.length
  ·rw [List.take_append_of_le_length (by omega),List.getElem_append_left hl];exact h1 k hl
  ·obtain rfl:k=p.length:=by simp at hk;omega
   rw [List.take_append_of_le_length (Nat.le_refl _),List.take_of_length_le (Nat.le_refl _),List.getElem_append_right (Nat.le_refl _),List.getElem_singleton];exact h2
theorem Wn.EL {N:Wn} {p:List Nat} (h:N.ok p) (k:Nat):N.ok (p.take k):=by
 intro i hi;rw [List.length_take] at hi;have:=h i (by omega);rwa [List.take_take,Nat.min_eq_left (by omega),List.getElem_take]
theorem Wn.vv {N:Wn} {p q:List Nat} (h:N.ok p) (hp:q <+: p):N.ok q:=by
 rw [List.prefix_iff_eq_take.1 hp];exact Wn.EL h _
theorem Wn.pN {N:Wn} {p:List Nat} {j:Nat} (h:N.step p j=true):j<N.n:=by
 unfold Wn.step at h;simp only [Bool.and_eq_true,decide_eq_true_eq] at h;exact h.1
theorem Wn.vd {N:Wn} {p:List Nat} {j:Nat} (h:N.step p j=true):j ∉ p:=by
 unfold Wn.step at h;simp only [Bool.and_eq_true,Bool.not_eq_true',List.contains_eq_mem,decide_eq_false_iff_not] at h;exact h.2.1
theorem Wn.vw {N:Wn} {p:List Nat} (h:N.ok p):p.Nodup:=by
 have key:∀ k,k<=p.length->(p.take k).Nodup:=by
  intro k
  induction k with
  | zero=>intro _;rw [Ze];exact List.nodup_nil
  | succ k ih =>
   intro hk;rw [List.take_succ_eq_append_getElem (by omega),List.nodup_append];refine ⟨ih (by omega),by simp,?_⟩;intro a ha b hb;rw [List.mem_singleton] at hb;subst hb;intro e;subst e;exact Wn.vd (h k (by omega)) ha
 have:=key p.length (Nat.le_refl _);rwa [List.take_of_length_le (Nat.le_refl _)] at this
theorem Wn.NU (N:Wn):N.fin []=N.D5:=rfl
def Wn.rY (N:Wn) (p:List Nat):Nat:=p.countP N.fe
def lexB:List Nat->List Nat->Bool
 | x::a,y::b=>decide (x<y)||(decide (x=y)&&lexB a b)
 | _,_=>false
theorem oV:∀ a,lexB a a=false
 | []=>rfl
 | x::a=>by rw [lexB,oV a];simp
theorem qR:∀ {a b c:List Nat},lexB a b=true->lexB b c=true->lexB a c=true
 | [],_,_,h,_=>by cases h
 | _::_,[],_,h,_=>by cases h
 | _::_,_::_,[],_,h=>by cases h
 | x :: a, y :: b, z :: c, h1, h2 => by
  rw [lexB] at h1 h2 ⊢;simp only [Bool.or_eq_true,Bool.and_eq_true,decide_eq_true_eq] at h1 h2 ⊢;rcases h1 with h1 | ⟨h1,xD⟩ <;> rcases h2 with h2 | ⟨h2,Gv⟩
  ·exact .inl (by omega)
  ·exact .inl (by omega)
  ·exact .inl (by omega)
  ·exact .inr ⟨by omega,qR xD Gv⟩
theorem qS:∀ {a b:List Nat},a.length=b.length->a≠b->lexB a b=true\/lexB b a=true
 | [],[],_,h=>absurd rfl h
 | [],_::_,h,_=>by cases h
 | _::_,[],h,_=>by cases h
 | x :: a, y :: b, hl, h => by
  rw [lexB,lexB];simp only [Bool.or_eq_true,Bool.and_eq_true,decide_eq_true_eq];by_cases e:x=y
  ·subst e;rcases qS (a:=a) (b:=b) (by simpa using hl) (fun e=>h (by rw [e])) with h | h
   ·exact .inl (.inr ⟨I,h⟩)
   ·exact .inr (.inr ⟨I,h⟩)
  ·rcases Nat.lt_or_gt_of_ne e with h | h
   ·exact .inl (.inl h)
   ·exact .inr (.inl h)
def Wn.lt (N:Wn) (a b:List Nat):Bool:=decide (N.rY a<N.rY b)||(decide (N.rY a=N.rY b)&&(decide (a.length<b.length)||(decide (a.length=b.length)&&lexB a b)))
theorem Wn.lt_irrefl (N:Wn) (a:List Nat):N.lt a a=false:=by unfold Wn.lt;rw [oV];simp
theorem Wn.lt_trans {N:Wn} {a b c:List Nat} (h1:N.lt a b=true) (h2:N.lt b c=true):N.lt a c=true:=by
 unfold Wn.lt at *;simp only [Bool.or_eq_true,Bool.and_eq_true,decide_eq_true_eq] at *;rcases h1 with h1 | ⟨h1,h1 | ⟨xD,Yy⟩⟩ <;> rcases h2 with h2 | ⟨h2,h2 | ⟨Gv,Yw⟩⟩
 ·exact .inl (by omega)
 ·exact .inl (by omega)
 ·exact .inl (by omega)
 ·exact .inl (by omega)
 ·exact .inr ⟨by omega,.inl (by omega)⟩
 ·exact .inr ⟨by omega,.inl (by omega)⟩
 ·exact .inl (by omega)
 ·exact .inr ⟨by omega,.inl (by omega)⟩
 ·exact .inr ⟨by omega,.inr ⟨by omega,qR Yy Yw⟩⟩
theorem Wn.vE {N:Wn} {a b:List Nat} (h:a≠b):N.lt a b=true\/N.lt b a=true:=by
 unfold Wn.lt;simp only [Bool.or_eq_true,Bool.and_eq_true,decide_eq_true_eq];rcases Nat.lt_trichotomy (N.rY a) (N.rY b) with h1 | h1 | h1
 ·exact .inl (.inl h1)
 ·rcases Nat.lt_trichotomy a.length b.length with h2 | h2 | h2
  ·exact .inl (.inr ⟨h1,.inl h2⟩)
  ·rcases qS h2 h with h3 | h3
   ·exact .inl (.inr ⟨h1,.inr ⟨h2,h3⟩⟩)
   ·exact .inr (.inr ⟨h1.symm,.inr ⟨h2.symm,h3⟩⟩)
  ·exact .inr (.inr ⟨h1.symm,.inl h2⟩)
 ·exact .inr (.inl h1)
theorem Wn.IE {N:Wn} {q p:List Nat} (h:q <+: p):q=p\/N.lt q p=true:=by
 obtain ⟨r,rfl⟩:=h;cases r with
 | nil=>exact .inl (List.append_nil q).symm
 | cons x r =>
  refine .inr ?_;unfold Wn.lt Wn.rY;simp only [Bool.or_eq_true,Bool.and_eq_true,decide_eq_true_eq];rw [List.countP_append,Zg,List.length_cons];by_cases h0:List.countP N.fe (x::r)=0
  ·exact .inr ⟨by omega,.inl (by omega)⟩
  ·exact .inl (by omega)
def Wn.least (N:Wn) (d:Int) (p:List Nat):Prop:=N.ok p/\N.fin p=d/\∀ q,N.ok q->N.fin q=d->N.lt q p=false
theorem Wn.Dr {N:Wn} {d:Int} {p q:List Nat} (hp:N.least d p) (hq:N.least d q):p=q:=by
 by_cases h:p=q
 ·exact h
 ·rcases Wn.vE (N:=N) h with h | h
  ·rw [hq.2.2 p hp.1 hp.2.1] at h;cases h
  ·rw [hp.2.2 q hq.1 hq.2.1] at h;cases h
def Wn.all (N:Wn) (d:Int):Nat->List Nat->List (List Nat)
 | 0,_=>[]
 | k+1,p=>(if N.fin p=d then [p] else [])++((List.range N.n).filter (N.step p)).flatMap fun j=>N.all d k (p++[j])
theorem Wn.uM {N:Wn} {d:Int} {q:List Nat}:∀ {k:Nat} {p:List Nat},N.ok p->q∈N.all d k p->N.ok q/\N.fin q=d
 | 0,_,_,h=>by cases h
 | k + 1, p, ho, h => by
  rw [Wn.all,List.mem_append] at h;rcases h with h | h
  ·split at h
   ·rw [List.mem_singleton] at h;subst h;exact ⟨ho,‹_›⟩
   ·cases h
  ·obtain ⟨j,hj,h⟩:=List.mem_flatMap.1 h;exact Wn.uM (Wn.ji.2 ⟨ho,(List.mem_filter.1 hj).2⟩) h
theorem Wn.AH {N:Wn} {d:Int}:∀ {k:Nat} {p r:List Nat},N.ok (p++r)->N.fin (p++r)=d->r.length<k->p++r∈N.all d k p
 | 0,_,_,_,_,h=>absurd h (Nat.not_lt_zero _)
 | k + 1, p, [], ho, hf, _ => by
  rw [List.append_nil] at *;rw [Wn.all,if_pos hf];simp
 | k + 1, p, j :: r, ho, hf, hk => by
  have e:p++j::r=(p++[j])++r:=by simp
  rw [e] at ho hf ⊢;have h1:=Wn.vv ho (List.prefix_append (p++[j]) r);have h2:=(Wn.ji.1 h1).2;rw [Wn.all,List.mem_append];refine .inr (List.mem_flatMap.2 ⟨j,List.mem_filter.2 ⟨List.mem_range.2 (Wn.pN h2),h2⟩,?_⟩);exact Wn.AH ho hf (by rw [List.length_cons] at hk;omega)
def Wn.Sy (N:Wn) (x:List Nat):List Nat:=(List.range N.n).filter (N.step x)
def Wn.exts (N:Wn) (x:List Nat):List (List Nat):=(N.Sy x).map fun j=>x++[j]
structure Wn.Inv (N:Wn) (d:Int) (Q:List (List Nat)):Prop where
 ok:∀ q∈Q,N.ok q/\q≠[]
 cover:∀ p,N.ok p->N.fin p=d->∃ q∈Q,q <+: p
theorem Wn.Gg {N:Wn} {d:Int} (h:N.D5≠d) {Q:List (List Nat)} (hQ:∀ q,q∈Q↔q∈N.exts []):N.Inv d Q:=by
 constructor
 ·intro q hq;obtain ⟨j,hj,rfl⟩:=List.mem_map.1 ((hQ q).1 hq);exact ⟨Wn.ji.2 ⟨N.ny,(List.mem_filter.1 hj).2⟩,by simp⟩
 ·intro p hp hf;cases p with
  | nil=>exact absurd hf h
  | cons j r =>
   have h1:N.ok ([]++[j]):=Wn.vv hp ⟨r,I⟩;have h2:=(Wn.ji.1 h1).2;exact ⟨[j],(hQ _).2 (List.mem_map.2 ⟨j,List.mem_filter.2 ⟨List.mem_range.2 (Wn.pN h2),h2⟩,I⟩),⟨r,I⟩⟩
theorem Wn.Gf {N:Wn} {d:Int} {Q:List (List Nat)} {x:List Nat} (h:N.Inv d Q) (hx:x∈Q) (hm:∀ q∈Q,N.lt q x=false) (hf:N.fin x=d):N.least d x:=by
 refine ⟨(h.ok x hx).1,hf,fun q hq hfq=>?_⟩;obtain ⟨c,hc,hp⟩:=h.cover q hq hfq;have h0:=hm c hc;rcases Wn.IE (N:=N) hp with e | e
 ·rwa [<- e]
 ·cases hb:N.lt q x with
  | false=>rfl
  | true=>rw [Wn.lt_trans e hb] at h0;exact h0
theorem Wn.IV {N:Wn} {d:Int} {Q R:List (List Nat)} {x:List Nat} (h:N.Inv d Q) (hQ:∀ q,q∈Q↔q=x\/q∈R) (hf:N.fin x≠d):N.Inv d (R++N.exts x):=by
 have hx:=h.ok x ((hQ x).2 (.inl I));constructor
 ·intro q hq;rcases List.mem_append.1 hq with hq | hq
  ·exact h.ok q ((hQ q).2 (.inr hq))
  ·obtain ⟨j,hj,rfl⟩:=List.mem_map.1 hq;exact ⟨Wn.ji.2 ⟨hx.1,(List.mem_filter.1 hj).2⟩,by simp⟩
 ·intro p hp CD;obtain ⟨c,hc,r,rfl⟩:=h.cover p hp CD;rcases (hQ c).1 hc with rfl | hc
  ·cases r with
   | nil=>rw [List.append_nil] at CD;exact absurd CD hf
   | cons j r =>
    have e:c++j::r=(c++[j])++r:=by simp
    rw [e] at hp ⊢;have h2:=(Wn.ji.1 (Wn.vv hp (List.prefix_append (c++[j]) r))).2;exact ⟨c++[j],List.mem_append.2 (.inr (List.mem_map.2 ⟨j,List.mem_filter.2 ⟨List.mem_range.2 (Wn.pN h2),h2⟩,I⟩)),⟨r,I⟩⟩
  ·exact ⟨c,List.mem_append.2 (.inl hc),⟨r,I⟩⟩
theorem Wn.IU {N:Wn} {d:Int} (h:N.Inv d []):∀ p,N.ok p->N.fin p≠d:=fun p hp hf=>by
 obtain ⟨q,hq,_⟩:=h.cover p hp hf;cases hq
theorem k8:∀ (n:Nat) (l:List Nat),l.Nodup->(∀ x∈l,x<n)->l.length<=n
 | 0, l, _, h => by
  cases l with
  | nil=>exact Nat.le_refl _
  | cons x l=>exact absurd (h x (by simp)) (Nat.not_lt_zero _)
 | n + 1, l, hn, h => by
  have:=k8 n (l.erase n) (hn.erase n) fun x hx=>by
   have h1:=h x (List.mem_of_mem_erase hx);have h2:=(List.Nodup.mem_erase_iff hn).1 hx;omega
  by_cases hm:n∈l
  ·rw [List.length_erase_of_mem hm] at this;omega
  ·rw [List.erase_of_not_mem hm] at this;omega
theorem Wn.tw {N:Wn} {p:List Nat} (h:N.ok p):∀ x∈p,x<N.n:=by
 intro x hx;obtain ⟨k,hk,rfl⟩:=List.getElem_of_mem hx;exact Wn.pN (h k hk)
theorem Wn.sH {N:Wn} {p:List Nat} (h:N.ok p):p.length<=N.n:=k8 _ _ (Wn.vw h) (Wn.tw h)
theorem Wn.MU {N:Wn} {x:List Nat} (h:N.ok x):x.length+(N.Sy x).length<=N.n:=by
 rw [<- Zg];refine k8 _ _ ?_ ?_
 ·rw [List.nodup_append];refine ⟨Wn.vw h,(List.nodup_range).filter _,?_⟩;intro a ha b hb e;subst e;exact Wn.vd (List.mem_filter.1 hb).2 ha
 ·intro y hy;rcases List.mem_append.1 hy with hy | hy
  ·exact Wn.tw h y hy
  ·exact List.mem_range.1 (List.mem_filter.1 hy).1
def qt:Nat->Nat
 | 0=>1
 | m+1=>1+(m+1)*qt m
theorem xS:∀ m,1<=qt m
 | 0=>Nat.le_refl _
 | m+1=>by rw [qt];omega
def Wn.wt (N:Wn):List (List Nat)->Nat
 | []=>0
 | q::Q=>qt (N.n-q.length)+N.wt Q
theorem Wn.xN (N:Wn):∀ A B,N.wt (A++B)=N.wt A+N.wt B
 | [],B=>by rw [Za,Wn.wt,Nat.zero_add]
 | q::A,B=>by rw [Zb,Wn.wt,Wn.wt,Wn.xN N A B,Nat.add_assoc]
theorem Wn.Eg {N:Wn} {A B:List (List Nat)} (h:A.Perm B):N.wt A=N.wt B:=by
 induction h with
 | nil=>rfl
 | cons x _ ih=>rw [Wn.wt,Wn.wt,ih]
 | swap x y l=>rw [Wn.wt,Wn.wt,Wn.wt,Wn.wt];omega
 | trans _ _ h1 h2=>rw [h1,h2]
theorem Wn.G8 (N:Wn):∀ Q:List (List Nat),Q.length<=N.wt Q
 | []=>Nat.le_refl _
 | q::Q=>by rw [Wn.wt,List.length_cons];have:=N.G8 Q;have:=xS (N.n-q.length);omega
theorem Wn.CI (N:Wn) (x:List Nat):∀ l:List Nat,N.wt (l.map fun j=>x++[j])=l.length*qt (N.n-(x.length+1))
 | []=>by rw [Zf,Wn.wt,List.length_nil,Nat.zero_mul]
 | j :: l => by
  rw [List.map_cons,Wn.wt,N.CI x l,Zg,show (j::l).length=l.length+1 from I,Nat.succ_mul];show qt (N.n-(x.length+1))+_=_;omega
theorem Wn.LP {N:Wn} {x:List Nat} (h:N.ok x):N.wt (N.exts x)<qt (N.n-x.length):=by
 unfold Wn.exts;rw [Wn.CI];have hf:=Wn.MU h;by_cases h0:(N.Sy x).length=0
 ·rw [h0,Nat.zero_mul];exact xS _
 ·obtain ⟨m,hm⟩:∃ m,N.n-x.length=m+1:=⟨N.n-x.length-1,by omega⟩;rw [hm,show N.n-(x.length+1)=m by omega,qt];have:=Nat.mul_le_mul_right (qt m) (show (N.Sy x).length<=m+1 by omega);omega
end Go.Proofs.A1
namespace Go.Proofs.A1
def bG (h:Bool) (e:Int):Int:=bif h then e else 0
theorem bD {h:Bool} {e:Int} (he:e≠0):bG h e=0↔h=false:=by cases h <;> simp [bG,he]
def gH (n l m:Int):Int:=bG (decide (n<l)||decide (m<n)) 3
theorem iJ {n l m:Int}:gH n l m=0↔l<=n/\n<=m:=by
 unfold gH;rw [bD (by decide)];simp
def aV:List Int->Int
 | []=>0
 | e::r=>if e≠0 then e else aV r
theorem bI:∀ {l:List Int},aV l=0↔∀ e∈l,e=0
 | []=>by simp [aV]
 | e :: r => by
  unfold aV;by_cases h:e=0
  ·simp [h,bI (l:=r)]
  ·simp [h]
theorem sX {es:List Int} {k:Nat} (h:k<es.length):aV (es.drop k)=if es[k]≠0 then es[k] else aV (es.drop (k+1)):=by
 rw [List.drop_eq_getElem_cons h];rfl
def qW (f:Nat->Int):Nat->Nat->Int
 | _,0=>0
 | k,n+1=>if f k≠0 then f k else qW f (k+1) n
def jq (f:Nat->Int) (n:Nat):Int:=qW f 0 n
theorem yW {f:Nat->Int}:∀ {n k:Nat},qW f k n=0↔∀ i,k<=i->i<k+n->f i=0
 | 0,k=>by simp only [qW,true_iff];intro i h1 h2;omega
 | n + 1, k => by
  unfold qW;by_cases h:f k=0
  ·rw [if_neg (by simpa using h),yW];constructor
   ·intro g i h1 h2;by_cases e:i=k
    ·rw [e];exact h
    ·exact g i (by omega) (by omega)
   ·intro g i h1 h2;exact g i (by omega) (by omega)
  ·rw [if_pos h];constructor
   ·intro e;exact absurd e h
   ·intro g;exact absurd (g k (Nat.le_refl _) (by omega)) h
theorem dN {f:Nat->Int} {n:Nat}:jq f n=0↔∀ i,i<n->f i=0:=by
 unfold jq;rw [yW];constructor
 ·intro g i h;exact g i (Nat.zero_le _) (by omega)
 ·intro g i _ h;exact g i (by omega)
theorem wj {f:Nat->Int}:∀ {n k j:Nat},(∀ i,k<=i->i<j->f i=0)->k<=j->j<k+n->f j≠0->qW f k n=f j
 | 0,k,j,_,h1,h2,_=>by omega
 | n + 1, k, j, h, h1, h2, h3 => by
  unfold qW;by_cases e:k=j
  ·subst e;rw [if_pos h3]
  ·rw [if_neg (by simpa using h k (Nat.le_refl _) (by omega))];exact wj (fun i h4 h5=>h i (by omega) h5) (by omega) (by omega) h3
theorem eS {f:Nat->Int} {n j:Nat} (h:∀ i,i<j->f i=0) (hj:j<n) (hn:f j≠0):jq f n=f j:=
 wj (fun i _ h2=>h i h2) (Nat.zero_le _) (by omega) hn
theorem DN {f g:Nat->Int} {n:Nat} (h:∀ j,j<n->(∀ i,i<j->f i=0)->f j=g j):jq f n=jq g n:=by
 by_cases hf:∀ i,i<n->f i=0
 ·rw [dN.2 hf];symm;refine dN.2 fun i hi=>?_;rw [<- h i hi fun k hk=>hf k (by omega)]
  exact hf i hi
 ·have:∃ j,j<n/\f j≠0/\∀ i,i<j->f i=0:=by
   apply Classical.byContradiction;intro hc;apply hf;intro i
   induction i using Nat.strongRecOn with
   | _ i ih =>
    intro hi;apply Classical.byContradiction;intro hne;exact hc ⟨i,hi,hne,fun k hk=>ih k hk (by omega)⟩
  obtain ⟨j,hj,hne,hb⟩:=this;rw [eS hb hj hne,h j hj hb];symm;have he:=h j hj hb;refine eS (fun i hi=>?_) hj (by rw [<- he];exact hne);rw [<- h i (by omega) fun k hk=>hb k (by omega)]
  exact hb i hi
def bt (s:ByteArray) (i:Nat):Int:=((s.data.toList[i]?.getD 0).toNat:Nat)
def Ge (c:Int):Bool:=(decide (65<=c)&&decide (c<=90))||(decide (97<=c)&&decide (c<=122))
def TK (c:Int):Bool:=decide (48<=c)&&decide (c<=57)
def okB (c:Int):Bool:=Ge c||TK c||decide (c=95)
def okF (s:ByteArray) (k:Nat):Bool:=(List.range' k (s.size-k)).all fun i=>okB (bt s i)
theorem zV {s:ByteArray} {k:Nat} (h:k<s.size):okF s k=(okB (bt s k)&&okF s (k+1)):=by
 unfold okF;rw [show s.size-k=(s.size-(k+1))+1 by omega,List.range'_succ]
 rfl
theorem EM {s:ByteArray} {k:Nat} (h:s.size<=k):okF s k=true:=by
 unfold okF;rw [show s.size-k=0 by omega];rfl
def kg (s:ByteArray):Bool:=decide (0<s.size)&&decide (s.size<=24)&&Ge (bt s 0)&&okF s 1
def nmF (s:ByteArray):Int:=bG (!kg s) 8
end Go.Proofs.A1
namespace Go.Proofs.A1
open Go Go.SL
structure Sr where
 nm:ByteArray
 mx:Int
 deriving DecidableEq
structure De where
 nm:ByteArray
 mx:Int
 pr:Bool
 deriving DecidableEq
structure Ti where
 nm:ByteArray
 fr:Int
 to:Int
 deriving DecidableEq
structure Po where
 lv:Int
 ou:ByteArray
 ip:ByteArray
 deriving DecidableEq
structure Ro where
 lv:Int
 ma:Int
 sr:List Sr
 de:List De
 ti:List Ti
 po:List Po
 deriving DecidableEq
def D4 (v:Int) (o:ByteArray) (p:Po):Bool:=decide (p.lv=v)&&decide (p.ou=o)
def Af (v:Int) (i:ByteArray) (p:Po):Bool:=decide (p.lv=v)&&decide (p.ip=i)
def ep (po:List Po) (v:Int) (o:ByteArray):Option ByteArray:=(po.find? (D4 v o)).map Po.ip
def nZ (po:List Po) (v:Int) (i:ByteArray):Bool:=po.any (Af v i)
def gC (po:List Po) (v:Int) (o:ByteArray):Bool:=(ep po v o).isSome
def fh (po:List Po) (v:Int):Nat->ByteArray->List ByteArray
 | 0,_=>[]
 | k + 1, o => match ep po v o with
  | none=>[]
  | some i=>i::fh po v k i
theorem wE {po:List Po} {v:Int} {o:ByteArray} (h:ep po v o=none):∀ k,fh po v k o=[]
 | 0=>rfl
 | k+1=>by rw [fh,h]
theorem mX {po:List Po} {v:Int} {o i:ByteArray} (h:ep po v o=some i) (k:Nat):fh po v (k+1) o=i::fh po v k i:=by rw [fh,h]
theorem kd (po:List Po) (v:Int):∀ k o,(fh po v k o).length<=k
 | 0,_=>Nat.le_refl _
 | k + 1, o => by
  rw [fh];split
  ·exact Zi _
  ·rw [List.length_cons];have:=kd po v k ‹_›;omega
theorem Cj {po:List Po} {v:Int}:∀ {k:Nat} {o:ByteArray},(fh po v k o).length<k->∀ m,k<=m->fh po v m o=fh po v k o
 | 0,_,h,_,_=>absurd h (Nat.not_lt_zero _)
 | k + 1, o, h, m, hm => by
  obtain ⟨m,rfl⟩:∃ j,m=j+1:=⟨m-1,by omega⟩;rw [fh,fh];cases hi:ep po v o with
  | none=>rfl
  | some i =>
   rw [fh,hi,List.length_cons] at h;show i::_=i::_;rw [Cj (k:=k) (by omega) m (by omega)]
theorem Ci {po:List Po} {v:Int}:∀ {k m:Nat} {o:ByteArray},k<=m->(fh po v m o).take k=fh po v k o
 | 0,_,_,_=>by rw [Ze];rfl
 | k + 1, m, o, h => by
  obtain ⟨m,rfl⟩:∃ j,m=j+1:=⟨m-1,by omega⟩;rw [fh,fh];cases ep po v o with
  | none=>rfl
  | some i =>
   show (i::fh po v m i).take (k+1)=i::fh po v k i;rw [List.take_succ_cons,Ci (by omega)]
def mE (po:List Po) (v:Int):Nat->ByteArray->Option ByteArray
 | 0,o=>some o
 | k+1,o=>(ep po v o).bind (mE po v k)
theorem kb {po:List Po} {v:Int}:∀ {a b:Nat} {o:ByteArray},mE po v (a+b) o=(mE po v a o).bind (mE po v b)
 | 0,b,o=>by rw [Nat.zero_add];rfl
 | a + 1, b, o => by
  rw [show a+1+b=(a+b)+1 by omega,mE,mE];cases ep po v o with
  | none=>rfl
  | some i=>exact kb
theorem iB {po:List Po} {v:Int} {a b:Nat} {o:ByteArray} (h:a<=b) (hb:(mE po v b o).isSome=true):(mE po v a o).isSome=true:=by
 obtain ⟨c,rfl⟩:∃ c,b=a+c:=⟨b-a,by omega⟩;rw [kb] at hb;cases h1:mE po v a o with
 | none=>rw [h1] at hb;cases hb
 | some x=>rfl
theorem nL {po:List Po} {v:Int}:∀ {k:Nat} {o:ByteArray} {j:Nat},j<k->(fh po v k o)[j]? = mE po v (j+1) o
 | 0,_,_,h=>absurd h (Nat.not_lt_zero _)
 | k + 1, o, j, h => by
  rw [fh,mE];cases ep po v o with
  | none=>rfl
  | some i =>
   cases j with
   | zero=>rfl
   | succ j =>
    show (i::fh po v k i)[j+1]? = mE po v (j+1) i;rw [List.getElem?_cons_succ,nL (by omega)]
theorem qZ {po:List Po} {v:Int} {k:Nat} {o:ByteArray}:(fh po v k o).length=k↔(mE po v k o).isSome=true:=by
 cases k with
 | zero=>exact ⟨fun _=>rfl,fun _=>rfl⟩
 | succ k =>
  rw [<- nL (Nat.lt_add_one k)];have:=kd po v (k+1) o;constructor
  ·intro h;rw [Zc (by omega)];rfl
  ·intro h;apply Classical.byContradiction;intro hn;rw [List.getElem?_eq_none (by omega)] at h;cases h
theorem uL {po:List Po} {v:Int} {k:Nat} {o x:ByteArray}:x∈fh po v k o↔∃ j,j<k/\mE po v (j+1) o=some x:=by
 constructor
 ·intro h;obtain ⟨j,hj,e⟩:=List.getElem_of_mem h;have hk:=kd po v k o;refine ⟨j,by omega,?_⟩;rw [<- nL (by omega:j<k),Zc hj,e]
 ·rintro ⟨j,hj,e⟩;rw [<- nL hj] at e;exact List.mem_of_getElem? e
theorem yG {α:Type} [DecidableEq α]:∀ {X T:List α},X.Nodup->(∀ x∈X,x∈T)->X.length<=T.length
 | [],_,_,_=>Zi _
 | x :: X, T, hn, h => by
  have hx:=h x (by simp);rw [List.nodup_cons] at hn;have:=yG (X:=X) (T:=T.erase x) hn.2 fun y hy=>(List.mem_erase_of_ne (a:=y) (b:=x) (fun e=>by rw [e] at hy;exact hn.1 hy)).2 (h y (List.mem_cons_of_mem _ hy))
  rw [List.length_erase_of_mem hx] at this;have:=List.length_pos_of_mem hx;rw [List.length_cons];omega
theorem F7 {α:Type} [DecidableEq α] {X:List α} (h:¬ X.Nodup):∃ i j,∃ (hi:i<X.length) (hj:j<X.length),i<j/\X[i]=X[j]:=by
 apply Classical.byContradiction;intro hn;apply h;rw [List.nodup_iff_pairwise_ne,List.pairwise_iff_getElem];intro i j hi hj yR e;exact hn ⟨i,j,hi,hj,yR,e⟩
theorem KA {po:List Po} {v:Int} {T:List ByteArray} (hT:∀ o i,ep po v o=some i->(ep po v i).isSome=true->i∈T) {o:ByteArray} (ho:(mE po v (T.length+2) o).isSome=true\/o∈T/\(mE po v (T.length+1) o).isSome=true):∃ t∈T,t∈fh po v (T.length+1) t:=by
 obtain ⟨s,hs,dC⟩:∃ s,(mE po v (s+T.length+1) o).isSome=true/\∀ k,k<=T.length->∃ x,mE po v (s+k) o=some x/\x∈T:=by
  rcases ho with ho | ⟨hoT,ho⟩
  ·refine ⟨1,by rw [show 1+T.length+1=T.length+2 by omega];exact ho,fun k hk=>?_⟩;have h0:=iB (a:=k) (by omega) ho;have h1:=iB (a:=1+k) (by omega) ho;have h2:=iB (a:=1+k+1) (by omega) ho;obtain ⟨y,hy⟩:=Option.isSome_iff_exists.1 h0;obtain ⟨x,hx⟩:=Option.isSome_iff_exists.1 h1;refine ⟨x,hx,hT y x ?_ ?_⟩
   ·rw [show 1+k=k+1 by omega,kb,hy] at hx;simpa [mE] using hx
   ·rw [kb,hx] at h2;simpa [mE] using h2
  ·refine ⟨0,by rw [Nat.zero_add];exact ho,fun k hk=>?_⟩;rw [Nat.zero_add];cases k with
   | zero=>exact ⟨o,rfl,hoT⟩
   | succ k =>
    have h0:=iB (a:=k) (by omega) ho;have h1:=iB (a:=k+1) (by omega) ho;have h2:=iB (a:=k+1+1) (by omega) ho;obtain ⟨y,hy⟩:=Option.isSome_iff_exists.1 h0;obtain ⟨x,hx⟩:=Option.isSome_iff_exists.1 h1;refine ⟨x,hx,hT y x ?_ ?_⟩
    ·rw [kb,hy] at hx;simpa [mE] using hx
    ·rw [kb,hx] at h2;simpa [mE] using h2
 let X:=(List.range (T.length+1)).map fun k=>(mE po v (s+k) o).getD ⟨#[]⟩
 have hXl:X.length=T.length+1:=by simp [X]
 have hX:∀ k (h:k<X.length),mE po v (s+k) o=some X[k]:=fun k h=>by
  obtain ⟨x,hx,_⟩:=dC k (by omega);simp [X,hx]
 have hn:¬ X.Nodup:=fun hn=>by
  have:=yG (T:=T) hn fun x hx=>by
   obtain ⟨k,hk,rfl⟩:=List.getElem_of_mem hx;obtain ⟨y,hy,WV⟩:=dC k (by omega);rw [hX k hk] at hy;cases hy;exact WV
  omega
 obtain ⟨i,j,hi,hj,yR,e⟩:=F7 hn;have h1:=hX i hi;have h2:=hX j hj;obtain ⟨y,hy,WV⟩:=dC i (by omega);rw [h1] at hy;cases hy;refine ⟨X[i],WV,uL.2 ⟨j-i-1,by omega,?_⟩⟩;rw [show s+j=(s+i)+(j-i-1+1) by omega,kb,h1] at h2;rw [e];rw [e] at h2;exact h2
theorem N9 {po:List Po} {v:Int} {m:Nat} {t:ByteArray} (h:t∈fh po v m t):∀ k,(mE po v k t).isSome=true:=by
 obtain ⟨j,_,hj⟩:=uL.1 h;have key:∀ n,mE po v (n*(j+1)) t=some t:=fun n=>by
  induction n with
  | zero=>rw [Nat.zero_mul];rfl
  | succ n ih=>rw [Nat.succ_mul,kb,ih];exact hj
 intro k;refine iB (b:=k*(j+1)) (Nat.le_mul_of_pos_right _ (by omega)) ?_;rw [key];rfl
theorem Kz {po:List Po} {v:Int} {T:List ByteArray} (hT:∀ o i,ep po v o=some i->(ep po v i).isSome=true->i∈T) (h6:T.length<=6):(∃ t∈T,t∈fh po v (T.length+1) t)↔∃ t∈T,(fh po v 7 t).length=7:=by
 constructor
 ·rintro ⟨t,ht,h⟩;exact ⟨t,ht,qZ.2 (N9 h 7)⟩
 ·rintro ⟨t,ht,h⟩;exact KA hT (.inr ⟨ht,iB (b:=7) (by omega) (qZ.1 h)⟩)
theorem qb {po:List Po} {v:Int} {T:List ByteArray} (hT:∀ o i,ep po v o=some i->(ep po v i).isSome=true->i∈T) (hc:¬ ∃ t∈T,t∈fh po v (T.length+1) t) (o:ByteArray) {m:Nat} (hm:T.length+1<=m):fh po v m o=fh po v (T.length+1) o:=by
 have h2:(fh po v (T.length+2) o).length<T.length+2:=by
  have h0:=kd po v (T.length+2) o;rcases Nat.lt_or_ge (fh po v (T.length+2) o).length (T.length+2) with h | h
  ·exact h
  ·exact absurd (KA hT (.inl (qZ.1 (show (fh po v (T.length+2) o).length=T.length+2 by omega)))) hc
 have h3:fh po v (T.length+1) o=fh po v (T.length+2) o:=by
  rw [<- Ci (o:=o) (by omega:T.length+1<=T.length+2),List.take_of_length_le (by omega)]
 rcases Nat.lt_or_ge m (T.length+2) with h | h
 ·rw [show m=T.length+1 by omega]
 ·rw [Cj h2 m h,h3]
def bd:List ByteArray->ByteArray->Int
 | [],_=>-1
 | x::l,s=>if x=s then 0 else if bd l s<0 then -1 else bd l s+1
theorem Kn (l:List ByteArray) (s:ByteArray):-1<=bd l s:=by
 induction l with
 | nil=>exact Int.le_refl _
 | cons x l ih =>
  rw [bd];split
  ·omega
  ·split <;> omega
theorem cq {l:List ByteArray} {s:ByteArray}:bd l s<0↔s ∉ l:=by
 induction l with
 | nil=>simp [bd]
 | cons x l ih =>
  rw [bd,List.mem_cons,not_or];by_cases e:x=s
  ·rw [if_pos e];constructor
   ·intro h;omega
   ·intro h;exact absurd e.symm h.1
  ·rw [if_neg e];by_cases h:bd l s<0
   ·rw [if_pos h];exact ⟨fun _=>⟨fun q=>e q.symm,ih.1 h⟩,fun _=>by omega⟩
   ·rw [if_neg h];exact ⟨fun q=>by have:=Kn l s;omega,fun q=>absurd (ih.2 q.2) h⟩
theorem qV:∀ {l:List ByteArray} {s:ByteArray} {i:Nat} (h:i<l.length),l[i]=s->(∀ j (hj:j<i),l[j]'(by omega)≠s)->bd l s=(i:Nat)
 | x::l,s,0,_,e,_=>by rw [bd,if_pos (show x=s from e)];rfl
 | x :: l, s, i + 1, h, e, hb => by
  have h0:x≠s:=hb 0 (by omega);have ih:=qV (l:=l) (s:=s) (i:=i) (by rw [List.length_cons] at h;omega) e fun j hj=>hb (j+1) (by omega)
  rw [bd,if_neg h0,ih,if_neg (by omega)];omega
theorem Ao {l:List ByteArray} {s:ByteArray} (h:∀ j (hj:j<l.length),l[j]≠s):bd l s = -1:=by
 have h1:=Kn l s;have h2:bd l s<0:=cq.2 fun hm=>by
  obtain ⟨j,hj,e⟩:=List.getElem_of_mem hm;exact h j hj e
 omega
theorem eD {l:List ByteArray} {s:ByteArray} (h:0<=bd l s):∃ hl:(bd l s).toNat<l.length,l[(bd l s).toNat]=s:=by
 induction l with
 | nil=>simp [bd] at h
 | cons x l ih =>
  by_cases e:x=s
  ·have:bd (x::l) s=0:=by rw [bd,if_pos e]
   rw [this];exact ⟨Nat.zero_lt_succ _,e⟩
  ·by_cases h0:bd l s<0
   ·rw [bd,if_neg e,if_pos h0] at h;omega
   ·obtain ⟨hl,hg⟩:=ih (by omega);have:bd (x::l) s=bd l s+1:=by rw [bd,if_neg e,if_neg h0]
    have e1:(bd (x::l) s).toNat=(bd l s).toNat+1:=by rw [this];omega
    have key:∀ n,n=(bd l s).toNat+1->∃ hl:n<(x::l).length,(x::l)[n]=s:=fun n hn=>by
     subst hn;exact ⟨by rw [List.length_cons];omega,hg⟩
    exact key _ e1
def ct (r:Ro):List ByteArray:=r.sr.map Sr.nm
def cz (r:Ro):List ByteArray:=r.de.map De.nm
def cd (r:Ro):List ByteArray:=r.ti.map Ti.nm
def ew (r:Ro):List ByteArray:=ct r++cz r++cd r
def eo (r:Ro) (s:ByteArray):Int:=if 0<=bd (cz r) s then bd (cz r) s else if 0<=bd (cd r) s then (r.de.length:Nat)+bd (cd r) s else -1
def j9 (r:Ro) (s:ByteArray):Int:=if 0<=bd (cz r) s then (r.de.getD (bd (cz r) s).toNat ⟨⟨#[]⟩,0,false⟩).mx else if 0<=bd (cd r) s then (r.ti.getD (bd (cd r) s).toNat ⟨⟨#[]⟩,0,0⟩).fr else -1
def jR (r:Ro) (s:ByteArray):Int:=if 0<=bd (ct r) s then (r.sr.getD (bd (ct r) s).toNat ⟨⟨#[]⟩,0⟩).mx else if 0<=bd (cd r) s then (r.ti.getD (bd (cd r) s).toNat ⟨⟨#[]⟩,0,0⟩).to else -1
theorem Il {r:Ro} {s:ByteArray}:eo r s<0↔s ∉ cz r/\s ∉ cd r:=by
 unfold eo;by_cases h1:bd (cz r) s<0
 ·rw [if_neg (by omega)];by_cases h2:bd (cd r) s<0
  ·rw [if_neg (by omega)];exact ⟨fun _=>⟨cq.1 h1,cq.1 h2⟩,fun _=>by omega⟩
  ·rw [if_pos (by omega)];exact ⟨fun h=>by omega,fun h=>absurd (cq.2 h.2) h2⟩
 ·rw [if_pos (by omega)];exact ⟨fun h=>absurd h h1,fun h=>absurd (cq.2 h.1) h1⟩
def tl (po:List Po):Prop:=∀ p∈po,∀ q∈po,p.lv=q.lv->p.ou=q.ou->p=q
theorem tl.filter {po:List Po} (h:tl po) (f:Po->Bool):tl (po.filter f):=fun p hp q hq=>h p (List.mem_filter.1 hp).1 q (List.mem_filter.1 hq).1
theorem fC {po:List Po} {v:Int} {o i:ByteArray} (h:ep po v o=some i):∃ p∈po,p.lv=v/\p.ou=o/\p.ip=i:=by
 unfold ep at h;obtain ⟨p,hp,e⟩:=Option.map_eq_some_iff.1 h;have h1:=List.find?_some hp;unfold D4 at h1;rw [Bool.and_eq_true,decide_eq_true_eq,decide_eq_true_eq] at h1;exact ⟨p,List.mem_of_find?_eq_some hp,h1.1,h1.2,e⟩
theorem nE {po:List Po} (h1:tl po) {p:Po} (hp:p∈po):ep po p.lv p.ou=some p.ip:=by
 cases h:po.find? (D4 p.lv p.ou) with
 | none =>
  have:=List.find?_eq_none.1 h p hp;unfold D4 at this;simp at this
 | some q =>
  have hq:=List.find?_some h;unfold D4 at hq;rw [Bool.and_eq_true,decide_eq_true_eq,decide_eq_true_eq] at hq;have:=h1 q (List.mem_of_find?_eq_some h) p hp hq.1 hq.2;unfold ep;rw [h,this];rfl
theorem iE {po:List Po} {v:Int} {o:ByteArray}:ep po v o=none↔∀ p∈po,¬(p.lv=v/\p.ou=o):=by
 unfold ep;rw [Option.map_eq_none_iff,List.find?_eq_none];constructor
 ·intro h p hp hq;have:=h p hp;unfold D4 at this;rw [hq.1,hq.2] at this;simp at this
 ·intro h p hp;unfold D4;rw [Bool.and_eq_true,decide_eq_true_eq,decide_eq_true_eq];exact h p hp
theorem Ng {po qo:List Po} (h1:tl po) (hs:∀ p∈qo,p∈po) {v:Int} {o i:ByteArray} (h:ep qo v o=some i):ep po v o=some i:=by
 obtain ⟨p,hp,rfl,rfl,rfl⟩:=fC h;exact nE h1 (hs p hp)
inductive Nd (po:List Po) (D:List ByteArray):Po->Prop
 | de {p:Po}:p∈po->p.ou∈D->Nd po D p
 | up {p q:Po}:p∈po->q.lv=p.lv->q.ip=p.ou->Nd po D q->Nd po D p
theorem OR {po S:List Po} {D:List ByteArray} (h1:tl po) (hS:∀ p∈S,p∈po) (hu:∀ p∈S,p.ou∈D\/∃ q∈S,q.lv=p.lv/\q.ip=p.ou) {N:Nat} (hN:∀ v o m,N<=m->fh po v m o=fh po v N o) :
  ∀ n p,p∈S->N-(fh po p.lv N p.ou).length<=n->Nd po D p
 | n, p, hp, hn => by
  rcases hu p hp with hd | ⟨q,hq,hv,hi⟩
  ·exact .de (hS p hp) hd
  ·have my:=nE h1 (hS q hq);rw [hv,hi] at my;have hc:fh po p.lv (N+1) q.ou=p.ou::fh po p.lv N p.ou:=mX my N;have hl:(fh po q.lv N q.ou).length=(fh po p.lv N p.ou).length+1:=by
    rw [hv,<- hN p.lv q.ou (N+1) (by omega),hc,List.length_cons]
   have hle:=kd po q.lv N q.ou;cases n with
   | zero=>omega
   | succ n=>exact .up (hS p hp) hv hi (OR h1 hS hu hN n q hq (by omega))
theorem TE {po S:List Po} {D:List ByteArray} (hk:∀ p∈po,p.ou∈D->p∈S) (eR:∀ p∈po,∀ q∈S,q.lv=p.lv->q.ip=p.ou->p∈S) {p:Po} (h:Nd po D p):p∈S:=by
 induction h with
 | de hp hd=>exact hk _ hp hd
 | up hp hv hi _ ih=>exact eR _ hp _ ih hv hi
theorem MY {po:List Po} {D:List ByteArray} (h1:tl po) {N:Nat} (hN:∀ v o m,N<=m->fh po v m o=fh po v N o) {f g:Po->Bool}
  (Pd:∀ p∈po,p.ou∈D->f p=true) (Gr:∀ p∈po,∀ q∈po,f q=true->q.lv=p.lv->q.ip=p.ou->f p=true) (Uz:∀ p∈po,f p=true->p.ou∈D\/∃ q∈po,f q=true/\q.lv=p.lv/\q.ip=p.ou)
  (XU:∀ p∈po,p.ou∈D->g p=true) (XT:∀ p∈po,∀ q∈po,g q=true->q.lv=p.lv->q.ip=p.ou->g p=true) (V4:∀ p∈po,g p=true->p.ou∈D\/∃ q∈po,g q=true/\q.lv=p.lv/\q.ip=p.ou):po.filter f=po.filter g:=by
 have key:∀ (f:Po->Bool),(∀ p∈po,p.ou∈D->f p=true)->(∀ p∈po,∀ q∈po,f q=true->q.lv=p.lv->q.ip=p.ou->f p=true)->(∀ p∈po,f p=true->p.ou∈D\/∃ q∈po,f q=true/\q.lv=p.lv/\q.ip=p.ou)->∀ p∈po,(f p=true↔Nd po D p):=by
  intro f h2 h3 h4 p hp;constructor
  ·intro hf;refine OR (S:=po.filter f) h1 (fun q hq=>(List.mem_filter.1 hq).1) (fun q hq=>?_) hN _ p (List.mem_filter.2 ⟨hp,hf⟩) (Nat.le_refl _);obtain ⟨Nt,yO⟩:=List.mem_filter.1 hq;rcases h4 q Nt yO with h | ⟨x,hx,VH,TN⟩
   ·exact .inl h
   ·exact .inr ⟨x,List.mem_filter.2 ⟨hx,VH⟩,TN⟩
  ·intro hn;have:=TE (S:=po.filter f) (fun q hq hd=>List.mem_filter.2 ⟨hq,h2 q hq hd⟩) (fun q hq x hx hv hi=>List.mem_filter.2 ⟨hq,h3 q hq x (List.mem_filter.1 hx).1 (List.mem_filter.1 hx).2 hv hi⟩) hn
   exact (List.mem_filter.1 this).2
 refine List.filter_congr fun p hp=>?_;rw [Bool.eq_iff_iff,key f Pd Gr Uz p hp,key g XU XT V4 p hp]
theorem oE {α:Type} {R:α->α->Prop} (has:∀ a b,R a b->¬ R b a):∀ {A B:List α},A.Pairwise R->B.Pairwise R->A.Perm B->A=B
 | [],B,_,_,h=>(List.nil_perm.1 h).symm
 | a::A,[],_,_,h=>absurd h (by intro h;have:=h.length_eq;cases this)
 | a :: A, b :: B, hA, hB, h => by
  rw [List.pairwise_cons] at hA hB;have SO:a=b:=by
   apply Classical.byContradiction;intro hne;have h1:a∈b::B:=h.mem_iff.1 (by simp);have h2:b∈a::A:=h.mem_iff.2 (by simp);have h1:a∈B:=(List.mem_cons.1 h1).resolve_left hne;have h2:b∈A:=(List.mem_cons.1 h2).resolve_left fun e=>hne e.symm
   exact has _ _ (hA.1 b h2) (hB.1 a h1)
  subst SO;rw [oE has hA.2 hB.2 (List.Perm.cons_inv h)]
def qy (r:Ro) (p q:Po):Bool:=decide (p.lv<q.lv)||(decide (p.lv=q.lv)&&decide (eo r p.ou<eo r q.ou))
theorem F9 {r:Ro} (p q:Po) (h:qy r p q=true):¬ qy r q p=true:=by
 unfold qy at *;simp only [Bool.or_eq_true,Bool.and_eq_true,decide_eq_true_eq] at *;omega
theorem yI {r:Ro} {p q s:Po} (h1:qy r p q=true) (h2:qy r q s=true):qy r p s=true:=by
 unfold qy at *;simp only [Bool.or_eq_true,Bool.and_eq_true,decide_eq_true_eq] at *;omega
theorem F8 {r:Ro} {p q:Po} (h:¬(p.lv=q.lv/\eo r p.ou=eo r q.ou)):qy r p q=true\/qy r q p=true:=by
 unfold qy;simp only [Bool.or_eq_true,Bool.and_eq_true,decide_eq_true_eq];omega
def iX (r:Ro) (p:Po):List Po->List Po
 | []=>[p]
 | b::l=>if qy r p b then p::b::l else b::iX r p l
theorem pT (r:Ro) (p:Po):∀ l,(iX r p l).Perm (p::l)
 | []=>List.Perm.refl _
 | b :: l => by
  rw [iX];split
  ·exact List.Perm.refl _
  ·exact ((pT r p l).cons b).trans (List.Perm.swap p b l)
theorem iD {r:Ro} {p q:Po} {l:List Po}:q∈iX r p l↔q=p\/q∈l:=by rw [(pT r p l).mem_iff,List.mem_cons]
theorem tG {r:Ro} {p:Po}:∀ {l:List Po},l.Pairwise (fun a b=>qy r a b=true)->(∀ q∈l,¬(p.lv=q.lv/\eo r p.ou=eo r q.ou))->(iX r p l).Pairwise (fun a b=>qy r a b=true)
 | [],_,_=>by rw [iX];exact List.pairwise_singleton _ _
 | b :: l, h, hn => by
  rw [List.pairwise_cons] at h;rw [iX];split
  ·rename_i hb;rw [List.pairwise_cons,List.pairwise_cons];refine ⟨fun q hq=>?_,h.1,h.2⟩;rcases List.mem_cons.1 hq with rfl | hq
   ·exact hb
   ·exact yI hb (h.1 q hq)
  ·rename_i hb;rw [List.pairwise_cons];refine ⟨fun q hq=>?_,tG h.2 fun q hq=>hn q (List.mem_cons_of_mem _ hq)⟩;rcases iD.1 hq with rfl | hq
   ·rcases F8 (hn b (by simp)) with e | e
    ·exact absurd e hb
    ·exact e
   ·exact h.1 q hq
structure qh (r:Ro):Prop where
 sd:∀ s∈ct r,s ∉ cz r
 st:∀ s∈ct r,s ∉ cd r
 dt:∀ s∈cz r,s ∉ cd r
 Tc:(cd r).length<=6
structure jl (r:Ro) (po:List Po):Prop where
 rr:po.Pairwise (fun a b=>qy r a b=true)
 Lw:∀ p∈po,0<=p.lv/\p.lv<r.lv
 out:∀ p∈po,p.ou∈cz r\/p.ou∈cd r
 xw:∀ p∈po,p.ip∈ct r\/p.ip∈cd r
 OT:∀ p∈po,j9 r p.ou=jR r p.ip
 DQ:∀ v,¬ ∃ t∈cd r,t∈fh po v ((cd r).length+1) t
 use:∀ v t,t∈cd r->(nZ po v t=true↔gC po v t=true)
theorem jl.one {r:Ro} {po:List Po} (h:po.Pairwise (fun a b=>qy r a b=true)):tl po:=by
 intro p hp q hq hv ho;apply Classical.byContradiction;intro hne;obtain ⟨i,hi,rfl⟩:=List.getElem_of_mem hp;obtain ⟨j,hj,rfl⟩:=List.getElem_of_mem hq;rw [List.pairwise_iff_getElem] at h;rcases Nat.lt_trichotomy i j with e | e | e
 ·have:=h i j hi hj e;unfold qy at this;simp only [Bool.or_eq_true,Bool.and_eq_true,decide_eq_true_eq] at this;rw [ho] at this;omega
 ·subst e;exact hne rfl
 ·have:=h j i hj hi e;unfold qy at this;simp only [Bool.or_eq_true,Bool.and_eq_true,decide_eq_true_eq] at this;rw [ho] at this;omega
theorem jl.tie {r:Ro} {po:List Po} (hn:qh r) (h2:∀ p∈po,p.ou∈cz r\/p.ou∈cd r) (h3:∀ p∈po,p.ip∈ct r\/p.ip∈cd r) {v:Int}:∀ o i,ep po v o=some i->(ep po v i).isSome=true->i∈cd r:=by
 intro o i h hi;obtain ⟨p,hp,_,_,rfl⟩:=fC h;rcases h3 p hp with hs | ht
 ·obtain ⟨j,hj⟩:=Option.isSome_iff_exists.1 hi;obtain ⟨q,hq,_,O4,_⟩:=fC hj;rcases h2 q hq with hd | hd
  ·exact absurd (O4 ▸ hd) (hn.sd _ hs)
  ·exact absurd (O4 ▸ hd) (hn.st _ hs)
 ·exact ht
def ib (po:List Po) (v:Int) (k:Nat) (o:ByteArray):ByteArray:=((fh po v k o).getLast?).getD o
def pZ (po:List Po) (v:Int) (S:List ByteArray) (o:ByteArray):ByteArray:=if bd S (ib po v 7 o)<0 then ⟨#[]⟩ else ib po v 7 o
theorem yY {po:List Po} {v:Int} {k:Nat} {o i:ByteArray} (h:ep po v o=some i):ib po v (k+1) o=ib po v k i:=by
 unfold ib;rw [mX h,List.getLast?_cons]
 rfl
theorem sZ {po:List Po} {v:Int} {k:Nat} {o:ByteArray} (h:ep po v o=none):ib po v k o=o:=by
 unfold ib;rw [wE h];rfl
theorem GB {r:Ro} {po:List Po} (hn:qh r) (h:jl r po) (v:Int) (o:ByteArray):ib po v ((cd r).length+1) o=ib po v 7 o:=by
 have:=hn.Tc;unfold ib;rw [qb (T:=cd r) (jl.tie hn h.out h.xw) (h.DQ v) o (m:=7) (by omega)]
theorem Oi {r:Ro} {po:List Po} (hn:qh r) (h:jl r po) {v:Int}:∀ (k:Nat) (o:ByteArray),(fh po v 7 o).length<=k->(ep po v o).isSome=true->ib po v 7 o∈ct r:=by
 have h6:=hn.Tc;have hs:=fun o m hm=>qb (T:=cd r) (jl.tie hn h.out h.xw) (h.DQ v) o (m:=m) hm
 intro k
 induction k with
 | zero =>
  intro o hk ho;obtain ⟨i,hi⟩:=Option.isSome_iff_exists.1 ho;rw [mX hi,List.length_cons] at hk;omega
 | succ k ih =>
  intro o hk ho;obtain ⟨i,hi⟩:=Option.isSome_iff_exists.1 ho;have e1:ib po v 7 o=ib po v 7 i:=by
   have:ib po v 8 o=ib po v 7 i:=yY hi;unfold ib at this ⊢;rw [hs o 8 (by omega)] at this;rw [hs o 7 (by omega)];exact this
  rw [e1];cases B0:ep po v i with
  | none =>
   rw [sZ B0];obtain ⟨p,hp,LC,_,rfl⟩:=fC hi;rcases h.xw p hp with hS | hT
   ·exact hS
   ·have hu:nZ po v p.ip=true:=by
     unfold nZ;rw [List.any_eq_true];exact ⟨p,hp,by unfold Af;rw [LC];simp⟩
    have:=(h.use v p.ip hT).1 hu;unfold gC at this;rw [B0] at this;cases this
  | some j =>
   refine ih i ?_ (by rw [B0];rfl);have:(fh po v 8 o).length=(fh po v 7 i).length+1:=by rw [mX hi,List.length_cons]
   rw [hs o 8 (by omega),<- hs o 7 (by omega)] at this;omega
theorem y8 {r:Ro} {po:List Po} (hn:qh r) (h:jl r po) {v:Int} {o:ByteArray} (ho:(ep po v o).isSome=true):pZ po v (ct r) o=ib po v 7 o:=by
 unfold pZ;rw [if_neg fun e=>cq.1 e (Oi hn h _ o (Nat.le_refl _) ho)]
theorem GM {r:Ro} {po:List Po} {v:Int} {o:ByteArray} (hs:o ∉ ct r) (ho:ep po v o=none):pZ po v (ct r) o=⟨#[]⟩:=by
 unfold pZ;rw [sZ ho,if_pos (cq.2 hs)]
theorem AA {po qo:List Po} (h1:tl po) (hs:∀ p∈qo,p∈po) {v:Int}:∀ {k:Nat} {o x:ByteArray},x∈fh qo v k o->x∈fh po v k o
 | 0,_,_,h=>by cases h
 | k + 1, o, x, h => by
  rw [fh] at h;cases hi:ep qo v o with
  | none=>rw [hi] at h;cases h
  | some i =>
   rw [hi] at h;rw [mX (Ng h1 hs hi)];rcases List.mem_cons.1 h with rfl | h
   ·exact List.mem_cons_self
   ·exact List.mem_cons_of_mem _ (AA h1 hs h)
theorem jl.filter {r:Ro} {po:List Po} (hn:qh r) (h:jl r po) (f:Po->Bool) (h2:∀ p∈po,p.ou∈cd r->∀ q∈po,f q=true->q.lv=p.lv->q.ip=p.ou->f p=true) (h3:∀ p∈po,p.ou∈cd r->f p=true->∃ q∈po,f q=true/\q.lv=p.lv/\q.ip=p.ou):jl r (po.filter f):=by
 have iY:∀ p∈po.filter f,p∈po:=fun p hp=>(List.mem_filter.1 hp).1
 have h1:=jl.one h.rr;refine ⟨h.rr.filter f,fun p hp=>h.Lw p (iY p hp),fun p hp=>h.out p (iY p hp),fun p hp=>h.xw p (iY p hp),fun p hp=>h.OT p (iY p hp),fun v=>?_,fun v t ht=>?_⟩
 ·rintro ⟨t,ht,hc⟩;exact h.DQ v ⟨t,ht,AA h1 iY hc⟩
 ·constructor
  ·intro hu;unfold nZ at hu;rw [List.any_eq_true] at hu;obtain ⟨q,hq,Ns⟩:=hu;unfold Af at Ns;rw [Bool.and_eq_true,decide_eq_true_eq,decide_eq_true_eq] at Ns;obtain ⟨Nt,yO⟩:=List.mem_filter.1 hq;have hb:=(h.use v t ht).1 (by unfold nZ;rw [List.any_eq_true];exact ⟨q,Nt,by unfold Af;rw [Ns.1,Ns.2];simp⟩);unfold gC at hb;obtain ⟨i,hi⟩:=Option.isSome_iff_exists.1 hb;obtain ⟨p,hp,LC,rh,rfl⟩:=fC hi;have hf:=h2 p hp (rh ▸ ht) q Nt yO (Ns.1.trans LC.symm) (Ns.2.trans rh.symm);have:=nE (h1.filter f) (List.mem_filter.2 ⟨hp,hf⟩);rw [LC,rh] at this;unfold gC;rw [this];rfl
  ·intro hb;unfold gC at hb;obtain ⟨i,hi⟩:=Option.isSome_iff_exists.1 hb;obtain ⟨p,hp,LC,rh,rfl⟩:=fC hi;obtain ⟨AN,Nu⟩:=List.mem_filter.1 hp;obtain ⟨q,hq,yO,T7,Xi⟩:=h3 p AN (rh ▸ ht) Nu;unfold nZ;rw [List.any_eq_true];exact ⟨q,List.mem_filter.2 ⟨hq,yO⟩,by unfold Af;rw [T7,Xi,LC,rh];simp⟩
theorem Ap {l:List ByteArray} {s:ByteArray} (h:0<=bd l s):bd l s<(l.length:Nat):=by
 obtain ⟨hl,_⟩:=eD h;omega
theorem E9 {l:List ByteArray} {a b:ByteArray} (ha:0<=bd l a) (h:bd l a=bd l b):a=b:=by
 obtain ⟨h1,e1⟩:=eD ha;obtain ⟨h2,e2⟩:=eD (l:=l) (s:=b) (by omega);rw [<- e1,<- e2];have:(bd l a).toNat=(bd l b).toNat:=by rw [h]
 simp only [this]
theorem Im {r:Ro} {a b:ByteArray} (ha:a∈cz r\/a∈cd r) (hb:b∈cz r\/b∈cd r) (h:eo r a=eo r b):a=b:=by
 have hd:(cz r).length=r.de.length:=by unfold cz;rw [Zd]
 unfold eo at h;by_cases a1:0<=bd (cz r) a
 ·have:=Ap a1;by_cases b1:0<=bd (cz r) b
  ·rw [if_pos a1,if_pos b1] at h;exact E9 a1 h
  ·by_cases b2:0<=bd (cd r) b
   ·rw [if_pos a1,if_neg b1,if_pos b2] at h;omega
   ·rcases hb with hb | hb
    ·exact absurd hb (cq.1 (by omega))
    ·exact absurd hb (cq.1 (by omega))
 ·by_cases a2:0<=bd (cd r) a
  ·by_cases b1:0<=bd (cz r) b
   ·have:=Ap b1;rw [if_neg a1,if_pos a2,if_pos b1] at h;omega
   ·by_cases b2:0<=bd (cd r) b
    ·rw [if_neg a1,if_pos a2,if_neg b1,if_pos b2] at h;exact E9 a2 (by omega)
    ·rcases hb with hb | hb
     ·exact absurd hb (cq.1 (by omega))
     ·exact absurd hb (cq.1 (by omega))
  ·rcases ha with ha | ha
   ·exact absurd ha (cq.1 (by omega))
   ·exact absurd ha (cq.1 (by omega))
structure q9 (r:Ro) (po:List Po) (v:Int) (x:ByteArray):Prop where
 rr:po.Pairwise (fun a b=>qy r a b=true)
 Lw:∀ p∈po,0<=p.lv/\p.lv<r.lv
 out:∀ p∈po,p.ou∈cz r\/p.ou∈cd r
 xw:∀ p∈po,p.ip∈ct r\/p.ip∈cd r
 OT:∀ p∈po,j9 r p.ou=jR r p.ip
 DQ:∀ v,¬ ∃ t∈cd r,t∈fh po v ((cd r).length+1) t
 use:∀ u t,t∈cd r->(u=v/\t=x)\/(nZ po u t=true↔gC po u t=true)
 Wf:x∈cd r->gC po v x=true
theorem jl.TC {r:Ro} {po:List Po} {v:Int} {x:ByteArray} (h:jl r po) (hb:x∈cd r->gC po v x=true):q9 r po v x:=⟨h.rr,h.Lw,h.out,h.xw,h.OT,h.DQ,fun u t ht=>.inr (h.use u t ht),hb⟩
theorem q9.val {r:Ro} {po:List Po} {v:Int} {x:ByteArray} (h:q9 r po v x) (hx:x ∉ cd r):jl r po:=⟨h.rr,h.Lw,h.out,h.xw,h.OT,h.DQ,fun u t ht=>(h.use u t ht).resolve_left fun e=>hx (e.2 ▸ ht)⟩
theorem o5 {r:Ro} {po:List Po} {p:Po} (hs:po.Pairwise (fun a b=>qy r a b=true)) (ho:∀ q∈po,q.ou∈cz r\/q.ou∈cd r) (hp:p.ou∈cz r\/p.ou∈cd r) (Xv:ep po p.lv p.ou=none):(iX r p po).Pairwise (fun a b=>qy r a b=true):=
 tG hs fun q hq e=>iE.1 Xv q hq ⟨e.1.symm,(Im hp (ho q hq) e.2).symm⟩
theorem rP {r:Ro} {po:List Po} {p:Po} (h1:tl (iX r p po)) (h0:tl po) (v:Int) (o:ByteArray):ep (iX r p po) v o=if p.lv=v/\p.ou=o then some p.ip else ep po v o:=by
 by_cases h:p.lv=v/\p.ou=o
 ·rw [if_pos h];have:=nE h1 (iD.2 (.inl I):p∈iX r p po);rwa [h.1,h.2] at this
 ·rw [if_neg h];cases hi:ep po v o with
  | none =>
   rw [iE];intro q hq;rcases iD.1 hq with rfl | hq
   ·exact h
   ·exact iE.1 hi q hq
  | some i =>
   obtain ⟨q,hq,rfl,rfl,rfl⟩:=fC hi;exact nE h1 (iD.2 (.inr hq))
theorem q9.add {r:Ro} {po:List Po} {v:Int} {x o:ByteArray} (hn:qh r) (h:q9 r po v x) (hv:0<=v/\v<r.lv) (hx:x∈ct r\/x∈cd r) (ho:o∈cz r\/o∈cd r) (eJ:ep po v o=none) (hm:j9 r o=jR r x):q9 r (iX r ⟨v,o,x⟩ po) v o:=by
 have hs:=o5 (p:=⟨v,o,x⟩) h.rr h.out ho eJ;have h1:=jl.one hs;have h0:=jl.one h.rr;have my:=rP (p:=⟨v,o,x⟩) h1 h0;have tH:x≠o:=by
  intro e;subst e;rcases hx with hx | hx
  ·rcases ho with ho | ho
   ·exact hn.sd _ hx ho
   ·exact hn.st _ hx ho
  ·have:=h.Wf hx;unfold gC at this;rw [eJ] at this;cases this
 -- no one aac yf new output
 have vP:∀ u,ep po v u≠some o:=by
  intro u hu;obtain ⟨q,hq,LB,_,Q7⟩:=fC hu;rcases ho with ho | ho
  ·rcases h.xw q hq with hS | hT
   ·exact hn.sd _ (Q7 ▸ hS) ho
   ·exact hn.dt _ ho (Q7 ▸ hT)
  ·rcases h.use v o ho with e | e
   ·exact tH e.2.symm
   ·have:nZ po v o=true:=by
     unfold nZ;rw [List.any_eq_true];exact ⟨q,hq,by unfold Af;rw [LB,Q7];simp⟩
    have:=e.1 this;unfold gC at this;rw [eJ] at this;cases this
 have eI:∀ u y,ep (iX r ⟨v,o,x⟩ po) v u=some y->y≠o:=by
  intro u y hu e;subst e;rw [my] at hu;split at hu
  ·exact tH (Option.some.inj hu)
  ·exact vP u hu
 refine ⟨hs,fun p hp=>?_,fun p hp=>?_,fun p hp=>?_,fun p hp=>?_,fun w=>?_,fun u t ht=>?_,fun _=>?_⟩
 ·rcases iD.1 hp with rfl | hp
  ·exact hv
  ·exact h.Lw p hp
 ·rcases iD.1 hp with rfl | hp
  ·exact ho
  ·exact h.out p hp
 ·rcases iD.1 hp with rfl | hp
  ·exact hx
  ·exact h.xw p hp
 ·rcases iD.1 hp with rfl | hp
  ·exact hm
  ·exact h.OT p hp
 ·rintro ⟨t,ht,hc⟩;obtain ⟨j,hj,he⟩:=uL.1 hc
  -- yf way round is one of yf yF points
  have key:∀ k y z,(w=v->y≠o)->mE (iX r ⟨v,o,x⟩ po) w k y=some z->mE po w k y=some z:=by
   intro k
   induction k with
   | zero=>intro y z _ h;exact h
   | succ k ih =>
    intro y z hy hz;rw [mE] at hz ⊢;have e1:ep (iX r ⟨v,o,x⟩ po) w y=ep po w y:=by
     rw [my,if_neg fun e=>hy e.1.symm e.2.symm]
    cases hi:ep po w y with
    | none=>rw [e1,hi] at hz;cases hz
    | some u =>
     rw [e1,hi] at hz;refine ih u z (fun e q=>?_) hz;subst e q;exact eI y u (by rw [e1];exact hi) I
  refine h.DQ w ⟨t,ht,uL.2 ⟨j,hj,key (j+1) t t (fun e q=>?_) he⟩⟩;subst e q;obtain ⟨u,hu,QZ⟩:∃ u,mE (iX r ⟨w,t,x⟩ po) w j t=some u/\ep (iX r ⟨w,t,x⟩ po) w u=some t:=by
   rw [kb] at he;cases hq:mE (iX r ⟨w,t,x⟩ po) w j t with
   | none=>rw [hq] at he;cases he
   | some u =>
    rw [hq] at he;exact ⟨u,I,by simpa [mE] using he⟩
  exact eI u t QZ I
 ·by_cases e:u=v/\t=o
  ·exact .inl e
  ·refine .inr ?_;have hb:gC (iX r ⟨v,o,x⟩ po) u t=gC po u t:=by
    unfold gC;rw [my,if_neg fun q=>e ⟨q.1.symm,q.2.symm⟩]
   have hu:nZ (iX r ⟨v,o,x⟩ po) u t=true↔(u=v/\t=x)\/nZ po u t=true:=by
    unfold nZ;rw [List.any_eq_true,List.any_eq_true];constructor
    ·rintro ⟨q,hq,yO⟩;rcases iD.1 hq with rfl | hq
     ·unfold Af at yO;rw [Bool.and_eq_true,decide_eq_true_eq,decide_eq_true_eq] at yO;exact .inl ⟨yO.1.symm,yO.2.symm⟩
     ·exact .inr ⟨q,hq,yO⟩
    ·rintro (⟨rfl,rfl⟩ | ⟨q,hq,yO⟩)
     ·exact ⟨_,iD.2 (.inl I),by unfold Af;simp⟩
     ·exact ⟨q,iD.2 (.inr hq),yO⟩
   rw [hb,hu];rcases h.use u t ht with ex | ex
   ·obtain ⟨rfl,rfl⟩:=ex;exact ⟨fun _=>h.Wf ht,fun _=>.inl ⟨I,I⟩⟩
   ·constructor
    ·rintro (⟨rfl,rfl⟩ | q)
     ·exact h.Wf ht
     ·exact ex.1 q
    ·exact fun q=>.inr (ex.2 q)
 ·unfold gC;rw [my,if_pos ⟨I,I⟩];rfl
theorem q9.ne {r:Ro} {po:List Po} {v:Int} {x o:ByteArray} (hn:qh r) (h:q9 r po v x) (hx:x∈ct r\/x∈cd r) (ho:o∈cz r\/o∈cd r) (eJ:ep po v o=none):x≠o:=by
 intro e;subst e;rcases hx with hx | hx
 ·rcases ho with ho | ho
  ·exact hn.sd _ hx ho
  ·exact hn.st _ hx ho
 ·have:=h.Wf hx;unfold gC at this;rw [eJ] at this;cases this
theorem q9.unused {r:Ro} {po:List Po} {v:Int} {x o:ByteArray} (hn:qh r) (h:q9 r po v x) (hx:x∈ct r\/x∈cd r) (ho:o∈cz r\/o∈cd r) (eJ:ep po v o=none):∀ u,ep po v u≠some o:=by
 have tH:=h.ne hn hx ho eJ;intro u hu;obtain ⟨q,hq,LB,_,Q7⟩:=fC hu;rcases ho with ho | ho
 ·rcases h.xw q hq with hS | hT
  ·exact hn.sd _ (Q7 ▸ hS) ho
  ·exact hn.dt _ ho (Q7 ▸ hT)
 ·rcases h.use v o ho with e | e
  ·exact tH e.2.symm
  ·have:nZ po v o=true:=by
    unfold nZ;rw [List.any_eq_true];exact ⟨q,hq,by unfold Af;rw [LB,Q7];simp⟩
   have:=e.1 this;unfold gC at this;rw [eJ] at this;cases this
theorem AB {r:Ro} {po:List Po} {v:Int} {x o:ByteArray} (hn:qh r) (h:q9 r po v x) (hx:x∈ct r\/x∈cd r) (ho:o∈cz r\/o∈cd r) (eJ:ep po v o=none) {w:Int}:∀ {k:Nat} {y:ByteArray},¬(w=v/\y=o)->fh (iX r ⟨v,o,x⟩ po) w k y=fh po w k y
 | 0,_,_=>rfl
 | k + 1, y, hy => by
  have hs:=o5 (p:=⟨v,o,x⟩) h.rr h.out ho eJ;have e1:ep (iX r ⟨v,o,x⟩ po) w y=ep po w y:=by
   rw [rP (p:=⟨v,o,x⟩) (jl.one hs) (jl.one h.rr),if_neg fun e=>hy ⟨e.1.symm,e.2.symm⟩]
  rw [fh,fh,e1];cases hi:ep po w y with
  | none=>rfl
  | some u =>
   show u::_=u::_;rw [AB hn h hx ho eJ fun e=>by
    obtain ⟨rfl,rfl⟩:=e;exact h.unused hn hx ho eJ y hi]
theorem Fo {r:Ro} {po:List Po} {v:Int} {x o:ByteArray} (hn:qh r) (h:q9 r po v x) (hx:x∈ct r\/x∈cd r) (ho:o∈cz r\/o∈cd r) (eJ:ep po v o=none) {w:Int} {y:ByteArray} (hy:¬(w=v/\y=o)) {S:List ByteArray}:pZ (iX r ⟨v,o,x⟩ po) w S y=pZ po w S y:=by
 unfold pZ ib;rw [AB hn h hx ho eJ hy]
theorem B9 {r:Ro} {po:List Po} {v:Int} {x o:ByteArray} (hn:qh r) (h:q9 r po v x) (hv:0<=v/\v<r.lv) (hx:x∈ct r\/x∈cd r) (ho:o∈cz r\/o∈cd r) (eJ:ep po v o=none) (hm:j9 r o=jR r x):ib (iX r ⟨v,o,x⟩ po) v 7 o=ib po v 7 x:=by
 have h6:=hn.Tc;have hA:=h.add hn hv hx ho eJ hm;have hs:=o5 (p:=⟨v,o,x⟩) h.rr h.out ho eJ;have my:ep (iX r ⟨v,o,x⟩ po) v o=some x:=by
  rw [rP (p:=⟨v,o,x⟩) (jl.one hs) (jl.one h.rr),if_pos ⟨I,I⟩]
 have VM:=fun m hm=>qb (T:=cd r) (jl.tie hn hA.out hA.xw) (hA.DQ v) o (m:=m) hm
 have e8:ib (iX r ⟨v,o,x⟩ po) v 8 o=ib (iX r ⟨v,o,x⟩ po) v 7 x:=yY my;have e7:ib (iX r ⟨v,o,x⟩ po) v 7 o=ib (iX r ⟨v,o,x⟩ po) v 8 o:=by
  unfold ib;rw [VM 7 (by omega),VM 8 (by omega)]
 rw [e7,e8];unfold ib;rw [AB hn h hx ho eJ fun e=>h.ne hn hx ho eJ e.2]
theorem wF {po:List Po} (h1:tl po) {f:Po->Bool} (fH:∀ q∈po,f q=true->∀ p∈po,p.lv=q.lv->p.ou=q.ip->f p=true) {v:Int}:∀ {k:Nat} {y:ByteArray},(∀ p∈po,p.lv=v->p.ou=y->f p=true)->fh (po.filter f) v k y=fh po v k y
 | 0,_,_=>rfl
 | k + 1, y, hy => by
  rw [fh,fh];cases hi:ep po v y with
  | none =>
   have:ep (po.filter f) v y=none:=iE.2 fun p hp=>iE.1 hi p (List.mem_filter.1 hp).1
   rw [this]
  | some u =>
   obtain ⟨q,hq,LB,O4,rfl⟩:=fC hi;have hf:=hy q hq LB O4;have:ep (po.filter f) v y=some q.ip:=by
    have:=nE (h1.filter f) (List.mem_filter.2 ⟨hq,hf⟩);rwa [LB,O4] at this
   rw [this];show q.ip::_=q.ip::_;rw [wF h1 fH fun p hp LC rh=>fH q hq hf p hp (LC.trans LB.symm) rh]
def Ti.zero:Ti:=⟨⟨#[]⟩,0,0⟩
def gq (r:Ro) (i:Nat):Ti:=r.ti.getD i Ti.zero
def dG (r:Ro) (i:Nat):ByteArray:=(gq r i).nm
theorem pJ {r:Ro} {i:Nat} (h:i<r.ti.length):(cd r)[i]'(by unfold cd;rw [Zd];exact h)=dG r i:=by
 unfold cd dG gq;rw [List.getElem_map,List.getD_eq_getElem?_getD,Zc h];rfl
theorem pI {r:Ro} {i:Nat} (h:i<r.ti.length):dG r i∈cd r:=by rw [<- pJ h];exact Zj _
theorem uv {r:Ro} (hd:(cd r).Nodup) {i j:Nat} (hi:i<r.ti.length) (hj:j<r.ti.length) (h:dG r i=dG r j):i=j:=by
 have hl:(cd r).length=r.ti.length:=by unfold cd;rw [Zd]
 rw [<- pJ hi,<- pJ hj] at h;rcases Nat.lt_trichotomy i j with aL | he | aL
 ·exact absurd h (List.pairwise_iff_getElem.1 hd i j (by omega) (by omega) aL)
 ·exact he
 ·exact absurd h.symm (List.pairwise_iff_getElem.1 hd j i (by omega) (by omega) aL)
theorem rZ {r:Ro} (hd:(cd r).Nodup) {i:Nat} (hi:i<r.ti.length):bd (cd r) (dG r i)=(i:Nat):=by
 have hl:(cd r).length=r.ti.length:=by unfold cd;rw [Zd]
 refine qV (by omega) (pJ hi) fun j hj e=>?_;rw [pJ (by omega)] at e;have:=uv hd (by omega) hi e;omega
theorem uI {r:Ro} (hn:qh r) (hd:(cd r).Nodup) {i:Nat} (hi:i<r.ti.length):j9 r (dG r i)=(gq r i).fr:=by
 have h1:¬ 0<=bd (cz r) (dG r i):=fun h=>by
  have:dG r i∈cz r:=Classical.byContradiction fun hq=>by have:=cq.2 hq;omega
  exact hn.dt _ this (pI hi)
 unfold j9;rw [if_neg h1,rZ hd hi,if_pos (by omega),Int.toNat_natCast];rfl
theorem rQ {r:Ro} (hn:qh r) (hd:(cd r).Nodup) {i:Nat} (hi:i<r.ti.length):jR r (dG r i)=(gq r i).to:=by
 have h1:¬ 0<=bd (ct r) (dG r i):=fun h=>by
  have:dG r i∈ct r:=Classical.byContradiction fun hq=>by have:=cq.2 hq;omega
  exact hn.st _ this (pI hi)
 unfold jR;rw [if_neg h1,rZ hd hi,if_pos (by omega),Int.toNat_natCast];rfl
def dE (r:Ro) (po:List Po) (v:Int) (s:ByteArray):Wn:=⟨r.ti.length,fun i=>gC po v (dG r i)&&decide (pZ po v (ct r) (dG r i)=s),fun i=>!gC po v (dG r i),fun i=>(gq r i).fr,fun i=>(gq r i).to,jR r s⟩
def lI (r:Ro) (v:Int):List Po->ByteArray->List Nat->List Po×ByteArray
 | po,x,[]=>(po,x)
 | po,x,i::p=>lI r v (if gC po v (dG r i) then po else iX r ⟨v,dG r i,x⟩ po) (dG r i) p
def lJ (r:Ro) (po:List Po) (v:Int) (s:ByteArray) (p:List Nat) (d:ByteArray):List Po:=iX r ⟨v,d,(lI r v po s p).2⟩ (lI r v po s p).1
theorem CL {r:Ro} {po:List Po} {v:Int} {s:ByteArray} (hn:qh r) (hd:(cd r).Nodup) (hv:0<=v/\v<r.lv) (rh:jl r po):∀ (q u:List Nat) (pR:List Po) (x:ByteArray),(dE r po v s).ok (u++q)->q9 r pR v x->(x∈ct r\/x∈cd r)->jR r x=(dE r po v s).fin u->ib pR v 7 x=s->(∀ i,i<r.ti.length->i ∉ u->gC pR v (dG r i)=gC po v (dG r i))->(u=[]->pR=po) ->
  q9 r (lI r v pR x q).1 v (lI r v pR x q).2/\((lI r v pR x q).2∈ct r\/(lI r v pR x q).2∈cd r)/\jR r (lI r v pR x q).2=(dE r po v s).fin (u++q)/\ib (lI r v pR x q).1 v 7 (lI r v pR x q).2=s /\
  (∀ w y,y∈cz r->ep (lI r v pR x q).1 w y=ep pR w y)/\(∀ w y S,y∈cz r->pZ (lI r v pR x q).1 w S y=pZ pR w S y)
 | [], u, pR, x, _, h1, h2, h3, h4, _, _ => by
  rw [List.append_nil];exact ⟨h1,h2,h3,h4,fun _ _ _=>rfl,fun _ _ _ _=>rfl⟩
 | i :: q, u, pR, x, dU, h1, h2, h3, h4, h5, h6 => by
  have e:u++i::q=(u++[i])++q:=by simp
  rw [e] at dU ⊢;have a7:=(Wn.ji.1 (Wn.vv dU (List.prefix_append (u++[i]) q))).2;have hi:i<r.ti.length:=Wn.pN a7;have XI:i ∉ u:=Wn.vd a7;have jT:=pI hi;have ZD:=h5 i hi XI;unfold Wn.step at a7;simp only [Bool.and_eq_true,Bool.or_eq_true,decide_eq_true_eq] at a7;obtain ⟨_,_,JO⟩:=a7;rw [lI];by_cases hb:gC pR v (dG r i)=true
  ·rw [if_pos hb];rw [ZD] at hb;rcases JO with ⟨hu,sS⟩ | ⟨Rq,_⟩
   ·have hu:u=[]:=List.isEmpty_iff.1 hu;have hpp:=h6 hu;subst hpp;have sS:(gC pR v (dG r i)&&decide (pZ pR v (ct r) (dG r i)=s))=true:=sS;rw [Bool.and_eq_true,decide_eq_true_eq] at sS;refine CL hn hd hv rh q (u++[i]) pR (dG r i) dU (rh.TC fun _=>hb) (.inr jT) ?_ ?_ (fun j hj XF=>rfl) (fun h=>by simp at h)
    ·rw [rQ hn hd hi,Wn.lx];rfl
    ·rw [<- y8 hn rh (show (ep pR v (dG r i)).isSome=true from hb)];exact sS.2
   ·have Rq:(!gC po v (dG r i))=true:=Rq;rw [hb] at Rq;cases Rq
  ·rw [if_neg hb];have eJ:ep pR v (dG r i)=none:=by
    unfold gC at hb;cases hq:ep pR v (dG r i) with
    | none=>rfl
    | some z=>rw [hq] at hb;exact absurd rfl hb
   have hm:j9 r (dG r i)=jR r x:=by
    rcases JO with ⟨_,sS⟩ | ⟨_,hf⟩
    ·have sS:(gC po v (dG r i)&&decide (pZ po v (ct r) (dG r i)=s))=true:=sS;rw [Bool.and_eq_true,<- ZD] at sS;exact absurd sS.1 hb
    ·rw [uI hn hd hi,h3];exact hf
   have hs:=o5 (p:=⟨v,dG r i,x⟩) h1.rr h1.out (.inr jT) eJ;have my:=rP (p:=⟨v,dG r i,x⟩) (jl.one hs) (jl.one h1.rr)
   obtain ⟨g1,g2,g3,g4,g5,g6⟩:=CL hn hd hv rh q (u++[i]) (iX r ⟨v,dG r i,x⟩ pR) (dG r i) dU (h1.add hn hv h2 (.inr jT) eJ hm) (.inr jT) (by rw [rQ hn hd hi,Wn.lx];rfl)
    (by rw [B9 hn h1 hv h2 (.inr jT) eJ hm,h4])
    (fun j hj XF=>by
     have hne:dG r i≠dG r j:=fun e=>XF (by rw [uv hd hi hj e];simp)
     unfold gC;rw [my,if_neg fun e=>hne e.2]
     exact h5 j hj fun e=>XF (List.mem_append.2 (.inl e))) (fun h=>by simp at h)
   refine ⟨g1,g2,g3,g4,fun w y hy=>?_,fun w y S hy=>?_⟩
   ·rw [g5 w y hy,my,if_neg (fun e=>hn.dt y hy (by rw [<- e.2];exact jT))]
   ·rw [g6 w y S hy,Fo hn h1 h2 (.inr jT) eJ (fun e=>hn.dt y hy (by rw [e.2];exact jT))]
theorem HP {r:Ro} {po:List Po} {v:Int} {s d:ByteArray} (hn:qh r) (hd:(cd r).Nodup) (hv:0<=v/\v<r.lv) (rh:jl r po) (hs:s∈ct r) (lM:d∈cz r) (eJ:ep po v d=none) {p:List Nat} (dU:(dE r po v s).ok p) (lk:(dE r po v s).fin p=j9 r d) :
  jl r (lJ r po v s p d)/\pZ (lJ r po v s p d) v (ct r) d=s/\(∀ w y,y∈cz r->¬(w=v/\y=d)->pZ (lJ r po v s p d) w (ct r) y=pZ po w (ct r) y/\ep (lJ r po v s p d) w y=ep po w y):=by
 have a7:s ∉ cd r:=hn.st s hs;have Ug:ep po v s=none:=iE.2 fun q hq e=>by
  rcases rh.out q hq with h | h
  ·exact hn.sd s hs (e.2 ▸ h)
  ·exact a7 (e.2 ▸ h)
 obtain ⟨g1,g2,g3,g4,g5,g6⟩:=CL hn hd hv rh p [] po s dU (rh.TC fun h=>absurd h a7) (.inl hs) rfl (sZ Ug) (fun _ _ _=>rfl) (fun _=>rfl);have Gr:ep (lI r v po s p).1 v d=none:=by rw [g5 v d lM,eJ]
 have hm:j9 r d=jR r (lI r v po s p).2:=by rw [g3];exact lk.symm
 have hA:=g1.add hn hv g2 (.inl lM) Gr hm;have hV:=hA.val (hn.dt d lM);have Np:=o5 (p:=⟨v,d,(lI r v po s p).2⟩) g1.rr g1.out (.inl lM) Gr;have my:=rP (p:=⟨v,d,(lI r v po s p).2⟩) (jl.one Np) (jl.one g1.rr);refine ⟨hV,?_,fun w y hy hne=>⟨?_,?_⟩⟩
 ·have h9:(ep (iX r ⟨v,d,(lI r v po s p).2⟩ (lI r v po s p).1) v d).isSome=true:=by
   rw [my,if_pos ⟨I,I⟩];rfl
  have h8:=y8 hn hV h9;unfold lJ;rw [h8,B9 hn g1 hv g2 (.inl lM) Gr hm,g4]
 ·unfold lJ;rw [Fo hn g1 g2 (.inl lM) Gr hne,g6 w y _ hy]
 ·unfold lJ;rw [my,if_neg fun e=>hne ⟨e.1.symm,e.2.symm⟩,g5 w y hy]
end Go.Proofs.A1
