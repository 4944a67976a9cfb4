/- Parts of the proof: GkCore GkOps. -/
import Derived.RangeFuncRecord
import Derived.OrdersIn
import Derived.KernelRfl
import Derived.Below
import Derived.IntWalk
import Derived.Laws.Strings
set_option linter.unusedSectionVars false
set_option linter.unusedVariables false
set_option linter.unusedSimpArgs false
namespace Go.SL
open Go
open Go.RowKit (Below)
abbrev Slots:=List (Nat × Value)
def sget:Slots → Nat → Option Value
  | [],_=>none
  | (t,v) :: r,k=>bif Nat.beq t k then some v else sget r k
theorem sget_cons_ne {t k:Nat} {v:Value} {r:Slots} (h:t ≠ k):sget ((t,v) :: r) k = sget r k:=by
  have:Nat.beq t k = false:=by
    cases hb:Nat.beq t k with
    | false=>rfl
    | true=>exact absurd (Nat.eq_of_beq_eq_true hb) h
  simp [sget,this]
theorem sget_cons_eq {t:Nat} {v:Value} {r:Slots}:sget ((t,v) :: r) t = some v:=by
  simp [sget]
def SlotsOk (sl:Slots) (a:Act):Prop:=∀ t v,sget sl t = some v → a.tmps[t]? = some v
theorem SlotsOk.eval {sl:Slots} {a:Act} (h:SlotsOk sl a) {t:Nat} {v:Value} (hv:sget sl t = some v):a.eval (.tmp t) = v:=by
  have:=h t v hv
  simp [Act.eval,Array.getD_eq_getD_getElem?,this]
theorem SlotsOk.put {sl:Slots} {a:Act} (h:SlotsOk sl a) {d:Nat} (hd:d < a.tmps.size) (v:Value):SlotsOk ((d,v) :: sl) (a.put (some d) v):=by
  intro t u hu
  by_cases hdt:d = t
  · subst hdt
    rw [sget_cons_eq] at hu
    cases hu
    simp [Act.put,hd]
  · rw [sget_cons_ne hdt] at hu
    simp only [Act.put,Array.getElem?_setIfInBounds_ne hdt]
    exact h t u hu
theorem SlotsOk.sub {sl sl':Slots} {a:Act} (h:SlotsOk sl a) (hs:∀ t v,sget sl' t = some v → sget sl t = some v):SlotsOk sl' a:=fun t v hv=>h t v (hs t v hv)
def Is (sl:Slots) (x:Operand) (v:Value):Prop:=∀ a:Act,SlotsOk sl a → a.eval x = v
theorem Is.tmp {sl:Slots} {t:Nat} {v:Value} (h:sget sl t = some v):Is sl (.tmp t) v:=fun _ ha=>ha.eval h
theorem Is.const {sl:Slots} {v:Value}:Is sl (.const v) v:=fun _ _=>rfl
theorem Is.func {sl:Slots} {f:FuncId}:Is sl (.func f) (.func (.func f) #[] #[]):=fun _ _=>rfl
theorem Is.global {sl:Slots} {g:Nat}:Is sl (.global g) (.pointer (some ⟨g,0,none⟩)):=fun _ _=>rfl
def gv (c:Bool) (v:Value):Value:=bif c then v else undef
theorem gv_true {c:Bool} {v:Value} (h:c = true):gv c v = v:=by simp [gv,h]
theorem gv_false {c:Bool} {v:Value} (h:c = false):gv c v = undef:=by simp [gv,h]
theorem Is.gv {sl:Slots} {t:Nat} {c:Bool} {v:Value} (hc:c = true) (h:sget sl t = some (SL.gv c v)):Is sl (.tmp t) v:=fun _ ha=>by rw [ha.eval h,gv_true hc]
theorem Is.conv {sl:Slots} {x:Operand} {v v':Value} (h:Is sl x v) (e:v = v'):Is sl x v':=e ▸ h
def hp (w:World):Nat → Option Obj:=fun b=>w.heap[b]?
theorem hp_lt {w:World} {b:Nat} {o:Obj} (h:hp w b = some o):b < w.heap.size:=(Array.getElem?_eq_some_iff.1 h).1
structure Asn where
  sat:(Nat → Option Obj) → List Nat → Prop
  loc:∀ {h h':Nat → Option Obj} {fp:List Nat},sat h fp → (∀ b ∈ fp,h' b = h b) → sat h' fp
  own:∀ {h:Nat → Option Obj} {fp:List Nat},sat h fp → ∀ b ∈ fp,∃ o,h b = some o
def Sats (h:Nat → Option Obj):List Asn → List Nat → Prop
  | [],fp=>fp = []
  | A :: As,fp=>∃ f1 f2,fp = f1++f2 ∧ A.sat h f1 ∧ Sats h As f2
theorem Sats.own {h:Nat → Option Obj}:∀ {hs:List Asn} {fp:List Nat},Sats h hs fp → ∀ b ∈ fp,∃ o,h b = some o
  | [],_,hh,b,hb=>by rw [show _ = [] from hh] at hb;cases hb
  | A :: As, _, ⟨f1, f2, e, h1, h2⟩, b, hb => by
    subst e
    rcases List.mem_append.1 hb with hb | hb
    · exact A.own h1 b hb
    · exact Sats.own h2 b hb
theorem Sats.loc {h h':Nat → Option Obj}:∀ {hs:List Asn} {fp:List Nat},Sats h hs fp → (∀ b ∈ fp,h' b = h b) → Sats h' hs fp
  | [],_,hh,_=>hh
  | A :: As, _, ⟨f1, f2, e, h1, h2⟩, hb => by
    subst e
    exact ⟨f1,f2,rfl,A.loc h1 (fun b hb'=>hb b (List.mem_append_left _ hb')),Sats.loc h2 (fun b hb'=>hb b (List.mem_append_right _ hb'))⟩
theorem Sats.append_iff {h:Nat → Option Obj}:∀ {l1 l2:List Asn} {fp:List Nat},Sats h (l1++l2) fp ↔ ∃ f1 f2,fp = f1++f2 ∧ Sats h l1 f1 ∧ Sats h l2 f2
  | [],l2,fp=>⟨fun hh=>⟨[],fp,rfl,rfl,hh⟩,fun ⟨f1,f2,e,h1,h2⟩=>by rw [show f1 = [] from h1] at e;simpa [e] using h2⟩
  | A :: l1, l2, fp => by
    constructor
    · rintro ⟨f1,f2,rfl,h1,h2⟩
      obtain ⟨g1,g2,rfl,h3,h4⟩:=Sats.append_iff.1 h2
      exact ⟨f1++g1,g2,by simp,⟨f1,g1,rfl,h1,h3⟩,h4⟩
    · rintro ⟨f1,f2,rfl,⟨g1,g2,rfl,h1,h2⟩,h3⟩
      exact ⟨g1,g2++f2,by simp,h1,Sats.append_iff.2 ⟨g2,f2,rfl,h2,h3⟩⟩
inductive Take:List Asn → Asn → List Asn → Prop
  | here {A:Asn} {r:List Asn}:Take (A :: r) A r
  | there {A X:Asn} {r r':List Asn} (h:Take r A r'):Take (X :: r) A (X :: r')
theorem Take.append {hs hs':List Asn} {A:Asn} (h:Take hs A hs') (m:List Asn):Take (hs++m) A (hs'++m):=by
  induction h with
  | here=>exact .here
  | there _ ih=>exact .there ih
theorem Sats.take {h:Nat → Option Obj} {hs hs':List Asn} {A:Asn} (ht:Take hs A hs'):∀ {fp:List Nat},Sats h hs fp → ∃ f1 f2,A.sat h f1 ∧ Sats h hs' f2 ∧ fp.Perm (f1++f2):=by
  induction ht with
  | here =>
    rintro fp ⟨f1,f2,rfl,h1,h2⟩
    exact ⟨f1,f2,h1,h2,.refl _⟩
  | there _ ih =>
    rintro fp ⟨f1,f2,rfl,h1,h2⟩
    obtain ⟨g1,g2,h3,h4,hp⟩:=ih h2
    refine ⟨g1,f1++g2,h3,⟨f1,g2,rfl,h1,h4⟩,?_⟩
    exact (hp.append_left f1).trans (by
      rw [← List.append_assoc,← List.append_assoc]
      exact (List.perm_append_comm).append_right g2)
structure Keeps (md:List Nat) (w w':World):Prop where
  os:w'.os = w.os
  tape:w'.tape = w.tape
  output:w'.output = w.output
  size:w.heap.size ≤ w'.heap.size
  block:∀ k,k < w.heap.size → k ∉ md → w'.heap[k]? = w.heap[k]?
theorem Keeps.refl (md:List Nat) (w:World):Keeps md w w:=⟨rfl,rfl,rfl,Nat.le_refl _,fun _ _ _=>rfl⟩
theorem Keeps.trans {md:List Nat} {a b c:World} (h:Keeps md a b) (k:Keeps md b c):Keeps md a c:=
  ⟨k.os.trans h.os,k.tape.trans h.tape,k.output.trans h.output,Nat.le_trans h.size k.size,fun i hi hm=>(k.block i (Nat.lt_of_lt_of_le hi h.size) hm).trans (h.block i hi hm)⟩
theorem Keeps.mono {md md':List Nat} {w w':World} (h:Keeps md w w') (hs:∀ b ∈ md,b ∈ md'):Keeps md' w w':=
  ⟨h.os,h.tape,h.output,h.size,fun k hk hm=>h.block k hk (fun hb=>hm (hs k hb))⟩
theorem Keeps.below {w w':World} (h:Keeps [] w w'):Below w.heap.size w w':=⟨h.os,h.tape,h.output,h.size,fun k hk=>h.block k hk (by simp)⟩
theorem Keeps.drew (md:List Nat) (w:World):Keeps md w w.drew:=⟨rfl,rfl,rfl,Nat.le_refl _,fun _ _ _=>rfl⟩
theorem Keeps.alloc (md:List Nat) (w:World) (o:Obj):Keeps md w (w.alloc o):=
  ⟨rfl,rfl,rfl,by simp,fun k hk _=>by show (w.heap.push o)[k]? = _;rw [Array.getElem?_push,if_neg (by omega)]⟩
structure Cx where
  w0:World
  md:List Nat
  nt:Nat
structure Mem (c:Cx) (hs:List Asn) (w:World):Prop where
  keeps:Keeps c.md c.w0 w
  own:∃ fp:List Nat,fp.Nodup ∧ Sats (hp w) hs fp ∧ ∀ b ∈ fp,c.w0.heap.size ≤ b ∨ b ∈ c.md
theorem Mem.take {c:Cx} {hs hs':List Asn} {A:Asn} {w:World} (h:Mem c hs w) (ht:Take hs A hs'):Mem c (A :: hs') w:=by
  obtain ⟨k,fp,hn,hs,hb⟩:=h
  obtain ⟨f1,f2,h1,h2,hp⟩:=hs.take ht
  exact ⟨k,f1++f2,hp.nodup_iff.1 hn,⟨f1,f2,rfl,h1,h2⟩,fun b hb'=>hb b (hp.mem_iff.2 hb')⟩
theorem Mem.change {c:Cx} {As Bs hs:List Asn} {w w':World} (h:Mem c (As++hs) w)
    (hch:∀ fp,fp.Nodup → Sats (hp w) As fp → Keeps fp w w' ∧ ∃ fp':List Nat,fp'.Nodup ∧ Sats (hp w') Bs fp' ∧ ∀ b ∈ fp',b ∈ fp ∨ w.heap.size ≤ b):Mem c (Bs++hs) w':=by
  obtain ⟨k,fp,hn,hs,hb⟩:=h
  obtain ⟨f1,f2,rfl,h1,h2⟩:=Sats.append_iff.1 hs
  obtain ⟨n1,n2,n12⟩:=List.nodup_append.1 hn
  obtain ⟨hk,fp',hn',hs',hf'⟩:=hch f1 n1 h1
  have hlt:∀ b ∈ f2,b < w.heap.size:=fun b hb'=>let ⟨o,ho⟩:=h2.own b hb';hp_lt ho
  refine ⟨?_,fp'++f2,?_,Sats.append_iff.2 ⟨fp',f2,rfl,hs',h2.loc fun b hb'=>?_⟩,?_⟩
  · refine ⟨hk.os.trans k.os,hk.tape.trans k.tape,hk.output.trans k.output,Nat.le_trans k.size hk.size,fun b hb' hm=>?_⟩
    rw [← k.block b hb' hm]
    refine hk.block b (Nat.lt_of_lt_of_le hb' k.size) (fun hf=>?_)
    rcases hb b (List.mem_append_left _ hf) with h | h
    · omega
    · exact hm h
  · refine List.nodup_append.2 ⟨hn',n2,fun x hx y hy e=>?_⟩
    subst e
    rcases hf' x hx with h | h
    · exact n12 x h x hy rfl
    · have:=hlt x hy;omega
  · exact hk.block b (hlt b hb') (fun hf=>n12 b hf b hb' rfl)
  · intro b hb'
    rcases List.mem_append.1 hb' with h | h
    · rcases hf' b h with h | h
      · exact hb b (List.mem_append_left _ h)
      · exact .inl (Nat.le_trans k.size h)
    · exact hb b (List.mem_append_right _ h)
theorem Mem.keepsOn {c:Cx} {hs:List Asn} {w w':World} (h:Mem c hs w) (hk:Keeps [] w w'):Mem c hs w':=
  Mem.change (As:=[]) (Bs:=[]) h fun fp _ hf=>by
    rw [show fp = [] from hf]
    exact ⟨hk,[],List.nodup_nil,rfl,by simp⟩
theorem Mem.drew {c:Cx} {hs:List Asn} {w:World} (h:Mem c hs w):Mem c hs w.drew:=h.keepsOn (.drew _ _)
theorem Mem.dropTail {c:Cx} {l m:List Asn} {w:World} (h:Mem c (l++m) w):Mem c l w:=by
  obtain ⟨k,fp,hn,hs,hb⟩:=h
  obtain ⟨f1,f2,rfl,h1,h2⟩:=Sats.append_iff.1 hs
  exact ⟨k,f1,(List.nodup_append.1 hn).1,h1,fun b hb'=>hb b (List.mem_append_left _ hb')⟩
theorem Mem.dropHead {c:Cx} {A:Asn} {l:List Asn} {w:World} (h:Mem c (A :: l) w):Mem c l w:=by
  obtain ⟨k,fp,hn,⟨f1,f2,rfl,h1,h2⟩,hb⟩:=h
  exact ⟨k,f2,(List.nodup_append.1 hn).2.1,h2,fun b hb'=>hb b (List.mem_append_right _ hb')⟩
def blk (b:Nat) (o:Obj):Asn where
  sat h fp:=fp = [b] ∧ h b = some o
  loc:=fun ⟨e,h1⟩ hb=>⟨e,by rw [hb _ (by rw [e];simp)];exact h1⟩
  own:=fun ⟨e,h1⟩ b' hb'=>by rw [e] at hb';rw [List.mem_singleton.1 hb'];exact ⟨o,h1⟩
theorem Mem.blk {c:Cx} {hs hs':List Asn} {b:Nat} {o:Obj} {w:World} (h:Mem c hs w) (ht:Take hs (blk b o) hs'):w.heap[b]? = some o:=by
  obtain ⟨_,fp,_,⟨f1,f2,_,⟨_,h1⟩,_⟩,_⟩:=h.take ht
  exact h1
theorem Mem.alloc {c:Cx} {hs:List Asn} {w:World} (h:Mem c hs w) (o:Obj):Mem c (SL.blk w.heap.size o :: hs) (w.alloc o):=
  Mem.change (As:=[]) (Bs:=[SL.blk w.heap.size o]) h fun fp _ hf=>by
    rw [show fp = [] from hf]
    refine ⟨.alloc _ _ _,[w.heap.size],by simp,⟨[w.heap.size],[],rfl,⟨rfl,World.alloc_heap_new w o⟩,rfl⟩,by simp⟩
theorem Mem.store {c:Cx} {hs:List Asn} {b:Nat} {o o':Obj} {w w':World} (h:Mem c (SL.blk b o :: hs) w) (hk:Keeps [b] w w') (ho:w'.heap[b]? = some o'):Mem c (SL.blk b o' :: hs) w':=
  Mem.change (As:=[SL.blk b o]) (Bs:=[SL.blk b o']) h fun fp _ hf=>by
    obtain ⟨f1,f2,e,⟨e1,_⟩,e2⟩:=hf
    have:fp = [b]:=by rw [e,e1,show f2 = [] from e2];rfl
    subst this
    exact ⟨hk,[b],by simp,⟨[b],[],rfl,⟨rfl,ho⟩,rfl⟩,fun x hx=>.inl hx⟩
theorem Mem.base {c:Cx} {hs:List Asn} {w:World} (h:Mem c hs w) {b:Nat} (hb:b < c.w0.heap.size) (hm:b ∉ c.md):w.heap[b]? = c.w0.heap[b]?:=h.keeps.block b hb hm
def mark (r:Nat):Deferred:={ target:=.collected r,args:=#[] }
def mks (D:List Nat):List Asn:=D.map fun r=>blk r (.deferred (some []))
structure St (c:Cx) (D:List Nat) (sl:Slots) (hs:List Asn) (a:Act) (w:World):Prop where
  mem:Mem c (hs++mks D) w
  slots:SlotsOk sl a
  size:a.tmps.size = c.nt
  defers:a.defers = D.map mark
def Tr (c:Cx) (D:List Nat) (sl:Slots) (hs:List Asn) (X:Act → World → Prop):Prop:=∀ a w,St c D sl hs a w → X a w
theorem St.mem' {c:Cx} {D:List Nat} {sl:Slots} {hs:List Asn} {a:Act} {w:World} (h:St c D sl hs a w):Mem c hs w:=h.mem.dropTail
theorem St.put {c:Cx} {D:List Nat} {sl:Slots} {hs:List Asn} {a:Act} {w:World} (h:St c D sl hs a w) {d:Nat} (hd:d < c.nt) (v:Value):St c D ((d,v) :: sl) hs (a.put (some d) v) w:=
  ⟨h.mem,h.slots.put (by rw [h.size];exact hd) v,by simp [Act.put,h.size],h.defers⟩
theorem St.sub {c:Cx} {D:List Nat} {sl sl':Slots} {hs:List Asn} {a:Act} {w:World} (h:St c D sl hs a w) (hs':∀ t v,sget sl' t = some v → sget sl t = some v):St c D sl' hs a w:=
  ⟨h.mem,h.slots.sub hs',h.size,h.defers⟩
theorem St.heap {c:Cx} {D:List Nat} {sl:Slots} {hs hs':List Asn} {a:Act} {w w':World} (h:St c D sl hs a w) (hm:Mem c (hs'++mks D) w'):St c D sl hs' a w':=
  ⟨hm,h.slots,h.size,h.defers⟩
theorem Tr.mono {c:Cx} {D:List Nat} {sl:Slots} {hs:List Asn} {X Y:Act → World → Prop} (h:Tr c D sl hs X) (hxy:∀ a w,X a w → Y a w):Tr c D sl hs Y:=fun a w hs=>hxy a w (h a w hs)
def FR (r:Option Nat):Fence:={ Fence.wide with round:=r }
def WP (P:Program) (r:Option Nat) (code:Code) (Q:Exit → Act → World → Prop):Act → World → Prop:=code.wpIn (FR r) 0 P Q
def WL (P:Program) (r:Option Nat) (ops:Array Oper) (Q:Exit → Act → World → Prop):List Oper → Act → World → Prop
  | [],a,w=>Q .normal a w
  | o :: rest, a, w =>
    if Region.wanted o (yielded ops a.tmps) then o.wpIn (FR r) 0 P a w (WL P r ops Q rest) Q else WL P r ops Q rest (a.put o.dst undef) w
theorem fr_about (r:Option Nat) (o:Oper) (P:Program) (w:World) (ρ:Operand → Value):∀ f,o.about P w ρ = some f → (FR r).fn f:=fun _ _=>trivial
theorem wpOpsIn_eq_WL {P:Program} {r:Option Nat} {ops:Array Oper} {Q:Exit → Act → World → Prop} (l:List Oper):∀ k,(∀ j,l[j]? = ops[k + j]?) → wpOpsIn (FR r) 0 P ops Q (List.range' k l.length) = WL P r ops Q l:=by
  induction l with
  | nil=>intro k _;funext a w;simp [wpOpsIn,WL]
  | cons o l ih =>
    intro k h
    have h0:ops[k]? = some o:=by simpa using (h 0).symm
    have ih':=ih (k + 1) (fun j=>by have:=h (j + 1);simpa [Nat.add_assoc,Nat.add_comm 1 j] using this)
    funext a w
    simp only [List.length_cons,List.range'_succ,wpOpsIn,h0,WL,ih']
    split
    · rfl
    · simp [FR,Fence.wide]
theorem tr_region {P:Program} {r:Option Nat} {c:Cx} {D:List Nat} {sl:Slots} {hs:List Asn} {id:Nat} {l:List Oper} {Q:Exit → Act → World → Prop}
    (h:Tr c D sl hs (WL P r l.toArray Q l)):Tr c D sl hs (WP P r (.region id l.toArray false) Q):=fun a w hst=>by
  unfold WP
  refine wpIn_region ?_
  rw [List.range_eq_range',show l.toArray.size = l.length from by simp,wpOpsIn_eq_WL l 0 (by simp)]
  exact h a w hst
theorem tr_seq {P:Program} {r:Option Nat} {c:Cx} {D:List Nat} {sl:Slots} {hs:List Asn} {x y:Code} {Q:Exit → Act → World → Prop}
    (h:Tr c D sl hs (WP P r x (Exit.then (WP P r y Q) Q))):Tr c D sl hs (WP P r (.seq x y) Q):=fun a w hst=>wpIn_seq (h a w hst)
theorem tr_nil {P:Program} {r:Option Nat} {c:Cx} {D:List Nat} {sl:Slots} {hs:List Asn} {ops:Array Oper} {Q:Exit → Act → World → Prop}
    (h:Tr c D sl hs (Q .normal)):Tr c D sl hs (WL P r ops Q []):=h
theorem tr_then {c:Cx} {D:List Nat} {sl:Slots} {hs:List Asn} {N:Act → World → Prop} {Q:Exit → Act → World → Prop}
    (h:Tr c D sl hs N):Tr c D sl hs (Exit.then N Q .normal):=h
theorem tr_then_ret {c:Cx} {D:List Nat} {sl:Slots} {hs:List Asn} {N:Act → World → Prop} {Q:Exit → Act → World → Prop}
    (h:Tr c D sl hs (Q .ret)):Tr c D sl hs (Exit.then N Q .ret):=h
theorem tr_then_exit {c:Cx} {D:List Nat} {sl:Slots} {hs:List Asn} {N:Act → World → Prop} {Q:Exit → Act → World → Prop} {id:Nat}
    (h:Tr c D sl hs (Q (.exit id))):Tr c D sl hs (Exit.then N Q (.exit id)):=h
theorem tr_blk_normal {c:Cx} {D:List Nat} {sl:Slots} {hs:List Asn} {id:Nat} {Q:Exit → Act → World → Prop}
    (h:Tr c D sl hs (Q .normal)):Tr c D sl hs (Exit.inBlock id Q .normal):=h
theorem tr_blk_ret {c:Cx} {D:List Nat} {sl:Slots} {hs:List Asn} {id:Nat} {Q:Exit → Act → World → Prop}
    (h:Tr c D sl hs (Q .ret)):Tr c D sl hs (Exit.inBlock id Q .ret):=h
theorem tr_blk_exit {c:Cx} {D:List Nat} {sl:Slots} {hs:List Asn} {id:Nat} {Q:Exit → Act → World → Prop}
    (h:Tr c D sl hs (Q .normal)):Tr c D sl hs (Exit.inBlock id Q (.exit id)):=fun a w hst=>by
  simp only [Exit.inBlock,if_true];exact h a w hst
theorem tr_block {P:Program} {r:Option Nat} {c:Cx} {D:List Nat} {sl:Slots} {hs:List Asn} {id:Nat} {x:Code} {Q:Exit → Act → World → Prop}
    (h:Tr c D sl hs (WP P r x (Exit.inBlock id Q))):Tr c D sl hs (WP P r (.block id x) Q):=fun a w hst=>wpIn_block (h a w hst)
theorem tr_skip {P:Program} {r:Option Nat} {c:Cx} {D:List Nat} {sl:Slots} {hs:List Asn} {Q:Exit → Act → World → Prop}
    (h:Tr c D sl hs (Q .normal)):Tr c D sl hs (WP P r .skip Q):=fun a w hst=>wpIn_skip (h a w hst)
theorem tr_exit {P:Program} {r:Option Nat} {c:Cx} {D:List Nat} {sl:Slots} {hs:List Asn} {id:Nat} {Q:Exit → Act → World → Prop}
    (h:Tr c D sl hs (Q (.exit id))):Tr c D sl hs (WP P r (.exit id) Q):=fun a w hst=>wpIn_exit (h a w hst)
theorem tr_ret {P:Program} {r:Option Nat} {c:Cx} {D:List Nat} {sl:Slots} {hs:List Asn} {Q:Exit → Act → World → Prop}
    (h:Tr c D sl hs (Q .ret)):Tr c D sl hs (WP P r .ret Q):=fun a w hst=>wpIn_ret (h a w hst)
theorem tr_cond {P:Program} {r:Option Nat} {c:Cx} {D:List Nat} {sl:Slots} {hs:List Asn} {x:Operand} {b:Bool} {u v:Code} {Q:Exit → Act → World → Prop} (hx:Is sl x (.bool b))
    (ht:b = true → Tr c D sl hs (WP P r u Q)) (hf:b = false → Tr c D sl hs (WP P r v Q)):Tr c D sl hs (WP P r (.cond x u v) Q):=fun a w hst=>
  wpIn_cond_split (hx a hst.slots) (fun e=>ht e a w hst) (fun e=>hf e a w hst)
theorem tr_cond_t {P:Program} {r:Option Nat} {c:Cx} {D:List Nat} {sl:Slots} {hs:List Asn} {x:Operand} {u v:Code} {Q:Exit → Act → World → Prop} (hx:Is sl x (.bool true))
    (ht:Tr c D sl hs (WP P r u Q)):Tr c D sl hs (WP P r (.cond x u v) Q):=fun a w hst=>wpIn_cond_true (hx a hst.slots) (ht a w hst)
theorem tr_cond_f {P:Program} {r:Option Nat} {c:Cx} {D:List Nat} {sl:Slots} {hs:List Asn} {x:Operand} {u v:Code} {Q:Exit → Act → World → Prop} (hx:Is sl x (.bool false))
    (ht:Tr c D sl hs (WP P r v Q)):Tr c D sl hs (WP P r (.cond x u v) Q):=fun a w hst=>wpIn_cond_false (hx a hst.slots) (ht a w hst)
theorem tr_cond_d {P:Program} {r:Option Nat} {c:Cx} {D:List Nat} {sl:Slots} {hs:List Asn} {x:Operand} {p:Prop} {inst:Decidable p} {u v:Code} {Q:Exit → Act → World → Prop} (hx:Is sl x (.bool (decide p)))
    (ht:p → Tr c D sl hs (WP P r u Q)) (hf:¬ p → Tr c D sl hs (WP P r v Q)):Tr c D sl hs (WP P r (.cond x u v) Q):=
  tr_cond hx (fun e=>ht (of_decide_eq_true e)) (fun e=>hf (of_decide_eq_false e))
theorem tr_loop {P:Program} {r:Option Nat} {c:Cx} {D:List Nat} {sl:Slots} {hs:List Asn} {x:Code} {Q:Exit → Act → World → Prop} {ι:Type} (Φ:ι → Prop) (sI:ι → Slots) (hI:ι → List Asn) (μ:ι → Nat)
    (h0:Tr c D sl hs fun a w=>∃ i,Φ i ∧ St c D (sI i) (hI i) a w)
    (round:∀ i,Φ i → Tr c D (sI i) (hI i) (WP P r x (Exit.then (fun a w=>∃ j,Φ j ∧ μ j < μ i ∧ St c D (sI j) (hI j) a w) Q))) :
    Tr c D sl hs (WP P r (.loop x) Q):=fun a w hst=>by
  have key:∀ (n:Nat) i,μ i = n → Φ i → ∀ a w,St c D (sI i) (hI i) a w → True:=fun _ _ _ _ _ _ _=>trivial
  -- a measure on states: the least 'μ i' of those that fit
  let fits:Act → World → Nat → Prop:=fun a w n=>∃ i,Φ i ∧ μ i = n ∧ St c D (sI i) (hI i) a w
  have least:∀ a w,(∃ n,fits a w n) → ∃ n,fits a w n ∧ ∀ m,fits a w m → n ≤ m:=by
    intro a w ⟨n,hn⟩
    induction n using Nat.strongRecOn with
    | _ n ih =>
      by_cases h:∃ m,m < n ∧ fits a w m
      · obtain ⟨m,hm,hf⟩:=h
        exact ih m hm hf
      · exact ⟨n,hn,fun m hm=>Nat.le_of_not_lt fun hlt=>h ⟨m,hlt,hm⟩⟩
  let M:Act → World → Nat:=fun a w=>Classical.epsilon fun n=>fits a w n ∧ ∀ m,fits a w m → n ≤ m
  have hM:∀ a w,(∃ n,fits a w n) → fits a w (M a w) ∧ ∀ m,fits a w m → M a w ≤ m:=fun a w h=>Classical.epsilon_spec (least a w h)
  refine wpIn_loop (fun a w=>∃ n,fits a w n) M ?_ ?_
  · obtain ⟨i,hi,hs⟩:=h0 a w hst
    exact ⟨μ i,i,hi,rfl,hs⟩
  · intro a w hI
    obtain ⟨⟨i,hi,hm,hs⟩,_⟩:=hM a w hI
    refine wpIn_mono (round i hi a w hs) fun e a' w' h=>?_
    cases e with
    | normal =>
      obtain ⟨j,hj,hlt,hs'⟩:=h
      have hf:fits a' w' (μ j):=⟨j,hj,rfl,hs'⟩
      exact ⟨⟨_,hf⟩,Nat.lt_of_le_of_lt ((hM a' w' ⟨_,hf⟩).2 _ hf) (by rw [← hm];exact hlt)⟩
    | _=>exact h
theorem wl_op {P:Program} {r:Option Nat} {ops:Array Oper} {Q:Exit → Act → World → Prop} {o:Oper} {rest:List Oper} {a:Act} {w:World} (hg:o.guard = none)
    (h:o.wpIn (FR r) 0 P a w (WL P r ops Q rest) Q):WL P r ops Q (o :: rest) a w:=by
  unfold WL
  rw [if_pos (by simp [Region.wanted,hg])]
  exact h
def RunV (P:Program) (c:Cx) (sl:Slots) (hs:List Asn) (o:Oper) (V:Value):Prop:=
  (∀ d,o.op ≠ .defer d) ∧ ∀ a w,SlotsOk sl a → Mem c hs w → (execOp a.eval o).run P w = .ok (.value V) w
theorem tr_val {P:Program} {r:Option Nat} {c:Cx} {D:List Nat} {sl:Slots} {hs:List Asn} {ops:Array Oper} {Q:Exit → Act → World → Prop} {d:Nat} {op:Op} {ty:TypeId} {pos:String} {af:Array Edge} {rest:List Oper} {V:Value}
    (hr:RunV P c sl hs ⟨some d,op,ty,pos,af,none⟩ V) (hd:Nat.blt d c.nt = true) (k:Tr c D ((d,V) :: sl) hs (WL P r ops Q rest)) :
    Tr c D sl hs (WL P r ops Q (⟨some d,op,ty,pos,af,none⟩ :: rest)):=fun a w hst=>by
  refine wl_op rfl ⟨fr_about _ _ _ _ _,?_⟩
  rw [Oper.semAt_eq _ _ _ hr.1,hr.2 a w hst.slots hst.mem']
  exact k _ _ (hst.put (by simpa [Nat.blt_eq] using hd) V)
theorem wanted_gv {ops:Array Oper} {o:Oper} {j g:Nat} {want c0 q:Bool} {a:Act} {sl:Slots} (hg:o.guard = some (j,want)) (hj:((ops[j]?).bind (·.dst)) = some g) (hs:SlotsOk sl a) (hq:sget sl g = some (gv c0 (.bool q))) :
    Region.wanted o (yielded ops a.tmps) = (c0 && (q == want)):=by
  have ht:=hs _ _ hq
  simp only [Region.wanted,hg,yielded,hj,Option.bind_some,ht]
  cases c0 <;> cases q <;> cases want <;> rfl
theorem tr_valG {P:Program} {r:Option Nat} {c:Cx} {D:List Nat} {sl:Slots} {hs:List Asn} {ops:Array Oper} {Q:Exit → Act → World → Prop} {d:Nat} {op:Op} {ty:TypeId} {pos:String} {af:Array Edge} {rest:List Oper} {V:Value}
    {j g:Nat} {want c0 q:Bool} (hj:((ops[j]?).bind (·.dst)) = some g) (hq:sget sl g = some (gv c0 (.bool q)))
    (hr:(c0 && (q == want)) = true → RunV P c sl hs ⟨some d,op,ty,pos,af,some (j,want)⟩ V) (hd:Nat.blt d c.nt = true) (k:Tr c D ((d,gv (c0 && (q == want)) V) :: sl) hs (WL P r ops Q rest)) :
    Tr c D sl hs (WL P r ops Q (⟨some d,op,ty,pos,af,some (j,want)⟩ :: rest)):=fun a w hst=>by
  unfold WL
  rw [wanted_gv rfl hj hst.slots hq]
  by_cases h:(c0 && (q == want)) = true
  · rw [if_pos h]
    refine ⟨fr_about _ _ _ _ _,?_⟩
    rw [Oper.semAt_eq _ _ _ (hr h).1,(hr h).2 a w hst.slots hst.mem']
    rw [gv_true h] at k
    exact k _ _ (hst.put (by simpa [Nat.blt_eq] using hd) V)
  · rw [if_neg h]
    rw [gv_false (by simpa using h)] at k
    exact k _ _ (hst.put (by simpa [Nat.blt_eq] using hd) undef)
theorem tr_valG1 {P:Program} {r:Option Nat} {c:Cx} {D:List Nat} {sl:Slots} {hs:List Asn} {ops:Array Oper} {Q:Exit → Act → World → Prop} {d:Nat} {op:Op} {ty:TypeId} {pos:String} {af:Array Edge} {rest:List Oper} {V:Value}
    {j g:Nat} {want q:Bool} (hj:((ops[j]?).bind (·.dst)) = some g) (hq:sget sl g = some (.bool q))
    (hr:(q == want) = true → RunV P c sl hs ⟨some d,op,ty,pos,af,some (j,want)⟩ V) (hd:Nat.blt d c.nt = true) (k:Tr c D ((d,gv (q == want) V) :: sl) hs (WL P r ops Q rest)) :
    Tr c D sl hs (WL P r ops Q (⟨some d,op,ty,pos,af,some (j,want)⟩ :: rest)):=
  tr_valG (c0:=true) hj (by rw [hq];rfl) (by simpa using hr) hd (by simpa using k)
end Go.SL
namespace Go.SL
open Go
def isAggD:TypeDesc → Bool
  | .struct _ | .array _ _=>true
  | _=>false
def tyAgg (P:Program) (t:TypeId):Option (Bool × Nat):=
  match P.underlying t,P.info? t with
  | some d,some i=>some (isAggD d,i.size)
  | _,_=>none
class Ty (P:Program) (t:TypeId) (agg:outParam Bool) (n:outParam Nat):Prop where
  eq:tyAgg P t = some (agg,n)
class Und (P:Program) (t:TypeId) (d:outParam TypeDesc):Prop where
  eq:P.underlying t = some d
class Zer (P:Program) (t:TypeId) (v:outParam Value):Prop where
  eq:(P.info? t).map (·.zero) = some (some v)
class Byt (P:Program) (t:TypeId) (n:outParam Nat):Prop where
  eq:(P.info? t).map (·.bytes) = some n
section
variable {P:Program} {w:World} {t:TypeId}
theorem Ty.parts {agg:Bool} {n:Nat} [h:Ty P t agg n]:∃ d i,P.underlying t = some d ∧ P.info? t = some i ∧ isAggD d = agg ∧ i.size = n:=by
  have:=h.eq
  unfold tyAgg at this
  split at this
  · rename_i d i hd hi
    cases this
    exact ⟨d,i,hd,hi,rfl,rfl⟩
  · cases this
theorem rk_underlying {d:TypeDesc} (h:P.underlying t = some d):(underlying t).run P w = .ok d w:=by simp [underlying,h]
theorem rk_typeInfo {i:TypeInfo} (h:P.info? t = some i):(typeInfo t).run P w = .ok i w:=by simp [typeInfo,h]
theorem rk_sizeOf {agg:Bool} {n:Nat} [h:Ty P t agg n]:(sizeOf t).run P w = .ok n w:=by
  obtain ⟨d,i,_,hi,_,hn⟩:=Ty.parts (P:=P) (t:=t)
  simp [sizeOf,rk_typeInfo hi,hn]
theorem rk_isAgg {agg:Bool} {n:Nat} [h:Ty P t agg n]:(isAgg t).run P w = .ok agg w:=by
  obtain ⟨d,i,hd,_,ha,_⟩:=Ty.parts (P:=P) (t:=t)
  unfold isAgg
  rw [Sem.run_bind,rk_underlying hd,Result.andThen_ok]
  subst ha
  cases d <;> rfl
theorem rk_zeroValue {v:Value} [h:Zer P t v]:(zeroValue t).run P w = .ok v w:=by
  have:=h.eq
  cases hi:P.info? t with
  | none=>rw [hi] at this;cases this
  | some i =>
    rw [hi] at this
    have hz:i.zero = some v:=by simpa using this
    simp [zeroValue,rk_typeInfo hi,hz]
theorem rk_load_cell {a:Addr} {v:Value} (h:w.cell? a = some v) (m:Mode):(load a m).run P w = .ok v w:=by simp [h]
theorem cell_of_block {b:Nat} {cs:Array Value} {E:TypeId} {fz:Nat × Nat} (h:w.heap[b]? = some (.cells cs E fz)) (o:Nat):w.cell? ⟨b,o,none⟩ = cs[o]?:=by
  simp [World.cell?,h]
theorem addr_add (b o n:Nat):Addr.add ⟨b,o,none⟩ n = ⟨b,o + n,none⟩:=by
  unfold Addr.add
  split
  · rename_i h;simp [h]
  · rfl
theorem rk_loadCellsFrom {b o:Nat}:∀ (n i:Nat) (acc:Array Value) (vs:List Value),vs.length = n → (∀ j v,vs[j]? = some v → w.cell? ⟨b,o + (i + j),none⟩ = some v) →
    (loadCellsFrom ⟨b,o,none⟩ i n acc).run P w = .ok (acc++vs.toArray) w
  | 0, i, acc, vs, hl, _ => by
    have:vs = []:=List.length_eq_zero_iff.1 hl
    subst this
    simp [loadCellsFrom]
  | n + 1,i,acc,[],hl,_=>by simp at hl
  | n + 1, i, acc, v :: vs, hl, hc => by
    have h0:w.cell? (Addr.add ⟨b,o,none⟩ i) = some v:=by rw [addr_add];exact hc 0 v rfl
    simp only [loadCellsFrom,Sem.run_bind,rk_load_cell h0,Result.andThen_ok]
    rw [rk_loadCellsFrom n (i + 1) (acc.push v) vs (by simpa using hl) (fun j u hu=>by
      have:=hc (j + 1) u (by simpa using hu)
      rw [show i + 1 + j = i + (j + 1) from by omega]
      exact this)]
    simp
theorem rk_loadCells {b o n:Nat} {vs:List Value} (hl:vs.length = n) (hc:∀ j v,vs[j]? = some v → w.cell? ⟨b,o + j,none⟩ = some v):(loadCells ⟨b,o,none⟩ n).run P w = .ok vs.toArray w:=by
  unfold loadCells
  rw [rk_loadCellsFrom n 0 #[] vs hl (fun j v hv=>by simpa using hc j v hv)]
  simp
theorem rk_loadVar1 {b o n:Nat} {v:Value} [Ty P t false n] (hc:w.cell? ⟨b,o,none⟩ = some v):(loadVar t ⟨b,o,none⟩).run P w = .ok v w:=by
  unfold loadVar
  rw [Sem.run_bind,rk_isAgg (agg:=false) (n:=n),Result.andThen_ok]
  simp [hc]
theorem rk_loadVarN {b o n:Nat} {vs:List Value} [Ty P t true n] (hl:vs.length = n) (hc:∀ j v,vs[j]? = some v → w.cell? ⟨b,o + j,none⟩ = some v):(loadVar t ⟨b,o,none⟩).run P w = .ok (.agg vs.toArray) w:=by
  unfold loadVar
  rw [Sem.run_bind,rk_isAgg (agg:=true) (n:=n),Result.andThen_ok]
  simp only [if_true,Sem.run_bind,rk_sizeOf (t:=t) (agg:=true) (n:=n),Result.andThen_ok,rk_loadCells hl hc,Sem.run_pure]
end
def At (c:Cx) (hs:List Asn) (b o:Nat) (v:Value):Prop:=∀ w,Mem c hs w → w.cell? ⟨b,o,none⟩ = some v
theorem At.blk {c:Cx} {hs hs':List Asn} {b o:Nat} {cs:Array Value} {E:TypeId} {fz:Nat × Nat} {v:Value} (ht:Take hs (SL.blk b (.cells cs E fz)) hs') (hv:cs[o]? = some v):At c hs b o v:=
  fun w hm=>by rw [cell_of_block (hm.blk ht)];exact hv
theorem At.base {c:Cx} {hs:List Asn} {b o:Nat} {v:Value} (h:c.w0.cell? ⟨b,o,none⟩ = some v) (hmd:c.md = []):At c hs b o v:=fun w hm=>by
  have hb:b < c.w0.heap.size:=World.block_lt_of_cell? c.w0 ⟨b,o,none⟩ h
  have:=hm.base hb (by rw [hmd];simp)
  rw [← h]
  simp [World.cell?,this]
theorem At.baseN {c:Cx} {hs:List Asn} {b o:Nat} {v:Value} (h:c.w0.cell? ⟨b,o,none⟩ = some v) (hmd:b ∉ c.md):At c hs b o v:=fun w hm=>by
  have hb:b < c.w0.heap.size:=World.block_lt_of_cell? c.w0 ⟨b,o,none⟩ h
  have:=hm.base hb hmd
  rw [← h]
  simp [World.cell?,this]
def Ats (c:Cx) (hs:List Asn) (b o:Nat):List Value → Prop
  | []=>True
  | v :: vs=>At c hs b o v ∧ Ats c hs b (o + 1) vs
theorem Ats.get {c:Cx} {hs:List Asn} {b:Nat}:∀ {vs:List Value} {o:Nat},Ats c hs b o vs → ∀ j v,vs[j]? = some v → At c hs b (o + j) v
  | [],_,_,j,v,h=>by simp at h
  | x :: vs, o, ⟨h0, h1⟩, j, v, h => by
    cases j with
    | zero=>simp at h;subst h;exact h0
    | succ j=>have:=Ats.get h1 j v (by simpa using h);rwa [show o + 1 + j = o + (j + 1) from by omega] at this
theorem Ats.of_get {c:Cx} {hs:List Asn} {b:Nat}:∀ {vs:List Value} {o:Nat},(∀ j v,vs[j]? = some v → At c hs b (o + j) v) → Ats c hs b o vs
  | [],_,_=>trivial
  | x :: vs,o,h=>⟨h 0 x rfl,Ats.of_get fun j v hv=>by have:=h (j + 1) v (by simpa using hv);rwa [show o + (j + 1) = o + 1 + j from by omega] at this⟩
theorem Ats.base {c:Cx} {hs:List Asn} {b o:Nat} {vs:List Value} (h:∀ (j:Nat) (u:Value),vs[j]? = some u → c.w0.cell? ⟨b,o + j,none⟩ = some u) (hmd:c.md = []):Ats c hs b o vs:=
  Ats.of_get fun j u hu=>At.base (h j u hu) hmd
def cellsAt:List Value → Nat → Nat → List Value
  | _,_,0=>[]
  | [],_,_ + 1=>[]
  | v :: r,0,n + 1=>v :: cellsAt r 0 n
  | _ :: r,o + 1,n + 1=>cellsAt r o (n + 1)
theorem cellsAt_eq:∀ (cs:List Value) (o n:Nat),cellsAt cs o n = (cs.drop o).take n
  | cs,o,0=>by simp [cellsAt]
  | [],o,n + 1=>by simp [cellsAt]
  | v :: r,0,n + 1=>by simp [cellsAt,cellsAt_eq r 0 n]
  | v :: r,o + 1,n + 1=>by simp [cellsAt,cellsAt_eq r o (n + 1)]
def lget:List Value → Nat → Option Value
  | [],_=>none
  | v :: _,0=>some v
  | _ :: r,n + 1=>lget r n
theorem lget_eq:∀ (cs:List Value) (o:Nat),lget cs o = cs[o]?
  | [],_=>by simp [lget]
  | v :: _,0=>by simp [lget]
  | _ :: r,n + 1=>by simp [lget,lget_eq r n]
theorem At.lit {c:Cx} {hs hs':List Asn} {b o:Nat} {cs:List Value} {E:TypeId} {fz:Nat × Nat} {v:Value} (ht:Take hs (SL.blk b (.cells cs.toArray E fz)) hs') (hv:lget cs o = some v):At c hs b o v:=
  At.blk ht (by rw [lget_eq] at hv;simpa using hv)
theorem Ats.blk {c:Cx} {hs hs':List Asn} {b o n:Nat} {cs:List Value} {E:TypeId} {fz:Nat × Nat} {vs:List Value} (ht:Take hs (SL.blk b (.cells cs.toArray E fz)) hs') (hv:cellsAt cs o n = vs):Ats c hs b o vs:=by
  subst hv
  refine Ats.of_get fun j v hv=>At.blk ht ?_
  simp only [cellsAt_eq,List.getElem?_take,List.getElem?_drop] at hv
  split at hv
  · simpa using hv
  · cases hv
section
variable {P:Program} {c:Cx} {sl:Slots} {hs hs':List Asn} {dst:Option Tmp} {ty:TypeId} {pos:String} {af:Array Edge} {g:Option (Nat × Bool)}
theorem rk_move {x:Operand} {v:Value} (hx:Is sl x v):RunV P c sl hs ⟨dst,.move x,ty,pos,af,g⟩ v:=
  ⟨by simp,fun a w ha _=>by simp [execOp,hx a ha]⟩
theorem rk_assign {x:Operand} {v:Value} (hx:Is sl x v):RunV P c sl hs ⟨dst,.assign x,ty,pos,af,g⟩ v:=
  ⟨by simp,fun a w ha _=>by simp [execOp,hx a ha]⟩
theorem rk_pick {x y z:Operand} {q:Bool} {v u:Value} (hx:Is sl x (.bool q)) (hy:Is sl y v) (hz:Is sl z u):RunV P c sl hs ⟨dst,.pick x y z,ty,pos,af,g⟩ (bif q then v else u):=
  ⟨by simp,fun a w ha _=>by simp [execOp,hx a ha,hy a ha,hz a ha,asBool,cond_eq_ite]⟩
theorem rk_pick_or {x:Operand} {t:Nat} {p q:Bool} (hx:Is sl x (.bool p)) (hq:sget sl t = some (gv (p == false) (.bool q))) :
    RunV P c sl hs ⟨dst,.pick x (.const (.bool true)) (.tmp t),ty,pos,af,g⟩ (.bool (p || q)):=
  ⟨by simp,fun a w ha _=>by
    have h2:=ha.eval hq
    simp only [execOp,hx a ha,h2,asBool]
    cases p <;> simp [gv,Act.eval]⟩
theorem rk_pick_and {x:Operand} {t:Nat} {p q:Bool} (hx:Is sl x (.bool p)) (hq:sget sl t = some (gv (p == true) (.bool q))) :
    RunV P c sl hs ⟨dst,.pick x (.tmp t) (.const (.bool false)),ty,pos,af,g⟩ (.bool (p && q)):=
  ⟨by simp,fun a w ha _=>by
    have h2:=ha.eval hq
    simp only [execOp,hx a ha,h2,asBool]
    cases p <;> simp [gv,Act.eval]⟩
theorem rk_pick_or' {x:Operand} {t:Nat} {c0 p q:Bool} (hc:c0 = true) (hx:Is sl x (.bool p)) (hq:sget sl t = some (gv (c0 && (p == false)) (.bool q))) :
    RunV P c sl hs ⟨dst,.pick x (.const (.bool true)) (.tmp t),ty,pos,af,g⟩ (.bool (p || q)):=rk_pick_or hx (by rw [hq,hc,Bool.true_and])
theorem rk_pick_and' {x:Operand} {t:Nat} {c0 p q:Bool} (hc:c0 = true) (hx:Is sl x (.bool p)) (hq:sget sl t = some (gv (c0 && (p == true)) (.bool q))) :
    RunV P c sl hs ⟨dst,.pick x (.tmp t) (.const (.bool false)),ty,pos,af,g⟩ (.bool (p && q)):=rk_pick_and hx (by rw [hq,hc,Bool.true_and])
theorem rk_bin {op:BinOp} {t u:TypeId} {x y:Operand} {v u' r:Value} (hx:Is sl x v) (hy:Is sl y u') (hr:∀ w,(do eqGuard op t x y v u';binOp op t v u').run P w = .ok r w) :
    RunV P c sl hs ⟨dst,.binOp op t x y u,ty,pos,af,g⟩ r:=
  ⟨by simp,fun a w ha _=>by
    have:=hr w
    simp only [Sem.run_bind] at this
    simp only [execOp,hx a ha,hy a ha,Sem.run_bind,this,Result.andThen_ok,Sem.run_pure]⟩
theorem eqGuard_int {op:BinOp} {t:TypeId} {x y:Operand} {k k':IntKind} {a b:Int} {w:World}:(eqGuard op t x y (.int k a) (.int k' b)).run P w = .ok () w:=by
  unfold eqGuard;split <;> rfl
theorem eqGuard_string {op:BinOp} {t:TypeId} {x y:Operand} {a b:ByteArray} {w:World}:(eqGuard op t x y (.string a) (.string b)).run P w = .ok () w:=by
  unfold eqGuard;split <;> rfl
theorem eqGuard_bool {op:BinOp} {t:TypeId} {x y:Operand} {a b:Bool} {w:World}:(eqGuard op t x y (.bool a) (.bool b)).run P w = .ok () w:=by
  unfold eqGuard;split <;> rfl
def InI (n:Int):Prop:=-9223372036854775808 ≤ n ∧ n ≤ 9223372036854775807
theorem rk_add {t u:TypeId} {x y:Operand} {a b:Int} (hx:Is sl x (.int .i64 a)) (hy:Is sl y (.int .i64 b)) (hb:InI (a + b)) :
    RunV P c sl hs ⟨dst,.binOp .add t x y u,ty,pos,af,g⟩ (.int .i64 (a + b)):=
  rk_bin hx hy fun w=>by simp [eqGuard_int,binOp,Op.intArith,IntWalk.i64_in _ hb]
theorem rk_sub {t u:TypeId} {x y:Operand} {a b:Int} (hx:Is sl x (.int .i64 a)) (hy:Is sl y (.int .i64 b)) (hb:InI (a - b)) :
    RunV P c sl hs ⟨dst,.binOp .sub t x y u,ty,pos,af,g⟩ (.int .i64 (a - b)):=
  rk_bin hx hy fun w=>by simp [eqGuard_int,binOp,Op.intArith,IntWalk.i64_in _ hb]
theorem rk_mul {t u:TypeId} {x y:Operand} {a b:Int} (hx:Is sl x (.int .i64 a)) (hy:Is sl y (.int .i64 b)) (hb:InI (a * b)) :
    RunV P c sl hs ⟨dst,.binOp .mul t x y u,ty,pos,af,g⟩ (.int .i64 (a * b)):=
  rk_bin hx hy fun w=>by simp [eqGuard_int,binOp,Op.intArith,IntWalk.i64_in _ hb]
theorem rk_addw {k:IntKind} {t u:TypeId} {x y:Operand} {a b:Int} (hx:Is sl x (.int k a)) (hy:Is sl y (.int k b)) :
    RunV P c sl hs ⟨dst,.binOp .add t x y u,ty,pos,af,g⟩ (.int k (k.wrap (a + b))):=
  rk_bin hx hy fun w=>by simp [eqGuard_int,binOp,Op.intArith]
theorem rk_quo {t u:TypeId} {x y:Operand} {a b:Int} (hx:Is sl x (.int .i64 a)) (hy:Is sl y (.int .i64 b)) (h0:0 ≤ a) (h1:a ≤ 9223372036854775807) (hb:0 < b) :
    RunV P c sl hs ⟨dst,.binOp .quo t x y u,ty,pos,af,g⟩ (.int .i64 (a / b)):=
  rk_bin hx hy fun w=>by
    have hw:IntKind.i64.wrap (a.tdiv b) = a / b:=by
      rw [Int.tdiv_eq_ediv_of_nonneg h0]
      have h2:0 ≤ a / b:=Int.ediv_nonneg h0 (by omega)
      have h3:a / b ≤ a:=Int.ediv_le_self _ h0
      exact IntWalk.i64_in _ ⟨by omega,by omega⟩
    simp [eqGuard_int,binOp,Op.intDiv,show ¬ b = 0 from by omega,hw]
theorem rk_rem {t u:TypeId} {x y:Operand} {a b:Int} (hx:Is sl x (.int .i64 a)) (hy:Is sl y (.int .i64 b)) (h0:0 ≤ a) (hb:b ≠ 0) :
    RunV P c sl hs ⟨dst,.binOp .rem t x y u,ty,pos,af,g⟩ (.int .i64 (a % b)):=
  rk_bin hx hy fun w=>by
    simp [eqGuard_int,binOp,Op.intDiv,hb,Int.tmod_eq_emod_of_nonneg h0]
theorem rk_lss {k:IntKind} {t u:TypeId} {x y:Operand} {a b:Int} (hx:Is sl x (.int k a)) (hy:Is sl y (.int k b)) :
    RunV P c sl hs ⟨dst,.binOp .lss t x y u,ty,pos,af,g⟩ (.bool (decide (a < b))):=
  rk_bin hx hy fun w=>by simp [eqGuard_int,binOp,Op.intCmp]
theorem rk_leq {k:IntKind} {t u:TypeId} {x y:Operand} {a b:Int} (hx:Is sl x (.int k a)) (hy:Is sl y (.int k b)) :
    RunV P c sl hs ⟨dst,.binOp .leq t x y u,ty,pos,af,g⟩ (.bool (decide (a ≤ b))):=
  rk_bin hx hy fun w=>by simp [eqGuard_int,binOp,Op.intCmp]
theorem rk_gtr {k:IntKind} {t u:TypeId} {x y:Operand} {a b:Int} (hx:Is sl x (.int k a)) (hy:Is sl y (.int k b)) :
    RunV P c sl hs ⟨dst,.binOp .gtr t x y u,ty,pos,af,g⟩ (.bool (decide (b < a))):=
  rk_bin hx hy fun w=>by simp [eqGuard_int,binOp,Op.intCmp]
theorem rk_geq {k:IntKind} {t u:TypeId} {x y:Operand} {a b:Int} (hx:Is sl x (.int k a)) (hy:Is sl y (.int k b)) :
    RunV P c sl hs ⟨dst,.binOp .geq t x y u,ty,pos,af,g⟩ (.bool (decide (b ≤ a))):=
  rk_bin hx hy fun w=>by simp [eqGuard_int,binOp,Op.intCmp]
theorem rk_eql {k:IntKind} {t u:TypeId} {x y:Operand} {a b:Int} (hx:Is sl x (.int k a)) (hy:Is sl y (.int k b)) :
    RunV P c sl hs ⟨dst,.binOp .eql t x y u,ty,pos,af,g⟩ (.bool (decide (a = b))):=
  rk_bin hx hy fun w=>by simp [eqGuard_int,binOp,Op.intCmp];rfl
theorem rk_neq {k:IntKind} {t u:TypeId} {x y:Operand} {a b:Int} (hx:Is sl x (.int k a)) (hy:Is sl y (.int k b)) :
    RunV P c sl hs ⟨dst,.binOp .neq t x y u,ty,pos,af,g⟩ (.bool (decide (a ≠ b))):=
  rk_bin hx hy fun w=>by simp [eqGuard_int,binOp,Op.intCmp];rfl
theorem rk_not {t:TypeId} {x:Operand} {b:Bool} (hx:Is sl x (.bool b)):RunV P c sl hs ⟨dst,.unOp .not t x,ty,pos,af,g⟩ (.bool (!b)):=
  ⟨by simp,fun a w ha _=>by simp [execOp,hx a ha,Op.unary]⟩
theorem str_beq (a b:ByteArray):(a.toList == b.toList) = decide (a = b):=by
  rw [ByteArray.toList_eq,ByteArray.toList_eq,Bool.eq_iff_iff]
  simp only [beq_iff_eq,decide_eq_true_eq]
  constructor
  · intro h;cases a;cases b;simp at h;rw [h]
  · intro h;rw [h]
theorem rk_eqls {t u:TypeId} {x y:Operand} {a b:ByteArray} (hx:Is sl x (.string a)) (hy:Is sl y (.string b)) :
    RunV P c sl hs ⟨dst,.binOp .eql t x y u,ty,pos,af,g⟩ (.bool (decide (a = b))):=
  rk_bin hx hy fun w=>by simp [eqGuard_string,binOp,Op.stringOp,str_beq]
theorem rk_neqs {t u:TypeId} {x y:Operand} {a b:ByteArray} (hx:Is sl x (.string a)) (hy:Is sl y (.string b)) :
    RunV P c sl hs ⟨dst,.binOp .neq t x y u,ty,pos,af,g⟩ (.bool (decide (a ≠ b))):=
  rk_bin hx hy fun w=>by simp [eqGuard_string,binOp,Op.stringOp,str_beq]
theorem rk_cat {t u:TypeId} {x y:Operand} {a b:ByteArray} (hx:Is sl x (.string a)) (hy:Is sl y (.string b)) (hb:a.size + b.size ≤ 9223372036854775807) :
    RunV P c sl hs ⟨dst,.binOp .add t x y u,ty,pos,af,g⟩ (.string (a++b)):=
  rk_bin hx hy fun w=>by
    simp [eqGuard_string,binOp,Op.stringOp]
    omega
theorem rk_load1 {t:TypeId} {n:Nat} {x:Operand} {b o:Nat} {v:Value} [Ty P t false n] (hx:Is sl x (.pointer (some ⟨b,o,none⟩))) (hv:At c hs b o v) :
    RunV P c sl hs ⟨dst,.load t x,ty,pos,af,g⟩ v:=
  ⟨by simp,fun a w ha hm=>by simp [execOp,hx a ha,Instr.loadAt,Instr.sureAddr,rk_loadVar1 (hv w hm)]⟩
theorem rk_loadN {t:TypeId} {n:Nat} {x:Operand} {b o:Nat} {vs:List Value} [Ty P t true n] (hx:Is sl x (.pointer (some ⟨b,o,none⟩))) (hv:Ats c hs b o vs) (hl:vs.length = n) :
    RunV P c sl hs ⟨dst,.load t x,ty,pos,af,g⟩ (.agg vs.toArray):=
  ⟨by simp,fun a w ha hm=>by simp [execOp,hx a ha,Instr.loadAt,Instr.sureAddr,rk_loadVarN hl (fun j v h=>hv.get j v h w hm)]⟩
def fieldOff (P:Program) (t:TypeId) (i:Nat):Option Nat:=
  match P.underlying t with
  | some (.struct fs) => match fs[i]? with
    | some f => match P.info? f.type with
      | some fi=>if fi.size = 0 then none else some f.offset
      | none=>none
    | none=>none
  | _=>none
class FOff (P:Program) (t:TypeId) (i:Nat) (o:outParam Nat):Prop where
  eq:fieldOff P t i = some o
theorem FOff.parts {t:TypeId} {i o:Nat} [h:FOff P t i o]:∃ fs f fi,P.underlying t = some (.struct fs) ∧ fs[i]? = some f ∧ P.info? f.type = some fi ∧ fi.size ≠ 0 ∧ f.offset = o:=by
  have:=h.eq
  unfold fieldOff at this
  split at this
  · rename_i fs hfs
    split at this
    · rename_i f hf
      split at this
      · rename_i fi hfi
        split at this
        · cases this
        · rename_i hz;cases this;exact ⟨fs,f,fi,hfs,hf,hfi,hz,rfl⟩
      · cases this
    · cases this
  · cases this
theorem rk_fieldAddr {t:TypeId} {i o:Nat} {x:Operand} {b k q:Nat} [FOff P t i o] (hx:Is sl x (.pointer (some ⟨b,k,none⟩))) (he:k + o = q) :
    RunV P c sl hs ⟨dst,.fieldAddr t x i,ty,pos,af,g⟩ (.pointer (some ⟨b,q,none⟩)):=
  ⟨by simp,fun a w ha _=>by
    subst he
    obtain ⟨fs,f,fi,h1,h2,h3,h4,h5⟩:=FOff.parts (P:=P) (t:=t) (i:=i)
    simp only [execOp,hx a ha,Instr.fieldAt,Sem.run_bind,rk_underlying h1,Result.andThen_ok,h2,Instr.sureAddr,Sem.run_pure,fieldPlace,sizeOf,rk_typeInfo h3,h4,if_false,addr_add,h5]⟩
def partOf (agg:Bool) (n:Nat) (cs:List Value) (o:Nat):Option Value:=
  bif agg then some (.agg (cellsAt cs o n).toArray) else lget cs o
theorem rk_part {t:TypeId} {agg:Bool} {n:Nat} [Ty P t agg n] {cs:List Value} {o:Nat} {v:Value} {w:World} (h:partOf agg n cs o = some v):(part t cs.toArray o).run P w = .ok v w:=by
  unfold part
  rw [Sem.run_bind,rk_isAgg (agg:=agg) (n:=n),Result.andThen_ok]
  cases agg with
  | true =>
    simp only [partOf,cond_true,Option.some.injEq] at h
    simp only [if_true,Sem.run_bind,rk_sizeOf (t:=t) (agg:=true) (n:=n),Result.andThen_ok,Sem.run_pure,← h,cellsAt_eq]
    congr 2
    simp [List.extract_eq_take_drop]
  | false =>
    simp only [partOf,cond_false,lget_eq] at h
    simp [h]
def fieldInfo (P:Program) (t:TypeId) (i:Nat):Option (Nat × TypeId):=
  match P.underlying t with
  | some (.struct fs)=>(fs[i]?).map fun f=>(f.offset,f.type)
  | _=>none
class FTy (P:Program) (t:TypeId) (i:Nat) (o:outParam Nat) (ft:outParam TypeId):Prop where
  eq:fieldInfo P t i = some (o,ft)
theorem rk_indexAddr {t e:TypeId} {n:Nat} {agg:Bool} {x y:Operand} {a0:Option Addr} {b o len cap q:Nat} {k:IntKind} {i:Int} [hu:Und P t (.slice e)] [Ty P e agg n] (hx:Is sl x (.slice a0 len cap)) (hy:Is sl y (.int k i))
    (ha:a0 = some ⟨b,o,none⟩) (h0:0 ≤ i) (h1:i < len) (he:o + i.toNat * n = q):RunV P c sl hs ⟨dst,.indexAddr t x y,ty,pos,af,g⟩ (.pointer (some ⟨b,q,none⟩)):=
  ⟨by simp,fun a w hsl _=>by
    subst he;subst ha
    simp [execOp,hx a hsl,hy a hsl,Instr.indexAt,asIntOf,rk_underlying hu.eq,h0,h1,rk_sizeOf (agg:=agg) (n:=n),addr_add]⟩
theorem rk_indexAddrA {t e:TypeId} {n len:Nat} {agg:Bool} {x y:Operand} {b o q:Nat} {k:IntKind} {i:Int} [hu:Und P t (.array len e)] [Ty P e agg n] (hx:Is sl x (.pointer (some ⟨b,o,none⟩))) (hy:Is sl y (.int k i))
    (h0:0 ≤ i) (h1:i < len) (he:o + i.toNat * n = q):RunV P c sl hs ⟨dst,.indexAddr t x y,ty,pos,af,g⟩ (.pointer (some ⟨b,q,none⟩)):=
  ⟨by simp,fun a w ha _=>by
    subst he
    simp [execOp,hx a ha,hy a ha,Instr.indexAt,Instr.sureAddr,asIntOf,rk_underlying hu.eq,h0,h1,rk_sizeOf (agg:=agg) (n:=n),addr_add]⟩
theorem rk_index {t e:TypeId} {n len:Nat} {agg:Bool} {x y:Operand} {k:IntKind} {i:Int} {cs:List Value} {v:Value} [hu:Und P t (.array len e)] [Ty P e agg n] (hx:Is sl x (.agg cs.toArray)) (hy:Is sl y (.int k i))
    (h0:0 ≤ i) (h1:i < len) (hv:partOf agg n cs (i.toNat * n) = some v):RunV P c sl hs ⟨dst,.index t x y,ty,pos,af,g⟩ v:=
  ⟨by simp,fun a w ha _=>by
    simp [execOp,hx a ha,hy a ha,Instr.index,asIntOf,rk_underlying hu.eq,h0,h1,rk_sizeOf (agg:=agg) (n:=n),rk_part (agg:=agg) (n:=n) hv]⟩
theorem rk_indexS {t:TypeId} {x y:Operand} {k:IntKind} {i:Int} {s:ByteArray} [hu:Und P t .string] (hx:Is sl x (.string s)) (hy:Is sl y (.int k i))
    (h0:0 ≤ i) (h1:i < s.size):RunV P c sl hs ⟨dst,.index t x y,ty,pos,af,g⟩ (.int .u8 ((s.data.toList[i.toNat]?.getD 0).toNat:Nat)):=
  ⟨by simp,fun a w ha _=>by
    have hlt:i.toNat < s.size:=by omega
    have hs:s[i.toNat]? = some s[i.toNat]:=getElem?_pos s i.toNat hlt
    have hd:s.data.toList[i.toNat]?.getD 0 = s[i.toNat]:=by
      rw [Array.getElem?_toList,show s.data[i.toNat]? = some s.data[i.toNat] from Array.getElem?_eq_getElem hlt]
      rfl
    simp [execOp,hx a ha,hy a ha,Instr.index,asIntOf,rk_underlying hu.eq,h0,hs,← hd]⟩
theorem rk_makeFunc {f:Fn} {first captured:Array Operand} {vs us:Array Value} (h1:∀ a,SlotsOk sl a → first.map a.eval = vs) (h2:∀ a,SlotsOk sl a → captured.map a.eval = us) :
    RunV P c sl hs ⟨dst,.makeFunc f first captured,ty,pos,af,g⟩ (.func f vs us):=
  ⟨by simp,fun a w ha _=>by simp [execOp,h1 a ha,h2 a ha,Instr.makeFunc]⟩
theorem rk_extract {x:Operand} {i:Nat} {vs:List Value} {v:Value} (hx:Is sl x (.tuple vs.toArray)) (hv:lget vs i = some v):RunV P c sl hs ⟨dst,.extract x i,ty,pos,af,g⟩ v:=
  ⟨by simp,fun a w ha _=>by simp [execOp,hx a ha,Instr.extract,← lget_eq,hv]⟩
theorem rk_build {t:TypeId} {parts:Array (Nat × Operand)} {ps:Array (Nat × Value)} {v:Value} (hp:∀ a,SlotsOk sl a → (parts.map fun (i,x)=>(i,a.eval x)) = ps) (hb:∀ w,(Instr.build t ps).run P w = .ok v w) :
    RunV P c sl hs ⟨dst,.build t parts,ty,pos,af,g⟩ v:=
  ⟨by simp,fun a w ha _=>by simp only [execOp,hp a ha,Sem.run_bind,hb w,Result.andThen_ok,Sem.run_pure]⟩
theorem rk_len_slice {t:TypeId} {e:TypeId} {x:Operand} {b:Option Addr} {n cap:Nat} [hu:Und P t (.slice e)] (hx:Is sl x (.slice b n cap)) :
    RunV P c sl hs ⟨dst,.call ⟨.builtin .len,#[x],#[t]⟩,ty,pos,af,g⟩ (.int .i64 n):=
  ⟨by simp,fun a w ha _=>by simp [execOp,hx a ha,resolve,invoke,builtin,Builtin.len_,rk_underlying hu.eq,goInt]⟩
theorem rk_len_string {t:TypeId} {x:Operand} {s:ByteArray} [hu:Und P t .string] (hx:Is sl x (.string s)) :
    RunV P c sl hs ⟨dst,.call ⟨.builtin .len,#[x],#[t]⟩,ty,pos,af,g⟩ (.int .i64 s.size):=
  ⟨by simp,fun a w ha _=>by simp [execOp,hx a ha,resolve,invoke,builtin,Builtin.len_,rk_underlying hu.eq,goInt]⟩
theorem rk_max2 {k:IntKind} {ts:Array TypeId} {x y:Operand} {a b:Int} (hx:Is sl x (.int k a)) (hy:Is sl y (.int k b)) :
    RunV P c sl hs ⟨dst,.call ⟨.builtin .max,#[x,y],ts⟩,ty,pos,af,g⟩ (.int k (max a b)):=
  ⟨by simp,fun e w ha _=>by
    simp [execOp,hx e ha,hy e ha,resolve,invoke,builtin,Builtin.max_,Builtin.max2]
    simp only [Int.max_def];split <;> split <;> first | rfl | omega⟩
theorem rk_min2 {k:IntKind} {ts:Array TypeId} {x y:Operand} {a b:Int} (hx:Is sl x (.int k a)) (hy:Is sl y (.int k b)) :
    RunV P c sl hs ⟨dst,.call ⟨.builtin .min,#[x,y],ts⟩,ty,pos,af,g⟩ (.int k (min a b)):=
  ⟨by simp,fun e w ha _=>by
    simp [execOp,hx e ha,hy e ha,resolve,invoke,builtin,Builtin.min_,Builtin.min2]
    simp only [Int.min_def];split <;> split <;> first | rfl | omega⟩
theorem rk_conv {t u:TypeId} {k k':IntKind} {x:Operand} {n:Int} [ht:Und P t (.int k')] [hu:Und P u (.int k)] (hx:Is sl x (.int k' n)) :
    RunV P c sl hs ⟨dst,.convert t u x,ty,pos,af,g⟩ (.int k (k.wrap n)):=
  ⟨by simp,fun a w ha _=>by simp [execOp,hx a ha,convert,rk_underlying ht.eq,rk_underlying hu.eq,Conv.intToInt]⟩
end
end Go.SL
