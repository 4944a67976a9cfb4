/- Parts of the proof: GkCore GkOps P5w S1p P5a P5b P5c P5d P5e P5f P5g. -/
import Derived.RangeFuncRecord
import Derived.OrdersIn
import Derived.KernelRfl
import Derived.Below
import Derived.IntWalk
import Derived.Laws.Strings
set_option linter.unusedSectionVars false
set_option linter.unusedVariables false
set_option linter.unusedSimpArgs false
namespace Go.SL
open Go
open Go.RowKit (Below)
theorem Za {α:Type _} (as:List α):[]++as=as:=rfl
theorem Zb:type_of% @List.cons_append:=rfl
theorem Zc:type_of% @List.getElem?_eq_getElem:=List.getElem?_eq_getElem
theorem Zd:type_of% @List.length_map:=@List.length_map
theorem Ze:type_of% @List.take_zero:=rfl
theorem Zf:type_of% @List.map_nil:=rfl
theorem Zg:type_of% @List.length_append:=@List.length_append
theorem Zh:type_of% @List.append_assoc:=@List.append_assoc
theorem Zi:type_of% @Nat.zero_le:=@Nat.zero_le
theorem Zj:type_of% @List.getElem_mem:=@List.getElem_mem
theorem Zk:type_of% @List.getD_eq_getElem?_getD:=@List.getD_eq_getElem?_getD
theorem Zl:type_of% @List.getElem?_eq_some_iff:=@List.getElem?_eq_some_iff
theorem Zm:type_of% @Bool.and_eq_true:=@Bool.and_eq_true
theorem Zn:type_of% @List.take_succ_eq_append_getElem:=@List.take_succ_eq_append_getElem
theorem Zo:type_of% @Decidable.not_not:=@Decidable.not_not
theorem Zp:type_of% @List.length_take:=@List.length_take
theorem Zq:type_of% @List.not_mem_nil:=@List.not_mem_nil
theorem Zr:type_of% @List.map_append:=@List.map_append
theorem Zs:type_of% @List.getElem_of_mem:=@List.getElem_of_mem
theorem Zt:type_of% @List.mem_cons_self:=@List.mem_cons_self
theorem Zu:type_of% @List.mem_map:=@List.mem_map
theorem Zv:type_of% @List.mem_filter:=@List.mem_filter
theorem Zw:type_of% @List.drop_eq_getElem_cons:=@List.drop_eq_getElem_cons
theorem Zx:type_of% @List.mem_append:=@List.mem_append
theorem Zy:type_of% @Array.getD_eq_getD_getElem?:=@Array.getD_eq_getD_getElem?
theorem Zz:type_of% @Nat.le_refl:=@Nat.le_refl
theorem ZA:type_of% @List.forall_mem_cons:=@List.forall_mem_cons
theorem ZB:type_of% @Nat.zero_add:=@Nat.zero_add
theorem ZC:type_of% @List.getElem?_take:=@List.getElem?_take
theorem ZD:type_of% @List.getElem?_map:=@List.getElem?_map
theorem ZE:type_of% @List.mem_append_left:=@List.mem_append_left
theorem ZF:type_of% @List.nodup_append:=@List.nodup_append
theorem ZG:type_of% @Int.toNat_natCast:=@Int.toNat_natCast
theorem ZH:type_of% @Array.getElem?_setIfInBounds_ne:=@Array.getElem?_setIfInBounds_ne
theorem ZI:type_of% @List.getElem?_append_left:=@List.getElem?_append_left
theorem ZJ:type_of% @List.length_cons:=@List.length_cons
theorem ZK:type_of% @List.mem_singleton:=@List.mem_singleton
theorem ZL:type_of% @List.take_length:=@List.take_length
theorem ZM:type_of% @List.any_eq_true:=@List.any_eq_true
theorem ZN:type_of% @List.getElem?_append_right:=@List.getElem?_append_right
theorem ZO:type_of% @Nat.not_lt_zero:=@Nat.not_lt_zero
theorem ZP:type_of% @Bool.or_eq_true:=@Bool.or_eq_true
theorem ZQ:type_of% @Nat.lt_of_not_le:=@Nat.lt_of_not_le
theorem ZR:type_of% @List.mem_cons:=@List.mem_cons
theorem ZS:type_of% @List.mem_append_right:=@List.mem_append_right
theorem ZT:type_of% @List.mem_range:=@List.mem_range
theorem ZU:type_of% @List.append_nil:=@List.append_nil
theorem ZV:type_of% @List.mem_cons_of_mem:=@List.mem_cons_of_mem
theorem ZW:type_of% @List.mem_of_getElem?:=@List.mem_of_getElem?
theorem ZX:type_of% @Array.getElem?_eq_some_iff:=@Array.getElem?_eq_some_iff
theorem ZY:type_of% @Nat.le_trans:=@Nat.le_trans
theorem ZZ:type_of% @List.take_append_drop:=@List.take_append_drop
theorem Z0:type_of% @List.mem_map_of_mem:=@List.mem_map_of_mem
theorem Z1:type_of% @List.getElem_map:=@List.getElem_map
theorem Z2:type_of% @List.eq_nil_of_length_eq_zero:=@List.eq_nil_of_length_eq_zero
theorem Z3:type_of% @List.all_eq_true:=@List.all_eq_true
theorem Z4:type_of% @Nat.blt_eq:=@Nat.blt_eq
theorem Z5:type_of% @List.pairwise_iff_getElem:=@List.pairwise_iff_getElem
theorem Z6:type_of% @List.drop_length:=@List.drop_length
theorem Z7:type_of% @List.length_filter_le:=@List.length_filter_le
theorem Z8:type_of% @List.map_cons:=@List.map_cons
theorem Z9:type_of% @Nat.mul_le_mul_right:=@Nat.mul_le_mul_right
theorem Zaa:type_of% @List.length_nil:=@List.length_nil
theorem Zab:type_of% @List.flatten_append:=@List.flatten_append
theorem Zac:type_of% @Option.isSome_iff_exists:=@Option.isSome_iff_exists
theorem Zad:type_of% @List.take_append_of_le_length:=@List.take_append_of_le_length
theorem Zae:type_of% @Nat.eq_of_beq_eq_true:=@Nat.eq_of_beq_eq_true
theorem Zaf:type_of% @List.getElem?_eq_none:=@List.getElem?_eq_none
theorem Zag:type_of% @Nat.succ_mul:=@Nat.succ_mul
theorem Zah:type_of% @Option.map_eq_some_iff:=@Option.map_eq_some_iff
theorem Zai:type_of% @List.take_of_length_le:=@List.take_of_length_le
theorem Zaj:type_of% @Option.getD_some:=@Option.getD_some
theorem Zak:type_of% @Nat.lt_trichotomy:=@Nat.lt_trichotomy
theorem Zal:type_of% @List.any_eq_false:=@List.any_eq_false
theorem Zam:type_of% @List.nodup_nil:=@List.nodup_nil
theorem Zan:type_of% @List.length_eq_zero_iff:=@List.length_eq_zero_iff
theorem Zao:type_of% @List.getElem_append_right:=@List.getElem_append_right
theorem Zap:type_of% @List.ext_getElem?:=@List.ext_getElem?
theorem Zaq:type_of% @Bool.true_and:=@Bool.true_and
theorem Zar:type_of% @Nat.mul_one:=@Nat.mul_one
theorem Zas:type_of% @Array.getElem?_eq_getElem:=@Array.getElem?_eq_getElem
theorem Zat:type_of% @List.getElem_append_left:=@List.getElem_append_left
theorem Zau:type_of% @Bool.not_eq_true:=@Bool.not_eq_true
theorem Zav:type_of% @Nat.le_of_ble_eq_true:=@Nat.le_of_ble_eq_true
theorem Zaw:type_of% @Nat.add_zero:=@Nat.add_zero
theorem Zax:type_of% @List.getElem?_cons_zero:=@List.getElem?_cons_zero
theorem Zay:type_of% @Nat.lt_of_lt_of_le:=@Nat.lt_of_lt_of_le
theorem Zaz:type_of% @List.perm_ext_iff_of_nodup:=@List.perm_ext_iff_of_nodup
theorem ZaA:type_of% @List.find?_eq_some_iff_getElem:=@List.find?_eq_some_iff_getElem
theorem ZaB:type_of% @List.flatten_cons:=@List.flatten_cons
theorem ZaC:type_of% @Array.getElem?_toList:=@Array.getElem?_toList
theorem ZaD:type_of% @List.length_erase_of_mem:=@List.length_erase_of_mem
theorem ZaE:type_of% @List.sublist_append_left:=@List.sublist_append_left
theorem ZaF:type_of% @List.map_map:=@List.map_map
theorem ZaG:type_of% @Nat.add_sub_cancel:=@Nat.add_sub_cancel
theorem ZaH:type_of% @List.find?_eq_none:=@List.find?_eq_none
theorem ZaI:type_of% @List.length_take_of_le:=@List.length_take_of_le
theorem ZaJ:type_of% @List.getElem_take:=@List.getElem_take
theorem ZaK:type_of% @List.mem_range'_1:=@List.mem_range'_1
theorem ZaL:type_of% @List.length_range:=@List.length_range
theorem ZaM:type_of% @Nat.succ_le_of_lt:=@Nat.succ_le_of_lt
theorem ZaN:type_of% @Array.length_toList:=@Array.length_toList
theorem ZaO:type_of% @List.filter_eq_self:=@List.filter_eq_self
theorem ZaP:type_of% @List.sublist_append_right:=@List.sublist_append_right
theorem ZaQ:type_of% @Nat.le_of_not_lt:=@Nat.le_of_not_lt
theorem ZaR:type_of% @Bool.false_eq_true:=@Bool.false_eq_true
theorem ZaS:type_of% @List.pairwise_cons:=@List.pairwise_cons
theorem ZaT:type_of% @List.map_take:=@List.map_take
theorem ZaU:type_of% @Array.toArray_toList:=@Array.toArray_toList
theorem ZaV:type_of% @List.getElem?_cons_succ:=@List.getElem?_cons_succ
theorem ZaW:type_of% @Bool.eq_false_iff:=@Bool.eq_false_iff
theorem ZaX:type_of% @List.filter_congr:=@List.filter_congr
theorem ZaY:type_of% @Bool.eq_iff_iff:=@Bool.eq_iff_iff
theorem ZaZ:type_of% @List.drop_of_length_le:=@List.drop_of_length_le
theorem Zba:type_of% @List.length_drop:=@List.length_drop
theorem Zbb:type_of% @List.drop_drop:=@List.drop_drop
theorem Zbc:type_of% @List.getElem?_drop:=@List.getElem?_drop
theorem Zbd:type_of% @List.filter_append:=@List.filter_append
theorem Zbe:type_of% @List.prefix_append:=@List.prefix_append
theorem Zbf:type_of% @Array.getElem?_modify:=@Array.getElem?_modify
theorem Zbg:type_of% @List.length_singleton:=@List.length_singleton
theorem Zbh:type_of% @List.contains_iff_mem:=@List.contains_iff_mem
theorem Zbi:type_of% @Nat.min_eq_left:=@Nat.min_eq_left
theorem Zbj:type_of% @Option.map_some:=@Option.map_some
theorem Zbk:type_of% @List.size_toArray:=@List.size_toArray
theorem Zbl:type_of% @List.mem_of_mem_take:=@List.mem_of_mem_take
theorem Zbm:type_of% @Nat.lt_or_ge:=@Nat.lt_or_ge
theorem Zbn:type_of% @Bool.not_eq_true':=@Bool.not_eq_true'
theorem Zbo:type_of% @Nat.mul_le_mul_left:=@Nat.mul_le_mul_left
theorem Zbp:type_of% @List.map_congr_left:=@List.map_congr_left
theorem Zbq:type_of% @List.getElem?_range:=@List.getElem?_range
theorem Zbr:type_of% @List.filter_cons_of_pos:=@List.filter_cons_of_pos
theorem Zbs:type_of% @List.nodup_range:=@List.nodup_range
theorem Zbt:type_of% @Array.getElem?_eq_none:=@Array.getElem?_eq_none
theorem Zbu:type_of% @Nat.zero_mul:=@Nat.zero_mul
theorem Zbv:type_of% @List.length_range':=@List.length_range'
theorem Zbw:type_of% @List.getElem_range:=@List.getElem_range
theorem Zbx:type_of% @List.filter_filter:=@List.filter_filter
theorem Zby:type_of% @List.nodup_range':=@List.nodup_range'
theorem Zbz:type_of% @List.pairwise_map:=@List.pairwise_map
abbrev aG:=List (Nat×Value)
def cK:aG→Nat→Option Value
 | [],_=>none
 | (t,v)::r,k=>bif Nat.beq t k then some v else cK r k
theorem fA {t k:Nat} {v:Value} {r:aG} (h:t≠k):cK ((t,v)::r) k=cK r k:=by
 have:Nat.beq t k=false:=by
  cases hb:Nat.beq t k with
  | false=>rfl
  | true=>exact absurd (Zae hb) h
 simp [cK,this]
theorem fB {t:Nat} {v:Value} {r:aG}:cK ((t,v)::r) t=some v:=by
 simp [cK]
def bR (sl:aG) (a:Act):Prop:=∀ t v,cK sl t=some v→a.tmps[t]? = some v
theorem bR.eval {sl:aG} {a:Act} (h:bR sl a) {t:Nat} {v:Value} (hv:cK sl t=some v):a.eval (.tmp t)=v:=by
 have:=h t v hv
 simp [Act.eval,Zy,this]
theorem bR.put {sl:aG} {a:Act} (h:bR sl a) {d:Nat} (hd:d<a.tmps.size) (v:Value):bR ((d,v)::sl) (a.put (some d) v):=by
 intro t u hu
 by_cases wH:d=t
 ·subst wH
  rw [fB] at hu
  cases hu
  simp [Act.put,hd]
 ·rw [fA wH] at hu
  simp only [Act.put,ZH wH]
  exact h t u hu
theorem bR.sub {sl jk:aG} {a:Act} (h:bR sl a) (hs:∀ t v,cK jk t=some v→cK sl t=some v):bR jk a:=fun t v hv=>h t v (hs t v hv)
def Is (sl:aG) (x:Operand) (v:Value):Prop:=∀ a:Act,bR sl a→a.eval x=v
def gv (c:Bool) (v:Value):Value:=bif c then v else undef
theorem tZ {c:Bool} {v:Value} (h:c=true):gv c v=v:=by simp [gv,h]
theorem vq {c:Bool} {v:Value} (h:c=false):gv c v=undef:=by simp [gv,h]
def hp (w:World):Nat→Option Obj:=fun b=>w.heap[b]?
theorem j5 {w:World} {b:Nat} {o:Obj} (h:hp w b=some o):b<w.heap.size:=(ZX.1 h).1
structure a8 where
 sat:(Nat→Option Obj)→List Nat→Prop
 loc:∀ {h h':Nat→Option Obj} {fp:List Nat},sat h fp→(∀ b∈fp,h' b=h b)→sat h' fp
 own:∀ {h:Nat→Option Obj} {fp:List Nat},sat h fp→∀ b∈fp,∃ o,h b=some o
def ch (h:Nat→Option Obj):List a8→List Nat→Prop
 | [],fp=>fp=[]
 | A::As,fp=>∃ f1 f2,fp=f1++f2∧A.sat h f1∧ch h As f2
theorem ch.own {h:Nat→Option Obj}:∀ {hs:List a8} {fp:List Nat},ch h hs fp→∀ b∈fp,∃ o,h b=some o
 | [],_,hh,b,hb=>by rw [show _=[] from hh] at hb;cases hb
 | A :: As, _, ⟨f1, f2, e, h1, h2⟩, b, hb => by
  subst e
  rcases Zx.1 hb with hb | hb
  ·exact A.own h1 b hb
  ·exact ch.own h2 b hb
theorem ch.loc {h h':Nat→Option Obj}:∀ {hs:List a8} {fp:List Nat},ch h hs fp→(∀ b∈fp,h' b=h b)→ch h' hs fp
 | [],_,hh,_=>hh
 | A :: As, _, ⟨f1, f2, e, h1, h2⟩, hb => by
  subst e
  exact ⟨f1,f2,rfl,A.loc h1 (fun b dA=>hb b (ZE _ dA)),ch.loc h2 (fun b dA=>hb b (ZS _ dA))⟩
theorem ch.append_iff {h:Nat→Option Obj}:∀ {l1 l2:List a8} {fp:List Nat},ch h (l1++l2) fp↔∃ f1 f2,fp=f1++f2∧ch h l1 f1∧ch h l2 f2
 | [],l2,fp=>⟨fun hh=>⟨[],fp,rfl,rfl,hh⟩,fun ⟨f1,f2,e,h1,h2⟩=>by rw [show f1=[] from h1] at e;simpa [e] using h2⟩
 | A :: l1, l2, fp => by
  constructor
  ·rintro ⟨f1,f2,rfl,h1,h2⟩
   obtain ⟨g1,g2,rfl,h3,h4⟩:=ch.append_iff.1 h2
   exact ⟨f1++g1,g2,by simp,⟨f1,g1,rfl,h1,h3⟩,h4⟩
  ·rintro ⟨f1,f2,rfl,⟨g1,g2,rfl,h1,h2⟩,h3⟩
   exact ⟨g1,g2++f2,by simp,h1,ch.append_iff.2 ⟨g2,f2,rfl,h2,h3⟩⟩
inductive Take:List a8→a8→List a8→Prop
 | here {A:a8} {r:List a8}:Take (A::r) A r
 | there {A X:a8} {r r':List a8} (h:Take r A r'):Take (X::r) A (X::r')
theorem Take.append {hs hs':List a8} {A:a8} (h:Take hs A hs') (m:List a8):Take (hs++m) A (hs'++m):=by
 induction h with
 | here=>exact .here
 | there _ ih=>exact .there ih
theorem ch.take {h:Nat→Option Obj} {hs hs':List a8} {A:a8} (ht:Take hs A hs'):∀ {fp:List Nat},ch h hs fp→∃ f1 f2,A.sat h f1∧ch h hs' f2∧fp.Perm (f1++f2):=by
 induction ht with
 | here =>
  rintro fp ⟨f1,f2,rfl,h1,h2⟩
  exact ⟨f1,f2,h1,h2,.refl _⟩
 | there _ ih =>
  rintro fp ⟨f1,f2,rfl,h1,h2⟩
  obtain ⟨g1,g2,h3,h4,hp⟩:=ih h2
  refine ⟨g1,f1++g2,h3,⟨f1,g2,rfl,h1,h4⟩,?_⟩
  exact (hp.append_left f1).trans (by
   rw [← Zh,← Zh]
   exact (List.perm_append_comm).append_right g2)
structure aH (md:List Nat) (w w':World):Prop where
 os:w'.os=w.os
 tape:w'.tape=w.tape
 output:w'.output=w.output
 dr:w.drawn≤w'.drawn
 size:w.heap.size≤w'.heap.size
 block:∀ k,k<w.heap.size→k ∉ md→w'.heap[k]? = w.heap[k]?
theorem aH.refl (md:List Nat) (w:World):aH md w w:=⟨rfl,rfl,rfl,Zz _,Zz _,fun _ _ _=>rfl⟩
theorem aH.trans {md:List Nat} {a b c:World} (h:aH md a b) (k:aH md b c):aH md a c:=
 ⟨k.os.trans h.os,k.tape.trans h.tape,k.output.trans h.output,ZY h.dr k.dr,ZY h.size k.size,fun i hi hm=>(k.block i (Zay hi h.size) hm).trans (h.block i hi hm)⟩
theorem aH.mono {md md':List Nat} {w w':World} (h:aH md w w') (hs:∀ b∈md,b∈md'):aH md' w w':=
 ⟨h.os,h.tape,h.output,h.dr,h.size,fun k hk hm=>h.block k hk (fun hb=>hm (hs k hb))⟩
theorem aH.below {w w':World} (h:aH [] w w'):Below w.heap.size w w':=⟨h.os,h.tape,h.output,h.size,fun k hk=>h.block k hk (by simp)⟩
theorem aH.IH {w w':World} (h:Below w.heap.size w w') (hd:w.drawn≤w'.drawn):aH [] w w':=⟨h.os,h.tape,h.output,hd,h.size,fun k hk _=>h.block k hk⟩
theorem aH.drew (md:List Nat) (w:World):aH md w w.drew:=⟨rfl,rfl,rfl,Nat.le_succ _,Zz _,fun _ _ _=>rfl⟩
theorem aH.alloc (md:List Nat) (w:World) (o:Obj):aH md w (w.alloc o):=
 ⟨rfl,rfl,rfl,Zz _,by simp,fun k hk _=>by show (w.heap.push o)[k]? = _;rw [Array.getElem?_push,if_neg (by omega)]⟩
structure Cx where
 w0:World
 md:List Nat
 nt:Nat
structure Mem (c:Cx) (hs:List a8) (w:World):Prop where
 keeps:aH c.md c.w0 w
 own:∃ fp:List Nat,fp.Nodup∧ch (hp w) hs fp∧∀ b∈fp,c.w0.heap.size≤b∨b∈c.md
theorem Mem.take {c:Cx} {hs hs':List a8} {A:a8} {w:World} (h:Mem c hs w) (ht:Take hs A hs'):Mem c (A::hs') w:=by
 obtain ⟨k,fp,hn,hs,hb⟩:=h
 obtain ⟨f1,f2,h1,h2,hp⟩:=hs.take ht
 exact ⟨k,f1++f2,hp.nodup_iff.1 hn,⟨f1,f2,rfl,h1,h2⟩,fun b dA=>hb b (hp.mem_iff.2 dA)⟩
theorem Mem.change {c:Cx} {As Bs hs:List a8} {w w':World} (h:Mem c (As++hs) w)
  (YA:∀ fp,fp.Nodup→ch (hp w) As fp→aH fp w w'∧∃ lD:List Nat,lD.Nodup∧ch (hp w') Bs lD∧∀ b∈lD,b∈fp∨w.heap.size≤b):Mem c (Bs++hs) w':=by
 obtain ⟨k,fp,hn,hs,hb⟩:=h
 obtain ⟨f1,f2,rfl,h1,h2⟩:=ch.append_iff.1 hs
 obtain ⟨n1,n2,n12⟩:=ZF.1 hn
 obtain ⟨hk,lD,tX,hs',yh⟩:=YA f1 n1 h1
 have aK:∀ b∈f2,b<w.heap.size:=fun b dA=>let ⟨o,ho⟩:=h2.own b dA;j5 ho
 refine ⟨?_,lD++f2,?_,ch.append_iff.2 ⟨lD,f2,rfl,hs',h2.loc fun b dA=>?_⟩,?_⟩
 ·refine ⟨hk.os.trans k.os,hk.tape.trans k.tape,hk.output.trans k.output,ZY k.dr hk.dr,ZY k.size hk.size,fun b dA hm=>?_⟩
  rw [← k.block b dA hm]
  refine hk.block b (Zay dA k.size) (fun hf=>?_)
  rcases hb b (ZE _ hf) with h | h
  ·omega
  ·exact hm h
 ·refine ZF.2 ⟨tX,n2,fun x hx y hy e=>?_⟩
  subst e
  rcases yh x hx with h | h
  ·exact n12 x h x hy rfl
  ·have:=aK x hy;omega
 ·exact hk.block b (aK b dA) (fun hf=>n12 b hf b dA rfl)
 ·intro b dA
  rcases Zx.1 dA with h | h
  ·rcases yh b h with h | h
   ·exact hb b (ZE _ h)
   ·exact .inl (ZY k.size h)
  ·exact hb b (ZS _ h)
theorem Mem.rh {c:Cx} {hs:List a8} {w w':World} (h:Mem c hs w) (hk:aH [] w w'):Mem c hs w':=
 Mem.change (As:=[]) (Bs:=[]) h fun fp _ hf=>by
  rw [show fp=[] from hf]
  exact ⟨hk,[],Zam,rfl,by simp⟩
theorem Mem.drew {c:Cx} {hs:List a8} {w:World} (h:Mem c hs w):Mem c hs w.drew:=h.rh (.drew _ _)
theorem Mem.lp {c:Cx} {l m:List a8} {w:World} (h:Mem c (l++m) w):Mem c l w:=by
 obtain ⟨k,fp,hn,hs,hb⟩:=h
 obtain ⟨f1,f2,rfl,h1,h2⟩:=ch.append_iff.1 hs
 exact ⟨k,f1,(ZF.1 hn).1,h1,fun b dA=>hb b (ZE _ dA)⟩
theorem Mem.vw {c:Cx} {A:a8} {l:List a8} {w:World} (h:Mem c (A::l) w):Mem c l w:=by
 obtain ⟨k,fp,hn,⟨f1,f2,rfl,h1,h2⟩,hb⟩:=h
 exact ⟨k,f2,(ZF.1 hn).2.1,h2,fun b dA=>hb b (ZS _ dA)⟩
def bG (b:Nat) (o:Obj):a8 where
 sat h fp:=fp=[b]∧h b=some o
 loc:=fun ⟨e,h1⟩ hb=>⟨e,by rw [hb _ (by rw [e];simp)];exact h1⟩
 own:=fun ⟨e,h1⟩ b' dA=>by rw [e] at dA;rw [ZK.1 dA];exact ⟨o,h1⟩
theorem Mem.bG {c:Cx} {hs hs':List a8} {b:Nat} {o:Obj} {w:World} (h:Mem c hs w) (ht:Take hs (bG b o) hs'):w.heap[b]? = some o:=by
 obtain ⟨_,fp,_,⟨f1,f2,_,⟨_,h1⟩,_⟩,_⟩:=h.take ht
 exact h1
theorem Mem.alloc {c:Cx} {hs:List a8} {w:World} (h:Mem c hs w) (o:Obj):Mem c (SL.bG w.heap.size o::hs) (w.alloc o):=
 Mem.change (As:=[]) (Bs:=[SL.bG w.heap.size o]) h fun fp _ hf=>by
  rw [show fp=[] from hf]
  refine ⟨.alloc _ _ _,[w.heap.size],by simp,⟨[w.heap.size],[],rfl,⟨rfl,World.alloc_heap_new w o⟩,rfl⟩,by simp⟩
theorem Mem.store {c:Cx} {hs:List a8} {b:Nat} {o o':Obj} {w w':World} (h:Mem c (SL.bG b o::hs) w) (hk:aH [b] w w') (ho:w'.heap[b]? = some o'):Mem c (SL.bG b o'::hs) w':=
 Mem.change (As:=[SL.bG b o]) (Bs:=[SL.bG b o']) h fun fp _ hf=>by
  obtain ⟨f1,f2,e,⟨e1,_⟩,e2⟩:=hf
  have:fp=[b]:=by rw [e,e1,show f2=[] from e2];rfl
  subst this
  exact ⟨hk,[b],by simp,⟨[b],[],rfl,⟨rfl,ho⟩,rfl⟩,fun x hx=>.inl hx⟩
theorem Mem.base {c:Cx} {hs:List a8} {w:World} (h:Mem c hs w) {b:Nat} (hb:b<c.w0.heap.size) (hm:b ∉ c.md):w.heap[b]? = c.w0.heap[b]?:=h.keeps.block b hb hm
def mark (r:Nat):Deferred:={ target:=.collected r,args:=#[] }
def mw (D:List Nat):List a8:=D.map fun r=>bG r (.deferred (some []))
structure St (c:Cx) (D:List Nat) (sl:aG) (hs:List a8) (a:Act) (w:World):Prop where
 mem:Mem c (hs++mw D) w
 cS:bR sl a
 size:a.tmps.size=c.nt
 defers:a.defers=D.map mark
def Tr (c:Cx) (D:List Nat) (sl:aG) (hs:List a8) (X:Act→World→Prop):Prop:=∀ a w,St c D sl hs a w→X a w
theorem St.rb {c:Cx} {D:List Nat} {sl:aG} {hs:List a8} {a:Act} {w:World} (h:St c D sl hs a w):Mem c hs w:=h.mem.lp
theorem St.put {c:Cx} {D:List Nat} {sl:aG} {hs:List a8} {a:Act} {w:World} (h:St c D sl hs a w) {d:Nat} (hd:d<c.nt) (v:Value):St c D ((d,v)::sl) hs (a.put (some d) v) w:=
 ⟨h.mem,h.cS.put (by rw [h.size];exact hd) v,by simp [Act.put,h.size],h.defers⟩
theorem St.heap {c:Cx} {D:List Nat} {sl:aG} {hs hs':List a8} {a:Act} {w w':World} (h:St c D sl hs a w) (hm:Mem c (hs'++mw D) w'):St c D sl hs' a w':=
 ⟨hm,h.cS,h.size,h.defers⟩
def FR (r:Option Nat):Fence:={ Fence.wide with round:=r }
def WP (P:Program) (r:Option Nat) (code:Code) (Q:Exit→Act→World→Prop):Act→World→Prop:=code.wpIn (FR r) 0 P Q
def WL (P:Program) (r:Option Nat) (ops:Array Oper) (Q:Exit→Act→World→Prop):List Oper→Act→World→Prop
 | [],a,w=>Q .normal a w
 | o :: rest, a, w =>
  if Region.wanted o (yielded ops a.tmps) then o.wpIn (FR r) 0 P a w (WL P r ops Q rest) Q else WL P r ops Q rest (a.put o.dst undef) w
theorem dM (r:Option Nat) (o:Oper) (P:Program) (w:World) (ρ:Operand→Value):∀ f,o.about P w ρ=some f→(FR r).fn f:=fun _ _=>trivial
theorem wg {P:Program} {r:Option Nat} {ops:Array Oper} {Q:Exit→Act→World→Prop} (l:List Oper):∀ k,(∀ j,l[j]? = ops[k+j]?)→wpOpsIn (FR r) 0 P ops Q (List.range' k l.length)=WL P r ops Q l:=by
 induction l with
 | nil=>intro k _;funext a w;simp [wpOpsIn,WL]
 | cons o l ih =>
  intro k h
  have h0:ops[k]? = some o:=by simpa using (h 0).symm
  have ih':=ih (k+1) (fun j=>by have:=h (j+1);simpa [Nat.add_assoc,Nat.add_comm 1 j] using this)
  funext a w
  simp only [ZJ,List.range'_succ,wpOpsIn,h0,WL,ih']
  split
  ·rfl
  ·simp [FR,Fence.wide]
theorem ml {P:Program} {r:Option Nat} {c:Cx} {D:List Nat} {sl:aG} {hs:List a8} {id:Nat} {l:List Oper} {Q:Exit→Act→World→Prop}
  (h:Tr c D sl hs (WL P r l.toArray Q l)):Tr c D sl hs (WP P r (.region id l.toArray false) Q):=fun a w bb=>by
 unfold WP
 refine wpIn_region ?_
 rw [List.range_eq_range',show l.toArray.size=l.length from by simp,wg l 0 (by simp)]
 exact h a w bb
theorem mP {P:Program} {r:Option Nat} {c:Cx} {D:List Nat} {sl:aG} {hs:List a8} {x y:Code} {Q:Exit→Act→World→Prop}
  (h:Tr c D sl hs (WP P r x (Exit.then (WP P r y Q) Q))):Tr c D sl hs (WP P r (.seq x y) Q):=fun a w bb=>wpIn_seq (h a w bb)
theorem yM {P:Program} {r:Option Nat} {c:Cx} {D:List Nat} {sl:aG} {hs:List a8} {ops:Array Oper} {Q:Exit→Act→World→Prop}
  (h:Tr c D sl hs (Q .normal)):Tr c D sl hs (WL P r ops Q []):=h
theorem tG {c:Cx} {D:List Nat} {sl:aG} {hs:List a8} {N:Act→World→Prop} {Q:Exit→Act→World→Prop}
  (h:Tr c D sl hs N):Tr c D sl hs (Exit.then N Q .normal):=h
theorem AS {c:Cx} {D:List Nat} {sl:aG} {hs:List a8} {N:Act→World→Prop} {Q:Exit→Act→World→Prop}
  (h:Tr c D sl hs (Q .ret)):Tr c D sl hs (Exit.then N Q .ret):=h
theorem yJ {c:Cx} {D:List Nat} {sl:aG} {hs:List a8} {N:Act→World→Prop} {Q:Exit→Act→World→Prop} {id:Nat}
  (h:Tr c D sl hs (Q (.exit id))):Tr c D sl hs (Exit.then N Q (.exit id)):=h
theorem pB {c:Cx} {D:List Nat} {sl:aG} {hs:List a8} {id:Nat} {Q:Exit→Act→World→Prop}
  (h:Tr c D sl hs (Q .normal)):Tr c D sl hs (Exit.inBlock id Q .normal):=h
theorem CZ {c:Cx} {D:List Nat} {sl:aG} {hs:List a8} {id:Nat} {Q:Exit→Act→World→Prop}
  (h:Tr c D sl hs (Q .ret)):Tr c D sl hs (Exit.inBlock id Q .ret):=h
theorem A0 {c:Cx} {D:List Nat} {sl:aG} {hs:List a8} {id:Nat} {Q:Exit→Act→World→Prop}
  (h:Tr c D sl hs (Q .normal)):Tr c D sl hs (Exit.inBlock id Q (.exit id)):=fun a w bb=>by
 simp only [Exit.inBlock,if_true];exact h a w bb
theorem uw {c:Cx} {D:List Nat} {sl:aG} {hs:List a8} {id V9:Nat} {Q:Exit→Act→World→Prop} (hne:Nat.beq V9 id=false)
  (h:Tr c D sl hs (Q (.exit V9))):Tr c D sl hs (Exit.inBlock id Q (.exit V9)):=fun a w bb=>by
 have:¬ V9=id:=fun e=>by subst e;simp at hne
 simp only [Exit.inBlock,this,if_false];exact h a w bb
theorem AZ {P:Program} {r:Option Nat} {c:Cx} {D:List Nat} {sl:aG} {hs:List a8} {id:Nat} {x:Code} {Q:Exit→Act→World→Prop}
  (h:Tr c D sl hs (WP P r x (Exit.inBlock id Q))):Tr c D sl hs (WP P r (.block id x) Q):=fun a w bb=>wpIn_block (h a w bb)
theorem yK {P:Program} {r:Option Nat} {c:Cx} {D:List Nat} {sl:aG} {hs:List a8} {Q:Exit→Act→World→Prop}
  (h:Tr c D sl hs (Q .normal)):Tr c D sl hs (WP P r .skip Q):=fun a w bb=>wpIn_skip (h a w bb)
theorem Mi {P:Program} {r:Option Nat} {c:Cx} {D:List Nat} {sl:aG} {hs:List a8} {id:Nat} {Q:Exit→Act→World→Prop}
  (h:Tr c D sl hs (Q (.exit id))):Tr c D sl hs (WP P r (.exit id) Q):=fun a w bb=>wpIn_exit (h a w bb)
theorem Hx {P:Program} {r:Option Nat} {c:Cx} {D:List Nat} {sl:aG} {hs:List a8} {Q:Exit→Act→World→Prop}
  (h:Tr c D sl hs (Q .ret)):Tr c D sl hs (WP P r .ret Q):=fun a w bb=>wpIn_ret (h a w bb)
theorem Ew {P:Program} {r:Option Nat} {c:Cx} {D:List Nat} {sl:aG} {hs:List a8} {x:Operand} {b:Bool} {u v:Code} {Q:Exit→Act→World→Prop} (hx:Is sl x (.bool b))
  (ht:b=true→Tr c D sl hs (WP P r u Q)) (hf:b=false→Tr c D sl hs (WP P r v Q)):Tr c D sl hs (WP P r (.cond x u v) Q):=fun a w bb=>
 wpIn_cond_split (hx a bb.cS) (fun e=>ht e a w bb) (fun e=>hf e a w bb)
theorem cF {P:Program} {r:Option Nat} {c:Cx} {D:List Nat} {sl:aG} {hs:List a8} {x:Operand} {u v:Code} {Q:Exit→Act→World→Prop} (hx:Is sl x (.bool true))
  (ht:Tr c D sl hs (WP P r u Q)):Tr c D sl hs (WP P r (.cond x u v) Q):=fun a w bb=>wpIn_cond_true (hx a bb.cS) (ht a w bb)
theorem bN {P:Program} {r:Option Nat} {c:Cx} {D:List Nat} {sl:aG} {hs:List a8} {x:Operand} {u v:Code} {Q:Exit→Act→World→Prop} (hx:Is sl x (.bool false))
  (ht:Tr c D sl hs (WP P r v Q)):Tr c D sl hs (WP P r (.cond x u v) Q):=fun a w bb=>wpIn_cond_false (hx a bb.cS) (ht a w bb)
theorem FV {P:Program} {r:Option Nat} {c:Cx} {D:List Nat} {sl:aG} {hs:List a8} {x:Operand} {p:Prop} {inst:Decidable p} {u v:Code} {Q:Exit→Act→World→Prop} (hx:Is sl x (.bool (decide p)))
  (ht:p→Tr c D sl hs (WP P r u Q)) (hf:¬ p→Tr c D sl hs (WP P r v Q)):Tr c D sl hs (WP P r (.cond x u v) Q):=
 Ew hx (fun e=>ht (of_decide_eq_true e)) (fun e=>hf (of_decide_eq_false e))
theorem Mg {P:Program} {r:Option Nat} {c:Cx} {D:List Nat} {sl:aG} {hs:List a8} {x:Code} {Q:Exit→Act→World→Prop} {ι:Type} (Φ:ι→Prop) (sI:ι→aG) (hI:ι→List a8) (μ:ι→Nat)
  (h0:Tr c D sl hs fun a w=>∃ i,Φ i∧St c D (sI i) (hI i) a w)
  (round:∀ i,Φ i→Tr c D (sI i) (hI i) (WP P r x (Exit.then (fun a w=>∃ j,Φ j∧μ j<μ i∧St c D (sI j) (hI j) a w) Q))) :
  Tr c D sl hs (WP P r (.loop x) Q):=fun a w bb=>by
 have key:∀ (n:Nat) i,μ i=n→Φ i→∀ a w,St c D (sI i) (hI i) a w→True:=fun _ _ _ _ _ _ _=>trivial
 -- a measure on WS: AD least 'μ i' of aag P9 fit
 let fits:Act→World→Nat→Prop:=fun a w n=>∃ i,Φ i∧μ i=n∧St c D (sI i) (hI i) a w
 have least:∀ a w,(∃ n,fits a w n)→∃ n,fits a w n∧∀ m,fits a w m→n≤m:=by
  intro a w ⟨n,hn⟩
  induction n using Nat.strongRecOn with
  | _ n ih =>
   by_cases h:∃ m,m<n∧fits a w m
   ·obtain ⟨m,hm,hf⟩:=h
    exact ih m hm hf
   ·exact ⟨n,hn,fun m hm=>ZaQ fun aK=>h ⟨m,aK,hm⟩⟩
 let M:Act→World→Nat:=fun a w=>Classical.epsilon fun n=>fits a w n∧∀ m,fits a w m→n≤m
 have hM:∀ a w,(∃ n,fits a w n)→fits a w (M a w)∧∀ m,fits a w m→M a w≤m:=fun a w h=>Classical.epsilon_spec (least a w h)
 refine wpIn_loop (fun a w=>∃ n,fits a w n) M ?_ ?_
 ·obtain ⟨i,hi,hs⟩:=h0 a w bb
  exact ⟨μ i,i,hi,rfl,hs⟩
 ·intro a w hI
  obtain ⟨⟨i,hi,hm,hs⟩,_⟩:=hM a w hI
  refine wpIn_mono (round i hi a w hs) fun e a' w' h=>?_
  cases e with
  | normal =>
   obtain ⟨j,hj,aK,hs'⟩:=h
   have hf:fits a' w' (μ j):=⟨j,hj,rfl,hs'⟩
   exact ⟨⟨_,hf⟩,Nat.lt_of_le_of_lt ((hM a' w' ⟨_,hf⟩).2 _ hf) (by rw [← hm];exact aK)⟩
  | _=>exact h
theorem mi {P:Program} {r:Option Nat} {ops:Array Oper} {Q:Exit→Act→World→Prop} {o:Oper} {rest:List Oper} {a:Act} {w:World} (hg:o.guard=none)
  (h:o.wpIn (FR r) 0 P a w (WL P r ops Q rest) Q):WL P r ops Q (o::rest) a w:=by
 unfold WL
 rw [if_pos (by simp [Region.wanted,hg])]
 exact h
def cR (P:Program) (c:Cx) (sl:aG) (hs:List a8) (o:Oper) (V:Value):Prop:=
 (∀ d,o.op≠.defer d)∧∀ a w,bR sl a→Mem c hs w→(execOp a.eval o).run P w=.ok (.value V) w
theorem ab {P:Program} {r:Option Nat} {c:Cx} {D:List Nat} {sl:aG} {hs:List a8} {ops:Array Oper} {Q:Exit→Act→World→Prop} {d:Nat} {op:Op} {ty:TypeId} {pos:String} {af:Array Edge} {rest:List Oper} {V:Value}
  (hr:cR P c sl hs ⟨some d,op,ty,pos,af,none⟩ V) (hd:Nat.blt d c.nt=true) (k:Tr c D ((d,V)::sl) hs (WL P r ops Q rest)) :
  Tr c D sl hs (WL P r ops Q (⟨some d,op,ty,pos,af,none⟩::rest)):=fun a w bb=>by
 refine mi rfl ⟨dM _ _ _ _ _,?_⟩
 rw [Oper.semAt_eq _ _ _ hr.1,hr.2 a w bb.cS bb.rb]
 exact k _ _ (bb.put (by simpa [Z4] using hd) V)
theorem kS {ops:Array Oper} {o:Oper} {j g:Nat} {want c0 q:Bool} {a:Act} {sl:aG} (hg:o.guard=some (j,want)) (hj:((ops[j]?).bind (·.dst))=some g) (hs:bR sl a) (hq:cK sl g=some (gv c0 (.bool q))) :
  Region.wanted o (yielded ops a.tmps)=(c0&&(q==want)):=by
 have ht:=hs _ _ hq
 simp only [Region.wanted,hg,yielded,hj,Option.bind_some,ht]
 cases c0 <;> cases q <;> cases want <;> rfl
theorem Et {P:Program} {r:Option Nat} {c:Cx} {D:List Nat} {sl:aG} {hs:List a8} {ops:Array Oper} {Q:Exit→Act→World→Prop} {d:Nat} {op:Op} {ty:TypeId} {pos:String} {af:Array Edge} {rest:List Oper} {V:Value}
  {j g:Nat} {want c0 q:Bool} (hj:((ops[j]?).bind (·.dst))=some g) (hq:cK sl g=some (gv c0 (.bool q)))
  (hr:(c0&&(q==want))=true→cR P c sl hs ⟨some d,op,ty,pos,af,some (j,want)⟩ V) (hd:Nat.blt d c.nt=true) (k:Tr c D ((d,gv (c0&&(q==want)) V)::sl) hs (WL P r ops Q rest)) :
  Tr c D sl hs (WL P r ops Q (⟨some d,op,ty,pos,af,some (j,want)⟩::rest)):=fun a w bb=>by
 unfold WL
 rw [kS rfl hj bb.cS hq]
 by_cases h:(c0&&(q==want))=true
 ·rw [if_pos h]
  refine ⟨dM _ _ _ _ _,?_⟩
  rw [Oper.semAt_eq _ _ _ (hr h).1,(hr h).2 a w bb.cS bb.rb]
  rw [tZ h] at k
  exact k _ _ (bb.put (by simpa [Z4] using hd) V)
 ·rw [if_neg h]
  rw [vq (by simpa using h)] at k
  exact k _ _ (bb.put (by simpa [Z4] using hd) undef)
theorem ur {P:Program} {r:Option Nat} {c:Cx} {D:List Nat} {sl:aG} {hs:List a8} {ops:Array Oper} {Q:Exit→Act→World→Prop} {d:Nat} {op:Op} {ty:TypeId} {pos:String} {af:Array Edge} {rest:List Oper} {V:Value}
  {j g:Nat} {want q:Bool} (hj:((ops[j]?).bind (·.dst))=some g) (hq:cK sl g=some (.bool q))
  (hr:(q==want)=true→cR P c sl hs ⟨some d,op,ty,pos,af,some (j,want)⟩ V) (hd:Nat.blt d c.nt=true) (k:Tr c D ((d,gv (q==want) V)::sl) hs (WL P r ops Q rest)) :
  Tr c D sl hs (WL P r ops Q (⟨some d,op,ty,pos,af,some (j,want)⟩::rest)):=
 Et (c0:=true) hj (by rw [hq];rfl) (by simpa using hr) hd (by simpa using k)
end Go.SL
namespace Go.SL
open Go
def ki:TypeDesc→Bool
 | .struct _ | .array _ _=>true
 | _=>false
def OO (P:Program) (t:TypeId):Option (Bool×Nat):=
 match P.underlying t,P.info? t with
 | some d,some i=>some (ki d,i.size)
 | _,_=>none
class Ty (P:Program) (t:TypeId) (agg:outParam Bool) (n:outParam Nat):Prop where
 eq:OO P t=some (agg,n)
class iF (P:Program) (t:TypeId) (d:outParam TypeDesc):Prop where
 eq:P.underlying t=some d
class lF (P:Program) (t:TypeId) (v:outParam Value):Prop where
 eq:(P.info? t).map (·.zero)=some (some v)
class ug (P:Program) (t:TypeId) (n:outParam Nat):Prop where
 eq:(P.info? t).map (·.bytes)=some n
section
variable {P:Program} {w:World} {t:TypeId}
theorem Ty.parts {agg:Bool} {n:Nat} [h:Ty P t agg n]:∃ d i,P.underlying t=some d∧P.info? t=some i∧ki d=agg∧i.size=n:=by
 have:=h.eq
 unfold OO at this
 split at this
 ·rename_i d i hd hi
  cases this
  exact ⟨d,i,hd,hi,rfl,rfl⟩
 ·cases this
theorem aU {d:TypeDesc} (h:P.underlying t=some d):(underlying t).run P w=.ok d w:=by simp [underlying,h]
theorem fC {i:TypeInfo} (h:P.info? t=some i):(typeInfo t).run P w=.ok i w:=by simp [typeInfo,h]
theorem fT {agg:Bool} {n:Nat} [h:Ty P t agg n]:(sizeOf t).run P w=.ok n w:=by
 obtain ⟨d,i,_,hi,_,hn⟩:=Ty.parts (P:=P) (t:=t)
 simp [sizeOf,fC hi,hn]
theorem uJ {agg:Bool} {n:Nat} [h:Ty P t agg n]:(isAgg t).run P w=.ok agg w:=by
 obtain ⟨d,i,hd,_,ha,_⟩:=Ty.parts (P:=P) (t:=t)
 unfold isAgg
 rw [Sem.run_bind,aU hd,Result.andThen_ok]
 subst ha
 cases d <;> rfl
theorem il {v:Value} [h:lF P t v]:(zeroValue t).run P w=.ok v w:=by
 have:=h.eq
 cases hi:P.info? t with
 | none=>rw [hi] at this;cases this
 | some i =>
  rw [hi] at this
  have hz:i.zero=some v:=by simpa using this
  simp [zeroValue,fC hi,hz]
theorem zg {a:Addr} {v:Value} (h:w.cell? a=some v) (m:Mode):(load a m).run P w=.ok v w:=by simp [h]
theorem cell_of_block {b:Nat} {cs:Array Value} {E:TypeId} {fz:Nat×Nat} (h:w.heap[b]? = some (.cells cs E fz)) (o:Nat):w.cell? ⟨b,o,none⟩=cs[o]?:=by
 simp [World.cell?,h]
theorem eI (b o n:Nat):Addr.add ⟨b,o,none⟩ n=⟨b,o+n,none⟩:=by
 unfold Addr.add
 split
 ·rename_i h;simp [h]
 ·rfl
theorem mo {b o:Nat}:∀ (n i:Nat) (acc:Array Value) (vs:List Value),vs.length=n→(∀ j v,vs[j]? = some v→w.cell? ⟨b,o+(i+j),none⟩=some v) →
  (loadCellsFrom ⟨b,o,none⟩ i n acc).run P w=.ok (acc++vs.toArray) w
 | 0, i, acc, vs, hl, _ => by
  have:vs=[]:=Zan.1 hl
  subst this
  simp [loadCellsFrom]
 | n+1,i,acc,[],hl,_=>by simp at hl
 | n + 1, i, acc, v :: vs, hl, hc => by
  have h0:w.cell? (Addr.add ⟨b,o,none⟩ i)=some v:=by rw [eI];exact hc 0 v rfl
  simp only [loadCellsFrom,Sem.run_bind,zg h0,Result.andThen_ok]
  rw [mo n (i+1) (acc.push v) vs (by simpa using hl) (fun j u hu=>by
   have:=hc (j+1) u (by simpa using hu)
   rw [show i+1+j=i+(j+1) from by omega]
   exact this)]
  simp
theorem qP {b o n:Nat} {vs:List Value} (hl:vs.length=n) (hc:∀ j v,vs[j]? = some v→w.cell? ⟨b,o+j,none⟩=some v):(loadCells ⟨b,o,none⟩ n).run P w=.ok vs.toArray w:=by
 unfold loadCells
 rw [mo n 0 #[] vs hl (fun j v hv=>by simpa using hc j v hv)]
 simp
theorem sE {b o n:Nat} {v:Value} [Ty P t false n] (hc:w.cell? ⟨b,o,none⟩=some v):(loadVar t ⟨b,o,none⟩).run P w=.ok v w:=by
 unfold loadVar
 rw [Sem.run_bind,uJ (agg:=false) (n:=n),Result.andThen_ok]
 simp [hc]
theorem nZ {b o n:Nat} {vs:List Value} [Ty P t true n] (hl:vs.length=n) (hc:∀ j v,vs[j]? = some v→w.cell? ⟨b,o+j,none⟩=some v):(loadVar t ⟨b,o,none⟩).run P w=.ok (.agg vs.toArray) w:=by
 unfold loadVar
 rw [Sem.run_bind,uJ (agg:=true) (n:=n),Result.andThen_ok]
 simp only [if_true,Sem.run_bind,fT (t:=t) (agg:=true) (n:=n),Result.andThen_ok,qP hl hc,Sem.run_pure]
end
def At (c:Cx) (hs:List a8) (b o:Nat) (v:Value):Prop:=∀ w,Mem c hs w→w.cell? ⟨b,o,none⟩=some v
theorem At.bG {c:Cx} {hs hs':List a8} {b o:Nat} {cs:Array Value} {E:TypeId} {fz:Nat×Nat} {v:Value} (ht:Take hs (SL.bG b (.cells cs E fz)) hs') (hv:cs[o]? = some v):At c hs b o v:=
 fun w hm=>by rw [cell_of_block (hm.bG ht)];exact hv
theorem At.base {c:Cx} {hs:List a8} {b o:Nat} {v:Value} (h:c.w0.cell? ⟨b,o,none⟩=some v) (GA:c.md=[]):At c hs b o v:=fun w hm=>by
 have hb:b<c.w0.heap.size:=World.block_lt_of_cell? c.w0 ⟨b,o,none⟩ h
 have:=hm.base hb (by rw [GA];simp)
 rw [← h]
 simp [World.cell?,this]
theorem At.Cr {c:Cx} {hs:List a8} {b o:Nat} {v:Value} (h:c.w0.cell? ⟨b,o,none⟩=some v) (GA:b ∉ c.md):At c hs b o v:=fun w hm=>by
 have hb:b<c.w0.heap.size:=World.block_lt_of_cell? c.w0 ⟨b,o,none⟩ h
 have:=hm.base hb GA
 rw [← h]
 simp [World.cell?,this]
def eF (c:Cx) (hs:List a8) (b o:Nat):List Value→Prop
 | []=>True
 | v::vs=>At c hs b o v∧eF c hs b (o+1) vs
theorem eF.get {c:Cx} {hs:List a8} {b:Nat}:∀ {vs:List Value} {o:Nat},eF c hs b o vs→∀ j v,vs[j]? = some v→At c hs b (o+j) v
 | [],_,_,j,v,h=>by simp at h
 | x :: vs, o, ⟨h0, h1⟩, j, v, h => by
  cases j with
  | zero=>simp at h;subst h;exact h0
  | succ j=>have:=eF.get h1 j v (by simpa using h);rwa [show o+1+j=o+(j+1) from by omega] at this
theorem eF.uT {c:Cx} {hs:List a8} {b:Nat}:∀ {vs:List Value} {o:Nat},(∀ j v,vs[j]? = some v→At c hs b (o+j) v)→eF c hs b o vs
 | [],_,_=>trivial
 | x::vs,o,h=>⟨h 0 x rfl,eF.uT fun j v hv=>by have:=h (j+1) v (by simpa using hv);rwa [show o+(j+1)=o+1+j from by omega] at this⟩
theorem eF.base {c:Cx} {hs:List a8} {b o:Nat} {vs:List Value} (h:∀ (j:Nat) (u:Value),vs[j]? = some u→c.w0.cell? ⟨b,o+j,none⟩=some u) (GA:c.md=[]):eF c hs b o vs:=
 eF.uT fun j u hu=>At.base (h j u hu) GA
def ed:List Value→Nat→Nat→List Value
 | _,_,0=>[]
 | [],_,_+1=>[]
 | v::r,0,n+1=>v::ed r 0 n
 | _::r,o+1,n+1=>ed r o (n+1)
theorem jf:∀ (cs:List Value) (o n:Nat),ed cs o n=(cs.drop o).take n
 | cs,o,0=>by simp [ed]
 | [],o,n+1=>by simp [ed]
 | v::r,0,n+1=>by simp [ed,jf r 0 n]
 | v::r,o+1,n+1=>by simp [ed,jf r o (n+1)]
def tu:List Value→Nat→Option Value
 | [],_=>none
 | v::_,0=>some v
 | _::r,n+1=>tu r n
theorem tW:∀ (cs:List Value) (o:Nat),tu cs o=cs[o]?
 | [],_=>by simp [tu]
 | v::_,0=>by simp [tu]
 | _::r,n+1=>by simp [tu,tW r n]
theorem At.lit {c:Cx} {hs hs':List a8} {b o:Nat} {cs:List Value} {E:TypeId} {fz:Nat×Nat} {v:Value} (ht:Take hs (SL.bG b (.cells cs.toArray E fz)) hs') (hv:tu cs o=some v):At c hs b o v:=
 At.bG ht (by rw [tW] at hv;simpa using hv)
theorem eF.bG {c:Cx} {hs hs':List a8} {b o n:Nat} {cs:List Value} {E:TypeId} {fz:Nat×Nat} {vs:List Value} (ht:Take hs (SL.bG b (.cells cs.toArray E fz)) hs') (hv:ed cs o n=vs):eF c hs b o vs:=by
 subst hv
 refine eF.uT fun j v hv=>At.bG ht ?_
 simp only [jf,ZC,Zbc] at hv
 split at hv
 ·simpa using hv
 ·cases hv
section
variable {P:Program} {c:Cx} {sl:aG} {hs hs':List a8} {dst:Option Tmp} {ty:TypeId} {pos:String} {af:Array Edge} {g:Option (Nat×Bool)}
theorem a7 {x:Operand} {v:Value} (hx:Is sl x v):cR P c sl hs ⟨dst,.move x,ty,pos,af,g⟩ v:=
 ⟨by simp,fun a w ha _=>by simp [execOp,hx a ha]⟩
theorem cA {x:Operand} {v:Value} (hx:Is sl x v):cR P c sl hs ⟨dst,.assign x,ty,pos,af,g⟩ v:=
 ⟨by simp,fun a w ha _=>by simp [execOp,hx a ha]⟩
theorem tN {x y z:Operand} {q:Bool} {v u:Value} (hx:Is sl x (.bool q)) (hy:Is sl y v) (hz:Is sl z u):cR P c sl hs ⟨dst,.pick x y z,ty,pos,af,g⟩ (bif q then v else u):=
 ⟨by simp,fun a w ha _=>by simp [execOp,hx a ha,hy a ha,hz a ha,asBool,cond_eq_ite]⟩
theorem aZ {x:Operand} {t:Nat} {p q:Bool} (hx:Is sl x (.bool p)) (hq:cK sl t=some (gv (p==false) (.bool q))) :
  cR P c sl hs ⟨dst,.pick x (.const (.bool true)) (.tmp t),ty,pos,af,g⟩ (.bool (p||q)):=
 ⟨by simp,fun a w ha _=>by
  have h2:=ha.eval hq
  simp only [execOp,hx a ha,h2,asBool]
  cases p <;> simp [gv,Act.eval]⟩
theorem cz {x:Operand} {t:Nat} {p q:Bool} (hx:Is sl x (.bool p)) (hq:cK sl t=some (gv (p==true) (.bool q))) :
  cR P c sl hs ⟨dst,.pick x (.tmp t) (.const (.bool false)),ty,pos,af,g⟩ (.bool (p&&q)):=
 ⟨by simp,fun a w ha _=>by
  have h2:=ha.eval hq
  simp only [execOp,hx a ha,h2,asBool]
  cases p <;> simp [gv,Act.eval]⟩
theorem nX {x:Operand} {t:Nat} {c0 p q:Bool} (hc:c0=true) (hx:Is sl x (.bool p)) (hq:cK sl t=some (gv (c0&&(p==false)) (.bool q))) :
  cR P c sl hs ⟨dst,.pick x (.const (.bool true)) (.tmp t),ty,pos,af,g⟩ (.bool (p||q)):=aZ hx (by rw [hq,hc,Zaq])
theorem kG {x:Operand} {t:Nat} {c0 p q:Bool} (hc:c0=true) (hx:Is sl x (.bool p)) (hq:cK sl t=some (gv (c0&&(p==true)) (.bool q))) :
  cR P c sl hs ⟨dst,.pick x (.tmp t) (.const (.bool false)),ty,pos,af,g⟩ (.bool (p&&q)):=cz hx (by rw [hq,hc,Zaq])
theorem iL {op:BinOp} {t u:TypeId} {x y:Operand} {v u' r:Value} (hx:Is sl x v) (hy:Is sl y u') (hr:∀ w,(do eqGuard op t x y v u';binOp op t v u').run P w=.ok r w) :
  cR P c sl hs ⟨dst,.binOp op t x y u,ty,pos,af,g⟩ r:=
 ⟨by simp,fun a w ha _=>by
  have:=hr w
  simp only [Sem.run_bind] at this
  simp only [execOp,hx a ha,hy a ha,Sem.run_bind,this,Result.andThen_ok,Sem.run_pure]⟩
theorem fF {op:BinOp} {t:TypeId} {x y:Operand} {k k':IntKind} {a b:Int} {w:World}:(eqGuard op t x y (.int k a) (.int k' b)).run P w=.ok () w:=by
 unfold eqGuard;split <;> rfl
theorem ln {op:BinOp} {t:TypeId} {x y:Operand} {a b:ByteArray} {w:World}:(eqGuard op t x y (.string a) (.string b)).run P w=.ok () w:=by
 unfold eqGuard;split <;> rfl
theorem Ae {op:BinOp} {t:TypeId} {x y:Operand} {a b:Bool} {w:World}:(eqGuard op t x y (.bool a) (.bool b)).run P w=.ok () w:=by
 unfold eqGuard;split <;> rfl
def V3 (n:Int):Prop:=-9223372036854775808≤n∧n≤9223372036854775807
theorem H8 {t u:TypeId} {x y:Operand} {a b:Int} (hx:Is sl x (.int .i64 a)) (hy:Is sl y (.int .i64 b)) (hb:V3 (a+b)) :
  cR P c sl hs ⟨dst,.binOp .add t x y u,ty,pos,af,g⟩ (.int .i64 (a+b)):=
 iL hx hy fun w=>by simp [fF,binOp,Op.intArith,IntWalk.i64_in _ hb]
theorem rR {t u:TypeId} {x y:Operand} {a b:Int} (hx:Is sl x (.int .i64 a)) (hy:Is sl y (.int .i64 b)) (hb:V3 (a-b)) :
  cR P c sl hs ⟨dst,.binOp .sub t x y u,ty,pos,af,g⟩ (.int .i64 (a-b)):=
 iL hx hy fun w=>by simp [fF,binOp,Op.intArith,IntWalk.i64_in _ hb]
theorem ML {k:IntKind} {t u:TypeId} {x y:Operand} {a b:Int} (hx:Is sl x (.int k a)) (hy:Is sl y (.int k b)) :
  cR P c sl hs ⟨dst,.binOp .sub t x y u,ty,pos,af,g⟩ (.int k (k.wrap (a-b))):=
 iL hx hy fun w=>by simp [fF,binOp,Op.intArith]
theorem k8 {k:IntKind} {t u:TypeId} {x y:Operand} {a b:Int} (hx:Is sl x (.int k a)) (hy:Is sl y (.int k b)) :
  cR P c sl hs ⟨dst,.binOp .lss t x y u,ty,pos,af,g⟩ (.bool (decide (a<b))):=
 iL hx hy fun w=>by simp [fF,binOp,Op.intCmp]
theorem k9 {k:IntKind} {t u:TypeId} {x y:Operand} {a b:Int} (hx:Is sl x (.int k a)) (hy:Is sl y (.int k b)) :
  cR P c sl hs ⟨dst,.binOp .leq t x y u,ty,pos,af,g⟩ (.bool (decide (a≤b))):=
 iL hx hy fun w=>by simp [fF,binOp,Op.intCmp]
theorem iK {k:IntKind} {t u:TypeId} {x y:Operand} {a b:Int} (hx:Is sl x (.int k a)) (hy:Is sl y (.int k b)) :
  cR P c sl hs ⟨dst,.binOp .gtr t x y u,ty,pos,af,g⟩ (.bool (decide (b<a))):=
 iL hx hy fun w=>by simp [fF,binOp,Op.intCmp]
theorem zh {k:IntKind} {t u:TypeId} {x y:Operand} {a b:Int} (hx:Is sl x (.int k a)) (hy:Is sl y (.int k b)) :
  cR P c sl hs ⟨dst,.binOp .geq t x y u,ty,pos,af,g⟩ (.bool (decide (b≤a))):=
 iL hx hy fun w=>by simp [fF,binOp,Op.intCmp]
theorem lY {k:IntKind} {t u:TypeId} {x y:Operand} {a b:Int} (hx:Is sl x (.int k a)) (hy:Is sl y (.int k b)) :
  cR P c sl hs ⟨dst,.binOp .eql t x y u,ty,pos,af,g⟩ (.bool (decide (a=b))):=
 iL hx hy fun w=>by simp [fF,binOp,Op.intCmp];rfl
theorem gl {k:IntKind} {t u:TypeId} {x y:Operand} {a b:Int} (hx:Is sl x (.int k a)) (hy:Is sl y (.int k b)) :
  cR P c sl hs ⟨dst,.binOp .neq t x y u,ty,pos,af,g⟩ (.bool (decide (a≠b))):=
 iL hx hy fun w=>by simp [fF,binOp,Op.intCmp];rfl
theorem dV {t:TypeId} {x:Operand} {b:Bool} (hx:Is sl x (.bool b)):cR P c sl hs ⟨dst,.unOp .not t x,ty,pos,af,g⟩ (.bool (!b)):=
 ⟨by simp,fun a w ha _=>by simp [execOp,hx a ha,Op.unary]⟩
theorem tL (a b:ByteArray):(a.toList==b.toList)=decide (a=b):=by
 rw [ByteArray.toList_eq,ByteArray.toList_eq,ZaY]
 simp only [beq_iff_eq,decide_eq_true_eq]
 constructor
 ·intro h;cases a;cases b;simp at h;rw [h]
 ·intro h;rw [h]
theorem dS {t u:TypeId} {x y:Operand} {a b:ByteArray} (hx:Is sl x (.string a)) (hy:Is sl y (.string b)) :
  cR P c sl hs ⟨dst,.binOp .eql t x y u,ty,pos,af,g⟩ (.bool (decide (a=b))):=
 iL hx hy fun w=>by simp [ln,binOp,Op.stringOp,tL]
theorem fR {t u:TypeId} {x y:Operand} {a b:ByteArray} (hx:Is sl x (.string a)) (hy:Is sl y (.string b)) :
  cR P c sl hs ⟨dst,.binOp .neq t x y u,ty,pos,af,g⟩ (.bool (decide (a≠b))):=
 iL hx hy fun w=>by simp [ln,binOp,Op.stringOp,tL]
theorem rS {t u:TypeId} {x y:Operand} {a b:ByteArray} (hx:Is sl x (.string a)) (hy:Is sl y (.string b)) (hb:a.size+b.size≤9223372036854775807) :
  cR P c sl hs ⟨dst,.binOp .add t x y u,ty,pos,af,g⟩ (.string (a++b)):=
 iL hx hy fun w=>by
  simp [ln,binOp,Op.stringOp]
  omega
theorem ag {t:TypeId} {n:Nat} {x:Operand} {b o:Nat} {v:Value} [Ty P t false n] (hx:Is sl x (.pointer (some ⟨b,o,none⟩))) (hv:At c hs b o v) :
  cR P c sl hs ⟨dst,.load t x,ty,pos,af,g⟩ v:=
 ⟨by simp,fun a w ha hm=>by simp [execOp,hx a ha,Instr.loadAt,Instr.sureAddr,sE (hv w hm)]⟩
theorem jt {t:TypeId} {n:Nat} {x:Operand} {b o:Nat} {vs:List Value} [Ty P t true n] (hx:Is sl x (.pointer (some ⟨b,o,none⟩))) (hv:eF c hs b o vs) (hl:vs.length=n) :
  cR P c sl hs ⟨dst,.load t x,ty,pos,af,g⟩ (.agg vs.toArray):=
 ⟨by simp,fun a w ha hm=>by simp [execOp,hx a ha,Instr.loadAt,Instr.sureAddr,nZ hl (fun j v h=>hv.get j v h w hm)]⟩
def B9 (P:Program) (t:TypeId) (i:Nat):Option Nat:=
 match P.underlying t with
 | some (.struct fs) => match fs[i]? with
  | some f => match P.info? f.type with
   | some fi=>if fi.size=0 then none else some f.offset
   | none=>none
  | none=>none
 | _=>none
class eh (P:Program) (t:TypeId) (i:Nat) (o:outParam Nat):Prop where
 eq:B9 P t i=some o
theorem eh.parts {t:TypeId} {i o:Nat} [h:eh P t i o]:∃ fs f fi,P.underlying t=some (.struct fs)∧fs[i]? = some f∧P.info? f.type=some fi∧fi.size≠0∧f.offset=o:=by
 have:=h.eq
 unfold B9 at this
 split at this
 ·rename_i fs UW
  split at this
  ·rename_i f hf
   split at this
   ·rename_i fi Wv
    split at this
    ·cases this
    ·rename_i hz;cases this;exact ⟨fs,f,fi,UW,hf,Wv,hz,rfl⟩
   ·cases this
  ·cases this
 ·cases this
theorem ao {t:TypeId} {i o:Nat} {x:Operand} {b k q:Nat} [eh P t i o] (hx:Is sl x (.pointer (some ⟨b,k,none⟩))) (he:k+o=q) :
  cR P c sl hs ⟨dst,.fieldAddr t x i,ty,pos,af,g⟩ (.pointer (some ⟨b,q,none⟩)):=
 ⟨by simp,fun a w ha _=>by
  subst he
  obtain ⟨fs,f,fi,h1,h2,h3,h4,h5⟩:=eh.parts (P:=P) (t:=t) (i:=i)
  simp only [execOp,hx a ha,Instr.fieldAt,Sem.run_bind,aU h1,Result.andThen_ok,h2,Instr.sureAddr,Sem.run_pure,fieldPlace,sizeOf,fC h3,h4,if_false,eI,h5]⟩
def partOf (agg:Bool) (n:Nat) (cs:List Value) (o:Nat):Option Value:=
 bif agg then some (.agg (ed cs o n).toArray) else tu cs o
theorem MM {t:TypeId} {agg:Bool} {n:Nat} [Ty P t agg n] {cs:List Value} {o:Nat} {v:Value} {w:World} (h:partOf agg n cs o=some v):(part t cs.toArray o).run P w=.ok v w:=by
 unfold part
 rw [Sem.run_bind,uJ (agg:=agg) (n:=n),Result.andThen_ok]
 cases agg with
 | true =>
  simp only [partOf,cond_true,Option.some.injEq] at h
  simp only [if_true,Sem.run_bind,fT (t:=t) (agg:=true) (n:=n),Result.andThen_ok,Sem.run_pure,← h,jf]
  congr 2
  simp [List.extract_eq_take_drop]
 | false =>
  simp only [partOf,cond_false,tW] at h
  simp [h]
def fieldInfo (P:Program) (t:TypeId) (i:Nat):Option (Nat×TypeId):=
 match P.underlying t with
 | some (.struct fs)=>(fs[i]?).map fun f=>(f.offset,f.type)
 | _=>none
class FTy (P:Program) (t:TypeId) (i:Nat) (o:outParam Nat) (ft:outParam TypeId):Prop where
 eq:fieldInfo P t i=some (o,ft)
theorem Br {t ft:TypeId} {i o n:Nat} {agg:Bool} {x:Operand} {cs:List Value} {v:Value} [h:FTy P t i o ft] [Ty P ft agg n] (hx:Is sl x (.agg cs.toArray)) (hv:partOf agg n cs o=some v) :
  cR P c sl hs ⟨dst,.field t x i,ty,pos,af,g⟩ v:=
 ⟨by
   simp,fun a w ha _=>by
  have h1:=h.eq
  unfold fieldInfo at h1
  split at h1
  ·rename_i fs UW
   obtain ⟨f,hf,he⟩:=Zah.1 h1
   simp only [Prod.mk.injEq] at he
   obtain ⟨e1,e2⟩:=he
   subst e1;subst e2
   simp only [execOp,hx a ha,Instr.field,Sem.run_bind,aU UW,Result.andThen_ok,hf,asAgg,Sem.run_pure,MM (agg:=agg) (n:=n) hv]
  ·cases h1⟩
theorem az {t e:TypeId} {n:Nat} {agg:Bool} {x y:Operand} {a0:Option Addr} {b o len cap q:Nat} {k:IntKind} {i:Int} [hu:iF P t (.slice e)] [Ty P e agg n] (hx:Is sl x (.slice a0 len cap)) (hy:Is sl y (.int k i))
  (ha:a0=some ⟨b,o,none⟩) (h0:0≤i) (h1:i<len) (he:o+i.toNat*n=q):cR P c sl hs ⟨dst,.indexAddr t x y,ty,pos,af,g⟩ (.pointer (some ⟨b,q,none⟩)):=
 ⟨by simp,fun a w ve _=>by
  subst he;subst ha
  simp [execOp,hx a ve,hy a ve,Instr.indexAt,asIntOf,aU hu.eq,h0,h1,fT (agg:=agg) (n:=n),eI]⟩
theorem gF {t e:TypeId} {n len:Nat} {agg:Bool} {x y:Operand} {b o q:Nat} {k:IntKind} {i:Int} [hu:iF P t (.array len e)] [Ty P e agg n] (hx:Is sl x (.pointer (some ⟨b,o,none⟩))) (hy:Is sl y (.int k i))
  (h0:0≤i) (h1:i<len) (he:o+i.toNat*n=q):cR P c sl hs ⟨dst,.indexAddr t x y,ty,pos,af,g⟩ (.pointer (some ⟨b,q,none⟩)):=
 ⟨by simp,fun a w ha _=>by
  subst he
  simp [execOp,hx a ha,hy a ha,Instr.indexAt,Instr.sureAddr,asIntOf,aU hu.eq,h0,h1,fT (agg:=agg) (n:=n),eI]⟩
theorem oY {t:TypeId} {x y:Operand} {k:IntKind} {i:Int} {s:ByteArray} [hu:iF P t .string] (hx:Is sl x (.string s)) (hy:Is sl y (.int k i))
  (h0:0≤i) (h1:i<s.size):cR P c sl hs ⟨dst,.index t x y,ty,pos,af,g⟩ (.int .u8 ((s.data.toList[i.toNat]?.getD 0).toNat:Nat)):=
 ⟨by
   simp,fun a w ha _=>by
  have aK:i.toNat<s.size:=by omega
  have hs:s[i.toNat]? = some s[i.toNat]:=getElem?_pos s i.toNat aK
  have hd:s.data.toList[i.toNat]?.getD 0=s[i.toNat]:=by
   rw [ZaC,show s.data[i.toNat]? = some s.data[i.toNat] from Zas aK]
   rfl
  simp [execOp,hx a ha,hy a ha,Instr.index,asIntOf,aU hu.eq,h0,hs,← hd]⟩
theorem Bq {f:Fn} {first captured:Array Operand} {vs us:Array Value} (h1:∀ a,bR sl a→first.map a.eval=vs) (h2:∀ a,bR sl a→captured.map a.eval=us) :
  cR P c sl hs ⟨dst,.makeFunc f first captured,ty,pos,af,g⟩ (.func f vs us):=
 ⟨by simp,fun a w ha _=>by simp [execOp,h1 a ha,h2 a ha,Instr.makeFunc]⟩
theorem dx {x:Operand} {i:Nat} {vs:List Value} {v:Value} (hx:Is sl x (.tuple vs.toArray)) (hv:tu vs i=some v):cR P c sl hs ⟨dst,.extract x i,ty,pos,af,g⟩ v:=
 ⟨by simp,fun a w ha _=>by simp [execOp,hx a ha,Instr.extract,← tW,hv]⟩
theorem H7 {t:TypeId} {parts:Array (Nat×Operand)} {ps:Array (Nat×Value)} {v:Value} (hp:∀ a,bR sl a→(parts.map fun (i,x)=>(i,a.eval x))=ps) (hb:∀ w,(Instr.build t ps).run P w=.ok v w) :
  cR P c sl hs ⟨dst,.build t parts,ty,pos,af,g⟩ v:=
 ⟨by simp,fun a w ha _=>by simp only [execOp,hp a ha,Sem.run_bind,hb w,Result.andThen_ok,Sem.run_pure]⟩
theorem bD {t:TypeId} {e:TypeId} {x:Operand} {b:Option Addr} {n cap:Nat} [hu:iF P t (.slice e)] (hx:Is sl x (.slice b n cap)) :
  cR P c sl hs ⟨dst,.call ⟨.builtin .len,#[x],#[t]⟩,ty,pos,af,g⟩ (.int .i64 n):=
 ⟨by simp,fun a w ha _=>by simp [execOp,hx a ha,resolve,invoke,builtin,Builtin.len_,aU hu.eq,goInt]⟩
theorem fJ {t:TypeId} {x:Operand} {s:ByteArray} [hu:iF P t .string] (hx:Is sl x (.string s)) :
  cR P c sl hs ⟨dst,.call ⟨.builtin .len,#[x],#[t]⟩,ty,pos,af,g⟩ (.int .i64 s.size):=
 ⟨by simp,fun a w ha _=>by simp [execOp,hx a ha,resolve,invoke,builtin,Builtin.len_,aU hu.eq,goInt]⟩
theorem MN {k:IntKind} {ts:Array TypeId} {x y:Operand} {a b:Int} (hx:Is sl x (.int k a)) (hy:Is sl y (.int k b)) :
  cR P c sl hs ⟨dst,.call ⟨.builtin .max,#[x,y],ts⟩,ty,pos,af,g⟩ (.int k (max a b)):=
 ⟨by simp,fun e w ha _=>by
  simp [execOp,hx e ha,hy e ha,resolve,invoke,builtin,Builtin.max_,Builtin.max2]
  simp only [Int.max_def];split <;> split <;> first | rfl | omega⟩
end
end Go.SL
namespace Go.Proofs.A1
open Go Go.SL
structure Wn where
 n:Nat
 ca:Nat→Bool
 fe:Nat→Bool
 fr:Nat→Int
 to:Nat→Int
 Ef:Int
def Wn.fin (N:Wn) (p:List Nat):Int:=match p.getLast? with | none=>N.Ef | some j=>N.to j
def Wn.step (N:Wn) (p:List Nat) (j:Nat):Bool:=decide (j<N.n)&&(!p.contains j&&((p.isEmpty&&N.ca j)||(N.fe j&&decide (N.fr j=N.fin p))))
def Wn.ok (N:Wn) (p:List Nat):Prop:=∀ k (h:k<p.length),N.step (p.take k) p[k]=true
theorem Wn.mB (N:Wn) (p:List Nat) (j:Nat):N.fin (p++[j])=N.to j:=by unfold Wn.fin;rw [List.getLast?_append];rfl
theorem Wn.rU (N:Wn):N.ok []:=fun k h=>absurd h (ZO k)
theorem Wn.kI {N:Wn} {p:List Nat} {j:Nat}:N.ok (p++[j])↔N.ok p∧N.step p j=true:=by
 constructor
 ·intro h
  constructor
  ·intro k hk
   have:=h k (by rw [Zg];omega)
   rwa [Zad (by omega),Zat hk] at this
  ·have:=h p.length (by rw [Zg];simp)
   rwa [Zad (Zz _),Zai (Zz _),Zao (Zz _),List.getElem_singleton] at this
 ·rintro ⟨h1,h2⟩ k hk
  rw [Zg] at hk
  by_cases hl:k<p.length
  ·rw [Zad (by omega),Zat hl];exact h1 k hl
  ·obtain rfl:k=p.length:=by simp at hk;omega
   rw [Zad (Zz _),Zai (Zz _),Zao (Zz _),List.getElem_singleton];exact h2
theorem Wn.ER {N:Wn} {p:List Nat} (h:N.ok p) (k:Nat):N.ok (p.take k):=by
 intro i hi
 rw [Zp] at hi
 have:=h i (by omega)
 rwa [List.take_take,Zbi (by omega),ZaJ]
theorem Wn.zt {N:Wn} {p q:List Nat} (h:N.ok p) (hp:q <+: p):N.ok q:=by
 rw [List.prefix_iff_eq_take.1 hp];exact Wn.ER h _
theorem Wn.oW {N:Wn} {p:List Nat} {j:Nat} (h:N.step p j=true):j<N.n:=by
 unfold Wn.step at h;simp only [Zm,decide_eq_true_eq] at h;exact h.1
theorem Wn.uA {N:Wn} {p:List Nat} {j:Nat} (h:N.step p j=true):j ∉ p:=by
 unfold Wn.step at h;simp only [Zm,Zbn,List.contains_eq_mem,decide_eq_false_iff_not] at h;exact h.2.1
theorem Wn.BB {N:Wn} {p:List Nat} (h:N.ok p):p.Nodup:=by
 have key:∀ k,k≤p.length→(p.take k).Nodup:=by
  intro k
  induction k with
  | zero=>intro _;rw [Ze];exact Zam
  | succ k ih =>
   intro hk
   rw [Zn (by omega),ZF]
   refine ⟨ih (by omega),by simp,?_⟩
   intro a ha b hb
   rw [ZK] at hb
   subst hb
   intro e
   subst e
   exact Wn.uA (h k (by omega)) ha
 have:=key p.length (Zz _)
 rwa [Zai (Zz _)] at this
theorem Wn.N5 (N:Wn):N.fin []=N.Ef:=rfl
def Wn.tB (N:Wn) (p:List Nat):Nat:=p.countP N.fe
def lexB:List Nat→List Nat→Bool
 | x::a,y::b=>decide (x<y)||(decide (x=y)&&lexB a b)
 | _,_=>false
theorem om:∀ a,lexB a a=false
 | []=>rfl
 | x::a=>by rw [lexB,om a];simp
theorem qf:∀ {a b c:List Nat},lexB a b=true→lexB b c=true→lexB a c=true
 | [],_,_,h,_=>by cases h
 | _::_,[],_,h,_=>by cases h
 | _::_,_::_,[],_,h=>by cases h
 | x :: a, y :: b, z :: c, h1, h2 => by
  rw [lexB] at h1 h2 ⊢
  simp only [ZP,Zm,decide_eq_true_eq] at h1 h2 ⊢
  rcases h1 with h1 | ⟨h1,CL⟩ <;> rcases h2 with h2 | ⟨h2,GL⟩
  ·exact .inl (by omega)
  ·exact .inl (by omega)
  ·exact .inl (by omega)
  ·exact .inr ⟨by omega,qf CL GL⟩
theorem qg:∀ {a b:List Nat},a.length=b.length→a≠b→lexB a b=true∨lexB b a=true
 | [],[],_,h=>absurd rfl h
 | [],_::_,h,_=>by cases h
 | _::_,[],h,_=>by cases h
 | x :: a, y :: b, hl, h => by
  rw [lexB,lexB]
  simp only [ZP,Zm,decide_eq_true_eq]
  by_cases e:x=y
  ·subst e
   rcases qg (a:=a) (b:=b) (by simpa using hl) (fun e=>h (by rw [e])) with h | h
   ·exact .inl (.inr ⟨rfl,h⟩)
   ·exact .inr (.inr ⟨rfl,h⟩)
  ·rcases Nat.lt_or_gt_of_ne e with h | h
   ·exact .inl (.inl h)
   ·exact .inr (.inl h)
def Wn.lt (N:Wn) (a b:List Nat):Bool:=decide (N.tB a<N.tB b)||(decide (N.tB a=N.tB b)&&(decide (a.length<b.length)||(decide (a.length=b.length)&&lexB a b)))
theorem Wn.lt_irrefl (N:Wn) (a:List Nat):N.lt a a=false:=by unfold Wn.lt;rw [om];simp
theorem Wn.lt_trans {N:Wn} {a b c:List Nat} (h1:N.lt a b=true) (h2:N.lt b c=true):N.lt a c=true:=by
 unfold Wn.lt at *
 simp only [ZP,Zm,decide_eq_true_eq] at *
 rcases h1 with h1 | ⟨h1,h1 | ⟨CL,Y1⟩⟩ <;> rcases h2 with h2 | ⟨h2,h2 | ⟨GL,YZ⟩⟩
 ·exact .inl (by omega)
 ·exact .inl (by omega)
 ·exact .inl (by omega)
 ·exact .inl (by omega)
 ·exact .inr ⟨by omega,.inl (by omega)⟩
 ·exact .inr ⟨by omega,.inl (by omega)⟩
 ·exact .inl (by omega)
 ·exact .inr ⟨by omega,.inl (by omega)⟩
 ·exact .inr ⟨by omega,.inr ⟨by omega,qf Y1 YZ⟩⟩
theorem Wn.BH {N:Wn} {a b:List Nat} (h:a≠b):N.lt a b=true∨N.lt b a=true:=by
 unfold Wn.lt
 simp only [ZP,Zm,decide_eq_true_eq]
 rcases Zak (N.tB a) (N.tB b) with h1 | h1 | h1
 ·exact .inl (.inl h1)
 ·rcases Zak a.length b.length with h2 | h2 | h2
  ·exact .inl (.inr ⟨h1,.inl h2⟩)
  ·rcases qg h2 h with h3 | h3
   ·exact .inl (.inr ⟨h1,.inr ⟨h2,h3⟩⟩)
   ·exact .inr (.inr ⟨h1.symm,.inr ⟨h2.symm,h3⟩⟩)
  ·exact .inr (.inr ⟨h1.symm,.inl h2⟩)
 ·exact .inr (.inl h1)
theorem Wn.IV {N:Wn} {q p:List Nat} (h:q <+: p):q=p∨N.lt q p=true:=by
 obtain ⟨r,rfl⟩:=h
 cases r with
 | nil=>exact .inl (ZU q).symm
 | cons x r =>
  refine .inr ?_
  unfold Wn.lt Wn.tB
  simp only [ZP,Zm,decide_eq_true_eq]
  rw [List.countP_append,Zg,ZJ]
  by_cases h0:List.countP N.fe (x::r)=0
  ·exact .inr ⟨by omega,.inl (by omega)⟩
  ·exact .inl (by omega)
def Wn.least (N:Wn) (d:Int) (p:List Nat):Prop:=N.ok p∧N.fin p=d∧∀ q,N.ok q→N.fin q=d→N.lt q p=false
theorem Wn.DE {N:Wn} {d:Int} {p q:List Nat} (hp:N.least d p) (hq:N.least d q):p=q:=by
 by_cases h:p=q
 ·exact h
 ·rcases Wn.BH (N:=N) h with h | h
  ·rw [hq.2.2 p hp.1 hp.2.1] at h;cases h
  ·rw [hp.2.2 q hq.1 hq.2.1] at h;cases h
def Wn.all (N:Wn) (d:Int):Nat→List Nat→List (List Nat)
 | 0,_=>[]
 | k+1,p=>(if N.fin p=d then [p] else [])++((List.range N.n).filter (N.step p)).flatMap fun j=>N.all d k (p++[j])
theorem Wn.zA {N:Wn} {d:Int} {q:List Nat}:∀ {k:Nat} {p:List Nat},N.ok p→q∈N.all d k p→N.ok q∧N.fin q=d
 | 0,_,_,h=>by cases h
 | k + 1, p, ho, h => by
  rw [Wn.all,Zx] at h
  rcases h with h | h
  ·split at h
   ·rw [ZK] at h;subst h;exact ⟨ho,‹_›⟩
   ·cases h
  ·obtain ⟨j,hj,h⟩:=List.mem_flatMap.1 h
   exact Wn.zA (Wn.kI.2 ⟨ho,(Zv.1 hj).2⟩) h
theorem Wn.Ar {N:Wn} {d:Int}:∀ {k:Nat} {p r:List Nat},N.ok (p++r)→N.fin (p++r)=d→r.length<k→p++r∈N.all d k p
 | 0,_,_,_,_,h=>absurd h (ZO _)
 | k + 1, p, [], ho, hf, _ => by
  rw [ZU] at *
  rw [Wn.all,if_pos hf]
  simp
 | k + 1, p, j :: r, ho, hf, hk => by
  have e:p++j::r=(p++[j])++r:=by simp
  rw [e] at ho hf ⊢
  have h1:=Wn.zt ho (Zbe (p++[j]) r)
  have h2:=(Wn.kI.1 h1).2
  rw [Wn.all,Zx]
  refine .inr (List.mem_flatMap.2 ⟨j,Zv.2 ⟨ZT.2 (Wn.oW h2),h2⟩,?_⟩)
  exact Wn.Ar ho hf (by rw [ZJ] at hk;omega)
def Wn.SQ (N:Wn) (x:List Nat):List Nat:=(List.range N.n).filter (N.step x)
def Wn.exts (N:Wn) (x:List Nat):List (List Nat):=(N.SQ x).map fun j=>x++[j]
structure Wn.Inv (N:Wn) (d:Int) (Q:List (List Nat)):Prop where
 ok:∀ q∈Q,N.ok q∧q≠[]
 cover:∀ p,N.ok p→N.fin p=d→∃ q∈Q,q <+: p
theorem Wn.Gp {N:Wn} {d:Int} (h:N.Ef≠d) {Q:List (List Nat)} (hQ:∀ q,q∈Q↔q∈N.exts []):N.Inv d Q:=by
 constructor
 ·intro q hq
  obtain ⟨j,hj,rfl⟩:=Zu.1 ((hQ q).1 hq)
  exact ⟨Wn.kI.2 ⟨N.rU,(Zv.1 hj).2⟩,by simp⟩
 ·intro p hp hf
  cases p with
  | nil=>exact absurd hf h
  | cons j r =>
   have h1:N.ok ([]++[j]):=Wn.zt hp ⟨r,rfl⟩
   have h2:=(Wn.kI.1 h1).2
   exact ⟨[j],(hQ _).2 (Zu.2 ⟨j,Zv.2 ⟨ZT.2 (Wn.oW h2),h2⟩,rfl⟩),⟨r,rfl⟩⟩
theorem Wn.Gn {N:Wn} {d:Int} {Q:List (List Nat)} {x:List Nat} (h:N.Inv d Q) (hx:x∈Q) (hm:∀ q∈Q,N.lt q x=false) (hf:N.fin x=d):N.least d x:=by
 refine ⟨(h.ok x hx).1,hf,fun q hq hfq=>?_⟩
 obtain ⟨c,hc,hp⟩:=h.cover q hq hfq
 have h0:=hm c hc
 rcases Wn.IV (N:=N) hp with e | e
 ·rwa [← e]
 ·cases hb:N.lt q x with
  | false=>rfl
  | true=>rw [Wn.lt_trans e hb] at h0;exact h0
theorem Wn.I9 {N:Wn} {d:Int} {Q R:List (List Nat)} {x:List Nat} (h:N.Inv d Q) (hQ:∀ q,q∈Q↔q=x∨q∈R) (hf:N.fin x≠d):N.Inv d (R++N.exts x):=by
 have hx:=h.ok x ((hQ x).2 (.inl rfl))
 constructor
 ·intro q hq
  rcases Zx.1 hq with hq | hq
  ·exact h.ok q ((hQ q).2 (.inr hq))
  ·obtain ⟨j,hj,rfl⟩:=Zu.1 hq
   exact ⟨Wn.kI.2 ⟨hx.1,(Zv.1 hj).2⟩,by simp⟩
 ·intro p hp GD
  obtain ⟨c,hc,r,rfl⟩:=h.cover p hp GD
  rcases (hQ c).1 hc with rfl | hc
  ·cases r with
   | nil=>rw [ZU] at GD;exact absurd GD hf
   | cons j r =>
    have e:c++j::r=(c++[j])++r:=by simp
    rw [e] at hp ⊢
    have h2:=(Wn.kI.1 (Wn.zt hp (Zbe (c++[j]) r))).2
    exact ⟨c++[j],Zx.2 (.inr (Zu.2 ⟨j,Zv.2 ⟨ZT.2 (Wn.oW h2),h2⟩,rfl⟩)),⟨r,rfl⟩⟩
  ·exact ⟨c,Zx.2 (.inl hc),⟨r,rfl⟩⟩
theorem Wn.I8 {N:Wn} {d:Int} (h:N.Inv d []):∀ p,N.ok p→N.fin p≠d:=fun p hp hf=>by
 obtain ⟨q,hq,_⟩:=h.cover p hp hf
 cases hq
theorem kT:∀ (n:Nat) (l:List Nat),l.Nodup→(∀ x∈l,x<n)→l.length≤n
 | 0, l, _, h => by
  cases l with
  | nil=>exact Zz _
  | cons x l=>exact absurd (h x (by simp)) (ZO _)
 | n + 1, l, hn, h => by
  have:=kT n (l.erase n) (hn.erase n) fun x hx=>by
   have h1:=h x (List.mem_of_mem_erase hx)
   have h2:=(List.Nodup.mem_erase_iff hn).1 hx
   omega
  by_cases hm:n∈l
  ·rw [ZaD hm] at this;omega
  ·rw [List.erase_of_not_mem hm] at this;omega
theorem Wn.BC {N:Wn} {p:List Nat} (h:N.ok p):∀ x∈p,x<N.n:=by
 intro x hx
 obtain ⟨k,hk,rfl⟩:=Zs hx
 exact Wn.oW (h k hk)
theorem Wn.uS {N:Wn} {p:List Nat} (h:N.ok p):p.length≤N.n:=kT _ _ (Wn.BB h) (Wn.BC h)
theorem Wn.M9 {N:Wn} {x:List Nat} (h:N.ok x):x.length+(N.SQ x).length≤N.n:=by
 rw [← Zg]
 refine kT _ _ ?_ ?_
 ·rw [ZF]
  refine ⟨Wn.BB h,(Zbs).filter _,?_⟩
  intro a ha b hb e
  subst e
  exact Wn.uA (Zv.1 hb).2 ha
 ·intro y hy
  rcases Zx.1 hy with hy | hy
  ·exact Wn.BC h y hy
  ·exact ZT.1 (Zv.1 hy).1
def pA:Nat→Nat
 | 0=>1
 | m+1=>1+(m+1)*pA m
theorem xi:∀ m,1≤pA m
 | 0=>Zz _
 | m+1=>by rw [pA];omega
def Wn.wt (N:Wn):List (List Nat)→Nat
 | []=>0
 | q::Q=>pA (N.n-q.length)+N.wt Q
theorem Wn.w7 (N:Wn):∀ A B,N.wt (A++B)=N.wt A+N.wt B
 | [],B=>by rw [Za,Wn.wt,ZB]
 | q::A,B=>by rw [Zb,Wn.wt,Wn.wt,Wn.w7 N A B,Nat.add_assoc]
theorem Wn.Eo {N:Wn} {A B:List (List Nat)} (h:A.Perm B):N.wt A=N.wt B:=by
 induction h with
 | nil=>rfl
 | cons x _ ih=>rw [Wn.wt,Wn.wt,ih]
 | swap x y l=>rw [Wn.wt,Wn.wt,Wn.wt,Wn.wt];omega
 | trans _ _ h1 h2=>rw [h1,h2]
theorem Wn.Hj (N:Wn):∀ Q:List (List Nat),Q.length≤N.wt Q
 | []=>Zz _
 | q::Q=>by rw [Wn.wt,ZJ];have:=N.Hj Q;have:=xi (N.n-q.length);omega
theorem Wn.CP (N:Wn) (x:List Nat):∀ l:List Nat,N.wt (l.map fun j=>x++[j])=l.length*pA (N.n-(x.length+1))
 | []=>by rw [Zf,Wn.wt,Zaa,Zbu]
 | j :: l => by
  rw [Z8,Wn.wt,N.CP x l,Zg,show (j::l).length=l.length+1 from rfl,Zag]
  show pA (N.n-(x.length+1))+_=_
  omega
theorem Wn.LZ {N:Wn} {x:List Nat} (h:N.ok x):N.wt (N.exts x)<pA (N.n-x.length):=by
 unfold Wn.exts
 rw [Wn.CP]
 have hf:=Wn.M9 h
 by_cases h0:(N.SQ x).length=0
 ·rw [h0,Zbu];exact xi _
 ·obtain ⟨m,hm⟩:∃ m,N.n-x.length=m+1:=⟨N.n-x.length-1,by omega⟩
  rw [hm,show N.n-(x.length+1)=m by omega,pA]
  have:=Z9 (pA m) (show (N.SQ x).length≤m+1 by omega)
  omega
end Go.Proofs.A1
namespace Go.Proofs.A1
def bW (h:Bool) (e:Int):Int:=bif h then e else 0
theorem bK {h:Bool} {e:Int} (he:e≠0):bW h e=0↔h=false:=by cases h <;> simp [bW,he]
def fy (n l m:Int):Int:=bW (decide (n<l)||decide (m<n)) 3
theorem fx {n l m:Int}:fy n l m=0↔l≤n∧n≤m:=by
 unfold fy
 rw [bK (by decide)]
 simp
def aV:List Int→Int
 | []=>0
 | e::r=>if e≠0 then e else aV r
theorem cq:∀ {l:List Int},aV l=0↔∀ e∈l,e=0
 | []=>by simp [aV]
 | e :: r => by
  unfold aV
  by_cases h:e=0
  ·simp [h,cq (l:=r)]
  ·simp [h]
theorem sg {es:List Int} {k:Nat} (h:k<es.length):aV (es.drop k)=if es[k]≠0 then es[k] else aV (es.drop (k+1)):=by
 rw [List.drop_eq_getElem_cons h];rfl
def qq (f:Nat→Int):Nat→Nat→Int
 | _,0=>0
 | k,n+1=>if f k≠0 then f k else qq f (k+1) n
def iy (f:Nat→Int) (n:Nat):Int:=qq f 0 n
theorem yn {f:Nat→Int}:∀ {n k:Nat},qq f k n=0↔∀ i,k≤i→i<k+n→f i=0
 | 0,k=>by simp only [qq,true_iff];intro i h1 h2;omega
 | n + 1, k => by
  unfold qq
  by_cases h:f k=0
  ·rw [if_neg (by simpa using h),yn]
   constructor
   ·intro g i h1 h2
    by_cases e:i=k
    ·rw [e];exact h
    ·exact g i (by omega) (by omega)
   ·intro g i h1 h2;exact g i (by omega) (by omega)
  ·rw [if_pos h]
   constructor
   ·intro e;exact absurd e h
   ·intro g;exact absurd (g k (Nat.le_refl _) (by omega)) h
theorem dj {f:Nat→Int} {n:Nat}:iy f n=0↔∀ i,i<n→f i=0:=by
 unfold iy
 rw [yn]
 constructor
 ·intro g i h;exact g i (Nat.zero_le _) (by omega)
 ·intro g i _ h;exact g i (by omega)
theorem vu {f:Nat→Int}:∀ {n k j:Nat},(∀ i,k≤i→i<j→f i=0)→k≤j→j<k+n→f j≠0→qq f k n=f j
 | 0,k,j,_,h1,h2,_=>by omega
 | n + 1, k, j, h, h1, h2, h3 => by
  unfold qq
  by_cases e:k=j
  ·subst e;rw [if_pos h3]
  ·rw [if_neg (by simpa using h k (Nat.le_refl _) (by omega))]
   exact vu (fun i h4 h5=>h i (by omega) h5) (by omega) (by omega) h3
theorem ep {f:Nat→Int} {n j:Nat} (h:∀ i,i<j→f i=0) (hj:j<n) (hn:f j≠0):iy f n=f j:=
 vu (fun i _ h2=>h i h2) (Nat.zero_le _) (by omega) hn
theorem D3 {f g:Nat→Int} {n:Nat} (h:∀ j,j<n→(∀ i,i<j→f i=0)→f j=g j):iy f n=iy g n:=by
 by_cases hf:∀ i,i<n→f i=0
 ·rw [dj.2 hf]
  symm
  refine dj.2 fun i hi=>?_
  rw [← h i hi fun k hk=>hf k (by omega)]
  exact hf i hi
 ·have:∃ j,j<n∧f j≠0∧∀ i,i<j→f i=0:=by
   apply Classical.byContradiction
   intro hc
   apply hf
   intro i
   induction i using Nat.strongRecOn with
   | _ i ih =>
    intro hi
    apply Classical.byContradiction
    intro hne
    exact hc ⟨i,hi,hne,fun k hk=>ih k hk (by omega)⟩
  obtain ⟨j,hj,hne,hb⟩:=this
  rw [ep hb hj hne,h j hj hb]
  symm
  have he:=h j hj hb
  refine ep (fun i hi=>?_) hj (by rw [← he];exact hne)
  rw [← h i (by omega) fun k hk=>hb k (by omega)]
  exact hb i hi
def bt (s:ByteArray) (i:Nat):Int:=((s.data.toList[i]?.getD 0).toNat:Nat)
def Gm (c:Int):Bool:=(decide (65≤c)&&decide (c≤90))||(decide (97≤c)&&decide (c≤122))
def T1 (c:Int):Bool:=decide (48≤c)&&decide (c≤57)
def okB (c:Int):Bool:=Gm c||T1 c||decide (c=95)
def okF (s:ByteArray) (k:Nat):Bool:=(List.range' k (s.size-k)).all fun i=>okB (bt s i)
theorem zu {s:ByteArray} {k:Nat} (h:k<s.size):okF s k=(okB (bt s k)&&okF s (k+1)):=by
 unfold okF
 rw [show s.size-k=(s.size-(k+1))+1 by omega,List.range'_succ]
 rfl
theorem ES {s:ByteArray} {k:Nat} (h:s.size≤k):okF s k=true:=by
 unfold okF
 rw [show s.size-k=0 by omega];rfl
def jY (s:ByteArray):Bool:=decide (0<s.size)&&decide (s.size≤24)&&Gm (bt s 0)&&okF s 1
def nmF (s:ByteArray):Int:=bW (!jY s) 8
end Go.Proofs.A1
namespace Go.Proofs.A1
open Go Go.SL
structure Sr where
 nm:ByteArray
 mx:Int
 deriving DecidableEq
structure De where
 nm:ByteArray
 mx:Int
 pr:Bool
 deriving DecidableEq
structure Ti where
 nm:ByteArray
 fr:Int
 to:Int
 deriving DecidableEq
structure Po where
 lv:Int
 ou:ByteArray
 ip:ByteArray
 deriving DecidableEq
structure Ro where
 lv:Int
 ma:Int
 sr:List Sr
 de:List De
 ti:List Ti
 po:List Po
 deriving DecidableEq
def Ee (v:Int) (o:ByteArray) (p:Po):Bool:=decide (p.lv=v)&&decide (p.ou=o)
def zK (v:Int) (i:ByteArray) (p:Po):Bool:=decide (p.lv=v)&&decide (p.ip=i)
def ez (po:List Po) (v:Int) (o:ByteArray):Option ByteArray:=(po.find? (Ee v o)).map Po.ip
def ny (po:List Po) (v:Int) (i:ByteArray):Bool:=po.any (zK v i)
def jq (po:List Po) (v:Int) (o:ByteArray):Bool:=(ez po v o).isSome
def eW (po:List Po) (v:Int):Nat→ByteArray→List ByteArray
 | 0,_=>[]
 | k + 1, o => match ez po v o with
  | none=>[]
  | some i=>i::eW po v k i
theorem vH {po:List Po} {v:Int} {o:ByteArray} (h:ez po v o=none):∀ k,eW po v k o=[]
 | 0=>rfl
 | k+1=>by rw [eW,h]
theorem mC {po:List Po} {v:Int} {o i:ByteArray} (h:ez po v o=some i) (k:Nat):eW po v (k+1) o=i::eW po v k i:=by rw [eW,h]
theorem jU (po:List Po) (v:Int):∀ k o,(eW po v k o).length≤k
 | 0,_=>Zz _
 | k + 1, o => by
  rw [eW]
  split
  ·exact Zi _
  ·rw [ZJ];have:=jU po v k ‹_›;omega
theorem Co {po:List Po} {v:Int}:∀ {k:Nat} {o:ByteArray},(eW po v k o).length<k→∀ m,k≤m→eW po v m o=eW po v k o
 | 0,_,h,_,_=>absurd h (ZO _)
 | k + 1, o, h, m, hm => by
  obtain ⟨m,rfl⟩:∃ j,m=j+1:=⟨m-1,by omega⟩
  rw [eW,eW]
  cases hi:ez po v o with
  | none=>rfl
  | some i =>
   rw [eW,hi,ZJ] at h
   show i::_=i::_
   rw [Co (k:=k) (by omega) m (by omega)]
theorem Cn {po:List Po} {v:Int}:∀ {k m:Nat} {o:ByteArray},k≤m→(eW po v m o).take k=eW po v k o
 | 0,_,_,_=>by rw [Ze];rfl
 | k + 1, m, o, h => by
  obtain ⟨m,rfl⟩:∃ j,m=j+1:=⟨m-1,by omega⟩
  rw [eW,eW]
  cases ez po v o with
  | none=>rfl
  | some i =>
   show (i::eW po v m i).take (k+1)=i::eW po v k i
   rw [List.take_succ_cons,Cn (by omega)]
def mg (po:List Po) (v:Int):Nat→ByteArray→Option ByteArray
 | 0,o=>some o
 | k+1,o=>(ez po v o).bind (mg po v k)
theorem jS {po:List Po} {v:Int}:∀ {a b:Nat} {o:ByteArray},mg po v (a+b) o=(mg po v a o).bind (mg po v b)
 | 0,b,o=>by rw [ZB];rfl
 | a + 1, b, o => by
  rw [show a+1+b=(a+b)+1 by omega,mg,mg]
  cases ez po v o with
  | none=>rfl
  | some i=>exact jS
theorem hG {po:List Po} {v:Int} {a b:Nat} {o:ByteArray} (h:a≤b) (hb:(mg po v b o).isSome=true):(mg po v a o).isSome=true:=by
 obtain ⟨c,rfl⟩:∃ c,b=a+c:=⟨b-a,by omega⟩
 rw [jS] at hb
 cases h1:mg po v a o with
 | none=>rw [h1] at hb;cases hb
 | some x=>rfl
theorem nk {po:List Po} {v:Int}:∀ {k:Nat} {o:ByteArray} {j:Nat},j<k→(eW po v k o)[j]? = mg po v (j+1) o
 | 0,_,_,h=>absurd h (ZO _)
 | k + 1, o, j, h => by
  rw [eW,mg]
  cases ez po v o with
  | none=>rfl
  | some i =>
   cases j with
   | zero=>rfl
   | succ j =>
    show (i::eW po v k i)[j+1]? = mg po v (j+1) i
    rw [ZaV,nk (by omega)]
theorem qw {po:List Po} {v:Int} {k:Nat} {o:ByteArray}:(eW po v k o).length=k↔(mg po v k o).isSome=true:=by
 cases k with
 | zero=>exact ⟨fun _=>rfl,fun _=>rfl⟩
 | succ k =>
  rw [← nk (Nat.lt_add_one k)]
  have:=jU po v (k+1) o
  constructor
  ·intro h;rw [Zc (by omega)];rfl
  ·intro h
   apply Classical.byContradiction
   intro hn
   rw [Zaf (by omega)] at h
   cases h
theorem tU {po:List Po} {v:Int} {k:Nat} {o x:ByteArray}:x∈eW po v k o↔∃ j,j<k∧mg po v (j+1) o=some x:=by
 constructor
 ·intro h
  obtain ⟨j,hj,e⟩:=Zs h
  have hk:=jU po v k o
  refine ⟨j,by omega,?_⟩
  rw [← nk (by omega:j<k),Zc hj,e]
 ·rintro ⟨j,hj,e⟩
  rw [← nk hj] at e
  exact ZW e
theorem xS {α:Type} [DecidableEq α]:∀ {X T:List α},X.Nodup→(∀ x∈X,x∈T)→X.length≤T.length
 | [],_,_,_=>Zi _
 | x :: X, T, hn, h => by
  have hx:=h x (by simp)
  rw [List.nodup_cons] at hn
  have:=xS (X:=X) (T:=T.erase x) hn.2 fun y hy=>(List.mem_erase_of_ne (a:=y) (b:=x) (fun e=>by rw [e] at hy;exact hn.1 hy)).2 (h y (ZV _ hy))
  rw [ZaD hx] at this
  have:=List.length_pos_of_mem hx
  rw [ZJ];omega
theorem Gg {α:Type} [DecidableEq α] {X:List α} (h:¬ X.Nodup):∃ i j,∃ (hi:i<X.length) (hj:j<X.length),i<j∧X[i]=X[j]:=by
 apply Classical.byContradiction
 intro hn
 apply h
 rw [List.nodup_iff_pairwise_ne,Z5]
 intro i j hi hj wF e
 exact hn ⟨i,j,hi,hj,wF,e⟩
theorem KQ {po:List Po} {v:Int} {T:List ByteArray} (hT:∀ o i,ez po v o=some i→(ez po v i).isSome=true→i∈T) {o:ByteArray} (ho:(mg po v (T.length+2) o).isSome=true∨o∈T∧(mg po v (T.length+1) o).isSome=true):∃ t∈T,t∈eW po v (T.length+1) t:=by
 obtain ⟨s,hs,dT⟩:∃ s,(mg po v (s+T.length+1) o).isSome=true∧∀ k,k≤T.length→∃ x,mg po v (s+k) o=some x∧x∈T:=by
  rcases ho with ho | ⟨hoT,ho⟩
  ·refine ⟨1,by rw [show 1+T.length+1=T.length+2 by omega];exact ho,fun k hk=>?_⟩
   have h0:=hG (a:=k) (by omega) ho
   have h1:=hG (a:=1+k) (by omega) ho
   have h2:=hG (a:=1+k+1) (by omega) ho
   obtain ⟨y,hy⟩:=Zac.1 h0
   obtain ⟨x,hx⟩:=Zac.1 h1
   refine ⟨x,hx,hT y x ?_ ?_⟩
   ·rw [show 1+k=k+1 by omega,jS,hy] at hx
    simpa [mg] using hx
   ·rw [jS,hx] at h2
    simpa [mg] using h2
  ·refine ⟨0,by rw [ZB];exact ho,fun k hk=>?_⟩
   rw [ZB]
   cases k with
   | zero=>exact ⟨o,rfl,hoT⟩
   | succ k =>
    have h0:=hG (a:=k) (by omega) ho
    have h1:=hG (a:=k+1) (by omega) ho
    have h2:=hG (a:=k+1+1) (by omega) ho
    obtain ⟨y,hy⟩:=Zac.1 h0
    obtain ⟨x,hx⟩:=Zac.1 h1
    refine ⟨x,hx,hT y x ?_ ?_⟩
    ·rw [jS,hy] at hx
     simpa [mg] using hx
    ·rw [jS,hx] at h2
     simpa [mg] using h2
 let X:=(List.range (T.length+1)).map fun k=>(mg po v (s+k) o).getD ⟨#[]⟩
 have hXl:X.length=T.length+1:=by simp [X]
 have hX:∀ k (h:k<X.length),mg po v (s+k) o=some X[k]:=fun k h=>by
  obtain ⟨x,hx,_⟩:=dT k (by omega)
  simp [X,hx]
 have hn:¬ X.Nodup:=fun hn=>by
  have:=xS (T:=T) hn fun x hx=>by
   obtain ⟨k,hk,rfl⟩:=Zs hx
   obtain ⟨y,hy,Xk⟩:=dT k (by omega)
   rw [hX k hk] at hy
   cases hy
   exact Xk
  omega
 obtain ⟨i,j,hi,hj,wF,e⟩:=Gg hn
 have h1:=hX i hi
 have h2:=hX j hj
 obtain ⟨y,hy,Xk⟩:=dT i (by omega)
 rw [h1] at hy
 cases hy
 refine ⟨X[i],Xk,tU.2 ⟨j-i-1,by omega,?_⟩⟩
 rw [show s+j=(s+i)+(j-i-1+1) by omega,jS,h1] at h2
 rw [e]
 rw [e] at h2
 exact h2
theorem Om {po:List Po} {v:Int} {m:Nat} {t:ByteArray} (h:t∈eW po v m t):∀ k,(mg po v k t).isSome=true:=by
 obtain ⟨j,_,hj⟩:=tU.1 h
 have key:∀ n,mg po v (n*(j+1)) t=some t:=fun n=>by
  induction n with
  | zero=>rw [Zbu];rfl
  | succ n ih=>rw [Zag,jS,ih];exact hj
 intro k
 refine hG (b:=k*(j+1)) (Nat.le_mul_of_pos_right _ (by omega)) ?_
 rw [key];rfl
theorem KP {po:List Po} {v:Int} {T:List ByteArray} (hT:∀ o i,ez po v o=some i→(ez po v i).isSome=true→i∈T) (h6:T.length≤6):(∃ t∈T,t∈eW po v (T.length+1) t)↔∃ t∈T,(eW po v 7 t).length=7:=by
 constructor
 ·rintro ⟨t,ht,h⟩
  exact ⟨t,ht,qw.2 (Om h 7)⟩
 ·rintro ⟨t,ht,h⟩
  exact KQ hT (.inr ⟨ht,hG (b:=7) (by omega) (qw.1 h)⟩)
theorem pe {po:List Po} {v:Int} {T:List ByteArray} (hT:∀ o i,ez po v o=some i→(ez po v i).isSome=true→i∈T) (hc:¬ ∃ t∈T,t∈eW po v (T.length+1) t) (o:ByteArray) {m:Nat} (hm:T.length+1≤m):eW po v m o=eW po v (T.length+1) o:=by
 have h2:(eW po v (T.length+2) o).length<T.length+2:=by
  have h0:=jU po v (T.length+2) o
  rcases Zbm (eW po v (T.length+2) o).length (T.length+2) with h | h
  ·exact h
  ·exact absurd (KQ hT (.inl (qw.1 (show (eW po v (T.length+2) o).length=T.length+2 by omega)))) hc
 have h3:eW po v (T.length+1) o=eW po v (T.length+2) o:=by
  rw [← Cn (o:=o) (by omega:T.length+1≤T.length+2),Zai (by omega)]
 rcases Zbm m (T.length+2) with h | h
 ·rw [show m=T.length+1 by omega]
 ·rw [Co h2 m h,h3]
def bE:List ByteArray→ByteArray→Int
 | [],_=>-1
 | x::l,s=>if x=s then 0 else if bE l s<0 then -1 else bE l s+1
theorem Ky (l:List ByteArray) (s:ByteArray):-1≤bE l s:=by
 induction l with
 | nil=>exact Int.le_refl _
 | cons x l ih =>
  rw [bE]
  split
  ·omega
  ·split <;> omega
theorem cm {l:List ByteArray} {s:ByteArray}:bE l s<0↔s ∉ l:=by
 induction l with
 | nil=>simp [bE]
 | cons x l ih =>
  rw [bE,ZR,not_or]
  by_cases e:x=s
  ·rw [if_pos e];constructor
   ·intro h;omega
   ·intro h;exact absurd e.symm h.1
  ·rw [if_neg e]
   by_cases h:bE l s<0
   ·rw [if_pos h];exact ⟨fun _=>⟨fun q=>e q.symm,ih.1 h⟩,fun _=>by omega⟩
   ·rw [if_neg h];exact ⟨fun q=>by have:=Ky l s;omega,fun q=>absurd (ih.2 q.2) h⟩
theorem qp:∀ {l:List ByteArray} {s:ByteArray} {i:Nat} (h:i<l.length),l[i]=s→(∀ j (hj:j<i),l[j]'(by omega)≠s)→bE l s=(i:Nat)
 | x::l,s,0,_,e,_=>by rw [bE,if_pos (show x=s from e)];rfl
 | x :: l, s, i + 1, h, e, hb => by
  have h0:x≠s:=hb 0 (by omega)
  have ih:=qp (l:=l) (s:=s) (i:=i) (by rw [ZJ] at h;omega) e fun j hj=>hb (j+1) (by omega)
  rw [bE,if_neg h0,ih,if_neg (by omega)];omega
theorem z6 {l:List ByteArray} {s:ByteArray} (h:∀ j (hj:j<l.length),l[j]≠s):bE l s = -1:=by
 have h1:=Ky l s
 have h2:bE l s<0:=cm.2 fun hm=>by
  obtain ⟨j,hj,e⟩:=Zs hm
  exact h j hj e
 omega
theorem fE {l:List ByteArray} {s:ByteArray} (h:0≤bE l s):∃ hl:(bE l s).toNat<l.length,l[(bE l s).toNat]=s:=by
 induction l with
 | nil=>simp [bE] at h
 | cons x l ih =>
  by_cases e:x=s
  ·have:bE (x::l) s=0:=by rw [bE,if_pos e]
   rw [this]
   exact ⟨Nat.zero_lt_succ _,e⟩
  ·by_cases h0:bE l s<0
   ·rw [bE,if_neg e,if_pos h0] at h;omega
   ·obtain ⟨hl,hg⟩:=ih (by omega)
    have:bE (x::l) s=bE l s+1:=by rw [bE,if_neg e,if_neg h0]
    have e1:(bE (x::l) s).toNat=(bE l s).toNat+1:=by rw [this];omega
    have key:∀ n,n=(bE l s).toNat+1→∃ hl:n<(x::l).length,(x::l)[n]=s:=fun n hn=>by
     subst hn
     exact ⟨by rw [ZJ];omega,hg⟩
    exact key _ e1
def cC (r:Ro):List ByteArray:=r.sr.map Sr.nm
def cy (r:Ro):List ByteArray:=r.de.map De.nm
def cU (r:Ro):List ByteArray:=r.ti.map Ti.nm
def ef (r:Ro):List ByteArray:=cC r++cy r++cU r
def dW (r:Ro) (s:ByteArray):Int:=if 0≤bE (cy r) s then bE (cy r) s else if 0≤bE (cU r) s then (r.de.length:Nat)+bE (cU r) s else -1
def kq (r:Ro) (s:ByteArray):Int:=if 0≤bE (cy r) s then (r.de.getD (bE (cy r) s).toNat ⟨⟨#[]⟩,0,false⟩).mx else if 0≤bE (cU r) s then (r.ti.getD (bE (cU r) s).toNat ⟨⟨#[]⟩,0,0⟩).fr else -1
def jZ (r:Ro) (s:ByteArray):Int:=if 0≤bE (cC r) s then (r.sr.getD (bE (cC r) s).toNat ⟨⟨#[]⟩,0⟩).mx else if 0≤bE (cU r) s then (r.ti.getD (bE (cU r) s).toNat ⟨⟨#[]⟩,0,0⟩).to else -1
theorem Iu {r:Ro} {s:ByteArray}:dW r s<0↔s ∉ cy r∧s ∉ cU r:=by
 unfold dW
 by_cases h1:bE (cy r) s<0
 ·rw [if_neg (by omega)]
  by_cases h2:bE (cU r) s<0
  ·rw [if_neg (by omega)];exact ⟨fun _=>⟨cm.1 h1,cm.1 h2⟩,fun _=>by omega⟩
  ·rw [if_pos (by omega)];exact ⟨fun h=>by omega,fun h=>absurd (cm.2 h.2) h2⟩
 ·rw [if_pos (by omega)];exact ⟨fun h=>absurd h h1,fun h=>absurd (cm.2 h.1) h1⟩
def sB (po:List Po):Prop:=∀ p∈po,∀ q∈po,p.lv=q.lv→p.ou=q.ou→p=q
theorem sB.filter {po:List Po} (h:sB po) (f:Po→Bool):sB (po.filter f):=fun p hp q hq=>h p (Zv.1 hp).1 q (Zv.1 hq).1
theorem fD {po:List Po} {v:Int} {o i:ByteArray} (h:ez po v o=some i):∃ p∈po,p.lv=v∧p.ou=o∧p.ip=i:=by
 unfold ez at h
 obtain ⟨p,hp,e⟩:=Zah.1 h
 have h1:=List.find?_some hp
 unfold Ee at h1
 rw [Zm,decide_eq_true_eq,decide_eq_true_eq] at h1
 exact ⟨p,List.mem_of_find?_eq_some hp,h1.1,h1.2,e⟩
theorem mZ {po:List Po} (h1:sB po) {p:Po} (hp:p∈po):ez po p.lv p.ou=some p.ip:=by
 cases h:po.find? (Ee p.lv p.ou) with
 | none =>
  have:=ZaH.1 h p hp
  unfold Ee at this
  simp at this
 | some q =>
  have hq:=List.find?_some h
  unfold Ee at hq
  rw [Zm,decide_eq_true_eq,decide_eq_true_eq] at hq
  have:=h1 q (List.mem_of_find?_eq_some h) p hp hq.1 hq.2
  unfold ez
  rw [h,this];rfl
theorem ib {po:List Po} {v:Int} {o:ByteArray}:ez po v o=none↔∀ p∈po,¬(p.lv=v∧p.ou=o):=by
 unfold ez
 rw [Option.map_eq_none_iff,ZaH]
 constructor
 ·intro h p hp hq
  have:=h p hp
  unfold Ee at this
  rw [hq.1,hq.2] at this
  simp at this
 ·intro h p hp
  unfold Ee
  rw [Zm,decide_eq_true_eq,decide_eq_true_eq]
  exact h p hp
theorem Ns {po qo:List Po} (h1:sB po) (hs:∀ p∈qo,p∈po) {v:Int} {o i:ByteArray} (h:ez qo v o=some i):ez po v o=some i:=by
 obtain ⟨p,hp,rfl,rfl,rfl⟩:=fD h
 exact mZ h1 (hs p hp)
inductive Nd (po:List Po) (D:List ByteArray):Po→Prop
 | de {p:Po}:p∈po→p.ou∈D→Nd po D p
 | up {p q:Po}:p∈po→q.lv=p.lv→q.ip=p.ou→Nd po D q→Nd po D p
theorem OT {po S:List Po} {D:List ByteArray} (h1:sB po) (hS:∀ p∈S,p∈po) (hu:∀ p∈S,p.ou∈D∨∃ q∈S,q.lv=p.lv∧q.ip=p.ou) {N:Nat} (hN:∀ v o m,N≤m→eW po v m o=eW po v N o) :
  ∀ n p,p∈S→N-(eW po p.lv N p.ou).length≤n→Nd po D p
 | n, p, hp, hn => by
  rcases hu p hp with hd | ⟨q,hq,hv,hi⟩
  ·exact .de (hS p hp) hd
  ·have oC:=mZ h1 (hS q hq)
   rw [hv,hi] at oC
   have hc:eW po p.lv (N+1) q.ou=p.ou::eW po p.lv N p.ou:=mC oC N
   have hl:(eW po q.lv N q.ou).length=(eW po p.lv N p.ou).length+1:=by
    rw [hv,← hN p.lv q.ou (N+1) (by omega),hc,ZJ]
   have hle:=jU po q.lv N q.ou
   cases n with
   | zero=>omega
   | succ n=>exact .up (hS p hp) hv hi (OT h1 hS hu hN n q hq (by omega))
theorem TX {po S:List Po} {D:List ByteArray} (hk:∀ p∈po,p.ou∈D→p∈S) (eH:∀ p∈po,∀ q∈S,q.lv=p.lv→q.ip=p.ou→p∈S) {p:Po} (h:Nd po D p):p∈S:=by
 induction h with
 | de hp hd=>exact hk _ hp hd
 | up hp hv hi _ ih=>exact eH _ hp _ ih hv hi
theorem Nb {po:List Po} {D:List ByteArray} (h1:sB po) {N:Nat} (hN:∀ v o m,N≤m→eW po v m o=eW po v N o) {f g:Po→Bool}
  (Kk:∀ p∈po,p.ou∈D→f p=true) (Pc:∀ p∈po,∀ q∈po,f q=true→q.lv=p.lv→q.ip=p.ou→f p=true) (Yp:∀ p∈po,f p=true→p.ou∈D∨∃ q∈po,f q=true∧q.lv=p.lv∧q.ip=p.ou)
  (Yl:∀ p∈po,p.ou∈D→g p=true) (Yk:∀ p∈po,∀ q∈po,g q=true→q.lv=p.lv→q.ip=p.ou→g p=true) (Wu:∀ p∈po,g p=true→p.ou∈D∨∃ q∈po,g q=true∧q.lv=p.lv∧q.ip=p.ou):po.filter f=po.filter g:=by
 have key:∀ (f:Po→Bool),(∀ p∈po,p.ou∈D→f p=true)→(∀ p∈po,∀ q∈po,f q=true→q.lv=p.lv→q.ip=p.ou→f p=true)→(∀ p∈po,f p=true→p.ou∈D∨∃ q∈po,f q=true∧q.lv=p.lv∧q.ip=p.ou)→∀ p∈po,(f p=true↔Nd po D p):=by
  intro f h2 h3 h4 p hp
  constructor
  ·intro hf
   refine OT (S:=po.filter f) h1 (fun q hq=>(Zv.1 hq).1) (fun q hq=>?_) hN _ p (Zv.2 ⟨hp,hf⟩) (Zz _)
   obtain ⟨NF,ye⟩:=Zv.1 hq
   rcases h4 q NF ye with h | ⟨x,hx,Wd,T4⟩
   ·exact .inl h
   ·exact .inr ⟨x,Zv.2 ⟨hx,Wd⟩,T4⟩
  ·intro hn
   have:=TX (S:=po.filter f) (fun q hq hd=>Zv.2 ⟨hq,h2 q hq hd⟩) (fun q hq x hx hv hi=>Zv.2 ⟨hq,h3 q hq x (Zv.1 hx).1 (Zv.1 hx).2 hv hi⟩) hn
   exact (Zv.1 this).2
 refine ZaX fun p hp=>?_
 rw [ZaY,key f Kk Pc Yp p hp,key g Yl Yk Wu p hp]
theorem nO {α:Type} {R:α→α→Prop} (has:∀ a b,R a b→¬ R b a):∀ {A B:List α},A.Pairwise R→B.Pairwise R→A.Perm B→A=B
 | [],B,_,_,h=>(List.nil_perm.1 h).symm
 | a::A,[],_,_,h=>absurd h (by intro h;have:=h.length_eq;cases this)
 | a :: A, b :: B, hA, hB, h => by
  rw [ZaS] at hA hB
  have S3:a=b:=by
   apply Classical.byContradiction
   intro hne
   have h1:a∈b::B:=h.mem_iff.1 (by simp)
   have h2:b∈a::A:=h.mem_iff.2 (by simp)
   have h1:a∈B:=(ZR.1 h1).resolve_left hne
   have h2:b∈A:=(ZR.1 h2).resolve_left fun e=>hne e.symm
   exact has _ _ (hA.1 b h2) (hB.1 a h1)
  subst S3
  rw [nO has hA.2 hB.2 (List.Perm.cons_inv h)]
def pG (r:Ro) (p q:Po):Bool:=decide (p.lv<q.lv)||(decide (p.lv=q.lv)&&decide (dW r p.ou<dW r q.ou))
theorem Gi {r:Ro} (p q:Po) (h:pG r p q=true):¬ pG r q p=true:=by
 unfold pG at *
 simp only [ZP,Zm,decide_eq_true_eq] at *
 omega
theorem xU {r:Ro} {p q s:Po} (h1:pG r p q=true) (h2:pG r q s=true):pG r p s=true:=by
 unfold pG at *
 simp only [ZP,Zm,decide_eq_true_eq] at *
 omega
theorem Gh {r:Ro} {p q:Po} (h:¬(p.lv=q.lv∧dW r p.ou=dW r q.ou)):pG r p q=true∨pG r q p=true:=by
 unfold pG
 simp only [ZP,Zm,decide_eq_true_eq]
 omega
def iM (r:Ro) (p:Po):List Po→List Po
 | []=>[p]
 | b::l=>if pG r p b then p::b::l else b::iM r p l
theorem o6 (r:Ro) (p:Po):∀ l,(iM r p l).Perm (p::l)
 | []=>List.Perm.refl _
 | b :: l => by
  rw [iM]
  split
  ·exact List.Perm.refl _
  ·exact ((o6 r p l).cons b).trans (List.Perm.swap p b l)
theorem ia {r:Ro} {p q:Po} {l:List Po}:q∈iM r p l↔q=p∨q∈l:=by rw [(o6 r p l).mem_iff,ZR]
theorem sS {r:Ro} {p:Po}:∀ {l:List Po},l.Pairwise (fun a b=>pG r a b=true)→(∀ q∈l,¬(p.lv=q.lv∧dW r p.ou=dW r q.ou))→(iM r p l).Pairwise (fun a b=>pG r a b=true)
 | [],_,_=>by rw [iM];exact List.pairwise_singleton _ _
 | b :: l, h, hn => by
  rw [ZaS] at h
  rw [iM]
  split
  ·rename_i hb
   rw [ZaS,ZaS]
   refine ⟨fun q hq=>?_,h.1,h.2⟩
   rcases ZR.1 hq with rfl | hq
   ·exact hb
   ·exact xU hb (h.1 q hq)
  ·rename_i hb
   rw [ZaS]
   refine ⟨fun q hq=>?_,sS h.2 fun q hq=>hn q (ZV _ hq)⟩
   rcases ia.1 hq with rfl | hq
   ·rcases Gh (hn b (by simp)) with e | e
    ·exact absurd e hb
    ·exact e
   ·exact h.1 q hq
structure pP (r:Ro):Prop where
 sd:∀ s∈cC r,s ∉ cy r
 st:∀ s∈cC r,s ∉ cU r
 dt:∀ s∈cy r,s ∉ cU r
 Tz:(cU r).length≤6
structure iZ (r:Ro) (po:List Po):Prop where
 qK:po.Pairwise (fun a b=>pG r a b=true)
 LG:∀ p∈po,0≤p.lv∧p.lv<r.lv
 out:∀ p∈po,p.ou∈cy r∨p.ou∈cU r
 xY:∀ p∈po,p.ip∈cC r∨p.ip∈cU r
 OV:∀ p∈po,kq r p.ou=jZ r p.ip
 D6:∀ v,¬ ∃ t∈cU r,t∈eW po v ((cU r).length+1) t
 use:∀ v t,t∈cU r→(ny po v t=true↔jq po v t=true)
theorem iZ.one {r:Ro} {po:List Po} (h:po.Pairwise (fun a b=>pG r a b=true)):sB po:=by
 intro p hp q hq hv ho
 apply Classical.byContradiction
 intro hne
 obtain ⟨i,hi,rfl⟩:=Zs hp
 obtain ⟨j,hj,rfl⟩:=Zs hq
 rw [Z5] at h
 rcases Zak i j with e | e | e
 ·have:=h i j hi hj e
  unfold pG at this
  simp only [ZP,Zm,decide_eq_true_eq] at this
  rw [ho] at this
  omega
 ·subst e;exact hne rfl
 ·have:=h j i hj hi e
  unfold pG at this
  simp only [ZP,Zm,decide_eq_true_eq] at this
  rw [ho] at this
  omega
theorem iZ.tie {r:Ro} {po:List Po} (hn:pP r) (h2:∀ p∈po,p.ou∈cy r∨p.ou∈cU r) (h3:∀ p∈po,p.ip∈cC r∨p.ip∈cU r) {v:Int}:∀ o i,ez po v o=some i→(ez po v i).isSome=true→i∈cU r:=by
 intro o i h hi
 obtain ⟨p,hp,_,_,rfl⟩:=fD h
 rcases h3 p hp with hs | ht
 ·obtain ⟨j,hj⟩:=Zac.1 hi
  obtain ⟨q,hq,_,O2,_⟩:=fD hj
  rcases h2 q hq with hd | hd
  ·exact absurd (O2 ▸ hd) (hn.sd _ hs)
  ·exact absurd (O2 ▸ hd) (hn.st _ hs)
 ·exact ht
def iz (po:List Po) (v:Int) (k:Nat) (o:ByteArray):ByteArray:=((eW po v k o).getLast?).getD o
def rB (po:List Po) (v:Int) (S:List ByteArray) (o:ByteArray):ByteArray:=if bE S (iz po v 7 o)<0 then ⟨#[]⟩ else iz po v 7 o
theorem yp {po:List Po} {v:Int} {k:Nat} {o i:ByteArray} (h:ez po v o=some i):iz po v (k+1) o=iz po v k i:=by
 unfold iz
 rw [mC h,List.getLast?_cons]
 rfl
theorem si {po:List Po} {v:Int} {k:Nat} {o:ByteArray} (h:ez po v o=none):iz po v k o=o:=by
 unfold iz
 rw [vH h];rfl
theorem GQ {r:Ro} {po:List Po} (hn:pP r) (h:iZ r po) (v:Int) (o:ByteArray):iz po v ((cU r).length+1) o=iz po v 7 o:=by
 have:=hn.Tz
 unfold iz
 rw [pe (T:=cU r) (iZ.tie hn h.out h.xY) (h.D6 v) o (m:=7) (by omega)]
theorem Ow {r:Ro} {po:List Po} (hn:pP r) (h:iZ r po) {v:Int}:∀ (k:Nat) (o:ByteArray),(eW po v 7 o).length≤k→(ez po v o).isSome=true→iz po v 7 o∈cC r:=by
 have h6:=hn.Tz
 have hs:=fun o m hm=>pe (T:=cU r) (iZ.tie hn h.out h.xY) (h.D6 v) o (m:=m) hm
 intro k
 induction k with
 | zero =>
  intro o hk ho
  obtain ⟨i,hi⟩:=Zac.1 ho
  rw [mC hi,ZJ] at hk
  omega
 | succ k ih =>
  intro o hk ho
  obtain ⟨i,hi⟩:=Zac.1 ho
  have e1:iz po v 7 o=iz po v 7 i:=by
   have:iz po v 8 o=iz po v 7 i:=yp hi
   unfold iz at this ⊢
   rw [hs o 8 (by omega)] at this
   rw [hs o 7 (by omega)]
   exact this
  rw [e1]
  cases Hb:ez po v i with
  | none =>
   rw [si Hb]
   obtain ⟨p,hp,LK,_,rfl⟩:=fD hi
   rcases h.xY p hp with hS | hT
   ·exact hS
   ·have hu:ny po v p.ip=true:=by
     unfold ny
     rw [ZM]
     exact ⟨p,hp,by unfold zK;rw [LK];simp⟩
    have:=(h.use v p.ip hT).1 hu
    unfold jq at this
    rw [Hb] at this
    cases this
  | some j =>
   refine ih i ?_ (by rw [Hb];rfl)
   have:(eW po v 8 o).length=(eW po v 7 i).length+1:=by rw [mC hi,ZJ]
   rw [hs o 8 (by omega),← hs o 7 (by omega)] at this
   omega
theorem yt {r:Ro} {po:List Po} (hn:pP r) (h:iZ r po) {v:Int} {o:ByteArray} (ho:(ez po v o).isSome=true):rB po v (cC r) o=iz po v 7 o:=by
 unfold rB;rw [if_neg fun e=>cm.1 e (Ow hn h _ o (Zz _) ho)]
theorem G1 {r:Ro} {po:List Po} {v:Int} {o:ByteArray} (hs:o ∉ cC r) (ho:ez po v o=none):rB po v (cC r) o=⟨#[]⟩:=by
 unfold rB;rw [si ho,if_pos (cm.2 hs)]
theorem Ak {po qo:List Po} (h1:sB po) (hs:∀ p∈qo,p∈po) {v:Int}:∀ {k:Nat} {o x:ByteArray},x∈eW qo v k o→x∈eW po v k o
 | 0,_,_,h=>by cases h
 | k + 1, o, x, h => by
  rw [eW] at h
  cases hi:ez qo v o with
  | none=>rw [hi] at h;cases h
  | some i =>
   rw [hi] at h
   rw [mC (Ns h1 hs hi)]
   rcases ZR.1 h with rfl | h
   ·exact Zt
   ·exact ZV _ (Ak h1 hs h)
theorem iZ.filter {r:Ro} {po:List Po} (hn:pP r) (h:iZ r po) (f:Po→Bool) (h2:∀ p∈po,p.ou∈cU r→∀ q∈po,f q=true→q.lv=p.lv→q.ip=p.ou→f p=true) (h3:∀ p∈po,p.ou∈cU r→f p=true→∃ q∈po,f q=true∧q.lv=p.lv∧q.ip=p.ou):iZ r (po.filter f):=by
 have iN:∀ p∈po.filter f,p∈po:=fun p hp=>(Zv.1 hp).1
 have h1:=iZ.one h.qK
 refine ⟨h.qK.filter f,fun p hp=>h.LG p (iN p hp),fun p hp=>h.out p (iN p hp),fun p hp=>h.xY p (iN p hp),fun p hp=>h.OV p (iN p hp),fun v=>?_,fun v t ht=>?_⟩
 ·rintro ⟨t,ht,hc⟩
  exact h.D6 v ⟨t,ht,Ak h1 iN hc⟩
 ·constructor
  ·intro hu
   unfold ny at hu
   rw [ZM] at hu
   obtain ⟨q,hq,ND⟩:=hu
   unfold zK at ND
   rw [Zm,decide_eq_true_eq,decide_eq_true_eq] at ND
   obtain ⟨NF,ye⟩:=Zv.1 hq
   have hb:=(h.use v t ht).1 (by unfold ny;rw [ZM];exact ⟨q,NF,by unfold zK;rw [ND.1,ND.2];simp⟩)
   unfold jq at hb
   obtain ⟨i,hi⟩:=Zac.1 hb
   obtain ⟨p,hp,LK,qE,rfl⟩:=fD hi
   have hf:=h2 p hp (qE ▸ ht) q NF ye (ND.1.trans LK.symm) (ND.2.trans qE.symm)
   have:=mZ (h1.filter f) (Zv.2 ⟨hp,hf⟩)
   rw [LK,qE] at this
   unfold jq
   rw [this];rfl
  ·intro hb
   unfold jq at hb
   obtain ⟨i,hi⟩:=Zac.1 hb
   obtain ⟨p,hp,LK,qE,rfl⟩:=fD hi
   obtain ⟨vZ,Gw⟩:=Zv.1 hp
   obtain ⟨q,hq,ye,Ur,XH⟩:=h3 p vZ (qE ▸ ht) Gw
   unfold ny
   rw [ZM]
   exact ⟨q,Zv.2 ⟨hq,ye⟩,by unfold zK;rw [Ur,XH,LK,qE];simp⟩
theorem z7 {l:List ByteArray} {s:ByteArray} (h:0≤bE l s):bE l s<(l.length:Nat):=by
 obtain ⟨hl,_⟩:=fE h
 omega
theorem Fg {l:List ByteArray} {a b:ByteArray} (ha:0≤bE l a) (h:bE l a=bE l b):a=b:=by
 obtain ⟨h1,e1⟩:=fE ha
 obtain ⟨h2,e2⟩:=fE (l:=l) (s:=b) (by omega)
 rw [← e1,← e2]
 have:(bE l a).toNat=(bE l b).toNat:=by rw [h]
 simp only [this]
theorem Iv {r:Ro} {a b:ByteArray} (ha:a∈cy r∨a∈cU r) (hb:b∈cy r∨b∈cU r) (h:dW r a=dW r b):a=b:=by
 have hd:(cy r).length=r.de.length:=by unfold cy;rw [Zd]
 unfold dW at h
 by_cases a1:0≤bE (cy r) a
 ·have:=z7 a1
  by_cases b1:0≤bE (cy r) b
  ·rw [if_pos a1,if_pos b1] at h
   exact Fg a1 h
  ·by_cases b2:0≤bE (cU r) b
   ·rw [if_pos a1,if_neg b1,if_pos b2] at h;omega
   ·rcases hb with hb | hb
    ·exact absurd hb (cm.1 (by omega))
    ·exact absurd hb (cm.1 (by omega))
 ·by_cases a2:0≤bE (cU r) a
  ·by_cases b1:0≤bE (cy r) b
   ·have:=z7 b1
    rw [if_neg a1,if_pos a2,if_pos b1] at h;omega
   ·by_cases b2:0≤bE (cU r) b
    ·rw [if_neg a1,if_pos a2,if_neg b1,if_pos b2] at h
     exact Fg a2 (by omega)
    ·rcases hb with hb | hb
     ·exact absurd hb (cm.1 (by omega))
     ·exact absurd hb (cm.1 (by omega))
  ·rcases ha with ha | ha
   ·exact absurd ha (cm.1 (by omega))
   ·exact absurd ha (cm.1 (by omega))
structure qC (r:Ro) (po:List Po) (v:Int) (x:ByteArray):Prop where
 qK:po.Pairwise (fun a b=>pG r a b=true)
 LG:∀ p∈po,0≤p.lv∧p.lv<r.lv
 out:∀ p∈po,p.ou∈cy r∨p.ou∈cU r
 xY:∀ p∈po,p.ip∈cC r∨p.ip∈cU r
 OV:∀ p∈po,kq r p.ou=jZ r p.ip
 D6:∀ v,¬ ∃ t∈cU r,t∈eW po v ((cU r).length+1) t
 use:∀ u t,t∈cU r→(u=v∧t=x)∨(ny po u t=true↔jq po u t=true)
 WM:x∈cU r→jq po v x=true
theorem iZ.TU {r:Ro} {po:List Po} {v:Int} {x:ByteArray} (h:iZ r po) (hb:x∈cU r→jq po v x=true):qC r po v x:=⟨h.qK,h.LG,h.out,h.xY,h.OV,h.D6,fun u t ht=>.inr (h.use u t ht),hb⟩
theorem qC.val {r:Ro} {po:List Po} {v:Int} {x:ByteArray} (h:qC r po v x) (hx:x ∉ cU r):iZ r po:=⟨h.qK,h.LG,h.out,h.xY,h.OV,h.D6,fun u t ht=>(h.use u t ht).resolve_left fun e=>hx (e.2 ▸ ht)⟩
theorem oA {r:Ro} {po:List Po} {p:Po} (hs:po.Pairwise (fun a b=>pG r a b=true)) (ho:∀ q∈po,q.ou∈cy r∨q.ou∈cU r) (hp:p.ou∈cy r∨p.ou∈cU r) (XY:ez po p.lv p.ou=none):(iM r p po).Pairwise (fun a b=>pG r a b=true):=
 sS hs fun q hq e=>ib.1 XY q hq ⟨e.1.symm,(Iv hp (ho q hq) e.2).symm⟩
theorem ri {r:Ro} {po:List Po} {p:Po} (h1:sB (iM r p po)) (h0:sB po) (v:Int) (o:ByteArray):ez (iM r p po) v o=if p.lv=v∧p.ou=o then some p.ip else ez po v o:=by
 by_cases h:p.lv=v∧p.ou=o
 ·rw [if_pos h]
  have:=mZ h1 (ia.2 (.inl rfl):p∈iM r p po)
  rwa [h.1,h.2] at this
 ·rw [if_neg h]
  cases hi:ez po v o with
  | none =>
   rw [ib]
   intro q hq
   rcases ia.1 hq with rfl | hq
   ·exact h
   ·exact ib.1 hi q hq
  | some i =>
   obtain ⟨q,hq,rfl,rfl,rfl⟩:=fD hi
   exact mZ h1 (ia.2 (.inr hq))
theorem qC.add {r:Ro} {po:List Po} {v:Int} {x o:ByteArray} (hn:pP r) (h:qC r po v x) (hv:0≤v∧v<r.lv) (hx:x∈cC r∨x∈cU r) (ho:o∈cy r∨o∈cU r) (eP:ez po v o=none) (hm:kq r o=jZ r x):qC r (iM r ⟨v,o,x⟩ po) v o:=by
 have hs:=oA (p:=⟨v,o,x⟩) h.qK h.out ho eP
 have h1:=iZ.one hs
 have h0:=iZ.one h.qK
 have oC:=ri (p:=⟨v,o,x⟩) h1 h0
 have sT:x≠o:=by
  intro e
  subst e
  rcases hx with hx | hx
  ·rcases ho with ho | ho
   ·exact hn.sd _ hx ho
   ·exact hn.st _ hx ho
  ·have:=h.WM hx
   unfold jq at this
   rw [eP] at this
   cases this
 -- no one abx AD new output
 have pH:∀ u,ez po v u≠some o:=by
  intro u hu
  obtain ⟨q,hq,LJ,_,O3⟩:=fD hu
  rcases ho with ho | ho
  ·rcases h.xY q hq with hS | hT
   ·exact hn.sd _ (O3 ▸ hS) ho
   ·exact hn.dt _ ho (O3 ▸ hT)
  ·rcases h.use v o ho with e | e
   ·exact sT e.2.symm
   ·have:ny po v o=true:=by
     unfold ny
     rw [ZM]
     exact ⟨q,hq,by unfold zK;rw [LJ,O3];simp⟩
    have:=e.1 this
    unfold jq at this
    rw [eP] at this
    cases this
 have fW:∀ u y,ez (iM r ⟨v,o,x⟩ po) v u=some y→y≠o:=by
  intro u y hu e
  subst e
  rw [oC] at hu
  split at hu
  ·exact sT (Option.some.inj hu)
  ·exact pH u hu
 refine ⟨hs,fun p hp=>?_,fun p hp=>?_,fun p hp=>?_,fun p hp=>?_,fun w=>?_,fun u t ht=>?_,fun _=>?_⟩
 ·rcases ia.1 hp with rfl | hp
  ·exact hv
  ·exact h.LG p hp
 ·rcases ia.1 hp with rfl | hp
  ·exact ho
  ·exact h.out p hp
 ·rcases ia.1 hp with rfl | hp
  ·exact hx
  ·exact h.xY p hp
 ·rcases ia.1 hp with rfl | hp
  ·exact hm
  ·exact h.OV p hp
 ·rintro ⟨t,ht,hc⟩
  obtain ⟨j,hj,he⟩:=tU.1 hc
  -- AD way round is one of AD BA points
  have key:∀ k y z,(w=v→y≠o)→mg (iM r ⟨v,o,x⟩ po) w k y=some z→mg po w k y=some z:=by
   intro k
   induction k with
   | zero=>intro y z _ h;exact h
   | succ k ih =>
    intro y z hy hz
    rw [mg] at hz ⊢
    have e1:ez (iM r ⟨v,o,x⟩ po) w y=ez po w y:=by
     rw [oC,if_neg fun e=>hy e.1.symm e.2.symm]
    cases hi:ez po w y with
    | none=>rw [e1,hi] at hz;cases hz
    | some u =>
     rw [e1,hi] at hz
     refine ih u z (fun e q=>?_) hz
     subst e q
     exact fW y u (by rw [e1];exact hi) rfl
  refine h.D6 w ⟨t,ht,tU.2 ⟨j,hj,key (j+1) t t (fun e q=>?_) he⟩⟩
  subst e q
  obtain ⟨u,hu,Uc⟩:∃ u,mg (iM r ⟨w,t,x⟩ po) w j t=some u∧ez (iM r ⟨w,t,x⟩ po) w u=some t:=by
   rw [jS] at he
   cases hq:mg (iM r ⟨w,t,x⟩ po) w j t with
   | none=>rw [hq] at he;cases he
   | some u =>
    rw [hq] at he
    exact ⟨u,rfl,by simpa [mg] using he⟩
  exact fW u t Uc rfl
 ·by_cases e:u=v∧t=o
  ·exact .inl e
  ·refine .inr ?_
   have hb:jq (iM r ⟨v,o,x⟩ po) u t=jq po u t:=by
    unfold jq
    rw [oC,if_neg fun q=>e ⟨q.1.symm,q.2.symm⟩]
   have hu:ny (iM r ⟨v,o,x⟩ po) u t=true↔(u=v∧t=x)∨ny po u t=true:=by
    unfold ny
    rw [ZM,ZM]
    constructor
    ·rintro ⟨q,hq,ye⟩
     rcases ia.1 hq with rfl | hq
     ·unfold zK at ye
      rw [Zm,decide_eq_true_eq,decide_eq_true_eq] at ye
      exact .inl ⟨ye.1.symm,ye.2.symm⟩
     ·exact .inr ⟨q,hq,ye⟩
    ·rintro (⟨rfl,rfl⟩ | ⟨q,hq,ye⟩)
     ·exact ⟨_,ia.2 (.inl rfl),by unfold zK;simp⟩
     ·exact ⟨q,ia.2 (.inr hq),ye⟩
   rw [hb,hu]
   rcases h.use u t ht with ex | ex
   ·obtain ⟨rfl,rfl⟩:=ex
    exact ⟨fun _=>h.WM ht,fun _=>.inl ⟨rfl,rfl⟩⟩
   ·constructor
    ·rintro (⟨rfl,rfl⟩ | q)
     ·exact h.WM ht
     ·exact ex.1 q
    ·exact fun q=>.inr (ex.2 q)
 ·unfold jq
  rw [oC,if_pos ⟨rfl,rfl⟩];rfl
theorem qC.ne {r:Ro} {po:List Po} {v:Int} {x o:ByteArray} (hn:pP r) (h:qC r po v x) (hx:x∈cC r∨x∈cU r) (ho:o∈cy r∨o∈cU r) (eP:ez po v o=none):x≠o:=by
 intro e
 subst e
 rcases hx with hx | hx
 ·rcases ho with ho | ho
  ·exact hn.sd _ hx ho
  ·exact hn.st _ hx ho
 ·have:=h.WM hx
  unfold jq at this
  rw [eP] at this
  cases this
theorem qC.unused {r:Ro} {po:List Po} {v:Int} {x o:ByteArray} (hn:pP r) (h:qC r po v x) (hx:x∈cC r∨x∈cU r) (ho:o∈cy r∨o∈cU r) (eP:ez po v o=none):∀ u,ez po v u≠some o:=by
 have sT:=h.ne hn hx ho eP
 intro u hu
 obtain ⟨q,hq,LJ,_,O3⟩:=fD hu
 rcases ho with ho | ho
 ·rcases h.xY q hq with hS | hT
  ·exact hn.sd _ (O3 ▸ hS) ho
  ·exact hn.dt _ ho (O3 ▸ hT)
 ·rcases h.use v o ho with e | e
  ·exact sT e.2.symm
  ·have:ny po v o=true:=by
    unfold ny
    rw [ZM]
    exact ⟨q,hq,by unfold zK;rw [LJ,O3];simp⟩
   have:=e.1 this
   unfold jq at this
   rw [eP] at this
   cases this
theorem Al {r:Ro} {po:List Po} {v:Int} {x o:ByteArray} (hn:pP r) (h:qC r po v x) (hx:x∈cC r∨x∈cU r) (ho:o∈cy r∨o∈cU r) (eP:ez po v o=none) {w:Int}:∀ {k:Nat} {y:ByteArray},¬(w=v∧y=o)→eW (iM r ⟨v,o,x⟩ po) w k y=eW po w k y
 | 0,_,_=>rfl
 | k + 1, y, hy => by
  have hs:=oA (p:=⟨v,o,x⟩) h.qK h.out ho eP
  have e1:ez (iM r ⟨v,o,x⟩ po) w y=ez po w y:=by
   rw [ri (p:=⟨v,o,x⟩) (iZ.one hs) (iZ.one h.qK),if_neg fun e=>hy ⟨e.1.symm,e.2.symm⟩]
  rw [eW,eW,e1]
  cases hi:ez po w y with
  | none=>rfl
  | some u =>
   show u::_=u::_
   rw [Al hn h hx ho eP fun e=>by
    obtain ⟨rfl,rfl⟩:=e
    exact h.unused hn hx ho eP y hi]
theorem Fv {r:Ro} {po:List Po} {v:Int} {x o:ByteArray} (hn:pP r) (h:qC r po v x) (hx:x∈cC r∨x∈cU r) (ho:o∈cy r∨o∈cU r) (eP:ez po v o=none) {w:Int} {y:ByteArray} (hy:¬(w=v∧y=o)) {S:List ByteArray}:rB (iM r ⟨v,o,x⟩ po) w S y=rB po w S y:=by
 unfold rB iz
 rw [Al hn h hx ho eP hy]
theorem Cc {r:Ro} {po:List Po} {v:Int} {x o:ByteArray} (hn:pP r) (h:qC r po v x) (hv:0≤v∧v<r.lv) (hx:x∈cC r∨x∈cU r) (ho:o∈cy r∨o∈cU r) (eP:ez po v o=none) (hm:kq r o=jZ r x):iz (iM r ⟨v,o,x⟩ po) v 7 o=iz po v 7 x:=by
 have h6:=hn.Tz
 have hA:=h.add hn hv hx ho eP hm
 have hs:=oA (p:=⟨v,o,x⟩) h.qK h.out ho eP
 have oC:ez (iM r ⟨v,o,x⟩ po) v o=some x:=by
  rw [ri (p:=⟨v,o,x⟩) (iZ.one hs) (iZ.one h.qK),if_pos ⟨rfl,rfl⟩]
 have hsh:=fun m hm=>pe (T:=cU r) (iZ.tie hn hA.out hA.xY) (hA.D6 v) o (m:=m) hm
 have e8:iz (iM r ⟨v,o,x⟩ po) v 8 o=iz (iM r ⟨v,o,x⟩ po) v 7 x:=yp oC
 have e7:iz (iM r ⟨v,o,x⟩ po) v 7 o=iz (iM r ⟨v,o,x⟩ po) v 8 o:=by
  unfold iz
  rw [hsh 7 (by omega),hsh 8 (by omega)]
 rw [e7,e8]
 unfold iz
 rw [Al hn h hx ho eP fun e=>h.ne hn hx ho eP e.2]
theorem vI {po:List Po} (h1:sB po) {f:Po→Bool} (fH:∀ q∈po,f q=true→∀ p∈po,p.lv=q.lv→p.ou=q.ip→f p=true) {v:Int}:∀ {k:Nat} {y:ByteArray},(∀ p∈po,p.lv=v→p.ou=y→f p=true)→eW (po.filter f) v k y=eW po v k y
 | 0,_,_=>rfl
 | k + 1, y, hy => by
  rw [eW,eW]
  cases hi:ez po v y with
  | none =>
   have:ez (po.filter f) v y=none:=ib.2 fun p hp=>ib.1 hi p (Zv.1 hp).1
   rw [this]
  | some u =>
   obtain ⟨q,hq,LJ,O2,rfl⟩:=fD hi
   have hf:=hy q hq LJ O2
   have:ez (po.filter f) v y=some q.ip:=by
    have:=mZ (h1.filter f) (Zv.2 ⟨hq,hf⟩)
    rwa [LJ,O2] at this
   rw [this]
   show q.ip::_=q.ip::_
   rw [vI h1 fH fun p hp LK qE=>fH q hq hf p hp (LK.trans LJ.symm) qE]
end Go.Proofs.A1
