/- Parts of the proof: GkCore GkOps P5w S1p P5a P5b P5c P5d P5e P5f P5g. -/
import Derived.RangeFuncRecord
import Derived.OrdersIn
import Derived.KernelRfl
import Derived.Below
import Derived.IntWalk
import Derived.Laws.Strings
set_option linter.unusedSectionVars false
set_option linter.unusedVariables false
set_option linter.unusedSimpArgs false
namespace Go.SL
open Go
open Go.RowKit (Below)
theorem Za {α:Type _} (as:List α):[]++as=as:=rfl
theorem Zb:type_of% @List.cons_append:=rfl
theorem Zc:type_of% @List.getElem?_eq_getElem:=List.getElem?_eq_getElem
theorem Zd:type_of% @List.length_map:=@List.length_map
theorem Ze:type_of% @List.take_zero:=rfl
theorem Zf:type_of% @List.map_nil:=rfl
theorem Zg:type_of% @List.length_append:=@List.length_append
theorem Zh:type_of% @List.append_assoc:=@List.append_assoc
theorem Zi:type_of% @Nat.zero_le:=@Nat.zero_le
theorem Zj:type_of% @List.getElem_mem:=@List.getElem_mem
theorem Zk:type_of% @List.getD_eq_getElem?_getD:=@List.getD_eq_getElem?_getD
theorem Zl:type_of% @List.getElem?_eq_some_iff:=@List.getElem?_eq_some_iff
theorem Zm:type_of% @Bool.and_eq_true:=@Bool.and_eq_true
theorem Zn:type_of% @List.take_succ_eq_append_getElem:=@List.take_succ_eq_append_getElem
theorem Zo:type_of% @Decidable.not_not:=@Decidable.not_not
theorem Zp:type_of% @List.not_mem_nil:=@List.not_mem_nil
theorem Zq:type_of% @List.mem_cons_self:=@List.mem_cons_self
theorem Zr:type_of% @List.length_take:=@List.length_take
theorem Zs:type_of% @List.map_append:=@List.map_append
theorem Zt:type_of% @List.mem_map:=@List.mem_map
theorem Zu:type_of% @List.getElem_of_mem:=@List.getElem_of_mem
theorem Zv:type_of% @List.mem_filter:=@List.mem_filter
theorem Zw:type_of% @List.drop_eq_getElem_cons:=@List.drop_eq_getElem_cons
theorem Zx:type_of% @List.mem_append:=@List.mem_append
theorem Zy:type_of% @Array.getD_eq_getD_getElem?:=@Array.getD_eq_getD_getElem?
theorem Zz:type_of% @Nat.le_refl:=@Nat.le_refl
theorem ZA:type_of% @List.forall_mem_cons:=@List.forall_mem_cons
theorem ZB:type_of% @List.mem_singleton:=@List.mem_singleton
theorem ZC:type_of% @Nat.zero_add:=@Nat.zero_add
theorem ZD:type_of% @List.getElem?_append_left:=@List.getElem?_append_left
theorem ZE:type_of% @List.mem_append_left:=@List.mem_append_left
theorem ZF:type_of% @List.getElem?_map:=@List.getElem?_map
theorem ZG:type_of% @List.getElem?_take:=@List.getElem?_take
theorem ZH:type_of% @List.nodup_append:=@List.nodup_append
theorem ZI:type_of% @Int.toNat_natCast:=@Int.toNat_natCast
theorem ZJ:type_of% @Array.getElem?_setIfInBounds_ne:=@Array.getElem?_setIfInBounds_ne
theorem ZK:type_of% @List.getElem?_append_right:=@List.getElem?_append_right
theorem ZL:type_of% @List.length_cons:=@List.length_cons
theorem ZM:type_of% @List.any_eq_true:=@List.any_eq_true
theorem ZN:type_of% @List.take_length:=@List.take_length
theorem ZO:type_of% @Bool.or_eq_true:=@Bool.or_eq_true
theorem ZP:type_of% @Nat.not_lt_zero:=@Nat.not_lt_zero
theorem ZQ:type_of% @List.mem_range:=@List.mem_range
theorem ZR:type_of% @Nat.lt_of_not_le:=@Nat.lt_of_not_le
theorem ZS:type_of% @List.mem_cons:=@List.mem_cons
theorem ZT:type_of% @List.mem_append_right:=@List.mem_append_right
theorem ZU:type_of% @List.append_nil:=@List.append_nil
theorem ZV:type_of% @List.mem_of_getElem?:=@List.mem_of_getElem?
theorem ZW:type_of% @List.mem_cons_of_mem:=@List.mem_cons_of_mem
theorem ZX:type_of% @Nat.le_trans:=@Nat.le_trans
theorem ZY:type_of% @Array.getElem?_eq_some_iff:=@Array.getElem?_eq_some_iff
theorem ZZ:type_of% @List.take_append_drop:=@List.take_append_drop
theorem Z0:type_of% @List.eq_nil_of_length_eq_zero:=@List.eq_nil_of_length_eq_zero
theorem Z1:type_of% @List.getElem_map:=@List.getElem_map
theorem Z2:type_of% @Nat.blt_eq:=@Nat.blt_eq
theorem Z3:type_of% @List.mem_map_of_mem:=@List.mem_map_of_mem
theorem Z4:type_of% @List.pairwise_iff_getElem:=@List.pairwise_iff_getElem
theorem Z5:type_of% @List.drop_length:=@List.drop_length
theorem Z6:type_of% @List.length_filter_le:=@List.length_filter_le
theorem Z7:type_of% @Nat.mul_le_mul_right:=@Nat.mul_le_mul_right
theorem Z8:type_of% @List.map_cons:=@List.map_cons
theorem Z9:type_of% @List.any_eq_false:=@List.any_eq_false
theorem Zaa:type_of% @List.all_eq_true:=@List.all_eq_true
theorem Zab:type_of% @Option.getD_some:=@Option.getD_some
theorem Zac:type_of% @List.flatten_append:=@List.flatten_append
theorem Zad:type_of% @Option.isSome_iff_exists:=@Option.isSome_iff_exists
theorem Zae:type_of% @List.take_append_of_le_length:=@List.take_append_of_le_length
theorem Zaf:type_of% @Nat.succ_mul:=@Nat.succ_mul
theorem Zag:type_of% @Nat.eq_of_beq_eq_true:=@Nat.eq_of_beq_eq_true
theorem Zah:type_of% @List.getElem?_eq_none:=@List.getElem?_eq_none
theorem Zai:type_of% @List.length_nil:=@List.length_nil
theorem Zaj:type_of% @List.nodup_nil:=@List.nodup_nil
theorem Zak:type_of% @Option.map_eq_some_iff:=@Option.map_eq_some_iff
theorem Zal:type_of% @List.take_of_length_le:=@List.take_of_length_le
theorem Zam:type_of% @Nat.lt_trichotomy:=@Nat.lt_trichotomy
theorem Zan:type_of% @List.length_eq_zero_iff:=@List.length_eq_zero_iff
theorem Zao:type_of% @List.getElem_append_right:=@List.getElem_append_right
theorem Zap:type_of% @List.ext_getElem?:=@List.ext_getElem?
theorem Zaq:type_of% @Nat.mul_one:=@Nat.mul_one
theorem Zar:type_of% @Array.getElem?_eq_getElem:=@Array.getElem?_eq_getElem
theorem Zas:type_of% @Nat.add_sub_cancel:=@Nat.add_sub_cancel
theorem Zat:type_of% @List.getElem_append_left:=@List.getElem_append_left
theorem Zau:type_of% @Bool.not_eq_true:=@Bool.not_eq_true
theorem Zav:type_of% @Nat.le_of_ble_eq_true:=@Nat.le_of_ble_eq_true
theorem Zaw:type_of% @Nat.add_zero:=@Nat.add_zero
theorem Zax:type_of% @Nat.succ_le_of_lt:=@Nat.succ_le_of_lt
theorem Zay:type_of% @List.getElem?_cons_zero:=@List.getElem?_cons_zero
theorem Zaz:type_of% @List.perm_ext_iff_of_nodup:=@List.perm_ext_iff_of_nodup
theorem ZaA:type_of% @Bool.true_and:=@Bool.true_and
theorem ZaB:type_of% @List.find?_eq_some_iff_getElem:=@List.find?_eq_some_iff_getElem
theorem ZaC:type_of% @List.flatten_cons:=@List.flatten_cons
theorem ZaD:type_of% @Array.getElem?_toList:=@Array.getElem?_toList
theorem ZaE:type_of% @List.length_singleton:=@List.length_singleton
theorem ZaF:type_of% @List.length_erase_of_mem:=@List.length_erase_of_mem
theorem ZaG:type_of% @List.sublist_append_left:=@List.sublist_append_left
theorem ZaH:type_of% @List.map_map:=@List.map_map
theorem ZaI:type_of% @Nat.lt_of_lt_of_le:=@Nat.lt_of_lt_of_le
theorem ZaJ:type_of% @List.find?_eq_none:=@List.find?_eq_none
theorem ZaK:type_of% @List.length_take_of_le:=@List.length_take_of_le
theorem ZaL:type_of% @List.getElem_take:=@List.getElem_take
theorem ZaM:type_of% @List.mem_range'_1:=@List.mem_range'_1
theorem ZaN:type_of% @List.length_range:=@List.length_range
theorem ZaO:type_of% @Array.length_toList:=@Array.length_toList
theorem ZaP:type_of% @List.filter_eq_self:=@List.filter_eq_self
theorem ZaQ:type_of% @List.sublist_append_right:=@List.sublist_append_right
theorem ZaR:type_of% @List.mem_of_find?_eq_some:=@List.mem_of_find?_eq_some
theorem ZaS:type_of% @Nat.le_of_not_lt:=@Nat.le_of_not_lt
theorem ZaT:type_of% @Bool.false_eq_true:=@Bool.false_eq_true
theorem ZaU:type_of% @List.pairwise_cons:=@List.pairwise_cons
theorem ZaV:type_of% @List.map_take:=@List.map_take
theorem ZaW:type_of% @Array.toArray_toList:=@Array.toArray_toList
theorem ZaX:type_of% @List.getElem?_cons_succ:=@List.getElem?_cons_succ
theorem ZaY:type_of% @Bool.eq_false_iff:=@Bool.eq_false_iff
theorem ZaZ:type_of% @List.filter_congr:=@List.filter_congr
theorem Zba:type_of% @Bool.eq_iff_iff:=@Bool.eq_iff_iff
theorem Zbb:type_of% @List.map_congr_left:=@List.map_congr_left
theorem Zbc:type_of% @List.drop_of_length_le:=@List.drop_of_length_le
theorem Zbd:type_of% @List.length_drop:=@List.length_drop
theorem Zbe:type_of% @List.drop_drop:=@List.drop_drop
theorem Zbf:type_of% @List.getElem?_drop:=@List.getElem?_drop
theorem Zbg:type_of% @List.filter_append:=@List.filter_append
theorem Zbh:type_of% @List.prefix_append:=@List.prefix_append
theorem Zbi:type_of% @Array.getElem?_modify:=@Array.getElem?_modify
theorem Zbj:type_of% @List.contains_iff_mem:=@List.contains_iff_mem
theorem Zbk:type_of% @Nat.min_eq_left:=@Nat.min_eq_left
theorem Zbl:type_of% @Option.map_some:=@Option.map_some
theorem Zbm:type_of% @List.size_toArray:=@List.size_toArray
theorem Zbn:type_of% @List.mem_of_mem_take:=@List.mem_of_mem_take
theorem Zbo:type_of% @Nat.lt_or_ge:=@Nat.lt_or_ge
theorem Zbp:type_of% @Bool.not_eq_true':=@Bool.not_eq_true'
theorem Zbq:type_of% @Nat.mul_le_mul_left:=@Nat.mul_le_mul_left
theorem Zbr:type_of% @List.filter_cons_of_pos:=@List.filter_cons_of_pos
theorem Zbs:type_of% @List.nodup_range:=@List.nodup_range
theorem Zbt:type_of% @Array.getElem?_eq_none:=@Array.getElem?_eq_none
theorem Zbu:type_of% @Nat.zero_mul:=@Nat.zero_mul
theorem Zbv:type_of% @List.length_range':=@List.length_range'
theorem Zbw:type_of% @List.getElem_range:=@List.getElem_range
theorem Zbx:type_of% @List.filter_filter:=@List.filter_filter
theorem Zby:type_of% @List.range_succ:=@List.range_succ
theorem Zbz:type_of% @List.nodup_range':=@List.nodup_range'
theorem ZbA:type_of% @List.pairwise_map:=@List.pairwise_map
abbrev aH:=List (Nat×Value)
def cS:aH→Nat→Option Value
 | [],_=>none
 | (t,v)::r,k=>bif Nat.beq t k then some v else cS r k
theorem fC {t k:Nat} {v:Value} {r:aH} (h:t≠k):cS ((t,v)::r) k=cS r k:=by
 have:Nat.beq t k=false:=by
  cases hb:Nat.beq t k with
  | false=>rfl
  | true=>exact absurd (Zag hb) h
 simp [cS,this]
theorem fD {t:Nat} {v:Value} {r:aH}:cS ((t,v)::r) t=some v:=by
 simp [cS]
def bU (sl:aH) (a:Act):Prop:=∀ t v,cS sl t=some v→a.tmps[t]? = some v
theorem bU.eval {sl:aH} {a:Act} (h:bU sl a) {t:Nat} {v:Value} (hv:cS sl t=some v):a.eval (.tmp t)=v:=by
 have:=h t v hv
 simp [Act.eval,Zy,this]
theorem bU.put {sl:aH} {a:Act} (h:bU sl a) {d:Nat} (hd:d<a.tmps.size) (v:Value):bU ((d,v)::sl) (a.put (some d) v):=by
 intro t u hu
 by_cases w8:d=t
 ·subst w8
  rw [fD] at hu
  cases hu
  simp [Act.put,hd]
 ·rw [fC w8] at hu
  simp only [Act.put,ZJ w8]
  exact h t u hu
theorem bU.sub {sl js:aH} {a:Act} (h:bU sl a) (hs:∀ t v,cS js t=some v→cS sl t=some v):bU js a:=fun t v hv=>h t v (hs t v hv)
def Is (sl:aH) (x:Operand) (v:Value):Prop:=∀ a:Act,bU sl a→a.eval x=v
theorem R9 {a b:Bool} (h:(a&&b)=true):a=true:=by cases a <;> simp_all
def gv (c:Bool) (v:Value):Value:=bif c then v else undef
theorem uu {c:Bool} {v:Value} (h:c=true):gv c v=v:=by simp [gv,h]
theorem vK {c:Bool} {v:Value} (h:c=false):gv c v=undef:=by simp [gv,h]
def hp (w:World):Nat→Option Obj:=fun b=>w.heap[b]?
theorem j8 {w:World} {b:Nat} {o:Obj} (h:hp w b=some o):b<w.heap.size:=(ZY.1 h).1
structure bd where
 sat:(Nat→Option Obj)→List Nat→Prop
 loc:∀ {h h':Nat→Option Obj} {fp:List Nat},sat h fp→(∀ b∈fp,h' b=h b)→sat h' fp
 own:∀ {h:Nat→Option Obj} {fp:List Nat},sat h fp→∀ b∈fp,∃ o,h b=some o
def ct (h:Nat→Option Obj):List bd→List Nat→Prop
 | [],fp=>fp=[]
 | A::As,fp=>∃ f1 f2,fp=f1++f2∧A.sat h f1∧ct h As f2
theorem ct.own {h:Nat→Option Obj}:∀ {hs:List bd} {fp:List Nat},ct h hs fp→∀ b∈fp,∃ o,h b=some o
 | [],_,hh,b,hb=>by rw [show _=[] from hh] at hb;cases hb
 | A :: As, _, ⟨f1, f2, e, h1, h2⟩, b, hb => by
  subst e
  rcases Zx.1 hb with hb | hb
  ·exact A.own h1 b hb
  ·exact ct.own h2 b hb
theorem ct.loc {h h':Nat→Option Obj}:∀ {hs:List bd} {fp:List Nat},ct h hs fp→(∀ b∈fp,h' b=h b)→ct h' hs fp
 | [],_,hh,_=>hh
 | A :: As, _, ⟨f1, f2, e, h1, h2⟩, hb => by
  subst e
  exact ⟨f1,f2,rfl,A.loc h1 (fun b dz=>hb b (ZE _ dz)),ct.loc h2 (fun b dz=>hb b (ZT _ dz))⟩
theorem ct.append_iff {h:Nat→Option Obj}:∀ {l1 l2:List bd} {fp:List Nat},ct h (l1++l2) fp↔∃ f1 f2,fp=f1++f2∧ct h l1 f1∧ct h l2 f2
 | [],l2,fp=>⟨fun hh=>⟨[],fp,rfl,rfl,hh⟩,fun ⟨f1,f2,e,h1,h2⟩=>by rw [show f1=[] from h1] at e;simpa [e] using h2⟩
 | A :: l1, l2, fp => by
  constructor
  ·rintro ⟨f1,f2,rfl,h1,h2⟩
   obtain ⟨g1,g2,rfl,h3,h4⟩:=ct.append_iff.1 h2
   exact ⟨f1++g1,g2,by simp,⟨f1,g1,rfl,h1,h3⟩,h4⟩
  ·rintro ⟨f1,f2,rfl,⟨g1,g2,rfl,h1,h2⟩,h3⟩
   exact ⟨g1,g2++f2,by simp,h1,ct.append_iff.2 ⟨g2,f2,rfl,h2,h3⟩⟩
inductive Take:List bd→bd→List bd→Prop
 | here {A:bd} {r:List bd}:Take (A::r) A r
 | there {A X:bd} {r r':List bd} (h:Take r A r'):Take (X::r) A (X::r')
theorem Take.append {hs hs':List bd} {A:bd} (h:Take hs A hs') (m:List bd):Take (hs++m) A (hs'++m):=by
 induction h with
 | here=>exact .here
 | there _ ih=>exact .there ih
theorem ct.take {h:Nat→Option Obj} {hs hs':List bd} {A:bd} (ht:Take hs A hs'):∀ {fp:List Nat},ct h hs fp→∃ f1 f2,A.sat h f1∧ct h hs' f2∧fp.Perm (f1++f2):=by
 induction ht with
 | here =>
  rintro fp ⟨f1,f2,rfl,h1,h2⟩
  exact ⟨f1,f2,h1,h2,.refl _⟩
 | there _ ih =>
  rintro fp ⟨f1,f2,rfl,h1,h2⟩
  obtain ⟨g1,g2,h3,h4,hp⟩:=ih h2
  refine ⟨g1,f1++g2,h3,⟨f1,g2,rfl,h1,h4⟩,?_⟩
  exact (hp.append_left f1).trans (by
   rw [← Zh,← Zh]
   exact (List.perm_append_comm).append_right g2)
structure aJ (md:List Nat) (w w':World):Prop where
 os:w'.os=w.os
 tape:w'.tape=w.tape
 output:w'.output=w.output
 dr:w.drawn≤w'.drawn
 size:w.heap.size≤w'.heap.size
 block:∀ k,k<w.heap.size→k ∉ md→w'.heap[k]? = w.heap[k]?
theorem aJ.refl (md:List Nat) (w:World):aJ md w w:=⟨rfl,rfl,rfl,Zz _,Zz _,fun _ _ _=>rfl⟩
theorem aJ.trans {md:List Nat} {a b c:World} (h:aJ md a b) (k:aJ md b c):aJ md a c:=
 ⟨k.os.trans h.os,k.tape.trans h.tape,k.output.trans h.output,ZX h.dr k.dr,ZX h.size k.size,fun i hi hm=>(k.block i (ZaI hi h.size) hm).trans (h.block i hi hm)⟩
theorem aJ.mono {md YT:List Nat} {w w':World} (h:aJ md w w') (hs:∀ b∈md,b∈YT):aJ YT w w':=
 ⟨h.os,h.tape,h.output,h.dr,h.size,fun k hk hm=>h.block k hk (fun hb=>hm (hs k hb))⟩
theorem aJ.below {w w':World} (h:aJ [] w w'):Below w.heap.size w w':=⟨h.os,h.tape,h.output,h.size,fun k hk=>h.block k hk (by simp)⟩
theorem aJ.Iv {w w':World} (h:Below w.heap.size w w') (hd:w.drawn≤w'.drawn):aJ [] w w':=⟨h.os,h.tape,h.output,hd,h.size,fun k hk _=>h.block k hk⟩
theorem aJ.drew (md:List Nat) (w:World):aJ md w w.drew:=⟨rfl,rfl,rfl,Nat.le_succ _,Zz _,fun _ _ _=>rfl⟩
theorem aJ.alloc (md:List Nat) (w:World) (o:Obj):aJ md w (w.alloc o):=
 ⟨rfl,rfl,rfl,Zz _,by simp,fun k hk _=>by show (w.heap.push o)[k]? = _;rw [Array.getElem?_push,if_neg (by omega)]⟩
structure Cx where
 w0:World
 md:List Nat
 nt:Nat
structure Mem (c:Cx) (hs:List bd) (w:World):Prop where
 keeps:aJ c.md c.w0 w
 own:∃ fp:List Nat,fp.Nodup∧ct (hp w) hs fp∧∀ b∈fp,c.w0.heap.size≤b∨b∈c.md
theorem Mem.take {c:Cx} {hs hs':List bd} {A:bd} {w:World} (h:Mem c hs w) (ht:Take hs A hs'):Mem c (A::hs') w:=by
 obtain ⟨k,fp,hn,hs,hb⟩:=h
 obtain ⟨f1,f2,h1,h2,hp⟩:=hs.take ht
 exact ⟨k,f1++f2,hp.nodup_iff.1 hn,⟨f1,f2,rfl,h1,h2⟩,fun b dz=>hb b (hp.mem_iff.2 dz)⟩
theorem Mem.change {c:Cx} {As Bs hs:List bd} {w w':World} (h:Mem c (As++hs) w)
  (X9:∀ fp,fp.Nodup→ct (hp w) As fp→aJ fp w w'∧∃ lH:List Nat,lH.Nodup∧ct (hp w') Bs lH∧∀ b∈lH,b∈fp∨w.heap.size≤b):Mem c (Bs++hs) w':=by
 obtain ⟨k,fp,hn,hs,hb⟩:=h
 obtain ⟨f1,f2,rfl,h1,h2⟩:=ct.append_iff.1 hs
 obtain ⟨n1,n2,n12⟩:=ZH.1 hn
 obtain ⟨hk,lH,uo,hs',yC⟩:=X9 f1 n1 h1
 have aM:∀ b∈f2,b<w.heap.size:=fun b dz=>let ⟨o,ho⟩:=h2.own b dz;j8 ho
 refine ⟨?_,lH++f2,?_,ct.append_iff.2 ⟨lH,f2,rfl,hs',h2.loc fun b dz=>?_⟩,?_⟩
 ·refine ⟨hk.os.trans k.os,hk.tape.trans k.tape,hk.output.trans k.output,ZX k.dr hk.dr,ZX k.size hk.size,fun b dz hm=>?_⟩
  rw [← k.block b dz hm]
  refine hk.block b (ZaI dz k.size) (fun hf=>?_)
  rcases hb b (ZE _ hf) with h | h
  ·omega
  ·exact hm h
 ·refine ZH.2 ⟨uo,n2,fun x hx y hy e=>?_⟩
  subst e
  rcases yC x hx with h | h
  ·exact n12 x h x hy rfl
  ·have:=aM x hy;omega
 ·exact hk.block b (aM b dz) (fun hf=>n12 b hf b dz rfl)
 ·intro b dz
  rcases Zx.1 dz with h | h
  ·rcases yC b h with h | h
   ·exact hb b (ZE _ h)
   ·exact .inl (ZX k.size h)
  ·exact hb b (ZT _ h)
theorem Mem.rr {c:Cx} {hs:List bd} {w w':World} (h:Mem c hs w) (hk:aJ [] w w'):Mem c hs w':=
 Mem.change (As:=[]) (Bs:=[]) h fun fp _ hf=>by
  rw [show fp=[] from hf]
  exact ⟨hk,[],Zaj,rfl,by simp⟩
theorem Mem.drew {c:Cx} {hs:List bd} {w:World} (h:Mem c hs w):Mem c hs w.drew:=h.rr (.drew _ _)
theorem Mem.lx {c:Cx} {l m:List bd} {w:World} (h:Mem c (l++m) w):Mem c l w:=by
 obtain ⟨k,fp,hn,hs,hb⟩:=h
 obtain ⟨f1,f2,rfl,h1,h2⟩:=ct.append_iff.1 hs
 exact ⟨k,f1,(ZH.1 hn).1,h1,fun b dz=>hb b (ZE _ dz)⟩
theorem Mem.vN {c:Cx} {A:bd} {l:List bd} {w:World} (h:Mem c (A::l) w):Mem c l w:=by
 obtain ⟨k,fp,hn,⟨f1,f2,rfl,h1,h2⟩,hb⟩:=h
 exact ⟨k,f2,(ZH.1 hn).2.1,h2,fun b dz=>hb b (ZT _ dz)⟩
def bH (b:Nat) (o:Obj):bd where
 sat h fp:=fp=[b]∧h b=some o
 loc:=fun ⟨e,h1⟩ hb=>⟨e,by rw [hb _ (by rw [e];simp)];exact h1⟩
 own:=fun ⟨e,h1⟩ b' dz=>by rw [e] at dz;rw [ZB.1 dz];exact ⟨o,h1⟩
theorem Mem.bH {c:Cx} {hs hs':List bd} {b:Nat} {o:Obj} {w:World} (h:Mem c hs w) (ht:Take hs (bH b o) hs'):w.heap[b]? = some o:=by
 obtain ⟨_,fp,_,⟨f1,f2,_,⟨_,h1⟩,_⟩,_⟩:=h.take ht
 exact h1
theorem Mem.alloc {c:Cx} {hs:List bd} {w:World} (h:Mem c hs w) (o:Obj):Mem c (SL.bH w.heap.size o::hs) (w.alloc o):=
 Mem.change (As:=[]) (Bs:=[SL.bH w.heap.size o]) h fun fp _ hf=>by
  rw [show fp=[] from hf]
  refine ⟨.alloc _ _ _,[w.heap.size],by simp,⟨[w.heap.size],[],rfl,⟨rfl,World.alloc_heap_new w o⟩,rfl⟩,by simp⟩
theorem Mem.store {c:Cx} {hs:List bd} {b:Nat} {o o':Obj} {w w':World} (h:Mem c (SL.bH b o::hs) w) (hk:aJ [b] w w') (ho:w'.heap[b]? = some o'):Mem c (SL.bH b o'::hs) w':=
 Mem.change (As:=[SL.bH b o]) (Bs:=[SL.bH b o']) h fun fp _ hf=>by
  obtain ⟨f1,f2,e,⟨e1,_⟩,e2⟩:=hf
  have:fp=[b]:=by rw [e,e1,show f2=[] from e2];rfl
  subst this
  exact ⟨hk,[b],by simp,⟨[b],[],rfl,⟨rfl,ho⟩,rfl⟩,fun x hx=>.inl hx⟩
theorem Mem.base {c:Cx} {hs:List bd} {w:World} (h:Mem c hs w) {b:Nat} (hb:b<c.w0.heap.size) (hm:b ∉ c.md):w.heap[b]? = c.w0.heap[b]?:=h.keeps.block b hb hm
def mark (r:Nat):Deferred:={ target:=.collected r,args:=#[] }
def mE (D:List Nat):List bd:=D.map fun r=>bH r (.deferred (some []))
structure St (c:Cx) (D:List Nat) (sl:aH) (hs:List bd) (a:Act) (w:World):Prop where
 mem:Mem c (hs++mE D) w
 c5:bU sl a
 size:a.tmps.size=c.nt
 defers:a.defers=D.map mark
def Tr (c:Cx) (D:List Nat) (sl:aH) (hs:List bd) (X:Act→World→Prop):Prop:=∀ a w,St c D sl hs a w→X a w
theorem St.rn {c:Cx} {D:List Nat} {sl:aH} {hs:List bd} {a:Act} {w:World} (h:St c D sl hs a w):Mem c hs w:=h.mem.lx
theorem St.put {c:Cx} {D:List Nat} {sl:aH} {hs:List bd} {a:Act} {w:World} (h:St c D sl hs a w) {d:Nat} (hd:d<c.nt) (v:Value):St c D ((d,v)::sl) hs (a.put (some d) v) w:=
 ⟨h.mem,h.c5.put (by rw [h.size];exact hd) v,by simp [Act.put,h.size],h.defers⟩
theorem St.heap {c:Cx} {D:List Nat} {sl:aH} {hs hs':List bd} {a:Act} {w w':World} (h:St c D sl hs a w) (hm:Mem c (hs'++mE D) w'):St c D sl hs' a w':=
 ⟨hm,h.c5,h.size,h.defers⟩
def FR (r:Option Nat):Fence:={ Fence.wide with round:=r }
def WP (P:Program) (r:Option Nat) (code:Code) (Q:Exit→Act→World→Prop):Act→World→Prop:=code.wpIn (FR r) 0 P Q
def WL (P:Program) (r:Option Nat) (ops:Array Oper) (Q:Exit→Act→World→Prop):List Oper→Act→World→Prop
 | [],a,w=>Q .normal a w
 | o :: rest, a, w =>
  if Region.wanted o (yielded ops a.tmps) then o.wpIn (FR r) 0 P a w (WL P r ops Q rest) Q else WL P r ops Q rest (a.put o.dst undef) w
theorem dN (r:Option Nat) (o:Oper) (P:Program) (w:World) (ρ:Operand→Value):∀ f,o.about P w ρ=some f→(FR r).fn f:=fun _ _=>trivial
theorem wF {P:Program} {r:Option Nat} {ops:Array Oper} {Q:Exit→Act→World→Prop} (l:List Oper):∀ k,(∀ j,l[j]? = ops[k+j]?)→wpOpsIn (FR r) 0 P ops Q (List.range' k l.length)=WL P r ops Q l:=by
 induction l with
 | nil=>intro k _;funext a w;simp [wpOpsIn,WL]
 | cons o l ih =>
  intro k h
  have h0:ops[k]? = some o:=by simpa using (h 0).symm
  have ih':=ih (k+1) (fun j=>by have:=h (j+1);simpa [Nat.add_assoc,Nat.add_comm 1 j] using this)
  funext a w
  simp only [ZL,List.range'_succ,wpOpsIn,h0,WL,ih']
  split
  ·rfl
  ·simp [FR,Fence.wide]
theorem rT {P:Program} {r:Option Nat} {c:Cx} {D:List Nat} {sl:aH} {hs:List bd} {id:Nat} {l:List Oper} {Q:Exit→Act→World→Prop}
  (h:Tr c D sl hs (WL P r l.toArray Q l)):Tr c D sl hs (WP P r (.region id l.toArray false) Q):=fun a w bh=>by
 unfold WP
 refine wpIn_region ?_
 rw [List.range_eq_range',show l.toArray.size=l.length from by simp,wF l 0 (by simp)]
 exact h a w bh
theorem C3 {P:Program} {r:Option Nat} {c:Cx} {D:List Nat} {sl:aH} {hs:List bd} {x y:Code} {Q:Exit→Act→World→Prop}
  (h:Tr c D sl hs (WP P r x (Exit.then (WP P r y Q) Q))):Tr c D sl hs (WP P r (.seq x y) Q):=fun a w bh=>wpIn_seq (h a w bh)
theorem Hr {P:Program} {r:Option Nat} {c:Cx} {D:List Nat} {sl:aH} {hs:List bd} {ops:Array Oper} {Q:Exit→Act→World→Prop}
  (h:Tr c D sl hs (Q .normal)):Tr c D sl hs (WL P r ops Q []):=h
theorem LW {c:Cx} {D:List Nat} {sl:aH} {hs:List bd} {N:Act→World→Prop} {Q:Exit→Act→World→Prop}
  (h:Tr c D sl hs N):Tr c D sl hs (Exit.then N Q .normal):=h
theorem A3 {c:Cx} {D:List Nat} {sl:aH} {hs:List bd} {N:Act→World→Prop} {Q:Exit→Act→World→Prop}
  (h:Tr c D sl hs (Q .ret)):Tr c D sl hs (Exit.then N Q .ret):=h
theorem y7 {c:Cx} {D:List Nat} {sl:aH} {hs:List bd} {N:Act→World→Prop} {Q:Exit→Act→World→Prop} {id:Nat}
  (h:Tr c D sl hs (Q (.exit id))):Tr c D sl hs (Exit.then N Q (.exit id)):=h
theorem pG {c:Cx} {D:List Nat} {sl:aH} {hs:List bd} {id:Nat} {Q:Exit→Act→World→Prop}
  (h:Tr c D sl hs (Q .normal)):Tr c D sl hs (Exit.inBlock id Q .normal):=h
theorem C5 {c:Cx} {D:List Nat} {sl:aH} {hs:List bd} {id:Nat} {Q:Exit→Act→World→Prop}
  (h:Tr c D sl hs (Q .ret)):Tr c D sl hs (Exit.inBlock id Q .ret):=h
theorem Ba {c:Cx} {D:List Nat} {sl:aH} {hs:List bd} {id:Nat} {Q:Exit→Act→World→Prop}
  (h:Tr c D sl hs (Q .normal)):Tr c D sl hs (Exit.inBlock id Q (.exit id)):=fun a w bh=>by
 simp only [Exit.inBlock,if_true];exact h a w bh
theorem uG {c:Cx} {D:List Nat} {sl:aH} {hs:List bd} {id Vv:Nat} {Q:Exit→Act→World→Prop} (hne:Nat.beq Vv id=false)
  (h:Tr c D sl hs (Q (.exit Vv))):Tr c D sl hs (Exit.inBlock id Q (.exit Vv)):=fun a w bh=>by
 have:¬ Vv=id:=fun e=>by subst e;simp at hne
 simp only [Exit.inBlock,this,if_false];exact h a w bh
theorem Hy {P:Program} {r:Option Nat} {c:Cx} {D:List Nat} {sl:aH} {hs:List bd} {id:Nat} {x:Code} {Q:Exit→Act→World→Prop}
  (h:Tr c D sl hs (WP P r x (Exit.inBlock id Q))):Tr c D sl hs (WP P r (.block id x) Q):=fun a w bh=>wpIn_block (h a w bh)
theorem Ey {P:Program} {r:Option Nat} {c:Cx} {D:List Nat} {sl:aH} {hs:List bd} {Q:Exit→Act→World→Prop}
  (h:Tr c D sl hs (Q .normal)):Tr c D sl hs (WP P r .skip Q):=fun a w bh=>wpIn_skip (h a w bh)
theorem L6 {P:Program} {r:Option Nat} {c:Cx} {D:List Nat} {sl:aH} {hs:List bd} {id:Nat} {Q:Exit→Act→World→Prop}
  (h:Tr c D sl hs (Q (.exit id))):Tr c D sl hs (WP P r (.exit id) Q):=fun a w bh=>wpIn_exit (h a w bh)
theorem Hq {P:Program} {r:Option Nat} {c:Cx} {D:List Nat} {sl:aH} {hs:List bd} {Q:Exit→Act→World→Prop}
  (h:Tr c D sl hs (Q .ret)):Tr c D sl hs (WP P r .ret Q):=fun a w bh=>wpIn_ret (h a w bh)
theorem EB {P:Program} {r:Option Nat} {c:Cx} {D:List Nat} {sl:aH} {hs:List bd} {x:Operand} {b:Bool} {u v:Code} {Q:Exit→Act→World→Prop} (hx:Is sl x (.bool b))
  (ht:b=true→Tr c D sl hs (WP P r u Q)) (hf:b=false→Tr c D sl hs (WP P r v Q)):Tr c D sl hs (WP P r (.cond x u v) Q):=fun a w bh=>
 wpIn_cond_split (hx a bh.c5) (fun e=>ht e a w bh) (fun e=>hf e a w bh)
theorem cP {P:Program} {r:Option Nat} {c:Cx} {D:List Nat} {sl:aH} {hs:List bd} {x:Operand} {u v:Code} {Q:Exit→Act→World→Prop} (hx:Is sl x (.bool true))
  (ht:Tr c D sl hs (WP P r u Q)):Tr c D sl hs (WP P r (.cond x u v) Q):=fun a w bh=>wpIn_cond_true (hx a bh.c5) (ht a w bh)
theorem bK {P:Program} {r:Option Nat} {c:Cx} {D:List Nat} {sl:aH} {hs:List bd} {x:Operand} {u v:Code} {Q:Exit→Act→World→Prop} (hx:Is sl x (.bool false))
  (ht:Tr c D sl hs (WP P r v Q)):Tr c D sl hs (WP P r (.cond x u v) Q):=fun a w bh=>wpIn_cond_false (hx a bh.c5) (ht a w bh)
theorem F3 {P:Program} {r:Option Nat} {c:Cx} {D:List Nat} {sl:aH} {hs:List bd} {x:Operand} {p:Prop} {inst:Decidable p} {u v:Code} {Q:Exit→Act→World→Prop} (hx:Is sl x (.bool (decide p)))
  (ht:p→Tr c D sl hs (WP P r u Q)) (hf:¬ p→Tr c D sl hs (WP P r v Q)):Tr c D sl hs (WP P r (.cond x u v) Q):=
 EB hx (fun e=>ht (of_decide_eq_true e)) (fun e=>hf (of_decide_eq_false e))
theorem L4 {P:Program} {r:Option Nat} {c:Cx} {D:List Nat} {sl:aH} {hs:List bd} {x:Code} {Q:Exit→Act→World→Prop} {ι:Type} (Φ:ι→Prop) (sI:ι→aH) (hI:ι→List bd) (μ:ι→Nat)
  (h0:Tr c D sl hs fun a w=>∃ i,Φ i∧St c D (sI i) (hI i) a w)
  (round:∀ i,Φ i→Tr c D (sI i) (hI i) (WP P r x (Exit.then (fun a w=>∃ j,Φ j∧μ j<μ i∧St c D (sI j) (hI j) a w) Q))) :
  Tr c D sl hs (WP P r (.loop x) Q):=fun a w bh=>by
 have key:∀ (n:Nat) i,μ i=n→Φ i→∀ a w,St c D (sI i) (hI i) a w→True:=fun _ _ _ _ _ _ _=>trivial
 -- a measure on V9: AJ least 'μ i' of YM PV fit
 let fits:Act→World→Nat→Prop:=fun a w n=>∃ i,Φ i∧μ i=n∧St c D (sI i) (hI i) a w
 have least:∀ a w,(∃ n,fits a w n)→∃ n,fits a w n∧∀ m,fits a w m→n≤m:=by
  intro a w ⟨n,hn⟩
  induction n using Nat.strongRecOn with
  | _ n ih =>
   by_cases h:∃ m,m<n∧fits a w m
   ·obtain ⟨m,hm,hf⟩:=h
    exact ih m hm hf
   ·exact ⟨n,hn,fun m hm=>ZaS fun aM=>h ⟨m,aM,hm⟩⟩
 let M:Act→World→Nat:=fun a w=>Classical.epsilon fun n=>fits a w n∧∀ m,fits a w m→n≤m
 have hM:∀ a w,(∃ n,fits a w n)→fits a w (M a w)∧∀ m,fits a w m→M a w≤m:=fun a w h=>Classical.epsilon_spec (least a w h)
 refine wpIn_loop (fun a w=>∃ n,fits a w n) M ?_ ?_
 ·obtain ⟨i,hi,hs⟩:=h0 a w bh
  exact ⟨μ i,i,hi,rfl,hs⟩
 ·intro a w hI
  obtain ⟨⟨i,hi,hm,hs⟩,_⟩:=hM a w hI
  refine wpIn_mono (round i hi a w hs) fun e a' w' h=>?_
  cases e with
  | normal =>
   obtain ⟨j,hj,aM,hs'⟩:=h
   have hf:fits a' w' (μ j):=⟨j,hj,rfl,hs'⟩
   exact ⟨⟨_,hf⟩,Nat.lt_of_le_of_lt ((hM a' w' ⟨_,hf⟩).2 _ hf) (by rw [← hm];exact aM)⟩
  | _=>exact h
theorem mr {P:Program} {r:Option Nat} {ops:Array Oper} {Q:Exit→Act→World→Prop} {o:Oper} {rest:List Oper} {a:Act} {w:World} (hg:o.guard=none)
  (h:o.wpIn (FR r) 0 P a w (WL P r ops Q rest) Q):WL P r ops Q (o::rest) a w:=by
 unfold WL
 rw [if_pos (by simp [Region.wanted,hg])]
 exact h
def cY (P:Program) (c:Cx) (sl:aH) (hs:List bd) (o:Oper) (V:Value):Prop:=
 (∀ d,o.op≠.defer d)∧∀ a w,bU sl a→Mem c hs w→(execOp a.eval o).run P w=.ok (.value V) w
theorem ab {P:Program} {r:Option Nat} {c:Cx} {D:List Nat} {sl:aH} {hs:List bd} {ops:Array Oper} {Q:Exit→Act→World→Prop} {d:Nat} {op:Op} {ty:TypeId} {pos:String} {af:Array Edge} {rest:List Oper} {V:Value}
  (hr:cY P c sl hs ⟨some d,op,ty,pos,af,none⟩ V) (hd:Nat.blt d c.nt=true) (k:Tr c D ((d,V)::sl) hs (WL P r ops Q rest)) :
  Tr c D sl hs (WL P r ops Q (⟨some d,op,ty,pos,af,none⟩::rest)):=fun a w bh=>by
 refine mr rfl ⟨dN _ _ _ _ _,?_⟩
 rw [Oper.semAt_eq _ _ _ hr.1,hr.2 a w bh.c5 bh.rn]
 exact k _ _ (bh.put (by simpa [Z2] using hd) V)
theorem kW {ops:Array Oper} {o:Oper} {j g:Nat} {want c0 q:Bool} {a:Act} {sl:aH} (hg:o.guard=some (j,want)) (hj:((ops[j]?).bind (·.dst))=some g) (hs:bU sl a) (hq:cS sl g=some (gv c0 (.bool q))) :
  Region.wanted o (yielded ops a.tmps)=(c0&&(q==want)):=by
 have ht:=hs _ _ hq
 simp only [Region.wanted,hg,yielded,hj,Option.bind_some,ht]
 cases c0 <;> cases q <;> cases want <;> rfl
theorem Ex {P:Program} {r:Option Nat} {c:Cx} {D:List Nat} {sl:aH} {hs:List bd} {ops:Array Oper} {Q:Exit→Act→World→Prop} {d:Nat} {op:Op} {ty:TypeId} {pos:String} {af:Array Edge} {rest:List Oper} {V:Value}
  {j g:Nat} {want c0 q:Bool} (hj:((ops[j]?).bind (·.dst))=some g) (hq:cS sl g=some (gv c0 (.bool q)))
  (hr:(c0&&(q==want))=true→cY P c sl hs ⟨some d,op,ty,pos,af,some (j,want)⟩ V) (hd:Nat.blt d c.nt=true) (k:Tr c D ((d,gv (c0&&(q==want)) V)::sl) hs (WL P r ops Q rest)) :
  Tr c D sl hs (WL P r ops Q (⟨some d,op,ty,pos,af,some (j,want)⟩::rest)):=fun a w bh=>by
 unfold WL
 rw [kW rfl hj bh.c5 hq]
 by_cases h:(c0&&(q==want))=true
 ·rw [if_pos h]
  refine ⟨dN _ _ _ _ _,?_⟩
  rw [Oper.semAt_eq _ _ _ (hr h).1,(hr h).2 a w bh.c5 bh.rn]
  rw [uu h] at k
  exact k _ _ (bh.put (by simpa [Z2] using hd) V)
 ·rw [if_neg h]
  rw [vK (by simpa using h)] at k
  exact k _ _ (bh.put (by simpa [Z2] using hd) undef)
theorem uE {P:Program} {r:Option Nat} {c:Cx} {D:List Nat} {sl:aH} {hs:List bd} {ops:Array Oper} {Q:Exit→Act→World→Prop} {d:Nat} {op:Op} {ty:TypeId} {pos:String} {af:Array Edge} {rest:List Oper} {V:Value}
  {j g:Nat} {want q:Bool} (hj:((ops[j]?).bind (·.dst))=some g) (hq:cS sl g=some (.bool q))
  (hr:(q==want)=true→cY P c sl hs ⟨some d,op,ty,pos,af,some (j,want)⟩ V) (hd:Nat.blt d c.nt=true) (k:Tr c D ((d,gv (q==want) V)::sl) hs (WL P r ops Q rest)) :
  Tr c D sl hs (WL P r ops Q (⟨some d,op,ty,pos,af,some (j,want)⟩::rest)):=
 Ex (c0:=true) hj (by rw [hq];rfl) (by simpa using hr) hd (by simpa using k)
end Go.SL
namespace Go.SL
open Go
def kq:TypeDesc→Bool
 | .struct _ | .array _ _=>true
 | _=>false
def OB (P:Program) (t:TypeId):Option (Bool×Nat):=
 match P.underlying t,P.info? t with
 | some d,some i=>some (kq d,i.size)
 | _,_=>none
class Ty (P:Program) (t:TypeId) (agg:outParam Bool) (n:outParam Nat):Prop where
 eq:OB P t=some (agg,n)
class iV (P:Program) (t:TypeId) (d:outParam TypeDesc):Prop where
 eq:P.underlying t=some d
class lZ (P:Program) (t:TypeId) (v:outParam Value):Prop where
 eq:(P.info? t).map (·.zero)=some (some v)
class wE (P:Program) (t:TypeId) (n:outParam Nat):Prop where
 eq:(P.info? t).map (·.bytes)=some n
section
variable {P:Program} {w:World} {t:TypeId}
theorem Ty.parts {agg:Bool} {n:Nat} [h:Ty P t agg n]:∃ d i,P.underlying t=some d∧P.info? t=some i∧kq d=agg∧i.size=n:=by
 have:=h.eq
 unfold OB at this
 split at this
 ·rename_i d i hd hi
  cases this
  exact ⟨d,i,hd,hi,rfl,rfl⟩
 ·cases this
theorem aV {d:TypeDesc} (h:P.underlying t=some d):(underlying t).run P w=.ok d w:=by simp [underlying,h]
theorem fE {i:TypeInfo} (h:P.info? t=some i):(typeInfo t).run P w=.ok i w:=by simp [typeInfo,h]
theorem fQ {agg:Bool} {n:Nat} [h:Ty P t agg n]:(sizeOf t).run P w=.ok n w:=by
 obtain ⟨d,i,_,hi,_,hn⟩:=Ty.parts (P:=P) (t:=t)
 simp [sizeOf,fE hi,hn]
theorem uT {agg:Bool} {n:Nat} [h:Ty P t agg n]:(isAgg t).run P w=.ok agg w:=by
 obtain ⟨d,i,hd,_,ha,_⟩:=Ty.parts (P:=P) (t:=t)
 unfold isAgg
 rw [Sem.run_bind,aV hd,Result.andThen_ok]
 subst ha
 cases d <;> rfl
theorem iv {v:Value} [h:lZ P t v]:(zeroValue t).run P w=.ok v w:=by
 have:=h.eq
 cases hi:P.info? t with
 | none=>rw [hi] at this;cases this
 | some i =>
  rw [hi] at this
  have hz:i.zero=some v:=by simpa using this
  simp [zeroValue,fE hi,hz]
theorem zu {a:Addr} {v:Value} (h:w.cell? a=some v) (m:Mode):(load a m).run P w=.ok v w:=by simp [h]
theorem cell_of_block {b:Nat} {cs:Array Value} {E:TypeId} {fz:Nat×Nat} (h:w.heap[b]? = some (.cells cs E fz)) (o:Nat):w.cell? ⟨b,o,none⟩=cs[o]?:=by
 simp [World.cell?,h]
theorem eK (b o n:Nat):Addr.add ⟨b,o,none⟩ n=⟨b,o+n,none⟩:=by
 unfold Addr.add
 split
 ·rename_i h;simp [h]
 ·rfl
theorem mA {b o:Nat}:∀ (n i:Nat) (acc:Array Value) (vs:List Value),vs.length=n→(∀ j v,vs[j]? = some v→w.cell? ⟨b,o+(i+j),none⟩=some v) →
  (loadCellsFrom ⟨b,o,none⟩ i n acc).run P w=.ok (acc++vs.toArray) w
 | 0, i, acc, vs, hl, _ => by
  have:vs=[]:=Zan.1 hl
  subst this
  simp [loadCellsFrom]
 | n+1,i,acc,[],hl,_=>by simp at hl
 | n + 1, i, acc, v :: vs, hl, hc => by
  have h0:w.cell? (Addr.add ⟨b,o,none⟩ i)=some v:=by rw [eK];exact hc 0 v rfl
  simp only [loadCellsFrom,Sem.run_bind,zu h0,Result.andThen_ok]
  rw [mA n (i+1) (acc.push v) vs (by simpa using hl) (fun j u hu=>by
   have:=hc (j+1) u (by simpa using hu)
   rw [show i+1+j=i+(j+1) from by omega]
   exact this)]
  simp
theorem qY {b o n:Nat} {vs:List Value} (hl:vs.length=n) (hc:∀ j v,vs[j]? = some v→w.cell? ⟨b,o+j,none⟩=some v):(loadCells ⟨b,o,none⟩ n).run P w=.ok vs.toArray w:=by
 unfold loadCells
 rw [mA n 0 #[] vs hl (fun j v hv=>by simpa using hc j v hv)]
 simp
theorem sX {b o n:Nat} {v:Value} [Ty P t false n] (hc:w.cell? ⟨b,o,none⟩=some v):(loadVar t ⟨b,o,none⟩).run P w=.ok v w:=by
 unfold loadVar
 rw [Sem.run_bind,uT (agg:=false) (n:=n),Result.andThen_ok]
 simp [hc]
theorem oh {b o n:Nat} {vs:List Value} [Ty P t true n] (hl:vs.length=n) (hc:∀ j v,vs[j]? = some v→w.cell? ⟨b,o+j,none⟩=some v):(loadVar t ⟨b,o,none⟩).run P w=.ok (.agg vs.toArray) w:=by
 unfold loadVar
 rw [Sem.run_bind,uT (agg:=true) (n:=n),Result.andThen_ok]
 simp only [if_true,Sem.run_bind,fQ (t:=t) (agg:=true) (n:=n),Result.andThen_ok,qY hl hc,Sem.run_pure]
end
def At (c:Cx) (hs:List bd) (b o:Nat) (v:Value):Prop:=∀ w,Mem c hs w→w.cell? ⟨b,o,none⟩=some v
theorem At.bH {c:Cx} {hs hs':List bd} {b o:Nat} {cs:Array Value} {E:TypeId} {fz:Nat×Nat} {v:Value} (ht:Take hs (SL.bH b (.cells cs E fz)) hs') (hv:cs[o]? = some v):At c hs b o v:=
 fun w hm=>by rw [cell_of_block (hm.bH ht)];exact hv
theorem At.base {c:Cx} {hs:List bd} {b o:Nat} {v:Value} (h:c.w0.cell? ⟨b,o,none⟩=some v) (Gz:c.md=[]):At c hs b o v:=fun w hm=>by
 have hb:b<c.w0.heap.size:=World.block_lt_of_cell? c.w0 ⟨b,o,none⟩ h
 have:=hm.base hb (by rw [Gz];simp)
 rw [← h]
 simp [World.cell?,this]
theorem At.CB {c:Cx} {hs:List bd} {b o:Nat} {v:Value} (h:c.w0.cell? ⟨b,o,none⟩=some v) (Gz:b ∉ c.md):At c hs b o v:=fun w hm=>by
 have hb:b<c.w0.heap.size:=World.block_lt_of_cell? c.w0 ⟨b,o,none⟩ h
 have:=hm.base hb Gz
 rw [← h]
 simp [World.cell?,this]
def ew (c:Cx) (hs:List bd) (b o:Nat):List Value→Prop
 | []=>True
 | v::vs=>At c hs b o v∧ew c hs b (o+1) vs
theorem ew.get {c:Cx} {hs:List bd} {b:Nat}:∀ {vs:List Value} {o:Nat},ew c hs b o vs→∀ j v,vs[j]? = some v→At c hs b (o+j) v
 | [],_,_,j,v,h=>by simp at h
 | x :: vs, o, ⟨h0, h1⟩, j, v, h => by
  cases j with
  | zero=>simp at h;subst h;exact h0
  | succ j=>have:=ew.get h1 j v (by simpa using h);rwa [show o+1+j=o+(j+1) from by omega] at this
theorem ew.si {c:Cx} {hs:List bd} {b:Nat}:∀ {vs:List Value} {o:Nat},(∀ j v,vs[j]? = some v→At c hs b (o+j) v)→ew c hs b o vs
 | [],_,_=>trivial
 | x::vs,o,h=>⟨h 0 x rfl,ew.si fun j v hv=>by have:=h (j+1) v (by simpa using hv);rwa [show o+(j+1)=o+1+j from by omega] at this⟩
theorem ew.base {c:Cx} {hs:List bd} {b o:Nat} {vs:List Value} (h:∀ (j:Nat) (u:Value),vs[j]? = some u→c.w0.cell? ⟨b,o+j,none⟩=some u) (Gz:c.md=[]):ew c hs b o vs:=
 ew.si fun j u hu=>At.base (h j u hu) Gz
def ed:List Value→Nat→Nat→List Value
 | _,_,0=>[]
 | [],_,_+1=>[]
 | v::r,0,n+1=>v::ed r 0 n
 | _::r,o+1,n+1=>ed r o (n+1)
theorem jm:∀ (cs:List Value) (o n:Nat),ed cs o n=(cs.drop o).take n
 | cs,o,0=>by simp [ed]
 | [],o,n+1=>by simp [ed]
 | v::r,0,n+1=>by simp [ed,jm r 0 n]
 | v::r,o+1,n+1=>by simp [ed,jm r o (n+1)]
def tK:List Value→Nat→Option Value
 | [],_=>none
 | v::_,0=>some v
 | _::r,n+1=>tK r n
theorem um:∀ (cs:List Value) (o:Nat),tK cs o=cs[o]?
 | [],_=>by simp [tK]
 | v::_,0=>by simp [tK]
 | _::r,n+1=>by simp [tK,um r n]
theorem At.lit {c:Cx} {hs hs':List bd} {b o:Nat} {cs:List Value} {E:TypeId} {fz:Nat×Nat} {v:Value} (ht:Take hs (SL.bH b (.cells cs.toArray E fz)) hs') (hv:tK cs o=some v):At c hs b o v:=
 At.bH ht (by rw [um] at hv;simpa using hv)
theorem ew.bH {c:Cx} {hs hs':List bd} {b o n:Nat} {cs:List Value} {E:TypeId} {fz:Nat×Nat} {vs:List Value} (ht:Take hs (SL.bH b (.cells cs.toArray E fz)) hs') (hv:ed cs o n=vs):ew c hs b o vs:=by
 subst hv
 refine ew.si fun j v hv=>At.bH ht ?_
 simp only [jm,ZG,Zbf] at hv
 split at hv
 ·simpa using hv
 ·cases hv
section
variable {P:Program} {c:Cx} {sl:aH} {hs hs':List bd} {dst:Option Tmp} {ty:TypeId} {pos:String} {af:Array Edge} {g:Option (Nat×Bool)}
theorem aN {x:Operand} {v:Value} (hx:Is sl x v):cY P c sl hs ⟨dst,.move x,ty,pos,af,g⟩ v:=
 ⟨by simp,fun a w ha _=>by simp [execOp,hx a ha]⟩
theorem cB {x:Operand} {v:Value} (hx:Is sl x v):cY P c sl hs ⟨dst,.assign x,ty,pos,af,g⟩ v:=
 ⟨by simp,fun a w ha _=>by simp [execOp,hx a ha]⟩
theorem ub {x y z:Operand} {q:Bool} {v u:Value} (hx:Is sl x (.bool q)) (hy:Is sl y v) (hz:Is sl z u):cY P c sl hs ⟨dst,.pick x y z,ty,pos,af,g⟩ (bif q then v else u):=
 ⟨by simp,fun a w ha _=>by simp [execOp,hx a ha,hy a ha,hz a ha,asBool,cond_eq_ite]⟩
theorem a7 {x:Operand} {t:Nat} {p q:Bool} (hx:Is sl x (.bool p)) (hq:cS sl t=some (gv (p==false) (.bool q))) :
  cY P c sl hs ⟨dst,.pick x (.const (.bool true)) (.tmp t),ty,pos,af,g⟩ (.bool (p||q)):=
 ⟨by simp,fun a w ha _=>by
  have h2:=ha.eval hq
  simp only [execOp,hx a ha,h2,asBool]
  cases p <;> simp [gv,Act.eval]⟩
theorem cD {x:Operand} {t:Nat} {p q:Bool} (hx:Is sl x (.bool p)) (hq:cS sl t=some (gv (p==true) (.bool q))) :
  cY P c sl hs ⟨dst,.pick x (.tmp t) (.const (.bool false)),ty,pos,af,g⟩ (.bool (p&&q)):=
 ⟨by simp,fun a w ha _=>by
  have h2:=ha.eval hq
  simp only [execOp,hx a ha,h2,asBool]
  cases p <;> simp [gv,Act.eval]⟩
theorem lR {x:Operand} {t:Nat} {c0 p q:Bool} (hc:c0=true) (hx:Is sl x (.bool p)) (hq:cS sl t=some (gv (c0&&(p==false)) (.bool q))) :
  cY P c sl hs ⟨dst,.pick x (.const (.bool true)) (.tmp t),ty,pos,af,g⟩ (.bool (p||q)):=a7 hx (by rw [hq,hc,ZaA])
theorem iw {x:Operand} {t:Nat} {c0 p q:Bool} (hc:c0=true) (hx:Is sl x (.bool p)) (hq:cS sl t=some (gv (c0&&(p==true)) (.bool q))) :
  cY P c sl hs ⟨dst,.pick x (.tmp t) (.const (.bool false)),ty,pos,af,g⟩ (.bool (p&&q)):=cD hx (by rw [hq,hc,ZaA])
theorem iP {op:BinOp} {t u:TypeId} {x y:Operand} {v u' r:Value} (hx:Is sl x v) (hy:Is sl y u') (hr:∀ w,(do eqGuard op t x y v u';binOp op t v u').run P w=.ok r w) :
  cY P c sl hs ⟨dst,.binOp op t x y u,ty,pos,af,g⟩ r:=
 ⟨by simp,fun a w ha _=>by
  have:=hr w
  simp only [Sem.run_bind] at this
  simp only [execOp,hx a ha,hy a ha,Sem.run_bind,this,Result.andThen_ok,Sem.run_pure]⟩
theorem fH {op:BinOp} {t:TypeId} {x y:Operand} {k k':IntKind} {a b:Int} {w:World}:(eqGuard op t x y (.int k a) (.int k' b)).run P w=.ok () w:=by
 unfold eqGuard;split <;> rfl
theorem lr {op:BinOp} {t:TypeId} {x y:Operand} {a b:ByteArray} {w:World}:(eqGuard op t x y (.string a) (.string b)).run P w=.ok () w:=by
 unfold eqGuard;split <;> rfl
theorem Al {op:BinOp} {t:TypeId} {x y:Operand} {a b:Bool} {w:World}:(eqGuard op t x y (.bool a) (.bool b)).run P w=.ok () w:=by
 unfold eqGuard;split <;> rfl
def Vp (n:Int):Prop:=-9223372036854775808≤n∧n≤9223372036854775807
theorem HY {t u:TypeId} {x y:Operand} {a b:Int} (hx:Is sl x (.int .i64 a)) (hy:Is sl y (.int .i64 b)) (hb:Vp (a+b)) :
  cY P c sl hs ⟨dst,.binOp .add t x y u,ty,pos,af,g⟩ (.int .i64 (a+b)):=
 iP hx hy fun w=>by simp [fH,binOp,Op.intArith,IntWalk.i64_in _ hb]
theorem uP {t u:TypeId} {x y:Operand} {a b:Int} (hx:Is sl x (.int .i64 a)) (hy:Is sl y (.int .i64 b)) (hb:Vp (a-b)) :
  cY P c sl hs ⟨dst,.binOp .sub t x y u,ty,pos,af,g⟩ (.int .i64 (a-b)):=
 iP hx hy fun w=>by simp [fH,binOp,Op.intArith,IntWalk.i64_in _ hb]
theorem Mz {k:IntKind} {t u:TypeId} {x y:Operand} {a b:Int} (hx:Is sl x (.int k a)) (hy:Is sl y (.int k b)) :
  cY P c sl hs ⟨dst,.binOp .sub t x y u,ty,pos,af,g⟩ (.int k (k.wrap (a-b))):=
 iP hx hy fun w=>by simp [fH,binOp,Op.intArith]
theorem lg {k:IntKind} {t u:TypeId} {x y:Operand} {a b:Int} (hx:Is sl x (.int k a)) (hy:Is sl y (.int k b)) :
  cY P c sl hs ⟨dst,.binOp .lss t x y u,ty,pos,af,g⟩ (.bool (decide (a<b))):=
 iP hx hy fun w=>by simp [fH,binOp,Op.intCmp]
theorem mf {k:IntKind} {t u:TypeId} {x y:Operand} {a b:Int} (hx:Is sl x (.int k a)) (hy:Is sl y (.int k b)) :
  cY P c sl hs ⟨dst,.binOp .leq t x y u,ty,pos,af,g⟩ (.bool (decide (a≤b))):=
 iP hx hy fun w=>by simp [fH,binOp,Op.intCmp]
theorem km {k:IntKind} {t u:TypeId} {x y:Operand} {a b:Int} (hx:Is sl x (.int k a)) (hy:Is sl y (.int k b)) :
  cY P c sl hs ⟨dst,.binOp .gtr t x y u,ty,pos,af,g⟩ (.bool (decide (b<a))):=
 iP hx hy fun w=>by simp [fH,binOp,Op.intCmp]
theorem uU {k:IntKind} {t u:TypeId} {x y:Operand} {a b:Int} (hx:Is sl x (.int k a)) (hy:Is sl y (.int k b)) :
  cY P c sl hs ⟨dst,.binOp .geq t x y u,ty,pos,af,g⟩ (.bool (decide (b≤a))):=
 iP hx hy fun w=>by simp [fH,binOp,Op.intCmp]
theorem mX {k:IntKind} {t u:TypeId} {x y:Operand} {a b:Int} (hx:Is sl x (.int k a)) (hy:Is sl y (.int k b)) :
  cY P c sl hs ⟨dst,.binOp .eql t x y u,ty,pos,af,g⟩ (.bool (decide (a=b))):=
 iP hx hy fun w=>by simp [fH,binOp,Op.intCmp];rfl
theorem fa {k:IntKind} {t u:TypeId} {x y:Operand} {a b:Int} (hx:Is sl x (.int k a)) (hy:Is sl y (.int k b)) :
  cY P c sl hs ⟨dst,.binOp .neq t x y u,ty,pos,af,g⟩ (.bool (decide (a≠b))):=
 iP hx hy fun w=>by simp [fH,binOp,Op.intCmp];rfl
theorem dU {t:TypeId} {x:Operand} {b:Bool} (hx:Is sl x (.bool b)):cY P c sl hs ⟨dst,.unOp .not t x,ty,pos,af,g⟩ (.bool (!b)):=
 ⟨by simp,fun a w ha _=>by simp [execOp,hx a ha,Op.unary]⟩
theorem tY (a b:ByteArray):(a.toList==b.toList)=decide (a=b):=by
 rw [ByteArray.toList_eq,ByteArray.toList_eq,Zba]
 simp only [beq_iff_eq,decide_eq_true_eq]
 constructor
 ·intro h;cases a;cases b;simp at h;rw [h]
 ·intro h;rw [h]
theorem dG {t u:TypeId} {x y:Operand} {a b:ByteArray} (hx:Is sl x (.string a)) (hy:Is sl y (.string b)) :
  cY P c sl hs ⟨dst,.binOp .eql t x y u,ty,pos,af,g⟩ (.bool (decide (a=b))):=
 iP hx hy fun w=>by simp [lr,binOp,Op.stringOp,tY]
theorem eZ {t u:TypeId} {x y:Operand} {a b:ByteArray} (hx:Is sl x (.string a)) (hy:Is sl y (.string b)) :
  cY P c sl hs ⟨dst,.binOp .neq t x y u,ty,pos,af,g⟩ (.bool (decide (a≠b))):=
 iP hx hy fun w=>by simp [lr,binOp,Op.stringOp,tY]
theorem se {t u:TypeId} {x y:Operand} {a b:ByteArray} (hx:Is sl x (.string a)) (hy:Is sl y (.string b)) (hb:a.size+b.size≤9223372036854775807) :
  cY P c sl hs ⟨dst,.binOp .add t x y u,ty,pos,af,g⟩ (.string (a++b)):=
 iP hx hy fun w=>by
  simp [lr,binOp,Op.stringOp]
  omega
theorem ag {t:TypeId} {n:Nat} {x:Operand} {b o:Nat} {v:Value} [Ty P t false n] (hx:Is sl x (.pointer (some ⟨b,o,none⟩))) (hv:At c hs b o v) :
  cY P c sl hs ⟨dst,.load t x,ty,pos,af,g⟩ v:=
 ⟨by simp,fun a w ha hm=>by simp [execOp,hx a ha,Instr.loadAt,Instr.sureAddr,sX (hv w hm)]⟩
theorem jc {t:TypeId} {n:Nat} {x:Operand} {b o:Nat} {vs:List Value} [Ty P t true n] (hx:Is sl x (.pointer (some ⟨b,o,none⟩))) (hv:ew c hs b o vs) (hl:vs.length=n) :
  cY P c sl hs ⟨dst,.load t x,ty,pos,af,g⟩ (.agg vs.toArray):=
 ⟨by simp,fun a w ha hm=>by simp [execOp,hx a ha,Instr.loadAt,Instr.sureAddr,oh hl (fun j v h=>hv.get j v h w hm)]⟩
def Ch (P:Program) (t:TypeId) (i:Nat):Option Nat:=
 match P.underlying t with
 | some (.struct fs) => match fs[i]? with
  | some f => match P.info? f.type with
   | some fi=>if fi.size=0 then none else some f.offset
   | none=>none
  | none=>none
 | _=>none
class eu (P:Program) (t:TypeId) (i:Nat) (o:outParam Nat):Prop where
 eq:Ch P t i=some o
theorem eu.parts {t:TypeId} {i o:Nat} [h:eu P t i o]:∃ fs f fi,P.underlying t=some (.struct fs)∧fs[i]? = some f∧P.info? f.type=some fi∧fi.size≠0∧f.offset=o:=by
 have:=h.eq
 unfold Ch at this
 split at this
 ·rename_i fs Uq
  split at this
  ·rename_i f hf
   split at this
   ·rename_i fi VQ
    split at this
    ·cases this
    ·rename_i hz;cases this;exact ⟨fs,f,fi,Uq,hf,VQ,hz,rfl⟩
   ·cases this
  ·cases this
 ·cases this
theorem au {t:TypeId} {i o:Nat} {x:Operand} {b k q:Nat} [eu P t i o] (hx:Is sl x (.pointer (some ⟨b,k,none⟩))) (he:k+o=q) :
  cY P c sl hs ⟨dst,.fieldAddr t x i,ty,pos,af,g⟩ (.pointer (some ⟨b,q,none⟩)):=
 ⟨by simp,fun a w ha _=>by
  subst he
  obtain ⟨fs,f,fi,h1,h2,h3,h4,h5⟩:=eu.parts (P:=P) (t:=t) (i:=i)
  simp only [execOp,hx a ha,Instr.fieldAt,Sem.run_bind,aV h1,Result.andThen_ok,h2,Instr.sureAddr,Sem.run_pure,fieldPlace,sizeOf,fE h3,h4,if_false,eK,h5]⟩
def partOf (agg:Bool) (n:Nat) (cs:List Value) (o:Nat):Option Value:=
 bif agg then some (.agg (ed cs o n).toArray) else tK cs o
theorem MA {t:TypeId} {agg:Bool} {n:Nat} [Ty P t agg n] {cs:List Value} {o:Nat} {v:Value} {w:World} (h:partOf agg n cs o=some v):(part t cs.toArray o).run P w=.ok v w:=by
 unfold part
 rw [Sem.run_bind,uT (agg:=agg) (n:=n),Result.andThen_ok]
 cases agg with
 | true =>
  simp only [partOf,cond_true,Option.some.injEq] at h
  simp only [if_true,Sem.run_bind,fQ (t:=t) (agg:=true) (n:=n),Result.andThen_ok,Sem.run_pure,← h,jm]
  congr 2
  simp [List.extract_eq_take_drop]
 | false =>
  simp only [partOf,cond_false,um] at h
  simp [h]
def fieldInfo (P:Program) (t:TypeId) (i:Nat):Option (Nat×TypeId):=
 match P.underlying t with
 | some (.struct fs)=>(fs[i]?).map fun f=>(f.offset,f.type)
 | _=>none
class FTy (P:Program) (t:TypeId) (i:Nat) (o:outParam Nat) (ft:outParam TypeId):Prop where
 eq:fieldInfo P t i=some (o,ft)
theorem By {t ft:TypeId} {i o n:Nat} {agg:Bool} {x:Operand} {cs:List Value} {v:Value} [h:FTy P t i o ft] [Ty P ft agg n] (hx:Is sl x (.agg cs.toArray)) (hv:partOf agg n cs o=some v) :
  cY P c sl hs ⟨dst,.field t x i,ty,pos,af,g⟩ v:=
 ⟨by
   simp,fun a w ha _=>by
  have h1:=h.eq
  unfold fieldInfo at h1
  split at h1
  ·rename_i fs Uq
   obtain ⟨f,hf,he⟩:=Zak.1 h1
   simp only [Prod.mk.injEq] at he
   obtain ⟨e1,e2⟩:=he
   subst e1;subst e2
   simp only [execOp,hx a ha,Instr.field,Sem.run_bind,aV Uq,Result.andThen_ok,hf,asAgg,Sem.run_pure,MA (agg:=agg) (n:=n) hv]
  ·cases h1⟩
theorem ar {t e:TypeId} {n:Nat} {agg:Bool} {x y:Operand} {a0:Option Addr} {b o len cap q:Nat} {k:IntKind} {i:Int} [hu:iV P t (.slice e)] [Ty P e agg n] (hx:Is sl x (.slice a0 len cap)) (hy:Is sl y (.int k i))
  (ha:a0=some ⟨b,o,none⟩) (h0:0≤i) (h1:i<len) (he:o+i.toNat*n=q):cY P c sl hs ⟨dst,.indexAddr t x y,ty,pos,af,g⟩ (.pointer (some ⟨b,q,none⟩)):=
 ⟨by simp,fun a w vv _=>by
  subst he;subst ha
  simp [execOp,hx a vv,hy a vv,Instr.indexAt,asIntOf,aV hu.eq,h0,h1,fQ (agg:=agg) (n:=n),eK]⟩
theorem gH {t e:TypeId} {n len:Nat} {agg:Bool} {x y:Operand} {b o q:Nat} {k:IntKind} {i:Int} [hu:iV P t (.array len e)] [Ty P e agg n] (hx:Is sl x (.pointer (some ⟨b,o,none⟩))) (hy:Is sl y (.int k i))
  (h0:0≤i) (h1:i<len) (he:o+i.toNat*n=q):cY P c sl hs ⟨dst,.indexAddr t x y,ty,pos,af,g⟩ (.pointer (some ⟨b,q,none⟩)):=
 ⟨by simp,fun a w ha _=>by
  subst he
  simp [execOp,hx a ha,hy a ha,Instr.indexAt,Instr.sureAddr,asIntOf,aV hu.eq,h0,h1,fQ (agg:=agg) (n:=n),eK]⟩
theorem o7 {t:TypeId} {x y:Operand} {k:IntKind} {i:Int} {s:ByteArray} [hu:iV P t .string] (hx:Is sl x (.string s)) (hy:Is sl y (.int k i))
  (h0:0≤i) (h1:i<s.size):cY P c sl hs ⟨dst,.index t x y,ty,pos,af,g⟩ (.int .u8 ((s.data.toList[i.toNat]?.getD 0).toNat:Nat)):=
 ⟨by
   simp,fun a w ha _=>by
  have aM:i.toNat<s.size:=by omega
  have hs:s[i.toNat]? = some s[i.toNat]:=getElem?_pos s i.toNat aM
  have hd:s.data.toList[i.toNat]?.getD 0=s[i.toNat]:=by
   rw [ZaD,show s.data[i.toNat]? = some s.data[i.toNat] from Zar aM]
   rfl
  simp [execOp,hx a ha,hy a ha,Instr.index,asIntOf,aV hu.eq,h0,hs,← hd]⟩
theorem Bx {f:Fn} {first captured:Array Operand} {vs us:Array Value} (h1:∀ a,bU sl a→first.map a.eval=vs) (h2:∀ a,bU sl a→captured.map a.eval=us) :
  cY P c sl hs ⟨dst,.makeFunc f first captured,ty,pos,af,g⟩ (.func f vs us):=
 ⟨by simp,fun a w ha _=>by simp [execOp,h1 a ha,h2 a ha,Instr.makeFunc]⟩
theorem dh {x:Operand} {i:Nat} {vs:List Value} {v:Value} (hx:Is sl x (.tuple vs.toArray)) (hv:tK vs i=some v):cY P c sl hs ⟨dst,.extract x i,ty,pos,af,g⟩ v:=
 ⟨by simp,fun a w ha _=>by simp [execOp,hx a ha,Instr.extract,← um,hv]⟩
theorem HX {t:TypeId} {parts:Array (Nat×Operand)} {ps:Array (Nat×Value)} {v:Value} (hp:∀ a,bU sl a→(parts.map fun (i,x)=>(i,a.eval x))=ps) (hb:∀ w,(Instr.build t ps).run P w=.ok v w) :
  cY P c sl hs ⟨dst,.build t parts,ty,pos,af,g⟩ v:=
 ⟨by simp,fun a w ha _=>by simp only [execOp,hp a ha,Sem.run_bind,hb w,Result.andThen_ok,Sem.run_pure]⟩
theorem bJ {t:TypeId} {e:TypeId} {x:Operand} {b:Option Addr} {n cap:Nat} [hu:iV P t (.slice e)] (hx:Is sl x (.slice b n cap)) :
  cY P c sl hs ⟨dst,.call ⟨.builtin .len,#[x],#[t]⟩,ty,pos,af,g⟩ (.int .i64 n):=
 ⟨by simp,fun a w ha _=>by simp [execOp,hx a ha,resolve,invoke,builtin,Builtin.len_,aV hu.eq,goInt]⟩
theorem fK {t:TypeId} {x:Operand} {s:ByteArray} [hu:iV P t .string] (hx:Is sl x (.string s)) :
  cY P c sl hs ⟨dst,.call ⟨.builtin .len,#[x],#[t]⟩,ty,pos,af,g⟩ (.int .i64 s.size):=
 ⟨by simp,fun a w ha _=>by simp [execOp,hx a ha,resolve,invoke,builtin,Builtin.len_,aV hu.eq,goInt]⟩
end
end Go.SL
namespace Go.Proofs.A1
open Go Go.SL
structure Wn where
 n:Nat
 ca:Nat→Bool
 fe:Nat→Bool
 fr:Nat→Int
 to:Nat→Int
 Ek:Int
def Wn.fin (N:Wn) (p:List Nat):Int:=match p.getLast? with | none=>N.Ek | some j=>N.to j
def Wn.step (N:Wn) (p:List Nat) (j:Nat):Bool:=decide (j<N.n)&&(!p.contains j&&((p.isEmpty&&N.ca j)||(N.fe j&&decide (N.fr j=N.fin p))))
def Wn.ok (N:Wn) (p:List Nat):Prop:=∀ k (h:k<p.length),N.step (p.take k) p[k]=true
theorem Wn.mI (N:Wn) (p:List Nat) (j:Nat):N.fin (p++[j])=N.to j:=by unfold Wn.fin;rw [List.getLast?_append];rfl
theorem Wn.sg (N:Wn):N.ok []:=fun k h=>absurd h (ZP k)
theorem Wn.kM {N:Wn} {p:List Nat} {j:Nat}:N.ok (p++[j])↔N.ok p∧N.step p j=true:=by
 constructor
 ·intro h
  constructor
  ·intro k hk
   have:=h k (by rw [Zg];omega)
   rwa [Zae (by omega),Zat hk] at this
  ·have:=h p.length (by rw [Zg];simp)
   rwa [Zae (Zz _),Zal (Zz _),Zao (Zz _),List.getElem_singleton] at this
 ·rintro ⟨h1,h2⟩ k hk
  rw [Zg] at hk
  by_cases hl:k<p.length
  ·rw [Zae (by omega),Zat hl];exact h1 k hl
  ·obtain rfl:k=p.length:=by simp at hk;omega
   rw [Zae (Zz _),Zal (Zz _),Zao (Zz _),List.getElem_singleton];exact h2
theorem Wn.EX {N:Wn} {p:List Nat} (h:N.ok p) (k:Nat):N.ok (p.take k):=by
 intro i hi
 rw [Zr] at hi
 have:=h i (by omega)
 rwa [List.take_take,Zbk (by omega),ZaL]
theorem Wn.zJ {N:Wn} {p q:List Nat} (h:N.ok p) (hp:q <+: p):N.ok q:=by
 rw [List.prefix_iff_eq_take.1 hp];exact Wn.EX h _
theorem Wn.o5 {N:Wn} {p:List Nat} {j:Nat} (h:N.step p j=true):j<N.n:=by
 unfold Wn.step at h;simp only [Zm,decide_eq_true_eq] at h;exact h.1
theorem Wn.uK {N:Wn} {p:List Nat} {j:Nat} (h:N.step p j=true):j ∉ p:=by
 unfold Wn.step at h;simp only [Zm,Zbp,List.contains_eq_mem,decide_eq_false_iff_not] at h;exact h.2.1
theorem Wn.BI {N:Wn} {p:List Nat} (h:N.ok p):p.Nodup:=by
 have key:∀ k,k≤p.length→(p.take k).Nodup:=by
  intro k
  induction k with
  | zero=>intro _;rw [Ze];exact Zaj
  | succ k ih =>
   intro hk
   rw [Zn (by omega),ZH]
   refine ⟨ih (by omega),by simp,?_⟩
   intro a ha b hb
   rw [ZB] at hb
   subst hb
   intro e
   subst e
   exact Wn.uK (h k (by omega)) ha
 have:=key p.length (Zz _)
 rwa [Zal (Zz _)] at this
theorem Wn.NR (N:Wn):N.fin []=N.Ek:=rfl
def Wn.tP (N:Wn) (p:List Nat):Nat:=p.countP N.fe
def lexB:List Nat→List Nat→Bool
 | x::a,y::b=>decide (x<y)||(decide (x=y)&&lexB a b)
 | _,_=>false
theorem oz:∀ a,lexB a a=false
 | []=>rfl
 | x::a=>by rw [lexB,oz a];simp
theorem qf:∀ {a b c:List Nat},lexB a b=true→lexB b c=true→lexB a c=true
 | [],_,_,h,_=>by cases h
 | _::_,[],_,h,_=>by cases h
 | _::_,_::_,[],_,h=>by cases h
 | x :: a, y :: b, z :: c, h1, h2 => by
  rw [lexB] at h1 h2 ⊢
  simp only [ZO,Zm,decide_eq_true_eq] at h1 h2 ⊢
  rcases h1 with h1 | ⟨h1,CR⟩ <;> rcases h2 with h2 | ⟨h2,GJ⟩
  ·exact .inl (by omega)
  ·exact .inl (by omega)
  ·exact .inl (by omega)
  ·exact .inr ⟨by omega,qf CR GJ⟩
theorem qg:∀ {a b:List Nat},a.length=b.length→a≠b→lexB a b=true∨lexB b a=true
 | [],[],_,h=>absurd rfl h
 | [],_::_,h,_=>by cases h
 | _::_,[],h,_=>by cases h
 | x :: a, y :: b, hl, h => by
  rw [lexB,lexB]
  simp only [ZO,Zm,decide_eq_true_eq]
  by_cases e:x=y
  ·subst e
   rcases qg (a:=a) (b:=b) (by simpa using hl) (fun e=>h (by rw [e])) with h | h
   ·exact .inl (.inr ⟨rfl,h⟩)
   ·exact .inr (.inr ⟨rfl,h⟩)
  ·rcases Nat.lt_or_gt_of_ne e with h | h
   ·exact .inl (.inl h)
   ·exact .inr (.inl h)
def Wn.lt (N:Wn) (a b:List Nat):Bool:=decide (N.tP a<N.tP b)||(decide (N.tP a=N.tP b)&&(decide (a.length<b.length)||(decide (a.length=b.length)&&lexB a b)))
theorem Wn.lt_irrefl (N:Wn) (a:List Nat):N.lt a a=false:=by unfold Wn.lt;rw [oz];simp
theorem Wn.lt_trans {N:Wn} {a b c:List Nat} (h1:N.lt a b=true) (h2:N.lt b c=true):N.lt a c=true:=by
 unfold Wn.lt at *
 simp only [ZO,Zm,decide_eq_true_eq] at *
 rcases h1 with h1 | ⟨h1,h1 | ⟨CR,Yw⟩⟩ <;> rcases h2 with h2 | ⟨h2,h2 | ⟨GJ,Yu⟩⟩
 ·exact .inl (by omega)
 ·exact .inl (by omega)
 ·exact .inl (by omega)
 ·exact .inl (by omega)
 ·exact .inr ⟨by omega,.inl (by omega)⟩
 ·exact .inr ⟨by omega,.inl (by omega)⟩
 ·exact .inl (by omega)
 ·exact .inr ⟨by omega,.inl (by omega)⟩
 ·exact .inr ⟨by omega,.inr ⟨by omega,qf Yw Yu⟩⟩
theorem Wn.BQ {N:Wn} {a b:List Nat} (h:a≠b):N.lt a b=true∨N.lt b a=true:=by
 unfold Wn.lt
 simp only [ZO,Zm,decide_eq_true_eq]
 rcases Zam (N.tP a) (N.tP b) with h1 | h1 | h1
 ·exact .inl (.inl h1)
 ·rcases Zam a.length b.length with h2 | h2 | h2
  ·exact .inl (.inr ⟨h1,.inl h2⟩)
  ·rcases qg h2 h with h3 | h3
   ·exact .inl (.inr ⟨h1,.inr ⟨h2,h3⟩⟩)
   ·exact .inr (.inr ⟨h1.symm,.inr ⟨h2.symm,h3⟩⟩)
  ·exact .inr (.inr ⟨h1.symm,.inl h2⟩)
 ·exact .inr (.inl h1)
theorem Wn.IC {N:Wn} {q p:List Nat} (h:q <+: p):q=p∨N.lt q p=true:=by
 obtain ⟨r,rfl⟩:=h
 cases r with
 | nil=>exact .inl (ZU q).symm
 | cons x r =>
  refine .inr ?_
  unfold Wn.lt Wn.tP
  simp only [ZO,Zm,decide_eq_true_eq]
  rw [List.countP_append,Zg,ZL]
  by_cases h0:List.countP N.fe (x::r)=0
  ·exact .inr ⟨by omega,.inl (by omega)⟩
  ·exact .inl (by omega)
def Wn.least (N:Wn) (d:Int) (p:List Nat):Prop:=N.ok p∧N.fin p=d∧∀ q,N.ok q→N.fin q=d→N.lt q p=false
theorem Wn.DI {N:Wn} {d:Int} {p q:List Nat} (hp:N.least d p) (hq:N.least d q):p=q:=by
 by_cases h:p=q
 ·exact h
 ·rcases Wn.BQ (N:=N) h with h | h
  ·rw [hq.2.2 p hp.1 hp.2.1] at h;cases h
  ·rw [hp.2.2 q hq.1 hq.2.1] at h;cases h
def Wn.all (N:Wn) (d:Int):Nat→List Nat→List (List Nat)
 | 0,_=>[]
 | k+1,p=>(if N.fin p=d then [p] else [])++((List.range N.n).filter (N.step p)).flatMap fun j=>N.all d k (p++[j])
theorem Wn.zO {N:Wn} {d:Int} {q:List Nat}:∀ {k:Nat} {p:List Nat},N.ok p→q∈N.all d k p→N.ok q∧N.fin q=d
 | 0,_,_,h=>by cases h
 | k + 1, p, ho, h => by
  rw [Wn.all,Zx] at h
  rcases h with h | h
  ·split at h
   ·rw [ZB] at h;subst h;exact ⟨ho,‹_›⟩
   ·cases h
  ·obtain ⟨j,hj,h⟩:=List.mem_flatMap.1 h
   exact Wn.zO (Wn.kM.2 ⟨ho,(Zv.1 hj).2⟩) h
theorem Wn.Az {N:Wn} {d:Int}:∀ {k:Nat} {p r:List Nat},N.ok (p++r)→N.fin (p++r)=d→r.length<k→p++r∈N.all d k p
 | 0,_,_,_,_,h=>absurd h (ZP _)
 | k + 1, p, [], ho, hf, _ => by
  rw [ZU] at *
  rw [Wn.all,if_pos hf]
  simp
 | k + 1, p, j :: r, ho, hf, hk => by
  have e:p++j::r=(p++[j])++r:=by simp
  rw [e] at ho hf ⊢
  have h1:=Wn.zJ ho (Zbh (p++[j]) r)
  have h2:=(Wn.kM.1 h1).2
  rw [Wn.all,Zx]
  refine .inr (List.mem_flatMap.2 ⟨j,Zv.2 ⟨ZQ.2 (Wn.o5 h2),h2⟩,?_⟩)
  exact Wn.Az ho hf (by rw [ZL] at hk;omega)
def Wn.Sz (N:Wn) (x:List Nat):List Nat:=(List.range N.n).filter (N.step x)
def Wn.exts (N:Wn) (x:List Nat):List (List Nat):=(N.Sz x).map fun j=>x++[j]
structure Wn.Inv (N:Wn) (d:Int) (Q:List (List Nat)):Prop where
 ok:∀ q∈Q,N.ok q∧q≠[]
 cover:∀ p,N.ok p→N.fin p=d→∃ q∈Q,q <+: p
theorem Wn.Gs {N:Wn} {d:Int} (h:N.Ek≠d) {Q:List (List Nat)} (hQ:∀ q,q∈Q↔q∈N.exts []):N.Inv d Q:=by
 constructor
 ·intro q hq
  obtain ⟨j,hj,rfl⟩:=Zt.1 ((hQ q).1 hq)
  exact ⟨Wn.kM.2 ⟨N.sg,(Zv.1 hj).2⟩,by simp⟩
 ·intro p hp hf
  cases p with
  | nil=>exact absurd hf h
  | cons j r =>
   have h1:N.ok ([]++[j]):=Wn.zJ hp ⟨r,rfl⟩
   have h2:=(Wn.kM.1 h1).2
   exact ⟨[j],(hQ _).2 (Zt.2 ⟨j,Zv.2 ⟨ZQ.2 (Wn.o5 h2),h2⟩,rfl⟩),⟨r,rfl⟩⟩
theorem Wn.Gr {N:Wn} {d:Int} {Q:List (List Nat)} {x:List Nat} (h:N.Inv d Q) (hx:x∈Q) (hm:∀ q∈Q,N.lt q x=false) (hf:N.fin x=d):N.least d x:=by
 refine ⟨(h.ok x hx).1,hf,fun q hq hfq=>?_⟩
 obtain ⟨c,hc,hp⟩:=h.cover q hq hfq
 have h0:=hm c hc
 rcases Wn.IC (N:=N) hp with e | e
 ·rwa [← e]
 ·cases hb:N.lt q x with
  | false=>rfl
  | true=>rw [Wn.lt_trans e hb] at h0;exact h0
theorem Wn.IS {N:Wn} {d:Int} {Q R:List (List Nat)} {x:List Nat} (h:N.Inv d Q) (hQ:∀ q,q∈Q↔q=x∨q∈R) (hf:N.fin x≠d):N.Inv d (R++N.exts x):=by
 have hx:=h.ok x ((hQ x).2 (.inl rfl))
 constructor
 ·intro q hq
  rcases Zx.1 hq with hq | hq
  ·exact h.ok q ((hQ q).2 (.inr hq))
  ·obtain ⟨j,hj,rfl⟩:=Zt.1 hq
   exact ⟨Wn.kM.2 ⟨hx.1,(Zv.1 hj).2⟩,by simp⟩
 ·intro p hp GB
  obtain ⟨c,hc,r,rfl⟩:=h.cover p hp GB
  rcases (hQ c).1 hc with rfl | hc
  ·cases r with
   | nil=>rw [ZU] at GB;exact absurd GB hf
   | cons j r =>
    have e:c++j::r=(c++[j])++r:=by simp
    rw [e] at hp ⊢
    have h2:=(Wn.kM.1 (Wn.zJ hp (Zbh (c++[j]) r))).2
    exact ⟨c++[j],Zx.2 (.inr (Zt.2 ⟨j,Zv.2 ⟨ZQ.2 (Wn.o5 h2),h2⟩,rfl⟩)),⟨r,rfl⟩⟩
  ·exact ⟨c,Zx.2 (.inl hc),⟨r,rfl⟩⟩
theorem Wn.IQ {N:Wn} {d:Int} (h:N.Inv d []):∀ p,N.ok p→N.fin p≠d:=fun p hp hf=>by
 obtain ⟨q,hq,_⟩:=h.cover p hp hf
 cases hq
theorem kX:∀ (n:Nat) (l:List Nat),l.Nodup→(∀ x∈l,x<n)→l.length≤n
 | 0, l, _, h => by
  cases l with
  | nil=>exact Zz _
  | cons x l=>exact absurd (h x (by simp)) (ZP _)
 | n + 1, l, hn, h => by
  have:=kX n (l.erase n) (hn.erase n) fun x hx=>by
   have h1:=h x (List.mem_of_mem_erase hx)
   have h2:=(List.Nodup.mem_erase_iff hn).1 hx
   omega
  by_cases hm:n∈l
  ·rw [ZaF hm] at this;omega
  ·rw [List.erase_of_not_mem hm] at this;omega
theorem Wn.BJ {N:Wn} {p:List Nat} (h:N.ok p):∀ x∈p,x<N.n:=by
 intro x hx
 obtain ⟨k,hk,rfl⟩:=Zu hx
 exact Wn.o5 (h k hk)
theorem Wn.u9 {N:Wn} {p:List Nat} (h:N.ok p):p.length≤N.n:=kX _ _ (Wn.BI h) (Wn.BJ h)
theorem Wn.MV {N:Wn} {x:List Nat} (h:N.ok x):x.length+(N.Sz x).length≤N.n:=by
 rw [← Zg]
 refine kX _ _ ?_ ?_
 ·rw [ZH]
  refine ⟨Wn.BI h,(Zbs).filter _,?_⟩
  intro a ha b hb e
  subst e
  exact Wn.uK (Zv.1 hb).2 ha
 ·intro y hy
  rcases Zx.1 hy with hy | hy
  ·exact Wn.BJ h y hy
  ·exact ZQ.1 (Zv.1 hy).1
def pF:Nat→Nat
 | 0=>1
 | m+1=>1+(m+1)*pF m
theorem xF:∀ m,1≤pF m
 | 0=>Zz _
 | m+1=>by rw [pF];omega
def Wn.wt (N:Wn):List (List Nat)→Nat
 | []=>0
 | q::Q=>pF (N.n-q.length)+N.wt Q
theorem Wn.xy (N:Wn):∀ A B,N.wt (A++B)=N.wt A+N.wt B
 | [],B=>by rw [Za,Wn.wt,ZC]
 | q::A,B=>by rw [Zb,Wn.wt,Wn.wt,Wn.xy N A B,Nat.add_assoc]
theorem Wn.Et {N:Wn} {A B:List (List Nat)} (h:A.Perm B):N.wt A=N.wt B:=by
 induction h with
 | nil=>rfl
 | cons x _ ih=>rw [Wn.wt,Wn.wt,ih]
 | swap x y l=>rw [Wn.wt,Wn.wt,Wn.wt,Wn.wt];omega
 | trans _ _ h1 h2=>rw [h1,h2]
theorem Wn.Ha (N:Wn):∀ Q:List (List Nat),Q.length≤N.wt Q
 | []=>Zz _
 | q::Q=>by rw [Wn.wt,ZL];have:=N.Ha Q;have:=xF (N.n-q.length);omega
theorem Wn.CV (N:Wn) (x:List Nat):∀ l:List Nat,N.wt (l.map fun j=>x++[j])=l.length*pF (N.n-(x.length+1))
 | []=>by rw [Zf,Wn.wt,Zai,Zbu]
 | j :: l => by
  rw [Z8,Wn.wt,N.CV x l,Zg,show (j::l).length=l.length+1 from rfl,Zaf]
  show pF (N.n-(x.length+1))+_=_
  omega
theorem Wn.LL {N:Wn} {x:List Nat} (h:N.ok x):N.wt (N.exts x)<pF (N.n-x.length):=by
 unfold Wn.exts
 rw [Wn.CV]
 have hf:=Wn.MV h
 by_cases h0:(N.Sz x).length=0
 ·rw [h0,Zbu];exact xF _
 ·obtain ⟨m,hm⟩:∃ m,N.n-x.length=m+1:=⟨N.n-x.length-1,by omega⟩
  rw [hm,show N.n-(x.length+1)=m by omega,pF]
  have:=Z7 (pF m) (show (N.Sz x).length≤m+1 by omega)
  omega
end Go.Proofs.A1
namespace Go.Proofs.A1
def ch (h:Bool) (e:Int):Int:=bif h then e else 0
theorem bO {h:Bool} {e:Int} (he:e≠0):ch h e=0↔h=false:=by cases h <;> simp [ch,he]
def gp (n l m:Int):Int:=ch (decide (n<l)||decide (m<n)) 3
theorem gn {n l m:Int}:gp n l m=0↔l≤n∧n≤m:=by
 unfold gp
 rw [bO (by decide)]
 simp
def aX:List Int→Int
 | []=>0
 | e::r=>if e≠0 then e else aX r
theorem cy:∀ {l:List Int},aX l=0↔∀ e∈l,e=0
 | []=>by simp [aX]
 | e :: r => by
  unfold aX
  by_cases h:e=0
  ·simp [h,cy (l:=r)]
  ·simp [h]
theorem sF {es:List Int} {k:Nat} (h:k<es.length):aX (es.drop k)=if es[k]≠0 then es[k] else aX (es.drop (k+1)):=by
 rw [List.drop_eq_getElem_cons h];rfl
def qu (f:Nat→Int):Nat→Nat→Int
 | _,0=>0
 | k,n+1=>if f k≠0 then f k else qu f (k+1) n
def jE (f:Nat→Int) (n:Nat):Int:=qu f 0 n
theorem yH {f:Nat→Int}:∀ {n k:Nat},qu f k n=0↔∀ i,k≤i→i<k+n→f i=0
 | 0,k=>by simp only [qu,true_iff];intro i h1 h2;omega
 | n + 1, k => by
  unfold qu
  by_cases h:f k=0
  ·rw [if_neg (by simpa using h),yH]
   constructor
   ·intro g i h1 h2
    by_cases e:i=k
    ·rw [e];exact h
    ·exact g i (by omega) (by omega)
   ·intro g i h1 h2;exact g i (by omega) (by omega)
  ·rw [if_pos h]
   constructor
   ·intro e;exact absurd e h
   ·intro g;exact absurd (g k (Nat.le_refl _) (by omega)) h
theorem dS {f:Nat→Int} {n:Nat}:jE f n=0↔∀ i,i<n→f i=0:=by
 unfold jE
 rw [yH]
 constructor
 ·intro g i h;exact g i (Nat.zero_le _) (by omega)
 ·intro g i _ h;exact g i (by omega)
theorem vM {f:Nat→Int}:∀ {n k j:Nat},(∀ i,k≤i→i<j→f i=0)→k≤j→j<k+n→f j≠0→qu f k n=f j
 | 0,k,j,_,h1,h2,_=>by omega
 | n + 1, k, j, h, h1, h2, h3 => by
  unfold qu
  by_cases e:k=j
  ·subst e;rw [if_pos h3]
  ·rw [if_neg (by simpa using h k (Nat.le_refl _) (by omega))]
   exact vM (fun i h4 h5=>h i (by omega) h5) (by omega) (by omega) h3
theorem eW {f:Nat→Int} {n j:Nat} (h:∀ i,i<j→f i=0) (hj:j<n) (hn:f j≠0):jE f n=f j:=
 vM (fun i _ h2=>h i h2) (Nat.zero_le _) (by omega) hn
theorem D9 {f g:Nat→Int} {n:Nat} (h:∀ j,j<n→(∀ i,i<j→f i=0)→f j=g j):jE f n=jE g n:=by
 by_cases hf:∀ i,i<n→f i=0
 ·rw [dS.2 hf]
  symm
  refine dS.2 fun i hi=>?_
  rw [← h i hi fun k hk=>hf k (by omega)]
  exact hf i hi
 ·have:∃ j,j<n∧f j≠0∧∀ i,i<j→f i=0:=by
   apply Classical.byContradiction
   intro hc
   apply hf
   intro i
   induction i using Nat.strongRecOn with
   | _ i ih =>
    intro hi
    apply Classical.byContradiction
    intro hne
    exact hc ⟨i,hi,hne,fun k hk=>ih k hk (by omega)⟩
  obtain ⟨j,hj,hne,hb⟩:=this
  rw [eW hb hj hne,h j hj hb]
  symm
  have he:=h j hj hb
  refine eW (fun i hi=>?_) hj (by rw [← he];exact hne)
  rw [← h i (by omega) fun k hk=>hb k (by omega)]
  exact hb i hi
def bt (s:ByteArray) (i:Nat):Int:=((s.data.toList[i]?.getD 0).toNat:Nat)
def Gq (c:Int):Bool:=(decide (65≤c)&&decide (c≤90))||(decide (97≤c)&&decide (c≤122))
def TA (c:Int):Bool:=decide (48≤c)&&decide (c≤57)
def okB (c:Int):Bool:=Gq c||TA c||decide (c=95)
def okF (s:ByteArray) (k:Nat):Bool:=(List.range' k (s.size-k)).all fun i=>okB (bt s i)
theorem zK {s:ByteArray} {k:Nat} (h:k<s.size):okF s k=(okB (bt s k)&&okF s (k+1)):=by
 unfold okF
 rw [show s.size-k=(s.size-(k+1))+1 by omega,List.range'_succ]
 rfl
theorem EY {s:ByteArray} {k:Nat} (h:s.size≤k):okF s k=true:=by
 unfold okF
 rw [show s.size-k=0 by omega];rfl
def j6 (s:ByteArray):Bool:=decide (0<s.size)&&decide (s.size≤24)&&Gq (bt s 0)&&okF s 1
def nmF (s:ByteArray):Int:=ch (!j6 s) 8
end Go.Proofs.A1
namespace Go.Proofs.A1
open Go Go.SL
structure Sr where
 nm:ByteArray
 mx:Int
 deriving DecidableEq
structure De where
 nm:ByteArray
 mx:Int
 pr:Bool
 deriving DecidableEq
structure Ti where
 nm:ByteArray
 fr:Int
 to:Int
 deriving DecidableEq
structure Po where
 lv:Int
 ou:ByteArray
 ip:ByteArray
 deriving DecidableEq
structure Ro where
 lv:Int
 ma:Int
 sr:List Sr
 de:List De
 ti:List Ti
 po:List Po
 deriving DecidableEq
def Ej (v:Int) (o:ByteArray) (p:Po):Bool:=decide (p.lv=v)&&decide (p.ou=o)
def zX (v:Int) (i:ByteArray) (p:Po):Bool:=decide (p.lv=v)&&decide (p.ip=i)
def ek (po:List Po) (v:Int) (o:ByteArray):Option ByteArray:=(po.find? (Ej v o)).map Po.ip
def nH (po:List Po) (v:Int) (i:ByteArray):Bool:=po.any (zX v i)
def gV (po:List Po) (v:Int) (o:ByteArray):Bool:=(ek po v o).isSome
def eI (po:List Po) (v:Int):Nat→ByteArray→List ByteArray
 | 0,_=>[]
 | k + 1, o => match ek po v o with
  | none=>[]
  | some i=>i::eI po v k i
theorem rL {po:List Po} {v:Int} {o:ByteArray} (h:ek po v o=none):∀ k,eI po v k o=[]
 | 0=>rfl
 | k+1=>by rw [eI,h]
theorem lz {po:List Po} {v:Int} {o i:ByteArray} (h:ek po v o=some i) (k:Nat):eI po v (k+1) o=i::eI po v k i:=by rw [eI,h]
theorem iC (po:List Po) (v:Int):∀ k o,(eI po v k o).length≤k
 | 0,_=>Zz _
 | k + 1, o => by
  rw [eI]
  split
  ·exact Zi _
  ·rw [ZL];have:=iC po v k ‹_›;omega
theorem Cy {po:List Po} {v:Int}:∀ {k:Nat} {o:ByteArray},(eI po v k o).length<k→∀ m,k≤m→eI po v m o=eI po v k o
 | 0,_,h,_,_=>absurd h (ZP _)
 | k + 1, o, h, m, hm => by
  obtain ⟨m,rfl⟩:∃ j,m=j+1:=⟨m-1,by omega⟩
  rw [eI,eI]
  cases hi:ek po v o with
  | none=>rfl
  | some i =>
   rw [eI,hi,ZL] at h
   show i::_=i::_
   rw [Cy (k:=k) (by omega) m (by omega)]
theorem Cw {po:List Po} {v:Int}:∀ {k m:Nat} {o:ByteArray},k≤m→(eI po v m o).take k=eI po v k o
 | 0,_,_,_=>by rw [Ze];rfl
 | k + 1, m, o, h => by
  obtain ⟨m,rfl⟩:∃ j,m=j+1:=⟨m-1,by omega⟩
  rw [eI,eI]
  cases ek po v o with
  | none=>rfl
  | some i =>
   show (i::eI po v m i).take (k+1)=i::eI po v k i
   rw [List.take_succ_cons,Cw (by omega)]
def mj (po:List Po) (v:Int):Nat→ByteArray→Option ByteArray
 | 0,o=>some o
 | k+1,o=>(ek po v o).bind (mj po v k)
theorem j4 {po:List Po} {v:Int}:∀ {a b:Nat} {o:ByteArray},mj po v (a+b) o=(mj po v a o).bind (mj po v b)
 | 0,b,o=>by rw [ZC];rfl
 | a + 1, b, o => by
  rw [show a+1+b=(a+b)+1 by omega,mj,mj]
  cases ek po v o with
  | none=>rfl
  | some i=>exact j4
theorem gr {po:List Po} {v:Int} {a b:Nat} {o:ByteArray} (h:a≤b) (hb:(mj po v b o).isSome=true):(mj po v a o).isSome=true:=by
 obtain ⟨c,rfl⟩:∃ c,b=a+c:=⟨b-a,by omega⟩
 rw [j4] at hb
 cases h1:mj po v a o with
 | none=>rw [h1] at hb;cases hb
 | some x=>rfl
theorem ku {po:List Po} {v:Int}:∀ {k:Nat} {o:ByteArray} {j:Nat},j<k→(eI po v k o)[j]? = mj po v (j+1) o
 | 0,_,_,h=>absurd h (ZP _)
 | k + 1, o, j, h => by
  rw [eI,mj]
  cases ek po v o with
  | none=>rfl
  | some i =>
   cases j with
   | zero=>rfl
   | succ j =>
    show (i::eI po v k i)[j+1]? = mj po v (j+1) i
    rw [ZaX,ku (by omega)]
theorem qB {po:List Po} {v:Int} {k:Nat} {o:ByteArray}:(eI po v k o).length=k↔(mj po v k o).isSome=true:=by
 cases k with
 | zero=>exact ⟨fun _=>rfl,fun _=>rfl⟩
 | succ k =>
  rw [← ku (Nat.lt_add_one k)]
  have:=iC po v (k+1) o
  constructor
  ·intro h;rw [Zc (by omega)];rfl
  ·intro h
   apply Classical.byContradiction
   intro hn
   rw [Zah (by omega)] at h
   cases h
theorem uj {po:List Po} {v:Int} {k:Nat} {o x:ByteArray}:x∈eI po v k o↔∃ j,j<k∧mj po v (j+1) o=some x:=by
 constructor
 ·intro h
  obtain ⟨j,hj,e⟩:=Zu h
  have hk:=iC po v k o
  refine ⟨j,by omega,?_⟩
  rw [← ku (by omega:j<k),Zc hj,e]
 ·rintro ⟨j,hj,e⟩
  rw [← ku hj] at e
  exact ZV e
theorem yo {α:Type} [DecidableEq α]:∀ {X T:List α},X.Nodup→(∀ x∈X,x∈T)→X.length≤T.length
 | [],_,_,_=>Zi _
 | x :: X, T, hn, h => by
  have hx:=h x (by simp)
  rw [List.nodup_cons] at hn
  have:=yo (X:=X) (T:=T.erase x) hn.2 fun y hy=>(List.mem_erase_of_ne (a:=y) (b:=x) (fun e=>by rw [e] at hy;exact hn.1 hy)).2 (h y (ZW _ hy))
  rw [ZaF hx] at this
  have:=List.length_pos_of_mem hx
  rw [ZL];omega
theorem Gk {α:Type} [DecidableEq α] {X:List α} (h:¬ X.Nodup):∃ i j,∃ (hi:i<X.length) (hj:j<X.length),i<j∧X[i]=X[j]:=by
 apply Classical.byContradiction
 intro hn
 apply h
 rw [List.nodup_iff_pairwise_ne,Z4]
 intro i j hi hj wY e
 exact hn ⟨i,j,hi,hj,wY,e⟩
theorem Kz {po:List Po} {v:Int} {T:List ByteArray} (hT:∀ o i,ek po v o=some i→(ek po v i).isSome=true→i∈T) {o:ByteArray} (ho:(mj po v (T.length+2) o).isSome=true∨o∈T∧(mj po v (T.length+1) o).isSome=true):∃ t∈T,t∈eI po v (T.length+1) t:=by
 obtain ⟨s,hs,dZ⟩:∃ s,(mj po v (s+T.length+1) o).isSome=true∧∀ k,k≤T.length→∃ x,mj po v (s+k) o=some x∧x∈T:=by
  rcases ho with ho | ⟨hoT,ho⟩
  ·refine ⟨1,by rw [show 1+T.length+1=T.length+2 by omega];exact ho,fun k hk=>?_⟩
   have h0:=gr (a:=k) (by omega) ho
   have h1:=gr (a:=1+k) (by omega) ho
   have h2:=gr (a:=1+k+1) (by omega) ho
   obtain ⟨y,hy⟩:=Zad.1 h0
   obtain ⟨x,hx⟩:=Zad.1 h1
   refine ⟨x,hx,hT y x ?_ ?_⟩
   ·rw [show 1+k=k+1 by omega,j4,hy] at hx
    simpa [mj] using hx
   ·rw [j4,hx] at h2
    simpa [mj] using h2
  ·refine ⟨0,by rw [ZC];exact ho,fun k hk=>?_⟩
   rw [ZC]
   cases k with
   | zero=>exact ⟨o,rfl,hoT⟩
   | succ k =>
    have h0:=gr (a:=k) (by omega) ho
    have h1:=gr (a:=k+1) (by omega) ho
    have h2:=gr (a:=k+1+1) (by omega) ho
    obtain ⟨y,hy⟩:=Zad.1 h0
    obtain ⟨x,hx⟩:=Zad.1 h1
    refine ⟨x,hx,hT y x ?_ ?_⟩
    ·rw [j4,hy] at hx
     simpa [mj] using hx
    ·rw [j4,hx] at h2
     simpa [mj] using h2
 let X:=(List.range (T.length+1)).map fun k=>(mj po v (s+k) o).getD ⟨#[]⟩
 have hXl:X.length=T.length+1:=by simp [X]
 have hX:∀ k (h:k<X.length),mj po v (s+k) o=some X[k]:=fun k h=>by
  obtain ⟨x,hx,_⟩:=dZ k (by omega)
  simp [X,hx]
 have hn:¬ X.Nodup:=fun hn=>by
  have:=yo (T:=T) hn fun x hx=>by
   obtain ⟨k,hk,rfl⟩:=Zu hx
   obtain ⟨y,hy,WM⟩:=dZ k (by omega)
   rw [hX k hk] at hy
   cases hy
   exact WM
  omega
 obtain ⟨i,j,hi,hj,wY,e⟩:=Gk hn
 have h1:=hX i hi
 have h2:=hX j hj
 obtain ⟨y,hy,WM⟩:=dZ i (by omega)
 rw [h1] at hy
 cases hy
 refine ⟨X[i],WM,uj.2 ⟨j-i-1,by omega,?_⟩⟩
 rw [show s+j=(s+i)+(j-i-1+1) by omega,j4,h1] at h2
 rw [e]
 rw [e] at h2
 exact h2
theorem N5 {po:List Po} {v:Int} {m:Nat} {t:ByteArray} (h:t∈eI po v m t):∀ k,(mj po v k t).isSome=true:=by
 obtain ⟨j,_,hj⟩:=uj.1 h
 have key:∀ n,mj po v (n*(j+1)) t=some t:=fun n=>by
  induction n with
  | zero=>rw [Zbu];rfl
  | succ n ih=>rw [Zaf,j4,ih];exact hj
 intro k
 refine gr (b:=k*(j+1)) (Nat.le_mul_of_pos_right _ (by omega)) ?_
 rw [key];rfl
theorem Ky {po:List Po} {v:Int} {T:List ByteArray} (hT:∀ o i,ek po v o=some i→(ek po v i).isSome=true→i∈T) (h6:T.length≤6):(∃ t∈T,t∈eI po v (T.length+1) t)↔∃ t∈T,(eI po v 7 t).length=7:=by
 constructor
 ·rintro ⟨t,ht,h⟩
  exact ⟨t,ht,qB.2 (N5 h 7)⟩
 ·rintro ⟨t,ht,h⟩
  exact Kz hT (.inr ⟨ht,gr (b:=7) (by omega) (qB.1 h)⟩)
theorem mJ {po:List Po} {v:Int} {T:List ByteArray} (hT:∀ o i,ek po v o=some i→(ek po v i).isSome=true→i∈T) (hc:¬ ∃ t∈T,t∈eI po v (T.length+1) t) (o:ByteArray) {m:Nat} (hm:T.length+1≤m):eI po v m o=eI po v (T.length+1) o:=by
 have h2:(eI po v (T.length+2) o).length<T.length+2:=by
  have h0:=iC po v (T.length+2) o
  rcases Zbo (eI po v (T.length+2) o).length (T.length+2) with h | h
  ·exact h
  ·exact absurd (Kz hT (.inl (qB.1 (show (eI po v (T.length+2) o).length=T.length+2 by omega)))) hc
 have h3:eI po v (T.length+1) o=eI po v (T.length+2) o:=by
  rw [← Cw (o:=o) (by omega:T.length+1≤T.length+2),Zal (by omega)]
 rcases Zbo m (T.length+2) with h | h
 ·rw [show m=T.length+1 by omega]
 ·rw [Cy h2 m h,h3]
def bE:List ByteArray→ByteArray→Int
 | [],_=>-1
 | x::l,s=>if x=s then 0 else if bE l s<0 then -1 else bE l s+1
theorem Ko (l:List ByteArray) (s:ByteArray):-1≤bE l s:=by
 induction l with
 | nil=>exact Int.le_refl _
 | cons x l ih =>
  rw [bE]
  split
  ·omega
  ·split <;> omega
theorem cm {l:List ByteArray} {s:ByteArray}:bE l s<0↔s ∉ l:=by
 induction l with
 | nil=>simp [bE]
 | cons x l ih =>
  rw [bE,ZS,not_or]
  by_cases e:x=s
  ·rw [if_pos e];constructor
   ·intro h;omega
   ·intro h;exact absurd e.symm h.1
  ·rw [if_neg e]
   by_cases h:bE l s<0
   ·rw [if_pos h];exact ⟨fun _=>⟨fun q=>e q.symm,ih.1 h⟩,fun _=>by omega⟩
   ·rw [if_neg h];exact ⟨fun q=>by have:=Ko l s;omega,fun q=>absurd (ih.2 q.2) h⟩
theorem qt:∀ {l:List ByteArray} {s:ByteArray} {i:Nat} (h:i<l.length),l[i]=s→(∀ j (hj:j<i),l[j]'(by omega)≠s)→bE l s=(i:Nat)
 | x::l,s,0,_,e,_=>by rw [bE,if_pos (show x=s from e)];rfl
 | x :: l, s, i + 1, h, e, hb => by
  have h0:x≠s:=hb 0 (by omega)
  have ih:=qt (l:=l) (s:=s) (i:=i) (by rw [ZL] at h;omega) e fun j hj=>hb (j+1) (by omega)
  rw [bE,if_neg h0,ih,if_neg (by omega)];omega
theorem Ah {l:List ByteArray} {s:ByteArray} (h:∀ j (hj:j<l.length),l[j]≠s):bE l s = -1:=by
 have h1:=Ko l s
 have h2:bE l s<0:=cm.2 fun hm=>by
  obtain ⟨j,hj,e⟩:=Zu hm
  exact h j hj e
 omega
theorem fq {l:List ByteArray} {s:ByteArray} (h:0≤bE l s):∃ hl:(bE l s).toNat<l.length,l[(bE l s).toNat]=s:=by
 induction l with
 | nil=>simp [bE] at h
 | cons x l ih =>
  by_cases e:x=s
  ·have:bE (x::l) s=0:=by rw [bE,if_pos e]
   rw [this]
   exact ⟨Nat.zero_lt_succ _,e⟩
  ·by_cases h0:bE l s<0
   ·rw [bE,if_neg e,if_pos h0] at h;omega
   ·obtain ⟨hl,hg⟩:=ih (by omega)
    have:bE (x::l) s=bE l s+1:=by rw [bE,if_neg e,if_neg h0]
    have e1:(bE (x::l) s).toNat=(bE l s).toNat+1:=by rw [this];omega
    have key:∀ n,n=(bE l s).toNat+1→∃ hl:n<(x::l).length,(x::l)[n]=s:=fun n hn=>by
     subst hn
     exact ⟨by rw [ZL];omega,hg⟩
    exact key _ e1
def cF (r:Ro):List ByteArray:=r.sr.map Sr.nm
def cq (r:Ro):List ByteArray:=r.de.map De.nm
def cM (r:Ro):List ByteArray:=r.ti.map Ti.nm
def ef (r:Ro):List ByteArray:=cF r++cq r++cM r
def dX (r:Ro) (s:ByteArray):Int:=if 0≤bE (cq r) s then bE (cq r) s else if 0≤bE (cM r) s then (r.de.length:Nat)+bE (cM r) s else -1
def kC (r:Ro) (s:ByteArray):Int:=if 0≤bE (cq r) s then (r.de.getD (bE (cq r) s).toNat ⟨⟨#[]⟩,0,false⟩).mx else if 0≤bE (cM r) s then (r.ti.getD (bE (cM r) s).toNat ⟨⟨#[]⟩,0,0⟩).fr else -1
def j7 (r:Ro) (s:ByteArray):Int:=if 0≤bE (cF r) s then (r.sr.getD (bE (cF r) s).toNat ⟨⟨#[]⟩,0⟩).mx else if 0≤bE (cM r) s then (r.ti.getD (bE (cM r) s).toNat ⟨⟨#[]⟩,0,0⟩).to else -1
theorem Ii {r:Ro} {s:ByteArray}:dX r s<0↔s ∉ cq r∧s ∉ cM r:=by
 unfold dX
 by_cases h1:bE (cq r) s<0
 ·rw [if_neg (by omega)]
  by_cases h2:bE (cM r) s<0
  ·rw [if_neg (by omega)];exact ⟨fun _=>⟨cm.1 h1,cm.1 h2⟩,fun _=>by omega⟩
  ·rw [if_pos (by omega)];exact ⟨fun h=>by omega,fun h=>absurd (cm.2 h.2) h2⟩
 ·rw [if_pos (by omega)];exact ⟨fun h=>absurd h h1,fun h=>absurd (cm.2 h.1) h1⟩
def sU (po:List Po):Prop:=∀ p∈po,∀ q∈po,p.lv=q.lv→p.ou=q.ou→p=q
theorem sU.filter {po:List Po} (h:sU po) (f:Po→Bool):sU (po.filter f):=fun p hp q hq=>h p (Zv.1 hp).1 q (Zv.1 hq).1
theorem fF {po:List Po} {v:Int} {o i:ByteArray} (h:ek po v o=some i):∃ p∈po,p.lv=v∧p.ou=o∧p.ip=i:=by
 unfold ek at h
 obtain ⟨p,hp,e⟩:=Zak.1 h
 have h1:=List.find?_some hp
 unfold Ej at h1
 rw [Zm,decide_eq_true_eq,decide_eq_true_eq] at h1
 exact ⟨p,ZaR hp,h1.1,h1.2,e⟩
theorem nk {po:List Po} (h1:sU po) {p:Po} (hp:p∈po):ek po p.lv p.ou=some p.ip:=by
 cases h:po.find? (Ej p.lv p.ou) with
 | none =>
  have:=ZaJ.1 h p hp
  unfold Ej at this
  simp at this
 | some q =>
  have hq:=List.find?_some h
  unfold Ej at hq
  rw [Zm,decide_eq_true_eq,decide_eq_true_eq] at hq
  have:=h1 q (ZaR h) p hp hq.1 hq.2
  unfold ek
  rw [h,this];rfl
theorem ie {po:List Po} {v:Int} {o:ByteArray}:ek po v o=none↔∀ p∈po,¬(p.lv=v∧p.ou=o):=by
 unfold ek
 rw [Option.map_eq_none_iff,ZaJ]
 constructor
 ·intro h p hp hq
  have:=h p hp
  unfold Ej at this
  rw [hq.1,hq.2] at this
  simp at this
 ·intro h p hp
  unfold Ej
  rw [Zm,decide_eq_true_eq,decide_eq_true_eq]
  exact h p hp
theorem Ng {po qo:List Po} (h1:sU po) (hs:∀ p∈qo,p∈po) {v:Int} {o i:ByteArray} (h:ek qo v o=some i):ek po v o=some i:=by
 obtain ⟨p,hp,rfl,rfl,rfl⟩:=fF h
 exact nk h1 (hs p hp)
inductive Nd (po:List Po) (D:List ByteArray):Po→Prop
 | de {p:Po}:p∈po→p.ou∈D→Nd po D p
 | up {p q:Po}:p∈po→q.lv=p.lv→q.ip=p.ou→Nd po D q→Nd po D p
theorem OH {po S:List Po} {D:List ByteArray} (h1:sU po) (hS:∀ p∈S,p∈po) (hu:∀ p∈S,p.ou∈D∨∃ q∈S,q.lv=p.lv∧q.ip=p.ou) {N:Nat} (hN:∀ v o m,N≤m→eI po v m o=eI po v N o) :
  ∀ n p,p∈S→N-(eI po p.lv N p.ou).length≤n→Nd po D p
 | n, p, hp, hn => by
  rcases hu p hp with hd | ⟨q,hq,hv,hi⟩
  ·exact .de (hS p hp) hd
  ·have oG:=nk h1 (hS q hq)
   rw [hv,hi] at oG
   have hc:eI po p.lv (N+1) q.ou=p.ou::eI po p.lv N p.ou:=lz oG N
   have hl:(eI po q.lv N q.ou).length=(eI po p.lv N p.ou).length+1:=by
    rw [hv,← hN p.lv q.ou (N+1) (by omega),hc,ZL]
   have hle:=iC po q.lv N q.ou
   cases n with
   | zero=>omega
   | succ n=>exact .up (hS p hp) hv hi (OH h1 hS hu hN n q hq (by omega))
theorem Tv {po S:List Po} {D:List ByteArray} (hk:∀ p∈po,p.ou∈D→p∈S) (eF:∀ p∈po,∀ q∈S,q.lv=p.lv→q.ip=p.ou→p∈S) {p:Po} (h:Nd po D p):p∈S:=by
 induction h with
 | de hp hd=>exact hk _ hp hd
 | up hp hv hi _ ih=>exact eF _ hp _ ih hv hi
theorem MY {po:List Po} {D:List ByteArray} (h1:sU po) {N:Nat} (hN:∀ v o m,N≤m→eI po v m o=eI po v N o) {f g:Po→Bool}
  (Rq:∀ p∈po,p.ou∈D→f p=true) (O0:∀ p∈po,∀ q∈po,f q=true→q.lv=p.lv→q.ip=p.ou→f p=true) (XW:∀ p∈po,f p=true→p.ou∈D∨∃ q∈po,f q=true∧q.lv=p.lv∧q.ip=p.ou)
  (XP:∀ p∈po,p.ou∈D→g p=true) (XO:∀ p∈po,∀ q∈po,g q=true→q.lv=p.lv→q.ip=p.ou→g p=true) (VP:∀ p∈po,g p=true→p.ou∈D∨∃ q∈po,g q=true∧q.lv=p.lv∧q.ip=p.ou):po.filter f=po.filter g:=by
 have key:∀ (f:Po→Bool),(∀ p∈po,p.ou∈D→f p=true)→(∀ p∈po,∀ q∈po,f q=true→q.lv=p.lv→q.ip=p.ou→f p=true)→(∀ p∈po,f p=true→p.ou∈D∨∃ q∈po,f q=true∧q.lv=p.lv∧q.ip=p.ou)→∀ p∈po,(f p=true↔Nd po D p):=by
  intro f h2 h3 h4 p hp
  constructor
  ·intro hf
   refine OH (S:=po.filter f) h1 (fun q hq=>(Zv.1 hq).1) (fun q hq=>?_) hN _ p (Zv.2 ⟨hp,hf⟩) (Zz _)
   obtain ⟨Nt,yz⟩:=Zv.1 hq
   rcases h4 q Nt yz with h | ⟨x,hx,VA,TE⟩
   ·exact .inl h
   ·exact .inr ⟨x,Zv.2 ⟨hx,VA⟩,TE⟩
  ·intro hn
   have:=Tv (S:=po.filter f) (fun q hq hd=>Zv.2 ⟨hq,h2 q hq hd⟩) (fun q hq x hx hv hi=>Zv.2 ⟨hq,h3 q hq x (Zv.1 hx).1 (Zv.1 hx).2 hv hi⟩) hn
   exact (Zv.1 this).2
 refine ZaZ fun p hp=>?_
 rw [Zba,key f Rq O0 XW p hp,key g XP XO VP p hp]
theorem nW {α:Type} {R:α→α→Prop} (has:∀ a b,R a b→¬ R b a):∀ {A B:List α},A.Pairwise R→B.Pairwise R→A.Perm B→A=B
 | [],B,_,_,h=>(List.nil_perm.1 h).symm
 | a::A,[],_,_,h=>absurd h (by intro h;have:=h.length_eq;cases this)
 | a :: A, b :: B, hA, hB, h => by
  rw [ZaU] at hA hB
  have SJ:a=b:=by
   apply Classical.byContradiction
   intro hne
   have h1:a∈b::B:=h.mem_iff.1 (by simp)
   have h2:b∈a::A:=h.mem_iff.2 (by simp)
   have h1:a∈B:=(ZS.1 h1).resolve_left hne
   have h2:b∈A:=(ZS.1 h2).resolve_left fun e=>hne e.symm
   exact has _ _ (hA.1 b h2) (hB.1 a h1)
  subst SJ
  rw [nW has hA.2 hB.2 (List.Perm.cons_inv h)]
def pK (r:Ro) (p q:Po):Bool:=decide (p.lv<q.lv)||(decide (p.lv=q.lv)&&decide (dX r p.ou<dX r q.ou))
theorem Gm {r:Ro} (p q:Po) (h:pK r p q=true):¬ pK r q p=true:=by
 unfold pK at *
 simp only [ZO,Zm,decide_eq_true_eq] at *
 omega
theorem yq {r:Ro} {p q s:Po} (h1:pK r p q=true) (h2:pK r q s=true):pK r p s=true:=by
 unfold pK at *
 simp only [ZO,Zm,decide_eq_true_eq] at *
 omega
theorem Gl {r:Ro} {p q:Po} (h:¬(p.lv=q.lv∧dX r p.ou=dX r q.ou)):pK r p q=true∨pK r q p=true:=by
 unfold pK
 simp only [ZO,Zm,decide_eq_true_eq]
 omega
def iQ (r:Ro) (p:Po):List Po→List Po
 | []=>[p]
 | b::l=>if pK r p b then p::b::l else b::iQ r p l
theorem pb (r:Ro) (p:Po):∀ l,(iQ r p l).Perm (p::l)
 | []=>List.Perm.refl _
 | b :: l => by
  rw [iQ]
  split
  ·exact List.Perm.refl _
  ·exact ((pb r p l).cons b).trans (List.Perm.swap p b l)
theorem ic {r:Ro} {p q:Po} {l:List Po}:q∈iQ r p l↔q=p∨q∈l:=by rw [(pb r p l).mem_iff,ZS]
theorem tq {r:Ro} {p:Po}:∀ {l:List Po},l.Pairwise (fun a b=>pK r a b=true)→(∀ q∈l,¬(p.lv=q.lv∧dX r p.ou=dX r q.ou))→(iQ r p l).Pairwise (fun a b=>pK r a b=true)
 | [],_,_=>by rw [iQ];exact List.pairwise_singleton _ _
 | b :: l, h, hn => by
  rw [ZaU] at h
  rw [iQ]
  split
  ·rename_i hb
   rw [ZaU,ZaU]
   refine ⟨fun q hq=>?_,h.1,h.2⟩
   rcases ZS.1 hq with rfl | hq
   ·exact hb
   ·exact yq hb (h.1 q hq)
  ·rename_i hb
   rw [ZaU]
   refine ⟨fun q hq=>?_,tq h.2 fun q hq=>hn q (ZW _ hq)⟩
   rcases ic.1 hq with rfl | hq
   ·rcases Gl (hn b (by simp)) with e | e
    ·exact absurd e hb
    ·exact e
   ·exact h.1 q hq
structure pR (r:Ro):Prop where
 sd:∀ s∈cF r,s ∉ cq r
 st:∀ s∈cF r,s ∉ cM r
 dt:∀ s∈cq r,s ∉ cM r
 Su:(cM r).length≤6
structure iJ (r:Ro) (po:List Po):Prop where
 qK:po.Pairwise (fun a b=>pK r a b=true)
 II:∀ p∈po,0≤p.lv∧p.lv<r.lv
 out:∀ p∈po,p.ou∈cq r∨p.ou∈cM r
 vo:∀ p∈po,p.ip∈cF r∨p.ip∈cM r
 M0:∀ p∈po,kC r p.ou=j7 r p.ip
 Co:∀ v,¬ ∃ t∈cM r,t∈eI po v ((cM r).length+1) t
 use:∀ v t,t∈cM r→(nH po v t=true↔gV po v t=true)
theorem iJ.one {r:Ro} {po:List Po} (h:po.Pairwise (fun a b=>pK r a b=true)):sU po:=by
 intro p hp q hq hv ho
 apply Classical.byContradiction
 intro hne
 obtain ⟨i,hi,rfl⟩:=Zu hp
 obtain ⟨j,hj,rfl⟩:=Zu hq
 rw [Z4] at h
 rcases Zam i j with e | e | e
 ·have:=h i j hi hj e
  unfold pK at this
  simp only [ZO,Zm,decide_eq_true_eq] at this
  rw [ho] at this
  omega
 ·subst e;exact hne rfl
 ·have:=h j i hj hi e
  unfold pK at this
  simp only [ZO,Zm,decide_eq_true_eq] at this
  rw [ho] at this
  omega
theorem iJ.tie {r:Ro} {po:List Po} (hn:pR r) (h2:∀ p∈po,p.ou∈cq r∨p.ou∈cM r) (h3:∀ p∈po,p.ip∈cF r∨p.ip∈cM r) {v:Int}:∀ o i,ek po v o=some i→(ek po v i).isSome=true→i∈cM r:=by
 intro o i h hi
 obtain ⟨p,hp,_,_,rfl⟩:=fF h
 rcases h3 p hp with hs | ht
 ·obtain ⟨j,hj⟩:=Zad.1 hi
  obtain ⟨q,hq,_,OQ,_⟩:=fF hj
  rcases h2 q hq with hd | hd
  ·exact absurd (OQ ▸ hd) (hn.sd _ hs)
  ·exact absurd (OQ ▸ hd) (hn.st _ hs)
 ·exact ht
def gS (po:List Po) (v:Int) (k:Nat) (o:ByteArray):ByteArray:=((eI po v k o).getLast?).getD o
def rJ (po:List Po) (v:Int) (S:List ByteArray) (o:ByteArray):ByteArray:=if bE S (gS po v 7 o)<0 then ⟨#[]⟩ else gS po v 7 o
theorem yJ {po:List Po} {v:Int} {k:Nat} {o i:ByteArray} (h:ek po v o=some i):gS po v (k+1) o=gS po v k i:=by
 unfold gS
 rw [lz h,List.getLast?_cons]
 rfl
theorem sH {po:List Po} {v:Int} {k:Nat} {o:ByteArray} (h:ek po v o=none):gS po v k o=o:=by
 unfold gS
 rw [rL h];rfl
theorem GN {r:Ro} {po:List Po} (hn:pR r) (h:iJ r po) (v:Int) (o:ByteArray):gS po v ((cM r).length+1) o=gS po v 7 o:=by
 have:=hn.Su
 unfold gS
 rw [mJ (T:=cM r) (iJ.tie hn h.out h.vo) (h.Co v) o (m:=7) (by omega)]
theorem FG {r:Ro} {po:List Po} (hn:pR r) (h:iJ r po) {v:Int}:∀ (k:Nat) (o:ByteArray),(eI po v 7 o).length≤k→(ek po v o).isSome=true→gS po v 7 o∈cF r:=by
 have h6:=hn.Su
 have hs:=fun o m hm=>mJ (T:=cM r) (iJ.tie hn h.out h.vo) (h.Co v) o (m:=m) hm
 intro k
 induction k with
 | zero =>
  intro o hk ho
  obtain ⟨i,hi⟩:=Zad.1 ho
  rw [lz hi,ZL] at hk
  omega
 | succ k ih =>
  intro o hk ho
  obtain ⟨i,hi⟩:=Zad.1 ho
  have e1:gS po v 7 o=gS po v 7 i:=by
   have:gS po v 8 o=gS po v 7 i:=yJ hi
   unfold gS at this ⊢
   rw [hs o 8 (by omega)] at this
   rw [hs o 7 (by omega)]
   exact this
  rw [e1]
  cases G2:ek po v i with
  | none =>
   rw [sH G2]
   obtain ⟨p,hp,Lv,_,rfl⟩:=fF hi
   rcases h.vo p hp with hS | hT
   ·exact hS
   ·have hu:nH po v p.ip=true:=by
     unfold nH
     rw [ZM]
     exact ⟨p,hp,by unfold zX;rw [Lv];simp⟩
    have:=(h.use v p.ip hT).1 hu
    unfold gV at this
    rw [G2] at this
    cases this
  | some j =>
   refine ih i ?_ (by rw [G2];rfl)
   have:(eI po v 8 o).length=(eI po v 7 i).length+1:=by rw [lz hi,ZL]
   rw [hs o 8 (by omega),← hs o 7 (by omega)] at this
   omega
theorem sN {r:Ro} {po:List Po} (hn:pR r) (h:iJ r po) {v:Int} {o:ByteArray} (ho:(ek po v o).isSome=true):rJ po v (cF r) o=gS po v 7 o:=by
 unfold rJ;rw [if_neg fun e=>cm.1 e (FG hn h _ o (Zz _) ho)]
theorem yM {r:Ro} {po:List Po} {v:Int} {o:ByteArray} (hs:o ∉ cF r) (ho:ek po v o=none):rJ po v (cF r) o=⟨#[]⟩:=by
 unfold rJ;rw [sH ho,if_pos (cm.2 hs)]
theorem Aq {po qo:List Po} (h1:sU po) (hs:∀ p∈qo,p∈po) {v:Int}:∀ {k:Nat} {o x:ByteArray},x∈eI qo v k o→x∈eI po v k o
 | 0,_,_,h=>by cases h
 | k + 1, o, x, h => by
  rw [eI] at h
  cases hi:ek qo v o with
  | none=>rw [hi] at h;cases h
  | some i =>
   rw [hi] at h
   rw [lz (Ng h1 hs hi)]
   rcases ZS.1 h with rfl | h
   ·exact Zq
   ·exact ZW _ (Aq h1 hs h)
theorem iJ.filter {r:Ro} {po:List Po} (hn:pR r) (h:iJ r po) (f:Po→Bool) (h2:∀ p∈po,p.ou∈cM r→∀ q∈po,f q=true→q.lv=p.lv→q.ip=p.ou→f p=true) (h3:∀ p∈po,p.ou∈cM r→f p=true→∃ q∈po,f q=true∧q.lv=p.lv∧q.ip=p.ou):iJ r (po.filter f):=by
 have iR:∀ p∈po.filter f,p∈po:=fun p hp=>(Zv.1 hp).1
 have h1:=iJ.one h.qK
 refine ⟨h.qK.filter f,fun p hp=>h.II p (iR p hp),fun p hp=>h.out p (iR p hp),fun p hp=>h.vo p (iR p hp),fun p hp=>h.M0 p (iR p hp),fun v=>?_,fun v t ht=>?_⟩
 ·rintro ⟨t,ht,hc⟩
  exact h.Co v ⟨t,ht,Aq h1 iR hc⟩
 ·constructor
  ·intro hu
   unfold nH at hu
   rw [ZM] at hu
   obtain ⟨q,hq,Ns⟩:=hu
   unfold zX at Ns
   rw [Zm,decide_eq_true_eq,decide_eq_true_eq] at Ns
   obtain ⟨Nt,yz⟩:=Zv.1 hq
   have hb:=(h.use v t ht).1 (by unfold nH;rw [ZM];exact ⟨q,Nt,by unfold zX;rw [Ns.1,Ns.2];simp⟩)
   unfold gV at hb
   obtain ⟨i,hi⟩:=Zad.1 hb
   obtain ⟨p,hp,Lv,qL,rfl⟩:=fF hi
   have hf:=h2 p hp (qL ▸ ht) q Nt yz (Ns.1.trans Lv.symm) (Ns.2.trans qL.symm)
   have:=nk (h1.filter f) (Zv.2 ⟨hp,hf⟩)
   rw [Lv,qL] at this
   unfold gV
   rw [this];rfl
  ·intro hb
   unfold gV at hb
   obtain ⟨i,hi⟩:=Zad.1 hb
   obtain ⟨p,hp,Lv,qL,rfl⟩:=fF hi
   obtain ⟨AM,Nv⟩:=Zv.1 hp
   obtain ⟨q,hq,yz,TZ,Xf⟩:=h3 p AM (qL ▸ ht) Nv
   unfold nH
   rw [ZM]
   exact ⟨q,Zv.2 ⟨hq,yz⟩,by unfold zX;rw [TZ,Xf,Lv,qL];simp⟩
theorem Ai {l:List ByteArray} {s:ByteArray} (h:0≤bE l s):bE l s<(l.length:Nat):=by
 obtain ⟨hl,_⟩:=fq h
 omega
theorem Fo {l:List ByteArray} {a b:ByteArray} (ha:0≤bE l a) (h:bE l a=bE l b):a=b:=by
 obtain ⟨h1,e1⟩:=fq ha
 obtain ⟨h2,e2⟩:=fq (l:=l) (s:=b) (by omega)
 rw [← e1,← e2]
 have:(bE l a).toNat=(bE l b).toNat:=by rw [h]
 simp only [this]
theorem Ij {r:Ro} {a b:ByteArray} (ha:a∈cq r∨a∈cM r) (hb:b∈cq r∨b∈cM r) (h:dX r a=dX r b):a=b:=by
 have hd:(cq r).length=r.de.length:=by unfold cq;rw [Zd]
 unfold dX at h
 by_cases a1:0≤bE (cq r) a
 ·have:=Ai a1
  by_cases b1:0≤bE (cq r) b
  ·rw [if_pos a1,if_pos b1] at h
   exact Fo a1 h
  ·by_cases b2:0≤bE (cM r) b
   ·rw [if_pos a1,if_neg b1,if_pos b2] at h;omega
   ·rcases hb with hb | hb
    ·exact absurd hb (cm.1 (by omega))
    ·exact absurd hb (cm.1 (by omega))
 ·by_cases a2:0≤bE (cM r) a
  ·by_cases b1:0≤bE (cq r) b
   ·have:=Ai b1
    rw [if_neg a1,if_pos a2,if_pos b1] at h;omega
   ·by_cases b2:0≤bE (cM r) b
    ·rw [if_neg a1,if_pos a2,if_neg b1,if_pos b2] at h
     exact Fo a2 (by omega)
    ·rcases hb with hb | hb
     ·exact absurd hb (cm.1 (by omega))
     ·exact absurd hb (cm.1 (by omega))
  ·rcases ha with ha | ha
   ·exact absurd ha (cm.1 (by omega))
   ·exact absurd ha (cm.1 (by omega))
structure qH (r:Ro) (po:List Po) (v:Int) (x:ByteArray):Prop where
 qK:po.Pairwise (fun a b=>pK r a b=true)
 II:∀ p∈po,0≤p.lv∧p.lv<r.lv
 out:∀ p∈po,p.ou∈cq r∨p.ou∈cM r
 vo:∀ p∈po,p.ip∈cF r∨p.ip∈cM r
 M0:∀ p∈po,kC r p.ou=j7 r p.ip
 Co:∀ v,¬ ∃ t∈cM r,t∈eI po v ((cM r).length+1) t
 use:∀ u t,t∈cM r→(u=v∧t=x)∨(nH po u t=true↔gV po u t=true)
 V5:x∈cM r→gV po v x=true
theorem iJ.Tt {r:Ro} {po:List Po} {v:Int} {x:ByteArray} (h:iJ r po) (hb:x∈cM r→gV po v x=true):qH r po v x:=⟨h.qK,h.II,h.out,h.vo,h.M0,h.Co,fun u t ht=>.inr (h.use u t ht),hb⟩
theorem qH.val {r:Ro} {po:List Po} {v:Int} {x:ByteArray} (h:qH r po v x) (hx:x ∉ cM r):iJ r po:=⟨h.qK,h.II,h.out,h.vo,h.M0,h.Co,fun u t ht=>(h.use u t ht).resolve_left fun e=>hx (e.2 ▸ ht)⟩
theorem oE {r:Ro} {po:List Po} {p:Po} (hs:po.Pairwise (fun a b=>pK r a b=true)) (ho:∀ q∈po,q.ou∈cq r∨q.ou∈cM r) (hp:p.ou∈cq r∨p.ou∈cM r) (Xr:ek po p.lv p.ou=none):(iQ r p po).Pairwise (fun a b=>pK r a b=true):=
 tq hs fun q hq e=>ie.1 Xr q hq ⟨e.1.symm,(Ij hp (ho q hq) e.2).symm⟩
theorem ru {r:Ro} {po:List Po} {p:Po} (h1:sU (iQ r p po)) (h0:sU po) (v:Int) (o:ByteArray):ek (iQ r p po) v o=if p.lv=v∧p.ou=o then some p.ip else ek po v o:=by
 by_cases h:p.lv=v∧p.ou=o
 ·rw [if_pos h]
  have:=nk h1 (ic.2 (.inl rfl):p∈iQ r p po)
  rwa [h.1,h.2] at this
 ·rw [if_neg h]
  cases hi:ek po v o with
  | none =>
   rw [ie]
   intro q hq
   rcases ic.1 hq with rfl | hq
   ·exact h
   ·exact ie.1 hi q hq
  | some i =>
   obtain ⟨q,hq,rfl,rfl,rfl⟩:=fF hi
   exact nk h1 (ic.2 (.inr hq))
theorem qH.add {r:Ro} {po:List Po} {v:Int} {x o:ByteArray} (hn:pR r) (h:qH r po v x) (hv:0≤v∧v<r.lv) (hx:x∈cF r∨x∈cM r) (ho:o∈cq r∨o∈cM r) (eP:ek po v o=none) (hm:kC r o=j7 r x):qH r (iQ r ⟨v,o,x⟩ po) v o:=by
 have hs:=oE (p:=⟨v,o,x⟩) h.qK h.out ho eP
 have h1:=iJ.one hs
 have h0:=iJ.one h.qK
 have oG:=ru (p:=⟨v,o,x⟩) h1 h0
 have tr:x≠o:=by
  intro e
  subst e
  rcases hx with hx | hx
  ·rcases ho with ho | ho
   ·exact hn.sd _ hx ho
   ·exact hn.st _ hx ho
  ·have:=h.V5 hx
   unfold gV at this
   rw [eP] at this
   cases this
 -- no one abg AJ new output
 have qM:∀ u,ek po v u≠some o:=by
  intro u hu
  obtain ⟨q,hq,Lu,_,OR⟩:=fF hu
  rcases ho with ho | ho
  ·rcases h.vo q hq with hS | hT
   ·exact hn.sd _ (OR ▸ hS) ho
   ·exact hn.dt _ ho (OR ▸ hT)
  ·rcases h.use v o ho with e | e
   ·exact tr e.2.symm
   ·have:nH po v o=true:=by
     unfold nH
     rw [ZM]
     exact ⟨q,hq,by unfold zX;rw [Lu,OR];simp⟩
    have:=e.1 this
    unfold gV at this
    rw [eP] at this
    cases this
 have fU:∀ u y,ek (iQ r ⟨v,o,x⟩ po) v u=some y→y≠o:=by
  intro u y hu e
  subst e
  rw [oG] at hu
  split at hu
  ·exact tr (Option.some.inj hu)
  ·exact qM u hu
 refine ⟨hs,fun p hp=>?_,fun p hp=>?_,fun p hp=>?_,fun p hp=>?_,fun w=>?_,fun u t ht=>?_,fun _=>?_⟩
 ·rcases ic.1 hp with rfl | hp
  ·exact hv
  ·exact h.II p hp
 ·rcases ic.1 hp with rfl | hp
  ·exact ho
  ·exact h.out p hp
 ·rcases ic.1 hp with rfl | hp
  ·exact hx
  ·exact h.vo p hp
 ·rcases ic.1 hp with rfl | hp
  ·exact hm
  ·exact h.M0 p hp
 ·rintro ⟨t,ht,hc⟩
  obtain ⟨j,hj,he⟩:=uj.1 hc
  -- AJ way round is one of AJ BH points
  have key:∀ k y z,(w=v→y≠o)→mj (iQ r ⟨v,o,x⟩ po) w k y=some z→mj po w k y=some z:=by
   intro k
   induction k with
   | zero=>intro y z _ h;exact h
   | succ k ih =>
    intro y z hy hz
    rw [mj] at hz ⊢
    have e1:ek (iQ r ⟨v,o,x⟩ po) w y=ek po w y:=by
     rw [oG,if_neg fun e=>hy e.1.symm e.2.symm]
    cases hi:ek po w y with
    | none=>rw [e1,hi] at hz;cases hz
    | some u =>
     rw [e1,hi] at hz
     refine ih u z (fun e q=>?_) hz
     subst e q
     exact fU y u (by rw [e1];exact hi) rfl
  refine h.Co w ⟨t,ht,uj.2 ⟨j,hj,key (j+1) t t (fun e q=>?_) he⟩⟩
  subst e q
  obtain ⟨u,hu,TJ⟩:∃ u,mj (iQ r ⟨w,t,x⟩ po) w j t=some u∧ek (iQ r ⟨w,t,x⟩ po) w u=some t:=by
   rw [j4] at he
   cases hq:mj (iQ r ⟨w,t,x⟩ po) w j t with
   | none=>rw [hq] at he;cases he
   | some u =>
    rw [hq] at he
    exact ⟨u,rfl,by simpa [mj] using he⟩
  exact fU u t TJ rfl
 ·by_cases e:u=v∧t=o
  ·exact .inl e
  ·refine .inr ?_
   have hb:gV (iQ r ⟨v,o,x⟩ po) u t=gV po u t:=by
    unfold gV
    rw [oG,if_neg fun q=>e ⟨q.1.symm,q.2.symm⟩]
   have hu:nH (iQ r ⟨v,o,x⟩ po) u t=true↔(u=v∧t=x)∨nH po u t=true:=by
    unfold nH
    rw [ZM,ZM]
    constructor
    ·rintro ⟨q,hq,yz⟩
     rcases ic.1 hq with rfl | hq
     ·unfold zX at yz
      rw [Zm,decide_eq_true_eq,decide_eq_true_eq] at yz
      exact .inl ⟨yz.1.symm,yz.2.symm⟩
     ·exact .inr ⟨q,hq,yz⟩
    ·rintro (⟨rfl,rfl⟩ | ⟨q,hq,yz⟩)
     ·exact ⟨_,ic.2 (.inl rfl),by unfold zX;simp⟩
     ·exact ⟨q,ic.2 (.inr hq),yz⟩
   rw [hb,hu]
   rcases h.use u t ht with ex | ex
   ·obtain ⟨rfl,rfl⟩:=ex
    exact ⟨fun _=>h.V5 ht,fun _=>.inl ⟨rfl,rfl⟩⟩
   ·constructor
    ·rintro (⟨rfl,rfl⟩ | q)
     ·exact h.V5 ht
     ·exact ex.1 q
    ·exact fun q=>.inr (ex.2 q)
 ·unfold gV
  rw [oG,if_pos ⟨rfl,rfl⟩];rfl
theorem qH.ne {r:Ro} {po:List Po} {v:Int} {x o:ByteArray} (hn:pR r) (h:qH r po v x) (hx:x∈cF r∨x∈cM r) (ho:o∈cq r∨o∈cM r) (eP:ek po v o=none):x≠o:=by
 intro e
 subst e
 rcases hx with hx | hx
 ·rcases ho with ho | ho
  ·exact hn.sd _ hx ho
  ·exact hn.st _ hx ho
 ·have:=h.V5 hx
  unfold gV at this
  rw [eP] at this
  cases this
theorem qH.unused {r:Ro} {po:List Po} {v:Int} {x o:ByteArray} (hn:pR r) (h:qH r po v x) (hx:x∈cF r∨x∈cM r) (ho:o∈cq r∨o∈cM r) (eP:ek po v o=none):∀ u,ek po v u≠some o:=by
 have tr:=h.ne hn hx ho eP
 intro u hu
 obtain ⟨q,hq,Lu,_,OR⟩:=fF hu
 rcases ho with ho | ho
 ·rcases h.vo q hq with hS | hT
  ·exact hn.sd _ (OR ▸ hS) ho
  ·exact hn.dt _ ho (OR ▸ hT)
 ·rcases h.use v o ho with e | e
  ·exact tr e.2.symm
  ·have:nH po v o=true:=by
    unfold nH
    rw [ZM]
    exact ⟨q,hq,by unfold zX;rw [Lu,OR];simp⟩
   have:=e.1 this
   unfold gV at this
   rw [eP] at this
   cases this
theorem Ar {r:Ro} {po:List Po} {v:Int} {x o:ByteArray} (hn:pR r) (h:qH r po v x) (hx:x∈cF r∨x∈cM r) (ho:o∈cq r∨o∈cM r) (eP:ek po v o=none) {w:Int}:∀ {k:Nat} {y:ByteArray},¬(w=v∧y=o)→eI (iQ r ⟨v,o,x⟩ po) w k y=eI po w k y
 | 0,_,_=>rfl
 | k + 1, y, hy => by
  have hs:=oE (p:=⟨v,o,x⟩) h.qK h.out ho eP
  have e1:ek (iQ r ⟨v,o,x⟩ po) w y=ek po w y:=by
   rw [ru (p:=⟨v,o,x⟩) (iJ.one hs) (iJ.one h.qK),if_neg fun e=>hy ⟨e.1.symm,e.2.symm⟩]
  rw [eI,eI,e1]
  cases hi:ek po w y with
  | none=>rfl
  | some u =>
   show u::_=u::_
   rw [Ar hn h hx ho eP fun e=>by
    obtain ⟨rfl,rfl⟩:=e
    exact h.unused hn hx ho eP y hi]
theorem FD {r:Ro} {po:List Po} {v:Int} {x o:ByteArray} (hn:pR r) (h:qH r po v x) (hx:x∈cF r∨x∈cM r) (ho:o∈cq r∨o∈cM r) (eP:ek po v o=none) {w:Int} {y:ByteArray} (hy:¬(w=v∧y=o)) {S:List ByteArray}:rJ (iQ r ⟨v,o,x⟩ po) w S y=rJ po w S y:=by
 unfold rJ gS
 rw [Ar hn h hx ho eP hy]
theorem Ck {r:Ro} {po:List Po} {v:Int} {x o:ByteArray} (hn:pR r) (h:qH r po v x) (hv:0≤v∧v<r.lv) (hx:x∈cF r∨x∈cM r) (ho:o∈cq r∨o∈cM r) (eP:ek po v o=none) (hm:kC r o=j7 r x):gS (iQ r ⟨v,o,x⟩ po) v 7 o=gS po v 7 x:=by
 have h6:=hn.Su
 have hA:=h.add hn hv hx ho eP hm
 have hs:=oE (p:=⟨v,o,x⟩) h.qK h.out ho eP
 have oG:ek (iQ r ⟨v,o,x⟩ po) v o=some x:=by
  rw [ru (p:=⟨v,o,x⟩) (iJ.one hs) (iJ.one h.qK),if_pos ⟨rfl,rfl⟩]
 have hsh:=fun m hm=>mJ (T:=cM r) (iJ.tie hn hA.out hA.vo) (hA.Co v) o (m:=m) hm
 have e8:gS (iQ r ⟨v,o,x⟩ po) v 8 o=gS (iQ r ⟨v,o,x⟩ po) v 7 x:=yJ oG
 have e7:gS (iQ r ⟨v,o,x⟩ po) v 7 o=gS (iQ r ⟨v,o,x⟩ po) v 8 o:=by
  unfold gS
  rw [hsh 7 (by omega),hsh 8 (by omega)]
 rw [e7,e8]
 unfold gS
 rw [Ar hn h hx ho eP fun e=>h.ne hn hx ho eP e.2]
theorem vW {po:List Po} (h1:sU po) {f:Po→Bool} (fJ:∀ q∈po,f q=true→∀ p∈po,p.lv=q.lv→p.ou=q.ip→f p=true) {v:Int}:∀ {k:Nat} {y:ByteArray},(∀ p∈po,p.lv=v→p.ou=y→f p=true)→eI (po.filter f) v k y=eI po v k y
 | 0,_,_=>rfl
 | k + 1, y, hy => by
  rw [eI,eI]
  cases hi:ek po v y with
  | none =>
   have:ek (po.filter f) v y=none:=ie.2 fun p hp=>ie.1 hi p (Zv.1 hp).1
   rw [this]
  | some u =>
   obtain ⟨q,hq,Lu,OQ,rfl⟩:=fF hi
   have hf:=hy q hq Lu OQ
   have:ek (po.filter f) v y=some q.ip:=by
    have:=nk (h1.filter f) (Zv.2 ⟨hq,hf⟩)
    rwa [Lu,OQ] at this
   rw [this]
   show q.ip::_=q.ip::_
   rw [vW h1 fJ fun p hp Lv qL=>fJ q hq hf p hp (Lv.trans Lu.symm) qL]
end Go.Proofs.A1
