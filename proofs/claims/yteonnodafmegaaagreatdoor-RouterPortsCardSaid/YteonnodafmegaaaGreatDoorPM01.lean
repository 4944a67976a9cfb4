/- Parts of the proof: GkCore GkOps P5w S1p P5a P5b P5c P5d P5e P5f P5g. -/
import Derived.RangeFuncRecord
import Derived.OrdersIn
import Derived.KernelRfl
import Derived.Below
import Derived.IntWalk
import Derived.Laws.Strings
namespace Go
abbrev Value.q (x:Int):Value:=.int .i64 x
abbrev Value.z:Value:=.slice none 0 0
abbrev Value.w (b n c:Nat):Value:=.slice (some ⟨b,0,none⟩) n c
abbrev Value.p (b:Nat):Value:=.pointer (some ⟨b,0,none⟩)
end Go
set_option linter.unusedSectionVars false
set_option linter.unusedVariables false
set_option linter.unusedSimpArgs false
namespace Go.SL
open Go
open Go.RowKit (Below)
theorem I {α:Sort _} {a:α}:a=a:=rfl
theorem Za {α:Type _} (as:List α):[]++as=as:=rfl
theorem Zb:type_of% @List.cons_append:=rfl
theorem Zc:type_of% @List.getElem?_eq_getElem:=List.getElem?_eq_getElem
theorem Zd:type_of% @List.length_map:=@List.length_map
theorem Ze:type_of% @List.take_zero:=rfl
theorem Zf:type_of% @List.map_nil:=rfl
theorem Zg:type_of% @List.length_append:=@List.length_append
theorem Zh:type_of% @List.append_assoc:=@List.append_assoc
theorem Zi:type_of% @Nat.zero_le:=@Nat.zero_le
theorem Zj:type_of% @List.getElem_mem:=@List.getElem_mem
theorem Zk:type_of% @List.getD_eq_getElem?_getD:=@List.getD_eq_getElem?_getD
theorem Zl:type_of% @List.getElem?_eq_some_iff:=@List.getElem?_eq_some_iff
theorem Zm:type_of% @List.take_succ_eq_append_getElem:=@List.take_succ_eq_append_getElem
theorem Zn:type_of% @Bool.and_eq_true:=@Bool.and_eq_true
theorem Zo:type_of% @List.not_mem_nil:=@List.not_mem_nil
theorem Zp:type_of% @List.forall_mem_cons:=@List.forall_mem_cons
theorem Zq:type_of% @Decidable.not_not:=@Decidable.not_not
theorem Zr:type_of% @List.mem_cons_self:=@List.mem_cons_self
theorem Zs:type_of% @List.length_take:=@List.length_take
theorem Zt:type_of% @List.drop_eq_getElem_cons:=@List.drop_eq_getElem_cons
theorem Zu:type_of% @List.mem_filter:=@List.mem_filter
theorem Zv:type_of% @Nat.le_refl:=@Nat.le_refl
theorem Zw:type_of% @List.mem_map:=@List.mem_map
theorem Zx:type_of% @List.getElem?_append_left:=@List.getElem?_append_left
theorem Zy:type_of% @List.map_append:=@List.map_append
theorem Zz:type_of% @List.mem_append:=@List.mem_append
theorem ZA:type_of% @List.getElem_of_mem:=@List.getElem_of_mem
theorem ZB:type_of% @List.length_cons:=@List.length_cons
theorem ZC:type_of% @List.getElem?_append_right:=@List.getElem?_append_right
theorem ZD:type_of% @List.mem_singleton:=@List.mem_singleton
theorem ZE:type_of% @Int.toNat_natCast:=@Int.toNat_natCast
theorem ZF:type_of% @Nat.zero_add:=@Nat.zero_add
theorem ZG:type_of% @List.getElem?_map:=@List.getElem?_map
theorem ZH:type_of% @List.mem_append_left:=@List.mem_append_left
theorem ZI:type_of% @List.nodup_append:=@List.nodup_append
theorem ZJ:type_of% @Array.getD_eq_getD_getElem?:=@Array.getD_eq_getD_getElem?
theorem ZK:type_of% @List.append_nil:=@List.append_nil
theorem ZL:type_of% @List.take_length:=@List.take_length
theorem ZM:type_of% @List.mem_cons_of_mem:=@List.mem_cons_of_mem
theorem ZN:type_of% @List.getElem?_take:=@List.getElem?_take
theorem ZO:type_of% @Array.getElem?_setIfInBounds_ne:=@Array.getElem?_setIfInBounds_ne
theorem ZP:type_of% @Nat.le_trans:=@Nat.le_trans
theorem ZQ:type_of% @List.mem_cons:=@List.mem_cons
theorem ZR:type_of% @List.any_eq_true:=@List.any_eq_true
theorem ZS:type_of% @Bool.or_eq_true:=@Bool.or_eq_true
theorem ZT:type_of% @List.mem_append_right:=@List.mem_append_right
theorem ZU:type_of% @List.mem_range:=@List.mem_range
theorem ZV:type_of% @Nat.not_lt_zero:=@Nat.not_lt_zero
theorem ZW:type_of% @List.length_filter_le:=@List.length_filter_le
theorem ZX:type_of% @List.take_append_drop:=@List.take_append_drop
theorem ZY:type_of% @List.drop_length:=@List.drop_length
theorem ZZ:type_of% @Nat.lt_of_not_le:=@Nat.lt_of_not_le
theorem Z0:type_of% @Nat.mul_le_mul_right:=@Nat.mul_le_mul_right
theorem Z1:type_of% @List.getElem_map:=@List.getElem_map
theorem Z2:type_of% @List.mem_of_getElem?:=@List.mem_of_getElem?
theorem Z3:type_of% @Array.getElem?_eq_some_iff:=@Array.getElem?_eq_some_iff
theorem Z4:type_of% @List.map_cons:=@List.map_cons
theorem Z5:type_of% @List.eq_nil_of_length_eq_zero:=@List.eq_nil_of_length_eq_zero
theorem Z6:type_of% @Nat.succ_le_of_lt:=@Nat.succ_le_of_lt
theorem Z7:type_of% @List.length_singleton:=@List.length_singleton
theorem Z8:type_of% @Nat.blt_eq:=@Nat.blt_eq
theorem Z9:type_of% @List.take_of_length_le:=@List.take_of_length_le
theorem Zaa:type_of% @List.mem_map_of_mem:=@List.mem_map_of_mem
theorem Zab:type_of% @List.pairwise_iff_getElem:=@List.pairwise_iff_getElem
theorem Zac:type_of% @Nat.succ_mul:=@Nat.succ_mul
theorem Zad:type_of% @Nat.eq_of_beq_eq_true:=@Nat.eq_of_beq_eq_true
theorem Zae:type_of% @List.length_replicate:=@List.length_replicate
theorem Zaf:type_of% @List.length_nil:=@List.length_nil
theorem Zag:type_of% @List.flatten_append:=@List.flatten_append
theorem Zah:type_of% @Option.isSome_iff_exists:=@Option.isSome_iff_exists
theorem Zai:type_of% @List.take_append_of_le_length:=@List.take_append_of_le_length
theorem Zaj:type_of% @List.all_eq_true:=@List.all_eq_true
theorem Zak:type_of% @List.flatten_cons:=@List.flatten_cons
theorem Zal:type_of% @List.getElem?_eq_none:=@List.getElem?_eq_none
theorem Zam:type_of% @Option.map_eq_some_iff:=@Option.map_eq_some_iff
theorem Zan:type_of% @Nat.mul_one:=@Nat.mul_one
theorem Zao:type_of% @List.nodup_nil:=@List.nodup_nil
theorem Zap:type_of% @List.getElem_append_right:=@List.getElem_append_right
theorem Zaq:type_of% @Option.getD_some:=@Option.getD_some
theorem Zar:type_of% @Bool.not_eq_true:=@Bool.not_eq_true
theorem Zas:type_of% @Nat.add_zero:=@Nat.add_zero
theorem Zat:type_of% @List.ext_getElem?:=@List.ext_getElem?
theorem Zau:type_of% @Nat.lt_trichotomy:=@Nat.lt_trichotomy
theorem Zav:type_of% @List.length_eq_zero_iff:=@List.length_eq_zero_iff
theorem Zaw:type_of% @List.any_eq_false:=@List.any_eq_false
theorem Zax:type_of% @List.mem_of_mem_take:=@List.mem_of_mem_take
theorem Zay:type_of% @Nat.add_sub_cancel:=@Nat.add_sub_cancel
theorem Zaz:type_of% @Bool.true_and:=@Bool.true_and
theorem ZaA:type_of% @Nat.le_of_ble_eq_true:=@Nat.le_of_ble_eq_true
theorem ZaB:type_of% @List.length_range:=@List.length_range
theorem ZaC:type_of% @List.getElem?_cons_zero:=@List.getElem?_cons_zero
theorem ZaD:type_of% @List.find?_eq_some_iff_getElem:=@List.find?_eq_some_iff_getElem
theorem ZaE:type_of% @List.map_map:=@List.map_map
theorem ZaF:type_of% @List.filter_eq_self:=@List.filter_eq_self
theorem ZaG:type_of% @Bool.eq_false_iff:=@Bool.eq_false_iff
theorem ZaH:type_of% @Array.getElem?_toList:=@Array.getElem?_toList
theorem ZaI:type_of% @List.contains_iff_mem:=@List.contains_iff_mem
theorem ZaJ:type_of% @List.getElem_append_left:=@List.getElem_append_left
theorem ZaK:type_of% @Nat.lt_of_lt_of_le:=@Nat.lt_of_lt_of_le
theorem ZaL:type_of% @List.filter_append:=@List.filter_append
theorem ZaM:type_of% @List.find?_eq_none:=@List.find?_eq_none
theorem ZaN:type_of% @List.map_take:=@List.map_take
theorem ZaO:type_of% @List.length_take_of_le:=@List.length_take_of_le
theorem ZaP:type_of% @List.getElem_take:=@List.getElem_take
theorem ZaQ:type_of% @List.perm_ext_iff_of_nodup:=@List.perm_ext_iff_of_nodup
theorem ZaR:type_of% @Array.length_toList:=@Array.length_toList
theorem ZaS:type_of% @Bool.eq_iff_iff:=@Bool.eq_iff_iff
theorem ZaT:type_of% @Array.getElem?_eq_getElem:=@Array.getElem?_eq_getElem
theorem ZaU:type_of% @List.length_drop:=@List.length_drop
theorem ZaV:type_of% @Bool.false_eq_true:=@Bool.false_eq_true
theorem ZaW:type_of% @List.prefix_append:=@List.prefix_append
theorem ZaX:type_of% @List.pairwise_cons:=@List.pairwise_cons
theorem ZaY:type_of% @List.length_erase_of_mem:=@List.length_erase_of_mem
theorem ZaZ:type_of% @Array.toArray_toList:=@Array.toArray_toList
theorem Zba:type_of% @List.getElem?_cons_succ:=@List.getElem?_cons_succ
theorem Zbb:type_of% @List.mem_range'_1:=@List.mem_range'_1
theorem Zbc:type_of% @Bool.not_eq_true':=@Bool.not_eq_true'
theorem Zbd:type_of% @Nat.add_sub_cancel_left:=@Nat.add_sub_cancel_left
theorem Zbe:type_of% @List.filter_congr:=@List.filter_congr
theorem Zbf:type_of% @Nat.min_eq_left:=@Nat.min_eq_left
theorem Zbg:type_of% @Nat.mul_le_mul_left:=@Nat.mul_le_mul_left
theorem Zbh:type_of% @Nat.zero_mul:=@Nat.zero_mul
theorem Zbi:type_of% @List.drop_of_length_le:=@List.drop_of_length_le
theorem Zbj:type_of% @Nat.le_of_not_lt:=@Nat.le_of_not_lt
theorem Zbk:type_of% @List.drop_drop:=@List.drop_drop
theorem Zbl:type_of% @List.getElem?_drop:=@List.getElem?_drop
theorem Zbm:type_of% @List.set_append_right:=@List.set_append_right
theorem Zbn:type_of% @Array.getElem?_modify:=@Array.getElem?_modify
theorem Zbo:type_of% @List.sublist_append_right:=@List.sublist_append_right
theorem Zbp:type_of% @Option.map_some:=@Option.map_some
theorem Zbq:type_of% @List.size_toArray:=@List.size_toArray
theorem Zbr:type_of% @List.set_append_left:=@List.set_append_left
theorem Zbs:type_of% @List.sublist_append_left:=@List.sublist_append_left
theorem Zbt:type_of% @List.map_congr_left:=@List.map_congr_left
theorem Zbu:type_of% @List.mem_flatten:=@List.mem_flatten
theorem Zbv:type_of% @List.filter_cons_of_pos:=@List.filter_cons_of_pos
theorem Zbw:type_of% @Array.getElem?_eq_none:=@Array.getElem?_eq_none
theorem Zbx:type_of% @Nat.lt_or_ge:=@Nat.lt_or_ge
theorem Zby:type_of% @List.getElem_range:=@List.getElem_range
theorem Zbz:type_of% @List.filter_filter:=@List.filter_filter
theorem ZbA:type_of% @List.range_succ:=@List.range_succ
theorem ZbB:type_of% @List.pairwise_map:=@List.pairwise_map
theorem ZbC:type_of% @Nat.min_le_right:=@Nat.min_le_right
theorem ZbD:type_of% @List.nodup_range:=@List.nodup_range
abbrev aN:=List (Nat×Value)
def dj:aN->Nat->Option Value
 | [],_=>none
 | (t,v)::r,k=>bif Nat.beq t k then some v else dj r k
variable {D:List Nat} {N:Act->World->Prop} {Q:Exit->Act->World->Prop} {V:Value} {a:Act} {b d:Nat} {h:Nat->Option Obj} {id:Nat} {o:Oper} {op:Op} {ops:Array Oper} {r:Option Nat} {rest:List Oper} {v:Value} {x:Operand}
theorem gq {t k:Nat} {r:aN} (h:t≠k):dj ((t,v)::r) k=dj r k:=by
 have:Nat.beq t k=false:=by
  cases hb:Nat.beq t k with
  | false=>rfl
  | true=>exact absurd (Zad hb) h
 simp [dj,this]
theorem gr {t:Nat} {r:aN}:dj ((t,v)::r) t=some v:=by
 simp [dj]
def bZ (sl:aN) (a:Act):Prop:=∀ t v,dj sl t=some v->a.tmps[t]? = some v
theorem bZ.eval {sl:aN} (h:bZ sl a) {t:Nat} {v:Value} (hv:dj sl t=some v):a.eval (.tmp t)=v:=by
 have:=h t v hv;simp [Act.eval,ZJ,this]
theorem bZ.put {sl:aN} (h:bZ sl a) {d:Nat} (hd:d<a.tmps.size) (v:Value):bZ ((d,v)::sl) (a.put (some d) v):=by
 intro t u hu;by_cases yx:d=t
 ·subst yx;rw [gr] at hu;cases hu;simp [Act.put,hd]
 ·rw [gq yx] at hu;simp only [Act.put,ZO yx];exact h t u hu
theorem bZ.sub {sl jV:aN} (h:bZ sl a) (hs:∀ t v,dj jV t=some v->dj sl t=some v):bZ jV a:=fun t v hv=>h t v (hs t v hv)
def Is (sl:aN) (x:Operand) (v:Value):Prop:=∀ a:Act,bZ sl a->a.eval x=v
def gv (c:Bool) (v:Value):Value:=bif c then v else undef
theorem vC {c:Bool} (h:c=true):gv c v=v:=by simp [gv,h]
theorem xl {c:Bool} (h:c=false):gv c v=undef:=by simp [gv,h]
def hp (w:World):Nat->Option Obj:=fun b=>w.heap[b]?
theorem lf {w:World} {o:Obj} (h:hp w b=some o):b<w.heap.size:=(Z3.1 h).1
structure bd where
 sat:(Nat->Option Obj)->List Nat->Prop
 loc:∀ {h h':Nat->Option Obj} {fp:List Nat},sat h fp->(∀ b∈fp,h' b=h b)->sat h' fp
 own:∀ {h:Nat->Option Obj} {fp:List Nat},sat h fp->∀ b∈fp,∃ o,h b=some o
def cy (h:Nat->Option Obj):List bd->List Nat->Prop
 | [],fp=>fp=[]
 | A::As,fp=>∃ f1 f2,fp=f1++f2/\A.sat h f1/\cy h As f2
theorem cy.own :∀ {hs:List bd} {fp:List Nat},cy h hs fp->∀ b∈fp,∃ o,h b=some o
 | [],_,hh,b,hb=>by rw [show _=[] from hh] at hb;cases hb
 | A :: As, _, ⟨f1, f2, e, h1, h2⟩, b, hb => by
  subst e;rcases Zz.1 hb with hb | hb
  ·exact A.own h1 b hb
  ·exact cy.own h2 b hb
theorem cy.loc {h h':Nat->Option Obj}:∀ {hs:List bd} {fp:List Nat},cy h hs fp->(∀ b∈fp,h' b=h b)->cy h' hs fp
 | [],_,hh,_=>hh
 | A :: As, _, ⟨f1, f2, e, h1, h2⟩, hb => by
  subst e;exact ⟨f1,f2,I,A.loc h1 (fun b dQ=>hb b (ZH _ dQ)),cy.loc h2 (fun b dQ=>hb b (ZT _ dQ))⟩
theorem cy.append_iff :∀ {l1 l2:List bd} {fp:List Nat},cy h (l1++l2) fp↔∃ f1 f2,fp=f1++f2/\cy h l1 f1/\cy h l2 f2
 | [],l2,fp=>⟨fun hh=>⟨[],fp,rfl,rfl,hh⟩,fun ⟨f1,f2,e,h1,h2⟩=>by rw [show f1=[] from h1] at e;simpa [e] using h2⟩
 | A :: l1, l2, fp => by
  constructor
  ·rintro ⟨f1,f2,rfl,h1,h2⟩;obtain ⟨g1,g2,rfl,h3,h4⟩:=cy.append_iff.1 h2;exact ⟨f1++g1,g2,by simp,⟨f1,g1,I,h1,h3⟩,h4⟩
  ·rintro ⟨f1,f2,rfl,⟨g1,g2,rfl,h1,h2⟩,h3⟩;exact ⟨g1,g2++f2,by simp,h1,cy.append_iff.2 ⟨g2,f2,I,h2,h3⟩⟩
inductive Take:List bd->bd->List bd->Prop
 | here {A:bd} {r:List bd}:Take (A::r) A r
 | there {A X:bd} {r r':List bd} (h:Take r A r'):Take (X::r) A (X::r')
theorem Take.append {hs hs':List bd} {A:bd} (h:Take hs A hs') (m:List bd):Take (hs++m) A (hs'++m):=by
 induction h with
 | here=>exact .here
 | there _ ih=>exact .there ih
theorem cy.take {hs hs':List bd} {A:bd} (ht:Take hs A hs'):∀ {fp:List Nat},cy h hs fp->∃ f1 f2,A.sat h f1/\cy h hs' f2/\fp.Perm (f1++f2):=by
 induction ht with
 | here =>
  rintro fp ⟨f1,f2,rfl,h1,h2⟩;exact ⟨f1,f2,h1,h2,.refl _⟩
 | there _ ih =>
  rintro fp ⟨f1,f2,rfl,h1,h2⟩;obtain ⟨g1,g2,h3,h4,hp⟩:=ih h2;refine ⟨g1,f1++g2,h3,⟨f1,g2,I,h1,h4⟩,?_⟩;exact (hp.append_left f1).trans (by
   rw [<- Zh,<- Zh];exact (List.perm_append_comm).append_right g2)
structure aI (md:List Nat) (w w':World):Prop where
 os:w'.os=w.os
 tape:w'.tape=w.tape
 output:w'.output=w.output
 dr:w.drawn<=w'.drawn
 size:w.heap.size<=w'.heap.size
 block:∀ k,k<w.heap.size->k ∉ md->w'.heap[k]? = w.heap[k]?
theorem aI.refl (md:List Nat) (w:World):aI md w w:=⟨I,I,I,Zv _,Zv _,fun _ _ _=>rfl⟩
theorem aI.trans {md:List Nat} {a b c:World} (h:aI md a b) (k:aI md b c):aI md a c:=
 ⟨k.os.trans h.os,k.tape.trans h.tape,k.output.trans h.output,ZP h.dr k.dr,ZP h.size k.size,fun i hi hm=>(k.block i (ZaK hi h.size) hm).trans (h.block i hi hm)⟩
theorem aI.mono {md md':List Nat} {w w':World} (h:aI md w w') (hs:∀ b∈md,b∈md'):aI md' w w':=
 ⟨h.os,h.tape,h.output,h.dr,h.size,fun k hk hm=>h.block k hk (fun hb=>hm (hs k hb))⟩
theorem aI.below {w w':World} (h:aI [] w w'):Below w.heap.size w w':=⟨h.os,h.tape,h.output,h.size,fun k hk=>h.block k hk (by simp)⟩
theorem aI.K3 {w w':World} (h:Below w.heap.size w w') (hd:w.drawn<=w'.drawn):aI [] w w':=⟨h.os,h.tape,h.output,hd,h.size,fun k hk _=>h.block k hk⟩
theorem aI.drew (md:List Nat) (w:World):aI md w w.drew:=⟨I,I,I,Nat.le_succ _,Zv _,fun _ _ _=>rfl⟩
theorem aI.alloc (md:List Nat) (w:World) (o:Obj):aI md w (w.alloc o):=
 ⟨I,I,I,Zv _,by simp,fun k hk _=>by show (w.heap.push o)[k]? = _;rw [Array.getElem?_push,if_neg (by omega)]⟩
structure Cx where
 w0:World
 md:List Nat
 nt:Nat
structure Mem (c:Cx) (hs:List bd) (w:World):Prop where
 keeps:aI c.md c.w0 w
 own:∃ fp:List Nat,fp.Nodup/\cy (hp w) hs fp/\∀ b∈fp,c.w0.heap.size<=b\/b∈c.md
theorem Mem.take {c:Cx} {hs hs':List bd} {A:bd} {w:World} (h:Mem c hs w) (ht:Take hs A hs'):Mem c (A::hs') w:=by
 obtain ⟨k,fp,hn,hs,hb⟩:=h;obtain ⟨f1,f2,h1,h2,hp⟩:=hs.take ht;exact ⟨k,f1++f2,hp.nodup_iff.1 hn,⟨f1,f2,I,h1,h2⟩,fun b dQ=>hb b (hp.mem_iff.2 dQ)⟩
theorem Mem.change {c:Cx} {As Bs hs:List bd} {w w':World} (h:Mem c (As++hs) w)
  (PR:∀ fp,fp.Nodup->cy (hp w) As fp->aI fp w w'/\∃ mE:List Nat,mE.Nodup/\cy (hp w') Bs mE/\∀ b∈mE,b∈fp\/w.heap.size<=b):Mem c (Bs++hs) w':=by
 obtain ⟨k,fp,hn,hs,hb⟩:=h;obtain ⟨f1,f2,rfl,h1,h2⟩:=cy.append_iff.1 hs;obtain ⟨n1,n2,n12⟩:=ZI.1 hn;obtain ⟨hk,mE,uy,hs',zC⟩:=PR f1 n1 h1;have aL:∀ b∈f2,b<w.heap.size:=fun b dQ=>let ⟨o,ho⟩:=h2.own b dQ;lf ho
 refine ⟨?_,mE++f2,?_,cy.append_iff.2 ⟨mE,f2,I,hs',h2.loc fun b dQ=>?_⟩,?_⟩
 ·refine ⟨hk.os.trans k.os,hk.tape.trans k.tape,hk.output.trans k.output,ZP k.dr hk.dr,ZP k.size hk.size,fun b dQ hm=>?_⟩;rw [<- k.block b dQ hm];refine hk.block b (ZaK dQ k.size) (fun hf=>?_);rcases hb b (ZH _ hf) with h | h
  ·omega
  ·exact hm h
 ·refine ZI.2 ⟨uy,n2,fun x hx y hy e=>?_⟩;subst e;rcases zC x hx with h | h
  ·exact n12 x h x hy I
  ·have:=aL x hy;omega
 ·exact hk.block b (aL b dQ) (fun hf=>n12 b hf b dQ I)
 ·intro b dQ;rcases Zz.1 dQ with h | h
  ·rcases zC b h with h | h
   ·exact hb b (ZH _ h)
   ·exact .inl (ZP k.size h)
  ·exact hb b (ZT _ h)
theorem Mem.sx {c:Cx} {hs:List bd} {w w':World} (h:Mem c hs w) (hk:aI [] w w'):Mem c hs w':=
 Mem.change (As:=[]) (Bs:=[]) h fun fp _ hf=>by
  rw [show fp=[] from hf];exact ⟨hk,[],Zao,I,by simp⟩
theorem Mem.drew {c:Cx} {hs:List bd} {w:World} (h:Mem c hs w):Mem c hs w.drew:=h.sx (.drew _ _)
theorem Mem.mn {c:Cx} {l m:List bd} {w:World} (h:Mem c (l++m) w):Mem c l w:=by
 obtain ⟨k,fp,hn,hs,hb⟩:=h;obtain ⟨f1,f2,rfl,h1,h2⟩:=cy.append_iff.1 hs;exact ⟨k,f1,(ZI.1 hn).1,h1,fun b dQ=>hb b (ZH _ dQ)⟩
theorem Mem.xu {c:Cx} {A:bd} {l:List bd} {w:World} (h:Mem c (A::l) w):Mem c l w:=by
 obtain ⟨k,fp,hn,⟨f1,f2,rfl,h1,h2⟩,hb⟩:=h;exact ⟨k,f2,(ZI.1 hn).2.1,h2,fun b dQ=>hb b (ZT _ dQ)⟩
def bu (b:Nat) (o:Obj):bd where
 sat h fp:=fp=[b]/\h b=some o
 loc:=fun ⟨e,h1⟩ hb=>⟨e,by rw [hb _ (by rw [e];simp)];exact h1⟩
 own:=fun ⟨e,h1⟩ b' dQ=>by rw [e] at dQ;rw [ZD.1 dQ];exact ⟨o,h1⟩
theorem Mem.bu {c:Cx} {hs hs':List bd} {b:Nat} {o:Obj} {w:World} (h:Mem c hs w) (ht:Take hs (bu b o) hs'):w.heap[b]? = some o:=by
 obtain ⟨_,fp,_,⟨f1,f2,_,⟨_,h1⟩,_⟩,_⟩:=h.take ht;exact h1
theorem Mem.alloc {c:Cx} {hs:List bd} {w:World} (h:Mem c hs w) (o:Obj):Mem c (SL.bu w.heap.size o::hs) (w.alloc o):=
 Mem.change (As:=[]) (Bs:=[SL.bu w.heap.size o]) h fun fp _ hf=>by
  rw [show fp=[] from hf];refine ⟨.alloc _ _ _,[w.heap.size],by simp,⟨[w.heap.size],[],I,⟨I,World.alloc_heap_new w o⟩,I⟩,by simp⟩
theorem Mem.store {c:Cx} {hs:List bd} {o o':Obj} {w w':World} (h:Mem c (SL.bu b o::hs) w) (hk:aI [b] w w') (ho:w'.heap[b]? = some o'):Mem c (SL.bu b o'::hs) w':=
 Mem.change (As:=[SL.bu b o]) (Bs:=[SL.bu b o']) h fun fp _ hf=>by
  obtain ⟨f1,f2,e,⟨e1,_⟩,e2⟩:=hf;have:fp=[b]:=by rw [e,e1,show f2=[] from e2];rfl
  subst this;exact ⟨hk,[b],by simp,⟨[b],[],I,⟨I,ho⟩,I⟩,fun x hx=>.inl hx⟩
theorem Mem.base {c:Cx} {hs:List bd} {w:World} (h:Mem c hs w) {b:Nat} (hb:b<c.w0.heap.size) (hm:b ∉ c.md):w.heap[b]? = c.w0.heap[b]?:=h.keeps.block b hb hm
def mark (r:Nat):Deferred:={ target:=.collected r,args:=#[] }
def nF (D:List Nat):List bd:=D.map fun r=>bu r (.deferred (some []))
structure St (c:Cx) (D:List Nat) (sl:aN) (hs:List bd) (a:Act) (w:World):Prop where
 mem:Mem c (hs++nF D) w
 dw:bZ sl a
 size:a.tmps.size=c.nt
 defers:a.defers=D.map mark
def Tr (c:Cx) (D:List Nat) (sl:aN) (hs:List bd) (X:Act->World->Prop):Prop:=∀ a w,St c D sl hs a w->X a w
theorem St.pE {c:Cx} {sl:aN} {hs:List bd} {w:World} (h:St c D sl hs a w):Mem c hs w:=h.mem.mn
theorem St.put {c:Cx} {sl:aN} {hs:List bd} {w:World} (h:St c D sl hs a w) {d:Nat} (hd:d<c.nt) (v:Value):St c D ((d,v)::sl) hs (a.put (some d) v) w:=
 ⟨h.mem,h.dw.put (by rw [h.size];exact hd) v,by simp [Act.put,h.size],h.defers⟩
theorem St.heap {c:Cx} {sl:aN} {hs hs':List bd} {w w':World} (h:St c D sl hs a w) (hm:Mem c (hs'++nF D) w'):St c D sl hs' a w':=
 ⟨hm,h.dw,h.size,h.defers⟩
def FR (r:Option Nat):Fence:={ Fence.wide with round:=r }
def WP (P:Program) (r:Option Nat) (code:Code) (Q:Exit->Act->World->Prop):Act->World->Prop:=code.wpIn (FR r) 0 P Q
def WL (P:Program) (r:Option Nat) (ops:Array Oper) (Q:Exit->Act->World->Prop):List Oper->Act->World->Prop
 | [],a,w=>Q .normal a w
 | o :: rest, a, w =>
  if Region.wanted o (yielded ops a.tmps) then o.wpIn (FR r) 0 P a w (WL P r ops Q rest) Q else WL P r ops Q rest (a.put o.dst undef) w
theorem eh (r:Option Nat) (o:Oper) (P:Program) (w:World) (ρ:Operand->Value):∀ f,o.about P w ρ=some f->(FR r).fn f:=fun _ _=>trivial
theorem xZ {P:Program} (l:List Oper):∀ k,(∀ j,l[j]? = ops[k+j]?)->wpOpsIn (FR r) 0 P ops Q (List.range' k l.length)=WL P r ops Q l:=by
 induction l with
 | nil=>intro k _;funext a w;simp [wpOpsIn,WL]
 | cons o l ih =>
  intro k h;have h0:ops[k]? = some o:=by simpa using (h 0).symm
  have ih':=ih (k+1) (fun j=>by have:=h (j+1);simpa [Nat.add_assoc,Nat.add_comm 1 j] using this)
  funext a w;simp only [ZB,List.range'_succ,wpOpsIn,h0,WL,ih'];split
  ·rfl
  ·simp [FR,Fence.wide]
theorem ny {P:Program} {c:Cx} {sl:aN} {hs:List bd} {l:List Oper}
  (h:Tr c D sl hs (WL P r l.toArray Q l)):Tr c D sl hs (WP P r (.region id l.toArray false) Q):=fun a w bb=>by
 unfold WP;refine wpIn_region ?_;rw [List.range_eq_range',show l.toArray.size=l.length from by simp,xZ l 0 (by simp)];exact h a w bb
theorem pg {P:Program} {c:Cx} {sl:aN} {hs:List bd} {x y:Code}
  (h:Tr c D sl hs (WP P r x (Exit.then (WP P r y Q) Q))):Tr c D sl hs (WP P r (.seq x y) Q):=fun a w bb=>wpIn_seq (h a w bb)
theorem vQ {P:Program} {c:Cx} {sl:aN} {hs:List bd}
  (h:Tr c D sl hs (Q .normal)):Tr c D sl hs (WL P r ops Q []):=h
theorem uZ {c:Cx} {sl:aN} {hs:List bd}
  (h:Tr c D sl hs N):Tr c D sl hs (Exit.then N Q .normal):=h
theorem B9 {c:Cx} {sl:aN} {hs:List bd}
  (h:Tr c D sl hs (Q .ret)):Tr c D sl hs (Exit.then N Q .ret):=h
theorem Ai {c:Cx} {sl:aN} {hs:List bd}
  (h:Tr c D sl hs (Q (.exit id))):Tr c D sl hs (Exit.then N Q (.exit id)):=h
theorem qW {c:Cx} {sl:aN} {hs:List bd}
  (h:Tr c D sl hs (Q .normal)):Tr c D sl hs (Exit.inBlock id Q .normal):=h
theorem D9 {c:Cx} {sl:aN} {hs:List bd}
  (h:Tr c D sl hs (Q .ret)):Tr c D sl hs (Exit.inBlock id Q .ret):=h
theorem Cj {c:Cx} {sl:aN} {hs:List bd}
  (h:Tr c D sl hs (Q .normal)):Tr c D sl hs (Exit.inBlock id Q (.exit id)):=fun a w bb=>by
 simp only [Exit.inBlock,if_true];exact h a w bb
theorem vR {c:Cx} {sl:aN} {hs:List bd} {id Yv:Nat} (hne:Nat.beq Yv id=false)
  (h:Tr c D sl hs (Q (.exit Yv))):Tr c D sl hs (Exit.inBlock id Q (.exit Yv)):=fun a w bb=>by
 have:¬ Yv=id:=fun e=>by subst e;simp at hne
 simp only [Exit.inBlock,this,if_false];exact h a w bb
theorem J9 {P:Program} {c:Cx} {sl:aN} {hs:List bd} {x:Code}
  (h:Tr c D sl hs (WP P r x (Exit.inBlock id Q))):Tr c D sl hs (WP P r (.block id x) Q):=fun a w bb=>wpIn_block (h a w bb)
theorem FI {P:Program} {c:Cx} {sl:aN} {hs:List bd}
  (h:Tr c D sl hs (Q .normal)):Tr c D sl hs (WP P r .skip Q):=fun a w bb=>wpIn_skip (h a w bb)
theorem N2 {P:Program} {c:Cx} {sl:aN} {hs:List bd}
  (h:Tr c D sl hs (Q (.exit id))):Tr c D sl hs (WP P r (.exit id) Q):=fun a w bb=>wpIn_exit (h a w bb)
theorem JY {P:Program} {c:Cx} {sl:aN} {hs:List bd}
  (h:Tr c D sl hs (Q .ret)):Tr c D sl hs (WP P r .ret Q):=fun a w bb=>wpIn_ret (h a w bb)
theorem FM {P:Program} {c:Cx} {sl:aN} {hs:List bd} {b:Bool} {u v:Code} (hx:Is sl x (.bool b))
  (ht:b=true->Tr c D sl hs (WP P r u Q)) (hf:b=false->Tr c D sl hs (WP P r v Q)):Tr c D sl hs (WP P r (.cond x u v) Q):=fun a w bb=>
 wpIn_cond_split (hx a bb.dw) (fun e=>ht e a w bb) (fun e=>hf e a w bb)
theorem c5 {P:Program} {c:Cx} {sl:aN} {hs:List bd} {u v:Code} (hx:Is sl x (.bool true))
  (ht:Tr c D sl hs (WP P r u Q)):Tr c D sl hs (WP P r (.cond x u v) Q):=fun a w bb=>wpIn_cond_true (hx a bb.dw) (ht a w bb)
theorem cd {P:Program} {c:Cx} {sl:aN} {hs:List bd} {u v:Code} (hx:Is sl x (.bool false))
  (ht:Tr c D sl hs (WP P r v Q)):Tr c D sl hs (WP P r (.cond x u v) Q):=fun a w bb=>wpIn_cond_false (hx a bb.dw) (ht a w bb)
theorem Hb {P:Program} {c:Cx} {sl:aN} {hs:List bd} {p:Prop} {inst:Decidable p} {u v:Code} (hx:Is sl x (.bool (decide p)))
  (ht:p->Tr c D sl hs (WP P r u Q)) (hf:¬ p->Tr c D sl hs (WP P r v Q)):Tr c D sl hs (WP P r (.cond x u v) Q):=
 FM hx (fun e=>ht (of_decide_eq_true e)) (fun e=>hf (of_decide_eq_false e))
theorem N1 {P:Program} {c:Cx} {sl:aN} {hs:List bd} {x:Code} {ι:Type} (Φ:ι->Prop) (sI:ι->aN) (hI:ι->List bd) (μ:ι->Nat)
  (h0:Tr c D sl hs fun a w=>∃ i,Φ i/\St c D (sI i) (hI i) a w)
  (round:∀ i,Φ i->Tr c D (sI i) (hI i) (WP P r x (Exit.then (fun a w=>∃ j,Φ j/\μ j<μ i/\St c D (sI j) (hI j) a w) Q))) :
  Tr c D sl hs (WP P r (.loop x) Q):=fun a w bb=>by
 have key:∀ (n:Nat) i,μ i=n->Φ i->∀ a w,St c D (sI i) (hI i) a w->True:=fun _ _ _ _ _ _ _=>trivial
 -- a measure on Y9: DV least 'μ i' of acG VJ fit
 let fits:Act->World->Nat->Prop:=fun a w n=>∃ i,Φ i/\μ i=n/\St c D (sI i) (hI i) a w
 have least:∀ a w,(∃ n,fits a w n)->∃ n,fits a w n/\∀ m,fits a w m->n<=m:=by
  intro a w ⟨n,hn⟩
  induction n using Nat.strongRecOn with
  | _ n ih =>
   by_cases h:∃ m,m<n/\fits a w m
   ·obtain ⟨m,hm,hf⟩:=h;exact ih m hm hf
   ·exact ⟨n,hn,fun m hm=>Zbj fun aL=>h ⟨m,aL,hm⟩⟩
 let M:Act->World->Nat:=fun a w=>Classical.epsilon fun n=>fits a w n/\∀ m,fits a w m->n<=m
 have hM:∀ a w,(∃ n,fits a w n)->fits a w (M a w)/\∀ m,fits a w m->M a w<=m:=fun a w h=>Classical.epsilon_spec (least a w h)
 refine wpIn_loop (fun a w=>∃ n,fits a w n) M ?_ ?_
 ·obtain ⟨i,hi,hs⟩:=h0 a w bb;exact ⟨μ i,i,hi,I,hs⟩
 ·intro a w hI;obtain ⟨⟨i,hi,hm,hs⟩,_⟩:=hM a w hI;refine wpIn_mono (round i hi a w hs) fun e a' w' h=>?_;cases e with
  | normal =>
   obtain ⟨j,hj,aL,hs'⟩:=h;have hf:fits a' w' (μ j):=⟨j,hj,I,hs'⟩;exact ⟨⟨_,hf⟩,Nat.lt_of_le_of_lt ((hM a' w' ⟨_,hf⟩).2 _ hf) (by rw [<- hm];exact aL)⟩
  | _=>exact h
theorem mJ {P:Program} {w:World} (hg:o.guard=none)
  (h:o.wpIn (FR r) 0 P a w (WL P r ops Q rest) Q):WL P r ops Q (o::rest) a w:=by
 unfold WL;rw [if_pos (by simp [Region.wanted,hg])];exact h
def du (P:Program) (c:Cx) (sl:aN) (hs:List bd) (o:Oper) (V:Value):Prop:=
 (∀ d,o.op≠.defer d)/\∀ a w,bZ sl a->Mem c hs w->(execOp a.eval o).run P w=.ok (.value V) w
theorem ab {P:Program} {c:Cx} {sl:aN} {hs:List bd} {ty:TypeId} {pos:String} {af:Array Edge}
  (hr:du P c sl hs ⟨some d,op,ty,pos,af,none⟩ V) (hd:Nat.blt d c.nt=true) (k:Tr c D ((d,V)::sl) hs (WL P r ops Q rest)) :
  Tr c D sl hs (WL P r ops Q (⟨some d,op,ty,pos,af,none⟩::rest)):=fun a w bb=>by
 refine mJ I ⟨eh _ _ _ _ _,?_⟩;rw [Oper.semAt_eq _ _ _ hr.1,hr.2 a w bb.dw bb.pE];exact k _ _ (bb.put (by simpa [Z8] using hd) V)
theorem lR {j g:Nat} {want c0 q:Bool} {sl:aN} (hg:o.guard=some (j,want)) (hj:((ops[j]?).bind (·.dst))=some g) (hs:bZ sl a) (hq:dj sl g=some (gv c0 (.bool q))) :
  Region.wanted o (yielded ops a.tmps)=(c0&&(q==want)):=by
 have ht:=hs _ _ hq;simp only [Region.wanted,hg,yielded,hj,Option.bind_some,ht];cases c0 <;> cases q <;> cases want <;> rfl
theorem FH {P:Program} {c:Cx} {sl:aN} {hs:List bd} {ty:TypeId} {pos:String} {af:Array Edge}
  {j g:Nat} {want c0 q:Bool} (hj:((ops[j]?).bind (·.dst))=some g) (hq:dj sl g=some (gv c0 (.bool q)))
  (hr:(c0&&(q==want))=true->du P c sl hs ⟨some d,op,ty,pos,af,some (j,want)⟩ V) (hd:Nat.blt d c.nt=true) (k:Tr c D ((d,gv (c0&&(q==want)) V)::sl) hs (WL P r ops Q rest)) :
  Tr c D sl hs (WL P r ops Q (⟨some d,op,ty,pos,af,some (j,want)⟩::rest)):=fun a w bb=>by
 unfold WL;rw [lR I hj bb.dw hq];by_cases h:(c0&&(q==want))=true
 ·rw [if_pos h];refine ⟨eh _ _ _ _ _,?_⟩;rw [Oper.semAt_eq _ _ _ (hr h).1,(hr h).2 a w bb.dw bb.pE];rw [vC h] at k;exact k _ _ (bb.put (by simpa [Z8] using hd) V)
 ·rw [if_neg h];rw [xl (by simpa using h)] at k;exact k _ _ (bb.put (by simpa [Z8] using hd) undef)
theorem vO {P:Program} {c:Cx} {sl:aN} {hs:List bd} {ty:TypeId} {pos:String} {af:Array Edge}
  {j g:Nat} {want q:Bool} (hj:((ops[j]?).bind (·.dst))=some g) (hq:dj sl g=some (.bool q))
  (hr:(q==want)=true->du P c sl hs ⟨some d,op,ty,pos,af,some (j,want)⟩ V) (hd:Nat.blt d c.nt=true) (k:Tr c D ((d,gv (q==want) V)::sl) hs (WL P r ops Q rest)) :
  Tr c D sl hs (WL P r ops Q (⟨some d,op,ty,pos,af,some (j,want)⟩::rest)):=
 FH (c0:=true) hj (by rw [hq];rfl) (by simpa using hr) hd (by simpa using k)
end Go.SL
namespace Go.SL
open Go
def lr:TypeDesc->Bool
 | .struct _ | .array _ _=>true
 | _=>false
def QL (P:Program) (t:TypeId):Option (Bool×Nat):=
 match P.underlying t,P.info? t with
 | some d,some i=>some (lr d,i.size)
 | _,_=>none
class Ty (P:Program) (t:TypeId) (agg:outParam Bool) (n:outParam Nat):Prop where
 eq:QL P t=some (agg,n):=by kernel_rfl
class iI (P:Program) (t:TypeId) (d:outParam TypeDesc):Prop where
 eq:P.underlying t=some d:=by kernel_rfl
class mA (P:Program) (t:TypeId) (v:outParam Value):Prop where
 eq:(P.info? t).map (·.zero)=some (some v):=by kernel_rfl
class uW (P:Program) (t:TypeId) (n:outParam Nat):Prop where
 eq:(P.info? t).map (·.bytes)=some n:=by kernel_rfl
section
variable {P:Program} {w:World} {t:TypeId}
variable {agg:Bool} {n:Nat} {v:Value} {vs:List Value}
theorem Ty.parts [h:Ty P t agg n]:∃ d i,P.underlying t=some d/\P.info? t=some i/\lr d=agg/\i.size=n:=by
 have:=h.eq;unfold QL at this;split at this
 ·rename_i d i hd hi;cases this;exact ⟨d,i,hd,hi,I,I⟩
 ·cases this
theorem aX {d:TypeDesc} (h:P.underlying t=some d):(underlying t).run P w=.ok d w:=by simp [underlying,h]
theorem gy {i:TypeInfo} (h:P.info? t=some i):(typeInfo t).run P w=.ok i w:=by simp [typeInfo,h]
theorem gj [h:Ty P t agg n]:(sizeOf t).run P w=.ok n w:=by
 obtain ⟨d,i,_,hi,_,hn⟩:=Ty.parts (P:=P) (t:=t);simp [sizeOf,gy hi,hn]
theorem wg [h:Ty P t agg n]:(isAgg t).run P w=.ok agg w:=by
 obtain ⟨d,i,hd,_,ha,_⟩:=Ty.parts (P:=P) (t:=t);unfold isAgg;rw [Sem.run_bind,aX hd,Result.andThen_ok];subst ha;cases d <;> rfl
theorem jf [h:mA P t v]:(zeroValue t).run P w=.ok v w:=by
 have:=h.eq;cases hi:P.info? t with
 | none=>rw [hi] at this;cases this
 | some i =>
  rw [hi] at this;have hz:i.zero=some v:=by simpa using this
  simp [zeroValue,gy hi,hz]
theorem AE {a:Addr} (h:w.cell? a=some v) (m:Mode):(load a m).run P w=.ok v w:=by simp [h]
theorem cell_of_block {b:Nat} {cs:Array Value} {E:TypeId} {fz:Nat×Nat} (h:w.heap[b]? = some (.cells cs E fz)) (o:Nat):w.cell? ⟨b,o,none⟩=cs[o]?:=by
 simp [World.cell?,h]
theorem eO (b o n:Nat):Addr.add ⟨b,o,none⟩ n=⟨b,o+n,none⟩:=by
 unfold Addr.add;split
 ·rename_i h;simp [h]
 ·rfl
theorem nD {b o:Nat}:∀ (n i:Nat) (acc:Array Value) (vs:List Value),vs.length=n->(∀ j v,vs[j]? = some v->w.cell? ⟨b,o+(i+j),none⟩=some v) ->
  (loadCellsFrom ⟨b,o,none⟩ i n acc).run P w=.ok (acc++vs.toArray) w
 | 0, i, acc, vs, hl, _ => by
  have:vs=[]:=Zav.1 hl;subst this;simp [loadCellsFrom]
 | n+1,i,acc,[],hl,_=>by simp at hl
 | n + 1, i, acc, v :: vs, hl, hc => by
  have h0:w.cell? (Addr.add ⟨b,o,none⟩ i)=some v:=by rw [eO];exact hc 0 v I
  simp only [loadCellsFrom,Sem.run_bind,AE h0,Result.andThen_ok];rw [nD n (i+1) (acc.push v) vs (by simpa using hl) (fun j u hu=>by
   have:=hc (j+1) u (by simpa using hu);rw [show i+1+j=i+(j+1) from by omega];exact this)]
  simp
theorem og {b o n:Nat} (hl:vs.length=n) (hc:∀ j v,vs[j]? = some v->w.cell? ⟨b,o+j,none⟩=some v):(loadCells ⟨b,o,none⟩ n).run P w=.ok vs.toArray w:=by
 unfold loadCells;rw [nD n 0 #[] vs hl (fun j v hv=>by simpa using hc j v hv)]
 simp
theorem ub {b o n:Nat} [Ty P t false n] (hc:w.cell? ⟨b,o,none⟩=some v):(loadVar t ⟨b,o,none⟩).run P w=.ok v w:=by
 unfold loadVar;rw [Sem.run_bind,wg (agg:=false) (n:=n),Result.andThen_ok];simp [hc]
theorem pA {b o n:Nat} [Ty P t true n] (hl:vs.length=n) (hc:∀ j v,vs[j]? = some v->w.cell? ⟨b,o+j,none⟩=some v):(loadVar t ⟨b,o,none⟩).run P w=.ok (.agg vs.toArray) w:=by
 unfold loadVar;rw [Sem.run_bind,wg (agg:=true) (n:=n),Result.andThen_ok];simp only [if_true,Sem.run_bind,gj (t:=t) (agg:=true) (n:=n),Result.andThen_ok,og hl hc,Sem.run_pure]
end
def At (c:Cx) (hs:List bd) (b o:Nat) (v:Value):Prop:=∀ w,Mem c hs w->w.cell? ⟨b,o,none⟩=some v
variable {b:Nat} {cs:List Value} {fz:Nat×Nat} {o:Nat} {v:Value} {vs:List Value}
theorem At.bu {c:Cx} {hs hs':List bd} {cs:Array Value} {E:TypeId} (ht:Take hs (SL.bu b (.cells cs E fz)) hs') (hv:cs[o]? = some v):At c hs b o v:=
 fun w hm=>by rw [cell_of_block (hm.bu ht)];exact hv
theorem At.base {c:Cx} {hs:List bd} (h:c.w0.cell? ⟨b,o,none⟩=some v) (HM:c.md=[]):At c hs b o v:=fun w hm=>by
 have hb:b<c.w0.heap.size:=World.block_lt_of_cell? c.w0 ⟨b,o,none⟩ h;have:=hm.base hb (by rw [HM];simp);rw [<- h];simp [World.cell?,this]
theorem At.DK {c:Cx} {hs:List bd} (h:c.w0.cell? ⟨b,o,none⟩=some v) (HM:b ∉ c.md):At c hs b o v:=fun w hm=>by
 have hb:b<c.w0.heap.size:=World.block_lt_of_cell? c.w0 ⟨b,o,none⟩ h;have:=hm.base hb HM;rw [<- h];simp [World.cell?,this]
def fo (c:Cx) (hs:List bd) (b o:Nat):List Value->Prop
 | []=>True
 | v::vs=>At c hs b o v/\fo c hs b (o+1) vs
theorem fo.get {c:Cx} {hs:List bd}:∀ {vs:List Value} {o:Nat},fo c hs b o vs->∀ j v,vs[j]? = some v->At c hs b (o+j) v
 | [],_,_,j,v,h=>by simp at h
 | x :: vs, o, ⟨h0, h1⟩, j, v, h => by
  cases j with
  | zero=>simp at h;subst h;exact h0
  | succ j=>have:=fo.get h1 j v (by simpa using h);rwa [show o+1+j=o+(j+1) from by omega] at this
theorem fo.wH {c:Cx} {hs:List bd}:∀ {vs:List Value} {o:Nat},(∀ j v,vs[j]? = some v->At c hs b (o+j) v)->fo c hs b o vs
 | [],_,_=>trivial
 | x::vs,o,h=>⟨h 0 x rfl,fo.wH fun j v hv=>by have:=h (j+1) v (by simpa using hv);rwa [show o+(j+1)=o+1+j from by omega] at this⟩
theorem fo.base {c:Cx} {hs:List bd} (h:∀ (j:Nat) (u:Value),vs[j]? = some u->c.w0.cell? ⟨b,o+j,none⟩=some u) (HM:c.md=[]):fo c hs b o vs:=
 fo.wH fun j u hu=>At.base (h j u hu) HM
def eL:List Value->Nat->Nat->List Value
 | _,_,0=>[]
 | [],_,_+1=>[]
 | v::r,0,n+1=>v::eL r 0 n
 | _::r,o+1,n+1=>eL r o (n+1)
theorem jM:∀ (cs:List Value) (o n:Nat),eL cs o n=(cs.drop o).take n
 | cs,o,0=>by simp [eL]
 | [],o,n+1=>by simp [eL]
 | v::r,0,n+1=>by simp [eL,jM r 0 n]
 | v::r,o+1,n+1=>by simp [eL,jM r o (n+1)]
def uM:List Value->Nat->Option Value
 | [],_=>none
 | v::_,0=>some v
 | _::r,n+1=>uM r n
theorem vt:∀ (cs:List Value) (o:Nat),uM cs o=cs[o]?
 | [],_=>by simp [uM]
 | v::_,0=>by simp [uM]
 | _::r,n+1=>by simp [uM,vt r n]
theorem At.lit {c:Cx} {hs hs':List bd} {E:TypeId} (ht:Take hs (SL.bu b (.cells cs.toArray E fz)) hs') (hv:uM cs o=some v):At c hs b o v:=
 At.bu ht (by rw [vt] at hv;simpa using hv)
theorem fo.bu {c:Cx} {hs hs':List bd} {b o n:Nat} {E:TypeId} (ht:Take hs (SL.bu b (.cells cs.toArray E fz)) hs') (hv:eL cs o n=vs):fo c hs b o vs:=by
 subst hv;refine fo.wH fun j v hv=>At.bu ht ?_;simp only [jM,ZN,Zbl] at hv;split at hv
 ·simpa using hv
 ·cases hv
section
variable {P:Program} {c:Cx} {sl:aN} {hs hs':List bd} {dst:Option Tmp} {ty:TypeId} {pos:String} {af:Array Edge} {g:Option (Nat×Bool)}
variable {a:Int} {agg:Bool} {b i:Int} {k:IntKind} {n:Nat} {op:BinOp} {s:ByteArray} {v:Value} {vs:List Value} {x y:Operand}
theorem aQ (hx:Is sl x v):du P c sl hs ⟨dst,.move x,ty,pos,af,g⟩ v:=
 ⟨by simp,fun a w ha _=>by simp [execOp,hx a ha]⟩
theorem cX (hx:Is sl x v):du P c sl hs ⟨dst,.assign x,ty,pos,af,g⟩ v:=
 ⟨by simp,fun a w ha _=>by simp [execOp,hx a ha]⟩
theorem vf {x y z:Operand} {q:Bool} {v u:Value} (hx:Is sl x (.bool q)) (hy:Is sl y v) (hz:Is sl z u):du P c sl hs ⟨dst,.pick x y z,ty,pos,af,g⟩ (bif q then v else u):=
 ⟨by simp,fun a w ha _=>by simp [execOp,hx a ha,hy a ha,hz a ha,asBool,cond_eq_ite]⟩
theorem bV {t:Nat} {p q:Bool} (hx:Is sl x (.bool p)) (hq:dj sl t=some (gv (p==false) (.bool q))) :
  du P c sl hs ⟨dst,.pick x (.const (.bool true)) (.tmp t),ty,pos,af,g⟩ (.bool (p||q)):=
 ⟨by simp,fun a w ha _=>by
  have h2:=ha.eval hq;simp only [execOp,hx a ha,h2,asBool];cases p <;> simp [gv,Act.eval]⟩
theorem cM {t:Nat} {p q:Bool} (hx:Is sl x (.bool p)) (hq:dj sl t=some (gv (p==true) (.bool q))) :
  du P c sl hs ⟨dst,.pick x (.tmp t) (.const (.bool false)),ty,pos,af,g⟩ (.bool (p&&q)):=
 ⟨by simp,fun a w ha _=>by
  have h2:=ha.eval hq;simp only [execOp,hx a ha,h2,asBool];cases p <;> simp [gv,Act.eval]⟩
theorem kX {t:Nat} {c0 p q:Bool} (hc:c0=true) (hx:Is sl x (.bool p)) (hq:dj sl t=some (gv (c0&&(p==false)) (.bool q))) :
  du P c sl hs ⟨dst,.pick x (.const (.bool true)) (.tmp t),ty,pos,af,g⟩ (.bool (p||q)):=bV hx (by rw [hq,hc,Zaz])
theorem jg {t:Nat} {c0 p q:Bool} (hc:c0=true) (hx:Is sl x (.bool p)) (hq:dj sl t=some (gv (c0&&(p==true)) (.bool q))) :
  du P c sl hs ⟨dst,.pick x (.tmp t) (.const (.bool false)),ty,pos,af,g⟩ (.bool (p&&q)):=cM hx (by rw [hq,hc,Zaz])
theorem jr {t u:TypeId} {v u' r:Value} (hx:Is sl x v) (hy:Is sl y u') (hr:∀ w,(do eqGuard op t x y v u';binOp op t v u').run P w=.ok r w) :
  du P c sl hs ⟨dst,.binOp op t x y u,ty,pos,af,g⟩ r:=
 ⟨by simp,fun a w ha _=>by
  have:=hr w;simp only [Sem.run_bind] at this;simp only [execOp,hx a ha,hy a ha,Sem.run_bind,this,Result.andThen_ok,Sem.run_pure]⟩
theorem gC {t:TypeId} {k k':IntKind} {w:World}:(eqGuard op t x y (.int k a) (.int k' b)).run P w=.ok () w:=by
 unfold eqGuard;split <;> rfl
theorem mm {t:TypeId} {a b:ByteArray} {w:World}:(eqGuard op t x y (.string a) (.string b)).run P w=.ok () w:=by
 unfold eqGuard;split <;> rfl
theorem By {t:TypeId} {a b:Bool} {w:World}:(eqGuard op t x y (.bool a) (.bool b)).run P w=.ok () w:=by
 unfold eqGuard;split <;> rfl
def Ye (n:Int):Prop:=-9223372036854775808<=n/\n<=9223372036854775807
theorem Er {t u:TypeId} (hx:Is sl x (.q a)) (hy:Is sl y (.q b)) (hb:Ye (a+b)) :
  du P c sl hs ⟨dst,.binOp .add t x y u,ty,pos,af,g⟩ (.q (a+b)):=
 jr hx hy fun w=>by simp [gC,binOp,Op.intArith,IntWalk.i64_in _ hb]
theorem tw {t u:TypeId} (hx:Is sl x (.q a)) (hy:Is sl y (.q b)) (hb:Ye (a-b)) :
  du P c sl hs ⟨dst,.binOp .sub t x y u,ty,pos,af,g⟩ (.q (a-b)):=
 jr hx hy fun w=>by simp [gC,binOp,Op.intArith,IntWalk.i64_in _ hb]
theorem OD {t u:TypeId} (hx:Is sl x (.int k a)) (hy:Is sl y (.int k b)) :
  du P c sl hs ⟨dst,.binOp .sub t x y u,ty,pos,af,g⟩ (.int k (k.wrap (a-b))):=
 jr hx hy fun w=>by simp [gC,binOp,Op.intArith]
theorem l7 {t u:TypeId} (hx:Is sl x (.int k a)) (hy:Is sl y (.int k b)) :
  du P c sl hs ⟨dst,.binOp .lss t x y u,ty,pos,af,g⟩ (.bool (decide (a<b))):=
 jr hx hy fun w=>by simp [gC,binOp,Op.intCmp]
theorem nh {t u:TypeId} (hx:Is sl x (.int k a)) (hy:Is sl y (.int k b)) :
  du P c sl hs ⟨dst,.binOp .leq t x y u,ty,pos,af,g⟩ (.bool (decide (a<=b))):=
 jr hx hy fun w=>by simp [gC,binOp,Op.intCmp]
theorem ni {t u:TypeId} (hx:Is sl x (.int k a)) (hy:Is sl y (.int k b)) :
  du P c sl hs ⟨dst,.binOp .gtr t x y u,ty,pos,af,g⟩ (.bool (decide (b<a))):=
 jr hx hy fun w=>by simp [gC,binOp,Op.intCmp]
theorem AF {t u:TypeId} (hx:Is sl x (.int k a)) (hy:Is sl y (.int k b)) :
  du P c sl hs ⟨dst,.binOp .geq t x y u,ty,pos,af,g⟩ (.bool (decide (b<=a))):=
 jr hx hy fun w=>by simp [gC,binOp,Op.intCmp]
theorem oh {t u:TypeId} (hx:Is sl x (.int k a)) (hy:Is sl y (.int k b)) :
  du P c sl hs ⟨dst,.binOp .eql t x y u,ty,pos,af,g⟩ (.bool (decide (a=b))):=
 jr hx hy fun w=>by simp [gC,binOp,Op.intCmp];rfl
theorem j7 {t u:TypeId} (hx:Is sl x (.int k a)) (hy:Is sl y (.int k b)) :
  du P c sl hs ⟨dst,.binOp .neq t x y u,ty,pos,af,g⟩ (.bool (decide (a≠b))):=
 jr hx hy fun w=>by simp [gC,binOp,Op.intCmp];rfl
theorem fu {t:TypeId} {b:Bool} (hx:Is sl x (.bool b)):du P c sl hs ⟨dst,.unOp .not t x,ty,pos,af,g⟩ (.bool (!b)):=
 ⟨by simp,fun a w ha _=>by simp [execOp,hx a ha,Op.unary]⟩
theorem vb (a b:ByteArray):(a.toList==b.toList)=decide (a=b):=by
 rw [ByteArray.toList_eq,ByteArray.toList_eq,ZaS];simp only [beq_iff_eq,decide_eq_true_eq];constructor
 ·intro h;cases a;cases b;simp at h;rw [h]
 ·intro h;rw [h]
theorem dD {t u:TypeId} {a b:ByteArray} (hx:Is sl x (.string a)) (hy:Is sl y (.string b)) :
  du P c sl hs ⟨dst,.binOp .eql t x y u,ty,pos,af,g⟩ (.bool (decide (a=b))):=
 jr hx hy fun w=>by simp [mm,binOp,Op.stringOp,vb]
theorem gz {t u:TypeId} {a b:ByteArray} (hx:Is sl x (.string a)) (hy:Is sl y (.string b)) :
  du P c sl hs ⟨dst,.binOp .neq t x y u,ty,pos,af,g⟩ (.bool (decide (a≠b))):=
 jr hx hy fun w=>by simp [mm,binOp,Op.stringOp,vb]
theorem tx {t u:TypeId} {a b:ByteArray} (hx:Is sl x (.string a)) (hy:Is sl y (.string b)) (hb:a.size+b.size<=9223372036854775807) :
  du P c sl hs ⟨dst,.binOp .add t x y u,ty,pos,af,g⟩ (.string (a++b)):=
 jr hx hy fun w=>by
  simp [mm,binOp,Op.stringOp];omega
theorem ag {t:TypeId} {b o:Nat} [Ty P t false n] (hx:Is sl x (.pointer (some ⟨b,o,none⟩))) (hv:At c hs b o v) :
  du P c sl hs ⟨dst,.load t x,ty,pos,af,g⟩ v:=
 ⟨by simp,fun a w ha hm=>by simp [execOp,hx a ha,Instr.loadAt,Instr.sureAddr,ub (hv w hm)]⟩
theorem jC {t:TypeId} {b o:Nat} [Ty P t true n] (hx:Is sl x (.pointer (some ⟨b,o,none⟩))) (hv:fo c hs b o vs) (hl:vs.length=n) :
  du P c sl hs ⟨dst,.load t x,ty,pos,af,g⟩ (.agg vs.toArray):=
 ⟨by simp,fun a w ha hm=>by simp [execOp,hx a ha,Instr.loadAt,Instr.sureAddr,pA hl (fun j v h=>hv.get j v h w hm)]⟩
def Dv (P:Program) (t:TypeId) (i:Nat):Option Nat:=
 match P.underlying t with
 | some (.struct fs) => match fs[i]? with
  | some f => match P.info? f.type with
   | some fi=>if fi.size=0 then none else some f.offset
   | none=>none
  | none=>none
 | _=>none
class eB (P:Program) (t:TypeId) (i:Nat) (o:outParam Nat):Prop where
 eq:Dv P t i=some o:=by kernel_rfl
theorem eB.parts {t:TypeId} {i o:Nat} [h:eB P t i o]:∃ fs f fi,P.underlying t=some (.struct fs)/\fs[i]? = some f/\P.info? f.type=some fi/\fi.size≠0/\f.offset=o:=by
 have:=h.eq;unfold Dv at this;split at this
 ·rename_i fs PL;split at this
  ·rename_i f hf;split at this
   ·rename_i fi T3;split at this
    ·cases this
    ·rename_i hz;cases this;exact ⟨fs,f,fi,PL,hf,T3,hz,I⟩
   ·cases this
  ·cases this
 ·cases this
theorem ar {t:TypeId} {i o:Nat} {b k q:Nat} [eB P t i o] (hx:Is sl x (.pointer (some ⟨b,k,none⟩))) (he:k+o=q) :
  du P c sl hs ⟨dst,.fieldAddr t x i,ty,pos,af,g⟩ (.pointer (some ⟨b,q,none⟩)):=
 ⟨by simp,fun a w ha _=>by
  subst he;obtain ⟨fs,f,fi,h1,h2,h3,h4,h5⟩:=eB.parts (P:=P) (t:=t) (i:=i);simp only [execOp,hx a ha,Instr.fieldAt,Sem.run_bind,aX h1,Result.andThen_ok,h2,Instr.sureAddr,Sem.run_pure,fieldPlace,sizeOf,gy h3,h4,if_false,eO,h5]⟩
def partOf (agg:Bool) (n:Nat) (cs:List Value) (o:Nat):Option Value:=
 bif agg then some (.agg (eL cs o n).toArray) else uM cs o
theorem OE {t:TypeId} [Ty P t agg n] {cs:List Value} {o:Nat} {v:Value} {w:World} (h:partOf agg n cs o=some v):(part t cs.toArray o).run P w=.ok v w:=by
 unfold part;rw [Sem.run_bind,wg (agg:=agg) (n:=n),Result.andThen_ok];cases agg with
 | true =>
  simp only [partOf,cond_true,Option.some.injEq] at h;simp only [if_true,Sem.run_bind,gj (t:=t) (agg:=true) (n:=n),Result.andThen_ok,Sem.run_pure,<- h,jM];congr 2;simp [List.extract_eq_take_drop]
 | false =>
  simp only [partOf,cond_false,vt] at h;simp [h]
def fieldInfo (P:Program) (t:TypeId) (i:Nat):Option (Nat×TypeId):=
 match P.underlying t with
 | some (.struct fs)=>(fs[i]?).map fun f=>(f.offset,f.type)
 | _=>none
class FTy (P:Program) (t:TypeId) (i:Nat) (o:outParam Nat) (ft:outParam TypeId):Prop where
 eq:fieldInfo P t i=some (o,ft):=by kernel_rfl
theorem CK {t ft:TypeId} {i o n:Nat} {cs:List Value} [h:FTy P t i o ft] [Ty P ft agg n] (hx:Is sl x (.agg cs.toArray)) (hv:partOf agg n cs o=some v) :
  du P c sl hs ⟨dst,.field t x i,ty,pos,af,g⟩ v:=
 ⟨by
   simp,fun a w ha _=>by
  have h1:=h.eq;unfold fieldInfo at h1;split at h1
  ·rename_i fs PL;obtain ⟨f,hf,he⟩:=Zam.1 h1;simp only [Prod.mk.injEq] at he;obtain ⟨e1,e2⟩:=he;subst e1;subst e2;simp only [execOp,hx a ha,Instr.field,Sem.run_bind,aX PL,Result.andThen_ok,hf,asAgg,Sem.run_pure,OE (agg:=agg) (n:=n) hv]
  ·cases h1⟩
theorem ao {t e:TypeId} {a0:Option Addr} {b o len cap q:Nat} [hu:iI P t (.slice e)] [Ty P e agg n] (hx:Is sl x (.slice a0 len cap)) (hy:Is sl y (.int k i))
  (ha:a0=some ⟨b,o,none⟩) (h0:0<=i) (h1:i<len) (he:o+i.toNat*n=q):du P c sl hs ⟨dst,.indexAddr t x y,ty,pos,af,g⟩ (.pointer (some ⟨b,q,none⟩)):=
 ⟨by simp,fun a w uv _=>by
  subst he;subst ha;simp [execOp,hx a uv,hy a uv,Instr.indexAt,asIntOf,aX hu.eq,h0,h1,gj (agg:=agg) (n:=n),eO]⟩
theorem iA {t e:TypeId} {n len:Nat} {b o q:Nat} [hu:iI P t (.array len e)] [Ty P e agg n] (hx:Is sl x (.pointer (some ⟨b,o,none⟩))) (hy:Is sl y (.int k i))
  (h0:0<=i) (h1:i<len) (he:o+i.toNat*n=q):du P c sl hs ⟨dst,.indexAddr t x y,ty,pos,af,g⟩ (.pointer (some ⟨b,q,none⟩)):=
 ⟨by simp,fun a w ha _=>by
  subst he;simp [execOp,hx a ha,hy a ha,Instr.indexAt,Instr.sureAddr,asIntOf,aX hu.eq,h0,h1,gj (agg:=agg) (n:=n),eO]⟩
theorem qv {t:TypeId} [hu:iI P t .string] (hx:Is sl x (.string s)) (hy:Is sl y (.int k i))
  (h0:0<=i) (h1:i<s.size):du P c sl hs ⟨dst,.index t x y,ty,pos,af,g⟩ (.int .u8 ((s.data.toList[i.toNat]?.getD 0).toNat:Nat)):=
 ⟨by
   simp,fun a w ha _=>by
  have aL:i.toNat<s.size:=by omega
  have hs:s[i.toNat]? = some s[i.toNat]:=getElem?_pos s i.toNat aL;have hd:s.data.toList[i.toNat]?.getD 0=s[i.toNat]:=by
   rw [ZaH,show s.data[i.toNat]? = some s.data[i.toNat] from ZaT aL]
   rfl
  simp [execOp,hx a ha,hy a ha,Instr.index,asIntOf,aX hu.eq,h0,hs,<- hd]⟩
theorem CJ {f:Fn} {first captured:Array Operand} {vs us:Array Value} (h1:∀ a,bZ sl a->first.map a.eval=vs) (h2:∀ a,bZ sl a->captured.map a.eval=us) :
  du P c sl hs ⟨dst,.makeFunc f first captured,ty,pos,af,g⟩ (.func f vs us):=
 ⟨by simp,fun a w ha _=>by simp [execOp,h1 a ha,h2 a ha,Instr.makeFunc]⟩
theorem dG {i:Nat} (hx:Is sl x (.tuple vs.toArray)) (hv:uM vs i=some v):du P c sl hs ⟨dst,.extract x i,ty,pos,af,g⟩ v:=
 ⟨by simp,fun a w ha _=>by simp [execOp,hx a ha,Instr.extract,<- vt,hv]⟩
theorem Kz {t:TypeId} {parts:Array (Nat×Operand)} {ps:Array (Nat×Value)} (hp:∀ a,bZ sl a->(parts.map fun (i,x)=>(i,a.eval x))=ps) (hb:∀ w,(Instr.build t ps).run P w=.ok v w) :
  du P c sl hs ⟨dst,.build t parts,ty,pos,af,g⟩ v:=
 ⟨by simp,fun a w ha _=>by simp only [execOp,hp a ha,Sem.run_bind,hb w,Result.andThen_ok,Sem.run_pure]⟩
theorem cR {t:TypeId} {e:TypeId} {b:Option Addr} {n cap:Nat} [hu:iI P t (.slice e)] (hx:Is sl x (.slice b n cap)) :
  du P c sl hs ⟨dst,.call ⟨.builtin .len,#[x],#[t]⟩,ty,pos,af,g⟩ (.q n):=
 ⟨by simp,fun a w ha _=>by simp [execOp,hx a ha,resolve,invoke,builtin,Builtin.len_,aX hu.eq,goInt]⟩
theorem iz {t:TypeId} [hu:iI P t .string] (hx:Is sl x (.string s)) :
  du P c sl hs ⟨dst,.call ⟨.builtin .len,#[x],#[t]⟩,ty,pos,af,g⟩ (.q s.size):=
 ⟨by simp,fun a w ha _=>by simp [execOp,hx a ha,resolve,invoke,builtin,Builtin.len_,aX hu.eq,goInt]⟩
theorem AG {t u:TypeId} {k k':IntKind} {n:Int} [ht:iI P t (.int k')] [hu:iI P u (.int k)] (hx:Is sl x (.int k' n)) :
  du P c sl hs ⟨dst,.convert t u x,ty,pos,af,g⟩ (.int k (k.wrap n)):=
 ⟨by simp,fun a w ha _=>by simp [execOp,hx a ha,convert,aX ht.eq,aX hu.eq,Conv.intToInt]⟩
end
end Go.SL
namespace Go.Proofs.A1
open Go Go.SL
structure Wn where
 n:Nat
 ca:Nat->Bool
 fe:Nat->Bool
 fr:Nat->Int
 to:Nat->Int
 Fk:Int
def Wn.fin (N:Wn) (p:List Nat):Int:=match p.getLast? with | none=>N.Fk | some j=>N.to j
def Wn.step (N:Wn) (p:List Nat) (j:Nat):Bool:=decide (j<N.n)&&(!p.contains j&&((p.isEmpty&&N.ca j)||(N.fe j&&decide (N.fr j=N.fin p))))
def Wn.ok (N:Wn) (p:List Nat):Prop:=∀ k (h:k<p.length),N.step (p.take k) p[k]=true
theorem Wn.ml (N:Wn) (p:List Nat) (j:Nat):N.fin (p++[j])=N.to j:=by unfold Wn.fin;rw [List.getLast?_append];rfl
theorem Wn.oz (N:Wn):N.ok []:=fun k h=>absurd h (ZV k)
variable {d:Int} {j:Nat} {p q x:List Nat}
theorem Wn.jI {N:Wn}:N.ok (p++[j])↔N.ok p/\N.step p j=true:=by
 constructor
 ·intro h;constructor
  ·intro k hk;have:=h k (by rw [Zg];omega);rwa [Zai (by omega),ZaJ hk] at this
  ·have:=h p.length (by rw [Zg];simp);rwa [Zai (Zv _),Z9 (Zv _),Zap (Zv _),List.getElem_singleton] at this
 ·rintro ⟨h1,h2⟩ k hk;rw [Zg] at hk;by_cases hl:k<p.length
  ·rw [Zai (by omega),ZaJ hl];exact h1 k hl
  ·obtain rfl:k=p.length:=by simp at hk;omega
   rw [Zai (Zv _),Z9 (Zv _),Zap (Zv _),List.getElem_singleton];exact h2
theorem Wn.Ga {N:Wn} (h:N.ok p) (k:Nat):N.ok (p.take k):=by
 intro i hi;rw [Zs] at hi;have:=h i (by omega);rwa [List.take_take,Zbf (by omega),ZaP]
theorem Wn.wF {N:Wn} (h:N.ok p) (hp:q <+: p):N.ok q:=by
 rw [List.prefix_iff_eq_take.1 hp];exact Wn.Ga h _
theorem Wn.qq {N:Wn} (h:N.step p j=true):j<N.n:=by
 unfold Wn.step at h;simp only [Zn,decide_eq_true_eq] at h;exact h.1
theorem Wn.vU {N:Wn} (h:N.step p j=true):j ∉ p:=by
 unfold Wn.step at h;simp only [Zn,Zbc,List.contains_eq_mem,decide_eq_false_iff_not] at h;exact h.2.1
theorem Wn.wG {N:Wn} (h:N.ok p):p.Nodup:=by
 have key:∀ k,k<=p.length->(p.take k).Nodup:=by
  intro k
  induction k with
  | zero=>intro _;rw [Ze];exact Zao
  | succ k ih =>
   intro hk;rw [Zm (by omega),ZI];refine ⟨ih (by omega),by simp,?_⟩;intro a ha b hb;rw [ZD] at hb;subst hb;intro e;subst e;exact Wn.vU (h k (by omega)) ha
 have:=key p.length (Zv _);rwa [Z9 (Zv _)] at this
theorem Wn.P5 (N:Wn):N.fin []=N.Fk:=rfl
def Wn.sK (N:Wn) (p:List Nat):Nat:=p.countP N.fe
def lexB:List Nat->List Nat->Bool
 | x::a,y::b=>decide (x<y)||(decide (x=y)&&lexB a b)
 | _,_=>false
theorem pF:∀ a,lexB a a=false
 | []=>rfl
 | x::a=>by rw [lexB,pF a];simp
theorem rm:∀ {a b c:List Nat},lexB a b=true->lexB b c=true->lexB a c=true
 | [],_,_,h,_=>by cases h
 | _::_,[],_,h,_=>by cases h
 | _::_,_::_,[],_,h=>by cases h
 | x :: a, y :: b, z :: c, h1, h2 => by
  rw [lexB] at h1 h2 ⊢;simp only [ZS,Zn,decide_eq_true_eq] at h1 h2 ⊢;rcases h1 with h1 | ⟨h1,Bp⟩ <;> rcases h2 with h2 | ⟨h2,HT⟩
  ·exact .inl (by omega)
  ·exact .inl (by omega)
  ·exact .inl (by omega)
  ·exact .inr ⟨by omega,rm Bp HT⟩
theorem rn:∀ {a b:List Nat},a.length=b.length->a≠b->lexB a b=true\/lexB b a=true
 | [],[],_,h=>absurd rfl h
 | [],_::_,h,_=>by cases h
 | _::_,[],h,_=>by cases h
 | x :: a, y :: b, hl, h => by
  rw [lexB,lexB];simp only [ZS,Zn,decide_eq_true_eq];by_cases e:x=y
  ·subst e;rcases rn (a:=a) (b:=b) (by simpa using hl) (fun e=>h (by rw [e])) with h | h
   ·exact .inl (.inr ⟨I,h⟩)
   ·exact .inr (.inr ⟨I,h⟩)
  ·rcases Nat.lt_or_gt_of_ne e with h | h
   ·exact .inl (.inl h)
   ·exact .inr (.inl h)
def Wn.lt (N:Wn) (a b:List Nat):Bool:=decide (N.sK a<N.sK b)||(decide (N.sK a=N.sK b)&&(decide (a.length<b.length)||(decide (a.length=b.length)&&lexB a b)))
theorem Wn.lt_irrefl (N:Wn) (a:List Nat):N.lt a a=false:=by unfold Wn.lt;rw [pF];simp
theorem Wn.lt_trans {N:Wn} {a b c:List Nat} (h1:N.lt a b=true) (h2:N.lt b c=true):N.lt a c=true:=by
 unfold Wn.lt at *;simp only [ZS,Zn,decide_eq_true_eq] at *;rcases h1 with h1 | ⟨h1,h1 | ⟨Bp,acg⟩⟩ <;> rcases h2 with h2 | ⟨h2,h2 | ⟨HT,ace⟩⟩
 ·exact .inl (by omega)
 ·exact .inl (by omega)
 ·exact .inl (by omega)
 ·exact .inl (by omega)
 ·exact .inr ⟨by omega,.inl (by omega)⟩
 ·exact .inr ⟨by omega,.inl (by omega)⟩
 ·exact .inl (by omega)
 ·exact .inr ⟨by omega,.inl (by omega)⟩
 ·exact .inr ⟨by omega,.inr ⟨by omega,rm acg ace⟩⟩
theorem Wn.wN {N:Wn} {a b:List Nat} (h:a≠b):N.lt a b=true\/N.lt b a=true:=by
 unfold Wn.lt;simp only [ZS,Zn,decide_eq_true_eq];rcases Zau (N.sK a) (N.sK b) with h1 | h1 | h1
 ·exact .inl (.inl h1)
 ·rcases Zau a.length b.length with h2 | h2 | h2
  ·exact .inl (.inr ⟨h1,.inl h2⟩)
  ·rcases rn h2 h with h3 | h3
   ·exact .inl (.inr ⟨h1,.inr ⟨h2,h3⟩⟩)
   ·exact .inr (.inr ⟨h1.symm,.inr ⟨h2.symm,h3⟩⟩)
  ·exact .inr (.inr ⟨h1.symm,.inl h2⟩)
 ·exact .inr (.inl h1)
theorem Wn.Lb {N:Wn} (h:q <+: p):q=p\/N.lt q p=true:=by
 obtain ⟨r,rfl⟩:=h;cases r with
 | nil=>exact .inl (ZK q).symm
 | cons x r =>
  refine .inr ?_;unfold Wn.lt Wn.sK;simp only [ZS,Zn,decide_eq_true_eq];rw [List.countP_append,Zg,ZB];by_cases h0:List.countP N.fe (x::r)=0
  ·exact .inr ⟨by omega,.inl (by omega)⟩
  ·exact .inl (by omega)
def Wn.least (N:Wn) (d:Int) (p:List Nat):Prop:=N.ok p/\N.fin p=d/\∀ q,N.ok q->N.fin q=d->N.lt q p=false
theorem Wn.EH {N:Wn} (hp:N.least d p) (hq:N.least d q):p=q:=by
 by_cases h:p=q
 ·exact h
 ·rcases Wn.wN (N:=N) h with h | h
  ·rw [hq.2.2 p hp.1 hp.2.1] at h;cases h
  ·rw [hp.2.2 q hq.1 hq.2.1] at h;cases h
def Wn.all (N:Wn) (d:Int):Nat->List Nat->List (List Nat)
 | 0,_=>[]
 | k+1,p=>(if N.fin p=d then [p] else [])++((List.range N.n).filter (N.step p)).flatMap fun j=>N.all d k (p++[j])
theorem Wn.vq {N:Wn}:∀ {k:Nat} {p:List Nat},N.ok p->q∈N.all d k p->N.ok q/\N.fin q=d
 | 0,_,_,h=>by cases h
 | k + 1, p, ho, h => by
  rw [Wn.all,Zz] at h;rcases h with h | h
  ·split at h
   ·rw [ZD] at h;subst h;exact ⟨ho,‹_›⟩
   ·cases h
  ·obtain ⟨j,hj,h⟩:=List.mem_flatMap.1 h;exact Wn.vq (Wn.jI.2 ⟨ho,(Zu.1 hj).2⟩) h
theorem Wn.BN {N:Wn}:∀ {k:Nat} {p r:List Nat},N.ok (p++r)->N.fin (p++r)=d->r.length<k->p++r∈N.all d k p
 | 0,_,_,_,_,h=>absurd h (ZV _)
 | k + 1, p, [], ho, hf, _ => by
  rw [ZK] at *;rw [Wn.all,if_pos hf];simp
 | k + 1, p, j :: r, ho, hf, hk => by
  have e:p++j::r=(p++[j])++r:=by simp
  rw [e] at ho hf ⊢;have h1:=Wn.wF ho (ZaW (p++[j]) r);have h2:=(Wn.jI.1 h1).2;rw [Wn.all,Zz];refine .inr (List.mem_flatMap.2 ⟨j,Zu.2 ⟨ZU.2 (Wn.qq h2),h2⟩,?_⟩);exact Wn.BN ho hf (by rw [ZB] at hk;omega)
def Wn.U3 (N:Wn) (x:List Nat):List Nat:=(List.range N.n).filter (N.step x)
def Wn.exts (N:Wn) (x:List Nat):List (List Nat):=(N.U3 x).map fun j=>x++[j]
structure Wn.Inv (N:Wn) (d:Int) (Q:List (List Nat)):Prop where
 ok:∀ q∈Q,N.ok q/\q≠[]
 cover:∀ p,N.ok p->N.fin p=d->∃ q∈Q,q <+: p
theorem Wn.HG {N:Wn} (h:N.Fk≠d) {Q:List (List Nat)} (hQ:∀ q,q∈Q↔q∈N.exts []):N.Inv d Q:=by
 constructor
 ·intro q hq;obtain ⟨j,hj,rfl⟩:=Zw.1 ((hQ q).1 hq);exact ⟨Wn.jI.2 ⟨N.oz,(Zu.1 hj).2⟩,by simp⟩
 ·intro p hp hf;cases p with
  | nil=>exact absurd hf h
  | cons j r =>
   have h1:N.ok ([]++[j]):=Wn.wF hp ⟨r,I⟩;have h2:=(Wn.jI.1 h1).2;exact ⟨[j],(hQ _).2 (Zw.2 ⟨j,Zu.2 ⟨ZU.2 (Wn.qq h2),h2⟩,I⟩),⟨r,I⟩⟩
theorem Wn.HF {N:Wn} {Q:List (List Nat)} (h:N.Inv d Q) (hx:x∈Q) (hm:∀ q∈Q,N.lt q x=false) (hf:N.fin x=d):N.least d x:=by
 refine ⟨(h.ok x hx).1,hf,fun q hq YQ=>?_⟩;obtain ⟨c,hc,hp⟩:=h.cover q hq YQ;have h0:=hm c hc;rcases Wn.Lb (N:=N) hp with e | e
 ·rwa [<- e]
 ·cases hb:N.lt q x with
  | false=>rfl
  | true=>rw [Wn.lt_trans e hb] at h0;exact h0
theorem Wn.Lr {N:Wn} {Q R:List (List Nat)} (h:N.Inv d Q) (hQ:∀ q,q∈Q↔q=x\/q∈R) (hf:N.fin x≠d):N.Inv d (R++N.exts x):=by
 have hx:=h.ok x ((hQ x).2 (.inl I));constructor
 ·intro q hq;rcases Zz.1 hq with hq | hq
  ·exact h.ok q ((hQ q).2 (.inr hq))
  ·obtain ⟨j,hj,rfl⟩:=Zw.1 hq;exact ⟨Wn.jI.2 ⟨hx.1,(Zu.1 hj).2⟩,by simp⟩
 ·intro p hp BX;obtain ⟨c,hc,r,rfl⟩:=h.cover p hp BX;rcases (hQ c).1 hc with rfl | hc
  ·cases r with
   | nil=>rw [ZK] at BX;exact absurd BX hf
   | cons j r =>
    have e:c++j::r=(c++[j])++r:=by simp
    rw [e] at hp ⊢;have h2:=(Wn.jI.1 (Wn.wF hp (ZaW (c++[j]) r))).2;exact ⟨c++[j],Zz.2 (.inr (Zw.2 ⟨j,Zu.2 ⟨ZU.2 (Wn.qq h2),h2⟩,I⟩)),⟨r,I⟩⟩
  ·exact ⟨c,Zz.2 (.inl hc),⟨r,I⟩⟩
theorem Wn.Lq {N:Wn} (h:N.Inv d []):∀ p,N.ok p->N.fin p≠d:=fun p hp hf=>by
 obtain ⟨q,hq,_⟩:=h.cover p hp hf;cases hq
theorem lS:∀ (n:Nat) (l:List Nat),l.Nodup->(∀ x∈l,x<n)->l.length<=n
 | 0, l, _, h => by
  cases l with
  | nil=>exact Zv _
  | cons x l=>exact absurd (h x (by simp)) (ZV _)
 | n + 1, l, hn, h => by
  have:=lS n (l.erase n) (hn.erase n) fun x hx=>by
   have h1:=h x (List.mem_of_mem_erase hx);have h2:=(List.Nodup.mem_erase_iff hn).1 hx;omega
  by_cases hm:n∈l
  ·rw [ZaY hm] at this;omega
  ·rw [List.erase_of_not_mem hm] at this;omega
theorem Wn.sq {N:Wn} (h:N.ok p):∀ x∈p,x<N.n:=by
 intro x hx;obtain ⟨k,hk,rfl⟩:=ZA hx;exact Wn.qq (h k hk)
theorem Wn.ri {N:Wn} (h:N.ok p):p.length<=N.n:=lS _ _ (Wn.wG h) (Wn.sq h)
theorem Wn.OY {N:Wn} (h:N.ok x):x.length+(N.U3 x).length<=N.n:=by
 rw [<- Zg];refine lS _ _ ?_ ?_
 ·rw [ZI];refine ⟨Wn.wG h,(ZbD).filter _,?_⟩;intro a ha b hb e;subst e;exact Wn.vU (Zu.1 hb).2 ha
 ·intro y hy;rcases Zz.1 hy with hy | hy
  ·exact Wn.sq h y hy
  ·exact ZU.1 (Zu.1 hy).1
def qV:Nat->Nat
 | 0=>1
 | m+1=>1+(m+1)*qV m
theorem yR:∀ m,1<=qV m
 | 0=>Zv _
 | m+1=>by rw [qV];omega
def Wn.wt (N:Wn):List (List Nat)->Nat
 | []=>0
 | q::Q=>qV (N.n-q.length)+N.wt Q
theorem Wn.yL (N:Wn):∀ A B,N.wt (A++B)=N.wt A+N.wt B
 | [],B=>by rw [Za,Wn.wt,ZF]
 | q::A,B=>by rw [Zb,Wn.wt,Wn.wt,Wn.yL N A B,Nat.add_assoc]
theorem Wn.Fw {N:Wn} {A B:List (List Nat)} (h:A.Perm B):N.wt A=N.wt B:=by
 induction h with
 | nil=>rfl
 | cons x _ ih=>rw [Wn.wt,Wn.wt,ih]
 | swap x y l=>rw [Wn.wt,Wn.wt,Wn.wt,Wn.wt];omega
 | trans _ _ h1 h2=>rw [h1,h2]
theorem Wn.IP (N:Wn):∀ Q:List (List Nat),Q.length<=N.wt Q
 | []=>Zv _
 | q::Q=>by rw [Wn.wt,ZB];have:=N.IP Q;have:=yR (N.n-q.length);omega
theorem Wn.D3 (N:Wn) (x:List Nat):∀ l:List Nat,N.wt (l.map fun j=>x++[j])=l.length*qV (N.n-(x.length+1))
 | []=>by rw [Zf,Wn.wt,Zaf,Zbh]
 | j :: l => by
  rw [Z4,Wn.wt,N.D3 x l,Zg,show (j::l).length=l.length+1 from I,Zac];show qV (N.n-(x.length+1))+_=_;omega
theorem Wn.NM {N:Wn} (h:N.ok x):N.wt (N.exts x)<qV (N.n-x.length):=by
 unfold Wn.exts;rw [Wn.D3];have hf:=Wn.OY h;by_cases h0:(N.U3 x).length=0
 ·rw [h0,Zbh];exact yR _
 ·obtain ⟨m,hm⟩:∃ m,N.n-x.length=m+1:=⟨N.n-x.length-1,by omega⟩;rw [hm,show N.n-(x.length+1)=m by omega,qV];have:=Z0 (qV m) (show (N.U3 x).length<=m+1 by omega);omega
end Go.Proofs.A1
namespace Go.Proofs.A1
def bL (h:Bool) (e:Int):Int:=bif h then e else 0
theorem bO {h:Bool} {e:Int} (he:e≠0):bL h e=0↔h=false:=by cases h <;> simp [bL,he]
def gX (n l m:Int):Int:=bL (decide (n<l)||decide (m<n)) 3
theorem jb {n l m:Int}:gX n l m=0↔l<=n/\n<=m:=by
 unfold gX;rw [bO (by decide)];simp
def aY:List Int->Int
 | []=>0
 | e::r=>if e≠0 then e else aY r
theorem bX:∀ {l:List Int},aY l=0↔∀ e∈l,e=0
 | []=>by simp [aY]
 | e :: r => by
  unfold aY;by_cases h:e=0
  ·simp [h,bX (l:=r)]
  ·simp [h]
variable {f:Nat->Int} {k n:Nat} {s:ByteArray}
theorem tN {es:List Int} (h:k<es.length):aY (es.drop k)=if es[k]≠0 then es[k] else aY (es.drop (k+1)):=by
 rw [List.drop_eq_getElem_cons h];rfl
def rD (f:Nat->Int):Nat->Nat->Int
 | _,0=>0
 | k,n+1=>if f k≠0 then f k else rD f (k+1) n
def kA (f:Nat->Int) (n:Nat):Int:=rD f 0 n
theorem zI {f:Nat->Int}:∀ {n k:Nat},rD f k n=0↔∀ i,k<=i->i<k+n->f i=0
 | 0,k=>by simp only [rD,true_iff];intro i h1 h2;omega
 | n + 1, k => by
  unfold rD;by_cases h:f k=0
  ·rw [if_neg (by simpa using h),zI];constructor
   ·intro g i h1 h2;by_cases e:i=k
    ·rw [e];exact h
    ·exact g i (by omega) (by omega)
   ·intro g i h1 h2;exact g i (by omega) (by omega)
  ·rw [if_pos h];constructor
   ·intro e;exact absurd e h
   ·intro g;exact absurd (g k (Nat.le_refl _) (by omega)) h
theorem eK :kA f n=0↔∀ i,i<n->f i=0:=by
 unfold kA;rw [zI];constructor
 ·intro g i h;exact g i (Nat.zero_le _) (by omega)
 ·intro g i _ h;exact g i (by omega)
theorem xq {f:Nat->Int}:∀ {n k j:Nat},(∀ i,k<=i->i<j->f i=0)->k<=j->j<k+n->f j≠0->rD f k n=f j
 | 0,k,j,_,h1,h2,_=>by omega
 | n + 1, k, j, h, h1, h2, h3 => by
  unfold rD;by_cases e:k=j
  ·subst e;rw [if_pos h3]
  ·rw [if_neg (by simpa using h k (Nat.le_refl _) (by omega))];exact xq (fun i h4 h5=>h i (by omega) h5) (by omega) (by omega) h3
theorem fV {n j:Nat} (h:∀ i,i<j->f i=0) (hj:j<n) (hn:f j≠0):kA f n=f j:=
 xq (fun i _ h2=>h i h2) (Nat.zero_le _) (by omega) hn
theorem E6 {f g:Nat->Int} (h:∀ j,j<n->(∀ i,i<j->f i=0)->f j=g j):kA f n=kA g n:=by
 by_cases hf:∀ i,i<n->f i=0
 ·rw [eK.2 hf];symm;refine eK.2 fun i hi=>?_;rw [<- h i hi fun k hk=>hf k (by omega)]
  exact hf i hi
 ·have:∃ j,j<n/\f j≠0/\∀ i,i<j->f i=0:=by
   apply Classical.byContradiction;intro hc;apply hf;intro i
   induction i using Nat.strongRecOn with
   | _ i ih =>
    intro hi;apply Classical.byContradiction;intro hne;exact hc ⟨i,hi,hne,fun k hk=>ih k hk (by omega)⟩
  obtain ⟨j,hj,hne,hb⟩:=this;rw [fV hb hj hne,h j hj hb];symm;have he:=h j hj hb;refine fV (fun i hi=>?_) hj (by rw [<- he];exact hne);rw [<- h i (by omega) fun k hk=>hb k (by omega)]
  exact hb i hi
def bt (s:ByteArray) (i:Nat):Int:=((s.data.toList[i]?.getD 0).toNat:Nat)
def HE (c:Int):Bool:=(decide (65<=c)&&decide (c<=90))||(decide (97<=c)&&decide (c<=122))
def Wg (c:Int):Bool:=decide (48<=c)&&decide (c<=57)
def okB (c:Int):Bool:=HE c||Wg c||decide (c=95)
def okF (s:ByteArray) (k:Nat):Bool:=(List.range' k (s.size-k)).all fun i=>okB (bt s i)
theorem AU (h:k<s.size):okF s k=(okB (bt s k)&&okF s (k+1)):=by
 unfold okF;rw [show s.size-k=(s.size-(k+1))+1 by omega,List.range'_succ]
 rfl
theorem Gb (h:s.size<=k):okF s k=true:=by
 unfold okF;rw [show s.size-k=0 by omega];rfl
def jm (s:ByteArray):Bool:=decide (0<s.size)&&decide (s.size<=24)&&HE (bt s 0)&&okF s 1
def V8 (s:ByteArray):Int:=bL (!jm s) 8
end Go.Proofs.A1
namespace Go.Proofs.A1
open Go Go.SL
structure Sr where
 nm:ByteArray
 mx:Int
 deriving DecidableEq
structure De where
 nm:ByteArray
 mx:Int
 pr:Bool
 deriving DecidableEq
structure Ti where
 nm:ByteArray
 fr:Int
 to:Int
 deriving DecidableEq
structure Po where
 lv:Int
 ou:ByteArray
 ip:ByteArray
 deriving DecidableEq
structure Ro where
 lv:Int
 ma:Int
 sr:List Sr
 de:List De
 ti:List Ti
 po:List Po
 deriving DecidableEq
def Fj (v:Int) (o:ByteArray) (p:Po):Bool:=decide (p.lv=v)&&decide (p.ou=o)
def yp (v:Int) (i:ByteArray) (p:Po):Bool:=decide (p.lv=v)&&decide (p.ip=i)
def eD (po:List Po) (v:Int) (o:ByteArray):Option ByteArray:=(po.find? (Fj v o)).map Po.ip
def nr (po:List Po) (v:Int) (i:ByteArray):Bool:=po.any (yp v i)
def gI (po:List Po) (v:Int) (o:ByteArray):Bool:=(eD po v o).isSome
def fF (po:List Po) (v:Int):Nat->ByteArray->List ByteArray
 | 0,_=>[]
 | k + 1, o => match eD po v o with
  | none=>[]
  | some i=>i::fF po v k i
variable {D T:List ByteArray} {i:ByteArray} {k:Nat} {l:List ByteArray} {o s:ByteArray} {v:Int} {x:ByteArray}
theorem xD {po:List Po} (h:eD po v o=none):∀ k,fF po v k o=[]
 | 0=>rfl
 | k+1=>by rw [fF,h]
theorem nL {po:List Po} (h:eD po v o=some i) (k:Nat):fF po v (k+1) o=i::fF po v k i:=by rw [fF,h]
theorem kU (po:List Po) (v:Int):∀ k o,(fF po v k o).length<=k
 | 0,_=>Zv _
 | k + 1, o => by
  rw [fF];split
  ·exact Zi _
  ·rw [ZB];have:=kU po v k ‹_›;omega
theorem DI {po:List Po} {v:Int}:∀ {k:Nat} {o:ByteArray},(fF po v k o).length<k->∀ m,k<=m->fF po v m o=fF po v k o
 | 0,_,h,_,_=>absurd h (ZV _)
 | k + 1, o, h, m, hm => by
  obtain ⟨m,rfl⟩:∃ j,m=j+1:=⟨m-1,by omega⟩;rw [fF,fF];cases hi:eD po v o with
  | none=>rfl
  | some i =>
   rw [fF,hi,ZB] at h;show i::_=i::_;rw [DI (k:=k) (by omega) m (by omega)]
theorem DH {po:List Po} {v:Int}:∀ {k m:Nat} {o:ByteArray},k<=m->(fF po v m o).take k=fF po v k o
 | 0,_,_,_=>by rw [Ze];rfl
 | k + 1, m, o, h => by
  obtain ⟨m,rfl⟩:∃ j,m=j+1:=⟨m-1,by omega⟩;rw [fF,fF];cases eD po v o with
  | none=>rfl
  | some i =>
   show (i::fF po v m i).take (k+1)=i::fF po v k i;rw [List.take_succ_cons,DH (by omega)]
def mR (po:List Po) (v:Int):Nat->ByteArray->Option ByteArray
 | 0,o=>some o
 | k+1,o=>(eD po v o).bind (mR po v k)
theorem kR {po:List Po} {v:Int}:∀ {a b:Nat} {o:ByteArray},mR po v (a+b) o=(mR po v a o).bind (mR po v b)
 | 0,b,o=>by rw [ZF];rfl
 | a + 1, b, o => by
  rw [show a+1+b=(a+b)+1 by omega,mR,mR];cases eD po v o with
  | none=>rfl
  | some i=>exact kR
theorem ic {po:List Po} {a b:Nat} (h:a<=b) (hb:(mR po v b o).isSome=true):(mR po v a o).isSome=true:=by
 obtain ⟨c,rfl⟩:∃ c,b=a+c:=⟨b-a,by omega⟩;rw [kR] at hb;cases h1:mR po v a o with
 | none=>rw [h1] at hb;cases hb
 | some x=>rfl
theorem oJ {po:List Po} {v:Int}:∀ {k:Nat} {o:ByteArray} {j:Nat},j<k->(fF po v k o)[j]? = mR po v (j+1) o
 | 0,_,_,h=>absurd h (ZV _)
 | k + 1, o, j, h => by
  rw [fF,mR];cases eD po v o with
  | none=>rfl
  | some i =>
   cases j with
   | zero=>rfl
   | succ j =>
    show (i::fF po v k i)[j+1]? = mR po v (j+1) i;rw [Zba,oJ (by omega)]
theorem rG {po:List Po}:(fF po v k o).length=k↔(mR po v k o).isSome=true:=by
 cases k with
 | zero=>exact ⟨fun _=>rfl,fun _=>rfl⟩
 | succ k =>
  rw [<- oJ (Nat.lt_add_one k)];have:=kU po v (k+1) o;constructor
  ·intro h;rw [Zc (by omega)];rfl
  ·intro h;apply Classical.byContradiction;intro hn;rw [Zal (by omega)] at h;cases h
theorem vp {po:List Po}:x∈fF po v k o↔∃ j,j<k/\mR po v (j+1) o=some x:=by
 constructor
 ·intro h;obtain ⟨j,hj,e⟩:=ZA h;have hk:=kU po v k o;refine ⟨j,by omega,?_⟩;rw [<- oJ (by omega:j<k),Zc hj,e]
 ·rintro ⟨j,hj,e⟩;rw [<- oJ hj] at e;exact Z2 e
theorem zo {α:Type} [DecidableEq α]:∀ {X T:List α},X.Nodup->(∀ x∈X,x∈T)->X.length<=T.length
 | [],_,_,_=>Zi _
 | x :: X, T, hn, h => by
  have hx:=h x (by simp);rw [List.nodup_cons] at hn;have:=zo (X:=X) (T:=T.erase x) hn.2 fun y hy=>(List.mem_erase_of_ne (a:=y) (b:=x) (fun e=>by rw [e] at hy;exact hn.1 hy)).2 (h y (ZM _ hy))
  rw [ZaY hx] at this;have:=List.length_pos_of_mem hx;rw [ZB];omega
theorem Hx {α:Type} [DecidableEq α] {X:List α} (h:¬ X.Nodup):∃ i j,∃ (hi:i<X.length) (hj:j<X.length),i<j/\X[i]=X[j]:=by
 apply Classical.byContradiction;intro hn;apply h;rw [List.nodup_iff_pairwise_ne,Zab];intro i j hi hj zB e;exact hn ⟨i,j,hi,hj,zB,e⟩
theorem E9 {po:List Po} (hT:∀ o i,eD po v o=some i->(eD po v i).isSome=true->i∈T) {o:ByteArray} (ho:(mR po v (T.length+2) o).isSome=true\/o∈T/\(mR po v (T.length+1) o).isSome=true):∃ t∈T,t∈fF po v (T.length+1) t:=by
 obtain ⟨s,hs,fj⟩:∃ s,(mR po v (s+T.length+1) o).isSome=true/\∀ k,k<=T.length->∃ x,mR po v (s+k) o=some x/\x∈T:=by
  rcases ho with ho | ⟨hoT,ho⟩
  ·refine ⟨1,by rw [show 1+T.length+1=T.length+2 by omega];exact ho,fun k hk=>?_⟩;have h0:=ic (a:=k) (by omega) ho;have h1:=ic (a:=1+k) (by omega) ho;have h2:=ic (a:=1+k+1) (by omega) ho;obtain ⟨y,hy⟩:=Zah.1 h0;obtain ⟨x,hx⟩:=Zah.1 h1;refine ⟨x,hx,hT y x ?_ ?_⟩
   ·rw [show 1+k=k+1 by omega,kR,hy] at hx;simpa [mR] using hx
   ·rw [kR,hx] at h2;simpa [mR] using h2
  ·refine ⟨0,by rw [ZF];exact ho,fun k hk=>?_⟩;rw [ZF];cases k with
   | zero=>exact ⟨o,rfl,hoT⟩
   | succ k =>
    have h0:=ic (a:=k) (by omega) ho;have h1:=ic (a:=k+1) (by omega) ho;have h2:=ic (a:=k+1+1) (by omega) ho;obtain ⟨y,hy⟩:=Zah.1 h0;obtain ⟨x,hx⟩:=Zah.1 h1;refine ⟨x,hx,hT y x ?_ ?_⟩
    ·rw [kR,hy] at hx;simpa [mR] using hx
    ·rw [kR,hx] at h2;simpa [mR] using h2
 let X:=(List.range (T.length+1)).map fun k=>(mR po v (s+k) o).getD ⟨#[]⟩
 have hXl:X.length=T.length+1:=by simp [X]
 have hX:∀ k (h:k<X.length),mR po v (s+k) o=some X[k]:=fun k h=>by
  obtain ⟨x,hx,_⟩:=fj k (by omega);simp [X,hx]
 have hn:¬ X.Nodup:=fun hn=>by
  have:=zo (T:=T) hn fun x hx=>by
   obtain ⟨k,hk,rfl⟩:=ZA hx;obtain ⟨y,hy,hyT⟩:=fj k (by omega);rw [hX k hk] at hy;cases hy;exact hyT
  omega
 obtain ⟨i,j,hi,hj,zB,e⟩:=Hx hn;have h1:=hX i hi;have h2:=hX j hj;obtain ⟨y,hy,hyT⟩:=fj i (by omega);rw [h1] at hy;cases hy;refine ⟨X[i],hyT,vp.2 ⟨j-i-1,by omega,?_⟩⟩;rw [show s+j=(s+i)+(j-i-1+1) by omega,kR,h1] at h2;rw [e];rw [e] at h2;exact h2
theorem Qm {po:List Po} {m:Nat} {t:ByteArray} (h:t∈fF po v m t):∀ k,(mR po v k t).isSome=true:=by
 obtain ⟨j,_,hj⟩:=vp.1 h;have key:∀ n,mR po v (n*(j+1)) t=some t:=fun n=>by
  induction n with
  | zero=>rw [Zbh];rfl
  | succ n ih=>rw [Zac,kR,ih];exact hj
 intro k;refine ic (b:=k*(j+1)) (Nat.le_mul_of_pos_right _ (by omega)) ?_;rw [key];rfl
theorem Ms {po:List Po} (hT:∀ o i,eD po v o=some i->(eD po v i).isSome=true->i∈T) (h6:T.length<=6):(∃ t∈T,t∈fF po v (T.length+1) t)↔∃ t∈T,(fF po v 7 t).length=7:=by
 constructor
 ·rintro ⟨t,ht,h⟩;exact ⟨t,ht,rG.2 (Qm h 7)⟩
 ·rintro ⟨t,ht,h⟩;exact E9 hT (.inr ⟨ht,ic (b:=7) (by omega) (rG.1 h)⟩)
theorem qG {po:List Po} (hT:∀ o i,eD po v o=some i->(eD po v i).isSome=true->i∈T) (hc:¬ ∃ t∈T,t∈fF po v (T.length+1) t) (o:ByteArray) {m:Nat} (hm:T.length+1<=m):fF po v m o=fF po v (T.length+1) o:=by
 have h2:(fF po v (T.length+2) o).length<T.length+2:=by
  have h0:=kU po v (T.length+2) o;rcases Zbx (fF po v (T.length+2) o).length (T.length+2) with h | h
  ·exact h
  ·exact absurd (E9 hT (.inl (rG.1 (show (fF po v (T.length+2) o).length=T.length+2 by omega)))) hc
 have h3:fF po v (T.length+1) o=fF po v (T.length+2) o:=by
  rw [<- DH (o:=o) (by omega:T.length+1<=T.length+2),Z9 (by omega)]
 rcases Zbx m (T.length+2) with h | h
 ·rw [show m=T.length+1 by omega]
 ·rw [DI h2 m h,h3]
def bB:List ByteArray->ByteArray->Int
 | [],_=>-1
 | x::l,s=>if x=s then 0 else if bB l s<0 then -1 else bB l s+1
theorem Me (l:List ByteArray) (s:ByteArray):-1<=bB l s:=by
 induction l with
 | nil=>exact Int.le_refl _
 | cons x l ih =>
  rw [bB];split
  ·omega
  ·split <;> omega
theorem cJ :bB l s<0↔s ∉ l:=by
 induction l with
 | nil=>simp [bB]
 | cons x l ih =>
  rw [bB,ZQ,not_or];by_cases e:x=s
  ·rw [if_pos e];constructor
   ·intro h;omega
   ·intro h;exact absurd e.symm h.1
  ·rw [if_neg e];by_cases h:bB l s<0
   ·rw [if_pos h];exact ⟨fun _=>⟨fun q=>e q.symm,ih.1 h⟩,fun _=>by omega⟩
   ·rw [if_neg h];exact ⟨fun q=>by have:=Me l s;omega,fun q=>absurd (ih.2 q.2) h⟩
theorem rC:∀ {l:List ByteArray} {s:ByteArray} {i:Nat} (h:i<l.length),l[i]=s->(∀ j (hj:j<i),l[j]'(by omega)≠s)->bB l s=(i:Nat)
 | x::l,s,0,_,e,_=>by rw [bB,if_pos (show x=s from e)];rfl
 | x :: l, s, i + 1, h, e, hb => by
  have h0:x≠s:=hb 0 (by omega);have ih:=rC (l:=l) (s:=s) (i:=i) (by rw [ZB] at h;omega) e fun j hj=>hb (j+1) (by omega)
  rw [bB,if_neg h0,ih,if_neg (by omega)];omega
theorem Bu (h:∀ j (hj:j<l.length),l[j]≠s):bB l s = -1:=by
 have h1:=Me l s;have h2:bB l s<0:=cJ.2 fun hm=>by
  obtain ⟨j,hj,e⟩:=ZA hm;exact h j hj e
 omega
theorem fk (h:0<=bB l s):∃ hl:(bB l s).toNat<l.length,l[(bB l s).toNat]=s:=by
 induction l with
 | nil=>simp [bB] at h
 | cons x l ih =>
  by_cases e:x=s
  ·have:bB (x::l) s=0:=by rw [bB,if_pos e]
   rw [this];exact ⟨Nat.zero_lt_succ _,e⟩
  ·by_cases h0:bB l s<0
   ·rw [bB,if_neg e,if_pos h0] at h;omega
   ·obtain ⟨hl,hg⟩:=ih (by omega);have:bB (x::l) s=bB l s+1:=by rw [bB,if_neg e,if_neg h0]
    have e1:(bB (x::l) s).toNat=(bB l s).toNat+1:=by rw [this];omega
    have key:∀ n,n=(bB l s).toNat+1->∃ hl:n<(x::l).length,(x::l)[n]=s:=fun n hn=>by
     subst hn;exact ⟨by rw [ZB];omega,hg⟩
    exact key _ e1
def cN (r:Ro):List ByteArray:=r.sr.map Sr.nm
def cu (r:Ro):List ByteArray:=r.de.map De.nm
def cQ (r:Ro):List ByteArray:=r.ti.map Ti.nm
def dh (r:Ro):List ByteArray:=cN r++cu r++cQ r
def eE (r:Ro) (s:ByteArray):Int:=if 0<=bB (cu r) s then bB (cu r) s else if 0<=bB (cQ r) s then (r.de.length:Nat)+bB (cQ r) s else -1
def k6 (r:Ro) (s:ByteArray):Int:=if 0<=bB (cu r) s then (r.de.getD (bB (cu r) s).toNat ⟨⟨#[]⟩,0,false⟩).mx else if 0<=bB (cQ r) s then (r.ti.getD (bB (cQ r) s).toNat ⟨⟨#[]⟩,0,0⟩).fr else -1
def kD (r:Ro) (s:ByteArray):Int:=if 0<=bB (cN r) s then (r.sr.getD (bB (cN r) s).toNat ⟨⟨#[]⟩,0⟩).mx else if 0<=bB (cQ r) s then (r.ti.getD (bB (cQ r) s).toNat ⟨⟨#[]⟩,0,0⟩).to else -1
theorem KU {r:Ro}:eE r s<0↔s ∉ cu r/\s ∉ cQ r:=by
 unfold eE;by_cases h1:bB (cu r) s<0
 ·rw [if_neg (by omega)];by_cases h2:bB (cQ r) s<0
  ·rw [if_neg (by omega)];exact ⟨fun _=>⟨cJ.1 h1,cJ.1 h2⟩,fun _=>by omega⟩
  ·rw [if_pos (by omega)];exact ⟨fun h=>by omega,fun h=>absurd (cJ.2 h.2) h2⟩
 ·rw [if_pos (by omega)];exact ⟨fun h=>absurd h h1,fun h=>absurd (cJ.2 h.1) h1⟩
def sX (po:List Po):Prop:=∀ p∈po,∀ q∈po,p.lv=q.lv->p.ou=q.ou->p=q
theorem sX.filter {po:List Po} (h:sX po) (f:Po->Bool):sX (po.filter f):=fun p hp q hq=>h p (Zu.1 hp).1 q (Zu.1 hq).1
theorem fC {po:List Po} (h:eD po v o=some i):∃ p∈po,p.lv=v/\p.ou=o/\p.ip=i:=by
 unfold eD at h;obtain ⟨p,hp,e⟩:=Zam.1 h;have h1:=List.find?_some hp;unfold Fj at h1;rw [Zn,decide_eq_true_eq,decide_eq_true_eq] at h1;exact ⟨p,List.mem_of_find?_eq_some hp,h1.1,h1.2,e⟩
theorem lK {po:List Po} (h1:sX po) {p:Po} (hp:p∈po):eD po p.lv p.ou=some p.ip:=by
 cases h:po.find? (Fj p.lv p.ou) with
 | none =>
  have:=ZaM.1 h p hp;unfold Fj at this;simp at this
 | some q =>
  have hq:=List.find?_some h;unfold Fj at hq;rw [Zn,decide_eq_true_eq,decide_eq_true_eq] at hq;have:=h1 q (List.mem_of_find?_eq_some h) p hp hq.1 hq.2;unfold eD;rw [h,this];rfl
theorem iX {po:List Po}:eD po v o=none↔∀ p∈po,¬(p.lv=v/\p.ou=o):=by
 unfold eD;rw [Option.map_eq_none_iff,ZaM];constructor
 ·intro h p hp hq;have:=h p hp;unfold Fj at this;rw [hq.1,hq.2] at this;simp at this
 ·intro h p hp;unfold Fj;rw [Zn,decide_eq_true_eq,decide_eq_true_eq];exact h p hp
theorem Pn {po qo:List Po} (h1:sX po) (hs:∀ p∈qo,p∈po) {v:Int} {o i:ByteArray} (h:eD qo v o=some i):eD po v o=some i:=by
 obtain ⟨p,hp,rfl,rfl,rfl⟩:=fC h;exact lK h1 (hs p hp)
inductive Nd (po:List Po) (D:List ByteArray):Po->Prop
 | de {p:Po}:p∈po->p.ou∈D->Nd po D p
 | up {p q:Po}:p∈po->q.lv=p.lv->q.ip=p.ou->Nd po D q->Nd po D p
theorem Q0 {po S:List Po} {D:List ByteArray} (h1:sX po) (hS:∀ p∈S,p∈po) (hu:∀ p∈S,p.ou∈D\/∃ q∈S,q.lv=p.lv/\q.ip=p.ou) {N:Nat} (hN:∀ v o m,N<=m->fF po v m o=fF po v N o) :
  ∀ n p,p∈S->N-(fF po p.lv N p.ou).length<=n->Nd po D p
 | n, p, hp, hn => by
  rcases hu p hp with hd | ⟨q,hq,hv,hi⟩
  ·exact .de (hS p hp) hd
  ·have mT:=lK h1 (hS q hq);rw [hv,hi] at mT;have hc:fF po p.lv (N+1) q.ou=p.ou::fF po p.lv N p.ou:=nL mT N;have hl:(fF po q.lv N q.ou).length=(fF po p.lv N p.ou).length+1:=by
    rw [hv,<- hN p.lv q.ou (N+1) (by omega),hc,ZB]
   have hle:=kU po q.lv N q.ou;cases n with
   | zero=>omega
   | succ n=>exact .up (hS p hp) hv hi (Q0 h1 hS hu hN n q hq (by omega))
theorem Q4 {po S:List Po} (hk:∀ p∈po,p.ou∈D->p∈S) (fg:∀ p∈po,∀ q∈S,q.lv=p.lv->q.ip=p.ou->p∈S) {p:Po} (h:Nd po D p):p∈S:=by
 induction h with
 | de hp hd=>exact hk _ hp hd
 | up hp hv hi _ ih=>exact fg _ hp _ ih hv hi
theorem O1 {po:List Po} (h1:sX po) {N:Nat} (hN:∀ v o m,N<=m->fF po v m o=fF po v N o) {f g:Po->Bool}
  (Rs:∀ p∈po,p.ou∈D->f p=true) (PN:∀ p∈po,∀ q∈po,f q=true->q.lv=p.lv->q.ip=p.ou->f p=true) (W6:∀ p∈po,f p=true->p.ou∈D\/∃ q∈po,f q=true/\q.lv=p.lv/\q.ip=p.ou)
  (yw:∀ p∈po,p.ou∈D->g p=true) (sF:∀ p∈po,∀ q∈po,g q=true->q.lv=p.lv->q.ip=p.ou->g p=true) (ru:∀ p∈po,g p=true->p.ou∈D\/∃ q∈po,g q=true/\q.lv=p.lv/\q.ip=p.ou):po.filter f=po.filter g:=by
 have key:∀ (f:Po->Bool),(∀ p∈po,p.ou∈D->f p=true)->(∀ p∈po,∀ q∈po,f q=true->q.lv=p.lv->q.ip=p.ou->f p=true)->(∀ p∈po,f p=true->p.ou∈D\/∃ q∈po,f q=true/\q.lv=p.lv/\q.ip=p.ou)->∀ p∈po,(f p=true↔Nd po D p):=by
  intro f h2 h3 h4 p hp;constructor
  ·intro hf;refine Q0 (S:=po.filter f) h1 (fun q hq=>(Zu.1 hq).1) (fun q hq=>?_) hN _ p (Zu.2 ⟨hp,hf⟩) (Zv _);obtain ⟨o8,my⟩:=Zu.1 hq;rcases h4 q o8 my with h | ⟨x,hx,Yz,Wj⟩
   ·exact .inl h
   ·exact .inr ⟨x,Zu.2 ⟨hx,Yz⟩,Wj⟩
  ·intro hn;have:=Q4 (S:=po.filter f) (fun q hq hd=>Zu.2 ⟨hq,h2 q hq hd⟩) (fun q hq x hx hv hi=>Zu.2 ⟨hq,h3 q hq x (Zu.1 hx).1 (Zu.1 hx).2 hv hi⟩) hn
   exact (Zu.1 this).2
 refine Zbe fun p hp=>?_;rw [ZaS,key f Rs PN W6 p hp,key g yw sF ru p hp]
theorem pj {α:Type} {R:α->α->Prop} (has:∀ a b,R a b->¬ R b a):∀ {A B:List α},A.Pairwise R->B.Pairwise R->A.Perm B->A=B
 | [],B,_,_,h=>(List.nil_perm.1 h).symm
 | a::A,[],_,_,h=>absurd h (by intro h;have:=h.length_eq;cases this)
 | a :: A, b :: B, hA, hB, h => by
  rw [ZaX] at hA hB;have Vl:a=b:=by
   apply Classical.byContradiction;intro hne;have h1:a∈b::B:=h.mem_iff.1 (by simp);have h2:b∈a::A:=h.mem_iff.2 (by simp);have h1:a∈B:=(ZQ.1 h1).resolve_left hne;have h2:b∈A:=(ZQ.1 h2).resolve_left fun e=>hne e.symm
   exact has _ _ (hA.1 b h2) (hB.1 a h1)
  subst Vl;rw [pj has hA.2 hB.2 (List.Perm.cons_inv h)]
def ns (r:Ro) (p q:Po):Bool:=decide (p.lv<q.lv)||(decide (p.lv=q.lv)&&decide (eE r p.ou<eE r q.ou))
theorem Hz {r:Ro} (p q:Po) (h:ns r p q=true):¬ ns r q p=true:=by
 unfold ns at *;simp only [ZS,Zn,decide_eq_true_eq] at *;omega
theorem zq {r:Ro} {p q s:Po} (h1:ns r p q=true) (h2:ns r q s=true):ns r p s=true:=by
 unfold ns at *;simp only [ZS,Zn,decide_eq_true_eq] at *;omega
theorem Hy {r:Ro} {p q:Po} (h:¬(p.lv=q.lv/\eE r p.ou=eE r q.ou)):ns r p q=true\/ns r q p=true:=by
 unfold ns;simp only [ZS,Zn,decide_eq_true_eq];omega
def eJ (r:Ro) (p:Po):List Po->List Po
 | []=>[p]
 | b::l=>if ns r p b then p::b::l else b::eJ r p l
theorem lT (r:Ro) (p:Po):∀ l,(eJ r p l).Perm (p::l)
 | []=>List.Perm.refl _
 | b :: l => by
  rw [eJ];split
  ·exact List.Perm.refl _
  ·exact ((lT r p l).cons b).trans (List.Perm.swap p b l)
theorem iW {r:Ro} {p q:Po} {l:List Po}:q∈eJ r p l↔q=p\/q∈l:=by rw [(lT r p l).mem_iff,ZQ]
theorem uq {r:Ro} {p:Po}:∀ {l:List Po},l.Pairwise (fun a b=>ns r a b=true)->(∀ q∈l,¬(p.lv=q.lv/\eE r p.ou=eE r q.ou))->(eJ r p l).Pairwise (fun a b=>ns r a b=true)
 | [],_,_=>by rw [eJ];exact List.pairwise_singleton _ _
 | b :: l, h, hn => by
  rw [ZaX] at h;rw [eJ];split
  ·rename_i hb;rw [ZaX,ZaX];refine ⟨fun q hq=>?_,h.1,h.2⟩;rcases ZQ.1 hq with rfl | hq
   ·exact hb
   ·exact zq hb (h.1 q hq)
  ·rename_i hb;rw [ZaX];refine ⟨fun q hq=>?_,uq h.2 fun q hq=>hn q (ZM _ hq)⟩;rcases iW.1 hq with rfl | hq
   ·rcases Hy (hn b (by simp)) with e | e
    ·exact absurd e hb
    ·exact e
   ·exact h.1 q hq
structure oS (r:Ro):Prop where
 sd:∀ s∈cN r,s ∉ cu r
 st:∀ s∈cN r,s ∉ cQ r
 dt:∀ s∈cu r,s ∉ cQ r
 UZ:(cQ r).length<=6
structure jy (r:Ro) (po:List Po):Prop where
 rV:po.Pairwise (fun a b=>ns r a b=true)
 Li:∀ p∈po,0<=p.lv/\p.lv<r.lv
 out:∀ p∈po,p.ou∈cu r\/p.ou∈cQ r
 xU:∀ p∈po,p.ip∈cN r\/p.ip∈cQ r
 Q7:∀ p∈po,k6 r p.ou=kD r p.ip
 DZ:∀ v,¬ ∃ t∈cQ r,t∈fF po v ((cQ r).length+1) t
 use:∀ v t,t∈cQ r->(nr po v t=true↔gI po v t=true)
theorem jy.one {r:Ro} {po:List Po} (h:po.Pairwise (fun a b=>ns r a b=true)):sX po:=by
 intro p hp q hq hv ho;apply Classical.byContradiction;intro hne;obtain ⟨i,hi,rfl⟩:=ZA hp;obtain ⟨j,hj,rfl⟩:=ZA hq;rw [Zab] at h;rcases Zau i j with e | e | e
 ·have:=h i j hi hj e;unfold ns at this;simp only [ZS,Zn,decide_eq_true_eq] at this;rw [ho] at this;omega
 ·subst e;exact hne rfl
 ·have:=h j i hj hi e;unfold ns at this;simp only [ZS,Zn,decide_eq_true_eq] at this;rw [ho] at this;omega
theorem jy.tie {r:Ro} {po:List Po} (hn:oS r) (h2:∀ p∈po,p.ou∈cu r\/p.ou∈cQ r) (h3:∀ p∈po,p.ip∈cN r\/p.ip∈cQ r) {v:Int}:∀ o i,eD po v o=some i->(eD po v i).isSome=true->i∈cQ r:=by
 intro o i h hi;obtain ⟨p,hp,_,_,rfl⟩:=fC h;rcases h3 p hp with hs | ht
 ·obtain ⟨j,hj⟩:=Zah.1 hi;obtain ⟨q,hq,_,Ri,_⟩:=fC hj;rcases h2 q hq with hd | hd
  ·exact absurd (Ri ▸ hd) (hn.sd _ hs)
  ·exact absurd (Ri ▸ hd) (hn.st _ hs)
 ·exact ht
def iF (po:List Po) (v:Int) (k:Nat) (o:ByteArray):ByteArray:=((fF po v k o).getLast?).getD o
def qF (po:List Po) (v:Int) (S:List ByteArray) (o:ByteArray):ByteArray:=if bB S (iF po v 7 o)<0 then ⟨#[]⟩ else iF po v 7 o
theorem zK {po:List Po} (h:eD po v o=some i):iF po v (k+1) o=iF po v k i:=by
 unfold iF;rw [nL h,List.getLast?_cons]
 rfl
theorem tO {po:List Po} (h:eD po v o=none):iF po v k o=o:=by
 unfold iF;rw [xD h];rfl
theorem H0 {r:Ro} {po:List Po} (hn:oS r) (h:jy r po) (v:Int) (o:ByteArray):iF po v ((cQ r).length+1) o=iF po v 7 o:=by
 have:=hn.UZ;unfold iF;rw [qG (T:=cQ r) (jy.tie hn h.out h.xU) (h.DZ v) o (m:=7) (by omega)]
theorem Qt {r:Ro} {po:List Po} (hn:oS r) (h:jy r po) {v:Int}:∀ (k:Nat) (o:ByteArray),(fF po v 7 o).length<=k->(eD po v o).isSome=true->iF po v 7 o∈cN r:=by
 have h6:=hn.UZ;have hs:=fun o m hm=>qG (T:=cQ r) (jy.tie hn h.out h.xU) (h.DZ v) o (m:=m) hm
 intro k
 induction k with
 | zero =>
  intro o hk ho;obtain ⟨i,hi⟩:=Zah.1 ho;rw [nL hi,ZB] at hk;omega
 | succ k ih =>
  intro o hk ho;obtain ⟨i,hi⟩:=Zah.1 ho;have e1:iF po v 7 o=iF po v 7 i:=by
   have:iF po v 8 o=iF po v 7 i:=zK hi;unfold iF at this ⊢;rw [hs o 8 (by omega)] at this;rw [hs o 7 (by omega)];exact this
  rw [e1];cases Dj:eD po v i with
  | none =>
   rw [tO Dj];obtain ⟨p,hp,Nu,_,rfl⟩:=fC hi;rcases h.xU p hp with hS | hT
   ·exact hS
   ·have hu:nr po v p.ip=true:=by
     unfold nr;rw [ZR];exact ⟨p,hp,by unfold yp;rw [Nu];simp⟩
    have:=(h.use v p.ip hT).1 hu;unfold gI at this;rw [Dj] at this;cases this
  | some j =>
   refine ih i ?_ (by rw [Dj];rfl);have:(fF po v 8 o).length=(fF po v 7 i).length+1:=by rw [nL hi,ZB]
   rw [hs o 8 (by omega),<- hs o 7 (by omega)] at this;omega
theorem zO {r:Ro} {po:List Po} (hn:oS r) (h:jy r po) {v:Int} {o:ByteArray} (ho:(eD po v o).isSome=true):qF po v (cN r) o=iF po v 7 o:=by
 unfold qF;rw [if_neg fun e=>cJ.1 e (Qt hn h _ o (Zv _) ho)]
theorem Ib {r:Ro} {po:List Po} (hs:o ∉ cN r) (ho:eD po v o=none):qF po v (cN r) o=⟨#[]⟩:=by
 unfold qF;rw [tO ho,if_pos (cJ.2 hs)]
theorem BF {po qo:List Po} (h1:sX po) (hs:∀ p∈qo,p∈po) {v:Int}:∀ {k:Nat} {o x:ByteArray},x∈fF qo v k o->x∈fF po v k o
 | 0,_,_,h=>by cases h
 | k + 1, o, x, h => by
  rw [fF] at h;cases hi:eD qo v o with
  | none=>rw [hi] at h;cases h
  | some i =>
   rw [hi] at h;rw [nL (Pn h1 hs hi)];rcases ZQ.1 h with rfl | h
   ·exact Zr
   ·exact ZM _ (BF h1 hs h)
theorem jy.filter {r:Ro} {po:List Po} (hn:oS r) (h:jy r po) (f:Po->Bool) (h2:∀ p∈po,p.ou∈cQ r->∀ q∈po,f q=true->q.lv=p.lv->q.ip=p.ou->f p=true) (h3:∀ p∈po,p.ou∈cQ r->f p=true->∃ q∈po,f q=true/\q.lv=p.lv/\q.ip=p.ou):jy r (po.filter f):=by
 have js:∀ p∈po.filter f,p∈po:=fun p hp=>(Zu.1 hp).1
 have h1:=jy.one h.rV;refine ⟨h.rV.filter f,fun p hp=>h.Li p (js p hp),fun p hp=>h.out p (js p hp),fun p hp=>h.xU p (js p hp),fun p hp=>h.Q7 p (js p hp),fun v=>?_,fun v t ht=>?_⟩
 ·rintro ⟨t,ht,hc⟩;exact h.DZ v ⟨t,ht,BF h1 js hc⟩
 ·constructor
  ·intro hu;unfold nr at hu;rw [ZR] at hu;obtain ⟨q,hq,PD⟩:=hu;unfold yp at PD;rw [Zn,decide_eq_true_eq,decide_eq_true_eq] at PD;obtain ⟨o8,my⟩:=Zu.1 hq;have hb:=(h.use v t ht).1 (by unfold nr;rw [ZR];exact ⟨q,o8,by unfold yp;rw [PD.1,PD.2];simp⟩);unfold gI at hb;obtain ⟨i,hi⟩:=Zah.1 hb;obtain ⟨p,hp,Nu,o9,rfl⟩:=fC hi;have hf:=h2 p hp (o9 ▸ ht) q o8 my (PD.1.trans Nu.symm) (PD.2.trans o9.symm);have:=lK (h1.filter f) (Zu.2 ⟨hp,hf⟩);rw [Nu,o9] at this;unfold gI;rw [this];rfl
  ·intro hb;unfold gI at hb;obtain ⟨i,hi⟩:=Zah.1 hb;obtain ⟨p,hp,Nu,o9,rfl⟩:=fC hi;obtain ⟨BW,PE⟩:=Zu.1 hp;obtain ⟨q,hq,my,uw,hq4⟩:=h3 p BW (o9 ▸ ht) PE;unfold nr;rw [ZR];exact ⟨q,Zu.2 ⟨hq,my⟩,by unfold yp;rw [uw,hq4,Nu,o9];simp⟩
theorem Bv (h:0<=bB l s):bB l s<(l.length:Nat):=by
 obtain ⟨hl,_⟩:=fk h;omega
theorem Gw {a b:ByteArray} (ha:0<=bB l a) (h:bB l a=bB l b):a=b:=by
 obtain ⟨h1,e1⟩:=fk ha;obtain ⟨h2,e2⟩:=fk (l:=l) (s:=b) (by omega);rw [<- e1,<- e2];have:(bB l a).toNat=(bB l b).toNat:=by rw [h]
 simp only [this]
theorem KV {r:Ro} {a b:ByteArray} (ha:a∈cu r\/a∈cQ r) (hb:b∈cu r\/b∈cQ r) (h:eE r a=eE r b):a=b:=by
 have hd:(cu r).length=r.de.length:=by unfold cu;rw [Zd]
 unfold eE at h;by_cases a1:0<=bB (cu r) a
 ·have:=Bv a1;by_cases b1:0<=bB (cu r) b
  ·rw [if_pos a1,if_pos b1] at h;exact Gw a1 h
  ·by_cases b2:0<=bB (cQ r) b
   ·rw [if_pos a1,if_neg b1,if_pos b2] at h;omega
   ·rcases hb with hb | hb
    ·exact absurd hb (cJ.1 (by omega))
    ·exact absurd hb (cJ.1 (by omega))
 ·by_cases a2:0<=bB (cQ r) a
  ·by_cases b1:0<=bB (cu r) b
   ·have:=Bv b1;rw [if_neg a1,if_pos a2,if_pos b1] at h;omega
   ·by_cases b2:0<=bB (cQ r) b
    ·rw [if_neg a1,if_pos a2,if_neg b1,if_pos b2] at h;exact Gw a2 (by omega)
    ·rcases hb with hb | hb
     ·exact absurd hb (cJ.1 (by omega))
     ·exact absurd hb (cJ.1 (by omega))
  ·rcases ha with ha | ha
   ·exact absurd ha (cJ.1 (by omega))
   ·exact absurd ha (cJ.1 (by omega))
structure rL (r:Ro) (po:List Po) (v:Int) (x:ByteArray):Prop where
 rV:po.Pairwise (fun a b=>ns r a b=true)
 Li:∀ p∈po,0<=p.lv/\p.lv<r.lv
 out:∀ p∈po,p.ou∈cu r\/p.ou∈cQ r
 xU:∀ p∈po,p.ip∈cN r\/p.ip∈cQ r
 Q7:∀ p∈po,k6 r p.ou=kD r p.ip
 DZ:∀ v,¬ ∃ t∈cQ r,t∈fF po v ((cQ r).length+1) t
 use:∀ u t,t∈cQ r->(u=v/\t=x)\/(nr po u t=true↔gI po u t=true)
 Y7:x∈cQ r->gI po v x=true
theorem jy.V5 {r:Ro} {po:List Po} (h:jy r po) (hb:x∈cQ r->gI po v x=true):rL r po v x:=⟨h.rV,h.Li,h.out,h.xU,h.Q7,h.DZ,fun u t ht=>.inr (h.use u t ht),hb⟩
theorem rL.val {r:Ro} {po:List Po} {v:Int} {x:ByteArray} (h:rL r po v x) (hx:x ∉ cQ r):jy r po:=⟨h.rV,h.Li,h.out,h.xU,h.Q7,h.DZ,fun u t ht=>(h.use u t ht).resolve_left fun e=>hx (e.2 ▸ ht)⟩
theorem pJ {r:Ro} {po:List Po} {p:Po} (hs:po.Pairwise (fun a b=>ns r a b=true)) (ho:∀ q∈po,q.ou∈cu r\/q.ou∈cQ r) (hp:p.ou∈cu r\/p.ou∈cQ r) (abf:eD po p.lv p.ou=none):(eJ r p po).Pairwise (fun a b=>ns r a b=true):=
 uq hs fun q hq e=>iX.1 abf q hq ⟨e.1.symm,(KV hp (ho q hq) e.2).symm⟩
theorem sy {r:Ro} {po:List Po} {p:Po} (h1:sX (eJ r p po)) (h0:sX po) (v:Int) (o:ByteArray):eD (eJ r p po) v o=if p.lv=v/\p.ou=o then some p.ip else eD po v o:=by
 by_cases h:p.lv=v/\p.ou=o
 ·rw [if_pos h];have:=lK h1 (iW.2 (.inl I):p∈eJ r p po);rwa [h.1,h.2] at this
 ·rw [if_neg h];cases hi:eD po v o with
  | none =>
   rw [iX];intro q hq;rcases iW.1 hq with rfl | hq
   ·exact h
   ·exact iX.1 hi q hq
  | some i =>
   obtain ⟨q,hq,rfl,rfl,rfl⟩:=fC hi;exact lK h1 (iW.2 (.inr hq))
theorem rL.add {r:Ro} {po:List Po} (hn:oS r) (h:rL r po v x) (hv:0<=v/\v<r.lv) (hx:x∈cN r\/x∈cQ r) (ho:o∈cu r\/o∈cQ r) (fA:eD po v o=none) (hm:k6 r o=kD r x):rL r (eJ r ⟨v,o,x⟩ po) v o:=by
 have hs:=pJ (p:=⟨v,o,x⟩) h.rV h.out ho fA;have h1:=jy.one hs;have h0:=jy.one h.rV;have mT:=sy (p:=⟨v,o,x⟩) h1 h0;have ur:x≠o:=by
  intro e;subst e;rcases hx with hx | hx
  ·rcases ho with ho | ho
   ·exact hn.sd _ hx ho
   ·exact hn.st _ hx ho
  ·have:=h.Y7 hx;unfold gI at this;rw [fA] at this;cases this
 -- no one ad8 DV new output
 have rq:∀ u,eD po v u≠some o:=by
  intro u hu;obtain ⟨q,hq,Nt,_,TP⟩:=fC hu;rcases ho with ho | ho
  ·rcases h.xU q hq with hS | hT
   ·exact hn.sd _ (TP ▸ hS) ho
   ·exact hn.dt _ ho (TP ▸ hT)
  ·rcases h.use v o ho with e | e
   ·exact ur e.2.symm
   ·have:nr po v o=true:=by
     unfold nr;rw [ZR];exact ⟨q,hq,by unfold yp;rw [Nt,TP];simp⟩
    have:=e.1 this;unfold gI at this;rw [fA] at this;cases this
 have iY:∀ u y,eD (eJ r ⟨v,o,x⟩ po) v u=some y->y≠o:=by
  intro u y hu e;subst e;rw [mT] at hu;split at hu
  ·exact ur (Option.some.inj hu)
  ·exact rq u hu
 refine ⟨hs,fun p hp=>?_,fun p hp=>?_,fun p hp=>?_,fun p hp=>?_,fun w=>?_,fun u t ht=>?_,fun _=>?_⟩
 ·rcases iW.1 hp with rfl | hp
  ·exact hv
  ·exact h.Li p hp
 ·rcases iW.1 hp with rfl | hp
  ·exact ho
  ·exact h.out p hp
 ·rcases iW.1 hp with rfl | hp
  ·exact hx
  ·exact h.xU p hp
 ·rcases iW.1 hp with rfl | hp
  ·exact hm
  ·exact h.Q7 p hp
 ·rintro ⟨t,ht,hc⟩;obtain ⟨j,hj,he⟩:=vp.1 hc
  -- DV way round is one of DV F9 points
  have key:∀ k y z,(w=v->y≠o)->mR (eJ r ⟨v,o,x⟩ po) w k y=some z->mR po w k y=some z:=by
   intro k
   induction k with
   | zero=>intro y z _ h;exact h
   | succ k ih =>
    intro y z hy hz;rw [mR] at hz ⊢;have e1:eD (eJ r ⟨v,o,x⟩ po) w y=eD po w y:=by
     rw [mT,if_neg fun e=>hy e.1.symm e.2.symm]
    cases hi:eD po w y with
    | none=>rw [e1,hi] at hz;cases hz
    | some u =>
     rw [e1,hi] at hz;refine ih u z (fun e q=>?_) hz;subst e q;exact iY y u (by rw [e1];exact hi) I
  refine h.DZ w ⟨t,ht,vp.2 ⟨j,hj,key (j+1) t t (fun e q=>?_) he⟩⟩;subst e q;obtain ⟨u,hu,TF⟩:∃ u,mR (eJ r ⟨w,t,x⟩ po) w j t=some u/\eD (eJ r ⟨w,t,x⟩ po) w u=some t:=by
   rw [kR] at he;cases hq:mR (eJ r ⟨w,t,x⟩ po) w j t with
   | none=>rw [hq] at he;cases he
   | some u =>
    rw [hq] at he;exact ⟨u,I,by simpa [mR] using he⟩
  exact iY u t TF I
 ·by_cases e:u=v/\t=o
  ·exact .inl e
  ·refine .inr ?_;have hb:gI (eJ r ⟨v,o,x⟩ po) u t=gI po u t:=by
    unfold gI;rw [mT,if_neg fun q=>e ⟨q.1.symm,q.2.symm⟩]
   have hu:nr (eJ r ⟨v,o,x⟩ po) u t=true↔(u=v/\t=x)\/nr po u t=true:=by
    unfold nr;rw [ZR,ZR];constructor
    ·rintro ⟨q,hq,my⟩;rcases iW.1 hq with rfl | hq
     ·unfold yp at my;rw [Zn,decide_eq_true_eq,decide_eq_true_eq] at my;exact .inl ⟨my.1.symm,my.2.symm⟩
     ·exact .inr ⟨q,hq,my⟩
    ·rintro (⟨rfl,rfl⟩ | ⟨q,hq,my⟩)
     ·exact ⟨_,iW.2 (.inl I),by unfold yp;simp⟩
     ·exact ⟨q,iW.2 (.inr hq),my⟩
   rw [hb,hu];rcases h.use u t ht with ex | ex
   ·obtain ⟨rfl,rfl⟩:=ex;exact ⟨fun _=>h.Y7 ht,fun _=>.inl ⟨I,I⟩⟩
   ·constructor
    ·rintro (⟨rfl,rfl⟩ | q)
     ·exact h.Y7 ht
     ·exact ex.1 q
    ·exact fun q=>.inr (ex.2 q)
 ·unfold gI;rw [mT,if_pos ⟨I,I⟩];rfl
theorem rL.ne {r:Ro} {po:List Po} (hn:oS r) (h:rL r po v x) (hx:x∈cN r\/x∈cQ r) (ho:o∈cu r\/o∈cQ r) (fA:eD po v o=none):x≠o:=by
 intro e;subst e;rcases hx with hx | hx
 ·rcases ho with ho | ho
  ·exact hn.sd _ hx ho
  ·exact hn.st _ hx ho
 ·have:=h.Y7 hx;unfold gI at this;rw [fA] at this;cases this
theorem rL.unused {r:Ro} {po:List Po} (hn:oS r) (h:rL r po v x) (hx:x∈cN r\/x∈cQ r) (ho:o∈cu r\/o∈cQ r) (fA:eD po v o=none):∀ u,eD po v u≠some o:=by
 have ur:=h.ne hn hx ho fA;intro u hu;obtain ⟨q,hq,Nt,_,TP⟩:=fC hu;rcases ho with ho | ho
 ·rcases h.xU q hq with hS | hT
  ·exact hn.sd _ (TP ▸ hS) ho
  ·exact hn.dt _ ho (TP ▸ hT)
 ·rcases h.use v o ho with e | e
  ·exact ur e.2.symm
  ·have:nr po v o=true:=by
    unfold nr;rw [ZR];exact ⟨q,hq,by unfold yp;rw [Nt,TP];simp⟩
   have:=e.1 this;unfold gI at this;rw [fA] at this;cases this
theorem BG {r:Ro} {po:List Po} {v:Int} {x o:ByteArray} (hn:oS r) (h:rL r po v x) (hx:x∈cN r\/x∈cQ r) (ho:o∈cu r\/o∈cQ r) (fA:eD po v o=none) {w:Int}:∀ {k:Nat} {y:ByteArray},¬(w=v/\y=o)->fF (eJ r ⟨v,o,x⟩ po) w k y=fF po w k y
 | 0,_,_=>rfl
 | k + 1, y, hy => by
  have hs:=pJ (p:=⟨v,o,x⟩) h.rV h.out ho fA;have e1:eD (eJ r ⟨v,o,x⟩ po) w y=eD po w y:=by
   rw [sy (p:=⟨v,o,x⟩) (jy.one hs) (jy.one h.rV),if_neg fun e=>hy ⟨e.1.symm,e.2.symm⟩]
  rw [fF,fF,e1];cases hi:eD po w y with
  | none=>rfl
  | some u =>
   show u::_=u::_;rw [BG hn h hx ho fA fun e=>by
    obtain ⟨rfl,rfl⟩:=e;exact h.unused hn hx ho fA y hi]
theorem GM {r:Ro} {po:List Po} (hn:oS r) (h:rL r po v x) (hx:x∈cN r\/x∈cQ r) (ho:o∈cu r\/o∈cQ r) (fA:eD po v o=none) {w:Int} {y:ByteArray} (hy:¬(w=v/\y=o)) {S:List ByteArray}:qF (eJ r ⟨v,o,x⟩ po) w S y=qF po w S y:=by
 unfold qF iF;rw [BG hn h hx ho fA hy]
theorem Dx {r:Ro} {po:List Po} (hn:oS r) (h:rL r po v x) (hv:0<=v/\v<r.lv) (hx:x∈cN r\/x∈cQ r) (ho:o∈cu r\/o∈cQ r) (fA:eD po v o=none) (hm:k6 r o=kD r x):iF (eJ r ⟨v,o,x⟩ po) v 7 o=iF po v 7 x:=by
 have h6:=hn.UZ;have hA:=h.add hn hv hx ho fA hm;have hs:=pJ (p:=⟨v,o,x⟩) h.rV h.out ho fA;have mT:eD (eJ r ⟨v,o,x⟩ po) v o=some x:=by
  rw [sy (p:=⟨v,o,x⟩) (jy.one hs) (jy.one h.rV),if_pos ⟨I,I⟩]
 have U8:=fun m hm=>qG (T:=cQ r) (jy.tie hn hA.out hA.xU) (hA.DZ v) o (m:=m) hm
 have e8:iF (eJ r ⟨v,o,x⟩ po) v 8 o=iF (eJ r ⟨v,o,x⟩ po) v 7 x:=zK mT;have e7:iF (eJ r ⟨v,o,x⟩ po) v 7 o=iF (eJ r ⟨v,o,x⟩ po) v 8 o:=by
  unfold iF;rw [U8 7 (by omega),U8 8 (by omega)]
 rw [e7,e8];unfold iF;rw [BG hn h hx ho fA fun e=>h.ne hn hx ho fA e.2]
theorem xE {po:List Po} (h1:sX po) {f:Po->Bool} (gl:∀ q∈po,f q=true->∀ p∈po,p.lv=q.lv->p.ou=q.ip->f p=true) {v:Int}:∀ {k:Nat} {y:ByteArray},(∀ p∈po,p.lv=v->p.ou=y->f p=true)->fF (po.filter f) v k y=fF po v k y
 | 0,_,_=>rfl
 | k + 1, y, hy => by
  rw [fF,fF];cases hi:eD po v y with
  | none =>
   have:eD (po.filter f) v y=none:=iX.2 fun p hp=>iX.1 hi p (Zu.1 hp).1
   rw [this]
  | some u =>
   obtain ⟨q,hq,Nt,Ri,rfl⟩:=fC hi;have hf:=hy q hq Nt Ri;have:eD (po.filter f) v y=some q.ip:=by
    have:=lK (h1.filter f) (Zu.2 ⟨hq,hf⟩);rwa [Nt,Ri] at this
   rw [this];show q.ip::_=q.ip::_;rw [xE h1 gl fun p hp Nu o9=>gl q hq hf p hp (Nu.trans Nt.symm) o9]
end Go.Proofs.A1
