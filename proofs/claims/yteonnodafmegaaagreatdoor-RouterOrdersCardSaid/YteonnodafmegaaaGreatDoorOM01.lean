/- Parts of the proof: GkCore GkOps P5w S1p P5a P5b P5c P5d P5e P5f P5g. -/
import Derived.RangeFuncRecord
import Derived.OrdersIn
import Derived.KernelRfl
import Derived.Below
import Derived.IntWalk
import Derived.Laws.Strings
namespace Go
abbrev Value.q (x:Int):Value:=.int .i64 x
abbrev Value.z:Value:=.slice none 0 0
abbrev Value.w (b n c:Nat):Value:=.slice (some ⟨b,0,none⟩) n c
abbrev Value.p (b:Nat):Value:=.pointer (some ⟨b,0,none⟩)
end Go
set_option linter.unusedSectionVars false
set_option linter.unusedVariables false
set_option linter.unusedSimpArgs false
namespace Go.SL
open Go
open Go.RowKit (Below)
theorem I {α:Sort _} {a:α}:a=a:=rfl
theorem Za {α:Type _} (as:List α):[]++as=as:=rfl
theorem Zb:type_of% @List.cons_append:=rfl
theorem Zc:type_of% @List.getElem?_eq_getElem:=List.getElem?_eq_getElem
theorem Zd:type_of% @List.length_map:=@List.length_map
theorem Ze:type_of% @List.take_zero:=rfl
theorem Zf:type_of% @List.map_nil:=rfl
theorem Zg:type_of% @List.length_append:=@List.length_append
theorem Zh:type_of% @List.append_assoc:=@List.append_assoc
theorem Zi:type_of% @Nat.zero_le:=@Nat.zero_le
theorem Zj:type_of% @List.getElem_mem:=@List.getElem_mem
theorem Zk:type_of% @List.getD_eq_getElem?_getD:=@List.getD_eq_getElem?_getD
theorem Zl:type_of% @List.take_succ_eq_append_getElem:=@List.take_succ_eq_append_getElem
theorem Zm:type_of% @Bool.and_eq_true:=@Bool.and_eq_true
theorem Zn:type_of% @List.getElem?_eq_some_iff:=@List.getElem?_eq_some_iff
theorem Zo:type_of% @List.not_mem_nil:=@List.not_mem_nil
theorem Zp:type_of% @Decidable.not_not:=@Decidable.not_not
theorem Zq:type_of% @List.forall_mem_cons:=@List.forall_mem_cons
theorem Zr:type_of% @List.mem_filter:=@List.mem_filter
theorem Zs:type_of% @List.length_take:=@List.length_take
theorem Zt:type_of% @List.drop_eq_getElem_cons:=@List.drop_eq_getElem_cons
theorem Zu:type_of% @List.mem_cons_self:=@List.mem_cons_self
theorem Zv:type_of% @List.map_append:=@List.map_append
theorem Zw:type_of% @List.getElem_of_mem:=@List.getElem_of_mem
theorem Zx:type_of% @List.mem_map:=@List.mem_map
theorem Zy:type_of% @Nat.le_refl:=@Nat.le_refl
theorem Zz:type_of% @List.mem_append:=@List.mem_append
theorem ZA:type_of% @List.length_cons:=@List.length_cons
theorem ZB:type_of% @List.getElem?_append_left:=@List.getElem?_append_left
theorem ZC:type_of% @List.getElem?_append_right:=@List.getElem?_append_right
theorem ZD:type_of% @Nat.zero_add:=@Nat.zero_add
theorem ZE:type_of% @List.getElem?_map:=@List.getElem?_map
theorem ZF:type_of% @List.mem_append_left:=@List.mem_append_left
theorem ZG:type_of% @List.nodup_append:=@List.nodup_append
theorem ZH:type_of% @Int.toNat_natCast:=@Int.toNat_natCast
theorem ZI:type_of% @Array.getD_eq_getD_getElem?:=@Array.getD_eq_getD_getElem?
theorem ZJ:type_of% @List.append_nil:=@List.append_nil
theorem ZK:type_of% @List.take_length:=@List.take_length
theorem ZL:type_of% @List.mem_singleton:=@List.mem_singleton
theorem ZM:type_of% @List.mem_cons_of_mem:=@List.mem_cons_of_mem
theorem ZN:type_of% @Nat.not_lt_zero:=@Nat.not_lt_zero
theorem ZO:type_of% @Array.getElem?_setIfInBounds_ne:=@Array.getElem?_setIfInBounds_ne
theorem ZP:type_of% @List.getElem?_take:=@List.getElem?_take
theorem ZQ:type_of% @Nat.le_trans:=@Nat.le_trans
theorem ZR:type_of% @List.any_eq_true:=@List.any_eq_true
theorem ZS:type_of% @List.mem_cons:=@List.mem_cons
theorem ZT:type_of% @Bool.or_eq_true:=@Bool.or_eq_true
theorem ZU:type_of% @List.mem_append_right:=@List.mem_append_right
theorem ZV:type_of% @List.length_filter_le:=@List.length_filter_le
theorem ZW:type_of% @List.mem_range:=@List.mem_range
theorem ZX:type_of% @Nat.succ_le_of_lt:=@Nat.succ_le_of_lt
theorem ZY:type_of% @List.mem_map_of_mem:=@List.mem_map_of_mem
theorem ZZ:type_of% @List.getElem_map:=@List.getElem_map
theorem Z0:type_of% @List.take_append_drop:=@List.take_append_drop
theorem Z1:type_of% @List.drop_length:=@List.drop_length
theorem Z2:type_of% @Nat.lt_of_not_le:=@Nat.lt_of_not_le
theorem Z3:type_of% @List.map_cons:=@List.map_cons
theorem Z4:type_of% @List.all_eq_true:=@List.all_eq_true
theorem Z5:type_of% @List.mem_of_getElem?:=@List.mem_of_getElem?
theorem Z6:type_of% @Array.getElem?_eq_some_iff:=@Array.getElem?_eq_some_iff
theorem Z7:type_of% @Nat.mul_le_mul_right:=@Nat.mul_le_mul_right
theorem Z8:type_of% @List.eq_nil_of_length_eq_zero:=@List.eq_nil_of_length_eq_zero
theorem Z9:type_of% @List.length_singleton:=@List.length_singleton
theorem Zaa:type_of% @List.length_nil:=@List.length_nil
theorem Zab:type_of% @List.take_of_length_le:=@List.take_of_length_le
theorem Zac:type_of% @Nat.blt_eq:=@Nat.blt_eq
theorem Zad:type_of% @List.pairwise_iff_getElem:=@List.pairwise_iff_getElem
theorem Zae:type_of% @Nat.eq_of_beq_eq_true:=@Nat.eq_of_beq_eq_true
theorem Zaf:type_of% @List.flatten_append:=@List.flatten_append
theorem Zag:type_of% @Option.isSome_iff_exists:=@Option.isSome_iff_exists
theorem Zah:type_of% @List.take_append_of_le_length:=@List.take_append_of_le_length
theorem Zai:type_of% @Nat.succ_mul:=@Nat.succ_mul
theorem Zaj:type_of% @Option.getD_some:=@Option.getD_some
theorem Zak:type_of% @List.getElem?_eq_none:=@List.getElem?_eq_none
theorem Zal:type_of% @Option.map_eq_some_iff:=@Option.map_eq_some_iff
theorem Zam:type_of% @List.any_eq_false:=@List.any_eq_false
theorem Zan:type_of% @List.nodup_nil:=@List.nodup_nil
theorem Zao:type_of% @Bool.true_and:=@Bool.true_and
theorem Zap:type_of% @Bool.not_eq_true:=@Bool.not_eq_true
theorem Zaq:type_of% @Nat.lt_trichotomy:=@Nat.lt_trichotomy
theorem Zar:type_of% @Nat.mul_one:=@Nat.mul_one
theorem Zas:type_of% @List.length_eq_zero_iff:=@List.length_eq_zero_iff
theorem Zat:type_of% @List.ext_getElem?:=@List.ext_getElem?
theorem Zau:type_of% @List.length_range:=@List.length_range
theorem Zav:type_of% @List.getElem_append_right:=@List.getElem_append_right
theorem Zaw:type_of% @Nat.add_zero:=@Nat.add_zero
theorem Zax:type_of% @Nat.add_sub_cancel:=@Nat.add_sub_cancel
theorem Zay:type_of% @List.filter_append:=@List.filter_append
theorem Zaz:type_of% @List.filter_eq_self:=@List.filter_eq_self
theorem ZaA:type_of% @Nat.le_of_ble_eq_true:=@Nat.le_of_ble_eq_true
theorem ZaB:type_of% @List.flatten_cons:=@List.flatten_cons
theorem ZaC:type_of% @List.getElem?_cons_zero:=@List.getElem?_cons_zero
theorem ZaD:type_of% @List.find?_eq_some_iff_getElem:=@List.find?_eq_some_iff_getElem
theorem ZaE:type_of% @List.map_map:=@List.map_map
theorem ZaF:type_of% @List.getElem_take:=@List.getElem_take
theorem ZaG:type_of% @Bool.eq_false_iff:=@Bool.eq_false_iff
theorem ZaH:type_of% @Array.getElem?_toList:=@Array.getElem?_toList
theorem ZaI:type_of% @List.contains_iff_mem:=@List.contains_iff_mem
theorem ZaJ:type_of% @List.getElem_append_left:=@List.getElem_append_left
theorem ZaK:type_of% @Nat.lt_of_lt_of_le:=@Nat.lt_of_lt_of_le
theorem ZaL:type_of% @List.find?_eq_none:=@List.find?_eq_none
theorem ZaM:type_of% @List.mem_of_mem_take:=@List.mem_of_mem_take
theorem ZaN:type_of% @List.length_take_of_le:=@List.length_take_of_le
theorem ZaO:type_of% @List.perm_ext_iff_of_nodup:=@List.perm_ext_iff_of_nodup
theorem ZaP:type_of% @Array.length_toList:=@Array.length_toList
theorem ZaQ:type_of% @Bool.eq_iff_iff:=@Bool.eq_iff_iff
theorem ZaR:type_of% @Array.getElem?_eq_getElem:=@Array.getElem?_eq_getElem
theorem ZaS:type_of% @List.length_drop:=@List.length_drop
theorem ZaT:type_of% @Bool.false_eq_true:=@Bool.false_eq_true
theorem ZaU:type_of% @List.prefix_append:=@List.prefix_append
theorem ZaV:type_of% @List.pairwise_cons:=@List.pairwise_cons
theorem ZaW:type_of% @List.length_erase_of_mem:=@List.length_erase_of_mem
theorem ZaX:type_of% @List.map_take:=@List.map_take
theorem ZaY:type_of% @Array.toArray_toList:=@Array.toArray_toList
theorem ZaZ:type_of% @List.getElem?_cons_succ:=@List.getElem?_cons_succ
theorem Zba:type_of% @List.mem_range'_1:=@List.mem_range'_1
theorem Zbb:type_of% @Bool.not_eq_true':=@Bool.not_eq_true'
theorem Zbc:type_of% @List.filter_congr:=@List.filter_congr
theorem Zbd:type_of% @Nat.mul_le_mul_left:=@Nat.mul_le_mul_left
theorem Zbe:type_of% @List.map_congr_left:=@List.map_congr_left
theorem Zbf:type_of% @List.drop_of_length_le:=@List.drop_of_length_le
theorem Zbg:type_of% @Nat.le_of_not_lt:=@Nat.le_of_not_lt
theorem Zbh:type_of% @List.drop_drop:=@List.drop_drop
theorem Zbi:type_of% @List.getElem?_drop:=@List.getElem?_drop
theorem Zbj:type_of% @List.getElem_range:=@List.getElem_range
theorem Zbk:type_of% @Array.getElem?_modify:=@Array.getElem?_modify
theorem Zbl:type_of% @List.sublist_append_right:=@List.sublist_append_right
theorem Zbm:type_of% @Option.map_some:=@Option.map_some
theorem Zbn:type_of% @List.size_toArray:=@List.size_toArray
theorem Zbo:type_of% @Nat.zero_mul:=@Nat.zero_mul
theorem Zbp:type_of% @List.sublist_append_left:=@List.sublist_append_left
theorem Zbq:type_of% @List.filter_cons_of_pos:=@List.filter_cons_of_pos
theorem Zbr:type_of% @Nat.add_sub_cancel_left:=@Nat.add_sub_cancel_left
theorem Zbs:type_of% @Array.getElem?_eq_none:=@Array.getElem?_eq_none
theorem Zbt:type_of% @Nat.lt_or_ge:=@Nat.lt_or_ge
theorem Zbu:type_of% @List.filter_filter:=@List.filter_filter
theorem Zbv:type_of% @Nat.min_eq_left:=@Nat.min_eq_left
theorem Zbw:type_of% @List.range_succ:=@List.range_succ
theorem Zbx:type_of% @List.pairwise_map:=@List.pairwise_map
theorem Zby:type_of% @List.mem_flatten:=@List.mem_flatten
theorem Zbz:type_of% @List.nodup_range:=@List.nodup_range
theorem ZbA:type_of% @List.filter_cons:=@List.filter_cons
abbrev aL:=List (Nat×Value)
def db:aL->Nat->Option Value
 | [],_=>none
 | (t,v)::r,k=>bif Nat.beq t k then some v else db r k
variable {D:List Nat} {N:Act->World->Prop} {Q:Exit->Act->World->Prop} {V:Value} {a:Act} {b d:Nat} {h:Nat->Option Obj} {id:Nat} {o:Oper} {op:Op} {ops:Array Oper} {r:Option Nat} {rest:List Oper} {v:Value} {x:Operand}
theorem gB {t k:Nat} {r:aL} (h:t≠k):db ((t,v)::r) k=db r k:=by
 have:Nat.beq t k=false:=by
  cases hb:Nat.beq t k with
  | false=>rfl
  | true=>exact absurd (Zae hb) h
 simp [db,this]
theorem gC {t:Nat} {r:aL}:db ((t,v)::r) t=some v:=by
 simp [db]
def cg (sl:aL) (a:Act):Prop:=∀ t v,db sl t=some v->a.tmps[t]? = some v
theorem cg.eval {sl:aL} (h:cg sl a) {t:Nat} {v:Value} (hv:db sl t=some v):a.eval (.tmp t)=v:=by
 have:=h t v hv;simp [Act.eval,ZI,this]
theorem cg.put {sl:aL} (h:cg sl a) {d:Nat} (hd:d<a.tmps.size) (v:Value):cg ((d,v)::sl) (a.put (some d) v):=by
 intro t u hu;by_cases yA:d=t
 ·subst yA;rw [gC] at hu;cases hu;simp [Act.put,hd]
 ·rw [gB yA] at hu;simp only [Act.put,ZO yA];exact h t u hu
theorem cg.sub {sl jX:aL} (h:cg sl a) (hs:∀ t v,db jX t=some v->db sl t=some v):cg jX a:=fun t v hv=>h t v (hs t v hv)
def Is (sl:aL) (x:Operand) (v:Value):Prop:=∀ a:Act,cg sl a->a.eval x=v
def gv (c:Bool) (v:Value):Value:=bif c then v else undef
theorem vD {c:Bool} (h:c=true):gv c v=v:=by simp [gv,h]
theorem xo {c:Bool} (h:c=false):gv c v=undef:=by simp [gv,h]
def hp (w:World):Nat->Option Obj:=fun b=>w.heap[b]?
theorem kV {w:World} {o:Obj} (h:hp w b=some o):b<w.heap.size:=(Z6.1 h).1
structure bd where
 sat:(Nat->Option Obj)->List Nat->Prop
 loc:∀ {h h':Nat->Option Obj} {fp:List Nat},sat h fp->(∀ b∈fp,h' b=h b)->sat h' fp
 own:∀ {h:Nat->Option Obj} {fp:List Nat},sat h fp->∀ b∈fp,∃ o,h b=some o
def cr (h:Nat->Option Obj):List bd->List Nat->Prop
 | [],fp=>fp=[]
 | A::As,fp=>∃ f1 f2,fp=f1++f2/\A.sat h f1/\cr h As f2
theorem cr.own :∀ {hs:List bd} {fp:List Nat},cr h hs fp->∀ b∈fp,∃ o,h b=some o
 | [],_,hh,b,hb=>by rw [show _=[] from hh] at hb;cases hb
 | A :: As, _, ⟨f1, f2, e, h1, h2⟩, b, hb => by
  subst e;rcases Zz.1 hb with hb | hb
  ·exact A.own h1 b hb
  ·exact cr.own h2 b hb
theorem cr.loc {h h':Nat->Option Obj}:∀ {hs:List bd} {fp:List Nat},cr h hs fp->(∀ b∈fp,h' b=h b)->cr h' hs fp
 | [],_,hh,_=>hh
 | A :: As, _, ⟨f1, f2, e, h1, h2⟩, hb => by
  subst e;exact ⟨f1,f2,I,A.loc h1 (fun b dK=>hb b (ZF _ dK)),cr.loc h2 (fun b dK=>hb b (ZU _ dK))⟩
theorem cr.append_iff :∀ {l1 l2:List bd} {fp:List Nat},cr h (l1++l2) fp↔∃ f1 f2,fp=f1++f2/\cr h l1 f1/\cr h l2 f2
 | [],l2,fp=>⟨fun hh=>⟨[],fp,rfl,rfl,hh⟩,fun ⟨f1,f2,e,h1,h2⟩=>by rw [show f1=[] from h1] at e;simpa [e] using h2⟩
 | A :: l1, l2, fp => by
  constructor
  ·rintro ⟨f1,f2,rfl,h1,h2⟩;obtain ⟨g1,g2,rfl,h3,h4⟩:=cr.append_iff.1 h2;exact ⟨f1++g1,g2,by simp,⟨f1,g1,I,h1,h3⟩,h4⟩
  ·rintro ⟨f1,f2,rfl,⟨g1,g2,rfl,h1,h2⟩,h3⟩;exact ⟨g1,g2++f2,by simp,h1,cr.append_iff.2 ⟨g2,f2,I,h2,h3⟩⟩
inductive Take:List bd->bd->List bd->Prop
 | here {A:bd} {r:List bd}:Take (A::r) A r
 | there {A X:bd} {r r':List bd} (h:Take r A r'):Take (X::r) A (X::r')
theorem Take.append {hs hs':List bd} {A:bd} (h:Take hs A hs') (m:List bd):Take (hs++m) A (hs'++m):=by
 induction h with
 | here=>exact .here
 | there _ ih=>exact .there ih
theorem cr.take {hs hs':List bd} {A:bd} (ht:Take hs A hs'):∀ {fp:List Nat},cr h hs fp->∃ f1 f2,A.sat h f1/\cr h hs' f2/\fp.Perm (f1++f2):=by
 induction ht with
 | here =>
  rintro fp ⟨f1,f2,rfl,h1,h2⟩;exact ⟨f1,f2,h1,h2,.refl _⟩
 | there _ ih =>
  rintro fp ⟨f1,f2,rfl,h1,h2⟩;obtain ⟨g1,g2,h3,h4,hp⟩:=ih h2;refine ⟨g1,f1++g2,h3,⟨f1,g2,I,h1,h4⟩,?_⟩;exact (hp.append_left f1).trans (by
   rw [<- Zh,<- Zh];exact (List.perm_append_comm).append_right g2)
structure aJ (md:List Nat) (w w':World):Prop where
 os:w'.os=w.os
 tape:w'.tape=w.tape
 output:w'.output=w.output
 dr:w.drawn<=w'.drawn
 size:w.heap.size<=w'.heap.size
 block:∀ k,k<w.heap.size->k ∉ md->w'.heap[k]? = w.heap[k]?
theorem aJ.refl (md:List Nat) (w:World):aJ md w w:=⟨I,I,I,Zy _,Zy _,fun _ _ _=>rfl⟩
theorem aJ.trans {md:List Nat} {a b c:World} (h:aJ md a b) (k:aJ md b c):aJ md a c:=
 ⟨k.os.trans h.os,k.tape.trans h.tape,k.output.trans h.output,ZQ h.dr k.dr,ZQ h.size k.size,fun i hi hm=>(k.block i (ZaK hi h.size) hm).trans (h.block i hi hm)⟩
theorem aJ.mono {md md':List Nat} {w w':World} (h:aJ md w w') (hs:∀ b∈md,b∈md'):aJ md' w w':=
 ⟨h.os,h.tape,h.output,h.dr,h.size,fun k hk hm=>h.block k hk (fun hb=>hm (hs k hb))⟩
theorem aJ.below {w w':World} (h:aJ [] w w'):Below w.heap.size w w':=⟨h.os,h.tape,h.output,h.size,fun k hk=>h.block k hk (by simp)⟩
theorem aJ.LA {w w':World} (h:Below w.heap.size w w') (hd:w.drawn<=w'.drawn):aJ [] w w':=⟨h.os,h.tape,h.output,hd,h.size,fun k hk _=>h.block k hk⟩
theorem aJ.drew (md:List Nat) (w:World):aJ md w w.drew:=⟨I,I,I,Nat.le_succ _,Zy _,fun _ _ _=>rfl⟩
theorem aJ.alloc (md:List Nat) (w:World) (o:Obj):aJ md w (w.alloc o):=
 ⟨I,I,I,Zy _,by simp,fun k hk _=>by show (w.heap.push o)[k]? = _;rw [Array.getElem?_push,if_neg (by omega)]⟩
structure Cx where
 w0:World
 md:List Nat
 nt:Nat
structure Mem (c:Cx) (hs:List bd) (w:World):Prop where
 keeps:aJ c.md c.w0 w
 own:∃ fp:List Nat,fp.Nodup/\cr (hp w) hs fp/\∀ b∈fp,c.w0.heap.size<=b\/b∈c.md
theorem Mem.take {c:Cx} {hs hs':List bd} {A:bd} {w:World} (h:Mem c hs w) (ht:Take hs A hs'):Mem c (A::hs') w:=by
 obtain ⟨k,fp,hn,hs,hb⟩:=h;obtain ⟨f1,f2,h1,h2,hp⟩:=hs.take ht;exact ⟨k,f1++f2,hp.nodup_iff.1 hn,⟨f1,f2,I,h1,h2⟩,fun b dK=>hb b (hp.mem_iff.2 dK)⟩
theorem Mem.change {c:Cx} {As Bs hs:List bd} {w w':World} (h:Mem c (As++hs) w)
  (QC:∀ fp,fp.Nodup->cr (hp w) As fp->aJ fp w w'/\∃ mw:List Nat,mw.Nodup/\cr (hp w') Bs mw/\∀ b∈mw,b∈fp\/w.heap.size<=b):Mem c (Bs++hs) w':=by
 obtain ⟨k,fp,hn,hs,hb⟩:=h;obtain ⟨f1,f2,rfl,h1,h2⟩:=cr.append_iff.1 hs;obtain ⟨n1,n2,n12⟩:=ZG.1 hn;obtain ⟨hk,mw,uD,hs',zL⟩:=QC f1 n1 h1;have aK:∀ b∈f2,b<w.heap.size:=fun b dK=>let ⟨o,ho⟩:=h2.own b dK;kV ho
 refine ⟨?_,mw++f2,?_,cr.append_iff.2 ⟨mw,f2,I,hs',h2.loc fun b dK=>?_⟩,?_⟩
 ·refine ⟨hk.os.trans k.os,hk.tape.trans k.tape,hk.output.trans k.output,ZQ k.dr hk.dr,ZQ k.size hk.size,fun b dK hm=>?_⟩;rw [<- k.block b dK hm];refine hk.block b (ZaK dK k.size) (fun hf=>?_);rcases hb b (ZF _ hf) with h | h
  ·omega
  ·exact hm h
 ·refine ZG.2 ⟨uD,n2,fun x hx y hy e=>?_⟩;subst e;rcases zL x hx with h | h
  ·exact n12 x h x hy I
  ·have:=aK x hy;omega
 ·exact hk.block b (aK b dK) (fun hf=>n12 b hf b dK I)
 ·intro b dK;rcases Zz.1 dK with h | h
  ·rcases zL b h with h | h
   ·exact hb b (ZF _ h)
   ·exact .inl (ZQ k.size h)
  ·exact hb b (ZU _ h)
theorem Mem.sC {c:Cx} {hs:List bd} {w w':World} (h:Mem c hs w) (hk:aJ [] w w'):Mem c hs w':=
 Mem.change (As:=[]) (Bs:=[]) h fun fp _ hf=>by
  rw [show fp=[] from hf];exact ⟨hk,[],Zan,I,by simp⟩
theorem Mem.drew {c:Cx} {hs:List bd} {w:World} (h:Mem c hs w):Mem c hs w.drew:=h.sC (.drew _ _)
theorem Mem.l8 {c:Cx} {l m:List bd} {w:World} (h:Mem c (l++m) w):Mem c l w:=by
 obtain ⟨k,fp,hn,hs,hb⟩:=h;obtain ⟨f1,f2,rfl,h1,h2⟩:=cr.append_iff.1 hs;exact ⟨k,f1,(ZG.1 hn).1,h1,fun b dK=>hb b (ZF _ dK)⟩
theorem Mem.xy {c:Cx} {A:bd} {l:List bd} {w:World} (h:Mem c (A::l) w):Mem c l w:=by
 obtain ⟨k,fp,hn,⟨f1,f2,rfl,h1,h2⟩,hb⟩:=h;exact ⟨k,f2,(ZG.1 hn).2.1,h2,fun b dK=>hb b (ZU _ dK)⟩
def bE (b:Nat) (o:Obj):bd where
 sat h fp:=fp=[b]/\h b=some o
 loc:=fun ⟨e,h1⟩ hb=>⟨e,by rw [hb _ (by rw [e];simp)];exact h1⟩
 own:=fun ⟨e,h1⟩ b' dK=>by rw [e] at dK;rw [ZL.1 dK];exact ⟨o,h1⟩
theorem Mem.bE {c:Cx} {hs hs':List bd} {b:Nat} {o:Obj} {w:World} (h:Mem c hs w) (ht:Take hs (bE b o) hs'):w.heap[b]? = some o:=by
 obtain ⟨_,fp,_,⟨f1,f2,_,⟨_,h1⟩,_⟩,_⟩:=h.take ht;exact h1
theorem Mem.alloc {c:Cx} {hs:List bd} {w:World} (h:Mem c hs w) (o:Obj):Mem c (SL.bE w.heap.size o::hs) (w.alloc o):=
 Mem.change (As:=[]) (Bs:=[SL.bE w.heap.size o]) h fun fp _ hf=>by
  rw [show fp=[] from hf];refine ⟨.alloc _ _ _,[w.heap.size],by simp,⟨[w.heap.size],[],I,⟨I,World.alloc_heap_new w o⟩,I⟩,by simp⟩
theorem Mem.store {c:Cx} {hs:List bd} {o o':Obj} {w w':World} (h:Mem c (SL.bE b o::hs) w) (hk:aJ [b] w w') (ho:w'.heap[b]? = some o'):Mem c (SL.bE b o'::hs) w':=
 Mem.change (As:=[SL.bE b o]) (Bs:=[SL.bE b o']) h fun fp _ hf=>by
  obtain ⟨f1,f2,e,⟨e1,_⟩,e2⟩:=hf;have:fp=[b]:=by rw [e,e1,show f2=[] from e2];rfl
  subst this;exact ⟨hk,[b],by simp,⟨[b],[],I,⟨I,ho⟩,I⟩,fun x hx=>.inl hx⟩
theorem Mem.base {c:Cx} {hs:List bd} {w:World} (h:Mem c hs w) {b:Nat} (hb:b<c.w0.heap.size) (hm:b ∉ c.md):w.heap[b]? = c.w0.heap[b]?:=h.keeps.block b hb hm
def mark (r:Nat):Deferred:={ target:=.collected r,args:=#[] }
def nB (D:List Nat):List bd:=D.map fun r=>bE r (.deferred (some []))
structure St (c:Cx) (D:List Nat) (sl:aL) (hs:List bd) (a:Act) (w:World):Prop where
 mem:Mem c (hs++nB D) w
 du:cg sl a
 size:a.tmps.size=c.nt
 defers:a.defers=D.map mark
def Tr (c:Cx) (D:List Nat) (sl:aL) (hs:List bd) (X:Act->World->Prop):Prop:=∀ a w,St c D sl hs a w->X a w
theorem St.pq {c:Cx} {sl:aL} {hs:List bd} {w:World} (h:St c D sl hs a w):Mem c hs w:=h.mem.l8
theorem St.put {c:Cx} {sl:aL} {hs:List bd} {w:World} (h:St c D sl hs a w) {d:Nat} (hd:d<c.nt) (v:Value):St c D ((d,v)::sl) hs (a.put (some d) v) w:=
 ⟨h.mem,h.du.put (by rw [h.size];exact hd) v,by simp [Act.put,h.size],h.defers⟩
theorem St.heap {c:Cx} {sl:aL} {hs hs':List bd} {w w':World} (h:St c D sl hs a w) (hm:Mem c (hs'++nB D) w'):St c D sl hs' a w':=
 ⟨hm,h.du,h.size,h.defers⟩
def FR (r:Option Nat):Fence:={ Fence.wide with round:=r }
def WP (P:Program) (r:Option Nat) (code:Code) (Q:Exit->Act->World->Prop):Act->World->Prop:=code.wpIn (FR r) 0 P Q
def WL (P:Program) (r:Option Nat) (ops:Array Oper) (Q:Exit->Act->World->Prop):List Oper->Act->World->Prop
 | [],a,w=>Q .normal a w
 | o :: rest, a, w =>
  if Region.wanted o (yielded ops a.tmps) then o.wpIn (FR r) 0 P a w (WL P r ops Q rest) Q else WL P r ops Q rest (a.put o.dst undef) w
theorem eA (r:Option Nat) (o:Oper) (P:Program) (w:World) (ρ:Operand->Value):∀ f,o.about P w ρ=some f->(FR r).fn f:=fun _ _=>trivial
theorem yf {P:Program} (l:List Oper):∀ k,(∀ j,l[j]? = ops[k+j]?)->wpOpsIn (FR r) 0 P ops Q (List.range' k l.length)=WL P r ops Q l:=by
 induction l with
 | nil=>intro k _;funext a w;simp [wpOpsIn,WL]
 | cons o l ih =>
  intro k h;have h0:ops[k]? = some o:=by simpa using (h 0).symm
  have ih':=ih (k+1) (fun j=>by have:=h (j+1);simpa [Nat.add_assoc,Nat.add_comm 1 j] using this)
  funext a w;simp only [ZA,List.range'_succ,wpOpsIn,h0,WL,ih'];split
  ·rfl
  ·simp [FR,Fence.wide]
theorem nq {P:Program} {c:Cx} {sl:aL} {hs:List bd} {l:List Oper}
  (h:Tr c D sl hs (WL P r l.toArray Q l)):Tr c D sl hs (WP P r (.region id l.toArray false) Q):=fun a w ba=>by
 unfold WP;refine wpIn_region ?_;rw [List.range_eq_range',show l.toArray.size=l.length from by simp,yf l 0 (by simp)];exact h a w ba
theorem qZ {P:Program} {c:Cx} {sl:aL} {hs:List bd} {x y:Code}
  (h:Tr c D sl hs (WP P r x (Exit.then (WP P r y Q) Q))):Tr c D sl hs (WP P r (.seq x y) Q):=fun a w ba=>wpIn_seq (h a w ba)
theorem vO {P:Program} {c:Cx} {sl:aL} {hs:List bd}
  (h:Tr c D sl hs (Q .normal)):Tr c D sl hs (WL P r ops Q []):=h
theorem vb {c:Cx} {sl:aL} {hs:List bd}
  (h:Tr c D sl hs N):Tr c D sl hs (Exit.then N Q .normal):=h
theorem Cb {c:Cx} {sl:aL} {hs:List bd}
  (h:Tr c D sl hs (Q .ret)):Tr c D sl hs (Exit.then N Q .ret):=h
theorem Aq {c:Cx} {sl:aL} {hs:List bd}
  (h:Tr c D sl hs (Q (.exit id))):Tr c D sl hs (Exit.then N Q (.exit id)):=h
theorem qP {c:Cx} {sl:aL} {hs:List bd}
  (h:Tr c D sl hs (Q .normal)):Tr c D sl hs (Exit.inBlock id Q .normal):=h
theorem Ej {c:Cx} {sl:aL} {hs:List bd}
  (h:Tr c D sl hs (Q .ret)):Tr c D sl hs (Exit.inBlock id Q .ret):=h
theorem Ck {c:Cx} {sl:aL} {hs:List bd}
  (h:Tr c D sl hs (Q .normal)):Tr c D sl hs (Exit.inBlock id Q (.exit id)):=fun a w ba=>by
 simp only [Exit.inBlock,if_true];exact h a w ba
theorem vP {c:Cx} {sl:aL} {hs:List bd} {id id':Nat} (hne:Nat.beq id' id=false)
  (h:Tr c D sl hs (Q (.exit id'))):Tr c D sl hs (Exit.inBlock id Q (.exit id')):=fun a w ba=>by
 have:¬ id'=id:=fun e=>by subst e;simp at hne
 simp only [Exit.inBlock,this,if_false];exact h a w ba
theorem Kx {P:Program} {c:Cx} {sl:aL} {hs:List bd} {x:Code}
  (h:Tr c D sl hs (WP P r x (Exit.inBlock id Q))):Tr c D sl hs (WP P r (.block id x) Q):=fun a w ba=>wpIn_block (h a w ba)
theorem F0 {P:Program} {c:Cx} {sl:aL} {hs:List bd}
  (h:Tr c D sl hs (Q .normal)):Tr c D sl hs (WP P r .skip Q):=fun a w ba=>wpIn_skip (h a w ba)
theorem OO {P:Program} {c:Cx} {sl:aL} {hs:List bd}
  (h:Tr c D sl hs (Q (.exit id))):Tr c D sl hs (WP P r (.exit id) Q):=fun a w ba=>wpIn_exit (h a w ba)
theorem Kp {P:Program} {c:Cx} {sl:aL} {hs:List bd}
  (h:Tr c D sl hs (Q .ret)):Tr c D sl hs (WP P r .ret Q):=fun a w ba=>wpIn_ret (h a w ba)
theorem F3 {P:Program} {c:Cx} {sl:aL} {hs:List bd} {b:Bool} {u v:Code} (hx:Is sl x (.bool b))
  (ht:b=true->Tr c D sl hs (WP P r u Q)) (hf:b=false->Tr c D sl hs (WP P r v Q)):Tr c D sl hs (WP P r (.cond x u v) Q):=fun a w ba=>
 wpIn_cond_split (hx a ba.du) (fun e=>ht e a w ba) (fun e=>hf e a w ba)
theorem cW {P:Program} {c:Cx} {sl:aL} {hs:List bd} {u v:Code} (hx:Is sl x (.bool true))
  (ht:Tr c D sl hs (WP P r u Q)):Tr c D sl hs (WP P r (.cond x u v) Q):=fun a w ba=>wpIn_cond_true (hx a ba.du) (ht a w ba)
theorem ch {P:Program} {c:Cx} {sl:aL} {hs:List bd} {u v:Code} (hx:Is sl x (.bool false))
  (ht:Tr c D sl hs (WP P r v Q)):Tr c D sl hs (WP P r (.cond x u v) Q):=fun a w ba=>wpIn_cond_false (hx a ba.du) (ht a w ba)
theorem Hv {P:Program} {c:Cx} {sl:aL} {hs:List bd} {p:Prop} {inst:Decidable p} {u v:Code} (hx:Is sl x (.bool (decide p)))
  (ht:p->Tr c D sl hs (WP P r u Q)) (hf:¬ p->Tr c D sl hs (WP P r v Q)):Tr c D sl hs (WP P r (.cond x u v) Q):=
 F3 hx (fun e=>ht (of_decide_eq_true e)) (fun e=>hf (of_decide_eq_false e))
theorem OM {P:Program} {c:Cx} {sl:aL} {hs:List bd} {x:Code} {ι:Type} (Φ:ι->Prop) (sI:ι->aL) (hI:ι->List bd) (μ:ι->Nat)
  (h0:Tr c D sl hs fun a w=>∃ i,Φ i/\St c D (sI i) (hI i) a w)
  (round:∀ i,Φ i->Tr c D (sI i) (hI i) (WP P r x (Exit.then (fun a w=>∃ j,Φ j/\μ j<μ i/\St c D (sI j) (hI j) a w) Q))) :
  Tr c D sl hs (WP P r (.loop x) Q):=fun a w ba=>by
 have key:∀ (n:Nat) i,μ i=n->Φ i->∀ a w,St c D (sI i) (hI i) a w->True:=fun _ _ _ _ _ _ _=>trivial
 -- a measure on abb: DZ least 'μ i' of adQ WH fit
 let fits:Act->World->Nat->Prop:=fun a w n=>∃ i,Φ i/\μ i=n/\St c D (sI i) (hI i) a w
 have least:∀ a w,(∃ n,fits a w n)->∃ n,fits a w n/\∀ m,fits a w m->n<=m:=by
  intro a w ⟨n,hn⟩
  induction n using Nat.strongRecOn with
  | _ n ih =>
   by_cases h:∃ m,m<n/\fits a w m
   ·obtain ⟨m,hm,hf⟩:=h;exact ih m hm hf
   ·exact ⟨n,hn,fun m hm=>Zbg fun aK=>h ⟨m,aK,hm⟩⟩
 let M:Act->World->Nat:=fun a w=>Classical.epsilon fun n=>fits a w n/\∀ m,fits a w m->n<=m
 have hM:∀ a w,(∃ n,fits a w n)->fits a w (M a w)/\∀ m,fits a w m->M a w<=m:=fun a w h=>Classical.epsilon_spec (least a w h)
 refine wpIn_loop (fun a w=>∃ n,fits a w n) M ?_ ?_
 ·obtain ⟨i,hi,hs⟩:=h0 a w ba;exact ⟨μ i,i,hi,I,hs⟩
 ·intro a w hI;obtain ⟨⟨i,hi,hm,hs⟩,_⟩:=hM a w hI;refine wpIn_mono (round i hi a w hs) fun e a' w' h=>?_;cases e with
  | normal =>
   obtain ⟨j,hj,aK,hs'⟩:=h;have hf:fits a' w' (μ j):=⟨j,hj,I,hs'⟩;exact ⟨⟨_,hf⟩,Nat.lt_of_le_of_lt ((hM a' w' ⟨_,hf⟩).2 _ hf) (by rw [<- hm];exact aK)⟩
  | _=>exact h
theorem nn {P:Program} {w:World} (hg:o.guard=none)
  (h:o.wpIn (FR r) 0 P a w (WL P r ops Q rest) Q):WL P r ops Q (o::rest) a w:=by
 unfold WL;rw [if_pos (by simp [Region.wanted,hg])];exact h
def di (P:Program) (c:Cx) (sl:aL) (hs:List bd) (o:Oper) (V:Value):Prop:=
 (∀ d,o.op≠.defer d)/\∀ a w,cg sl a->Mem c hs w->(execOp a.eval o).run P w=.ok (.value V) w
theorem ab {P:Program} {c:Cx} {sl:aL} {hs:List bd} {ty:TypeId} {pos:String} {af:Array Edge}
  (hr:di P c sl hs ⟨some d,op,ty,pos,af,none⟩ V) (hd:Nat.blt d c.nt=true) (k:Tr c D ((d,V)::sl) hs (WL P r ops Q rest)) :
  Tr c D sl hs (WL P r ops Q (⟨some d,op,ty,pos,af,none⟩::rest)):=fun a w ba=>by
 refine nn I ⟨eA _ _ _ _ _,?_⟩;rw [Oper.semAt_eq _ _ _ hr.1,hr.2 a w ba.du ba.pq];exact k _ _ (ba.put (by simpa [Zac] using hd) V)
theorem lN {j g:Nat} {want c0 q:Bool} {sl:aL} (hg:o.guard=some (j,want)) (hj:((ops[j]?).bind (·.dst))=some g) (hs:cg sl a) (hq:db sl g=some (gv c0 (.bool q))) :
  Region.wanted o (yielded ops a.tmps)=(c0&&(q==want)):=by
 have ht:=hs _ _ hq;simp only [Region.wanted,hg,yielded,hj,Option.bind_some,ht];cases c0 <;> cases q <;> cases want <;> rfl
theorem FZ {P:Program} {c:Cx} {sl:aL} {hs:List bd} {ty:TypeId} {pos:String} {af:Array Edge}
  {j g:Nat} {want c0 q:Bool} (hj:((ops[j]?).bind (·.dst))=some g) (hq:db sl g=some (gv c0 (.bool q)))
  (hr:(c0&&(q==want))=true->di P c sl hs ⟨some d,op,ty,pos,af,some (j,want)⟩ V) (hd:Nat.blt d c.nt=true) (k:Tr c D ((d,gv (c0&&(q==want)) V)::sl) hs (WL P r ops Q rest)) :
  Tr c D sl hs (WL P r ops Q (⟨some d,op,ty,pos,af,some (j,want)⟩::rest)):=fun a w ba=>by
 unfold WL;rw [lN I hj ba.du hq];by_cases h:(c0&&(q==want))=true
 ·rw [if_pos h];refine ⟨eA _ _ _ _ _,?_⟩;rw [Oper.semAt_eq _ _ _ (hr h).1,(hr h).2 a w ba.du ba.pq];rw [vD h] at k;exact k _ _ (ba.put (by simpa [Zac] using hd) V)
 ·rw [if_neg h];rw [xo (by simpa using h)] at k;exact k _ _ (ba.put (by simpa [Zac] using hd) undef)
theorem vM {P:Program} {c:Cx} {sl:aL} {hs:List bd} {ty:TypeId} {pos:String} {af:Array Edge}
  {j g:Nat} {want q:Bool} (hj:((ops[j]?).bind (·.dst))=some g) (hq:db sl g=some (.bool q))
  (hr:(q==want)=true->di P c sl hs ⟨some d,op,ty,pos,af,some (j,want)⟩ V) (hd:Nat.blt d c.nt=true) (k:Tr c D ((d,gv (q==want) V)::sl) hs (WL P r ops Q rest)) :
  Tr c D sl hs (WL P r ops Q (⟨some d,op,ty,pos,af,some (j,want)⟩::rest)):=
 FZ (c0:=true) hj (by rw [hq];rfl) (by simpa using hr) hd (by simpa using k)
end Go.SL
namespace Go.SL
open Go
def ln:TypeDesc->Bool
 | .struct _ | .array _ _=>true
 | _=>false
def RD (P:Program) (t:TypeId):Option (Bool×Nat):=
 match P.underlying t,P.info? t with
 | some d,some i=>some (ln d,i.size)
 | _,_=>none
class Ty (P:Program) (t:TypeId) (agg:outParam Bool) (n:outParam Nat):Prop where
 eq:RD P t=some (agg,n)
class ja (P:Program) (t:TypeId) (d:outParam TypeDesc):Prop where
 eq:P.underlying t=some d
class mn (P:Program) (t:TypeId) (v:outParam Value):Prop where
 eq:(P.info? t).map (·.zero)=some (some v)
class u6 (P:Program) (t:TypeId) (n:outParam Nat):Prop where
 eq:(P.info? t).map (·.bytes)=some n
section
variable {P:Program} {w:World} {t:TypeId}
variable {agg:Bool} {n:Nat} {v:Value} {vs:List Value}
theorem Ty.parts [h:Ty P t agg n]:∃ d i,P.underlying t=some d/\P.info? t=some i/\ln d=agg/\i.size=n:=by
 have:=h.eq;unfold RD at this;split at this
 ·rename_i d i hd hi;cases this;exact ⟨d,i,hd,hi,I,I⟩
 ·cases this
theorem aY {d:TypeDesc} (h:P.underlying t=some d):(underlying t).run P w=.ok d w:=by simp [underlying,h]
theorem gD {i:TypeInfo} (h:P.info? t=some i):(typeInfo t).run P w=.ok i w:=by simp [typeInfo,h]
theorem gp [h:Ty P t agg n]:(sizeOf t).run P w=.ok n w:=by
 obtain ⟨d,i,_,hi,_,hn⟩:=Ty.parts (P:=P) (t:=t);simp [sizeOf,gD hi,hn]
theorem wg [h:Ty P t agg n]:(isAgg t).run P w=.ok agg w:=by
 obtain ⟨d,i,hd,_,ha,_⟩:=Ty.parts (P:=P) (t:=t);unfold isAgg;rw [Sem.run_bind,aY hd,Result.andThen_ok];subst ha;cases d <;> rfl
theorem jc [h:mn P t v]:(zeroValue t).run P w=.ok v w:=by
 have:=h.eq;cases hi:P.info? t with
 | none=>rw [hi] at this;cases this
 | some i =>
  rw [hi] at this;have hz:i.zero=some v:=by simpa using this
  simp [zeroValue,gD hi,hz]
theorem AN {a:Addr} (h:w.cell? a=some v) (m:Mode):(load a m).run P w=.ok v w:=by simp [h]
theorem cell_of_block {b:Nat} {cs:Array Value} {E:TypeId} {fz:Nat×Nat} (h:w.heap[b]? = some (.cells cs E fz)) (o:Nat):w.cell? ⟨b,o,none⟩=cs[o]?:=by
 simp [World.cell?,h]
theorem eM (b o n:Nat):Addr.add ⟨b,o,none⟩ n=⟨b,o+n,none⟩:=by
 unfold Addr.add;split
 ·rename_i h;simp [h]
 ·rfl
theorem nw {b o:Nat}:∀ (n i:Nat) (acc:Array Value) (vs:List Value),vs.length=n->(∀ j v,vs[j]? = some v->w.cell? ⟨b,o+(i+j),none⟩=some v) ->
  (loadCellsFrom ⟨b,o,none⟩ i n acc).run P w=.ok (acc++vs.toArray) w
 | 0, i, acc, vs, hl, _ => by
  have:vs=[]:=Zas.1 hl;subst this;simp [loadCellsFrom]
 | n+1,i,acc,[],hl,_=>by simp at hl
 | n + 1, i, acc, v :: vs, hl, hc => by
  have h0:w.cell? (Addr.add ⟨b,o,none⟩ i)=some v:=by rw [eM];exact hc 0 v I
  simp only [loadCellsFrom,Sem.run_bind,AN h0,Result.andThen_ok];rw [nw n (i+1) (acc.push v) vs (by simpa using hl) (fun j u hu=>by
   have:=hc (j+1) u (by simpa using hu);rw [show i+1+j=i+(j+1) from by omega];exact this)]
  simp
theorem rY {b o n:Nat} (hl:vs.length=n) (hc:∀ j v,vs[j]? = some v->w.cell? ⟨b,o+j,none⟩=some v):(loadCells ⟨b,o,none⟩ n).run P w=.ok vs.toArray w:=by
 unfold loadCells;rw [nw n 0 #[] vs hl (fun j v hv=>by simpa using hc j v hv)]
 simp
theorem uk {b o n:Nat} [Ty P t false n] (hc:w.cell? ⟨b,o,none⟩=some v):(loadVar t ⟨b,o,none⟩).run P w=.ok v w:=by
 unfold loadVar;rw [Sem.run_bind,wg (agg:=false) (n:=n),Result.andThen_ok];simp [hc]
theorem o7 {b o n:Nat} [Ty P t true n] (hl:vs.length=n) (hc:∀ j v,vs[j]? = some v->w.cell? ⟨b,o+j,none⟩=some v):(loadVar t ⟨b,o,none⟩).run P w=.ok (.agg vs.toArray) w:=by
 unfold loadVar;rw [Sem.run_bind,wg (agg:=true) (n:=n),Result.andThen_ok];simp only [if_true,Sem.run_bind,gp (t:=t) (agg:=true) (n:=n),Result.andThen_ok,rY hl hc,Sem.run_pure]
end
def At (c:Cx) (hs:List bd) (b o:Nat) (v:Value):Prop:=∀ w,Mem c hs w->w.cell? ⟨b,o,none⟩=some v
variable {b:Nat} {cs:List Value} {fz:Nat×Nat} {o:Nat} {v:Value} {vs:List Value}
theorem At.bE {c:Cx} {hs hs':List bd} {cs:Array Value} {E:TypeId} (ht:Take hs (SL.bE b (.cells cs E fz)) hs') (hv:cs[o]? = some v):At c hs b o v:=
 fun w hm=>by rw [cell_of_block (hm.bE ht)];exact hv
theorem At.base {c:Cx} {hs:List bd} (h:c.w0.cell? ⟨b,o,none⟩=some v) (H4:c.md=[]):At c hs b o v:=fun w hm=>by
 have hb:b<c.w0.heap.size:=World.block_lt_of_cell? c.w0 ⟨b,o,none⟩ h;have:=hm.base hb (by rw [H4];simp);rw [<- h];simp [World.cell?,this]
theorem At.DN {c:Cx} {hs:List bd} (h:c.w0.cell? ⟨b,o,none⟩=some v) (H4:b ∉ c.md):At c hs b o v:=fun w hm=>by
 have hb:b<c.w0.heap.size:=World.block_lt_of_cell? c.w0 ⟨b,o,none⟩ h;have:=hm.base hb H4;rw [<- h];simp [World.cell?,this]
def eZ (c:Cx) (hs:List bd) (b o:Nat):List Value->Prop
 | []=>True
 | v::vs=>At c hs b o v/\eZ c hs b (o+1) vs
theorem eZ.get {c:Cx} {hs:List bd}:∀ {vs:List Value} {o:Nat},eZ c hs b o vs->∀ j v,vs[j]? = some v->At c hs b (o+j) v
 | [],_,_,j,v,h=>by simp at h
 | x :: vs, o, ⟨h0, h1⟩, j, v, h => by
  cases j with
  | zero=>simp at h;subst h;exact h0
  | succ j=>have:=eZ.get h1 j v (by simpa using h);rwa [show o+1+j=o+(j+1) from by omega] at this
theorem eZ.wG {c:Cx} {hs:List bd}:∀ {vs:List Value} {o:Nat},(∀ j v,vs[j]? = some v->At c hs b (o+j) v)->eZ c hs b o vs
 | [],_,_=>trivial
 | x::vs,o,h=>⟨h 0 x rfl,eZ.wG fun j v hv=>by have:=h (j+1) v (by simpa using hv);rwa [show o+(j+1)=o+1+j from by omega] at this⟩
theorem eZ.base {c:Cx} {hs:List bd} (h:∀ (j:Nat) (u:Value),vs[j]? = some u->c.w0.cell? ⟨b,o+j,none⟩=some u) (H4:c.md=[]):eZ c hs b o vs:=
 eZ.wG fun j u hu=>At.base (h j u hu) H4
def eK:List Value->Nat->Nat->List Value
 | _,_,0=>[]
 | [],_,_+1=>[]
 | v::r,0,n+1=>v::eK r 0 n
 | _::r,o+1,n+1=>eK r o (n+1)
theorem jP:∀ (cs:List Value) (o n:Nat),eK cs o n=(cs.drop o).take n
 | cs,o,0=>by simp [eK]
 | [],o,n+1=>by simp [eK]
 | v::r,0,n+1=>by simp [eK,jP r 0 n]
 | v::r,o+1,n+1=>by simp [eK,jP r o (n+1)]
def uU:List Value->Nat->Option Value
 | [],_=>none
 | v::_,0=>some v
 | _::r,n+1=>uU r n
theorem vw:∀ (cs:List Value) (o:Nat),uU cs o=cs[o]?
 | [],_=>by simp [uU]
 | v::_,0=>by simp [uU]
 | _::r,n+1=>by simp [uU,vw r n]
theorem At.lit {c:Cx} {hs hs':List bd} {E:TypeId} (ht:Take hs (SL.bE b (.cells cs.toArray E fz)) hs') (hv:uU cs o=some v):At c hs b o v:=
 At.bE ht (by rw [vw] at hv;simpa using hv)
theorem eZ.bE {c:Cx} {hs hs':List bd} {b o n:Nat} {E:TypeId} (ht:Take hs (SL.bE b (.cells cs.toArray E fz)) hs') (hv:eK cs o n=vs):eZ c hs b o vs:=by
 subst hv;refine eZ.wG fun j v hv=>At.bE ht ?_;simp only [jP,ZP,Zbi] at hv;split at hv
 ·simpa using hv
 ·cases hv
section
variable {P:Program} {c:Cx} {sl:aL} {hs hs':List bd} {dst:Option Tmp} {ty:TypeId} {pos:String} {af:Array Edge} {g:Option (Nat×Bool)}
variable {a:Int} {agg:Bool} {b i:Int} {k:IntKind} {n:Nat} {op:BinOp} {s:ByteArray} {v:Value} {vs:List Value} {x y:Operand}
theorem aP (hx:Is sl x v):di P c sl hs ⟨dst,.move x,ty,pos,af,g⟩ v:=
 ⟨by simp,fun a w ha _=>by simp [execOp,hx a ha]⟩
theorem cM (hx:Is sl x v):di P c sl hs ⟨dst,.assign x,ty,pos,af,g⟩ v:=
 ⟨by simp,fun a w ha _=>by simp [execOp,hx a ha]⟩
theorem vm {x y z:Operand} {q:Bool} {v u:Value} (hx:Is sl x (.bool q)) (hy:Is sl y v) (hz:Is sl z u):di P c sl hs ⟨dst,.pick x y z,ty,pos,af,g⟩ (bif q then v else u):=
 ⟨by simp,fun a w ha _=>by simp [execOp,hx a ha,hy a ha,hz a ha,asBool,cond_eq_ite]⟩
theorem bA {t:Nat} {p q:Bool} (hx:Is sl x (.bool p)) (hq:db sl t=some (gv (p==false) (.bool q))) :
  di P c sl hs ⟨dst,.pick x (.const (.bool true)) (.tmp t),ty,pos,af,g⟩ (.bool (p||q)):=
 ⟨by simp,fun a w ha _=>by
  have h2:=ha.eval hq;simp only [execOp,hx a ha,h2,asBool];cases p <;> simp [gv,Act.eval]⟩
theorem bX {t:Nat} {p q:Bool} (hx:Is sl x (.bool p)) (hq:db sl t=some (gv (p==true) (.bool q))) :
  di P c sl hs ⟨dst,.pick x (.tmp t) (.const (.bool false)),ty,pos,af,g⟩ (.bool (p&&q)):=
 ⟨by simp,fun a w ha _=>by
  have h2:=ha.eval hq;simp only [execOp,hx a ha,h2,asBool];cases p <;> simp [gv,Act.eval]⟩
theorem jS {t:Nat} {c0 p q:Bool} (hc:c0=true) (hx:Is sl x (.bool p)) (hq:db sl t=some (gv (c0&&(p==false)) (.bool q))) :
  di P c sl hs ⟨dst,.pick x (.const (.bool true)) (.tmp t),ty,pos,af,g⟩ (.bool (p||q)):=bA hx (by rw [hq,hc,Zao])
theorem gE {t:Nat} {c0 p q:Bool} (hc:c0=true) (hx:Is sl x (.bool p)) (hq:db sl t=some (gv (c0&&(p==true)) (.bool q))) :
  di P c sl hs ⟨dst,.pick x (.tmp t) (.const (.bool false)),ty,pos,af,g⟩ (.bool (p&&q)):=bX hx (by rw [hq,hc,Zao])
theorem jm {t u:TypeId} {v u' r:Value} (hx:Is sl x v) (hy:Is sl y u') (hr:∀ w,(do eqGuard op t x y v u';binOp op t v u').run P w=.ok r w) :
  di P c sl hs ⟨dst,.binOp op t x y u,ty,pos,af,g⟩ r:=
 ⟨by simp,fun a w ha _=>by
  have:=hr w;simp only [Sem.run_bind] at this;simp only [execOp,hx a ha,hy a ha,Sem.run_bind,this,Result.andThen_ok,Sem.run_pure]⟩
theorem gG {t:TypeId} {k k':IntKind} {w:World}:(eqGuard op t x y (.int k a) (.int k' b)).run P w=.ok () w:=by
 unfold eqGuard;split <;> rfl
theorem l7 {t:TypeId} {a b:ByteArray} {w:World}:(eqGuard op t x y (.string a) (.string b)).run P w=.ok () w:=by
 unfold eqGuard;split <;> rfl
theorem BA {t:TypeId} {a b:Bool} {w:World}:(eqGuard op t x y (.bool a) (.bool b)).run P w=.ok () w:=by
 unfold eqGuard;split <;> rfl
def InI (n:Int):Prop:=-9223372036854775808<=n/\n<=9223372036854775807
theorem K6 {t u:TypeId} (hx:Is sl x (.q a)) (hy:Is sl y (.q b)) (hb:InI (a+b)) :
  di P c sl hs ⟨dst,.binOp .add t x y u,ty,pos,af,g⟩ (.q (a+b)):=
 jm hx hy fun w=>by simp [gG,binOp,Op.intArith,IntWalk.i64_in _ hb]
theorem q8 {t u:TypeId} (hx:Is sl x (.q a)) (hy:Is sl y (.q b)) (hb:InI (a-b)) :
  di P c sl hs ⟨dst,.binOp .sub t x y u,ty,pos,af,g⟩ (.q (a-b)):=
 jm hx hy fun w=>by simp [gG,binOp,Op.intArith,IntWalk.i64_in _ hb]
theorem Pm {t u:TypeId} (hx:Is sl x (.int k a)) (hy:Is sl y (.int k b)) :
  di P c sl hs ⟨dst,.binOp .sub t x y u,ty,pos,af,g⟩ (.int k (k.wrap (a-b))):=
 jm hx hy fun w=>by simp [gG,binOp,Op.intArith]
theorem lh {t u:TypeId} (hx:Is sl x (.int k a)) (hy:Is sl y (.int k b)) :
  di P c sl hs ⟨dst,.binOp .lss t x y u,ty,pos,af,g⟩ (.bool (decide (a<b))):=
 jm hx hy fun w=>by simp [gG,binOp,Op.intCmp]
theorem lj {t u:TypeId} (hx:Is sl x (.int k a)) (hy:Is sl y (.int k b)) :
  di P c sl hs ⟨dst,.binOp .leq t x y u,ty,pos,af,g⟩ (.bool (decide (a<=b))):=
 jm hx hy fun w=>by simp [gG,binOp,Op.intCmp]
theorem lV {t u:TypeId} (hx:Is sl x (.int k a)) (hy:Is sl y (.int k b)) :
  di P c sl hs ⟨dst,.binOp .gtr t x y u,ty,pos,af,g⟩ (.bool (decide (b<a))):=
 jm hx hy fun w=>by simp [gG,binOp,Op.intCmp]
theorem AO {t u:TypeId} (hx:Is sl x (.int k a)) (hy:Is sl y (.int k b)) :
  di P c sl hs ⟨dst,.binOp .geq t x y u,ty,pos,af,g⟩ (.bool (decide (b<=a))):=
 jm hx hy fun w=>by simp [gG,binOp,Op.intCmp]
theorem lk {t u:TypeId} (hx:Is sl x (.int k a)) (hy:Is sl y (.int k b)) :
  di P c sl hs ⟨dst,.binOp .eql t x y u,ty,pos,af,g⟩ (.bool (decide (a=b))):=
 jm hx hy fun w=>by simp [gG,binOp,Op.intCmp];rfl
theorem jl {t u:TypeId} (hx:Is sl x (.int k a)) (hy:Is sl y (.int k b)) :
  di P c sl hs ⟨dst,.binOp .neq t x y u,ty,pos,af,g⟩ (.bool (decide (a≠b))):=
 jm hx hy fun w=>by simp [gG,binOp,Op.intCmp];rfl
theorem dN {t:TypeId} {b:Bool} (hx:Is sl x (.bool b)):di P c sl hs ⟨dst,.unOp .not t x,ty,pos,af,g⟩ (.bool (!b)):=
 ⟨by simp,fun a w ha _=>by simp [execOp,hx a ha,Op.unary]⟩
theorem vj (a b:ByteArray):(a.toList==b.toList)=decide (a=b):=by
 rw [ByteArray.toList_eq,ByteArray.toList_eq,ZaQ];simp only [beq_iff_eq,decide_eq_true_eq];constructor
 ·intro h;cases a;cases b;simp at h;rw [h]
 ·intro h;rw [h]
theorem dF {t u:TypeId} {a b:ByteArray} (hx:Is sl x (.string a)) (hy:Is sl y (.string b)) :
  di P c sl hs ⟨dst,.binOp .eql t x y u,ty,pos,af,g⟩ (.bool (decide (a=b))):=
 jm hx hy fun w=>by simp [l7,binOp,Op.stringOp,vj]
theorem fN {t u:TypeId} {a b:ByteArray} (hx:Is sl x (.string a)) (hy:Is sl y (.string b)) :
  di P c sl hs ⟨dst,.binOp .neq t x y u,ty,pos,af,g⟩ (.bool (decide (a≠b))):=
 jm hx hy fun w=>by simp [l7,binOp,Op.stringOp,vj]
theorem tE {t u:TypeId} {a b:ByteArray} (hx:Is sl x (.string a)) (hy:Is sl y (.string b)) (hb:a.size+b.size<=9223372036854775807) :
  di P c sl hs ⟨dst,.binOp .add t x y u,ty,pos,af,g⟩ (.string (a++b)):=
 jm hx hy fun w=>by
  simp [l7,binOp,Op.stringOp];omega
theorem ag {t:TypeId} {b o:Nat} [Ty P t false n] (hx:Is sl x (.pointer (some ⟨b,o,none⟩))) (hv:At c hs b o v) :
  di P c sl hs ⟨dst,.load t x,ty,pos,af,g⟩ v:=
 ⟨by simp,fun a w ha hm=>by simp [execOp,hx a ha,Instr.loadAt,Instr.sureAddr,uk (hv w hm)]⟩
theorem jA {t:TypeId} {b o:Nat} [Ty P t true n] (hx:Is sl x (.pointer (some ⟨b,o,none⟩))) (hv:eZ c hs b o vs) (hl:vs.length=n) :
  di P c sl hs ⟨dst,.load t x,ty,pos,af,g⟩ (.agg vs.toArray):=
 ⟨by simp,fun a w ha hm=>by simp [execOp,hx a ha,Instr.loadAt,Instr.sureAddr,o7 hl (fun j v h=>hv.get j v h w hm)]⟩
def Dx (P:Program) (t:TypeId) (i:Nat):Option Nat:=
 match P.underlying t with
 | some (.struct fs) => match fs[i]? with
  | some f => match P.info? f.type with
   | some fi=>if fi.size=0 then none else some f.offset
   | none=>none
  | none=>none
 | _=>none
class eQ (P:Program) (t:TypeId) (i:Nat) (o:outParam Nat):Prop where
 eq:Dx P t i=some o
theorem eQ.parts {t:TypeId} {i o:Nat} [h:eQ P t i o]:∃ fs f fi,P.underlying t=some (.struct fs)/\fs[i]? = some f/\P.info? f.type=some fi/\fi.size≠0/\f.offset=o:=by
 have:=h.eq;unfold Dx at this;split at this
 ·rename_i fs Mu;split at this
  ·rename_i f hf;split at this
   ·rename_i fi UQ;split at this
    ·cases this
    ·rename_i hz;cases this;exact ⟨fs,f,fi,Mu,hf,UQ,hz,I⟩
   ·cases this
  ·cases this
 ·cases this
theorem aq {t:TypeId} {i o:Nat} {b k q:Nat} [eQ P t i o] (hx:Is sl x (.pointer (some ⟨b,k,none⟩))) (he:k+o=q) :
  di P c sl hs ⟨dst,.fieldAddr t x i,ty,pos,af,g⟩ (.pointer (some ⟨b,q,none⟩)):=
 ⟨by simp,fun a w ha _=>by
  subst he;obtain ⟨fs,f,fi,h1,h2,h3,h4,h5⟩:=eQ.parts (P:=P) (t:=t) (i:=i);simp only [execOp,hx a ha,Instr.fieldAt,Sem.run_bind,aY h1,Result.andThen_ok,h2,Instr.sureAddr,Sem.run_pure,fieldPlace,sizeOf,gD h3,h4,if_false,eM,h5]⟩
def partOf (agg:Bool) (n:Nat) (cs:List Value) (o:Nat):Option Value:=
 bif agg then some (.agg (eK cs o n).toArray) else uU cs o
theorem Pn {t:TypeId} [Ty P t agg n] {cs:List Value} {o:Nat} {v:Value} {w:World} (h:partOf agg n cs o=some v):(part t cs.toArray o).run P w=.ok v w:=by
 unfold part;rw [Sem.run_bind,wg (agg:=agg) (n:=n),Result.andThen_ok];cases agg with
 | true =>
  simp only [partOf,cond_true,Option.some.injEq] at h;simp only [if_true,Sem.run_bind,gp (t:=t) (agg:=true) (n:=n),Result.andThen_ok,Sem.run_pure,<- h,jP];congr 2;simp [List.extract_eq_take_drop]
 | false =>
  simp only [partOf,cond_false,vw] at h;simp [h]
def fieldInfo (P:Program) (t:TypeId) (i:Nat):Option (Nat×TypeId):=
 match P.underlying t with
 | some (.struct fs)=>(fs[i]?).map fun f=>(f.offset,f.type)
 | _=>none
class FTy (P:Program) (t:TypeId) (i:Nat) (o:outParam Nat) (ft:outParam TypeId):Prop where
 eq:fieldInfo P t i=some (o,ft)
theorem CM {t ft:TypeId} {i o n:Nat} {cs:List Value} [h:FTy P t i o ft] [Ty P ft agg n] (hx:Is sl x (.agg cs.toArray)) (hv:partOf agg n cs o=some v) :
  di P c sl hs ⟨dst,.field t x i,ty,pos,af,g⟩ v:=
 ⟨by
   simp,fun a w ha _=>by
  have h1:=h.eq;unfold fieldInfo at h1;split at h1
  ·rename_i fs Mu;obtain ⟨f,hf,he⟩:=Zal.1 h1;simp only [Prod.mk.injEq] at he;obtain ⟨e1,e2⟩:=he;subst e1;subst e2;simp only [execOp,hx a ha,Instr.field,Sem.run_bind,aY Mu,Result.andThen_ok,hf,asAgg,Sem.run_pure,Pn (agg:=agg) (n:=n) hv]
  ·cases h1⟩
theorem an {t e:TypeId} {a0:Option Addr} {b o len cap q:Nat} [hu:ja P t (.slice e)] [Ty P e agg n] (hx:Is sl x (.slice a0 len cap)) (hy:Is sl y (.int k i))
  (ha:a0=some ⟨b,o,none⟩) (h0:0<=i) (h1:i<len) (he:o+i.toNat*n=q):di P c sl hs ⟨dst,.indexAddr t x y,ty,pos,af,g⟩ (.pointer (some ⟨b,q,none⟩)):=
 ⟨by simp,fun a w uB _=>by
  subst he;subst ha;simp [execOp,hx a uB,hy a uB,Instr.indexAt,asIntOf,aY hu.eq,h0,h1,gp (agg:=agg) (n:=n),eM]⟩
theorem iB {t e:TypeId} {n len:Nat} {b o q:Nat} [hu:ja P t (.array len e)] [Ty P e agg n] (hx:Is sl x (.pointer (some ⟨b,o,none⟩))) (hy:Is sl y (.int k i))
  (h0:0<=i) (h1:i<len) (he:o+i.toNat*n=q):di P c sl hs ⟨dst,.indexAddr t x y,ty,pos,af,g⟩ (.pointer (some ⟨b,q,none⟩)):=
 ⟨by simp,fun a w ha _=>by
  subst he;simp [execOp,hx a ha,hy a ha,Instr.indexAt,Instr.sureAddr,asIntOf,aY hu.eq,h0,h1,gp (agg:=agg) (n:=n),eM]⟩
theorem qm {t:TypeId} [hu:ja P t .string] (hx:Is sl x (.string s)) (hy:Is sl y (.int k i))
  (h0:0<=i) (h1:i<s.size):di P c sl hs ⟨dst,.index t x y,ty,pos,af,g⟩ (.int .u8 ((s.data.toList[i.toNat]?.getD 0).toNat:Nat)):=
 ⟨by
   simp,fun a w ha _=>by
  have aK:i.toNat<s.size:=by omega
  have hs:s[i.toNat]? = some s[i.toNat]:=getElem?_pos s i.toNat aK;have hd:s.data.toList[i.toNat]?.getD 0=s[i.toNat]:=by
   rw [ZaH,show s.data[i.toNat]? = some s.data[i.toNat] from ZaR aK]
   rfl
  simp [execOp,hx a ha,hy a ha,Instr.index,asIntOf,aY hu.eq,h0,hs,<- hd]⟩
theorem CL {f:Fn} {first captured:Array Operand} {vs us:Array Value} (h1:∀ a,cg sl a->first.map a.eval=vs) (h2:∀ a,cg sl a->captured.map a.eval=us) :
  di P c sl hs ⟨dst,.makeFunc f first captured,ty,pos,af,g⟩ (.func f vs us):=
 ⟨by simp,fun a w ha _=>by simp [execOp,h1 a ha,h2 a ha,Instr.makeFunc]⟩
theorem dJ {i:Nat} (hx:Is sl x (.tuple vs.toArray)) (hv:uU vs i=some v):di P c sl hs ⟨dst,.extract x i,ty,pos,af,g⟩ v:=
 ⟨by simp,fun a w ha _=>by simp [execOp,hx a ha,Instr.extract,<- vw,hv]⟩
theorem K4 {t:TypeId} {parts:Array (Nat×Operand)} {ps:Array (Nat×Value)} (hp:∀ a,cg sl a->(parts.map fun (i,x)=>(i,a.eval x))=ps) (hb:∀ w,(Instr.build t ps).run P w=.ok v w) :
  di P c sl hs ⟨dst,.build t parts,ty,pos,af,g⟩ v:=
 ⟨by simp,fun a w ha _=>by simp only [execOp,hp a ha,Sem.run_bind,hb w,Result.andThen_ok,Sem.run_pure]⟩
theorem bZ {t:TypeId} {e:TypeId} {b:Option Addr} {n cap:Nat} [hu:ja P t (.slice e)] (hx:Is sl x (.slice b n cap)) :
  di P c sl hs ⟨dst,.call ⟨.builtin .len,#[x],#[t]⟩,ty,pos,af,g⟩ (.q n):=
 ⟨by simp,fun a w ha _=>by simp [execOp,hx a ha,resolve,invoke,builtin,Builtin.len_,aY hu.eq,goInt]⟩
theorem fg {t:TypeId} [hu:ja P t .string] (hx:Is sl x (.string s)) :
  di P c sl hs ⟨dst,.call ⟨.builtin .len,#[x],#[t]⟩,ty,pos,af,g⟩ (.q s.size):=
 ⟨by simp,fun a w ha _=>by simp [execOp,hx a ha,resolve,invoke,builtin,Builtin.len_,aY hu.eq,goInt]⟩
theorem Pp {ts:Array TypeId} (hx:Is sl x (.int k a)) (hy:Is sl y (.int k b)) :
  di P c sl hs ⟨dst,.call ⟨.builtin .max,#[x,y],ts⟩,ty,pos,af,g⟩ (.int k (max a b)):=
 ⟨by simp,fun e w ha _=>by
  simp [execOp,hx e ha,hy e ha,resolve,invoke,builtin,Builtin.max_,Builtin.max2];simp only [Int.max_def];split <;> split <;> first | rfl | omega⟩
end
end Go.SL
namespace Go.Proofs.A1
open Go Go.SL
structure Wn where
 n:Nat
 ca:Nat->Bool
 fe:Nat->Bool
 fr:Nat->Int
 to:Nat->Int
 FA:Int
def Wn.fin (N:Wn) (p:List Nat):Int:=match p.getLast? with | none=>N.FA | some j=>N.to j
def Wn.step (N:Wn) (p:List Nat) (j:Nat):Bool:=decide (j<N.n)&&(!p.contains j&&((p.isEmpty&&N.ca j)||(N.fe j&&decide (N.fr j=N.fin p))))
def Wn.ok (N:Wn) (p:List Nat):Prop:=∀ k (h:k<p.length),N.step (p.take k) p[k]=true
theorem Wn.l6 (N:Wn) (p:List Nat) (j:Nat):N.fin (p++[j])=N.to j:=by unfold Wn.fin;rw [List.getLast?_append];rfl
theorem Wn.nW (N:Wn):N.ok []:=fun k h=>absurd h (ZN k)
variable {d:Int} {j:Nat} {p q x:List Nat}
theorem Wn.jI {N:Wn}:N.ok (p++[j])↔N.ok p/\N.step p j=true:=by
 constructor
 ·intro h;constructor
  ·intro k hk;have:=h k (by rw [Zg];omega);rwa [Zah (by omega),ZaJ hk] at this
  ·have:=h p.length (by rw [Zg];simp);rwa [Zah (Zy _),Zab (Zy _),Zav (Zy _),List.getElem_singleton] at this
 ·rintro ⟨h1,h2⟩ k hk;rw [Zg] at hk;by_cases hl:k<p.length
  ·rw [Zah (by omega),ZaJ hl];exact h1 k hl
  ·obtain rfl:k=p.length:=by simp at hk;omega
   rw [Zah (Zy _),Zab (Zy _),Zav (Zy _),List.getElem_singleton];exact h2
theorem Wn.Gt {N:Wn} (h:N.ok p) (k:Nat):N.ok (p.take k):=by
 intro i hi;rw [Zs] at hi;have:=h i (by omega);rwa [List.take_take,Zbv (by omega),ZaF]
theorem Wn.wE {N:Wn} (h:N.ok p) (hp:q <+: p):N.ok q:=by
 rw [List.prefix_iff_eq_take.1 hp];exact Wn.Gt h _
theorem Wn.qj {N:Wn} (h:N.step p j=true):j<N.n:=by
 unfold Wn.step at h;simp only [Zm,decide_eq_true_eq] at h;exact h.1
theorem Wn.vT {N:Wn} (h:N.step p j=true):j ∉ p:=by
 unfold Wn.step at h;simp only [Zm,Zbb,List.contains_eq_mem,decide_eq_false_iff_not] at h;exact h.2.1
theorem Wn.wF {N:Wn} (h:N.ok p):p.Nodup:=by
 have key:∀ k,k<=p.length->(p.take k).Nodup:=by
  intro k
  induction k with
  | zero=>intro _;rw [Ze];exact Zan
  | succ k ih =>
   intro hk;rw [Zl (by omega),ZG];refine ⟨ih (by omega),by simp,?_⟩;intro a ha b hb;rw [ZL] at hb;subst hb;intro e;subst e;exact Wn.vT (h k (by omega)) ha
 have:=key p.length (Zy _);rwa [Zab (Zy _)] at this
theorem Wn.QS (N:Wn):N.fin []=N.FA:=rfl
def Wn.sO (N:Wn) (p:List Nat):Nat:=p.countP N.fe
def lexB:List Nat->List Nat->Bool
 | x::a,y::b=>decide (x<y)||(decide (x=y)&&lexB a b)
 | _,_=>false
theorem pt:∀ a,lexB a a=false
 | []=>rfl
 | x::a=>by rw [lexB,pt a];simp
theorem rp:∀ {a b c:List Nat},lexB a b=true->lexB b c=true->lexB a c=true
 | [],_,_,h,_=>by cases h
 | _::_,[],_,h,_=>by cases h
 | _::_,_::_,[],_,h=>by cases h
 | x :: a, y :: b, z :: c, h1, h2 => by
  rw [lexB] at h1 h2 ⊢;simp only [ZT,Zm,decide_eq_true_eq] at h1 h2 ⊢;rcases h1 with h1 | ⟨h1,yE⟩ <;> rcases h2 with h2 | ⟨h2,Ic⟩
  ·exact .inl (by omega)
  ·exact .inl (by omega)
  ·exact .inl (by omega)
  ·exact .inr ⟨by omega,rp yE Ic⟩
theorem rq:∀ {a b:List Nat},a.length=b.length->a≠b->lexB a b=true\/lexB b a=true
 | [],[],_,h=>absurd rfl h
 | [],_::_,h,_=>by cases h
 | _::_,[],h,_=>by cases h
 | x :: a, y :: b, hl, h => by
  rw [lexB,lexB];simp only [ZT,Zm,decide_eq_true_eq];by_cases e:x=y
  ·subst e;rcases rq (a:=a) (b:=b) (by simpa using hl) (fun e=>h (by rw [e])) with h | h
   ·exact .inl (.inr ⟨I,h⟩)
   ·exact .inr (.inr ⟨I,h⟩)
  ·rcases Nat.lt_or_gt_of_ne e with h | h
   ·exact .inl (.inl h)
   ·exact .inr (.inl h)
def Wn.lt (N:Wn) (a b:List Nat):Bool:=decide (N.sO a<N.sO b)||(decide (N.sO a=N.sO b)&&(decide (a.length<b.length)||(decide (a.length=b.length)&&lexB a b)))
theorem Wn.lt_irrefl (N:Wn) (a:List Nat):N.lt a a=false:=by unfold Wn.lt;rw [pt];simp
theorem Wn.lt_trans {N:Wn} {a b c:List Nat} (h1:N.lt a b=true) (h2:N.lt b c=true):N.lt a c=true:=by
 unfold Wn.lt at *;simp only [ZT,Zm,decide_eq_true_eq] at *;rcases h1 with h1 | ⟨h1,h1 | ⟨yE,adv⟩⟩ <;> rcases h2 with h2 | ⟨h2,h2 | ⟨Ic,adt⟩⟩
 ·exact .inl (by omega)
 ·exact .inl (by omega)
 ·exact .inl (by omega)
 ·exact .inl (by omega)
 ·exact .inr ⟨by omega,.inl (by omega)⟩
 ·exact .inr ⟨by omega,.inl (by omega)⟩
 ·exact .inl (by omega)
 ·exact .inr ⟨by omega,.inl (by omega)⟩
 ·exact .inr ⟨by omega,.inr ⟨by omega,rp adv adt⟩⟩
theorem Wn.wN {N:Wn} {a b:List Nat} (h:a≠b):N.lt a b=true\/N.lt b a=true:=by
 unfold Wn.lt;simp only [ZT,Zm,decide_eq_true_eq];rcases Zaq (N.sO a) (N.sO b) with h1 | h1 | h1
 ·exact .inl (.inl h1)
 ·rcases Zaq a.length b.length with h2 | h2 | h2
  ·exact .inl (.inr ⟨h1,.inl h2⟩)
  ·rcases rq h2 h with h3 | h3
   ·exact .inl (.inr ⟨h1,.inr ⟨h2,h3⟩⟩)
   ·exact .inr (.inr ⟨h1.symm,.inr ⟨h2.symm,h3⟩⟩)
  ·exact .inr (.inr ⟨h1.symm,.inl h2⟩)
 ·exact .inr (.inl h1)
theorem Wn.LM {N:Wn} (h:q <+: p):q=p\/N.lt q p=true:=by
 obtain ⟨r,rfl⟩:=h;cases r with
 | nil=>exact .inl (ZJ q).symm
 | cons x r =>
  refine .inr ?_;unfold Wn.lt Wn.sO;simp only [ZT,Zm,decide_eq_true_eq];rw [List.countP_append,Zg,ZA];by_cases h0:List.countP N.fe (x::r)=0
  ·exact .inr ⟨by omega,.inl (by omega)⟩
  ·exact .inl (by omega)
def Wn.least (N:Wn) (d:Int) (p:List Nat):Prop:=N.ok p/\N.fin p=d/\∀ q,N.ok q->N.fin q=d->N.lt q p=false
theorem Wn.EU {N:Wn} (hp:N.least d p) (hq:N.least d q):p=q:=by
 by_cases h:p=q
 ·exact h
 ·rcases Wn.wN (N:=N) h with h | h
  ·rw [hq.2.2 p hp.1 hp.2.1] at h;cases h
  ·rw [hp.2.2 q hq.1 hq.2.1] at h;cases h
def Wn.all (N:Wn) (d:Int):Nat->List Nat->List (List Nat)
 | 0,_=>[]
 | k+1,p=>(if N.fin p=d then [p] else [])++((List.range N.n).filter (N.step p)).flatMap fun j=>N.all d k (p++[j])
theorem Wn.vu {N:Wn}:∀ {k:Nat} {p:List Nat},N.ok p->q∈N.all d k p->N.ok q/\N.fin q=d
 | 0,_,_,h=>by cases h
 | k + 1, p, ho, h => by
  rw [Wn.all,Zz] at h;rcases h with h | h
  ·split at h
   ·rw [ZL] at h;subst h;exact ⟨ho,‹_›⟩
   ·cases h
  ·obtain ⟨j,hj,h⟩:=List.mem_flatMap.1 h;exact Wn.vu (Wn.jI.2 ⟨ho,(Zr.1 hj).2⟩) h
theorem Wn.BO {N:Wn}:∀ {k:Nat} {p r:List Nat},N.ok (p++r)->N.fin (p++r)=d->r.length<k->p++r∈N.all d k p
 | 0,_,_,_,_,h=>absurd h (ZN _)
 | k + 1, p, [], ho, hf, _ => by
  rw [ZJ] at *;rw [Wn.all,if_pos hf];simp
 | k + 1, p, j :: r, ho, hf, hk => by
  have e:p++j::r=(p++[j])++r:=by simp
  rw [e] at ho hf ⊢;have h1:=Wn.wE ho (ZaU (p++[j]) r);have h2:=(Wn.jI.1 h1).2;rw [Wn.all,Zz];refine .inr (List.mem_flatMap.2 ⟨j,Zr.2 ⟨ZW.2 (Wn.qj h2),h2⟩,?_⟩);exact Wn.BO ho hf (by rw [ZA] at hk;omega)
def Wn.VS (N:Wn) (x:List Nat):List Nat:=(List.range N.n).filter (N.step x)
def Wn.exts (N:Wn) (x:List Nat):List (List Nat):=(N.VS x).map fun j=>x++[j]
structure Wn.Inv (N:Wn) (d:Int) (Q:List (List Nat)):Prop where
 ok:∀ q∈Q,N.ok q/\q≠[]
 cover:∀ p,N.ok p->N.fin p=d->∃ q∈Q,q <+: p
theorem Wn.HX {N:Wn} (h:N.FA≠d) {Q:List (List Nat)} (hQ:∀ q,q∈Q↔q∈N.exts []):N.Inv d Q:=by
 constructor
 ·intro q hq;obtain ⟨j,hj,rfl⟩:=Zx.1 ((hQ q).1 hq);exact ⟨Wn.jI.2 ⟨N.nW,(Zr.1 hj).2⟩,by simp⟩
 ·intro p hp hf;cases p with
  | nil=>exact absurd hf h
  | cons j r =>
   have h1:N.ok ([]++[j]):=Wn.wE hp ⟨r,I⟩;have h2:=(Wn.jI.1 h1).2;exact ⟨[j],(hQ _).2 (Zx.2 ⟨j,Zr.2 ⟨ZW.2 (Wn.qj h2),h2⟩,I⟩),⟨r,I⟩⟩
theorem Wn.HW {N:Wn} {Q:List (List Nat)} (h:N.Inv d Q) (hx:x∈Q) (hm:∀ q∈Q,N.lt q x=false) (hf:N.fin x=d):N.least d x:=by
 refine ⟨(h.ok x hx).1,hf,fun q hq hfq=>?_⟩;obtain ⟨c,hc,hp⟩:=h.cover q hq hfq;have h0:=hm c hc;rcases Wn.LM (N:=N) hp with e | e
 ·rwa [<- e]
 ·cases hb:N.lt q x with
  | false=>rfl
  | true=>rw [Wn.lt_trans e hb] at h0;exact h0
theorem Wn.L6 {N:Wn} {Q R:List (List Nat)} (h:N.Inv d Q) (hQ:∀ q,q∈Q↔q=x\/q∈R) (hf:N.fin x≠d):N.Inv d (R++N.exts x):=by
 have hx:=h.ok x ((hQ x).2 (.inl I));constructor
 ·intro q hq;rcases Zz.1 hq with hq | hq
  ·exact h.ok q ((hQ q).2 (.inr hq))
  ·obtain ⟨j,hj,rfl⟩:=Zx.1 hq;exact ⟨Wn.jI.2 ⟨hx.1,(Zr.1 hj).2⟩,by simp⟩
 ·intro p hp B0;obtain ⟨c,hc,r,rfl⟩:=h.cover p hp B0;rcases (hQ c).1 hc with rfl | hc
  ·cases r with
   | nil=>rw [ZJ] at B0;exact absurd B0 hf
   | cons j r =>
    have e:c++j::r=(c++[j])++r:=by simp
    rw [e] at hp ⊢;have h2:=(Wn.jI.1 (Wn.wE hp (ZaU (c++[j]) r))).2;exact ⟨c++[j],Zz.2 (.inr (Zx.2 ⟨j,Zr.2 ⟨ZW.2 (Wn.qj h2),h2⟩,I⟩)),⟨r,I⟩⟩
  ·exact ⟨c,Zz.2 (.inl hc),⟨r,I⟩⟩
theorem Wn.L5 {N:Wn} (h:N.Inv d []):∀ p,N.ok p->N.fin p≠d:=fun p hp hf=>by
 obtain ⟨q,hq,_⟩:=h.cover p hp hf;cases hq
theorem lO:∀ (n:Nat) (l:List Nat),l.Nodup->(∀ x∈l,x<n)->l.length<=n
 | 0, l, _, h => by
  cases l with
  | nil=>exact Zy _
  | cons x l=>exact absurd (h x (by simp)) (ZN _)
 | n + 1, l, hn, h => by
  have:=lO n (l.erase n) (hn.erase n) fun x hx=>by
   have h1:=h x (List.mem_of_mem_erase hx);have h2:=(List.Nodup.mem_erase_iff hn).1 hx;omega
  by_cases hm:n∈l
  ·rw [ZaW hm] at this;omega
  ·rw [List.erase_of_not_mem hm] at this;omega
theorem Wn.sq {N:Wn} (h:N.ok p):∀ x∈p,x<N.n:=by
 intro x hx;obtain ⟨k,hk,rfl⟩:=Zw hx;exact Wn.qj (h k hk)
theorem Wn.rk {N:Wn} (h:N.ok p):p.length<=N.n:=lO _ _ (Wn.wF h) (Wn.sq h)
theorem Wn.PK {N:Wn} (h:N.ok x):x.length+(N.VS x).length<=N.n:=by
 rw [<- Zg];refine lO _ _ ?_ ?_
 ·rw [ZG];refine ⟨Wn.wF h,(Zbz).filter _,?_⟩;intro a ha b hb e;subst e;exact Wn.vT (Zr.1 hb).2 ha
 ·intro y hy;rcases Zz.1 hy with hy | hy
  ·exact Wn.sq h y hy
  ·exact ZW.1 (Zr.1 hy).1
def qO:Nat->Nat
 | 0=>1
 | m+1=>1+(m+1)*qO m
theorem yV:∀ m,1<=qO m
 | 0=>Zy _
 | m+1=>by rw [qO];omega
def Wn.wt (N:Wn):List (List Nat)->Nat
 | []=>0
 | q::Q=>qO (N.n-q.length)+N.wt Q
theorem Wn.yP (N:Wn):∀ A B,N.wt (A++B)=N.wt A+N.wt B
 | [],B=>by rw [Za,Wn.wt,ZD]
 | q::A,B=>by rw [Zb,Wn.wt,Wn.wt,Wn.yP N A B,Nat.add_assoc]
theorem Wn.FL {N:Wn} {A B:List (List Nat)} (h:A.Perm B):N.wt A=N.wt B:=by
 induction h with
 | nil=>rfl
 | cons x _ ih=>rw [Wn.wt,Wn.wt,ih]
 | swap x y l=>rw [Wn.wt,Wn.wt,Wn.wt,Wn.wt];omega
 | trans _ _ h1 h2=>rw [h1,h2]
theorem Wn.JO (N:Wn):∀ Q:List (List Nat),Q.length<=N.wt Q
 | []=>Zy _
 | q::Q=>by rw [Wn.wt,ZA];have:=N.JO Q;have:=yV (N.n-q.length);omega
theorem Wn.Ec (N:Wn) (x:List Nat):∀ l:List Nat,N.wt (l.map fun j=>x++[j])=l.length*qO (N.n-(x.length+1))
 | []=>by rw [Zf,Wn.wt,Zaa,Zbo]
 | j :: l => by
  rw [Z3,Wn.wt,N.Ec x l,Zg,show (j::l).length=l.length+1 from I,Zai];show qO (N.n-(x.length+1))+_=_;omega
theorem Wn.Oz {N:Wn} (h:N.ok x):N.wt (N.exts x)<qO (N.n-x.length):=by
 unfold Wn.exts;rw [Wn.Ec];have hf:=Wn.PK h;by_cases h0:(N.VS x).length=0
 ·rw [h0,Zbo];exact yV _
 ·obtain ⟨m,hm⟩:∃ m,N.n-x.length=m+1:=⟨N.n-x.length-1,by omega⟩;rw [hm,show N.n-(x.length+1)=m by omega,qO];have:=Z7 (qO m) (show (N.VS x).length<=m+1 by omega);omega
end Go.Proofs.A1
namespace Go.Proofs.A1
def cn (h:Bool) (e:Int):Int:=bif h then e else 0
theorem bT {h:Bool} {e:Int} (he:e≠0):cn h e=0↔h=false:=by cases h <;> simp [cn,he]
def fK (n l m:Int):Int:=cn (decide (n<l)||decide (m<n)) 3
theorem gZ {n l m:Int}:fK n l m=0↔l<=n/\n<=m:=by
 unfold fK;rw [bT (by decide)];simp
def aZ:List Int->Int
 | []=>0
 | e::r=>if e≠0 then e else aZ r
theorem cz:∀ {l:List Int},aZ l=0↔∀ e∈l,e=0
 | []=>by simp [aZ]
 | e :: r => by
  unfold aZ;by_cases h:e=0
  ·simp [h,cz (l:=r)]
  ·simp [h]
variable {f:Nat->Int} {k n:Nat} {s:ByteArray}
theorem tX {es:List Int} (h:k<es.length):aZ (es.drop k)=if es[k]≠0 then es[k] else aZ (es.drop (k+1)):=by
 rw [List.drop_eq_getElem_cons h];rfl
def rA (f:Nat->Int):Nat->Nat->Int
 | _,0=>0
 | k,n+1=>if f k≠0 then f k else rA f (k+1) n
def jd (f:Nat->Int) (n:Nat):Int:=rA f 0 n
theorem zQ {f:Nat->Int}:∀ {n k:Nat},rA f k n=0↔∀ i,k<=i->i<k+n->f i=0
 | 0,k=>by simp only [rA,true_iff];intro i h1 h2;omega
 | n + 1, k => by
  unfold rA;by_cases h:f k=0
  ·rw [if_neg (by simpa using h),zQ];constructor
   ·intro g i h1 h2;by_cases e:i=k
    ·rw [e];exact h
    ·exact g i (by omega) (by omega)
   ·intro g i h1 h2;exact g i (by omega) (by omega)
  ·rw [if_pos h];constructor
   ·intro e;exact absurd e h
   ·intro g;exact absurd (g k (Nat.le_refl _) (by omega)) h
theorem dQ :jd f n=0↔∀ i,i<n->f i=0:=by
 unfold jd;rw [zQ];constructor
 ·intro g i h;exact g i (Nat.zero_le _) (by omega)
 ·intro g i _ h;exact g i (by omega)
theorem xw {f:Nat->Int}:∀ {n k j:Nat},(∀ i,k<=i->i<j->f i=0)->k<=j->j<k+n->f j≠0->rA f k n=f j
 | 0,k,j,_,h1,h2,_=>by omega
 | n + 1, k, j, h, h1, h2, h3 => by
  unfold rA;by_cases e:k=j
  ·subst e;rw [if_pos h3]
  ·rw [if_neg (by simpa using h k (Nat.le_refl _) (by omega))];exact xw (fun i h4 h5=>h i (by omega) h5) (by omega) (by omega) h3
theorem eV {n j:Nat} (h:∀ i,i<j->f i=0) (hj:j<n) (hn:f j≠0):jd f n=f j:=
 xw (fun i _ h2=>h i h2) (Nat.zero_le _) (by omega) hn
theorem Fl {f g:Nat->Int} (h:∀ j,j<n->(∀ i,i<j->f i=0)->f j=g j):jd f n=jd g n:=by
 by_cases hf:∀ i,i<n->f i=0
 ·rw [dQ.2 hf];symm;refine dQ.2 fun i hi=>?_;rw [<- h i hi fun k hk=>hf k (by omega)]
  exact hf i hi
 ·have:∃ j,j<n/\f j≠0/\∀ i,i<j->f i=0:=by
   apply Classical.byContradiction;intro hc;apply hf;intro i
   induction i using Nat.strongRecOn with
   | _ i ih =>
    intro hi;apply Classical.byContradiction;intro hne;exact hc ⟨i,hi,hne,fun k hk=>ih k hk (by omega)⟩
  obtain ⟨j,hj,hne,hb⟩:=this;rw [eV hb hj hne,h j hj hb];symm;have he:=h j hj hb;refine eV (fun i hi=>?_) hj (by rw [<- he];exact hne);rw [<- h i (by omega) fun k hk=>hb k (by omega)]
  exact hb i hi
def bt (s:ByteArray) (i:Nat):Int:=((s.data.toList[i]?.getD 0).toNat:Nat)
def HV (c:Int):Bool:=(decide (65<=c)&&decide (c<=90))||(decide (97<=c)&&decide (c<=122))
def Xf (c:Int):Bool:=decide (48<=c)&&decide (c<=57)
def okB (c:Int):Bool:=HV c||Xf c||decide (c=95)
def okF (s:ByteArray) (k:Nat):Bool:=(List.range' k (s.size-k)).all fun i=>okB (bt s i)
theorem A3 (h:k<s.size):okF s k=(okB (bt s k)&&okF s (k+1)):=by
 unfold okF;rw [show s.size-k=(s.size-(k+1))+1 by omega,List.range'_succ]
 rfl
theorem Gu (h:s.size<=k):okF s k=true:=by
 unfold okF;rw [show s.size-k=0 by omega];rfl
def kR (s:ByteArray):Bool:=decide (0<s.size)&&decide (s.size<=24)&&HV (bt s 0)&&okF s 1
def nmF (s:ByteArray):Int:=cn (!kR s) 8
end Go.Proofs.A1
namespace Go.Proofs.A1
open Go Go.SL
structure Sr where
 nm:ByteArray
 mx:Int
 deriving DecidableEq
structure De where
 nm:ByteArray
 mx:Int
 pr:Bool
 deriving DecidableEq
structure Ti where
 nm:ByteArray
 fr:Int
 to:Int
 deriving DecidableEq
structure Po where
 lv:Int
 ou:ByteArray
 ip:ByteArray
 deriving DecidableEq
structure Ro where
 lv:Int
 ma:Int
 sr:List Sr
 de:List De
 ti:List Ti
 po:List Po
 deriving DecidableEq
def Fz (v:Int) (o:ByteArray) (p:Po):Bool:=decide (p.lv=v)&&decide (p.ou=o)
def yr (v:Int) (i:ByteArray) (p:Po):Bool:=decide (p.lv=v)&&decide (p.ip=i)
def eD (po:List Po) (v:Int) (o:ByteArray):Option ByteArray:=(po.find? (Fz v o)).map Po.ip
def nf (po:List Po) (v:Int) (i:ByteArray):Bool:=po.any (yr v i)
def gL (po:List Po) (v:Int) (o:ByteArray):Bool:=(eD po v o).isSome
def fJ (po:List Po) (v:Int):Nat->ByteArray->List ByteArray
 | 0,_=>[]
 | k + 1, o => match eD po v o with
  | none=>[]
  | some i=>i::fJ po v k i
variable {D T:List ByteArray} {i:ByteArray} {k:Nat} {l:List ByteArray} {o s:ByteArray} {v:Int} {x:ByteArray}
theorem xG {po:List Po} (h:eD po v o=none):∀ k,fJ po v k o=[]
 | 0=>rfl
 | k+1=>by rw [fJ,h]
theorem nD {po:List Po} (h:eD po v o=some i) (k:Nat):fJ po v (k+1) o=i::fJ po v k i:=by rw [fJ,h]
theorem kM (po:List Po) (v:Int):∀ k o,(fJ po v k o).length<=k
 | 0,_=>Zy _
 | k + 1, o => by
  rw [fJ];split
  ·exact Zi _
  ·rw [ZA];have:=kM po v k ‹_›;omega
theorem DL {po:List Po} {v:Int}:∀ {k:Nat} {o:ByteArray},(fJ po v k o).length<k->∀ m,k<=m->fJ po v m o=fJ po v k o
 | 0,_,h,_,_=>absurd h (ZN _)
 | k + 1, o, h, m, hm => by
  obtain ⟨m,rfl⟩:∃ j,m=j+1:=⟨m-1,by omega⟩;rw [fJ,fJ];cases hi:eD po v o with
  | none=>rfl
  | some i =>
   rw [fJ,hi,ZA] at h;show i::_=i::_;rw [DL (k:=k) (by omega) m (by omega)]
theorem DK {po:List Po} {v:Int}:∀ {k m:Nat} {o:ByteArray},k<=m->(fJ po v m o).take k=fJ po v k o
 | 0,_,_,_=>by rw [Ze];rfl
 | k + 1, m, o, h => by
  obtain ⟨m,rfl⟩:∃ j,m=j+1:=⟨m-1,by omega⟩;rw [fJ,fJ];cases eD po v o with
  | none=>rfl
  | some i =>
   show (i::fJ po v m i).take (k+1)=i::fJ po v k i;rw [List.take_succ_cons,DK (by omega)]
def mM (po:List Po) (v:Int):Nat->ByteArray->Option ByteArray
 | 0,o=>some o
 | k+1,o=>(eD po v o).bind (mM po v k)
theorem kJ {po:List Po} {v:Int}:∀ {a b:Nat} {o:ByteArray},mM po v (a+b) o=(mM po v a o).bind (mM po v b)
 | 0,b,o=>by rw [ZD];rfl
 | a + 1, b, o => by
  rw [show a+1+b=(a+b)+1 by omega,mM,mM];cases eD po v o with
  | none=>rfl
  | some i=>exact kJ
theorem ij {po:List Po} {a b:Nat} (h:a<=b) (hb:(mM po v b o).isSome=true):(mM po v a o).isSome=true:=by
 obtain ⟨c,rfl⟩:∃ c,b=a+c:=⟨b-a,by omega⟩;rw [kJ] at hb;cases h1:mM po v a o with
 | none=>rw [h1] at hb;cases hb
 | some x=>rfl
theorem om {po:List Po} {v:Int}:∀ {k:Nat} {o:ByteArray} {j:Nat},j<k->(fJ po v k o)[j]? = mM po v (j+1) o
 | 0,_,_,h=>absurd h (ZN _)
 | k + 1, o, j, h => by
  rw [fJ,mM];cases eD po v o with
  | none=>rfl
  | some i =>
   cases j with
   | zero=>rfl
   | succ j =>
    show (i::fJ po v k i)[j+1]? = mM po v (j+1) i;rw [ZaZ,om (by omega)]
theorem rD {po:List Po}:(fJ po v k o).length=k↔(mM po v k o).isSome=true:=by
 cases k with
 | zero=>exact ⟨fun _=>rfl,fun _=>rfl⟩
 | succ k =>
  rw [<- om (Nat.lt_add_one k)];have:=kM po v (k+1) o;constructor
  ·intro h;rw [Zc (by omega)];rfl
  ·intro h;apply Classical.byContradiction;intro hn;rw [Zak (by omega)] at h;cases h
theorem vt {po:List Po}:x∈fJ po v k o↔∃ j,j<k/\mM po v (j+1) o=some x:=by
 constructor
 ·intro h;obtain ⟨j,hj,e⟩:=Zw h;have hk:=kM po v k o;refine ⟨j,by omega,?_⟩;rw [<- om (by omega:j<k),Zc hj,e]
 ·rintro ⟨j,hj,e⟩;rw [<- om hj] at e;exact Z5 e
theorem zy {α:Type} [DecidableEq α]:∀ {X T:List α},X.Nodup->(∀ x∈X,x∈T)->X.length<=T.length
 | [],_,_,_=>Zi _
 | x :: X, T, hn, h => by
  have hx:=h x (by simp);rw [List.nodup_cons] at hn;have:=zy (X:=X) (T:=T.erase x) hn.2 fun y hy=>(List.mem_erase_of_ne (a:=y) (b:=x) (fun e=>by rw [e] at hy;exact hn.1 hy)).2 (h y (ZM _ hy))
  rw [ZaW hx] at this;have:=List.length_pos_of_mem hx;rw [ZA];omega
theorem HN {α:Type} [DecidableEq α] {X:List α} (h:¬ X.Nodup):∃ i j,∃ (hi:i<X.length) (hj:j<X.length),i<j/\X[i]=X[j]:=by
 apply Classical.byContradiction;intro hn;apply h;rw [List.nodup_iff_pairwise_ne,Zad];intro i j hi hj yy e;exact hn ⟨i,j,hi,hj,yy,e⟩
theorem Fp {po:List Po} (hT:∀ o i,eD po v o=some i->(eD po v i).isSome=true->i∈T) {o:ByteArray} (ho:(mM po v (T.length+2) o).isSome=true\/o∈T/\(mM po v (T.length+1) o).isSome=true):∃ t∈T,t∈fJ po v (T.length+1) t:=by
 obtain ⟨s,hs,eO⟩:∃ s,(mM po v (s+T.length+1) o).isSome=true/\∀ k,k<=T.length->∃ x,mM po v (s+k) o=some x/\x∈T:=by
  rcases ho with ho | ⟨hoT,ho⟩
  ·refine ⟨1,by rw [show 1+T.length+1=T.length+2 by omega];exact ho,fun k hk=>?_⟩;have h0:=ij (a:=k) (by omega) ho;have h1:=ij (a:=1+k) (by omega) ho;have h2:=ij (a:=1+k+1) (by omega) ho;obtain ⟨y,hy⟩:=Zag.1 h0;obtain ⟨x,hx⟩:=Zag.1 h1;refine ⟨x,hx,hT y x ?_ ?_⟩
   ·rw [show 1+k=k+1 by omega,kJ,hy] at hx;simpa [mM] using hx
   ·rw [kJ,hx] at h2;simpa [mM] using h2
  ·refine ⟨0,by rw [ZD];exact ho,fun k hk=>?_⟩;rw [ZD];cases k with
   | zero=>exact ⟨o,rfl,hoT⟩
   | succ k =>
    have h0:=ij (a:=k) (by omega) ho;have h1:=ij (a:=k+1) (by omega) ho;have h2:=ij (a:=k+1+1) (by omega) ho;obtain ⟨y,hy⟩:=Zag.1 h0;obtain ⟨x,hx⟩:=Zag.1 h1;refine ⟨x,hx,hT y x ?_ ?_⟩
    ·rw [kJ,hy] at hx;simpa [mM] using hx
    ·rw [kJ,hx] at h2;simpa [mM] using h2
 let X:=(List.range (T.length+1)).map fun k=>(mM po v (s+k) o).getD ⟨#[]⟩
 have hXl:X.length=T.length+1:=by simp [X]
 have hX:∀ k (h:k<X.length),mM po v (s+k) o=some X[k]:=fun k h=>by
  obtain ⟨x,hx,_⟩:=eO k (by omega);simp [X,hx]
 have hn:¬ X.Nodup:=fun hn=>by
  have:=zy (T:=T) hn fun x hx=>by
   obtain ⟨k,hk,rfl⟩:=Zw hx;obtain ⟨y,hy,hyT⟩:=eO k (by omega);rw [hX k hk] at hy;cases hy;exact hyT
  omega
 obtain ⟨i,j,hi,hj,yy,e⟩:=HN hn;have h1:=hX i hi;have h2:=hX j hj;obtain ⟨y,hy,hyT⟩:=eO i (by omega);rw [h1] at hy;cases hy;refine ⟨X[i],hyT,vt.2 ⟨j-i-1,by omega,?_⟩⟩;rw [show s+j=(s+i)+(j-i-1+1) by omega,kJ,h1] at h2;rw [e];rw [e] at h2;exact h2
theorem Rb {po:List Po} {m:Nat} {t:ByteArray} (h:t∈fJ po v m t):∀ k,(mM po v k t).isSome=true:=by
 obtain ⟨j,_,hj⟩:=vt.1 h;have key:∀ n,mM po v (n*(j+1)) t=some t:=fun n=>by
  induction n with
  | zero=>rw [Zbo];rfl
  | succ n ih=>rw [Zai,kJ,ih];exact hj
 intro k;refine ij (b:=k*(j+1)) (Nat.le_mul_of_pos_right _ (by omega)) ?_;rw [key];rfl
theorem Nb {po:List Po} (hT:∀ o i,eD po v o=some i->(eD po v i).isSome=true->i∈T) (h6:T.length<=6):(∃ t∈T,t∈fJ po v (T.length+1) t)↔∃ t∈T,(fJ po v 7 t).length=7:=by
 constructor
 ·rintro ⟨t,ht,h⟩;exact ⟨t,ht,rD.2 (Rb h 7)⟩
 ·rintro ⟨t,ht,h⟩;exact Fp hT (.inr ⟨ht,ij (b:=7) (by omega) (rD.1 h)⟩)
theorem qz {po:List Po} (hT:∀ o i,eD po v o=some i->(eD po v i).isSome=true->i∈T) (hc:¬ ∃ t∈T,t∈fJ po v (T.length+1) t) (o:ByteArray) {m:Nat} (hm:T.length+1<=m):fJ po v m o=fJ po v (T.length+1) o:=by
 have h2:(fJ po v (T.length+2) o).length<T.length+2:=by
  have h0:=kM po v (T.length+2) o;rcases Zbt (fJ po v (T.length+2) o).length (T.length+2) with h | h
  ·exact h
  ·exact absurd (Fp hT (.inl (rD.1 (show (fJ po v (T.length+2) o).length=T.length+2 by omega)))) hc
 have h3:fJ po v (T.length+1) o=fJ po v (T.length+2) o:=by
  rw [<- DK (o:=o) (by omega:T.length+1<=T.length+2),Zab (by omega)]
 rcases Zbt m (T.length+2) with h | h
 ·rw [show m=T.length+1 by omega]
 ·rw [DL h2 m h,h3]
def bC:List ByteArray->ByteArray->Int
 | [],_=>-1
 | x::l,s=>if x=s then 0 else if bC l s<0 then -1 else bC l s+1
theorem MS (l:List ByteArray) (s:ByteArray):-1<=bC l s:=by
 induction l with
 | nil=>exact Int.le_refl _
 | cons x l ih =>
  rw [bC];split
  ·omega
  ·split <;> omega
theorem cH :bC l s<0↔s ∉ l:=by
 induction l with
 | nil=>simp [bC]
 | cons x l ih =>
  rw [bC,ZS,not_or];by_cases e:x=s
  ·rw [if_pos e];constructor
   ·intro h;omega
   ·intro h;exact absurd e.symm h.1
  ·rw [if_neg e];by_cases h:bC l s<0
   ·rw [if_pos h];exact ⟨fun _=>⟨fun q=>e q.symm,ih.1 h⟩,fun _=>by omega⟩
   ·rw [if_neg h];exact ⟨fun q=>by have:=MS l s;omega,fun q=>absurd (ih.2 q.2) h⟩
theorem rz:∀ {l:List ByteArray} {s:ByteArray} {i:Nat} (h:i<l.length),l[i]=s->(∀ j (hj:j<i),l[j]'(by omega)≠s)->bC l s=(i:Nat)
 | x::l,s,0,_,e,_=>by rw [bC,if_pos (show x=s from e)];rfl
 | x :: l, s, i + 1, h, e, hb => by
  have h0:x≠s:=hb 0 (by omega);have ih:=rz (l:=l) (s:=s) (i:=i) (by rw [ZA] at h;omega) e fun j hj=>hb (j+1) (by omega)
  rw [bC,if_neg h0,ih,if_neg (by omega)];omega
theorem Bw (h:∀ j (hj:j<l.length),l[j]≠s):bC l s = -1:=by
 have h1:=MS l s;have h2:bC l s<0:=cH.2 fun hm=>by
  obtain ⟨j,hj,e⟩:=Zw hm;exact h j hj e
 omega
theorem fD (h:0<=bC l s):∃ hl:(bC l s).toNat<l.length,l[(bC l s).toNat]=s:=by
 induction l with
 | nil=>simp [bC] at h
 | cons x l ih =>
  by_cases e:x=s
  ·have:bC (x::l) s=0:=by rw [bC,if_pos e]
   rw [this];exact ⟨Nat.zero_lt_succ _,e⟩
  ·by_cases h0:bC l s<0
   ·rw [bC,if_neg e,if_pos h0] at h;omega
   ·obtain ⟨hl,hg⟩:=ih (by omega);have:bC (x::l) s=bC l s+1:=by rw [bC,if_neg e,if_neg h0]
    have e1:(bC (x::l) s).toNat=(bC l s).toNat+1:=by rw [this];omega
    have key:∀ n,n=(bC l s).toNat+1->∃ hl:n<(x::l).length,(x::l)[n]=s:=fun n hn=>by
     subst hn;exact ⟨by rw [ZA];omega,hg⟩
    exact key _ e1
def cK (r:Ro):List ByteArray:=r.sr.map Sr.nm
def cE (r:Ro):List ByteArray:=r.de.map De.nm
def cQ (r:Ro):List ByteArray:=r.ti.map Ti.nm
def eL (r:Ro):List ByteArray:=cK r++cE r++cQ r
def eE (r:Ro) (s:ByteArray):Int:=if 0<=bC (cE r) s then bC (cE r) s else if 0<=bC (cQ r) s then (r.de.length:Nat)+bC (cQ r) s else -1
def kP (r:Ro) (s:ByteArray):Int:=if 0<=bC (cE r) s then (r.de.getD (bC (cE r) s).toNat ⟨⟨#[]⟩,0,false⟩).mx else if 0<=bC (cQ r) s then (r.ti.getD (bC (cQ r) s).toNat ⟨⟨#[]⟩,0,0⟩).fr else -1
def kq (r:Ro) (s:ByteArray):Int:=if 0<=bC (cK r) s then (r.sr.getD (bC (cK r) s).toNat ⟨⟨#[]⟩,0⟩).mx else if 0<=bC (cQ r) s then (r.ti.getD (bC (cQ r) s).toNat ⟨⟨#[]⟩,0,0⟩).to else -1
theorem Lp {r:Ro}:eE r s<0↔s ∉ cE r/\s ∉ cQ r:=by
 unfold eE;by_cases h1:bC (cE r) s<0
 ·rw [if_neg (by omega)];by_cases h2:bC (cQ r) s<0
  ·rw [if_neg (by omega)];exact ⟨fun _=>⟨cH.1 h1,cH.1 h2⟩,fun _=>by omega⟩
  ·rw [if_pos (by omega)];exact ⟨fun h=>by omega,fun h=>absurd (cH.2 h.2) h2⟩
 ·rw [if_pos (by omega)];exact ⟨fun h=>absurd h h1,fun h=>absurd (cH.2 h.1) h1⟩
def th (po:List Po):Prop:=∀ p∈po,∀ q∈po,p.lv=q.lv->p.ou=q.ou->p=q
theorem th.filter {po:List Po} (h:th po) (f:Po->Bool):th (po.filter f):=fun p hp q hq=>h p (Zr.1 hp).1 q (Zr.1 hq).1
theorem fG {po:List Po} (h:eD po v o=some i):∃ p∈po,p.lv=v/\p.ou=o/\p.ip=i:=by
 unfold eD at h;obtain ⟨p,hp,e⟩:=Zal.1 h;have h1:=List.find?_some hp;unfold Fz at h1;rw [Zm,decide_eq_true_eq,decide_eq_true_eq] at h1;exact ⟨p,List.mem_of_find?_eq_some hp,h1.1,h1.2,e⟩
theorem lG {po:List Po} (h1:th po) {p:Po} (hp:p∈po):eD po p.lv p.ou=some p.ip:=by
 cases h:po.find? (Fz p.lv p.ou) with
 | none =>
  have:=ZaL.1 h p hp;unfold Fz at this;simp at this
 | some q =>
  have hq:=List.find?_some h;unfold Fz at hq;rw [Zm,decide_eq_true_eq,decide_eq_true_eq] at hq;have:=h1 q (List.mem_of_find?_eq_some h) p hp hq.1 hq.2;unfold eD;rw [h,this];rfl
theorem iX {po:List Po}:eD po v o=none↔∀ p∈po,¬(p.lv=v/\p.ou=o):=by
 unfold eD;rw [Option.map_eq_none_iff,ZaL];constructor
 ·intro h p hp hq;have:=h p hp;unfold Fz at this;rw [hq.1,hq.2] at this;simp at this
 ·intro h p hp;unfold Fz;rw [Zm,decide_eq_true_eq,decide_eq_true_eq];exact h p hp
theorem Qa {po qo:List Po} (h1:th po) (hs:∀ p∈qo,p∈po) {v:Int} {o i:ByteArray} (h:eD qo v o=some i):eD po v o=some i:=by
 obtain ⟨p,hp,rfl,rfl,rfl⟩:=fG h;exact lG h1 (hs p hp)
inductive Nd (po:List Po) (D:List ByteArray):Po->Prop
 | de {p:Po}:p∈po->p.ou∈D->Nd po D p
 | up {p q:Po}:p∈po->q.lv=p.lv->q.ip=p.ou->Nd po D q->Nd po D p
theorem RT {po S:List Po} {D:List ByteArray} (h1:th po) (hS:∀ p∈S,p∈po) (hu:∀ p∈S,p.ou∈D\/∃ q∈S,q.lv=p.lv/\q.ip=p.ou) {N:Nat} (hN:∀ v o m,N<=m->fJ po v m o=fJ po v N o) :
  ∀ n p,p∈S->N-(fJ po p.lv N p.ou).length<=n->Nd po D p
 | n, p, hp, hn => by
  rcases hu p hp with hd | ⟨q,hq,hv,hi⟩
  ·exact .de (hS p hp) hd
  ·have mN:=lG h1 (hS q hq);rw [hv,hi] at mN;have hc:fJ po p.lv (N+1) q.ou=p.ou::fJ po p.lv N p.ou:=nD mN N;have hl:(fJ po q.lv N q.ou).length=(fJ po p.lv N p.ou).length+1:=by
    rw [hv,<- hN p.lv q.ou (N+1) (by omega),hc,ZA]
   have hle:=kM po q.lv N q.ou;cases n with
   | zero=>omega
   | succ n=>exact .up (hS p hp) hv hi (RT h1 hS hu hN n q hq (by omega))
theorem RU {po S:List Po} (hk:∀ p∈po,p.ou∈D->p∈S) (fq:∀ p∈po,∀ q∈S,q.lv=p.lv->q.ip=p.ou->p∈S) {p:Po} (h:Nd po D p):p∈S:=by
 induction h with
 | de hp hd=>exact hk _ hp hd
 | up hp hv hi _ ih=>exact fq _ hp _ ih hv hi
theorem PO {po:List Po} (h1:th po) {N:Nat} (hN:∀ v o m,N<=m->fJ po v m o=fJ po v N o) {f g:Po->Bool}
  (D6:∀ p∈po,p.ou∈D->f p=true) (H7:∀ p∈po,∀ q∈po,f q=true->q.lv=p.lv->q.ip=p.ou->f p=true) (X5:∀ p∈po,f p=true->p.ou∈D\/∃ q∈po,f q=true/\q.lv=p.lv/\q.ip=p.ou)
  (Se:∀ p∈po,p.ou∈D->g p=true) (X2:∀ p∈po,∀ q∈po,g q=true->q.lv=p.lv->q.ip=p.ou->g p=true) (hg3:∀ p∈po,g p=true->p.ou∈D\/∃ q∈po,g q=true/\q.lv=p.lv/\q.ip=p.ou):po.filter f=po.filter g:=by
 have key:∀ (f:Po->Bool),(∀ p∈po,p.ou∈D->f p=true)->(∀ p∈po,∀ q∈po,f q=true->q.lv=p.lv->q.ip=p.ou->f p=true)->(∀ p∈po,f p=true->p.ou∈D\/∃ q∈po,f q=true/\q.lv=p.lv/\q.ip=p.ou)->∀ p∈po,(f p=true↔Nd po D p):=by
  intro f h2 h3 h4 p hp;constructor
  ·intro hf;refine RT (S:=po.filter f) h1 (fun q hq=>(Zr.1 hq).1) (fun q hq=>?_) hN _ p (Zr.2 ⟨hp,hf⟩) (Zy _);obtain ⟨oA,lo⟩:=Zr.1 hq;rcases h4 q oA lo with h | ⟨x,hx,hx2,Xi⟩
   ·exact .inl h
   ·exact .inr ⟨x,Zr.2 ⟨hx,hx2⟩,Xi⟩
  ·intro hn;have:=RU (S:=po.filter f) (fun q hq hd=>Zr.2 ⟨hq,h2 q hq hd⟩) (fun q hq x hx hv hi=>Zr.2 ⟨hq,h3 q hq x (Zr.1 hx).1 (Zr.1 hx).2 hv hi⟩) hn
   exact (Zr.1 this).2
 refine Zbc fun p hp=>?_;rw [ZaQ,key f D6 H7 X5 p hp,key g Se X2 hg3 p hp]
theorem oV {α:Type} {R:α->α->Prop} (has:∀ a b,R a b->¬ R b a):∀ {A B:List α},A.Pairwise R->B.Pairwise R->A.Perm B->A=B
 | [],B,_,_,h=>(List.nil_perm.1 h).symm
 | a::A,[],_,_,h=>absurd h (by intro h;have:=h.length_eq;cases this)
 | a :: A, b :: B, hA, hB, h => by
  rw [ZaV] at hA hB;have Of:a=b:=by
   apply Classical.byContradiction;intro hne;have h1:a∈b::B:=h.mem_iff.1 (by simp);have h2:b∈a::A:=h.mem_iff.2 (by simp);have h1:a∈B:=(ZS.1 h1).resolve_left hne;have h2:b∈A:=(ZS.1 h2).resolve_left fun e=>hne e.symm
   exact has _ _ (hA.1 b h2) (hB.1 a h1)
  subst Of;rw [oV has hA.2 hB.2 (List.Perm.cons_inv h)]
def ng (r:Ro) (p q:Po):Bool:=decide (p.lv<q.lv)||(decide (p.lv=q.lv)&&decide (eE r p.ou<eE r q.ou))
theorem HP {r:Ro} (p q:Po) (h:ng r p q=true):¬ ng r q p=true:=by
 unfold ng at *;simp only [ZT,Zm,decide_eq_true_eq] at *;omega
theorem zB {r:Ro} {p q s:Po} (h1:ng r p q=true) (h2:ng r q s=true):ng r p s=true:=by
 unfold ng at *;simp only [ZT,Zm,decide_eq_true_eq] at *;omega
theorem HO {r:Ro} {p q:Po} (h:¬(p.lv=q.lv/\eE r p.ou=eE r q.ou)):ng r p q=true\/ng r q p=true:=by
 unfold ng;simp only [ZT,Zm,decide_eq_true_eq];omega
def eJ (r:Ro) (p:Po):List Po->List Po
 | []=>[p]
 | b::l=>if ng r p b then p::b::l else b::eJ r p l
theorem lP (r:Ro) (p:Po):∀ l,(eJ r p l).Perm (p::l)
 | []=>List.Perm.refl _
 | b :: l => by
  rw [eJ];split
  ·exact List.Perm.refl _
  ·exact ((lP r p l).cons b).trans (List.Perm.swap p b l)
theorem iW {r:Ro} {p q:Po} {l:List Po}:q∈eJ r p l↔q=p\/q∈l:=by rw [(lP r p l).mem_iff,ZS]
theorem uy {r:Ro} {p:Po}:∀ {l:List Po},l.Pairwise (fun a b=>ng r a b=true)->(∀ q∈l,¬(p.lv=q.lv/\eE r p.ou=eE r q.ou))->(eJ r p l).Pairwise (fun a b=>ng r a b=true)
 | [],_,_=>by rw [eJ];exact List.pairwise_singleton _ _
 | b :: l, h, hn => by
  rw [ZaV] at h;rw [eJ];split
  ·rename_i hb;rw [ZaV,ZaV];refine ⟨fun q hq=>?_,h.1,h.2⟩;rcases ZS.1 hq with rfl | hq
   ·exact hb
   ·exact zB hb (h.1 q hq)
  ·rename_i hb;rw [ZaV];refine ⟨fun q hq=>?_,uy h.2 fun q hq=>hn q (ZM _ hq)⟩;rcases iW.1 hq with rfl | hq
   ·rcases HO (hn b (by simp)) with e | e
    ·exact absurd e hb
    ·exact e
   ·exact h.1 q hq
structure oE (r:Ro):Prop where
 sd:∀ s∈cK r,s ∉ cE r
 st:∀ s∈cK r,s ∉ cQ r
 dt:∀ s∈cE r,s ∉ cQ r
 VQ:(cQ r).length<=6
structure jh (r:Ro) (po:List Po):Prop where
 rU:po.Pairwise (fun a b=>ng r a b=true)
 LS:∀ p∈po,0<=p.lv/\p.lv<r.lv
 out:∀ p∈po,p.ou∈cE r\/p.ou∈cQ r
 xX:∀ p∈po,p.ip∈cK r\/p.ip∈cQ r
 RY:∀ p∈po,kP r p.ou=kq r p.ip
 D9:∀ v,¬ ∃ t∈cQ r,t∈fJ po v ((cQ r).length+1) t
 use:∀ v t,t∈cQ r->(nf po v t=true↔gL po v t=true)
theorem jh.one {r:Ro} {po:List Po} (h:po.Pairwise (fun a b=>ng r a b=true)):th po:=by
 intro p hp q hq hv ho;apply Classical.byContradiction;intro hne;obtain ⟨i,hi,rfl⟩:=Zw hp;obtain ⟨j,hj,rfl⟩:=Zw hq;rw [Zad] at h;rcases Zaq i j with e | e | e
 ·have:=h i j hi hj e;unfold ng at this;simp only [ZT,Zm,decide_eq_true_eq] at this;rw [ho] at this;omega
 ·subst e;exact hne rfl
 ·have:=h j i hj hi e;unfold ng at this;simp only [ZT,Zm,decide_eq_true_eq] at this;rw [ho] at this;omega
theorem jh.tie {r:Ro} {po:List Po} (hn:oE r) (h2:∀ p∈po,p.ou∈cE r\/p.ou∈cQ r) (h3:∀ p∈po,p.ip∈cK r\/p.ip∈cQ r) {v:Int}:∀ o i,eD po v o=some i->(eD po v i).isSome=true->i∈cQ r:=by
 intro o i h hi;obtain ⟨p,hp,_,_,rfl⟩:=fG h;rcases h3 p hp with hs | ht
 ·obtain ⟨j,hj⟩:=Zag.1 hi;obtain ⟨q,hq,_,R7,_⟩:=fG hj;rcases h2 q hq with hd | hd
  ·exact absurd (R7 ▸ hd) (hn.sd _ hs)
  ·exact absurd (R7 ▸ hd) (hn.st _ hs)
 ·exact ht
def iI (po:List Po) (v:Int) (k:Nat) (o:ByteArray):ByteArray:=((fJ po v k o).getLast?).getD o
def qy (po:List Po) (v:Int) (S:List ByteArray) (o:ByteArray):ByteArray:=if bC S (iI po v 7 o)<0 then ⟨#[]⟩ else iI po v 7 o
theorem zS {po:List Po} (h:eD po v o=some i):iI po v (k+1) o=iI po v k i:=by
 unfold iI;rw [nD h,List.getLast?_cons]
 rfl
theorem tZ {po:List Po} (h:eD po v o=none):iI po v k o=o:=by
 unfold iI;rw [xG h];rfl
theorem Il {r:Ro} {po:List Po} (hn:oE r) (h:jh r po) (v:Int) (o:ByteArray):iI po v ((cQ r).length+1) o=iI po v 7 o:=by
 have:=hn.VQ;unfold iI;rw [qz (T:=cQ r) (jh.tie hn h.out h.xX) (h.D9 v) o (m:=7) (by omega)]
theorem Rl {r:Ro} {po:List Po} (hn:oE r) (h:jh r po) {v:Int}:∀ (k:Nat) (o:ByteArray),(fJ po v 7 o).length<=k->(eD po v o).isSome=true->iI po v 7 o∈cK r:=by
 have h6:=hn.VQ;have hs:=fun o m hm=>qz (T:=cQ r) (jh.tie hn h.out h.xX) (h.D9 v) o (m:=m) hm
 intro k
 induction k with
 | zero =>
  intro o hk ho;obtain ⟨i,hi⟩:=Zag.1 ho;rw [nD hi,ZA] at hk;omega
 | succ k ih =>
  intro o hk ho;obtain ⟨i,hi⟩:=Zag.1 ho;have e1:iI po v 7 o=iI po v 7 i:=by
   have:iI po v 8 o=iI po v 7 i:=zS hi;unfold iI at this ⊢;rw [hs o 8 (by omega)] at this;rw [hs o 7 (by omega)];exact this
  rw [e1];cases Dl:eD po v i with
  | none =>
   rw [tZ Dl];obtain ⟨p,hp,Oa,_,rfl⟩:=fG hi;rcases h.xX p hp with hS | hT
   ·exact hS
   ·have hu:nf po v p.ip=true:=by
     unfold nf;rw [ZR];exact ⟨p,hp,by unfold yr;rw [Oa];simp⟩
    have:=(h.use v p.ip hT).1 hu;unfold gL at this;rw [Dl] at this;cases this
  | some j =>
   refine ih i ?_ (by rw [Dl];rfl);have:(fJ po v 8 o).length=(fJ po v 7 i).length+1:=by rw [nD hi,ZA]
   rw [hs o 8 (by omega),<- hs o 7 (by omega)] at this;omega
theorem zW {r:Ro} {po:List Po} (hn:oE r) (h:jh r po) {v:Int} {o:ByteArray} (ho:(eD po v o).isSome=true):qy po v (cK r) o=iI po v 7 o:=by
 unfold qy;rw [if_neg fun e=>cH.1 e (Rl hn h _ o (Zy _) ho)]
theorem Ix {r:Ro} {po:List Po} (hs:o ∉ cK r) (ho:eD po v o=none):qy po v (cK r) o=⟨#[]⟩:=by
 unfold qy;rw [tZ ho,if_pos (cH.2 hs)]
theorem BH {po qo:List Po} (h1:th po) (hs:∀ p∈qo,p∈po) {v:Int}:∀ {k:Nat} {o x:ByteArray},x∈fJ qo v k o->x∈fJ po v k o
 | 0,_,_,h=>by cases h
 | k + 1, o, x, h => by
  rw [fJ] at h;cases hi:eD qo v o with
  | none=>rw [hi] at h;cases h
  | some i =>
   rw [hi] at h;rw [nD (Qa h1 hs hi)];rcases ZS.1 h with rfl | h
   ·exact Zu
   ·exact ZM _ (BH h1 hs h)
theorem jh.filter {r:Ro} {po:List Po} (hn:oE r) (h:jh r po) (f:Po->Bool) (h2:∀ p∈po,p.ou∈cQ r->∀ q∈po,f q=true->q.lv=p.lv->q.ip=p.ou->f p=true) (h3:∀ p∈po,p.ou∈cQ r->f p=true->∃ q∈po,f q=true/\q.lv=p.lv/\q.ip=p.ou):jh r (po.filter f):=by
 have jn:∀ p∈po.filter f,p∈po:=fun p hp=>(Zr.1 hp).1
 have h1:=jh.one h.rU;refine ⟨h.rU.filter f,fun p hp=>h.LS p (jn p hp),fun p hp=>h.out p (jn p hp),fun p hp=>h.xX p (jn p hp),fun p hp=>h.RY p (jn p hp),fun v=>?_,fun v t ht=>?_⟩
 ·rintro ⟨t,ht,hc⟩;exact h.D9 v ⟨t,ht,BH h1 jn hc⟩
 ·constructor
  ·intro hu;unfold nf at hu;rw [ZR] at hu;obtain ⟨q,hq,Qp⟩:=hu;unfold yr at Qp;rw [Zm,decide_eq_true_eq,decide_eq_true_eq] at Qp;obtain ⟨oA,lo⟩:=Zr.1 hq;have hb:=(h.use v t ht).1 (by unfold nf;rw [ZR];exact ⟨q,oA,by unfold yr;rw [Qp.1,Qp.2];simp⟩);unfold gL at hb;obtain ⟨i,hi⟩:=Zag.1 hb;obtain ⟨p,hp,Oa,oQ,rfl⟩:=fG hi;have hf:=h2 p hp (oQ ▸ ht) q oA lo (Qp.1.trans Oa.symm) (Qp.2.trans oQ.symm);have:=lG (h1.filter f) (Zr.2 ⟨hp,hf⟩);rw [Oa,oQ] at this;unfold gL;rw [this];rfl
  ·intro hb;unfold gL at hb;obtain ⟨i,hi⟩:=Zag.1 hb;obtain ⟨p,hp,Oa,oQ,rfl⟩:=fG hi;obtain ⟨BZ,Qq⟩:=Zr.1 hp;obtain ⟨q,hq,lo,tp,hq4⟩:=h3 p BZ (oQ ▸ ht) Qq;unfold nf;rw [ZR];exact ⟨q,Zr.2 ⟨hq,lo⟩,by unfold yr;rw [tp,hq4,Oa,oQ];simp⟩
theorem Bx (h:0<=bC l s):bC l s<(l.length:Nat):=by
 obtain ⟨hl,_⟩:=fD h;omega
theorem GU {a b:ByteArray} (ha:0<=bC l a) (h:bC l a=bC l b):a=b:=by
 obtain ⟨h1,e1⟩:=fD ha;obtain ⟨h2,e2⟩:=fD (l:=l) (s:=b) (by omega);rw [<- e1,<- e2];have:(bC l a).toNat=(bC l b).toNat:=by rw [h]
 simp only [this]
theorem Lq {r:Ro} {a b:ByteArray} (ha:a∈cE r\/a∈cQ r) (hb:b∈cE r\/b∈cQ r) (h:eE r a=eE r b):a=b:=by
 have hd:(cE r).length=r.de.length:=by unfold cE;rw [Zd]
 unfold eE at h;by_cases a1:0<=bC (cE r) a
 ·have:=Bx a1;by_cases b1:0<=bC (cE r) b
  ·rw [if_pos a1,if_pos b1] at h;exact GU a1 h
  ·by_cases b2:0<=bC (cQ r) b
   ·rw [if_pos a1,if_neg b1,if_pos b2] at h;omega
   ·rcases hb with hb | hb
    ·exact absurd hb (cH.1 (by omega))
    ·exact absurd hb (cH.1 (by omega))
 ·by_cases a2:0<=bC (cQ r) a
  ·by_cases b1:0<=bC (cE r) b
   ·have:=Bx b1;rw [if_neg a1,if_pos a2,if_pos b1] at h;omega
   ·by_cases b2:0<=bC (cQ r) b
    ·rw [if_neg a1,if_pos a2,if_neg b1,if_pos b2] at h;exact GU a2 (by omega)
    ·rcases hb with hb | hb
     ·exact absurd hb (cH.1 (by omega))
     ·exact absurd hb (cH.1 (by omega))
  ·rcases ha with ha | ha
   ·exact absurd ha (cH.1 (by omega))
   ·exact absurd ha (cH.1 (by omega))
structure rI (r:Ro) (po:List Po) (v:Int) (x:ByteArray):Prop where
 rU:po.Pairwise (fun a b=>ng r a b=true)
 LS:∀ p∈po,0<=p.lv/\p.lv<r.lv
 out:∀ p∈po,p.ou∈cE r\/p.ou∈cQ r
 xX:∀ p∈po,p.ip∈cK r\/p.ip∈cQ r
 RY:∀ p∈po,kP r p.ou=kq r p.ip
 D9:∀ v,¬ ∃ t∈cQ r,t∈fJ po v ((cQ r).length+1) t
 use:∀ u t,t∈cQ r->(u=v/\t=x)\/(nf po u t=true↔gL po u t=true)
 bus:x∈cQ r->gL po v x=true
theorem jh.W7 {r:Ro} {po:List Po} (h:jh r po) (hb:x∈cQ r->gL po v x=true):rI r po v x:=⟨h.rU,h.LS,h.out,h.xX,h.RY,h.D9,fun u t ht=>.inr (h.use u t ht),hb⟩
theorem rI.val {r:Ro} {po:List Po} {v:Int} {x:ByteArray} (h:rI r po v x) (hx:x ∉ cQ r):jh r po:=⟨h.rU,h.LS,h.out,h.xX,h.RY,h.D9,fun u t ht=>(h.use u t ht).resolve_left fun e=>hx (e.2 ▸ ht)⟩
theorem pB {r:Ro} {po:List Po} {p:Po} (hs:po.Pairwise (fun a b=>ng r a b=true)) (ho:∀ q∈po,q.ou∈cE r\/q.ou∈cQ r) (hp:p.ou∈cE r\/p.ou∈cQ r) (aci:eD po p.lv p.ou=none):(eJ r p po).Pairwise (fun a b=>ng r a b=true):=
 uy hs fun q hq e=>iX.1 aci q hq ⟨e.1.symm,(Lq hp (ho q hq) e.2).symm⟩
theorem sD {r:Ro} {po:List Po} {p:Po} (h1:th (eJ r p po)) (h0:th po) (v:Int) (o:ByteArray):eD (eJ r p po) v o=if p.lv=v/\p.ou=o then some p.ip else eD po v o:=by
 by_cases h:p.lv=v/\p.ou=o
 ·rw [if_pos h];have:=lG h1 (iW.2 (.inl I):p∈eJ r p po);rwa [h.1,h.2] at this
 ·rw [if_neg h];cases hi:eD po v o with
  | none =>
   rw [iX];intro q hq;rcases iW.1 hq with rfl | hq
   ·exact h
   ·exact iX.1 hi q hq
  | some i =>
   obtain ⟨q,hq,rfl,rfl,rfl⟩:=fG hi;exact lG h1 (iW.2 (.inr hq))
theorem rI.add {r:Ro} {po:List Po} (hn:oE r) (h:rI r po v x) (hv:0<=v/\v<r.lv) (hx:x∈cK r\/x∈cQ r) (ho:o∈cE r\/o∈cQ r) (fC:eD po v o=none) (hm:kP r o=kq r x):rI r (eJ r ⟨v,o,x⟩ po) v o:=by
 have hs:=pB (p:=⟨v,o,x⟩) h.rU h.out ho fC;have h1:=jh.one hs;have h0:=jh.one h.rU;have mN:=sD (p:=⟨v,o,x⟩) h1 h0;have uz:x≠o:=by
  intro e;subst e;rcases hx with hx | hx
  ·rcases ho with ho | ho
   ·exact hn.sd _ hx ho
   ·exact hn.st _ hx ho
  ·have:=h.bus hx;unfold gL at this;rw [fC] at this;cases this
 -- no one ae9 DZ new output
 have oB:∀ u,eD po v u≠some o:=by
  intro u hu;obtain ⟨q,hq,N9,_,R9⟩:=fG hu;rcases ho with ho | ho
  ·rcases h.xX q hq with hS | hT
   ·exact hn.sd _ (R9 ▸ hS) ho
   ·exact hn.dt _ ho (R9 ▸ hT)
  ·rcases h.use v o ho with e | e
   ·exact uz e.2.symm
   ·have:nf po v o=true:=by
     unfold nf;rw [ZR];exact ⟨q,hq,by unfold yr;rw [N9,R9];simp⟩
    have:=e.1 this;unfold gL at this;rw [fC] at this;cases this
 have iY:∀ u y,eD (eJ r ⟨v,o,x⟩ po) v u=some y->y≠o:=by
  intro u y hu e;subst e;rw [mN] at hu;split at hu
  ·exact uz (Option.some.inj hu)
  ·exact oB u hu
 refine ⟨hs,fun p hp=>?_,fun p hp=>?_,fun p hp=>?_,fun p hp=>?_,fun w=>?_,fun u t ht=>?_,fun _=>?_⟩
 ·rcases iW.1 hp with rfl | hp
  ·exact hv
  ·exact h.LS p hp
 ·rcases iW.1 hp with rfl | hp
  ·exact ho
  ·exact h.out p hp
 ·rcases iW.1 hp with rfl | hp
  ·exact hx
  ·exact h.xX p hp
 ·rcases iW.1 hp with rfl | hp
  ·exact hm
  ·exact h.RY p hp
 ·rintro ⟨t,ht,hc⟩;obtain ⟨j,hj,he⟩:=vt.1 hc
  -- DZ way round is one of DZ Gs points
  have key:∀ k y z,(w=v->y≠o)->mM (eJ r ⟨v,o,x⟩ po) w k y=some z->mM po w k y=some z:=by
   intro k
   induction k with
   | zero=>intro y z _ h;exact h
   | succ k ih =>
    intro y z hy hz;rw [mM] at hz ⊢;have e1:eD (eJ r ⟨v,o,x⟩ po) w y=eD po w y:=by
     rw [mN,if_neg fun e=>hy e.1.symm e.2.symm]
    cases hi:eD po w y with
    | none=>rw [e1,hi] at hz;cases hz
    | some u =>
     rw [e1,hi] at hz;refine ih u z (fun e q=>?_) hz;subst e q;exact iY y u (by rw [e1];exact hi) I
  refine h.D9 w ⟨t,ht,vt.2 ⟨j,hj,key (j+1) t t (fun e q=>?_) he⟩⟩;subst e q;obtain ⟨u,hu,Up⟩:∃ u,mM (eJ r ⟨w,t,x⟩ po) w j t=some u/\eD (eJ r ⟨w,t,x⟩ po) w u=some t:=by
   rw [kJ] at he;cases hq:mM (eJ r ⟨w,t,x⟩ po) w j t with
   | none=>rw [hq] at he;cases he
   | some u =>
    rw [hq] at he;exact ⟨u,I,by simpa [mM] using he⟩
  exact iY u t Up I
 ·by_cases e:u=v/\t=o
  ·exact .inl e
  ·refine .inr ?_;have hb:gL (eJ r ⟨v,o,x⟩ po) u t=gL po u t:=by
    unfold gL;rw [mN,if_neg fun q=>e ⟨q.1.symm,q.2.symm⟩]
   have hu:nf (eJ r ⟨v,o,x⟩ po) u t=true↔(u=v/\t=x)\/nf po u t=true:=by
    unfold nf;rw [ZR,ZR];constructor
    ·rintro ⟨q,hq,lo⟩;rcases iW.1 hq with rfl | hq
     ·unfold yr at lo;rw [Zm,decide_eq_true_eq,decide_eq_true_eq] at lo;exact .inl ⟨lo.1.symm,lo.2.symm⟩
     ·exact .inr ⟨q,hq,lo⟩
    ·rintro (⟨rfl,rfl⟩ | ⟨q,hq,lo⟩)
     ·exact ⟨_,iW.2 (.inl I),by unfold yr;simp⟩
     ·exact ⟨q,iW.2 (.inr hq),lo⟩
   rw [hb,hu];rcases h.use u t ht with ex | ex
   ·obtain ⟨rfl,rfl⟩:=ex;exact ⟨fun _=>h.bus ht,fun _=>.inl ⟨I,I⟩⟩
   ·constructor
    ·rintro (⟨rfl,rfl⟩ | q)
     ·exact h.bus ht
     ·exact ex.1 q
    ·exact fun q=>.inr (ex.2 q)
 ·unfold gL;rw [mN,if_pos ⟨I,I⟩];rfl
theorem rI.ne {r:Ro} {po:List Po} (hn:oE r) (h:rI r po v x) (hx:x∈cK r\/x∈cQ r) (ho:o∈cE r\/o∈cQ r) (fC:eD po v o=none):x≠o:=by
 intro e;subst e;rcases hx with hx | hx
 ·rcases ho with ho | ho
  ·exact hn.sd _ hx ho
  ·exact hn.st _ hx ho
 ·have:=h.bus hx;unfold gL at this;rw [fC] at this;cases this
theorem rI.unused {r:Ro} {po:List Po} (hn:oE r) (h:rI r po v x) (hx:x∈cK r\/x∈cQ r) (ho:o∈cE r\/o∈cQ r) (fC:eD po v o=none):∀ u,eD po v u≠some o:=by
 have uz:=h.ne hn hx ho fC;intro u hu;obtain ⟨q,hq,N9,_,R9⟩:=fG hu;rcases ho with ho | ho
 ·rcases h.xX q hq with hS | hT
  ·exact hn.sd _ (R9 ▸ hS) ho
  ·exact hn.dt _ ho (R9 ▸ hT)
 ·rcases h.use v o ho with e | e
  ·exact uz e.2.symm
  ·have:nf po v o=true:=by
    unfold nf;rw [ZR];exact ⟨q,hq,by unfold yr;rw [N9,R9];simp⟩
   have:=e.1 this;unfold gL at this;rw [fC] at this;cases this
theorem BI {r:Ro} {po:List Po} {v:Int} {x o:ByteArray} (hn:oE r) (h:rI r po v x) (hx:x∈cK r\/x∈cQ r) (ho:o∈cE r\/o∈cQ r) (fC:eD po v o=none) {w:Int}:∀ {k:Nat} {y:ByteArray},¬(w=v/\y=o)->fJ (eJ r ⟨v,o,x⟩ po) w k y=fJ po w k y
 | 0,_,_=>rfl
 | k + 1, y, hy => by
  have hs:=pB (p:=⟨v,o,x⟩) h.rU h.out ho fC;have e1:eD (eJ r ⟨v,o,x⟩ po) w y=eD po w y:=by
   rw [sD (p:=⟨v,o,x⟩) (jh.one hs) (jh.one h.rU),if_neg fun e=>hy ⟨e.1.symm,e.2.symm⟩]
  rw [fJ,fJ,e1];cases hi:eD po w y with
  | none=>rfl
  | some u =>
   show u::_=u::_;rw [BI hn h hx ho fC fun e=>by
    obtain ⟨rfl,rfl⟩:=e;exact h.unused hn hx ho fC y hi]
theorem G7 {r:Ro} {po:List Po} (hn:oE r) (h:rI r po v x) (hx:x∈cK r\/x∈cQ r) (ho:o∈cE r\/o∈cQ r) (fC:eD po v o=none) {w:Int} {y:ByteArray} (hy:¬(w=v/\y=o)) {S:List ByteArray}:qy (eJ r ⟨v,o,x⟩ po) w S y=qy po w S y:=by
 unfold qy iI;rw [BI hn h hx ho fC hy]
theorem Dz {r:Ro} {po:List Po} (hn:oE r) (h:rI r po v x) (hv:0<=v/\v<r.lv) (hx:x∈cK r\/x∈cQ r) (ho:o∈cE r\/o∈cQ r) (fC:eD po v o=none) (hm:kP r o=kq r x):iI (eJ r ⟨v,o,x⟩ po) v 7 o=iI po v 7 x:=by
 have h6:=hn.VQ;have hA:=h.add hn hv hx ho fC hm;have hs:=pB (p:=⟨v,o,x⟩) h.rU h.out ho fC;have mN:eD (eJ r ⟨v,o,x⟩ po) v o=some x:=by
  rw [sD (p:=⟨v,o,x⟩) (jh.one hs) (jh.one h.rU),if_pos ⟨I,I⟩]
 have VX:=fun m hm=>qz (T:=cQ r) (jh.tie hn hA.out hA.xX) (hA.D9 v) o (m:=m) hm
 have e8:iI (eJ r ⟨v,o,x⟩ po) v 8 o=iI (eJ r ⟨v,o,x⟩ po) v 7 x:=zS mN;have e7:iI (eJ r ⟨v,o,x⟩ po) v 7 o=iI (eJ r ⟨v,o,x⟩ po) v 8 o:=by
  unfold iI;rw [VX 7 (by omega),VX 8 (by omega)]
 rw [e7,e8];unfold iI;rw [BI hn h hx ho fC fun e=>h.ne hn hx ho fC e.2]
theorem xH {po:List Po} (h1:th po) {f:Po->Bool} (gq:∀ q∈po,f q=true->∀ p∈po,p.lv=q.lv->p.ou=q.ip->f p=true) {v:Int}:∀ {k:Nat} {y:ByteArray},(∀ p∈po,p.lv=v->p.ou=y->f p=true)->fJ (po.filter f) v k y=fJ po v k y
 | 0,_,_=>rfl
 | k + 1, y, hy => by
  rw [fJ,fJ];cases hi:eD po v y with
  | none =>
   have:eD (po.filter f) v y=none:=iX.2 fun p hp=>iX.1 hi p (Zr.1 hp).1
   rw [this]
  | some u =>
   obtain ⟨q,hq,N9,R7,rfl⟩:=fG hi;have hf:=hy q hq N9 R7;have:eD (po.filter f) v y=some q.ip:=by
    have:=lG (h1.filter f) (Zr.2 ⟨hq,hf⟩);rwa [N9,R7] at this
   rw [this];show q.ip::_=q.ip::_;rw [xH h1 gq fun p hp Oa oQ=>gq q hq hf p hp (Oa.trans N9.symm) oQ]
end Go.Proofs.A1
