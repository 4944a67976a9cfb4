/- Parts of the proof: GkCore GkOps P5w S1p P5a P5b P5c P5d P5e P5f P5g. -/
import Derived.RangeFuncRecord
import Derived.OrdersIn
import Derived.KernelRfl
import Derived.Below
import Derived.IntWalk
import Derived.Laws.Strings
namespace Go
abbrev Value.q (x:Int):Value:=.int .i64 x
abbrev Value.z:Value:=.slice none 0 0
abbrev Value.w (b n c:Nat):Value:=.slice (some ⟨b,0,none⟩) n c
abbrev Value.p (b:Nat):Value:=.pointer (some ⟨b,0,none⟩)
end Go
set_option linter.unusedSectionVars false
set_option linter.unusedVariables false
set_option linter.unusedSimpArgs false
namespace Go.SL
open Go
open Go.RowKit (Below)
theorem I {α:Sort _} {a:α}:a=a:=rfl
theorem Za {α:Type _} (as:List α):[]++as=as:=rfl
theorem Zb:type_of% @List.cons_append:=rfl
theorem Zc:type_of% @List.getElem?_eq_getElem:=List.getElem?_eq_getElem
theorem Zd:type_of% @List.length_map:=@List.length_map
theorem Ze:type_of% @List.take_zero:=rfl
theorem Zf:type_of% @List.map_nil:=rfl
theorem Zg:type_of% @List.length_append:=@List.length_append
theorem Zh:type_of% @List.append_assoc:=@List.append_assoc
theorem Zi:type_of% @Nat.zero_le:=@Nat.zero_le
theorem Zj:type_of% @List.getElem_mem:=@List.getElem_mem
theorem Zk:type_of% @List.getD_eq_getElem?_getD:=@List.getD_eq_getElem?_getD
theorem Zl:type_of% @List.getElem?_eq_some_iff:=@List.getElem?_eq_some_iff
theorem Zm:type_of% @List.take_succ_eq_append_getElem:=@List.take_succ_eq_append_getElem
theorem Zn:type_of% @Bool.and_eq_true:=@Bool.and_eq_true
theorem Zo:type_of% @Decidable.not_not:=@Decidable.not_not
theorem Zp:type_of% @List.not_mem_nil:=@List.not_mem_nil
theorem Zq:type_of% @List.length_take:=@List.length_take
theorem Zr:type_of% @List.mem_filter:=@List.mem_filter
theorem Zs:type_of% @List.mem_cons_self:=@List.mem_cons_self
theorem Zt:type_of% @List.map_append:=@List.map_append
theorem Zu:type_of% @List.drop_eq_getElem_cons:=@List.drop_eq_getElem_cons
theorem Zv:type_of% @Array.getD_eq_getD_getElem?:=@Array.getD_eq_getD_getElem?
theorem Zw:type_of% @List.forall_mem_cons:=@List.forall_mem_cons
theorem Zx:type_of% @Nat.zero_add:=@Nat.zero_add
theorem Zy:type_of% @List.mem_map:=@List.mem_map
theorem Zz:type_of% @Nat.le_refl:=@Nat.le_refl
theorem ZA:type_of% @List.getElem_of_mem:=@List.getElem_of_mem
theorem ZB:type_of% @List.mem_append:=@List.mem_append
theorem ZC:type_of% @List.getElem?_take:=@List.getElem?_take
theorem ZD:type_of% @List.getElem?_append_left:=@List.getElem?_append_left
theorem ZE:type_of% @List.length_cons:=@List.length_cons
theorem ZF:type_of% @Array.getElem?_setIfInBounds_ne:=@Array.getElem?_setIfInBounds_ne
theorem ZG:type_of% @List.mem_singleton:=@List.mem_singleton
theorem ZH:type_of% @List.getElem?_append_right:=@List.getElem?_append_right
theorem ZI:type_of% @List.getElem?_map:=@List.getElem?_map
theorem ZJ:type_of% @List.mem_append_left:=@List.mem_append_left
theorem ZK:type_of% @List.nodup_append:=@List.nodup_append
theorem ZL:type_of% @Int.toNat_natCast:=@Int.toNat_natCast
theorem ZM:type_of% @Nat.lt_of_not_le:=@Nat.lt_of_not_le
theorem ZN:type_of% @List.append_nil:=@List.append_nil
theorem ZO:type_of% @List.take_length:=@List.take_length
theorem ZP:type_of% @List.mem_cons_of_mem:=@List.mem_cons_of_mem
theorem ZQ:type_of% @List.any_eq_true:=@List.any_eq_true
theorem ZR:type_of% @Bool.or_eq_true:=@Bool.or_eq_true
theorem ZS:type_of% @Nat.le_trans:=@Nat.le_trans
theorem ZT:type_of% @List.mem_cons:=@List.mem_cons
theorem ZU:type_of% @Nat.not_lt_zero:=@Nat.not_lt_zero
theorem ZV:type_of% @List.mem_of_getElem?:=@List.mem_of_getElem?
theorem ZW:type_of% @List.mem_append_right:=@List.mem_append_right
theorem ZX:type_of% @List.mem_range:=@List.mem_range
theorem ZY:type_of% @List.length_filter_le:=@List.length_filter_le
theorem ZZ:type_of% @Nat.succ_le_of_lt:=@Nat.succ_le_of_lt
theorem Z0:type_of% @List.mem_map_of_mem:=@List.mem_map_of_mem
theorem Z1:type_of% @Array.getElem?_eq_some_iff:=@Array.getElem?_eq_some_iff
theorem Z2:type_of% @List.getElem_map:=@List.getElem_map
theorem Z3:type_of% @List.drop_length:=@List.drop_length
theorem Z4:type_of% @Nat.blt_eq:=@Nat.blt_eq
theorem Z5:type_of% @List.take_append_drop:=@List.take_append_drop
theorem Z6:type_of% @List.eq_nil_of_length_eq_zero:=@List.eq_nil_of_length_eq_zero
theorem Z7:type_of% @Nat.eq_of_beq_eq_true:=@Nat.eq_of_beq_eq_true
theorem Z8:type_of% @List.length_singleton:=@List.length_singleton
theorem Z9:type_of% @List.map_cons:=@List.map_cons
theorem Zaa:type_of% @Nat.mul_le_mul_right:=@Nat.mul_le_mul_right
theorem Zab:type_of% @List.take_of_length_le:=@List.take_of_length_le
theorem Zac:type_of% @List.pairwise_iff_getElem:=@List.pairwise_iff_getElem
theorem Zad:type_of% @List.all_eq_true:=@List.all_eq_true
theorem Zae:type_of% @List.length_nil:=@List.length_nil
theorem Zaf:type_of% @List.flatten_append:=@List.flatten_append
theorem Zag:type_of% @Option.isSome_iff_exists:=@Option.isSome_iff_exists
theorem Zah:type_of% @List.nodup_nil:=@List.nodup_nil
theorem Zai:type_of% @List.take_append_of_le_length:=@List.take_append_of_le_length
theorem Zaj:type_of% @Nat.succ_mul:=@Nat.succ_mul
theorem Zak:type_of% @List.length_eq_zero_iff:=@List.length_eq_zero_iff
theorem Zal:type_of% @Nat.lt_trichotomy:=@Nat.lt_trichotomy
theorem Zam:type_of% @Option.getD_some:=@Option.getD_some
theorem Zan:type_of% @List.getElem?_eq_none:=@List.getElem?_eq_none
theorem Zao:type_of% @Array.getElem?_eq_getElem:=@Array.getElem?_eq_getElem
theorem Zap:type_of% @List.getElem_append_right:=@List.getElem_append_right
theorem Zaq:type_of% @Option.map_eq_some_iff:=@Option.map_eq_some_iff
theorem Zar:type_of% @Bool.not_eq_true:=@Bool.not_eq_true
theorem Zas:type_of% @List.any_eq_false:=@List.any_eq_false
theorem Zat:type_of% @List.getElem_append_left:=@List.getElem_append_left
theorem Zau:type_of% @Bool.true_and:=@Bool.true_and
theorem Zav:type_of% @Nat.mul_one:=@Nat.mul_one
theorem Zaw:type_of% @List.perm_ext_iff_of_nodup:=@List.perm_ext_iff_of_nodup
theorem Zax:type_of% @List.ext_getElem?:=@List.ext_getElem?
theorem Zay:type_of% @Bool.eq_false_iff:=@Bool.eq_false_iff
theorem Zaz:type_of% @Nat.add_zero:=@Nat.add_zero
theorem ZaA:type_of% @Nat.add_sub_cancel:=@Nat.add_sub_cancel
theorem ZaB:type_of% @List.length_erase_of_mem:=@List.length_erase_of_mem
theorem ZaC:type_of% @List.sublist_append_left:=@List.sublist_append_left
theorem ZaD:type_of% @Nat.le_of_ble_eq_true:=@Nat.le_of_ble_eq_true
theorem ZaE:type_of% @List.flatten_cons:=@List.flatten_cons
theorem ZaF:type_of% @List.length_range:=@List.length_range
theorem ZaG:type_of% @List.getElem?_cons_zero:=@List.getElem?_cons_zero
theorem ZaH:type_of% @List.find?_eq_some_iff_getElem:=@List.find?_eq_some_iff_getElem
theorem ZaI:type_of% @List.map_map:=@List.map_map
theorem ZaJ:type_of% @List.sublist_append_right:=@List.sublist_append_right
theorem ZaK:type_of% @List.filter_eq_self:=@List.filter_eq_self
theorem ZaL:type_of% @List.mem_range'_1:=@List.mem_range'_1
theorem ZaM:type_of% @Array.getElem?_toList:=@Array.getElem?_toList
theorem ZaN:type_of% @List.contains_iff_mem:=@List.contains_iff_mem
theorem ZaO:type_of% @Nat.lt_of_lt_of_le:=@Nat.lt_of_lt_of_le
theorem ZaP:type_of% @List.filter_append:=@List.filter_append
theorem ZaQ:type_of% @List.find?_eq_none:=@List.find?_eq_none
theorem ZaR:type_of% @List.mem_of_mem_take:=@List.mem_of_mem_take
theorem ZaS:type_of% @Nat.le_of_not_lt:=@Nat.le_of_not_lt
theorem ZaT:type_of% @List.length_take_of_le:=@List.length_take_of_le
theorem ZaU:type_of% @List.getElem_take:=@List.getElem_take
theorem ZaV:type_of% @Array.length_toList:=@Array.length_toList
theorem ZaW:type_of% @Bool.eq_iff_iff:=@Bool.eq_iff_iff
theorem ZaX:type_of% @Bool.false_eq_true:=@Bool.false_eq_true
theorem ZaY:type_of% @List.prefix_append:=@List.prefix_append
theorem ZaZ:type_of% @List.pairwise_cons:=@List.pairwise_cons
theorem Zba:type_of% @List.map_take:=@List.map_take
theorem Zbb:type_of% @Array.toArray_toList:=@Array.toArray_toList
theorem Zbc:type_of% @List.getElem?_cons_succ:=@List.getElem?_cons_succ
theorem Zbd:type_of% @Bool.not_eq_true':=@Bool.not_eq_true'
theorem Zbe:type_of% @List.filter_congr:=@List.filter_congr
theorem Zbf:type_of% @Nat.min_eq_left:=@Nat.min_eq_left
theorem Zbg:type_of% @Nat.mul_le_mul_left:=@Nat.mul_le_mul_left
theorem Zbh:type_of% @List.drop_of_length_le:=@List.drop_of_length_le
theorem Zbi:type_of% @Nat.lt_or_ge:=@Nat.lt_or_ge
theorem Zbj:type_of% @List.length_drop:=@List.length_drop
theorem Zbk:type_of% @List.nodup_range:=@List.nodup_range
theorem Zbl:type_of% @List.drop_drop:=@List.drop_drop
theorem Zbm:type_of% @List.getElem?_drop:=@List.getElem?_drop
theorem Zbn:type_of% @List.length_range':=@List.length_range'
theorem Zbo:type_of% @Array.getElem?_modify:=@Array.getElem?_modify
theorem Zbp:type_of% @Option.map_some:=@Option.map_some
theorem Zbq:type_of% @List.range_succ:=@List.range_succ
theorem Zbr:type_of% @List.size_toArray:=@List.size_toArray
theorem Zbs:type_of% @Nat.zero_mul:=@Nat.zero_mul
theorem Zbt:type_of% @List.nodup_range':=@List.nodup_range'
theorem Zbu:type_of% @List.map_congr_left:=@List.map_congr_left
theorem Zbv:type_of% @List.filter_cons_of_pos:=@List.filter_cons_of_pos
theorem Zbw:type_of% @Bool.and_false:=@Bool.and_false
theorem Zbx:type_of% @Nat.add_sub_cancel_left:=@Nat.add_sub_cancel_left
theorem Zby:type_of% @Array.getElem?_eq_none:=@Array.getElem?_eq_none
theorem Zbz:type_of% @List.getElem_range:=@List.getElem_range
theorem ZbA:type_of% @List.filter_filter:=@List.filter_filter
theorem ZbB:type_of% @List.pairwise_map:=@List.pairwise_map
theorem ZbC:type_of% @List.mem_flatten:=@List.mem_flatten
theorem ZbD:type_of% @Nat.lt_irrefl:=@Nat.lt_irrefl
abbrev aL:=List (Nat×Value)
def c5:aL->Nat->Option Value
 | [],_=>none
 | (t,v)::r,k=>bif Nat.beq t k then some v else c5 r k
variable {D:List Nat} {N:Act->World->Prop} {Q:Exit->Act->World->Prop} {V:Value} {a:Act} {b d:Nat} {h:Nat->Option Obj} {id:Nat} {o:Oper} {op:Op} {ops:Array Oper} {r:Option Nat} {rest:List Oper} {v:Value} {x:Operand}
theorem gr {t k:Nat} {r:aL} (h:t≠k):c5 ((t,v)::r) k=c5 r k:=by
 have:Nat.beq t k=false:=by
  cases hb:Nat.beq t k with
  | false=>rfl
  | true=>exact absurd (Z7 hb) h
 simp [c5,this]
theorem gy {t:Nat} {r:aL}:c5 ((t,v)::r) t=some v:=by
 simp [c5]
def bU (sl:aL) (a:Act):Prop:=∀ t v,c5 sl t=some v->a.tmps[t]? = some v
theorem bU.eval {sl:aL} (h:bU sl a) {t:Nat} {v:Value} (hv:c5 sl t=some v):a.eval (.tmp t)=v:=by
 have:=h t v hv;simp [Act.eval,Zv,this]
theorem bU.put {sl:aL} (h:bU sl a) {d:Nat} (hd:d<a.tmps.size) (v:Value):bU ((d,v)::sl) (a.put (some d) v):=by
 intro t u hu;by_cases yE:d=t
 ·subst yE;rw [gy] at hu;cases hu;simp [Act.put,hd]
 ·rw [gr yE] at hu;simp only [Act.put,ZF yE];exact h t u hu
theorem bU.sub {sl kd:aL} (h:bU sl a) (hs:∀ t v,c5 kd t=some v->c5 sl t=some v):bU kd a:=fun t v hv=>h t v (hs t v hv)
def Is (sl:aL) (x:Operand) (v:Value):Prop:=∀ a:Act,bU sl a->a.eval x=v
def gv (c:Bool) (v:Value):Value:=bif c then v else undef
theorem vH {c:Bool} (h:c=true):gv c v=v:=by simp [gv,h]
theorem xw {c:Bool} (h:c=false):gv c v=undef:=by simp [gv,h]
def hp (w:World):Nat->Option Obj:=fun b=>w.heap[b]?
theorem lg {w:World} {o:Obj} (h:hp w b=some o):b<w.heap.size:=(Z1.1 h).1
structure bd where
 sat:(Nat->Option Obj)->List Nat->Prop
 loc:∀ {h h':Nat->Option Obj} {fp:List Nat},sat h fp->(∀ b∈fp,h' b=h b)->sat h' fp
 own:∀ {h:Nat->Option Obj} {fp:List Nat},sat h fp->∀ b∈fp,∃ o,h b=some o
def cr (h:Nat->Option Obj):List bd->List Nat->Prop
 | [],fp=>fp=[]
 | A::As,fp=>∃ f1 f2,fp=f1++f2/\A.sat h f1/\cr h As f2
theorem cr.own :∀ {hs:List bd} {fp:List Nat},cr h hs fp->∀ b∈fp,∃ o,h b=some o
 | [],_,hh,b,hb=>by rw [show _=[] from hh] at hb;cases hb
 | A :: As, _, ⟨f1, f2, e, h1, h2⟩, b, hb => by
  subst e;rcases ZB.1 hb with hb | hb
  ·exact A.own h1 b hb
  ·exact cr.own h2 b hb
theorem cr.loc {h h':Nat->Option Obj}:∀ {hs:List bd} {fp:List Nat},cr h hs fp->(∀ b∈fp,h' b=h b)->cr h' hs fp
 | [],_,hh,_=>hh
 | A :: As, _, ⟨f1, f2, e, h1, h2⟩, hb => by
  subst e;exact ⟨f1,f2,I,A.loc h1 (fun b dM=>hb b (ZJ _ dM)),cr.loc h2 (fun b dM=>hb b (ZW _ dM))⟩
theorem cr.append_iff :∀ {l1 l2:List bd} {fp:List Nat},cr h (l1++l2) fp↔∃ f1 f2,fp=f1++f2/\cr h l1 f1/\cr h l2 f2
 | [],l2,fp=>⟨fun hh=>⟨[],fp,rfl,rfl,hh⟩,fun ⟨f1,f2,e,h1,h2⟩=>by rw [show f1=[] from h1] at e;simpa [e] using h2⟩
 | A :: l1, l2, fp => by
  constructor
  ·rintro ⟨f1,f2,rfl,h1,h2⟩;obtain ⟨g1,g2,rfl,h3,h4⟩:=cr.append_iff.1 h2;exact ⟨f1++g1,g2,by simp,⟨f1,g1,I,h1,h3⟩,h4⟩
  ·rintro ⟨f1,f2,rfl,⟨g1,g2,rfl,h1,h2⟩,h3⟩;exact ⟨g1,g2++f2,by simp,h1,cr.append_iff.2 ⟨g2,f2,I,h2,h3⟩⟩
inductive Take:List bd->bd->List bd->Prop
 | here {A:bd} {r:List bd}:Take (A::r) A r
 | there {A X:bd} {r r':List bd} (h:Take r A r'):Take (X::r) A (X::r')
theorem Take.append {hs hs':List bd} {A:bd} (h:Take hs A hs') (m:List bd):Take (hs++m) A (hs'++m):=by
 induction h with
 | here=>exact .here
 | there _ ih=>exact .there ih
theorem cr.take {hs hs':List bd} {A:bd} (ht:Take hs A hs'):∀ {fp:List Nat},cr h hs fp->∃ f1 f2,A.sat h f1/\cr h hs' f2/\fp.Perm (f1++f2):=by
 induction ht with
 | here =>
  rintro fp ⟨f1,f2,rfl,h1,h2⟩;exact ⟨f1,f2,h1,h2,.refl _⟩
 | there _ ih =>
  rintro fp ⟨f1,f2,rfl,h1,h2⟩;obtain ⟨g1,g2,h3,h4,hp⟩:=ih h2;refine ⟨g1,f1++g2,h3,⟨f1,g2,I,h1,h4⟩,?_⟩;exact (hp.append_left f1).trans (by
   rw [<- Zh,<- Zh];exact (List.perm_append_comm).append_right g2)
structure aJ (md:List Nat) (w w':World):Prop where
 os:w'.os=w.os
 tape:w'.tape=w.tape
 output:w'.output=w.output
 dr:w.drawn<=w'.drawn
 size:w.heap.size<=w'.heap.size
 block:∀ k,k<w.heap.size->k ∉ md->w'.heap[k]? = w.heap[k]?
theorem aJ.refl (md:List Nat) (w:World):aJ md w w:=⟨I,I,I,Zz _,Zz _,fun _ _ _=>rfl⟩
theorem aJ.trans {md:List Nat} {a b c:World} (h:aJ md a b) (k:aJ md b c):aJ md a c:=
 ⟨k.os.trans h.os,k.tape.trans h.tape,k.output.trans h.output,ZS h.dr k.dr,ZS h.size k.size,fun i hi hm=>(k.block i (ZaO hi h.size) hm).trans (h.block i hi hm)⟩
theorem aJ.mono {md md':List Nat} {w w':World} (h:aJ md w w') (hs:∀ b∈md,b∈md'):aJ md' w w':=
 ⟨h.os,h.tape,h.output,h.dr,h.size,fun k hk hm=>h.block k hk (fun hb=>hm (hs k hb))⟩
theorem aJ.below {w w':World} (h:aJ [] w w'):Below w.heap.size w w':=⟨h.os,h.tape,h.output,h.size,fun k hk=>h.block k hk (by simp)⟩
theorem aJ.Lh {w w':World} (h:Below w.heap.size w w') (hd:w.drawn<=w'.drawn):aJ [] w w':=⟨h.os,h.tape,h.output,hd,h.size,fun k hk _=>h.block k hk⟩
theorem aJ.drew (md:List Nat) (w:World):aJ md w w.drew:=⟨I,I,I,Nat.le_succ _,Zz _,fun _ _ _=>rfl⟩
theorem aJ.alloc (md:List Nat) (w:World) (o:Obj):aJ md w (w.alloc o):=
 ⟨I,I,I,Zz _,by simp,fun k hk _=>by show (w.heap.push o)[k]? = _;rw [Array.getElem?_push,if_neg (by omega)]⟩
structure Cx where
 w0:World
 md:List Nat
 nt:Nat
structure Mem (c:Cx) (hs:List bd) (w:World):Prop where
 keeps:aJ c.md c.w0 w
 own:∃ fp:List Nat,fp.Nodup/\cr (hp w) hs fp/\∀ b∈fp,c.w0.heap.size<=b\/b∈c.md
theorem Mem.take {c:Cx} {hs hs':List bd} {A:bd} {w:World} (h:Mem c hs w) (ht:Take hs A hs'):Mem c (A::hs') w:=by
 obtain ⟨k,fp,hn,hs,hb⟩:=h;obtain ⟨f1,f2,h1,h2,hp⟩:=hs.take ht;exact ⟨k,f1++f2,hp.nodup_iff.1 hn,⟨f1,f2,I,h1,h2⟩,fun b dM=>hb b (hp.mem_iff.2 dM)⟩
theorem Mem.change {c:Cx} {As Bs hs:List bd} {w w':World} (h:Mem c (As++hs) w)
  (PU:∀ fp,fp.Nodup->cr (hp w) As fp->aJ fp w w'/\∃ mH:List Nat,mH.Nodup/\cr (hp w') Bs mH/\∀ b∈mH,b∈fp\/w.heap.size<=b):Mem c (Bs++hs) w':=by
 obtain ⟨k,fp,hn,hs,hb⟩:=h;obtain ⟨f1,f2,rfl,h1,h2⟩:=cr.append_iff.1 hs;obtain ⟨n1,n2,n12⟩:=ZK.1 hn;obtain ⟨hk,mH,uR,hs',zQ⟩:=PU f1 n1 h1;have aM:∀ b∈f2,b<w.heap.size:=fun b dM=>let ⟨o,ho⟩:=h2.own b dM;lg ho
 refine ⟨?_,mH++f2,?_,cr.append_iff.2 ⟨mH,f2,I,hs',h2.loc fun b dM=>?_⟩,?_⟩
 ·refine ⟨hk.os.trans k.os,hk.tape.trans k.tape,hk.output.trans k.output,ZS k.dr hk.dr,ZS k.size hk.size,fun b dM hm=>?_⟩;rw [<- k.block b dM hm];refine hk.block b (ZaO dM k.size) (fun hf=>?_);rcases hb b (ZJ _ hf) with h | h
  ·omega
  ·exact hm h
 ·refine ZK.2 ⟨uR,n2,fun x hx y hy e=>?_⟩;subst e;rcases zQ x hx with h | h
  ·exact n12 x h x hy I
  ·have:=aM x hy;omega
 ·exact hk.block b (aM b dM) (fun hf=>n12 b hf b dM I)
 ·intro b dM;rcases ZB.1 dM with h | h
  ·rcases zQ b h with h | h
   ·exact hb b (ZJ _ h)
   ·exact .inl (ZS k.size h)
  ·exact hb b (ZW _ h)
theorem Mem.sP {c:Cx} {hs:List bd} {w w':World} (h:Mem c hs w) (hk:aJ [] w w'):Mem c hs w':=
 Mem.change (As:=[]) (Bs:=[]) h fun fp _ hf=>by
  rw [show fp=[] from hf];exact ⟨hk,[],Zah,I,by simp⟩
theorem Mem.drew {c:Cx} {hs:List bd} {w:World} (h:Mem c hs w):Mem c hs w.drew:=h.sP (.drew _ _)
theorem Mem.mq {c:Cx} {l m:List bd} {w:World} (h:Mem c (l++m) w):Mem c l w:=by
 obtain ⟨k,fp,hn,hs,hb⟩:=h;obtain ⟨f1,f2,rfl,h1,h2⟩:=cr.append_iff.1 hs;exact ⟨k,f1,(ZK.1 hn).1,h1,fun b dM=>hb b (ZJ _ dM)⟩
theorem Mem.xA {c:Cx} {A:bd} {l:List bd} {w:World} (h:Mem c (A::l) w):Mem c l w:=by
 obtain ⟨k,fp,hn,⟨f1,f2,rfl,h1,h2⟩,hb⟩:=h;exact ⟨k,f2,(ZK.1 hn).2.1,h2,fun b dM=>hb b (ZW _ dM)⟩
def bz (b:Nat) (o:Obj):bd where
 sat h fp:=fp=[b]/\h b=some o
 loc:=fun ⟨e,h1⟩ hb=>⟨e,by rw [hb _ (by rw [e];simp)];exact h1⟩
 own:=fun ⟨e,h1⟩ b' dM=>by rw [e] at dM;rw [ZG.1 dM];exact ⟨o,h1⟩
theorem Mem.bz {c:Cx} {hs hs':List bd} {b:Nat} {o:Obj} {w:World} (h:Mem c hs w) (ht:Take hs (bz b o) hs'):w.heap[b]? = some o:=by
 obtain ⟨_,fp,_,⟨f1,f2,_,⟨_,h1⟩,_⟩,_⟩:=h.take ht;exact h1
theorem Mem.alloc {c:Cx} {hs:List bd} {w:World} (h:Mem c hs w) (o:Obj):Mem c (SL.bz w.heap.size o::hs) (w.alloc o):=
 Mem.change (As:=[]) (Bs:=[SL.bz w.heap.size o]) h fun fp _ hf=>by
  rw [show fp=[] from hf];refine ⟨.alloc _ _ _,[w.heap.size],by simp,⟨[w.heap.size],[],I,⟨I,World.alloc_heap_new w o⟩,I⟩,by simp⟩
theorem Mem.store {c:Cx} {hs:List bd} {o o':Obj} {w w':World} (h:Mem c (SL.bz b o::hs) w) (hk:aJ [b] w w') (ho:w'.heap[b]? = some o'):Mem c (SL.bz b o'::hs) w':=
 Mem.change (As:=[SL.bz b o]) (Bs:=[SL.bz b o']) h fun fp _ hf=>by
  obtain ⟨f1,f2,e,⟨e1,_⟩,e2⟩:=hf;have:fp=[b]:=by rw [e,e1,show f2=[] from e2];rfl
  subst this;exact ⟨hk,[b],by simp,⟨[b],[],I,⟨I,ho⟩,I⟩,fun x hx=>.inl hx⟩
theorem Mem.base {c:Cx} {hs:List bd} {w:World} (h:Mem c hs w) {b:Nat} (hb:b<c.w0.heap.size) (hm:b ∉ c.md):w.heap[b]? = c.w0.heap[b]?:=h.keeps.block b hb hm
def mark (r:Nat):Deferred:={ target:=.collected r,args:=#[] }
def nE (D:List Nat):List bd:=D.map fun r=>bz r (.deferred (some []))
structure St (c:Cx) (D:List Nat) (sl:aL) (hs:List bd) (a:Act) (w:World):Prop where
 mem:Mem c (hs++nE D) w
 dj:bU sl a
 size:a.tmps.size=c.nt
 defers:a.defers=D.map mark
def Tr (c:Cx) (D:List Nat) (sl:aL) (hs:List bd) (X:Act->World->Prop):Prop:=∀ a w,St c D sl hs a w->X a w
theorem St.qS {c:Cx} {sl:aL} {hs:List bd} {w:World} (h:St c D sl hs a w):Mem c hs w:=h.mem.mq
theorem St.put {c:Cx} {sl:aL} {hs:List bd} {w:World} (h:St c D sl hs a w) {d:Nat} (hd:d<c.nt) (v:Value):St c D ((d,v)::sl) hs (a.put (some d) v) w:=
 ⟨h.mem,h.dj.put (by rw [h.size];exact hd) v,by simp [Act.put,h.size],h.defers⟩
theorem St.heap {c:Cx} {sl:aL} {hs hs':List bd} {w w':World} (h:St c D sl hs a w) (hm:Mem c (hs'++nE D) w'):St c D sl hs' a w':=
 ⟨hm,h.dj,h.size,h.defers⟩
def FR (r:Option Nat):Fence:={ Fence.wide with round:=r }
def WP (P:Program) (r:Option Nat) (code:Code) (Q:Exit->Act->World->Prop):Act->World->Prop:=code.wpIn (FR r) 0 P Q
def WL (P:Program) (r:Option Nat) (ops:Array Oper) (Q:Exit->Act->World->Prop):List Oper->Act->World->Prop
 | [],a,w=>Q .normal a w
 | o :: rest, a, w =>
  if Region.wanted o (yielded ops a.tmps) then o.wpIn (FR r) 0 P a w (WL P r ops Q rest) Q else WL P r ops Q rest (a.put o.dst undef) w
theorem dT (r:Option Nat) (o:Oper) (P:Program) (w:World) (ρ:Operand->Value):∀ f,o.about P w ρ=some f->(FR r).fn f:=fun _ _=>trivial
theorem yl {P:Program} (l:List Oper):∀ k,(∀ j,l[j]? = ops[k+j]?)->wpOpsIn (FR r) 0 P ops Q (List.range' k l.length)=WL P r ops Q l:=by
 induction l with
 | nil=>intro k _;funext a w;simp [wpOpsIn,WL]
 | cons o l ih =>
  intro k h;have h0:ops[k]? = some o:=by simpa using (h 0).symm
  have ih':=ih (k+1) (fun j=>by have:=h (j+1);simpa [Nat.add_assoc,Nat.add_comm 1 j] using this)
  funext a w;simp only [ZE,List.range'_succ,wpOpsIn,h0,WL,ih'];split
  ·rfl
  ·simp [FR,Fence.wide]
theorem gj {P:Program} {c:Cx} {sl:aL} {hs:List bd} {l:List Oper}
  (h:Tr c D sl hs (WL P r l.toArray Q l)):Tr c D sl hs (WP P r (.region id l.toArray false) Q):=fun a w a7=>by
 unfold WP;refine wpIn_region ?_;rw [List.range_eq_range',show l.toArray.size=l.length from by simp,yl l 0 (by simp)];exact h a w a7
theorem j6 {P:Program} {c:Cx} {sl:aL} {hs:List bd} {x y:Code}
  (h:Tr c D sl hs (WP P r x (Exit.then (WP P r y Q) Q))):Tr c D sl hs (WP P r (.seq x y) Q):=fun a w a7=>wpIn_seq (h a w a7)
theorem kJ {P:Program} {c:Cx} {sl:aL} {hs:List bd}
  (h:Tr c D sl hs (Q .normal)):Tr c D sl hs (WL P r ops Q []):=h
theorem iM {c:Cx} {sl:aL} {hs:List bd}
  (h:Tr c D sl hs N):Tr c D sl hs (Exit.then N Q .normal):=h
theorem Cf {c:Cx} {sl:aL} {hs:List bd}
  (h:Tr c D sl hs (Q .ret)):Tr c D sl hs (Exit.then N Q .ret):=h
theorem Aw {c:Cx} {sl:aL} {hs:List bd}
  (h:Tr c D sl hs (Q (.exit id))):Tr c D sl hs (Exit.then N Q (.exit id)):=h
theorem qZ {c:Cx} {sl:aL} {hs:List bd}
  (h:Tr c D sl hs (Q .normal)):Tr c D sl hs (Exit.inBlock id Q .normal):=h
theorem Ed {c:Cx} {sl:aL} {hs:List bd}
  (h:Tr c D sl hs (Q .ret)):Tr c D sl hs (Exit.inBlock id Q .ret):=h
theorem Cn {c:Cx} {sl:aL} {hs:List bd}
  (h:Tr c D sl hs (Q .normal)):Tr c D sl hs (Exit.inBlock id Q (.exit id)):=fun a w a7=>by
 simp only [Exit.inBlock,if_true];exact h a w a7
theorem vT {c:Cx} {sl:aL} {hs:List bd} {id YC:Nat} (hne:Nat.beq YC id=false)
  (h:Tr c D sl hs (Q (.exit YC))):Tr c D sl hs (Exit.inBlock id Q (.exit YC)):=fun a w a7=>by
 have:¬ YC=id:=fun e=>by subst e;simp at hne
 simp only [Exit.inBlock,this,if_false];exact h a w a7
theorem Kq {P:Program} {c:Cx} {sl:aL} {hs:List bd} {x:Code}
  (h:Tr c D sl hs (WP P r x (Exit.inBlock id Q))):Tr c D sl hs (WP P r (.block id x) Q):=fun a w a7=>wpIn_block (h a w a7)
theorem Ay {P:Program} {c:Cx} {sl:aL} {hs:List bd}
  (h:Tr c D sl hs (Q .normal)):Tr c D sl hs (WP P r .skip Q):=fun a w a7=>wpIn_skip (h a w a7)
theorem Oe {P:Program} {c:Cx} {sl:aL} {hs:List bd}
  (h:Tr c D sl hs (Q (.exit id))):Tr c D sl hs (WP P r (.exit id) Q):=fun a w a7=>wpIn_exit (h a w a7)
theorem Kl {P:Program} {c:Cx} {sl:aL} {hs:List bd}
  (h:Tr c D sl hs (Q .ret)):Tr c D sl hs (WP P r .ret Q):=fun a w a7=>wpIn_ret (h a w a7)
theorem FV {P:Program} {c:Cx} {sl:aL} {hs:List bd} {b:Bool} {u v:Code} (hx:Is sl x (.bool b))
  (ht:b=true->Tr c D sl hs (WP P r u Q)) (hf:b=false->Tr c D sl hs (WP P r v Q)):Tr c D sl hs (WP P r (.cond x u v) Q):=fun a w a7=>
 wpIn_cond_split (hx a a7.dj) (fun e=>ht e a w a7) (fun e=>hf e a w a7)
theorem cY {P:Program} {c:Cx} {sl:aL} {hs:List bd} {u v:Code} (hx:Is sl x (.bool true))
  (ht:Tr c D sl hs (WP P r u Q)):Tr c D sl hs (WP P r (.cond x u v) Q):=fun a w a7=>wpIn_cond_true (hx a a7.dj) (ht a w a7)
theorem bZ {P:Program} {c:Cx} {sl:aL} {hs:List bd} {u v:Code} (hx:Is sl x (.bool false))
  (ht:Tr c D sl hs (WP P r v Q)):Tr c D sl hs (WP P r (.cond x u v) Q):=fun a w a7=>wpIn_cond_false (hx a a7.dj) (ht a w a7)
theorem Hq {P:Program} {c:Cx} {sl:aL} {hs:List bd} {p:Prop} {inst:Decidable p} {u v:Code} (hx:Is sl x (.bool (decide p)))
  (ht:p->Tr c D sl hs (WP P r u Q)) (hf:¬ p->Tr c D sl hs (WP P r v Q)):Tr c D sl hs (WP P r (.cond x u v) Q):=
 FV hx (fun e=>ht (of_decide_eq_true e)) (fun e=>hf (of_decide_eq_false e))
theorem Ob {P:Program} {c:Cx} {sl:aL} {hs:List bd} {x:Code} {ι:Type} (Φ:ι->Prop) (sI:ι->aL) (hI:ι->List bd) (μ:ι->Nat)
  (h0:Tr c D sl hs fun a w=>∃ i,Φ i/\St c D (sI i) (hI i) a w)
  (round:∀ i,Φ i->Tr c D (sI i) (hI i) (WP P r x (Exit.then (fun a w=>∃ j,Φ j/\μ j<μ i/\St c D (sI j) (hI j) a w) Q))) :
  Tr c D sl hs (WP P r (.loop x) Q):=fun a w a7=>by
 have key:∀ (n:Nat) i,μ i=n->Φ i->∀ a w,St c D (sI i) (hI i) a w->True:=fun _ _ _ _ _ _ _=>trivial
 -- a measure on aal: ze least 'μ i' of acU Oh fit
 let fits:Act->World->Nat->Prop:=fun a w n=>∃ i,Φ i/\μ i=n/\St c D (sI i) (hI i) a w
 have least:∀ a w,(∃ n,fits a w n)->∃ n,fits a w n/\∀ m,fits a w m->n<=m:=by
  intro a w ⟨n,hn⟩
  induction n using Nat.strongRecOn with
  | _ n ih =>
   by_cases h:∃ m,m<n/\fits a w m
   ·obtain ⟨m,hm,hf⟩:=h;exact ih m hm hf
   ·exact ⟨n,hn,fun m hm=>ZaS fun aM=>h ⟨m,aM,hm⟩⟩
 let M:Act->World->Nat:=fun a w=>Classical.epsilon fun n=>fits a w n/\∀ m,fits a w m->n<=m
 have hM:∀ a w,(∃ n,fits a w n)->fits a w (M a w)/\∀ m,fits a w m->M a w<=m:=fun a w h=>Classical.epsilon_spec (least a w h)
 refine wpIn_loop (fun a w=>∃ n,fits a w n) M ?_ ?_
 ·obtain ⟨i,hi,hs⟩:=h0 a w a7;exact ⟨μ i,i,hi,I,hs⟩
 ·intro a w hI;obtain ⟨⟨i,hi,hm,hs⟩,_⟩:=hM a w hI;refine wpIn_mono (round i hi a w hs) fun e a' w' h=>?_;cases e with
  | normal =>
   obtain ⟨j,hj,aM,hs'⟩:=h;have hf:fits a' w' (μ j):=⟨j,hj,I,hs'⟩;exact ⟨⟨_,hf⟩,Nat.lt_of_le_of_lt ((hM a' w' ⟨_,hf⟩).2 _ hf) (by rw [<- hm];exact aM)⟩
  | _=>exact h
theorem nH {P:Program} {w:World} (hg:o.guard=none)
  (h:o.wpIn (FR r) 0 P a w (WL P r ops Q rest) Q):WL P r ops Q (o::rest) a w:=by
 unfold WL;rw [if_pos (by simp [Region.wanted,hg])];exact h
def du (P:Program) (c:Cx) (sl:aL) (hs:List bd) (o:Oper) (V:Value):Prop:=
 (∀ d,o.op≠.defer d)/\∀ a w,bU sl a->Mem c hs w->(execOp a.eval o).run P w=.ok (.value V) w
theorem ab {P:Program} {c:Cx} {sl:aL} {hs:List bd} {ty:TypeId} {pos:String} {af:Array Edge}
  (hr:du P c sl hs ⟨some d,op,ty,pos,af,none⟩ V) (hd:Nat.blt d c.nt=true) (k:Tr c D ((d,V)::sl) hs (WL P r ops Q rest)) :
  Tr c D sl hs (WL P r ops Q (⟨some d,op,ty,pos,af,none⟩::rest)):=fun a w a7=>by
 refine nH I ⟨dT _ _ _ _ _,?_⟩;rw [Oper.semAt_eq _ _ _ hr.1,hr.2 a w a7.dj a7.qS];exact k _ _ (a7.put (by simpa [Z4] using hd) V)
theorem lX {j g:Nat} {want c0 q:Bool} {sl:aL} (hg:o.guard=some (j,want)) (hj:((ops[j]?).bind (·.dst))=some g) (hs:bU sl a) (hq:c5 sl g=some (gv c0 (.bool q))) :
  Region.wanted o (yielded ops a.tmps)=(c0&&(q==want)):=by
 have ht:=hs _ _ hq;simp only [Region.wanted,hg,yielded,hj,Option.bind_some,ht];cases c0 <;> cases q <;> cases want <;> rfl
theorem FQ {P:Program} {c:Cx} {sl:aL} {hs:List bd} {ty:TypeId} {pos:String} {af:Array Edge}
  {j g:Nat} {want c0 q:Bool} (hj:((ops[j]?).bind (·.dst))=some g) (hq:c5 sl g=some (gv c0 (.bool q)))
  (hr:(c0&&(q==want))=true->du P c sl hs ⟨some d,op,ty,pos,af,some (j,want)⟩ V) (hd:Nat.blt d c.nt=true) (k:Tr c D ((d,gv (c0&&(q==want)) V)::sl) hs (WL P r ops Q rest)) :
  Tr c D sl hs (WL P r ops Q (⟨some d,op,ty,pos,af,some (j,want)⟩::rest)):=fun a w a7=>by
 unfold WL;rw [lX I hj a7.dj hq];by_cases h:(c0&&(q==want))=true
 ·rw [if_pos h];refine ⟨dT _ _ _ _ _,?_⟩;rw [Oper.semAt_eq _ _ _ (hr h).1,(hr h).2 a w a7.dj a7.qS];rw [vH h] at k;exact k _ _ (a7.put (by simpa [Z4] using hd) V)
 ·rw [if_neg h];rw [xw (by simpa using h)] at k;exact k _ _ (a7.put (by simpa [Z4] using hd) undef)
theorem vQ {P:Program} {c:Cx} {sl:aL} {hs:List bd} {ty:TypeId} {pos:String} {af:Array Edge}
  {j g:Nat} {want q:Bool} (hj:((ops[j]?).bind (·.dst))=some g) (hq:c5 sl g=some (.bool q))
  (hr:(q==want)=true->du P c sl hs ⟨some d,op,ty,pos,af,some (j,want)⟩ V) (hd:Nat.blt d c.nt=true) (k:Tr c D ((d,gv (q==want) V)::sl) hs (WL P r ops Q rest)) :
  Tr c D sl hs (WL P r ops Q (⟨some d,op,ty,pos,af,some (j,want)⟩::rest)):=
 FQ (c0:=true) hj (by rw [hq];rfl) (by simpa using hr) hd (by simpa using k)
end Go.SL
namespace Go.SL
open Go
def lx:TypeDesc->Bool
 | .struct _ | .array _ _=>true
 | _=>false
def QK (P:Program) (t:TypeId):Option (Bool×Nat):=
 match P.underlying t,P.info? t with
 | some d,some i=>some (lx d,i.size)
 | _,_=>none
class Ty (P:Program) (t:TypeId) (agg:outParam Bool) (n:outParam Nat):Prop where
 eq:QK P t=some (agg,n)
class jw (P:Program) (t:TypeId) (d:outParam TypeDesc):Prop where
 eq:P.underlying t=some d
class mL (P:Program) (t:TypeId) (v:outParam Value):Prop where
 eq:(P.info? t).map (·.zero)=some (some v)
class xX (P:Program) (t:TypeId) (n:outParam Nat):Prop where
 eq:(P.info? t).map (·.bytes)=some n
section
variable {P:Program} {w:World} {t:TypeId}
variable {agg:Bool} {n:Nat} {v:Value} {vs:List Value}
theorem Ty.parts [h:Ty P t agg n]:∃ d i,P.underlying t=some d/\P.info? t=some i/\lx d=agg/\i.size=n:=by
 have:=h.eq;unfold QK at this;split at this
 ·rename_i d i hd hi;cases this;exact ⟨d,i,hd,hi,I,I⟩
 ·cases this
theorem aX {d:TypeDesc} (h:P.underlying t=some d):(underlying t).run P w=.ok d w:=by simp [underlying,h]
theorem gz {i:TypeInfo} (h:P.info? t=some i):(typeInfo t).run P w=.ok i w:=by simp [typeInfo,h]
theorem gl [h:Ty P t agg n]:(sizeOf t).run P w=.ok n w:=by
 obtain ⟨d,i,_,hi,_,hn⟩:=Ty.parts (P:=P) (t:=t);simp [sizeOf,gz hi,hn]
theorem wq [h:Ty P t agg n]:(isAgg t).run P w=.ok agg w:=by
 obtain ⟨d,i,hd,_,ha,_⟩:=Ty.parts (P:=P) (t:=t);unfold isAgg;rw [Sem.run_bind,aX hd,Result.andThen_ok];subst ha;cases d <;> rfl
theorem jm [h:mL P t v]:(zeroValue t).run P w=.ok v w:=by
 have:=h.eq;cases hi:P.info? t with
 | none=>rw [hi] at this;cases this
 | some i =>
  rw [hi] at this;have hz:i.zero=some v:=by simpa using this
  simp [zeroValue,gz hi,hz]
theorem AQ {a:Addr} (h:w.cell? a=some v) (m:Mode):(load a m).run P w=.ok v w:=by simp [h]
theorem cell_of_block {b:Nat} {cs:Array Value} {E:TypeId} {fz:Nat×Nat} (h:w.heap[b]? = some (.cells cs E fz)) (o:Nat):w.cell? ⟨b,o,none⟩=cs[o]?:=by
 simp [World.cell?,h]
theorem eJ (b o n:Nat):Addr.add ⟨b,o,none⟩ n=⟨b,o+n,none⟩:=by
 unfold Addr.add;split
 ·rename_i h;simp [h]
 ·rfl
theorem nL {b o:Nat}:∀ (n i:Nat) (acc:Array Value) (vs:List Value),vs.length=n->(∀ j v,vs[j]? = some v->w.cell? ⟨b,o+(i+j),none⟩=some v) ->
  (loadCellsFrom ⟨b,o,none⟩ i n acc).run P w=.ok (acc++vs.toArray) w
 | 0, i, acc, vs, hl, _ => by
  have:vs=[]:=Zak.1 hl;subst this;simp [loadCellsFrom]
 | n+1,i,acc,[],hl,_=>by simp at hl
 | n + 1, i, acc, v :: vs, hl, hc => by
  have h0:w.cell? (Addr.add ⟨b,o,none⟩ i)=some v:=by rw [eJ];exact hc 0 v I
  simp only [loadCellsFrom,Sem.run_bind,AQ h0,Result.andThen_ok];rw [nL n (i+1) (acc.push v) vs (by simpa using hl) (fun j u hu=>by
   have:=hc (j+1) u (by simpa using hu);rw [show i+1+j=i+(j+1) from by omega];exact this)]
  simp
theorem sy {b o n:Nat} (hl:vs.length=n) (hc:∀ j v,vs[j]? = some v->w.cell? ⟨b,o+j,none⟩=some v):(loadCells ⟨b,o,none⟩ n).run P w=.ok vs.toArray w:=by
 unfold loadCells;rw [nL n 0 #[] vs hl (fun j v hv=>by simpa using hc j v hv)]
 simp
theorem uC {b o n:Nat} [Ty P t false n] (hc:w.cell? ⟨b,o,none⟩=some v):(loadVar t ⟨b,o,none⟩).run P w=.ok v w:=by
 unfold loadVar;rw [Sem.run_bind,wq (agg:=false) (n:=n),Result.andThen_ok];simp [hc]
theorem pB {b o n:Nat} [Ty P t true n] (hl:vs.length=n) (hc:∀ j v,vs[j]? = some v->w.cell? ⟨b,o+j,none⟩=some v):(loadVar t ⟨b,o,none⟩).run P w=.ok (.agg vs.toArray) w:=by
 unfold loadVar;rw [Sem.run_bind,wq (agg:=true) (n:=n),Result.andThen_ok];simp only [if_true,Sem.run_bind,gl (t:=t) (agg:=true) (n:=n),Result.andThen_ok,sy hl hc,Sem.run_pure]
end
def At (c:Cx) (hs:List bd) (b o:Nat) (v:Value):Prop:=∀ w,Mem c hs w->w.cell? ⟨b,o,none⟩=some v
variable {b:Nat} {cs:List Value} {fz:Nat×Nat} {o:Nat} {v:Value} {vs:List Value}
theorem At.bz {c:Cx} {hs hs':List bd} {cs:Array Value} {E:TypeId} (ht:Take hs (SL.bz b (.cells cs E fz)) hs') (hv:cs[o]? = some v):At c hs b o v:=
 fun w hm=>by rw [cell_of_block (hm.bz ht)];exact hv
theorem At.base {c:Cx} {hs:List bd} (h:c.w0.cell? ⟨b,o,none⟩=some v) (H0:c.md=[]):At c hs b o v:=fun w hm=>by
 have hb:b<c.w0.heap.size:=World.block_lt_of_cell? c.w0 ⟨b,o,none⟩ h;have:=hm.base hb (by rw [H0];simp);rw [<- h];simp [World.cell?,this]
theorem At.DJ {c:Cx} {hs:List bd} (h:c.w0.cell? ⟨b,o,none⟩=some v) (H0:b ∉ c.md):At c hs b o v:=fun w hm=>by
 have hb:b<c.w0.heap.size:=World.block_lt_of_cell? c.w0 ⟨b,o,none⟩ h;have:=hm.base hb H0;rw [<- h];simp [World.cell?,this]
def eR (c:Cx) (hs:List bd) (b o:Nat):List Value->Prop
 | []=>True
 | v::vs=>At c hs b o v/\eR c hs b (o+1) vs
theorem eR.get {c:Cx} {hs:List bd}:∀ {vs:List Value} {o:Nat},eR c hs b o vs->∀ j v,vs[j]? = some v->At c hs b (o+j) v
 | [],_,_,j,v,h=>by simp at h
 | x :: vs, o, ⟨h0, h1⟩, j, v, h => by
  cases j with
  | zero=>simp at h;subst h;exact h0
  | succ j=>have:=eR.get h1 j v (by simpa using h);rwa [show o+1+j=o+(j+1) from by omega] at this
theorem eR.tP {c:Cx} {hs:List bd}:∀ {vs:List Value} {o:Nat},(∀ j v,vs[j]? = some v->At c hs b (o+j) v)->eR c hs b o vs
 | [],_,_=>trivial
 | x::vs,o,h=>⟨h 0 x rfl,eR.tP fun j v hv=>by have:=h (j+1) v (by simpa using hv);rwa [show o+(j+1)=o+1+j from by omega] at this⟩
theorem eR.base {c:Cx} {hs:List bd} (h:∀ (j:Nat) (u:Value),vs[j]? = some u->c.w0.cell? ⟨b,o+j,none⟩=some u) (H0:c.md=[]):eR c hs b o vs:=
 eR.tP fun j u hu=>At.base (h j u hu) H0
def eH:List Value->Nat->Nat->List Value
 | _,_,0=>[]
 | [],_,_+1=>[]
 | v::r,0,n+1=>v::eH r 0 n
 | _::r,o+1,n+1=>eH r o (n+1)
theorem ka:∀ (cs:List Value) (o n:Nat),eH cs o n=(cs.drop o).take n
 | cs,o,0=>by simp [eH]
 | [],o,n+1=>by simp [eH]
 | v::r,0,n+1=>by simp [eH,ka r 0 n]
 | v::r,o+1,n+1=>by simp [eH,ka r o (n+1)]
def u6:List Value->Nat->Option Value
 | [],_=>none
 | v::_,0=>some v
 | _::r,n+1=>u6 r n
theorem vD:∀ (cs:List Value) (o:Nat),u6 cs o=cs[o]?
 | [],_=>by simp [u6]
 | v::_,0=>by simp [u6]
 | _::r,n+1=>by simp [u6,vD r n]
theorem At.lit {c:Cx} {hs hs':List bd} {E:TypeId} (ht:Take hs (SL.bz b (.cells cs.toArray E fz)) hs') (hv:u6 cs o=some v):At c hs b o v:=
 At.bz ht (by rw [vD] at hv;simpa using hv)
theorem eR.bz {c:Cx} {hs hs':List bd} {b o n:Nat} {E:TypeId} (ht:Take hs (SL.bz b (.cells cs.toArray E fz)) hs') (hv:eH cs o n=vs):eR c hs b o vs:=by
 subst hv;refine eR.tP fun j v hv=>At.bz ht ?_;simp only [ka,ZC,Zbm] at hv;split at hv
 ·simpa using hv
 ·cases hv
section
variable {P:Program} {c:Cx} {sl:aL} {hs hs':List bd} {dst:Option Tmp} {ty:TypeId} {pos:String} {af:Array Edge} {g:Option (Nat×Bool)}
variable {a:Int} {agg:Bool} {b i:Int} {k:IntKind} {n:Nat} {op:BinOp} {s:ByteArray} {v:Value} {vs:List Value} {x y:Operand}
theorem aS (hx:Is sl x v):du P c sl hs ⟨dst,.move x,ty,pos,af,g⟩ v:=
 ⟨by simp,fun a w ha _=>by simp [execOp,hx a ha]⟩
theorem cC (hx:Is sl x v):du P c sl hs ⟨dst,.assign x,ty,pos,af,g⟩ v:=
 ⟨by simp,fun a w ha _=>by simp [execOp,hx a ha]⟩
theorem vq {x y z:Operand} {q:Bool} {v u:Value} (hx:Is sl x (.bool q)) (hy:Is sl y v) (hz:Is sl z u):du P c sl hs ⟨dst,.pick x y z,ty,pos,af,g⟩ (bif q then v else u):=
 ⟨by simp,fun a w ha _=>by simp [execOp,hx a ha,hy a ha,hz a ha,asBool,cond_eq_ite]⟩
theorem bH {t:Nat} {p q:Bool} (hx:Is sl x (.bool p)) (hq:c5 sl t=some (gv (p==false) (.bool q))) :
  du P c sl hs ⟨dst,.pick x (.const (.bool true)) (.tmp t),ty,pos,af,g⟩ (.bool (p||q)):=
 ⟨by simp,fun a w ha _=>by
  have h2:=ha.eval hq;simp only [execOp,hx a ha,h2,asBool];cases p <;> simp [gv,Act.eval]⟩
theorem ch {t:Nat} {p q:Bool} (hx:Is sl x (.bool p)) (hq:c5 sl t=some (gv (p==true) (.bool q))) :
  du P c sl hs ⟨dst,.pick x (.tmp t) (.const (.bool false)),ty,pos,af,g⟩ (.bool (p&&q)):=
 ⟨by simp,fun a w ha _=>by
  have h2:=ha.eval hq;simp only [execOp,hx a ha,h2,asBool];cases p <;> simp [gv,Act.eval]⟩
theorem kY {t:Nat} {c0 p q:Bool} (hc:c0=true) (hx:Is sl x (.bool p)) (hq:c5 sl t=some (gv (c0&&(p==false)) (.bool q))) :
  du P c sl hs ⟨dst,.pick x (.const (.bool true)) (.tmp t),ty,pos,af,g⟩ (.bool (p||q)):=bH hx (by rw [hq,hc,Zau])
theorem jn {t:Nat} {c0 p q:Bool} (hc:c0=true) (hx:Is sl x (.bool p)) (hq:c5 sl t=some (gv (c0&&(p==true)) (.bool q))) :
  du P c sl hs ⟨dst,.pick x (.tmp t) (.const (.bool false)),ty,pos,af,g⟩ (.bool (p&&q)):=ch hx (by rw [hq,hc,Zau])
theorem jH {t u:TypeId} {v u' r:Value} (hx:Is sl x v) (hy:Is sl y u') (hr:∀ w,(do eqGuard op t x y v u';binOp op t v u').run P w=.ok r w) :
  du P c sl hs ⟨dst,.binOp op t x y u,ty,pos,af,g⟩ r:=
 ⟨by simp,fun a w ha _=>by
  have:=hr w;simp only [Sem.run_bind] at this;simp only [execOp,hx a ha,hy a ha,Sem.run_bind,this,Result.andThen_ok,Sem.run_pure]⟩
theorem gE {t:TypeId} {k k':IntKind} {w:World}:(eqGuard op t x y (.int k a) (.int k' b)).run P w=.ok () w:=by
 unfold eqGuard;split <;> rfl
theorem mo {t:TypeId} {a b:ByteArray} {w:World}:(eqGuard op t x y (.string a) (.string b)).run P w=.ok () w:=by
 unfold eqGuard;split <;> rfl
theorem BC {t:TypeId} {a b:Bool} {w:World}:(eqGuard op t x y (.bool a) (.bool b)).run P w=.ok () w:=by
 unfold eqGuard;split <;> rfl
def Yo (n:Int):Prop:=-9223372036854775808<=n/\n<=9223372036854775807
theorem KO {t u:TypeId} (hx:Is sl x (.q a)) (hy:Is sl y (.q b)) (hb:Yo (a+b)) :
  du P c sl hs ⟨dst,.binOp .add t x y u,ty,pos,af,g⟩ (.q (a+b)):=
 jH hx hy fun w=>by simp [gE,binOp,Op.intArith,IntWalk.i64_in _ hb]
theorem tK {t u:TypeId} (hx:Is sl x (.q a)) (hy:Is sl y (.q b)) (hb:Yo (a-b)) :
  du P c sl hs ⟨dst,.binOp .sub t x y u,ty,pos,af,g⟩ (.q (a-b)):=
 jH hx hy fun w=>by simp [gE,binOp,Op.intArith,IntWalk.i64_in _ hb]
theorem OK {t u:TypeId} (hx:Is sl x (.int k a)) (hy:Is sl y (.int k b)) :
  du P c sl hs ⟨dst,.binOp .sub t x y u,ty,pos,af,g⟩ (.int k (k.wrap (a-b))):=
 jH hx hy fun w=>by simp [gE,binOp,Op.intArith]
theorem lr {t u:TypeId} (hx:Is sl x (.int k a)) (hy:Is sl y (.int k b)) :
  du P c sl hs ⟨dst,.binOp .lss t x y u,ty,pos,af,g⟩ (.bool (decide (a<b))):=
 jH hx hy fun w=>by simp [gE,binOp,Op.intCmp]
theorem nq {t u:TypeId} (hx:Is sl x (.int k a)) (hy:Is sl y (.int k b)) :
  du P c sl hs ⟨dst,.binOp .leq t x y u,ty,pos,af,g⟩ (.bool (decide (a<=b))):=
 jH hx hy fun w=>by simp [gE,binOp,Op.intCmp]
theorem nr {t u:TypeId} (hx:Is sl x (.int k a)) (hy:Is sl y (.int k b)) :
  du P c sl hs ⟨dst,.binOp .gtr t x y u,ty,pos,af,g⟩ (.bool (decide (b<a))):=
 jH hx hy fun w=>by simp [gE,binOp,Op.intCmp]
theorem AR {t u:TypeId} (hx:Is sl x (.int k a)) (hy:Is sl y (.int k b)) :
  du P c sl hs ⟨dst,.binOp .geq t x y u,ty,pos,af,g⟩ (.bool (decide (b<=a))):=
 jH hx hy fun w=>by simp [gE,binOp,Op.intCmp]
theorem oo {t u:TypeId} (hx:Is sl x (.int k a)) (hy:Is sl y (.int k b)) :
  du P c sl hs ⟨dst,.binOp .eql t x y u,ty,pos,af,g⟩ (.bool (decide (a=b))):=
 jH hx hy fun w=>by simp [gE,binOp,Op.intCmp];rfl
theorem j8 {t u:TypeId} (hx:Is sl x (.int k a)) (hy:Is sl y (.int k b)) :
  du P c sl hs ⟨dst,.binOp .neq t x y u,ty,pos,af,g⟩ (.bool (decide (a≠b))):=
 jH hx hy fun w=>by simp [gE,binOp,Op.intCmp];rfl
theorem eF {t:TypeId} {b:Bool} (hx:Is sl x (.bool b)):du P c sl hs ⟨dst,.unOp .not t x,ty,pos,af,g⟩ (.bool (!b)):=
 ⟨by simp,fun a w ha _=>by simp [execOp,hx a ha,Op.unary]⟩
theorem vo (a b:ByteArray):(a.toList==b.toList)=decide (a=b):=by
 rw [ByteArray.toList_eq,ByteArray.toList_eq,ZaW];simp only [beq_iff_eq,decide_eq_true_eq];constructor
 ·intro h;cases a;cases b;simp at h;rw [h]
 ·intro h;rw [h]
theorem dB {t u:TypeId} {a b:ByteArray} (hx:Is sl x (.string a)) (hy:Is sl y (.string b)) :
  du P c sl hs ⟨dst,.binOp .eql t x y u,ty,pos,af,g⟩ (.bool (decide (a=b))):=
 jH hx hy fun w=>by simp [mo,binOp,Op.stringOp,vo]
theorem fy {t u:TypeId} {a b:ByteArray} (hx:Is sl x (.string a)) (hy:Is sl y (.string b)) :
  du P c sl hs ⟨dst,.binOp .neq t x y u,ty,pos,af,g⟩ (.bool (decide (a≠b))):=
 jH hx hy fun w=>by simp [mo,binOp,Op.stringOp,vo]
theorem tL {t u:TypeId} {a b:ByteArray} (hx:Is sl x (.string a)) (hy:Is sl y (.string b)) (hb:a.size+b.size<=9223372036854775807) :
  du P c sl hs ⟨dst,.binOp .add t x y u,ty,pos,af,g⟩ (.string (a++b)):=
 jH hx hy fun w=>by
  simp [mo,binOp,Op.stringOp];omega
theorem ag {t:TypeId} {b o:Nat} [Ty P t false n] (hx:Is sl x (.pointer (some ⟨b,o,none⟩))) (hv:At c hs b o v) :
  du P c sl hs ⟨dst,.load t x,ty,pos,af,g⟩ v:=
 ⟨by simp,fun a w ha hm=>by simp [execOp,hx a ha,Instr.loadAt,Instr.sureAddr,uC (hv w hm)]⟩
theorem ja {t:TypeId} {b o:Nat} [Ty P t true n] (hx:Is sl x (.pointer (some ⟨b,o,none⟩))) (hv:eR c hs b o vs) (hl:vs.length=n) :
  du P c sl hs ⟨dst,.load t x,ty,pos,af,g⟩ (.agg vs.toArray):=
 ⟨by simp,fun a w ha hm=>by simp [execOp,hx a ha,Instr.loadAt,Instr.sureAddr,pB hl (fun j v h=>hv.get j v h w hm)]⟩
def Du (P:Program) (t:TypeId) (i:Nat):Option Nat:=
 match P.underlying t with
 | some (.struct fs) => match fs[i]? with
  | some f => match P.info? f.type with
   | some fi=>if fi.size=0 then none else some f.offset
   | none=>none
  | none=>none
 | _=>none
class eW (P:Program) (t:TypeId) (i:Nat) (o:outParam Nat):Prop where
 eq:Du P t i=some o
theorem eW.parts {t:TypeId} {i o:Nat} [h:eW P t i o]:∃ fs f fi,P.underlying t=some (.struct fs)/\fs[i]? = some f/\P.info? f.type=some fi/\fi.size≠0/\f.offset=o:=by
 have:=h.eq;unfold Du at this;split at this
 ·rename_i fs Mg;split at this
  ·rename_i f hf;split at this
   ·rename_i fi Uc;split at this
    ·cases this
    ·rename_i hz;cases this;exact ⟨fs,f,fi,Mg,hf,Uc,hz,I⟩
   ·cases this
  ·cases this
 ·cases this
theorem aq {t:TypeId} {i o:Nat} {b k q:Nat} [eW P t i o] (hx:Is sl x (.pointer (some ⟨b,k,none⟩))) (he:k+o=q) :
  du P c sl hs ⟨dst,.fieldAddr t x i,ty,pos,af,g⟩ (.pointer (some ⟨b,q,none⟩)):=
 ⟨by simp,fun a w ha _=>by
  subst he;obtain ⟨fs,f,fi,h1,h2,h3,h4,h5⟩:=eW.parts (P:=P) (t:=t) (i:=i);simp only [execOp,hx a ha,Instr.fieldAt,Sem.run_bind,aX h1,Result.andThen_ok,h2,Instr.sureAddr,Sem.run_pure,fieldPlace,sizeOf,gz h3,h4,if_false,eJ,h5]⟩
def partOf (agg:Bool) (n:Nat) (cs:List Value) (o:Nat):Option Value:=
 bif agg then some (.agg (eH cs o n).toArray) else u6 cs o
theorem OL {t:TypeId} [Ty P t agg n] {cs:List Value} {o:Nat} {v:Value} {w:World} (h:partOf agg n cs o=some v):(part t cs.toArray o).run P w=.ok v w:=by
 unfold part;rw [Sem.run_bind,wq (agg:=agg) (n:=n),Result.andThen_ok];cases agg with
 | true =>
  simp only [partOf,cond_true,Option.some.injEq] at h;simp only [if_true,Sem.run_bind,gl (t:=t) (agg:=true) (n:=n),Result.andThen_ok,Sem.run_pure,<- h,ka];congr 2;simp [List.extract_eq_take_drop]
 | false =>
  simp only [partOf,cond_false,vD] at h;simp [h]
def fieldInfo (P:Program) (t:TypeId) (i:Nat):Option (Nat×TypeId):=
 match P.underlying t with
 | some (.struct fs)=>(fs[i]?).map fun f=>(f.offset,f.type)
 | _=>none
class FTy (P:Program) (t:TypeId) (i:Nat) (o:outParam Nat) (ft:outParam TypeId):Prop where
 eq:fieldInfo P t i=some (o,ft)
theorem CN {t ft:TypeId} {i o n:Nat} {cs:List Value} [h:FTy P t i o ft] [Ty P ft agg n] (hx:Is sl x (.agg cs.toArray)) (hv:partOf agg n cs o=some v) :
  du P c sl hs ⟨dst,.field t x i,ty,pos,af,g⟩ v:=
 ⟨by
   simp,fun a w ha _=>by
  have h1:=h.eq;unfold fieldInfo at h1;split at h1
  ·rename_i fs Mg;obtain ⟨f,hf,he⟩:=Zaq.1 h1;simp only [Prod.mk.injEq] at he;obtain ⟨e1,e2⟩:=he;subst e1;subst e2;simp only [execOp,hx a ha,Instr.field,Sem.run_bind,aX Mg,Result.andThen_ok,hf,asAgg,Sem.run_pure,OL (agg:=agg) (n:=n) hv]
  ·cases h1⟩
theorem an {t e:TypeId} {a0:Option Addr} {b o len cap q:Nat} [hu:jw P t (.slice e)] [Ty P e agg n] (hx:Is sl x (.slice a0 len cap)) (hy:Is sl y (.int k i))
  (ha:a0=some ⟨b,o,none⟩) (h0:0<=i) (h1:i<len) (he:o+i.toNat*n=q):du P c sl hs ⟨dst,.indexAddr t x y,ty,pos,af,g⟩ (.pointer (some ⟨b,q,none⟩)):=
 ⟨by simp,fun a w uP _=>by
  subst he;subst ha;simp [execOp,hx a uP,hy a uP,Instr.indexAt,asIntOf,aX hu.eq,h0,h1,gl (agg:=agg) (n:=n),eJ]⟩
theorem iJ {t e:TypeId} {n len:Nat} {b o q:Nat} [hu:jw P t (.array len e)] [Ty P e agg n] (hx:Is sl x (.pointer (some ⟨b,o,none⟩))) (hy:Is sl y (.int k i))
  (h0:0<=i) (h1:i<len) (he:o+i.toNat*n=q):du P c sl hs ⟨dst,.indexAddr t x y,ty,pos,af,g⟩ (.pointer (some ⟨b,q,none⟩)):=
 ⟨by simp,fun a w ha _=>by
  subst he;simp [execOp,hx a ha,hy a ha,Instr.indexAt,Instr.sureAddr,asIntOf,aX hu.eq,h0,h1,gl (agg:=agg) (n:=n),eJ]⟩
theorem qB {t:TypeId} [hu:jw P t .string] (hx:Is sl x (.string s)) (hy:Is sl y (.int k i))
  (h0:0<=i) (h1:i<s.size):du P c sl hs ⟨dst,.index t x y,ty,pos,af,g⟩ (.int .u8 ((s.data.toList[i.toNat]?.getD 0).toNat:Nat)):=
 ⟨by
   simp,fun a w ha _=>by
  have aM:i.toNat<s.size:=by omega
  have hs:s[i.toNat]? = some s[i.toNat]:=getElem?_pos s i.toNat aM;have hd:s.data.toList[i.toNat]?.getD 0=s[i.toNat]:=by
   rw [ZaM,show s.data[i.toNat]? = some s.data[i.toNat] from Zao aM]
   rfl
  simp [execOp,hx a ha,hy a ha,Instr.index,asIntOf,aX hu.eq,h0,hs,<- hd]⟩
theorem CM {f:Fn} {first captured:Array Operand} {vs us:Array Value} (h1:∀ a,bU sl a->first.map a.eval=vs) (h2:∀ a,bU sl a->captured.map a.eval=us) :
  du P c sl hs ⟨dst,.makeFunc f first captured,ty,pos,af,g⟩ (.func f vs us):=
 ⟨by simp,fun a w ha _=>by simp [execOp,h1 a ha,h2 a ha,Instr.makeFunc]⟩
theorem fR {i:Nat} (hx:Is sl x (.tuple vs.toArray)) (hv:u6 vs i=some v):du P c sl hs ⟨dst,.extract x i,ty,pos,af,g⟩ v:=
 ⟨by simp,fun a w ha _=>by simp [execOp,hx a ha,Instr.extract,<- vD,hv]⟩
theorem KN {t:TypeId} {parts:Array (Nat×Operand)} {ps:Array (Nat×Value)} (hp:∀ a,bU sl a->(parts.map fun (i,x)=>(i,a.eval x))=ps) (hb:∀ w,(Instr.build t ps).run P w=.ok v w) :
  du P c sl hs ⟨dst,.build t parts,ty,pos,af,g⟩ v:=
 ⟨by simp,fun a w ha _=>by simp only [execOp,hp a ha,Sem.run_bind,hb w,Result.andThen_ok,Sem.run_pure]⟩
theorem cq {t:TypeId} {e:TypeId} {b:Option Addr} {n cap:Nat} [hu:jw P t (.slice e)] (hx:Is sl x (.slice b n cap)) :
  du P c sl hs ⟨dst,.call ⟨.builtin .len,#[x],#[t]⟩,ty,pos,af,g⟩ (.q n):=
 ⟨by simp,fun a w ha _=>by simp [execOp,hx a ha,resolve,invoke,builtin,Builtin.len_,aX hu.eq,goInt]⟩
theorem gI {t:TypeId} [hu:jw P t .string] (hx:Is sl x (.string s)) :
  du P c sl hs ⟨dst,.call ⟨.builtin .len,#[x],#[t]⟩,ty,pos,af,g⟩ (.q s.size):=
 ⟨by simp,fun a w ha _=>by simp [execOp,hx a ha,resolve,invoke,builtin,Builtin.len_,aX hu.eq,goInt]⟩
end
end Go.SL
namespace Go.Proofs.A1
open Go Go.SL
structure Wn where
 n:Nat
 ca:Nat->Bool
 fe:Nat->Bool
 fr:Nat->Int
 to:Nat->Int
 Fu:Int
def Wn.fin (N:Wn) (p:List Nat):Int:=match p.getLast? with | none=>N.Fu | some j=>N.to j
def Wn.step (N:Wn) (p:List Nat) (j:Nat):Bool:=decide (j<N.n)&&(!p.contains j&&((p.isEmpty&&N.ca j)||(N.fe j&&decide (N.fr j=N.fin p))))
def Wn.ok (N:Wn) (p:List Nat):Prop:=∀ k (h:k<p.length),N.step (p.take k) p[k]=true
theorem Wn.mn (N:Wn) (p:List Nat) (j:Nat):N.fin (p++[j])=N.to j:=by unfold Wn.fin;rw [List.getLast?_append];rfl
theorem Wn.oz (N:Wn):N.ok []:=fun k h=>absurd h (ZU k)
variable {d:Int} {j:Nat} {p q x:List Nat}
theorem Wn.j4 {N:Wn}:N.ok (p++[j])↔N.ok p/\N.step p j=true:=by
 constructor
 ·intro h;constructor
  ·intro k hk;have:=h k (by rw [Zg];omega);rwa [Zai (by omega),Zat hk] at this
  ·have:=h p.length (by rw [Zg];simp);rwa [Zai (Zz _),Zab (Zz _),Zap (Zz _),List.getElem_singleton] at this
 ·rintro ⟨h1,h2⟩ k hk;rw [Zg] at hk;by_cases hl:k<p.length
  ·rw [Zai (by omega),Zat hl];exact h1 k hl
  ·obtain rfl:k=p.length:=by simp at hk;omega
   rw [Zai (Zz _),Zab (Zz _),Zap (Zz _),List.getElem_singleton];exact h2
theorem Wn.Gm {N:Wn} (h:N.ok p) (k:Nat):N.ok (p.take k):=by
 intro i hi;rw [Zq] at hi;have:=h i (by omega);rwa [List.take_take,Zbf (by omega),ZaU]
theorem Wn.wG {N:Wn} (h:N.ok p) (hp:q <+: p):N.ok q:=by
 rw [List.prefix_iff_eq_take.1 hp];exact Wn.Gm h _
theorem Wn.qy {N:Wn} (h:N.step p j=true):j<N.n:=by
 unfold Wn.step at h;simp only [Zn,decide_eq_true_eq] at h;exact h.1
theorem Wn.vX {N:Wn} (h:N.step p j=true):j ∉ p:=by
 unfold Wn.step at h;simp only [Zn,Zbd,List.contains_eq_mem,decide_eq_false_iff_not] at h;exact h.2.1
theorem Wn.wH {N:Wn} (h:N.ok p):p.Nodup:=by
 have key:∀ k,k<=p.length->(p.take k).Nodup:=by
  intro k
  induction k with
  | zero=>intro _;rw [Ze];exact Zah
  | succ k ih =>
   intro hk;rw [Zm (by omega),ZK];refine ⟨ih (by omega),by simp,?_⟩;intro a ha b hb;rw [ZG] at hb;subst hb;intro e;subst e;exact Wn.vX (h k (by omega)) ha
 have:=key p.length (Zz _);rwa [Zab (Zz _)] at this
theorem Wn.P7 (N:Wn):N.fin []=N.Fu:=rfl
def Wn.sV (N:Wn) (p:List Nat):Nat:=p.countP N.fe
def lexB:List Nat->List Nat->Bool
 | x::a,y::b=>decide (x<y)||(decide (x=y)&&lexB a b)
 | _,_=>false
theorem pL:∀ a,lexB a a=false
 | []=>rfl
 | x::a=>by rw [lexB,pL a];simp
theorem rJ:∀ {a b c:List Nat},lexB a b=true->lexB b c=true->lexB a c=true
 | [],_,_,h,_=>by cases h
 | _::_,[],_,h,_=>by cases h
 | _::_,_::_,[],_,h=>by cases h
 | x :: a, y :: b, z :: c, h1, h2 => by
  rw [lexB] at h1 h2 ⊢;simp only [ZR,Zn,decide_eq_true_eq] at h1 h2 ⊢;rcases h1 with h1 | ⟨h1,Bq⟩ <;> rcases h2 with h2 | ⟨h2,H8⟩
  ·exact .inl (by omega)
  ·exact .inl (by omega)
  ·exact .inl (by omega)
  ·exact .inr ⟨by omega,rJ Bq H8⟩
theorem rK:∀ {a b:List Nat},a.length=b.length->a≠b->lexB a b=true\/lexB b a=true
 | [],[],_,h=>absurd rfl h
 | [],_::_,h,_=>by cases h
 | _::_,[],h,_=>by cases h
 | x :: a, y :: b, hl, h => by
  rw [lexB,lexB];simp only [ZR,Zn,decide_eq_true_eq];by_cases e:x=y
  ·subst e;rcases rK (a:=a) (b:=b) (by simpa using hl) (fun e=>h (by rw [e])) with h | h
   ·exact .inl (.inr ⟨I,h⟩)
   ·exact .inr (.inr ⟨I,h⟩)
  ·rcases Nat.lt_or_gt_of_ne e with h | h
   ·exact .inl (.inl h)
   ·exact .inr (.inl h)
def Wn.lt (N:Wn) (a b:List Nat):Bool:=decide (N.sV a<N.sV b)||(decide (N.sV a=N.sV b)&&(decide (a.length<b.length)||(decide (a.length=b.length)&&lexB a b)))
theorem Wn.lt_irrefl (N:Wn) (a:List Nat):N.lt a a=false:=by unfold Wn.lt;rw [pL];simp
theorem Wn.lt_trans {N:Wn} {a b c:List Nat} (h1:N.lt a b=true) (h2:N.lt b c=true):N.lt a c=true:=by
 unfold Wn.lt at *;simp only [ZR,Zn,decide_eq_true_eq] at *;rcases h1 with h1 | ⟨h1,h1 | ⟨Bq,acB⟩⟩ <;> rcases h2 with h2 | ⟨h2,h2 | ⟨H8,acz⟩⟩
 ·exact .inl (by omega)
 ·exact .inl (by omega)
 ·exact .inl (by omega)
 ·exact .inl (by omega)
 ·exact .inr ⟨by omega,.inl (by omega)⟩
 ·exact .inr ⟨by omega,.inl (by omega)⟩
 ·exact .inl (by omega)
 ·exact .inr ⟨by omega,.inl (by omega)⟩
 ·exact .inr ⟨by omega,.inr ⟨by omega,rJ acB acz⟩⟩
theorem Wn.wN {N:Wn} {a b:List Nat} (h:a≠b):N.lt a b=true\/N.lt b a=true:=by
 unfold Wn.lt;simp only [ZR,Zn,decide_eq_true_eq];rcases Zal (N.sV a) (N.sV b) with h1 | h1 | h1
 ·exact .inl (.inl h1)
 ·rcases Zal a.length b.length with h2 | h2 | h2
  ·exact .inl (.inr ⟨h1,.inl h2⟩)
  ·rcases rK h2 h with h3 | h3
   ·exact .inl (.inr ⟨h1,.inr ⟨h2,h3⟩⟩)
   ·exact .inr (.inr ⟨h1.symm,.inr ⟨h2.symm,h3⟩⟩)
  ·exact .inr (.inr ⟨h1.symm,.inl h2⟩)
 ·exact .inr (.inl h1)
theorem Wn.Lp {N:Wn} (h:q <+: p):q=p\/N.lt q p=true:=by
 obtain ⟨r,rfl⟩:=h;cases r with
 | nil=>exact .inl (ZN q).symm
 | cons x r =>
  refine .inr ?_;unfold Wn.lt Wn.sV;simp only [ZR,Zn,decide_eq_true_eq];rw [List.countP_append,Zg,ZE];by_cases h0:List.countP N.fe (x::r)=0
  ·exact .inr ⟨by omega,.inl (by omega)⟩
  ·exact .inl (by omega)
def Wn.least (N:Wn) (d:Int) (p:List Nat):Prop:=N.ok p/\N.fin p=d/\∀ q,N.ok q->N.fin q=d->N.lt q p=false
theorem Wn.ES {N:Wn} (hp:N.least d p) (hq:N.least d q):p=q:=by
 by_cases h:p=q
 ·exact h
 ·rcases Wn.wN (N:=N) h with h | h
  ·rw [hq.2.2 p hp.1 hp.2.1] at h;cases h
  ·rw [hp.2.2 q hq.1 hq.2.1] at h;cases h
def Wn.all (N:Wn) (d:Int):Nat->List Nat->List (List Nat)
 | 0,_=>[]
 | k+1,p=>(if N.fin p=d then [p] else [])++((List.range N.n).filter (N.step p)).flatMap fun j=>N.all d k (p++[j])
theorem Wn.vB {N:Wn}:∀ {k:Nat} {p:List Nat},N.ok p->q∈N.all d k p->N.ok q/\N.fin q=d
 | 0,_,_,h=>by cases h
 | k + 1, p, ho, h => by
  rw [Wn.all,ZB] at h;rcases h with h | h
  ·split at h
   ·rw [ZG] at h;subst h;exact ⟨ho,‹_›⟩
   ·cases h
  ·obtain ⟨j,hj,h⟩:=List.mem_flatMap.1 h;exact Wn.vB (Wn.j4.2 ⟨ho,(Zr.1 hj).2⟩) h
theorem Wn.BO {N:Wn}:∀ {k:Nat} {p r:List Nat},N.ok (p++r)->N.fin (p++r)=d->r.length<k->p++r∈N.all d k p
 | 0,_,_,_,_,h=>absurd h (ZU _)
 | k + 1, p, [], ho, hf, _ => by
  rw [ZN] at *;rw [Wn.all,if_pos hf];simp
 | k + 1, p, j :: r, ho, hf, hk => by
  have e:p++j::r=(p++[j])++r:=by simp
  rw [e] at ho hf ⊢;have h1:=Wn.wG ho (ZaY (p++[j]) r);have h2:=(Wn.j4.1 h1).2;rw [Wn.all,ZB];refine .inr (List.mem_flatMap.2 ⟨j,Zr.2 ⟨ZX.2 (Wn.qy h2),h2⟩,?_⟩);exact Wn.BO ho hf (by rw [ZE] at hk;omega)
def Wn.Va (N:Wn) (x:List Nat):List Nat:=(List.range N.n).filter (N.step x)
def Wn.exts (N:Wn) (x:List Nat):List (List Nat):=(N.Va x).map fun j=>x++[j]
structure Wn.Inv (N:Wn) (d:Int) (Q:List (List Nat)):Prop where
 ok:∀ q∈Q,N.ok q/\q≠[]
 cover:∀ p,N.ok p->N.fin p=d->∃ q∈Q,q <+: p
theorem Wn.HT {N:Wn} (h:N.Fu≠d) {Q:List (List Nat)} (hQ:∀ q,q∈Q↔q∈N.exts []):N.Inv d Q:=by
 constructor
 ·intro q hq;obtain ⟨j,hj,rfl⟩:=Zy.1 ((hQ q).1 hq);exact ⟨Wn.j4.2 ⟨N.oz,(Zr.1 hj).2⟩,by simp⟩
 ·intro p hp hf;cases p with
  | nil=>exact absurd hf h
  | cons j r =>
   have h1:N.ok ([]++[j]):=Wn.wG hp ⟨r,I⟩;have h2:=(Wn.j4.1 h1).2;exact ⟨[j],(hQ _).2 (Zy.2 ⟨j,Zr.2 ⟨ZX.2 (Wn.qy h2),h2⟩,I⟩),⟨r,I⟩⟩
theorem Wn.HS {N:Wn} {Q:List (List Nat)} (h:N.Inv d Q) (hx:x∈Q) (hm:∀ q∈Q,N.lt q x=false) (hf:N.fin x=d):N.least d x:=by
 refine ⟨(h.ok x hx).1,hf,fun q hq Y0=>?_⟩;obtain ⟨c,hc,hp⟩:=h.cover q hq Y0;have h0:=hm c hc;rcases Wn.Lp (N:=N) hp with e | e
 ·rwa [<- e]
 ·cases hb:N.lt q x with
  | false=>rfl
  | true=>rw [Wn.lt_trans e hb] at h0;exact h0
theorem Wn.LH {N:Wn} {Q R:List (List Nat)} (h:N.Inv d Q) (hQ:∀ q,q∈Q↔q=x\/q∈R) (hf:N.fin x≠d):N.Inv d (R++N.exts x):=by
 have hx:=h.ok x ((hQ x).2 (.inl I));constructor
 ·intro q hq;rcases ZB.1 hq with hq | hq
  ·exact h.ok q ((hQ q).2 (.inr hq))
  ·obtain ⟨j,hj,rfl⟩:=Zy.1 hq;exact ⟨Wn.j4.2 ⟨hx.1,(Zr.1 hj).2⟩,by simp⟩
 ·intro p hp B2;obtain ⟨c,hc,r,rfl⟩:=h.cover p hp B2;rcases (hQ c).1 hc with rfl | hc
  ·cases r with
   | nil=>rw [ZN] at B2;exact absurd B2 hf
   | cons j r =>
    have e:c++j::r=(c++[j])++r:=by simp
    rw [e] at hp ⊢;have h2:=(Wn.j4.1 (Wn.wG hp (ZaY (c++[j]) r))).2;exact ⟨c++[j],ZB.2 (.inr (Zy.2 ⟨j,Zr.2 ⟨ZX.2 (Wn.qy h2),h2⟩,I⟩)),⟨r,I⟩⟩
  ·exact ⟨c,ZB.2 (.inl hc),⟨r,I⟩⟩
theorem Wn.LG {N:Wn} (h:N.Inv d []):∀ p,N.ok p->N.fin p≠d:=fun p hp hf=>by
 obtain ⟨q,hq,_⟩:=h.cover p hp hf;cases hq
theorem lY:∀ (n:Nat) (l:List Nat),l.Nodup->(∀ x∈l,x<n)->l.length<=n
 | 0, l, _, h => by
  cases l with
  | nil=>exact Zz _
  | cons x l=>exact absurd (h x (by simp)) (ZU _)
 | n + 1, l, hn, h => by
  have:=lY n (l.erase n) (hn.erase n) fun x hx=>by
   have h1:=h x (List.mem_of_mem_erase hx);have h2:=(List.Nodup.mem_erase_iff hn).1 hx;omega
  by_cases hm:n∈l
  ·rw [ZaB hm] at this;omega
  ·rw [List.erase_of_not_mem hm] at this;omega
theorem Wn.sL {N:Wn} (h:N.ok p):∀ x∈p,x<N.n:=by
 intro x hx;obtain ⟨k,hk,rfl⟩:=ZA hx;exact Wn.qy (h k hk)
theorem Wn.rG {N:Wn} (h:N.ok p):p.length<=N.n:=lY _ _ (Wn.wH h) (Wn.sL h)
theorem Wn.O4 {N:Wn} (h:N.ok x):x.length+(N.Va x).length<=N.n:=by
 rw [<- Zg];refine lY _ _ ?_ ?_
 ·rw [ZK];refine ⟨Wn.wH h,(Zbk).filter _,?_⟩;intro a ha b hb e;subst e;exact Wn.vX (Zr.1 hb).2 ha
 ·intro y hy;rcases ZB.1 hy with hy | hy
  ·exact Wn.sL h y hy
  ·exact ZX.1 (Zr.1 hy).1
def qY:Nat->Nat
 | 0=>1
 | m+1=>1+(m+1)*qY m
theorem yY:∀ m,1<=qY m
 | 0=>Zz _
 | m+1=>by rw [qY];omega
def Wn.wt (N:Wn):List (List Nat)->Nat
 | []=>0
 | q::Q=>qY (N.n-q.length)+N.wt Q
theorem Wn.yR (N:Wn):∀ A B,N.wt (A++B)=N.wt A+N.wt B
 | [],B=>by rw [Za,Wn.wt,Zx]
 | q::A,B=>by rw [Zb,Wn.wt,Wn.wt,Wn.yR N A B,Nat.add_assoc]
theorem Wn.FE {N:Wn} {A B:List (List Nat)} (h:A.Perm B):N.wt A=N.wt B:=by
 induction h with
 | nil=>rfl
 | cons x _ ih=>rw [Wn.wt,Wn.wt,ih]
 | swap x y l=>rw [Wn.wt,Wn.wt,Wn.wt,Wn.wt];omega
 | trans _ _ h1 h2=>rw [h1,h2]
theorem Wn.I5 (N:Wn):∀ Q:List (List Nat),Q.length<=N.wt Q
 | []=>Zz _
 | q::Q=>by rw [Wn.wt,ZE];have:=N.I5 Q;have:=yY (N.n-q.length);omega
theorem Wn.D6 (N:Wn) (x:List Nat):∀ l:List Nat,N.wt (l.map fun j=>x++[j])=l.length*qY (N.n-(x.length+1))
 | []=>by rw [Zf,Wn.wt,Zae,Zbs]
 | j :: l => by
  rw [Z9,Wn.wt,N.D6 x l,Zg,show (j::l).length=l.length+1 from I,Zaj];show qY (N.n-(x.length+1))+_=_;omega
theorem Wn.NY {N:Wn} (h:N.ok x):N.wt (N.exts x)<qY (N.n-x.length):=by
 unfold Wn.exts;rw [Wn.D6];have hf:=Wn.O4 h;by_cases h0:(N.Va x).length=0
 ·rw [h0,Zbs];exact yY _
 ·obtain ⟨m,hm⟩:∃ m,N.n-x.length=m+1:=⟨N.n-x.length-1,by omega⟩;rw [hm,show N.n-(x.length+1)=m by omega,qY];have:=Zaa (qY m) (show (N.Va x).length<=m+1 by omega);omega
end Go.Proofs.A1
namespace Go.Proofs.A1
def cn (h:Bool) (e:Int):Int:=bif h then e else 0
theorem bW {h:Bool} {e:Int} (he:e≠0):cn h e=0↔h=false:=by cases h <;> simp [cn,he]
def ia (n l m:Int):Int:=cn (decide (n<l)||decide (m<n)) 3
theorem jj {n l m:Int}:ia n l m=0↔l<=n/\n<=m:=by
 unfold ia;rw [bW (by decide)];simp
def aZ:List Int->Int
 | []=>0
 | e::r=>if e≠0 then e else aZ r
theorem cI:∀ {l:List Int},aZ l=0↔∀ e∈l,e=0
 | []=>by simp [aZ]
 | e :: r => by
  unfold aZ;by_cases h:e=0
  ·simp [h,cI (l:=r)]
  ·simp [h]
variable {f:Nat->Int} {k n:Nat} {s:ByteArray}
theorem uk {es:List Int} (h:k<es.length):aZ (es.drop k)=if es[k]≠0 then es[k] else aZ (es.drop (k+1)):=by
 rw [List.drop_eq_getElem_cons h];rfl
def rQ (f:Nat->Int):Nat->Nat->Int
 | _,0=>0
 | k,n+1=>if f k≠0 then f k else rQ f (k+1) n
def ku (f:Nat->Int) (n:Nat):Int:=rQ f 0 n
theorem zW {f:Nat->Int}:∀ {n k:Nat},rQ f k n=0↔∀ i,k<=i->i<k+n->f i=0
 | 0,k=>by simp only [rQ,true_iff];intro i h1 h2;omega
 | n + 1, k => by
  unfold rQ;by_cases h:f k=0
  ·rw [if_neg (by simpa using h),zW];constructor
   ·intro g i h1 h2;by_cases e:i=k
    ·rw [e];exact h
    ·exact g i (by omega) (by omega)
   ·intro g i h1 h2;exact g i (by omega) (by omega)
  ·rw [if_pos h];constructor
   ·intro e;exact absurd e h
   ·intro g;exact absurd (g k (Nat.le_refl _) (by omega)) h
theorem ew :ku f n=0↔∀ i,i<n->f i=0:=by
 unfold ku;rw [zW];constructor
 ·intro g i h;exact g i (Nat.zero_le _) (by omega)
 ·intro g i _ h;exact g i (by omega)
theorem xy {f:Nat->Int}:∀ {n k j:Nat},(∀ i,k<=i->i<j->f i=0)->k<=j->j<k+n->f j≠0->rQ f k n=f j
 | 0,k,j,_,h1,h2,_=>by omega
 | n + 1, k, j, h, h1, h2, h3 => by
  unfold rQ;by_cases e:k=j
  ·subst e;rw [if_pos h3]
  ·rw [if_neg (by simpa using h k (Nat.le_refl _) (by omega))];exact xy (fun i h4 h5=>h i (by omega) h5) (by omega) (by omega) h3
theorem fI {n j:Nat} (h:∀ i,i<j->f i=0) (hj:j<n) (hn:f j≠0):ku f n=f j:=
 xy (fun i _ h2=>h i h2) (Nat.zero_le _) (by omega) hn
theorem Ff {f g:Nat->Int} (h:∀ j,j<n->(∀ i,i<j->f i=0)->f j=g j):ku f n=ku g n:=by
 by_cases hf:∀ i,i<n->f i=0
 ·rw [ew.2 hf];symm;refine ew.2 fun i hi=>?_;rw [<- h i hi fun k hk=>hf k (by omega)]
  exact hf i hi
 ·have:∃ j,j<n/\f j≠0/\∀ i,i<j->f i=0:=by
   apply Classical.byContradiction;intro hc;apply hf;intro i
   induction i using Nat.strongRecOn with
   | _ i ih =>
    intro hi;apply Classical.byContradiction;intro hne;exact hc ⟨i,hi,hne,fun k hk=>ih k hk (by omega)⟩
  obtain ⟨j,hj,hne,hb⟩:=this;rw [fI hb hj hne,h j hj hb];symm;have he:=h j hj hb;refine fI (fun i hi=>?_) hj (by rw [<- he];exact hne);rw [<- h i (by omega) fun k hk=>hb k (by omega)]
  exact hb i hi
def bt (s:ByteArray) (i:Nat):Int:=((s.data.toList[i]?.getD 0).toNat:Nat)
def HR (c:Int):Bool:=(decide (65<=c)&&decide (c<=90))||(decide (97<=c)&&decide (c<=122))
def Wr (c:Int):Bool:=decide (48<=c)&&decide (c<=57)
def okB (c:Int):Bool:=HR c||Wr c||decide (c=95)
def okF (s:ByteArray) (k:Nat):Bool:=(List.range' k (s.size-k)).all fun i=>okB (bt s i)
theorem A7 (h:k<s.size):okF s k=(okB (bt s k)&&okF s (k+1)):=by
 unfold okF;rw [show s.size-k=(s.size-(k+1))+1 by omega,List.range'_succ]
 rfl
theorem Gn (h:s.size<=k):okF s k=true:=by
 unfold okF;rw [show s.size-k=0 by omega];rfl
def k7 (s:ByteArray):Bool:=decide (0<s.size)&&decide (s.size<=24)&&HR (bt s 0)&&okF s 1
def nmF (s:ByteArray):Int:=cn (!k7 s) 8
end Go.Proofs.A1
namespace Go.Proofs.A1
open Go Go.SL
structure Sr where
 nm:ByteArray
 mx:Int
 deriving DecidableEq
structure De where
 nm:ByteArray
 mx:Int
 pr:Bool
 deriving DecidableEq
structure Ti where
 nm:ByteArray
 fr:Int
 to:Int
 deriving DecidableEq
structure Po where
 lv:Int
 ou:ByteArray
 ip:ByteArray
 deriving DecidableEq
structure Ro where
 lv:Int
 ma:Int
 sr:List Sr
 de:List De
 ti:List Ti
 po:List Po
 deriving DecidableEq
def Ft (v:Int) (o:ByteArray) (p:Po):Bool:=decide (p.lv=v)&&decide (p.ou=o)
def yx (v:Int) (i:ByteArray) (p:Po):Bool:=decide (p.lv=v)&&decide (p.ip=i)
def eB (po:List Po) (v:Int) (o:ByteArray):Option ByteArray:=(po.find? (Ft v o)).map Po.ip
def nD (po:List Po) (v:Int) (i:ByteArray):Bool:=po.any (yx v i)
def gM (po:List Po) (v:Int) (o:ByteArray):Bool:=(eB po v o).isSome
def fJ (po:List Po) (v:Int):Nat->ByteArray->List ByteArray
 | 0,_=>[]
 | k + 1, o => match eB po v o with
  | none=>[]
  | some i=>i::fJ po v k i
variable {D T:List ByteArray} {i:ByteArray} {k:Nat} {l:List ByteArray} {o s:ByteArray} {v:Int} {x:ByteArray}
theorem xI {po:List Po} (h:eB po v o=none):∀ k,fJ po v k o=[]
 | 0=>rfl
 | k+1=>by rw [fJ,h]
theorem nR {po:List Po} (h:eB po v o=some i) (k:Nat):fJ po v (k+1) o=i::fJ po v k i:=by rw [fJ,h]
theorem kT (po:List Po) (v:Int):∀ k o,(fJ po v k o).length<=k
 | 0,_=>Zz _
 | k + 1, o => by
  rw [fJ];split
  ·exact Zi _
  ·rw [ZE];have:=kT po v k ‹_›;omega
theorem DH {po:List Po} {v:Int}:∀ {k:Nat} {o:ByteArray},(fJ po v k o).length<k->∀ m,k<=m->fJ po v m o=fJ po v k o
 | 0,_,h,_,_=>absurd h (ZU _)
 | k + 1, o, h, m, hm => by
  obtain ⟨m,rfl⟩:∃ j,m=j+1:=⟨m-1,by omega⟩;rw [fJ,fJ];cases hi:eB po v o with
  | none=>rfl
  | some i =>
   rw [fJ,hi,ZE] at h;show i::_=i::_;rw [DH (k:=k) (by omega) m (by omega)]
theorem DG {po:List Po} {v:Int}:∀ {k m:Nat} {o:ByteArray},k<=m->(fJ po v m o).take k=fJ po v k o
 | 0,_,_,_=>by rw [Ze];rfl
 | k + 1, m, o, h => by
  obtain ⟨m,rfl⟩:∃ j,m=j+1:=⟨m-1,by omega⟩;rw [fJ,fJ];cases eB po v o with
  | none=>rfl
  | some i =>
   show (i::fJ po v m i).take (k+1)=i::fJ po v k i;rw [List.take_succ_cons,DG (by omega)]
def mV (po:List Po) (v:Int):Nat->ByteArray->Option ByteArray
 | 0,o=>some o
 | k+1,o=>(eB po v o).bind (mV po v k)
theorem kR {po:List Po} {v:Int}:∀ {a b:Nat} {o:ByteArray},mV po v (a+b) o=(mV po v a o).bind (mV po v b)
 | 0,b,o=>by rw [Zx];rfl
 | a + 1, b, o => by
  rw [show a+1+b=(a+b)+1 by omega,mV,mV];cases eB po v o with
  | none=>rfl
  | some i=>exact kR
theorem iu {po:List Po} {a b:Nat} (h:a<=b) (hb:(mV po v b o).isSome=true):(mV po v a o).isSome=true:=by
 obtain ⟨c,rfl⟩:∃ c,b=a+c:=⟨b-a,by omega⟩;rw [kR] at hb;cases h1:mV po v a o with
 | none=>rw [h1] at hb;cases hb
 | some x=>rfl
theorem oI {po:List Po} {v:Int}:∀ {k:Nat} {o:ByteArray} {j:Nat},j<k->(fJ po v k o)[j]? = mV po v (j+1) o
 | 0,_,_,h=>absurd h (ZU _)
 | k + 1, o, j, h => by
  rw [fJ,mV];cases eB po v o with
  | none=>rfl
  | some i =>
   cases j with
   | zero=>rfl
   | succ j =>
    show (i::fJ po v k i)[j+1]? = mV po v (j+1) i;rw [Zbc,oI (by omega)]
theorem rT {po:List Po}:(fJ po v k o).length=k↔(mV po v k o).isSome=true:=by
 cases k with
 | zero=>exact ⟨fun _=>rfl,fun _=>rfl⟩
 | succ k =>
  rw [<- oI (Nat.lt_add_one k)];have:=kT po v (k+1) o;constructor
  ·intro h;rw [Zc (by omega)];rfl
  ·intro h;apply Classical.byContradiction;intro hn;rw [Zan (by omega)] at h;cases h
theorem vA {po:List Po}:x∈fJ po v k o↔∃ j,j<k/\mV po v (j+1) o=some x:=by
 constructor
 ·intro h;obtain ⟨j,hj,e⟩:=ZA h;have hk:=kT po v k o;refine ⟨j,by omega,?_⟩;rw [<- oI (by omega:j<k),Zc hj,e]
 ·rintro ⟨j,hj,e⟩;rw [<- oI hj] at e;exact ZV e
theorem zF {α:Type} [DecidableEq α]:∀ {X T:List α},X.Nodup->(∀ x∈X,x∈T)->X.length<=T.length
 | [],_,_,_=>Zi _
 | x :: X, T, hn, h => by
  have hx:=h x (by simp);rw [List.nodup_cons] at hn;have:=zF (X:=X) (T:=T.erase x) hn.2 fun y hy=>(List.mem_erase_of_ne (a:=y) (b:=x) (fun e=>by rw [e] at hy;exact hn.1 hy)).2 (h y (ZP _ hy))
  rw [ZaB hx] at this;have:=List.length_pos_of_mem hx;rw [ZE];omega
theorem HJ {α:Type} [DecidableEq α] {X:List α} (h:¬ X.Nodup):∃ i j,∃ (hi:i<X.length) (hj:j<X.length),i<j/\X[i]=X[j]:=by
 apply Classical.byContradiction;intro hn;apply h;rw [List.nodup_iff_pairwise_ne,Zac];intro i j hi hj yC e;exact hn ⟨i,j,hi,hj,yC,e⟩
theorem Fi {po:List Po} (hT:∀ o i,eB po v o=some i->(eB po v i).isSome=true->i∈T) {o:ByteArray} (ho:(mV po v (T.length+2) o).isSome=true\/o∈T/\(mV po v (T.length+1) o).isSome=true):∃ t∈T,t∈fJ po v (T.length+1) t:=by
 obtain ⟨s,hs,dK⟩:∃ s,(mV po v (s+T.length+1) o).isSome=true/\∀ k,k<=T.length->∃ x,mV po v (s+k) o=some x/\x∈T:=by
  rcases ho with ho | ⟨hoT,ho⟩
  ·refine ⟨1,by rw [show 1+T.length+1=T.length+2 by omega];exact ho,fun k hk=>?_⟩;have h0:=iu (a:=k) (by omega) ho;have h1:=iu (a:=1+k) (by omega) ho;have h2:=iu (a:=1+k+1) (by omega) ho;obtain ⟨y,hy⟩:=Zag.1 h0;obtain ⟨x,hx⟩:=Zag.1 h1;refine ⟨x,hx,hT y x ?_ ?_⟩
   ·rw [show 1+k=k+1 by omega,kR,hy] at hx;simpa [mV] using hx
   ·rw [kR,hx] at h2;simpa [mV] using h2
  ·refine ⟨0,by rw [Zx];exact ho,fun k hk=>?_⟩;rw [Zx];cases k with
   | zero=>exact ⟨o,rfl,hoT⟩
   | succ k =>
    have h0:=iu (a:=k) (by omega) ho;have h1:=iu (a:=k+1) (by omega) ho;have h2:=iu (a:=k+1+1) (by omega) ho;obtain ⟨y,hy⟩:=Zag.1 h0;obtain ⟨x,hx⟩:=Zag.1 h1;refine ⟨x,hx,hT y x ?_ ?_⟩
    ·rw [kR,hy] at hx;simpa [mV] using hx
    ·rw [kR,hx] at h2;simpa [mV] using h2
 let X:=(List.range (T.length+1)).map fun k=>(mV po v (s+k) o).getD ⟨#[]⟩
 have hXl:X.length=T.length+1:=by simp [X]
 have hX:∀ k (h:k<X.length),mV po v (s+k) o=some X[k]:=fun k h=>by
  obtain ⟨x,hx,_⟩:=dK k (by omega);simp [X,hx]
 have hn:¬ X.Nodup:=fun hn=>by
  have:=zF (T:=T) hn fun x hx=>by
   obtain ⟨k,hk,rfl⟩:=ZA hx;obtain ⟨y,hy,hyT⟩:=dK k (by omega);rw [hX k hk] at hy;cases hy;exact hyT
  omega
 obtain ⟨i,j,hi,hj,yC,e⟩:=HJ hn;have h1:=hX i hi;have h2:=hX j hj;obtain ⟨y,hy,hyT⟩:=dK i (by omega);rw [h1] at hy;cases hy;refine ⟨X[i],hyT,vA.2 ⟨j-i-1,by omega,?_⟩⟩;rw [show s+j=(s+i)+(j-i-1+1) by omega,kR,h1] at h2;rw [e];rw [e] at h2;exact h2
theorem Qn {po:List Po} {m:Nat} {t:ByteArray} (h:t∈fJ po v m t):∀ k,(mV po v k t).isSome=true:=by
 obtain ⟨j,_,hj⟩:=vA.1 h;have key:∀ n,mV po v (n*(j+1)) t=some t:=fun n=>by
  induction n with
  | zero=>rw [Zbs];rfl
  | succ n ih=>rw [Zaj,kR,ih];exact hj
 intro k;refine iu (b:=k*(j+1)) (Nat.le_mul_of_pos_right _ (by omega)) ?_;rw [key];rfl
theorem ML {po:List Po} (hT:∀ o i,eB po v o=some i->(eB po v i).isSome=true->i∈T) (h6:T.length<=6):(∃ t∈T,t∈fJ po v (T.length+1) t)↔∃ t∈T,(fJ po v 7 t).length=7:=by
 constructor
 ·rintro ⟨t,ht,h⟩;exact ⟨t,ht,rT.2 (Qn h 7)⟩
 ·rintro ⟨t,ht,h⟩;exact Fi hT (.inr ⟨ht,iu (b:=7) (by omega) (rT.1 h)⟩)
theorem qL {po:List Po} (hT:∀ o i,eB po v o=some i->(eB po v i).isSome=true->i∈T) (hc:¬ ∃ t∈T,t∈fJ po v (T.length+1) t) (o:ByteArray) {m:Nat} (hm:T.length+1<=m):fJ po v m o=fJ po v (T.length+1) o:=by
 have h2:(fJ po v (T.length+2) o).length<T.length+2:=by
  have h0:=kT po v (T.length+2) o;rcases Zbi (fJ po v (T.length+2) o).length (T.length+2) with h | h
  ·exact h
  ·exact absurd (Fi hT (.inl (rT.1 (show (fJ po v (T.length+2) o).length=T.length+2 by omega)))) hc
 have h3:fJ po v (T.length+1) o=fJ po v (T.length+2) o:=by
  rw [<- DG (o:=o) (by omega:T.length+1<=T.length+2),Zab (by omega)]
 rcases Zbi m (T.length+2) with h | h
 ·rw [show m=T.length+1 by omega]
 ·rw [DH h2 m h,h3]
def bA:List ByteArray->ByteArray->Int
 | [],_=>-1
 | x::l,s=>if x=s then 0 else if bA l s<0 then -1 else bA l s+1
theorem Mz (l:List ByteArray) (s:ByteArray):-1<=bA l s:=by
 induction l with
 | nil=>exact Int.le_refl _
 | cons x l ih =>
  rw [bA];split
  ·omega
  ·split <;> omega
theorem cM :bA l s<0↔s ∉ l:=by
 induction l with
 | nil=>simp [bA]
 | cons x l ih =>
  rw [bA,ZT,not_or];by_cases e:x=s
  ·rw [if_pos e];constructor
   ·intro h;omega
   ·intro h;exact absurd e.symm h.1
  ·rw [if_neg e];by_cases h:bA l s<0
   ·rw [if_pos h];exact ⟨fun _=>⟨fun q=>e q.symm,ih.1 h⟩,fun _=>by omega⟩
   ·rw [if_neg h];exact ⟨fun q=>by have:=Mz l s;omega,fun q=>absurd (ih.2 q.2) h⟩
theorem rP:∀ {l:List ByteArray} {s:ByteArray} {i:Nat} (h:i<l.length),l[i]=s->(∀ j (hj:j<i),l[j]'(by omega)≠s)->bA l s=(i:Nat)
 | x::l,s,0,_,e,_=>by rw [bA,if_pos (show x=s from e)];rfl
 | x :: l, s, i + 1, h, e, hb => by
  have h0:x≠s:=hb 0 (by omega);have ih:=rP (l:=l) (s:=s) (i:=i) (by rw [ZE] at h;omega) e fun j hj=>hb (j+1) (by omega)
  rw [bA,if_neg h0,ih,if_neg (by omega)];omega
theorem Bw (h:∀ j (hj:j<l.length),l[j]≠s):bA l s = -1:=by
 have h1:=Mz l s;have h2:bA l s<0:=cM.2 fun hm=>by
  obtain ⟨j,hj,e⟩:=ZA hm;exact h j hj e
 omega
theorem fB (h:0<=bA l s):∃ hl:(bA l s).toNat<l.length,l[(bA l s).toNat]=s:=by
 induction l with
 | nil=>simp [bA] at h
 | cons x l ih =>
  by_cases e:x=s
  ·have:bA (x::l) s=0:=by rw [bA,if_pos e]
   rw [this];exact ⟨Nat.zero_lt_succ _,e⟩
  ·by_cases h0:bA l s<0
   ·rw [bA,if_neg e,if_pos h0] at h;omega
   ·obtain ⟨hl,hg⟩:=ih (by omega);have:bA (x::l) s=bA l s+1:=by rw [bA,if_neg e,if_neg h0]
    have e1:(bA (x::l) s).toNat=(bA l s).toNat+1:=by rw [this];omega
    have key:∀ n,n=(bA l s).toNat+1->∃ hl:n<(x::l).length,(x::l)[n]=s:=fun n hn=>by
     subst hn;exact ⟨by rw [ZE];omega,hg⟩
    exact key _ e1
def cK (r:Ro):List ByteArray:=r.sr.map Sr.nm
def cy (r:Ro):List ByteArray:=r.de.map De.nm
def cR (r:Ro):List ByteArray:=r.ti.map Ti.nm
def eI (r:Ro):List ByteArray:=cK r++cy r++cR r
def eC (r:Ro) (s:ByteArray):Int:=if 0<=bA (cy r) s then bA (cy r) s else if 0<=bA (cR r) s then (r.de.length:Nat)+bA (cR r) s else -1
def k6 (r:Ro) (s:ByteArray):Int:=if 0<=bA (cy r) s then (r.de.getD (bA (cy r) s).toNat ⟨⟨#[]⟩,0,false⟩).mx else if 0<=bA (cR r) s then (r.ti.getD (bA (cR r) s).toNat ⟨⟨#[]⟩,0,0⟩).fr else -1
def kI (r:Ro) (s:ByteArray):Int:=if 0<=bA (cK r) s then (r.sr.getD (bA (cK r) s).toNat ⟨⟨#[]⟩,0⟩).mx else if 0<=bA (cR r) s then (r.ti.getD (bA (cR r) s).toNat ⟨⟨#[]⟩,0,0⟩).to else -1
theorem K8 {r:Ro}:eC r s<0↔s ∉ cy r/\s ∉ cR r:=by
 unfold eC;by_cases h1:bA (cy r) s<0
 ·rw [if_neg (by omega)];by_cases h2:bA (cR r) s<0
  ·rw [if_neg (by omega)];exact ⟨fun _=>⟨cM.1 h1,cM.1 h2⟩,fun _=>by omega⟩
  ·rw [if_pos (by omega)];exact ⟨fun h=>by omega,fun h=>absurd (cM.2 h.2) h2⟩
 ·rw [if_pos (by omega)];exact ⟨fun h=>absurd h h1,fun h=>absurd (cM.2 h.1) h1⟩
def tu (po:List Po):Prop:=∀ p∈po,∀ q∈po,p.lv=q.lv->p.ou=q.ou->p=q
theorem tu.filter {po:List Po} (h:tu po) (f:Po->Bool):tu (po.filter f):=fun p hp q hq=>h p (Zr.1 hp).1 q (Zr.1 hq).1
theorem fF {po:List Po} (h:eB po v o=some i):∃ p∈po,p.lv=v/\p.ou=o/\p.ip=i:=by
 unfold eB at h;obtain ⟨p,hp,e⟩:=Zaq.1 h;have h1:=List.find?_some hp;unfold Ft at h1;rw [Zn,decide_eq_true_eq,decide_eq_true_eq] at h1;exact ⟨p,List.mem_of_find?_eq_some hp,h1.1,h1.2,e⟩
theorem lO {po:List Po} (h1:tu po) {p:Po} (hp:p∈po):eB po p.lv p.ou=some p.ip:=by
 cases h:po.find? (Ft p.lv p.ou) with
 | none =>
  have:=ZaQ.1 h p hp;unfold Ft at this;simp at this
 | some q =>
  have hq:=List.find?_some h;unfold Ft at hq;rw [Zn,decide_eq_true_eq,decide_eq_true_eq] at hq;have:=h1 q (List.mem_of_find?_eq_some h) p hp hq.1 hq.2;unfold eB;rw [h,this];rfl
theorem jf {po:List Po}:eB po v o=none↔∀ p∈po,¬(p.lv=v/\p.ou=o):=by
 unfold eB;rw [Option.map_eq_none_iff,ZaQ];constructor
 ·intro h p hp hq;have:=h p hp;unfold Ft at this;rw [hq.1,hq.2] at this;simp at this
 ·intro h p hp;unfold Ft;rw [Zn,decide_eq_true_eq,decide_eq_true_eq];exact h p hp
theorem Ps {po qo:List Po} (h1:tu po) (hs:∀ p∈qo,p∈po) {v:Int} {o i:ByteArray} (h:eB qo v o=some i):eB po v o=some i:=by
 obtain ⟨p,hp,rfl,rfl,rfl⟩:=fF h;exact lO h1 (hs p hp)
inductive Nd (po:List Po) (D:List ByteArray):Po->Prop
 | de {p:Po}:p∈po->p.ou∈D->Nd po D p
 | up {p q:Po}:p∈po->q.lv=p.lv->q.ip=p.ou->Nd po D q->Nd po D p
theorem Q3 {po S:List Po} {D:List ByteArray} (h1:tu po) (hS:∀ p∈S,p∈po) (hu:∀ p∈S,p.ou∈D\/∃ q∈S,q.lv=p.lv/\q.ip=p.ou) {N:Nat} (hN:∀ v o m,N<=m->fJ po v m o=fJ po v N o) :
  ∀ n p,p∈S->N-(fJ po p.lv N p.ou).length<=n->Nd po D p
 | n, p, hp, hn => by
  rcases hu p hp with hd | ⟨q,hq,hv,hi⟩
  ·exact .de (hS p hp) hd
  ·have mY:=lO h1 (hS q hq);rw [hv,hi] at mY;have hc:fJ po p.lv (N+1) q.ou=p.ou::fJ po p.lv N p.ou:=nR mY N;have hl:(fJ po q.lv N q.ou).length=(fJ po p.lv N p.ou).length+1:=by
    rw [hv,<- hN p.lv q.ou (N+1) (by omega),hc,ZE]
   have hle:=kT po q.lv N q.ou;cases n with
   | zero=>omega
   | succ n=>exact .up (hS p hp) hv hi (Q3 h1 hS hu hN n q hq (by omega))
theorem Q4 {po S:List Po} (hk:∀ p∈po,p.ou∈D->p∈S) (fo:∀ p∈po,∀ q∈S,q.lv=p.lv->q.ip=p.ou->p∈S) {p:Po} (h:Nd po D p):p∈S:=by
 induction h with
 | de hp hd=>exact hk _ hp hd
 | up hp hv hi _ ih=>exact fo _ hp _ ih hv hi
theorem O6 {po:List Po} (h1:tu po) {N:Nat} (hN:∀ v o m,N<=m->fJ po v m o=fJ po v N o) {f g:Po->Bool}
  (IQ:∀ p∈po,p.ou∈D->f p=true) (H4:∀ p∈po,∀ q∈po,f q=true->q.lv=p.lv->q.ip=p.ou->f p=true) (Xk:∀ p∈po,f p=true->p.ou∈D\/∃ q∈po,f q=true/\q.lv=p.lv/\q.ip=p.ou)
  (hg1:∀ p∈po,p.ou∈D->g p=true) (hg2:∀ p∈po,∀ q∈po,g q=true->q.lv=p.lv->q.ip=p.ou->g p=true) (YZ:∀ p∈po,g p=true->p.ou∈D\/∃ q∈po,g q=true/\q.lv=p.lv/\q.ip=p.ou):po.filter f=po.filter g:=by
 have key:∀ (f:Po->Bool),(∀ p∈po,p.ou∈D->f p=true)->(∀ p∈po,∀ q∈po,f q=true->q.lv=p.lv->q.ip=p.ou->f p=true)->(∀ p∈po,f p=true->p.ou∈D\/∃ q∈po,f q=true/\q.lv=p.lv/\q.ip=p.ou)->∀ p∈po,(f p=true↔Nd po D p):=by
  intro f h2 h3 h4 p hp;constructor
  ·intro hf;refine Q3 (S:=po.filter f) h1 (fun q hq=>(Zr.1 hq).1) (fun q hq=>?_) hN _ p (Zr.2 ⟨hp,hf⟩) (Zz _);obtain ⟨B0,rb⟩:=Zr.1 hq;rcases h4 q B0 rb with h | ⟨x,hx,YH,Wv⟩
   ·exact .inl h
   ·exact .inr ⟨x,Zr.2 ⟨hx,YH⟩,Wv⟩
  ·intro hn;have:=Q4 (S:=po.filter f) (fun q hq hd=>Zr.2 ⟨hq,h2 q hq hd⟩) (fun q hq x hx hv hi=>Zr.2 ⟨hq,h3 q hq x (Zr.1 hx).1 (Zr.1 hx).2 hv hi⟩) hn
   exact (Zr.1 this).2
 refine Zbe fun p hp=>?_;rw [ZaW,key f IQ H4 Xk p hp,key g hg1 hg2 YZ p hp]
theorem pn {α:Type} {R:α->α->Prop} (has:∀ a b,R a b->¬ R b a):∀ {A B:List α},A.Pairwise R->B.Pairwise R->A.Perm B->A=B
 | [],B,_,_,h=>(List.nil_perm.1 h).symm
 | a::A,[],_,_,h=>absurd h (by intro h;have:=h.length_eq;cases this)
 | a :: A, b :: B, hA, hB, h => by
  rw [ZaZ] at hA hB;have Vs:a=b:=by
   apply Classical.byContradiction;intro hne;have h1:a∈b::B:=h.mem_iff.1 (by simp);have h2:b∈a::A:=h.mem_iff.2 (by simp);have h1:a∈B:=(ZT.1 h1).resolve_left hne;have h2:b∈A:=(ZT.1 h2).resolve_left fun e=>hne e.symm
   exact has _ _ (hA.1 b h2) (hB.1 a h1)
  subst Vs;rw [pn has hA.2 hB.2 (List.Perm.cons_inv h)]
def nF (r:Ro) (p q:Po):Bool:=decide (p.lv<q.lv)||(decide (p.lv=q.lv)&&decide (eC r p.ou<eC r q.ou))
theorem HM {r:Ro} (p q:Po) (h:nF r p q=true):¬ nF r q p=true:=by
 unfold nF at *;simp only [ZR,Zn,decide_eq_true_eq] at *;omega
theorem zH {r:Ro} {p q s:Po} (h1:nF r p q=true) (h2:nF r q s=true):nF r p s=true:=by
 unfold nF at *;simp only [ZR,Zn,decide_eq_true_eq] at *;omega
theorem HL {r:Ro} {p q:Po} (h:¬(p.lv=q.lv/\eC r p.ou=eC r q.ou)):nF r p q=true\/nF r q p=true:=by
 unfold nF;simp only [ZR,Zn,decide_eq_true_eq];omega
def eG (r:Ro) (p:Po):List Po->List Po
 | []=>[p]
 | b::l=>if nF r p b then p::b::l else b::eG r p l
theorem lZ (r:Ro) (p:Po):∀ l,(eG r p l).Perm (p::l)
 | []=>List.Perm.refl _
 | b :: l => by
  rw [eG];split
  ·exact List.Perm.refl _
  ·exact ((lZ r p l).cons b).trans (List.Perm.swap p b l)
theorem je {r:Ro} {p q:Po} {l:List Po}:q∈eG r p l↔q=p\/q∈l:=by rw [(lZ r p l).mem_iff,ZT]
theorem uN {r:Ro} {p:Po}:∀ {l:List Po},l.Pairwise (fun a b=>nF r a b=true)->(∀ q∈l,¬(p.lv=q.lv/\eC r p.ou=eC r q.ou))->(eG r p l).Pairwise (fun a b=>nF r a b=true)
 | [],_,_=>by rw [eG];exact List.pairwise_singleton _ _
 | b :: l, h, hn => by
  rw [ZaZ] at h;rw [eG];split
  ·rename_i hb;rw [ZaZ,ZaZ];refine ⟨fun q hq=>?_,h.1,h.2⟩;rcases ZT.1 hq with rfl | hq
   ·exact hb
   ·exact zH hb (h.1 q hq)
  ·rename_i hb;rw [ZaZ];refine ⟨fun q hq=>?_,uN h.2 fun q hq=>hn q (ZP _ hq)⟩;rcases je.1 hq with rfl | hq
   ·rcases HL (hn b (by simp)) with e | e
    ·exact absurd e hb
    ·exact e
   ·exact h.1 q hq
structure oT (r:Ro):Prop where
 sd:∀ s∈cK r,s ∉ cy r
 st:∀ s∈cK r,s ∉ cR r
 dt:∀ s∈cy r,s ∉ cR r
 U8:(cR r).length<=6
structure jP (r:Ro) (po:List Po):Prop where
 sq:po.Pairwise (fun a b=>nF r a b=true)
 Lx:∀ p∈po,0<=p.lv/\p.lv<r.lv
 out:∀ p∈po,p.ou∈cy r\/p.ou∈cR r
 yf:∀ p∈po,p.ip∈cK r\/p.ip∈cR r
 Q6:∀ p∈po,k6 r p.ou=kI r p.ip
 D1:∀ v,¬ ∃ t∈cR r,t∈fJ po v ((cR r).length+1) t
 use:∀ v t,t∈cR r->(nD po v t=true↔gM po v t=true)
theorem jP.one {r:Ro} {po:List Po} (h:po.Pairwise (fun a b=>nF r a b=true)):tu po:=by
 intro p hp q hq hv ho;apply Classical.byContradiction;intro hne;obtain ⟨i,hi,rfl⟩:=ZA hp;obtain ⟨j,hj,rfl⟩:=ZA hq;rw [Zac] at h;rcases Zal i j with e | e | e
 ·have:=h i j hi hj e;unfold nF at this;simp only [ZR,Zn,decide_eq_true_eq] at this;rw [ho] at this;omega
 ·subst e;exact hne rfl
 ·have:=h j i hj hi e;unfold nF at this;simp only [ZR,Zn,decide_eq_true_eq] at this;rw [ho] at this;omega
theorem jP.tie {r:Ro} {po:List Po} (hn:oT r) (h2:∀ p∈po,p.ou∈cy r\/p.ou∈cR r) (h3:∀ p∈po,p.ip∈cK r\/p.ip∈cR r) {v:Int}:∀ o i,eB po v o=some i->(eB po v i).isSome=true->i∈cR r:=by
 intro o i h hi;obtain ⟨p,hp,_,_,rfl⟩:=fF h;rcases h3 p hp with hs | ht
 ·obtain ⟨j,hj⟩:=Zag.1 hi;obtain ⟨q,hq,_,Rh,_⟩:=fF hj;rcases h2 q hq with hd | hd
  ·exact absurd (Rh ▸ hd) (hn.sd _ hs)
  ·exact absurd (Rh ▸ hd) (hn.st _ hs)
 ·exact ht
def iL (po:List Po) (v:Int) (k:Nat) (o:ByteArray):ByteArray:=((fJ po v k o).getLast?).getD o
def qK (po:List Po) (v:Int) (S:List ByteArray) (o:ByteArray):ByteArray:=if bA S (iL po v 7 o)<0 then ⟨#[]⟩ else iL po v 7 o
theorem zY {po:List Po} (h:eB po v o=some i):iL po v (k+1) o=iL po v k i:=by
 unfold iL;rw [nR h,List.getLast?_cons]
 rfl
theorem uo {po:List Po} (h:eB po v o=none):iL po v k o=o:=by
 unfold iL;rw [xI h];rfl
theorem Ig {r:Ro} {po:List Po} (hn:oT r) (h:jP r po) (v:Int) (o:ByteArray):iL po v ((cR r).length+1) o=iL po v 7 o:=by
 have:=hn.U8;unfold iL;rw [qL (T:=cR r) (jP.tie hn h.out h.yf) (h.D1 v) o (m:=7) (by omega)]
theorem Qt {r:Ro} {po:List Po} (hn:oT r) (h:jP r po) {v:Int}:∀ (k:Nat) (o:ByteArray),(fJ po v 7 o).length<=k->(eB po v o).isSome=true->iL po v 7 o∈cK r:=by
 have h6:=hn.U8;have hs:=fun o m hm=>qL (T:=cR r) (jP.tie hn h.out h.yf) (h.D1 v) o (m:=m) hm
 intro k
 induction k with
 | zero =>
  intro o hk ho;obtain ⟨i,hi⟩:=Zag.1 ho;rw [nR hi,ZE] at hk;omega
 | succ k ih =>
  intro o hk ho;obtain ⟨i,hi⟩:=Zag.1 ho;have e1:iL po v 7 o=iL po v 7 i:=by
   have:iL po v 8 o=iL po v 7 i:=zY hi;unfold iL at this ⊢;rw [hs o 8 (by omega)] at this;rw [hs o 7 (by omega)];exact this
  rw [e1];cases Di:eB po v i with
  | none =>
   rw [uo Di];obtain ⟨p,hp,NF,_,rfl⟩:=fF hi;rcases h.yf p hp with hS | hT
   ·exact hS
   ·have hu:nD po v p.ip=true:=by
     unfold nD;rw [ZQ];exact ⟨p,hp,by unfold yx;rw [NF];simp⟩
    have:=(h.use v p.ip hT).1 hu;unfold gM at this;rw [Di] at this;cases this
  | some j =>
   refine ih i ?_ (by rw [Di];rfl);have:(fJ po v 8 o).length=(fJ po v 7 i).length+1:=by rw [nR hi,ZE]
   rw [hs o 8 (by omega),<- hs o 7 (by omega)] at this;omega
theorem Aa {r:Ro} {po:List Po} (hn:oT r) (h:jP r po) {v:Int} {o:ByteArray} (ho:(eB po v o).isSome=true):qK po v (cK r) o=iL po v 7 o:=by
 unfold qK;rw [if_neg fun e=>cM.1 e (Qt hn h _ o (Zz _) ho)]
theorem Iq {r:Ro} {po:List Po} (hs:o ∉ cK r) (ho:eB po v o=none):qK po v (cK r) o=⟨#[]⟩:=by
 unfold qK;rw [uo ho,if_pos (cM.2 hs)]
theorem BI {po qo:List Po} (h1:tu po) (hs:∀ p∈qo,p∈po) {v:Int}:∀ {k:Nat} {o x:ByteArray},x∈fJ qo v k o->x∈fJ po v k o
 | 0,_,_,h=>by cases h
 | k + 1, o, x, h => by
  rw [fJ] at h;cases hi:eB qo v o with
  | none=>rw [hi] at h;cases h
  | some i =>
   rw [hi] at h;rw [nR (Ps h1 hs hi)];rcases ZT.1 h with rfl | h
   ·exact Zs
   ·exact ZP _ (BI h1 hs h)
theorem jP.filter {r:Ro} {po:List Po} (hn:oT r) (h:jP r po) (f:Po->Bool) (h2:∀ p∈po,p.ou∈cR r->∀ q∈po,f q=true->q.lv=p.lv->q.ip=p.ou->f p=true) (h3:∀ p∈po,p.ou∈cR r->f p=true->∃ q∈po,f q=true/\q.lv=p.lv/\q.ip=p.ou):jP r (po.filter f):=by
 have jI:∀ p∈po.filter f,p∈po:=fun p hp=>(Zr.1 hp).1
 have h1:=jP.one h.sq;refine ⟨h.sq.filter f,fun p hp=>h.Lx p (jI p hp),fun p hp=>h.out p (jI p hp),fun p hp=>h.yf p (jI p hp),fun p hp=>h.Q6 p (jI p hp),fun v=>?_,fun v t ht=>?_⟩
 ·rintro ⟨t,ht,hc⟩;exact h.D1 v ⟨t,ht,BI h1 jI hc⟩
 ·constructor
  ·intro hu;unfold nD at hu;rw [ZQ] at hu;obtain ⟨q,hq,PF⟩:=hu;unfold yx at PF;rw [Zn,decide_eq_true_eq,decide_eq_true_eq] at PF;obtain ⟨B0,rb⟩:=Zr.1 hq;have hb:=(h.use v t ht).1 (by unfold nD;rw [ZQ];exact ⟨q,B0,by unfold yx;rw [PF.1,PF.2];simp⟩);unfold gM at hb;obtain ⟨i,hi⟩:=Zag.1 hb;obtain ⟨p,hp,NF,o8,rfl⟩:=fF hi;have hf:=h2 p hp (o8 ▸ ht) q B0 rb (PF.1.trans NF.symm) (PF.2.trans o8.symm);have:=lO (h1.filter f) (Zr.2 ⟨hp,hf⟩);rw [NF,o8] at this;unfold gM;rw [this];rfl
  ·intro hb;unfold gM at hb;obtain ⟨i,hi⟩:=Zag.1 hb;obtain ⟨p,hp,NF,o8,rfl⟩:=fF hi;obtain ⟨B1,PG⟩:=Zr.1 hp;obtain ⟨q,hq,rb,Rl,hq4⟩:=h3 p B1 (o8 ▸ ht) PG;unfold nD;rw [ZQ];exact ⟨q,Zr.2 ⟨hq,rb⟩,by unfold yx;rw [Rl,hq4,NF,o8];simp⟩
theorem Bx (h:0<=bA l s):bA l s<(l.length:Nat):=by
 obtain ⟨hl,_⟩:=fB h;omega
theorem GK {a b:ByteArray} (ha:0<=bA l a) (h:bA l a=bA l b):a=b:=by
 obtain ⟨h1,e1⟩:=fB ha;obtain ⟨h2,e2⟩:=fB (l:=l) (s:=b) (by omega);rw [<- e1,<- e2];have:(bA l a).toNat=(bA l b).toNat:=by rw [h]
 simp only [this]
theorem K9 {r:Ro} {a b:ByteArray} (ha:a∈cy r\/a∈cR r) (hb:b∈cy r\/b∈cR r) (h:eC r a=eC r b):a=b:=by
 have hd:(cy r).length=r.de.length:=by unfold cy;rw [Zd]
 unfold eC at h;by_cases a1:0<=bA (cy r) a
 ·have:=Bx a1;by_cases b1:0<=bA (cy r) b
  ·rw [if_pos a1,if_pos b1] at h;exact GK a1 h
  ·by_cases b2:0<=bA (cR r) b
   ·rw [if_pos a1,if_neg b1,if_pos b2] at h;omega
   ·rcases hb with hb | hb
    ·exact absurd hb (cM.1 (by omega))
    ·exact absurd hb (cM.1 (by omega))
 ·by_cases a2:0<=bA (cR r) a
  ·by_cases b1:0<=bA (cy r) b
   ·have:=Bx b1;rw [if_neg a1,if_pos a2,if_pos b1] at h;omega
   ·by_cases b2:0<=bA (cR r) b
    ·rw [if_neg a1,if_pos a2,if_neg b1,if_pos b2] at h;exact GK a2 (by omega)
    ·rcases hb with hb | hb
     ·exact absurd hb (cM.1 (by omega))
     ·exact absurd hb (cM.1 (by omega))
  ·rcases ha with ha | ha
   ·exact absurd ha (cM.1 (by omega))
   ·exact absurd ha (cM.1 (by omega))
structure rY (r:Ro) (po:List Po) (v:Int) (x:ByteArray):Prop where
 sq:po.Pairwise (fun a b=>nF r a b=true)
 Lx:∀ p∈po,0<=p.lv/\p.lv<r.lv
 out:∀ p∈po,p.ou∈cy r\/p.ou∈cR r
 yf:∀ p∈po,p.ip∈cK r\/p.ip∈cR r
 Q6:∀ p∈po,k6 r p.ou=kI r p.ip
 D1:∀ v,¬ ∃ t∈cR r,t∈fJ po v ((cR r).length+1) t
 use:∀ u t,t∈cR r->(u=v/\t=x)\/(nD po u t=true↔gM po u t=true)
 bus:x∈cR r->gM po v x=true
theorem jP.Wk {r:Ro} {po:List Po} (h:jP r po) (hb:x∈cR r->gM po v x=true):rY r po v x:=⟨h.sq,h.Lx,h.out,h.yf,h.Q6,h.D1,fun u t ht=>.inr (h.use u t ht),hb⟩
theorem rY.val {r:Ro} {po:List Po} {v:Int} {x:ByteArray} (h:rY r po v x) (hx:x ∉ cR r):jP r po:=⟨h.sq,h.Lx,h.out,h.yf,h.Q6,h.D1,fun u t ht=>(h.use u t ht).resolve_left fun e=>hx (e.2 ▸ ht)⟩
theorem pP {r:Ro} {po:List Po} {p:Po} (hs:po.Pairwise (fun a b=>nF r a b=true)) (ho:∀ q∈po,q.ou∈cy r\/q.ou∈cR r) (hp:p.ou∈cy r\/p.ou∈cR r) (abn:eB po p.lv p.ou=none):(eG r p po).Pairwise (fun a b=>nF r a b=true):=
 uN hs fun q hq e=>jf.1 abn q hq ⟨e.1.symm,(K9 hp (ho q hq) e.2).symm⟩
theorem sQ {r:Ro} {po:List Po} {p:Po} (h1:tu (eG r p po)) (h0:tu po) (v:Int) (o:ByteArray):eB (eG r p po) v o=if p.lv=v/\p.ou=o then some p.ip else eB po v o:=by
 by_cases h:p.lv=v/\p.ou=o
 ·rw [if_pos h];have:=lO h1 (je.2 (.inl I):p∈eG r p po);rwa [h.1,h.2] at this
 ·rw [if_neg h];cases hi:eB po v o with
  | none =>
   rw [jf];intro q hq;rcases je.1 hq with rfl | hq
   ·exact h
   ·exact jf.1 hi q hq
  | some i =>
   obtain ⟨q,hq,rfl,rfl,rfl⟩:=fF hi;exact lO h1 (je.2 (.inr hq))
theorem rY.add {r:Ro} {po:List Po} (hn:oT r) (h:rY r po v x) (hv:0<=v/\v<r.lv) (hx:x∈cK r\/x∈cR r) (ho:o∈cy r\/o∈cR r) (eK:eB po v o=none) (hm:k6 r o=kI r x):rY r (eG r ⟨v,o,x⟩ po) v o:=by
 have hs:=pP (p:=⟨v,o,x⟩) h.sq h.out ho eK;have h1:=jP.one hs;have h0:=jP.one h.sq;have mY:=sQ (p:=⟨v,o,x⟩) h1 h0;have uO:x≠o:=by
  intro e;subst e;rcases hx with hx | hx
  ·rcases ho with ho | ho
   ·exact hn.sd _ hx ho
   ·exact hn.st _ hx ho
  ·have:=h.bus hx;unfold gM at this;rw [eK] at this;cases this
 -- no one ad3 ze new output
 have oN:∀ u,eB po v u≠some o:=by
  intro u hu;obtain ⟨q,hq,ND,_,Rk⟩:=fF hu;rcases ho with ho | ho
  ·rcases h.yf q hq with hS | hT
   ·exact hn.sd _ (Rk ▸ hS) ho
   ·exact hn.dt _ ho (Rk ▸ hT)
  ·rcases h.use v o ho with e | e
   ·exact uO e.2.symm
   ·have:nD po v o=true:=by
     unfold nD;rw [ZQ];exact ⟨q,hq,by unfold yx;rw [ND,Rk];simp⟩
    have:=e.1 this;unfold gM at this;rw [eK] at this;cases this
 have fg:∀ u y,eB (eG r ⟨v,o,x⟩ po) v u=some y->y≠o:=by
  intro u y hu e;subst e;rw [mY] at hu;split at hu
  ·exact uO (Option.some.inj hu)
  ·exact oN u hu
 refine ⟨hs,fun p hp=>?_,fun p hp=>?_,fun p hp=>?_,fun p hp=>?_,fun w=>?_,fun u t ht=>?_,fun _=>?_⟩
 ·rcases je.1 hp with rfl | hp
  ·exact hv
  ·exact h.Lx p hp
 ·rcases je.1 hp with rfl | hp
  ·exact ho
  ·exact h.out p hp
 ·rcases je.1 hp with rfl | hp
  ·exact hx
  ·exact h.yf p hp
 ·rcases je.1 hp with rfl | hp
  ·exact hm
  ·exact h.Q6 p hp
 ·rintro ⟨t,ht,hc⟩;obtain ⟨j,hj,he⟩:=vA.1 hc
  -- ze way round is one of ze zD points
  have key:∀ k y z,(w=v->y≠o)->mV (eG r ⟨v,o,x⟩ po) w k y=some z->mV po w k y=some z:=by
   intro k
   induction k with
   | zero=>intro y z _ h;exact h
   | succ k ih =>
    intro y z hy hz;rw [mV] at hz ⊢;have e1:eB (eG r ⟨v,o,x⟩ po) w y=eB po w y:=by
     rw [mY,if_neg fun e=>hy e.1.symm e.2.symm]
    cases hi:eB po w y with
    | none=>rw [e1,hi] at hz;cases hz
    | some u =>
     rw [e1,hi] at hz;refine ih u z (fun e q=>?_) hz;subst e q;exact fg y u (by rw [e1];exact hi) I
  refine h.D1 w ⟨t,ht,vA.2 ⟨j,hj,key (j+1) t t (fun e q=>?_) he⟩⟩;subst e q;obtain ⟨u,hu,TK⟩:∃ u,mV (eG r ⟨w,t,x⟩ po) w j t=some u/\eB (eG r ⟨w,t,x⟩ po) w u=some t:=by
   rw [kR] at he;cases hq:mV (eG r ⟨w,t,x⟩ po) w j t with
   | none=>rw [hq] at he;cases he
   | some u =>
    rw [hq] at he;exact ⟨u,I,by simpa [mV] using he⟩
  exact fg u t TK I
 ·by_cases e:u=v/\t=o
  ·exact .inl e
  ·refine .inr ?_;have hb:gM (eG r ⟨v,o,x⟩ po) u t=gM po u t:=by
    unfold gM;rw [mY,if_neg fun q=>e ⟨q.1.symm,q.2.symm⟩]
   have hu:nD (eG r ⟨v,o,x⟩ po) u t=true↔(u=v/\t=x)\/nD po u t=true:=by
    unfold nD;rw [ZQ,ZQ];constructor
    ·rintro ⟨q,hq,rb⟩;rcases je.1 hq with rfl | hq
     ·unfold yx at rb;rw [Zn,decide_eq_true_eq,decide_eq_true_eq] at rb;exact .inl ⟨rb.1.symm,rb.2.symm⟩
     ·exact .inr ⟨q,hq,rb⟩
    ·rintro (⟨rfl,rfl⟩ | ⟨q,hq,rb⟩)
     ·exact ⟨_,je.2 (.inl I),by unfold yx;simp⟩
     ·exact ⟨q,je.2 (.inr hq),rb⟩
   rw [hb,hu];rcases h.use u t ht with ex | ex
   ·obtain ⟨rfl,rfl⟩:=ex;exact ⟨fun _=>h.bus ht,fun _=>.inl ⟨I,I⟩⟩
   ·constructor
    ·rintro (⟨rfl,rfl⟩ | q)
     ·exact h.bus ht
     ·exact ex.1 q
    ·exact fun q=>.inr (ex.2 q)
 ·unfold gM;rw [mY,if_pos ⟨I,I⟩];rfl
theorem rY.ne {r:Ro} {po:List Po} (hn:oT r) (h:rY r po v x) (hx:x∈cK r\/x∈cR r) (ho:o∈cy r\/o∈cR r) (eK:eB po v o=none):x≠o:=by
 intro e;subst e;rcases hx with hx | hx
 ·rcases ho with ho | ho
  ·exact hn.sd _ hx ho
  ·exact hn.st _ hx ho
 ·have:=h.bus hx;unfold gM at this;rw [eK] at this;cases this
theorem rY.unused {r:Ro} {po:List Po} (hn:oT r) (h:rY r po v x) (hx:x∈cK r\/x∈cR r) (ho:o∈cy r\/o∈cR r) (eK:eB po v o=none):∀ u,eB po v u≠some o:=by
 have uO:=h.ne hn hx ho eK;intro u hu;obtain ⟨q,hq,ND,_,Rk⟩:=fF hu;rcases ho with ho | ho
 ·rcases h.yf q hq with hS | hT
  ·exact hn.sd _ (Rk ▸ hS) ho
  ·exact hn.dt _ ho (Rk ▸ hT)
 ·rcases h.use v o ho with e | e
  ·exact uO e.2.symm
  ·have:nD po v o=true:=by
    unfold nD;rw [ZQ];exact ⟨q,hq,by unfold yx;rw [ND,Rk];simp⟩
   have:=e.1 this;unfold gM at this;rw [eK] at this;cases this
theorem BJ {r:Ro} {po:List Po} {v:Int} {x o:ByteArray} (hn:oT r) (h:rY r po v x) (hx:x∈cK r\/x∈cR r) (ho:o∈cy r\/o∈cR r) (eK:eB po v o=none) {w:Int}:∀ {k:Nat} {y:ByteArray},¬(w=v/\y=o)->fJ (eG r ⟨v,o,x⟩ po) w k y=fJ po w k y
 | 0,_,_=>rfl
 | k + 1, y, hy => by
  have hs:=pP (p:=⟨v,o,x⟩) h.sq h.out ho eK;have e1:eB (eG r ⟨v,o,x⟩ po) w y=eB po w y:=by
   rw [sQ (p:=⟨v,o,x⟩) (jP.one hs) (jP.one h.sq),if_neg fun e=>hy ⟨e.1.symm,e.2.symm⟩]
  rw [fJ,fJ,e1];cases hi:eB po w y with
  | none=>rfl
  | some u =>
   show u::_=u::_;rw [BJ hn h hx ho eK fun e=>by
    obtain ⟨rfl,rfl⟩:=e;exact h.unused hn hx ho eK y hi]
theorem GY {r:Ro} {po:List Po} (hn:oT r) (h:rY r po v x) (hx:x∈cK r\/x∈cR r) (ho:o∈cy r\/o∈cR r) (eK:eB po v o=none) {w:Int} {y:ByteArray} (hy:¬(w=v/\y=o)) {S:List ByteArray}:qK (eG r ⟨v,o,x⟩ po) w S y=qK po w S y:=by
 unfold qK iL;rw [BJ hn h hx ho eK hy]
theorem Dw {r:Ro} {po:List Po} (hn:oT r) (h:rY r po v x) (hv:0<=v/\v<r.lv) (hx:x∈cK r\/x∈cR r) (ho:o∈cy r\/o∈cR r) (eK:eB po v o=none) (hm:k6 r o=kI r x):iL (eG r ⟨v,o,x⟩ po) v 7 o=iL po v 7 x:=by
 have h6:=hn.U8;have hA:=h.add hn hv hx ho eK hm;have hs:=pP (p:=⟨v,o,x⟩) h.sq h.out ho eK;have mY:eB (eG r ⟨v,o,x⟩ po) v o=some x:=by
  rw [sQ (p:=⟨v,o,x⟩) (jP.one hs) (jP.one h.sq),if_pos ⟨I,I⟩]
 have Vi:=fun m hm=>qL (T:=cR r) (jP.tie hn hA.out hA.yf) (hA.D1 v) o (m:=m) hm
 have e8:iL (eG r ⟨v,o,x⟩ po) v 8 o=iL (eG r ⟨v,o,x⟩ po) v 7 x:=zY mY;have e7:iL (eG r ⟨v,o,x⟩ po) v 7 o=iL (eG r ⟨v,o,x⟩ po) v 8 o:=by
  unfold iL;rw [Vi 7 (by omega),Vi 8 (by omega)]
 rw [e7,e8];unfold iL;rw [BJ hn h hx ho eK fun e=>h.ne hn hx ho eK e.2]
theorem xJ {po:List Po} (h1:tu po) {f:Po->Bool} (fO:∀ q∈po,f q=true->∀ p∈po,p.lv=q.lv->p.ou=q.ip->f p=true) {v:Int}:∀ {k:Nat} {y:ByteArray},(∀ p∈po,p.lv=v->p.ou=y->f p=true)->fJ (po.filter f) v k y=fJ po v k y
 | 0,_,_=>rfl
 | k + 1, y, hy => by
  rw [fJ,fJ];cases hi:eB po v y with
  | none =>
   have:eB (po.filter f) v y=none:=jf.2 fun p hp=>jf.1 hi p (Zr.1 hp).1
   rw [this]
  | some u =>
   obtain ⟨q,hq,ND,Rh,rfl⟩:=fF hi;have hf:=hy q hq ND Rh;have:eB (po.filter f) v y=some q.ip:=by
    have:=lO (h1.filter f) (Zr.2 ⟨hq,hf⟩);rwa [ND,Rh] at this
   rw [this];show q.ip::_=q.ip::_;rw [xJ h1 fO fun p hp NF o8=>fO q hq hf p hp (NF.trans ND.symm) o8]
end Go.Proofs.A1
