/- Parts of the proof: GkCore GkOps P5w S1p P5a P5b P5c P5d P5e P5f P5g. -/
import Derived.RangeFuncRecord
import Derived.OrdersIn
import Derived.KernelRfl
import Derived.Below
import Derived.IntWalk
import Derived.Laws.Strings
namespace Go
abbrev Value.q (x:Int):Value:=.int .i64 x
abbrev Value.z:Value:=.slice none 0 0
abbrev Value.w (b n c:Nat):Value:=.slice (some ⟨b,0,none⟩) n c
abbrev Value.p (b:Nat):Value:=.pointer (some ⟨b,0,none⟩)
end Go
set_option linter.unusedSectionVars false
set_option linter.unusedVariables false
set_option linter.unusedSimpArgs false
namespace Go.SL
open Go
open Go.RowKit (Below)
theorem I {α:Sort _} {a:α}:a=a:=rfl
theorem Za {α:Type _} (as:List α):[]++as=as:=rfl
theorem Zb:type_of% @List.cons_append:=rfl
theorem Zc:type_of% @List.getElem?_eq_getElem:=List.getElem?_eq_getElem
theorem Zd:type_of% @List.length_map:=@List.length_map
theorem Ze:type_of% @List.take_zero:=rfl
theorem Zf:type_of% @List.map_nil:=rfl
theorem Zg:type_of% @List.length_append:=@List.length_append
theorem Zh:type_of% @List.append_assoc:=@List.append_assoc
theorem Zi:type_of% @Nat.zero_le:=@Nat.zero_le
theorem Zj:type_of% @List.getElem_mem:=@List.getElem_mem
theorem Zk:type_of% @List.getD_eq_getElem?_getD:=@List.getD_eq_getElem?_getD
theorem Zl:type_of% @Bool.and_eq_true:=@Bool.and_eq_true
theorem Zm:type_of% @List.getElem?_eq_some_iff:=@List.getElem?_eq_some_iff
theorem Zn:type_of% @List.take_succ_eq_append_getElem:=@List.take_succ_eq_append_getElem
theorem Zo:type_of% @List.mem_map:=@List.mem_map
theorem Zp:type_of% @List.not_mem_nil:=@List.not_mem_nil
theorem Zq:type_of% @Decidable.not_not:=@Decidable.not_not
theorem Zr:type_of% @List.mem_cons_self:=@List.mem_cons_self
theorem Zs:type_of% @List.length_take:=@List.length_take
theorem Zt:type_of% @List.map_append:=@List.map_append
theorem Zu:type_of% @List.drop_eq_getElem_cons:=@List.drop_eq_getElem_cons
theorem Zv:type_of% @List.mem_append:=@List.mem_append
theorem Zw:type_of% @List.forall_mem_cons:=@List.forall_mem_cons
theorem Zx:type_of% @List.getElem_of_mem:=@List.getElem_of_mem
theorem Zy:type_of% @List.mem_filter:=@List.mem_filter
theorem Zz:type_of% @Nat.le_refl:=@Nat.le_refl
theorem ZA:type_of% @List.getElem?_map:=@List.getElem?_map
theorem ZB:type_of% @List.nodup_append:=@List.nodup_append
theorem ZC:type_of% @List.mem_append_left:=@List.mem_append_left
theorem ZD:type_of% @List.getElem?_append_left:=@List.getElem?_append_left
theorem ZE:type_of% @List.mem_singleton:=@List.mem_singleton
theorem ZF:type_of% @Int.toNat_natCast:=@Int.toNat_natCast
theorem ZG:type_of% @Array.getD_eq_getD_getElem?:=@Array.getD_eq_getD_getElem?
theorem ZH:type_of% @Nat.zero_add:=@Nat.zero_add
theorem ZI:type_of% @List.length_cons:=@List.length_cons
theorem ZJ:type_of% @List.getElem?_append_right:=@List.getElem?_append_right
theorem ZK:type_of% @List.getElem?_take:=@List.getElem?_take
theorem ZL:type_of% @List.take_length:=@List.take_length
theorem ZM:type_of% @Array.getElem?_setIfInBounds_ne:=@Array.getElem?_setIfInBounds_ne
theorem ZN:type_of% @List.any_eq_true:=@List.any_eq_true
theorem ZO:type_of% @List.mem_cons:=@List.mem_cons
theorem ZP:type_of% @List.mem_range:=@List.mem_range
theorem ZQ:type_of% @Bool.or_eq_true:=@Bool.or_eq_true
theorem ZR:type_of% @Nat.not_lt_zero:=@Nat.not_lt_zero
theorem ZS:type_of% @List.append_nil:=@List.append_nil
theorem ZT:type_of% @List.mem_append_right:=@List.mem_append_right
theorem ZU:type_of% @List.mem_map_of_mem:=@List.mem_map_of_mem
theorem ZV:type_of% @List.take_append_drop:=@List.take_append_drop
theorem ZW:type_of% @List.mem_cons_of_mem:=@List.mem_cons_of_mem
theorem ZX:type_of% @Nat.le_trans:=@Nat.le_trans
theorem ZY:type_of% @Nat.lt_of_not_le:=@Nat.lt_of_not_le
theorem ZZ:type_of% @List.map_cons:=@List.map_cons
theorem Z0:type_of% @List.getElem_map:=@List.getElem_map
theorem Z1:type_of% @List.mem_of_getElem?:=@List.mem_of_getElem?
theorem Z2:type_of% @Array.getElem?_eq_some_iff:=@Array.getElem?_eq_some_iff
theorem Z3:type_of% @List.length_replicate:=@List.length_replicate
theorem Z4:type_of% @Nat.mul_le_mul_right:=@Nat.mul_le_mul_right
theorem Z5:type_of% @List.eq_nil_of_length_eq_zero:=@List.eq_nil_of_length_eq_zero
theorem Z6:type_of% @List.all_eq_true:=@List.all_eq_true
theorem Z7:type_of% @List.drop_length:=@List.drop_length
theorem Z8:type_of% @List.length_filter_le:=@List.length_filter_le
theorem Z9:type_of% @Nat.blt_eq:=@Nat.blt_eq
theorem Zaa:type_of% @List.pairwise_iff_getElem:=@List.pairwise_iff_getElem
theorem Zab:type_of% @Nat.succ_mul:=@Nat.succ_mul
theorem Zac:type_of% @List.any_eq_false:=@List.any_eq_false
theorem Zad:type_of% @List.flatten_append:=@List.flatten_append
theorem Zae:type_of% @List.take_of_length_le:=@List.take_of_length_le
theorem Zaf:type_of% @Option.isSome_iff_exists:=@Option.isSome_iff_exists
theorem Zag:type_of% @List.take_append_of_le_length:=@List.take_append_of_le_length
theorem Zah:type_of% @Nat.eq_of_beq_eq_true:=@Nat.eq_of_beq_eq_true
theorem Zai:type_of% @List.getElem?_eq_none:=@List.getElem?_eq_none
theorem Zaj:type_of% @List.length_nil:=@List.length_nil
theorem Zak:type_of% @Option.map_eq_some_iff:=@Option.map_eq_some_iff
theorem Zal:type_of% @Option.getD_some:=@Option.getD_some
theorem Zam:type_of% @List.flatten_cons:=@List.flatten_cons
theorem Zan:type_of% @List.ext_getElem?:=@List.ext_getElem?
theorem Zao:type_of% @List.nodup_nil:=@List.nodup_nil
theorem Zap:type_of% @Nat.mul_one:=@Nat.mul_one
theorem Zaq:type_of% @List.map_congr_left:=@List.map_congr_left
theorem Zar:type_of% @List.getElem_append_right:=@List.getElem_append_right
theorem Zas:type_of% @Nat.lt_trichotomy:=@Nat.lt_trichotomy
theorem Zat:type_of% @List.map_map:=@List.map_map
theorem Zau:type_of% @Nat.add_zero:=@Nat.add_zero
theorem Zav:type_of% @List.getElem?_cons_zero:=@List.getElem?_cons_zero
theorem Zaw:type_of% @List.length_eq_zero_iff:=@List.length_eq_zero_iff
theorem Zax:type_of% @Bool.not_eq_true:=@Bool.not_eq_true
theorem Zay:type_of% @Nat.le_of_ble_eq_true:=@Nat.le_of_ble_eq_true
theorem Zaz:type_of% @Bool.true_and:=@Bool.true_and
theorem ZaA:type_of% @List.find?_eq_some_iff_getElem:=@List.find?_eq_some_iff_getElem
theorem ZaB:type_of% @Array.getElem?_toList:=@Array.getElem?_toList
theorem ZaC:type_of% @List.getElem_append_left:=@List.getElem_append_left
theorem ZaD:type_of% @Nat.lt_of_lt_of_le:=@Nat.lt_of_lt_of_le
theorem ZaE:type_of% @Nat.add_sub_cancel:=@Nat.add_sub_cancel
theorem ZaF:type_of% @List.find?_eq_none:=@List.find?_eq_none
theorem ZaG:type_of% @List.mem_of_mem_take:=@List.mem_of_mem_take
theorem ZaH:type_of% @List.map_take:=@List.map_take
theorem ZaI:type_of% @List.length_take_of_le:=@List.length_take_of_le
theorem ZaJ:type_of% @List.getElem_take:=@List.getElem_take
theorem ZaK:type_of% @List.perm_ext_iff_of_nodup:=@List.perm_ext_iff_of_nodup
theorem ZaL:type_of% @Bool.eq_false_iff:=@Bool.eq_false_iff
theorem ZaM:type_of% @List.length_range:=@List.length_range
theorem ZaN:type_of% @Array.length_toList:=@Array.length_toList
theorem ZaO:type_of% @List.filter_eq_self:=@List.filter_eq_self
theorem ZaP:type_of% @Option.map_some:=@Option.map_some
theorem ZaQ:type_of% @Array.getElem?_eq_getElem:=@Array.getElem?_eq_getElem
theorem ZaR:type_of% @List.mem_of_find?_eq_some:=@List.mem_of_find?_eq_some
theorem ZaS:type_of% @List.length_drop:=@List.length_drop
theorem ZaT:type_of% @Bool.false_eq_true:=@Bool.false_eq_true
theorem ZaU:type_of% @List.pairwise_cons:=@List.pairwise_cons
theorem ZaV:type_of% @List.length_erase_of_mem:=@List.length_erase_of_mem
theorem ZaW:type_of% @Array.toArray_toList:=@Array.toArray_toList
theorem ZaX:type_of% @List.getElem?_modify:=@List.getElem?_modify
theorem ZaY:type_of% @List.getElem?_cons_succ:=@List.getElem?_cons_succ
theorem ZaZ:type_of% @List.mem_range'_1:=@List.mem_range'_1
theorem Zba:type_of% @List.pairwise_map:=@List.pairwise_map
theorem Zbb:type_of% @List.filter_congr:=@List.filter_congr
theorem Zbc:type_of% @Nat.succ_le_of_lt:=@Nat.succ_le_of_lt
theorem Zbd:type_of% @Nat.min_eq_left:=@Nat.min_eq_left
theorem Zbe:type_of% @Bool.eq_iff_iff:=@Bool.eq_iff_iff
theorem Zbf:type_of% @List.getElem?_range:=@List.getElem?_range
theorem Zbg:type_of% @List.drop_of_length_le:=@List.drop_of_length_le
theorem Zbh:type_of% @Nat.le_of_not_lt:=@Nat.le_of_not_lt
theorem Zbi:type_of% @List.drop_drop:=@List.drop_drop
theorem Zbj:type_of% @List.getElem?_drop:=@List.getElem?_drop
theorem Zbk:type_of% @List.filter_append:=@List.filter_append
theorem Zbl:type_of% @List.prefix_append:=@List.prefix_append
theorem Zbm:type_of% @List.getElem_range:=@List.getElem_range
theorem Zbn:type_of% @List.set_append_right:=@List.set_append_right
theorem Zbo:type_of% @Array.getElem?_modify:=@Array.getElem?_modify
theorem Zbp:type_of% @List.length_singleton:=@List.length_singleton
theorem Zbq:type_of% @List.contains_iff_mem:=@List.contains_iff_mem
theorem Zbr:type_of% @List.sublist_append_right:=@List.sublist_append_right
theorem Zbs:type_of% @List.size_toArray:=@List.size_toArray
theorem Zbt:type_of% @Nat.zero_mul:=@Nat.zero_mul
theorem Zbu:type_of% @Bool.not_eq_true':=@Bool.not_eq_true'
theorem Zbv:type_of% @List.set_append_left:=@List.set_append_left
theorem Zbw:type_of% @List.sublist_append_left:=@List.sublist_append_left
theorem Zbx:type_of% @Nat.mul_le_mul_left:=@Nat.mul_le_mul_left
theorem Zby:type_of% @List.length_pos_iff:=@List.length_pos_iff
theorem Zbz:type_of% @List.filter_cons_of_pos:=@List.filter_cons_of_pos
theorem ZbA:type_of% @List.getElem?_replicate:=@List.getElem?_replicate
theorem ZbB:type_of% @Array.getElem?_eq_none:=@Array.getElem?_eq_none
theorem ZbC:type_of% @Nat.lt_or_ge:=@Nat.lt_or_ge
theorem ZbD:type_of% @List.filter_filter:=@List.filter_filter
theorem ZbE:type_of% @List.mem_flatten:=@List.mem_flatten
theorem ZbF:type_of% @Nat.min_le_right:=@Nat.min_le_right
theorem ZbG:type_of% @List.nodup_range:=@List.nodup_range
abbrev aH:=List (Nat×Value)
def cX:aH->Nat->Option Value
 | [],_=>none
 | (t,v)::r,k=>bif Nat.beq t k then some v else cX r k
variable {D:List Nat} {N:Act->World->Prop} {Q:Exit->Act->World->Prop} {V:Value} {a:Act} {b d:Nat} {h:Nat->Option Obj} {id:Nat} {o:Oper} {op:Op} {ops:Array Oper} {r:Option Nat} {rest:List Oper} {v:Value} {x:Operand}
theorem fK {t k:Nat} {r:aH} (h:t≠k):cX ((t,v)::r) k=cX r k:=by
 have:Nat.beq t k=false:=by
  cases hb:Nat.beq t k with
  | false=>rfl
  | true=>exact absurd (Zah hb) h
 simp [cX,this]
theorem fL {t:Nat} {r:aH}:cX ((t,v)::r) t=some v:=by
 simp [cX]
def bZ (sl:aH) (a:Act):Prop:=∀ t v,cX sl t=some v->a.tmps[t]? = some v
theorem bZ.eval {sl:aH} (h:bZ sl a) {t:Nat} {v:Value} (hv:cX sl t=some v):a.eval (.tmp t)=v:=by
 have:=h t v hv;simp [Act.eval,ZG,this]
theorem bZ.put {sl:aH} (h:bZ sl a) {d:Nat} (hd:d<a.tmps.size) (v:Value):bZ ((d,v)::sl) (a.put (some d) v):=by
 intro t u hu;by_cases xL:d=t
 ·subst xL;rw [fL] at hu;cases hu;simp [Act.put,hd]
 ·rw [fK xL] at hu;simp only [Act.put,ZM xL];exact h t u hu
theorem bZ.sub {sl js:aH} (h:bZ sl a) (hs:∀ t v,cX js t=some v->cX sl t=some v):bZ js a:=fun t v hv=>h t v (hs t v hv)
def Is (sl:aH) (x:Operand) (v:Value):Prop:=∀ a:Act,bZ sl a->a.eval x=v
def gv (c:Bool) (v:Value):Value:=bif c then v else undef
theorem uU {c:Bool} (h:c=true):gv c v=v:=by simp [gv,h]
theorem wq {c:Bool} (h:c=false):gv c v=undef:=by simp [gv,h]
def hp (w:World):Nat->Option Obj:=fun b=>w.heap[b]?
theorem kh {w:World} {o:Obj} (h:hp w b=some o):b<w.heap.size:=(Z2.1 h).1
structure bd where
 sat:(Nat->Option Obj)->List Nat->Prop
 loc:∀ {h h':Nat->Option Obj} {fp:List Nat},sat h fp->(∀ b∈fp,h' b=h b)->sat h' fp
 own:∀ {h:Nat->Option Obj} {fp:List Nat},sat h fp->∀ b∈fp,∃ o,h b=some o
def cC (h:Nat->Option Obj):List bd->List Nat->Prop
 | [],fp=>fp=[]
 | A::As,fp=>∃ f1 f2,fp=f1++f2/\A.sat h f1/\cC h As f2
theorem cC.own :∀ {hs:List bd} {fp:List Nat},cC h hs fp->∀ b∈fp,∃ o,h b=some o
 | [],_,hh,b,hb=>by rw [show _=[] from hh] at hb;cases hb
 | A :: As, _, ⟨f1, f2, e, h1, h2⟩, b, hb => by
  subst e;rcases Zv.1 hb with hb | hb
  ·exact A.own h1 b hb
  ·exact cC.own h2 b hb
theorem cC.loc {h h':Nat->Option Obj}:∀ {hs:List bd} {fp:List Nat},cC h hs fp->(∀ b∈fp,h' b=h b)->cC h' hs fp
 | [],_,hh,_=>hh
 | A :: As, _, ⟨f1, f2, e, h1, h2⟩, hb => by
  subst e;exact ⟨f1,f2,I,A.loc h1 (fun b dF=>hb b (ZC _ dF)),cC.loc h2 (fun b dF=>hb b (ZT _ dF))⟩
theorem cC.append_iff :∀ {l1 l2:List bd} {fp:List Nat},cC h (l1++l2) fp↔∃ f1 f2,fp=f1++f2/\cC h l1 f1/\cC h l2 f2
 | [],l2,fp=>⟨fun hh=>⟨[],fp,rfl,rfl,hh⟩,fun ⟨f1,f2,e,h1,h2⟩=>by rw [show f1=[] from h1] at e;simpa [e] using h2⟩
 | A :: l1, l2, fp => by
  constructor
  ·rintro ⟨f1,f2,rfl,h1,h2⟩;obtain ⟨g1,g2,rfl,h3,h4⟩:=cC.append_iff.1 h2;exact ⟨f1++g1,g2,by simp,⟨f1,g1,I,h1,h3⟩,h4⟩
  ·rintro ⟨f1,f2,rfl,⟨g1,g2,rfl,h1,h2⟩,h3⟩;exact ⟨g1,g2++f2,by simp,h1,cC.append_iff.2 ⟨g2,f2,I,h2,h3⟩⟩
inductive Take:List bd->bd->List bd->Prop
 | here {A:bd} {r:List bd}:Take (A::r) A r
 | there {A X:bd} {r r':List bd} (h:Take r A r'):Take (X::r) A (X::r')
theorem Take.append {hs hs':List bd} {A:bd} (h:Take hs A hs') (m:List bd):Take (hs++m) A (hs'++m):=by
 induction h with
 | here=>exact .here
 | there _ ih=>exact .there ih
theorem cC.take {hs hs':List bd} {A:bd} (ht:Take hs A hs'):∀ {fp:List Nat},cC h hs fp->∃ f1 f2,A.sat h f1/\cC h hs' f2/\fp.Perm (f1++f2):=by
 induction ht with
 | here =>
  rintro fp ⟨f1,f2,rfl,h1,h2⟩;exact ⟨f1,f2,h1,h2,.refl _⟩
 | there _ ih =>
  rintro fp ⟨f1,f2,rfl,h1,h2⟩;obtain ⟨g1,g2,h3,h4,hp⟩:=ih h2;refine ⟨g1,f1++g2,h3,⟨f1,g2,I,h1,h4⟩,?_⟩;exact (hp.append_left f1).trans (by
   rw [<- Zh,<- Zh];exact (List.perm_append_comm).append_right g2)
structure aK (md:List Nat) (w w':World):Prop where
 os:w'.os=w.os
 tape:w'.tape=w.tape
 output:w'.output=w.output
 dr:w.drawn<=w'.drawn
 size:w.heap.size<=w'.heap.size
 block:∀ k,k<w.heap.size->k ∉ md->w'.heap[k]? = w.heap[k]?
theorem aK.refl (md:List Nat) (w:World):aK md w w:=⟨I,I,I,Zz _,Zz _,fun _ _ _=>rfl⟩
theorem aK.trans {md:List Nat} {a b c:World} (h:aK md a b) (k:aK md b c):aK md a c:=
 ⟨k.os.trans h.os,k.tape.trans h.tape,k.output.trans h.output,ZX h.dr k.dr,ZX h.size k.size,fun i hi hm=>(k.block i (ZaD hi h.size) hm).trans (h.block i hi hm)⟩
theorem aK.mono {md md':List Nat} {w w':World} (h:aK md w w') (hs:∀ b∈md,b∈md'):aK md' w w':=
 ⟨h.os,h.tape,h.output,h.dr,h.size,fun k hk hm=>h.block k hk (fun hb=>hm (hs k hb))⟩
theorem aK.below {w w':World} (h:aK [] w w'):Below w.heap.size w w':=⟨h.os,h.tape,h.output,h.size,fun k hk=>h.block k hk (by simp)⟩
theorem aK.Kx {w w':World} (h:Below w.heap.size w w') (hd:w.drawn<=w'.drawn):aK [] w w':=⟨h.os,h.tape,h.output,hd,h.size,fun k hk _=>h.block k hk⟩
theorem aK.drew (md:List Nat) (w:World):aK md w w.drew:=⟨I,I,I,Nat.le_succ _,Zz _,fun _ _ _=>rfl⟩
theorem aK.alloc (md:List Nat) (w:World) (o:Obj):aK md w (w.alloc o):=
 ⟨I,I,I,Zz _,by simp,fun k hk _=>by show (w.heap.push o)[k]? = _;rw [Array.getElem?_push,if_neg (by omega)]⟩
structure Cx where
 w0:World
 md:List Nat
 nt:Nat
structure Mem (c:Cx) (hs:List bd) (w:World):Prop where
 keeps:aK c.md c.w0 w
 own:∃ fp:List Nat,fp.Nodup/\cC (hp w) hs fp/\∀ b∈fp,c.w0.heap.size<=b\/b∈c.md
theorem Mem.take {c:Cx} {hs hs':List bd} {A:bd} {w:World} (h:Mem c hs w) (ht:Take hs A hs'):Mem c (A::hs') w:=by
 obtain ⟨k,fp,hn,hs,hb⟩:=h;obtain ⟨f1,f2,h1,h2,hp⟩:=hs.take ht;exact ⟨k,f1++f2,hp.nodup_iff.1 hn,⟨f1,f2,I,h1,h2⟩,fun b dF=>hb b (hp.mem_iff.2 dF)⟩
theorem Mem.change {c:Cx} {As Bs hs:List bd} {w w':World} (h:Mem c (As++hs) w)
  (hch:∀ fp,fp.Nodup->cC (hp w) As fp->aK fp w w'/\∃ lS:List Nat,lS.Nodup/\cC (hp w') Bs lS/\∀ b∈lS,b∈fp\/w.heap.size<=b):Mem c (Bs++hs) w':=by
 obtain ⟨k,fp,hn,hs,hb⟩:=h;obtain ⟨f1,f2,rfl,h1,h2⟩:=cC.append_iff.1 hs;obtain ⟨n1,n2,n12⟩:=ZB.1 hn;obtain ⟨hk,lS,uP,hs',yU⟩:=hch f1 n1 h1;have aN:∀ b∈f2,b<w.heap.size:=fun b dF=>let ⟨o,ho⟩:=h2.own b dF;kh ho
 refine ⟨?_,lS++f2,?_,cC.append_iff.2 ⟨lS,f2,I,hs',h2.loc fun b dF=>?_⟩,?_⟩
 ·refine ⟨hk.os.trans k.os,hk.tape.trans k.tape,hk.output.trans k.output,ZX k.dr hk.dr,ZX k.size hk.size,fun b dF hm=>?_⟩;rw [<- k.block b dF hm];refine hk.block b (ZaD dF k.size) (fun hf=>?_);rcases hb b (ZC _ hf) with h | h
  ·omega
  ·exact hm h
 ·refine ZB.2 ⟨uP,n2,fun x hx y hy e=>?_⟩;subst e;rcases yU x hx with h | h
  ·exact n12 x h x hy I
  ·have:=aN x hy;omega
 ·exact hk.block b (aN b dF) (fun hf=>n12 b hf b dF I)
 ·intro b dF;rcases Zv.1 dF with h | h
  ·rcases yU b h with h | h
   ·exact hb b (ZC _ h)
   ·exact .inl (ZX k.size h)
  ·exact hb b (ZT _ h)
theorem Mem.rS {c:Cx} {hs:List bd} {w w':World} (h:Mem c hs w) (hk:aK [] w w'):Mem c hs w':=
 Mem.change (As:=[]) (Bs:=[]) h fun fp _ hf=>by
  rw [show fp=[] from hf];exact ⟨hk,[],Zao,I,by simp⟩
theorem Mem.drew {c:Cx} {hs:List bd} {w:World} (h:Mem c hs w):Mem c hs w.drew:=h.rS (.drew _ _)
theorem Mem.lE {c:Cx} {l m:List bd} {w:World} (h:Mem c (l++m) w):Mem c l w:=by
 obtain ⟨k,fp,hn,hs,hb⟩:=h;obtain ⟨f1,f2,rfl,h1,h2⟩:=cC.append_iff.1 hs;exact ⟨k,f1,(ZB.1 hn).1,h1,fun b dF=>hb b (ZC _ dF)⟩
theorem Mem.wy {c:Cx} {A:bd} {l:List bd} {w:World} (h:Mem c (A::l) w):Mem c l w:=by
 obtain ⟨k,fp,hn,⟨f1,f2,rfl,h1,h2⟩,hb⟩:=h;exact ⟨k,f2,(ZB.1 hn).2.1,h2,fun b dF=>hb b (ZT _ dF)⟩
def bo (b:Nat) (o:Obj):bd where
 sat h fp:=fp=[b]/\h b=some o
 loc:=fun ⟨e,h1⟩ hb=>⟨e,by rw [hb _ (by rw [e];simp)];exact h1⟩
 own:=fun ⟨e,h1⟩ b' dF=>by rw [e] at dF;rw [ZE.1 dF];exact ⟨o,h1⟩
theorem Mem.bo {c:Cx} {hs hs':List bd} {b:Nat} {o:Obj} {w:World} (h:Mem c hs w) (ht:Take hs (bo b o) hs'):w.heap[b]? = some o:=by
 obtain ⟨_,fp,_,⟨f1,f2,_,⟨_,h1⟩,_⟩,_⟩:=h.take ht;exact h1
theorem Mem.alloc {c:Cx} {hs:List bd} {w:World} (h:Mem c hs w) (o:Obj):Mem c (SL.bo w.heap.size o::hs) (w.alloc o):=
 Mem.change (As:=[]) (Bs:=[SL.bo w.heap.size o]) h fun fp _ hf=>by
  rw [show fp=[] from hf];refine ⟨.alloc _ _ _,[w.heap.size],by simp,⟨[w.heap.size],[],I,⟨I,World.alloc_heap_new w o⟩,I⟩,by simp⟩
theorem Mem.store {c:Cx} {hs:List bd} {o o':Obj} {w w':World} (h:Mem c (SL.bo b o::hs) w) (hk:aK [b] w w') (ho:w'.heap[b]? = some o'):Mem c (SL.bo b o'::hs) w':=
 Mem.change (As:=[SL.bo b o]) (Bs:=[SL.bo b o']) h fun fp _ hf=>by
  obtain ⟨f1,f2,e,⟨e1,_⟩,e2⟩:=hf;have:fp=[b]:=by rw [e,e1,show f2=[] from e2];rfl
  subst this;exact ⟨hk,[b],by simp,⟨[b],[],I,⟨I,ho⟩,I⟩,fun x hx=>.inl hx⟩
theorem Mem.base {c:Cx} {hs:List bd} {w:World} (h:Mem c hs w) {b:Nat} (hb:b<c.w0.heap.size) (hm:b ∉ c.md):w.heap[b]? = c.w0.heap[b]?:=h.keeps.block b hb hm
def mark (r:Nat):Deferred:={ target:=.collected r,args:=#[] }
def nb (D:List Nat):List bd:=D.map fun r=>bo r (.deferred (some []))
structure St (c:Cx) (D:List Nat) (sl:aH) (hs:List bd) (a:Act) (w:World):Prop where
 mem:Mem c (hs++nb D) w
 cZ:bZ sl a
 size:a.tmps.size=c.nt
 defers:a.defers=D.map mark
def Tr (c:Cx) (D:List Nat) (sl:aH) (hs:List bd) (X:Act->World->Prop):Prop:=∀ a w,St c D sl hs a w->X a w
theorem St.qD {c:Cx} {sl:aH} {hs:List bd} {w:World} (h:St c D sl hs a w):Mem c hs w:=h.mem.lE
theorem St.put {c:Cx} {sl:aH} {hs:List bd} {w:World} (h:St c D sl hs a w) {d:Nat} (hd:d<c.nt) (v:Value):St c D ((d,v)::sl) hs (a.put (some d) v) w:=
 ⟨h.mem,h.cZ.put (by rw [h.size];exact hd) v,by simp [Act.put,h.size],h.defers⟩
theorem St.heap {c:Cx} {sl:aH} {hs hs':List bd} {w w':World} (h:St c D sl hs a w) (hm:Mem c (hs'++nb D) w'):St c D sl hs' a w':=
 ⟨hm,h.cZ,h.size,h.defers⟩
def FR (r:Option Nat):Fence:={ Fence.wide with round:=r }
def WP (P:Program) (r:Option Nat) (code:Code) (Q:Exit->Act->World->Prop):Act->World->Prop:=code.wpIn (FR r) 0 P Q
def WL (P:Program) (r:Option Nat) (ops:Array Oper) (Q:Exit->Act->World->Prop):List Oper->Act->World->Prop
 | [],a,w=>Q .normal a w
 | o :: rest, a, w =>
  if Region.wanted o (yielded ops a.tmps) then o.wpIn (FR r) 0 P a w (WL P r ops Q rest) Q else WL P r ops Q rest (a.put o.dst undef) w
theorem dQ (r:Option Nat) (o:Oper) (P:Program) (w:World) (ρ:Operand->Value):∀ f,o.about P w ρ=some f->(FR r).fn f:=fun _ _=>trivial
theorem xy {P:Program} (l:List Oper):∀ k,(∀ j,l[j]? = ops[k+j]?)->wpOpsIn (FR r) 0 P ops Q (List.range' k l.length)=WL P r ops Q l:=by
 induction l with
 | nil=>intro k _;funext a w;simp [wpOpsIn,WL]
 | cons o l ih =>
  intro k h;have h0:ops[k]? = some o:=by simpa using (h 0).symm
  have ih':=ih (k+1) (fun j=>by have:=h (j+1);simpa [Nat.add_assoc,Nat.add_comm 1 j] using this)
  funext a w;simp only [ZI,List.range'_succ,wpOpsIn,h0,WL,ih'];split
  ·rfl
  ·simp [FR,Fence.wide]
theorem su {P:Program} {c:Cx} {sl:aH} {hs:List bd} {l:List Oper}
  (h:Tr c D sl hs (WL P r l.toArray Q l)):Tr c D sl hs (WP P r (.region id l.toArray false) Q):=fun a w bh=>by
 unfold WP;refine wpIn_region ?_;rw [List.range_eq_range',show l.toArray.size=l.length from by simp,xy l 0 (by simp)];exact h a w bh
theorem vg {P:Program} {c:Cx} {sl:aH} {hs:List bd} {x y:Code}
  (h:Tr c D sl hs (WP P r x (Exit.then (WP P r y Q) Q))):Tr c D sl hs (WP P r (.seq x y) Q):=fun a w bh=>wpIn_seq (h a w bh)
theorem DZ {P:Program} {c:Cx} {sl:aH} {hs:List bd}
  (h:Tr c D sl hs (Q .normal)):Tr c D sl hs (WL P r ops Q []):=h
theorem zA {c:Cx} {sl:aH} {hs:List bd}
  (h:Tr c D sl hs N):Tr c D sl hs (Exit.then N Q .normal):=h
theorem BK {c:Cx} {sl:aH} {hs:List bd}
  (h:Tr c D sl hs (Q .ret)):Tr c D sl hs (Exit.then N Q .ret):=h
theorem zy {c:Cx} {sl:aH} {hs:List bd}
  (h:Tr c D sl hs (Q (.exit id))):Tr c D sl hs (Exit.then N Q (.exit id)):=h
theorem qk {c:Cx} {sl:aH} {hs:List bd}
  (h:Tr c D sl hs (Q .normal)):Tr c D sl hs (Exit.inBlock id Q .normal):=h
theorem D3 {c:Cx} {sl:aH} {hs:List bd}
  (h:Tr c D sl hs (Q .ret)):Tr c D sl hs (Exit.inBlock id Q .ret):=h
theorem BW {c:Cx} {sl:aH} {hs:List bd}
  (h:Tr c D sl hs (Q .normal)):Tr c D sl hs (Exit.inBlock id Q (.exit id)):=fun a w bh=>by
 simp only [Exit.inBlock,if_true];exact h a w bh
theorem vi {c:Cx} {sl:aH} {hs:List bd} {id Xg:Nat} (hne:Nat.beq Xg id=false)
  (h:Tr c D sl hs (Q (.exit Xg))):Tr c D sl hs (Exit.inBlock id Q (.exit Xg)):=fun a w bh=>by
 have:¬ Xg=id:=fun e=>by subst e;simp at hne
 simp only [Exit.inBlock,this,if_false];exact h a w bh
theorem IK {P:Program} {c:Cx} {sl:aH} {hs:List bd} {x:Code}
  (h:Tr c D sl hs (WP P r x (Exit.inBlock id Q))):Tr c D sl hs (WP P r (.block id x) Q):=fun a w bh=>wpIn_block (h a w bh)
theorem zB {P:Program} {c:Cx} {sl:aH} {hs:List bd}
  (h:Tr c D sl hs (Q .normal)):Tr c D sl hs (WP P r .skip Q):=fun a w bh=>wpIn_skip (h a w bh)
theorem No {P:Program} {c:Cx} {sl:aH} {hs:List bd}
  (h:Tr c D sl hs (Q (.exit id))):Tr c D sl hs (WP P r (.exit id) Q):=fun a w bh=>wpIn_exit (h a w bh)
theorem IE {P:Program} {c:Cx} {sl:aH} {hs:List bd}
  (h:Tr c D sl hs (Q .ret)):Tr c D sl hs (WP P r .ret Q):=fun a w bh=>wpIn_ret (h a w bh)
theorem FD {P:Program} {c:Cx} {sl:aH} {hs:List bd} {b:Bool} {u v:Code} (hx:Is sl x (.bool b))
  (ht:b=true->Tr c D sl hs (WP P r u Q)) (hf:b=false->Tr c D sl hs (WP P r v Q)):Tr c D sl hs (WP P r (.cond x u v) Q):=fun a w bh=>
 wpIn_cond_split (hx a bh.cZ) (fun e=>ht e a w bh) (fun e=>hf e a w bh)
theorem cL {P:Program} {c:Cx} {sl:aH} {hs:List bd} {u v:Code} (hx:Is sl x (.bool true))
  (ht:Tr c D sl hs (WP P r u Q)):Tr c D sl hs (WP P r (.cond x u v) Q):=fun a w bh=>wpIn_cond_true (hx a bh.cZ) (ht a w bh)
theorem bE {P:Program} {c:Cx} {sl:aH} {hs:List bd} {u v:Code} (hx:Is sl x (.bool false))
  (ht:Tr c D sl hs (WP P r v Q)):Tr c D sl hs (WP P r (.cond x u v) Q):=fun a w bh=>wpIn_cond_false (hx a bh.cZ) (ht a w bh)
theorem G0 {P:Program} {c:Cx} {sl:aH} {hs:List bd} {p:Prop} {inst:Decidable p} {u v:Code} (hx:Is sl x (.bool (decide p)))
  (ht:p->Tr c D sl hs (WP P r u Q)) (hf:¬ p->Tr c D sl hs (WP P r v Q)):Tr c D sl hs (WP P r (.cond x u v) Q):=
 FD hx (fun e=>ht (of_decide_eq_true e)) (fun e=>hf (of_decide_eq_false e))
theorem Nn {P:Program} {c:Cx} {sl:aH} {hs:List bd} {x:Code} {ι:Type} (Φ:ι->Prop) (sI:ι->aH) (hI:ι->List bd) (μ:ι->Nat)
  (h0:Tr c D sl hs fun a w=>∃ i,Φ i/\St c D (sI i) (hI i) a w)
  (round:∀ i,Φ i->Tr c D (sI i) (hI i) (WP P r x (Exit.then (fun a w=>∃ j,Φ j/\μ j<μ i/\St c D (sI j) (hI j) a w) Q))) :
  Tr c D sl hs (WP P r (.loop x) Q):=fun a w bh=>by
 have key:∀ (n:Nat) i,μ i=n->Φ i->∀ a w,St c D (sI i) (hI i) a w->True:=fun _ _ _ _ _ _ _=>trivial
 -- a measure on XO: DF least 'μ i' of abz Uy fit
 let fits:Act->World->Nat->Prop:=fun a w n=>∃ i,Φ i/\μ i=n/\St c D (sI i) (hI i) a w
 have least:∀ a w,(∃ n,fits a w n)->∃ n,fits a w n/\∀ m,fits a w m->n<=m:=by
  intro a w ⟨n,hn⟩
  induction n using Nat.strongRecOn with
  | _ n ih =>
   by_cases h:∃ m,m<n/\fits a w m
   ·obtain ⟨m,hm,hf⟩:=h;exact ih m hm hf
   ·exact ⟨n,hn,fun m hm=>Zbh fun aN=>h ⟨m,aN,hm⟩⟩
 let M:Act->World->Nat:=fun a w=>Classical.epsilon fun n=>fits a w n/\∀ m,fits a w m->n<=m
 have hM:∀ a w,(∃ n,fits a w n)->fits a w (M a w)/\∀ m,fits a w m->M a w<=m:=fun a w h=>Classical.epsilon_spec (least a w h)
 refine wpIn_loop (fun a w=>∃ n,fits a w n) M ?_ ?_
 ·obtain ⟨i,hi,hs⟩:=h0 a w bh;exact ⟨μ i,i,hi,I,hs⟩
 ·intro a w hI;obtain ⟨⟨i,hi,hm,hs⟩,_⟩:=hM a w hI;refine wpIn_mono (round i hi a w hs) fun e a' w' h=>?_;cases e with
  | normal =>
   obtain ⟨j,hj,aN,hs'⟩:=h;have hf:fits a' w' (μ j):=⟨j,hj,I,hs'⟩;exact ⟨⟨_,hf⟩,Nat.lt_of_le_of_lt ((hM a' w' ⟨_,hf⟩).2 _ hf) (by rw [<- hm];exact aN)⟩
  | _=>exact h
theorem lY {P:Program} {w:World} (hg:o.guard=none)
  (h:o.wpIn (FR r) 0 P a w (WL P r ops Q rest) Q):WL P r ops Q (o::rest) a w:=by
 unfold WL;rw [if_pos (by simp [Region.wanted,hg])];exact h
def cY (P:Program) (c:Cx) (sl:aH) (hs:List bd) (o:Oper) (V:Value):Prop:=
 (∀ d,o.op≠.defer d)/\∀ a w,bZ sl a->Mem c hs w->(execOp a.eval o).run P w=.ok (.value V) w
theorem ab {P:Program} {c:Cx} {sl:aH} {hs:List bd} {ty:TypeId} {pos:String} {af:Array Edge}
  (hr:cY P c sl hs ⟨some d,op,ty,pos,af,none⟩ V) (hd:Nat.blt d c.nt=true) (k:Tr c D ((d,V)::sl) hs (WL P r ops Q rest)) :
  Tr c D sl hs (WL P r ops Q (⟨some d,op,ty,pos,af,none⟩::rest)):=fun a w bh=>by
 refine lY I ⟨dQ _ _ _ _ _,?_⟩;rw [Oper.semAt_eq _ _ _ hr.1,hr.2 a w bh.cZ bh.qD];exact k _ _ (bh.put (by simpa [Z9] using hd) V)
theorem kX {j g:Nat} {want c0 q:Bool} {sl:aH} (hg:o.guard=some (j,want)) (hj:((ops[j]?).bind (·.dst))=some g) (hs:bZ sl a) (hq:cX sl g=some (gv c0 (.bool q))) :
  Region.wanted o (yielded ops a.tmps)=(c0&&(q==want)):=by
 have ht:=hs _ _ hq;simp only [Region.wanted,hg,yielded,hj,Option.bind_some,ht];cases c0 <;> cases q <;> cases want <;> rfl
theorem Fz {P:Program} {c:Cx} {sl:aH} {hs:List bd} {ty:TypeId} {pos:String} {af:Array Edge}
  {j g:Nat} {want c0 q:Bool} (hj:((ops[j]?).bind (·.dst))=some g) (hq:cX sl g=some (gv c0 (.bool q)))
  (hr:(c0&&(q==want))=true->cY P c sl hs ⟨some d,op,ty,pos,af,some (j,want)⟩ V) (hd:Nat.blt d c.nt=true) (k:Tr c D ((d,gv (c0&&(q==want)) V)::sl) hs (WL P r ops Q rest)) :
  Tr c D sl hs (WL P r ops Q (⟨some d,op,ty,pos,af,some (j,want)⟩::rest)):=fun a w bh=>by
 unfold WL;rw [kX I hj bh.cZ hq];by_cases h:(c0&&(q==want))=true
 ·rw [if_pos h];refine ⟨dQ _ _ _ _ _,?_⟩;rw [Oper.semAt_eq _ _ _ (hr h).1,(hr h).2 a w bh.cZ bh.qD];rw [uU h] at k;exact k _ _ (bh.put (by simpa [Z9] using hd) V)
 ·rw [if_neg h];rw [wq (by simpa using h)] at k;exact k _ _ (bh.put (by simpa [Z9] using hd) undef)
theorem vf {P:Program} {c:Cx} {sl:aH} {hs:List bd} {ty:TypeId} {pos:String} {af:Array Edge}
  {j g:Nat} {want q:Bool} (hj:((ops[j]?).bind (·.dst))=some g) (hq:cX sl g=some (.bool q))
  (hr:(q==want)=true->cY P c sl hs ⟨some d,op,ty,pos,af,some (j,want)⟩ V) (hd:Nat.blt d c.nt=true) (k:Tr c D ((d,gv (q==want) V)::sl) hs (WL P r ops Q rest)) :
  Tr c D sl hs (WL P r ops Q (⟨some d,op,ty,pos,af,some (j,want)⟩::rest)):=
 Fz (c0:=true) hj (by rw [hq];rfl) (by simpa using hr) hd (by simpa using k)
end Go.SL
namespace Go.SL
open Go
def kA:TypeDesc->Bool
 | .struct _ | .array _ _=>true
 | _=>false
def PZ (P:Program) (t:TypeId):Option (Bool×Nat):=
 match P.underlying t,P.info? t with
 | some d,some i=>some (kA d,i.size)
 | _,_=>none
class Ty (P:Program) (t:TypeId) (agg:outParam Bool) (n:outParam Nat):Prop where
 eq:PZ P t=some (agg,n):=by kernel_rfl
class ij (P:Program) (t:TypeId) (d:outParam TypeDesc):Prop where
 eq:P.underlying t=some d:=by kernel_rfl
class lU (P:Program) (t:TypeId) (v:outParam Value):Prop where
 eq:(P.info? t).map (·.zero)=some (some v):=by kernel_rfl
class u0 (P:Program) (t:TypeId) (n:outParam Nat):Prop where
 eq:(P.info? t).map (·.bytes)=some n:=by kernel_rfl
section
variable {P:Program} {w:World} {t:TypeId}
variable {agg:Bool} {n:Nat} {v:Value} {vs:List Value}
theorem Ty.parts [h:Ty P t agg n]:∃ d i,P.underlying t=some d/\P.info? t=some i/\kA d=agg/\i.size=n:=by
 have:=h.eq;unfold PZ at this;split at this
 ·rename_i d i hd hi;cases this;exact ⟨d,i,hd,hi,I,I⟩
 ·cases this
theorem aV {d:TypeDesc} (h:P.underlying t=some d):(underlying t).run P w=.ok d w:=by simp [underlying,h]
theorem fM {i:TypeInfo} (h:P.info? t=some i):(typeInfo t).run P w=.ok i w:=by simp [typeInfo,h]
theorem gj [h:Ty P t agg n]:(sizeOf t).run P w=.ok n w:=by
 obtain ⟨d,i,_,hi,_,hn⟩:=Ty.parts (P:=P) (t:=t);simp [sizeOf,fM hi,hn]
theorem vt [h:Ty P t agg n]:(isAgg t).run P w=.ok agg w:=by
 obtain ⟨d,i,hd,_,ha,_⟩:=Ty.parts (P:=P) (t:=t);unfold isAgg;rw [Sem.run_bind,aV hd,Result.andThen_ok];subst ha;cases d <;> rfl
theorem iC [h:lU P t v]:(zeroValue t).run P w=.ok v w:=by
 have:=h.eq;cases hi:P.info? t with
 | none=>rw [hi] at this;cases this
 | some i =>
  rw [hi] at this;have hz:i.zero=some v:=by simpa using this
  simp [zeroValue,fM hi,hz]
theorem Aa {a:Addr} (h:w.cell? a=some v) (m:Mode):(load a m).run P w=.ok v w:=by simp [h]
theorem cell_of_block {b:Nat} {cs:Array Value} {E:TypeId} {fz:Nat×Nat} (h:w.heap[b]? = some (.cells cs E fz)) (o:Nat):w.cell? ⟨b,o,none⟩=cs[o]?:=by
 simp [World.cell?,h]
theorem eT (b o n:Nat):Addr.add ⟨b,o,none⟩ n=⟨b,o+n,none⟩:=by
 unfold Addr.add;split
 ·rename_i h;simp [h]
 ·rfl
theorem mM {b o:Nat}:∀ (n i:Nat) (acc:Array Value) (vs:List Value),vs.length=n->(∀ j v,vs[j]? = some v->w.cell? ⟨b,o+(i+j),none⟩=some v) ->
  (loadCellsFrom ⟨b,o,none⟩ i n acc).run P w=.ok (acc++vs.toArray) w
 | 0, i, acc, vs, hl, _ => by
  have:vs=[]:=Zaw.1 hl;subst this;simp [loadCellsFrom]
 | n+1,i,acc,[],hl,_=>by simp at hl
 | n + 1, i, acc, v :: vs, hl, hc => by
  have h0:w.cell? (Addr.add ⟨b,o,none⟩ i)=some v:=by rw [eT];exact hc 0 v I
  simp only [loadCellsFrom,Sem.run_bind,Aa h0,Result.andThen_ok];rw [mM n (i+1) (acc.push v) vs (by simpa using hl) (fun j u hu=>by
   have:=hc (j+1) u (by simpa using hu);rw [show i+1+j=i+(j+1) from by omega];exact this)]
  simp
theorem ns {b o n:Nat} (hl:vs.length=n) (hc:∀ j v,vs[j]? = some v->w.cell? ⟨b,o+j,none⟩=some v):(loadCells ⟨b,o,none⟩ n).run P w=.ok vs.toArray w:=by
 unfold loadCells;rw [mM n 0 #[] vs hl (fun j v hv=>by simpa using hc j v hv)]
 simp
theorem tx {b o n:Nat} [Ty P t false n] (hc:w.cell? ⟨b,o,none⟩=some v):(loadVar t ⟨b,o,none⟩).run P w=.ok v w:=by
 unfold loadVar;rw [Sem.run_bind,vt (agg:=false) (n:=n),Result.andThen_ok];simp [hc]
theorem oH {b o n:Nat} [Ty P t true n] (hl:vs.length=n) (hc:∀ j v,vs[j]? = some v->w.cell? ⟨b,o+j,none⟩=some v):(loadVar t ⟨b,o,none⟩).run P w=.ok (.agg vs.toArray) w:=by
 unfold loadVar;rw [Sem.run_bind,vt (agg:=true) (n:=n),Result.andThen_ok];simp only [if_true,Sem.run_bind,gj (t:=t) (agg:=true) (n:=n),Result.andThen_ok,ns hl hc,Sem.run_pure]
end
def At (c:Cx) (hs:List bd) (b o:Nat) (v:Value):Prop:=∀ w,Mem c hs w->w.cell? ⟨b,o,none⟩=some v
variable {b:Nat} {cs:List Value} {fz:Nat×Nat} {o:Nat} {v:Value} {vs:List Value}
theorem At.bo {c:Cx} {hs hs':List bd} {cs:Array Value} {E:TypeId} (ht:Take hs (SL.bo b (.cells cs E fz)) hs') (hv:cs[o]? = some v):At c hs b o v:=
 fun w hm=>by rw [cell_of_block (hm.bo ht)];exact hv
theorem At.base {c:Cx} {hs:List bd} (h:c.w0.cell? ⟨b,o,none⟩=some v) (HD:c.md=[]):At c hs b o v:=fun w hm=>by
 have hb:b<c.w0.heap.size:=World.block_lt_of_cell? c.w0 ⟨b,o,none⟩ h;have:=hm.base hb (by rw [HD];simp);rw [<- h];simp [World.cell?,this]
theorem At.Ds {c:Cx} {hs:List bd} (h:c.w0.cell? ⟨b,o,none⟩=some v) (HD:b ∉ c.md):At c hs b o v:=fun w hm=>by
 have hb:b<c.w0.heap.size:=World.block_lt_of_cell? c.w0 ⟨b,o,none⟩ h;have:=hm.base hb HD;rw [<- h];simp [World.cell?,this]
def eV (c:Cx) (hs:List bd) (b o:Nat):List Value->Prop
 | []=>True
 | v::vs=>At c hs b o v/\eV c hs b (o+1) vs
theorem eV.get {c:Cx} {hs:List bd}:∀ {vs:List Value} {o:Nat},eV c hs b o vs->∀ j v,vs[j]? = some v->At c hs b (o+j) v
 | [],_,_,j,v,h=>by simp at h
 | x :: vs, o, ⟨h0, h1⟩, j, v, h => by
  cases j with
  | zero=>simp at h;subst h;exact h0
  | succ j=>have:=eV.get h1 j v (by simpa using h);rwa [show o+1+j=o+(j+1) from by omega] at this
theorem eV.vK {c:Cx} {hs:List bd}:∀ {vs:List Value} {o:Nat},(∀ j v,vs[j]? = some v->At c hs b (o+j) v)->eV c hs b o vs
 | [],_,_=>trivial
 | x::vs,o,h=>⟨h 0 x rfl,eV.vK fun j v hv=>by have:=h (j+1) v (by simpa using hv);rwa [show o+(j+1)=o+1+j from by omega] at this⟩
theorem eV.base {c:Cx} {hs:List bd} (h:∀ (j:Nat) (u:Value),vs[j]? = some u->c.w0.cell? ⟨b,o+j,none⟩=some u) (HD:c.md=[]):eV c hs b o vs:=
 eV.vK fun j u hu=>At.base (h j u hu) HD
def eo:List Value->Nat->Nat->List Value
 | _,_,0=>[]
 | [],_,_+1=>[]
 | v::r,0,n+1=>v::eo r 0 n
 | _::r,o+1,n+1=>eo r o (n+1)
theorem jl:∀ (cs:List Value) (o n:Nat),eo cs o n=(cs.drop o).take n
 | cs,o,0=>by simp [eo]
 | [],o,n+1=>by simp [eo]
 | v::r,0,n+1=>by simp [eo,jl r 0 n]
 | v::r,o+1,n+1=>by simp [eo,jl r o (n+1)]
def ue:List Value->Nat->Option Value
 | [],_=>none
 | v::_,0=>some v
 | _::r,n+1=>ue r n
theorem uN:∀ (cs:List Value) (o:Nat),ue cs o=cs[o]?
 | [],_=>by simp [ue]
 | v::_,0=>by simp [ue]
 | _::r,n+1=>by simp [ue,uN r n]
theorem At.lit {c:Cx} {hs hs':List bd} {E:TypeId} (ht:Take hs (SL.bo b (.cells cs.toArray E fz)) hs') (hv:ue cs o=some v):At c hs b o v:=
 At.bo ht (by rw [uN] at hv;simpa using hv)
theorem eV.bo {c:Cx} {hs hs':List bd} {b o n:Nat} {E:TypeId} (ht:Take hs (SL.bo b (.cells cs.toArray E fz)) hs') (hv:eo cs o n=vs):eV c hs b o vs:=by
 subst hv;refine eV.vK fun j v hv=>At.bo ht ?_;simp only [jl,ZK,Zbj] at hv;split at hv
 ·simpa using hv
 ·cases hv
section
variable {P:Program} {c:Cx} {sl:aH} {hs hs':List bd} {dst:Option Tmp} {ty:TypeId} {pos:String} {af:Array Edge} {g:Option (Nat×Bool)}
variable {a:Int} {agg:Bool} {b i:Int} {k:IntKind} {n:Nat} {op:BinOp} {s:ByteArray} {v:Value} {vs:List Value} {x y:Operand}
theorem aX (hx:Is sl x v):cY P c sl hs ⟨dst,.move x,ty,pos,af,g⟩ v:=
 ⟨by simp,fun a w ha _=>by simp [execOp,hx a ha]⟩
theorem cS (hx:Is sl x v):cY P c sl hs ⟨dst,.assign x,ty,pos,af,g⟩ v:=
 ⟨by simp,fun a w ha _=>by simp [execOp,hx a ha]⟩
theorem uC {x y z:Operand} {q:Bool} {v u:Value} (hx:Is sl x (.bool q)) (hy:Is sl y v) (hz:Is sl z u):cY P c sl hs ⟨dst,.pick x y z,ty,pos,af,g⟩ (bif q then v else u):=
 ⟨by simp,fun a w ha _=>by simp [execOp,hx a ha,hy a ha,hz a ha,asBool,cond_eq_ite]⟩
theorem bC {t:Nat} {p q:Bool} (hx:Is sl x (.bool p)) (hq:cX sl t=some (gv (p==false) (.bool q))) :
  cY P c sl hs ⟨dst,.pick x (.const (.bool true)) (.tmp t),ty,pos,af,g⟩ (.bool (p||q)):=
 ⟨by simp,fun a w ha _=>by
  have h2:=ha.eval hq;simp only [execOp,hx a ha,h2,asBool];cases p <;> simp [gv,Act.eval]⟩
theorem c6 {t:Nat} {p q:Bool} (hx:Is sl x (.bool p)) (hq:cX sl t=some (gv (p==true) (.bool q))) :
  cY P c sl hs ⟨dst,.pick x (.tmp t) (.const (.bool false)),ty,pos,af,g⟩ (.bool (p&&q)):=
 ⟨by simp,fun a w ha _=>by
  have h2:=ha.eval hq;simp only [execOp,hx a ha,h2,asBool];cases p <;> simp [gv,Act.eval]⟩
theorem tw {t:Nat} {c0 p q:Bool} (hc:c0=true) (hx:Is sl x (.bool p)) (hq:cX sl t=some (gv (c0&&(p==false)) (.bool q))) :
  cY P c sl hs ⟨dst,.pick x (.const (.bool true)) (.tmp t),ty,pos,af,g⟩ (.bool (p||q)):=bC hx (by rw [hq,hc,Zaz])
theorem kK {t:Nat} {c0 p q:Bool} (hc:c0=true) (hx:Is sl x (.bool p)) (hq:cX sl t=some (gv (c0&&(p==true)) (.bool q))) :
  cY P c sl hs ⟨dst,.pick x (.tmp t) (.const (.bool false)),ty,pos,af,g⟩ (.bool (p&&q)):=c6 hx (by rw [hq,hc,Zaz])
theorem iM {t u:TypeId} {v u' r:Value} (hx:Is sl x v) (hy:Is sl y u') (hr:∀ w,(do eqGuard op t x y v u';binOp op t v u').run P w=.ok r w) :
  cY P c sl hs ⟨dst,.binOp op t x y u,ty,pos,af,g⟩ r:=
 ⟨by simp,fun a w ha _=>by
  have:=hr w;simp only [Sem.run_bind] at this;simp only [execOp,hx a ha,hy a ha,Sem.run_bind,this,Result.andThen_ok,Sem.run_pure]⟩
theorem fN {t:TypeId} {k k':IntKind} {w:World}:(eqGuard op t x y (.int k a) (.int k' b)).run P w=.ok () w:=by
 unfold eqGuard;split <;> rfl
theorem lB {t:TypeId} {a b:ByteArray} {w:World}:(eqGuard op t x y (.string a) (.string b)).run P w=.ok () w:=by
 unfold eqGuard;split <;> rfl
theorem A5 {t:TypeId} {a b:Bool} {w:World}:(eqGuard op t x y (.bool a) (.bool b)).run P w=.ok () w:=by
 unfold eqGuard;split <;> rfl
def W6 (n:Int):Prop:=-9223372036854775808<=n/\n<=9223372036854775807
theorem Em {t u:TypeId} (hx:Is sl x (.q a)) (hy:Is sl y (.q b)) (hb:W6 (a+b)) :
  cY P c sl hs ⟨dst,.binOp .add t x y u,ty,pos,af,g⟩ (.q (a+b)):=
 iM hx hy fun w=>by simp [fN,binOp,Op.intArith,IntWalk.i64_in _ hb]
theorem z8 {t u:TypeId} (hx:Is sl x (.q a)) (hy:Is sl y (.q b)) (hb:W6 (a-b)) :
  cY P c sl hs ⟨dst,.binOp .sub t x y u,ty,pos,af,g⟩ (.q (a-b)):=
 iM hx hy fun w=>by simp [fN,binOp,Op.intArith,IntWalk.i64_in _ hb]
theorem NV {t u:TypeId} (hx:Is sl x (.int k a)) (hy:Is sl y (.int k b)) :
  cY P c sl hs ⟨dst,.binOp .sub t x y u,ty,pos,af,g⟩ (.int k (k.wrap (a-b))):=
 iM hx hy fun w=>by simp [fN,binOp,Op.intArith]
theorem nq {t u:TypeId} (hx:Is sl x (.int k a)) (hy:Is sl y (.int k b)) :
  cY P c sl hs ⟨dst,.binOp .lss t x y u,ty,pos,af,g⟩ (.bool (decide (a<b))):=
 iM hx hy fun w=>by simp [fN,binOp,Op.intCmp]
theorem mq {t u:TypeId} (hx:Is sl x (.int k a)) (hy:Is sl y (.int k b)) :
  cY P c sl hs ⟨dst,.binOp .leq t x y u,ty,pos,af,g⟩ (.bool (decide (a<=b))):=
 iM hx hy fun w=>by simp [fN,binOp,Op.intCmp]
theorem ln {t u:TypeId} (hx:Is sl x (.int k a)) (hy:Is sl y (.int k b)) :
  cY P c sl hs ⟨dst,.binOp .gtr t x y u,ty,pos,af,g⟩ (.bool (decide (b<a))):=
 iM hx hy fun w=>by simp [fN,binOp,Op.intCmp]
theorem Ab {t u:TypeId} (hx:Is sl x (.int k a)) (hy:Is sl y (.int k b)) :
  cY P c sl hs ⟨dst,.binOp .geq t x y u,ty,pos,af,g⟩ (.bool (decide (b<=a))):=
 iM hx hy fun w=>by simp [fN,binOp,Op.intCmp]
theorem mr {t u:TypeId} (hx:Is sl x (.int k a)) (hy:Is sl y (.int k b)) :
  cY P c sl hs ⟨dst,.binOp .eql t x y u,ty,pos,af,g⟩ (.bool (decide (a=b))):=
 iM hx hy fun w=>by simp [fN,binOp,Op.intCmp];rfl
theorem gU {t u:TypeId} (hx:Is sl x (.int k a)) (hy:Is sl y (.int k b)) :
  cY P c sl hs ⟨dst,.binOp .neq t x y u,ty,pos,af,g⟩ (.bool (decide (a≠b))):=
 iM hx hy fun w=>by simp [fN,binOp,Op.intCmp];rfl
theorem dX {t:TypeId} {b:Bool} (hx:Is sl x (.bool b)):cY P c sl hs ⟨dst,.unOp .not t x,ty,pos,af,g⟩ (.bool (!b)):=
 ⟨by simp,fun a w ha _=>by simp [execOp,hx a ha,Op.unary]⟩
theorem uA (a b:ByteArray):(a.toList==b.toList)=decide (a=b):=by
 rw [ByteArray.toList_eq,ByteArray.toList_eq,Zbe];simp only [beq_iff_eq,decide_eq_true_eq];constructor
 ·intro h;cases a;cases b;simp at h;rw [h]
 ·intro h;rw [h]
theorem ei {t u:TypeId} {a b:ByteArray} (hx:Is sl x (.string a)) (hy:Is sl y (.string b)) :
  cY P c sl hs ⟨dst,.binOp .eql t x y u,ty,pos,af,g⟩ (.bool (decide (a=b))):=
 iM hx hy fun w=>by simp [lB,binOp,Op.stringOp,uA]
theorem gY {t u:TypeId} {a b:ByteArray} (hx:Is sl x (.string a)) (hy:Is sl y (.string b)) :
  cY P c sl hs ⟨dst,.binOp .neq t x y u,ty,pos,af,g⟩ (.bool (decide (a≠b))):=
 iM hx hy fun w=>by simp [lB,binOp,Op.stringOp,uA]
theorem sK {t u:TypeId} {a b:ByteArray} (hx:Is sl x (.string a)) (hy:Is sl y (.string b)) (hb:a.size+b.size<=9223372036854775807) :
  cY P c sl hs ⟨dst,.binOp .add t x y u,ty,pos,af,g⟩ (.string (a++b)):=
 iM hx hy fun w=>by
  simp [lB,binOp,Op.stringOp];omega
theorem ag {t:TypeId} {b o:Nat} [Ty P t false n] (hx:Is sl x (.pointer (some ⟨b,o,none⟩))) (hv:At c hs b o v) :
  cY P c sl hs ⟨dst,.load t x,ty,pos,af,g⟩ v:=
 ⟨by simp,fun a w ha hm=>by simp [execOp,hx a ha,Instr.loadAt,Instr.sureAddr,tx (hv w hm)]⟩
theorem jB {t:TypeId} {b o:Nat} [Ty P t true n] (hx:Is sl x (.pointer (some ⟨b,o,none⟩))) (hv:eV c hs b o vs) (hl:vs.length=n) :
  cY P c sl hs ⟨dst,.load t x,ty,pos,af,g⟩ (.agg vs.toArray):=
 ⟨by simp,fun a w ha hm=>by simp [execOp,hx a ha,Instr.loadAt,Instr.sureAddr,oH hl (fun j v h=>hv.get j v h w hm)]⟩
def C9 (P:Program) (t:TypeId) (i:Nat):Option Nat:=
 match P.underlying t with
 | some (.struct fs) => match fs[i]? with
  | some f => match P.info? f.type with
   | some fi=>if fi.size=0 then none else some f.offset
   | none=>none
  | none=>none
 | _=>none
class eb (P:Program) (t:TypeId) (i:Nat) (o:outParam Nat):Prop where
 eq:C9 P t i=some o:=by kernel_rfl
theorem eb.parts {t:TypeId} {i o:Nat} [h:eb P t i o]:∃ fs f fi,P.underlying t=some (.struct fs)/\fs[i]? = some f/\P.info? f.type=some fi/\fi.size≠0/\f.offset=o:=by
 have:=h.eq;unfold C9 at this;split at this
 ·rename_i fs VV;split at this
  ·rename_i f hf;split at this
   ·rename_i fi Xy;split at this
    ·cases this
    ·rename_i hz;cases this;exact ⟨fs,f,fi,VV,hf,Xy,hz,I⟩
   ·cases this
  ·cases this
 ·cases this
theorem az {t:TypeId} {i o:Nat} {b k q:Nat} [eb P t i o] (hx:Is sl x (.pointer (some ⟨b,k,none⟩))) (he:k+o=q) :
  cY P c sl hs ⟨dst,.fieldAddr t x i,ty,pos,af,g⟩ (.pointer (some ⟨b,q,none⟩)):=
 ⟨by simp,fun a w ha _=>by
  subst he;obtain ⟨fs,f,fi,h1,h2,h3,h4,h5⟩:=eb.parts (P:=P) (t:=t) (i:=i);simp only [execOp,hx a ha,Instr.fieldAt,Sem.run_bind,aV h1,Result.andThen_ok,h2,Instr.sureAddr,Sem.run_pure,fieldPlace,sizeOf,fM h3,h4,if_false,eT,h5]⟩
def partOf (agg:Bool) (n:Nat) (cs:List Value) (o:Nat):Option Value:=
 bif agg then some (.agg (eo cs o n).toArray) else ue cs o
theorem NW {t:TypeId} [Ty P t agg n] {cs:List Value} {o:Nat} {v:Value} {w:World} (h:partOf agg n cs o=some v):(part t cs.toArray o).run P w=.ok v w:=by
 unfold part;rw [Sem.run_bind,vt (agg:=agg) (n:=n),Result.andThen_ok];cases agg with
 | true =>
  simp only [partOf,cond_true,Option.some.injEq] at h;simp only [if_true,Sem.run_bind,gj (t:=t) (agg:=true) (n:=n),Result.andThen_ok,Sem.run_pure,<- h,jl];congr 2;simp [List.extract_eq_take_drop]
 | false =>
  simp only [partOf,cond_false,uN] at h;simp [h]
def fieldInfo (P:Program) (t:TypeId) (i:Nat):Option (Nat×TypeId):=
 match P.underlying t with
 | some (.struct fs)=>(fs[i]?).map fun f=>(f.offset,f.type)
 | _=>none
class FTy (P:Program) (t:TypeId) (i:Nat) (o:outParam Nat) (ft:outParam TypeId):Prop where
 eq:fieldInfo P t i=some (o,ft):=by kernel_rfl
theorem Cp {t ft:TypeId} {i o n:Nat} {cs:List Value} [h:FTy P t i o ft] [Ty P ft agg n] (hx:Is sl x (.agg cs.toArray)) (hv:partOf agg n cs o=some v) :
  cY P c sl hs ⟨dst,.field t x i,ty,pos,af,g⟩ v:=
 ⟨by
   simp,fun a w ha _=>by
  have h1:=h.eq;unfold fieldInfo at h1;split at h1
  ·rename_i fs VV;obtain ⟨f,hf,he⟩:=Zak.1 h1;simp only [Prod.mk.injEq] at he;obtain ⟨e1,e2⟩:=he;subst e1;subst e2;simp only [execOp,hx a ha,Instr.field,Sem.run_bind,aV VV,Result.andThen_ok,hf,asAgg,Sem.run_pure,NW (agg:=agg) (n:=n) hv]
  ·cases h1⟩
theorem au {t e:TypeId} {a0:Option Addr} {b o len cap q:Nat} [hu:ij P t (.slice e)] [Ty P e agg n] (hx:Is sl x (.slice a0 len cap)) (hy:Is sl y (.int k i))
  (ha:a0=some ⟨b,o,none⟩) (h0:0<=i) (h1:i<len) (he:o+i.toNat*n=q):cY P c sl hs ⟨dst,.indexAddr t x y,ty,pos,af,g⟩ (.pointer (some ⟨b,q,none⟩)):=
 ⟨by simp,fun a w vY _=>by
  subst he;subst ha;simp [execOp,hx a vY,hy a vY,Instr.indexAt,asIntOf,aV hu.eq,h0,h1,gj (agg:=agg) (n:=n),eT]⟩
theorem gS {t e:TypeId} {n len:Nat} {b o q:Nat} [hu:ij P t (.array len e)] [Ty P e agg n] (hx:Is sl x (.pointer (some ⟨b,o,none⟩))) (hy:Is sl y (.int k i))
  (h0:0<=i) (h1:i<len) (he:o+i.toNat*n=q):cY P c sl hs ⟨dst,.indexAddr t x y,ty,pos,af,g⟩ (.pointer (some ⟨b,q,none⟩)):=
 ⟨by simp,fun a w ha _=>by
  subst he;simp [execOp,hx a ha,hy a ha,Instr.indexAt,Instr.sureAddr,asIntOf,aV hu.eq,h0,h1,gj (agg:=agg) (n:=n),eT]⟩
theorem pJ {t:TypeId} [hu:ij P t .string] (hx:Is sl x (.string s)) (hy:Is sl y (.int k i))
  (h0:0<=i) (h1:i<s.size):cY P c sl hs ⟨dst,.index t x y,ty,pos,af,g⟩ (.int .u8 ((s.data.toList[i.toNat]?.getD 0).toNat:Nat)):=
 ⟨by
   simp,fun a w ha _=>by
  have aN:i.toNat<s.size:=by omega
  have hs:s[i.toNat]? = some s[i.toNat]:=getElem?_pos s i.toNat aN;have hd:s.data.toList[i.toNat]?.getD 0=s[i.toNat]:=by
   rw [ZaB,show s.data[i.toNat]? = some s.data[i.toNat] from ZaQ aN]
   rfl
  simp [execOp,hx a ha,hy a ha,Instr.index,asIntOf,aV hu.eq,h0,hs,<- hd]⟩
theorem Co {f:Fn} {first captured:Array Operand} {vs us:Array Value} (h1:∀ a,bZ sl a->first.map a.eval=vs) (h2:∀ a,bZ sl a->captured.map a.eval=us) :
  cY P c sl hs ⟨dst,.makeFunc f first captured,ty,pos,af,g⟩ (.func f vs us):=
 ⟨by simp,fun a w ha _=>by simp [execOp,h1 a ha,h2 a ha,Instr.makeFunc]⟩
theorem di {i:Nat} (hx:Is sl x (.tuple vs.toArray)) (hv:ue vs i=some v):cY P c sl hs ⟨dst,.extract x i,ty,pos,af,g⟩ v:=
 ⟨by simp,fun a w ha _=>by simp [execOp,hx a ha,Instr.extract,<- uN,hv]⟩
theorem JM {t:TypeId} {parts:Array (Nat×Operand)} {ps:Array (Nat×Value)} (hp:∀ a,bZ sl a->(parts.map fun (i,x)=>(i,a.eval x))=ps) (hb:∀ w,(Instr.build t ps).run P w=.ok v w) :
  cY P c sl hs ⟨dst,.build t parts,ty,pos,af,g⟩ v:=
 ⟨by simp,fun a w ha _=>by simp only [execOp,hp a ha,Sem.run_bind,hb w,Result.andThen_ok,Sem.run_pure]⟩
theorem cI {t:TypeId} {e:TypeId} {b:Option Addr} {n cap:Nat} [hu:ij P t (.slice e)] (hx:Is sl x (.slice b n cap)) :
  cY P c sl hs ⟨dst,.call ⟨.builtin .len,#[x],#[t]⟩,ty,pos,af,g⟩ (.q n):=
 ⟨by simp,fun a w ha _=>by simp [execOp,hx a ha,resolve,invoke,builtin,Builtin.len_,aV hu.eq,goInt]⟩
theorem fP {t:TypeId} [hu:ij P t .string] (hx:Is sl x (.string s)) :
  cY P c sl hs ⟨dst,.call ⟨.builtin .len,#[x],#[t]⟩,ty,pos,af,g⟩ (.q s.size):=
 ⟨by simp,fun a w ha _=>by simp [execOp,hx a ha,resolve,invoke,builtin,Builtin.len_,aV hu.eq,goInt]⟩
theorem Ac {t u:TypeId} {k k':IntKind} {n:Int} [ht:ij P t (.int k')] [hu:ij P u (.int k)] (hx:Is sl x (.int k' n)) :
  cY P c sl hs ⟨dst,.convert t u x,ty,pos,af,g⟩ (.int k (k.wrap n)):=
 ⟨by simp,fun a w ha _=>by simp [execOp,hx a ha,convert,aV ht.eq,aV hu.eq,Conv.intToInt]⟩
end
end Go.SL
namespace Go.Proofs.A1
open Go Go.SL
structure Wn where
 n:Nat
 ca:Nat->Bool
 fe:Nat->Bool
 fr:Nat->Int
 to:Nat->Int
 Fj:Int
def Wn.fin (N:Wn) (p:List Nat):Int:=match p.getLast? with | none=>N.Fj | some j=>N.to j
def Wn.step (N:Wn) (p:List Nat) (j:Nat):Bool:=decide (j<N.n)&&(!p.contains j&&((p.isEmpty&&N.ca j)||(N.fe j&&decide (N.fr j=N.fin p))))
def Wn.ok (N:Wn) (p:List Nat):Prop:=∀ k (h:k<p.length),N.step (p.take k) p[k]=true
theorem Wn.mS (N:Wn) (p:List Nat) (j:Nat):N.fin (p++[j])=N.to j:=by unfold Wn.fin;rw [List.getLast?_append];rfl
theorem Wn.sN (N:Wn):N.ok []:=fun k h=>absurd h (ZR k)
variable {d:Int} {j:Nat} {p q x:List Nat}
theorem Wn.kN {N:Wn}:N.ok (p++[j])↔N.ok p/\N.step p j=true:=by
 constructor
 ·intro h;constructor
  ·intro k hk;have:=h k (by rw [Zg];omega);rwa [Zag (by omega),ZaC hk] at this
  ·have:=h p.length (by rw [Zg];simp);rwa [Zag (Zz _),Zae (Zz _),Zar (Zz _),List.getElem_singleton] at this
 ·rintro ⟨h1,h2⟩ k hk;rw [Zg] at hk;by_cases hl:k<p.length
  ·rw [Zag (by omega),ZaC hl];exact h1 k hl
  ·obtain rfl:k=p.length:=by simp at hk;omega
   rw [Zag (Zz _),Zae (Zz _),Zar (Zz _),List.getElem_singleton];exact h2
theorem Wn.FY {N:Wn} (h:N.ok p) (k:Nat):N.ok (p.take k):=by
 intro i hi;rw [Zs] at hi;have:=h i (by omega);rwa [List.take_take,Zbd (by omega),ZaJ]
theorem Wn.Aq {N:Wn} (h:N.ok p) (hp:q <+: p):N.ok q:=by
 rw [List.prefix_iff_eq_take.1 hp];exact Wn.FY h _
theorem Wn.pG {N:Wn} (h:N.step p j=true):j<N.n:=by
 unfold Wn.step at h;simp only [Zl,decide_eq_true_eq] at h;exact h.1
theorem Wn.vm {N:Wn} (h:N.step p j=true):j ∉ p:=by
 unfold Wn.step at h;simp only [Zl,Zbu,List.contains_eq_mem,decide_eq_false_iff_not] at h;exact h.2.1
theorem Wn.CB {N:Wn} (h:N.ok p):p.Nodup:=by
 have key:∀ k,k<=p.length->(p.take k).Nodup:=by
  intro k
  induction k with
  | zero=>intro _;rw [Ze];exact Zao
  | succ k ih =>
   intro hk;rw [Zn (by omega),ZB];refine ⟨ih (by omega),by simp,?_⟩;intro a ha b hb;rw [ZE] at hb;subst hb;intro e;subst e;exact Wn.vm (h k (by omega)) ha
 have:=key p.length (Zz _);rwa [Zae (Zz _)] at this
theorem Wn.Ph (N:Wn):N.fin []=N.Fj:=rfl
def Wn.uk (N:Wn) (p:List Nat):Nat:=p.countP N.fe
def lexB:List Nat->List Nat->Bool
 | x::a,y::b=>decide (x<y)||(decide (x=y)&&lexB a b)
 | _,_=>false
theorem oL:∀ a,lexB a a=false
 | []=>rfl
 | x::a=>by rw [lexB,oL a];simp
theorem qF:∀ {a b c:List Nat},lexB a b=true->lexB b c=true->lexB a c=true
 | [],_,_,h,_=>by cases h
 | _::_,[],_,h,_=>by cases h
 | _::_,_::_,[],_,h=>by cases h
 | x :: a, y :: b, z :: c, h1, h2 => by
  rw [lexB] at h1 h2 ⊢;simp only [ZQ,Zl,decide_eq_true_eq] at h1 h2 ⊢;rcases h1 with h1 | ⟨h1,DO⟩ <;> rcases h2 with h2 | ⟨h2,HN⟩
  ·exact .inl (by omega)
  ·exact .inl (by omega)
  ·exact .inl (by omega)
  ·exact .inr ⟨by omega,qF DO HN⟩
theorem qG:∀ {a b:List Nat},a.length=b.length->a≠b->lexB a b=true\/lexB b a=true
 | [],[],_,h=>absurd rfl h
 | [],_::_,h,_=>by cases h
 | _::_,[],h,_=>by cases h
 | x :: a, y :: b, hl, h => by
  rw [lexB,lexB];simp only [ZQ,Zl,decide_eq_true_eq];by_cases e:x=y
  ·subst e;rcases qG (a:=a) (b:=b) (by simpa using hl) (fun e=>h (by rw [e])) with h | h
   ·exact .inl (.inr ⟨I,h⟩)
   ·exact .inr (.inr ⟨I,h⟩)
  ·rcases Nat.lt_or_gt_of_ne e with h | h
   ·exact .inl (.inl h)
   ·exact .inr (.inl h)
def Wn.lt (N:Wn) (a b:List Nat):Bool:=decide (N.uk a<N.uk b)||(decide (N.uk a=N.uk b)&&(decide (a.length<b.length)||(decide (a.length=b.length)&&lexB a b)))
theorem Wn.lt_irrefl (N:Wn) (a:List Nat):N.lt a a=false:=by unfold Wn.lt;rw [oL];simp
theorem Wn.lt_trans {N:Wn} {a b c:List Nat} (h1:N.lt a b=true) (h2:N.lt b c=true):N.lt a c=true:=by
 unfold Wn.lt at *;simp only [ZQ,Zl,decide_eq_true_eq] at *;rcases h1 with h1 | ⟨h1,h1 | ⟨DO,abd⟩⟩ <;> rcases h2 with h2 | ⟨h2,h2 | ⟨HN,abb⟩⟩
 ·exact .inl (by omega)
 ·exact .inl (by omega)
 ·exact .inl (by omega)
 ·exact .inl (by omega)
 ·exact .inr ⟨by omega,.inl (by omega)⟩
 ·exact .inr ⟨by omega,.inl (by omega)⟩
 ·exact .inl (by omega)
 ·exact .inr ⟨by omega,.inl (by omega)⟩
 ·exact .inr ⟨by omega,.inr ⟨by omega,qF abd abb⟩⟩
theorem Wn.CI {N:Wn} {a b:List Nat} (h:a≠b):N.lt a b=true\/N.lt b a=true:=by
 unfold Wn.lt;simp only [ZQ,Zl,decide_eq_true_eq];rcases Zas (N.uk a) (N.uk b) with h1 | h1 | h1
 ·exact .inl (.inl h1)
 ·rcases Zas a.length b.length with h2 | h2 | h2
  ·exact .inl (.inr ⟨h1,.inl h2⟩)
  ·rcases qG h2 h with h3 | h3
   ·exact .inl (.inr ⟨h1,.inr ⟨h2,h3⟩⟩)
   ·exact .inr (.inr ⟨h1.symm,.inr ⟨h2.symm,h3⟩⟩)
  ·exact .inr (.inr ⟨h1.symm,.inl h2⟩)
 ·exact .inr (.inl h1)
theorem Wn.KF {N:Wn} (h:q <+: p):q=p\/N.lt q p=true:=by
 obtain ⟨r,rfl⟩:=h;cases r with
 | nil=>exact .inl (ZS q).symm
 | cons x r =>
  refine .inr ?_;unfold Wn.lt Wn.uk;simp only [ZQ,Zl,decide_eq_true_eq];rw [List.countP_append,Zg,ZI];by_cases h0:List.countP N.fe (x::r)=0
  ·exact .inr ⟨by omega,.inl (by omega)⟩
  ·exact .inl (by omega)
def Wn.least (N:Wn) (d:Int) (p:List Nat):Prop:=N.ok p/\N.fin p=d/\∀ q,N.ok q->N.fin q=d->N.lt q p=false
theorem Wn.EG {N:Wn} (hp:N.least d p) (hq:N.least d q):p=q:=by
 by_cases h:p=q
 ·exact h
 ·rcases Wn.CI (N:=N) h with h | h
  ·rw [hq.2.2 p hp.1 hp.2.1] at h;cases h
  ·rw [hp.2.2 q hq.1 hq.2.1] at h;cases h
def Wn.all (N:Wn) (d:Int):Nat->List Nat->List (List Nat)
 | 0,_=>[]
 | k+1,p=>(if N.fin p=d then [p] else [])++((List.range N.n).filter (N.step p)).flatMap fun j=>N.all d k (p++[j])
theorem Wn.AD {N:Wn}:∀ {k:Nat} {p:List Nat},N.ok p->q∈N.all d k p->N.ok q/\N.fin q=d
 | 0,_,_,h=>by cases h
 | k + 1, p, ho, h => by
  rw [Wn.all,Zv] at h;rcases h with h | h
  ·split at h
   ·rw [ZE] at h;subst h;exact ⟨ho,‹_›⟩
   ·cases h
  ·obtain ⟨j,hj,h⟩:=List.mem_flatMap.1 h;exact Wn.AD (Wn.kN.2 ⟨ho,(Zy.1 hj).2⟩) h
theorem Wn.Bl {N:Wn}:∀ {k:Nat} {p r:List Nat},N.ok (p++r)->N.fin (p++r)=d->r.length<k->p++r∈N.all d k p
 | 0,_,_,_,_,h=>absurd h (ZR _)
 | k + 1, p, [], ho, hf, _ => by
  rw [ZS] at *;rw [Wn.all,if_pos hf];simp
 | k + 1, p, j :: r, ho, hf, hk => by
  have e:p++j::r=(p++[j])++r:=by simp
  rw [e] at ho hf ⊢;have h1:=Wn.Aq ho (Zbl (p++[j]) r);have h2:=(Wn.kN.1 h1).2;rw [Wn.all,Zv];refine .inr (List.mem_flatMap.2 ⟨j,Zy.2 ⟨ZP.2 (Wn.pG h2),h2⟩,?_⟩);exact Wn.Bl ho hf (by rw [ZI] at hk;omega)
def Wn.TV (N:Wn) (x:List Nat):List Nat:=(List.range N.n).filter (N.step x)
def Wn.exts (N:Wn) (x:List Nat):List (List Nat):=(N.TV x).map fun j=>x++[j]
structure Wn.Inv (N:Wn) (d:Int) (Q:List (List Nat)):Prop where
 ok:∀ q∈Q,N.ok q/\q≠[]
 cover:∀ p,N.ok p->N.fin p=d->∃ q∈Q,q <+: p
theorem Wn.Hu {N:Wn} (h:N.Fj≠d) {Q:List (List Nat)} (hQ:∀ q,q∈Q↔q∈N.exts []):N.Inv d Q:=by
 constructor
 ·intro q hq;obtain ⟨j,hj,rfl⟩:=Zo.1 ((hQ q).1 hq);exact ⟨Wn.kN.2 ⟨N.sN,(Zy.1 hj).2⟩,by simp⟩
 ·intro p hp hf;cases p with
  | nil=>exact absurd hf h
  | cons j r =>
   have h1:N.ok ([]++[j]):=Wn.Aq hp ⟨r,I⟩;have h2:=(Wn.kN.1 h1).2;exact ⟨[j],(hQ _).2 (Zo.2 ⟨j,Zy.2 ⟨ZP.2 (Wn.pG h2),h2⟩,I⟩),⟨r,I⟩⟩
theorem Wn.Ht {N:Wn} {Q:List (List Nat)} (h:N.Inv d Q) (hx:x∈Q) (hm:∀ q∈Q,N.lt q x=false) (hf:N.fin x=d):N.least d x:=by
 refine ⟨(h.ok x hx).1,hf,fun q hq hfq=>?_⟩;obtain ⟨c,hc,hp⟩:=h.cover q hq hfq;have h0:=hm c hc;rcases Wn.KF (N:=N) hp with e | e
 ·rwa [<- e]
 ·cases hb:N.lt q x with
  | false=>rfl
  | true=>rw [Wn.lt_trans e hb] at h0;exact h0
theorem Wn.KT {N:Wn} {Q R:List (List Nat)} (h:N.Inv d Q) (hQ:∀ q,q∈Q↔q=x\/q∈R) (hf:N.fin x≠d):N.Inv d (R++N.exts x):=by
 have hx:=h.ok x ((hQ x).2 (.inl I));constructor
 ·intro q hq;rcases Zv.1 hq with hq | hq
  ·exact h.ok q ((hQ q).2 (.inr hq))
  ·obtain ⟨j,hj,rfl⟩:=Zo.1 hq;exact ⟨Wn.kN.2 ⟨hx.1,(Zy.1 hj).2⟩,by simp⟩
 ·intro p hp HF;obtain ⟨c,hc,r,rfl⟩:=h.cover p hp HF;rcases (hQ c).1 hc with rfl | hc
  ·cases r with
   | nil=>rw [ZS] at HF;exact absurd HF hf
   | cons j r =>
    have e:c++j::r=(c++[j])++r:=by simp
    rw [e] at hp ⊢;have h2:=(Wn.kN.1 (Wn.Aq hp (Zbl (c++[j]) r))).2;exact ⟨c++[j],Zv.2 (.inr (Zo.2 ⟨j,Zy.2 ⟨ZP.2 (Wn.pG h2),h2⟩,I⟩)),⟨r,I⟩⟩
  ·exact ⟨c,Zv.2 (.inl hc),⟨r,I⟩⟩
theorem Wn.KS {N:Wn} (h:N.Inv d []):∀ p,N.ok p->N.fin p≠d:=fun p hp hf=>by
 obtain ⟨q,hq,_⟩:=h.cover p hp hf;cases hq
theorem kZ:∀ (n:Nat) (l:List Nat),l.Nodup->(∀ x∈l,x<n)->l.length<=n
 | 0, l, _, h => by
  cases l with
  | nil=>exact Zz _
  | cons x l=>exact absurd (h x (by simp)) (ZR _)
 | n + 1, l, hn, h => by
  have:=kZ n (l.erase n) (hn.erase n) fun x hx=>by
   have h1:=h x (List.mem_of_mem_erase hx);have h2:=(List.Nodup.mem_erase_iff hn).1 hx;omega
  by_cases hm:n∈l
  ·rw [ZaV hm] at this;omega
  ·rw [List.erase_of_not_mem hm] at this;omega
theorem Wn.CC {N:Wn} (h:N.ok p):∀ x∈p,x<N.n:=by
 intro x hx;obtain ⟨k,hk,rfl⟩:=Zx hx;exact Wn.pG (h k hk)
theorem Wn.vJ {N:Wn} (h:N.ok p):p.length<=N.n:=kZ _ _ (Wn.CB h) (Wn.CC h)
theorem Wn.Oj {N:Wn} (h:N.ok x):x.length+(N.TV x).length<=N.n:=by
 rw [<- Zg];refine kZ _ _ ?_ ?_
 ·rw [ZB];refine ⟨Wn.CB h,(ZbG).filter _,?_⟩;intro a ha b hb e;subst e;exact Wn.vm (Zy.1 hb).2 ha
 ·intro y hy;rcases Zv.1 hy with hy | hy
  ·exact Wn.CC h y hy
  ·exact ZP.1 (Zy.1 hy).1
def qj:Nat->Nat
 | 0=>1
 | m+1=>1+(m+1)*qj m
theorem yh:∀ m,1<=qj m
 | 0=>Zz _
 | m+1=>by rw [qj];omega
def Wn.wt (N:Wn):List (List Nat)->Nat
 | []=>0
 | q::Q=>qj (N.n-q.length)+N.wt Q
theorem Wn.xY (N:Wn):∀ A B,N.wt (A++B)=N.wt A+N.wt B
 | [],B=>by rw [Za,Wn.wt,ZH]
 | q::A,B=>by rw [Zb,Wn.wt,Wn.wt,Wn.xY N A B,Nat.add_assoc]
theorem Wn.Fu {N:Wn} {A B:List (List Nat)} (h:A.Perm B):N.wt A=N.wt B:=by
 induction h with
 | nil=>rfl
 | cons x _ ih=>rw [Wn.wt,Wn.wt,ih]
 | swap x y l=>rw [Wn.wt,Wn.wt,Wn.wt,Wn.wt];omega
 | trans _ _ h1 h2=>rw [h1,h2]
theorem Wn.Im (N:Wn):∀ Q:List (List Nat),Q.length<=N.wt Q
 | []=>Zz _
 | q::Q=>by rw [Wn.wt,ZI];have:=N.Im Q;have:=yh (N.n-q.length);omega
theorem Wn.DR (N:Wn) (x:List Nat):∀ l:List Nat,N.wt (l.map fun j=>x++[j])=l.length*qj (N.n-(x.length+1))
 | []=>by rw [Zf,Wn.wt,Zaj,Zbt]
 | j :: l => by
  rw [ZZ,Wn.wt,N.DR x l,Zg,show (j::l).length=l.length+1 from I,Zab];show qj (N.n-(x.length+1))+_=_;omega
theorem Wn.M9 {N:Wn} (h:N.ok x):N.wt (N.exts x)<qj (N.n-x.length):=by
 unfold Wn.exts;rw [Wn.DR];have hf:=Wn.Oj h;by_cases h0:(N.TV x).length=0
 ·rw [h0,Zbt];exact yh _
 ·obtain ⟨m,hm⟩:∃ m,N.n-x.length=m+1:=⟨N.n-x.length-1,by omega⟩;rw [hm,show N.n-(x.length+1)=m by omega,qj];have:=Z4 (qj m) (show (N.TV x).length<=m+1 by omega);omega
end Go.Proofs.A1
namespace Go.Proofs.A1
def bQ (h:Bool) (e:Int):Int:=bif h then e else 0
theorem bI {h:Bool} {e:Int} (he:e≠0):bQ h e=0↔h=false:=by cases h <;> simp [bQ,he]
def gD (n l m:Int):Int:=bQ (decide (n<l)||decide (m<n)) 3
theorem gC {n l m:Int}:gD n l m=0↔l<=n/\n<=m:=by
 unfold gD;rw [bI (by decide)];simp
def aW:List Int->Int
 | []=>0
 | e::r=>if e≠0 then e else aW r
theorem bS:∀ {l:List Int},aW l=0↔∀ e∈l,e=0
 | []=>by simp [aW]
 | e :: r => by
  unfold aW;by_cases h:e=0
  ·simp [h,bS (l:=r)]
  ·simp [h]
variable {f:Nat->Int} {k n:Nat} {s:ByteArray}
theorem td {es:List Int} (h:k<es.length):aW (es.drop k)=if es[k]≠0 then es[k] else aW (es.drop (k+1)):=by
 rw [List.drop_eq_getElem_cons h];rfl
def qM (f:Nat->Int):Nat->Nat->Int
 | _,0=>0
 | k,n+1=>if f k≠0 then f k else qM f (k+1) n
def jJ (f:Nat->Int) (n:Nat):Int:=qM f 0 n
theorem yZ {f:Nat->Int}:∀ {n k:Nat},qM f k n=0↔∀ i,k<=i->i<k+n->f i=0
 | 0,k=>by simp only [qM,true_iff];intro i h1 h2;omega
 | n + 1, k => by
  unfold qM;by_cases h:f k=0
  ·rw [if_neg (by simpa using h),yZ];constructor
   ·intro g i h1 h2;by_cases e:i=k
    ·rw [e];exact h
    ·exact g i (by omega) (by omega)
   ·intro g i h1 h2;exact g i (by omega) (by omega)
  ·rw [if_pos h];constructor
   ·intro e;exact absurd e h
   ·intro g;exact absurd (g k (Nat.le_refl _) (by omega)) h
theorem dV :jJ f n=0↔∀ i,i<n->f i=0:=by
 unfold jJ;rw [yZ];constructor
 ·intro g i h;exact g i (Nat.zero_le _) (by omega)
 ·intro g i _ h;exact g i (by omega)
theorem wx {f:Nat->Int}:∀ {n k j:Nat},(∀ i,k<=i->i<j->f i=0)->k<=j->j<k+n->f j≠0->qM f k n=f j
 | 0,k,j,_,h1,h2,_=>by omega
 | n + 1, k, j, h, h1, h2, h3 => by
  unfold qM;by_cases e:k=j
  ·subst e;rw [if_pos h3]
  ·rw [if_neg (by simpa using h k (Nat.le_refl _) (by omega))];exact wx (fun i h4 h5=>h i (by omega) h5) (by omega) (by omega) h3
theorem fg {n j:Nat} (h:∀ i,i<j->f i=0) (hj:j<n) (hn:f j≠0):jJ f n=f j:=
 wx (fun i _ h2=>h i h2) (Nat.zero_le _) (by omega) hn
theorem E8 {f g:Nat->Int} (h:∀ j,j<n->(∀ i,i<j->f i=0)->f j=g j):jJ f n=jJ g n:=by
 by_cases hf:∀ i,i<n->f i=0
 ·rw [dV.2 hf];symm;refine dV.2 fun i hi=>?_;rw [<- h i hi fun k hk=>hf k (by omega)]
  exact hf i hi
 ·have:∃ j,j<n/\f j≠0/\∀ i,i<j->f i=0:=by
   apply Classical.byContradiction;intro hc;apply hf;intro i
   induction i using Nat.strongRecOn with
   | _ i ih =>
    intro hi;apply Classical.byContradiction;intro hne;exact hc ⟨i,hi,hne,fun k hk=>ih k hk (by omega)⟩
  obtain ⟨j,hj,hne,hb⟩:=this;rw [fg hb hj hne,h j hj hb];symm;have he:=h j hj hb;refine fg (fun i hi=>?_) hj (by rw [<- he];exact hne);rw [<- h i (by omega) fun k hk=>hb k (by omega)]
  exact hb i hi
def bt (s:ByteArray) (i:Nat):Int:=((s.data.toList[i]?.getD 0).toNat:Nat)
def Hs (c:Int):Bool:=(decide (65<=c)&&decide (c<=90))||(decide (97<=c)&&decide (c<=122))
def U1 (c:Int):Bool:=decide (48<=c)&&decide (c<=57)
def okB (c:Int):Bool:=Hs c||U1 c||decide (c=95)
def okF (s:ByteArray) (k:Nat):Bool:=(List.range' k (s.size-k)).all fun i=>okB (bt s i)
theorem Ar (h:k<s.size):okF s k=(okB (bt s k)&&okF s (k+1)):=by
 unfold okF;rw [show s.size-k=(s.size-(k+1))+1 by omega,List.range'_succ]
 rfl
theorem FZ (h:s.size<=k):okF s k=true:=by
 unfold okF;rw [show s.size-k=0 by omega];rfl
def fA (s:ByteArray):Bool:=decide (0<s.size)&&decide (s.size<=24)&&Hs (bt s 0)&&okF s 1
def X8 (s:ByteArray):Int:=bQ (!fA s) 8
end Go.Proofs.A1
namespace Go.Proofs.A1
open Go Go.SL
structure Sr where
 nm:ByteArray
 mx:Int
 deriving DecidableEq
structure De where
 nm:ByteArray
 mx:Int
 pr:Bool
 deriving DecidableEq
structure Ti where
 nm:ByteArray
 fr:Int
 to:Int
 deriving DecidableEq
structure Po where
 lv:Int
 ou:ByteArray
 ip:ByteArray
 deriving DecidableEq
structure Ro where
 lv:Int
 ma:Int
 sr:List Sr
 de:List De
 ti:List Ti
 po:List Po
 deriving DecidableEq
def Bh (v:Int) (o:ByteArray) (p:Po):Bool:=decide (p.lv=v)&&decide (p.ou=o)
def AL (v:Int) (i:ByteArray) (p:Po):Bool:=decide (p.lv=v)&&decide (p.ip=i)
def ed (po:List Po) (v:Int) (o:ByteArray):Option ByteArray:=(po.find? (Bh v o)).map Po.ip
def nh (po:List Po) (v:Int) (i:ByteArray):Bool:=po.any (AL v i)
def ig (po:List Po) (v:Int) (o:ByteArray):Bool:=(ed po v o).isSome
def eX (po:List Po) (v:Int):Nat->ByteArray->List ByteArray
 | 0,_=>[]
 | k + 1, o => match ed po v o with
  | none=>[]
  | some i=>i::eX po v k i
variable {D T:List ByteArray} {i:ByteArray} {k:Nat} {l:List ByteArray} {o s:ByteArray} {v:Int} {x:ByteArray}
theorem ph {po:List Po} (h:ed po v o=none):∀ k,eX po v k o=[]
 | 0=>rfl
 | k+1=>by rw [eX,h]
theorem ko {po:List Po} (h:ed po v o=some i) (k:Nat):eX po v (k+1) o=i::eX po v k i:=by rw [eX,h]
theorem kd (po:List Po) (v:Int):∀ k o,(eX po v k o).length<=k
 | 0,_=>Zz _
 | k + 1, o => by
  rw [eX];split
  ·exact Zi _
  ·rw [ZI];have:=kd po v k ‹_›;omega
theorem Dp {po:List Po} {v:Int}:∀ {k:Nat} {o:ByteArray},(eX po v k o).length<k->∀ m,k<=m->eX po v m o=eX po v k o
 | 0,_,h,_,_=>absurd h (ZR _)
 | k + 1, o, h, m, hm => by
  obtain ⟨m,rfl⟩:∃ j,m=j+1:=⟨m-1,by omega⟩;rw [eX,eX];cases hi:ed po v o with
  | none=>rfl
  | some i =>
   rw [eX,hi,ZI] at h;show i::_=i::_;rw [Dp (k:=k) (by omega) m (by omega)]
theorem Dn {po:List Po} {v:Int}:∀ {k m:Nat} {o:ByteArray},k<=m->(eX po v m o).take k=eX po v k o
 | 0,_,_,_=>by rw [Ze];rfl
 | k + 1, m, o, h => by
  obtain ⟨m,rfl⟩:∃ j,m=j+1:=⟨m-1,by omega⟩;rw [eX,eX];cases ed po v o with
  | none=>rfl
  | some i =>
   show (i::eX po v m i).take (k+1)=i::eX po v k i;rw [List.take_succ_cons,Dn (by omega)]
def lQ (po:List Po) (v:Int):Nat->ByteArray->Option ByteArray
 | 0,o=>some o
 | k+1,o=>(ed po v o).bind (lQ po v k)
theorem jF {po:List Po} {v:Int}:∀ {a b:Nat} {o:ByteArray},lQ po v (a+b) o=(lQ po v a o).bind (lQ po v b)
 | 0,b,o=>by rw [ZH];rfl
 | a + 1, b, o => by
  rw [show a+1+b=(a+b)+1 by omega,lQ,lQ];cases ed po v o with
  | none=>rfl
  | some i=>exact jF
theorem iv {po:List Po} {a b:Nat} (h:a<=b) (hb:(lQ po v b o).isSome=true):(lQ po v a o).isSome=true:=by
 obtain ⟨c,rfl⟩:∃ c,b=a+c:=⟨b-a,by omega⟩;rw [jF] at hb;cases h1:lQ po v a o with
 | none=>rw [h1] at hb;cases hb
 | some x=>rfl
theorem nL {po:List Po} {v:Int}:∀ {k:Nat} {o:ByteArray} {j:Nat},j<k->(eX po v k o)[j]? = lQ po v (j+1) o
 | 0,_,_,h=>absurd h (ZR _)
 | k + 1, o, j, h => by
  rw [eX,lQ];cases ed po v o with
  | none=>rfl
  | some i =>
   cases j with
   | zero=>rfl
   | succ j =>
    show (i::eX po v k i)[j+1]? = lQ po v (j+1) i;rw [ZaY,nL (by omega)]
theorem qR {po:List Po}:(eX po v k o).length=k↔(lQ po v k o).isSome=true:=by
 cases k with
 | zero=>exact ⟨fun _=>rfl,fun _=>rfl⟩
 | succ k =>
  rw [<- nL (Nat.lt_add_one k)];have:=kd po v (k+1) o;constructor
  ·intro h;rw [Zc (by omega)];rfl
  ·intro h;apply Classical.byContradiction;intro hn;rw [Zai (by omega)] at h;cases h
theorem pP {po:List Po}:x∈eX po v k o↔∃ j,j<k/\lQ po v (j+1) o=some x:=by
 constructor
 ·intro h;obtain ⟨j,hj,e⟩:=Zx h;have hk:=kd po v k o;refine ⟨j,by omega,?_⟩;rw [<- nL (by omega:j<k),Zc hj,e]
 ·rintro ⟨j,hj,e⟩;rw [<- nL hj] at e;exact Z1 e
theorem yJ {α:Type} [DecidableEq α]:∀ {X T:List α},X.Nodup->(∀ x∈X,x∈T)->X.length<=T.length
 | [],_,_,_=>Zi _
 | x :: X, T, hn, h => by
  have hx:=h x (by simp);rw [List.nodup_cons] at hn;have:=yJ (X:=X) (T:=T.erase x) hn.2 fun y hy=>(List.mem_erase_of_ne (a:=y) (b:=x) (fun e=>by rw [e] at hy;exact hn.1 hy)).2 (h y (ZW _ hy))
  rw [ZaV hx] at this;have:=List.length_pos_of_mem hx;rw [ZI];omega
theorem Hm {α:Type} [DecidableEq α] {X:List α} (h:¬ X.Nodup):∃ i j,∃ (hi:i<X.length) (hj:j<X.length),i<j/\X[i]=X[j]:=by
 apply Classical.byContradiction;intro hn;apply h;rw [List.nodup_iff_pairwise_ne,Zaa];intro i j hi hj xK e;exact hn ⟨i,j,hi,hj,xK,e⟩
theorem LX {po:List Po} (hT:∀ o i,ed po v o=some i->(ed po v i).isSome=true->i∈T) {o:ByteArray} (ho:(lQ po v (T.length+2) o).isSome=true\/o∈T/\(lQ po v (T.length+1) o).isSome=true):∃ t∈T,t∈eX po v (T.length+1) t:=by
 obtain ⟨s,hs,eR⟩:∃ s,(lQ po v (s+T.length+1) o).isSome=true/\∀ k,k<=T.length->∃ x,lQ po v (s+k) o=some x/\x∈T:=by
  rcases ho with ho | ⟨hoT,ho⟩
  ·refine ⟨1,by rw [show 1+T.length+1=T.length+2 by omega];exact ho,fun k hk=>?_⟩;have h0:=iv (a:=k) (by omega) ho;have h1:=iv (a:=1+k) (by omega) ho;have h2:=iv (a:=1+k+1) (by omega) ho;obtain ⟨y,hy⟩:=Zaf.1 h0;obtain ⟨x,hx⟩:=Zaf.1 h1;refine ⟨x,hx,hT y x ?_ ?_⟩
   ·rw [show 1+k=k+1 by omega,jF,hy] at hx;simpa [lQ] using hx
   ·rw [jF,hx] at h2;simpa [lQ] using h2
  ·refine ⟨0,by rw [ZH];exact ho,fun k hk=>?_⟩;rw [ZH];cases k with
   | zero=>exact ⟨o,rfl,hoT⟩
   | succ k =>
    have h0:=iv (a:=k) (by omega) ho;have h1:=iv (a:=k+1) (by omega) ho;have h2:=iv (a:=k+1+1) (by omega) ho;obtain ⟨y,hy⟩:=Zaf.1 h0;obtain ⟨x,hx⟩:=Zaf.1 h1;refine ⟨x,hx,hT y x ?_ ?_⟩
    ·rw [jF,hy] at hx;simpa [lQ] using hx
    ·rw [jF,hx] at h2;simpa [lQ] using h2
 let X:=(List.range (T.length+1)).map fun k=>(lQ po v (s+k) o).getD ⟨#[]⟩
 have hXl:X.length=T.length+1:=by simp [X]
 have hX:∀ k (h:k<X.length),lQ po v (s+k) o=some X[k]:=fun k h=>by
  obtain ⟨x,hx,_⟩:=eR k (by omega);simp [X,hx]
 have hn:¬ X.Nodup:=fun hn=>by
  have:=yJ (T:=T) hn fun x hx=>by
   obtain ⟨k,hk,rfl⟩:=Zx hx;obtain ⟨y,hy,Yi⟩:=eR k (by omega);rw [hX k hk] at hy;cases hy;exact Yi
  omega
 obtain ⟨i,j,hi,hj,xK,e⟩:=Hm hn;have h1:=hX i hi;have h2:=hX j hj;obtain ⟨y,hy,Yi⟩:=eR i (by omega);rw [h1] at hy;cases hy;refine ⟨X[i],Yi,pP.2 ⟨j-i-1,by omega,?_⟩⟩;rw [show s+j=(s+i)+(j-i-1+1) by omega,jF,h1] at h2;rw [e];rw [e] at h2;exact h2
theorem Py {po:List Po} {m:Nat} {t:ByteArray} (h:t∈eX po v m t):∀ k,(lQ po v k t).isSome=true:=by
 obtain ⟨j,_,hj⟩:=pP.1 h;have key:∀ n,lQ po v (n*(j+1)) t=some t:=fun n=>by
  induction n with
  | zero=>rw [Zbt];rfl
  | succ n ih=>rw [Zab,jF,ih];exact hj
 intro k;refine iv (b:=k*(j+1)) (Nat.le_mul_of_pos_right _ (by omega)) ?_;rw [key];rfl
theorem LW {po:List Po} (hT:∀ o i,ed po v o=some i->(ed po v i).isSome=true->i∈T) (h6:T.length<=6):(∃ t∈T,t∈eX po v (T.length+1) t)↔∃ t∈T,(eX po v 7 t).length=7:=by
 constructor
 ·rintro ⟨t,ht,h⟩;exact ⟨t,ht,qR.2 (Py h 7)⟩
 ·rintro ⟨t,ht,h⟩;exact LX hT (.inr ⟨ht,iv (b:=7) (by omega) (qR.1 h)⟩)
theorem mT {po:List Po} (hT:∀ o i,ed po v o=some i->(ed po v i).isSome=true->i∈T) (hc:¬ ∃ t∈T,t∈eX po v (T.length+1) t) (o:ByteArray) {m:Nat} (hm:T.length+1<=m):eX po v m o=eX po v (T.length+1) o:=by
 have h2:(eX po v (T.length+2) o).length<T.length+2:=by
  have h0:=kd po v (T.length+2) o;rcases ZbC (eX po v (T.length+2) o).length (T.length+2) with h | h
  ·exact h
  ·exact absurd (LX hT (.inl (qR.1 (show (eX po v (T.length+2) o).length=T.length+2 by omega)))) hc
 have h3:eX po v (T.length+1) o=eX po v (T.length+2) o:=by
  rw [<- Dn (o:=o) (by omega:T.length+1<=T.length+2),Zae (by omega)]
 rcases ZbC m (T.length+2) with h | h
 ·rw [show m=T.length+1 by omega]
 ·rw [Dp h2 m h,h3]
def bA:List ByteArray->ByteArray->Int
 | [],_=>-1
 | x::l,s=>if x=s then 0 else if bA l s<0 then -1 else bA l s+1
theorem LH (l:List ByteArray) (s:ByteArray):-1<=bA l s:=by
 induction l with
 | nil=>exact Int.le_refl _
 | cons x l ih =>
  rw [bA];split
  ·omega
  ·split <;> omega
theorem cg :bA l s<0↔s ∉ l:=by
 induction l with
 | nil=>simp [bA]
 | cons x l ih =>
  rw [bA,ZO,not_or];by_cases e:x=s
  ·rw [if_pos e];constructor
   ·intro h;omega
   ·intro h;exact absurd e.symm h.1
  ·rw [if_neg e];by_cases h:bA l s<0
   ·rw [if_pos h];exact ⟨fun _=>⟨fun q=>e q.symm,ih.1 h⟩,fun _=>by omega⟩
   ·rw [if_neg h];exact ⟨fun q=>by have:=LH l s;omega,fun q=>absurd (ih.2 q.2) h⟩
theorem qL:∀ {l:List ByteArray} {s:ByteArray} {i:Nat} (h:i<l.length),l[i]=s->(∀ j (hj:j<i),l[j]'(by omega)≠s)->bA l s=(i:Nat)
 | x::l,s,0,_,e,_=>by rw [bA,if_pos (show x=s from e)];rfl
 | x :: l, s, i + 1, h, e, hb => by
  have h0:x≠s:=hb 0 (by omega);have ih:=qL (l:=l) (s:=s) (i:=i) (by rw [ZI] at h;omega) e fun j hj=>hb (j+1) (by omega)
  rw [bA,if_neg h0,ih,if_neg (by omega)];omega
theorem AX (h:∀ j (hj:j<l.length),l[j]≠s):bA l s = -1:=by
 have h1:=LH l s;have h2:bA l s<0:=cg.2 fun hm=>by
  obtain ⟨j,hj,e⟩:=Zx hm;exact h j hj e
 omega
theorem eF (h:0<=bA l s):∃ hl:(bA l s).toNat<l.length,l[(bA l s).toNat]=s:=by
 induction l with
 | nil=>simp [bA] at h
 | cons x l ih =>
  by_cases e:x=s
  ·have:bA (x::l) s=0:=by rw [bA,if_pos e]
   rw [this];exact ⟨Nat.zero_lt_succ _,e⟩
  ·by_cases h0:bA l s<0
   ·rw [bA,if_neg e,if_pos h0] at h;omega
   ·obtain ⟨hl,hg⟩:=ih (by omega);have:bA (x::l) s=bA l s+1:=by rw [bA,if_neg e,if_neg h0]
    have e1:(bA (x::l) s).toNat=(bA l s).toNat+1:=by rw [this];omega
    have key:∀ n,n=(bA l s).toNat+1->∃ hl:n<(x::l).length,(x::l)[n]=s:=fun n hn=>by
     subst hn;exact ⟨by rw [ZI];omega,hg⟩
    exact key _ e1
def cG (r:Ro):List ByteArray:=r.sr.map Sr.nm
def bU (r:Ro):List ByteArray:=r.de.map De.nm
def cN (r:Ro):List ByteArray:=r.ti.map Ti.nm
def bW (r:Ro):List ByteArray:=cG r++bU r++cN r
def dI (r:Ro) (s:ByteArray):Int:=if 0<=bA (bU r) s then bA (bU r) s else if 0<=bA (cN r) s then (r.de.length:Nat)+bA (cN r) s else -1
def jO (r:Ro) (s:ByteArray):Int:=if 0<=bA (bU r) s then (r.de.getD (bA (bU r) s).toNat ⟨⟨#[]⟩,0,false⟩).mx else if 0<=bA (cN r) s then (r.ti.getD (bA (cN r) s).toNat ⟨⟨#[]⟩,0,0⟩).fr else -1
def jP (r:Ro) (s:ByteArray):Int:=if 0<=bA (cG r) s then (r.sr.getD (bA (cG r) s).toNat ⟨⟨#[]⟩,0⟩).mx else if 0<=bA (cN r) s then (r.ti.getD (bA (cN r) s).toNat ⟨⟨#[]⟩,0,0⟩).to else -1
theorem Km {r:Ro}:dI r s<0↔s ∉ bU r/\s ∉ cN r:=by
 unfold dI;by_cases h1:bA (bU r) s<0
 ·rw [if_neg (by omega)];by_cases h2:bA (cN r) s<0
  ·rw [if_neg (by omega)];exact ⟨fun _=>⟨cg.1 h1,cg.1 h2⟩,fun _=>by omega⟩
  ·rw [if_pos (by omega)];exact ⟨fun h=>by omega,fun h=>absurd (cg.2 h.2) h2⟩
 ·rw [if_pos (by omega)];exact ⟨fun h=>absurd h h1,fun h=>absurd (cg.2 h.1) h1⟩
def tr (po:List Po):Prop:=∀ p∈po,∀ q∈po,p.lv=q.lv->p.ou=q.ou->p=q
theorem tr.filter {po:List Po} (h:tr po) (f:Po->Bool):tr (po.filter f):=fun p hp q hq=>h p (Zy.1 hp).1 q (Zy.1 hq).1
theorem fb {po:List Po} (h:ed po v o=some i):∃ p∈po,p.lv=v/\p.ou=o/\p.ip=i:=by
 unfold ed at h;obtain ⟨p,hp,e⟩:=Zak.1 h;have h1:=List.find?_some hp;unfold Bh at h1;rw [Zl,decide_eq_true_eq,decide_eq_true_eq] at h1;exact ⟨p,ZaR hp,h1.1,h1.2,e⟩
theorem mg {po:List Po} (h1:tr po) {p:Po} (hp:p∈po):ed po p.lv p.ou=some p.ip:=by
 cases h:po.find? (Bh p.lv p.ou) with
 | none =>
  have:=ZaF.1 h p hp;unfold Bh at this;simp at this
 | some q =>
  have hq:=List.find?_some h;unfold Bh at hq;rw [Zl,decide_eq_true_eq,decide_eq_true_eq] at hq;have:=h1 q (ZaR h) p hp hq.1 hq.2;unfold ed;rw [h,this];rfl
theorem iy {po:List Po}:ed po v o=none↔∀ p∈po,¬(p.lv=v/\p.ou=o):=by
 unfold ed;rw [Option.map_eq_none_iff,ZaF];constructor
 ·intro h p hp hq;have:=h p hp;unfold Bh at this;rw [hq.1,hq.2] at this;simp at this
 ·intro h p hp;unfold Bh;rw [Zl,decide_eq_true_eq,decide_eq_true_eq];exact h p hp
theorem OE {po qo:List Po} (h1:tr po) (hs:∀ p∈qo,p∈po) {v:Int} {o i:ByteArray} (h:ed qo v o=some i):ed po v o=some i:=by
 obtain ⟨p,hp,rfl,rfl,rfl⟩:=fb h;exact mg h1 (hs p hp)
inductive Nd (po:List Po) (D:List ByteArray):Po->Prop
 | de {p:Po}:p∈po->p.ou∈D->Nd po D p
 | up {p q:Po}:p∈po->q.lv=p.lv->q.ip=p.ou->Nd po D q->Nd po D p
theorem KA {po S:List Po} {D:List ByteArray} (h1:tr po) (hS:∀ p∈S,p∈po) (hu:∀ p∈S,p.ou∈D\/∃ q∈S,q.lv=p.lv/\q.ip=p.ou) {N:Nat} (hN:∀ v o m,N<=m->eX po v m o=eX po v N o) :
  ∀ n p,p∈S->N-(eX po p.lv N p.ou).length<=n->Nd po D p
 | n, p, hp, hn => by
  rcases hu p hp with hd | ⟨q,hq,hv,hi⟩
  ·exact .de (hS p hp) hd
  ·have n9:=mg h1 (hS q hq);rw [hv,hi] at n9;have hc:eX po p.lv (N+1) q.ou=p.ou::eX po p.lv N p.ou:=ko n9 N;have hl:(eX po q.lv N q.ou).length=(eX po p.lv N p.ou).length+1:=by
    rw [hv,<- hN p.lv q.ou (N+1) (by omega),hc,ZI]
   have hle:=kd po q.lv N q.ou;cases n with
   | zero=>omega
   | succ n=>exact .up (hS p hp) hv hi (KA h1 hS hu hN n q hq (by omega))
theorem UW {po S:List Po} (hk:∀ p∈po,p.ou∈D->p∈S) (eM:∀ p∈po,∀ q∈S,q.lv=p.lv->q.ip=p.ou->p∈S) {p:Po} (h:Nd po D p):p∈S:=by
 induction h with
 | de hp hd=>exact hk _ hp hd
 | up hp hv hi _ ih=>exact eM _ hp _ ih hv hi
theorem Om {po:List Po} (h1:tr po) {N:Nat} (hN:∀ v o m,N<=m->eX po v m o=eX po v N o) {f g:Po->Bool}
  (Lm:∀ p∈po,p.ou∈D->f p=true) (Qs:∀ p∈po,∀ q∈po,f q=true->q.lv=p.lv->q.ip=p.ou->f p=true) (hf3:∀ p∈po,f p=true->p.ou∈D\/∃ q∈po,f q=true/\q.lv=p.lv/\q.ip=p.ou)
  (Ll:∀ p∈po,p.ou∈D->g p=true) (EV:∀ p∈po,∀ q∈po,g q=true->q.lv=p.lv->q.ip=p.ou->g p=true) (DL:∀ p∈po,g p=true->p.ou∈D\/∃ q∈po,g q=true/\q.lv=p.lv/\q.ip=p.ou):po.filter f=po.filter g:=by
 have key:∀ (f:Po->Bool),(∀ p∈po,p.ou∈D->f p=true)->(∀ p∈po,∀ q∈po,f q=true->q.lv=p.lv->q.ip=p.ou->f p=true)->(∀ p∈po,f p=true->p.ou∈D\/∃ q∈po,f q=true/\q.lv=p.lv/\q.ip=p.ou)->∀ p∈po,(f p=true↔Nd po D p):=by
  intro f h2 h3 h4 p hp;constructor
  ·intro hf;refine KA (S:=po.filter f) h1 (fun q hq=>(Zy.1 hq).1) (fun q hq=>?_) hN _ p (Zy.2 ⟨hp,hf⟩) (Zz _);obtain ⟨OR,yR⟩:=Zy.1 hq;rcases h4 q OR yR with h | ⟨x,hx,TY,U5⟩
   ·exact .inl h
   ·exact .inr ⟨x,Zy.2 ⟨hx,TY⟩,U5⟩
  ·intro hn;have:=UW (S:=po.filter f) (fun q hq hd=>Zy.2 ⟨hq,h2 q hq hd⟩) (fun q hq x hx hv hi=>Zy.2 ⟨hq,h3 q hq x (Zy.1 hx).1 (Zy.1 hx).2 hv hi⟩) hn
   exact (Zy.1 this).2
 refine Zbb fun p hp=>?_;rw [Zbe,key f Lm Qs hf3 p hp,key g Ll EV DL p hp]
theorem oB {α:Type} {R:α->α->Prop} (has:∀ a b,R a b->¬ R b a):∀ {A B:List α},A.Pairwise R->B.Pairwise R->A.Perm B->A=B
 | [],B,_,_,h=>(List.nil_perm.1 h).symm
 | a::A,[],_,_,h=>absurd h (by intro h;have:=h.length_eq;cases this)
 | a :: A, b :: B, hA, hB, h => by
  rw [ZaU] at hA hB;have Gg:a=b:=by
   apply Classical.byContradiction;intro hne;have h1:a∈b::B:=h.mem_iff.1 (by simp);have h2:b∈a::A:=h.mem_iff.2 (by simp);have h1:a∈B:=(ZO.1 h1).resolve_left hne;have h2:b∈A:=(ZO.1 h2).resolve_left fun e=>hne e.symm
   exact has _ _ (hA.1 b h2) (hB.1 a h1)
  subst Gg;rw [oB has hA.2 hB.2 (List.Perm.cons_inv h)]
def pQ (r:Ro) (p q:Po):Bool:=decide (p.lv<q.lv)||(decide (p.lv=q.lv)&&decide (dI r p.ou<dI r q.ou))
theorem Hp {r:Ro} (p q:Po) (h:pQ r p q=true):¬ pQ r q p=true:=by
 unfold pQ at *;simp only [ZQ,Zl,decide_eq_true_eq] at *;omega
theorem yL {r:Ro} {p q s:Po} (h1:pQ r p q=true) (h2:pQ r q s=true):pQ r p s=true:=by
 unfold pQ at *;simp only [ZQ,Zl,decide_eq_true_eq] at *;omega
theorem Ho {r:Ro} {p q:Po} (h:¬(p.lv=q.lv/\dI r p.ou=dI r q.ou)):pQ r p q=true\/pQ r q p=true:=by
 unfold pQ;simp only [ZQ,Zl,decide_eq_true_eq];omega
def iN (r:Ro) (p:Po):List Po->List Po
 | []=>[p]
 | b::l=>if pQ r p b then p::b::l else b::iN r p l
theorem pR (r:Ro) (p:Po):∀ l,(iN r p l).Perm (p::l)
 | []=>List.Perm.refl _
 | b :: l => by
  rw [iN];split
  ·exact List.Perm.refl _
  ·exact ((pR r p l).cons b).trans (List.Perm.swap p b l)
theorem ix {r:Ro} {p q:Po} {l:List Po}:q∈iN r p l↔q=p\/q∈l:=by rw [(pR r p l).mem_iff,ZO]
theorem tI {r:Ro} {p:Po}:∀ {l:List Po},l.Pairwise (fun a b=>pQ r a b=true)->(∀ q∈l,¬(p.lv=q.lv/\dI r p.ou=dI r q.ou))->(iN r p l).Pairwise (fun a b=>pQ r a b=true)
 | [],_,_=>by rw [iN];exact List.pairwise_singleton _ _
 | b :: l, h, hn => by
  rw [ZaU] at h;rw [iN];split
  ·rename_i hb;rw [ZaU,ZaU];refine ⟨fun q hq=>?_,h.1,h.2⟩;rcases ZO.1 hq with rfl | hq
   ·exact hb
   ·exact yL hb (h.1 q hq)
  ·rename_i hb;rw [ZaU];refine ⟨fun q hq=>?_,tI h.2 fun q hq=>hn q (ZW _ hq)⟩;rcases ix.1 hq with rfl | hq
   ·rcases Ho (hn b (by simp)) with e | e
    ·exact absurd e hb
    ·exact e
   ·exact h.1 q hq
structure qw (r:Ro):Prop where
 sd:∀ s∈cG r,s ∉ bU r
 st:∀ s∈cG r,s ∉ cN r
 dt:∀ s∈bU r,s ∉ cN r
 TR:(cN r).length<=6
structure gT (r:Ro) (po:List Po):Prop where
 qd:po.Pairwise (fun a b=>pQ r a b=true)
 Ib:∀ p∈po,0<=p.lv/\p.lv<r.lv
 out:∀ p∈po,p.ou∈bU r\/p.ou∈cN r
 uO:∀ p∈po,p.ip∈cG r\/p.ip∈cN r
 MQ:∀ p∈po,jO r p.ou=jP r p.ip
 BF:∀ v,¬ ∃ t∈cN r,t∈eX po v ((cN r).length+1) t
 use:∀ v t,t∈cN r->(nh po v t=true↔ig po v t=true)
theorem gT.one {r:Ro} {po:List Po} (h:po.Pairwise (fun a b=>pQ r a b=true)):tr po:=by
 intro p hp q hq hv ho;apply Classical.byContradiction;intro hne;obtain ⟨i,hi,rfl⟩:=Zx hp;obtain ⟨j,hj,rfl⟩:=Zx hq;rw [Zaa] at h;rcases Zas i j with e | e | e
 ·have:=h i j hi hj e;unfold pQ at this;simp only [ZQ,Zl,decide_eq_true_eq] at this;rw [ho] at this;omega
 ·subst e;exact hne rfl
 ·have:=h j i hj hi e;unfold pQ at this;simp only [ZQ,Zl,decide_eq_true_eq] at this;rw [ho] at this;omega
theorem gT.tie {r:Ro} {po:List Po} (hn:qw r) (h2:∀ p∈po,p.ou∈bU r\/p.ou∈cN r) (h3:∀ p∈po,p.ip∈cG r\/p.ip∈cN r) {v:Int}:∀ o i,ed po v o=some i->(ed po v i).isSome=true->i∈cN r:=by
 intro o i h hi;obtain ⟨p,hp,_,_,rfl⟩:=fb h;rcases h3 p hp with hs | ht
 ·obtain ⟨j,hj⟩:=Zaf.1 hi;obtain ⟨q,hq,_,Qh,_⟩:=fb hj;rcases h2 q hq with hd | hd
  ·exact absurd (Qh ▸ hd) (hn.sd _ hs)
  ·exact absurd (Qh ▸ hd) (hn.st _ hs)
 ·exact ht
def fR (po:List Po) (v:Int) (k:Nat) (o:ByteArray):ByteArray:=((eX po v k o).getLast?).getD o
def qP (po:List Po) (v:Int) (S:List ByteArray) (o:ByteArray):ByteArray:=if bA S (fR po v 7 o)<0 then ⟨#[]⟩ else fR po v 7 o
theorem y7 {po:List Po} (h:ed po v o=some i):fR po v (k+1) o=fR po v k i:=by
 unfold fR;rw [ko h,List.getLast?_cons]
 rfl
theorem pV {po:List Po} (h:ed po v o=none):fR po v k o=o:=by
 unfold fR;rw [ph h];rfl
theorem HS {r:Ro} {po:List Po} (hn:qw r) (h:gT r po) (v:Int) (o:ByteArray):fR po v ((cN r).length+1) o=fR po v 7 o:=by
 have:=hn.TR;unfold fR;rw [mT (T:=cN r) (gT.tie hn h.out h.uO) (h.BF v) o (m:=7) (by omega)]
theorem GH {r:Ro} {po:List Po} (hn:qw r) (h:gT r po) {v:Int}:∀ (k:Nat) (o:ByteArray),(eX po v 7 o).length<=k->(ed po v o).isSome=true->fR po v 7 o∈cG r:=by
 have h6:=hn.TR;have hs:=fun o m hm=>mT (T:=cN r) (gT.tie hn h.out h.uO) (h.BF v) o (m:=m) hm
 intro k
 induction k with
 | zero =>
  intro o hk ho;obtain ⟨i,hi⟩:=Zaf.1 ho;rw [ko hi,ZI] at hk;omega
 | succ k ih =>
  intro o hk ho;obtain ⟨i,hi⟩:=Zaf.1 ho;have e1:fR po v 7 o=fR po v 7 i:=by
   have:fR po v 8 o=fR po v 7 i:=y7 hi;unfold fR at this ⊢;rw [hs o 8 (by omega)] at this;rw [hs o 7 (by omega)];exact this
  rw [e1];cases Ic:ed po v i with
  | none =>
   rw [pV Ic];obtain ⟨p,hp,MV,_,rfl⟩:=fb hi;rcases h.uO p hp with hS | hT
   ·exact hS
   ·have hu:nh po v p.ip=true:=by
     unfold nh;rw [ZN];exact ⟨p,hp,by unfold AL;rw [MV];simp⟩
    have:=(h.use v p.ip hT).1 hu;unfold ig at this;rw [Ic] at this;cases this
  | some j =>
   refine ih i ?_ (by rw [Ic];rfl);have:(eX po v 8 o).length=(eX po v 7 i).length+1:=by rw [ko hi,ZI]
   rw [hs o 8 (by omega),<- hs o 7 (by omega)] at this;omega
theorem ze {r:Ro} {po:List Po} (hn:qw r) (h:gT r po) {v:Int} {o:ByteArray} (ho:(ed po v o).isSome=true):qP po v (cG r) o=fR po v 7 o:=by
 unfold qP;rw [if_neg fun e=>cg.1 e (GH hn h _ o (Zz _) ho)]
theorem H2 {r:Ro} {po:List Po} (hs:o ∉ cG r) (ho:ed po v o=none):qP po v (cG r) o=⟨#[]⟩:=by
 unfold qP;rw [pV ho,if_pos (cg.2 hs)]
theorem Bb {po qo:List Po} (h1:tr po) (hs:∀ p∈qo,p∈po) {v:Int}:∀ {k:Nat} {o x:ByteArray},x∈eX qo v k o->x∈eX po v k o
 | 0,_,_,h=>by cases h
 | k + 1, o, x, h => by
  rw [eX] at h;cases hi:ed qo v o with
  | none=>rw [hi] at h;cases h
  | some i =>
   rw [hi] at h;rw [ko (OE h1 hs hi)];rcases ZO.1 h with rfl | h
   ·exact Zr
   ·exact ZW _ (Bb h1 hs h)
theorem gT.filter {r:Ro} {po:List Po} (hn:qw r) (h:gT r po) (f:Po->Bool) (h2:∀ p∈po,p.ou∈cN r->∀ q∈po,f q=true->q.lv=p.lv->q.ip=p.ou->f p=true) (h3:∀ p∈po,p.ou∈cN r->f p=true->∃ q∈po,f q=true/\q.lv=p.lv/\q.ip=p.ou):gT r (po.filter f):=by
 have iO:∀ p∈po.filter f,p∈po:=fun p hp=>(Zy.1 hp).1
 have h1:=gT.one h.qd;refine ⟨h.qd.filter f,fun p hp=>h.Ib p (iO p hp),fun p hp=>h.out p (iO p hp),fun p hp=>h.uO p (iO p hp),fun p hp=>h.MQ p (iO p hp),fun v=>?_,fun v t ht=>?_⟩
 ·rintro ⟨t,ht,hc⟩;exact h.BF v ⟨t,ht,Bb h1 iO hc⟩
 ·constructor
  ·intro hu;unfold nh at hu;rw [ZN] at hu;obtain ⟨q,hq,OQ⟩:=hu;unfold AL at OQ;rw [Zl,decide_eq_true_eq,decide_eq_true_eq] at OQ;obtain ⟨OR,yR⟩:=Zy.1 hq;have hb:=(h.use v t ht).1 (by unfold nh;rw [ZN];exact ⟨q,OR,by unfold AL;rw [OQ.1,OQ.2];simp⟩);unfold ig at hb;obtain ⟨i,hi⟩:=Zaf.1 hb;obtain ⟨p,hp,MV,rb,rfl⟩:=fb hi;have hf:=h2 p hp (rb ▸ ht) q OR yR (OQ.1.trans MV.symm) (OQ.2.trans rb.symm);have:=mg (h1.filter f) (Zy.2 ⟨hp,hf⟩);rw [MV,rb] at this;unfold ig;rw [this];rfl
  ·intro hb;unfold ig at hb;obtain ⟨i,hi⟩:=Zaf.1 hb;obtain ⟨p,hp,MV,rb,rfl⟩:=fb hi;obtain ⟨Bx,OT⟩:=Zy.1 hp;obtain ⟨q,hq,yR,Vp,YI⟩:=h3 p Bx (rb ▸ ht) OT;unfold nh;rw [ZN];exact ⟨q,Zy.2 ⟨hq,yR⟩,by unfold AL;rw [Vp,YI,MV,rb];simp⟩
theorem AY (h:0<=bA l s):bA l s<(l.length:Nat):=by
 obtain ⟨hl,_⟩:=eF h;omega
theorem Gm {a b:ByteArray} (ha:0<=bA l a) (h:bA l a=bA l b):a=b:=by
 obtain ⟨h1,e1⟩:=eF ha;obtain ⟨h2,e2⟩:=eF (l:=l) (s:=b) (by omega);rw [<- e1,<- e2];have:(bA l a).toNat=(bA l b).toNat:=by rw [h]
 simp only [this]
theorem Kn {r:Ro} {a b:ByteArray} (ha:a∈bU r\/a∈cN r) (hb:b∈bU r\/b∈cN r) (h:dI r a=dI r b):a=b:=by
 have hd:(bU r).length=r.de.length:=by unfold bU;rw [Zd]
 unfold dI at h;by_cases a1:0<=bA (bU r) a
 ·have:=AY a1;by_cases b1:0<=bA (bU r) b
  ·rw [if_pos a1,if_pos b1] at h;exact Gm a1 h
  ·by_cases b2:0<=bA (cN r) b
   ·rw [if_pos a1,if_neg b1,if_pos b2] at h;omega
   ·rcases hb with hb | hb
    ·exact absurd hb (cg.1 (by omega))
    ·exact absurd hb (cg.1 (by omega))
 ·by_cases a2:0<=bA (cN r) a
  ·by_cases b1:0<=bA (bU r) b
   ·have:=AY b1;rw [if_neg a1,if_pos a2,if_pos b1] at h;omega
   ·by_cases b2:0<=bA (cN r) b
    ·rw [if_neg a1,if_pos a2,if_neg b1,if_pos b2] at h;exact Gm a2 (by omega)
    ·rcases hb with hb | hb
     ·exact absurd hb (cg.1 (by omega))
     ·exact absurd hb (cg.1 (by omega))
  ·rcases ha with ha | ha
   ·exact absurd ha (cg.1 (by omega))
   ·exact absurd ha (cg.1 (by omega))
structure qX (r:Ro) (po:List Po) (v:Int) (x:ByteArray):Prop where
 qd:po.Pairwise (fun a b=>pQ r a b=true)
 Ib:∀ p∈po,0<=p.lv/\p.lv<r.lv
 out:∀ p∈po,p.ou∈bU r\/p.ou∈cN r
 uO:∀ p∈po,p.ip∈cG r\/p.ip∈cN r
 MQ:∀ p∈po,jO r p.ou=jP r p.ip
 BF:∀ v,¬ ∃ t∈cN r,t∈eX po v ((cN r).length+1) t
 use:∀ u t,t∈cN r->(u=v/\t=x)\/(nh po u t=true↔ig po u t=true)
 XM:x∈cN r->ig po v x=true
theorem gT.UT {r:Ro} {po:List Po} (h:gT r po) (hb:x∈cN r->ig po v x=true):qX r po v x:=⟨h.qd,h.Ib,h.out,h.uO,h.MQ,h.BF,fun u t ht=>.inr (h.use u t ht),hb⟩
theorem qX.val {r:Ro} {po:List Po} {v:Int} {x:ByteArray} (h:qX r po v x) (hx:x ∉ cN r):gT r po:=⟨h.qd,h.Ib,h.out,h.uO,h.MQ,h.BF,fun u t ht=>(h.use u t ht).resolve_left fun e=>hx (e.2 ▸ ht)⟩
theorem oP {r:Ro} {po:List Po} {p:Po} (hs:po.Pairwise (fun a b=>pQ r a b=true)) (ho:∀ q∈po,q.ou∈bU r\/q.ou∈cN r) (hp:p.ou∈bU r\/p.ou∈cN r) (YV:ed po p.lv p.ou=none):(iN r p po).Pairwise (fun a b=>pQ r a b=true):=
 tI hs fun q hq e=>iy.1 YV q hq ⟨e.1.symm,(Kn hp (ho q hq) e.2).symm⟩
theorem rT {r:Ro} {po:List Po} {p:Po} (h1:tr (iN r p po)) (h0:tr po) (v:Int) (o:ByteArray):ed (iN r p po) v o=if p.lv=v/\p.ou=o then some p.ip else ed po v o:=by
 by_cases h:p.lv=v/\p.ou=o
 ·rw [if_pos h];have:=mg h1 (ix.2 (.inl I):p∈iN r p po);rwa [h.1,h.2] at this
 ·rw [if_neg h];cases hi:ed po v o with
  | none =>
   rw [iy];intro q hq;rcases ix.1 hq with rfl | hq
   ·exact h
   ·exact iy.1 hi q hq
  | some i =>
   obtain ⟨q,hq,rfl,rfl,rfl⟩:=fb hi;exact mg h1 (ix.2 (.inr hq))
theorem qX.add {r:Ro} {po:List Po} (hn:qw r) (h:qX r po v x) (hv:0<=v/\v<r.lv) (hx:x∈cG r\/x∈cN r) (ho:o∈bU r\/o∈cN r) (fu:ed po v o=none) (hm:jO r o=jP r x):qX r (iN r ⟨v,o,x⟩ po) v o:=by
 have hs:=oP (p:=⟨v,o,x⟩) h.qd h.out ho fu;have h1:=gT.one hs;have h0:=gT.one h.qd;have n9:=rT (p:=⟨v,o,x⟩) h1 h0;have tJ:x≠o:=by
  intro e;subst e;rcases hx with hx | hx
  ·rcases ho with ho | ho
   ·exact hn.sd _ hx ho
   ·exact hn.st _ hx ho
  ·have:=h.XM hx;unfold ig at this;rw [fu] at this;cases this
 -- no one ac8 DF new output
 have rf:∀ u,ed po v u≠some o:=by
  intro u hu;obtain ⟨q,hq,MU,_,Qi⟩:=fb hu;rcases ho with ho | ho
  ·rcases h.uO q hq with hS | hT
   ·exact hn.sd _ (Qi ▸ hS) ho
   ·exact hn.dt _ ho (Qi ▸ hT)
  ·rcases h.use v o ho with e | e
   ·exact tJ e.2.symm
   ·have:nh po v o=true:=by
     unfold nh;rw [ZN];exact ⟨q,hq,by unfold AL;rw [MU,Qi];simp⟩
    have:=e.1 this;unfold ig at this;rw [fu] at this;cases this
 have iZ:∀ u y,ed (iN r ⟨v,o,x⟩ po) v u=some y->y≠o:=by
  intro u y hu e;subst e;rw [n9] at hu;split at hu
  ·exact tJ (Option.some.inj hu)
  ·exact rf u hu
 refine ⟨hs,fun p hp=>?_,fun p hp=>?_,fun p hp=>?_,fun p hp=>?_,fun w=>?_,fun u t ht=>?_,fun _=>?_⟩
 ·rcases ix.1 hp with rfl | hp
  ·exact hv
  ·exact h.Ib p hp
 ·rcases ix.1 hp with rfl | hp
  ·exact ho
  ·exact h.out p hp
 ·rcases ix.1 hp with rfl | hp
  ·exact hx
  ·exact h.uO p hp
 ·rcases ix.1 hp with rfl | hp
  ·exact hm
  ·exact h.MQ p hp
 ·rintro ⟨t,ht,hc⟩;obtain ⟨j,hj,he⟩:=pP.1 hc
  -- DF way round is one of DF FX points
  have key:∀ k y z,(w=v->y≠o)->lQ (iN r ⟨v,o,x⟩ po) w k y=some z->lQ po w k y=some z:=by
   intro k
   induction k with
   | zero=>intro y z _ h;exact h
   | succ k ih =>
    intro y z hy hz;rw [lQ] at hz ⊢;have e1:ed (iN r ⟨v,o,x⟩ po) w y=ed po w y:=by
     rw [n9,if_neg fun e=>hy e.1.symm e.2.symm]
    cases hi:ed po w y with
    | none=>rw [e1,hi] at hz;cases hz
    | some u =>
     rw [e1,hi] at hz;refine ih u z (fun e q=>?_) hz;subst e q;exact iZ y u (by rw [e1];exact hi) I
  refine h.BF w ⟨t,ht,pP.2 ⟨j,hj,key (j+1) t t (fun e q=>?_) he⟩⟩;subst e q;obtain ⟨u,hu,OL⟩:∃ u,lQ (iN r ⟨w,t,x⟩ po) w j t=some u/\ed (iN r ⟨w,t,x⟩ po) w u=some t:=by
   rw [jF] at he;cases hq:lQ (iN r ⟨w,t,x⟩ po) w j t with
   | none=>rw [hq] at he;cases he
   | some u =>
    rw [hq] at he;exact ⟨u,I,by simpa [lQ] using he⟩
  exact iZ u t OL I
 ·by_cases e:u=v/\t=o
  ·exact .inl e
  ·refine .inr ?_;have hb:ig (iN r ⟨v,o,x⟩ po) u t=ig po u t:=by
    unfold ig;rw [n9,if_neg fun q=>e ⟨q.1.symm,q.2.symm⟩]
   have hu:nh (iN r ⟨v,o,x⟩ po) u t=true↔(u=v/\t=x)\/nh po u t=true:=by
    unfold nh;rw [ZN,ZN];constructor
    ·rintro ⟨q,hq,yR⟩;rcases ix.1 hq with rfl | hq
     ·unfold AL at yR;rw [Zl,decide_eq_true_eq,decide_eq_true_eq] at yR;exact .inl ⟨yR.1.symm,yR.2.symm⟩
     ·exact .inr ⟨q,hq,yR⟩
    ·rintro (⟨rfl,rfl⟩ | ⟨q,hq,yR⟩)
     ·exact ⟨_,ix.2 (.inl I),by unfold AL;simp⟩
     ·exact ⟨q,ix.2 (.inr hq),yR⟩
   rw [hb,hu];rcases h.use u t ht with ex | ex
   ·obtain ⟨rfl,rfl⟩:=ex;exact ⟨fun _=>h.XM ht,fun _=>.inl ⟨I,I⟩⟩
   ·constructor
    ·rintro (⟨rfl,rfl⟩ | q)
     ·exact h.XM ht
     ·exact ex.1 q
    ·exact fun q=>.inr (ex.2 q)
 ·unfold ig;rw [n9,if_pos ⟨I,I⟩];rfl
theorem qX.ne {r:Ro} {po:List Po} (hn:qw r) (h:qX r po v x) (hx:x∈cG r\/x∈cN r) (ho:o∈bU r\/o∈cN r) (fu:ed po v o=none):x≠o:=by
 intro e;subst e;rcases hx with hx | hx
 ·rcases ho with ho | ho
  ·exact hn.sd _ hx ho
  ·exact hn.st _ hx ho
 ·have:=h.XM hx;unfold ig at this;rw [fu] at this;cases this
theorem qX.unused {r:Ro} {po:List Po} (hn:qw r) (h:qX r po v x) (hx:x∈cG r\/x∈cN r) (ho:o∈bU r\/o∈cN r) (fu:ed po v o=none):∀ u,ed po v u≠some o:=by
 have tJ:=h.ne hn hx ho fu;intro u hu;obtain ⟨q,hq,MU,_,Qi⟩:=fb hu;rcases ho with ho | ho
 ·rcases h.uO q hq with hS | hT
  ·exact hn.sd _ (Qi ▸ hS) ho
  ·exact hn.dt _ ho (Qi ▸ hT)
 ·rcases h.use v o ho with e | e
  ·exact tJ e.2.symm
  ·have:nh po v o=true:=by
    unfold nh;rw [ZN];exact ⟨q,hq,by unfold AL;rw [MU,Qi];simp⟩
   have:=e.1 this;unfold ig at this;rw [fu] at this;cases this
theorem Bc {r:Ro} {po:List Po} {v:Int} {x o:ByteArray} (hn:qw r) (h:qX r po v x) (hx:x∈cG r\/x∈cN r) (ho:o∈bU r\/o∈cN r) (fu:ed po v o=none) {w:Int}:∀ {k:Nat} {y:ByteArray},¬(w=v/\y=o)->eX (iN r ⟨v,o,x⟩ po) w k y=eX po w k y
 | 0,_,_=>rfl
 | k + 1, y, hy => by
  have hs:=oP (p:=⟨v,o,x⟩) h.qd h.out ho fu;have e1:ed (iN r ⟨v,o,x⟩ po) w y=ed po w y:=by
   rw [rT (p:=⟨v,o,x⟩) (gT.one hs) (gT.one h.qd),if_neg fun e=>hy ⟨e.1.symm,e.2.symm⟩]
  rw [eX,eX,e1];cases hi:ed po w y with
  | none=>rfl
  | some u =>
   show u::_=u::_;rw [Bc hn h hx ho fu fun e=>by
    obtain ⟨rfl,rfl⟩:=e;exact h.unused hn hx ho fu y hi]
theorem GA {r:Ro} {po:List Po} (hn:qw r) (h:qX r po v x) (hx:x∈cG r\/x∈cN r) (ho:o∈bU r\/o∈cN r) (fu:ed po v o=none) {w:Int} {y:ByteArray} (hy:¬(w=v/\y=o)) {S:List ByteArray}:qP (iN r ⟨v,o,x⟩ po) w S y=qP po w S y:=by
 unfold qP fR;rw [Bc hn h hx ho fu hy]
theorem Db {r:Ro} {po:List Po} (hn:qw r) (h:qX r po v x) (hv:0<=v/\v<r.lv) (hx:x∈cG r\/x∈cN r) (ho:o∈bU r\/o∈cN r) (fu:ed po v o=none) (hm:jO r o=jP r x):fR (iN r ⟨v,o,x⟩ po) v 7 o=fR po v 7 x:=by
 have h6:=hn.TR;have hA:=h.add hn hv hx ho fu hm;have hs:=oP (p:=⟨v,o,x⟩) h.qd h.out ho fu;have n9:ed (iN r ⟨v,o,x⟩ po) v o=some x:=by
  rw [rT (p:=⟨v,o,x⟩) (gT.one hs) (gT.one h.qd),if_pos ⟨I,I⟩]
 have hsh:=fun m hm=>mT (T:=cN r) (gT.tie hn hA.out hA.uO) (hA.BF v) o (m:=m) hm
 have e8:fR (iN r ⟨v,o,x⟩ po) v 8 o=fR (iN r ⟨v,o,x⟩ po) v 7 x:=y7 n9;have e7:fR (iN r ⟨v,o,x⟩ po) v 7 o=fR (iN r ⟨v,o,x⟩ po) v 8 o:=by
  unfold fR;rw [hsh 7 (by omega),hsh 8 (by omega)]
 rw [e7,e8];unfold fR;rw [Bc hn h hx ho fu fun e=>h.ne hn hx ho fu e.2]
theorem wK {po:List Po} (h1:tr po) {f:Po->Bool} (fH:∀ q∈po,f q=true->∀ p∈po,p.lv=q.lv->p.ou=q.ip->f p=true) {v:Int}:∀ {k:Nat} {y:ByteArray},(∀ p∈po,p.lv=v->p.ou=y->f p=true)->eX (po.filter f) v k y=eX po v k y
 | 0,_,_=>rfl
 | k + 1, y, hy => by
  rw [eX,eX];cases hi:ed po v y with
  | none =>
   have:ed (po.filter f) v y=none:=iy.2 fun p hp=>iy.1 hi p (Zy.1 hp).1
   rw [this]
  | some u =>
   obtain ⟨q,hq,MU,Qh,rfl⟩:=fb hi;have hf:=hy q hq MU Qh;have:ed (po.filter f) v y=some q.ip:=by
    have:=mg (h1.filter f) (Zy.2 ⟨hq,hf⟩);rwa [MU,Qh] at this
   rw [this];show q.ip::_=q.ip::_;rw [wK h1 fH fun p hp MV rb=>fH q hq hf p hp (MV.trans MU.symm) rb]
end Go.Proofs.A1
