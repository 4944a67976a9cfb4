/- Parts of the proof: GkCore GkOps P5w S1p P5a P5b P5c P5d P5e P5f P5g. -/
import Derived.RangeFuncRecord
import Derived.OrdersIn
import Derived.KernelRfl
import Derived.Below
import Derived.IntWalk
import Derived.Laws.Strings
namespace Go
abbrev Value.q (x:Int):Value:=.int .i64 x
abbrev Value.z:Value:=.slice none 0 0
abbrev Value.w (b n c:Nat):Value:=.slice (some ⟨b,0,none⟩) n c
abbrev Value.p (b:Nat):Value:=.pointer (some ⟨b,0,none⟩)
end Go
set_option linter.unusedSectionVars false
set_option linter.unusedVariables false
set_option linter.unusedSimpArgs false
namespace Go.SL
open Go
open Go.RowKit (Below)
theorem I {α:Sort _} {a:α}:a=a:=rfl
theorem Za {α:Type _} (as:List α):[]++as=as:=rfl
theorem Zb:type_of% @List.cons_append:=rfl
theorem Zc:type_of% @List.getElem?_eq_getElem:=List.getElem?_eq_getElem
theorem Zd:type_of% @List.length_map:=@List.length_map
theorem Ze:type_of% @List.take_zero:=rfl
theorem Zf:type_of% @List.map_nil:=rfl
theorem Zg:type_of% @List.length_append:=@List.length_append
theorem Zh:type_of% @List.append_assoc:=@List.append_assoc
theorem Zi:type_of% @Nat.zero_le:=@Nat.zero_le
theorem Zj:type_of% @List.getElem_mem:=@List.getElem_mem
theorem Zk:type_of% @List.getD_eq_getElem?_getD:=@List.getD_eq_getElem?_getD
theorem Zl:type_of% @List.getElem?_eq_some_iff:=@List.getElem?_eq_some_iff
theorem Zm:type_of% @Bool.and_eq_true:=@Bool.and_eq_true
theorem Zn:type_of% @List.take_succ_eq_append_getElem:=@List.take_succ_eq_append_getElem
theorem Zo:type_of% @List.not_mem_nil:=@List.not_mem_nil
theorem Zp:type_of% @List.mem_cons_self:=@List.mem_cons_self
theorem Zq:type_of% @List.mem_append:=@List.mem_append
theorem Zr:type_of% @Decidable.not_not:=@Decidable.not_not
theorem Zs:type_of% @List.length_take:=@List.length_take
theorem Zt:type_of% @List.forall_mem_cons:=@List.forall_mem_cons
theorem Zu:type_of% @List.getElem_of_mem:=@List.getElem_of_mem
theorem Zv:type_of% @List.drop_eq_getElem_cons:=@List.drop_eq_getElem_cons
theorem Zw:type_of% @List.mem_map:=@List.mem_map
theorem Zx:type_of% @List.nodup_append:=@List.nodup_append
theorem Zy:type_of% @Int.toNat_natCast:=@Int.toNat_natCast
theorem Zz:type_of% @List.map_append:=@List.map_append
theorem ZA:type_of% @List.mem_filter:=@List.mem_filter
theorem ZB:type_of% @List.mem_singleton:=@List.mem_singleton
theorem ZC:type_of% @Nat.le_refl:=@Nat.le_refl
theorem ZD:type_of% @List.mem_append_left:=@List.mem_append_left
theorem ZE:type_of% @Nat.zero_add:=@Nat.zero_add
theorem ZF:type_of% @Array.getD_eq_getD_getElem?:=@Array.getD_eq_getD_getElem?
theorem ZG:type_of% @List.getElem?_append_left:=@List.getElem?_append_left
theorem ZH:type_of% @List.getElem?_take:=@List.getElem?_take
theorem ZI:type_of% @List.getElem?_append_right:=@List.getElem?_append_right
theorem ZJ:type_of% @List.getElem?_map:=@List.getElem?_map
theorem ZK:type_of% @Array.getElem?_setIfInBounds_ne:=@Array.getElem?_setIfInBounds_ne
theorem ZL:type_of% @List.length_cons:=@List.length_cons
theorem ZM:type_of% @List.mem_append_right:=@List.mem_append_right
theorem ZN:type_of% @List.take_length:=@List.take_length
theorem ZO:type_of% @List.mem_cons:=@List.mem_cons
theorem ZP:type_of% @Bool.or_eq_true:=@Bool.or_eq_true
theorem ZQ:type_of% @List.append_nil:=@List.append_nil
theorem ZR:type_of% @List.any_eq_true:=@List.any_eq_true
theorem ZS:type_of% @Nat.lt_of_not_le:=@Nat.lt_of_not_le
theorem ZT:type_of% @List.mem_cons_of_mem:=@List.mem_cons_of_mem
theorem ZU:type_of% @List.mem_range:=@List.mem_range
theorem ZV:type_of% @List.mem_of_getElem?:=@List.mem_of_getElem?
theorem ZW:type_of% @Nat.not_lt_zero:=@Nat.not_lt_zero
theorem ZX:type_of% @List.take_append_drop:=@List.take_append_drop
theorem ZY:type_of% @List.pairwise_iff_getElem:=@List.pairwise_iff_getElem
theorem ZZ:type_of% @Nat.le_trans:=@Nat.le_trans
theorem Z0:type_of% @Array.getElem?_eq_some_iff:=@Array.getElem?_eq_some_iff
theorem Z1:type_of% @Nat.blt_eq:=@Nat.blt_eq
theorem Z2:type_of% @List.getElem_map:=@List.getElem_map
theorem Z3:type_of% @Nat.eq_of_beq_eq_true:=@Nat.eq_of_beq_eq_true
theorem Z4:type_of% @List.eq_nil_of_length_eq_zero:=@List.eq_nil_of_length_eq_zero
theorem Z5:type_of% @List.length_filter_le:=@List.length_filter_le
theorem Z6:type_of% @Option.isSome_iff_exists:=@Option.isSome_iff_exists
theorem Z7:type_of% @List.all_eq_true:=@List.all_eq_true
theorem Z8:type_of% @List.drop_length:=@List.drop_length
theorem Z9:type_of% @Nat.mul_le_mul_right:=@Nat.mul_le_mul_right
theorem Zaa:type_of% @List.getElem?_eq_none:=@List.getElem?_eq_none
theorem Zab:type_of% @List.flatten_append:=@List.flatten_append
theorem Zac:type_of% @List.getElem_append_left:=@List.getElem_append_left
theorem Zad:type_of% @List.take_append_of_le_length:=@List.take_append_of_le_length
theorem Zae:type_of% @Bool.not_eq_true:=@Bool.not_eq_true
theorem Zaf:type_of% @List.map_cons:=@List.map_cons
theorem Zag:type_of% @List.getElem_append_right:=@List.getElem_append_right
theorem Zah:type_of% @List.nodup_nil:=@List.nodup_nil
theorem Zai:type_of% @List.mem_map_of_mem:=@List.mem_map_of_mem
theorem Zaj:type_of% @Nat.succ_mul:=@Nat.succ_mul
theorem Zak:type_of% @Option.map_eq_some_iff:=@Option.map_eq_some_iff
theorem Zal:type_of% @List.take_of_length_le:=@List.take_of_length_le
theorem Zam:type_of% @Option.getD_some:=@Option.getD_some
theorem Zan:type_of% @List.length_nil:=@List.length_nil
theorem Zao:type_of% @Nat.lt_trichotomy:=@Nat.lt_trichotomy
theorem Zap:type_of% @List.any_eq_false:=@List.any_eq_false
theorem Zaq:type_of% @List.length_eq_zero_iff:=@List.length_eq_zero_iff
theorem Zar:type_of% @List.length_range:=@List.length_range
theorem Zas:type_of% @Nat.mul_one:=@Nat.mul_one
theorem Zat:type_of% @List.ext_getElem?:=@List.ext_getElem?
theorem Zau:type_of% @Bool.eq_false_iff:=@Bool.eq_false_iff
theorem Zav:type_of% @Bool.true_and:=@Bool.true_and
theorem Zaw:type_of% @List.filter_eq_self:=@List.filter_eq_self
theorem Zax:type_of% @Nat.le_of_ble_eq_true:=@Nat.le_of_ble_eq_true
theorem Zay:type_of% @Nat.add_zero:=@Nat.add_zero
theorem Zaz:type_of% @List.getElem?_cons_zero:=@List.getElem?_cons_zero
theorem ZaA:type_of% @List.perm_ext_iff_of_nodup:=@List.perm_ext_iff_of_nodup
theorem ZaB:type_of% @List.find?_eq_some_iff_getElem:=@List.find?_eq_some_iff_getElem
theorem ZaC:type_of% @Array.getElem?_eq_getElem:=@Array.getElem?_eq_getElem
theorem ZaD:type_of% @List.flatten_cons:=@List.flatten_cons
theorem ZaE:type_of% @List.getElem_take:=@List.getElem_take
theorem ZaF:type_of% @List.mem_range'_1:=@List.mem_range'_1
theorem ZaG:type_of% @Array.getElem?_toList:=@Array.getElem?_toList
theorem ZaH:type_of% @List.length_erase_of_mem:=@List.length_erase_of_mem
theorem ZaI:type_of% @List.map_map:=@List.map_map
theorem ZaJ:type_of% @Nat.lt_of_lt_of_le:=@Nat.lt_of_lt_of_le
theorem ZaK:type_of% @Nat.add_sub_cancel:=@Nat.add_sub_cancel
theorem ZaL:type_of% @List.prefix_append:=@List.prefix_append
theorem ZaM:type_of% @List.find?_eq_none:=@List.find?_eq_none
theorem ZaN:type_of% @List.map_take:=@List.map_take
theorem ZaO:type_of% @List.length_take_of_le:=@List.length_take_of_le
theorem ZaP:type_of% @Bool.not_eq_true':=@Bool.not_eq_true'
theorem ZaQ:type_of% @List.nodup_iff_pairwise_ne:=@List.nodup_iff_pairwise_ne
theorem ZaR:type_of% @Array.length_toList:=@Array.length_toList
theorem ZaS:type_of% @Bool.eq_iff_iff:=@Bool.eq_iff_iff
theorem ZaT:type_of% @List.sublist_append_right:=@List.sublist_append_right
theorem ZaU:type_of% @List.contains_iff_mem:=@List.contains_iff_mem
theorem ZaV:type_of% @Nat.le_of_not_lt:=@Nat.le_of_not_lt
theorem ZaW:type_of% @Bool.false_eq_true:=@Bool.false_eq_true
theorem ZaX:type_of% @List.pairwise_cons:=@List.pairwise_cons
theorem ZaY:type_of% @List.sublist_append_left:=@List.sublist_append_left
theorem ZaZ:type_of% @Array.toArray_toList:=@Array.toArray_toList
theorem Zba:type_of% @List.getElem?_cons_succ:=@List.getElem?_cons_succ
theorem Zbb:type_of% @List.filter_congr:=@List.filter_congr
theorem Zbc:type_of% @List.range_succ:=@List.range_succ
theorem Zbd:type_of% @List.drop_of_length_le:=@List.drop_of_length_le
theorem Zbe:type_of% @List.length_drop:=@List.length_drop
theorem Zbf:type_of% @List.drop_drop:=@List.drop_drop
theorem Zbg:type_of% @List.getElem?_drop:=@List.getElem?_drop
theorem Zbh:type_of% @List.filter_append:=@List.filter_append
theorem Zbi:type_of% @Array.getElem?_modify:=@Array.getElem?_modify
theorem Zbj:type_of% @List.length_singleton:=@List.length_singleton
theorem Zbk:type_of% @Nat.min_eq_left:=@Nat.min_eq_left
theorem Zbl:type_of% @Option.map_some:=@Option.map_some
theorem Zbm:type_of% @List.size_toArray:=@List.size_toArray
theorem Zbn:type_of% @Nat.zero_mul:=@Nat.zero_mul
theorem Zbo:type_of% @List.mem_of_mem_take:=@List.mem_of_mem_take
theorem Zbp:type_of% @Nat.lt_or_ge:=@Nat.lt_or_ge
theorem Zbq:type_of% @List.pairwise_map:=@List.pairwise_map
theorem Zbr:type_of% @Nat.mul_le_mul_left:=@Nat.mul_le_mul_left
theorem Zbs:type_of% @List.map_congr_left:=@List.map_congr_left
theorem Zbt:type_of% @List.filter_cons_of_pos:=@List.filter_cons_of_pos
theorem Zbu:type_of% @List.nodup_range:=@List.nodup_range
theorem Zbv:type_of% @Bool.and_false:=@Bool.and_false
theorem Zbw:type_of% @Array.getElem?_eq_none:=@Array.getElem?_eq_none
theorem Zbx:type_of% @List.length_range':=@List.length_range'
theorem Zby:type_of% @List.getElem_range:=@List.getElem_range
theorem Zbz:type_of% @List.drop_eq_nil_of_le:=@List.drop_eq_nil_of_le
theorem ZbA:type_of% @List.filter_filter:=@List.filter_filter
theorem ZbB:type_of% @List.nodup_range':=@List.nodup_range'
theorem ZbC:type_of% @Option.bind_some:=@Option.bind_some
theorem ZbD:type_of% @Bool.false_or:=@Bool.false_or
abbrev aD:=List (Nat×Value)
def cW:aD->Nat->Option Value
 | [],_=>none
 | (t,v)::r,k=>bif Nat.beq t k then some v else cW r k
variable {D:List Nat} {N:Act->World->Prop} {Q:Exit->Act->World->Prop} {V:Value} {a:Act} {b d:Nat} {h:Nat->Option Obj} {id:Nat} {o:Oper} {op:Op} {ops:Array Oper} {r:Option Nat} {rest:List Oper} {v:Value} {x:Operand}
theorem fN {t k:Nat} {r:aD} (h:t≠k):cW ((t,v)::r) k=cW r k:=by
 have:Nat.beq t k=false:=by
  cases hb:Nat.beq t k with
  | false=>rfl
  | true=>exact absurd (Z3 hb) h
 simp [cW,this]
theorem fO {t:Nat} {r:aD}:cW ((t,v)::r) t=some v:=by
 simp [cW]
def bW (sl:aD) (a:Act):Prop:=∀ t v,cW sl t=some v->a.tmps[t]? = some v
theorem bW.eval {sl:aD} (h:bW sl a) {t:Nat} {v:Value} (hv:cW sl t=some v):a.eval (.tmp t)=v:=by
 have:=h t v hv;simp [Act.eval,ZF,this]
theorem bW.put {sl:aD} (h:bW sl a) {d:Nat} (hd:d<a.tmps.size) (v:Value):bW ((d,v)::sl) (a.put (some d) v):=by
 intro t u hu;by_cases xY:d=t
 ·subst xY;rw [fO] at hu;cases hu;simp [Act.put,hd]
 ·rw [fN xY] at hu;simp only [Act.put,ZK xY];exact h t u hu
theorem bW.sub {sl jr:aD} (h:bW sl a) (hs:∀ t v,cW jr t=some v->cW sl t=some v):bW jr a:=fun t v hv=>h t v (hs t v hv)
def Is (sl:aD) (x:Operand) (v:Value):Prop:=∀ a:Act,bW sl a->a.eval x=v
theorem A9 {a b:Bool} (h:(a&&b)=true):a=true:=by cases a <;> simp_all
def gv (c:Bool) (v:Value):Value:=bif c then v else undef
theorem u3 {c:Bool} (h:c=true):gv c v=v:=by simp [gv,h]
theorem wK {c:Bool} (h:c=false):gv c v=undef:=by simp [gv,h]
def hp (w:World):Nat->Option Obj:=fun b=>w.heap[b]?
theorem ko {w:World} {o:Obj} (h:hp w b=some o):b<w.heap.size:=(Z0.1 h).1
structure bh where
 sat:(Nat->Option Obj)->List Nat->Prop
 loc:∀ {h h':Nat->Option Obj} {fp:List Nat},sat h fp->(∀ b∈fp,h' b=h b)->sat h' fp
 own:∀ {h:Nat->Option Obj} {fp:List Nat},sat h fp->∀ b∈fp,∃ o,h b=some o
def cA (h:Nat->Option Obj):List bh->List Nat->Prop
 | [],fp=>fp=[]
 | A::As,fp=>∃ f1 f2,fp=f1++f2/\A.sat h f1/\cA h As f2
theorem cA.own :∀ {hs:List bh} {fp:List Nat},cA h hs fp->∀ b∈fp,∃ o,h b=some o
 | [],_,hh,b,hb=>by rw [show _=[] from hh] at hb;cases hb
 | A :: As, _, ⟨f1, f2, e, h1, h2⟩, b, hb => by
  subst e;rcases Zq.1 hb with hb | hb
  ·exact A.own h1 b hb
  ·exact cA.own h2 b hb
theorem cA.loc {h h':Nat->Option Obj}:∀ {hs:List bh} {fp:List Nat},cA h hs fp->(∀ b∈fp,h' b=h b)->cA h' hs fp
 | [],_,hh,_=>hh
 | A :: As, _, ⟨f1, f2, e, h1, h2⟩, hb => by
  subst e;exact ⟨f1,f2,I,A.loc h1 (fun b dK=>hb b (ZD _ dK)),cA.loc h2 (fun b dK=>hb b (ZM _ dK))⟩
theorem cA.append_iff :∀ {l1 l2:List bh} {fp:List Nat},cA h (l1++l2) fp↔∃ f1 f2,fp=f1++f2/\cA h l1 f1/\cA h l2 f2
 | [],l2,fp=>⟨fun hh=>⟨[],fp,rfl,rfl,hh⟩,fun ⟨f1,f2,e,h1,h2⟩=>by rw [show f1=[] from h1] at e;simpa [e] using h2⟩
 | A :: l1, l2, fp => by
  constructor
  ·rintro ⟨f1,f2,rfl,h1,h2⟩;obtain ⟨g1,g2,rfl,h3,h4⟩:=cA.append_iff.1 h2;exact ⟨f1++g1,g2,by simp,⟨f1,g1,I,h1,h3⟩,h4⟩
  ·rintro ⟨f1,f2,rfl,⟨g1,g2,rfl,h1,h2⟩,h3⟩;exact ⟨g1,g2++f2,by simp,h1,cA.append_iff.2 ⟨g2,f2,I,h2,h3⟩⟩
inductive Take:List bh->bh->List bh->Prop
 | here {A:bh} {r:List bh}:Take (A::r) A r
 | there {A X:bh} {r r':List bh} (h:Take r A r'):Take (X::r) A (X::r')
theorem Take.append {hs hs':List bh} {A:bh} (h:Take hs A hs') (m:List bh):Take (hs++m) A (hs'++m):=by
 induction h with
 | here=>exact .here
 | there _ ih=>exact .there ih
theorem cA.take {hs hs':List bh} {A:bh} (ht:Take hs A hs'):∀ {fp:List Nat},cA h hs fp->∃ f1 f2,A.sat h f1/\cA h hs' f2/\fp.Perm (f1++f2):=by
 induction ht with
 | here =>
  rintro fp ⟨f1,f2,rfl,h1,h2⟩;exact ⟨f1,f2,h1,h2,.refl _⟩
 | there _ ih =>
  rintro fp ⟨f1,f2,rfl,h1,h2⟩;obtain ⟨g1,g2,h3,h4,hp⟩:=ih h2;refine ⟨g1,f1++g2,h3,⟨f1,g2,I,h1,h4⟩,?_⟩;exact (hp.append_left f1).trans (by
   rw [<- Zh,<- Zh];exact (List.perm_append_comm).append_right g2)
structure aH (md:List Nat) (w w':World):Prop where
 os:w'.os=w.os
 tape:w'.tape=w.tape
 output:w'.output=w.output
 dr:w.drawn<=w'.drawn
 size:w.heap.size<=w'.heap.size
 block:∀ k,k<w.heap.size->k ∉ md->w'.heap[k]? = w.heap[k]?
theorem aH.refl (md:List Nat) (w:World):aH md w w:=⟨I,I,I,ZC _,ZC _,fun _ _ _=>rfl⟩
theorem aH.trans {md:List Nat} {a b c:World} (h:aH md a b) (k:aH md b c):aH md a c:=
 ⟨k.os.trans h.os,k.tape.trans h.tape,k.output.trans h.output,ZZ h.dr k.dr,ZZ h.size k.size,fun i hi hm=>(k.block i (ZaJ hi h.size) hm).trans (h.block i hi hm)⟩
theorem aH.mono {md md':List Nat} {w w':World} (h:aH md w w') (hs:∀ b∈md,b∈md'):aH md' w w':=
 ⟨h.os,h.tape,h.output,h.dr,h.size,fun k hk hm=>h.block k hk (fun hb=>hm (hs k hb))⟩
theorem aH.below {w w':World} (h:aH [] w w'):Below w.heap.size w w':=⟨h.os,h.tape,h.output,h.size,fun k hk=>h.block k hk (by simp)⟩
theorem aH.JM {w w':World} (h:Below w.heap.size w w') (hd:w.drawn<=w'.drawn):aH [] w w':=⟨h.os,h.tape,h.output,hd,h.size,fun k hk _=>h.block k hk⟩
theorem aH.drew (md:List Nat) (w:World):aH md w w.drew:=⟨I,I,I,Nat.le_succ _,ZC _,fun _ _ _=>rfl⟩
theorem aH.alloc (md:List Nat) (w:World) (o:Obj):aH md w (w.alloc o):=
 ⟨I,I,I,ZC _,by simp,fun k hk _=>by show (w.heap.push o)[k]? = _;rw [Array.getElem?_push,if_neg (by omega)]⟩
structure Cx where
 w0:World
 md:List Nat
 nt:Nat
structure Mem (c:Cx) (hs:List bh) (w:World):Prop where
 keeps:aH c.md c.w0 w
 own:∃ fp:List Nat,fp.Nodup/\cA (hp w) hs fp/\∀ b∈fp,c.w0.heap.size<=b\/b∈c.md
theorem Mem.take {c:Cx} {hs hs':List bh} {A:bh} {w:World} (h:Mem c hs w) (ht:Take hs A hs'):Mem c (A::hs') w:=by
 obtain ⟨k,fp,hn,hs,hb⟩:=h;obtain ⟨f1,f2,h1,h2,hp⟩:=hs.take ht;exact ⟨k,f1++f2,hp.nodup_iff.1 hn,⟨f1,f2,I,h1,h2⟩,fun b dK=>hb b (hp.mem_iff.2 dK)⟩
theorem Mem.change {c:Cx} {As Bs hs:List bh} {w w':World} (h:Mem c (As++hs) w)
  (Y0:∀ fp,fp.Nodup->cA (hp w) As fp->aH fp w w'/\∃ lO:List Nat,lO.Nodup/\cA (hp w') Bs lO/\∀ b∈lO,b∈fp\/w.heap.size<=b):Mem c (Bs++hs) w':=by
 obtain ⟨k,fp,hn,hs,hb⟩:=h;obtain ⟨f1,f2,rfl,h1,h2⟩:=cA.append_iff.1 hs;obtain ⟨n1,n2,n12⟩:=Zx.1 hn;obtain ⟨hk,lO,uW,hs',zi⟩:=Y0 f1 n1 h1;have aN:∀ b∈f2,b<w.heap.size:=fun b dK=>let ⟨o,ho⟩:=h2.own b dK;ko ho
 refine ⟨?_,lO++f2,?_,cA.append_iff.2 ⟨lO,f2,I,hs',h2.loc fun b dK=>?_⟩,?_⟩
 ·refine ⟨hk.os.trans k.os,hk.tape.trans k.tape,hk.output.trans k.output,ZZ k.dr hk.dr,ZZ k.size hk.size,fun b dK hm=>?_⟩;rw [<- k.block b dK hm];refine hk.block b (ZaJ dK k.size) (fun hf=>?_);rcases hb b (ZD _ hf) with h | h
  ·omega
  ·exact hm h
 ·refine Zx.2 ⟨uW,n2,fun x hx y hy e=>?_⟩;subst e;rcases zi x hx with h | h
  ·exact n12 x h x hy I
  ·have:=aN x hy;omega
 ·exact hk.block b (aN b dK) (fun hf=>n12 b hf b dK I)
 ·intro b dK;rcases Zq.1 dK with h | h
  ·rcases zi b h with h | h
   ·exact hb b (ZD _ h)
   ·exact .inl (ZZ k.size h)
  ·exact hb b (ZM _ h)
theorem Mem.rL {c:Cx} {hs:List bh} {w w':World} (h:Mem c hs w) (hk:aH [] w w'):Mem c hs w':=
 Mem.change (As:=[]) (Bs:=[]) h fun fp _ hf=>by
  rw [show fp=[] from hf];exact ⟨hk,[],Zah,I,by simp⟩
theorem Mem.drew {c:Cx} {hs:List bh} {w:World} (h:Mem c hs w):Mem c hs w.drew:=h.rL (.drew _ _)
theorem Mem.lD {c:Cx} {l m:List bh} {w:World} (h:Mem c (l++m) w):Mem c l w:=by
 obtain ⟨k,fp,hn,hs,hb⟩:=h;obtain ⟨f1,f2,rfl,h1,h2⟩:=cA.append_iff.1 hs;exact ⟨k,f1,(Zx.1 hn).1,h1,fun b dK=>hb b (ZD _ dK)⟩
theorem Mem.wQ {c:Cx} {A:bh} {l:List bh} {w:World} (h:Mem c (A::l) w):Mem c l w:=by
 obtain ⟨k,fp,hn,⟨f1,f2,rfl,h1,h2⟩,hb⟩:=h;exact ⟨k,f2,(Zx.1 hn).2.1,h2,fun b dK=>hb b (ZM _ dK)⟩
def bA (b:Nat) (o:Obj):bh where
 sat h fp:=fp=[b]/\h b=some o
 loc:=fun ⟨e,h1⟩ hb=>⟨e,by rw [hb _ (by rw [e];simp)];exact h1⟩
 own:=fun ⟨e,h1⟩ b' dK=>by rw [e] at dK;rw [ZB.1 dK];exact ⟨o,h1⟩
theorem Mem.bA {c:Cx} {hs hs':List bh} {b:Nat} {o:Obj} {w:World} (h:Mem c hs w) (ht:Take hs (bA b o) hs'):w.heap[b]? = some o:=by
 obtain ⟨_,fp,_,⟨f1,f2,_,⟨_,h1⟩,_⟩,_⟩:=h.take ht;exact h1
theorem Mem.alloc {c:Cx} {hs:List bh} {w:World} (h:Mem c hs w) (o:Obj):Mem c (SL.bA w.heap.size o::hs) (w.alloc o):=
 Mem.change (As:=[]) (Bs:=[SL.bA w.heap.size o]) h fun fp _ hf=>by
  rw [show fp=[] from hf];refine ⟨.alloc _ _ _,[w.heap.size],by simp,⟨[w.heap.size],[],I,⟨I,World.alloc_heap_new w o⟩,I⟩,by simp⟩
theorem Mem.store {c:Cx} {hs:List bh} {o o':Obj} {w w':World} (h:Mem c (SL.bA b o::hs) w) (hk:aH [b] w w') (ho:w'.heap[b]? = some o'):Mem c (SL.bA b o'::hs) w':=
 Mem.change (As:=[SL.bA b o]) (Bs:=[SL.bA b o']) h fun fp _ hf=>by
  obtain ⟨f1,f2,e,⟨e1,_⟩,e2⟩:=hf;have:fp=[b]:=by rw [e,e1,show f2=[] from e2];rfl
  subst this;exact ⟨hk,[b],by simp,⟨[b],[],I,⟨I,ho⟩,I⟩,fun x hx=>.inl hx⟩
theorem Mem.base {c:Cx} {hs:List bh} {w:World} (h:Mem c hs w) {b:Nat} (hb:b<c.w0.heap.size) (hm:b ∉ c.md):w.heap[b]? = c.w0.heap[b]?:=h.keeps.block b hb hm
def mark (r:Nat):Deferred:={ target:=.collected r,args:=#[] }
def mN (D:List Nat):List bh:=D.map fun r=>bA r (.deferred (some []))
structure St (c:Cx) (D:List Nat) (sl:aD) (hs:List bh) (a:Act) (w:World):Prop where
 mem:Mem c (hs++mN D) w
 dh:bW sl a
 size:a.tmps.size=c.nt
 defers:a.defers=D.map mark
def Tr (c:Cx) (D:List Nat) (sl:aD) (hs:List bh) (X:Act->World->Prop):Prop:=∀ a w,St c D sl hs a w->X a w
theorem St.rG {c:Cx} {sl:aD} {hs:List bh} {w:World} (h:St c D sl hs a w):Mem c hs w:=h.mem.lD
theorem St.put {c:Cx} {sl:aD} {hs:List bh} {w:World} (h:St c D sl hs a w) {d:Nat} (hd:d<c.nt) (v:Value):St c D ((d,v)::sl) hs (a.put (some d) v) w:=
 ⟨h.mem,h.dh.put (by rw [h.size];exact hd) v,by simp [Act.put,h.size],h.defers⟩
theorem St.heap {c:Cx} {sl:aD} {hs hs':List bh} {w w':World} (h:St c D sl hs a w) (hm:Mem c (hs'++mN D) w'):St c D sl hs' a w':=
 ⟨hm,h.dh,h.size,h.defers⟩
def FR (r:Option Nat):Fence:={ Fence.wide with round:=r }
def WP (P:Program) (r:Option Nat) (code:Code) (Q:Exit->Act->World->Prop):Act->World->Prop:=code.wpIn (FR r) 0 P Q
def WL (P:Program) (r:Option Nat) (ops:Array Oper) (Q:Exit->Act->World->Prop):List Oper->Act->World->Prop
 | [],a,w=>Q .normal a w
 | o :: rest, a, w =>
  if Region.wanted o (yielded ops a.tmps) then o.wpIn (FR r) 0 P a w (WL P r ops Q rest) Q else WL P r ops Q rest (a.put o.dst undef) w
theorem eb (r:Option Nat) (o:Oper) (P:Program) (w:World) (ρ:Operand->Value):∀ f,o.about P w ρ=some f->(FR r).fn f:=fun _ _=>trivial
theorem xG {P:Program} (l:List Oper):∀ k,(∀ j,l[j]? = ops[k+j]?)->wpOpsIn (FR r) 0 P ops Q (List.range' k l.length)=WL P r ops Q l:=by
 induction l with
 | nil=>intro k _;funext a w;simp [wpOpsIn,WL]
 | cons o l ih =>
  intro k h;have h0:ops[k]? = some o:=by simpa using (h 0).symm
  have ih':=ih (k+1) (fun j=>by have:=h (j+1);simpa [Nat.add_assoc,Nat.add_comm 1 j] using this)
  funext a w;simp only [ZL,List.range'_succ,wpOpsIn,h0,WL,ih'];split
  ·rfl
  ·simp [FR,Fence.wide]
theorem sF {P:Program} {c:Cx} {sl:aD} {hs:List bh} {l:List Oper}
  (h:Tr c D sl hs (WL P r l.toArray Q l)):Tr c D sl hs (WP P r (.region id l.toArray false) Q):=fun a w bj=>by
 unfold WP;refine wpIn_region ?_;rw [List.range_eq_range',show l.toArray.size=l.length from by simp,xG l 0 (by simp)];exact h a w bj
theorem Dy {P:Program} {c:Cx} {sl:aD} {hs:List bh} {x y:Code}
  (h:Tr c D sl hs (WP P r x (Exit.then (WP P r y Q) Q))):Tr c D sl hs (WP P r (.seq x y) Q):=fun a w bj=>wpIn_seq (h a w bj)
theorem HV {P:Program} {c:Cx} {sl:aD} {hs:List bh}
  (h:Tr c D sl hs (Q .normal)):Tr c D sl hs (WL P r ops Q []):=h
theorem MP {c:Cx} {sl:aD} {hs:List bh}
  (h:Tr c D sl hs N):Tr c D sl hs (Exit.then N Q .normal):=h
theorem BC {c:Cx} {sl:aD} {hs:List bh}
  (h:Tr c D sl hs (Q .ret)):Tr c D sl hs (Exit.then N Q .ret):=h
theorem zP {c:Cx} {sl:aD} {hs:List bh}
  (h:Tr c D sl hs (Q (.exit id))):Tr c D sl hs (Exit.then N Q (.exit id)):=h
theorem qj {c:Cx} {sl:aD} {hs:List bh}
  (h:Tr c D sl hs (Q .normal)):Tr c D sl hs (Exit.inBlock id Q .normal):=h
theorem DB {c:Cx} {sl:aD} {hs:List bh}
  (h:Tr c D sl hs (Q .ret)):Tr c D sl hs (Exit.inBlock id Q .ret):=h
theorem BJ {c:Cx} {sl:aD} {hs:List bh}
  (h:Tr c D sl hs (Q .normal)):Tr c D sl hs (Exit.inBlock id Q (.exit id)):=fun a w bj=>by
 simp only [Exit.inBlock,if_true];exact h a w bj
theorem vj {c:Cx} {sl:aD} {hs:List bh} {id Ws:Nat} (hne:Nat.beq Ws id=false)
  (h:Tr c D sl hs (Q (.exit Ws))):Tr c D sl hs (Exit.inBlock id Q (.exit Ws)):=fun a w bj=>by
 have:¬ Ws=id:=fun e=>by subst e;simp at hne
 simp only [Exit.inBlock,this,if_false];exact h a w bj
theorem H3 {P:Program} {c:Cx} {sl:aD} {hs:List bh} {x:Code}
  (h:Tr c D sl hs (WP P r x (Exit.inBlock id Q))):Tr c D sl hs (WP P r (.block id x) Q):=fun a w bj=>wpIn_block (h a w bj)
theorem E1 {P:Program} {c:Cx} {sl:aD} {hs:List bh}
  (h:Tr c D sl hs (Q .normal)):Tr c D sl hs (WP P r .skip Q):=fun a w bj=>wpIn_skip (h a w bj)
theorem MU {P:Program} {c:Cx} {sl:aD} {hs:List bh}
  (h:Tr c D sl hs (Q (.exit id))):Tr c D sl hs (WP P r (.exit id) Q):=fun a w bj=>wpIn_exit (h a w bj)
theorem HU {P:Program} {c:Cx} {sl:aD} {hs:List bh}
  (h:Tr c D sl hs (Q .ret)):Tr c D sl hs (WP P r .ret Q):=fun a w bj=>wpIn_ret (h a w bj)
theorem E4 {P:Program} {c:Cx} {sl:aD} {hs:List bh} {b:Bool} {u v:Code} (hx:Is sl x (.bool b))
  (ht:b=true->Tr c D sl hs (WP P r u Q)) (hf:b=false->Tr c D sl hs (WP P r v Q)):Tr c D sl hs (WP P r (.cond x u v) Q):=fun a w bj=>
 wpIn_cond_split (hx a bj.dh) (fun e=>ht e a w bj) (fun e=>hf e a w bj)
theorem ch {P:Program} {c:Cx} {sl:aD} {hs:List bh} {u v:Code} (hx:Is sl x (.bool true))
  (ht:Tr c D sl hs (WP P r u Q)):Tr c D sl hs (WP P r (.cond x u v) Q):=fun a w bj=>wpIn_cond_true (hx a bj.dh) (ht a w bj)
theorem bJ {P:Program} {c:Cx} {sl:aD} {hs:List bh} {u v:Code} (hx:Is sl x (.bool false))
  (ht:Tr c D sl hs (WP P r v Q)):Tr c D sl hs (WP P r (.cond x u v) Q):=fun a w bj=>wpIn_cond_false (hx a bj.dh) (ht a w bj)
theorem Gu {P:Program} {c:Cx} {sl:aD} {hs:List bh} {p:Prop} {inst:Decidable p} {u v:Code} (hx:Is sl x (.bool (decide p)))
  (ht:p->Tr c D sl hs (WP P r u Q)) (hf:¬ p->Tr c D sl hs (WP P r v Q)):Tr c D sl hs (WP P r (.cond x u v) Q):=
 E4 hx (fun e=>ht (of_decide_eq_true e)) (fun e=>hf (of_decide_eq_false e))
theorem MS {P:Program} {c:Cx} {sl:aD} {hs:List bh} {x:Code} {ι:Type} (Φ:ι->Prop) (sI:ι->aD) (hI:ι->List bh) (μ:ι->Nat)
  (h0:Tr c D sl hs fun a w=>∃ i,Φ i/\St c D (sI i) (hI i) a w)
  (round:∀ i,Φ i->Tr c D (sI i) (hI i) (WP P r x (Exit.then (fun a w=>∃ j,Φ j/\μ j<μ i/\St c D (sI j) (hI j) a w) Q))) :
  Tr c D sl hs (WP P r (.loop x) Q):=fun a w bj=>by
 have key:∀ (n:Nat) i,μ i=n->Φ i->∀ a w,St c D (sI i) (hI i) a w->True:=fun _ _ _ _ _ _ _=>trivial
 -- a measure on Xb: Bn least 'μ i' of aaL QF fit
 let fits:Act->World->Nat->Prop:=fun a w n=>∃ i,Φ i/\μ i=n/\St c D (sI i) (hI i) a w
 have least:∀ a w,(∃ n,fits a w n)->∃ n,fits a w n/\∀ m,fits a w m->n<=m:=by
  intro a w ⟨n,hn⟩
  induction n using Nat.strongRecOn with
  | _ n ih =>
   by_cases h:∃ m,m<n/\fits a w m
   ·obtain ⟨m,hm,hf⟩:=h;exact ih m hm hf
   ·exact ⟨n,hn,fun m hm=>ZaV fun aN=>h ⟨m,aN,hm⟩⟩
 let M:Act->World->Nat:=fun a w=>Classical.epsilon fun n=>fits a w n/\∀ m,fits a w m->n<=m
 have hM:∀ a w,(∃ n,fits a w n)->fits a w (M a w)/\∀ m,fits a w m->M a w<=m:=fun a w h=>Classical.epsilon_spec (least a w h)
 refine wpIn_loop (fun a w=>∃ n,fits a w n) M ?_ ?_
 ·obtain ⟨i,hi,hs⟩:=h0 a w bj;exact ⟨μ i,i,hi,I,hs⟩
 ·intro a w hI;obtain ⟨⟨i,hi,hm,hs⟩,_⟩:=hM a w hI;refine wpIn_mono (round i hi a w hs) fun e a' w' h=>?_;cases e with
  | normal =>
   obtain ⟨j,hj,aN,hs'⟩:=h;have hf:fits a' w' (μ j):=⟨j,hj,I,hs'⟩;exact ⟨⟨_,hf⟩,Nat.lt_of_le_of_lt ((hM a' w' ⟨_,hf⟩).2 _ hf) (by rw [<- hm];exact aN)⟩
  | _=>exact h
theorem mB {P:Program} {w:World} (hg:o.guard=none)
  (h:o.wpIn (FR r) 0 P a w (WL P r ops Q rest) Q):WL P r ops Q (o::rest) a w:=by
 unfold WL;rw [if_pos (by simp [Region.wanted,hg])];exact h
def cM (P:Program) (c:Cx) (sl:aD) (hs:List bh) (o:Oper) (V:Value):Prop:=
 (∀ d,o.op≠.defer d)/\∀ a w,bW sl a->Mem c hs w->(execOp a.eval o).run P w=.ok (.value V) w
theorem ab {P:Program} {c:Cx} {sl:aD} {hs:List bh} {ty:TypeId} {pos:String} {af:Array Edge}
  (hr:cM P c sl hs ⟨some d,op,ty,pos,af,none⟩ V) (hd:Nat.blt d c.nt=true) (k:Tr c D ((d,V)::sl) hs (WL P r ops Q rest)) :
  Tr c D sl hs (WL P r ops Q (⟨some d,op,ty,pos,af,none⟩::rest)):=fun a w bj=>by
 refine mB I ⟨eb _ _ _ _ _,?_⟩;rw [Oper.semAt_eq _ _ _ hr.1,hr.2 a w bj.dh bj.rG];exact k _ _ (bj.put (by simpa [Z1] using hd) V)
theorem lb {j g:Nat} {want c0 q:Bool} {sl:aD} (hg:o.guard=some (j,want)) (hj:((ops[j]?).bind (·.dst))=some g) (hs:bW sl a) (hq:cW sl g=some (gv c0 (.bool q))) :
  Region.wanted o (yielded ops a.tmps)=(c0&&(q==want)):=by
 have ht:=hs _ _ hq;simp only [Region.wanted,hg,yielded,hj,ZbC,ht];cases c0 <;> cases q <;> cases want <;> rfl
theorem E0 {P:Program} {c:Cx} {sl:aD} {hs:List bh} {ty:TypeId} {pos:String} {af:Array Edge}
  {j g:Nat} {want c0 q:Bool} (hj:((ops[j]?).bind (·.dst))=some g) (hq:cW sl g=some (gv c0 (.bool q)))
  (hr:(c0&&(q==want))=true->cM P c sl hs ⟨some d,op,ty,pos,af,some (j,want)⟩ V) (hd:Nat.blt d c.nt=true) (k:Tr c D ((d,gv (c0&&(q==want)) V)::sl) hs (WL P r ops Q rest)) :
  Tr c D sl hs (WL P r ops Q (⟨some d,op,ty,pos,af,some (j,want)⟩::rest)):=fun a w bj=>by
 unfold WL;rw [lb I hj bj.dh hq];by_cases h:(c0&&(q==want))=true
 ·rw [if_pos h];refine ⟨eb _ _ _ _ _,?_⟩;rw [Oper.semAt_eq _ _ _ (hr h).1,(hr h).2 a w bj.dh bj.rG];rw [u3 h] at k;exact k _ _ (bj.put (by simpa [Z1] using hd) V)
 ·rw [if_neg h];rw [wK (by simpa using h)] at k;exact k _ _ (bj.put (by simpa [Z1] using hd) undef)
theorem vh {P:Program} {c:Cx} {sl:aD} {hs:List bh} {ty:TypeId} {pos:String} {af:Array Edge}
  {j g:Nat} {want q:Bool} (hj:((ops[j]?).bind (·.dst))=some g) (hq:cW sl g=some (.bool q))
  (hr:(q==want)=true->cM P c sl hs ⟨some d,op,ty,pos,af,some (j,want)⟩ V) (hd:Nat.blt d c.nt=true) (k:Tr c D ((d,gv (q==want) V)::sl) hs (WL P r ops Q rest)) :
  Tr c D sl hs (WL P r ops Q (⟨some d,op,ty,pos,af,some (j,want)⟩::rest)):=
 E0 (c0:=true) hj (by rw [hq];rfl) (by simpa using hr) hd (by simpa using k)
end Go.SL
namespace Go.SL
open Go
def kG:TypeDesc->Bool
 | .struct _ | .array _ _=>true
 | _=>false
def Pm (P:Program) (t:TypeId):Option (Bool×Nat):=
 match P.underlying t,P.info? t with
 | some d,some i=>some (kG d,i.size)
 | _,_=>none
class Ty (P:Program) (t:TypeId) (agg:outParam Bool) (n:outParam Nat):Prop where
 eq:Pm P t=some (agg,n):=by kernel_rfl
class gJ (P:Program) (t:TypeId) (d:outParam TypeDesc):Prop where
 eq:P.underlying t=some d:=by kernel_rfl
class lQ (P:Program) (t:TypeId) (v:outParam Value):Prop where
 eq:(P.info? t).map (·.zero)=some (some v):=by kernel_rfl
class u9 (P:Program) (t:TypeId) (n:outParam Nat):Prop where
 eq:(P.info? t).map (·.bytes)=some n:=by kernel_rfl
section
variable {P:Program} {w:World} {t:TypeId}
variable {agg:Bool} {n:Nat} {v:Value} {vs:List Value}
theorem Ty.parts [h:Ty P t agg n]:∃ d i,P.underlying t=some d/\P.info? t=some i/\kG d=agg/\i.size=n:=by
 have:=h.eq;unfold Pm at this;split at this
 ·rename_i d i hd hi;cases this;exact ⟨d,i,hd,hi,I,I⟩
 ·cases this
theorem aW {d:TypeDesc} (h:P.underlying t=some d):(underlying t).run P w=.ok d w:=by simp [underlying,h]
theorem fP {i:TypeInfo} (h:P.info? t=some i):(typeInfo t).run P w=.ok i w:=by simp [typeInfo,h]
theorem fK [h:Ty P t agg n]:(sizeOf t).run P w=.ok n w:=by
 obtain ⟨d,i,_,hi,_,hn⟩:=Ty.parts (P:=P) (t:=t);simp [sizeOf,fP hi,hn]
theorem vz [h:Ty P t agg n]:(isAgg t).run P w=.ok agg w:=by
 obtain ⟨d,i,hd,_,ha,_⟩:=Ty.parts (P:=P) (t:=t);unfold isAgg;rw [Sem.run_bind,aW hd,Result.andThen_ok];subst ha;cases d <;> rfl
theorem iI [h:lQ P t v]:(zeroValue t).run P w=.ok v w:=by
 have:=h.eq;cases hi:P.info? t with
 | none=>rw [hi] at this;cases this
 | some i =>
  rw [hi] at this;have hz:i.zero=some v:=by simpa using this
  simp [zeroValue,fP hi,hz]
theorem Ad {a:Addr} (h:w.cell? a=some v) (m:Mode):(load a m).run P w=.ok v w:=by simp [h]
theorem cell_of_block {b:Nat} {cs:Array Value} {E:TypeId} {fz:Nat×Nat} (h:w.heap[b]? = some (.cells cs E fz)) (o:Nat):w.cell? ⟨b,o,none⟩=cs[o]?:=by
 simp [World.cell?,h]
theorem eW (b o n:Nat):Addr.add ⟨b,o,none⟩ n=⟨b,o+n,none⟩:=by
 unfold Addr.add;split
 ·rename_i h;simp [h]
 ·rfl
theorem mL {b o:Nat}:∀ (n i:Nat) (acc:Array Value) (vs:List Value),vs.length=n->(∀ j v,vs[j]? = some v->w.cell? ⟨b,o+(i+j),none⟩=some v) ->
  (loadCellsFrom ⟨b,o,none⟩ i n acc).run P w=.ok (acc++vs.toArray) w
 | 0, i, acc, vs, hl, _ => by
  have:vs=[]:=Zaq.1 hl;subst this;simp [loadCellsFrom]
 | n+1,i,acc,[],hl,_=>by simp at hl
 | n + 1, i, acc, v :: vs, hl, hc => by
  have h0:w.cell? (Addr.add ⟨b,o,none⟩ i)=some v:=by rw [eW];exact hc 0 v I
  simp only [loadCellsFrom,Sem.run_bind,Ad h0,Result.andThen_ok];rw [mL n (i+1) (acc.push v) vs (by simpa using hl) (fun j u hu=>by
   have:=hc (j+1) u (by simpa using hu);rw [show i+1+j=i+(j+1) from by omega];exact this)]
  simp
theorem re {b o n:Nat} (hl:vs.length=n) (hc:∀ j v,vs[j]? = some v->w.cell? ⟨b,o+j,none⟩=some v):(loadCells ⟨b,o,none⟩ n).run P w=.ok vs.toArray w:=by
 unfold loadCells;rw [mL n 0 #[] vs hl (fun j v hv=>by simpa using hc j v hv)]
 simp
theorem tI {b o n:Nat} [Ty P t false n] (hc:w.cell? ⟨b,o,none⟩=some v):(loadVar t ⟨b,o,none⟩).run P w=.ok v w:=by
 unfold loadVar;rw [Sem.run_bind,vz (agg:=false) (n:=n),Result.andThen_ok];simp [hc]
theorem oG {b o n:Nat} [Ty P t true n] (hl:vs.length=n) (hc:∀ j v,vs[j]? = some v->w.cell? ⟨b,o+j,none⟩=some v):(loadVar t ⟨b,o,none⟩).run P w=.ok (.agg vs.toArray) w:=by
 unfold loadVar;rw [Sem.run_bind,vz (agg:=true) (n:=n),Result.andThen_ok];simp only [if_true,Sem.run_bind,fK (t:=t) (agg:=true) (n:=n),Result.andThen_ok,re hl hc,Sem.run_pure]
end
def At (c:Cx) (hs:List bh) (b o:Nat) (v:Value):Prop:=∀ w,Mem c hs w->w.cell? ⟨b,o,none⟩=some v
variable {b:Nat} {cs:List Value} {fz:Nat×Nat} {o:Nat} {v:Value} {vs:List Value}
theorem At.bA {c:Cx} {hs hs':List bh} {cs:Array Value} {E:TypeId} (ht:Take hs (SL.bA b (.cells cs E fz)) hs') (hv:cs[o]? = some v):At c hs b o v:=
 fun w hm=>by rw [cell_of_block (hm.bA ht)];exact hv
theorem At.base {c:Cx} {hs:List bh} (h:c.w0.cell? ⟨b,o,none⟩=some v) (G2:c.md=[]):At c hs b o v:=fun w hm=>by
 have hb:b<c.w0.heap.size:=World.block_lt_of_cell? c.w0 ⟨b,o,none⟩ h;have:=hm.base hb (by rw [G2];simp);rw [<- h];simp [World.cell?,this]
theorem At.C1 {c:Cx} {hs:List bh} (h:c.w0.cell? ⟨b,o,none⟩=some v) (G2:b ∉ c.md):At c hs b o v:=fun w hm=>by
 have hb:b<c.w0.heap.size:=World.block_lt_of_cell? c.w0 ⟨b,o,none⟩ h;have:=hm.base hb G2;rw [<- h];simp [World.cell?,this]
def eO (c:Cx) (hs:List bh) (b o:Nat):List Value->Prop
 | []=>True
 | v::vs=>At c hs b o v/\eO c hs b (o+1) vs
theorem eO.get {c:Cx} {hs:List bh}:∀ {vs:List Value} {o:Nat},eO c hs b o vs->∀ j v,vs[j]? = some v->At c hs b (o+j) v
 | [],_,_,j,v,h=>by simp at h
 | x :: vs, o, ⟨h0, h1⟩, j, v, h => by
  cases j with
  | zero=>simp at h;subst h;exact h0
  | succ j=>have:=eO.get h1 j v (by simpa using h);rwa [show o+1+j=o+(j+1) from by omega] at this
theorem eO.vK {c:Cx} {hs:List bh}:∀ {vs:List Value} {o:Nat},(∀ j v,vs[j]? = some v->At c hs b (o+j) v)->eO c hs b o vs
 | [],_,_=>trivial
 | x::vs,o,h=>⟨h 0 x rfl,eO.vK fun j v hv=>by have:=h (j+1) v (by simpa using hv);rwa [show o+(j+1)=o+1+j from by omega] at this⟩
theorem eO.base {c:Cx} {hs:List bh} (h:∀ (j:Nat) (u:Value),vs[j]? = some u->c.w0.cell? ⟨b,o+j,none⟩=some u) (G2:c.md=[]):eO c hs b o vs:=
 eO.vK fun j u hu=>At.base (h j u hu) G2
def eu:List Value->Nat->Nat->List Value
 | _,_,0=>[]
 | [],_,_+1=>[]
 | v::r,0,n+1=>v::eu r 0 n
 | _::r,o+1,n+1=>eu r o (n+1)
theorem jl:∀ (cs:List Value) (o n:Nat),eu cs o n=(cs.drop o).take n
 | cs,o,0=>by simp [eu]
 | [],o,n+1=>by simp [eu]
 | v::r,0,n+1=>by simp [eu,jl r 0 n]
 | v::r,o+1,n+1=>by simp [eu,jl r o (n+1)]
def uq:List Value->Nat->Option Value
 | [],_=>none
 | v::_,0=>some v
 | _::r,n+1=>uq r n
theorem uU:∀ (cs:List Value) (o:Nat),uq cs o=cs[o]?
 | [],_=>by simp [uq]
 | v::_,0=>by simp [uq]
 | _::r,n+1=>by simp [uq,uU r n]
theorem At.lit {c:Cx} {hs hs':List bh} {E:TypeId} (ht:Take hs (SL.bA b (.cells cs.toArray E fz)) hs') (hv:uq cs o=some v):At c hs b o v:=
 At.bA ht (by rw [uU] at hv;simpa using hv)
theorem eO.bA {c:Cx} {hs hs':List bh} {b o n:Nat} {E:TypeId} (ht:Take hs (SL.bA b (.cells cs.toArray E fz)) hs') (hv:eu cs o n=vs):eO c hs b o vs:=by
 subst hv;refine eO.vK fun j v hv=>At.bA ht ?_;simp only [jl,ZH,Zbg] at hv;split at hv
 ·simpa using hv
 ·cases hv
section
variable {P:Program} {c:Cx} {sl:aD} {hs hs':List bh} {dst:Option Tmp} {ty:TypeId} {pos:String} {af:Array Edge} {g:Option (Nat×Bool)}
variable {a:Int} {agg:Bool} {b i:Int} {k:IntKind} {n:Nat} {op:BinOp} {s:ByteArray} {v:Value} {vs:List Value} {x y:Operand}
theorem aL (hx:Is sl x v):cM P c sl hs ⟨dst,.move x,ty,pos,af,g⟩ v:=
 ⟨by simp,fun a w ha _=>by simp [execOp,hx a ha]⟩
theorem cd (hx:Is sl x v):cM P c sl hs ⟨dst,.assign x,ty,pos,af,g⟩ v:=
 ⟨by simp,fun a w ha _=>by simp [execOp,hx a ha]⟩
theorem uK {x y z:Operand} {q:Bool} {v u:Value} (hx:Is sl x (.bool q)) (hy:Is sl y v) (hz:Is sl z u):cM P c sl hs ⟨dst,.pick x y z,ty,pos,af,g⟩ (bif q then v else u):=
 ⟨by simp,fun a w ha _=>by simp [execOp,hx a ha,hy a ha,hz a ha,asBool,cond_eq_ite]⟩
theorem bE {t:Nat} {p q:Bool} (hx:Is sl x (.bool p)) (hq:cW sl t=some (gv (p==false) (.bool q))) :
  cM P c sl hs ⟨dst,.pick x (.const (.bool true)) (.tmp t),ty,pos,af,g⟩ (.bool (p||q)):=
 ⟨by simp,fun a w ha _=>by
  have h2:=ha.eval hq;simp only [execOp,hx a ha,h2,asBool];cases p <;> simp [gv,Act.eval]⟩
theorem cE {t:Nat} {p q:Bool} (hx:Is sl x (.bool p)) (hq:cW sl t=some (gv (p==true) (.bool q))) :
  cM P c sl hs ⟨dst,.pick x (.tmp t) (.const (.bool false)),ty,pos,af,g⟩ (.bool (p&&q)):=
 ⟨by simp,fun a w ha _=>by
  have h2:=ha.eval hq;simp only [execOp,hx a ha,h2,asBool];cases p <;> simp [gv,Act.eval]⟩
theorem oE {t:Nat} {c0 p q:Bool} (hc:c0=true) (hx:Is sl x (.bool p)) (hq:cW sl t=some (gv (c0&&(p==false)) (.bool q))) :
  cM P c sl hs ⟨dst,.pick x (.const (.bool true)) (.tmp t),ty,pos,af,g⟩ (.bool (p||q)):=bE hx (by rw [hq,hc,Zav])
theorem iJ {t:Nat} {c0 p q:Bool} (hc:c0=true) (hx:Is sl x (.bool p)) (hq:cW sl t=some (gv (c0&&(p==true)) (.bool q))) :
  cM P c sl hs ⟨dst,.pick x (.tmp t) (.const (.bool false)),ty,pos,af,g⟩ (.bool (p&&q)):=cE hx (by rw [hq,hc,Zav])
theorem gX {t u:TypeId} {v u' r:Value} (hx:Is sl x v) (hy:Is sl y u') (hr:∀ w,(do eqGuard op t x y v u';binOp op t v u').run P w=.ok r w) :
  cM P c sl hs ⟨dst,.binOp op t x y u,ty,pos,af,g⟩ r:=
 ⟨by simp,fun a w ha _=>by
  have:=hr w;simp only [Sem.run_bind] at this;simp only [execOp,hx a ha,hy a ha,Sem.run_bind,this,Result.andThen_ok,Sem.run_pure]⟩
theorem fv {t:TypeId} {k k':IntKind} {w:World}:(eqGuard op t x y (.int k a) (.int k' b)).run P w=.ok () w:=by
 unfold eqGuard;split <;> rfl
theorem lB {t:TypeId} {a b:ByteArray} {w:World}:(eqGuard op t x y (.string a) (.string b)).run P w=.ok () w:=by
 unfold eqGuard;split <;> rfl
theorem r7 {t:TypeId} {a b:Bool} {w:World}:(eqGuard op t x y (.bool a) (.bool b)).run P w=.ok () w:=by
 unfold eqGuard;split <;> rfl
def Wj (n:Int):Prop:=-9223372036854775808<=n/\n<=9223372036854775807
theorem IF {t u:TypeId} (hx:Is sl x (.q a)) (hy:Is sl y (.q b)) (hb:Wj (a+b)) :
  cM P c sl hs ⟨dst,.binOp .add t x y u,ty,pos,af,g⟩ (.q (a+b)):=
 gX hx hy fun w=>by simp [fv,binOp,Op.intArith,IntWalk.i64_in _ hb]
theorem Ab {t u:TypeId} (hx:Is sl x (.q a)) (hy:Is sl y (.q b)) (hb:Wj (a-b)) :
  cM P c sl hs ⟨dst,.binOp .sub t x y u,ty,pos,af,g⟩ (.q (a-b)):=
 gX hx hy fun w=>by simp [fv,binOp,Op.intArith,IntWalk.i64_in _ hb]
theorem No {t u:TypeId} (hx:Is sl x (.int k a)) (hy:Is sl y (.int k b)) :
  cM P c sl hs ⟨dst,.binOp .sub t x y u,ty,pos,af,g⟩ (.int k (k.wrap (a-b))):=
 gX hx hy fun w=>by simp [fv,binOp,Op.intArith]
theorem QR {t u:TypeId} (hx:Is sl x (.q a)) (hy:Is sl y (.q b)) (h0:0<=a) (hb:b≠0) :
  cM P c sl hs ⟨dst,.binOp .rem t x y u,ty,pos,af,g⟩ (.q (a % b)):=
 gX hx hy fun w=>by
  simp [fv,binOp,Op.intDiv,hb,Int.tmod_eq_emod_of_nonneg h0]
theorem oF {t u:TypeId} (hx:Is sl x (.int k a)) (hy:Is sl y (.int k b)) :
  cM P c sl hs ⟨dst,.binOp .lss t x y u,ty,pos,af,g⟩ (.bool (decide (a<b))):=
 gX hx hy fun w=>by simp [fv,binOp,Op.intCmp]
theorem mi {t u:TypeId} (hx:Is sl x (.int k a)) (hy:Is sl y (.int k b)) :
  cM P c sl hs ⟨dst,.binOp .leq t x y u,ty,pos,af,g⟩ (.bool (decide (a<=b))):=
 gX hx hy fun w=>by simp [fv,binOp,Op.intCmp]
theorem mj {t u:TypeId} (hx:Is sl x (.int k a)) (hy:Is sl y (.int k b)) :
  cM P c sl hs ⟨dst,.binOp .gtr t x y u,ty,pos,af,g⟩ (.bool (decide (b<a))):=
 gX hx hy fun w=>by simp [fv,binOp,Op.intCmp]
theorem Af {t u:TypeId} (hx:Is sl x (.int k a)) (hy:Is sl y (.int k b)) :
  cM P c sl hs ⟨dst,.binOp .geq t x y u,ty,pos,af,g⟩ (.bool (decide (b<=a))):=
 gX hx hy fun w=>by simp [fv,binOp,Op.intCmp]
theorem fR {t u:TypeId} (hx:Is sl x (.int k a)) (hy:Is sl y (.int k b)) :
  cM P c sl hs ⟨dst,.binOp .eql t x y u,ty,pos,af,g⟩ (.bool (decide (a=b))):=
 gX hx hy fun w=>by simp [fv,binOp,Op.intCmp];rfl
theorem eE {t u:TypeId} (hx:Is sl x (.int k a)) (hy:Is sl y (.int k b)) :
  cM P c sl hs ⟨dst,.binOp .neq t x y u,ty,pos,af,g⟩ (.bool (decide (a≠b))):=
 gX hx hy fun w=>by simp [fv,binOp,Op.intCmp];rfl
theorem fC {t:TypeId} {b:Bool} (hx:Is sl x (.bool b)):cM P c sl hs ⟨dst,.unOp .not t x,ty,pos,af,g⟩ (.bool (!b)):=
 ⟨by simp,fun a w ha _=>by simp [execOp,hx a ha,Op.unary]⟩
theorem uH (a b:ByteArray):(a.toList==b.toList)=decide (a=b):=by
 rw [ByteArray.toList_eq,ByteArray.toList_eq,ZaS];simp only [beq_iff_eq,decide_eq_true_eq];constructor
 ·intro h;cases a;cases b;simp at h;rw [h]
 ·intro h;rw [h]
theorem eR {t u:TypeId} {a b:ByteArray} (hx:Is sl x (.string a)) (hy:Is sl y (.string b)) :
  cM P c sl hs ⟨dst,.binOp .eql t x y u,ty,pos,af,g⟩ (.bool (decide (a=b))):=
 gX hx hy fun w=>by simp [lB,binOp,Op.stringOp,uH]
theorem jv {t u:TypeId} {a b:ByteArray} (hx:Is sl x (.string a)) (hy:Is sl y (.string b)) :
  cM P c sl hs ⟨dst,.binOp .neq t x y u,ty,pos,af,g⟩ (.bool (decide (a≠b))):=
 gX hx hy fun w=>by simp [lB,binOp,Op.stringOp,uH]
theorem sN {t u:TypeId} {a b:ByteArray} (hx:Is sl x (.string a)) (hy:Is sl y (.string b)) (hb:a.size+b.size<=9223372036854775807) :
  cM P c sl hs ⟨dst,.binOp .add t x y u,ty,pos,af,g⟩ (.string (a++b)):=
 gX hx hy fun w=>by
  simp [lB,binOp,Op.stringOp];omega
theorem ag {t:TypeId} {b o:Nat} [Ty P t false n] (hx:Is sl x (.pointer (some ⟨b,o,none⟩))) (hv:At c hs b o v) :
  cM P c sl hs ⟨dst,.load t x,ty,pos,af,g⟩ v:=
 ⟨by simp,fun a w ha hm=>by simp [execOp,hx a ha,Instr.loadAt,Instr.sureAddr,tI (hv w hm)]⟩
theorem iw {t:TypeId} {b o:Nat} [Ty P t true n] (hx:Is sl x (.pointer (some ⟨b,o,none⟩))) (hv:eO c hs b o vs) (hl:vs.length=n) :
  cM P c sl hs ⟨dst,.load t x,ty,pos,af,g⟩ (.agg vs.toArray):=
 ⟨by simp,fun a w ha hm=>by simp [execOp,hx a ha,Instr.loadAt,Instr.sureAddr,oG hl (fun j v h=>hv.get j v h w hm)]⟩
def CK (P:Program) (t:TypeId) (i:Nat):Option Nat:=
 match P.underlying t with
 | some (.struct fs) => match fs[i]? with
  | some f => match P.info? f.type with
   | some fi=>if fi.size=0 then none else some f.offset
   | none=>none
  | none=>none
 | _=>none
class ef (P:Program) (t:TypeId) (i:Nat) (o:outParam Nat):Prop where
 eq:CK P t i=some o:=by kernel_rfl
theorem ef.parts {t:TypeId} {i o:Nat} [h:ef P t i o]:∃ fs f fi,P.underlying t=some (.struct fs)/\fs[i]? = some f/\P.info? f.type=some fi/\fi.size≠0/\f.offset=o:=by
 have:=h.eq;unfold CK at this;split at this
 ·rename_i fs YM;split at this
  ·rename_i f hf;split at this
   ·rename_i fi WW;split at this
    ·cases this
    ·rename_i hz;cases this;exact ⟨fs,f,fi,YM,hf,WW,hz,I⟩
   ·cases this
  ·cases this
 ·cases this
theorem ai {t:TypeId} {i o:Nat} {b k q:Nat} [ef P t i o] (hx:Is sl x (.pointer (some ⟨b,k,none⟩))) (he:k+o=q) :
  cM P c sl hs ⟨dst,.fieldAddr t x i,ty,pos,af,g⟩ (.pointer (some ⟨b,q,none⟩)):=
 ⟨by simp,fun a w ha _=>by
  subst he;obtain ⟨fs,f,fi,h1,h2,h3,h4,h5⟩:=ef.parts (P:=P) (t:=t) (i:=i);simp only [execOp,hx a ha,Instr.fieldAt,Sem.run_bind,aW h1,Result.andThen_ok,h2,Instr.sureAddr,Sem.run_pure,fieldPlace,sizeOf,fP h3,h4,if_false,eW,h5]⟩
def partOf (agg:Bool) (n:Nat) (cs:List Value) (o:Nat):Option Value:=
 bif agg then some (.agg (eu cs o n).toArray) else uq cs o
theorem Np {t:TypeId} [Ty P t agg n] {cs:List Value} {o:Nat} {v:Value} {w:World} (h:partOf agg n cs o=some v):(part t cs.toArray o).run P w=.ok v w:=by
 unfold part;rw [Sem.run_bind,vz (agg:=agg) (n:=n),Result.andThen_ok];cases agg with
 | true =>
  simp only [partOf,cond_true,Option.some.injEq] at h;simp only [if_true,Sem.run_bind,fK (t:=t) (agg:=true) (n:=n),Result.andThen_ok,Sem.run_pure,<- h,jl];congr 2;simp [List.extract_eq_take_drop]
 | false =>
  simp only [partOf,cond_false,uU] at h;simp [h]
def fieldInfo (P:Program) (t:TypeId) (i:Nat):Option (Nat×TypeId):=
 match P.underlying t with
 | some (.struct fs)=>(fs[i]?).map fun f=>(f.offset,f.type)
 | _=>none
class FTy (P:Program) (t:TypeId) (i:Nat) (o:outParam Nat) (ft:outParam TypeId):Prop where
 eq:fieldInfo P t i=some (o,ft):=by kernel_rfl
theorem Ca {t ft:TypeId} {i o n:Nat} {cs:List Value} [h:FTy P t i o ft] [Ty P ft agg n] (hx:Is sl x (.agg cs.toArray)) (hv:partOf agg n cs o=some v) :
  cM P c sl hs ⟨dst,.field t x i,ty,pos,af,g⟩ v:=
 ⟨by
   simp,fun a w ha _=>by
  have h1:=h.eq;unfold fieldInfo at h1;split at h1
  ·rename_i fs YM;obtain ⟨f,hf,he⟩:=Zak.1 h1;simp only [Prod.mk.injEq] at he;obtain ⟨e1,e2⟩:=he;subst e1;subst e2;simp only [execOp,hx a ha,Instr.field,Sem.run_bind,aW YM,Result.andThen_ok,hf,asAgg,Sem.run_pure,Np (agg:=agg) (n:=n) hv]
  ·cases h1⟩
theorem aC {t e:TypeId} {a0:Option Addr} {b o len cap q:Nat} [hu:gJ P t (.slice e)] [Ty P e agg n] (hx:Is sl x (.slice a0 len cap)) (hy:Is sl y (.int k i))
  (ha:a0=some ⟨b,o,none⟩) (h0:0<=i) (h1:i<len) (he:o+i.toNat*n=q):cM P c sl hs ⟨dst,.indexAddr t x y,ty,pos,af,g⟩ (.pointer (some ⟨b,q,none⟩)):=
 ⟨by simp,fun a w ss _=>by
  subst he;subst ha;simp [execOp,hx a ss,hy a ss,Instr.indexAt,asIntOf,aW hu.eq,h0,h1,fK (agg:=agg) (n:=n),eW]⟩
theorem eQ {t e:TypeId} {n len:Nat} {b o q:Nat} [hu:gJ P t (.array len e)] [Ty P e agg n] (hx:Is sl x (.pointer (some ⟨b,o,none⟩))) (hy:Is sl y (.int k i))
  (h0:0<=i) (h1:i<len) (he:o+i.toNat*n=q):cM P c sl hs ⟨dst,.indexAddr t x y,ty,pos,af,g⟩ (.pointer (some ⟨b,q,none⟩)):=
 ⟨by simp,fun a w ha _=>by
  subst he;simp [execOp,hx a ha,hy a ha,Instr.indexAt,Instr.sureAddr,asIntOf,aW hu.eq,h0,h1,fK (agg:=agg) (n:=n),eW]⟩
theorem pK {t:TypeId} [hu:gJ P t .string] (hx:Is sl x (.string s)) (hy:Is sl y (.int k i))
  (h0:0<=i) (h1:i<s.size):cM P c sl hs ⟨dst,.index t x y,ty,pos,af,g⟩ (.int .u8 ((s.data.toList[i.toNat]?.getD 0).toNat:Nat)):=
 ⟨by
   simp,fun a w ha _=>by
  have aN:i.toNat<s.size:=by omega
  have hs:s[i.toNat]? = some s[i.toNat]:=getElem?_pos s i.toNat aN;have hd:s.data.toList[i.toNat]?.getD 0=s[i.toNat]:=by
   rw [ZaG,show s.data[i.toNat]? = some s.data[i.toNat] from ZaC aN]
   rfl
  simp [execOp,hx a ha,hy a ha,Instr.index,asIntOf,aW hu.eq,h0,hs,<- hd]⟩
theorem B9 {f:Fn} {first captured:Array Operand} {vs us:Array Value} (h1:∀ a,bW sl a->first.map a.eval=vs) (h2:∀ a,bW sl a->captured.map a.eval=us) :
  cM P c sl hs ⟨dst,.makeFunc f first captured,ty,pos,af,g⟩ (.func f vs us):=
 ⟨by simp,fun a w ha _=>by simp [execOp,h1 a ha,h2 a ha,Instr.makeFunc]⟩
theorem cC {i:Nat} (hx:Is sl x (.tuple vs.toArray)) (hv:uq vs i=some v):cM P c sl hs ⟨dst,.extract x i,ty,pos,af,g⟩ v:=
 ⟨by simp,fun a w ha _=>by simp [execOp,hx a ha,Instr.extract,<- uU,hv]⟩
theorem IE {t:TypeId} {parts:Array (Nat×Operand)} {ps:Array (Nat×Value)} (hp:∀ a,bW sl a->(parts.map fun (i,x)=>(i,a.eval x))=ps) (hb:∀ w,(Instr.build t ps).run P w=.ok v w) :
  cM P c sl hs ⟨dst,.build t parts,ty,pos,af,g⟩ v:=
 ⟨by simp,fun a w ha _=>by simp only [execOp,hp a ha,Sem.run_bind,hb w,Result.andThen_ok,Sem.run_pure]⟩
theorem bz {t:TypeId} {e:TypeId} {b:Option Addr} {n cap:Nat} [hu:gJ P t (.slice e)] (hx:Is sl x (.slice b n cap)) :
  cM P c sl hs ⟨dst,.call ⟨.builtin .len,#[x],#[t]⟩,ty,pos,af,g⟩ (.q n):=
 ⟨by simp,fun a w ha _=>by simp [execOp,hx a ha,resolve,invoke,builtin,Builtin.len_,aW hu.eq,goInt]⟩
theorem gT {t:TypeId} [hu:gJ P t .string] (hx:Is sl x (.string s)) :
  cM P c sl hs ⟨dst,.call ⟨.builtin .len,#[x],#[t]⟩,ty,pos,af,g⟩ (.q s.size):=
 ⟨by simp,fun a w ha _=>by simp [execOp,hx a ha,resolve,invoke,builtin,Builtin.len_,aW hu.eq,goInt]⟩
theorem Nr {t u:TypeId} {k k':IntKind} {n:Int} [ht:gJ P t (.int k')] [hu:gJ P u (.int k)] (hx:Is sl x (.int k' n)) :
  cM P c sl hs ⟨dst,.convert t u x,ty,pos,af,g⟩ (.int k (k.wrap n)):=
 ⟨by simp,fun a w ha _=>by simp [execOp,hx a ha,convert,aW ht.eq,aW hu.eq,Conv.intToInt]⟩
end
end Go.SL
namespace Go.Proofs.A1
open Go Go.SL
structure Wn where
 n:Nat
 ca:Nat->Bool
 fe:Nat->Bool
 fr:Nat->Int
 to:Nat->Int
 zu:Int
def Wn.fin (N:Wn) (p:List Nat):Int:=match p.getLast? with | none=>N.zu | some j=>N.to j
def Wn.step (N:Wn) (p:List Nat) (j:Nat):Bool:=decide (j<N.n)&&(!p.contains j&&((p.isEmpty&&N.ca j)||(N.fe j&&decide (N.fr j=N.fin p))))
def Wn.ok (N:Wn) (p:List Nat):Prop:=∀ k (h:k<p.length),N.step (p.take k) p[k]=true
theorem Wn.lA (N:Wn) (p:List Nat) (j:Nat):N.fin (p++[j])=N.to j:=by unfold Wn.fin;rw [List.getLast?_append];rfl
theorem Wn.qD (N:Wn):N.ok []:=fun k h=>absurd h (ZW k)
variable {d:Int} {j:Nat} {p q x:List Nat}
theorem Wn.jB {N:Wn}:N.ok (p++[j])↔N.ok p/\N.step p j=true:=by
 constructor
 ·intro h;constructor
  ·intro k hk;have:=h k (by rw [Zg];omega);rwa [Zad (by omega),Zac hk] at this
  ·have:=h p.length (by rw [Zg];simp);rwa [Zad (ZC _),Zal (ZC _),Zag (ZC _),List.getElem_singleton] at this
 ·rintro ⟨h1,h2⟩ k hk;rw [Zg] at hk;by_cases hl:k<p.length
  ·rw [Zad (by omega),Zac hl];exact h1 k hl
  ·obtain rfl:k=p.length:=by simp at hk;omega
   rw [Zad (ZC _),Zal (ZC _),Zag (ZC _),List.getElem_singleton];exact h2
theorem Wn.Fv {N:Wn} (h:N.ok p) (k:Nat):N.ok (p.take k):=by
 intro i hi;rw [Zs] at hi;have:=h i (by omega);rwa [List.take_take,Zbk (by omega),ZaE]
theorem Wn.vI {N:Wn} (h:N.ok p) (hp:q <+: p):N.ok q:=by
 rw [List.prefix_iff_eq_take.1 hp];exact Wn.Fv h _
theorem Wn.pH {N:Wn} (h:N.step p j=true):j<N.n:=by
 unfold Wn.step at h;simp only [Zm,decide_eq_true_eq] at h;exact h.1
theorem Wn.vn {N:Wn} (h:N.step p j=true):j ∉ p:=by
 unfold Wn.step at h;simp only [Zm,ZaP,List.contains_eq_mem,decide_eq_false_iff_not] at h;exact h.2.1
theorem Wn.rD {N:Wn} (h:N.ok p):p.Nodup:=by
 have key:∀ k,k<=p.length->(p.take k).Nodup:=by
  intro k
  induction k with
  | zero=>intro _;rw [Ze];exact Zah
  | succ k ih =>
   intro hk;rw [Zn (by omega),Zx];refine ⟨ih (by omega),by simp,?_⟩;intro a ha b hb;rw [ZB] at hb;subst hb;intro e;subst e;exact Wn.vn (h k (by omega)) ha
 have:=key p.length (ZC _);rwa [Zal (ZC _)] at this
theorem Wn.OG (N:Wn):N.fin []=N.zu:=rfl
def Wn.uv (N:Wn) (p:List Nat):Nat:=p.countP N.fe
def lexB:List Nat->List Nat->Bool
 | x::a,y::b=>decide (x<y)||(decide (x=y)&&lexB a b)
 | _,_=>false
theorem oN:∀ a,lexB a a=false
 | []=>rfl
 | x::a=>by rw [lexB,oN a];simp
theorem qF:∀ {a b c:List Nat},lexB a b=true->lexB b c=true->lexB a c=true
 | [],_,_,h,_=>by cases h
 | _::_,[],_,h,_=>by cases h
 | _::_,_::_,[],_,h=>by cases h
 | x :: a, y :: b, z :: c, h1, h2 => by
  rw [lexB] at h1 h2 ⊢;simp only [ZP,Zm,decide_eq_true_eq] at h1 h2 ⊢;rcases h1 with h1 | ⟨h1,Dn⟩ <;> rcases h2 with h2 | ⟨h2,Hb⟩
  ·exact .inl (by omega)
  ·exact .inl (by omega)
  ·exact .inl (by omega)
  ·exact .inr ⟨by omega,qF Dn Hb⟩
theorem qG:∀ {a b:List Nat},a.length=b.length->a≠b->lexB a b=true\/lexB b a=true
 | [],[],_,h=>absurd rfl h
 | [],_::_,h,_=>by cases h
 | _::_,[],h,_=>by cases h
 | x :: a, y :: b, hl, h => by
  rw [lexB,lexB];simp only [ZP,Zm,decide_eq_true_eq];by_cases e:x=y
  ·subst e;rcases qG (a:=a) (b:=b) (by simpa using hl) (fun e=>h (by rw [e])) with h | h
   ·exact .inl (.inr ⟨I,h⟩)
   ·exact .inr (.inr ⟨I,h⟩)
  ·rcases Nat.lt_or_gt_of_ne e with h | h
   ·exact .inl (.inl h)
   ·exact .inr (.inl h)
def Wn.lt (N:Wn) (a b:List Nat):Bool:=decide (N.uv a<N.uv b)||(decide (N.uv a=N.uv b)&&(decide (a.length<b.length)||(decide (a.length=b.length)&&lexB a b)))
theorem Wn.lt_irrefl (N:Wn) (a:List Nat):N.lt a a=false:=by unfold Wn.lt;rw [oN];simp
theorem Wn.lt_trans {N:Wn} {a b c:List Nat} (h1:N.lt a b=true) (h2:N.lt b c=true):N.lt a c=true:=by
 unfold Wn.lt at *;simp only [ZP,Zm,decide_eq_true_eq] at *;rcases h1 with h1 | ⟨h1,h1 | ⟨Dn,aaq⟩⟩ <;> rcases h2 with h2 | ⟨h2,h2 | ⟨Hb,aao⟩⟩
 ·exact .inl (by omega)
 ·exact .inl (by omega)
 ·exact .inl (by omega)
 ·exact .inl (by omega)
 ·exact .inr ⟨by omega,.inl (by omega)⟩
 ·exact .inr ⟨by omega,.inl (by omega)⟩
 ·exact .inl (by omega)
 ·exact .inr ⟨by omega,.inl (by omega)⟩
 ·exact .inr ⟨by omega,.inr ⟨by omega,qF aaq aao⟩⟩
theorem Wn.Cq {N:Wn} {a b:List Nat} (h:a≠b):N.lt a b=true\/N.lt b a=true:=by
 unfold Wn.lt;simp only [ZP,Zm,decide_eq_true_eq];rcases Zao (N.uv a) (N.uv b) with h1 | h1 | h1
 ·exact .inl (.inl h1)
 ·rcases Zao a.length b.length with h2 | h2 | h2
  ·exact .inl (.inr ⟨h1,.inl h2⟩)
  ·rcases qG h2 h with h3 | h3
   ·exact .inl (.inr ⟨h1,.inr ⟨h2,h3⟩⟩)
   ·exact .inr (.inr ⟨h1.symm,.inr ⟨h2.symm,h3⟩⟩)
  ·exact .inr (.inr ⟨h1.symm,.inl h2⟩)
 ·exact .inr (.inl h1)
theorem Wn.J8 {N:Wn} (h:q <+: p):q=p\/N.lt q p=true:=by
 obtain ⟨r,rfl⟩:=h;cases r with
 | nil=>exact .inl (ZQ q).symm
 | cons x r =>
  refine .inr ?_;unfold Wn.lt Wn.uv;simp only [ZP,Zm,decide_eq_true_eq];rw [List.countP_append,Zg,ZL];by_cases h0:List.countP N.fe (x::r)=0
  ·exact .inr ⟨by omega,.inl (by omega)⟩
  ·exact .inl (by omega)
def Wn.least (N:Wn) (d:Int) (p:List Nat):Prop:=N.ok p/\N.fin p=d/\∀ q,N.ok q->N.fin q=d->N.lt q p=false
theorem Wn.vS {N:Wn} (hp:N.least d p) (hq:N.least d q):p=q:=by
 by_cases h:p=q
 ·exact h
 ·rcases Wn.Cq (N:=N) h with h | h
  ·rw [hq.2.2 p hp.1 hp.2.1] at h;cases h
  ·rw [hp.2.2 q hq.1 hq.2.1] at h;cases h
def Wn.all (N:Wn) (d:Int):Nat->List Nat->List (List Nat)
 | 0,_=>[]
 | k+1,p=>(if N.fin p=d then [p] else [])++((List.range N.n).filter (N.step p)).flatMap fun j=>N.all d k (p++[j])
theorem Wn.AB {N:Wn}:∀ {k:Nat} {p:List Nat},N.ok p->q∈N.all d k p->N.ok q/\N.fin q=d
 | 0,_,_,h=>by cases h
 | k + 1, p, ho, h => by
  rw [Wn.all,Zq] at h;rcases h with h | h
  ·split at h
   ·rw [ZB] at h;subst h;exact ⟨ho,‹_›⟩
   ·cases h
  ·obtain ⟨j,hj,h⟩:=List.mem_flatMap.1 h;exact Wn.AB (Wn.jB.2 ⟨ho,(ZA.1 hj).2⟩) h
theorem Wn.Bg {N:Wn}:∀ {k:Nat} {p r:List Nat},N.ok (p++r)->N.fin (p++r)=d->r.length<k->p++r∈N.all d k p
 | 0,_,_,_,_,h=>absurd h (ZW _)
 | k + 1, p, [], ho, hf, _ => by
  rw [ZQ] at *;rw [Wn.all,if_pos hf];simp
 | k + 1, p, j :: r, ho, hf, hk => by
  have e:p++j::r=(p++[j])++r:=by simp
  rw [e] at ho hf ⊢;have h1:=Wn.vI ho (ZaL (p++[j]) r);have h2:=(Wn.jB.1 h1).2;rw [Wn.all,Zq];refine .inr (List.mem_flatMap.2 ⟨j,ZA.2 ⟨ZU.2 (Wn.pH h2),h2⟩,?_⟩);exact Wn.Bg ho hf (by rw [ZL] at hk;omega)
def Wn.Tj (N:Wn) (x:List Nat):List Nat:=(List.range N.n).filter (N.step x)
def Wn.exts (N:Wn) (x:List Nat):List (List Nat):=(N.Tj x).map fun j=>x++[j]
structure Wn.Inv (N:Wn) (d:Int) (Q:List (List Nat)):Prop where
 ok:∀ q∈Q,N.ok q/\q≠[]
 cover:∀ p,N.ok p->N.fin p=d->∃ q∈Q,q <+: p
theorem Wn.GV {N:Wn} (h:N.zu≠d) {Q:List (List Nat)} (hQ:∀ q,q∈Q↔q∈N.exts []):N.Inv d Q:=by
 constructor
 ·intro q hq;obtain ⟨j,hj,rfl⟩:=Zw.1 ((hQ q).1 hq);exact ⟨Wn.jB.2 ⟨N.qD,(ZA.1 hj).2⟩,by simp⟩
 ·intro p hp hf;cases p with
  | nil=>exact absurd hf h
  | cons j r =>
   have h1:N.ok ([]++[j]):=Wn.vI hp ⟨r,I⟩;have h2:=(Wn.jB.1 h1).2;exact ⟨[j],(hQ _).2 (Zw.2 ⟨j,ZA.2 ⟨ZU.2 (Wn.pH h2),h2⟩,I⟩),⟨r,I⟩⟩
theorem Wn.GU {N:Wn} {Q:List (List Nat)} (h:N.Inv d Q) (hx:x∈Q) (hm:∀ q∈Q,N.lt q x=false) (hf:N.fin x=d):N.least d x:=by
 refine ⟨(h.ok x hx).1,hf,fun q hq hfq=>?_⟩;obtain ⟨c,hc,hp⟩:=h.cover q hq hfq;have h0:=hm c hc;rcases Wn.J8 (N:=N) hp with e | e
 ·rwa [<- e]
 ·cases hb:N.lt q x with
  | false=>rfl
  | true=>rw [Wn.lt_trans e hb] at h0;exact h0
theorem Wn.Km {N:Wn} {Q R:List (List Nat)} (h:N.Inv d Q) (hQ:∀ q,q∈Q↔q=x\/q∈R) (hf:N.fin x≠d):N.Inv d (R++N.exts x):=by
 have hx:=h.ok x ((hQ x).2 (.inl I));constructor
 ·intro q hq;rcases Zq.1 hq with hq | hq
  ·exact h.ok q ((hQ q).2 (.inr hq))
  ·obtain ⟨j,hj,rfl⟩:=Zw.1 hq;exact ⟨Wn.jB.2 ⟨hx.1,(ZA.1 hj).2⟩,by simp⟩
 ·intro p hp G5;obtain ⟨c,hc,r,rfl⟩:=h.cover p hp G5;rcases (hQ c).1 hc with rfl | hc
  ·cases r with
   | nil=>rw [ZQ] at G5;exact absurd G5 hf
   | cons j r =>
    have e:c++j::r=(c++[j])++r:=by simp
    rw [e] at hp ⊢;have h2:=(Wn.jB.1 (Wn.vI hp (ZaL (c++[j]) r))).2;exact ⟨c++[j],Zq.2 (.inr (Zw.2 ⟨j,ZA.2 ⟨ZU.2 (Wn.pH h2),h2⟩,I⟩)),⟨r,I⟩⟩
  ·exact ⟨c,Zq.2 (.inl hc),⟨r,I⟩⟩
theorem Wn.Kl {N:Wn} (h:N.Inv d []):∀ p,N.ok p->N.fin p≠d:=fun p hp hf=>by
 obtain ⟨q,hq,_⟩:=h.cover p hp hf;cases hq
theorem lf:∀ (n:Nat) (l:List Nat),l.Nodup->(∀ x∈l,x<n)->l.length<=n
 | 0, l, _, h => by
  cases l with
  | nil=>exact ZC _
  | cons x l=>exact absurd (h x (by simp)) (ZW _)
 | n + 1, l, hn, h => by
  have:=lf n (l.erase n) (hn.erase n) fun x hx=>by
   have h1:=h x (List.mem_of_mem_erase hx);have h2:=(List.Nodup.mem_erase_iff hn).1 hx;omega
  by_cases hm:n∈l
  ·rw [ZaH hm] at this;omega
  ·rw [List.erase_of_not_mem hm] at this;omega
theorem Wn.vJ {N:Wn} (h:N.ok p):∀ x∈p,x<N.n:=by
 intro x hx;obtain ⟨k,hk,rfl⟩:=Zu hx;exact Wn.pH (h k hk)
theorem Wn.sP {N:Wn} (h:N.ok p):p.length<=N.n:=lf _ _ (Wn.rD h) (Wn.vJ h)
theorem Wn.NJ {N:Wn} (h:N.ok x):x.length+(N.Tj x).length<=N.n:=by
 rw [<- Zg];refine lf _ _ ?_ ?_
 ·rw [Zx];refine ⟨Wn.rD h,(Zbu).filter _,?_⟩;intro a ha b hb e;subst e;exact Wn.vn (ZA.1 hb).2 ha
 ·intro y hy;rcases Zq.1 hy with hy | hy
  ·exact Wn.vJ h y hy
  ·exact ZU.1 (ZA.1 hy).1
def qi:Nat->Nat
 | 0=>1
 | m+1=>1+(m+1)*qi m
theorem yu:∀ m,1<=qi m
 | 0=>ZC _
 | m+1=>by rw [qi];omega
def Wn.wt (N:Wn):List (List Nat)->Nat
 | []=>0
 | q::Q=>qi (N.n-q.length)+N.wt Q
theorem Wn.yo (N:Wn):∀ A B,N.wt (A++B)=N.wt A+N.wt B
 | [],B=>by rw [Za,Wn.wt,ZE]
 | q::A,B=>by rw [Zb,Wn.wt,Wn.wt,Wn.yo N A B,Nat.add_assoc]
theorem Wn.EW {N:Wn} {A B:List (List Nat)} (h:A.Perm B):N.wt A=N.wt B:=by
 induction h with
 | nil=>rfl
 | cons x _ ih=>rw [Wn.wt,Wn.wt,ih]
 | swap x y l=>rw [Wn.wt,Wn.wt,Wn.wt,Wn.wt];omega
 | trans _ _ h1 h2=>rw [h1,h2]
theorem Wn.HF (N:Wn):∀ Q:List (List Nat),Q.length<=N.wt Q
 | []=>ZC _
 | q::Q=>by rw [Wn.wt,ZL];have:=N.HF Q;have:=yu (N.n-q.length);omega
theorem Wn.Ds (N:Wn) (x:List Nat):∀ l:List Nat,N.wt (l.map fun j=>x++[j])=l.length*qi (N.n-(x.length+1))
 | []=>by rw [Zf,Wn.wt,Zan,Zbn]
 | j :: l => by
  rw [Zaf,Wn.wt,N.Ds x l,Zg,show (j::l).length=l.length+1 from I,Zaj];show qi (N.n-(x.length+1))+_=_;omega
theorem Wn.MH {N:Wn} (h:N.ok x):N.wt (N.exts x)<qi (N.n-x.length):=by
 unfold Wn.exts;rw [Wn.Ds];have hf:=Wn.NJ h;by_cases h0:(N.Tj x).length=0
 ·rw [h0,Zbn];exact yu _
 ·obtain ⟨m,hm⟩:∃ m,N.n-x.length=m+1:=⟨N.n-x.length-1,by omega⟩;rw [hm,show N.n-(x.length+1)=m by omega,qi];have:=Z9 (qi m) (show (N.Tj x).length<=m+1 by omega);omega
end Go.Proofs.A1
namespace Go.Proofs.A1
def bT (h:Bool) (e:Int):Int:=bif h then e else 0
theorem bC {h:Bool} {e:Int} (he:e≠0):bT h e=0↔h=false:=by cases h <;> simp [bT,he]
def gC (n l m:Int):Int:=bT (decide (n<l)||decide (m<n)) 3
theorem gB {n l m:Int}:gC n l m=0↔l<=n/\n<=m:=by
 unfold gC;rw [bC (by decide)];simp
def ba:List Int->Int
 | []=>0
 | e::r=>if e≠0 then e else ba r
theorem bP:∀ {l:List Int},ba l=0↔∀ e∈l,e=0
 | []=>by simp [ba]
 | e :: r => by
  unfold ba;by_cases h:e=0
  ·simp [h,bP (l:=r)]
  ·simp [h]
variable {f:Nat->Int} {k n:Nat} {s:ByteArray}
theorem tg {es:List Int} (h:k<es.length):ba (es.drop k)=if es[k]≠0 then es[k] else ba (es.drop (k+1)):=by
 rw [List.drop_eq_getElem_cons h];rfl
def qM (f:Nat->Int):Nat->Nat->Int
 | _,0=>0
 | k,n+1=>if f k≠0 then f k else qM f (k+1) n
def jK (f:Nat->Int) (n:Nat):Int:=qM f 0 n
theorem zm {f:Nat->Int}:∀ {n k:Nat},qM f k n=0↔∀ i,k<=i->i<k+n->f i=0
 | 0,k=>by simp only [qM,true_iff];intro i h1 h2;omega
 | n + 1, k => by
  unfold qM;by_cases h:f k=0
  ·rw [if_neg (by simpa using h),zm];constructor
   ·intro g i h1 h2;by_cases e:i=k
    ·rw [e];exact h
    ·exact g i (by omega) (by omega)
   ·intro g i h1 h2;exact g i (by omega) (by omega)
  ·rw [if_pos h];constructor
   ·intro e;exact absurd e h
   ·intro g;exact absurd (g k (Nat.le_refl _) (by omega)) h
theorem dC :jK f n=0↔∀ i,i<n->f i=0:=by
 unfold jK;rw [zm];constructor
 ·intro g i h;exact g i (Nat.zero_le _) (by omega)
 ·intro g i _ h;exact g i (by omega)
theorem wO {f:Nat->Int}:∀ {n k j:Nat},(∀ i,k<=i->i<j->f i=0)->k<=j->j<k+n->f j≠0->qM f k n=f j
 | 0,k,j,_,h1,h2,_=>by omega
 | n + 1, k, j, h, h1, h2, h3 => by
  unfold qM;by_cases e:k=j
  ·subst e;rw [if_pos h3]
  ·rw [if_neg (by simpa using h k (Nat.le_refl _) (by omega))];exact wO (fun i h4 h5=>h i (by omega) h5) (by omega) (by omega) h3
theorem fj {n j:Nat} (h:∀ i,i<j->f i=0) (hj:j<n) (hn:f j≠0):jK f n=f j:=
 wO (fun i _ h2=>h i h2) (Nat.zero_le _) (by omega) hn
theorem EA {f g:Nat->Int} (h:∀ j,j<n->(∀ i,i<j->f i=0)->f j=g j):jK f n=jK g n:=by
 by_cases hf:∀ i,i<n->f i=0
 ·rw [dC.2 hf];symm;refine dC.2 fun i hi=>?_;rw [<- h i hi fun k hk=>hf k (by omega)]
  exact hf i hi
 ·have:∃ j,j<n/\f j≠0/\∀ i,i<j->f i=0:=by
   apply Classical.byContradiction;intro hc;apply hf;intro i
   induction i using Nat.strongRecOn with
   | _ i ih =>
    intro hi;apply Classical.byContradiction;intro hne;exact hc ⟨i,hi,hne,fun k hk=>ih k hk (by omega)⟩
  obtain ⟨j,hj,hne,hb⟩:=this;rw [fj hb hj hne,h j hj hb];symm;have he:=h j hj hb;refine fj (fun i hi=>?_) hj (by rw [<- he];exact hne);rw [<- h i (by omega) fun k hk=>hb k (by omega)]
  exact hb i hi
def bt (s:ByteArray) (i:Nat):Int:=((s.data.toList[i]?.getD 0).toNat:Nat)
def GS (c:Int):Bool:=(decide (65<=c)&&decide (c<=90))||(decide (97<=c)&&decide (c<=122))
def Uf (c:Int):Bool:=decide (48<=c)&&decide (c<=57)
def okB (c:Int):Bool:=GS c||Uf c||decide (c=95)
def okF (s:ByteArray) (k:Nat):Bool:=(List.range' k (s.size-k)).all fun i=>okB (bt s i)
theorem Aw (h:k<s.size):okF s k=(okB (bt s k)&&okF s (k+1)):=by
 unfold okF;rw [show s.size-k=(s.size-(k+1))+1 by omega,List.range'_succ]
 rfl
theorem Fw (h:s.size<=k):okF s k=true:=by
 unfold okF;rw [show s.size-k=0 by omega];rfl
def jD (s:ByteArray):Bool:=decide (0<s.size)&&decide (s.size<=24)&&GS (bt s 0)&&okF s 1
def nmF (s:ByteArray):Int:=bT (!jD s) 8
end Go.Proofs.A1
namespace Go.Proofs.A1
open Go Go.SL
structure Sr where
 nm:ByteArray
 mx:Int
 deriving DecidableEq
structure De where
 nm:ByteArray
 mx:Int
 pr:Bool
 deriving DecidableEq
structure Ti where
 nm:ByteArray
 fr:Int
 to:Int
 deriving DecidableEq
structure Po where
 lv:Int
 ou:ByteArray
 ip:ByteArray
 deriving DecidableEq
structure Ro where
 lv:Int
 ma:Int
 sr:List Sr
 de:List De
 ti:List Ti
 po:List Po
 deriving DecidableEq
def EM (v:Int) (o:ByteArray) (p:Po):Bool:=decide (p.lv=v)&&decide (p.ou=o)
def AK (v:Int) (i:ByteArray) (p:Po):Bool:=decide (p.lv=v)&&decide (p.ip=i)
def eJ (po:List Po) (v:Int) (o:ByteArray):Option ByteArray:=(po.find? (EM v o)).map Po.ip
def nS (po:List Po) (v:Int) (i:ByteArray):Bool:=po.any (AK v i)
def ib (po:List Po) (v:Int) (o:ByteArray):Bool:=(eJ po v o).isSome
def fk (po:List Po) (v:Int):Nat->ByteArray->List ByteArray
 | 0,_=>[]
 | k + 1, o => match eJ po v o with
  | none=>[]
  | some i=>i::fk po v k i
variable {D T:List ByteArray} {i:ByteArray} {k:Nat} {l:List ByteArray} {o s:ByteArray} {v:Int} {x:ByteArray}
theorem sf {po:List Po} (h:eJ po v o=none):∀ k,fk po v k o=[]
 | 0=>rfl
 | k+1=>by rw [fk,h]
theorem kA {po:List Po} (h:eJ po v o=some i) (k:Nat):fk po v (k+1) o=i::fk po v k i:=by rw [fk,h]
theorem ke (po:List Po) (v:Int):∀ k o,(fk po v k o).length<=k
 | 0,_=>ZC _
 | k + 1, o => by
  rw [fk];split
  ·exact Zi _
  ·rw [ZL];have:=ke po v k ‹_›;omega
theorem CX {po:List Po} {v:Int}:∀ {k:Nat} {o:ByteArray},(fk po v k o).length<k->∀ m,k<=m->fk po v m o=fk po v k o
 | 0,_,h,_,_=>absurd h (ZW _)
 | k + 1, o, h, m, hm => by
  obtain ⟨m,rfl⟩:∃ j,m=j+1:=⟨m-1,by omega⟩;rw [fk,fk];cases hi:eJ po v o with
  | none=>rfl
  | some i =>
   rw [fk,hi,ZL] at h;show i::_=i::_;rw [CX (k:=k) (by omega) m (by omega)]
theorem CW {po:List Po} {v:Int}:∀ {k m:Nat} {o:ByteArray},k<=m->(fk po v m o).take k=fk po v k o
 | 0,_,_,_=>by rw [Ze];rfl
 | k + 1, m, o, h => by
  obtain ⟨m,rfl⟩:∃ j,m=j+1:=⟨m-1,by omega⟩;rw [fk,fk];cases eJ po v o with
  | none=>rfl
  | some i =>
   show (i::fk po v m i).take (k+1)=i::fk po v k i;rw [List.take_succ_cons,CW (by omega)]
def mA (po:List Po) (v:Int):Nat->ByteArray->Option ByteArray
 | 0,o=>some o
 | k+1,o=>(eJ po v o).bind (mA po v k)
theorem kb {po:List Po} {v:Int}:∀ {a b:Nat} {o:ByteArray},mA po v (a+b) o=(mA po v a o).bind (mA po v b)
 | 0,b,o=>by rw [ZE];rfl
 | a + 1, b, o => by
  rw [show a+1+b=(a+b)+1 by omega,mA,mA];cases eJ po v o with
  | none=>rfl
  | some i=>exact kb
theorem iy {po:List Po} {a b:Nat} (h:a<=b) (hb:(mA po v b o).isSome=true):(mA po v a o).isSome=true:=by
 obtain ⟨c,rfl⟩:∃ c,b=a+c:=⟨b-a,by omega⟩;rw [kb] at hb;cases h1:mA po v a o with
 | none=>rw [h1] at hb;cases hb
 | some x=>rfl
theorem nM {po:List Po} {v:Int}:∀ {k:Nat} {o:ByteArray} {j:Nat},j<k->(fk po v k o)[j]? = mA po v (j+1) o
 | 0,_,_,h=>absurd h (ZW _)
 | k + 1, o, j, h => by
  rw [fk,mA];cases eJ po v o with
  | none=>rfl
  | some i =>
   cases j with
   | zero=>rfl
   | succ j =>
    show (i::fk po v k i)[j+1]? = mA po v (j+1) i;rw [Zba,nM (by omega)]
theorem qQ {po:List Po}:(fk po v k o).length=k↔(mA po v k o).isSome=true:=by
 cases k with
 | zero=>exact ⟨fun _=>rfl,fun _=>rfl⟩
 | succ k =>
  rw [<- nM (Nat.lt_add_one k)];have:=ke po v (k+1) o;constructor
  ·intro h;rw [Zc (by omega)];rfl
  ·intro h;apply Classical.byContradiction;intro hn;rw [Zaa (by omega)] at h;cases h
theorem uS {po:List Po}:x∈fk po v k o↔∃ j,j<k/\mA po v (j+1) o=some x:=by
 constructor
 ·intro h;obtain ⟨j,hj,e⟩:=Zu h;have hk:=ke po v k o;refine ⟨j,by omega,?_⟩;rw [<- nM (by omega:j<k),Zc hj,e]
 ·rintro ⟨j,hj,e⟩;rw [<- nM hj] at e;exact ZV e
theorem yZ {α:Type} [DecidableEq α]:∀ {X T:List α},X.Nodup->(∀ x∈X,x∈T)->X.length<=T.length
 | [],_,_,_=>Zi _
 | x :: X, T, hn, h => by
  have hx:=h x (by simp);rw [List.nodup_cons] at hn;have:=yZ (X:=X) (T:=T.erase x) hn.2 fun y hy=>(List.mem_erase_of_ne (a:=y) (b:=x) (fun e=>by rw [e] at hy;exact hn.1 hy)).2 (h y (ZT _ hy))
  rw [ZaH hx] at this;have:=List.length_pos_of_mem hx;rw [ZL];omega
theorem GO {α:Type} [DecidableEq α] {X:List α} (h:¬ X.Nodup):∃ i j,∃ (hi:i<X.length) (hj:j<X.length),i<j/\X[i]=X[j]:=by
 apply Classical.byContradiction;intro hn;apply h;rw [ZaQ,ZY];intro i j hi hj wA e;exact hn ⟨i,j,hi,hj,wA,e⟩
theorem Lo {po:List Po} (hT:∀ o i,eJ po v o=some i->(eJ po v i).isSome=true->i∈T) {o:ByteArray} (ho:(mA po v (T.length+2) o).isSome=true\/o∈T/\(mA po v (T.length+1) o).isSome=true):∃ t∈T,t∈fk po v (T.length+1) t:=by
 obtain ⟨s,hs,dZ⟩:∃ s,(mA po v (s+T.length+1) o).isSome=true/\∀ k,k<=T.length->∃ x,mA po v (s+k) o=some x/\x∈T:=by
  rcases ho with ho | ⟨hoT,ho⟩
  ·refine ⟨1,by rw [show 1+T.length+1=T.length+2 by omega];exact ho,fun k hk=>?_⟩;have h0:=iy (a:=k) (by omega) ho;have h1:=iy (a:=1+k) (by omega) ho;have h2:=iy (a:=1+k+1) (by omega) ho;obtain ⟨y,hy⟩:=Z6.1 h0;obtain ⟨x,hx⟩:=Z6.1 h1;refine ⟨x,hx,hT y x ?_ ?_⟩
   ·rw [show 1+k=k+1 by omega,kb,hy] at hx;simpa [mA] using hx
   ·rw [kb,hx] at h2;simpa [mA] using h2
  ·refine ⟨0,by rw [ZE];exact ho,fun k hk=>?_⟩;rw [ZE];cases k with
   | zero=>exact ⟨o,rfl,hoT⟩
   | succ k =>
    have h0:=iy (a:=k) (by omega) ho;have h1:=iy (a:=k+1) (by omega) ho;have h2:=iy (a:=k+1+1) (by omega) ho;obtain ⟨y,hy⟩:=Z6.1 h0;obtain ⟨x,hx⟩:=Z6.1 h1;refine ⟨x,hx,hT y x ?_ ?_⟩
    ·rw [kb,hy] at hx;simpa [mA] using hx
    ·rw [kb,hx] at h2;simpa [mA] using h2
 let X:=(List.range (T.length+1)).map fun k=>(mA po v (s+k) o).getD ⟨#[]⟩
 have hXl:X.length=T.length+1:=by simp [X]
 have hX:∀ k (h:k<X.length),mA po v (s+k) o=some X[k]:=fun k h=>by
  obtain ⟨x,hx,_⟩:=dZ k (by omega);simp [X,hx]
 have hn:¬ X.Nodup:=fun hn=>by
  have:=yZ (T:=T) hn fun x hx=>by
   obtain ⟨k,hk,rfl⟩:=Zu hx;obtain ⟨y,hy,XG⟩:=dZ k (by omega);rw [hX k hk] at hy;cases hy;exact XG
  omega
 obtain ⟨i,j,hi,hj,wA,e⟩:=GO hn;have h1:=hX i hi;have h2:=hX j hj;obtain ⟨y,hy,XG⟩:=dZ i (by omega);rw [h1] at hy;cases hy;refine ⟨X[i],XG,uS.2 ⟨j-i-1,by omega,?_⟩⟩;rw [show s+j=(s+i)+(j-i-1+1) by omega,kb,h1] at h2;rw [e];rw [e] at h2;exact h2
theorem OR {po:List Po} {m:Nat} {t:ByteArray} (h:t∈fk po v m t):∀ k,(mA po v k t).isSome=true:=by
 obtain ⟨j,_,hj⟩:=uS.1 h;have key:∀ n,mA po v (n*(j+1)) t=some t:=fun n=>by
  induction n with
  | zero=>rw [Zbn];rfl
  | succ n ih=>rw [Zaj,kb,ih];exact hj
 intro k;refine iy (b:=k*(j+1)) (Nat.le_mul_of_pos_right _ (by omega)) ?_;rw [key];rfl
theorem Ln {po:List Po} (hT:∀ o i,eJ po v o=some i->(eJ po v i).isSome=true->i∈T) (h6:T.length<=6):(∃ t∈T,t∈fk po v (T.length+1) t)↔∃ t∈T,(fk po v 7 t).length=7:=by
 constructor
 ·rintro ⟨t,ht,h⟩;exact ⟨t,ht,qQ.2 (OR h 7)⟩
 ·rintro ⟨t,ht,h⟩;exact Lo hT (.inr ⟨ht,iy (b:=7) (by omega) (qQ.1 h)⟩)
theorem mU {po:List Po} (hT:∀ o i,eJ po v o=some i->(eJ po v i).isSome=true->i∈T) (hc:¬ ∃ t∈T,t∈fk po v (T.length+1) t) (o:ByteArray) {m:Nat} (hm:T.length+1<=m):fk po v m o=fk po v (T.length+1) o:=by
 have h2:(fk po v (T.length+2) o).length<T.length+2:=by
  have h0:=ke po v (T.length+2) o;rcases Zbp (fk po v (T.length+2) o).length (T.length+2) with h | h
  ·exact h
  ·exact absurd (Lo hT (.inl (qQ.1 (show (fk po v (T.length+2) o).length=T.length+2 by omega)))) hc
 have h3:fk po v (T.length+1) o=fk po v (T.length+2) o:=by
  rw [<- CW (o:=o) (by omega:T.length+1<=T.length+2),Zal (by omega)]
 rcases Zbp m (T.length+2) with h | h
 ·rw [show m=T.length+1 by omega]
 ·rw [CX h2 m h,h3]
def br:List ByteArray->ByteArray->Int
 | [],_=>-1
 | x::l,s=>if x=s then 0 else if br l s<0 then -1 else br l s+1
theorem La (l:List ByteArray) (s:ByteArray):-1<=br l s:=by
 induction l with
 | nil=>exact Int.le_refl _
 | cons x l ih =>
  rw [br];split
  ·omega
  ·split <;> omega
theorem cm :br l s<0↔s ∉ l:=by
 induction l with
 | nil=>simp [br]
 | cons x l ih =>
  rw [br,ZO,not_or];by_cases e:x=s
  ·rw [if_pos e];constructor
   ·intro h;omega
   ·intro h;exact absurd e.symm h.1
  ·rw [if_neg e];by_cases h:br l s<0
   ·rw [if_pos h];exact ⟨fun _=>⟨fun q=>e q.symm,ih.1 h⟩,fun _=>by omega⟩
   ·rw [if_neg h];exact ⟨fun q=>by have:=La l s;omega,fun q=>absurd (ih.2 q.2) h⟩
theorem lx:∀ {l:List ByteArray} {s:ByteArray} {i:Nat} (h:i<l.length),l[i]=s->(∀ j (hj:j<i),l[j]'(by omega)≠s)->br l s=(i:Nat)
 | x::l,s,0,_,e,_=>by rw [br,if_pos (show x=s from e)];rfl
 | x :: l, s, i + 1, h, e, hb => by
  have h0:x≠s:=hb 0 (by omega);have ih:=lx (l:=l) (s:=s) (i:=i) (by rw [ZL] at h;omega) e fun j hj=>hb (j+1) (by omega)
  rw [br,if_neg h0,ih,if_neg (by omega)];omega
theorem AX (h:∀ j (hj:j<l.length),l[j]≠s):br l s = -1:=by
 have h1:=La l s;have h2:br l s<0:=cm.2 fun hm=>by
  obtain ⟨j,hj,e⟩:=Zu hm;exact h j hj e
 omega
theorem ei (h:0<=br l s):∃ hl:(br l s).toNat<l.length,l[(br l s).toNat]=s:=by
 induction l with
 | nil=>simp [br] at h
 | cons x l ih =>
  by_cases e:x=s
  ·have:br (x::l) s=0:=by rw [br,if_pos e]
   rw [this];exact ⟨Nat.zero_lt_succ _,e⟩
  ·by_cases h0:br l s<0
   ·rw [br,if_neg e,if_pos h0] at h;omega
   ·obtain ⟨hl,hg⟩:=ih (by omega);have:br (x::l) s=br l s+1:=by rw [br,if_neg e,if_neg h0]
    have e1:(br (x::l) s).toNat=(br l s).toNat+1:=by rw [this];omega
    have key:∀ n,n=(br l s).toNat+1->∃ hl:n<(x::l).length,(x::l)[n]=s:=fun n hn=>by
     subst hn;exact ⟨by rw [ZL];omega,hg⟩
    exact key _ e1
def cz (r:Ro):List ByteArray:=r.sr.map Sr.nm
def bY (r:Ro):List ByteArray:=r.de.map De.nm
def ct (r:Ro):List ByteArray:=r.ti.map Ti.nm
def cY (r:Ro):List ByteArray:=cz r++bY r++ct r
def dY (r:Ro) (s:ByteArray):Int:=if 0<=br (bY r) s then br (bY r) s else if 0<=br (ct r) s then (r.de.length:Nat)+br (ct r) s else -1
def jR (r:Ro) (s:ByteArray):Int:=if 0<=br (bY r) s then (r.de.getD (br (bY r) s).toNat ⟨⟨#[]⟩,0,false⟩).mx else if 0<=br (ct r) s then (r.ti.getD (br (ct r) s).toNat ⟨⟨#[]⟩,0,0⟩).fr else -1
def jH (r:Ro) (s:ByteArray):Int:=if 0<=br (cz r) s then (r.sr.getD (br (cz r) s).toNat ⟨⟨#[]⟩,0⟩).mx else if 0<=br (ct r) s then (r.ti.getD (br (ct r) s).toNat ⟨⟨#[]⟩,0,0⟩).to else -1
theorem I1 {r:Ro}:dY r s<0↔s ∉ bY r/\s ∉ ct r:=by
 unfold dY;by_cases h1:br (bY r) s<0
 ·rw [if_neg (by omega)];by_cases h2:br (ct r) s<0
  ·rw [if_neg (by omega)];exact ⟨fun _=>⟨cm.1 h1,cm.1 h2⟩,fun _=>by omega⟩
  ·rw [if_pos (by omega)];exact ⟨fun h=>by omega,fun h=>absurd (cm.2 h.2) h2⟩
 ·rw [if_pos (by omega)];exact ⟨fun h=>absurd h h1,fun h=>absurd (cm.2 h.1) h1⟩
def tD (po:List Po):Prop:=∀ p∈po,∀ q∈po,p.lv=q.lv->p.ou=q.ou->p=q
theorem tD.filter {po:List Po} (h:tD po) (f:Po->Bool):tD (po.filter f):=fun p hp q hq=>h p (ZA.1 hp).1 q (ZA.1 hq).1
theorem fE {po:List Po} (h:eJ po v o=some i):∃ p∈po,p.lv=v/\p.ou=o/\p.ip=i:=by
 unfold eJ at h;obtain ⟨p,hp,e⟩:=Zak.1 h;have h1:=List.find?_some hp;unfold EM at h1;rw [Zm,decide_eq_true_eq,decide_eq_true_eq] at h1;exact ⟨p,List.mem_of_find?_eq_some hp,h1.1,h1.2,e⟩
theorem nF {po:List Po} (h1:tD po) {p:Po} (hp:p∈po):eJ po p.lv p.ou=some p.ip:=by
 cases h:po.find? (EM p.lv p.ou) with
 | none =>
  have:=ZaM.1 h p hp;unfold EM at this;simp at this
 | some q =>
  have hq:=List.find?_some h;unfold EM at hq;rw [Zm,decide_eq_true_eq,decide_eq_true_eq] at hq;have:=h1 q (List.mem_of_find?_eq_some h) p hp hq.1 hq.2;unfold eJ;rw [h,this];rfl
theorem gP {po:List Po}:eJ po v o=none↔∀ p∈po,¬(p.lv=v/\p.ou=o):=by
 unfold eJ;rw [Option.map_eq_none_iff,ZaM];constructor
 ·intro h p hp hq;have:=h p hp;unfold EM at this;rw [hq.1,hq.2] at this;simp at this
 ·intro h p hp;unfold EM;rw [Zm,decide_eq_true_eq,decide_eq_true_eq];exact h p hp
theorem NZ {po qo:List Po} (h1:tD po) (hs:∀ p∈qo,p∈po) {v:Int} {o i:ByteArray} (h:eJ qo v o=some i):eJ po v o=some i:=by
 obtain ⟨p,hp,rfl,rfl,rfl⟩:=fE h;exact nF h1 (hs p hp)
inductive Nd (po:List Po) (D:List ByteArray):Po->Prop
 | de {p:Po}:p∈po->p.ou∈D->Nd po D p
 | up {p q:Po}:p∈po->q.lv=p.lv->q.ip=p.ou->Nd po D q->Nd po D p
theorem Pt {po S:List Po} {D:List ByteArray} (h1:tD po) (hS:∀ p∈S,p∈po) (hu:∀ p∈S,p.ou∈D\/∃ q∈S,q.lv=p.lv/\q.ip=p.ou) {N:Nat} (hN:∀ v o m,N<=m->fk po v m o=fk po v N o) :
  ∀ n p,p∈S->N-(fk po p.lv N p.ou).length<=n->Nd po D p
 | n, p, hp, hn => by
  rcases hu p hp with hd | ⟨q,hq,hv,hi⟩
  ·exact .de (hS p hp) hd
  ·have oU:=nF h1 (hS q hq);rw [hv,hi] at oU;have hc:fk po p.lv (N+1) q.ou=p.ou::fk po p.lv N p.ou:=kA oU N;have hl:(fk po q.lv N q.ou).length=(fk po p.lv N p.ou).length+1:=by
    rw [hv,<- hN p.lv q.ou (N+1) (by omega),hc,ZL]
   have hle:=ke po q.lv N q.ou;cases n with
   | zero=>omega
   | succ n=>exact .up (hS p hp) hv hi (Pt h1 hS hu hN n q hq (by omega))
theorem T9 {po S:List Po} (hk:∀ p∈po,p.ou∈D->p∈S) (eL:∀ p∈po,∀ q∈S,q.lv=p.lv->q.ip=p.ou->p∈S) {p:Po} (h:Nd po D p):p∈S:=by
 induction h with
 | de hp hd=>exact hk _ hp hd
 | up hp hv hi _ ih=>exact eL _ hp _ ih hv hi
theorem NL {po:List Po} (h1:tD po) {N:Nat} (hN:∀ v o m,N<=m->fk po v m o=fk po v N o) {f g:Po->Bool}
  (Er:∀ p∈po,p.ou∈D->f p=true) (Ms:∀ p∈po,∀ q∈po,f q=true->q.lv=p.lv->q.ip=p.ou->f p=true) (YP:∀ p∈po,f p=true->p.ou∈D\/∃ q∈po,f q=true/\q.lv=p.lv/\q.ip=p.ou)
  (Tv:∀ p∈po,p.ou∈D->g p=true) (U5:∀ p∈po,∀ q∈po,g q=true->q.lv=p.lv->q.ip=p.ou->g p=true) (WV:∀ p∈po,g p=true->p.ou∈D\/∃ q∈po,g q=true/\q.lv=p.lv/\q.ip=p.ou):po.filter f=po.filter g:=by
 have key:∀ (f:Po->Bool),(∀ p∈po,p.ou∈D->f p=true)->(∀ p∈po,∀ q∈po,f q=true->q.lv=p.lv->q.ip=p.ou->f p=true)->(∀ p∈po,f p=true->p.ou∈D\/∃ q∈po,f q=true/\q.lv=p.lv/\q.ip=p.ou)->∀ p∈po,(f p=true↔Nd po D p):=by
  intro f h2 h3 h4 p hp;constructor
  ·intro hf;refine Pt (S:=po.filter f) h1 (fun q hq=>(ZA.1 hq).1) (fun q hq=>?_) hN _ p (ZA.2 ⟨hp,hf⟩) (ZC _);obtain ⟨Mo,xS⟩:=ZA.1 hq;rcases h4 q Mo xS with h | ⟨x,hx,Ww,Uk⟩
   ·exact .inl h
   ·exact .inr ⟨x,ZA.2 ⟨hx,Ww⟩,Uk⟩
  ·intro hn;have:=T9 (S:=po.filter f) (fun q hq hd=>ZA.2 ⟨hq,h2 q hq hd⟩) (fun q hq x hx hv hi=>ZA.2 ⟨hq,h3 q hq x (ZA.1 hx).1 (ZA.1 hx).2 hv hi⟩) hn
   exact (ZA.1 this).2
 refine Zbb fun p hp=>?_;rw [ZaS,key f Er Ms YP p hp,key g Tv U5 WV p hp]
theorem oz {α:Type} {R:α->α->Prop} (has:∀ a b,R a b->¬ R b a):∀ {A B:List α},A.Pairwise R->B.Pairwise R->A.Perm B->A=B
 | [],B,_,_,h=>(List.nil_perm.1 h).symm
 | a::A,[],_,_,h=>absurd h (by intro h;have:=h.length_eq;cases this)
 | a :: A, b :: B, hA, hB, h => by
  rw [ZaX] at hA hB;have PQ:a=b:=by
   apply Classical.byContradiction;intro hne;have h1:a∈b::B:=h.mem_iff.1 (by simp);have h2:b∈a::A:=h.mem_iff.2 (by simp);have h1:a∈B:=(ZO.1 h1).resolve_left hne;have h2:b∈A:=(ZO.1 h2).resolve_left fun e=>hne e.symm
   exact has _ _ (hA.1 b h2) (hB.1 a h1)
  subst PQ;rw [oz has hA.2 hB.2 (List.Perm.cons_inv h)]
def oM (r:Ro) (p q:Po):Bool:=decide (p.lv<q.lv)||(decide (p.lv=q.lv)&&decide (dY r p.ou<dY r q.ou))
theorem GQ {r:Ro} (p q:Po) (h:oM r p q=true):¬ oM r q p=true:=by
 unfold oM at *;simp only [ZP,Zm,decide_eq_true_eq] at *;omega
theorem y7 {r:Ro} {p q s:Po} (h1:oM r p q=true) (h2:oM r q s=true):oM r p s=true:=by
 unfold oM at *;simp only [ZP,Zm,decide_eq_true_eq] at *;omega
theorem GP {r:Ro} {p q:Po} (h:¬(p.lv=q.lv/\dY r p.ou=dY r q.ou)):oM r p q=true\/oM r q p=true:=by
 unfold oM;simp only [ZP,Zm,decide_eq_true_eq];omega
def iU (r:Ro) (p:Po):List Po->List Po
 | []=>[p]
 | b::l=>if oM r p b then p::b::l else b::iU r p l
theorem pP (r:Ro) (p:Po):∀ l,(iU r p l).Perm (p::l)
 | []=>List.Perm.refl _
 | b :: l => by
  rw [iU];split
  ·exact List.Perm.refl _
  ·exact ((pP r p l).cons b).trans (List.Perm.swap p b l)
theorem iA {r:Ro} {p q:Po} {l:List Po}:q∈iU r p l↔q=p\/q∈l:=by rw [(pP r p l).mem_iff,ZO]
theorem tR {r:Ro} {p:Po}:∀ {l:List Po},l.Pairwise (fun a b=>oM r a b=true)->(∀ q∈l,¬(p.lv=q.lv/\dY r p.ou=dY r q.ou))->(iU r p l).Pairwise (fun a b=>oM r a b=true)
 | [],_,_=>by rw [iU];exact List.pairwise_singleton _ _
 | b :: l, h, hn => by
  rw [ZaX] at h;rw [iU];split
  ·rename_i hb;rw [ZaX,ZaX];refine ⟨fun q hq=>?_,h.1,h.2⟩;rcases ZO.1 hq with rfl | hq
   ·exact hb
   ·exact y7 hb (h.1 q hq)
  ·rename_i hb;rw [ZaX];refine ⟨fun q hq=>?_,tR h.2 fun q hq=>hn q (ZT _ hq)⟩;rcases iA.1 hq with rfl | hq
   ·rcases GP (hn b (by simp)) with e | e
    ·exact absurd e hb
    ·exact e
   ·exact h.1 q hq
structure n9 (r:Ro):Prop where
 sd:∀ s∈cz r,s ∉ bY r
 st:∀ s∈cz r,s ∉ ct r
 dt:∀ s∈bY r,s ∉ ct r
 Te:(ct r).length<=6
structure gV (r:Ro) (po:List Po):Prop where
 qZ:po.Pairwise (fun a b=>oM r a b=true)
 Kd:∀ p∈po,0<=p.lv/\p.lv<r.lv
 out:∀ p∈po,p.ou∈bY r\/p.ou∈ct r
 vY:∀ p∈po,p.ip∈cz r\/p.ip∈ct r
 Mh:∀ p∈po,jR r p.ou=jH r p.ip
 CP:∀ v,¬ ∃ t∈ct r,t∈fk po v ((ct r).length+1) t
 use:∀ v t,t∈ct r->(nS po v t=true↔ib po v t=true)
theorem gV.one {r:Ro} {po:List Po} (h:po.Pairwise (fun a b=>oM r a b=true)):tD po:=by
 intro p hp q hq hv ho;apply Classical.byContradiction;intro hne;obtain ⟨i,hi,rfl⟩:=Zu hp;obtain ⟨j,hj,rfl⟩:=Zu hq;rw [ZY] at h;rcases Zao i j with e | e | e
 ·have:=h i j hi hj e;unfold oM at this;simp only [ZP,Zm,decide_eq_true_eq] at this;rw [ho] at this;omega
 ·subst e;exact hne rfl
 ·have:=h j i hj hi e;unfold oM at this;simp only [ZP,Zm,decide_eq_true_eq] at this;rw [ho] at this;omega
theorem gV.tie {r:Ro} {po:List Po} (hn:n9 r) (h2:∀ p∈po,p.ou∈bY r\/p.ou∈ct r) (h3:∀ p∈po,p.ip∈cz r\/p.ip∈ct r) {v:Int}:∀ o i,eJ po v o=some i->(eJ po v i).isSome=true->i∈ct r:=by
 intro o i h hi;obtain ⟨p,hp,_,_,rfl⟩:=fE h;rcases h3 p hp with hs | ht
 ·obtain ⟨j,hj⟩:=Z6.1 hi;obtain ⟨q,hq,_,PE,_⟩:=fE hj;rcases h2 q hq with hd | hd
  ·exact absurd (PE ▸ hd) (hn.sd _ hs)
  ·exact absurd (PE ▸ hd) (hn.st _ hs)
 ·exact ht
def gp (po:List Po) (v:Int) (k:Nat) (o:ByteArray):ByteArray:=((fk po v k o).getLast?).getD o
def pV (po:List Po) (v:Int) (S:List ByteArray) (o:ByteArray):ByteArray:=if br S (gp po v 7 o)<0 then ⟨#[]⟩ else gp po v 7 o
theorem tp {po:List Po} (h:eJ po v o=some i):gp po v (k+1) o=gp po v k i:=by
 unfold gp;rw [kA h,List.getLast?_cons]
 rfl
theorem pU {po:List Po} (h:eJ po v o=none):gp po v k o=o:=by
 unfold gp;rw [sf h];rfl
theorem Hg {r:Ro} {po:List Po} (hn:n9 r) (h:gV r po) (v:Int) (o:ByteArray):gp po v ((ct r).length+1) o=gp po v 7 o:=by
 have:=hn.Te;unfold gp;rw [mU (T:=ct r) (gV.tie hn h.out h.vY) (h.CP v) o (m:=7) (by omega)]
theorem O1 {r:Ro} {po:List Po} (hn:n9 r) (h:gV r po) {v:Int}:∀ (k:Nat) (o:ByteArray),(fk po v 7 o).length<=k->(eJ po v o).isSome=true->gp po v 7 o∈cz r:=by
 have h6:=hn.Te;have hs:=fun o m hm=>mU (T:=ct r) (gV.tie hn h.out h.vY) (h.CP v) o (m:=m) hm
 intro k
 induction k with
 | zero =>
  intro o hk ho;obtain ⟨i,hi⟩:=Z6.1 ho;rw [kA hi,ZL] at hk;omega
 | succ k ih =>
  intro o hk ho;obtain ⟨i,hi⟩:=Z6.1 ho;have e1:gp po v 7 o=gp po v 7 i:=by
   have:gp po v 8 o=gp po v 7 i:=tp hi;unfold gp at this ⊢;rw [hs o 8 (by omega)] at this;rw [hs o 7 (by omega)];exact this
  rw [e1];cases Hw:eJ po v i with
  | none =>
   rw [pU Hw];obtain ⟨p,hp,Mp,_,rfl⟩:=fE hi;rcases h.vY p hp with hS | hT
   ·exact hS
   ·have hu:nS po v p.ip=true:=by
     unfold nS;rw [ZR];exact ⟨p,hp,by unfold AK;rw [Mp];simp⟩
    have:=(h.use v p.ip hT).1 hu;unfold ib at this;rw [Hw] at this;cases this
  | some j =>
   refine ih i ?_ (by rw [Hw];rfl);have:(fk po v 8 o).length=(fk po v 7 i).length+1:=by rw [kA hi,ZL]
   rw [hs o 8 (by omega),<- hs o 7 (by omega)] at this;omega
theorem tu {r:Ro} {po:List Po} (hn:n9 r) (h:gV r po) {v:Int} {o:ByteArray} (ho:(eJ po v o).isSome=true):pV po v (cz r) o=gp po v 7 o:=by
 unfold pV;rw [if_neg fun e=>cm.1 e (O1 hn h _ o (ZC _) ho)]
theorem zr {r:Ro} {po:List Po} (hs:o ∉ cz r) (ho:eJ po v o=none):pV po v (cz r) o=⟨#[]⟩:=by
 unfold pV;rw [pU ho,if_pos (cm.2 hs)]
theorem A7 {po qo:List Po} (h1:tD po) (hs:∀ p∈qo,p∈po) {v:Int}:∀ {k:Nat} {o x:ByteArray},x∈fk qo v k o->x∈fk po v k o
 | 0,_,_,h=>by cases h
 | k + 1, o, x, h => by
  rw [fk] at h;cases hi:eJ qo v o with
  | none=>rw [hi] at h;cases h
  | some i =>
   rw [hi] at h;rw [kA (NZ h1 hs hi)];rcases ZO.1 h with rfl | h
   ·exact Zp
   ·exact ZT _ (A7 h1 hs h)
theorem gV.filter {r:Ro} {po:List Po} (hn:n9 r) (h:gV r po) (f:Po->Bool) (h2:∀ p∈po,p.ou∈ct r->∀ q∈po,f q=true->q.lv=p.lv->q.ip=p.ou->f p=true) (h3:∀ p∈po,p.ou∈ct r->f p=true->∃ q∈po,f q=true/\q.lv=p.lv/\q.ip=p.ou):gV r (po.filter f):=by
 have iV:∀ p∈po.filter f,p∈po:=fun p hp=>(ZA.1 hp).1
 have h1:=gV.one h.qZ;refine ⟨h.qZ.filter f,fun p hp=>h.Kd p (iV p hp),fun p hp=>h.out p (iV p hp),fun p hp=>h.vY p (iV p hp),fun p hp=>h.Mh p (iV p hp),fun v=>?_,fun v t ht=>?_⟩
 ·rintro ⟨t,ht,hc⟩;exact h.CP v ⟨t,ht,A7 h1 iV hc⟩
 ·constructor
  ·intro hu;unfold nS at hu;rw [ZR] at hu;obtain ⟨q,hq,Oa⟩:=hu;unfold AK at Oa;rw [Zm,decide_eq_true_eq,decide_eq_true_eq] at Oa;obtain ⟨Mo,xS⟩:=ZA.1 hq;have hb:=(h.use v t ht).1 (by unfold nS;rw [ZR];exact ⟨q,Mo,by unfold AK;rw [Oa.1,Oa.2];simp⟩);unfold ib at hb;obtain ⟨i,hi⟩:=Z6.1 hb;obtain ⟨p,hp,Mp,om,rfl⟩:=fE hi;have hf:=h2 p hp (om ▸ ht) q Mo xS (Oa.1.trans Mp.symm) (Oa.2.trans om.symm);have:=nF (h1.filter f) (ZA.2 ⟨hp,hf⟩);rw [Mp,om] at this;unfold ib;rw [this];rfl
  ·intro hb;unfold ib at hb;obtain ⟨i,hi⟩:=Z6.1 hb;obtain ⟨p,hp,Mp,om,rfl⟩:=fE hi;obtain ⟨Br,Oc⟩:=ZA.1 hp;obtain ⟨q,hq,xS,UD,X4⟩:=h3 p Br (om ▸ ht) Oc;unfold nS;rw [ZR];exact ⟨q,ZA.2 ⟨hq,xS⟩,by unfold AK;rw [UD,X4,Mp,om];simp⟩
theorem td (h:0<=br l s):br l s<(l.length:Nat):=by
 obtain ⟨hl,_⟩:=ei h;omega
theorem FP {a b:ByteArray} (ha:0<=br l a) (h:br l a=br l b):a=b:=by
 obtain ⟨h1,e1⟩:=ei ha;obtain ⟨h2,e2⟩:=ei (l:=l) (s:=b) (by omega);rw [<- e1,<- e2];have:(br l a).toNat=(br l b).toNat:=by rw [h]
 simp only [this]
theorem I3 {r:Ro} {a b:ByteArray} (ha:a∈bY r\/a∈ct r) (hb:b∈bY r\/b∈ct r) (h:dY r a=dY r b):a=b:=by
 have hd:(bY r).length=r.de.length:=by unfold bY;rw [Zd]
 unfold dY at h;by_cases a1:0<=br (bY r) a
 ·have:=td a1;by_cases b1:0<=br (bY r) b
  ·rw [if_pos a1,if_pos b1] at h;exact FP a1 h
  ·by_cases b2:0<=br (ct r) b
   ·rw [if_pos a1,if_neg b1,if_pos b2] at h;omega
   ·rcases hb with hb | hb
    ·exact absurd hb (cm.1 (by omega))
    ·exact absurd hb (cm.1 (by omega))
 ·by_cases a2:0<=br (ct r) a
  ·by_cases b1:0<=br (bY r) b
   ·have:=td b1;rw [if_neg a1,if_pos a2,if_pos b1] at h;omega
   ·by_cases b2:0<=br (ct r) b
    ·rw [if_neg a1,if_pos a2,if_neg b1,if_pos b2] at h;exact FP a2 (by omega)
    ·rcases hb with hb | hb
     ·exact absurd hb (cm.1 (by omega))
     ·exact absurd hb (cm.1 (by omega))
  ·rcases ha with ha | ha
   ·exact absurd ha (cm.1 (by omega))
   ·exact absurd ha (cm.1 (by omega))
structure qW (r:Ro) (po:List Po) (v:Int) (x:ByteArray):Prop where
 qZ:po.Pairwise (fun a b=>oM r a b=true)
 Kd:∀ p∈po,0<=p.lv/\p.lv<r.lv
 out:∀ p∈po,p.ou∈bY r\/p.ou∈ct r
 vY:∀ p∈po,p.ip∈cz r\/p.ip∈ct r
 Mh:∀ p∈po,jR r p.ou=jH r p.ip
 CP:∀ v,¬ ∃ t∈ct r,t∈fk po v ((ct r).length+1) t
 use:∀ u t,t∈ct r->(u=v/\t=x)\/(nS po u t=true↔ib po u t=true)
 W9:x∈ct r->ib po v x=true
theorem gV.T7 {r:Ro} {po:List Po} (h:gV r po) (hb:x∈ct r->ib po v x=true):qW r po v x:=⟨h.qZ,h.Kd,h.out,h.vY,h.Mh,h.CP,fun u t ht=>.inr (h.use u t ht),hb⟩
theorem qW.val {r:Ro} {po:List Po} {v:Int} {x:ByteArray} (h:qW r po v x) (hx:x ∉ ct r):gV r po:=⟨h.qZ,h.Kd,h.out,h.vY,h.Mh,h.CP,fun u t ht=>(h.use u t ht).resolve_left fun e=>hx (e.2 ▸ ht)⟩
theorem oR {r:Ro} {po:List Po} {p:Po} (hs:po.Pairwise (fun a b=>oM r a b=true)) (ho:∀ q∈po,q.ou∈bY r\/q.ou∈ct r) (hp:p.ou∈bY r\/p.ou∈ct r) (Yi:eJ po p.lv p.ou=none):(iU r p po).Pairwise (fun a b=>oM r a b=true):=
 tR hs fun q hq e=>gP.1 Yi q hq ⟨e.1.symm,(I3 hp (ho q hq) e.2).symm⟩
theorem rM {r:Ro} {po:List Po} {p:Po} (h1:tD (iU r p po)) (h0:tD po) (v:Int) (o:ByteArray):eJ (iU r p po) v o=if p.lv=v/\p.ou=o then some p.ip else eJ po v o:=by
 by_cases h:p.lv=v/\p.ou=o
 ·rw [if_pos h];have:=nF h1 (iA.2 (.inl I):p∈iU r p po);rwa [h.1,h.2] at this
 ·rw [if_neg h];cases hi:eJ po v o with
  | none =>
   rw [gP];intro q hq;rcases iA.1 hq with rfl | hq
   ·exact h
   ·exact gP.1 hi q hq
  | some i =>
   obtain ⟨q,hq,rfl,rfl,rfl⟩:=fE hi;exact nF h1 (iA.2 (.inr hq))
theorem qW.add {r:Ro} {po:List Po} (hn:n9 r) (h:qW r po v x) (hv:0<=v/\v<r.lv) (hx:x∈cz r\/x∈ct r) (ho:o∈bY r\/o∈ct r) (fu:eJ po v o=none) (hm:jR r o=jH r x):qW r (iU r ⟨v,o,x⟩ po) v o:=by
 have hs:=oR (p:=⟨v,o,x⟩) h.qZ h.out ho fu;have h1:=gV.one hs;have h0:=gV.one h.qZ;have oU:=rM (p:=⟨v,o,x⟩) h1 h0;have tS:x≠o:=by
  intro e;subst e;rcases hx with hx | hx
  ·rcases ho with ho | ho
   ·exact hn.sd _ hx ho
   ·exact hn.st _ hx ho
  ·have:=h.W9 hx;unfold ib at this;rw [fu] at this;cases this
 -- no one abW Bn new output
 have tU:∀ u,eJ po v u≠some o:=by
  intro u hu;obtain ⟨q,hq,Mn,_,R3⟩:=fE hu;rcases ho with ho | ho
  ·rcases h.vY q hq with hS | hT
   ·exact hn.sd _ (R3 ▸ hS) ho
   ·exact hn.dt _ ho (R3 ▸ hT)
  ·rcases h.use v o ho with e | e
   ·exact tS e.2.symm
   ·have:nS po v o=true:=by
     unfold nS;rw [ZR];exact ⟨q,hq,by unfold AK;rw [Mn,R3];simp⟩
    have:=e.1 this;unfold ib at this;rw [fu] at this;cases this
 have fI:∀ u y,eJ (iU r ⟨v,o,x⟩ po) v u=some y->y≠o:=by
  intro u y hu e;subst e;rw [oU] at hu;split at hu
  ·exact tS (Option.some.inj hu)
  ·exact tU u hu
 refine ⟨hs,fun p hp=>?_,fun p hp=>?_,fun p hp=>?_,fun p hp=>?_,fun w=>?_,fun u t ht=>?_,fun _=>?_⟩
 ·rcases iA.1 hp with rfl | hp
  ·exact hv
  ·exact h.Kd p hp
 ·rcases iA.1 hp with rfl | hp
  ·exact ho
  ·exact h.out p hp
 ·rcases iA.1 hp with rfl | hp
  ·exact hx
  ·exact h.vY p hp
 ·rcases iA.1 hp with rfl | hp
  ·exact hm
  ·exact h.Mh p hp
 ·rintro ⟨t,ht,hc⟩;obtain ⟨j,hj,he⟩:=uS.1 hc
  -- Bn way round is one of Bn Bo points
  have key:∀ k y z,(w=v->y≠o)->mA (iU r ⟨v,o,x⟩ po) w k y=some z->mA po w k y=some z:=by
   intro k
   induction k with
   | zero=>intro y z _ h;exact h
   | succ k ih =>
    intro y z hy hz;rw [mA] at hz ⊢;have e1:eJ (iU r ⟨v,o,x⟩ po) w y=eJ po w y:=by
     rw [oU,if_neg fun e=>hy e.1.symm e.2.symm]
    cases hi:eJ po w y with
    | none=>rw [e1,hi] at hz;cases hz
    | some u =>
     rw [e1,hi] at hz;refine ih u z (fun e q=>?_) hz;subst e q;exact fI y u (by rw [e1];exact hi) I
  refine h.CP w ⟨t,ht,uS.2 ⟨j,hj,key (j+1) t t (fun e q=>?_) he⟩⟩;subst e q;obtain ⟨u,hu,RQ⟩:∃ u,mA (iU r ⟨w,t,x⟩ po) w j t=some u/\eJ (iU r ⟨w,t,x⟩ po) w u=some t:=by
   rw [kb] at he;cases hq:mA (iU r ⟨w,t,x⟩ po) w j t with
   | none=>rw [hq] at he;cases he
   | some u =>
    rw [hq] at he;exact ⟨u,I,by simpa [mA] using he⟩
  exact fI u t RQ I
 ·by_cases e:u=v/\t=o
  ·exact .inl e
  ·refine .inr ?_;have hb:ib (iU r ⟨v,o,x⟩ po) u t=ib po u t:=by
    unfold ib;rw [oU,if_neg fun q=>e ⟨q.1.symm,q.2.symm⟩]
   have hu:nS (iU r ⟨v,o,x⟩ po) u t=true↔(u=v/\t=x)\/nS po u t=true:=by
    unfold nS;rw [ZR,ZR];constructor
    ·rintro ⟨q,hq,xS⟩;rcases iA.1 hq with rfl | hq
     ·unfold AK at xS;rw [Zm,decide_eq_true_eq,decide_eq_true_eq] at xS;exact .inl ⟨xS.1.symm,xS.2.symm⟩
     ·exact .inr ⟨q,hq,xS⟩
    ·rintro (⟨rfl,rfl⟩ | ⟨q,hq,xS⟩)
     ·exact ⟨_,iA.2 (.inl I),by unfold AK;simp⟩
     ·exact ⟨q,iA.2 (.inr hq),xS⟩
   rw [hb,hu];rcases h.use u t ht with ex | ex
   ·obtain ⟨rfl,rfl⟩:=ex;exact ⟨fun _=>h.W9 ht,fun _=>.inl ⟨I,I⟩⟩
   ·constructor
    ·rintro (⟨rfl,rfl⟩ | q)
     ·exact h.W9 ht
     ·exact ex.1 q
    ·exact fun q=>.inr (ex.2 q)
 ·unfold ib;rw [oU,if_pos ⟨I,I⟩];rfl
theorem qW.ne {r:Ro} {po:List Po} (hn:n9 r) (h:qW r po v x) (hx:x∈cz r\/x∈ct r) (ho:o∈bY r\/o∈ct r) (fu:eJ po v o=none):x≠o:=by
 intro e;subst e;rcases hx with hx | hx
 ·rcases ho with ho | ho
  ·exact hn.sd _ hx ho
  ·exact hn.st _ hx ho
 ·have:=h.W9 hx;unfold ib at this;rw [fu] at this;cases this
theorem qW.unused {r:Ro} {po:List Po} (hn:n9 r) (h:qW r po v x) (hx:x∈cz r\/x∈ct r) (ho:o∈bY r\/o∈ct r) (fu:eJ po v o=none):∀ u,eJ po v u≠some o:=by
 have tS:=h.ne hn hx ho fu;intro u hu;obtain ⟨q,hq,Mn,_,R3⟩:=fE hu;rcases ho with ho | ho
 ·rcases h.vY q hq with hS | hT
  ·exact hn.sd _ (R3 ▸ hS) ho
  ·exact hn.dt _ ho (R3 ▸ hT)
 ·rcases h.use v o ho with e | e
  ·exact tS e.2.symm
  ·have:nS po v o=true:=by
    unfold nS;rw [ZR];exact ⟨q,hq,by unfold AK;rw [Mn,R3];simp⟩
   have:=e.1 this;unfold ib at this;rw [fu] at this;cases this
theorem A8 {r:Ro} {po:List Po} {v:Int} {x o:ByteArray} (hn:n9 r) (h:qW r po v x) (hx:x∈cz r\/x∈ct r) (ho:o∈bY r\/o∈ct r) (fu:eJ po v o=none) {w:Int}:∀ {k:Nat} {y:ByteArray},¬(w=v/\y=o)->fk (iU r ⟨v,o,x⟩ po) w k y=fk po w k y
 | 0,_,_=>rfl
 | k + 1, y, hy => by
  have hs:=oR (p:=⟨v,o,x⟩) h.qZ h.out ho fu;have e1:eJ (iU r ⟨v,o,x⟩ po) w y=eJ po w y:=by
   rw [rM (p:=⟨v,o,x⟩) (gV.one hs) (gV.one h.qZ),if_neg fun e=>hy ⟨e.1.symm,e.2.symm⟩]
  rw [fk,fk,e1];cases hi:eJ po w y with
  | none=>rfl
  | some u =>
   show u::_=u::_;rw [A8 hn h hx ho fu fun e=>by
    obtain ⟨rfl,rfl⟩:=e;exact h.unused hn hx ho fu y hi]
theorem F7 {r:Ro} {po:List Po} (hn:n9 r) (h:qW r po v x) (hx:x∈cz r\/x∈ct r) (ho:o∈bY r\/o∈ct r) (fu:eJ po v o=none) {w:Int} {y:ByteArray} (hy:¬(w=v/\y=o)) {S:List ByteArray}:pV (iU r ⟨v,o,x⟩ po) w S y=pV po w S y:=by
 unfold pV gp;rw [A8 hn h hx ho fu hy]
theorem CM {r:Ro} {po:List Po} (hn:n9 r) (h:qW r po v x) (hv:0<=v/\v<r.lv) (hx:x∈cz r\/x∈ct r) (ho:o∈bY r\/o∈ct r) (fu:eJ po v o=none) (hm:jR r o=jH r x):gp (iU r ⟨v,o,x⟩ po) v 7 o=gp po v 7 x:=by
 have h6:=hn.Te;have hA:=h.add hn hv hx ho fu hm;have hs:=oR (p:=⟨v,o,x⟩) h.qZ h.out ho fu;have oU:eJ (iU r ⟨v,o,x⟩ po) v o=some x:=by
  rw [rM (p:=⟨v,o,x⟩) (gV.one hs) (gV.one h.qZ),if_pos ⟨I,I⟩]
 have hsh:=fun m hm=>mU (T:=ct r) (gV.tie hn hA.out hA.vY) (hA.CP v) o (m:=m) hm
 have e8:gp (iU r ⟨v,o,x⟩ po) v 8 o=gp (iU r ⟨v,o,x⟩ po) v 7 x:=tp oU;have e7:gp (iU r ⟨v,o,x⟩ po) v 7 o=gp (iU r ⟨v,o,x⟩ po) v 8 o:=by
  unfold gp;rw [hsh 7 (by omega),hsh 8 (by omega)]
 rw [e7,e8];unfold gp;rw [A8 hn h hx ho fu fun e=>h.ne hn hx ho fu e.2]
theorem w9 {po:List Po} (h1:tD po) {f:Po->Bool} (fF:∀ q∈po,f q=true->∀ p∈po,p.lv=q.lv->p.ou=q.ip->f p=true) {v:Int}:∀ {k:Nat} {y:ByteArray},(∀ p∈po,p.lv=v->p.ou=y->f p=true)->fk (po.filter f) v k y=fk po v k y
 | 0,_,_=>rfl
 | k + 1, y, hy => by
  rw [fk,fk];cases hi:eJ po v y with
  | none =>
   have:eJ (po.filter f) v y=none:=gP.2 fun p hp=>gP.1 hi p (ZA.1 hp).1
   rw [this]
  | some u =>
   obtain ⟨q,hq,Mn,PE,rfl⟩:=fE hi;have hf:=hy q hq Mn PE;have:eJ (po.filter f) v y=some q.ip:=by
    have:=nF (h1.filter f) (ZA.2 ⟨hq,hf⟩);rwa [Mn,PE] at this
   rw [this];show q.ip::_=q.ip::_;rw [w9 h1 fF fun p hp Mp om=>fF q hq hf p hp (Mp.trans Mn.symm) om]
end Go.Proofs.A1
