/- Parts of the proof: GkFin GkRegO GkCopy. -/
import Derived.Test.YtpamkookgkffgaaGreatDoorTM05
import Derived.Lib.AppendZerosOnto
set_option linter.unusedSectionVars false
set_option linter.unusedVariables false
set_option linter.unusedSimpArgs false
namespace Go.SL
open Go
class BP (b:Bool) (p q:outParam Prop):Prop where
  t:b = true → p
  f:b = false → q
instance (priority:=low) {b:Bool}:BP b (b = true) (b = false):=⟨id,id⟩
instance {p:Prop} {inst:Decidable p}:BP (@decide p inst) p (¬ p):=⟨of_decide_eq_true,of_decide_eq_false⟩
instance {a:Bool} {p q:Prop} [h:BP a p q]:BP (!a) q p:=⟨fun e=>h.f (by simpa using e),fun e=>h.t (by simpa using e)⟩
instance {a b:Bool} {p q p' q':Prop} [h:BP a p q] [h':BP b p' q']:BP (a || b) (p ∨ p') (q ∧ q'):=
  ⟨fun e=>(Bool.or_eq_true _ _ ▸ e).elim (fun e=>.inl (h.t e)) (fun e=>.inr (h'.t e)),fun e=>by
    rw [Bool.or_eq_false_iff] at e
    exact ⟨h.f e.1,h'.f e.2⟩⟩
instance {a b:Bool} {p q p' q':Prop} [h:BP a p q] [h':BP b p' q']:BP (a && b) (p ∧ p') (q ∨ q'):=
  ⟨fun e=>by
    rw [Bool.and_eq_true] at e
    exact ⟨h.t e.1,h'.t e.2⟩,fun e=>(Bool.and_eq_false_iff.1 e).elim (fun e=>.inl (h.f e)) (fun e=>.inr (h'.f e))⟩
instance {a:Bool} {p q:Prop} [h:BP a p q]:BP (a == true) p q:=⟨fun e=>h.t (by simpa using e),fun e=>h.f (by simpa using e)⟩
instance {a:Bool} {p q:Prop} [h:BP a p q]:BP (a == false) q p:=⟨fun e=>h.f (by simpa using e),fun e=>h.t (by simpa using e)⟩
theorem okc_nil:∀ u ∈ ([]:List Value),u.oneCell' = true:=fun _ h=>absurd h List.not_mem_nil
theorem okc_cons {v:Value} {vs:List Value} (h:v.oneCell' = true) (t:∀ u ∈ vs,u.oneCell' = true):∀ u ∈ v :: vs,u.oneCell' = true:=List.forall_mem_cons.2 ⟨h,t⟩
theorem ini {n:Int} (h:-9223372036854775808 ≤ n ∧ n ≤ 9223372036854775807):InI n:=h
theorem lenb {a b:Nat} (h:Nat.ble a b = true):a ≤ b:=Nat.le_of_ble_eq_true h
theorem norm_ {α:Type} {a b:α} (h:a = b:=by (first | (simp only [Int.toNat_zero,Int.toNat_one,Int.reduceToNat,fillL,setCells,cellsAt,partOf,Value.cells,lget,cond_true,cond_false,List.getElem?_cons_zero,List.getElem?_cons_succ,List.set_cons_zero,List.set_cons_succ,List.size_toArray,List.length_cons,List.length_nil,Nat.reduceAdd,Nat.reduceMul,Nat.reduceLeDiff,and_self,and_true,true_and,if_true,List.set,List.length_set,Nat.le_refl,Nat.zero_add,Nat.add_zero];exact rfl) | exact rfl)):a = b:=h
theorem norm0_ {α:Type} {a b:α} (h:a = b:=by (first | (simp only [Nat.reduceAdd,Nat.zero_add,Nat.add_zero];exact rfl) | exact rfl)):a = b:=h
theorem norm1_ {α:Type} {a b:α} (h:a = b:=by (first | (simp only [Int.toNat_natCast,Nat.zero_add,Int.reduceToNat,Int.toNat_zero,Int.toNat_one];exact rfl) | exact rfl)):a = b:=h
theorem normc_ {α:Type} {a b:α} (h:a = b:=by first | ((try simp only [List.nil_append,List.append_nil,List.cons_append]);exact rfl) | exact rfl):a = b:=h
theorem normp_ {α:Type} {a b:α} (h:a = b:=by first | (simp only [List.range,List.range.loop,List.map,Nat.reduceMul];exact rfl) | exact rfl):a = b:=h
theorem lenx_ {a b:Nat} (h:a ≤ b:=by first | omega | (simp only [List.length_append,List.length_cons,List.length_nil];omega)):a ≤ b:=h
theorem kr_ {α:Type} {a b:α} (h:a = b:=by kernel_rfl):a = b:=h
section
variable {P:Program} {r:Option Nat} {c:Cx} {D:List Nat} {sl:Slots} {rl:RSlots} {hs hs':List Asn} {Q:Exit → Act → World → Prop} {ops:Array Oper} {m d:Nat} {dst:Option Tmp} {op:Op} {ty:TypeId} {pos:String} {af:Array Edge} {rest:List Oper}
theorem tr_makeMapS {t:TypeId} (hd:Nat.blt d c.nt = true) (k:∀ b,c.w0.heap.size ≤ b → Tr c D ((d,.map (some b)) :: sl) (mp (fun s:ByteArray=>Value.string s) b [] :: hs) (WL P r ops Q rest)) :
    Tr c D sl hs (WL P r ops Q (⟨some d,.makeMap t none,ty,pos,af,none⟩ :: rest)):=tr_makeMap (fun s:ByteArray=>Value.string s) hd k
theorem tr_makeMapI {t:TypeId} (hd:Nat.blt d c.nt = true) (k:∀ b,c.w0.heap.size ≤ b → Tr c D ((d,.map (some b)) :: sl) (mp (fun n:Int=>Value.int .i64 n) b [] :: hs) (WL P r ops Q rest)) :
    Tr c D sl hs (WL P r ops Q (⟨some d,.makeMap t none,ty,pos,af,none⟩ :: rest)):=tr_makeMap (fun n:Int=>Value.int .i64 n) hd k
theorem tr_condB {x:Operand} {b:Bool} {p q:Prop} {u v:Code} (hx:Is sl x (.bool b)) (hb:BP b p q)
    (ht:p → Tr c D sl hs (WP P r u Q)) (hf:q → Tr c D sl hs (WP P r v Q)):Tr c D sl hs (WP P r (.cond x u v) Q):=
  tr_cond hx (fun e=>ht (hb.t e)) (fun e=>hf (hb.f e))
theorem tr_vG {V:Value} {p p':Prop} {j g:Nat} {want c0 q:Bool} (hj:((ops[j]?).bind (·.dst)) = some g) (hq:sget sl g = some (gv c0 (.bool q))) (hb:BP (c0 && (q == want)) p p')
    (hr:(c0 && (q == want)) = true → p → RunV P c sl hs ⟨some d,op,ty,pos,af,some (j,want)⟩ V) (hd:Nat.blt d c.nt = true) (k:Tr c D ((d,gv (c0 && (q == want)) V) :: sl) hs (WL P r ops Q rest)) :
    Tr c D sl hs (WL P r ops Q (⟨some d,op,ty,pos,af,some (j,want)⟩ :: rest)):=tr_valG hj hq (fun e=>hr e (hb.t e)) hd k
theorem tr_vG1 {V:Value} {p p':Prop} {j g:Nat} {want q:Bool} (hj:((ops[j]?).bind (·.dst)) = some g) (hq:sget sl g = some (.bool q)) (hb:BP (q == want) p p')
    (hr:(q == want) = true → p → RunV P c sl hs ⟨some d,op,ty,pos,af,some (j,want)⟩ V) (hd:Nat.blt d c.nt = true) (k:Tr c D ((d,gv (q == want) V) :: sl) hs (WL P r ops Q rest)) :
    Tr c D sl hs (WL P r ops Q (⟨some d,op,ty,pos,af,some (j,want)⟩ :: rest)):=tr_valG1 hj hq (fun e=>hr e (hb.t e)) hd k
theorem any_vG {V:Value} {p p':Prop} {j gs:Nat} {want c0 q:Bool} (hj:((ops[j]?).bind (·.dst)) = some gs) (hq:sget sl gs = some (gv c0 (.bool q))) (hb:BP (c0 && (q == want)) p p')
    (hr:(c0 && (q == want)) = true → p → RunV P c sl hs ⟨some d,op,ty,pos,af,some (j,want)⟩ V) (hd:Nat.blt d c.nt = true) (k:AnyT P r c D hs ops Q m rest ((d,gv (c0 && (q == want)) V) :: sl) rl) :
    AnyT P r c D hs ops Q (m + 1) (⟨some d,op,ty,pos,af,some (j,want)⟩ :: rest) sl rl:=any_valG hj hq (fun e=>hr e (hb.t e)) hd k
theorem any_vG1 {V:Value} {p p':Prop} {j gs:Nat} {want q:Bool} (hj:((ops[j]?).bind (·.dst)) = some gs) (hq:sget sl gs = some (.bool q)) (hb:BP (q == want) p p')
    (hr:(q == want) = true → p → RunV P c sl hs ⟨some d,op,ty,pos,af,some (j,want)⟩ V) (hd:Nat.blt d c.nt = true) (k:AnyT P r c D hs ops Q m rest ((d,gv (q == want) V) :: sl) rl) :
    AnyT P r c D hs ops Q (m + 1) (⟨some d,op,ty,pos,af,some (j,want)⟩ :: rest) sl rl:=any_valG1 hj hq (fun e=>hr e (hb.t e)) hd k
end
theorem ends1cV {P:Program} {c:Cx} {sl:Slots} {hs:List Asn} {fn:Func} {t:Tmp} {T:TypeId} {b o n:Nat} {v:Value} (h:fn.results = #[.cell t T]) (hT:Ty P T false n) (hp:sget sl t = some (.pointer (some ⟨b,o,none⟩))) (hv:At c hs b o v):Ends P fn c sl hs v:=ends1c h hp hv
section
variable {P:Program} {r:Option Nat} {c:Cx} {D:List Nat} {sl:Slots} {rl:RSlots} {hs hs':List Asn} {Q:Exit → Act → World → Prop} {ops:Array Oper} {m d:Nat} {op:Op} {ty:TypeId} {pos:String} {af:Array Edge} {rest:List Oper}
theorem s_r {id:Nat} {l:List Oper} {y:Code} (h:Tr c D sl hs (WL P r l.toArray (Exit.then (WP P r y Q) Q) l)):Tr c D sl hs (WP P r (.seq (.region id l.toArray false) y) Q):=tr_seq (tr_region h)
theorem n_t {N:Act → World → Prop} (h:Tr c D sl hs N):Tr c D sl hs (WL P r ops (Exit.then N Q) []):=h
theorem n_r {id:Nat} {l:List Oper} {y:Code} {Q':Exit → Act → World → Prop} (h:Tr c D sl hs (WL P r l.toArray (Exit.then (WP P r y Q) Q) l)):Tr c D sl hs (WL P r ops (Exit.then (WP P r (.seq (.region id l.toArray false) y) Q) Q') []):=tr_seq (tr_region h)
theorem s_t {N:Act → World → Prop} (h:Tr c D sl hs N):Tr c D sl hs (WP P r .skip (Exit.then N Q)):=tr_skip h
theorem x_t {N:Act → World → Prop} {id:Nat} (h:Tr c D sl hs (Q (.exit id))):Tr c D sl hs (WP P r (.exit id) (Exit.then N Q)):=tr_exit h
theorem r_t {N:Act → World → Prop} (h:Tr c D sl hs (Q .ret)):Tr c D sl hs (WP P r .ret (Exit.then N Q)):=tr_ret h
theorem m_v {x:Operand} {v:Value} (hx:ev sl x = some v) (hd:Nat.blt d c.nt = true) (k:Tr c D ((d,v) :: sl) hs (WL P r ops Q rest)):Tr c D sl hs (WL P r ops Q (⟨some d,.move x,ty,pos,af,none⟩ :: rest)):=tr_val (rk_move (.of hx)) hd k
theorem a_s {x:Operand} {v:Value} (hx:ev sl x = some v) (hd:Nat.blt d c.nt = true) (k:Tr c D ((d,v) :: sl) hs (WL P r ops Q rest)):Tr c D sl hs (WL P r ops Q (⟨some d,.assign x,ty,pos,af,none⟩ :: rest)):=tr_val (rk_assign (.of hx)) hd k
theorem a_m {x:Operand} {v:Value} (hx:ev sl x = some v) (hd:Nat.blt d c.nt = true) (k:AnyT P r c D hs ops Q m rest ((d,v) :: sl) rl):AnyT P r c D hs ops Q (m + 1) (⟨some d,.move x,ty,pos,af,none⟩ :: rest) sl rl:=any_val (rk_move (.of hx)) hd k
theorem f_a {t:TypeId} {i o:Nat} {x:Operand} {b k q:Nat} [FOff P t i o] (hx:ev sl x = some (.pointer (some ⟨b,k,none⟩))) (hd:Nat.blt d c.nt = true) (he:k + o = q) (h:Tr c D ((d,.pointer (some ⟨b,q,none⟩)) :: sl) hs (WL P r ops Q rest)) :
    Tr c D sl hs (WL P r ops Q (⟨some d,.fieldAddr t x i,ty,pos,af,none⟩ :: rest)):=tr_val (rk_fieldAddr (.of hx) he) hd h
theorem a_f {t:TypeId} {i o:Nat} {x:Operand} {b k q:Nat} [FOff P t i o] (hx:ev sl x = some (.pointer (some ⟨b,k,none⟩))) (hd:Nat.blt d c.nt = true) (he:k + o = q) (h:AnyT P r c D hs ops Q m rest ((d,.pointer (some ⟨b,q,none⟩)) :: sl) rl) :
    AnyT P r c D hs ops Q (m + 1) (⟨some d,.fieldAddr t x i,ty,pos,af,none⟩ :: rest) sl rl:=any_val (rk_fieldAddr (.of hx) he) hd h
theorem v_g {x:Operand} {v:Value} {j g:Nat} {want q:Bool} (hj:((ops[j]?).bind (·.dst)) = some g) (hq:sget sl g = some (.bool q)) (hx:ev sl x = some v) (hd:Nat.blt d c.nt = true) (k:Tr c D ((d,gv (q == want) v) :: sl) hs (WL P r ops Q rest)) :
    Tr c D sl hs (WL P r ops Q (⟨some d,.move x,ty,pos,af,some (j,want)⟩ :: rest)):=tr_valG1 hj hq (fun _=>rk_move (.of hx)) hd k
theorem c_d {x:Operand} {p:Prop} {inst:Decidable p} {u v:Code} (hx:ev sl x = some (.bool (decide p))) (ht:p → Tr c D sl hs (WP P r u Q)) (hf:¬ p → Tr c D sl hs (WP P r v Q)):Tr c D sl hs (WP P r (.cond x u v) Q):=tr_cond_d (.of hx) ht hf
theorem c_b {x:Operand} {b:Bool} {p q:Prop} {u v:Code} (hx:ev sl x = some (.bool b)) [hb:BP b p q] (ht:p → Tr c D sl hs (WP P r u Q)) (hf:q → Tr c D sl hs (WP P r v Q)):Tr c D sl hs (WP P r (.cond x u v) Q):=tr_condB (.of hx) hb ht hf
end
end Go.SL
namespace Go.SL
open Go
inductive Step where
  | rel (R:Rel)
  | new (V:Nat → Value) (ob:Obj)
def Step.r:Step → Rel
  | .rel R=>R
  | .new V ob=>relNew V ob
section
variable {P:Program} {r:Option Nat} {c:Cx} {D:List Nat} {sl sl':Slots} {rl rl':RSlots} {hs:List Asn} {Q:Exit → Act → World → Prop} {l:List Oper} {ops:Array Oper} {m:Nat} {S:List Step}
inductive PlanO (P:Program) (c:Cx) (hs:List Asn) (ops:Array Oper):List Oper → Slots → RSlots → List Step → Slots → RSlots → Prop
  | nil {sl:Slots} {rl:RSlots}:PlanO P c hs ops [] sl rl [] sl rl
  | val {o:Oper} {l:List Oper} {sl sl':Slots} {rl rl':RSlots} {d:Nat} {V:Value} {S:List Step} (hd:o.dst = some d) (hdn:d < c.nt) (h:StepQ P c hs ops sl rl o (.val V)) (t:PlanO P c hs ops l ((d,V) :: sl) rl S sl' rl') :
      PlanO P c hs ops (o :: l) sl rl (.rel (.val V) :: S) sl' rl'
  | new {o:Oper} {l:List Oper} {sl sl':Slots} {rl rl':RSlots} {d:Nat} {V:Nat → Value} {ob:Obj} {S:List Step} (hd:o.dst = some d) (hdn:d < c.nt) (hn:sget sl d = none) (hg:o.guard = none)
      (hr:RunN P c sl hs o V ob) (t:PlanO P c hs ops l sl ((d,relNew V ob) :: rl) S sl' rl'):PlanO P c hs ops (o :: l) sl rl (.new V ob :: S) sl' rl'
theorem PlanO.plan {sl sl':Slots} {rl rl':RSlots} (h:PlanO P c hs ops l sl rl S sl' rl'):Plan P c hs ops l sl rl (S.map Step.r) sl' rl':=by
  induction h with
  | nil=>exact .nil
  | val hd hdn h _ ih=>exact .val hd hdn h ih
  | @new o l sl sl' rl rl' d V ob S hd hdn hn hg hr _ ih =>
    refine .rel hd hdn hn (stepQ_of hg fun a w h1 _ h3=>?_) ih
    unfold QRun
    rw [hr.2 a w h1 h3]
    exact ⟨.alloc _ _ _,w.heap.size,rfl,World.alloc_heap_new w ob⟩
theorem PlanO.at_new {sl sl':Slots} {rl rl':RSlots} (h:PlanO P c hs ops l sl rl S sl' rl') :
    ∀ (i : Nat) (o : Oper) (V : Nat → Value) (ob : Obj), l[i]? = some o → S[i]? = some (.new V ob) → ∃ sli, o.guard = none ∧ RunN P c sli hs o V ob ∧
      (∀ t v,sget sli t = some v → (∃ (j:Nat) (oj:Oper),j < i ∧ l[j]? = some oj ∧ oj.dst = some t ∧ (S.map Step.r)[j]? = some (.val v)) ∨ ((∀ (j:Nat) (oj:Oper),j < i → l[j]? = some oj → oj.dst ≠ some t) ∧ sget sl t = some v)):=by
  induction h with
  | nil=>intro i o V ob h;simp at h
  | @val o0 l sl sl' rl rl' d V0 S hd hdn hst t ih =>
    intro i o V ob ho hS
    cases i with
    | zero=>simp at hS
    | succ i =>
      obtain ⟨sli,hg,hr,h1⟩:=ih i o V ob (by simpa using ho) (by simpa using hS)
      refine ⟨sli,hg,hr,fun t v hv=>?_⟩
      rcases h1 t v hv with ⟨j,oj,hj,hlj,hdj,hSj⟩ | ⟨hno,hv'⟩
      · exact .inl ⟨j + 1,oj,by omega,by simpa using hlj,hdj,by simpa using hSj⟩
      · by_cases hdt:d = t
        · subst hdt
          rw [sget_cons_eq] at hv'
          cases hv'
          exact .inl ⟨0,o0,by omega,rfl,hd,rfl⟩
        · rw [sget_cons_ne hdt] at hv'
          refine .inr ⟨fun j oj hj hlj=>?_,hv'⟩
          cases j with
          | zero=>simp at hlj;subst hlj;rw [hd];simp [hdt]
          | succ j=>exact hno j oj (by omega) (by simpa using hlj)
  | @new o0 l sl sl' rl rl' d V0 ob0 S hd hdn hn hg0 hr0 t ih =>
    intro i o V ob ho hS
    cases i with
    | zero =>
      simp at ho hS
      subst ho
      obtain ⟨rfl,rfl⟩:=hS
      exact ⟨sl,hg0,hr0,fun t v hv=>.inr ⟨fun j _ hj=>by omega,hv⟩⟩
    | succ i =>
      obtain ⟨sli,hg,hr,h1⟩:=ih i o V ob (by simpa using ho) (by simpa using hS)
      refine ⟨sli,hg,hr,fun t v hv=>?_⟩
      rcases h1 t v hv with ⟨j,oj,hj,hlj,hdj,hSj⟩ | ⟨hno,hv'⟩
      · exact .inl ⟨j + 1,oj,by omega,by simpa using hlj,hdj,by simpa using hSj⟩
      · have hdt:d ≠ t:=fun e=>by subst e;rw [hn] at hv';cases hv'
        refine .inr ⟨fun j oj hj hlj=>?_,hv'⟩
        cases j with
        | zero=>simp at hlj;subst hlj;rw [hd];simp [hdt]
        | succ j=>exact hno j oj (by omega) (by simpa using hlj)
def als (β:Nat → Nat) (lst:Nat → Bool):List Step → Nat → List Asn
  | [],_=>[]
  | .new _ ob :: S,i=>if lst i then blk (β i) ob :: als β lst S (i + 1) else als β lst S (i + 1)
  | .rel _ :: S,i=>als β lst S (i + 1)
theorem als_same {β β':Nat → Nat} {lst lst':Nat → Bool}:∀ {S:List Step} {i:Nat},(∀ j V ob,S[j]? = some (.new V ob) → lst (i + j) = lst' (i + j) ∧ (lst (i + j) = true → β (i + j) = β' (i + j))) → als β lst S i = als β' lst' S i
  | [],_,_=>rfl
  | .rel _ :: S, i, h => by
    unfold als
    exact als_same fun j V ob hj=>by have:=h (j + 1) V ob (by simpa using hj);rwa [show i + (j + 1) = i + 1 + j from by omega] at this
  | .new V ob :: S, i, h => by
    have h0:=h 0 V ob rfl
    have ih:als β lst S (i + 1) = als β' lst' S (i + 1):=als_same fun j V ob hj=>by have:=h (j + 1) V ob (by simpa using hj);rwa [show i + (j + 1) = i + 1 + j from by omega] at this
    simp only [Nat.add_zero] at h0
    unfold als
    rw [ih,← h0.1]
    by_cases hl:lst i = true
    · rw [if_pos hl,if_pos hl,h0.2 hl]
    · rw [if_neg hl,if_neg hl]
theorem als_add {β β':Nat → Nat} {lst lst':Nat → Bool} {k b:Nat} {V:Nat → Value} {ob:Obj}:∀ {S:List Step} {i:Nat},S[k]? = some (.new V ob) → lst (i + k) = false → lst' (i + k) = true → β' (i + k) = b → (∀ j,j ≠ i + k → lst' j = lst j ∧ β' j = β j) →
    (blk b ob :: als β lst S i).Perm (als β' lst' S i)
  | [],_,h,_,_,_,_=>by simp at h
  | .rel _ :: S, i, h, h1, h2, h3, h4 => by
    cases k with
    | zero=>simp at h
    | succ k =>
      unfold als
      refine als_add (k:=k) (V:=V) (by simpa using h) ?_ ?_ ?_ ?_
      all_goals rw [show i + 1 + k = i + (k + 1) from by omega];assumption
  | .new V0 ob0 :: S, i, h, h1, h2, h3, h4 => by
    cases k with
    | zero =>
      simp at h
      obtain ⟨rfl,rfl⟩:=h
      have e:als β lst S (i + 1) = als β' lst' S (i + 1):=als_same fun j V ob hj=>by
        obtain ⟨e1,e2⟩:=h4 (i + 1 + j) (by omega)
        exact ⟨e1.symm,fun _=>e2.symm⟩
      simp only [Nat.add_zero] at h1 h2 h3
      unfold als
      rw [if_neg (by simp [h1]),if_pos h2,h3,e]
    | succ k =>
      have ih:(blk b ob :: als β lst S (i + 1)).Perm (als β' lst' S (i + 1)):=by
        refine als_add (k:=k) (V:=V) (by simpa using h) ?_ ?_ ?_ ?_
        all_goals rw [show i + 1 + k = i + (k + 1) from by omega];assumption
      obtain ⟨e1,e2⟩:=h4 i (by omega)
      unfold als
      rw [e1,e2]
      by_cases hl:lst i = true
      · rw [if_pos hl,if_pos hl]
        exact (List.Perm.swap _ _ _).trans (ih.cons _)
      · rw [if_neg hl,if_neg hl];exact ih
theorem Sats.perm {h:Nat → Option Obj} {l1 l2:List Asn} (hp:l1.Perm l2):∀ {fp:List Nat},Sats h l1 fp → ∃ fp',Sats h l2 fp' ∧ fp.Perm fp':=by
  induction hp with
  | nil=>intro fp hf;exact ⟨fp,hf,.refl _⟩
  | cons A _ ih =>
    rintro fp ⟨f1,f2,rfl,h1,h2⟩
    obtain ⟨g,hg,hpg⟩:=ih h2
    exact ⟨f1++g,⟨f1,g,rfl,h1,hg⟩,hpg.append_left f1⟩
  | swap A B l =>
    rintro fp ⟨f1,_,rfl,h1,f2,f3,rfl,h2,h3⟩
    refine ⟨f2++(f1++f3),⟨f2,f1++f3,rfl,h2,f1,f3,rfl,h1,h3⟩,?_⟩
    rw [← List.append_assoc,← List.append_assoc]
    exact List.perm_append_comm.append_right f3
  | trans _ _ ih1 ih2 =>
    intro fp hf
    obtain ⟨g,hg,h1⟩:=ih1 hf
    obtain ⟨g',hg',h2⟩:=ih2 hg
    exact ⟨g',hg',h1.trans h2⟩
theorem Mem.perm {c:Cx} {l1 l2:List Asn} {w:World} (h:Mem c l1 w) (hp:l1.Perm l2):Mem c l2 w:=by
  obtain ⟨k,fp,hn,hs,hb⟩:=h
  obtain ⟨g,hg,hpg⟩:=hs.perm hp
  exact ⟨k,g,hpg.nodup_iff.1 hn,hg,fun b hb'=>hb b (hpg.mem_iff.2 hb')⟩
def OwnO (c:Cx) (D:List Nat) (hs:List Asn) (l:List Oper) (S:List Step) (listed:Array Bool) (a:Act) (w:World):Prop:=
  ∃ β : Nat → Nat, Mem c (als β (fun i => listed.getD i false) S 0 ++ (hs ++ mks D)) w ∧ (∀ i, c.w0.heap.size ≤ β i ∨ ¬ Ls listed i ∨ ∀ V ob, S[i]? ≠ some (.new V ob)) ∧
    ∀ (i:Nat) (o:Oper) (d:Nat) (V:Nat → Value) (ob:Obj),l[i]? = some o → o.dst = some d → S[i]? = some (.new V ob) → Ls listed i → a.tmps[d]? = some (V (β i))
theorem phase1O (hc:Chk l m) (hpO:PlanO P c hs l.toArray (l.take m) sl [] S sl' rl') {a0:Act} (h0:SlotsOk sl a0) (hn0:a0.tmps.size = c.nt)
    (tail:∀ listed a w,(∀ i,i < m → Ls listed i) → St c D sl' hs a w → OwnO c D hs (l.take m) S listed a w → WL P r l.toArray Q (l.drop m) a w) :
    ∀ (fuel:Nat) (listed:Array Bool) (a:Act) (w:World),Inv1 c D hs l m (S.map Step.r) a0 fuel listed a w → OwnO c D hs (l.take m) S listed a w → wpAnyIn (FR r) 0 P .any l.toArray Q fuel listed a w:=by
  have hp:=hpO.plan
  have hend:=hp.end_
  have htake:∀ (j:Nat) (o:Oper),j < m → l[j]? = some o → (l.take m)[j]? = some o:=fun j o hj ho=>by rw [List.getElem?_take,if_pos hj];exact ho
  have htake':∀ (j:Nat) (o:Oper),(l.take m)[j]? = some o → j < m ∧ l[j]? = some o:=fun j o ho=>by
    rw [List.getElem?_take] at ho
    split at ho
    · exact ⟨by assumption,ho⟩
    · cases ho
  have hfin:∀ fuel listed a w,Inv1 c D hs l m (S.map Step.r) a0 fuel listed a w → OwnO c D hs (l.take m) S listed a w → (∀ i,i < m → Ls listed i) → wpAnyIn (FR r) 0 P .any l.toArray Q fuel listed a w:=by
    intro fuel listed a w hI hO hall
    have hL:∀ i,i < l.length → (Ls listed i ↔ i < m):=fun i _=>⟨fun h=>Nat.lt_of_not_le fun hm=>hI.hi i hm h,hall i⟩
    obtain ⟨U,hU1,hU2,hU3⟩:=hI.left
    have hperm:U.Perm (List.range' m (l.length - m)):=by
      rw [List.perm_ext_iff_of_nodup hU1 (List.nodup_range')]
      intro i
      rw [hU2 i,List.mem_range'_1]
      constructor
      · rintro ⟨h1,h2⟩
        exact ⟨Nat.le_of_not_lt fun h=>h2 (hall i h),by omega⟩
      · rintro ⟨h1,h2⟩
        exact ⟨by omega,hI.hi i h1⟩
    have hlen:fuel = l.length - m:=by rw [← hU3,hperm.length_eq,List.length_range']
    refine phase2 hc fuel m listed a w (Nat.le_refl _) (by have:=hc.le;omega) hI.sz hL (tail listed a w hall ⟨hI.mem,?_,hI.size,hI.defers⟩ hO)
    · intro t v hv
      rcases hend.1 t v hv with ⟨j,oj,hj,hdj,hSj⟩ | ⟨hno,hv'⟩
      · obtain ⟨hjm,hj'⟩:=htake' j oj hj
        obtain ⟨u,hu,hp'⟩:=hI.new j oj hj' (hall j hjm) t _ hdj hSj
        rw [hu,show u = v from hp']
      · rw [hI.old t fun j oj hj hLj=>hno j oj (htake j oj (Nat.lt_of_not_le fun hm=>hI.hi j hm hLj) hj)]
        exact h0 t v hv'
  intro fuel
  induction fuel with
  | zero =>
    intro listed a w hI hO
    obtain ⟨U,_,hU2,hU3⟩:=hI.left
    have hU:U = []:=List.length_eq_zero_iff.1 hU3
    refine hfin 0 listed a w hI hO fun i hi=>Classical.byContradiction fun hn=>?_
    have:=(hU2 i).2 ⟨by have:=hc.le;omega,hn⟩
    rw [hU] at this;cases this
  | succ fuel ih =>
    intro listed a w hI hO
    by_cases hall:∀ i,i < m → Ls listed i
    · exact hfin _ listed a w hI hO hall
    · have hex:∃ i,i < m ∧ ¬ Ls listed i:=Classical.byContradiction fun hh=>hall fun i hi=>Classical.byContradiction fun hn=>hh ⟨i,hi,hn⟩
      obtain ⟨i0,hi0,hn0'⟩:=hex
      refine ⟨fun hr=>?_,fun i hi=>?_⟩
      · obtain ⟨i,hi⟩:=least_ready hI.sz hc.ac ⟨i0,by have:=hc.le;omega,hn0'⟩
        rw [hr] at hi;cases hi
      · have him:i < m:=Nat.lt_of_not_le fun hm=>hn0' (ready_mask hc hI.sz hI.dc hi hm i0 (by omega))
        obtain ⟨o,ho,hn,hdeps⟩:=(mem_ready' hI.sz).1 hi
        obtain ⟨sli,rli,R,hRi,hstep,hs1,hs2⟩:=hp.at_ i o (htake i o him ho)
        obtain ⟨d,R',hd,hdn,hSi⟩:=hend.2.2 i o (htake i o him ho)
        rw [hRi] at hSi;cases hSi
        have hwait:∀ (j:Nat),waitsOn o j = true → Ls listed j:=fun j hw=>by
          obtain ⟨e,he,hb,hon⟩:=waitsOn_spec hw
          rw [← hon];exact hdeps e he hb
        have hback:∀ (j t:Nat) (oj:Oper),j < i → (l.take m)[j]? = some oj → oj.dst = some t → t ∈ o.looksAt l.toArray → Ls listed j:=by
          intro j t oj hj hlj hdj ht
          obtain ⟨hjm,hj'⟩:=htake' j oj hlj
          exact hwait j ((pair_spec (pair_at hc hj him hj' ho) hdj hd).2 (.inl ht))
        have hfill:∀ sli:Slots,(∀ t v,sget sli t = some v → (∃ (j:Nat) (oj:Oper),j < i ∧ (l.take m)[j]? = some oj ∧ oj.dst = some t ∧ (S.map Step.r)[j]? = some (.val v)) ∨ ((∀ (j:Nat) (oj:Oper),j < i → (l.take m)[j]? = some oj → oj.dst ≠ some t) ∧ sget sl t = some v)) →
            ∃ a':Act,SlotsOk sli a' ∧ ∀ t ∈ o.looksAt l.toArray,a'.tmps[t]? = a.tmps[t]?:=by
          intro sli hs1
          have hT:∀ t ∈ o.looksAt l.toArray,∀ v,sget sli t = some v → a.tmps[t]? = some v:=by
            intro t ht v hv
            rcases hs1 t v hv with ⟨j,oj,hj,hlj,hdj,hSj⟩ | ⟨hno,hv'⟩
            · obtain ⟨u,hu,hp'⟩:=hI.new j oj (htake' j oj hlj).2 (hback j t oj hj hlj hdj ht) t _ hdj hSj
              rw [hu,show u = v from hp']
            · rw [hI.old t fun j oj hj hLj hdj=>?_]
              · exact h0 t v hv'
              · have hjm:j < m:=Nat.lt_of_not_le fun hm=>hI.hi j hm hLj
                rcases Nat.lt_trichotomy j i with h | h | h
                · exact hno j oj h (htake j oj hjm hj) hdj
                · subst h;exact hn hLj
                · have hw:=(pair_spec (pair_at hc h hjm ho hj) hd hdj).2 (.inr ht)
                  obtain ⟨e,he,hb,hon⟩:=waitsOn_spec hw
                  have:=hI.dc j oj hj hLj e he hb
                  rw [hon] at this
                  exact hn this
          have hkey:∀ t v,sget sli t = some v → t < c.nt:=by
            intro t v hv
            rcases hs1 t v hv with ⟨j,oj,_,hlj,hdj,_⟩ | ⟨_,hv'⟩
            · obtain ⟨d',_,hd',hdn',_⟩:=hend.2.2 j oj hlj
              rw [hdj] at hd';cases hd'
              exact hdn'
            · have:=h0 t v hv'
              rw [← hn0]
              exact (Array.getElem?_eq_some_iff.1 this).1
          obtain ⟨a',ha1,ha2,_⟩:=fill_act hI.size hkey hT
          exact ⟨a',ha1,ha2⟩
        have hdist:∀ (j:Nat) (oj:Oper) (e:Nat),l[j]? = some oj → j < m → j ≠ i → oj.dst = some e → d ≠ e:=by
          intro j oj e hj hjm hne he
          rcases Nat.lt_or_ge j i with h | h
          · exact fun e'=>(pair_spec (pair_at hc h him hj ho) he hd).1 e'.symm
          · exact (pair_spec (pair_at hc (show i < j by omega) hjm ho hj) hd he).1
        have hil:i < listed.size:=by rw [hI.sz];have:=hc.le;omega
        have hoo:opOk o = true:=hc.op o (List.mem_of_getElem? ho)
        have hnext:∀ v w',Keeps [] w w' → R.p v w' → OwnO c D hs (l.take m) S (listed.setIfInBounds i true) (a.put o.dst v) w' → wpAnyIn (FR r) 0 P .any l.toArray Q fuel (listed.setIfInBounds i true) (a.put o.dst v) w':=fun v w' hk hv hO'=>
          ih _ _ _ (inv_step hc hc.le hI hi him ho hd hdn hRi (fun j oj hj hlj=>let ⟨e,_,he,_⟩:=hend.2.2 j oj (htake j oj hj hlj);⟨e,he⟩) hk hv) hO'
        unfold wpOpIn
        rw [show l.toArray[i]? = some o from by simpa using ho]
        simp only []
        have hSi:∃ st,S[i]? = some st ∧ st.r = R:=by
          rw [List.getElem?_map] at hRi
          obtain ⟨st,h1,h2⟩:=Option.map_eq_some_iff.1 hRi
          exact ⟨st,h1,h2⟩
        obtain ⟨st,hSi,hst⟩:=hSi
        have hgetne:∀ j,j ≠ i → (listed.setIfInBounds i true).getD j false = listed.getD j false:=fun j hj=>by
          simp [Array.getD_eq_getD_getElem?,Array.getElem?_setIfInBounds_ne (Ne.symm hj)]
        cases st with
        | new V ob =>
          obtain ⟨sln,hgn,hrn,hs1n⟩:=hpO.at_new i o V ob (htake i o him ho) hSi
          obtain ⟨a',ha1,ha2⟩:=hfill sln hs1n
          have hex:=exec_of_same (o:=o) (ops:=l.toArray) hoo ha2
          have hrun:=hrn.2 a' w ha1 hI.mem.dropTail
          rw [if_pos (by simp [Region.wanted,hgn])]
          refine ⟨fr_about _ _ _ _ _,?_⟩
          rw [Oper.semAt_eq _ _ _ (fun cc he=>by simp [opOk,he] at hoo),← hex,hrun]
          refine hnext _ _ (.alloc _ _ _) (by rw [← hst];exact ⟨w.heap.size,rfl,World.alloc_heap_new w ob⟩) ?_
          obtain ⟨β,hm,hb,hsl⟩:=hO
          refine ⟨fun k=>if k = i then w.heap.size else β k,?_,?_,?_⟩
          · refine Mem.perm (hm.alloc ob) ((als_add (k:=i) (V:=V) hSi ?_ ?_ ?_ ?_).append_right _)
            · rw [Nat.zero_add]
              show listed.getD i false = false
              have:¬ listed.getD i false = true:=hn
              simpa using this
            · rw [Nat.zero_add];exact (getD_set hil).2 (.inl rfl)
            · simp
            · intro j hj
              rw [Nat.zero_add] at hj
              exact ⟨hgetne j hj,by simp [hj]⟩
          · intro j
            by_cases e:j = i
            · subst e;left;simp;exact hI.mem.keeps.size
            · rcases hb j with h | h | h
              · left;simpa [e] using h
              · right;left;intro h';exact h (((getD_set hil).1 h').resolve_left e)
              · exact .inr (.inr h)
          · intro j oj e V' ob' hj hdj hSj hLj
            by_cases ej:j = i
            · subst ej
              rw [hSi] at hSj;cases hSj
              obtain ⟨hjm,hj'⟩:=htake' j oj hj
              rw [ho] at hj';cases hj'
              rw [hd] at hdj;cases hdj
              rw [hd]
              simp [Act.put,hI.size,hdn]
            · obtain ⟨hjm,hj'⟩:=htake' j oj hj
              have hL':=((getD_set hil).1 hLj).resolve_left ej
              have:=hsl j oj e V' ob' hj hdj hSj hL'
              rw [hd]
              simp only [Act.put,Array.getElem?_setIfInBounds_ne (hdist j oj e hj' hjm ej hdj),if_neg ej]
              exact this
        | rel R0 =>
          have hO':∀ v w',Keeps [] w w' → OwnO c D hs (l.take m) S (listed.setIfInBounds i true) (a.put o.dst v) w':=by
            intro v w' hk
            obtain ⟨β,hm,hb,hsl⟩:=hO
            refine ⟨β,?_,?_,?_⟩
            · have e:als β (fun j=>(listed.setIfInBounds i true).getD j false) S 0 = als β (fun j=>listed.getD j false) S 0:=als_same fun j V ob hj=>by
                have:j ≠ i:=fun e=>by subst e;rw [hSi] at hj;cases hj
                rw [Nat.zero_add]
                exact ⟨hgetne j this,fun _=>rfl⟩
              rw [e];exact hm.keepsOn hk
            · intro j
              by_cases e:j = i
              · subst e;right;right;intro V ob h;rw [hSi] at h;cases h
              · rcases hb j with h | h | h
                · exact .inl h
                · right;left;intro h';exact h (((getD_set hil).1 h').resolve_left e)
                · exact .inr (.inr h)
            · intro j oj e V' ob' hj hdj hSj hLj
              have ej:j ≠ i:=fun e=>by subst e;rw [hSi] at hSj;cases hSj
              obtain ⟨hjm,hj'⟩:=htake' j oj hj
              have hL':=((getD_set hil).1 hLj).resolve_left ej
              have:=hsl j oj e V' ob' hj hdj hSj hL'
              rw [hd]
              simp only [Act.put,Array.getElem?_setIfInBounds_ne (hdist j oj e hj' hjm ej hdj)]
              exact this
          obtain ⟨a',ha1,ha2⟩:=hfill sli hs1
          have hrel:RelsAt (o.looksAt l.toArray) rli a' w:=by
            intro t Rt hm ht
            rcases hs2 t Rt hm with ⟨j,oj,hj,hlj,hdj,hSj⟩ | hm'
            · obtain ⟨v,hv,hp'⟩:=hI.new j oj (htake' j oj hlj).2 (hback j t oj hj hlj hdj ht) t _ hdj hSj
              exact ⟨v,by rw [ha2 t ht];exact hv,hp'⟩
            · cases hm'
          have hq:=hstep a' w ha1 hrel hI.mem.dropTail
          have hex:=exec_of_same (o:=o) (ops:=l.toArray) hoo ha2
          rw [wanted_of_same ha2] at hq
          split
          · rename_i hw
            rw [if_pos hw] at hq
            refine ⟨fr_about _ _ _ _ _,?_⟩
            rw [Oper.semAt_eq _ _ _ (fun cc he=>by simp [opOk,he] at hoo),← hex]
            unfold QRun at hq
            revert hq
            generalize (execOp a'.eval o).run P w = res
            intro hq
            match res,hq with
            | .ok (.value v) w',⟨hk,hv⟩=>exact hnext v w' hk hv (hO' v w' hk)
            | .ok (.enter f args) w', ⟨e, hcall⟩ =>
              subst e
              refine ⟨by simp [FR,Fence.wide],(calls_wide hcall).mono fun e w'' h=>?_⟩
              obtain ⟨v,rfl,hk,hv⟩:=h
              exact hnext v w'' hk hv (hO' v w'' hk)
          · rename_i hw
            rw [if_neg hw] at hq
            exact ⟨fun _ _=>trivial,hnext undef w (.refl _ _) hq (hO' undef w (.refl _ _))⟩
theorem als_none {β:Nat → Nat} {lst:Nat → Bool} (h:∀ i,lst i = false):∀ {S:List Step} {i:Nat},als β lst S i = []
  | [],_=>rfl
  | .rel _ :: S,i=>by unfold als;exact als_none h
  | .new _ _ :: S,i=>by unfold als;rw [if_neg (by simp [h]),als_none h]
theorem tr_drawO_plan {id:Nat} (hmix:P.follows .mixedOrders = true) (hck:regOk l m = true) (hp:PlanO P c hs l.toArray (l.take m) sl [] S sl' rl')
    (tail:∀ listed a w,(∀ i,i < m → Ls listed i) → St c D sl' hs a w → OwnO c D hs (l.take m) S listed a w → WL P r l.toArray Q (l.drop m) a w):Tr c D sl hs (WP P r (.region id l.toArray true) Q):=fun a w hst=>by
  unfold WP
  refine wpIn_region_any hmix ?_
  refine phase1O (regOk_spec hck) hp hst.slots hst.size tail l.toArray.size _ a _ ⟨by simp,?_,?_,?_,hst.defers,hst.size,fun t _=>rfl,?_,List.range l.length,List.nodup_range,?_,by simp⟩ ?_
  · exact fun k o _ hL=>absurd hL (not_Ls _ _)
  · exact fun k _ hL=>not_Ls _ _ hL
  · exact hst.mem.drew
  · exact fun j o _ hL=>absurd hL (not_Ls _ _)
  · exact fun i=>⟨fun h=>⟨by simpa using h,not_Ls _ _⟩,fun h=>by simpa using h.1⟩
  · refine ⟨fun _=>c.w0.heap.size,?_,fun i=>.inl (Nat.le_refl _),fun i o d V ob _ _ _ hL=>absurd hL (not_Ls _ _)⟩
    rw [als_none fun i=>by have:=not_Ls l.toArray.size i;unfold Ls at this;simpa using this]
    exact hst.mem.drew
def slA (β:Nat → Nat):List Oper → List Step → Nat → Slots
  | o :: l,.new V _ :: S,i=>(o.dst.getD 0,V (β i)) :: slA β l S (i + 1)
  | _ :: l,.rel _ :: S,i=>slA β l S (i + 1)
  | _,_,_=>[]
theorem slA_mem {β:Nat → Nat}:∀ {l:List Oper} {S:List Step} {i:Nat} {p:Nat × Value},p ∈ slA β l S i → ∃ (j:Nat) (o:Oper) (V:Nat → Value) (ob:Obj),l[j]? = some o ∧ S[j]? = some (.new V ob) ∧ p = (o.dst.getD 0,V (β (i + j)))
  | [],_,_,_,h=>by cases h
  | _ :: _,[],_,_,h=>by cases h
  | o :: l, .new V ob :: S, i, p, h => by
    unfold slA at h
    rcases List.mem_cons.1 h with h | h
    · exact ⟨0,o,V,ob,rfl,rfl,h⟩
    · obtain ⟨j,o',V',ob',h1,h2,h3⟩:=slA_mem h
      exact ⟨j + 1,o',V',ob',by simpa using h1,by simpa using h2,by rw [h3,show i + 1 + j = i + (j + 1) from by omega]⟩
  | o :: l, .rel R :: S, i, p, h => by
    unfold slA at h
    obtain ⟨j,o',V',ob',h1,h2,h3⟩:=slA_mem h
    exact ⟨j + 1,o',V',ob',by simpa using h1,by simpa using h2,by rw [h3,show i + 1 + j = i + (j + 1) from by omega]⟩
theorem slotsOk_append {L s:Slots} {a:Act} (h:∀ p ∈ L,a.tmps[p.1]? = some p.2) (hs:SlotsOk s a):SlotsOk (L++s) a:=by
  induction L with
  | nil=>exact hs
  | cons p L ih =>
    intro t v hv
    obtain ⟨d,u⟩:=p
    by_cases e:d = t
    · subst e
      rw [List.cons_append,sget_cons_eq] at hv
      cases hv
      exact h (d,v) (by simp)
    · rw [List.cons_append,sget_cons_ne e] at hv
      exact ih (fun p hp=>h p (by simp [hp])) t v hv
def zs (nl:List (Nat × (Nat → Value) × Obj)) (bs:List Nat):Slots:=(nl.zip bs).map fun x=>(x.1.1,x.1.2.1 x.2)
def zb (nl:List (Nat × (Nat → Value) × Obj)) (bs:List Nat):List Asn:=(nl.zip bs).map fun x=>blk x.2 x.1.2.2
def AnyO (P:Program) (r:Option Nat) (c:Cx) (D:List Nat) (hs:List Asn) (ops:Array Oper) (Q:Exit → Act → World → Prop) (nl:List (Nat × (Nat → Value) × Obj)) (m:Nat) (l:List Oper) (sl:Slots) (rl:RSlots):Prop:=
  ∃ S sl' rl', PlanO P c hs ops (l.take m) sl rl S sl' rl' ∧ ∀ (bs : List Nat) (β : Nat → Nat) (i0 : Nat), bs.length = nl.length → (∀ b ∈ bs, c.w0.heap.size ≤ b) → (∀ i V ob, S[i]? = some (.new V ob) → c.w0.heap.size ≤ β (i0 + i)) →
    Tr c D (zs nl bs++slA β (l.take m) S i0++sl') (zb nl bs++als β (fun _=>true) S i0++hs) (WL P r ops Q (l.drop m))
theorem tr_drawO {id:Nat} {l:List Oper} (m:Nat) [hmix:Mix P] (hck:regOk l m = true) (k:AnyO P r c D hs l.toArray Q [] m l sl []):Tr c D sl hs (WP P r (.region id l.toArray true) Q):=by
  obtain ⟨S,sl',rl',hp,ht⟩:=k
  have hend:=hp.plan.end_
  have hlen:∀ i V ob,S[i]? = some (.new V ob) → i < m:=by
    intro i V ob h
    have h1:=(List.getElem?_eq_some_iff.1 h).1
    have key2:∀ {l0:Array Oper} {l:List Oper} {sl sl':Slots} {rl rl':RSlots} {S:List Step},PlanO P c hs l0 l sl rl S sl' rl' → S.length = l.length:=by
      intro l0 l sl sl' rl rl' S h
      induction h with
      | nil=>rfl
      | val _ _ _ _ ih=>simp [ih]
      | new _ _ _ _ _ _ ih=>simp [ih]
    rw [key2 hp,List.length_take] at h1
    omega
  refine tr_drawO_plan hmix.eq hck hp fun listed a w hall hst hO=>?_
  obtain ⟨β,hm,hb,hsl⟩:=hO
  have hall':∀ i V ob,S[i]? = some (.new V ob) → Ls listed i:=fun i V ob h=>hall i (hlen i V ob h)
  have hbb:∀ i V ob,S[i]? = some (.new V ob) → c.w0.heap.size ≤ β (0 + i):=fun i V ob h=>by
    rw [Nat.zero_add]
    rcases hb i with h1 | h1 | h1
    · exact h1
    · exact absurd (hall' i V ob h) h1
    · exact absurd h (h1 V ob)
  refine ht [] β 0 rfl (fun b hb=>by cases hb) hbb a w ⟨?_,?_,hst.size,hst.defers⟩
  · have e:als β (fun i=>listed.getD i false) S 0 = als β (fun _=>true) S 0:=als_same fun j V ob hj=>by
      rw [Nat.zero_add]
      exact ⟨hall' j V ob hj,fun _=>rfl⟩
    rw [e] at hm
    simpa [zb,List.append_assoc] using hm
  · refine slotsOk_append (L:=zs [] []++slA β (List.take m l) S 0) (fun p hp'=>?_) hst.slots
    obtain ⟨j,o,V,ob,h1,h2,rfl⟩:=slA_mem (by simpa [zs] using hp')
    obtain ⟨d,R,hd,hdn,_⟩:=hend.2.2 j o h1
    rw [hd,Nat.zero_add]
    exact hsl j o d V ob h1 hd h2 (hall' j V ob h2)
section
variable {nl:List (Nat × (Nat → Value) × Obj)} {d:Nat} {op:Op} {ty:TypeId} {pos:String} {af:Array Edge} {rest:List Oper}
theorem ao_end1 {V:Nat → Value} {ob:Obj} {l:List Oper} (hn:nl = [(d,V,ob)]) (k:∀ b,c.w0.heap.size ≤ b → Tr c D ((d,V b) :: sl) (blk b ob :: hs) (WL P r ops Q l)):AnyO P r c D hs ops Q nl 0 l sl rl:=
  ⟨[],sl,rl,.nil,fun bs β i0 hl hb _=>by
    subst hn
    match bs,hl with
    | [b],_=>simpa [zs,zb,slA,als] using k b (hb b (by simp))⟩
theorem ao_end2 {d2:Nat} {V V2:Nat → Value} {ob ob2:Obj} {l:List Oper} (hn:nl = [(d,V,ob),(d2,V2,ob2)]) (k:∀ b b2,c.w0.heap.size ≤ b → c.w0.heap.size ≤ b2 → Tr c D ((d,V b) :: (d2,V2 b2) :: sl) (blk b ob :: blk b2 ob2 :: hs) (WL P r ops Q l)):AnyO P r c D hs ops Q nl 0 l sl rl:=
  ⟨[],sl,rl,.nil,fun bs β i0 hl hb _=>by
    subst hn
    match bs,hl with
    | [b,b2],_=>simpa [zs,zb,slA,als] using k b b2 (hb b (by simp)) (hb b2 (by simp))⟩
theorem ao_stepV {o:Oper} {V:Value} (ho:o.dst = some d) (hd:Nat.blt d c.nt = true) (h:StepQ P c hs ops sl rl o (.val V)) (k:AnyO P r c D hs ops Q nl m rest ((d,V) :: sl) rl):AnyO P r c D hs ops Q nl (m + 1) (o :: rest) sl rl:=by
  obtain ⟨S,sl',rl',hp,ht⟩:=k
  refine ⟨_,_,_,.val ho (by simpa [Nat.blt_eq] using hd) h hp,fun bs β i0 h1 h2 h3=>?_⟩
  have:=ht bs β (i0 + 1) h1 h2 fun i V ob hi=>by have:=h3 (i + 1) V ob (by simpa using hi);rwa [show i0 + (i + 1) = i0 + 1 + i from by omega] at this
  simpa [slA,als] using this
theorem ao_new {V:Nat → Value} {ob:Obj} (hr:RunN P c sl hs ⟨some d,op,ty,pos,af,none⟩ V ob) (hd:Nat.blt d c.nt = true) (hn:sget sl d = none) (k:AnyO P r c D hs ops Q (nl++[(d,V,ob)]) m rest sl ((d,relNew V ob) :: rl)) :
    AnyO P r c D hs ops Q nl (m + 1) (⟨some d,op,ty,pos,af,none⟩ :: rest) sl rl:=by
  obtain ⟨S,sl',rl',hp,ht⟩:=k
  refine ⟨_,_,_,.new rfl (by simpa [Nat.blt_eq] using hd) hn rfl hr hp,fun bs β i0 h1 h2 h3=>?_⟩
  have hb0:=h3 0 V ob rfl
  rw [Nat.add_zero] at hb0
  have:=ht (bs++[β i0]) β (i0 + 1) (by simp [h1]) (fun b hb=>by
    rcases List.mem_append.1 hb with h | h
    · exact h2 b h
    · rw [List.mem_singleton.1 h];exact hb0) fun i V ob hi=>by have:=h3 (i + 1) V ob (by simpa using hi);rwa [show i0 + (i + 1) = i0 + 1 + i from by omega] at this
  simpa [slA,als,zs,zb,List.zip_append h1.symm,List.append_assoc] using this
theorem ao_val {V:Value} (hr:RunV P c sl hs ⟨some d,op,ty,pos,af,none⟩ V) (hd:Nat.blt d c.nt = true) (k:AnyO P r c D hs ops Q nl m rest ((d,V) :: sl) rl) :
    AnyO P r c D hs ops Q nl (m + 1) (⟨some d,op,ty,pos,af,none⟩ :: rest) sl rl:=
  ao_stepV rfl hd (stepQ_of rfl fun _ _ h1 _ h3=>qrun_val hr h1 h3) k
theorem ao_call {f:FuncId} {args:List Value} {V:Value} (hr:RunC P sl ⟨some d,op,ty,pos,af,none⟩ f args) (hd:Nat.blt d c.nt = true) (hc:∀ w,Mem c hs w → GivesV P f args w V) (k:AnyO P r c D hs ops Q nl m rest ((d,V) :: sl) rl) :
    AnyO P r c D hs ops Q nl (m + 1) (⟨some d,op,ty,pos,af,none⟩ :: rest) sl rl:=
  ao_stepV rfl hd (stepQ_of rfl fun _ w h1 _ h3=>qrun_call hr h1 (hc w h3)) k
theorem ao_vG {V:Value} {p p':Prop} {j gs:Nat} {want c0 q:Bool} (hj:((ops[j]?).bind (·.dst)) = some gs) (hq:sget sl gs = some (gv c0 (.bool q))) (hb:BP (c0 && (q == want)) p p')
    (hr:(c0 && (q == want)) = true → p → RunV P c sl hs ⟨some d,op,ty,pos,af,some (j,want)⟩ V) (hd:Nat.blt d c.nt = true) (k:AnyO P r c D hs ops Q nl m rest ((d,gv (c0 && (q == want)) V) :: sl) rl) :
    AnyO P r c D hs ops Q nl (m + 1) (⟨some d,op,ty,pos,af,some (j,want)⟩ :: rest) sl rl:=
  ao_stepV rfl hd (stepQ_guard rfl hj hq fun hc _ _ h1 h3=>qrun_val (hr hc (hb.t hc)) h1 h3) k
theorem ao_vG1 {V:Value} {p p':Prop} {j gs:Nat} {want q:Bool} (hj:((ops[j]?).bind (·.dst)) = some gs) (hq:sget sl gs = some (.bool q)) (hb:BP (q == want) p p')
    (hr:(q == want) = true → p → RunV P c sl hs ⟨some d,op,ty,pos,af,some (j,want)⟩ V) (hd:Nat.blt d c.nt = true) (k:AnyO P r c D hs ops Q nl m rest ((d,gv (q == want) V) :: sl) rl) :
    AnyO P r c D hs ops Q nl (m + 1) (⟨some d,op,ty,pos,af,some (j,want)⟩ :: rest) sl rl:=
  ao_vG (c0:=true) (p:=p) (p':=p') hj (by rw [hq];rfl) (by simpa using hb) (by simpa using hr) hd (by simpa using k)
end
end
end Go.SL
namespace Go.SL
open Go
theorem flat_cells {w:World} {b sz:Nat}:∀ {xs:List (List Value)} {o:Nat},(∀ i r,xs[i]? = some r → r.length = sz ∧ ∀ j u,r[j]? = some u → w.cell? ⟨b,o + i * sz + j,none⟩ = some u) → ∀ (k:Nat) u,xs.flatten[k]? = some u → w.cell? ⟨b,o + k,none⟩ = some u
  | [],o,_,k,u,hu=>by simp at hu
  | x :: xs, o, h, k, u, hu => by
    obtain ⟨hl,h0⟩:=h 0 x rfl
    rw [List.flatten_cons,List.getElem?_append] at hu
    split at hu
    · have:=h0 k u hu
      rwa [Nat.zero_mul,Nat.add_zero] at this
    · rename_i hk
      have ih:=flat_cells (xs:=xs) (o:=o + sz) (fun i r hr=>⟨(h (i + 1) r (by simpa using hr)).1,fun j v hv=>by
        have:=(h (i + 1) r (by simpa using hr)).2 j v hv
        rwa [Nat.succ_mul,show o + (i * sz + sz) + j = o + sz + i * sz + j by omega] at this⟩) (k - x.length) u hu
      rwa [hl,show o + sz + (k - sz) = o + k by omega] at ih
theorem flat_len {sz:Nat}:∀ {xs:List (List Value)},(∀ r ∈ xs,r.length = sz) → xs.flatten.length = xs.length * sz
  | [],_=>by simp
  | x :: xs, h => by
    rw [List.flatten_cons,List.length_append,flat_len (fun r hr=>h r (by simp [hr])),h x (by simp),List.length_cons,Nat.succ_mul,Nat.add_comm]
theorem Rd.sz {w:World} {v:Value} {sz:Nat} {xs:List (List Value)} (h:Rd w v sz xs):∀ r ∈ xs,r.length = sz:=by
  obtain ⟨a,cap,b,o,rfl,h1,h2,h3,h4⟩:=h
  intro r hr
  obtain ⟨i,hi,rfl⟩:=List.getElem_of_mem hr
  exact (h4 i _ (List.getElem?_eq_getElem hi)).1
section
variable {P:Program} {r:Option Nat} {c:Cx} {D:List Nat} {sl:Slots} {hs hs':List Asn} {ops:Array Oper} {Q:Exit → Act → World → Prop} {d:Nat} {ty:TypeId} {pos:String} {af:Array Edge} {rest:List Oper}
theorem src_ats {V:Value} {sz:Nat} {xs:List (List Value)} {b o cap:Nat} (hsrc:∀ w,Mem c hs w → Rd w V sz xs) (hne:xs ≠ []) (hV:V = .slice (some ⟨b,o,none⟩) xs.length cap):Ats c hs b o xs.flatten:=by
  refine Ats.of_get fun j u hu w hm=>?_
  obtain ⟨a',cap',b',o',e',_,_,ha',hc'⟩:=hsrc w hm
  rw [hV] at e'
  simp only [Value.slice.injEq] at e'
  obtain ⟨e1,_,_⟩:=e'
  have:=ha' hne
  rw [← e1] at this
  simp only [Option.some.injEq,Addr.mk.injEq,and_true] at this
  obtain ⟨rfl,rfl⟩:=this
  exact flat_cells hc' j u hu
theorem run_append0 {t e:TypeId} {w:World} {v:Value} {agg:Bool} {size:Nat} [hu:Und P t (.slice e)] [hT:Ty P e agg size] {a:Option Addr} {cp n:Nat} (hv:(v = .slice none 0 0 ∧ n = 0) ∨ ∃ g cap,v = .slice (some ⟨g,0,none⟩) n cap ∧ n ≤ cap) :
    (Builtin.append_ #[t,t] ty #[v,.slice a 0 cp]).run P w = .ok v w:=by
  obtain ⟨de,i,hde,hi,_,hsize⟩:=Ty.parts (P:=P) (t:=e) (agg:=agg) (n:=size)
  rcases hv with ⟨rfl,rfl⟩ | ⟨g,cap,rfl,hc⟩
  · cases a <;> simp [Builtin.append_,rk_underlying hu.eq,sizeOf,typeInfo,hi,Builtin.lenOf,Builtin.firstCells,loadCells,loadCellsFrom]
  · cases a <;> simp [Builtin.append_,rk_underlying hu.eq,sizeOf,typeInfo,hi,Builtin.lenOf,Builtin.firstCells,loadCells,loadCellsFrom,hc,storeCells]
theorem tr_appendR {t e:TypeId} {agg:Bool} {size bytes:Nat} {z:Value} {x y:Operand} {v V:Value} {n:Nat} {xs:List Value} {news:List (List Value)} [hu:Und P t (.slice e)] [hT:Ty P e agg size] [hZ:Zer P e z] [hB:Byt P e bytes]
    (hx:Is sl x v) (hy:Is sl y V) (ht:Take hs (row e size v n xs) hs') (hsrc:∀ w,Mem c hs w → Rd w V size news) (h1:∀ r ∈ news,∀ u ∈ r,u.oneCell' = true) (hz:z.cells.size = size) (hsz:Nat.blt 0 size = true) (hb0:Nat.blt 0 bytes = true)
    (hb:(n + news.length) * bytes ≤ 140737488355328) (hd:Nat.blt d c.nt = true)
    (k:∀ v',Tr c D ((d,v') :: sl) (row e size v' (n + news.length) (xs++news.flatten) :: hs') (WL P r ops Q rest)) :
    Tr c D sl hs (WL P r ops Q (⟨some d,.call ⟨.builtin .append,#[x,y],#[t,t]⟩,ty,pos,af,none⟩ :: rest)):=fun a w hst=>by
  have hR:=hsrc w hst.mem'
  have hlen:=flat_len hR.sz
  by_cases hne:news = []
  · subst hne
    obtain ⟨aa,cap,b,o,rfl,_⟩:=hR
    have hm:=hst.mem.take (ht.append _)
    have hrow:(v = .slice none 0 0 ∧ n = 0) ∨ ∃ g cap,v = .slice (some ⟨g,0,none⟩) n cap ∧ n ≤ cap:=by
      obtain ⟨_,fp,_,⟨f1,f2,_,⟨_,_,h1⟩,_⟩,_⟩:=hm
      exact h1.imp id fun ⟨g,cap,cur,e,_,hc,_⟩=>⟨g,cap,e,hc⟩
    refine wl_op rfl ⟨fr_about _ _ _ _ _,?_⟩
    rw [Oper.semAt_eq _ _ _ (by simp)]
    have:(execOp a.eval ⟨some d,.call ⟨.builtin .append,#[x,y],#[t,t]⟩,ty,pos,af,none⟩).run P w = .ok (.value v) w:=by
      have:=run_append0 (P:=P) (t:=t) (e:=e) (ty:=ty) (w:=w) (agg:=agg) (size:=size) (a:=aa) (cp:=cap) hrow
      simp only [List.length_nil] at hy
      simp [execOp,resolve,invoke,builtin,hx a hst.slots,hy a hst.slots,this]
    rw [this]
    have k2:=k v
    simp only [List.length_nil,Nat.add_zero,List.flatten_nil,List.append_nil] at k2
    exact k2 _ _ ((hst.put (by simpa [Nat.blt_eq] using hd) v).heap hm)
  · obtain ⟨aa,cap,b,o,hV,hcap,hmax,ha,hc⟩:=hR
    have:=ha hne
    subst this
    rw [hV] at hy
    exact tr_append hx hy ht (src_ats hsrc hne hV) hlen (fun u hu=>by obtain ⟨r,hr,hur⟩:=List.mem_flatten.1 hu;exact h1 r hr u hur) hz hsz hb0 hb hd k a w hst
theorem tr_copyR {t t2 e:TypeId} {agg:Bool} {size:Nat} {x y:Operand} {V:Value} {g n cap:Nat} {E:TypeId} {cs:List Value} {news:List (List Value)} [hu:Und P t (.slice e)] [hT:Ty P e agg size]
    (hx:Is sl x (.slice (some ⟨g,0,none⟩) n cap)) (hy:Is sl y V) (ht:Take hs (blk g (.cells cs.toArray E (0,0))) hs') (hsrc:∀ w,Mem c hs w → Rd w V size news) (h1:∀ r ∈ news,∀ u ∈ r,u.oneCell' = true) (hfit:n * size ≤ cs.length) (hd:Nat.blt d c.nt = true)
    (k:Tr c D ((d,.int .i64 (Nat.min news.length n:Nat)) :: sl) (blk g (.cells (setCells cs 0 (news.take n).flatten).toArray E (0,0)) :: hs') (WL P r ops Q rest)) :
    Tr c D sl hs (WL P r ops Q (⟨some d,.call ⟨.builtin .copy,#[x,y],#[t,t2]⟩,ty,pos,af,none⟩ :: rest)):=fun a w hst=>by
  have hR:=hsrc w hst.mem'
  obtain ⟨de,i,hde,hi,_,hsize⟩:=Ty.parts (P:=P) (t:=e) (agg:=agg) (n:=size)
  have hlen:(news.take n).flatten.length = Nat.min news.length n * size:=by
    rw [flat_len (fun r hr=>hR.sz r (List.mem_of_mem_take hr)),List.length_take]
    show min n news.length * size = min news.length n * size
    rw [Nat.min_comm]
  have hle:Nat.min news.length n ≤ n:=Nat.min_le_right _ _
  have hm:=hst.mem.take (ht.append _)
  have hg:w.heap[g]? = some (.cells cs.toArray E (0,0)):=hm.blk .here
  obtain ⟨w',h3,h4,h5⟩:=rk_storeCells (P:=P) (o:=0) (news.take n).flatten 0 cs w hg (fun u hu=>by
    obtain ⟨r,hr,hur⟩:=List.mem_flatten.1 hu
    exact h1 r (List.mem_of_mem_take hr) u hur) (by
    rw [hlen]
    have:Nat.min news.length n * size ≤ n * size:=Nat.mul_le_mul_right _ hle
    omega)
  have hload:(Builtin.firstCells size (Nat.min news.length n) V).run P w = .ok (news.take n).flatten.toArray w:=by
    obtain ⟨aa,cap2,b,o,hV,hcap2,hmax,ha,hc⟩:=hR
    subst hV
    by_cases hne:news = []
    · subst hne
      cases aa <;> simp [Builtin.firstCells,loadCells,loadCellsFrom]
    · have:=ha hne
      subst this
      simp only [Builtin.firstCells]
      refine rk_loadCells hlen fun j u hu=>?_
      refine flat_cells (sz:=size) (xs:=news.take n) (fun i r hr=>?_) j u hu
      rw [List.getElem?_take] at hr
      split at hr
      · exact hc i r hr
      · cases hr
  have hlenV:(Builtin.lenOf V).run P w = .ok news.length w:=by
    obtain ⟨aa,cap2,b,o,hV,_⟩:=hR
    subst hV
    rfl
  refine wl_op rfl ⟨fr_about _ _ _ _ _,?_⟩
  rw [Oper.semAt_eq _ _ _ (by simp)]
  have:(execOp a.eval ⟨some d,.call ⟨.builtin .copy,#[x,y],#[t,t2]⟩,ty,pos,af,none⟩).run P w = .ok (.value (.int .i64 (Nat.min news.length n:Nat))) w':=by
    simp [execOp,resolve,invoke,builtin,hx a hst.slots,hy a hst.slots,Builtin.copy_,rk_underlying hu.eq,hlenV,sizeOf,typeInfo,hi,hsize,hload,h3,goInt]
  rw [this]
  have hm2:=Mem.store hm h4 h5
  rw [show (0 + 0:Nat) = 0 from rfl] at hm2
  exact k _ _ ((hst.put (by simpa [Nat.blt_eq] using hd) _).heap hm2)
theorem tr_appendZ {t tn e:TypeId} {kn:IntKind} {agg:Bool} {size bytes m:Nat} {z:Value} {x y:Operand} [hu:Und P t (.slice e)] [hun:Und P tn (.int kn)] [hT:Ty P e agg size] [hZ:Zer P e z] [hB:Byt P e bytes]
    (hx:Is sl x (.slice none 0 0)) (hy:Is sl y (.int .i64 m)) (h0:0 < m) (hz:z.cells.size = size) (hsz:Nat.blt 0 size = true) (hb0:Nat.blt 0 bytes = true) (hb:m * bytes ≤ 140737488355328) (hd:Nat.blt d c.nt = true)
    (k:∀ v',Tr c D ((d,v') :: sl) (row e size v' m (Builtin.zeroCells z.cells m).toList :: hs) (WL P r ops Q rest)) :
    Tr c D sl hs (WL P r ops Q (⟨some d,.call ⟨.builtin .append,#[x,y],#[t,tn]⟩,ty,pos,af,none⟩ :: rest)):=fun a w hst=>by
  obtain ⟨de,i,hde,hi,_,hsize⟩:=Ty.parts (P:=P) (t:=e) (agg:=agg) (n:=size)
  have hzero:i.zero = some z:=by have:=hZ.eq;rw [hi] at this;simpa using this
  have hbytes:i.bytes = bytes:=by have:=hB.eq;rw [hi] at this;simpa using this
  have hs0:0 < size:=by simpa [Nat.blt_eq] using hsz
  have hb0':0 < bytes:=by simpa [Nat.blt_eq] using hb0
  have hm1:m * 1 ≤ m * bytes:=Nat.mul_le_mul_left _ hb0'
  have hrun:=Lib.run_append_grow_zeros (P:=P) w t tn ty e i z .i64 kn hu.eq hun.eq hi hzero none 0 0 [] (by simp [Builtin.firstCells]) m h0 (by omega) (by omega) (by omega) (by rw [hbytes];omega) (growslice_fits (by omega) (by rw [hbytes];simpa using hb))
  simp only [Nat.zero_add] at hrun
  have hge:=grownCap_ge w m 0 e
  have hle:=grownCap_le_maxLen w m 0 e (by unfold maxLen;omega)
  refine wl_op rfl ⟨fr_about _ _ _ _ _,?_⟩
  rw [Oper.semAt_eq _ _ _ (by simp)]
  generalize grownCap w m 0 e = G at hrun hge hle
  have:(execOp a.eval ⟨some d,.call ⟨.builtin .append,#[x,y],#[t,tn]⟩,ty,pos,af,none⟩).run P w = .ok (.value (.slice (some ⟨w.heap.size,0,none⟩) m G)) (w.drew.alloc (.cells (#[]++Builtin.zeroCells z.cells m++Builtin.zeroCells z.cells (G - m)) e)):=by
    simp [execOp,resolve,invoke,builtin,hx a hst.slots,hy a hst.slots,hrun]
  rw [this]
  have hsize0:∀ q,(Builtin.zeroCells z.cells q).size = q * size:=fun q=>by rw [size_zeroCells,hz]
  have hm2:=(hst.mem.drew.alloc (.cells (#[]++Builtin.zeroCells z.cells m++Builtin.zeroCells z.cells (G - m)) e (0,0)))
  refine k _ _ _ ((hst.put (by simpa [Nat.blt_eq] using hd) _).heap ?_)
  obtain ⟨kk,fp,hn,⟨f1,f2,rfl,⟨e1,h1⟩,h2⟩,hfb⟩:=hm2
  refine ⟨kk,f1++f2,hn,⟨f1,f2,rfl,⟨by rw [e1];rfl,by simp [hsize0],.inr ⟨w.heap.size,G,_,rfl,h1,hge,hle,?_,?_⟩⟩,h2⟩,hfb⟩
  · simp only [Array.size_append,hsize0]
    simp only [Array.size_empty,Nat.zero_add,← Nat.add_mul]
    congr 1;omega
  · simp only [Array.toList_append,Array.toList_empty,List.nil_append]
    rw [List.take_left' (by rw [Array.length_toList,hsize0])]
theorem rk_sliceLit0 {dst:Option Tmp} {g:Option (Nat × Bool)} {t e:TypeId} {agg:Bool} {size:Nat} [hu:Und P t (.slice e)] [hT:Ty P e agg size] :
    RunN P c sl hs ⟨dst,.buildSlice t 0 #[],ty,pos,af,g⟩ (fun b=>.slice (some ⟨b,0,none⟩) 0 0) (.cells #[] e):=
  rk_buildSlice (ps:=#[]) (fun a _=>by simp) fun w=>by
    unfold Instr.buildSlice
    simp only [Sem.run_bind,rk_underlying hu.eq,Result.andThen_ok,rk_sizeOf (t:=e) (agg:=agg) (n:=size),Nat.zero_mul]
    simp [Instr.fill,newRow,show Array.range 0 = #[] from rfl]
theorem rk_cap_slice {dst:Option Tmp} {g:Option (Nat × Bool)} {t e:TypeId} {x:Operand} {a:Option Addr} {n cp:Nat} [hu:Und P t (.slice e)] (hx:Is sl x (.slice a n cp)) :
    RunV P c sl hs ⟨dst,.call ⟨.builtin .cap,#[x],#[t]⟩,ty,pos,af,g⟩ (.int .i64 cp):=
  ⟨by simp,fun ac w ha _=>by simp [execOp,hx ac ha,resolve,invoke,builtin,Builtin.cap_,rk_underlying hu.eq,goInt]⟩
theorem sliced_zero (g cap sz:Nat):Go.sliced (some ⟨g,0,none⟩) 0 0 cap sz = .slice (some ⟨g,0,none⟩) 0 cap:=by
  unfold Go.sliced
  by_cases h:cap = 0
  · rw [if_pos h];simp
  · rw [if_neg h];simp [addr_add]
theorem setCells_pre:∀ (vs cs:List Value),vs.length ≤ cs.length → setCells cs 0 vs = vs++cs.drop vs.length:=by
  intro vs cs h
  apply List.ext_getElem?
  intro k
  rw [setCells_get _ _ _ _ (by omega),List.getElem?_append]
  by_cases hk:k < vs.length
  · rw [if_pos (by omega),if_pos hk,Nat.sub_zero]
  · rw [if_neg (by omega),if_neg hk,List.getElem?_drop]
    congr 1;omega
end
end Go.SL
