/- Short forms: tests as propositions; equations whose right side is reckoned. -/
import Derived.Test.YtahcjhdepdhipaaGkAnyL
set_option linter.unusedSectionVars false
set_option linter.unusedVariables false
set_option linter.unusedSimpArgs false
namespace Go.SL
open Go

/-- what a test says, and what it says where it fails -/
class BP (b : Bool) (p q : outParam Prop) : Prop where
  t : b = true → p
  f : b = false → q
instance (priority := low) {b : Bool} : BP b (b = true) (b = false) := ⟨id, id⟩
instance {p : Prop} {inst : Decidable p} : BP (@decide p inst) p (¬ p) := ⟨of_decide_eq_true, of_decide_eq_false⟩
instance {a : Bool} {p q : Prop} [h : BP a p q] : BP (!a) q p := ⟨fun e => h.f (by simpa using e), fun e => h.t (by simpa using e)⟩
instance {a b : Bool} {p q p' q' : Prop} [h : BP a p q] [h' : BP b p' q'] : BP (a || b) (p ∨ p') (q ∧ q') :=
  ⟨fun e => (Bool.or_eq_true _ _ ▸ e).elim (fun e => .inl (h.t e)) (fun e => .inr (h'.t e)), fun e => by
    rw [Bool.or_eq_false_iff] at e
    exact ⟨h.f e.1, h'.f e.2⟩⟩
instance {a b : Bool} {p q p' q' : Prop} [h : BP a p q] [h' : BP b p' q'] : BP (a && b) (p ∧ p') (q ∨ q') :=
  ⟨fun e => by
    rw [Bool.and_eq_true] at e
    exact ⟨h.t e.1, h'.t e.2⟩, fun e => (Bool.and_eq_false_iff.1 e).elim (fun e => .inl (h.f e)) (fun e => .inr (h'.f e))⟩
instance {a : Bool} {p q : Prop} [h : BP a p q] : BP (a == true) p q := ⟨fun e => h.t (by simpa using e), fun e => h.f (by simpa using e)⟩
instance {a : Bool} {p q : Prop} [h : BP a p q] : BP (a == false) q p := ⟨fun e => h.f (by simpa using e), fun e => h.t (by simpa using e)⟩

theorem okc_nil : ∀ u ∈ ([] : List Value), u.oneCell' = true := fun _ h => absurd h List.not_mem_nil
theorem okc_cons {v : Value} {vs : List Value} (h : v.oneCell' = true) (t : ∀ u ∈ vs, u.oneCell' = true) : ∀ u ∈ v :: vs, u.oneCell' = true := List.forall_mem_cons.2 ⟨h, t⟩
theorem ini {n : Int} (h : -9223372036854775808 ≤ n ∧ n ≤ 9223372036854775807) : InI n := h
theorem lenb {a b : Nat} (h : Nat.ble a b = true) : a ≤ b := Nat.le_of_ble_eq_true h

theorem norm_ {α : Type} {a b : α} (h : a = b := by (first | (simp only [Int.toNat_zero, Int.toNat_one, Int.reduceToNat, fillL, setCells, cellsAt, partOf, Value.cells, lget, cond_true, cond_false, List.getElem?_cons_zero, List.getElem?_cons_succ, List.set_cons_zero, List.set_cons_succ, List.size_toArray, List.length_cons, List.length_nil, Nat.reduceAdd, Nat.reduceMul, Nat.reduceLeDiff, and_self, and_true, true_and, if_true, List.set, List.length_set, Nat.le_refl, Nat.zero_add, Nat.add_zero]; exact rfl) | exact rfl)) : a = b := h
theorem norm0_ {α : Type} {a b : α} (h : a = b := by (first | (simp only [Nat.reduceAdd, Nat.zero_add, Nat.add_zero]; exact rfl) | exact rfl)) : a = b := h
theorem norm1_ {α : Type} {a b : α} (h : a = b := by (first | (simp only [Int.toNat_natCast, Nat.zero_add, Int.reduceToNat, Int.toNat_zero, Int.toNat_one]; exact rfl) | exact rfl)) : a = b := h
theorem normc_ {α : Type} {a b : α} (h : a = b := by first | ((try simp only [List.nil_append, List.append_nil, List.cons_append]); exact rfl) | exact rfl) : a = b := h
theorem normp_ {α : Type} {a b : α} (h : a = b := by first | (simp only [List.range, List.range.loop, List.map, Nat.reduceMul]; exact rfl) | exact rfl) : a = b := h
theorem lenx_ {a b : Nat} (h : a ≤ b := by first | omega | (simp only [List.length_append, List.length_cons, List.length_nil]; omega)) : a ≤ b := h

theorem kr_ {α : Type} {a b : α} (h : a = b := by kernel_rfl) : a = b := h
theorem m_kr {α : Type} {a b : α} (h : a = b) : a = b := h
theorem m_norm {α : Type} {a b : α} (h : a = b) : a = b := h
theorem m_norm0 {α : Type} {a b : α} (h : a = b) : a = b := h
theorem m_norm1 {α : Type} {a b : α} (h : a = b) : a = b := h
theorem m_normc {α : Type} {a b : α} (h : a = b) : a = b := h
theorem m_normp {α : Type} {a b : α} (h : a = b) : a = b := h
theorem m_lenx {a b : Nat} (h : a ≤ b) : a ≤ b := h

section
variable {P : Program} {r : Option Nat} {c : Cx} {D : List Nat} {sl : Slots} {rl : RSlots} {hs hs' : List Asn} {Q : Exit → Act → World → Prop} {ops : Array Oper} {m d : Nat} {dst : Option Tmp} {op : Op} {ty : TypeId} {pos : String} {af : Array Edge} {rest : List Oper}
theorem tr_makeMapS {t : TypeId} (hd : Nat.blt d c.nt = true) (k : ∀ b, c.w0.heap.size ≤ b → Tr c D ((d, .map (some b)) :: sl) (mp (fun s : ByteArray => Value.string s) b [] :: hs) (WL P r ops Q rest)) :
    Tr c D sl hs (WL P r ops Q (⟨some d, .makeMap t none, ty, pos, af, none⟩ :: rest)) := tr_makeMap (fun s : ByteArray => Value.string s) hd k
theorem tr_makeMapI {t : TypeId} (hd : Nat.blt d c.nt = true) (k : ∀ b, c.w0.heap.size ≤ b → Tr c D ((d, .map (some b)) :: sl) (mp (fun n : Int => Value.int .i64 n) b [] :: hs) (WL P r ops Q rest)) :
    Tr c D sl hs (WL P r ops Q (⟨some d, .makeMap t none, ty, pos, af, none⟩ :: rest)) := tr_makeMap (fun n : Int => Value.int .i64 n) hd k
theorem tr_vOff1 {j g : Nat} {want q : Bool} (hj : ((ops[j]?).bind (·.dst)) = some g) (hq : sget sl g = some (.bool q)) (hn : (q == want) = false) (hd : Nat.blt d c.nt = true) (k : Tr c D ((d, gv (q == want) (.bool false)) :: sl) hs (WL P r ops Q rest)) :
    Tr c D sl hs (WL P r ops Q (⟨some d, op, ty, pos, af, some (j, want)⟩ :: rest)) := tr_valG1 hj hq (fun e => absurd (hn.symm.trans e) (by decide)) hd k
theorem tr_condB {x : Operand} {b : Bool} {p q : Prop} {u v : Code} (hx : Is sl x (.bool b)) (hb : BP b p q)
    (ht : p → Tr c D sl hs (WP P r u Q)) (hf : q → Tr c D sl hs (WP P r v Q)) : Tr c D sl hs (WP P r (.cond x u v) Q) :=
  tr_cond hx (fun e => ht (hb.t e)) (fun e => hf (hb.f e))
theorem tr_vG {V : Value} {p p' : Prop} {j g : Nat} {want c0 q : Bool} (hj : ((ops[j]?).bind (·.dst)) = some g) (hq : sget sl g = some (gv c0 (.bool q))) (hb : BP (c0 && (q == want)) p p')
    (hr : (c0 && (q == want)) = true → p → RunV P c sl hs ⟨some d, op, ty, pos, af, some (j, want)⟩ V) (hd : Nat.blt d c.nt = true) (k : Tr c D ((d, gv (c0 && (q == want)) V) :: sl) hs (WL P r ops Q rest)) :
    Tr c D sl hs (WL P r ops Q (⟨some d, op, ty, pos, af, some (j, want)⟩ :: rest)) := tr_valG hj hq (fun e => hr e (hb.t e)) hd k
theorem tr_vG1 {V : Value} {p p' : Prop} {j g : Nat} {want q : Bool} (hj : ((ops[j]?).bind (·.dst)) = some g) (hq : sget sl g = some (.bool q)) (hb : BP (q == want) p p')
    (hr : (q == want) = true → p → RunV P c sl hs ⟨some d, op, ty, pos, af, some (j, want)⟩ V) (hd : Nat.blt d c.nt = true) (k : Tr c D ((d, gv (q == want) V) :: sl) hs (WL P r ops Q rest)) :
    Tr c D sl hs (WL P r ops Q (⟨some d, op, ty, pos, af, some (j, want)⟩ :: rest)) := tr_valG1 hj hq (fun e => hr e (hb.t e)) hd k
theorem any_vG {V : Value} {p p' : Prop} {j gs : Nat} {want c0 q : Bool} (hj : ((ops[j]?).bind (·.dst)) = some gs) (hq : sget sl gs = some (gv c0 (.bool q))) (hb : BP (c0 && (q == want)) p p')
    (hr : (c0 && (q == want)) = true → p → RunV P c sl hs ⟨some d, op, ty, pos, af, some (j, want)⟩ V) (hd : Nat.blt d c.nt = true) (k : AnyT P r c D hs ops Q m rest ((d, gv (c0 && (q == want)) V) :: sl) rl) :
    AnyT P r c D hs ops Q (m + 1) (⟨some d, op, ty, pos, af, some (j, want)⟩ :: rest) sl rl := any_valG hj hq (fun e => hr e (hb.t e)) hd k
theorem any_vG1 {V : Value} {p p' : Prop} {j gs : Nat} {want q : Bool} (hj : ((ops[j]?).bind (·.dst)) = some gs) (hq : sget sl gs = some (.bool q)) (hb : BP (q == want) p p')
    (hr : (q == want) = true → p → RunV P c sl hs ⟨some d, op, ty, pos, af, some (j, want)⟩ V) (hd : Nat.blt d c.nt = true) (k : AnyT P r c D hs ops Q m rest ((d, gv (q == want) V) :: sl) rl) :
    AnyT P r c D hs ops Q (m + 1) (⟨some d, op, ty, pos, af, some (j, want)⟩ :: rest) sl rl := any_valG1 hj hq (fun e => hr e (hb.t e)) hd k
end
end Go.SL
