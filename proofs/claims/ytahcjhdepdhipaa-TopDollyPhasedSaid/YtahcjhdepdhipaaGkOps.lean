/- The single operations: what each yields, out of what is known of its operands and of the memory that it reads. -/
import Derived.Test.YtahcjhdepdhipaaGkCore
import Derived.Laws.Strings
set_option linter.unusedSectionVars false
set_option linter.unusedVariables false
set_option linter.unusedSimpArgs false
namespace Go.SL
open Go

def isAggD : TypeDesc → Bool
  | .struct _ | .array _ _ => true
  | _ => false

def tyAgg (P : Program) (t : TypeId) : Option (Bool × Nat) :=
  match P.underlying t, P.info? t with
  | some d, some i => some (isAggD d, i.size)
  | _, _ => none

class Ty (P : Program) (t : TypeId) (agg : outParam Bool) (n : outParam Nat) : Prop where
  eq : tyAgg P t = some (agg, n)
class Und (P : Program) (t : TypeId) (d : outParam TypeDesc) : Prop where
  eq : P.underlying t = some d
class Zer (P : Program) (t : TypeId) (v : outParam Value) : Prop where
  eq : (P.info? t).map (·.zero) = some (some v)
class Byt (P : Program) (t : TypeId) (n : outParam Nat) : Prop where
  eq : (P.info? t).map (·.bytes) = some n

section
variable {P : Program} {w : World} {t : TypeId}

theorem Ty.parts {agg : Bool} {n : Nat} [h : Ty P t agg n] : ∃ d i, P.underlying t = some d ∧ P.info? t = some i ∧ isAggD d = agg ∧ i.size = n := by
  have := h.eq
  unfold tyAgg at this
  split at this
  · rename_i d i hd hi
    cases this
    exact ⟨d, i, hd, hi, rfl, rfl⟩
  · cases this

theorem rk_underlying {d : TypeDesc} (h : P.underlying t = some d) : (underlying t).run P w = .ok d w := by simp [underlying, h]
theorem rk_typeInfo {i : TypeInfo} (h : P.info? t = some i) : (typeInfo t).run P w = .ok i w := by simp [typeInfo, h]
theorem rk_sizeOf {agg : Bool} {n : Nat} [h : Ty P t agg n] : (sizeOf t).run P w = .ok n w := by
  obtain ⟨d, i, _, hi, _, hn⟩ := Ty.parts (P := P) (t := t)
  simp [sizeOf, rk_typeInfo hi, hn]
theorem rk_isAgg {agg : Bool} {n : Nat} [h : Ty P t agg n] : (isAgg t).run P w = .ok agg w := by
  obtain ⟨d, i, hd, _, ha, _⟩ := Ty.parts (P := P) (t := t)
  unfold isAgg
  rw [Sem.run_bind, rk_underlying hd, Result.andThen_ok]
  subst ha
  cases d <;> rfl
theorem rk_zeroValue {v : Value} [h : Zer P t v] : (zeroValue t).run P w = .ok v w := by
  have := h.eq
  cases hi : P.info? t with
  | none => rw [hi] at this; cases this
  | some i =>
    rw [hi] at this
    have hz : i.zero = some v := by simpa using this
    simp [zeroValue, rk_typeInfo hi, hz]

theorem rk_load_cell {a : Addr} {v : Value} (h : w.cell? a = some v) (m : Mode) : (load a m).run P w = .ok v w := by simp [h]

theorem cell_of_block {b : Nat} {cs : Array Value} {E : TypeId} {fz : Nat × Nat} (h : w.heap[b]? = some (.cells cs E fz)) (o : Nat) : w.cell? ⟨b, o, none⟩ = cs[o]? := by
  simp [World.cell?, h]

theorem addr_add (b o n : Nat) : Addr.add ⟨b, o, none⟩ n = ⟨b, o + n, none⟩ := by
  unfold Addr.add
  split
  · rename_i h; simp [h]
  · rfl

theorem rk_loadCellsFrom {b o : Nat} : ∀ (n i : Nat) (acc : Array Value) (vs : List Value), vs.length = n → (∀ j v, vs[j]? = some v → w.cell? ⟨b, o + (i + j), none⟩ = some v) →
    (loadCellsFrom ⟨b, o, none⟩ i n acc).run P w = .ok (acc ++ vs.toArray) w
  | 0, i, acc, vs, hl, _ => by
    have : vs = [] := List.length_eq_zero_iff.1 hl
    subst this
    simp [loadCellsFrom]
  | n + 1, i, acc, [], hl, _ => by simp at hl
  | n + 1, i, acc, v :: vs, hl, hc => by
    have h0 : w.cell? (Addr.add ⟨b, o, none⟩ i) = some v := by rw [addr_add]; exact hc 0 v rfl
    simp only [loadCellsFrom, Sem.run_bind, rk_load_cell h0, Result.andThen_ok]
    rw [rk_loadCellsFrom n (i + 1) (acc.push v) vs (by simpa using hl) (fun j u hu => by
      have := hc (j + 1) u (by simpa using hu)
      rw [show i + 1 + j = i + (j + 1) from by omega]
      exact this)]
    simp

theorem rk_loadCells {b o n : Nat} {vs : List Value} (hl : vs.length = n) (hc : ∀ j v, vs[j]? = some v → w.cell? ⟨b, o + j, none⟩ = some v) : (loadCells ⟨b, o, none⟩ n).run P w = .ok vs.toArray w := by
  unfold loadCells
  rw [rk_loadCellsFrom n 0 #[] vs hl (fun j v hv => by simpa using hc j v hv)]
  simp

theorem rk_loadVar1 {b o n : Nat} {v : Value} [Ty P t false n] (hc : w.cell? ⟨b, o, none⟩ = some v) : (loadVar t ⟨b, o, none⟩).run P w = .ok v w := by
  unfold loadVar
  rw [Sem.run_bind, rk_isAgg (agg := false) (n := n), Result.andThen_ok]
  simp [hc]

theorem rk_loadVarN {b o n : Nat} {vs : List Value} [Ty P t true n] (hl : vs.length = n) (hc : ∀ j v, vs[j]? = some v → w.cell? ⟨b, o + j, none⟩ = some v) : (loadVar t ⟨b, o, none⟩).run P w = .ok (.agg vs.toArray) w := by
  unfold loadVar
  rw [Sem.run_bind, rk_isAgg (agg := true) (n := n), Result.andThen_ok]
  simp only [if_true, Sem.run_bind, rk_sizeOf (t := t) (agg := true) (n := n), Result.andThen_ok, rk_loadCells hl hc, Sem.run_pure]
end

/-- What is read at an address, in every world that these assertions fit. -/
def At (c : Cx) (hs : List Asn) (b o : Nat) (v : Value) : Prop := ∀ w, Mem c hs w → w.cell? ⟨b, o, none⟩ = some v

theorem At.blk {c : Cx} {hs hs' : List Asn} {b o : Nat} {cs : Array Value} {E : TypeId} {fz : Nat × Nat} {v : Value} (ht : Take hs (SL.blk b (.cells cs E fz)) hs') (hv : cs[o]? = some v) : At c hs b o v :=
  fun w hm => by rw [cell_of_block (hm.blk ht)]; exact hv

theorem At.base {c : Cx} {hs : List Asn} {b o : Nat} {v : Value} (h : c.w0.cell? ⟨b, o, none⟩ = some v) (hmd : c.md = []) : At c hs b o v := fun w hm => by
  have hb : b < c.w0.heap.size := World.block_lt_of_cell? c.w0 ⟨b, o, none⟩ h
  have := hm.base hb (by rw [hmd]; simp)
  rw [← h]
  simp [World.cell?, this]

theorem At.baseN {c : Cx} {hs : List Asn} {b o : Nat} {v : Value} (h : c.w0.cell? ⟨b, o, none⟩ = some v) (hmd : b ∉ c.md) : At c hs b o v := fun w hm => by
  have hb : b < c.w0.heap.size := World.block_lt_of_cell? c.w0 ⟨b, o, none⟩ h
  have := hm.base hb hmd
  rw [← h]
  simp [World.cell?, this]

def Ats (c : Cx) (hs : List Asn) (b o : Nat) : List Value → Prop
  | [] => True
  | v :: vs => At c hs b o v ∧ Ats c hs b (o + 1) vs

theorem Ats.get {c : Cx} {hs : List Asn} {b : Nat} : ∀ {vs : List Value} {o : Nat}, Ats c hs b o vs → ∀ j v, vs[j]? = some v → At c hs b (o + j) v
  | [], _, _, j, v, h => by simp at h
  | x :: vs, o, ⟨h0, h1⟩, j, v, h => by
    cases j with
    | zero => simp at h; subst h; exact h0
    | succ j => have := Ats.get h1 j v (by simpa using h); rwa [show o + 1 + j = o + (j + 1) from by omega] at this

theorem Ats.of_get {c : Cx} {hs : List Asn} {b : Nat} : ∀ {vs : List Value} {o : Nat}, (∀ j v, vs[j]? = some v → At c hs b (o + j) v) → Ats c hs b o vs
  | [], _, _ => trivial
  | x :: vs, o, h => ⟨h 0 x rfl, Ats.of_get fun j v hv => by have := h (j + 1) v (by simpa using hv); rwa [show o + (j + 1) = o + 1 + j from by omega] at this⟩

theorem Ats.base {c : Cx} {hs : List Asn} {b o : Nat} {vs : List Value} (h : ∀ (j : Nat) (u : Value), vs[j]? = some u → c.w0.cell? ⟨b, o + j, none⟩ = some u) (hmd : c.md = []) : Ats c hs b o vs :=
  Ats.of_get fun j u hu => At.base (h j u hu) hmd

def cellsAt : List Value → Nat → Nat → List Value
  | _, _, 0 => []
  | [], _, _ + 1 => []
  | v :: r, 0, n + 1 => v :: cellsAt r 0 n
  | _ :: r, o + 1, n + 1 => cellsAt r o (n + 1)
theorem cellsAt_eq : ∀ (cs : List Value) (o n : Nat), cellsAt cs o n = (cs.drop o).take n
  | cs, o, 0 => by simp [cellsAt]
  | [], o, n + 1 => by simp [cellsAt]
  | v :: r, 0, n + 1 => by simp [cellsAt, cellsAt_eq r 0 n]
  | v :: r, o + 1, n + 1 => by simp [cellsAt, cellsAt_eq r o (n + 1)]
def lget : List Value → Nat → Option Value
  | [], _ => none
  | v :: _, 0 => some v
  | _ :: r, n + 1 => lget r n
theorem lget_eq : ∀ (cs : List Value) (o : Nat), lget cs o = cs[o]?
  | [], _ => by simp [lget]
  | v :: _, 0 => by simp [lget]
  | _ :: r, n + 1 => by simp [lget, lget_eq r n]
/-- a cell of a block whose cells are written out -/
theorem At.lit {c : Cx} {hs hs' : List Asn} {b o : Nat} {cs : List Value} {E : TypeId} {fz : Nat × Nat} {v : Value} (ht : Take hs (SL.blk b (.cells cs.toArray E fz)) hs') (hv : lget cs o = some v) : At c hs b o v :=
  At.blk ht (by rw [lget_eq] at hv; simpa using hv)

theorem Ats.blk {c : Cx} {hs hs' : List Asn} {b o n : Nat} {cs : List Value} {E : TypeId} {fz : Nat × Nat} {vs : List Value} (ht : Take hs (SL.blk b (.cells cs.toArray E fz)) hs') (hv : cellsAt cs o n = vs) : Ats c hs b o vs := by
  subst hv
  refine Ats.of_get fun j v hv => At.blk ht ?_
  simp only [cellsAt_eq, List.getElem?_take, List.getElem?_drop] at hv
  split at hv
  · simpa using hv
  · cases hv

section
variable {P : Program} {c : Cx} {sl : Slots} {hs hs' : List Asn} {dst : Option Tmp} {ty : TypeId} {pos : String} {af : Array Edge} {g : Option (Nat × Bool)}

theorem runV_of {o : Oper} {V : Value} (h0 : ∀ d, o.op ≠ .defer d) (h : ∀ a w, SlotsOk sl a → Mem c hs w → (execOp a.eval o).run P w = .ok (.value V) w) : RunV P c sl hs o V := ⟨h0, h⟩

theorem rk_move {x : Operand} {v : Value} (hx : Is sl x v) : RunV P c sl hs ⟨dst, .move x, ty, pos, af, g⟩ v :=
  ⟨by simp, fun a w ha _ => by simp [execOp, hx a ha]⟩
theorem rk_assign {x : Operand} {v : Value} (hx : Is sl x v) : RunV P c sl hs ⟨dst, .assign x, ty, pos, af, g⟩ v :=
  ⟨by simp, fun a w ha _ => by simp [execOp, hx a ha]⟩

theorem rk_pick {x y z : Operand} {q : Bool} {v u : Value} (hx : Is sl x (.bool q)) (hy : Is sl y v) (hz : Is sl z u) : RunV P c sl hs ⟨dst, .pick x y z, ty, pos, af, g⟩ (bif q then v else u) :=
  ⟨by simp, fun a w ha _ => by simp [execOp, hx a ha, hy a ha, hz a ha, asBool, cond_eq_ite]⟩
/-- 'p || q', the right side having run only where the left one is false -/
theorem rk_pick_or {x : Operand} {t : Nat} {p q : Bool} (hx : Is sl x (.bool p)) (hq : sget sl t = some (gv (p == false) (.bool q))) :
    RunV P c sl hs ⟨dst, .pick x (.const (.bool true)) (.tmp t), ty, pos, af, g⟩ (.bool (p || q)) :=
  ⟨by simp, fun a w ha _ => by
    have h2 := ha.eval hq
    simp only [execOp, hx a ha, h2, asBool]
    cases p <;> simp [gv, Act.eval]⟩
theorem rk_pick_and {x : Operand} {t : Nat} {p q : Bool} (hx : Is sl x (.bool p)) (hq : sget sl t = some (gv (p == true) (.bool q))) :
    RunV P c sl hs ⟨dst, .pick x (.tmp t) (.const (.bool false)), ty, pos, af, g⟩ (.bool (p && q)) :=
  ⟨by simp, fun a w ha _ => by
    have h2 := ha.eval hq
    simp only [execOp, hx a ha, h2, asBool]
    cases p <;> simp [gv, Act.eval]⟩
theorem rk_pick_or' {x : Operand} {t : Nat} {c0 p q : Bool} (hc : c0 = true) (hx : Is sl x (.bool p)) (hq : sget sl t = some (gv (c0 && (p == false)) (.bool q))) :
    RunV P c sl hs ⟨dst, .pick x (.const (.bool true)) (.tmp t), ty, pos, af, g⟩ (.bool (p || q)) := rk_pick_or hx (by rw [hq, hc, Bool.true_and])
theorem rk_pick_and' {x : Operand} {t : Nat} {c0 p q : Bool} (hc : c0 = true) (hx : Is sl x (.bool p)) (hq : sget sl t = some (gv (c0 && (p == true)) (.bool q))) :
    RunV P c sl hs ⟨dst, .pick x (.tmp t) (.const (.bool false)), ty, pos, af, g⟩ (.bool (p && q)) := rk_pick_and hx (by rw [hq, hc, Bool.true_and])

/-! integers -/
theorem rk_bin {op : BinOp} {t u : TypeId} {x y : Operand} {v u' r : Value} (hx : Is sl x v) (hy : Is sl y u') (hr : ∀ w, (do eqGuard op t x y v u'; binOp op t v u').run P w = .ok r w) :
    RunV P c sl hs ⟨dst, .binOp op t x y u, ty, pos, af, g⟩ r :=
  ⟨by simp, fun a w ha _ => by
    have := hr w
    simp only [Sem.run_bind] at this
    simp only [execOp, hx a ha, hy a ha, Sem.run_bind, this, Result.andThen_ok, Sem.run_pure]⟩

theorem eqGuard_int {op : BinOp} {t : TypeId} {x y : Operand} {k k' : IntKind} {a b : Int} {w : World} : (eqGuard op t x y (.int k a) (.int k' b)).run P w = .ok () w := by
  unfold eqGuard; split <;> rfl
theorem eqGuard_string {op : BinOp} {t : TypeId} {x y : Operand} {a b : ByteArray} {w : World} : (eqGuard op t x y (.string a) (.string b)).run P w = .ok () w := by
  unfold eqGuard; split <;> rfl
theorem eqGuard_bool {op : BinOp} {t : TypeId} {x y : Operand} {a b : Bool} {w : World} : (eqGuard op t x y (.bool a) (.bool b)).run P w = .ok () w := by
  unfold eqGuard; split <;> rfl

/-- the integers of Go's int -/
def InI (n : Int) : Prop := -9223372036854775808 ≤ n ∧ n ≤ 9223372036854775807

theorem rk_add {t u : TypeId} {x y : Operand} {a b : Int} (hx : Is sl x (.int .i64 a)) (hy : Is sl y (.int .i64 b)) (hb : InI (a + b)) :
    RunV P c sl hs ⟨dst, .binOp .add t x y u, ty, pos, af, g⟩ (.int .i64 (a + b)) :=
  rk_bin hx hy fun w => by simp [eqGuard_int, binOp, Op.intArith, IntWalk.i64_in _ hb]
theorem rk_sub {t u : TypeId} {x y : Operand} {a b : Int} (hx : Is sl x (.int .i64 a)) (hy : Is sl y (.int .i64 b)) (hb : InI (a - b)) :
    RunV P c sl hs ⟨dst, .binOp .sub t x y u, ty, pos, af, g⟩ (.int .i64 (a - b)) :=
  rk_bin hx hy fun w => by simp [eqGuard_int, binOp, Op.intArith, IntWalk.i64_in _ hb]
theorem rk_mul {t u : TypeId} {x y : Operand} {a b : Int} (hx : Is sl x (.int .i64 a)) (hy : Is sl y (.int .i64 b)) (hb : InI (a * b)) :
    RunV P c sl hs ⟨dst, .binOp .mul t x y u, ty, pos, af, g⟩ (.int .i64 (a * b)) :=
  rk_bin hx hy fun w => by simp [eqGuard_int, binOp, Op.intArith, IntWalk.i64_in _ hb]
theorem rk_addw {k : IntKind} {t u : TypeId} {x y : Operand} {a b : Int} (hx : Is sl x (.int k a)) (hy : Is sl y (.int k b)) :
    RunV P c sl hs ⟨dst, .binOp .add t x y u, ty, pos, af, g⟩ (.int k (k.wrap (a + b))) :=
  rk_bin hx hy fun w => by simp [eqGuard_int, binOp, Op.intArith]
theorem rk_subw {k : IntKind} {t u : TypeId} {x y : Operand} {a b : Int} (hx : Is sl x (.int k a)) (hy : Is sl y (.int k b)) :
    RunV P c sl hs ⟨dst, .binOp .sub t x y u, ty, pos, af, g⟩ (.int k (k.wrap (a - b))) :=
  rk_bin hx hy fun w => by simp [eqGuard_int, binOp, Op.intArith]
theorem rk_quo {t u : TypeId} {x y : Operand} {a b : Int} (hx : Is sl x (.int .i64 a)) (hy : Is sl y (.int .i64 b)) (h0 : 0 ≤ a) (h1 : a ≤ 9223372036854775807) (hb : 0 < b) :
    RunV P c sl hs ⟨dst, .binOp .quo t x y u, ty, pos, af, g⟩ (.int .i64 (a / b)) :=
  rk_bin hx hy fun w => by
    have hw : IntKind.i64.wrap (a.tdiv b) = a / b := by
      rw [Int.tdiv_eq_ediv_of_nonneg h0]
      have h2 : 0 ≤ a / b := Int.ediv_nonneg h0 (by omega)
      have h3 : a / b ≤ a := Int.ediv_le_self _ h0
      exact IntWalk.i64_in _ ⟨by omega, by omega⟩
    simp [eqGuard_int, binOp, Op.intDiv, show ¬ b = 0 from by omega, hw]
theorem rk_rem {t u : TypeId} {x y : Operand} {a b : Int} (hx : Is sl x (.int .i64 a)) (hy : Is sl y (.int .i64 b)) (h0 : 0 ≤ a) (hb : b ≠ 0) :
    RunV P c sl hs ⟨dst, .binOp .rem t x y u, ty, pos, af, g⟩ (.int .i64 (a % b)) :=
  rk_bin hx hy fun w => by
    simp [eqGuard_int, binOp, Op.intDiv, hb, Int.tmod_eq_emod_of_nonneg h0]
theorem rk_neg {t : TypeId} {x : Operand} {a : Int} (hx : Is sl x (.int .i64 a)) (hb : InI (-a)) : RunV P c sl hs ⟨dst, .unOp .neg t x, ty, pos, af, g⟩ (.int .i64 (-a)) :=
  ⟨by simp, fun e w ha _ => by simp [execOp, hx e ha, Op.unary, Op.intArith, IntWalk.i64_in _ hb]⟩
theorem rk_lss {k : IntKind} {t u : TypeId} {x y : Operand} {a b : Int} (hx : Is sl x (.int k a)) (hy : Is sl y (.int k b)) :
    RunV P c sl hs ⟨dst, .binOp .lss t x y u, ty, pos, af, g⟩ (.bool (decide (a < b))) :=
  rk_bin hx hy fun w => by simp [eqGuard_int, binOp, Op.intCmp]
theorem rk_leq {k : IntKind} {t u : TypeId} {x y : Operand} {a b : Int} (hx : Is sl x (.int k a)) (hy : Is sl y (.int k b)) :
    RunV P c sl hs ⟨dst, .binOp .leq t x y u, ty, pos, af, g⟩ (.bool (decide (a ≤ b))) :=
  rk_bin hx hy fun w => by simp [eqGuard_int, binOp, Op.intCmp]
theorem rk_gtr {k : IntKind} {t u : TypeId} {x y : Operand} {a b : Int} (hx : Is sl x (.int k a)) (hy : Is sl y (.int k b)) :
    RunV P c sl hs ⟨dst, .binOp .gtr t x y u, ty, pos, af, g⟩ (.bool (decide (b < a))) :=
  rk_bin hx hy fun w => by simp [eqGuard_int, binOp, Op.intCmp]
theorem rk_geq {k : IntKind} {t u : TypeId} {x y : Operand} {a b : Int} (hx : Is sl x (.int k a)) (hy : Is sl y (.int k b)) :
    RunV P c sl hs ⟨dst, .binOp .geq t x y u, ty, pos, af, g⟩ (.bool (decide (b ≤ a))) :=
  rk_bin hx hy fun w => by simp [eqGuard_int, binOp, Op.intCmp]
theorem rk_eql {k : IntKind} {t u : TypeId} {x y : Operand} {a b : Int} (hx : Is sl x (.int k a)) (hy : Is sl y (.int k b)) :
    RunV P c sl hs ⟨dst, .binOp .eql t x y u, ty, pos, af, g⟩ (.bool (decide (a = b))) :=
  rk_bin hx hy fun w => by simp [eqGuard_int, binOp, Op.intCmp]; rfl
theorem rk_neq {k : IntKind} {t u : TypeId} {x y : Operand} {a b : Int} (hx : Is sl x (.int k a)) (hy : Is sl y (.int k b)) :
    RunV P c sl hs ⟨dst, .binOp .neq t x y u, ty, pos, af, g⟩ (.bool (decide (a ≠ b))) :=
  rk_bin hx hy fun w => by simp [eqGuard_int, binOp, Op.intCmp]; rfl
theorem rk_not {t : TypeId} {x : Operand} {b : Bool} (hx : Is sl x (.bool b)) : RunV P c sl hs ⟨dst, .unOp .not t x, ty, pos, af, g⟩ (.bool (!b)) :=
  ⟨by simp, fun a w ha _ => by simp [execOp, hx a ha, Op.unary]⟩

/-! strings -/
theorem str_beq (a b : ByteArray) : (a.toList == b.toList) = decide (a = b) := by
  rw [ByteArray.toList_eq, ByteArray.toList_eq, Bool.eq_iff_iff]
  simp only [beq_iff_eq, decide_eq_true_eq]
  constructor
  · intro h; cases a; cases b; simp at h; rw [h]
  · intro h; rw [h]
theorem rk_eqls {t u : TypeId} {x y : Operand} {a b : ByteArray} (hx : Is sl x (.string a)) (hy : Is sl y (.string b)) :
    RunV P c sl hs ⟨dst, .binOp .eql t x y u, ty, pos, af, g⟩ (.bool (decide (a = b))) :=
  rk_bin hx hy fun w => by simp [eqGuard_string, binOp, Op.stringOp, str_beq]
theorem rk_neqs {t u : TypeId} {x y : Operand} {a b : ByteArray} (hx : Is sl x (.string a)) (hy : Is sl y (.string b)) :
    RunV P c sl hs ⟨dst, .binOp .neq t x y u, ty, pos, af, g⟩ (.bool (decide (a ≠ b))) :=
  rk_bin hx hy fun w => by simp [eqGuard_string, binOp, Op.stringOp, str_beq]
theorem rk_cat {t u : TypeId} {x y : Operand} {a b : ByteArray} (hx : Is sl x (.string a)) (hy : Is sl y (.string b)) (hb : a.size + b.size ≤ 9223372036854775807) :
    RunV P c sl hs ⟨dst, .binOp .add t x y u, ty, pos, af, g⟩ (.string (a ++ b)) :=
  rk_bin hx hy fun w => by
    simp [eqGuard_string, binOp, Op.stringOp]
    omega

/-! memory -/
theorem rk_load1 {t : TypeId} {n : Nat} {x : Operand} {b o : Nat} {v : Value} [Ty P t false n] (hx : Is sl x (.pointer (some ⟨b, o, none⟩))) (hv : At c hs b o v) :
    RunV P c sl hs ⟨dst, .load t x, ty, pos, af, g⟩ v :=
  ⟨by simp, fun a w ha hm => by simp [execOp, hx a ha, Instr.loadAt, Instr.sureAddr, rk_loadVar1 (hv w hm)]⟩
theorem rk_loadN {t : TypeId} {n : Nat} {x : Operand} {b o : Nat} {vs : List Value} [Ty P t true n] (hx : Is sl x (.pointer (some ⟨b, o, none⟩))) (hv : Ats c hs b o vs) (hl : vs.length = n) :
    RunV P c sl hs ⟨dst, .load t x, ty, pos, af, g⟩ (.agg vs.toArray) :=
  ⟨by simp, fun a w ha hm => by simp [execOp, hx a ha, Instr.loadAt, Instr.sureAddr, rk_loadVarN hl (fun j v h => hv.get j v h w hm)]⟩

def fieldOff (P : Program) (t : TypeId) (i : Nat) : Option Nat :=
  match P.underlying t with
  | some (.struct fs) => match fs[i]? with
    | some f => match P.info? f.type with
      | some fi => if fi.size = 0 then none else some f.offset
      | none => none
    | none => none
  | _ => none
class FOff (P : Program) (t : TypeId) (i : Nat) (o : outParam Nat) : Prop where
  eq : fieldOff P t i = some o

theorem FOff.parts {t : TypeId} {i o : Nat} [h : FOff P t i o] : ∃ fs f fi, P.underlying t = some (.struct fs) ∧ fs[i]? = some f ∧ P.info? f.type = some fi ∧ fi.size ≠ 0 ∧ f.offset = o := by
  have := h.eq
  unfold fieldOff at this
  split at this
  · rename_i fs hfs
    split at this
    · rename_i f hf
      split at this
      · rename_i fi hfi
        split at this
        · cases this
        · rename_i hz; cases this; exact ⟨fs, f, fi, hfs, hf, hfi, hz, rfl⟩
      · cases this
    · cases this
  · cases this

theorem rk_fieldAddr {t : TypeId} {i o : Nat} {x : Operand} {b k q : Nat} [FOff P t i o] (hx : Is sl x (.pointer (some ⟨b, k, none⟩))) (he : k + o = q) :
    RunV P c sl hs ⟨dst, .fieldAddr t x i, ty, pos, af, g⟩ (.pointer (some ⟨b, q, none⟩)) :=
  ⟨by simp, fun a w ha _ => by
    subst he
    obtain ⟨fs, f, fi, h1, h2, h3, h4, h5⟩ := FOff.parts (P := P) (t := t) (i := i)
    simp only [execOp, hx a ha, Instr.fieldAt, Sem.run_bind, rk_underlying h1, Result.andThen_ok, h2, Instr.sureAddr, Sem.run_pure, fieldPlace, sizeOf, rk_typeInfo h3, h4, if_false, addr_add, h5]⟩

/-- a part of an aggregate -/
def partOf (agg : Bool) (n : Nat) (cs : List Value) (o : Nat) : Option Value :=
  bif agg then some (.agg (cellsAt cs o n).toArray) else lget cs o

theorem rk_part {t : TypeId} {agg : Bool} {n : Nat} [Ty P t agg n] {cs : List Value} {o : Nat} {v : Value} {w : World} (h : partOf agg n cs o = some v) : (part t cs.toArray o).run P w = .ok v w := by
  unfold part
  rw [Sem.run_bind, rk_isAgg (agg := agg) (n := n), Result.andThen_ok]
  cases agg with
  | true =>
    simp only [partOf, cond_true, Option.some.injEq] at h
    simp only [if_true, Sem.run_bind, rk_sizeOf (t := t) (agg := true) (n := n), Result.andThen_ok, Sem.run_pure, ← h, cellsAt_eq]
    congr 2
    simp [List.extract_eq_take_drop]
  | false =>
    simp only [partOf, cond_false, lget_eq] at h
    simp [h]

def fieldInfo (P : Program) (t : TypeId) (i : Nat) : Option (Nat × TypeId) :=
  match P.underlying t with
  | some (.struct fs) => (fs[i]?).map fun f => (f.offset, f.type)
  | _ => none
class FTy (P : Program) (t : TypeId) (i : Nat) (o : outParam Nat) (ft : outParam TypeId) : Prop where
  eq : fieldInfo P t i = some (o, ft)

theorem rk_field {t ft : TypeId} {i o n : Nat} {agg : Bool} {x : Operand} {cs : List Value} {v : Value} [h : FTy P t i o ft] [Ty P ft agg n] (hx : Is sl x (.agg cs.toArray)) (hv : partOf agg n cs o = some v) :
    RunV P c sl hs ⟨dst, .field t x i, ty, pos, af, g⟩ v :=
  ⟨by simp, fun a w ha _ => by
    have h1 := h.eq
    unfold fieldInfo at h1
    split at h1
    · rename_i fs hfs
      obtain ⟨f, hf, he⟩ := Option.map_eq_some_iff.1 h1
      simp only [Prod.mk.injEq] at he
      obtain ⟨e1, e2⟩ := he
      subst e1; subst e2
      simp only [execOp, hx a ha, Instr.field, Sem.run_bind, rk_underlying hfs, Result.andThen_ok, hf, asAgg, Sem.run_pure, rk_part (agg := agg) (n := n) hv]
    · cases h1⟩

theorem rk_indexAddr {t e : TypeId} {n : Nat} {agg : Bool} {x y : Operand} {a0 : Option Addr} {b o len cap q : Nat} {k : IntKind} {i : Int} [hu : Und P t (.slice e)] [Ty P e agg n] (hx : Is sl x (.slice a0 len cap)) (hy : Is sl y (.int k i))
    (ha : a0 = some ⟨b, o, none⟩) (h0 : 0 ≤ i) (h1 : i < len) (he : o + i.toNat * n = q) : RunV P c sl hs ⟨dst, .indexAddr t x y, ty, pos, af, g⟩ (.pointer (some ⟨b, q, none⟩)) :=
  ⟨by simp, fun a w hsl _ => by
    subst he; subst ha
    simp [execOp, hx a hsl, hy a hsl, Instr.indexAt, asIntOf, rk_underlying hu.eq, h0, h1, rk_sizeOf (agg := agg) (n := n), addr_add]⟩
/-- an element of an array behind a pointer -/
theorem rk_indexAddrA {t e : TypeId} {n len : Nat} {agg : Bool} {x y : Operand} {b o q : Nat} {k : IntKind} {i : Int} [hu : Und P t (.array len e)] [Ty P e agg n] (hx : Is sl x (.pointer (some ⟨b, o, none⟩))) (hy : Is sl y (.int k i))
    (h0 : 0 ≤ i) (h1 : i < len) (he : o + i.toNat * n = q) : RunV P c sl hs ⟨dst, .indexAddr t x y, ty, pos, af, g⟩ (.pointer (some ⟨b, q, none⟩)) :=
  ⟨by simp, fun a w ha _ => by
    subst he
    simp [execOp, hx a ha, hy a ha, Instr.indexAt, Instr.sureAddr, asIntOf, rk_underlying hu.eq, h0, h1, rk_sizeOf (agg := agg) (n := n), addr_add]⟩
/-- an element of an array that is a value -/
theorem rk_index {t e : TypeId} {n len : Nat} {agg : Bool} {x y : Operand} {k : IntKind} {i : Int} {cs : List Value} {v : Value} [hu : Und P t (.array len e)] [Ty P e agg n] (hx : Is sl x (.agg cs.toArray)) (hy : Is sl y (.int k i))
    (h0 : 0 ≤ i) (h1 : i < len) (hv : partOf agg n cs (i.toNat * n) = some v) : RunV P c sl hs ⟨dst, .index t x y, ty, pos, af, g⟩ v :=
  ⟨by simp, fun a w ha _ => by
    simp [execOp, hx a ha, hy a ha, Instr.index, asIntOf, rk_underlying hu.eq, h0, h1, rk_sizeOf (agg := agg) (n := n), rk_part (agg := agg) (n := n) hv]⟩
/-- a byte of a string -/
theorem rk_indexS {t : TypeId} {x y : Operand} {k : IntKind} {i : Int} {s : ByteArray} [hu : Und P t .string] (hx : Is sl x (.string s)) (hy : Is sl y (.int k i))
    (h0 : 0 ≤ i) (h1 : i < s.size) : RunV P c sl hs ⟨dst, .index t x y, ty, pos, af, g⟩ (.int .u8 ((s.data.toList[i.toNat]?.getD 0).toNat : Nat)) :=
  ⟨by simp, fun a w ha _ => by
    have hlt : i.toNat < s.size := by omega
    have hs : s[i.toNat]? = some s[i.toNat] := getElem?_pos s i.toNat hlt
    have hd : s.data.toList[i.toNat]?.getD 0 = s[i.toNat] := by
      rw [Array.getElem?_toList, show s.data[i.toNat]? = some s.data[i.toNat] from Array.getElem?_eq_getElem hlt]
      rfl
    simp [execOp, hx a ha, hy a ha, Instr.index, asIntOf, rk_underlying hu.eq, h0, hs, ← hd]⟩

theorem rk_makeFunc {f : Fn} {first captured : Array Operand} {vs us : Array Value} (h1 : ∀ a, SlotsOk sl a → first.map a.eval = vs) (h2 : ∀ a, SlotsOk sl a → captured.map a.eval = us) :
    RunV P c sl hs ⟨dst, .makeFunc f first captured, ty, pos, af, g⟩ (.func f vs us) :=
  ⟨by simp, fun a w ha _ => by simp [execOp, h1 a ha, h2 a ha, Instr.makeFunc]⟩

theorem rk_extract {x : Operand} {i : Nat} {vs : List Value} {v : Value} (hx : Is sl x (.tuple vs.toArray)) (hv : lget vs i = some v) : RunV P c sl hs ⟨dst, .extract x i, ty, pos, af, g⟩ v :=
  ⟨by simp, fun a w ha _ => by simp [execOp, hx a ha, Instr.extract, ← lget_eq, hv]⟩

theorem rk_build {t : TypeId} {parts : Array (Nat × Operand)} {ps : Array (Nat × Value)} {v : Value} (hp : ∀ a, SlotsOk sl a → (parts.map fun (i, x) => (i, a.eval x)) = ps) (hb : ∀ w, (Instr.build t ps).run P w = .ok v w) :
    RunV P c sl hs ⟨dst, .build t parts, ty, pos, af, g⟩ v :=
  ⟨by simp, fun a w ha _ => by simp only [execOp, hp a ha, Sem.run_bind, hb w, Result.andThen_ok, Sem.run_pure]⟩

/-! builtins that read nothing -/
theorem rk_len_slice {t : TypeId} {e : TypeId} {x : Operand} {b : Option Addr} {n cap : Nat} [hu : Und P t (.slice e)] (hx : Is sl x (.slice b n cap)) :
    RunV P c sl hs ⟨dst, .call ⟨.builtin .len, #[x], #[t]⟩, ty, pos, af, g⟩ (.int .i64 n) :=
  ⟨by simp, fun a w ha _ => by simp [execOp, hx a ha, resolve, invoke, builtin, Builtin.len_, rk_underlying hu.eq, goInt]⟩
theorem rk_len_string {t : TypeId} {x : Operand} {s : ByteArray} [hu : Und P t .string] (hx : Is sl x (.string s)) :
    RunV P c sl hs ⟨dst, .call ⟨.builtin .len, #[x], #[t]⟩, ty, pos, af, g⟩ (.int .i64 s.size) :=
  ⟨by simp, fun a w ha _ => by simp [execOp, hx a ha, resolve, invoke, builtin, Builtin.len_, rk_underlying hu.eq, goInt]⟩
theorem rk_len_array {t e : TypeId} {n : Nat} {x : Operand} {v : Value} [hu : Und P t (.array n e)] (hx : Is sl x v) :
    RunV P c sl hs ⟨dst, .call ⟨.builtin .len, #[x], #[t]⟩, ty, pos, af, g⟩ (.int .i64 n) :=
  ⟨by simp, fun a w ha _ => by simp [execOp, hx a ha, resolve, invoke, builtin, Builtin.len_, rk_underlying hu.eq, goInt]⟩
theorem rk_max2 {k : IntKind} {ts : Array TypeId} {x y : Operand} {a b : Int} (hx : Is sl x (.int k a)) (hy : Is sl y (.int k b)) :
    RunV P c sl hs ⟨dst, .call ⟨.builtin .max, #[x, y], ts⟩, ty, pos, af, g⟩ (.int k (max a b)) :=
  ⟨by simp, fun e w ha _ => by
    simp [execOp, hx e ha, hy e ha, resolve, invoke, builtin, Builtin.max_, Builtin.max2]
    simp only [Int.max_def]; split <;> split <;> first | rfl | omega⟩
theorem rk_min2 {k : IntKind} {ts : Array TypeId} {x y : Operand} {a b : Int} (hx : Is sl x (.int k a)) (hy : Is sl y (.int k b)) :
    RunV P c sl hs ⟨dst, .call ⟨.builtin .min, #[x, y], ts⟩, ty, pos, af, g⟩ (.int k (min a b)) :=
  ⟨by simp, fun e w ha _ => by
    simp [execOp, hx e ha, hy e ha, resolve, invoke, builtin, Builtin.min_, Builtin.min2]
    simp only [Int.min_def]; split <;> split <;> first | rfl | omega⟩
theorem rk_conv {t u : TypeId} {k k' : IntKind} {x : Operand} {n : Int} [ht : Und P t (.int k')] [hu : Und P u (.int k)] (hx : Is sl x (.int k' n)) :
    RunV P c sl hs ⟨dst, .convert t u x, ty, pos, af, g⟩ (.int k (k.wrap n)) :=
  ⟨by simp, fun a w ha _ => by simp [execOp, hx a ha, convert, rk_underlying ht.eq, rk_underlying hu.eq, Conv.intToInt]⟩
end
end Go.SL
