/- The rules by which a plan for a drawing region is made, step by step; ends of functions. -/
import Derived.Test.YtahcjhdepdhipaaGkReg
import Derived.Test.YtahcjhdepdhipaaGkEq
set_option linter.unusedSectionVars false
set_option linter.unusedVariables false
set_option linter.unusedSimpArgs false
namespace Go.SL
open Go

/-- an operand's value, reckoned -/
def ev (sl : Slots) : Operand → Option Value
  | .tmp t => sget sl t
  | .const v => some v
  | .global g => some (.pointer (some ⟨g, 0, none⟩))
  | .func f => some (.func (.func f) #[] #[])
theorem Is.of {sl : Slots} {x : Operand} {v : Value} (h : ev sl x = some v) : Is sl x v := fun a ha => by
  cases x with
  | tmp t => exact ha.eval h
  | const u => exact Option.some.inj h
  | global g => exact Option.some.inj h
  | func f => exact Option.some.inj h
theorem Is.ofg {sl : Slots} {x : Operand} {c : Bool} {v : Value} (hc : c = true) (h : ev sl x = some (SL.gv c v)) : Is sl x v := (gv_true hc (v := v)) ▸ Is.of h

class Mix (P : Program) : Prop where
  eq : P.follows .mixedOrders = true

section
variable {P : Program} {r : Option Nat} {c : Cx} {D : List Nat} {sl : Slots} {rl : RSlots} {hs hs' : List Asn} {Q : Exit → Act → World → Prop} {ops : Array Oper} {m d : Nat} {dst : Option Tmp} {op : Op} {ty : TypeId} {pos : String} {af : Array Edge} {g : Option (Nat × Bool)} {rest : List Oper}

def AnyT (P : Program) (r : Option Nat) (c : Cx) (D : List Nat) (hs : List Asn) (ops : Array Oper) (Q : Exit → Act → World → Prop) (m : Nat) (l : List Oper) (sl : Slots) (rl : RSlots) : Prop :=
  ∃ S sl' rl', Plan P c hs ops (l.take m) sl rl S sl' rl' ∧ ∀ a w, St c D sl' hs a w → RelsOk rl' a w → WL P r ops Q (l.drop m) a w

theorem tr_draw {id : Nat} {l : List Oper} (m : Nat) [hmix : Mix P] (hck : regOk l m = true) (k : AnyT P r c D hs l.toArray Q m l sl []) : Tr c D sl hs (WP P r (.region id l.toArray true) Q) := by
  obtain ⟨S, sl', rl', hp, ht⟩ := k
  exact tr_draw_plan hmix.eq hck hp ht

theorem any_end {l : List Oper} (k : Tr c D sl hs (WL P r ops Q l)) : AnyT P r c D hs ops Q 0 l sl rl :=
  ⟨[], sl, rl, .nil, fun a w hst _ => k a w hst⟩
/-- ending with what is known of made memory -/
theorem any_endR {l : List Oper} (k : ∀ a w, St c D sl hs a w → RelsOk rl a w → WL P r ops Q l a w) : AnyT P r c D hs ops Q 0 l sl rl :=
  ⟨[], sl, rl, .nil, k⟩

theorem any_stepV {o : Oper} {V : Value} (ho : o.dst = some d) (hd : Nat.blt d c.nt = true) (h : StepQ P c hs ops sl rl o (.val V)) (k : AnyT P r c D hs ops Q m rest ((d, V) :: sl) rl) : AnyT P r c D hs ops Q (m + 1) (o :: rest) sl rl := by
  obtain ⟨S, sl', rl', hp, ht⟩ := k
  exact ⟨_, _, _, .val ho (by simpa [Nat.blt_eq] using hd) h hp, ht⟩
theorem any_stepR {o : Oper} {R : Rel} (ho : o.dst = some d) (hd : Nat.blt d c.nt = true) (hn : sget sl d = none) (h : StepQ P c hs ops sl rl o R) (k : AnyT P r c D hs ops Q m rest sl ((d, R) :: rl)) : AnyT P r c D hs ops Q (m + 1) (o :: rest) sl rl := by
  obtain ⟨S, sl', rl', hp, ht⟩ := k
  exact ⟨_, _, _, .rel ho (by simpa [Nat.blt_eq] using hd) hn h hp, ht⟩

theorem stepQ_of {o : Oper} {R : Rel} (hg : o.guard = none) (h : ∀ a w, SlotsOk sl a → RelsAt (o.looksAt ops) rl a w → Mem c hs w → QRun P o a w R) : StepQ P c hs ops sl rl o R := fun a w h1 h2 h3 => by
  rw [if_pos (by simp [Region.wanted, hg])]
  exact h a w h1 h2 h3

theorem qrun_val {o : Oper} {V : Value} (hr : RunV P c sl hs o V) {a : Act} {w : World} (h1 : SlotsOk sl a) (h3 : Mem c hs w) : QRun P o a w (.val V) := by
  unfold QRun
  rw [hr.2 a w h1 h3]
  exact ⟨.refl _ _, rfl⟩

theorem qrun_call {o : Oper} {f : FuncId} {args : List Value} {V : Value} (hr : RunC P sl o f args) {a : Act} {w : World} (h1 : SlotsOk sl a) (hc : GivesV P f args w V) : QRun P o a w (.val V) := by
  unfold QRun
  rw [hr.2 a w h1]
  exact ⟨rfl, hc.mono fun e w' ⟨he, hk⟩ => ⟨V, he, hk, rfl⟩⟩

theorem any_val {V : Value} (hr : RunV P c sl hs ⟨some d, op, ty, pos, af, none⟩ V) (hd : Nat.blt d c.nt = true) (k : AnyT P r c D hs ops Q m rest ((d, V) :: sl) rl) :
    AnyT P r c D hs ops Q (m + 1) (⟨some d, op, ty, pos, af, none⟩ :: rest) sl rl :=
  any_stepV rfl hd (stepQ_of rfl fun _ _ h1 _ h3 => qrun_val hr h1 h3) k

theorem any_call {f : FuncId} {args : List Value} {V : Value} (hr : RunC P sl ⟨some d, op, ty, pos, af, none⟩ f args) (hd : Nat.blt d c.nt = true) (hc : ∀ w, Mem c hs w → GivesV P f args w V) (k : AnyT P r c D hs ops Q m rest ((d, V) :: sl) rl) :
    AnyT P r c D hs ops Q (m + 1) (⟨some d, op, ty, pos, af, none⟩ :: rest) sl rl :=
  any_stepV rfl hd (stepQ_of rfl fun _ w h1 _ h3 => qrun_call hr h1 (hc w h3)) k

theorem stepQ_guard {o : Oper} {V : Value} {j gs : Nat} {want c0 q : Bool} (hg : o.guard = some (j, want)) (hj : ((ops[j]?).bind (·.dst)) = some gs) (hq : sget sl gs = some (gv c0 (.bool q)))
    (h : (c0 && (q == want)) = true → ∀ a w, SlotsOk sl a → Mem c hs w → QRun P o a w (.val V)) : StepQ P c hs ops sl rl o (.val (gv (c0 && (q == want)) V)) := fun a w h1 _ h3 => by
  rw [wanted_gv hg hj h1 hq]
  by_cases hc : (c0 && (q == want)) = true
  · rw [if_pos hc, gv_true hc]
    exact h hc a w h1 h3
  · rw [if_neg hc, gv_false (by simpa using hc)]
    rfl

theorem any_valG {V : Value} {j gs : Nat} {want c0 q : Bool} (hj : ((ops[j]?).bind (·.dst)) = some gs) (hq : sget sl gs = some (gv c0 (.bool q)))
    (hr : (c0 && (q == want)) = true → RunV P c sl hs ⟨some d, op, ty, pos, af, some (j, want)⟩ V) (hd : Nat.blt d c.nt = true) (k : AnyT P r c D hs ops Q m rest ((d, gv (c0 && (q == want)) V) :: sl) rl) :
    AnyT P r c D hs ops Q (m + 1) (⟨some d, op, ty, pos, af, some (j, want)⟩ :: rest) sl rl :=
  any_stepV rfl hd (stepQ_guard rfl hj hq fun hc _ _ h1 h3 => qrun_val (hr hc) h1 h3) k
theorem any_valG1 {V : Value} {j gs : Nat} {want q : Bool} (hj : ((ops[j]?).bind (·.dst)) = some gs) (hq : sget sl gs = some (.bool q))
    (hr : (q == want) = true → RunV P c sl hs ⟨some d, op, ty, pos, af, some (j, want)⟩ V) (hd : Nat.blt d c.nt = true) (k : AnyT P r c D hs ops Q m rest ((d, gv (q == want) V) :: sl) rl) :
    AnyT P r c D hs ops Q (m + 1) (⟨some d, op, ty, pos, af, some (j, want)⟩ :: rest) sl rl :=
  any_valG (c0 := true) hj (by rw [hq]; rfl) (by simpa using hr) hd (by simpa using k)
theorem any_callG {f : FuncId} {args : List Value} {V : Value} {j gs : Nat} {want c0 q : Bool} (hj : ((ops[j]?).bind (·.dst)) = some gs) (hq : sget sl gs = some (gv c0 (.bool q)))
    (hr : (c0 && (q == want)) = true → RunC P sl ⟨some d, op, ty, pos, af, some (j, want)⟩ f args) (hd : Nat.blt d c.nt = true) (hc : (c0 && (q == want)) = true → ∀ w, Mem c hs w → GivesV P f args w V) (k : AnyT P r c D hs ops Q m rest ((d, gv (c0 && (q == want)) V) :: sl) rl) :
    AnyT P r c D hs ops Q (m + 1) (⟨some d, op, ty, pos, af, some (j, want)⟩ :: rest) sl rl :=
  any_stepV rfl hd (stepQ_guard rfl hj hq fun h _ w h1 h3 => qrun_call (hr h) h1 (hc h w h3)) k
theorem any_callG1 {f : FuncId} {args : List Value} {V : Value} {j gs : Nat} {want q : Bool} (hj : ((ops[j]?).bind (·.dst)) = some gs) (hq : sget sl gs = some (.bool q))
    (hr : (q == want) = true → RunC P sl ⟨some d, op, ty, pos, af, some (j, want)⟩ f args) (hd : Nat.blt d c.nt = true) (hc : (q == want) = true → ∀ w, Mem c hs w → GivesV P f args w V) (k : AnyT P r c D hs ops Q m rest ((d, gv (q == want) V) :: sl) rl) :
    AnyT P r c D hs ops Q (m + 1) (⟨some d, op, ty, pos, af, some (j, want)⟩ :: rest) sl rl :=
  any_callG (c0 := true) hj (by rw [hq]; rfl) (by simpa using hr) hd (by simpa using hc) (by simpa using k)

/-! guarded calls ahead of a walk in the text's order -/
theorem tr_callVG {f : FuncId} {args : List Value} {V : Value} {j gs : Nat} {want c0 q : Bool} (hj : ((ops[j]?).bind (·.dst)) = some gs) (hq : sget sl gs = some (gv c0 (.bool q)))
    (hr : (c0 && (q == want)) = true → RunC P sl ⟨some d, op, ty, pos, af, some (j, want)⟩ f args) (hd : Nat.blt d c.nt = true) (hc : (c0 && (q == want)) = true → ∀ w, Mem c hs w → GivesV P f args w V)
    (k : Tr c D ((d, gv (c0 && (q == want)) V) :: sl) hs (WL P r ops Q rest)) : Tr c D sl hs (WL P r ops Q (⟨some d, op, ty, pos, af, some (j, want)⟩ :: rest)) := fun a w hst => by
  unfold WL
  rw [wanted_gv rfl hj hst.slots hq]
  by_cases h : (c0 && (q == want)) = true
  · rw [if_pos h]
    rw [gv_true h] at k
    refine ⟨fr_about _ _ _ _ _, ?_⟩
    rw [Oper.semAt_eq _ _ _ (hr h).1, (hr h).2 a w hst.slots]
    exact ⟨by simp [FR, Fence.wide], (calls_wide (hc h w hst.mem')).mono fun e w' ⟨he, hk⟩ => by
      subst he
      exact k _ _ ((hst.put (by simpa [Nat.blt_eq] using hd) V).heap (hst.mem.keepsOn hk))⟩
  · rw [if_neg h]
    rw [gv_false (by simpa using h)] at k
    exact k _ _ (hst.put (by simpa [Nat.blt_eq] using hd) undef)
theorem tr_callVG1 {f : FuncId} {args : List Value} {V : Value} {j gs : Nat} {want q : Bool} (hj : ((ops[j]?).bind (·.dst)) = some gs) (hq : sget sl gs = some (.bool q))
    (hr : (q == want) = true → RunC P sl ⟨some d, op, ty, pos, af, some (j, want)⟩ f args) (hd : Nat.blt d c.nt = true) (hc : (q == want) = true → ∀ w, Mem c hs w → GivesV P f args w V)
    (k : Tr c D ((d, gv (q == want) V) :: sl) hs (WL P r ops Q rest)) : Tr c D sl hs (WL P r ops Q (⟨some d, op, ty, pos, af, some (j, want)⟩ :: rest)) :=
  tr_callVG (c0 := true) hj (by rw [hq]; rfl) (by simpa using hr) hd (by simpa using hc) (by simpa using k)

/-! memory made within a drawing region -/
def relNew (V : Nat → Value) (ob : Obj) : Rel := ⟨fun v w => ∃ b, v = V b ∧ w.heap[b]? = some ob, fun ⟨b, e, h⟩ hk => ⟨b, e, by rw [hk.block b (hp_lt h) (by simp)]; exact h⟩⟩

theorem any_new {V : Nat → Value} {ob : Obj} (hr : RunN P c sl hs ⟨some d, op, ty, pos, af, none⟩ V ob) (hd : Nat.blt d c.nt = true) (hn : sget sl d = none) (k : AnyT P r c D hs ops Q m rest sl ((d, relNew V ob) :: rl)) :
    AnyT P r c D hs ops Q (m + 1) (⟨some d, op, ty, pos, af, none⟩ :: rest) sl rl :=
  any_stepR rfl hd hn (stepQ_of rfl fun a w h1 _ h3 => by
    unfold QRun
    rw [hr.2 a w h1 h3]
    exact ⟨.alloc _ _ _, w.heap.size, rfl, World.alloc_heap_new w ob⟩) k

/-- a call one of whose arguments is memory made in this region -/
theorem any_callN {f : FuncId} {t : Nat} {V : Nat → Value} {ob : Obj} {args : Nat → List Value} {W : Value} (hm : (t, relNew V ob) ∈ rl) (ht : t ∈ Oper.looksAt ops ⟨some d, op, ty, pos, af, none⟩)
    (hr : ∀ b, RunC P ((t, V b) :: sl) ⟨some d, op, ty, pos, af, none⟩ f (args b)) (hd : Nat.blt d c.nt = true) (hc : ∀ b w, Mem c hs w → w.heap[b]? = some ob → GivesV P f (args b) w W) (k : AnyT P r c D hs ops Q m rest ((d, W) :: sl) rl) :
    AnyT P r c D hs ops Q (m + 1) (⟨some d, op, ty, pos, af, none⟩ :: rest) sl rl :=
  any_stepV rfl hd (stepQ_of rfl fun a w h1 h2 h3 => by
    obtain ⟨v, hv, b, rfl, hb⟩ := h2 t _ hm ht
    refine qrun_call (hr b) ?_ (hc b w h3 hb)
    intro t' v' hv'
    by_cases e : t = t'
    · subst e; rw [sget_cons_eq] at hv'; cases hv'; exact hv
    · rw [sget_cons_ne e] at hv'; exact h1 t' v' hv') k

/-! ### ends -/
theorem rk_results1 {fn : Func} {t : Tmp} (h : fn.results = #[.tmp t]) {sl : Slots} {v : Value} (hv : sget sl t = some v) {a : Act} (ha : SlotsOk sl a) (w : World) : (results fn a.tmps).run P w = .ok v w := by
  have := ha t v hv
  simp [results, h, Array.getD_eq_getD_getElem?, this]
theorem rk_results2 {fn : Func} {t u : Tmp} (h : fn.results = #[.tmp t, .tmp u]) {sl : Slots} {v x : Value} (hv : sget sl t = some v) (hx : sget sl u = some x) {a : Act} (ha : SlotsOk sl a) (w : World) : (results fn a.tmps).run P w = .ok (.tuple #[v, x]) w := by
  have h1 := ha t v hv
  have h2 := ha u x hx
  simp [results, h, Array.getD_eq_getD_getElem?, h1, h2]
theorem rk_results3 {fn : Func} {t u s : Tmp} (h : fn.results = #[.tmp t, .tmp u, .tmp s]) {sl : Slots} {v x y : Value} (hv : sget sl t = some v) (hx : sget sl u = some x) (hy : sget sl s = some y) {a : Act} (ha : SlotsOk sl a) (w : World) : (results fn a.tmps).run P w = .ok (.tuple #[v, x, y]) w := by
  have h1 := ha t v hv
  have h2 := ha u x hx
  have h3 := ha s y hy
  simp [results, h, Array.getD_eq_getD_getElem?, h1, h2, h3]
theorem rk_results0 {fn : Func} (h : fn.results = #[]) {a : Act} (w : World) : (results fn a.tmps).run P w = .ok (.tuple #[]) w := by
  simp [results, h]

/-- the results, read off in any world that fits -/
def Ends (P : Program) (fn : Func) (c : Cx) (sl : Slots) (hs : List Asn) (v : Value) : Prop := ∀ a w, SlotsOk sl a → Mem c hs w → (results fn a.tmps).run P w = .ok v w

theorem ends1 {fn : Func} {t : Tmp} {v : Value} (h : fn.results = #[.tmp t]) (hv : sget sl t = some v) : Ends P fn c sl hs v := fun _ w ha _ => rk_results1 h hv ha w
theorem ends2 {fn : Func} {t u : Tmp} {v x : Value} (h : fn.results = #[.tmp t, .tmp u]) (hv : sget sl t = some v) (hx : sget sl u = some x) : Ends P fn c sl hs (.tuple #[v, x]) := fun _ w ha _ => rk_results2 h hv hx ha w
theorem ends3 {fn : Func} {t u s : Tmp} {v x y : Value} (h : fn.results = #[.tmp t, .tmp u, .tmp s]) (hv : sget sl t = some v) (hx : sget sl u = some x) (hy : sget sl s = some y) : Ends P fn c sl hs (.tuple #[v, x, y]) := fun _ w ha _ => rk_results3 h hv hx hy ha w
theorem ends0 {fn : Func} (h : fn.results = #[]) : Ends P fn c sl hs (.tuple #[]) := fun _ w _ _ => rk_results0 h w
/-- a result that lies in memory -/
theorem ends1c {fn : Func} {t : Tmp} {T : TypeId} {b o n : Nat} {v : Value} [Ty P T false n] (h : fn.results = #[.cell t T]) (hp : sget sl t = some (.pointer (some ⟨b, o, none⟩))) (hv : At c hs b o v) : Ends P fn c sl hs v := fun a w ha hm => by
  have h1 := ha t _ hp
  simp [results, h, Array.getD_eq_getD_getElem?, h1, asAddr, rk_loadVar1 (hv w hm)]
theorem ends1cN {fn : Func} {t : Tmp} {T : TypeId} {b o n : Nat} {vs : List Value} [Ty P T true n] (h : fn.results = #[.cell t T]) (hp : sget sl t = some (.pointer (some ⟨b, o, none⟩))) (hv : Ats c hs b o vs) (hl : vs.length = n) : Ends P fn c sl hs (.agg vs.toArray) := fun a w ha hm => by
  have h1 := ha t _ hp
  simp [results, h, Array.getD_eq_getD_getElem?, h1, asAddr, rk_loadVarN hl (fun j v h => hv.get j v h w hm)]

/-- a result in memory (of whatever type) by a fact on its load -/
def Loads (P : Program) (c : Cx) (hs : List Asn) (T : TypeId) (b o : Nat) (v : Value) : Prop := ∀ w, Mem c hs w → (loadVar T ⟨b, o, none⟩).run P w = .ok v w
theorem loads1 {T : TypeId} {b o n : Nat} {v : Value} [Ty P T false n] (hv : At c hs b o v) : Loads P c hs T b o v := fun w hm => rk_loadVar1 (hv w hm)
theorem loadsN {T : TypeId} {b o n : Nat} {vs : List Value} [Ty P T true n] (hv : Ats c hs b o vs) (hl : vs.length = n) : Loads P c hs T b o (.agg vs.toArray) := fun w hm => rk_loadVarN hl (fun j v h => hv.get j v h w hm)

inductive RV (P : Program) (c : Cx) (sl : Slots) (hs : List Asn) : ResultVar → Value → Prop
  | tmp {t : Tmp} {v : Value} (h : sget sl t = some v) : RV P c sl hs (.tmp t) v
  | cell {t : Tmp} {T : TypeId} {b o : Nat} {v : Value} (h : sget sl t = some (.pointer (some ⟨b, o, none⟩))) (hl : Loads P c hs T b o v) : RV P c sl hs (.cell t T) v
inductive RVs (P : Program) (c : Cx) (sl : Slots) (hs : List Asn) : List ResultVar → List Value → Prop
  | nil : RVs P c sl hs [] []
  | cons {x : ResultVar} {xs : List ResultVar} {v : Value} {vs : List Value} (h : RV P c sl hs x v) (t : RVs P c sl hs xs vs) : RVs P c sl hs (x :: xs) (v :: vs)

def rvGet (tmps : Array Value) : ResultVar → Sem Value
  | .tmp t => pure (tmps.getD t undef)
  | .cell a t => do loadVar t (← asAddr (tmps.getD a undef))

theorem rvs_run {xs : List ResultVar} {vs : List Value} (h : RVs P c sl hs xs vs) {a : Act} {w : World} (ha : SlotsOk sl a) (hm : Mem c hs w) : (xs.mapM (rvGet a.tmps)).run P w = .ok vs w := by
  induction h with
  | nil => simp
  | cons h _ ih =>
    cases h with
    | tmp h => simp [rvGet, Array.getD_eq_getD_getElem?, ha _ _ h, ih]
    | cell h hl => simp [rvGet, Array.getD_eq_getD_getElem?, ha _ _ h, asAddr, hl w hm, ih]

theorem endsL {fn : Func} {xs : List ResultVar} {vs : List Value} (hx : fn.results = xs.toArray) (h : RVs P c sl hs xs vs) (hl : vs.length ≠ 1) : Ends P fn c sl hs (.tuple vs.toArray) := fun a w ha hm => by
  have := rvs_run h ha hm
  have h2 : (Array.mapM (rvGet a.tmps) xs.toArray).run P w = .ok vs.toArray w := by
    rw [List.mapM_toArray]
    simp [this]
  unfold results
  rw [hx]
  change Sem.run P (Array.mapM (rvGet a.tmps) xs.toArray >>= fun vs => pure (if h : vs.size = 1 then vs[0] else Value.tuple vs)) w = _
  rw [Sem.run_bind, h2, Result.andThen_ok, Sem.run_pure]
  rw [dif_neg (by simpa using hl)]

/-- the shape of a contract's end -/
theorem tr_retV {fn : Func} {v : Value} (hmd : c.md = []) (he : Ends P fn c sl hs v) :
    Tr c [] sl hs (bodyPostM (FR r) 0 P fn (fun e w' => e = .returned v ∧ Keeps [] c.w0 w') .ret) := fun a w hst => by
  have hm := hst.mem'
  show LeavesInM (FR r) 0 P fn a.tmps _ a.defers .returning w
  rw [hst.defers]
  exact ⟨v, he a w hst.slots hm, rfl, by rw [← hmd]; exact hm.keeps⟩
theorem tr_endV {fn : Func} {v : Value} (hmd : c.md = []) (he : Ends P fn c sl hs v) :
    Tr c [] sl hs (bodyPostM (FR r) 0 P fn (fun e w' => e = .returned v ∧ Keeps [] c.w0 w') .normal) := tr_retV (r := r) hmd he

/-- the same, the value brought into its form afterwards -/
theorem tr_retE {fn : Func} {v v' : Value} (hmd : c.md = []) (he : Ends P fn c sl hs v') (hv : v' = v) :
    Tr c [] sl hs (bodyPostM (FR r) 0 P fn (fun e w' => e = .returned v ∧ Keeps [] c.w0 w') .ret) := hv ▸ tr_retV hmd he
theorem tr_endE {fn : Func} {v v' : Value} (hmd : c.md = []) (he : Ends P fn c sl hs v') (hv : v' = v) :
    Tr c [] sl hs (bodyPostM (FR r) 0 P fn (fun e w' => e = .returned v ∧ Keeps [] c.w0 w') .normal) := hv ▸ tr_endV (r := r) hmd he

theorem leaves_marks {fn : Func} {v : Value} {R : Ending → World → Prop} : ∀ (D : List Nat) (w : World) (a : Act), a.defers = D.map mark → SlotsOk sl a → Mem c (hs ++ mks D) w → Ends P fn c sl hs v →
    (∀ w', Mem c hs w' → R (.returned v) w') → LeavesInM (FR r) 0 P fn a.tmps R (D.map mark) .returning w
  | [], w, a, _, ha, hm, he, hR => ⟨v, he a w ha (by simpa [mks] using hm), hR w (by simpa [mks] using hm)⟩
  | b :: D, w, a, _, ha, hm, he, hR => by
    have htake : Take (hs ++ mks (b :: D)) (blk b (.deferred (some []))) (hs ++ mks D) := by
      clear hm he hR
      induction hs with
      | nil => exact .here
      | cons A hs ih => exact .there ih
    have hm2 := hm.take htake
    have hb : w.heap[b]? = some (.deferred (some [])) := hm2.blk .here
    refine ⟨by simp, .inl ⟨b, w.putObj b (.deferred none), rfl, run_takeDeferred hb, ?_⟩⟩
    have hk : Keeps [b] w (w.putObj b (.deferred none)) := ⟨rfl, rfl, rfl, by simp, fun k _ hn => World.putObj_heap_other (by simpa using hn)⟩
    have hm3 : Mem c (hs ++ mks D) (w.putObj b (.deferred none)) := (Mem.store hm2 hk (World.putObj_heap_same (hp_lt (w := w) hb))).dropHead
    exact leaves_marks D _ { a with defers := D.map mark } rfl ha hm3 he hR

/-- the end of a function that held range-over-func statements too -/
theorem tr_retM {fn : Func} {v : Value} {R : Ending → World → Prop} (he : Ends P fn c sl hs v) (hR : ∀ w', Mem c hs w' → R (.returned v) w') :
    Tr c D sl hs (bodyPostM (FR r) 0 P fn R .ret) := fun a w hst => by
  show LeavesInM (FR r) 0 P fn a.tmps R a.defers .returning w
  rw [hst.defers]
  exact leaves_marks D w a hst.defers hst.slots hst.mem he hR
theorem tr_endM {fn : Func} {v : Value} {R : Ending → World → Prop} (he : Ends P fn c sl hs v) (hR : ∀ w', Mem c hs w' → R (.returned v) w') :
    Tr c D sl hs (bodyPostM (FR r) 0 P fn R .normal) := tr_retM (r := r) he hR

theorem givesV_of_tr {f : FuncId} {fn : Func} {code : Code} {args : List Value} {w : World} {V : Value} (hf : P.funcs[f]? = some fn) (hb : fn.body = some code) (hl : Nat.ble args.length fn.ntmps = true)
    (h : Tr ⟨w, [], fn.ntmps⟩ [] (argSlots 0 args) [] (WP P none code (bodyPostM (FR none) 0 P fn (fun e w' => e = .returned V ∧ Keeps [] w w')))) : GivesV P f args w V :=
  calls_of_tr (hs0 := []) hf hb (by simpa using hl) ⟨[], List.nodup_nil, rfl, fun _ h => by cases h⟩ h
theorem gives_of_tr {f : FuncId} {fn : Func} {code : Code} {args : List Value} {w : World} {ι : Type} {Φ : ι → Prop} {val : ι → Value} {own : ι → List Asn} (hf : P.funcs[f]? = some fn) (hb : fn.body = some code) (hl : Nat.ble args.length fn.ntmps = true)
    (h : Tr ⟨w, [], fn.ntmps⟩ [] (argSlots 0 args) [] (WP P none code (bodyPostM (FR none) 0 P fn (fun e w' => ∃ x, e = .returned (val x) ∧ Φ x ∧ Keeps [] w w' ∧ ∃ fp : List Nat, fp.Nodup ∧ Sats (hp w') (own x) fp ∧ ∀ b ∈ fp, b ∈ ([] : List Nat) ∨ w.heap.size ≤ b)))) :
    Gives P f args w [] Φ val own :=
  calls_of_tr (hs0 := []) hf hb (by simpa using hl) ⟨[], List.nodup_nil, rfl, fun _ h => by cases h⟩ h
/-- with memory that is taken in -/
theorem givesM_of_tr {f : FuncId} {fn : Func} {code : Code} {args : List Value} {w : World} {fp0 : List Nat} {As : List Asn} {ι : Type} {Φ : ι → Prop} {val : ι → Value} {own : ι → List Asn} (hf : P.funcs[f]? = some fn) (hb : fn.body = some code) (hl : Nat.ble args.length fn.ntmps = true)
    (hn : fp0.Nodup) (hs0 : Sats (hp w) As fp0)
    (h : Tr ⟨w, fp0, fn.ntmps⟩ [] (argSlots 0 args) As (WP P none code (bodyPostM (FR none) 0 P fn (fun e w' => ∃ x, e = .returned (val x) ∧ Φ x ∧ Keeps fp0 w w' ∧ ∃ fp : List Nat, fp.Nodup ∧ Sats (hp w') (own x) fp ∧ ∀ b ∈ fp, b ∈ fp0 ∨ w.heap.size ≤ b)))) :
    Gives P f args w fp0 Φ val own :=
  calls_of_tr hf hb (by simpa using hl) ⟨fp0, hn, hs0, fun _ h => h⟩ h

/-- a contract whose results own memory -/
theorem gives_end {ι : Type} {Φ : ι → Prop} {val : ι → Value} {own : ι → List Asn} (x : ι) (hx : Φ x) {As : List Asn} (ht : Takes hs (own x) As) {w' : World} (hm : Mem c hs w') {v : Value} (hv : v = val x) :
    ∃ x, Ending.returned v = .returned (val x) ∧ Φ x ∧ Keeps c.md c.w0 w' ∧ ∃ fp : List Nat, fp.Nodup ∧ Sats (hp w') (own x) fp ∧ ∀ b ∈ fp, b ∈ c.md ∨ c.w0.heap.size ≤ b := by
  have h2 := (hm.takes ht).dropTail
  obtain ⟨k, fp, hn, hsat, hb⟩ := h2
  exact ⟨x, by rw [hv], hx, k, fp, hn, hsat, fun b hb' => (hb b hb').symm⟩
end
end Go.SL
