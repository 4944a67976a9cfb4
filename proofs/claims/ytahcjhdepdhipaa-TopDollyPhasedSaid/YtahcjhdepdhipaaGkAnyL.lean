/- Regions that draw their order, gone through operation by operation: what only computes is taken first; the rest in each order that its edges allow. -/
import Derived.Test.YtahcjhdepdhipaaGkTab
import Derived.Scope
import Derived.Lib.SliceRun
set_option linter.unusedSectionVars false
set_option linter.unusedVariables false
set_option linter.unusedSimpArgs false
namespace Go.SL
open Go

def NP (Q : Exit → Act → World → Prop) : Exit → Act → World → Prop
  | .panic _ => fun _ _ => False
  | e => Q e

theorem Oper.wpIn_mono2 {F : Fence} {n : Nat} {P : Program} {o : Oper} {a : Act} {w : World} {K K' : Act → World → Prop} {Q Q' : Exit → Act → World → Prop} (h : ∀ a w, K a w → K' a w) (hq : ∀ c a w, Q (.panic c) a w → Q' (.panic c) a w) (hl : LetsOut Q → LetsOut Q')
    (hh : o.wpIn F n P a w K Q) : o.wpIn F n P a w K' Q' := by
  unfold Oper.wpIn at *
  refine ⟨hh.1, ?_⟩
  have hh := hh.2
  generalize (o.semAt F.round a.eval).run P w = r at *
  cases r with
  | ok x w' =>
    cases x <;> simp only [Oper.uponIn] at hh ⊢ <;>
      first
        | exact h _ _ hh
        | exact ⟨hh.1, CallsIn.mono hh.2 (fun e w'' he => by cases e <;> first | exact h _ _ he | exact hq _ _ _ he | exact hl he | exact he)⟩
        | exact ⟨hh.1, RowsIn.mono hh.2 (fun _ _ he => h _ _ he)⟩
        | exact ⟨hh.1, RoundIn.mono hh.2 (fun e w'' he => by cases e <;> first | exact h _ _ he | exact hq _ _ _ he | exact hl he | exact he)⟩
  | halt x w' => cases x <;> simp only [Oper.uponIn] at hh ⊢ <;> first | exact hh | exact hq _ _ _ hh

section
variable {P : Program} {r : Option Nat} {c : Cx} {D : List Nat} {sl : Slots} {hs hs' : List Asn} {Q : Exit → Act → World → Prop} {ops : Array Oper} {fuel i : Nat} {listed : Array Bool}

/-- what is left of a region -/
def Left (P : Program) (ops : Array Oper) (Q : Exit → Act → World → Prop) (fuel : Nat) (listed : Array Bool) : Act → World → Prop := wpAnyIn (FR none) 0 P .any ops (NP Q) fuel listed

theorem tr_left {id : Nat} {l : List Oper} (n : Nat) [hmix : Mix P] (hn : l.length = n) (k : Tr c D sl hs (Left P l.toArray Q n (Array.replicate n false))) : Tr c D sl hs (WP P none (.region id l.toArray true) Q) := fun a w hst => by
  subst hn
  have h : (Code.region id l.toArray true).wpIn (FR none) 0 P (NP Q) a w := wpIn_region_any hmix.eq (by
    have := k a w.drew (hst.heap hst.mem.drew)
    simpa [Left] using this)
  exact wpIn_mono h fun e a' w' h => by
    cases e with
    | panic c => exact h.elim
    | _ => exact h

/-- an operation that only computes -/
theorem left_take (i : Nat) {d : Nat} {op : Op} {ty : TypeId} {pos : String} {af : Array Edge} {V : Value} (hi : ops[i]? = some ⟨some d, op, ty, pos, af, none⟩) (hs1 : Region.noSelect ops = true) (hf : Region.free .any ops listed i = true) (hr : (Region.ready .any ops listed).contains i = true)
    (hab : ∀ (w : World) (ρ : Operand → Value), Oper.about P w ρ ⟨some d, op, ty, pos, af, none⟩ = none) (hv : ∀ w, RunV P ⟨w, [], 0⟩ sl [] ⟨some d, op, ty, pos, af, none⟩ V) (hd : Nat.blt d c.nt = true)
    (k : Tr c D ((d, V) :: sl) hs (Left P ops Q fuel (listed.setIfInBounds i true))) : Tr c D sl hs (Left P ops Q (fuel + 1) listed) := fun a w hst => by
  refine wpAnyIn_take (oi := ⟨some d, op, ty, pos, af, none⟩) rfl hi hs1 hf hr (fun c a w h => h) (v := V) ⟨.inl ⟨by simp [Region.wanted], fun w' => ?_⟩, fun w' => hab w' _⟩ (k _ _ (hst.put (by simpa [Nat.blt_eq] using hd) V))
  exact (hv w').2 a w' hst.slots ⟨.refl _ _, [], List.nodup_nil, rfl, by simp⟩

/-- one of those that may come next -/
def Next (P : Program) (c : Cx) (D : List Nat) (sl : Slots) (hs : List Asn) (ops : Array Oper) (Q : Exit → Act → World → Prop) (fuel : Nat) (listed : Array Bool) (i : Nat) : Prop :=
  ∀ a w, St c D sl hs a w → wpOpIn (FR none) 0 P ops (NP Q) i (Left P ops Q fuel (listed.setIfInBounds i true)) a w
theorem left_ready {rs : List Nat} (hr : Region.ready .any ops listed = rs) (hne : rs ≠ []) (h : ∀ i ∈ rs, Next P c D sl hs ops Q fuel listed i) : Tr c D sl hs (Left P ops Q (fuel + 1) listed) := fun a w hst =>
  wpAnyIn_all hr hne fun i hi => h i hi a w hst
theorem next_step {d : Option Tmp} {op : Op} {ty : TypeId} {pos : String} {af : Array Edge} {g : Option (Nat × Bool)} (hi : ops[i]? = some ⟨d, op, ty, pos, af, g⟩) (h : Tr c D sl hs (WL P none ops (Exit.then (Left P ops Q fuel (listed.setIfInBounds i true)) (NP Q)) [⟨d, op, ty, pos, af, g⟩])) : Next P c D sl hs ops Q fuel listed i := fun a w hst => by
  have h1 := h a w hst
  unfold wpOpIn
  simp only [hi]
  unfold WL at h1
  split
  · rename_i hw
    rw [if_pos hw] at h1
    exact Oper.wpIn_mono2 (fun a w h => h) (fun c a w h => h) (fun h => h) h1
  · rename_i hw
    rw [if_neg hw] at h1
    exact ⟨fun _ _ => trivial, h1⟩
theorem left_done (hr : Region.ready .any ops listed = []) (k : Tr c D sl hs (Q .normal)) : Tr c D sl hs (Left P ops Q fuel listed) := fun a w hst =>
  wpAnyIn_done (Q := NP Q) hr (k a w hst) fuel
/-! scopes of labels, without a goto -/
theorem tr_scope {x : Code} (h : Tr c D sl hs (WP P none x (Exit.noGoto Q))) : Tr c D sl hs (WP P none (.scope x) Q) := fun a w hst =>
  (wpIn_wide (n := 0)).2 (wp_scope_straight ((wpIn_wide (n := 0)).1 (h a w hst)))
theorem tr_ng_normal (h : Tr c D sl hs (Q .normal)) : Tr c D sl hs (Exit.noGoto Q .normal) := h
theorem tr_ng_ret (h : Tr c D sl hs (Q .ret)) : Tr c D sl hs (Exit.noGoto Q .ret) := h
theorem tr_ng_exit {id : Nat} (h : Tr c D sl hs (Q (.exit id))) : Tr c D sl hs (Exit.noGoto Q (.exit id)) := h
theorem tr_label {l : Nat} {r : Option Nat} (h : Tr c D sl hs (Q .normal)) : Tr c D sl hs (WP P r (.label l) Q) := fun a w hst => wpIn_label (h a w hst)

variable {dst : Option Tmp} {ty : TypeId} {pos : String} {af : Array Edge} {g : Option (Nat × Bool)}
/-- a slice against nil -/
theorem rk_eqNil {t u e : TypeId} {x y : Operand} {a : Option Addr} {n cp n' cp' : Nat} [hu : Und P t (.slice e)] (hx : Is sl x (.slice a n cp)) (hy : Is sl y (.slice none n' cp')) : RunV P c sl hs ⟨dst, .binOp .eql t x y u, ty, pos, af, g⟩ (.bool a.isNone) :=
  rk_bin hx hy fun w => by
    have h1 : (eqGuard .eql t x y (.slice a n cp) (.slice none n' cp')).run P w = .ok () w := by simp [eqGuard]
    rw [Sem.run_bind, h1, Result.andThen_ok]
    exact Go.Lib.run_eql_slice_nil w t e a n cp n' cp' hu.eq
end
end Go.SL
