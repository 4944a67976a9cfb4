/- The core of a small separation logic over the walk's weakest preconditions: slots as an association list, the heap as a list of owned blocks over a base world. -/
import Derived.RangeFuncRecord
import Derived.OrdersIn
import Derived.KernelRfl
import Derived.Below
import Derived.IntWalk
set_option linter.unusedSectionVars false
set_option linter.unusedVariables false
set_option linter.unusedSimpArgs false
namespace Go.SL
open Go
open Go.RowKit (Below)

abbrev Slots := List (Nat × Value)

def sget : Slots → Nat → Option Value
  | [], _ => none
  | (t, v) :: r, k => bif Nat.beq t k then some v else sget r k

theorem sget_cons_ne {t k : Nat} {v : Value} {r : Slots} (h : t ≠ k) : sget ((t, v) :: r) k = sget r k := by
  have : Nat.beq t k = false := by
    cases hb : Nat.beq t k with
    | false => rfl
    | true => exact absurd (Nat.eq_of_beq_eq_true hb) h
  simp [sget, this]

theorem sget_cons_eq {t : Nat} {v : Value} {r : Slots} : sget ((t, v) :: r) t = some v := by
  simp [sget]

def SlotsOk (sl : Slots) (a : Act) : Prop := ∀ t v, sget sl t = some v → a.tmps[t]? = some v

theorem SlotsOk.eval {sl : Slots} {a : Act} (h : SlotsOk sl a) {t : Nat} {v : Value} (hv : sget sl t = some v) : a.eval (.tmp t) = v := by
  have := h t v hv
  simp [Act.eval, Array.getD_eq_getD_getElem?, this]

theorem SlotsOk.put {sl : Slots} {a : Act} (h : SlotsOk sl a) {d : Nat} (hd : d < a.tmps.size) (v : Value) : SlotsOk ((d, v) :: sl) (a.put (some d) v) := by
  intro t u hu
  by_cases hdt : d = t
  · subst hdt
    rw [sget_cons_eq] at hu
    cases hu
    simp [Act.put, hd]
  · rw [sget_cons_ne hdt] at hu
    simp only [Act.put, Array.getElem?_setIfInBounds_ne hdt]
    exact h t u hu

theorem SlotsOk.sub {sl sl' : Slots} {a : Act} (h : SlotsOk sl a) (hs : ∀ t v, sget sl' t = some v → sget sl t = some v) : SlotsOk sl' a := fun t v hv => h t v (hs t v hv)

/-- The value of an operand, whatever the frame that has these slots. -/
def Is (sl : Slots) (x : Operand) (v : Value) : Prop := ∀ a : Act, SlotsOk sl a → a.eval x = v

theorem Is.tmp {sl : Slots} {t : Nat} {v : Value} (h : sget sl t = some v) : Is sl (.tmp t) v := fun _ ha => ha.eval h
theorem Is.const {sl : Slots} {v : Value} : Is sl (.const v) v := fun _ _ => rfl
theorem Is.func {sl : Slots} {f : FuncId} : Is sl (.func f) (.func (.func f) #[] #[]) := fun _ _ => rfl
theorem Is.global {sl : Slots} {g : Nat} : Is sl (.global g) (.pointer (some ⟨g, 0, none⟩)) := fun _ _ => rfl

theorem band_l {a b : Bool} (h : (a && b) = true) : a = true := by cases a <;> simp_all
theorem band_r {a b : Bool} (h : (a && b) = true) : b = true := by cases a <;> simp_all

/-- A value that is there only if a guard let the operation run. -/
def gv (c : Bool) (v : Value) : Value := bif c then v else undef
theorem gv_true {c : Bool} {v : Value} (h : c = true) : gv c v = v := by simp [gv, h]
theorem gv_false {c : Bool} {v : Value} (h : c = false) : gv c v = undef := by simp [gv, h]
theorem Is.gv {sl : Slots} {t : Nat} {c : Bool} {v : Value} (hc : c = true) (h : sget sl t = some (SL.gv c v)) : Is sl (.tmp t) v := fun _ ha => by rw [ha.eval h, gv_true hc]
theorem Is.conv {sl : Slots} {x : Operand} {v v' : Value} (h : Is sl x v) (e : v = v') : Is sl x v' := e ▸ h

/-! ### The heap -/
def hp (w : World) : Nat → Option Obj := fun b => w.heap[b]?

theorem hp_lt {w : World} {b : Nat} {o : Obj} (h : hp w b = some o) : b < w.heap.size := (Array.getElem?_eq_some_iff.1 h).1

structure Asn where
  sat : (Nat → Option Obj) → List Nat → Prop
  loc : ∀ {h h' : Nat → Option Obj} {fp : List Nat}, sat h fp → (∀ b ∈ fp, h' b = h b) → sat h' fp
  own : ∀ {h : Nat → Option Obj} {fp : List Nat}, sat h fp → ∀ b ∈ fp, ∃ o, h b = some o

def Sats (h : Nat → Option Obj) : List Asn → List Nat → Prop
  | [], fp => fp = []
  | A :: As, fp => ∃ f1 f2, fp = f1 ++ f2 ∧ A.sat h f1 ∧ Sats h As f2

theorem Sats.own {h : Nat → Option Obj} : ∀ {hs : List Asn} {fp : List Nat}, Sats h hs fp → ∀ b ∈ fp, ∃ o, h b = some o
  | [], _, hh, b, hb => by rw [show _ = [] from hh] at hb; cases hb
  | A :: As, _, ⟨f1, f2, e, h1, h2⟩, b, hb => by
    subst e
    rcases List.mem_append.1 hb with hb | hb
    · exact A.own h1 b hb
    · exact Sats.own h2 b hb

theorem Sats.loc {h h' : Nat → Option Obj} : ∀ {hs : List Asn} {fp : List Nat}, Sats h hs fp → (∀ b ∈ fp, h' b = h b) → Sats h' hs fp
  | [], _, hh, _ => hh
  | A :: As, _, ⟨f1, f2, e, h1, h2⟩, hb => by
    subst e
    exact ⟨f1, f2, rfl, A.loc h1 (fun b hb' => hb b (List.mem_append_left _ hb')), Sats.loc h2 (fun b hb' => hb b (List.mem_append_right _ hb'))⟩

theorem Sats.append_iff {h : Nat → Option Obj} : ∀ {l1 l2 : List Asn} {fp : List Nat}, Sats h (l1 ++ l2) fp ↔ ∃ f1 f2, fp = f1 ++ f2 ∧ Sats h l1 f1 ∧ Sats h l2 f2
  | [], l2, fp => ⟨fun hh => ⟨[], fp, rfl, rfl, hh⟩, fun ⟨f1, f2, e, h1, h2⟩ => by rw [show f1 = [] from h1] at e; simpa [e] using h2⟩
  | A :: l1, l2, fp => by
    constructor
    · rintro ⟨f1, f2, rfl, h1, h2⟩
      obtain ⟨g1, g2, rfl, h3, h4⟩ := Sats.append_iff.1 h2
      exact ⟨f1 ++ g1, g2, by simp, ⟨f1, g1, rfl, h1, h3⟩, h4⟩
    · rintro ⟨f1, f2, rfl, ⟨g1, g2, rfl, h1, h2⟩, h3⟩
      exact ⟨g1, g2 ++ f2, by simp, h1, Sats.append_iff.2 ⟨g2, f2, rfl, h2, h3⟩⟩

/-- 'A' is among 'hs'; what remains is 'hs''. -/
inductive Take : List Asn → Asn → List Asn → Prop
  | here {A : Asn} {r : List Asn} : Take (A :: r) A r
  | there {A X : Asn} {r r' : List Asn} (h : Take r A r') : Take (X :: r) A (X :: r')

theorem Take.append {hs hs' : List Asn} {A : Asn} (h : Take hs A hs') (m : List Asn) : Take (hs ++ m) A (hs' ++ m) := by
  induction h with
  | here => exact .here
  | there _ ih => exact .there ih

theorem Sats.take {h : Nat → Option Obj} {hs hs' : List Asn} {A : Asn} (ht : Take hs A hs') : ∀ {fp : List Nat}, Sats h hs fp → ∃ f1 f2, A.sat h f1 ∧ Sats h hs' f2 ∧ fp.Perm (f1 ++ f2) := by
  induction ht with
  | here =>
    rintro fp ⟨f1, f2, rfl, h1, h2⟩
    exact ⟨f1, f2, h1, h2, .refl _⟩
  | there _ ih =>
    rintro fp ⟨f1, f2, rfl, h1, h2⟩
    obtain ⟨g1, g2, h3, h4, hp⟩ := ih h2
    refine ⟨g1, f1 ++ g2, h3, ⟨f1, g2, rfl, h1, h4⟩, ?_⟩
    exact (hp.append_left f1).trans (by
      rw [← List.append_assoc, ← List.append_assoc]
      exact (List.perm_append_comm).append_right g2)

structure Keeps (md : List Nat) (w w' : World) : Prop where
  os : w'.os = w.os
  tape : w'.tape = w.tape
  output : w'.output = w.output
  size : w.heap.size ≤ w'.heap.size
  block : ∀ k, k < w.heap.size → k ∉ md → w'.heap[k]? = w.heap[k]?

theorem Keeps.refl (md : List Nat) (w : World) : Keeps md w w := ⟨rfl, rfl, rfl, Nat.le_refl _, fun _ _ _ => rfl⟩
theorem Keeps.trans {md : List Nat} {a b c : World} (h : Keeps md a b) (k : Keeps md b c) : Keeps md a c :=
  ⟨k.os.trans h.os, k.tape.trans h.tape, k.output.trans h.output, Nat.le_trans h.size k.size, fun i hi hm => (k.block i (Nat.lt_of_lt_of_le hi h.size) hm).trans (h.block i hi hm)⟩
theorem Keeps.mono {md md' : List Nat} {w w' : World} (h : Keeps md w w') (hs : ∀ b ∈ md, b ∈ md') : Keeps md' w w' :=
  ⟨h.os, h.tape, h.output, h.size, fun k hk hm => h.block k hk (fun hb => hm (hs k hb))⟩
theorem Keeps.below {w w' : World} (h : Keeps [] w w') : Below w.heap.size w w' := ⟨h.os, h.tape, h.output, h.size, fun k hk => h.block k hk (by simp)⟩
theorem Keeps.of_below {w w' : World} (h : Below w.heap.size w w') : Keeps [] w w' := ⟨h.os, h.tape, h.output, h.size, fun k hk _ => h.block k hk⟩
theorem Keeps.drew (md : List Nat) (w : World) : Keeps md w w.drew := ⟨rfl, rfl, rfl, Nat.le_refl _, fun _ _ _ => rfl⟩
theorem Keeps.alloc (md : List Nat) (w : World) (o : Obj) : Keeps md w (w.alloc o) :=
  ⟨rfl, rfl, rfl, by simp, fun k hk _ => by show (w.heap.push o)[k]? = _; rw [Array.getElem?_push, if_neg (by omega)]⟩

structure Cx where
  w0 : World
  md : List Nat
  nt : Nat

structure Mem (c : Cx) (hs : List Asn) (w : World) : Prop where
  keeps : Keeps c.md c.w0 w
  own : ∃ fp : List Nat, fp.Nodup ∧ Sats (hp w) hs fp ∧ ∀ b ∈ fp, c.w0.heap.size ≤ b ∨ b ∈ c.md

theorem Mem.take {c : Cx} {hs hs' : List Asn} {A : Asn} {w : World} (h : Mem c hs w) (ht : Take hs A hs') : Mem c (A :: hs') w := by
  obtain ⟨k, fp, hn, hs, hb⟩ := h
  obtain ⟨f1, f2, h1, h2, hp⟩ := hs.take ht
  exact ⟨k, f1 ++ f2, hp.nodup_iff.1 hn, ⟨f1, f2, rfl, h1, h2⟩, fun b hb' => hb b (hp.mem_iff.2 hb')⟩

/-- One change of the heap: what is under 'As' becomes what is under 'Bs'; nothing else turns. -/
theorem Mem.change {c : Cx} {As Bs hs : List Asn} {w w' : World} (h : Mem c (As ++ hs) w)
    (hch : ∀ fp, fp.Nodup → Sats (hp w) As fp → Keeps fp w w' ∧ ∃ fp' : List Nat, fp'.Nodup ∧ Sats (hp w') Bs fp' ∧ ∀ b ∈ fp', b ∈ fp ∨ w.heap.size ≤ b) : Mem c (Bs ++ hs) w' := by
  obtain ⟨k, fp, hn, hs, hb⟩ := h
  obtain ⟨f1, f2, rfl, h1, h2⟩ := Sats.append_iff.1 hs
  obtain ⟨n1, n2, n12⟩ := List.nodup_append.1 hn
  obtain ⟨hk, fp', hn', hs', hf'⟩ := hch f1 n1 h1
  have hlt : ∀ b ∈ f2, b < w.heap.size := fun b hb' => let ⟨o, ho⟩ := h2.own b hb'; hp_lt ho
  refine ⟨?_, fp' ++ f2, ?_, Sats.append_iff.2 ⟨fp', f2, rfl, hs', h2.loc fun b hb' => ?_⟩, ?_⟩
  · refine ⟨hk.os.trans k.os, hk.tape.trans k.tape, hk.output.trans k.output, Nat.le_trans k.size hk.size, fun b hb' hm => ?_⟩
    rw [← k.block b hb' hm]
    refine hk.block b (Nat.lt_of_lt_of_le hb' k.size) (fun hf => ?_)
    rcases hb b (List.mem_append_left _ hf) with h | h
    · omega
    · exact hm h
  · refine List.nodup_append.2 ⟨hn', n2, fun x hx y hy e => ?_⟩
    subst e
    rcases hf' x hx with h | h
    · exact n12 x h x hy rfl
    · have := hlt x hy; omega
  · exact hk.block b (hlt b hb') (fun hf => n12 b hf b hb' rfl)
  · intro b hb'
    rcases List.mem_append.1 hb' with h | h
    · rcases hf' b h with h | h
      · exact hb b (List.mem_append_left _ h)
      · exact .inl (Nat.le_trans k.size h)
    · exact hb b (List.mem_append_right _ h)

theorem Mem.keepsOn {c : Cx} {hs : List Asn} {w w' : World} (h : Mem c hs w) (hk : Keeps [] w w') : Mem c hs w' :=
  Mem.change (As := []) (Bs := []) h fun fp _ hf => by
    rw [show fp = [] from hf]
    exact ⟨hk, [], List.nodup_nil, rfl, by simp⟩

theorem Mem.drew {c : Cx} {hs : List Asn} {w : World} (h : Mem c hs w) : Mem c hs w.drew := h.keepsOn (.drew _ _)

theorem Mem.dropTail {c : Cx} {l m : List Asn} {w : World} (h : Mem c (l ++ m) w) : Mem c l w := by
  obtain ⟨k, fp, hn, hs, hb⟩ := h
  obtain ⟨f1, f2, rfl, h1, h2⟩ := Sats.append_iff.1 hs
  exact ⟨k, f1, (List.nodup_append.1 hn).1, h1, fun b hb' => hb b (List.mem_append_left _ hb')⟩

theorem Mem.dropHead {c : Cx} {A : Asn} {l : List Asn} {w : World} (h : Mem c (A :: l) w) : Mem c l w := by
  obtain ⟨k, fp, hn, ⟨f1, f2, rfl, h1, h2⟩, hb⟩ := h
  exact ⟨k, f2, (List.nodup_append.1 hn).2.1, h2, fun b hb' => hb b (List.mem_append_right _ hb')⟩

/-! ### Assertions -/
def blk (b : Nat) (o : Obj) : Asn where
  sat h fp := fp = [b] ∧ h b = some o
  loc := fun ⟨e, h1⟩ hb => ⟨e, by rw [hb _ (by rw [e]; simp)]; exact h1⟩
  own := fun ⟨e, h1⟩ b' hb' => by rw [e] at hb'; rw [List.mem_singleton.1 hb']; exact ⟨o, h1⟩

theorem Mem.blk {c : Cx} {hs hs' : List Asn} {b : Nat} {o : Obj} {w : World} (h : Mem c hs w) (ht : Take hs (blk b o) hs') : w.heap[b]? = some o := by
  obtain ⟨_, fp, _, ⟨f1, f2, _, ⟨_, h1⟩, _⟩, _⟩ := h.take ht
  exact h1

theorem Mem.alloc {c : Cx} {hs : List Asn} {w : World} (h : Mem c hs w) (o : Obj) : Mem c (SL.blk w.heap.size o :: hs) (w.alloc o) :=
  Mem.change (As := []) (Bs := [SL.blk w.heap.size o]) h fun fp _ hf => by
    rw [show fp = [] from hf]
    refine ⟨.alloc _ _ _, [w.heap.size], by simp, ⟨[w.heap.size], [], rfl, ⟨rfl, World.alloc_heap_new w o⟩, rfl⟩, by simp⟩

theorem Mem.store {c : Cx} {hs : List Asn} {b : Nat} {o o' : Obj} {w w' : World} (h : Mem c (SL.blk b o :: hs) w) (hk : Keeps [b] w w') (ho : w'.heap[b]? = some o') : Mem c (SL.blk b o' :: hs) w' :=
  Mem.change (As := [SL.blk b o]) (Bs := [SL.blk b o']) h fun fp _ hf => by
    obtain ⟨f1, f2, e, ⟨e1, _⟩, e2⟩ := hf
    have : fp = [b] := by rw [e, e1, show f2 = [] from e2]; rfl
    subst this
    exact ⟨hk, [b], by simp, ⟨[b], [], rfl, ⟨rfl, ho⟩, rfl⟩, fun x hx => .inl hx⟩

theorem Mem.base {c : Cx} {hs : List Asn} {w : World} (h : Mem c hs w) {b : Nat} (hb : b < c.w0.heap.size) (hm : b ∉ c.md) : w.heap[b]? = c.w0.heap[b]? := h.keeps.block b hb hm

/-! ### States and judgements -/
def mark (r : Nat) : Deferred := { target := .collected r, args := #[] }
def mks (D : List Nat) : List Asn := D.map fun r => blk r (.deferred (some []))

structure St (c : Cx) (D : List Nat) (sl : Slots) (hs : List Asn) (a : Act) (w : World) : Prop where
  mem : Mem c (hs ++ mks D) w
  slots : SlotsOk sl a
  size : a.tmps.size = c.nt
  defers : a.defers = D.map mark

def Tr (c : Cx) (D : List Nat) (sl : Slots) (hs : List Asn) (X : Act → World → Prop) : Prop := ∀ a w, St c D sl hs a w → X a w

theorem St.mem' {c : Cx} {D : List Nat} {sl : Slots} {hs : List Asn} {a : Act} {w : World} (h : St c D sl hs a w) : Mem c hs w := h.mem.dropTail
theorem St.put {c : Cx} {D : List Nat} {sl : Slots} {hs : List Asn} {a : Act} {w : World} (h : St c D sl hs a w) {d : Nat} (hd : d < c.nt) (v : Value) : St c D ((d, v) :: sl) hs (a.put (some d) v) w :=
  ⟨h.mem, h.slots.put (by rw [h.size]; exact hd) v, by simp [Act.put, h.size], h.defers⟩
theorem St.putNone {c : Cx} {D : List Nat} {sl : Slots} {hs : List Asn} {a : Act} {w : World} (h : St c D sl hs a w) (v : Value) : St c D sl hs (a.put none v) w := h
theorem St.sub {c : Cx} {D : List Nat} {sl sl' : Slots} {hs : List Asn} {a : Act} {w : World} (h : St c D sl hs a w) (hs' : ∀ t v, sget sl' t = some v → sget sl t = some v) : St c D sl' hs a w :=
  ⟨h.mem, h.slots.sub hs', h.size, h.defers⟩
theorem St.heap {c : Cx} {D : List Nat} {sl : Slots} {hs hs' : List Asn} {a : Act} {w w' : World} (h : St c D sl hs a w) (hm : Mem c (hs' ++ mks D) w') : St c D sl hs' a w' :=
  ⟨hm, h.slots, h.size, h.defers⟩

theorem Tr.mono {c : Cx} {D : List Nat} {sl : Slots} {hs : List Asn} {X Y : Act → World → Prop} (h : Tr c D sl hs X) (hxy : ∀ a w, X a w → Y a w) : Tr c D sl hs Y := fun a w hs => hxy a w (h a w hs)

def FR (r : Option Nat) : Fence := { Fence.wide with round := r }

def WP (P : Program) (r : Option Nat) (code : Code) (Q : Exit → Act → World → Prop) : Act → World → Prop := code.wpIn (FR r) 0 P Q

def WL (P : Program) (r : Option Nat) (ops : Array Oper) (Q : Exit → Act → World → Prop) : List Oper → Act → World → Prop
  | [], a, w => Q .normal a w
  | o :: rest, a, w =>
    if Region.wanted o (yielded ops a.tmps) then o.wpIn (FR r) 0 P a w (WL P r ops Q rest) Q else WL P r ops Q rest (a.put o.dst undef) w

theorem fr_about (r : Option Nat) (o : Oper) (P : Program) (w : World) (ρ : Operand → Value) : ∀ f, o.about P w ρ = some f → (FR r).fn f := fun _ _ => trivial

theorem wpOpsIn_eq_WL {P : Program} {r : Option Nat} {ops : Array Oper} {Q : Exit → Act → World → Prop} (l : List Oper) : ∀ k, (∀ j, l[j]? = ops[k + j]?) → wpOpsIn (FR r) 0 P ops Q (List.range' k l.length) = WL P r ops Q l := by
  induction l with
  | nil => intro k _; funext a w; simp [wpOpsIn, WL]
  | cons o l ih =>
    intro k h
    have h0 : ops[k]? = some o := by simpa using (h 0).symm
    have ih' := ih (k + 1) (fun j => by have := h (j + 1); simpa [Nat.add_assoc, Nat.add_comm 1 j] using this)
    funext a w
    simp only [List.length_cons, List.range'_succ, wpOpsIn, h0, WL, ih']
    split
    · rfl
    · simp [FR, Fence.wide]

theorem tr_region {P : Program} {r : Option Nat} {c : Cx} {D : List Nat} {sl : Slots} {hs : List Asn} {id : Nat} {l : List Oper} {Q : Exit → Act → World → Prop}
    (h : Tr c D sl hs (WL P r l.toArray Q l)) : Tr c D sl hs (WP P r (.region id l.toArray false) Q) := fun a w hst => by
  unfold WP
  refine wpIn_region ?_
  rw [List.range_eq_range', show l.toArray.size = l.length from by simp, wpOpsIn_eq_WL l 0 (by simp)]
  exact h a w hst

theorem tr_seq {P : Program} {r : Option Nat} {c : Cx} {D : List Nat} {sl : Slots} {hs : List Asn} {x y : Code} {Q : Exit → Act → World → Prop}
    (h : Tr c D sl hs (WP P r x (Exit.then (WP P r y Q) Q))) : Tr c D sl hs (WP P r (.seq x y) Q) := fun a w hst => wpIn_seq (h a w hst)
theorem tr_nil {P : Program} {r : Option Nat} {c : Cx} {D : List Nat} {sl : Slots} {hs : List Asn} {ops : Array Oper} {Q : Exit → Act → World → Prop}
    (h : Tr c D sl hs (Q .normal)) : Tr c D sl hs (WL P r ops Q []) := h
theorem tr_then {c : Cx} {D : List Nat} {sl : Slots} {hs : List Asn} {N : Act → World → Prop} {Q : Exit → Act → World → Prop}
    (h : Tr c D sl hs N) : Tr c D sl hs (Exit.then N Q .normal) := h
theorem tr_then_ret {c : Cx} {D : List Nat} {sl : Slots} {hs : List Asn} {N : Act → World → Prop} {Q : Exit → Act → World → Prop}
    (h : Tr c D sl hs (Q .ret)) : Tr c D sl hs (Exit.then N Q .ret) := h
theorem tr_then_exit {c : Cx} {D : List Nat} {sl : Slots} {hs : List Asn} {N : Act → World → Prop} {Q : Exit → Act → World → Prop} {id : Nat}
    (h : Tr c D sl hs (Q (.exit id))) : Tr c D sl hs (Exit.then N Q (.exit id)) := h
theorem tr_blk_normal {c : Cx} {D : List Nat} {sl : Slots} {hs : List Asn} {id : Nat} {Q : Exit → Act → World → Prop}
    (h : Tr c D sl hs (Q .normal)) : Tr c D sl hs (Exit.inBlock id Q .normal) := h
theorem tr_blk_ret {c : Cx} {D : List Nat} {sl : Slots} {hs : List Asn} {id : Nat} {Q : Exit → Act → World → Prop}
    (h : Tr c D sl hs (Q .ret)) : Tr c D sl hs (Exit.inBlock id Q .ret) := h
theorem tr_blk_exit {c : Cx} {D : List Nat} {sl : Slots} {hs : List Asn} {id : Nat} {Q : Exit → Act → World → Prop}
    (h : Tr c D sl hs (Q .normal)) : Tr c D sl hs (Exit.inBlock id Q (.exit id)) := fun a w hst => by
  simp only [Exit.inBlock, if_true]; exact h a w hst
theorem tr_blk_exit_ne {c : Cx} {D : List Nat} {sl : Slots} {hs : List Asn} {id id' : Nat} {Q : Exit → Act → World → Prop} (hne : Nat.beq id' id = false)
    (h : Tr c D sl hs (Q (.exit id'))) : Tr c D sl hs (Exit.inBlock id Q (.exit id')) := fun a w hst => by
  have : ¬ id' = id := fun e => by subst e; simp at hne
  simp only [Exit.inBlock, this, if_false]; exact h a w hst
theorem tr_block {P : Program} {r : Option Nat} {c : Cx} {D : List Nat} {sl : Slots} {hs : List Asn} {id : Nat} {x : Code} {Q : Exit → Act → World → Prop}
    (h : Tr c D sl hs (WP P r x (Exit.inBlock id Q))) : Tr c D sl hs (WP P r (.block id x) Q) := fun a w hst => wpIn_block (h a w hst)
theorem tr_skip {P : Program} {r : Option Nat} {c : Cx} {D : List Nat} {sl : Slots} {hs : List Asn} {Q : Exit → Act → World → Prop}
    (h : Tr c D sl hs (Q .normal)) : Tr c D sl hs (WP P r .skip Q) := fun a w hst => wpIn_skip (h a w hst)
theorem tr_exit {P : Program} {r : Option Nat} {c : Cx} {D : List Nat} {sl : Slots} {hs : List Asn} {id : Nat} {Q : Exit → Act → World → Prop}
    (h : Tr c D sl hs (Q (.exit id))) : Tr c D sl hs (WP P r (.exit id) Q) := fun a w hst => wpIn_exit (h a w hst)
theorem tr_ret {P : Program} {r : Option Nat} {c : Cx} {D : List Nat} {sl : Slots} {hs : List Asn} {Q : Exit → Act → World → Prop}
    (h : Tr c D sl hs (Q .ret)) : Tr c D sl hs (WP P r .ret Q) := fun a w hst => wpIn_ret (h a w hst)
theorem tr_cond {P : Program} {r : Option Nat} {c : Cx} {D : List Nat} {sl : Slots} {hs : List Asn} {x : Operand} {b : Bool} {u v : Code} {Q : Exit → Act → World → Prop} (hx : Is sl x (.bool b))
    (ht : b = true → Tr c D sl hs (WP P r u Q)) (hf : b = false → Tr c D sl hs (WP P r v Q)) : Tr c D sl hs (WP P r (.cond x u v) Q) := fun a w hst =>
  wpIn_cond_split (hx a hst.slots) (fun e => ht e a w hst) (fun e => hf e a w hst)
theorem tr_cond_t {P : Program} {r : Option Nat} {c : Cx} {D : List Nat} {sl : Slots} {hs : List Asn} {x : Operand} {u v : Code} {Q : Exit → Act → World → Prop} (hx : Is sl x (.bool true))
    (ht : Tr c D sl hs (WP P r u Q)) : Tr c D sl hs (WP P r (.cond x u v) Q) := fun a w hst => wpIn_cond_true (hx a hst.slots) (ht a w hst)
theorem tr_cond_f {P : Program} {r : Option Nat} {c : Cx} {D : List Nat} {sl : Slots} {hs : List Asn} {x : Operand} {u v : Code} {Q : Exit → Act → World → Prop} (hx : Is sl x (.bool false))
    (ht : Tr c D sl hs (WP P r v Q)) : Tr c D sl hs (WP P r (.cond x u v) Q) := fun a w hst => wpIn_cond_false (hx a hst.slots) (ht a w hst)
theorem tr_cond_d {P : Program} {r : Option Nat} {c : Cx} {D : List Nat} {sl : Slots} {hs : List Asn} {x : Operand} {p : Prop} {inst : Decidable p} {u v : Code} {Q : Exit → Act → World → Prop} (hx : Is sl x (.bool (decide p)))
    (ht : p → Tr c D sl hs (WP P r u Q)) (hf : ¬ p → Tr c D sl hs (WP P r v Q)) : Tr c D sl hs (WP P r (.cond x u v) Q) :=
  tr_cond hx (fun e => ht (of_decide_eq_true e)) (fun e => hf (of_decide_eq_false e))

/-- A loop: a family of states, one for each 'i' of which 'Φ' holds; a measure. -/
theorem tr_loop {P : Program} {r : Option Nat} {c : Cx} {D : List Nat} {sl : Slots} {hs : List Asn} {x : Code} {Q : Exit → Act → World → Prop} {ι : Type} (Φ : ι → Prop) (sI : ι → Slots) (hI : ι → List Asn) (μ : ι → Nat)
    (h0 : Tr c D sl hs fun a w => ∃ i, Φ i ∧ St c D (sI i) (hI i) a w)
    (round : ∀ i, Φ i → Tr c D (sI i) (hI i) (WP P r x (Exit.then (fun a w => ∃ j, Φ j ∧ μ j < μ i ∧ St c D (sI j) (hI j) a w) Q))) :
    Tr c D sl hs (WP P r (.loop x) Q) := fun a w hst => by
  have key : ∀ (n : Nat) i, μ i = n → Φ i → ∀ a w, St c D (sI i) (hI i) a w → True := fun _ _ _ _ _ _ _ => trivial
  -- a measure on states: the least 'μ i' of those that fit
  let fits : Act → World → Nat → Prop := fun a w n => ∃ i, Φ i ∧ μ i = n ∧ St c D (sI i) (hI i) a w
  have least : ∀ a w, (∃ n, fits a w n) → ∃ n, fits a w n ∧ ∀ m, fits a w m → n ≤ m := by
    intro a w ⟨n, hn⟩
    induction n using Nat.strongRecOn with
    | _ n ih =>
      by_cases h : ∃ m, m < n ∧ fits a w m
      · obtain ⟨m, hm, hf⟩ := h
        exact ih m hm hf
      · exact ⟨n, hn, fun m hm => Nat.le_of_not_lt fun hlt => h ⟨m, hlt, hm⟩⟩
  let M : Act → World → Nat := fun a w => Classical.epsilon fun n => fits a w n ∧ ∀ m, fits a w m → n ≤ m
  have hM : ∀ a w, (∃ n, fits a w n) → fits a w (M a w) ∧ ∀ m, fits a w m → M a w ≤ m := fun a w h => Classical.epsilon_spec (least a w h)
  refine wpIn_loop (fun a w => ∃ n, fits a w n) M ?_ ?_
  · obtain ⟨i, hi, hs⟩ := h0 a w hst
    exact ⟨μ i, i, hi, rfl, hs⟩
  · intro a w hI
    obtain ⟨⟨i, hi, hm, hs⟩, _⟩ := hM a w hI
    refine wpIn_mono (round i hi a w hs) fun e a' w' h => ?_
    cases e with
    | normal =>
      obtain ⟨j, hj, hlt, hs'⟩ := h
      have hf : fits a' w' (μ j) := ⟨j, hj, rfl, hs'⟩
      exact ⟨⟨_, hf⟩, Nat.lt_of_le_of_lt ((hM a' w' ⟨_, hf⟩).2 _ hf) (by rw [← hm]; exact hlt)⟩
    | _ => exact h

/-! ### Single operations -/
theorem wl_op {P : Program} {r : Option Nat} {ops : Array Oper} {Q : Exit → Act → World → Prop} {o : Oper} {rest : List Oper} {a : Act} {w : World} (hg : o.guard = none)
    (h : o.wpIn (FR r) 0 P a w (WL P r ops Q rest) Q) : WL P r ops Q (o :: rest) a w := by
  unfold WL
  rw [if_pos (by simp [Region.wanted, hg])]
  exact h

/-- The operation yields 'V' and leaves the world alone. -/
def RunV (P : Program) (c : Cx) (sl : Slots) (hs : List Asn) (o : Oper) (V : Value) : Prop :=
  (∀ d, o.op ≠ .defer d) ∧ ∀ a w, SlotsOk sl a → Mem c hs w → (execOp a.eval o).run P w = .ok (.value V) w

theorem tr_val {P : Program} {r : Option Nat} {c : Cx} {D : List Nat} {sl : Slots} {hs : List Asn} {ops : Array Oper} {Q : Exit → Act → World → Prop} {d : Nat} {op : Op} {ty : TypeId} {pos : String} {af : Array Edge} {rest : List Oper} {V : Value}
    (hr : RunV P c sl hs ⟨some d, op, ty, pos, af, none⟩ V) (hd : Nat.blt d c.nt = true) (k : Tr c D ((d, V) :: sl) hs (WL P r ops Q rest)) :
    Tr c D sl hs (WL P r ops Q (⟨some d, op, ty, pos, af, none⟩ :: rest)) := fun a w hst => by
  refine wl_op rfl ⟨fr_about _ _ _ _ _, ?_⟩
  rw [Oper.semAt_eq _ _ _ hr.1, hr.2 a w hst.slots hst.mem']
  exact k _ _ (hst.put (by simpa [Nat.blt_eq] using hd) V)

/-- A guarded operation: the guard's slot holds a bool (if anything). -/
theorem wanted_gv {ops : Array Oper} {o : Oper} {j g : Nat} {want c0 q : Bool} {a : Act} {sl : Slots} (hg : o.guard = some (j, want)) (hj : ((ops[j]?).bind (·.dst)) = some g) (hs : SlotsOk sl a) (hq : sget sl g = some (gv c0 (.bool q))) :
    Region.wanted o (yielded ops a.tmps) = (c0 && (q == want)) := by
  have ht := hs _ _ hq
  simp only [Region.wanted, hg, yielded, hj, Option.bind_some, ht]
  cases c0 <;> cases q <;> cases want <;> rfl

theorem tr_valG {P : Program} {r : Option Nat} {c : Cx} {D : List Nat} {sl : Slots} {hs : List Asn} {ops : Array Oper} {Q : Exit → Act → World → Prop} {d : Nat} {op : Op} {ty : TypeId} {pos : String} {af : Array Edge} {rest : List Oper} {V : Value}
    {j g : Nat} {want c0 q : Bool} (hj : ((ops[j]?).bind (·.dst)) = some g) (hq : sget sl g = some (gv c0 (.bool q)))
    (hr : (c0 && (q == want)) = true → RunV P c sl hs ⟨some d, op, ty, pos, af, some (j, want)⟩ V) (hd : Nat.blt d c.nt = true) (k : Tr c D ((d, gv (c0 && (q == want)) V) :: sl) hs (WL P r ops Q rest)) :
    Tr c D sl hs (WL P r ops Q (⟨some d, op, ty, pos, af, some (j, want)⟩ :: rest)) := fun a w hst => by
  unfold WL
  rw [wanted_gv rfl hj hst.slots hq]
  by_cases h : (c0 && (q == want)) = true
  · rw [if_pos h]
    refine ⟨fr_about _ _ _ _ _, ?_⟩
    rw [Oper.semAt_eq _ _ _ (hr h).1, (hr h).2 a w hst.slots hst.mem']
    rw [gv_true h] at k
    exact k _ _ (hst.put (by simpa [Nat.blt_eq] using hd) V)
  · rw [if_neg h]
    rw [gv_false (by simpa using h)] at k
    exact k _ _ (hst.put (by simpa [Nat.blt_eq] using hd) undef)

theorem tr_valG1 {P : Program} {r : Option Nat} {c : Cx} {D : List Nat} {sl : Slots} {hs : List Asn} {ops : Array Oper} {Q : Exit → Act → World → Prop} {d : Nat} {op : Op} {ty : TypeId} {pos : String} {af : Array Edge} {rest : List Oper} {V : Value}
    {j g : Nat} {want q : Bool} (hj : ((ops[j]?).bind (·.dst)) = some g) (hq : sget sl g = some (.bool q))
    (hr : (q == want) = true → RunV P c sl hs ⟨some d, op, ty, pos, af, some (j, want)⟩ V) (hd : Nat.blt d c.nt = true) (k : Tr c D ((d, gv (q == want) V) :: sl) hs (WL P r ops Q rest)) :
    Tr c D sl hs (WL P r ops Q (⟨some d, op, ty, pos, af, some (j, want)⟩ :: rest)) :=
  tr_valG (c0 := true) hj (by rw [hq]; rfl) (by simpa using hr) hd (by simpa using k)

end Go.SL
