/- Loops, ranges over strings, maps. -/
import Derived.Test.YtahcjhdepdhipaaGkRow
import Derived.Laws.RangeAny
set_option linter.unusedSectionVars false
set_option linter.unusedVariables false
set_option linter.unusedSimpArgs false
namespace Go.SL
open Go

/-! ### loops -/
def LoopPost {ι : Type} (c : Cx) (D : List Nat) (Φ : ι → Prop) (sI : ι → Slots) (hI : ι → List Asn) (μ : ι → Nat) (i : ι) : Act → World → Prop := fun a w => ∃ j, Φ j ∧ μ j < μ i ∧ St c D (sI j) (hI j) a w
def LoopStart {ι : Type} (c : Cx) (D : List Nat) (Φ : ι → Prop) (sI : ι → Slots) (hI : ι → List Asn) : Act → World → Prop := fun a w => ∃ i, Φ i ∧ St c D (sI i) (hI i) a w

section
variable {P : Program} {r : Option Nat} {c : Cx} {D : List Nat} {sl : Slots} {hs hs' : List Asn} {Q : Exit → Act → World → Prop} {ι : Type} {Φ : ι → Prop} {sI : ι → Slots} {hI : ι → List Asn} {μ : ι → Nat}

theorem tr_for {x : Code} (Φ : ι → Prop) (sI : ι → Slots) (hI : ι → List Asn) (μ : ι → Nat) (h0 : Tr c D sl hs (LoopStart c D Φ sI hI))
    (round : ∀ i, Φ i → Tr c D (sI i) (hI i) (WP P r x (Exit.then (LoopPost c D Φ sI hI μ i) Q))) : Tr c D sl hs (WP P r (.loop x) Q) :=
  tr_loop Φ sI hI μ h0 round

def Subs (sl : Slots) : Slots → Prop
  | [] => True
  | (t, v) :: r => sget sl t = some v ∧ Subs sl r
theorem Subs.get : ∀ {sl' : Slots}, Subs sl sl' → ∀ t v, sget sl' t = some v → sget sl t = some v
  | [], _, t, v, h => by cases h
  | (u, x) :: r, ⟨h1, h2⟩, t, v, h => by
    by_cases e : u = t
    · subst e; rw [sget_cons_eq] at h; cases h; exact h1
    · rw [sget_cons_ne e] at h; exact Subs.get h2 t v h
theorem Subs.nil : Subs sl [] := trivial
theorem Subs.cons {t : Nat} {v : Value} {r : Slots} (h : sget sl t = some v) (k : Subs sl r) : Subs sl ((t, v) :: r) := ⟨h, k⟩
/-- a slot whose value is the wanted one, but for its spelling -/
theorem Subs.consE {t : Nat} {v u : Value} {r : Slots} (h : sget sl t = some u) (e : u = v) (k : Subs sl r) : Subs sl ((t, v) :: r) := ⟨e ▸ h, k⟩

theorem St.weaken {sl' : Slots} {hs1 rest : List Asn} {a : Act} {w : World} (h : St c D sl hs a w) (hs' : Subs sl sl') (ht : Takes hs hs1 rest) : St c D sl' hs1 a w := by
  refine ⟨?_, h.slots.sub hs'.get, h.size, h.defers⟩
  have h1 := h.mem.takes (ht.append (mks D))
  -- hs1 ++ (rest ++ mks) : forget the rest
  obtain ⟨k, fp, hn, hsat, hb⟩ := h1
  obtain ⟨f1, f2, rfl, s1, s2⟩ := Sats.append_iff.1 hsat
  obtain ⟨g1, g2, rfl, s3, s4⟩ := Sats.append_iff.1 s2
  refine ⟨k, f1 ++ g2, ?_, Sats.append_iff.2 ⟨f1, g2, rfl, s1, s4⟩, fun b hb' => hb b ?_⟩
  · obtain ⟨n1, n2, n3⟩ := List.nodup_append.1 hn
    obtain ⟨_, n5, _⟩ := List.nodup_append.1 n2
    exact List.nodup_append.2 ⟨n1, n5, fun x hx y hy => n3 x hx y (List.mem_append_right _ hy)⟩
  · rcases List.mem_append.1 hb' with h | h
    · exact List.mem_append_left _ h
    · exact List.mem_append_right _ (List.mem_append_right _ h)

theorem tr_next {i : ι} (j : ι) {rest : List Asn} (hΦ : Φ j) (hμ : μ j < μ i) (hs1 : Subs sl (sI j)) (ht : Takes hs (hI j) rest) : Tr c D sl hs (LoopPost c D Φ sI hI μ i) :=
  fun a w hst => ⟨j, hΦ, hμ, hst.weaken hs1 ht⟩
theorem tr_start (j : ι) {rest : List Asn} (hΦ : Φ j) (hs1 : Subs sl (sI j)) (ht : Takes hs (hI j) rest) : Tr c D sl hs (LoopStart c D Φ sI hI) :=
  fun a w hst => ⟨j, hΦ, hst.weaken hs1 ht⟩

/-- forget slots and memory -/
theorem tr_weak {X : Act → World → Prop} (sl' : Slots) (hs1 : List Asn) {rest : List Asn} (h1 : Subs sl sl') (ht : Takes hs hs1 rest) (k : Tr c D sl' hs1 X) : Tr c D sl hs X := fun a w hst => k a w (hst.weaken h1 ht)

/-- ways that meet again: a state (out of a family) that both reach -/
def Meets (c : Cx) (D : List Nat) {ι : Type} (Φ : ι → Prop) (sM : ι → Slots) (hM : ι → List Asn) : Act → World → Prop := fun a w => ∃ x, Φ x ∧ St c D (sM x) (hM x) a w
theorem tr_cut {x y : Code} (Φ : ι → Prop) (sM : ι → Slots) (hM : ι → List Asn) (h1 : Tr c D sl hs (WP P r x (Exit.then (Meets c D Φ sM hM) Q))) (h2 : ∀ x, Φ x → Tr c D (sM x) (hM x) (WP P r y Q)) : Tr c D sl hs (WP P r (.seq x y) Q) :=
  tr_seq fun a w hst => wpIn_mono (h1 a w hst) fun e a' w' h => by
    cases e with
    | normal => obtain ⟨x, hx, hs⟩ := h; exact h2 x hx a' w' hs
    | _ => exact h
theorem tr_meet (x : ι) {sM : ι → Slots} {hM : ι → List Asn} {rest : List Asn} (hΦ : Φ x) (h1 : Subs sl (sM x)) (ht : Takes hs (hM x) rest) : Tr c D sl hs (Meets c D Φ sM hM) := fun a w hst => ⟨x, hΦ, hst.weaken h1 ht⟩

/-! ### ranges over strings -/
variable {ops : Array Oper} {d : Nat} {dst : Option Tmp} {ty : TypeId} {pos : String} {af : Array Edge} {g : Option (Nat × Bool)} {rest : List Oper}

theorem rk_rangeS {t : TypeId} {x : Operand} {s : ByteArray} [hu : Und P t .string] (hx : Is sl x (.string s)) : RunN P c sl hs ⟨dst, .range t x, ty, pos, af, g⟩ (fun b => .pointer (some ⟨b, 0, none⟩)) (.stringIter s 0) :=
  ⟨by simp, fun a w ha _ => by simp [execOp, hx a ha, Instr.range, rk_underlying hu.eq]⟩

theorem tr_nextS {x : Operand} {b p : Nat} {s : ByteArray} (hx : Is sl x (.pointer (some ⟨b, 0, none⟩))) (ht : Take hs (blk b (.stringIter s p)) hs') (hd : Nat.blt d c.nt = true)
    (kt : p < s.size → Tr c D ((d, .tuple [Value.bool true, .int .i64 p, .int .i32 (Utf8.decode s p).1].toArray) :: sl) (blk b (.stringIter s (p + (Utf8.decode s p).2)) :: hs') (WL P r ops Q rest))
    (kf : ¬ p < s.size → Tr c D ((d, .tuple [Value.bool false].toArray) :: sl) (blk b (.stringIter s p) :: hs') (WL P r ops Q rest)) :
    Tr c D sl hs (WL P r ops Q (⟨some d, .next x true, ty, pos, af, none⟩ :: rest)) := fun a w hst => by
  have hm := hst.mem.take (ht.append _)
  have hb : w.heap[b]? = some (.stringIter s p) := hm.blk .here
  have hlt := hp_lt (w := w) hb
  refine wl_op rfl ⟨fr_about _ _ _ _ _, ?_⟩
  rw [Oper.semAt_eq _ _ _ (by simp)]
  by_cases h : p < s.size
  · have : (execOp a.eval ⟨some d, .next x true, ty, pos, af, none⟩).run P w = .ok (.value (.tuple [Value.bool true, .int .i64 p, .int .i32 (Utf8.decode s p).1].toArray)) (setBlock w b (.stringIter s (p + (Utf8.decode s p).2))) := by
      simp [execOp, hx a hst.slots, Instr.next, getObj, setObj, Sem.run, hb, h, goInt, setBlock]
    rw [this]
    exact kt h _ _ ((hst.put (by simpa [Nat.blt_eq] using hd) _).heap (Mem.store hm (Keeps.setBlock w b _) (setBlock_same hlt)))
  · have : (execOp a.eval ⟨some d, .next x true, ty, pos, af, none⟩).run P w = .ok (.value (.tuple [Value.bool false].toArray)) w := by
      simp [execOp, hx a hst.slots, Instr.next, getObj, Sem.run, hb, h]
    rw [this]
    exact kf h _ _ ((hst.put (by simpa [Nat.blt_eq] using hd) _).heap hm)

/-! ### maps -/
structure KeyLaw (kind : TypeDesc) {κ : Type} [DecidableEq κ] (kv : κ → Value) : Prop where
  same : ∀ a b, Instr.sameNow kind (kv a) (kv b) = some (decide (a = b))
  bits : ∀ a, Instr.sameBits 10000 (kv a) (kv a) = true
  flat : ∀ (P : Program) (t : TypeId) (e : Bool) (w : World) (a : κ), P.underlying t = some kind → (Instr.checkKey e 10000 t (kv a)).run P w = .ok () w

def mpOk {κ : Type} (kv : κ → Value) (l : List (κ × Value)) (es : Array MapEntry) : Prop := es.toList.map (fun e => (e.key, e.val)) = l.map (fun p => (kv p.1, p.2))

def mp {κ : Type} (kv : κ → Value) (b : Nat) (l : List (κ × Value)) : Asn where
  sat h fp := fp = [b] ∧ ∃ es clock, h b = some (.map es clock) ∧ mpOk kv l es
  loc := fun ⟨e, es, ck, h1, h2⟩ hb => ⟨e, es, ck, by rw [hb _ (by rw [e]; simp)]; exact h1, h2⟩
  own := fun ⟨e, es, ck, h1, h2⟩ b' hb' => by rw [e] at hb'; rw [List.mem_singleton.1 hb']; exact ⟨_, h1⟩

def alook {κ : Type} [DecidableEq κ] (k : κ) : List (κ × Value) → Option Value
  | [] => none
  | (x, v) :: r => if k = x then some v else alook k r
def aset {κ : Type} [DecidableEq κ] (k : κ) (v : Value) : List (κ × Value) → List (κ × Value)
  | [] => [(k, v)]
  | (x, u) :: r => if k = x then (x, v) :: r else (x, u) :: aset k v r

section
variable {κ : Type} [DecidableEq κ] {kv : κ → Value} {kind : TypeDesc}

theorem findNow_spec (hk : KeyLaw kind kv) (k : κ) : ∀ (es : List MapEntry) (l : List (κ × Value)) (i : Nat), es.map (fun e => (e.key, e.val)) = l.map (fun p => (kv p.1, p.2)) →
    (alook k l = none ∧ Instr.findNow kind (kv k) es i = some none) ∨
    (∃ j v, alook k l = some v ∧ Instr.findNow kind (kv k) es i = some (some (i + j, v)) ∧ j < es.length ∧ (∃ x, l[j]? = some (x, v) ∧ x = k) ∧ ∀ u, aset k u l = l.set j (k, u))
  | [], [], i, _ => .inl ⟨rfl, rfl⟩
  | [], _ :: _, i, h => by simp at h
  | _ :: _, [], i, h => by simp at h
  | e :: es, (x, v) :: l, i, h => by
    simp only [List.map_cons, List.cons.injEq, Prod.mk.injEq] at h
    obtain ⟨⟨h1, h2⟩, h3⟩ := h
    have hs := hk.same k x
    unfold Instr.findNow
    rw [h1, hs]
    by_cases e' : k = x
    · subst e'
      refine .inr ⟨0, v, by simp [alook], by simp [h2], by simp, ⟨k, by simp, rfl⟩, fun u => by simp [aset]⟩
    · simp only [e', decide_false]
      rcases findNow_spec hk k es l (i + 1) h3 with ⟨a1, a2⟩ | ⟨j, u, a1, a2, a3, ⟨y, a4, a5⟩, a6⟩
      · exact .inl ⟨by simp [alook, e', a1], a2⟩
      · exact .inr ⟨j + 1, u, by simp [alook, e', a1], by rw [a2]; congr 3; omega, by simp; omega, ⟨y, by simpa using a4, a5⟩, fun u' => by simp [aset, e', a6 u']⟩

theorem aset_none {k : κ} {v : Value} : ∀ {l : List (κ × Value)}, alook k l = none → aset k v l = l ++ [(k, v)]
  | [], _ => rfl
  | (x, u) :: r, h => by
    simp only [alook] at h
    split at h
    · cases h
    · rename_i e; simp [aset, e, aset_none h]

/-- a new map -/
theorem tr_makeMap {t : TypeId} (kv : κ → Value) (hd : Nat.blt d c.nt = true) (k : ∀ b, c.w0.heap.size ≤ b → Tr c D ((d, .map (some b)) :: sl) (mp kv b [] :: hs) (WL P r ops Q rest)) :
    Tr c D sl hs (WL P r ops Q (⟨some d, .makeMap t none, ty, pos, af, none⟩ :: rest)) :=
  tr_new rk_makeMap hd fun b hb a w hst => k b hb a w (hst.heap (by
    obtain ⟨kk, fp, hn, ⟨f1, f2, rfl, ⟨e, h1⟩, h2⟩, hfb⟩ := hst.mem
    exact ⟨kk, f1 ++ f2, hn, ⟨f1, f2, rfl, ⟨e, #[], 0, h1, rfl⟩, h2⟩, hfb⟩))

/-- what a map says of a key, in every state of these -/
def Looks (c : Cx) (hs : List Asn) (b : Nat) (kv : κ → Value) (l : List (κ × Value)) : Prop := ∀ w, Mem c hs w → ∃ es clock, w.heap[b]? = some (.map es clock) ∧ mpOk kv l es
theorem Looks.mp {b : Nat} {l : List (κ × Value)} (ht : Take hs (SL.mp kv b l) hs') : Looks c hs b kv l := fun w hm => by
  obtain ⟨_, fp, _, ⟨f1, f2, _, ⟨_, es, ck, h1, h2⟩, _⟩, _⟩ := hm.take ht
  exact ⟨es, ck, h1, h2⟩

theorem rk_lookup {t kt et : TypeId} {x y : Operand} {b : Nat} {k : κ} {l : List (κ × Value)} {z : Value} [hu : Und P t (.map kt et)] [hkt : Und P kt kind] [hz : Zer P et z] (hk : KeyLaw kind kv) (hx : Is sl x (.map (some b))) (hy : Is sl y (kv k)) (hl : Looks c hs b kv l) :
    RunV P c sl hs ⟨dst, .lookup t x y false, ty, pos, af, g⟩ ((alook k l).getD z) :=
  ⟨by simp, fun a w ha hm => by
    obtain ⟨es, ck, h1, h2⟩ := hl w hm
    have hg : (getObj b).run P w = .ok (.map es ck) w := by simp [getObj, Sem.run, h1]
    have hfk := hk.flat P kt es.isEmpty w k hkt.eq
    rcases findNow_spec hk k es.toList l 0 h2 with ⟨a1, a2⟩ | ⟨j, v, a1, a2, _⟩
    · have : (Instr.findKey kt (kv k) es.toList).run P w = .ok none w := by
        simp [Instr.findKey, rk_underlying hkt.eq, a2]
      simp [execOp, hx a ha, hy a ha, Instr.lookup, rk_underlying hu.eq, hg, hfk, this, a1, rk_zeroValue (t := et) (v := z)]
    · have : (Instr.findKey kt (kv k) es.toList).run P w = .ok (some (0 + j, v)) w := by
        simp [Instr.findKey, rk_underlying hkt.eq, a2]
      simp [execOp, hx a ha, hy a ha, Instr.lookup, rk_underlying hu.eq, hg, hfk, this, a1]⟩

theorem tr_mapUpdate {t kt et : TypeId} {x y v' : Operand} {b : Nat} {k : κ} {v : Value} {l : List (κ × Value)} [hu : Und P t (.map kt et)] [hkt : Und P kt kind] (hk : KeyLaw kind kv) (hx : Is sl x (.map (some b))) (hy : Is sl y (kv k)) (hv : Is sl v' v) (ht : Take hs (mp kv b l) hs')
    (kk : Tr c D sl (mp kv b (aset k v l) :: hs') (WL P r ops Q rest)) : Tr c D sl hs (WL P r ops Q (⟨none, .mapUpdate t x y v', ty, pos, af, none⟩ :: rest)) := fun a w hst => by
  have hm := hst.mem.take (ht.append _)
  obtain ⟨kk0, fp, hn, ⟨f1, f2, rfl, ⟨e, es, ck, h1, h2⟩, h3⟩, hfb⟩ := hm
  have h1' : w.heap[b]? = some (.map es ck) := h1
  have hm : Mem c ([mp kv b l] ++ (hs' ++ mks D)) w := ⟨kk0, f1 ++ f2, hn, ⟨f1, f2, rfl, ⟨e, es, ck, h1, h2⟩, h3⟩, hfb⟩
  have hg : (getObj b).run P w = .ok (.map es ck) w := by simp [getObj, Sem.run, h1']
  have hso : ∀ o, (setObj b o).run P w = .ok () (setBlock w b o) := fun o => by simp [setObj, Sem.run, h1', setBlock]
  have hfk := hk.flat P kt false w k hkt.eq
  have hlt := hp_lt (w := w) h1'
  have hrun : ∃ es' ck', (execOp a.eval ⟨none, .mapUpdate t x y v', ty, pos, af, none⟩).run P w = .ok .skip (setBlock w b (.map es' ck')) ∧ mpOk kv (aset k v l) es' := by
    rcases findNow_spec hk k es.toList l 0 h2 with ⟨a1, a2⟩ | ⟨j, v0, a1, a2, hj, ⟨x0, hx0, rfl⟩, hset⟩
    · have hf : (Instr.findKey kt (kv k) es.toList).run P w = .ok none w := by
        simp [Instr.findKey, rk_underlying hkt.eq, a2]
      refine ⟨es.push { key := kv k, val := v, born := ck }, ck + 1, ?_, ?_⟩
      · simp [execOp, hx a hst.slots, hy a hst.slots, hv a hst.slots, Instr.mapUpdate, rk_underlying hu.eq, hg, hfk, hf, hso]
      · unfold mpOk at h2 ⊢
        rw [aset_none a1]
        simp [h2]
    · have hf : (Instr.findKey kt (kv x0) es.toList).run P w = .ok (some (0 + j, v0)) w := by
        simp [Instr.findKey, rk_underlying hkt.eq, a2]
      have hkey : (es[j]?.map (·.key)).getD (kv x0) = kv x0 := by
        have h5 : (es.toList.map (fun e => (e.key, e.val)))[j]? = some (kv x0, v0) := by rw [h2]; simp [hx0]
        rw [List.getElem?_map] at h5
        obtain ⟨e0, he0, he1⟩ := Option.map_eq_some_iff.1 h5
        simp only [Prod.mk.injEq] at he1
        have : es[j]? = some e0 := by simpa using he0
        simp [this, he1.1]
      have hks : (Instr.keyThatStays (kv x0) (kv x0)).run P w = .ok (kv x0) w := by simp [Instr.keyThatStays, hk.bits]
      refine ⟨es.modify j fun e => { e with key := kv x0, val := v }, ck, ?_, ?_⟩
      · simp only [execOp, hx a hst.slots, hy a hst.slots, hv a hst.slots, Instr.mapUpdate, Sem.run_bind, rk_underlying hu.eq, Result.andThen_ok, hg, hfk, hf, Nat.zero_add, hkey, hks, hso, Sem.run_pure]
      · unfold mpOk at h2 ⊢
        rw [hset]
        rw [Array.toList_modify]
        apply List.ext_getElem?
        intro q
        rw [List.getElem?_map, List.getElem?_map, List.getElem?_modify, List.getElem?_set]
        have hq : (es.toList.map (fun e => (e.key, e.val)))[q]? = (l.map (fun p => (kv p.1, p.2)))[q]? := by rw [h2]
        rw [List.getElem?_map, List.getElem?_map] at hq
        have hlen : es.toList.length = l.length := by have := congrArg List.length h2; simpa using this
        by_cases hqj : j = q
        · subst hqj
          have hjl : j < l.length := by rw [← hlen]; exact hj
          have he : es.toList[j]? = some es.toList[j] := List.getElem?_eq_getElem hj
          rw [he, if_pos rfl, if_pos hjl]; simp
        · rw [if_neg hqj, ← hq]; simp [hqj]
  obtain ⟨es', ck', hr, hok⟩ := hrun
  refine wl_op rfl ⟨fr_about _ _ _ _ _, ?_⟩
  rw [Oper.semAt_eq _ _ _ (by simp), hr]
  refine kk _ _ (hst.heap ?_)
  have := Mem.change (Bs := [mp kv b (aset k v l)]) (w' := setBlock w b (.map es' ck')) hm fun fp hn' hf => by
    obtain ⟨g1, g2, e1, hr', e2⟩ := hf
    have hfp : fp = [b] := by rw [e1, show g2 = [] from e2, hr'.1]; rfl
    subst hfp
    exact ⟨Keeps.setBlock w b _, [b], by simp, ⟨[b], [], rfl, ⟨rfl, es', ck', setBlock_same hlt, hok⟩, rfl⟩, fun q hq => .inl hq⟩
  simpa using this
end

theorem keyS : KeyLaw .string (fun s : ByteArray => Value.string s) where
  same a b := by
    simp only [Instr.sameNow]
    congr 1
    rw [beq_toListBytes, str_beq]
  bits a := by unfold Instr.sameBits; simp [beq_toListBytes]
  flat P t e w a h := by unfold Instr.checkKey; simp [rk_underlying h]
theorem keyI : KeyLaw (.int .i64) (fun n : Int => Value.int .i64 n) where
  same a b := by simp [Instr.sameNow]; rfl
  bits a := by unfold Instr.sameBits; simp
  flat P t e w a h := by unfold Instr.checkKey; simp [rk_underlying h]
end
end Go.SL
