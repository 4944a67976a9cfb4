/- Ranges over functions: the loop's record, the rounds, the iterator's call. -/
import Derived.Test.YtahcjhdepdhipaaGkLoop
set_option linter.unusedSectionVars false
set_option linter.unusedVariables false
set_option linter.unusedSimpArgs false
namespace Go.SL
open Go

/-- one of a family -/
def exA {ι : Type} (Φ : ι → Prop) (A : ι → List Asn) : Asn where
  sat h fp := ∃ x, Φ x ∧ Sats h (A x) fp
  loc := fun ⟨x, hx, hs⟩ hb => ⟨x, hx, hs.loc hb⟩
  own := fun ⟨_, _, hs⟩ b hb => hs.own b hb

section
variable {P : Program} {r : Option Nat} {c : Cx} {D : List Nat} {sl : Slots} {hs hs' : List Asn} {Q : Exit → Act → World → Prop} {ι : Type}

theorem tr_openEx {Φ : ι → Prop} {A : ι → List Asn} {X : Act → World → Prop} (ht : Take hs (exA Φ A) hs') (k : ∀ x, Φ x → Tr c D sl (A x ++ hs') X) : Tr c D sl hs X := fun a w hst => by
  obtain ⟨kk, fp, hn, ⟨f1, f2, rfl, ⟨x, hx, hsx⟩, h2⟩, hb⟩ := hst.mem.take (ht.append _)
  exact k x hx a w (hst.heap ⟨kk, f1 ++ f2, hn, by rw [List.append_assoc]; exact Sats.append_iff.2 ⟨f1, f2, rfl, hsx, h2⟩, hb⟩)
theorem tr_shutEx {Φ : ι → Prop} {A : ι → List Asn} {X : Act → World → Prop} (x : ι) (hx : Φ x) (ht : Takes hs (A x) hs') (k : Tr c D sl (exA Φ A :: hs') X) : Tr c D sl hs X := fun a w hst => by
  obtain ⟨kk, fp, hn, hsat, hb⟩ := hst.mem.takes (ht.append (mks D))
  obtain ⟨f1, f2, rfl, h1, h2⟩ := Sats.append_iff.1 hsat
  exact k a w (hst.heap ⟨kk, f1 ++ f2, hn, ⟨f1, f2, rfl, ⟨x, hx, h1⟩, h2⟩, hb⟩)

/-! ### yield -/
def Yields (P : Program) (l : Nat) (args : List Value) (pre : Asn) (post : Bool → Asn) : Prop :=
  ∀ W fp, fp.Nodup → pre.sat (hp W) fp → ∃ f tmps asg body, (Instr.yield l args.toArray).run P W = .ok (.round l f tmps asg body) W ∧
    RoundIn (FR none) 0 P l f tmps asg body W (fun e W' => ∃ b, e = .returned (.bool b) ∧ Keeps fp W W' ∧ ∃ fp' : List Nat, fp'.Nodup ∧ (post b).sat (hp W') fp' ∧ ∀ x ∈ fp', x ∈ fp ∨ W.heap.size ≤ x)

theorem round_any {l : Nat} {f : FuncId} {tmps : Array Value} {asg body : Code} {w : World} {R : Ending → World → Prop} (h : RoundIn (FR none) 0 P l f tmps asg body w R) : RoundIn (FR r) 0 P l f tmps asg body w R := h

variable {ops : Array Oper} {d : Nat} {ty : TypeId} {pos : String} {af : Array Edge} {rest : List Oper}

theorem tr_yield {x : Operand} {xs : List Operand} {ts : Array TypeId} {l : Nat} {vs : List Value} {pre : Asn} {post : Bool → Asn} (hx : Is sl x (.func (.yield l) #[] #[])) (ha : Iss sl xs vs) (hd : Nat.blt d c.nt = true) (ht : Take hs pre hs') (hy : Yields P l vs pre post)
    (k : ∀ b, Tr c D ((d, .bool b) :: sl) (post b :: hs') (WL P r ops Q rest)) : Tr c D sl hs (WL P r ops Q (⟨some d, .call ⟨.value x, xs.toArray, ts⟩, ty, pos, af, none⟩ :: rest)) := fun a w hst => by
  have hm := hst.mem.take (ht.append _)
  obtain ⟨kk, fp, hn, ⟨f1, f2, rfl, h1, h2⟩, hb⟩ := hm
  obtain ⟨f, tmps, asg, body, hrun, hround⟩ := hy w f1 (List.nodup_append.1 hn).1 h1
  refine wl_op rfl ⟨fr_about _ _ _ _ _, ?_⟩
  rw [Oper.semAt_eq _ _ _ (by simp)]
  have : (execOp a.eval ⟨some d, .call ⟨.value x, xs.toArray, ts⟩, ty, pos, af, none⟩).run P w = .ok (.round l f tmps asg body) w := by
    simp only [execOp, resolve, hx a hst.slots, Deferred.ofValue, Sem.run_bind, Sem.run_pure, Result.andThen_ok, invoke, List.map_toArray, ha.map hst.slots]
    simpa using hrun
  rw [this]
  refine ⟨by simp [FR, Fence.wide], (round_any hround).mono fun e w' ⟨b, he, hk, fp', hn', hs1, hf'⟩ => ?_⟩
  subst he
  refine k b _ _ ((hst.put (by simpa [Nat.blt_eq] using hd) (.bool b)).heap ?_)
  have hm : Mem c ([pre] ++ (hs' ++ mks D)) w := ⟨kk, f1 ++ f2, hn, ⟨f1, f2, rfl, h1, h2⟩, hb⟩
  -- the block ids of 'pre' are f1 in this state
  obtain ⟨n1, n2, n12⟩ := List.nodup_append.1 hn
  have hlt : ∀ b ∈ f2, b < w.heap.size := fun b hb' => let ⟨o, ho⟩ := h2.own b hb'; hp_lt ho
  refine ⟨?_, fp' ++ f2, ?_, ⟨fp', f2, rfl, hs1, h2.loc fun b hb' => ?_⟩, ?_⟩
  · refine ⟨hk.os.trans kk.os, hk.tape.trans kk.tape, hk.output.trans kk.output, Nat.le_trans kk.size hk.size, fun b hb' hm => ?_⟩
    rw [← kk.block b hb' hm]
    refine hk.block b (Nat.lt_of_lt_of_le hb' kk.size) (fun hf => ?_)
    rcases hb b (List.mem_append_left _ hf) with h | h
    · omega
    · exact hm h
  · refine List.nodup_append.2 ⟨hn', n2, fun x hx y hy e => ?_⟩
    subst e
    rcases hf' x hx with h | h
    · exact n12 x h x hy rfl
    · have := hlt x hy; omega
  · exact hk.block b (hlt b hb') (fun hf => n12 b hf b hb' rfl)
  · intro b hb'
    rcases List.mem_append.1 hb' with h | h
    · rcases hf' b h with h | h
      · exact hb b (List.mem_append_left _ h)
      · exact .inl (Nat.le_trans kk.size h)
    · exact hb b (List.mem_append_right _ h)

/-! ### rounds -/
/-- the record of a loop, in some state -/
def recL (rc : Loop) (s : LoopState) (pd : Option Code) : Obj := .loop { rc with state := s, pending := pd }

def RoundR (md : List Nat) (w : World) (post : Bool → Asn) : Ending → World → Prop := fun e W' => ∃ b, e = .returned (.bool b) ∧ Keeps md w W' ∧ ∃ fp' : List Nat, fp'.Nodup ∧ (post b).sat (hp W') fp' ∧ ∀ x ∈ fp', x ∈ md ∨ w.heap.size ≤ x

def Begins (P : Program) (l : Nat) (body : Code) (R : Ending → World → Prop) : Act → World → Prop := fun a₁ w₁ => ∃ w₂, (Instr.beginRound l).run P w₁ = .ok () w₂ ∧ body.wpIn (FR (some l)) 0 P (roundPost P l R) a₁ w₂

theorem tr_begin {l : Nat} {rc : Loop} {body : Code} {R : Ending → World → Prop} {pd : Option Code} (ht : Take hs (blk l (recL rc .ready pd)) hs') (k : Tr c D sl (blk l (recL rc .busy pd) :: hs') (WP P (some l) body (roundPost P l R))) : Tr c D sl hs (Begins P l body R) := fun a w hst => by
  have hm := hst.mem.take (ht.append _)
  have hb : w.heap[l]? = some (recL rc .ready pd) := hm.blk .here
  refine ⟨w.putObj l (recL rc .busy pd), run_beginRound (r := { rc with state := .ready, pending := pd }) hb rfl, k a _ (hst.heap (Mem.store hm ⟨rfl, rfl, rfl, by simp, fun k _ hn => World.putObj_heap_other (by simpa using hn)⟩ (World.putObj_heap_same (hp_lt (w := w) hb))))⟩

theorem round_end {l : Nat} {rc : Loop} {post : Bool → Asn} {s : LoopState} {pd jump : Option Code} (ht : Take hs (blk l (recL rc s pd)) hs') {hs2 : List Asn} (ht2 : ∀ w, Mem c (blk l (recL rc (if jump.isNone then .ready else .done) jump) :: hs') w → ∃ fp : List Nat, fp.Nodup ∧ (post jump.isNone).sat (hp w) fp ∧ ∀ b ∈ fp, c.w0.heap.size ≤ b ∨ b ∈ c.md)
    {a : Act} {w : World} (hst : St c D sl hs a w) : ∃ v w', (Instr.endRound l jump).run P w = .ok v w' ∧ RoundR c.md c.w0 post (.returned v) w' := by
  have _ := hs2
  have hm := hst.mem.take (ht.append _)
  have hb : w.heap[l]? = some (recL rc s pd) := hm.blk .here
  have hk : Keeps [l] w (w.putObj l (recL rc (if jump.isNone then .ready else .done) jump)) := ⟨rfl, rfl, rfl, by simp, fun k _ hn => World.putObj_heap_other (by simpa using hn)⟩
  have hm2 := Mem.store hm hk (World.putObj_heap_same (hp_lt (w := w) hb))
  refine ⟨.bool jump.isNone, _, run_endRound (r := { rc with state := s, pending := pd }) jump hb, jump.isNone, rfl, hm2.keeps, ?_⟩
  obtain ⟨fp, h1, h2, h3⟩ := ht2 _ (by have := hm2; rw [← List.cons_append] at this; exact this.dropTail)
  exact ⟨fp, h1, h2, fun b hb => (h3 b hb).symm⟩

theorem sat_ex {Φ : ι → Prop} {A : ι → List Asn} (x : ι) (hx : Φ x) {As rest : List Asn} (ht : Takes As (A x) rest) {w : World} (hm : Mem c As w) : ∃ fp : List Nat, fp.Nodup ∧ (exA Φ A).sat (hp w) fp ∧ ∀ b ∈ fp, c.w0.heap.size ≤ b ∨ b ∈ c.md := by
  obtain ⟨_, fp, hn, hsat, hb⟩ := hm.takes ht
  obtain ⟨f1, f2, rfl, h1, _⟩ := Sats.append_iff.1 hsat
  exact ⟨f1, (List.nodup_append.1 hn).1, ⟨x, hx, h1⟩, fun b hb' => hb b (List.mem_append_left _ hb')⟩

/-- off the end of a round -/
theorem tr_roundN {l : Nat} {rc : Loop} {post : Bool → Asn} {s : LoopState} {pd : Option Code} {Φ : ι → Prop} {A : ι → List Asn} (x : ι) {rest : List Asn} (hp1 : post true = exA Φ A) (ht : Take hs (blk l (recL rc s pd)) hs') (hx : Φ x) (h2 : Takes (blk l (recL rc .ready none) :: hs') (A x) rest) :
    Tr c D sl hs (roundPost P l (RoundR c.md c.w0 post) .normal) := fun _ _ hst =>
  round_end (jump := none) (hs2 := []) ht (fun w hm => by show ∃ fp : List Nat, fp.Nodup ∧ (post true).sat (hp w) fp ∧ _; rw [hp1]; exact sat_ex x hx h2 hm) hst
/-- out of a round by a return -/
theorem tr_roundR {l : Nat} {rc : Loop} {post : Bool → Asn} {s : LoopState} {pd : Option Code} {Φ : ι → Prop} {A : ι → List Asn} (x : ι) {rest : List Asn} (hp1 : post false = exA Φ A) (ht : Take hs (blk l (recL rc s pd)) hs') (hx : Φ x) (h2 : Takes (blk l (recL rc .done (some .ret)) :: hs') (A x) rest) :
    Tr c D sl hs (roundPost P l (RoundR c.md c.w0 post) .ret) := fun _ _ hst =>
  round_end (jump := some .ret) (hs2 := []) ht (fun w hm => by show ∃ fp : List Nat, fp.Nodup ∧ (post false).sat (hp w) fp ∧ _; rw [hp1]; exact sat_ex x hx h2 hm) hst
theorem tr_roundX {l id : Nat} {rc : Loop} {post : Bool → Asn} {s : LoopState} {pd : Option Code} {Φ : ι → Prop} {A : ι → List Asn} (x : ι) {rest : List Asn} (hp1 : post false = exA Φ A) (ht : Take hs (blk l (recL rc s pd)) hs') (hx : Φ x) (h2 : Takes (blk l (recL rc .done (some (.exit id))) :: hs') (A x) rest) :
    Tr c D sl hs (roundPost P l (RoundR c.md c.w0 post) (.exit id)) := fun _ _ hst =>
  round_end (jump := some (.exit id)) (hs2 := []) ht (fun w hm => by show ∃ fp : List Nat, fp.Nodup ∧ (post false).sat (hp w) fp ∧ _; rw [hp1]; exact sat_ex x hx h2 hm) hst

/-- the temporaries of a round: the loop's, the parameters put in -/
def putAll : List (Nat × Value) → Slots → Slots
  | [], sl => sl
  | (t, v) :: r, sl => putAll r ((t, v) :: sl)

theorem putAll_ok {nt : Nat} : ∀ (ps : List (Nat × Value)) (sl : Slots) (tmps : Array Value), SlotsOk sl ⟨tmps, []⟩ → tmps.size = nt → (∀ p ∈ ps, p.1 < nt) →
    SlotsOk (putAll ps sl) ⟨ps.foldl (fun t p => t.setIfInBounds p.1 p.2) tmps, []⟩ ∧ (ps.foldl (fun (t : Array Value) p => t.setIfInBounds p.1 p.2) tmps).size = nt
  | [], sl, tmps, h, hn, _ => ⟨h, hn⟩
  | (t, v) :: ps, sl, tmps, h, hn, hp => by
    have h1 := h.put (d := t) (by show t < tmps.size; rw [hn]; exact hp (t, v) (by simp)) v
    exact putAll_ok ps ((t, v) :: sl) (tmps.setIfInBounds t v) h1 (by simpa using hn) (fun q hq => hp q (by simp [hq]))

/-- A round's contract out of the walk of its body. -/
theorem yields_of {l : Nat} {rc : Loop} {nt : Nat} {vs : List Value} {Φ : ι → Prop} {A : ι → List Asn} {post : Bool → Asn} {sl0 : Slots} (hsl : SlotsOk sl0 ⟨rc.tmps, []⟩) (hn : rc.tmps.size = nt) (hlen : vs.length = rc.params.size) (hps : ∀ t ∈ rc.params.toList, t < nt)
    (h : ∀ x W fp, Φ x → Tr ⟨W, fp, nt⟩ [] (putAll (rc.params.toList.zip vs) sl0) (blk l (recL rc .ready none) :: A x) (WP P (some l) rc.assign (Exit.then (Begins P l rc.body (RoundR fp W post)) (fun _ _ _ => False)))) :
    Yields P l vs (exA Φ fun x => blk l (recL rc .ready none) :: A x) post := by
  rintro W fp hnd ⟨x, hx, hsat⟩
  have hmem : Mem ⟨W, fp, nt⟩ (blk l (recL rc .ready none) :: A x) W := ⟨.refl _ _, fp, hnd, hsat, fun b hb => .inr hb⟩
  have hb : W.heap[l]? = some (recL rc .ready none) := hmem.blk .here
  have hy := run_yield (P := P) (w := W) (l := l) (r := { rc with state := .ready, pending := none }) (args := vs.toArray) hb (by simpa using hlen)
  refine ⟨_, _, _, _, hy, ?_⟩
  refine roundIn_of_wpIn trivial ?_
  obtain ⟨g1, g2⟩ := putAll_ok (rc.params.toList.zip vs) sl0 rc.tmps hsl hn (fun p hp => hps p.1 (by
    obtain ⟨t, v⟩ := p
    exact (List.of_mem_zip hp).1))
  have hfold : ((rc.params.zip vs.toArray).foldl (fun tmps (x : Nat × Value) => tmps.setIfInBounds x.1 x.2) rc.tmps) = (rc.params.toList.zip vs).foldl (fun (t : Array Value) p => t.setIfInBounds p.1 p.2) rc.tmps := by
    rw [← Array.foldl_toList]
    simp
  have := h x W fp hx ⟨(rc.params.toList.zip vs).foldl (fun (t : Array Value) p => t.setIfInBounds p.1 p.2) rc.tmps, []⟩ W ⟨by simpa [mks] using hmem, g1, g2, rfl⟩
  rw [← hfold] at this
  exact this

/-! ### the statement -/
/-- 'for .. := range g { .. }', at the outermost. -/
theorem tr_rangeFunc {g : Operand} {ps : Array Tmp} {asg body : Code} {f : FuncId} {first cap : List Value} (hg : Is sl g (.func (.func f) first.toArray cap.toArray)) [Bod P f]
    {As : Nat → Loop → List Asn} {rest : List Asn} {Φ : Nat → Loop → ι → Prop} {own : Nat → Loop → ι → List Asn} {st : ι → LoopState} {pd : ι → Option Code}
    (ht : ∀ l rc, Takes (blk l (recL rc .ready none) :: hs) (As l rc) rest) (hst : ∀ x, st x ≠ .busy)
    (hc : ∀ l rc, rc.params = ps → rc.assign = asg → rc.body = body → SlotsOk sl ⟨rc.tmps, []⟩ → rc.tmps.size = c.nt → ∀ w fp, Mem c (blk l (recL rc .ready none) :: hs) w → fp.Nodup → Sats (hp w) (As l rc) fp → (∀ b ∈ fp, c.w0.heap.size ≤ b ∨ b ∈ c.md) →
      Gives P f (first ++ [Value.func (Fn.yield l) #[] #[]] ++ cap) w fp (Φ l rc) (fun _ => Value.tuple #[]) (fun x => blk l (recL rc (st x) (pd x)) :: own l rc x))
    (kn : ∀ l rc x b, Φ l rc x → pd x = none → Tr c (b :: D) sl (own l rc x ++ rest) (Q .normal))
    (kj : ∀ l rc x b j, Φ l rc x → pd x = some j → Tr c (b :: D) sl (own l rc x ++ rest) (WP P none j Q)) :
    Tr c D sl hs (WP P none (.rangeFunc g ps asg body) Q) := fun a w hs0 => by
  refine wpIn_rangeFunc fun fn _ => ?_
  let rc : Loop := { state := .ready, pending := none, fn, tmps := a.tmps, params := ps, assign := asg, body, defers := w.heap.size }
  let l := w.heap.size + 1
  let w1 := (w.alloc (.deferred (some []))).alloc (.loop rc)
  have hrc : recL rc .ready none = .loop rc := rfl
  -- the state behind the record
  have hm1 : Mem c (blk w.heap.size (.deferred (some [])) :: (hs ++ mks D)) (w.alloc (.deferred (some []))) := hs0.mem.alloc _
  have hm2 : Mem c (blk l (recL rc .ready none) :: blk w.heap.size (.deferred (some [])) :: (hs ++ mks D)) w1 := by
    have := hm1.alloc (.loop rc)
    simpa [l, w1, hrc] using this
  -- rearranged: the record and hs ahead, the new mark among the marks
  have hm3 : Mem c ((blk l (recL rc .ready none) :: hs) ++ mks (w.heap.size :: D)) w1 := by
    obtain ⟨k, fp, hn, ⟨f1, f2, rfl, h1, ⟨f3, f4, rfl, h3, h4⟩⟩, hb⟩ := hm2
    obtain ⟨f5, f6, rfl, h5, h6⟩ := Sats.append_iff.1 h4
    have hperm : (f1 ++ (f3 ++ (f5 ++ f6))).Perm ((f1 ++ f5) ++ (f3 ++ f6)) := by
      rw [List.append_assoc]
      refine List.Perm.append_left f1 ?_
      rw [← List.append_assoc, ← List.append_assoc]
      exact List.perm_append_comm.append_right f6
    refine ⟨k, (f1 ++ f5) ++ (f3 ++ f6), hperm.nodup_iff.1 hn, Sats.append_iff.2 ⟨f1 ++ f5, f3 ++ f6, rfl, ⟨f1, f5, rfl, h1, h5⟩, ⟨f3, f6, rfl, h3, h6⟩⟩, fun b hb' => hb b (hperm.mem_iff.2 hb')⟩
  have htk := ht l rc
  obtain ⟨k4, fp, hn, hsat, hb⟩ := hm3.takes (htk.append (mks (w.heap.size :: D)))
  obtain ⟨f1, f2, rfl, h1, h2⟩ := Sats.append_iff.1 hsat
  have hcall := hc l rc rfl rfl rfl hs0.slots hs0.size w1 f1 hm3.dropTail (List.nodup_append.1 hn).1 h1 (fun b hb' => hb b (List.mem_append_left _ hb'))
  refine ⟨l, [{ target := .collected w.heap.size, args := #[] }], w1, { target := .fn (.func f) cap.toArray, args := first.toArray ++ #[.func (.yield l) #[] #[]] }, w1, f, (first ++ [Value.func (Fn.yield l) #[] #[]] ++ cap).toArray, w1, run_enterLoop_outer fn a.tmps ps asg body, ?_, fun _ _ => trivial, ?_, by simp [FR, Fence.wide], ?_⟩
  · have := hg a hs0.slots
    simp only [resolve, rangeCall, Deferred.ofValue, this, Sem.run_bind, Sem.run_pure, Result.andThen_ok]
    simp [Act.eval, l]
  · simp only [invoke]
    rw [rk_callFunc]
    simp
  · refine (calls_wide (r := none) hcall).mono fun e w' ⟨x, he, hx, hk, fp', hn', hs', hf'⟩ => ?_
    subst he
    obtain ⟨g1, g2, rfl, hrec, hown⟩ := hs'
    obtain ⟨rfl, hl⟩ := hrec
    have hl' : w'.heap[l]? = some (recL rc (st x) (pd x)) := hl
    refine ⟨pd x, w'.putObj l (recL rc .exhausted (pd x)), run_endLoop (r := { rc with state := st x, pending := pd x }) hl' (hst x), ?_⟩
    -- the state behind it all
    obtain ⟨n1, n2, n12⟩ := List.nodup_append.1 hn
    have hlt : ∀ b ∈ f2, b < w1.heap.size := fun b hb' => let ⟨o, ho⟩ := h2.own b hb'; hp_lt ho
    have hm5 : Mem c (blk l (recL rc (st x) (pd x)) :: (own l rc x ++ (rest ++ mks (w.heap.size :: D)))) w' := by
      refine ⟨?_, (([l] ++ g2) ++ f2), ?_, ?_, ?_⟩
      · refine ⟨hk.os.trans k4.os, hk.tape.trans k4.tape, hk.output.trans k4.output, Nat.le_trans k4.size hk.size, fun b hb' hm => ?_⟩
        rw [← k4.block b hb' hm]
        refine hk.block b (Nat.lt_of_lt_of_le hb' k4.size) (fun hf => ?_)
        rcases hb b (List.mem_append_left _ hf) with h | h
        · omega
        · exact hm h
      · refine List.nodup_append.2 ⟨hn', n2, fun x hx y hy e => ?_⟩
        subst e
        rcases hf' x hx with h | h
        · exact n12 x h x hy rfl
        · have := hlt x hy; omega
      · rw [List.append_assoc]
        exact ⟨[l], g2 ++ f2, rfl, ⟨rfl, hl⟩, Sats.append_iff.2 ⟨g2, f2, rfl, hown, h2.loc fun b hb' => hk.block b (hlt b hb') (fun hf => n12 b hf b hb' rfl)⟩⟩
      · intro b hb'
        rcases List.mem_append.1 hb' with h | h
        · rcases hf' b h with h | h
          · exact hb b (List.mem_append_left _ h)
          · exact .inl (Nat.le_trans k4.size h)
        · exact hb b (List.mem_append_right _ h)
    have hm6 : Mem c ((own l rc x ++ rest) ++ mks (w.heap.size :: D)) (w'.putObj l (recL rc .exhausted (pd x))) := by
      have := (Mem.store hm5 (w' := w'.putObj l (recL rc .exhausted (pd x))) ⟨rfl, rfl, rfl, by simp, fun k _ hn => World.putObj_heap_other (by simpa using hn)⟩ (World.putObj_heap_same (hp_lt (w := w') hl'))).dropHead
      rwa [List.append_assoc]
    have hst' : St c (w.heap.size :: D) sl (own l rc x ++ rest) { a with defers := [{ target := .collected w.heap.size, args := #[] }] ++ a.defers } (w'.putObj l (recL rc .exhausted (pd x))) :=
      ⟨hm6, hs0.slots, hs0.size, by simp [hs0.defers, mark]⟩
    cases hj : pd x with
    | none => rw [hj] at hst'; exact kn l rc x w.heap.size hx hj _ _ hst'
    | some j => rw [hj] at hst'; exact kj l rc x w.heap.size j hx hj _ _ hst'
end
end Go.SL
