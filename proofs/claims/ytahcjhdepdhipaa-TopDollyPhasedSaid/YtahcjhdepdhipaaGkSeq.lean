/- Iterators by a contract: the yields of an iterator in their order, over a base world; loops whose rounds may hold ranges over functions. -/
import Derived.Test.YtahcjhdepdhipaaGkRange
import Derived.Test.YtahcjhdepdhipaaGkSlice
set_option linter.unusedSectionVars false
set_option linter.unusedVariables false
set_option linter.unusedSimpArgs false
namespace Go.SL
open Go

theorem Keeps.over {md fp : List Nat} {a b c : World} (h : Keeps md a b) (hf : ∀ x ∈ fp, x ∈ md ∨ a.heap.size ≤ x) (k : Keeps fp b c) : Keeps md a c :=
  ⟨k.os.trans h.os, k.tape.trans h.tape, k.output.trans h.output, Nat.le_trans h.size k.size, fun i hi hm => by
    rw [← h.block i hi hm]
    exact k.block i (Nat.lt_of_lt_of_le hi h.size) (fun hx => by
      rcases hf i hx with h1 | h1
      · exact hm h1
      · omega)⟩

/-- the slice's block is none of these -/
def Out (md : List Nat) (v : Value) (xs : List (List Value)) : Prop := xs ≠ [] → ∀ b, v.ownBlock = some b → b ∉ md
theorem Out.nil (v : Value) (xs : List (List Value)) : Out [] v xs := fun _ _ _ h => by cases h
theorem Rd.keepsN {md : List Nat} {w w' : World} {v : Value} {sz : Nat} {xs : List (List Value)} (h : Rd w v sz xs) (hn : Out md v xs) (hk : Keeps md w w') : Rd w' v sz xs := by
  obtain ⟨a, cap, b, o, rfl, h2, h2', h3, h4⟩ := h
  refine ⟨a, cap, b, o, rfl, h2, h2', h3, fun i r hr => ⟨(h4 i r hr).1, fun j u hu => ?_⟩⟩
  have := (h4 i r hr).2 j u hu
  have hb := World.block_lt_of_cell? w _ this
  have hne : xs ≠ [] := by rintro rfl; simp at hr
  rw [← this]
  simp only [World.cell?]
  rw [hk.block b hb (hn hne b (by rw [h3 hne]; rfl))]
theorem Rd.out {md fp : List Nat} {w0 : World} {v : Value} {sz : Nat} {xs : List (List Value)} (h : Rd w0 v sz xs) (hsz : 0 < sz) (hn : Out md v xs) (hF : ∀ b ∈ fp, b ∈ md ∨ w0.heap.size ≤ b) : Out fp v xs := fun hne b hb hbf => by
  obtain ⟨a, cap, b', o, rfl, h2, h2', h3, h4⟩ := h
  have ha := h3 hne
  subst ha
  have : b' = b := by simpa [Value.ownBlock] using hb
  subst this
  obtain ⟨r, rs, rfl⟩ := List.exists_cons_of_ne_nil hne
  obtain ⟨hl, hc⟩ := h4 0 r rfl
  obtain ⟨u, us, rfl⟩ := List.exists_cons_of_ne_nil (l := r) (by rintro rfl; simp at hl; omega)
  have hlt := World.block_lt_of_cell? w0 _ (hc 0 u rfl)
  rcases hF b' hbf with h | h
  · exact hn hne b' hb h
  · exact absurd hlt (by simp; omega)
theorem Out.not_mem {fp : List Nat} {a : Option Addr} {len cap b o : Nat} {xs : List (List Value)} (h : Out fp (.slice a len cap) xs) (hne : xs ≠ []) (ha : a = some ⟨b, o, none⟩) : b ∉ fp := h hne b (by rw [ha]; rfl)
theorem Ats.baseN {c : Cx} {hs : List Asn} {b o : Nat} {vs : List Value} (h : ∀ (j : Nat) (u : Value), vs[j]? = some u → c.w0.cell? ⟨b, o + j, none⟩ = some u) (hmd : b ∉ c.md) : Ats c hs b o vs :=
  Ats.of_get fun j v hv => At.baseN (h j v hv) hmd

def YieldsB (P : Program) (l : Nat) (args : List Value) (w0 : World) (md : List Nat) (pre : Asn) (post : Bool → Asn) : Prop :=
  ∀ W fp, Keeps md w0 W → (∀ b ∈ fp, b ∈ md ∨ w0.heap.size ≤ b) → fp.Nodup → pre.sat (hp W) fp → ∃ f tmps asg body, (Instr.yield l args.toArray).run P W = .ok (.round l f tmps asg body) W ∧
    RoundIn (FR none) 0 P l f tmps asg body W (RoundR fp W post)

def Iter (P : Program) (f : FuncId) (first cap : List Value) (own : List Asn) (items : List (List Value)) (w0 : World) (md : List Nat) (w : World) : Prop :=
  ∀ (l : Nat) (fp : List Nat) (J : Nat → Asn) (E : Asn), Keeps md w0 w → (∀ b ∈ fp, b ∈ md ∨ w0.heap.size ≤ b) → fp.Nodup → Sats (hp w) (J 0 :: own) fp →
    (∀ k vs, items[k]? = some vs → YieldsB P l vs w0 md (J k) (fun b => bif b then J (k + 1) else E)) →
    Gives P f (first ++ [.func (.yield l) #[] #[]] ++ cap) w fp (fun _ : Bool => True) (fun _ => .tuple #[]) (fun b => (bif b then J items.length else E) :: own)

section
variable {P : Program} {r : Option Nat} {c : Cx} {D : List Nat} {sl : Slots} {hs hs' : List Asn} {Q : Exit → Act → World → Prop} {ι κ : Type}
variable {ops : Array Oper} {d : Nat} {ty : TypeId} {pos : String} {af : Array Edge} {rest : List Oper}

theorem tr_yieldB {x : Operand} {xs : List Operand} {ts : Array TypeId} {l : Nat} {w0 : World} {md : List Nat} {vs : List Value} {pre : Asn} {post : Bool → Asn} (hB : Keeps md w0 c.w0) (hF : ∀ b ∈ c.md, b ∈ md ∨ w0.heap.size ≤ b) (hy : YieldsB P l vs w0 md pre post)
    (hx : Is sl x (.func (.yield l) #[] #[])) (ha : Iss sl xs vs) (hd : Nat.blt d c.nt = true) (ht : Take hs pre hs')
    (k : ∀ b, Tr c D ((d, .bool b) :: sl) (post b :: hs') (WL P r ops Q rest)) : Tr c D sl hs (WL P r ops Q (⟨some d, .call ⟨.value x, xs.toArray, ts⟩, ty, pos, af, none⟩ :: rest)) := fun a w hst => by
  have hm := hst.mem.take (ht.append _)
  obtain ⟨kk, fp, hn, ⟨f1, f2, rfl, h1, h2⟩, hb⟩ := hm
  obtain ⟨f, tmps, asg, body, hrun, hround⟩ := hy w f1 (hB.over hF kk) (fun b hb' => by
    rcases hb b (List.mem_append_left _ hb') with h | h
    · exact .inr (Nat.le_trans hB.size h)
    · exact hF b h) (List.nodup_append.1 hn).1 h1
  refine wl_op rfl ⟨fr_about _ _ _ _ _, ?_⟩
  rw [Oper.semAt_eq _ _ _ (by simp)]
  have : (execOp a.eval ⟨some d, .call ⟨.value x, xs.toArray, ts⟩, ty, pos, af, none⟩).run P w = .ok (.round l f tmps asg body) w := by
    simp only [execOp, resolve, hx a hst.slots, Deferred.ofValue, Sem.run_bind, Sem.run_pure, Result.andThen_ok, invoke, List.map_toArray, ha.map hst.slots]
    simpa using hrun
  rw [this]
  refine ⟨by simp [FR, Fence.wide], (round_any hround).mono fun e w' ⟨b, he, hk, fp', hn', hs1, hf'⟩ => ?_⟩
  subst he
  refine k b _ _ ((hst.put (by simpa [Nat.blt_eq] using hd) (.bool b)).heap ?_)
  obtain ⟨n1, n2, n12⟩ := List.nodup_append.1 hn
  have hlt : ∀ b ∈ f2, b < w.heap.size := fun b hb' => let ⟨o, ho⟩ := h2.own b hb'; hp_lt ho
  refine ⟨?_, fp' ++ f2, ?_, ⟨fp', f2, rfl, hs1, h2.loc fun b hb' => ?_⟩, ?_⟩
  · refine ⟨hk.os.trans kk.os, hk.tape.trans kk.tape, hk.output.trans kk.output, Nat.le_trans kk.size hk.size, fun b hb' hm => ?_⟩
    rw [← kk.block b hb' hm]
    refine hk.block b (Nat.lt_of_lt_of_le hb' kk.size) (fun hf => ?_)
    rcases hb b (List.mem_append_left _ hf) with h | h
    · omega
    · exact hm h
  · refine List.nodup_append.2 ⟨hn', n2, fun x hx y hy e => ?_⟩
    subst e
    rcases hf' x hx with h | h
    · exact n12 x h x hy rfl
    · have := hlt x hy; omega
  · exact hk.block b (hlt b hb') (fun hf => n12 b hf b hb' rfl)
  · intro b hb'
    rcases List.mem_append.1 hb' with h | h
    · rcases hf' b h with h | h
      · exact hb b (List.mem_append_left _ h)
      · exact .inl (Nat.le_trans kk.size h)
    · exact hb b (List.mem_append_right _ h)

/-- A round's contract out of the walk of its body, over a base. -/
theorem yieldsB_of {l : Nat} {rc : Loop} {nt : Nat} {vs : List Value} {w0 : World} {md : List Nat} {Φ : ι → Prop} {A : ι → List Asn} {post : Bool → Asn} {sl0 : Slots} (hsl : SlotsOk sl0 ⟨rc.tmps, []⟩) (hn : rc.tmps.size = nt) (hlen : vs.length = rc.params.size) (hps : ∀ t ∈ rc.params.toList, t < nt)
    (h : ∀ x W fp, Keeps md w0 W → (∀ b ∈ fp, b ∈ md ∨ w0.heap.size ≤ b) → Φ x → Tr ⟨W, fp, nt⟩ [] (putAll (rc.params.toList.zip vs) sl0) (blk l (recL rc .ready none) :: A x) (WP P (some l) rc.assign (Exit.then (Begins P l rc.body (RoundR fp W post)) (fun _ _ _ => False)))) :
    YieldsB P l vs w0 md (exA Φ fun x => blk l (recL rc .ready none) :: A x) post := by
  rintro W fp hB hF hnd ⟨x, hx, hsat⟩
  have hmem : Mem ⟨W, fp, nt⟩ (blk l (recL rc .ready none) :: A x) W := ⟨.refl _ _, fp, hnd, hsat, fun b hb => .inr hb⟩
  have hb : W.heap[l]? = some (recL rc .ready none) := hmem.blk .here
  have hy := run_yield (P := P) (w := W) (l := l) (r := { rc with state := .ready, pending := none }) (args := vs.toArray) hb (by simpa using hlen)
  refine ⟨_, _, _, _, hy, ?_⟩
  refine roundIn_of_wpIn trivial ?_
  obtain ⟨g1, g2⟩ := putAll_ok (rc.params.toList.zip vs) sl0 rc.tmps hsl hn (fun p hp => hps p.1 (by
    obtain ⟨t, v⟩ := p
    exact (List.of_mem_zip hp).1))
  have hfold : ((rc.params.zip vs.toArray).foldl (fun tmps (x : Nat × Value) => tmps.setIfInBounds x.1 x.2) rc.tmps) = (rc.params.toList.zip vs).foldl (fun (t : Array Value) p => t.setIfInBounds p.1 p.2) rc.tmps := by
    rw [← Array.foldl_toList]
    simp
  have := h x W fp hB hF hx ⟨(rc.params.toList.zip vs).foldl (fun (t : Array Value) p => t.setIfInBounds p.1 p.2) rc.tmps, []⟩ W ⟨by simpa [mks] using hmem, g1, g2, rfl⟩
  rw [← hfold] at this
  exact this

/-- what a round leaves: the next round's state, or the state of an exit -/
def SeqPost (l : Nat) (rc : Loop) (Φ : Nat → ι → Prop) (A : ι → List Asn) (Ψ : κ → Prop) (B : κ → List Asn) (pd : κ → Code) (k : Nat) (b : Bool) : Asn :=
  bif b then exA (Φ k) (fun x => blk l (recL rc .ready none) :: A x) else exA Ψ (fun y => blk l (recL rc .done (some (pd y))) :: B y)

/-- 'for .. := range f(..)', the iterator by its contract. -/
theorem tr_rangeSeq {g : Operand} {ps : List Tmp} {asg body : Code} {f : FuncId} {first cap : List Value} [Bod P f] (hg : Is sl g (.func (.func f) first.toArray cap.toArray))
    (own : List Asn) (items : List (List Value)) (hit : ∀ w, Mem c hs w → Iter P f first cap own items c.w0 c.md w)
    (Φ : Nat → ι → Prop) (A : ι → List Asn) (Ψ : κ → Prop) (B : κ → List Asn) (pd : κ → Code) (x0 : ι) {rst : List Asn} (h0 : Φ 0 x0) (ht : Takes hs (A x0 ++ own) rst)
    (hlen : ∀ vs ∈ items, vs.length = ps.length) (hps : ∀ t ∈ ps, t < c.nt)
    (round : ∀ l rc W fp k x vs, rc.tmps.size = c.nt → items[k]? = some vs → Φ k x → Keeps c.md c.w0 W → (∀ b ∈ fp, b ∈ c.md ∨ c.w0.heap.size ≤ b) →
      Tr ⟨W, fp, c.nt⟩ [] (putAll (ps.zip vs) sl) (blk l (recL rc .ready none) :: A x) (WP P (some l) asg (Exit.then (Begins P l body (RoundR fp W (SeqPost l rc Φ A Ψ B pd (k + 1)))) (fun _ _ _ => False))))
    (kn : ∀ x D, Φ items.length x → Tr c D sl (A x ++ own ++ rst) (Q .normal))
    (kj : ∀ y D, Ψ y → Tr c D sl (B y ++ own ++ rst) (WP P none (pd y) Q)) :
    Tr c D sl hs (WP P none (.rangeFunc g ps.toArray asg body) Q) := by
  refine tr_rangeFunc (ι := ι ⊕ κ) hg (As := fun l rc => blk l (recL rc .ready none) :: (A x0 ++ own)) (rest := rst)
    (Φ := fun l rc x => match x with | .inl x => Φ items.length x | .inr y => Ψ y) (own := fun l rc x => match x with | .inl x => A x ++ own | .inr y => B y ++ own)
    (st := fun x => match x with | .inl _ => .ready | .inr _ => .done) (pd := fun x => match x with | .inl _ => none | .inr y => some (pd y)) ?_ ?_ ?_ ?_ ?_
  · exact fun l rc => Takes.cons .here ht
  · rintro (x | y) <;> simp
  · intro l rc hps' ha hbd hsl hsz w fp hm hn hs1 hfp
    have hfp' : ∀ b ∈ fp, b ∈ c.md ∨ c.w0.heap.size ≤ b := fun b hb => (hfp b hb).symm
    have hs2 : Sats (hp w) (exA (Φ 0) (fun x => blk l (recL rc .ready none) :: A x) :: own) fp := by
      rw [← List.cons_append] at hs1
      obtain ⟨f1, f2, rfl, h1, h2⟩ := Sats.append_iff.1 hs1
      exact ⟨f1, f2, rfl, ⟨x0, h0, h1⟩, h2⟩
    refine (hit w hm.dropHead l fp (fun k => exA (Φ k) (fun x => blk l (recL rc .ready none) :: A x)) (exA Ψ (fun y => blk l (recL rc .done (some (pd y))) :: B y)) hm.keeps hfp' hn hs2 ?_).mono ?_
    · intro k vs hk
      refine yieldsB_of (post := SeqPost l rc Φ A Ψ B pd (k + 1)) hsl hsz (by rw [hps']; simpa using hlen vs (List.mem_of_getElem? hk)) (by rw [hps']; simpa using hps) ?_
      intro x W fp2 hB hF hx
      have := round l rc W fp2 k x vs hsz hk hx hB hF
      rw [ha, hbd, hps']
      simpa using this
    · rintro e w' ⟨b, he, _, hk, fp', hn', hs', hf'⟩
      obtain ⟨f1, f2, rfl, h1, h2⟩ := hs'
      cases b with
      | true =>
        obtain ⟨x, hx, h1⟩ := h1
        exact ⟨.inl x, he, hx, hk, f1 ++ f2, hn', by
          show Sats _ (blk l (recL rc .ready none) :: (A x ++ own)) _
          rw [← List.cons_append]
          exact Sats.append_iff.2 ⟨f1, f2, rfl, h1, h2⟩, hf'⟩
      | false =>
        obtain ⟨y, hy, h1⟩ := h1
        exact ⟨.inr y, he, hy, hk, f1 ++ f2, hn', by
          show Sats _ (blk l (recL rc .done (some (pd y))) :: (B y ++ own)) _
          rw [← List.cons_append]
          exact Sats.append_iff.2 ⟨f1, f2, rfl, h1, h2⟩, hf'⟩
  · rintro l rc (x | y) b hx hpd
    · exact kn x (b :: D) hx
    · simp at hpd
  · rintro l rc (x | y) b j hx hpd
    · simp at hpd
    · simp only [Option.some.injEq] at hpd; subst hpd
      exact kj y (b :: D) hx

/-! ### loops whose rounds add marks -/
def LoopPostD (c : Cx) (Φ : ι → Prop) (sI : ι → Slots) (hI : ι → List Asn) (μ : ι → Nat) (i : ι) : Act → World → Prop := fun a w => ∃ D j, Φ j ∧ μ j < μ i ∧ St c D (sI j) (hI j) a w
def LoopStartD (c : Cx) (Φ : ι → Prop) (sI : ι → Slots) (hI : ι → List Asn) : Act → World → Prop := fun a w => ∃ D i, Φ i ∧ St c D (sI i) (hI i) a w
theorem tr_forD {x : Code} (Φ : ι → Prop) (sI : ι → Slots) (hI : ι → List Asn) (μ : ι → Nat)
    (h0 : Tr c D sl hs (LoopStartD c Φ sI hI))
    (round : ∀ i, Φ i → ∀ D, Tr c D (sI i) (hI i) (WP P r x (Exit.then (LoopPostD c Φ sI hI μ i) Q))) :
    Tr c D sl hs (WP P r (.loop x) Q) := fun a w hst => by
  let fits : Act → World → Nat → Prop := fun a w n => ∃ D i, Φ i ∧ μ i = n ∧ St c D (sI i) (hI i) a w
  have least : ∀ a w, (∃ n, fits a w n) → ∃ n, fits a w n ∧ ∀ m, fits a w m → n ≤ m := by
    intro a w ⟨n, hn⟩
    induction n using Nat.strongRecOn with
    | _ n ih =>
      by_cases h : ∃ m, m < n ∧ fits a w m
      · obtain ⟨m, hm, hf⟩ := h
        exact ih m hm hf
      · exact ⟨n, hn, fun m hm => Nat.le_of_not_lt fun hlt => h ⟨m, hlt, hm⟩⟩
  let M : Act → World → Nat := fun a w => Classical.epsilon fun n => fits a w n ∧ ∀ m, fits a w m → n ≤ m
  have hM : ∀ a w, (∃ n, fits a w n) → fits a w (M a w) ∧ ∀ m, fits a w m → M a w ≤ m := fun a w h => Classical.epsilon_spec (least a w h)
  refine wpIn_loop (fun a w => ∃ n, fits a w n) M ?_ ?_
  · obtain ⟨D, i, hi, hs⟩ := h0 a w hst
    exact ⟨μ i, D, i, hi, rfl, hs⟩
  · intro a w hI
    obtain ⟨⟨D, i, hi, hm, hs⟩, _⟩ := hM a w hI
    refine wpIn_mono (round i hi D a w hs) fun e a' w' h => ?_
    cases e with
    | normal =>
      obtain ⟨D', j, hj, hlt, hs'⟩ := h
      have hf : fits a' w' (μ j) := ⟨D', j, hj, rfl, hs'⟩
      exact ⟨⟨_, hf⟩, Nat.lt_of_le_of_lt ((hM a' w' ⟨_, hf⟩).2 _ hf) (by rw [← hm]; exact hlt)⟩
    | _ => exact h
theorem tr_nextD {Φ : ι → Prop} {sI : ι → Slots} {hI : ι → List Asn} {μ : ι → Nat} {i : ι} (j : ι) {rest : List Asn} (hΦ : Φ j) (hμ : μ j < μ i) (hs1 : Subs sl (sI j)) (ht : Takes hs (hI j) rest) : Tr c D sl hs (LoopPostD c Φ sI hI μ i) :=
  fun a w hst => ⟨D, j, hΦ, hμ, hst.weaken hs1 ht⟩
theorem tr_startD {Φ : ι → Prop} {sI : ι → Slots} {hI : ι → List Asn} (j : ι) {rest : List Asn} (hΦ : Φ j) (hs1 : Subs sl (sI j)) (ht : Takes hs (hI j) rest) : Tr c D sl hs (LoopStartD c Φ sI hI) :=
  fun a w hst => ⟨D, j, hΦ, hst.weaken hs1 ht⟩

/-- the end of a round: on to the next -/
theorem tr_seqN {nt : Nat} {W : World} {fp : List Nat} {l : Nat} {rc : Loop} {Φ : Nat → ι → Prop} {A : ι → List Asn} {Ψ : κ → Prop} {B : κ → List Asn} {pd : κ → Code} {k : Nat} {s : LoopState} {p : Option Code} (x : ι) {rst rst2 : List Asn}
    (ht : Take hs (blk l (recL rc s p)) rst) (hx : Φ k x) (h2 : Takes rst (A x) rst2) : Tr ⟨W, fp, nt⟩ D sl hs (roundPost P l (RoundR fp W (SeqPost l rc Φ A Ψ B pd k)) .normal) :=
  tr_roundN (c := ⟨W, fp, nt⟩) (post := SeqPost l rc Φ A Ψ B pd k) x rfl ht hx (Takes.cons .here h2)
/-- out of it by a return -/
theorem tr_seqR {nt : Nat} {W : World} {fp : List Nat} {l : Nat} {rc : Loop} {Φ : Nat → ι → Prop} {A : ι → List Asn} {Ψ : κ → Prop} {B : κ → List Asn} {pd : κ → Code} {k : Nat} {s : LoopState} {p : Option Code} (y : κ) {rst rst2 : List Asn}
    (hpd : pd y = .ret) (ht : Take hs (blk l (recL rc s p)) rst) (hy : Ψ y) (h2 : Takes rst (B y) rst2) : Tr ⟨W, fp, nt⟩ D sl hs (roundPost P l (RoundR fp W (SeqPost l rc Φ A Ψ B pd k)) .ret) := by
  refine tr_roundR (c := ⟨W, fp, nt⟩) (post := SeqPost l rc Φ A Ψ B pd k) (Φ := Ψ) (A := fun y => blk l (recL rc .done (some (pd y))) :: B y) y (rest := rst2) rfl ht hy ?_
  rw [hpd]; exact Takes.cons .here h2
theorem tr_seqX {nt : Nat} {W : World} {fp : List Nat} {l id : Nat} {rc : Loop} {Φ : Nat → ι → Prop} {A : ι → List Asn} {Ψ : κ → Prop} {B : κ → List Asn} {pd : κ → Code} {k : Nat} {s : LoopState} {p : Option Code} (y : κ) {rst rst2 : List Asn}
    (hpd : pd y = .exit id) (ht : Take hs (blk l (recL rc s p)) rst) (hy : Ψ y) (h2 : Takes rst (B y) rst2) : Tr ⟨W, fp, nt⟩ D sl hs (roundPost P l (RoundR fp W (SeqPost l rc Φ A Ψ B pd k)) (.exit id)) := by
  refine tr_roundX (c := ⟨W, fp, nt⟩) (post := SeqPost l rc Φ A Ψ B pd k) (Φ := Ψ) (A := fun y => blk l (recL rc .done (some (pd y))) :: B y) y (rest := rst2) rfl ht hy ?_
  rw [hpd]; exact Takes.cons .here h2
end
end Go.SL
