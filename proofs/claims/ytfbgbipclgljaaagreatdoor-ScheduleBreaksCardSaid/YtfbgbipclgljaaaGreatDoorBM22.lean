/- Parts of the proof: GkRegL S84 R1 R2 R3 R4 R5 R6. -/
import Derived.Test.YtfbgbipclgljaaaGreatDoorBM21
import Derived.Test.YtfbgbipclgljaaaGreatDoorBM06
import Derived.Test.YtfbgbipclgljaaaGreatDoorBM19
set_option linter.unusedSectionVars false
set_option linter.unusedVariables false
set_option linter.unusedSimpArgs false
/- GkRegL -/
/- The steps of a plan with one taker (GkRegK): operation i0 takes what j0 has made. -/
namespace Go.SL
open Go
def tkOf : List (Nat × Nat) → Nat → Nat
  | [], _ => 0
  | p :: r, j => bif Nat.beq p.1 j then p.2 else tkOf r j
theorem tkOf_no : ∀ {tks : List (Nat × Nat)} {i j : Nat}, (tks.all fun p => !Nat.beq p.2 i) = true → tkOf tks j = i → 0 < i → False
  | [], i, j, _, h, hp => by
    have h : 0 = i := h
    omega
  | p :: r, i, j, h, h2, hp => by
    rw [List.all_cons, Bool.and_eq_true] at h
    unfold tkOf at h2
    cases e : Nat.beq p.1 j with
    | true => rw [e] at h2; have h2 : p.2 = i := h2; rw [h2] at h; simp at h
    | false => rw [e] at h2; exact tkOf_no h.2 h2 hp
theorem tkOf_only : ∀ {tks : List (Nat × Nat)} {i jx : Nat}, (tks.all fun p => !Nat.beq p.2 i || Nat.beq p.1 jx) = true → Nat.blt 0 i = true → ∀ k, tkOf tks k = i → k = jx
  | [], i, jx, _, h0, k, h => by
    have h : 0 = i := h
    subst h; cases h0
  | p :: r, i, jx, h, h0, k, hk => by
    rw [List.all_cons, Bool.and_eq_true] at h
    unfold tkOf at hk
    cases e : Nat.beq p.1 k with
    | true =>
      rw [e] at hk
      have hk : p.2 = i := hk
      have h1 := h.1
      rw [hk, show Nat.beq i i = true by simp] at h1
      have e1 := Nat.eq_of_beq_eq_true e
      have e2 := Nat.eq_of_beq_eq_true (show Nat.beq p.1 jx = true by simpa using h1)
      omega
    | false => rw [e] at hk; exact tkOf_only h.2 h0 k hk
section
variable {P : Program} {c : Cx} {D : List Nat} {sl : Slots} {hs hs' : List Asn} {X : Act → World → Prop} {Q : Exit → Act → World → Prop} {l : List Oper} {m i n d : Nat} {tks : List (Nat × Nat)} {op : Op} {ty : TypeId} {pos : String} {af : Array Edge} {rest : List Oper} {SL : (Nat → Value) → Slots} {S : List StepP}
theorem ak_step {o : Oper} {s : StepP} (hd : o.dst = some d) (hdn : Nat.blt d c.nt = true) (h : StepK P c hs l (tkOf tks) i o SL S s) (k : AnyK (tkOf tks) P c D hs l Q m (i + 1) n rest (fun β => (d, s.F β) :: SL β) (S ++ [s])) : AnyK (tkOf tks) P c D hs l Q m i (n + 1) (o :: rest) SL S := by
  obtain ⟨S', SL', hp, ht⟩ := k
  exact ⟨S', SL', .step hd (by simpa [Nat.blt_eq] using hdn) h hp, ht⟩
theorem ak_end (k : ∀ β, Tr c D (SL β) (resF β (pk (tkOf tks) (fun i => Nat.blt i m)) S 0 ++ hs) (Left P l.toArray Q (l.length - m) (Lend l.length m))) : AnyK (tkOf tks) P c D hs l Q m i 0 rest SL S :=
  ⟨S, SL, .nil, k⟩
theorem resF_one {β : Nat → Value} {p : Nat → Bool} {s : StepP} : ∀ {S : List StepP} {i jx : Nat}, S[jx]? = some s → (∀ k, p k = Nat.beq k (i + jx)) → resF β p S i = s.A β
  | [], _, _, h, _ => by simp at h
  | s0 :: S, i, 0, h, hp => by
    simp only [List.getElem?_cons_zero, Option.some.injEq] at h
    subst h
    unfold resF
    rw [hp i, show Nat.beq i (i + 0) = true by simp, if_pos rfl]
    have : resF β p S (i + 1) = [] := by
      have h := resF_cut (β := β) (q := p) (S := S) (n := 0) (i := i + 1) fun j hj => by
        rw [hp j]
        exact Bool.eq_false_iff.2 fun e => by have := Nat.eq_of_beq_eq_true e; omega
      rw [h, List.take_zero]; rfl
    rw [this, List.append_nil]
  | s0 :: S, i, jx + 1, h, hp => by
    unfold resF
    rw [hp i, show Nat.beq i (i + (jx + 1)) = false from Bool.eq_false_iff.2 fun e => by have := Nat.eq_of_beq_eq_true e; omega]
    simp only [Bool.false_eq_true, if_false, List.nil_append]
    exact resF_one (i := i + 1) (jx := jx) (by simpa using h) fun k => by rw [hp k, show i + (jx + 1) = i + 1 + jx by omega]
/-- append to what an earlier operation has made, and this one takes -/
theorem ak_append {t e : TypeId} {agg : Bool} {size bytes jx n0 : Nat} {z : Value} {x y : Operand} {Vx Vy : (Nat → Value) → Value} {Ax : (Nat → Value) → List Asn} {xs : List Value} {news : List (List Value)} [hu : Und P t (.slice e)] [hT : Ty P e agg size] [hZ : Zer P e z] [hBy : Byt P e bytes] (B : List Nat)
    (hB : (B.all fun j => waitsT l ⟨some d, .call ⟨.builtin .append, #[x, y], #[t, t]⟩, ty, pos, af, none⟩ j && Nat.beq (tkOf tks j) 0) = true)
    (hS : S[jx]? = some ⟨Vx, Ax⟩) (hrow : ∀ β w fp, Sats (hp w) (Ax β) fp → (row e size (Vx β) n0 xs).sat (hp w) fp)
    (htk : ∀ k, tkOf tks k = i → k = jx) (hti : tkOf tks jx = i) (h0 : Nat.blt 0 i = true) (hwx : waitsOn ⟨some d, .call ⟨.builtin .append, #[x, y], #[t, t]⟩, ty, pos, af, none⟩ jx = true)
    (hx : ∀ β, Is (SL β) x (Vx β)) (hy : ∀ β, Is (SL β) y (Vy β)) (hsrc : ∀ β w, Borrow c hs S B β w → Rd w (Vy β) size news) (h1 : ∀ r ∈ news, ∀ u ∈ r, u.oneCell' = true) (hz : z.cells.size = size) (hsz : Nat.blt 0 size = true) (hb0 : Nat.blt 0 bytes = true)
    (hb : (n0 + news.length) * bytes ≤ 140737488355328) (hd : Nat.blt d c.nt = true)
    (k : AnyK (tkOf tks) P c D hs l Q m (i + 1) n rest (fun β => (d, β i) :: SL β) (S ++ [⟨fun β => β i, fun β => [row e size (β i) (n0 + news.length) (xs ++ news.flatten)]⟩])) :
    AnyK (tkOf tks) P c D hs l Q m i (n + 1) (⟨some d, .call ⟨.builtin .append, #[x, y], #[t, t]⟩, ty, pos, af, none⟩ :: rest) SL S := by
  refine ak_step (s := ⟨fun β => β i, fun β => [row e size (β i) (n0 + news.length) (xs ++ news.flatten)]⟩) rfl hd ⟨fun β β' h => by simp only [h i (anc_self l i)], fun β β' h => by simp only [h i (anc_self l i)], ⟨B, fun j hj => ?_, fun β a w fp0 hsl hbor hsat => ?_⟩, fun j hj _ => by rw [htk j hj]; exact hwx⟩ k
  · have := List.all_eq_true.1 hB j hj
    rw [Bool.and_eq_true] at this
    exact ⟨this.1, by simpa using this.2⟩
  rw [if_pos (by simp [Region.wanted])]
  rw [resF_one (i := 0) hS fun k => by
    rw [Nat.zero_add]
    unfold takenB
    rw [h0, Bool.true_and]
    by_cases e : k = jx
    · subst e; rw [hti]; simp
    · rw [show Nat.beq k jx = false from Bool.eq_false_iff.2 fun h => e (Nat.eq_of_beq_eq_true h)]
      exact Bool.eq_false_iff.2 fun h => e (htk k (Nat.eq_of_beq_eq_true h))] at hsat
  have hr0 := hrow β w fp0 hsat
  have hR := hsrc β w hbor
  have hvx := hx β a hsl
  have hvy := hy β a hsl
  have hlen := flat_len hR.sz
  by_cases hne : news = []
  · subst hne
    obtain ⟨aa, cap, b, o, hV, _⟩ := hR
    rw [hV] at hvy
    have hsh : (Vx β = .slice none 0 0 ∧ n0 = 0) ∨ ∃ g cap, Vx β = .slice (some ⟨g, 0, none⟩) n0 cap ∧ n0 ≤ cap := by
      obtain ⟨_, _, h1⟩ := hr0
      exact h1.imp id fun ⟨g, cap, cur, e, _, hc, _⟩ => ⟨g, cap, e, hc⟩
    have hrun : (execOp a.eval ⟨some d, .call ⟨.builtin .append, #[x, y], #[t, t]⟩, ty, pos, af, none⟩).run P w = .ok (.value (Vx β)) w := by
      have := run_append0 (P := P) (t := t) (e := e) (ty := ty) (w := w) (agg := agg) (size := size) (a := aa) (cp := cap) hsh
      simp only [List.length_nil] at hvy
      simp [execOp, resolve, invoke, builtin, hvx, hvy, this]
    unfold MRun
    rw [hrun]
    refine ⟨Vx β, by simp only [upd_at], .refl _ _, fp0, ?_, ⟨fp0, [], by simp, ?_, rfl⟩, fun b hb => .inl hb⟩
    · rw [hr0.1]; cases (Vx β).ownBlock <;> simp
    · simp only [upd_at, List.length_nil, Nat.add_zero, List.flatten_nil, List.append_nil]
      exact hr0
  · obtain ⟨aa, cap, b2, o2, hV, hcap, hmax, haa, hcc⟩ := hR
    have := haa hne
    subst this
    rw [hV] at hvy
    obtain ⟨de, ii, hde, hii, _, hsize⟩ := Ty.parts (P := P) (t := e) (agg := agg) (n := size)
    have hzero : ii.zero = some z := by have := hZ.eq; rw [hii] at this; simpa using this
    have hbytes : ii.bytes = bytes := by have := hBy.eq; rw [hii] at this; simpa using this
    have hbpos : 0 < bytes := by simpa using hb0
    have hown := row_owns hr0
    have hmaxn : n0 + news.length ≤ maxLen := by
      have : (n0 + news.length) * 1 ≤ (n0 + news.length) * bytes := Nat.mul_le_mul_left _ hbpos
      unfold maxLen; omega
    have hn : ∀ (j : Nat) (u : Value), news.flatten[j]? = some u → w.cell? ⟨b2, o2 + j, none⟩ = some u := flat_cells hcc
    have h1' : ∀ u ∈ news.flatten, u.oneCell' = true := fun u hu => by obtain ⟨r, hr, hur⟩ := List.mem_flatten.1 hu; exact h1 r hr u hur
    obtain ⟨v', w', hrun, hown', hgr, _⟩ := run_append_own (P := P) w 0 t ty e ii z size bytes hu.eq hii hzero hsize hbytes hz (by simpa using hsz) (Vx β) n0 xs hown ⟨b2, o2, none⟩ news.length cap news.flatten hlen
      (fun j u hj => by rw [addr_add]; exact hn j u hj) h1' hmaxn hb (Nat.zero_le _)
    have hloc := append_loc (P := P) (t := t) (ty := ty) hu.eq hii hzero (by rw [hsize]; exact hown) (a := ⟨b2, o2, none⟩) (m := news.length) (cp := cap) (by rw [hsize]; exact hlen) (fun j u hj => by rw [addr_add]; exact hn j u hj) h1' hmaxn (by rw [hbytes]; exact hb) hrun
    have hex : (execOp a.eval ⟨some d, .call ⟨.builtin .append, #[x, y], #[t, t]⟩, ty, pos, af, none⟩).run P w = .ok (.value v') w' := by
      simp [execOp, resolve, invoke, builtin, hvx, hvy, hrun]
    unfold MRun
    rw [hex]
    have hfp : fp0 = (Vx β).ownBlock.toList := hr0.1
    refine ⟨v', by simp only [upd_at], ⟨hgr.os, hgr.tape, hgr.output, hgr.size, fun q hq hnq => hgr.block q hq (fun he => hnq ?_)⟩, v'.ownBlock.toList, by cases v'.ownBlock <;> simp, ⟨v'.ownBlock.toList, [], (List.append_nil _).symm, by simp only [upd_at]; exact row_of_owns hown', rfl⟩, fun q hq => ?_⟩
    · rw [hfp, ← he]; simp
    · have hq' : v'.ownBlock = some q := by simpa [Option.mem_toList] using hq
      rcases hloc with h | h
      · left; rw [hfp, ← h, hq']; simp
      · right
        rw [h] at hq'
        cases hq'
        exact Nat.le_refl _
/-- a call that makes memory, and reads what earlier operations have made that no one takes -/
theorem ak_callB {ι : Type} {Φ : ι → Prop} {val : ι → Value} {own : ι → List Asn} (g : Value → ι) (hg : ∀ x, ∃ v, g v = x) {f : FuncId} {args : (Nat → Value) → List Value} (B : List Nat)
    (hB : (B.all fun j => waitsT l ⟨some d, op, ty, pos, af, none⟩ j && Nat.beq (tkOf tks j) 0) = true) (hn : (tks.all fun p => !Nat.beq p.2 i) = true)
    (hr : ∀ β, RunC P (SL β) ⟨some d, op, ty, pos, af, none⟩ f (args β)) (hd : Nat.blt d c.nt = true) (hc : ∀ β w, Borrow c hs S B β w → Gives P f (args β) w [] Φ val own)
    (k : AnyK (tkOf tks) P c D hs l Q m (i + 1) n rest (fun β => (d, val (g (β i))) :: SL β) (S ++ [⟨fun β => val (g (β i)), fun β => own (g (β i))⟩])) :
    AnyK (tkOf tks) P c D hs l Q m i (n + 1) (⟨some d, op, ty, pos, af, none⟩ :: rest) SL S := by
  refine ak_step (s := ⟨fun β => val (g (β i)), fun β => own (g (β i))⟩) rfl hd ⟨fun β β' h => by simp only [h i (anc_self l i)], fun β β' h => by simp only [h i (anc_self l i)], ⟨B, fun j hj => ?_, fun β a w fp0 hsl hbor _ => ?_⟩, fun j hj hp => (tkOf_no hn hj hp).elim⟩ k
  · have := List.all_eq_true.1 hB j hj
    rw [Bool.and_eq_true] at this
    exact ⟨this.1, by simpa using this.2⟩
  rw [if_pos (by simp [Region.wanted])]
  unfold MRun
  rw [(hr β).2 a w hsl]
  refine ⟨rfl, (hc β w hbor).mono fun e w' ⟨x, he, _, hk, fp, hn, hs', hf⟩ => ?_⟩
  obtain ⟨v, hv⟩ := hg x
  refine ⟨val x, he, v, by simp only [upd_at, hv], hk.mono (by simp), fp, hn, by simp only [upd_at, hv]; exact hs', fun b hb => ?_⟩
  rcases hf b hb with h | h
  · cases h
  · exact .inr h
theorem ak_valB {F : (Nat → Value) → Value} (hr : ∀ β, RunV P c (SL β) hs ⟨some d, op, ty, pos, af, none⟩ (F β)) (hi : Indep l i F) (hd : Nat.blt d c.nt = true) (hn : (tks.all fun p => !Nat.beq p.2 i) = true) (k : AnyK (tkOf tks) P c D hs l Q m (i + 1) n rest (fun β => (d, F β) :: SL β) (S ++ [⟨F, fun _ => []⟩])) :
    AnyK (tkOf tks) P c D hs l Q m i (n + 1) (⟨some d, op, ty, pos, af, none⟩ :: rest) SL S :=
  ak_step (s := ⟨F, fun _ => []⟩) rfl hd ⟨hi, fun _ _ _ => rfl, ⟨[], by simp, fun β a w fp0 h1 h2 _ => by
    rw [if_pos (by simp [Region.wanted])]
    unfold MRun
    rw [(hr β).2 a w h1 h2.mem]
    exact ⟨β i, by rw [upd_self], .refl _ _, [], List.nodup_nil, rfl, by simp⟩⟩, fun j hj hp => (tkOf_no hn hj hp).elim⟩ k
theorem ak_newB {V : Nat → Value} {ob : (Nat → Value) → Obj} (hr : ∀ β, RunN P c (SL β) hs ⟨some d, op, ty, pos, af, none⟩ V (ob β)) (hi : ∀ β β', (∀ k, k ≠ i → ancB l i k = true → β k = β' k) → ob β = ob β') (hd : Nat.blt d c.nt = true) (hn : (tks.all fun p => !Nat.beq p.2 i) = true)
    (k : AnyK (tkOf tks) P c D hs l Q m (i + 1) n rest (fun β => (d, V (gnat (β i))) :: SL β) (S ++ [⟨fun β => V (gnat (β i)), fun β => [blk (gnat (β i)) (ob β)]⟩])) :
    AnyK (tkOf tks) P c D hs l Q m i (n + 1) (⟨some d, op, ty, pos, af, none⟩ :: rest) SL S :=
  ak_step (s := ⟨fun β => V (gnat (β i)), fun β => [blk (gnat (β i)) (ob β)]⟩) rfl hd ⟨fun β β' h => by simp only [h i (anc_self l i)], fun β β' h => by simp only [h i (anc_self l i), hi β β' fun k _ hk => h k hk], ⟨[], by simp, fun β a w fp0 h1 h2 _ => by
    rw [if_pos (by simp [Region.wanted])]
    unfold MRun
    rw [(hr β).2 a w h1 h2.mem]
    have e : ob (upd β i (.int .i64 (w.heap.size : Int))) = ob β := hi _ _ fun k hk _ => upd_ne hk
    exact ⟨.int .i64 (w.heap.size : Int), by simp only [upd_at, gnat_of], .alloc _ _ _, [w.heap.size], by simp, ⟨[w.heap.size], [], rfl, ⟨by simp only [upd_at, gnat_of], by simp only [upd_at, gnat_of]; rw [e]; exact World.alloc_heap_new w (ob β)⟩, rfl⟩, by simp⟩⟩, fun j hj hp => (tkOf_no hn hj hp).elim⟩ k
/-- as ak_callB; what it makes speaks of what earlier operations gave -/
theorem ak_callD {ι : Type} {Φ : ι → Prop} {val : ι → Value} {own : (Nat → Value) → ι → List Asn} (g : Value → ι) (hg : ∀ x, ∃ v, g v = x) {f : FuncId} {args : (Nat → Value) → List Value} (B : List Nat)
    (hB : (B.all fun j => waitsT l ⟨some d, op, ty, pos, af, none⟩ j && Nat.beq (tkOf tks j) 0) = true) (hn : (tks.all fun p => !Nat.beq p.2 i) = true)
    (hio : ∀ β β', (∀ k, k ≠ i → ancB l i k = true → β k = β' k) → own β = own β')
    (hr : ∀ β, RunC P (SL β) ⟨some d, op, ty, pos, af, none⟩ f (args β)) (hd : Nat.blt d c.nt = true) (hc : ∀ β w, Borrow c hs S B β w → Gives P f (args β) w [] Φ val (own β))
    (k : AnyK (tkOf tks) P c D hs l Q m (i + 1) n rest (fun β => (d, val (g (β i))) :: SL β) (S ++ [⟨fun β => val (g (β i)), fun β => own β (g (β i))⟩])) :
    AnyK (tkOf tks) P c D hs l Q m i (n + 1) (⟨some d, op, ty, pos, af, none⟩ :: rest) SL S := by
  refine ak_step (s := ⟨fun β => val (g (β i)), fun β => own β (g (β i))⟩) rfl hd ⟨fun β β' h => by simp only [h i (anc_self l i)], fun β β' h => by simp only [h i (anc_self l i), hio β β' fun k _ hk => h k hk], ⟨B, fun j hj => ?_, fun β a w fp0 hsl hbor _ => ?_⟩, fun j hj hp => (tkOf_no hn hj hp).elim⟩ k
  · have := List.all_eq_true.1 hB j hj
    rw [Bool.and_eq_true] at this
    exact ⟨this.1, by simpa using this.2⟩
  rw [if_pos (by simp [Region.wanted])]
  unfold MRun
  rw [(hr β).2 a w hsl]
  refine ⟨rfl, (hc β w hbor).mono fun e w' ⟨x, he, _, hk, fp, hn, hs', hf⟩ => ?_⟩
  obtain ⟨v, hv⟩ := hg x
  have e : own (upd β i v) = own β := hio _ _ fun k hk _ => upd_ne hk
  refine ⟨val x, he, v, by simp only [upd_at, hv], hk.mono (by simp), fp, hn, by simp only [upd_at, hv, e]; exact hs', fun b hb => ?_⟩
  rcases hf b hb with h | h
  · cases h
  · exact .inr h
end
end Go.SL


/- S84 -/
namespace Go.Proofs.A1
open Go Go.SL

end Go.Proofs.A1


/- R1 -/
namespace Go.Proofs.A1
open Go Go.SL

def findS (l : List Sp) (s : ByteArray) (n : Nat) : Int := ((List.range n).find? fun i => decide ((nthS l i).nm = s)).elim (-1) (fun i => (i : Int))
theorem findS_le (l : List Sp) (s : ByteArray) (n : Nat) : decide (0 ≤ findS l s n) = knwS l n s := by
  unfold findS knwS
  cases h : (List.range n).find? fun i => decide ((nthS l i).nm = s) with
  | none =>
    have : (List.range n).any (fun i => decide ((nthS l i).nm = s)) = false := by
      rw [List.any_eq_false]
      exact List.find?_eq_none.1 h
    rw [this]; rfl
  | some i =>
    have : (List.range n).any (fun i => decide ((nthS l i).nm = s)) = true := by
      rw [List.any_eq_true]
      exact ⟨i, List.mem_of_find?_eq_some h, by simpa using List.find?_some h⟩
    rw [this]; simp
theorem findS_at {l : List Sp} {s : ByteArray} {k n : Nat} (h : ∀ i, i < k → ¬ (nthS l i).nm = s) (hk : k < n) (hs : (nthS l k).nm = s) : findS l s n = k := by
  unfold findS
  have : (List.range n).find? (fun i => decide ((nthS l i).nm = s)) = some k := by
    rw [List.find?_range_eq_some]
    exact ⟨by simpa using hs, by simpa using hk, fun i hi => by simpa using h i hi⟩
  rw [this]; rfl
theorem findS_none {l : List Sp} {s : ByteArray} {n : Nat} (h : ∀ i, i < n → ¬ (nthS l i).nm = s) : findS l s n = -1 := by
  unfold findS
  have : (List.range n).find? (fun i => decide ((nthS l i).nm = s)) = none := by
    rw [List.find?_eq_none]
    intro i hi
    simpa using h i (List.mem_range.1 hi)
  rw [this]; rfl
theorem findSQ_c {sv cv xv : Value} {b : Br} {w : World} (s : ByteArray) (n : Nat) (h1 : Rd w sv 4 (spsL b.sp)) (hone2 : cv.oneCell' = true) (hone3 : xv.oneCell' = true) (hn : n ≤ b.sp.length) :
    GivesV Tryz.prog 129 [.agg #[.int .i64 b.n, sv, cv, xv], .string s, .int .i64 n] w (.int .i64 (findS b.sp s n)) := by
  obtain ⟨a, cap, bb, o, rfl, hcap, hmax, ha, hc⟩ := h1
  rw [spsL_length] at *
  unfold maxLen at hmax
  refine givesV_of_tr Tryz.func129 rfl rfl ?_
  (refine s_r ?_; refine tr_new (rk_box (.of rfl) rfl) rfl (fun _ _ => ?_); refine a_s rfl rfl ?_; refine n_t ?_; refine tr_seq ?_; refine s_r ?_; refine a_s rfl rfl ?_; refine n_t ?_; refine tr_block ?_)
  rename_i b3 hb3
  refine tr_for (fun k : Nat => k ≤ n ∧ ∀ i, i < k → ¬ (nthS b.sp i).nm = s) (fun k => [(7, .int .i64 k), (1, .string s), (2, .int .i64 n), (3, .pointer (some ⟨b3, 0, none⟩))])
    (fun _ => [blk b3 (.cells #[.int .i64 b.n, .slice a b.sp.length cap, cv, xv] 83 (0, 0))]) (fun k => n - k) ?_ ?_
  · apply tr_start 0 ⟨by omega, fun i h => by omega⟩
    case hs1 => exact .cons rfl (.cons rfl (.cons rfl (.cons rfl .nil)))
    case ht => (try simp only [List.take_zero, List.map_nil, List.nil_append]); exact .cons .here .nil
  rintro k ⟨hk, hf⟩
  by_cases hlt : k < n
  · have ha' := ha (spsL_ne (k := k) (by omega))
    have hcell := (hc k _ (spsL_get (k := k) (by omega))).2 0 _ rfl
    (refine tr_seq ?_; refine s_r ?_; refine m_v rfl rfl ?_; refine m_v rfl rfl ?_; refine tr_val (rk_lss (.of rfl) (.of rfl)) rfl ?_; refine n_t ?_; refine c_d rfl (fun hcd => ?_) (fun _ => by omega); refine s_t ?_; refine tr_seq ?_; refine tr_block ?_; refine s_r ?_; refine f_a rfl rfl norm0_ ?_; refine tr_val (rk_load1 (.of rfl) (At.lit .here rfl)) rfl ?_; refine m_v rfl rfl ?_; refine tr_val (rk_indexAddr (.of rfl) (.of rfl) ha' (by omega) (by omega) norm1_) rfl ?_; refine f_a rfl rfl norm0_ ?_; refine tr_val (rk_load1 (.of rfl) (At.base hcell rfl)) rfl ?_; refine m_v rfl rfl ?_; refine tr_val (rk_eqls (.of rfl) (.of rfl)) rfl ?_; refine n_t ?_; refine c_d rfl (fun hcd => ?_) (fun hcd => ?_); refine s_r ?_; refine m_v rfl rfl ?_; refine a_s rfl rfl ?_; refine n_t ?_; refine tr_ret ?_; refine tr_blk_ret ?_; refine tr_then_ret ?_; refine tr_then_ret ?_; refine tr_blk_ret ?_; refine tr_then_ret ?_; refine tr_retE rfl (ends1 rfl rfl) ?_; rotate_left; refine tr_skip ?_; refine tr_blk_normal ?_; refine tr_then ?_; refine tr_region ?_; refine m_v rfl rfl ?_; refine tr_val (rk_add (.of rfl) (.of rfl) (ini (by omega))) rfl ?_; refine a_s rfl rfl ?_; refine n_t ?_; rotate_right)
    · rw [findS_at hf hlt hcd]
    · apply tr_next (k + 1) ⟨by omega, fun i hi => by
        by_cases e : i = k
        · rw [e]; exact hcd
        · exact hf i (by omega)⟩ (by omega)
      case hs1 => exact .cons rfl (.cons rfl (.cons rfl (.cons rfl .nil)))
      case ht => (try simp only [List.take_zero, List.map_nil, List.nil_append]); exact .cons .here .nil
  · obtain rfl : k = n := by omega
    (refine tr_seq ?_; refine s_r ?_; refine m_v rfl rfl ?_; refine m_v rfl rfl ?_; refine tr_val (rk_lss (.of rfl) (.of rfl)) rfl ?_; refine n_t ?_; refine c_d rfl (fun _ => by omega) (fun hcd => ?_); refine x_t ?_; refine tr_then_exit ?_; refine tr_blk_exit ?_; refine tr_then ?_; refine s_r ?_; refine a_s rfl rfl ?_; refine n_t ?_; refine tr_ret ?_; refine tr_retE rfl (ends1 rfl rfl) ?_)
    rw [findS_none hf]
theorem campQ_c {sv cv xv : Value} {b : Br} (n : Int) {w : World} (hone1 : sv.oneCell' = true) (h2 : Rd w cv 1 (ints b.cm)) (hone3 : xv.oneCell' = true) :
    GivesV Tryz.prog 130 [.agg #[.int .i64 b.n, sv, cv, xv], .int .i64 n] w (.int .i64 (campF b.cm.length n)) := by
  obtain ⟨a, cap, bb, o, rfl, hcap, hmax, ha, hc⟩ := h2
  rw [ints_length] at *
  unfold maxLen at hmax
  refine givesV_of_tr Tryz.func130 rfl rfl ?_
  (refine s_r ?_; refine tr_new (rk_box (.of rfl) rfl) rfl (fun _ _ => ?_); refine a_s rfl rfl ?_; refine n_r ?_; refine m_v rfl rfl ?_; refine tr_val (rk_lss (.of rfl) (.of rfl)) rfl ?_; refine m_v rfl rfl ?_; refine v_g rfl rfl rfl rfl ?_; refine tr_vG1 rfl rfl inferInstance (fun hg hgp => (rk_fieldAddr (.of rfl) norm0_)) rfl ?_; refine tr_vG1 rfl rfl inferInstance (fun hg hgp => (rk_load1 (.ofg hg rfl) (At.lit .here rfl))) rfl ?_; refine tr_vG1 rfl rfl inferInstance (fun hg hgp => (rk_len_slice (.ofg hg rfl))) rfl ?_; refine tr_vG1 rfl rfl inferInstance (fun hg hgp => (rk_geq (.ofg hg rfl) (.ofg hg rfl))) rfl ?_; refine tr_val (rk_pick_or (.of rfl) rfl) rfl ?_; refine tr_callV (rk_call (.of rfl) (.cons (.of rfl) (.cons (.of rfl) .nil)) inferInstance normc_) rfl (fun w' hm' => (when_q _ 10 w')) ?_; refine a_s rfl rfl ?_; refine n_t ?_; refine tr_ret ?_; refine tr_retE rfl (ends1 rfl rfl) ?_)
  rfl
def shortBr (b : Br) : Bool := (b.sp.all fun x => decide (x.nm.size ≤ 40)) && ((decide (b.sp.length ≤ 6) || decide (b.sp.length = 9)) && decide (b.cm.length ≤ 9) && decide (b.ex.length ≤ 17))
theorem shortBr_few {b : Br} (h : shortBr b = true) : b.sp.length ≤ 9 ∧ b.cm.length ≤ 9 ∧ b.ex.length ≤ 17 := by
  unfold shortBr at h
  simp only [Bool.and_eq_true, Bool.or_eq_true, decide_eq_true_eq] at h
  omega
theorem shortBr_c {sv cv xv : Value} {b : Br} {w : World} (h1 : Rd w sv 4 (spsL b.sp)) (h2 : Rd w cv 1 (ints b.cm)) (h3 : Rd w xv 2 (prsL b.ex)) :
    GivesV Tryz.prog 43 [.agg #[.int .i64 b.n, sv, cv, xv]] w (.bool (shortBr b)) := by
  obtain ⟨a, cap, bb, o, rfl, hcap, hmax, ha, hc⟩ := h1
  obtain ⟨a2, cap2, bb2, o2, rfl, hcap2, hmax2, ha2, hc2⟩ := h2
  obtain ⟨a3, cap3, bb3, o3, rfl, hcap3, hmax3, ha3, hc3⟩ := h3
  rw [spsL_length] at *
  rw [ints_length] at *
  rw [prsL_length] at *
  unfold maxLen at hmax hmax2 hmax3
  refine givesV_of_tr Tryz.func43 rfl rfl ?_
  (refine s_r ?_; refine tr_new (rk_box (.of rfl) rfl) rfl (fun _ _ => ?_); refine a_s rfl rfl ?_; refine n_t ?_; refine tr_seq ?_; refine s_r ?_; refine a_s rfl rfl ?_; refine n_t ?_; refine tr_block ?_)
  rename_i b1 hb1
  refine tr_for (fun k : Nat => k ≤ b.sp.length ∧ ∀ i (hi : i < k) (hl : i < b.sp.length), b.sp[i].nm.size ≤ 40) (fun k => [(3, .int .i64 k), (1, .pointer (some ⟨b1, 0, none⟩))])
    (fun _ => [blk b1 (.cells #[.int .i64 b.n, .slice a b.sp.length cap, .slice a2 b.cm.length cap2, .slice a3 b.ex.length cap3] 83 (0, 0))]) (fun k => b.sp.length - k) ?_ ?_
  · apply tr_start 0 ⟨Nat.zero_le _, fun i h => by omega⟩
    case hs1 => exact .cons rfl (.cons rfl .nil)
    case ht => (try simp only [List.take_zero, List.map_nil, List.nil_append]); exact .cons .here .nil
  rintro k ⟨hk, hf⟩
  by_cases hlt : k < b.sp.length
  · have ha' := ha (spsL_ne hlt)
    have hcell := (hc k _ (spsL_get hlt)).2 0 _ rfl
    have hnk := nthS_eq hlt
    rw [hnk] at hcell
    (refine tr_seq ?_; refine s_r ?_; refine m_v rfl rfl ?_; refine f_a rfl rfl norm0_ ?_; refine tr_val (rk_load1 (.of rfl) (At.lit .here rfl)) rfl ?_; refine tr_val (rk_len_slice (.of rfl)) rfl ?_; refine tr_val (rk_lss (.of rfl) (.of rfl)) rfl ?_; refine n_t ?_; refine c_d rfl (fun hcd => ?_) (fun _ => by omega); refine s_t ?_; refine tr_seq ?_; refine tr_block ?_; refine s_r ?_; refine f_a rfl rfl norm0_ ?_; refine tr_val (rk_load1 (.of rfl) (At.lit .here rfl)) rfl ?_; refine m_v rfl rfl ?_; refine tr_val (rk_indexAddr (.of rfl) (.of rfl) ha' (by omega) hcd norm1_) rfl ?_; refine f_a rfl rfl norm0_ ?_; refine tr_val (rk_load1 (.of rfl) (At.base hcell rfl)) rfl ?_; refine tr_val (rk_len_string (.of rfl)) rfl ?_; refine tr_val (rk_gtr (.of rfl) (.of rfl)) rfl ?_; refine n_t ?_; refine c_d rfl (fun hcd => ?_) (fun hcd => ?_); refine s_r ?_; refine a_s rfl rfl ?_; refine n_t ?_; refine tr_ret ?_; refine tr_blk_ret ?_; refine tr_then_ret ?_; refine tr_then_ret ?_; refine tr_blk_ret ?_; refine tr_then_ret ?_; refine tr_retE rfl (ends1 rfl rfl) ?_; rotate_left; refine tr_skip ?_; refine tr_blk_normal ?_; refine tr_then ?_; refine tr_region ?_; refine m_v rfl rfl ?_; refine tr_val (rk_add (.of rfl) (.of rfl) (ini (by omega))) rfl ?_; refine a_s rfl rfl ?_; refine n_t ?_; rotate_right)
    · have : (b.sp.all fun x => decide (x.nm.size ≤ 40)) = false := by
        rw [List.all_eq_false]
        refine ⟨b.sp[k], List.getElem_mem hlt, ?_⟩
        simp only [decide_eq_true_eq]
        omega
      rw [shortBr, this]; rfl
    · apply tr_next (k + 1) ⟨by omega, fun i hi hl => by
        by_cases e : i = k
        · subst e; omega
        · exact hf i (by omega) hl⟩ (by omega)
      case hs1 => exact .cons rfl (.cons rfl .nil)
      case ht => (try simp only [List.take_zero, List.map_nil, List.nil_append]); exact .cons .here .nil
  · obtain rfl : k = b.sp.length := by omega
    have hall : (b.sp.all fun x => decide (x.nm.size ≤ 40)) = true := by
      rw [List.all_eq_true]
      intro x hx
      obtain ⟨i, hi, rfl⟩ := List.getElem_of_mem hx
      exact decide_eq_true (hf i hi hi)
    (refine tr_seq ?_; refine s_r ?_; refine m_v rfl rfl ?_; refine f_a rfl rfl norm0_ ?_; refine tr_val (rk_load1 (.of rfl) (At.lit .here rfl)) rfl ?_; refine tr_val (rk_len_slice (.of rfl)) rfl ?_; refine tr_val (rk_lss (.of rfl) (.of rfl)) rfl ?_; refine n_t ?_; refine c_d rfl (fun _ => by omega) (fun hcd => ?_); refine x_t ?_; refine tr_then_exit ?_; refine tr_blk_exit ?_; refine tr_then ?_; refine s_r ?_; refine f_a rfl rfl norm0_ ?_; refine tr_val (rk_load1 (.of rfl) (At.lit .here rfl)) rfl ?_; refine tr_val (rk_len_slice (.of rfl)) rfl ?_; refine tr_val (rk_leq (.of rfl) (.of rfl)) rfl ?_; refine m_v rfl rfl ?_; refine tr_vG1 rfl rfl inferInstance (fun hg hgp => (rk_fieldAddr (.of rfl) norm0_)) rfl ?_; refine tr_vG1 rfl rfl inferInstance (fun hg hgp => (rk_load1 (.ofg hg rfl) (At.lit .here rfl))) rfl ?_; refine tr_vG1 rfl rfl inferInstance (fun hg hgp => (rk_len_slice (.ofg hg rfl))) rfl ?_; refine tr_vG1 rfl rfl inferInstance (fun hg hgp => (rk_eql (.ofg hg rfl) (.of rfl))) rfl ?_; refine tr_val (rk_pick_or (.of rfl) rfl) rfl ?_; refine m_v rfl rfl ?_; refine tr_vG1 rfl rfl inferInstance (fun hg hgp => (rk_fieldAddr (.of rfl) norm0_)) rfl ?_; refine tr_vG1 rfl rfl inferInstance (fun hg hgp => (rk_load1 (.ofg hg rfl) (At.lit .here rfl))) rfl ?_; refine tr_vG1 rfl rfl inferInstance (fun hg hgp => (rk_len_slice (.ofg hg rfl))) rfl ?_; refine tr_vG1 rfl rfl inferInstance (fun hg hgp => (rk_leq (.ofg hg rfl) (.of rfl))) rfl ?_; refine tr_val (rk_pick_and (.of rfl) rfl) rfl ?_; refine m_v rfl rfl ?_; refine tr_vG1 rfl rfl inferInstance (fun hg hgp => (rk_fieldAddr (.of rfl) norm0_)) rfl ?_; refine tr_vG1 rfl rfl inferInstance (fun hg hgp => (rk_load1 (.ofg hg rfl) (At.lit .here rfl))) rfl ?_; refine tr_vG1 rfl rfl inferInstance (fun hg hgp => (rk_len_slice (.ofg hg rfl))) rfl ?_; refine tr_vG1 rfl rfl inferInstance (fun hg hgp => (rk_leq (.ofg hg rfl) (.of rfl))) rfl ?_; refine tr_val (rk_pick_and (.of rfl) rfl) rfl ?_; refine a_s rfl rfl ?_; refine n_t ?_; refine tr_ret ?_; refine tr_retE rfl (ends1 rfl rfl) ?_)
    rw [shortBr, hall, Bool.true_and]
    have e1 : decide ((b.sp.length : Int) ≤ 6) = decide (b.sp.length ≤ 6) := decide_eq_decide.2 (by omega)
    have e2 : decide ((b.sp.length : Int) = 9) = decide (b.sp.length = 9) := decide_eq_decide.2 (by omega)
    have e3 : decide ((b.cm.length : Int) ≤ 9) = decide (b.cm.length ≤ 9) := decide_eq_decide.2 (by omega)
    have e4 : decide ((b.ex.length : Int) ≤ 17) = decide (b.ex.length ≤ 17) := decide_eq_decide.2 (by omega)
    rw [e1, e2, e3, e4]
end Go.Proofs.A1


/- R2 -/
namespace Go.Proofs.A1
open Go Go.SL

theorem spE_q (b : Br) (k : Nat) : firstF [nmF (nthS b.sp k).nm, whenF (decide (0 ≤ findS b.sp (nthS b.sp k).nm k)) 9, campF b.cm.length (nthS b.sp k).cp, withinF (nthS b.sp k).ln 1 100000, withinF (nthS b.sp k).vl 0 1000000] = spE b k := by
  unfold spE
  rw [findS_le]
theorem ints_nth {l : List Int} {k : Nat} (h : k < l.length) : (ints l)[k]? = some [.int .i64 l[k]] := by simp [ints, h]
set_option maxHeartbeats 2000000 in
theorem brkQ_c {b : Br} {sv cv xv : Value} {w : World} (h1 : Rd w sv 4 (spsL b.sp)) (h2 : Rd w cv 1 (ints b.cm)) (h3 : Rd w xv 2 (prsL b.ex)) :
    GivesV Tryz.prog 47 [.agg #[.int .i64 b.n, sv, cv, xv]] w (.int .i64 (brE b)) := by
  have hone1 := Rd.one h1
  have hone2 := Rd.one h2
  have hone3 := Rd.one h3
  have h1' := h1
  have h2' := h2
  have h3' := h3
  obtain ⟨a, cap, bb, o, rfl, hcap, hmax, ha, hc⟩ := h1
  obtain ⟨a2, cap2, bb2, o2, rfl, hcap2, hmax2, ha2, hc2⟩ := h2
  obtain ⟨a3, cap3, bb3, o3, rfl, hcap3, hmax3, ha3, hc3⟩ := h3
  rw [spsL_length] at *
  rw [ints_length] at *
  rw [prsL_length] at *
  unfold maxLen at hmax hmax2 hmax3
  refine givesV_of_tr Tryz.func47 rfl rfl ?_
  (refine s_r ?_; refine tr_new (rk_box (.of rfl) rfl) rfl (fun _ _ => ?_); refine a_s rfl rfl ?_; refine n_t ?_; refine tr_seq ?_; refine tr_seq ?_)
  with_reducible refine tr_draw 18 (by kernel_rfl) ?_
  (refine a_f rfl rfl norm0_ ?_; refine any_val (rk_load1 (.of rfl) (At.lit .here rfl)) rfl ?_; refine any_call (rk_call (.of rfl) (.cons (.of rfl) (.cons (.of rfl) (.cons (.of rfl) .nil))) inferInstance normc_) rfl (fun w' hm' => (range_q _ 0 100000 w')) ?_; refine a_f rfl rfl norm0_ ?_; refine any_val (rk_load1 (.of rfl) (At.lit .here rfl)) rfl ?_; refine any_val (rk_len_slice (.of rfl)) rfl ?_; refine any_val (rk_gtr (.of rfl) (.of rfl)) rfl ?_; refine any_call (rk_call (.of rfl) (.cons (.of rfl) (.cons (.of rfl) .nil)) inferInstance normc_) rfl (fun w' hm' => (when_q _ 5 w')) ?_; refine a_f rfl rfl norm0_ ?_; refine any_val (rk_load1 (.of rfl) (At.lit .here rfl)) rfl ?_; refine any_val (rk_len_slice (.of rfl)) rfl ?_; refine any_val (rk_gtr (.of rfl) (.of rfl)) rfl ?_; refine any_call (rk_call (.of rfl) (.cons (.of rfl) (.cons (.of rfl) .nil)) inferInstance normc_) rfl (fun w' hm' => (when_q _ 5 w')) ?_; refine a_f rfl rfl norm0_ ?_; refine any_val (rk_load1 (.of rfl) (At.lit .here rfl)) rfl ?_; refine any_val (rk_len_slice (.of rfl)) rfl ?_; refine any_val (rk_gtr (.of rfl) (.of rfl)) rfl ?_; refine any_call (rk_call (.of rfl) (.cons (.of rfl) (.cons (.of rfl) .nil)) inferInstance normc_) rfl (fun w' hm' => (when_q _ 5 w')) ?_)
  with_reducible refine any_end ?_
  (refine tr_new (rk_sliceLit (.cons (.of rfl) (.cons (.of rfl) (.cons (.of rfl) (.cons (.of rfl) .nil)))) rfl rfl rfl rfl) rfl (fun _ _ => ?_); refine tr_callV (rk_call (.of rfl) (.cons (.of rfl) .nil) inferInstance normc_) rfl (fun w' hm' => (first_qB (Mem.rdBlk hm' .here rfl rfl) (IntL.cons (IntL.cons (IntL.cons (IntL.cons IntL.nil)))))) ?_; refine a_s rfl rfl ?_; refine n_r ?_; refine m_v rfl rfl ?_; refine tr_val (rk_neq (.of rfl) (.of rfl)) rfl ?_; refine n_t ?_; refine c_d rfl (fun hcd => ?_) (fun hcd => ?_); refine s_r ?_; refine m_v rfl rfl ?_; refine a_s rfl rfl ?_; refine n_t ?_; refine r_t ?_; refine tr_retE rfl (ends1 rfl rfl) ?_; rotate_left; refine s_t ?_; refine tr_seq ?_; refine s_r ?_; refine a_s rfl rfl ?_; refine n_t ?_; refine tr_block ?_; rotate_right)
  · have hne : br0 b ≠ 0 := hcd
    have hE : brE b = br0 b := by simp [brE, firstF, hne]
    rw [hE]; rfl
  have hz0 : br0 b = 0 := Decidable.not_not.1 hcd
  have hz1 := hz0
  unfold br0 at hz1
  rw [firstF_zero] at hz1
  simp only [List.mem_cons, List.not_mem_nil, or_false, forall_eq_or_imp, forall_eq] at hz1
  rw [whenF_zero (by decide), whenF_zero (by decide), whenF_zero (by decide)] at hz1
  simp only [decide_eq_false_iff_not] at hz1
  have hl8 : b.sp.length ≤ 8 := by omega
  have hm8 : b.cm.length ≤ 8 := by omega
  have hx16 : b.ex.length ≤ 16 := by omega
  rename_i b1 hb1 bq hbq
  refine tr_for (ι := Nat) (fun k => k ≤ b.sp.length ∧ ∀ i, i < k → spE b i = 0) (fun k => [(4, .int .i64 k), (1, .pointer (some ⟨b1, 0, none⟩))])
    (fun _ => [blk b1 (.cells #[.int .i64 b.n, .slice a b.sp.length cap, .slice a2 b.cm.length cap2, .slice a3 b.ex.length cap3] 83 (0, 0))]) (fun k => b.sp.length - k) ?_ ?_
  · apply tr_start (0 : Nat) ⟨Nat.zero_le _, fun i h => by omega⟩
    case hs1 => exact .cons rfl (.cons rfl .nil)
    case ht => (try simp only [List.take_zero, List.map_nil, List.nil_append]); exact .cons (.there .here) .nil
  rintro k ⟨hk, hf⟩
  by_cases hlt : k < b.sp.length
  · have ha' := ha (spsL_ne hlt)
    have hcell := (hc k _ (spsL_get hlt)).2
    have heq := spE_q b k
    unfold Sp.cells at hcell
    (refine tr_seq ?_; refine s_r ?_; refine m_v rfl rfl ?_; refine f_a rfl rfl norm0_ ?_; refine tr_val (rk_load1 (.of rfl) (At.lit .here rfl)) rfl ?_; refine tr_val (rk_len_slice (.of rfl)) rfl ?_; refine tr_val (rk_lss (.of rfl) (.of rfl)) rfl ?_; refine n_t ?_; refine c_d rfl (fun hcd => ?_) (fun _ => by omega); refine s_t ?_; refine tr_seq ?_; refine tr_block ?_; refine s_r ?_; refine f_a rfl rfl norm0_ ?_; refine tr_val (rk_load1 (.of rfl) (At.lit .here rfl)) rfl ?_; refine m_v rfl rfl ?_; refine tr_val (rk_indexAddr (.of rfl) (.of rfl) ha' (by omega) hcd norm1_) rfl ?_; refine tr_val (rk_loadN (.of rfl) (Ats.base hcell rfl) rfl) rfl ?_; refine tr_new (rk_alloc rfl) rfl (fun _ _ => ?_); refine tr_store (.of rfl) (.of rfl) .here rfl rfl (okc_cons rfl (okc_cons rfl (okc_cons rfl (okc_cons rfl okc_nil)))) (lenb rfl) norm_ ?_; refine n_t ?_; refine tr_seq ?_)
    with_reducible refine tr_draw 20 (by kernel_rfl) ?_
    (refine a_f rfl rfl norm0_ ?_; refine any_val (rk_load1 (.of rfl) (At.lit .here rfl)) rfl ?_; refine any_call (rk_call (.of rfl) (.cons (.of rfl) .nil) inferInstance normc_) rfl (fun w' hm' => (nm_q _ w')) ?_; refine any_val (rk_loadB (.of rfl) (.there .here) norm_ (by rfl)) rfl ?_; refine a_f rfl rfl norm0_ ?_; refine any_val (rk_load1 (.of rfl) (At.lit .here rfl)) rfl ?_; refine a_m rfl rfl ?_; refine any_call (rk_call (.of rfl) (.cons (.of rfl) (.cons (.of rfl) (.cons (.of rfl) .nil))) inferInstance normc_) rfl (fun w' hm' => (findSQ_c _ k (Rd.keeps h1' (Mem.keeps hm')) hone2 hone3 hk)) ?_; refine any_val (rk_geq (.of rfl) (.of rfl)) rfl ?_; refine any_call (rk_call (.of rfl) (.cons (.of rfl) (.cons (.of rfl) .nil)) inferInstance normc_) rfl (fun w' hm' => (when_q _ 9 w')) ?_; refine any_val (rk_loadB (.of rfl) (.there .here) norm_ (by rfl)) rfl ?_; refine a_f rfl rfl norm0_ ?_; refine any_val (rk_load1 (.of rfl) (At.lit .here rfl)) rfl ?_; refine any_call (rk_call (.of rfl) (.cons (.of rfl) (.cons (.of rfl) .nil)) inferInstance normc_) rfl (fun w' hm' => (campQ_c _ hone1 (Rd.keeps h2' (Mem.keeps hm')) hone3)) ?_; refine a_f rfl rfl norm0_ ?_; refine any_val (rk_load1 (.of rfl) (At.lit .here rfl)) rfl ?_; refine any_call (rk_call (.of rfl) (.cons (.of rfl) (.cons (.of rfl) (.cons (.of rfl) .nil))) inferInstance normc_) rfl (fun w' hm' => (range_q _ 1 100000 w')) ?_; refine a_f rfl rfl norm0_ ?_; refine any_val (rk_load1 (.of rfl) (At.lit .here rfl)) rfl ?_; refine any_call (rk_call (.of rfl) (.cons (.of rfl) (.cons (.of rfl) (.cons (.of rfl) .nil))) inferInstance normc_) rfl (fun w' hm' => (range_q _ 0 1000000 w')) ?_)
    with_reducible refine any_end ?_
    (refine tr_new (rk_sliceLit (.cons (.of rfl) (.cons (.of rfl) (.cons (.of rfl) (.cons (.of rfl) (.cons (.of rfl) .nil))))) rfl rfl rfl rfl) rfl (fun _ _ => ?_); refine tr_callV (rk_call (.of rfl) (.cons (.of rfl) .nil) inferInstance normc_) rfl (fun w' hm' => (first_qB (Mem.rdBlk hm' .here rfl rfl) (IntL.cons (IntL.cons (IntL.cons (IntL.cons (IntL.cons IntL.nil))))))) ?_; refine a_s rfl rfl ?_; refine n_r ?_; refine m_v rfl rfl ?_; refine tr_val (rk_neq (.of rfl) (.of rfl)) rfl ?_; refine n_t ?_; refine c_d rfl (fun hcd => ?_) (fun hcd => ?_); refine s_r ?_; refine m_v rfl rfl ?_; refine a_s rfl rfl ?_; refine n_t ?_; refine tr_ret ?_; refine tr_blk_ret ?_; refine tr_then_ret ?_; refine tr_then_ret ?_; refine tr_blk_ret ?_; refine tr_then_ret ?_; refine tr_retE rfl (ends1 rfl rfl) ?_; rotate_left; refine tr_skip ?_; refine tr_blk_normal ?_; refine tr_then ?_; refine tr_region ?_; refine m_v rfl rfl ?_; refine tr_val (rk_add (.of rfl) (.of rfl) (ini (by omega))) rfl ?_; refine a_s rfl rfl ?_; refine n_t ?_; rotate_right)
    · have hne : spE b k ≠ 0 := by rw [← heq]; exact hcd
      have hb : errE (spE b) b.sp.length = spE b k := errE_bad hf hlt hne
      have hE : brE b = spE b k := by rw [brE, hz0, hb]; simp [firstF, hne]
      rw [hE, ← heq]
    · have hz : spE b k = 0 := by rw [← heq]; exact Decidable.not_not.1 hcd
      apply tr_next (k + 1) ⟨by omega, fun i hi => by
        by_cases e : i = k
        · rw [e]; exact hz
        · exact hf i (by omega)⟩ (by omega)
      case hs1 => exact .cons rfl (.cons rfl .nil)
      case ht => (try simp only [List.take_zero, List.map_nil, List.nil_append]); exact .cons (.there (.there .here)) .nil
  obtain rfl : k = b.sp.length := by omega
  have hz2 : errE (spE b) b.sp.length = 0 := errE_ok.2 hf
  (refine tr_seq ?_; refine s_r ?_; refine m_v rfl rfl ?_; refine f_a rfl rfl norm0_ ?_; refine tr_val (rk_load1 (.of rfl) (At.lit .here rfl)) rfl ?_; refine tr_val (rk_len_slice (.of rfl)) rfl ?_; refine tr_val (rk_lss (.of rfl) (.of rfl)) rfl ?_; refine n_t ?_; refine c_d rfl (fun _ => by omega) (fun hcd => ?_); refine x_t ?_; refine tr_then_exit ?_; refine tr_blk_exit ?_; refine tr_then ?_; refine tr_seq ?_; refine s_r ?_; refine a_s rfl rfl ?_; refine n_t ?_; refine tr_block ?_)
  refine tr_for (ι := Nat) (fun k => k ≤ b.cm.length ∧ ∀ i (hi : i < k) (hl : i < b.cm.length), fewF b.cm[i] = 0) (fun k => [(7, .int .i64 k), (1, .pointer (some ⟨b1, 0, none⟩))])
    (fun _ => [blk b1 (.cells #[.int .i64 b.n, .slice a b.sp.length cap, .slice a2 b.cm.length cap2, .slice a3 b.ex.length cap3] 83 (0, 0))]) (fun k => b.cm.length - k) ?_ ?_
  · apply tr_start (0 : Nat) ⟨Nat.zero_le _, fun i h => by omega⟩
    case hs1 => exact .cons rfl (.cons rfl .nil)
    case ht => (try simp only [List.take_zero, List.map_nil, List.nil_append]); exact .cons .here .nil
  rintro k ⟨hk, hfm⟩
  by_cases hlt : k < b.cm.length
  · have ha2' := ha2 (ints_ne hlt)
    have c0 : w.cell? ⟨bb2, o2 + k * 1, none⟩ = some (.int .i64 b.cm[k]) := (hc2 k _ (ints_nth hlt)).2 0 _ rfl
    (refine tr_seq ?_; refine s_r ?_; refine m_v rfl rfl ?_; refine f_a rfl rfl norm0_ ?_; refine tr_val (rk_load1 (.of rfl) (At.lit .here rfl)) rfl ?_; refine tr_val (rk_len_slice (.of rfl)) rfl ?_; refine tr_val (rk_lss (.of rfl) (.of rfl)) rfl ?_; refine n_t ?_; refine c_d rfl (fun hcd => ?_) (fun _ => by omega); refine s_t ?_; refine tr_seq ?_; refine tr_block ?_; refine s_r ?_; refine f_a rfl rfl norm0_ ?_; refine tr_val (rk_load1 (.of rfl) (At.lit .here rfl)) rfl ?_; refine m_v rfl rfl ?_; refine tr_val (rk_indexAddr (.of rfl) (.of rfl) ha2' (by omega) hcd norm1_) rfl ?_; refine tr_val (rk_load1 (.of rfl) (At.base c0 rfl)) rfl ?_; refine tr_callV (rk_call (.of rfl) (.cons (.of rfl) (.cons (.of rfl) (.cons (.of rfl) .nil))) inferInstance normc_) rfl (fun w' hm' => (range_q _ 0 8 w')) ?_; refine a_s rfl rfl ?_; refine n_r ?_; refine m_v rfl rfl ?_; refine tr_val (rk_neq (.of rfl) (.of rfl)) rfl ?_; refine n_t ?_; refine c_d rfl (fun hcd => ?_) (fun hcd => ?_); refine s_r ?_; refine m_v rfl rfl ?_; refine a_s rfl rfl ?_; refine n_t ?_; refine tr_ret ?_; refine tr_blk_ret ?_; refine tr_then_ret ?_; refine tr_then_ret ?_; refine tr_blk_ret ?_; refine tr_then_ret ?_; refine tr_retE rfl (ends1 rfl rfl) ?_; rotate_left; refine tr_skip ?_; refine tr_blk_normal ?_; refine tr_then ?_; refine tr_region ?_; refine m_v rfl rfl ?_; refine tr_val (rk_add (.of rfl) (.of rfl) (ini (by omega))) rfl ?_; refine a_s rfl rfl ?_; refine n_t ?_; rotate_right)
    · have hne : fewF b.cm[k] ≠ 0 := hcd
      have hq := firstF_hit (f := fewF) hlt (fun i hi => hfm i hi _) hne
      have hE : brE b = fewF b.cm[k] := by rw [brE, hz0, hz2, hq]; simp [firstF, hne]
      rw [hE]; rfl
    · have hz : fewF b.cm[k] = 0 := Decidable.not_not.1 hcd
      apply tr_next (k + 1) ⟨by omega, fun i hi hl => by
        by_cases e : i = k
        · subst e; exact hz
        · exact hfm i (by omega) hl⟩ (by omega)
      case hs1 => exact .cons rfl (.cons rfl .nil)
      case ht => (try simp only [List.take_zero, List.map_nil, List.nil_append]); exact .cons .here .nil
  obtain rfl : k = b.cm.length := by omega
  have hz3 : firstF (b.cm.map fewF) = 0 := firstF_nil' fun x hx => by
    obtain ⟨i, hi, rfl⟩ := List.getElem_of_mem hx
    exact hfm i hi hi
  have hE : brE b = firstF (b.ex.map (prE b.cm.length)) := by rw [brE]; exact firstF4 _ _ _ _ hz0 hz2 hz3
  rw [hE]
  (refine tr_seq ?_; refine s_r ?_; refine m_v rfl rfl ?_; refine f_a rfl rfl norm0_ ?_; refine tr_val (rk_load1 (.of rfl) (At.lit .here rfl)) rfl ?_; refine tr_val (rk_len_slice (.of rfl)) rfl ?_; refine tr_val (rk_lss (.of rfl) (.of rfl)) rfl ?_; refine n_t ?_; refine c_d rfl (fun _ => by omega) (fun hcd => ?_); refine x_t ?_; refine tr_then_exit ?_; refine tr_blk_exit ?_; refine tr_then ?_; refine tr_seq ?_; refine s_r ?_; refine a_s rfl rfl ?_; refine n_t ?_; refine tr_block ?_)
  refine tr_for (ι := Nat) (fun k => k ≤ b.ex.length ∧ ∀ i (hi : i < k) (hl : i < b.ex.length), prE b.cm.length b.ex[i] = 0) (fun k => [(9, .int .i64 k), (1, .pointer (some ⟨b1, 0, none⟩))])
    (fun _ => [blk b1 (.cells #[.int .i64 b.n, .slice a b.sp.length cap, .slice a2 b.cm.length cap2, .slice a3 b.ex.length cap3] 83 (0, 0))]) (fun k => b.ex.length - k) ?_ ?_
  · apply tr_start (0 : Nat) ⟨Nat.zero_le _, fun i h => by omega⟩
    case hs1 => exact .cons rfl (.cons rfl .nil)
    case ht => (try simp only [List.take_zero, List.map_nil, List.nil_append]); exact .cons .here .nil
  rintro k ⟨hk, hfx⟩
  by_cases hlt : k < b.ex.length
  · have ha3' := ha3 (prsL_ne hlt)
    have hcell := (hc3 k _ (prsL_get hlt)).2
    unfold prV at hcell
    (refine tr_seq ?_; refine s_r ?_; refine m_v rfl rfl ?_; refine f_a rfl rfl norm0_ ?_; refine tr_val (rk_load1 (.of rfl) (At.lit .here rfl)) rfl ?_; refine tr_val (rk_len_slice (.of rfl)) rfl ?_; refine tr_val (rk_lss (.of rfl) (.of rfl)) rfl ?_; refine n_t ?_; refine c_d rfl (fun hcd => ?_) (fun _ => by omega); refine s_t ?_; refine tr_seq ?_; refine tr_block ?_; refine s_r ?_; refine f_a rfl rfl norm0_ ?_; refine tr_val (rk_load1 (.of rfl) (At.lit .here rfl)) rfl ?_; refine m_v rfl rfl ?_; refine tr_val (rk_indexAddr (.of rfl) (.of rfl) ha3' (by omega) hcd norm1_) rfl ?_; refine tr_val (rk_loadN (.of rfl) (Ats.base hcell rfl) rfl) rfl ?_; refine tr_new (rk_alloc rfl) rfl (fun _ _ => ?_); refine tr_store (.of rfl) (.of rfl) .here rfl rfl (okc_cons rfl (okc_cons rfl okc_nil)) (lenb rfl) norm_ ?_; refine n_t ?_; refine tr_seq ?_)
    with_reducible refine tr_draw 14 (by kernel_rfl) ?_
    (refine any_val (rk_loadB (.of rfl) (.there .here) norm_ (by rfl)) rfl ?_; refine any_val (rk_indexAddrA (.of rfl) (.of rfl) (by omega) (by omega) norm1_) rfl ?_; refine any_val (rk_load1 (.of rfl) (At.lit .here rfl)) rfl ?_; refine any_call (rk_call (.of rfl) (.cons (.of rfl) (.cons (.of rfl) .nil)) inferInstance normc_) rfl (fun w' hm' => (campQ_c _ hone1 (Rd.keeps h2' (Mem.keeps hm')) hone3)) ?_; refine any_val (rk_loadB (.of rfl) (.there .here) norm_ (by rfl)) rfl ?_; refine any_val (rk_indexAddrA (.of rfl) (.of rfl) (by omega) (by omega) norm1_) rfl ?_; refine any_val (rk_load1 (.of rfl) (At.lit .here rfl)) rfl ?_; refine any_call (rk_call (.of rfl) (.cons (.of rfl) (.cons (.of rfl) .nil)) inferInstance normc_) rfl (fun w' hm' => (campQ_c _ hone1 (Rd.keeps h2' (Mem.keeps hm')) hone3)) ?_; refine any_val (rk_indexAddrA (.of rfl) (.of rfl) (by omega) (by omega) norm1_) rfl ?_; refine any_val (rk_load1 (.of rfl) (At.lit .here rfl)) rfl ?_; refine any_val (rk_indexAddrA (.of rfl) (.of rfl) (by omega) (by omega) norm1_) rfl ?_; refine any_val (rk_load1 (.of rfl) (At.lit .here rfl)) rfl ?_; refine any_val (rk_eql (.of rfl) (.of rfl)) rfl ?_; refine any_call (rk_call (.of rfl) (.cons (.of rfl) (.cons (.of rfl) .nil)) inferInstance normc_) rfl (fun w' hm' => (when_q _ 24 w')) ?_)
    with_reducible refine any_end ?_
    (refine tr_new (rk_sliceLit (.cons (.of rfl) (.cons (.of rfl) (.cons (.of rfl) .nil))) rfl rfl rfl rfl) rfl (fun _ _ => ?_); refine tr_callV (rk_call (.of rfl) (.cons (.of rfl) .nil) inferInstance normc_) rfl (fun w' hm' => (first_qB (Mem.rdBlk hm' .here rfl rfl) (IntL.cons (IntL.cons (IntL.cons IntL.nil))))) ?_; refine a_s rfl rfl ?_; refine n_r ?_; refine m_v rfl rfl ?_; refine tr_val (rk_neq (.of rfl) (.of rfl)) rfl ?_; refine n_t ?_; refine c_d rfl (fun hcd => ?_) (fun hcd => ?_); refine s_r ?_; refine m_v rfl rfl ?_; refine a_s rfl rfl ?_; refine n_t ?_; refine tr_ret ?_; refine tr_blk_ret ?_; refine tr_then_ret ?_; refine tr_then_ret ?_; refine tr_blk_ret ?_; refine tr_then_ret ?_; refine tr_retE rfl (ends1 rfl rfl) ?_; rotate_left; refine tr_skip ?_; refine tr_blk_normal ?_; refine tr_then ?_; refine tr_region ?_; refine m_v rfl rfl ?_; refine tr_val (rk_add (.of rfl) (.of rfl) (ini (by omega))) rfl ?_; refine a_s rfl rfl ?_; refine n_t ?_; rotate_right)
    · have hne : prE b.cm.length b.ex[k] ≠ 0 := hcd
      rw [firstF_hit hlt (fun i hi => hfx i hi _) hne]; rfl
    · have hz : prE b.cm.length b.ex[k] = 0 := Decidable.not_not.1 hcd
      apply tr_next (k + 1) ⟨by omega, fun i hi hl => by
        by_cases e : i = k
        · subst e; exact hz
        · exact hfx i (by omega) hl⟩ (by omega)
      case hs1 => exact .cons rfl (.cons rfl .nil)
      case ht => (try simp only [List.take_zero, List.map_nil, List.nil_append]); exact .cons (.there (.there .here)) .nil
  obtain rfl : k = b.ex.length := by omega
  (refine tr_seq ?_; refine s_r ?_; refine m_v rfl rfl ?_; refine f_a rfl rfl norm0_ ?_; refine tr_val (rk_load1 (.of rfl) (At.lit .here rfl)) rfl ?_; refine tr_val (rk_len_slice (.of rfl)) rfl ?_; refine tr_val (rk_lss (.of rfl) (.of rfl)) rfl ?_; refine n_t ?_; refine c_d rfl (fun _ => by omega) (fun hcd => ?_); refine x_t ?_; refine tr_then_exit ?_; refine tr_blk_exit ?_; refine tr_then ?_; refine s_r ?_; refine a_s rfl rfl ?_; refine n_t ?_; refine tr_ret ?_; refine tr_retE rfl (ends1 rfl rfl) ?_)
  rw [firstF_nil' fun x hx => by
    obtain ⟨i, hi, rfl⟩ := List.getElem_of_mem hx
    exact hfx i hi hi]
end Go.Proofs.A1


/- R3 -/
namespace Go.Proofs.A1
open Go Go.SL

theorem ints_c {lv : Value} {l : List Int} {w : World} (h : Rd w lv 1 (ints l)) (hl : l.length ≤ 1000) :
    Gives Tryz.prog 53 [lv] w [] (fun _ : Value => True) id (fun v => [row 3 1 v l.length (ints l).flatten]) := by
  refine gives_of_tr Tryz.func53 rfl rfl ?_
  (refine s_r ?_; refine a_s rfl rfl ?_; refine n_r ?_; refine tr_new (rk_sliceLit .nil rfl rfl rfl rfl) rfl (fun _ _ => ?_); refine m_v rfl rfl ?_)
  rename_i bq hbq
  refine tr_rowLitE (g := bq) (E := 3) (ys := []) 0 1 (by exact .here) rfl rfl rfl ?_
  skip
  with_reducible apply tr_appendR
  case hx => exact Is.of rfl
  case hy => exact Is.of rfl
  case ht => exact .here
  case hsrc => exact fun w' hm' => h.keeps hm'.keeps
  case h1 => exact ints_one l
  case hz => exact rfl
  case hsz => exact rfl
  case hb0 => exact rfl
  case hb => rw [ints_length]; omega
  case hd => rfl
  intro v'
  rw [ints_length, Nat.zero_add, List.nil_append]
  (refine a_s rfl rfl ?_; refine n_t ?_; refine tr_ret ?_)
  first | with_reducible apply tr_retM | with_reducible apply tr_endM
  case he => exact ends1 rfl rfl
  case hR =>
    intro w' hm'
    exact gives_end v' trivial (show Takes _ [row 3 1 v' l.length (ints l).flatten] _ by exact .cons .here .nil) hm' rfl
def numOk (have_ e bad want : Int) : Bool := decide (e = bad) && ((decide (bad ≠ 0) && decide (have_ = 0)) || (decide (bad = 0) && decide (have_ = want)))
theorem numOk_same (n e : Int) (h : e ≠ 0 → n = 0) : numOk n e e n = true := by
  by_cases he : e = 0
  · simp [numOk, he]
  · simp [numOk, he, h he]
theorem number_c (n e bad want : Int) (w : World) : GivesV Tryz.prog 51 [.int .i64 n, .int .i64 e, .int .i64 bad, .int .i64 want] w (.bool (numOk n e bad want)) := by
  refine givesV_of_tr Tryz.func51 rfl rfl ?_
  (refine s_r ?_; refine a_s rfl rfl ?_; refine n_r ?_; refine m_v rfl rfl ?_; refine m_v rfl rfl ?_; refine tr_val (rk_eql (.of rfl) (.of rfl)) rfl ?_; refine m_v rfl rfl ?_; refine v_g rfl rfl rfl rfl ?_; refine tr_vG1 rfl rfl inferInstance (fun hg hgp => (rk_neq (.ofg hg rfl) (.of rfl))) rfl ?_; refine tr_vG1 rfl rfl inferInstance (fun hg hgp => (rk_move (.ofg hg rfl))) rfl ?_; refine tr_vG rfl rfl inferInstance (fun hg hgp => (rk_move (.of rfl))) rfl ?_; refine tr_vG rfl rfl inferInstance (fun hg hgp => (rk_eql (.ofg hg rfl) (.of rfl))) rfl ?_; refine tr_vG1 rfl rfl inferInstance (fun hg hgp => (rk_pick_and' hg (.ofg hg rfl) rfl)) rfl ?_; refine tr_vG1 rfl rfl inferInstance (fun hg hgp => (rk_move (.ofg hg rfl))) rfl ?_; refine tr_vG rfl rfl inferInstance (fun hg hgp => (rk_move (.of rfl))) rfl ?_; refine tr_vG rfl rfl inferInstance (fun hg hgp => (rk_eql (.ofg hg rfl) (.of rfl))) rfl ?_; refine tr_vG rfl rfl inferInstance (fun hg hgp => (rk_move (.ofg hg rfl))) rfl ?_; refine tr_vG rfl rfl inferInstance (fun hg hgp => (rk_move (.of rfl))) rfl ?_; refine tr_vG rfl rfl inferInstance (fun hg hgp => (rk_move (.of rfl))) rfl ?_; refine tr_vG rfl rfl inferInstance (fun hg hgp => (rk_eql (.ofg hg rfl) (.ofg hg rfl))) rfl ?_; refine tr_vG rfl rfl inferInstance (fun hg hgp => (rk_pick_and' hg (.ofg hg rfl) rfl)) rfl ?_; refine tr_vG1 rfl rfl inferInstance (fun hg hgp => (rk_pick_or' hg (.ofg hg rfl) rfl)) rfl ?_; refine tr_val (rk_pick_and (.of rfl) rfl) rfl ?_; refine a_s rfl rfl ?_; refine n_t ?_; refine tr_ret ?_; refine tr_retE rfl (ends1 rfl rfl) ?_)
  rfl
end Go.Proofs.A1


/- R4 -/
namespace Go.Proofs.A1
open Go Go.SL

end Go.Proofs.A1


/- R5 -/
namespace Go.Proofs.A1
open Go Go.SL

end Go.Proofs.A1


/- R6 -/
namespace Go.Proofs.A1
open Go Go.SL

theorem ind0 {α : Type} {l : List Oper} {i : Nat} {v : α} : Indep l i (fun _ => v) := fun _ _ _ => rfl
theorem spsL_take {l : List Sp} {k : Nat} (h : k < l.length) : (spsL (l.take (k + 1))).flatten = (spsL (l.take k)).flatten ++ (nthS l k).cells := by
  rw [nthS_eq h, List.take_add_one, List.getElem?_eq_getElem h, spsL, List.map_append, List.flatten_append]; simp [spsL]
theorem spsL_sz (l : List Sp) : ∀ r ∈ spsL l, r.length = 4 := by
  intro r hr; obtain ⟨x, _, rfl⟩ := List.mem_map.1 hr; rfl
theorem prsL_sz (l : List (Int × Int)) : ∀ r ∈ prsL l, r.length = 2 := by
  intro r hr; obtain ⟨x, _, rfl⟩ := List.mem_map.1 hr; rfl
theorem ints_sz (l : List Int) : ∀ r ∈ ints l, r.length = 1 := by
  intro r hr; obtain ⟨x, _, rfl⟩ := List.mem_map.1 hr; rfl
set_option maxHeartbeats 2000000 in
theorem given_c {b : Br} {sv cv xv : Value} {w : World} (h1 : Rd w sv 4 (spsL b.sp)) (h2 : Rd w cv 1 (ints b.cm)) (h3 : Rd w xv 2 (prsL b.ex)) (hl1 : b.sp.length ≤ 1000) (hl2 : b.cm.length ≤ 1000) (hl3 : b.ex.length ≤ 1000) :
    Gives Tryz.prog 45 [.agg #[.int .i64 b.n, sv, cv, xv]] w [] (fun _ : Value × Value × Value => True) (fun x => .agg #[.int .i64 b.n, x.1, x.2.1, x.2.2])
      (fun x => [row 218 4 x.1 b.sp.length (spsL b.sp).flatten, row 3 1 x.2.1 b.cm.length (ints b.cm).flatten, rowE 121 2 x.2.2 b.ex.length (prsL b.ex).flatten]) := by
  have hone1 := Rd.one h1
  have hone2 := Rd.one h2
  have hone3 := Rd.one h3
  obtain ⟨a, cap, bs, os, rfl, hcap, hmax, ha, hc⟩ := h1
  rw [spsL_length] at *
  unfold maxLen at hmax
  refine gives_of_tr Tryz.func45 rfl rfl ?_
  (refine s_r ?_; refine tr_new (rk_box (.of rfl) rfl) rfl (fun _ _ => ?_); refine tr_new (rk_alloc rfl) rfl (fun _ _ => ?_); refine n_t ?_; refine tr_seq ?_)
  rename_i b1 hb1 b2 hb2
  with_reducible refine tr_drawM 11 (by kernel_rfl) ?_
  (refine am_val (fun β => (rk_fieldAddr (.of rfl) norm0_)) ind0 rfl ?_; refine am_val (fun β => (rk_load1 (.of rfl) (At.lit (.there .here) rfl))) ind0 rfl ?_; refine am_val (fun β => (rk_fieldAddr (.of rfl) norm0_)) ind0 rfl ?_; refine am_val (fun β => (rk_load1 (.of rfl) (At.lit (.there .here) rfl))) ind0 rfl ?_)
  dsimp only [Nat.zero_add, Nat.reduceAdd]
  with_reducible apply am_call (ι := Option Addr × Nat) (Φ := fun _ => True) (val := fun x => .slice x.1 b.cm.length x.2) (own := fun x => [row 3 1 (.slice x.1 b.cm.length x.2) b.cm.length (ints b.cm).flatten]) (g := gsl) (B := []) (args := fun _ => [cv])
  case hg => exact gsl_of
  case hB => rfl
  case hr => exact fun β => rk_call (.of rfl) (.cons (.of rfl) .nil) inferInstance rfl
  case hd => rfl
  case hc => exact fun β w' hb => (ints_c (h2.keeps hb.mem.keeps) hl2).slice
  dsimp only [Nat.reduceAdd]
  refine am_new (ob := fun _ => .cells #[] 121 (0, 0)) (fun β => rk_sliceLit0) (fun _ _ _ => rfl) rfl ?_
  (refine am_val (fun β => (rk_fieldAddr (.of rfl) norm0_)) ind0 rfl ?_; refine am_val (fun β => (rk_load1 (.of rfl) (At.lit (.there .here) rfl))) ind0 rfl ?_)
  dsimp only [Nat.reduceAdd]
  with_reducible apply am_append0 (kx := 5) (Vy := fun _ => xv) (news := prsL b.ex)
  case hS => rfl
  case hw => kernel_rfl
  case hx => exact fun β => .of rfl
  case hy => exact fun β => .of rfl
  case hsrc => exact fun β w' hm' => h3.keeps hm'.keeps
  case h1 => exact prsL_one _
  case hz => exact rfl
  case hsz => exact rfl
  case hb0 => exact rfl
  case hb => rw [prsL_length]; omega
  case hd => rfl
  rw [prsL_length]
  dsimp only [Nat.reduceAdd]
  with_reducible apply am_val
  case hr =>
    intro β
    exact rk_buildL (.cons (.of rfl) (.cons (.of rfl) (.cons (.of rfl) .nil))) norm_
  case hi => exact fun β β' h => by simp only [h 4 (by kernel_rfl), h 8 (by kernel_rfl)]
  case hd => rfl
  dsimp only [Nat.reduceAdd]
  refine am_new (fun β => (rk_alloc rfl)) (fun _ _ _ => rfl) rfl ?_
  refine am_end fun β => ?_
  dsimp only [resAll, List.nil_append, List.cons_append, List.append_eq, Nat.reduceAdd]
  generalize gsl (β 4) = y4
  generalize gsl (β 8) = y8
  generalize gnat (β 10) = b3
  generalize gnat (β 5) = b5
  clear β
  obtain ⟨a4, cp4⟩ := y4
  obtain ⟨a8, cp8⟩ := y8
  dsimp only
  refine left_ready (rs := [11]) (by kernel_rfl) (by simp) (List.forall_mem_cons.2 ⟨?_, fun _ h => absurd h List.not_mem_nil⟩)
  refine next_step rfl ?_
  (refine tr_store (.of rfl) (.of rfl) (.there (.there (.there .here))) rfl rfl (okc_cons rfl (okc_cons rfl (okc_cons rfl (okc_cons rfl okc_nil)))) (lenb rfl) norm_ ?_; refine n_t ?_)
  with_reducible refine left_done (by kernel_rfl) ?_
  (refine tr_then ?_; refine tr_seq ?_; refine s_r ?_; refine f_a rfl rfl norm0_ ?_; refine tr_val (rk_load1 (.of rfl) (At.lit (.there (.there (.there (.there (.there .here))))) rfl)) rfl ?_; refine tr_val (rk_len_slice (.of rfl)) rfl ?_; refine m_v rfl rfl ?_; refine n_t ?_; refine tr_block ?_)
  refine tr_rowNil 218 4 ?_
  refine tr_for (ι := Nat × Value) (fun x => x.1 ≤ b.sp.length) (fun x => [(19, .int .i64 x.1), (18, .int .i64 b.sp.length), (17, .slice a b.sp.length cap), (3, .pointer (some ⟨b3, 0, none⟩)), (2, .pointer (some ⟨b2, 0, none⟩))])
    (fun x => [row 218 4 x.2 x.1 (spsL (b.sp.take x.1)).flatten, blk b3 (.cells #[.int .i64 b.n, x.2, .slice a4 b.cm.length cp4, .slice a8 b.ex.length cp8] 91 (0, 0)), blk b2 (.cells #[.int .i64 0, .slice none 0 0, .slice none 0 0, .slice none 0 0] 91 (0, 0)), row 3 1 (.slice a4 b.cm.length cp4) b.cm.length (ints b.cm).flatten, rowE 121 2 (.slice a8 b.ex.length cp8) b.ex.length (prsL b.ex).flatten]) (fun x => b.sp.length - x.1) ?_ ?_
  · apply tr_start (0, .slice none 0 0) (Nat.zero_le _)
    case hs1 => exact .cons rfl (.cons rfl (.cons rfl (.cons rfl (.cons rfl .nil))))
    case ht =>
      show Takes _ [row 218 4 (.slice none 0 0) 0 [], blk b3 (.cells #[.int .i64 b.n, .slice none 0 0, .slice a4 b.cm.length cp4, .slice a8 b.ex.length cp8] 91 (0, 0)), _, _, _] _
      exact .cons .here (.cons .here (.cons (.there (.there (.there .here))) (.cons .here (.cons (.there .here) .nil))))
  rintro ⟨k, v⟩ hk
  dsimp only at hk ⊢
  by_cases hlt : k < b.sp.length
  · have ha' := ha (spsL_ne hlt)
    have hcell := (hc k _ (spsL_get hlt)).2
    have htk := spsL_take hlt
    unfold Sp.cells at hcell htk
    refine tr_rowSl (E := 218) (sz := 4) (by exact .here) fun av capv e => ?_
    subst e
    (refine s_r ?_; refine tr_val (rk_lss (.of rfl) (.of rfl)) rfl ?_; refine n_t ?_; refine tr_seq ?_; refine c_d rfl (fun hcd => ?_) (fun _ => by omega); refine s_t ?_; refine tr_seq ?_; refine tr_block ?_; refine s_r ?_; refine tr_val (rk_indexAddr (.of rfl) (.of rfl) ha' (by omega) hcd norm1_) rfl ?_; refine tr_val (rk_loadN (.of rfl) (Ats.base hcell rfl) rfl) rfl ?_; refine tr_new (rk_alloc rfl) rfl (fun _ _ => ?_); refine tr_store (.of rfl) (.of rfl) .here rfl rfl (okc_cons rfl (okc_cons rfl (okc_cons rfl (okc_cons rfl okc_nil)))) (lenb rfl) norm_ ?_; refine n_t ?_; refine tr_region ?_; refine f_a rfl rfl norm0_ ?_; refine tr_val (rk_load1 (.of rfl) (At.lit (.there (.there .here)) rfl)) rfl ?_; refine tr_val (rk_loadB (.of rfl) .here norm_ (by rfl)) rfl ?_; refine tr_new (rk_sliceLitN (.cons (.of rfl) .nil) rfl rfl normp_ normp_ norm_) rfl (fun _ _ => ?_))
    refine tr_appendB (.of rfl) (.of rfl) (.there (.there .here)) .here norm_ (by rfl) (okc_cons rfl (okc_cons rfl (okc_cons rfl (okc_cons rfl okc_nil)))) (by rfl) (by rfl) (by rfl) lenx_ (by rfl) ?_
    intro v'
    refine tr_rowSl (E := 218) (sz := 4) (by exact .here) fun a' cap' e => ?_
    subst e
    (refine f_a rfl rfl norm0_ ?_; refine tr_store (.of rfl) (.of rfl) (.there (.there (.there .here))) rfl rfl (okc_cons rfl okc_nil) (lenb rfl) norm_ ?_; refine tr_nil ?_; refine tr_blk_normal ?_; refine tr_then ?_; refine tr_region ?_; refine tr_val (rk_add (.of rfl) (.of rfl) (ini (by omega))) rfl ?_; refine m_v rfl rfl ?_; refine n_t ?_)
    apply tr_next (k + 1, .slice a' (k + 1) cap') (by show k + 1 ≤ b.sp.length; omega) (by show b.sp.length - (k + 1) < b.sp.length - k; omega)
    case hs1 => exact .cons rfl (.cons rfl (.cons rfl (.cons rfl (.cons rfl .nil))))
    case ht =>
      show Takes _ [row 218 4 (.slice a' (k + 1) cap') (k + 1) (spsL (b.sp.take (k + 1))).flatten, blk b3 (.cells #[.int .i64 b.n, .slice a' (k + 1) cap', .slice a4 b.cm.length cp4, .slice a8 b.ex.length cp8] 91 (0, 0)), _, _, _] _
      rw [htk]
      exact .cons (.there .here) (.cons .here (.cons (.there (.there .here)) (.cons (.there (.there .here)) (.cons (.there (.there .here)) .nil))))
  obtain rfl : k = b.sp.length := by omega
  rw [List.take_length]
  refine tr_rowSl (E := 218) (sz := 4) (by exact .here) fun a' cap' e => ?_
  subst e
  (refine s_r ?_; refine tr_val (rk_lss (.of rfl) (.of rfl)) rfl ?_; refine n_t ?_; refine tr_seq ?_; refine c_d rfl (fun _ => by omega) (fun hcd => ?_); refine x_t ?_; refine tr_then_exit ?_; refine tr_blk_exit ?_; refine tr_then ?_; refine s_r ?_; refine tr_val (rk_loadB (.of rfl) (.there .here) norm_ (by rfl)) rfl ?_; refine tr_store (.of rfl) (.of rfl) (.there (.there .here)) rfl rfl (okc_cons rfl (okc_cons rfl (okc_cons rfl (okc_cons rfl okc_nil)))) (lenb rfl) norm_ ?_; refine n_t ?_; refine tr_ret ?_)
  first | with_reducible apply tr_retM | with_reducible apply tr_endM
  case he => exact ends1cB rfl inferInstance rfl .here norm_ (by rfl)
  case hR =>
    intro w' hm'
    exact gives_end (.slice a' b.sp.length cap', .slice a4 b.cm.length cp4, .slice a8 b.ex.length cp8) trivial (show Takes _ [row 218 4 (.slice a' b.sp.length cap') b.sp.length (spsL b.sp).flatten, row 3 1 (.slice a4 b.cm.length cp4) b.cm.length (ints b.cm).flatten, rowE 121 2 (.slice a8 b.ex.length cp8) b.ex.length (prsL b.ex).flatten] _ by exact .cons (.there .here) (.cons (.there (.there .here)) (.cons (.there (.there .here)) .nil))) hm' rfl
end Go.Proofs.A1

