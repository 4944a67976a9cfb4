/- Parts of slices. -/
import Derived.Test.YtahcjhdepdhipaaGkRange
import Derived.Laws.Slices
set_option linter.unusedSectionVars false
set_option linter.unusedVariables false
set_option linter.unusedSimpArgs false
namespace Go.SL
open Go
section
variable {P : Program} {c : Cx} {sl : Slots} {hs : List Asn} {dst : Option Tmp} {ty : TypeId} {pos : String} {af : Array Edge} {g : Option (Nat × Bool)}

theorem elem_of {t e : TypeId} (hu : Und P t (.slice e)) : P.elem t = e := by simp [Program.elem, hu.eq]
theorem slice_und {t e : TypeId} (hu : Und P t (.slice e)) : P.underlying t = some (.slice (P.elem t)) := by rw [elem_of hu]; exact hu.eq
theorem value_of {i : Sem Value} {v : Value} {w : World} (h : i.run P w = .ok v w) : (do let x ← i; pure (Next.value x) : Sem Next).run P w = .ok (.value v) w := by
  rw [Sem.run_bind, h]; rfl

theorem rk_slice_h {t e : TypeId} {n : Nat} {agg : Bool} {x y : Operand} {a : Option Addr} {len cap : Nat} {k : IntKind} {h : Int} [hu : Und P t (.slice e)] [Ty P e agg n] (hx : Is sl x (.slice a len cap)) (hy : Is sl y (.int k h)) (h0 : 0 ≤ h) (h1 : h ≤ cap) :
    RunV P c sl hs ⟨dst, .slice t x none (some y) none, ty, pos, af, g⟩ (sliced a 0 h.toNat cap n) :=
  ⟨by simp, fun ac w ha _ => by
    have := run_slice_h (P := P) w t a len cap (slice_und hu) k h h0 h1
    simp only [execOp, hx ac ha, hy ac ha, Option.map]
    refine value_of ?_
    rw [run_sliceAt_slice _ _ _ _ _ _ (slice_und hu), this, elem_of hu, rk_sizeOf (n := n) (agg := agg)]
    rfl⟩
theorem rk_slice_l {t e : TypeId} {n : Nat} {agg : Bool} {x y : Operand} {a : Option Addr} {len cap : Nat} {k : IntKind} {h : Int} [hu : Und P t (.slice e)] [Ty P e agg n] (hx : Is sl x (.slice a len cap)) (hy : Is sl y (.int k h)) (h0 : 0 ≤ h) (h1 : h ≤ len) :
    RunV P c sl hs ⟨dst, .slice t x (some y) none none, ty, pos, af, g⟩ (sliced a h.toNat len cap n) :=
  ⟨by simp, fun ac w ha _ => by
    have := run_slice_l (P := P) w t a len cap (slice_und hu) k h h0 h1
    simp only [execOp, hx ac ha, hy ac ha, Option.map]
    refine value_of ?_
    rw [run_sliceAt_slice _ _ _ _ _ _ (slice_und hu), this, elem_of hu, rk_sizeOf (n := n) (agg := agg)]
    rfl⟩
theorem rk_slice_lh {t e : TypeId} {n : Nat} {agg : Bool} {x y z : Operand} {a : Option Addr} {len cap : Nat} {k k' : IntKind} {l h : Int} [hu : Und P t (.slice e)] [Ty P e agg n] (hx : Is sl x (.slice a len cap)) (hy : Is sl y (.int k l)) (hz : Is sl z (.int k' h)) (h0 : 0 ≤ l) (h1 : l ≤ h) (h2 : h ≤ cap) :
    RunV P c sl hs ⟨dst, .slice t x (some y) (some z) none, ty, pos, af, g⟩ (sliced a l.toNat h.toNat cap n) :=
  ⟨by simp, fun ac w ha _ => by
    have := run_slice_lh (P := P) w t a len cap (slice_und hu) k k' l h h0 h1 h2
    simp only [execOp, hx ac ha, hy ac ha, hz ac ha, Option.map]
    refine value_of ?_
    rw [run_sliceAt_slice _ _ _ _ _ _ (slice_und hu), this, elem_of hu, rk_sizeOf (n := n) (agg := agg)]
    rfl⟩

theorem rk_loadB {t : TypeId} {n : Nat} {x : Operand} {b o : Nat} {cs vs : List Value} {E : TypeId} {fz : Nat × Nat} {hs' : List Asn} [Ty P t true n] (hx : Is sl x (.pointer (some ⟨b, o, none⟩))) (ht : Take hs (SL.blk b (.cells cs.toArray E fz)) hs') (hv : cellsAt cs o n = vs) (hl : vs.length = n) :
    RunV P c sl hs ⟨dst, .load t x, ty, pos, af, g⟩ (.agg vs.toArray) := rk_loadN hx (Ats.blk ht hv) hl

theorem tr_appendB {r : Option Nat} {D : List Nat} {ops : Array Oper} {Q : Exit → Act → World → Prop} {d : Nat} {rest : List Oper} {hs' hs2 : List Asn} {t e : TypeId} {agg : Bool} {size bytes : Nat} {z : Value} {x y : Operand} {v : Value} {n b o m cp : Nat} {xs news cs : List Value} {E : TypeId} {fz : Nat × Nat} [Und P t (.slice e)] [Ty P e agg size] [Zer P e z] [Byt P e bytes]
    (hx : Is sl x v) (hy : Is sl y (.slice (some ⟨b, o, none⟩) m cp)) (ht : Take hs (row e size v n xs) hs') (ht2 : Take hs (SL.blk b (.cells cs.toArray E fz)) hs2) (hv : cellsAt cs o (m * size) = news) (hl : news.length = m * size) (h1 : ∀ u ∈ news, u.oneCell' = true) (hz : z.cells.size = size) (hsz : Nat.blt 0 size = true) (hb0 : Nat.blt 0 bytes = true)
    (hb : (n + m) * bytes ≤ 140737488355328) (hd : Nat.blt d c.nt = true)
    (k : ∀ v', Tr c D ((d, v') :: sl) (row e size v' (n + m) (xs ++ news) :: hs') (WL P r ops Q rest)) :
    Tr c D sl hs (WL P r ops Q (⟨some d, .call ⟨.builtin .append, #[x, y], #[t, t]⟩, ty, pos, af, none⟩ :: rest)) :=
  tr_append hx hy ht (Ats.blk ht2 hv) hl h1 hz hsz hb0 hb hd k

theorem ends1cB {fn : Func} {t : Tmp} {T : TypeId} {b o n : Nat} {cs vs : List Value} {E : TypeId} {fz : Nat × Nat} {hs' : List Asn} (h : fn.results = #[.cell t T]) (hT : Ty P T true n) (hp : sget sl t = some (.pointer (some ⟨b, o, none⟩))) (ht : Take hs (SL.blk b (.cells cs.toArray E fz)) hs') (hv : cellsAt cs o n = vs) (hl : vs.length = n) : Ends P fn c sl hs (.agg vs.toArray) :=
  ends1cN h hp (Ats.blk ht hv) hl

/-- a guarded operation whose guard's value is known -/
theorem tr_gOn {r : Option Nat} {D : List Nat} {ops : Array Oper} {Q : Exit → Act → World → Prop} {d : Option Tmp} {op : Op} {rest : List Oper} {j gs : Nat} {want : Bool} (hj : ((ops[j]?).bind (·.dst)) = some gs) (hq : sget sl gs = some (.bool want))
    (k : Tr c D sl hs (WL P r ops Q (⟨d, op, ty, pos, af, none⟩ :: rest))) : Tr c D sl hs (WL P r ops Q (⟨d, op, ty, pos, af, some (j, want)⟩ :: rest)) := fun a w hst => by
  have h := k a w hst
  unfold WL at h ⊢
  rw [if_pos (by simp [Region.wanted])] at h
  rw [wanted_gv (o := ⟨d, op, ty, pos, af, some (j, want)⟩) (c0 := true) rfl hj hst.slots (by rw [hq]; rfl), if_pos (by simp)]
  exact h
theorem tr_gOff {r : Option Nat} {D : List Nat} {ops : Array Oper} {Q : Exit → Act → World → Prop} {d : Nat} {op : Op} {rest : List Oper} {j gs : Nat} {want : Bool} (hj : ((ops[j]?).bind (·.dst)) = some gs) (hq : sget sl gs = some (.bool (!want))) (hd : Nat.blt d c.nt = true)
    (k : Tr c D ((d, undef) :: sl) hs (WL P r ops Q rest)) : Tr c D sl hs (WL P r ops Q (⟨some d, op, ty, pos, af, some (j, want)⟩ :: rest)) := fun a w hst => by
  unfold WL
  rw [wanted_gv (o := ⟨some d, op, ty, pos, af, some (j, want)⟩) (c0 := true) rfl hj hst.slots (by rw [hq]; rfl), if_neg (by cases want <;> simp)]
  exact k _ _ (hst.put (by simpa [Nat.blt_eq] using hd) undef)

theorem Rd.sliced {w : World} {a : Option Addr} {len cap sz : Nat} {xs : List (List Value)} (h : Rd w (.slice a len cap) sz xs) {l m : Nat} (hl : l ≤ m) (hm : m ≤ len) : Rd w (Go.sliced a l m cap sz) sz ((xs.take m).drop l) := by
  obtain ⟨a', cap', b, o, e, h1, h2, h3, h4⟩ := h
  cases e
  have e : ((xs.take m).drop l).length = m - l := by simp; omega
  by_cases hc : cap = l
  · refine ⟨a, cap - l, b, o, ?_, by omega, by omega, fun hn => ?_, fun i r hr => ?_⟩
    · simp [Go.sliced, hc, e]
    · exact absurd (List.eq_nil_of_length_eq_zero (by omega)) hn
    · have := (List.getElem?_eq_some_iff.1 hr).1; omega
  · refine ⟨a.map (·.add (l * sz)), cap - l, b, o + l * sz, ?_, by omega, by omega, fun hn => ?_, fun i r hr => ?_⟩
    · simp [Go.sliced, hc, e]
    · have hx : xs ≠ [] := by intro e; subst e; simp at hn
      rw [h3 hx]
      by_cases e0 : l * sz = 0
      · simp [Addr.add, e0]
      · simp [Addr.add, e0]
    · rw [List.getElem?_drop, List.getElem?_take] at hr
      split at hr
      · obtain ⟨q1, q2⟩ := h4 _ _ hr
        refine ⟨q1, fun j u hu => ?_⟩
        have := q2 j u hu
        rw [show o + l * sz + i * sz + j = o + (l + i) * sz + j by rw [Nat.add_mul]; omega]
        exact this
      · simp at hr
end
end Go.SL
