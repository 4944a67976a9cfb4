/- Part of the proof: C3. -/
import Derived.Test.YtahcjhdepdhipaaC2
import Derived.Test.YtahcjhdepdhipaaGkFin
set_option linter.unusedSectionVars false
set_option linter.unusedVariables false
set_option linter.unusedSimpArgs false
namespace Go.Proofs.A1
open Go Go.SL

/-- a net in memory -/
structure NetM (w : World) (nv ev : Value) (ns : List ByteArray) (es : List Ed) : Prop where
  n : Rd w nv 1 (strs ns)
  e : Rd w ev 4 (edgesL es)
theorem NetM.keeps {w w' : World} {nv ev : Value} {ns : List ByteArray} {es : List Ed} (h : NetM w nv ev ns es) (k : Keeps [] w w') : NetM w' nv ev ns es := ⟨h.n.keeps k, h.e.keeps k⟩

theorem seenL_five (s : S) (v : Nat) : ∃ x0 x1 x2 x4, seenL s v = [x0, x1, x2, .int .i64 (times s v), x4] ∧ ∀ u ∈ [x0, x1, x2, x4], u.oneCell' = true := by
  unfold seenL times
  cases s.lab v with
  | none => exact ⟨_, _, _, _, rfl, by intro u hu; simp only [List.mem_cons, List.not_mem_nil, or_false] at hu; rcases hu with rfl | rfl | rfl | rfl <;> rfl⟩
  | some y =>
    cases s.par v with
    | none => exact ⟨_, _, _, _, rfl, by intro u hu; simp only [List.mem_cons, List.not_mem_nil, or_false] at hu; rcases hu with rfl | rfl | rfl | rfl <;> rfl⟩
    | some a => exact ⟨_, _, _, _, rfl, by intro u hu; simp only [List.mem_cons, List.not_mem_nil, or_false] at hu; rcases hu with rfl | rfl | rfl | rfl <;> rfl⟩
theorem seenL_one (s : S) (v : Nat) : ∀ u ∈ seenL s v, u.oneCell' = true := by
  obtain ⟨x0, x1, x2, x4, e, h⟩ := seenL_five s v
  rw [e]
  intro u hu
  simp only [List.mem_cons, List.not_mem_nil, or_false] at hu
  rcases hu with rfl | rfl | rfl | rfl | rfl
  · exact h _ (by simp)
  · exact h _ (by simp)
  · exact h _ (by simp)
  · rfl
  · exact h _ (by simp)
set_option maxHeartbeats 4000000 in
theorem plan_no {nv ev : Value} {ns : List ByteArray} {es : List Ed} {V : Nat} {w : World} (h : NetM w nv ev ns es) (h0 : netF ns es = 0) (hV : ns.length = V) (g : Good V es) (hE : es.length ≤ 24) {x : Nat} (hlg : (longest (lvs es V) V 0).2 = some x) :
    GivesV Try.prog 7 [.agg #[nv, ev]] w (.tuple #[.slice none 0 0, .int .i64 18]) := by
  have g1 := g.pos
  have g2 := g.most
  refine givesV_of_tr Try.func7 rfl rfl ?_
  (refine tr_seq ?_; refine tr_region ?_; refine tr_new (rk_box (Is.of rfl) rfl) rfl (fun _ _ => ?_); refine tr_val (rk_assign (Is.of rfl)) rfl ?_; refine tr_val (rk_assign (Is.of rfl)) rfl ?_; refine tr_nil ?_; refine tr_then ?_; refine tr_seq ?_; refine tr_seq ?_; refine tr_region ?_; refine tr_val (rk_loadB (Is.of rfl) Take.here norm_ (by rfl)) rfl ?_)
  with_reducible apply tr_callV
  case hr => exact rk_call (Is.of rfl) (Iss.cons (Is.of rfl) Iss.nil) inferInstance normc_
  case hd => rfl
  case hc =>
    intro w' hm'
    exact checkNet_c nv ev ns es w' (h.n.keeps hm'.keeps) (h.e.keeps hm'.keeps)
  rw [h0]
  (refine tr_val (rk_assign (Is.of rfl)) rfl ?_; refine tr_nil ?_; refine tr_then ?_; refine tr_seq ?_; refine tr_region ?_; refine tr_val (rk_move (Is.of rfl)) rfl ?_; refine tr_val (rk_neq (Is.of rfl) (Is.of rfl)) rfl ?_; refine tr_nil ?_; refine tr_then ?_; refine tr_cond_d (Is.of rfl) (fun hcd => (by omega)) (fun hcd => ?_); refine tr_skip ?_; refine tr_then ?_; refine tr_seq ?_; refine tr_region ?_; refine tr_val (rk_loadB (Is.of rfl) Take.here norm_ (by rfl)) rfl ?_)
  with_reducible apply tr_call
  case hr => exact rk_call (Is.of rfl) (Iss.cons (Is.of rfl) (Iss.cons (Is.of rfl) Iss.nil)) inferInstance normc_
  case hd => rfl
  case ht => exact Takes.nil
  case hc =>
    intro w1 fp hm1 _ hs1
    obtain rfl : fp = [] := hs1
    exact long_c (f := 0) (h.n.keeps hm1.keeps) (h.e.keeps hm1.keeps) hV g hE g1
  intro bl _
  dsimp only [List.cons_append, List.nil_append]
  rw [hlg]
  dsimp only [Option.isSome]
  (refine tr_val (rk_move (Is.of rfl)) rfl ?_; refine tr_val (rk_extract (Is.of rfl) rfl) rfl ?_; refine tr_val (rk_extract (Is.of rfl) rfl) rfl ?_; refine tr_val (rk_extract (Is.of rfl) rfl) rfl ?_; refine tr_val (rk_assign (Is.of rfl)) rfl ?_; refine tr_val (rk_assign (Is.of rfl)) rfl ?_; refine tr_val (rk_assign (Is.of rfl)) rfl ?_; refine tr_nil ?_; refine tr_then ?_; refine tr_seq ?_; refine tr_seq ?_; refine tr_region ?_; refine tr_val (rk_move (Is.of rfl)) rfl ?_; refine tr_nil ?_; refine tr_then ?_; refine tr_cond_t (Is.of rfl) ?_; refine tr_seq ?_; refine tr_region ?_; refine tr_val (rk_assign (Is.of rfl)) rfl ?_; refine tr_val (rk_assign (Is.of rfl)) rfl ?_; refine tr_nil ?_; refine tr_then ?_; refine tr_ret ?_; refine tr_then_ret ?_; refine tr_retE rfl (ends2 rfl rfl rfl) ?_)
  rfl
set_option maxHeartbeats 4000000 in
theorem plan_yes {nv ev : Value} {ns : List ByteArray} {es : List Ed} {V : Nat} {w : World} (h : NetM w nv ev ns es) (h0 : netF ns es = 0) (hV : ns.length = V) (g : Good V es) (hE : es.length ≤ 24) (hlg : (longest (lvs es V) V 0).2 = none) :
    Gives Try.prog 7 [.agg #[nv, ev]] w [] (fun _ : Value => True) (fun v => .tuple #[v, .int .i64 0]) (fun v => [row 3 1 v V (((List.range V).map (times (longest (lvs es V) V 0).1)).map (.int .i64))]) := by
  have g1 := g.pos
  have g2 := g.most
  refine gives_of_tr Try.func7 rfl rfl ?_
  (refine tr_seq ?_; refine tr_region ?_; refine tr_new (rk_box (Is.of rfl) rfl) rfl (fun _ _ => ?_); refine tr_val (rk_assign (Is.of rfl)) rfl ?_; refine tr_val (rk_assign (Is.of rfl)) rfl ?_; refine tr_nil ?_; refine tr_then ?_; refine tr_seq ?_; refine tr_seq ?_; refine tr_region ?_; refine tr_val (rk_loadB (Is.of rfl) Take.here norm_ (by rfl)) rfl ?_)
  with_reducible apply tr_callV
  case hr => exact rk_call (Is.of rfl) (Iss.cons (Is.of rfl) Iss.nil) inferInstance normc_
  case hd => rfl
  case hc =>
    intro w' hm'
    exact checkNet_c nv ev ns es w' (h.n.keeps hm'.keeps) (h.e.keeps hm'.keeps)
  rw [h0]
  (refine tr_val (rk_assign (Is.of rfl)) rfl ?_; refine tr_nil ?_; refine tr_then ?_; refine tr_seq ?_; refine tr_region ?_; refine tr_val (rk_move (Is.of rfl)) rfl ?_; refine tr_val (rk_neq (Is.of rfl) (Is.of rfl)) rfl ?_; refine tr_nil ?_; refine tr_then ?_; refine tr_cond_d (Is.of rfl) (fun hcd => (by omega)) (fun hcd => ?_); refine tr_skip ?_; refine tr_then ?_; refine tr_seq ?_; refine tr_region ?_; refine tr_val (rk_loadB (Is.of rfl) Take.here norm_ (by rfl)) rfl ?_)
  with_reducible apply tr_call
  case hr => exact rk_call (Is.of rfl) (Iss.cons (Is.of rfl) (Iss.cons (Is.of rfl) Iss.nil)) inferInstance normc_
  case hd => rfl
  case ht => exact Takes.nil
  case hc =>
    intro w1 fp hm1 _ hs1
    obtain rfl : fp = [] := hs1
    exact long_c (f := 0) (h.n.keeps hm1.keeps) (h.e.keeps hm1.keeps) hV g hE g1
  intro bl _
  dsimp only [List.cons_append, List.nil_append]
  rw [hlg]
  dsimp only [Option.isSome]
  (refine tr_val (rk_move (Is.of rfl)) rfl ?_; refine tr_val (rk_extract (Is.of rfl) rfl) rfl ?_; refine tr_val (rk_extract (Is.of rfl) rfl) rfl ?_; refine tr_val (rk_extract (Is.of rfl) rfl) rfl ?_; refine tr_val (rk_assign (Is.of rfl)) rfl ?_; refine tr_val (rk_assign (Is.of rfl)) rfl ?_; refine tr_val (rk_assign (Is.of rfl)) rfl ?_; refine tr_nil ?_; refine tr_then ?_; refine tr_seq ?_; refine tr_seq ?_; refine tr_region ?_; refine tr_val (rk_move (Is.of rfl)) rfl ?_; refine tr_nil ?_; refine tr_then ?_; refine tr_cond_f (Is.of rfl) ?_; refine tr_skip ?_; refine tr_then ?_; refine tr_seq ?_; refine tr_region ?_; refine tr_val (rk_move (Is.of rfl)) rfl ?_)
  with_reducible apply tr_call
  case hr => exact rk_call (Is.of rfl) (Iss.cons (Is.of rfl) (Iss.cons (Is.of rfl) Iss.nil)) inferInstance normc_
  case hd => rfl
  case ht => exact Takes.nil
  case hc =>
    intro w1 fp hm1 _ hs1
    obtain rfl : fp = [] := hs1
    have hm' := hm1
    refine mapped19 (f := 20) (first := []) (cap := []) (rows := (List.range V).map (seenL (longest (lvs es V) V 0).1)) (img := (List.range V).map (times (longest (lvs es V) V 0).1)) (Mem.rdTab hm' (by exact Take.here) (fun i _ => seenL_length _ i) (by unfold maxLen; omega)) rfl (by simp) (by simp; omega) ?_ ?_
    · intro r hr u hu
      obtain ⟨i, _, rfl⟩ := List.mem_map.1 hr
      exact seenL_one _ _ u hu
    · intro i r e hr he w' _
      simp only [List.getElem?_map, Option.map_eq_some_iff] at hr he
      obtain ⟨j, hj, rfl⟩ := hr
      obtain ⟨j', hj', rfl⟩ := he
      rw [hj] at hj'; cases hj'
      obtain ⟨x0, x1, x2, x4, e, h⟩ := seenL_five (longest (lvs es V) V 0).1 j
      rw [e]
      exact sum20 x0 x1 x2 x4 _ w' h
  intro v _
  dsimp only [id_eq, List.cons_append, List.nil_append]
  have hlen : ((List.range V).map (seenL (longest (lvs es V) V 0).1)).length = V := by simp
  rw [hlen]
  (refine tr_val (rk_assign (Is.of rfl)) rfl ?_; refine tr_val (rk_assign (Is.of rfl)) rfl ?_; refine tr_nil ?_; refine tr_then ?_; refine tr_ret ?_)
  first | with_reducible apply tr_retM | with_reducible apply tr_endM
  case he => exact ends2 rfl rfl rfl
  case hR =>
    intro w' hm'
    exact gives_end v trivial (show Takes _ [row 3 1 v V (((List.range V).map (times (longest (lvs es V) V 0).1)).map (.int .i64))] _ by exact Takes.cons Take.here Takes.nil) hm' rfl
end Go.Proofs.A1
