/- Part of the proof: D2. -/
import Derived.Test.YtahcjhdepdhipaaD1
import Derived.Test.YtahcjhdepdhipaaGkFin
set_option linter.unusedSectionVars false
set_option linter.unusedVariables false
set_option linter.unusedSimpArgs false
namespace Go.Proofs.A1
open Go Go.SL

set_option maxHeartbeats 4000000 in
theorem loop_no {nv ev : Value} {ns : List ByteArray} {es : List Ed} {V : Nat} {w : World} (h : NetM w nv ev ns es) (h0 : netF ns es = 0) (hV : ns.length = V) (g : Good V es) (hE : es.length ≤ 24) (hlg : (longest (lvs es V) V 0).2 = none) :
    GivesV Try.prog 9 [.agg #[nv, ev]] w (.tuple #[.slice none 0 0, .int .i64 7]) := by
  have g1 := g.pos
  have g2 := g.most
  refine givesV_of_tr Try.func9 rfl rfl ?_
  (refine tr_seq ?_; refine tr_region ?_; refine tr_new (rk_box (Is.of rfl) rfl) rfl (fun _ _ => ?_); refine tr_val (rk_assign (Is.of rfl)) rfl ?_; refine tr_val (rk_assign (Is.of rfl)) rfl ?_; refine tr_nil ?_; refine tr_then ?_; refine tr_scope ?_; refine tr_seq ?_; refine tr_seq ?_; refine tr_region ?_; refine tr_val (rk_loadB (Is.of rfl) Take.here norm_ (by rfl)) rfl ?_)
  with_reducible apply tr_callV
  case hr => exact rk_call (Is.of rfl) (Iss.cons (Is.of rfl) Iss.nil) inferInstance normc_
  case hd => rfl
  case hc =>
    intro w' hm'
    exact checkNet_c nv ev ns es w' (h.n.keeps hm'.keeps) (h.e.keeps hm'.keeps)
  rw [h0]
  (refine tr_val (rk_assign (Is.of rfl)) rfl ?_; refine tr_nil ?_; refine tr_then ?_; refine tr_seq ?_; refine tr_region ?_; refine tr_val (rk_move (Is.of rfl)) rfl ?_; refine tr_val (rk_neq (Is.of rfl) (Is.of rfl)) rfl ?_; refine tr_nil ?_; refine tr_then ?_; refine tr_cond_d (Is.of rfl) (fun hcd => (by omega)) (fun hcd => ?_); refine tr_skip ?_; refine tr_then ?_; refine tr_seq ?_; refine tr_region ?_; refine tr_val (rk_loadB (Is.of rfl) Take.here norm_ (by rfl)) rfl ?_)
  with_reducible apply tr_call
  case hr => exact rk_call (Is.of rfl) (Iss.cons (Is.of rfl) (Iss.cons (Is.of rfl) Iss.nil)) inferInstance normc_
  case hd => rfl
  case ht => exact Takes.nil
  case hc =>
    intro w1 fp hm1 _ hs1
    obtain rfl : fp = [] := hs1
    exact long_c (f := 0) (h.n.keeps hm1.keeps) (h.e.keeps hm1.keeps) hV g hE g1
  intro bl _
  dsimp only [List.cons_append, List.nil_append]
  rw [hlg]
  dsimp only [Option.isSome]
  (refine tr_val (rk_move (Is.of rfl)) rfl ?_; refine tr_val (rk_extract (Is.of rfl) rfl) rfl ?_; refine tr_val (rk_extract (Is.of rfl) rfl) rfl ?_; refine tr_val (rk_extract (Is.of rfl) rfl) rfl ?_; refine tr_val (rk_assign (Is.of rfl)) rfl ?_; refine tr_val (rk_assign (Is.of rfl)) rfl ?_; refine tr_val (rk_assign (Is.of rfl)) rfl ?_; refine tr_nil ?_; refine tr_then ?_; refine tr_seq ?_; refine tr_seq ?_; refine tr_region ?_; refine tr_val (rk_move (Is.of rfl)) rfl ?_; refine tr_val (rk_not (Is.of rfl)) rfl ?_; refine tr_nil ?_; refine tr_then ?_; refine tr_cond_t (Is.of rfl) ?_; refine tr_seq ?_; refine tr_region ?_; refine tr_val (rk_assign (Is.of rfl)) rfl ?_; refine tr_val (rk_assign (Is.of rfl)) rfl ?_; refine tr_nil ?_; refine tr_then ?_; refine tr_ret ?_; refine tr_then_ret ?_; refine tr_ng_ret ?_; refine tr_retE rfl (ends2 rfl rfl rfl) ?_)
  rfl

set_option maxHeartbeats 4000000 in
theorem loop_yes {nv ev : Value} {ns : List ByteArray} {es : List Ed} {V : Nat} {w : World} (h : NetM w nv ev ns es) (h0 : netF ns es = 0) (hV : ns.length = V) (g : Good V es) (hE : es.length ≤ 24) {g0 : Nat} (hlg : (longest (lvs es V) V 0).2 = some g0) :
    Gives Try.prog 9 [.agg #[nv, ev]] w [] (fun x : Value × List A => 0 < x.2.length ∧ x.2.length ≤ 64 ∧ InNet V es x.2 ∧ (∀ (k : Nat) a, x.2[k]? = some a → (a.u : Int) = atF x.2 k) ∧ 0 < sumW x.2)
      (fun x => .tuple #[x.1, .int .i64 0]) (fun x => [row 59 3 x.1 x.2.length (arcsL x.2).flatten]) := by
  have g1 := g.pos
  have g2 := g.most
  have hinv := inv_of g (f := 0) g1
  have hpar := grew_par g.net g1 hlg
  have hloop := grew_loop g.net g1 hlg
  generalize hs : (longest (lvs es V) V 0).1 = s at hinv hpar hloop
  have hh := h
  obtain ⟨⟨a, cap, b, o, e1, hcap, hmax, ha, hc⟩, _⟩ := hh
  rw [strs_length, hV] at e1
  subst e1
  refine gives_of_tr Try.func9 rfl rfl ?_
  (refine tr_seq ?_; refine tr_region ?_; refine tr_new (rk_box (Is.of rfl) rfl) rfl (fun _ _ => ?_); refine tr_val (rk_assign (Is.of rfl)) rfl ?_; refine tr_val (rk_assign (Is.of rfl)) rfl ?_; refine tr_nil ?_; refine tr_then ?_; refine tr_scope ?_; refine tr_seq ?_; refine tr_seq ?_; refine tr_region ?_; refine tr_val (rk_loadB (Is.of rfl) Take.here norm_ (by rfl)) rfl ?_)
  with_reducible apply tr_callV
  case hr => exact rk_call (Is.of rfl) (Iss.cons (Is.of rfl) Iss.nil) inferInstance normc_
  case hd => rfl
  case hc =>
    intro w' hm'
    exact checkNet_c _ _ ns es w' (h.n.keeps hm'.keeps) (h.e.keeps hm'.keeps)
  rw [h0]
  (refine tr_val (rk_assign (Is.of rfl)) rfl ?_; refine tr_nil ?_; refine tr_then ?_; refine tr_seq ?_; refine tr_region ?_; refine tr_val (rk_move (Is.of rfl)) rfl ?_; refine tr_val (rk_neq (Is.of rfl) (Is.of rfl)) rfl ?_; refine tr_nil ?_; refine tr_then ?_; refine tr_cond_d (Is.of rfl) (fun hcd => (by omega)) (fun hcd => ?_); refine tr_skip ?_; refine tr_then ?_; refine tr_seq ?_; refine tr_region ?_; refine tr_val (rk_loadB (Is.of rfl) Take.here norm_ (by rfl)) rfl ?_)
  with_reducible apply tr_call
  case hr => exact rk_call (Is.of rfl) (Iss.cons (Is.of rfl) (Iss.cons (Is.of rfl) Iss.nil)) inferInstance normc_
  case hd => rfl
  case ht => exact Takes.nil
  case hc =>
    intro w1 fp hm1 _ hs1
    obtain rfl : fp = [] := hs1
    exact long_c (f := 0) (h.n.keeps hm1.keeps) (h.e.keeps hm1.keeps) hV g hE g1
  intro bl _
  dsimp only [List.cons_append, List.nil_append]
  rw [hlg, hs]
  dsimp only [Option.isSome, grewV]
  (refine tr_val (rk_move (Is.of rfl)) rfl ?_; refine tr_val (rk_extract (Is.of rfl) rfl) rfl ?_; refine tr_val (rk_extract (Is.of rfl) rfl) rfl ?_; refine tr_val (rk_extract (Is.of rfl) rfl) rfl ?_; refine tr_val (rk_assign (Is.of rfl)) rfl ?_; refine tr_val (rk_assign (Is.of rfl)) rfl ?_; refine tr_val (rk_assign (Is.of rfl)) rfl ?_; refine tr_nil ?_; refine tr_then ?_; refine tr_seq ?_; refine tr_seq ?_; refine tr_region ?_; refine tr_val (rk_move (Is.of rfl)) rfl ?_; refine tr_val (rk_not (Is.of rfl)) rfl ?_; refine tr_nil ?_; refine tr_then ?_; refine tr_cond_f (Is.of rfl) ?_; refine tr_skip ?_; refine tr_then ?_; refine tr_seq ?_; refine tr_seq ?_; refine tr_region ?_; refine tr_val (rk_fieldAddr (Is.of rfl) norm0_) rfl ?_; refine tr_val (rk_load1 (Is.of rfl) (At.lit (Take.there Take.here) rfl)) rfl ?_; refine tr_val (rk_len_slice (Is.of rfl)) rfl ?_; refine tr_val (rk_move (Is.of rfl)) rfl ?_; refine tr_nil ?_; refine tr_then ?_; refine tr_block ?_)
  rename_i b1 hb1 q1
  -- what is read at a node that was reached
  have hrow : ∀ v, v < V → s.par v ≠ none → ∃ y, cellsAt (tab V (seenL s)) (v * 5) 5 = [.int .i64 (arcAt s v).id.1, .bool (arcAt s v).id.2.1, .int .i64 (arcAt s v).id.2.2, .int .i64 y, .bool true] ∧ cellsAt (tab V (seenL s)) (v * 5) 3 = [.int .i64 (arcAt s v).id.1, .bool (arcAt s v).id.2.1, .int .i64 (arcAt s v).id.2.2] := by
    intro v hv hp
    obtain ⟨_, _, _, y, hy, hpa⟩ := arcAt_ok hinv hp
    have h5 : cellsAt (tab V (seenL s)) (v * 5) 5 = seenL s v := tab_cells (fun i _ => seenL_length s i) hv
    have h6 : seenL s v = [.int .i64 (arcAt s v).id.1, .bool (arcAt s v).id.2.1, .int .i64 (arcAt s v).id.2.2, .int .i64 y, .bool true] := by
      unfold seenL; rw [hy, hpa]; rfl
    refine ⟨y, h5.trans h6, ?_⟩
    have h7 : cellsAt (tab V (seenL s)) (v * 5) 3 = (cellsAt (tab V (seenL s)) (v * 5) 5).take 3 := by
      rw [cellsAt_eq, cellsAt_eq, List.take_take]; rfl
    rw [h7, h5, h6]; rfl
  refine tr_for (fun k : Nat => k ≤ V) (fun k => [(27, .int .i64 k), (26, .int .i64 V), (6, .int .i64 (backs s k g0)), (5, .slice (some ⟨bl, 0, none⟩) V V), (1, .pointer (some ⟨b1, 0, none⟩))]) (fun _ => [blk bl (.cells (tab V (seenL s)).toArray 61 (0, 0)), blk b1 (.cells #[.slice a V cap, ev] 37 (0, 0))]) (fun k => V - k) ?_ ?_
  · apply tr_start 0 (by omega)
    case hs1 => exact Subs.cons rfl (Subs.cons rfl (Subs.cons rfl (Subs.cons rfl (Subs.cons rfl Subs.nil))))
    case ht => exact Takes.cons Take.here (Takes.cons Take.here Takes.nil)
  intro k hk
  by_cases hlt : k < V
  · obtain ⟨hbv, hbp⟩ := hpar k
    obtain ⟨y, hc5, hc3⟩ := hrow _ hbv hbp
    obtain ⟨hmem, hu, hv, _⟩ := arcAt_ok hinv hbp
    obtain ⟨_, _, hid, hends, _⟩ := arc_facts g hmem
    have hnx : (arcAt s (backs s k g0)).u = backs s (k + 1) g0 := by rw [backs_succ, back_arc s hbp]
    (refine tr_seq ?_; refine tr_region ?_; refine tr_val (rk_lss (Is.of rfl) (Is.of rfl)) rfl ?_; refine tr_nil ?_; refine tr_then ?_; refine tr_seq ?_; refine tr_cond_d (Is.of rfl) (fun hcd => ?_) (fun hcd => (by omega)); refine tr_skip ?_; refine tr_then ?_; refine tr_seq ?_; refine tr_block ?_)
    with_reducible refine tr_draw 9 (by kernel_rfl) ?_
    (refine any_val (rk_loadB (Is.of rfl) (Take.there Take.here) norm_ (by rfl)) rfl ?_; refine any_val (rk_move (Is.of rfl)) rfl ?_; refine any_val (rk_move (Is.of rfl)) rfl ?_; refine any_val (rk_indexAddr (Is.of rfl) (Is.of rfl) rfl (by omega) (by omega) norm1_) rfl ?_; refine any_val (rk_fieldAddr (Is.of rfl) norm0_) rfl ?_; refine any_val (rk_loadB (Is.of rfl) Take.here hc3 rfl) rfl ?_; refine any_call (rk_call (Is.of rfl) (Iss.cons (Is.of rfl) (Iss.cons (Is.of rfl) Iss.nil)) inferInstance normc_) rfl (fun w' hm' => (ends_c _ ev es _ _ _ w' (Rd.keeps (NetM.e h) (Mem.keeps hm')) hid)) ?_; refine any_val (rk_index (Is.of rfl) (Is.of rfl) (by omega) (by omega) norm_) rfl ?_; refine any_val (rk_assign (Is.of rfl)) rfl ?_)
    simp only [hends, hnx]
    with_reducible refine any_end ?_
    (refine tr_nil ?_; refine tr_blk_normal ?_; refine tr_then ?_; refine tr_region ?_; refine tr_val (rk_add (Is.of rfl) (Is.of rfl) (ini (by omega))) rfl ?_; refine tr_val (rk_move (Is.of rfl)) rfl ?_; refine tr_nil ?_; refine tr_then ?_)
    apply tr_next (k + 1) (by omega) (by omega)
    case hs1 => exact Subs.cons rfl (Subs.cons rfl (Subs.cons rfl (Subs.cons rfl (Subs.cons rfl Subs.nil))))
    case ht => exact Takes.cons Take.here (Takes.cons Take.here Takes.nil)
  · obtain rfl : k = V := by omega
    (refine tr_seq ?_; refine tr_region ?_; refine tr_val (rk_lss (Is.of rfl) (Is.of rfl)) rfl ?_; refine tr_nil ?_; refine tr_then ?_; refine tr_seq ?_; refine tr_cond_d (Is.of rfl) (fun hcd => (by omega)) (fun hcd => ?_); refine tr_exit ?_; refine tr_then_exit ?_; refine tr_then_exit ?_; refine tr_blk_exit ?_; refine tr_then ?_; refine tr_seq ?_; refine tr_region ?_; refine tr_val (rk_assign (Is.of rfl)) rfl ?_; refine tr_nil ?_; refine tr_then ?_; refine tr_seq ?_; refine tr_region ?_; refine tr_val (rk_move (Is.of rfl)) rfl ?_; refine tr_val (rk_assign (Is.of rfl)) rfl ?_; refine tr_nil ?_; refine tr_then ?_; refine tr_seq ?_; refine tr_label ?_; refine tr_then ?_; refine tr_seq ?_; refine tr_block ?_)
    generalize hb0 : backs s k g0 = b0 at hloop
    obtain ⟨M, hM0, hMV, hMb, hmin⟩ := period hloop
    have hpar2 : ∀ j, backs s j b0 < k ∧ s.par (backs s j b0) ≠ none := fun j => by
      rw [← hb0, ← backs_add]; exact hpar (k + j)
    refine tr_rowNil 59 3 ?_
    let F : Nat → List Value := fun i => arcL (arcAt s (backs s i b0)).id
    refine tr_for (ι := Nat × Value) (fun x => x.1 < M) (fun x => [(6, .int .i64 (backs s x.1 b0)), (9, .int .i64 b0), (8, x.2), (5, .slice (some ⟨bl, 0, none⟩) k k), (1, .pointer (some ⟨b1, 0, none⟩))])
      (fun x => [row 59 3 x.2 x.1 (tab x.1 F), blk bl (.cells (tab k (seenL s)).toArray 61 (0, 0)), blk b1 (.cells #[.slice a k cap, ev] 37 (0, 0))]) (fun x => M - x.1) ?_ ?_
    · apply tr_start (0, .slice none 0 0) hM0
      case hs1 => exact Subs.cons rfl (Subs.cons rfl (Subs.cons rfl (Subs.cons rfl (Subs.cons rfl Subs.nil))))
      case ht =>
        show Takes _ [row 59 3 (.slice none 0 0) 0 [], _, _] _
        exact Takes.cons Take.here (Takes.cons Take.here (Takes.cons Take.here Takes.nil))
    rintro ⟨j, v⟩ hj
    dsimp only at hj ⊢
    refine tr_rowSl (by exact Take.here) ?_
    rintro av capv rfl
    obtain ⟨hbv, hbp⟩ := hpar2 j
    obtain ⟨y, hc5, hc3⟩ := hrow _ hbv hbp
    obtain ⟨hmem, hu, hv, _⟩ := arcAt_ok hinv hbp
    obtain ⟨_, _, hid, hends, _⟩ := arc_facts g hmem
    have hnx : (arcAt s (backs s j b0)).u = backs s (j + 1) b0 := by rw [backs_succ, back_arc s hbp]
    (refine tr_block ?_; refine tr_seq ?_; refine tr_region ?_; refine tr_val (rk_move (Is.of rfl)) rfl ?_; refine tr_val (rk_move (Is.of rfl)) rfl ?_; refine tr_val (rk_indexAddr (Is.of rfl) (Is.of rfl) rfl (by omega) (by omega) norm1_) rfl ?_; refine tr_val (rk_loadB (Is.of rfl) (Take.there Take.here) hc5 rfl) rfl ?_; refine tr_new (rk_alloc rfl) rfl (fun _ _ => ?_); refine tr_store (Is.of rfl) (Is.of rfl) Take.here rfl rfl (okc_cons rfl (okc_cons rfl (okc_cons rfl (okc_cons rfl (okc_cons rfl okc_nil))))) (lenb rfl) norm_ ?_; refine tr_nil ?_; refine tr_then ?_; refine tr_seq ?_; refine tr_region ?_; refine tr_val (rk_move (Is.of rfl)) rfl ?_; refine tr_val (rk_fieldAddr (Is.of rfl) norm0_) rfl ?_; refine tr_val (rk_fieldAddr (Is.of rfl) norm0_) rfl ?_; refine tr_val (rk_load1 (Is.of rfl) (At.lit Take.here rfl)) rfl ?_; refine tr_val (rk_fieldAddr (Is.of rfl) norm0_) rfl ?_; refine tr_val (rk_fieldAddr (Is.of rfl) norm0_) rfl ?_; refine tr_val (rk_load1 (Is.of rfl) (At.lit Take.here rfl)) rfl ?_; refine tr_val (rk_fieldAddr (Is.of rfl) norm0_) rfl ?_; refine tr_val (rk_fieldAddr (Is.of rfl) norm0_) rfl ?_; refine tr_val (rk_load1 (Is.of rfl) (At.lit Take.here rfl)) rfl ?_; refine tr_val (rk_buildL (Parts.cons (Is.of rfl) (Parts.cons (Is.of rfl) (Parts.cons (Is.of rfl) Parts.nil))) norm_) rfl ?_; refine tr_new (rk_sliceLitN (Parts.cons (Is.of rfl) Parts.nil) rfl rfl normp_ normp_ norm_) rfl (fun _ _ => ?_))
    refine tr_appendB (Is.of rfl) (Is.of rfl) (Take.there (Take.there Take.here)) Take.here norm_ (by rfl) (okc_cons rfl (okc_cons rfl (okc_cons rfl okc_nil))) (by rfl) (by rfl) (by rfl) lenx_ (by rfl) ?_
    intro v'
    refine tr_rowSl (by exact Take.here) ?_
    rintro av' capv' rfl
    rw [show tab j F ++ [Value.int .i64 (arcAt s (backs s j b0)).id.1, .bool (arcAt s (backs s j b0)).id.2.1, .int .i64 (arcAt s (backs s j b0)).id.2.2] = tab (j + 1) F from (tab_succ j F).symm]
    (refine tr_val (rk_assign (Is.of rfl)) rfl ?_; refine tr_nil ?_; refine tr_then ?_; refine tr_seq ?_; refine tr_region ?_; refine tr_val (rk_loadB (Is.of rfl) (Take.there (Take.there (Take.there (Take.there Take.here)))) norm_ (by rfl)) rfl ?_; refine tr_val (rk_fieldAddr (Is.of rfl) norm0_) rfl ?_; refine tr_val (rk_loadB (Is.of rfl) (Take.there (Take.there Take.here)) norm_ (by rfl)) rfl ?_; refine tr_callV (rk_call (Is.of rfl) (Iss.cons (Is.of rfl) (Iss.cons (Is.of rfl) Iss.nil)) inferInstance normc_) rfl (fun w' hm' => (ends_c _ ev es _ _ _ w' (Rd.keeps (NetM.e h) (Mem.keeps hm')) hid)) ?_; refine tr_val (rk_index (Is.of rfl) (Is.of rfl) (by omega) (by omega) norm_) rfl ?_; refine tr_val (rk_assign (Is.of rfl)) rfl ?_; refine tr_nil ?_; refine tr_then ?_; refine tr_seq ?_; refine tr_region ?_; refine tr_val (rk_move (Is.of rfl)) rfl ?_; refine tr_val (rk_move (Is.of rfl)) rfl ?_; refine tr_val (rk_eql (Is.of rfl) (Is.of rfl)) rfl ?_; refine tr_nil ?_; refine tr_then ?_; refine tr_cond_d (Is.of rfl) (fun hcd => ?_) (fun hcd => ?_); refine tr_exit ?_; refine tr_blk_exit_ne rfl ?_; refine tr_then_exit ?_; refine tr_blk_exit ?_; refine tr_then ?_; refine tr_seq ?_; refine tr_region ?_; refine tr_val (rk_move (Is.of rfl)) rfl ?_; rotate_left; refine tr_skip ?_; refine tr_blk_normal ?_; refine tr_then ?_; rotate_right)
    · rw [hends] at hcd
      have hE1 : backs s (j + 1) b0 = b0 := by rw [← hnx]; exact Int.ofNat_inj.1 hcd
      obtain rfl : M = j + 1 := by
        false_or_by_contra
        exact hmin (j + 1) (by omega) (by omega) hE1
      with_reducible apply tr_call
      case hr => exact rk_call (Is.of rfl) (Iss.cons (Is.of rfl) Iss.nil) inferInstance normc_
      case hd => rfl
      case ht =>
        show Takes _ [row 59 3 (.slice av' (j + 1) capv') (j + 1) (tab (j + 1) F)] _
        exact Takes.cons Take.here Takes.nil
      case hc =>
        intro w1 fp hm1 hn1 hs1
        exact reverse22 (f := F) (by omega) (by omega) (fun i _ => rfl) (fun i _ u hu => by
          simp only [F, arcL, List.mem_cons, List.not_mem_nil, or_false] at hu
          rcases hu with rfl | rfl | rfl <;> rfl) hn1 hs1
      intro _ _
      dsimp only [List.cons_append, List.nil_append]
      (refine tr_nil ?_; refine tr_then ?_; refine tr_seq ?_; refine tr_region ?_; refine tr_val (rk_move (Is.of rfl)) rfl ?_; refine tr_val (rk_assign (Is.of rfl)) rfl ?_; refine tr_val (rk_assign (Is.of rfl)) rfl ?_; refine tr_nil ?_; refine tr_then ?_; refine tr_ret ?_; refine tr_ng_ret ?_)
      first | with_reducible apply tr_retM | with_reducible apply tr_endM
      case he => exact ends2 rfl rfl rfl
      case hR =>
        intro w' hm'
        obtain ⟨l1, l2, l3⟩ := loopA_ok hinv hM0 (fun i _ => (hpar2 i).2) hMb
        have hll := loopA_length s b0 (j + 1)
        exact gives_end (.slice av' (j + 1) capv', loopA s b0 (j + 1)) ⟨by rw [hll]; omega, by rw [hll]; omega, l1, l2, l3⟩ (show Takes _ [row 59 3 (.slice av' (j + 1) capv') (loopA s b0 (j + 1)).length (arcsL (loopA s b0 (j + 1))).flatten] _ by
          (rw [hll, loopA_cells])
          exact Takes.cons .here .nil) hm' rfl
    · rw [hends] at hcd
      simp only [hends, hnx]
      have hne : ¬ backs s (j + 1) b0 = b0 := fun e => hcd (by show ((arcAt s (backs s j b0)).u : Int) = b0; rw [hnx, e])
      have hjM : j + 1 < M := by
        false_or_by_contra
        have : j + 1 = M := by omega
        rw [this] at hne; exact hne hMb
      apply tr_next (j + 1, .slice av' (j + 1) capv') hjM (by show M - (j + 1) < M - j; omega)
      case hs1 => exact Subs.cons rfl (Subs.cons rfl (Subs.cons rfl (Subs.cons rfl (Subs.cons rfl Subs.nil))))
      case ht => exact Takes.cons Take.here (Takes.cons (Take.there (Take.there Take.here)) (Takes.cons (Take.there (Take.there Take.here)) Takes.nil))
end Go.Proofs.A1
