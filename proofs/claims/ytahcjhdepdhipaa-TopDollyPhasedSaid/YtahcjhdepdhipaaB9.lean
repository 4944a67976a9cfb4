/- Part of the proof: B9. -/
import Derived.Test.YtahcjhdepdhipaaB8
import Derived.Test.YtahcjhdepdhipaaGkSeq
import Derived.Test.YtahcjhdepdhipaaGkFin
set_option linter.unusedSectionVars false
set_option linter.unusedVariables false
set_option linter.unusedSimpArgs false
namespace Go.Proofs.A1
open Go Go.SL

/-- the arcs of an edge's ends that leave a node, the first so many of the two -/
def two (e : Ed) (i u : Nat) : Nat → List A
  | 0 => []
  | 1 => if e.f.toNat = u then [arcF i e] else []
  | _ => (if e.f.toNat = u then [arcF i e] else []) ++ (if e.t.toNat = u then [arcB i e] else [])
theorem two_lvE {es : List Ed} {k u : Nat} (h : k < es.length) : lvE es u k ++ two es[k] k u 2 = lvE es u (k + 1) := by
  simp only [lvE, two, List.getElem?_eq_getElem h]
def arcI (a : A) : List Value := [.agg (arcL a.id).toArray]
theorem lvE_pre {es : List Ed} {u m : Nat} : ∀ n, m ≤ n → ∃ r, lvE es u n = lvE es u m ++ r
  | 0, h => by obtain rfl : m = 0 := by omega
               exact ⟨[], by simp⟩
  | n + 1, h => by
    by_cases e : m = n + 1
    · subst e; exact ⟨[], by simp⟩
    · obtain ⟨r, hr⟩ := lvE_pre (es := es) (u := u) (m := m) n (by omega)
      refine ⟨r ++ (match es[n]? with | some e => (if e.f.toNat = u then [arcF n e] else []) ++ (if e.t.toNat = u then [arcB n e] else []) | none => []), ?_⟩
      rw [← List.append_assoc, ← hr]; rfl
theorem lvs_at {es : List Ed} {V u k n : Nat} {l r : List A} {a : A} (hk : k ≤ es.length) (h : lvE es u k = l ++ a :: r) (hn : n = l.length) : (lvs es V u)[n]? = some a := by
  obtain ⟨r', hr⟩ := lvE_pre (es := es) (u := u) (m := k) es.length hk
  subst hn
  simp [lvs, hr, h]
theorem two_F {es : List Ed} {V k u : Nat} (h : k < es.length) (hu : es[k].f.toNat = u) : (lvs es V u)[(lvE es u k ++ two es[k] k u 0).length]? = some (arcF k es[k]) :=
  lvs_at (k := k + 1) (l := lvE es u k) (r := if es[k].t.toNat = u then [arcB k es[k]] else []) h (by rw [← two_lvE h]; simp [two, hu]) (by simp [two])
theorem two_B {es : List Ed} {V k u : Nat} (h : k < es.length) (hu : es[k].t.toNat = u) : (lvs es V u)[(lvE es u k ++ two es[k] k u 1).length]? = some (arcB k es[k]) :=
  lvs_at (k := k + 1) (l := lvE es u k ++ two es[k] k u 1) (r := []) h (by rw [← two_lvE h]; simp [two, hu]) rfl
theorem lvs_N {es : List Ed} {V x : Nat} (h : x < V) : (lvs es V 0)[(lvE es 0 es.length).length + x]? = some (arcN x) := by
  simp [lvs, lvN, h]
theorem endsF_F {es : List Ed} {k : Nat} (h : k < es.length) (x : Int) : endsF es k false x = (es[k].f, es[k].t) := by
  simp [endsF, h]; omega
theorem endsF_B {es : List Ed} {k : Nat} (h : k < es.length) (x : Int) : endsF es k true x = (es[k].t, es[k].f) := by
  simp [endsF, h]; omega
set_option maxHeartbeats 4000000 in
theorem iter39 {b2 b3 V node : Nat} {nv ev : Value} {ns : List ByteArray} {es : List Ed} {w0 w : World} {md : List Nat} (h1 : Rd w0 nv 1 (strs ns)) (h2 : Rd w0 ev 4 (edgesL es)) (hV : ns.length = V) (hg : ∀ e ∈ es, 0 ≤ e.f ∧ 0 ≤ e.t)
    (o1 : Out md nv (strs ns)) (o2 : Out md ev (edgesL es)) :
    Iter Try.prog 39 [] [.pointer (some ⟨b2, 0, none⟩), .pointer (some ⟨b3, 0, none⟩)] [blk b2 (.cells #[nv, ev] 37 (0, 0)), blk b3 (.cells #[.int .i64 node] 3 (0, 0))] ((lvs es V node).map arcI) w0 md w := by
  intro l fp J E hB hF hn hs hy
  have hrd1 := h1.keepsN o1 hB
  have hrd2 := h2.keepsN o2 hB
  have ho1 := h1.out (by omega) o1 hF
  have ho2 := h2.out (by omega) o2 hF
  rw [List.length_map]
  obtain ⟨a, cap, b, o, rfl, hcap, hmax, ha, hc⟩ := hrd1
  have hrd2' := hrd2
  obtain ⟨a2, cap2, bb2, oo2, rfl, hcap2, hmax2, ha2, hc2⟩ := hrd2'
  rw [strs_length] at *
  rw [edgesL_length] at *
  unfold maxLen at hmax hmax2
  refine givesM_of_tr Try.func39 rfl rfl hn hs ?_
  (refine tr_seq ?_; refine tr_seq ?_; refine tr_region ?_; refine tr_val (rk_fieldAddr (Is.of rfl) norm0_) rfl ?_; refine tr_val (rk_load1 (Is.of rfl) (At.lit (Take.there Take.here) rfl)) rfl ?_; refine tr_val (rk_len_slice (Is.of rfl)) rfl ?_; refine tr_val (rk_move (Is.of rfl)) rfl ?_; refine tr_nil ?_; refine tr_then ?_; refine tr_block ?_)
  refine tr_for (fun k : Nat => k ≤ es.length) (fun k => [(11, .int .i64 k), (10, .int .i64 es.length), (0, .func (.yield l) #[] #[]), (1, .pointer (some ⟨b2, 0, none⟩)), (2, .pointer (some ⟨b3, 0, none⟩))])
    (fun k => [J (lvE es node k).length, blk b2 (.cells #[.slice a ns.length cap, .slice a2 es.length cap2] 37 (0, 0)), blk b3 (.cells #[.int .i64 node] 3 (0, 0))]) (fun k => es.length - k) ?_ ?_
  · apply tr_start 0 (by omega)
    case hs1 => exact Subs.cons rfl (Subs.cons rfl (Subs.cons rfl (Subs.cons rfl (Subs.cons rfl Subs.nil))))
    case ht =>
      show Takes _ [J 0, _, _] _
      exact Takes.cons Take.here (Takes.cons Take.here (Takes.cons Take.here Takes.nil))
  intro k hk
  by_cases hlt : k < es.length
  · (refine tr_seq ?_; refine tr_region ?_; refine tr_val (rk_lss (Is.of rfl) (Is.of rfl)) rfl ?_; refine tr_nil ?_; refine tr_then ?_; refine tr_seq ?_; refine tr_cond_d (Is.of rfl) (fun hcd => ?_) (fun hcd => (by omega)); refine tr_skip ?_; refine tr_then ?_; refine tr_seq ?_; refine tr_block ?_; refine tr_seq ?_; refine tr_region ?_; refine tr_val (rk_move (Is.of rfl)) rfl ?_; refine tr_val (rk_assign (Is.of rfl)) rfl ?_; refine tr_nil ?_; refine tr_then ?_; refine tr_seq ?_; refine tr_region ?_; refine tr_val (rk_move (Is.of rfl)) rfl ?_; refine tr_val (rk_buildL (Parts.cons (Is.of rfl) Parts.nil) norm_) rfl ?_; refine tr_val (rk_move (Is.of rfl)) rfl ?_; refine tr_val (rk_buildL (Parts.cons (Is.of rfl) (Parts.cons (Is.of rfl) Parts.nil)) norm_) rfl ?_; refine tr_val (rk_buildL (Parts.cons (Is.of rfl) (Parts.cons (Is.of rfl) Parts.nil)) norm_) rfl ?_; refine tr_val (rk_move (Is.of rfl)) rfl ?_; refine tr_nil ?_; refine tr_then ?_; refine tr_block ?_)
    have hgk : es[k]? = some es[k] := List.getElem?_eq_getElem hlt
    obtain ⟨hg1, hg2⟩ := hg _ (List.getElem_mem hlt)
    refine tr_for (fun j : Nat => j ≤ 2) (fun j => [(19, .int .i64 j), (18, .agg #[.int .i64 k, .bool false, .int .i64 0, .int .i64 k, .bool true, .int .i64 0]), (11, .int .i64 k), (10, .int .i64 es.length), (0, .func (.yield l) #[] #[]), (1, .pointer (some ⟨b2, 0, none⟩)), (2, .pointer (some ⟨b3, 0, none⟩))])
      (fun j => [J (lvE es node k ++ two es[k] k node j).length, blk b2 (.cells #[.slice a ns.length cap, .slice a2 es.length cap2] 37 (0, 0)), blk b3 (.cells #[.int .i64 node] 3 (0, 0))]) (fun j => 2 - j) ?_ ?_
    · apply tr_start 0 (by omega)
      case hs1 => exact Subs.cons rfl (Subs.cons rfl (Subs.cons rfl (Subs.cons rfl (Subs.cons rfl (Subs.cons rfl (Subs.cons rfl Subs.nil))))))
      case ht =>
        show Takes _ [J (lvE es node k ++ []).length, _, _] _
        rw [List.append_nil]
        exact Takes.cons Take.here (Takes.cons Take.here (Takes.cons Take.here Takes.nil))
    intro j hj
    by_cases hjt : j < 2
    · obtain rfl | rfl : j = 0 ∨ j = 1 := by omega
      · simp only [Int.natCast_zero, Int.cast_ofNat_Int]
        (refine tr_seq ?_; refine tr_region ?_; refine tr_val (rk_lss (Is.of rfl) (Is.of rfl)) rfl ?_; refine tr_nil ?_; refine tr_then ?_; refine tr_seq ?_; refine tr_cond_d (Is.of rfl) (fun hcd => ?_) (fun hcd => (by omega)); refine tr_skip ?_; refine tr_then ?_; refine tr_seq ?_; refine tr_block ?_; refine tr_seq ?_; refine tr_region ?_; refine tr_val (rk_index (Is.of rfl) (Is.of rfl) (by omega) hcd norm_) rfl ?_; refine tr_new (rk_alloc rfl) rfl (fun _ _ => ?_); refine tr_store (Is.of rfl) (Is.of rfl) Take.here rfl rfl (okc_cons rfl (okc_cons rfl (okc_cons rfl okc_nil))) (lenb rfl) norm_ ?_; refine tr_nil ?_; refine tr_then ?_; refine tr_seq ?_)
        with_reducible refine tr_draw 9 (by kernel_rfl) ?_
        (refine any_val (rk_loadB (Is.of rfl) (Take.there (Take.there Take.here)) norm_ (by rfl)) rfl ?_; refine any_val (rk_loadB (Is.of rfl) Take.here norm_ (by rfl)) rfl ?_; refine any_call (rk_call (Is.of rfl) (Iss.cons (Is.of rfl) (Iss.cons (Is.of rfl) Iss.nil)) inferInstance normc_) rfl (fun w' hm' => (ends_c _ _ es _ _ _ w' (Rd.keepsN hrd2 ho2 (Mem.keeps hm')) (by assumption))) ?_; refine any_val (rk_index (Is.of rfl) (Is.of rfl) (by omega) hcd norm_) rfl ?_; refine any_val (rk_load1 (Is.of rfl) (At.lit (Take.there (Take.there (Take.there Take.here))) rfl)) rfl ?_; refine any_val (rk_eql (Is.of rfl) (Is.of rfl)) rfl ?_; refine any_val (rk_move (Is.of rfl)) rfl ?_; refine any_vG1 rfl rfl inferInstance (fun hg hgp => (rk_move (Is.of rfl))) rfl ?_; refine any_vG1 rfl rfl inferInstance (fun hg hgp => (rk_loadB (Is.of rfl) Take.here norm_ (by rfl))) rfl ?_)
        simp only [endsF_F hlt]
        by_cases hend : es[k].f = node
        · have hnat : es[k].f.toNat = node := by omega
          have hyk := hy (lvE es node k ++ two es[k] k node 0).length [.agg (arcL (arcF k es[k]).id).toArray] (by rw [List.getElem?_map, two_F hlt hnat]; rfl)
          simp only [decide_eq_true hend, beq_self_eq_true, gv, cond_true]
          with_reducible refine any_end ?_
          with_reducible apply tr_gOn
          case hj => rfl
          case hq => rfl
          with_reducible apply tr_yieldB hB hF hyk
          case hx => exact Is.of rfl
          case ha => exact Iss.cons (Is.of rfl) Iss.nil
          case hd => rfl
          case ht => exact Take.there Take.here
          intro q
          cases q with
          | false =>
            simp only [cond_false]
            (refine tr_vG1 rfl rfl inferInstance (fun hg hgp => (rk_not (Is.of rfl))) rfl ?_; refine tr_val (rk_pick_and (Is.of rfl) rfl) rfl ?_; refine tr_nil ?_; refine tr_then ?_; refine tr_cond_t (Is.of rfl) ?_; refine tr_ret ?_; refine tr_blk_ret ?_; refine tr_then_ret ?_; refine tr_then_ret ?_; refine tr_blk_ret ?_; refine tr_blk_ret ?_; refine tr_then_ret ?_; refine tr_then_ret ?_; refine tr_blk_ret ?_; refine tr_then_ret ?_)
            first | with_reducible apply tr_retM | with_reducible apply tr_endM
            case he => exact ends0 rfl
            case hR =>
              intro w' hm'
              exact gives_end false trivial (show Takes _ [E, _, _] _ by exact Takes.cons Take.here (Takes.cons (Take.there Take.here) (Takes.cons (Take.there Take.here) Takes.nil))) hm' rfl
          | true =>
            simp only [cond_true]
            (refine tr_vG1 rfl rfl inferInstance (fun hg hgp => (rk_not (Is.of rfl))) rfl ?_; refine tr_val (rk_pick_and (Is.of rfl) rfl) rfl ?_; refine tr_nil ?_; refine tr_then ?_; refine tr_cond_f (Is.of rfl) ?_; refine tr_skip ?_; refine tr_blk_normal ?_; refine tr_then ?_; refine tr_region ?_; refine tr_val (rk_add (Is.of rfl) (Is.of rfl) (ini (by omega))) rfl ?_; refine tr_val (rk_move (Is.of rfl)) rfl ?_; refine tr_nil ?_; refine tr_then ?_)
            have e : (lvE es node k ++ two es[k] k node 0).length + 1 = (lvE es node k ++ two es[k] k node 1).length := by simp [two, hnat]
            rw [e]
            apply tr_next 1 (by omega) (by omega)
            case hs1 => exact Subs.cons rfl (Subs.cons rfl (Subs.cons rfl (Subs.cons rfl (Subs.cons rfl (Subs.cons rfl (Subs.cons rfl Subs.nil))))))
            case ht => exact Takes.cons Take.here (Takes.cons (Take.there Take.here) (Takes.cons (Take.there Take.here) Takes.nil))
        · have hnat : ¬ es[k].f.toNat = node := by omega
          simp only [decide_eq_false hend]
          with_reducible refine any_end ?_
          (refine tr_vOff1 rfl rfl rfl rfl ?_; refine tr_vG1 rfl rfl inferInstance (fun hg hgp => (rk_not (Is.ofg hgp rfl))) rfl ?_; refine tr_val (rk_pick_and (Is.of rfl) rfl) rfl ?_; refine tr_nil ?_; refine tr_then ?_; refine tr_cond_f (Is.of rfl) ?_; refine tr_skip ?_; refine tr_blk_normal ?_; refine tr_then ?_; refine tr_region ?_; refine tr_val (rk_add (Is.of rfl) (Is.of rfl) (ini (by omega))) rfl ?_; refine tr_val (rk_move (Is.of rfl)) rfl ?_; refine tr_nil ?_; refine tr_then ?_)
          have e : (lvE es node k ++ two es[k] k node 0).length = (lvE es node k ++ two es[k] k node 1).length := by simp [two, hnat]
          rw [e]
          apply tr_next 1 (by omega) (by omega)
          case hs1 => exact Subs.cons rfl (Subs.cons rfl (Subs.cons rfl (Subs.cons rfl (Subs.cons rfl (Subs.cons rfl (Subs.cons rfl Subs.nil))))))
          case ht => exact Takes.cons (Take.there Take.here) (Takes.cons (Take.there Take.here) (Takes.cons (Take.there Take.here) Takes.nil))
      · simp only [Int.cast_ofNat_Int]
        (refine tr_seq ?_; refine tr_region ?_; refine tr_val (rk_lss (Is.of rfl) (Is.of rfl)) rfl ?_; refine tr_nil ?_; refine tr_then ?_; refine tr_seq ?_; refine tr_cond_d (Is.of rfl) (fun hcd => ?_) (fun hcd => (by omega)); refine tr_skip ?_; refine tr_then ?_; refine tr_seq ?_; refine tr_block ?_; refine tr_seq ?_; refine tr_region ?_; refine tr_val (rk_index (Is.of rfl) (Is.of rfl) (by omega) hcd norm_) rfl ?_; refine tr_new (rk_alloc rfl) rfl (fun _ _ => ?_); refine tr_store (Is.of rfl) (Is.of rfl) Take.here rfl rfl (okc_cons rfl (okc_cons rfl (okc_cons rfl okc_nil))) (lenb rfl) norm_ ?_; refine tr_nil ?_; refine tr_then ?_; refine tr_seq ?_)
        with_reducible refine tr_draw 9 (by kernel_rfl) ?_
        (refine any_val (rk_loadB (Is.of rfl) (Take.there (Take.there Take.here)) norm_ (by rfl)) rfl ?_; refine any_val (rk_loadB (Is.of rfl) Take.here norm_ (by rfl)) rfl ?_; refine any_call (rk_call (Is.of rfl) (Iss.cons (Is.of rfl) (Iss.cons (Is.of rfl) Iss.nil)) inferInstance normc_) rfl (fun w' hm' => (ends_c _ _ es _ _ _ w' (Rd.keepsN hrd2 ho2 (Mem.keeps hm')) (by assumption))) ?_; refine any_val (rk_index (Is.of rfl) (Is.of rfl) (by omega) (by omega) norm_) rfl ?_; refine any_val (rk_load1 (Is.of rfl) (At.lit (Take.there (Take.there (Take.there Take.here))) rfl)) rfl ?_; refine any_val (rk_eql (Is.of rfl) (Is.of rfl)) rfl ?_; refine any_val (rk_move (Is.of rfl)) rfl ?_; refine any_vG1 rfl rfl inferInstance (fun hg hgp => (rk_move (Is.of rfl))) rfl ?_; refine any_vG1 rfl rfl inferInstance (fun hg hgp => (rk_loadB (Is.of rfl) Take.here norm_ (by rfl))) rfl ?_)
        simp only [endsF_B hlt]
        by_cases hend : es[k].t = node
        · have hnat : es[k].t.toNat = node := by omega
          have hyk := hy (lvE es node k ++ two es[k] k node 1).length [.agg (arcL (arcB k es[k]).id).toArray] (by rw [List.getElem?_map, two_B hlt hnat]; rfl)
          simp only [decide_eq_true hend, beq_self_eq_true, gv, cond_true]
          with_reducible refine any_end ?_
          with_reducible apply tr_gOn
          case hj => rfl
          case hq => rfl
          with_reducible apply tr_yieldB hB hF hyk
          case hx => exact Is.of rfl
          case ha => exact Iss.cons (Is.of rfl) Iss.nil
          case hd => rfl
          case ht => exact Take.there Take.here
          intro q
          cases q with
          | false =>
            simp only [cond_false]
            (refine tr_vG1 rfl rfl inferInstance (fun hg hgp => (rk_not (Is.of rfl))) rfl ?_; refine tr_val (rk_pick_and (Is.of rfl) rfl) rfl ?_; refine tr_nil ?_; refine tr_then ?_; refine tr_cond_t (Is.of rfl) ?_; refine tr_ret ?_; refine tr_blk_ret ?_; refine tr_then_ret ?_; refine tr_then_ret ?_; refine tr_blk_ret ?_; refine tr_blk_ret ?_; refine tr_then_ret ?_; refine tr_then_ret ?_; refine tr_blk_ret ?_; refine tr_then_ret ?_)
            first | with_reducible apply tr_retM | with_reducible apply tr_endM
            case he => exact ends0 rfl
            case hR =>
              intro w' hm'
              exact gives_end false trivial (show Takes _ [E, _, _] _ by exact Takes.cons Take.here (Takes.cons (Take.there Take.here) (Takes.cons (Take.there Take.here) Takes.nil))) hm' rfl
          | true =>
            simp only [cond_true]
            (refine tr_vG1 rfl rfl inferInstance (fun hg hgp => (rk_not (Is.of rfl))) rfl ?_; refine tr_val (rk_pick_and (Is.of rfl) rfl) rfl ?_; refine tr_nil ?_; refine tr_then ?_; refine tr_cond_f (Is.of rfl) ?_; refine tr_skip ?_; refine tr_blk_normal ?_; refine tr_then ?_; refine tr_region ?_; refine tr_val (rk_add (Is.of rfl) (Is.of rfl) (ini (by omega))) rfl ?_; refine tr_val (rk_move (Is.of rfl)) rfl ?_; refine tr_nil ?_; refine tr_then ?_)
            have e : (lvE es node k ++ two es[k] k node 1).length + 1 = (lvE es node k ++ two es[k] k node 2).length := by simp [two, hnat]; omega
            rw [e]
            apply tr_next 2 (by omega) (by omega)
            case hs1 => exact Subs.cons rfl (Subs.cons rfl (Subs.cons rfl (Subs.cons rfl (Subs.cons rfl (Subs.cons rfl (Subs.cons rfl Subs.nil))))))
            case ht => exact Takes.cons Take.here (Takes.cons (Take.there Take.here) (Takes.cons (Take.there Take.here) Takes.nil))
        · have hnat : ¬ es[k].t.toNat = node := by omega
          simp only [decide_eq_false hend]
          with_reducible refine any_end ?_
          (refine tr_vOff1 rfl rfl rfl rfl ?_; refine tr_vG1 rfl rfl inferInstance (fun hg hgp => (rk_not (Is.ofg hgp rfl))) rfl ?_; refine tr_val (rk_pick_and (Is.of rfl) rfl) rfl ?_; refine tr_nil ?_; refine tr_then ?_; refine tr_cond_f (Is.of rfl) ?_; refine tr_skip ?_; refine tr_blk_normal ?_; refine tr_then ?_; refine tr_region ?_; refine tr_val (rk_add (Is.of rfl) (Is.of rfl) (ini (by omega))) rfl ?_; refine tr_val (rk_move (Is.of rfl)) rfl ?_; refine tr_nil ?_; refine tr_then ?_)
          have e : (lvE es node k ++ two es[k] k node 1).length = (lvE es node k ++ two es[k] k node 2).length := by simp [two, hnat]
          rw [e]
          apply tr_next 2 (by omega) (by omega)
          case hs1 => exact Subs.cons rfl (Subs.cons rfl (Subs.cons rfl (Subs.cons rfl (Subs.cons rfl (Subs.cons rfl (Subs.cons rfl Subs.nil))))))
          case ht => exact Takes.cons (Take.there Take.here) (Takes.cons (Take.there Take.here) (Takes.cons (Take.there Take.here) Takes.nil))
    · obtain rfl : j = 2 := by omega
      rw [two_lvE hlt]
      (refine tr_seq ?_; refine tr_region ?_; refine tr_val (rk_lss (Is.of rfl) (Is.of rfl)) rfl ?_; refine tr_nil ?_; refine tr_then ?_; refine tr_seq ?_; refine tr_cond_d (Is.of rfl) (fun hcd => (by omega)) (fun hcd => ?_); refine tr_exit ?_; refine tr_then_exit ?_; refine tr_then_exit ?_; refine tr_blk_exit ?_; refine tr_blk_normal ?_; refine tr_then ?_; refine tr_region ?_; refine tr_val (rk_add (Is.of rfl) (Is.of rfl) (ini (by omega))) rfl ?_; refine tr_val (rk_move (Is.of rfl)) rfl ?_; refine tr_nil ?_; refine tr_then ?_)
      apply tr_next (k + 1) (by omega) (by omega)
      case hs1 => exact Subs.cons rfl (Subs.cons rfl (Subs.cons rfl (Subs.cons rfl (Subs.cons rfl Subs.nil))))
      case ht => exact Takes.cons Take.here (Takes.cons Take.here (Takes.cons Take.here Takes.nil))
  · obtain rfl : k = es.length := by omega
    (refine tr_seq ?_; refine tr_region ?_; refine tr_val (rk_lss (Is.of rfl) (Is.of rfl)) rfl ?_; refine tr_nil ?_; refine tr_then ?_; refine tr_seq ?_; refine tr_cond_d (Is.of rfl) (fun hcd => (by omega)) (fun hcd => ?_); refine tr_exit ?_; refine tr_then_exit ?_; refine tr_then_exit ?_; refine tr_blk_exit ?_; refine tr_then ?_; refine tr_seq ?_; refine tr_region ?_; refine tr_val (rk_fieldAddr (Is.of rfl) norm0_) rfl ?_; refine tr_val (rk_load1 (Is.of rfl) (At.lit (Take.there Take.here) rfl)) rfl ?_; refine tr_val (rk_len_slice (Is.of rfl)) rfl ?_; refine tr_val (rk_move (Is.of rfl)) rfl ?_; refine tr_nil ?_; refine tr_then ?_; refine tr_block ?_)
    by_cases hz : node = 0
    · subst hz
      have hlen : (lvs es V 0).length = (lvE es 0 es.length).length + V := by simp [lvs, lvN]
      refine tr_for (fun x : Nat => x ≤ ns.length) (fun x => [(39, .int .i64 x), (38, .int .i64 ns.length), (0, .func (.yield l) #[] #[]), (1, .pointer (some ⟨b2, 0, none⟩)), (2, .pointer (some ⟨b3, 0, none⟩))])
        (fun x => [J ((lvE es 0 es.length).length + x), blk b2 (.cells #[.slice a ns.length cap, .slice a2 es.length cap2] 37 (0, 0)), blk b3 (.cells #[.int .i64 (0 : Nat)] 3 (0, 0))]) (fun x => ns.length - x) ?_ ?_
      · apply tr_start 0 (by omega)
        case hs1 => exact Subs.cons rfl (Subs.cons rfl (Subs.cons rfl (Subs.cons rfl (Subs.cons rfl Subs.nil))))
        case ht =>
          show Takes _ [J (lvE es 0 es.length).length, _, _] _
          exact Takes.cons Take.here (Takes.cons Take.here (Takes.cons Take.here Takes.nil))
      intro x hx
      by_cases hlx : x < ns.length
      · have hyk := hy ((lvE es 0 es.length).length + x) [.agg (arcL (arcN x).id).toArray] (by rw [List.getElem?_map, lvs_N (by omega)]; rfl)
        (refine tr_seq ?_; refine tr_region ?_; refine tr_val (rk_lss (Is.of rfl) (Is.of rfl)) rfl ?_; refine tr_nil ?_; refine tr_then ?_; refine tr_seq ?_; refine tr_cond_d (Is.of rfl) (fun hcd => ?_) (fun hcd => (by omega)); refine tr_skip ?_; refine tr_then ?_; refine tr_seq ?_; refine tr_block ?_; refine tr_seq ?_; refine tr_region ?_; refine tr_val (rk_move (Is.of rfl)) rfl ?_; refine tr_val (rk_assign (Is.of rfl)) rfl ?_; refine tr_nil ?_; refine tr_then ?_; refine tr_seq ?_; refine tr_region ?_; refine tr_val (rk_load1 (Is.of rfl) (At.lit (Take.there (Take.there Take.here)) rfl)) rfl ?_; refine tr_val (rk_eql (Is.of rfl) (Is.of rfl)) rfl ?_; refine tr_val (rk_move (Is.of rfl)) rfl ?_; refine tr_vG1 rfl rfl inferInstance (fun hg hgp => (rk_move (Is.of rfl))) rfl ?_; refine tr_vG1 rfl rfl inferInstance (fun hg hgp => (rk_move (Is.of rfl))) rfl ?_; refine tr_vG1 rfl rfl inferInstance (fun hg hgp => (rk_buildL (Parts.cons (Is.of rfl) (Parts.cons (Is.ofg hg rfl) Parts.nil)) norm_)) rfl ?_)
        have hdt : decide (((0 : Nat) : Int) = 0) = true := rfl
        simp only [hdt, beq_self_eq_true, gv, cond_true]
        with_reducible apply tr_gOn
        case hj => rfl
        case hq => rfl
        with_reducible apply tr_yieldB hB hF hyk
        case hx => exact Is.of rfl
        case ha => exact Iss.cons (Is.of rfl) Iss.nil
        case hd => rfl
        case ht => exact Take.here
        intro q
        cases q with
        | false =>
          simp only [cond_false]
          (refine tr_vG1 rfl rfl inferInstance (fun hg hgp => (rk_not (Is.of rfl))) rfl ?_; refine tr_val (rk_pick_and (Is.of rfl) rfl) rfl ?_; refine tr_nil ?_; refine tr_then ?_; refine tr_cond_t (Is.of rfl) ?_; refine tr_ret ?_; refine tr_blk_ret ?_; refine tr_then_ret ?_; refine tr_then_ret ?_; refine tr_blk_ret ?_)
          first | with_reducible apply tr_retM | with_reducible apply tr_endM
          case he => exact ends0 rfl
          case hR =>
            intro w' hm'
            exact gives_end false trivial (show Takes _ [E, _, _] _ by exact Takes.cons Take.here (Takes.cons Take.here (Takes.cons Take.here Takes.nil))) hm' rfl
        | true =>
          simp only [cond_true]
          (refine tr_vG1 rfl rfl inferInstance (fun hg hgp => (rk_not (Is.of rfl))) rfl ?_; refine tr_val (rk_pick_and (Is.of rfl) rfl) rfl ?_; refine tr_nil ?_; refine tr_then ?_; refine tr_cond_f (Is.of rfl) ?_; refine tr_skip ?_; refine tr_blk_normal ?_; refine tr_then ?_; refine tr_region ?_; refine tr_val (rk_add (Is.of rfl) (Is.of rfl) (ini (by omega))) rfl ?_; refine tr_val (rk_move (Is.of rfl)) rfl ?_; refine tr_nil ?_; refine tr_then ?_)
          rw [Nat.add_assoc]
          apply tr_next (x + 1) (by omega) (by omega)
          case hs1 => exact Subs.cons rfl (Subs.cons rfl (Subs.cons rfl (Subs.cons rfl (Subs.cons rfl Subs.nil))))
          case ht => exact Takes.cons Take.here (Takes.cons Take.here (Takes.cons Take.here Takes.nil))
      · obtain rfl : x = ns.length := by omega
        (refine tr_seq ?_; refine tr_region ?_; refine tr_val (rk_lss (Is.of rfl) (Is.of rfl)) rfl ?_; refine tr_nil ?_; refine tr_then ?_; refine tr_seq ?_; refine tr_cond_d (Is.of rfl) (fun hcd => (by omega)) (fun hcd => ?_); refine tr_exit ?_; refine tr_then_exit ?_; refine tr_then_exit ?_; refine tr_blk_exit ?_)
        rw [show (lvE es 0 es.length).length + ns.length = (lvs es V 0).length by rw [hlen, hV]]
        first | with_reducible apply tr_retM | with_reducible apply tr_endM
        case he => exact ends0 rfl
        case hR =>
          intro w' hm'
          exact gives_end true trivial (show Takes _ [J (lvs es V 0).length, _, _] _ by exact Takes.cons Take.here (Takes.cons Take.here (Takes.cons Take.here Takes.nil))) hm' rfl
    · have hlen : (lvs es V node).length = (lvE es node es.length).length := by simp [lvs, lvN, hz]
      refine tr_for (fun x : Nat => x ≤ ns.length) (fun x => [(39, .int .i64 x), (38, .int .i64 ns.length), (0, .func (.yield l) #[] #[]), (1, .pointer (some ⟨b2, 0, none⟩)), (2, .pointer (some ⟨b3, 0, none⟩))])
        (fun x => [J ((lvE es node es.length).length), blk b2 (.cells #[.slice a ns.length cap, .slice a2 es.length cap2] 37 (0, 0)), blk b3 (.cells #[.int .i64 node] 3 (0, 0))]) (fun x => ns.length - x) ?_ ?_
      · apply tr_start 0 (by omega)
        case hs1 => exact Subs.cons rfl (Subs.cons rfl (Subs.cons rfl (Subs.cons rfl (Subs.cons rfl Subs.nil))))
        case ht => exact Takes.cons Take.here (Takes.cons Take.here (Takes.cons Take.here Takes.nil))
      intro x hx
      by_cases hlx : x < ns.length
      · (refine tr_seq ?_; refine tr_region ?_; refine tr_val (rk_lss (Is.of rfl) (Is.of rfl)) rfl ?_; refine tr_nil ?_; refine tr_then ?_; refine tr_seq ?_; refine tr_cond_d (Is.of rfl) (fun hcd => ?_) (fun hcd => (by omega)); refine tr_skip ?_; refine tr_then ?_; refine tr_seq ?_; refine tr_block ?_; refine tr_seq ?_; refine tr_region ?_; refine tr_val (rk_move (Is.of rfl)) rfl ?_; refine tr_val (rk_assign (Is.of rfl)) rfl ?_; refine tr_nil ?_; refine tr_then ?_; refine tr_seq ?_; refine tr_region ?_; refine tr_val (rk_load1 (Is.of rfl) (At.lit (Take.there (Take.there Take.here)) rfl)) rfl ?_; refine tr_val (rk_eql (Is.of rfl) (Is.of rfl)) rfl ?_; refine tr_val (rk_move (Is.of rfl)) rfl ?_; refine tr_vG1 rfl rfl inferInstance (fun hg hgp => (rk_move (Is.of rfl))) rfl ?_; refine tr_vG1 rfl rfl inferInstance (fun hg hgp => (rk_move (Is.of rfl))) rfl ?_; refine tr_vG1 rfl rfl inferInstance (fun hg hgp => (rk_buildL (Parts.cons (Is.of rfl) (Parts.cons (Is.ofg hg rfl) Parts.nil)) norm_)) rfl ?_)
        have hdf : decide ((node : Int) = 0) = false := decide_eq_false (by omega)
        simp only [hdf]
        (refine tr_vOff1 rfl rfl rfl rfl ?_; refine tr_vG1 rfl rfl inferInstance (fun hg hgp => (rk_not (Is.ofg hgp rfl))) rfl ?_; refine tr_val (rk_pick_and (Is.of rfl) rfl) rfl ?_; refine tr_nil ?_; refine tr_then ?_; refine tr_cond_f (Is.of rfl) ?_; refine tr_skip ?_; refine tr_blk_normal ?_; refine tr_then ?_; refine tr_region ?_; refine tr_val (rk_add (Is.of rfl) (Is.of rfl) (ini (by omega))) rfl ?_; refine tr_val (rk_move (Is.of rfl)) rfl ?_; refine tr_nil ?_; refine tr_then ?_)
        apply tr_next (x + 1) (by omega) (by omega)
        case hs1 => exact Subs.cons rfl (Subs.cons rfl (Subs.cons rfl (Subs.cons rfl (Subs.cons rfl Subs.nil))))
        case ht => exact Takes.cons Take.here (Takes.cons Take.here (Takes.cons Take.here Takes.nil))
      · obtain rfl : x = ns.length := by omega
        (refine tr_seq ?_; refine tr_region ?_; refine tr_val (rk_lss (Is.of rfl) (Is.of rfl)) rfl ?_; refine tr_nil ?_; refine tr_then ?_; refine tr_seq ?_; refine tr_cond_d (Is.of rfl) (fun hcd => (by omega)) (fun hcd => ?_); refine tr_exit ?_; refine tr_then_exit ?_; refine tr_then_exit ?_; refine tr_blk_exit ?_)
        rw [← hlen]
        first | with_reducible apply tr_retM | with_reducible apply tr_endM
        case he => exact ends0 rfl
        case hR =>
          intro w' hm'
          exact gives_end true trivial (show Takes _ [J (lvs es V node).length, _, _] _ by exact Takes.cons Take.here (Takes.cons Take.here (Takes.cons Take.here Takes.nil))) hm' rfl
end Go.Proofs.A1
