/- Part of the proof: C4. -/
import Derived.Test.YtahcjhdepdhipaaC3
import Derived.Test.YtahcjhdepdhipaaGkFin
set_option linter.unusedSectionVars false
set_option linter.unusedVariables false
set_option linter.unusedSimpArgs false
namespace Go.Proofs.A1
open Go Go.SL

set_option maxHeartbeats 4000000 in
theorem window_c {nv ev : Value} {ns : List ByteArray} {es : List Ed} {V m : Nat} {w : World} (h : NetM w nv ev ns es) (h0 : netF ns es = 0) (hV : ns.length = V) (g : Good V es) (hE : es.length ≤ 24) (hm : m < V)
    (hlg : (longest (lvs es V) V 0).2 = none) :
    GivesV Try.prog 11 [.agg #[nv, ev], .int .i64 m] w (match (longest (lvs es V) V m).1.lab 0 with
      | none => .tuple #[.agg #[.int .i64 0, .int .i64 0], .int .i64 32]
      | some L => .tuple #[.agg #[.int .i64 (times (longest (lvs es V) V 0).1 m), .int .i64 (-L)], .int .i64 0]) := by
  have g1 := g.pos
  have g2 := g.most
  have hh := h
  obtain ⟨⟨a, cap, b, o, e1, hcap, hmax, ha, hc⟩, _⟩ := hh
  rw [strs_length, hV] at e1
  subst e1
  have hB := Bd.rounds (f := m) g hE (V + 1)
  have hz : firstF [netF ns es, whenF (decide ((m : Int) < 0) || decide ((V : Int) ≤ m)) 10] = 0 := by
    rw [h0, decide_eq_false (by omega), decide_eq_false (by omega)]; rfl
  refine givesV_of_tr Try.func11 rfl rfl ?_
  (refine tr_seq ?_; refine tr_region ?_; refine tr_new (rk_box (Is.of rfl) rfl) rfl (fun _ _ => ?_); refine tr_new (rk_alloc rfl) rfl (fun _ _ => ?_); refine tr_val (rk_assign (Is.of rfl)) rfl ?_; refine tr_nil ?_; refine tr_then ?_; refine tr_seq ?_; refine tr_seq ?_; refine tr_region ?_; refine tr_val (rk_loadB (Is.of rfl) (Take.there Take.here) norm_ (by rfl)) rfl ?_; refine tr_callV (rk_call (Is.of rfl) (Iss.cons (Is.of rfl) Iss.nil) inferInstance normc_) rfl (fun w' hm' => (checkNet_c _ ev ns es w' (Rd.keeps (NetM.n h) (Mem.keeps hm')) (Rd.keeps (NetM.e h) (Mem.keeps hm')))) ?_; refine tr_val (rk_move (Is.of rfl)) rfl ?_; refine tr_val (rk_lss (Is.of rfl) (Is.of rfl)) rfl ?_; refine tr_val (rk_move (Is.of rfl)) rfl ?_; refine tr_vG1 rfl rfl inferInstance (fun hg hgp => (rk_move (Is.of rfl))) rfl ?_; refine tr_vG1 rfl rfl inferInstance (fun hg hgp => (rk_fieldAddr (Is.of rfl) norm0_)) rfl ?_; refine tr_vG1 rfl rfl inferInstance (fun hg hgp => (rk_load1 (Is.ofg hg rfl) (At.lit (Take.there Take.here) rfl))) rfl ?_; refine tr_vG1 rfl rfl inferInstance (fun hg hgp => (rk_len_slice (Is.ofg hg rfl))) rfl ?_; refine tr_vG1 rfl rfl inferInstance (fun hg hgp => (rk_geq (Is.ofg hg rfl) (Is.ofg hg rfl))) rfl ?_; refine tr_val (rk_pick_or (Is.of rfl) rfl) rfl ?_; refine tr_callV (rk_call (Is.of rfl) (Iss.cons (Is.of rfl) (Iss.cons (Is.of rfl) Iss.nil)) inferInstance normc_) rfl (fun w' hm' => (when_c _ _ w')) ?_; refine tr_new (rk_sliceLit (PartsS.cons (Is.of rfl) (PartsS.cons (Is.of rfl) PartsS.nil)) rfl rfl rfl rfl) rfl (fun _ _ => ?_); refine tr_callV (rk_call (Is.of rfl) (Iss.cons (Is.of rfl) Iss.nil) inferInstance normc_) rfl (fun w' hm' => (first_pB (Mem.rdBlk hm' Take.here rfl rfl) (IntL.cons (IntL.cons IntL.nil)))) ?_; refine tr_val (rk_assign (Is.of rfl)) rfl ?_; refine tr_nil ?_; refine tr_then ?_; refine tr_seq ?_; refine tr_region ?_; refine tr_val (rk_move (Is.of rfl)) rfl ?_; refine tr_val (rk_neq (Is.of rfl) (Is.of rfl)) rfl ?_; refine tr_nil ?_; refine tr_then ?_; refine tr_cond_d (Is.of rfl) (fun hcd => (by omega)) (fun hcd => ?_); refine tr_skip ?_; refine tr_then ?_; refine tr_seq ?_; refine tr_region ?_; refine tr_val (rk_loadB (Is.of rfl) (Take.there (Take.there Take.here)) norm_ (by rfl)) rfl ?_)
  all_goals (try (exact absurd hz hcd))
  all_goals (try (exact absurd hz (by assumption)))
  with_reducible apply tr_call
  case hr => exact rk_call (Is.of rfl) (Iss.cons (Is.of rfl) (Iss.cons (Is.of rfl) Iss.nil)) inferInstance normc_
  case hd => rfl
  case ht => exact Takes.nil
  case hc =>
    intro w1 fp hm1 _ hs1
    obtain rfl : fp = [] := hs1
    exact long_c (f := 0) (h.n.keeps hm1.keeps) (h.e.keeps hm1.keeps) hV g hE g1
  intro bl _
  dsimp only [List.cons_append, List.nil_append]
  rw [hlg]
  dsimp only [Option.isSome]
  (refine tr_val (rk_move (Is.of rfl)) rfl ?_; refine tr_val (rk_extract (Is.of rfl) rfl) rfl ?_; refine tr_val (rk_extract (Is.of rfl) rfl) rfl ?_; refine tr_val (rk_extract (Is.of rfl) rfl) rfl ?_; refine tr_val (rk_assign (Is.of rfl)) rfl ?_; refine tr_val (rk_assign (Is.of rfl)) rfl ?_; refine tr_val (rk_assign (Is.of rfl)) rfl ?_; refine tr_nil ?_; refine tr_then ?_; refine tr_seq ?_; refine tr_seq ?_; refine tr_region ?_; refine tr_val (rk_move (Is.of rfl)) rfl ?_; refine tr_nil ?_; refine tr_then ?_; refine tr_cond_f (Is.of rfl) ?_; refine tr_skip ?_; refine tr_then ?_; refine tr_seq ?_; refine tr_region ?_; refine tr_val (rk_loadB (Is.of rfl) (Take.there (Take.there (Take.there Take.here))) norm_ (by rfl)) rfl ?_; refine tr_val (rk_move (Is.of rfl)) rfl ?_)
  with_reducible apply tr_call
  case hr => exact rk_call (Is.of rfl) (Iss.cons (Is.of rfl) (Iss.cons (Is.of rfl) Iss.nil)) inferInstance normc_
  case hd => rfl
  case ht => exact Takes.nil
  case hc =>
    intro w1 fp hm1 _ hs1
    obtain rfl : fp = [] := hs1
    exact long_c (f := m) (h.n.keeps hm1.keeps) (h.e.keeps hm1.keeps) hV g hE hm
  intro bk _
  dsimp only [List.cons_append, List.nil_append]
  obtain ⟨hn1, hn2⟩ : -100000 ≤ ((longest (lvs es V) V m).1.lab 0).getD 0 ∧ ((longest (lvs es V) V m).1.lab 0).getD 0 ≤ 100000 := by
    cases hq : (longest (lvs es V) V m).1.lab 0 with
    | none => simp
    | some x => have := hB _ _ hq; simp; omega
  have hr4 := (out_get (longest (lvs es V) V m).1 g1 (j := 4) (by omega)).trans (seenL_4 _ 0)
  have hr3 := (out_get (longest (lvs es V) V m).1 g1 (j := 3) (by omega)).trans (seenL_3 _ 0)
  have hl3 := (out_get (longest (lvs es V) V 0).1 hm (j := 3) (by omega)).trans (seenL_3 _ m)
  (refine tr_val (rk_move (Is.of rfl)) rfl ?_; refine tr_val (rk_extract (Is.of rfl) rfl) rfl ?_; refine tr_val (rk_extract (Is.of rfl) rfl) rfl ?_; refine tr_val (rk_extract (Is.of rfl) rfl) rfl ?_; refine tr_val (rk_assign (Is.of rfl)) rfl ?_; refine tr_val (rk_assign (Is.of rfl)) rfl ?_; refine tr_val (rk_assign (Is.of rfl)) rfl ?_; refine tr_nil ?_; refine tr_then ?_; refine tr_seq ?_; refine tr_seq ?_; refine tr_region ?_; refine tr_val (rk_move (Is.of rfl)) rfl ?_; refine tr_val (rk_indexAddr (Is.of rfl) (Is.of rfl) rfl (by omega) (by omega) norm1_) rfl ?_; refine tr_val (rk_fieldAddr (Is.of rfl) norm0_) rfl ?_; refine tr_val (rk_load1 (Is.of rfl) (At.blkL Take.here hr4)) rfl ?_; refine tr_val (rk_not (Is.of rfl)) rfl ?_; refine tr_nil ?_; refine tr_then ?_; refine tr_condB (Is.of rfl) inferInstance (fun hcd => ?_) (fun hcd => ?_); refine tr_seq ?_; refine tr_region ?_; refine tr_val (rk_buildL Parts.nil norm_) rfl ?_; refine tr_store (Is.of rfl) (Is.of rfl) (Take.there (Take.there (Take.there Take.here))) rfl rfl (okc_cons rfl (okc_cons rfl okc_nil)) (lenb rfl) norm_ ?_; refine tr_val (rk_assign (Is.of rfl)) rfl ?_; refine tr_nil ?_; refine tr_then ?_; refine tr_ret ?_; refine tr_then_ret ?_; refine tr_retE rfl (endsCT rfl inferInstance rfl Take.here norm_ (by rfl) (by rfl)) ?_; rotate_left; refine tr_skip ?_; refine tr_then ?_; refine tr_seq ?_; rotate_right)
  · have hnone : (longest (lvs es V) V m).1.lab 0 = none := by simpa using hcd
    rw [hnone]
  with_reducible refine tr_draw 11 (by kernel_rfl) ?_
  (refine any_val (rk_move (Is.of rfl)) rfl ?_; refine any_val (rk_move (Is.of rfl)) rfl ?_; refine any_val (rk_indexAddr (Is.of rfl) (Is.of rfl) rfl (by omega) (by omega) norm1_) rfl ?_; refine any_val (rk_fieldAddr (Is.of rfl) norm0_) rfl ?_; refine any_val (rk_load1 (Is.of rfl) (At.blkL (Take.there Take.here) hl3)) rfl ?_; refine any_val (rk_move (Is.of rfl)) rfl ?_; refine any_val (rk_indexAddr (Is.of rfl) (Is.of rfl) rfl (by omega) (by omega) norm1_) rfl ?_; refine any_val (rk_fieldAddr (Is.of rfl) norm0_) rfl ?_; refine any_val (rk_load1 (Is.of rfl) (At.blkL Take.here hr3)) rfl ?_; refine any_val (rk_neg (Is.of rfl) (ini (by omega))) rfl ?_; refine any_val (rk_buildL (Parts.cons (Is.of rfl) (Parts.cons (Is.of rfl) Parts.nil)) norm_) rfl ?_)
  with_reducible refine any_end ?_
  (refine tr_store (Is.of rfl) (Is.of rfl) (Take.there (Take.there (Take.there Take.here))) rfl rfl (okc_cons rfl (okc_cons rfl okc_nil)) (lenb rfl) norm_ ?_; refine tr_val (rk_assign (Is.of rfl)) rfl ?_; refine tr_nil ?_; refine tr_then ?_; refine tr_ret ?_; refine tr_retE rfl (endsCT rfl inferInstance rfl Take.here norm_ (by rfl) (by rfl)) ?_)
  obtain ⟨L, hL⟩ := Option.isSome_iff_exists.1 (show ((longest (lvs es V) V m).1.lab 0).isSome = true by simpa using hcd)
  rw [hL]; rfl
end Go.Proofs.A1
