/- Part of the proof: B7. -/
import Derived.Test.YtahcjhdepdhipaaB6
import Derived.Test.YtahcjhdepdhipaaGkFin
set_option linter.unusedSectionVars false
set_option linter.unusedVariables false
set_option linter.unusedSimpArgs false
namespace Go.Proofs.A1
open Go Go.SL

def arcL (id : Int × Bool × Int) : List Value := [.int .i64 id.1, .bool id.2.1, .int .i64 id.2.2]
def boundF (es : List Ed) (i : Int) (b : Bool) : Int := if i < 0 then 0 else match es[i.toNat]? with
  | some e => if b then -e.hi else e.lo
  | none => 0
theorem bound_c (nv ev : Value) (es : List Ed) (i x : Int) (q : Bool) (w : World) (h2 : Rd w ev 4 (edgesL es)) (hi : i < es.length) (hb : ∀ e ∈ es, -100000 ≤ e.hi ∧ e.hi ≤ 100000) :
    GivesV Try.prog 27 [.agg #[nv, ev], .agg #[.int .i64 i, .bool q, .int .i64 x]] w (.int .i64 (boundF es i q)) := by
  obtain ⟨a2, cap2, b2, o2, rfl, hcap2, hmax2, ha2, hc2⟩ := h2
  rw [edgesL_length] at *
  unfold maxLen at hmax2
  refine givesV_of_tr Try.func27 rfl rfl ?_
  (refine tr_seq ?_; refine tr_region ?_; refine tr_new (rk_box (Is.of rfl) rfl) rfl (fun _ _ => ?_); refine tr_new (rk_box (Is.of rfl) rfl) rfl (fun _ _ => ?_); refine tr_val (rk_assign (Is.of rfl)) rfl ?_; refine tr_nil ?_; refine tr_then ?_; refine tr_seq ?_; refine tr_block ?_; refine tr_seq ?_; refine tr_region ?_; refine tr_val (rk_fieldAddr (Is.of rfl) norm0_) rfl ?_; refine tr_val (rk_load1 (Is.of rfl) (At.lit Take.here rfl)) rfl ?_; refine tr_val (rk_lss (Is.of rfl) (Is.of rfl)) rfl ?_; refine tr_val (rk_assign (Is.of rfl)) rfl ?_; refine tr_nil ?_; refine tr_then ?_; refine tr_cond_d (Is.of rfl) (fun hcd => ?_) (fun hcd => ?_); refine tr_seq ?_; refine tr_region ?_; refine tr_val (rk_assign (Is.of rfl)) rfl ?_; refine tr_nil ?_; refine tr_then ?_; refine tr_ret ?_; refine tr_blk_ret ?_; refine tr_then_ret ?_; refine tr_retE rfl (ends1 rfl rfl) ?_; rotate_left; refine tr_seq ?_; refine tr_region ?_; refine tr_val (rk_fieldAddr (Is.of rfl) norm0_) rfl ?_; refine tr_val (rk_load1 (Is.of rfl) (At.lit Take.here rfl)) rfl ?_; refine tr_val (rk_assign (Is.of rfl)) rfl ?_; refine tr_nil ?_; refine tr_then ?_; refine tr_condB (Is.of rfl) inferInstance (fun hcd => ?_) (fun hcd => ?_); refine tr_seq ?_; refine tr_region ?_; refine tr_val (rk_fieldAddr (Is.of rfl) norm0_) rfl ?_; refine tr_val (rk_load1 (Is.of rfl) (At.lit (Take.there Take.here) rfl)) rfl ?_; refine tr_val (rk_fieldAddr (Is.of rfl) norm0_) rfl ?_; refine tr_val (rk_load1 (Is.of rfl) (At.lit Take.here rfl)) rfl ?_; rotate_left; refine tr_skip ?_; refine tr_blk_normal ?_; refine tr_then ?_; refine tr_seq ?_; refine tr_region ?_; refine tr_val (rk_fieldAddr (Is.of rfl) norm0_) rfl ?_; refine tr_val (rk_load1 (Is.of rfl) (At.lit (Take.there Take.here) rfl)) rfl ?_; refine tr_val (rk_fieldAddr (Is.of rfl) norm0_) rfl ?_; refine tr_val (rk_load1 (Is.of rfl) (At.lit Take.here rfl)) rfl ?_; rotate_right; rotate_right)
  · simp [boundF, hcd]
  all_goals (
    have hlt : i.toNat < es.length := by omega
    have ha' := ha2 (edgesL_ne hlt)
    have hcell := (hc2 i.toNat _ (edgesL_get hlt)).2
    have hbe := hb _ (List.getElem_mem hlt)
    have c2 := hcell 2 _ rfl
    have c3 := hcell 3 _ rfl
    (first | (refine tr_val (rk_indexAddr (Is.of rfl) (Is.of rfl) ha' (by omega) hi norm1_) rfl ?_; refine tr_val (rk_fieldAddr (Is.of rfl) norm0_) rfl ?_; refine tr_val (rk_load1 (Is.of rfl) (At.base c3 rfl)) rfl ?_; refine tr_val (rk_neg (Is.of rfl) (ini (by omega))) rfl ?_; refine tr_val (rk_assign (Is.of rfl)) rfl ?_; refine tr_nil ?_; refine tr_then ?_; refine tr_ret ?_; refine tr_blk_ret ?_; refine tr_then_ret ?_; refine tr_retE rfl (ends1 rfl rfl) ?_) | (refine tr_val (rk_indexAddr (Is.of rfl) (Is.of rfl) ha' (by omega) hi norm1_) rfl ?_; refine tr_val (rk_fieldAddr (Is.of rfl) norm0_) rfl ?_; refine tr_val (rk_load1 (Is.of rfl) (At.base c2 rfl)) rfl ?_; refine tr_val (rk_assign (Is.of rfl)) rfl ?_; refine tr_nil ?_; refine tr_then ?_; refine tr_ret ?_; refine tr_retE rfl (ends1 rfl rfl) ?_))
    simp [boundF, hcd, hlt, *])

def endsF (es : List Ed) (i : Int) (b : Bool) (x : Int) : Int × Int := if i < 0 then (0, x) else match es[i.toNat]? with
  | some e => if b then (e.t, e.f) else (e.f, e.t)
  | none => (0, 0)
theorem ends_c (nv ev : Value) (es : List Ed) (i x : Int) (q : Bool) (w : World) (h2 : Rd w ev 4 (edgesL es)) (hi : i < es.length) :
    GivesV Try.prog 21 [.agg #[nv, ev], .agg #[.int .i64 i, .bool q, .int .i64 x]] w (.agg #[.int .i64 (endsF es i q x).1, .int .i64 (endsF es i q x).2]) := by
  obtain ⟨a2, cap2, b2, o2, rfl, hcap2, hmax2, ha2, hc2⟩ := h2
  rw [edgesL_length] at *
  unfold maxLen at hmax2
  refine givesV_of_tr Try.func21 rfl rfl ?_
  (refine tr_seq ?_; refine tr_region ?_; refine tr_new (rk_box (Is.of rfl) rfl) rfl (fun _ _ => ?_); refine tr_new (rk_box (Is.of rfl) rfl) rfl (fun _ _ => ?_); refine tr_new (rk_alloc rfl) rfl (fun _ _ => ?_); refine tr_nil ?_; refine tr_then ?_; refine tr_seq ?_; refine tr_block ?_; refine tr_seq ?_; refine tr_region ?_; refine tr_val (rk_fieldAddr (Is.of rfl) norm0_) rfl ?_; refine tr_val (rk_load1 (Is.of rfl) (At.lit (Take.there Take.here) rfl)) rfl ?_; refine tr_val (rk_lss (Is.of rfl) (Is.of rfl)) rfl ?_; refine tr_val (rk_assign (Is.of rfl)) rfl ?_; refine tr_nil ?_; refine tr_then ?_; refine tr_cond_d (Is.of rfl) (fun hcd => ?_) (fun hcd => ?_); refine tr_seq ?_; refine tr_region ?_; refine tr_val (rk_fieldAddr (Is.of rfl) norm0_) rfl ?_; refine tr_val (rk_load1 (Is.of rfl) (At.lit (Take.there Take.here) rfl)) rfl ?_; refine tr_val (rk_buildL (Parts.cons (Is.of rfl) (Parts.cons (Is.of rfl) Parts.nil)) norm_) rfl ?_; refine tr_store (Is.of rfl) (Is.of rfl) Take.here rfl rfl (okc_cons rfl (okc_cons rfl okc_nil)) (lenb rfl) norm_ ?_; refine tr_nil ?_; refine tr_then ?_; refine tr_ret ?_; refine tr_blk_ret ?_; refine tr_then_ret ?_; refine tr_retE rfl (ends1cB rfl inferInstance rfl Take.here norm_ (by rfl)) ?_; rotate_left; refine tr_seq ?_; refine tr_region ?_; refine tr_val (rk_fieldAddr (Is.of rfl) norm0_) rfl ?_; refine tr_val (rk_load1 (Is.of rfl) (At.lit (Take.there Take.here) rfl)) rfl ?_; refine tr_val (rk_assign (Is.of rfl)) rfl ?_; refine tr_nil ?_; refine tr_then ?_; refine tr_condB (Is.of rfl) inferInstance (fun hcd => ?_) (fun hcd => ?_); refine tr_seq ?_; rotate_left; refine tr_skip ?_; refine tr_blk_normal ?_; refine tr_then ?_; refine tr_seq ?_; rotate_right; rotate_right)
  · simp [endsF, hcd]
  all_goals (
    have hlt : i.toNat < es.length := by omega
    have ha' := ha2 (edgesL_ne hlt)
    have hcell := (hc2 i.toNat _ (edgesL_get hlt)).2
    have c0 := hcell 0 _ rfl
    have c1 := hcell 1 _ rfl
    with_reducible refine tr_draw 15 (by kernel_rfl) ?_
    (first | (refine any_val (rk_fieldAddr (Is.of rfl) norm0_) rfl ?_; refine any_val (rk_load1 (Is.of rfl) (At.lit (Take.there (Take.there Take.here)) rfl)) rfl ?_; refine any_val (rk_fieldAddr (Is.of rfl) norm0_) rfl ?_; refine any_val (rk_load1 (Is.of rfl) (At.lit (Take.there Take.here) rfl)) rfl ?_; refine any_val (rk_indexAddr (Is.of rfl) (Is.of rfl) ha' (by omega) hi norm1_) rfl ?_; refine any_val (rk_fieldAddr (Is.of rfl) norm0_) rfl ?_; refine any_val (rk_load1 (Is.of rfl) (At.base c1 rfl)) rfl ?_; refine any_val (rk_fieldAddr (Is.of rfl) norm0_) rfl ?_; refine any_val (rk_load1 (Is.of rfl) (At.lit (Take.there (Take.there Take.here)) rfl)) rfl ?_; refine any_val (rk_fieldAddr (Is.of rfl) norm0_) rfl ?_; refine any_val (rk_load1 (Is.of rfl) (At.lit (Take.there Take.here) rfl)) rfl ?_; refine any_val (rk_indexAddr (Is.of rfl) (Is.of rfl) ha' (by omega) hi norm1_) rfl ?_; refine any_val (rk_fieldAddr (Is.of rfl) norm0_) rfl ?_; refine any_val (rk_load1 (Is.of rfl) (At.base c0 rfl)) rfl ?_; refine any_val (rk_buildL (Parts.cons (Is.of rfl) (Parts.cons (Is.of rfl) Parts.nil)) norm_) rfl ?_) | (refine any_val (rk_fieldAddr (Is.of rfl) norm0_) rfl ?_; refine any_val (rk_load1 (Is.of rfl) (At.lit (Take.there (Take.there Take.here)) rfl)) rfl ?_; refine any_val (rk_fieldAddr (Is.of rfl) norm0_) rfl ?_; refine any_val (rk_load1 (Is.of rfl) (At.lit (Take.there Take.here) rfl)) rfl ?_; refine any_val (rk_indexAddr (Is.of rfl) (Is.of rfl) ha' (by omega) hi norm1_) rfl ?_; refine any_val (rk_fieldAddr (Is.of rfl) norm0_) rfl ?_; refine any_val (rk_load1 (Is.of rfl) (At.base c0 rfl)) rfl ?_; refine any_val (rk_fieldAddr (Is.of rfl) norm0_) rfl ?_; refine any_val (rk_load1 (Is.of rfl) (At.lit (Take.there (Take.there Take.here)) rfl)) rfl ?_; refine any_val (rk_fieldAddr (Is.of rfl) norm0_) rfl ?_; refine any_val (rk_load1 (Is.of rfl) (At.lit (Take.there Take.here) rfl)) rfl ?_; refine any_val (rk_indexAddr (Is.of rfl) (Is.of rfl) ha' (by omega) hi norm1_) rfl ?_; refine any_val (rk_fieldAddr (Is.of rfl) norm0_) rfl ?_; refine any_val (rk_load1 (Is.of rfl) (At.base c1 rfl)) rfl ?_; refine any_val (rk_buildL (Parts.cons (Is.of rfl) (Parts.cons (Is.of rfl) Parts.nil)) norm_) rfl ?_))
    with_reducible refine any_end ?_
    (first | (refine tr_store (Is.of rfl) (Is.of rfl) Take.here rfl rfl (okc_cons rfl (okc_cons rfl okc_nil)) (lenb rfl) norm_ ?_; refine tr_nil ?_; refine tr_then ?_; refine tr_ret ?_; refine tr_blk_ret ?_; refine tr_then_ret ?_; refine tr_retE rfl (ends1cB rfl inferInstance rfl Take.here norm_ (by rfl)) ?_) | (refine tr_store (Is.of rfl) (Is.of rfl) Take.here rfl rfl (okc_cons rfl (okc_cons rfl okc_nil)) (lenb rfl) norm_ ?_; refine tr_nil ?_; refine tr_then ?_; refine tr_ret ?_; refine tr_retE rfl (ends1cB rfl inferInstance rfl Take.here norm_ (by rfl)) ?_))
    simp [endsF, hcd, hlt, *])
end Go.Proofs.A1
