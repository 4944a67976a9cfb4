/- Part of the proof: B5. -/
import Derived.Test.YtahcjhdepdhipaaB4
import Derived.Test.YtahcjhdepdhipaaGkFin
set_option linter.unusedSectionVars false
set_option linter.unusedVariables false
set_option linter.unusedSimpArgs false
namespace Go.Proofs.A1
open Go Go.SL

theorem first_pB {v : Value} {cs : List Value} {es : List Int} {w : World} (h : Rd w v 1 (cs.map fun v => [v])) (hl : IntL cs es) : GivesV Try.prog 23 [v] w (.int .i64 (firstF es)) :=
  first_c v es w (by rw [← hl.eq]; exact h)

theorem edge_c (e : Ed) (n : Int) (w : World) : GivesV Try.prog 31 [.agg e.cells.toArray, .int .i64 n] w (.int .i64 (edgeF e n)) := by
  refine givesV_of_tr Try.func31 rfl rfl ?_
  unfold Ed.cells
  (refine tr_seq ?_; refine tr_region ?_; refine tr_new (rk_box (Is.of rfl) rfl) rfl (fun _ _ => ?_); refine tr_new (rk_box (Is.of rfl) rfl) rfl (fun _ _ => ?_); refine tr_val (rk_assign (Is.of rfl)) rfl ?_; refine tr_nil ?_; refine tr_then ?_; refine tr_seq ?_; refine tr_region ?_; refine tr_val (rk_makeFunc' Iss.nil (Iss.cons (Is.of rfl) Iss.nil)) rfl ?_; refine tr_val (rk_assign (Is.of rfl)) rfl ?_; refine tr_nil ?_; refine tr_then ?_; refine tr_seq ?_; refine tr_region ?_; refine tr_val (rk_fieldAddr (Is.of rfl) norm0_) rfl ?_; refine tr_val (rk_load1 (Is.of rfl) (At.lit (Take.there Take.here) rfl)) rfl ?_; refine tr_val (rk_fieldAddr (Is.of rfl) norm0_) rfl ?_; refine tr_val (rk_load1 (Is.of rfl) (At.lit (Take.there Take.here) rfl)) rfl ?_; refine tr_val (rk_buildL (Parts.cons (Is.of rfl) (Parts.cons (Is.of rfl) Parts.nil)) norm_) rfl ?_; refine tr_val (rk_fieldAddr (Is.of rfl) norm0_) rfl ?_; refine tr_val (rk_load1 (Is.of rfl) (At.lit (Take.there Take.here) rfl)) rfl ?_; refine tr_val (rk_fieldAddr (Is.of rfl) norm0_) rfl ?_; refine tr_val (rk_load1 (Is.of rfl) (At.lit (Take.there Take.here) rfl)) rfl ?_; refine tr_val (rk_buildL (Parts.cons (Is.of rfl) (Parts.cons (Is.of rfl) Parts.nil)) norm_) rfl ?_; refine tr_val (rk_eqlA (Is.of rfl) (Is.of rfl) (okL_int (okL_int okL_nil)) rfl) rfl ?_; refine tr_val (rk_assign (Is.of rfl)) rfl ?_; refine tr_nil ?_; refine tr_then ?_; refine tr_seq ?_)
  with_reducible refine tr_draw 22 (by kernel_rfl) ?_
  (refine any_val (rk_move (Is.of rfl)) rfl ?_; refine any_val (rk_fieldAddr (Is.of rfl) norm0_) rfl ?_; refine any_val (rk_load1 (Is.of rfl) (At.lit (Take.there Take.here) rfl)) rfl ?_; refine any_call (rk_call (Is.of rfl) (Iss.cons (Is.of rfl) Iss.nil) inferInstance normc_) rfl (fun w' hm' => (known_c _ n _ w' (At.lit Take.here rfl w' hm'))) ?_; refine any_val (rk_move (Is.of rfl)) rfl ?_; refine any_val (rk_fieldAddr (Is.of rfl) norm0_) rfl ?_; refine any_val (rk_load1 (Is.of rfl) (At.lit (Take.there Take.here) rfl)) rfl ?_; refine any_call (rk_call (Is.of rfl) (Iss.cons (Is.of rfl) Iss.nil) inferInstance normc_) rfl (fun w' hm' => (known_c _ n _ w' (At.lit Take.here rfl w' hm'))) ?_; refine any_val (rk_move (Is.of rfl)) rfl ?_; refine any_call (rk_call (Is.of rfl) (Iss.cons (Is.of rfl) (Iss.cons (Is.of rfl) Iss.nil)) inferInstance normc_) rfl (fun w' hm' => (when_c _ _ w')) ?_; refine any_val (rk_fieldAddr (Is.of rfl) norm0_) rfl ?_; refine any_val (rk_load1 (Is.of rfl) (At.lit (Take.there Take.here) rfl)) rfl ?_; refine any_call (rk_call (Is.of rfl) (Iss.cons (Is.of rfl) (Iss.cons (Is.of rfl) (Iss.cons (Is.of rfl) Iss.nil))) inferInstance normc_) rfl (fun w' hm' => (within_c _ _ _ w')) ?_; refine any_val (rk_fieldAddr (Is.of rfl) norm0_) rfl ?_; refine any_val (rk_load1 (Is.of rfl) (At.lit (Take.there Take.here) rfl)) rfl ?_; refine any_call (rk_call (Is.of rfl) (Iss.cons (Is.of rfl) (Iss.cons (Is.of rfl) (Iss.cons (Is.of rfl) Iss.nil))) inferInstance normc_) rfl (fun w' hm' => (within_c _ _ _ w')) ?_; refine any_val (rk_fieldAddr (Is.of rfl) norm0_) rfl ?_; refine any_val (rk_load1 (Is.of rfl) (At.lit (Take.there Take.here) rfl)) rfl ?_; refine any_val (rk_fieldAddr (Is.of rfl) norm0_) rfl ?_; refine any_val (rk_load1 (Is.of rfl) (At.lit (Take.there Take.here) rfl)) rfl ?_; refine any_val (rk_gtr (Is.of rfl) (Is.of rfl)) rfl ?_; refine any_call (rk_call (Is.of rfl) (Iss.cons (Is.of rfl) (Iss.cons (Is.of rfl) Iss.nil)) inferInstance normc_) rfl (fun w' hm' => (when_c _ _ w')) ?_)
  with_reducible refine any_end ?_
  (refine tr_new (rk_sliceLit (PartsS.cons (Is.of rfl) (PartsS.cons (Is.of rfl) (PartsS.cons (Is.of rfl) (PartsS.cons (Is.of rfl) (PartsS.cons (Is.of rfl) (PartsS.cons (Is.of rfl) PartsS.nil)))))) rfl rfl rfl rfl) rfl (fun _ _ => ?_); refine tr_callV (rk_call (Is.of rfl) (Iss.cons (Is.of rfl) Iss.nil) inferInstance normc_) rfl (fun w' hm' => (first_pB (Mem.rdBlk hm' Take.here rfl rfl) (IntL.cons (IntL.cons (IntL.cons (IntL.cons (IntL.cons (IntL.cons IntL.nil)))))))) ?_; refine tr_val (rk_assign (Is.of rfl)) rfl ?_; refine tr_nil ?_; refine tr_then ?_; refine tr_ret ?_; refine tr_retE rfl (ends1 rfl rfl) ?_)
  have : (decide (e.f = e.t) && (decide (e.t = e.f) && true)) = decide (e.f = e.t) := by
    by_cases h : e.f = e.t <;> simp [h, eq_comm]
  rw [this]; rfl

theorem mapped32 {lv fv : Value} {rows : List (List Value)} {f : FuncId} {first cap : List Value} [Bod Try.prog f] {img : List Int} {w : World} (h : Rd w lv 4 rows) (hfv : fv = .func (.func f) first.toArray cap.toArray) (hl : img.length = rows.length) (hn : rows.length ≤ 1000000) (h1c : ∀ r ∈ rows, ∀ u ∈ r, u.oneCell' = true)
    (hcall : ∀ (i : Nat) (r : List Value) (e : Int), rows[i]? = some r → img[i]? = some e → ∀ w', Keeps [] w w' → GivesV Try.prog f (first ++ [.agg r.toArray] ++ cap) w' (.int .i64 e)) :
    Gives Try.prog 32 [lv, fv] w [] (fun _ : Value => True) id (fun v => [row 32 1 v rows.length (img.map (.int .i64))]) := by
  subst hfv
  obtain ⟨a, cp, b, o, rfl, hcap, hmax, ha, hc⟩ := h
  unfold maxLen at hmax
  refine gives_of_tr Try.func32 rfl rfl ?_
  (refine tr_seq ?_; refine tr_region ?_; refine tr_val (rk_assign (Is.of rfl)) rfl ?_; refine tr_nil ?_; refine tr_then ?_; refine tr_seq ?_; refine tr_region ?_; refine tr_val (rk_assign (Is.of rfl)) rfl ?_; refine tr_nil ?_; refine tr_then ?_; refine tr_seq ?_; refine tr_seq ?_; refine tr_region ?_; refine tr_val (rk_move (Is.of rfl)) rfl ?_; refine tr_val (rk_len_slice (Is.of rfl)) rfl ?_; refine tr_val (rk_move (Is.of rfl)) rfl ?_; refine tr_nil ?_; refine tr_then ?_; refine tr_block ?_)
  refine tr_rowNil 32 1 ?_
  refine tr_for (ι := Nat × Value) (fun x => x.1 ≤ rows.length) (fun x => [(10, .int .i64 x.1), (9, .int .i64 rows.length), (8, .slice a rows.length cp), (5, x.2), (1, .func (.func f) first.toArray cap.toArray)]) (fun x => [row 32 1 x.2 x.1 ((img.take x.1).map (.int .i64))]) (fun x => rows.length - x.1) ?_ ?_
  · apply tr_start (0, .slice none 0 0) (Nat.zero_le _)
    case hs1 => exact Subs.cons rfl (Subs.cons rfl (Subs.cons rfl (Subs.cons rfl (Subs.cons rfl Subs.nil))))
    case ht => (try simp only [List.take_zero, List.map_nil, List.nil_append]); exact Takes.cons Take.here Takes.nil
  rintro ⟨k, v⟩ hk
  dsimp only at hk ⊢
  by_cases hlt : k < rows.length
  · have ha' := ha (by intro e; rw [e] at hlt; simp at hlt)
    have hget : rows[k]? = some rows[k] := List.getElem?_eq_getElem hlt
    have hcell := (hc k _ hget).2
    have hlen := (hc k _ hget).1
    have himg : img[k]? = some (img[k]'(by omega)) := List.getElem?_eq_getElem (by omega)
    have hone := h1c _ (List.getElem_mem hlt)
    have hcl := hcall k _ _ hget himg
    obtain ⟨x0, x1, x2, x3, hx⟩ : ∃ x0 x1 x2 x3, rows[k] = [x0, x1, x2, x3] := by
      match hr : rows[k], hlen with
      | [x0, x1, x2, x3], _ => exact ⟨x0, x1, x2, x3, rfl⟩
    rw [hx] at hcell hone hcl
    have o0 := hone x0 (by simp)
    have o1 := hone x1 (by simp)
    have o2 := hone x2 (by simp)
    have o3 := hone x3 (by simp)
    (refine tr_seq ?_; refine tr_region ?_; refine tr_val (rk_lss (Is.of rfl) (Is.of rfl)) rfl ?_; refine tr_nil ?_; refine tr_then ?_; refine tr_seq ?_; refine tr_cond_d (Is.of rfl) (fun hcd => ?_) (fun hcd => (by omega)); refine tr_skip ?_; refine tr_then ?_; refine tr_seq ?_; refine tr_block ?_; refine tr_seq ?_; refine tr_region ?_; refine tr_val (rk_indexAddr (Is.of rfl) (Is.of rfl) ha' (by omega) hcd norm1_) rfl ?_; refine tr_val (rk_loadN (Is.of rfl) (Ats.base hcell rfl) rfl) rfl ?_; refine tr_new (rk_alloc rfl) rfl (fun _ _ => ?_); refine tr_store (Is.of rfl) (Is.of rfl) Take.here rfl rfl (okc_cons o0 (okc_cons o1 (okc_cons o2 (okc_cons o3 okc_nil)))) (lenb rfl) norm_ ?_; refine tr_nil ?_; refine tr_then ?_; refine tr_region ?_; refine tr_val (rk_move (Is.of rfl)) rfl ?_; refine tr_val (rk_move (Is.of rfl)) rfl ?_; refine tr_val (rk_loadB (Is.of rfl) Take.here norm_ (by rfl)) rfl ?_)
    refine tr_callV (rk_call (Is.of rfl) (Iss.cons (Is.of rfl) Iss.nil) inferInstance normc_) rfl (fun w' hm' => (hcl w' (Mem.keeps hm'))) ?_
    refine tr_new (rk_sliceLit (PartsS.cons (Is.of rfl) PartsS.nil) rfl rfl rfl rfl) rfl (fun _ _ => ?_)
    refine tr_appendB (Is.of rfl) (Is.of rfl) (Take.there (Take.there Take.here)) Take.here norm_ (by rfl) (okc_cons rfl okc_nil) (by rfl) (by rfl) (by rfl) lenx_ (by rfl) ?_
    intro v'
    (refine tr_val (rk_assign (Is.of rfl)) rfl ?_; refine tr_nil ?_; refine tr_blk_normal ?_; refine tr_then ?_; refine tr_region ?_; refine tr_val (rk_add (Is.of rfl) (Is.of rfl) (ini (by omega))) rfl ?_; refine tr_val (rk_move (Is.of rfl)) rfl ?_; refine tr_nil ?_; refine tr_then ?_)
    have ht1 : (img.take (k + 1)).map (Value.int .i64) = (img.take k).map (Value.int .i64) ++ [Value.int .i64 (img[k]'(by omega))] := by
      rw [List.take_add_one, himg, List.map_append]; rfl
    apply tr_next (k + 1, v') (by show k + 1 ≤ rows.length; omega) (by show rows.length - (k + 1) < rows.length - k; omega)
    case hs1 => exact Subs.cons rfl (Subs.cons rfl (Subs.cons rfl (Subs.cons rfl (Subs.cons rfl Subs.nil))))
    case ht =>
      show Takes _ [row 32 1 v' (k + 1) ((img.take (k + 1)).map (Value.int .i64))] _
      rw [ht1]
      exact Takes.cons Take.here Takes.nil
  · have : k = rows.length := by omega
    subst this
    rw [List.take_of_length_le (by omega)]
    (refine tr_seq ?_; refine tr_region ?_; refine tr_val (rk_lss (Is.of rfl) (Is.of rfl)) rfl ?_; refine tr_nil ?_; refine tr_then ?_; refine tr_seq ?_; refine tr_cond_d (Is.of rfl) (fun hcd => (by omega)) (fun hcd => ?_); refine tr_exit ?_; refine tr_then_exit ?_; refine tr_then_exit ?_; refine tr_blk_exit ?_; refine tr_then ?_; refine tr_seq ?_; refine tr_region ?_; refine tr_val (rk_move (Is.of rfl)) rfl ?_; refine tr_val (rk_assign (Is.of rfl)) rfl ?_; refine tr_nil ?_; refine tr_then ?_; refine tr_ret ?_)
    first | with_reducible apply tr_retM | with_reducible apply tr_endM
    case he => exact ends1 rfl rfl
    case hR =>
      intro w' hm'
      exact gives_end v trivial (by exact Takes.cons Take.here Takes.nil) hm' rfl
end Go.Proofs.A1
