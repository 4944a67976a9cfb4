/- Part of the proof: C6. -/
import Derived.Test.YtahcjhdepdhipaaC5
import Derived.Test.YtahcjhdepdhipaaGkTab
import Derived.Test.YtahcjhdepdhipaaGkFin
set_option linter.unusedSectionVars false
set_option linter.unusedVariables false
set_option linter.unusedSimpArgs false
namespace Go.Proofs.A1
open Go Go.SL

set_option maxHeartbeats 4000000 in
theorem dollyNet_c {nv ev : Value} {ns : List ByteArray} {es : List Ed} {w : World} (h1 : Rd w nv 1 (strs ns)) (h2 : Rd w ev 4 (edgesL es)) (hn : 0 < ns.length) (hV : ns.length ≤ 4) (hE : es.length ≤ 24) :
    Gives Try.prog 8 [.agg #[nv, ev]] w [] (fun _ : Value × Value => True) (fun x => .agg #[x.1, x.2])
      (fun x => [row 9 1 x.1 ns.length (ns.map .string), row 52 4 x.2 es.length (edgesL es).flatten]) := by
  obtain ⟨a, cap, b, o, rfl, hcap, hmax, ha, hc⟩ := h1
  obtain ⟨a2, cap2, b2, o2, rfl, hcap2, hmax2, ha2, hc2⟩ := h2
  rw [strs_length] at *
  rw [edgesL_length] at *
  unfold maxLen at hmax hmax2
  have ha' := ha (strs_ne hn)
  subst ha'
  refine gives_of_tr Try.func8 rfl rfl ?_
  (refine tr_seq ?_; refine tr_region ?_; refine tr_new (rk_box (Is.of rfl) rfl) rfl (fun _ _ => ?_); refine tr_new (rk_alloc rfl) rfl (fun _ _ => ?_); refine tr_nil ?_; refine tr_then ?_; refine tr_seq ?_; refine tr_region ?_; refine tr_new (rk_sliceLit PartsS.nil rfl rfl rfl rfl) rfl (fun _ _ => ?_); refine tr_val (rk_fieldAddr (Is.of rfl) norm0_) rfl ?_; refine tr_val (rk_load1 (Is.of rfl) (At.lit (Take.there (Take.there Take.here)) rfl)) rfl ?_)
  rename_i b1 hb1 bo hbo bz hbz
  refine tr_rowShut (E := 9) (sz := 1) (g := bz) (n := 0) (cap := 0) (xs := []) (cur := []) (show Take _ (blk bz (.cells #[] 9 (0, 0))) _ by exact Take.here) (Nat.le_refl _) (by unfold maxLen; omega) rfl rfl ?_
  with_reducible apply tr_append (news := ns.map Value.string)
  case hx => exact Is.of rfl
  case hy => exact Is.of rfl
  case ht => exact Take.here
  case hn =>
    refine Ats.of_get fun j v hv => At.base ?_ rfl
    simp only [List.getElem?_map, Option.map_eq_some_iff] at hv
    obtain ⟨s, hs, rfl⟩ := hv
    have := (hc j [.string s] (by simp [strs, hs])).2 0 _ rfl
    simpa using this
  case hl => simp
  case h1 => intro u hu; obtain ⟨s, _, rfl⟩ := List.mem_map.1 hu; rfl
  case hz => rfl
  case hsz => rfl
  case hb0 => rfl
  case hb => omega
  case hd => rfl
  intro vn
  rw [Nat.zero_add, List.nil_append]
  refine tr_rowSl (by exact Take.here) ?_
  rintro an capn rfl
  (refine tr_val (rk_buildL (Parts.cons (Is.of rfl) Parts.nil) norm_) rfl ?_; refine tr_new (rk_alloc rfl) rfl (fun _ _ => ?_); refine tr_store (Is.of rfl) (Is.of rfl) Take.here rfl rfl (okc_cons rfl (okc_cons rfl okc_nil)) (lenb rfl) norm_ ?_; refine tr_nil ?_; refine tr_then ?_; refine tr_seq ?_; refine tr_seq ?_; refine tr_region ?_; refine tr_val (rk_fieldAddr (Is.of rfl) norm0_) rfl ?_; refine tr_val (rk_load1 (Is.of rfl) (At.lit (Take.there (Take.there (Take.there Take.here))) rfl)) rfl ?_; refine tr_val (rk_len_slice (Is.of rfl)) rfl ?_; refine tr_val (rk_move (Is.of rfl)) rfl ?_; refine tr_nil ?_; refine tr_then ?_; refine tr_block ?_)
  rename_i b3 hb3
  refine tr_rowNil 52 4 ?_
  refine tr_for (ι := Nat × Value) (fun x => x.1 ≤ es.length) (fun x => [(14, .int .i64 x.1), (13, .int .i64 es.length), (12, .slice a2 es.length cap2), (3, .pointer (some ⟨b3, 0, none⟩)), (2, .pointer (some ⟨bo, 0, none⟩))])
    (fun x => [row 52 4 x.2 x.1 (edgesL (es.take x.1)).flatten, blk b3 (.cells #[.slice an ns.length capn, x.2] 37 (0, 0)), row 9 1 (.slice an ns.length capn) ns.length (ns.map .string), blk bo (.cells #[.slice none 0 0, .slice none 0 0] 37 (0, 0))]) (fun x => es.length - x.1) ?_ ?_
  · apply tr_start (0, .slice none 0 0) (Nat.zero_le _)
    case hs1 => exact Subs.cons rfl (Subs.cons rfl (Subs.cons rfl (Subs.cons rfl (Subs.cons rfl Subs.nil))))
    case ht =>
      show Takes _ [row 52 4 (.slice none 0 0) 0 [], _, _, _] _
      exact Takes.cons Take.here (Takes.cons Take.here (Takes.cons Take.here (Takes.cons Take.here Takes.nil)))
  rintro ⟨k, v⟩ hk
  dsimp only at hk ⊢
  refine tr_rowSl (by exact Take.here) ?_
  rintro av capv rfl
  by_cases hlt : k < es.length
  · have ha' := ha2 (edgesL_ne hlt)
    have hcell : ∀ (j : Nat) (u : Value), [Value.int .i64 es[k].f, .int .i64 es[k].t, .int .i64 es[k].lo, .int .i64 es[k].hi][j]? = some u → w.cell? ⟨b2, o2 + k * 4 + j, none⟩ = some u := (hc2 k _ (edgesL_get hlt)).2
    (refine tr_seq ?_; refine tr_region ?_; refine tr_val (rk_lss (Is.of rfl) (Is.of rfl)) rfl ?_; refine tr_nil ?_; refine tr_then ?_; refine tr_seq ?_; refine tr_cond_d (Is.of rfl) (fun hcd => ?_) (fun hcd => (by omega)); refine tr_skip ?_; refine tr_then ?_; refine tr_seq ?_; refine tr_block ?_; refine tr_seq ?_; refine tr_region ?_; refine tr_val (rk_indexAddr (Is.of rfl) (Is.of rfl) ha' (by omega) hcd norm1_) rfl ?_; refine tr_val (rk_loadN (Is.of rfl) (Ats.base hcell rfl) rfl) rfl ?_; refine tr_new (rk_alloc rfl) rfl (fun _ _ => ?_); refine tr_store (Is.of rfl) (Is.of rfl) Take.here rfl rfl (okc_cons rfl (okc_cons rfl (okc_cons rfl (okc_cons rfl okc_nil)))) (lenb rfl) norm_ ?_; refine tr_nil ?_; refine tr_then ?_; refine tr_region ?_; refine tr_val (rk_fieldAddr (Is.of rfl) norm0_) rfl ?_; refine tr_val (rk_load1 (Is.of rfl) (At.lit (Take.there (Take.there Take.here)) rfl)) rfl ?_; refine tr_val (rk_loadB (Is.of rfl) Take.here norm_ (by rfl)) rfl ?_; refine tr_new (rk_sliceLitN (Parts.cons (Is.of rfl) Parts.nil) rfl rfl normp_ normp_ norm_) rfl (fun _ _ => ?_))
    refine tr_appendB (Is.of rfl) (Is.of rfl) (Take.there (Take.there Take.here)) Take.here norm_ (by rfl) (okc_cons rfl (okc_cons rfl (okc_cons rfl (okc_cons rfl okc_nil)))) (by rfl) (by rfl) (by rfl) lenx_ (by rfl) ?_
    intro v'
    refine tr_rowSl (by exact Take.here) ?_
    rintro av' capv' rfl
    (refine tr_val (rk_fieldAddr (Is.of rfl) norm0_) rfl ?_; refine tr_store (Is.of rfl) (Is.of rfl) (Take.there (Take.there (Take.there Take.here))) rfl rfl (okc_cons rfl okc_nil) (lenb rfl) norm_ ?_; refine tr_nil ?_; refine tr_blk_normal ?_; refine tr_then ?_; refine tr_region ?_; refine tr_val (rk_add (Is.of rfl) (Is.of rfl) (ini (by omega))) rfl ?_; refine tr_val (rk_move (Is.of rfl)) rfl ?_; refine tr_nil ?_; refine tr_then ?_)
    have hfl : (edgesL (es.take (k + 1))).flatten = (edgesL (es.take k)).flatten ++ [Value.int .i64 es[k].f, .int .i64 es[k].t, .int .i64 es[k].lo, .int .i64 es[k].hi] := by
      rw [List.take_add_one, List.getElem?_eq_getElem hlt]; simp only [edgesL, List.map_append, List.flatten_append, Option.toList, List.map_cons, List.map_nil, List.flatten_cons, List.flatten_nil, List.append_nil, Ed.cells]
    apply tr_next (k + 1, .slice av' (k + 1) capv') (by show k + 1 ≤ es.length; omega) (by show es.length - (k + 1) < es.length - k; omega)
    case hs1 => exact Subs.cons rfl (Subs.cons rfl (Subs.cons rfl (Subs.cons rfl (Subs.cons rfl Subs.nil))))
    case ht =>
      show Takes _ [row 52 4 (.slice av' (k + 1) capv') (k + 1) (edgesL (es.take (k + 1))).flatten, blk b3 (.cells #[.slice an ns.length capn, .slice av' (k + 1) capv'] 37 (0, 0)), _, _] _
      rw [hfl]
      exact Takes.cons (Take.there Take.here) (Takes.cons Take.here (Takes.cons (Take.there (Take.there Take.here)) (Takes.cons (Take.there (Take.there Take.here)) Takes.nil)))
  · obtain rfl : k = es.length := by omega
    (refine tr_seq ?_; refine tr_region ?_; refine tr_val (rk_lss (Is.of rfl) (Is.of rfl)) rfl ?_; refine tr_nil ?_; refine tr_then ?_; refine tr_seq ?_; refine tr_cond_d (Is.of rfl) (fun hcd => (by omega)) (fun hcd => ?_); refine tr_exit ?_; refine tr_then_exit ?_; refine tr_then_exit ?_; refine tr_blk_exit ?_; refine tr_then ?_; refine tr_seq ?_; refine tr_region ?_; refine tr_val (rk_loadB (Is.of rfl) (Take.there Take.here) norm_ (by rfl)) rfl ?_; refine tr_store (Is.of rfl) (Is.of rfl) (Take.there (Take.there (Take.there Take.here))) rfl rfl (okc_cons rfl (okc_cons rfl okc_nil)) (lenb rfl) norm_ ?_; refine tr_nil ?_; refine tr_then ?_; refine tr_ret ?_)
    first | with_reducible apply tr_retM | with_reducible apply tr_endM
    case he => exact ends1cB rfl inferInstance rfl Take.here norm_ (by rfl)
    case hR =>
      intro w' hm'
      refine gives_end (.slice an ns.length capn, .slice av es.length capv) trivial (show Takes _ [row 9 1 (.slice an ns.length capn) ns.length (ns.map .string), row 52 4 (.slice av es.length capv) es.length (edgesL es).flatten] _ by
        (rw [List.take_of_length_le (by omega)])
        exact Takes.cons (Take.there (Take.there (Take.there Take.here))) (Takes.cons (Take.there Take.here) Takes.nil)) hm' rfl
end Go.Proofs.A1
