/- Parts of the proof: S18 S19 S20. -/
import Derived.Test.YtfbgbipclgljaaaGreatDoorVM10
import Derived.Test.YtfbgbipclgljaaaGreatDoorVM06
set_option linter.unusedSectionVars false
set_option linter.unusedVariables false
set_option linter.unusedSimpArgs false
/- S18 -/
namespace Go.Proofs.A1
open Go Go.SL

def enR (es : List En) : Nat → List Value
  | 0 => []
  | k + 1 => enR es k ++ (nth es k).cells
theorem enR_tab (es : List En) : ∀ n, enR es n = tab n (fun k => (nth es k).cells)
  | 0 => rfl
  | n + 1 => by rw [enR, enR_tab es n, tab_eq_map, tab_eq_map, List.range_succ]; simp
theorem enR_flat (es : List En) : enR es es.length = (ensL es).flatten := by
  rw [enR_tab, tab_eq_map, ensL]
  congr 1
  apply List.ext_getElem
  · simp
  · intro i h1 h2
    simp only [List.length_map, List.length_range] at h1
    simp [nth_eq h1]
theorem ensL_sz (es : List En) : ∀ r ∈ ensL es, r.length = 6 := by
  intro r hr
  obtain ⟨k, _, rfl⟩ := List.mem_map.1 hr
  rfl
theorem rdEn {c : Cx} {hs hs' : List Asn} {w : World} {E : TypeId} {es : List En} {v : Value} (hm : Mem c hs w) (ht : Take hs (row E 6 v es.length (enR es es.length)) hs') : Rd w v 6 (ensL es) :=
  hm.rdRow ht (enR_flat es) (ensL_sz es) (ensL_length es)
theorem one_c (e : En) (w : World) : GivesV Tryz.prog 70 [.agg e.cells.toArray] w (.agg e.cells.toArray) := by
  unfold En.cells
  refine givesV_of_tr Tryz.func70 rfl rfl ?_
  (refine s_r ?_; refine tr_new (rk_box (.of rfl) rfl) rfl (fun _ _ => ?_); refine tr_new (rk_alloc rfl) rfl (fun _ _ => ?_); refine n_r ?_; refine f_a rfl rfl norm0_ ?_; refine tr_val (rk_load1 (.of rfl) (At.lit (.there .here) rfl)) rfl ?_; refine f_a rfl rfl norm0_ ?_; refine tr_val (rk_load1 (.of rfl) (At.lit (.there .here) rfl)) rfl ?_; refine f_a rfl rfl norm0_ ?_; refine tr_val (rk_loadB (.of rfl) (.there .here) norm_ (by rfl)) rfl ?_; refine f_a rfl rfl norm0_ ?_; refine tr_val (rk_load1 (.of rfl) (At.lit (.there .here) rfl)) rfl ?_; refine f_a rfl rfl norm0_ ?_; refine tr_val (rk_load1 (.of rfl) (At.lit (.there .here) rfl)) rfl ?_; refine tr_val (rk_buildL (.cons (.of rfl) (.cons (.of rfl) (.cons (.of rfl) (.cons (.of rfl) (.cons (.of rfl) .nil))))) norm_) rfl ?_; refine tr_store (.of rfl) (.of rfl) .here rfl rfl (okc_cons rfl (okc_cons rfl (okc_cons rfl (okc_cons rfl (okc_cons rfl (okc_cons rfl okc_nil)))))) (lenb rfl) norm_ ?_; refine n_t ?_; refine tr_ret ?_; refine tr_retE rfl (ends1cB rfl inferInstance rfl .here norm_ (by rfl)) ?_)
  rfl
theorem own_c {sv : Value} {es : List En} {w : World} (h1 : Rd w sv 6 (ensL es)) (hfew : es.length ≤ 1000) :
    Gives Tryz.prog 20 [.agg #[sv]] w [] (fun _ : Value => True) (fun v => .agg #[v]) (fun v => [row 138 6 v es.length (enR es es.length)]) := by
  obtain ⟨a, cap, b, o, rfl, hcap, hmax, ha, hc⟩ := h1
  rw [ensL_length] at *
  unfold maxLen at hmax
  refine gives_of_tr Tryz.func20 rfl rfl ?_
  (refine s_r ?_; refine tr_new (rk_box (.of rfl) rfl) rfl (fun _ _ => ?_); refine tr_new (rk_alloc rfl) rfl (fun _ _ => ?_); refine n_r ?_; refine tr_new (rk_alloc rfl) rfl (fun _ _ => ?_); refine n_t ?_; refine tr_seq ?_; refine s_r ?_; refine f_a rfl rfl norm0_ ?_; refine tr_val (rk_load1 (.of rfl) (At.lit (.there (.there .here)) rfl)) rfl ?_; refine tr_val (rk_len_slice (.of rfl)) rfl ?_; refine m_v rfl rfl ?_; refine n_t ?_; refine tr_block ?_)
  rename_i b1 hb1 b2 hb2 b3 hb3
  refine tr_rowNil 138 6 ?_
  refine tr_for (ι := Nat × Value) (fun x => x.1 ≤ es.length) (fun x => [(9, .int .i64 x.1), (8, .int .i64 es.length), (7, .slice a es.length cap), (2, .pointer (some ⟨b2, 0, none⟩)), (3, .pointer (some ⟨b3, 0, none⟩))])
    (fun x => [row 138 6 x.2 x.1 (enR es x.1), blk b3 (.cells #[x.2] 33 (0, 0)), blk b2 (.cells #[.slice none 0 0] 33 (0, 0))]) (fun x => es.length - x.1) ?_ ?_
  · apply tr_start (0, .slice none 0 0) (Nat.zero_le _)
    case hs1 => exact .cons rfl (.cons rfl (.cons rfl (.cons rfl (.cons rfl .nil))))
    case ht =>
      show Takes _ [row 138 6 (.slice none 0 0) 0 [], blk b3 (.cells #[.slice none 0 0] 33 (0, 0)), blk b2 (.cells #[.slice none 0 0] 33 (0, 0))] _
      exact .cons .here (.cons .here (.cons .here .nil))
  rintro ⟨k, v⟩ hk
  dsimp only at hk ⊢
  by_cases hlt : k < es.length
  · have ha' := ha (ensL_ne hlt)
    have hcell := (hc k _ (ensL_get hlt)).2
    have hone1 := one_c (nth es k)
    unfold En.cells at hcell hone1
    (refine s_r ?_; refine tr_val (rk_lss (.of rfl) (.of rfl)) rfl ?_; refine n_t ?_; refine tr_seq ?_; refine c_d rfl (fun hcd => ?_) (fun _ => by omega); refine s_t ?_; refine tr_seq ?_; refine tr_block ?_; refine s_r ?_; refine tr_val (rk_indexAddr (.of rfl) (.of rfl) ha' (by omega) hcd norm1_) rfl ?_; refine tr_val (rk_loadN (.of rfl) (Ats.base hcell rfl) rfl) rfl ?_; refine tr_new (rk_alloc rfl) rfl (fun _ _ => ?_); refine tr_store (.of rfl) (.of rfl) .here rfl rfl (okc_cons rfl (okc_cons rfl (okc_cons rfl (okc_cons rfl (okc_cons rfl (okc_cons rfl okc_nil)))))) (lenb rfl) norm_ ?_; refine n_t ?_)
    with_reducible refine tr_drawO 5 (by kernel_rfl) ?_
    (refine ao_val (rk_fieldAddr (.of rfl) norm0_) rfl ?_; refine ao_val (rk_load1 (.of rfl) (At.lit (.there (.there .here)) rfl)) rfl ?_; refine ao_val (rk_loadB (.of rfl) .here norm_ (by rfl)) rfl ?_; refine ao_call (rk_call (.of rfl) (.cons (.of rfl) .nil) inferInstance normc_) rfl (fun w' hm' => (hone1 w')) ?_; refine ao_new (rk_sliceLitN (.cons (.of rfl) .nil) rfl rfl normp_ normp_ norm_) rfl rfl ?_)
    with_reducible refine ao_end1 rfl fun bq hbq => ?_
    refine tr_appendB (.of rfl) (.of rfl) (.there (.there .here)) .here norm_ (by rfl) (okc_cons rfl (okc_cons rfl (okc_cons rfl (okc_cons rfl (okc_cons rfl (okc_cons rfl okc_nil)))))) (by rfl) (by rfl) (by rfl) lenx_ (by rfl) ?_
    intro v'
    refine tr_rowSl (E := 138) (sz := 6) (by exact .here) fun a' cap' e => ?_
    subst e
    (refine f_a rfl rfl norm0_ ?_; refine tr_store (.of rfl) (.of rfl) (.there (.there (.there .here))) rfl rfl (okc_cons rfl okc_nil) (lenb rfl) norm_ ?_; refine tr_nil ?_; refine tr_blk_normal ?_; refine tr_then ?_; refine tr_region ?_; refine tr_val (rk_add (.of rfl) (.of rfl) (ini (by omega))) rfl ?_; refine m_v rfl rfl ?_; refine n_t ?_)
    apply tr_next (k + 1, .slice a' (k + 1) cap') (by show k + 1 ≤ es.length; omega) (by show es.length - (k + 1) < es.length - k; omega)
    case hs1 => exact .cons rfl (.cons rfl (.cons rfl (.cons rfl (.cons rfl .nil))))
    case ht =>
      show Takes _ [row 138 6 (.slice a' (k + 1) cap') (k + 1) (enR es k ++ (nth es k).cells), blk b3 (.cells #[.slice a' (k + 1) cap'] 33 (0, 0)), _] _
      unfold En.cells
      exact .cons (.there .here) (.cons .here (.cons (.there (.there .here)) .nil))
  · obtain rfl : k = es.length := by omega
    refine tr_rowSl (E := 138) (sz := 6) (by exact .here) fun a' cap' e => ?_
    subst e
    (refine s_r ?_; refine tr_val (rk_lss (.of rfl) (.of rfl)) rfl ?_; refine n_t ?_; refine tr_seq ?_; refine c_d rfl (fun _ => by omega) (fun hcd => ?_); refine x_t ?_; refine tr_then_exit ?_; refine tr_blk_exit ?_; refine tr_then ?_; refine s_r ?_; refine tr_val (rk_loadB (.of rfl) (.there .here) norm_ (by rfl)) rfl ?_; refine tr_store (.of rfl) (.of rfl) (.there (.there .here)) rfl rfl (okc_cons rfl okc_nil) (lenb rfl) norm_ ?_; refine n_t ?_; refine tr_ret ?_)
    first | with_reducible apply tr_retM | with_reducible apply tr_endM
    case he => exact ends1cB rfl inferInstance rfl .here norm_ (by rfl)
    case hR =>
      intro w' hm'
      exact gives_end (.slice a' es.length cap') trivial (show Takes _ [row 138 6 (.slice a' es.length cap') es.length (enR es es.length)] _ by exact .cons (.there .here) .nil) hm' rfl
theorem told_c {sv : Value} {es : List En} {w : World} (h1 : Rd w sv 6 (ensL es)) (hfew : es.length ≤ 1000) :
    Gives Tryz.prog 86 [.agg #[sv]] w [] (fun _ : Value => True) (fun v => .agg #[v]) (fun v => [row 115 6 v es.length (enR es es.length)]) := by
  obtain ⟨a, cap, b, o, rfl, hcap, hmax, ha, hc⟩ := h1
  rw [ensL_length] at *
  unfold maxLen at hmax
  refine gives_of_tr Tryz.func86 rfl rfl ?_
  (refine s_r ?_; refine tr_new (rk_box (.of rfl) rfl) rfl (fun _ _ => ?_); refine tr_new (rk_alloc rfl) rfl (fun _ _ => ?_); refine n_r ?_; refine tr_new (rk_alloc rfl) rfl (fun _ _ => ?_); refine n_t ?_; refine tr_seq ?_; refine s_r ?_; refine f_a rfl rfl norm0_ ?_; refine tr_val (rk_load1 (.of rfl) (At.lit (.there (.there .here)) rfl)) rfl ?_; refine tr_val (rk_len_slice (.of rfl)) rfl ?_; refine m_v rfl rfl ?_; refine n_t ?_; refine tr_block ?_)
  rename_i b1 hb1 b2 hb2 b3 hb3
  refine tr_rowNil 115 6 ?_
  refine tr_for (ι := Nat × Value) (fun x => x.1 ≤ es.length) (fun x => [(9, .int .i64 x.1), (8, .int .i64 es.length), (7, .slice a es.length cap), (2, .pointer (some ⟨b2, 0, none⟩)), (3, .pointer (some ⟨b3, 0, none⟩))])
    (fun x => [row 115 6 x.2 x.1 (enR es x.1), blk b3 (.cells #[x.2] 24 (0, 0)), blk b2 (.cells #[.slice none 0 0] 24 (0, 0))]) (fun x => es.length - x.1) ?_ ?_
  · apply tr_start (0, .slice none 0 0) (Nat.zero_le _)
    case hs1 => exact .cons rfl (.cons rfl (.cons rfl (.cons rfl (.cons rfl .nil))))
    case ht =>
      show Takes _ [row 115 6 (.slice none 0 0) 0 [], blk b3 (.cells #[.slice none 0 0] 24 (0, 0)), blk b2 (.cells #[.slice none 0 0] 24 (0, 0))] _
      exact .cons .here (.cons .here (.cons .here .nil))
  rintro ⟨k, v⟩ hk
  dsimp only at hk ⊢
  by_cases hlt : k < es.length
  · have ha' := ha (ensL_ne hlt)
    have hcell := (hc k _ (ensL_get hlt)).2
    unfold En.cells at hcell
    (refine s_r ?_; refine tr_val (rk_lss (.of rfl) (.of rfl)) rfl ?_; refine n_t ?_; refine tr_seq ?_; refine c_d rfl (fun hcd => ?_) (fun _ => by omega); refine s_t ?_; refine tr_seq ?_; refine tr_block ?_; refine s_r ?_; refine tr_val (rk_indexAddr (.of rfl) (.of rfl) ha' (by omega) hcd norm1_) rfl ?_; refine tr_val (rk_loadN (.of rfl) (Ats.base hcell rfl) rfl) rfl ?_; refine tr_new (rk_alloc rfl) rfl (fun _ _ => ?_); refine tr_store (.of rfl) (.of rfl) .here rfl rfl (okc_cons rfl (okc_cons rfl (okc_cons rfl (okc_cons rfl (okc_cons rfl (okc_cons rfl okc_nil)))))) (lenb rfl) norm_ ?_; refine n_t ?_; refine tr_region ?_; refine f_a rfl rfl norm0_ ?_; refine tr_val (rk_load1 (.of rfl) (At.lit (.there (.there .here)) rfl)) rfl ?_; refine f_a rfl rfl norm0_ ?_; refine tr_val (rk_load1 (.of rfl) (At.lit .here rfl)) rfl ?_; refine f_a rfl rfl norm0_ ?_; refine tr_val (rk_load1 (.of rfl) (At.lit .here rfl)) rfl ?_; refine f_a rfl rfl norm0_ ?_; refine tr_val (rk_loadB (.of rfl) .here norm_ (by rfl)) rfl ?_; refine f_a rfl rfl norm0_ ?_; refine tr_val (rk_load1 (.of rfl) (At.lit .here rfl)) rfl ?_; refine f_a rfl rfl norm0_ ?_; refine tr_val (rk_load1 (.of rfl) (At.lit .here rfl)) rfl ?_; refine tr_val (rk_buildL (.cons (.of rfl) (.cons (.of rfl) (.cons (.of rfl) (.cons (.of rfl) (.cons (.of rfl) .nil))))) norm_) rfl ?_; refine tr_new (rk_sliceLitN (.cons (.of rfl) .nil) rfl rfl normp_ normp_ norm_) rfl (fun _ _ => ?_))
    refine tr_appendB (.of rfl) (.of rfl) (.there (.there .here)) .here norm_ (by rfl) (okc_cons rfl (okc_cons rfl (okc_cons rfl (okc_cons rfl (okc_cons rfl (okc_cons rfl okc_nil)))))) (by rfl) (by rfl) (by rfl) lenx_ (by rfl) ?_
    intro v'
    refine tr_rowSl (E := 115) (sz := 6) (by exact .here) fun a' cap' e => ?_
    subst e
    (refine f_a rfl rfl norm0_ ?_; refine tr_store (.of rfl) (.of rfl) (.there (.there (.there .here))) rfl rfl (okc_cons rfl okc_nil) (lenb rfl) norm_ ?_; refine tr_nil ?_; refine tr_blk_normal ?_; refine tr_then ?_; refine tr_region ?_; refine tr_val (rk_add (.of rfl) (.of rfl) (ini (by omega))) rfl ?_; refine m_v rfl rfl ?_; refine n_t ?_)
    apply tr_next (k + 1, .slice a' (k + 1) cap') (by show k + 1 ≤ es.length; omega) (by show es.length - (k + 1) < es.length - k; omega)
    case hs1 => exact .cons rfl (.cons rfl (.cons rfl (.cons rfl (.cons rfl .nil))))
    case ht =>
      show Takes _ [row 115 6 (.slice a' (k + 1) cap') (k + 1) (enR es k ++ (nth es k).cells), blk b3 (.cells #[.slice a' (k + 1) cap'] 24 (0, 0)), _] _
      unfold En.cells
      exact .cons (.there .here) (.cons .here (.cons (.there (.there .here)) .nil))
  · obtain rfl : k = es.length := by omega
    refine tr_rowSl (E := 115) (sz := 6) (by exact .here) fun a' cap' e => ?_
    subst e
    (refine s_r ?_; refine tr_val (rk_lss (.of rfl) (.of rfl)) rfl ?_; refine n_t ?_; refine tr_seq ?_; refine c_d rfl (fun _ => by omega) (fun hcd => ?_); refine x_t ?_; refine tr_then_exit ?_; refine tr_blk_exit ?_; refine tr_then ?_; refine s_r ?_; refine tr_val (rk_loadB (.of rfl) (.there .here) norm_ (by rfl)) rfl ?_; refine tr_store (.of rfl) (.of rfl) (.there (.there .here)) rfl rfl (okc_cons rfl okc_nil) (lenb rfl) norm_ ?_; refine n_t ?_; refine tr_ret ?_)
    first | with_reducible apply tr_retM | with_reducible apply tr_endM
    case he => exact ends1cB rfl inferInstance rfl .here norm_ (by rfl)
    case hR =>
      intro w' hm'
      exact gives_end (.slice a' es.length cap') trivial (show Takes _ [row 115 6 (.slice a' es.length cap') es.length (enR es es.length)] _ by exact .cons (.there .here) .nil) hm' rfl
end Go.Proofs.A1


/- S19 -/
namespace Go.Proofs.A1
open Go Go.SL

theorem gapsT_c {v0 : Value} {l : List (Int × Int × Int)} {w : World} (h1 : Rd w v0 3 (l.map triV)) (hfew : l.length ≤ 1000) :
    Gives Tryz.prog 32 [v0] w [] (fun _ : Value => True) id (fun v => [row 170 3 v l.length (l.flatMap triV)]) := by
  obtain ⟨a, cap, b, o, rfl, hcap, hmax, ha, hc⟩ := h1
  rw [lenV triV l] at *
  unfold maxLen at hmax
  refine gives_of_tr Tryz.func32 rfl rfl ?_
  (refine s_r ?_; refine a_s rfl rfl ?_; refine n_r ?_; refine a_s rfl rfl ?_; refine n_t ?_; refine tr_seq ?_; refine s_r ?_; refine m_v rfl rfl ?_; refine tr_val (rk_len_slice (.of rfl)) rfl ?_; refine m_v rfl rfl ?_; refine n_t ?_; refine tr_block ?_)
  refine tr_rowNil 170 3 ?_
  refine tr_for (ι := Nat × Value) (fun x => x.1 ≤ l.length) (fun x => [(8, .int .i64 x.1), (7, .int .i64 l.length), (6, .slice a l.length cap), (3, x.2)])
    (fun x => [row 170 3 x.2 x.1 ((l.take x.1).flatMap triV)]) (fun x => l.length - x.1) ?_ ?_
  · apply tr_start (0, .slice none 0 0) (Nat.zero_le _)
    case hs1 => exact .cons rfl (.cons rfl (.cons rfl (.cons rfl .nil)))
    case ht =>
      show Takes _ [row 170 3 (.slice none 0 0) 0 []] _
      exact .cons .here .nil
  rintro ⟨k, v⟩ hk
  dsimp only at hk ⊢
  by_cases hlt : k < l.length
  · have ha' := ha (by intro e; rw [List.map_eq_nil_iff] at e; subst e; simp at hlt)
    have hcell := (hc k (triV l[k]) (by rw [List.getElem?_map, List.getElem?_eq_getElem hlt]; rfl)).2
    have htk : (l.take (k + 1)).flatMap triV = (l.take k).flatMap triV ++ triV l[k] := by
      rw [List.take_succ_eq_append_getElem hlt, List.flatMap_append]; simp
    generalize hx : l[k] = x at hcell htk
    obtain ⟨x0, x1, x2⟩ := x
    unfold triV at hcell
    dsimp only at hcell
    (refine s_r ?_; refine tr_val (rk_lss (.of rfl) (.of rfl)) rfl ?_; refine n_t ?_; refine tr_seq ?_; refine c_d rfl (fun hcd => ?_) (fun _ => by omega); refine s_t ?_; refine tr_seq ?_; refine tr_block ?_; refine s_r ?_; refine tr_val (rk_indexAddr (.of rfl) (.of rfl) ha' (by omega) hcd norm1_) rfl ?_; refine tr_val (rk_loadN (.of rfl) (Ats.base hcell rfl) rfl) rfl ?_; refine tr_new (rk_alloc rfl) rfl (fun _ _ => ?_); refine tr_store (.of rfl) (.of rfl) .here rfl rfl (okc_cons rfl (okc_cons rfl (okc_cons rfl okc_nil))) (lenb rfl) norm_ ?_; refine n_t ?_; refine tr_region ?_; refine m_v rfl rfl ?_; refine tr_val (rk_loadB (.of rfl) .here norm_ (by rfl)) rfl ?_; refine tr_new (rk_sliceLitN (.cons (.of rfl) .nil) rfl rfl normp_ normp_ norm_) rfl (fun _ _ => ?_))
    refine tr_appendB (.of rfl) (.of rfl) (.there (.there .here)) .here norm_ (by rfl) (okc_cons rfl (okc_cons rfl (okc_cons rfl okc_nil))) (by rfl) (by rfl) (by rfl) lenx_ (by rfl) ?_
    intro v'
    (refine a_s rfl rfl ?_; refine tr_nil ?_; refine tr_blk_normal ?_; refine tr_then ?_; refine tr_region ?_; refine tr_val (rk_add (.of rfl) (.of rfl) (ini (by omega))) rfl ?_; refine m_v rfl rfl ?_; refine n_t ?_)
    apply tr_next (k + 1, v') (by show k + 1 ≤ l.length; omega) (by show l.length - (k + 1) < l.length - k; omega)
    case hs1 => exact .cons rfl (.cons rfl (.cons rfl (.cons rfl .nil)))
    case ht =>
      show Takes _ [row 170 3 v' (k + 1) ((l.take (k + 1)).flatMap triV)] _
      rw [htk]
      show Takes _ [row 170 3 v' (k + 1) ((l.take k).flatMap triV ++ [.int .i64 x0, .int .i64 x1, .int .i64 x2])] _
      exact .cons .here .nil
  · obtain rfl : k = l.length := by omega
    rw [List.take_length]
    (refine s_r ?_; refine tr_val (rk_lss (.of rfl) (.of rfl)) rfl ?_; refine n_t ?_; refine tr_seq ?_; refine c_d rfl (fun _ => by omega) (fun hcd => ?_); refine x_t ?_; refine tr_then_exit ?_; refine tr_blk_exit ?_; refine tr_then ?_; refine s_r ?_; refine m_v rfl rfl ?_; refine a_s rfl rfl ?_; refine n_t ?_; refine tr_ret ?_)
    first | with_reducible apply tr_retM | with_reducible apply tr_endM
    case he => exact ends1 rfl rfl
    case hR =>
      intro w' hm'
      exact gives_end v trivial (by exact .cons .here .nil) hm' rfl
theorem sharesT_c {v0 : Value} {l : List (Int × Int × Int)} {w : World} (h1 : Rd w v0 3 (l.map triV)) (hfew : l.length ≤ 1000) :
    Gives Tryz.prog 34 [v0] w [] (fun _ : Value => True) id (fun v => [row 185 3 v l.length (l.flatMap triV)]) := by
  obtain ⟨a, cap, b, o, rfl, hcap, hmax, ha, hc⟩ := h1
  rw [lenV triV l] at *
  unfold maxLen at hmax
  refine gives_of_tr Tryz.func34 rfl rfl ?_
  (refine s_r ?_; refine a_s rfl rfl ?_; refine n_r ?_; refine a_s rfl rfl ?_; refine n_t ?_; refine tr_seq ?_; refine s_r ?_; refine m_v rfl rfl ?_; refine tr_val (rk_len_slice (.of rfl)) rfl ?_; refine m_v rfl rfl ?_; refine n_t ?_; refine tr_block ?_)
  refine tr_rowNil 185 3 ?_
  refine tr_for (ι := Nat × Value) (fun x => x.1 ≤ l.length) (fun x => [(8, .int .i64 x.1), (7, .int .i64 l.length), (6, .slice a l.length cap), (3, x.2)])
    (fun x => [row 185 3 x.2 x.1 ((l.take x.1).flatMap triV)]) (fun x => l.length - x.1) ?_ ?_
  · apply tr_start (0, .slice none 0 0) (Nat.zero_le _)
    case hs1 => exact .cons rfl (.cons rfl (.cons rfl (.cons rfl .nil)))
    case ht =>
      show Takes _ [row 185 3 (.slice none 0 0) 0 []] _
      exact .cons .here .nil
  rintro ⟨k, v⟩ hk
  dsimp only at hk ⊢
  by_cases hlt : k < l.length
  · have ha' := ha (by intro e; rw [List.map_eq_nil_iff] at e; subst e; simp at hlt)
    have hcell := (hc k (triV l[k]) (by rw [List.getElem?_map, List.getElem?_eq_getElem hlt]; rfl)).2
    have htk : (l.take (k + 1)).flatMap triV = (l.take k).flatMap triV ++ triV l[k] := by
      rw [List.take_succ_eq_append_getElem hlt, List.flatMap_append]; simp
    generalize hx : l[k] = x at hcell htk
    obtain ⟨x0, x1, x2⟩ := x
    unfold triV at hcell
    dsimp only at hcell
    (refine s_r ?_; refine tr_val (rk_lss (.of rfl) (.of rfl)) rfl ?_; refine n_t ?_; refine tr_seq ?_; refine c_d rfl (fun hcd => ?_) (fun _ => by omega); refine s_t ?_; refine tr_seq ?_; refine tr_block ?_; refine s_r ?_; refine tr_val (rk_indexAddr (.of rfl) (.of rfl) ha' (by omega) hcd norm1_) rfl ?_; refine tr_val (rk_loadN (.of rfl) (Ats.base hcell rfl) rfl) rfl ?_; refine tr_new (rk_alloc rfl) rfl (fun _ _ => ?_); refine tr_store (.of rfl) (.of rfl) .here rfl rfl (okc_cons rfl (okc_cons rfl (okc_cons rfl okc_nil))) (lenb rfl) norm_ ?_; refine n_t ?_; refine tr_region ?_; refine m_v rfl rfl ?_; refine tr_val (rk_loadB (.of rfl) .here norm_ (by rfl)) rfl ?_; refine tr_new (rk_sliceLitN (.cons (.of rfl) .nil) rfl rfl normp_ normp_ norm_) rfl (fun _ _ => ?_))
    refine tr_appendB (.of rfl) (.of rfl) (.there (.there .here)) .here norm_ (by rfl) (okc_cons rfl (okc_cons rfl (okc_cons rfl okc_nil))) (by rfl) (by rfl) (by rfl) lenx_ (by rfl) ?_
    intro v'
    (refine a_s rfl rfl ?_; refine tr_nil ?_; refine tr_blk_normal ?_; refine tr_then ?_; refine tr_region ?_; refine tr_val (rk_add (.of rfl) (.of rfl) (ini (by omega))) rfl ?_; refine m_v rfl rfl ?_; refine n_t ?_)
    apply tr_next (k + 1, v') (by show k + 1 ≤ l.length; omega) (by show l.length - (k + 1) < l.length - k; omega)
    case hs1 => exact .cons rfl (.cons rfl (.cons rfl (.cons rfl .nil)))
    case ht =>
      show Takes _ [row 185 3 v' (k + 1) ((l.take (k + 1)).flatMap triV)] _
      rw [htk]
      show Takes _ [row 185 3 v' (k + 1) ((l.take k).flatMap triV ++ [.int .i64 x0, .int .i64 x1, .int .i64 x2])] _
      exact .cons .here .nil
  · obtain rfl : k = l.length := by omega
    rw [List.take_length]
    (refine s_r ?_; refine tr_val (rk_lss (.of rfl) (.of rfl)) rfl ?_; refine n_t ?_; refine tr_seq ?_; refine c_d rfl (fun _ => by omega) (fun hcd => ?_); refine x_t ?_; refine tr_then_exit ?_; refine tr_blk_exit ?_; refine tr_then ?_; refine s_r ?_; refine m_v rfl rfl ?_; refine a_s rfl rfl ?_; refine n_t ?_; refine tr_ret ?_)
    first | with_reducible apply tr_retM | with_reducible apply tr_endM
    case he => exact ends1 rfl rfl
    case hR =>
      intro w' hm'
      exact gives_end v trivial (by exact .cons .here .nil) hm' rfl

theorem triV_len (l : List (Int × Int × Int)) : ∀ r ∈ l.map triV, r.length = 3 := by
  intro r hr; obtain ⟨x, _, rfl⟩ := List.mem_map.1 hr; rfl
theorem duoV_len (l : List (Int × Int)) : ∀ r ∈ l.map duoV, r.length = 2 := by
  intro r hr; obtain ⟨x, _, rfl⟩ := List.mem_map.1 hr; rfl
theorem rdTri {c : Cx} {hs hs' : List Asn} {w : World} {E : TypeId} {l : List (Int × Int × Int)} {v : Value} (hm : Mem c hs w) (ht : Take hs (row E 3 v l.length (l.flatMap triV)) hs') : Rd w v 3 (l.map triV) :=
  hm.rdRow ht (by rw [List.flatMap_def]) (triV_len l) (lenV triV l)
theorem rdDuo {c : Cx} {hs hs' : List Asn} {w : World} {E : TypeId} {l : List (Int × Int)} {v : Value} (hm : Mem c hs w) (ht : Take hs (row E 2 v l.length (l.flatMap duoV)) hs') : Rd w v 2 (l.map duoV) :=
  hm.rdRow ht (by rw [List.flatMap_def]) (duoV_len l) (lenV duoV l)
def shortB (es : List En) : Bool := ((List.range es.length).all fun k => decide ((nth es k).nm.size ≤ 40) && decide ((nth es k).mt.size ≤ 40) && decide ((nth es k).kd.size ≤ 40)) && (decide (es.length ≤ 8) || decide (es.length = 25))
theorem short_c {sv : Value} {es : List En} {w : World} (h1 : Rd w sv 6 (ensL es)) : GivesV Tryz.prog 18 [.agg #[sv]] w (.bool (shortB es)) := by
  obtain ⟨a, cap, b, o, rfl, hcap, hmax, ha, hc⟩ := h1
  rw [ensL_length] at *
  unfold maxLen at hmax
  refine givesV_of_tr Tryz.func18 rfl rfl ?_
  (refine s_r ?_; refine tr_new (rk_box (.of rfl) rfl) rfl (fun _ _ => ?_); refine a_s rfl rfl ?_; refine n_t ?_; refine tr_seq ?_; refine s_r ?_; refine a_s rfl rfl ?_; refine n_t ?_; refine tr_block ?_)
  rename_i b1 hb1
  refine tr_for (fun k : Nat => k ≤ es.length ∧ ∀ i, i < k → (nth es i).nm.size ≤ 40 ∧ (nth es i).mt.size ≤ 40 ∧ (nth es i).kd.size ≤ 40) (fun k => [(3, .int .i64 k), (1, .pointer (some ⟨b1, 0, none⟩))])
    (fun _ => [blk b1 (.cells #[.slice a es.length cap] 24 (0, 0))]) (fun k => es.length - k) ?_ ?_
  · apply tr_start 0 ⟨Nat.zero_le _, fun i h => by omega⟩
    case hs1 => exact .cons rfl (.cons rfl .nil)
    case ht => (try simp only [List.take_zero, List.map_nil, List.nil_append]); exact .cons .here .nil
  rintro k ⟨hk, hf⟩
  by_cases hlt : k < es.length
  · have ha' := ha (ensL_ne hlt)
    have hcell := (hc k _ (ensL_get hlt)).2
    unfold En.cells at hcell
    (refine tr_seq ?_; refine s_r ?_; refine m_v rfl rfl ?_; refine f_a rfl rfl norm0_ ?_; refine tr_val (rk_load1 (.of rfl) (At.lit .here rfl)) rfl ?_; refine tr_val (rk_len_slice (.of rfl)) rfl ?_; refine tr_val (rk_lss (.of rfl) (.of rfl)) rfl ?_; refine n_t ?_; refine c_d rfl (fun hcd => ?_) (fun _ => by omega); refine s_t ?_; refine tr_seq ?_; refine tr_block ?_; refine s_r ?_; refine f_a rfl rfl norm0_ ?_; refine tr_val (rk_load1 (.of rfl) (At.lit .here rfl)) rfl ?_; refine m_v rfl rfl ?_; refine tr_val (rk_indexAddr (.of rfl) (.of rfl) ha' (by omega) hcd norm1_) rfl ?_; refine tr_val (rk_loadN (.of rfl) (Ats.base hcell rfl) rfl) rfl ?_; refine tr_new (rk_alloc rfl) rfl (fun _ _ => ?_); refine tr_store (.of rfl) (.of rfl) .here rfl rfl (okc_cons rfl (okc_cons rfl (okc_cons rfl (okc_cons rfl (okc_cons rfl (okc_cons rfl okc_nil)))))) (lenb rfl) norm_ ?_; refine n_r ?_; refine f_a rfl rfl norm0_ ?_; refine tr_val (rk_load1 (.of rfl) (At.lit .here rfl)) rfl ?_; refine tr_val (rk_len_string (.of rfl)) rfl ?_; refine tr_val (rk_gtr (.of rfl) (.of rfl)) rfl ?_; refine m_v rfl rfl ?_; refine tr_vG1 rfl rfl inferInstance (fun hg hgp => (rk_fieldAddr (.of rfl) norm0_)) rfl ?_; refine tr_vG1 rfl rfl inferInstance (fun hg hgp => (rk_load1 (.ofg hg rfl) (At.lit .here rfl))) rfl ?_; refine tr_vG1 rfl rfl inferInstance (fun hg hgp => (rk_len_string (.ofg hg rfl))) rfl ?_; refine tr_vG1 rfl rfl inferInstance (fun hg hgp => (rk_gtr (.ofg hg rfl) (.of rfl))) rfl ?_; refine tr_val (rk_pick_or (.of rfl) rfl) rfl ?_; refine m_v rfl rfl ?_; refine tr_vG1 rfl rfl inferInstance (fun hg hgp => (rk_fieldAddr (.of rfl) norm0_)) rfl ?_; refine tr_vG1 rfl rfl inferInstance (fun hg hgp => (rk_fieldAddr (.ofg hg rfl) norm0_)) rfl ?_; refine tr_vG1 rfl rfl inferInstance (fun hg hgp => (rk_load1 (.ofg hg rfl) (At.lit .here rfl))) rfl ?_; refine tr_vG1 rfl rfl inferInstance (fun hg hgp => (rk_len_string (.ofg hg rfl))) rfl ?_; refine tr_vG1 rfl rfl inferInstance (fun hg hgp => (rk_gtr (.ofg hg rfl) (.of rfl))) rfl ?_; refine tr_val (rk_pick_or (.of rfl) rfl) rfl ?_; refine n_t ?_; refine c_b rfl (fun hcd => ?_) (fun hcd => ?_); refine s_r ?_; refine a_s rfl rfl ?_; refine n_t ?_; refine tr_ret ?_; refine tr_blk_ret ?_; refine tr_then_ret ?_; refine tr_then_ret ?_; refine tr_blk_ret ?_; refine tr_then_ret ?_; refine tr_retE rfl (ends1 rfl rfl) ?_; rotate_left; refine tr_skip ?_; refine tr_blk_normal ?_; refine tr_then ?_; refine tr_region ?_; refine m_v rfl rfl ?_; refine tr_val (rk_add (.of rfl) (.of rfl) (ini (by omega))) rfl ?_; refine a_s rfl rfl ?_; refine n_t ?_; rotate_right)
    · have : ((List.range es.length).all fun k => decide ((nth es k).nm.size ≤ 40) && decide ((nth es k).mt.size ≤ 40) && decide ((nth es k).kd.size ≤ 40)) = false := by
        rw [List.all_eq_false]
        refine ⟨k, List.mem_range.2 hlt, ?_⟩
        simp only [Bool.not_eq_true, Bool.and_eq_false_iff, decide_eq_false_iff_not]
        omega
      rw [shortB, this]; rfl
    · apply tr_next (k + 1) ⟨by omega, fun i hi => by
        by_cases e : i = k
        · rw [e]; omega
        · exact hf i (by omega)⟩ (by omega)
      case hs1 => exact .cons rfl (.cons rfl .nil)
      case ht => (try simp only [List.take_zero, List.map_nil, List.nil_append]); exact .cons (.there .here) .nil
  · obtain rfl : k = es.length := by omega
    have hall : ((List.range es.length).all fun k => decide ((nth es k).nm.size ≤ 40) && decide ((nth es k).mt.size ≤ 40) && decide ((nth es k).kd.size ≤ 40)) = true := by
      rw [List.all_eq_true]
      intro i hi
      have := hf i (List.mem_range.1 hi)
      simp [this]
    (refine tr_seq ?_; refine s_r ?_; refine m_v rfl rfl ?_; refine f_a rfl rfl norm0_ ?_; refine tr_val (rk_load1 (.of rfl) (At.lit .here rfl)) rfl ?_; refine tr_val (rk_len_slice (.of rfl)) rfl ?_; refine tr_val (rk_lss (.of rfl) (.of rfl)) rfl ?_; refine n_t ?_; refine c_d rfl (fun _ => by omega) (fun hcd => ?_); refine x_t ?_; refine tr_then_exit ?_; refine tr_blk_exit ?_; refine tr_then ?_; refine s_r ?_; refine f_a rfl rfl norm0_ ?_; refine tr_val (rk_load1 (.of rfl) (At.lit .here rfl)) rfl ?_; refine tr_val (rk_len_slice (.of rfl)) rfl ?_; refine tr_val (rk_leq (.of rfl) (.of rfl)) rfl ?_; refine m_v rfl rfl ?_; refine tr_vG1 rfl rfl inferInstance (fun hg hgp => (rk_fieldAddr (.of rfl) norm0_)) rfl ?_; refine tr_vG1 rfl rfl inferInstance (fun hg hgp => (rk_load1 (.ofg hg rfl) (At.lit .here rfl))) rfl ?_; refine tr_vG1 rfl rfl inferInstance (fun hg hgp => (rk_len_slice (.ofg hg rfl))) rfl ?_; refine tr_vG1 rfl rfl inferInstance (fun hg hgp => (rk_eql (.ofg hg rfl) (.of rfl))) rfl ?_; refine tr_val (rk_pick_or (.of rfl) rfl) rfl ?_; refine a_s rfl rfl ?_; refine n_t ?_; refine tr_ret ?_; refine tr_retE rfl (ends1 rfl rfl) ?_)
    rw [shortB, hall, Bool.true_and]
    have e1 : decide ((es.length : Int) ≤ 8) = decide (es.length ≤ 8) := decide_eq_decide.2 (by omega)
    have e2 : decide ((es.length : Int) = 25) = decide (es.length = 25) := decide_eq_decide.2 (by omega)
    rw [e1, e2]
end Go.Proofs.A1


/- S20 -/
namespace Go.Proofs.A1
open Go Go.SL

theorem mapSe {lv fv : Value} {rows : List (List Value)} {f : FuncId} {first cap : List Value} [Bod Tryz.prog f] {img : List Int} {w : World} (h : Rd w lv 4 rows) (hfv : fv = .func (.func f) first.toArray cap.toArray) (hl : img.length = rows.length) (hn : rows.length ≤ 1000000) (h1c : ∀ r ∈ rows, ∀ u ∈ r, u.oneCell' = true)
    (hcall : ∀ (i : Nat) (r : List Value) (e : Int), rows[i]? = some r → img[i]? = some e → ∀ w', Keeps [] w w' → GivesV Tryz.prog f (first ++ [.agg r.toArray] ++ cap) w' (.int .i64 e)) :
    Gives Tryz.prog 114 [lv, fv] w [] (fun _ : Value => True) id (fun v => [row 28 1 v rows.length (img.map (.int .i64))]) := by
  subst hfv
  obtain ⟨a, cp, b, o, rfl, hcap, hmax, ha, hc⟩ := h
  unfold maxLen at hmax
  refine gives_of_tr Tryz.func114 rfl rfl ?_
  (refine s_r ?_; refine a_s rfl rfl ?_; refine n_r ?_; refine a_s rfl rfl ?_; refine n_t ?_; refine tr_seq ?_; refine s_r ?_; refine m_v rfl rfl ?_; refine tr_val (rk_len_slice (.of rfl)) rfl ?_; refine m_v rfl rfl ?_; refine n_t ?_; refine tr_block ?_)
  refine tr_rowNil 28 1 ?_
  refine tr_for (ι := Nat × Value) (fun x => x.1 ≤ rows.length) (fun x => [(10, .int .i64 x.1), (9, .int .i64 rows.length), (8, .slice a rows.length cp), (5, x.2), (1, .func (.func f) first.toArray cap.toArray)]) (fun x => [row 28 1 x.2 x.1 ((img.take x.1).map (.int .i64))]) (fun x => rows.length - x.1) ?_ ?_
  · apply tr_start (0, .slice none 0 0) (Nat.zero_le _)
    case hs1 => exact .cons rfl (.cons rfl (.cons rfl (.cons rfl (.cons rfl .nil))))
    case ht => (try simp only [List.take_zero, List.map_nil, List.nil_append]); exact .cons .here .nil
  rintro ⟨k, v⟩ hk
  dsimp only at hk ⊢
  by_cases hlt : k < rows.length
  · have ha' := ha (by intro e; rw [e] at hlt; simp at hlt)
    have hget : rows[k]? = some rows[k] := List.getElem?_eq_getElem hlt
    have hcell := (hc k _ hget).2
    have hlen := (hc k _ hget).1
    have himg : img[k]? = some (img[k]'(by omega)) := List.getElem?_eq_getElem (by omega)
    have hone := h1c _ (List.getElem_mem hlt)
    have hcl := hcall k _ _ hget himg
    obtain ⟨x0, x1, x2, x3, hx⟩ : ∃ x0 x1 x2 x3, rows[k] = [x0, x1, x2, x3] := by
      match hr : rows[k], hlen with
      | [x0, x1, x2, x3], _ => exact ⟨x0, x1, x2, x3, rfl⟩
    rw [hx] at hcell hone hcl
    have o0_ := hone x0 (by simp)
    have o1_ := hone x1 (by simp)
    have o2_ := hone x2 (by simp)
    have o3_ := hone x3 (by simp)
    (refine s_r ?_; refine tr_val (rk_lss (.of rfl) (.of rfl)) rfl ?_; refine n_t ?_; refine tr_seq ?_; refine c_d rfl (fun hcd => ?_) (fun _ => by omega); refine s_t ?_; refine tr_seq ?_; refine tr_block ?_; refine s_r ?_; refine tr_val (rk_indexAddr (.of rfl) (.of rfl) ha' (by omega) hcd norm1_) rfl ?_; refine tr_val (rk_loadN (.of rfl) (Ats.base hcell rfl) rfl) rfl ?_; refine tr_new (rk_alloc rfl) rfl (fun _ _ => ?_); refine tr_store (.of rfl) (.of rfl) .here rfl rfl (okc_cons o0_ (okc_cons o1_ (okc_cons o2_ (okc_cons o3_ okc_nil)))) (lenb rfl) norm_ ?_; refine n_t ?_; refine tr_region ?_; refine m_v rfl rfl ?_; refine m_v rfl rfl ?_; refine tr_val (rk_loadB (.of rfl) .here norm_ (by rfl)) rfl ?_)
    refine tr_callV (rk_call (.of rfl) (.cons (.of rfl) .nil) inferInstance normc_) rfl (fun w' hm' => (hcl w' (Mem.keeps hm'))) ?_
    refine tr_new (rk_sliceLit (.cons (.of rfl) .nil) rfl rfl rfl rfl) rfl (fun _ _ => ?_)
    refine tr_appendB (.of rfl) (.of rfl) (.there (.there .here)) .here norm_ (by rfl) (okc_cons rfl okc_nil) (by rfl) (by rfl) (by rfl) lenx_ (by rfl) ?_
    intro v'
    (refine a_s rfl rfl ?_; refine tr_nil ?_; refine tr_blk_normal ?_; refine tr_then ?_; refine tr_region ?_; refine tr_val (rk_add (.of rfl) (.of rfl) (ini (by omega))) rfl ?_; refine m_v rfl rfl ?_; refine n_t ?_)
    have ht1 : (img.take (k + 1)).map (Value.int .i64) = (img.take k).map (Value.int .i64) ++ [Value.int .i64 (img[k]'(by omega))] := by
      rw [List.take_add_one, himg, List.map_append]; rfl
    apply tr_next (k + 1, v') (by show k + 1 ≤ rows.length; omega) (by show rows.length - (k + 1) < rows.length - k; omega)
    case hs1 => exact .cons rfl (.cons rfl (.cons rfl (.cons rfl (.cons rfl .nil))))
    case ht =>
      show Takes _ [row 28 1 v' (k + 1) ((img.take (k + 1)).map (Value.int .i64))] _
      rw [ht1]
      exact .cons .here .nil
  · have : k = rows.length := by omega
    subst this
    rw [List.take_of_length_le (by omega)]
    (refine s_r ?_; refine tr_val (rk_lss (.of rfl) (.of rfl)) rfl ?_; refine n_t ?_; refine tr_seq ?_; refine c_d rfl (fun _ => by omega) (fun hcd => ?_); refine x_t ?_; refine tr_then_exit ?_; refine tr_blk_exit ?_; refine tr_then ?_; refine s_r ?_; refine m_v rfl rfl ?_; refine a_s rfl rfl ?_; refine n_t ?_; refine tr_ret ?_)
    first | with_reducible apply tr_retM | with_reducible apply tr_endM
    case he => exact ends1 rfl rfl
    case hR =>
      intro w' hm'
      exact gives_end v trivial (by exact .cons .here .nil) hm' rfl
theorem mapRi {lv fv : Value} {rows : List (List Value)} {f : FuncId} {first cap : List Value} [Bod Tryz.prog f] {img : List Int} {w : World} (h : Rd w lv 3 rows) (hfv : fv = .func (.func f) first.toArray cap.toArray) (hl : img.length = rows.length) (hn : rows.length ≤ 1000000) (h1c : ∀ r ∈ rows, ∀ u ∈ r, u.oneCell' = true)
    (hcall : ∀ (i : Nat) (r : List Value) (e : Int), rows[i]? = some r → img[i]? = some e → ∀ w', Keeps [] w w' → GivesV Tryz.prog f (first ++ [.agg r.toArray] ++ cap) w' (.int .i64 e)) :
    Gives Tryz.prog 117 [lv, fv] w [] (fun _ : Value => True) id (fun v => [row 28 1 v rows.length (img.map (.int .i64))]) := by
  subst hfv
  obtain ⟨a, cp, b, o, rfl, hcap, hmax, ha, hc⟩ := h
  unfold maxLen at hmax
  refine gives_of_tr Tryz.func117 rfl rfl ?_
  (refine s_r ?_; refine a_s rfl rfl ?_; refine n_r ?_; refine a_s rfl rfl ?_; refine n_t ?_; refine tr_seq ?_; refine s_r ?_; refine m_v rfl rfl ?_; refine tr_val (rk_len_slice (.of rfl)) rfl ?_; refine m_v rfl rfl ?_; refine n_t ?_; refine tr_block ?_)
  refine tr_rowNil 28 1 ?_
  refine tr_for (ι := Nat × Value) (fun x => x.1 ≤ rows.length) (fun x => [(10, .int .i64 x.1), (9, .int .i64 rows.length), (8, .slice a rows.length cp), (5, x.2), (1, .func (.func f) first.toArray cap.toArray)]) (fun x => [row 28 1 x.2 x.1 ((img.take x.1).map (.int .i64))]) (fun x => rows.length - x.1) ?_ ?_
  · apply tr_start (0, .slice none 0 0) (Nat.zero_le _)
    case hs1 => exact .cons rfl (.cons rfl (.cons rfl (.cons rfl (.cons rfl .nil))))
    case ht => (try simp only [List.take_zero, List.map_nil, List.nil_append]); exact .cons .here .nil
  rintro ⟨k, v⟩ hk
  dsimp only at hk ⊢
  by_cases hlt : k < rows.length
  · have ha' := ha (by intro e; rw [e] at hlt; simp at hlt)
    have hget : rows[k]? = some rows[k] := List.getElem?_eq_getElem hlt
    have hcell := (hc k _ hget).2
    have hlen := (hc k _ hget).1
    have himg : img[k]? = some (img[k]'(by omega)) := List.getElem?_eq_getElem (by omega)
    have hone := h1c _ (List.getElem_mem hlt)
    have hcl := hcall k _ _ hget himg
    obtain ⟨x0, x1, x2, hx⟩ : ∃ x0 x1 x2, rows[k] = [x0, x1, x2] := by
      match hr : rows[k], hlen with
      | [x0, x1, x2], _ => exact ⟨x0, x1, x2, rfl⟩
    rw [hx] at hcell hone hcl
    have o0_ := hone x0 (by simp)
    have o1_ := hone x1 (by simp)
    have o2_ := hone x2 (by simp)
    (refine s_r ?_; refine tr_val (rk_lss (.of rfl) (.of rfl)) rfl ?_; refine n_t ?_; refine tr_seq ?_; refine c_d rfl (fun hcd => ?_) (fun _ => by omega); refine s_t ?_; refine tr_seq ?_; refine tr_block ?_; refine s_r ?_; refine tr_val (rk_indexAddr (.of rfl) (.of rfl) ha' (by omega) hcd norm1_) rfl ?_; refine tr_val (rk_loadN (.of rfl) (Ats.base hcell rfl) rfl) rfl ?_; refine tr_new (rk_alloc rfl) rfl (fun _ _ => ?_); refine tr_store (.of rfl) (.of rfl) .here rfl rfl (okc_cons o0_ (okc_cons o1_ (okc_cons o2_ okc_nil))) (lenb rfl) norm_ ?_; refine n_t ?_; refine tr_region ?_; refine m_v rfl rfl ?_; refine m_v rfl rfl ?_; refine tr_val (rk_loadB (.of rfl) .here norm_ (by rfl)) rfl ?_)
    refine tr_callV (rk_call (.of rfl) (.cons (.of rfl) .nil) inferInstance normc_) rfl (fun w' hm' => (hcl w' (Mem.keeps hm'))) ?_
    refine tr_new (rk_sliceLit (.cons (.of rfl) .nil) rfl rfl rfl rfl) rfl (fun _ _ => ?_)
    refine tr_appendB (.of rfl) (.of rfl) (.there (.there .here)) .here norm_ (by rfl) (okc_cons rfl okc_nil) (by rfl) (by rfl) (by rfl) lenx_ (by rfl) ?_
    intro v'
    (refine a_s rfl rfl ?_; refine tr_nil ?_; refine tr_blk_normal ?_; refine tr_then ?_; refine tr_region ?_; refine tr_val (rk_add (.of rfl) (.of rfl) (ini (by omega))) rfl ?_; refine m_v rfl rfl ?_; refine n_t ?_)
    have ht1 : (img.take (k + 1)).map (Value.int .i64) = (img.take k).map (Value.int .i64) ++ [Value.int .i64 (img[k]'(by omega))] := by
      rw [List.take_add_one, himg, List.map_append]; rfl
    apply tr_next (k + 1, v') (by show k + 1 ≤ rows.length; omega) (by show rows.length - (k + 1) < rows.length - k; omega)
    case hs1 => exact .cons rfl (.cons rfl (.cons rfl (.cons rfl (.cons rfl .nil))))
    case ht =>
      show Takes _ [row 28 1 v' (k + 1) ((img.take (k + 1)).map (Value.int .i64))] _
      rw [ht1]
      exact .cons .here .nil
  · have : k = rows.length := by omega
    subst this
    rw [List.take_of_length_le (by omega)]
    (refine s_r ?_; refine tr_val (rk_lss (.of rfl) (.of rfl)) rfl ?_; refine n_t ?_; refine tr_seq ?_; refine c_d rfl (fun _ => by omega) (fun hcd => ?_); refine x_t ?_; refine tr_then_exit ?_; refine tr_blk_exit ?_; refine tr_then ?_; refine s_r ?_; refine m_v rfl rfl ?_; refine a_s rfl rfl ?_; refine n_t ?_; refine tr_ret ?_)
    first | with_reducible apply tr_retM | with_reducible apply tr_endM
    case he => exact ends1 rfl rfl
    case hR =>
      intro w' hm'
      exact gives_end v trivial (by exact .cons .here .nil) hm' rfl

/-- a secondary event -/
structure Se where
  en : Int
  fe : Bool
  off : Int
  ln : Int
def Se.cells (x : Se) : List Value := [.int .i64 x.en, .bool x.fe, .int .i64 x.off, .int .i64 x.ln]
def seE (n : Int) (x : Se) : Int := firstF [whenF (decide (x.en < 0) || decide (n ≤ x.en)) 10, withinF x.off (-1000000) 1000000, withinF x.ln 1 1000000]
theorem seC_c (x : Se) {b n cap : Nat} {a : Option Addr} {w : World} (hb : w.cell? ⟨b, 0, none⟩ = some (.slice a n cap)) : GivesV Tryz.prog 112 [.agg x.cells.toArray, .pointer (some ⟨b, 0, none⟩)] w (.int .i64 (seE n x)) := by
  unfold Se.cells
  refine givesV_of_tr Tryz.func112 rfl rfl ?_
  (refine s_r ?_; refine tr_new (rk_box (.of rfl) rfl) rfl (fun _ _ => ?_); refine a_s rfl rfl ?_; refine n_t ?_; refine tr_seq ?_)
  with_reducible refine tr_draw 18 (by kernel_rfl) ?_
  (refine a_f rfl rfl norm0_ ?_; refine any_val (rk_load1 (.of rfl) (At.lit .here rfl)) rfl ?_; refine any_val (rk_lss (.of rfl) (.of rfl)) rfl ?_; refine a_m rfl rfl ?_; refine any_vG1 rfl rfl inferInstance (fun hg hgp => (rk_fieldAddr (.of rfl) norm0_)) rfl ?_; refine any_vG1 rfl rfl inferInstance (fun hg hgp => (rk_load1 (.ofg hg rfl) (At.lit .here rfl))) rfl ?_; refine any_vG1 rfl rfl inferInstance (fun hg hgp => (rk_fieldAddr (.of rfl) norm0_)) rfl ?_; refine any_vG1 rfl rfl inferInstance (fun hg hgp => (rk_load1 (.ofg hg rfl) (At.base hb rfl))) rfl ?_; refine any_vG1 rfl rfl inferInstance (fun hg hgp => (rk_len_slice (.ofg hg rfl))) rfl ?_; refine any_vG1 rfl rfl inferInstance (fun hg hgp => (rk_geq (.ofg hg rfl) (.ofg hg rfl))) rfl ?_; refine any_val (rk_pick_or (.of rfl) rfl) rfl ?_; refine any_call (rk_call (.of rfl) (.cons (.of rfl) (.cons (.of rfl) .nil)) inferInstance normc_) rfl (fun w' hm' => (when_c _ 10 w')) ?_; refine a_f rfl rfl norm0_ ?_; refine any_val (rk_load1 (.of rfl) (At.lit .here rfl)) rfl ?_; refine any_call (rk_call (.of rfl) (.cons (.of rfl) (.cons (.of rfl) (.cons (.of rfl) .nil))) inferInstance normc_) rfl (fun w' hm' => (within_c _ _ 1000000 w')) ?_; refine a_f rfl rfl norm0_ ?_; refine any_val (rk_load1 (.of rfl) (At.lit .here rfl)) rfl ?_; refine any_call (rk_call (.of rfl) (.cons (.of rfl) (.cons (.of rfl) (.cons (.of rfl) .nil))) inferInstance normc_) rfl (fun w' hm' => (within_c _ 1 1000000 w')) ?_)
  with_reducible refine any_end ?_
  (refine tr_new (rk_sliceLit (.cons (.of rfl) (.cons (.of rfl) (.cons (.of rfl) .nil))) rfl rfl rfl rfl) rfl (fun _ _ => ?_); refine tr_callV (rk_call (.of rfl) (.cons (.of rfl) .nil) inferInstance normc_) rfl (fun w' hm' => (first_pB (Mem.rdBlk hm' .here rfl rfl) (IntL.cons (IntL.cons (IntL.cons IntL.nil))))) ?_; refine a_s rfl rfl ?_; refine n_t ?_; refine tr_ret ?_; refine tr_retE rfl (ends1 rfl rfl) ?_)
  rfl
/-- a right -/
structure Ri where
  mt : ByteArray
  f : Int
  t : Int
def Ri.cells (x : Ri) : List Value := [.string x.mt, .int .i64 x.f, .int .i64 x.t]
def riE (x : Ri) : Int := firstF [nmF x.mt, whenF (decide (x.f < 0) || decide (x.t ≤ x.f) || decide (10000000 < x.t)) 14]
theorem riC_c (x : Ri) (w : World) : GivesV Tryz.prog 115 [.agg x.cells.toArray] w (.int .i64 (riE x)) := by
  unfold Ri.cells
  refine givesV_of_tr Tryz.func115 rfl rfl ?_
  (refine s_r ?_; refine tr_new (rk_box (.of rfl) rfl) rfl (fun _ _ => ?_); refine a_s rfl rfl ?_; refine n_t ?_; refine tr_seq ?_)
  with_reducible refine tr_draw 23 (by kernel_rfl) ?_
  (refine a_f rfl rfl norm0_ ?_; refine any_val (rk_load1 (.of rfl) (At.lit .here rfl)) rfl ?_; refine any_call (rk_call (.of rfl) (.cons (.of rfl) .nil) inferInstance normc_) rfl (fun w' hm' => (nm_p _ w')) ?_; refine a_f rfl rfl norm0_ ?_; refine a_f rfl rfl norm0_ ?_; refine any_val (rk_load1 (.of rfl) (At.lit .here rfl)) rfl ?_; refine any_val (rk_lss (.of rfl) (.of rfl)) rfl ?_; refine a_m rfl rfl ?_; refine any_vG1 rfl rfl inferInstance (fun hg hgp => (rk_fieldAddr (.of rfl) norm0_)) rfl ?_; refine any_vG1 rfl rfl inferInstance (fun hg hgp => (rk_fieldAddr (.ofg hg rfl) norm0_)) rfl ?_; refine any_vG1 rfl rfl inferInstance (fun hg hgp => (rk_load1 (.ofg hg rfl) (At.lit .here rfl))) rfl ?_; refine any_vG1 rfl rfl inferInstance (fun hg hgp => (rk_fieldAddr (.of rfl) norm0_)) rfl ?_; refine any_vG1 rfl rfl inferInstance (fun hg hgp => (rk_fieldAddr (.ofg hg rfl) norm0_)) rfl ?_; refine any_vG1 rfl rfl inferInstance (fun hg hgp => (rk_load1 (.ofg hg rfl) (At.lit .here rfl))) rfl ?_; refine any_vG1 rfl rfl inferInstance (fun hg hgp => (rk_geq (.ofg hg rfl) (.ofg hg rfl))) rfl ?_; refine any_val (rk_pick_or (.of rfl) rfl) rfl ?_; refine a_m rfl rfl ?_; refine any_vG1 rfl rfl inferInstance (fun hg hgp => (rk_fieldAddr (.of rfl) norm0_)) rfl ?_; refine any_vG1 rfl rfl inferInstance (fun hg hgp => (rk_fieldAddr (.ofg hg rfl) norm0_)) rfl ?_; refine any_vG1 rfl rfl inferInstance (fun hg hgp => (rk_load1 (.ofg hg rfl) (At.lit .here rfl))) rfl ?_; refine any_vG1 rfl rfl inferInstance (fun hg hgp => (rk_gtr (.ofg hg rfl) (.of rfl))) rfl ?_; refine any_val (rk_pick_or (.of rfl) rfl) rfl ?_; refine any_call (rk_call (.of rfl) (.cons (.of rfl) (.cons (.of rfl) .nil)) inferInstance normc_) rfl (fun w' hm' => (when_c _ 14 w')) ?_)
  with_reducible refine any_end ?_
  (refine tr_new (rk_sliceLit (.cons (.of rfl) (.cons (.of rfl) .nil)) rfl rfl rfl rfl) rfl (fun _ _ => ?_); refine tr_callV (rk_call (.of rfl) (.cons (.of rfl) .nil) inferInstance normc_) rfl (fun w' hm' => (first_pB (Mem.rdBlk hm' .here rfl rfl) (IntL.cons (IntL.cons IntL.nil)))) ?_; refine a_s rfl rfl ?_; refine n_t ?_; refine tr_ret ?_; refine tr_retE rfl (ends1 rfl rfl) ?_)
  rfl
def riOk (x : Ri) (m : ByteArray) (f t : Int) : Bool := decide (x.mt = m) && decide (x.f ≤ f) && decide (t ≤ x.t)
end Go.Proofs.A1

