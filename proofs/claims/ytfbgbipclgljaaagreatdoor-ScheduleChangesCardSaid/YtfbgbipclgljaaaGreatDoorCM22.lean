/- Parts of the proof: R9 R10 R11 Q2p R12 R13 R14 S67. -/
import Derived.Test.YtfbgbipclgljaaaGreatDoorCM21
import Derived.Test.YtfbgbipclgljaaaGreatDoorCM06
set_option linter.unusedSectionVars false
set_option linter.unusedVariables false
set_option linter.unusedSimpArgs false
/- R9 -/
namespace Go.Proofs.A1
open Go Go.SL

theorem chg_flat (es : List En) (k : Nat) (e : En) : (ensL (chg es k k [e])).flatten = (ensL (es.take k)).flatten ++ e.cells ++ (ensL (es.drop k)).flatten := by
  simp [chg, ensL]
theorem ownQ_c {sv : Value} {es : List En} {w : World} (h1 : Rd w sv 6 (ensL es)) (hn : es.length ≤ 1000) :
    Gives Tryz.prog 138 [.agg #[sv]] w [] (fun _ : Value => True) (fun v => .agg #[v]) (fun v => [row 115 6 v es.length (ensL es).flatten]) := by
  have hone := Rd.one h1
  refine gives_of_tr Tryz.func138 rfl rfl ?_
  (refine s_r ?_; refine tr_new (rk_box (.of rfl) rfl) rfl (fun _ _ => ?_); refine tr_new (rk_alloc rfl) rfl (fun _ _ => ?_); refine n_r ?_)
  with_reducible apply tr_new
  case hr => exact rk_sliceLit0
  case hd => rfl
  intro bq hbq
  (refine f_a rfl rfl norm0_ ?_; refine tr_val (rk_load1 (.of rfl) (At.lit (.there (.there .here)) rfl)) rfl ?_)
  refine tr_rowLitE (g := bq) (E := 115) (ys := []) 0 6 (by exact .here) rfl rfl rfl ?_
  with_reducible apply tr_appendR
  case hx => exact Is.of rfl
  case hy => exact Is.of rfl
  case ht => exact .here
  case hsrc => exact fun w' hm' => h1.keeps hm'.keeps
  case h1 => exact ensL_one es
  case hz => exact rfl
  case hsz => exact rfl
  case hb0 => exact rfl
  case hb => rw [ensL_length]; omega
  case hd => rfl
  intro v'
  rw [ensL_length, Nat.zero_add, List.nil_append]
  refine tr_rowSl (E := 115) (sz := 6) (by exact .here) fun a' cap' e => ?_
  subst e
  (refine tr_val (rk_buildL (.cons (.of rfl) .nil) norm_) rfl ?_; refine tr_store (.of rfl) (.of rfl) (.there .here) rfl rfl (okc_cons rfl okc_nil) (lenb rfl) norm_ ?_; refine n_t ?_; refine tr_ret ?_)
  first | with_reducible apply tr_retM | with_reducible apply tr_endM
  case he => exact ends1cB rfl inferInstance rfl .here norm_ (by rfl)
  case hR =>
    intro w' hm'
    exact gives_end (.slice a' es.length cap') trivial (show Takes _ [row 115 6 (.slice a' es.length cap') es.length (ensL es).flatten] _ by exact .cons (.there .here) .nil) hm' rfl
theorem withQ_c {sv : Value} {es : List En} {k : Nat} (e : En) {w : World} (h1 : Rd w sv 6 (ensL es)) (hk : k ≤ es.length) (hn : es.length ≤ 1000) :
    Gives Tryz.prog 139 [.agg #[sv], .int .i64 (k : Int), .agg e.cells.toArray] w [] (fun _ : Value => True) (fun v => .agg #[v]) (fun v => [row 115 6 v (chg es k k [e]).length (ensL (chg es k k [e])).flatten]) := by
  have hfl := chg_flat es k e
  have hln := chg_length es k k [e] hk
  have hT : (es.take k).length = k := by rw [List.length_take]; omega
  have hD : (es.drop k).length = es.length - k := List.length_drop
  have h1' := h1
  obtain ⟨a, cap, b, o, rfl, hcap, hmax, ha, hc⟩ := h1'
  rw [ensL_length] at *
  unfold maxLen at hmax
  have hs1 : Rd w (Go.sliced a 0 (k : Int).toNat cap 6) 6 (ensL (es.take k)) := by
    have := h1.sliced (l := 0) (m := k) (Nat.zero_le _) hk
    rw [List.drop_zero, ensL_take] at this
    exact this
  have hs2 : Rd w (Go.sliced a (k : Int).toNat es.length cap 6) 6 (ensL (es.drop k)) := by
    have := h1.sliced (l := k) (m := es.length) hk (Nat.le_refl _)
    rw [List.take_of_length_le (by rw [ensL_length]; exact Nat.le_refl _), ensL_drop] at this
    exact this
  have hec : e.cells = [.string e.nm, .string e.mt, .string e.kd, .int .i64 e.tm, .int .i64 e.ln, .int .i64 e.ov] := rfl
  rw [hec] at hfl ⊢
  rw [hln, hfl]
  refine gives_of_tr Tryz.func139 rfl rfl ?_
  (refine s_r ?_; refine tr_new (rk_box (.of rfl) rfl) rfl (fun _ _ => ?_); refine tr_new (rk_box (.of rfl) rfl) rfl (fun _ _ => ?_); refine tr_new (rk_alloc rfl) rfl (fun _ _ => ?_); refine n_r ?_)
  with_reducible apply tr_new
  case hr => exact rk_sliceLit0
  case hd => rfl
  intro bq hbq
  (refine f_a rfl rfl norm0_ ?_; refine tr_val (rk_load1 (.of rfl) (At.lit (.there (.there (.there .here))) rfl)) rfl ?_; refine m_v rfl rfl ?_; refine tr_val (rk_slice_h (.of rfl) (.of rfl) (by omega) (by omega)) rfl ?_)
  refine tr_rowLitE (g := bq) (E := 115) (ys := []) 0 6 (by exact .here) rfl rfl rfl ?_
  with_reducible apply tr_appendR
  case hx => exact Is.of rfl
  case hy => exact Is.of rfl
  case ht => exact .here
  case hsrc => exact fun w' hm' => hs1.keeps hm'.keeps
  case h1 => exact ensL_one _
  case hz => exact rfl
  case hsz => exact rfl
  case hb0 => exact rfl
  case hb => rw [ensL_length]; omega
  case hd => rfl
  intro v1
  rw [ensL_length, hT, Nat.zero_add, List.nil_append]
  refine tr_rowSl (E := 115) (sz := 6) (by exact .here) fun a1 cap1 e1 => ?_
  subst e1
  (refine tr_val (rk_buildL (.cons (.of rfl) .nil) norm_) rfl ?_; refine tr_new (rk_alloc rfl) rfl (fun _ _ => ?_); refine tr_store (.of rfl) (.of rfl) .here rfl rfl (okc_cons rfl okc_nil) (lenb rfl) norm_ ?_; refine n_r ?_; refine f_a rfl rfl norm0_ ?_; refine tr_val (rk_load1 (.of rfl) (At.lit .here rfl)) rfl ?_; refine tr_val (rk_loadB (.of rfl) (.there (.there (.there .here))) norm_ (by rfl)) rfl ?_; refine tr_new (rk_sliceLitN (.cons (.of rfl) .nil) rfl rfl normp_ normp_ norm_) rfl (fun _ _ => ?_))
  refine tr_appendB (.of rfl) (.of rfl) (.there (.there .here)) .here norm_ (by rfl) (okc_cons rfl (okc_cons rfl (okc_cons rfl (okc_cons rfl (okc_cons rfl (okc_cons rfl okc_nil)))))) (by rfl) (by rfl) (by rfl) lenx_ (by rfl) ?_
  intro v2
  refine tr_rowSl (E := 115) (sz := 6) (by exact .here) fun a2 cap2 e2 => ?_
  subst e2
  (refine f_a rfl rfl norm0_ ?_; refine tr_store (.of rfl) (.of rfl) (.there (.there .here)) rfl rfl (okc_cons rfl okc_nil) (lenb rfl) norm_ ?_; refine n_t ?_; refine tr_seq ?_)
  with_reducible refine tr_draw 6 (by kernel_rfl) ?_
  (refine a_f rfl rfl norm0_ ?_; refine any_val (rk_load1 (.of rfl) (At.lit .here rfl)) rfl ?_; refine a_f rfl rfl norm0_ ?_; refine any_val (rk_load1 (.of rfl) (At.lit (.there (.there (.there (.there (.there .here))))) rfl)) rfl ?_; refine a_m rfl rfl ?_; refine any_val (rk_slice_l (.of rfl) (.of rfl) (by omega) (by omega)) rfl ?_)
  with_reducible refine any_end ?_
  with_reducible apply tr_appendR
  case hx => exact Is.of rfl
  case hy => exact Is.of rfl
  case ht => exact Take.there .here
  case hsrc => exact fun w' hm' => hs2.keeps hm'.keeps
  case h1 => exact ensL_one _
  case hz => exact rfl
  case hsz => exact rfl
  case hb0 => exact rfl
  case hb => rw [ensL_length]; omega
  case hd => rfl
  intro v3
  rw [ensL_length, hD]
  refine tr_rowSl (E := 115) (sz := 6) (by exact .here) fun a3 cap3 e3 => ?_
  subst e3
  (refine f_a rfl rfl norm0_ ?_; refine tr_store (.of rfl) (.of rfl) (.there .here) rfl rfl (okc_cons rfl okc_nil) (lenb rfl) norm_ ?_; refine n_r ?_; refine tr_val (rk_loadB (.of rfl) .here norm_ (by rfl)) rfl ?_; refine tr_store (.of rfl) (.of rfl) (.there (.there (.there .here))) rfl rfl (okc_cons rfl okc_nil) (lenb rfl) norm_ ?_; refine n_t ?_; refine tr_ret ?_)
  first | with_reducible apply tr_retM | with_reducible apply tr_endM
  case he => exact ends1cB rfl inferInstance rfl .here norm_ (by rfl)
  case hR =>
    intro w' hm'
    exact gives_end (.slice a3 (k + 1 + (es.length - k)) cap3) trivial (show Takes _ [row 115 6 (.slice a3 (k + 1 + (es.length - k)) cap3) (k + 1 + (es.length - k)) _] _ by exact .cons (.there (.there .here)) .nil) hm' rfl
instance decEn : DecidableEq En := fun a b => decidable_of_iff (a.nm = b.nm ∧ a.mt = b.mt ∧ a.kd = b.kd ∧ a.tm = b.tm ∧ a.ln = b.ln ∧ a.ov = b.ov) (by cases a; cases b; simp)
theorem sameQ_c {v1 v2 : Value} {l1 l2 : List En} {w : World} (h1 : Rd w v1 6 (ensL l1)) (h2 : Rd w v2 6 (ensL l2)) : GivesV Tryz.prog 85 [.agg #[v1], .agg #[v2]] w (.bool (decide (l1 = l2))) := by
  obtain ⟨a, cap, b, o, rfl, hcap, hmax, ha, hc⟩ := h1
  obtain ⟨a2, cap2, b2, o2, rfl, hcap2, hmax2, ha2, hc2⟩ := h2
  rw [ensL_length] at *
  rw [ensL_length] at *
  unfold maxLen at hmax hmax2
  refine givesV_of_tr Tryz.func85 rfl rfl ?_
  (refine s_r ?_; refine tr_new (rk_box (.of rfl) rfl) rfl (fun _ _ => ?_); refine tr_new (rk_box (.of rfl) rfl) rfl (fun _ _ => ?_); refine a_s rfl rfl ?_; refine n_t ?_; refine tr_seq ?_; refine s_r ?_; refine f_a rfl rfl norm0_ ?_; refine tr_val (rk_load1 (.of rfl) (At.lit (.there .here) rfl)) rfl ?_; refine tr_val (rk_len_slice (.of rfl)) rfl ?_; refine f_a rfl rfl norm0_ ?_; refine tr_val (rk_load1 (.of rfl) (At.lit .here rfl)) rfl ?_; refine tr_val (rk_len_slice (.of rfl)) rfl ?_; refine tr_val (rk_neq (.of rfl) (.of rfl)) rfl ?_; refine n_t ?_; refine c_d rfl (fun hcd => ?_) (fun hcd => ?_); refine s_r ?_; refine a_s rfl rfl ?_; refine n_t ?_; refine r_t ?_; refine tr_retE rfl (ends1 rfl rfl) ?_; rotate_left; refine s_t ?_; refine tr_seq ?_; refine s_r ?_; refine a_s rfl rfl ?_; refine n_t ?_; refine tr_block ?_; rotate_right)
  · rw [decide_eq_false (fun e => hcd (by rw [e]))]
  have hlen : l1.length = l2.length := by omega
  rename_i c1 hc1 c2 hc2'
  refine tr_for (fun k : Nat => k ≤ l1.length ∧ ∀ i, i < k → l1[i]? = l2[i]?) (fun k => [(5, .int .i64 k), (2, .pointer (some ⟨c1, 0, none⟩)), (3, .pointer (some ⟨c2, 0, none⟩))]) (fun _ => [blk c2 (.cells #[.slice a2 l2.length cap2] 24 (0, 0)), blk c1 (.cells #[.slice a l1.length cap] 24 (0, 0))]) (fun k => l1.length - k) ?_ ?_
  · apply tr_start 0 ⟨Nat.zero_le _, fun i h => by omega⟩
    case hs1 => exact .cons rfl (.cons rfl (.cons rfl .nil))
    case ht => (try simp only [List.take_zero, List.map_nil, List.nil_append]); exact .cons .here (.cons .here .nil)
  rintro k ⟨hk, hf⟩
  by_cases hlt : k < l1.length
  · have hlt2 : k < l2.length := by omega
    have ha' := ha (ensL_ne hlt)
    have ha2' := ha2 (ensL_ne hlt2)
    have hcell := (hc k _ (ensL_get hlt)).2
    have hcell2 := (hc2 k _ (ensL_get hlt2)).2
    have hx1 := nth_eq hlt
    have hy1 := nth_eq hlt2
    generalize hx : nth l1 k = x at hcell hx1
    generalize hy : nth l2 k = y at hcell2 hy1
    obtain ⟨x0, x1, x2, x3, x4, x5⟩ := x
    obtain ⟨y0, y1, y2, y3, y4, y5⟩ := y
    unfold En.cells at hcell hcell2
    dsimp only at hcell hcell2
    (refine tr_seq ?_; refine s_r ?_; refine m_v rfl rfl ?_; refine f_a rfl rfl norm0_ ?_; refine tr_val (rk_load1 (.of rfl) (At.lit (.there .here) rfl)) rfl ?_; refine tr_val (rk_len_slice (.of rfl)) rfl ?_; refine tr_val (rk_lss (.of rfl) (.of rfl)) rfl ?_; refine n_t ?_; refine c_d rfl (fun hcd => ?_) (fun _ => by omega); refine s_t ?_; refine tr_seq ?_; refine tr_block ?_; refine tr_seq ?_)
    with_reducible refine tr_draw 11 (by kernel_rfl) ?_
    (refine a_f rfl rfl norm0_ ?_; refine any_val (rk_load1 (.of rfl) (At.lit (.there .here) rfl)) rfl ?_; refine a_m rfl rfl ?_; refine any_val (rk_indexAddr (.of rfl) (.of rfl) ha' (by omega) hcd norm1_) rfl ?_; refine any_val (rk_loadN (.of rfl) (Ats.base hcell rfl) rfl) rfl ?_; refine a_f rfl rfl norm0_ ?_; refine any_val (rk_load1 (.of rfl) (At.lit .here rfl)) rfl ?_; refine a_m rfl rfl ?_; refine any_val (rk_indexAddr (.of rfl) (.of rfl) ha2' (by omega) (by omega) norm1_) rfl ?_; refine any_val (rk_loadN (.of rfl) (Ats.base hcell2 rfl) rfl) rfl ?_; refine any_val (rk_neqA (.of rfl) (.of rfl) (okL_string (okL_string (okL_string (okL_int (okL_int (okL_int okL_nil)))))) rfl) rfl ?_)
    with_reducible refine any_end ?_
    (refine n_t ?_; refine c_b rfl (fun hcd => ?_) (fun hcd => ?_); refine s_r ?_; refine a_s rfl rfl ?_; refine n_t ?_; refine tr_ret ?_; refine tr_blk_ret ?_; refine tr_then_ret ?_; refine tr_then_ret ?_; refine tr_blk_ret ?_; refine tr_then_ret ?_; refine tr_retE rfl (ends1 rfl rfl) ?_; rotate_left; refine tr_skip ?_; refine tr_blk_normal ?_; refine tr_then ?_; refine tr_region ?_; refine m_v rfl rfl ?_; refine tr_val (rk_add (.of rfl) (.of rfl) (ini (by omega))) rfl ?_; refine a_s rfl rfl ?_; refine n_t ?_; rotate_right)
    · have hne : ¬ l1 = l2 := by
        intro e
        subst e
        rw [← hx1] at hy1
        cases hy1
        simp at hcd
      rw [decide_eq_false hne]
    · have heq : l1[k]? = l2[k]? := by
        rw [List.getElem?_eq_getElem hlt, List.getElem?_eq_getElem hlt2, ← hx1, ← hy1]
        simp at hcd
        simp [hcd]
      apply tr_next (k + 1) ⟨by omega, fun i hi => by
        by_cases e : i = k
        · rw [e]; exact heq
        · exact hf i (by omega)⟩ (by omega)
      case hs1 => exact .cons rfl (.cons rfl (.cons rfl .nil))
      case ht => (try simp only [List.take_zero, List.map_nil, List.nil_append]); exact .cons .here (.cons .here .nil)
  · obtain rfl : k = l1.length := by omega
    (refine tr_seq ?_; refine s_r ?_; refine m_v rfl rfl ?_; refine f_a rfl rfl norm0_ ?_; refine tr_val (rk_load1 (.of rfl) (At.lit (.there .here) rfl)) rfl ?_; refine tr_val (rk_len_slice (.of rfl)) rfl ?_; refine tr_val (rk_lss (.of rfl) (.of rfl)) rfl ?_; refine n_t ?_; refine c_d rfl (fun _ => by omega) (fun hcd => ?_); refine x_t ?_; refine tr_then_exit ?_; refine tr_blk_exit ?_; refine tr_then ?_; refine s_r ?_; refine a_s rfl rfl ?_; refine n_t ?_; refine tr_ret ?_; refine tr_retE rfl (ends1 rfl rfl) ?_)
    have : l1 = l2 := List.ext_getElem? fun i => by
      by_cases hi : i < l1.length
      · exact hf i hi
      · rw [List.getElem?_eq_none (by omega), List.getElem?_eq_none (by omega)]
    rw [decide_eq_true this]
end Go.Proofs.A1


/- R10 -/
namespace Go.Proofs.A1
open Go Go.SL

end Go.Proofs.A1


/- R11 -/
namespace Go.Proofs.A1
open Go Go.SL

set_option maxHeartbeats 1000000 in
theorem changed_t {v u : Value} {es ws : List En} {e : Int} {w : World} (h1 : Rd w v 6 (ensL es)) (h2 : Rd w u 6 (ensL ws)) (hl : es.length ≤ 1000) (h0 : e ≠ 0 → es = []) (hz : e = 0 → es = ws) :
    GivesV Tryz.prog 58 [.agg #[v], .int .i64 e, .int .i64 e, .agg #[u]] w (.bool true) := by
  have h1' := h1
  have hone2 := Rd.one h2
  obtain ⟨a, cap, b, o, rfl, hcap, hmax, ha, hc⟩ := h1'
  rw [ensL_length] at *
  unfold maxLen at hmax
  refine givesV_of_tr Tryz.func58 rfl rfl ?_
  (refine s_r ?_; refine tr_new (rk_box (.of rfl) rfl) rfl (fun _ _ => ?_); refine tr_new (rk_box (.of rfl) rfl) rfl (fun _ _ => ?_); refine a_s rfl rfl ?_; refine n_t ?_; refine tr_seq ?_)
  rename_i b4 hb4 b7 hb7
  with_reducible refine tr_drawM 24 (by kernel_rfl) ?_
  (refine am_val (fun β => (rk_move (.of rfl))) ind0 rfl ?_; refine am_val (fun β => (rk_move (.of rfl))) ind0 rfl ?_; refine am_val (fun β => (rk_eql (.of rfl) (.of rfl))) ind0 rfl ?_; refine am_val (fun β => (rk_move (.of rfl))) ind0 rfl ?_)
  rw [show decide (e = e) = true from decide_eq_true rfl]
  (refine am_gOn rfl (fun _ => rfl) ?_; refine am_val (fun β => (rk_move (.of rfl))) ind0 rfl ?_; refine am_gOn rfl (fun _ => rfl) ?_; refine am_val (fun β => (rk_neq (.of rfl) (.of rfl))) ind0 rfl ?_; refine am_gOn rfl (fun _ => rfl) ?_; refine am_val (fun β => (rk_move (.of rfl))) ind0 rfl ?_)
  by_cases he : e = 0
  · rw [show decide (e ≠ 0) = false from decide_eq_false (fun h => h he)]
    (refine am_gOff rfl (fun _ => rfl) (Or.inr rfl) rfl ?_; refine am_gOff rfl (fun _ => rfl) (Or.inr rfl) rfl ?_; refine am_gOff rfl (fun _ => rfl) (Or.inr rfl) rfl ?_; refine am_gOff rfl (fun _ => rfl) (Or.inr rfl) rfl ?_; refine am_gOn rfl (fun _ => rfl) ?_; refine am_val (fun β => (rk_pickB (.of rfl) (.of rfl) (.of rfl) rfl)) ind0 rfl ?_; refine am_gOn rfl (fun _ => rfl) ?_; refine am_val (fun β => (rk_move (.of rfl))) ind0 rfl ?_; refine am_gOn rfl (fun _ => rfl) ?_; refine am_val (fun β => (rk_move (.of rfl))) ind0 rfl ?_; refine am_gOn rfl (fun _ => rfl) ?_; refine am_val (fun β => (rk_eql (.of rfl) (.of rfl))) ind0 rfl ?_; refine am_gOn rfl (fun _ => rfl) ?_; refine am_val (fun β => (rk_move (.of rfl))) ind0 rfl ?_)
    rw [show decide (e = 0) = true from decide_eq_true he]
    (refine am_gOn rfl (fun _ => rfl) ?_; refine am_val (fun β => (rk_loadB (.of rfl) (.there .here) norm_ (by rfl))) ind0 rfl ?_)
    have hsame : ∀ (v' : Value) w', Keeps [] w w' → Rd w' v' 6 (ensL es) → GivesV Tryz.prog 85 [.agg #[v'], .agg #[u]] w' (.bool true) := fun v' w' hk hr => by
      have := sameQ_c hr (h2.keeps hk)
      rwa [decide_eq_true (hz he)] at this
    dsimp only [Nat.zero_add, Nat.reduceAdd]
    refine am_gOn rfl (fun _ => rfl) ?_
    with_reducible apply am_call (ι := Value) (Φ := fun _ => True) (val := fun v => .agg #[v]) (own := fun v => [row 115 6 v es.length (enR es es.length)]) (g := id) (B := []) (args := fun _ => [.agg #[.slice a es.length cap]])
    case hg => exact fun x => ⟨x, rfl⟩
    case hB => rfl
    case hr => exact fun β => rk_call (.of rfl) (.cons (.of rfl) .nil) inferInstance rfl
    case hd => rfl
    case hc => exact fun β w' hb => told_c (h1.keeps hb.mem.keeps) hl
    dsimp only [id_eq, Nat.reduceAdd]
    (refine am_gOn rfl (fun _ => rfl) ?_; refine am_val (fun β => (rk_loadB (.of rfl) .here norm_ (by rfl))) ind0 rfl ?_)
    dsimp only [Nat.reduceAdd]
    refine am_gOn rfl (fun _ => rfl) ?_
    with_reducible apply am_callV (B := [17]) (F := fun _ => .bool true) (args := fun β => [.agg #[β 17], .agg #[u]])
    case hB => kernel_rfl
    case hr => exact fun β => rk_call (.of rfl) (.cons (.of rfl) (.cons (.of rfl) .nil)) inferInstance rfl
    case hi => exact ind0
    case hd => rfl
    case hc =>
      intro β w' hb
      have hm' := hb.at 17 List.mem_cons_self (s := ⟨fun β => .agg #[β 17], fun β => [row 115 6 (β 17) es.length (enR es es.length)]⟩) (by kernel_rfl)
      dsimp only [List.cons_append, List.nil_append] at hm'
      exact hsame _ w' hb.mem.keeps (rdEn hm' (by exact .here))
    (refine am_gOn rfl (fun _ => rfl) ?_; refine am_val (fun β => (rk_pickB (.of rfl) (.of rfl) (.of rfl) rfl)) ind0 rfl ?_; refine am_gOn rfl (fun _ => rfl) ?_; refine am_val (fun β => (rk_pickB (.of rfl) (.of rfl) (.of rfl) rfl)) ind0 rfl ?_; refine am_val (fun β => (rk_pickB (.of rfl) (.of rfl) (.of rfl) rfl)) ind0 rfl ?_; refine am_val (fun β => (rk_assign (.of rfl))) ind0 rfl ?_)
    refine am_end fun β => ?_
    dsimp only [resAll, List.nil_append, List.cons_append, List.append_eq, Nat.reduceAdd]
    with_reducible refine left_done (by kernel_rfl) ?_
    (refine tr_then ?_; refine tr_ret ?_; refine tr_retE rfl (ends1 rfl rfl) ?_)
    rfl
  · have hes := h0 he
    subst hes
    rw [show decide (e ≠ 0) = true from decide_eq_true he]
    (refine am_gOn rfl (fun _ => rfl) ?_; refine am_val (fun β => (rk_fieldAddr (.of rfl) norm0_)) ind0 rfl ?_; refine am_gOn rfl (fun _ => rfl) ?_; refine am_val (fun β => (rk_load1 (.of rfl) (At.lit (.there .here) rfl))) ind0 rfl ?_; refine am_gOn rfl (fun _ => rfl) ?_; refine am_val (fun β => (rk_len_slice (.of rfl))) ind0 rfl ?_; refine am_gOn rfl (fun _ => rfl) ?_; refine am_val (fun β => (rk_eql (.of rfl) (.of rfl))) ind0 rfl ?_; refine am_gOn rfl (fun _ => rfl) ?_; refine am_val (fun β => (rk_pickB (.of rfl) (.of rfl) (.of rfl) rfl)) ind0 rfl ?_; refine am_gOn rfl (fun _ => rfl) ?_; refine am_val (fun β => (rk_move (.of rfl))) ind0 rfl ?_; refine am_gOff rfl (fun _ => rfl) (Or.inr rfl) rfl ?_; refine am_gOff rfl (fun _ => rfl) (Or.inr rfl) rfl ?_; refine am_gOff rfl (fun _ => rfl) (Or.inr rfl) rfl ?_; refine am_gOff rfl (fun _ => rfl) (Or.inl rfl) rfl ?_; refine am_gOff rfl (fun _ => rfl) (Or.inl rfl) rfl ?_; refine am_gOff rfl (fun _ => rfl) (Or.inl rfl) rfl ?_; refine am_gOff rfl (fun _ => rfl) (Or.inl rfl) rfl ?_; refine am_gOff rfl (fun _ => rfl) (Or.inr rfl) rfl ?_; refine am_gOn rfl (fun _ => rfl) ?_; refine am_val (fun β => (rk_pickB (.of rfl) (.of rfl) (.of rfl) rfl)) ind0 rfl ?_; refine am_val (fun β => (rk_pickB (.of rfl) (.of rfl) (.of rfl) rfl)) ind0 rfl ?_; refine am_val (fun β => (rk_assign (.of rfl))) ind0 rfl ?_)
    rw [show decide ((([] : List En).length : Int) = 0) = true from rfl]
    skip
    refine am_end fun β => ?_
    dsimp only [resAll, List.nil_append, List.cons_append, List.append_eq, Nat.reduceAdd]
    with_reducible refine left_done (by kernel_rfl) ?_
    (refine tr_then ?_; refine tr_ret ?_; refine tr_retE rfl (ends1 rfl rfl) ?_)
    rfl
end Go.Proofs.A1


/- Q2p -/
/- Placing: the errors of the program and those of the reference are the same. Plain Lean. -/
namespace Go.Proofs.A1
open Go Go.SL
section
variable {es : List En} {b : Br} {gap : Int} {ol : List Int}
end
end Go.Proofs.A1


/- R12 -/
namespace Go.Proofs.A1
open Go Go.SL

theorem rk_geqT {P : Program} {c : Cx} {sl : Slots} {hs : List Asn} {dst : Option Tmp} {ty : TypeId} {pos : String} {af : Array Edge} {g : Option (Nat × Bool)} {k : IntKind} {t u : TypeId} {x y : Operand} {a b : Int} (hx : Is sl x (.int k a)) (hy : Is sl y (.int k b)) (e : b ≤ a) :
    RunV P c sl hs ⟨dst, .binOp .geq t x y u, ty, pos, af, g⟩ (.bool true) := by
  have := rk_geq (P := P) (c := c) (hs := hs) (dst := dst) (ty := ty) (pos := pos) (af := af) (g := g) (t := t) (u := u) hx hy
  rwa [decide_eq_true e] at this
theorem rk_lssT {P : Program} {c : Cx} {sl : Slots} {hs : List Asn} {dst : Option Tmp} {ty : TypeId} {pos : String} {af : Array Edge} {g : Option (Nat × Bool)} {k : IntKind} {t u : TypeId} {x y : Operand} {a b : Int} (hx : Is sl x (.int k a)) (hy : Is sl y (.int k b)) (e : a < b) :
    RunV P c sl hs ⟨dst, .binOp .lss t x y u, ty, pos, af, g⟩ (.bool true) := by
  have := rk_lss (P := P) (c := c) (hs := hs) (dst := dst) (ty := ty) (pos := pos) (af := af) (g := g) (t := t) (u := u) hx hy
  rwa [decide_eq_true e] at this
theorem rk_lssF {P : Program} {c : Cx} {sl : Slots} {hs : List Asn} {dst : Option Tmp} {ty : TypeId} {pos : String} {af : Array Edge} {g : Option (Nat × Bool)} {k : IntKind} {t u : TypeId} {x y : Operand} {a b : Int} (hx : Is sl x (.int k a)) (hy : Is sl y (.int k b)) (e : ¬ a < b) :
    RunV P c sl hs ⟨dst, .binOp .lss t x y u, ty, pos, af, g⟩ (.bool false) := by
  have := rk_lss (P := P) (c := c) (hs := hs) (dst := dst) (ty := ty) (pos := pos) (af := af) (g := g) (t := t) (u := u) hx hy
  rwa [decide_eq_false e] at this
theorem shortEntry_c (e : En) (w : World) : GivesV Tryz.prog 68 [.agg e.cells.toArray] w (.bool (decide (e.nm.size ≤ 40) && (decide (e.mt.size ≤ 40) && decide (e.kd.size ≤ 40)))) := by
  have hxc : e.cells = [.string e.nm, .string e.mt, .string e.kd, .int .i64 e.tm, .int .i64 e.ln, .int .i64 e.ov] := rfl
  rw [hxc]
  refine givesV_of_tr Tryz.func68 rfl rfl ?_
  (refine s_r ?_; refine tr_new (rk_box (.of rfl) rfl) rfl (fun _ _ => ?_); refine a_s rfl rfl ?_; refine n_r ?_; refine f_a rfl rfl norm0_ ?_; refine tr_val (rk_load1 (.of rfl) (At.lit .here rfl)) rfl ?_; refine tr_val (rk_len_string (.of rfl)) rfl ?_; refine tr_val (rk_leq (.of rfl) (.of rfl)) rfl ?_; refine m_v rfl rfl ?_; refine tr_vG1 rfl rfl inferInstance (fun hg hgp => (rk_fieldAddr (.of rfl) norm0_)) rfl ?_; refine tr_vG1 rfl rfl inferInstance (fun hg hgp => (rk_load1 (.ofg hg rfl) (At.lit .here rfl))) rfl ?_; refine tr_vG1 rfl rfl inferInstance (fun hg hgp => (rk_len_string (.ofg hg rfl))) rfl ?_; refine tr_vG1 rfl rfl inferInstance (fun hg hgp => (rk_leq (.ofg hg rfl) (.of rfl))) rfl ?_; refine tr_val (rk_pick_and (.of rfl) rfl) rfl ?_; refine m_v rfl rfl ?_; refine tr_vG1 rfl rfl inferInstance (fun hg hgp => (rk_fieldAddr (.of rfl) norm0_)) rfl ?_; refine tr_vG1 rfl rfl inferInstance (fun hg hgp => (rk_fieldAddr (.ofg hg rfl) norm0_)) rfl ?_; refine tr_vG1 rfl rfl inferInstance (fun hg hgp => (rk_load1 (.ofg hg rfl) (At.lit .here rfl))) rfl ?_; refine tr_vG1 rfl rfl inferInstance (fun hg hgp => (rk_len_string (.ofg hg rfl))) rfl ?_; refine tr_vG1 rfl rfl inferInstance (fun hg hgp => (rk_leq (.ofg hg rfl) (.of rfl))) rfl ?_; refine tr_val (rk_pick_and (.of rfl) rfl) rfl ?_; refine a_s rfl rfl ?_; refine n_t ?_; refine tr_ret ?_; refine tr_retE rfl (ends1 rfl rfl) ?_)
  have d : ∀ n : Nat, decide ((n : Int) ≤ 40) = decide (n ≤ 40) := fun n => decide_eq_decide.2 (by omega)
  rw [d, d, d, Bool.and_assoc]
theorem begunQ_c {sv : Value} {es : List En} {k : Nat} {now : Int} {w : World} (h1 : Rd w sv 6 (ensL es)) (hs : Sound es) :
    GivesV Tryz.prog 153 [.agg #[sv], .int .i64 now, .int .i64 (k : Int)] w (.bool (decide (k < es.length ∧ fr es k ≤ now))) := by
  have hone := Rd.one h1
  have h1' := h1
  obtain ⟨a, cap, b, o, rfl, hcap, hmax, ha, hc⟩ := h1'
  rw [ensL_length] at *
  unfold maxLen at hmax
  have hc0 : (0 : Int) ≤ (k : Int) := by omega
  refine givesV_of_tr Tryz.func153 rfl rfl ?_
  by_cases hlt' : k < es.length
  · have hlt : (k : Int) < (es.length : Int) := by omega
    (refine s_r ?_; refine tr_new (rk_box (.of rfl) rfl) rfl (fun _ _ => ?_); refine a_s rfl rfl ?_; refine n_r ?_; refine m_v rfl rfl ?_; refine tr_val (rk_geqT (.of rfl) (.of rfl) hc0) rfl ?_; refine m_v rfl rfl ?_; refine tr_gOn rfl rfl ?_; refine m_v rfl rfl ?_; refine tr_gOn rfl rfl ?_; refine f_a rfl rfl norm0_ ?_; refine tr_gOn rfl rfl ?_; refine tr_val (rk_load1 (.of rfl) (At.lit .here rfl)) rfl ?_; refine tr_gOn rfl rfl ?_; refine tr_val (rk_len_slice (.of rfl)) rfl ?_; refine tr_gOn rfl rfl ?_; refine tr_val (rk_lssT (.of rfl) (.of rfl) hlt) rfl ?_; refine tr_val (rk_pickB (.of rfl) (.of rfl) (.of rfl) rfl) rfl ?_; refine m_v rfl rfl ?_; refine tr_gOn rfl rfl ?_; refine tr_val (rk_loadB (.of rfl) .here norm_ (by rfl)) rfl ?_; refine tr_gOn rfl rfl ?_)
    with_reducible apply tr_call
    case hr => exact rk_call (.of rfl) (.cons (.of rfl) .nil) inferInstance normc_
    case hd => rfl
    case ht => exact Takes.nil
    case hc =>
      intro w1 fp hm1 _ hs1
      obtain rfl : fp = [] := hs1
      exact spansQ_c (h1.keeps hm1.keeps) hs
    intro v _
    dsimp only [id_eq, List.cons_append, List.nil_append]
    refine tr_rowOpen (E := 66) (sz := 2) (by exact .here) (by omega) fun g cap' cur e hcap' hmx' hsz' hl' => ?_
    subst e
    have q0 : (spV es es.length ++ cur)[k * 2]? = some (.int .i64 (fr es k)) := spV_at (j := 0) (by omega) cur hlt'
    (refine tr_gOn rfl rfl ?_; refine m_v rfl rfl ?_; refine tr_gOn rfl rfl ?_; refine tr_val (rk_indexAddr (.of rfl) (.of rfl) rfl hc0 hlt norm1_) rfl ?_; refine tr_gOn rfl rfl ?_; refine f_a rfl rfl norm0_ ?_; refine tr_gOn rfl rfl ?_; refine tr_val (rk_load1 (.of rfl) (At.blkL .here q0)) rfl ?_; refine tr_gOn rfl rfl ?_; refine m_v rfl rfl ?_; refine tr_gOn rfl rfl ?_; refine tr_val (rk_leq (.of rfl) (.of rfl)) rfl ?_)
    refine tr_val (V := Value.bool (decide (fr es k ≤ now))) (rk_pickB (.of rfl) (.of rfl) (.of rfl) rfl) rfl ?_
    (refine a_s rfl rfl ?_; refine n_t ?_; refine tr_ret ?_; refine tr_retE rfl (ends1 rfl rfl) ?_)
    rw [decide_eq_decide.2 (show (k < es.length ∧ fr es k ≤ now) ↔ fr es k ≤ now from ⟨fun h => h.2, fun h => ⟨hlt', h⟩⟩)]
  · have hlt : ¬ (k : Int) < (es.length : Int) := by omega
    (refine s_r ?_; refine tr_new (rk_box (.of rfl) rfl) rfl (fun _ _ => ?_); refine a_s rfl rfl ?_; refine n_r ?_; refine m_v rfl rfl ?_; refine tr_val (rk_geqT (.of rfl) (.of rfl) hc0) rfl ?_; refine m_v rfl rfl ?_; refine tr_gOn rfl rfl ?_; refine m_v rfl rfl ?_; refine tr_gOn rfl rfl ?_; refine f_a rfl rfl norm0_ ?_; refine tr_gOn rfl rfl ?_; refine tr_val (rk_load1 (.of rfl) (At.lit .here rfl)) rfl ?_; refine tr_gOn rfl rfl ?_; refine tr_val (rk_len_slice (.of rfl)) rfl ?_; refine tr_gOn rfl rfl ?_; refine tr_val (rk_lssF (.of rfl) (.of rfl) hlt) rfl ?_; refine tr_val (rk_pickB (.of rfl) (.of rfl) (.of rfl) rfl) rfl ?_; refine m_v rfl rfl ?_; refine tr_gOff rfl rfl rfl ?_; refine tr_gOff rfl rfl rfl ?_; refine tr_gOff rfl rfl rfl ?_; refine tr_gOff rfl rfl rfl ?_; refine tr_gOff rfl rfl rfl ?_; refine tr_gOff rfl rfl rfl ?_; refine tr_gOff rfl rfl rfl ?_; refine tr_gOff rfl rfl rfl ?_; refine tr_val (rk_pickB (.of rfl) (.of rfl) (.of rfl) rfl) rfl ?_; refine a_s rfl rfl ?_; refine n_t ?_; refine tr_ret ?_; refine tr_retE rfl (ends1 rfl rfl) ?_)
    exact congrArg Value.bool (decide_eq_false (show ¬ (k < es.length ∧ fr es k ≤ now) from fun h => hlt' h.1)).symm
end Go.Proofs.A1


/- R13 -/
namespace Go.Proofs.A1
open Go Go.SL

theorem resultQ_c {sv : Value} {es : List En} {k : Nat} {now : Int} {w : World} (h1 : Rd w sv 6 (ensL es)) :
    GivesV Tryz.prog 154 [.agg #[sv], .int .i64 now, .int .i64 (k : Int)] w (.tuple #[.agg #[if lateE es now k = 0 then sv else .slice none 0 0], .int .i64 (lateE es now k)]) := by
  have hone := Rd.one h1
  have h1' := h1
  obtain ⟨a, cap, b, o, rfl, hcap, hmax, ha, hc⟩ := h1'
  rw [ensL_length] at *
  unfold maxLen at hmax
  refine givesV_of_tr Tryz.func154 rfl rfl ?_
  (refine s_r ?_; refine tr_new (rk_box (.of rfl) rfl) rfl (fun _ _ => ?_); refine tr_new (rk_alloc rfl) rfl (fun _ _ => ?_); refine a_s rfl rfl ?_; refine n_t ?_; refine tr_seq ?_; refine s_r ?_; refine tr_val (rk_loadB (.of rfl) (.there .here) norm_ (by rfl)) rfl ?_; refine tr_callV (rk_call (.of rfl) (.cons (.of rfl) .nil) inferInstance normc_) rfl (fun w' hm' => (chkQ_c (Rd.keeps h1 (Mem.keeps hm')))) ?_; refine a_s rfl rfl ?_; refine n_r ?_; refine m_v rfl rfl ?_; refine tr_val (rk_neq (.of rfl) (.of rfl)) rfl ?_; refine n_t ?_; refine c_d rfl (fun hcd => ?_) (fun hcd => ?_); refine s_r ?_; refine tr_val (rk_buildL .nil norm_) rfl ?_; refine m_v rfl rfl ?_; refine tr_store (.of rfl) (.of rfl) .here rfl rfl (okc_cons rfl okc_nil) (lenb rfl) norm_ ?_; refine a_s rfl rfl ?_; refine n_t ?_; refine r_t ?_; refine tr_retE rfl (endsCT rfl inferInstance rfl .here norm_ (by rfl) (by rfl)) ?_; rotate_left; refine s_t ?_; refine tr_seq ?_; refine s_r ?_; refine tr_val (rk_loadB (.of rfl) (.there .here) norm_ (by rfl)) rfl ?_; refine m_v rfl rfl ?_; refine m_v rfl rfl ?_; rotate_right)
  · have hl : lateE es now k = chkF es := by rw [lateE, if_pos hcd]
    rw [hl, if_neg hcd]
  have hz : chkF es = 0 := Decidable.not_not.1 hcd
  have hs := Sound.of hz
  (refine tr_callV (rk_call (.of rfl) (.cons (.of rfl) (.cons (.of rfl) (.cons (.of rfl) .nil))) inferInstance normc_) rfl (fun w' hm' => (begunQ_c (Rd.keeps h1 (Mem.keeps hm')) hs)) ?_; refine n_t ?_; refine c_d rfl (fun hcd => ?_) (fun hcd => ?_); refine s_r ?_; refine tr_val (rk_buildL .nil norm_) rfl ?_; refine tr_store (.of rfl) (.of rfl) .here rfl rfl (okc_cons rfl okc_nil) (lenb rfl) norm_ ?_; refine a_s rfl rfl ?_; refine n_t ?_; refine r_t ?_; refine tr_retE rfl (endsCT rfl inferInstance rfl .here norm_ (by rfl) (by rfl)) ?_; rotate_left; refine s_t ?_; refine s_r ?_; refine tr_val (rk_loadB (.of rfl) (.there .here) norm_ (by rfl)) rfl ?_; refine tr_store (.of rfl) (.of rfl) .here rfl rfl (okc_cons rfl okc_nil) (lenb rfl) norm_ ?_; refine a_s rfl rfl ?_; refine n_t ?_; refine tr_ret ?_; refine tr_retE rfl (endsCT rfl inferInstance rfl .here norm_ (by rfl) (by rfl)) ?_; rotate_right)
  · have hl : lateE es now k = 23 := by rw [lateE, if_neg (by rw [hz]; decide), if_pos hcd]
    rw [hl, if_neg (by decide)]
  · have hl : lateE es now k = 0 := by rw [lateE, if_neg (by rw [hz]; decide), if_neg hcd]
    rw [hl, if_pos rfl]
def insE (es : List En) (now : Int) (k : Nat) (x : En) : Int := if k < es.length ∧ fr es k ≤ now then 23 else lateE (chg es k k [x]) now k
def insL (es : List En) (now : Int) (k : Nat) (x : En) : List En := if insE es now k x = 0 then chg es k k [x] else []
theorem insertedQ_c {sv : Value} {es : List En} {k : Nat} {now : Int} (x : En) {w : World} (h1 : Rd w sv 6 (ensL es)) (hs : Sound es) (hk : k ≤ es.length) :
    Gives Tryz.prog 75 [.agg #[sv], .int .i64 now, .int .i64 (k : Int), .agg x.cells.toArray] w [] (fun _ : Value => True) (fun v => .tuple #[.agg #[v], .int .i64 (insE es now k x)]) (fun v => [row 115 6 v (insL es now k x).length (ensL (insL es now k x)).flatten]) := by
  have hone := Rd.one h1
  have hfew := hs.all.few
  have hxc : x.cells = [.string x.nm, .string x.mt, .string x.kd, .int .i64 x.tm, .int .i64 x.ln, .int .i64 x.ov] := rfl
  have hwt : ∀ w', Keeps [] w w' → _ := fun w' hk' => withQ_c (sv := sv) (es := es) (k := k) x (h1.keeps hk') hk (by omega)
  rw [hxc] at hwt ⊢
  refine gives_of_tr Tryz.func75 rfl rfl ?_
  (refine s_r ?_; refine tr_new (rk_box (.of rfl) rfl) rfl (fun _ _ => ?_); refine tr_new (rk_box (.of rfl) rfl) rfl (fun _ _ => ?_); refine tr_new (rk_alloc rfl) rfl (fun _ _ => ?_); refine a_s rfl rfl ?_; refine n_t ?_; refine tr_seq ?_; refine s_r ?_; refine tr_val (rk_loadB (.of rfl) (.there (.there .here)) norm_ (by rfl)) rfl ?_; refine m_v rfl rfl ?_; refine m_v rfl rfl ?_; refine tr_callV (rk_call (.of rfl) (.cons (.of rfl) (.cons (.of rfl) (.cons (.of rfl) .nil))) inferInstance normc_) rfl (fun w' hm' => (begunQ_c (Rd.keeps h1 (Mem.keeps hm')) hs)) ?_; refine n_t ?_; refine c_d rfl (fun hcd => ?_) (fun hcd => ?_); refine s_r ?_; refine tr_val (rk_buildL .nil norm_) rfl ?_; refine tr_store (.of rfl) (.of rfl) .here rfl rfl (okc_cons rfl okc_nil) (lenb rfl) norm_ ?_; refine a_s rfl rfl ?_; refine n_t ?_; refine r_t ?_; rotate_left; refine s_t ?_; refine s_r ?_; refine tr_val (rk_loadB (.of rfl) (.there (.there .here)) norm_ (by rfl)) rfl ?_; refine m_v rfl rfl ?_; refine tr_val (rk_loadB (.of rfl) (.there .here) norm_ (by rfl)) rfl ?_; rotate_right)
  · have hE : insE es now k x = 23 := by rw [insE, if_pos hcd]
    have hL : insL es now k x = [] := by rw [insL, if_neg (by rw [hE]; decide)]
    rw [hE, hL]
    refine tr_rowNil 115 6 ?_
    first | with_reducible apply tr_retM | with_reducible apply tr_endM
    case he => exact endsCT rfl inferInstance rfl (.there .here) norm_ (by rfl) (by rfl)
    case hR =>
      intro w' hm'
      exact gives_end (.slice none 0 0) trivial (show Takes _ [row 115 6 (.slice none 0 0) 0 []] _ by exact .cons .here .nil) hm' rfl
  have hE : insE es now k x = lateE (chg es k k [x]) now k := by rw [insE, if_neg hcd]
  have hL : insL es now k x = if insE es now k x = 0 then chg es k k [x] else [] := rfl
  with_reducible apply tr_call
  case hr => exact rk_call (.of rfl) (.cons (.of rfl) (.cons (.of rfl) (.cons (.of rfl) .nil))) inferInstance normc_
  case hd => rfl
  case ht => exact Takes.nil
  case hc =>
    intro w1 fp hm1 _ hs1
    obtain rfl : fp = [] := hs1
    exact hwt w1 hm1.keeps
  intro v _
  dsimp only [id_eq, List.cons_append, List.nil_append]
  refine tr_rowSl (E := 115) (sz := 6) (by exact .here) fun a' cap' e => ?_
  subst e
  (refine m_v rfl rfl ?_; refine m_v rfl rfl ?_)
  with_reducible apply tr_callV
  case hr => exact rk_call (.of rfl) (.cons (.of rfl) (.cons (.of rfl) (.cons (.of rfl) .nil))) inferInstance normc_
  case hd => rfl
  case hc =>
    intro w' hm'
    exact resultQ_c (rdEnF hm' (by exact .here) rfl)
  rw [← hE]
  by_cases h0 : insE es now k x = 0
  · rw [if_pos h0] at hL ⊢
    rw [h0, hL]
    (refine tr_val (rk_extract (.of rfl) rfl) rfl ?_; refine tr_val (rk_extract (.of rfl) rfl) rfl ?_; refine tr_store (.of rfl) (.of rfl) (.there .here) rfl rfl (okc_cons rfl okc_nil) (lenb rfl) norm_ ?_; refine a_s rfl rfl ?_; refine n_t ?_; refine tr_ret ?_)
    first | with_reducible apply tr_retM | with_reducible apply tr_endM
    case he => exact endsCT rfl inferInstance rfl .here norm_ (by rfl) (by rfl)
    case hR =>
      intro w' hm'
      exact gives_end (.slice a' (chg es k k [x]).length cap') trivial (by exact .cons (.there .here) .nil) hm' rfl
  · rw [if_neg h0] at hL ⊢
    rw [hL]
    (refine tr_val (rk_extract (.of rfl) rfl) rfl ?_; refine tr_val (rk_extract (.of rfl) rfl) rfl ?_; refine tr_store (.of rfl) (.of rfl) (.there .here) rfl rfl (okc_cons rfl okc_nil) (lenb rfl) norm_ ?_; refine a_s rfl rfl ?_; refine n_t ?_; refine tr_ret ?_)
    refine tr_rowNil 115 6 ?_
    first | with_reducible apply tr_retM | with_reducible apply tr_endM
    case he => exact endsCT rfl inferInstance rfl (.there .here) norm_ (by rfl) (by rfl)
    case hR =>
      intro w' hm'
      exact gives_end (.slice none 0 0) trivial (show Takes _ [row 115 6 (.slice none 0 0) 0 []] _ by exact .cons .here .nil) hm' rfl
end Go.Proofs.A1


/- R14 -/
namespace Go.Proofs.A1
open Go Go.SL

theorem setCells_skip : ∀ (vs : List Value) (A B : List Value) (o : Nat), setCells (A ++ B) (A.length + o) vs = A ++ setCells B o vs
  | [], _, _, _ => rfl
  | v :: vs, A, B, o => by
    rw [setCells, setCells, List.set_append_right _ _ (by omega), Nat.add_sub_cancel_left, Nat.add_assoc, setCells_skip vs]
theorem setCells_fore : ∀ (vs : List Value) (A B : List Value) (o : Nat), o + vs.length ≤ A.length → setCells (A ++ B) o vs = setCells A o vs ++ B
  | [], _, _, _, _ => rfl
  | v :: vs, A, B, o, h => by
    simp only [List.length_cons] at h
    rw [setCells, setCells, List.set_append_left _ _ (by omega), setCells_fore vs _ _ _ (by simp; omega)]
theorem chg_flat1 (es : List En) (k : Nat) (l : List En) : (ensL (chg es k (k + 1) l)).flatten = (ensL (es.take k)).flatten ++ ((ensL l).flatten ++ (ensL (es.drop (k + 1))).flatten) := by
  simp [chg, ensL]
theorem es_flat1 {es : List En} {k : Nat} (h : k < es.length) : (ensL es).flatten = (ensL (es.take k)).flatten ++ ((nth es k).cells ++ (ensL (es.drop (k + 1))).flatten) := by
  conv => lhs; rw [← List.take_append_drop k es, List.drop_eq_getElem_cons h]
  rw [nth_eq h, ← List.drop_eq_getElem_cons h, ensL, List.map_append, List.flatten_append, List.drop_eq_getElem_cons h]
  rfl
/-- an entry with another start -/
def rtn (x : En) (kd : ByteArray) (tm : Int) : En := { x with kd := kd, tm := tm }
theorem rtn_set {es : List En} {k : Nat} {cur : List Value} (kd : ByteArray) (tm : Int) (h : k < es.length) : setCells ((ensL es).flatten ++ cur) (k * 6 + 2) [.string kd, .int .i64 tm] = (ensL (chg es k (k + 1) [rtn (nth es k) kd tm])).flatten ++ cur := by
  have hl : (ensL (es.take k)).flatten.length = k * 6 := by rw [ensL_flatlen, List.length_take]; congr 1; omega
  rw [setCells_fore _ _ _ _ (by rw [ensL_flatlen]; simp; omega), es_flat1 h, ← hl, setCells_skip, setCells_fore _ _ _ _ (by show 2 + 2 ≤ 6; omega), chg_flat1]
  rfl
def delE (es : List En) (now : Int) (k : Nat) : Int := if k < es.length ∧ fr es k ≤ now then 23 else lateE (chg es k (k + 1) []) now k
def delL (es : List En) (now : Int) (k : Nat) : List En := if delE es now k = 0 then chg es k (k + 1) [] else []
def timE (es : List En) (now : Int) (k : Nat) (kd : ByteArray) (tm : Int) : Int := if k < es.length ∧ fr es k ≤ now then 23 else lateE (chg es k (k + 1) [rtn (nth es k) kd tm]) now k
def timL (es : List En) (now : Int) (k : Nat) (kd : ByteArray) (tm : Int) : List En := if timE es now k kd tm = 0 then chg es k (k + 1) [rtn (nth es k) kd tm] else []
theorem removedQ_c {sv : Value} {es : List En} {k : Nat} {now : Int} {w : World} (h1 : Rd w sv 6 (ensL es)) (hs : Sound es) (hk : k < es.length) :
    Gives Tryz.prog 76 [.agg #[sv], .int .i64 now, .int .i64 (k : Int)] w [] (fun _ : Value => True) (fun v => .tuple #[.agg #[v], .int .i64 (delE es now k)]) (fun v => [row 115 6 v (delL es now k).length (ensL (delL es now k)).flatten]) := by
  have hone := Rd.one h1
  have hfew := hs.all.few
  have hfl := chg_flat1 es k []
  have hln := chg_length es k (k + 1) [] (by omega)
  have hT : (es.take k).length = k := by rw [List.length_take]; omega
  have hD : (es.drop (k + 1)).length = es.length - (k + 1) := List.length_drop
  have h1' := h1
  obtain ⟨a, cap, b, o, rfl, hcap, hmax, ha, hc⟩ := h1'
  rw [ensL_length] at *
  unfold maxLen at hmax
  have hs1 : Rd w (Go.sliced a 0 (k : Int).toNat cap 6) 6 (ensL (es.take k)) := by
    have := h1.sliced (l := 0) (m := k) (Nat.zero_le _) (by omega)
    rw [List.drop_zero, ensL_take] at this
    exact this
  have hs2 : Rd w (Go.sliced a ((k : Int) + 1).toNat es.length cap 6) 6 (ensL (es.drop (k + 1))) := by
    have := h1.sliced (l := k + 1) (m := es.length) (by omega) (Nat.le_refl _)
    rw [List.take_of_length_le (by rw [ensL_length]; exact Nat.le_refl _), ensL_drop] at this
    exact this
  refine gives_of_tr Tryz.func76 rfl rfl ?_
  (refine s_r ?_; refine tr_new (rk_box (.of rfl) rfl) rfl (fun _ _ => ?_); refine tr_new (rk_alloc rfl) rfl (fun _ _ => ?_); refine a_s rfl rfl ?_; refine n_t ?_; refine tr_seq ?_; refine s_r ?_; refine tr_val (rk_loadB (.of rfl) (.there .here) norm_ (by rfl)) rfl ?_; refine m_v rfl rfl ?_; refine m_v rfl rfl ?_; refine tr_callV (rk_call (.of rfl) (.cons (.of rfl) (.cons (.of rfl) (.cons (.of rfl) .nil))) inferInstance normc_) rfl (fun w' hm' => (begunQ_c (Rd.keeps h1 (Mem.keeps hm')) hs)) ?_; refine n_t ?_; refine c_d rfl (fun hcd => ?_) (fun hcd => ?_); refine s_r ?_; refine tr_val (rk_buildL .nil norm_) rfl ?_; refine tr_store (.of rfl) (.of rfl) .here rfl rfl (okc_cons rfl okc_nil) (lenb rfl) norm_ ?_; refine a_s rfl rfl ?_; refine n_t ?_; refine r_t ?_; rotate_left; refine s_t ?_; refine s_r ?_; rotate_right)
  · have hE : delE es now k = 23 := by rw [delE, if_pos hcd]
    have hL : delL es now k = [] := by rw [delL, if_neg (by rw [hE]; decide)]
    rw [hE, hL]
    refine tr_rowNil 115 6 ?_
    first | with_reducible apply tr_retM | with_reducible apply tr_endM
    case he => exact endsCT rfl inferInstance rfl (.there .here) norm_ (by rfl) (by rfl)
    case hR =>
      intro w' hm'
      exact gives_end (.slice none 0 0) trivial (show Takes _ [row 115 6 (.slice none 0 0) 0 []] _ by exact .cons .here .nil) hm' rfl
  have hE : delE es now k = lateE (chg es k (k + 1) []) now k := by rw [delE, if_neg hcd]
  have hL : delL es now k = if delE es now k = 0 then chg es k (k + 1) [] else [] := rfl
  with_reducible apply tr_new
  case hr => exact rk_sliceLit0
  case hd => rfl
  intro bq hbq
  (refine f_a rfl rfl norm0_ ?_; refine tr_val (rk_load1 (.of rfl) (At.lit (.there (.there .here)) rfl)) rfl ?_; refine m_v rfl rfl ?_; refine tr_val (rk_slice_h (.of rfl) (.of rfl) (by omega) (by omega)) rfl ?_)
  refine tr_rowLitE (g := bq) (E := 115) (ys := []) 0 6 (by exact .here) rfl rfl rfl ?_
  with_reducible apply tr_appendR
  case hx => exact Is.of rfl
  case hy => exact Is.of rfl
  case ht => exact .here
  case hsrc => exact fun w' hm' => hs1.keeps hm'.keeps
  case h1 => exact ensL_one _
  case hz => exact rfl
  case hsz => exact rfl
  case hb0 => exact rfl
  case hb => rw [ensL_length]; omega
  case hd => rfl
  intro v1
  rw [ensL_length, hT, Nat.zero_add, List.nil_append]
  refine tr_rowSl (E := 115) (sz := 6) (by exact .here) fun a1 cap1 e1 => ?_
  subst e1
  (refine tr_val (rk_buildL (.cons (.of rfl) .nil) norm_) rfl ?_; refine tr_new (rk_alloc rfl) rfl (fun _ _ => ?_); refine tr_store (.of rfl) (.of rfl) .here rfl rfl (okc_cons rfl okc_nil) (lenb rfl) norm_ ?_; refine n_t ?_; refine tr_seq ?_)
  with_reducible refine tr_draw 7 (by kernel_rfl) ?_
  (refine a_f rfl rfl norm0_ ?_; refine any_val (rk_load1 (.of rfl) (At.lit .here rfl)) rfl ?_; refine a_f rfl rfl norm0_ ?_; refine any_val (rk_load1 (.of rfl) (At.lit (.there (.there (.there .here))) rfl)) rfl ?_; refine a_m rfl rfl ?_; refine any_val (rk_add (.of rfl) (.of rfl) (ini (by omega))) rfl ?_; refine any_val (rk_slice_l (.of rfl) (.of rfl) (by omega) (by omega)) rfl ?_)
  with_reducible refine any_end ?_
  with_reducible apply tr_appendR
  case hx => exact Is.of rfl
  case hy => exact Is.of rfl
  case ht => exact Take.there .here
  case hsrc => exact fun w' hm' => hs2.keeps hm'.keeps
  case h1 => exact ensL_one _
  case hz => exact rfl
  case hsz => exact rfl
  case hb0 => exact rfl
  case hb => rw [ensL_length]; omega
  case hd => rfl
  intro v3
  rw [ensL_length, hD]
  refine tr_rowSl (E := 115) (sz := 6) (by exact .here) fun a3 cap3 e3 => ?_
  subst e3
  have hfl3 : (ensL (es.take k)).flatten ++ (ensL (es.drop (k + 1))).flatten = (ensL (chg es k (k + 1) [])).flatten := by rw [hfl]; rfl
  have hln3 : k + (es.length - (k + 1)) = (chg es k (k + 1) []).length := by rw [hln]; rfl
  rw [hfl3, hln3]
  (refine f_a rfl rfl norm0_ ?_; refine tr_store (.of rfl) (.of rfl) (.there .here) rfl rfl (okc_cons rfl okc_nil) (lenb rfl) norm_ ?_; refine n_r ?_; refine tr_val (rk_loadB (.of rfl) .here norm_ (by rfl)) rfl ?_; refine m_v rfl rfl ?_; refine m_v rfl rfl ?_)
  with_reducible apply tr_callV
  case hr => exact rk_call (.of rfl) (.cons (.of rfl) (.cons (.of rfl) (.cons (.of rfl) .nil))) inferInstance normc_
  case hd => rfl
  case hc =>
    intro w' hm'
    exact resultQ_c (rdEnF hm' (by exact Take.there .here) rfl)
  rw [← hE]
  by_cases h0 : delE es now k = 0
  · rw [if_pos h0] at hL ⊢
    rw [h0, hL]
    (refine tr_val (rk_extract (.of rfl) rfl) rfl ?_; refine tr_val (rk_extract (.of rfl) rfl) rfl ?_; refine tr_store (.of rfl) (.of rfl) (.there (.there .here)) rfl rfl (okc_cons rfl okc_nil) (lenb rfl) norm_ ?_; refine a_s rfl rfl ?_; refine n_t ?_; refine tr_ret ?_)
    first | with_reducible apply tr_retM | with_reducible apply tr_endM
    case he => exact endsCT rfl inferInstance rfl .here norm_ (by rfl) (by rfl)
    case hR =>
      intro w' hm'
      exact gives_end (.slice a3 (chg es k (k + 1) []).length cap3) trivial (by exact .cons (.there (.there .here)) .nil) hm' rfl
  · rw [if_neg h0] at hL ⊢
    rw [hL]
    (refine tr_val (rk_extract (.of rfl) rfl) rfl ?_; refine tr_val (rk_extract (.of rfl) rfl) rfl ?_; refine tr_store (.of rfl) (.of rfl) (.there (.there .here)) rfl rfl (okc_cons rfl okc_nil) (lenb rfl) norm_ ?_; refine a_s rfl rfl ?_; refine n_t ?_; refine tr_ret ?_)
    refine tr_rowNil 115 6 ?_
    first | with_reducible apply tr_retM | with_reducible apply tr_endM
    case he => exact endsCT rfl inferInstance rfl (.there .here) norm_ (by rfl) (by rfl)
    case hR =>
      intro w' hm'
      exact gives_end (.slice none 0 0) trivial (show Takes _ [row 115 6 (.slice none 0 0) 0 []] _ by exact .cons .here .nil) hm' rfl
theorem retimedQ_c {sv : Value} {es : List En} {k : Nat} {now : Int} (kd : ByteArray) (tm : Int) {w : World} (h1 : Rd w sv 6 (ensL es)) (hs : Sound es) (hk : k < es.length) :
    Gives Tryz.prog 77 [.agg #[sv], .int .i64 now, .int .i64 (k : Int), .agg #[.string kd, .int .i64 tm]] w [] (fun _ : Value => True) (fun v => .tuple #[.agg #[v], .int .i64 (timE es now k kd tm)]) (fun v => [row 115 6 v (timL es now k kd tm).length (ensL (timL es now k kd tm)).flatten]) := by
  have hone := Rd.one h1
  have hfew := hs.all.few
  have hln := chg_length es k (k + 1) [rtn (nth es k) kd tm] (by omega)
  have hln' : (chg es k (k + 1) [rtn (nth es k) kd tm]).length = es.length := by rw [hln]; simp; omega
  refine gives_of_tr Tryz.func77 rfl rfl ?_
  (refine s_r ?_; refine tr_new (rk_box (.of rfl) rfl) rfl (fun _ _ => ?_); refine tr_new (rk_box (.of rfl) rfl) rfl (fun _ _ => ?_); refine tr_new (rk_alloc rfl) rfl (fun _ _ => ?_); refine a_s rfl rfl ?_; refine n_t ?_; refine tr_seq ?_; refine s_r ?_; refine tr_val (rk_loadB (.of rfl) (.there (.there .here)) norm_ (by rfl)) rfl ?_; refine m_v rfl rfl ?_; refine m_v rfl rfl ?_; refine tr_callV (rk_call (.of rfl) (.cons (.of rfl) (.cons (.of rfl) (.cons (.of rfl) .nil))) inferInstance normc_) rfl (fun w' hm' => (begunQ_c (Rd.keeps h1 (Mem.keeps hm')) hs)) ?_; refine n_t ?_; refine c_d rfl (fun hcd => ?_) (fun hcd => ?_); refine s_r ?_; refine tr_val (rk_buildL .nil norm_) rfl ?_; refine tr_store (.of rfl) (.of rfl) .here rfl rfl (okc_cons rfl okc_nil) (lenb rfl) norm_ ?_; refine a_s rfl rfl ?_; refine n_t ?_; refine r_t ?_; rotate_left; refine s_t ?_; refine s_r ?_; refine tr_val (rk_loadB (.of rfl) (.there (.there .here)) norm_ (by rfl)) rfl ?_; rotate_right)
  · have hE : timE es now k kd tm = 23 := by rw [timE, if_pos hcd]
    have hL : timL es now k kd tm = [] := by rw [timL, if_neg (by rw [hE]; decide)]
    rw [hE, hL]
    refine tr_rowNil 115 6 ?_
    first | with_reducible apply tr_retM | with_reducible apply tr_endM
    case he => exact endsCT rfl inferInstance rfl (.there .here) norm_ (by rfl) (by rfl)
    case hR =>
      intro w' hm'
      exact gives_end (.slice none 0 0) trivial (show Takes _ [row 115 6 (.slice none 0 0) 0 []] _ by exact .cons .here .nil) hm' rfl
  have hE : timE es now k kd tm = lateE (chg es k (k + 1) [rtn (nth es k) kd tm]) now k := by rw [timE, if_neg hcd]
  have hL : timL es now k kd tm = if timE es now k kd tm = 0 then chg es k (k + 1) [rtn (nth es k) kd tm] else [] := rfl
  with_reducible apply tr_call
  case hr => exact rk_call (.of rfl) (.cons (.of rfl) .nil) inferInstance normc_
  case hd => rfl
  case ht => exact Takes.nil
  case hc =>
    intro w1 fp hm1 _ hs1
    obtain rfl : fp = [] := hs1
    exact ownQ_c (h1.keeps hm1.keeps) (by omega)
  intro v _
  dsimp only [id_eq, List.cons_append, List.nil_append]
  refine tr_rowOpen (E := 115) (sz := 6) (by exact .here) (by omega) fun g cap' cur e hcap' hmx' hsz' hl' => ?_
  subst e
  have hsl : k * 6 + 2 + 2 ≤ ((ensL es).flatten ++ cur).length := by rw [hsz']; omega
  have hst := rtn_set (cur := cur) kd tm hk
  (refine tr_new (rk_alloc rfl) rfl (fun _ _ => ?_); refine tr_store (.of rfl) (.of rfl) .here rfl rfl (okc_cons rfl okc_nil) (lenb rfl) norm_ ?_; refine n_r ?_; refine f_a rfl rfl norm0_ ?_; refine tr_val (rk_load1 (.of rfl) (At.lit .here rfl)) rfl ?_; refine m_v rfl rfl ?_; refine tr_val (rk_loadB (.of rfl) (.there (.there (.there .here))) norm_ (by rfl)) rfl ?_; refine tr_val (rk_indexAddr (.of rfl) (.of rfl) rfl (by omega) (by omega) norm1_) rfl ?_; refine f_a rfl rfl norm0_ ?_; refine tr_store (.of rfl) (.of rfl) (.there .here) rfl rfl (okc_cons rfl (okc_cons rfl okc_nil)) hsl hst ?_; refine n_r ?_; refine tr_val (rk_loadB (.of rfl) (.there .here) norm_ (by rfl)) rfl ?_; refine m_v rfl rfl ?_; refine m_v rfl rfl ?_)
  refine tr_rowShut (E := 115) (sz := 6) (g := g) (n := es.length) (cap := cap') (xs := (ensL (chg es k (k + 1) [rtn (nth es k) kd tm])).flatten) (cur := cur) (by exact .here) hcap' hmx' (by rw [List.length_append, ensL_flatlen, hln', ← ensL_flatlen, ← List.length_append]; exact hsz') (by rw [ensL_flatlen, hln']) ?_
  rw [← hln']
  skip
  with_reducible apply tr_callV
  case hr => exact rk_call (.of rfl) (.cons (.of rfl) (.cons (.of rfl) (.cons (.of rfl) .nil))) inferInstance normc_
  case hd => rfl
  case hc =>
    intro w' hm'
    exact resultQ_c (rdEnF hm' (by exact .here) rfl)
  rw [← hE]
  by_cases h0 : timE es now k kd tm = 0
  · rw [if_pos h0] at hL ⊢
    rw [h0, hL]
    (refine tr_val (rk_extract (.of rfl) rfl) rfl ?_; refine tr_val (rk_extract (.of rfl) rfl) rfl ?_; refine tr_store (.of rfl) (.of rfl) (.there (.there .here)) rfl rfl (okc_cons rfl okc_nil) (lenb rfl) norm_ ?_; refine a_s rfl rfl ?_; refine n_t ?_; refine tr_ret ?_)
    first | with_reducible apply tr_retM | with_reducible apply tr_endM
    case he => exact endsCT rfl inferInstance rfl .here norm_ (by rfl) (by rfl)
    case hR =>
      intro w' hm'
      exact gives_end (.slice (some ⟨g, 0, none⟩) (chg es k (k + 1) [rtn (nth es k) kd tm]).length cap') trivial (by exact .cons (.there .here) .nil) hm' rfl
  · rw [if_neg h0] at hL ⊢
    rw [hL]
    (refine tr_val (rk_extract (.of rfl) rfl) rfl ?_; refine tr_val (rk_extract (.of rfl) rfl) rfl ?_; refine tr_store (.of rfl) (.of rfl) (.there (.there .here)) rfl rfl (okc_cons rfl okc_nil) (lenb rfl) norm_ ?_; refine a_s rfl rfl ?_; refine n_t ?_; refine tr_ret ?_)
    refine tr_rowNil 115 6 ?_
    first | with_reducible apply tr_retM | with_reducible apply tr_endM
    case he => exact endsCT rfl inferInstance rfl (.there .here) norm_ (by rfl) (by rfl)
    case hR =>
      intro w' hm'
      exact gives_end (.slice none 0 0) trivial (show Takes _ [row 115 6 (.slice none 0 0) 0 []] _ by exact .cons .here .nil) hm' rfl
end Go.Proofs.A1


/- S67 -/
namespace Go.Proofs.A1
open Go Go.SL

def rt0 (es : List En) (now at' : Int) (kd : ByteArray) (tm : Int) : Int := firstF [ccF es now at' es.length, startF kd tm]
def rtE (es : List En) (now at' : Int) (kd : ByteArray) (tm : Int) : Int :=
  if rt0 es now at' kd tm ≠ 0 then rt0 es now at' kd tm else if fr es at'.toNat ≤ now then 23 else lateE (chg es at'.toNat (at'.toNat + 1) [rtn (nth es at'.toNat) kd tm]) now at'.toNat
def rtL (es : List En) (now at' : Int) (kd : ByteArray) (tm : Int) : List En := if rtE es now at' kd tm = 0 then chg es at'.toNat (at'.toNat + 1) [rtn (nth es at'.toNat) kd tm] else []
set_option maxHeartbeats 1000000 in
theorem retimed_c {sv : Value} {es : List En} {now at' : Int} (kd : ByteArray) (tm : Int) {w : World} (h1 : Rd w sv 6 (ensL es)) (hG : Glob w) :
    Gives Tryz.prog 72 [.agg #[sv], .int .i64 now, .int .i64 at', .agg #[.string kd, .int .i64 tm]] w [] (fun _ : Value => True) (fun v => .tuple #[.agg #[v], .int .i64 (rtE es now at' kd tm)]) (fun v => [row 138 6 v (rtL es now at' kd tm).length (ensL (rtL es now at' kd tm)).flatten]) := by
  have h1' := h1
  obtain ⟨a, cap, b, o, rfl, hcap, hmax, ha, hc⟩ := h1'
  rw [ensL_length] at *
  unfold maxLen at hmax
  refine gives_of_tr Tryz.func72 rfl rfl ?_
  (refine s_r ?_; refine tr_new (rk_box (.of rfl) rfl) rfl (fun _ _ => ?_); refine tr_new (rk_box (.of rfl) rfl) rfl (fun _ _ => ?_); refine tr_new (rk_alloc rfl) rfl (fun _ _ => ?_); refine a_s rfl rfl ?_; refine n_t ?_; refine tr_seq ?_; refine tr_seq ?_)
  with_reducible refine tr_draw 9 (by kernel_rfl) ?_
  (refine any_val (rk_loadB (.of rfl) (.there (.there .here)) norm_ (by rfl)) rfl ?_; refine a_m rfl rfl ?_; refine a_m rfl rfl ?_; refine a_f rfl rfl norm0_ ?_; refine any_val (rk_load1 (.of rfl) (At.lit (.there (.there .here)) rfl)) rfl ?_; refine any_val (rk_len_slice (.of rfl)) rfl ?_; refine any_call (rk_call (.of rfl) (.cons (.of rfl) (.cons (.of rfl) (.cons (.of rfl) (.cons (.of rfl) .nil)))) inferInstance normc_) rfl (fun w' hm' => (checkChange_c (Rd.keeps h1 (Mem.keeps hm')) (Glob.keeps hG (Mem.keeps hm')))) ?_; refine any_val (rk_loadB (.of rfl) (.there .here) norm_ (by rfl)) rfl ?_; refine any_call (rk_call (.of rfl) (.cons (.of rfl) .nil) inferInstance normc_) rfl (fun w' hm' => (startC_c kd tm w' (Glob.keeps hG (Mem.keeps hm')))) ?_)
  with_reducible refine any_end ?_
  (refine tr_new (rk_sliceLit (.cons (.of rfl) (.cons (.of rfl) .nil)) rfl rfl rfl rfl) rfl (fun _ _ => ?_); refine tr_callV (rk_call (.of rfl) (.cons (.of rfl) .nil) inferInstance normc_) rfl (fun w' hm' => (first_pB (Mem.rdBlk hm' .here rfl rfl) (IntL.cons (IntL.cons IntL.nil)))) ?_; refine a_s rfl rfl ?_; refine n_r ?_; refine m_v rfl rfl ?_; refine tr_val (rk_neq (.of rfl) (.of rfl)) rfl ?_; refine n_t ?_; refine c_d rfl (fun hcd => ?_) (fun hcd => ?_); refine s_r ?_; refine tr_val (rk_buildL .nil norm_) rfl ?_; refine m_v rfl rfl ?_; refine tr_store (.of rfl) (.of rfl) (.there .here) rfl rfl (okc_cons rfl okc_nil) (lenb rfl) norm_ ?_; refine a_s rfl rfl ?_; refine n_t ?_; refine r_t ?_; rotate_left; refine s_t ?_; refine tr_seq ?_; refine s_r ?_; refine tr_val (rk_loadB (.of rfl) (.there (.there (.there .here))) norm_ (by rfl)) rfl ?_; refine m_v rfl rfl ?_; refine m_v rfl rfl ?_; rotate_right)
  · have hne : rt0 es now at' kd tm ≠ 0 := hcd
    have hE : rtE es now at' kd tm = rt0 es now at' kd tm := by rw [rtE, if_pos hne]
    have hL : rtL es now at' kd tm = [] := by rw [rtL, if_neg (by rw [hE]; exact hne)]
    rw [hE, hL]
    refine tr_rowNil 138 6 ?_
    first | with_reducible apply tr_retM | with_reducible apply tr_endM
    case he => exact endsCT rfl inferInstance rfl (.there .here) norm_ (by rfl) (by rfl)
    case hR =>
      intro w' hm'
      exact gives_end (.slice none 0 0) trivial (show Takes _ [row 138 6 (.slice none 0 0) 0 []] _ by exact .cons .here .nil) hm' rfl
  have hz0 : rt0 es now at' kd tm = 0 := Decidable.not_not.1 hcd
  have hz := hz0
  unfold rt0 at hz
  rw [firstF_zero] at hz
  simp only [List.mem_cons, List.not_mem_nil, or_false, forall_eq_or_imp, forall_eq] at hz
  obtain ⟨hz1, hz2, hz3, hz4⟩ := ccF_zero hz.1
  have hs := Sound.of hz1
  obtain ⟨k, rfl⟩ : ∃ k : Nat, at' = k := ⟨at'.toNat, by omega⟩
  have hk : k < es.length := by omega
  have hfew := hs.all.few
  have hE : rtE es now k kd tm = if fr es k ≤ now then 23 else lateE (chg es k (k + 1) [rtn (nth es k) kd tm]) now k := by rw [rtE, if_neg (by rw [hz0]; decide)]; rfl
  have hL : rtL es now k kd tm = if rtE es now k kd tm = 0 then chg es k (k + 1) [rtn (nth es k) kd tm] else [] := rfl
  have ha' := ha (ensL_ne hk)
  have hcell := (hc k _ (ensL_get hk)).2
  unfold En.cells at hcell
  (refine tr_callV (rk_call (.of rfl) (.cons (.of rfl) (.cons (.of rfl) (.cons (.of rfl) .nil))) inferInstance normc_) rfl (fun w' hm' => (begun_c (Rd.keeps h1 (Mem.keeps hm')) hs hk (Glob.keeps hG (Mem.keeps hm')))) ?_; refine n_t ?_; refine c_d rfl (fun hcd => ?_) (fun hcd => ?_); refine s_r ?_; refine tr_val (rk_buildL .nil norm_) rfl ?_; refine tr_store (.of rfl) (.of rfl) (.there .here) rfl rfl (okc_cons rfl okc_nil) (lenb rfl) norm_ ?_; refine a_s rfl rfl ?_; refine n_t ?_; refine r_t ?_; rotate_left; refine s_t ?_; refine s_r ?_; refine f_a rfl rfl norm0_ ?_; refine tr_val (rk_load1 (.of rfl) (At.lit (.there (.there (.there .here))) rfl)) rfl ?_; refine m_v rfl rfl ?_; refine tr_val (rk_indexAddr (.of rfl) (.of rfl) ha' hz3 hz4 norm1_) rfl ?_; refine tr_val (rk_loadN (.of rfl) (Ats.base hcell rfl) rfl) rfl ?_; refine tr_new (rk_alloc rfl) rfl (fun _ _ => ?_); refine tr_store (.of rfl) (.of rfl) .here rfl rfl (okc_cons rfl (okc_cons rfl (okc_cons rfl (okc_cons rfl (okc_cons rfl (okc_cons rfl okc_nil)))))) (lenb rfl) norm_ ?_; refine n_r ?_; refine tr_val (rk_loadB (.of rfl) (.there (.there (.there .here))) norm_ (by rfl)) rfl ?_; refine f_a rfl rfl norm0_ ?_; refine tr_store (.of rfl) (.of rfl) .here rfl rfl (okc_cons rfl (okc_cons rfl okc_nil)) (lenb rfl) norm_ ?_; refine n_r ?_; refine tr_val (rk_loadB (.of rfl) (.there (.there (.there (.there .here)))) norm_ (by rfl)) rfl ?_; refine m_v rfl rfl ?_; refine m_v rfl rfl ?_; refine tr_val (rk_add (.of rfl) (.of rfl) (ini (by omega))) rfl ?_; refine tr_val (rk_loadB (.of rfl) .here norm_ (by rfl)) rfl ?_; refine tr_new (rk_sliceLitN (.cons (.of rfl) .nil) rfl rfl normp_ normp_ norm_) rfl (fun _ _ => ?_); rotate_right)
  · rw [if_pos hcd] at hE
    rw [hE, if_neg (by decide)] at hL
    rw [hE, hL]
    refine tr_rowNil 138 6 ?_
    first | with_reducible apply tr_retM | with_reducible apply tr_endM
    case he => exact endsCT rfl inferInstance rfl (.there .here) norm_ (by rfl) (by rfl)
    case hR =>
      intro w' hm'
      exact gives_end (.slice none 0 0) trivial (show Takes _ [row 138 6 (.slice none 0 0) 0 []] _ by exact .cons .here .nil) hm' rfl
  rw [if_neg hcd] at hE
  rename_i bq hbq
  refine tr_rowLitE (g := bq) (E := 138) (ys := (ensL [rtn (nth es k) kd tm]).flatten) 1 6 (by exact .here) (by exact rfl) rfl rfl ?_
  rw [show (k : Int) + 1 = ((k + 1 : Nat) : Int) by omega]
  with_reducible apply tr_call
  case hr => exact rk_call (.of rfl) (.cons (.of rfl) (.cons (.of rfl) (.cons (.of rfl) (.cons (.of rfl) .nil)))) inferInstance normc_
  case hd => rfl
  case ht => exact Takes.nil
  case hc =>
    intro w1 fp hm1 _ hs1
    obtain rfl : fp = [] := hs1
    exact changed_c (l := [rtn (nth es k) kd tm]) (h1.keeps hm1.keeps) (rdEnF (n := 1) (es := [rtn (nth es k) kd tm]) hm1 (by exact .here) rfl) (by omega) (by omega) (by simp; omega)
  intro v _
  dsimp only [id_eq, List.cons_append, List.nil_append]
  refine tr_rowSl (E := 138) (sz := 6) (by exact .here) fun a' cap' e => ?_
  subst e
  (refine m_v rfl rfl ?_; refine m_v rfl rfl ?_)
  with_reducible apply tr_callV
  case hr => exact rk_call (.of rfl) (.cons (.of rfl) (.cons (.of rfl) (.cons (.of rfl) .nil))) inferInstance normc_
  case hd => rfl
  case hc =>
    intro w' hm'
    exact late_c (rdEnF hm' (by exact .here) rfl) (by omega) (hG.keeps hm'.keeps)
  rw [← hE]
  by_cases h0 : rtE es now k kd tm = 0
  · rw [if_pos h0] at hL ⊢
    rw [h0, hL]
    (refine tr_val (rk_extract (.of rfl) rfl) rfl ?_; refine tr_val (rk_extract (.of rfl) rfl) rfl ?_; refine tr_store (.of rfl) (.of rfl) (.there (.there (.there (.there .here)))) rfl rfl (okc_cons rfl okc_nil) (lenb rfl) norm_ ?_; refine a_s rfl rfl ?_; refine n_t ?_; refine tr_ret ?_)
    first | with_reducible apply tr_retM | with_reducible apply tr_endM
    case he => exact endsCT rfl inferInstance rfl .here norm_ (by rfl) (by rfl)
    case hR =>
      intro w' hm'
      exact gives_end (.slice a' (chg es k (k + 1) [rtn (nth es k) kd tm]).length cap') trivial (by exact .cons (.there .here) .nil) hm' rfl
  · rw [if_neg h0] at hL ⊢
    rw [hL]
    (refine tr_val (rk_extract (.of rfl) rfl) rfl ?_; refine tr_val (rk_extract (.of rfl) rfl) rfl ?_; refine tr_store (.of rfl) (.of rfl) (.there (.there (.there (.there .here)))) rfl rfl (okc_cons rfl okc_nil) (lenb rfl) norm_ ?_; refine a_s rfl rfl ?_; refine n_t ?_; refine tr_ret ?_)
    refine tr_rowNil 138 6 ?_
    first | with_reducible apply tr_retM | with_reducible apply tr_endM
    case he => exact endsCT rfl inferInstance rfl (.there .here) norm_ (by rfl) (by rfl)
    case hR =>
      intro w' hm'
      exact gives_end (.slice none 0 0) trivial (show Takes _ [row 138 6 (.slice none 0 0) 0 []] _ by exact .cons .here .nil) hm' rfl
end Go.Proofs.A1

