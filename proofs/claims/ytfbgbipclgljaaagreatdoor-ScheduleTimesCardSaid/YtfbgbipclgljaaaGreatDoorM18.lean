/- Parts of the proof: S42 S43 S44 S45 S46p. -/
import Derived.Test.YtfbgbipclgljaaaGreatDoorM17
import Derived.Test.YtfbgbipclgljaaaGreatDoorM07
import Derived.Test.YtfbgbipclgljaaaGreatDoorM06
set_option linter.unusedSectionVars false
set_option linter.unusedVariables false
set_option linter.unusedSimpArgs false
/- S42 -/
namespace Go.Proofs.A1
open Go Go.SL

theorem growE_c (n : Nat) (hn : n ≤ 1000) (w : World) : Gives Tryz.prog 212 [.slice none 0 0, .int .i64 (n : Int)] w [] (fun _ : Value => True) id (fun v => [row 138 6 v 0 []]) := by
  refine gives_of_tr Tryz.func212 rfl rfl ?_
  (refine s_r ?_; refine a_s rfl rfl ?_; refine n_t ?_; refine tr_seq ?_; refine s_r ?_; refine m_v rfl rfl ?_; refine tr_val (rk_lss (.of rfl) (.of rfl)) rfl ?_; refine n_t ?_; refine c_d rfl (fun _ => by omega) (fun hcd => ?_); refine s_t ?_; refine tr_seq ?_; refine s_r ?_; refine m_v rfl rfl ?_; refine m_v rfl rfl ?_; refine tr_val (rk_cap_slice (.of rfl)) rfl ?_; refine m_v rfl rfl ?_; refine tr_val (rk_len_slice (.of rfl)) rfl ?_; refine tr_val (rk_sub (.of rfl) (.of rfl) (ini (by omega))) rfl ?_; refine tr_val (rk_sub (.of rfl) (.of rfl) (ini (by omega))) rfl ?_; refine a_s rfl rfl ?_; refine n_r ?_; refine m_v rfl rfl ?_; refine tr_val (rk_gtr (.of rfl) (.of rfl)) rfl ?_; refine n_t ?_; refine c_d rfl (fun hcd => ?_) (fun hcd => ?_); refine tr_region ?_; refine m_v rfl rfl ?_; refine m_v rfl rfl ?_; refine tr_val (rk_cap_slice (.of rfl)) rfl ?_; refine tr_val (rk_slice_h (.of rfl) (.of rfl) (by omega) (by omega)) rfl ?_; refine m_v rfl rfl ?_; rotate_left; refine s_t ?_; refine s_r ?_; refine m_v rfl rfl ?_; refine a_s rfl rfl ?_; refine n_t ?_; refine tr_ret ?_; rotate_right)
  · rw [show (n : Int) - (((0 : Nat) : Int) - ((0 : Nat) : Int)) = (n : Int) by omega]
    with_reducible apply tr_appendZ
    case hx => exact Is.of rfl
    case hy => exact Is.of rfl
    case h0 => omega
    case hz => exact rfl
    case hsz => exact rfl
    case hb0 => exact rfl
    case hb => omega
    case hd => rfl
    intro v'
    refine tr_rowOpen (E := 138) (sz := 6) (by exact .here) (by omega) fun g cap' cur e hcap' hmx' hsz' hl' => ?_
    subst e
    (refine m_v rfl rfl ?_; refine tr_val (rk_len_slice (.of rfl)) rfl ?_; refine tr_val (rk_slice_h (.of rfl) (.of rfl) (by omega) (by omega)) rfl ?_; refine a_s rfl rfl ?_; refine n_r ?_; refine m_v rfl rfl ?_; refine a_s rfl rfl ?_; refine n_t ?_; refine tr_ret ?_)
    rw [show Go.sliced (some ⟨g, 0, none⟩) 0 (((0 : Nat) : Int)).toNat cap' 6 = .slice (some ⟨g, 0, none⟩) 0 cap' from sliced_zero g cap' 6]
    skip
    generalize hA : _ ++ cur = al at hsz' ⊢
    refine tr_rowShut (n := 0) (xs := []) (cur := al) (cap := cap') (g := g) (E := 138) (sz := 6) (by rw [List.nil_append]; exact .here) (Nat.zero_le _) hmx' hsz' rfl ?_
    first | with_reducible apply tr_retM | with_reducible apply tr_endM
    case he => exact ends1 rfl rfl
    case hR =>
      intro w' hm'
      exact gives_end (.slice (some ⟨g, 0, none⟩) 0 cap') trivial (show Takes _ [row 138 6 (.slice (some ⟨g, 0, none⟩) 0 cap') 0 []] _ by exact .cons .here .nil) hm' rfl
  · refine tr_rowNil 138 6 ?_
    first | with_reducible apply tr_retM | with_reducible apply tr_endM
    case he => exact ends1 rfl rfl
    case hR =>
      intro w' hm'
      exact gives_end (.slice none 0 0) trivial (show Takes _ [row 138 6 (.slice none 0 0) 0 []] _ by exact .cons .here .nil) hm' rfl
theorem ensL_app (a b : List En) : ensL (a ++ b) = ensL a ++ ensL b := by simp [ensL]
theorem ensL_one (es : List En) : ∀ r ∈ ensL es, ∀ u ∈ r, u.oneCell' = true := by
  intro r hr
  obtain ⟨x, _, rfl⟩ := List.mem_map.1 hr
  unfold En.cells
  exact okc_cons rfl (okc_cons rfl (okc_cons rfl (okc_cons rfl (okc_cons rfl (okc_cons rfl okc_nil)))))
theorem take_flat {α : Type} {l : List (List α)} {k : Nat} (h : k < l.length) : (l.take (k + 1)).flatten = (l.take k).flatten ++ l[k] := by
  rw [List.take_add_one, List.getElem?_eq_getElem h, List.flatten_append]; simp
theorem flat_le {α : Type} (l : List (List α)) (k : Nat) : (l.take k).flatten.length ≤ l.flatten.length := by
  conv => rhs; rw [← List.take_append_drop k l]
  rw [List.flatten_append, List.length_append]; omega
theorem sing_get {α : Type} {l : List α} {k : Nat} (h : k < l.length) : (l.map fun v => [v])[k]? = some [l[k]] := by simp [h]
theorem concat_c {lv : Value} {vs : List Value} {ess : List (List En)} {w : World} (h : Rd w lv 1 (vs.map fun v => [v])) (hl : vs.length = ess.length) (hr : ∀ (i : Nat) (v : Value) (es : List En), vs[i]? = some v → ess[i]? = some es → Rd w v 6 (ensL es)) (hn : ess.flatten.length ≤ 1000) :
    Gives Tryz.prog 187 [lv] w [] (fun _ : Value => True) id (fun v => [row 138 6 v ess.flatten.length (ensL ess.flatten).flatten]) := by
  obtain ⟨a, cp, b, o, rfl, hcap, hmax, ha, hc⟩ := h
  rw [List.length_map] at *
  unfold maxLen at hmax
  refine gives_of_tr Tryz.func187 rfl rfl ?_
  (refine s_r ?_; refine a_s rfl rfl ?_; refine n_r ?_; refine a_s rfl rfl ?_; refine n_t ?_; refine tr_seq ?_; refine s_r ?_; refine m_v rfl rfl ?_; refine tr_val (rk_len_slice (.of rfl)) rfl ?_; refine m_v rfl rfl ?_; refine n_t ?_; refine tr_block ?_)
  refine tr_for (ι := Nat) (fun k => k ≤ vs.length) (fun k => [(11, .int .i64 k), (10, .int .i64 vs.length), (9, .slice a vs.length cp), (0, .slice a vs.length cp), (3, .int .i64 (((ess.take k).flatten.length : Nat) : Int))]) (fun _ => []) (fun k => vs.length - k) ?_ ?_
  · apply tr_start (0 : Nat) (show (0 : Nat) ≤ vs.length from Nat.zero_le _)
    case hs1 => exact .cons rfl (.cons rfl (.cons rfl (.cons rfl (.cons rfl .nil))))
    case ht => (try simp only [List.take_zero, List.map_nil, List.nil_append]); exact .nil
  intro k hk
  by_cases hlt : k < vs.length
  · have hlt2 : k < ess.length := by omega
    have ha' := ha (by intro e; have := congrArg List.length e; simp at this; subst this; simp at hlt)
    have hrk := hr k _ _ (List.getElem?_eq_getElem hlt) (List.getElem?_eq_getElem hlt2)
    obtain ⟨a1, cap1, b1, o1, e1, _⟩ := hrk
    rw [ensL_length] at e1
    have c0 : w.cell? ⟨b, o + k * 1, none⟩ = some (.slice a1 ess[k].length cap1) := by rw [← e1]; exact (hc k _ (sing_get hlt)).2 0 _ rfl
    have hfl := flat_le ess (k + 1)
    have hs : ((ess.take (k + 1)).flatten.length : Int) = (ess.take k).flatten.length + ess[k].length := by rw [take_flat hlt2, List.length_append]; omega
    (refine s_r ?_; refine tr_val (rk_lss (.of rfl) (.of rfl)) rfl ?_; refine n_t ?_; refine tr_seq ?_; refine c_d rfl (fun hcd => ?_) (fun _ => by omega); refine s_t ?_; refine tr_seq ?_; refine tr_block ?_; refine s_r ?_; refine tr_val (rk_indexAddr (.of rfl) (.of rfl) ha' (by omega) hcd norm1_) rfl ?_; refine tr_val (rk_load1 (.of rfl) (At.base c0 rfl)) rfl ?_; refine a_s rfl rfl ?_; refine n_r ?_; refine m_v rfl rfl ?_; refine m_v rfl rfl ?_; refine tr_val (rk_len_slice (.of rfl)) rfl ?_; refine tr_val (rk_add (.of rfl) (.of rfl) (ini (by omega))) rfl ?_; refine a_s rfl rfl ?_; refine n_r ?_; refine m_v rfl rfl ?_; refine tr_val (rk_lss (.of rfl) (.of rfl)) rfl ?_; refine n_t ?_; refine c_d rfl (fun _ => by omega) (fun hcd => ?_); refine tr_skip ?_; refine tr_blk_normal ?_; refine tr_then ?_; refine tr_region ?_; refine tr_val (rk_add (.of rfl) (.of rfl) (ini (by omega))) rfl ?_; refine m_v rfl rfl ?_; refine n_t ?_)
    apply tr_next (k + 1) (show k + 1 ≤ vs.length by omega) (show vs.length - (k + 1) < vs.length - k by omega)
    case hs1 =>
      rw [hs]
      exact .cons rfl (.cons rfl (.cons rfl (.cons rfl (.cons rfl .nil))))
    case ht => exact .nil
  · obtain rfl : k = vs.length := by omega
    rw [show ess.take vs.length = ess by rw [hl, List.take_length]]
    (refine s_r ?_; refine tr_val (rk_lss (.of rfl) (.of rfl)) rfl ?_; refine n_t ?_; refine tr_seq ?_; refine c_d rfl (fun _ => by omega) (fun hcd => ?_); refine x_t ?_; refine tr_then_exit ?_; refine tr_blk_exit ?_; refine tr_then ?_; refine s_r ?_; refine m_v rfl rfl ?_)
    with_reducible apply tr_call
    case hr => exact rk_call (.of rfl) (.cons (.of rfl) (.cons (.of rfl) .nil)) inferInstance normc_
    case hd => rfl
    case ht => exact Takes.nil
    case hc =>
      intro w1 fp hm1 _ hs1
      obtain rfl : fp = [] := hs1
      exact growE_c _ hn _
    intro v0 _
    dsimp only [id_eq, List.cons_append, List.nil_append]
    (refine a_s rfl rfl ?_; refine n_t ?_; refine tr_seq ?_; refine s_r ?_; refine m_v rfl rfl ?_; refine tr_val (rk_len_slice (.of rfl)) rfl ?_; refine m_v rfl rfl ?_; refine n_t ?_; refine tr_block ?_)
    refine tr_for (ι := Nat × Value) (fun x => x.1 ≤ vs.length) (fun x => [(27, .int .i64 x.1), (26, .int .i64 vs.length), (25, .slice a vs.length cp), (6, x.2)]) (fun x => [row 138 6 x.2 (ess.take x.1).flatten.length (ensL (ess.take x.1).flatten).flatten]) (fun x => vs.length - x.1) ?_ ?_
    · apply tr_start (0, v0) (Nat.zero_le _)
      case hs1 => exact .cons rfl (.cons rfl (.cons rfl (.cons rfl .nil)))
      case ht =>
        show Takes _ [row 138 6 v0 0 []] _
        exact .cons .here .nil
    rintro ⟨k, v⟩ hk
    dsimp only at hk ⊢
    by_cases hlt : k < vs.length
    · have hlt2 : k < ess.length := by omega
      have ha' := ha (by intro e; have := congrArg List.length e; simp at this; subst this; simp at hlt)
      have hrk := hr k _ _ (List.getElem?_eq_getElem hlt) (List.getElem?_eq_getElem hlt2)
      have hrk' := hrk
      obtain ⟨a1, cap1, b1, o1, e1, _⟩ := hrk'
      rw [ensL_length] at e1
      rw [e1] at hrk
      have c0 : w.cell? ⟨b, o + k * 1, none⟩ = some (.slice a1 ess[k].length cap1) := by rw [← e1]; exact (hc k _ (sing_get hlt)).2 0 _ rfl
      have hfl := flat_le ess (k + 1)
      have hs : (ess.take (k + 1)).flatten.length = (ess.take k).flatten.length + ess[k].length := by rw [take_flat hlt2, List.length_append]
      (refine s_r ?_; refine tr_val (rk_lss (.of rfl) (.of rfl)) rfl ?_; refine n_t ?_; refine tr_seq ?_; refine c_d rfl (fun hcd => ?_) (fun _ => by omega); refine s_t ?_; refine tr_seq ?_; refine tr_block ?_; refine s_r ?_; refine tr_val (rk_indexAddr (.of rfl) (.of rfl) ha' (by omega) hcd norm1_) rfl ?_; refine tr_val (rk_load1 (.of rfl) (At.base c0 rfl)) rfl ?_; refine a_s rfl rfl ?_; refine n_t ?_; refine tr_region ?_; refine m_v rfl rfl ?_; refine m_v rfl rfl ?_)
      with_reducible apply tr_appendR
      case hx => exact Is.of rfl
      case hy => exact Is.of rfl
      case ht => exact .here
      case hsrc => exact fun w' hm' => hrk.keeps hm'.keeps
      case h1 => exact ensL_one _
      case hz => exact rfl
      case hsz => exact rfl
      case hb0 => exact rfl
      case hb => rw [ensL_length]; omega
      case hd => rfl
      intro v'
      rw [ensL_length]
      (refine a_s rfl rfl ?_; refine tr_nil ?_; refine tr_blk_normal ?_; refine tr_then ?_; refine tr_region ?_; refine tr_val (rk_add (.of rfl) (.of rfl) (ini (by omega))) rfl ?_; refine m_v rfl rfl ?_; refine n_t ?_)
      apply tr_next (k + 1, v') (show k + 1 ≤ vs.length by omega) (show vs.length - (k + 1) < vs.length - k by omega)
      case hs1 => exact .cons rfl (.cons rfl (.cons rfl (.cons rfl .nil)))
      case ht =>
        show Takes _ [row 138 6 v' (ess.take (k + 1)).flatten.length (ensL (ess.take (k + 1)).flatten).flatten] _
        rw [hs, take_flat hlt2, ensL_app, List.flatten_append]
        exact .cons .here .nil
    · obtain rfl : k = vs.length := by omega
      have hk' : vs.length = ess.length := hl
      rw [hk', List.take_length]
      (refine s_r ?_; refine tr_val (rk_lss (.of rfl) (.of rfl)) rfl ?_; refine n_t ?_; refine tr_seq ?_; refine c_d rfl (fun _ => by omega) (fun hcd => ?_); refine x_t ?_; refine tr_then_exit ?_; refine tr_blk_exit ?_; refine tr_then ?_; refine s_r ?_; refine m_v rfl rfl ?_; refine a_s rfl rfl ?_; refine n_t ?_; refine tr_ret ?_)
      first | with_reducible apply tr_retM | with_reducible apply tr_endM
      case he => exact ends1 rfl rfl
      case hR =>
        intro w' hm'
        exact gives_end v trivial (by exact .cons .here .nil) hm' rfl
end Go.Proofs.A1

/- S43 -/
namespace Go.Proofs.A1
open Go Go.SL

/-- other entries in place of some -/
def chg (es : List En) (f t : Nat) (l : List En) : List En := [es.take f, l, es.drop t].flatten
theorem chg_length (es : List En) (f t : Nat) (l : List En) (hf : f ≤ es.length) : (chg es f t l).length = f + l.length + (es.length - t) := by
  simp [chg]; omega
theorem ensL_take (es : List En) (k : Nat) : (ensL es).take k = ensL (es.take k) := by simp [ensL, List.map_take]
theorem ensL_drop (es : List En) (k : Nat) : (ensL es).drop k = ensL (es.drop k) := by simp [ensL, List.map_drop]
theorem ensL_flatlen (es : List En) : (ensL es).flatten.length = es.length * 6 := by rw [flat_len (ensL_sz es), ensL_length]
theorem rdEnF {c : Cx} {hs hs' : List Asn} {w : World} {E : TypeId} {es : List En} {n : Nat} {v : Value} (hm : Mem c hs w) (ht : Take hs (row E 6 v n (ensL es).flatten) hs') (hn : es.length = n) : Rd w v 6 (ensL es) :=
  hm.rdRow ht rfl (ensL_sz es) (by rw [ensL_length, hn])
theorem rep_len (n : Nat) (z : List Value) (hz : z.length = 6) : (List.replicate n z).flatten.length = n * 6 := by
  rw [flat_len (sz := 6) fun r hr => by rw [List.eq_of_mem_replicate hr]; exact hz]
  simp
set_option maxHeartbeats 1000000 in
theorem changed_c {sv lv : Value} {es l : List En} {f t : Nat} {w : World} (h1 : Rd w sv 6 (ensL es)) (h2 : Rd w lv 6 (ensL l)) (hf : f ≤ es.length) (ht : t ≤ es.length) (hn : es.length + l.length ≤ 300) :
    Gives Tryz.prog 135 [.agg #[sv], .int .i64 (f : Int), .int .i64 (t : Int), lv] w [] (fun _ : Value => True) (fun v => .agg #[v]) (fun v => [row 138 6 v (chg es f t l).length (ensL (chg es f t l)).flatten]) := by
  have h1' := h1
  have h2' := h2
  obtain ⟨a, cap, b, o, rfl, hcap, hmax, ha, hc⟩ := h1'
  obtain ⟨a2, cap2, b2, o2, rfl, hcap2, hmax2, ha2, hc2⟩ := h2'
  rw [ensL_length] at *
  rw [ensL_length] at *
  unfold maxLen at hmax hmax2
  have hsl : Rd w (Go.sliced a (t : Int).toNat es.length cap 6) 6 (ensL (es.drop t)) := by
    have := h1.sliced (l := t) (m := es.length) ht (Nat.le_refl _)
    rw [List.take_of_length_le (by rw [ensL_length]; exact Nat.le_refl _), ensL_drop] at this
    exact this
  refine gives_of_tr Tryz.func135 rfl rfl ?_
  (refine s_r ?_; refine tr_new (rk_box (.of rfl) rfl) rfl (fun _ _ => ?_); refine tr_new (rk_alloc rfl) rfl (fun _ _ => ?_); refine n_r ?_; refine m_v rfl rfl ?_; refine f_a rfl rfl norm0_ ?_; refine tr_val (rk_load1 (.of rfl) (At.lit (.there .here) rfl)) rfl ?_; refine tr_val (rk_len_slice (.of rfl)) rfl ?_; refine m_v rfl rfl ?_; refine tr_val (rk_len_slice (.of rfl)) rfl ?_; refine tr_val (rk_add (.of rfl) (.of rfl) (ini (by omega))) rfl ?_)
  rw [show (es.length : Int) + (l.length : Int) = ((es.length + l.length : Nat) : Int) by omega]
  with_reducible apply tr_new
  case hr =>
    with_reducible apply rk_make
    case hx => exact Is.of rfl
    case hy => exact Is.of rfl
    case hl => omega
    case hb => omega
    case hz => rfl
    case hsz => rfl
    case h63 => omega
  case hd => rfl
  intro bg hbg
  (refine a_s rfl rfl ?_; refine n_r ?_; refine m_v rfl rfl ?_; refine f_a rfl rfl norm0_ ?_; refine tr_val (rk_load1 (.of rfl) (At.lit (.there (.there .here)) rfl)) rfl ?_)
  with_reducible apply tr_copyR
  case hx => exact Is.of rfl
  case hy => exact Is.of rfl
  case ht => exact .here
  case hsrc => exact fun w' hm' => h1.keeps hm'.keeps
  case h1 => exact ensL_one es
  case hfit =>
    rw [rep_len _ _ rfl]
    exact Nat.mul_le_mul_right _ (by omega)
  case hd => rfl
  rw [ensL_take]
  have hlf : (ensL (es.take f)).flatten.length = f * 6 := by rw [ensL_flatlen, List.length_take]; congr 1; omega
  rw [setCells_pre _ _ (by rw [hlf, rep_len _ _ rfl]; exact Nat.mul_le_mul_right _ (by omega))]
  refine tr_rowShut (n := f) (xs := (ensL (es.take f)).flatten) (cap := es.length + l.length) (g := bg) (E := 138) (sz := 6) (by exact .here) (by omega) (by unfold maxLen; omega) ?_ hlf ?_
  · rw [List.length_append, List.length_drop, rep_len _ _ rfl, hlf]
    have : f * 6 ≤ (es.length + l.length) * 6 := Nat.mul_le_mul_right _ (by omega)
    omega
  (refine n_r ?_; refine m_v rfl rfl ?_; refine m_v rfl rfl ?_; refine f_a rfl rfl norm0_ ?_; refine tr_val (rk_load1 (.of rfl) (At.lit (.there (.there .here)) rfl)) rfl ?_; refine m_v rfl rfl ?_; refine tr_val (rk_slice_l (.of rfl) (.of rfl) (by omega) (by omega)) rfl ?_; refine tr_new (rk_sliceLit (.cons (.of rfl) (.cons (.of rfl) (.cons (.of rfl) .nil))) rfl rfl rfl rfl) rfl (fun _ _ => ?_))
  with_reducible apply tr_call
  case hr => exact rk_call (.of rfl) (.cons (.of rfl) .nil) inferInstance normc_
  case hd => rfl
  case ht => exact Takes.nil
  case hc =>
    intro w1 fp hm1 _ hs1
    obtain rfl : fp = [] := hs1
    refine concat_c (vs := [.slice (some ⟨bg, 0, none⟩) f (es.length + l.length), .slice a2 l.length cap2, Go.sliced a (t : Int).toNat es.length cap 6]) (ess := [es.take f, l, es.drop t]) (Mem.rdBlk hm1 (by exact .here) rfl rfl) rfl ?_ ?_
    · intro i v q hv hq
      match i, hv, hq with
      | 0, hv, hq =>
        simp only [List.getElem?_cons_zero, Option.some.injEq] at hv hq
        subst hv hq
        exact rdEnF hm1 (by exact Take.there .here) (by rw [List.length_take]; omega)
      | 1, hv, hq =>
        simp only [List.getElem?_cons_succ, List.getElem?_cons_zero, Option.some.injEq] at hv hq
        subst hv hq
        exact h2.keeps hm1.keeps
      | 2, hv, hq =>
        simp only [List.getElem?_cons_succ, List.getElem?_cons_zero, Option.some.injEq] at hv hq
        subst hv hq
        exact hsl.keeps hm1.keeps
      | i + 3, hv, hq => simp at hv
    · have := chg_length es f t l hf
      unfold chg at this
      omega
  rw [show [es.take f, l, es.drop t].flatten = chg es f t l from rfl]
  intro v _
  dsimp only [id_eq, List.cons_append, List.nil_append]
  refine tr_rowSl (E := 138) (sz := 6) (by exact .here) fun a' cap' e => ?_
  subst e
  (refine tr_val (rk_buildL (.cons (.of rfl) .nil) norm_) rfl ?_; refine tr_store (.of rfl) (.of rfl) (.there (.there (.there .here))) rfl rfl (okc_cons rfl okc_nil) (lenb rfl) norm_ ?_; refine n_t ?_; refine tr_ret ?_)
  first | with_reducible apply tr_retM | with_reducible apply tr_endM
  case he => exact ends1cB rfl inferInstance rfl .here norm_ (by rfl)
  case hR =>
    intro w' hm'
    exact gives_end (.slice a' (chg es f t l).length cap') trivial (show Takes _ [row 138 6 (.slice a' (chg es f t l).length cap') (chg es f t l).length (ensL (chg es f t l)).flatten] _ by exact .cons (.there .here) .nil) hm' rfl

theorem ccF_zero {es : List En} {now at' below : Int} (h : ccF es now at' below = 0) : chkF es = 0 ∧ (0 ≤ now ∧ now ≤ 10000000) ∧ 0 ≤ at' ∧ at' < below := by
  unfold ccF at h
  rw [firstF_zero] at h
  simp only [List.mem_cons, List.not_mem_nil, or_false, forall_eq_or_imp, forall_eq, withinF_zero] at h
  rw [whenF_zero (by decide)] at h
  have := h.2.2
  simp only [Bool.or_eq_false_iff, decide_eq_false_iff_not] at this
  exact ⟨h.1, h.2.1, by omega, by omega⟩
def rmE (es : List En) (now at' : Int) : Int :=
  if ccF es now at' es.length ≠ 0 then ccF es now at' es.length else if fr es at'.toNat ≤ now then 23 else lateE (chg es at'.toNat (at'.toNat + 1) []) now at'.toNat
def rmL (es : List En) (now at' : Int) : List En := if rmE es now at' = 0 then chg es at'.toNat (at'.toNat + 1) [] else []
theorem removed_c {sv : Value} {es : List En} {now at' : Int} {w : World} (h1 : Rd w sv 6 (ensL es)) (hG : Glob w) :
    Gives Tryz.prog 71 [.agg #[sv], .int .i64 now, .int .i64 at'] w [] (fun _ : Value => True) (fun v => .tuple #[.agg #[v], .int .i64 (rmE es now at')]) (fun v => [row 138 6 v (rmL es now at').length (ensL (rmL es now at')).flatten]) := by
  have h1' := h1
  obtain ⟨a, cap, b, o, rfl, hcap, hmax, ha, hc⟩ := h1'
  rw [ensL_length] at *
  unfold maxLen at hmax
  refine gives_of_tr Tryz.func71 rfl rfl ?_
  (refine s_r ?_; refine tr_new (rk_box (.of rfl) rfl) rfl (fun _ _ => ?_); refine tr_new (rk_alloc rfl) rfl (fun _ _ => ?_); refine a_s rfl rfl ?_; refine n_t ?_; refine tr_seq ?_; refine s_r ?_; refine tr_val (rk_loadB (.of rfl) (.there .here) norm_ (by rfl)) rfl ?_; refine m_v rfl rfl ?_; refine m_v rfl rfl ?_; refine f_a rfl rfl norm0_ ?_; refine tr_val (rk_load1 (.of rfl) (At.lit (.there .here) rfl)) rfl ?_; refine tr_val (rk_len_slice (.of rfl)) rfl ?_; refine tr_callV (rk_call (.of rfl) (.cons (.of rfl) (.cons (.of rfl) (.cons (.of rfl) (.cons (.of rfl) .nil)))) inferInstance normc_) rfl (fun w' hm' => (checkChange_c (Rd.keeps h1 (Mem.keeps hm')) (Glob.keeps hG (Mem.keeps hm')))) ?_; refine a_s rfl rfl ?_; refine n_r ?_; refine m_v rfl rfl ?_; refine tr_val (rk_neq (.of rfl) (.of rfl)) rfl ?_; refine n_t ?_; refine c_d rfl (fun hcd => ?_) (fun hcd => ?_); refine s_r ?_; refine tr_val (rk_buildL .nil norm_) rfl ?_; refine m_v rfl rfl ?_; refine tr_store (.of rfl) (.of rfl) .here rfl rfl (okc_cons rfl okc_nil) (lenb rfl) norm_ ?_; refine a_s rfl rfl ?_; refine n_t ?_; refine r_t ?_; rotate_left; refine s_t ?_; refine tr_seq ?_; refine s_r ?_; refine tr_val (rk_loadB (.of rfl) (.there .here) norm_ (by rfl)) rfl ?_; refine m_v rfl rfl ?_; refine m_v rfl rfl ?_; rotate_right)
  · have hE : rmE es now at' = ccF es now at' es.length := by rw [rmE, if_pos hcd]
    have hL : rmL es now at' = [] := by rw [rmL, if_neg (by rw [hE]; exact hcd)]
    rw [hE, hL]
    refine tr_rowNil 138 6 ?_
    first | with_reducible apply tr_retM | with_reducible apply tr_endM
    case he => exact endsCT rfl inferInstance rfl (.there .here) norm_ (by rfl) (by rfl)
    case hR =>
      intro w' hm'
      exact gives_end (.slice none 0 0) trivial (show Takes _ [row 138 6 (.slice none 0 0) 0 []] _ by exact .cons .here .nil) hm' rfl
  have hz : ccF es now at' es.length = 0 := Decidable.not_not.1 hcd
  obtain ⟨hz1, hz2, hz3, hz4⟩ := ccF_zero hz
  have hs := Sound.of hz1
  obtain ⟨k, rfl⟩ : ∃ k : Nat, at' = k := ⟨at'.toNat, by omega⟩
  have hk : k < es.length := by omega
  have hfew := hs.all.few
  have hE : rmE es now k = if fr es k ≤ now then 23 else lateE (chg es k (k + 1) []) now k := by rw [rmE, if_neg (by rw [hz]; decide)]; rfl
  have hL : rmL es now k = if rmE es now k = 0 then chg es k (k + 1) [] else [] := rfl
  (refine tr_callV (rk_call (.of rfl) (.cons (.of rfl) (.cons (.of rfl) (.cons (.of rfl) .nil))) inferInstance normc_) rfl (fun w' hm' => (begun_c (Rd.keeps h1 (Mem.keeps hm')) hs hk (Glob.keeps hG (Mem.keeps hm')))) ?_; refine n_t ?_; refine c_d rfl (fun hcd => ?_) (fun hcd => ?_); refine s_r ?_; refine tr_val (rk_buildL .nil norm_) rfl ?_; refine tr_store (.of rfl) (.of rfl) .here rfl rfl (okc_cons rfl okc_nil) (lenb rfl) norm_ ?_; refine a_s rfl rfl ?_; refine n_t ?_; refine r_t ?_; rotate_left; refine s_t ?_; refine s_r ?_; refine tr_val (rk_loadB (.of rfl) (.there .here) norm_ (by rfl)) rfl ?_; refine m_v rfl rfl ?_; refine m_v rfl rfl ?_; refine tr_val (rk_add (.of rfl) (.of rfl) (ini (by omega))) rfl ?_; rotate_right)
  · rw [if_pos hcd] at hE
    rw [hE, if_neg (by decide)] at hL
    rw [hE, hL]
    refine tr_rowNil 138 6 ?_
    first | with_reducible apply tr_retM | with_reducible apply tr_endM
    case he => exact endsCT rfl inferInstance rfl (.there .here) norm_ (by rfl) (by rfl)
    case hR =>
      intro w' hm'
      exact gives_end (.slice none 0 0) trivial (show Takes _ [row 138 6 (.slice none 0 0) 0 []] _ by exact .cons .here .nil) hm' rfl
  rw [if_neg hcd] at hE
  rw [show (k : Int) + 1 = ((k + 1 : Nat) : Int) by omega]
  with_reducible apply tr_call
  case hr => exact rk_call (.of rfl) (.cons (.of rfl) (.cons (.of rfl) (.cons (.of rfl) (.cons (.of rfl) .nil)))) inferInstance normc_
  case hd => rfl
  case ht => exact Takes.nil
  case hc =>
    intro w1 fp hm1 _ hs1
    obtain rfl : fp = [] := hs1
    exact changed_c (l := []) (h1.keeps hm1.keeps) (Rd.nil _ _) (by omega) (by omega) (by simp; omega)
  intro v _
  dsimp only [id_eq, List.cons_append, List.nil_append]
  refine tr_rowSl (E := 138) (sz := 6) (by exact .here) fun a' cap' e => ?_
  subst e
  (refine m_v rfl rfl ?_; refine m_v rfl rfl ?_)
  with_reducible apply tr_callV
  case hr => exact rk_call (.of rfl) (.cons (.of rfl) (.cons (.of rfl) (.cons (.of rfl) .nil))) inferInstance normc_
  case hd => rfl
  case hc =>
    intro w' hm'
    exact late_c (rdEnF hm' (by exact .here) rfl) (by omega) (hG.keeps hm'.keeps)
  rw [← hE]
  by_cases h0 : rmE es now k = 0
  · rw [if_pos h0] at hL ⊢
    rw [h0, hL]
    (refine tr_val (rk_extract (.of rfl) rfl) rfl ?_; refine tr_val (rk_extract (.of rfl) rfl) rfl ?_; refine tr_store (.of rfl) (.of rfl) (.there .here) rfl rfl (okc_cons rfl okc_nil) (lenb rfl) norm_ ?_; refine a_s rfl rfl ?_; refine n_t ?_; refine tr_ret ?_)
    first | with_reducible apply tr_retM | with_reducible apply tr_endM
    case he => exact endsCT rfl inferInstance rfl .here norm_ (by rfl) (by rfl)
    case hR =>
      intro w' hm'
      exact gives_end (.slice a' (chg es k (k + 1) []).length cap') trivial (by exact .cons (.there .here) .nil) hm' rfl
  · rw [if_neg h0] at hL ⊢
    rw [hL]
    (refine tr_val (rk_extract (.of rfl) rfl) rfl ?_; refine tr_val (rk_extract (.of rfl) rfl) rfl ?_; refine tr_store (.of rfl) (.of rfl) (.there .here) rfl rfl (okc_cons rfl okc_nil) (lenb rfl) norm_ ?_; refine a_s rfl rfl ?_; refine n_t ?_; refine tr_ret ?_)
    refine tr_rowNil 138 6 ?_
    first | with_reducible apply tr_retM | with_reducible apply tr_endM
    case he => exact endsCT rfl inferInstance rfl (.there .here) norm_ (by rfl) (by rfl)
    case hR =>
      intro w' hm'
      exact gives_end (.slice none 0 0) trivial (show Takes _ [row 138 6 (.slice none 0 0) 0 []] _ by exact .cons .here .nil) hm' rfl
end Go.Proofs.A1

/- S44 -/
namespace Go.Proofs.A1
open Go Go.SL

def in0 (es : List En) (now at' : Int) (x : En) : Int := firstF [ccF es now at' ((es.length : Int) + 1), entF x]
def inE (es : List En) (now at' : Int) (x : En) : Int :=
  if in0 es now at' x ≠ 0 then in0 es now at' x else if at' < es.length ∧ fr es at'.toNat ≤ now then 23 else lateE (chg es at'.toNat at'.toNat [x]) now at'.toNat
def inL (es : List En) (now at' : Int) (x : En) : List En := if inE es now at' x = 0 then chg es at'.toNat at'.toNat [x] else []
set_option maxHeartbeats 1000000 in
theorem inserted_c {sv : Value} {es : List En} {now at' : Int} (x : En) {w : World} (h1 : Rd w sv 6 (ensL es)) (hl0 : es.length ≤ 1000) (hG : Glob w) :
    Gives Tryz.prog 69 [.agg #[sv], .int .i64 now, .int .i64 at', .agg x.cells.toArray] w [] (fun _ : Value => True) (fun v => .tuple #[.agg #[v], .int .i64 (inE es now at' x)]) (fun v => [row 138 6 v (inL es now at' x).length (ensL (inL es now at' x)).flatten]) := by
  have h1' := h1
  obtain ⟨a, cap, b, o, rfl, hcap, hmax, ha, hc⟩ := h1'
  rw [ensL_length] at *
  unfold maxLen at hmax
  have hec : ∀ w', Keeps [] w w' → GivesV Tryz.prog 108 [.agg x.cells.toArray] w' (.int .i64 (entF x)) := fun w' hk => entC_c x w' (hG.keeps hk)
  have hxc : x.cells = [.string x.nm, .string x.mt, .string x.kd, .int .i64 x.tm, .int .i64 x.ln, .int .i64 x.ov] := rfl
  rw [hxc] at hec ⊢
  refine gives_of_tr Tryz.func69 rfl rfl ?_
  (refine s_r ?_; refine tr_new (rk_box (.of rfl) rfl) rfl (fun _ _ => ?_); refine tr_new (rk_box (.of rfl) rfl) rfl (fun _ _ => ?_); refine tr_new (rk_alloc rfl) rfl (fun _ _ => ?_); refine a_s rfl rfl ?_; refine n_t ?_; refine tr_seq ?_; refine tr_seq ?_)
  with_reducible refine tr_draw 10 (by kernel_rfl) ?_
  (refine any_val (rk_loadB (.of rfl) (.there (.there .here)) norm_ (by rfl)) rfl ?_; refine a_m rfl rfl ?_; refine a_m rfl rfl ?_; refine a_f rfl rfl norm0_ ?_; refine any_val (rk_load1 (.of rfl) (At.lit (.there (.there .here)) rfl)) rfl ?_; refine any_val (rk_len_slice (.of rfl)) rfl ?_; refine any_val (rk_add (.of rfl) (.of rfl) (ini (by omega))) rfl ?_; refine any_call (rk_call (.of rfl) (.cons (.of rfl) (.cons (.of rfl) (.cons (.of rfl) (.cons (.of rfl) .nil)))) inferInstance normc_) rfl (fun w' hm' => (checkChange_c (Rd.keeps h1 (Mem.keeps hm')) (Glob.keeps hG (Mem.keeps hm')))) ?_; refine any_val (rk_loadB (.of rfl) (.there .here) norm_ (by rfl)) rfl ?_; refine any_call (rk_call (.of rfl) (.cons (.of rfl) .nil) inferInstance normc_) rfl (fun w' hm' => (hec w' (Mem.keeps hm'))) ?_)
  with_reducible refine any_end ?_
  (refine tr_new (rk_sliceLit (.cons (.of rfl) (.cons (.of rfl) .nil)) rfl rfl rfl rfl) rfl (fun _ _ => ?_); refine tr_callV (rk_call (.of rfl) (.cons (.of rfl) .nil) inferInstance normc_) rfl (fun w' hm' => (first_pB (Mem.rdBlk hm' .here rfl rfl) (IntL.cons (IntL.cons IntL.nil)))) ?_; refine a_s rfl rfl ?_; refine n_r ?_; refine m_v rfl rfl ?_; refine tr_val (rk_neq (.of rfl) (.of rfl)) rfl ?_; refine n_t ?_; refine c_d rfl (fun hcd => ?_) (fun hcd => ?_); refine s_r ?_; refine tr_val (rk_buildL .nil norm_) rfl ?_; refine m_v rfl rfl ?_; refine tr_store (.of rfl) (.of rfl) (.there .here) rfl rfl (okc_cons rfl okc_nil) (lenb rfl) norm_ ?_; refine a_s rfl rfl ?_; refine n_t ?_; refine r_t ?_; rotate_left; refine s_t ?_; refine tr_seq ?_; refine s_r ?_; refine m_v rfl rfl ?_; refine f_a rfl rfl norm0_ ?_; refine tr_val (rk_load1 (.of rfl) (At.lit (.there (.there (.there .here))) rfl)) rfl ?_; refine tr_val (rk_len_slice (.of rfl)) rfl ?_; refine tr_val (rk_lss (.of rfl) (.of rfl)) rfl ?_; refine m_v rfl rfl ?_; refine tr_vG1 rfl rfl inferInstance (fun hg hgp => (rk_loadB (.of rfl) (.there (.there (.there .here))) norm_ (by rfl))) rfl ?_; refine v_g rfl rfl rfl rfl ?_; refine v_g rfl rfl rfl rfl ?_; rotate_right)
  · have hne : in0 es now at' x ≠ 0 := hcd
    have hE : inE es now at' x = in0 es now at' x := by rw [inE, if_pos hne]
    have hL : inL es now at' x = [] := by rw [inL, if_neg (by rw [hE]; exact hne)]
    rw [hE, hL]
    refine tr_rowNil 138 6 ?_
    first | with_reducible apply tr_retM | with_reducible apply tr_endM
    case he => exact endsCT rfl inferInstance rfl (.there .here) norm_ (by rfl) (by rfl)
    case hR =>
      intro w' hm'
      exact gives_end (.slice none 0 0) trivial (show Takes _ [row 138 6 (.slice none 0 0) 0 []] _ by exact .cons .here .nil) hm' rfl
  have hz0 : in0 es now at' x = 0 := Decidable.not_not.1 hcd
  have hz := hz0
  unfold in0 at hz
  rw [firstF_zero] at hz
  simp only [List.mem_cons, List.not_mem_nil, or_false, forall_eq_or_imp, forall_eq] at hz
  obtain ⟨hz1, hz2, hz3, hz4⟩ := ccF_zero hz.1
  have hs := Sound.of hz1
  obtain ⟨k, rfl⟩ : ∃ k : Nat, at' = k := ⟨at'.toNat, by omega⟩
  have hk : k ≤ es.length := by omega
  have hfew := hs.all.few
  have hE : inE es now k x = if (k : Int) < es.length ∧ fr es k ≤ now then 23 else lateE (chg es k k [x]) now k := by rw [inE, if_neg (by rw [hz0]; decide)]; rfl
  have hL : inL es now k x = if inE es now k x = 0 then chg es k k [x] else [] := rfl
  (refine tr_callVG1 rfl rfl (fun hg => (rk_call (.of rfl) (.cons (.ofg hg rfl) (.cons (.ofg hg rfl) (.cons (.ofg hg rfl) .nil))) inferInstance normc_)) rfl (fun hg w' hm' => (begun_c (Rd.keeps h1 (Mem.keeps hm')) hs (glt hg) (Glob.keeps hG (Mem.keeps hm')))) ?_; refine tr_val (rk_pick_and (.of rfl) rfl) rfl ?_; refine n_t ?_; refine c_b rfl (fun hcd => ?_) (fun hcd => ?_); refine s_r ?_; refine tr_val (rk_buildL .nil norm_) rfl ?_; refine tr_store (.of rfl) (.of rfl) (.there .here) rfl rfl (okc_cons rfl okc_nil) (lenb rfl) norm_ ?_; refine a_s rfl rfl ?_; refine n_t ?_; refine r_t ?_; rotate_left; refine s_t ?_; refine s_r ?_; refine tr_val (rk_loadB (.of rfl) (.there (.there (.there .here))) norm_ (by rfl)) rfl ?_; refine m_v rfl rfl ?_; refine m_v rfl rfl ?_; refine tr_val (rk_loadB (.of rfl) (.there (.there .here)) norm_ (by rfl)) rfl ?_; refine tr_new (rk_sliceLitN (.cons (.of rfl) .nil) rfl rfl normp_ normp_ norm_) rfl (fun _ _ => ?_); rotate_right)
  · have hc2 : (k : Int) < es.length ∧ fr es k ≤ now := by simpa using hcd
    rw [if_pos hc2] at hE
    rw [hE, if_neg (by decide)] at hL
    rw [hE, hL]
    refine tr_rowNil 138 6 ?_
    first | with_reducible apply tr_retM | with_reducible apply tr_endM
    case he => exact endsCT rfl inferInstance rfl (.there .here) norm_ (by rfl) (by rfl)
    case hR =>
      intro w' hm'
      exact gives_end (.slice none 0 0) trivial (show Takes _ [row 138 6 (.slice none 0 0) 0 []] _ by exact .cons .here .nil) hm' rfl
  have hc2 : ¬ ((k : Int) < es.length ∧ fr es k ≤ now) := fun ⟨h1, h2⟩ => by rcases hcd with h | h <;> omega
  rw [if_neg hc2] at hE
  rename_i bq hbq
  refine tr_rowLitE (g := bq) (E := 138) (ys := (ensL [x]).flatten) 1 6 (by exact .here) (by exact rfl) rfl rfl ?_
  with_reducible apply tr_call
  case hr => exact rk_call (.of rfl) (.cons (.of rfl) (.cons (.of rfl) (.cons (.of rfl) (.cons (.of rfl) .nil)))) inferInstance normc_
  case hd => rfl
  case ht => exact Takes.nil
  case hc =>
    intro w1 fp hm1 _ hs1
    obtain rfl : fp = [] := hs1
    exact changed_c (l := [x]) (h1.keeps hm1.keeps) (rdEnF (n := 1) (es := [x]) hm1 (by exact .here) rfl) (by omega) (by omega) (by simp; omega)
  intro v _
  dsimp only [id_eq, List.cons_append, List.nil_append]
  refine tr_rowSl (E := 138) (sz := 6) (by exact .here) fun a' cap' e => ?_
  subst e
  (refine m_v rfl rfl ?_; refine m_v rfl rfl ?_)
  with_reducible apply tr_callV
  case hr => exact rk_call (.of rfl) (.cons (.of rfl) (.cons (.of rfl) (.cons (.of rfl) .nil))) inferInstance normc_
  case hd => rfl
  case hc =>
    intro w' hm'
    exact late_c (rdEnF hm' (by exact .here) rfl) (by omega) (hG.keeps hm'.keeps)
  rw [← hE]
  by_cases h0 : inE es now k x = 0
  · rw [if_pos h0] at hL ⊢
    rw [h0, hL]
    (refine tr_val (rk_extract (.of rfl) rfl) rfl ?_; refine tr_val (rk_extract (.of rfl) rfl) rfl ?_; refine tr_store (.of rfl) (.of rfl) (.there (.there (.there .here))) rfl rfl (okc_cons rfl okc_nil) (lenb rfl) norm_ ?_; refine a_s rfl rfl ?_; refine n_t ?_; refine tr_ret ?_)
    first | with_reducible apply tr_retM | with_reducible apply tr_endM
    case he => exact endsCT rfl inferInstance rfl .here norm_ (by rfl) (by rfl)
    case hR =>
      intro w' hm'
      exact gives_end (.slice a' (chg es k k [x]).length cap') trivial (by exact .cons (.there .here) .nil) hm' rfl
  · rw [if_neg h0] at hL ⊢
    rw [hL]
    (refine tr_val (rk_extract (.of rfl) rfl) rfl ?_; refine tr_val (rk_extract (.of rfl) rfl) rfl ?_; refine tr_store (.of rfl) (.of rfl) (.there (.there (.there .here))) rfl rfl (okc_cons rfl okc_nil) (lenb rfl) norm_ ?_; refine a_s rfl rfl ?_; refine n_t ?_; refine tr_ret ?_)
    refine tr_rowNil 138 6 ?_
    first | with_reducible apply tr_retM | with_reducible apply tr_endM
    case he => exact endsCT rfl inferInstance rfl (.there .here) norm_ (by rfl) (by rfl)
    case hR =>
      intro w' hm'
      exact gives_end (.slice none 0 0) trivial (show Takes _ [row 138 6 (.slice none 0 0) 0 []] _ by exact .cons .here .nil) hm' rfl
end Go.Proofs.A1

/- S45 -/
namespace Go.Proofs.A1
open Go Go.SL

theorem flat_cellsAt {sz i : Nat} {xs : List (List Value)} {r cur : List Value} (hx : ∀ r ∈ xs, r.length = sz) (h : xs[i]? = some r) : cellsAt (xs.flatten ++ cur) (i * sz) sz = r := by
  have hi := (List.getElem?_eq_some_iff.1 h).1
  have hl := flat_len hx
  have hrl := hx r (List.mem_of_getElem? h)
  have hm : (i + 1) * sz ≤ xs.length * sz := Nat.mul_le_mul_right _ hi
  rw [Nat.succ_mul] at hm
  rw [cellsAt_eq, List.drop_append_of_le_length (by omega), List.take_append_of_le_length (by rw [List.length_drop]; omega)]
  apply List.ext_getElem?
  intro j
  rw [List.getElem?_take]
  split
  · rename_i hj
    rw [List.getElem?_drop]
    exact (flatten_get xs i hx h (List.getElem?_eq_getElem (by omega))).trans (List.getElem?_eq_getElem (by omega)).symm
  · rw [List.getElem?_eq_none (by omega)]
def trisL (l : List (Int × Int × Int)) : List (List Value) := l.map triV
theorem trisL_flat (l : List (Int × Int × Int)) : l.flatMap triV = (trisL l).flatten := by rw [trisL, List.flatMap_def]
theorem trisL_sz (l : List (Int × Int × Int)) : ∀ r ∈ trisL l, r.length = 3 := by
  intro r hr
  obtain ⟨x, _, rfl⟩ := List.mem_map.1 hr
  rfl
/-- the gaps of a sound schedule -/
theorem gpL_in {es : List En} (hs : Sound es) : ∀ n, n ≤ es.length → ∀ g ∈ gpL es n, 0 ≤ g.1 ∧ g.1 + 1 < es.length ∧ 0 ≤ g.2.1 ∧ g.2.1 < g.2.2 ∧ g.2.2 ≤ 10000000
  | 0, _, g, hg => by cases hg
  | n + 1, hn, g, hg => by
    rw [gpL_succ] at hg
    rcases List.mem_append.1 hg with h | h
    · exact gpL_in hs n (by omega) g h
    · split at h
      · rename_i hc
        simp only [List.mem_singleton] at h
        subst h
        obtain ⟨m, rfl⟩ : ∃ m, n = m + 1 := ⟨n - 1, by omega⟩
        have h1 := hs.fr_nn (k := m) (by omega)
        have h2 := hs.fr_nn (k := m + 1) (by omega)
        have h3 := hc.2
        have e : endV es (m + 1) = to es m := rfl
        rw [e] at h3 ⊢
        dsimp only
        omega
      · cases h
def plOne (b : Br) (f : Int) (o : List Nat) (i : Nat) : En := ⟨(nthS b.sp (nthN o i)).nm, (nthS b.sp (nthN o i)).nm, if i = 0 then sFix else sFol, if i = 0 then f else 0, (nthS b.sp (nthN o i)).ln, 0⟩
def plEn (b : Br) (f : Int) (o : List Nat) (k : Nat) : List En := (List.range k).map (plOne b f o)
theorem plEn_succ (b : Br) (f : Int) (o : List Nat) (k : Nat) : plEn b f o (k + 1) = plEn b f o k ++ [plOne b f o k] := by simp [plEn, List.range_succ]
theorem plEn_length (b : Br) (f : Int) (o : List Nat) (k : Nat) : (plEn b f o k).length = k := by simp [plEn]
def plGap (es : List En) (k : Nat) : Int × Int × Int := (gpL es es.length).getD k (0, 0, 0)
def pl1 (es : List En) (b : Br) (gap : Int) : Int := firstF [whenF (decide (gap < 0) || decide (gap ≥ ((gpL es es.length).length : Int))) 10, brE b]
def pl2 (b : Br) (ol : List Int) (g : Int × Int × Int) : Int := firstF [orderE b ol, whenF (decide (b.n ≠ g.2.2 - g.2.1)) 2]
def plEs (es : List En) (b : Br) (ol : List Int) (g : Int × Int × Int) : List En := chg es (g.1.toNat + 1) (g.1.toNat + 1) (plEn b g.2.1 (cfO ol) (cfO ol).length)
def plE (es : List En) (gap : Int) (b : Br) (ol : List Int) : Int :=
  if chkF es ≠ 0 then chkF es else if pl1 es b gap ≠ 0 then pl1 es b gap else if pl2 b ol (plGap es gap.toNat) ≠ 0 then pl2 b ol (plGap es gap.toNat) else chkF (plEs es b ol (plGap es gap.toNat))
def plL' (es : List En) (gap : Int) (b : Br) (ol : List Int) : List En := if plE es gap b ol = 0 then plEs es b ol (plGap es gap.toNat) else []
set_option maxHeartbeats 2000000 in
theorem placed_c {sv pv cv xv ov : Value} {es : List En} {b : Br} {gap : Int} {ol : List Int} {w : World} (h1 : Rd w sv 6 (ensL es)) (h2 : Rd w pv 4 (spsL b.sp)) (h3 : Rd w cv 1 (ints b.cm)) (h4 : Rd w xv 2 (prsL b.ex)) (h5 : Rd w ov 1 (ints ol)) (hG : Glob w) :
    Gives Tryz.prog 52 [.agg #[sv], .int .i64 gap, .agg #[.int .i64 b.n, pv, cv, xv], ov] w [] (fun _ : Value => True) (fun v => .tuple #[.agg #[v], .int .i64 (plE es gap b ol)]) (fun v => [row 138 6 v (plL' es gap b ol).length (ensL (plL' es gap b ol)).flatten]) := by
  have h1' := h1
  have h2' := h2
  have h5' := h5
  have hone3 := Rd.one h3
  have hone4 := Rd.one h4
  obtain ⟨g0, g1, _⟩ := hG
  have hG : Glob w := ⟨g0, g1, by assumption⟩
  obtain ⟨a, cap, bs, os, rfl, hcap, hmax, ha, hc⟩ := h1'
  obtain ⟨a2, cap2, bs2, os2, rfl, hcap2, hmax2, ha2, hc2⟩ := h2'
  obtain ⟨a5, cap5, bs5, os5, rfl, hcap5, hmax5, ha5, hc5⟩ := h5'
  rw [ensL_length] at *
  rw [spsL_length] at *
  rw [ints_length] at *
  unfold maxLen at hmax hmax2 hmax5
  refine gives_of_tr Tryz.func52 rfl rfl ?_
  (refine s_r ?_; refine tr_new (rk_box (.of rfl) rfl) rfl (fun _ _ => ?_); refine tr_new (rk_box (.of rfl) rfl) rfl (fun _ _ => ?_); refine tr_new (rk_alloc rfl) rfl (fun _ _ => ?_); refine a_s rfl rfl ?_; refine n_t ?_; refine tr_seq ?_; refine s_r ?_; refine tr_val (rk_loadB (.of rfl) (.there (.there .here)) norm_ (by rfl)) rfl ?_; refine tr_callV (rk_call (.of rfl) (.cons (.of rfl) .nil) inferInstance normc_) rfl (fun w' hm' => (chk_c (Rd.keeps h1 (Mem.keeps hm')) (Glob.keeps hG (Mem.keeps hm')))) ?_; refine a_s rfl rfl ?_; refine n_r ?_; refine m_v rfl rfl ?_; refine tr_val (rk_neq (.of rfl) (.of rfl)) rfl ?_; refine n_t ?_; refine c_d rfl (fun hcd => ?_) (fun hcd => ?_); refine s_r ?_; refine tr_val (rk_buildL .nil norm_) rfl ?_; refine m_v rfl rfl ?_; refine tr_store (.of rfl) (.of rfl) .here rfl rfl (okc_cons rfl okc_nil) (lenb rfl) norm_ ?_; refine a_s rfl rfl ?_; refine n_t ?_; refine r_t ?_; rotate_left; refine s_t ?_; refine s_r ?_; refine tr_val (rk_loadB (.of rfl) (.there (.there .here)) norm_ (by rfl)) rfl ?_; rotate_right)
  · have hE : plE es gap b ol = chkF es := by rw [plE, if_pos hcd]
    have hL : plL' es gap b ol = [] := by rw [plL', if_neg (by rw [hE]; exact hcd)]
    rw [hE, hL]
    refine tr_rowNil 138 6 ?_
    first | with_reducible apply tr_retM | with_reducible apply tr_endM
    case he => exact endsCT rfl inferInstance rfl (.there .here) norm_ (by rfl) (by rfl)
    case hR =>
      intro w' hm'
      exact gives_end (.slice none 0 0) trivial (show Takes _ [row 138 6 (.slice none 0 0) 0 []] _ by exact .cons .here .nil) hm' rfl
  rename_i b4 hb4 b6 hb6 b8 hb8
  have hz : chkF es = 0 := Decidable.not_not.1 hcd
  have hs := Sound.of hz
  have hfew := hs.all.few
  with_reducible apply tr_call
  case hr => exact rk_call (.of rfl) (.cons (.of rfl) .nil) inferInstance normc_
  case hd => rfl
  case ht => exact Takes.nil
  case hc =>
    intro w1 fp hm1 _ hs1
    obtain rfl : fp = [] := hs1
    exact gaps_c (h1.keeps hm1.keeps) hs.all.ok hs.all.few (hG.keeps hm1.keeps)
  intro vg _
  dsimp only [id_eq, List.cons_append, List.nil_append]
  refine tr_rowSl (E := 120) (sz := 3) (by exact .here) fun ag capg e => ?_
  subst e
  (refine a_s rfl rfl ?_; refine n_t ?_; refine tr_seq ?_; refine tr_seq ?_)
  with_reducible refine tr_draw 11 (by kernel_rfl) ?_
  (refine a_m rfl rfl ?_; refine any_val (rk_lss (.of rfl) (.of rfl)) rfl ?_; refine a_m rfl rfl ?_; refine any_vG1 rfl rfl inferInstance (fun hg hgp => (rk_move (.of rfl))) rfl ?_; refine any_vG1 rfl rfl inferInstance (fun hg hgp => (rk_move (.of rfl))) rfl ?_; refine any_vG1 rfl rfl inferInstance (fun hg hgp => (rk_len_slice (.ofg hg rfl))) rfl ?_; refine any_vG1 rfl rfl inferInstance (fun hg hgp => (rk_geq (.ofg hg rfl) (.ofg hg rfl))) rfl ?_; refine any_val (rk_pick_or (.of rfl) rfl) rfl ?_; refine any_call (rk_call (.of rfl) (.cons (.of rfl) (.cons (.of rfl) .nil)) inferInstance normc_) rfl (fun w' hm' => (when_c _ 10 w')) ?_; refine any_val (rk_loadB (.of rfl) (.there (.there .here)) norm_ (by rfl)) rfl ?_; refine any_call (rk_call (.of rfl) (.cons (.of rfl) .nil) inferInstance normc_) rfl (fun w' hm' => (brk_c (Rd.keeps h2 (Mem.keeps hm')) (Rd.keeps h3 (Mem.keeps hm')) (Rd.keeps h4 (Mem.keeps hm')))) ?_)
  with_reducible refine any_end ?_
  (refine tr_new (rk_sliceLit (.cons (.of rfl) (.cons (.of rfl) .nil)) rfl rfl rfl rfl) rfl (fun _ _ => ?_); refine tr_callV (rk_call (.of rfl) (.cons (.of rfl) .nil) inferInstance normc_) rfl (fun w' hm' => (first_pB (Mem.rdBlk hm' .here rfl rfl) (IntL.cons (IntL.cons IntL.nil)))) ?_; refine a_s rfl rfl ?_; refine n_r ?_; refine m_v rfl rfl ?_; refine tr_val (rk_neq (.of rfl) (.of rfl)) rfl ?_; refine n_t ?_; refine c_d rfl (fun hcd => ?_) (fun hcd => ?_); refine s_r ?_; refine tr_val (rk_buildL .nil norm_) rfl ?_; refine m_v rfl rfl ?_; refine tr_store (.of rfl) (.of rfl) (.there (.there .here)) rfl rfl (okc_cons rfl okc_nil) (lenb rfl) norm_ ?_; refine a_s rfl rfl ?_; refine n_t ?_; refine r_t ?_; rotate_left; refine s_t ?_; refine s_r ?_; refine m_v rfl rfl ?_; refine m_v rfl rfl ?_; rotate_right)
  · have hne : pl1 es b gap ≠ 0 := hcd
    have hE : plE es gap b ol = pl1 es b gap := by rw [plE, if_neg (by rw [hz]; decide), if_pos hne]
    have hL : plL' es gap b ol = [] := by rw [plL', if_neg (by rw [hE]; exact hne)]
    rw [hE, hL]
    refine tr_rowNil 138 6 ?_
    first | with_reducible apply tr_retM | with_reducible apply tr_endM
    case he => exact endsCT rfl inferInstance rfl (.there .here) norm_ (by rfl) (by rfl)
    case hR =>
      intro w' hm'
      exact gives_end (.slice none 0 0) trivial (show Takes _ [row 138 6 (.slice none 0 0) 0 []] _ by exact .cons .here .nil) hm' rfl
  have hz1 : pl1 es b gap = 0 := Decidable.not_not.1 hcd
  have hz1' := hz1
  unfold pl1 at hz1'
  rw [firstF_zero] at hz1'
  simp only [List.mem_cons, List.not_mem_nil, or_false, forall_eq_or_imp, forall_eq] at hz1'
  rw [whenF_zero (by decide)] at hz1'
  have hok := BrOk.of hz1'.2
  have hgb : 0 ≤ gap ∧ gap < ((gpL es es.length).length : Int) := by
    have := hz1'.1
    simp only [Bool.or_eq_false_iff, decide_eq_false_iff_not] at this
    omega
  obtain ⟨k0, rfl⟩ : ∃ k : Nat, gap = k := ⟨gap.toNat, by omega⟩
  have hk : k0 < (gpL es es.length).length := by omega
  have hgk : (gpL es es.length)[k0]? = some (plGap es k0) := by simp [plGap, hk]
  have hgin := gpL_in hs es.length (Nat.le_refl _) _ (List.mem_of_getElem? hgk)
  generalize hgv : plGap es k0 = gv at hgk hgin
  obtain ⟨ga, gf, gt⟩ := gv
  dsimp only at hgin
  have hE1 : plE es k0 b ol = if pl2 b ol (ga, gf, gt) ≠ 0 then pl2 b ol (ga, gf, gt) else chkF (plEs es b ol (ga, gf, gt)) := by
    rw [plE, if_neg (by rw [hz]; decide), if_neg (by rw [hz1]; decide), Int.toNat_natCast, hgv]
  have hL1 : plL' es k0 b ol = if plE es k0 b ol = 0 then plEs es b ol (ga, gf, gt) else [] := by rw [plL', Int.toNat_natCast, hgv]
  refine tr_rowOpen (E := 120) (sz := 3) (by exact Take.there .here) (by omega) fun gg capg' cur e hcapg hmxg hszg hlg => ?_
  cases e
  have hcg : cellsAt (gpR es es.length ++ cur) (k0 * 3) 3 = [.int .i64 ga, .int .i64 gf, .int .i64 gt] := by
    have : gpR es es.length = (trisL (gpL es es.length)).flatten := trisL_flat _
    rw [this]
    exact flat_cellsAt (trisL_sz _) (by simp [trisL, hgk, triV])
  (refine tr_val (rk_indexAddr (.of rfl) (.of rfl) rfl (by omega) (by omega) norm1_) rfl ?_; refine tr_val (rk_loadB (.of rfl) .here hcg rfl) rfl ?_; refine tr_new (rk_alloc rfl) rfl (fun _ _ => ?_); refine tr_store (.of rfl) (.of rfl) .here rfl rfl (okc_cons rfl (okc_cons rfl (okc_cons rfl okc_nil))) (lenb rfl) norm_ ?_; refine n_t ?_; refine tr_seq ?_; refine tr_seq ?_)
  rename_i b13 hb13
  with_reducible refine tr_draw 14 (by kernel_rfl) ?_
  (refine any_val (rk_loadB (.of rfl) (.there (.there (.there (.there .here)))) norm_ (by rfl)) rfl ?_; refine a_m rfl rfl ?_; refine any_call (rk_call (.of rfl) (.cons (.of rfl) (.cons (.of rfl) .nil)) inferInstance normc_) rfl (fun w' hm' => (order_c (Rd.keeps h2 (Mem.keeps hm')) (Rd.keeps h3 (Mem.keeps hm')) (Rd.keeps h4 (Mem.keeps hm')) (Rd.keeps h5 (Mem.keeps hm')) hok)) ?_; refine a_f rfl rfl norm0_ ?_; refine any_val (rk_load1 (.of rfl) (At.lit (.there (.there (.there (.there .here)))) rfl)) rfl ?_; refine a_f rfl rfl norm0_ ?_; refine a_f rfl rfl norm0_ ?_; refine any_val (rk_load1 (.of rfl) (At.lit .here rfl)) rfl ?_; refine a_f rfl rfl norm0_ ?_; refine a_f rfl rfl norm0_ ?_; refine any_val (rk_load1 (.of rfl) (At.lit .here rfl)) rfl ?_; refine any_val (rk_sub (.of rfl) (.of rfl) (ini (by omega))) rfl ?_; refine any_val (rk_neq (.of rfl) (.of rfl)) rfl ?_; refine any_call (rk_call (.of rfl) (.cons (.of rfl) (.cons (.of rfl) .nil)) inferInstance normc_) rfl (fun w' hm' => (when_c _ 2 w')) ?_)
  with_reducible refine any_end ?_
  (refine tr_new (rk_sliceLit (.cons (.of rfl) (.cons (.of rfl) .nil)) rfl rfl rfl rfl) rfl (fun _ _ => ?_); refine tr_callV (rk_call (.of rfl) (.cons (.of rfl) .nil) inferInstance normc_) rfl (fun w' hm' => (first_pB (Mem.rdBlk hm' .here rfl rfl) (IntL.cons (IntL.cons IntL.nil)))) ?_; refine a_s rfl rfl ?_; refine n_r ?_; refine m_v rfl rfl ?_; refine tr_val (rk_neq (.of rfl) (.of rfl)) rfl ?_; refine n_t ?_; refine c_d rfl (fun hcd => ?_) (fun hcd => ?_); refine s_r ?_; refine tr_val (rk_buildL .nil norm_) rfl ?_; refine m_v rfl rfl ?_; refine tr_store (.of rfl) (.of rfl) (.there (.there (.there (.there .here)))) rfl rfl (okc_cons rfl okc_nil) (lenb rfl) norm_ ?_; refine a_s rfl rfl ?_; refine n_t ?_; refine r_t ?_; rotate_left; refine s_t ?_; refine s_r ?_; refine a_s rfl rfl ?_; refine n_t ?_; refine tr_seq ?_; refine s_r ?_; refine m_v rfl rfl ?_; refine tr_val (rk_len_slice (.of rfl)) rfl ?_; refine m_v rfl rfl ?_; refine n_t ?_; refine tr_block ?_; rotate_right)
  · have hne : pl2 b ol (ga, gf, gt) ≠ 0 := hcd
    rw [if_pos hne] at hE1
    rw [hE1, if_neg hne] at hL1
    rw [hE1, hL1]
    refine tr_rowNil 138 6 ?_
    first | with_reducible apply tr_retM | with_reducible apply tr_endM
    case he => exact endsCT rfl inferInstance rfl (.there .here) norm_ (by rfl) (by rfl)
    case hR =>
      intro w' hm'
      exact gives_end (.slice none 0 0) trivial (show Takes _ [row 138 6 (.slice none 0 0) 0 []] _ by exact .cons .here .nil) hm' rfl
  have hz2 : pl2 b ol (ga, gf, gt) = 0 := Decidable.not_not.1 hcd
  rw [if_neg (by rw [hz2]; decide)] at hE1
  have hz2' := hz2
  unfold pl2 at hz2'
  rw [firstF_zero] at hz2'
  simp only [List.mem_cons, List.not_mem_nil, or_false, forall_eq_or_imp, forall_eq] at hz2'
  obtain ⟨hl8, hin, _⟩ := orderE_ok hz2'.1
  have hnn : ∀ i ∈ ol, 0 ≤ i ∧ i < b.sp.length := by
    intro i hi
    obtain ⟨j, hj, rfl⟩ := List.getElem_of_mem hi
    have := hin j hj
    omega
  have hlo : (cfO ol).length = ol.length := by rw [cfO, List.length_map]
  have hlt : ∀ i ∈ cfO ol, i < b.sp.length := fun i hi => by
    obtain ⟨j, hj, rfl⟩ := List.mem_map.1 hi
    have := hnn j hj
    omega
  have hrd : Rd w (.slice a5 ol.length cap5) 1 (natsL (cfO ol)) := by
    rw [cfO, natsL_ints, toNat_back fun i hi => (hnn i hi).1]; exact h5
  obtain ⟨a5', cap5', bs6, os6, e5, _, _, ha6, hc6⟩ := hrd
  have ha5e : a5' = a5 := by simp only [Value.slice.injEq] at e5; exact e5.1.symm
  subst ha5e
  obtain ⟨n, rfl⟩ : ∃ n : Nat, ga = n := ⟨ga.toNat, by omega⟩
  have hPs : plEs es b ol ((n : Int), gf, gt) = chg es (n + 1) (n + 1) (plEn b gf (cfO ol) ol.length) := by rw [plEs, hlo]; simp only [Int.toNat_natCast]
  rw [hPs] at hE1 hL1
  refine tr_rowNil 138 6 ?_
  refine tr_for (ι := Nat × Value) (fun x => x.1 ≤ ol.length) (fun x => [(72, .int .i64 x.1), (71, .int .i64 ol.length), (3, .slice a5' ol.length cap5), (15, x.2), (6, .pointer (some ⟨b6, 0, none⟩)), (13, .pointer (some ⟨b13, 0, none⟩)), (4, .pointer (some ⟨b4, 0, none⟩)), (8, .pointer (some ⟨b8, 0, none⟩))])
    (fun x => [row 138 6 x.2 x.1 (ensL (plEn b gf (cfO ol) x.1)).flatten, blk b13 (.cells #[.int .i64 (n : Int), .int .i64 gf, .int .i64 gt] 120 (0, 0)), blk b6 (.cells #[.int .i64 b.n, .slice a2 b.sp.length cap2, cv, xv] 91 (0, 0)), blk b4 (.cells #[.slice a es.length cap] 33 (0, 0)), blk b8 (.cells #[.slice none 0 0] 33 (0, 0))]) (fun x => ol.length - x.1) ?_ ?_
  · apply tr_start (0, .slice none 0 0) (Nat.zero_le _)
    case hs1 => exact .cons rfl (.cons rfl (.cons rfl (.cons rfl (.cons rfl (.cons rfl (.cons rfl (.cons rfl .nil)))))))
    case ht =>
      show Takes _ [row 138 6 (.slice none 0 0) 0 [], _, _, _, _] _
      exact .cons .here (.cons (.there .here) (.cons (.there (.there (.there (.there .here)))) (.cons (.there (.there (.there (.there .here)))) (.cons (.there (.there (.there .here))) .nil))))
  rintro ⟨k, v⟩ hk
  dsimp only at hk ⊢
  by_cases hlt2 : k < ol.length
  · have hko : k < (cfO ol).length := by omega
    have ha6' := ha6 (natsL_ne hko)
    have c5 : w.cell? ⟨bs6, os6 + k * 1, none⟩ = some (.int .i64 (nthN (cfO ol) k)) := (hc6 k _ (natsL_get hko)).2 0 _ rfl
    have hi := hlt _ (nthN_mem hko)
    have ha2' := ha2 (spsL_ne hi)
    have hcell := (hc2 (nthN (cfO ol) k) _ (spsL_get hi)).2
    have hsu : (ensL (plEn b gf (cfO ol) (k + 1))).flatten = (ensL (plEn b gf (cfO ol) k)).flatten ++ (plOne b gf (cfO ol) k).cells := by
      rw [plEn_succ, ensL_app, List.flatten_append]; simp [ensL]
    unfold Sp.cells at hcell
    unfold plOne at hsu
    by_cases hk0 : k = 0
    · rw [if_pos hk0, if_pos hk0] at hsu
      (refine s_r ?_; refine tr_val (rk_lss (.of rfl) (.of rfl)) rfl ?_; refine n_t ?_; refine tr_seq ?_; refine c_d rfl (fun hcd => ?_) (fun _ => by omega); refine s_t ?_; refine tr_seq ?_; refine tr_block ?_; refine s_r ?_; refine m_v rfl rfl ?_; refine a_s rfl rfl ?_; refine n_t ?_; refine tr_seq ?_)
      with_reducible refine tr_drawO 9 (by kernel_rfl) ?_
      (refine ao_val (rk_fieldAddr (.of rfl) norm0_) rfl ?_; refine ao_val (rk_load1 (.of rfl) (At.lit (.there (.there .here)) rfl)) rfl ?_; refine ao_val (rk_move (.of rfl)) rfl ?_; refine ao_val (rk_move (.of rfl)) rfl ?_; refine ao_val (rk_indexAddr (.of rfl) (.of rfl) ha6' (by omega) hcd norm1_) rfl ?_; refine ao_val (rk_load1 (.of rfl) (At.base c5 rfl)) rfl ?_; refine ao_val (rk_indexAddr (.of rfl) (.of rfl) ha2' (by omega) (by omega) norm1_) rfl ?_; refine ao_val (rk_loadN (.of rfl) (Ats.base hcell rfl) rfl) rfl ?_; refine ao_new (rk_alloc rfl) rfl rfl ?_)
      with_reducible refine ao_end1 rfl fun bq hbq => ?_
      (refine tr_store (.of rfl) (.of rfl) .here rfl rfl (okc_cons rfl (okc_cons rfl (okc_cons rfl (okc_cons rfl okc_nil)))) (lenb rfl) norm_ ?_; refine n_r ?_; refine tr_val (rk_indexAddrA (.of rfl) (.of rfl) (by omega) (by omega) norm1_) rfl ?_; refine tr_val (rk_load1 (.of rfl) (At.base g1 rfl)) rfl ?_; refine tr_val (rk_buildL (.cons (.of rfl) (.cons (.of rfl) .nil)) norm_) rfl ?_; refine tr_new (rk_alloc rfl) rfl (fun _ _ => ?_); refine tr_store (.of rfl) (.of rfl) .here rfl rfl (okc_cons rfl (okc_cons rfl okc_nil)) (lenb rfl) norm_ ?_; refine n_t ?_; refine tr_seq ?_; refine s_r ?_; refine m_v rfl rfl ?_; refine tr_val (rk_eql (.of rfl) (.of rfl)) rfl ?_; refine n_t ?_; refine c_d rfl (fun hcd => ?_) (fun _ => by omega); refine tr_region ?_; refine tr_val (rk_indexAddrA (.of rfl) (.of rfl) (by omega) (by omega) norm1_) rfl ?_; refine tr_val (rk_load1 (.of rfl) (At.base g0 rfl)) rfl ?_; refine f_a rfl rfl norm0_ ?_; refine f_a rfl rfl norm0_ ?_; refine tr_val (rk_load1 (.of rfl) (At.lit (.there (.there (.there .here))) rfl)) rfl ?_; refine tr_val (rk_buildL (.cons (.of rfl) (.cons (.of rfl) .nil)) norm_) rfl ?_; refine tr_store (.of rfl) (.of rfl) .here rfl rfl (okc_cons rfl (okc_cons rfl okc_nil)) (lenb rfl) norm_ ?_; refine n_t ?_; refine tr_region ?_; refine m_v rfl rfl ?_; refine f_a rfl rfl norm0_ ?_; refine tr_val (rk_load1 (.of rfl) (At.lit (.there .here) rfl)) rfl ?_; refine f_a rfl rfl norm0_ ?_; refine tr_val (rk_load1 (.of rfl) (At.lit (.there .here) rfl)) rfl ?_; refine tr_val (rk_loadB (.of rfl) .here norm_ (by rfl)) rfl ?_; refine f_a rfl rfl norm0_ ?_; refine tr_val (rk_load1 (.of rfl) (At.lit (.there .here) rfl)) rfl ?_; refine tr_val (rk_buildL (.cons (.of rfl) (.cons (.of rfl) (.cons (.of rfl) (.cons (.of rfl) .nil)))) norm_) rfl ?_; refine tr_new (rk_sliceLitN (.cons (.of rfl) .nil) rfl rfl normp_ normp_ norm_) rfl (fun _ _ => ?_))
      refine tr_appendB (.of rfl) (.of rfl) (.there (.there (.there .here))) .here norm_ (by rfl) (okc_cons rfl (okc_cons rfl (okc_cons rfl (okc_cons rfl (okc_cons rfl (okc_cons rfl okc_nil)))))) (by rfl) (by rfl) (by rfl) lenx_ (by rfl) ?_
      intro v'
      (refine a_s rfl rfl ?_; refine tr_nil ?_; refine tr_blk_normal ?_; refine tr_then ?_; refine tr_region ?_; refine tr_val (rk_add (.of rfl) (.of rfl) (ini (by omega))) rfl ?_; refine m_v rfl rfl ?_; refine n_t ?_)
      apply tr_next (k + 1, v') (show k + 1 ≤ ol.length by omega) (show ol.length - (k + 1) < ol.length - k by omega)
      case hs1 => exact .cons rfl (.cons rfl (.cons rfl (.cons rfl (.cons rfl (.cons rfl (.cons rfl (.cons rfl .nil)))))))
      case ht =>
        show Takes _ [row 138 6 v' (k + 1) (ensL (plEn b gf (cfO ol) (k + 1))).flatten, _, _, _, _] _
        rw [hsu]
        unfold En.cells
        exact .cons .here (.cons (.there (.there (.there .here))) (.cons (.there (.there (.there .here))) (.cons (.there (.there (.there .here))) (.cons (.there (.there (.there .here))) .nil))))
    · rw [if_neg hk0, if_neg hk0] at hsu
      (refine s_r ?_; refine tr_val (rk_lss (.of rfl) (.of rfl)) rfl ?_; refine n_t ?_; refine tr_seq ?_; refine c_d rfl (fun hcd => ?_) (fun _ => by omega); refine s_t ?_; refine tr_seq ?_; refine tr_block ?_; refine s_r ?_; refine m_v rfl rfl ?_; refine a_s rfl rfl ?_; refine n_t ?_; refine tr_seq ?_)
      with_reducible refine tr_drawO 9 (by kernel_rfl) ?_
      (refine ao_val (rk_fieldAddr (.of rfl) norm0_) rfl ?_; refine ao_val (rk_load1 (.of rfl) (At.lit (.there (.there .here)) rfl)) rfl ?_; refine ao_val (rk_move (.of rfl)) rfl ?_; refine ao_val (rk_move (.of rfl)) rfl ?_; refine ao_val (rk_indexAddr (.of rfl) (.of rfl) ha6' (by omega) hcd norm1_) rfl ?_; refine ao_val (rk_load1 (.of rfl) (At.base c5 rfl)) rfl ?_; refine ao_val (rk_indexAddr (.of rfl) (.of rfl) ha2' (by omega) (by omega) norm1_) rfl ?_; refine ao_val (rk_loadN (.of rfl) (Ats.base hcell rfl) rfl) rfl ?_; refine ao_new (rk_alloc rfl) rfl rfl ?_)
      with_reducible refine ao_end1 rfl fun bq hbq => ?_
      (refine tr_store (.of rfl) (.of rfl) .here rfl rfl (okc_cons rfl (okc_cons rfl (okc_cons rfl (okc_cons rfl okc_nil)))) (lenb rfl) norm_ ?_; refine n_r ?_; refine tr_val (rk_indexAddrA (.of rfl) (.of rfl) (by omega) (by omega) norm1_) rfl ?_; refine tr_val (rk_load1 (.of rfl) (At.base g1 rfl)) rfl ?_; refine tr_val (rk_buildL (.cons (.of rfl) (.cons (.of rfl) .nil)) norm_) rfl ?_; refine tr_new (rk_alloc rfl) rfl (fun _ _ => ?_); refine tr_store (.of rfl) (.of rfl) .here rfl rfl (okc_cons rfl (okc_cons rfl okc_nil)) (lenb rfl) norm_ ?_; refine n_t ?_; refine tr_seq ?_; refine s_r ?_; refine m_v rfl rfl ?_; refine tr_val (rk_eql (.of rfl) (.of rfl)) rfl ?_; refine n_t ?_; refine c_d rfl (fun _ => by omega) (fun hcd => ?_); refine s_t ?_; refine tr_region ?_; refine m_v rfl rfl ?_; refine f_a rfl rfl norm0_ ?_; refine tr_val (rk_load1 (.of rfl) (At.lit (.there .here) rfl)) rfl ?_; refine f_a rfl rfl norm0_ ?_; refine tr_val (rk_load1 (.of rfl) (At.lit (.there .here) rfl)) rfl ?_; refine tr_val (rk_loadB (.of rfl) .here norm_ (by rfl)) rfl ?_; refine f_a rfl rfl norm0_ ?_; refine tr_val (rk_load1 (.of rfl) (At.lit (.there .here) rfl)) rfl ?_; refine tr_val (rk_buildL (.cons (.of rfl) (.cons (.of rfl) (.cons (.of rfl) (.cons (.of rfl) .nil)))) norm_) rfl ?_; refine tr_new (rk_sliceLitN (.cons (.of rfl) .nil) rfl rfl normp_ normp_ norm_) rfl (fun _ _ => ?_))
      refine tr_appendB (.of rfl) (.of rfl) (.there (.there (.there .here))) .here norm_ (by rfl) (okc_cons rfl (okc_cons rfl (okc_cons rfl (okc_cons rfl (okc_cons rfl (okc_cons rfl okc_nil)))))) (by rfl) (by rfl) (by rfl) lenx_ (by rfl) ?_
      intro v'
      (refine a_s rfl rfl ?_; refine tr_nil ?_; refine tr_blk_normal ?_; refine tr_then ?_; refine tr_region ?_; refine tr_val (rk_add (.of rfl) (.of rfl) (ini (by omega))) rfl ?_; refine m_v rfl rfl ?_; refine n_t ?_)
      apply tr_next (k + 1, v') (show k + 1 ≤ ol.length by omega) (show ol.length - (k + 1) < ol.length - k by omega)
      case hs1 => exact .cons rfl (.cons rfl (.cons rfl (.cons rfl (.cons rfl (.cons rfl (.cons rfl (.cons rfl .nil)))))))
      case ht =>
        show Takes _ [row 138 6 v' (k + 1) (ensL (plEn b gf (cfO ol) (k + 1))).flatten, _, _, _, _] _
        rw [hsu]
        unfold En.cells
        exact .cons .here (.cons (.there (.there (.there .here))) (.cons (.there (.there (.there .here))) (.cons (.there (.there (.there .here))) (.cons (.there (.there (.there .here))) .nil))))
  · obtain rfl : k = ol.length := by omega
    (refine s_r ?_; refine tr_val (rk_lss (.of rfl) (.of rfl)) rfl ?_; refine n_t ?_; refine tr_seq ?_; refine c_d rfl (fun _ => by omega) (fun hcd => ?_); refine x_t ?_; refine tr_then_exit ?_; refine tr_blk_exit ?_; refine tr_then ?_; refine s_r ?_; refine tr_val (rk_loadB (.of rfl) (.there (.there (.there .here))) norm_ (by rfl)) rfl ?_; refine f_a rfl rfl norm0_ ?_; refine tr_val (rk_load1 (.of rfl) (At.lit (.there .here) rfl)) rfl ?_; refine tr_val (rk_add (.of rfl) (.of rfl) (ini (by omega))) rfl ?_; refine f_a rfl rfl norm0_ ?_; refine tr_val (rk_load1 (.of rfl) (At.lit (.there .here) rfl)) rfl ?_; refine tr_val (rk_add (.of rfl) (.of rfl) (ini (by omega))) rfl ?_; refine m_v rfl rfl ?_)
    rw [show (n : Int) + 1 = ((n + 1 : Nat) : Int) by omega]
    with_reducible apply tr_call
    case hr => exact rk_call (.of rfl) (.cons (.of rfl) (.cons (.of rfl) (.cons (.of rfl) (.cons (.of rfl) .nil)))) inferInstance normc_
    case hd => rfl
    case ht => exact Takes.nil
    case hc =>
      intro w1 fp hm1 _ hs1
      obtain rfl : fp = [] := hs1
      exact changed_c (l := plEn b gf (cfO ol) ol.length) (h1.keeps hm1.keeps) (rdEnF hm1 (by exact .here) (plEn_length _ _ _ _)) (by omega) (by omega) (by rw [plEn_length]; omega)
    intro vc _
    dsimp only [id_eq, List.cons_append, List.nil_append]
    refine tr_rowSl (E := 138) (sz := 6) (by exact .here) fun a' cap' e => ?_
    subst e
    (refine tr_new (rk_alloc rfl) rfl (fun _ _ => ?_); refine tr_store (.of rfl) (.of rfl) .here rfl rfl (okc_cons rfl okc_nil) (lenb rfl) norm_ ?_; refine n_t ?_; refine tr_seq ?_; refine s_r ?_; refine tr_val (rk_loadB (.of rfl) .here norm_ (by rfl)) rfl ?_)
    with_reducible apply tr_callV
    case hr => exact rk_call (.of rfl) (.cons (.of rfl) .nil) inferInstance normc_
    case hd => rfl
    case hc =>
      intro w' hm'
      exact chk_c (rdEnF hm' (by exact Take.there .here) rfl) (hG.keeps hm'.keeps)
    rw [← hE1]
    (refine a_s rfl rfl ?_; refine n_r ?_; refine m_v rfl rfl ?_; refine tr_val (rk_neq (.of rfl) (.of rfl)) rfl ?_; refine n_t ?_; refine c_d rfl (fun hcd => ?_) (fun hcd => ?_); refine s_r ?_; refine tr_val (rk_buildL .nil norm_) rfl ?_; refine m_v rfl rfl ?_; refine tr_store (.of rfl) (.of rfl) (.there (.there (.there (.there (.there (.there .here)))))) rfl rfl (okc_cons rfl okc_nil) (lenb rfl) norm_ ?_; refine a_s rfl rfl ?_; refine n_t ?_; refine r_t ?_; rotate_left; refine s_t ?_; refine s_r ?_; refine tr_val (rk_loadB (.of rfl) .here norm_ (by rfl)) rfl ?_; refine tr_store (.of rfl) (.of rfl) (.there (.there (.there (.there (.there (.there .here)))))) rfl rfl (okc_cons rfl okc_nil) (lenb rfl) norm_ ?_; refine a_s rfl rfl ?_; refine n_t ?_; refine tr_ret ?_; rotate_right)
    · rw [if_neg hcd] at hL1
      rw [hL1]
      refine tr_rowNil 138 6 ?_
      first | with_reducible apply tr_retM | with_reducible apply tr_endM
      case he => exact endsCT rfl inferInstance rfl (.there .here) norm_ (by rfl) (by rfl)
      case hR =>
        intro w' hm'
        exact gives_end (.slice none 0 0) trivial (show Takes _ [row 138 6 (.slice none 0 0) 0 []] _ by exact .cons .here .nil) hm' rfl
    · have h0 : plE es k0 b ol = 0 := Decidable.not_not.1 hcd
      rw [if_pos h0] at hL1
      rw [h0, hL1]
      first | with_reducible apply tr_retM | with_reducible apply tr_endM
      case he => exact endsCT rfl inferInstance rfl .here norm_ (by rfl) (by rfl)
      case hR =>
        intro w' hm'
        exact gives_end (.slice a' (chg es (n + 1) (n + 1) (plEn b gf (cfO ol) ol.length)).length cap') trivial (by exact .cons (.there (.there .here)) .nil) hm' rfl
end Go.Proofs.A1

/- S46p -/
/- The document's example, reckoned. -/
namespace Go.Proofs.A1
open Go Go.SL

def ofB : Br := ⟨55, ofL, [2, 2], []⟩
def aw6 : List Se := [⟨1, false, 10, 20⟩, ⟨1, true, -30, 20⟩]
def aw7 : List Ri := [⟨⟨#[110, 49]⟩, 0, 150⟩, ⟨⟨#[102, 49]⟩, 150, 400⟩, ⟨⟨#[108, 49]⟩, 400, 420⟩]
def ad (n : Int) : En := ⟨⟨#[97, 100]⟩, ⟨#[97, 49]⟩, sFol, 0, n, 0⟩
theorem ev_chk : chkF shL = 0 := by kernel_rfl
theorem ev_tm : tmL shL = [(100, 150), (145, 345), (400, 420), (420, 450)] := by kernel_rfl
theorem ev_gps : gpsL shL = [(1, 345, 400)] := by kernel_rfl
theorem ev_air1 : airE shL 145 = 0 ∧ airL shL 145 = [(0, 5, 6), (1, 1, 6)] := ⟨by kernel_rfl, by kernel_rfl⟩
theorem ev_air2 : airE shL 150 = 0 ∧ airL shL 150 = [(1, 1, 1)] := ⟨by kernel_rfl, by kernel_rfl⟩
theorem ev_air3 : airE shL 360 = 0 ∧ airL shL 360 = [] := ⟨by kernel_rfl, by kernel_rfl⟩
theorem ev_ex : exE shL aw6 = 0 ∧ exL shL aw6 = [(155, 175), (315, 335)] := ⟨by kernel_rfl, by kernel_rfl⟩
theorem ev_vi : viE shL aw7 = 0 ∧ viL shL aw7 = [1, 3] := ⟨by kernel_rfl, by kernel_rfl⟩
theorem ev_rm1 : rmE shL 380 1 = 23 ∧ rmL shL 380 1 = [] := ⟨by kernel_rfl, by kernel_rfl⟩
theorem ev_rm2 : rmE shL 380 2 = 0 ∧ rmL shL 380 2 = [sh0, sh1, sh3] := ⟨by kernel_rfl, by kernel_rfl⟩
theorem ev_tm2 : chkF [sh0, sh1, sh3] = 0 ∧ tmL [sh0, sh1, sh3] = [(100, 150), (145, 345), (410, 440)] := ⟨by kernel_rfl, by kernel_rfl⟩
theorem ev_in1 : inE shL 300 2 (ad 60) = 15 ∧ inL shL 300 2 (ad 60) = [] := ⟨by kernel_rfl, by kernel_rfl⟩
theorem ev_in2 : inE shL 300 2 (ad 55) = 0 := by kernel_rfl
theorem ev_in3 : inE shL 346 2 (ad 55) = 23 ∧ inL shL 346 2 (ad 55) = [] := ⟨by kernel_rfl, by kernel_rfl⟩
theorem ev_br : brE ofB = 0 := by kernel_rfl
theorem ev_fi : fiL ofB = [1, 2] ∧ fiV ofB = (76, 55) := ⟨by kernel_rfl, by kernel_rfl⟩
theorem ev_cf1 : cfE ofB [0, 3, 1] = 0 ∧ cfV ofB [0, 3, 1] = (75, 55) := ⟨by kernel_rfl, by kernel_rfl⟩
theorem ev_cf2 : cfE ofB [0, 1] = 21 ∧ cfV ofB [0, 1] = (0, 0) := ⟨by kernel_rfl, by kernel_rfl⟩
theorem ev_bd1 : bdE ofB (6, 5) = 0 ∧ bndF ofB (6, 5) = 82 := ⟨by kernel_rfl, by kernel_rfl⟩
theorem ev_bd2 : bdE ofB (3, 2) = 0 ∧ bndF ofB (3, 2) = 85 := ⟨by kernel_rfl, by kernel_rfl⟩
theorem ev_pr : priceF ofB = (6, 5) := by kernel_rfl
def awP : List En := [sh0, sh1, ⟨⟨#[98]⟩, ⟨#[98]⟩, sFix, 345, 25, 0⟩, ⟨⟨#[99]⟩, ⟨#[99]⟩, sFol, 0, 30, 0⟩, sh2, sh3]
theorem ev_pl : plE shL 0 ofB [1, 2] = 0 ∧ plL' shL 0 ofB [1, 2] = awP := ⟨by kernel_rfl, by kernel_rfl⟩
theorem ev_one : chkF [sh0] = 0 := by kernel_rfl
end Go.Proofs.A1
