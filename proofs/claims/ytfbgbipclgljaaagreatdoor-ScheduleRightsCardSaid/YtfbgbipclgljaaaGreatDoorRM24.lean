/- Parts of the proof: S59 S60 S61p. -/
import Derived.Test.YtfbgbipclgljaaaGreatDoorRM23
import Derived.Test.YtfbgbipclgljaaaGreatDoorRM07
set_option linter.unusedSectionVars false
set_option linter.unusedVariables false
set_option linter.unusedSimpArgs false
/- S59 -/
namespace Go.Proofs.A1
open Go Go.SL

set_option maxHeartbeats 2000000 in
theorem expQ_c {sv lv : Value} {es : List En} {l : List Se} {w : World} (h1 : Rd w sv 6 (ensL es)) (h2 : Rd w lv 4 (seL l)) (hs : Sound es) (h32 : l.length ≤ 32) (hz2 : firstF (l.map (seE es.length)) = 0) :
    Gives Tryz.prog 40 [.agg #[sv], lv] w [] (fun _ : Value => True) (fun v => .tuple #[v, .int .i64 (whenF (l.any (exBad es)) 14)]) (fun v => [row 66 2 v (if l.any (exBad es) then [] else exM es l).length ((if l.any (exBad es) then [] else exM es l).flatMap duoV)]) := by
  have h1' := h1
  obtain ⟨a2, cap2, b2, o2, rfl, hcap2, hmax2, ha2, hc2⟩ := h2
  rw [seL_length] at *
  unfold maxLen at hmax2
  have hin : ∀ x ∈ l, 0 ≤ x.en ∧ x.en < es.length ∧ -1000000 ≤ x.off ∧ x.off ≤ 1000000 ∧ 1 ≤ x.ln ∧ x.ln ≤ 1000000 := by
    intro x hx
    have h := firstF_zero.1 hz2 (seE es.length x) (List.mem_map.2 ⟨x, hx, rfl⟩)
    unfold seE at h
    rw [firstF_zero] at h
    simp only [List.mem_cons, List.not_mem_nil, or_false, forall_eq_or_imp, forall_eq, withinF_zero] at h
    rw [whenF_zero (by decide)] at h
    obtain ⟨h1, h2, h3⟩ := h
    simp at h1
    omega
  have hfew := hs.all.few
  refine gives_of_tr Tryz.func40 rfl rfl ?_
  (refine s_r ?_; refine tr_new (rk_box (.of rfl) rfl) rfl (fun _ _ => ?_); refine a_s rfl rfl ?_; refine a_s rfl rfl ?_; refine n_r ?_; refine a_s rfl rfl ?_; refine n_r ?_; refine tr_val (rk_loadB (.of rfl) .here norm_ (by rfl)) rfl ?_)
  rename_i b1 hb1
  with_reducible apply tr_call
  case hr => exact rk_call (.of rfl) (.cons (.of rfl) .nil) inferInstance normc_
  case hd => rfl
  case ht => exact Takes.nil
  case hc =>
    intro w1 fp hm1 _ hs1
    obtain rfl : fp = [] := hs1
    exact spansQ_c (h1.keeps hm1.keeps) hs
  intro vs _
  dsimp only [id_eq, List.cons_append, List.nil_append]
  by_cases hn0 : 0 < es.length
  · refine tr_rowOpen (E := 66) (sz := 2) (by exact .here) hn0 fun g cap' cur e hcap' hmx' hsz' hl' => ?_
    subst e
    (refine a_s rfl rfl ?_; refine n_t ?_; refine tr_seq ?_; refine s_r ?_; refine a_s rfl rfl ?_; refine n_t ?_; refine tr_block ?_)
    refine tr_rowNil 66 2 ?_
    refine tr_for (ι := Nat × Value) (fun x => x.1 ≤ l.length ∧ ∀ i, i < x.1 → ∀ h : i < l.length, exBad es l[i] = false) (fun x => [(8, .int .i64 x.1), (1, .slice a2 l.length cap2), (7, .slice (some ⟨g, 0, none⟩) es.length cap'), (6, x.2)])
      (fun x => [row 66 2 x.2 x.1 ((exM es (l.take x.1)).flatMap duoV), blk g (.cells (spV es es.length ++ cur).toArray 66 (0, 0))]) (fun x => l.length - x.1) ?_ ?_
    · apply tr_start (0, .slice none 0 0) ⟨Nat.zero_le _, fun i h => by omega⟩
      case hs1 => exact .cons rfl (.cons rfl (.cons rfl (.cons rfl .nil)))
      case ht =>
        show Takes _ [row 66 2 (.slice none 0 0) 0 [], _] _
        exact .cons .here (.cons .here .nil)
    rintro ⟨k, v1⟩ ⟨hk, hf⟩
    dsimp only at hk hf ⊢
    by_cases hlt : k < l.length
    · have ha2' := ha2 (by intro e; have := congrArg List.length e; rw [seL_length] at this; simp at this; subst this; simp at hlt)
      have hcell := (hc2 k _ (seL_get hlt)).2
      have hb := hin _ (List.getElem_mem hlt)
      have htk : (exM es (l.take (k + 1))).flatMap duoV = (exM es (l.take k)).flatMap duoV ++ duoV (exFrom es l[k], exFrom es l[k] + l[k].ln) := by
        rw [List.take_succ_eq_append_getElem hlt, exM, List.map_append, List.flatMap_append]; simp [exM]
      generalize hx : l[k] = x at hcell hb htk
      obtain ⟨en, fe, off, ln⟩ := x
      have hd0 := hcell 0 _ rfl
      have hd1 := hcell 1 _ rfl
      have hd2 := hcell 2 _ rfl
      have hd3 := hcell 3 _ rfl
      unfold Se.cells at hcell
      dsimp only at hcell hb hd0 hd1 hd2 hd3
      have hen : en.toNat < es.length := by omega
      have hnn := hs.fr_nn hen
      have hsp : cellsAt (spV es es.length ++ cur) (en.toNat * 2) 2 = [.int .i64 (fr es en.toNat), .int .i64 (to es en.toNat)] := by
        have e0 : spV es es.length = ((spL es es.length).map duoV).flatten := by rw [spV, List.flatMap_def]
        rw [e0]
        exact flat_cellsAt (fun r hr => by obtain ⟨x, _, rfl⟩ := List.mem_map.1 hr; rfl) (by simp [spL, hen, duoV])
      cases fe with
      | false =>
        (refine tr_seq ?_; refine s_r ?_; refine m_v rfl rfl ?_; refine m_v rfl rfl ?_; refine tr_val (rk_len_slice (.of rfl)) rfl ?_; refine tr_val (rk_lss (.of rfl) (.of rfl)) rfl ?_; refine n_t ?_; refine c_d rfl (fun hcd => ?_) (fun _ => by omega); refine s_t ?_; refine tr_seq ?_; refine tr_block ?_; refine s_r ?_; refine m_v rfl rfl ?_; refine m_v rfl rfl ?_; refine m_v rfl rfl ?_; refine tr_val (rk_indexAddr (.of rfl) (.of rfl) ha2' (by omega) hcd norm1_) rfl ?_; refine f_a rfl rfl norm0_ ?_; refine tr_val (rk_load1 (.of rfl) (At.base hd0 rfl)) rfl ?_; refine tr_val (rk_indexAddr (.of rfl) (.of rfl) rfl (by omega) (by omega) norm1_) rfl ?_; refine tr_val (rk_loadB (.of rfl) (.there .here) hsp rfl) rfl ?_; refine tr_new (rk_alloc rfl) rfl (fun _ _ => ?_); refine tr_store (.of rfl) (.of rfl) .here rfl rfl (okc_cons rfl (okc_cons rfl okc_nil)) (lenb rfl) norm_ ?_; refine n_t ?_; refine tr_seq ?_)
        with_reducible refine tr_draw 8 (by kernel_rfl) ?_
        (refine a_f rfl rfl norm0_ ?_; refine any_val (rk_load1 (.of rfl) (At.lit .here rfl)) rfl ?_; refine a_m rfl rfl ?_; refine a_m rfl rfl ?_; refine any_val (rk_indexAddr (.of rfl) (.of rfl) ha2' (by omega) hcd norm1_) rfl ?_; refine a_f rfl rfl norm0_ ?_; refine any_val (rk_load1 (.of rfl) (At.base hd2 rfl)) rfl ?_; refine any_val (rk_add (.of rfl) (.of rfl) (ini (by omega))) rfl ?_)
        with_reducible refine any_end ?_
        (refine a_s rfl rfl ?_; refine n_t ?_; refine tr_seq ?_; refine s_r ?_; refine m_v rfl rfl ?_; refine m_v rfl rfl ?_; refine tr_val (rk_indexAddr (.of rfl) (.of rfl) ha2' (by omega) hcd norm1_) rfl ?_; refine f_a rfl rfl norm0_ ?_; refine tr_val (rk_load1 (.of rfl) (At.base hd1 rfl)) rfl ?_; refine n_t ?_; refine tr_cond_f (.of rfl) ?_; refine s_t ?_; refine tr_seq ?_; refine tr_seq ?_)
        with_reducible refine tr_draw 16 (by kernel_rfl) ?_
        (refine a_m rfl rfl ?_; refine a_f rfl rfl norm0_ ?_; refine any_val (rk_load1 (.of rfl) (At.lit .here rfl)) rfl ?_; refine any_val (rk_lss (.of rfl) (.of rfl)) rfl ?_; refine a_m rfl rfl ?_; refine any_vG1 rfl rfl inferInstance (fun hg hgp => (rk_move (.of rfl))) rfl ?_; refine any_vG1 rfl rfl inferInstance (fun hg hgp => (rk_move (.of rfl))) rfl ?_; refine any_vG1 rfl rfl inferInstance (fun hg hgp => (rk_move (.of rfl))) rfl ?_; refine any_vG1 rfl rfl inferInstance (fun hg hgp => (rk_indexAddr (.ofg hg rfl) (.ofg hg rfl) ha2' (by omega) hcd norm1_)) rfl ?_; refine any_vG1 rfl rfl inferInstance (fun hg hgp => (rk_fieldAddr (.ofg hg rfl) norm0_)) rfl ?_; refine any_vG1 rfl rfl inferInstance (fun hg hgp => (rk_load1 (.ofg hg rfl) (At.base hd3 rfl))) rfl ?_; refine any_vG1 rfl rfl inferInstance (fun hg hgp => (rk_add (.ofg hg rfl) (.ofg hg rfl) (ini (by omega)))) rfl ?_; refine any_vG1 rfl rfl inferInstance (fun hg hgp => (rk_fieldAddr (.of rfl) norm0_)) rfl ?_; refine any_vG1 rfl rfl inferInstance (fun hg hgp => (rk_load1 (.ofg hg rfl) (At.lit .here rfl))) rfl ?_; refine any_vG1 rfl rfl inferInstance (fun hg hgp => (rk_gtr (.ofg hg rfl) (.ofg hg rfl))) rfl ?_; refine any_val (rk_pick_or (.of rfl) rfl) rfl ?_)
        with_reducible refine any_end ?_
        (refine n_t ?_; refine c_b rfl (fun hcd => ?_) (fun hcd => ?_); refine s_r ?_; refine a_s rfl rfl ?_; refine a_s rfl rfl ?_; refine n_t ?_; refine r_t ?_; refine tr_blk_ret ?_; refine tr_then_ret ?_; refine tr_then_ret ?_; refine tr_blk_ret ?_; refine tr_then_ret ?_; rotate_left; refine s_t ?_; refine tr_region ?_; refine m_v rfl rfl ?_; refine m_v rfl rfl ?_; refine m_v rfl rfl ?_; refine m_v rfl rfl ?_; refine m_v rfl rfl ?_; refine tr_val (rk_indexAddr (.of rfl) (.of rfl) ha2' (by omega) (by assumption) norm1_) rfl ?_; refine f_a rfl rfl norm0_ ?_; refine tr_val (rk_load1 (.of rfl) (At.base hd3 rfl)) rfl ?_; refine tr_val (rk_add (.of rfl) (.of rfl) (ini (by omega))) rfl ?_; refine tr_val (rk_buildL (.cons (.of rfl) (.cons (.of rfl) .nil)) norm_) rfl ?_; refine tr_new (rk_sliceLitN (.cons (.of rfl) .nil) rfl rfl normp_ normp_ norm_) rfl (fun _ _ => ?_); rotate_right)
        · have hbad : exBad es ⟨en, false, off, ln⟩ = true := by
            unfold exBad exFrom
            simp only [Bool.or_eq_true, decide_eq_true_eq]
            exact hcd
          have hany : l.any (exBad es) = true := List.any_eq_true.2 ⟨_, List.getElem_mem hlt, by rw [hx]; exact hbad⟩
          rw [hany]
          refine tr_rowNil 66 2 ?_
          first | with_reducible apply tr_retM | with_reducible apply tr_endM
          case he => exact ends2 rfl rfl rfl
          case hR =>
            intro w' hm'
            exact gives_end (.slice none 0 0) trivial (show Takes _ [row 66 2 (.slice none 0 0) 0 []] _ by exact .cons .here .nil) hm' rfl
        · have hok : exBad es ⟨en, false, off, ln⟩ = false := by
            unfold exBad exFrom
            simp only [Bool.or_eq_false_iff, decide_eq_false_iff_not]
            exact hcd
          refine tr_appendB (.of rfl) (.of rfl) (.there (.there .here)) .here norm_ (by rfl) (okc_cons rfl (okc_cons rfl okc_nil)) (by rfl) (by rfl) (by rfl) lenx_ (by rfl) ?_
          intro v'
          (refine a_s rfl rfl ?_; refine tr_nil ?_; refine tr_blk_normal ?_; refine tr_then ?_; refine tr_region ?_; refine m_v rfl rfl ?_; refine tr_val (rk_add (.of rfl) (.of rfl) (ini (by omega))) rfl ?_; refine a_s rfl rfl ?_; refine n_t ?_)
          apply tr_next (k + 1, v') ⟨by show k + 1 ≤ l.length; omega, fun i hi hi2 => by
            by_cases e : i = k
            · subst e; rw [hx]; exact hok
            · exact hf i (by omega) hi2⟩ (by show l.length - (k + 1) < l.length - k; omega)
          case hs1 => exact .cons rfl (.cons rfl (.cons rfl (.cons rfl .nil)))
          case ht =>
            show Takes _ [row 66 2 v' (k + 1) ((exM es (l.take (k + 1))).flatMap duoV), _] _
            rw [htk]
            show Takes _ [row 66 2 v' (k + 1) ((exM es (l.take k)).flatMap duoV ++ [.int .i64 (fr es en.toNat + off), .int .i64 (fr es en.toNat + off + ln)]), _] _
            exact .cons .here (.cons (.there (.there .here)) .nil)
      | true =>
        (refine tr_seq ?_; refine s_r ?_; refine m_v rfl rfl ?_; refine m_v rfl rfl ?_; refine tr_val (rk_len_slice (.of rfl)) rfl ?_; refine tr_val (rk_lss (.of rfl) (.of rfl)) rfl ?_; refine n_t ?_; refine c_d rfl (fun hcd => ?_) (fun _ => by omega); refine s_t ?_; refine tr_seq ?_; refine tr_block ?_; refine s_r ?_; refine m_v rfl rfl ?_; refine m_v rfl rfl ?_; refine m_v rfl rfl ?_; refine tr_val (rk_indexAddr (.of rfl) (.of rfl) ha2' (by omega) hcd norm1_) rfl ?_; refine f_a rfl rfl norm0_ ?_; refine tr_val (rk_load1 (.of rfl) (At.base hd0 rfl)) rfl ?_; refine tr_val (rk_indexAddr (.of rfl) (.of rfl) rfl (by omega) (by omega) norm1_) rfl ?_; refine tr_val (rk_loadB (.of rfl) (.there .here) hsp rfl) rfl ?_; refine tr_new (rk_alloc rfl) rfl (fun _ _ => ?_); refine tr_store (.of rfl) (.of rfl) .here rfl rfl (okc_cons rfl (okc_cons rfl okc_nil)) (lenb rfl) norm_ ?_; refine n_t ?_; refine tr_seq ?_)
        with_reducible refine tr_draw 8 (by kernel_rfl) ?_
        (refine a_f rfl rfl norm0_ ?_; refine any_val (rk_load1 (.of rfl) (At.lit .here rfl)) rfl ?_; refine a_m rfl rfl ?_; refine a_m rfl rfl ?_; refine any_val (rk_indexAddr (.of rfl) (.of rfl) ha2' (by omega) hcd norm1_) rfl ?_; refine a_f rfl rfl norm0_ ?_; refine any_val (rk_load1 (.of rfl) (At.base hd2 rfl)) rfl ?_; refine any_val (rk_add (.of rfl) (.of rfl) (ini (by omega))) rfl ?_)
        with_reducible refine any_end ?_
        (refine a_s rfl rfl ?_; refine n_t ?_; refine tr_seq ?_; refine s_r ?_; refine m_v rfl rfl ?_; refine m_v rfl rfl ?_; refine tr_val (rk_indexAddr (.of rfl) (.of rfl) ha2' (by omega) hcd norm1_) rfl ?_; refine f_a rfl rfl norm0_ ?_; refine tr_val (rk_load1 (.of rfl) (At.base hd1 rfl)) rfl ?_; refine n_t ?_; refine tr_cond_t (.of rfl) ?_)
        with_reducible refine tr_draw 8 (by kernel_rfl) ?_
        (refine a_f rfl rfl norm0_ ?_; refine any_val (rk_load1 (.of rfl) (At.lit .here rfl)) rfl ?_; refine a_m rfl rfl ?_; refine a_m rfl rfl ?_; refine any_val (rk_indexAddr (.of rfl) (.of rfl) ha2' (by omega) hcd norm1_) rfl ?_; refine a_f rfl rfl norm0_ ?_; refine any_val (rk_load1 (.of rfl) (At.base hd2 rfl)) rfl ?_; refine any_val (rk_add (.of rfl) (.of rfl) (ini (by omega))) rfl ?_)
        with_reducible refine any_end ?_
        (refine a_s rfl rfl ?_; refine n_t ?_; refine tr_seq ?_; refine tr_seq ?_)
        with_reducible refine tr_draw 16 (by kernel_rfl) ?_
        (refine a_m rfl rfl ?_; refine a_f rfl rfl norm0_ ?_; refine any_val (rk_load1 (.of rfl) (At.lit .here rfl)) rfl ?_; refine any_val (rk_lss (.of rfl) (.of rfl)) rfl ?_; refine a_m rfl rfl ?_; refine any_vG1 rfl rfl inferInstance (fun hg hgp => (rk_move (.of rfl))) rfl ?_; refine any_vG1 rfl rfl inferInstance (fun hg hgp => (rk_move (.of rfl))) rfl ?_; refine any_vG1 rfl rfl inferInstance (fun hg hgp => (rk_move (.of rfl))) rfl ?_; refine any_vG1 rfl rfl inferInstance (fun hg hgp => (rk_indexAddr (.ofg hg rfl) (.ofg hg rfl) ha2' (by omega) hcd norm1_)) rfl ?_; refine any_vG1 rfl rfl inferInstance (fun hg hgp => (rk_fieldAddr (.ofg hg rfl) norm0_)) rfl ?_; refine any_vG1 rfl rfl inferInstance (fun hg hgp => (rk_load1 (.ofg hg rfl) (At.base hd3 rfl))) rfl ?_; refine any_vG1 rfl rfl inferInstance (fun hg hgp => (rk_add (.ofg hg rfl) (.ofg hg rfl) (ini (by omega)))) rfl ?_; refine any_vG1 rfl rfl inferInstance (fun hg hgp => (rk_fieldAddr (.of rfl) norm0_)) rfl ?_; refine any_vG1 rfl rfl inferInstance (fun hg hgp => (rk_load1 (.ofg hg rfl) (At.lit .here rfl))) rfl ?_; refine any_vG1 rfl rfl inferInstance (fun hg hgp => (rk_gtr (.ofg hg rfl) (.ofg hg rfl))) rfl ?_; refine any_val (rk_pick_or (.of rfl) rfl) rfl ?_)
        with_reducible refine any_end ?_
        (refine n_t ?_; refine c_b rfl (fun hcd => ?_) (fun hcd => ?_); refine s_r ?_; refine a_s rfl rfl ?_; refine a_s rfl rfl ?_; refine n_t ?_; refine r_t ?_; refine tr_blk_ret ?_; refine tr_then_ret ?_; refine tr_then_ret ?_; refine tr_blk_ret ?_; refine tr_then_ret ?_; rotate_left; refine s_t ?_; refine tr_region ?_; refine m_v rfl rfl ?_; refine m_v rfl rfl ?_; refine m_v rfl rfl ?_; refine m_v rfl rfl ?_; refine m_v rfl rfl ?_; refine tr_val (rk_indexAddr (.of rfl) (.of rfl) ha2' (by omega) (by assumption) norm1_) rfl ?_; refine f_a rfl rfl norm0_ ?_; refine tr_val (rk_load1 (.of rfl) (At.base hd3 rfl)) rfl ?_; refine tr_val (rk_add (.of rfl) (.of rfl) (ini (by omega))) rfl ?_; refine tr_val (rk_buildL (.cons (.of rfl) (.cons (.of rfl) .nil)) norm_) rfl ?_; refine tr_new (rk_sliceLitN (.cons (.of rfl) .nil) rfl rfl normp_ normp_ norm_) rfl (fun _ _ => ?_); rotate_right)
        · have hbad : exBad es ⟨en, true, off, ln⟩ = true := by
            unfold exBad exFrom
            simp only [Bool.or_eq_true, decide_eq_true_eq]
            exact hcd
          have hany : l.any (exBad es) = true := List.any_eq_true.2 ⟨_, List.getElem_mem hlt, by rw [hx]; exact hbad⟩
          rw [hany]
          refine tr_rowNil 66 2 ?_
          first | with_reducible apply tr_retM | with_reducible apply tr_endM
          case he => exact ends2 rfl rfl rfl
          case hR =>
            intro w' hm'
            exact gives_end (.slice none 0 0) trivial (show Takes _ [row 66 2 (.slice none 0 0) 0 []] _ by exact .cons .here .nil) hm' rfl
        · have hok : exBad es ⟨en, true, off, ln⟩ = false := by
            unfold exBad exFrom
            simp only [Bool.or_eq_false_iff, decide_eq_false_iff_not]
            exact hcd
          refine tr_appendB (.of rfl) (.of rfl) (.there (.there .here)) .here norm_ (by rfl) (okc_cons rfl (okc_cons rfl okc_nil)) (by rfl) (by rfl) (by rfl) lenx_ (by rfl) ?_
          intro v'
          (refine a_s rfl rfl ?_; refine tr_nil ?_; refine tr_blk_normal ?_; refine tr_then ?_; refine tr_region ?_; refine m_v rfl rfl ?_; refine tr_val (rk_add (.of rfl) (.of rfl) (ini (by omega))) rfl ?_; refine a_s rfl rfl ?_; refine n_t ?_)
          apply tr_next (k + 1, v') ⟨by show k + 1 ≤ l.length; omega, fun i hi hi2 => by
            by_cases e : i = k
            · subst e; rw [hx]; exact hok
            · exact hf i (by omega) hi2⟩ (by show l.length - (k + 1) < l.length - k; omega)
          case hs1 => exact .cons rfl (.cons rfl (.cons rfl (.cons rfl .nil)))
          case ht =>
            show Takes _ [row 66 2 v' (k + 1) ((exM es (l.take (k + 1))).flatMap duoV), _] _
            rw [htk]
            show Takes _ [row 66 2 v' (k + 1) ((exM es (l.take k)).flatMap duoV ++ [.int .i64 (to es en.toNat + off), .int .i64 (to es en.toNat + off + ln)]), _] _
            exact .cons .here (.cons (.there (.there .here)) .nil)
    · obtain rfl : k = l.length := by omega
      have hany : l.any (exBad es) = false := by
        rw [List.any_eq_false]
        intro x hx
        obtain ⟨i, hi, rfl⟩ := List.getElem_of_mem hx
        rw [hf i hi hi]; decide
      rw [hany, List.take_length]
      have hlm : (exM es l).length = l.length := lenV _ l
      try simp only [Bool.false_eq_true, if_false]
      (refine tr_seq ?_; refine s_r ?_; refine m_v rfl rfl ?_; refine m_v rfl rfl ?_; refine tr_val (rk_len_slice (.of rfl)) rfl ?_; refine tr_val (rk_lss (.of rfl) (.of rfl)) rfl ?_; refine n_t ?_; refine c_d rfl (fun _ => by omega) (fun hcd => ?_); refine x_t ?_; refine tr_then_exit ?_; refine tr_blk_exit ?_; refine tr_then ?_; refine s_r ?_; refine m_v rfl rfl ?_; refine a_s rfl rfl ?_; refine a_s rfl rfl ?_; refine n_t ?_; refine tr_ret ?_)
      first | with_reducible apply tr_retM | with_reducible apply tr_endM
      case he => exact ends2 rfl rfl rfl
      case hR =>
        intro w' hm'
        exact gives_end v1 trivial (show Takes _ [row 66 2 v1 (exM es l).length ((exM es l).flatMap duoV)] _ by rw [hlm]; exact .cons .here .nil) hm' rfl
  · have hl0 : l = [] := by
      cases l with
      | nil => rfl
      | cons x r => have := hin x (by simp); omega
    subst hl0
    (refine a_s rfl rfl ?_; refine n_t ?_; refine tr_seq ?_; refine s_r ?_; refine a_s rfl rfl ?_; refine n_t ?_; refine tr_block ?_)
    refine tr_for (ι := Unit) (fun _ => True) (fun _ => [(8, .int .i64 0), (1, .slice a2 0 cap2), (6, .slice none 0 0)])
      (fun _ => []) (fun _ => 0) ?_ ?_
    · apply tr_start () trivial
      case hs1 => exact .cons rfl (.cons rfl (.cons rfl .nil))
      case ht => exact .nil
    rintro ⟨⟩ _
    (refine tr_seq ?_; refine s_r ?_; refine m_v rfl rfl ?_; refine m_v rfl rfl ?_; refine tr_val (rk_len_slice (.of rfl)) rfl ?_; refine tr_val (rk_lss (.of rfl) (.of rfl)) rfl ?_; refine n_t ?_; refine c_d rfl (fun _ => by omega) (fun hcd => ?_); refine x_t ?_; refine tr_then_exit ?_; refine tr_blk_exit ?_; refine tr_then ?_; refine s_r ?_; refine m_v rfl rfl ?_; refine a_s rfl rfl ?_; refine a_s rfl rfl ?_; refine n_t ?_; refine tr_ret ?_)
    refine tr_rowNil 66 2 ?_
    first | with_reducible apply tr_retM | with_reducible apply tr_endM
    case he => exact ends2 rfl rfl rfl
    case hR =>
      intro w' hm'
      exact gives_end (.slice none 0 0) trivial (show Takes _ [row 66 2 (.slice none 0 0) 0 []] _ by exact .cons .here .nil) hm' rfl
end Go.Proofs.A1

/- S60 -/
namespace Go.Proofs.A1
open Go Go.SL

set_option maxHeartbeats 2000000 in
theorem vioQ_c {sv lv : Value} {es : List En} {l : List Ri} {w : World} (h1 : Rd w sv 6 (ensL es)) (h2 : Rd w lv 3 (riL l)) (hs : Sound es) (h32 : l.length ≤ 32) :
    Gives Tryz.prog 41 [.agg #[sv], lv] w [] (fun _ : Value => True) id (fun v => [row 3 1 v (viN es l es.length).length (natsV (viN es l es.length))]) := by
  have h1' := h1
  obtain ⟨a, cap, b, o, rfl, hcap, hmax, ha, hc⟩ := h1'
  obtain ⟨a2, cap2, b2, o2, rfl, hcap2, hmax2, ha2, hc2⟩ := h2
  rw [ensL_length] at *
  rw [riL_length] at *
  unfold maxLen at hmax hmax2
  have hfew := hs.all.few
  refine gives_of_tr Tryz.func41 rfl rfl ?_
  (refine s_r ?_; refine tr_new (rk_box (.of rfl) rfl) rfl (fun _ _ => ?_); refine a_s rfl rfl ?_; refine n_r ?_; refine a_s rfl rfl ?_; refine n_r ?_; refine tr_val (rk_loadB (.of rfl) .here norm_ (by rfl)) rfl ?_)
  rename_i b1 hb1
  with_reducible apply tr_call
  case hr => exact rk_call (.of rfl) (.cons (.of rfl) .nil) inferInstance normc_
  case hd => rfl
  case ht => exact Takes.nil
  case hc =>
    intro w1 fp hm1 _ hs1
    obtain rfl : fp = [] := hs1
    exact spansQ_c (h1.keeps hm1.keeps) hs
  intro vs _
  dsimp only [id_eq, List.cons_append, List.nil_append]
  by_cases hn0 : 0 < es.length
  · refine tr_rowOpen (E := 66) (sz := 2) (by exact .here) hn0 fun g cap' cur e hcap' hmx' hsz' hl' => ?_
    subst e
    (refine a_s rfl rfl ?_; refine n_t ?_; refine tr_seq ?_; refine s_r ?_; refine a_s rfl rfl ?_; refine n_t ?_; refine tr_block ?_)
    refine tr_rowNil 3 1 ?_
    refine tr_for (ι := Nat × Value) (fun x => x.1 ≤ es.length) (fun x => [(7, .int .i64 x.1), (2, .pointer (some ⟨b1, 0, none⟩)), (1, .slice a2 l.length cap2), (6, .slice (some ⟨g, 0, none⟩) es.length cap'), (5, x.2)])
      (fun x => [row 3 1 x.2 (viN es l x.1).length (natsV (viN es l x.1)), blk g (.cells (spV es es.length ++ cur).toArray 66 (0, 0)), blk b1 (.cells #[.slice a es.length cap] 24 (0, 0))]) (fun x => es.length - x.1) ?_ ?_
    · apply tr_start (0, .slice none 0 0) (show 0 ≤ es.length from Nat.zero_le _)
      case hs1 => exact .cons rfl (.cons rfl (.cons rfl (.cons rfl (.cons rfl .nil))))
      case ht =>
        show Takes _ [row 3 1 (.slice none 0 0) 0 [], _, _] _
        exact .cons .here (.cons .here (.cons .here .nil))
    rintro ⟨k, v1⟩ hk
    dsimp only at hk ⊢
    by_cases hlt : k < es.length
    · have ha' := ha (ensL_ne hlt)
      have hcell := (hc k _ (ensL_get hlt)).2
      have hmt := hcell 1 _ rfl
      have s0 : (spV es es.length ++ cur)[k * 2 + 0]? = some (.int .i64 (fr es k)) := spV_at (by omega) cur hlt
      have s1 : (spV es es.length ++ cur)[k * 2 + 1]? = some (.int .i64 (to es k)) := spV_at (by omega) cur hlt
      rw [Nat.add_zero] at s0
      unfold En.cells at hcell
      have hvl := viN_le es l k
      (refine tr_seq ?_; refine s_r ?_; refine m_v rfl rfl ?_; refine m_v rfl rfl ?_; refine tr_val (rk_len_slice (.of rfl)) rfl ?_; refine tr_val (rk_lss (.of rfl) (.of rfl)) rfl ?_; refine n_t ?_; refine c_d rfl (fun hcd => ?_) (fun _ => by omega); refine s_t ?_; refine tr_seq ?_; refine tr_block ?_; refine s_r ?_; refine a_s rfl rfl ?_; refine n_t ?_; refine tr_seq ?_; refine s_r ?_; refine a_s rfl rfl ?_; refine n_t ?_; refine tr_block ?_)
      refine tr_for (ι := Nat) (fun j => j ≤ l.length) (fun j => [(9, .int .i64 j), (8, .bool ((l.take j).any fun r => riOk r (nth es k).mt (fr es k) (to es k))), (7, .int .i64 k), (2, .pointer (some ⟨b1, 0, none⟩)), (1, .slice a2 l.length cap2), (6, .slice (some ⟨g, 0, none⟩) es.length cap'), (5, v1)])
        (fun _ => [row 3 1 v1 (viN es l k).length (natsV (viN es l k)), blk g (.cells (spV es es.length ++ cur).toArray 66 (0, 0)), blk b1 (.cells #[.slice a es.length cap] 24 (0, 0))]) (fun j => l.length - j) ?_ ?_
      · apply tr_start 0 (show 0 ≤ l.length from Nat.zero_le _)
        case hs1 => exact .cons rfl (.cons rfl (.cons rfl (.cons rfl (.cons rfl (.cons rfl (.cons rfl .nil))))))
        case ht => (try simp only [List.take_zero, List.map_nil, List.nil_append]); exact .cons .here (.cons .here (.cons .here .nil))
      intro j hj
      by_cases hjt : j < l.length
      · have ha2' := ha2 (by intro e; have := riL_length l; rw [e] at this; simp at this; omega)
        have hrc := (hc2 j _ (riL_get hjt)).2
        have r0 := hrc 0 _ rfl
        have r1 := hrc 1 _ rfl
        have r2 := hrc 2 _ rfl
        have hsn : ∀ q : Bool, (riOk l[j] (nth es k).mt (fr es k) (to es k)) = q → ((l.take (j + 1)).any fun r => riOk r (nth es k).mt (fr es k) (to es k)) = (((l.take j).any fun r => riOk r (nth es k).mt (fr es k) (to es k)) || q) := fun q hq => by
          rw [List.take_succ_eq_append_getElem hjt, List.any_append]; simp [hq]
        unfold Ri.cells at hrc
        (refine tr_seq ?_; refine s_r ?_; refine m_v rfl rfl ?_; refine m_v rfl rfl ?_; refine tr_val (rk_len_slice (.of rfl)) rfl ?_; refine tr_val (rk_lss (.of rfl) (.of rfl)) rfl ?_; refine n_t ?_; refine c_d rfl (fun hcd => ?_) (fun _ => by omega); refine s_t ?_; refine tr_seq ?_; refine tr_block ?_; refine tr_seq ?_)
        with_reducible refine tr_draw 40 (by kernel_rfl) ?_
        (refine a_m rfl rfl ?_; refine a_m rfl rfl ?_; refine any_val (rk_indexAddr (.of rfl) (.of rfl) ha2' (by omega) hcd norm1_) rfl ?_; refine a_f rfl rfl norm0_ ?_; refine any_val (rk_load1 (.of rfl) (At.base r0 rfl)) rfl ?_; refine a_f rfl rfl norm0_ ?_; refine any_val (rk_load1 (.of rfl) (At.lit (.there (.there .here)) rfl)) rfl ?_; refine a_m rfl rfl ?_; refine any_val (rk_indexAddr (.of rfl) (.of rfl) ha' (by omega) (by assumption) norm1_) rfl ?_; refine a_f rfl rfl norm0_ ?_; refine any_val (rk_load1 (.of rfl) (At.base hmt rfl)) rfl ?_; refine any_val (rk_eqls (.of rfl) (.of rfl)) rfl ?_; refine a_m rfl rfl ?_; refine any_vG1 rfl rfl inferInstance (fun hg hgp => (rk_move (.of rfl))) rfl ?_; refine any_vG1 rfl rfl inferInstance (fun hg hgp => (rk_move (.of rfl))) rfl ?_; refine any_vG1 rfl rfl inferInstance (fun hg hgp => (rk_indexAddr (.ofg hg rfl) (.ofg hg rfl) ha2' (by omega) hcd norm1_)) rfl ?_; refine any_vG1 rfl rfl inferInstance (fun hg hgp => (rk_fieldAddr (.ofg hg rfl) norm0_)) rfl ?_; refine any_vG1 rfl rfl inferInstance (fun hg hgp => (rk_fieldAddr (.ofg hg rfl) norm0_)) rfl ?_; refine any_vG1 rfl rfl inferInstance (fun hg hgp => (rk_load1 (.ofg hg rfl) (At.base r1 rfl))) rfl ?_; refine any_vG1 rfl rfl inferInstance (fun hg hgp => (rk_move (.of rfl))) rfl ?_; refine any_vG1 rfl rfl inferInstance (fun hg hgp => (rk_move (.of rfl))) rfl ?_; refine any_vG1 rfl rfl inferInstance (fun hg hgp => (rk_indexAddr (.ofg hg rfl) (.ofg hg rfl) rfl (by omega) (by assumption) norm1_)) rfl ?_; refine any_vG1 rfl rfl inferInstance (fun hg hgp => (rk_fieldAddr (.ofg hg rfl) norm0_)) rfl ?_; refine any_vG1 rfl rfl inferInstance (fun hg hgp => (rk_load1 (.ofg hg rfl) (At.blkL (.there .here) s0))) rfl ?_; refine any_vG1 rfl rfl inferInstance (fun hg hgp => (rk_leq (.ofg hg rfl) (.ofg hg rfl))) rfl ?_; refine any_val (rk_pick_and (.of rfl) rfl) rfl ?_; refine a_m rfl rfl ?_; refine any_vG1 rfl rfl inferInstance (fun hg hgp => (rk_move (.of rfl))) rfl ?_; refine any_vG1 rfl rfl inferInstance (fun hg hgp => (rk_move (.of rfl))) rfl ?_; refine any_vG1 rfl rfl inferInstance (fun hg hgp => (rk_indexAddr (.ofg hg rfl) (.ofg hg rfl) rfl (by omega) (by assumption) norm1_)) rfl ?_; refine any_vG1 rfl rfl inferInstance (fun hg hgp => (rk_fieldAddr (.ofg hg rfl) norm0_)) rfl ?_; refine any_vG1 rfl rfl inferInstance (fun hg hgp => (rk_load1 (.ofg hg rfl) (At.blkL (.there .here) s1))) rfl ?_; refine any_vG1 rfl rfl inferInstance (fun hg hgp => (rk_move (.of rfl))) rfl ?_; refine any_vG1 rfl rfl inferInstance (fun hg hgp => (rk_move (.of rfl))) rfl ?_; refine any_vG1 rfl rfl inferInstance (fun hg hgp => (rk_indexAddr (.ofg hg rfl) (.ofg hg rfl) ha2' (by omega) hcd norm1_)) rfl ?_; refine any_vG1 rfl rfl inferInstance (fun hg hgp => (rk_fieldAddr (.ofg hg rfl) norm0_)) rfl ?_; refine any_vG1 rfl rfl inferInstance (fun hg hgp => (rk_fieldAddr (.ofg hg rfl) norm0_)) rfl ?_; refine any_vG1 rfl rfl inferInstance (fun hg hgp => (rk_load1 (.ofg hg rfl) (At.base r2 rfl))) rfl ?_; refine any_vG1 rfl rfl inferInstance (fun hg hgp => (rk_leq (.ofg hg rfl) (.ofg hg rfl))) rfl ?_; refine any_val (rk_pick_and (.of rfl) rfl) rfl ?_)
        with_reducible refine any_end ?_
        (refine n_t ?_; refine c_b rfl (fun hcd => ?_) (fun hcd => ?_); refine tr_region ?_; refine a_s rfl rfl ?_; refine tr_nil ?_; refine tr_blk_normal ?_; refine tr_then ?_; refine tr_region ?_; refine m_v rfl rfl ?_; refine tr_val (rk_add (.of rfl) (.of rfl) (ini (by omega))) rfl ?_; refine a_s rfl rfl ?_; refine n_t ?_; rotate_left; refine tr_skip ?_; refine tr_blk_normal ?_; refine tr_then ?_; refine tr_region ?_; refine m_v rfl rfl ?_; refine tr_val (rk_add (.of rfl) (.of rfl) (ini (by omega))) rfl ?_; refine a_s rfl rfl ?_; refine n_t ?_; rotate_right)
        · have hq : riOk l[j] (nth es k).mt (fr es k) (to es k) = true := by
            unfold riOk
            simp only [Bool.and_eq_true, decide_eq_true_eq]
            exact hcd
          have hsn' := hsn true hq
          rw [Bool.or_true] at hsn'
          apply tr_next (j + 1) (show j + 1 ≤ l.length by omega) (by show l.length - (j + 1) < l.length - j; omega)
          case hs1 =>
            rw [hsn']
            exact .cons rfl (.cons rfl (.cons rfl (.cons rfl (.cons rfl (.cons rfl (.cons rfl .nil))))))
          case ht => exact .cons .here (.cons .here (.cons .here .nil))
        · have hq : riOk l[j] (nth es k).mt (fr es k) (to es k) = false := by
            unfold riOk
            simp only [Bool.and_eq_false_iff, decide_eq_false_iff_not]
            exact hcd
          have hsn' := hsn false hq
          rw [Bool.or_false] at hsn'
          apply tr_next (j + 1) (show j + 1 ≤ l.length by omega) (by show l.length - (j + 1) < l.length - j; omega)
          case hs1 =>
            rw [hsn']
            exact .cons rfl (.cons rfl (.cons rfl (.cons rfl (.cons rfl (.cons rfl (.cons rfl .nil))))))
          case ht => exact .cons .here (.cons .here (.cons .here .nil))
      · obtain rfl : j = l.length := by omega
        rw [List.take_length]
        have hsucc := viN_succ es l k
        (refine tr_seq ?_; refine s_r ?_; refine m_v rfl rfl ?_; refine m_v rfl rfl ?_; refine tr_val (rk_len_slice (.of rfl)) rfl ?_; refine tr_val (rk_lss (.of rfl) (.of rfl)) rfl ?_; refine n_t ?_; refine c_d rfl (fun _ => by omega) (fun hcd => ?_); refine x_t ?_; refine tr_then_exit ?_; refine tr_blk_exit ?_; refine tr_then ?_; refine s_r ?_; refine m_v rfl rfl ?_; refine tr_val (rk_not (.of rfl)) rfl ?_; refine n_t ?_; refine c_b rfl (fun hcd => ?_) (fun hcd => ?_); refine tr_region ?_; refine m_v rfl rfl ?_; refine m_v rfl rfl ?_; refine tr_new (rk_sliceLit (.cons (.of rfl) .nil) rfl rfl rfl rfl) rfl (fun _ _ => ?_); rotate_left; refine tr_skip ?_; refine tr_blk_normal ?_; refine tr_then ?_; refine tr_region ?_; refine m_v rfl rfl ?_; refine tr_val (rk_add (.of rfl) (.of rfl) (ini (by omega))) rfl ?_; refine a_s rfl rfl ?_; refine n_t ?_; rotate_right)
        · have hb : viB es l k = true := by unfold viB; rw [hcd]; rfl
          rw [if_pos hb] at hsucc
          refine tr_appendB (.of rfl) (.of rfl) (.there .here) .here norm_ (by rfl) (okc_cons rfl okc_nil) (by rfl) (by rfl) (by rfl) lenx_ (by rfl) ?_
          intro v'
          (refine a_s rfl rfl ?_; refine tr_nil ?_; refine tr_blk_normal ?_; refine tr_then ?_; refine tr_region ?_; refine m_v rfl rfl ?_; refine tr_val (rk_add (.of rfl) (.of rfl) (ini (by omega))) rfl ?_; refine a_s rfl rfl ?_; refine n_t ?_)
          have e1 : (viN es l (k + 1)).length = (viN es l k).length + 1 := by rw [hsucc]; simp
          have e2 : natsV (viN es l (k + 1)) = natsV (viN es l k) ++ [.int .i64 (k : Int)] := by rw [hsucc]; simp [natsV]
          apply tr_next (k + 1, v') (show k + 1 ≤ es.length by omega) (by show es.length - (k + 1) < es.length - k; omega)
          case hs1 => exact .cons rfl (.cons rfl (.cons rfl (.cons rfl (.cons rfl .nil))))
          case ht =>
            show Takes _ [row 3 1 v' (viN es l (k + 1)).length (natsV (viN es l (k + 1))), _, _] _
            rw [e1, e2]
            exact .cons .here (.cons (.there .here) (.cons (.there .here) .nil))
        · have hb : ¬ viB es l k = true := by unfold viB; rw [hcd]; decide
          rw [if_neg hb, List.append_nil] at hsucc
          apply tr_next (k + 1, v1) (show k + 1 ≤ es.length by omega) (by show es.length - (k + 1) < es.length - k; omega)
          case hs1 => exact .cons rfl (.cons rfl (.cons rfl (.cons rfl (.cons rfl .nil))))
          case ht =>
            show Takes _ [row 3 1 v1 (viN es l (k + 1)).length (natsV (viN es l (k + 1))), _, _] _
            rw [hsucc]
            exact .cons .here (.cons .here (.cons .here .nil))
    · obtain rfl : k = es.length := by omega
      (refine tr_seq ?_; refine s_r ?_; refine m_v rfl rfl ?_; refine m_v rfl rfl ?_; refine tr_val (rk_len_slice (.of rfl)) rfl ?_; refine tr_val (rk_lss (.of rfl) (.of rfl)) rfl ?_; refine n_t ?_; refine c_d rfl (fun _ => by omega) (fun hcd => ?_); refine x_t ?_; refine tr_then_exit ?_; refine tr_blk_exit ?_; refine tr_then ?_; refine s_r ?_; refine m_v rfl rfl ?_; refine a_s rfl rfl ?_; refine n_t ?_; refine tr_ret ?_)
      first | with_reducible apply tr_retM | with_reducible apply tr_endM
      case he => exact ends1 rfl rfl
      case hR =>
        intro w' hm'
        exact gives_end v1 trivial (by exact .cons .here .nil) hm' rfl
  · obtain rfl : es = [] := List.length_eq_zero_iff.1 (by omega)
    refine tr_rowSl (E := 66) (sz := 2) (by exact .here) fun a7 c7 e => ?_
    subst e
    dsimp only [List.length_nil]
    (refine a_s rfl rfl ?_; refine n_t ?_; refine tr_seq ?_; refine s_r ?_; refine a_s rfl rfl ?_; refine n_t ?_; refine tr_block ?_)
    refine tr_for (ι := Unit) (fun _ => True) (fun _ => [(7, .int .i64 0), (6, .slice a7 0 c7), (5, .slice none 0 0)])
      (fun _ => []) (fun _ => 0) ?_ ?_
    · apply tr_start () trivial
      case hs1 => exact .cons rfl (.cons rfl (.cons rfl .nil))
      case ht => exact .nil
    rintro ⟨⟩ _
    (refine tr_seq ?_; refine s_r ?_; refine m_v rfl rfl ?_; refine m_v rfl rfl ?_; refine tr_val (rk_len_slice (.of rfl)) rfl ?_; refine tr_val (rk_lss (.of rfl) (.of rfl)) rfl ?_; refine n_t ?_; refine c_d rfl (fun _ => by omega) (fun hcd => ?_); refine x_t ?_; refine tr_then_exit ?_; refine tr_blk_exit ?_; refine tr_then ?_; refine s_r ?_; refine m_v rfl rfl ?_; refine a_s rfl rfl ?_; refine n_t ?_; refine tr_ret ?_)
    refine tr_rowNil 3 1 ?_
    first | with_reducible apply tr_retM | with_reducible apply tr_endM
    case he => exact ends1 rfl rfl
    case hR =>
      intro w' hm'
      exact gives_end (.slice none 0 0) trivial (show Takes _ [row 3 1 (.slice none 0 0) 0 []] _ by exact .cons .here .nil) hm' rfl
end Go.Proofs.A1

/- S61p -/
/- Rights: the errors of the program and those of the reference are the same. Plain Lean. -/
namespace Go.Proofs.A1
open Go Go.SL
theorem viE_eq (es : List En) (l : List Ri) : firstF [chkF es, riQ l] = viE es l := by
  unfold viE exE0 riQ
  rw [firstF2, firstF2]
  by_cases hc : chkF es = 0
  · by_cases h : 32 < l.length
    · have h' : (32 : Int) < (l.length : Int) := by omega
      simp [hc, h, h', whenF]
    · have h' : ¬ (32 : Int) < (l.length : Int) := by omega
      simp [hc, h, h', whenF]
  · simp [hc]
theorem exE_eq (es : List En) (l : List Se) : exE es l = if chkF es ≠ 0 then chkF es else if seQ es.length l ≠ 0 then seQ es.length l else whenF (l.any (exBad es)) 14 := by
  unfold exE exE0 seQ
  rw [firstF2]
  by_cases hc : chkF es = 0
  · by_cases h : 32 < l.length
    · have h' : (32 : Int) < (l.length : Int) := by omega
      simp [hc, h, h', whenF]
    · have h' : ¬ (32 : Int) < (l.length : Int) := by omega
      simp [hc, h, h', whenF]
  · simp [hc]
theorem seQ_ok {n : Int} {l : List Se} (h : seQ n l = 0) : l.length ≤ 32 ∧ firstF (l.map (seE n)) = 0 := by
  unfold seQ at h
  split at h
  · cases h
  · exact ⟨by omega, h⟩
theorem riQ_ok {l : List Ri} (h : riQ l = 0) : l.length ≤ 32 ∧ firstF (l.map riE) = 0 := by
  unfold riQ at h
  split at h
  · cases h
  · exact ⟨by omega, h⟩
theorem spansOk_same (l : List (Int × Int)) (e : Int) (h : e ≠ 0 → l = []) : spansOk l l e e = true := by
  by_cases he : e = 0
  · simp [spansOk, he]
  · simp [spansOk, he, h he]
theorem listOk_same (l : List Int) (e : Int) (h : e ≠ 0 → l = []) : listOk l l e e = true := by
  by_cases he : e = 0
  · simp [listOk, he]
  · simp [listOk, he, h he]
end Go.Proofs.A1
