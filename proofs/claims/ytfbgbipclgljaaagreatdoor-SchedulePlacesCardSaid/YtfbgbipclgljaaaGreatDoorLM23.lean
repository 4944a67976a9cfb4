/- Parts of the proof: R2 R3 R4 R5. -/
import Derived.Test.YtfbgbipclgljaaaGreatDoorLM22
import Derived.Test.YtfbgbipclgljaaaGreatDoorLM06
set_option linter.unusedSectionVars false
set_option linter.unusedVariables false
set_option linter.unusedSimpArgs false
/- R2 -/
namespace Go.Proofs.A1
open Go Go.SL

theorem spE_q (b : Br) (k : Nat) : firstF [nmF (nthS b.sp k).nm, whenF (decide (0 ≤ findS b.sp (nthS b.sp k).nm k)) 9, campF b.cm.length (nthS b.sp k).cp, withinF (nthS b.sp k).ln 1 100000, withinF (nthS b.sp k).vl 0 1000000] = spE b k := by
  unfold spE
  rw [findS_le]
theorem ints_nth {l : List Int} {k : Nat} (h : k < l.length) : (ints l)[k]? = some [.int .i64 l[k]] := by simp [ints, h]
set_option maxHeartbeats 2000000 in
theorem brkQ_c {b : Br} {sv cv xv : Value} {w : World} (h1 : Rd w sv 4 (spsL b.sp)) (h2 : Rd w cv 1 (ints b.cm)) (h3 : Rd w xv 2 (prsL b.ex)) :
    GivesV Tryz.prog 47 [.agg #[.int .i64 b.n, sv, cv, xv]] w (.int .i64 (brE b)) := by
  have hone1 := Rd.one h1
  have hone2 := Rd.one h2
  have hone3 := Rd.one h3
  have h1' := h1
  have h2' := h2
  have h3' := h3
  obtain ⟨a, cap, bb, o, rfl, hcap, hmax, ha, hc⟩ := h1
  obtain ⟨a2, cap2, bb2, o2, rfl, hcap2, hmax2, ha2, hc2⟩ := h2
  obtain ⟨a3, cap3, bb3, o3, rfl, hcap3, hmax3, ha3, hc3⟩ := h3
  rw [spsL_length] at *
  rw [ints_length] at *
  rw [prsL_length] at *
  unfold maxLen at hmax hmax2 hmax3
  refine givesV_of_tr Tryz.func47 rfl rfl ?_
  (refine s_r ?_; refine tr_new (rk_box (.of rfl) rfl) rfl (fun _ _ => ?_); refine a_s rfl rfl ?_; refine n_t ?_; refine tr_seq ?_; refine tr_seq ?_)
  with_reducible refine tr_draw 18 (by kernel_rfl) ?_
  (refine a_f rfl rfl norm0_ ?_; refine any_val (rk_load1 (.of rfl) (At.lit .here rfl)) rfl ?_; refine any_call (rk_call (.of rfl) (.cons (.of rfl) (.cons (.of rfl) (.cons (.of rfl) .nil))) inferInstance normc_) rfl (fun w' hm' => (range_q _ 0 100000 w')) ?_; refine a_f rfl rfl norm0_ ?_; refine any_val (rk_load1 (.of rfl) (At.lit .here rfl)) rfl ?_; refine any_val (rk_len_slice (.of rfl)) rfl ?_; refine any_val (rk_gtr (.of rfl) (.of rfl)) rfl ?_; refine any_call (rk_call (.of rfl) (.cons (.of rfl) (.cons (.of rfl) .nil)) inferInstance normc_) rfl (fun w' hm' => (when_q _ 5 w')) ?_; refine a_f rfl rfl norm0_ ?_; refine any_val (rk_load1 (.of rfl) (At.lit .here rfl)) rfl ?_; refine any_val (rk_len_slice (.of rfl)) rfl ?_; refine any_val (rk_gtr (.of rfl) (.of rfl)) rfl ?_; refine any_call (rk_call (.of rfl) (.cons (.of rfl) (.cons (.of rfl) .nil)) inferInstance normc_) rfl (fun w' hm' => (when_q _ 5 w')) ?_; refine a_f rfl rfl norm0_ ?_; refine any_val (rk_load1 (.of rfl) (At.lit .here rfl)) rfl ?_; refine any_val (rk_len_slice (.of rfl)) rfl ?_; refine any_val (rk_gtr (.of rfl) (.of rfl)) rfl ?_; refine any_call (rk_call (.of rfl) (.cons (.of rfl) (.cons (.of rfl) .nil)) inferInstance normc_) rfl (fun w' hm' => (when_q _ 5 w')) ?_)
  with_reducible refine any_end ?_
  (refine tr_new (rk_sliceLit (.cons (.of rfl) (.cons (.of rfl) (.cons (.of rfl) (.cons (.of rfl) .nil)))) rfl rfl rfl rfl) rfl (fun _ _ => ?_); refine tr_callV (rk_call (.of rfl) (.cons (.of rfl) .nil) inferInstance normc_) rfl (fun w' hm' => (first_qB (Mem.rdBlk hm' .here rfl rfl) (IntL.cons (IntL.cons (IntL.cons (IntL.cons IntL.nil)))))) ?_; refine a_s rfl rfl ?_; refine n_r ?_; refine m_v rfl rfl ?_; refine tr_val (rk_neq (.of rfl) (.of rfl)) rfl ?_; refine n_t ?_; refine c_d rfl (fun hcd => ?_) (fun hcd => ?_); refine s_r ?_; refine m_v rfl rfl ?_; refine a_s rfl rfl ?_; refine n_t ?_; refine r_t ?_; refine tr_retE rfl (ends1 rfl rfl) ?_; rotate_left; refine s_t ?_; refine tr_seq ?_; refine s_r ?_; refine a_s rfl rfl ?_; refine n_t ?_; refine tr_block ?_; rotate_right)
  · have hne : br0 b ≠ 0 := hcd
    have hE : brE b = br0 b := by simp [brE, firstF, hne]
    rw [hE]; rfl
  have hz0 : br0 b = 0 := Decidable.not_not.1 hcd
  have hz1 := hz0
  unfold br0 at hz1
  rw [firstF_zero] at hz1
  simp only [List.mem_cons, List.not_mem_nil, or_false, forall_eq_or_imp, forall_eq] at hz1
  rw [whenF_zero (by decide), whenF_zero (by decide), whenF_zero (by decide)] at hz1
  simp only [decide_eq_false_iff_not] at hz1
  have hl8 : b.sp.length ≤ 8 := by omega
  have hm8 : b.cm.length ≤ 8 := by omega
  have hx16 : b.ex.length ≤ 16 := by omega
  rename_i b1 hb1 bq hbq
  refine tr_for (ι := Nat) (fun k => k ≤ b.sp.length ∧ ∀ i, i < k → spE b i = 0) (fun k => [(4, .int .i64 k), (1, .pointer (some ⟨b1, 0, none⟩))])
    (fun _ => [blk b1 (.cells #[.int .i64 b.n, .slice a b.sp.length cap, .slice a2 b.cm.length cap2, .slice a3 b.ex.length cap3] 83 (0, 0))]) (fun k => b.sp.length - k) ?_ ?_
  · apply tr_start (0 : Nat) ⟨Nat.zero_le _, fun i h => by omega⟩
    case hs1 => exact .cons rfl (.cons rfl .nil)
    case ht => (try simp only [List.take_zero, List.map_nil, List.nil_append]); exact .cons (.there .here) .nil
  rintro k ⟨hk, hf⟩
  by_cases hlt : k < b.sp.length
  · have ha' := ha (spsL_ne hlt)
    have hcell := (hc k _ (spsL_get hlt)).2
    have heq := spE_q b k
    unfold Sp.cells at hcell
    (refine tr_seq ?_; refine s_r ?_; refine m_v rfl rfl ?_; refine f_a rfl rfl norm0_ ?_; refine tr_val (rk_load1 (.of rfl) (At.lit .here rfl)) rfl ?_; refine tr_val (rk_len_slice (.of rfl)) rfl ?_; refine tr_val (rk_lss (.of rfl) (.of rfl)) rfl ?_; refine n_t ?_; refine c_d rfl (fun hcd => ?_) (fun _ => by omega); refine s_t ?_; refine tr_seq ?_; refine tr_block ?_; refine s_r ?_; refine f_a rfl rfl norm0_ ?_; refine tr_val (rk_load1 (.of rfl) (At.lit .here rfl)) rfl ?_; refine m_v rfl rfl ?_; refine tr_val (rk_indexAddr (.of rfl) (.of rfl) ha' (by omega) hcd norm1_) rfl ?_; refine tr_val (rk_loadN (.of rfl) (Ats.base hcell rfl) rfl) rfl ?_; refine tr_new (rk_alloc rfl) rfl (fun _ _ => ?_); refine tr_store (.of rfl) (.of rfl) .here rfl rfl (okc_cons rfl (okc_cons rfl (okc_cons rfl (okc_cons rfl okc_nil)))) (lenb rfl) norm_ ?_; refine n_t ?_; refine tr_seq ?_)
    with_reducible refine tr_draw 20 (by kernel_rfl) ?_
    (refine a_f rfl rfl norm0_ ?_; refine any_val (rk_load1 (.of rfl) (At.lit .here rfl)) rfl ?_; refine any_call (rk_call (.of rfl) (.cons (.of rfl) .nil) inferInstance normc_) rfl (fun w' hm' => (nm_q _ w')) ?_; refine any_val (rk_loadB (.of rfl) (.there .here) norm_ (by rfl)) rfl ?_; refine a_f rfl rfl norm0_ ?_; refine any_val (rk_load1 (.of rfl) (At.lit .here rfl)) rfl ?_; refine a_m rfl rfl ?_; refine any_call (rk_call (.of rfl) (.cons (.of rfl) (.cons (.of rfl) (.cons (.of rfl) .nil))) inferInstance normc_) rfl (fun w' hm' => (findSQ_c _ k (Rd.keeps h1' (Mem.keeps hm')) hone2 hone3 hk)) ?_; refine any_val (rk_geq (.of rfl) (.of rfl)) rfl ?_; refine any_call (rk_call (.of rfl) (.cons (.of rfl) (.cons (.of rfl) .nil)) inferInstance normc_) rfl (fun w' hm' => (when_q _ 9 w')) ?_; refine any_val (rk_loadB (.of rfl) (.there .here) norm_ (by rfl)) rfl ?_; refine a_f rfl rfl norm0_ ?_; refine any_val (rk_load1 (.of rfl) (At.lit .here rfl)) rfl ?_; refine any_call (rk_call (.of rfl) (.cons (.of rfl) (.cons (.of rfl) .nil)) inferInstance normc_) rfl (fun w' hm' => (campQ_c _ hone1 (Rd.keeps h2' (Mem.keeps hm')) hone3)) ?_; refine a_f rfl rfl norm0_ ?_; refine any_val (rk_load1 (.of rfl) (At.lit .here rfl)) rfl ?_; refine any_call (rk_call (.of rfl) (.cons (.of rfl) (.cons (.of rfl) (.cons (.of rfl) .nil))) inferInstance normc_) rfl (fun w' hm' => (range_q _ 1 100000 w')) ?_; refine a_f rfl rfl norm0_ ?_; refine any_val (rk_load1 (.of rfl) (At.lit .here rfl)) rfl ?_; refine any_call (rk_call (.of rfl) (.cons (.of rfl) (.cons (.of rfl) (.cons (.of rfl) .nil))) inferInstance normc_) rfl (fun w' hm' => (range_q _ 0 1000000 w')) ?_)
    with_reducible refine any_end ?_
    (refine tr_new (rk_sliceLit (.cons (.of rfl) (.cons (.of rfl) (.cons (.of rfl) (.cons (.of rfl) (.cons (.of rfl) .nil))))) rfl rfl rfl rfl) rfl (fun _ _ => ?_); refine tr_callV (rk_call (.of rfl) (.cons (.of rfl) .nil) inferInstance normc_) rfl (fun w' hm' => (first_qB (Mem.rdBlk hm' .here rfl rfl) (IntL.cons (IntL.cons (IntL.cons (IntL.cons (IntL.cons IntL.nil))))))) ?_; refine a_s rfl rfl ?_; refine n_r ?_; refine m_v rfl rfl ?_; refine tr_val (rk_neq (.of rfl) (.of rfl)) rfl ?_; refine n_t ?_; refine c_d rfl (fun hcd => ?_) (fun hcd => ?_); refine s_r ?_; refine m_v rfl rfl ?_; refine a_s rfl rfl ?_; refine n_t ?_; refine tr_ret ?_; refine tr_blk_ret ?_; refine tr_then_ret ?_; refine tr_then_ret ?_; refine tr_blk_ret ?_; refine tr_then_ret ?_; refine tr_retE rfl (ends1 rfl rfl) ?_; rotate_left; refine tr_skip ?_; refine tr_blk_normal ?_; refine tr_then ?_; refine tr_region ?_; refine m_v rfl rfl ?_; refine tr_val (rk_add (.of rfl) (.of rfl) (ini (by omega))) rfl ?_; refine a_s rfl rfl ?_; refine n_t ?_; rotate_right)
    · have hne : spE b k ≠ 0 := by rw [← heq]; exact hcd
      have hb : errE (spE b) b.sp.length = spE b k := errE_bad hf hlt hne
      have hE : brE b = spE b k := by rw [brE, hz0, hb]; simp [firstF, hne]
      rw [hE, ← heq]
    · have hz : spE b k = 0 := by rw [← heq]; exact Decidable.not_not.1 hcd
      apply tr_next (k + 1) ⟨by omega, fun i hi => by
        by_cases e : i = k
        · rw [e]; exact hz
        · exact hf i (by omega)⟩ (by omega)
      case hs1 => exact .cons rfl (.cons rfl .nil)
      case ht => (try simp only [List.take_zero, List.map_nil, List.nil_append]); exact .cons (.there (.there .here)) .nil
  obtain rfl : k = b.sp.length := by omega
  have hz2 : errE (spE b) b.sp.length = 0 := errE_ok.2 hf
  (refine tr_seq ?_; refine s_r ?_; refine m_v rfl rfl ?_; refine f_a rfl rfl norm0_ ?_; refine tr_val (rk_load1 (.of rfl) (At.lit .here rfl)) rfl ?_; refine tr_val (rk_len_slice (.of rfl)) rfl ?_; refine tr_val (rk_lss (.of rfl) (.of rfl)) rfl ?_; refine n_t ?_; refine c_d rfl (fun _ => by omega) (fun hcd => ?_); refine x_t ?_; refine tr_then_exit ?_; refine tr_blk_exit ?_; refine tr_then ?_; refine tr_seq ?_; refine s_r ?_; refine a_s rfl rfl ?_; refine n_t ?_; refine tr_block ?_)
  refine tr_for (ι := Nat) (fun k => k ≤ b.cm.length ∧ ∀ i (hi : i < k) (hl : i < b.cm.length), fewF b.cm[i] = 0) (fun k => [(7, .int .i64 k), (1, .pointer (some ⟨b1, 0, none⟩))])
    (fun _ => [blk b1 (.cells #[.int .i64 b.n, .slice a b.sp.length cap, .slice a2 b.cm.length cap2, .slice a3 b.ex.length cap3] 83 (0, 0))]) (fun k => b.cm.length - k) ?_ ?_
  · apply tr_start (0 : Nat) ⟨Nat.zero_le _, fun i h => by omega⟩
    case hs1 => exact .cons rfl (.cons rfl .nil)
    case ht => (try simp only [List.take_zero, List.map_nil, List.nil_append]); exact .cons .here .nil
  rintro k ⟨hk, hfm⟩
  by_cases hlt : k < b.cm.length
  · have ha2' := ha2 (ints_ne hlt)
    have c0 : w.cell? ⟨bb2, o2 + k * 1, none⟩ = some (.int .i64 b.cm[k]) := (hc2 k _ (ints_nth hlt)).2 0 _ rfl
    (refine tr_seq ?_; refine s_r ?_; refine m_v rfl rfl ?_; refine f_a rfl rfl norm0_ ?_; refine tr_val (rk_load1 (.of rfl) (At.lit .here rfl)) rfl ?_; refine tr_val (rk_len_slice (.of rfl)) rfl ?_; refine tr_val (rk_lss (.of rfl) (.of rfl)) rfl ?_; refine n_t ?_; refine c_d rfl (fun hcd => ?_) (fun _ => by omega); refine s_t ?_; refine tr_seq ?_; refine tr_block ?_; refine s_r ?_; refine f_a rfl rfl norm0_ ?_; refine tr_val (rk_load1 (.of rfl) (At.lit .here rfl)) rfl ?_; refine m_v rfl rfl ?_; refine tr_val (rk_indexAddr (.of rfl) (.of rfl) ha2' (by omega) hcd norm1_) rfl ?_; refine tr_val (rk_load1 (.of rfl) (At.base c0 rfl)) rfl ?_; refine tr_callV (rk_call (.of rfl) (.cons (.of rfl) (.cons (.of rfl) (.cons (.of rfl) .nil))) inferInstance normc_) rfl (fun w' hm' => (range_q _ 0 8 w')) ?_; refine a_s rfl rfl ?_; refine n_r ?_; refine m_v rfl rfl ?_; refine tr_val (rk_neq (.of rfl) (.of rfl)) rfl ?_; refine n_t ?_; refine c_d rfl (fun hcd => ?_) (fun hcd => ?_); refine s_r ?_; refine m_v rfl rfl ?_; refine a_s rfl rfl ?_; refine n_t ?_; refine tr_ret ?_; refine tr_blk_ret ?_; refine tr_then_ret ?_; refine tr_then_ret ?_; refine tr_blk_ret ?_; refine tr_then_ret ?_; refine tr_retE rfl (ends1 rfl rfl) ?_; rotate_left; refine tr_skip ?_; refine tr_blk_normal ?_; refine tr_then ?_; refine tr_region ?_; refine m_v rfl rfl ?_; refine tr_val (rk_add (.of rfl) (.of rfl) (ini (by omega))) rfl ?_; refine a_s rfl rfl ?_; refine n_t ?_; rotate_right)
    · have hne : fewF b.cm[k] ≠ 0 := hcd
      have hq := firstF_hit (f := fewF) hlt (fun i hi => hfm i hi _) hne
      have hE : brE b = fewF b.cm[k] := by rw [brE, hz0, hz2, hq]; simp [firstF, hne]
      rw [hE]; rfl
    · have hz : fewF b.cm[k] = 0 := Decidable.not_not.1 hcd
      apply tr_next (k + 1) ⟨by omega, fun i hi hl => by
        by_cases e : i = k
        · subst e; exact hz
        · exact hfm i (by omega) hl⟩ (by omega)
      case hs1 => exact .cons rfl (.cons rfl .nil)
      case ht => (try simp only [List.take_zero, List.map_nil, List.nil_append]); exact .cons .here .nil
  obtain rfl : k = b.cm.length := by omega
  have hz3 : firstF (b.cm.map fewF) = 0 := firstF_nil' fun x hx => by
    obtain ⟨i, hi, rfl⟩ := List.getElem_of_mem hx
    exact hfm i hi hi
  have hE : brE b = firstF (b.ex.map (prE b.cm.length)) := by rw [brE]; exact firstF4 _ _ _ _ hz0 hz2 hz3
  rw [hE]
  (refine tr_seq ?_; refine s_r ?_; refine m_v rfl rfl ?_; refine f_a rfl rfl norm0_ ?_; refine tr_val (rk_load1 (.of rfl) (At.lit .here rfl)) rfl ?_; refine tr_val (rk_len_slice (.of rfl)) rfl ?_; refine tr_val (rk_lss (.of rfl) (.of rfl)) rfl ?_; refine n_t ?_; refine c_d rfl (fun _ => by omega) (fun hcd => ?_); refine x_t ?_; refine tr_then_exit ?_; refine tr_blk_exit ?_; refine tr_then ?_; refine tr_seq ?_; refine s_r ?_; refine a_s rfl rfl ?_; refine n_t ?_; refine tr_block ?_)
  refine tr_for (ι := Nat) (fun k => k ≤ b.ex.length ∧ ∀ i (hi : i < k) (hl : i < b.ex.length), prE b.cm.length b.ex[i] = 0) (fun k => [(9, .int .i64 k), (1, .pointer (some ⟨b1, 0, none⟩))])
    (fun _ => [blk b1 (.cells #[.int .i64 b.n, .slice a b.sp.length cap, .slice a2 b.cm.length cap2, .slice a3 b.ex.length cap3] 83 (0, 0))]) (fun k => b.ex.length - k) ?_ ?_
  · apply tr_start (0 : Nat) ⟨Nat.zero_le _, fun i h => by omega⟩
    case hs1 => exact .cons rfl (.cons rfl .nil)
    case ht => (try simp only [List.take_zero, List.map_nil, List.nil_append]); exact .cons .here .nil
  rintro k ⟨hk, hfx⟩
  by_cases hlt : k < b.ex.length
  · have ha3' := ha3 (prsL_ne hlt)
    have hcell := (hc3 k _ (prsL_get hlt)).2
    unfold prV at hcell
    (refine tr_seq ?_; refine s_r ?_; refine m_v rfl rfl ?_; refine f_a rfl rfl norm0_ ?_; refine tr_val (rk_load1 (.of rfl) (At.lit .here rfl)) rfl ?_; refine tr_val (rk_len_slice (.of rfl)) rfl ?_; refine tr_val (rk_lss (.of rfl) (.of rfl)) rfl ?_; refine n_t ?_; refine c_d rfl (fun hcd => ?_) (fun _ => by omega); refine s_t ?_; refine tr_seq ?_; refine tr_block ?_; refine s_r ?_; refine f_a rfl rfl norm0_ ?_; refine tr_val (rk_load1 (.of rfl) (At.lit .here rfl)) rfl ?_; refine m_v rfl rfl ?_; refine tr_val (rk_indexAddr (.of rfl) (.of rfl) ha3' (by omega) hcd norm1_) rfl ?_; refine tr_val (rk_loadN (.of rfl) (Ats.base hcell rfl) rfl) rfl ?_; refine tr_new (rk_alloc rfl) rfl (fun _ _ => ?_); refine tr_store (.of rfl) (.of rfl) .here rfl rfl (okc_cons rfl (okc_cons rfl okc_nil)) (lenb rfl) norm_ ?_; refine n_t ?_; refine tr_seq ?_)
    with_reducible refine tr_draw 14 (by kernel_rfl) ?_
    (refine any_val (rk_loadB (.of rfl) (.there .here) norm_ (by rfl)) rfl ?_; refine any_val (rk_indexAddrA (.of rfl) (.of rfl) (by omega) (by omega) norm1_) rfl ?_; refine any_val (rk_load1 (.of rfl) (At.lit .here rfl)) rfl ?_; refine any_call (rk_call (.of rfl) (.cons (.of rfl) (.cons (.of rfl) .nil)) inferInstance normc_) rfl (fun w' hm' => (campQ_c _ hone1 (Rd.keeps h2' (Mem.keeps hm')) hone3)) ?_; refine any_val (rk_loadB (.of rfl) (.there .here) norm_ (by rfl)) rfl ?_; refine any_val (rk_indexAddrA (.of rfl) (.of rfl) (by omega) (by omega) norm1_) rfl ?_; refine any_val (rk_load1 (.of rfl) (At.lit .here rfl)) rfl ?_; refine any_call (rk_call (.of rfl) (.cons (.of rfl) (.cons (.of rfl) .nil)) inferInstance normc_) rfl (fun w' hm' => (campQ_c _ hone1 (Rd.keeps h2' (Mem.keeps hm')) hone3)) ?_; refine any_val (rk_indexAddrA (.of rfl) (.of rfl) (by omega) (by omega) norm1_) rfl ?_; refine any_val (rk_load1 (.of rfl) (At.lit .here rfl)) rfl ?_; refine any_val (rk_indexAddrA (.of rfl) (.of rfl) (by omega) (by omega) norm1_) rfl ?_; refine any_val (rk_load1 (.of rfl) (At.lit .here rfl)) rfl ?_; refine any_val (rk_eql (.of rfl) (.of rfl)) rfl ?_; refine any_call (rk_call (.of rfl) (.cons (.of rfl) (.cons (.of rfl) .nil)) inferInstance normc_) rfl (fun w' hm' => (when_q _ 24 w')) ?_)
    with_reducible refine any_end ?_
    (refine tr_new (rk_sliceLit (.cons (.of rfl) (.cons (.of rfl) (.cons (.of rfl) .nil))) rfl rfl rfl rfl) rfl (fun _ _ => ?_); refine tr_callV (rk_call (.of rfl) (.cons (.of rfl) .nil) inferInstance normc_) rfl (fun w' hm' => (first_qB (Mem.rdBlk hm' .here rfl rfl) (IntL.cons (IntL.cons (IntL.cons IntL.nil))))) ?_; refine a_s rfl rfl ?_; refine n_r ?_; refine m_v rfl rfl ?_; refine tr_val (rk_neq (.of rfl) (.of rfl)) rfl ?_; refine n_t ?_; refine c_d rfl (fun hcd => ?_) (fun hcd => ?_); refine s_r ?_; refine m_v rfl rfl ?_; refine a_s rfl rfl ?_; refine n_t ?_; refine tr_ret ?_; refine tr_blk_ret ?_; refine tr_then_ret ?_; refine tr_then_ret ?_; refine tr_blk_ret ?_; refine tr_then_ret ?_; refine tr_retE rfl (ends1 rfl rfl) ?_; rotate_left; refine tr_skip ?_; refine tr_blk_normal ?_; refine tr_then ?_; refine tr_region ?_; refine m_v rfl rfl ?_; refine tr_val (rk_add (.of rfl) (.of rfl) (ini (by omega))) rfl ?_; refine a_s rfl rfl ?_; refine n_t ?_; rotate_right)
    · have hne : prE b.cm.length b.ex[k] ≠ 0 := hcd
      rw [firstF_hit hlt (fun i hi => hfx i hi _) hne]; rfl
    · have hz : prE b.cm.length b.ex[k] = 0 := Decidable.not_not.1 hcd
      apply tr_next (k + 1) ⟨by omega, fun i hi hl => by
        by_cases e : i = k
        · subst e; exact hz
        · exact hfx i (by omega) hl⟩ (by omega)
      case hs1 => exact .cons rfl (.cons rfl .nil)
      case ht => (try simp only [List.take_zero, List.map_nil, List.nil_append]); exact .cons (.there (.there .here)) .nil
  obtain rfl : k = b.ex.length := by omega
  (refine tr_seq ?_; refine s_r ?_; refine m_v rfl rfl ?_; refine f_a rfl rfl norm0_ ?_; refine tr_val (rk_load1 (.of rfl) (At.lit .here rfl)) rfl ?_; refine tr_val (rk_len_slice (.of rfl)) rfl ?_; refine tr_val (rk_lss (.of rfl) (.of rfl)) rfl ?_; refine n_t ?_; refine c_d rfl (fun _ => by omega) (fun hcd => ?_); refine x_t ?_; refine tr_then_exit ?_; refine tr_blk_exit ?_; refine tr_then ?_; refine s_r ?_; refine a_s rfl rfl ?_; refine n_t ?_; refine tr_ret ?_; refine tr_retE rfl (ends1 rfl rfl) ?_)
  rw [firstF_nil' fun x hx => by
    obtain ⟨i, hi, rfl⟩ := List.getElem_of_mem hx
    exact hfx i hi hi]
end Go.Proofs.A1

/- R3 -/
namespace Go.Proofs.A1
open Go Go.SL

theorem ints_c {lv : Value} {l : List Int} {w : World} (h : Rd w lv 1 (ints l)) (hl : l.length ≤ 1000) :
    Gives Tryz.prog 53 [lv] w [] (fun _ : Value => True) id (fun v => [row 3 1 v l.length (ints l).flatten]) := by
  refine gives_of_tr Tryz.func53 rfl rfl ?_
  (refine s_r ?_; refine a_s rfl rfl ?_; refine n_r ?_; refine tr_new (rk_sliceLit .nil rfl rfl rfl rfl) rfl (fun _ _ => ?_); refine m_v rfl rfl ?_)
  rename_i bq hbq
  refine tr_rowLitE (g := bq) (E := 3) (ys := []) 0 1 (by exact .here) rfl rfl rfl ?_
  skip
  with_reducible apply tr_appendR
  case hx => exact Is.of rfl
  case hy => exact Is.of rfl
  case ht => exact .here
  case hsrc => exact fun w' hm' => h.keeps hm'.keeps
  case h1 => exact ints_one l
  case hz => exact rfl
  case hsz => exact rfl
  case hb0 => exact rfl
  case hb => rw [ints_length]; omega
  case hd => rfl
  intro v'
  rw [ints_length, Nat.zero_add, List.nil_append]
  (refine a_s rfl rfl ?_; refine n_t ?_; refine tr_ret ?_)
  first | with_reducible apply tr_retM | with_reducible apply tr_endM
  case he => exact ends1 rfl rfl
  case hR =>
    intro w' hm'
    exact gives_end v' trivial (show Takes _ [row 3 1 v' l.length (ints l).flatten] _ by exact .cons .here .nil) hm' rfl
def numOk (have_ e bad want : Int) : Bool := decide (e = bad) && ((decide (bad ≠ 0) && decide (have_ = 0)) || (decide (bad = 0) && decide (have_ = want)))
theorem numOk_same (n e : Int) (h : e ≠ 0 → n = 0) : numOk n e e n = true := by
  by_cases he : e = 0
  · simp [numOk, he]
  · simp [numOk, he, h he]
theorem numOk_bad (e want : Int) (he : e ≠ 0) : numOk 0 e e want = true := by simp [numOk, he]
theorem number_c (n e bad want : Int) (w : World) : GivesV Tryz.prog 51 [.int .i64 n, .int .i64 e, .int .i64 bad, .int .i64 want] w (.bool (numOk n e bad want)) := by
  refine givesV_of_tr Tryz.func51 rfl rfl ?_
  (refine s_r ?_; refine a_s rfl rfl ?_; refine n_r ?_; refine m_v rfl rfl ?_; refine m_v rfl rfl ?_; refine tr_val (rk_eql (.of rfl) (.of rfl)) rfl ?_; refine m_v rfl rfl ?_; refine v_g rfl rfl rfl rfl ?_; refine tr_vG1 rfl rfl inferInstance (fun hg hgp => (rk_neq (.ofg hg rfl) (.of rfl))) rfl ?_; refine tr_vG1 rfl rfl inferInstance (fun hg hgp => (rk_move (.ofg hg rfl))) rfl ?_; refine tr_vG rfl rfl inferInstance (fun hg hgp => (rk_move (.of rfl))) rfl ?_; refine tr_vG rfl rfl inferInstance (fun hg hgp => (rk_eql (.ofg hg rfl) (.of rfl))) rfl ?_; refine tr_vG1 rfl rfl inferInstance (fun hg hgp => (rk_pick_and' hg (.ofg hg rfl) rfl)) rfl ?_; refine tr_vG1 rfl rfl inferInstance (fun hg hgp => (rk_move (.ofg hg rfl))) rfl ?_; refine tr_vG rfl rfl inferInstance (fun hg hgp => (rk_move (.of rfl))) rfl ?_; refine tr_vG rfl rfl inferInstance (fun hg hgp => (rk_eql (.ofg hg rfl) (.of rfl))) rfl ?_; refine tr_vG rfl rfl inferInstance (fun hg hgp => (rk_move (.ofg hg rfl))) rfl ?_; refine tr_vG rfl rfl inferInstance (fun hg hgp => (rk_move (.of rfl))) rfl ?_; refine tr_vG rfl rfl inferInstance (fun hg hgp => (rk_move (.of rfl))) rfl ?_; refine tr_vG rfl rfl inferInstance (fun hg hgp => (rk_eql (.ofg hg rfl) (.ofg hg rfl))) rfl ?_; refine tr_vG rfl rfl inferInstance (fun hg hgp => (rk_pick_and' hg (.ofg hg rfl) rfl)) rfl ?_; refine tr_vG1 rfl rfl inferInstance (fun hg hgp => (rk_pick_or' hg (.ofg hg rfl) rfl)) rfl ?_; refine tr_val (rk_pick_and (.of rfl) rfl) rfl ?_; refine a_s rfl rfl ?_; refine n_t ?_; refine tr_ret ?_; refine tr_retE rfl (ends1 rfl rfl) ?_)
  rfl
end Go.Proofs.A1

/- R4 -/
namespace Go.Proofs.A1
open Go Go.SL

theorem rk_remT {P : Program} {c : Cx} {sl : Slots} {hs : List Asn} {dst : Option Tmp} {ty : TypeId} {pos : String} {af : Array Edge} {g : Option (Nat × Bool)} {t u : TypeId} {x y : Operand} {a b : Int} (hx : Is sl x (.int .i64 a)) (hy : Is sl y (.int .i64 b)) (hb : b ≠ 0) :
    RunV P c sl hs ⟨dst, .binOp .rem t x y u, ty, pos, af, g⟩ (.int .i64 (Int.tmod a b)) :=
  rk_bin hx hy fun w => by simp [eqGuard_int, binOp, Op.intDiv, hb]
theorem floorQ_c (a d : Int) (w : World) (h0 : 0 ≤ a) (h1 : a ≤ 4611686018427387904) (hd : 0 < d) : GivesV Tryz.prog 133 [.int .i64 a, .int .i64 d] w (.int .i64 (a / d)) := by
  have hm := Int.ediv_mul_le a (show d ≠ 0 by omega)
  have hn := Int.ediv_nonneg h0 (show 0 ≤ d by omega)
  have hp : 0 ≤ a / d * d := Int.mul_nonneg hn (by omega)
  refine givesV_of_tr Tryz.func133 rfl rfl ?_
  (refine s_r ?_; refine a_s rfl rfl ?_; refine n_r ?_; refine m_v rfl rfl ?_; refine m_v rfl rfl ?_; refine tr_val (rk_quo (.of rfl) (.of rfl) h0 (by omega) hd) rfl ?_; refine a_s rfl rfl ?_; refine n_t ?_; refine tr_seq ?_; refine s_r ?_; refine m_v rfl rfl ?_; refine m_v rfl rfl ?_; refine tr_val (rk_mul (.of rfl) (.of rfl) (ini (by omega))) rfl ?_; refine m_v rfl rfl ?_; refine tr_val (rk_gtr (.of rfl) (.of rfl)) rfl ?_; refine n_t ?_; refine c_d rfl (fun _ => by omega) (fun hcd => ?_); refine s_t ?_; refine s_r ?_; refine m_v rfl rfl ?_; refine a_s rfl rfl ?_; refine n_t ?_; refine tr_ret ?_; refine tr_retE rfl (ends1 rfl rfl) ?_)
  rfl
theorem whenF1 (q : Bool) : 0 ≤ whenF q 1 ∧ whenF q 1 ≤ 1 := by cases q <;> decide
def cmpQ (p q : Int × Int) : Int := whenF (decide (p.1 * q.2 > q.1 * p.2)) 1 - whenF (decide (p.1 * q.2 < q.1 * p.2)) 1
theorem cmpQ_neg (p q : Int × Int) : decide (cmpQ p q < 0) = decide (p.1 * q.2 < q.1 * p.2) := by
  unfold cmpQ
  generalize p.1 * q.2 = x
  generalize q.1 * p.2 = y
  by_cases h : x < y
  · have h2 : ¬ x > y := by omega
    simp [whenF, h, h2]
  · by_cases h2 : x > y <;> simp [whenF, h, h2]
theorem cfP_neg (b : Br) (p q : Int × Int) : decide (cfP b p q < 0) = (decide (bndF b p < bndF b q) || (decide (bndF b p = bndF b q) && decide (cmpQ p q < 0))) := by
  rw [cmpQ_neg]
  unfold cfP cmpF
  rw [firstF2]
  generalize bndF b p = x
  generalize bndF b q = y
  generalize p.1 * q.2 = u
  generalize q.1 * p.2 = v
  by_cases h : x < y
  · simp [h]
  · by_cases h2 : y < x
    · have h3 : ¬ x = y := by omega
      simp [h, h2, h3]
    · have h3 : x = y := by omega
      subst h3
      by_cases h4 : u < v
      · simp [h4]
      · by_cases h5 : v < u <;> simp [h4, h5]
theorem divQS_c (n d : Int) (w : World) (hn : -999999999 ≤ n ∧ n ≤ 999999999) (hd : 1 ≤ d ∧ d ≤ 999999999) : GivesV Tryz.prog 140 [.int .i64 n, .int .i64 d] w (.int .i64 (gcdF (max n (-n)) d)) := by
  refine givesV_of_tr Tryz.func140 rfl rfl ?_
  (refine s_r ?_; refine a_s rfl rfl ?_; refine n_t ?_; refine tr_seq ?_; refine tr_block ?_)
  refine tr_for (ι := Int × Int) (fun x => (-999999999 ≤ x.1 ∧ x.1 ≤ 999999999) ∧ (-999999999 ≤ x.2 ∧ x.2 ≤ 999999999) ∧ Nat.gcd x.1.natAbs x.2.natAbs = Nat.gcd n.natAbs d.natAbs) (fun x => [(0, .int .i64 x.1), (1, .int .i64 x.2)])
    (fun _ => []) (fun x => x.2.natAbs) ?_ ?_
  · apply tr_start (n, d) ⟨hn, by show -999999999 ≤ d ∧ d ≤ 999999999; omega, rfl⟩
    case hs1 => exact .cons rfl (.cons rfl .nil)
    case ht => (try simp only [List.take_zero, List.map_nil, List.nil_append]); exact .nil
  rintro ⟨x, y⟩ ⟨hx, hy, hg⟩
  dsimp only at hx hy hg ⊢
  by_cases h0 : y = 0
  · subst h0
    have hgx : gcdF (max n (-n)) d = (x.natAbs : Int) := by
      unfold gcdF
      rw [show (max n (-n)).toNat = n.natAbs by omega, show d.toNat = d.natAbs by omega, ← hg]; simp
    rw [hgx]
    (refine tr_seq ?_; refine s_r ?_; refine m_v rfl rfl ?_; refine tr_val (rk_neq (.of rfl) (.of rfl)) rfl ?_; refine n_t ?_; refine c_d rfl (fun _ => by omega) (fun hcd => ?_); refine x_t ?_; refine tr_then_exit ?_; refine tr_blk_exit ?_; refine tr_then ?_; refine tr_seq ?_; refine s_r ?_; refine m_v rfl rfl ?_; refine tr_val (rk_lss (.of rfl) (.of rfl)) rfl ?_; refine n_t ?_; refine c_d rfl (fun hcd => ?_) (fun hcd => ?_); refine s_r ?_; refine m_v rfl rfl ?_; refine tr_val (rk_sub (.of rfl) (.of rfl) (ini (by omega))) rfl ?_; refine a_s rfl rfl ?_; refine n_t ?_; refine r_t ?_; refine tr_retE rfl (ends1 rfl rfl) ?_; rotate_left; refine s_t ?_; refine s_r ?_; refine m_v rfl rfl ?_; refine a_s rfl rfl ?_; refine n_t ?_; refine tr_ret ?_; refine tr_retE rfl (ends1 rfl rfl) ?_; rotate_right)
    · rw [show (x.natAbs : Int) = 0 - x by omega]
    · rw [show (x.natAbs : Int) = x by omega]
  · have hm : (Int.tmod x y).natAbs = x.natAbs % y.natAbs := Int.natAbs_tmod x y
    have hl : x.natAbs % y.natAbs < y.natAbs := Nat.mod_lt _ (by omega)
    (refine tr_seq ?_; refine s_r ?_; refine m_v rfl rfl ?_; refine tr_val (rk_neq (.of rfl) (.of rfl)) rfl ?_; refine n_t ?_; refine c_d rfl (fun hcd => ?_) (fun _ => by omega); refine s_t ?_; refine tr_block ?_)
    with_reducible refine tr_draw 6 (by kernel_rfl) ?_
    (refine a_m rfl rfl ?_; refine a_m rfl rfl ?_; refine a_m rfl rfl ?_; refine any_val (rk_remT (.of rfl) (.of rfl) h0) rfl ?_; refine any_val (rk_assign (.of rfl)) rfl ?_; refine any_val (rk_assign (.of rfl)) rfl ?_)
    with_reducible refine any_end ?_
    (refine tr_nil ?_; refine tr_blk_normal ?_; refine tr_then ?_)
    apply tr_next (y, Int.tmod x y) ⟨hy, by show -999999999 ≤ Int.tmod x y ∧ Int.tmod x y ≤ 999999999; omega, by show Nat.gcd y.natAbs (Int.tmod x y).natAbs = _; rw [hm, Nat.gcd_comm, ← Nat.gcd_rec, Nat.gcd_comm, hg]⟩ (by show (Int.tmod x y).natAbs < y.natAbs; omega)
    case hs1 => exact .cons rfl (.cons rfl .nil)
    case ht => (try simp only [List.take_zero, List.map_nil, List.nil_append]); exact .nil
theorem ratioQ_c (p : Int × Int) (w : World) : GivesV Tryz.prog 131 [.agg (duoV p).toArray] w (.int .i64 (ratE p)) := by
  unfold duoV
  refine givesV_of_tr Tryz.func131 rfl rfl ?_
  (refine s_r ?_; refine tr_new (rk_box (.of rfl) rfl) rfl (fun _ _ => ?_); refine a_s rfl rfl ?_; refine n_t ?_; refine tr_seq ?_; refine tr_seq ?_)
  with_reducible refine tr_draw 6 (by kernel_rfl) ?_
  (refine a_f rfl rfl norm0_ ?_; refine any_val (rk_load1 (.of rfl) (At.lit .here rfl)) rfl ?_; refine any_call (rk_call (.of rfl) (.cons (.of rfl) (.cons (.of rfl) (.cons (.of rfl) .nil))) inferInstance normc_) rfl (fun w' hm' => (range_q _ _ 999999999 w')) ?_; refine a_f rfl rfl norm0_ ?_; refine any_val (rk_load1 (.of rfl) (At.lit .here rfl)) rfl ?_; refine any_call (rk_call (.of rfl) (.cons (.of rfl) (.cons (.of rfl) (.cons (.of rfl) .nil))) inferInstance normc_) rfl (fun w' hm' => (range_q _ 1 999999999 w')) ?_)
  with_reducible refine any_end ?_
  (refine tr_new (rk_sliceLit (.cons (.of rfl) (.cons (.of rfl) .nil)) rfl rfl rfl rfl) rfl (fun _ _ => ?_); refine tr_callV (rk_call (.of rfl) (.cons (.of rfl) .nil) inferInstance normc_) rfl (fun w' hm' => (first_qB (Mem.rdBlk hm' .here rfl rfl) (IntL.cons (IntL.cons IntL.nil)))) ?_; refine a_s rfl rfl ?_; refine n_r ?_; refine m_v rfl rfl ?_; refine tr_val (rk_neq (.of rfl) (.of rfl)) rfl ?_; refine n_t ?_; refine c_d rfl (fun hcd => ?_) (fun hcd => ?_); refine s_r ?_; refine m_v rfl rfl ?_; refine a_s rfl rfl ?_; refine n_t ?_; refine r_t ?_; refine tr_retE rfl (ends1 rfl rfl) ?_; rotate_left; refine s_t ?_; refine s_r ?_; refine f_a rfl rfl norm0_ ?_; refine tr_val (rk_load1 (.of rfl) (At.lit (.there .here) rfl)) rfl ?_; refine f_a rfl rfl norm0_ ?_; refine tr_val (rk_load1 (.of rfl) (At.lit (.there .here) rfl)) rfl ?_; rotate_right)
  · have hne : rat0 p ≠ 0 := hcd
    rw [ratE, if_pos hne]; rfl
  · have hz : rat0 p = 0 := Decidable.not_not.1 hcd
    obtain ⟨hn, hd⟩ := rat0_zero hz
    rw [ratE, if_neg (by rw [hz]; decide)]
    (refine tr_callV (rk_call (.of rfl) (.cons (.of rfl) (.cons (.of rfl) .nil)) inferInstance normc_) rfl (fun w' hm' => (divQS_c _ _ w' hn hd)) ?_; refine tr_val (rk_neq (.of rfl) (.of rfl)) rfl ?_; refine tr_callV (rk_call (.of rfl) (.cons (.of rfl) (.cons (.of rfl) .nil)) inferInstance normc_) rfl (fun w' hm' => (when_q _ 1 w')) ?_; refine a_s rfl rfl ?_; refine n_t ?_; refine tr_ret ?_; refine tr_retE rfl (ends1 rfl rfl) ?_)
    rfl
def prcE (p : Int × Int) : Int := firstF [ratE p, whenF (decide (p.1 < 0)) 3]
theorem bdE_eq (b : Br) (p : Int × Int) : firstF [brE b, prcE p] = bdE b p := by
  unfold bdE prcE
  rw [firstF2]
  by_cases h : brE b = 0
  · rw [if_neg (by rw [h]; decide), h]; rfl
  · rw [if_pos h]; simp [firstF, h]
theorem prcQ_c (p : Int × Int) (w : World) : GivesV Tryz.prog 48 [.agg (duoV p).toArray] w (.int .i64 (prcE p)) := by
  unfold duoV
  refine givesV_of_tr Tryz.func48 rfl rfl ?_
  (refine s_r ?_; refine tr_new (rk_box (.of rfl) rfl) rfl (fun _ _ => ?_); refine a_s rfl rfl ?_; refine n_t ?_; refine tr_seq ?_)
  with_reducible refine tr_draw 6 (by kernel_rfl) ?_
  (refine any_val (rk_loadB (.of rfl) .here norm_ (by rfl)) rfl ?_; refine any_call (rk_call (.of rfl) (.cons (.of rfl) .nil) inferInstance normc_) rfl (fun w' hm' => (ratioQ_c p w')) ?_; refine a_f rfl rfl norm0_ ?_; refine any_val (rk_load1 (.of rfl) (At.lit .here rfl)) rfl ?_; refine any_val (rk_lss (.of rfl) (.of rfl)) rfl ?_; refine any_call (rk_call (.of rfl) (.cons (.of rfl) (.cons (.of rfl) .nil)) inferInstance normc_) rfl (fun w' hm' => (when_q _ 3 w')) ?_)
  with_reducible refine any_end ?_
  (refine tr_new (rk_sliceLit (.cons (.of rfl) (.cons (.of rfl) .nil)) rfl rfl rfl rfl) rfl (fun _ _ => ?_); refine tr_callV (rk_call (.of rfl) (.cons (.of rfl) .nil) inferInstance normc_) rfl (fun w' hm' => (first_qB (Mem.rdBlk hm' .here rfl rfl) (IntL.cons (IntL.cons IntL.nil)))) ?_; refine a_s rfl rfl ?_; refine n_t ?_; refine tr_ret ?_; refine tr_retE rfl (ends1 rfl rfl) ?_)
  rfl
theorem cmpQ_c (p q : Int × Int) (w : World) (hp : PrOk p) (hq : PrOk q) : GivesV Tryz.prog 132 [.agg (duoV p).toArray, .agg (duoV q).toArray] w (.int .i64 (cmpQ p q)) := by
  obtain ⟨pn, pd⟩ := p
  obtain ⟨qn, qd⟩ := q
  have hpn := hp.n
  have hpd := hp.d
  have hqn := hq.n
  have hqd := hq.d
  dsimp only at hpn hpd hqn hqd
  have e1 := mul_bd hpn.1 hpn.2 (show 0 ≤ qd by omega) hqd.2
  have e2 := mul_bd hqn.1 hqn.2 (show 0 ≤ pd by omega) hpd.2
  have w1 := whenF1 (decide (qn * pd < pn * qd))
  have w2 := whenF1 (decide (pn * qd < qn * pd))
  unfold duoV
  dsimp only
  refine givesV_of_tr Tryz.func132 rfl rfl ?_
  (refine s_r ?_; refine tr_new (rk_box (.of rfl) rfl) rfl (fun _ _ => ?_); refine tr_new (rk_box (.of rfl) rfl) rfl (fun _ _ => ?_); refine a_s rfl rfl ?_; refine n_t ?_; refine tr_seq ?_)
  with_reducible refine tr_draw 12 (by kernel_rfl) ?_
  (refine a_f rfl rfl norm0_ ?_; refine any_val (rk_load1 (.of rfl) (At.lit (.there .here) rfl)) rfl ?_; refine a_f rfl rfl norm0_ ?_; refine any_val (rk_load1 (.of rfl) (At.lit .here rfl)) rfl ?_; refine any_val (rk_mul (.of rfl) (.of rfl) (ini (by omega))) rfl ?_; refine a_f rfl rfl norm0_ ?_; refine any_val (rk_load1 (.of rfl) (At.lit .here rfl)) rfl ?_; refine a_f rfl rfl norm0_ ?_; refine any_val (rk_load1 (.of rfl) (At.lit (.there .here) rfl)) rfl ?_; refine any_val (rk_mul (.of rfl) (.of rfl) (ini (by omega))) rfl ?_; refine any_val (rk_assign (.of rfl)) rfl ?_; refine any_val (rk_assign (.of rfl)) rfl ?_)
  with_reducible refine any_end ?_
  (refine n_r ?_; refine m_v rfl rfl ?_; refine m_v rfl rfl ?_; refine tr_val (rk_gtr (.of rfl) (.of rfl)) rfl ?_; refine tr_callV (rk_call (.of rfl) (.cons (.of rfl) (.cons (.of rfl) .nil)) inferInstance normc_) rfl (fun w' hm' => (when_q _ 1 w')) ?_; refine m_v rfl rfl ?_; refine m_v rfl rfl ?_; refine tr_val (rk_lss (.of rfl) (.of rfl)) rfl ?_; refine tr_callV (rk_call (.of rfl) (.cons (.of rfl) (.cons (.of rfl) .nil)) inferInstance normc_) rfl (fun w' hm' => (when_q _ 1 w')) ?_; refine tr_val (rk_sub (.of rfl) (.of rfl) (ini (by omega))) rfl ?_; refine a_s rfl rfl ?_; refine n_t ?_; refine tr_ret ?_; refine tr_retE rfl (ends1 rfl rfl) ?_)
  rfl
end Go.Proofs.A1

/- R5 -/
namespace Go.Proofs.A1
open Go Go.SL

theorem boundQ_c {b : Br} {sv cv xv : Value} {p : Int × Int} {w : World} (h1 : Rd w sv 4 (spsL b.sp)) (hone2 : cv.oneCell' = true) (hone3 : xv.oneCell' = true) (hok : BrOk b) (hp : PrOk p) :
    GivesV Tryz.prog 50 [.agg #[.int .i64 b.n, sv, cv, xv], .agg (duoV p).toArray] w (.int .i64 (bndF b p)) := by
  obtain ⟨a, cap, bs, os, rfl, hcap, hmax, ha, hc⟩ := h1
  rw [spsL_length] at *
  unfold maxLen at hmax
  unfold duoV
  have hfew := hok.few
  have hpn := hp.n
  have hpd := hp.d
  have hbn := hok.n
  have e0 := mul_bd hpn.1 hpn.2 hbn.1 hbn.2
  refine givesV_of_tr Tryz.func50 rfl rfl ?_
  (refine s_r ?_; refine tr_new (rk_box (.of rfl) rfl) rfl (fun _ _ => ?_); refine tr_new (rk_box (.of rfl) rfl) rfl (fun _ _ => ?_); refine a_s rfl rfl ?_; refine n_r ?_; refine f_a rfl rfl norm0_ ?_; refine tr_val (rk_load1 (.of rfl) (At.lit .here rfl)) rfl ?_; refine f_a rfl rfl norm0_ ?_; refine tr_val (rk_load1 (.of rfl) (At.lit (.there .here) rfl)) rfl ?_; refine tr_val (rk_mul (.of rfl) (.of rfl) (ini (by omega))) rfl ?_; refine a_s rfl rfl ?_; refine n_t ?_; refine tr_seq ?_; refine s_r ?_; refine a_s rfl rfl ?_; refine n_t ?_; refine tr_block ?_)
  rename_i b0 hb0 b3 hb3
  refine tr_for (ι := Nat) (fun k => k ≤ b.sp.length) (fun k => [(6, .int .i64 k), (5, .int .i64 (bndN b p k)), (2, .pointer (some ⟨b0, 0, none⟩)), (3, .pointer (some ⟨b3, 0, none⟩))])
    (fun _ => [blk b3 (.cells #[.int .i64 p.1, .int .i64 p.2] 85 (0, 0)), blk b0 (.cells #[.int .i64 b.n, .slice a b.sp.length cap, cv, xv] 83 (0, 0))]) (fun k => b.sp.length - k) ?_ ?_
  · apply tr_start (0 : Nat) (show (0 : Nat) ≤ b.sp.length from Nat.zero_le _)
    case hs1 => exact .cons rfl (.cons rfl (.cons rfl (.cons rfl .nil)))
    case ht => exact .cons .here (.cons .here .nil)
  intro k hk
  have hbk := bndN_in hok hp k hk
  by_cases hlt : k < b.sp.length
  · have ha' := ha (spsL_ne hlt)
    have hcell := (hc k _ (spsL_get hlt)).2
    have hm := nthS_mem hlt
    have hv := hok.vl _ hm
    have hl := hok.ln _ hm
    have e1 := mul_bd hv.1 hv.2 (show 0 ≤ p.2 by omega) hpd.2
    have e2 := mul_bd hpn.1 hpn.2 (show 0 ≤ (nthS b.sp k).ln by omega) hl.2
    have hs : bndN b p (k + 1) = bndN b p k + max 0 ((nthS b.sp k).vl * p.2 - p.1 * (nthS b.sp k).ln) := rfl
    have hc2 := hcell 2 _ rfl
    have hc3 := hcell 3 _ rfl
    unfold Sp.cells at hcell
    (refine tr_seq ?_; refine s_r ?_; refine m_v rfl rfl ?_; refine f_a rfl rfl norm0_ ?_; refine tr_val (rk_load1 (.of rfl) (At.lit (.there .here) rfl)) rfl ?_; refine tr_val (rk_len_slice (.of rfl)) rfl ?_; refine tr_val (rk_lss (.of rfl) (.of rfl)) rfl ?_; refine n_t ?_; refine c_d rfl (fun hcd => ?_) (fun _ => by omega); refine s_t ?_; refine tr_seq ?_; refine tr_block ?_)
    with_reducible refine tr_draw 23 (by kernel_rfl) ?_
    (refine a_m rfl rfl ?_; refine a_f rfl rfl norm0_ ?_; refine any_val (rk_load1 (.of rfl) (At.lit (.there .here) rfl)) rfl ?_; refine a_m rfl rfl ?_; refine any_val (rk_indexAddr (.of rfl) (.of rfl) ha' (by omega) hcd norm1_) rfl ?_; refine a_f rfl rfl norm0_ ?_; refine any_val (rk_load1 (.of rfl) (At.base hc3 rfl)) rfl ?_; refine a_f rfl rfl norm0_ ?_; refine any_val (rk_load1 (.of rfl) (At.lit .here rfl)) rfl ?_; refine any_val (rk_mul (.of rfl) (.of rfl) (ini (by omega))) rfl ?_; refine a_f rfl rfl norm0_ ?_; refine any_val (rk_load1 (.of rfl) (At.lit .here rfl)) rfl ?_; refine a_f rfl rfl norm0_ ?_; refine any_val (rk_load1 (.of rfl) (At.lit (.there .here) rfl)) rfl ?_; refine a_m rfl rfl ?_; refine any_val (rk_indexAddr (.of rfl) (.of rfl) ha' (by omega) hcd norm1_) rfl ?_; refine a_f rfl rfl norm0_ ?_; refine any_val (rk_load1 (.of rfl) (At.base hc2 rfl)) rfl ?_; refine any_val (rk_mul (.of rfl) (.of rfl) (ini (by omega))) rfl ?_; refine any_val (rk_sub (.of rfl) (.of rfl) (ini (by omega))) rfl ?_; refine any_val (rk_max2 (.of rfl) (.of rfl)) rfl ?_; refine any_val (rk_add (.of rfl) (.of rfl) (ini (by omega))) rfl ?_; refine any_val (rk_assign (.of rfl)) rfl ?_)
    with_reducible refine any_end ?_
    (refine tr_nil ?_; refine tr_blk_normal ?_; refine tr_then ?_; refine tr_region ?_; refine m_v rfl rfl ?_; refine tr_val (rk_add (.of rfl) (.of rfl) (ini (by omega))) rfl ?_; refine a_s rfl rfl ?_; refine n_t ?_)
    apply tr_next (k + 1) (show k + 1 ≤ b.sp.length by omega) (show b.sp.length - (k + 1) < b.sp.length - k by omega)
    case hs1 => exact .cons rfl (.cons rfl (.cons rfl (.cons rfl .nil)))
    case ht => exact .cons .here (.cons .here .nil)
  · obtain rfl : k = b.sp.length := by omega
    have hfl := fun w' => floorQ_c (bndN b p b.sp.length) p.2 w' hbk.1 (by omega) (show 0 < p.2 by omega)
    (refine tr_seq ?_; refine s_r ?_; refine m_v rfl rfl ?_; refine f_a rfl rfl norm0_ ?_; refine tr_val (rk_load1 (.of rfl) (At.lit (.there .here) rfl)) rfl ?_; refine tr_val (rk_len_slice (.of rfl)) rfl ?_; refine tr_val (rk_lss (.of rfl) (.of rfl)) rfl ?_; refine n_t ?_; refine c_d rfl (fun _ => by omega) (fun hcd => ?_); refine x_t ?_; refine tr_then_exit ?_; refine tr_blk_exit ?_; refine tr_then ?_; refine s_r ?_; refine m_v rfl rfl ?_; refine f_a rfl rfl norm0_ ?_; refine tr_val (rk_load1 (.of rfl) (At.lit .here rfl)) rfl ?_)
    with_reducible apply tr_callV
    case hr => exact rk_call (.of rfl) (.cons (.of rfl) (.cons (.of rfl) .nil)) inferInstance normc_
    case hd => rfl
    case hc =>
      intro w' hm'
      exact hfl w'
    (refine a_s rfl rfl ?_; refine n_t ?_; refine tr_ret ?_; refine tr_retE rfl (ends1 rfl rfl) ?_)
    rfl
theorem prA_get {b : Br} {k : Nat} (h : k < b.sp.length) : nthD (prA b) (k + 1) = lowF (nthS b.sp k).vl (nthS b.sp k).ln := by
  have hl : k + 1 < (prA b).length := by rw [prA_length]; omega
  rw [nthD_eq hl]
  simp [prA, priK, nthS_eq h]
set_option maxHeartbeats 1000000 in
theorem priceQ_c {b : Br} {sv cv xv : Value} {w : World} (h1 : Rd w sv 4 (spsL b.sp)) (hone2 : cv.oneCell' = true) (hone3 : xv.oneCell' = true) (hok : BrOk b) :
    GivesV Tryz.prog 49 [.agg #[.int .i64 b.n, sv, cv, xv]] w (.agg (duoV (priceF b)).toArray) := by
  have h1' := h1
  obtain ⟨a, cap, bs, os, rfl, hcap, hmax, ha, hc⟩ := h1
  rw [spsL_length] at *
  unfold maxLen at hmax
  have hfew := hok.few
  refine givesV_of_tr Tryz.func49 rfl rfl ?_
  (refine s_r ?_; refine tr_new (rk_box (.of rfl) rfl) rfl (fun _ _ => ?_); refine tr_new (rk_alloc rfl) rfl (fun _ _ => ?_); refine n_r ?_; refine tr_val (rk_buildL (.cons (.of rfl) (.cons (.of rfl) .nil)) norm_) rfl ?_; refine tr_new (rk_alloc rfl) rfl (fun _ _ => ?_); refine tr_store (.of rfl) (.of rfl) .here rfl rfl (okc_cons rfl (okc_cons rfl okc_nil)) (lenb rfl) norm_ ?_; refine n_t ?_; refine tr_seq ?_; refine s_r ?_; refine a_s rfl rfl ?_; refine n_t ?_; refine tr_block ?_)
  rename_i b1 hb1 b2 hb2 b3 hb3
  refine tr_for (ι := Nat) (fun k => k ≤ b.sp.length) (fun k => [(4, .int .i64 k), (1, .pointer (some ⟨b1, 0, none⟩)), (2, .pointer (some ⟨b2, 0, none⟩)), (3, .pointer (some ⟨b3, 0, none⟩))])
    (fun k => [blk b3 (.cells (duoV (minK (cfP b) (prA b) k)).toArray 85 (0, 0)), blk b2 (.cells #[.int .i64 0, .int .i64 0] 85 (0, 0)), blk b1 (.cells #[.int .i64 b.n, .slice a b.sp.length cap, cv, xv] 83 (0, 0))]) (fun k => b.sp.length - k) ?_ ?_
  · apply tr_start (0 : Nat) (show (0 : Nat) ≤ b.sp.length from Nat.zero_le _)
    case hs1 => exact .cons rfl (.cons rfl (.cons rfl (.cons rfl .nil)))
    case ht =>
      show Takes _ [blk b3 (.cells #[.int .i64 0, .int .i64 1] 85 (0, 0)), _, _] _
      exact .cons .here (.cons .here (.cons .here .nil))
  intro k hk
  have hpl := prA_length b
  have hyo : PrOk (minK (cfP b) (prA b) k) := prA_ok hok _ (minK_mem k (by omega))
  by_cases hlt : k < b.sp.length
  · have ha' := ha (spsL_ne hlt)
    have hcell := (hc k _ (spsL_get hlt)).2
    have hm := nthS_mem hlt
    have hv := hok.vl _ hm
    have hl := hok.ln _ hm
    have hxo : PrOk (lowF (nthS b.sp k).vl (nthS b.sp k).ln) := lowF_ok hv hl
    have hlow := fun w' => lowQ_c (nthS b.sp k).vl (nthS b.sp k).ln w' hv.1 (by omega) (by omega) (by omega)
    have hs : minK (cfP b) (prA b) (k + 1) = if cfP b (nthD (prA b) (k + 1)) (minK (cfP b) (prA b) k) < 0 then nthD (prA b) (k + 1) else minK (cfP b) (prA b) k := rfl
    have hneg := cfP_neg b (lowF (nthS b.sp k).vl (nthS b.sp k).ln) (minK (cfP b) (prA b) k)
    rw [prA_get hlt] at hs
    have hcx := fun w' (hk : Keeps [] w w') => boundQ_c (p := lowF (nthS b.sp k).vl (nthS b.sp k).ln) (h1'.keeps hk) hone2 hone3 hok hxo
    have hcy := fun w' (hk : Keeps [] w w') => boundQ_c (p := minK (cfP b) (prA b) k) (h1'.keeps hk) hone2 hone3 hok hyo
    have hcm := fun w' => cmpQ_c (lowF (nthS b.sp k).vl (nthS b.sp k).ln) (minK (cfP b) (prA b) k) w' hxo hyo
    have hc2 := hcell 2 _ rfl
    have hc3 := hcell 3 _ rfl
    unfold Sp.cells at hcell
    unfold duoV at hcx hcy hcm ⊢
    generalize lowF (nthS b.sp k).vl (nthS b.sp k).ln = x at hs hneg hcx hcm hlow
    obtain ⟨xn, xd⟩ := x
    generalize hy : minK (cfP b) (prA b) k = y at hs hneg hcy hcm
    obtain ⟨yn, yd⟩ := y
    dsimp only at hs hneg hcx hcy hcm hlow ⊢
    (refine tr_seq ?_; refine s_r ?_; refine m_v rfl rfl ?_; refine f_a rfl rfl norm0_ ?_; refine tr_val (rk_load1 (.of rfl) (At.lit (.there (.there .here)) rfl)) rfl ?_; refine tr_val (rk_len_slice (.of rfl)) rfl ?_; refine tr_val (rk_lss (.of rfl) (.of rfl)) rfl ?_; refine n_t ?_; refine c_d rfl (fun hcd => ?_) (fun _ => by omega); refine s_t ?_; refine tr_seq ?_; refine tr_block ?_; refine tr_seq ?_)
    with_reducible refine tr_drawO 14 (by kernel_rfl) ?_
    (refine ao_val (rk_fieldAddr (.of rfl) norm0_) rfl ?_; refine ao_val (rk_load1 (.of rfl) (At.lit (.there (.there .here)) rfl)) rfl ?_; refine ao_val (rk_move (.of rfl)) rfl ?_; refine ao_val (rk_indexAddr (.of rfl) (.of rfl) ha' (by omega) hcd norm1_) rfl ?_; refine ao_val (rk_fieldAddr (.of rfl) norm0_) rfl ?_; refine ao_val (rk_load1 (.of rfl) (At.base hc3 rfl)) rfl ?_; refine ao_val (rk_fieldAddr (.of rfl) norm0_) rfl ?_; refine ao_val (rk_load1 (.of rfl) (At.lit (.there (.there .here)) rfl)) rfl ?_; refine ao_val (rk_move (.of rfl)) rfl ?_; refine ao_val (rk_indexAddr (.of rfl) (.of rfl) ha' (by omega) hcd norm1_) rfl ?_; refine ao_val (rk_fieldAddr (.of rfl) norm0_) rfl ?_; refine ao_val (rk_load1 (.of rfl) (At.base hc2 rfl)) rfl ?_; refine ao_call (rk_call (.of rfl) (.cons (.of rfl) (.cons (.of rfl) .nil)) inferInstance normc_) rfl (fun w' hm' => (hlow w')) ?_; refine ao_new (rk_alloc rfl) rfl rfl ?_)
    with_reducible refine ao_end1 rfl fun b5 hb5 => ?_
    (refine tr_store (.of rfl) (.of rfl) .here rfl rfl (okc_cons rfl (okc_cons rfl okc_nil)) (lenb rfl) norm_ ?_; refine n_t ?_; refine tr_seq ?_)
    with_reducible refine tr_draw 22 (by kernel_rfl) ?_
    (refine any_val (rk_loadB (.of rfl) (.there (.there (.there .here))) norm_ (by rfl)) rfl ?_; refine any_val (rk_loadB (.of rfl) .here norm_ (by rfl)) rfl ?_; refine any_call (rk_call (.of rfl) (.cons (.of rfl) (.cons (.of rfl) .nil)) inferInstance normc_) rfl (fun w' hm' => (hcx w' (Mem.keeps hm'))) ?_; refine any_val (rk_loadB (.of rfl) (.there (.there (.there .here))) norm_ (by rfl)) rfl ?_; refine any_val (rk_loadB (.of rfl) (.there .here) norm_ (by rfl)) rfl ?_; refine any_call (rk_call (.of rfl) (.cons (.of rfl) (.cons (.of rfl) .nil)) inferInstance normc_) rfl (fun w' hm' => (hcy w' (Mem.keeps hm'))) ?_; refine any_val (rk_lss (.of rfl) (.of rfl)) rfl ?_; refine a_m rfl rfl ?_; refine any_vG1 rfl rfl inferInstance (fun hg hgp => (rk_loadB (.of rfl) (.there (.there (.there .here))) norm_ (by rfl))) rfl ?_; refine any_vG1 rfl rfl inferInstance (fun hg hgp => (rk_loadB (.of rfl) .here norm_ (by rfl))) rfl ?_; refine any_callG1 rfl rfl (fun hg => (rk_call (.of rfl) (.cons (.ofg hg rfl) (.cons (.ofg hg rfl) .nil)) inferInstance normc_)) rfl (fun hg w' hm' => (hcx w' (Mem.keeps hm'))) ?_; refine any_vG1 rfl rfl inferInstance (fun hg hgp => (rk_loadB (.of rfl) (.there (.there (.there .here))) norm_ (by rfl))) rfl ?_; refine any_vG1 rfl rfl inferInstance (fun hg hgp => (rk_loadB (.of rfl) (.there .here) norm_ (by rfl))) rfl ?_; refine any_callG1 rfl rfl (fun hg => (rk_call (.of rfl) (.cons (.ofg hg rfl) (.cons (.ofg hg rfl) .nil)) inferInstance normc_)) rfl (fun hg w' hm' => (hcy w' (Mem.keeps hm'))) ?_; refine any_vG1 rfl rfl inferInstance (fun hg hgp => (rk_eql (.ofg hg rfl) (.ofg hg rfl))) rfl ?_; refine any_vG1 rfl rfl inferInstance (fun hg hgp => (rk_move (.ofg hg rfl))) rfl ?_; refine any_vG rfl rfl inferInstance (fun hg hgp => (rk_loadB (.of rfl) .here norm_ (by rfl))) rfl ?_; refine any_vG rfl rfl inferInstance (fun hg hgp => (rk_loadB (.of rfl) (.there .here) norm_ (by rfl))) rfl ?_; refine any_callG rfl rfl (fun hg => (rk_call (.of rfl) (.cons (.ofg hg rfl) (.cons (.ofg hg rfl) .nil)) inferInstance normc_)) rfl (fun hg w' hm' => (hcm w')) ?_; refine any_vG rfl rfl inferInstance (fun hg hgp => (rk_lss (.ofg hg rfl) (.of rfl))) rfl ?_; refine any_vG1 rfl rfl inferInstance (fun hg hgp => (rk_pick_and' hg (.ofg hg rfl) rfl)) rfl ?_; refine any_val (rk_pick_or (.of rfl) rfl) rfl ?_)
    with_reducible refine any_end ?_
    (refine n_t ?_; refine c_b rfl (fun hcd => ?_) (fun hcd => ?_); refine tr_region ?_; refine tr_val (rk_loadB (.of rfl) .here norm_ (by rfl)) rfl ?_; refine tr_store (.of rfl) (.of rfl) (.there .here) rfl rfl (okc_cons rfl (okc_cons rfl okc_nil)) (lenb rfl) norm_ ?_; refine tr_nil ?_; refine tr_blk_normal ?_; refine tr_then ?_; refine tr_region ?_; refine m_v rfl rfl ?_; refine tr_val (rk_add (.of rfl) (.of rfl) (ini (by omega))) rfl ?_; refine a_s rfl rfl ?_; refine n_t ?_; rotate_left; refine tr_skip ?_; refine tr_blk_normal ?_; refine tr_then ?_; refine tr_region ?_; refine m_v rfl rfl ?_; refine tr_val (rk_add (.of rfl) (.of rfl) (ini (by omega))) rfl ?_; refine a_s rfl rfl ?_; refine n_t ?_; rotate_right)
    · have hlt0 : cfP b (xn, xd) (yn, yd) < 0 := by
        have : decide (cfP b (xn, xd) (yn, yd) < 0) = true := by rw [hneg]; simpa using hcd
        exact of_decide_eq_true this
      rw [if_pos hlt0] at hs
      apply tr_next (k + 1) (show k + 1 ≤ b.sp.length by omega) (show b.sp.length - (k + 1) < b.sp.length - k by omega)
      case hs1 => exact .cons rfl (.cons rfl (.cons rfl (.cons rfl .nil)))
      case ht =>
        rw [hs]
        show Takes _ [blk b3 (.cells #[.int .i64 xn, .int .i64 xd] 85 (0, 0)), _, _] _
        exact .cons .here (.cons (.there .here) (.cons (.there .here) .nil))
    · have hlt0 : ¬ cfP b (xn, xd) (yn, yd) < 0 := by
        have : decide (cfP b (xn, xd) (yn, yd) < 0) = false := by rw [hneg]; simp only [Bool.or_eq_false_iff, Bool.and_eq_false_iff, decide_eq_false_iff_not]; exact hcd
        exact of_decide_eq_false this
      rw [if_neg hlt0] at hs
      apply tr_next (k + 1) (show k + 1 ≤ b.sp.length by omega) (show b.sp.length - (k + 1) < b.sp.length - k by omega)
      case hs1 => exact .cons rfl (.cons rfl (.cons rfl (.cons rfl .nil)))
      case ht =>
        rw [hs]
        show Takes _ [blk b3 (.cells #[.int .i64 yn, .int .i64 yd] 85 (0, 0)), _, _] _
        exact .cons (.there .here) (.cons (.there .here) (.cons (.there .here) .nil))
  · obtain rfl : k = b.sp.length := by omega
    have hP : priceF b = minK (cfP b) (prA b) b.sp.length := by rw [priceF, prA_length]; rfl
    rw [hP]
    unfold duoV
    (refine tr_seq ?_; refine s_r ?_; refine m_v rfl rfl ?_; refine f_a rfl rfl norm0_ ?_; refine tr_val (rk_load1 (.of rfl) (At.lit (.there (.there .here)) rfl)) rfl ?_; refine tr_val (rk_len_slice (.of rfl)) rfl ?_; refine tr_val (rk_lss (.of rfl) (.of rfl)) rfl ?_; refine n_t ?_; refine c_d rfl (fun _ => by omega) (fun hcd => ?_); refine x_t ?_; refine tr_then_exit ?_; refine tr_blk_exit ?_; refine tr_then ?_; refine s_r ?_; refine tr_val (rk_loadB (.of rfl) .here norm_ (by rfl)) rfl ?_; refine tr_store (.of rfl) (.of rfl) (.there .here) rfl rfl (okc_cons rfl (okc_cons rfl okc_nil)) (lenb rfl) norm_ ?_; refine n_t ?_; refine tr_ret ?_; refine tr_retE rfl (ends1cB rfl inferInstance rfl .here norm_ (by rfl)) ?_)
    rfl
end Go.Proofs.A1
