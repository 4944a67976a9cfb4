/- Parts of the proof: S10 S11 S12 S13 S14 S15 S16 S17 S18. -/
import Derived.Test.YtfbgbipclgljaaaGreatDoorBM08
import Derived.Test.YtfbgbipclgljaaaGreatDoorBM06
set_option linter.unusedSectionVars false
set_option linter.unusedVariables false
set_option linter.unusedSimpArgs false
/- S10 -/
namespace Go.Proofs.A1
open Go Go.SL

theorem tr_rowLit {c : Cx} {D : List Nat} {sl : Slots} {hs hs' : List Asn} {X : Act → World → Prop} {E : TypeId} {g : Nat} {xs : List Value} (n sz : Nat) (ht : Take hs (blk g (.cells xs.toArray E (0, 0))) hs') (hl : xs.length = n * sz) (hn : Nat.ble n 1000 = true)
    (k : Tr c D sl (row E sz (.slice (some ⟨g, 0, none⟩) n n) n xs :: hs') X) : Tr c D sl hs X :=
  tr_rowShut (cur := []) (by rw [List.append_nil]; exact ht) (Nat.le_refl _) (by have := Nat.le_of_ble_eq_true hn; unfold maxLen; omega) (by rw [List.append_nil]; exact hl) hl k
theorem lowest_c (a b : Int) (w : World) (ha : 0 ≤ a) (hb : 0 < b) (ha1 : a ≤ 9223372036854775807) (hb1 : b ≤ 9223372036854775807) : GivesV Tryz.prog 174 [.int .i64 a, .int .i64 b] w (.agg #[.int .i64 (lowF a b).1, .int .i64 (lowF a b).2]) := by
  refine givesV_of_tr Tryz.func174 rfl rfl ?_
  (refine s_r ?_; refine tr_new (rk_alloc rfl) rfl (fun _ _ => ?_); refine n_r ?_; refine m_v rfl rfl ?_; refine m_v rfl rfl ?_; refine a_s rfl rfl ?_; refine a_s rfl rfl ?_; refine n_t ?_; refine tr_seq ?_; refine tr_block ?_)
  rename_i b4 hb4
  refine tr_for (ι := Int × Int) (fun x => 0 ≤ x.1 ∧ 0 ≤ x.2 ∧ gcdF x.1 x.2 = gcdF a b ∧ (x.2 = 0 → 0 < x.1)) (fun x => [(5, .int .i64 x.1), (6, .int .i64 x.2), (0, .int .i64 a), (1, .int .i64 b), (4, .pointer (some ⟨b4, 0, none⟩))])
    (fun _ => [blk b4 (.cells #[.int .i64 0, .int .i64 0] 85 (0, 0))]) (fun x => x.2.toNat) ?_ ?_
  · apply tr_start (a, b) ⟨ha, by show 0 ≤ b; omega, rfl, fun h => by have : b = 0 := h; omega⟩
    case hs1 => exact .cons rfl (.cons rfl (.cons rfl (.cons rfl (.cons rfl .nil))))
    case ht => (try simp only [List.take_zero, List.map_nil, List.nil_append]); exact .cons .here .nil
  rintro ⟨x, y⟩ ⟨hx, hy, hg, hz⟩
  dsimp only at hx hy hg hz ⊢
  by_cases h0 : y = 0
  · subst h0
    have hxp := hz rfl
    rw [gcdF_zero hx] at hg
    (refine tr_seq ?_; refine s_r ?_; refine m_v rfl rfl ?_; refine tr_val (rk_neq (.of rfl) (.of rfl)) rfl ?_; refine n_t ?_; refine c_d rfl (fun _ => by omega) (fun hcd => ?_); refine x_t ?_; refine tr_then_exit ?_; refine tr_blk_exit ?_; refine tr_then ?_; refine tr_seq ?_)
    with_reducible refine tr_draw 7 (by kernel_rfl) ?_
    (refine a_m rfl rfl ?_; refine a_m rfl rfl ?_; refine any_val (rk_quo (.of rfl) (.of rfl) ha ha1 hxp) rfl ?_; refine a_m rfl rfl ?_; refine a_m rfl rfl ?_; refine any_val (rk_quo (.of rfl) (.of rfl) (by omega) hb1 hxp) rfl ?_; refine any_val (rk_buildL (.cons (.of rfl) (.cons (.of rfl) .nil)) norm_) rfl ?_)
    with_reducible refine any_end ?_
    (refine tr_store (.of rfl) (.of rfl) .here rfl rfl (okc_cons rfl (okc_cons rfl okc_nil)) (lenb rfl) norm_ ?_; refine n_t ?_; refine tr_ret ?_; refine tr_retE rfl (ends1cB rfl inferInstance rfl .here norm_ (by rfl)) ?_)
    rw [lowF, ← hg]
  · have hm1 := Int.emod_nonneg x h0
    have hm2 := Int.emod_lt_of_pos x (show 0 < y by omega)
    (refine tr_seq ?_; refine s_r ?_; refine m_v rfl rfl ?_; refine tr_val (rk_neq (.of rfl) (.of rfl)) rfl ?_; refine n_t ?_; refine c_d rfl (fun hcd => ?_) (fun _ => by omega); refine s_t ?_; refine tr_block ?_)
    with_reducible refine tr_draw 6 (by kernel_rfl) ?_
    (refine a_m rfl rfl ?_; refine a_m rfl rfl ?_; refine a_m rfl rfl ?_; refine any_val (rk_rem (.of rfl) (.of rfl) hx hcd) rfl ?_; refine any_val (rk_assign (.of rfl)) rfl ?_; refine any_val (rk_assign (.of rfl)) rfl ?_)
    with_reducible refine any_end ?_
    (refine tr_nil ?_; refine tr_blk_normal ?_; refine tr_then ?_)
    apply tr_next (y, x % y) ⟨hy, hm1, by show gcdF y (x % y) = _; rw [gcdF_step hx (by omega), hg], fun _ => by show 0 < y; omega⟩ (by show (x % y).toNat < y.toNat; omega)
    case hs1 => exact .cons rfl (.cons rfl (.cons rfl (.cons rfl (.cons rfl .nil))))
    case ht => (try simp only [List.take_zero, List.map_nil, List.nil_append]); exact .cons .here .nil
theorem onL_le (es : List En) (f : Int) (n : Nat) : (onL es f n).length ≤ n := by
  have := List.length_filter_le (onB es f) (List.range n)
  simpa [onL] using this
def natsV (l : List Nat) : List Value := l.map fun (i : Nat) => Value.int .i64 (i : Int)
theorem shares_c {lv : Value} {es : List En} {f : Int} {w : World} (h : Rd w lv 8 (plRows es)) (hs : Sound es) :
    Gives Tryz.prog 106 [lv, .int .i64 f] w [] (fun _ : Value => True) id (fun v => [row 117 3 v (shF es f).length ((shF es f).flatMap triV)]) := by
  have hlw := lowest_c
  have hfew := hs.all.few
  obtain ⟨a, cp, b, o, rfl, hcap, hmax, ha, hc⟩ := h
  rw [plRows_length] at *
  unfold maxLen at hmax
  refine gives_of_tr Tryz.func106 rfl rfl ?_
  (refine s_r ?_; refine a_s rfl rfl ?_; refine n_r ?_; refine a_s rfl rfl ?_; refine n_t ?_; refine tr_seq ?_; refine s_r ?_; refine m_v rfl rfl ?_; refine tr_val (rk_len_slice (.of rfl)) rfl ?_; refine m_v rfl rfl ?_; refine n_t ?_; refine tr_block ?_)
  refine tr_rowNil 3 1 ?_
  refine tr_for (ι := Nat × Value) (fun x => x.1 ≤ es.length) (fun x => [(12, .int .i64 x.1), (11, .int .i64 es.length), (10, .slice a es.length cp), (5, x.2), (0, .slice a es.length cp), (1, .int .i64 f)]) (fun x => [row 3 1 x.2 (onL es f x.1).length (natsV (onL es f x.1))]) (fun x => es.length - x.1) ?_ ?_
  · apply tr_start (0, .slice none 0 0) (Nat.zero_le _)
    case hs1 => exact .cons rfl (.cons rfl (.cons rfl (.cons rfl (.cons rfl (.cons rfl .nil)))))
    case ht =>
      show Takes _ [row 3 1 (.slice none 0 0) 0 []] _
      exact .cons .here .nil
  rintro ⟨k, v⟩ hk
  dsimp only at hk ⊢
  by_cases hlt : k < es.length
  · have ha' := ha (plRows_ne hlt)
    have hcell := (hc k _ (plRows_get hlt)).2
    have hsucc := onL_succ (es := es) (f := f) (n := k)
    have hle := onL_le es f k
    unfold plL at hcell
    (refine s_r ?_; refine tr_val (rk_lss (.of rfl) (.of rfl)) rfl ?_; refine n_t ?_; refine tr_seq ?_; refine c_d rfl (fun hcd => ?_) (fun _ => by omega); refine s_t ?_; refine tr_seq ?_; refine tr_block ?_; refine s_r ?_; refine m_v rfl rfl ?_; refine tr_val (rk_indexAddr (.of rfl) (.of rfl) ha' (by omega) hcd norm1_) rfl ?_; refine tr_val (rk_loadN (.of rfl) (Ats.base hcell rfl) rfl) rfl ?_; refine tr_new (rk_alloc rfl) rfl (fun _ _ => ?_); refine a_s rfl rfl ?_; refine tr_store (.of rfl) (.of rfl) .here rfl rfl (okc_cons rfl (okc_cons rfl (okc_cons rfl (okc_cons rfl (okc_cons rfl (okc_cons rfl (okc_cons rfl (okc_cons rfl okc_nil)))))))) (lenb rfl) norm_ ?_; refine n_r ?_; refine f_a rfl rfl norm0_ ?_; refine f_a rfl rfl norm0_ ?_; refine tr_val (rk_load1 (.of rfl) (At.lit .here rfl)) rfl ?_; refine m_v rfl rfl ?_; refine tr_val (rk_leq (.of rfl) (.of rfl)) rfl ?_; refine m_v rfl rfl ?_; refine v_g rfl rfl rfl rfl ?_; refine tr_vG1 rfl rfl inferInstance (fun hg hgp => (rk_fieldAddr (.of rfl) norm0_)) rfl ?_; refine tr_vG1 rfl rfl inferInstance (fun hg hgp => (rk_fieldAddr (.ofg hg rfl) norm0_)) rfl ?_; refine tr_vG1 rfl rfl inferInstance (fun hg hgp => (rk_load1 (.ofg hg rfl) (At.lit .here rfl))) rfl ?_; refine tr_vG1 rfl rfl inferInstance (fun hg hgp => (rk_lss (.ofg hg rfl) (.ofg hg rfl))) rfl ?_; refine tr_val (rk_pick_and (.of rfl) rfl) rfl ?_; refine n_t ?_; refine c_b rfl (fun hcd => ?_) (fun hcd => ?_); refine tr_region ?_; refine m_v rfl rfl ?_; refine m_v rfl rfl ?_; refine tr_new (rk_sliceLit (.cons (.of rfl) .nil) rfl rfl rfl rfl) rfl (fun _ _ => ?_); rotate_left; refine tr_skip ?_; refine tr_blk_normal ?_; refine tr_then ?_; refine tr_region ?_; refine tr_val (rk_add (.of rfl) (.of rfl) (ini (by omega))) rfl ?_; refine m_v rfl rfl ?_; refine n_t ?_; rotate_right)
    · have hon : onB es f k = true := by unfold onB; simpa using hcd
      rw [hon, if_pos rfl] at hsucc
      refine tr_appendB (.of rfl) (.of rfl) (.there (.there .here)) .here norm_ (by rfl) (okc_cons rfl okc_nil) (by rfl) (by rfl) (by rfl) lenx_ (by rfl) ?_
      intro v'
      (refine a_s rfl rfl ?_; refine tr_nil ?_; refine tr_blk_normal ?_; refine tr_then ?_; refine tr_region ?_; refine tr_val (rk_add (.of rfl) (.of rfl) (ini (by omega))) rfl ?_; refine m_v rfl rfl ?_; refine n_t ?_)
      apply tr_next (k + 1, v') (by show k + 1 ≤ es.length; omega) (by show es.length - (k + 1) < es.length - k; omega)
      case hs1 => exact .cons rfl (.cons rfl (.cons rfl (.cons rfl (.cons rfl (.cons rfl .nil)))))
      case ht =>
        show Takes _ [row 3 1 v' (onL es f (k + 1)).length (natsV (onL es f (k + 1)))] _
        have e2 : natsV (onL es f (k + 1)) = natsV (onL es f k) ++ [.int .i64 k] := by rw [hsucc]; simp [natsV]
        rw [e2, hsucc, List.length_append]
        show Takes _ [row 3 1 v' ((onL es f k).length + 1) (natsV (onL es f k) ++ [.int .i64 k])] _
        unfold natsV
        exact .cons .here .nil
    · have hon : onB es f k = false := by
        unfold onB
        rcases hcd with h | h <;> simp [h]
      rw [hon, if_neg (by decide), List.append_nil] at hsucc
      apply tr_next (k + 1, v) (by show k + 1 ≤ es.length; omega) (by show es.length - (k + 1) < es.length - k; omega)
      case hs1 => exact .cons rfl (.cons rfl (.cons rfl (.cons rfl (.cons rfl (.cons rfl .nil)))))
      case ht =>
        show Takes _ [row 3 1 v (onL es f (k + 1)).length (natsV (onL es f (k + 1)))] _
        rw [hsucc]
        exact .cons (.there .here) .nil
  · obtain rfl : k = es.length := by omega
    rcases hs.onL f es.length (Nat.le_refl _) with e | ⟨i, h1, h2, e⟩ | ⟨i, h1, h2, h3, e⟩
    · have hsh : shF es f = [] := by unfold shF; rw [e]
      rw [e, hsh]
      refine tr_rowSl (by exact .here) fun a' cap' e' => ?_
      subst e'
      simp only [List.length_nil]
      (refine s_r ?_; refine tr_val (rk_lss (.of rfl) (.of rfl)) rfl ?_; refine n_t ?_; refine tr_seq ?_; refine c_d rfl (fun _ => by omega) (fun hcd => ?_); refine x_t ?_; refine tr_then_exit ?_; refine tr_blk_exit ?_; refine tr_then ?_; refine tr_seq ?_; refine s_r ?_; refine m_v rfl rfl ?_; refine tr_val (rk_len_slice (.of rfl)) rfl ?_; refine n_t ?_; refine tr_block ?_; refine s_r ?_; refine tr_val (rk_eql (.of rfl) (.of rfl)) rfl ?_; refine a_s rfl rfl ?_; refine n_t ?_; refine c_d rfl (fun hcd => ?_) (fun _ => by omega); refine s_r ?_; refine a_s rfl rfl ?_; refine n_t ?_; refine tr_ret ?_; refine tr_blk_ret ?_; refine tr_then_ret ?_)
      refine tr_rowNil 117 3 ?_
      first | with_reducible apply tr_retM | with_reducible apply tr_endM
      case he => exact ends1 rfl rfl
      case hR =>
        intro w' hm'
        exact gives_end (.slice none 0 0) trivial (show Takes _ [row 117 3 (.slice none 0 0) 0 []] _ by exact .cons .here .nil) hm' rfl
    · have hsh : shF es f = [((i : Int), 1, 1)] := by unfold shF; rw [e]
      rw [e, hsh]
      refine tr_rowOpen (by exact .here) (by simp) fun g cap' cur e' hcap' hmx' hsz' hl' => ?_
      subst e'
      simp only [List.length_cons, List.length_nil, natsV, List.map_cons, List.map_nil, List.cons_append, List.nil_append]
      (refine s_r ?_; refine tr_val (rk_lss (.of rfl) (.of rfl)) rfl ?_; refine n_t ?_; refine tr_seq ?_; refine c_d rfl (fun _ => by omega) (fun hcd => ?_); refine x_t ?_; refine tr_then_exit ?_; refine tr_blk_exit ?_; refine tr_then ?_; refine tr_seq ?_; refine s_r ?_; refine m_v rfl rfl ?_; refine tr_val (rk_len_slice (.of rfl)) rfl ?_; refine n_t ?_; refine tr_block ?_; refine s_r ?_; refine tr_val (rk_eql (.of rfl) (.of rfl)) rfl ?_; refine a_s rfl rfl ?_; refine n_t ?_; refine c_d rfl (fun _ => by omega) (fun hcd => ?_); refine s_r ?_; refine tr_val (rk_eql (.of rfl) (.of rfl)) rfl ?_; refine a_s rfl rfl ?_; refine n_t ?_; refine c_d rfl (fun hcd => ?_) (fun _ => by omega); refine s_r ?_; refine m_v rfl rfl ?_; refine tr_val (rk_indexAddr (.of rfl) (.of rfl) rfl (by omega) (by omega) norm1_) rfl ?_; refine tr_val (rk_load1 (.of rfl) (At.lit .here rfl)) rfl ?_; refine tr_val (rk_buildL (.cons (.of rfl) (.cons (.of rfl) .nil)) norm_) rfl ?_; refine tr_val (rk_buildL (.cons (.of rfl) (.cons (.of rfl) .nil)) norm_) rfl ?_; refine tr_new (rk_sliceLitN (.cons (.of rfl) .nil) rfl rfl normp_ normp_ norm_) rfl (fun _ _ => ?_); refine a_s rfl rfl ?_; refine n_t ?_; refine tr_ret ?_; refine tr_blk_ret ?_; refine tr_then_ret ?_)
      rename_i bq hbq
      refine tr_rowLit 1 3 (by exact .here) rfl rfl ?_
      first | with_reducible apply tr_retM | with_reducible apply tr_endM
      case he => exact ends1 rfl rfl
      case hR =>
        intro w' hm'
        exact gives_end (.slice (some ⟨bq, 0, none⟩) 1 1) trivial (show Takes _ [row 117 3 (.slice (some ⟨bq, 0, none⟩) 1 1) 1 [_, _, _]] _ by exact .cons .here .nil) hm' rfl
    · have hsh : shF es f = [((i : Int), lowF (to es i - fr es (i + 1) - (f - fr es (i + 1))) (to es i - fr es (i + 1) + 1)), (((i + 1 : Nat) : Int), lowF (f - fr es (i + 1) + 1) (to es i - fr es (i + 1) + 1))] := by unfold shF; rw [e]
      have ha' := ha (plRows_ne (k := i) (by omega))
      have p0 := (hc i _ (plRows_get (by omega))).2 7 _ rfl
      have p1 := (hc (i + 1) _ (plRows_get h1)).2 6 _ rfl
      have b0 := hs.fr_nn (k := i) (by omega)
      have b1 := hs.fr_nn (k := i + 1) h1
      simp only [onB, Bool.and_eq_true, decide_eq_true_eq] at h2 h3
      rw [e, hsh]
      refine tr_rowOpen (by exact .here) (by simp) fun g cap' cur e' hcap' hmx' hsz' hl' => ?_
      subst e'
      simp only [List.length_cons, List.length_nil, natsV, List.map_cons, List.map_nil, List.cons_append, List.nil_append]
      (refine s_r ?_; refine tr_val (rk_lss (.of rfl) (.of rfl)) rfl ?_; refine n_t ?_; refine tr_seq ?_; refine c_d rfl (fun _ => by omega) (fun hcd => ?_); refine x_t ?_; refine tr_then_exit ?_; refine tr_blk_exit ?_; refine tr_then ?_; refine tr_seq ?_; refine s_r ?_; refine m_v rfl rfl ?_; refine tr_val (rk_len_slice (.of rfl)) rfl ?_; refine n_t ?_; refine tr_block ?_; refine s_r ?_; refine tr_val (rk_eql (.of rfl) (.of rfl)) rfl ?_; refine a_s rfl rfl ?_; refine n_t ?_; refine c_d rfl (fun _ => by omega) (fun hcd => ?_); refine s_r ?_; refine tr_val (rk_eql (.of rfl) (.of rfl)) rfl ?_; refine a_s rfl rfl ?_; refine n_t ?_; refine c_d rfl (fun _ => by omega) (fun hcd => ?_); refine tr_skip ?_; refine tr_blk_normal ?_; refine tr_then ?_; refine tr_seq ?_)
      with_reducible refine tr_draw 29 (by kernel_rfl) ?_
      (refine a_m rfl rfl ?_; refine a_m rfl rfl ?_; refine a_m rfl rfl ?_; refine any_val (rk_indexAddr (.of rfl) (.of rfl) rfl (by omega) (by omega) norm1_) rfl ?_; refine any_val (rk_load1 (.of rfl) (At.lit .here rfl)) rfl ?_; refine any_val (rk_indexAddr (.of rfl) (.of rfl) ha' (by omega) (by omega) norm1_) rfl ?_; refine a_f rfl rfl norm0_ ?_; refine a_f rfl rfl norm0_ ?_; refine any_val (rk_load1 (.of rfl) (At.base p1 rfl)) rfl ?_; refine any_val (rk_sub (.of rfl) (.of rfl) (ini (by omega))) rfl ?_; refine a_m rfl rfl ?_; refine a_m rfl rfl ?_; refine any_val (rk_indexAddr (.of rfl) (.of rfl) rfl (by omega) (by omega) norm1_) rfl ?_; refine any_val (rk_load1 (.of rfl) (At.lit .here rfl)) rfl ?_; refine any_val (rk_indexAddr (.of rfl) (.of rfl) ha' (by omega) (by omega) norm1_) rfl ?_; refine a_f rfl rfl norm0_ ?_; refine a_f rfl rfl norm0_ ?_; refine any_val (rk_load1 (.of rfl) (At.base p0 rfl)) rfl ?_; refine a_m rfl rfl ?_; refine a_m rfl rfl ?_; refine any_val (rk_indexAddr (.of rfl) (.of rfl) rfl (by omega) (by omega) norm1_) rfl ?_; refine any_val (rk_load1 (.of rfl) (At.lit .here rfl)) rfl ?_; refine any_val (rk_indexAddr (.of rfl) (.of rfl) ha' (by omega) (by omega) norm1_) rfl ?_; refine a_f rfl rfl norm0_ ?_; refine a_f rfl rfl norm0_ ?_; refine any_val (rk_load1 (.of rfl) (At.base p1 rfl)) rfl ?_; refine any_val (rk_sub (.of rfl) (.of rfl) (ini (by omega))) rfl ?_; refine any_val (rk_assign (.of rfl)) rfl ?_; refine any_val (rk_assign (.of rfl)) rfl ?_)
      with_reducible refine any_end ?_
      (refine n_t ?_; refine tr_seq ?_)
      with_reducible refine tr_draw 19 (by kernel_rfl) ?_
      (refine a_m rfl rfl ?_; refine any_val (rk_indexAddr (.of rfl) (.of rfl) rfl (by omega) (by omega) norm1_) rfl ?_; refine any_val (rk_load1 (.of rfl) (At.lit .here rfl)) rfl ?_; refine a_m rfl rfl ?_; refine a_m rfl rfl ?_; refine any_val (rk_sub (.of rfl) (.of rfl) (ini (by omega))) rfl ?_; refine a_m rfl rfl ?_; refine any_val (rk_add (.of rfl) (.of rfl) (ini (by omega))) rfl ?_; refine any_call (rk_call (.of rfl) (.cons (.of rfl) (.cons (.of rfl) .nil)) inferInstance normc_) rfl (fun w' hm' => (hlw _ _ w' (by omega) (by omega) (by omega) (by omega))) ?_; refine any_val (rk_buildL (.cons (.of rfl) (.cons (.of rfl) .nil)) norm_) rfl ?_; refine a_m rfl rfl ?_; refine any_val (rk_indexAddr (.of rfl) (.of rfl) rfl (by omega) (by omega) norm1_) rfl ?_; refine any_val (rk_load1 (.of rfl) (At.lit .here rfl)) rfl ?_; refine a_m rfl rfl ?_; refine any_val (rk_add (.of rfl) (.of rfl) (ini (by omega))) rfl ?_; refine a_m rfl rfl ?_; refine any_val (rk_add (.of rfl) (.of rfl) (ini (by omega))) rfl ?_; refine any_call (rk_call (.of rfl) (.cons (.of rfl) (.cons (.of rfl) .nil)) inferInstance normc_) rfl (fun w' hm' => (hlw _ _ w' (by omega) (by omega) (by omega) (by omega))) ?_; refine any_val (rk_buildL (.cons (.of rfl) (.cons (.of rfl) .nil)) norm_) rfl ?_)
      with_reducible refine any_end ?_
      (refine tr_new (rk_sliceLitN (.cons (.of rfl) (.cons (.of rfl) .nil)) rfl rfl normp_ normp_ norm_) rfl (fun _ _ => ?_); refine a_s rfl rfl ?_; refine n_t ?_; refine tr_ret ?_)
      rename_i bq hbq
      refine tr_rowLit 2 3 (by exact .here) rfl rfl ?_
      first | with_reducible apply tr_retM | with_reducible apply tr_endM
      case he => exact ends1 rfl rfl
      case hR =>
        intro w' hm'
        exact gives_end (.slice (some ⟨bq, 0, none⟩) 2 2) trivial (show Takes _ [row 117 3 (.slice (some ⟨bq, 0, none⟩) 2 2) 2 [_, _, _, _, _, _]] _ by exact .cons .here .nil) hm' rfl
end Go.Proofs.A1


/- S11 -/
namespace Go.Proofs.A1
open Go Go.SL

theorem frame_c (n : Int) (w : World) : GivesV Tryz.prog 105 [.int .i64 n] w (.int .i64 (withinF n 0 10000000)) := by
  refine givesV_of_tr Tryz.func105 rfl rfl ?_
  (refine s_r ?_; refine a_s rfl rfl ?_; refine n_r ?_; refine m_v rfl rfl ?_; refine tr_callV (rk_call (.of rfl) (.cons (.of rfl) (.cons (.of rfl) (.cons (.of rfl) .nil))) inferInstance normc_) rfl (fun w' hm' => (within_c n 0 10000000 w')) ?_; refine a_s rfl rfl ?_; refine n_t ?_; refine tr_ret ?_; refine tr_retE rfl (ends1 rfl rfl) ?_)
  rfl
def airE (es : List En) (f : Int) : Int := firstF [chkF es, withinF f 0 10000000]
def airL (es : List En) (f : Int) : List (Int × Int × Int) := if airE es f = 0 then shF es f else []
theorem airE_ok {es : List En} {f : Int} (h : airE es f = 0) : chkF es = 0 ∧ 0 ≤ f ∧ f ≤ 10000000 := by
  unfold airE at h
  rw [firstF_zero] at h
  simp only [List.mem_cons, List.not_mem_nil, or_false, forall_eq_or_imp, forall_eq, withinF_zero] at h
  exact ⟨h.1, h.2.1, h.2.2⟩
theorem onAir_c {sv : Value} {es : List En} {f : Int} {w : World} (h1 : Rd w sv 6 (ensL es)) (hG : Glob w) :
    Gives Tryz.prog 22 [.agg #[sv], .int .i64 f] w [] (fun _ : Value => True) (fun v => .tuple #[v, .int .i64 (airE es f)]) (fun v => [row 117 3 v (airL es f).length ((airL es f).flatMap triV)]) := by
  have hone := Rd.one h1
  refine gives_of_tr Tryz.func22 rfl rfl ?_
  (refine s_r ?_; refine tr_new (rk_box (.of rfl) rfl) rfl (fun _ _ => ?_); refine a_s rfl rfl ?_; refine a_s rfl rfl ?_; refine n_t ?_; refine tr_seq ?_; refine s_r ?_; refine tr_val (rk_loadB (.of rfl) .here norm_ (by rfl)) rfl ?_; refine tr_callV (rk_call (.of rfl) (.cons (.of rfl) .nil) inferInstance normc_) rfl (fun w' hm' => (chk_c (Rd.keeps h1 (Mem.keeps hm')) (Glob.keeps hG (Mem.keeps hm')))) ?_; refine m_v rfl rfl ?_; refine tr_callV (rk_call (.of rfl) (.cons (.of rfl) .nil) inferInstance normc_) rfl (fun w' hm' => (frame_c f w')) ?_; refine tr_new (rk_sliceLit (.cons (.of rfl) (.cons (.of rfl) .nil)) rfl rfl rfl rfl) rfl (fun _ _ => ?_); refine tr_callV (rk_call (.of rfl) (.cons (.of rfl) .nil) inferInstance normc_) rfl (fun w' hm' => (first_pB (Mem.rdBlk hm' .here rfl rfl) (IntL.cons (IntL.cons IntL.nil)))) ?_; refine a_s rfl rfl ?_; refine n_r ?_; refine m_v rfl rfl ?_; refine tr_val (rk_neq (.of rfl) (.of rfl)) rfl ?_; refine n_t ?_; refine c_d rfl (fun hcd => ?_) (fun hcd => ?_); refine s_r ?_; refine m_v rfl rfl ?_; refine a_s rfl rfl ?_; refine a_s rfl rfl ?_; refine n_t ?_; refine r_t ?_; rotate_left; refine s_t ?_; refine s_r ?_; refine tr_val (rk_loadB (.of rfl) (.there .here) norm_ (by rfl)) rfl ?_; rotate_right)
  · have hcd' : ¬ airE es f = 0 := hcd
    rw [airL, if_neg hcd']
    refine tr_rowNil 117 3 ?_
    first | with_reducible apply tr_retM | with_reducible apply tr_endM
    case he => exact ends2 rfl rfl rfl
    case hR =>
      intro w' hm'
      exact gives_end (.slice none 0 0) trivial (show Takes _ [row 117 3 (.slice none 0 0) 0 []] _ by exact .cons .here .nil) hm' rfl
  have hz : airE es f = 0 := Decidable.not_not.1 hcd
  have hs := Sound.of (airE_ok hz).1
  rw [airL, if_pos hz, hz]
  with_reducible apply tr_call
  case hr => exact rk_call (.of rfl) (.cons (.of rfl) .nil) inferInstance normc_
  case hd => rfl
  case ht => exact Takes.nil
  case hc =>
    intro w1 fp hm1 _ hs1
    obtain rfl : fp = [] := hs1
    exact spans_c (h1.keeps hm1.keeps) hs.all.ok hs.all.few (hG.keeps hm1.keeps)
  intro v _
  dsimp only [id_eq, List.cons_append, List.nil_append]
  refine m_v rfl rfl ?_
  with_reducible apply tr_call
  case hr => exact rk_call (.of rfl) (.cons (.of rfl) (.cons (.of rfl) .nil)) inferInstance normc_
  case hd => rfl
  case ht => exact Takes.nil
  case hc =>
    intro w1 fp hm1 _ hs1
    obtain rfl : fp = [] := hs1
    exact shares_c (rdPl hm1 (by exact .here)) hs
  intro v2 _
  dsimp only [id_eq, List.cons_append, List.nil_append]
  (refine a_s rfl rfl ?_; refine a_s rfl rfl ?_; refine n_t ?_; refine tr_ret ?_)
  first | with_reducible apply tr_retM | with_reducible apply tr_endM
  case he => exact ends2 rfl rfl rfl
  case hR =>
    intro w' hm'
    exact gives_end v2 trivial (by exact .cons .here .nil) hm' rfl
end Go.Proofs.A1


/- S12 -/
namespace Go.Proofs.A1
open Go Go.SL

end Go.Proofs.A1


/- S13 -/
namespace Go.Proofs.A1
open Go Go.SL

end Go.Proofs.A1


/- S14 -/
namespace Go.Proofs.A1
open Go Go.SL

theorem Sound.e2 {es : List En} (h : Sound es) : errE (e2At es) es.length = 0 := errE_ok.2 fun i hi => by
  have h1 := h.bad i hi
  have h2 := h.most i hi
  simp [e2At, h1, show ¬ 10000000 < to es i by omega, whenF, firstF]
end Go.Proofs.A1


/- S15 -/
namespace Go.Proofs.A1
open Go Go.SL

end Go.Proofs.A1


/- S16 -/
namespace Go.Proofs.A1
open Go Go.SL

end Go.Proofs.A1


/- S17 -/
namespace Go.Proofs.A1
open Go Go.SL

theorem lenV {α β : Type} (f : α → β) (l : List α) : (l.map f).length = l.length := List.length_map f
def oneV (n : Int) : List Value := [.int .i64 n]
theorem sameGaps_c {v1 v2 : Value} {l1 l2 : List (Int × Int × Int)} {w : World} (h1 : Rd w v1 3 (l1.map triV)) (h2 : Rd w v2 3 (l2.map triV)) : GivesV Tryz.prog 31 [v1, v2] w (.bool (decide (l1 = l2))) := by
  obtain ⟨a, cap, b, o, rfl, hcap, hmax, ha, hc⟩ := h1
  obtain ⟨a2, cap2, b2, o2, rfl, hcap2, hmax2, ha2, hc2⟩ := h2
  rw [lenV triV l1] at *
  rw [lenV triV l2] at *
  unfold maxLen at hmax hmax2
  refine givesV_of_tr Tryz.func31 rfl rfl ?_
  (refine s_r ?_; refine a_s rfl rfl ?_; refine n_t ?_; refine tr_seq ?_; refine s_r ?_; refine m_v rfl rfl ?_; refine tr_val (rk_len_slice (.of rfl)) rfl ?_; refine m_v rfl rfl ?_; refine tr_val (rk_len_slice (.of rfl)) rfl ?_; refine tr_val (rk_neq (.of rfl) (.of rfl)) rfl ?_; refine n_t ?_; refine c_d rfl (fun hcd => ?_) (fun hcd => ?_); refine s_r ?_; refine a_s rfl rfl ?_; refine n_t ?_; refine r_t ?_; refine tr_retE rfl (ends1 rfl rfl) ?_; rotate_left; refine s_t ?_; refine tr_seq ?_; refine s_r ?_; refine a_s rfl rfl ?_; refine n_t ?_; refine tr_block ?_; rotate_right)
  · rw [decide_eq_false (fun e => hcd (by rw [e]))]
  have hlen : l1.length = l2.length := by omega
  refine tr_for (fun k : Nat => k ≤ l1.length ∧ ∀ i, i < k → l1[i]? = l2[i]?) (fun k => [(5, .int .i64 k), (0, .slice a l1.length cap), (1, .slice a2 l2.length cap2)]) (fun _ => []) (fun k => l1.length - k) ?_ ?_
  · apply tr_start 0 ⟨Nat.zero_le _, fun i h => by omega⟩
    case hs1 => exact .cons rfl (.cons rfl (.cons rfl .nil))
    case ht => (try simp only [List.take_zero, List.map_nil, List.nil_append]); exact .nil
  rintro k ⟨hk, hf⟩
  by_cases hlt : k < l1.length
  · have hlt2 : k < l2.length := by omega
    have ha' := ha (by intro e; rw [List.map_eq_nil_iff] at e; subst e; simp at hlt)
    have ha2' := ha2 (by intro e; rw [List.map_eq_nil_iff] at e; subst e; simp at hlt2)
    have hcell := (hc k (triV l1[k]) (by rw [List.getElem?_map, List.getElem?_eq_getElem hlt]; rfl)).2
    have hcell2 := (hc2 k (triV l2[k]) (by rw [List.getElem?_map, List.getElem?_eq_getElem hlt2]; rfl)).2
    generalize hx : l1[k] = x at hcell
    generalize hy : l2[k] = y at hcell2
    obtain ⟨x0, x1, x2⟩ := x
    obtain ⟨y0, y1, y2⟩ := y
    unfold triV at hcell hcell2
    try dsimp only at hcell hcell2
    (refine tr_seq ?_; refine s_r ?_; refine m_v rfl rfl ?_; refine m_v rfl rfl ?_; refine tr_val (rk_len_slice (.of rfl)) rfl ?_; refine tr_val (rk_lss (.of rfl) (.of rfl)) rfl ?_; refine n_t ?_; refine c_d rfl (fun hcd => ?_) (fun _ => by omega); refine s_t ?_; refine tr_seq ?_; refine tr_block ?_; refine tr_seq ?_)
    with_reducible refine tr_draw 9 (by kernel_rfl) ?_
    (refine a_m rfl rfl ?_; refine a_m rfl rfl ?_; refine any_val (rk_indexAddr (.of rfl) (.of rfl) ha' (by omega) hcd norm1_) rfl ?_; refine any_val (rk_loadN (.of rfl) (Ats.base hcell rfl) rfl) rfl ?_; refine a_m rfl rfl ?_; refine a_m rfl rfl ?_; refine any_val (rk_indexAddr (.of rfl) (.of rfl) ha2' (by omega) (by omega) norm1_) rfl ?_; refine any_val (rk_loadN (.of rfl) (Ats.base hcell2 rfl) rfl) rfl ?_; refine any_val (rk_neqA (.of rfl) (.of rfl) (okL_int (okL_int (okL_int okL_nil))) rfl) rfl ?_)
    with_reducible refine any_end ?_
    (refine n_t ?_; refine c_b rfl (fun hcd => ?_) (fun hcd => ?_); refine s_r ?_; refine a_s rfl rfl ?_; refine n_t ?_; refine tr_ret ?_; refine tr_blk_ret ?_; refine tr_then_ret ?_; refine tr_then_ret ?_; refine tr_blk_ret ?_; refine tr_then_ret ?_; refine tr_retE rfl (ends1 rfl rfl) ?_; rotate_left; refine tr_skip ?_; refine tr_blk_normal ?_; refine tr_then ?_; refine tr_region ?_; refine m_v rfl rfl ?_; refine tr_val (rk_add (.of rfl) (.of rfl) (ini (by omega))) rfl ?_; refine a_s rfl rfl ?_; refine n_t ?_; rotate_right)
    · have hne : ¬ l1 = l2 := by
        intro e
        subst e
        rw [hx] at hy
        cases hy
        simp at hcd
      rw [decide_eq_false hne]
    · have heq : l1[k]? = l2[k]? := by
        rw [List.getElem?_eq_getElem hlt, List.getElem?_eq_getElem hlt2, hx, hy]
        simp at hcd
        simp [hcd]
      apply tr_next (k + 1) ⟨by omega, fun i hi => by
        by_cases e : i = k
        · rw [e]; exact heq
        · exact hf i (by omega)⟩ (by omega)
      case hs1 => exact .cons rfl (.cons rfl (.cons rfl .nil))
      case ht => (try simp only [List.take_zero, List.map_nil, List.nil_append]); exact .nil
  · obtain rfl : k = l1.length := by omega
    (refine tr_seq ?_; refine s_r ?_; refine m_v rfl rfl ?_; refine m_v rfl rfl ?_; refine tr_val (rk_len_slice (.of rfl)) rfl ?_; refine tr_val (rk_lss (.of rfl) (.of rfl)) rfl ?_; refine n_t ?_; refine c_d rfl (fun _ => by omega) (fun hcd => ?_); refine x_t ?_; refine tr_then_exit ?_; refine tr_blk_exit ?_; refine tr_then ?_; refine s_r ?_; refine a_s rfl rfl ?_; refine n_t ?_; refine tr_ret ?_; refine tr_retE rfl (ends1 rfl rfl) ?_)
    have : l1 = l2 := List.ext_getElem? fun i => by
      by_cases hi : i < l1.length
      · exact hf i hi
      · rw [List.getElem?_eq_none (by omega), List.getElem?_eq_none (by omega)]
    rw [decide_eq_true this]

theorem sameShares_c {v1 v2 : Value} {l1 l2 : List (Int × Int × Int)} {w : World} (h1 : Rd w v1 3 (l1.map triV)) (h2 : Rd w v2 3 (l2.map triV)) : GivesV Tryz.prog 33 [v1, v2] w (.bool (decide (l1 = l2))) := by
  obtain ⟨a, cap, b, o, rfl, hcap, hmax, ha, hc⟩ := h1
  obtain ⟨a2, cap2, b2, o2, rfl, hcap2, hmax2, ha2, hc2⟩ := h2
  rw [lenV triV l1] at *
  rw [lenV triV l2] at *
  unfold maxLen at hmax hmax2
  refine givesV_of_tr Tryz.func33 rfl rfl ?_
  (refine s_r ?_; refine a_s rfl rfl ?_; refine n_t ?_; refine tr_seq ?_; refine s_r ?_; refine m_v rfl rfl ?_; refine tr_val (rk_len_slice (.of rfl)) rfl ?_; refine m_v rfl rfl ?_; refine tr_val (rk_len_slice (.of rfl)) rfl ?_; refine tr_val (rk_neq (.of rfl) (.of rfl)) rfl ?_; refine n_t ?_; refine c_d rfl (fun hcd => ?_) (fun hcd => ?_); refine s_r ?_; refine a_s rfl rfl ?_; refine n_t ?_; refine r_t ?_; refine tr_retE rfl (ends1 rfl rfl) ?_; rotate_left; refine s_t ?_; refine tr_seq ?_; refine s_r ?_; refine a_s rfl rfl ?_; refine n_t ?_; refine tr_block ?_; rotate_right)
  · rw [decide_eq_false (fun e => hcd (by rw [e]))]
  have hlen : l1.length = l2.length := by omega
  refine tr_for (fun k : Nat => k ≤ l1.length ∧ ∀ i, i < k → l1[i]? = l2[i]?) (fun k => [(5, .int .i64 k), (0, .slice a l1.length cap), (1, .slice a2 l2.length cap2)]) (fun _ => []) (fun k => l1.length - k) ?_ ?_
  · apply tr_start 0 ⟨Nat.zero_le _, fun i h => by omega⟩
    case hs1 => exact .cons rfl (.cons rfl (.cons rfl .nil))
    case ht => (try simp only [List.take_zero, List.map_nil, List.nil_append]); exact .nil
  rintro k ⟨hk, hf⟩
  by_cases hlt : k < l1.length
  · have hlt2 : k < l2.length := by omega
    have ha' := ha (by intro e; rw [List.map_eq_nil_iff] at e; subst e; simp at hlt)
    have ha2' := ha2 (by intro e; rw [List.map_eq_nil_iff] at e; subst e; simp at hlt2)
    have hcell := (hc k (triV l1[k]) (by rw [List.getElem?_map, List.getElem?_eq_getElem hlt]; rfl)).2
    have hcell2 := (hc2 k (triV l2[k]) (by rw [List.getElem?_map, List.getElem?_eq_getElem hlt2]; rfl)).2
    generalize hx : l1[k] = x at hcell
    generalize hy : l2[k] = y at hcell2
    obtain ⟨x0, x1, x2⟩ := x
    obtain ⟨y0, y1, y2⟩ := y
    unfold triV at hcell hcell2
    try dsimp only at hcell hcell2
    (refine tr_seq ?_; refine s_r ?_; refine m_v rfl rfl ?_; refine m_v rfl rfl ?_; refine tr_val (rk_len_slice (.of rfl)) rfl ?_; refine tr_val (rk_lss (.of rfl) (.of rfl)) rfl ?_; refine n_t ?_; refine c_d rfl (fun hcd => ?_) (fun _ => by omega); refine s_t ?_; refine tr_seq ?_; refine tr_block ?_; refine tr_seq ?_)
    with_reducible refine tr_draw 9 (by kernel_rfl) ?_
    (refine a_m rfl rfl ?_; refine a_m rfl rfl ?_; refine any_val (rk_indexAddr (.of rfl) (.of rfl) ha' (by omega) hcd norm1_) rfl ?_; refine any_val (rk_loadN (.of rfl) (Ats.base hcell rfl) rfl) rfl ?_; refine a_m rfl rfl ?_; refine a_m rfl rfl ?_; refine any_val (rk_indexAddr (.of rfl) (.of rfl) ha2' (by omega) (by omega) norm1_) rfl ?_; refine any_val (rk_loadN (.of rfl) (Ats.base hcell2 rfl) rfl) rfl ?_; refine any_val (rk_neqA (.of rfl) (.of rfl) (okL_int (okL_int (okL_int okL_nil))) rfl) rfl ?_)
    with_reducible refine any_end ?_
    (refine n_t ?_; refine c_b rfl (fun hcd => ?_) (fun hcd => ?_); refine s_r ?_; refine a_s rfl rfl ?_; refine n_t ?_; refine tr_ret ?_; refine tr_blk_ret ?_; refine tr_then_ret ?_; refine tr_then_ret ?_; refine tr_blk_ret ?_; refine tr_then_ret ?_; refine tr_retE rfl (ends1 rfl rfl) ?_; rotate_left; refine tr_skip ?_; refine tr_blk_normal ?_; refine tr_then ?_; refine tr_region ?_; refine m_v rfl rfl ?_; refine tr_val (rk_add (.of rfl) (.of rfl) (ini (by omega))) rfl ?_; refine a_s rfl rfl ?_; refine n_t ?_; rotate_right)
    · have hne : ¬ l1 = l2 := by
        intro e
        subst e
        rw [hx] at hy
        cases hy
        simp at hcd
      rw [decide_eq_false hne]
    · have heq : l1[k]? = l2[k]? := by
        rw [List.getElem?_eq_getElem hlt, List.getElem?_eq_getElem hlt2, hx, hy]
        simp at hcd
        simp [hcd]
      apply tr_next (k + 1) ⟨by omega, fun i hi => by
        by_cases e : i = k
        · rw [e]; exact heq
        · exact hf i (by omega)⟩ (by omega)
      case hs1 => exact .cons rfl (.cons rfl (.cons rfl .nil))
      case ht => (try simp only [List.take_zero, List.map_nil, List.nil_append]); exact .nil
  · obtain rfl : k = l1.length := by omega
    (refine tr_seq ?_; refine s_r ?_; refine m_v rfl rfl ?_; refine m_v rfl rfl ?_; refine tr_val (rk_len_slice (.of rfl)) rfl ?_; refine tr_val (rk_lss (.of rfl) (.of rfl)) rfl ?_; refine n_t ?_; refine c_d rfl (fun _ => by omega) (fun hcd => ?_); refine x_t ?_; refine tr_then_exit ?_; refine tr_blk_exit ?_; refine tr_then ?_; refine s_r ?_; refine a_s rfl rfl ?_; refine n_t ?_; refine tr_ret ?_; refine tr_retE rfl (ends1 rfl rfl) ?_)
    have : l1 = l2 := List.ext_getElem? fun i => by
      by_cases hi : i < l1.length
      · exact hf i hi
      · rw [List.getElem?_eq_none (by omega), List.getElem?_eq_none (by omega)]
    rw [decide_eq_true this]

theorem sameSpans_c {v1 v2 : Value} {l1 l2 : List (Int × Int)} {w : World} (h1 : Rd w v1 2 (l1.map duoV)) (h2 : Rd w v2 2 (l2.map duoV)) : GivesV Tryz.prog 96 [v1, v2] w (.bool (decide (l1 = l2))) := by
  obtain ⟨a, cap, b, o, rfl, hcap, hmax, ha, hc⟩ := h1
  obtain ⟨a2, cap2, b2, o2, rfl, hcap2, hmax2, ha2, hc2⟩ := h2
  rw [lenV duoV l1] at *
  rw [lenV duoV l2] at *
  unfold maxLen at hmax hmax2
  refine givesV_of_tr Tryz.func96 rfl rfl ?_
  (refine s_r ?_; refine a_s rfl rfl ?_; refine n_t ?_; refine tr_seq ?_; refine s_r ?_; refine m_v rfl rfl ?_; refine tr_val (rk_len_slice (.of rfl)) rfl ?_; refine m_v rfl rfl ?_; refine tr_val (rk_len_slice (.of rfl)) rfl ?_; refine tr_val (rk_neq (.of rfl) (.of rfl)) rfl ?_; refine n_t ?_; refine c_d rfl (fun hcd => ?_) (fun hcd => ?_); refine s_r ?_; refine a_s rfl rfl ?_; refine n_t ?_; refine r_t ?_; refine tr_retE rfl (ends1 rfl rfl) ?_; rotate_left; refine s_t ?_; refine tr_seq ?_; refine s_r ?_; refine a_s rfl rfl ?_; refine n_t ?_; refine tr_block ?_; rotate_right)
  · rw [decide_eq_false (fun e => hcd (by rw [e]))]
  have hlen : l1.length = l2.length := by omega
  refine tr_for (fun k : Nat => k ≤ l1.length ∧ ∀ i, i < k → l1[i]? = l2[i]?) (fun k => [(5, .int .i64 k), (0, .slice a l1.length cap), (1, .slice a2 l2.length cap2)]) (fun _ => []) (fun k => l1.length - k) ?_ ?_
  · apply tr_start 0 ⟨Nat.zero_le _, fun i h => by omega⟩
    case hs1 => exact .cons rfl (.cons rfl (.cons rfl .nil))
    case ht => (try simp only [List.take_zero, List.map_nil, List.nil_append]); exact .nil
  rintro k ⟨hk, hf⟩
  by_cases hlt : k < l1.length
  · have hlt2 : k < l2.length := by omega
    have ha' := ha (by intro e; rw [List.map_eq_nil_iff] at e; subst e; simp at hlt)
    have ha2' := ha2 (by intro e; rw [List.map_eq_nil_iff] at e; subst e; simp at hlt2)
    have hcell := (hc k (duoV l1[k]) (by rw [List.getElem?_map, List.getElem?_eq_getElem hlt]; rfl)).2
    have hcell2 := (hc2 k (duoV l2[k]) (by rw [List.getElem?_map, List.getElem?_eq_getElem hlt2]; rfl)).2
    generalize hx : l1[k] = x at hcell
    generalize hy : l2[k] = y at hcell2
    obtain ⟨x0, x1⟩ := x
    obtain ⟨y0, y1⟩ := y
    unfold duoV at hcell hcell2
    try dsimp only at hcell hcell2
    (refine tr_seq ?_; refine s_r ?_; refine m_v rfl rfl ?_; refine m_v rfl rfl ?_; refine tr_val (rk_len_slice (.of rfl)) rfl ?_; refine tr_val (rk_lss (.of rfl) (.of rfl)) rfl ?_; refine n_t ?_; refine c_d rfl (fun hcd => ?_) (fun _ => by omega); refine s_t ?_; refine tr_seq ?_; refine tr_block ?_; refine tr_seq ?_)
    with_reducible refine tr_draw 9 (by kernel_rfl) ?_
    (refine a_m rfl rfl ?_; refine a_m rfl rfl ?_; refine any_val (rk_indexAddr (.of rfl) (.of rfl) ha' (by omega) hcd norm1_) rfl ?_; refine any_val (rk_loadN (.of rfl) (Ats.base hcell rfl) rfl) rfl ?_; refine a_m rfl rfl ?_; refine a_m rfl rfl ?_; refine any_val (rk_indexAddr (.of rfl) (.of rfl) ha2' (by omega) (by omega) norm1_) rfl ?_; refine any_val (rk_loadN (.of rfl) (Ats.base hcell2 rfl) rfl) rfl ?_; refine any_val (rk_neqA (.of rfl) (.of rfl) (okL_int (okL_int okL_nil)) rfl) rfl ?_)
    with_reducible refine any_end ?_
    (refine n_t ?_; refine c_b rfl (fun hcd => ?_) (fun hcd => ?_); refine s_r ?_; refine a_s rfl rfl ?_; refine n_t ?_; refine tr_ret ?_; refine tr_blk_ret ?_; refine tr_then_ret ?_; refine tr_then_ret ?_; refine tr_blk_ret ?_; refine tr_then_ret ?_; refine tr_retE rfl (ends1 rfl rfl) ?_; rotate_left; refine tr_skip ?_; refine tr_blk_normal ?_; refine tr_then ?_; refine tr_region ?_; refine m_v rfl rfl ?_; refine tr_val (rk_add (.of rfl) (.of rfl) (ini (by omega))) rfl ?_; refine a_s rfl rfl ?_; refine n_t ?_; rotate_right)
    · have hne : ¬ l1 = l2 := by
        intro e
        subst e
        rw [hx] at hy
        cases hy
        simp at hcd
      rw [decide_eq_false hne]
    · have heq : l1[k]? = l2[k]? := by
        rw [List.getElem?_eq_getElem hlt, List.getElem?_eq_getElem hlt2, hx, hy]
        simp at hcd
        simp [hcd]
      apply tr_next (k + 1) ⟨by omega, fun i hi => by
        by_cases e : i = k
        · rw [e]; exact heq
        · exact hf i (by omega)⟩ (by omega)
      case hs1 => exact .cons rfl (.cons rfl (.cons rfl .nil))
      case ht => (try simp only [List.take_zero, List.map_nil, List.nil_append]); exact .nil
  · obtain rfl : k = l1.length := by omega
    (refine tr_seq ?_; refine s_r ?_; refine m_v rfl rfl ?_; refine m_v rfl rfl ?_; refine tr_val (rk_len_slice (.of rfl)) rfl ?_; refine tr_val (rk_lss (.of rfl) (.of rfl)) rfl ?_; refine n_t ?_; refine c_d rfl (fun _ => by omega) (fun hcd => ?_); refine x_t ?_; refine tr_then_exit ?_; refine tr_blk_exit ?_; refine tr_then ?_; refine s_r ?_; refine a_s rfl rfl ?_; refine n_t ?_; refine tr_ret ?_; refine tr_retE rfl (ends1 rfl rfl) ?_)
    have : l1 = l2 := List.ext_getElem? fun i => by
      by_cases hi : i < l1.length
      · exact hf i hi
      · rw [List.getElem?_eq_none (by omega), List.getElem?_eq_none (by omega)]
    rw [decide_eq_true this]

theorem sameInts_c {v1 v2 : Value} {l1 l2 : List (Int)} {w : World} (h1 : Rd w v1 1 (l1.map oneV)) (h2 : Rd w v2 1 (l2.map oneV)) : GivesV Tryz.prog 97 [v1, v2] w (.bool (decide (l1 = l2))) := by
  obtain ⟨a, cap, b, o, rfl, hcap, hmax, ha, hc⟩ := h1
  obtain ⟨a2, cap2, b2, o2, rfl, hcap2, hmax2, ha2, hc2⟩ := h2
  rw [lenV oneV l1] at *
  rw [lenV oneV l2] at *
  unfold maxLen at hmax hmax2
  refine givesV_of_tr Tryz.func97 rfl rfl ?_
  (refine s_r ?_; refine a_s rfl rfl ?_; refine n_t ?_; refine tr_seq ?_; refine s_r ?_; refine m_v rfl rfl ?_; refine tr_val (rk_len_slice (.of rfl)) rfl ?_; refine m_v rfl rfl ?_; refine tr_val (rk_len_slice (.of rfl)) rfl ?_; refine tr_val (rk_neq (.of rfl) (.of rfl)) rfl ?_; refine n_t ?_; refine c_d rfl (fun hcd => ?_) (fun hcd => ?_); refine s_r ?_; refine a_s rfl rfl ?_; refine n_t ?_; refine r_t ?_; refine tr_retE rfl (ends1 rfl rfl) ?_; rotate_left; refine s_t ?_; refine tr_seq ?_; refine s_r ?_; refine a_s rfl rfl ?_; refine n_t ?_; refine tr_block ?_; rotate_right)
  · rw [decide_eq_false (fun e => hcd (by rw [e]))]
  have hlen : l1.length = l2.length := by omega
  refine tr_for (fun k : Nat => k ≤ l1.length ∧ ∀ i, i < k → l1[i]? = l2[i]?) (fun k => [(5, .int .i64 k), (0, .slice a l1.length cap), (1, .slice a2 l2.length cap2)]) (fun _ => []) (fun k => l1.length - k) ?_ ?_
  · apply tr_start 0 ⟨Nat.zero_le _, fun i h => by omega⟩
    case hs1 => exact .cons rfl (.cons rfl (.cons rfl .nil))
    case ht => (try simp only [List.take_zero, List.map_nil, List.nil_append]); exact .nil
  rintro k ⟨hk, hf⟩
  by_cases hlt : k < l1.length
  · have hlt2 : k < l2.length := by omega
    have ha' := ha (by intro e; rw [List.map_eq_nil_iff] at e; subst e; simp at hlt)
    have ha2' := ha2 (by intro e; rw [List.map_eq_nil_iff] at e; subst e; simp at hlt2)
    have hcell := (hc k (oneV l1[k]) (by rw [List.getElem?_map, List.getElem?_eq_getElem hlt]; rfl)).2
    have hcell2 := (hc2 k (oneV l2[k]) (by rw [List.getElem?_map, List.getElem?_eq_getElem hlt2]; rfl)).2
    generalize hx : l1[k] = x at hcell
    generalize hy : l2[k] = y at hcell2
    skip
    unfold oneV at hcell hcell2
    try dsimp only at hcell hcell2
    have hcell0 := hcell 0 _ rfl
    have hcell20 := hcell2 0 _ rfl
    rw [Nat.add_zero] at hcell0 hcell20
    (refine tr_seq ?_; refine s_r ?_; refine m_v rfl rfl ?_; refine m_v rfl rfl ?_; refine tr_val (rk_len_slice (.of rfl)) rfl ?_; refine tr_val (rk_lss (.of rfl) (.of rfl)) rfl ?_; refine n_t ?_; refine c_d rfl (fun hcd => ?_) (fun _ => by omega); refine s_t ?_; refine tr_seq ?_; refine tr_block ?_; refine tr_seq ?_)
    with_reducible refine tr_draw 9 (by kernel_rfl) ?_
    (refine a_m rfl rfl ?_; refine a_m rfl rfl ?_; refine any_val (rk_indexAddr (.of rfl) (.of rfl) ha' (by omega) hcd norm1_) rfl ?_; refine any_val (rk_load1 (.of rfl) (At.base hcell0 rfl)) rfl ?_; refine a_m rfl rfl ?_; refine a_m rfl rfl ?_; refine any_val (rk_indexAddr (.of rfl) (.of rfl) ha2' (by omega) (by omega) norm1_) rfl ?_; refine any_val (rk_load1 (.of rfl) (At.base hcell20 rfl)) rfl ?_; refine any_val (rk_neq (.of rfl) (.of rfl)) rfl ?_)
    with_reducible refine any_end ?_
    (refine n_t ?_; refine c_d rfl (fun hcd => ?_) (fun hcd => ?_); refine s_r ?_; refine a_s rfl rfl ?_; refine n_t ?_; refine tr_ret ?_; refine tr_blk_ret ?_; refine tr_then_ret ?_; refine tr_then_ret ?_; refine tr_blk_ret ?_; refine tr_then_ret ?_; refine tr_retE rfl (ends1 rfl rfl) ?_; rotate_left; refine tr_skip ?_; refine tr_blk_normal ?_; refine tr_then ?_; refine tr_region ?_; refine m_v rfl rfl ?_; refine tr_val (rk_add (.of rfl) (.of rfl) (ini (by omega))) rfl ?_; refine a_s rfl rfl ?_; refine n_t ?_; rotate_right)
    · have hne : ¬ l1 = l2 := by
        intro e
        subst e
        rw [hx] at hy
        cases hy
        simp at hcd
      rw [decide_eq_false hne]
    · have heq : l1[k]? = l2[k]? := by
        rw [List.getElem?_eq_getElem hlt, List.getElem?_eq_getElem hlt2, hx, hy]
        simp at hcd
        simp [hcd]
      apply tr_next (k + 1) ⟨by omega, fun i hi => by
        by_cases e : i = k
        · rw [e]; exact heq
        · exact hf i (by omega)⟩ (by omega)
      case hs1 => exact .cons rfl (.cons rfl (.cons rfl .nil))
      case ht => (try simp only [List.take_zero, List.map_nil, List.nil_append]); exact .nil
  · obtain rfl : k = l1.length := by omega
    (refine tr_seq ?_; refine s_r ?_; refine m_v rfl rfl ?_; refine m_v rfl rfl ?_; refine tr_val (rk_len_slice (.of rfl)) rfl ?_; refine tr_val (rk_lss (.of rfl) (.of rfl)) rfl ?_; refine n_t ?_; refine c_d rfl (fun _ => by omega) (fun hcd => ?_); refine x_t ?_; refine tr_then_exit ?_; refine tr_blk_exit ?_; refine tr_then ?_; refine s_r ?_; refine a_s rfl rfl ?_; refine n_t ?_; refine tr_ret ?_; refine tr_retE rfl (ends1 rfl rfl) ?_)
    have : l1 = l2 := List.ext_getElem? fun i => by
      by_cases hi : i < l1.length
      · exact hf i hi
      · rw [List.getElem?_eq_none (by omega), List.getElem?_eq_none (by omega)]
    rw [decide_eq_true this]

end Go.Proofs.A1


/- S18 -/
namespace Go.Proofs.A1
open Go Go.SL

def enR (es : List En) : Nat → List Value
  | 0 => []
  | k + 1 => enR es k ++ (nth es k).cells
theorem enR_tab (es : List En) : ∀ n, enR es n = tab n (fun k => (nth es k).cells)
  | 0 => rfl
  | n + 1 => by rw [enR, enR_tab es n, tab_eq_map, tab_eq_map, List.range_succ]; simp
theorem enR_flat (es : List En) : enR es es.length = (ensL es).flatten := by
  rw [enR_tab, tab_eq_map, ensL]
  congr 1
  apply List.ext_getElem
  · simp
  · intro i h1 h2
    simp only [List.length_map, List.length_range] at h1
    simp [nth_eq h1]
theorem ensL_sz (es : List En) : ∀ r ∈ ensL es, r.length = 6 := by
  intro r hr
  obtain ⟨k, _, rfl⟩ := List.mem_map.1 hr
  rfl
theorem rdEn {c : Cx} {hs hs' : List Asn} {w : World} {E : TypeId} {es : List En} {v : Value} (hm : Mem c hs w) (ht : Take hs (row E 6 v es.length (enR es es.length)) hs') : Rd w v 6 (ensL es) :=
  hm.rdRow ht (enR_flat es) (ensL_sz es) (ensL_length es)
theorem one_c (e : En) (w : World) : GivesV Tryz.prog 70 [.agg e.cells.toArray] w (.agg e.cells.toArray) := by
  unfold En.cells
  refine givesV_of_tr Tryz.func70 rfl rfl ?_
  (refine s_r ?_; refine tr_new (rk_box (.of rfl) rfl) rfl (fun _ _ => ?_); refine tr_new (rk_alloc rfl) rfl (fun _ _ => ?_); refine n_r ?_; refine f_a rfl rfl norm0_ ?_; refine tr_val (rk_load1 (.of rfl) (At.lit (.there .here) rfl)) rfl ?_; refine f_a rfl rfl norm0_ ?_; refine tr_val (rk_load1 (.of rfl) (At.lit (.there .here) rfl)) rfl ?_; refine f_a rfl rfl norm0_ ?_; refine tr_val (rk_loadB (.of rfl) (.there .here) norm_ (by rfl)) rfl ?_; refine f_a rfl rfl norm0_ ?_; refine tr_val (rk_load1 (.of rfl) (At.lit (.there .here) rfl)) rfl ?_; refine f_a rfl rfl norm0_ ?_; refine tr_val (rk_load1 (.of rfl) (At.lit (.there .here) rfl)) rfl ?_; refine tr_val (rk_buildL (.cons (.of rfl) (.cons (.of rfl) (.cons (.of rfl) (.cons (.of rfl) (.cons (.of rfl) .nil))))) norm_) rfl ?_; refine tr_store (.of rfl) (.of rfl) .here rfl rfl (okc_cons rfl (okc_cons rfl (okc_cons rfl (okc_cons rfl (okc_cons rfl (okc_cons rfl okc_nil)))))) (lenb rfl) norm_ ?_; refine n_t ?_; refine tr_ret ?_; refine tr_retE rfl (ends1cB rfl inferInstance rfl .here norm_ (by rfl)) ?_)
  rfl
theorem own_c {sv : Value} {es : List En} {w : World} (h1 : Rd w sv 6 (ensL es)) (hfew : es.length ≤ 1000) :
    Gives Tryz.prog 20 [.agg #[sv]] w [] (fun _ : Value => True) (fun v => .agg #[v]) (fun v => [row 138 6 v es.length (enR es es.length)]) := by
  obtain ⟨a, cap, b, o, rfl, hcap, hmax, ha, hc⟩ := h1
  rw [ensL_length] at *
  unfold maxLen at hmax
  refine gives_of_tr Tryz.func20 rfl rfl ?_
  (refine s_r ?_; refine tr_new (rk_box (.of rfl) rfl) rfl (fun _ _ => ?_); refine tr_new (rk_alloc rfl) rfl (fun _ _ => ?_); refine n_r ?_; refine tr_new (rk_alloc rfl) rfl (fun _ _ => ?_); refine n_t ?_; refine tr_seq ?_; refine s_r ?_; refine f_a rfl rfl norm0_ ?_; refine tr_val (rk_load1 (.of rfl) (At.lit (.there (.there .here)) rfl)) rfl ?_; refine tr_val (rk_len_slice (.of rfl)) rfl ?_; refine m_v rfl rfl ?_; refine n_t ?_; refine tr_block ?_)
  rename_i b1 hb1 b2 hb2 b3 hb3
  refine tr_rowNil 138 6 ?_
  refine tr_for (ι := Nat × Value) (fun x => x.1 ≤ es.length) (fun x => [(9, .int .i64 x.1), (8, .int .i64 es.length), (7, .slice a es.length cap), (2, .pointer (some ⟨b2, 0, none⟩)), (3, .pointer (some ⟨b3, 0, none⟩))])
    (fun x => [row 138 6 x.2 x.1 (enR es x.1), blk b3 (.cells #[x.2] 33 (0, 0)), blk b2 (.cells #[.slice none 0 0] 33 (0, 0))]) (fun x => es.length - x.1) ?_ ?_
  · apply tr_start (0, .slice none 0 0) (Nat.zero_le _)
    case hs1 => exact .cons rfl (.cons rfl (.cons rfl (.cons rfl (.cons rfl .nil))))
    case ht =>
      show Takes _ [row 138 6 (.slice none 0 0) 0 [], blk b3 (.cells #[.slice none 0 0] 33 (0, 0)), blk b2 (.cells #[.slice none 0 0] 33 (0, 0))] _
      exact .cons .here (.cons .here (.cons .here .nil))
  rintro ⟨k, v⟩ hk
  dsimp only at hk ⊢
  by_cases hlt : k < es.length
  · have ha' := ha (ensL_ne hlt)
    have hcell := (hc k _ (ensL_get hlt)).2
    have hone1 := one_c (nth es k)
    unfold En.cells at hcell hone1
    (refine s_r ?_; refine tr_val (rk_lss (.of rfl) (.of rfl)) rfl ?_; refine n_t ?_; refine tr_seq ?_; refine c_d rfl (fun hcd => ?_) (fun _ => by omega); refine s_t ?_; refine tr_seq ?_; refine tr_block ?_; refine s_r ?_; refine tr_val (rk_indexAddr (.of rfl) (.of rfl) ha' (by omega) hcd norm1_) rfl ?_; refine tr_val (rk_loadN (.of rfl) (Ats.base hcell rfl) rfl) rfl ?_; refine tr_new (rk_alloc rfl) rfl (fun _ _ => ?_); refine tr_store (.of rfl) (.of rfl) .here rfl rfl (okc_cons rfl (okc_cons rfl (okc_cons rfl (okc_cons rfl (okc_cons rfl (okc_cons rfl okc_nil)))))) (lenb rfl) norm_ ?_; refine n_t ?_)
    with_reducible refine tr_drawO 5 (by kernel_rfl) ?_
    (refine ao_val (rk_fieldAddr (.of rfl) norm0_) rfl ?_; refine ao_val (rk_load1 (.of rfl) (At.lit (.there (.there .here)) rfl)) rfl ?_; refine ao_val (rk_loadB (.of rfl) .here norm_ (by rfl)) rfl ?_; refine ao_call (rk_call (.of rfl) (.cons (.of rfl) .nil) inferInstance normc_) rfl (fun w' hm' => (hone1 w')) ?_; refine ao_new (rk_sliceLitN (.cons (.of rfl) .nil) rfl rfl normp_ normp_ norm_) rfl rfl ?_)
    with_reducible refine ao_end1 rfl fun bq hbq => ?_
    refine tr_appendB (.of rfl) (.of rfl) (.there (.there .here)) .here norm_ (by rfl) (okc_cons rfl (okc_cons rfl (okc_cons rfl (okc_cons rfl (okc_cons rfl (okc_cons rfl okc_nil)))))) (by rfl) (by rfl) (by rfl) lenx_ (by rfl) ?_
    intro v'
    refine tr_rowSl (E := 138) (sz := 6) (by exact .here) fun a' cap' e => ?_
    subst e
    (refine f_a rfl rfl norm0_ ?_; refine tr_store (.of rfl) (.of rfl) (.there (.there (.there .here))) rfl rfl (okc_cons rfl okc_nil) (lenb rfl) norm_ ?_; refine tr_nil ?_; refine tr_blk_normal ?_; refine tr_then ?_; refine tr_region ?_; refine tr_val (rk_add (.of rfl) (.of rfl) (ini (by omega))) rfl ?_; refine m_v rfl rfl ?_; refine n_t ?_)
    apply tr_next (k + 1, .slice a' (k + 1) cap') (by show k + 1 ≤ es.length; omega) (by show es.length - (k + 1) < es.length - k; omega)
    case hs1 => exact .cons rfl (.cons rfl (.cons rfl (.cons rfl (.cons rfl .nil))))
    case ht =>
      show Takes _ [row 138 6 (.slice a' (k + 1) cap') (k + 1) (enR es k ++ (nth es k).cells), blk b3 (.cells #[.slice a' (k + 1) cap'] 33 (0, 0)), _] _
      unfold En.cells
      exact .cons (.there .here) (.cons .here (.cons (.there (.there .here)) .nil))
  · obtain rfl : k = es.length := by omega
    refine tr_rowSl (E := 138) (sz := 6) (by exact .here) fun a' cap' e => ?_
    subst e
    (refine s_r ?_; refine tr_val (rk_lss (.of rfl) (.of rfl)) rfl ?_; refine n_t ?_; refine tr_seq ?_; refine c_d rfl (fun _ => by omega) (fun hcd => ?_); refine x_t ?_; refine tr_then_exit ?_; refine tr_blk_exit ?_; refine tr_then ?_; refine s_r ?_; refine tr_val (rk_loadB (.of rfl) (.there .here) norm_ (by rfl)) rfl ?_; refine tr_store (.of rfl) (.of rfl) (.there (.there .here)) rfl rfl (okc_cons rfl okc_nil) (lenb rfl) norm_ ?_; refine n_t ?_; refine tr_ret ?_)
    first | with_reducible apply tr_retM | with_reducible apply tr_endM
    case he => exact ends1cB rfl inferInstance rfl .here norm_ (by rfl)
    case hR =>
      intro w' hm'
      exact gives_end (.slice a' es.length cap') trivial (show Takes _ [row 138 6 (.slice a' es.length cap') es.length (enR es es.length)] _ by exact .cons (.there .here) .nil) hm' rfl
theorem told_c {sv : Value} {es : List En} {w : World} (h1 : Rd w sv 6 (ensL es)) (hfew : es.length ≤ 1000) :
    Gives Tryz.prog 86 [.agg #[sv]] w [] (fun _ : Value => True) (fun v => .agg #[v]) (fun v => [row 115 6 v es.length (enR es es.length)]) := by
  obtain ⟨a, cap, b, o, rfl, hcap, hmax, ha, hc⟩ := h1
  rw [ensL_length] at *
  unfold maxLen at hmax
  refine gives_of_tr Tryz.func86 rfl rfl ?_
  (refine s_r ?_; refine tr_new (rk_box (.of rfl) rfl) rfl (fun _ _ => ?_); refine tr_new (rk_alloc rfl) rfl (fun _ _ => ?_); refine n_r ?_; refine tr_new (rk_alloc rfl) rfl (fun _ _ => ?_); refine n_t ?_; refine tr_seq ?_; refine s_r ?_; refine f_a rfl rfl norm0_ ?_; refine tr_val (rk_load1 (.of rfl) (At.lit (.there (.there .here)) rfl)) rfl ?_; refine tr_val (rk_len_slice (.of rfl)) rfl ?_; refine m_v rfl rfl ?_; refine n_t ?_; refine tr_block ?_)
  rename_i b1 hb1 b2 hb2 b3 hb3
  refine tr_rowNil 115 6 ?_
  refine tr_for (ι := Nat × Value) (fun x => x.1 ≤ es.length) (fun x => [(9, .int .i64 x.1), (8, .int .i64 es.length), (7, .slice a es.length cap), (2, .pointer (some ⟨b2, 0, none⟩)), (3, .pointer (some ⟨b3, 0, none⟩))])
    (fun x => [row 115 6 x.2 x.1 (enR es x.1), blk b3 (.cells #[x.2] 24 (0, 0)), blk b2 (.cells #[.slice none 0 0] 24 (0, 0))]) (fun x => es.length - x.1) ?_ ?_
  · apply tr_start (0, .slice none 0 0) (Nat.zero_le _)
    case hs1 => exact .cons rfl (.cons rfl (.cons rfl (.cons rfl (.cons rfl .nil))))
    case ht =>
      show Takes _ [row 115 6 (.slice none 0 0) 0 [], blk b3 (.cells #[.slice none 0 0] 24 (0, 0)), blk b2 (.cells #[.slice none 0 0] 24 (0, 0))] _
      exact .cons .here (.cons .here (.cons .here .nil))
  rintro ⟨k, v⟩ hk
  dsimp only at hk ⊢
  by_cases hlt : k < es.length
  · have ha' := ha (ensL_ne hlt)
    have hcell := (hc k _ (ensL_get hlt)).2
    unfold En.cells at hcell
    (refine s_r ?_; refine tr_val (rk_lss (.of rfl) (.of rfl)) rfl ?_; refine n_t ?_; refine tr_seq ?_; refine c_d rfl (fun hcd => ?_) (fun _ => by omega); refine s_t ?_; refine tr_seq ?_; refine tr_block ?_; refine s_r ?_; refine tr_val (rk_indexAddr (.of rfl) (.of rfl) ha' (by omega) hcd norm1_) rfl ?_; refine tr_val (rk_loadN (.of rfl) (Ats.base hcell rfl) rfl) rfl ?_; refine tr_new (rk_alloc rfl) rfl (fun _ _ => ?_); refine tr_store (.of rfl) (.of rfl) .here rfl rfl (okc_cons rfl (okc_cons rfl (okc_cons rfl (okc_cons rfl (okc_cons rfl (okc_cons rfl okc_nil)))))) (lenb rfl) norm_ ?_; refine n_t ?_; refine tr_region ?_; refine f_a rfl rfl norm0_ ?_; refine tr_val (rk_load1 (.of rfl) (At.lit (.there (.there .here)) rfl)) rfl ?_; refine f_a rfl rfl norm0_ ?_; refine tr_val (rk_load1 (.of rfl) (At.lit .here rfl)) rfl ?_; refine f_a rfl rfl norm0_ ?_; refine tr_val (rk_load1 (.of rfl) (At.lit .here rfl)) rfl ?_; refine f_a rfl rfl norm0_ ?_; refine tr_val (rk_loadB (.of rfl) .here norm_ (by rfl)) rfl ?_; refine f_a rfl rfl norm0_ ?_; refine tr_val (rk_load1 (.of rfl) (At.lit .here rfl)) rfl ?_; refine f_a rfl rfl norm0_ ?_; refine tr_val (rk_load1 (.of rfl) (At.lit .here rfl)) rfl ?_; refine tr_val (rk_buildL (.cons (.of rfl) (.cons (.of rfl) (.cons (.of rfl) (.cons (.of rfl) (.cons (.of rfl) .nil))))) norm_) rfl ?_; refine tr_new (rk_sliceLitN (.cons (.of rfl) .nil) rfl rfl normp_ normp_ norm_) rfl (fun _ _ => ?_))
    refine tr_appendB (.of rfl) (.of rfl) (.there (.there .here)) .here norm_ (by rfl) (okc_cons rfl (okc_cons rfl (okc_cons rfl (okc_cons rfl (okc_cons rfl (okc_cons rfl okc_nil)))))) (by rfl) (by rfl) (by rfl) lenx_ (by rfl) ?_
    intro v'
    refine tr_rowSl (E := 115) (sz := 6) (by exact .here) fun a' cap' e => ?_
    subst e
    (refine f_a rfl rfl norm0_ ?_; refine tr_store (.of rfl) (.of rfl) (.there (.there (.there .here))) rfl rfl (okc_cons rfl okc_nil) (lenb rfl) norm_ ?_; refine tr_nil ?_; refine tr_blk_normal ?_; refine tr_then ?_; refine tr_region ?_; refine tr_val (rk_add (.of rfl) (.of rfl) (ini (by omega))) rfl ?_; refine m_v rfl rfl ?_; refine n_t ?_)
    apply tr_next (k + 1, .slice a' (k + 1) cap') (by show k + 1 ≤ es.length; omega) (by show es.length - (k + 1) < es.length - k; omega)
    case hs1 => exact .cons rfl (.cons rfl (.cons rfl (.cons rfl (.cons rfl .nil))))
    case ht =>
      show Takes _ [row 115 6 (.slice a' (k + 1) cap') (k + 1) (enR es k ++ (nth es k).cells), blk b3 (.cells #[.slice a' (k + 1) cap'] 24 (0, 0)), _] _
      unfold En.cells
      exact .cons (.there .here) (.cons .here (.cons (.there (.there .here)) .nil))
  · obtain rfl : k = es.length := by omega
    refine tr_rowSl (E := 115) (sz := 6) (by exact .here) fun a' cap' e => ?_
    subst e
    (refine s_r ?_; refine tr_val (rk_lss (.of rfl) (.of rfl)) rfl ?_; refine n_t ?_; refine tr_seq ?_; refine c_d rfl (fun _ => by omega) (fun hcd => ?_); refine x_t ?_; refine tr_then_exit ?_; refine tr_blk_exit ?_; refine tr_then ?_; refine s_r ?_; refine tr_val (rk_loadB (.of rfl) (.there .here) norm_ (by rfl)) rfl ?_; refine tr_store (.of rfl) (.of rfl) (.there (.there .here)) rfl rfl (okc_cons rfl okc_nil) (lenb rfl) norm_ ?_; refine n_t ?_; refine tr_ret ?_)
    first | with_reducible apply tr_retM | with_reducible apply tr_endM
    case he => exact ends1cB rfl inferInstance rfl .here norm_ (by rfl)
    case hR =>
      intro w' hm'
      exact gives_end (.slice a' es.length cap') trivial (show Takes _ [row 115 6 (.slice a' es.length cap') es.length (enR es es.length)] _ by exact .cons (.there .here) .nil) hm' rfl
end Go.Proofs.A1

