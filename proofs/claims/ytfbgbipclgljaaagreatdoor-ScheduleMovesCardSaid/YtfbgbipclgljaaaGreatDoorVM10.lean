/- Parts of the proof: S14 S15 S16 S17. -/
import Derived.Test.YtfbgbipclgljaaaGreatDoorVM09
import Derived.Test.YtfbgbipclgljaaaGreatDoorVM06
set_option linter.unusedSectionVars false
set_option linter.unusedVariables false
set_option linter.unusedSimpArgs false
/- S14 -/
namespace Go.Proofs.A1
open Go Go.SL

theorem Sound.e2 {es : List En} (h : Sound es) : errE (e2At es) es.length = 0 := errE_ok.2 fun i hi => by
  have h1 := h.bad i hi
  have h2 := h.most i hi
  simp [e2At, h1, show ¬ 10000000 < to es i by omega, whenF, firstF]
theorem e1q_eq (es : List En) (k : Nat) : firstF [entF (nth es k), whenF (decide (0 ≤ findF es (nth es k).nm k)) 9, whenF (decide ((k : Int) = 0) && decide ((nth es k).kd = sFol)) 22] = e1At es k := by
  unfold e1At
  rw [findF_le, ← dup_eq, show decide ((k : Int) = 0) = decide (k = 0) from decide_eq_decide.2 (by omega)]
theorem chkQ_c {sv : Value} {es : List En} {w : World} (h1 : Rd w sv 6 (ensL es)) : GivesV Tryz.prog 23 [.agg #[sv]] w (.int .i64 (chkF es)) := by
  have h1' := h1
  obtain ⟨a, cap, b, o, rfl, hcap, hmax, ha, hc⟩ := h1
  rw [ensL_length] at *
  unfold maxLen at hmax
  refine givesV_of_tr Tryz.func23 rfl rfl ?_
  (refine s_r ?_; refine tr_new (rk_box (.of rfl) rfl) rfl (fun _ _ => ?_); refine a_s rfl rfl ?_; refine n_t ?_; refine tr_seq ?_; refine s_r ?_; refine f_a rfl rfl norm0_ ?_; refine tr_val (rk_load1 (.of rfl) (At.lit .here rfl)) rfl ?_; refine tr_val (rk_len_slice (.of rfl)) rfl ?_; refine tr_val (rk_gtr (.of rfl) (.of rfl)) rfl ?_; refine n_t ?_; refine c_d rfl (fun hcd => ?_) (fun hcd => ?_); refine s_r ?_; refine a_s rfl rfl ?_; refine n_t ?_; refine r_t ?_; refine tr_retE rfl (ends1 rfl rfl) ?_; rotate_left; refine s_t ?_; refine tr_seq ?_; refine s_r ?_; refine a_s rfl rfl ?_; refine n_t ?_; refine tr_block ?_; rotate_right)
  · rw [chkF, if_pos (by omega)]
  have hfew : es.length ≤ 24 := by omega
  rename_i b1 hb1
  refine tr_for (fun k : Nat => k ≤ es.length ∧ ∀ i, i < k → e1At es i = 0) (fun k => [(3, .int .i64 k), (1, .pointer (some ⟨b1, 0, none⟩))])
    (fun _ => [blk b1 (.cells #[.slice a es.length cap] 24 (0, 0))]) (fun k => es.length - k) ?_ ?_
  · apply tr_start 0 ⟨Nat.zero_le _, fun i h => by omega⟩
    case hs1 => exact .cons rfl (.cons rfl .nil)
    case ht => (try simp only [List.take_zero, List.map_nil, List.nil_append]); exact .cons .here .nil
  rintro k ⟨hk, hf⟩
  by_cases hlt : k < es.length
  · have ha' := ha (ensL_ne hlt)
    have hcell := (hc k _ (ensL_get hlt)).2
    have hc0 := hcell 0 _ rfl
    have hc2 := hcell 2 _ rfl
    have heq := e1q_eq es k
    have hec : ∀ w', GivesV Tryz.prog 73 [.agg (nth es k).cells.toArray] w' (.int .i64 (entF (nth es k))) := fun w' => entQ_c _ _
    unfold En.cells at hcell hec
    (refine tr_seq ?_; refine s_r ?_; refine m_v rfl rfl ?_; refine f_a rfl rfl norm0_ ?_; refine tr_val (rk_load1 (.of rfl) (At.lit .here rfl)) rfl ?_; refine tr_val (rk_len_slice (.of rfl)) rfl ?_; refine tr_val (rk_lss (.of rfl) (.of rfl)) rfl ?_; refine n_t ?_; refine c_d rfl (fun hcd => ?_) (fun _ => by omega); refine s_t ?_; refine tr_seq ?_; refine tr_block ?_; refine tr_seq ?_)
    with_reducible refine tr_draw 30 (by kernel_rfl) ?_
    (refine a_f rfl rfl norm0_ ?_; refine any_val (rk_load1 (.of rfl) (At.lit .here rfl)) rfl ?_; refine a_m rfl rfl ?_; refine any_val (rk_indexAddr (.of rfl) (.of rfl) ha' (by omega) hcd norm1_) rfl ?_; refine any_val (rk_loadN (.of rfl) (Ats.base hcell rfl) rfl) rfl ?_; refine any_call (rk_call (.of rfl) (.cons (.of rfl) .nil) inferInstance normc_) rfl (fun w' hm' => (hec w')) ?_; refine any_val (rk_loadB (.of rfl) .here norm_ (by rfl)) rfl ?_; refine a_f rfl rfl norm0_ ?_; refine any_val (rk_load1 (.of rfl) (At.lit .here rfl)) rfl ?_; refine a_m rfl rfl ?_; refine any_val (rk_indexAddr (.of rfl) (.of rfl) ha' (by omega) hcd norm1_) rfl ?_; refine a_f rfl rfl norm0_ ?_; refine any_val (rk_load1 (.of rfl) (At.base hc0 rfl)) rfl ?_; refine a_m rfl rfl ?_; refine any_call (rk_call (.of rfl) (.cons (.of rfl) (.cons (.of rfl) (.cons (.of rfl) .nil))) inferInstance normc_) rfl (fun w' hm' => (findQ_c _ k (Rd.keeps h1' (Mem.keeps hm')) hk)) ?_; refine any_val (rk_geq (.of rfl) (.of rfl)) rfl ?_; refine any_call (rk_call (.of rfl) (.cons (.of rfl) (.cons (.of rfl) .nil)) inferInstance normc_) rfl (fun w' hm' => (when_q _ 9 w')) ?_; refine a_m rfl rfl ?_; refine any_val (rk_eql (.of rfl) (.of rfl)) rfl ?_; refine a_m rfl rfl ?_; refine any_vG1 rfl rfl inferInstance (fun hg hgp => (rk_fieldAddr (.of rfl) norm0_)) rfl ?_; refine any_vG1 rfl rfl inferInstance (fun hg hgp => (rk_load1 (.ofg hg rfl) (At.lit .here rfl))) rfl ?_; refine any_vG1 rfl rfl inferInstance (fun hg hgp => (rk_move (.of rfl))) rfl ?_; refine any_vG1 rfl rfl inferInstance (fun hg hgp => (rk_indexAddr (.ofg hg rfl) (.ofg hg rfl) ha' (by omega) hcd norm1_)) rfl ?_; refine any_vG1 rfl rfl inferInstance (fun hg hgp => (rk_fieldAddr (.ofg hg rfl) norm0_)) rfl ?_; refine any_vG1 rfl rfl inferInstance (fun hg hgp => (rk_fieldAddr (.ofg hg rfl) norm0_)) rfl ?_; refine any_vG1 rfl rfl inferInstance (fun hg hgp => (rk_load1 (.ofg hg rfl) (At.base hc2 rfl))) rfl ?_; refine any_vG1 rfl rfl inferInstance (fun hg hgp => (rk_eqls (.ofg hg rfl) (.of rfl))) rfl ?_; refine any_val (rk_pick_and (.of rfl) rfl) rfl ?_; refine any_call (rk_call (.of rfl) (.cons (.of rfl) (.cons (.of rfl) .nil)) inferInstance normc_) rfl (fun w' hm' => (when_q _ 22 w')) ?_)
    with_reducible refine any_end ?_
    (refine tr_new (rk_sliceLit (.cons (.of rfl) (.cons (.of rfl) (.cons (.of rfl) .nil))) rfl rfl rfl rfl) rfl (fun _ _ => ?_); refine tr_callV (rk_call (.of rfl) (.cons (.of rfl) .nil) inferInstance normc_) rfl (fun w' hm' => (first_qB (Mem.rdBlk hm' .here rfl rfl) (IntL.cons (IntL.cons (IntL.cons IntL.nil))))) ?_; refine a_s rfl rfl ?_; refine n_r ?_; refine m_v rfl rfl ?_; refine tr_val (rk_neq (.of rfl) (.of rfl)) rfl ?_; refine n_t ?_; refine c_d rfl (fun hcd => ?_) (fun hcd => ?_); refine s_r ?_; refine m_v rfl rfl ?_; refine a_s rfl rfl ?_; refine n_t ?_; refine tr_ret ?_; refine tr_blk_ret ?_; refine tr_then_ret ?_; refine tr_then_ret ?_; refine tr_blk_ret ?_; refine tr_then_ret ?_; refine tr_retE rfl (ends1 rfl rfl) ?_; rotate_left; refine tr_skip ?_; refine tr_blk_normal ?_; refine tr_then ?_; refine tr_region ?_; refine m_v rfl rfl ?_; refine tr_val (rk_add (.of rfl) (.of rfl) (ini (by omega))) rfl ?_; refine a_s rfl rfl ?_; refine n_t ?_; rotate_right)
    · have hne : e1At es k ≠ 0 := by rw [← heq]; exact hcd
      rw [chkF, if_neg (by omega), errE_bad hf hlt hne]
      have : firstF [e1At es k, errE (e2At es) es.length] = e1At es k := by simp [firstF, hne]
      rw [this, ← heq]; rfl
    · have hz : e1At es k = 0 := by rw [← heq]; exact Decidable.not_not.1 hcd
      apply tr_next (k + 1) ⟨by omega, fun i hi => by
        by_cases e : i = k
        · rw [e]; exact hz
        · exact hf i (by omega)⟩ (by omega)
      case hs1 => exact .cons rfl (.cons rfl .nil)
      case ht => (try simp only [List.take_zero, List.map_nil, List.nil_append]); exact .cons (.there .here) .nil
  · obtain rfl : k = es.length := by omega
    have hok : ∀ k, k < es.length → EnOk (nth es k) := fun k hk => (e1_ok (hf k hk)).1
    have hE : chkF es = errE (e2At es) es.length := by
      rw [chkF, if_neg (by omega), errE_ok.2 hf, firstF_0]
    rw [hE]
    (refine tr_seq ?_; refine s_r ?_; refine m_v rfl rfl ?_; refine f_a rfl rfl norm0_ ?_; refine tr_val (rk_load1 (.of rfl) (At.lit .here rfl)) rfl ?_; refine tr_val (rk_len_slice (.of rfl)) rfl ?_; refine tr_val (rk_lss (.of rfl) (.of rfl)) rfl ?_; refine n_t ?_; refine c_d rfl (fun _ => by omega) (fun hcd => ?_); refine x_t ?_; refine tr_then_exit ?_; refine tr_blk_exit ?_; refine tr_then ?_; refine s_r ?_; refine tr_val (rk_loadB (.of rfl) .here norm_ (by rfl)) rfl ?_)
    with_reducible apply tr_call
    case hr => exact rk_call (.of rfl) (.cons (.of rfl) .nil) inferInstance normc_
    case hd => rfl
    case ht => exact Takes.nil
    case hc =>
      intro w1 fp hm1 _ hs1
      obtain rfl : fp = [] := hs1
      exact timesQ_c (h1'.keeps hm1.keeps) hok hfew (fun h0 => (e1_ok (hf 0 h0)).2.2 rfl)
    intro v _
    dsimp only [id_eq, List.cons_append, List.nil_append]
    (refine m_v rfl rfl ?_; refine tr_val (rk_extract (.of rfl) rfl) rfl ?_; refine tr_val (rk_extract (.of rfl) rfl) rfl ?_; refine a_s rfl rfl ?_; refine a_s rfl rfl ?_; refine n_r ?_; refine m_v rfl rfl ?_; refine a_s rfl rfl ?_; refine n_t ?_; refine tr_ret ?_; refine tr_retE rfl (ends1 rfl rfl) ?_)
    rfl
theorem spansQ_c {sv : Value} {es : List En} {w : World} (h1 : Rd w sv 6 (ensL es)) (hs : Sound es) :
    Gives Tryz.prog 26 [.agg #[sv]] w [] (fun _ : Value => True) id (fun v => [row 66 2 v es.length (spV es es.length)]) := by
  have hone := Rd.one h1
  have htq : tqL es = spL es es.length := by rw [tqL, if_pos hs.e2]
  refine gives_of_tr Tryz.func26 rfl rfl ?_
  (refine s_r ?_; refine tr_new (rk_box (.of rfl) rfl) rfl (fun _ _ => ?_); refine a_s rfl rfl ?_; refine n_r ?_; refine tr_val (rk_loadB (.of rfl) .here norm_ (by rfl)) rfl ?_)
  with_reducible apply tr_call
  case hr => exact rk_call (.of rfl) (.cons (.of rfl) .nil) inferInstance normc_
  case hd => rfl
  case ht => exact Takes.nil
  case hc =>
    intro w1 fp hm1 _ hs1
    obtain rfl : fp = [] := hs1
    exact timesQ_c (h1.keeps hm1.keeps) hs.all.ok hs.all.few hs.fol
  intro v _
  rw [htq, spL_length]
  dsimp only [id_eq, List.cons_append, List.nil_append]
  (refine m_v rfl rfl ?_; refine tr_val (rk_extract (.of rfl) rfl) rfl ?_; refine tr_val (rk_extract (.of rfl) rfl) rfl ?_; refine a_s rfl rfl ?_; refine a_s rfl rfl ?_; refine n_r ?_; refine m_v rfl rfl ?_; refine a_s rfl rfl ?_; refine n_t ?_; refine tr_ret ?_)
  first | with_reducible apply tr_retM | with_reducible apply tr_endM
  case he => exact ends1 rfl rfl
  case hR =>
    intro w' hm'
    exact gives_end v trivial (show Takes _ [row 66 2 v es.length ((spL es es.length).flatMap duoV)] _ by exact .cons .here .nil) hm' rfl
theorem frameQ_c (n : Int) (w : World) : GivesV Tryz.prog 25 [.int .i64 n] w (.int .i64 (withinF n 0 10000000)) := by
  refine givesV_of_tr Tryz.func25 rfl rfl ?_
  (refine s_r ?_; refine a_s rfl rfl ?_; refine n_r ?_; refine m_v rfl rfl ?_; refine tr_callV (rk_call (.of rfl) (.cons (.of rfl) (.cons (.of rfl) (.cons (.of rfl) .nil))) inferInstance normc_) rfl (fun w' hm' => (range_q n 0 10000000 w')) ?_; refine a_s rfl rfl ?_; refine n_t ?_; refine tr_ret ?_; refine tr_retE rfl (ends1 rfl rfl) ?_)
  rfl
theorem divQ_c (a b : Int) (w : World) (ha : 0 ≤ a) (hb : 0 ≤ b) (hab : b = 0 → 0 < a) : GivesV Tryz.prog 140 [.int .i64 a, .int .i64 b] w (.int .i64 (gcdF a b)) := by
  refine givesV_of_tr Tryz.func140 rfl rfl ?_
  (refine s_r ?_; refine a_s rfl rfl ?_; refine n_t ?_; refine tr_seq ?_; refine tr_block ?_)
  refine tr_for (ι := Int × Int) (fun x => 0 ≤ x.1 ∧ 0 ≤ x.2 ∧ gcdF x.1 x.2 = gcdF a b ∧ (x.2 = 0 → 0 < x.1)) (fun x => [(0, .int .i64 x.1), (1, .int .i64 x.2)])
    (fun _ => []) (fun x => x.2.toNat) ?_ ?_
  · apply tr_start (a, b) ⟨ha, hb, rfl, hab⟩
    case hs1 => exact .cons rfl (.cons rfl .nil)
    case ht => (try simp only [List.take_zero, List.map_nil, List.nil_append]); exact .nil
  rintro ⟨x, y⟩ ⟨hx, hy, hg, hz⟩
  dsimp only at hx hy hg hz ⊢
  by_cases h0 : y = 0
  · subst h0
    have hxp := hz rfl
    rw [gcdF_zero hx] at hg
    (refine tr_seq ?_; refine s_r ?_; refine m_v rfl rfl ?_; refine tr_val (rk_neq (.of rfl) (.of rfl)) rfl ?_; refine n_t ?_; refine c_d rfl (fun _ => by omega) (fun hcd => ?_); refine x_t ?_; refine tr_then_exit ?_; refine tr_blk_exit ?_; refine tr_then ?_; refine tr_seq ?_; refine s_r ?_; refine m_v rfl rfl ?_; refine tr_val (rk_lss (.of rfl) (.of rfl)) rfl ?_; refine n_t ?_; refine c_d rfl (fun _ => by omega) (fun hcd => ?_); refine s_t ?_; refine s_r ?_; refine m_v rfl rfl ?_; refine a_s rfl rfl ?_; refine n_t ?_; refine tr_ret ?_; refine tr_retE rfl (ends1 rfl rfl) ?_)
    rw [hg]
  · have hm1 := Int.emod_nonneg x h0
    have hm2 := Int.emod_lt_of_pos x (show 0 < y by omega)
    (refine tr_seq ?_; refine s_r ?_; refine m_v rfl rfl ?_; refine tr_val (rk_neq (.of rfl) (.of rfl)) rfl ?_; refine n_t ?_; refine c_d rfl (fun hcd => ?_) (fun _ => by omega); refine s_t ?_; refine tr_block ?_)
    with_reducible refine tr_draw 6 (by kernel_rfl) ?_
    (refine a_m rfl rfl ?_; refine a_m rfl rfl ?_; refine a_m rfl rfl ?_; refine any_val (rk_rem (.of rfl) (.of rfl) hx hcd) rfl ?_; refine any_val (rk_assign (.of rfl)) rfl ?_; refine any_val (rk_assign (.of rfl)) rfl ?_)
    with_reducible refine any_end ?_
    (refine tr_nil ?_; refine tr_blk_normal ?_; refine tr_then ?_)
    apply tr_next (y, x % y) ⟨hy, hm1, by show gcdF y (x % y) = _; rw [gcdF_step hx (by omega), hg], fun _ => by show 0 < y; omega⟩ (by show (x % y).toNat < y.toNat; omega)
    case hs1 => exact .cons rfl (.cons rfl .nil)
    case ht => (try simp only [List.take_zero, List.map_nil, List.nil_append]); exact .nil
theorem lowQ_c (a b : Int) (w : World) (ha : 0 ≤ a) (hb : 0 < b) (ha1 : a ≤ 9223372036854775807) (hb1 : b ≤ 9223372036854775807) : GivesV Tryz.prog 60 [.int .i64 a, .int .i64 b] w (.agg #[.int .i64 (lowF a b).1, .int .i64 (lowF a b).2]) := by
  have hdv := fun w => divQ_c a b w ha (by omega) (by omega)
  have hgp := gcdF_pos (a := a) hb
  refine givesV_of_tr Tryz.func60 rfl rfl ?_
  (refine s_r ?_; refine tr_new (rk_alloc rfl) rfl (fun _ _ => ?_); refine n_t ?_; refine tr_seq ?_; refine s_r ?_; refine m_v rfl rfl ?_; refine tr_val (rk_lss (.of rfl) (.of rfl)) rfl ?_; refine n_t ?_; refine c_d rfl (fun _ => by omega) (fun hcd => ?_); refine s_t ?_; refine s_r ?_; refine m_v rfl rfl ?_; refine m_v rfl rfl ?_; refine tr_callV (rk_call (.of rfl) (.cons (.of rfl) (.cons (.of rfl) .nil)) inferInstance normc_) rfl (fun w' hm' => (hdv w')) ?_; refine a_s rfl rfl ?_; refine n_t ?_; refine tr_seq ?_)
  with_reducible refine tr_draw 7 (by kernel_rfl) ?_
  (refine a_m rfl rfl ?_; refine a_m rfl rfl ?_; refine any_val (rk_quo (.of rfl) (.of rfl) ha ha1 (by omega)) rfl ?_; refine a_m rfl rfl ?_; refine a_m rfl rfl ?_; refine any_val (rk_quo (.of rfl) (.of rfl) (by omega) hb1 (by omega)) rfl ?_; refine any_val (rk_buildL (.cons (.of rfl) (.cons (.of rfl) .nil)) norm_) rfl ?_)
  with_reducible refine any_end ?_
  (refine tr_store (.of rfl) (.of rfl) .here rfl rfl (okc_cons rfl (okc_cons rfl okc_nil)) (lenb rfl) norm_ ?_; refine n_t ?_; refine tr_ret ?_; refine tr_retE rfl (ends1cB rfl inferInstance rfl .here norm_ (by rfl)) ?_)
  rfl
end Go.Proofs.A1


/- S15 -/
namespace Go.Proofs.A1
open Go Go.SL

end Go.Proofs.A1


/- S16 -/
namespace Go.Proofs.A1
open Go Go.SL

def shP (es : List En) (f : Int) (k : Nat) : List (Int × Int × Int) :=
  match onL es f k with
  | [] => []
  | [i] => [((i : Int), 1, 1)]
  | i :: k :: _ => [((i : Int), lowF (to es i - fr es k - (f - fr es k)) (to es i - fr es k + 1)), ((k : Int), lowF (f - fr es k + 1) (to es i - fr es k + 1))]
theorem onAirQ_c {sv : Value} {es : List En} {f : Int} {w : World} (h1 : Rd w sv 6 (ensL es)) (hs : Sound es) (hf0 : 0 ≤ f) (hf1 : f ≤ 10000000) :
    Gives Tryz.prog 28 [.agg #[sv], .int .i64 f] w [] (fun _ : Value => True) id (fun v => [row 185 3 v (shF es f).length ((shF es f).flatMap triV)]) := by
  have hlw := lowQ_c
  have hone := Rd.one h1
  have hfew := hs.all.few
  refine gives_of_tr Tryz.func28 rfl rfl ?_
  (refine s_r ?_; refine tr_new (rk_box (.of rfl) rfl) rfl (fun _ _ => ?_); refine a_s rfl rfl ?_; refine n_r ?_; refine a_s rfl rfl ?_; refine n_r ?_; refine tr_val (rk_loadB (.of rfl) .here norm_ (by rfl)) rfl ?_)
  with_reducible apply tr_call
  case hr => exact rk_call (.of rfl) (.cons (.of rfl) .nil) inferInstance normc_
  case hd => rfl
  case ht => exact Takes.nil
  case hc =>
    intro w1 fp hm1 _ hs1
    obtain rfl : fp = [] := hs1
    exact spansQ_c (h1.keeps hm1.keeps) hs
  intro v0 _
  dsimp only [id_eq, List.cons_append, List.nil_append]
  refine tr_rowNil 185 3 ?_
  by_cases hn0 : 0 < es.length
  · refine tr_rowOpen (E := 66) (sz := 2) (by exact Take.there .here) hn0 fun g cap' cur e hcap' hmx' hsz' hl' => ?_
    subst e
    (refine a_s rfl rfl ?_; refine n_t ?_; refine tr_seq ?_; refine s_r ?_; refine a_s rfl rfl ?_; refine n_t ?_; refine tr_block ?_)
    refine tr_for (ι := Nat × Value) (fun x => x.1 ≤ es.length) (fun x => [(7, .int .i64 x.1), (5, x.2), (6, .slice (some ⟨g, 0, none⟩) es.length cap'), (1, .int .i64 f)])
      (fun x => [row 185 3 x.2 (shP es f x.1).length ((shP es f x.1).flatMap triV), blk g (.cells (spV es es.length ++ cur).toArray 66 (0, 0))]) (fun x => es.length - x.1) ?_ ?_
    · apply tr_start (0, .slice none 0 0) (Nat.zero_le _)
      case hs1 => exact .cons rfl (.cons rfl (.cons rfl (.cons rfl .nil)))
      case ht =>
        show Takes _ [row 185 3 (.slice none 0 0) 0 [], _] _
        exact .cons (.there .here) (.cons .here .nil)
    rintro ⟨n, v⟩ hn
    dsimp only at hn ⊢
    by_cases hlt : n < es.length
    · have q0 : (spV es es.length ++ cur)[n * 2]? = some (.int .i64 (fr es n)) := spV_at (j := 0) (by omega) cur hlt
      have q1 : (spV es es.length ++ cur)[n * 2 + 1]? = some (.int .i64 (to es n)) := spV_at (j := 1) (by omega) cur hlt
      have hnn := hs.fr_nn hlt
      have hsucc := onL_succ (es := es) (f := f) (n := n)
      cases hb : onB es f n with
      | false =>
        rw [hb, if_neg (by decide), List.append_nil] at hsucc
        have hsame : shP es f (n + 1) = shP es f n := by unfold shP; rw [hsucc]
        have hoff : f < fr es n ∨ to es n ≤ f := by
          simp only [onB, Bool.and_eq_false_iff, decide_eq_false_iff_not] at hb
          omega
        (refine tr_seq ?_; refine s_r ?_; refine m_v rfl rfl ?_; refine m_v rfl rfl ?_; refine tr_val (rk_len_slice (.of rfl)) rfl ?_; refine tr_val (rk_lss (.of rfl) (.of rfl)) rfl ?_; refine n_t ?_; refine c_d rfl (fun hcd => ?_) (fun _ => by omega); refine s_t ?_; refine tr_seq ?_; refine tr_block ?_; refine tr_seq ?_; refine s_r ?_; refine m_v rfl rfl ?_; refine m_v rfl rfl ?_; refine m_v rfl rfl ?_; refine tr_val (rk_indexAddr (.of rfl) (.of rfl) rfl (by omega) hcd norm1_) rfl ?_; refine f_a rfl rfl norm0_ ?_; refine tr_val (rk_load1 (.of rfl) (At.blkL (.there .here) q0)) rfl ?_; refine tr_val (rk_lss (.of rfl) (.of rfl)) rfl ?_; refine m_v rfl rfl ?_; refine v_g rfl rfl rfl rfl ?_; refine v_g rfl rfl rfl rfl ?_; refine v_g rfl rfl rfl rfl ?_; refine tr_vG1 rfl rfl inferInstance (fun hg hgp => (rk_indexAddr (.ofg hg rfl) (.ofg hg rfl) rfl (by omega) hcd norm1_)) rfl ?_; refine tr_vG1 rfl rfl inferInstance (fun hg hgp => (rk_fieldAddr (.ofg hg rfl) norm0_)) rfl ?_; refine tr_vG1 rfl rfl inferInstance (fun hg hgp => (rk_load1 (.ofg hg rfl) (At.blkL (.there .here) q1))) rfl ?_; refine tr_vG1 rfl rfl inferInstance (fun hg hgp => (rk_geq (.ofg hg rfl) (.ofg hg rfl))) rfl ?_; refine tr_val (rk_pick_or (.of rfl) rfl) rfl ?_; refine n_t ?_; refine c_b rfl (fun hcd => ?_) (fun _ => by omega); refine x_t ?_; refine tr_blk_exit ?_; refine tr_then ?_; refine tr_region ?_; refine m_v rfl rfl ?_; refine tr_val (rk_add (.of rfl) (.of rfl) (ini (by omega))) rfl ?_; refine a_s rfl rfl ?_; refine n_t ?_)
        apply tr_next (n + 1, v) (by show n + 1 ≤ es.length; omega) (by show es.length - (n + 1) < es.length - n; omega)
        case hs1 => exact .cons rfl (.cons rfl (.cons rfl (.cons rfl .nil)))
        case ht =>
          show Takes _ [row 185 3 v (shP es f (n + 1)).length ((shP es f (n + 1)).flatMap triV), _] _
          rw [hsame]
          exact .cons .here (.cons .here .nil)
      | true =>
        rw [hb, if_pos rfl] at hsucc
        have hon : fr es n ≤ f ∧ f < to es n := by simpa [onB] using hb
        rcases hs.onL f n (by omega) with e | ⟨i, hi1, hi2, e⟩ | ⟨i, hi1, hi2, hi3, e⟩
        · have e0 : shP es f n = [] := by unfold shP; rw [e]
          have e1 : shP es f (n + 1) = [((n : Int), 1, 1)] := by unfold shP; rw [hsucc, e]; rfl
          rw [e0]
          refine tr_rowSl (E := 185) (sz := 3) (by exact .here) fun a' cap2 e' => ?_
          subst e'
          simp only [List.length_nil, List.flatMap_nil]
          (refine tr_seq ?_; refine s_r ?_; refine m_v rfl rfl ?_; refine m_v rfl rfl ?_; refine tr_val (rk_len_slice (.of rfl)) rfl ?_; refine tr_val (rk_lss (.of rfl) (.of rfl)) rfl ?_; refine n_t ?_; refine c_d rfl (fun hcd => ?_) (fun _ => by omega); refine s_t ?_; refine tr_seq ?_; refine tr_block ?_; refine tr_seq ?_; refine s_r ?_; refine m_v rfl rfl ?_; refine m_v rfl rfl ?_; refine m_v rfl rfl ?_; refine tr_val (rk_indexAddr (.of rfl) (.of rfl) rfl (by omega) hcd norm1_) rfl ?_; refine f_a rfl rfl norm0_ ?_; refine tr_val (rk_load1 (.of rfl) (At.blkL (.there .here) q0)) rfl ?_; refine tr_val (rk_lss (.of rfl) (.of rfl)) rfl ?_; refine m_v rfl rfl ?_; refine v_g rfl rfl rfl rfl ?_; refine v_g rfl rfl rfl rfl ?_; refine v_g rfl rfl rfl rfl ?_; refine tr_vG1 rfl rfl inferInstance (fun hg hgp => (rk_indexAddr (.ofg hg rfl) (.ofg hg rfl) rfl (by omega) hcd norm1_)) rfl ?_; refine tr_vG1 rfl rfl inferInstance (fun hg hgp => (rk_fieldAddr (.ofg hg rfl) norm0_)) rfl ?_; refine tr_vG1 rfl rfl inferInstance (fun hg hgp => (rk_load1 (.ofg hg rfl) (At.blkL (.there .here) q1))) rfl ?_; refine tr_vG1 rfl rfl inferInstance (fun hg hgp => (rk_geq (.ofg hg rfl) (.ofg hg rfl))) rfl ?_; refine tr_val (rk_pick_or (.of rfl) rfl) rfl ?_; refine n_t ?_; refine c_b rfl (fun _ => by omega) (fun hcd => ?_); refine s_t ?_; refine tr_seq ?_; refine s_r ?_; refine m_v rfl rfl ?_; refine tr_val (rk_len_slice (.of rfl)) rfl ?_; refine tr_val (rk_eql (.of rfl) (.of rfl)) rfl ?_; refine n_t ?_; refine c_d rfl (fun hcd => ?_) (fun _ => by omega); refine s_r ?_; refine m_v rfl rfl ?_; refine m_v rfl rfl ?_; refine tr_val (rk_buildL (.cons (.of rfl) (.cons (.of rfl) .nil)) norm_) rfl ?_; refine tr_val (rk_buildL (.cons (.of rfl) (.cons (.of rfl) .nil)) norm_) rfl ?_; refine tr_new (rk_sliceLitN (.cons (.of rfl) .nil) rfl rfl normp_ normp_ norm_) rfl (fun _ _ => ?_))
          refine tr_appendB (.of rfl) (.of rfl) (.there .here) .here norm_ (by rfl) (okc_cons rfl (okc_cons rfl (okc_cons rfl okc_nil))) (by rfl) (by rfl) (by rfl) lenx_ (by rfl) ?_
          intro v'
          (refine a_s rfl rfl ?_; refine n_t ?_; refine x_t ?_; refine tr_blk_exit ?_; refine tr_then ?_; refine tr_region ?_; refine m_v rfl rfl ?_; refine tr_val (rk_add (.of rfl) (.of rfl) (ini (by omega))) rfl ?_; refine a_s rfl rfl ?_; refine n_t ?_)
          apply tr_next (n + 1, v') (by show n + 1 ≤ es.length; omega) (by show es.length - (n + 1) < es.length - n; omega)
          case hs1 => exact .cons rfl (.cons rfl (.cons rfl (.cons rfl .nil)))
          case ht =>
            show Takes _ [row 185 3 v' (shP es f (n + 1)).length ((shP es f (n + 1)).flatMap triV), _] _
            rw [e1]
            show Takes _ [row 185 3 v' (0 + 1) ([] ++ [.int .i64 n, .int .i64 1, .int .i64 1]), _] _
            exact .cons .here (.cons (.there .here) .nil)
        · obtain rfl := hs.two (by omega) hlt hi2 hb
          have p0 : (spV es es.length ++ cur)[i * 2]? = some (.int .i64 (fr es i)) := spV_at (j := 0) (by omega) cur (by omega)
          have p1 : cellsAt (spV es es.length ++ cur) (i * 2) 2 = [.int .i64 (fr es i), .int .i64 (to es i)] := by
            have h2 := spV_length es es.length
            have h3 := spV_at (es := es) (i := i) (j := 1) (by omega) cur (show i < es.length by omega)
            rw [cellsAt_eq]
            have hl0 : i * 2 < (spV es es.length ++ cur).length := (List.getElem?_eq_some_iff.1 p0).1
            have hl1 : i * 2 + 1 < (spV es es.length ++ cur).length := (List.getElem?_eq_some_iff.1 h3).1
            rw [List.drop_eq_getElem_cons hl0, List.drop_eq_getElem_cons hl1]
            have g0 := (List.getElem?_eq_some_iff.1 p0).2
            have g1 := (List.getElem?_eq_some_iff.1 h3).2
            simp only [List.take_succ_cons, List.take_zero]
            rw [g0, g1]
          have hni := hs.fr_nn (k := i) (by omega)
          have hnx := hs.next hlt
          simp only [onB, Bool.and_eq_true, decide_eq_true_eq] at hi2
          have hmin : min (to es i) (to es (i + 1)) = to es i := by omega
          have e0 : shP es f (i + 1) = [((i : Int), 1, 1)] := by unfold shP; rw [e]
          have e1 : shP es f (i + 1 + 1) = [((i : Int), lowF (to es i - fr es (i + 1) - (f - fr es (i + 1))) (to es i - fr es (i + 1) + 1)), (((i + 1 : Nat) : Int), lowF (f - fr es (i + 1) + 1) (to es i - fr es (i + 1) + 1))] := by
            unfold shP; rw [hsucc, e]; rfl
          rw [e0]
          refine tr_rowOpen (E := 185) (sz := 3) (by exact .here) (by simp) fun g2 cap2 cur2 e2 hcap2 hmx2 hsz2 hl2 => ?_
          subst e2
          simp only [List.length_cons, List.length_nil, List.flatMap_cons, List.flatMap_nil, triV, List.cons_append, List.nil_append]
          (refine tr_seq ?_; refine s_r ?_; refine m_v rfl rfl ?_; refine m_v rfl rfl ?_; refine tr_val (rk_len_slice (.of rfl)) rfl ?_; refine tr_val (rk_lss (.of rfl) (.of rfl)) rfl ?_; refine n_t ?_; refine c_d rfl (fun hcd => ?_) (fun _ => by omega); refine s_t ?_; refine tr_seq ?_; refine tr_block ?_; refine tr_seq ?_; refine s_r ?_; refine m_v rfl rfl ?_; refine m_v rfl rfl ?_; refine m_v rfl rfl ?_; refine tr_val (rk_indexAddr (.of rfl) (.of rfl) rfl (by omega) hcd norm1_) rfl ?_; refine f_a rfl rfl norm0_ ?_; refine tr_val (rk_load1 (.of rfl) (At.blkL (.there .here) q0)) rfl ?_; refine tr_val (rk_lss (.of rfl) (.of rfl)) rfl ?_; refine m_v rfl rfl ?_; refine v_g rfl rfl rfl rfl ?_; refine v_g rfl rfl rfl rfl ?_; refine v_g rfl rfl rfl rfl ?_; refine tr_vG1 rfl rfl inferInstance (fun hg hgp => (rk_indexAddr (.ofg hg rfl) (.ofg hg rfl) rfl (by omega) hcd norm1_)) rfl ?_; refine tr_vG1 rfl rfl inferInstance (fun hg hgp => (rk_fieldAddr (.ofg hg rfl) norm0_)) rfl ?_; refine tr_vG1 rfl rfl inferInstance (fun hg hgp => (rk_load1 (.ofg hg rfl) (At.blkL (.there .here) q1))) rfl ?_; refine tr_vG1 rfl rfl inferInstance (fun hg hgp => (rk_geq (.ofg hg rfl) (.ofg hg rfl))) rfl ?_; refine tr_val (rk_pick_or (.of rfl) rfl) rfl ?_; refine n_t ?_; refine c_b rfl (fun _ => by omega) (fun hcd => ?_); refine s_t ?_; refine tr_seq ?_; refine s_r ?_; refine m_v rfl rfl ?_; refine tr_val (rk_len_slice (.of rfl)) rfl ?_; refine tr_val (rk_eql (.of rfl) (.of rfl)) rfl ?_; refine n_t ?_; refine c_d rfl (fun _ => by omega) (fun hcd => ?_); refine s_t ?_; refine s_r ?_; refine m_v rfl rfl ?_; refine m_v rfl rfl ?_; refine tr_val (rk_indexAddr (.of rfl) (.of rfl) rfl (by omega) (by omega) norm1_) rfl ?_; refine f_a rfl rfl norm0_ ?_; refine tr_val (rk_load1 (.of rfl) (At.lit .here rfl)) rfl ?_; refine tr_val (rk_indexAddr (.of rfl) (.of rfl) rfl (by omega) (by omega) norm1_) rfl ?_; refine tr_val (rk_loadB (.of rfl) (.there .here) p1 rfl) rfl ?_; refine tr_new (rk_alloc rfl) rfl (fun _ _ => ?_); refine tr_store (.of rfl) (.of rfl) .here rfl rfl (okc_cons rfl (okc_cons rfl okc_nil)) (lenb rfl) norm_ ?_; refine n_t ?_; refine tr_seq ?_)
          with_reducible refine tr_draw 15 (by kernel_rfl) ?_
          (refine a_f rfl rfl norm0_ ?_; refine any_val (rk_load1 (.of rfl) (At.lit .here rfl)) rfl ?_; refine a_m rfl rfl ?_; refine a_m rfl rfl ?_; refine any_val (rk_indexAddr (.of rfl) (.of rfl) rfl (by omega) (by assumption) norm1_) rfl ?_; refine a_f rfl rfl norm0_ ?_; refine any_val (rk_load1 (.of rfl) (At.blkL (.there (.there .here)) q1)) rfl ?_; refine any_val (rk_min2 (.of rfl) (.of rfl)) rfl ?_; refine a_m rfl rfl ?_; refine a_m rfl rfl ?_; refine any_val (rk_indexAddr (.of rfl) (.of rfl) rfl (by omega) (by assumption) norm1_) rfl ?_; refine a_f rfl rfl norm0_ ?_; refine any_val (rk_load1 (.of rfl) (At.blkL (.there (.there .here)) q0)) rfl ?_; refine any_val (rk_sub (.of rfl) (.of rfl) (ini (by omega))) rfl ?_; refine any_val (rk_assign (.of rfl)) rfl ?_)
          rw [hmin]
          with_reducible refine any_end ?_
          (refine n_r ?_; refine m_v rfl rfl ?_; refine m_v rfl rfl ?_; refine m_v rfl rfl ?_; refine tr_val (rk_indexAddr (.of rfl) (.of rfl) rfl (by omega) (by assumption) norm1_) rfl ?_; refine f_a rfl rfl norm0_ ?_; refine tr_val (rk_load1 (.of rfl) (At.blkL (.there (.there .here)) q0)) rfl ?_; refine tr_val (rk_sub (.of rfl) (.of rfl) (ini (by omega))) rfl ?_; refine a_s rfl rfl ?_; refine n_r ?_; refine m_v rfl rfl ?_; refine m_v rfl rfl ?_; refine m_v rfl rfl ?_; refine tr_val (rk_sub (.of rfl) (.of rfl) (ini (by omega))) rfl ?_; refine m_v rfl rfl ?_; refine tr_val (rk_add (.of rfl) (.of rfl) (ini (by omega))) rfl ?_; refine tr_callV (rk_call (.of rfl) (.cons (.of rfl) (.cons (.of rfl) .nil)) inferInstance normc_) rfl (fun w' hm' => (hlw _ _ w' (by omega) (by omega) (by omega) (by omega))) ?_; refine tr_val (rk_indexAddr (.of rfl) (.of rfl) rfl (by omega) (by omega) norm1_) rfl ?_; refine f_a rfl rfl norm0_ ?_; refine tr_store (.of rfl) (.of rfl) (.there .here) rfl rfl (okc_cons rfl (okc_cons rfl okc_nil)) (lenb rfl) norm_ ?_; refine n_t ?_; refine tr_region ?_; refine m_v rfl rfl ?_; refine m_v rfl rfl ?_; refine m_v rfl rfl ?_; refine tr_val (rk_add (.of rfl) (.of rfl) (ini (by omega))) rfl ?_; refine m_v rfl rfl ?_; refine tr_val (rk_add (.of rfl) (.of rfl) (ini (by omega))) rfl ?_; refine tr_callV (rk_call (.of rfl) (.cons (.of rfl) (.cons (.of rfl) .nil)) inferInstance normc_) rfl (fun w' hm' => (hlw _ _ w' (by omega) (by omega) (by omega) (by omega))) ?_; refine tr_val (rk_buildL (.cons (.of rfl) (.cons (.of rfl) .nil)) norm_) rfl ?_; refine tr_new (rk_sliceLitN (.cons (.of rfl) .nil) rfl rfl normp_ normp_ norm_) rfl (fun _ _ => ?_))
          refine tr_rowShut (E := 185) (sz := 3) (g := g2) (n := 0 + 1) (cap := cap2) (xs := [.int .i64 i, .int .i64 (lowF (to es i - fr es (i + 1) - (f - fr es (i + 1))) (to es i - fr es (i + 1) + 1)).1, .int .i64 (lowF (to es i - fr es (i + 1) - (f - fr es (i + 1))) (to es i - fr es (i + 1) + 1)).2]) (cur := cur2) (.there .here) hcap2 hmx2 (by simpa [triV] using hsz2) rfl ?_
          refine tr_appendB (.of rfl) (.of rfl) .here (.there .here) norm_ (by rfl) (okc_cons rfl (okc_cons rfl (okc_cons rfl okc_nil))) (by rfl) (by rfl) (by rfl) lenx_ (by rfl) ?_
          intro v'
          (refine a_s rfl rfl ?_; refine tr_nil ?_; refine tr_blk_normal ?_; refine tr_then ?_; refine tr_region ?_; refine m_v rfl rfl ?_; refine tr_val (rk_add (.of rfl) (.of rfl) (ini (by omega))) rfl ?_; refine a_s rfl rfl ?_; refine n_t ?_)
          apply tr_next (i + 1 + 1, v') (by show i + 1 + 1 ≤ es.length; omega) (by show es.length - (i + 1 + 1) < es.length - (i + 1); omega)
          case hs1 => exact .cons rfl (.cons rfl (.cons rfl (.cons rfl .nil)))
          case ht =>
            show Takes _ [row 185 3 v' (shP es f (i + 1 + 1)).length ((shP es f (i + 1 + 1)).flatMap triV), _] _
            rw [e1]
            show Takes _ [row 185 3 v' (0 + 1 + 1) ([.int .i64 i, .int .i64 (lowF (to es i - fr es (i + 1) - (f - fr es (i + 1))) (to es i - fr es (i + 1) + 1)).1, .int .i64 (lowF (to es i - fr es (i + 1) - (f - fr es (i + 1))) (to es i - fr es (i + 1) + 1)).2] ++ [.int .i64 ((i + 1 : Nat) : Int), .int .i64 (lowF (f - fr es (i + 1) + 1) (to es i - fr es (i + 1) + 1)).1, .int .i64 (lowF (f - fr es (i + 1) + 1) (to es i - fr es (i + 1) + 1)).2]), _] _
            exact .cons .here (.cons (.there (.there .here)) .nil)
        · have := hs.two (i := i) (k := n) (by omega) hlt hi2 hb
          omega
    · obtain rfl : n = es.length := by omega
      (refine tr_seq ?_; refine s_r ?_; refine m_v rfl rfl ?_; refine m_v rfl rfl ?_; refine tr_val (rk_len_slice (.of rfl)) rfl ?_; refine tr_val (rk_lss (.of rfl) (.of rfl)) rfl ?_; refine n_t ?_; refine c_d rfl (fun _ => by omega) (fun hcd => ?_); refine x_t ?_; refine tr_then_exit ?_; refine tr_blk_exit ?_; refine tr_then ?_; refine s_r ?_; refine m_v rfl rfl ?_; refine a_s rfl rfl ?_; refine n_t ?_; refine tr_ret ?_)
      first | with_reducible apply tr_retM | with_reducible apply tr_endM
      case he => exact ends1 rfl rfl
      case hR =>
        intro w' hm'
        exact gives_end v trivial (show Takes _ [row 185 3 v (shP es f es.length).length ((shP es f es.length).flatMap triV)] _ by exact .cons .here .nil) hm' rfl
  · have e0 : es.length = 0 := by omega
    have hsh : shF es f = [] := by unfold shF; rw [e0]; rfl
    rw [e0, hsh]
    refine tr_rowSl (E := 66) (sz := 2) (by exact Take.there .here) fun a' cap' e' => ?_
    subst e'
    (refine a_s rfl rfl ?_; refine n_t ?_; refine tr_seq ?_; refine s_r ?_; refine a_s rfl rfl ?_; refine n_t ?_; refine tr_block ?_)
    refine tr_for (ι := Unit) (fun _ => True) (fun _ => [(7, .int .i64 0), (5, .slice none 0 0), (6, .slice a' 0 cap')])
      (fun _ => [row 185 3 (.slice none 0 0) 0 []]) (fun _ => 0) ?_ ?_
    · apply tr_start () trivial
      case hs1 => exact .cons rfl (.cons rfl (.cons rfl .nil))
      case ht => exact .cons .here .nil
    rintro ⟨⟩ _
    (refine tr_seq ?_; refine s_r ?_; refine m_v rfl rfl ?_; refine m_v rfl rfl ?_; refine tr_val (rk_len_slice (.of rfl)) rfl ?_; refine tr_val (rk_lss (.of rfl) (.of rfl)) rfl ?_; refine n_t ?_; refine c_d rfl (fun _ => by omega) (fun hcd => ?_); refine x_t ?_; refine tr_then_exit ?_; refine tr_blk_exit ?_; refine tr_then ?_; refine s_r ?_; refine m_v rfl rfl ?_; refine a_s rfl rfl ?_; refine n_t ?_; refine tr_ret ?_)
    first | with_reducible apply tr_retM | with_reducible apply tr_endM
    case he => exact ends1 rfl rfl
    case hR =>
      intro w' hm'
      exact gives_end (.slice none 0 0) trivial (show Takes _ [row 185 3 (.slice none 0 0) 0 []] _ by exact .cons .here .nil) hm' rfl
end Go.Proofs.A1


/- S17 -/
namespace Go.Proofs.A1
open Go Go.SL

theorem lenV {α β : Type} (f : α → β) (l : List α) : (l.map f).length = l.length := List.length_map f
def oneV (n : Int) : List Value := [.int .i64 n]
theorem sameGaps_c {v1 v2 : Value} {l1 l2 : List (Int × Int × Int)} {w : World} (h1 : Rd w v1 3 (l1.map triV)) (h2 : Rd w v2 3 (l2.map triV)) : GivesV Tryz.prog 31 [v1, v2] w (.bool (decide (l1 = l2))) := by
  obtain ⟨a, cap, b, o, rfl, hcap, hmax, ha, hc⟩ := h1
  obtain ⟨a2, cap2, b2, o2, rfl, hcap2, hmax2, ha2, hc2⟩ := h2
  rw [lenV triV l1] at *
  rw [lenV triV l2] at *
  unfold maxLen at hmax hmax2
  refine givesV_of_tr Tryz.func31 rfl rfl ?_
  (refine s_r ?_; refine a_s rfl rfl ?_; refine n_t ?_; refine tr_seq ?_; refine s_r ?_; refine m_v rfl rfl ?_; refine tr_val (rk_len_slice (.of rfl)) rfl ?_; refine m_v rfl rfl ?_; refine tr_val (rk_len_slice (.of rfl)) rfl ?_; refine tr_val (rk_neq (.of rfl) (.of rfl)) rfl ?_; refine n_t ?_; refine c_d rfl (fun hcd => ?_) (fun hcd => ?_); refine s_r ?_; refine a_s rfl rfl ?_; refine n_t ?_; refine r_t ?_; refine tr_retE rfl (ends1 rfl rfl) ?_; rotate_left; refine s_t ?_; refine tr_seq ?_; refine s_r ?_; refine a_s rfl rfl ?_; refine n_t ?_; refine tr_block ?_; rotate_right)
  · rw [decide_eq_false (fun e => hcd (by rw [e]))]
  have hlen : l1.length = l2.length := by omega
  refine tr_for (fun k : Nat => k ≤ l1.length ∧ ∀ i, i < k → l1[i]? = l2[i]?) (fun k => [(5, .int .i64 k), (0, .slice a l1.length cap), (1, .slice a2 l2.length cap2)]) (fun _ => []) (fun k => l1.length - k) ?_ ?_
  · apply tr_start 0 ⟨Nat.zero_le _, fun i h => by omega⟩
    case hs1 => exact .cons rfl (.cons rfl (.cons rfl .nil))
    case ht => (try simp only [List.take_zero, List.map_nil, List.nil_append]); exact .nil
  rintro k ⟨hk, hf⟩
  by_cases hlt : k < l1.length
  · have hlt2 : k < l2.length := by omega
    have ha' := ha (by intro e; rw [List.map_eq_nil_iff] at e; subst e; simp at hlt)
    have ha2' := ha2 (by intro e; rw [List.map_eq_nil_iff] at e; subst e; simp at hlt2)
    have hcell := (hc k (triV l1[k]) (by rw [List.getElem?_map, List.getElem?_eq_getElem hlt]; rfl)).2
    have hcell2 := (hc2 k (triV l2[k]) (by rw [List.getElem?_map, List.getElem?_eq_getElem hlt2]; rfl)).2
    generalize hx : l1[k] = x at hcell
    generalize hy : l2[k] = y at hcell2
    obtain ⟨x0, x1, x2⟩ := x
    obtain ⟨y0, y1, y2⟩ := y
    unfold triV at hcell hcell2
    try dsimp only at hcell hcell2
    (refine tr_seq ?_; refine s_r ?_; refine m_v rfl rfl ?_; refine m_v rfl rfl ?_; refine tr_val (rk_len_slice (.of rfl)) rfl ?_; refine tr_val (rk_lss (.of rfl) (.of rfl)) rfl ?_; refine n_t ?_; refine c_d rfl (fun hcd => ?_) (fun _ => by omega); refine s_t ?_; refine tr_seq ?_; refine tr_block ?_; refine tr_seq ?_)
    with_reducible refine tr_draw 9 (by kernel_rfl) ?_
    (refine a_m rfl rfl ?_; refine a_m rfl rfl ?_; refine any_val (rk_indexAddr (.of rfl) (.of rfl) ha' (by omega) hcd norm1_) rfl ?_; refine any_val (rk_loadN (.of rfl) (Ats.base hcell rfl) rfl) rfl ?_; refine a_m rfl rfl ?_; refine a_m rfl rfl ?_; refine any_val (rk_indexAddr (.of rfl) (.of rfl) ha2' (by omega) (by omega) norm1_) rfl ?_; refine any_val (rk_loadN (.of rfl) (Ats.base hcell2 rfl) rfl) rfl ?_; refine any_val (rk_neqA (.of rfl) (.of rfl) (okL_int (okL_int (okL_int okL_nil))) rfl) rfl ?_)
    with_reducible refine any_end ?_
    (refine n_t ?_; refine c_b rfl (fun hcd => ?_) (fun hcd => ?_); refine s_r ?_; refine a_s rfl rfl ?_; refine n_t ?_; refine tr_ret ?_; refine tr_blk_ret ?_; refine tr_then_ret ?_; refine tr_then_ret ?_; refine tr_blk_ret ?_; refine tr_then_ret ?_; refine tr_retE rfl (ends1 rfl rfl) ?_; rotate_left; refine tr_skip ?_; refine tr_blk_normal ?_; refine tr_then ?_; refine tr_region ?_; refine m_v rfl rfl ?_; refine tr_val (rk_add (.of rfl) (.of rfl) (ini (by omega))) rfl ?_; refine a_s rfl rfl ?_; refine n_t ?_; rotate_right)
    · have hne : ¬ l1 = l2 := by
        intro e
        subst e
        rw [hx] at hy
        cases hy
        simp at hcd
      rw [decide_eq_false hne]
    · have heq : l1[k]? = l2[k]? := by
        rw [List.getElem?_eq_getElem hlt, List.getElem?_eq_getElem hlt2, hx, hy]
        simp at hcd
        simp [hcd]
      apply tr_next (k + 1) ⟨by omega, fun i hi => by
        by_cases e : i = k
        · rw [e]; exact heq
        · exact hf i (by omega)⟩ (by omega)
      case hs1 => exact .cons rfl (.cons rfl (.cons rfl .nil))
      case ht => (try simp only [List.take_zero, List.map_nil, List.nil_append]); exact .nil
  · obtain rfl : k = l1.length := by omega
    (refine tr_seq ?_; refine s_r ?_; refine m_v rfl rfl ?_; refine m_v rfl rfl ?_; refine tr_val (rk_len_slice (.of rfl)) rfl ?_; refine tr_val (rk_lss (.of rfl) (.of rfl)) rfl ?_; refine n_t ?_; refine c_d rfl (fun _ => by omega) (fun hcd => ?_); refine x_t ?_; refine tr_then_exit ?_; refine tr_blk_exit ?_; refine tr_then ?_; refine s_r ?_; refine a_s rfl rfl ?_; refine n_t ?_; refine tr_ret ?_; refine tr_retE rfl (ends1 rfl rfl) ?_)
    have : l1 = l2 := List.ext_getElem? fun i => by
      by_cases hi : i < l1.length
      · exact hf i hi
      · rw [List.getElem?_eq_none (by omega), List.getElem?_eq_none (by omega)]
    rw [decide_eq_true this]

theorem sameShares_c {v1 v2 : Value} {l1 l2 : List (Int × Int × Int)} {w : World} (h1 : Rd w v1 3 (l1.map triV)) (h2 : Rd w v2 3 (l2.map triV)) : GivesV Tryz.prog 33 [v1, v2] w (.bool (decide (l1 = l2))) := by
  obtain ⟨a, cap, b, o, rfl, hcap, hmax, ha, hc⟩ := h1
  obtain ⟨a2, cap2, b2, o2, rfl, hcap2, hmax2, ha2, hc2⟩ := h2
  rw [lenV triV l1] at *
  rw [lenV triV l2] at *
  unfold maxLen at hmax hmax2
  refine givesV_of_tr Tryz.func33 rfl rfl ?_
  (refine s_r ?_; refine a_s rfl rfl ?_; refine n_t ?_; refine tr_seq ?_; refine s_r ?_; refine m_v rfl rfl ?_; refine tr_val (rk_len_slice (.of rfl)) rfl ?_; refine m_v rfl rfl ?_; refine tr_val (rk_len_slice (.of rfl)) rfl ?_; refine tr_val (rk_neq (.of rfl) (.of rfl)) rfl ?_; refine n_t ?_; refine c_d rfl (fun hcd => ?_) (fun hcd => ?_); refine s_r ?_; refine a_s rfl rfl ?_; refine n_t ?_; refine r_t ?_; refine tr_retE rfl (ends1 rfl rfl) ?_; rotate_left; refine s_t ?_; refine tr_seq ?_; refine s_r ?_; refine a_s rfl rfl ?_; refine n_t ?_; refine tr_block ?_; rotate_right)
  · rw [decide_eq_false (fun e => hcd (by rw [e]))]
  have hlen : l1.length = l2.length := by omega
  refine tr_for (fun k : Nat => k ≤ l1.length ∧ ∀ i, i < k → l1[i]? = l2[i]?) (fun k => [(5, .int .i64 k), (0, .slice a l1.length cap), (1, .slice a2 l2.length cap2)]) (fun _ => []) (fun k => l1.length - k) ?_ ?_
  · apply tr_start 0 ⟨Nat.zero_le _, fun i h => by omega⟩
    case hs1 => exact .cons rfl (.cons rfl (.cons rfl .nil))
    case ht => (try simp only [List.take_zero, List.map_nil, List.nil_append]); exact .nil
  rintro k ⟨hk, hf⟩
  by_cases hlt : k < l1.length
  · have hlt2 : k < l2.length := by omega
    have ha' := ha (by intro e; rw [List.map_eq_nil_iff] at e; subst e; simp at hlt)
    have ha2' := ha2 (by intro e; rw [List.map_eq_nil_iff] at e; subst e; simp at hlt2)
    have hcell := (hc k (triV l1[k]) (by rw [List.getElem?_map, List.getElem?_eq_getElem hlt]; rfl)).2
    have hcell2 := (hc2 k (triV l2[k]) (by rw [List.getElem?_map, List.getElem?_eq_getElem hlt2]; rfl)).2
    generalize hx : l1[k] = x at hcell
    generalize hy : l2[k] = y at hcell2
    obtain ⟨x0, x1, x2⟩ := x
    obtain ⟨y0, y1, y2⟩ := y
    unfold triV at hcell hcell2
    try dsimp only at hcell hcell2
    (refine tr_seq ?_; refine s_r ?_; refine m_v rfl rfl ?_; refine m_v rfl rfl ?_; refine tr_val (rk_len_slice (.of rfl)) rfl ?_; refine tr_val (rk_lss (.of rfl) (.of rfl)) rfl ?_; refine n_t ?_; refine c_d rfl (fun hcd => ?_) (fun _ => by omega); refine s_t ?_; refine tr_seq ?_; refine tr_block ?_; refine tr_seq ?_)
    with_reducible refine tr_draw 9 (by kernel_rfl) ?_
    (refine a_m rfl rfl ?_; refine a_m rfl rfl ?_; refine any_val (rk_indexAddr (.of rfl) (.of rfl) ha' (by omega) hcd norm1_) rfl ?_; refine any_val (rk_loadN (.of rfl) (Ats.base hcell rfl) rfl) rfl ?_; refine a_m rfl rfl ?_; refine a_m rfl rfl ?_; refine any_val (rk_indexAddr (.of rfl) (.of rfl) ha2' (by omega) (by omega) norm1_) rfl ?_; refine any_val (rk_loadN (.of rfl) (Ats.base hcell2 rfl) rfl) rfl ?_; refine any_val (rk_neqA (.of rfl) (.of rfl) (okL_int (okL_int (okL_int okL_nil))) rfl) rfl ?_)
    with_reducible refine any_end ?_
    (refine n_t ?_; refine c_b rfl (fun hcd => ?_) (fun hcd => ?_); refine s_r ?_; refine a_s rfl rfl ?_; refine n_t ?_; refine tr_ret ?_; refine tr_blk_ret ?_; refine tr_then_ret ?_; refine tr_then_ret ?_; refine tr_blk_ret ?_; refine tr_then_ret ?_; refine tr_retE rfl (ends1 rfl rfl) ?_; rotate_left; refine tr_skip ?_; refine tr_blk_normal ?_; refine tr_then ?_; refine tr_region ?_; refine m_v rfl rfl ?_; refine tr_val (rk_add (.of rfl) (.of rfl) (ini (by omega))) rfl ?_; refine a_s rfl rfl ?_; refine n_t ?_; rotate_right)
    · have hne : ¬ l1 = l2 := by
        intro e
        subst e
        rw [hx] at hy
        cases hy
        simp at hcd
      rw [decide_eq_false hne]
    · have heq : l1[k]? = l2[k]? := by
        rw [List.getElem?_eq_getElem hlt, List.getElem?_eq_getElem hlt2, hx, hy]
        simp at hcd
        simp [hcd]
      apply tr_next (k + 1) ⟨by omega, fun i hi => by
        by_cases e : i = k
        · rw [e]; exact heq
        · exact hf i (by omega)⟩ (by omega)
      case hs1 => exact .cons rfl (.cons rfl (.cons rfl .nil))
      case ht => (try simp only [List.take_zero, List.map_nil, List.nil_append]); exact .nil
  · obtain rfl : k = l1.length := by omega
    (refine tr_seq ?_; refine s_r ?_; refine m_v rfl rfl ?_; refine m_v rfl rfl ?_; refine tr_val (rk_len_slice (.of rfl)) rfl ?_; refine tr_val (rk_lss (.of rfl) (.of rfl)) rfl ?_; refine n_t ?_; refine c_d rfl (fun _ => by omega) (fun hcd => ?_); refine x_t ?_; refine tr_then_exit ?_; refine tr_blk_exit ?_; refine tr_then ?_; refine s_r ?_; refine a_s rfl rfl ?_; refine n_t ?_; refine tr_ret ?_; refine tr_retE rfl (ends1 rfl rfl) ?_)
    have : l1 = l2 := List.ext_getElem? fun i => by
      by_cases hi : i < l1.length
      · exact hf i hi
      · rw [List.getElem?_eq_none (by omega), List.getElem?_eq_none (by omega)]
    rw [decide_eq_true this]

theorem sameSpans_c {v1 v2 : Value} {l1 l2 : List (Int × Int)} {w : World} (h1 : Rd w v1 2 (l1.map duoV)) (h2 : Rd w v2 2 (l2.map duoV)) : GivesV Tryz.prog 96 [v1, v2] w (.bool (decide (l1 = l2))) := by
  obtain ⟨a, cap, b, o, rfl, hcap, hmax, ha, hc⟩ := h1
  obtain ⟨a2, cap2, b2, o2, rfl, hcap2, hmax2, ha2, hc2⟩ := h2
  rw [lenV duoV l1] at *
  rw [lenV duoV l2] at *
  unfold maxLen at hmax hmax2
  refine givesV_of_tr Tryz.func96 rfl rfl ?_
  (refine s_r ?_; refine a_s rfl rfl ?_; refine n_t ?_; refine tr_seq ?_; refine s_r ?_; refine m_v rfl rfl ?_; refine tr_val (rk_len_slice (.of rfl)) rfl ?_; refine m_v rfl rfl ?_; refine tr_val (rk_len_slice (.of rfl)) rfl ?_; refine tr_val (rk_neq (.of rfl) (.of rfl)) rfl ?_; refine n_t ?_; refine c_d rfl (fun hcd => ?_) (fun hcd => ?_); refine s_r ?_; refine a_s rfl rfl ?_; refine n_t ?_; refine r_t ?_; refine tr_retE rfl (ends1 rfl rfl) ?_; rotate_left; refine s_t ?_; refine tr_seq ?_; refine s_r ?_; refine a_s rfl rfl ?_; refine n_t ?_; refine tr_block ?_; rotate_right)
  · rw [decide_eq_false (fun e => hcd (by rw [e]))]
  have hlen : l1.length = l2.length := by omega
  refine tr_for (fun k : Nat => k ≤ l1.length ∧ ∀ i, i < k → l1[i]? = l2[i]?) (fun k => [(5, .int .i64 k), (0, .slice a l1.length cap), (1, .slice a2 l2.length cap2)]) (fun _ => []) (fun k => l1.length - k) ?_ ?_
  · apply tr_start 0 ⟨Nat.zero_le _, fun i h => by omega⟩
    case hs1 => exact .cons rfl (.cons rfl (.cons rfl .nil))
    case ht => (try simp only [List.take_zero, List.map_nil, List.nil_append]); exact .nil
  rintro k ⟨hk, hf⟩
  by_cases hlt : k < l1.length
  · have hlt2 : k < l2.length := by omega
    have ha' := ha (by intro e; rw [List.map_eq_nil_iff] at e; subst e; simp at hlt)
    have ha2' := ha2 (by intro e; rw [List.map_eq_nil_iff] at e; subst e; simp at hlt2)
    have hcell := (hc k (duoV l1[k]) (by rw [List.getElem?_map, List.getElem?_eq_getElem hlt]; rfl)).2
    have hcell2 := (hc2 k (duoV l2[k]) (by rw [List.getElem?_map, List.getElem?_eq_getElem hlt2]; rfl)).2
    generalize hx : l1[k] = x at hcell
    generalize hy : l2[k] = y at hcell2
    obtain ⟨x0, x1⟩ := x
    obtain ⟨y0, y1⟩ := y
    unfold duoV at hcell hcell2
    try dsimp only at hcell hcell2
    (refine tr_seq ?_; refine s_r ?_; refine m_v rfl rfl ?_; refine m_v rfl rfl ?_; refine tr_val (rk_len_slice (.of rfl)) rfl ?_; refine tr_val (rk_lss (.of rfl) (.of rfl)) rfl ?_; refine n_t ?_; refine c_d rfl (fun hcd => ?_) (fun _ => by omega); refine s_t ?_; refine tr_seq ?_; refine tr_block ?_; refine tr_seq ?_)
    with_reducible refine tr_draw 9 (by kernel_rfl) ?_
    (refine a_m rfl rfl ?_; refine a_m rfl rfl ?_; refine any_val (rk_indexAddr (.of rfl) (.of rfl) ha' (by omega) hcd norm1_) rfl ?_; refine any_val (rk_loadN (.of rfl) (Ats.base hcell rfl) rfl) rfl ?_; refine a_m rfl rfl ?_; refine a_m rfl rfl ?_; refine any_val (rk_indexAddr (.of rfl) (.of rfl) ha2' (by omega) (by omega) norm1_) rfl ?_; refine any_val (rk_loadN (.of rfl) (Ats.base hcell2 rfl) rfl) rfl ?_; refine any_val (rk_neqA (.of rfl) (.of rfl) (okL_int (okL_int okL_nil)) rfl) rfl ?_)
    with_reducible refine any_end ?_
    (refine n_t ?_; refine c_b rfl (fun hcd => ?_) (fun hcd => ?_); refine s_r ?_; refine a_s rfl rfl ?_; refine n_t ?_; refine tr_ret ?_; refine tr_blk_ret ?_; refine tr_then_ret ?_; refine tr_then_ret ?_; refine tr_blk_ret ?_; refine tr_then_ret ?_; refine tr_retE rfl (ends1 rfl rfl) ?_; rotate_left; refine tr_skip ?_; refine tr_blk_normal ?_; refine tr_then ?_; refine tr_region ?_; refine m_v rfl rfl ?_; refine tr_val (rk_add (.of rfl) (.of rfl) (ini (by omega))) rfl ?_; refine a_s rfl rfl ?_; refine n_t ?_; rotate_right)
    · have hne : ¬ l1 = l2 := by
        intro e
        subst e
        rw [hx] at hy
        cases hy
        simp at hcd
      rw [decide_eq_false hne]
    · have heq : l1[k]? = l2[k]? := by
        rw [List.getElem?_eq_getElem hlt, List.getElem?_eq_getElem hlt2, hx, hy]
        simp at hcd
        simp [hcd]
      apply tr_next (k + 1) ⟨by omega, fun i hi => by
        by_cases e : i = k
        · rw [e]; exact heq
        · exact hf i (by omega)⟩ (by omega)
      case hs1 => exact .cons rfl (.cons rfl (.cons rfl .nil))
      case ht => (try simp only [List.take_zero, List.map_nil, List.nil_append]); exact .nil
  · obtain rfl : k = l1.length := by omega
    (refine tr_seq ?_; refine s_r ?_; refine m_v rfl rfl ?_; refine m_v rfl rfl ?_; refine tr_val (rk_len_slice (.of rfl)) rfl ?_; refine tr_val (rk_lss (.of rfl) (.of rfl)) rfl ?_; refine n_t ?_; refine c_d rfl (fun _ => by omega) (fun hcd => ?_); refine x_t ?_; refine tr_then_exit ?_; refine tr_blk_exit ?_; refine tr_then ?_; refine s_r ?_; refine a_s rfl rfl ?_; refine n_t ?_; refine tr_ret ?_; refine tr_retE rfl (ends1 rfl rfl) ?_)
    have : l1 = l2 := List.ext_getElem? fun i => by
      by_cases hi : i < l1.length
      · exact hf i hi
      · rw [List.getElem?_eq_none (by omega), List.getElem?_eq_none (by omega)]
    rw [decide_eq_true this]

theorem sameInts_c {v1 v2 : Value} {l1 l2 : List (Int)} {w : World} (h1 : Rd w v1 1 (l1.map oneV)) (h2 : Rd w v2 1 (l2.map oneV)) : GivesV Tryz.prog 97 [v1, v2] w (.bool (decide (l1 = l2))) := by
  obtain ⟨a, cap, b, o, rfl, hcap, hmax, ha, hc⟩ := h1
  obtain ⟨a2, cap2, b2, o2, rfl, hcap2, hmax2, ha2, hc2⟩ := h2
  rw [lenV oneV l1] at *
  rw [lenV oneV l2] at *
  unfold maxLen at hmax hmax2
  refine givesV_of_tr Tryz.func97 rfl rfl ?_
  (refine s_r ?_; refine a_s rfl rfl ?_; refine n_t ?_; refine tr_seq ?_; refine s_r ?_; refine m_v rfl rfl ?_; refine tr_val (rk_len_slice (.of rfl)) rfl ?_; refine m_v rfl rfl ?_; refine tr_val (rk_len_slice (.of rfl)) rfl ?_; refine tr_val (rk_neq (.of rfl) (.of rfl)) rfl ?_; refine n_t ?_; refine c_d rfl (fun hcd => ?_) (fun hcd => ?_); refine s_r ?_; refine a_s rfl rfl ?_; refine n_t ?_; refine r_t ?_; refine tr_retE rfl (ends1 rfl rfl) ?_; rotate_left; refine s_t ?_; refine tr_seq ?_; refine s_r ?_; refine a_s rfl rfl ?_; refine n_t ?_; refine tr_block ?_; rotate_right)
  · rw [decide_eq_false (fun e => hcd (by rw [e]))]
  have hlen : l1.length = l2.length := by omega
  refine tr_for (fun k : Nat => k ≤ l1.length ∧ ∀ i, i < k → l1[i]? = l2[i]?) (fun k => [(5, .int .i64 k), (0, .slice a l1.length cap), (1, .slice a2 l2.length cap2)]) (fun _ => []) (fun k => l1.length - k) ?_ ?_
  · apply tr_start 0 ⟨Nat.zero_le _, fun i h => by omega⟩
    case hs1 => exact .cons rfl (.cons rfl (.cons rfl .nil))
    case ht => (try simp only [List.take_zero, List.map_nil, List.nil_append]); exact .nil
  rintro k ⟨hk, hf⟩
  by_cases hlt : k < l1.length
  · have hlt2 : k < l2.length := by omega
    have ha' := ha (by intro e; rw [List.map_eq_nil_iff] at e; subst e; simp at hlt)
    have ha2' := ha2 (by intro e; rw [List.map_eq_nil_iff] at e; subst e; simp at hlt2)
    have hcell := (hc k (oneV l1[k]) (by rw [List.getElem?_map, List.getElem?_eq_getElem hlt]; rfl)).2
    have hcell2 := (hc2 k (oneV l2[k]) (by rw [List.getElem?_map, List.getElem?_eq_getElem hlt2]; rfl)).2
    generalize hx : l1[k] = x at hcell
    generalize hy : l2[k] = y at hcell2
    skip
    unfold oneV at hcell hcell2
    try dsimp only at hcell hcell2
    have hcell0 := hcell 0 _ rfl
    have hcell20 := hcell2 0 _ rfl
    rw [Nat.add_zero] at hcell0 hcell20
    (refine tr_seq ?_; refine s_r ?_; refine m_v rfl rfl ?_; refine m_v rfl rfl ?_; refine tr_val (rk_len_slice (.of rfl)) rfl ?_; refine tr_val (rk_lss (.of rfl) (.of rfl)) rfl ?_; refine n_t ?_; refine c_d rfl (fun hcd => ?_) (fun _ => by omega); refine s_t ?_; refine tr_seq ?_; refine tr_block ?_; refine tr_seq ?_)
    with_reducible refine tr_draw 9 (by kernel_rfl) ?_
    (refine a_m rfl rfl ?_; refine a_m rfl rfl ?_; refine any_val (rk_indexAddr (.of rfl) (.of rfl) ha' (by omega) hcd norm1_) rfl ?_; refine any_val (rk_load1 (.of rfl) (At.base hcell0 rfl)) rfl ?_; refine a_m rfl rfl ?_; refine a_m rfl rfl ?_; refine any_val (rk_indexAddr (.of rfl) (.of rfl) ha2' (by omega) (by omega) norm1_) rfl ?_; refine any_val (rk_load1 (.of rfl) (At.base hcell20 rfl)) rfl ?_; refine any_val (rk_neq (.of rfl) (.of rfl)) rfl ?_)
    with_reducible refine any_end ?_
    (refine n_t ?_; refine c_d rfl (fun hcd => ?_) (fun hcd => ?_); refine s_r ?_; refine a_s rfl rfl ?_; refine n_t ?_; refine tr_ret ?_; refine tr_blk_ret ?_; refine tr_then_ret ?_; refine tr_then_ret ?_; refine tr_blk_ret ?_; refine tr_then_ret ?_; refine tr_retE rfl (ends1 rfl rfl) ?_; rotate_left; refine tr_skip ?_; refine tr_blk_normal ?_; refine tr_then ?_; refine tr_region ?_; refine m_v rfl rfl ?_; refine tr_val (rk_add (.of rfl) (.of rfl) (ini (by omega))) rfl ?_; refine a_s rfl rfl ?_; refine n_t ?_; rotate_right)
    · have hne : ¬ l1 = l2 := by
        intro e
        subst e
        rw [hx] at hy
        cases hy
        simp at hcd
      rw [decide_eq_false hne]
    · have heq : l1[k]? = l2[k]? := by
        rw [List.getElem?_eq_getElem hlt, List.getElem?_eq_getElem hlt2, hx, hy]
        simp at hcd
        simp [hcd]
      apply tr_next (k + 1) ⟨by omega, fun i hi => by
        by_cases e : i = k
        · rw [e]; exact heq
        · exact hf i (by omega)⟩ (by omega)
      case hs1 => exact .cons rfl (.cons rfl (.cons rfl .nil))
      case ht => (try simp only [List.take_zero, List.map_nil, List.nil_append]); exact .nil
  · obtain rfl : k = l1.length := by omega
    (refine tr_seq ?_; refine s_r ?_; refine m_v rfl rfl ?_; refine m_v rfl rfl ?_; refine tr_val (rk_len_slice (.of rfl)) rfl ?_; refine tr_val (rk_lss (.of rfl) (.of rfl)) rfl ?_; refine n_t ?_; refine c_d rfl (fun _ => by omega) (fun hcd => ?_); refine x_t ?_; refine tr_then_exit ?_; refine tr_blk_exit ?_; refine tr_then ?_; refine s_r ?_; refine a_s rfl rfl ?_; refine n_t ?_; refine tr_ret ?_; refine tr_retE rfl (ends1 rfl rfl) ?_)
    have : l1 = l2 := List.ext_getElem? fun i => by
      by_cases hi : i < l1.length
      · exact hf i hi
      · rw [List.getElem?_eq_none (by omega), List.getElem?_eq_none (by omega)]
    rw [decide_eq_true this]

end Go.Proofs.A1

