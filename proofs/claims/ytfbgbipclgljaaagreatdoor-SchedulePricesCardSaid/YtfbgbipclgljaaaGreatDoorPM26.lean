/- Parts of the proof: S65. -/
import Derived.Test.YtfbgbipclgljaaaGreatDoorPM25
import Derived.Test.YtfbgbipclgljaaaGreatDoorPM07
set_option linter.unusedSectionVars false
set_option linter.unusedVariables false
set_option linter.unusedSimpArgs false
/- S65 -/
namespace Go.Proofs.A1
open Go Go.SL

def g3 : Value → Value × Value × Value
  | .agg cs => (cs.getD 0 undef, cs.getD 1 undef, cs.getD 2 undef)
  | _ => (undef, undef, undef)
theorem g3_of (x : Value × Value × Value) : ∃ v, g3 v = x := ⟨.agg #[x.1, x.2.1, x.2.2], rfl⟩
set_option maxHeartbeats 4000000 in
theorem prices_law {sv cv xv : Value} {b : Br} {p : Int × Int} {w : World} (h1 : Rd w sv 4 (spsL b.sp)) (h2 : Rd w cv 1 (ints b.cm)) (h3 : Rd w xv 2 (prsL b.ex)) (hG : Glob w) (hT : Tab10 w) :
    GivesV Tryz.prog 5 [.agg #[.int .i64 b.n, sv, cv, xv], .agg #[.int .i64 p.1, .int .i64 p.2]] w (.bool true) := by
  have haw : ∀ w', Keeps [] w w' → GivesV Tryz.prog 17 [] w' (.bool true) := fun w' hk => awake_c w' (hG.keeps hk) (hT.keeps hk)
  have hsh : ∀ w', Keeps [] w w' → GivesV Tryz.prog 43 [.agg #[.int .i64 b.n, sv, cv, xv]] w' (.bool (shortBr b)) := fun w' hk => shortBr_c (h1.keeps hk) (h2.keeps hk) (h3.keeps hk)
  have hck : ∀ w', Keeps [] w w' → GivesV Tryz.prog 47 [.agg #[.int .i64 b.n, sv, cv, xv]] w' (.int .i64 (brE b)) := fun w' hk => brkQ_c (h1.keeps hk) (h2.keeps hk) (h3.keeps hk)
  have hpc : ∀ w', GivesV Tryz.prog 48 [.agg #[.int .i64 p.1, .int .i64 p.2]] w' (.int .i64 (prcE p)) := fun w' => prcQ_c p w'
  have hone1 := Rd.one h1
  have hone2 := Rd.one h2
  have hone3 := Rd.one h3
  refine givesV_of_tr Tryz.func5 rfl rfl ?_
  (refine s_r ?_; refine tr_new (rk_box (.of rfl) rfl) rfl (fun _ _ => ?_); refine tr_new (rk_box (.of rfl) rfl) rfl (fun _ _ => ?_); refine a_s rfl rfl ?_; refine n_t ?_; refine tr_seq ?_; refine s_r ?_; refine tr_callV (rk_call (.of rfl) .nil inferInstance normc_) rfl (fun w' hm' => (haw w' (Mem.keeps hm'))) ?_; refine tr_val (rk_not (.of rfl)) rfl ?_; refine m_v rfl rfl ?_; refine tr_vG1 rfl rfl inferInstance (fun hg hgp => (rk_loadB (.of rfl) (.there .here) norm_ (by rfl))) rfl ?_; refine tr_callVG1 rfl rfl (fun hg => (rk_call (.of rfl) (.cons (.ofg hg rfl) .nil) inferInstance normc_)) rfl (fun hg w' hm' => (hsh w' (Mem.keeps hm'))) ?_; refine tr_vG1 rfl rfl inferInstance (fun hg hgp => (rk_not (.ofg hgp rfl))) rfl ?_; refine tr_val (rk_pick_or (.of rfl) rfl) rfl ?_; refine n_t ?_; refine c_b rfl (fun hcd => ?_) (fun hcd => ?_); refine s_r ?_; refine tr_callV (rk_call (.of rfl) .nil inferInstance normc_) rfl (fun w' hm' => (haw w' (Mem.keeps hm'))) ?_; refine a_s rfl rfl ?_; refine n_t ?_; refine r_t ?_; refine tr_retE rfl (ends1 rfl rfl) ?_; rotate_left; refine s_t ?_; refine s_r ?_; refine tr_val (rk_loadB (.of rfl) (.there .here) norm_ (by rfl)) rfl ?_; rotate_right)
  · rfl
  rename_i b2 hb2 b3 hb3
  have hfew := shortBr_few hcd.2
  clear hcd
  have hgv : ∀ w', Keeps [] w w' → _ := fun w' hk => given_c (h1.keeps hk) (h2.keeps hk) (h3.keeps hk) (Nat.le_trans hfew.1 (by decide)) (Nat.le_trans hfew.2.1 (by decide)) (Nat.le_trans hfew.2.2 (by decide))
  with_reducible apply tr_call
  case hr => exact rk_call (.of rfl) (.cons (.of rfl) .nil) inferInstance normc_
  case hd => rfl
  case ht => exact Takes.nil
  case hc =>
    intro w1 fp hm1 _ hs1
    obtain rfl : fp = [] := hs1
    exact hgv w1 hm1.keeps
  rintro ⟨x1, x2, x3⟩ _
  dsimp only [id_eq, List.cons_append, List.nil_append]
  with_reducible apply tr_callV
  case hr => exact rk_call (.of rfl) (.cons (.of rfl) .nil) inferInstance normc_
  case hd => rfl
  case hc =>
    intro w' hm'
    exact priceX_c (Mem.rdRow hm' (E := 218) (v := x1) (by exact .here) rfl (spsL_sz _) (spsL_length _)) (Mem.rdRow hm' (E := 3) (v := x2) (by exact Take.there .here) rfl (ints_sz _) (ints_length _)) (Mem.rdRowE hm' (E := 121) (v := x3) (by exact Take.there (.there .here)) rfl (prsL_sz _) (prsL_length _))
  generalize hP : (if brE b = 0 then priceF b else (0, 0)) = pr
  obtain ⟨prn, prd⟩ := pr
  unfold duoV
  dsimp only
  (refine m_v rfl rfl ?_; refine tr_val (rk_extract (.of rfl) rfl) rfl ?_; refine tr_val (rk_extract (.of rfl) rfl) rfl ?_; refine tr_new (rk_alloc rfl) rfl (fun _ _ => ?_); refine tr_store (.of rfl) (.of rfl) .here rfl rfl (okc_cons rfl (okc_cons rfl okc_nil)) (lenb rfl) norm_ ?_; refine a_s rfl rfl ?_; refine n_t ?_; refine tr_seq ?_)
  rename_i b5 hb5
  with_reducible refine tr_drawM 9 (by kernel_rfl) ?_
  refine am_val (fun β => (rk_loadB (.of rfl) (.there (.there (.there (.there (.there .here))))) norm_ (by rfl))) ind0 rfl ?_
  dsimp only [Nat.zero_add, Nat.reduceAdd]
  with_reducible apply am_call (ι := Value × Value × Value) (Φ := fun _ => True) (val := fun x => .agg #[.int .i64 b.n, x.1, x.2.1, x.2.2]) (own := fun x => [row 218 4 x.1 b.sp.length (spsL b.sp).flatten, row 3 1 x.2.1 b.cm.length (ints b.cm).flatten, rowE 121 2 x.2.2 b.ex.length (prsL b.ex).flatten]) (g := g3) (B := []) (args := fun _ => [.agg #[.int .i64 b.n, sv, cv, xv]])
  case hg => exact g3_of
  case hB => rfl
  case hr => exact fun β => rk_call (.of rfl) (.cons (.of rfl) .nil) inferInstance rfl
  case hd => rfl
  case hc => exact fun β w' hb => hgv w' hb.mem.keeps
  refine am_val (fun β => (rk_loadB (.of rfl) (.there (.there (.there (.there .here)))) norm_ (by rfl))) ind0 rfl ?_
  dsimp only [Nat.reduceAdd]
  with_reducible apply am_callV (B := [1]) (F := fun _ => .tuple #[.int .i64 (if bdE b p = 0 then bndF b p else 0), .int .i64 (bdE b p)]) (args := fun β => [.agg #[.int .i64 b.n, (g3 (β 1)).1, (g3 (β 1)).2.1, (g3 (β 1)).2.2], .agg #[.int .i64 p.1, .int .i64 p.2]])
  case hB => kernel_rfl
  case hr => exact fun β => rk_call (.of rfl) (.cons (.of rfl) (.cons (.of rfl) .nil)) inferInstance rfl
  case hi => exact ind0
  case hd => rfl
  case hc =>
    intro β w' hb
    have hm' := hb.at 1 List.mem_cons_self rfl
    dsimp only [List.cons_append, List.nil_append] at hm'
    exact boundX_c (p := p) (Mem.rdRow hm' (E := 218) (by exact .here) rfl (spsL_sz _) (spsL_length _)) (Mem.rdRow hm' (E := 3) (by exact Take.there .here) rfl (ints_sz _) (ints_length _)) (Mem.rdRowE hm' (E := 121) (by exact Take.there (.there .here)) rfl (prsL_sz _) (prsL_length _))
  (refine am_val (fun β => (rk_move (.of rfl))) ind0 rfl ?_; refine am_val (fun β => (rk_extract (.of rfl) rfl)) ind0 rfl ?_; refine am_val (fun β => (rk_extract (.of rfl) rfl)) ind0 rfl ?_; refine am_val (fun β => (rk_assign (.of rfl))) ind0 rfl ?_; refine am_val (fun β => (rk_assign (.of rfl))) ind0 rfl ?_)
  refine am_end fun β => ?_
  dsimp only [resAll, List.nil_append, List.cons_append, List.append_eq, Nat.reduceAdd]
  generalize g3 (β 1) = y3
  clear β
  with_reducible refine left_done (by kernel_rfl) ?_
  (refine tr_then ?_; refine s_r ?_; refine tr_val (rk_loadB (.of rfl) (.there (.there (.there (.there (.there (.there (.there (.there .here)))))))) norm_ (by rfl)) rfl ?_; refine tr_callV (rk_call (.of rfl) (.cons (.of rfl) .nil) inferInstance normc_) rfl (fun w' hm' => (hck w' (Mem.keeps hm'))) ?_; refine a_s rfl rfl ?_; refine n_r ?_; refine m_v rfl rfl ?_; refine tr_val (rk_loadB (.of rfl) (.there (.there (.there (.there (.there (.there (.there .here))))))) norm_ (by rfl)) rfl ?_; refine tr_callV (rk_call (.of rfl) (.cons (.of rfl) .nil) inferInstance normc_) rfl (fun w' hm' => (hpc w')) ?_; refine tr_new (rk_sliceLit (.cons (.of rfl) (.cons (.of rfl) .nil)) rfl rfl rfl rfl) rfl (fun _ _ => ?_))
  have hfi : ∀ (v : Value) w', Rd w' v 1 (ints [brE b, prcE p]) → GivesV Tryz.prog 24 [v] w' (.int .i64 (bdE b p)) := fun v w' h => by
    rw [← bdE_eq]; exact first_q v _ w' h
  have hbd : bdE b p ≠ 0 ∨ brE b = 0 := by
    by_cases hz : brE b = 0
    · exact .inr hz
    · left; rw [← bdE_eq, firstF2, if_pos hz]; exact hz
  have hn0 : ¬ bdE b p = 0 → numOk (if bdE b p = 0 then bndF b p else 0) (bdE b p) (bdE b p) 0 = true := fun h => by rw [if_neg h]; exact numOk_bad _ _ h
  with_reducible apply tr_callV
  case hr => exact rk_call (.of rfl) (.cons (.of rfl) .nil) inferInstance normc_
  case hd => rfl
  case hc =>
    intro w' hm'
    exact hfi _ w' (Mem.rdBlk hm' (by exact .here) rfl rfl)
  (refine a_s rfl rfl ?_; refine n_r ?_; refine tr_new (rk_alloc rfl) rfl (fun _ _ => ?_); refine n_r ?_; refine a_s rfl rfl ?_; refine n_t ?_; refine tr_seq ?_; refine s_r ?_; refine m_v rfl rfl ?_; refine tr_val (rk_eql (.of rfl) (.of rfl)) rfl ?_; refine n_t ?_; refine c_d rfl (fun hcd => ?_) (fun hcd => ?_); refine tr_region ?_; refine tr_val (rk_loadB (.of rfl) (.there (.there (.there (.there (.there (.there (.there (.there (.there (.there .here)))))))))) norm_ (by rfl)) rfl ?_; rotate_left; refine s_t ?_; refine tr_seq ?_; refine s_r ?_; refine m_v rfl rfl ?_; refine tr_val (rk_eql (.of rfl) (.of rfl)) rfl ?_; refine n_t ?_; refine c_d rfl (fun _ => by omega) (fun hcd => ?_); refine s_t ?_; refine s_r ?_; refine tr_val (rk_loadB (.of rfl) (.there (.there (.there (.there (.there .here))))) norm_ (by rfl)) rfl ?_; refine tr_val (rk_loadB (.of rfl) .here norm_ (by rfl)) rfl ?_; refine tr_val (rk_eqlA (.of rfl) (.of rfl) (okL_int (okL_int okL_nil)) rfl) rfl ?_; refine m_v rfl rfl ?_; refine v_g rfl rfl rfl rfl ?_; refine v_g rfl rfl rfl rfl ?_; refine tr_vG1 rfl rfl inferInstance (fun hg hgp => (rk_eql (.ofg hg rfl) (.ofg hg rfl))) rfl ?_; refine tr_val (rk_pick_and (.of rfl) rfl) rfl ?_; refine m_v rfl rfl ?_; refine v_g rfl rfl rfl rfl ?_; refine v_g rfl rfl rfl rfl ?_; refine v_g rfl rfl rfl rfl ?_; refine v_g rfl rfl rfl rfl ?_; refine tr_callVG1 rfl rfl (fun hg => (rk_call (.of rfl) (.cons (.ofg hg rfl) (.cons (.ofg hg rfl) (.cons (.ofg hg rfl) (.cons (.ofg hg rfl) .nil)))) inferInstance normc_)) rfl (fun hg w' hm' => (number_c _ _ _ 0 w')) ?_; refine tr_val (rk_pick_and (.of rfl) rfl) rfl ?_; refine a_s rfl rfl ?_; refine n_t ?_; refine tr_ret ?_; refine tr_retE rfl (ends1 rfl rfl) ?_; rotate_right)
  · have hz : brE b = 0 := hcd
    have hok := BrOk.of hz
    rw [if_pos hz] at hP
    have hpq : ∀ w', Keeps [] w w' → GivesV Tryz.prog 49 [.agg #[.int .i64 b.n, sv, cv, xv]] w' (.agg #[.int .i64 prn, .int .i64 prd]) := fun w' hk => by
      have := priceQ_c (h1.keeps hk) hone2 hone3 hok
      rwa [hP] at this
    with_reducible apply tr_callV
    case hr => exact rk_call (.of rfl) (.cons (.of rfl) .nil) inferInstance normc_
    case hd => rfl
    case hc =>
      intro w' hm'
      exact hpq w' hm'.keeps
    (refine tr_store (.of rfl) (.of rfl) .here rfl rfl (okc_cons rfl (okc_cons rfl okc_nil)) (lenb rfl) norm_ ?_; refine n_t ?_; refine tr_seq ?_; refine s_r ?_; refine m_v rfl rfl ?_; refine tr_val (rk_eql (.of rfl) (.of rfl)) rfl ?_; refine n_t ?_; refine c_d rfl (fun hcd => ?_) (fun hcd => ?_); refine tr_region ?_; refine tr_val (rk_loadB (.of rfl) (.there (.there (.there (.there (.there (.there (.there (.there (.there (.there .here)))))))))) norm_ (by rfl)) rfl ?_; refine tr_val (rk_loadB (.of rfl) (.there (.there (.there (.there (.there (.there (.there (.there (.there .here))))))))) norm_ (by rfl)) rfl ?_; rotate_left; refine s_t ?_; refine s_r ?_; refine tr_val (rk_loadB (.of rfl) (.there (.there (.there (.there (.there .here))))) norm_ (by rfl)) rfl ?_; refine tr_val (rk_loadB (.of rfl) .here norm_ (by rfl)) rfl ?_; refine tr_val (rk_eqlA (.of rfl) (.of rfl) (okL_int (okL_int okL_nil)) rfl) rfl ?_; refine m_v rfl rfl ?_; refine v_g rfl rfl rfl rfl ?_; refine v_g rfl rfl rfl rfl ?_; refine tr_vG1 rfl rfl inferInstance (fun hg hgp => (rk_eql (.ofg hg rfl) (.ofg hg rfl))) rfl ?_; refine tr_val (rk_pick_and (.of rfl) rfl) rfl ?_; refine m_v rfl rfl ?_; refine v_g rfl rfl rfl rfl ?_; refine v_g rfl rfl rfl rfl ?_; refine v_g rfl rfl rfl rfl ?_; refine v_g rfl rfl rfl rfl ?_; refine tr_callVG1 rfl rfl (fun hg => (rk_call (.of rfl) (.cons (.ofg hg rfl) (.cons (.ofg hg rfl) (.cons (.ofg hg rfl) (.cons (.ofg hg rfl) .nil)))) inferInstance normc_)) rfl (fun hg w' hm' => (number_c _ _ _ 0 w')) ?_; refine tr_val (rk_pick_and (.of rfl) rfl) rfl ?_; refine a_s rfl rfl ?_; refine n_t ?_; refine tr_ret ?_; refine tr_retE rfl (ends1 rfl rfl) ?_; rotate_right)
    · have hb0 : bdE b p = 0 := hcd
      have hb1 := hb0
      unfold bdE at hb1
      rw [firstF_zero] at hb1
      simp only [List.mem_cons, List.not_mem_nil, or_false, forall_eq_or_imp, forall_eq] at hb1
      rw [whenF_zero (by decide)] at hb1
      have hpo := PrOk.of hb1.2.1 (by simpa using hb1.2.2)
      have hbq : ∀ w', Keeps [] w w' → GivesV Tryz.prog 50 [.agg #[.int .i64 b.n, sv, cv, xv], .agg #[.int .i64 p.1, .int .i64 p.2]] w' (.int .i64 (bndF b p)) := fun w' hk => boundQ_c (h1.keeps hk) hone2 hone3 hok hpo
      with_reducible apply tr_callV
      case hr => exact rk_call (.of rfl) (.cons (.of rfl) (.cons (.of rfl) .nil)) inferInstance normc_
      case hd => rfl
      case hc =>
        intro w' hm'
        exact hbq w' hm'.keeps
      (refine a_s rfl rfl ?_; refine n_r ?_; refine tr_val (rk_loadB (.of rfl) (.there (.there (.there (.there (.there .here))))) norm_ (by rfl)) rfl ?_; refine tr_val (rk_loadB (.of rfl) .here norm_ (by rfl)) rfl ?_; refine tr_val (rk_eqlA (.of rfl) (.of rfl) (okL_int (okL_int okL_nil)) rfl) rfl ?_; refine m_v rfl rfl ?_; refine v_g rfl rfl rfl rfl ?_; refine v_g rfl rfl rfl rfl ?_; refine tr_vG1 rfl rfl inferInstance (fun hg hgp => (rk_eql (.ofg hg rfl) (.ofg hg rfl))) rfl ?_; refine tr_val (rk_pick_and (.of rfl) rfl) rfl ?_; refine m_v rfl rfl ?_; refine v_g rfl rfl rfl rfl ?_; refine v_g rfl rfl rfl rfl ?_; refine v_g rfl rfl rfl rfl ?_; refine v_g rfl rfl rfl rfl ?_; refine tr_callVG1 rfl rfl (fun hg => (rk_call (.of rfl) (.cons (.ofg hg rfl) (.cons (.ofg hg rfl) (.cons (.ofg hg rfl) (.cons (.ofg hg rfl) .nil)))) inferInstance normc_)) rfl (fun hg w' hm' => (number_c _ _ _ _ w')) ?_; refine tr_val (rk_pick_and (.of rfl) rfl) rfl ?_; refine a_s rfl rfl ?_; refine n_t ?_; refine tr_ret ?_; refine tr_retE rfl (ends1 rfl rfl) ?_)
      rw [if_pos hb0, numOk_same _ _ (fun h => absurd hb0 h)]; simp
    · rw [hn0 hcd]; simp
  · have hz : ¬ brE b = 0 := by assumption
    rw [if_neg hz] at hP
    cases hP
    rw [hn0 (by omega)]; simp
end Go.Proofs.A1
