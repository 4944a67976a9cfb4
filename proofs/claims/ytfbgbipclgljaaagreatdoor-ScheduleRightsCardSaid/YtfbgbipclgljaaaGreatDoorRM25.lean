/- Parts of the proof: S62. -/
import Derived.Test.YtfbgbipclgljaaaGreatDoorRM24
import Derived.Test.YtfbgbipclgljaaaGreatDoorRM07
set_option linter.unusedSectionVars false
set_option linter.unusedVariables false
set_option linter.unusedSimpArgs false
/- S62 -/
namespace Go.Proofs.A1
open Go Go.SL

theorem seL_take {l : List Se} {k : Nat} (h : k < l.length) : (seL (l.take (k + 1))).flatten = (seL (l.take k)).flatten ++ l[k].cells := by
  rw [List.take_add_one, List.getElem?_eq_getElem h, seL, List.map_append, List.flatten_append]; simp [seL]
theorem riL_take {l : List Ri} {k : Nat} (h : k < l.length) : (riL (l.take (k + 1))).flatten = (riL (l.take k)).flatten ++ l[k].cells := by
  rw [List.take_add_one, List.getElem?_eq_getElem h, riL, List.map_append, List.flatten_append]; simp [riL]
theorem seL_sz (l : List Se) : ∀ r ∈ seL l, r.length = 4 := by
  intro r hr; obtain ⟨x, _, rfl⟩ := List.mem_map.1 hr; rfl
theorem riL_sz (l : List Ri) : ∀ r ∈ riL l, r.length = 3 := by
  intro r hr; obtain ⟨x, _, rfl⟩ := List.mem_map.1 hr; rfl
set_option maxHeartbeats 4000000 in
theorem rights_law {sv lv rv : Value} {es : List En} {l : List Se} {r : List Ri} {w : World} (h1 : Rd w sv 6 (ensL es)) (h2 : Rd w lv 4 (seL l)) (h3 : Rd w rv 3 (riL r)) (hG : Glob w) (hT : Tab10 w) : GivesV Tryz.prog 4 [.agg #[sv], lv, rv] w (.bool true) := by
  have haw : ∀ w', Keeps [] w w' → GivesV Tryz.prog 17 [] w' (.bool true) := fun w' hk => awake_c w' (hG.keeps hk) (hT.keeps hk)
  have hsh : ∀ w', Keeps [] w w' → GivesV Tryz.prog 18 [.agg #[sv]] w' (.bool (shortB es)) := fun w' hk => short_c (h1.keeps hk)
  have hri : ∀ w', Keeps [] w w' → GivesV Tryz.prog 35 [rv] w' (.bool (riS r)) := fun w' hk => shortRi_c (h3.keeps hk)
  have hone1 := Rd.one h1
  have h2' := h2
  have h3' := h3
  obtain ⟨a2, cap2, b2, o2, rfl, hcap2, hmax2, ha2, hc2⟩ := h2
  obtain ⟨a3, cap3, b3, o3, rfl, hcap3, hmax3, ha3, hc3⟩ := h3
  rw [seL_length] at *
  rw [riL_length] at *
  unfold maxLen at hmax2 hmax3
  refine givesV_of_tr Tryz.func4 rfl rfl ?_
  (refine s_r ?_; refine tr_new (rk_box (.of rfl) rfl) rfl (fun _ _ => ?_); refine a_s rfl rfl ?_; refine n_t ?_; refine tr_seq ?_; refine s_r ?_; refine tr_callV (rk_call (.of rfl) .nil inferInstance normc_) rfl (fun w' hm' => (haw w' (Mem.keeps hm'))) ?_; refine tr_val (rk_not (.of rfl)) rfl ?_; refine m_v rfl rfl ?_; refine tr_vG1 rfl rfl inferInstance (fun hg hgp => (rk_loadB (.of rfl) .here norm_ (by rfl))) rfl ?_; refine tr_callVG1 rfl rfl (fun hg => (rk_call (.of rfl) (.cons (.ofg hg rfl) .nil) inferInstance normc_)) rfl (fun hg w' hm' => (hsh w' (Mem.keeps hm'))) ?_; refine tr_vG1 rfl rfl inferInstance (fun hg hgp => (rk_not (.ofg hgp rfl))) rfl ?_; refine tr_val (rk_pick_or (.of rfl) rfl) rfl ?_; refine m_v rfl rfl ?_; refine v_g rfl rfl rfl rfl ?_; refine tr_vG1 rfl rfl inferInstance (fun hg hgp => (rk_len_slice (.ofg hg rfl))) rfl ?_; refine tr_vG1 rfl rfl inferInstance (fun hg hgp => (rk_gtr (.ofg hg rfl) (.of rfl))) rfl ?_; refine tr_vG1 rfl rfl inferInstance (fun hg hgp => (rk_move (.ofg hg rfl))) rfl ?_; refine tr_vG rfl rfl inferInstance (fun hg hgp => (rk_move (.of rfl))) rfl ?_; refine tr_vG rfl rfl inferInstance (fun hg hgp => (rk_len_slice (.ofg hg rfl))) rfl ?_; refine tr_vG rfl rfl inferInstance (fun hg hgp => (rk_neq (.ofg hg rfl) (.of rfl))) rfl ?_; refine tr_vG1 rfl rfl inferInstance (fun hg hgp => (rk_pick_and' hg (.ofg hg rfl) rfl)) rfl ?_; refine tr_val (rk_pick_or (.of rfl) rfl) rfl ?_; refine m_v rfl rfl ?_; refine v_g rfl rfl rfl rfl ?_; refine tr_callVG1 rfl rfl (fun hg => (rk_call (.of rfl) (.cons (.ofg hg rfl) .nil) inferInstance normc_)) rfl (fun hg w' hm' => (hri w' (Mem.keeps hm'))) ?_; refine tr_vG1 rfl rfl inferInstance (fun hg hgp => (rk_not (.ofg hg rfl))) rfl ?_; refine tr_val (rk_pick_or (.of rfl) rfl) rfl ?_; refine n_t ?_; refine c_b rfl (fun hcd => ?_) (fun hcd => ?_); refine s_r ?_; refine tr_callV (rk_call (.of rfl) .nil inferInstance normc_) rfl (fun w' hm' => (haw w' (Mem.keeps hm'))) ?_; refine a_s rfl rfl ?_; refine n_t ?_; refine r_t ?_; refine tr_retE rfl (ends1 rfl rfl) ?_; rotate_left; refine s_t ?_; refine s_r ?_; refine a_s rfl rfl ?_; refine n_t ?_; refine tr_seq ?_; refine s_r ?_; refine m_v rfl rfl ?_; refine tr_val (rk_len_slice (.of rfl)) rfl ?_; refine m_v rfl rfl ?_; refine n_t ?_; refine tr_block ?_; rotate_right)
  · rfl
  rename_i bx hbx
  have hl9 : l.length ≤ 33 := by omega
  have hfew := shortB_few hcd.1.1.2
  have hrs : r.length ≤ 33 := by
    have h := hcd.2
    unfold riS at h
    rw [Bool.and_eq_true, Bool.or_eq_true] at h
    rcases h.2 with h | h
    · have := of_decide_eq_true h; omega
    · have := of_decide_eq_true h; omega
  clear hcd
  refine tr_rowNil 63 4 ?_
  refine tr_for (ι := Nat × Value) (fun x => x.1 ≤ l.length) (fun x => [(46, .int .i64 x.1), (45, .int .i64 l.length), (44, .slice a2 l.length cap2), (7, x.2), (3, .pointer (some ⟨bx, 0, none⟩)), (1, .slice a2 l.length cap2), (2, .slice a3 r.length cap3)])
    (fun x => [row 63 4 x.2 x.1 (seL (l.take x.1)).flatten, blk bx (.cells #[sv] 24)]) (fun x => l.length - x.1) ?_ ?_
  · apply tr_start (0, .slice none 0 0) (Nat.zero_le _)
    case hs1 => exact .cons rfl (.cons rfl (.cons rfl (.cons rfl (.cons rfl (.cons rfl (.cons rfl .nil))))))
    case ht =>
      show Takes _ [row 63 4 (.slice none 0 0) 0 [], blk bx (.cells #[sv] 24)] _
      exact .cons .here (.cons .here .nil)
  rintro ⟨k, v⟩ hk
  dsimp only at hk ⊢
  by_cases hlt : k < l.length
  · have ha' := ha2 (by intro e; have := seL_length l; rw [e] at this; simp at this; omega)
    have hcell := (hc2 k _ (seL_get hlt)).2
    have htk := seL_take hlt
    unfold Se.cells at hcell htk
    (refine s_r ?_; refine tr_val (rk_lss (.of rfl) (.of rfl)) rfl ?_; refine n_t ?_; refine tr_seq ?_; refine c_d rfl (fun hcd => ?_) (fun _ => by omega); refine s_t ?_; refine tr_seq ?_; refine tr_block ?_; refine s_r ?_; refine tr_val (rk_indexAddr (.of rfl) (.of rfl) ha' (by omega) hcd norm1_) rfl ?_; refine tr_val (rk_loadN (.of rfl) (Ats.base hcell rfl) rfl) rfl ?_; refine tr_new (rk_alloc rfl) rfl (fun _ _ => ?_); refine tr_store (.of rfl) (.of rfl) .here rfl rfl (okc_cons rfl (okc_cons rfl (okc_cons rfl (okc_cons rfl okc_nil)))) (lenb rfl) norm_ ?_; refine n_t ?_; refine tr_region ?_; refine m_v rfl rfl ?_; refine tr_val (rk_loadB (.of rfl) .here norm_ (by rfl)) rfl ?_; refine tr_new (rk_sliceLitN (.cons (.of rfl) .nil) rfl rfl normp_ normp_ norm_) rfl (fun _ _ => ?_))
    refine tr_appendB (.of rfl) (.of rfl) (.there (.there .here)) .here norm_ (by rfl) (okc_cons rfl (okc_cons rfl (okc_cons rfl (okc_cons rfl okc_nil)))) (by rfl) (by rfl) (by rfl) lenx_ (by rfl) ?_
    intro v'
    (refine a_s rfl rfl ?_; refine tr_nil ?_; refine tr_blk_normal ?_; refine tr_then ?_; refine tr_region ?_; refine tr_val (rk_add (.of rfl) (.of rfl) (ini (by omega))) rfl ?_; refine m_v rfl rfl ?_; refine n_t ?_)
    apply tr_next (k + 1, v') (show k + 1 ≤ l.length by omega) (show l.length - (k + 1) < l.length - k by omega)
    case hs1 => exact .cons rfl (.cons rfl (.cons rfl (.cons rfl (.cons rfl (.cons rfl (.cons rfl .nil))))))
    case ht =>
      show Takes _ [row 63 4 v' (k + 1) (seL (l.take (k + 1))).flatten, blk bx (.cells #[sv] 24)] _
      rw [htk]
      exact .cons .here (.cons (.there (.there .here)) .nil)
  obtain rfl : k = l.length := by omega
  rw [List.take_length]
  have hRs : ∀ w', Mem _ _ w' → Rd w' v 4 (seL l) := fun w' (hm : Mem ⟨w, [], Tryz.f4.ntmps⟩ [row 63 4 v l.length (seL l).flatten] w') => hm.rdRow .here rfl (seL_sz l) (seL_length l)
  clear hRs
  (refine s_r ?_; refine tr_val (rk_lss (.of rfl) (.of rfl)) rfl ?_; refine n_t ?_; refine tr_seq ?_; refine c_d rfl (fun _ => by omega) (fun hcd => ?_); refine x_t ?_; refine tr_then_exit ?_; refine tr_blk_exit ?_; refine tr_then ?_; refine s_r ?_; refine a_s rfl rfl ?_; refine n_t ?_; refine tr_seq ?_; refine s_r ?_; refine m_v rfl rfl ?_; refine tr_val (rk_len_slice (.of rfl)) rfl ?_; refine m_v rfl rfl ?_; refine n_t ?_; refine tr_block ?_)
  refine tr_rowNil 69 3 ?_
  refine tr_for (ι := Nat × Value) (fun x => x.1 ≤ r.length) (fun x => [(57, .int .i64 x.1), (56, .int .i64 r.length), (55, .slice a3 r.length cap3), (10, x.2), (7, v), (3, .pointer (some ⟨bx, 0, none⟩)), (1, .slice a2 l.length cap2), (2, .slice a3 r.length cap3)])
    (fun x => [row 69 3 x.2 x.1 (riL (r.take x.1)).flatten, row 63 4 v l.length (seL l).flatten, blk bx (.cells #[sv] 24)]) (fun x => r.length - x.1) ?_ ?_
  · apply tr_start (0, .slice none 0 0) (Nat.zero_le _)
    case hs1 => exact .cons rfl (.cons rfl (.cons rfl (.cons rfl (.cons rfl (.cons rfl (.cons rfl (.cons rfl .nil)))))))
    case ht =>
      show Takes _ [row 69 3 (.slice none 0 0) 0 [], row 63 4 v l.length (seL l).flatten, blk bx (.cells #[sv] 24)] _
      exact .cons .here (.cons .here (.cons .here .nil))
  rintro ⟨k, u⟩ hk
  dsimp only at hk ⊢
  by_cases hlt : k < r.length
  · have ha' := ha3 (by intro e; have := riL_length r; rw [e] at this; simp at this; omega)
    have hcell := (hc3 k _ (riL_get hlt)).2
    have htk := riL_take hlt
    unfold Ri.cells at hcell htk
    (refine s_r ?_; refine tr_val (rk_lss (.of rfl) (.of rfl)) rfl ?_; refine n_t ?_; refine tr_seq ?_; refine c_d rfl (fun hcd => ?_) (fun _ => by omega); refine s_t ?_; refine tr_seq ?_; refine tr_block ?_; refine s_r ?_; refine tr_val (rk_indexAddr (.of rfl) (.of rfl) ha' (by omega) hcd norm1_) rfl ?_; refine tr_val (rk_loadN (.of rfl) (Ats.base hcell rfl) rfl) rfl ?_; refine tr_new (rk_alloc rfl) rfl (fun _ _ => ?_); refine tr_store (.of rfl) (.of rfl) .here rfl rfl (okc_cons rfl (okc_cons rfl (okc_cons rfl okc_nil))) (lenb rfl) norm_ ?_; refine n_t ?_; refine tr_region ?_; refine m_v rfl rfl ?_; refine tr_val (rk_loadB (.of rfl) .here norm_ (by rfl)) rfl ?_; refine tr_new (rk_sliceLitN (.cons (.of rfl) .nil) rfl rfl normp_ normp_ norm_) rfl (fun _ _ => ?_))
    refine tr_appendB (.of rfl) (.of rfl) (.there (.there .here)) .here norm_ (by rfl) (okc_cons rfl (okc_cons rfl (okc_cons rfl okc_nil))) (by rfl) (by rfl) (by rfl) lenx_ (by rfl) ?_
    intro v'
    (refine a_s rfl rfl ?_; refine tr_nil ?_; refine tr_blk_normal ?_; refine tr_then ?_; refine tr_region ?_; refine tr_val (rk_add (.of rfl) (.of rfl) (ini (by omega))) rfl ?_; refine m_v rfl rfl ?_; refine n_t ?_)
    apply tr_next (k + 1, v') (show k + 1 ≤ r.length by omega) (show r.length - (k + 1) < r.length - k by omega)
    case hs1 => exact .cons rfl (.cons rfl (.cons rfl (.cons rfl (.cons rfl (.cons rfl (.cons rfl (.cons rfl .nil)))))))
    case ht =>
      show Takes _ [row 69 3 v' (k + 1) (riL (r.take (k + 1))).flatten, row 63 4 v l.length (seL l).flatten, blk bx (.cells #[sv] 24)] _
      rw [htk]
      exact .cons .here (.cons (.there (.there .here)) (.cons (.there (.there .here)) .nil))
  obtain rfl : k = r.length := by omega
  rw [List.take_length]
  (refine s_r ?_; refine tr_val (rk_lss (.of rfl) (.of rfl)) rfl ?_; refine n_t ?_; refine tr_seq ?_; refine c_d rfl (fun _ => by omega) (fun hcd => ?_); refine x_t ?_; refine tr_then_exit ?_; refine tr_blk_exit ?_; refine tr_then ?_; refine s_r ?_; refine tr_val (rk_loadB (.of rfl) (.there (.there .here)) norm_ (by rfl)) rfl ?_)
  -- calls
  with_reducible apply tr_call
  case hr => exact rk_call (.of rfl) (.cons (.of rfl) .nil) inferInstance normc_
  case hd => rfl
  case ht => exact Takes.nil
  case hc =>
    intro w1 fp hm1 _ hs1
    obtain rfl : fp = [] := hs1
    exact own_c (h1.keeps hm1.keeps) hfew
  intro p1 _
  dsimp only [id_eq, List.cons_append, List.nil_append]
  refine m_v rfl rfl ?_
  with_reducible apply tr_call
  case hr => exact rk_call (.of rfl) (.cons (.of rfl) (.cons (.of rfl) .nil)) inferInstance normc_
  case hd => rfl
  case ht => exact Takes.nil
  case hc =>
    intro w1 fp hm1 _ hs1
    obtain rfl : fp = [] := hs1
    exact expanded_c (rdEn (v := p1) hm1 (by exact .here)) (Mem.rdRow hm1 (E := 63) (v := v) (by exact Take.there (.there .here)) rfl (seL_sz l) (seL_length l)) (hG.keeps hm1.keeps)
  intro x1 _
  dsimp only [id_eq, List.cons_append, List.nil_append]
  (refine m_v rfl rfl ?_; refine tr_val (rk_extract (.of rfl) rfl) rfl ?_; refine tr_val (rk_extract (.of rfl) rfl) rfl ?_; refine a_s rfl rfl ?_; refine a_s rfl rfl ?_; refine n_r ?_; refine tr_val (rk_loadB (.of rfl) (.there (.there (.there (.there .here)))) norm_ (by rfl)) rfl ?_)
  with_reducible apply tr_call
  case hr => exact rk_call (.of rfl) (.cons (.of rfl) .nil) inferInstance normc_
  case hd => rfl
  case ht => exact Takes.nil
  case hc =>
    intro w1 fp hm1 _ hs1
    obtain rfl : fp = [] := hs1
    exact own_c (h1.keeps hm1.keeps) hfew
  intro p2 _
  dsimp only [id_eq, List.cons_append, List.nil_append]
  refine m_v rfl rfl ?_
  with_reducible apply tr_call
  case hr => exact rk_call (.of rfl) (.cons (.of rfl) (.cons (.of rfl) .nil)) inferInstance normc_
  case hd => rfl
  case ht => exact Takes.nil
  case hc =>
    intro w1 fp hm1 _ hs1
    obtain rfl : fp = [] := hs1
    exact violations_c (rdEn (v := p2) hm1 (by exact .here)) (Mem.rdRow hm1 (E := 69) (v := u) (by exact Take.there (.there (.there .here))) rfl (riL_sz r) (riL_length r)) (hG.keeps hm1.keeps)
  intro y1 _
  dsimp only [id_eq, List.cons_append, List.nil_append]
  (refine m_v rfl rfl ?_; refine tr_val (rk_extract (.of rfl) rfl) rfl ?_; refine tr_val (rk_extract (.of rfl) rfl) rfl ?_; refine a_s rfl rfl ?_; refine a_s rfl rfl ?_; refine n_r ?_; refine tr_val (rk_loadB (.of rfl) (.there (.there (.there (.there (.there (.there .here)))))) norm_ (by rfl)) rfl ?_)
  with_reducible apply tr_callV
  case hr => exact rk_call (.of rfl) (.cons (.of rfl) .nil) inferInstance normc_
  case hd => rfl
  case hc =>
    intro w' hm'
    exact chkQ_c (h1.keeps hm'.keeps)
  (refine a_s rfl rfl ?_; refine n_r ?_; refine m_v rfl rfl ?_; refine m_v rfl rfl ?_)
  with_reducible apply tr_callV
  case hr => exact rk_call (.of rfl) (.cons (.of rfl) .nil) inferInstance normc_
  case hd => rfl
  case hc =>
    intro w' hm'
    exact chkRiQ_c (h3'.keeps hm'.keeps)
  refine tr_new (rk_sliceLit (.cons (.of rfl) (.cons (.of rfl) .nil)) rfl rfl rfl rfl) rfl (fun _ _ => ?_)
  have hfi : ∀ (v : Value) w', Rd w' v 1 (ints [chkF es, riQ r]) → GivesV Tryz.prog 24 [v] w' (.int .i64 (viE es r)) := fun v w' h => by
    rw [← viE_eq]; exact first_q v _ w' h
  with_reducible apply tr_callV
  case hr => exact rk_call (.of rfl) (.cons (.of rfl) .nil) inferInstance normc_
  case hd => rfl
  case hc =>
    intro w' hm'
    exact hfi _ w' (Mem.rdBlk hm' (by exact .here) rfl rfl)
  have hvc : viE es r ≠ 0 ∨ chkF es = 0 := by
    by_cases hz : chkF es = 0
    · exact .inr hz
    · left; rw [← viE_eq, firstF2, if_pos hz]; exact hz
  have hEq := exE_eq es l
  have hvl1 : viE es r ≠ 0 → viL es r = [] := fun h => by rw [viL, if_neg h]
  have hvl0 : viE es r = 0 → viL es r = viN es r es.length := fun h => by rw [viL, if_pos h]
  have hxl : exE es l ≠ 0 → exL es l = [] := fun h => by rw [exL, if_neg h]
  have hspans : ∀ (va vb : Value) (bad : Int) (l2 : List (Int × Int)) w', exE es l = bad → exL es l = l2 → Rd w' va 2 ((exL es l).map duoV) → Rd w' vb 2 (l2.map duoV) → GivesV Tryz.prog 30 [va, .int .i64 (exE es l), .int .i64 bad, vb] w' (.bool true) := fun va vb bad l2 w' e1 e2 ha hb => by
    subst e1 e2
    have := spansB_c (e := exE es l) (bad := exE es l) ha hb
    rwa [spansOk_same _ _ hxl] at this
  have hlisted : ∀ (va vb : Value) (l2 : List Nat) w', viL es r = l2 → Rd w' va 1 (((viL es r).map fun (i : Nat) => (i : Int)).map oneV) → Rd w' vb 1 ((l2.map fun (i : Nat) => (i : Int)).map oneV) → GivesV Tryz.prog 42 [va, .int .i64 (viE es r), .int .i64 (viE es r), vb] w' (.bool true) := fun va vb l2 w' e2 ha hb => by
    subst e2
    have := listed_c (e := viE es r) (bad := viE es r) ha hb
    rwa [listOk_same _ _ (fun h => by rw [hvl1 h]; rfl)] at this
  (refine a_s rfl rfl ?_; refine n_r ?_; refine a_s rfl rfl ?_; refine n_r ?_; refine a_s rfl rfl ?_; refine n_t ?_; refine tr_seq ?_; refine s_r ?_; refine m_v rfl rfl ?_; refine tr_val (rk_eql (.of rfl) (.of rfl)) rfl ?_; refine n_t ?_; refine c_d rfl (fun hcd => ?_) (fun hcd => ?_); refine tr_region ?_; refine tr_val (rk_loadB (.of rfl) (.there (.there (.there (.there (.there (.there (.there .here))))))) norm_ (by rfl)) rfl ?_; refine m_v rfl rfl ?_; rotate_left; refine s_t ?_; refine tr_seq ?_; refine s_r ?_; refine m_v rfl rfl ?_; refine tr_val (rk_eql (.of rfl) (.of rfl)) rfl ?_; refine n_t ?_; refine c_d rfl (fun _ => by omega) (fun hcd => ?_); refine s_t ?_; refine tr_seq ?_; refine s_r ?_; refine m_v rfl rfl ?_; refine tr_val (rk_eql (.of rfl) (.of rfl)) rfl ?_; refine n_t ?_; refine c_d rfl (fun _ => by omega) (fun hcd => ?_); refine s_t ?_; refine s_r ?_; refine m_v rfl rfl ?_; refine m_v rfl rfl ?_; refine m_v rfl rfl ?_; refine m_v rfl rfl ?_; rotate_right)
  · have hcz : chkF es = 0 := hcd
    have hs := Sound.of hcz
    have hri0 : viE es r = 0 → r.length ≤ 32 := fun h => by
      rw [← viE_eq, firstF2, if_neg (by rw [hcz]; decide)] at h
      exact (riQ_ok h).1
    rw [if_neg (by rw [hcz]; decide)] at hEq
    with_reducible apply tr_callV
    case hr => exact rk_call (.of rfl) (.cons (.of rfl) (.cons (.of rfl) .nil)) inferInstance normc_
    case hd => rfl
    case hc =>
      intro w' hm'
      exact chkSeQ_c (h1.keeps hm'.keeps) (h2'.keeps hm'.keeps)
    (refine a_s rfl rfl ?_; refine n_t ?_; refine tr_seq ?_; refine s_r ?_; refine m_v rfl rfl ?_; refine tr_val (rk_eql (.of rfl) (.of rfl)) rfl ?_; refine n_t ?_; refine c_d rfl (fun hcd => ?_) (fun hcd => ?_); refine tr_region ?_; refine tr_val (rk_loadB (.of rfl) (.there (.there (.there (.there (.there (.there (.there .here))))))) norm_ (by rfl)) rfl ?_; refine m_v rfl rfl ?_; rotate_left; refine s_t ?_; refine tr_seq ?_; refine s_r ?_; refine m_v rfl rfl ?_; refine tr_val (rk_eql (.of rfl) (.of rfl)) rfl ?_; refine n_t ?_; refine c_d rfl (fun hcd => ?_) (fun hcd => ?_); refine tr_region ?_; refine tr_val (rk_loadB (.of rfl) (.there (.there (.there (.there (.there (.there (.there .here))))))) norm_ (by rfl)) rfl ?_; refine m_v rfl rfl ?_; rotate_left; refine s_t ?_; refine s_r ?_; refine m_v rfl rfl ?_; refine m_v rfl rfl ?_; refine m_v rfl rfl ?_; refine m_v rfl rfl ?_; rotate_right; rotate_right)
    · have hsz : seQ es.length l = 0 := hcd
      obtain ⟨h32, hz2⟩ := seQ_ok hsz
      rw [if_neg (by rw [hsz]; decide)] at hEq
      have hL : exL es l = if l.any (exBad es) then [] else exM es l := by
        rw [exL, hEq]
        cases l.any (exBad es) <;> rfl
      with_reducible apply tr_call
      case hr => exact rk_call (.of rfl) (.cons (.of rfl) (.cons (.of rfl) .nil)) inferInstance normc_
      case hd => rfl
      case ht => exact Takes.nil
      case hc =>
        intro w1 fp hm1 _ hs1
        obtain rfl : fp = [] := hs1
        exact expQ_c (h1.keeps hm1.keeps) (h2'.keeps hm1.keeps) hs h32 hz2
      intro e1 _
      dsimp only [id_eq, List.cons_append, List.nil_append]
      (refine m_v rfl rfl ?_; refine tr_val (rk_extract (.of rfl) rfl) rfl ?_; refine tr_val (rk_extract (.of rfl) rfl) rfl ?_; refine a_s rfl rfl ?_; refine a_s rfl rfl ?_; refine n_t ?_; refine tr_seq ?_; refine s_r ?_; refine m_v rfl rfl ?_; refine tr_val (rk_eql (.of rfl) (.of rfl)) rfl ?_; refine n_t ?_; refine c_d rfl (fun hcd => ?_) (fun hcd => ?_); refine tr_region ?_; refine tr_val (rk_loadB (.of rfl) (.there (.there (.there (.there (.there (.there (.there (.there .here)))))))) norm_ (by rfl)) rfl ?_; refine m_v rfl rfl ?_; rotate_left; refine s_t ?_; refine s_r ?_; refine m_v rfl rfl ?_; refine m_v rfl rfl ?_; refine m_v rfl rfl ?_; refine m_v rfl rfl ?_; rotate_right)
      · have hvz : viE es r = 0 := hcd
        with_reducible apply tr_call
        case hr => exact rk_call (.of rfl) (.cons (.of rfl) (.cons (.of rfl) .nil)) inferInstance normc_
        case hd => rfl
        case ht => exact Takes.nil
        case hc =>
          intro w1 fp hm1 _ hs1
          obtain rfl : fp = [] := hs1
          exact vioQ_c (h1.keeps hm1.keeps) (h3'.keeps hm1.keeps) hs (hri0 hvz)
        intro q1 _
        dsimp only [id_eq, List.cons_append, List.nil_append]
        (refine a_s rfl rfl ?_; refine n_r ?_; refine m_v rfl rfl ?_; refine m_v rfl rfl ?_; refine m_v rfl rfl ?_; refine m_v rfl rfl ?_)
        with_reducible apply tr_callV
        case hr => exact rk_call (.of rfl) (.cons (.of rfl) (.cons (.of rfl) (.cons (.of rfl) (.cons (.of rfl) .nil)))) inferInstance normc_
        case hd => rfl
        case hc =>
          intro w' hm'
          exact hspans _ _ _ _ w' hEq hL (rdDuoN (v := x1) hm' (by exact Take.there (.there (.there (.there (.there .here))))) rfl) (rdDuoN (v := e1) hm' (by exact Take.there .here) rfl)
        (refine m_v rfl rfl ?_; refine tr_gOn rfl rfl ?_; refine m_v rfl rfl ?_; refine tr_gOn rfl rfl ?_; refine m_v rfl rfl ?_; refine tr_gOn rfl rfl ?_; refine m_v rfl rfl ?_; refine tr_gOn rfl rfl ?_; refine m_v rfl rfl ?_; refine tr_gOn rfl rfl ?_)
        with_reducible apply tr_callV
        case hr => exact rk_call (.of rfl) (.cons (.of rfl) (.cons (.of rfl) (.cons (.of rfl) (.cons (.of rfl) .nil)))) inferInstance normc_
        case hd => rfl
        case hc =>
          intro w' hm'
          exact hlisted _ _ _ w' (hvl0 hvz) (rdNatN (v := y1) hm' (by exact Take.there (.there (.there .here))) rfl) (rdNatN (v := q1) hm' (by exact .here) rfl)
        (refine tr_val (rk_pickB (.of rfl) (.of rfl) (.of rfl) rfl) rfl ?_; refine a_s rfl rfl ?_; refine n_t ?_; refine tr_ret ?_; refine tr_retE rfl (ends1 rfl rfl) ?_)
        rfl
      · have hvz : ¬ viE es r = 0 := hcd
        with_reducible apply tr_callV
        case hr => exact rk_call (.of rfl) (.cons (.of rfl) (.cons (.of rfl) (.cons (.of rfl) (.cons (.of rfl) .nil)))) inferInstance normc_
        case hd => rfl
        case hc =>
          intro w' hm'
          exact hspans _ _ _ _ w' hEq hL (rdDuoN (v := x1) hm' (by exact Take.there (.there (.there (.there .here)))) rfl) (rdDuoN (v := e1) hm' (by exact .here) rfl)
        (refine m_v rfl rfl ?_; refine tr_gOn rfl rfl ?_; refine m_v rfl rfl ?_; refine tr_gOn rfl rfl ?_; refine m_v rfl rfl ?_; refine tr_gOn rfl rfl ?_; refine m_v rfl rfl ?_; refine tr_gOn rfl rfl ?_; refine m_v rfl rfl ?_; refine tr_gOn rfl rfl ?_)
        with_reducible apply tr_callV
        case hr => exact rk_call (.of rfl) (.cons (.of rfl) (.cons (.of rfl) (.cons (.of rfl) (.cons (.of rfl) .nil)))) inferInstance normc_
        case hd => rfl
        case hc =>
          intro w' hm'
          exact hlisted _ _ _ w' (hvl1 hvz) (rdNatN (v := y1) hm' (by exact Take.there (.there .here)) rfl) (Rd.nil _ _)
        (refine tr_val (rk_pickB (.of rfl) (.of rfl) (.of rfl) rfl) rfl ?_; refine a_s rfl rfl ?_; refine n_t ?_; refine tr_ret ?_; refine tr_retE rfl (ends1 rfl rfl) ?_)
        rfl
    · have hsz : ¬ seQ es.length l = 0 := by assumption
      rw [if_pos hsz] at hEq
      have hL : exL es l = [] := hxl (by rw [hEq]; exact hsz)
      have hvz : viE es r = 0 := hcd
      with_reducible apply tr_call
      case hr => exact rk_call (.of rfl) (.cons (.of rfl) (.cons (.of rfl) .nil)) inferInstance normc_
      case hd => rfl
      case ht => exact Takes.nil
      case hc =>
        intro w1 fp hm1 _ hs1
        obtain rfl : fp = [] := hs1
        exact vioQ_c (h1.keeps hm1.keeps) (h3'.keeps hm1.keeps) hs (hri0 hvz)
      intro q1 _
      dsimp only [id_eq, List.cons_append, List.nil_append]
      (refine a_s rfl rfl ?_; refine n_r ?_; refine m_v rfl rfl ?_; refine m_v rfl rfl ?_; refine m_v rfl rfl ?_; refine m_v rfl rfl ?_)
      with_reducible apply tr_callV
      case hr => exact rk_call (.of rfl) (.cons (.of rfl) (.cons (.of rfl) (.cons (.of rfl) (.cons (.of rfl) .nil)))) inferInstance normc_
      case hd => rfl
      case hc =>
        intro w' hm'
        exact hspans _ _ _ _ w' hEq hL (rdDuoN (v := x1) hm' (by exact Take.there (.there (.there (.there .here)))) rfl) (Rd.nil _ _)
      (refine m_v rfl rfl ?_; refine tr_gOn rfl rfl ?_; refine m_v rfl rfl ?_; refine tr_gOn rfl rfl ?_; refine m_v rfl rfl ?_; refine tr_gOn rfl rfl ?_; refine m_v rfl rfl ?_; refine tr_gOn rfl rfl ?_; refine m_v rfl rfl ?_; refine tr_gOn rfl rfl ?_)
      with_reducible apply tr_callV
      case hr => exact rk_call (.of rfl) (.cons (.of rfl) (.cons (.of rfl) (.cons (.of rfl) (.cons (.of rfl) .nil)))) inferInstance normc_
      case hd => rfl
      case hc =>
        intro w' hm'
        exact hlisted _ _ _ w' (hvl0 hvz) (rdNatN (v := y1) hm' (by exact Take.there (.there .here)) rfl) (rdNatN (v := q1) hm' (by exact .here) rfl)
      (refine tr_val (rk_pickB (.of rfl) (.of rfl) (.of rfl) rfl) rfl ?_; refine a_s rfl rfl ?_; refine n_t ?_; refine tr_ret ?_; refine tr_retE rfl (ends1 rfl rfl) ?_)
      rfl
    · have hsz : ¬ seQ es.length l = 0 := by assumption
      rw [if_pos hsz] at hEq
      have hL : exL es l = [] := hxl (by rw [hEq]; exact hsz)
      have hvz : ¬ viE es r = 0 := hcd
      with_reducible apply tr_callV
      case hr => exact rk_call (.of rfl) (.cons (.of rfl) (.cons (.of rfl) (.cons (.of rfl) (.cons (.of rfl) .nil)))) inferInstance normc_
      case hd => rfl
      case hc =>
        intro w' hm'
        exact hspans _ _ _ _ w' hEq hL (rdDuoN (v := x1) hm' (by exact Take.there (.there (.there .here))) rfl) (Rd.nil _ _)
      (refine m_v rfl rfl ?_; refine tr_gOn rfl rfl ?_; refine m_v rfl rfl ?_; refine tr_gOn rfl rfl ?_; refine m_v rfl rfl ?_; refine tr_gOn rfl rfl ?_; refine m_v rfl rfl ?_; refine tr_gOn rfl rfl ?_; refine m_v rfl rfl ?_; refine tr_gOn rfl rfl ?_)
      with_reducible apply tr_callV
      case hr => exact rk_call (.of rfl) (.cons (.of rfl) (.cons (.of rfl) (.cons (.of rfl) (.cons (.of rfl) .nil)))) inferInstance normc_
      case hd => rfl
      case hc =>
        intro w' hm'
        exact hlisted _ _ _ w' (hvl1 hvz) (rdNatN (v := y1) hm' (by exact Take.there .here) rfl) (Rd.nil _ _)
      (refine tr_val (rk_pickB (.of rfl) (.of rfl) (.of rfl) rfl) rfl ?_; refine a_s rfl rfl ?_; refine n_t ?_; refine tr_ret ?_; refine tr_retE rfl (ends1 rfl rfl) ?_)
      rfl
  · have hcz : ¬ chkF es = 0 := by assumption
    have hvz : ¬ viE es r = 0 := by omega
    rw [if_pos hcz] at hEq
    have hL : exL es l = [] := hxl (by rw [hEq]; exact hcz)
    with_reducible apply tr_callV
    case hr => exact rk_call (.of rfl) (.cons (.of rfl) (.cons (.of rfl) (.cons (.of rfl) (.cons (.of rfl) .nil)))) inferInstance normc_
    case hd => rfl
    case hc =>
      intro w' hm'
      exact hspans _ _ _ _ w' hEq hL (rdDuoN (v := x1) hm' (by exact Take.there (.there (.there .here))) rfl) (Rd.nil _ _)
    (refine m_v rfl rfl ?_; refine tr_gOn rfl rfl ?_; refine m_v rfl rfl ?_; refine tr_gOn rfl rfl ?_; refine m_v rfl rfl ?_; refine tr_gOn rfl rfl ?_; refine m_v rfl rfl ?_; refine tr_gOn rfl rfl ?_; refine m_v rfl rfl ?_; refine tr_gOn rfl rfl ?_)
    with_reducible apply tr_callV
    case hr => exact rk_call (.of rfl) (.cons (.of rfl) (.cons (.of rfl) (.cons (.of rfl) (.cons (.of rfl) .nil)))) inferInstance normc_
    case hd => rfl
    case hc =>
      intro w' hm'
      exact hlisted _ _ _ w' (hvl1 hvz) (rdNatN (v := y1) hm' (by exact Take.there .here) rfl) (Rd.nil _ _)
    (refine tr_val (rk_pickB (.of rfl) (.of rfl) (.of rfl) rfl) rfl ?_; refine a_s rfl rfl ?_; refine n_t ?_; refine tr_ret ?_; refine tr_retE rfl (ends1 rfl rfl) ?_)
    rfl
end Go.Proofs.A1
