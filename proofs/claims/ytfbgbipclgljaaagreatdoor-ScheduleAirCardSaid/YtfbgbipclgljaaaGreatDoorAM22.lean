/- Parts of the proof: S73. -/
import Derived.Test.YtfbgbipclgljaaaGreatDoorAM20
import Derived.Test.YtfbgbipclgljaaaGreatDoorAM21
import Derived.Test.YtfbgbipclgljaaaGreatDoorAM06
set_option linter.unusedSectionVars false
set_option linter.unusedVariables false
set_option linter.unusedSimpArgs false
/- S73 -/
namespace Go.Proofs.A1
open Go Go.SL

theorem ind0x {α : Type} {l : List Oper} {i : Nat} {v : α} : Indep l i (fun _ => v) := fun _ _ _ => rfl
def validB (es : List En) : Bool := shortB es && decide ((es.length : Int) ≤ 8) && decide (chkF es = 0)
theorem validB_iff {es : List En} (h : validB es = true) : shortB es = true ∧ es.length ≤ 8 ∧ chkF es = 0 := by
  unfold validB at h
  rw [Bool.and_eq_true, Bool.and_eq_true, decide_eq_true_eq, decide_eq_true_eq] at h
  exact ⟨h.1.1, by omega, h.2⟩
theorem valid_c {sv : Value} {es : List En} {w : World} (h1 : Rd w sv 6 (ensL es)) : GivesV Tryz.prog 59 [.agg #[sv]] w (.bool (validB es)) := by
  have h1' := h1
  obtain ⟨a, cap, b, o, rfl, hcap, hmax, ha, hc⟩ := h1
  rw [ensL_length] at *
  unfold maxLen at hmax
  refine givesV_of_tr Tryz.func59 rfl rfl ?_
  (refine s_r ?_; refine tr_new (rk_box (.of rfl) rfl) rfl (fun _ _ => ?_); refine a_s rfl rfl ?_; refine n_r ?_; refine tr_val (rk_loadB (.of rfl) .here norm_ (by rfl)) rfl ?_; refine tr_callV (rk_call (.of rfl) (.cons (.of rfl) .nil) inferInstance normc_) rfl (fun w' hm' => (short_c (Rd.keeps h1' (Mem.keeps hm')))) ?_; refine m_v rfl rfl ?_; refine tr_vG1 rfl rfl inferInstance (fun hg hgp => (rk_fieldAddr (.of rfl) norm0_)) rfl ?_; refine tr_vG1 rfl rfl inferInstance (fun hg hgp => (rk_load1 (.ofg hg rfl) (At.lit .here rfl))) rfl ?_; refine tr_vG1 rfl rfl inferInstance (fun hg hgp => (rk_len_slice (.ofg hg rfl))) rfl ?_; refine tr_vG1 rfl rfl inferInstance (fun hg hgp => (rk_leq (.ofg hg rfl) (.of rfl))) rfl ?_; refine tr_val (rk_pick_and (.of rfl) rfl) rfl ?_; refine m_v rfl rfl ?_; refine tr_vG1 rfl rfl inferInstance (fun hg hgp => (rk_loadB (.of rfl) .here norm_ (by rfl))) rfl ?_; refine tr_callVG1 rfl rfl (fun hg => (rk_call (.of rfl) (.cons (.ofg hg rfl) .nil) inferInstance normc_)) rfl (fun hg w' hm' => (chkQ_c (Rd.keeps h1' (Mem.keeps hm')))) ?_; refine tr_vG1 rfl rfl inferInstance (fun hg hgp => (rk_eql (.ofg hg rfl) (.of rfl))) rfl ?_; refine tr_val (rk_pick_and (.of rfl) rfl) rfl ?_; refine a_s rfl rfl ?_; refine n_t ?_; refine tr_ret ?_; refine tr_retE rfl (ends1 rfl rfl) ?_)
  rfl
/-- the frames that are looked at -/
def fsL (a b : Int) : List Int := [a - 1, a, a + 1, (a + b) / 2, b - 1, b]
theorem fsL_in {a b f : Int} {j : Nat} (h : (fsL a b)[j]? = some f) (ha : 0 ≤ a) (hab : a < b) (hb : b ≤ 10000000) : -1 ≤ f ∧ f ≤ 10000000 := by
  have := List.mem_of_getElem? h
  simp only [fsL, List.mem_cons, List.not_mem_nil, or_false] at this
  omega
/-- the sum of the shares so far -/
def ndF (L : List (Int × Int × Int)) : Nat → Int × Int
  | 0 => (0, 1)
  | j + 1 => ((ndF L j).1 * (L.getD j (0, 1, 1)).2.2 + (L.getD j (0, 1, 1)).2.1 * (ndF L j).2, (ndF L j).2 * (L.getD j (0, 1, 1)).2.2)
theorem Sound.parts {es : List En} (h : Sound es) (f : Int) : (shF es f).length ≤ 2 ∧ (∀ x ∈ shF es f, 1 ≤ x.2.1 ∧ x.2.1 ≤ x.2.2 ∧ x.2.2 ≤ 251) ∧ (∀ j, j ≤ (shF es f).length → 0 ≤ (ndF (shF es f) j).1 ∧ (ndF (shF es f) j).1 ≤ 1000000 ∧ 0 ≤ (ndF (shF es f) j).2 ∧ (ndF (shF es f) j).2 ≤ 1000000) ∧ (0 < (shF es f).length → (ndF (shF es f) (shF es f).length).1 = (ndF (shF es f) (shF es f).length).2) := by
  rcases h.air f with e | ⟨i, hi, hb, e⟩ | ⟨i, p, q, hi, e, hp, hq, p1, p2, p3, q1, q2, q3, hs⟩
  · rw [e]
    refine ⟨by simp, by simp, fun j hj => ?_, by simp⟩
    obtain rfl : j = 0 := by simpa using hj
    simp [ndF]
  · rw [e]
    refine ⟨by simp, by simp, fun j hj => ?_, fun _ => by simp [ndF]⟩
    have : j = 0 ∨ j = 1 := by simp at hj; omega
    rcases this with rfl | rfl <;> simp [ndF]
  · clear hp hq
    rw [e]
    have m1 := mul_bd (a := p.1) (b := q.2) (A := 251) (B := 251) (by omega) (by omega) (by omega) (by omega)
    have m2 := mul_bd (a := q.1) (b := p.2) (A := 251) (B := 251) (by omega) (by omega) (by omega) (by omega)
    have m3 := mul_bd (a := p.2) (b := q.2) (A := 251) (B := 251) (by omega) (by omega) (by omega) (by omega)
    have e1 : ndF [((i : Int), p), (((i + 1 : Nat) : Int), q)] 1 = (p.1, p.2) := by simp [ndF]
    have e2 : ndF [((i : Int), p), (((i + 1 : Nat) : Int), q)] 2 = (p.1 * q.2 + q.1 * p.2, p.2 * q.2) := by
      rw [ndF, e1]; rfl
    refine ⟨by simp, ?_, fun j hj => ?_, fun _ => ?_⟩
    · intro x hx
      simp only [List.mem_cons, List.not_mem_nil, or_false] at hx
      rcases hx with rfl | rfl
      · exact ⟨p1, p2, p3⟩
      · exact ⟨q1, q2, q3⟩
    · have : j = 0 ∨ j = 1 ∨ j = 2 := by simp at hj; omega
      rcases this with rfl | rfl | rfl
      · simp [ndF]
      · rw [e1]; dsimp only; omega
      · rw [e2]; dsimp only; omega
    · show (ndF _ 2).1 = (ndF _ 2).2
      rw [e2]; exact hs
theorem triF_at {L : List (Int × Int × Int)} {j : Nat} {x : Int × Int × Int} {i : Nat} (hi : i < 3) (h : L[j]? = some x) (cur : List Value) : (L.flatMap triV ++ cur)[j * 3 + i]? = (triV x)[i]? := by
  obtain ⟨hj, rfl⟩ := List.getElem?_eq_some_iff.1 h
  have hs : L = L.take j ++ L[j] :: L.drop (j + 1) := by
    rw [← List.drop_eq_getElem_cons hj, List.take_append_drop]
  have hl : ((L.take j).flatMap triV).length = j * 3 := by
    have : ∀ M : List (Int × Int × Int), (M.flatMap triV).length = M.length * 3 := fun M => by
      induction M with
      | nil => rfl
      | cons a M ih => rw [List.flatMap_cons, List.length_append, ih]; simp [triV]; omega
    rw [this, List.length_take]; omega
  conv => lhs; rw [hs]
  rw [List.flatMap_append, List.flatMap_cons, List.append_assoc, List.append_assoc, List.getElem?_append_right (by omega), hl, show j * 3 + i - j * 3 = i by omega, List.getElem?_append_left (by simpa [triV] using hi)]
theorem spV_two {es : List En} {i : Nat} (cur : List Value) (h : i < es.length) : cellsAt (spV es es.length ++ cur) (i * 2) 2 = [.int .i64 (fr es i), .int .i64 (to es i)] := by
  have h0 := spV_at (es := es) (i := i) (j := 0) (by omega) cur h
  have h1 := spV_at (es := es) (i := i) (j := 1) (by omega) cur h
  rw [cellsAt_eq]
  have hl0 : i * 2 < (spV es es.length ++ cur).length := (List.getElem?_eq_some_iff.1 h0).1
  have hl1 : i * 2 + 1 < (spV es es.length ++ cur).length := (List.getElem?_eq_some_iff.1 h1).1
  rw [List.drop_eq_getElem_cons hl0, List.drop_eq_getElem_cons hl1]
  have g0 := (List.getElem?_eq_some_iff.1 h0).2
  have g1 := (List.getElem?_eq_some_iff.1 h1).2
  simp only [List.take_succ_cons, List.take_zero]
  rw [g1]
  exact congrArg (· :: _) g0
theorem triF_three {L : List (Int × Int × Int)} {j : Nat} {x : Int × Int × Int} (h : L[j]? = some x) (cur : List Value) : cellsAt (L.flatMap triV ++ cur) (j * 3) 3 = triV x := by
  have h0 := triF_at (i := 0) (by omega) h cur
  have h1 := triF_at (i := 1) (by omega) h cur
  have h2 := triF_at (i := 2) (by omega) h cur
  rw [cellsAt_eq]
  unfold triV at h0 h1 h2 ⊢
  have hl0 : j * 3 < (L.flatMap triV ++ cur).length := (List.getElem?_eq_some_iff.1 h0).1
  have hl1 : j * 3 + 1 < (L.flatMap triV ++ cur).length := (List.getElem?_eq_some_iff.1 h1).1
  have hl2 : j * 3 + 2 < (L.flatMap triV ++ cur).length := (List.getElem?_eq_some_iff.1 h2).1
  unfold triV at hl0 hl1 hl2
  rw [List.drop_eq_getElem_cons hl0, List.drop_eq_getElem_cons hl1, List.drop_eq_getElem_cons hl2]
  have g0 := (List.getElem?_eq_some_iff.1 h0).2
  have g1 := (List.getElem?_eq_some_iff.1 h1).2
  have g2 := (List.getElem?_eq_some_iff.1 h2).2
  simp only [List.take_succ_cons, List.take_zero]
  unfold triV at g0 g1 g2
  rw [g1, g2]
  exact congrArg (· :: _) g0
set_option maxHeartbeats 8000000 in
theorem air_law {sv : Value} {es : List En} {w : World} (h1 : Rd w sv 6 (ensL es)) (hG : Glob w) (hT : Tab10 w) :
    GivesV Tryz.prog 7 [.agg #[sv]] w (.bool true) := by
  have haw : ∀ w', Keeps [] w w' → GivesV Tryz.prog 17 [] w' (.bool true) := fun w' hk => awake_c w' (hG.keeps hk) (hT.keeps hk)
  have h1' := h1
  obtain ⟨a, cap, bb, o, rfl, hcap, hmax, ha, hc⟩ := h1
  rw [ensL_length] at *
  unfold maxLen at hmax
  have hva : ∀ w', Keeps [] w w' → GivesV Tryz.prog 59 [.agg #[.slice a es.length cap]] w' (.bool (validB es)) := fun w' hk => valid_c (h1'.keeps hk)
  refine givesV_of_tr Tryz.func7 rfl rfl ?_
  (refine s_r ?_; refine tr_new (rk_box (.of rfl) rfl) rfl (fun _ _ => ?_); refine a_s rfl rfl ?_; refine n_t ?_; refine tr_seq ?_; refine s_r ?_; refine tr_callV (rk_call (.of rfl) .nil inferInstance normc_) rfl (fun w' hm' => (haw w' (Mem.keeps hm'))) ?_; refine tr_val (rk_not (.of rfl)) rfl ?_; refine m_v rfl rfl ?_; refine tr_vG1 rfl rfl inferInstance (fun hg hgp => (rk_loadB (.of rfl) .here norm_ (by rfl))) rfl ?_; refine tr_callVG1 rfl rfl (fun hg => (rk_call (.of rfl) (.cons (.ofg hg rfl) .nil) inferInstance normc_)) rfl (fun hg w' hm' => (hva w' (Mem.keeps hm'))) ?_; refine tr_vG1 rfl rfl inferInstance (fun hg hgp => (rk_not (.ofg hgp rfl))) rfl ?_; refine tr_val (rk_pick_or (.of rfl) rfl) rfl ?_; refine n_t ?_; refine c_b rfl (fun hcd => ?_) (fun hcd => ?_); refine s_r ?_; refine tr_callV (rk_call (.of rfl) .nil inferInstance normc_) rfl (fun w' hm' => (haw w' (Mem.keeps hm'))) ?_; refine a_s rfl rfl ?_; refine n_t ?_; refine r_t ?_; refine tr_retE rfl (ends1 rfl rfl) ?_; rotate_left; refine s_t ?_; refine s_r ?_; refine tr_val (rk_loadB (.of rfl) .here norm_ (by rfl)) rfl ?_; rotate_right)
  · rfl
  rename_i b1 hb1
  have hv : validB es = true := hcd.2
  clear hcd
  obtain ⟨hsb, h8, hz⟩ := validB_iff hv
  have hfew := shortB_few hsb
  have hs := Sound.of hz
  have hgl := gpL_le es es.length
  have hOn : ∀ (sv' : Value) (f : Int) w', Keeps [] w w' → Rd w' sv' 6 (ensL es) → 0 ≤ f → f ≤ 10000000 → Gives Tryz.prog 22 [.agg #[sv'], .int .i64 f] w' [] (fun _ : Value => True) (fun v => .tuple #[v, .int .i64 0]) (fun v => [row 117 3 v (shF es f).length ((shF es f).flatMap triV)]) := fun sv' f w' hk h f0 f1 => by
    have := onAir_c (f := f) h (hG.keeps hk)
    rwa [airL, airE_in hz f0 f1, if_pos rfl] at this
  have hOw : ∀ w', Keeps [] w w' → _ := fun w' hk => own_c (h1'.keeps hk) hfew
  have hTm : ∀ (sv' : Value) w', Keeps [] w w' → Rd w' sv' 6 (ensL es) → Gives Tryz.prog 19 [.agg #[sv']] w' [] (fun _ : Value => True) (fun v => .tuple #[v, .int .i64 0]) (fun v => [row 66 2 v es.length (spV es es.length)]) := fun sv' w' hk h => by
    have := times_c h (hG.keeps hk)
    rwa [tmL, if_pos hz, spL_length, hz] at this
  have hGp : ∀ (sv' : Value) w', Keeps [] w w' → Rd w' sv' 6 (ensL es) → Gives Tryz.prog 21 [.agg #[sv']] w' [] (fun _ : Value => True) (fun v => .tuple #[v, .int .i64 0]) (fun v => [row 120 3 v (gpL es es.length).length ((gpL es es.length).flatMap triV)]) := fun sv' w' hk h => by
    have := gapsX_c h (hG.keeps hk)
    rwa [gpsL, if_pos hz, hz] at this
  with_reducible apply tr_call
  case hr => exact rk_call (.of rfl) (.cons (.of rfl) .nil) inferInstance normc_
  case hd => rfl
  case ht => exact Takes.nil
  case hc =>
    intro w1 fp hm1 _ hs1
    obtain rfl : fp = [] := hs1
    exact hOw w1 hm1.keeps
  intro o1 _
  dsimp only [id_eq, List.cons_append, List.nil_append]
  with_reducible apply tr_call
  case hr => exact rk_call (.of rfl) (.cons (.of rfl) .nil) inferInstance normc_
  case hd => rfl
  case ht => exact Takes.nil
  case hc =>
    intro w1 fp hm1 _ hs1
    obtain rfl : fp = [] := hs1
    exact hTm o1 w1 hm1.keeps (rdEn (v := o1) hm1 (by exact .here))
  intro t1 _
  dsimp only [id_eq, List.cons_append, List.nil_append]
  (refine m_v rfl rfl ?_; refine tr_val (rk_extract (.of rfl) rfl) rfl ?_; refine tr_val (rk_extract (.of rfl) rfl) rfl ?_; refine a_s rfl rfl ?_; refine a_s rfl rfl ?_; refine n_r ?_; refine tr_val (rk_loadB (.of rfl) (.there (.there .here)) norm_ (by rfl)) rfl ?_)
  with_reducible apply tr_call
  case hr => exact rk_call (.of rfl) (.cons (.of rfl) .nil) inferInstance normc_
  case hd => rfl
  case ht => exact Takes.nil
  case hc =>
    intro w1 fp hm1 _ hs1
    obtain rfl : fp = [] := hs1
    exact hOw w1 hm1.keeps
  intro o2 _
  dsimp only [id_eq, List.cons_append, List.nil_append]
  with_reducible apply tr_call
  case hr => exact rk_call (.of rfl) (.cons (.of rfl) .nil) inferInstance normc_
  case hd => rfl
  case ht => exact Takes.nil
  case hc =>
    intro w1 fp hm1 _ hs1
    obtain rfl : fp = [] := hs1
    exact hGp o2 w1 hm1.keeps (rdEn (v := o2) hm1 (by exact .here))
  intro g1 _
  dsimp only [id_eq, List.cons_append, List.nil_append]
  (refine m_v rfl rfl ?_; refine tr_val (rk_extract (.of rfl) rfl) rfl ?_; refine tr_val (rk_extract (.of rfl) rfl) rfl ?_; refine a_s rfl rfl ?_; refine a_s rfl rfl ?_; refine n_t ?_; refine tr_seq ?_; refine s_r ?_; refine m_v rfl rfl ?_; refine tr_val (rk_neq (.of rfl) (.of rfl)) rfl ?_; refine m_v rfl rfl ?_; refine v_g rfl rfl rfl rfl ?_; refine tr_vG1 rfl rfl inferInstance (fun hg hgp => (rk_neq (.ofg hg rfl) (.of rfl))) rfl ?_; refine tr_val (rk_pick_or (.of rfl) rfl) rfl ?_; refine m_v rfl rfl ?_; refine v_g rfl rfl rfl rfl ?_)
  refine tr_rowSl (E := 66) (sz := 2) (by exact Take.there (.there .here)) fun ta tc e => ?_
  subst e
  refine tr_rowSl (E := 120) (sz := 3) (by exact .here) fun ga gc e => ?_
  subst e
  (refine tr_vG1 rfl rfl inferInstance (fun hg hgp => (rk_len_slice (.ofg hg rfl))) rfl ?_; refine tr_vG1 rfl rfl inferInstance (fun hg hgp => (rk_fieldAddr (.of rfl) norm0_)) rfl ?_; refine tr_vG1 rfl rfl inferInstance (fun hg hgp => (rk_load1 (.ofg hg rfl) (At.lit (.there (.there (.there (.there .here)))) rfl))) rfl ?_; refine tr_vG1 rfl rfl inferInstance (fun hg hgp => (rk_len_slice (.ofg hg rfl))) rfl ?_; refine tr_vG1 rfl rfl inferInstance (fun hg hgp => (rk_neq (.ofg hg rfl) (.ofg hg rfl))) rfl ?_; refine tr_val (rk_pick_or (.of rfl) rfl) rfl ?_; refine m_v rfl rfl ?_; refine v_g rfl rfl rfl rfl ?_; refine tr_vG1 rfl rfl inferInstance (fun hg hgp => (rk_len_slice (.ofg hg rfl))) rfl ?_; refine v_g rfl rfl rfl rfl ?_; refine tr_vG1 rfl rfl inferInstance (fun hg hgp => (rk_len_slice (.ofg hg rfl))) rfl ?_; refine tr_vG1 rfl rfl inferInstance (fun hg hgp => (rk_gtr (.ofg hg rfl) (.ofg hg rfl))) rfl ?_; refine tr_val (rk_pick_or (.of rfl) rfl) rfl ?_; refine n_t ?_; refine c_b rfl (fun _ => by omega) (fun hcd => ?_); refine s_t ?_; refine tr_seq ?_; refine s_r ?_; refine m_v rfl rfl ?_; refine tr_val (rk_len_slice (.of rfl)) rfl ?_; refine m_v rfl rfl ?_; refine n_t ?_; refine tr_block ?_)
  clear hcd
  by_cases hn0 : 0 < es.length
  · refine tr_rowOpen (E := 66) (sz := 2) (by exact Take.there (.there .here)) hn0 fun gT tc2 curT e hkT hxT hzT hlT => ?_
    obtain ⟨rfl, -, rfl⟩ := Value.slice.inj e
    refine tr_for (ι := Nat) (fun k => k ≤ es.length) (fun k => [(77, .int .i64 (k : Int)), (1, .pointer (some ⟨b1, 0, none⟩)), (3, .slice (some ⟨gT, 0, none⟩) es.length tc), (5, .slice ga (gpL es es.length).length gc), (75, .slice (some ⟨gT, 0, none⟩) es.length tc), (76, .int .i64 es.length)]) (fun _ => [blk b1 (.cells #[.slice a es.length cap] 24), blk gT (.cells (spV es es.length ++ curT).toArray 66), row 120 3 (.slice ga (gpL es es.length).length gc) (gpL es es.length).length ((gpL es es.length).flatMap triV)]) (fun k => es.length - k) ?_ ?_
    · apply tr_start (0 : Nat) (show (0 : Nat) ≤ es.length from Nat.zero_le _)
      case hs1 => exact .cons rfl (.cons rfl (.cons rfl (.cons rfl (.cons rfl (.cons rfl .nil)))))
      case ht => exact .cons (.there (.there (.there (.there .here)))) (.cons .here (.cons .here .nil))
    intro k hk
    by_cases hlt : k < es.length
    · have ha' := ha (ensL_ne hlt)
      have hcell := (hc k _ (ensL_get hlt)).2
      have c4 := hcell 4 _ rfl
      have hk1 : ((k : Int) - 1).toNat = k - 1 := by omega
      have p5 : w.cell? ⟨bb, o + ((k : Int) - 1).toNat * 6 + 5, none⟩ = some (.int .i64 (nth es (k - 1)).ov) := by rw [hk1]; exact (hc (k - 1) _ (ensL_get (by omega))).2 5 _ rfl
      have q2 := spV_two curT hlt
      have q0 : (spV es es.length ++ curT)[((k : Int) - 1).toNat * 2]? = some (.int .i64 (fr es (k - 1))) := by rw [hk1]; exact spV_at (j := 0) (by omega) curT (by omega)
      have q1 : (spV es es.length ++ curT)[((k : Int) - 1).toNat * 2 + 1]? = some (.int .i64 (to es (k - 1))) := by rw [hk1]; exact spV_at (j := 1) (by omega) curT (by omega)
      have b0 := hs.fr_nn hlt
      have b1' := hs.fr_nn (k := k - 1) (by omega)
      have ok0 := hs.all.ok k hlt
      have ok1 := hs.all.ok (k - 1) (by omega)
      have hln := ok0.ln
      have hov := ok1.ov
      have hto : to es k = fr es k + (nth es k).ln := rfl
      have hnx : 0 < k → to es (k - 1) - (nth es (k - 1)).ov ≤ fr es k ∧ fr es (k - 1) < fr es k ∧ to es (k - 1) < to es k := fun h => by
        have := hs.next (k := k - 1) (by omega)
        rwa [show k - 1 + 1 = k by omega, show jn es k = to es (k - 1) - (nth es (k - 1)).ov by rw [← jn_succ, show k - 1 + 1 = k by omega]] at this
      unfold En.cells at hcell
      (refine s_r ?_; refine tr_val (rk_lss (.of rfl) (.of rfl)) rfl ?_; refine n_t ?_; refine tr_seq ?_; refine c_d rfl (fun hcd => ?_) (fun _ => by omega); refine s_t ?_; refine tr_seq ?_; refine tr_block ?_; refine s_r ?_; refine m_v rfl rfl ?_; refine tr_val (rk_indexAddr (.of rfl) (.of rfl) rfl (by omega) hcd norm1_) rfl ?_; refine tr_val (rk_loadB (.of rfl) (.there .here) q2 rfl) rfl ?_; refine tr_new (rk_alloc rfl) rfl (fun _ _ => ?_); refine a_s rfl rfl ?_; refine tr_store (.of rfl) (.of rfl) .here rfl rfl (okc_cons rfl (okc_cons rfl okc_nil)) (lenb rfl) norm_ ?_; refine n_t ?_; refine tr_seq ?_; refine tr_seq ?_)
      rename_i b8 hb8
      with_reducible refine tr_draw 67 (by kernel_rfl) ?_
      dsimp only [List.append]
      (refine a_f rfl rfl norm0_ ?_; refine any_val (rk_load1 (.of rfl) (At.lit .here rfl)) rfl ?_; refine any_val (rk_lss (.of rfl) (.of rfl)) rfl ?_; refine a_m rfl rfl ?_; refine any_vG1 rfl rfl inferInstance (fun hg hgp => (rk_fieldAddr (.of rfl) norm0_)) rfl ?_; refine any_vG1 rfl rfl inferInstance (fun hg hgp => (rk_load1 (.ofg hg rfl) (At.lit .here rfl))) rfl ?_; refine any_vG1 rfl rfl inferInstance (fun hg hgp => (rk_fieldAddr (.of rfl) norm0_)) rfl ?_; refine any_vG1 rfl rfl inferInstance (fun hg hgp => (rk_load1 (.ofg hg rfl) (At.lit .here rfl))) rfl ?_; refine any_vG1 rfl rfl inferInstance (fun hg hgp => (rk_sub (.ofg hg rfl) (.ofg hg rfl) (ini (by omega)))) rfl ?_; refine any_vG1 rfl rfl inferInstance (fun hg hgp => (rk_fieldAddr (.of rfl) norm0_)) rfl ?_; refine any_vG1 rfl rfl inferInstance (fun hg hgp => (rk_load1 (.ofg hg rfl) (At.lit (.there .here) rfl))) rfl ?_; refine any_vG1 rfl rfl inferInstance (fun hg hgp => (rk_move (.of rfl))) rfl ?_; refine any_vG1 rfl rfl inferInstance (fun hg hgp => (rk_indexAddr (.ofg hg rfl) (.ofg hg rfl) ha' (by omega) hcd norm1_)) rfl ?_; refine any_vG1 rfl rfl inferInstance (fun hg hgp => (rk_fieldAddr (.ofg hg rfl) norm0_)) rfl ?_; refine any_vG1 rfl rfl inferInstance (fun hg hgp => (rk_load1 (.ofg hg rfl) (At.base c4 rfl))) rfl ?_; refine any_vG1 rfl rfl inferInstance (fun hg hgp => (rk_neq (.ofg hg rfl) (.ofg hg rfl))) rfl ?_; refine any_val (rk_pick_or (.of rfl) rfl) rfl ?_; refine a_m rfl rfl ?_; refine any_vG1 rfl rfl inferInstance (fun hg hgp => (rk_fieldAddr (.of rfl) norm0_)) rfl ?_; refine any_vG1 rfl rfl inferInstance (fun hg hgp => (rk_load1 (.ofg hg rfl) (At.lit .here rfl))) rfl ?_; refine any_vG1 rfl rfl inferInstance (fun hg hgp => (rk_gtr (.ofg hg rfl) (.of rfl))) rfl ?_; refine any_val (rk_pick_or (.of rfl) rfl) rfl ?_; refine a_m rfl rfl ?_; refine any_vG1 rfl rfl inferInstance (fun hg hgp => (rk_move (.of rfl))) rfl ?_; refine any_vG1 rfl rfl inferInstance (fun hg hgp => (rk_gtr (.ofg hg rfl) (.of rfl))) rfl ?_; refine any_vG1 rfl rfl inferInstance (fun hg hgp => (rk_move (.ofg hg rfl))) rfl ?_; refine any_vG rfl rfl inferInstance (fun hg hgp => (rk_fieldAddr (.of rfl) norm0_)) rfl ?_; refine any_vG rfl rfl inferInstance (fun hg hgp => (rk_load1 (.ofg hg rfl) (At.lit .here rfl))) rfl ?_; refine any_vG rfl rfl inferInstance (fun hg hgp => (rk_move (.of rfl))) rfl ?_; refine any_vG rfl rfl inferInstance (fun hg hgp => (rk_move (.of rfl))) rfl ?_; refine any_vG rfl rfl inferInstance (fun hg hgp => (rk_sub (.ofg hg rfl) (.of rfl) (ini (by omega)))) rfl ?_; refine any_vG rfl rfl inferInstance (fun hg hgp => (rk_indexAddr (.ofg hg rfl) (.ofg hg rfl) rfl (by omega) (by omega) norm1_)) rfl ?_; refine any_vG rfl rfl inferInstance (fun hg hgp => (rk_fieldAddr (.ofg hg rfl) norm0_)) rfl ?_; refine any_vG rfl rfl inferInstance (fun hg hgp => (rk_load1 (.ofg hg rfl) (At.blkL (.there (.there .here)) q0))) rfl ?_; refine any_vG rfl rfl inferInstance (fun hg hgp => (rk_leq (.ofg hg rfl) (.ofg hg rfl))) rfl ?_; refine any_vG rfl rfl inferInstance (fun hg hgp => (rk_move (.ofg hg rfl))) rfl ?_; refine any_vG rfl rfl inferInstance (fun hg hgp => (rk_fieldAddr (.of rfl) norm0_)) rfl ?_; refine any_vG rfl rfl inferInstance (fun hg hgp => (rk_load1 (.ofg hg rfl) (At.lit .here rfl))) rfl ?_; refine any_vG rfl rfl inferInstance (fun hg hgp => (rk_move (.of rfl))) rfl ?_; refine any_vG rfl rfl inferInstance (fun hg hgp => (rk_move (.of rfl))) rfl ?_; refine any_vG rfl rfl inferInstance (fun hg hgp => (rk_sub (.ofg hg rfl) (.of rfl) (ini (by omega)))) rfl ?_; refine any_vG rfl rfl inferInstance (fun hg hgp => (rk_indexAddr (.ofg hg rfl) (.ofg hg rfl) rfl (by omega) (by omega) norm1_)) rfl ?_; refine any_vG rfl rfl inferInstance (fun hg hgp => (rk_fieldAddr (.ofg hg rfl) norm0_)) rfl ?_; refine any_vG rfl rfl inferInstance (fun hg hgp => (rk_load1 (.ofg hg rfl) (At.blkL (.there (.there .here)) q1))) rfl ?_; refine any_vG rfl rfl inferInstance (fun hg hgp => (rk_leq (.ofg hg rfl) (.ofg hg rfl))) rfl ?_; refine any_vG rfl rfl inferInstance (fun hg hgp => (rk_pick_or' hg (.ofg hg rfl) rfl)) rfl ?_; refine any_vG rfl rfl inferInstance (fun hg hgp => (rk_move (.ofg hg rfl))) rfl ?_; refine any_vG rfl rfl inferInstance (fun hg hgp => (rk_fieldAddr (.of rfl) norm0_)) rfl ?_; refine any_vG rfl rfl inferInstance (fun hg hgp => (rk_load1 (.ofg hg rfl) (At.lit .here rfl))) rfl ?_; refine any_vG rfl rfl inferInstance (fun hg hgp => (rk_move (.of rfl))) rfl ?_; refine any_vG rfl rfl inferInstance (fun hg hgp => (rk_move (.of rfl))) rfl ?_; refine any_vG rfl rfl inferInstance (fun hg hgp => (rk_sub (.ofg hg rfl) (.of rfl) (ini (by omega)))) rfl ?_; refine any_vG rfl rfl inferInstance (fun hg hgp => (rk_indexAddr (.ofg hg rfl) (.ofg hg rfl) rfl (by omega) (by omega) norm1_)) rfl ?_; refine any_vG rfl rfl inferInstance (fun hg hgp => (rk_fieldAddr (.ofg hg rfl) norm0_)) rfl ?_; refine any_vG rfl rfl inferInstance (fun hg hgp => (rk_load1 (.ofg hg rfl) (At.blkL (.there (.there .here)) q1))) rfl ?_; refine any_vG rfl rfl inferInstance (fun hg hgp => (rk_fieldAddr (.of rfl) norm0_)) rfl ?_; refine any_vG rfl rfl inferInstance (fun hg hgp => (rk_load1 (.ofg hg rfl) (At.lit (.there .here) rfl))) rfl ?_; refine any_vG rfl rfl inferInstance (fun hg hgp => (rk_move (.of rfl))) rfl ?_; refine any_vG rfl rfl inferInstance (fun hg hgp => (rk_sub (.ofg hg rfl) (.of rfl) (ini (by omega)))) rfl ?_; refine any_vG rfl rfl inferInstance (fun hg hgp => (rk_indexAddr (.ofg hg rfl) (.ofg hg rfl) ha' (by omega) (by omega) norm1_)) rfl ?_; refine any_vG rfl rfl inferInstance (fun hg hgp => (rk_fieldAddr (.ofg hg rfl) norm0_)) rfl ?_; refine any_vG rfl rfl inferInstance (fun hg hgp => (rk_load1 (.ofg hg rfl) (At.base p5 rfl))) rfl ?_; refine any_vG rfl rfl inferInstance (fun hg hgp => (rk_sub (.ofg hg rfl) (.ofg hg rfl) (ini (by omega)))) rfl ?_; refine any_vG rfl rfl inferInstance (fun hg hgp => (rk_lss (.ofg hg rfl) (.ofg hg rfl))) rfl ?_; refine any_vG rfl rfl inferInstance (fun hg hgp => (rk_pick_or' hg (.ofg hg rfl) rfl)) rfl ?_; refine any_vG1 rfl rfl inferInstance (fun hg hgp => (rk_pick_and' hg (.ofg hg rfl) rfl)) rfl ?_; refine any_val (rk_pick_or (.of rfl) rfl) rfl ?_)
      with_reducible refine any_end ?_
      (refine n_t ?_; refine c_b rfl (fun _ => by omega) (fun hcd => ?_); refine s_t ?_; refine tr_seq ?_; refine s_r ?_; refine f_a rfl rfl norm0_ ?_; refine tr_val (rk_load1 (.of rfl) (At.lit .here rfl)) rfl ?_; refine tr_val (rk_sub (.of rfl) (.of rfl) (ini (by omega))) rfl ?_; refine f_a rfl rfl norm0_ ?_; refine tr_val (rk_load1 (.of rfl) (At.lit .here rfl)) rfl ?_; refine f_a rfl rfl norm0_ ?_; refine tr_val (rk_load1 (.of rfl) (At.lit .here rfl)) rfl ?_; refine tr_val (rk_add (.of rfl) (.of rfl) (ini (by omega))) rfl ?_; refine f_a rfl rfl norm0_ ?_; refine tr_val (rk_load1 (.of rfl) (At.lit .here rfl)) rfl ?_; refine f_a rfl rfl norm0_ ?_; refine tr_val (rk_load1 (.of rfl) (At.lit .here rfl)) rfl ?_; refine tr_val (rk_add (.of rfl) (.of rfl) (ini (by omega))) rfl ?_; refine tr_val (rk_quo (.of rfl) (.of rfl) (by omega) (by omega) (by omega)) rfl ?_; refine f_a rfl rfl norm0_ ?_; refine tr_val (rk_load1 (.of rfl) (At.lit .here rfl)) rfl ?_; refine tr_val (rk_sub (.of rfl) (.of rfl) (ini (by omega))) rfl ?_; refine f_a rfl rfl norm0_ ?_; refine tr_val (rk_load1 (.of rfl) (At.lit .here rfl)) rfl ?_; refine tr_new (rk_sliceLit (.cons (.of rfl) (.cons (.of rfl) (.cons (.of rfl) (.cons (.of rfl) (.cons (.of rfl) (.cons (.of rfl) .nil)))))) rfl rfl rfl rfl) rfl (fun _ _ => ?_); refine tr_val (rk_len_slice (.of rfl)) rfl ?_; refine m_v rfl rfl ?_; refine n_t ?_; refine tr_block ?_)
      clear hcd
      rename_i bF hbF
      refine tr_rowLitE (g := bF) (E := 3) (ys := (fsL (fr es k) (to es k)).map (Value.int .i64)) 6 1 (by exact .here) (by exact rfl) rfl rfl ?_
      refine tr_rowOpen (E := 3) (sz := 1) (by exact .here) (by decide) fun gF cF curF e hkF hxF hzF hlF => ?_
      obtain ⟨e1, -, rfl⟩ := Value.slice.inj e
      obtain rfl : bF = gF := by injection e1 with e1; injection e1
      clear e e1
      refine tr_for (ι := Nat) (fun j => j ≤ 6) (fun j => [(170, .int .i64 (j : Int)), (168, .slice (some ⟨bF, 0, none⟩) 6 6), (169, .int .i64 ((6 : Nat) : Int)), (8, .pointer (some ⟨b8, 0, none⟩)), (7, .int .i64 (k : Int)), (77, .int .i64 (k : Int)), (1, .pointer (some ⟨b1, 0, none⟩)), (3, .slice (some ⟨gT, 0, none⟩) es.length tc), (5, .slice ga (gpL es es.length).length gc), (75, .slice (some ⟨gT, 0, none⟩) es.length tc), (76, .int .i64 es.length)]) (fun _ => [blk bF (.cells ((fsL (fr es k) (to es k)).map (Value.int .i64) ++ curF).toArray 3), blk b8 (.cells #[.int .i64 (fr es k), .int .i64 (to es k)] 66), blk b1 (.cells #[.slice a es.length cap] 24), blk gT (.cells (spV es es.length ++ curT).toArray 66), row 120 3 (.slice ga (gpL es es.length).length gc) (gpL es es.length).length ((gpL es es.length).flatMap triV)]) (fun j => 6 - j) ?_ ?_
      · apply tr_start (0 : Nat) (show (0 : Nat) ≤ 6 from Nat.zero_le _)
        case hs1 => exact .cons rfl (.cons rfl (.cons rfl (.cons rfl (.cons rfl (.cons rfl (.cons rfl (.cons rfl (.cons rfl (.cons rfl (.cons rfl .nil))))))))))
        case ht => exact .cons .here (.cons .here (.cons .here (.cons .here (.cons .here .nil))))
      intro j hj
      by_cases hlj : j < 6
      · obtain ⟨f, hf⟩ : ∃ f, (fsL (fr es k) (to es k))[j]? = some f := ⟨_, List.getElem?_eq_getElem (show j < (fsL (fr es k) (to es k)).length from hlj)⟩
        obtain ⟨f0, f1⟩ := fsL_in hf b0.1 b0.2.1 b0.2.2
        have qf : ((fsL (fr es k) (to es k)).map (Value.int .i64) ++ curF)[j * 1]? = some (.int .i64 f) := by
          rw [Nat.mul_one, List.getElem?_append_left (show j < ((fsL (fr es k) (to es k)).map (Value.int .i64)).length from hlj), List.getElem?_map, hf]; rfl
        (refine s_r ?_; refine tr_val (rk_lss (.of rfl) (.of rfl)) rfl ?_; refine n_t ?_; refine tr_seq ?_; refine c_d rfl (fun hcd => ?_) (fun _ => by omega); refine s_t ?_; refine tr_seq ?_; refine tr_block ?_; refine s_r ?_; refine tr_val (rk_indexAddr (.of rfl) (.of rfl) rfl (by omega) hcd norm1_) rfl ?_; refine tr_val (rk_load1 (.of rfl) (At.blkL .here qf)) rfl ?_; refine a_s rfl rfl ?_; refine n_t ?_; refine tr_seq ?_; refine s_r ?_; refine m_v rfl rfl ?_; refine tr_val (rk_lss (.of rfl) (.of rfl)) rfl ?_; refine n_t ?_; refine c_d rfl (fun hcd => ?_) (fun hcd => ?_); refine x_t ?_; refine tr_blk_exit ?_; refine tr_then ?_; refine tr_region ?_; refine tr_val (rk_add (.of rfl) (.of rfl) (ini (by omega))) rfl ?_; refine m_v rfl rfl ?_; refine n_t ?_; rotate_left; refine s_t ?_; refine s_r ?_; refine tr_val (rk_loadB (.of rfl) (.there (.there .here)) norm_ (by rfl)) rfl ?_; rotate_right)
        · apply tr_next (j + 1) (show j + 1 ≤ 6 from hlj) (show 6 - (j + 1) < 6 - j by omega)
          case hs1 => exact .cons rfl (.cons rfl (.cons rfl (.cons rfl (.cons rfl (.cons rfl (.cons rfl (.cons rfl (.cons rfl (.cons rfl (.cons rfl .nil))))))))))
          case ht => exact .cons .here (.cons .here (.cons .here (.cons .here (.cons .here .nil))))
        have hfn : 0 ≤ f := by omega
        obtain ⟨hp1, hp2, hp3, hp4⟩ := hs.parts f
        with_reducible apply tr_call
        case hr => exact rk_call (.of rfl) (.cons (.of rfl) .nil) inferInstance normc_
        case hd => rfl
        case ht => exact Takes.nil
        case hc =>
          intro w1 fp hm1 _ hs1
          obtain rfl : fp = [] := hs1
          exact hOw w1 hm1.keeps
        intro o3 _
        dsimp only [id_eq, List.cons_append, List.nil_append]
        refine m_v rfl rfl ?_
        with_reducible apply tr_call
        case hr => exact rk_call (.of rfl) (.cons (.of rfl) (.cons (.of rfl) .nil)) inferInstance normc_
        case hd => rfl
        case ht => exact Takes.nil
        case hc =>
          intro w1 fp hm1 _ hs1
          obtain rfl : fp = [] := hs1
          exact hOn o3 f w1 hm1.keeps (rdEn (v := o3) hm1 (by exact .here)) hfn f1
        intro v3 _
        dsimp only [id_eq, List.cons_append, List.nil_append]
        (refine m_v rfl rfl ?_; refine tr_val (rk_extract (.of rfl) rfl) rfl ?_; refine tr_val (rk_extract (.of rfl) rfl) rfl ?_; refine a_s rfl rfl ?_; refine a_s rfl rfl ?_; refine n_t ?_; refine tr_seq ?_; refine s_r ?_; refine m_v rfl rfl ?_; refine tr_val (rk_neq (.of rfl) (.of rfl)) rfl ?_; refine m_v rfl rfl ?_; refine v_g rfl rfl rfl rfl ?_)
        by_cases hL : 0 < (shF es f).length
        · refine tr_rowOpen (E := 117) (sz := 3) (by exact .here) hL fun gL cL curL e hkL hxL hzL hlL => ?_
          subst e
          (refine tr_vG1 rfl rfl inferInstance (fun hg hgp => (rk_len_slice (.ofg hg rfl))) rfl ?_; refine tr_vG1 rfl rfl inferInstance (fun hg hgp => (rk_gtr (.ofg hg rfl) (.of rfl))) rfl ?_; refine tr_val (rk_pick_or (.of rfl) rfl) rfl ?_; refine n_t ?_; refine c_d rfl (fun _ => by omega) (fun hcd => ?_); refine s_t ?_; refine s_r ?_; refine a_s rfl rfl ?_; refine a_s rfl rfl ?_; refine n_r ?_; refine a_s rfl rfl ?_; refine n_t ?_; refine tr_seq ?_; refine s_r ?_; refine m_v rfl rfl ?_; refine tr_val (rk_len_slice (.of rfl)) rfl ?_; refine m_v rfl rfl ?_; refine n_t ?_; refine tr_block ?_)
          clear hcd
          refine tr_for (ι := Nat × Int) (fun x => x.1 ≤ es.length ∧ x.2 = ((onL es f x.1).length : Int)) (fun x => [(192, .int .i64 (x.1 : Int)), (15, .int .i64 x.2), (10, .int .i64 f), (11, .slice (some ⟨gL, 0, none⟩) (shF es f).length cL), (13, .int .i64 0), (14, .int .i64 1), (190, .slice (some ⟨gT, 0, none⟩) es.length tc), (191, .int .i64 es.length), (170, .int .i64 (j : Int)), (168, .slice (some ⟨bF, 0, none⟩) 6 6), (169, .int .i64 ((6 : Nat) : Int)), (8, .pointer (some ⟨b8, 0, none⟩)), (7, .int .i64 (k : Int)), (77, .int .i64 (k : Int)), (1, .pointer (some ⟨b1, 0, none⟩)), (3, .slice (some ⟨gT, 0, none⟩) es.length tc), (5, .slice ga (gpL es es.length).length gc), (75, .slice (some ⟨gT, 0, none⟩) es.length tc), (76, .int .i64 es.length)]) (fun _ => [blk gL (.cells ((shF es f).flatMap triV ++ curL).toArray 117), blk bF (.cells ((fsL (fr es k) (to es k)).map (Value.int .i64) ++ curF).toArray 3), blk b8 (.cells #[.int .i64 (fr es k), .int .i64 (to es k)] 66), blk b1 (.cells #[.slice a es.length cap] 24), blk gT (.cells (spV es es.length ++ curT).toArray 66), row 120 3 (.slice ga (gpL es es.length).length gc) (gpL es es.length).length ((gpL es es.length).flatMap triV)]) (fun x => es.length - x.1) ?_ ?_
          · apply tr_start (0, 0) ⟨Nat.zero_le _, rfl⟩
            case hs1 => exact .cons rfl (.cons rfl (.cons rfl (.cons rfl (.cons rfl (.cons rfl (.cons rfl (.cons rfl (.cons rfl (.cons rfl (.cons rfl (.cons rfl (.cons rfl (.cons rfl (.cons rfl (.cons rfl (.cons rfl (.cons rfl (.cons rfl .nil))))))))))))))))))
            case ht => exact .cons .here (.cons (.there .here) (.cons (.there .here) (.cons (.there .here) (.cons (.there .here) (.cons (.there .here) .nil)))))
          rintro ⟨i, hv⟩ ⟨hi, hvE⟩
          dsimp only at hi hvE ⊢
          by_cases hli : i < es.length
          · have q3 := spV_two curT hli
            have hsucc := onL_lenS es f i
            have hle := onL_le es f i
            cases hb : onB es f i with
            | false =>
              rw [hb, if_neg (by decide)] at hsucc
              have hoff : ¬ (fr es i ≤ f ∧ f < to es i) := by
                intro h
                unfold onB at hb
                rw [decide_eq_true h.1, decide_eq_true h.2] at hb
                cases hb
              (refine s_r ?_; refine tr_val (rk_lss (.of rfl) (.of rfl)) rfl ?_; refine n_t ?_; refine tr_seq ?_; refine c_d rfl (fun hcd => ?_) (fun _ => by omega); refine s_t ?_; refine tr_seq ?_; refine tr_block ?_; refine s_r ?_; refine m_v rfl rfl ?_; refine tr_val (rk_indexAddr (.of rfl) (.of rfl) rfl (by omega) hcd norm1_) rfl ?_; refine tr_val (rk_loadB (.of rfl) (.there (.there (.there (.there .here)))) q3 rfl) rfl ?_; refine tr_new (rk_alloc rfl) rfl (fun _ _ => ?_); refine a_s rfl rfl ?_; refine tr_store (.of rfl) (.of rfl) .here rfl rfl (okc_cons rfl (okc_cons rfl okc_nil)) (lenb rfl) norm_ ?_; refine n_r ?_; refine m_v rfl rfl ?_; refine f_a rfl rfl norm0_ ?_; refine tr_val (rk_load1 (.of rfl) (At.lit .here rfl)) rfl ?_; refine tr_val (rk_geq (.of rfl) (.of rfl)) rfl ?_; refine m_v rfl rfl ?_; refine v_g rfl rfl rfl rfl ?_; refine tr_vG1 rfl rfl inferInstance (fun hg hgp => (rk_fieldAddr (.of rfl) norm0_)) rfl ?_; refine tr_vG1 rfl rfl inferInstance (fun hg hgp => (rk_load1 (.ofg hg rfl) (At.lit .here rfl))) rfl ?_; refine tr_vG1 rfl rfl inferInstance (fun hg hgp => (rk_lss (.ofg hg rfl) (.ofg hg rfl))) rfl ?_; refine tr_val (rk_pick_and (.of rfl) rfl) rfl ?_; refine n_t ?_; refine c_b rfl (fun _ => by omega) (fun hcd => ?_); refine tr_skip ?_; refine tr_blk_normal ?_; refine tr_then ?_; refine tr_region ?_; refine tr_val (rk_add (.of rfl) (.of rfl) (ini (by omega))) rfl ?_; refine m_v rfl rfl ?_; refine n_t ?_)
              apply tr_next (i + 1, hv) ⟨(show i + 1 ≤ es.length from hli), (by show hv = ((onL es f (i + 1)).length : Int); omega)⟩ (show es.length - (i + 1) < es.length - i by omega)
              case hs1 => exact .cons rfl (.cons rfl (.cons rfl (.cons rfl (.cons rfl (.cons rfl (.cons rfl (.cons rfl (.cons rfl (.cons rfl (.cons rfl (.cons rfl (.cons rfl (.cons rfl (.cons rfl (.cons rfl (.cons rfl (.cons rfl (.cons rfl .nil))))))))))))))))))
              case ht => exact .cons (.there .here) (.cons (.there .here) (.cons (.there .here) (.cons (.there .here) (.cons (.there .here) (.cons (.there .here) .nil)))))
            | true =>
              rw [hb, if_pos rfl] at hsucc
              have hon : fr es i ≤ f ∧ f < to es i := by simpa [onB] using hb
              obtain ⟨p, hp⟩ := hs.shF_nth hli hb
              have hpl := (List.getElem?_eq_some_iff.1 hp).1
              have t0 : ((shF es f).flatMap triV ++ curL)[hv.toNat * 3]? = some (.int .i64 (i : Int)) := by
                rw [show hv.toNat = (onL es f i).length by omega]; exact triF_at (i := 0) (by omega) hp curL
              (refine s_r ?_; refine tr_val (rk_lss (.of rfl) (.of rfl)) rfl ?_; refine n_t ?_; refine tr_seq ?_; refine c_d rfl (fun hcd => ?_) (fun _ => by omega); refine s_t ?_; refine tr_seq ?_; refine tr_block ?_; refine s_r ?_; refine m_v rfl rfl ?_; refine tr_val (rk_indexAddr (.of rfl) (.of rfl) rfl (by omega) hcd norm1_) rfl ?_; refine tr_val (rk_loadB (.of rfl) (.there (.there (.there (.there .here)))) q3 rfl) rfl ?_; refine tr_new (rk_alloc rfl) rfl (fun _ _ => ?_); refine a_s rfl rfl ?_; refine tr_store (.of rfl) (.of rfl) .here rfl rfl (okc_cons rfl (okc_cons rfl okc_nil)) (lenb rfl) norm_ ?_; refine n_r ?_; refine m_v rfl rfl ?_; refine f_a rfl rfl norm0_ ?_; refine tr_val (rk_load1 (.of rfl) (At.lit .here rfl)) rfl ?_; refine tr_val (rk_geq (.of rfl) (.of rfl)) rfl ?_; refine m_v rfl rfl ?_; refine v_g rfl rfl rfl rfl ?_; refine tr_vG1 rfl rfl inferInstance (fun hg hgp => (rk_fieldAddr (.of rfl) norm0_)) rfl ?_; refine tr_vG1 rfl rfl inferInstance (fun hg hgp => (rk_load1 (.ofg hg rfl) (At.lit .here rfl))) rfl ?_; refine tr_vG1 rfl rfl inferInstance (fun hg hgp => (rk_lss (.ofg hg rfl) (.ofg hg rfl))) rfl ?_; refine tr_val (rk_pick_and (.of rfl) rfl) rfl ?_; refine n_t ?_; refine c_b rfl (fun hcd => ?_) (fun _ => by omega); refine tr_seq ?_; refine s_r ?_; refine m_v rfl rfl ?_; refine m_v rfl rfl ?_; refine tr_val (rk_len_slice (.of rfl)) rfl ?_; refine tr_val (rk_geq (.of rfl) (.of rfl)) rfl ?_; refine m_v rfl rfl ?_; refine v_g rfl rfl rfl rfl ?_; refine v_g rfl rfl rfl rfl ?_; refine tr_vG1 rfl rfl inferInstance (fun hg hgp => (rk_indexAddr (.ofg hg rfl) (.ofg hg rfl) rfl (by omega) (by omega) norm1_)) rfl ?_; refine tr_vG1 rfl rfl inferInstance (fun hg hgp => (rk_fieldAddr (.ofg hg rfl) norm0_)) rfl ?_; refine tr_vG1 rfl rfl inferInstance (fun hg hgp => (rk_load1 (.ofg hg rfl) (At.blkL (.there .here) t0))) rfl ?_; refine v_g rfl rfl rfl rfl ?_; refine tr_vG1 rfl rfl inferInstance (fun hg hgp => (rk_neq (.ofg hg rfl) (.ofg hg rfl))) rfl ?_; refine tr_val (rk_pick_or (.of rfl) rfl) rfl ?_; refine n_t ?_; refine c_b rfl (fun _ => by omega) (fun hcd => ?_); refine s_t ?_; refine tr_region ?_; refine m_v rfl rfl ?_; refine tr_val (rk_add (.of rfl) (.of rfl) (ini (by omega))) rfl ?_; refine a_s rfl rfl ?_; refine tr_nil ?_; refine tr_blk_normal ?_; refine tr_then ?_; refine tr_region ?_; refine tr_val (rk_add (.of rfl) (.of rfl) (ini (by omega))) rfl ?_; refine m_v rfl rfl ?_; refine n_t ?_)
              apply tr_next (i + 1, hv + 1) ⟨(show i + 1 ≤ es.length from hli), (by show hv + 1 = ((onL es f (i + 1)).length : Int); omega)⟩ (show es.length - (i + 1) < es.length - i by omega)
              case hs1 => exact .cons rfl (.cons rfl (.cons rfl (.cons rfl (.cons rfl (.cons rfl (.cons rfl (.cons rfl (.cons rfl (.cons rfl (.cons rfl (.cons rfl (.cons rfl (.cons rfl (.cons rfl (.cons rfl (.cons rfl (.cons rfl (.cons rfl .nil))))))))))))))))))
              case ht => exact .cons (.there .here) (.cons (.there .here) (.cons (.there .here) (.cons (.there .here) (.cons (.there .here) (.cons (.there .here) .nil)))))
          obtain rfl : i = es.length := by omega
          have hvl : hv = ((shF es f).length : Int) := by rw [hvE, ← hs.shF_len f]
          (refine s_r ?_; refine tr_val (rk_lss (.of rfl) (.of rfl)) rfl ?_; refine n_t ?_; refine tr_seq ?_; refine c_d rfl (fun _ => by omega) (fun hcd => ?_); refine x_t ?_; refine tr_then_exit ?_; refine tr_blk_exit ?_; refine tr_then ?_; refine tr_seq ?_; refine s_r ?_; refine m_v rfl rfl ?_; refine m_v rfl rfl ?_; refine tr_val (rk_len_slice (.of rfl)) rfl ?_; refine tr_val (rk_neq (.of rfl) (.of rfl)) rfl ?_; refine n_t ?_; refine c_d rfl (fun _ => by omega) (fun hcd => ?_); refine s_t ?_; refine tr_seq ?_; refine s_r ?_; refine m_v rfl rfl ?_; refine tr_val (rk_len_slice (.of rfl)) rfl ?_; refine m_v rfl rfl ?_; refine n_t ?_; refine tr_block ?_)
          refine tr_for (ι := Nat × Int × Int) (fun x => x.1 ≤ (shF es f).length ∧ x.2 = ndF (shF es f) x.1) (fun x => [(229, .int .i64 (x.1 : Int)), (13, .int .i64 x.2.1), (14, .int .i64 x.2.2), (10, .int .i64 f), (11, .slice (some ⟨gL, 0, none⟩) (shF es f).length cL), (227, .slice (some ⟨gL, 0, none⟩) (shF es f).length cL), (228, .int .i64 ((shF es f).length : Int)), (170, .int .i64 (j : Int)), (168, .slice (some ⟨bF, 0, none⟩) 6 6), (169, .int .i64 ((6 : Nat) : Int)), (8, .pointer (some ⟨b8, 0, none⟩)), (7, .int .i64 (k : Int)), (77, .int .i64 (k : Int)), (1, .pointer (some ⟨b1, 0, none⟩)), (3, .slice (some ⟨gT, 0, none⟩) es.length tc), (5, .slice ga (gpL es es.length).length gc), (75, .slice (some ⟨gT, 0, none⟩) es.length tc), (76, .int .i64 es.length)]) (fun _ => [blk gL (.cells ((shF es f).flatMap triV ++ curL).toArray 117), blk bF (.cells ((fsL (fr es k) (to es k)).map (Value.int .i64) ++ curF).toArray 3), blk b8 (.cells #[.int .i64 (fr es k), .int .i64 (to es k)] 66), blk b1 (.cells #[.slice a es.length cap] 24), blk gT (.cells (spV es es.length ++ curT).toArray 66), row 120 3 (.slice ga (gpL es es.length).length gc) (gpL es es.length).length ((gpL es es.length).flatMap triV)]) (fun x => (shF es f).length - x.1) ?_ ?_
          · apply tr_start (0, 0, 1) ⟨Nat.zero_le _, rfl⟩
            case hs1 => exact .cons rfl (.cons rfl (.cons rfl (.cons rfl (.cons rfl (.cons rfl (.cons rfl (.cons rfl (.cons rfl (.cons rfl (.cons rfl (.cons rfl (.cons rfl (.cons rfl (.cons rfl (.cons rfl (.cons rfl (.cons rfl .nil)))))))))))))))))
            case ht => exact .cons .here (.cons .here (.cons .here (.cons .here (.cons .here (.cons .here .nil)))))
          rintro ⟨m, nu, de⟩ ⟨hm, hnd⟩
          dsimp only at hm hnd ⊢
          have hmb := hp3 m hm
          rw [← hnd] at hmb
          dsimp only at hmb
          by_cases hlm : m < (shF es f).length
          · have hxm : (shF es f)[m]? = some (shF es f)[m] := List.getElem?_eq_getElem hlm
            have hx2 := hp2 _ (List.getElem_mem hlm)
            have hnx2 : ndF (shF es f) (m + 1) = (nu * ((shF es f)[m]).2.2 + ((shF es f)[m]).2.1 * de, de * ((shF es f)[m]).2.2) := by
              rw [ndF, ← hnd, List.getD_eq_getElem?_getD, hxm]; rfl
            generalize (shF es f)[m] = x at hxm hx2 hnx2
            obtain ⟨x0, x1, x2⟩ := x
            dsimp only at hx2 hnx2
            have t3 := triF_three hxm curL
            unfold triV at t3
            have e1 := mul_bd hmb.1 hmb.2.1 (show 0 ≤ x2 by omega) hx2.2.2
            have e2 := mul_bd (show 0 ≤ x1 by omega) (show x1 ≤ 251 by omega) hmb.2.2.1 hmb.2.2.2
            have e3 := mul_bd hmb.2.2.1 hmb.2.2.2 (show 0 ≤ x2 by omega) hx2.2.2
            (refine s_r ?_; refine tr_val (rk_lss (.of rfl) (.of rfl)) rfl ?_; refine n_t ?_; refine tr_seq ?_; refine c_d rfl (fun hcd => ?_) (fun _ => by omega); refine s_t ?_; refine tr_seq ?_; refine tr_block ?_; refine s_r ?_; refine tr_val (rk_indexAddr (.of rfl) (.of rfl) rfl (by omega) hcd norm1_) rfl ?_; refine tr_val (rk_loadB (.of rfl) .here t3 rfl) rfl ?_; refine tr_new (rk_alloc rfl) rfl (fun _ _ => ?_); refine tr_store (.of rfl) (.of rfl) .here rfl rfl (okc_cons rfl (okc_cons rfl (okc_cons rfl okc_nil))) (lenb rfl) norm_ ?_; refine n_t ?_; refine tr_seq ?_; refine s_r ?_; refine f_a rfl rfl norm0_ ?_; refine f_a rfl rfl norm0_ ?_; refine tr_val (rk_load1 (.of rfl) (At.lit .here rfl)) rfl ?_; refine tr_val (rk_lss (.of rfl) (.of rfl)) rfl ?_; refine m_v rfl rfl ?_; refine tr_vG1 rfl rfl inferInstance (fun hg hgp => (rk_fieldAddr (.of rfl) norm0_)) rfl ?_; refine tr_vG1 rfl rfl inferInstance (fun hg hgp => (rk_fieldAddr (.ofg hg rfl) norm0_)) rfl ?_; refine tr_vG1 rfl rfl inferInstance (fun hg hgp => (rk_load1 (.ofg hg rfl) (At.lit .here rfl))) rfl ?_; refine tr_vG1 rfl rfl inferInstance (fun hg hgp => (rk_lss (.ofg hg rfl) (.of rfl))) rfl ?_; refine tr_val (rk_pick_or (.of rfl) rfl) rfl ?_; refine m_v rfl rfl ?_; refine tr_vG1 rfl rfl inferInstance (fun hg hgp => (rk_fieldAddr (.of rfl) norm0_)) rfl ?_; refine tr_vG1 rfl rfl inferInstance (fun hg hgp => (rk_fieldAddr (.ofg hg rfl) norm0_)) rfl ?_; refine tr_vG1 rfl rfl inferInstance (fun hg hgp => (rk_load1 (.ofg hg rfl) (At.lit .here rfl))) rfl ?_; refine tr_vG1 rfl rfl inferInstance (fun hg hgp => (rk_gtr (.ofg hg rfl) (.of rfl))) rfl ?_; refine tr_val (rk_pick_or (.of rfl) rfl) rfl ?_; refine m_v rfl rfl ?_; refine tr_vG1 rfl rfl inferInstance (fun hg hgp => (rk_fieldAddr (.of rfl) norm0_)) rfl ?_; refine tr_vG1 rfl rfl inferInstance (fun hg hgp => (rk_fieldAddr (.ofg hg rfl) norm0_)) rfl ?_; refine tr_vG1 rfl rfl inferInstance (fun hg hgp => (rk_load1 (.ofg hg rfl) (At.lit .here rfl))) rfl ?_; refine tr_vG1 rfl rfl inferInstance (fun hg hgp => (rk_fieldAddr (.of rfl) norm0_)) rfl ?_; refine tr_vG1 rfl rfl inferInstance (fun hg hgp => (rk_fieldAddr (.ofg hg rfl) norm0_)) rfl ?_; refine tr_vG1 rfl rfl inferInstance (fun hg hgp => (rk_load1 (.ofg hg rfl) (At.lit .here rfl))) rfl ?_; refine tr_vG1 rfl rfl inferInstance (fun hg hgp => (rk_gtr (.ofg hg rfl) (.ofg hg rfl))) rfl ?_; refine tr_val (rk_pick_or (.of rfl) rfl) rfl ?_; refine n_t ?_; refine c_b rfl (fun _ => by omega) (fun hcd => ?_); refine s_t ?_)
            with_reducible refine tr_draw 18 (by kernel_rfl) ?_
            (refine a_m rfl rfl ?_; refine a_f rfl rfl norm0_ ?_; refine a_f rfl rfl norm0_ ?_; refine any_val (rk_load1 (.of rfl) (At.lit .here rfl)) rfl ?_; refine any_val (rk_mul (.of rfl) (.of rfl) (ini (by omega))) rfl ?_; refine a_f rfl rfl norm0_ ?_; refine a_f rfl rfl norm0_ ?_; refine any_val (rk_load1 (.of rfl) (At.lit .here rfl)) rfl ?_; refine a_m rfl rfl ?_; refine any_val (rk_mul (.of rfl) (.of rfl) (ini (by omega))) rfl ?_; refine any_val (rk_add (.of rfl) (.of rfl) (ini (by omega))) rfl ?_; refine a_m rfl rfl ?_; refine a_f rfl rfl norm0_ ?_; refine a_f rfl rfl norm0_ ?_; refine any_val (rk_load1 (.of rfl) (At.lit .here rfl)) rfl ?_; refine any_val (rk_mul (.of rfl) (.of rfl) (ini (by omega))) rfl ?_; refine any_val (rk_assign (.of rfl)) rfl ?_; refine any_val (rk_assign (.of rfl)) rfl ?_)
            with_reducible refine any_end ?_
            (refine tr_nil ?_; refine tr_blk_normal ?_; refine tr_then ?_; refine tr_region ?_; refine tr_val (rk_add (.of rfl) (.of rfl) (ini (by omega))) rfl ?_; refine m_v rfl rfl ?_; refine n_t ?_)
            apply tr_next (m + 1, nu * x2 + x1 * de, de * x2) ⟨(show m + 1 ≤ (shF es f).length from hlm), (show (nu * x2 + x1 * de, de * x2) = ndF (shF es f) (m + 1) from hnx2.symm)⟩ (show (shF es f).length - (m + 1) < (shF es f).length - m by omega)
            case hs1 => exact .cons rfl (.cons rfl (.cons rfl (.cons rfl (.cons rfl (.cons rfl (.cons rfl (.cons rfl (.cons rfl (.cons rfl (.cons rfl (.cons rfl (.cons rfl (.cons rfl (.cons rfl (.cons rfl (.cons rfl (.cons rfl .nil)))))))))))))))))
            case ht => exact .cons (.there .here) (.cons (.there .here) (.cons (.there .here) (.cons (.there .here) (.cons (.there .here) (.cons (.there .here) .nil)))))
          obtain rfl : m = (shF es f).length := by omega
          have hq := hp4 hL
          rw [← hnd] at hq
          dsimp only at hq
          (refine s_r ?_; refine tr_val (rk_lss (.of rfl) (.of rfl)) rfl ?_; refine n_t ?_; refine tr_seq ?_; refine c_d rfl (fun _ => by omega) (fun hcd => ?_); refine x_t ?_; refine tr_then_exit ?_; refine tr_blk_exit ?_; refine tr_then ?_; refine s_r ?_; refine m_v rfl rfl ?_; refine tr_val (rk_len_slice (.of rfl)) rfl ?_; refine tr_val (rk_gtr (.of rfl) (.of rfl)) rfl ?_; refine m_v rfl rfl ?_; refine v_g rfl rfl rfl rfl ?_; refine v_g rfl rfl rfl rfl ?_; refine tr_vG1 rfl rfl inferInstance (fun hg hgp => (rk_neq (.ofg hg rfl) (.ofg hg rfl))) rfl ?_; refine tr_val (rk_pick_and (.of rfl) rfl) rfl ?_; refine n_t ?_; refine c_b rfl (fun _ => by omega) (fun hcd => ?_); refine tr_skip ?_; refine tr_blk_normal ?_; refine tr_then ?_; refine tr_region ?_; refine tr_val (rk_add (.of rfl) (.of rfl) (ini (by omega))) rfl ?_; refine m_v rfl rfl ?_; refine n_t ?_)
          apply tr_next (j + 1) (show j + 1 ≤ 6 from hlj) (show 6 - (j + 1) < 6 - j by omega)
          case hs1 => exact .cons rfl (.cons rfl (.cons rfl (.cons rfl (.cons rfl (.cons rfl (.cons rfl (.cons rfl (.cons rfl (.cons rfl (.cons rfl .nil))))))))))
          case ht => exact .cons (.there .here) (.cons (.there .here) (.cons (.there .here) (.cons (.there .here) (.cons (.there .here) .nil))))
        · have hsh : shF es f = [] := List.eq_nil_of_length_eq_zero (by omega)
          rw [hsh]
          refine tr_rowSl (E := 117) (sz := 3) (by exact .here) fun aL cL e => ?_
          subst e
          simp only [List.length_nil]
          (refine tr_vG1 rfl rfl inferInstance (fun hg hgp => (rk_len_slice (.ofg hg rfl))) rfl ?_; refine tr_vG1 rfl rfl inferInstance (fun hg hgp => (rk_gtr (.ofg hg rfl) (.of rfl))) rfl ?_; refine tr_val (rk_pick_or (.of rfl) rfl) rfl ?_; refine n_t ?_; refine tr_cond_f (.of rfl) ?_; refine s_t ?_; refine s_r ?_; refine a_s rfl rfl ?_; refine a_s rfl rfl ?_; refine n_r ?_; refine a_s rfl rfl ?_; refine n_t ?_; refine tr_seq ?_; refine s_r ?_; refine m_v rfl rfl ?_; refine tr_val (rk_len_slice (.of rfl)) rfl ?_; refine m_v rfl rfl ?_; refine n_t ?_; refine tr_block ?_)
          clear hcd
          refine tr_for (ι := Nat × Int) (fun x => x.1 ≤ es.length ∧ x.2 = ((onL es f x.1).length : Int)) (fun x => [(192, .int .i64 (x.1 : Int)), (15, .int .i64 x.2), (10, .int .i64 f), (11, .slice aL 0 cL), (13, .int .i64 0), (14, .int .i64 1), (190, .slice (some ⟨gT, 0, none⟩) es.length tc), (191, .int .i64 es.length), (170, .int .i64 (j : Int)), (168, .slice (some ⟨bF, 0, none⟩) 6 6), (169, .int .i64 ((6 : Nat) : Int)), (8, .pointer (some ⟨b8, 0, none⟩)), (7, .int .i64 (k : Int)), (77, .int .i64 (k : Int)), (1, .pointer (some ⟨b1, 0, none⟩)), (3, .slice (some ⟨gT, 0, none⟩) es.length tc), (5, .slice ga (gpL es es.length).length gc), (75, .slice (some ⟨gT, 0, none⟩) es.length tc), (76, .int .i64 es.length)]) (fun _ => [blk bF (.cells ((fsL (fr es k) (to es k)).map (Value.int .i64) ++ curF).toArray 3), blk b8 (.cells #[.int .i64 (fr es k), .int .i64 (to es k)] 66), blk b1 (.cells #[.slice a es.length cap] 24), blk gT (.cells (spV es es.length ++ curT).toArray 66), row 120 3 (.slice ga (gpL es es.length).length gc) (gpL es es.length).length ((gpL es es.length).flatMap triV)]) (fun x => es.length - x.1) ?_ ?_
          · apply tr_start (0, 0) ⟨Nat.zero_le _, rfl⟩
            case hs1 => exact .cons rfl (.cons rfl (.cons rfl (.cons rfl (.cons rfl (.cons rfl (.cons rfl (.cons rfl (.cons rfl (.cons rfl (.cons rfl (.cons rfl (.cons rfl (.cons rfl (.cons rfl (.cons rfl (.cons rfl (.cons rfl (.cons rfl .nil))))))))))))))))))
            case ht => exact .cons (.there (.there .here)) (.cons (.there (.there .here)) (.cons (.there (.there .here)) (.cons (.there (.there .here)) (.cons (.there (.there .here)) .nil))))
          rintro ⟨i, hv⟩ ⟨hi, hvE⟩
          dsimp only at hi hvE ⊢
          by_cases hli : i < es.length
          · have q3 := spV_two curT hli
            have hsucc := onL_lenS es f i
            have hle := onL_le es f i
            cases hb : onB es f i with
            | false =>
              rw [hb, if_neg (by decide)] at hsucc
              have hoff : ¬ (fr es i ≤ f ∧ f < to es i) := by
                intro h
                unfold onB at hb
                rw [decide_eq_true h.1, decide_eq_true h.2] at hb
                cases hb
              (refine s_r ?_; refine tr_val (rk_lss (.of rfl) (.of rfl)) rfl ?_; refine n_t ?_; refine tr_seq ?_; refine c_d rfl (fun hcd => ?_) (fun _ => by omega); refine s_t ?_; refine tr_seq ?_; refine tr_block ?_; refine s_r ?_; refine m_v rfl rfl ?_; refine tr_val (rk_indexAddr (.of rfl) (.of rfl) rfl (by omega) hcd norm1_) rfl ?_; refine tr_val (rk_loadB (.of rfl) (.there (.there (.there .here))) q3 rfl) rfl ?_; refine tr_new (rk_alloc rfl) rfl (fun _ _ => ?_); refine a_s rfl rfl ?_; refine tr_store (.of rfl) (.of rfl) .here rfl rfl (okc_cons rfl (okc_cons rfl okc_nil)) (lenb rfl) norm_ ?_; refine n_r ?_; refine m_v rfl rfl ?_; refine f_a rfl rfl norm0_ ?_; refine tr_val (rk_load1 (.of rfl) (At.lit .here rfl)) rfl ?_; refine tr_val (rk_geq (.of rfl) (.of rfl)) rfl ?_; refine m_v rfl rfl ?_; refine v_g rfl rfl rfl rfl ?_; refine tr_vG1 rfl rfl inferInstance (fun hg hgp => (rk_fieldAddr (.of rfl) norm0_)) rfl ?_; refine tr_vG1 rfl rfl inferInstance (fun hg hgp => (rk_load1 (.ofg hg rfl) (At.lit .here rfl))) rfl ?_; refine tr_vG1 rfl rfl inferInstance (fun hg hgp => (rk_lss (.ofg hg rfl) (.ofg hg rfl))) rfl ?_; refine tr_val (rk_pick_and (.of rfl) rfl) rfl ?_; refine n_t ?_; refine c_b rfl (fun _ => by omega) (fun hcd => ?_); refine tr_skip ?_; refine tr_blk_normal ?_; refine tr_then ?_; refine tr_region ?_; refine tr_val (rk_add (.of rfl) (.of rfl) (ini (by omega))) rfl ?_; refine m_v rfl rfl ?_; refine n_t ?_)
              apply tr_next (i + 1, hv) ⟨(show i + 1 ≤ es.length from hli), (by show hv = ((onL es f (i + 1)).length : Int); omega)⟩ (show es.length - (i + 1) < es.length - i by omega)
              case hs1 => exact .cons rfl (.cons rfl (.cons rfl (.cons rfl (.cons rfl (.cons rfl (.cons rfl (.cons rfl (.cons rfl (.cons rfl (.cons rfl (.cons rfl (.cons rfl (.cons rfl (.cons rfl (.cons rfl (.cons rfl (.cons rfl (.cons rfl .nil))))))))))))))))))
              case ht => exact .cons (.there .here) (.cons (.there .here) (.cons (.there .here) (.cons (.there .here) (.cons (.there .here) .nil))))
            | true =>
              exact absurd (hs.shF_on hli hb) hL
          obtain rfl : i = es.length := by omega
          have hvl : hv = 0 := by rw [hvE, ← hs.shF_len f]; rw [hsh]; rfl
          (refine s_r ?_; refine tr_val (rk_lss (.of rfl) (.of rfl)) rfl ?_; refine n_t ?_; refine tr_seq ?_; refine c_d rfl (fun _ => by omega) (fun hcd => ?_); refine x_t ?_; refine tr_then_exit ?_; refine tr_blk_exit ?_; refine tr_then ?_; refine tr_seq ?_; refine s_r ?_; refine m_v rfl rfl ?_; refine m_v rfl rfl ?_; refine tr_val (rk_len_slice (.of rfl)) rfl ?_; refine tr_val (rk_neq (.of rfl) (.of rfl)) rfl ?_; refine n_t ?_; refine c_d rfl (fun _ => by omega) (fun hcd => ?_); refine s_t ?_; refine tr_seq ?_; refine s_r ?_; refine m_v rfl rfl ?_; refine tr_val (rk_len_slice (.of rfl)) rfl ?_; refine m_v rfl rfl ?_; refine n_t ?_; refine tr_block ?_)
          refine tr_for (ι := Unit) (fun _ => True) (fun _ => [(229, .int .i64 0), (13, .int .i64 0), (14, .int .i64 1), (10, .int .i64 f), (11, .slice aL 0 cL), (227, .slice aL 0 cL), (228, .int .i64 0), (170, .int .i64 (j : Int)), (168, .slice (some ⟨bF, 0, none⟩) 6 6), (169, .int .i64 ((6 : Nat) : Int)), (8, .pointer (some ⟨b8, 0, none⟩)), (7, .int .i64 (k : Int)), (77, .int .i64 (k : Int)), (1, .pointer (some ⟨b1, 0, none⟩)), (3, .slice (some ⟨gT, 0, none⟩) es.length tc), (5, .slice ga (gpL es es.length).length gc), (75, .slice (some ⟨gT, 0, none⟩) es.length tc), (76, .int .i64 es.length)]) (fun _ => [blk bF (.cells ((fsL (fr es k) (to es k)).map (Value.int .i64) ++ curF).toArray 3), blk b8 (.cells #[.int .i64 (fr es k), .int .i64 (to es k)] 66), blk b1 (.cells #[.slice a es.length cap] 24), blk gT (.cells (spV es es.length ++ curT).toArray 66), row 120 3 (.slice ga (gpL es es.length).length gc) (gpL es es.length).length ((gpL es es.length).flatMap triV)]) (fun _ => 0) ?_ ?_
          · apply tr_start () trivial
            case hs1 => exact .cons rfl (.cons rfl (.cons rfl (.cons rfl (.cons rfl (.cons rfl (.cons rfl (.cons rfl (.cons rfl (.cons rfl (.cons rfl (.cons rfl (.cons rfl (.cons rfl (.cons rfl (.cons rfl (.cons rfl (.cons rfl .nil)))))))))))))))))
            case ht => exact .cons .here (.cons .here (.cons .here (.cons .here (.cons .here .nil))))
          rintro ⟨⟩ _
          (refine s_r ?_; refine tr_val (rk_lss (.of rfl) (.of rfl)) rfl ?_; refine n_t ?_; refine tr_seq ?_; refine c_d rfl (fun _ => by omega) (fun hcd => ?_); refine x_t ?_; refine tr_then_exit ?_; refine tr_blk_exit ?_; refine tr_then ?_; refine s_r ?_; refine m_v rfl rfl ?_; refine tr_val (rk_len_slice (.of rfl)) rfl ?_; refine tr_val (rk_gtr (.of rfl) (.of rfl)) rfl ?_; refine m_v rfl rfl ?_; refine v_g rfl rfl rfl rfl ?_; refine v_g rfl rfl rfl rfl ?_; refine tr_vG1 rfl rfl inferInstance (fun hg hgp => (rk_neq (.ofg hg rfl) (.ofg hg rfl))) rfl ?_; refine tr_val (rk_pick_and (.of rfl) rfl) rfl ?_; refine n_t ?_; refine tr_cond_f (.of rfl) ?_; refine tr_skip ?_; refine tr_blk_normal ?_; refine tr_then ?_; refine tr_region ?_; refine tr_val (rk_add (.of rfl) (.of rfl) (ini (by omega))) rfl ?_; refine m_v rfl rfl ?_; refine n_t ?_)
          apply tr_next (j + 1) (show j + 1 ≤ 6 from hlj) (show 6 - (j + 1) < 6 - j by omega)
          case hs1 => exact .cons rfl (.cons rfl (.cons rfl (.cons rfl (.cons rfl (.cons rfl (.cons rfl (.cons rfl (.cons rfl (.cons rfl (.cons rfl .nil))))))))))
          case ht => exact .cons .here (.cons .here (.cons .here (.cons .here (.cons .here .nil))))
      obtain rfl : j = 6 := by omega
      (refine s_r ?_; refine tr_val (rk_lss (.of rfl) (.of rfl)) rfl ?_; refine n_t ?_; refine tr_seq ?_; refine c_d rfl (fun _ => by omega) (fun hcd => ?_); refine x_t ?_; refine tr_then_exit ?_; refine tr_blk_exit ?_; refine tr_then ?_; refine tr_seq ?_)
      with_reducible refine tr_draw 13 (by kernel_rfl) ?_
      (refine a_m rfl rfl ?_; refine any_val (rk_gtr (.of rfl) (.of rfl)) rfl ?_; refine a_m rfl rfl ?_; refine any_vG1 rfl rfl inferInstance (fun hg hgp => (rk_fieldAddr (.of rfl) norm0_)) rfl ?_; refine any_vG1 rfl rfl inferInstance (fun hg hgp => (rk_load1 (.ofg hg rfl) (At.lit (.there .here) rfl))) rfl ?_; refine any_vG1 rfl rfl inferInstance (fun hg hgp => (rk_move (.of rfl))) rfl ?_; refine any_vG1 rfl rfl inferInstance (fun hg hgp => (rk_move (.of rfl))) rfl ?_; refine any_vG1 rfl rfl inferInstance (fun hg hgp => (rk_sub (.ofg hg rfl) (.of rfl) (ini (by omega)))) rfl ?_; refine any_vG1 rfl rfl inferInstance (fun hg hgp => (rk_indexAddr (.ofg hg rfl) (.ofg hg rfl) rfl (by omega) (by omega) norm1_)) rfl ?_; refine any_vG1 rfl rfl inferInstance (fun hg hgp => (rk_fieldAddr (.ofg hg rfl) norm0_)) rfl ?_; refine any_vG1 rfl rfl inferInstance (fun hg hgp => (rk_load1 (.ofg hg rfl) (At.blkL (.there (.there (.there .here))) q1))) rfl ?_; refine any_vG1 rfl rfl inferInstance (fun hg hgp => (rk_lss (.ofg hg rfl) (.ofg hg rfl))) rfl ?_; refine any_val (rk_pick_and (.of rfl) rfl) rfl ?_)
      with_reducible refine any_end ?_
      (refine n_t ?_; refine c_b rfl (fun hcd => ?_) (fun hcd => ?_); refine tr_seq ?_; rotate_left; refine tr_skip ?_; refine tr_blk_normal ?_; refine tr_then ?_; refine tr_region ?_; refine tr_val (rk_add (.of rfl) (.of rfl) (ini (by omega))) rfl ?_; refine m_v rfl rfl ?_; refine n_t ?_; rotate_right)
      · have hk0 : 0 < k := by omega
        have hfo : fr es k < to es (k - 1) := hcd.2
        clear hcd
        have hnk := hnx hk0
        have hkk : k - 1 + 1 = k := by omega
        with_reducible refine tr_draw 10 (by kernel_rfl) ?_
        (refine a_m rfl rfl ?_; refine a_m rfl rfl ?_; refine any_val (rk_sub (.of rfl) (.of rfl) (ini (by omega))) rfl ?_; refine any_val (rk_indexAddr (.of rfl) (.of rfl) rfl (by omega) (by omega) norm1_) rfl ?_; refine a_f rfl rfl norm0_ ?_; refine any_val (rk_load1 (.of rfl) (At.blkL (.there (.there (.there .here))) q1)) rfl ?_; refine a_f rfl rfl norm0_ ?_; refine any_val (rk_load1 (.of rfl) (At.lit (.there .here) rfl)) rfl ?_; refine any_val (rk_sub (.of rfl) (.of rfl) (ini (by omega))) rfl ?_; refine any_val (rk_assign (.of rfl)) rfl ?_)
        with_reducible refine any_end ?_
        (refine n_r ?_; refine m_v rfl rfl ?_; refine m_v rfl rfl ?_; refine n_t ?_; refine tr_block ?_)
        refine tr_for (ι := Nat) (fun n => (n : Int) ≤ to es (k - 1) - fr es k) (fun n => [(307, .int .i64 (n : Int)), (306, .int .i64 (to es (k - 1) - fr es k)), (20, .int .i64 (to es (k - 1) - fr es k)), (8, .pointer (some ⟨b8, 0, none⟩)), (7, .int .i64 (k : Int)), (77, .int .i64 (k : Int)), (1, .pointer (some ⟨b1, 0, none⟩)), (3, .slice (some ⟨gT, 0, none⟩) es.length tc), (5, .slice ga (gpL es es.length).length gc), (75, .slice (some ⟨gT, 0, none⟩) es.length tc), (76, .int .i64 es.length)]) (fun _ => [blk b8 (.cells #[.int .i64 (fr es k), .int .i64 (to es k)] 66), blk b1 (.cells #[.slice a es.length cap] 24), blk gT (.cells (spV es es.length ++ curT).toArray 66), row 120 3 (.slice ga (gpL es es.length).length gc) (gpL es es.length).length ((gpL es es.length).flatMap triV)]) (fun n => (to es (k - 1) - fr es k).toNat - n) ?_ ?_
        · apply tr_start (0 : Nat) (show ((0 : Nat) : Int) ≤ to es (k - 1) - fr es k by omega)
          case hs1 => exact .cons rfl (.cons rfl (.cons rfl (.cons rfl (.cons rfl (.cons rfl (.cons rfl (.cons rfl (.cons rfl (.cons rfl (.cons rfl .nil))))))))))
          case ht => exact .cons (.there .here) (.cons (.there .here) (.cons (.there .here) (.cons (.there .here) .nil)))
        intro n hn
        by_cases hln : (n : Int) < to es (k - 1) - fr es k
        · have hair : ∃ p, shF es (fr es k + (n : Int)) = [(((k - 1 : Nat) : Int), p), ((k : Int), lowF ((n : Int) + 1) (to es (k - 1) - fr es k + 1))] := by
            obtain ⟨p, hp⟩ := hs.air2 (i := k - 1) (by omega) (f := fr es k + (n : Int)) (by rw [hkk]; omega) (by omega)
            rw [hkk] at hp
            refine ⟨p, hp.trans ?_⟩
            rw [show fr es k + (n : Int) - fr es k + 1 = (n : Int) + 1 by omega]
          obtain ⟨p, hair⟩ := hair
          (refine s_r ?_; refine tr_val (rk_lss (.of rfl) (.of rfl)) rfl ?_; refine n_t ?_; refine tr_seq ?_; refine c_d rfl (fun hcd => ?_) (fun _ => by omega); refine s_t ?_; refine tr_seq ?_; refine tr_block ?_; refine s_r ?_; refine m_v rfl rfl ?_; refine a_s rfl rfl ?_; refine n_t ?_; refine tr_seq ?_)
          with_reducible refine tr_drawM 12 (by kernel_rfl) ?_
          refine am_val (fun β => (rk_loadB (.of rfl) (.there .here) norm_ (by rfl))) ind0x rfl ?_
          dsimp only [Nat.zero_add, Nat.reduceAdd]
          with_reducible apply am_call (ι := Value) (Φ := fun _ => True) (val := fun v => .agg #[v]) (own := fun v => [row 138 6 v es.length (enR es es.length)]) (g := id) (B := []) (args := fun _ => [.agg #[.slice a es.length cap]])
          case hg => exact fun x => ⟨x, rfl⟩
          case hB => rfl
          case hr => exact fun β => rk_call (.of rfl) (.cons (.of rfl) .nil) inferInstance rfl
          case hd => rfl
          case hc => exact fun β w' hb => hOw w' hb.mem.keeps
          dsimp only [id_eq, Nat.reduceAdd]
          (refine am_val (fun β => (rk_fieldAddr (.of rfl) norm0_)) ind0x rfl ?_; refine am_val (fun β => (rk_load1 (.of rfl) (At.lit .here rfl))) ind0x rfl ?_; refine am_val (fun β => (rk_move (.of rfl))) ind0x rfl ?_; refine am_val (fun β => (rk_add (.of rfl) (.of rfl) (ini (by omega)))) ind0x rfl ?_)
          dsimp only [Nat.reduceAdd]
          with_reducible apply am_call (ι := Value) (Φ := fun _ => True) (val := fun v => .tuple #[v, .int .i64 0]) (own := fun v => [row 117 3 v (shF es (fr es k + (n : Int))).length ((shF es (fr es k + (n : Int))).flatMap triV)]) (g := id) (B := [1]) (args := fun β => [.agg #[β 1], .int .i64 (fr es k + (n : Int))])
          case hg => exact fun x => ⟨x, rfl⟩
          case hB => kernel_rfl
          case hr => exact fun β => rk_call (.of rfl) (.cons (.of rfl) (.cons (.of rfl) .nil)) inferInstance rfl
          case hd => rfl
          case hc =>
            intro β w' hb
            have m1 := hb.at 1 (by simp) (s := ⟨fun β => .agg #[β 1], fun β => [row 138 6 (β 1) es.length (enR es es.length)]⟩) (by kernel_rfl)
            dsimp only [List.cons_append, List.nil_append] at m1
            exact hOn _ _ w' hb.mem.keeps (rdEn m1 (by exact .here)) (by omega) (by omega)
          dsimp only [id_eq, Nat.reduceAdd]
          refine am_val (F := fun β => .tuple #[β 6, .int .i64 0]) (fun β => rk_move (.of rfl)) (fun β β' h => by simp only [h 6 (by kernel_rfl)]) rfl ?_
          refine am_val (F := fun β => β 6) (fun β => rk_extract (.of rfl) rfl) (fun β β' h => by simp only [h 6 (by kernel_rfl)]) rfl ?_
          refine am_val (F := fun β => .int .i64 0) (fun β => rk_extract (.of rfl) rfl) ind0x rfl ?_
          refine am_val (F := fun β => β 6) (fun β => rk_assign (.of rfl)) (fun β β' h => by simp only [h 6 (by kernel_rfl)]) rfl ?_
          refine am_val (F := fun β => .int .i64 0) (fun β => rk_assign (.of rfl)) ind0x rfl ?_
          refine am_end fun β => ?_
          dsimp only [resAll, List.nil_append, List.cons_append, List.append_eq, Nat.reduceAdd]
          generalize β 6 = v5
          with_reducible refine left_done (by kernel_rfl) ?_
          rw [hair]
          generalize hlo : lowF ((n : Int) + 1) (to es (k - 1) - fr es k + 1) = lo
          have hlow : ∀ w', GivesV Tryz.prog 60 [.int .i64 ((n : Int) + 1), .int .i64 (to es (k - 1) - fr es k + 1)] w' (.agg #[.int .i64 lo.1, .int .i64 lo.2]) := fun w' => by
            rw [← hlo]; exact lowQ_c _ _ _ (by omega) (by omega) (by omega) (by omega)
          obtain ⟨lo1, lo2⟩ := lo
          obtain ⟨p1, p2⟩ := p
          simp only [List.length_cons, List.length_nil, List.flatMap_cons, List.flatMap_nil, triV, List.cons_append, List.nil_append, Nat.reduceAdd]
          dsimp only at hlow
          refine tr_rowOpen (E := 117) (sz := 3) (by exact Take.there .here) (by decide) fun g5 c5 cur5 e hk5 hx5 hz5 hl5 => ?_
          subst e
          simp only [List.cons_append, List.nil_append]
          (refine tr_then ?_; refine tr_seq ?_)
          with_reducible refine tr_draw 27 (by kernel_rfl) ?_
          (refine a_m rfl rfl ?_; refine any_val (rk_neq (.of rfl) (.of rfl)) rfl ?_; refine a_m rfl rfl ?_; refine any_vG1 rfl rfl inferInstance (fun hg hgp => (rk_move (.of rfl))) rfl ?_; refine any_vG1 rfl rfl inferInstance (fun hg hgp => (rk_len_slice (.ofg hg rfl))) rfl ?_; refine any_vG1 rfl rfl inferInstance (fun hg hgp => (rk_neq (.ofg hg rfl) (.of rfl))) rfl ?_; refine any_val (rk_pick_or (.of rfl) rfl) rfl ?_; refine a_m rfl rfl ?_; refine any_vG1 rfl rfl inferInstance (fun hg hgp => (rk_move (.of rfl))) rfl ?_; refine any_vG1 rfl rfl inferInstance (fun hg hgp => (rk_indexAddr (.ofg hg rfl) (.of rfl) rfl (by omega) (by omega) norm1_)) rfl ?_; refine any_vG1 rfl rfl inferInstance (fun hg hgp => (rk_fieldAddr (.ofg hg rfl) norm0_)) rfl ?_; refine any_vG1 rfl rfl inferInstance (fun hg hgp => (rk_load1 (.ofg hg rfl) (At.lit .here rfl))) rfl ?_; refine any_vG1 rfl rfl inferInstance (fun hg hgp => (rk_move (.of rfl))) rfl ?_; refine any_vG1 rfl rfl inferInstance (fun hg hgp => (rk_neq (.ofg hg rfl) (.ofg hg rfl))) rfl ?_; refine any_val (rk_pick_or (.of rfl) rfl) rfl ?_; refine a_m rfl rfl ?_; refine any_vG1 rfl rfl inferInstance (fun hg hgp => (rk_move (.of rfl))) rfl ?_; refine any_vG1 rfl rfl inferInstance (fun hg hgp => (rk_indexAddr (.ofg hg rfl) (.of rfl) rfl (by omega) (by omega) norm1_)) rfl ?_; refine any_vG1 rfl rfl inferInstance (fun hg hgp => (rk_fieldAddr (.ofg hg rfl) norm0_)) rfl ?_; refine any_vG1 rfl rfl inferInstance (fun hg hgp => (rk_loadB (.ofg hg rfl) .here norm_ (by rfl))) rfl ?_; refine any_vG1 rfl rfl inferInstance (fun hg hgp => (rk_move (.of rfl))) rfl ?_; refine any_vG1 rfl rfl inferInstance (fun hg hgp => (rk_add (.ofg hg rfl) (.of rfl) (ini (by omega)))) rfl ?_; refine any_vG1 rfl rfl inferInstance (fun hg hgp => (rk_move (.of rfl))) rfl ?_; refine any_vG1 rfl rfl inferInstance (fun hg hgp => (rk_add (.ofg hg rfl) (.of rfl) (ini (by omega)))) rfl ?_; refine any_callG1 rfl rfl (fun hg => (rk_call (.of rfl) (.cons (.ofg hg rfl) (.cons (.ofg hg rfl) .nil)) inferInstance normc_)) rfl (fun hg w' hm' => (hlow w')) ?_; refine any_vG1 rfl rfl inferInstance (fun hg hgp => (rk_neqA (.ofg hg rfl) (.ofg hg rfl) (okL_int (okL_int okL_nil)) rfl)) rfl ?_; refine any_val (rk_pick_or (.of rfl) rfl) rfl ?_)
          with_reducible refine any_end ?_
          (refine n_t ?_; refine c_b rfl (fun hcd => ?_) (fun hcd => ?_); refine s_r ?_; refine a_s rfl rfl ?_; refine n_t ?_; refine tr_ret ?_; refine tr_blk_ret ?_; refine tr_then_ret ?_; refine tr_then_ret ?_; refine tr_blk_ret ?_; refine tr_blk_ret ?_; refine tr_then_ret ?_; refine tr_then_ret ?_; refine tr_blk_ret ?_; refine tr_then_ret ?_; refine tr_retE rfl (ends1 rfl rfl) ?_; rotate_left; refine tr_skip ?_; refine tr_blk_normal ?_; refine tr_then ?_; refine tr_region ?_; refine tr_val (rk_add (.of rfl) (.of rfl) (ini (by omega))) rfl ?_; refine m_v rfl rfl ?_; refine n_t ?_; rotate_right)
          · exact absurd hcd (by simp)
          apply tr_next (n + 1) (show ((n + 1 : Nat) : Int) ≤ to es (k - 1) - fr es k by omega) (show (to es (k - 1) - fr es k).toNat - (n + 1) < (to es (k - 1) - fr es k).toNat - n by omega)
          case hs1 => exact .cons rfl (.cons rfl (.cons rfl (.cons rfl (.cons rfl (.cons rfl (.cons rfl (.cons rfl (.cons rfl (.cons rfl (.cons rfl .nil))))))))))
          case ht => exact .cons (.there (.there .here)) (.cons (.there (.there .here)) (.cons (.there (.there .here)) (.cons (.there (.there .here)) .nil)))
        (refine s_r ?_; refine tr_val (rk_lss (.of rfl) (.of rfl)) rfl ?_; refine n_t ?_; refine tr_seq ?_; refine c_d rfl (fun _ => by omega) (fun hcd => ?_); refine x_t ?_; refine tr_then_exit ?_; refine tr_blk_exit ?_; refine tr_blk_normal ?_; refine tr_then ?_; refine tr_region ?_; refine tr_val (rk_add (.of rfl) (.of rfl) (ini (by omega))) rfl ?_; refine m_v rfl rfl ?_; refine n_t ?_)
        apply tr_next (k + 1) (show k + 1 ≤ es.length from hlt) (show es.length - (k + 1) < es.length - k by omega)
        case hs1 => exact .cons rfl (.cons rfl (.cons rfl (.cons rfl (.cons rfl (.cons rfl .nil)))))
        case ht => exact .cons (.there .here) (.cons (.there .here) (.cons (.there .here) .nil))
      · clear hcd
        apply tr_next (k + 1) (show k + 1 ≤ es.length from hlt) (show es.length - (k + 1) < es.length - k by omega)
        case hs1 => exact .cons rfl (.cons rfl (.cons rfl (.cons rfl (.cons rfl (.cons rfl .nil)))))
        case ht => exact .cons (.there (.there .here)) (.cons (.there (.there .here)) (.cons (.there (.there .here)) .nil))
    obtain rfl : k = es.length := by omega
    (refine s_r ?_; refine tr_val (rk_lss (.of rfl) (.of rfl)) rfl ?_; refine n_t ?_; refine tr_seq ?_; refine c_d rfl (fun _ => by omega) (fun hcd => ?_); refine x_t ?_; refine tr_then_exit ?_; refine tr_blk_exit ?_; refine tr_then ?_; refine tr_seq ?_; refine s_r ?_; refine m_v rfl rfl ?_; refine tr_val (rk_len_slice (.of rfl)) rfl ?_; refine m_v rfl rfl ?_; refine n_t ?_; refine tr_block ?_)
    by_cases hG0 : 0 < (gpL es es.length).length
    · refine tr_rowOpen (E := 120) (sz := 3) (by exact Take.there (.there .here)) hG0 fun gG gc2 curG e hkG hxG hzG hlG => ?_
      obtain ⟨rfl, -, rfl⟩ := Value.slice.inj e
      refine tr_for (ι := Nat) (fun g => g ≤ (gpL es es.length).length) (fun g => [(351, .int .i64 (g : Int)), (349, .slice (some ⟨gG, 0, none⟩) (gpL es es.length).length gc), (350, .int .i64 ((gpL es es.length).length : Int)), (1, .pointer (some ⟨b1, 0, none⟩)), (3, .slice (some ⟨gT, 0, none⟩) es.length tc)]) (fun _ => [blk gG (.cells ((gpL es es.length).flatMap triV ++ curG).toArray 120), blk gT (.cells (spV es es.length ++ curT).toArray 66), blk b1 (.cells #[.slice a es.length cap] 24)]) (fun g => (gpL es es.length).length - g) ?_ ?_
      · apply tr_start (0 : Nat) (show (0 : Nat) ≤ (gpL es es.length).length from Nat.zero_le _)
        case hs1 => exact .cons rfl (.cons rfl (.cons rfl (.cons rfl (.cons rfl .nil))))
        case ht => exact .cons .here (.cons (.there .here) (.cons .here .nil))
      intro g hg
      by_cases hlg : g < (gpL es es.length).length
      · have hxg : (gpL es es.length)[g]? = some (gpL es es.length)[g] := List.getElem?_eq_getElem hlg
        obtain ⟨k, hk1, hxe, hgt⟩ := gpL_mem (List.getElem_mem hlg)
        rw [hxe] at hxg
        have t3 := triF_three hxg curG
        unfold triV at t3
        dsimp only at t3
        have q1 : (spV es es.length ++ curT)[k * 2 + 1]? = some (.int .i64 (to es k)) := spV_at (j := 1) (by omega) curT (by omega)
        have q2 : (spV es es.length ++ curT)[((k : Int) + 1).toNat * 2]? = some (.int .i64 (fr es (k + 1))) := by rw [show ((k : Int) + 1).toNat = k + 1 by omega]; exact spV_at (j := 0) (by omega) curT (by omega)
        have b0 := hs.fr_nn (k := k) (by omega)
        have b2 := hs.fr_nn (k := k + 1) (by omega)
        have hoff : ∀ f, to es k ≤ f → f < fr es (k + 1) → shF es f = [] := fun f h1 h2 => hs.gap_off hk1 h1 h2
        have hon1 : 0 < (shF es (to es k - 1)).length := hs.shF_on (k := k) (by omega) (by unfold onB; rw [Bool.and_eq_true, decide_eq_true_eq, decide_eq_true_eq]; omega)
        have hon2 : 0 < (shF es (fr es (k + 1))).length := hs.shF_on (k := k + 1) hk1 (by unfold onB; rw [Bool.and_eq_true, decide_eq_true_eq, decide_eq_true_eq]; omega)
        (refine s_r ?_; refine tr_val (rk_lss (.of rfl) (.of rfl)) rfl ?_; refine n_t ?_; refine tr_seq ?_; refine c_d rfl (fun hcd => ?_) (fun _ => by omega); refine s_t ?_; refine tr_seq ?_; refine tr_block ?_; refine s_r ?_; refine tr_val (rk_indexAddr (.of rfl) (.of rfl) rfl (by omega) hcd norm1_) rfl ?_; refine tr_val (rk_loadB (.of rfl) .here t3 rfl) rfl ?_; refine tr_new (rk_alloc rfl) rfl (fun _ _ => ?_); refine tr_store (.of rfl) (.of rfl) .here rfl rfl (okc_cons rfl (okc_cons rfl (okc_cons rfl okc_nil))) (lenb rfl) norm_ ?_; refine n_t ?_; refine tr_seq ?_; refine tr_seq ?_)
        rename_i b25 hb25
        with_reducible refine tr_draw 45 (by kernel_rfl) ?_
        (refine a_f rfl rfl norm0_ ?_; refine any_val (rk_load1 (.of rfl) (At.lit .here rfl)) rfl ?_; refine any_val (rk_lss (.of rfl) (.of rfl)) rfl ?_; refine a_m rfl rfl ?_; refine any_vG1 rfl rfl inferInstance (fun hg hgp => (rk_fieldAddr (.of rfl) norm0_)) rfl ?_; refine any_vG1 rfl rfl inferInstance (fun hg hgp => (rk_load1 (.ofg hg rfl) (At.lit .here rfl))) rfl ?_; refine any_vG1 rfl rfl inferInstance (fun hg hgp => (rk_add (.ofg hg rfl) (.of rfl) (ini (by omega)))) rfl ?_; refine any_vG1 rfl rfl inferInstance (fun hg hgp => (rk_move (.of rfl))) rfl ?_; refine any_vG1 rfl rfl inferInstance (fun hg hgp => (rk_len_slice (.ofg hg rfl))) rfl ?_; refine any_vG1 rfl rfl inferInstance (fun hg hgp => (rk_geq (.ofg hg rfl) (.ofg hg rfl))) rfl ?_; refine any_val (rk_pick_or (.of rfl) rfl) rfl ?_; refine a_m rfl rfl ?_; refine any_vG1 rfl rfl inferInstance (fun hg hgp => (rk_fieldAddr (.of rfl) norm0_)) rfl ?_; refine any_vG1 rfl rfl inferInstance (fun hg hgp => (rk_fieldAddr (.ofg hg rfl) norm0_)) rfl ?_; refine any_vG1 rfl rfl inferInstance (fun hg hgp => (rk_load1 (.ofg hg rfl) (At.lit .here rfl))) rfl ?_; refine any_vG1 rfl rfl inferInstance (fun hg hgp => (rk_move (.of rfl))) rfl ?_; refine any_vG1 rfl rfl inferInstance (fun hg hgp => (rk_fieldAddr (.of rfl) norm0_)) rfl ?_; refine any_vG1 rfl rfl inferInstance (fun hg hgp => (rk_load1 (.ofg hg rfl) (At.lit .here rfl))) rfl ?_; refine any_vG1 rfl rfl inferInstance (fun hg hgp => (rk_indexAddr (.ofg hg rfl) (.ofg hg rfl) rfl (by omega) (by omega) norm1_)) rfl ?_; refine any_vG1 rfl rfl inferInstance (fun hg hgp => (rk_fieldAddr (.ofg hg rfl) norm0_)) rfl ?_; refine any_vG1 rfl rfl inferInstance (fun hg hgp => (rk_load1 (.ofg hg rfl) (At.blkL (.there (.there .here)) q1))) rfl ?_; refine any_vG1 rfl rfl inferInstance (fun hg hgp => (rk_neq (.ofg hg rfl) (.ofg hg rfl))) rfl ?_; refine any_val (rk_pick_or (.of rfl) rfl) rfl ?_; refine a_m rfl rfl ?_; refine any_vG1 rfl rfl inferInstance (fun hg hgp => (rk_fieldAddr (.of rfl) norm0_)) rfl ?_; refine any_vG1 rfl rfl inferInstance (fun hg hgp => (rk_fieldAddr (.ofg hg rfl) norm0_)) rfl ?_; refine any_vG1 rfl rfl inferInstance (fun hg hgp => (rk_load1 (.ofg hg rfl) (At.lit .here rfl))) rfl ?_; refine any_vG1 rfl rfl inferInstance (fun hg hgp => (rk_move (.of rfl))) rfl ?_; refine any_vG1 rfl rfl inferInstance (fun hg hgp => (rk_fieldAddr (.of rfl) norm0_)) rfl ?_; refine any_vG1 rfl rfl inferInstance (fun hg hgp => (rk_load1 (.ofg hg rfl) (At.lit .here rfl))) rfl ?_; refine any_vG1 rfl rfl inferInstance (fun hg hgp => (rk_add (.ofg hg rfl) (.of rfl) (ini (by omega)))) rfl ?_; refine any_vG1 rfl rfl inferInstance (fun hg hgp => (rk_indexAddr (.ofg hg rfl) (.ofg hg rfl) rfl (by omega) (by omega) norm1_)) rfl ?_; refine any_vG1 rfl rfl inferInstance (fun hg hgp => (rk_fieldAddr (.ofg hg rfl) norm0_)) rfl ?_; refine any_vG1 rfl rfl inferInstance (fun hg hgp => (rk_load1 (.ofg hg rfl) (At.blkL (.there (.there .here)) q2))) rfl ?_; refine any_vG1 rfl rfl inferInstance (fun hg hgp => (rk_neq (.ofg hg rfl) (.ofg hg rfl))) rfl ?_; refine any_val (rk_pick_or (.of rfl) rfl) rfl ?_; refine a_m rfl rfl ?_; refine any_vG1 rfl rfl inferInstance (fun hg hgp => (rk_fieldAddr (.of rfl) norm0_)) rfl ?_; refine any_vG1 rfl rfl inferInstance (fun hg hgp => (rk_fieldAddr (.ofg hg rfl) norm0_)) rfl ?_; refine any_vG1 rfl rfl inferInstance (fun hg hgp => (rk_load1 (.ofg hg rfl) (At.lit .here rfl))) rfl ?_; refine any_vG1 rfl rfl inferInstance (fun hg hgp => (rk_fieldAddr (.of rfl) norm0_)) rfl ?_; refine any_vG1 rfl rfl inferInstance (fun hg hgp => (rk_fieldAddr (.ofg hg rfl) norm0_)) rfl ?_; refine any_vG1 rfl rfl inferInstance (fun hg hgp => (rk_load1 (.ofg hg rfl) (At.lit .here rfl))) rfl ?_; refine any_vG1 rfl rfl inferInstance (fun hg hgp => (rk_geq (.ofg hg rfl) (.ofg hg rfl))) rfl ?_; refine any_val (rk_pick_or (.of rfl) rfl) rfl ?_)
        with_reducible refine any_end ?_
        (refine n_t ?_; refine c_b rfl (fun _ => by omega) (fun hcd => ?_); refine s_t ?_; refine tr_seq ?_; refine s_r ?_; refine f_a rfl rfl norm0_ ?_; refine f_a rfl rfl norm0_ ?_; refine tr_val (rk_load1 (.of rfl) (At.lit .here rfl)) rfl ?_; refine f_a rfl rfl norm0_ ?_; refine f_a rfl rfl norm0_ ?_; refine tr_val (rk_load1 (.of rfl) (At.lit .here rfl)) rfl ?_; refine tr_val (rk_sub (.of rfl) (.of rfl) (ini (by omega))) rfl ?_; refine tr_new (rk_sliceLit (.cons (.of rfl) (.cons (.of rfl) .nil)) rfl rfl rfl rfl) rfl (fun _ _ => ?_); refine tr_val (rk_len_slice (.of rfl)) rfl ?_; refine m_v rfl rfl ?_; refine n_t ?_; refine tr_block ?_)
        clear hcd
        rename_i bq1 hbq1
        refine tr_rowLitE (g := bq1) (E := 3) (ys := ([to es k, fr es (k + 1) - 1] : List Int).map (Value.int .i64)) 2 1 (by exact .here) (by exact rfl) rfl rfl ?_
        refine tr_rowOpen (E := 3) (sz := 1) (by exact .here) (by decide) fun gq1 cq1 curq1 e hkq1 hxq1 hzq1 hlq1 => ?_
        obtain ⟨e1, -, rfl⟩ := Value.slice.inj e
        obtain rfl : bq1 = gq1 := by injection e1 with e1; injection e1
        clear e e1
        refine tr_for (ι := Nat) (fun j => j ≤ 2) (fun j => [(409, .int .i64 (j : Int)), (407, .slice (some ⟨bq1, 0, none⟩) 2 2), (408, .int .i64 ((2 : Nat) : Int)), (25, .pointer (some ⟨b25, 0, none⟩)), (351, .int .i64 (g : Int)), (349, .slice (some ⟨gG, 0, none⟩) (gpL es es.length).length gc), (350, .int .i64 ((gpL es es.length).length : Int)), (1, .pointer (some ⟨b1, 0, none⟩)), (3, .slice (some ⟨gT, 0, none⟩) es.length tc)]) (fun _ => [blk bq1 (.cells (([to es k, fr es (k + 1) - 1] : List Int).map (Value.int .i64) ++ curq1).toArray 3), blk b25 (.cells #[.int .i64 (k : Int), .int .i64 (to es k), .int .i64 (fr es (k + 1))] 120), blk gG (.cells ((gpL es es.length).flatMap triV ++ curG).toArray 120), blk gT (.cells (spV es es.length ++ curT).toArray 66), blk b1 (.cells #[.slice a es.length cap] 24)]) (fun j => 2 - j) ?_ ?_
        · apply tr_start (0 : Nat) (show (0 : Nat) ≤ 2 from Nat.zero_le _)
          case hs1 => exact .cons rfl (.cons rfl (.cons rfl (.cons rfl (.cons rfl (.cons rfl (.cons rfl (.cons rfl (.cons rfl .nil))))))))
          case ht => exact .cons .here (.cons .here (.cons .here (.cons .here (.cons .here .nil))))
        intro j hj
        by_cases hlj : j < 2
        · obtain ⟨f, hf⟩ : ∃ f, ([to es k, fr es (k + 1) - 1] : List Int)[j]? = some f := ⟨_, List.getElem?_eq_getElem (show j < ([to es k, fr es (k + 1) - 1] : List Int).length from hlj)⟩
          have hfm := List.mem_of_getElem? hf
          simp only [List.mem_cons, List.not_mem_nil, or_false] at hfm
          have qf : (([to es k, fr es (k + 1) - 1] : List Int).map (Value.int .i64) ++ curq1)[j * 1]? = some (.int .i64 f) := by
            rw [Nat.mul_one, List.getElem?_append_left (show j < (([to es k, fr es (k + 1) - 1] : List Int).map (Value.int .i64)).length from hlj), List.getElem?_map, hf]; rfl
          (refine s_r ?_; refine tr_val (rk_lss (.of rfl) (.of rfl)) rfl ?_; refine n_t ?_; refine tr_seq ?_; refine c_d rfl (fun hcd => ?_) (fun _ => by omega); refine s_t ?_; refine tr_seq ?_; refine tr_block ?_; refine s_r ?_; refine tr_val (rk_indexAddr (.of rfl) (.of rfl) rfl (by omega) hcd norm1_) rfl ?_; refine tr_val (rk_load1 (.of rfl) (At.blkL .here qf)) rfl ?_; refine a_s rfl rfl ?_; refine n_r ?_; refine tr_val (rk_loadB (.of rfl) (.there (.there (.there (.there .here)))) norm_ (by rfl)) rfl ?_)
          with_reducible apply tr_call
          case hr => exact rk_call (.of rfl) (.cons (.of rfl) .nil) inferInstance normc_
          case hd => rfl
          case ht => exact Takes.nil
          case hc =>
            intro w1 fp hm1 _ hs1
            obtain rfl : fp = [] := hs1
            exact hOw w1 hm1.keeps
          intro o3 _
          dsimp only [id_eq, List.cons_append, List.nil_append]
          refine m_v rfl rfl ?_
          with_reducible apply tr_call
          case hr => exact rk_call (.of rfl) (.cons (.of rfl) (.cons (.of rfl) .nil)) inferInstance normc_
          case hd => rfl
          case ht => exact Takes.nil
          case hc =>
            intro w1 fp hm1 _ hs1
            obtain rfl : fp = [] := hs1
            exact hOn o3 f w1 hm1.keeps (rdEn (v := o3) hm1 (by exact .here)) (by omega) (by omega)
          intro v3 _
          dsimp only [id_eq, List.cons_append, List.nil_append]
          (refine m_v rfl rfl ?_; refine tr_val (rk_extract (.of rfl) rfl) rfl ?_; refine tr_val (rk_extract (.of rfl) rfl) rfl ?_; refine a_s rfl rfl ?_; refine a_s rfl rfl ?_; refine n_r ?_; refine m_v rfl rfl ?_; refine tr_val (rk_neq (.of rfl) (.of rfl)) rfl ?_; refine m_v rfl rfl ?_; refine v_g rfl rfl rfl rfl ?_)
          rw [hoff f (by omega) (by omega)]
          refine tr_rowSl (E := 117) (sz := 3) (by exact .here) fun aL cL e => ?_
          subst e
          simp only [List.length_nil]
          (refine tr_vG1 rfl rfl inferInstance (fun hg hgp => (rk_len_slice (.ofg hg rfl))) rfl ?_; refine tr_vG1 rfl rfl inferInstance (fun hg hgp => (rk_neq (.ofg hg rfl) (.of rfl))) rfl ?_; refine tr_val (rk_pick_or (.of rfl) rfl) rfl ?_; refine n_t ?_; refine tr_cond_f (.of rfl) ?_; refine tr_skip ?_; refine tr_blk_normal ?_; refine tr_then ?_; refine tr_region ?_; refine tr_val (rk_add (.of rfl) (.of rfl) (ini (by omega))) rfl ?_; refine m_v rfl rfl ?_; refine n_t ?_)
          apply tr_next (j + 1) (show j + 1 ≤ 2 from hlj) (show 2 - (j + 1) < 2 - j by omega)
          case hs1 => exact .cons rfl (.cons rfl (.cons rfl (.cons rfl (.cons rfl (.cons rfl (.cons rfl (.cons rfl (.cons rfl .nil))))))))
          case ht => exact .cons (.there (.there .here)) (.cons (.there (.there .here)) (.cons (.there (.there .here)) (.cons (.there (.there .here)) (.cons (.there (.there .here)) .nil))))
        obtain rfl : j = 2 := by omega
        (refine s_r ?_; refine tr_val (rk_lss (.of rfl) (.of rfl)) rfl ?_; refine n_t ?_; refine tr_seq ?_; refine c_d rfl (fun _ => by omega) (fun hcd => ?_); refine x_t ?_; refine tr_then_exit ?_; refine tr_blk_exit ?_; refine tr_then ?_; refine s_r ?_; refine f_a rfl rfl norm0_ ?_; refine f_a rfl rfl norm0_ ?_; refine tr_val (rk_load1 (.of rfl) (At.lit (.there .here) rfl)) rfl ?_; refine tr_val (rk_sub (.of rfl) (.of rfl) (ini (by omega))) rfl ?_; refine f_a rfl rfl norm0_ ?_; refine f_a rfl rfl norm0_ ?_; refine tr_val (rk_load1 (.of rfl) (At.lit (.there .here) rfl)) rfl ?_; refine tr_new (rk_sliceLit (.cons (.of rfl) (.cons (.of rfl) .nil)) rfl rfl rfl rfl) rfl (fun _ _ => ?_); refine tr_val (rk_len_slice (.of rfl)) rfl ?_; refine m_v rfl rfl ?_; refine n_t ?_; refine tr_block ?_)
        rename_i bq2 hbq2
        refine tr_rowLitE (g := bq2) (E := 3) (ys := ([to es k - 1, fr es (k + 1)] : List Int).map (Value.int .i64)) 2 1 (by exact .here) (by exact rfl) rfl rfl ?_
        refine tr_rowOpen (E := 3) (sz := 1) (by exact .here) (by decide) fun gq2 cq2 curq2 e hkq2 hxq2 hzq2 hlq2 => ?_
        obtain ⟨e1, -, rfl⟩ := Value.slice.inj e
        obtain rfl : bq2 = gq2 := by injection e1 with e1; injection e1
        clear e e1
        refine tr_for (ι := Nat) (fun j => j ≤ 2) (fun j => [(437, .int .i64 (j : Int)), (435, .slice (some ⟨bq2, 0, none⟩) 2 2), (436, .int .i64 ((2 : Nat) : Int)), (25, .pointer (some ⟨b25, 0, none⟩)), (351, .int .i64 (g : Int)), (349, .slice (some ⟨gG, 0, none⟩) (gpL es es.length).length gc), (350, .int .i64 ((gpL es es.length).length : Int)), (1, .pointer (some ⟨b1, 0, none⟩)), (3, .slice (some ⟨gT, 0, none⟩) es.length tc)]) (fun _ => [blk bq2 (.cells (([to es k - 1, fr es (k + 1)] : List Int).map (Value.int .i64) ++ curq2).toArray 3), blk b25 (.cells #[.int .i64 (k : Int), .int .i64 (to es k), .int .i64 (fr es (k + 1))] 120), blk gG (.cells ((gpL es es.length).flatMap triV ++ curG).toArray 120), blk gT (.cells (spV es es.length ++ curT).toArray 66), blk b1 (.cells #[.slice a es.length cap] 24)]) (fun j => 2 - j) ?_ ?_
        · apply tr_start (0 : Nat) (show (0 : Nat) ≤ 2 from Nat.zero_le _)
          case hs1 => exact .cons rfl (.cons rfl (.cons rfl (.cons rfl (.cons rfl (.cons rfl (.cons rfl (.cons rfl (.cons rfl .nil))))))))
          case ht => exact .cons .here (.cons (.there .here) (.cons (.there .here) (.cons (.there .here) (.cons (.there .here) .nil))))
        intro j hj
        by_cases hlj : j < 2
        · obtain ⟨f, hf⟩ : ∃ f, ([to es k - 1, fr es (k + 1)] : List Int)[j]? = some f := ⟨_, List.getElem?_eq_getElem (show j < ([to es k - 1, fr es (k + 1)] : List Int).length from hlj)⟩
          have hfm := List.mem_of_getElem? hf
          simp only [List.mem_cons, List.not_mem_nil, or_false] at hfm
          have qf : (([to es k - 1, fr es (k + 1)] : List Int).map (Value.int .i64) ++ curq2)[j * 1]? = some (.int .i64 f) := by
            rw [Nat.mul_one, List.getElem?_append_left (show j < (([to es k - 1, fr es (k + 1)] : List Int).map (Value.int .i64)).length from hlj), List.getElem?_map, hf]; rfl
          (refine s_r ?_; refine tr_val (rk_lss (.of rfl) (.of rfl)) rfl ?_; refine n_t ?_; refine tr_seq ?_; refine c_d rfl (fun hcd => ?_) (fun _ => by omega); refine s_t ?_; refine tr_seq ?_; refine tr_block ?_; refine s_r ?_; refine tr_val (rk_indexAddr (.of rfl) (.of rfl) rfl (by omega) hcd norm1_) rfl ?_; refine tr_val (rk_load1 (.of rfl) (At.blkL .here qf)) rfl ?_; refine a_s rfl rfl ?_; refine n_r ?_; refine tr_val (rk_loadB (.of rfl) (.there (.there (.there (.there .here)))) norm_ (by rfl)) rfl ?_)
          with_reducible apply tr_call
          case hr => exact rk_call (.of rfl) (.cons (.of rfl) .nil) inferInstance normc_
          case hd => rfl
          case ht => exact Takes.nil
          case hc =>
            intro w1 fp hm1 _ hs1
            obtain rfl : fp = [] := hs1
            exact hOw w1 hm1.keeps
          intro o3 _
          dsimp only [id_eq, List.cons_append, List.nil_append]
          refine m_v rfl rfl ?_
          with_reducible apply tr_call
          case hr => exact rk_call (.of rfl) (.cons (.of rfl) (.cons (.of rfl) .nil)) inferInstance normc_
          case hd => rfl
          case ht => exact Takes.nil
          case hc =>
            intro w1 fp hm1 _ hs1
            obtain rfl : fp = [] := hs1
            exact hOn o3 f w1 hm1.keeps (rdEn (v := o3) hm1 (by exact .here)) (by omega) (by omega)
          intro v3 _
          dsimp only [id_eq, List.cons_append, List.nil_append]
          (refine m_v rfl rfl ?_; refine tr_val (rk_extract (.of rfl) rfl) rfl ?_; refine tr_val (rk_extract (.of rfl) rfl) rfl ?_; refine a_s rfl rfl ?_; refine a_s rfl rfl ?_; refine n_r ?_; refine m_v rfl rfl ?_; refine tr_val (rk_neq (.of rfl) (.of rfl)) rfl ?_; refine m_v rfl rfl ?_; refine v_g rfl rfl rfl rfl ?_)
          have hpos : 0 < (shF es f).length := by rcases hfm with e | e <;> rw [e] <;> assumption
          refine tr_rowSl (E := 117) (sz := 3) (by exact .here) fun aL cL e => ?_
          subst e
          (refine tr_vG1 rfl rfl inferInstance (fun hg hgp => (rk_len_slice (.ofg hg rfl))) rfl ?_; refine tr_vG1 rfl rfl inferInstance (fun hg hgp => (rk_eql (.ofg hg rfl) (.of rfl))) rfl ?_; refine tr_val (rk_pick_or (.of rfl) rfl) rfl ?_; refine n_t ?_; refine c_d rfl (fun _ => by omega) (fun hcd => ?_); refine tr_skip ?_; refine tr_blk_normal ?_; refine tr_then ?_; refine tr_region ?_; refine tr_val (rk_add (.of rfl) (.of rfl) (ini (by omega))) rfl ?_; refine m_v rfl rfl ?_; refine n_t ?_)
          apply tr_next (j + 1) (show j + 1 ≤ 2 from hlj) (show 2 - (j + 1) < 2 - j by omega)
          case hs1 => exact .cons rfl (.cons rfl (.cons rfl (.cons rfl (.cons rfl (.cons rfl (.cons rfl (.cons rfl (.cons rfl .nil))))))))
          case ht => exact .cons (.there (.there .here)) (.cons (.there (.there .here)) (.cons (.there (.there .here)) (.cons (.there (.there .here)) (.cons (.there (.there .here)) .nil))))
        obtain rfl : j = 2 := by omega
        (refine s_r ?_; refine tr_val (rk_lss (.of rfl) (.of rfl)) rfl ?_; refine n_t ?_; refine tr_seq ?_; refine c_d rfl (fun _ => by omega) (fun hcd => ?_); refine x_t ?_; refine tr_then_exit ?_; refine tr_blk_exit ?_; refine tr_blk_normal ?_; refine tr_then ?_; refine tr_region ?_; refine tr_val (rk_add (.of rfl) (.of rfl) (ini (by omega))) rfl ?_; refine m_v rfl rfl ?_; refine n_t ?_)
        apply tr_next (g + 1) (show g + 1 ≤ (gpL es es.length).length from hlg) (show (gpL es es.length).length - (g + 1) < (gpL es es.length).length - g by omega)
        case hs1 => exact .cons rfl (.cons rfl (.cons rfl (.cons rfl (.cons rfl .nil))))
        case ht => exact .cons (.there (.there .here)) (.cons (.there (.there .here)) (.cons (.there (.there .here)) .nil))
      obtain rfl : g = (gpL es es.length).length := by omega
      (refine s_r ?_; refine tr_val (rk_lss (.of rfl) (.of rfl)) rfl ?_; refine n_t ?_; refine tr_seq ?_; refine c_d rfl (fun _ => by omega) (fun hcd => ?_); refine x_t ?_; refine tr_then_exit ?_; refine tr_blk_exit ?_; refine tr_then ?_; refine s_r ?_; refine a_s rfl rfl ?_; refine n_t ?_; refine tr_ret ?_; refine tr_retE rfl (ends1 rfl rfl) ?_)
      rfl
    have hG1 : (gpL es es.length).length = 0 := by omega
    rw [hG1]
    refine tr_for (ι := Unit) (fun _ => True) (fun _ => [(351, .int .i64 0), (350, .int .i64 ((0 : Nat) : Int)), (349, .slice ga 0 gc)]) (fun _ => []) (fun _ => 0) ?_ ?_
    · apply tr_start () trivial
      case hs1 => exact .cons rfl (.cons rfl (.cons rfl .nil))
      case ht => exact .nil
    rintro ⟨⟩ _
    (refine s_r ?_; refine tr_val (rk_lss (.of rfl) (.of rfl)) rfl ?_; refine n_t ?_; refine tr_seq ?_; refine c_d rfl (fun _ => by omega) (fun hcd => ?_); refine x_t ?_; refine tr_then_exit ?_; refine tr_blk_exit ?_; refine tr_then ?_; refine s_r ?_; refine a_s rfl rfl ?_; refine n_t ?_; refine tr_ret ?_; refine tr_retE rfl (ends1 rfl rfl) ?_)
    rfl
  have hE0 : es.length = 0 := by omega
  have hG1 : (gpL es es.length).length = 0 := by omega
  rw [hG1, hE0]
  refine tr_for (ι := Unit) (fun _ => True) (fun _ => [(77, .int .i64 0), (76, .int .i64 ((0 : Nat) : Int)), (5, .slice ga 0 gc)]) (fun _ => []) (fun _ => 0) ?_ ?_
  · apply tr_start () trivial
    case hs1 => exact .cons rfl (.cons rfl (.cons rfl .nil))
    case ht => exact .nil
  rintro ⟨⟩ _
  (refine s_r ?_; refine tr_val (rk_lss (.of rfl) (.of rfl)) rfl ?_; refine n_t ?_; refine tr_seq ?_; refine c_d rfl (fun _ => by omega) (fun hcd => ?_); refine x_t ?_; refine tr_then_exit ?_; refine tr_blk_exit ?_; refine tr_then ?_; refine tr_seq ?_; refine s_r ?_; refine m_v rfl rfl ?_; refine tr_val (rk_len_slice (.of rfl)) rfl ?_; refine m_v rfl rfl ?_; refine n_t ?_; refine tr_block ?_)
  refine tr_for (ι := Unit) (fun _ => True) (fun _ => [(351, .int .i64 0), (350, .int .i64 ((0 : Nat) : Int))]) (fun _ => []) (fun _ => 0) ?_ ?_
  · apply tr_start () trivial
    case hs1 => exact .cons rfl (.cons rfl .nil)
    case ht => exact .nil
  rintro ⟨⟩ _
  (refine s_r ?_; refine tr_val (rk_lss (.of rfl) (.of rfl)) rfl ?_; refine n_t ?_; refine tr_seq ?_; refine c_d rfl (fun _ => by omega) (fun hcd => ?_); refine x_t ?_; refine tr_then_exit ?_; refine tr_blk_exit ?_; refine tr_then ?_; refine s_r ?_; refine a_s rfl rfl ?_; refine n_t ?_; refine tr_ret ?_; refine tr_retE rfl (ends1 rfl rfl) ?_)
  rfl
end Go.Proofs.A1

