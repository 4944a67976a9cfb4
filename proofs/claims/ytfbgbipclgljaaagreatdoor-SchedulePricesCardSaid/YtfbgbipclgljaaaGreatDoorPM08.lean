/- Parts of the proof: S4 S3p S5 S6 S7. -/
import Derived.Test.YtfbgbipclgljaaaGreatDoorPM07
import Derived.Test.YtfbgbipclgljaaaGreatDoorPM06
set_option linter.unusedSectionVars false
set_option linter.unusedVariables false
set_option linter.unusedSimpArgs false
/- S4 -/
namespace Go.Proofs.A1
open Go Go.SL

/-- the package's own table -/
structure Glob (w : World) : Prop where
  n0 : w.cell? ⟨0, 0, none⟩ = some (.string sFix)
  n1 : w.cell? ⟨0, 1, none⟩ = some (.string sFol)
  n2 : w.cell? ⟨0, 2, none⟩ = some (.string sMan)
theorem cell_keeps {w w' : World} {a : Addr} {v : Value} (h : w.cell? a = some v) (hs : a.spot = none) (hk : Keeps [] w w') : w'.cell? a = some v := by
  have hb := World.block_lt_of_cell? w a h
  obtain ⟨b, o, s⟩ := a
  subst hs
  have := hk.block b hb (by simp)
  rw [← h]
  simp [World.cell?, this]
theorem Glob.keeps {w w' : World} (h : Glob w) (hk : Keeps [] w w') : Glob w' := ⟨cell_keeps h.n0 rfl hk, cell_keeps h.n1 rfl hk, cell_keeps h.n2 rfl hk⟩

def fv (n : Nat) : Value := .func (.func n) #[] #[]
theorem k1_c (a b : Int) (w : World) : GivesV Tryz.prog 223 [.int .i64 a, .int .i64 b] w (.int .i64 a) := by
  refine givesV_of_tr Tryz.func223 rfl rfl ?_
  (refine s_r ?_; refine a_s rfl rfl ?_; refine n_r ?_; refine m_v rfl rfl ?_; refine a_s rfl rfl ?_; refine n_t ?_; refine tr_ret ?_; refine tr_retE rfl (ends1 rfl rfl) ?_)
  rfl
theorem k2_c (a b : Int) (w : World) : GivesV Tryz.prog 224 [.int .i64 a, .int .i64 b] w (.int .i64 b) := by
  refine givesV_of_tr Tryz.func224 rfl rfl ?_
  (refine s_r ?_; refine a_s rfl rfl ?_; refine n_r ?_; refine m_v rfl rfl ?_; refine a_s rfl rfl ?_; refine n_t ?_; refine tr_ret ?_; refine tr_retE rfl (ends1 rfl rfl) ?_)
  rfl
theorem k3_c (a b : Int) (w : World) : GivesV Tryz.prog 225 [.int .i64 a, .int .i64 b] w (.int .i64 (max a b)) := by
  refine givesV_of_tr Tryz.func225 rfl rfl ?_
  (refine s_r ?_; refine a_s rfl rfl ?_; refine n_r ?_; refine m_v rfl rfl ?_; refine m_v rfl rfl ?_; refine tr_val (rk_max2 (.of rfl) (.of rfl)) rfl ?_; refine a_s rfl rfl ?_; refine n_t ?_; refine tr_ret ?_; refine tr_retE rfl (ends1 rfl rfl) ?_)
  rfl
def kindsL : List Value := [.string sFix, .int .i64 10000000, .func (.func 223) #[] #[], .string sFol, .int .i64 0, .func (.func 224) #[] #[], .string sMan, .int .i64 10000000, .func (.func 225) #[] #[]]
theorem kinds_c (w : World) (hg : Glob w) : GivesV Tryz.prog 208 [] w (.agg kindsL.toArray) := by
  obtain ⟨g0, g1, g2⟩ := hg
  refine givesV_of_tr Tryz.func208 rfl rfl ?_
  (refine s_r ?_; refine tr_new (rk_alloc rfl) rfl (fun _ _ => ?_); refine n_r ?_; refine tr_val (rk_indexAddrA (.of rfl) (.of rfl) (by omega) (by omega) norm1_) rfl ?_; refine tr_val (rk_load1 (.of rfl) (At.base g0 rfl)) rfl ?_; refine tr_val (rk_buildL (.cons (.of rfl) (.cons (.of rfl) (.cons (.of rfl) .nil))) norm_) rfl ?_; refine tr_val (rk_indexAddrA (.of rfl) (.of rfl) (by omega) (by omega) norm1_) rfl ?_; refine tr_val (rk_load1 (.of rfl) (At.base g1 rfl)) rfl ?_; refine tr_val (rk_buildL (.cons (.of rfl) (.cons (.of rfl) (.cons (.of rfl) .nil))) norm_) rfl ?_; refine tr_val (rk_indexAddrA (.of rfl) (.of rfl) (by omega) (by omega) norm1_) rfl ?_; refine tr_val (rk_load1 (.of rfl) (At.base g2 rfl)) rfl ?_; refine tr_val (rk_buildL (.cons (.of rfl) (.cons (.of rfl) (.cons (.of rfl) .nil))) norm_) rfl ?_; refine tr_val (rk_buildL (.cons (.of rfl) (.cons (.of rfl) (.cons (.of rfl) .nil))) norm_) rfl ?_; refine tr_store (.of rfl) (.of rfl) .here rfl rfl (okc_cons rfl (okc_cons rfl (okc_cons rfl (okc_cons rfl (okc_cons rfl (okc_cons rfl (okc_cons rfl (okc_cons rfl (okc_cons rfl okc_nil))))))))) (lenb rfl) norm_ ?_; refine n_t ?_; refine tr_ret ?_; refine tr_retE rfl (ends1cB rfl inferInstance rfl .here norm_ (by rfl)) ?_)
  rfl
def kindL (kd : ByteArray) : List Value :=
  if kd = sFix then [.string sFix, .int .i64 10000000, .func (.func 223) #[] #[]]
  else if kd = sFol then [.string sFol, .int .i64 0, .func (.func 224) #[] #[]]
  else if kd = sMan then [.string sMan, .int .i64 10000000, .func (.func 225) #[] #[]]
  else [.string ⟨#[]⟩, .int .i64 0, .nilFunc]
theorem kind_c (kd : ByteArray) (t : Int) (w : World) (hg : Glob w) : GivesV Tryz.prog 176 [.agg #[.string kd, .int .i64 t]] w (.tuple #[.agg (kindL kd).toArray, .bool (kindB kd)]) := by
  refine givesV_of_tr Tryz.func176 rfl rfl ?_
  (refine s_r ?_; refine tr_new (rk_box (.of rfl) rfl) rfl (fun _ _ => ?_); refine tr_new (rk_alloc rfl) rfl (fun _ _ => ?_); refine a_s rfl rfl ?_; refine n_t ?_; refine tr_seq ?_; refine s_r ?_; refine tr_callV (rk_call (.of rfl) .nil inferInstance normc_) rfl (fun w' hm' => (kinds_c w' (Glob.keeps hg (Mem.keeps hm')))) ?_; refine m_v rfl rfl ?_; refine n_t ?_; refine tr_block ?_)
  rename_i b1 hb1 b2 hb2
  refine tr_for (fun j : Nat => j ≤ 3 ∧ (0 < j → ¬ kd = sFix) ∧ (1 < j → ¬ kd = sFol) ∧ (2 < j → ¬ kd = sMan)) (fun j => [(7, .int .i64 j), (6, .agg kindsL.toArray), (3, .bool false), (2, .pointer (some ⟨b2, 0, none⟩)), (1, .pointer (some ⟨b1, 0, none⟩))])
    (fun _ => [blk b2 (.cells #[.string ⟨#[]⟩, .int .i64 0, .nilFunc] 278 (0, 0)), blk b1 (.cells #[.string kd, .int .i64 t] 136 (0, 0))]) (fun j => 3 - j) ?_ ?_
  · apply tr_start 0 ⟨by omega, by omega, by omega, by omega⟩
    case hs1 => exact .cons rfl (.cons rfl (.cons rfl (.cons rfl (.cons rfl .nil))))
    case ht => (try simp only [List.take_zero, List.map_nil, List.nil_append]); exact .cons .here (.cons .here .nil)
  intro j ⟨hj, h0, h1, h2⟩
  by_cases hlt : j < 3
  · obtain rfl | rfl | rfl : j = 0 ∨ j = 1 ∨ j = 2 := by omega
    · simp only [kindsL, Int.natCast_zero, Int.cast_ofNat_Int]
      (refine s_r ?_; refine tr_val (rk_lss (.of rfl) (.of rfl)) rfl ?_; refine n_t ?_; refine tr_seq ?_; refine c_d rfl (fun hcd => ?_) (fun _ => by omega); refine s_t ?_; refine tr_seq ?_; refine tr_block ?_; refine s_r ?_; refine tr_val (rk_index (.of rfl) (.of rfl) (by omega) hcd norm_) rfl ?_; refine tr_new (rk_alloc rfl) rfl (fun _ _ => ?_); refine tr_store (.of rfl) (.of rfl) .here rfl rfl (okc_cons rfl (okc_cons rfl (okc_cons rfl okc_nil))) (lenb rfl) norm_ ?_; refine n_r ?_; refine f_a rfl rfl norm0_ ?_; refine tr_val (rk_load1 (.of rfl) (At.lit .here rfl)) rfl ?_; refine f_a rfl rfl norm0_ ?_; refine tr_val (rk_load1 (.of rfl) (At.lit (.there (.there .here)) rfl)) rfl ?_; refine tr_val (rk_eqls (.of rfl) (.of rfl)) rfl ?_; refine n_t ?_; refine c_d rfl (fun hcd => ?_) (fun hcd => ?_); refine s_r ?_; refine tr_val (rk_loadB (.of rfl) .here norm_ (by rfl)) rfl ?_; refine tr_store (.of rfl) (.of rfl) (.there .here) rfl rfl (okc_cons rfl (okc_cons rfl (okc_cons rfl okc_nil))) (lenb rfl) norm_ ?_; refine a_s rfl rfl ?_; refine n_t ?_; refine tr_ret ?_; refine tr_blk_ret ?_; refine tr_then_ret ?_; refine tr_then_ret ?_; refine tr_blk_ret ?_; refine tr_then_ret ?_; refine tr_retE rfl (endsCT rfl inferInstance rfl .here norm_ (by rfl) (by rfl)) ?_; rotate_left; refine tr_skip ?_; refine tr_blk_normal ?_; refine tr_then ?_; refine tr_region ?_; refine tr_val (rk_add (.of rfl) (.of rfl) (ini (by omega))) rfl ?_; refine m_v rfl rfl ?_; refine n_t ?_; rotate_right)
      · subst hcd; rfl
      · apply tr_next 1 ⟨by omega, fun _ e => hcd e.symm, by omega, by omega⟩ (by omega)
        case hs1 => exact .cons rfl (.cons rfl (.cons rfl (.cons rfl (.cons rfl .nil))))
        case ht => (try simp only [List.take_zero, List.map_nil, List.nil_append]); exact .cons (.there .here) (.cons (.there .here) .nil)
    · simp only [kindsL, Int.cast_ofNat_Int]
      (refine s_r ?_; refine tr_val (rk_lss (.of rfl) (.of rfl)) rfl ?_; refine n_t ?_; refine tr_seq ?_; refine c_d rfl (fun hcd => ?_) (fun _ => by omega); refine s_t ?_; refine tr_seq ?_; refine tr_block ?_; refine s_r ?_; refine tr_val (rk_index (.of rfl) (.of rfl) (by omega) hcd norm_) rfl ?_; refine tr_new (rk_alloc rfl) rfl (fun _ _ => ?_); refine tr_store (.of rfl) (.of rfl) .here rfl rfl (okc_cons rfl (okc_cons rfl (okc_cons rfl okc_nil))) (lenb rfl) norm_ ?_; refine n_r ?_; refine f_a rfl rfl norm0_ ?_; refine tr_val (rk_load1 (.of rfl) (At.lit .here rfl)) rfl ?_; refine f_a rfl rfl norm0_ ?_; refine tr_val (rk_load1 (.of rfl) (At.lit (.there (.there .here)) rfl)) rfl ?_; refine tr_val (rk_eqls (.of rfl) (.of rfl)) rfl ?_; refine n_t ?_; refine c_d rfl (fun hcd => ?_) (fun hcd => ?_); refine s_r ?_; refine tr_val (rk_loadB (.of rfl) .here norm_ (by rfl)) rfl ?_; refine tr_store (.of rfl) (.of rfl) (.there .here) rfl rfl (okc_cons rfl (okc_cons rfl (okc_cons rfl okc_nil))) (lenb rfl) norm_ ?_; refine a_s rfl rfl ?_; refine n_t ?_; refine tr_ret ?_; refine tr_blk_ret ?_; refine tr_then_ret ?_; refine tr_then_ret ?_; refine tr_blk_ret ?_; refine tr_then_ret ?_; refine tr_retE rfl (endsCT rfl inferInstance rfl .here norm_ (by rfl) (by rfl)) ?_; rotate_left; refine tr_skip ?_; refine tr_blk_normal ?_; refine tr_then ?_; refine tr_region ?_; refine tr_val (rk_add (.of rfl) (.of rfl) (ini (by omega))) rfl ?_; refine m_v rfl rfl ?_; refine n_t ?_; rotate_right)
      · subst hcd; rfl
      · apply tr_next 2 ⟨by omega, fun _ => h0 (by omega), fun _ e => hcd e.symm, by omega⟩ (by omega)
        case hs1 => exact .cons rfl (.cons rfl (.cons rfl (.cons rfl (.cons rfl .nil))))
        case ht => (try simp only [List.take_zero, List.map_nil, List.nil_append]); exact .cons (.there .here) (.cons (.there .here) .nil)
    · simp only [kindsL, Int.cast_ofNat_Int]
      (refine s_r ?_; refine tr_val (rk_lss (.of rfl) (.of rfl)) rfl ?_; refine n_t ?_; refine tr_seq ?_; refine c_d rfl (fun hcd => ?_) (fun _ => by omega); refine s_t ?_; refine tr_seq ?_; refine tr_block ?_; refine s_r ?_; refine tr_val (rk_index (.of rfl) (.of rfl) (by omega) hcd norm_) rfl ?_; refine tr_new (rk_alloc rfl) rfl (fun _ _ => ?_); refine tr_store (.of rfl) (.of rfl) .here rfl rfl (okc_cons rfl (okc_cons rfl (okc_cons rfl okc_nil))) (lenb rfl) norm_ ?_; refine n_r ?_; refine f_a rfl rfl norm0_ ?_; refine tr_val (rk_load1 (.of rfl) (At.lit .here rfl)) rfl ?_; refine f_a rfl rfl norm0_ ?_; refine tr_val (rk_load1 (.of rfl) (At.lit (.there (.there .here)) rfl)) rfl ?_; refine tr_val (rk_eqls (.of rfl) (.of rfl)) rfl ?_; refine n_t ?_; refine c_d rfl (fun hcd => ?_) (fun hcd => ?_); refine s_r ?_; refine tr_val (rk_loadB (.of rfl) .here norm_ (by rfl)) rfl ?_; refine tr_store (.of rfl) (.of rfl) (.there .here) rfl rfl (okc_cons rfl (okc_cons rfl (okc_cons rfl okc_nil))) (lenb rfl) norm_ ?_; refine a_s rfl rfl ?_; refine n_t ?_; refine tr_ret ?_; refine tr_blk_ret ?_; refine tr_then_ret ?_; refine tr_then_ret ?_; refine tr_blk_ret ?_; refine tr_then_ret ?_; refine tr_retE rfl (endsCT rfl inferInstance rfl .here norm_ (by rfl) (by rfl)) ?_; rotate_left; refine tr_skip ?_; refine tr_blk_normal ?_; refine tr_then ?_; refine tr_region ?_; refine tr_val (rk_add (.of rfl) (.of rfl) (ini (by omega))) rfl ?_; refine m_v rfl rfl ?_; refine n_t ?_; rotate_right)
      · subst hcd; rfl
      · apply tr_next 3 ⟨by omega, fun _ => h0 (by omega), fun _ => h1 (by omega), fun _ e => hcd e.symm⟩ (by omega)
        case hs1 => exact .cons rfl (.cons rfl (.cons rfl (.cons rfl (.cons rfl .nil))))
        case ht => (try simp only [List.take_zero, List.map_nil, List.nil_append]); exact .cons (.there .here) (.cons (.there .here) .nil)
  · obtain rfl : j = 3 := by omega
    (refine s_r ?_; refine tr_val (rk_lss (.of rfl) (.of rfl)) rfl ?_; refine n_t ?_; refine tr_seq ?_; refine c_d rfl (fun _ => by omega) (fun hcd => ?_); refine x_t ?_; refine tr_then_exit ?_; refine tr_blk_exit ?_; refine tr_then ?_; refine s_r ?_; refine tr_val (rk_buildL .nil norm_) rfl ?_; refine tr_store (.of rfl) (.of rfl) .here rfl rfl (okc_cons rfl (okc_cons rfl (okc_cons rfl okc_nil))) (lenb rfl) norm_ ?_; refine a_s rfl rfl ?_; refine n_t ?_; refine tr_ret ?_; refine tr_retE rfl (endsCT rfl inferInstance rfl .here norm_ (by rfl) (by rfl)) ?_)
    have h0 := h0 (by omega); have h1 := h1 (by omega); have h2 := h2 (by omega)
    simp [kindL, kindB, h0, h1, h2]
theorem follows_c (kd : ByteArray) (t : Int) (w : World) (hg : Glob w) : GivesV Tryz.prog 110 [.agg #[.string kd, .int .i64 t]] w (.bool (decide (kd = sFol) && (decide (t = 0) && true))) := by
  obtain ⟨g0, g1, g2⟩ := hg
  refine givesV_of_tr Tryz.func110 rfl rfl ?_
  (refine s_r ?_; refine tr_new (rk_box (.of rfl) rfl) rfl (fun _ _ => ?_); refine a_s rfl rfl ?_; refine n_r ?_; refine tr_val (rk_loadB (.of rfl) .here norm_ (by rfl)) rfl ?_; refine tr_val (rk_indexAddrA (.of rfl) (.of rfl) (by omega) (by omega) norm1_) rfl ?_; refine tr_val (rk_load1 (.of rfl) (At.base g1 rfl)) rfl ?_; refine tr_val (rk_buildL (.cons (.of rfl) .nil) norm_) rfl ?_; refine tr_val (rk_eqlA (.of rfl) (.of rfl) (okL_string (okL_int okL_nil)) rfl) rfl ?_; refine a_s rfl rfl ?_; refine n_t ?_; refine tr_ret ?_; refine tr_retE rfl (ends1 rfl rfl) ?_)
  rfl
def mostK (kd : ByteArray) : Int := if kd = sFix then 10000000 else if kd = sFol then 0 else if kd = sMan then 10000000 else 0
theorem kindL_form (kd : ByteArray) : ∃ x z, kindL kd = [.string x, .int .i64 (mostK kd), z] ∧ z.oneCell' = true := by
  unfold kindL mostK
  by_cases h0 : kd = sFix
  · simp only [h0, if_true]; exact ⟨_, _, rfl, rfl⟩
  by_cases h1 : kd = sFol
  · simp only [h1, sFix_ne_sFol, fun e : sFol = sFix => sFix_ne_sFol e.symm, if_false, if_true]; exact ⟨_, _, rfl, rfl⟩
  by_cases h2 : kd = sMan
  · simp only [h0, h1, h2, if_false, if_true]; simp only [h2] at h0 h1; simp only [h0, h1, if_false]; exact ⟨_, _, rfl, rfl⟩
  simp only [h0, h1, h2, if_false]; exact ⟨_, _, rfl, rfl⟩
theorem startK (kd : ByteArray) (t : Int) : firstF [whenF (!kindB kd) 13, withinF t 0 (mostK kd)] = startF kd t := by
  unfold startF
  by_cases h : kindB kd = true
  · have : mostK kd = mostF kd := by
      simp only [kindB, Bool.or_eq_true, decide_eq_true_eq] at h
      unfold mostK mostF
      rcases h with (h | h) | h
      · rw [if_pos h, if_neg (by rw [h]; exact sFix_ne_sFol)]
      · rw [if_neg (by rw [h]; exact fun e => sFix_ne_sFol e.symm), if_pos h, if_pos h]
      · rw [if_neg (by rw [h]; exact fun e => sFix_ne_sMan e.symm), if_neg (by rw [h]; exact sMan_ne_sFol), if_pos h, if_neg (by rw [h]; exact sMan_ne_sFol)]
    rw [this]
  · have : kindB kd = false := by simpa using h
    simp [this, whenF, firstF]
theorem startC_c (kd : ByteArray) (t : Int) (w : World) (hg : Glob w) : GivesV Tryz.prog 152 [.agg #[.string kd, .int .i64 t]] w (.int .i64 (startF kd t)) := by
  obtain ⟨x, z, hk, hz⟩ := kindL_form kd
  have hkc : ∀ w', Keeps [] w w' → GivesV Tryz.prog 176 [.agg #[.string kd, .int .i64 t]] w' (.tuple #[.agg #[.string x, .int .i64 (mostK kd), z], .bool (kindB kd)]) := fun w' hk' => by
    have := kind_c kd t w' (hg.keeps hk')
    rwa [hk] at this
  rw [← startK]
  refine givesV_of_tr Tryz.func152 rfl rfl ?_
  (refine s_r ?_; refine tr_new (rk_box (.of rfl) rfl) rfl (fun _ _ => ?_); refine a_s rfl rfl ?_; refine n_r ?_; refine tr_val (rk_loadB (.of rfl) .here norm_ (by rfl)) rfl ?_; refine tr_callV (rk_call (.of rfl) (.cons (.of rfl) .nil) inferInstance normc_) rfl (fun w' hm' => (hkc w' (Mem.keeps hm'))) ?_; refine m_v rfl rfl ?_; refine tr_val (rk_extract (.of rfl) rfl) rfl ?_; refine tr_val (rk_extract (.of rfl) rfl) rfl ?_; refine tr_new (rk_alloc rfl) rfl (fun _ _ => ?_); refine tr_store (.of rfl) (.of rfl) .here rfl rfl (okc_cons rfl (okc_cons rfl (okc_cons hz okc_nil))) (lenb rfl) norm_ ?_; refine a_s rfl rfl ?_; refine n_t ?_; refine tr_seq ?_)
  with_reducible refine tr_draw 8 (by kernel_rfl) ?_
  (refine a_m rfl rfl ?_; refine any_val (rk_not (.of rfl)) rfl ?_; refine any_call (rk_call (.of rfl) (.cons (.of rfl) (.cons (.of rfl) .nil)) inferInstance normc_) rfl (fun w' hm' => (when_c _ 13 w')) ?_; refine a_f rfl rfl norm0_ ?_; refine any_val (rk_load1 (.of rfl) (At.lit (.there .here) rfl)) rfl ?_; refine a_f rfl rfl norm0_ ?_; refine any_val (rk_load1 (.of rfl) (At.lit .here rfl)) rfl ?_; refine any_call (rk_call (.of rfl) (.cons (.of rfl) (.cons (.of rfl) (.cons (.of rfl) .nil))) inferInstance normc_) rfl (fun w' hm' => (within_c t 0 _ w')) ?_)
  with_reducible refine any_end ?_
  (refine tr_new (rk_sliceLit (.cons (.of rfl) (.cons (.of rfl) .nil)) rfl rfl rfl rfl) rfl (fun _ _ => ?_); refine tr_callV (rk_call (.of rfl) (.cons (.of rfl) .nil) inferInstance normc_) rfl (fun w' hm' => (first_pB (Mem.rdBlk hm' .here rfl rfl) (IntL.cons (IntL.cons IntL.nil)))) ?_; refine a_s rfl rfl ?_; refine n_t ?_; refine tr_ret ?_; refine tr_retE rfl (ends1 rfl rfl) ?_)
  rfl
def En.cells (e : En) : List Value := [.string e.nm, .string e.mt, .string e.kd, .int .i64 e.tm, .int .i64 e.ln, .int .i64 e.ov]
theorem entC_c (e : En) (w : World) (hg : Glob w) : GivesV Tryz.prog 108 [.agg e.cells.toArray] w (.int .i64 (entF e)) := by
  unfold En.cells
  refine givesV_of_tr Tryz.func108 rfl rfl ?_
  (refine s_r ?_; refine tr_new (rk_box (.of rfl) rfl) rfl (fun _ _ => ?_); refine a_s rfl rfl ?_; refine n_t ?_; refine tr_seq ?_)
  with_reducible refine tr_draw 21 (by kernel_rfl) ?_
  (refine a_f rfl rfl norm0_ ?_; refine any_val (rk_load1 (.of rfl) (At.lit .here rfl)) rfl ?_; refine any_call (rk_call (.of rfl) (.cons (.of rfl) .nil) inferInstance normc_) rfl (fun w' hm' => (nm_p _ w')) ?_; refine a_f rfl rfl norm0_ ?_; refine any_val (rk_load1 (.of rfl) (At.lit .here rfl)) rfl ?_; refine any_call (rk_call (.of rfl) (.cons (.of rfl) .nil) inferInstance normc_) rfl (fun w' hm' => (nm_p _ w')) ?_; refine a_f rfl rfl norm0_ ?_; refine any_val (rk_loadB (.of rfl) .here norm_ (by rfl)) rfl ?_; refine any_call (rk_call (.of rfl) (.cons (.of rfl) .nil) inferInstance normc_) rfl (fun w' hm' => (startC_c _ _ w' (Glob.keeps hg (Mem.keeps hm')))) ?_; refine a_f rfl rfl norm0_ ?_; refine any_val (rk_load1 (.of rfl) (At.lit .here rfl)) rfl ?_; refine any_call (rk_call (.of rfl) (.cons (.of rfl) (.cons (.of rfl) (.cons (.of rfl) .nil))) inferInstance normc_) rfl (fun w' hm' => (within_c _ 1 1000000 w')) ?_; refine a_f rfl rfl norm0_ ?_; refine any_val (rk_load1 (.of rfl) (At.lit .here rfl)) rfl ?_; refine any_call (rk_call (.of rfl) (.cons (.of rfl) (.cons (.of rfl) (.cons (.of rfl) .nil))) inferInstance normc_) rfl (fun w' hm' => (within_c _ 0 250 w')) ?_; refine a_f rfl rfl norm0_ ?_; refine any_val (rk_load1 (.of rfl) (At.lit .here rfl)) rfl ?_; refine a_f rfl rfl norm0_ ?_; refine any_val (rk_load1 (.of rfl) (At.lit .here rfl)) rfl ?_; refine any_val (rk_geq (.of rfl) (.of rfl)) rfl ?_; refine any_call (rk_call (.of rfl) (.cons (.of rfl) (.cons (.of rfl) .nil)) inferInstance normc_) rfl (fun w' hm' => (when_c _ 4 w')) ?_)
  with_reducible refine any_end ?_
  (refine tr_new (rk_sliceLit (.cons (.of rfl) (.cons (.of rfl) (.cons (.of rfl) (.cons (.of rfl) (.cons (.of rfl) (.cons (.of rfl) .nil)))))) rfl rfl rfl rfl) rfl (fun _ _ => ?_); refine tr_callV (rk_call (.of rfl) (.cons (.of rfl) .nil) inferInstance normc_) rfl (fun w' hm' => (first_pB (Mem.rdBlk hm' .here rfl rfl) (IntL.cons (IntL.cons (IntL.cons (IntL.cons (IntL.cons (IntL.cons IntL.nil)))))))) ?_; refine a_s rfl rfl ?_; refine n_t ?_; refine tr_ret ?_; refine tr_retE rfl (ends1 rfl rfl) ?_)
  rfl
end Go.Proofs.A1

/- S3p -/
/- Schedules: gaps and shares. Plain Lean, no program in sight. -/
namespace Go.Proofs.A1

/-- a valid schedule -/
structure Sound (es : List En) : Prop where
  all : EsOk es
  dup : ∀ k, k < es.length → dup es k = false
  fol : 0 < es.length → ¬ (nth es 0).kd = sFol
  bad : ∀ k, k < es.length → badAt es k = false
  most : ∀ k, k < es.length → to es k ≤ 10000000
theorem Sound.of {es : List En} (h : chkF es = 0) : Sound es := by
  obtain ⟨h1, h2, h3, h4⟩ := chk_ok h
  exact ⟨h1, h2, h3, fun k hk => (h4 k hk).1, fun k hk => (h4 k hk).2⟩
theorem Sound.next {es : List En} (h : Sound es) {k : Nat} (hk : k + 1 < es.length) : jn es (k + 1) ≤ fr es (k + 1) ∧ fr es k < fr es (k + 1) ∧ to es k < to es (k + 1) := by
  have := h.bad (k + 1) hk
  unfold badAt at this
  simp only [Nat.add_sub_cancel, Nat.zero_lt_succ, decide_true, Bool.true_and, Bool.or_eq_false_iff, Bool.and_eq_false_iff, decide_eq_false_iff_not, Int.not_lt, Int.not_le] at this
  rw [jn_succ]
  omega
theorem Sound.third {es : List En} (h : Sound es) {k : Nat} (hk : k + 2 < es.length) : to es k ≤ fr es (k + 2) := by
  have := h.bad (k + 2) hk
  unfold badAt at this
  simp only [Nat.add_sub_cancel, Nat.zero_lt_succ, decide_true, Bool.true_and, Bool.or_eq_false_iff, Bool.and_eq_false_iff, decide_eq_false_iff_not, Int.not_lt, Int.not_le] at this
  have h2 : (1 : Nat) < k + 2 := by omega
  rcases this.1.2 with h | h
  · omega
  · exact h
theorem Sound.fr_lt {es : List En} (h : Sound es) {i : Nat} : ∀ {k : Nat}, i < k → k < es.length → fr es i < fr es k
  | 0, h1, _ => by omega
  | k + 1, h1, h2 => by
    have := (h.next h2).2.1
    by_cases e : i = k
    · rw [e]; exact this
    · have := h.fr_lt (i := i) (k := k) (by omega) (by omega); omega
theorem Sound.to_lt {es : List En} (h : Sound es) {i : Nat} : ∀ {k : Nat}, i < k → k < es.length → to es i < to es k
  | 0, h1, _ => by omega
  | k + 1, h1, h2 => by
    have := (h.next h2).2.2
    by_cases e : i = k
    · rw [e]; exact this
    · have := h.to_lt (i := i) (k := k) (by omega) (by omega); omega
theorem Sound.fr_nn {es : List En} (h : Sound es) {k : Nat} (hk : k < es.length) : 0 ≤ fr es k ∧ fr es k < to es k ∧ to es k ≤ 10000000 := by
  have h1 := fr_in h.all.ok hk
  have h2 := (h.all.ok k hk).ln
  have h3 := h.most k hk
  unfold to at h3 ⊢
  omega

/-- is an entry on air? -/
def onB (es : List En) (f : Int) (k : Nat) : Bool := decide (fr es k ≤ f) && decide (f < to es k)
/-- the entries on air among the first so many -/
def onL (es : List En) (f : Int) (n : Nat) : List Nat := (List.range n).filter (onB es f)
theorem onL_succ {es : List En} {f : Int} {n : Nat} : onL es f (n + 1) = onL es f n ++ if onB es f n then [n] else [] := by
  unfold onL
  rw [List.range_succ, List.filter_append]
  congr 1
  cases h : onB es f n <;> simp [h]
theorem Sound.two {es : List En} (h : Sound es) {f : Int} {i k : Nat} (hik : i < k) (hk : k < es.length) (hi : onB es f i = true) (hk' : onB es f k = true) : k = i + 1 := by
  simp only [onB, Bool.and_eq_true, decide_eq_true_eq] at hi hk'
  apply Classical.byContradiction
  intro hne
  have h2 : i + 2 ≤ k := by omega
  have h3 := h.third (k := i) (by omega)
  by_cases e : i + 2 = k
  · rw [e] at h3; omega
  · have := h.fr_lt (i := i + 2) (k := k) (by omega) hk
    omega
/-- what is on air: at most two entries, one after the other -/
theorem Sound.onL {es : List En} (h : Sound es) (f : Int) : ∀ n, n ≤ es.length → onL es f n = [] ∨ (∃ i, i < n ∧ onB es f i = true ∧ onL es f n = [i]) ∨ ∃ i, i + 1 < n ∧ onB es f i = true ∧ onB es f (i + 1) = true ∧ onL es f n = [i, i + 1]
  | 0, _ => .inl rfl
  | n + 1, hn => by
    rw [onL_succ]
    cases hb : onB es f n with
    | false =>
      simp only [Bool.false_eq_true, if_false, List.append_nil]
      rcases h.onL f n (by omega) with e | ⟨i, h1, h2, e⟩ | ⟨i, h1, h2, h3, e⟩
      · exact .inl e
      · exact .inr (.inl ⟨i, by omega, h2, e⟩)
      · exact .inr (.inr ⟨i, by omega, h2, h3, e⟩)
    | true =>
      simp only [if_true]
      rcases h.onL f n (by omega) with e | ⟨i, h1, h2, e⟩ | ⟨i, h1, h2, h3, e⟩
      · rw [e]; exact .inr (.inl ⟨n, by omega, hb, rfl⟩)
      · rw [e]
        have := h.two h1 (by omega) h2 hb
        subst this
        exact .inr (.inr ⟨i, by omega, h2, hb, rfl⟩)
      · have h4 := h.two (by omega : i < n) (by omega) h2 hb
        omega

/-- lowest terms -/
def gcdF (a b : Int) : Int := (Nat.gcd a.toNat b.toNat : Nat)
theorem gcdF_step {a b : Int} (ha : 0 ≤ a) (hb : 0 < b) : gcdF b (a % b) = gcdF a b := by
  obtain ⟨m, rfl⟩ := Int.eq_ofNat_of_zero_le ha
  obtain ⟨n, rfl⟩ := Int.eq_ofNat_of_zero_le (Int.le_of_lt hb)
  unfold gcdF
  rw [← Int.natCast_emod]
  simp only [Int.toNat_natCast]
  rw [Nat.gcd_comm m n, Nat.gcd_rec n m, Nat.gcd_comm]
theorem gcdF_zero {a : Int} (ha : 0 ≤ a) : gcdF a 0 = a := by
  unfold gcdF
  simp
  omega
theorem gcdF_pos {a b : Int} (hb : 0 < b) : 0 < gcdF a b ∧ gcdF a b ≤ b := by
  unfold gcdF
  have h1 : 0 < Nat.gcd a.toNat b.toNat := Nat.gcd_pos_of_pos_right _ (by omega)
  have h2 := Nat.le_of_dvd (by omega) (Nat.gcd_dvd_right a.toNat b.toNat)
  omega
def lowF (a b : Int) : Int × Int := (a / gcdF a b, b / gcdF a b)

/-- the shares at a frame -/
def shF (es : List En) (f : Int) : List (Int × Int × Int) :=
  match onL es f es.length with
  | [] => []
  | [i] => [((i : Int), 1, 1)]
  | i :: k :: _ => [((i : Int), lowF (to es i - fr es k - (f - fr es k)) (to es i - fr es k + 1)), ((k : Int), lowF (f - fr es k + 1) (to es i - fr es k + 1))]

/-- the gaps, up to an entry -/
def gpL (es : List En) : Nat → List (Int × Int × Int)
  | 0 => []
  | n + 1 => gpL es n ++ if 0 < n ∧ to es (n - 1) < fr es n then [((n : Int) - 1, to es (n - 1), fr es n)] else []
end Go.Proofs.A1

/- S5 -/
namespace Go.Proofs.A1
open Go Go.SL

def ensL (es : List En) : List (List Value) := es.map En.cells
theorem ensL_length (es : List En) : (ensL es).length = es.length := by simp [ensL]
theorem ensL_get {es : List En} {k : Nat} (h : k < es.length) : (ensL es)[k]? = some (nth es k).cells := by simp [ensL, h, nth_eq h]
theorem ensL_ne {es : List En} {k : Nat} (h : k < es.length) : ensL es ≠ [] := by intro e; have := congrArg List.length e; rw [ensL_length] at this; simp at this; subst this; simp at h
theorem Glob.keepsN {md : List Nat} {w w' : World} (h : Glob w) (hn : 0 ∉ md) (hk : Keeps md w w') : Glob w' := by
  have hb := World.block_lt_of_cell? w ⟨0, 0, none⟩ h.n0
  have := hk.block 0 hb hn
  exact ⟨by rw [← h.n0]; simp [World.cell?, this], by rw [← h.n1]; simp [World.cell?, this], by rw [← h.n2]; simp [World.cell?, this]⟩
theorem Glob.out {md fp : List Nat} {w0 : World} (h : Glob w0) (hn : 0 ∉ md) (hF : ∀ b ∈ fp, b ∈ md ∨ w0.heap.size ≤ b) : 0 ∉ fp := fun h0 => by
  have hb := World.block_lt_of_cell? w0 ⟨0, 0, none⟩ h.n0
  rcases hF 0 h0 with e | e
  · exact hn e
  · exact absurd hb (by simp; omega)

/-- the entry with its span -/
def plL (es : List En) (k : Nat) : List Value := [.string (nth es k).nm, .string (nth es k).mt, .string (nth es k).kd, .int .i64 (nth es k).tm, .int .i64 (nth es k).ln, .int .i64 (nth es k).ov, .int .i64 (fr es k), .int .i64 (to es k)]
def plcs (es : List En) : List (List Value) := (List.range es.length).map fun (k : Nat) => [.int .i64 k, .agg (plL es k).toArray]
theorem plcs_length (es : List En) : (plcs es).length = es.length := by simp [plcs]
theorem plcs_get {es : List En} {k : Nat} (h : k < es.length) : (plcs es)[k]? = some [.int .i64 k, .agg (plL es k).toArray] := by simp [plcs, h]

theorem entries_c (sv : Value) (w : World) (h1 : sv.oneCell' = true) :
    Gives Tryz.prog 111 [.agg #[sv]] w [] (fun _ : Nat => True) (fun x => .func (.func 175) #[] #[.pointer (some ⟨x, 0, none⟩)])
      (fun x => [blk x (.cells #[sv] 33 (0, 0))]) := by
  refine gives_of_tr Tryz.func111 rfl rfl ?_
  (refine s_r ?_; refine tr_new (rk_box (.of rfl) rfl) rfl (fun _ _ => ?_); refine a_s rfl rfl ?_; refine n_r ?_; refine tr_val (rk_makeFunc' .nil (.cons (.of rfl) .nil)) rfl ?_; refine a_s rfl rfl ?_; refine n_t ?_; refine tr_ret ?_)
  rename_i b hb
  first | with_reducible apply tr_retM | with_reducible apply tr_endM
  case he => exact ends1 rfl rfl
  case hR =>
    intro w' hm'
    exact gives_end b trivial (by exact .cons .here .nil) hm' rfl

theorem kd_form {kd : ByteArray} (h : kd = sFix ∨ kd = sFol ∨ kd = sMan) : ∃ x m f, kindL kd = [.string x, .int .i64 m, .func (.func f) ([] : List Value).toArray ([] : List Value).toArray] ∧ Bod Tryz.prog f ∧ ∀ a j w, GivesV Tryz.prog f [.int .i64 a, .int .i64 j] w (.int .i64 (frm kd a j)) := by
  rcases h with h | h | h
  · subst h
    refine ⟨sFix, 10000000, 223, by rw [kindL, if_pos rfl], inferInstance, fun a j w => ?_⟩
    have e : frm sFix a j = a := by rw [frm, if_neg sFix_ne_sFol, if_neg sFix_ne_sMan]
    rw [e]; exact k1_c a j w
  · subst h
    refine ⟨sFol, 0, 224, by rw [kindL, if_neg (fun e => sFix_ne_sFol e.symm), if_pos rfl], inferInstance, fun a j w => ?_⟩
    have e : frm sFol a j = j := by rw [frm, if_pos rfl]
    rw [e]; exact k2_c a j w
  · subst h
    refine ⟨sMan, 10000000, 225, by rw [kindL, if_neg (fun e => sFix_ne_sMan e.symm), if_neg sMan_ne_sFol, if_pos rfl], inferInstance, fun a j w => ?_⟩
    have e : frm sMan a j = max a j := by rw [frm, if_neg sMan_ne_sFol, if_pos rfl]
    rw [e]; exact k3_c a j w

theorem iter_c {b1 : Nat} {sv : Value} {es : List En} {w0 w : World} {md : List Nat} (h1 : Rd w0 sv 6 (ensL es)) (hok : ∀ k, k < es.length → EnOk (nth es k)) (hfew : es.length ≤ 24) (hg : Glob w0) (hmd : 0 ∉ md) (o1 : Out md sv (ensL es)) :
    Iter Tryz.prog 175 [] [.pointer (some ⟨b1, 0, none⟩)] [blk b1 (.cells #[sv] 33 (0, 0))] (plcs es) w0 md w := by
  intro l fp J E hB hF hn hs hy
  have hrd1 := h1.keepsN o1 hB
  have ho1 := h1.out (by omega) o1 hF
  have hg1 := hg.keepsN hmd hB
  have hg0 := hg.out hmd hF
  rw [plcs_length]
  obtain ⟨a, cap, b, o, rfl, hcap, hmax, ha, hc⟩ := hrd1
  rw [ensL_length] at *
  unfold maxLen at hmax
  refine givesM_of_tr Tryz.func175 rfl rfl hn hs ?_
  (refine s_r ?_; refine a_s rfl rfl ?_; refine n_r ?_; refine f_a rfl rfl norm0_ ?_; refine tr_val (rk_load1 (.of rfl) (At.lit (.there .here) rfl)) rfl ?_; refine tr_val (rk_len_slice (.of rfl)) rfl ?_; refine m_v rfl rfl ?_; refine n_t ?_; refine tr_block ?_)
  refine tr_for (fun k : Nat => k ≤ es.length) (fun k => [(13, .int .i64 k), (12, .int .i64 es.length), (11, .slice a es.length cap), (3, .int .i64 (jn es k)), (0, .func (.yield l) #[] #[]), (1, .pointer (some ⟨b1, 0, none⟩))])
    (fun k => [J k, blk b1 (.cells #[.slice a es.length cap] 33 (0, 0))]) (fun k => es.length - k) ?_ ?_
  · apply tr_start 0 (by omega)
    case hs1 => exact .cons rfl (.cons rfl (.cons rfl (.cons rfl (.cons rfl (.cons rfl .nil)))))
    case ht => exact .cons .here (.cons .here .nil)
  intro k hk
  by_cases hlt : k < es.length
  · have ha' := ha (ensL_ne hlt)
    have hcell := (hc k _ (ensL_get hlt)).2
    have hnb := ho1.not_mem (ensL_ne hlt) ha'
    have ho := hok k hlt
    have hb1 := jn_in hok k (by omega)
    have hb2 := fr_in hok hlt
    have hln := ho.ln
    have hov := ho.ov
    obtain ⟨x, m, f, hkl, hB', hfr⟩ := kd_form ho.kd
    have hkc : ∀ w', Keeps fp w w' → GivesV Tryz.prog 176 [.agg #[.string (nth es k).kd, .int .i64 (nth es k).tm]] w' (.tuple #[.agg #[.string x, .int .i64 m, .func (.func f) ([] : List Value).toArray ([] : List Value).toArray], .bool (kindB (nth es k).kd)]) := fun w' hk' => by
      have := kind_c (nth es k).kd (nth es k).tm w' (hg1.keepsN hg0 hk')
      rwa [hkl] at this
    have hyk := hy k _ (plcs_get hlt)
    have hfr' : ∀ w, GivesV Tryz.prog f [.int .i64 (nth es k).tm, .int .i64 (jn es k)] w (.int .i64 (fr es k)) := fun w => hfr _ _ w
    unfold En.cells at hcell
    (refine s_r ?_; refine tr_val (rk_lss (.of rfl) (.of rfl)) rfl ?_; refine n_t ?_; refine tr_seq ?_; refine c_d rfl (fun hcd => ?_) (fun _ => by omega); refine s_t ?_; refine tr_seq ?_; refine tr_block ?_; refine s_r ?_; refine m_v rfl rfl ?_; refine tr_val (rk_indexAddr (.of rfl) (.of rfl) ha' (by omega) hcd norm1_) rfl ?_; refine tr_val (rk_loadN (.of rfl) (Ats.baseN hcell hnb) rfl) rfl ?_; refine tr_new (rk_alloc rfl) rfl (fun _ _ => ?_); refine a_s rfl rfl ?_; refine tr_store (.of rfl) (.of rfl) .here rfl rfl (okc_cons rfl (okc_cons rfl (okc_cons rfl (okc_cons rfl (okc_cons rfl (okc_cons rfl okc_nil)))))) (lenb rfl) norm_ ?_; refine n_r ?_; refine f_a rfl rfl norm0_ ?_; refine tr_val (rk_loadB (.of rfl) .here norm_ (by rfl)) rfl ?_; refine tr_callV (rk_call (.of rfl) (.cons (.of rfl) .nil) inferInstance normc_) rfl (fun w' hm' => (hkc w' (Mem.keeps hm'))) ?_; refine m_v rfl rfl ?_; refine tr_val (rk_extract (.of rfl) rfl) rfl ?_; refine tr_val (rk_extract (.of rfl) rfl) rfl ?_; refine tr_new (rk_alloc rfl) rfl (fun _ _ => ?_); refine tr_store (.of rfl) (.of rfl) .here rfl rfl (okc_cons rfl (okc_cons rfl (okc_cons rfl okc_nil))) (lenb rfl) norm_ ?_; refine a_s rfl rfl ?_; refine n_r ?_; refine f_a rfl rfl norm0_ ?_; refine tr_val (rk_load1 (.of rfl) (At.lit .here rfl)) rfl ?_; refine f_a rfl rfl norm0_ ?_; refine f_a rfl rfl norm0_ ?_; refine tr_val (rk_load1 (.of rfl) (At.lit (.there .here) rfl)) rfl ?_; refine m_v rfl rfl ?_; refine tr_callV (rk_call (.of rfl) (.cons (.of rfl) (.cons (.of rfl) .nil)) inferInstance normc_) rfl (fun w' hm' => (hfr' w')) ?_; refine a_s rfl rfl ?_; refine n_r ?_; refine tr_val (rk_loadB (.of rfl) (.there .here) norm_ (by rfl)) rfl ?_; refine m_v rfl rfl ?_; refine m_v rfl rfl ?_; refine f_a rfl rfl norm0_ ?_; refine tr_val (rk_load1 (.of rfl) (At.lit (.there .here) rfl)) rfl ?_; refine tr_val (rk_add (.of rfl) (.of rfl) (ini (by omega))) rfl ?_; refine tr_val (rk_buildL (.cons (.of rfl) (.cons (.of rfl) .nil)) norm_) rfl ?_; refine tr_val (rk_buildL (.cons (.of rfl) (.cons (.of rfl) .nil)) norm_) rfl ?_; refine tr_new (rk_alloc rfl) rfl (fun _ _ => ?_); refine tr_store (.of rfl) (.of rfl) .here rfl rfl (okc_cons rfl (okc_cons rfl (okc_cons rfl (okc_cons rfl (okc_cons rfl (okc_cons rfl (okc_cons rfl (okc_cons rfl okc_nil)))))))) (lenb rfl) norm_ ?_; refine n_t ?_; refine tr_seq ?_; refine s_r ?_; refine m_v rfl rfl ?_; refine m_v rfl rfl ?_; refine tr_val (rk_loadB (.of rfl) .here norm_ (by rfl)) rfl ?_)
    with_reducible apply tr_yieldB hB hF hyk
    case hx => exact Is.of rfl
    case ha => exact .cons (.of rfl) (.cons (.of rfl) .nil)
    case hd => rfl
    case ht => exact Take.there (.there (.there .here))
    intro q
    cases q with
    | false =>
      simp only [cond_false]
      (refine tr_val (rk_not (.of rfl)) rfl ?_; refine n_t ?_; refine tr_cond_t (.of rfl) ?_; refine r_t ?_; refine tr_blk_ret ?_; refine tr_then_ret ?_; refine tr_then_ret ?_; refine tr_blk_ret ?_)
      first | with_reducible apply tr_retM | with_reducible apply tr_endM
      case he => exact ends0 rfl
      case hR =>
        intro w' hm'
        exact gives_end false trivial (show Takes _ [E, _] _ by exact .cons .here (.cons (.there (.there (.there .here))) .nil)) hm' rfl
    | true =>
      simp only [cond_true]
      have hjn : InI (fr es k + (nth es k).ln - (nth es k).ov) := by unfold InI; omega
      (refine tr_val (rk_not (.of rfl)) rfl ?_; refine n_t ?_; refine tr_cond_f (.of rfl) ?_; refine s_t ?_; refine tr_region ?_; refine f_a rfl rfl norm0_ ?_; refine f_a rfl rfl norm0_ ?_; refine tr_val (rk_load1 (.of rfl) (At.lit (.there .here) rfl)) rfl ?_; refine f_a rfl rfl norm0_ ?_; refine f_a rfl rfl norm0_ ?_; refine tr_val (rk_load1 (.of rfl) (At.lit (.there .here) rfl)) rfl ?_; refine tr_val (rk_sub (.of rfl) (.of rfl) hjn) rfl ?_; refine a_s rfl rfl ?_; refine tr_nil ?_; refine tr_blk_normal ?_; refine tr_then ?_; refine tr_region ?_; refine tr_val (rk_add (.of rfl) (.of rfl) (ini (by omega))) rfl ?_; refine m_v rfl rfl ?_; refine n_t ?_)
      apply tr_next (k + 1) (by omega) (by omega)
      case hs1 => exact .cons rfl (.cons rfl (.cons rfl (.cons rfl (.cons rfl (.cons rfl .nil)))))
      case ht => exact .cons .here (.cons (.there (.there (.there .here))) .nil)
  · obtain rfl : k = es.length := by omega
    (refine s_r ?_; refine tr_val (rk_lss (.of rfl) (.of rfl)) rfl ?_; refine n_t ?_; refine tr_seq ?_; refine c_d rfl (fun _ => by omega) (fun hcd => ?_); refine x_t ?_; refine tr_then_exit ?_; refine tr_blk_exit ?_)
    first | with_reducible apply tr_retM | with_reducible apply tr_endM
    case he => exact ends0 rfl
    case hR =>
      intro w' hm'
      exact gives_end true trivial (show Takes _ [J es.length, _] _ by exact .cons .here (.cons .here .nil)) hm' rfl
end Go.Proofs.A1

/- S6 -/
namespace Go.Proofs.A1
open Go Go.SL

theorem Rd.one {w : World} {v : Value} {sz : Nat} {xs : List (List Value)} (h : Rd w v sz xs) : v.oneCell' = true := by
  obtain ⟨a, cap, b, o, rfl, _⟩ := h; rfl
def plR (es : List En) : Nat → List Value
  | 0 => []
  | k + 1 => plR es k ++ plL es k
theorem one_pl (es : List En) (k : Nat) : ∀ u ∈ plL es k, u.oneCell' = true := by
  unfold plL
  exact okc_cons rfl (okc_cons rfl (okc_cons rfl (okc_cons rfl (okc_cons rfl (okc_cons rfl (okc_cons rfl (okc_cons rfl okc_nil)))))))
theorem spans_c {sv : Value} {es : List En} {w : World} (h1 : Rd w sv 6 (ensL es)) (hok : ∀ k, k < es.length → EnOk (nth es k)) (hfew : es.length ≤ 24) (hg : Glob w) :
    Gives Tryz.prog 101 [.agg #[sv]] w [] (fun _ : Value => True) id (fun v => [row 191 8 v es.length (plR es es.length)]) := by
  have hone := Rd.one h1
  refine gives_of_tr Tryz.func101 rfl rfl ?_
  (refine s_r ?_; refine tr_new (rk_box (.of rfl) rfl) rfl (fun _ _ => ?_); refine a_s rfl rfl ?_; refine n_r ?_; refine tr_new (rk_alloc rfl) rfl (fun _ _ => ?_); refine n_t ?_; refine tr_seq ?_; refine s_r ?_; refine tr_val (rk_loadB (.of rfl) (.there .here) norm_ (by rfl)) rfl ?_)
  rename_i b1 hb1 b3 hb3
  with_reducible apply tr_call
  case hr => exact rk_call (.of rfl) (.cons (.of rfl) .nil) inferInstance normc_
  case hd => rfl
  case ht => exact Takes.nil
  case hc =>
    intro w1 fp hm1 _ hs1
    obtain rfl : fp = [] := hs1
    exact entries_c _ _ hone
  intro x1 _
  dsimp only [List.cons_append, List.nil_append]
  (refine n_t ?_; refine tr_block ?_)
  refine tr_rowNil 191 8 ?_
  refine tr_rangeSeq (ps := [8, 9]) (f := 175) (first := []) (cap := [.pointer (some ⟨x1, 0, none⟩)]) (ι := Nat × Value) (κ := Empty) (rst := [blk b1 (.cells #[sv] 33 (0, 0))]) ?hg
    [blk x1 (.cells #[sv] 33 (0, 0))] (plcs es) ?hit (fun k x => x.1 = k)
    (fun x => [blk b3 (.cells #[x.2] 192 (0, 0)), row 191 8 x.2 x.1 (plR es x.1)])
    (fun _ => False) (fun _ => []) (fun _ => .ret) (0, .slice none 0 0) rfl ?ht ?hlen ?hps ?round ?kn ?kj
  case hg => exact Is.of rfl
  case hit => intro w' hm'; exact iter_c h1 hok hfew hg (fun h => by cases h) (Out.nil _ _)
  case ht =>
    show Takes _ [blk b3 (.cells #[.slice none 0 0] 192 (0, 0)), row 191 8 (.slice none 0 0) 0 [], _] _
    exact .cons (.there (.there .here)) (.cons .here (.cons .here .nil))
  case hlen => intro vs hvs; obtain ⟨x, _, rfl⟩ := List.mem_map.1 hvs; rfl
  case hps => intro t ht; simp only [List.mem_cons, List.not_mem_nil, or_false] at ht; rcases ht with rfl | rfl <;> exact Nat.le_of_ble_eq_true rfl
  case kj => intro y; cases y
  case kn =>
    rintro ⟨n, v⟩ D hq
    dsimp only [List.cons_append, List.nil_append] at hq ⊢
    rw [plcs_length] at hq
    subst hq
    (refine tr_blk_normal ?_; refine tr_then ?_; refine s_r ?_; refine tr_val (rk_load1 (.of rfl) (At.lit .here rfl)) rfl ?_; refine a_s rfl rfl ?_; refine n_t ?_; refine tr_ret ?_)
    first | with_reducible apply tr_retM | with_reducible apply tr_endM
    case he => exact ends1 rfl rfl
    case hR =>
      intro w' hm'
      exact gives_end v trivial (show Takes _ [row 191 8 v es.length (plR es es.length)] _ by exact .cons (.there .here) .nil) hm' rfl
  case round =>
    rintro l rc W fp k ⟨n, v⟩ vs hsz hk hq hB hF
    dsimp only at hq
    subst hq
    have hlt : n < es.length := by have := (List.getElem?_eq_some_iff.1 hk).1; rwa [plcs_length] at this
    rw [plcs_get hlt, Option.some.injEq] at hk
    subst hk
    have hone' := one_pl es n
    unfold plL at hone' ⊢
    dsimp only [List.zip_cons_cons, List.zip_nil_right, putAll, List.cons_append, List.nil_append]
    (refine tr_region ?_; refine tr_new (rk_alloc rfl) rfl (fun _ _ => ?_); refine tr_store (.of rfl) (.of rfl) .here rfl rfl (okc_cons rfl (okc_cons rfl (okc_cons rfl (okc_cons rfl (okc_cons rfl (okc_cons rfl (okc_cons rfl (okc_cons rfl okc_nil)))))))) (lenb rfl) norm_ ?_; refine n_t ?_)
    with_reducible apply tr_begin
    case ht => exact Take.there .here
    (refine tr_block ?_; refine tr_region ?_; refine tr_val (rk_load1 (.of rfl) (At.lit (.there (.there .here)) rfl)) rfl ?_; refine tr_val (rk_loadB (.of rfl) (.there .here) norm_ (by rfl)) rfl ?_; refine tr_new (rk_sliceLitN (.cons (.of rfl) .nil) rfl rfl normp_ normp_ norm_) rfl (fun _ _ => ?_))
    refine tr_appendB (.of rfl) (.of rfl) (.there (.there (.there (.there .here)))) .here norm_ (by rfl) (okc_cons rfl (okc_cons rfl (okc_cons rfl (okc_cons rfl (okc_cons rfl (okc_cons rfl (okc_cons rfl (okc_cons rfl okc_nil)))))))) (by rfl) (by rfl) (by rfl) lenx_ (by rfl) ?_
    intro v'
    refine tr_rowSl (by exact .here) fun a' cap' e => ?_
    subst e
    (refine tr_store (.of rfl) (.of rfl) (.there (.there (.there (.there .here)))) rfl rfl (okc_cons rfl okc_nil) (lenb rfl) norm_ ?_; refine tr_nil ?_; refine tr_blk_normal ?_)
    apply tr_seqN (n + 1, .slice a' (n + 1) cap')
    case ht => exact Take.there (.there (.there .here))
    case hx => rfl
    case h2 =>
      show Takes _ [blk b3 (.cells #[.slice a' (n + 1) cap'] 192 (0, 0)), row 191 8 (.slice a' (n + 1) cap') (n + 1) (plR es n ++ plL es n)] _
      unfold plL
      exact .cons .here (.cons .here .nil)
end Go.Proofs.A1

/- S7 -/
namespace Go.Proofs.A1
open Go Go.SL

def triV (g : Int × Int × Int) : List Value := [.int .i64 g.1, .int .i64 g.2.1, .int .i64 g.2.2]
def gpR (es : List En) (k : Nat) : List Value := (gpL es k).flatMap triV
def endV (es : List En) : Nat → Int
  | 0 => 0
  | k + 1 => to es k
theorem gpL_succ (es : List En) (k : Nat) : gpL es (k + 1) = gpL es k ++ if 0 < k ∧ endV es k < fr es k then [((k : Int) - 1, endV es k, fr es k)] else [] := by
  rw [gpL]
  cases k with
  | zero => rfl
  | succ k => rfl
theorem gpL_le (es : List En) : ∀ k, (gpL es k).length ≤ k
  | 0 => Nat.le_refl _
  | k + 1 => by
    have := gpL_le es k
    rw [gpL_succ, List.length_append]
    split <;> simp <;> omega
theorem gaps_c {sv : Value} {es : List En} {w : World} (h1 : Rd w sv 6 (ensL es)) (hok : ∀ k, k < es.length → EnOk (nth es k)) (hfew : es.length ≤ 24) (hg : Glob w) :
    Gives Tryz.prog 103 [.agg #[sv]] w [] (fun _ : Value => True) id (fun v => [row 120 3 v (gpL es es.length).length (gpR es es.length)]) := by
  have hone := Rd.one h1
  refine gives_of_tr Tryz.func103 rfl rfl ?_
  (refine s_r ?_; refine tr_new (rk_box (.of rfl) rfl) rfl (fun _ _ => ?_); refine a_s rfl rfl ?_; refine n_r ?_; refine tr_new (rk_alloc rfl) rfl (fun _ _ => ?_); refine n_r ?_; refine tr_new (rk_alloc rfl) rfl (fun _ _ => ?_); refine tr_store (.of rfl) (.of rfl) .here rfl rfl (okc_cons rfl okc_nil) (lenb rfl) norm_ ?_; refine n_t ?_; refine tr_seq ?_; refine s_r ?_; refine tr_val (rk_loadB (.of rfl) (.there (.there .here)) norm_ (by rfl)) rfl ?_)
  rename_i b1 hb1 b3 hb3 b4 hb4
  with_reducible apply tr_call
  case hr => exact rk_call (.of rfl) (.cons (.of rfl) .nil) inferInstance normc_
  case hd => rfl
  case ht => exact Takes.nil
  case hc =>
    intro w1 fp hm1 _ hs1
    obtain rfl : fp = [] := hs1
    exact entries_c _ _ hone
  intro x1 _
  dsimp only [List.cons_append, List.nil_append]
  (refine n_t ?_; refine tr_block ?_)
  refine tr_rowNil 120 3 ?_
  refine tr_rangeSeq (ps := [9, 10]) (f := 175) (first := []) (cap := [.pointer (some ⟨x1, 0, none⟩)]) (ι := Nat × Value) (κ := Empty) (rst := [blk b1 (.cells #[sv] 33 (0, 0))]) ?hg
    [blk x1 (.cells #[sv] 33 (0, 0))] (plcs es) ?hit (fun k x => x.1 = k)
    (fun x => [blk b3 (.cells #[x.2] 35 (0, 0)), blk b4 (.cells #[.int .i64 (endV es x.1)] 3 (0, 0)), row 120 3 x.2 (gpL es x.1).length (gpR es x.1)])
    (fun _ => False) (fun _ => []) (fun _ => .ret) (0, .slice none 0 0) rfl ?ht ?hlen ?hps ?round ?kn ?kj
  case hg => exact Is.of rfl
  case hit => intro w' hm'; exact iter_c h1 hok hfew hg (fun h => by cases h) (Out.nil _ _)
  case ht =>
    show Takes _ [blk b3 (.cells #[.slice none 0 0] 35 (0, 0)), blk b4 (.cells #[.int .i64 0] 3 (0, 0)), row 120 3 (.slice none 0 0) 0 [], _] _
    exact .cons (.there (.there (.there .here))) (.cons (.there (.there .here)) (.cons .here (.cons .here .nil)))
  case hlen => intro vs hvs; obtain ⟨x, _, rfl⟩ := List.mem_map.1 hvs; rfl
  case hps => intro t ht; simp only [List.mem_cons, List.not_mem_nil, or_false] at ht; rcases ht with rfl | rfl <;> exact Nat.le_of_ble_eq_true rfl
  case kj => intro y; cases y
  case kn =>
    rintro ⟨n, v⟩ D hq
    dsimp only [List.cons_append, List.nil_append] at hq ⊢
    rw [plcs_length] at hq
    subst hq
    (refine tr_blk_normal ?_; refine tr_then ?_; refine s_r ?_; refine tr_val (rk_load1 (.of rfl) (At.lit .here rfl)) rfl ?_; refine a_s rfl rfl ?_; refine n_t ?_; refine tr_ret ?_)
    first | with_reducible apply tr_retM | with_reducible apply tr_endM
    case he => exact ends1 rfl rfl
    case hR =>
      intro w' hm'
      exact gives_end v trivial (show Takes _ [row 120 3 v (gpL es es.length).length (gpR es es.length)] _ by exact .cons (.there (.there .here)) .nil) hm' rfl
  case round =>
    rintro l rc W fp k ⟨n, v⟩ vs hsz hk hq hB hF
    dsimp only at hq
    subst hq
    have hlt : n < es.length := by have := (List.getElem?_eq_some_iff.1 hk).1; rwa [plcs_length] at this
    rw [plcs_get hlt, Option.some.injEq] at hk
    subst hk
    have hle := gpL_le es n
    have hsucc := gpL_succ es n
    unfold plL
    dsimp only [List.zip_cons_cons, List.zip_nil_right, putAll, List.cons_append, List.nil_append]
    (refine s_r ?_; refine a_s rfl rfl ?_; refine n_t ?_; refine tr_region ?_; refine tr_new (rk_alloc rfl) rfl (fun _ _ => ?_); refine tr_store (.of rfl) (.of rfl) .here rfl rfl (okc_cons rfl (okc_cons rfl (okc_cons rfl (okc_cons rfl (okc_cons rfl (okc_cons rfl (okc_cons rfl (okc_cons rfl okc_nil)))))))) (lenb rfl) norm_ ?_; refine n_t ?_)
    with_reducible apply tr_begin
    case ht => exact Take.there .here
    (refine tr_block ?_; refine tr_seq ?_; refine s_r ?_; refine m_v rfl rfl ?_; refine tr_val (rk_gtr (.of rfl) (.of rfl)) rfl ?_; refine m_v rfl rfl ?_; refine tr_vG1 rfl rfl inferInstance (fun hg hgp => (rk_fieldAddr (.of rfl) norm0_)) rfl ?_; refine tr_vG1 rfl rfl inferInstance (fun hg hgp => (rk_fieldAddr (.ofg hg rfl) norm0_)) rfl ?_; refine tr_vG1 rfl rfl inferInstance (fun hg hgp => (rk_load1 (.ofg hg rfl) (At.lit (.there .here) rfl))) rfl ?_; refine tr_vG1 rfl rfl inferInstance (fun hg hgp => (rk_load1 (.of rfl) (At.lit (.there (.there (.there .here))) rfl))) rfl ?_; refine tr_vG1 rfl rfl inferInstance (fun hg hgp => (rk_gtr (.ofg hg rfl) (.ofg hg rfl))) rfl ?_; refine tr_val (rk_pick_and (.of rfl) rfl) rfl ?_; refine n_t ?_; refine c_b rfl (fun hcd => ?_) (fun hcd => ?_); refine tr_region ?_; refine tr_val (rk_load1 (.of rfl) (At.lit (.there (.there .here)) rfl)) rfl ?_; refine m_v rfl rfl ?_; refine tr_val (rk_sub (.of rfl) (.of rfl) (ini (by omega))) rfl ?_; refine tr_val (rk_load1 (.of rfl) (At.lit (.there (.there (.there .here))) rfl)) rfl ?_; refine f_a rfl rfl norm0_ ?_; refine f_a rfl rfl norm0_ ?_; refine tr_val (rk_load1 (.of rfl) (At.lit (.there .here) rfl)) rfl ?_; refine tr_val (rk_buildL (.cons (.of rfl) (.cons (.of rfl) .nil)) norm_) rfl ?_; refine tr_val (rk_buildL (.cons (.of rfl) (.cons (.of rfl) .nil)) norm_) rfl ?_; refine tr_new (rk_sliceLitN (.cons (.of rfl) .nil) rfl rfl normp_ normp_ norm_) rfl (fun _ _ => ?_); rotate_left; refine s_t ?_; refine tr_region ?_; refine f_a rfl rfl norm0_ ?_; refine f_a rfl rfl norm0_ ?_; refine tr_val (rk_load1 (.of rfl) (At.lit (.there .here) rfl)) rfl ?_; refine tr_store (.of rfl) (.of rfl) (.there (.there (.there .here))) rfl rfl (okc_cons rfl okc_nil) (lenb rfl) norm_ ?_; refine tr_nil ?_; refine tr_blk_normal ?_; rotate_right)
    · change 0 < (n : Int) ∧ endV es n < fr es n at hcd
      have hc2 : 0 < n ∧ endV es n < fr es n := ⟨by omega, hcd.2⟩
      rw [if_pos hc2] at hsucc
      refine tr_appendB (.of rfl) (.of rfl) (.there (.there (.there (.there (.there .here))))) .here norm_ (by rfl) (okc_cons rfl (okc_cons rfl (okc_cons rfl okc_nil))) (by rfl) (by rfl) (by rfl) lenx_ (by rfl) ?_
      intro v'
      refine tr_rowSl (by exact .here) fun a' cap' e => ?_
      subst e
      (refine tr_store (.of rfl) (.of rfl) (.there (.there (.there (.there .here)))) rfl rfl (okc_cons rfl okc_nil) (lenb rfl) norm_ ?_; refine n_t ?_; refine tr_region ?_; refine f_a rfl rfl norm0_ ?_; refine f_a rfl rfl norm0_ ?_; refine tr_val (rk_load1 (.of rfl) (At.lit (.there (.there (.there (.there .here)))) rfl)) rfl ?_; refine tr_store (.of rfl) (.of rfl) (.there (.there (.there (.there (.there .here))))) rfl rfl (okc_cons rfl okc_nil) (lenb rfl) norm_ ?_; refine tr_nil ?_; refine tr_blk_normal ?_)
      apply tr_seqN (n + 1, .slice a' ((gpL es n).length + 1) cap')
      case ht => exact Take.there (.there (.there (.there .here)))
      case hx => rfl
      case h2 =>
        have e1 : (gpL es (n + 1)).length = (gpL es n).length + 1 := by rw [hsucc]; simp
        have e2 : gpR es (n + 1) = gpR es n ++ [.int .i64 ((n : Int) - 1), .int .i64 (endV es n), .int .i64 (fr es n)] := by rw [gpR, hsucc]; simp [gpR, triV]
        show Takes _ [blk b3 (.cells #[.slice a' ((gpL es n).length + 1) cap'] 35 (0, 0)), blk b4 (.cells #[.int .i64 (to es n)] 3 (0, 0)), row 120 3 (.slice a' ((gpL es n).length + 1) cap') (gpL es (n + 1)).length (gpR es (n + 1))] _
        rw [e1, e2]
        exact .cons (.there .here) (.cons .here (.cons .here .nil))
    · have hc2 : ¬ (0 < n ∧ endV es n < fr es n) := by
        change ¬ 0 < (n : Int) ∨ ¬ endV es n < fr es n at hcd
        omega
      rw [if_neg hc2, List.append_nil] at hsucc
      apply tr_seqN (n + 1, v)
      case ht => exact Take.there .here
      case hx => rfl
      case h2 =>
        have e2 : gpR es (n + 1) = gpR es n := by rw [gpR, hsucc]; rfl
        show Takes _ [blk b3 (.cells #[v] 35 (0, 0)), blk b4 (.cells #[.int .i64 (to es n)] 3 (0, 0)), row 120 3 v (gpL es (n + 1)).length (gpR es (n + 1))] _
        rw [hsucc, e2]
        exact .cons (.there (.there .here)) (.cons .here (.cons (.there .here) .nil))
end Go.Proofs.A1
