/- Parts of the proof: Q1p R7 R8 R9 R10 R11 Q2p R12 R13 R14 S67 Q3p S68 GkPoolQ S69 S70 S71 S72. -/
import Derived.Test.YtfbgbipclgljaaaGreatDoorBM19
import Derived.Test.YtfbgbipclgljaaaGreatDoorBM22
import Derived.Test.YtfbgbipclgljaaaGreatDoorBM06
import Derived.Test.YtfbgbipclgljaaaGreatDoorBM12
set_option linter.unusedSectionVars false
set_option linter.unusedVariables false
set_option linter.unusedSimpArgs false
/- Q1p -/
/- Breaks: the rules of the reference and those of the program are the same. Plain Lean. -/
namespace Go.Proofs.A1
open Go Go.SL

def nbB (b : Br) (o : List Nat) (k : Nat) : Bool := decide (cpO b o (k + 1) = cpO b o k)
def ovB (b : Br) (o : List Nat) (c : Nat) : Bool := decide (b.cm.getD c 0 < cntO b o c o.length)
def pxB (b : Br) (o : List Nat) (p : Int × Int) : Bool := decide (0 < cntO b o p.1 o.length) && decide (0 < cntO b o p.2 o.length)
/-- the reference's error of different spots -/
def ruleQ (b : Br) (o : List Nat) : Int := if (List.range (o.length - 1)).any (nbB b o) then 21 else if (List.range b.cm.length).any (ovB b o) then 21 else if b.ex.any (pxB b o) then 21 else whenF (decide (b.n < tL b.sp o o.length)) 26
theorem cntO_mono (b : Br) (o : List Nat) (c : Int) {k : Nat} : ∀ {m : Nat}, k ≤ m → cntO b o c k ≤ cntO b o c m
  | 0, h => by obtain rfl : k = 0 := by omega
               exact Int.le_refl _
  | m + 1, h => by
    by_cases e : k = m + 1
    · subst e; exact Int.le_refl _
    · have := cntO_mono b o c (k := k) (m := m) (by omega)
      rw [cntO]
      split <;> omega
theorem cntO_last (b : Br) (o : List Nat) (c : Int) : ∀ m, 0 < cntO b o c m → ∃ k, k < m ∧ cpO b o k = c ∧ cntO b o c (k + 1) = cntO b o c m
  | 0, h => by simp [cntO] at h
  | m + 1, h => by
    by_cases e : cpO b o m = c
    · exact ⟨m, by omega, e, rfl⟩
    · have e2 : cntO b o c (m + 1) = cntO b o c m := by rw [cntO, if_neg e, Int.add_zero]
      rw [e2] at h ⊢
      obtain ⟨k, h1, h2, h3⟩ := cntO_last b o c m h
      exact ⟨k, by omega, h2, h3⟩
theorem cpO_in {b : Br} (hb : BrOk b) {o : List Nat} (ho : ∀ i ∈ o, i < b.sp.length) {k : Nat} (hk : k < o.length) : 0 ≤ cpO b o k ∧ cpO b o k < b.cm.length :=
  hb.cp _ (nthS_mem (ho _ (nthN_mem hk)))
theorem ruleQ_eq {b : Br} (hb : BrOk b) {o : List Nat} (ho : ∀ i ∈ o, i < b.sp.length) : ruleQ b o = fitE b o := by
  have h1 : ((List.range (o.length - 1)).any (nbB b o) || (List.range b.cm.length).any (ovB b o)) = (List.range o.length).any (badO b o) := by
    rw [Bool.eq_iff_iff, Bool.or_eq_true, List.any_eq_true, List.any_eq_true, List.any_eq_true]
    constructor
    · rintro (⟨j, hj, h⟩ | ⟨c, hc, h⟩)
      · have hj' := List.mem_range.1 hj
        refine ⟨j + 1, List.mem_range.2 (by omega), ?_⟩
        unfold nbB at h
        unfold badO
        rw [Bool.or_eq_true]
        exact .inl (by rw [lastO]; exact h)
      · have hc' := List.mem_range.1 hc
        unfold ovB at h
        have h := of_decide_eq_true h
        have h0 : 0 ≤ b.cm.getD c 0 := by
          have := hb.cm (b.cm.getD c 0) (by rw [List.getD_eq_getElem?_getD, List.getElem?_eq_getElem hc']; exact List.getElem_mem hc')
          exact this.1
        obtain ⟨k, hk, e1, e2⟩ := cntO_last b o c o.length (by omega)
        refine ⟨k, List.mem_range.2 hk, ?_⟩
        unfold badO
        rw [Bool.or_eq_true]
        refine .inr (decide_eq_true ?_)
        rw [e1, e2]
        unfold cmO
        simpa using h
    · rintro ⟨k, hk, h⟩
      have hk' := List.mem_range.1 hk
      have hin := cpO_in hb ho hk'
      unfold badO at h
      rw [Bool.or_eq_true] at h
      rcases h with h | h
      · have h := of_decide_eq_true h
        cases k with
        | zero => rw [lastO] at h; omega
        | succ j => exact .inl ⟨j, List.mem_range.2 (by omega), decide_eq_true (by rw [lastO] at h; exact h)⟩
      · have h := of_decide_eq_true h
        have hm := cntO_mono b o (cpO b o k) (k := k + 1) (m := o.length) (by omega)
        refine .inr ⟨(cpO b o k).toNat, List.mem_range.2 (by omega), decide_eq_true ?_⟩
        rw [show (((cpO b o k).toNat : Nat) : Int) = cpO b o k by omega]
        unfold cmO at h
        omega
  have h2 : b.ex.any (pxB b o) = exclO b o := by
    rw [Bool.eq_iff_iff]
    unfold exclO exclB pxB
    simp only [List.any_eq_true, List.mem_range, Bool.and_eq_true, Bool.or_eq_true, decide_eq_true_eq, cntO_pos]
    constructor
    · rintro ⟨p, hp, ⟨i, hi, e1⟩, j, hj, e2⟩
      exact ⟨i, hi, j, hj, p, hp, .inl ⟨e1.symm, e2.symm⟩⟩
    · rintro ⟨i, hi, j, hj, p, hp, ⟨e1, e2⟩ | ⟨e1, e2⟩⟩
      · exact ⟨p, hp, ⟨i, hi, e1.symm⟩, j, hj, e2.symm⟩
      · exact ⟨p, hp, ⟨j, hj, e1.symm⟩, i, hi, e2.symm⟩
  unfold ruleQ fitE
  rw [← h1, ← h2]
  cases (List.range (o.length - 1)).any (nbB b o) <;> cases (List.range b.cm.length).any (ovB b o) <;> simp
/-- the reference's error of the indices -/
def orderQ (b : Br) (ol : List Int) : Int := if 8 < ol.length then 5 else errE (ordE b ol) ol.length
theorem orderE_eq {b : Br} (hb : BrOk b) (ol : List Int) : orderE b ol = if orderQ b ol ≠ 0 then orderQ b ol else ruleQ b (cfO ol) := by
  unfold orderE orderQ
  by_cases h : 8 < ol.length
  · rw [if_pos h, if_pos h]; rfl
  · rw [if_neg h, if_neg h]
    by_cases h2 : errE (ordE b ol) ol.length ≠ 0
    · rw [if_pos h2, if_pos h2]
    · rw [if_neg h2, if_neg h2]
      have h3 := errE_ok.1 (Decidable.not_not.1 h2)
      refine (ruleQ_eq hb fun i hi => ?_).symm
      obtain ⟨j, hj, rfl⟩ := List.mem_map.1 hi
      obtain ⟨k, hk, rfl⟩ := List.getElem_of_mem hj
      have := ordE_ok hk (h3 k hk)
      omega
theorem orderQ_ok {b : Br} {ol : List Int} (h : orderQ b ol = 0) : ol.length ≤ 8 ∧ ∀ i ∈ ol, 0 ≤ i ∧ i < b.sp.length := by
  unfold orderQ at h
  split at h
  · cases h
  · refine ⟨by omega, fun i hi => ?_⟩
    obtain ⟨k, hk, rfl⟩ := List.getElem_of_mem hi
    have := ordE_ok hk (errE_ok.1 h k hk)
    omega
end Go.Proofs.A1


/- R7 -/
namespace Go.Proofs.A1
open Go Go.SL

theorem hasQ_c {lv : Value} {l : List Int} (x : Int) {w : World} (h : Rd w lv 1 (ints l)) : GivesV Tryz.prog 136 [lv, .int .i64 x] w (.bool (l.contains x)) := by
  obtain ⟨a, cap, b, o, rfl, hcap, hmax, ha, hc⟩ := h
  rw [ints_length] at *
  unfold maxLen at hmax
  refine givesV_of_tr Tryz.func136 rfl rfl ?_
  (refine s_r ?_; refine a_s rfl rfl ?_; refine n_t ?_; refine tr_seq ?_; refine s_r ?_; refine a_s rfl rfl ?_; refine n_t ?_; refine tr_block ?_)
  refine tr_for (fun k : Nat => k ≤ l.length ∧ ∀ i (hi : i < k) (hl : i < l.length), ¬ l[i] = x) (fun k => [(5, .int .i64 k), (0, .slice a l.length cap), (1, .int .i64 x)]) (fun _ => []) (fun k => l.length - k) ?_ ?_
  · apply tr_start 0 ⟨Nat.zero_le _, fun i h => by omega⟩
    case hs1 => exact .cons rfl (.cons rfl (.cons rfl .nil))
    case ht => (try simp only [List.take_zero, List.map_nil, List.nil_append]); exact .nil
  rintro k ⟨hk, hf⟩
  by_cases hlt : k < l.length
  · have ha' := ha (ints_ne hlt)
    have c0 : w.cell? ⟨b, o + k * 1, none⟩ = some (.int .i64 l[k]) := (hc k _ (ints_nth hlt)).2 0 _ rfl
    (refine tr_seq ?_; refine s_r ?_; refine m_v rfl rfl ?_; refine m_v rfl rfl ?_; refine tr_val (rk_len_slice (.of rfl)) rfl ?_; refine tr_val (rk_lss (.of rfl) (.of rfl)) rfl ?_; refine n_t ?_; refine c_d rfl (fun hcd => ?_) (fun _ => by omega); refine s_t ?_; refine tr_seq ?_; refine tr_block ?_; refine s_r ?_; refine m_v rfl rfl ?_; refine m_v rfl rfl ?_; refine tr_val (rk_indexAddr (.of rfl) (.of rfl) ha' (by omega) hcd norm1_) rfl ?_; refine tr_val (rk_load1 (.of rfl) (At.base c0 rfl)) rfl ?_; refine m_v rfl rfl ?_; refine tr_val (rk_eql (.of rfl) (.of rfl)) rfl ?_; refine n_t ?_; refine c_d rfl (fun hcd => ?_) (fun hcd => ?_); refine s_r ?_; refine a_s rfl rfl ?_; refine n_t ?_; refine tr_ret ?_; refine tr_blk_ret ?_; refine tr_then_ret ?_; refine tr_then_ret ?_; refine tr_blk_ret ?_; refine tr_then_ret ?_; refine tr_retE rfl (ends1 rfl rfl) ?_; rotate_left; refine tr_skip ?_; refine tr_blk_normal ?_; refine tr_then ?_; refine tr_region ?_; refine m_v rfl rfl ?_; refine tr_val (rk_add (.of rfl) (.of rfl) (ini (by omega))) rfl ?_; refine a_s rfl rfl ?_; refine n_t ?_; rotate_right)
    · have : l.contains x = true := by
        rw [List.contains_iff_mem, ← hcd]; exact List.getElem_mem hlt
      rw [this]
    · apply tr_next (k + 1) ⟨by omega, fun i hi hl => by
        by_cases e : i = k
        · subst e; exact hcd
        · exact hf i (by omega) hl⟩ (by omega)
      case hs1 => exact .cons rfl (.cons rfl (.cons rfl .nil))
      case ht => (try simp only [List.take_zero, List.map_nil, List.nil_append]); exact .nil
  obtain rfl : k = l.length := by omega
  have hn : l.contains x = false := by
    rw [Bool.eq_false_iff]
    intro h
    rw [List.contains_iff_mem] at h
    obtain ⟨i, hi, e⟩ := List.getElem_of_mem h
    exact hf i hi hi e
  (refine tr_seq ?_; refine s_r ?_; refine m_v rfl rfl ?_; refine m_v rfl rfl ?_; refine tr_val (rk_len_slice (.of rfl)) rfl ?_; refine tr_val (rk_lss (.of rfl) (.of rfl)) rfl ?_; refine n_t ?_; refine c_d rfl (fun _ => by omega) (fun hcd => ?_); refine x_t ?_; refine tr_then_exit ?_; refine tr_blk_exit ?_; refine tr_then ?_; refine s_r ?_; refine a_s rfl rfl ?_; refine n_t ?_; refine tr_ret ?_; refine tr_retE rfl (ends1 rfl rfl) ?_)
  rw [hn]
theorem orderQ_c {b : Br} {sv cv xv ov : Value} {ol : List Int} {w : World} (h1 : Rd w sv 4 (spsL b.sp)) (hone2 : cv.oneCell' = true) (hone3 : xv.oneCell' = true) (h4 : Rd w ov 1 (ints ol)) :
    GivesV Tryz.prog 55 [.agg #[.int .i64 b.n, sv, cv, xv], ov] w (.int .i64 (orderQ b ol)) := by
  have h4' := h4
  obtain ⟨a, cap, bs, os, rfl, hcap, hmax, ha, hc⟩ := h1
  obtain ⟨a4, cap4, bb4, o4, rfl, hcap4, hmax4, ha4, hc4⟩ := h4'
  rw [spsL_length] at *
  rw [ints_length] at *
  unfold maxLen at hmax hmax4
  refine givesV_of_tr Tryz.func55 rfl rfl ?_
  (refine s_r ?_; refine tr_new (rk_box (.of rfl) rfl) rfl (fun _ _ => ?_); refine a_s rfl rfl ?_; refine n_t ?_; refine tr_seq ?_; refine s_r ?_; refine m_v rfl rfl ?_; refine tr_val (rk_len_slice (.of rfl)) rfl ?_; refine tr_val (rk_gtr (.of rfl) (.of rfl)) rfl ?_; refine n_t ?_; refine c_d rfl (fun hcd => ?_) (fun hcd => ?_); refine s_r ?_; refine a_s rfl rfl ?_; refine n_t ?_; refine r_t ?_; refine tr_retE rfl (ends1 rfl rfl) ?_; rotate_left; refine s_t ?_; refine tr_seq ?_; refine s_r ?_; refine a_s rfl rfl ?_; refine n_t ?_; refine tr_block ?_; rotate_right)
  · rw [orderQ, if_pos (by omega)]
  have hl8 : ol.length ≤ 8 := by omega
  rename_i b0 hb0
  refine tr_for (ι := Nat) (fun k => k ≤ ol.length ∧ ∀ i, i < k → ordE b ol i = 0)
    (fun k => [(5, .int .i64 k), (2, .pointer (some ⟨b0, 0, none⟩)), (1, .slice a4 ol.length cap4)])
    (fun _ => [blk b0 (.cells #[.int .i64 b.n, .slice a b.sp.length cap, cv, xv] 83 (0, 0))]) (fun k => ol.length - k) ?_ ?_
  · apply tr_start (0 : Nat) ⟨Nat.zero_le _, fun i h => by omega⟩
    case hs1 => exact .cons rfl (.cons rfl (.cons rfl .nil))
    case ht => (try simp only [List.take_zero, List.map_nil, List.nil_append]); exact .cons .here .nil
  rintro k ⟨hk, hf⟩
  by_cases hlt : k < ol.length
  · have ha4' := ha4 (ints_ne hlt)
    have c4 : w.cell? ⟨bb4, o4 + k * 1, none⟩ = some (.int .i64 ol[k]) := (hc4 k _ (ints_nth hlt)).2 0 _ rfl
    have hcl : ∀ w', Keeps [] w w' → GivesV Tryz.prog 136 [Go.sliced a4 0 (k : Int).toNat cap4 1, .int .i64 ol[k]] w' (.bool ((ol.take k).contains ol[k])) := fun w' hk' => hasQ_c _ (rd_take_ints (h4.keeps hk') rfl hk)
    have heq := ordE_eq (b := b) hlt
    (refine tr_seq ?_; refine s_r ?_; refine m_v rfl rfl ?_; refine m_v rfl rfl ?_; refine tr_val (rk_len_slice (.of rfl)) rfl ?_; refine tr_val (rk_lss (.of rfl) (.of rfl)) rfl ?_; refine n_t ?_; refine c_d rfl (fun hcd => ?_) (fun _ => by omega); refine s_t ?_; refine tr_seq ?_; refine tr_block ?_; refine tr_seq ?_)
    with_reducible refine tr_draw 25 (by kernel_rfl) ?_
    (refine a_m rfl rfl ?_; refine a_m rfl rfl ?_; refine any_val (rk_indexAddr (.of rfl) (.of rfl) ha4' (by omega) hcd norm1_) rfl ?_; refine any_val (rk_load1 (.of rfl) (At.base c4 rfl)) rfl ?_; refine any_val (rk_lss (.of rfl) (.of rfl)) rfl ?_; refine a_m rfl rfl ?_; refine any_vG1 rfl rfl inferInstance (fun hg hgp => (rk_move (.of rfl))) rfl ?_; refine any_vG1 rfl rfl inferInstance (fun hg hgp => (rk_move (.of rfl))) rfl ?_; refine any_vG1 rfl rfl inferInstance (fun hg hgp => (rk_indexAddr (.ofg hg rfl) (.ofg hg rfl) ha4' (by omega) hcd norm1_)) rfl ?_; refine any_vG1 rfl rfl inferInstance (fun hg hgp => (rk_load1 (.ofg hg rfl) (At.base c4 rfl))) rfl ?_; refine any_vG1 rfl rfl inferInstance (fun hg hgp => (rk_fieldAddr (.of rfl) norm0_)) rfl ?_; refine any_vG1 rfl rfl inferInstance (fun hg hgp => (rk_load1 (.ofg hg rfl) (At.lit .here rfl))) rfl ?_; refine any_vG1 rfl rfl inferInstance (fun hg hgp => (rk_len_slice (.ofg hg rfl))) rfl ?_; refine any_vG1 rfl rfl inferInstance (fun hg hgp => (rk_geq (.ofg hg rfl) (.ofg hg rfl))) rfl ?_; refine any_val (rk_pick_or (.of rfl) rfl) rfl ?_; refine any_call (rk_call (.of rfl) (.cons (.of rfl) (.cons (.of rfl) .nil)) inferInstance normc_) rfl (fun w' hm' => (when_q _ 10 w')) ?_; refine a_m rfl rfl ?_; refine a_m rfl rfl ?_; refine any_val (rk_slice_h (.of rfl) (.of rfl) (by omega) (by omega)) rfl ?_; refine a_m rfl rfl ?_; refine a_m rfl rfl ?_; refine any_val (rk_indexAddr (.of rfl) (.of rfl) ha4' (by omega) hcd norm1_) rfl ?_; refine any_val (rk_load1 (.of rfl) (At.base c4 rfl)) rfl ?_; refine any_call (rk_call (.of rfl) (.cons (.of rfl) (.cons (.of rfl) .nil)) inferInstance normc_) rfl (fun w' hm' => (hcl w' (Mem.keeps hm'))) ?_; refine any_call (rk_call (.of rfl) (.cons (.of rfl) (.cons (.of rfl) .nil)) inferInstance normc_) rfl (fun w' hm' => (when_q _ 9 w')) ?_)
    with_reducible refine any_end ?_
    (refine tr_new (rk_sliceLit (.cons (.of rfl) (.cons (.of rfl) .nil)) rfl rfl rfl rfl) rfl (fun _ _ => ?_); refine tr_callV (rk_call (.of rfl) (.cons (.of rfl) .nil) inferInstance normc_) rfl (fun w' hm' => (first_qB (Mem.rdBlk hm' .here rfl rfl) (IntL.cons (IntL.cons IntL.nil)))) ?_; refine a_s rfl rfl ?_; refine n_r ?_; refine m_v rfl rfl ?_; refine tr_val (rk_neq (.of rfl) (.of rfl)) rfl ?_; refine n_t ?_; refine c_d rfl (fun hcd => ?_) (fun hcd => ?_); refine s_r ?_; refine m_v rfl rfl ?_; refine a_s rfl rfl ?_; refine n_t ?_; refine tr_ret ?_; refine tr_blk_ret ?_; refine tr_then_ret ?_; refine tr_then_ret ?_; refine tr_blk_ret ?_; refine tr_then_ret ?_; refine tr_retE rfl (ends1 rfl rfl) ?_; rotate_left; refine tr_skip ?_; refine tr_blk_normal ?_; refine tr_then ?_; refine tr_region ?_; refine m_v rfl rfl ?_; refine tr_val (rk_add (.of rfl) (.of rfl) (ini (by omega))) rfl ?_; refine a_s rfl rfl ?_; refine n_t ?_; rotate_right)
    · rw [← heq] at hcd ⊢
      have hE := errE_bad hf hlt hcd
      rw [orderQ, if_neg (by omega), hE]
    · rw [← heq] at hcd
      have hz : ordE b ol k = 0 := Decidable.not_not.1 hcd
      apply tr_next (k + 1) ⟨by omega, fun i hi => by
        by_cases e : i = k
        · rw [e]; exact hz
        · exact hf i (by omega)⟩ (by omega)
      case hs1 => exact .cons rfl (.cons rfl (.cons rfl .nil))
      case ht => (try simp only [List.take_zero, List.map_nil, List.nil_append]); exact .cons (.there .here) .nil
  obtain rfl : k = ol.length := by omega
  (refine tr_seq ?_; refine s_r ?_; refine m_v rfl rfl ?_; refine m_v rfl rfl ?_; refine tr_val (rk_len_slice (.of rfl)) rfl ?_; refine tr_val (rk_lss (.of rfl) (.of rfl)) rfl ?_; refine n_t ?_; refine c_d rfl (fun _ => by omega) (fun hcd => ?_); refine x_t ?_; refine tr_then_exit ?_; refine tr_blk_exit ?_; refine tr_then ?_; refine s_r ?_; refine a_s rfl rfl ?_; refine n_t ?_; refine tr_ret ?_; refine tr_retE rfl (ends1 rfl rfl) ?_)
  rw [orderQ, if_neg (by omega), errE_ok.2 hf]
theorem cntQ_c {b : Br} {sv cv xv ov : Value} {o : List Nat} (c : Int) {w : World} (h1 : Rd w sv 4 (spsL b.sp)) (hone2 : cv.oneCell' = true) (hone3 : xv.oneCell' = true) (h4 : Rd w ov 1 (natsL o)) (ho : ∀ i ∈ o, i < b.sp.length) :
    GivesV Tryz.prog 137 [.agg #[.int .i64 b.n, sv, cv, xv], ov, .int .i64 c] w (.int .i64 (cntO b o c o.length)) := by
  obtain ⟨a, cap, bs, os, rfl, hcap, hmax, ha, hc⟩ := h1
  obtain ⟨a2, cap2, b2, of2, rfl, hcap2, hmax2, ha2, hc2⟩ := h4
  rw [spsL_length] at *
  rw [natsL_length] at *
  unfold maxLen at hmax hmax2
  refine givesV_of_tr Tryz.func137 rfl rfl ?_
  (refine s_r ?_; refine tr_new (rk_box (.of rfl) rfl) rfl (fun _ _ => ?_); refine a_s rfl rfl ?_; refine n_r ?_; refine a_s rfl rfl ?_; refine n_t ?_; refine tr_seq ?_; refine s_r ?_; refine a_s rfl rfl ?_; refine n_t ?_; refine tr_block ?_)
  rename_i b3 hb3
  refine tr_for (ι := Nat) (fun k => k ≤ o.length) (fun k => [(8, .int .i64 k), (7, .int .i64 (cntO b o c k)), (1, .slice a2 o.length cap2), (2, .int .i64 c), (3, .pointer (some ⟨b3, 0, none⟩))])
    (fun _ => [blk b3 (.cells #[.int .i64 b.n, .slice a b.sp.length cap, cv, xv] 83 (0, 0))]) (fun k => o.length - k) ?_ ?_
  · apply tr_start (0 : Nat) (show (fun k => k ≤ o.length) 0 from Nat.zero_le _)
    case hs1 => exact .cons rfl (.cons rfl (.cons rfl (.cons rfl (.cons rfl .nil))))
    case ht => exact .cons .here .nil
  intro k hk
  have hin := cntO_in b o c k
  by_cases hlt : k < o.length
  · have ha2' := ha2 (natsL_ne hlt)
    have c0 : w.cell? ⟨b2, of2 + k * 1, none⟩ = some (.int .i64 (nthN o k)) := (hc2 k _ (natsL_get hlt)).2 0 _ rfl
    have hi := ho _ (nthN_mem hlt)
    have ha' := ha (spsL_ne hi)
    have hcell := (hc (nthN o k) _ (spsL_get hi)).2
    have c1 : w.cell? ⟨bs, os + nthN o k * 4 + 1, none⟩ = some (.int .i64 (nthS b.sp (nthN o k)).cp) := hcell 1 _ rfl
    have hs : cntO b o c (k + 1) = cntO b o c k + if cpO b o k = c then 1 else 0 := rfl
    unfold Sp.cells at hcell
    (refine tr_seq ?_; refine s_r ?_; refine m_v rfl rfl ?_; refine m_v rfl rfl ?_; refine tr_val (rk_len_slice (.of rfl)) rfl ?_; refine tr_val (rk_lss (.of rfl) (.of rfl)) rfl ?_; refine n_t ?_; refine c_d rfl (fun hcd => ?_) (fun _ => by omega); refine s_t ?_; refine tr_seq ?_; refine tr_block ?_; refine tr_seq ?_)
    with_reducible refine tr_draw 11 (by kernel_rfl) ?_
    (refine a_f rfl rfl norm0_ ?_; refine any_val (rk_load1 (.of rfl) (At.lit .here rfl)) rfl ?_; refine a_m rfl rfl ?_; refine a_m rfl rfl ?_; refine any_val (rk_indexAddr (.of rfl) (.of rfl) ha2' (by omega) hcd norm1_) rfl ?_; refine any_val (rk_load1 (.of rfl) (At.base c0 rfl)) rfl ?_; refine any_val (rk_indexAddr (.of rfl) (.of rfl) ha' (by omega) (by omega) norm1_) rfl ?_; refine a_f rfl rfl norm0_ ?_; refine any_val (rk_load1 (.of rfl) (At.base c1 rfl)) rfl ?_; refine a_m rfl rfl ?_; refine any_val (rk_eql (.of rfl) (.of rfl)) rfl ?_)
    with_reducible refine any_end ?_
    (refine n_t ?_; refine c_d rfl (fun hcd => ?_) (fun hcd => ?_); refine tr_region ?_; refine m_v rfl rfl ?_; refine tr_val (rk_add (.of rfl) (.of rfl) (ini (by omega))) rfl ?_; refine a_s rfl rfl ?_; refine tr_nil ?_; refine tr_blk_normal ?_; refine tr_then ?_; refine tr_region ?_; refine m_v rfl rfl ?_; refine tr_val (rk_add (.of rfl) (.of rfl) (ini (by omega))) rfl ?_; refine a_s rfl rfl ?_; refine n_t ?_; rotate_left; refine tr_skip ?_; refine tr_blk_normal ?_; refine tr_then ?_; refine tr_region ?_; refine m_v rfl rfl ?_; refine tr_val (rk_add (.of rfl) (.of rfl) (ini (by omega))) rfl ?_; refine a_s rfl rfl ?_; refine n_t ?_; rotate_right)
    · have hcp : cpO b o k = c := hcd
      rw [if_pos hcp] at hs
      apply tr_next (k + 1) (show k + 1 ≤ o.length by omega) (show o.length - (k + 1) < o.length - k by omega)
      case hs1 =>
        rw [hs]
        exact .cons rfl (.cons rfl (.cons rfl (.cons rfl (.cons rfl .nil))))
      case ht => exact .cons .here .nil
    · have hcp : ¬ cpO b o k = c := hcd
      rw [if_neg hcp, Int.add_zero] at hs
      apply tr_next (k + 1) (show k + 1 ≤ o.length by omega) (show o.length - (k + 1) < o.length - k by omega)
      case hs1 =>
        rw [hs]
        exact .cons rfl (.cons rfl (.cons rfl (.cons rfl (.cons rfl .nil))))
      case ht => exact .cons .here .nil
  obtain rfl : k = o.length := by omega
  (refine tr_seq ?_; refine s_r ?_; refine m_v rfl rfl ?_; refine m_v rfl rfl ?_; refine tr_val (rk_len_slice (.of rfl)) rfl ?_; refine tr_val (rk_lss (.of rfl) (.of rfl)) rfl ?_; refine n_t ?_; refine c_d rfl (fun _ => by omega) (fun hcd => ?_); refine x_t ?_; refine tr_then_exit ?_; refine tr_blk_exit ?_; refine tr_then ?_; refine s_r ?_; refine m_v rfl rfl ?_; refine a_s rfl rfl ?_; refine n_t ?_; refine tr_ret ?_; refine tr_retE rfl (ends1 rfl rfl) ?_)
  rfl
theorem measQ_c {n : Int} {sv cm ex ov : Value} {l : List Sp} {o : List Nat} {w : World} (h1 : Rd w sv 4 (spsL l)) (h2 : Rd w ov 1 (natsL o)) (hone : cm.oneCell' = true) (hone' : ex.oneCell' = true) (hb : ∀ x ∈ l, SpOk x) (ho : ∀ i ∈ o, i < l.length) (hfew : o.length ≤ 1000) :
    GivesV Tryz.prog 66 [.agg #[.int .i64 n, sv, cm, ex], ov] w (.agg #[.int .i64 (tV l o o.length), .int .i64 (tL l o o.length)]) := by
  obtain ⟨a, cap, b, of, rfl, hcap, hmax, ha, hc⟩ := h1
  obtain ⟨a2, cap2, b2, of2, rfl, hcap2, hmax2, ha2, hc2⟩ := h2
  rw [spsL_length] at *
  rw [natsL_length] at *
  unfold maxLen at hmax hmax2
  refine givesV_of_tr Tryz.func66 rfl rfl ?_
  (refine s_r ?_; refine tr_new (rk_box (.of rfl) rfl) rfl (fun _ _ => ?_); refine tr_new (rk_alloc rfl) rfl (fun _ _ => ?_); refine n_r ?_; refine tr_new (rk_alloc rfl) rfl (fun _ _ => ?_); refine n_t ?_; refine tr_seq ?_; refine s_r ?_; refine a_s rfl rfl ?_; refine n_t ?_; refine tr_block ?_)
  rename_i bb hbb br hbr bo hbo
  refine tr_for (ι := Nat) (fun x => x ≤ o.length) (fun x => [(6, .int .i64 x), (1, .slice a2 o.length cap2), (2, .pointer (some ⟨bb, 0, none⟩)), (5, .pointer (some ⟨bo, 0, none⟩)), (4, .pointer (some ⟨br, 0, none⟩))])
    (fun x => [blk bo (.cells #[.int .i64 (tV l o x), .int .i64 (tL l o x)] 121 (0, 0)), blk br (.cells #[.int .i64 0, .int .i64 0] 121 (0, 0)), blk bb (.cells #[.int .i64 n, .slice a l.length cap, cm, ex] 83 (0, 0))]) (fun x => o.length - x) ?_ ?_
  · apply tr_start (0 : Nat) (show (fun x => x ≤ o.length) 0 from Nat.zero_le _)
    case hs1 => exact .cons rfl (.cons rfl (.cons rfl (.cons rfl (.cons rfl .nil))))
    case ht =>
      show Takes _ [blk bo (.cells #[.int .i64 0, .int .i64 0] 121 (0, 0)), blk br (.cells #[.int .i64 0, .int .i64 0] 121 (0, 0)), blk bb (.cells #[.int .i64 n, .slice a l.length cap, cm, ex] 83 (0, 0))] _
      exact .cons .here (.cons .here (.cons .here .nil))
  rintro k hk
  by_cases hlt : k < o.length
  · have ha2' := ha2 (natsL_ne hlt)
    have hcell2 := (hc2 k _ (natsL_get hlt)).2
    have c0 : w.cell? ⟨b2, of2 + k * 1, none⟩ = some (.int .i64 (nthN o k)) := hcell2 0 _ rfl
    have hi := ho _ (nthN_mem hlt)
    have ha' := ha (spsL_ne hi)
    have hcell := (hc (nthN o k) _ (spsL_get hi)).2
    have hv := (hb _ (nthS_mem hi)).vl
    have hl := (hb _ (nthS_mem hi)).ln
    have htv := tV_le hb ho k hk
    have htl := tL_le hb ho k hk
    unfold Sp.cells at hcell
    have c3 : w.cell? ⟨b, of + nthN o k * 4 + 3, none⟩ = some (.int .i64 (nthS l (nthN o k)).vl) := hcell 3 _ rfl
    have c2 : w.cell? ⟨b, of + nthN o k * 4 + 2, none⟩ = some (.int .i64 (nthS l (nthN o k)).ln) := hcell 2 _ rfl
    have hsv : tV l o (k + 1) = tV l o k + (nthS l (nthN o k)).vl := rfl
    have hsl : tL l o (k + 1) = tL l o k + (nthS l (nthN o k)).ln := rfl
    (refine tr_seq ?_; refine s_r ?_; refine m_v rfl rfl ?_; refine m_v rfl rfl ?_; refine tr_val (rk_len_slice (.of rfl)) rfl ?_; refine tr_val (rk_lss (.of rfl) (.of rfl)) rfl ?_; refine n_t ?_; refine c_d rfl (fun hcd => ?_) (fun _ => by omega); refine s_t ?_; refine tr_seq ?_; refine tr_block ?_; refine tr_seq ?_)
    with_reducible refine tr_draw 13 (by kernel_rfl) ?_
    (refine any_val (rk_indexAddrA (.of rfl) (.of rfl) (by omega) (by omega) norm1_) rfl ?_; refine any_val (rk_load1 (.of rfl) (At.lit .here rfl)) rfl ?_; refine a_f rfl rfl norm0_ ?_; refine any_val (rk_load1 (.of rfl) (At.lit (.there (.there .here)) rfl)) rfl ?_; refine a_m rfl rfl ?_; refine a_m rfl rfl ?_; refine any_val (rk_indexAddr (.of rfl) (.of rfl) ha2' (by omega) hcd norm1_) rfl ?_; refine any_val (rk_load1 (.of rfl) (At.base c0 rfl)) rfl ?_; refine any_val (rk_indexAddr (.of rfl) (.of rfl) ha' (by omega) (by omega) norm1_) rfl ?_; refine a_f rfl rfl norm0_ ?_; refine any_val (rk_load1 (.of rfl) (At.base c3 rfl)) rfl ?_; refine any_val (rk_add (.of rfl) (.of rfl) (ini (by omega))) rfl ?_; refine any_val (rk_indexAddrA (.of rfl) (.of rfl) (by omega) (by omega) norm1_) rfl ?_)
    with_reducible refine any_end ?_
    (refine tr_store (.of rfl) (.of rfl) .here rfl rfl (okc_cons rfl okc_nil) (lenb rfl) norm_ ?_; refine n_t ?_)
    with_reducible refine tr_draw 13 (by kernel_rfl) ?_
    (refine any_val (rk_indexAddrA (.of rfl) (.of rfl) (by omega) (by omega) norm1_) rfl ?_; refine any_val (rk_load1 (.of rfl) (At.lit .here rfl)) rfl ?_; refine a_f rfl rfl norm0_ ?_; refine any_val (rk_load1 (.of rfl) (At.lit (.there (.there .here)) rfl)) rfl ?_; refine a_m rfl rfl ?_; refine a_m rfl rfl ?_; refine any_val (rk_indexAddr (.of rfl) (.of rfl) ha2' (by omega) hcd norm1_) rfl ?_; refine any_val (rk_load1 (.of rfl) (At.base c0 rfl)) rfl ?_; refine any_val (rk_indexAddr (.of rfl) (.of rfl) ha' (by omega) (by omega) norm1_) rfl ?_; refine a_f rfl rfl norm0_ ?_; refine any_val (rk_load1 (.of rfl) (At.base c2 rfl)) rfl ?_; refine any_val (rk_add (.of rfl) (.of rfl) (ini (by omega))) rfl ?_; refine any_val (rk_indexAddrA (.of rfl) (.of rfl) (by omega) (by omega) norm1_) rfl ?_)
    with_reducible refine any_end ?_
    (refine tr_store (.of rfl) (.of rfl) .here rfl rfl (okc_cons rfl okc_nil) (lenb rfl) norm_ ?_; refine tr_nil ?_; refine tr_blk_normal ?_; refine tr_then ?_; refine tr_region ?_; refine m_v rfl rfl ?_; refine tr_val (rk_add (.of rfl) (.of rfl) (ini (by omega))) rfl ?_; refine a_s rfl rfl ?_; refine n_t ?_)
    apply tr_next (k + 1) (show k + 1 ≤ o.length by omega) (show o.length - (k + 1) < o.length - k by omega)
    case hs1 => exact .cons rfl (.cons rfl (.cons rfl (.cons rfl (.cons rfl .nil))))
    case ht =>
      show Takes _ [blk bo (.cells #[.int .i64 (tV l o k + (nthS l (nthN o k)).vl), .int .i64 (tL l o k + (nthS l (nthN o k)).ln)] 121 (0, 0)), blk br (.cells #[.int .i64 0, .int .i64 0] 121 (0, 0)), blk bb (.cells #[.int .i64 n, .slice a l.length cap, cm, ex] 83 (0, 0))] _
      exact .cons .here (.cons .here (.cons .here .nil))
  · obtain rfl : k = o.length := by omega
    (refine tr_seq ?_; refine s_r ?_; refine m_v rfl rfl ?_; refine m_v rfl rfl ?_; refine tr_val (rk_len_slice (.of rfl)) rfl ?_; refine tr_val (rk_lss (.of rfl) (.of rfl)) rfl ?_; refine n_t ?_; refine c_d rfl (fun _ => by omega) (fun hcd => ?_); refine x_t ?_; refine tr_then_exit ?_; refine tr_blk_exit ?_; refine tr_then ?_; refine s_r ?_; refine tr_val (rk_loadB (.of rfl) .here norm_ (by rfl)) rfl ?_; refine tr_store (.of rfl) (.of rfl) (.there .here) rfl rfl (okc_cons rfl (okc_cons rfl okc_nil)) (lenb rfl) norm_ ?_; refine n_t ?_; refine tr_ret ?_; refine tr_retE rfl (ends1cB rfl inferInstance rfl .here norm_ (by rfl)) ?_)
    rfl
end Go.Proofs.A1


/- R8 -/
namespace Go.Proofs.A1
open Go Go.SL

theorem any_false {α : Type} {l : List α} {p : α → Bool} (h : ∀ x ∈ l, p x = false) : l.any p = false := by
  rw [List.any_eq_false]
  intro x hx
  rw [h x hx]; decide
theorem any_hit {α : Type} {l : List α} {p : α → Bool} {x : α} (hx : x ∈ l) (h : p x = true) : l.any p = true := List.any_eq_true.2 ⟨x, hx, h⟩
set_option maxHeartbeats 1000000 in
theorem ruleQ_c {b : Br} {sv cv xv ov : Value} {o : List Nat} {w : World} (h1 : Rd w sv 4 (spsL b.sp)) (h2 : Rd w cv 1 (ints b.cm)) (h3 : Rd w xv 2 (prsL b.ex)) (h4 : Rd w ov 1 (natsL o)) (hok : BrOk b) (ho : ∀ i ∈ o, i < b.sp.length) (hfew : o.length ≤ 1000) :
    GivesV Tryz.prog 56 [.agg #[.int .i64 b.n, sv, cv, xv], ov] w (.int .i64 (ruleQ b o)) := by
  have hone2 := Rd.one h2
  have hone3 := Rd.one h3
  have hcnt : ∀ (c : Int) w', Keeps [] w w' → GivesV Tryz.prog 137 [.agg #[.int .i64 b.n, sv, cv, xv], ov, .int .i64 c] w' (.int .i64 (cntO b o c o.length)) := fun c w' hk => cntQ_c c (h1.keeps hk) hone2 hone3 (h4.keeps hk) ho
  have hms : ∀ w', Keeps [] w w' → GivesV Tryz.prog 66 [.agg #[.int .i64 b.n, sv, cv, xv], ov] w' (.agg #[.int .i64 (tV b.sp o o.length), .int .i64 (tL b.sp o o.length)]) := fun w' hk => measQ_c (h1.keeps hk) (h4.keeps hk) hone2 hone3 hok.spOk ho hfew
  obtain ⟨a, cap, bs, os, rfl, hcap, hmax, ha, hc⟩ := h1
  obtain ⟨a2, cap2, bb2, o2, rfl, hcap2, hmax2, ha2, hc2⟩ := h2
  obtain ⟨a3, cap3, bb3, o3, rfl, hcap3, hmax3, ha3, hc3⟩ := h3
  obtain ⟨a4, cap4, b4, of4, rfl, hcap4, hmax4, ha4, hc4⟩ := h4
  rw [spsL_length] at *
  rw [ints_length] at *
  rw [prsL_length] at *
  rw [natsL_length] at *
  unfold maxLen at hmax hmax2 hmax3 hmax4
  refine givesV_of_tr Tryz.func56 rfl rfl ?_
  (refine s_r ?_; refine tr_new (rk_box (.of rfl) rfl) rfl (fun _ _ => ?_); refine a_s rfl rfl ?_; refine n_t ?_; refine tr_seq ?_; refine s_r ?_; refine a_s rfl rfl ?_; refine n_t ?_; refine tr_block ?_)
  rename_i b0 hb0
  refine tr_for (ι := Nat) (fun k => 1 ≤ k ∧ k ≤ max 1 o.length ∧ ∀ j, j + 1 < k → nbB b o j = false) (fun k => [(5, .int .i64 k), (1, .slice a4 o.length cap4), (2, .pointer (some ⟨b0, 0, none⟩))])
    (fun _ => [blk b0 (.cells #[.int .i64 b.n, .slice a b.sp.length cap, .slice a2 b.cm.length cap2, .slice a3 b.ex.length cap3] 83 (0, 0))]) (fun k => o.length - k) ?_ ?_
  · apply tr_start (1 : Nat) ⟨Nat.le_refl _, by show 1 ≤ max 1 o.length; omega, fun i h => by omega⟩
    case hs1 => exact .cons rfl (.cons rfl (.cons rfl .nil))
    case ht => (try simp only [List.take_zero, List.map_nil, List.nil_append]); exact .cons .here .nil
  rintro k ⟨hk1, hk, hf⟩
  by_cases hlt : k < o.length
  · have ha4' := ha4 (natsL_ne hlt)
    have c0 : w.cell? ⟨b4, of4 + k * 1, none⟩ = some (.int .i64 (nthN o k)) := (hc4 k _ (natsL_get hlt)).2 0 _ rfl
    have hi := ho _ (nthN_mem hlt)
    have ha' := ha (spsL_ne hi)
    have c1 : w.cell? ⟨bs, os + nthN o k * 4 + 1, none⟩ = some (.int .i64 (nthS b.sp (nthN o k)).cp) := (hc (nthN o k) _ (spsL_get hi)).2 1 _ rfl
    obtain ⟨j, rfl⟩ : ∃ j, k = j + 1 := ⟨k - 1, by omega⟩
    have hltj : j < o.length := by omega
    have hij := ho _ (nthN_mem hltj)
    have d1 : w.cell? ⟨bs, os + nthN o j * 4 + 1, none⟩ = some (.int .i64 (nthS b.sp (nthN o j)).cp) := (hc (nthN o j) _ (spsL_get hij)).2 1 _ rfl
    have ej : ((j + 1 : Nat) : Int) - 1 = (j : Int) := by omega
    have d0 : w.cell? ⟨b4, of4 + (((j + 1 : Nat) : Int) - 1).toNat * 1, none⟩ = some (.int .i64 (nthN o j)) := by
      rw [ej, Int.toNat_natCast]
      exact (hc4 j _ (natsL_get hltj)).2 0 _ rfl
    (refine tr_seq ?_; refine s_r ?_; refine m_v rfl rfl ?_; refine m_v rfl rfl ?_; refine tr_val (rk_len_slice (.of rfl)) rfl ?_; refine tr_val (rk_lss (.of rfl) (.of rfl)) rfl ?_; refine n_t ?_; refine c_d rfl (fun hcd => ?_) (fun _ => by omega); refine s_t ?_; refine tr_seq ?_; refine tr_block ?_; refine tr_seq ?_)
    with_reducible refine tr_draw 20 (by kernel_rfl) ?_
    (refine a_f rfl rfl norm0_ ?_; refine any_val (rk_load1 (.of rfl) (At.lit .here rfl)) rfl ?_; refine a_m rfl rfl ?_; refine a_m rfl rfl ?_; refine any_val (rk_indexAddr (.of rfl) (.of rfl) ha4' (by omega) hcd norm1_) rfl ?_; refine any_val (rk_load1 (.of rfl) (At.base c0 rfl)) rfl ?_; refine any_val (rk_indexAddr (.of rfl) (.of rfl) ha' (by omega) (by omega) norm1_) rfl ?_; refine a_f rfl rfl norm0_ ?_; refine any_val (rk_load1 (.of rfl) (At.base c1 rfl)) rfl ?_; refine a_f rfl rfl norm0_ ?_; refine any_val (rk_load1 (.of rfl) (At.lit .here rfl)) rfl ?_; refine a_m rfl rfl ?_; refine a_m rfl rfl ?_; refine any_val (rk_sub (.of rfl) (.of rfl) (ini (by omega))) rfl ?_; refine any_val (rk_indexAddr (.of rfl) (.of rfl) ha4' (by omega) (by omega) norm1_) rfl ?_; refine any_val (rk_load1 (.of rfl) (At.base d0 rfl)) rfl ?_; refine any_val (rk_indexAddr (.of rfl) (.of rfl) ha' (by omega) (by omega) norm1_) rfl ?_; refine a_f rfl rfl norm0_ ?_; refine any_val (rk_load1 (.of rfl) (At.base d1 rfl)) rfl ?_; refine any_val (rk_eql (.of rfl) (.of rfl)) rfl ?_)
    with_reducible refine any_end ?_
    (refine n_t ?_; refine c_d rfl (fun hcd => ?_) (fun hcd => ?_); refine s_r ?_; refine a_s rfl rfl ?_; refine n_t ?_; refine tr_ret ?_; refine tr_blk_ret ?_; refine tr_then_ret ?_; refine tr_then_ret ?_; refine tr_blk_ret ?_; refine tr_then_ret ?_; refine tr_retE rfl (ends1 rfl rfl) ?_; rotate_left; refine tr_skip ?_; refine tr_blk_normal ?_; refine tr_then ?_; refine tr_region ?_; refine m_v rfl rfl ?_; refine tr_val (rk_add (.of rfl) (.of rfl) (ini (by omega))) rfl ?_; refine a_s rfl rfl ?_; refine n_t ?_; rotate_right)
    · have hn : nbB b o j = true := decide_eq_true hcd
      rw [ruleQ, if_pos (any_hit (List.mem_range.2 (by omega)) hn)]
    · have hn : nbB b o j = false := decide_eq_false hcd
      apply tr_next (j + 1 + 1) ⟨by omega, by omega, fun i hi => by
        by_cases e : i = j
        · rw [e]; exact hn
        · exact hf i (by omega)⟩ (by omega)
      case hs1 => exact .cons rfl (.cons rfl (.cons rfl .nil))
      case ht => (try simp only [List.take_zero, List.map_nil, List.nil_append]); exact .cons .here .nil
  have hnb : (List.range (o.length - 1)).any (nbB b o) = false := any_false fun x hx => hf x (by have := List.mem_range.1 hx; omega)
  have hE1 : ruleQ b o = if (List.range b.cm.length).any (ovB b o) then 21 else if b.ex.any (pxB b o) then 21 else whenF (decide (b.n < tL b.sp o o.length)) 26 := by
    rw [ruleQ, hnb]; rfl
  rw [hE1]
  (refine tr_seq ?_; refine s_r ?_; refine m_v rfl rfl ?_; refine m_v rfl rfl ?_; refine tr_val (rk_len_slice (.of rfl)) rfl ?_; refine tr_val (rk_lss (.of rfl) (.of rfl)) rfl ?_; refine n_t ?_; refine c_d rfl (fun _ => by omega) (fun hcd => ?_); refine x_t ?_; refine tr_then_exit ?_; refine tr_blk_exit ?_; refine tr_then ?_; refine tr_seq ?_; refine s_r ?_; refine a_s rfl rfl ?_; refine n_t ?_; refine tr_block ?_)
  refine tr_for (ι := Nat) (fun k => k ≤ b.cm.length ∧ ∀ c, c < k → ovB b o c = false) (fun k => [(6, .int .i64 k), (1, .slice a4 o.length cap4), (2, .pointer (some ⟨b0, 0, none⟩))])
    (fun _ => [blk b0 (.cells #[.int .i64 b.n, .slice a b.sp.length cap, .slice a2 b.cm.length cap2, .slice a3 b.ex.length cap3] 83 (0, 0))]) (fun k => b.cm.length - k) ?_ ?_
  · apply tr_start (0 : Nat) ⟨Nat.zero_le _, fun i h => by omega⟩
    case hs1 => exact .cons rfl (.cons rfl (.cons rfl .nil))
    case ht => (try simp only [List.take_zero, List.map_nil, List.nil_append]); exact .cons .here .nil
  rintro c ⟨hk2, hf2⟩
  by_cases hlt2 : c < b.cm.length
  · have ha2' := ha2 (ints_ne hlt2)
    have c0 : w.cell? ⟨bb2, o2 + c * 1, none⟩ = some (.int .i64 b.cm[c]) := (hc2 c _ (ints_nth hlt2)).2 0 _ rfl
    have hov : ovB b o c = decide (b.cm[c] < cntO b o c o.length) := by
      unfold ovB
      rw [List.getD_eq_getElem?_getD, List.getElem?_eq_getElem hlt2]; rfl
    (refine tr_seq ?_; refine s_r ?_; refine m_v rfl rfl ?_; refine f_a rfl rfl norm0_ ?_; refine tr_val (rk_load1 (.of rfl) (At.lit .here rfl)) rfl ?_; refine tr_val (rk_len_slice (.of rfl)) rfl ?_; refine tr_val (rk_lss (.of rfl) (.of rfl)) rfl ?_; refine n_t ?_; refine c_d rfl (fun hcd => ?_) (fun _ => by omega); refine s_t ?_; refine tr_seq ?_; refine tr_block ?_; refine tr_seq ?_)
    with_reducible refine tr_draw 10 (by kernel_rfl) ?_
    (refine any_val (rk_loadB (.of rfl) .here norm_ (by rfl)) rfl ?_; refine a_m rfl rfl ?_; refine a_m rfl rfl ?_; refine any_call (rk_call (.of rfl) (.cons (.of rfl) (.cons (.of rfl) (.cons (.of rfl) .nil))) inferInstance normc_) rfl (fun w' hm' => (hcnt _ w' (Mem.keeps hm'))) ?_; refine a_f rfl rfl norm0_ ?_; refine any_val (rk_load1 (.of rfl) (At.lit .here rfl)) rfl ?_; refine a_m rfl rfl ?_; refine any_val (rk_indexAddr (.of rfl) (.of rfl) ha2' (by omega) hcd norm1_) rfl ?_; refine any_val (rk_load1 (.of rfl) (At.base c0 rfl)) rfl ?_; refine any_val (rk_gtr (.of rfl) (.of rfl)) rfl ?_)
    with_reducible refine any_end ?_
    (refine n_t ?_; refine c_d rfl (fun hcd => ?_) (fun hcd => ?_); refine s_r ?_; refine a_s rfl rfl ?_; refine n_t ?_; refine tr_ret ?_; refine tr_blk_ret ?_; refine tr_then_ret ?_; refine tr_then_ret ?_; refine tr_blk_ret ?_; refine tr_then_ret ?_; refine tr_retE rfl (ends1 rfl rfl) ?_; rotate_left; refine tr_skip ?_; refine tr_blk_normal ?_; refine tr_then ?_; refine tr_region ?_; refine m_v rfl rfl ?_; refine tr_val (rk_add (.of rfl) (.of rfl) (ini (by omega))) rfl ?_; refine a_s rfl rfl ?_; refine n_t ?_; rotate_right)
    · have hn : ovB b o c = true := by rw [hov]; exact decide_eq_true hcd
      rw [if_pos (any_hit (List.mem_range.2 hlt2) hn)]
    · have hn : ovB b o c = false := by rw [hov]; exact decide_eq_false hcd
      apply tr_next (c + 1) ⟨by omega, fun i hi => by
        by_cases e : i = c
        · rw [e]; exact hn
        · exact hf2 i (by omega)⟩ (by omega)
      case hs1 => exact .cons rfl (.cons rfl (.cons rfl .nil))
      case ht => (try simp only [List.take_zero, List.map_nil, List.nil_append]); exact .cons .here .nil
  obtain rfl : c = b.cm.length := by omega
  have hov : (List.range b.cm.length).any (ovB b o) = false := any_false fun x hx => hf2 x (List.mem_range.1 hx)
  rw [if_neg (by rw [hov]; decide)]
  (refine tr_seq ?_; refine s_r ?_; refine m_v rfl rfl ?_; refine f_a rfl rfl norm0_ ?_; refine tr_val (rk_load1 (.of rfl) (At.lit .here rfl)) rfl ?_; refine tr_val (rk_len_slice (.of rfl)) rfl ?_; refine tr_val (rk_lss (.of rfl) (.of rfl)) rfl ?_; refine n_t ?_; refine c_d rfl (fun _ => by omega) (fun hcd => ?_); refine x_t ?_; refine tr_then_exit ?_; refine tr_blk_exit ?_; refine tr_then ?_; refine tr_seq ?_; refine s_r ?_; refine a_s rfl rfl ?_; refine n_t ?_; refine tr_block ?_)
  refine tr_for (ι := Nat) (fun k => k ≤ b.ex.length ∧ ∀ i (hi : i < k) (hl : i < b.ex.length), pxB b o b.ex[i] = false) (fun k => [(7, .int .i64 k), (1, .slice a4 o.length cap4), (2, .pointer (some ⟨b0, 0, none⟩))])
    (fun _ => [blk b0 (.cells #[.int .i64 b.n, .slice a b.sp.length cap, .slice a2 b.cm.length cap2, .slice a3 b.ex.length cap3] 83 (0, 0))]) (fun k => b.ex.length - k) ?_ ?_
  · apply tr_start (0 : Nat) ⟨Nat.zero_le _, fun i h => by omega⟩
    case hs1 => exact .cons rfl (.cons rfl (.cons rfl .nil))
    case ht => (try simp only [List.take_zero, List.map_nil, List.nil_append]); exact .cons .here .nil
  rintro e ⟨hk3, hf3⟩
  by_cases hlt3 : e < b.ex.length
  · have ha3' := ha3 (prsL_ne hlt3)
    have hcell := (hc3 e _ (prsL_get hlt3)).2
    have c0 : w.cell? ⟨bb3, o3 + e * 2, none⟩ = some (.int .i64 b.ex[e].1) := hcell 0 _ rfl
    have c1 : w.cell? ⟨bb3, o3 + e * 2 + 1, none⟩ = some (.int .i64 b.ex[e].2) := hcell 1 _ rfl
    (refine tr_seq ?_; refine s_r ?_; refine m_v rfl rfl ?_; refine f_a rfl rfl norm0_ ?_; refine tr_val (rk_load1 (.of rfl) (At.lit .here rfl)) rfl ?_; refine tr_val (rk_len_slice (.of rfl)) rfl ?_; refine tr_val (rk_lss (.of rfl) (.of rfl)) rfl ?_; refine n_t ?_; refine c_d rfl (fun hcd => ?_) (fun _ => by omega); refine s_t ?_; refine tr_seq ?_; refine tr_block ?_; refine tr_seq ?_)
    with_reducible refine tr_draw 22 (by kernel_rfl) ?_
    (refine any_val (rk_loadB (.of rfl) .here norm_ (by rfl)) rfl ?_; refine a_m rfl rfl ?_; refine a_f rfl rfl norm0_ ?_; refine any_val (rk_load1 (.of rfl) (At.lit .here rfl)) rfl ?_; refine a_m rfl rfl ?_; refine any_val (rk_indexAddr (.of rfl) (.of rfl) ha3' (by omega) hcd norm1_) rfl ?_; refine any_val (rk_indexAddrA (.of rfl) (.of rfl) (by omega) (by omega) norm1_) rfl ?_; refine any_val (rk_load1 (.of rfl) (At.base c0 rfl)) rfl ?_; refine any_call (rk_call (.of rfl) (.cons (.of rfl) (.cons (.of rfl) (.cons (.of rfl) .nil))) inferInstance normc_) rfl (fun w' hm' => (hcnt _ w' (Mem.keeps hm'))) ?_; refine any_val (rk_gtr (.of rfl) (.of rfl)) rfl ?_; refine a_m rfl rfl ?_; refine any_vG1 rfl rfl inferInstance (fun hg hgp => (rk_loadB (.of rfl) .here norm_ (by rfl))) rfl ?_; refine any_vG1 rfl rfl inferInstance (fun hg hgp => (rk_move (.of rfl))) rfl ?_; refine any_vG1 rfl rfl inferInstance (fun hg hgp => (rk_fieldAddr (.of rfl) norm0_)) rfl ?_; refine any_vG1 rfl rfl inferInstance (fun hg hgp => (rk_load1 (.ofg hg rfl) (At.lit .here rfl))) rfl ?_; refine any_vG1 rfl rfl inferInstance (fun hg hgp => (rk_move (.of rfl))) rfl ?_; refine any_vG1 rfl rfl inferInstance (fun hg hgp => (rk_indexAddr (.ofg hg rfl) (.ofg hg rfl) ha3' (by omega) hcd norm1_)) rfl ?_; refine any_vG1 rfl rfl inferInstance (fun hg hgp => (rk_indexAddrA (.ofg hg rfl) (.of rfl) (by omega) (by omega) norm1_)) rfl ?_; refine any_vG1 rfl rfl inferInstance (fun hg hgp => (rk_load1 (.ofg hg rfl) (At.base c1 rfl))) rfl ?_; refine any_callG1 rfl rfl (fun hg => (rk_call (.of rfl) (.cons (.ofg hg rfl) (.cons (.ofg hg rfl) (.cons (.ofg hg rfl) .nil))) inferInstance normc_)) rfl (fun hg w' hm' => (hcnt _ w' (Mem.keeps hm'))) ?_; refine any_vG1 rfl rfl inferInstance (fun hg hgp => (rk_gtr (.ofg hg rfl) (.of rfl))) rfl ?_; refine any_val (rk_pick_and (.of rfl) rfl) rfl ?_)
    with_reducible refine any_end ?_
    (refine n_t ?_; refine c_b rfl (fun hcd => ?_) (fun hcd => ?_); refine s_r ?_; refine a_s rfl rfl ?_; refine n_t ?_; refine tr_ret ?_; refine tr_blk_ret ?_; refine tr_then_ret ?_; refine tr_then_ret ?_; refine tr_blk_ret ?_; refine tr_then_ret ?_; refine tr_retE rfl (ends1 rfl rfl) ?_; rotate_left; refine tr_skip ?_; refine tr_blk_normal ?_; refine tr_then ?_; refine tr_region ?_; refine m_v rfl rfl ?_; refine tr_val (rk_add (.of rfl) (.of rfl) (ini (by omega))) rfl ?_; refine a_s rfl rfl ?_; refine n_t ?_; rotate_right)
    · have hn : pxB b o b.ex[e] = true := by
        unfold pxB
        simp only [Bool.and_eq_true, decide_eq_true_eq]
        exact hcd
      rw [if_pos (any_hit (List.getElem_mem hlt3) hn)]
    · have hn : pxB b o b.ex[e] = false := by
        unfold pxB
        simp only [Bool.and_eq_false_iff, decide_eq_false_iff_not]
        exact hcd
      apply tr_next (e + 1) ⟨by omega, fun i hi hl => by
        by_cases e' : i = e
        · subst e'; exact hn
        · exact hf3 i (by omega) hl⟩ (by omega)
      case hs1 => exact .cons rfl (.cons rfl (.cons rfl .nil))
      case ht => (try simp only [List.take_zero, List.map_nil, List.nil_append]); exact .cons .here .nil
  obtain rfl : e = b.ex.length := by omega
  have hpx : b.ex.any (pxB b o) = false := any_false fun x hx => by
    obtain ⟨i, hi, rfl⟩ := List.getElem_of_mem hx
    exact hf3 i hi hi
  rw [if_neg (by rw [hpx]; decide)]
  (refine tr_seq ?_; refine s_r ?_; refine m_v rfl rfl ?_; refine f_a rfl rfl norm0_ ?_; refine tr_val (rk_load1 (.of rfl) (At.lit .here rfl)) rfl ?_; refine tr_val (rk_len_slice (.of rfl)) rfl ?_; refine tr_val (rk_lss (.of rfl) (.of rfl)) rfl ?_; refine n_t ?_; refine c_d rfl (fun _ => by omega) (fun hcd => ?_); refine x_t ?_; refine tr_then_exit ?_; refine tr_blk_exit ?_; refine tr_then ?_; refine tr_seq ?_)
  with_reducible refine tr_draw 9 (by kernel_rfl) ?_
  (refine any_val (rk_loadB (.of rfl) .here norm_ (by rfl)) rfl ?_; refine a_m rfl rfl ?_; refine any_call (rk_call (.of rfl) (.cons (.of rfl) (.cons (.of rfl) .nil)) inferInstance normc_) rfl (fun w' hm' => (hms w' (Mem.keeps hm'))) ?_; refine any_val (rk_index (.of rfl) (.of rfl) (by omega) (by omega) norm_) rfl ?_; refine a_f rfl rfl norm0_ ?_; refine any_val (rk_load1 (.of rfl) (At.lit .here rfl)) rfl ?_; refine any_val (rk_gtr (.of rfl) (.of rfl)) rfl ?_; refine any_call (rk_call (.of rfl) (.cons (.of rfl) (.cons (.of rfl) .nil)) inferInstance normc_) rfl (fun w' hm' => (when_q _ 26 w')) ?_; refine any_val (rk_assign (.of rfl)) rfl ?_)
  with_reducible refine any_end ?_
  (refine n_t ?_; refine tr_ret ?_; refine tr_retE rfl (ends1 rfl rfl) ?_)
  rfl
end Go.Proofs.A1


/- R9 -/
namespace Go.Proofs.A1
open Go Go.SL

instance decEn : DecidableEq En := fun a b => decidable_of_iff (a.nm = b.nm ∧ a.mt = b.mt ∧ a.kd = b.kd ∧ a.tm = b.tm ∧ a.ln = b.ln ∧ a.ov = b.ov) (by cases a; cases b; simp)
end Go.Proofs.A1


/- R10 -/
namespace Go.Proofs.A1
open Go Go.SL

end Go.Proofs.A1


/- R11 -/
namespace Go.Proofs.A1
open Go Go.SL

end Go.Proofs.A1


/- Q2p -/
/- Placing: the errors of the program and those of the reference are the same. Plain Lean. -/
namespace Go.Proofs.A1
open Go Go.SL
section
variable {es : List En} {b : Br} {gap : Int} {ol : List Int}
end
end Go.Proofs.A1


/- R12 -/
namespace Go.Proofs.A1
open Go Go.SL

end Go.Proofs.A1


/- R13 -/
namespace Go.Proofs.A1
open Go Go.SL

end Go.Proofs.A1


/- R14 -/
namespace Go.Proofs.A1
open Go Go.SL

end Go.Proofs.A1


/- S67 -/
namespace Go.Proofs.A1
open Go Go.SL

end Go.Proofs.A1


/- Q3p -/
/- Changes: the errors of the program and those of the reference are the same. Plain Lean. -/
namespace Go.Proofs.A1
end Go.Proofs.A1


/- S68 -/
namespace Go.Proofs.A1
open Go Go.SL

end Go.Proofs.A1


/- GkPoolQ -/
/- Slices of slices: each item's own memory, by its place. -/
namespace Go.SL
open Go

def poolQL (R : Nat → Value → Asn) : Nat → List Value → List Asn
  | _, [] => []
  | i, v :: vs => R i v :: poolQL R (i + 1) vs
def poolQ (R : Nat → Value → Asn) (vs : List Value) : Asn := stA (poolQL R 0 vs)
section
variable {P : Program} {c : Cx} {D : List Nat} {sl : Slots} {hs hs' : List Asn} {X : Act → World → Prop}
end
attribute [irreducible] poolQ
end Go.SL


/- S69 -/
namespace Go.Proofs.A1
open Go Go.SL

end Go.Proofs.A1


/- S70 -/
namespace Go.Proofs.A1
open Go Go.SL

end Go.Proofs.A1


/- S71 -/
namespace Go.Proofs.A1
open Go Go.SL

theorem Gives.sub {P : Program} {f : FuncId} {args : List Value} {w : World} {md : List Nat} {ι : Type} {Φ : ι → Prop} {val : ι → Value} {own : ι → List Asn} (h : Gives P f args w md Φ val own) :
    Gives P f args w md (fun _ : { x : ι // Φ x } => True) (fun x => val x.1) (fun x => own x.1) :=
  Calls.mono h fun e w' ⟨x, he, hp, hr⟩ => ⟨⟨x, hp⟩, he, trivial, hr⟩
end Go.Proofs.A1


/- S72 -/
namespace Go.Proofs.A1
open Go Go.SL

/-- the greatest length of some fillings -/
def fullL (b : Br) (l : List (List Nat)) : Int := l.foldl (fun m o => max m (tL b.sp o o.length)) 0
theorem fullL_snoc (b : Br) (l : List (List Nat)) (x : List Nat) : fullL b (l ++ [x]) = max (fullL b l) (tL b.sp x x.length) := by
  unfold fullL
  rw [List.foldl_append]; rfl
def fuF (b : Br) : Int := if brE b = 0 then fullL b (fillsA b) else 0
set_option maxHeartbeats 1000000 in
theorem fullest_c {b : Br} {sv cv xv : Value} {w : World} (h1 : Rd w sv 4 (spsL b.sp)) (h2 : Rd w cv 1 (ints b.cm)) (h3 : Rd w xv 2 (prsL b.ex)) :
    GivesV Tryz.prog 63 [.agg #[.int .i64 b.n, sv, cv, xv]] w (.tuple #[.int .i64 (fuF b), .int .i64 (brE b)]) := by
  have hone1 := Rd.one h1
  have hone2 := Rd.one h2
  have hone3 := Rd.one h3
  refine givesV_of_tr Tryz.func63 rfl rfl ?_
  (refine s_r ?_; refine tr_new (rk_box (.of rfl) rfl) rfl (fun _ _ => ?_); refine a_s rfl rfl ?_; refine a_s rfl rfl ?_; refine n_t ?_; refine tr_seq ?_; refine s_r ?_; refine tr_val (rk_loadB (.of rfl) .here norm_ (by rfl)) rfl ?_; refine tr_callV (rk_call (.of rfl) (.cons (.of rfl) .nil) inferInstance normc_) rfl (fun w' hm' => (brk_c (Rd.keeps h1 (Mem.keeps hm')) (Rd.keeps h2 (Mem.keeps hm')) (Rd.keeps h3 (Mem.keeps hm')))) ?_; refine a_s rfl rfl ?_; refine n_r ?_; refine m_v rfl rfl ?_; refine tr_val (rk_neq (.of rfl) (.of rfl)) rfl ?_; refine n_t ?_; refine c_d rfl (fun hcd => ?_) (fun hcd => ?_); refine s_r ?_; refine m_v rfl rfl ?_; refine a_s rfl rfl ?_; refine a_s rfl rfl ?_; refine n_t ?_; refine r_t ?_; refine tr_retE rfl (ends2 rfl rfl rfl) ?_; rotate_left; refine s_t ?_; refine s_r ?_; refine tr_new (rk_alloc rfl) rfl (fun _ _ => ?_); refine tr_store (.of rfl) (.of rfl) .here rfl rfl (okc_cons rfl okc_nil) (lenb rfl) norm_ ?_; refine n_t ?_; refine tr_seq ?_; refine s_r ?_; refine tr_val (rk_loadB (.of rfl) (.there .here) norm_ (by rfl)) rfl ?_; rotate_right)
  · rw [fuF, if_neg hcd]
  have hz : brE b = 0 := Decidable.not_not.1 hcd
  have hok := BrOk.of hz
  rename_i b1 hb1 b5 hb5
  rw [fuF, if_pos hz, hz]
  with_reducible apply tr_call
  case hr => exact rk_call (.of rfl) (.cons (.of rfl) .nil) inferInstance normc_
  case hd => rfl
  case ht => exact Takes.nil
  case hc =>
    intro w1 fp hm1 _ hs1
    obtain rfl : fp = [] := hs1
    exact fillings_c _ _ _ _ hone1 hone2 hone3
  intro x1 _
  dsimp only [id_eq, List.cons_append, List.nil_append]
  (refine n_t ?_; refine tr_block ?_)
  refine tr_rangePool (p := 14) (f := 188) (first := []) (cap := [.pointer (some ⟨x1, 0, none⟩)]) (ι := Int) (rst := []) ?hg
    [blk x1 (.cells #[.int .i64 b.n, sv, cv, xv] 91 (0, 0))] 3 ((fillsA b).map natsV) ?hit (fun vs x => x = fullL b ((fillsA b).take vs.length))
    (fun x => [blk b5 (.cells #[.int .i64 x] 3 (0, 0)), blk b1 (.cells #[.int .i64 b.n, sv, cv, xv] 91 (0, 0))]) 0 ?h0 ?ht ?hp' ?round ?kn
  case hg => exact Is.of rfl
  case hit => intro w' hm'; exact fillsI_c hok h1 h2 h3 (Out.nil _ _) (Out.nil _ _) (Out.nil _ _)
  case h0 => exact rfl
  case ht =>
    show Takes _ [blk b5 (.cells #[.int .i64 0] 3 (0, 0)), blk b1 (.cells #[.int .i64 b.n, sv, cv, xv] 91 (0, 0)), blk x1 _] _
    exact .cons (.there .here) (.cons (.there .here) (.cons .here .nil))
  case hp' => exact Nat.le_of_ble_eq_true rfl
  case kn =>
    intro mo vs D hvl hmo
    dsimp only [List.cons_append, List.nil_append]
    rw [List.length_map] at hvl
    rw [hvl, List.take_length] at hmo
    subst hmo
    (refine tr_blk_normal ?_; refine tr_then ?_; refine s_r ?_; refine tr_val (rk_load1 (.of rfl) (At.lit .here rfl)) rfl ?_; refine a_s rfl rfl ?_; refine a_s rfl rfl ?_; refine n_t ?_; refine tr_ret ?_)
    first | with_reducible apply tr_retM | with_reducible apply tr_endM
    case he => exact ends2 rfl rfl rfl
    case hR =>
      intro w' hm'
      exact ⟨rfl, hm'.keeps⟩
  case round =>
    intro l rc W fp vs v mo hsz hvl hmo hB hF
    rw [List.length_map] at hvl
    have hx0 : (fillsA b)[vs.length]? = some (fillsA b)[vs.length] := List.getElem?_eq_getElem hvl
    generalize ho : (fillsA b)[vs.length] = o at hx0
    have hdN : Dif b.sp.length o := fillsF_dif (Dif.nil _) _ (List.mem_of_getElem? hx0)
    have hlN : o.length ≤ 1000 := by have := hdN.len; have := hok.few; omega
    have hvN : (vs ++ [v])[vs.length]? = some v := by simp
    have hxN : (((fillsA b).map natsV).take (vs.length + 1))[vs.length]? = some (natsV o) := by
      rw [List.getElem?_take, if_pos (by omega), List.getElem?_map, hx0]; rfl
    have h1W : Rd W sv 4 (spsL b.sp) := h1.keepsN (Out.nil _ _) hB
    have o1W : Out fp sv (spsL b.sp) := h1.out (by omega) (Out.nil _ _) hF
    have hsn : fullL b ((fillsA b).take (vs.length + 1)) = max mo (tL b.sp o o.length) := by
      rw [fills_len hx0, fullL_snoc, ← hmo]
    have hvl1 : ∀ u : Value, (vs ++ [u]).length = vs.length + 1 := fun u => by simp
    dsimp only [List.cons_append, List.nil_append]
    refine tr_fact (fun w hm => Rd.shape (rdPoolN hm (by exact Take.there (.there (.there .here))) hvN hxN)) fun hsh => ?_
    obtain ⟨av, nv, cpv, e⟩ := hsh
    subst e
    (refine tr_region ?_; refine a_s rfl rfl ?_; refine n_t ?_)
    with_reducible apply tr_begin
    case ht => exact .here
    refine tr_block ?_
    with_reducible refine tr_draw 6 (by kernel_rfl) ?_
    (refine any_val (rk_load1 (.of rfl) (At.lit (.there .here) rfl)) rfl ?_; refine any_val (rk_loadB (.of rfl) (.there (.there .here)) norm_ (by rfl)) rfl ?_; refine a_m rfl rfl ?_; refine any_call (rk_call (.of rfl) (.cons (.of rfl) (.cons (.of rfl) .nil)) inferInstance normc_) rfl (fun w' hm' => (told9_c (Rd.keepsN h1W o1W (Mem.keeps hm')) (rdPoolN hm' (.there (.there (.there .here))) hvN hxN) hone2 hone3 (BrOk.spOk hok) (Dif.lt hdN) hlN)) ?_; refine any_val (rk_index (.of rfl) (.of rfl) (by omega) (by omega) norm_) rfl ?_; refine any_val (rk_max2 (.of rfl) (.of rfl)) rfl ?_)
    with_reducible refine any_end ?_
    (refine tr_store (.of rfl) (.of rfl) (.there .here) rfl rfl (okc_cons rfl okc_nil) (lenb rfl) norm_ ?_; refine tr_nil ?_; refine tr_blk_normal ?_)
    apply tr_poolN (max mo (tL b.sp o o.length))
    case ht => exact Take.there .here
    case hx =>
      show max mo (tL b.sp o o.length) = fullL b ((fillsA b).take (vs ++ [Value.slice av nv cpv]).length)
      rw [hvl1]; exact hsn.symm
    case h2 =>
      show Takes _ [blk b5 (.cells #[.int .i64 (max mo (tL b.sp o o.length))] 3 (0, 0)), blk b1 (.cells #[.int .i64 b.n, sv, cv, xv] 91 (0, 0)), pool 3 (vs ++ [.slice av nv cpv]) (((fillsA b).map natsV).take (vs ++ [Value.slice av nv cpv]).length)] _
      rw [hvl1]
      exact .cons .here (.cons .here (.cons .here .nil))
end Go.Proofs.A1

