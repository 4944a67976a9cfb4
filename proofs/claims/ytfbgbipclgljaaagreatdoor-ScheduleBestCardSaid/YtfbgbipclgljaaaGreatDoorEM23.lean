/- Parts of the proof: S74. -/
import Derived.Test.YtfbgbipclgljaaaGreatDoorEM21
import Derived.Test.YtfbgbipclgljaaaGreatDoorEM22
import Derived.Test.YtfbgbipclgljaaaGreatDoorEM06
set_option linter.unusedSectionVars false
set_option linter.unusedVariables false
set_option linter.unusedSimpArgs false
/- S74 -/
namespace Go.Proofs.A1
open Go Go.SL

theorem cfE_fill {b : Br} (hz : brE b = 0) {o : List Nat} (ho : Filling b o) : cfE b (o.map fun (i : Nat) => (i : Int)) = 0 ∧ cfV b (o.map fun (i : Nat) => (i : Int)) = (tV b.sp o o.length, tL b.sp o o.length) := by
  have hb := BrOk.of hz
  have he : cfE b (o.map fun (i : Nat) => (i : Int)) = 0 := by
    rw [cfE, if_neg (by rw [hz]; decide), orderE_nat ho.dif (ho.few hb)]; exact ho.fit
  have hc : cfO (o.map fun (i : Nat) => (i : Int)) = o := by
    unfold cfO
    rw [List.map_map]
    conv => rhs; rw [← List.map_id o]
    exact List.map_congr_left fun i _ => by simp
  refine ⟨he, ?_⟩
  rw [cfV, if_pos he, hc]
theorem cfE_max {b : Br} (hz : brE b = 0) {ol : List Int} (h : cfE b ol = 0) : ((cfV b ol).1 < tV b.sp (fillF b) (fillF b).length ∨ ((cfV b ol).1 = tV b.sp (fillF b) (fillF b).length ∧ (cfV b ol).2 ≤ tL b.sp (fillF b) (fillF b).length)) ∧ (cfV b ol).2 ≤ fullL b (fillsA b) := by
  have hb := BrOk.of hz
  have ho : Filling b (cfO ol) := by
    refine Filling.of_order ?_
    rw [cfE, if_neg (by rw [hz]; decide)] at h
    exact h
  rw [cfV, if_pos h]
  exact ⟨fillF_max hb ho, full_ge hb ho⟩
theorem bdE_zero {b : Br} (hz : brE b = 0) {p : Int × Int} (h : prcE p = 0) : bdE b p = 0 := by
  unfold prcE at h
  unfold bdE
  rw [firstF_zero] at h ⊢
  simp only [List.mem_cons, List.not_mem_nil, or_false, forall_eq_or_imp, forall_eq] at h ⊢
  exact ⟨hz, h.1, h.2⟩
theorem prcE_ok {p : Int × Int} (h1 : ratE p = 0) (h2 : PrOk p) : prcE p = 0 := by
  unfold prcE
  rw [firstF_zero]
  simp only [List.mem_cons, List.not_mem_nil, or_false, forall_eq_or_imp, forall_eq]
  refine ⟨h1, ?_⟩
  rw [whenF_zero (by decide), decide_eq_false_iff_not]
  have := h2.n
  omega
theorem PrOk.of_prc {p : Int × Int} (h : prcE p = 0) : PrOk p := by
  unfold prcE at h
  rw [firstF_zero] at h
  simp only [List.mem_cons, List.not_mem_nil, or_false, forall_eq_or_imp, forall_eq] at h
  rw [whenF_zero (by decide)] at h
  exact PrOk.of h.1 (by simpa using h.2)
theorem cfE_one {b : Br} (hz : brE b = 0) {i : Nat} (hi : i < b.sp.length) (hn : (nthS b.sp i).ln ≤ b.n) (hc : 0 < cmO b (nthS b.sp i).cp) : cfE b [(i : Int)] = 0 ∧ cfV b [(i : Int)] = ((nthS b.sp i).vl, (nthS b.sp i).ln) := by
  have := cfE_fill hz (orderE_one (BrOk.of hz) hi hn hc)
  refine ⟨this.1, this.2.trans ?_⟩
  have e1 : tV b.sp [i] [i].length = 0 + (nthS b.sp i).vl := rfl
  have e2 : tL b.sp [i] [i].length = 0 + (nthS b.sp i).ln := rfl
  rw [e1, e2, Int.zero_add, Int.zero_add]
def g3b : Value → Value × Value × Value
  | .agg cs => (cs.getD 0 undef, cs.getD 1 undef, cs.getD 2 undef)
  | _ => (undef, undef, undef)
theorem g3b_of (x : Value × Value × Value) : ∃ v, g3b v = x := ⟨.agg #[x.1, x.2.1, x.2.2], rfl⟩
set_option maxHeartbeats 8000000 in
set_option maxRecDepth 100000 in
theorem best_law {sv cv xv ov : Value} {b : Br} {ol : List Int} {p : Int × Int} {w : World} (h1 : Rd w sv 4 (spsL b.sp)) (h2 : Rd w cv 1 (ints b.cm)) (h3 : Rd w xv 2 (prsL b.ex)) (h4 : Rd w ov 1 (ints ol)) (hG : Glob w) (hT : Tab10 w) :
    GivesV Tryz.prog 9 [.agg #[.int .i64 b.n, sv, cv, xv], ov, .agg #[.int .i64 p.1, .int .i64 p.2]] w (.bool true) := by
  have haw : ∀ w', Keeps [] w w' → GivesV Tryz.prog 17 [] w' (.bool true) := fun w' hk => awake_c w' (hG.keeps hk) (hT.keeps hk)
  have hone1 := Rd.one h1
  have hone2 := Rd.one h2
  have hone3 := Rd.one h3
  have h1' := h1
  have h2' := h2
  have h4' := h4
  obtain ⟨a, cap, bs, os, rfl, hcap, hmax, ha, hc⟩ := h1
  obtain ⟨a2, cap2, bs2, os2, rfl, hcap2, hmax2, ha2, hc2⟩ := h2
  obtain ⟨a4, cap4, bs4, os4, rfl, hcap4, hmax4, ha4, hc4⟩ := h4
  rw [spsL_length] at *
  rw [ints_length] at *
  rw [ints_length] at *
  unfold maxLen at hmax hmax2 hmax4
  have hsh : ∀ w', Keeps [] w w' → GivesV Tryz.prog 43 [.agg #[.int .i64 b.n, .slice a b.sp.length cap, .slice a2 b.cm.length cap2, xv]] w' (.bool (shortBr b)) := fun w' hk => shortBr_c (h1'.keeps hk) (h2'.keeps hk) (h3.keeps hk)
  have hck : ∀ w', Keeps [] w w' → GivesV Tryz.prog 47 [.agg #[.int .i64 b.n, .slice a b.sp.length cap, .slice a2 b.cm.length cap2, xv]] w' (.int .i64 (brE b)) := fun w' hk => brkQ_c (h1'.keeps hk) (h2'.keeps hk) (h3.keeps hk)
  have hpc : ∀ w', GivesV Tryz.prog 48 [.agg #[.int .i64 p.1, .int .i64 p.2]] w' (.int .i64 (prcE p)) := fun w' => prcQ_c p w'
  refine givesV_of_tr Tryz.func9 rfl rfl ?_
  (refine s_r ?_; refine tr_new (rk_box (.of rfl) rfl) rfl (fun _ _ => ?_); refine tr_new (rk_box (.of rfl) rfl) rfl (fun _ _ => ?_); refine a_s rfl rfl ?_; refine n_t ?_; refine tr_seq ?_; refine s_r ?_; refine tr_callV (rk_call (.of rfl) .nil inferInstance normc_) rfl (fun w' hm' => (haw w' (Mem.keeps hm'))) ?_; refine tr_val (rk_not (.of rfl)) rfl ?_; refine m_v rfl rfl ?_; refine tr_vG1 rfl rfl inferInstance (fun hg hgp => (rk_loadB (.of rfl) (.there .here) norm_ (by rfl))) rfl ?_; refine tr_callVG1 rfl rfl (fun hg => (rk_call (.of rfl) (.cons (.ofg hg rfl) .nil) inferInstance normc_)) rfl (fun hg w' hm' => (hsh w' (Mem.keeps hm'))) ?_; refine tr_vG1 rfl rfl inferInstance (fun hg hgp => (rk_not (.ofg hgp rfl))) rfl ?_; refine tr_val (rk_pick_or (.of rfl) rfl) rfl ?_; refine m_v rfl rfl ?_; refine v_g rfl rfl rfl rfl ?_; refine tr_vG1 rfl rfl inferInstance (fun hg hgp => (rk_len_slice (.ofg hg rfl))) rfl ?_; refine tr_vG1 rfl rfl inferInstance (fun hg hgp => (rk_gtr (.ofg hg rfl) (.of rfl))) rfl ?_; refine tr_val (rk_pick_or (.of rfl) rfl) rfl ?_; refine m_v rfl rfl ?_; refine tr_vG1 rfl rfl inferInstance (fun hg hgp => (rk_loadB (.of rfl) (.there .here) norm_ (by rfl))) rfl ?_; refine tr_callVG1 rfl rfl (fun hg => (rk_call (.of rfl) (.cons (.ofg hg rfl) .nil) inferInstance normc_)) rfl (fun hg w' hm' => (hck w' (Mem.keeps hm'))) ?_; refine tr_vG1 rfl rfl inferInstance (fun hg hgp => (rk_neq (.ofg hg rfl) (.of rfl))) rfl ?_; refine tr_val (rk_pick_or (.of rfl) rfl) rfl ?_; refine m_v rfl rfl ?_; refine tr_vG1 rfl rfl inferInstance (fun hg hgp => (rk_fieldAddr (.of rfl) norm0_)) rfl ?_; refine tr_vG1 rfl rfl inferInstance (fun hg hgp => (rk_load1 (.ofg hg rfl) (At.lit (.there .here) rfl))) rfl ?_; refine tr_vG1 rfl rfl inferInstance (fun hg hgp => (rk_len_slice (.ofg hg rfl))) rfl ?_; refine tr_vG1 rfl rfl inferInstance (fun hg hgp => (rk_gtr (.ofg hg rfl) (.of rfl))) rfl ?_; refine tr_val (rk_pick_or (.of rfl) rfl) rfl ?_; refine m_v rfl rfl ?_; refine tr_vG1 rfl rfl inferInstance (fun hg hgp => (rk_loadB (.of rfl) .here norm_ (by rfl))) rfl ?_; refine tr_callVG1 rfl rfl (fun hg => (rk_call (.of rfl) (.cons (.ofg hg rfl) .nil) inferInstance normc_)) rfl (fun hg w' hm' => (hpc w')) ?_; refine tr_vG1 rfl rfl inferInstance (fun hg hgp => (rk_neq (.ofg hg rfl) (.of rfl))) rfl ?_; refine tr_val (rk_pick_or (.of rfl) rfl) rfl ?_; refine n_t ?_; refine c_b rfl (fun hcd => ?_) (fun hcd => ?_); refine s_r ?_; refine tr_callV (rk_call (.of rfl) .nil inferInstance normc_) rfl (fun w' hm' => (haw w' (Mem.keeps hm'))) ?_; refine a_s rfl rfl ?_; refine n_t ?_; refine r_t ?_; refine tr_retE rfl (ends1 rfl rfl) ?_; rotate_left; refine s_t ?_; refine s_r ?_; refine tr_val (rk_loadB (.of rfl) (.there .here) norm_ (by rfl)) rfl ?_; rotate_right)
  · rfl
  rename_i b3 hb3 b5 hb5
  have hfb := shortBr_few hcd.1.1.1.1.2
  have hol : ol.length ≤ 8 := by omega
  have hsp6 : b.sp.length ≤ 6 := by omega
  have hz : brE b = 0 := by omega
  have hpz : prcE p = 0 := by omega
  clear hcd
  have hok := BrOk.of hz
  have hgv : ∀ w', Keeps [] w w' → _ := fun w' hk => given_c (h1'.keeps hk) (h2'.keeps hk) (h3.keeps hk) (Nat.le_trans hfb.1 (by decide)) (Nat.le_trans hfb.2.1 (by decide)) (Nat.le_trans hfb.2.2 (by decide))
  have hfo := fillF_ok hok
  have hf8 := hfo.few hok
  have hfm : ∀ o, Filling b o → _ := fun o ho => fillF_max hok ho
  have hcf := cfE_fill hz hfo
  have hmx := cfE_max hz (ol := ol)
  have hF1 := full_ge hok hfo
  have hFn := full_le hok (M := b.n) hok.n.1 fun o ho => ho.le
  have hF0 := full_nn b
  have hPm := priceF_mem b
  have hPok := prA_ok hok _ hPm
  have hpz2 : prcE (priceF b) = 0 := prcE_ok (prA_prc hok hPm) hPok
  have hpok := PrOk.of_prc hpz
  have hb1 := bndF_ge hPok hfo
  have hb2 := bndF_ge hpok hfo
  have hb3 := priceF_le (prA_zero b)
  have hbS : ∀ i, i < b.sp.length → bndF b (priceF b) ≤ bndF b (lowF (nthS b.sp i).vl (nthS b.sp i).ln) := fun i hi => priceF_le (prA_spot hi)
  have hzS : ∀ i, i < b.sp.length → bdE b (lowF (nthS b.sp i).vl (nthS b.sp i).ln) = 0 := fun i hi => bdE_zero hz (prcE_ok (prA_prc hok (prA_spot hi)) (prA_ok hok _ (prA_spot hi)))
  have hlong := fun (hn : b.n < 100000) => long_ge hok (BrOk.of (brE_long hz hn))
  have hfV : fiV b = (tV b.sp (fillF b) (fillF b).length, tL b.sp (fillF b) (fillF b).length) := by rw [fiV, if_pos hz]
  have hfL : fiL b = fillF b := by rw [fiL, if_pos hz]
  have hfu : fuF b = fullL b (fillsA b) := by rw [fuF, if_pos hz]
  generalize hfb2 : fillF b = fb at hfo hf8 hcf hmx hF1 hb1 hb2 hfV hfL hlong
  generalize hbV : tV b.sp fb fb.length = bV at hcf hmx hb1 hb2 hfV hlong
  generalize hbL : tL b.sp fb fb.length = bL at hcf hmx hF1 hfV
  generalize hFU : fullL b (fillsA b) = FU at hmx hF1 hFn hF0 hfu hlong
  generalize hPP : priceF b = PP at hPok hpz2 hb1 hb3 hbS
  have hFill : ∀ (x1 x2 x3 : Value) w', Rd w' x1 4 (spsL b.sp) → Rd w' x2 1 (ints b.cm) → Rd w' x3 2 (prsL b.ex) → Gives Tryz.prog 62 [.agg #[.int .i64 b.n, x1, x2, x3]] w' [] (fun _ : Value => True) (fun v => .tuple #[v, .agg #[.int .i64 bV, .int .i64 bL], .int .i64 0]) (fun v => [row 3 1 v fb.length (natsV fb)]) := fun x1 x2 x3 w' r1 r2 r3 => by
    have := fill_c r1 r2 r3
    rwa [hfV, hfL, hz] at this
  have hFull : ∀ (x1 x2 x3 : Value) w', Rd w' x1 4 (spsL b.sp) → Rd w' x2 1 (ints b.cm) → Rd w' x3 2 (prsL b.ex) → GivesV Tryz.prog 63 [.agg #[.int .i64 b.n, x1, x2, x3]] w' (.tuple #[.int .i64 FU, .int .i64 0]) := fun x1 x2 x3 w' r1 r2 r3 => by
    have := fullest_c r1 r2 r3
    rwa [hfu, hz] at this
  have hBd : ∀ (x1 x2 x3 : Value) (q : Int × Int) w', bdE b q = 0 → Rd w' x1 4 (spsL b.sp) → Rd w' x2 1 (ints b.cm) → Rd w' x3 2 (prsL b.ex) → GivesV Tryz.prog 46 [.agg #[.int .i64 b.n, x1, x2, x3], .agg #[.int .i64 q.1, .int .i64 q.2]] w' (.tuple #[.int .i64 (bndF b q), .int .i64 0]) := fun x1 x2 x3 q w' hq r1 r2 r3 => by
    have := boundX_c (p := q) r1 r2 r3
    rwa [if_pos hq, hq] at this
  have hPr : ∀ (x1 x2 x3 : Value) w', Rd w' x1 4 (spsL b.sp) → Rd w' x2 1 (ints b.cm) → Rd w' x3 2 (prsL b.ex) → GivesV Tryz.prog 44 [.agg #[.int .i64 b.n, x1, x2, x3]] w' (.tuple #[.agg #[.int .i64 PP.1, .int .i64 PP.2], .int .i64 0]) := fun x1 x2 x3 w' r1 r2 r3 => by
    have := priceX_c r1 r2 r3
    rwa [if_pos hz, hz, hPP] at this
  have hpc2 : ∀ w', GivesV Tryz.prog 48 [.agg #[.int .i64 PP.1, .int .i64 PP.2]] w' (.int .i64 (prcE PP)) := fun w' => prcQ_c PP w'
  have hbdP := bdE_zero hz hpz2
  have hbdp := bdE_zero hz hpz
  have hbd0 : bdE b (0, 1) = 0 := bdE_zero hz (prcE_ok prc_zero ⟨by decide, by decide⟩)

  with_reducible apply tr_call
  case hr => exact rk_call (.of rfl) (.cons (.of rfl) .nil) inferInstance normc_
  case hd => rfl
  case ht => exact Takes.nil
  case hc =>
    intro w1 fp hm1 _ hs1
    obtain rfl : fp = [] := hs1
    exact hgv w1 hm1.keeps
  rintro ⟨x11, x12, x13⟩ _
  dsimp only [id_eq, List.cons_append, List.nil_append]
  with_reducible apply tr_call
  case hr => exact rk_call (.of rfl) (.cons (.of rfl) .nil) inferInstance normc_
  case hd => rfl
  case ht => exact Takes.nil
  case hc =>
    intro w1 fp hm1 _ hs1
    obtain rfl : fp = [] := hs1
    exact hFill x11 x12 x13 w1 (Mem.rdRow hm1 (E := 218) (v := x11) (by exact .here) rfl (spsL_sz _) (spsL_length _)) (Mem.rdRow hm1 (E := 3) (v := x12) (by exact Take.there .here) rfl (ints_sz _) (ints_length _)) (Mem.rdRowE hm1 (E := 121) (v := x13) (by exact Take.there (.there .here)) rfl (prsL_sz _) (prsL_length _))
  intro fv _
  dsimp only [id_eq, List.cons_append, List.nil_append]
  (refine m_v rfl rfl ?_; refine tr_val (rk_extract (.of rfl) rfl) rfl ?_; refine tr_val (rk_extract (.of rfl) rfl) rfl ?_; refine tr_val (rk_extract (.of rfl) rfl) rfl ?_; refine tr_new (rk_alloc rfl) rfl (fun _ _ => ?_); refine a_s rfl rfl ?_; refine tr_store (.of rfl) (.of rfl) .here rfl rfl (okc_cons rfl (okc_cons rfl okc_nil)) (lenb rfl) norm_ ?_; refine a_s rfl rfl ?_; refine n_r ?_; refine tr_val (rk_loadB (.of rfl) (.there (.there (.there (.there (.there (.there .here)))))) norm_ (by rfl)) rfl ?_)
  rename_i b8 hb8
  with_reducible apply tr_call
  case hr => exact rk_call (.of rfl) (.cons (.of rfl) .nil) inferInstance normc_
  case hd => rfl
  case ht => exact Takes.nil
  case hc =>
    intro w1 fp hm1 _ hs1
    obtain rfl : fp = [] := hs1
    exact hgv w1 hm1.keeps
  rintro ⟨x21, x22, x23⟩ _
  dsimp only [id_eq, List.cons_append, List.nil_append]
  with_reducible apply tr_callV
  case hr => exact rk_call (.of rfl) (.cons (.of rfl) .nil) inferInstance normc_
  case hd => rfl
  case hc =>
    intro w' hm'
    exact hFull x21 x22 x23 w' (Mem.rdRow hm' (E := 218) (v := x21) (by exact .here) rfl (spsL_sz _) (spsL_length _)) (Mem.rdRow hm' (E := 3) (v := x22) (by exact Take.there .here) rfl (ints_sz _) (ints_length _)) (Mem.rdRowE hm' (E := 121) (v := x23) (by exact Take.there (.there .here)) rfl (prsL_sz _) (prsL_length _))
  (refine m_v rfl rfl ?_; refine tr_val (rk_extract (.of rfl) rfl) rfl ?_; refine tr_val (rk_extract (.of rfl) rfl) rfl ?_; refine a_s rfl rfl ?_; refine a_s rfl rfl ?_; refine n_r ?_; refine tr_val (rk_loadB (.of rfl) (.there (.there (.there (.there (.there (.there (.there (.there (.there .here))))))))) norm_ (by rfl)) rfl ?_)
  with_reducible apply tr_call
  case hr => exact rk_call (.of rfl) (.cons (.of rfl) .nil) inferInstance normc_
  case hd => rfl
  case ht => exact Takes.nil
  case hc =>
    intro w1 fp hm1 _ hs1
    obtain rfl : fp = [] := hs1
    exact hgv w1 hm1.keeps
  rintro ⟨x31, x32, x33⟩ _
  dsimp only [id_eq, List.cons_append, List.nil_append]
  refine m_v rfl rfl ?_
  with_reducible apply tr_call
  case hr => exact rk_call (.of rfl) (.cons (.of rfl) .nil) inferInstance normc_
  case hd => rfl
  case ht => exact Takes.nil
  case hc =>
    intro w1 fp hm1 _ hs1
    obtain rfl : fp = [] := hs1
    exact ints_c (l := fb.map fun (i : Nat) => (i : Int)) (by rw [← natsL_ints]; exact rdRowN hm1 (by exact Take.there (.there (.there (.there (.there (.there (.there .here)))))))) (by rw [List.length_map]; omega)
  intro iv _
  dsimp only [id_eq, List.cons_append, List.nil_append]
  with_reducible apply tr_callV
  case hr => exact rk_call (.of rfl) (.cons (.of rfl) (.cons (.of rfl) .nil)) inferInstance normc_
  case hd => rfl
  case hc =>
    intro w' hm'
    exact checkFill_c (ol := fb.map fun (i : Nat) => (i : Int)) (Mem.rdRow hm' (E := 218) (v := x31) (by exact Take.there .here) rfl (spsL_sz _) (spsL_length _)) (Mem.rdRow hm' (E := 3) (v := x32) (by exact Take.there (.there .here)) rfl (ints_sz _) (ints_length _)) (Mem.rdRowE hm' (E := 121) (v := x33) (by exact Take.there (.there (.there .here))) rfl (prsL_sz _) (prsL_length _)) (Mem.rdRow hm' (E := 3) (v := iv) (by exact .here) rfl (ints_sz _) (ints_length _))
  rw [hcf.1, hcf.2]
  dsimp only
  (refine m_v rfl rfl ?_; refine tr_val (rk_extract (.of rfl) rfl) rfl ?_; refine tr_val (rk_extract (.of rfl) rfl) rfl ?_; refine tr_new (rk_alloc rfl) rfl (fun _ _ => ?_); refine tr_store (.of rfl) (.of rfl) .here rfl rfl (okc_cons rfl (okc_cons rfl okc_nil)) (lenb rfl) norm_ ?_; refine a_s rfl rfl ?_; refine n_t ?_; refine tr_seq ?_; refine s_r ?_; refine m_v rfl rfl ?_; refine tr_val (rk_neq (.of rfl) (.of rfl)) rfl ?_; refine m_v rfl rfl ?_; refine v_g rfl rfl rfl rfl ?_; refine tr_vG1 rfl rfl inferInstance (fun hg hgp => (rk_neq (.ofg hg rfl) (.of rfl))) rfl ?_; refine tr_val (rk_pick_or (.of rfl) rfl) rfl ?_; refine m_v rfl rfl ?_; refine v_g rfl rfl rfl rfl ?_; refine tr_vG1 rfl rfl inferInstance (fun hg hgp => (rk_neq (.ofg hg rfl) (.of rfl))) rfl ?_; refine tr_val (rk_pick_or (.of rfl) rfl) rfl ?_; refine m_v rfl rfl ?_; refine tr_vG1 rfl rfl inferInstance (fun hg hgp => (rk_loadB (.of rfl) .here norm_ (by rfl))) rfl ?_; refine tr_vG1 rfl rfl inferInstance (fun hg hgp => (rk_loadB (.of rfl) (.there (.there (.there (.there (.there (.there (.there (.there .here)))))))) norm_ (by rfl))) rfl ?_; refine tr_vG1 rfl rfl inferInstance (fun hg hgp => (rk_neqA (.ofg hg rfl) (.ofg hg rfl) (okL_int (okL_int okL_nil)) rfl)) rfl ?_; refine tr_val (rk_pick_or (.of rfl) rfl) rfl ?_; refine m_v rfl rfl ?_; refine tr_vG1 rfl rfl inferInstance (fun hg hgp => (rk_indexAddrA (.of rfl) (.of rfl) (by omega) (by omega) norm1_)) rfl ?_; refine tr_vG1 rfl rfl inferInstance (fun hg hgp => (rk_load1 (.ofg hg rfl) (At.lit (.there (.there (.there (.there (.there (.there (.there (.there .here)))))))) rfl))) rfl ?_; refine v_g rfl rfl rfl rfl ?_; refine tr_vG1 rfl rfl inferInstance (fun hg hgp => (rk_gtr (.ofg hg rfl) (.ofg hg rfl))) rfl ?_; refine tr_val (rk_pick_or (.of rfl) rfl) rfl ?_; refine m_v rfl rfl ?_; refine v_g rfl rfl rfl rfl ?_; refine tr_vG1 rfl rfl inferInstance (fun hg hgp => (rk_fieldAddr (.of rfl) norm0_)) rfl ?_; refine tr_vG1 rfl rfl inferInstance (fun hg hgp => (rk_load1 (.ofg hg rfl) (At.lit (.there (.there (.there (.there (.there (.there (.there (.there (.there (.there (.there (.there (.there (.there .here)))))))))))))) rfl))) rfl ?_; refine tr_vG1 rfl rfl inferInstance (fun hg hgp => (rk_gtr (.ofg hg rfl) (.ofg hg rfl))) rfl ?_; refine tr_val (rk_pick_or (.of rfl) rfl) rfl ?_; refine n_t ?_; refine c_b rfl (fun hcd => ?_) (fun hcd => ?_); refine s_r ?_; refine a_s rfl rfl ?_; refine n_t ?_; refine r_t ?_; refine tr_retE rfl (ends1 rfl rfl) ?_; rotate_left; refine s_t ?_; refine tr_seq ?_; refine s_r ?_; refine tr_val (rk_loadB (.of rfl) (.there (.there (.there (.there (.there (.there (.there (.there (.there (.there (.there (.there (.there (.there .here)))))))))))))) norm_ (by rfl)) rfl ?_; rotate_right)
  · exfalso
    simp at hcd
    omega
  clear hcd
  with_reducible apply tr_call
  case hr => exact rk_call (.of rfl) (.cons (.of rfl) .nil) inferInstance normc_
  case hd => rfl
  case ht => exact Takes.nil
  case hc =>
    intro w1 fp hm1 _ hs1
    obtain rfl : fp = [] := hs1
    exact hgv w1 hm1.keeps
  rintro ⟨x41, x42, x43⟩ _
  dsimp only [id_eq, List.cons_append, List.nil_append]
  refine m_v rfl rfl ?_
  with_reducible apply tr_call
  case hr => exact rk_call (.of rfl) (.cons (.of rfl) .nil) inferInstance normc_
  case hd => rfl
  case ht => exact Takes.nil
  case hc =>
    intro w1 fp hm1 _ hs1
    obtain rfl : fp = [] := hs1
    exact ints_c (l := ol) (h4'.keeps hm1.keeps) (by omega)
  intro iw _
  dsimp only [id_eq, List.cons_append, List.nil_append]
  with_reducible apply tr_callV
  case hr => exact rk_call (.of rfl) (.cons (.of rfl) (.cons (.of rfl) .nil)) inferInstance normc_
  case hd => rfl
  case hc =>
    intro w' hm'
    exact checkFill_c (ol := ol) (Mem.rdRow hm' (E := 218) (v := x41) (by exact Take.there .here) rfl (spsL_sz _) (spsL_length _)) (Mem.rdRow hm' (E := 3) (v := x42) (by exact Take.there (.there .here)) rfl (ints_sz _) (ints_length _)) (Mem.rdRowE hm' (E := 121) (v := x43) (by exact Take.there (.there (.there .here))) rfl (prsL_sz _) (prsL_length _)) (Mem.rdRow hm' (E := 3) (v := iw) (by exact .here) rfl (ints_sz _) (ints_length _))
  generalize cfE b ol = ce at hmx
  generalize cfV b ol = cv' at hmx
  obtain ⟨cv1, cv2⟩ := cv'
  dsimp only at hmx ⊢
  (refine m_v rfl rfl ?_; refine tr_val (rk_extract (.of rfl) rfl) rfl ?_; refine tr_val (rk_extract (.of rfl) rfl) rfl ?_; refine tr_new (rk_alloc rfl) rfl (fun _ _ => ?_); refine tr_store (.of rfl) (.of rfl) .here rfl rfl (okc_cons rfl (okc_cons rfl okc_nil)) (lenb rfl) norm_ ?_; refine a_s rfl rfl ?_; refine n_r ?_; refine m_v rfl rfl ?_; refine tr_val (rk_eql (.of rfl) (.of rfl)) rfl ?_; refine m_v rfl rfl ?_; refine tr_vG1 rfl rfl inferInstance (fun hg hgp => (rk_indexAddrA (.of rfl) (.of rfl) (by omega) (by omega) norm1_)) rfl ?_; refine tr_vG1 rfl rfl inferInstance (fun hg hgp => (rk_load1 (.ofg hg rfl) (At.lit .here rfl))) rfl ?_; refine tr_vG1 rfl rfl inferInstance (fun hg hgp => (rk_indexAddrA (.of rfl) (.of rfl) (by omega) (by omega) norm1_)) rfl ?_; refine tr_vG1 rfl rfl inferInstance (fun hg hgp => (rk_load1 (.ofg hg rfl) (At.lit (.there (.there (.there (.there (.there (.there (.there (.there (.there (.there (.there (.there (.there .here))))))))))))) rfl))) rfl ?_; refine tr_vG1 rfl rfl inferInstance (fun hg hgp => (rk_gtr (.ofg hg rfl) (.ofg hg rfl))) rfl ?_; refine tr_vG1 rfl rfl inferInstance (fun hg hgp => (rk_move (.ofg hg rfl))) rfl ?_; refine tr_vG rfl rfl inferInstance (fun hg hgp => (rk_indexAddrA (.of rfl) (.of rfl) (by omega) (by omega) norm1_)) rfl ?_; refine tr_vG rfl rfl inferInstance (fun hg hgp => (rk_load1 (.ofg hg rfl) (At.lit .here rfl))) rfl ?_; refine tr_vG rfl rfl inferInstance (fun hg hgp => (rk_indexAddrA (.of rfl) (.of rfl) (by omega) (by omega) norm1_)) rfl ?_; refine tr_vG rfl rfl inferInstance (fun hg hgp => (rk_load1 (.ofg hg rfl) (At.lit (.there (.there (.there (.there (.there (.there (.there (.there (.there (.there (.there (.there (.there .here))))))))))))) rfl))) rfl ?_; refine tr_vG rfl rfl inferInstance (fun hg hgp => (rk_eql (.ofg hg rfl) (.ofg hg rfl))) rfl ?_; refine tr_vG rfl rfl inferInstance (fun hg hgp => (rk_move (.ofg hg rfl))) rfl ?_; refine tr_vG rfl rfl inferInstance (fun hg hgp => (rk_indexAddrA (.of rfl) (.of rfl) (by omega) (by omega) norm1_)) rfl ?_; refine tr_vG rfl rfl inferInstance (fun hg hgp => (rk_load1 (.ofg hg rfl) (At.lit .here rfl))) rfl ?_; refine tr_vG rfl rfl inferInstance (fun hg hgp => (rk_indexAddrA (.of rfl) (.of rfl) (by omega) (by omega) norm1_)) rfl ?_; refine tr_vG rfl rfl inferInstance (fun hg hgp => (rk_load1 (.ofg hg rfl) (At.lit (.there (.there (.there (.there (.there (.there (.there (.there (.there (.there (.there (.there (.there .here))))))))))))) rfl))) rfl ?_; refine tr_vG rfl rfl inferInstance (fun hg hgp => (rk_gtr (.ofg hg rfl) (.ofg hg rfl))) rfl ?_; refine tr_vG rfl rfl inferInstance (fun hg hgp => (rk_pick_and' hg (.ofg hg rfl) rfl)) rfl ?_; refine tr_vG1 rfl rfl inferInstance (fun hg hgp => (rk_pick_or' hg (.ofg hg rfl) rfl)) rfl ?_; refine tr_vG1 rfl rfl inferInstance (fun hg hgp => (rk_move (.ofg hg rfl))) rfl ?_; refine tr_vG rfl rfl inferInstance (fun hg hgp => (rk_indexAddrA (.of rfl) (.of rfl) (by omega) (by omega) norm1_)) rfl ?_; refine tr_vG rfl rfl inferInstance (fun hg hgp => (rk_load1 (.ofg hg rfl) (At.lit .here rfl))) rfl ?_; refine tr_vG rfl rfl inferInstance (fun hg hgp => (rk_move (.of rfl))) rfl ?_; refine tr_vG rfl rfl inferInstance (fun hg hgp => (rk_gtr (.ofg hg rfl) (.ofg hg rfl))) rfl ?_; refine tr_vG1 rfl rfl inferInstance (fun hg hgp => (rk_pick_or' hg (.ofg hg rfl) rfl)) rfl ?_; refine tr_val (rk_pick_and (.of rfl) rfl) rfl ?_; refine n_t ?_; refine c_b rfl (fun _ => by omega) (fun hcd => ?_); refine s_t ?_; refine s_r ?_; refine tr_val (rk_loadB (.of rfl) (.there (.there (.there (.there (.there (.there (.there (.there (.there (.there (.there (.there (.there (.there (.there (.there (.there (.there (.there .here))))))))))))))))))) norm_ (by rfl)) rfl ?_)
  clear hcd
  with_reducible apply tr_call
  case hr => exact rk_call (.of rfl) (.cons (.of rfl) .nil) inferInstance normc_
  case hd => rfl
  case ht => exact Takes.nil
  case hc =>
    intro w1 fp hm1 _ hs1
    obtain rfl : fp = [] := hs1
    exact hgv w1 hm1.keeps
  rintro ⟨x51, x52, x53⟩ _
  dsimp only [id_eq, List.cons_append, List.nil_append]
  with_reducible apply tr_callV
  case hr => exact rk_call (.of rfl) (.cons (.of rfl) .nil) inferInstance normc_
  case hd => rfl
  case hc =>
    intro w' hm'
    exact hPr x51 x52 x53 w' (Mem.rdRow hm' (E := 218) (v := x51) (by exact .here) rfl (spsL_sz _) (spsL_length _)) (Mem.rdRow hm' (E := 3) (v := x52) (by exact Take.there .here) rfl (ints_sz _) (ints_length _)) (Mem.rdRowE hm' (E := 121) (v := x53) (by exact Take.there (.there .here)) rfl (prsL_sz _) (prsL_length _))
  obtain ⟨PP1, PP2⟩ := PP
  dsimp only at hpc2 ⊢
  (refine m_v rfl rfl ?_; refine tr_val (rk_extract (.of rfl) rfl) rfl ?_; refine tr_val (rk_extract (.of rfl) rfl) rfl ?_; refine tr_new (rk_alloc rfl) rfl (fun _ _ => ?_); refine tr_store (.of rfl) (.of rfl) .here rfl rfl (okc_cons rfl (okc_cons rfl okc_nil)) (lenb rfl) norm_ ?_; refine a_s rfl rfl ?_; refine n_t ?_; refine tr_seq ?_; refine s_r ?_; refine m_v rfl rfl ?_; refine tr_val (rk_neq (.of rfl) (.of rfl)) rfl ?_; refine m_v rfl rfl ?_; refine tr_vG1 rfl rfl inferInstance (fun hg hgp => (rk_loadB (.of rfl) .here norm_ (by rfl))) rfl ?_; refine tr_callVG1 rfl rfl (fun hg => (rk_call (.of rfl) (.cons (.ofg hg rfl) .nil) inferInstance normc_)) rfl (fun hg w' hm' => (hpc2 w')) ?_; refine tr_vG1 rfl rfl inferInstance (fun hg hgp => (rk_neq (.ofg hg rfl) (.of rfl))) rfl ?_; refine tr_val (rk_pick_or (.of rfl) rfl) rfl ?_; refine n_t ?_; refine c_d rfl (fun _ => by omega) (fun hcd => ?_); refine s_t ?_; refine tr_seq ?_)
  clear hcd
  rename_i b16 hb16
  have hbq1 := hBd
  with_reducible refine tr_drawM 9 (by kernel_rfl) ?_
  refine am_val (fun β => (rk_loadB (.of rfl) (.there (.there (.there (.there (.there (.there (.there (.there (.there (.there (.there (.there (.there (.there (.there (.there (.there (.there (.there (.there (.there (.there (.there .here))))))))))))))))))))))) norm_ (by rfl))) ind0 rfl ?_
  dsimp only [Nat.zero_add, Nat.reduceAdd]
  with_reducible apply am_call (ι := Value × Value × Value) (Φ := fun _ => True) (val := fun x => .agg #[.int .i64 b.n, x.1, x.2.1, x.2.2]) (own := fun x => [row 218 4 x.1 b.sp.length (spsL b.sp).flatten, row 3 1 x.2.1 b.cm.length (ints b.cm).flatten, rowE 121 2 x.2.2 b.ex.length (prsL b.ex).flatten]) (g := g3b) (B := []) (args := fun _ => [.agg #[.int .i64 b.n, .slice a b.sp.length cap, .slice a2 b.cm.length cap2, xv]])
  case hg => exact g3b_of
  case hB => rfl
  case hr => exact fun β => rk_call (.of rfl) (.cons (.of rfl) .nil) inferInstance rfl
  case hd => rfl
  case hc => exact fun β w' hb => hgv w' hb.mem.keeps
  refine am_val (fun β => (rk_loadB (.of rfl) .here norm_ (by rfl))) ind0 rfl ?_
  dsimp only [Nat.reduceAdd]
  with_reducible apply am_callV (B := [1]) (F := fun _ => .tuple #[.int .i64 (bndF b (PP1, PP2)), .int .i64 0]) (args := fun β => [.agg #[.int .i64 b.n, (g3b (β 1)).1, (g3b (β 1)).2.1, (g3b (β 1)).2.2], .agg #[.int .i64 (PP1, PP2).1, .int .i64 (PP1, PP2).2]])
  case hB => kernel_rfl
  case hr => exact fun β => rk_call (.of rfl) (.cons (.of rfl) (.cons (.of rfl) .nil)) inferInstance rfl
  case hi => exact ind0
  case hd => rfl
  case hc =>
    intro β w' hb
    have hm' := hb.at 1 List.mem_cons_self rfl
    dsimp only [List.cons_append, List.nil_append] at hm'
    exact hBd _ _ _ (PP1, PP2) w' hbdP (Mem.rdRow hm' (E := 218) (by exact .here) rfl (spsL_sz _) (spsL_length _)) (Mem.rdRow hm' (E := 3) (by exact Take.there .here) rfl (ints_sz _) (ints_length _)) (Mem.rdRowE hm' (E := 121) (by exact Take.there (.there .here)) rfl (prsL_sz _) (prsL_length _))
  (refine am_val (fun β => (rk_move (.of rfl))) ind0 rfl ?_; refine am_val (fun β => (rk_extract (.of rfl) rfl)) ind0 rfl ?_; refine am_val (fun β => (rk_extract (.of rfl) rfl)) ind0 rfl ?_; refine am_val (fun β => (rk_assign (.of rfl))) ind0 rfl ?_; refine am_val (fun β => (rk_assign (.of rfl))) ind0 rfl ?_)
  refine am_end fun β => ?_
  dsimp only [resAll, List.nil_append, List.cons_append, List.append_eq, Nat.reduceAdd]
  generalize g3b (β 1) = y3
  clear β
  with_reducible refine left_done (by kernel_rfl) ?_
  (refine tr_then ?_; refine tr_seq ?_)
  have hbq2 := hBd
  with_reducible refine tr_drawM 9 (by kernel_rfl) ?_
  refine am_val (fun β => (rk_loadB (.of rfl) (.there (.there (.there (.there (.there (.there (.there (.there (.there (.there (.there (.there (.there (.there (.there (.there (.there (.there (.there (.there (.there (.there (.there (.there (.there (.there .here)))))))))))))))))))))))))) norm_ (by rfl))) ind0 rfl ?_
  dsimp only [Nat.zero_add, Nat.reduceAdd]
  with_reducible apply am_call (ι := Value × Value × Value) (Φ := fun _ => True) (val := fun x => .agg #[.int .i64 b.n, x.1, x.2.1, x.2.2]) (own := fun x => [row 218 4 x.1 b.sp.length (spsL b.sp).flatten, row 3 1 x.2.1 b.cm.length (ints b.cm).flatten, rowE 121 2 x.2.2 b.ex.length (prsL b.ex).flatten]) (g := g3b) (B := []) (args := fun _ => [.agg #[.int .i64 b.n, .slice a b.sp.length cap, .slice a2 b.cm.length cap2, xv]])
  case hg => exact g3b_of
  case hB => rfl
  case hr => exact fun β => rk_call (.of rfl) (.cons (.of rfl) .nil) inferInstance rfl
  case hd => rfl
  case hc => exact fun β w' hb => hgv w' hb.mem.keeps
  refine am_val (fun β => (rk_loadB (.of rfl) (.there (.there (.there (.there (.there (.there (.there (.there (.there (.there (.there (.there (.there (.there (.there (.there (.there (.there (.there (.there (.there (.there (.there (.there (.there .here))))))))))))))))))))))))) norm_ (by rfl))) ind0 rfl ?_
  dsimp only [Nat.reduceAdd]
  with_reducible apply am_callV (B := [1]) (F := fun _ => .tuple #[.int .i64 (bndF b p), .int .i64 0]) (args := fun β => [.agg #[.int .i64 b.n, (g3b (β 1)).1, (g3b (β 1)).2.1, (g3b (β 1)).2.2], .agg #[.int .i64 p.1, .int .i64 p.2]])
  case hB => kernel_rfl
  case hr => exact fun β => rk_call (.of rfl) (.cons (.of rfl) (.cons (.of rfl) .nil)) inferInstance rfl
  case hi => exact ind0
  case hd => rfl
  case hc =>
    intro β w' hb
    have hm' := hb.at 1 List.mem_cons_self rfl
    dsimp only [List.cons_append, List.nil_append] at hm'
    exact hBd _ _ _ p w' hbdp (Mem.rdRow hm' (E := 218) (by exact .here) rfl (spsL_sz _) (spsL_length _)) (Mem.rdRow hm' (E := 3) (by exact Take.there .here) rfl (ints_sz _) (ints_length _)) (Mem.rdRowE hm' (E := 121) (by exact Take.there (.there .here)) rfl (prsL_sz _) (prsL_length _))
  (refine am_val (fun β => (rk_move (.of rfl))) ind0 rfl ?_; refine am_val (fun β => (rk_extract (.of rfl) rfl)) ind0 rfl ?_; refine am_val (fun β => (rk_extract (.of rfl) rfl)) ind0 rfl ?_; refine am_val (fun β => (rk_assign (.of rfl))) ind0 rfl ?_; refine am_val (fun β => (rk_assign (.of rfl))) ind0 rfl ?_)
  refine am_end fun β => ?_
  dsimp only [resAll, List.nil_append, List.cons_append, List.append_eq, Nat.reduceAdd]
  generalize g3b (β 1) = y3
  clear β
  with_reducible refine left_done (by kernel_rfl) ?_
  (refine tr_then ?_; refine s_r ?_; refine tr_val (rk_loadB (.of rfl) (.there (.there (.there (.there (.there (.there (.there (.there (.there (.there (.there (.there (.there (.there (.there (.there (.there (.there (.there (.there (.there (.there (.there (.there (.there (.there (.there (.there (.there .here))))))))))))))))))))))))))))) norm_ (by rfl)) rfl ?_)
  with_reducible apply tr_call
  case hr => exact rk_call (.of rfl) (.cons (.of rfl) .nil) inferInstance normc_
  case hd => rfl
  case ht => exact Takes.nil
  case hc =>
    intro w1 fp hm1 _ hs1
    obtain rfl : fp = [] := hs1
    exact hgv w1 hm1.keeps
  rintro ⟨x61, x62, x63⟩ _
  dsimp only [id_eq, List.cons_append, List.nil_append]
  refine tr_val (rk_buildL (.cons (.of rfl) .nil) norm_) rfl ?_
  with_reducible apply tr_callV
  case hr => exact rk_call (.of rfl) (.cons (.of rfl) (.cons (.of rfl) .nil)) inferInstance normc_
  case hd => rfl
  case hc =>
    intro w' hm'
    exact hBd x61 x62 x63 (0, 1) w' hbd0 (Mem.rdRow hm' (E := 218) (v := x61) (by exact .here) rfl (spsL_sz _) (spsL_length _)) (Mem.rdRow hm' (E := 3) (v := x62) (by exact Take.there .here) rfl (ints_sz _) (ints_length _)) (Mem.rdRowE hm' (E := 121) (v := x63) (by exact Take.there (.there .here)) rfl (prsL_sz _) (prsL_length _))
  (refine m_v rfl rfl ?_; refine tr_val (rk_extract (.of rfl) rfl) rfl ?_; refine tr_val (rk_extract (.of rfl) rfl) rfl ?_; refine a_s rfl rfl ?_; refine a_s rfl rfl ?_; refine n_t ?_; refine tr_seq ?_; refine s_r ?_; refine m_v rfl rfl ?_; refine tr_val (rk_neq (.of rfl) (.of rfl)) rfl ?_; refine m_v rfl rfl ?_; refine v_g rfl rfl rfl rfl ?_; refine tr_vG1 rfl rfl inferInstance (fun hg hgp => (rk_neq (.ofg hg rfl) (.of rfl))) rfl ?_; refine tr_val (rk_pick_or (.of rfl) rfl) rfl ?_; refine m_v rfl rfl ?_; refine v_g rfl rfl rfl rfl ?_; refine tr_vG1 rfl rfl inferInstance (fun hg hgp => (rk_neq (.ofg hg rfl) (.of rfl))) rfl ?_; refine tr_val (rk_pick_or (.of rfl) rfl) rfl ?_; refine m_v rfl rfl ?_; refine tr_vG1 rfl rfl inferInstance (fun hg hgp => (rk_indexAddrA (.of rfl) (.of rfl) (by omega) (by omega) norm1_)) rfl ?_; refine tr_vG1 rfl rfl inferInstance (fun hg hgp => (rk_load1 (.ofg hg rfl) (At.lit (.there (.there (.there (.there (.there (.there (.there (.there (.there (.there (.there (.there (.there (.there (.there (.there (.there (.there (.there (.there (.there (.there (.there (.there (.there (.there .here)))))))))))))))))))))))))) rfl))) rfl ?_; refine v_g rfl rfl rfl rfl ?_; refine tr_vG1 rfl rfl inferInstance (fun hg hgp => (rk_gtr (.ofg hg rfl) (.ofg hg rfl))) rfl ?_; refine tr_val (rk_pick_or (.of rfl) rfl) rfl ?_; refine m_v rfl rfl ?_; refine tr_vG1 rfl rfl inferInstance (fun hg hgp => (rk_indexAddrA (.of rfl) (.of rfl) (by omega) (by omega) norm1_)) rfl ?_; refine tr_vG1 rfl rfl inferInstance (fun hg hgp => (rk_load1 (.ofg hg rfl) (At.lit (.there (.there (.there (.there (.there (.there (.there (.there (.there (.there (.there (.there (.there (.there (.there (.there (.there (.there (.there (.there (.there (.there (.there (.there (.there (.there .here)))))))))))))))))))))))))) rfl))) rfl ?_; refine v_g rfl rfl rfl rfl ?_; refine tr_vG1 rfl rfl inferInstance (fun hg hgp => (rk_gtr (.ofg hg rfl) (.ofg hg rfl))) rfl ?_; refine tr_val (rk_pick_or (.of rfl) rfl) rfl ?_; refine m_v rfl rfl ?_; refine v_g rfl rfl rfl rfl ?_; refine v_g rfl rfl rfl rfl ?_; refine tr_vG1 rfl rfl inferInstance (fun hg hgp => (rk_lss (.ofg hg rfl) (.ofg hg rfl))) rfl ?_; refine tr_val (rk_pick_or (.of rfl) rfl) rfl ?_; refine n_t ?_; refine c_b rfl (fun _ => by omega) (fun hcd => ?_); refine s_t ?_; refine tr_seq ?_; refine s_r ?_; refine f_a rfl rfl norm0_ ?_; refine tr_val (rk_load1 (.of rfl) (At.lit (.there (.there (.there (.there (.there (.there (.there (.there (.there (.there (.there (.there (.there (.there (.there (.there (.there (.there (.there (.there (.there (.there (.there (.there (.there (.there (.there (.there (.there (.there (.there (.there .here)))))))))))))))))))))))))))))))) rfl)) rfl ?_; refine tr_val (rk_len_slice (.of rfl)) rfl ?_; refine m_v rfl rfl ?_; refine n_t ?_; refine tr_block ?_)
  clear hcd hmx hbq1 hbq2
  refine tr_for (ι := Nat) (fun i => i ≤ b.sp.length) (fun i => [(214, .int .i64 (i : Int)), (3, .pointer (some ⟨b3, 0, none⟩)), (8, .pointer (some ⟨b8, 0, none⟩)), (10, .int .i64 FU), (18, .int .i64 (bndF b (PP1, PP2))), (212, .slice a b.sp.length cap), (213, .int .i64 (b.sp.length : Int))]) (fun _ => [blk b8 (.cells #[.int .i64 bV, .int .i64 bL] 121), blk b3 (.cells #[.int .i64 b.n, .slice a b.sp.length cap, .slice a2 b.cm.length cap2, xv] 83)]) (fun i => b.sp.length - i) ?_ ?_
  · apply tr_start (0 : Nat) (show (0 : Nat) ≤ b.sp.length from Nat.zero_le _)
    case hs1 => exact .cons rfl (.cons rfl (.cons rfl (.cons rfl (.cons rfl (.cons rfl (.cons rfl .nil))))))
    case ht => exact .cons (.there (.there (.there (.there (.there (.there (.there (.there (.there (.there (.there (.there (.there (.there (.there (.there (.there (.there (.there (.there (.there (.there (.there (.there (.there (.there .here)))))))))))))))))))))))))) (.cons (.there (.there (.there (.there (.there (.there (.there (.there (.there (.there (.there (.there (.there (.there (.there (.there (.there (.there (.there (.there (.there (.there (.there (.there (.there (.there (.there (.there (.there (.there (.there .here))))))))))))))))))))))))))))))) .nil)
  intro i hi
  by_cases hlt : i < b.sp.length
  · have ha' := ha (spsL_ne hlt)
    have hcell := (hc i _ (spsL_get hlt)).2
    have hmem := nthS_mem hlt
    have hv := hok.vl _ hmem
    have hl := hok.ln _ hmem
    have hcp := hok.cp _ hmem
    have hone := cfE_one hz hlt
    have hbi := hbS i hlt
    have hbz := hzS i hlt
    have hlow : ∀ w', GivesV Tryz.prog 60 [.int .i64 (nthS b.sp i).vl, .int .i64 (nthS b.sp i).ln] w' (.agg #[.int .i64 (lowF (nthS b.sp i).vl (nthS b.sp i).ln).1, .int .i64 (lowF (nthS b.sp i).vl (nthS b.sp i).ln).2]) := fun w' => lowQ_c _ _ _ (by omega) (by omega) (by omega) (by omega)
    have hcl : (nthS b.sp i).cp.toNat < b.cm.length := by omega
    have ha2' := ha2 (ints_ne hcl)
    have c5 : w.cell? ⟨bs2, os2 + (nthS b.sp i).cp.toNat * 1, none⟩ = some (.int .i64 (cmO b (nthS b.sp i).cp)) := by
      have := (hc2 _ _ (ints_get hcl)).2 0 _ rfl
      rwa [show b.cm[(nthS b.sp i).cp.toNat] = cmO b (nthS b.sp i).cp by simp [cmO, List.getD_eq_getElem?_getD, hcl]] at this
    generalize lowF (nthS b.sp i).vl (nthS b.sp i).ln = lo at hlow hbi hbz
    obtain ⟨lo1, lo2⟩ := lo
    unfold Sp.cells at hcell
    (refine s_r ?_; refine tr_val (rk_lss (.of rfl) (.of rfl)) rfl ?_; refine n_t ?_; refine tr_seq ?_; refine c_d rfl (fun hcd => ?_) (fun _ => by omega); refine s_t ?_; refine tr_seq ?_; refine tr_block ?_; refine s_r ?_; refine m_v rfl rfl ?_; refine tr_val (rk_indexAddr (.of rfl) (.of rfl) ha' (by omega) hcd norm1_) rfl ?_; refine tr_val (rk_loadN (.of rfl) (Ats.base hcell rfl) rfl) rfl ?_; refine tr_new (rk_alloc rfl) rfl (fun _ _ => ?_); refine a_s rfl rfl ?_; refine tr_store (.of rfl) (.of rfl) .here rfl rfl (okc_cons rfl (okc_cons rfl (okc_cons rfl (okc_cons rfl okc_nil)))) (lenb rfl) norm_ ?_; refine n_t ?_; refine tr_seq ?_)
    rename_i b25 hb25
    with_reducible refine tr_drawM 13 (by kernel_rfl) ?_
    refine am_val (fun β => (rk_loadB (.of rfl) (.there (.there .here)) norm_ (by rfl))) ind0 rfl ?_
    dsimp only [Nat.zero_add, Nat.reduceAdd]
    with_reducible apply am_call (ι := Value × Value × Value) (Φ := fun _ => True) (val := fun x => .agg #[.int .i64 b.n, x.1, x.2.1, x.2.2]) (own := fun x => [row 218 4 x.1 b.sp.length (spsL b.sp).flatten, row 3 1 x.2.1 b.cm.length (ints b.cm).flatten, rowE 121 2 x.2.2 b.ex.length (prsL b.ex).flatten]) (g := g3b) (B := []) (args := fun _ => [.agg #[.int .i64 b.n, .slice a b.sp.length cap, .slice a2 b.cm.length cap2, xv]])
    case hg => exact g3b_of
    case hB => rfl
    case hr => exact fun β => rk_call (.of rfl) (.cons (.of rfl) .nil) inferInstance rfl
    case hd => rfl
    case hc => exact fun β w' hb => hgv w' hb.mem.keeps
    (refine am_val (fun β => (rk_fieldAddr (.of rfl) norm0_)) ind0 rfl ?_; refine am_val (fun β => (rk_load1 (.of rfl) (At.lit .here rfl))) ind0 rfl ?_; refine am_val (fun β => (rk_fieldAddr (.of rfl) norm0_)) ind0 rfl ?_; refine am_val (fun β => (rk_load1 (.of rfl) (At.lit .here rfl))) ind0 rfl ?_)
    dsimp only [Nat.reduceAdd]
    with_reducible apply am_callV (B := []) (F := fun _ => .agg #[.int .i64 lo1, .int .i64 lo2]) (args := fun _ => [.int .i64 (nthS b.sp i).vl, .int .i64 (nthS b.sp i).ln])
    case hB => rfl
    case hr => exact fun β => rk_call (.of rfl) (.cons (.of rfl) (.cons (.of rfl) .nil)) inferInstance rfl
    case hi => exact ind0
    case hd => rfl
    case hc => exact fun β w' hb => hlow w'
    dsimp only [Nat.reduceAdd]
    with_reducible apply am_callV (B := [1]) (F := fun _ => .tuple #[.int .i64 (bndF b (lo1, lo2)), .int .i64 0]) (args := fun β => [.agg #[.int .i64 b.n, (g3b (β 1)).1, (g3b (β 1)).2.1, (g3b (β 1)).2.2], .agg #[.int .i64 lo1, .int .i64 lo2]])
    case hB => kernel_rfl
    case hr => exact fun β => rk_call (.of rfl) (.cons (.of rfl) (.cons (.of rfl) .nil)) inferInstance rfl
    case hi => exact ind0
    case hd => rfl
    case hc =>
      intro β w' hb
      have hm' := hb.at 1 List.mem_cons_self rfl
      dsimp only [List.cons_append, List.nil_append] at hm'
      exact hBd _ _ _ (lo1, lo2) w' hbz (Mem.rdRow hm' (E := 218) (by exact .here) rfl (spsL_sz _) (spsL_length _)) (Mem.rdRow hm' (E := 3) (by exact Take.there .here) rfl (ints_sz _) (ints_length _)) (Mem.rdRowE hm' (E := 121) (by exact Take.there (.there .here)) rfl (prsL_sz _) (prsL_length _))
    (refine am_val (fun β => (rk_move (.of rfl))) ind0 rfl ?_; refine am_val (fun β => (rk_extract (.of rfl) rfl)) ind0 rfl ?_; refine am_val (fun β => (rk_extract (.of rfl) rfl)) ind0 rfl ?_; refine am_val (fun β => (rk_assign (.of rfl))) ind0 rfl ?_; refine am_val (fun β => (rk_assign (.of rfl))) ind0 rfl ?_)
    refine am_end fun β => ?_
    dsimp only [resAll, List.nil_append, List.cons_append, List.append_eq, Nat.reduceAdd]
    generalize g3b (β 1) = y3
    clear β
    with_reducible refine left_done (by kernel_rfl) ?_
    (refine tr_then ?_; refine tr_seq ?_; refine s_r ?_; refine m_v rfl rfl ?_; refine tr_val (rk_neq (.of rfl) (.of rfl)) rfl ?_; refine m_v rfl rfl ?_; refine v_g rfl rfl rfl rfl ?_; refine v_g rfl rfl rfl rfl ?_; refine tr_vG1 rfl rfl inferInstance (fun hg hgp => (rk_lss (.ofg hg rfl) (.ofg hg rfl))) rfl ?_; refine tr_val (rk_pick_or (.of rfl) rfl) rfl ?_; refine n_t ?_; refine c_d rfl (fun _ => by omega) (fun hcd => ?_); refine s_t ?_; refine s_r ?_; refine f_a rfl rfl norm0_ ?_; refine tr_val (rk_load1 (.of rfl) (At.lit (.there (.there (.there .here))) rfl)) rfl ?_; refine f_a rfl rfl norm0_ ?_; refine tr_val (rk_load1 (.of rfl) (At.lit (.there (.there (.there (.there (.there .here))))) rfl)) rfl ?_; refine tr_val (rk_leq (.of rfl) (.of rfl)) rfl ?_; refine m_v rfl rfl ?_; refine tr_vG1 rfl rfl inferInstance (fun hg hgp => (rk_fieldAddr (.of rfl) norm0_)) rfl ?_; refine tr_vG1 rfl rfl inferInstance (fun hg hgp => (rk_load1 (.ofg hg rfl) (At.lit (.there (.there (.there (.there (.there .here))))) rfl))) rfl ?_; refine tr_vG1 rfl rfl inferInstance (fun hg hgp => (rk_fieldAddr (.of rfl) norm0_)) rfl ?_; refine tr_vG1 rfl rfl inferInstance (fun hg hgp => (rk_load1 (.ofg hg rfl) (At.lit (.there (.there (.there .here))) rfl))) rfl ?_; refine tr_vG1 rfl rfl inferInstance (fun hg hgp => (rk_indexAddr (.ofg hg rfl) (.ofg hg rfl) ha2' (by omega) (by omega) norm1_)) rfl ?_; refine tr_vG1 rfl rfl inferInstance (fun hg hgp => (rk_load1 (.ofg hg rfl) (At.base c5 rfl))) rfl ?_; refine tr_vG1 rfl rfl inferInstance (fun hg hgp => (rk_gtr (.ofg hg rfl) (.of rfl))) rfl ?_; refine tr_val (rk_pick_and (.of rfl) rfl) rfl ?_; refine n_t ?_; refine c_b rfl (fun hcd => ?_) (fun hcd => ?_); refine s_r ?_; refine tr_val (rk_loadB (.of rfl) (.there (.there (.there (.there (.there .here))))) norm_ (by rfl)) rfl ?_; rotate_left; refine tr_skip ?_; refine tr_blk_normal ?_; refine tr_then ?_; refine tr_region ?_; refine tr_val (rk_add (.of rfl) (.of rfl) (ini (by omega))) rfl ?_; refine m_v rfl rfl ?_; refine n_t ?_; rotate_right)
    · have hn1 : (nthS b.sp i).ln ≤ b.n := by omega
      have hn2 : 0 < cmO b (nthS b.sp i).cp := by omega
      obtain ⟨hs1, hs2⟩ := hone hn1 hn2
      clear hcd
      with_reducible apply tr_call
      case hr => exact rk_call (.of rfl) (.cons (.of rfl) .nil) inferInstance normc_
      case hd => rfl
      case ht => exact Takes.nil
      case hc =>
        intro w1 fp hm1 _ hs1
        obtain rfl : fp = [] := hs1
        exact hgv w1 hm1.keeps
      rintro ⟨x71, x72, x73⟩ _
      dsimp only [id_eq, List.cons_append, List.nil_append]
      (refine m_v rfl rfl ?_; refine tr_new (rk_sliceLit (.cons (.of rfl) .nil) rfl rfl rfl rfl) rfl (fun _ _ => ?_))
      rename_i bq hbq
      with_reducible apply tr_callV
      case hr => exact rk_call (.of rfl) (.cons (.of rfl) (.cons (.of rfl) .nil)) inferInstance normc_
      case hd => rfl
      case hc =>
        intro w' hm'
        exact checkFill_c (ol := [(i : Int)]) (Mem.rdRow hm' (E := 218) (v := x71) (by exact Take.there .here) rfl (spsL_sz _) (spsL_length _)) (Mem.rdRow hm' (E := 3) (v := x72) (by exact Take.there (.there .here)) rfl (ints_sz _) (ints_length _)) (Mem.rdRowE hm' (E := 121) (v := x73) (by exact Take.there (.there (.there .here))) rfl (prsL_sz _) (prsL_length _)) (Mem.rdBlk hm' (by exact .here) rfl rfl)
      rw [hs1, hs2]
      dsimp only
      (refine m_v rfl rfl ?_; refine tr_val (rk_extract (.of rfl) rfl) rfl ?_; refine tr_val (rk_extract (.of rfl) rfl) rfl ?_; refine tr_new (rk_alloc rfl) rfl (fun _ _ => ?_); refine tr_store (.of rfl) (.of rfl) .here rfl rfl (okc_cons rfl (okc_cons rfl okc_nil)) (lenb rfl) norm_ ?_; refine a_s rfl rfl ?_; refine n_r ?_; refine m_v rfl rfl ?_; refine tr_val (rk_neq (.of rfl) (.of rfl)) rfl ?_; refine m_v rfl rfl ?_; refine tr_vG1 rfl rfl inferInstance (fun hg hgp => (rk_loadB (.of rfl) .here norm_ (by rfl))) rfl ?_; refine tr_vG1 rfl rfl inferInstance (fun hg hgp => (rk_fieldAddr (.of rfl) norm0_)) rfl ?_; refine tr_vG1 rfl rfl inferInstance (fun hg hgp => (rk_load1 (.ofg hg rfl) (At.lit (.there (.there (.there (.there (.there (.there (.there (.there .here)))))))) rfl))) rfl ?_; refine tr_vG1 rfl rfl inferInstance (fun hg hgp => (rk_fieldAddr (.of rfl) norm0_)) rfl ?_; refine tr_vG1 rfl rfl inferInstance (fun hg hgp => (rk_load1 (.ofg hg rfl) (At.lit (.there (.there (.there (.there (.there (.there (.there (.there .here)))))))) rfl))) rfl ?_; refine tr_vG1 rfl rfl inferInstance (fun hg hgp => (rk_buildL (.cons (.ofg hg rfl) (.cons (.ofg hg rfl) .nil)) norm_)) rfl ?_; refine tr_vG1 rfl rfl inferInstance (fun hg hgp => (rk_neqA (.ofg hg rfl) (.ofg hg rfl) (okL_int (okL_int okL_nil)) rfl)) rfl ?_; refine tr_val (rk_pick_or (.of rfl) rfl) rfl ?_; refine n_t ?_; refine c_b rfl (fun hcd => ?_) (fun hcd => ?_); refine s_r ?_; refine a_s rfl rfl ?_; refine n_t ?_; refine tr_ret ?_; refine tr_blk_ret ?_; refine tr_then_ret ?_; refine tr_then_ret ?_; refine tr_blk_ret ?_; refine tr_then_ret ?_; refine tr_retE rfl (ends1 rfl rfl) ?_; rotate_left; refine tr_skip ?_; refine tr_blk_normal ?_; refine tr_then ?_; refine tr_region ?_; refine tr_val (rk_add (.of rfl) (.of rfl) (ini (by omega))) rfl ?_; refine m_v rfl rfl ?_; refine n_t ?_; rotate_right)
      · exact absurd hcd (by simp)
      apply tr_next (i + 1) (show i + 1 ≤ b.sp.length from hlt) (show b.sp.length - (i + 1) < b.sp.length - i by omega)
      case hs1 => exact .cons rfl (.cons rfl (.cons rfl (.cons rfl (.cons rfl (.cons rfl (.cons rfl .nil))))))
      case ht => exact .cons (.there (.there (.there (.there (.there (.there (.there (.there (.there .here))))))))) (.cons (.there (.there (.there (.there (.there (.there (.there (.there (.there .here))))))))) .nil)
    · clear hcd
      apply tr_next (i + 1) (show i + 1 ≤ b.sp.length from hlt) (show b.sp.length - (i + 1) < b.sp.length - i by omega)
      case hs1 => exact .cons rfl (.cons rfl (.cons rfl (.cons rfl (.cons rfl (.cons rfl (.cons rfl .nil))))))
      case ht => exact .cons (.there (.there (.there (.there .here)))) (.cons (.there (.there (.there (.there .here)))) .nil)
  obtain rfl : i = b.sp.length := by omega
  (refine s_r ?_; refine tr_val (rk_lss (.of rfl) (.of rfl)) rfl ?_; refine n_t ?_; refine tr_seq ?_; refine c_d rfl (fun _ => by omega) (fun hcd => ?_); refine x_t ?_; refine tr_then_exit ?_; refine tr_blk_exit ?_; refine tr_then ?_; refine tr_seq ?_; refine s_r ?_; refine f_a rfl rfl norm0_ ?_; refine tr_val (rk_load1 (.of rfl) (At.lit (.there .here) rfl)) rfl ?_; refine tr_val (rk_geq (.of rfl) (.of rfl)) rfl ?_; refine n_t ?_; refine c_d rfl (fun hcd => ?_) (fun hcd => ?_); refine s_r ?_; refine a_s rfl rfl ?_; refine n_t ?_; refine r_t ?_; refine tr_retE rfl (ends1 rfl rfl) ?_; rotate_left; refine s_t ?_; refine s_r ?_; refine tr_val (rk_loadB (.of rfl) (.there .here) norm_ (by rfl)) rfl ?_; rotate_right)
  · rfl
  have hbn : b.n < 100000 := by omega
  clear hcd
  have hzl := brE_long hz hbn
  obtain ⟨hg1, hg2⟩ := hlong hbn
  have hgFill : ∀ (x1 x2 x3 : Value) w', Rd w' x1 4 (spsL b.sp) → Rd w' x2 1 (ints b.cm) → Rd w' x3 2 (prsL b.ex) → Gives Tryz.prog 62 [.agg #[.int .i64 (b.n + 1), x1, x2, x3]] w' [] (fun _ : Value => True) (fun v => .tuple #[v, .agg #[.int .i64 (fiV (longB b)).1, .int .i64 (fiV (longB b)).2], .int .i64 0]) (fun v => [row 3 1 v (fiL (longB b)).length (natsV (fiL (longB b)))]) := fun x1 x2 x3 w' r1 r2 r3 => by
    have := fill_c (b := longB b) r1 r2 r3
    rwa [hzl] at this
  have hgFull : ∀ (x1 x2 x3 : Value) w', Rd w' x1 4 (spsL b.sp) → Rd w' x2 1 (ints b.cm) → Rd w' x3 2 (prsL b.ex) → GivesV Tryz.prog 63 [.agg #[.int .i64 (b.n + 1), x1, x2, x3]] w' (.tuple #[.int .i64 (fuF (longB b)), .int .i64 0]) := fun x1 x2 x3 w' r1 r2 r3 => by
    have := fullest_c (b := longB b) r1 r2 r3
    rwa [hzl] at this
  have hgV : bV ≤ (fiV (longB b)).1 := by rw [fiV, if_pos hzl]; exact hg1
  have hgF : FU ≤ fuF (longB b) := by rw [fuF, if_pos hzl]; exact hg2
  generalize fiV (longB b) = fl at hgFill hgV
  obtain ⟨fl1, fl2⟩ := fl
  generalize fiL (longB b) = fll at hgFill
  generalize fuF (longB b) = flu at hgFull hgF
  dsimp only at hgFill hgV
  with_reducible apply tr_call
  case hr => exact rk_call (.of rfl) (.cons (.of rfl) .nil) inferInstance normc_
  case hd => rfl
  case ht => exact Takes.nil
  case hc =>
    intro w1 fp hm1 _ hs1
    obtain rfl : fp = [] := hs1
    exact hgv w1 hm1.keeps
  rintro ⟨x81, x82, x83⟩ _
  dsimp only [id_eq, List.cons_append, List.nil_append]
  refine tr_rowSl (E := 218) (sz := 4) (v := x81) (by exact .here) fun ya yc e => ?_
  subst e
  refine tr_rowSl (E := 3) (sz := 1) (v := x82) (by exact Take.there .here) fun za zc e => ?_
  subst e
  refine tr_rowESl (E := 121) (sz := 2) (v := x83) (by exact Take.there (.there .here)) fun ua uc e => ?_
  subst e
  (refine tr_new (rk_alloc rfl) rfl (fun _ _ => ?_); refine tr_store (.of rfl) (.of rfl) .here rfl rfl (okc_cons rfl (okc_cons rfl (okc_cons rfl (okc_cons rfl okc_nil)))) (lenb rfl) norm_ ?_; refine n_r ?_; refine f_a rfl rfl norm0_ ?_; refine tr_val (rk_load1 (.of rfl) (At.lit .here rfl)) rfl ?_; refine tr_val (rk_add (.of rfl) (.of rfl) (ini (by omega))) rfl ?_; refine f_a rfl rfl norm0_ ?_; refine tr_store (.of rfl) (.of rfl) .here rfl rfl (okc_cons rfl okc_nil) (lenb rfl) norm_ ?_; refine n_r ?_; refine tr_val (rk_loadB (.of rfl) .here norm_ (by rfl)) rfl ?_)
  with_reducible apply tr_call
  case hr => exact rk_call (.of rfl) (.cons (.of rfl) .nil) inferInstance normc_
  case hd => rfl
  case ht => exact Takes.nil
  case hc =>
    intro w1 fp hm1 _ hs1
    obtain rfl : fp = [] := hs1
    exact hgFill _ _ _ w1 (Mem.rdRow hm1 (E := 218) (v := (.slice ya b.sp.length yc)) (by exact Take.there .here) rfl (spsL_sz _) (spsL_length _)) (Mem.rdRow hm1 (E := 3) (v := (.slice za b.cm.length zc)) (by exact Take.there (.there .here)) rfl (ints_sz _) (ints_length _)) (Mem.rdRowE hm1 (E := 121) (v := (.slice ua b.ex.length uc)) (by exact Take.there (.there (.there .here))) rfl (prsL_sz _) (prsL_length _))
  intro fv2 _
  dsimp only [id_eq, List.cons_append, List.nil_append]
  (refine m_v rfl rfl ?_; refine tr_val (rk_extract (.of rfl) rfl) rfl ?_; refine tr_val (rk_extract (.of rfl) rfl) rfl ?_; refine tr_val (rk_extract (.of rfl) rfl) rfl ?_; refine tr_new (rk_alloc rfl) rfl (fun _ _ => ?_); refine a_s rfl rfl ?_; refine tr_store (.of rfl) (.of rfl) .here rfl rfl (okc_cons rfl (okc_cons rfl okc_nil)) (lenb rfl) norm_ ?_; refine a_s rfl rfl ?_; refine n_r ?_; refine tr_val (rk_loadB (.of rfl) (.there (.there .here)) norm_ (by rfl)) rfl ?_)
  with_reducible apply tr_callV
  case hr => exact rk_call (.of rfl) (.cons (.of rfl) .nil) inferInstance normc_
  case hd => rfl
  case hc =>
    intro w' hm'
    exact hgFull _ _ _ w' (Mem.rdRow hm' (E := 218) (v := (.slice ya b.sp.length yc)) (by exact Take.there (.there (.there .here))) rfl (spsL_sz _) (spsL_length _)) (Mem.rdRow hm' (E := 3) (v := (.slice za b.cm.length zc)) (by exact Take.there (.there (.there (.there .here)))) rfl (ints_sz _) (ints_length _)) (Mem.rdRowE hm' (E := 121) (v := (.slice ua b.ex.length uc)) (by exact Take.there (.there (.there (.there (.there .here))))) rfl (prsL_sz _) (prsL_length _))
  (refine m_v rfl rfl ?_; refine tr_val (rk_extract (.of rfl) rfl) rfl ?_; refine tr_val (rk_extract (.of rfl) rfl) rfl ?_; refine a_s rfl rfl ?_; refine a_s rfl rfl ?_; refine n_r ?_; refine m_v rfl rfl ?_; refine tr_val (rk_eql (.of rfl) (.of rfl)) rfl ?_; refine m_v rfl rfl ?_; refine v_g rfl rfl rfl rfl ?_; refine tr_vG1 rfl rfl inferInstance (fun hg hgp => (rk_eql (.ofg hg rfl) (.of rfl))) rfl ?_; refine tr_val (rk_pick_and (.of rfl) rfl) rfl ?_; refine m_v rfl rfl ?_; refine tr_vG1 rfl rfl inferInstance (fun hg hgp => (rk_indexAddrA (.of rfl) (.of rfl) (by omega) (by omega) norm1_)) rfl ?_; refine tr_vG1 rfl rfl inferInstance (fun hg hgp => (rk_load1 (.ofg hg rfl) (At.lit .here rfl))) rfl ?_; refine tr_vG1 rfl rfl inferInstance (fun hg hgp => (rk_indexAddrA (.of rfl) (.of rfl) (by omega) (by omega) norm1_)) rfl ?_; refine tr_vG1 rfl rfl inferInstance (fun hg hgp => (rk_load1 (.ofg hg rfl) (At.lit (.there (.there (.there (.there (.there (.there .here)))))) rfl))) rfl ?_; refine tr_vG1 rfl rfl inferInstance (fun hg hgp => (rk_geq (.ofg hg rfl) (.ofg hg rfl))) rfl ?_; refine tr_val (rk_pick_and (.of rfl) rfl) rfl ?_; refine m_v rfl rfl ?_; refine v_g rfl rfl rfl rfl ?_; refine v_g rfl rfl rfl rfl ?_; refine tr_vG1 rfl rfl inferInstance (fun hg hgp => (rk_geq (.ofg hg rfl) (.ofg hg rfl))) rfl ?_; refine tr_val (rk_pick_and (.of rfl) rfl) rfl ?_; refine a_s rfl rfl ?_; refine n_t ?_; refine tr_ret ?_; refine tr_retE rfl (ends1 rfl rfl) ?_)
  rw [decide_eq_true hgV, decide_eq_true hgF]; rfl
end Go.Proofs.A1

