/- Parts of the proof: R10 R11 Q2p S66. -/
import Derived.Test.YtfbgbipclgljaaaGreatDoorLM25
import Derived.Test.YtfbgbipclgljaaaGreatDoorLM06
set_option linter.unusedSectionVars false
set_option linter.unusedVariables false
set_option linter.unusedSimpArgs false
/- R10 -/
namespace Go.Proofs.A1
open Go Go.SL

/-- one more entry behind those that were put in -/
theorem chg_snoc {es l : List En} {a : Nat} (x : En) (ha : a ≤ es.length) : chg (chg es a a l) (a + l.length) (a + l.length) [x] = chg es a a (l ++ [x]) := by
  have e : chg es a a l = (es.take a ++ l) ++ es.drop a := by simp [chg]
  have hl : (es.take a ++ l).length = a + l.length := by rw [List.length_append, List.length_take]; omega
  have h1 : (chg es a a l).take (a + l.length) = es.take a ++ l := by rw [e, ← hl, List.take_left]
  have h2 : (chg es a a l).drop (a + l.length) = es.drop a := by rw [e, ← hl, List.drop_left]
  rw [chg, h1, h2]
  simp [chg]
def pqE (es : List En) (b : Br) (o : List Nat) (g : Int × Int × Int) : Int := if b.n ≠ g.2.2 - g.2.1 then 2 else chkF (chg es (g.1.toNat + 1) (g.1.toNat + 1) (plEn b g.2.1 o o.length))
def pqL (es : List En) (b : Br) (o : List Nat) (g : Int × Int × Int) : List En := if pqE es b o g = 0 then chg es (g.1.toNat + 1) (g.1.toNat + 1) (plEn b g.2.1 o o.length) else []
set_option maxHeartbeats 2000000 in
theorem placedQ_c {sv pv cv xv ov : Value} {es : List En} {b : Br} {k0 : Nat} {o : List Nat} {w : World} (h1 : Rd w sv 6 (ensL es)) (h2 : Rd w pv 4 (spsL b.sp)) (hone3 : cv.oneCell' = true) (hone4 : xv.oneCell' = true) (h5 : Rd w ov 1 (natsL o)) (hs : Sound es) (hk0 : k0 < (gpL es es.length).length) (hb : BrOk b) (ho : ∀ i ∈ o, i < b.sp.length) (ho8 : o.length ≤ 8) :
    Gives Tryz.prog 57 [.agg #[sv], .int .i64 (k0 : Int), .agg #[.int .i64 b.n, pv, cv, xv], ov] w [] (fun _ : Value => True) (fun v => .tuple #[.agg #[v], .int .i64 (pqE es b o (plGap es k0))]) (fun v => [row 115 6 v (pqL es b o (plGap es k0)).length (ensL (pqL es b o (plGap es k0))).flatten]) := by
  have hfew := hs.all.few
  have h1' := h1
  have h2' := h2
  have h5' := h5
  obtain ⟨a, cap, bs, os, rfl, hcap, hmax, ha, hc⟩ := h1'
  obtain ⟨a2, cap2, bs2, os2, rfl, hcap2, hmax2, ha2, hc2⟩ := h2'
  obtain ⟨a5, cap5, bs5, os5, rfl, hcap5, hmax5, ha5, hc5⟩ := h5'
  rw [ensL_length] at *
  rw [spsL_length] at *
  rw [natsL_length] at *
  unfold maxLen at hmax hmax2 hmax5
  have hgk : (gpL es es.length)[k0]? = some (plGap es k0) := by simp [plGap, hk0]
  have hgin := gpL_in hs es.length (Nat.le_refl _) _ (List.mem_of_getElem? hgk)
  generalize hgv : plGap es k0 = gv at hgk hgin
  obtain ⟨ga, gf, gt⟩ := gv
  dsimp only at hgin
  obtain ⟨n, rfl⟩ : ∃ n : Nat, ga = n := ⟨ga.toNat, by omega⟩
  refine gives_of_tr Tryz.func57 rfl rfl ?_
  (refine s_r ?_; refine tr_new (rk_box (.of rfl) rfl) rfl (fun _ _ => ?_); refine tr_new (rk_box (.of rfl) rfl) rfl (fun _ _ => ?_); refine tr_new (rk_alloc rfl) rfl (fun _ _ => ?_); refine a_s rfl rfl ?_; refine n_r ?_; refine tr_val (rk_loadB (.of rfl) (.there (.there .here)) norm_ (by rfl)) rfl ?_)
  rename_i b4 hb4 b6 hb6 b8 hb8
  with_reducible apply tr_call
  case hr => exact rk_call (.of rfl) (.cons (.of rfl) .nil) inferInstance normc_
  case hd => rfl
  case ht => exact Takes.nil
  case hc =>
    intro w1 fp hm1 _ hs1
    obtain rfl : fp = [] := hs1
    exact gapsQ_c (h1.keeps hm1.keeps) hs
  intro vg _
  dsimp only [id_eq, List.cons_append, List.nil_append]
  refine tr_rowOpen (E := 170) (sz := 3) (by exact .here) (by omega) fun gg capg' cur e hcapg hmxg hszg hlg => ?_
  cases e
  have hcg : cellsAt (gpR es es.length ++ cur) (k0 * 3) 3 = [.int .i64 (n : Int), .int .i64 gf, .int .i64 gt] := by
    have : gpR es es.length = (trisL (gpL es es.length)).flatten := trisL_flat _
    rw [this]
    exact flat_cellsAt (trisL_sz _) (by simp [trisL, hgk, triV])
  (refine m_v rfl rfl ?_; refine tr_val (rk_indexAddr (.of rfl) (.of rfl) rfl (by omega) (by omega) norm1_) rfl ?_; refine tr_val (rk_loadB (.of rfl) .here hcg rfl) rfl ?_; refine tr_new (rk_alloc rfl) rfl (fun _ _ => ?_); refine tr_store (.of rfl) (.of rfl) .here rfl rfl (okc_cons rfl (okc_cons rfl (okc_cons rfl okc_nil))) (lenb rfl) norm_ ?_; refine n_t ?_; refine tr_seq ?_; refine s_r ?_; refine f_a rfl rfl norm0_ ?_; refine f_a rfl rfl norm0_ ?_; refine tr_val (rk_load1 (.of rfl) (At.lit .here rfl)) rfl ?_; refine f_a rfl rfl norm0_ ?_; refine f_a rfl rfl norm0_ ?_; refine tr_val (rk_load1 (.of rfl) (At.lit .here rfl)) rfl ?_; refine tr_val (rk_sub (.of rfl) (.of rfl) (ini (by omega))) rfl ?_; refine f_a rfl rfl norm0_ ?_; refine tr_val (rk_load1 (.of rfl) (At.lit (.there (.there (.there .here))) rfl)) rfl ?_; refine tr_val (rk_neq (.of rfl) (.of rfl)) rfl ?_; refine n_t ?_; refine c_d rfl (fun hcd => ?_) (fun hcd => ?_); refine s_r ?_; refine tr_val (rk_buildL .nil norm_) rfl ?_; refine tr_store (.of rfl) (.of rfl) (.there (.there .here)) rfl rfl (okc_cons rfl okc_nil) (lenb rfl) norm_ ?_; refine a_s rfl rfl ?_; refine n_t ?_; refine r_t ?_; rotate_left; refine s_t ?_; refine s_r ?_; refine tr_val (rk_loadB (.of rfl) (.there (.there (.there (.there .here)))) norm_ (by rfl)) rfl ?_; rotate_right)
  · have hE : pqE es b o ((n : Int), gf, gt) = 2 := by
      rw [pqE, if_pos]
      intro e
      exact hcd (by show gt - gf = b.n; rw [e])
    rw [pqL, hE, if_neg (by decide)]
    refine tr_rowNil 115 6 ?_
    first | with_reducible apply tr_retM | with_reducible apply tr_endM
    case he => exact endsCT rfl inferInstance rfl (.there .here) norm_ (by rfl) (by rfl)
    case hR =>
      intro w' hm'
      exact gives_end (.slice none 0 0) trivial (show Takes _ [row 115 6 (.slice none 0 0) 0 []] _ by exact .cons .here .nil) hm' rfl
  have hbn : b.n = gt - gf := by omega
  rename_i b10 hb10
  have hE : pqE es b o ((n : Int), gf, gt) = chkF (chg es (n + 1) (n + 1) (plEn b gf o o.length)) := by
    rw [pqE, if_neg (by simpa using hbn)]; rfl
  have hL : pqL es b o ((n : Int), gf, gt) = if pqE es b o ((n : Int), gf, gt) = 0 then chg es (n + 1) (n + 1) (plEn b gf o o.length) else [] := rfl
  have hnl : n + 1 ≤ es.length := by omega
  with_reducible apply tr_call
  case hr => exact rk_call (.of rfl) (.cons (.of rfl) .nil) inferInstance normc_
  case hd => rfl
  case ht => exact Takes.nil
  case hc =>
    intro w1 fp hm1 _ hs1
    obtain rfl : fp = [] := hs1
    exact ownQ_c (h1.keeps hm1.keeps) (by omega)
  intro v0 _
  dsimp only [id_eq, List.cons_append, List.nil_append]
  refine tr_rowSl (E := 115) (sz := 6) (by exact .here) fun av0 capv0 e => ?_
  subst e
  (refine tr_new (rk_alloc rfl) rfl (fun _ _ => ?_); refine tr_store (.of rfl) (.of rfl) .here rfl rfl (okc_cons rfl okc_nil) (lenb rfl) norm_ ?_; refine n_t ?_; refine tr_seq ?_; refine s_r ?_; refine a_s rfl rfl ?_; refine n_t ?_; refine tr_block ?_)
  rename_i b11 hb11
  have hlen : ∀ k, (chg es (n + 1) (n + 1) (plEn b gf o k)).length = es.length + k := fun k => by rw [chg_length _ _ _ _ hnl, plEn_length]; omega
  refine tr_for (ι := Nat × Option Addr × Nat) (fun x => x.1 ≤ o.length) (fun x => [(12, .int .i64 x.1), (3, .slice a5 o.length cap5), (11, .pointer (some ⟨b11, 0, none⟩)), (10, .pointer (some ⟨b10, 0, none⟩)), (6, .pointer (some ⟨b6, 0, none⟩)), (8, .pointer (some ⟨b8, 0, none⟩))])
    (fun x => [blk b11 (.cells #[.slice x.2.1 (es.length + x.1) x.2.2] 24), row 115 6 (.slice x.2.1 (es.length + x.1) x.2.2) (es.length + x.1) (ensL (chg es (n + 1) (n + 1) (plEn b gf o x.1))).flatten, blk b10 (.cells #[.int .i64 (n : Int), .int .i64 gf, .int .i64 gt] 170 (0, 0)), blk b6 (.cells #[.int .i64 b.n, .slice a2 b.sp.length cap2, cv, xv] 83 (0, 0)), blk b8 (.cells #[.slice none 0 0] 24)]) (fun x => o.length - x.1) ?_ ?_
  · apply tr_start (0, av0, capv0) (Nat.zero_le _)
    case hs1 => exact .cons rfl (.cons rfl (.cons rfl (.cons rfl (.cons rfl (.cons rfl .nil)))))
    case ht =>
      have e0 : chg es (n + 1) (n + 1) (plEn b gf o 0) = es := by simp [chg, plEn]
      show Takes _ [blk b11 (.cells #[.slice av0 es.length capv0] 24), row 115 6 (.slice av0 es.length capv0) es.length (ensL (chg es (n + 1) (n + 1) (plEn b gf o 0))).flatten, _, _, _] _
      rw [e0]
      exact .cons .here (.cons .here (.cons .here (.cons (.there (.there .here)) (.cons (.there .here) .nil))))
  rintro ⟨k, av, capv⟩ hk
  dsimp only at hk ⊢
  by_cases hlt2 : k < o.length
  · have ha5' := ha5 (natsL_ne hlt2)
    have c5 : w.cell? ⟨bs5, os5 + k * 1, none⟩ = some (.int .i64 (nthN o k)) := (hc5 k _ (natsL_get hlt2)).2 0 _ rfl
    have hi := ho _ (nthN_mem hlt2)
    have ha2' := ha2 (spsL_ne hi)
    have hcell := (hc2 (nthN o k) _ (spsL_get hi)).2
    have hsn := chg_snoc (es := es) (l := plEn b gf o k) (a := n + 1) (plOne b gf o k) hnl
    rw [plEn_length, ← plEn_succ] at hsn
    unfold Sp.cells at hcell
    unfold plOne at hsn
    by_cases hz : k = 0
    · rw [if_pos hz, if_pos hz] at hsn
      (refine tr_seq ?_; refine s_r ?_; refine m_v rfl rfl ?_; refine m_v rfl rfl ?_; refine tr_val (rk_len_slice (.of rfl)) rfl ?_; refine tr_val (rk_lss (.of rfl) (.of rfl)) rfl ?_; refine n_t ?_; refine c_d rfl (fun hcd => ?_) (fun _ => by omega); refine s_t ?_; refine tr_seq ?_; refine tr_block ?_; refine tr_seq ?_)
      with_reducible refine tr_drawO 9 (by kernel_rfl) ?_
      (refine ao_val (rk_fieldAddr (.of rfl) norm0_) rfl ?_; refine ao_val (rk_load1 (.of rfl) (At.lit (.there (.there (.there .here))) rfl)) rfl ?_; refine ao_val (rk_move (.of rfl)) rfl ?_; refine ao_val (rk_move (.of rfl)) rfl ?_; refine ao_val (rk_indexAddr (.of rfl) (.of rfl) ha5' (by omega) hcd norm1_) rfl ?_; refine ao_val (rk_load1 (.of rfl) (At.base c5 rfl)) rfl ?_; refine ao_val (rk_indexAddr (.of rfl) (.of rfl) ha2' (by omega) (by omega) norm1_) rfl ?_; refine ao_val (rk_loadN (.of rfl) (Ats.base hcell rfl) rfl) rfl ?_; refine ao_new (rk_alloc rfl) rfl rfl ?_)
      with_reducible refine ao_end1 rfl fun bq hbq => ?_
      (refine tr_store (.of rfl) (.of rfl) .here rfl rfl (okc_cons rfl (okc_cons rfl (okc_cons rfl (okc_cons rfl okc_nil)))) (lenb rfl) norm_ ?_; refine n_r ?_; refine f_a rfl rfl norm0_ ?_; refine tr_val (rk_load1 (.of rfl) (At.lit .here rfl)) rfl ?_; refine f_a rfl rfl norm0_ ?_; refine tr_val (rk_load1 (.of rfl) (At.lit .here rfl)) rfl ?_; refine tr_val (rk_buildL (.cons (.of rfl) (.cons (.of rfl) .nil)) norm_) rfl ?_; refine f_a rfl rfl norm0_ ?_; refine tr_val (rk_load1 (.of rfl) (At.lit .here rfl)) rfl ?_; refine tr_val (rk_buildL (.cons (.of rfl) (.cons (.of rfl) (.cons (.of rfl) (.cons (.of rfl) (.cons (.of rfl) .nil))))) norm_) rfl ?_; refine tr_new (rk_alloc rfl) rfl (fun _ _ => ?_); refine tr_store (.of rfl) (.of rfl) .here rfl rfl (okc_cons rfl (okc_cons rfl (okc_cons rfl (okc_cons rfl (okc_cons rfl (okc_cons rfl okc_nil)))))) (lenb rfl) norm_ ?_; refine n_t ?_; refine tr_seq ?_; refine s_r ?_; refine m_v rfl rfl ?_; refine tr_val (rk_eql (.of rfl) (.of rfl)) rfl ?_; refine n_t ?_; refine c_d rfl (fun hcd => ?_) (fun _ => by omega); refine tr_region ?_; refine f_a rfl rfl norm0_ ?_; refine f_a rfl rfl norm0_ ?_; refine tr_val (rk_load1 (.of rfl) (At.lit (.there (.there (.there (.there .here)))) rfl)) rfl ?_; refine tr_val (rk_buildL (.cons (.of rfl) (.cons (.of rfl) .nil)) norm_) rfl ?_; refine f_a rfl rfl norm0_ ?_; refine tr_store (.of rfl) (.of rfl) .here rfl rfl (okc_cons rfl (okc_cons rfl okc_nil)) (lenb rfl) norm_ ?_; refine n_t ?_; refine tr_region ?_; refine tr_val (rk_loadB (.of rfl) (.there (.there .here)) norm_ (by rfl)) rfl ?_; refine f_a rfl rfl norm0_ ?_; refine tr_val (rk_load1 (.of rfl) (At.lit (.there (.there (.there (.there .here)))) rfl)) rfl ?_; refine tr_val (rk_add (.of rfl) (.of rfl) (ini (by omega))) rfl ?_; refine m_v rfl rfl ?_; refine tr_val (rk_add (.of rfl) (.of rfl) (ini (by omega))) rfl ?_; refine tr_val (rk_loadB (.of rfl) .here norm_ (by rfl)) rfl ?_)
      rw [show (n : Int) + 1 + (k : Int) = ((n + 1 + k : Nat) : Int) by omega]
      with_reducible apply tr_call
      case hr => exact rk_call (.of rfl) (.cons (.of rfl) (.cons (.of rfl) (.cons (.of rfl) .nil))) inferInstance normc_
      case hd => rfl
      case ht => exact Takes.nil
      case hc =>
        intro w1 fp hm1 _ hs1
        obtain rfl : fp = [] := hs1
        exact withQ_c ⟨(nthS b.sp (nthN o k)).nm, (nthS b.sp (nthN o k)).nm, sFix, gf, (nthS b.sp (nthN o k)).ln, 0⟩ (rdEnF (n := es.length + k) hm1 (by exact Take.there (.there (.there .here))) (hlen k)) (by rw [hlen]; omega) (by rw [hlen]; omega)
      intro vw _
      dsimp only [id_eq, List.cons_append, List.nil_append]
      rw [hsn, hlen]
      refine tr_rowSl (E := 115) (sz := 6) (by exact .here) fun aw capw e => ?_
      subst e
      (refine tr_store (.of rfl) (.of rfl) (.there (.there (.there .here))) rfl rfl (okc_cons rfl okc_nil) (lenb rfl) norm_ ?_; refine tr_nil ?_; refine tr_blk_normal ?_; refine tr_then ?_; refine tr_region ?_; refine m_v rfl rfl ?_; refine tr_val (rk_add (.of rfl) (.of rfl) (ini (by omega))) rfl ?_; refine a_s rfl rfl ?_; refine n_t ?_)
      apply tr_next (k + 1, aw, capw) (show k + 1 ≤ o.length by omega) (show o.length - (k + 1) < o.length - k by omega)
      case hs1 => exact .cons rfl (.cons rfl (.cons rfl (.cons rfl (.cons rfl (.cons rfl .nil)))))
      case ht =>
        show Takes _ [blk b11 (.cells #[.slice aw (es.length + (k + 1)) capw] 24), row 115 6 (.slice aw (es.length + (k + 1)) capw) (es.length + (k + 1)) (ensL (chg es (n + 1) (n + 1) (plEn b gf o (k + 1)))).flatten, _, _, _] _
        exact .cons .here (.cons .here (.cons (.there (.there (.there .here))) (.cons (.there (.there (.there .here))) (.cons (.there (.there (.there .here))) .nil))))
    · rw [if_neg hz, if_neg hz] at hsn
      (refine tr_seq ?_; refine s_r ?_; refine m_v rfl rfl ?_; refine m_v rfl rfl ?_; refine tr_val (rk_len_slice (.of rfl)) rfl ?_; refine tr_val (rk_lss (.of rfl) (.of rfl)) rfl ?_; refine n_t ?_; refine c_d rfl (fun hcd => ?_) (fun _ => by omega); refine s_t ?_; refine tr_seq ?_; refine tr_block ?_; refine tr_seq ?_)
      with_reducible refine tr_drawO 9 (by kernel_rfl) ?_
      (refine ao_val (rk_fieldAddr (.of rfl) norm0_) rfl ?_; refine ao_val (rk_load1 (.of rfl) (At.lit (.there (.there (.there .here))) rfl)) rfl ?_; refine ao_val (rk_move (.of rfl)) rfl ?_; refine ao_val (rk_move (.of rfl)) rfl ?_; refine ao_val (rk_indexAddr (.of rfl) (.of rfl) ha5' (by omega) hcd norm1_) rfl ?_; refine ao_val (rk_load1 (.of rfl) (At.base c5 rfl)) rfl ?_; refine ao_val (rk_indexAddr (.of rfl) (.of rfl) ha2' (by omega) (by omega) norm1_) rfl ?_; refine ao_val (rk_loadN (.of rfl) (Ats.base hcell rfl) rfl) rfl ?_; refine ao_new (rk_alloc rfl) rfl rfl ?_)
      with_reducible refine ao_end1 rfl fun bq hbq => ?_
      (refine tr_store (.of rfl) (.of rfl) .here rfl rfl (okc_cons rfl (okc_cons rfl (okc_cons rfl (okc_cons rfl okc_nil)))) (lenb rfl) norm_ ?_; refine n_r ?_; refine f_a rfl rfl norm0_ ?_; refine tr_val (rk_load1 (.of rfl) (At.lit .here rfl)) rfl ?_; refine f_a rfl rfl norm0_ ?_; refine tr_val (rk_load1 (.of rfl) (At.lit .here rfl)) rfl ?_; refine tr_val (rk_buildL (.cons (.of rfl) (.cons (.of rfl) .nil)) norm_) rfl ?_; refine f_a rfl rfl norm0_ ?_; refine tr_val (rk_load1 (.of rfl) (At.lit .here rfl)) rfl ?_; refine tr_val (rk_buildL (.cons (.of rfl) (.cons (.of rfl) (.cons (.of rfl) (.cons (.of rfl) (.cons (.of rfl) .nil))))) norm_) rfl ?_; refine tr_new (rk_alloc rfl) rfl (fun _ _ => ?_); refine tr_store (.of rfl) (.of rfl) .here rfl rfl (okc_cons rfl (okc_cons rfl (okc_cons rfl (okc_cons rfl (okc_cons rfl (okc_cons rfl okc_nil)))))) (lenb rfl) norm_ ?_; refine n_t ?_; refine tr_seq ?_; refine s_r ?_; refine m_v rfl rfl ?_; refine tr_val (rk_eql (.of rfl) (.of rfl)) rfl ?_; refine n_t ?_; refine c_d rfl (fun _ => by omega) (fun hcd => ?_); refine s_t ?_; refine tr_region ?_; refine tr_val (rk_loadB (.of rfl) (.there (.there .here)) norm_ (by rfl)) rfl ?_; refine f_a rfl rfl norm0_ ?_; refine tr_val (rk_load1 (.of rfl) (At.lit (.there (.there (.there (.there .here)))) rfl)) rfl ?_; refine tr_val (rk_add (.of rfl) (.of rfl) (ini (by omega))) rfl ?_; refine m_v rfl rfl ?_; refine tr_val (rk_add (.of rfl) (.of rfl) (ini (by omega))) rfl ?_; refine tr_val (rk_loadB (.of rfl) .here norm_ (by rfl)) rfl ?_)
      rw [show (n : Int) + 1 + (k : Int) = ((n + 1 + k : Nat) : Int) by omega]
      with_reducible apply tr_call
      case hr => exact rk_call (.of rfl) (.cons (.of rfl) (.cons (.of rfl) (.cons (.of rfl) .nil))) inferInstance normc_
      case hd => rfl
      case ht => exact Takes.nil
      case hc =>
        intro w1 fp hm1 _ hs1
        obtain rfl : fp = [] := hs1
        exact withQ_c ⟨(nthS b.sp (nthN o k)).nm, (nthS b.sp (nthN o k)).nm, sFol, 0, (nthS b.sp (nthN o k)).ln, 0⟩ (rdEnF (n := es.length + k) hm1 (by exact Take.there (.there (.there .here))) (hlen k)) (by rw [hlen]; omega) (by rw [hlen]; omega)
      intro vw _
      dsimp only [id_eq, List.cons_append, List.nil_append]
      rw [hsn, hlen]
      refine tr_rowSl (E := 115) (sz := 6) (by exact .here) fun aw capw e => ?_
      subst e
      (refine tr_store (.of rfl) (.of rfl) (.there (.there (.there .here))) rfl rfl (okc_cons rfl okc_nil) (lenb rfl) norm_ ?_; refine tr_nil ?_; refine tr_blk_normal ?_; refine tr_then ?_; refine tr_region ?_; refine m_v rfl rfl ?_; refine tr_val (rk_add (.of rfl) (.of rfl) (ini (by omega))) rfl ?_; refine a_s rfl rfl ?_; refine n_t ?_)
      apply tr_next (k + 1, aw, capw) (show k + 1 ≤ o.length by omega) (show o.length - (k + 1) < o.length - k by omega)
      case hs1 => exact .cons rfl (.cons rfl (.cons rfl (.cons rfl (.cons rfl (.cons rfl .nil)))))
      case ht =>
        show Takes _ [blk b11 (.cells #[.slice aw (es.length + (k + 1)) capw] 24), row 115 6 (.slice aw (es.length + (k + 1)) capw) (es.length + (k + 1)) (ensL (chg es (n + 1) (n + 1) (plEn b gf o (k + 1)))).flatten, _, _, _] _
        exact .cons .here (.cons .here (.cons (.there (.there (.there .here))) (.cons (.there (.there (.there .here))) (.cons (.there (.there (.there .here))) .nil))))
  obtain rfl : k = o.length := by omega
  (refine tr_seq ?_; refine s_r ?_; refine m_v rfl rfl ?_; refine m_v rfl rfl ?_; refine tr_val (rk_len_slice (.of rfl)) rfl ?_; refine tr_val (rk_lss (.of rfl) (.of rfl)) rfl ?_; refine n_t ?_; refine c_d rfl (fun _ => by omega) (fun hcd => ?_); refine x_t ?_; refine tr_then_exit ?_; refine tr_blk_exit ?_; refine tr_then ?_; refine tr_seq ?_; refine s_r ?_; refine tr_val (rk_loadB (.of rfl) .here norm_ (by rfl)) rfl ?_)
  with_reducible apply tr_callV
  case hr => exact rk_call (.of rfl) (.cons (.of rfl) .nil) inferInstance normc_
  case hd => rfl
  case hc =>
    intro w' hm'
    exact chkQ_c (rdEnF (n := es.length + o.length) hm' (by exact Take.there .here) (hlen _))
  rw [← hE]
  (refine a_s rfl rfl ?_; refine n_r ?_; refine m_v rfl rfl ?_; refine tr_val (rk_neq (.of rfl) (.of rfl)) rfl ?_; refine n_t ?_; refine c_d rfl (fun hcd => ?_) (fun hcd => ?_); refine s_r ?_; refine tr_val (rk_buildL .nil norm_) rfl ?_; refine m_v rfl rfl ?_; refine tr_store (.of rfl) (.of rfl) (.there (.there (.there (.there .here)))) rfl rfl (okc_cons rfl okc_nil) (lenb rfl) norm_ ?_; refine a_s rfl rfl ?_; refine n_t ?_; refine r_t ?_; rotate_left; refine s_t ?_; refine s_r ?_; refine tr_val (rk_loadB (.of rfl) .here norm_ (by rfl)) rfl ?_; refine tr_store (.of rfl) (.of rfl) (.there (.there (.there (.there .here)))) rfl rfl (okc_cons rfl okc_nil) (lenb rfl) norm_ ?_; refine a_s rfl rfl ?_; refine n_t ?_; refine tr_ret ?_; rotate_right)
  · rw [if_neg hcd] at hL
    rw [hL]
    refine tr_rowNil 115 6 ?_
    first | with_reducible apply tr_retM | with_reducible apply tr_endM
    case he => exact endsCT rfl inferInstance rfl (.there .here) norm_ (by rfl) (by rfl)
    case hR =>
      intro w' hm'
      exact gives_end (.slice none 0 0) trivial (show Takes _ [row 115 6 (.slice none 0 0) 0 []] _ by exact .cons .here .nil) hm' rfl
  · have hz0 : pqE es b o ((n : Int), gf, gt) = 0 := Decidable.not_not.1 hcd
    rw [if_pos hz0] at hL
    rw [hL, hz0, hlen]
    first | with_reducible apply tr_retM | with_reducible apply tr_endM
    case he => exact endsCT rfl inferInstance rfl .here norm_ (by rfl) (by rfl)
    case hR =>
      intro w' hm'
      exact gives_end (.slice av (es.length + o.length) capv) trivial (show Takes _ [row 115 6 (.slice av (es.length + o.length) capv) (es.length + o.length) _] _ by exact .cons (.there (.there .here)) .nil) hm' rfl
end Go.Proofs.A1

/- R11 -/
namespace Go.Proofs.A1
open Go Go.SL

set_option maxHeartbeats 1000000 in
theorem changed_t {v u : Value} {es ws : List En} {e : Int} {w : World} (h1 : Rd w v 6 (ensL es)) (h2 : Rd w u 6 (ensL ws)) (hl : es.length ≤ 1000) (h0 : e ≠ 0 → es = []) (hz : e = 0 → es = ws) :
    GivesV Tryz.prog 58 [.agg #[v], .int .i64 e, .int .i64 e, .agg #[u]] w (.bool true) := by
  have h1' := h1
  have hone2 := Rd.one h2
  obtain ⟨a, cap, b, o, rfl, hcap, hmax, ha, hc⟩ := h1'
  rw [ensL_length] at *
  unfold maxLen at hmax
  refine givesV_of_tr Tryz.func58 rfl rfl ?_
  (refine s_r ?_; refine tr_new (rk_box (.of rfl) rfl) rfl (fun _ _ => ?_); refine tr_new (rk_box (.of rfl) rfl) rfl (fun _ _ => ?_); refine a_s rfl rfl ?_; refine n_t ?_; refine tr_seq ?_)
  rename_i b4 hb4 b7 hb7
  with_reducible refine tr_drawM 24 (by kernel_rfl) ?_
  (refine am_val (fun β => (rk_move (.of rfl))) ind0 rfl ?_; refine am_val (fun β => (rk_move (.of rfl))) ind0 rfl ?_; refine am_val (fun β => (rk_eql (.of rfl) (.of rfl))) ind0 rfl ?_; refine am_val (fun β => (rk_move (.of rfl))) ind0 rfl ?_)
  rw [show decide (e = e) = true from decide_eq_true rfl]
  (refine am_gOn rfl (fun _ => rfl) ?_; refine am_val (fun β => (rk_move (.of rfl))) ind0 rfl ?_; refine am_gOn rfl (fun _ => rfl) ?_; refine am_val (fun β => (rk_neq (.of rfl) (.of rfl))) ind0 rfl ?_; refine am_gOn rfl (fun _ => rfl) ?_; refine am_val (fun β => (rk_move (.of rfl))) ind0 rfl ?_)
  by_cases he : e = 0
  · rw [show decide (e ≠ 0) = false from decide_eq_false (fun h => h he)]
    (refine am_gOff rfl (fun _ => rfl) (Or.inr rfl) rfl ?_; refine am_gOff rfl (fun _ => rfl) (Or.inr rfl) rfl ?_; refine am_gOff rfl (fun _ => rfl) (Or.inr rfl) rfl ?_; refine am_gOff rfl (fun _ => rfl) (Or.inr rfl) rfl ?_; refine am_gOn rfl (fun _ => rfl) ?_; refine am_val (fun β => (rk_pickB (.of rfl) (.of rfl) (.of rfl) rfl)) ind0 rfl ?_; refine am_gOn rfl (fun _ => rfl) ?_; refine am_val (fun β => (rk_move (.of rfl))) ind0 rfl ?_; refine am_gOn rfl (fun _ => rfl) ?_; refine am_val (fun β => (rk_move (.of rfl))) ind0 rfl ?_; refine am_gOn rfl (fun _ => rfl) ?_; refine am_val (fun β => (rk_eql (.of rfl) (.of rfl))) ind0 rfl ?_; refine am_gOn rfl (fun _ => rfl) ?_; refine am_val (fun β => (rk_move (.of rfl))) ind0 rfl ?_)
    rw [show decide (e = 0) = true from decide_eq_true he]
    (refine am_gOn rfl (fun _ => rfl) ?_; refine am_val (fun β => (rk_loadB (.of rfl) (.there .here) norm_ (by rfl))) ind0 rfl ?_)
    have hsame : ∀ (v' : Value) w', Keeps [] w w' → Rd w' v' 6 (ensL es) → GivesV Tryz.prog 85 [.agg #[v'], .agg #[u]] w' (.bool true) := fun v' w' hk hr => by
      have := sameQ_c hr (h2.keeps hk)
      rwa [decide_eq_true (hz he)] at this
    dsimp only [Nat.zero_add, Nat.reduceAdd]
    refine am_gOn rfl (fun _ => rfl) ?_
    with_reducible apply am_call (ι := Value) (Φ := fun _ => True) (val := fun v => .agg #[v]) (own := fun v => [row 115 6 v es.length (enR es es.length)]) (g := id) (B := []) (args := fun _ => [.agg #[.slice a es.length cap]])
    case hg => exact fun x => ⟨x, rfl⟩
    case hB => rfl
    case hr => exact fun β => rk_call (.of rfl) (.cons (.of rfl) .nil) inferInstance rfl
    case hd => rfl
    case hc => exact fun β w' hb => told_c (h1.keeps hb.mem.keeps) hl
    dsimp only [id_eq, Nat.reduceAdd]
    (refine am_gOn rfl (fun _ => rfl) ?_; refine am_val (fun β => (rk_loadB (.of rfl) .here norm_ (by rfl))) ind0 rfl ?_)
    dsimp only [Nat.reduceAdd]
    refine am_gOn rfl (fun _ => rfl) ?_
    with_reducible apply am_callV (B := [17]) (F := fun _ => .bool true) (args := fun β => [.agg #[β 17], .agg #[u]])
    case hB => kernel_rfl
    case hr => exact fun β => rk_call (.of rfl) (.cons (.of rfl) (.cons (.of rfl) .nil)) inferInstance rfl
    case hi => exact ind0
    case hd => rfl
    case hc =>
      intro β w' hb
      have hm' := hb.at 17 List.mem_cons_self (s := ⟨fun β => .agg #[β 17], fun β => [row 115 6 (β 17) es.length (enR es es.length)]⟩) (by kernel_rfl)
      dsimp only [List.cons_append, List.nil_append] at hm'
      exact hsame _ w' hb.mem.keeps (rdEn hm' (by exact .here))
    (refine am_gOn rfl (fun _ => rfl) ?_; refine am_val (fun β => (rk_pickB (.of rfl) (.of rfl) (.of rfl) rfl)) ind0 rfl ?_; refine am_gOn rfl (fun _ => rfl) ?_; refine am_val (fun β => (rk_pickB (.of rfl) (.of rfl) (.of rfl) rfl)) ind0 rfl ?_; refine am_val (fun β => (rk_pickB (.of rfl) (.of rfl) (.of rfl) rfl)) ind0 rfl ?_; refine am_val (fun β => (rk_assign (.of rfl))) ind0 rfl ?_)
    refine am_end fun β => ?_
    dsimp only [resAll, List.nil_append, List.cons_append, List.append_eq, Nat.reduceAdd]
    with_reducible refine left_done (by kernel_rfl) ?_
    (refine tr_then ?_; refine tr_ret ?_; refine tr_retE rfl (ends1 rfl rfl) ?_)
    rfl
  · have hes := h0 he
    subst hes
    rw [show decide (e ≠ 0) = true from decide_eq_true he]
    (refine am_gOn rfl (fun _ => rfl) ?_; refine am_val (fun β => (rk_fieldAddr (.of rfl) norm0_)) ind0 rfl ?_; refine am_gOn rfl (fun _ => rfl) ?_; refine am_val (fun β => (rk_load1 (.of rfl) (At.lit (.there .here) rfl))) ind0 rfl ?_; refine am_gOn rfl (fun _ => rfl) ?_; refine am_val (fun β => (rk_len_slice (.of rfl))) ind0 rfl ?_; refine am_gOn rfl (fun _ => rfl) ?_; refine am_val (fun β => (rk_eql (.of rfl) (.of rfl))) ind0 rfl ?_; refine am_gOn rfl (fun _ => rfl) ?_; refine am_val (fun β => (rk_pickB (.of rfl) (.of rfl) (.of rfl) rfl)) ind0 rfl ?_; refine am_gOn rfl (fun _ => rfl) ?_; refine am_val (fun β => (rk_move (.of rfl))) ind0 rfl ?_; refine am_gOff rfl (fun _ => rfl) (Or.inr rfl) rfl ?_; refine am_gOff rfl (fun _ => rfl) (Or.inr rfl) rfl ?_; refine am_gOff rfl (fun _ => rfl) (Or.inr rfl) rfl ?_; refine am_gOff rfl (fun _ => rfl) (Or.inl rfl) rfl ?_; refine am_gOff rfl (fun _ => rfl) (Or.inl rfl) rfl ?_; refine am_gOff rfl (fun _ => rfl) (Or.inl rfl) rfl ?_; refine am_gOff rfl (fun _ => rfl) (Or.inl rfl) rfl ?_; refine am_gOff rfl (fun _ => rfl) (Or.inr rfl) rfl ?_; refine am_gOn rfl (fun _ => rfl) ?_; refine am_val (fun β => (rk_pickB (.of rfl) (.of rfl) (.of rfl) rfl)) ind0 rfl ?_; refine am_val (fun β => (rk_pickB (.of rfl) (.of rfl) (.of rfl) rfl)) ind0 rfl ?_; refine am_val (fun β => (rk_assign (.of rfl))) ind0 rfl ?_)
    rw [show decide ((([] : List En).length : Int) = 0) = true from rfl]
    skip
    refine am_end fun β => ?_
    dsimp only [resAll, List.nil_append, List.cons_append, List.append_eq, Nat.reduceAdd]
    with_reducible refine left_done (by kernel_rfl) ?_
    (refine tr_then ?_; refine tr_ret ?_; refine tr_retE rfl (ends1 rfl rfl) ?_)
    rfl
end Go.Proofs.A1

/- Q2p -/
/- Placing: the errors of the program and those of the reference are the same. Plain Lean. -/
namespace Go.Proofs.A1
open Go Go.SL
section
variable {es : List En} {b : Br} {gap : Int} {ol : List Int}
theorem plE_1 (h : chkF es ≠ 0) : plE es gap b ol = chkF es := by rw [plE, if_pos h]
theorem plE_2 (h : chkF es = 0) (h1 : pl1 es b gap ≠ 0) : plE es gap b ol = pl1 es b gap := by rw [plE, if_neg (by rw [h]; decide), if_pos h1]
theorem pl1_ok (h : pl1 es b gap = 0) : (0 ≤ gap ∧ gap < ((gpL es es.length).length : Int)) ∧ brE b = 0 := by
  unfold pl1 at h
  rw [firstF_zero] at h
  simp only [List.mem_cons, List.not_mem_nil, or_false, forall_eq_or_imp, forall_eq] at h
  rw [whenF_zero (by decide)] at h
  have := h.1
  simp only [Bool.or_eq_false_iff, decide_eq_false_iff_not] at this
  exact ⟨by omega, h.2⟩
theorem pl2_eq (g : Int × Int × Int) : pl2 b ol g = if orderE b ol ≠ 0 then orderE b ol else whenF (decide (b.n ≠ g.2.2 - g.2.1)) 2 := by rw [pl2, firstF2]
theorem plE_3 (h : chkF es = 0) (h1 : pl1 es b gap = 0) (h2 : orderQ b ol ≠ 0) : plE es gap b ol = orderQ b ol := by
  have he : orderE b ol = orderQ b ol := by rw [orderE_eq (BrOk.of (pl1_ok h1).2), if_pos h2]
  have hp : pl2 b ol (plGap es gap.toNat) = orderQ b ol := by rw [pl2_eq, he, if_pos h2]
  rw [plE, if_neg (by rw [h]; decide), if_neg (by rw [h1]; decide), hp, if_pos h2]
theorem plE_4 (h : chkF es = 0) (h1 : pl1 es b gap = 0) (h2 : orderQ b ol = 0) (h3 : ruleQ b (cfO ol) ≠ 0) : plE es gap b ol = ruleQ b (cfO ol) := by
  have he : orderE b ol = ruleQ b (cfO ol) := by rw [orderE_eq (BrOk.of (pl1_ok h1).2), if_neg (by rw [h2]; decide)]
  have hp : pl2 b ol (plGap es gap.toNat) = ruleQ b (cfO ol) := by rw [pl2_eq, he, if_pos h3]
  rw [plE, if_neg (by rw [h]; decide), if_neg (by rw [h1]; decide), hp, if_pos h3]
theorem plE_5 (h : chkF es = 0) (h1 : pl1 es b gap = 0) (h2 : orderQ b ol = 0) (h3 : ruleQ b (cfO ol) = 0) : plE es gap b ol = pqE es b (cfO ol) (plGap es gap.toNat) := by
  have he : orderE b ol = 0 := by rw [orderE_eq (BrOk.of (pl1_ok h1).2), if_neg (by rw [h2]; decide), h3]
  have hp : pl2 b ol (plGap es gap.toNat) = whenF (decide (b.n ≠ (plGap es gap.toNat).2.2 - (plGap es gap.toNat).2.1)) 2 := by rw [pl2_eq, he, if_neg (by decide)]
  rw [plE, if_neg (by rw [h]; decide), if_neg (by rw [h1]; decide), hp, pqE, plEs]
  by_cases hn : b.n ≠ (plGap es gap.toNat).2.2 - (plGap es gap.toNat).2.1
  · simp [hn, whenF]
  · simp [hn, whenF]
theorem plL_5 (h : plE es gap b ol = pqE es b (cfO ol) (plGap es gap.toNat)) : plL' es gap b ol = pqL es b (cfO ol) (plGap es gap.toNat) := by
  rw [plL', h, pqL, plEs]
theorem plL_0 (h : plE es gap b ol ≠ 0) : plL' es gap b ol = [] := by rw [plL', if_neg h]
theorem plL_len (es : List En) (b : Br) (gap : Int) (ol : List Int) : (plL' es gap b ol).length ≤ 1000 := by
  by_cases h : plE es gap b ol = 0
  · rw [plL', if_pos h]
    have h2 : chkF (plEs es b ol (plGap es gap.toNat)) = 0 := by
      unfold plE at h
      split at h
      · rename_i h1; exact absurd h h1
      · split at h
        · rename_i h1; exact absurd h h1
        · split at h
          · rename_i h1; exact absurd h h1
          · exact h
    exact Nat.le_trans (Sound.of h2).all.few (by decide)
  · rw [plL_0 h]; exact Nat.zero_le _
end
end Go.Proofs.A1

/- S66 -/
namespace Go.Proofs.A1
open Go Go.SL

theorem Gives.sliceV {P : Program} {f : FuncId} {args : List Value} {w : World} {md : List Nat} {E : TypeId} {sz n : Nat} {xs : List Value} {val : Value → Value} (h : Gives P f args w md (fun _ : Value => True) val (fun v => [row E sz v n xs])) :
    Gives P f args w md (fun _ : Option Addr × Nat => True) (fun x => val (.slice x.1 n x.2)) (fun x => [row E sz (.slice x.1 n x.2) n xs]) :=
  Calls.mono h fun e w' ⟨v, he, _, hk, fp, hn, hs, hf⟩ => by
    have hv : ∃ x : Option Addr × Nat, v = .slice x.1 n x.2 := by
      obtain ⟨f1, f2, _, ⟨_, _, ⟨e1, e2⟩ | ⟨g, cap, cur, e1, _⟩⟩, _⟩ := hs
      · exact ⟨(none, 0), by rw [e1, e2]⟩
      · exact ⟨(_, cap), e1⟩
    obtain ⟨x, rfl⟩ := hv
    exact ⟨x, he, trivial, hk, fp, hn, hs, hf⟩
theorem pure_at {l : List Oper} {p d k : Nat} {x : Operand} {ty : TypeId} {pos : String} {af : Array Edge} (h : l[p]? = some ⟨some d, .extract x k, ty, pos, af, none⟩) (h2 : Region.noSelect l.toArray = true) (h3 : Region.free .any l.toArray ((List.range l.length).map fun j => ((masks l []).getD p 0).testBit j).toArray p = true) : PureAt l p := ⟨d, x, k, ty, pos, af, h, h2, h3⟩
def g3 : Value → Value × Value × Value
  | .agg cs => (cs.getD 0 undef, cs.getD 1 undef, cs.getD 2 undef)
  | _ => (undef, undef, undef)
theorem g3_of (x : Value × Value × Value) : ∃ v, g3 v = x := ⟨.agg #[x.1, x.2.1, x.2.2], rfl⟩
set_option maxHeartbeats 4000000 in
theorem places_law {sv pv cv xv ov : Value} {es : List En} {b : Br} {gap : Int} {ol : List Int} {w : World} (h1 : Rd w sv 6 (ensL es)) (h2 : Rd w pv 4 (spsL b.sp)) (h3 : Rd w cv 1 (ints b.cm)) (h4 : Rd w xv 2 (prsL b.ex)) (h5 : Rd w ov 1 (ints ol)) (hG : Glob w) (hT : Tab10 w) :
    GivesV Tryz.prog 6 [.agg #[sv], .agg #[.int .i64 b.n, pv, cv, xv], .agg #[.int .i64 gap, ov]] w (.bool true) := by
  have haw : ∀ w', Keeps [] w w' → GivesV Tryz.prog 17 [] w' (.bool true) := fun w' hk => awake_c w' (hG.keeps hk) (hT.keeps hk)
  have hsh : ∀ w', Keeps [] w w' → GivesV Tryz.prog 18 [.agg #[sv]] w' (.bool (shortB es)) := fun w' hk => short_c (h1.keeps hk)
  have hck : ∀ w', Keeps [] w w' → GivesV Tryz.prog 23 [.agg #[sv]] w' (.int .i64 (chkF es)) := fun w' hk => chkQ_c (h1.keeps hk)
  have hsb : ∀ w', Keeps [] w w' → GivesV Tryz.prog 43 [.agg #[.int .i64 b.n, pv, cv, xv]] w' (.bool (shortBr b)) := fun w' hk => shortBr_c (h2.keeps hk) (h3.keeps hk) (h4.keeps hk)
  have hone1 := Rd.one h1
  have hone2 := Rd.one h2
  have hone3 := Rd.one h3
  have hone4 := Rd.one h4
  have h5' := h5
  obtain ⟨a5, cap5, bs5, os5, rfl, hcap5, hmax5, ha5, hc5⟩ := h5
  rw [ints_length] at *
  unfold maxLen at hmax5
  refine givesV_of_tr Tryz.func6 rfl rfl ?_
  (refine s_r ?_; refine tr_new (rk_box (.of rfl) rfl) rfl (fun _ _ => ?_); refine tr_new (rk_box (.of rfl) rfl) rfl (fun _ _ => ?_); refine tr_new (rk_box (.of rfl) rfl) rfl (fun _ _ => ?_); refine a_s rfl rfl ?_; refine n_t ?_; refine tr_seq ?_; refine s_r ?_; refine tr_callV (rk_call (.of rfl) .nil inferInstance normc_) rfl (fun w' hm' => (haw w' (Mem.keeps hm'))) ?_; refine tr_val (rk_not (.of rfl)) rfl ?_; refine m_v rfl rfl ?_; refine tr_vG1 rfl rfl inferInstance (fun hg hgp => (rk_loadB (.of rfl) (.there (.there .here)) norm_ (by rfl))) rfl ?_; refine tr_callVG1 rfl rfl (fun hg => (rk_call (.of rfl) (.cons (.ofg hg rfl) .nil) inferInstance normc_)) rfl (fun hg w' hm' => (hsh w' (Mem.keeps hm'))) ?_; refine tr_vG1 rfl rfl inferInstance (fun hg hgp => (rk_not (.ofg hgp rfl))) rfl ?_; refine tr_val (rk_pick_or (.of rfl) rfl) rfl ?_; refine m_v rfl rfl ?_; refine tr_vG1 rfl rfl inferInstance (fun hg hgp => (rk_loadB (.of rfl) (.there .here) norm_ (by rfl))) rfl ?_; refine tr_callVG1 rfl rfl (fun hg => (rk_call (.of rfl) (.cons (.ofg hg rfl) .nil) inferInstance normc_)) rfl (fun hg w' hm' => (hsb w' (Mem.keeps hm'))) ?_; refine tr_vG1 rfl rfl inferInstance (fun hg hgp => (rk_not (.ofg hg rfl))) rfl ?_; refine tr_val (rk_pick_or (.of rfl) rfl) rfl ?_; refine m_v rfl rfl ?_; refine tr_vG1 rfl rfl inferInstance (fun hg hgp => (rk_fieldAddr (.of rfl) norm0_)) rfl ?_; refine tr_vG1 rfl rfl inferInstance (fun hg hgp => (rk_load1 (.ofg hg rfl) (At.lit .here rfl))) rfl ?_; refine tr_vG1 rfl rfl inferInstance (fun hg hgp => (rk_len_slice (.ofg hg rfl))) rfl ?_; refine tr_vG1 rfl rfl inferInstance (fun hg hgp => (rk_gtr (.ofg hg rfl) (.of rfl))) rfl ?_; refine tr_val (rk_pick_or (.of rfl) rfl) rfl ?_; refine n_t ?_; refine c_b rfl (fun hcd => ?_) (fun hcd => ?_); refine s_r ?_; refine tr_callV (rk_call (.of rfl) .nil inferInstance normc_) rfl (fun w' hm' => (haw w' (Mem.keeps hm'))) ?_; refine a_s rfl rfl ?_; refine n_t ?_; refine r_t ?_; refine tr_retE rfl (ends1 rfl rfl) ?_; rotate_left; refine s_t ?_; refine tr_seq ?_; rotate_right)
  · rfl
  rename_i b3 hb3 b4 hb4 b5 hb5
  have hfe := shortB_few hcd.1.1.2
  have hfb := shortBr_few hcd.1.2
  have hfo : ol.length ≤ 9 := by omega
  clear hcd
  have hgv : ∀ w', Keeps [] w w' → _ := fun w' hk => given_c (h2.keeps hk) (h3.keeps hk) (h4.keeps hk) (Nat.le_trans hfb.1 (by decide)) (Nat.le_trans hfb.2.1 (by decide)) (Nat.le_trans hfb.2.2 (by decide))
  generalize hE : plE es gap b ol = E
  generalize hL : plL' es gap b ol = L
  have hPl : ∀ (sv' pv' cv' xv' ov' : Value) w', Keeps [] w w' → Rd w' sv' 6 (ensL es) → Rd w' pv' 4 (spsL b.sp) → Rd w' cv' 1 (ints b.cm) → Rd w' xv' 2 (prsL b.ex) → Rd w' ov' 1 (ints ol) → Gives Tryz.prog 52 [.agg #[sv'], .int .i64 gap, .agg #[.int .i64 b.n, pv', cv', xv'], ov'] w' [] (fun _ : Value => True) (fun v => .tuple #[.agg #[v], .int .i64 E]) (fun v => [row 138 6 v L.length (ensL L).flatten]) := fun sv' pv' cv' xv' ov' w' hk r1 r2 r3 r4 r5 => by
    have := placed_c (gap := gap) r1 r2 r3 r4 r5 (hG.keeps hk)
    rwa [hE, hL] at this
  generalize hQ : Exit.then _ _ = Q
  suffices hk : ∀ (a7 : Option Addr) (cp7 b7 : Nat), Tr _ _ [(8, .int .i64 E), (7, .pointer (some ⟨b7, 0, none⟩)), (3, .pointer (some ⟨b3, 0, none⟩)), (4, .pointer (some ⟨b4, 0, none⟩)), (5, .pointer (some ⟨b5, 0, none⟩))] [blk b7 (.cells #[.slice a7 L.length cp7] 33), row 138 6 (.slice a7 L.length cp7) L.length (ensL L).flatten, blk b3 (.cells #[sv] 24), blk b4 (.cells #[.int .i64 b.n, pv, cv, xv] 83), blk b5 (.cells #[.int .i64 gap, .slice a5 ol.length cap5] 102)] (Q .normal) by
    with_reducible refine tr_drawP 14 12 (by kernel_rfl) (pure_at rfl (by kernel_rfl) (by kernel_rfl)) ?_
    refine am_val (fun β => (rk_loadB (.of rfl) (.there (.there .here)) norm_ (by rfl))) ind0 rfl ?_
    dsimp only [Nat.zero_add, Nat.reduceAdd]
    with_reducible apply am_call (ι := Value) (Φ := fun _ => True) (val := fun v => .agg #[v]) (own := fun v => [row 138 6 v es.length (enR es es.length)]) (g := id) (B := []) (args := fun _ => [.agg #[sv]])
    case hg => exact fun x => ⟨x, rfl⟩
    case hB => rfl
    case hr => exact fun β => rk_call (.of rfl) (.cons (.of rfl) .nil) inferInstance rfl
    case hd => rfl
    case hc => exact fun β w' hb => own_c (h1.keeps hb.mem.keeps) hfe
    dsimp only [id_eq, Nat.reduceAdd]
    (refine am_val (fun β => (rk_fieldAddr (.of rfl) norm0_)) ind0 rfl ?_; refine am_val (fun β => (rk_load1 (.of rfl) (At.lit .here rfl))) ind0 rfl ?_; refine am_val (fun β => (rk_loadB (.of rfl) (.there .here) norm_ (by rfl))) ind0 rfl ?_)
    dsimp only [Nat.reduceAdd]
    with_reducible apply am_call (ι := Value × Value × Value) (Φ := fun _ => True) (val := fun x => .agg #[.int .i64 b.n, x.1, x.2.1, x.2.2]) (own := fun x => [row 218 4 x.1 b.sp.length (spsL b.sp).flatten, row 3 1 x.2.1 b.cm.length (ints b.cm).flatten, rowE 121 2 x.2.2 b.ex.length (prsL b.ex).flatten]) (g := g3) (B := []) (args := fun _ => [.agg #[.int .i64 b.n, pv, cv, xv]])
    case hg => exact g3_of
    case hB => rfl
    case hr => exact fun β => rk_call (.of rfl) (.cons (.of rfl) .nil) inferInstance rfl
    case hd => rfl
    case hc => exact fun β w' hb => hgv w' hb.mem.keeps
    (refine am_val (fun β => (rk_fieldAddr (.of rfl) norm0_)) ind0 rfl ?_; refine am_val (fun β => (rk_load1 (.of rfl) (At.lit .here rfl))) ind0 rfl ?_)
    dsimp only [Nat.reduceAdd]
    with_reducible apply am_call (ι := Value) (Φ := fun _ => True) (val := id) (own := fun v => [row 3 1 v ol.length (ints ol).flatten]) (g := id) (B := []) (args := fun _ => [.slice a5 ol.length cap5])
    case hg => exact fun x => ⟨x, rfl⟩
    case hB => rfl
    case hr => exact fun β => rk_call (.of rfl) (.cons (.of rfl) .nil) inferInstance rfl
    case hd => rfl
    case hc => exact fun β w' hb => ints_c (h5'.keeps hb.mem.keeps) (by omega)
    dsimp only [id_eq, Nat.reduceAdd]
    with_reducible apply am_call (ι := Option Addr × Nat) (Φ := fun _ => True) (val := fun x => .tuple #[.agg #[.slice x.1 L.length x.2], .int .i64 E]) (own := fun x => [row 138 6 (.slice x.1 L.length x.2) L.length (ensL L).flatten]) (g := gsl) (B := [1, 5, 8]) (args := fun β => [.agg #[β 1], .int .i64 gap, .agg #[.int .i64 b.n, (g3 (β 5)).1, (g3 (β 5)).2.1, (g3 (β 5)).2.2], β 8])
    case hg => exact gsl_of
    case hB => kernel_rfl
    case hr => exact fun β => rk_call (.of rfl) (.cons (.of rfl) (.cons (.of rfl) (.cons (.of rfl) (.cons (.of rfl) .nil)))) inferInstance rfl
    case hd => rfl
    case hc =>
      intro β w' hb
      have m1 := hb.at 1 (by simp) (s := ⟨fun β => .agg #[β 1], fun β => [row 138 6 (β 1) es.length (enR es es.length)]⟩) (by kernel_rfl)
      have m5 := hb.at 5 (by simp) (s := ⟨fun β => .agg #[.int .i64 b.n, (g3 (β 5)).1, (g3 (β 5)).2.1, (g3 (β 5)).2.2], fun β => [row 218 4 (g3 (β 5)).1 b.sp.length (spsL b.sp).flatten, row 3 1 (g3 (β 5)).2.1 b.cm.length (ints b.cm).flatten, rowE 121 2 (g3 (β 5)).2.2 b.ex.length (prsL b.ex).flatten]⟩) (by kernel_rfl)
      have m8 := hb.at 8 (by simp) (s := ⟨fun β => β 8, fun β => [row 3 1 (β 8) ol.length (ints ol).flatten]⟩) (by kernel_rfl)
      dsimp only [List.cons_append, List.nil_append] at m1 m5 m8
      exact Gives.sliceV (hPl _ _ _ _ _ w' hb.mem.keeps (rdEn m1 (by exact .here)) (Mem.rdRow m5 (E := 218) (by exact .here) rfl (spsL_sz _) (spsL_length _)) (Mem.rdRow m5 (E := 3) (by exact Take.there .here) rfl (ints_sz _) (ints_length _)) (Mem.rdRowE m5 (E := 121) (by exact Take.there (.there .here)) rfl (prsL_sz _) (prsL_length _)) (Mem.rdRow m8 (E := 3) (by exact .here) rfl (ints_sz _) (ints_length _)))
    dsimp only [Nat.reduceAdd]
    refine am_val (F := fun β => .tuple #[.agg #[.slice (gsl (β 9)).1 L.length (gsl (β 9)).2], .int .i64 E]) (fun β => rk_move (.of rfl)) (fun β β' h => by simp only [h 9 (by kernel_rfl)]) rfl ?_
    refine am_val (F := fun β => .agg #[.slice (gsl (β 9)).1 L.length (gsl (β 9)).2]) (fun β => rk_extract (.of rfl) rfl) (fun β β' h => by simp only [h 9 (by kernel_rfl)]) rfl ?_
    refine am_val (F := fun β => .int .i64 E) (fun β => rk_extract (.of rfl) rfl) ind0 rfl ?_
    dsimp only [Nat.reduceAdd]
    refine am_new (fun β => (rk_alloc rfl)) (fun _ _ _ => rfl) rfl ?_
    refine am_end fun β => ?_
    dsimp only [resAll, List.nil_append, List.cons_append, List.append_eq, Nat.reduceAdd]
    generalize gsl (β 9) = y9
    generalize gnat (β 13) = b7
    obtain ⟨a7, cp7⟩ := y9
    dsimp only
    refine left_ready (rs := [14]) (by kernel_rfl) (by simp) (List.forall_mem_cons.2 ⟨?_, fun _ h => absurd h List.not_mem_nil⟩)
    refine next_step rfl ?_
    (refine tr_store (.of rfl) (.of rfl) (.there (.there (.there (.there (.there (.there .here)))))) rfl rfl (okc_cons rfl okc_nil) (lenb rfl) norm_ ?_; refine n_t ?_)
    refine left_ready (rs := [15]) (by kernel_rfl) (by simp) (List.forall_mem_cons.2 ⟨?_, fun _ h => absurd h List.not_mem_nil⟩)
    refine next_step rfl ?_
    (refine a_s rfl rfl ?_; refine n_t ?_)
    with_reducible refine left_done (by kernel_rfl) ?_
    exact tr_cut _ _ (by exact .cons rfl (.cons rfl (.cons rfl (.cons rfl (.cons rfl .nil))))) (by exact .cons .here (.cons (.there (.there (.there (.there (.there .here))))) (.cons (.there (.there (.there (.there (.there (.there (.there .here))))))) (.cons (.there (.there (.there (.there (.there (.there .here)))))) (.cons (.there (.there (.there (.there (.there .here))))) .nil))))) (hk a7 cp7 b7)
  subst hQ
  intro a7 cp7 b7
  have hch : ∀ (u : Value) (ws : List En) (bad : Int) w', E = bad → (bad ≠ 0 → L = []) → (bad = 0 → L = ws) → Rd w' (.slice a7 L.length cp7) 6 (ensL L) → Rd w' u 6 (ensL ws) → GivesV Tryz.prog 58 [.agg #[.slice a7 L.length cp7], .int .i64 E, .int .i64 bad, .agg #[u]] w' (.bool true) := fun u ws bad w' e e0 e1 r1 r2 => by
    subst e
    exact changed_t r1 r2 (by rw [← hL]; exact plL_len _ _ _ _) e0 e1
  (refine tr_then ?_; refine s_r ?_; refine tr_val (rk_loadB (.of rfl) (.there (.there .here)) norm_ (by rfl)) rfl ?_; refine tr_callV (rk_call (.of rfl) (.cons (.of rfl) .nil) inferInstance normc_) rfl (fun w' hm' => (hck w' (Mem.keeps hm'))) ?_; refine a_s rfl rfl ?_; refine n_t ?_; refine tr_seq ?_; refine s_r ?_; refine m_v rfl rfl ?_; refine tr_val (rk_eql (.of rfl) (.of rfl)) rfl ?_; refine n_t ?_; refine c_d rfl (fun hcd => ?_) (fun hcd => ?_); rotate_left; refine s_t ?_; refine tr_seq ?_; refine s_r ?_; refine m_v rfl rfl ?_; refine tr_val (rk_eql (.of rfl) (.of rfl)) rfl ?_; refine n_t ?_; refine c_d rfl (fun _ => by omega) (fun hcd => ?_); refine s_t ?_; refine tr_seq ?_; refine s_r ?_; refine m_v rfl rfl ?_; refine tr_val (rk_eql (.of rfl) (.of rfl)) rfl ?_; refine n_t ?_; refine c_d rfl (fun _ => by omega) (fun hcd => ?_); refine s_t ?_; refine s_r ?_; refine tr_new (rk_alloc rfl) rfl (fun _ _ => ?_); refine n_t ?_; refine tr_seq ?_; refine s_r ?_; refine m_v rfl rfl ?_; refine tr_val (rk_eql (.of rfl) (.of rfl)) rfl ?_; refine n_t ?_; refine c_d rfl (fun _ => by omega) (fun hcd => ?_); refine s_t ?_; refine s_r ?_; refine tr_val (rk_loadB (.of rfl) (.there .here) norm_ (by rfl)) rfl ?_; refine m_v rfl rfl ?_; refine m_v rfl rfl ?_; refine tr_val (rk_loadB (.of rfl) .here norm_ (by rfl)) rfl ?_; rotate_right)
  · have hz : chkF es = 0 := hcd
    have hs := Sound.of hz
    have hbk : ∀ w', Keeps [] w w' → GivesV Tryz.prog 47 [.agg #[.int .i64 b.n, pv, cv, xv]] w' (.int .i64 (brE b)) := fun w' hk => brkQ_c (h2.keeps hk) (h3.keeps hk) (h4.keeps hk)
    generalize hQ : Exit.then _ _ = Q
    suffices hk2 : Tr _ _ [(9, .int .i64 (pl1 es b gap)), (8, .int .i64 E), (7, .pointer (some ⟨b7, 0, none⟩)), (3, .pointer (some ⟨b3, 0, none⟩)), (4, .pointer (some ⟨b4, 0, none⟩)), (5, .pointer (some ⟨b5, 0, none⟩))] [blk b7 (.cells #[.slice a7 L.length cp7] 33), row 138 6 (.slice a7 L.length cp7) L.length (ensL L).flatten, blk b3 (.cells #[sv] 24), blk b4 (.cells #[.int .i64 b.n, pv, cv, xv] 83), blk b5 (.cells #[.int .i64 gap, .slice a5 ol.length cap5] 102)] (Q .normal) by
      with_reducible refine tr_drawM 14 (by kernel_rfl) ?_
      (refine am_val (fun β => (rk_fieldAddr (.of rfl) norm0_)) ind0 rfl ?_; refine am_val (fun β => (rk_load1 (.of rfl) (At.lit (.there (.there (.there (.there .here)))) rfl))) ind0 rfl ?_; refine am_val (fun β => (rk_lss (.of rfl) (.of rfl))) ind0 rfl ?_; refine am_val (fun β => (rk_move (.of rfl))) ind0 rfl ?_)
      by_cases hg : gap < 0
      · have hfi : ∀ (v : Value) w', Rd w' v 1 (ints [whenF true 10, brE b]) → GivesV Tryz.prog 24 [v] w' (.int .i64 (pl1 es b gap)) := fun v w' h => by
          rw [pl1, decide_eq_true hg, Bool.true_or]; exact first_q v _ w' h
        rw [show decide (gap < 0) = true from decide_eq_true hg]
        (refine am_gOff rfl (fun _ => rfl) (Or.inr rfl) rfl ?_; refine am_gOff rfl (fun _ => rfl) (Or.inr rfl) rfl ?_; refine am_gOff rfl (fun _ => rfl) (Or.inr rfl) rfl ?_; refine am_gOff rfl (fun _ => rfl) (Or.inr rfl) rfl ?_; refine am_gOff rfl (fun _ => rfl) (Or.inr rfl) rfl ?_; refine am_gOff rfl (fun _ => rfl) (Or.inr rfl) rfl ?_; refine am_val (fun β => (rk_pickB (.of rfl) (.of rfl) (.of rfl) rfl)) ind0 rfl ?_)
        with_reducible apply am_callV (B := []) (F := fun _ => .int .i64 (whenF true 10)) (args := fun _ => [.bool true, .int .i64 10])
        case hB => rfl
        case hr => exact fun β => rk_call (.of rfl) (.cons (.of rfl) (.cons (.of rfl) .nil)) inferInstance rfl
        case hi => exact ind0
        case hd => rfl
        case hc => exact fun β w' hb => when_q _ _ _
        refine am_val (fun β => (rk_loadB (.of rfl) (.there (.there (.there .here))) norm_ (by rfl))) ind0 rfl ?_
        with_reducible apply am_callV (B := []) (F := fun _ => .int .i64 (brE b)) (args := fun _ => [.agg #[.int .i64 b.n, pv, cv, xv]])
        case hB => rfl
        case hr => exact fun β => rk_call (.of rfl) (.cons (.of rfl) .nil) inferInstance rfl
        case hi => exact ind0
        case hd => rfl
        case hc => exact fun β w' hb => hbk w' hb.mem.keeps
        refine am_end fun β => ?_
        dsimp only [resAll, List.nil_append, List.cons_append, List.append_eq, Nat.reduceAdd]
        refine left_ready (rs := [14]) (by kernel_rfl) (by simp) (List.forall_mem_cons.2 ⟨?_, fun _ h => absurd h List.not_mem_nil⟩)
        refine next_step rfl ?_
        (refine tr_new (rk_sliceLit (.cons (.of rfl) (.cons (.of rfl) .nil)) rfl rfl rfl rfl) rfl (fun _ _ => ?_); refine n_t ?_)
        refine left_ready (rs := [15]) (by kernel_rfl) (by simp) (List.forall_mem_cons.2 ⟨?_, fun _ h => absurd h List.not_mem_nil⟩)
        refine next_step rfl ?_
        with_reducible apply tr_callV
        case hr => exact rk_call (.of rfl) (.cons (.of rfl) .nil) inferInstance normc_
        case hd => rfl
        case hc =>
          intro w' hm'
          exact hfi _ w' (Mem.rdBlk hm' (by exact .here) rfl rfl)
        (refine n_t ?_)
        refine left_ready (rs := [16]) (by kernel_rfl) (by simp) (List.forall_mem_cons.2 ⟨?_, fun _ h => absurd h List.not_mem_nil⟩)
        refine next_step rfl ?_
        (refine a_s rfl rfl ?_; refine n_t ?_)
        with_reducible refine left_done (by kernel_rfl) ?_
        exact tr_cut _ _ (by exact .cons rfl (.cons rfl (.cons rfl (.cons rfl (.cons rfl (.cons rfl .nil)))))) (by exact .cons (.there .here) (.cons (.there .here) (.cons (.there .here) (.cons (.there .here) (.cons (.there .here) .nil))))) hk2
      · have hfi : ∀ (v : Value) w', Rd w' v 1 (ints [whenF (decide (((gpL es es.length).length : Int) ≤ gap)) 10, brE b]) → GivesV Tryz.prog 24 [v] w' (.int .i64 (pl1 es b gap)) := fun v w' h => by
          rw [pl1, decide_eq_false hg, Bool.false_or]; exact first_q v _ w' h
        rw [show decide (gap < 0) = false from decide_eq_false hg]
        (refine am_gOn rfl (fun _ => rfl) ?_; refine am_val (fun β => (rk_fieldAddr (.of rfl) norm0_)) ind0 rfl ?_; refine am_gOn rfl (fun _ => rfl) ?_; refine am_val (fun β => (rk_load1 (.of rfl) (At.lit (.there (.there (.there (.there .here)))) rfl))) ind0 rfl ?_; refine am_gOn rfl (fun _ => rfl) ?_; refine am_val (fun β => (rk_loadB (.of rfl) (.there (.there .here)) norm_ (by rfl))) ind0 rfl ?_)
        refine am_gOn rfl (fun _ => rfl) ?_
        dsimp only [Nat.zero_add, Nat.reduceAdd]
        with_reducible apply am_call (ι := Option Addr × Nat) (Φ := fun _ => True) (val := fun x => .slice x.1 (gpL es es.length).length x.2) (own := fun x => [row 170 3 (.slice x.1 (gpL es es.length).length x.2) (gpL es es.length).length (gpR es es.length)]) (g := gsl) (B := []) (args := fun _ => [.agg #[sv]])
        case hg => exact gsl_of
        case hB => rfl
        case hr => exact fun β => rk_call (.of rfl) (.cons (.of rfl) .nil) inferInstance rfl
        case hd => rfl
        case hc => exact fun β w' hb => (gapsQ_c (h1.keeps hb.mem.keeps) hs).slice
        dsimp only [Nat.reduceAdd]
        refine am_gOn rfl (fun _ => rfl) ?_
        refine am_val (F := fun _ => .int .i64 ((gpL es es.length).length : Int)) (fun β => rk_len_slice (.of rfl)) ind0 rfl ?_
        (refine am_gOn rfl (fun _ => rfl) ?_; refine am_val (fun β => (rk_geq (.of rfl) (.of rfl))) ind0 rfl ?_)
        refine am_val (F := fun _ => .bool (decide (((gpL es es.length).length : Int) ≤ gap))) (fun β => rk_pickB (.of rfl) (.of rfl) (.of rfl) rfl) ind0 rfl ?_
        with_reducible apply am_callV (B := []) (F := fun _ => .int .i64 (whenF (decide (((gpL es es.length).length : Int) ≤ gap)) 10)) (args := fun _ => [.bool (decide (((gpL es es.length).length : Int) ≤ gap)), .int .i64 10])
        case hB => rfl
        case hr => exact fun β => rk_call (.of rfl) (.cons (.of rfl) (.cons (.of rfl) .nil)) inferInstance rfl
        case hi => exact ind0
        case hd => rfl
        case hc => exact fun β w' hb => when_q _ _ _
        refine am_val (fun β => (rk_loadB (.of rfl) (.there (.there (.there .here))) norm_ (by rfl))) ind0 rfl ?_
        with_reducible apply am_callV (B := []) (F := fun _ => .int .i64 (brE b)) (args := fun _ => [.agg #[.int .i64 b.n, pv, cv, xv]])
        case hB => rfl
        case hr => exact fun β => rk_call (.of rfl) (.cons (.of rfl) .nil) inferInstance rfl
        case hi => exact ind0
        case hd => rfl
        case hc => exact fun β w' hb => hbk w' hb.mem.keeps
        refine am_end fun β => ?_
        dsimp only [resAll, List.nil_append, List.cons_append, List.append_eq, Nat.reduceAdd]
        refine left_ready (rs := [14]) (by kernel_rfl) (by simp) (List.forall_mem_cons.2 ⟨?_, fun _ h => absurd h List.not_mem_nil⟩)
        refine next_step rfl ?_
        (refine tr_new (rk_sliceLit (.cons (.of rfl) (.cons (.of rfl) .nil)) rfl rfl rfl rfl) rfl (fun _ _ => ?_); refine n_t ?_)
        refine left_ready (rs := [15]) (by kernel_rfl) (by simp) (List.forall_mem_cons.2 ⟨?_, fun _ h => absurd h List.not_mem_nil⟩)
        refine next_step rfl ?_
        with_reducible apply tr_callV
        case hr => exact rk_call (.of rfl) (.cons (.of rfl) .nil) inferInstance normc_
        case hd => rfl
        case hc =>
          intro w' hm'
          exact hfi _ w' (Mem.rdBlk hm' (by exact .here) rfl rfl)
        (refine n_t ?_)
        refine left_ready (rs := [16]) (by kernel_rfl) (by simp) (List.forall_mem_cons.2 ⟨?_, fun _ h => absurd h List.not_mem_nil⟩)
        refine next_step rfl ?_
        (refine a_s rfl rfl ?_; refine n_t ?_)
        with_reducible refine left_done (by kernel_rfl) ?_
        exact tr_cut _ _ (by exact .cons rfl (.cons rfl (.cons rfl (.cons rfl (.cons rfl (.cons rfl .nil)))))) (by exact .cons (.there (.there .here)) (.cons (.there (.there .here)) (.cons (.there (.there .here)) (.cons (.there (.there .here)) (.cons (.there (.there .here)) .nil))))) hk2
    subst hQ
    (refine tr_then ?_; refine tr_seq ?_; refine s_r ?_; refine m_v rfl rfl ?_; refine tr_val (rk_eql (.of rfl) (.of rfl)) rfl ?_; refine n_t ?_; refine c_d rfl (fun hcd => ?_) (fun hcd => ?_); refine tr_region ?_; refine tr_val (rk_loadB (.of rfl) (.there (.there (.there .here))) norm_ (by rfl)) rfl ?_; refine f_a rfl rfl norm0_ ?_; refine tr_val (rk_load1 (.of rfl) (At.lit (.there (.there (.there (.there .here)))) rfl)) rfl ?_; rotate_left; refine s_t ?_; refine tr_seq ?_; refine s_r ?_; refine m_v rfl rfl ?_; refine tr_val (rk_eql (.of rfl) (.of rfl)) rfl ?_; refine n_t ?_; refine c_d rfl (fun _ => by omega) (fun hcd => ?_); refine s_t ?_; refine s_r ?_; refine tr_new (rk_alloc rfl) rfl (fun _ _ => ?_); refine n_t ?_; refine tr_seq ?_; refine s_r ?_; refine m_v rfl rfl ?_; refine tr_val (rk_eql (.of rfl) (.of rfl)) rfl ?_; refine n_t ?_; refine c_d rfl (fun _ => by omega) (fun hcd => ?_); refine s_t ?_; refine s_r ?_; refine tr_val (rk_loadB (.of rfl) (.there .here) norm_ (by rfl)) rfl ?_; refine m_v rfl rfl ?_; refine m_v rfl rfl ?_; refine tr_val (rk_loadB (.of rfl) .here norm_ (by rfl)) rfl ?_; rotate_right)
    · have hp1 : pl1 es b gap = 0 := hcd
      obtain ⟨hgb, hb0⟩ := pl1_ok hp1
      have hok := BrOk.of hb0
      obtain ⟨k0, rfl⟩ : ∃ k : Nat, gap = k := ⟨gap.toNat, by omega⟩
      with_reducible apply tr_callV
      case hr => exact rk_call (.of rfl) (.cons (.of rfl) (.cons (.of rfl) .nil)) inferInstance normc_
      case hd => rfl
      case hc =>
        intro w' hm'
        exact orderQ_c (h2.keeps hm'.keeps) hone3 hone4 (h5'.keeps hm'.keeps)
      (refine a_s rfl rfl ?_; refine n_t ?_; refine tr_seq ?_; refine s_r ?_; refine m_v rfl rfl ?_; refine tr_val (rk_eql (.of rfl) (.of rfl)) rfl ?_; refine n_t ?_; refine c_d rfl (fun hcd => ?_) (fun hcd => ?_); refine tr_region ?_; refine tr_val (rk_loadB (.of rfl) (.there (.there (.there .here))) norm_ (by rfl)) rfl ?_; refine f_a rfl rfl norm0_ ?_; refine tr_val (rk_load1 (.of rfl) (At.lit (.there (.there (.there (.there .here)))) rfl)) rfl ?_; rotate_left; refine s_t ?_; refine s_r ?_; refine tr_new (rk_alloc rfl) rfl (fun _ _ => ?_); refine n_t ?_; refine tr_seq ?_; refine s_r ?_; refine m_v rfl rfl ?_; refine tr_val (rk_eql (.of rfl) (.of rfl)) rfl ?_; refine n_t ?_; refine c_d rfl (fun _ => by omega) (fun hcd => ?_); refine s_t ?_; refine s_r ?_; refine tr_val (rk_loadB (.of rfl) (.there .here) norm_ (by rfl)) rfl ?_; refine m_v rfl rfl ?_; refine m_v rfl rfl ?_; refine tr_val (rk_loadB (.of rfl) .here norm_ (by rfl)) rfl ?_; rotate_right)
      · have ho0 : orderQ b ol = 0 := hcd
        obtain ⟨hl8, hin⟩ := orderQ_ok ho0
        have hrd : Rd w (.slice a5 ol.length cap5) 1 (natsL (cfO ol)) := by
          rw [cfO, natsL_ints, toNat_back fun i hi => (hin i hi).1]; exact h5'
        have hlt : ∀ i ∈ cfO ol, i < b.sp.length := fun i hi => by
          obtain ⟨j, hj, rfl⟩ := List.mem_map.1 hi
          have := hin j hj
          omega
        have hlo : (cfO ol).length = ol.length := by rw [cfO, List.length_map]
        with_reducible apply tr_callV
        case hr => exact rk_call (.of rfl) (.cons (.of rfl) (.cons (.of rfl) .nil)) inferInstance normc_
        case hd => rfl
        case hc =>
          intro w' hm'
          exact ruleQ_c (h2.keeps hm'.keeps) (h3.keeps hm'.keeps) (h4.keeps hm'.keeps) (hrd.keeps hm'.keeps) hok hlt (by omega)
        (refine a_s rfl rfl ?_; refine n_r ?_; refine tr_new (rk_alloc rfl) rfl (fun _ _ => ?_); refine n_t ?_; refine tr_seq ?_; refine s_r ?_; refine m_v rfl rfl ?_; refine tr_val (rk_eql (.of rfl) (.of rfl)) rfl ?_; refine n_t ?_; refine c_d rfl (fun hcd => ?_) (fun hcd => ?_); refine tr_region ?_; refine tr_val (rk_loadB (.of rfl) (.there (.there (.there .here))) norm_ (by rfl)) rfl ?_; refine f_a rfl rfl norm0_ ?_; refine tr_val (rk_load1 (.of rfl) (At.lit (.there (.there (.there (.there (.there .here))))) rfl)) rfl ?_; refine tr_val (rk_loadB (.of rfl) (.there (.there (.there (.there .here)))) norm_ (by rfl)) rfl ?_; refine f_a rfl rfl norm0_ ?_; refine tr_val (rk_load1 (.of rfl) (At.lit (.there (.there (.there (.there (.there .here))))) rfl)) rfl ?_; rotate_left; refine s_t ?_; refine s_r ?_; refine tr_val (rk_loadB (.of rfl) (.there .here) norm_ (by rfl)) rfl ?_; refine m_v rfl rfl ?_; refine m_v rfl rfl ?_; refine tr_val (rk_loadB (.of rfl) .here norm_ (by rfl)) rfl ?_; rotate_right)
        · have hr0 : ruleQ b (cfO ol) = 0 := hcd
          have h5E := plE_5 (es := es) (gap := (k0 : Int)) hz hp1 ho0 hr0
          with_reducible apply tr_call
          case hr => exact rk_call (.of rfl) (.cons (.of rfl) (.cons (.of rfl) (.cons (.of rfl) (.cons (.of rfl) .nil)))) inferInstance normc_
          case hd => rfl
          case ht => exact Takes.nil
          case hc =>
            intro w1 fp hm1 _ hs1
            obtain rfl : fp = [] := hs1
            exact placedQ_c (k0 := k0) (h1.keeps hm1.keeps) (h2.keeps hm1.keeps) hone3 hone4 (hrd.keeps hm1.keeps) hs (by omega) hok hlt (by omega)
          intro vp _
          dsimp only [id_eq, List.cons_append, List.nil_append]
          refine tr_rowSl (E := 115) (sz := 6) (by exact .here) fun ap cpp e => ?_
          subst e
          (refine m_v rfl rfl ?_; refine tr_val (rk_extract (.of rfl) rfl) rfl ?_; refine tr_val (rk_extract (.of rfl) rfl) rfl ?_; refine tr_store (.of rfl) (.of rfl) (.there .here) rfl rfl (okc_cons rfl okc_nil) (lenb rfl) norm_ ?_; refine a_s rfl rfl ?_; refine n_r ?_; refine tr_val (rk_loadB (.of rfl) (.there (.there .here)) norm_ (by rfl)) rfl ?_; refine m_v rfl rfl ?_; refine m_v rfl rfl ?_; refine tr_val (rk_loadB (.of rfl) .here norm_ (by rfl)) rfl ?_)
          with_reducible apply tr_callV
          case hr => exact rk_call (.of rfl) (.cons (.of rfl) (.cons (.of rfl) (.cons (.of rfl) (.cons (.of rfl) .nil)))) inferInstance normc_
          case hd => rfl
          case hc =>
            intro w' hm'
            exact hch _ (pqL es b (cfO ol) (plGap es k0)) _ w' (hE.symm.trans h5E) (fun h => hL.symm.trans (plL_0 (by rw [h5E]; exact h))) (fun _ => hL.symm.trans (plL_5 h5E)) (rdEnF (n := L.length) hm' (E := 138) (by exact Take.there (.there (.there .here))) rfl) (rdEnF (n := (pqL es b (cfO ol) (plGap es k0)).length) hm' (E := 115) (by exact Take.there .here) rfl)
          (refine a_s rfl rfl ?_; refine n_t ?_; refine tr_ret ?_; refine tr_retE rfl (ends1 rfl rfl) ?_)
          rfl
        · have hr0 : ¬ ruleQ b (cfO ol) = 0 := by assumption
          with_reducible apply tr_callV
          case hr => exact rk_call (.of rfl) (.cons (.of rfl) (.cons (.of rfl) (.cons (.of rfl) (.cons (.of rfl) .nil)))) inferInstance normc_
          case hd => rfl
          case hc =>
            intro w' hm'
            exact hch _ [] _ w' (hE.symm.trans (plE_4 hz hp1 ho0 hr0)) (fun h => hL.symm.trans (plL_0 (by rw [(plE_4 hz hp1 ho0 hr0)]; exact h))) (fun h => absurd h (by assumption)) (rdEnF (n := L.length) hm' (E := 138) (by exact Take.there (.there .here)) rfl) (Rd.nil _ _)
          (refine a_s rfl rfl ?_; refine n_t ?_; refine tr_ret ?_; refine tr_retE rfl (ends1 rfl rfl) ?_)
          rfl
      · have ho0 : ¬ orderQ b ol = 0 := by assumption
        with_reducible apply tr_callV
        case hr => exact rk_call (.of rfl) (.cons (.of rfl) (.cons (.of rfl) (.cons (.of rfl) (.cons (.of rfl) .nil)))) inferInstance normc_
        case hd => rfl
        case hc =>
          intro w' hm'
          exact hch _ [] _ w' (hE.symm.trans (plE_3 hz hp1 ho0)) (fun h => hL.symm.trans (plL_0 (by rw [(plE_3 hz hp1 ho0)]; exact h))) (fun h => absurd h (by assumption)) (rdEnF (n := L.length) hm' (E := 138) (by exact Take.there (.there .here)) rfl) (Rd.nil _ _)
        (refine a_s rfl rfl ?_; refine n_t ?_; refine tr_ret ?_; refine tr_retE rfl (ends1 rfl rfl) ?_)
        rfl
    · have hp1 : ¬ pl1 es b gap = 0 := by assumption
      with_reducible apply tr_callV
      case hr => exact rk_call (.of rfl) (.cons (.of rfl) (.cons (.of rfl) (.cons (.of rfl) (.cons (.of rfl) .nil)))) inferInstance normc_
      case hd => rfl
      case hc =>
        intro w' hm'
        exact hch _ [] _ w' (hE.symm.trans (plE_2 hz hp1)) (fun h => hL.symm.trans (plL_0 (by rw [(plE_2 hz hp1)]; exact h))) (fun h => absurd h (by assumption)) (rdEnF (n := L.length) hm' (E := 138) (by exact Take.there (.there .here)) rfl) (Rd.nil _ _)
      (refine a_s rfl rfl ?_; refine n_t ?_; refine tr_ret ?_; refine tr_retE rfl (ends1 rfl rfl) ?_)
      rfl
  · have hz : ¬ chkF es = 0 := by assumption
    with_reducible apply tr_callV
    case hr => exact rk_call (.of rfl) (.cons (.of rfl) (.cons (.of rfl) (.cons (.of rfl) (.cons (.of rfl) .nil)))) inferInstance normc_
    case hd => rfl
    case hc =>
      intro w' hm'
      exact hch _ [] _ w' (hE.symm.trans (plE_1 hz)) (fun h => hL.symm.trans (plL_0 (by rw [(plE_1 hz)]; exact h))) (fun h => absurd h (by assumption)) (rdEnF (n := L.length) hm' (E := 138) (by exact Take.there (.there .here)) rfl) (Rd.nil _ _)
    (refine a_s rfl rfl ?_; refine n_t ?_; refine tr_ret ?_; refine tr_retE rfl (ends1 rfl rfl) ?_)
    rfl
end Go.Proofs.A1
