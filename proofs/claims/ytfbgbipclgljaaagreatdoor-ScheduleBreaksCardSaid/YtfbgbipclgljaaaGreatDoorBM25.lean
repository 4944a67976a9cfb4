/- Parts of the proof: S90. -/
import Derived.Test.YtfbgbipclgljaaaGreatDoorBM24
import Derived.Test.YtfbgbipclgljaaaGreatDoorBM22
import Derived.Test.YtfbgbipclgljaaaGreatDoorBM19
import Derived.Test.YtfbgbipclgljaaaGreatDoorBM06
set_option linter.unusedSectionVars false
set_option linter.unusedVariables false
set_option linter.unusedSimpArgs false
/- S90 -/
namespace Go.Proofs.A1
open Go Go.SL

theorem rk_eqlAT {P : Program} {c : Cx} {sl : Slots} {hs : List Asn} {dst : Option Tmp} {ty : TypeId} {pos : String} {af : Array Edge} {g : Option (Nat × Bool)} {t u : TypeId} {ts : List TypeId} [h : Leaf P t ts] {x y : Operand} {a b a' b' : Int} (hx : Is sl x (.agg #[.int .i64 a, .int .i64 b])) (hy : Is sl y (.agg #[.int .i64 a', .int .i64 b'])) (hok : okL P ts [.int .i64 a, .int .i64 b] = true) (e : a = a' ∧ b = b') :
    RunV P c sl hs ⟨dst, .binOp .eql t x y u, ty, pos, af, g⟩ (.bool true) := by
  obtain ⟨rfl, rfl⟩ := e
  exact rk_eqlA (xs := [.int .i64 a, .int .i64 b]) (ys := [.int .i64 a, .int .i64 b]) hx hy hok (by simp [eqL, leq])
set_option maxHeartbeats 4000000 in
set_option maxRecDepth 100000 in
theorem breaks_law {sv cv xv ov : Value} {b : Br} {ol : List Int} {w : World} (h1 : Rd w sv 4 (spsL b.sp)) (h2 : Rd w cv 1 (ints b.cm)) (h3 : Rd w xv 2 (prsL b.ex)) (h4 : Rd w ov 1 (ints ol)) (hG : Glob w) (hT : Tab10 w) :
    GivesV Tryz.prog 8 [.agg #[.int .i64 b.n, sv, cv, xv], ov] w (.bool true) := by
  have haw : ∀ w', Keeps [] w w' → GivesV Tryz.prog 17 [] w' (.bool true) := fun w' hk => awake_c w' (hG.keeps hk) (hT.keeps hk)
  have hone1 := Rd.one h1
  have hone2 := Rd.one h2
  have hone3 := Rd.one h3
  have h4' := h4
  obtain ⟨a4, cap4, bs4, os4, rfl, hcap4, hmax4, ha4, hc4⟩ := h4
  rw [ints_length] at *
  unfold maxLen at hmax4
  have hsh : ∀ w', Keeps [] w w' → GivesV Tryz.prog 43 [.agg #[.int .i64 b.n, sv, cv, xv]] w' (.bool (shortBr b)) := fun w' hk => shortBr_c (h1.keeps hk) (h2.keeps hk) (h3.keeps hk)
  refine givesV_of_tr Tryz.func8 rfl rfl ?_
  (refine s_r ?_; refine tr_new (rk_box (.of rfl) rfl) rfl (fun _ _ => ?_); refine a_s rfl rfl ?_; refine n_t ?_; refine tr_seq ?_; refine s_r ?_; refine tr_callV (rk_call (.of rfl) .nil inferInstance normc_) rfl (fun w' hm' => (haw w' (Mem.keeps hm'))) ?_; refine tr_val (rk_not (.of rfl)) rfl ?_; refine m_v rfl rfl ?_; refine tr_vG1 rfl rfl inferInstance (fun hg hgp => (rk_loadB (.of rfl) .here norm_ (by rfl))) rfl ?_; refine tr_callVG1 rfl rfl (fun hg => (rk_call (.of rfl) (.cons (.ofg hg rfl) .nil) inferInstance normc_)) rfl (fun hg w' hm' => (hsh w' (Mem.keeps hm'))) ?_; refine tr_vG1 rfl rfl inferInstance (fun hg hgp => (rk_not (.ofg hgp rfl))) rfl ?_; refine tr_val (rk_pick_or (.of rfl) rfl) rfl ?_; refine m_v rfl rfl ?_; refine v_g rfl rfl rfl rfl ?_; refine tr_vG1 rfl rfl inferInstance (fun hg hgp => (rk_len_slice (.ofg hg rfl))) rfl ?_; refine tr_vG1 rfl rfl inferInstance (fun hg hgp => (rk_gtr (.ofg hg rfl) (.of rfl))) rfl ?_; refine tr_val (rk_pick_or (.of rfl) rfl) rfl ?_; refine n_t ?_; refine c_b rfl (fun hcd => ?_) (fun hcd => ?_); refine s_r ?_; refine tr_callV (rk_call (.of rfl) .nil inferInstance normc_) rfl (fun w' hm' => (haw w' (Mem.keeps hm'))) ?_; refine a_s rfl rfl ?_; refine n_t ?_; refine r_t ?_; refine tr_retE rfl (ends1 rfl rfl) ?_; rotate_left; refine s_t ?_; refine s_r ?_; refine tr_val (rk_loadB (.of rfl) .here norm_ (by rfl)) rfl ?_; rotate_right)
  · rfl
  have hfb := shortBr_few hcd.1.2
  have hol : ol.length ≤ 9 := by omega
  clear hcd
  have hgv : ∀ w', Keeps [] w w' → _ := fun w' hk => given_c (h1.keeps hk) (h2.keeps hk) (h3.keeps hk) (Nat.le_trans hfb.1 (by decide)) (Nat.le_trans hfb.2.1 (by decide)) (Nat.le_trans hfb.2.2 (by decide))
  have hlisted : ∀ (e : Int) (va vb : Value) (l1 l2 : List Nat) w', l1 = l2 → (e ≠ 0 → l1 = []) → Rd w' va 1 (((l1).map fun (i : Nat) => (i : Int)).map oneV) → Rd w' vb 1 ((l2.map fun (i : Nat) => (i : Int)).map oneV) → GivesV Tryz.prog 42 [va, .int .i64 e, .int .i64 e, vb] w' (.bool true) := fun e va vb l1 l2 w' e2 h0 ha hb => by
    subst e2
    have := listed_c (e := e) (bad := e) ha hb
    rwa [listOk_same _ _ (fun h => by rw [h0 h]; rfl)] at this
  have hnum : ∀ (e n : Int) w', (e ≠ 0 → n = 0) → GivesV Tryz.prog 51 [.int .i64 n, .int .i64 e, .int .i64 e, .int .i64 n] w' (.bool true) := fun e n w' h => by
    have := number_c n e e n w'
    rwa [numOk_same _ _ h] at this
  generalize hE : cfE b ol = E
  generalize hV : cfV b ol = V
  obtain ⟨T1, T2⟩ := V
  generalize hFL : fiL b = FL
  generalize hFV : fiV b = FV
  obtain ⟨f1, f2⟩ := FV
  generalize hFU : fuF b = FU
  have hCF : ∀ (x1 x2 x3 y : Value) w', Rd w' x1 4 (spsL b.sp) → Rd w' x2 1 (ints b.cm) → Rd w' x3 2 (prsL b.ex) → Rd w' y 1 (ints ol) → GivesV Tryz.prog 61 [.agg #[.int .i64 b.n, x1, x2, x3], y] w' (.tuple #[.agg #[.int .i64 T1, .int .i64 T2], .int .i64 E]) := fun x1 x2 x3 y w' r1 r2 r3 r4 => by
    have := checkFill_c r1 r2 r3 r4
    rwa [hE, hV] at this
  have hFill : ∀ (x1 x2 x3 : Value) w', Rd w' x1 4 (spsL b.sp) → Rd w' x2 1 (ints b.cm) → Rd w' x3 2 (prsL b.ex) → Gives Tryz.prog 62 [.agg #[.int .i64 b.n, x1, x2, x3]] w' [] (fun _ : Value => True) (fun v => .tuple #[v, .agg #[.int .i64 f1, .int .i64 f2], .int .i64 (brE b)]) (fun v => [row 3 1 v FL.length (natsV FL)]) := fun x1 x2 x3 w' r1 r2 r3 => by
    have := fill_c r1 r2 r3
    rwa [hFV, hFL] at this
  have hFull : ∀ (x1 x2 x3 : Value) w', Rd w' x1 4 (spsL b.sp) → Rd w' x2 1 (ints b.cm) → Rd w' x3 2 (prsL b.ex) → GivesV Tryz.prog 63 [.agg #[.int .i64 b.n, x1, x2, x3]] w' (.tuple #[.int .i64 FU, .int .i64 (brE b)]) := fun x1 x2 x3 w' r1 r2 r3 => by
    have := fullest_c r1 r2 r3
    rwa [hFU] at this

  with_reducible apply tr_call
  case hr => exact rk_call (.of rfl) (.cons (.of rfl) .nil) inferInstance normc_
  case hd => rfl
  case ht => exact Takes.nil
  case hc =>
    intro w1 fp hm1 _ hs1
    obtain rfl : fp = [] := hs1
    exact hgv w1 hm1.keeps
  rintro ⟨x11, x12, x13⟩ _
  dsimp only [id_eq, List.cons_append, List.nil_append]
  refine m_v rfl rfl ?_
  with_reducible apply tr_call
  case hr => exact rk_call (.of rfl) (.cons (.of rfl) .nil) inferInstance normc_
  case hd => rfl
  case ht => exact Takes.nil
  case hc =>
    intro w1 fp hm1 _ hs1
    obtain rfl : fp = [] := hs1
    exact ints_c (l := ol) (h4'.keeps hm1.keeps) (by omega)
  intro iv _
  dsimp only [id_eq, List.cons_append, List.nil_append]
  with_reducible apply tr_callV
  case hr => exact rk_call (.of rfl) (.cons (.of rfl) (.cons (.of rfl) .nil)) inferInstance normc_
  case hd => rfl
  case hc =>
    intro w' hm'
    exact hCF x11 x12 x13 iv w' (Mem.rdRow hm' (E := 218) (v := x11) (by exact Take.there .here) rfl (spsL_sz _) (spsL_length _)) (Mem.rdRow hm' (E := 3) (v := x12) (by exact Take.there (.there .here)) rfl (ints_sz _) (ints_length _)) (Mem.rdRowE hm' (E := 121) (v := x13) (by exact Take.there (.there (.there .here))) rfl (prsL_sz _) (prsL_length _)) (Mem.rdRow hm' (E := 3) (v := iv) (by exact .here) rfl (ints_sz _) (ints_length _))
  (refine m_v rfl rfl ?_; refine tr_val (rk_extract (.of rfl) rfl) rfl ?_; refine tr_val (rk_extract (.of rfl) rfl) rfl ?_; refine tr_new (rk_alloc rfl) rfl (fun _ _ => ?_); refine tr_store (.of rfl) (.of rfl) .here rfl rfl (okc_cons rfl (okc_cons rfl okc_nil)) (lenb rfl) norm_ ?_; refine a_s rfl rfl ?_; refine n_r ?_; refine tr_val (rk_loadB (.of rfl) (.there (.there (.there (.there (.there .here))))) norm_ (by rfl)) rfl ?_)
  with_reducible apply tr_call
  case hr => exact rk_call (.of rfl) (.cons (.of rfl) .nil) inferInstance normc_
  case hd => rfl
  case ht => exact Takes.nil
  case hc =>
    intro w1 fp hm1 _ hs1
    obtain rfl : fp = [] := hs1
    exact hgv w1 hm1.keeps
  rintro ⟨x21, x22, x23⟩ _
  dsimp only [id_eq, List.cons_append, List.nil_append]
  with_reducible apply tr_call
  case hr => exact rk_call (.of rfl) (.cons (.of rfl) .nil) inferInstance normc_
  case hd => rfl
  case ht => exact Takes.nil
  case hc =>
    intro w1 fp hm1 _ hs1
    obtain rfl : fp = [] := hs1
    exact hFill x21 x22 x23 w1 (Mem.rdRow hm1 (E := 218) (v := x21) (by exact .here) rfl (spsL_sz _) (spsL_length _)) (Mem.rdRow hm1 (E := 3) (v := x22) (by exact Take.there .here) rfl (ints_sz _) (ints_length _)) (Mem.rdRowE hm1 (E := 121) (v := x23) (by exact Take.there (.there .here)) rfl (prsL_sz _) (prsL_length _))
  intro fv _
  dsimp only [id_eq, List.cons_append, List.nil_append]
  (refine m_v rfl rfl ?_; refine tr_val (rk_extract (.of rfl) rfl) rfl ?_; refine tr_val (rk_extract (.of rfl) rfl) rfl ?_; refine tr_val (rk_extract (.of rfl) rfl) rfl ?_; refine tr_new (rk_alloc rfl) rfl (fun _ _ => ?_); refine a_s rfl rfl ?_; refine tr_store (.of rfl) (.of rfl) .here rfl rfl (okc_cons rfl (okc_cons rfl okc_nil)) (lenb rfl) norm_ ?_; refine a_s rfl rfl ?_; refine n_r ?_; refine tr_val (rk_loadB (.of rfl) (.there (.there (.there (.there (.there (.there (.there (.there (.there (.there .here)))))))))) norm_ (by rfl)) rfl ?_)
  with_reducible apply tr_call
  case hr => exact rk_call (.of rfl) (.cons (.of rfl) .nil) inferInstance normc_
  case hd => rfl
  case ht => exact Takes.nil
  case hc =>
    intro w1 fp hm1 _ hs1
    obtain rfl : fp = [] := hs1
    exact hgv w1 hm1.keeps
  rintro ⟨x31, x32, x33⟩ _
  dsimp only [id_eq, List.cons_append, List.nil_append]
  with_reducible apply tr_callV
  case hr => exact rk_call (.of rfl) (.cons (.of rfl) .nil) inferInstance normc_
  case hd => rfl
  case hc =>
    intro w' hm'
    exact hFull x31 x32 x33 w' (Mem.rdRow hm' (E := 218) (v := x31) (by exact .here) rfl (spsL_sz _) (spsL_length _)) (Mem.rdRow hm' (E := 3) (v := x32) (by exact Take.there .here) rfl (ints_sz _) (ints_length _)) (Mem.rdRowE hm' (E := 121) (v := x33) (by exact Take.there (.there .here)) rfl (prsL_sz _) (prsL_length _))
  (refine m_v rfl rfl ?_; refine tr_val (rk_extract (.of rfl) rfl) rfl ?_; refine tr_val (rk_extract (.of rfl) rfl) rfl ?_; refine a_s rfl rfl ?_; refine a_s rfl rfl ?_; refine n_r ?_; refine tr_val (rk_loadB (.of rfl) (.there (.there (.there (.there (.there (.there (.there (.there (.there (.there (.there (.there (.there .here))))))))))))) norm_ (by rfl)) rfl ?_)
  with_reducible apply tr_callV
  case hr => exact rk_call (.of rfl) (.cons (.of rfl) .nil) inferInstance normc_
  case hd => rfl
  case hc =>
    intro w' hm'
    exact brkQ_c (h1.keeps hm'.keeps) (h2.keeps hm'.keeps) (h3.keeps hm'.keeps)
  (refine a_s rfl rfl ?_; refine n_r ?_; refine m_v rfl rfl ?_; refine a_s rfl rfl ?_; refine n_r ?_; refine tr_new (rk_alloc rfl) rfl (fun _ _ => ?_); refine tr_new (rk_alloc rfl) rfl (fun _ _ => ?_); refine n_r ?_; refine a_s rfl rfl ?_; refine n_r ?_; refine a_s rfl rfl ?_; refine n_t ?_; refine tr_seq ?_; refine s_r ?_; refine m_v rfl rfl ?_; refine tr_val (rk_eql (.of rfl) (.of rfl)) rfl ?_; refine n_t ?_; refine c_d rfl (fun hcd => ?_) (fun hcd => ?_); refine s_r ?_; refine tr_val (rk_loadB (.of rfl) (.there (.there (.there (.there (.there (.there (.there (.there (.there (.there (.there (.there (.there (.there (.there .here))))))))))))))) norm_ (by rfl)) rfl ?_; refine m_v rfl rfl ?_; rotate_left; refine s_t ?_; refine tr_seq ?_; refine s_r ?_; refine m_v rfl rfl ?_; refine tr_val (rk_eql (.of rfl) (.of rfl)) rfl ?_; refine n_t ?_; refine c_d rfl (fun _ => by omega) (fun hcd => ?_); refine s_t ?_; refine tr_seq ?_; refine s_r ?_; refine m_v rfl rfl ?_; refine tr_val (rk_eql (.of rfl) (.of rfl)) rfl ?_; refine n_t ?_; refine c_d rfl (fun _ => by omega) (fun hcd => ?_); refine s_t ?_; refine s_r ?_; refine tr_val (rk_loadB (.of rfl) (.there (.there (.there (.there (.there (.there (.there (.there (.there (.there (.there (.there (.there (.there (.there .here))))))))))))))) norm_ (by rfl)) rfl ?_; rotate_right)
  · have hz : brE b = 0 := hcd
    clear hcd
    have hok := BrOk.of hz
    have hfo := fillF_ok hok
    have hfd := hfo.dif
    have hfw := hfo.few hok
    obtain rfl : FL = fillF b := by rw [← hFL, fiL, if_pos hz]
    have hFV' : fiV b = (tV b.sp (fillF b) (fillF b).length, tL b.sp (fillF b) (fillF b).length) := by rw [fiV, if_pos hz]
    obtain ⟨rfl, rfl⟩ : f1 = tV b.sp (fillF b) (fillF b).length ∧ f2 = tL b.sp (fillF b) (fillF b).length := by
      have := hFV.symm.trans hFV'
      exact ⟨congrArg Prod.fst this, congrArg Prod.snd this⟩
    obtain rfl : FU = fullL b (fillsA b) := by rw [← hFU, fuF, if_pos hz]
    have hE1 : cfE b ol = orderE b ol := by rw [cfE, if_neg (by rw [hz]; decide)]
    rw [orderE_eq hok] at hE1
    have hV0 : cfE b ol ≠ 0 → T1 = 0 ∧ T2 = 0 := fun h => by
      rw [cfV, if_neg h] at hV
      exact ⟨(congrArg Prod.fst hV).symm, (congrArg Prod.snd hV).symm⟩
    with_reducible apply tr_callV
    case hr => exact rk_call (.of rfl) (.cons (.of rfl) (.cons (.of rfl) .nil)) inferInstance normc_
    case hd => rfl
    case hc =>
      intro w' hm'
      exact orderQ_c (h1.keeps hm'.keeps) hone2 hone3 (h4'.keeps hm'.keeps)
    (refine a_s rfl rfl ?_; refine n_t ?_; refine tr_seq ?_)
    with_reducible refine tr_drawM 4 (by kernel_rfl) ?_
    refine am_val (fun β => (rk_loadB (.of rfl) (.there (.there (.there (.there (.there (.there (.there (.there (.there (.there (.there (.there (.there (.there (.there .here))))))))))))))) norm_ (by rfl))) ind0 rfl ?_
    dsimp only [Nat.zero_add, Nat.reduceAdd]
    with_reducible apply am_call (ι := Value) (Φ := fun _ => True) (val := id) (own := fun v => [row 3 1 v (fillF b).length (natsV (fillF b))]) (g := id) (B := []) (args := fun _ => [.agg #[.int .i64 b.n, sv, cv, xv]])
    case hg => exact fun x => ⟨x, rfl⟩
    case hB => rfl
    case hr => exact fun β => rk_call (.of rfl) (.cons (.of rfl) .nil) inferInstance rfl
    case hd => rfl
    case hc => exact fun β w' hb => fillQ_c hz (h1.keeps hb.mem.keeps) (h2.keeps hb.mem.keeps) (h3.keeps hb.mem.keeps)
    dsimp only [id_eq, Nat.reduceAdd]
    refine am_val (fun β => (rk_loadB (.of rfl) (.there (.there (.there (.there (.there (.there (.there (.there (.there (.there (.there (.there (.there (.there (.there .here))))))))))))))) norm_ (by rfl))) ind0 rfl ?_
    dsimp only [Nat.reduceAdd]
    with_reducible apply am_callV (B := []) (F := fun _ => .int .i64 (fullL b (fillsA b))) (args := fun _ => [.agg #[.int .i64 b.n, sv, cv, xv]])
    case hB => rfl
    case hr => exact fun β => rk_call (.of rfl) (.cons (.of rfl) .nil) inferInstance rfl
    case hi => exact ind0
    case hd => rfl
    case hc => exact fun β w' hb => fullQ_c hz (h1.keeps hb.mem.keeps) (h2.keeps hb.mem.keeps) (h3.keeps hb.mem.keeps)
    refine am_end fun β => ?_
    dsimp only [resAll, List.nil_append, List.cons_append, List.append_eq, Nat.reduceAdd]
    generalize β 1 = bv
    clear β
    refine left_ready (rs := [4]) (by kernel_rfl) (by simp) (List.forall_mem_cons.2 ⟨?_, fun _ h => absurd h List.not_mem_nil⟩)
    refine next_step rfl ?_
    (refine a_s rfl rfl ?_; refine n_t ?_)
    refine left_ready (rs := [5]) (by kernel_rfl) (by simp) (List.forall_mem_cons.2 ⟨?_, fun _ h => absurd h List.not_mem_nil⟩)
    refine next_step rfl ?_
    (refine a_s rfl rfl ?_; refine n_t ?_)
    with_reducible refine left_done (by kernel_rfl) ?_
    (refine tr_then ?_; refine tr_region ?_; refine tr_val (rk_loadB (.of rfl) (.there (.there (.there (.there (.there (.there (.there (.there (.there (.there (.there (.there (.there (.there (.there (.there .here)))))))))))))))) norm_ (by rfl)) rfl ?_; refine m_v rfl rfl ?_)
    with_reducible apply tr_callV
    case hr => exact rk_call (.of rfl) (.cons (.of rfl) (.cons (.of rfl) .nil)) inferInstance normc_
    case hd => rfl
    case hc =>
      intro w' hm'
      exact measQ_c (o := fillF b) (h1.keeps hm'.keeps) (rdRowN (v := bv) hm' (by exact .here)) hone2 hone3 hok.spOk hfd.lt (Nat.le_trans hfw (by decide))
    (refine tr_store (.of rfl) (.of rfl) (.there .here) rfl rfl (okc_cons rfl (okc_cons rfl okc_nil)) (lenb rfl) norm_ ?_; refine n_t ?_; refine tr_seq ?_; refine s_r ?_; refine m_v rfl rfl ?_; refine tr_val (rk_eql (.of rfl) (.of rfl)) rfl ?_; refine n_t ?_; refine c_d rfl (fun hcd => ?_) (fun hcd => ?_); refine tr_region ?_; refine tr_val (rk_loadB (.of rfl) (.there (.there (.there (.there (.there (.there (.there (.there (.there (.there (.there (.there (.there (.there (.there (.there .here)))))))))))))))) norm_ (by rfl)) rfl ?_; refine m_v rfl rfl ?_; rotate_left; refine s_t ?_; refine tr_seq ?_; refine s_r ?_; refine m_v rfl rfl ?_; refine tr_val (rk_eql (.of rfl) (.of rfl)) rfl ?_; refine n_t ?_; refine c_d rfl (fun _ => by omega) (fun hcd => ?_); refine s_t ?_; refine s_r ?_; refine tr_val (rk_loadB (.of rfl) (.there (.there (.there (.there (.there (.there (.there (.there (.there (.there (.there (.there (.there (.there (.there (.there .here)))))))))))))))) norm_ (by rfl)) rfl ?_; rotate_right)
    · have ho : orderQ b ol = 0 := hcd
      clear hcd
      obtain ⟨hl8, hnn⟩ := orderQ_ok ho
      have hlt : ∀ i ∈ cfO ol, i < b.sp.length := fun i hi => by
        obtain ⟨j, hj, rfl⟩ := List.mem_map.1 hi
        have := hnn j hj
        omega
      have hfew : (cfO ol).length ≤ 1000 := by rw [cfO, List.length_map]; omega
      have hrd : Rd w (.slice a4 ol.length cap4) 1 (natsL (cfO ol)) := by
        rw [cfO, natsL_ints, toNat_back fun i hi => (hnn i hi).1]; exact h4'
      rw [if_neg (by rw [ho]; decide)] at hE1
      obtain rfl : E = ruleQ b (cfO ol) := hE.symm.trans hE1
      with_reducible apply tr_callV
      case hr => exact rk_call (.of rfl) (.cons (.of rfl) (.cons (.of rfl) .nil)) inferInstance normc_
      case hd => rfl
      case hc =>
        intro w' hm'
        exact ruleQ_c (h1.keeps hm'.keeps) (h2.keeps hm'.keeps) (h3.keeps hm'.keeps) (hrd.keeps hm'.keeps) hok hlt hfew
      (refine a_s rfl rfl ?_; refine n_t ?_; refine tr_seq ?_; refine s_r ?_; refine m_v rfl rfl ?_; refine tr_val (rk_eql (.of rfl) (.of rfl)) rfl ?_; refine n_t ?_; refine c_d rfl (fun hcd => ?_) (fun hcd => ?_); refine tr_region ?_; refine tr_val (rk_loadB (.of rfl) (.there (.there (.there (.there (.there (.there (.there (.there (.there (.there (.there (.there (.there (.there (.there (.there .here)))))))))))))))) norm_ (by rfl)) rfl ?_; refine m_v rfl rfl ?_; rotate_left; refine s_t ?_; refine s_r ?_; refine tr_val (rk_loadB (.of rfl) (.there (.there (.there (.there (.there (.there (.there (.there (.there (.there (.there (.there (.there (.there (.there (.there .here)))))))))))))))) norm_ (by rfl)) rfl ?_; rotate_right)
      · have hr : ruleQ b (cfO ol) = 0 := hcd
        clear hcd
        have hV1 : cfV b ol = (tV b.sp (cfO ol) (cfO ol).length, tL b.sp (cfO ol) (cfO ol).length) := by rw [cfV, if_pos (by rw [hE1]; exact hr)]
        obtain ⟨rfl, rfl⟩ : T1 = tV b.sp (cfO ol) (cfO ol).length ∧ T2 = tL b.sp (cfO ol) (cfO ol).length := by
          have := hV.symm.trans hV1
          exact ⟨congrArg Prod.fst this, congrArg Prod.snd this⟩
        with_reducible apply tr_callV
        case hr => exact rk_call (.of rfl) (.cons (.of rfl) (.cons (.of rfl) .nil)) inferInstance normc_
        case hd => rfl
        case hc =>
          intro w' hm'
          exact measQ_c (o := cfO ol) (h1.keeps hm'.keeps) (hrd.keeps hm'.keeps) hone2 hone3 hok.spOk hlt hfew
        (refine tr_store (.of rfl) (.of rfl) (.there (.there .here)) rfl rfl (okc_cons rfl (okc_cons rfl okc_nil)) (lenb rfl) norm_ ?_; refine n_r ?_; refine tr_val (rk_loadB (.of rfl) (.there (.there (.there (.there (.there (.there (.there (.there (.there (.there (.there (.there (.there (.there (.there (.there .here)))))))))))))))) norm_ (by rfl)) rfl ?_)
        with_reducible apply tr_call
        case hr => exact rk_call (.of rfl) (.cons (.of rfl) .nil) inferInstance normc_
        case hd => rfl
        case ht => exact Takes.nil
        case hc =>
          intro w1 fp hm1 _ hs1
          obtain rfl : fp = [] := hs1
          exact hgv w1 hm1.keeps
        rintro ⟨x91, x92, x93⟩ _
        dsimp only [id_eq, List.cons_append, List.nil_append]
        with_reducible apply tr_callV
        case hr => exact rk_call (.of rfl) (.cons (.of rfl) .nil) inferInstance normc_
        case hd => rfl
        case hc =>
          intro w' hm'
          exact brk_c (Mem.rdRow hm' (E := 218) (v := x91) (by exact .here) rfl (spsL_sz _) (spsL_length _)) (Mem.rdRow hm' (E := 3) (v := x92) (by exact Take.there .here) rfl (ints_sz _) (ints_length _)) (Mem.rdRowE hm' (E := 121) (v := x93) (by exact Take.there (.there .here)) rfl (prsL_sz _) (prsL_length _))
        (refine m_v rfl rfl ?_; refine tr_val (rk_eqlT (.of rfl) (.of rfl) rfl) rfl ?_; refine m_v rfl rfl ?_; refine tr_gOn rfl rfl ?_; refine tr_val (rk_loadB (.of rfl) (.there (.there (.there (.there (.there (.there (.there (.there (.there (.there (.there (.there (.there (.there .here)))))))))))))) norm_ (by rfl)) rfl ?_; refine tr_gOn rfl rfl ?_; refine tr_val (rk_loadB (.of rfl) (.there (.there (.there .here))) norm_ (by rfl)) rfl ?_; refine tr_gOn rfl rfl ?_; refine tr_val (rk_eqlAT (.of rfl) (.of rfl) rfl (And.intro rfl rfl)) rfl ?_; refine tr_val (rk_pickB (.of rfl) (.of rfl) (.of rfl) rfl) rfl ?_; refine m_v rfl rfl ?_; refine tr_gOn rfl rfl ?_; refine m_v rfl rfl ?_; refine tr_gOn rfl rfl ?_; refine m_v rfl rfl ?_; refine tr_gOn rfl rfl ?_; refine tr_val (rk_eqlT (.of rfl) (.of rfl) rfl) rfl ?_; refine tr_val (rk_pickB (.of rfl) (.of rfl) (.of rfl) rfl) rfl ?_; refine m_v rfl rfl ?_; refine tr_gOn rfl rfl ?_; refine m_v rfl rfl ?_; refine tr_gOn rfl rfl ?_; refine m_v rfl rfl ?_; refine tr_gOn rfl rfl ?_; refine m_v rfl rfl ?_; refine tr_gOn rfl rfl ?_; refine m_v rfl rfl ?_; refine tr_gOn rfl rfl ?_)
        with_reducible apply tr_callV
        case hr => exact rk_call (.of rfl) (.cons (.of rfl) (.cons (.of rfl) (.cons (.of rfl) (.cons (.of rfl) .nil)))) inferInstance normc_
        case hd => rfl
        case hc =>
          intro w' hm'
          exact hlisted (brE b) fv _ (fillF b) (fillF b) w' rfl (fun h => absurd hz h) (rdNatN (v := fv) hm' (by exact Take.there (.there (.there (.there (.there (.there (.there (.there (.there (.there .here)))))))))) rfl) (rdNatN (v := bv) hm' (by exact Take.there (.there (.there (.there (.there .here))))) rfl)
        (refine tr_val (rk_pickB (.of rfl) (.of rfl) (.of rfl) rfl) rfl ?_; refine m_v rfl rfl ?_; refine tr_gOn rfl rfl ?_; refine tr_val (rk_loadB (.of rfl) (.there (.there (.there (.there (.there (.there (.there (.there (.there .here))))))))) norm_ (by rfl)) rfl ?_; refine tr_gOn rfl rfl ?_; refine tr_val (rk_loadB (.of rfl) (.there (.there (.there (.there .here)))) norm_ (by rfl)) rfl ?_; refine tr_gOn rfl rfl ?_; refine tr_val (rk_eqlAT (.of rfl) (.of rfl) rfl (And.intro rfl rfl)) rfl ?_; refine tr_val (rk_pickB (.of rfl) (.of rfl) (.of rfl) rfl) rfl ?_; refine m_v rfl rfl ?_; refine tr_gOn rfl rfl ?_; refine m_v rfl rfl ?_; refine tr_gOn rfl rfl ?_; refine m_v rfl rfl ?_; refine tr_gOn rfl rfl ?_; refine m_v rfl rfl ?_; refine tr_gOn rfl rfl ?_; refine m_v rfl rfl ?_; refine tr_gOn rfl rfl ?_)
        with_reducible apply tr_callV
        case hr => exact rk_call (.of rfl) (.cons (.of rfl) (.cons (.of rfl) (.cons (.of rfl) (.cons (.of rfl) .nil)))) inferInstance normc_
        case hd => rfl
        case hc =>
          intro w' hm'
          exact hnum (brE b) _ w' (fun h => absurd hz h)
        (refine tr_val (rk_pickB (.of rfl) (.of rfl) (.of rfl) rfl) rfl ?_; refine a_s rfl rfl ?_; refine n_t ?_; refine tr_ret ?_; refine tr_retE rfl (ends1 rfl rfl) ?_)
        rfl
      · have hr : ¬ ruleQ b (cfO ol) = 0 := hcd
        obtain ⟨rfl, rfl⟩ := hV0 (by rw [hE1]; exact hr)
        with_reducible apply tr_call
        case hr => exact rk_call (.of rfl) (.cons (.of rfl) .nil) inferInstance normc_
        case hd => rfl
        case ht => exact Takes.nil
        case hc =>
          intro w1 fp hm1 _ hs1
          obtain rfl : fp = [] := hs1
          exact hgv w1 hm1.keeps
        rintro ⟨x91, x92, x93⟩ _
        dsimp only [id_eq, List.cons_append, List.nil_append]
        with_reducible apply tr_callV
        case hr => exact rk_call (.of rfl) (.cons (.of rfl) .nil) inferInstance normc_
        case hd => rfl
        case hc =>
          intro w' hm'
          exact brk_c (Mem.rdRow hm' (E := 218) (v := x91) (by exact .here) rfl (spsL_sz _) (spsL_length _)) (Mem.rdRow hm' (E := 3) (v := x92) (by exact Take.there .here) rfl (ints_sz _) (ints_length _)) (Mem.rdRowE hm' (E := 121) (v := x93) (by exact Take.there (.there .here)) rfl (prsL_sz _) (prsL_length _))
        (refine m_v rfl rfl ?_; refine tr_val (rk_eqlT (.of rfl) (.of rfl) rfl) rfl ?_; refine m_v rfl rfl ?_; refine tr_gOn rfl rfl ?_; refine tr_val (rk_loadB (.of rfl) (.there (.there (.there (.there (.there (.there (.there (.there (.there (.there (.there (.there (.there (.there .here)))))))))))))) norm_ (by rfl)) rfl ?_; refine tr_gOn rfl rfl ?_; refine tr_val (rk_loadB (.of rfl) (.there (.there (.there (.there (.there .here))))) norm_ (by rfl)) rfl ?_; refine tr_gOn rfl rfl ?_; refine tr_val (rk_eqlAT (.of rfl) (.of rfl) rfl (And.intro rfl rfl)) rfl ?_; refine tr_val (rk_pickB (.of rfl) (.of rfl) (.of rfl) rfl) rfl ?_; refine m_v rfl rfl ?_; refine tr_gOn rfl rfl ?_; refine m_v rfl rfl ?_; refine tr_gOn rfl rfl ?_; refine m_v rfl rfl ?_; refine tr_gOn rfl rfl ?_; refine tr_val (rk_eqlT (.of rfl) (.of rfl) rfl) rfl ?_; refine tr_val (rk_pickB (.of rfl) (.of rfl) (.of rfl) rfl) rfl ?_; refine m_v rfl rfl ?_; refine tr_gOn rfl rfl ?_; refine m_v rfl rfl ?_; refine tr_gOn rfl rfl ?_; refine m_v rfl rfl ?_; refine tr_gOn rfl rfl ?_; refine m_v rfl rfl ?_; refine tr_gOn rfl rfl ?_; refine m_v rfl rfl ?_; refine tr_gOn rfl rfl ?_)
        with_reducible apply tr_callV
        case hr => exact rk_call (.of rfl) (.cons (.of rfl) (.cons (.of rfl) (.cons (.of rfl) (.cons (.of rfl) .nil)))) inferInstance normc_
        case hd => rfl
        case hc =>
          intro w' hm'
          exact hlisted (brE b) fv _ (fillF b) (fillF b) w' rfl (fun h => absurd hz h) (rdNatN (v := fv) hm' (by exact Take.there (.there (.there (.there (.there (.there (.there (.there (.there (.there .here)))))))))) rfl) (rdNatN (v := bv) hm' (by exact Take.there (.there (.there (.there .here)))) rfl)
        (refine tr_val (rk_pickB (.of rfl) (.of rfl) (.of rfl) rfl) rfl ?_; refine m_v rfl rfl ?_; refine tr_gOn rfl rfl ?_; refine tr_val (rk_loadB (.of rfl) (.there (.there (.there (.there (.there (.there (.there (.there (.there .here))))))))) norm_ (by rfl)) rfl ?_; refine tr_gOn rfl rfl ?_; refine tr_val (rk_loadB (.of rfl) (.there (.there (.there .here))) norm_ (by rfl)) rfl ?_; refine tr_gOn rfl rfl ?_; refine tr_val (rk_eqlAT (.of rfl) (.of rfl) rfl (And.intro rfl rfl)) rfl ?_; refine tr_val (rk_pickB (.of rfl) (.of rfl) (.of rfl) rfl) rfl ?_; refine m_v rfl rfl ?_; refine tr_gOn rfl rfl ?_; refine m_v rfl rfl ?_; refine tr_gOn rfl rfl ?_; refine m_v rfl rfl ?_; refine tr_gOn rfl rfl ?_; refine m_v rfl rfl ?_; refine tr_gOn rfl rfl ?_; refine m_v rfl rfl ?_; refine tr_gOn rfl rfl ?_)
        with_reducible apply tr_callV
        case hr => exact rk_call (.of rfl) (.cons (.of rfl) (.cons (.of rfl) (.cons (.of rfl) (.cons (.of rfl) .nil)))) inferInstance normc_
        case hd => rfl
        case hc =>
          intro w' hm'
          exact hnum (brE b) _ w' (fun h => absurd hz h)
        (refine tr_val (rk_pickB (.of rfl) (.of rfl) (.of rfl) rfl) rfl ?_; refine a_s rfl rfl ?_; refine n_t ?_; refine tr_ret ?_; refine tr_retE rfl (ends1 rfl rfl) ?_)
        rfl
    · have ho : ¬ orderQ b ol = 0 := by assumption
      rw [if_pos ho] at hE1
      obtain rfl : E = orderQ b ol := hE.symm.trans hE1
      obtain ⟨rfl, rfl⟩ := hV0 (by rw [hE1]; exact ho)
      with_reducible apply tr_call
      case hr => exact rk_call (.of rfl) (.cons (.of rfl) .nil) inferInstance normc_
      case hd => rfl
      case ht => exact Takes.nil
      case hc =>
        intro w1 fp hm1 _ hs1
        obtain rfl : fp = [] := hs1
        exact hgv w1 hm1.keeps
      rintro ⟨x91, x92, x93⟩ _
      dsimp only [id_eq, List.cons_append, List.nil_append]
      with_reducible apply tr_callV
      case hr => exact rk_call (.of rfl) (.cons (.of rfl) .nil) inferInstance normc_
      case hd => rfl
      case hc =>
        intro w' hm'
        exact brk_c (Mem.rdRow hm' (E := 218) (v := x91) (by exact .here) rfl (spsL_sz _) (spsL_length _)) (Mem.rdRow hm' (E := 3) (v := x92) (by exact Take.there .here) rfl (ints_sz _) (ints_length _)) (Mem.rdRowE hm' (E := 121) (v := x93) (by exact Take.there (.there .here)) rfl (prsL_sz _) (prsL_length _))
      (refine m_v rfl rfl ?_; refine tr_val (rk_eqlT (.of rfl) (.of rfl) rfl) rfl ?_; refine m_v rfl rfl ?_; refine tr_gOn rfl rfl ?_; refine tr_val (rk_loadB (.of rfl) (.there (.there (.there (.there (.there (.there (.there (.there (.there (.there (.there (.there (.there (.there .here)))))))))))))) norm_ (by rfl)) rfl ?_; refine tr_gOn rfl rfl ?_; refine tr_val (rk_loadB (.of rfl) (.there (.there (.there (.there (.there .here))))) norm_ (by rfl)) rfl ?_; refine tr_gOn rfl rfl ?_; refine tr_val (rk_eqlAT (.of rfl) (.of rfl) rfl (And.intro rfl rfl)) rfl ?_; refine tr_val (rk_pickB (.of rfl) (.of rfl) (.of rfl) rfl) rfl ?_; refine m_v rfl rfl ?_; refine tr_gOn rfl rfl ?_; refine m_v rfl rfl ?_; refine tr_gOn rfl rfl ?_; refine m_v rfl rfl ?_; refine tr_gOn rfl rfl ?_; refine tr_val (rk_eqlT (.of rfl) (.of rfl) rfl) rfl ?_; refine tr_val (rk_pickB (.of rfl) (.of rfl) (.of rfl) rfl) rfl ?_; refine m_v rfl rfl ?_; refine tr_gOn rfl rfl ?_; refine m_v rfl rfl ?_; refine tr_gOn rfl rfl ?_; refine m_v rfl rfl ?_; refine tr_gOn rfl rfl ?_; refine m_v rfl rfl ?_; refine tr_gOn rfl rfl ?_; refine m_v rfl rfl ?_; refine tr_gOn rfl rfl ?_)
      with_reducible apply tr_callV
      case hr => exact rk_call (.of rfl) (.cons (.of rfl) (.cons (.of rfl) (.cons (.of rfl) (.cons (.of rfl) .nil)))) inferInstance normc_
      case hd => rfl
      case hc =>
        intro w' hm'
        exact hlisted (brE b) fv _ (fillF b) (fillF b) w' rfl (fun h => absurd hz h) (rdNatN (v := fv) hm' (by exact Take.there (.there (.there (.there (.there (.there (.there (.there (.there (.there .here)))))))))) rfl) (rdNatN (v := bv) hm' (by exact Take.there (.there (.there (.there .here)))) rfl)
      (refine tr_val (rk_pickB (.of rfl) (.of rfl) (.of rfl) rfl) rfl ?_; refine m_v rfl rfl ?_; refine tr_gOn rfl rfl ?_; refine tr_val (rk_loadB (.of rfl) (.there (.there (.there (.there (.there (.there (.there (.there (.there .here))))))))) norm_ (by rfl)) rfl ?_; refine tr_gOn rfl rfl ?_; refine tr_val (rk_loadB (.of rfl) (.there (.there (.there .here))) norm_ (by rfl)) rfl ?_; refine tr_gOn rfl rfl ?_; refine tr_val (rk_eqlAT (.of rfl) (.of rfl) rfl (And.intro rfl rfl)) rfl ?_; refine tr_val (rk_pickB (.of rfl) (.of rfl) (.of rfl) rfl) rfl ?_; refine m_v rfl rfl ?_; refine tr_gOn rfl rfl ?_; refine m_v rfl rfl ?_; refine tr_gOn rfl rfl ?_; refine m_v rfl rfl ?_; refine tr_gOn rfl rfl ?_; refine m_v rfl rfl ?_; refine tr_gOn rfl rfl ?_; refine m_v rfl rfl ?_; refine tr_gOn rfl rfl ?_)
      with_reducible apply tr_callV
      case hr => exact rk_call (.of rfl) (.cons (.of rfl) (.cons (.of rfl) (.cons (.of rfl) (.cons (.of rfl) .nil)))) inferInstance normc_
      case hd => rfl
      case hc =>
        intro w' hm'
        exact hnum (brE b) _ w' (fun h => absurd hz h)
      (refine tr_val (rk_pickB (.of rfl) (.of rfl) (.of rfl) rfl) rfl ?_; refine a_s rfl rfl ?_; refine n_t ?_; refine tr_ret ?_; refine tr_retE rfl (ends1 rfl rfl) ?_)
      rfl
  · have hz : ¬ brE b = 0 := by assumption
    obtain rfl : FL = [] := by rw [← hFL, fiL, if_neg hz]
    have hFV' : fiV b = (0, 0) := by rw [fiV, if_neg hz]
    obtain ⟨rfl, rfl⟩ : f1 = 0 ∧ f2 = 0 := by
      have := hFV.symm.trans hFV'
      exact ⟨congrArg Prod.fst this, congrArg Prod.snd this⟩
    obtain rfl : FU = 0 := by rw [← hFU, fuF, if_neg hz]
    have hE1 : cfE b ol = brE b := by rw [cfE, if_pos hz]
    obtain rfl : E = brE b := hE.symm.trans hE1
    have hV' : cfV b ol = (0, 0) := by rw [cfV, if_neg (by rw [hE1]; exact hz)]
    obtain ⟨rfl, rfl⟩ : T1 = 0 ∧ T2 = 0 := by
      have := hV.symm.trans hV'
      exact ⟨congrArg Prod.fst this, congrArg Prod.snd this⟩
    with_reducible apply tr_call
    case hr => exact rk_call (.of rfl) (.cons (.of rfl) .nil) inferInstance normc_
    case hd => rfl
    case ht => exact Takes.nil
    case hc =>
      intro w1 fp hm1 _ hs1
      obtain rfl : fp = [] := hs1
      exact hgv w1 hm1.keeps
    rintro ⟨x91, x92, x93⟩ _
    dsimp only [id_eq, List.cons_append, List.nil_append]
    with_reducible apply tr_callV
    case hr => exact rk_call (.of rfl) (.cons (.of rfl) .nil) inferInstance normc_
    case hd => rfl
    case hc =>
      intro w' hm'
      exact brk_c (Mem.rdRow hm' (E := 218) (v := x91) (by exact .here) rfl (spsL_sz _) (spsL_length _)) (Mem.rdRow hm' (E := 3) (v := x92) (by exact Take.there .here) rfl (ints_sz _) (ints_length _)) (Mem.rdRowE hm' (E := 121) (v := x93) (by exact Take.there (.there .here)) rfl (prsL_sz _) (prsL_length _))
    (refine m_v rfl rfl ?_; refine tr_val (rk_eqlT (.of rfl) (.of rfl) rfl) rfl ?_; refine m_v rfl rfl ?_; refine tr_gOn rfl rfl ?_; refine tr_val (rk_loadB (.of rfl) (.there (.there (.there (.there (.there (.there (.there (.there (.there (.there (.there (.there (.there .here))))))))))))) norm_ (by rfl)) rfl ?_; refine tr_gOn rfl rfl ?_; refine tr_val (rk_loadB (.of rfl) (.there (.there (.there (.there .here)))) norm_ (by rfl)) rfl ?_; refine tr_gOn rfl rfl ?_; refine tr_val (rk_eqlAT (.of rfl) (.of rfl) rfl (And.intro rfl rfl)) rfl ?_; refine tr_val (rk_pickB (.of rfl) (.of rfl) (.of rfl) rfl) rfl ?_; refine m_v rfl rfl ?_; refine tr_gOn rfl rfl ?_; refine m_v rfl rfl ?_; refine tr_gOn rfl rfl ?_; refine m_v rfl rfl ?_; refine tr_gOn rfl rfl ?_; refine tr_val (rk_eqlT (.of rfl) (.of rfl) rfl) rfl ?_; refine tr_val (rk_pickB (.of rfl) (.of rfl) (.of rfl) rfl) rfl ?_; refine m_v rfl rfl ?_; refine tr_gOn rfl rfl ?_; refine m_v rfl rfl ?_; refine tr_gOn rfl rfl ?_; refine m_v rfl rfl ?_; refine tr_gOn rfl rfl ?_; refine m_v rfl rfl ?_; refine tr_gOn rfl rfl ?_; refine m_v rfl rfl ?_; refine tr_gOn rfl rfl ?_)
    with_reducible apply tr_callV
    case hr => exact rk_call (.of rfl) (.cons (.of rfl) (.cons (.of rfl) (.cons (.of rfl) (.cons (.of rfl) .nil)))) inferInstance normc_
    case hd => rfl
    case hc =>
      intro w' hm'
      exact hlisted (brE b) fv _ [] [] w' rfl (fun _ => rfl) (rdNatN (v := fv) hm' (by exact Take.there (.there (.there (.there (.there (.there (.there (.there (.there .here))))))))) rfl) (Rd.nil _ _)
    (refine tr_val (rk_pickB (.of rfl) (.of rfl) (.of rfl) rfl) rfl ?_; refine m_v rfl rfl ?_; refine tr_gOn rfl rfl ?_; refine tr_val (rk_loadB (.of rfl) (.there (.there (.there (.there (.there (.there (.there (.there .here)))))))) norm_ (by rfl)) rfl ?_; refine tr_gOn rfl rfl ?_; refine tr_val (rk_loadB (.of rfl) (.there (.there (.there .here))) norm_ (by rfl)) rfl ?_; refine tr_gOn rfl rfl ?_; refine tr_val (rk_eqlAT (.of rfl) (.of rfl) rfl (And.intro rfl rfl)) rfl ?_; refine tr_val (rk_pickB (.of rfl) (.of rfl) (.of rfl) rfl) rfl ?_; refine m_v rfl rfl ?_; refine tr_gOn rfl rfl ?_; refine m_v rfl rfl ?_; refine tr_gOn rfl rfl ?_; refine m_v rfl rfl ?_; refine tr_gOn rfl rfl ?_; refine m_v rfl rfl ?_; refine tr_gOn rfl rfl ?_; refine m_v rfl rfl ?_; refine tr_gOn rfl rfl ?_)
    with_reducible apply tr_callV
    case hr => exact rk_call (.of rfl) (.cons (.of rfl) (.cons (.of rfl) (.cons (.of rfl) (.cons (.of rfl) .nil)))) inferInstance normc_
    case hd => rfl
    case hc =>
      intro w' hm'
      exact hnum (brE b) _ w' (fun _ => rfl)
    (refine tr_val (rk_pickB (.of rfl) (.of rfl) (.of rfl) rfl) rfl ?_; refine a_s rfl rfl ?_; refine n_t ?_; refine tr_ret ?_; refine tr_retE rfl (ends1 rfl rfl) ?_)
    rfl
end Go.Proofs.A1

