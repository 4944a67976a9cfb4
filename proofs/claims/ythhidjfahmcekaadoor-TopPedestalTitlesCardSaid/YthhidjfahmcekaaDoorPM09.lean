/- Parts of the proof: DU11 DU12 DU13 DU14 DU15 DU16 DU17 DU18. -/
import Derived.Test.YthhidjfahmcekaaDoorPM08
import Derived.Test.YthhidjfahmcekaaDoorPM05
set_option linter.unusedSectionVars false
set_option linter.unusedVariables false
set_option linter.unusedSimpArgs false
namespace Go.Proofs.A1
open Go Go.SL
theorem bad_of {a:Int} (ha:0 ≤ a ∧ a ≤ 255) (h:9 < a / 2 ^ (4:Int).toNat ∨ 9 < andF a 15):badD a = true:=by
  rw [and15 ha] at h
  have h:9 < a / 16 ∨ 9 < a % 16:=h
  unfold badD
  rw [Bool.or_eq_true,decide_eq_true_eq,decide_eq_true_eq];exact h
theorem bad_not {a:Int} (ha:0 ≤ a ∧ a ≤ 255) (h:¬ (9 < a / 2 ^ (4:Int).toNat ∨ 9 < andF a 15)):badD a = false:=by
  rw [and15 ha] at h
  have h:¬ (9 < a / 16 ∨ 9 < a % 16):=h
  unfold badD
  rw [Bool.or_eq_false_iff,decide_eq_false_iff_not,decide_eq_false_iff_not];omega
theorem hi_of {a:Int} (ha:0 ≤ a ∧ a ≤ 255):IntKind.i64.wrap (a / 2 ^ (4:Int).toNat) = a / 16:=i64w (by show _ ≤ a / 16 ∧ a / 16 ≤ _;omega)
theorem lo_of {a:Int} (ha:0 ≤ a ∧ a ≤ 255):IntKind.i64.wrap (andF a 15) = a % 16:=by rw [and15 ha];exact i64w (by omega)
def fieldK (a0 a1 a2 a3:Int) (k:Nat):List Value:=[.int .i64 0,.bool false,.int .i64 (if 3 < k then unb a3 else 0),.int .i64 (if 2 < k then unb a2 else 0),.int .i64 (if 1 < k then unb a1 else 0),.int .i64 (if 0 < k then unb a0 else 0),.int .i64 0]
theorem rdE_9 {W:List Int} (h:wa W 8 ≠ 63 ∨ wa W 9 ≠ 253):rdE W = 1 ∧ rdF W = Stm.zero:=by
  have:rdE W = 1:=by unfold rdE;rw [if_pos h]
  exact ⟨this,by unfold rdF;rw [this];rfl⟩
theorem rdE_7 {W:List Int} (h:¬ (wa W 8 ≠ 63 ∨ wa W 9 ≠ 253)) (h7:parF (W.take 7) ≠ wa W 7):rdE W = 27 ∧ rdF W = Stm.zero:=by
  have:rdE W = 27:=by unfold rdE;rw [if_neg h,if_pos h7]
  exact ⟨this,by unfold rdF;rw [this];rfl⟩
theorem rdE_d {W:List Int} (h:¬ (wa W 8 ≠ 63 ∨ wa W 9 ≠ 253)) (h7:¬ parF (W.take 7) ≠ wa W 7) (hd:(badD (wa W 0) || badD (wa W 1) || badD (wa W 2) || badD (wa W 3)) = true):rdE W = 1 ∧ rdF W = Stm.zero:=by
  have:rdE W = 1:=by unfold rdE;rw [if_neg h,if_neg h7,if_pos hd]
  exact ⟨this,by unfold rdF;rw [this];rfl⟩
theorem rdE_r {W:List Int} (h:¬ (wa W 8 ≠ 63 ∨ wa W 9 ≠ 253)) (h7:¬ parF (W.take 7) ≠ wa W 7) (hd:¬ (badD (wa W 0) || badD (wa W 1) || badD (wa W 2) || badD (wa W 3)) = true):rdE W = if rtOkB (wa W 4) then stmE (stmW W) else 1:=by
  unfold rdE;rw [if_neg h,if_neg h7,if_neg hd]
theorem par7_c {c:Cx} {hs hs':List Asn} {w:World} {b:Nat} {a0 a1 a2 a3 a4 a5 a6 a7 a8 a9:Int} {E:TypeId} {fz:Nat × Nat} (hm:Mem c hs w) (ht:Take hs (SL.blk b (.cells #[.int .u8 a0,.int .u8 a1,.int .u8 a2,.int .u8 a3,.int .u8 a4,.int .u8 a5,.int .u8 a6,.int .u8 a7,.int .u8 a8,.int .u8 a9] E fz)) hs'):GivesV Tryd.prog 62 [.slice (some ⟨b,0,none⟩) 7 10] w (.int .u8 (parF [a0,a1,a2,a3,a4,a5,a6])):=
  parity_c (rdBys (cs:=[.int .u8 a0,.int .u8 a1,.int .u8 a2,.int .u8 a3,.int .u8 a4,.int .u8 a5,.int .u8 a6,.int .u8 a7,.int .u8 a8,.int .u8 a9]) hm ht rfl rfl (by decide) (by decide))
set_option maxHeartbeats 4000000 in
theorem read10_c (a0 a1 a2 a3 a4 a5 a6 a7 a8 a9:Int) (hb:∀ x ∈ [a0,a1,a2,a3,a4,a5,a6,a7,a8,a9],0 ≤ x ∧ x ≤ 255) (w:World) (hG:GlobR w):GivesV Tryd.prog 29 [.agg #[.int .u8 a0,.int .u8 a1,.int .u8 a2,.int .u8 a3,.int .u8 a4,.int .u8 a5,.int .u8 a6,.int .u8 a7,.int .u8 a8,.int .u8 a9]] w (.tuple #[.agg (rdF [a0,a1,a2,a3,a4,a5,a6,a7,a8,a9]).cells.toArray,.int .i64 (rdE [a0,a1,a2,a3,a4,a5,a6,a7,a8,a9])]):=by
  have h0:0 ≤ a0 ∧ a0 ≤ 255:=hb _ (by simp)
  have h1:0 ≤ a1 ∧ a1 ≤ 255:=hb _ (by simp)
  have h2:0 ≤ a2 ∧ a2 ≤ 255:=hb _ (by simp)
  have h3:0 ≤ a3 ∧ a3 ≤ 255:=hb _ (by simp)
  have h4:0 ≤ a4 ∧ a4 ≤ 255:=hb _ (by simp)
  have h5:0 ≤ a5 ∧ a5 ≤ 255:=hb _ (by simp)
  have h6:0 ≤ a6 ∧ a6 ≤ 255:=hb _ (by simp)
  have h7:0 ≤ a7 ∧ a7 ≤ 255:=hb _ (by simp)
  have h8:0 ≤ a8 ∧ a8 ≤ 255:=hb _ (by simp)
  have h9:0 ≤ a9 ∧ a9 ≤ 255:=hb _ (by simp)
  refine givesV_of_tr Tryd.func29 rfl rfl ?_
  (refine s_r ?_;refine tr_new (rk_box (.of rfl) rfl) rfl (fun _ _=>?_);refine tr_new (rk_alloc rfl) rfl (fun _ _=>?_);refine a_s rfl rfl ?_;refine n_t ?_;refine tr_seq ?_;refine s_r ?_;refine tr_val (rk_sliceA_l (.of rfl) (.of rfl) (by omega) (by omega) norm1_ norm1_) rfl ?_;refine tr_val (rk_s2ap (.of rfl) rfl) rfl ?_;refine tr_val (rk_loadB (.of rfl) (.there .here) norm_ (by rfl)) rfl ?_;refine tr_val (rk_buildL (.cons (.of rfl) (.cons (.of rfl) .nil)) norm_) rfl ?_;refine tr_val (rk_neqA (.of rfl) (.of rfl) (okL_int (okL_int okL_nil)) rfl) rfl ?_;refine n_t ?_;refine c_b rfl (fun hcd=>?_) (fun hcd=>?_);refine s_r ?_;refine tr_val (rk_buildL .nil norm_) rfl ?_;refine tr_store (.of rfl) (.of rfl) .here rfl rfl (okc_cons rfl (okc_cons rfl (okc_cons rfl (okc_cons rfl (okc_cons rfl (okc_cons rfl (okc_cons rfl okc_nil))))))) (lenb rfl) norm_ ?_;refine a_s rfl rfl ?_;refine n_t ?_;refine r_t ?_;refine tr_retE rfl (endsCT rfl inferInstance rfl .here norm_ (by rfl) (by rfl)) ?_;rotate_left;refine s_t ?_;refine tr_seq ?_;refine tr_seq ?_;rotate_right)
  · obtain ⟨e1,e2⟩:=rdE_9 (W:=[a0,a1,a2,a3,a4,a5,a6,a7,a8,a9]) (by
      show a8 ≠ 63 ∨ a9 ≠ 253
      simpa using hcd)
    rw [e1,e2];rfl
  have n9:¬ (wa [a0,a1,a2,a3,a4,a5,a6,a7,a8,a9] 8 ≠ 63 ∨ wa [a0,a1,a2,a3,a4,a5,a6,a7,a8,a9] 9 ≠ 253):=by
    show ¬ (a8 ≠ 63 ∨ a9 ≠ 253)
    simpa using hcd
  clear hcd
  rename_i b1 hb1 b2 hb2
  with_reducible refine tr_draw 5 (by kernel_rfl) ?_
  (refine any_val (rk_sliceA_h (.of rfl) (.of rfl) (by omega) (by omega) norm1_) rfl ?_;refine any_call (rk_call (.of rfl) (.cons (.of rfl) .nil) inferInstance normc_) rfl (fun w' hm'=>(par7_c hm' (.there .here))) ?_;refine any_val (rk_indexAddrA (.of rfl) (.of rfl) (by omega) (by omega) norm1_) rfl ?_;refine any_val (rk_load1 (.of rfl) (At.lit (.there .here) rfl)) rfl ?_;refine any_val (rk_neq (.of rfl) (.of rfl)) rfl ?_)
  with_reducible refine any_end ?_
  (refine n_t ?_;refine c_d rfl (fun hcd=>?_) (fun hcd=>?_);refine s_r ?_;refine tr_val (rk_buildL .nil norm_) rfl ?_;refine tr_store (.of rfl) (.of rfl) .here rfl rfl (okc_cons rfl (okc_cons rfl (okc_cons rfl (okc_cons rfl (okc_cons rfl (okc_cons rfl (okc_cons rfl okc_nil))))))) (lenb rfl) norm_ ?_;refine a_s rfl rfl ?_;refine n_t ?_;refine r_t ?_;refine tr_retE rfl (endsCT rfl inferInstance rfl .here norm_ (by rfl) (by rfl)) ?_;rotate_left;refine s_t ?_;refine s_r ?_;refine tr_new (rk_alloc rfl) rfl (fun _ _=>?_);refine n_t ?_;refine tr_seq ?_;refine s_r ?_;refine tr_callV (rk_call (.of rfl) .nil inferInstance normc_) rfl (fun w' hm'=>(parts_c w')) ?_;refine m_v rfl rfl ?_;refine n_t ?_;refine tr_block ?_;rotate_right)
  · obtain ⟨e1,e2⟩:=rdE_7 n9 (by
      show parF [a0,a1,a2,a3,a4,a5,a6] ≠ a7
      simpa using hcd)
    rw [e1,e2];rfl
  have n7:¬ parF (List.take 7 [a0,a1,a2,a3,a4,a5,a6,a7,a8,a9]) ≠ wa [a0,a1,a2,a3,a4,a5,a6,a7,a8,a9] 7:=by
    show ¬ parF [a0,a1,a2,a3,a4,a5,a6] ≠ a7
    simpa using hcd
  clear hcd
  rename_i b4 hb4
  refine tr_for (fun k:Nat=>k ≤ 4 ∧ (0 < k → badD a0 = false) ∧ (1 < k → badD a1 = false) ∧ (2 < k → badD a2 = false) ∧ (3 < k → badD a3 = false)) (fun k=>[(21,.int .i64 k),(20,.agg #[.func (.func 87) #[] #[],.func (.func 88) #[] #[],.func (.func 89) #[] #[],.func (.func 90) #[] #[]]),(4,.pointer (some ⟨b4,0,none⟩)),(3,.int .i64 0),(2,.pointer (some ⟨b2,0,none⟩)),(1,.pointer (some ⟨b1,0,none⟩))]) (fun k=>[blk b4 (.cells (fieldK a0 a1 a2 a3 k).toArray 86 (0,0)),blk b2 (.cells #[.int .i64 0,.bool false,.int .i64 0,.int .i64 0,.int .i64 0,.int .i64 0,.int .i64 0] 86 (0,0)),blk b1 (.cells #[.int .u8 a0,.int .u8 a1,.int .u8 a2,.int .u8 a3,.int .u8 a4,.int .u8 a5,.int .u8 a6,.int .u8 a7,.int .u8 a8,.int .u8 a9] 35 (0,0))]) (fun k=>4 - k) ?_ ?_
  · apply tr_start 0 ⟨show (0:Nat) ≤ 4 by omega,fun h=>absurd h (by decide),fun h=>absurd h (by decide),fun h=>absurd h (by decide),fun h=>absurd h (by decide)⟩
    case hs1=>exact .cons rfl (.cons rfl (.cons rfl (.cons rfl (.cons rfl (.cons rfl .nil)))))
    case ht=>
      show Takes _ [blk b4 (.cells #[.int .i64 0,.bool false,.int .i64 0,.int .i64 0,.int .i64 0,.int .i64 0,.int .i64 0] 86 (0,0)),blk b2 (.cells #[.int .i64 0,.bool false,.int .i64 0,.int .i64 0,.int .i64 0,.int .i64 0,.int .i64 0] 86 (0,0)),blk b1 (.cells #[.int .u8 a0,.int .u8 a1,.int .u8 a2,.int .u8 a3,.int .u8 a4,.int .u8 a5,.int .u8 a6,.int .u8 a7,.int .u8 a8,.int .u8 a9] 35 (0,0))] _
      exact .cons .here (.cons .here (.cons .here .nil))
  rintro k ⟨hk,hd0,hd1,hd2,hd3⟩
  by_cases hlt:k < 4
  · obtain rfl | rfl | rfl | rfl:k = 0 ∨ k = 1 ∨ k = 2 ∨ k = 3:=by omega
    · show Tr _ [] [(21,.int .i64 0),(20,.agg #[.func (.func 87) #[] #[],.func (.func 88) #[] #[],.func (.func 89) #[] #[],.func (.func 90) #[] #[]]),(4,.pointer (some ⟨b4,0,none⟩)),(3,.int .i64 0),(2,.pointer (some ⟨b2,0,none⟩)),(1,.pointer (some ⟨b1,0,none⟩))] [blk b4 (.cells #[.int .i64 0,.bool false,.int .i64 0,.int .i64 0,.int .i64 0,.int .i64 0,.int .i64 0] 86 (0,0)),blk b2 (.cells #[.int .i64 0,.bool false,.int .i64 0,.int .i64 0,.int .i64 0,.int .i64 0,.int .i64 0] 86 (0,0)),blk b1 (.cells #[.int .u8 a0,.int .u8 a1,.int .u8 a2,.int .u8 a3,.int .u8 a4,.int .u8 a5,.int .u8 a6,.int .u8 a7,.int .u8 a8,.int .u8 a9] 35 (0,0))] _
      (refine s_r ?_;refine tr_val (rk_lss (.of rfl) (.of rfl)) rfl ?_;refine n_t ?_;refine tr_seq ?_;refine c_d rfl (fun hcd=>?_) (fun _=>by omega);refine s_t ?_;refine tr_seq ?_;refine tr_block ?_;refine s_r ?_;refine m_v rfl rfl ?_;refine tr_val (rk_index (.of rfl) (.of rfl) (by omega) hcd norm_) rfl ?_;refine tr_new (rk_alloc rfl) rfl (fun _ _=>?_);refine a_s rfl rfl ?_;refine tr_store (.of rfl) (.of rfl) .here rfl rfl (okc_cons rfl okc_nil) (lenb rfl) norm_ ?_;refine n_t ?_;refine tr_seq ?_;refine s_r ?_;refine m_v rfl rfl ?_;refine tr_val (rk_indexAddrA (.of rfl) (.of rfl) (by omega) (by omega) norm1_) rfl ?_;refine tr_val (rk_load1 (.of rfl) (At.lit (.there (.there (.there .here))) rfl)) rfl ?_;refine tr_val (rk_shrC (.of rfl) (.of rfl) rfl) rfl ?_;refine tr_val (rk_gtr (.of rfl) (.of rfl)) rfl ?_;refine m_v rfl rfl ?_;refine v_g rfl rfl rfl rfl ?_;refine tr_vG1 rfl rfl inferInstance (fun hg hgp=>(rk_indexAddrA (.of rfl) (.ofg hg rfl) (by omega) (by omega) norm1_)) rfl ?_;refine tr_vG1 rfl rfl inferInstance (fun hg hgp=>(rk_load1 (.ofg hg rfl) (At.lit (.there (.there (.there .here))) rfl))) rfl ?_;refine tr_vG1 rfl rfl inferInstance (fun hg hgp=>(rk_and8 (.ofg hg rfl) (.of rfl))) rfl ?_;refine tr_vG1 rfl rfl inferInstance (fun hg hgp=>(rk_gtr (.ofg hg rfl) (.of rfl))) rfl ?_;refine tr_val (rk_pick_or (.of rfl) rfl) rfl ?_;refine n_t ?_;refine c_b rfl (fun hcd=>?_) (fun hcd=>?_);refine s_r ?_;refine tr_val (rk_buildL .nil norm_) rfl ?_;refine tr_store (.of rfl) (.of rfl) (.there (.there .here)) rfl rfl (okc_cons rfl (okc_cons rfl (okc_cons rfl (okc_cons rfl (okc_cons rfl (okc_cons rfl (okc_cons rfl okc_nil))))))) (lenb rfl) norm_ ?_;refine a_s rfl rfl ?_;refine n_t ?_;refine r_t ?_;refine tr_blk_ret ?_;refine tr_then_ret ?_;refine tr_then_ret ?_;refine tr_blk_ret ?_;refine tr_then_ret ?_;refine tr_retE rfl (endsCT rfl inferInstance rfl .here norm_ (by rfl) (by rfl)) ?_;rotate_left;refine s_t ?_;rotate_right)
      · obtain ⟨e1,e2⟩:=rdE_d n9 n7 (by
          have:=bad_of h0 (by simpa using hcd)
          show (badD a0 || badD a1 || badD a2 || badD a3) = true
          rw [this];simp)
        rw [e1,e2];rfl
      have hbd:=bad_not h0 (by simpa using hcd)
      clear hcd
      have w1:=hi_of h0
      have w2:=lo_of h0
      with_reducible refine tr_draw 17 (by kernel_rfl) ?_
      (refine a_f rfl rfl norm0_ ?_;refine any_val (rk_load1 (.of rfl) (At.lit .here rfl)) rfl ?_;refine a_f rfl rfl norm0_ ?_;refine any_call (rk_call (.of rfl) (.cons (.of rfl) .nil) inferInstance normc_) rfl (fun w' hm'=>(part1_c b4 2 w')) ?_;refine a_m rfl rfl ?_;refine any_val (rk_indexAddrA (.of rfl) (.of rfl) (by omega) (by omega) norm1_) rfl ?_;refine any_val (rk_load1 (.of rfl) (At.lit (.there (.there (.there .here))) rfl)) rfl ?_;refine any_val (rk_shrC (.of rfl) (.of rfl) rfl) rfl ?_;refine any_val (rk_conv (.of rfl)) rfl ?_;refine any_val (rk_mul (.of rfl) (.of rfl) (ini (by omega))) rfl ?_;refine a_m rfl rfl ?_;refine any_val (rk_indexAddrA (.of rfl) (.of rfl) (by omega) (by omega) norm1_) rfl ?_;refine any_val (rk_load1 (.of rfl) (At.lit (.there (.there (.there .here))) rfl)) rfl ?_;refine any_val (rk_and8 (.of rfl) (.of rfl)) rfl ?_;refine any_val (rk_conv (.of rfl)) rfl ?_;refine any_val (rk_add (.of rfl) (.of rfl) (ini (by omega))) rfl ?_;refine any_val (rk_nilCheck (.of rfl)) rfl ?_)
      rw [w1]
      skip
      rw [w2]
      skip
      with_reducible refine any_end ?_
      (refine tr_store (.of rfl) (.of rfl) (.there .here) rfl rfl (okc_cons rfl okc_nil) (lenb rfl) norm_ ?_;refine tr_nil ?_;refine tr_blk_normal ?_;refine tr_then ?_;refine tr_region ?_;refine tr_val (rk_add (.of rfl) (.of rfl) (ini (by omega))) rfl ?_;refine m_v rfl rfl ?_;refine n_t ?_)
      rw [show a0 / 16 * 10 + a0 % 16 = unb a0 from rfl]
      apply tr_next (Φ:=fun k:Nat=>k ≤ 4 ∧ (0 < k → badD a0 = false) ∧ (1 < k → badD a1 = false) ∧ (2 < k → badD a2 = false) ∧ (3 < k → badD a3 = false)) 1 ⟨show 1 ≤ 4 from of_decide_eq_true rfl,fun _=>hbd,fun h=>absurd h (by decide),fun h=>absurd h (by decide),fun h=>absurd h (by decide)⟩ (by show 4 - 1 < 4 - 0;omega)
      case hs1=>exact .cons rfl (.cons rfl (.cons rfl (.cons rfl (.cons rfl (.cons rfl .nil)))))
      case ht=>
        show Takes _ [blk b4 (.cells #[.int .i64 0,.bool false,.int .i64 0,.int .i64 0,.int .i64 0,.int .i64 (unb a0),.int .i64 0] 86 (0,0)),blk b2 (.cells #[.int .i64 0,.bool false,.int .i64 0,.int .i64 0,.int .i64 0,.int .i64 0,.int .i64 0] 86 (0,0)),blk b1 (.cells #[.int .u8 a0,.int .u8 a1,.int .u8 a2,.int .u8 a3,.int .u8 a4,.int .u8 a5,.int .u8 a6,.int .u8 a7,.int .u8 a8,.int .u8 a9] 35 (0,0))] _
        exact .cons .here (.cons (.there .here) (.cons (.there .here) .nil))
    · show Tr _ [] [(21,.int .i64 1),(20,.agg #[.func (.func 87) #[] #[],.func (.func 88) #[] #[],.func (.func 89) #[] #[],.func (.func 90) #[] #[]]),(4,.pointer (some ⟨b4,0,none⟩)),(3,.int .i64 0),(2,.pointer (some ⟨b2,0,none⟩)),(1,.pointer (some ⟨b1,0,none⟩))] [blk b4 (.cells #[.int .i64 0,.bool false,.int .i64 0,.int .i64 0,.int .i64 0,.int .i64 (unb a0),.int .i64 0] 86 (0,0)),blk b2 (.cells #[.int .i64 0,.bool false,.int .i64 0,.int .i64 0,.int .i64 0,.int .i64 0,.int .i64 0] 86 (0,0)),blk b1 (.cells #[.int .u8 a0,.int .u8 a1,.int .u8 a2,.int .u8 a3,.int .u8 a4,.int .u8 a5,.int .u8 a6,.int .u8 a7,.int .u8 a8,.int .u8 a9] 35 (0,0))] _
      (refine s_r ?_;refine tr_val (rk_lss (.of rfl) (.of rfl)) rfl ?_;refine n_t ?_;refine tr_seq ?_;refine c_d rfl (fun hcd=>?_) (fun _=>by omega);refine s_t ?_;refine tr_seq ?_;refine tr_block ?_;refine s_r ?_;refine m_v rfl rfl ?_;refine tr_val (rk_index (.of rfl) (.of rfl) (by omega) hcd norm_) rfl ?_;refine tr_new (rk_alloc rfl) rfl (fun _ _=>?_);refine a_s rfl rfl ?_;refine tr_store (.of rfl) (.of rfl) .here rfl rfl (okc_cons rfl okc_nil) (lenb rfl) norm_ ?_;refine n_t ?_;refine tr_seq ?_;refine s_r ?_;refine m_v rfl rfl ?_;refine tr_val (rk_indexAddrA (.of rfl) (.of rfl) (by omega) (by omega) norm1_) rfl ?_;refine tr_val (rk_load1 (.of rfl) (At.lit (.there (.there (.there .here))) rfl)) rfl ?_;refine tr_val (rk_shrC (.of rfl) (.of rfl) rfl) rfl ?_;refine tr_val (rk_gtr (.of rfl) (.of rfl)) rfl ?_;refine m_v rfl rfl ?_;refine v_g rfl rfl rfl rfl ?_;refine tr_vG1 rfl rfl inferInstance (fun hg hgp=>(rk_indexAddrA (.of rfl) (.ofg hg rfl) (by omega) (by omega) norm1_)) rfl ?_;refine tr_vG1 rfl rfl inferInstance (fun hg hgp=>(rk_load1 (.ofg hg rfl) (At.lit (.there (.there (.there .here))) rfl))) rfl ?_;refine tr_vG1 rfl rfl inferInstance (fun hg hgp=>(rk_and8 (.ofg hg rfl) (.of rfl))) rfl ?_;refine tr_vG1 rfl rfl inferInstance (fun hg hgp=>(rk_gtr (.ofg hg rfl) (.of rfl))) rfl ?_;refine tr_val (rk_pick_or (.of rfl) rfl) rfl ?_;refine n_t ?_;refine c_b rfl (fun hcd=>?_) (fun hcd=>?_);refine s_r ?_;refine tr_val (rk_buildL .nil norm_) rfl ?_;refine tr_store (.of rfl) (.of rfl) (.there (.there .here)) rfl rfl (okc_cons rfl (okc_cons rfl (okc_cons rfl (okc_cons rfl (okc_cons rfl (okc_cons rfl (okc_cons rfl okc_nil))))))) (lenb rfl) norm_ ?_;refine a_s rfl rfl ?_;refine n_t ?_;refine r_t ?_;refine tr_blk_ret ?_;refine tr_then_ret ?_;refine tr_then_ret ?_;refine tr_blk_ret ?_;refine tr_then_ret ?_;refine tr_retE rfl (endsCT rfl inferInstance rfl .here norm_ (by rfl) (by rfl)) ?_;rotate_left;refine s_t ?_;rotate_right)
      · obtain ⟨e1,e2⟩:=rdE_d n9 n7 (by
          have:=bad_of h1 (by simpa using hcd)
          show (badD a0 || badD a1 || badD a2 || badD a3) = true
          rw [this];simp)
        rw [e1,e2];rfl
      have hbd:=bad_not h1 (by simpa using hcd)
      clear hcd
      have w1:=hi_of h1
      have w2:=lo_of h1
      with_reducible refine tr_draw 17 (by kernel_rfl) ?_
      (refine a_f rfl rfl norm0_ ?_;refine any_val (rk_load1 (.of rfl) (At.lit .here rfl)) rfl ?_;refine a_f rfl rfl norm0_ ?_;refine any_call (rk_call (.of rfl) (.cons (.of rfl) .nil) inferInstance normc_) rfl (fun w' hm'=>(part2_c b4 2 w')) ?_;refine a_m rfl rfl ?_;refine any_val (rk_indexAddrA (.of rfl) (.of rfl) (by omega) (by omega) norm1_) rfl ?_;refine any_val (rk_load1 (.of rfl) (At.lit (.there (.there (.there .here))) rfl)) rfl ?_;refine any_val (rk_shrC (.of rfl) (.of rfl) rfl) rfl ?_;refine any_val (rk_conv (.of rfl)) rfl ?_;refine any_val (rk_mul (.of rfl) (.of rfl) (ini (by omega))) rfl ?_;refine a_m rfl rfl ?_;refine any_val (rk_indexAddrA (.of rfl) (.of rfl) (by omega) (by omega) norm1_) rfl ?_;refine any_val (rk_load1 (.of rfl) (At.lit (.there (.there (.there .here))) rfl)) rfl ?_;refine any_val (rk_and8 (.of rfl) (.of rfl)) rfl ?_;refine any_val (rk_conv (.of rfl)) rfl ?_;refine any_val (rk_add (.of rfl) (.of rfl) (ini (by omega))) rfl ?_;refine any_val (rk_nilCheck (.of rfl)) rfl ?_)
      rw [w1]
      skip
      rw [w2]
      skip
      with_reducible refine any_end ?_
      (refine tr_store (.of rfl) (.of rfl) (.there .here) rfl rfl (okc_cons rfl okc_nil) (lenb rfl) norm_ ?_;refine tr_nil ?_;refine tr_blk_normal ?_;refine tr_then ?_;refine tr_region ?_;refine tr_val (rk_add (.of rfl) (.of rfl) (ini (by omega))) rfl ?_;refine m_v rfl rfl ?_;refine n_t ?_)
      rw [show a1 / 16 * 10 + a1 % 16 = unb a1 from rfl]
      apply tr_next (Φ:=fun k:Nat=>k ≤ 4 ∧ (0 < k → badD a0 = false) ∧ (1 < k → badD a1 = false) ∧ (2 < k → badD a2 = false) ∧ (3 < k → badD a3 = false)) 2 ⟨show 2 ≤ 4 from of_decide_eq_true rfl,fun _=>hd0 (by decide),fun _=>hbd,fun h=>absurd h (by decide),fun h=>absurd h (by decide)⟩ (by show 4 - 2 < 4 - 1;omega)
      case hs1=>exact .cons rfl (.cons rfl (.cons rfl (.cons rfl (.cons rfl (.cons rfl .nil)))))
      case ht=>
        show Takes _ [blk b4 (.cells #[.int .i64 0,.bool false,.int .i64 0,.int .i64 0,.int .i64 (unb a1),.int .i64 (unb a0),.int .i64 0] 86 (0,0)),blk b2 (.cells #[.int .i64 0,.bool false,.int .i64 0,.int .i64 0,.int .i64 0,.int .i64 0,.int .i64 0] 86 (0,0)),blk b1 (.cells #[.int .u8 a0,.int .u8 a1,.int .u8 a2,.int .u8 a3,.int .u8 a4,.int .u8 a5,.int .u8 a6,.int .u8 a7,.int .u8 a8,.int .u8 a9] 35 (0,0))] _
        exact .cons .here (.cons (.there .here) (.cons (.there .here) .nil))
    · show Tr _ [] [(21,.int .i64 2),(20,.agg #[.func (.func 87) #[] #[],.func (.func 88) #[] #[],.func (.func 89) #[] #[],.func (.func 90) #[] #[]]),(4,.pointer (some ⟨b4,0,none⟩)),(3,.int .i64 0),(2,.pointer (some ⟨b2,0,none⟩)),(1,.pointer (some ⟨b1,0,none⟩))] [blk b4 (.cells #[.int .i64 0,.bool false,.int .i64 0,.int .i64 0,.int .i64 (unb a1),.int .i64 (unb a0),.int .i64 0] 86 (0,0)),blk b2 (.cells #[.int .i64 0,.bool false,.int .i64 0,.int .i64 0,.int .i64 0,.int .i64 0,.int .i64 0] 86 (0,0)),blk b1 (.cells #[.int .u8 a0,.int .u8 a1,.int .u8 a2,.int .u8 a3,.int .u8 a4,.int .u8 a5,.int .u8 a6,.int .u8 a7,.int .u8 a8,.int .u8 a9] 35 (0,0))] _
      (refine s_r ?_;refine tr_val (rk_lss (.of rfl) (.of rfl)) rfl ?_;refine n_t ?_;refine tr_seq ?_;refine c_d rfl (fun hcd=>?_) (fun _=>by omega);refine s_t ?_;refine tr_seq ?_;refine tr_block ?_;refine s_r ?_;refine m_v rfl rfl ?_;refine tr_val (rk_index (.of rfl) (.of rfl) (by omega) hcd norm_) rfl ?_;refine tr_new (rk_alloc rfl) rfl (fun _ _=>?_);refine a_s rfl rfl ?_;refine tr_store (.of rfl) (.of rfl) .here rfl rfl (okc_cons rfl okc_nil) (lenb rfl) norm_ ?_;refine n_t ?_;refine tr_seq ?_;refine s_r ?_;refine m_v rfl rfl ?_;refine tr_val (rk_indexAddrA (.of rfl) (.of rfl) (by omega) (by omega) norm1_) rfl ?_;refine tr_val (rk_load1 (.of rfl) (At.lit (.there (.there (.there .here))) rfl)) rfl ?_;refine tr_val (rk_shrC (.of rfl) (.of rfl) rfl) rfl ?_;refine tr_val (rk_gtr (.of rfl) (.of rfl)) rfl ?_;refine m_v rfl rfl ?_;refine v_g rfl rfl rfl rfl ?_;refine tr_vG1 rfl rfl inferInstance (fun hg hgp=>(rk_indexAddrA (.of rfl) (.ofg hg rfl) (by omega) (by omega) norm1_)) rfl ?_;refine tr_vG1 rfl rfl inferInstance (fun hg hgp=>(rk_load1 (.ofg hg rfl) (At.lit (.there (.there (.there .here))) rfl))) rfl ?_;refine tr_vG1 rfl rfl inferInstance (fun hg hgp=>(rk_and8 (.ofg hg rfl) (.of rfl))) rfl ?_;refine tr_vG1 rfl rfl inferInstance (fun hg hgp=>(rk_gtr (.ofg hg rfl) (.of rfl))) rfl ?_;refine tr_val (rk_pick_or (.of rfl) rfl) rfl ?_;refine n_t ?_;refine c_b rfl (fun hcd=>?_) (fun hcd=>?_);refine s_r ?_;refine tr_val (rk_buildL .nil norm_) rfl ?_;refine tr_store (.of rfl) (.of rfl) (.there (.there .here)) rfl rfl (okc_cons rfl (okc_cons rfl (okc_cons rfl (okc_cons rfl (okc_cons rfl (okc_cons rfl (okc_cons rfl okc_nil))))))) (lenb rfl) norm_ ?_;refine a_s rfl rfl ?_;refine n_t ?_;refine r_t ?_;refine tr_blk_ret ?_;refine tr_then_ret ?_;refine tr_then_ret ?_;refine tr_blk_ret ?_;refine tr_then_ret ?_;refine tr_retE rfl (endsCT rfl inferInstance rfl .here norm_ (by rfl) (by rfl)) ?_;rotate_left;refine s_t ?_;rotate_right)
      · obtain ⟨e1,e2⟩:=rdE_d n9 n7 (by
          have:=bad_of h2 (by simpa using hcd)
          show (badD a0 || badD a1 || badD a2 || badD a3) = true
          rw [this];simp)
        rw [e1,e2];rfl
      have hbd:=bad_not h2 (by simpa using hcd)
      clear hcd
      have w1:=hi_of h2
      have w2:=lo_of h2
      with_reducible refine tr_draw 17 (by kernel_rfl) ?_
      (refine a_f rfl rfl norm0_ ?_;refine any_val (rk_load1 (.of rfl) (At.lit .here rfl)) rfl ?_;refine a_f rfl rfl norm0_ ?_;refine any_call (rk_call (.of rfl) (.cons (.of rfl) .nil) inferInstance normc_) rfl (fun w' hm'=>(part3_c b4 2 w')) ?_;refine a_m rfl rfl ?_;refine any_val (rk_indexAddrA (.of rfl) (.of rfl) (by omega) (by omega) norm1_) rfl ?_;refine any_val (rk_load1 (.of rfl) (At.lit (.there (.there (.there .here))) rfl)) rfl ?_;refine any_val (rk_shrC (.of rfl) (.of rfl) rfl) rfl ?_;refine any_val (rk_conv (.of rfl)) rfl ?_;refine any_val (rk_mul (.of rfl) (.of rfl) (ini (by omega))) rfl ?_;refine a_m rfl rfl ?_;refine any_val (rk_indexAddrA (.of rfl) (.of rfl) (by omega) (by omega) norm1_) rfl ?_;refine any_val (rk_load1 (.of rfl) (At.lit (.there (.there (.there .here))) rfl)) rfl ?_;refine any_val (rk_and8 (.of rfl) (.of rfl)) rfl ?_;refine any_val (rk_conv (.of rfl)) rfl ?_;refine any_val (rk_add (.of rfl) (.of rfl) (ini (by omega))) rfl ?_;refine any_val (rk_nilCheck (.of rfl)) rfl ?_)
      rw [w1]
      skip
      rw [w2]
      skip
      with_reducible refine any_end ?_
      (refine tr_store (.of rfl) (.of rfl) (.there .here) rfl rfl (okc_cons rfl okc_nil) (lenb rfl) norm_ ?_;refine tr_nil ?_;refine tr_blk_normal ?_;refine tr_then ?_;refine tr_region ?_;refine tr_val (rk_add (.of rfl) (.of rfl) (ini (by omega))) rfl ?_;refine m_v rfl rfl ?_;refine n_t ?_)
      rw [show a2 / 16 * 10 + a2 % 16 = unb a2 from rfl]
      apply tr_next (Φ:=fun k:Nat=>k ≤ 4 ∧ (0 < k → badD a0 = false) ∧ (1 < k → badD a1 = false) ∧ (2 < k → badD a2 = false) ∧ (3 < k → badD a3 = false)) 3 ⟨show 3 ≤ 4 from of_decide_eq_true rfl,fun _=>hd0 (by decide),fun _=>hd1 (by decide),fun _=>hbd,fun h=>absurd h (by decide)⟩ (by show 4 - 3 < 4 - 2;omega)
      case hs1=>exact .cons rfl (.cons rfl (.cons rfl (.cons rfl (.cons rfl (.cons rfl .nil)))))
      case ht=>
        show Takes _ [blk b4 (.cells #[.int .i64 0,.bool false,.int .i64 0,.int .i64 (unb a2),.int .i64 (unb a1),.int .i64 (unb a0),.int .i64 0] 86 (0,0)),blk b2 (.cells #[.int .i64 0,.bool false,.int .i64 0,.int .i64 0,.int .i64 0,.int .i64 0,.int .i64 0] 86 (0,0)),blk b1 (.cells #[.int .u8 a0,.int .u8 a1,.int .u8 a2,.int .u8 a3,.int .u8 a4,.int .u8 a5,.int .u8 a6,.int .u8 a7,.int .u8 a8,.int .u8 a9] 35 (0,0))] _
        exact .cons .here (.cons (.there .here) (.cons (.there .here) .nil))
    · show Tr _ [] [(21,.int .i64 3),(20,.agg #[.func (.func 87) #[] #[],.func (.func 88) #[] #[],.func (.func 89) #[] #[],.func (.func 90) #[] #[]]),(4,.pointer (some ⟨b4,0,none⟩)),(3,.int .i64 0),(2,.pointer (some ⟨b2,0,none⟩)),(1,.pointer (some ⟨b1,0,none⟩))] [blk b4 (.cells #[.int .i64 0,.bool false,.int .i64 0,.int .i64 (unb a2),.int .i64 (unb a1),.int .i64 (unb a0),.int .i64 0] 86 (0,0)),blk b2 (.cells #[.int .i64 0,.bool false,.int .i64 0,.int .i64 0,.int .i64 0,.int .i64 0,.int .i64 0] 86 (0,0)),blk b1 (.cells #[.int .u8 a0,.int .u8 a1,.int .u8 a2,.int .u8 a3,.int .u8 a4,.int .u8 a5,.int .u8 a6,.int .u8 a7,.int .u8 a8,.int .u8 a9] 35 (0,0))] _
      (refine s_r ?_;refine tr_val (rk_lss (.of rfl) (.of rfl)) rfl ?_;refine n_t ?_;refine tr_seq ?_;refine c_d rfl (fun hcd=>?_) (fun _=>by omega);refine s_t ?_;refine tr_seq ?_;refine tr_block ?_;refine s_r ?_;refine m_v rfl rfl ?_;refine tr_val (rk_index (.of rfl) (.of rfl) (by omega) hcd norm_) rfl ?_;refine tr_new (rk_alloc rfl) rfl (fun _ _=>?_);refine a_s rfl rfl ?_;refine tr_store (.of rfl) (.of rfl) .here rfl rfl (okc_cons rfl okc_nil) (lenb rfl) norm_ ?_;refine n_t ?_;refine tr_seq ?_;refine s_r ?_;refine m_v rfl rfl ?_;refine tr_val (rk_indexAddrA (.of rfl) (.of rfl) (by omega) (by omega) norm1_) rfl ?_;refine tr_val (rk_load1 (.of rfl) (At.lit (.there (.there (.there .here))) rfl)) rfl ?_;refine tr_val (rk_shrC (.of rfl) (.of rfl) rfl) rfl ?_;refine tr_val (rk_gtr (.of rfl) (.of rfl)) rfl ?_;refine m_v rfl rfl ?_;refine v_g rfl rfl rfl rfl ?_;refine tr_vG1 rfl rfl inferInstance (fun hg hgp=>(rk_indexAddrA (.of rfl) (.ofg hg rfl) (by omega) (by omega) norm1_)) rfl ?_;refine tr_vG1 rfl rfl inferInstance (fun hg hgp=>(rk_load1 (.ofg hg rfl) (At.lit (.there (.there (.there .here))) rfl))) rfl ?_;refine tr_vG1 rfl rfl inferInstance (fun hg hgp=>(rk_and8 (.ofg hg rfl) (.of rfl))) rfl ?_;refine tr_vG1 rfl rfl inferInstance (fun hg hgp=>(rk_gtr (.ofg hg rfl) (.of rfl))) rfl ?_;refine tr_val (rk_pick_or (.of rfl) rfl) rfl ?_;refine n_t ?_;refine c_b rfl (fun hcd=>?_) (fun hcd=>?_);refine s_r ?_;refine tr_val (rk_buildL .nil norm_) rfl ?_;refine tr_store (.of rfl) (.of rfl) (.there (.there .here)) rfl rfl (okc_cons rfl (okc_cons rfl (okc_cons rfl (okc_cons rfl (okc_cons rfl (okc_cons rfl (okc_cons rfl okc_nil))))))) (lenb rfl) norm_ ?_;refine a_s rfl rfl ?_;refine n_t ?_;refine r_t ?_;refine tr_blk_ret ?_;refine tr_then_ret ?_;refine tr_then_ret ?_;refine tr_blk_ret ?_;refine tr_then_ret ?_;refine tr_retE rfl (endsCT rfl inferInstance rfl .here norm_ (by rfl) (by rfl)) ?_;rotate_left;refine s_t ?_;rotate_right)
      · obtain ⟨e1,e2⟩:=rdE_d n9 n7 (by
          have:=bad_of h3 (by simpa using hcd)
          show (badD a0 || badD a1 || badD a2 || badD a3) = true
          rw [this];simp)
        rw [e1,e2];rfl
      have hbd:=bad_not h3 (by simpa using hcd)
      clear hcd
      have w1:=hi_of h3
      have w2:=lo_of h3
      with_reducible refine tr_draw 17 (by kernel_rfl) ?_
      (refine a_f rfl rfl norm0_ ?_;refine any_val (rk_load1 (.of rfl) (At.lit .here rfl)) rfl ?_;refine a_f rfl rfl norm0_ ?_;refine any_call (rk_call (.of rfl) (.cons (.of rfl) .nil) inferInstance normc_) rfl (fun w' hm'=>(part4_c b4 2 w')) ?_;refine a_m rfl rfl ?_;refine any_val (rk_indexAddrA (.of rfl) (.of rfl) (by omega) (by omega) norm1_) rfl ?_;refine any_val (rk_load1 (.of rfl) (At.lit (.there (.there (.there .here))) rfl)) rfl ?_;refine any_val (rk_shrC (.of rfl) (.of rfl) rfl) rfl ?_;refine any_val (rk_conv (.of rfl)) rfl ?_;refine any_val (rk_mul (.of rfl) (.of rfl) (ini (by omega))) rfl ?_;refine a_m rfl rfl ?_;refine any_val (rk_indexAddrA (.of rfl) (.of rfl) (by omega) (by omega) norm1_) rfl ?_;refine any_val (rk_load1 (.of rfl) (At.lit (.there (.there (.there .here))) rfl)) rfl ?_;refine any_val (rk_and8 (.of rfl) (.of rfl)) rfl ?_;refine any_val (rk_conv (.of rfl)) rfl ?_;refine any_val (rk_add (.of rfl) (.of rfl) (ini (by omega))) rfl ?_;refine any_val (rk_nilCheck (.of rfl)) rfl ?_)
      rw [w1]
      skip
      rw [w2]
      skip
      with_reducible refine any_end ?_
      (refine tr_store (.of rfl) (.of rfl) (.there .here) rfl rfl (okc_cons rfl okc_nil) (lenb rfl) norm_ ?_;refine tr_nil ?_;refine tr_blk_normal ?_;refine tr_then ?_;refine tr_region ?_;refine tr_val (rk_add (.of rfl) (.of rfl) (ini (by omega))) rfl ?_;refine m_v rfl rfl ?_;refine n_t ?_)
      rw [show a3 / 16 * 10 + a3 % 16 = unb a3 from rfl]
      apply tr_next (Φ:=fun k:Nat=>k ≤ 4 ∧ (0 < k → badD a0 = false) ∧ (1 < k → badD a1 = false) ∧ (2 < k → badD a2 = false) ∧ (3 < k → badD a3 = false)) 4 ⟨show 4 ≤ 4 from of_decide_eq_true rfl,fun _=>hd0 (by decide),fun _=>hd1 (by decide),fun _=>hd2 (by decide),fun _=>hbd⟩ (by show 4 - 4 < 4 - 3;omega)
      case hs1=>exact .cons rfl (.cons rfl (.cons rfl (.cons rfl (.cons rfl (.cons rfl .nil)))))
      case ht=>
        show Takes _ [blk b4 (.cells #[.int .i64 0,.bool false,.int .i64 (unb a3),.int .i64 (unb a2),.int .i64 (unb a1),.int .i64 (unb a0),.int .i64 0] 86 (0,0)),blk b2 (.cells #[.int .i64 0,.bool false,.int .i64 0,.int .i64 0,.int .i64 0,.int .i64 0,.int .i64 0] 86 (0,0)),blk b1 (.cells #[.int .u8 a0,.int .u8 a1,.int .u8 a2,.int .u8 a3,.int .u8 a4,.int .u8 a5,.int .u8 a6,.int .u8 a7,.int .u8 a8,.int .u8 a9] 35 (0,0))] _
        exact .cons .here (.cons (.there .here) (.cons (.there .here) .nil))
  · obtain rfl:k = 4:=by omega
    have nd:¬ (badD (wa [a0,a1,a2,a3,a4,a5,a6,a7,a8,a9] 0) || badD (wa [a0,a1,a2,a3,a4,a5,a6,a7,a8,a9] 1) || badD (wa [a0,a1,a2,a3,a4,a5,a6,a7,a8,a9] 2) || badD (wa [a0,a1,a2,a3,a4,a5,a6,a7,a8,a9] 3)) = true:=by
      show ¬ (badD a0 || badD a1 || badD a2 || badD a3) = true
      rw [hd0 (by decide),hd1 (by decide),hd2 (by decide),hd3 (by decide)];decide
    have hR:=rdE_r n9 n7 nd
    clear hd0 hd1 hd2 hd3 hlt hk
    have e1:IntKind.i64.wrap (anotF a4 128) = a4 % 128:=by rw [(rate_bits h4).1];exact i64w (by omega)
    have e2:decide (0 < andF a4 128) = decide (128 ≤ a4):=by rw [(rate_bits h4).2,decide_eq_decide];omega
    have e3:IntKind.i64.wrap a5 = a5:=i64w (by omega)
    have e4:IntKind.i64.wrap a6 = a6:=i64w (by omega)
    have e5:IntKind.i64.wrap (a5 * 2 ^ (8:Int).toNat) = a5 * 256:=i64w (by show _ ≤ a5 * 256 ∧ a5 * 256 ≤ _;omega)
    have e5':IntKind.i64.wrap (a5 * 2 ^ 8) = a5 * 256:=i64w (by omega)
    have hrt:=rt_ok h4
    have hst:stmW [a0,a1,a2,a3,a4,a5,a6,a7,a8,a9] = ⟨⟨a4 % 128,decide (128 ≤ a4)⟩,⟨unb a3,unb a2,unb a1,unb a0⟩,a5 * 256 + a6⟩:=rfl
    have hw4:wa [a0,a1,a2,a3,a4,a5,a6,a7,a8,a9] 4 = a4:=rfl
    rw [hw4,hst] at hR
    have hF:rdF [a0,a1,a2,a3,a4,a5,a6,a7,a8,a9] = if rdE [a0,a1,a2,a3,a4,a5,a6,a7,a8,a9] = 0 then ⟨⟨a4 % 128,decide (128 ≤ a4)⟩,⟨unb a3,unb a2,unb a1,unb a0⟩,a5 * 256 + a6⟩ else Stm.zero:=rfl
    have hcr:∀ w',Keeps [] w w' → GivesV Tryd.prog 47 [.agg #[.int .i64 (a4 % 128),.bool (decide (128 ≤ a4))]] w' (.int .i64 (rateF ⟨a4 % 128,decide (128 ≤ a4)⟩)):=fun w' hk=>chkRate_c ⟨a4 % 128,decide (128 ≤ a4)⟩ w' (hG.keeps hk)
    have hcs:∀ w',Keeps [] w w' → GivesV Tryd.prog 52 [.agg #[.int .i64 (a4 % 128),.bool (decide (128 ≤ a4)),.int .i64 (unb a3),.int .i64 (unb a2),.int .i64 (unb a1),.int .i64 (unb a0),.int .i64 (a5 * 256 + a6)]] w' (.int .i64 (stmE ⟨⟨a4 % 128,decide (128 ≤ a4)⟩,⟨unb a3,unb a2,unb a1,unb a0⟩,a5 * 256 + a6⟩)):=fun w' hk=>chkStamp_c ⟨⟨a4 % 128,decide (128 ≤ a4)⟩,⟨unb a3,unb a2,unb a1,unb a0⟩,a5 * 256 + a6⟩ w' (hG.keeps hk)
    show Tr _ [] [(21,.int .i64 4),(20,.agg #[.func (.func 87) #[] #[],.func (.func 88) #[] #[],.func (.func 89) #[] #[],.func (.func 90) #[] #[]]),(4,.pointer (some ⟨b4,0,none⟩)),(3,.int .i64 0),(2,.pointer (some ⟨b2,0,none⟩)),(1,.pointer (some ⟨b1,0,none⟩))] [blk b4 (.cells #[.int .i64 0,.bool false,.int .i64 (unb a3),.int .i64 (unb a2),.int .i64 (unb a1),.int .i64 (unb a0),.int .i64 0] 86 (0,0)),blk b2 (.cells #[.int .i64 0,.bool false,.int .i64 0,.int .i64 0,.int .i64 0,.int .i64 0,.int .i64 0] 86 (0,0)),blk b1 (.cells #[.int .u8 a0,.int .u8 a1,.int .u8 a2,.int .u8 a3,.int .u8 a4,.int .u8 a5,.int .u8 a6,.int .u8 a7,.int .u8 a8,.int .u8 a9] 35 (0,0))] _
    (refine s_r ?_;refine tr_val (rk_lss (.of rfl) (.of rfl)) rfl ?_;refine n_t ?_;refine tr_seq ?_;refine c_d rfl (fun _=>by omega) (fun hcd=>?_);refine x_t ?_;refine tr_then_exit ?_;refine tr_blk_exit ?_;refine tr_then ?_;refine s_r ?_;refine tr_val (rk_indexAddrA (.of rfl) (.of rfl) (by omega) (by omega) norm1_) rfl ?_;refine tr_val (rk_load1 (.of rfl) (At.lit (.there (.there .here)) rfl)) rfl ?_;refine tr_val (rk_andNot8 (.of rfl) (.of rfl)) rfl ?_;refine tr_val (rk_conv (.of rfl)) rfl ?_;refine tr_val (rk_indexAddrA (.of rfl) (.of rfl) (by omega) (by omega) norm1_) rfl ?_;refine tr_val (rk_load1 (.of rfl) (At.lit (.there (.there .here)) rfl)) rfl ?_;refine tr_val (rk_and8 (.of rfl) (.of rfl)) rfl ?_;refine tr_val (rk_gtr (.of rfl) (.of rfl)) rfl ?_;refine tr_val (rk_buildL (.cons (.of rfl) (.cons (.of rfl) .nil)) norm_) rfl ?_;refine f_a rfl rfl norm0_ ?_;refine tr_store (.of rfl) (.of rfl) .here rfl rfl (okc_cons rfl (okc_cons rfl okc_nil)) (lenb rfl) norm_ ?_;refine n_r ?_;refine tr_val (rk_indexAddrA (.of rfl) (.of rfl) (by omega) (by omega) norm1_) rfl ?_;refine tr_val (rk_load1 (.of rfl) (At.lit (.there (.there .here)) rfl)) rfl ?_;refine tr_val (rk_conv (.of rfl)) rfl ?_;refine tr_val (rk_shlC (.of rfl) (.of rfl) rfl) rfl ?_;refine tr_val (rk_indexAddrA (.of rfl) (.of rfl) (by omega) (by omega) norm1_) rfl ?_;refine tr_val (rk_load1 (.of rfl) (At.lit (.there (.there .here)) rfl)) rfl ?_;refine tr_val (rk_conv (.of rfl)) rfl ?_)
    rw [e1]
    skip
    rw [e2]
    skip
    rw [e3]
    (refine tr_val (rk_add (.of rfl) (.of rfl) (ini (by omega))) rfl ?_;refine f_a rfl rfl norm0_ ?_;refine tr_store (.of rfl) (.of rfl) .here rfl rfl (okc_cons rfl okc_nil) (lenb rfl) norm_ ?_;refine n_t ?_;refine tr_seq ?_;refine s_r ?_;refine f_a rfl rfl norm0_ ?_;refine tr_val (rk_loadB (.of rfl) .here norm_ (by rfl)) rfl ?_;refine tr_callV (rk_call (.of rfl) (.cons (.of rfl) .nil) inferInstance normc_) rfl (fun w' hm'=>(hcr w' (Mem.keeps hm'))) ?_;refine tr_val (rk_neq (.of rfl) (.of rfl)) rfl ?_;refine n_t ?_;refine c_d rfl (fun hcd=>?_) (fun hcd=>?_);refine s_r ?_;refine tr_val (rk_buildL .nil norm_) rfl ?_;refine tr_store (.of rfl) (.of rfl) (.there .here) rfl rfl (okc_cons rfl (okc_cons rfl (okc_cons rfl (okc_cons rfl (okc_cons rfl (okc_cons rfl (okc_cons rfl okc_nil))))))) (lenb rfl) norm_ ?_;refine a_s rfl rfl ?_;refine n_t ?_;refine r_t ?_;refine tr_retE rfl (endsCT rfl inferInstance rfl .here norm_ (by rfl) (by rfl)) ?_;rotate_left;refine s_t ?_;refine tr_seq ?_;refine s_r ?_;refine tr_val (rk_loadB (.of rfl) .here norm_ (by rfl)) rfl ?_;rotate_right)
    · have:¬ rtOkB a4 = true:=fun h=>hcd (hrt.1 h)
      rw [if_neg this] at hR
      rw [hF,hR,if_neg (by decide)];rfl
    have hr:rtOkB a4 = true:=hrt.2 (Decidable.not_not.1 hcd)
    rw [if_pos hr] at hR
    clear hcd
    rw [e5,e5',e4]
    (refine tr_callV (rk_call (.of rfl) (.cons (.of rfl) .nil) inferInstance normc_) rfl (fun w' hm'=>(hcs w' (Mem.keeps hm'))) ?_;refine a_s rfl rfl ?_;refine n_r ?_;refine m_v rfl rfl ?_;refine tr_val (rk_neq (.of rfl) (.of rfl)) rfl ?_;refine n_t ?_;refine c_d rfl (fun hcd=>?_) (fun hcd=>?_);refine s_r ?_;refine tr_val (rk_buildL .nil norm_) rfl ?_;refine m_v rfl rfl ?_;refine tr_store (.of rfl) (.of rfl) (.there .here) rfl rfl (okc_cons rfl (okc_cons rfl (okc_cons rfl (okc_cons rfl (okc_cons rfl (okc_cons rfl (okc_cons rfl okc_nil))))))) (lenb rfl) norm_ ?_;refine a_s rfl rfl ?_;refine n_t ?_;refine r_t ?_;refine tr_retE rfl (endsCT rfl inferInstance rfl .here norm_ (by rfl) (by rfl)) ?_;rotate_left;refine s_t ?_;refine s_r ?_;refine tr_val (rk_loadB (.of rfl) .here norm_ (by rfl)) rfl ?_;refine tr_store (.of rfl) (.of rfl) (.there .here) rfl rfl (okc_cons rfl (okc_cons rfl (okc_cons rfl (okc_cons rfl (okc_cons rfl (okc_cons rfl (okc_cons rfl okc_nil))))))) (lenb rfl) norm_ ?_;refine a_s rfl rfl ?_;refine n_t ?_;refine tr_ret ?_;refine tr_retE rfl (endsCT rfl inferInstance rfl .here norm_ (by rfl) (by rfl)) ?_;rotate_right)
    · rw [hF,hR,if_neg hcd];rfl
    · have hz:=Decidable.not_not.1 hcd
      rw [hF,hR,if_pos hz,hz]
theorem read_c (W:List Int) (hl:W.length = 10) (hb:∀ x ∈ W,0 ≤ x ∧ x ≤ 255) (w:World) (hG:GlobR w):GivesV Tryd.prog 29 [.agg (wcells W).toArray] w (.tuple #[.agg (rdF W).cells.toArray,.int .i64 (rdE W)]):=by
  match W,hl with
  | [a0,a1,a2,a3,a4,a5,a6,a7,a8,a9],_=>exact read10_c a0 a1 a2 a3 a4 a5 a6 a7 a8 a9 hb w hG
end Go.Proofs.A1
namespace Go.Proofs.A1
open Go Go.SL
theorem GlobR.out {md fp:List Nat} {w0:World} (h:GlobR w0) (hn:0 ∉ md) (hF:∀ b ∈ fp,b ∈ md ∨ w0.heap.size ≤ b):0 ∉ fp:=fun h0=>by
  have hb:=World.block_lt_of_cell? w0 ⟨0,0,none⟩ h.n0
  rcases hF 0 h0 with e | e
  · exact hn e
  · exact absurd hb (by simp;omega)
end Go.Proofs.A1
namespace Go.Proofs.A1
open Go Go.SL
end Go.Proofs.A1
namespace Go.Proofs.A1
open Go Go.SL
end Go.Proofs.A1
namespace Go.Proofs.A1
open Go Go.SL
theorem ck {b o n:Nat} {rp:List Int} {w:World} (hc:∀ i r,(intg rp)[i]? = some r → r.length = 1 ∧ ∀ j u,r[j]? = some u → w.cell? ⟨b,o + i * 1 + j,none⟩ = some u) (hl:n < rp.length):w.cell? ⟨b,o + n * 1,none⟩ = some (.int .i64 rp[n]):=(hc n _ (intg_get hl)).2 0 _ rfl
end Go.Proofs.A1
namespace Go.Proofs.A1
open Go Go.SL
theorem drop_eq_of {α:Type} {l m:List α} {k:Nat} (hl:k < l.length) (hm:k < m.length) (h:l[k] = m[k]):(l.drop k = m.drop k) ↔ l.drop (k + 1) = m.drop (k + 1):=by
  rw [List.drop_eq_getElem_cons hl,List.drop_eq_getElem_cons hm,h]
  exact ⟨fun e=>(List.cons.inj e).2,fun e=>by rw [e]⟩
end Go.Proofs.A1
namespace Go.Proofs.A1
open Go Go.SL
theorem rk_eqlBo {P:Program} {c:Cx} {sl:Slots} {hs:List Asn} {dst:Option Tmp} {ty:TypeId} {pos:String} {af:Array Edge} {g:Option (Nat × Bool)} {t u:TypeId} {x y:Operand} {a b:Bool} [hu:Und P t .bool] (hx:Is sl x (.bool a)) (hy:Is sl y (.bool b)) :
    RunV P c sl hs ⟨dst,.binOp .eql t x y u,ty,pos,af,g⟩ (.bool (a == b)):=
  rk_bin hx hy fun w=>by
    have:(Op.equal t (.bool a) (.bool b)).run P w = .ok (a == b) w:=by
      exact leq_run (d:=9999) (by rw [hu.eq];rfl) (fun k h=>by rw [hu.eq] at h;cases h) (fun h=>by rw [hu.eq] at h;cases h) (fun _=>⟨a,rfl⟩) rfl
    simp [eqGuard_bool,binOp,this]
def badR (r:Int):Bool:=decide (r < 32) || decide (126 < r)
theorem chk1_c (r:Int) (w:World):GivesV Tryd.prog 93 [.int .i32 r] w (.bool (badR r)):=by
  refine givesV_of_tr Tryd.func93 rfl rfl ?_
  (refine s_r ?_;refine a_s rfl rfl ?_;refine n_r ?_;refine m_v rfl rfl ?_;refine tr_val (rk_lss (.of rfl) (.of rfl)) rfl ?_;refine m_v rfl rfl ?_;refine v_g rfl rfl rfl rfl ?_;refine tr_vG1 rfl rfl inferInstance (fun hg hgp=>(rk_gtr (.ofg hg rfl) (.of rfl))) rfl ?_;refine tr_val (rk_pick_or (.of rfl) rfl) rfl ?_;refine a_s rfl rfl ?_;refine n_t ?_;refine tr_ret ?_;refine tr_retE rfl (ends1 rfl rfl) ?_)
  rfl
theorem idxS_c (s:ByteArray) (hs:s.size ≤ 1000000000) (w:World):GivesV Tryd.prog 109 [.string s,.func (.func 93) #[] #[],.bool true] w (.int .i64 (badI s)):=by
  refine givesV_of_tr Tryd.func109 rfl rfl ?_
  (refine s_r ?_;refine a_s rfl rfl ?_;refine n_t ?_;refine tr_seq ?_;refine s_r ?_;refine m_v rfl rfl ?_;refine tr_new (rk_rangeS (.of rfl)) rfl (fun _ _=>?_);refine n_t ?_;refine tr_block ?_)
  rename_i b hb
  refine tr_for (ι:=Nat) (fun p=>p ≤ s.size ∧ ∀ i,i < p → badB (bt s i) = false) (fun p=>[(10,.pointer (some ⟨b,0,none⟩)),(1,.func (.func 93) #[] #[]),(2,.bool true)]) (fun p=>[blk b (.stringIter s p)]) (fun p=>s.size - p) ?_ ?_
  · apply tr_start (0:Nat) ⟨Nat.zero_le _,fun i hi=>absurd hi (by omega)⟩
    case hs1=>exact .cons rfl (.cons rfl (.cons rfl .nil))
    case ht=>(try simp only [List.take_zero,List.map_nil,List.nil_append]);exact .cons .here .nil
  rintro p ⟨hp,hf⟩
  by_cases hlt:p < s.size
  · have hd:=decode_bt hlt
    have hbd:badB (bt s p) = badR ((Utf8.decode s p).1:Int):=by
      unfold badB badR
      rcases hd with ⟨h1,h2,_⟩ | ⟨h1,h2,_⟩
      · rw [h2]
      · rw [Bool.eq_iff_iff]
        simp only [Bool.or_eq_true,decide_eq_true_eq]
        omega
    (refine s_r ?_;refine tr_nextS (.of rfl) .here rfl (fun hlt=>?_) (fun hlt=>(by omega));refine tr_val (rk_extract (.of rfl) rfl) rfl ?_;refine n_t ?_;refine tr_seq ?_;refine tr_cond_t (.of rfl) ?_;refine s_t ?_;refine tr_block ?_;refine s_r ?_;refine tr_val (rk_extract (.of rfl) rfl) rfl ?_;refine tr_val (rk_extract (.of rfl) rfl) rfl ?_;refine a_s rfl rfl ?_;refine a_s rfl rfl ?_;refine n_r ?_;refine m_v rfl rfl ?_;refine m_v rfl rfl ?_;refine tr_callV (rk_call (.of rfl) (.cons (.of rfl) .nil) inferInstance normc_) rfl (fun w' hm'=>(chk1_c _ w')) ?_;refine m_v rfl rfl ?_)
    refine tr_val (rk_eqlBo (.of rfl) (.of rfl)) rfl ?_
    (refine n_t ?_;refine c_d rfl (fun hcd=>?_) (fun hcd=>?_);refine s_r ?_;refine m_v rfl rfl ?_;refine a_s rfl rfl ?_;refine n_t ?_;refine tr_ret ?_;refine tr_blk_ret ?_;refine tr_then_ret ?_;refine tr_blk_ret ?_;refine tr_then_ret ?_;refine tr_retE rfl (ends1 rfl rfl) ?_;rotate_left;refine tr_skip ?_;refine tr_blk_normal ?_;refine tr_then ?_;rotate_right)
    · have hb:badB (bt s p) = true:=by rw [hbd];simpa using hcd
      rw [badI_at hf hlt hb]
    · have hb:badB (bt s p) = false:=by rw [hbd];simpa using hcd
      have hw:(Utf8.decode s p).2 = 1:=by
        rcases hd with ⟨_,_,h⟩ | ⟨_,h,_⟩
        · exact h
        · exfalso
          rw [hbd] at hb
          unfold badR at hb
          simp at hb
          omega
      rw [hw]
      apply tr_next (p + 1) ⟨(show p + 1 ≤ s.size from hlt),fun i hi=>by
        by_cases e:i = p
        · rw [e];exact hb
        · exact hf i (by omega)⟩ (show s.size - (p + 1) < s.size - p by omega)
      case hs1=>exact .cons rfl (.cons rfl (.cons rfl .nil))
      case ht=>(try simp only [List.take_zero,List.map_nil,List.nil_append]);exact .cons .here .nil
  · obtain rfl:p = s.size:=by omega
    (refine s_r ?_;refine tr_nextS (.of rfl) .here rfl (fun hlt=>(by omega)) (fun hlt=>?_);refine tr_val (rk_extract (.of rfl) rfl) rfl ?_;refine n_t ?_;refine tr_seq ?_;refine tr_cond_f (.of rfl) ?_;refine x_t ?_;refine tr_then_exit ?_;refine tr_blk_exit ?_;refine tr_then ?_;refine s_r ?_;refine a_s rfl rfl ?_;refine n_t ?_;refine tr_ret ?_;refine tr_retE rfl (ends1 rfl rfl) ?_)
    rw [badI_no hf]
theorem idxF_c (s:ByteArray) (hs:s.size ≤ 1000000000) (w:World):GivesV Tryd.prog 105 [.string s,.func (.func 93) #[] #[]] w (.int .i64 (badI s)):=by
  refine givesV_of_tr Tryd.func105 rfl rfl ?_
  (refine s_r ?_;refine a_s rfl rfl ?_;refine n_r ?_;refine m_v rfl rfl ?_;refine m_v rfl rfl ?_;refine tr_callV (rk_call (.of rfl) (.cons (.of rfl) (.cons (.of rfl) (.cons (.of rfl) .nil))) inferInstance normc_) rfl (fun w' hm'=>(idxS_c s hs w')) ?_;refine a_s rfl rfl ?_;refine n_t ?_;refine tr_ret ?_;refine tr_retE rfl (ends1 rfl rfl) ?_)
  rfl
theorem hasF_c (s:ByteArray) (hs:s.size ≤ 1000000000) (w:World):GivesV Tryd.prog 92 [.string s,.func (.func 93) #[] #[]] w (.bool (badTx s)):=by
  rw [← badI_tx]
  refine givesV_of_tr Tryd.func92 rfl rfl ?_
  (refine s_r ?_;refine a_s rfl rfl ?_;refine n_r ?_;refine m_v rfl rfl ?_;refine m_v rfl rfl ?_;refine tr_callV (rk_call (.of rfl) (.cons (.of rfl) (.cons (.of rfl) .nil)) inferInstance normc_) rfl (fun w' hm'=>(idxF_c s hs w')) ?_;refine tr_val (rk_geq (.of rfl) (.of rfl)) rfl ?_;refine a_s rfl rfl ?_;refine n_t ?_;refine tr_ret ?_;refine tr_retE rfl (ends1 rfl rfl) ?_)
  rfl
theorem meet_c (a b c d:Int) (w:World):GivesV Tryd.prog 95 [.agg #[.int .i64 a,.int .i64 b],.agg #[.int .i64 c,.int .i64 d]] w (.bool (decide (max a c < min b d))):=by
  refine givesV_of_tr Tryd.func95 rfl rfl ?_
  (refine s_r ?_;refine tr_new (rk_box (.of rfl) rfl) rfl (fun _ _=>?_);refine tr_new (rk_box (.of rfl) rfl) rfl (fun _ _=>?_);refine a_s rfl rfl ?_;refine n_r ?_;refine f_a rfl rfl norm0_ ?_;refine tr_val (rk_load1 (.of rfl) (At.lit (.there .here) rfl)) rfl ?_;refine f_a rfl rfl norm0_ ?_;refine tr_val (rk_load1 (.of rfl) (At.lit .here rfl)) rfl ?_;refine tr_val (rk_max2 (.of rfl) (.of rfl)) rfl ?_;refine f_a rfl rfl norm0_ ?_;refine tr_val (rk_load1 (.of rfl) (At.lit (.there .here) rfl)) rfl ?_;refine f_a rfl rfl norm0_ ?_;refine tr_val (rk_load1 (.of rfl) (At.lit .here rfl)) rfl ?_;refine tr_val (rk_min2 (.of rfl) (.of rfl)) rfl ?_;refine tr_val (rk_lss (.of rfl) (.of rfl)) rfl ?_;refine a_s rfl rfl ?_;refine n_t ?_;refine tr_ret ?_;refine tr_retE rfl (ends1 rfl rfl) ?_)
  rfl
end Go.Proofs.A1
namespace Go.Proofs.A1
open Go Go.SL
def endW (x:Cp):Int:=IntKind.i64.wrap (x.co + (x.tx.size:Int))
def cflw (a b:Cp):Bool:=decide (a.rw = b.rw) && (decide (max a.fr b.fr < min a.to b.to) && decide (max a.co b.co < min (endW a) (endW b)))
theorem endW_ok {x:Cp} (h:CpOk x):endW x = x.co + (x.tx.size:Int):=by
  have h1:=h.co;have h2:=h.fit;have h3:=h.ne
  exact i64w (by omega)
theorem cflw_ok {a b:Cp} (ha:CpOk a) (hb:CpOk b):cflw a b = cfl a b:=by
  unfold cflw cfl;rw [endW_ok ha,endW_ok hb]
theorem colsw_c (x:Cp) (w:World):GivesV Tryd.prog 96 [.agg x.cells.toArray] w (.agg #[.int .i64 x.co,.int .i64 (endW x)]):=by
  unfold Cp.cells endW
  refine givesV_of_tr Tryd.func96 rfl rfl ?_
  (refine s_r ?_;refine tr_new (rk_box (.of rfl) rfl) rfl (fun _ _=>?_);refine tr_new (rk_alloc rfl) rfl (fun _ _=>?_);refine n_r ?_;refine f_a rfl rfl norm0_ ?_;refine tr_val (rk_load1 (.of rfl) (At.lit (.there .here) rfl)) rfl ?_;refine f_a rfl rfl norm0_ ?_;refine tr_val (rk_load1 (.of rfl) (At.lit (.there .here) rfl)) rfl ?_;refine f_a rfl rfl norm0_ ?_;refine tr_val (rk_load1 (.of rfl) (At.lit (.there .here) rfl)) rfl ?_;refine tr_val (rk_len_string (.of rfl)) rfl ?_)
  refine tr_val (rk_addw (.of rfl) (.of rfl)) rfl ?_
  (refine tr_val (rk_buildL (.cons (.of rfl) (.cons (.of rfl) .nil)) norm_) rfl ?_;refine tr_store (.of rfl) (.of rfl) .here rfl rfl (okc_cons rfl (okc_cons rfl okc_nil)) (lenb rfl) norm_ ?_;refine n_t ?_;refine tr_ret ?_;refine tr_retE rfl (ends1cB rfl inferInstance rfl .here norm_ (by rfl)) ?_)
  rfl
theorem conf_c (x y:Cp) (w:World):GivesV Tryd.prog 73 [.agg x.cells.toArray,.agg y.cells.toArray] w (.bool (cflw x y)):=by
  have hca:∀ w,GivesV Tryd.prog 96 [.agg #[.int .i64 x.fr,.int .i64 x.to,.int .i64 x.rw,.int .i64 x.co,.string x.tx]] w (.agg #[.int .i64 x.co,.int .i64 (endW x)]):=fun w=>colsw_c x w
  have hcb:∀ w,GivesV Tryd.prog 96 [.agg #[.int .i64 y.fr,.int .i64 y.to,.int .i64 y.rw,.int .i64 y.co,.string y.tx]] w (.agg #[.int .i64 y.co,.int .i64 (endW y)]):=fun w=>colsw_c y w
  unfold cflw Cp.cells
  refine givesV_of_tr Tryd.func73 rfl rfl ?_
  (refine s_r ?_;refine tr_new (rk_box (.of rfl) rfl) rfl (fun _ _=>?_);refine tr_new (rk_box (.of rfl) rfl) rfl (fun _ _=>?_);refine a_s rfl rfl ?_;refine n_t ?_;refine tr_seq ?_)
  with_reducible refine tr_draw 20 (by kernel_rfl) ?_
  (refine a_f rfl rfl norm0_ ?_;refine any_val (rk_load1 (.of rfl) (At.lit (.there .here) rfl)) rfl ?_;refine a_f rfl rfl norm0_ ?_;refine any_val (rk_load1 (.of rfl) (At.lit .here rfl)) rfl ?_;refine any_val (rk_eql (.of rfl) (.of rfl)) rfl ?_;refine a_m rfl rfl ?_;refine any_vG1 rfl rfl inferInstance (fun hg hgp=>(rk_fieldAddr (.of rfl) norm0_)) rfl ?_;refine any_vG1 rfl rfl inferInstance (fun hg hgp=>(rk_loadB (.ofg hg rfl) (.there .here) norm_ (by rfl))) rfl ?_;refine any_vG1 rfl rfl inferInstance (fun hg hgp=>(rk_fieldAddr (.of rfl) norm0_)) rfl ?_;refine any_vG1 rfl rfl inferInstance (fun hg hgp=>(rk_loadB (.ofg hg rfl) .here norm_ (by rfl))) rfl ?_;refine any_callG1 rfl rfl (fun hg=>(rk_call (.of rfl) (.cons (.ofg hg rfl) (.cons (.ofg hg rfl) .nil)) inferInstance normc_)) rfl (fun hg w' hm'=>(meet_c _ _ _ _ w')) ?_;refine any_val (rk_pick_and (.of rfl) rfl) rfl ?_;refine a_m rfl rfl ?_;refine any_vG1 rfl rfl inferInstance (fun hg hgp=>(rk_loadB (.of rfl) (.there .here) norm_ (by rfl))) rfl ?_;refine any_callG1 rfl rfl (fun hg=>(rk_call (.of rfl) (.cons (.ofg hg rfl) .nil) inferInstance normc_)) rfl (fun hg w' hm'=>(hca w')) ?_;refine any_vG1 rfl rfl inferInstance (fun hg hgp=>(rk_loadB (.of rfl) .here norm_ (by rfl))) rfl ?_;refine any_callG1 rfl rfl (fun hg=>(rk_call (.of rfl) (.cons (.ofg hg rfl) .nil) inferInstance normc_)) rfl (fun hg w' hm'=>(hcb w')) ?_;refine any_callG1 rfl rfl (fun hg=>(rk_call (.of rfl) (.cons (.ofg hg rfl) (.cons (.ofg hg rfl) .nil)) inferInstance normc_)) rfl (fun hg w' hm'=>(meet_c _ _ _ _ w')) ?_;refine any_val (rk_pick_and (.of rfl) rfl) rfl ?_;refine any_val (rk_assign (.of rfl)) rfl ?_)
  with_reducible refine any_end ?_
  (refine n_t ?_;refine tr_ret ?_;refine tr_retE rfl (ends1 rfl rfl) ?_)
  rw [Bool.and_assoc]
theorem cpE_w (x:Cp) (hs:x.tx.size ≤ 1000000000):firstF [whenF (decide (x.fr < 0) || decide (x.to ≤ x.fr) || decide (10000000 < x.to)) 14,withinF x.rw 0 7,withinF x.co 0 31,whenF (decide (x.tx = ⟨#[]⟩)) 12,whenF (decide (32 < endW x)) 26,whenF (badTx x.tx) 1] = cpE x:=by
  unfold cpE
  rw [Bool.or_assoc]
  have e1:decide (x.tx = ⟨#[]⟩) = decide (x.tx.size = 0):=by rw [decide_eq_decide];exact ne_empty.symm
  rw [e1]
  by_cases h2:withinF x.co 0 31 = 0
  · by_cases h3:x.tx.size = 0
    · rw [decide_eq_true h3]
      simp only [firstF,whenF,cond_true]
      simp
    · have:=withinF_zero.1 h2
      have e:endW x = x.co + (x.tx.size:Int):=i64w (by omega)
      rw [e]
  · simp only [firstF]
    simp [h2]
theorem check_c (x:Cp) (hs:x.tx.size ≤ 1000000000) (w:World):GivesV Tryd.prog 71 [.agg x.cells.toArray] w (.int .i64 (cpE x)):=by
  unfold Cp.cells
  refine givesV_of_tr Tryd.func71 rfl rfl ?_
  (refine s_r ?_;refine tr_new (rk_box (.of rfl) rfl) rfl (fun _ _=>?_);refine a_s rfl rfl ?_;refine n_r ?_;refine f_a rfl rfl norm0_ ?_;refine tr_val (rk_loadB (.of rfl) .here norm_ (by rfl)) rfl ?_;refine tr_new (rk_alloc rfl) rfl (fun _ _=>?_);refine tr_store (.of rfl) (.of rfl) .here rfl rfl (okc_cons rfl (okc_cons rfl okc_nil)) (lenb rfl) norm_ ?_;refine n_r ?_;refine f_a rfl rfl norm0_ ?_;refine tr_val (rk_load1 (.of rfl) (At.lit (.there .here) rfl)) rfl ?_;refine tr_callV (rk_call (.of rfl) (.cons (.of rfl) (.cons (.of rfl) .nil)) inferInstance normc_) rfl (fun w' hm'=>(hasF_c _ hs w')) ?_;refine a_s rfl rfl ?_;refine n_t ?_;refine tr_seq ?_)
  with_reducible refine tr_drawO 37 (by kernel_rfl) ?_
  (refine ao_val (rk_fieldAddr (.of rfl) norm0_) rfl ?_;refine ao_val (rk_load1 (.of rfl) (At.lit .here rfl)) rfl ?_;refine ao_val (rk_lss (.of rfl) (.of rfl)) rfl ?_;refine ao_val (rk_move (.of rfl)) rfl ?_;refine ao_vG1 rfl rfl inferInstance (fun hg hgp=>(rk_fieldAddr (.of rfl) norm0_)) rfl ?_;refine ao_vG1 rfl rfl inferInstance (fun hg hgp=>(rk_load1 (.ofg hg rfl) (At.lit .here rfl))) rfl ?_;refine ao_vG1 rfl rfl inferInstance (fun hg hgp=>(rk_fieldAddr (.of rfl) norm0_)) rfl ?_;refine ao_vG1 rfl rfl inferInstance (fun hg hgp=>(rk_load1 (.ofg hg rfl) (At.lit .here rfl))) rfl ?_;refine ao_vG1 rfl rfl inferInstance (fun hg hgp=>(rk_geq (.ofg hg rfl) (.ofg hg rfl))) rfl ?_;refine ao_val (rk_pick_or (.of rfl) rfl) rfl ?_;refine ao_val (rk_move (.of rfl)) rfl ?_;refine ao_vG1 rfl rfl inferInstance (fun hg hgp=>(rk_fieldAddr (.of rfl) norm0_)) rfl ?_;refine ao_vG1 rfl rfl inferInstance (fun hg hgp=>(rk_load1 (.ofg hg rfl) (At.lit .here rfl))) rfl ?_;refine ao_vG1 rfl rfl inferInstance (fun hg hgp=>(rk_gtr (.ofg hg rfl) (.of rfl))) rfl ?_;refine ao_val (rk_pick_or (.of rfl) rfl) rfl ?_;refine ao_call (rk_call (.of rfl) (.cons (.of rfl) (.cons (.of rfl) .nil)) inferInstance normc_) rfl (fun w' hm'=>(when_c _ 14 w')) ?_;refine ao_val (rk_fieldAddr (.of rfl) norm0_) rfl ?_;refine ao_val (rk_load1 (.of rfl) (At.lit (.there .here) rfl)) rfl ?_;refine ao_call (rk_call (.of rfl) (.cons (.of rfl) (.cons (.of rfl) (.cons (.of rfl) .nil))) inferInstance normc_) rfl (fun w' hm'=>(within_c _ 0 7 w')) ?_;refine ao_val (rk_fieldAddr (.of rfl) norm0_) rfl ?_;refine ao_val (rk_load1 (.of rfl) (At.lit (.there .here) rfl)) rfl ?_;refine ao_call (rk_call (.of rfl) (.cons (.of rfl) (.cons (.of rfl) (.cons (.of rfl) .nil))) inferInstance normc_) rfl (fun w' hm'=>(within_c _ 0 31 w')) ?_;refine ao_val (rk_fieldAddr (.of rfl) norm0_) rfl ?_;refine ao_val (rk_load1 (.of rfl) (At.lit (.there .here) rfl)) rfl ?_;refine ao_val (rk_eqls (.of rfl) (.of rfl)) rfl ?_;refine ao_call (rk_call (.of rfl) (.cons (.of rfl) (.cons (.of rfl) .nil)) inferInstance normc_) rfl (fun w' hm'=>(when_c _ 12 w')) ?_;refine ao_val (rk_fieldAddr (.of rfl) norm0_) rfl ?_;refine ao_val (rk_load1 (.of rfl) (At.lit (.there .here) rfl)) rfl ?_;refine ao_val (rk_fieldAddr (.of rfl) norm0_) rfl ?_;refine ao_val (rk_load1 (.of rfl) (At.lit (.there .here) rfl)) rfl ?_;refine ao_val (rk_len_string (.of rfl)) rfl ?_)
  refine ao_val (rk_addw (.of rfl) (.of rfl)) rfl ?_
  (refine ao_val (rk_gtr (.of rfl) (.of rfl)) rfl ?_;refine ao_call (rk_call (.of rfl) (.cons (.of rfl) (.cons (.of rfl) .nil)) inferInstance normc_) rfl (fun w' hm'=>(when_c _ 26 w')) ?_;refine ao_val (rk_move (.of rfl)) rfl ?_;refine ao_call (rk_call (.of rfl) (.cons (.of rfl) (.cons (.of rfl) .nil)) inferInstance normc_) rfl (fun w' hm'=>(when_c _ 1 w')) ?_;refine ao_new (rk_sliceLit (.cons (.of rfl) (.cons (.of rfl) (.cons (.of rfl) (.cons (.of rfl) (.cons (.of rfl) (.cons (.of rfl) .nil)))))) rfl rfl rfl rfl) rfl rfl ?_)
  with_reducible refine ao_end1 rfl fun bq hbq=>?_
  (refine tr_callV (rk_call (.of rfl) (.cons (.of rfl) .nil) inferInstance normc_) rfl (fun w' hm'=>(first_pB (Mem.rdBlk hm' .here rfl rfl) (IntL.cons (IntL.cons (IntL.cons (IntL.cons (IntL.cons (IntL.cons IntL.nil)))))))) ?_;refine a_s rfl rfl ?_;refine n_t ?_;refine tr_ret ?_;refine tr_retE rfl (ends1 rfl rfl) ?_)
  rw [← cpE_w x hs];rfl
theorem idxC_c {lv:Value} {l:List Cp} (x:Cp) {w:World} (h:Rd w lv 5 (cps l)) :
    GivesV Tryd.prog 94 [lv,.func (.func 73) #[.agg x.cells.toArray] #[]] w (.int .i64 (idxG (cflw x) l)):=by
  obtain ⟨a,cp,b,o,rfl,hcap,hmax,ha,hc⟩:=h
  rw [cps_length] at *
  unfold maxLen at hmax
  refine givesV_of_tr Tryd.func94 rfl rfl ?_
  (refine s_r ?_;refine a_s rfl rfl ?_;refine n_t ?_;refine tr_seq ?_;refine s_r ?_;refine m_v rfl rfl ?_;refine tr_val (rk_len_slice (.of rfl)) rfl ?_;refine m_v rfl rfl ?_;refine n_t ?_;refine tr_block ?_)
  refine tr_for (fun k:Nat=>k ≤ l.length ∧ ∀ i,i < k → (l[i]?.map (cflw x)).getD false = false) (fun k=>[(8,.int .i64 k),(7,.int .i64 l.length),(0,.slice a l.length cp),(1,.func (.func 73) #[.agg x.cells.toArray] #[])]) (fun _=>[]) (fun k=>l.length - k) ?_ ?_
  · apply tr_start 0 ⟨Nat.zero_le _,fun i h=>by omega⟩
    case hs1=>exact .cons rfl (.cons rfl (.cons rfl (.cons rfl .nil)))
    case ht=>(try simp only [List.take_zero,List.map_nil,List.nil_append]);exact .nil
  rintro k ⟨hk,hf⟩
  by_cases hlt:k < l.length
  · have ha':=ha (cps_ne hlt)
    have hcell:=(hc k _ (cps_get hlt)).2
    have hps:(l[k]?.map (cflw x)).getD false = cflw x l[k]:=by simp [hlt]
    have hcl:∀ w,GivesV Tryd.prog 73 [.agg x.cells.toArray,.agg (l[k]).cells.toArray] w (.bool (cflw x l[k])):=fun w=>conf_c x l[k] w
    unfold Cp.cells at hcell hcl
    unfold Cp.cells
    (refine s_r ?_;refine tr_val (rk_lss (.of rfl) (.of rfl)) rfl ?_;refine n_t ?_;refine tr_seq ?_;refine c_d rfl (fun hcd=>?_) (fun _=>by omega);refine s_t ?_;refine tr_seq ?_;refine tr_block ?_;refine s_r ?_;refine m_v rfl rfl ?_;refine a_s rfl rfl ?_;refine n_r ?_;refine m_v rfl rfl ?_;refine m_v rfl rfl ?_;refine m_v rfl rfl ?_;refine tr_val (rk_indexAddr (.of rfl) (.of rfl) ha' (by omega) hcd norm1_) rfl ?_;refine tr_val (rk_loadN (.of rfl) (Ats.base hcell rfl) rfl) rfl ?_;refine tr_callV (rk_call (.of rfl) (.cons (.of rfl) .nil) inferInstance normc_) rfl (fun w' hm'=>(hcl w')) ?_;refine n_t ?_;refine c_b rfl (fun hcd=>?_) (fun hcd=>?_);refine s_r ?_;refine m_v rfl rfl ?_;refine a_s rfl rfl ?_;refine n_t ?_;refine tr_ret ?_;refine tr_blk_ret ?_;refine tr_then_ret ?_;refine tr_then_ret ?_;refine tr_blk_ret ?_;refine tr_then_ret ?_;refine tr_retE rfl (ends1 rfl rfl) ?_;rotate_left;refine tr_skip ?_;refine tr_blk_normal ?_;refine tr_then ?_;refine tr_region ?_;refine tr_val (rk_add (.of rfl) (.of rfl) (ini (by omega))) rfl ?_;refine m_v rfl rfl ?_;refine n_t ?_;rotate_right)
    · rw [idxG_at hf hlt hcd]
    · apply tr_next (k + 1) ⟨by omega,fun i hi=>by
        by_cases e:i = k
        · rw [e,hps];simpa using hcd
        · exact hf i (by omega)⟩ (by omega)
      case hs1=>exact .cons rfl (.cons rfl (.cons rfl (.cons rfl .nil)))
      case ht=>(try simp only [List.take_zero,List.map_nil,List.nil_append]);exact .nil
  · obtain rfl:k = l.length:=by omega
    (refine s_r ?_;refine tr_val (rk_lss (.of rfl) (.of rfl)) rfl ?_;refine n_t ?_;refine tr_seq ?_;refine c_d rfl (fun _=>by omega) (fun hcd=>?_);refine x_t ?_;refine tr_then_exit ?_;refine tr_blk_exit ?_;refine tr_then ?_;refine s_r ?_;refine a_s rfl rfl ?_;refine n_t ?_;refine tr_ret ?_;refine tr_retE rfl (ends1 rfl rfl) ?_)
    rw [idxG_none hf]
theorem hasC_c {lv:Value} {l:List Cp} (x:Cp) {w:World} (h:Rd w lv 5 (cps l)) :
    GivesV Tryd.prog 72 [lv,.func (.func 73) #[.agg x.cells.toArray] #[]] w (.bool (l.any (cflw x))):=by
  have hcl:∀ w',Keeps [] w w' → GivesV Tryd.prog 94 [lv,.func (.func 73) #[.agg x.cells.toArray] #[]] w' (.int .i64 (idxG (cflw x) l)):=fun w' hk=>idxC_c x (h.keeps hk)
  rw [← idxG_any]
  refine givesV_of_tr Tryd.func72 rfl rfl ?_
  (refine s_r ?_;refine a_s rfl rfl ?_;refine n_r ?_;refine m_v rfl rfl ?_;refine m_v rfl rfl ?_;refine tr_callV (rk_call (.of rfl) (.cons (.of rfl) (.cons (.of rfl) .nil)) inferInstance normc_) rfl (fun w' hm'=>(hcl w' (Mem.keeps hm'))) ?_;refine tr_val (rk_geq (.of rfl) (.of rfl)) rfl ?_;refine a_s rfl rfl ?_;refine n_t ?_;refine tr_ret ?_;refine tr_retE rfl (ends1 rfl rfl) ?_)
  rfl
end Go.Proofs.A1
