/- Parts of the proof: DU11 DU12. -/
import Derived.Test.YthhidjfahmcekaaDoorLM09
import Derived.Test.YthhidjfahmcekaaDoorLM06
import Derived.Test.YthhidjfahmcekaaDoorLM05
set_option linter.unusedSectionVars false
set_option linter.unusedVariables false
set_option linter.unusedSimpArgs false
namespace Go.Proofs.A1
open Go Go.SL
theorem bad_of {a:Int} (ha:0 ≤ a ∧ a ≤ 255) (h:9 < a / 2 ^ (4:Int).toNat ∨ 9 < andF a 15):badD a = true:=by
  rw [and15 ha] at h
  have h:9 < a / 16 ∨ 9 < a % 16:=h
  unfold badD
  rw [Bool.or_eq_true,decide_eq_true_eq,decide_eq_true_eq];exact h
theorem bad_not {a:Int} (ha:0 ≤ a ∧ a ≤ 255) (h:¬ (9 < a / 2 ^ (4:Int).toNat ∨ 9 < andF a 15)):badD a = false:=by
  rw [and15 ha] at h
  have h:¬ (9 < a / 16 ∨ 9 < a % 16):=h
  unfold badD
  rw [Bool.or_eq_false_iff,decide_eq_false_iff_not,decide_eq_false_iff_not];omega
theorem hi_of {a:Int} (ha:0 ≤ a ∧ a ≤ 255):IntKind.i64.wrap (a / 2 ^ (4:Int).toNat) = a / 16:=i64w (by show _ ≤ a / 16 ∧ a / 16 ≤ _;omega)
theorem lo_of {a:Int} (ha:0 ≤ a ∧ a ≤ 255):IntKind.i64.wrap (andF a 15) = a % 16:=by rw [and15 ha];exact i64w (by omega)
def fieldK (a0 a1 a2 a3:Int) (k:Nat):List Value:=[.int .i64 0,.bool false,.int .i64 (if 3 < k then unb a3 else 0),.int .i64 (if 2 < k then unb a2 else 0),.int .i64 (if 1 < k then unb a1 else 0),.int .i64 (if 0 < k then unb a0 else 0),.int .i64 0]
theorem rdE_9 {W:List Int} (h:wa W 8 ≠ 63 ∨ wa W 9 ≠ 253):rdE W = 1 ∧ rdF W = Stm.zero:=by
  have:rdE W = 1:=by unfold rdE;rw [if_pos h]
  exact ⟨this,by unfold rdF;rw [this];rfl⟩
theorem rdE_7 {W:List Int} (h:¬ (wa W 8 ≠ 63 ∨ wa W 9 ≠ 253)) (h7:parF (W.take 7) ≠ wa W 7):rdE W = 27 ∧ rdF W = Stm.zero:=by
  have:rdE W = 27:=by unfold rdE;rw [if_neg h,if_pos h7]
  exact ⟨this,by unfold rdF;rw [this];rfl⟩
theorem rdE_d {W:List Int} (h:¬ (wa W 8 ≠ 63 ∨ wa W 9 ≠ 253)) (h7:¬ parF (W.take 7) ≠ wa W 7) (hd:(badD (wa W 0) || badD (wa W 1) || badD (wa W 2) || badD (wa W 3)) = true):rdE W = 1 ∧ rdF W = Stm.zero:=by
  have:rdE W = 1:=by unfold rdE;rw [if_neg h,if_neg h7,if_pos hd]
  exact ⟨this,by unfold rdF;rw [this];rfl⟩
theorem rdE_r {W:List Int} (h:¬ (wa W 8 ≠ 63 ∨ wa W 9 ≠ 253)) (h7:¬ parF (W.take 7) ≠ wa W 7) (hd:¬ (badD (wa W 0) || badD (wa W 1) || badD (wa W 2) || badD (wa W 3)) = true):rdE W = if rtOkB (wa W 4) then stmE (stmW W) else 1:=by
  unfold rdE;rw [if_neg h,if_neg h7,if_neg hd]
theorem par7_c {c:Cx} {hs hs':List Asn} {w:World} {b:Nat} {a0 a1 a2 a3 a4 a5 a6 a7 a8 a9:Int} {E:TypeId} {fz:Nat × Nat} (hm:Mem c hs w) (ht:Take hs (SL.blk b (.cells #[.int .u8 a0,.int .u8 a1,.int .u8 a2,.int .u8 a3,.int .u8 a4,.int .u8 a5,.int .u8 a6,.int .u8 a7,.int .u8 a8,.int .u8 a9] E fz)) hs'):GivesV Tryd.prog 62 [.slice (some ⟨b,0,none⟩) 7 10] w (.int .u8 (parF [a0,a1,a2,a3,a4,a5,a6])):=
  parity_c (rdBys (cs:=[.int .u8 a0,.int .u8 a1,.int .u8 a2,.int .u8 a3,.int .u8 a4,.int .u8 a5,.int .u8 a6,.int .u8 a7,.int .u8 a8,.int .u8 a9]) hm ht rfl rfl (by decide) (by decide))
set_option maxHeartbeats 4000000 in
theorem read10_c (a0 a1 a2 a3 a4 a5 a6 a7 a8 a9:Int) (hb:∀ x ∈ [a0,a1,a2,a3,a4,a5,a6,a7,a8,a9],0 ≤ x ∧ x ≤ 255) (w:World) (hG:GlobR w):GivesV Tryd.prog 29 [.agg #[.int .u8 a0,.int .u8 a1,.int .u8 a2,.int .u8 a3,.int .u8 a4,.int .u8 a5,.int .u8 a6,.int .u8 a7,.int .u8 a8,.int .u8 a9]] w (.tuple #[.agg (rdF [a0,a1,a2,a3,a4,a5,a6,a7,a8,a9]).cells.toArray,.int .i64 (rdE [a0,a1,a2,a3,a4,a5,a6,a7,a8,a9])]):=by
  have h0:0 ≤ a0 ∧ a0 ≤ 255:=hb _ (by simp)
  have h1:0 ≤ a1 ∧ a1 ≤ 255:=hb _ (by simp)
  have h2:0 ≤ a2 ∧ a2 ≤ 255:=hb _ (by simp)
  have h3:0 ≤ a3 ∧ a3 ≤ 255:=hb _ (by simp)
  have h4:0 ≤ a4 ∧ a4 ≤ 255:=hb _ (by simp)
  have h5:0 ≤ a5 ∧ a5 ≤ 255:=hb _ (by simp)
  have h6:0 ≤ a6 ∧ a6 ≤ 255:=hb _ (by simp)
  have h7:0 ≤ a7 ∧ a7 ≤ 255:=hb _ (by simp)
  have h8:0 ≤ a8 ∧ a8 ≤ 255:=hb _ (by simp)
  have h9:0 ≤ a9 ∧ a9 ≤ 255:=hb _ (by simp)
  refine givesV_of_tr Tryd.func29 rfl rfl ?_
  (refine s_r ?_;refine tr_new (rk_box (.of rfl) rfl) rfl (fun _ _=>?_);refine tr_new (rk_alloc rfl) rfl (fun _ _=>?_);refine a_s rfl rfl ?_;refine n_t ?_;refine tr_seq ?_;refine s_r ?_;refine tr_val (rk_sliceA_l (.of rfl) (.of rfl) (by omega) (by omega) norm1_ norm1_) rfl ?_;refine tr_val (rk_s2ap (.of rfl) rfl) rfl ?_;refine tr_val (rk_loadB (.of rfl) (.there .here) norm_ (by rfl)) rfl ?_;refine tr_val (rk_buildL (.cons (.of rfl) (.cons (.of rfl) .nil)) norm_) rfl ?_;refine tr_val (rk_neqA (.of rfl) (.of rfl) (okL_int (okL_int okL_nil)) rfl) rfl ?_;refine n_t ?_;refine c_b rfl (fun hcd=>?_) (fun hcd=>?_);refine s_r ?_;refine tr_val (rk_buildL .nil norm_) rfl ?_;refine tr_store (.of rfl) (.of rfl) .here rfl rfl (okc_cons rfl (okc_cons rfl (okc_cons rfl (okc_cons rfl (okc_cons rfl (okc_cons rfl (okc_cons rfl okc_nil))))))) (lenb rfl) norm_ ?_;refine a_s rfl rfl ?_;refine n_t ?_;refine r_t ?_;refine tr_retE rfl (endsCT rfl inferInstance rfl .here norm_ (by rfl) (by rfl)) ?_;rotate_left;refine s_t ?_;refine tr_seq ?_;refine tr_seq ?_;rotate_right)
  · obtain ⟨e1,e2⟩:=rdE_9 (W:=[a0,a1,a2,a3,a4,a5,a6,a7,a8,a9]) (by
      show a8 ≠ 63 ∨ a9 ≠ 253
      simpa using hcd)
    rw [e1,e2];rfl
  have n9:¬ (wa [a0,a1,a2,a3,a4,a5,a6,a7,a8,a9] 8 ≠ 63 ∨ wa [a0,a1,a2,a3,a4,a5,a6,a7,a8,a9] 9 ≠ 253):=by
    show ¬ (a8 ≠ 63 ∨ a9 ≠ 253)
    simpa using hcd
  clear hcd
  rename_i b1 hb1 b2 hb2
  with_reducible refine tr_draw 5 (by kernel_rfl) ?_
  (refine any_val (rk_sliceA_h (.of rfl) (.of rfl) (by omega) (by omega) norm1_) rfl ?_;refine any_call (rk_call (.of rfl) (.cons (.of rfl) .nil) inferInstance normc_) rfl (fun w' hm'=>(par7_c hm' (.there .here))) ?_;refine any_val (rk_indexAddrA (.of rfl) (.of rfl) (by omega) (by omega) norm1_) rfl ?_;refine any_val (rk_load1 (.of rfl) (At.lit (.there .here) rfl)) rfl ?_;refine any_val (rk_neq (.of rfl) (.of rfl)) rfl ?_)
  with_reducible refine any_end ?_
  (refine n_t ?_;refine c_d rfl (fun hcd=>?_) (fun hcd=>?_);refine s_r ?_;refine tr_val (rk_buildL .nil norm_) rfl ?_;refine tr_store (.of rfl) (.of rfl) .here rfl rfl (okc_cons rfl (okc_cons rfl (okc_cons rfl (okc_cons rfl (okc_cons rfl (okc_cons rfl (okc_cons rfl okc_nil))))))) (lenb rfl) norm_ ?_;refine a_s rfl rfl ?_;refine n_t ?_;refine r_t ?_;refine tr_retE rfl (endsCT rfl inferInstance rfl .here norm_ (by rfl) (by rfl)) ?_;rotate_left;refine s_t ?_;refine s_r ?_;refine tr_new (rk_alloc rfl) rfl (fun _ _=>?_);refine n_t ?_;refine tr_seq ?_;refine s_r ?_;refine tr_callV (rk_call (.of rfl) .nil inferInstance normc_) rfl (fun w' hm'=>(parts_c w')) ?_;refine m_v rfl rfl ?_;refine n_t ?_;refine tr_block ?_;rotate_right)
  · obtain ⟨e1,e2⟩:=rdE_7 n9 (by
      show parF [a0,a1,a2,a3,a4,a5,a6] ≠ a7
      simpa using hcd)
    rw [e1,e2];rfl
  have n7:¬ parF (List.take 7 [a0,a1,a2,a3,a4,a5,a6,a7,a8,a9]) ≠ wa [a0,a1,a2,a3,a4,a5,a6,a7,a8,a9] 7:=by
    show ¬ parF [a0,a1,a2,a3,a4,a5,a6] ≠ a7
    simpa using hcd
  clear hcd
  rename_i b4 hb4
  refine tr_for (fun k:Nat=>k ≤ 4 ∧ (0 < k → badD a0 = false) ∧ (1 < k → badD a1 = false) ∧ (2 < k → badD a2 = false) ∧ (3 < k → badD a3 = false)) (fun k=>[(21,.int .i64 k),(20,.agg #[.func (.func 87) #[] #[],.func (.func 88) #[] #[],.func (.func 89) #[] #[],.func (.func 90) #[] #[]]),(4,.pointer (some ⟨b4,0,none⟩)),(3,.int .i64 0),(2,.pointer (some ⟨b2,0,none⟩)),(1,.pointer (some ⟨b1,0,none⟩))]) (fun k=>[blk b4 (.cells (fieldK a0 a1 a2 a3 k).toArray 86 (0,0)),blk b2 (.cells #[.int .i64 0,.bool false,.int .i64 0,.int .i64 0,.int .i64 0,.int .i64 0,.int .i64 0] 86 (0,0)),blk b1 (.cells #[.int .u8 a0,.int .u8 a1,.int .u8 a2,.int .u8 a3,.int .u8 a4,.int .u8 a5,.int .u8 a6,.int .u8 a7,.int .u8 a8,.int .u8 a9] 35 (0,0))]) (fun k=>4 - k) ?_ ?_
  · apply tr_start 0 ⟨show (0:Nat) ≤ 4 by omega,fun h=>absurd h (by decide),fun h=>absurd h (by decide),fun h=>absurd h (by decide),fun h=>absurd h (by decide)⟩
    case hs1=>exact .cons rfl (.cons rfl (.cons rfl (.cons rfl (.cons rfl (.cons rfl .nil)))))
    case ht=>
      show Takes _ [blk b4 (.cells #[.int .i64 0,.bool false,.int .i64 0,.int .i64 0,.int .i64 0,.int .i64 0,.int .i64 0] 86 (0,0)),blk b2 (.cells #[.int .i64 0,.bool false,.int .i64 0,.int .i64 0,.int .i64 0,.int .i64 0,.int .i64 0] 86 (0,0)),blk b1 (.cells #[.int .u8 a0,.int .u8 a1,.int .u8 a2,.int .u8 a3,.int .u8 a4,.int .u8 a5,.int .u8 a6,.int .u8 a7,.int .u8 a8,.int .u8 a9] 35 (0,0))] _
      exact .cons .here (.cons .here (.cons .here .nil))
  rintro k ⟨hk,hd0,hd1,hd2,hd3⟩
  by_cases hlt:k < 4
  · obtain rfl | rfl | rfl | rfl:k = 0 ∨ k = 1 ∨ k = 2 ∨ k = 3:=by omega
    · show Tr _ [] [(21,.int .i64 0),(20,.agg #[.func (.func 87) #[] #[],.func (.func 88) #[] #[],.func (.func 89) #[] #[],.func (.func 90) #[] #[]]),(4,.pointer (some ⟨b4,0,none⟩)),(3,.int .i64 0),(2,.pointer (some ⟨b2,0,none⟩)),(1,.pointer (some ⟨b1,0,none⟩))] [blk b4 (.cells #[.int .i64 0,.bool false,.int .i64 0,.int .i64 0,.int .i64 0,.int .i64 0,.int .i64 0] 86 (0,0)),blk b2 (.cells #[.int .i64 0,.bool false,.int .i64 0,.int .i64 0,.int .i64 0,.int .i64 0,.int .i64 0] 86 (0,0)),blk b1 (.cells #[.int .u8 a0,.int .u8 a1,.int .u8 a2,.int .u8 a3,.int .u8 a4,.int .u8 a5,.int .u8 a6,.int .u8 a7,.int .u8 a8,.int .u8 a9] 35 (0,0))] _
      (refine s_r ?_;refine tr_val (rk_lss (.of rfl) (.of rfl)) rfl ?_;refine n_t ?_;refine tr_seq ?_;refine c_d rfl (fun hcd=>?_) (fun _=>by omega);refine s_t ?_;refine tr_seq ?_;refine tr_block ?_;refine s_r ?_;refine m_v rfl rfl ?_;refine tr_val (rk_index (.of rfl) (.of rfl) (by omega) hcd norm_) rfl ?_;refine tr_new (rk_alloc rfl) rfl (fun _ _=>?_);refine a_s rfl rfl ?_;refine tr_store (.of rfl) (.of rfl) .here rfl rfl (okc_cons rfl okc_nil) (lenb rfl) norm_ ?_;refine n_t ?_;refine tr_seq ?_;refine s_r ?_;refine m_v rfl rfl ?_;refine tr_val (rk_indexAddrA (.of rfl) (.of rfl) (by omega) (by omega) norm1_) rfl ?_;refine tr_val (rk_load1 (.of rfl) (At.lit (.there (.there (.there .here))) rfl)) rfl ?_;refine tr_val (rk_shrC (.of rfl) (.of rfl) rfl) rfl ?_;refine tr_val (rk_gtr (.of rfl) (.of rfl)) rfl ?_;refine m_v rfl rfl ?_;refine v_g rfl rfl rfl rfl ?_;refine tr_vG1 rfl rfl inferInstance (fun hg hgp=>(rk_indexAddrA (.of rfl) (.ofg hg rfl) (by omega) (by omega) norm1_)) rfl ?_;refine tr_vG1 rfl rfl inferInstance (fun hg hgp=>(rk_load1 (.ofg hg rfl) (At.lit (.there (.there (.there .here))) rfl))) rfl ?_;refine tr_vG1 rfl rfl inferInstance (fun hg hgp=>(rk_and8 (.ofg hg rfl) (.of rfl))) rfl ?_;refine tr_vG1 rfl rfl inferInstance (fun hg hgp=>(rk_gtr (.ofg hg rfl) (.of rfl))) rfl ?_;refine tr_val (rk_pick_or (.of rfl) rfl) rfl ?_;refine n_t ?_;refine c_b rfl (fun hcd=>?_) (fun hcd=>?_);refine s_r ?_;refine tr_val (rk_buildL .nil norm_) rfl ?_;refine tr_store (.of rfl) (.of rfl) (.there (.there .here)) rfl rfl (okc_cons rfl (okc_cons rfl (okc_cons rfl (okc_cons rfl (okc_cons rfl (okc_cons rfl (okc_cons rfl okc_nil))))))) (lenb rfl) norm_ ?_;refine a_s rfl rfl ?_;refine n_t ?_;refine r_t ?_;refine tr_blk_ret ?_;refine tr_then_ret ?_;refine tr_then_ret ?_;refine tr_blk_ret ?_;refine tr_then_ret ?_;refine tr_retE rfl (endsCT rfl inferInstance rfl .here norm_ (by rfl) (by rfl)) ?_;rotate_left;refine s_t ?_;rotate_right)
      · obtain ⟨e1,e2⟩:=rdE_d n9 n7 (by
          have:=bad_of h0 (by simpa using hcd)
          show (badD a0 || badD a1 || badD a2 || badD a3) = true
          rw [this];simp)
        rw [e1,e2];rfl
      have hbd:=bad_not h0 (by simpa using hcd)
      clear hcd
      have w1:=hi_of h0
      have w2:=lo_of h0
      with_reducible refine tr_draw 17 (by kernel_rfl) ?_
      (refine a_f rfl rfl norm0_ ?_;refine any_val (rk_load1 (.of rfl) (At.lit .here rfl)) rfl ?_;refine a_f rfl rfl norm0_ ?_;refine any_call (rk_call (.of rfl) (.cons (.of rfl) .nil) inferInstance normc_) rfl (fun w' hm'=>(part1_c b4 2 w')) ?_;refine a_m rfl rfl ?_;refine any_val (rk_indexAddrA (.of rfl) (.of rfl) (by omega) (by omega) norm1_) rfl ?_;refine any_val (rk_load1 (.of rfl) (At.lit (.there (.there (.there .here))) rfl)) rfl ?_;refine any_val (rk_shrC (.of rfl) (.of rfl) rfl) rfl ?_;refine any_val (rk_conv (.of rfl)) rfl ?_;refine any_val (rk_mul (.of rfl) (.of rfl) (ini (by omega))) rfl ?_;refine a_m rfl rfl ?_;refine any_val (rk_indexAddrA (.of rfl) (.of rfl) (by omega) (by omega) norm1_) rfl ?_;refine any_val (rk_load1 (.of rfl) (At.lit (.there (.there (.there .here))) rfl)) rfl ?_;refine any_val (rk_and8 (.of rfl) (.of rfl)) rfl ?_;refine any_val (rk_conv (.of rfl)) rfl ?_;refine any_val (rk_add (.of rfl) (.of rfl) (ini (by omega))) rfl ?_;refine any_val (rk_nilCheck (.of rfl)) rfl ?_)
      rw [w1]
      skip
      rw [w2]
      skip
      with_reducible refine any_end ?_
      (refine tr_store (.of rfl) (.of rfl) (.there .here) rfl rfl (okc_cons rfl okc_nil) (lenb rfl) norm_ ?_;refine tr_nil ?_;refine tr_blk_normal ?_;refine tr_then ?_;refine tr_region ?_;refine tr_val (rk_add (.of rfl) (.of rfl) (ini (by omega))) rfl ?_;refine m_v rfl rfl ?_;refine n_t ?_)
      rw [show a0 / 16 * 10 + a0 % 16 = unb a0 from rfl]
      apply tr_next (Φ:=fun k:Nat=>k ≤ 4 ∧ (0 < k → badD a0 = false) ∧ (1 < k → badD a1 = false) ∧ (2 < k → badD a2 = false) ∧ (3 < k → badD a3 = false)) 1 ⟨show 1 ≤ 4 from of_decide_eq_true rfl,fun _=>hbd,fun h=>absurd h (by decide),fun h=>absurd h (by decide),fun h=>absurd h (by decide)⟩ (by show 4 - 1 < 4 - 0;omega)
      case hs1=>exact .cons rfl (.cons rfl (.cons rfl (.cons rfl (.cons rfl (.cons rfl .nil)))))
      case ht=>
        show Takes _ [blk b4 (.cells #[.int .i64 0,.bool false,.int .i64 0,.int .i64 0,.int .i64 0,.int .i64 (unb a0),.int .i64 0] 86 (0,0)),blk b2 (.cells #[.int .i64 0,.bool false,.int .i64 0,.int .i64 0,.int .i64 0,.int .i64 0,.int .i64 0] 86 (0,0)),blk b1 (.cells #[.int .u8 a0,.int .u8 a1,.int .u8 a2,.int .u8 a3,.int .u8 a4,.int .u8 a5,.int .u8 a6,.int .u8 a7,.int .u8 a8,.int .u8 a9] 35 (0,0))] _
        exact .cons .here (.cons (.there .here) (.cons (.there .here) .nil))
    · show Tr _ [] [(21,.int .i64 1),(20,.agg #[.func (.func 87) #[] #[],.func (.func 88) #[] #[],.func (.func 89) #[] #[],.func (.func 90) #[] #[]]),(4,.pointer (some ⟨b4,0,none⟩)),(3,.int .i64 0),(2,.pointer (some ⟨b2,0,none⟩)),(1,.pointer (some ⟨b1,0,none⟩))] [blk b4 (.cells #[.int .i64 0,.bool false,.int .i64 0,.int .i64 0,.int .i64 0,.int .i64 (unb a0),.int .i64 0] 86 (0,0)),blk b2 (.cells #[.int .i64 0,.bool false,.int .i64 0,.int .i64 0,.int .i64 0,.int .i64 0,.int .i64 0] 86 (0,0)),blk b1 (.cells #[.int .u8 a0,.int .u8 a1,.int .u8 a2,.int .u8 a3,.int .u8 a4,.int .u8 a5,.int .u8 a6,.int .u8 a7,.int .u8 a8,.int .u8 a9] 35 (0,0))] _
      (refine s_r ?_;refine tr_val (rk_lss (.of rfl) (.of rfl)) rfl ?_;refine n_t ?_;refine tr_seq ?_;refine c_d rfl (fun hcd=>?_) (fun _=>by omega);refine s_t ?_;refine tr_seq ?_;refine tr_block ?_;refine s_r ?_;refine m_v rfl rfl ?_;refine tr_val (rk_index (.of rfl) (.of rfl) (by omega) hcd norm_) rfl ?_;refine tr_new (rk_alloc rfl) rfl (fun _ _=>?_);refine a_s rfl rfl ?_;refine tr_store (.of rfl) (.of rfl) .here rfl rfl (okc_cons rfl okc_nil) (lenb rfl) norm_ ?_;refine n_t ?_;refine tr_seq ?_;refine s_r ?_;refine m_v rfl rfl ?_;refine tr_val (rk_indexAddrA (.of rfl) (.of rfl) (by omega) (by omega) norm1_) rfl ?_;refine tr_val (rk_load1 (.of rfl) (At.lit (.there (.there (.there .here))) rfl)) rfl ?_;refine tr_val (rk_shrC (.of rfl) (.of rfl) rfl) rfl ?_;refine tr_val (rk_gtr (.of rfl) (.of rfl)) rfl ?_;refine m_v rfl rfl ?_;refine v_g rfl rfl rfl rfl ?_;refine tr_vG1 rfl rfl inferInstance (fun hg hgp=>(rk_indexAddrA (.of rfl) (.ofg hg rfl) (by omega) (by omega) norm1_)) rfl ?_;refine tr_vG1 rfl rfl inferInstance (fun hg hgp=>(rk_load1 (.ofg hg rfl) (At.lit (.there (.there (.there .here))) rfl))) rfl ?_;refine tr_vG1 rfl rfl inferInstance (fun hg hgp=>(rk_and8 (.ofg hg rfl) (.of rfl))) rfl ?_;refine tr_vG1 rfl rfl inferInstance (fun hg hgp=>(rk_gtr (.ofg hg rfl) (.of rfl))) rfl ?_;refine tr_val (rk_pick_or (.of rfl) rfl) rfl ?_;refine n_t ?_;refine c_b rfl (fun hcd=>?_) (fun hcd=>?_);refine s_r ?_;refine tr_val (rk_buildL .nil norm_) rfl ?_;refine tr_store (.of rfl) (.of rfl) (.there (.there .here)) rfl rfl (okc_cons rfl (okc_cons rfl (okc_cons rfl (okc_cons rfl (okc_cons rfl (okc_cons rfl (okc_cons rfl okc_nil))))))) (lenb rfl) norm_ ?_;refine a_s rfl rfl ?_;refine n_t ?_;refine r_t ?_;refine tr_blk_ret ?_;refine tr_then_ret ?_;refine tr_then_ret ?_;refine tr_blk_ret ?_;refine tr_then_ret ?_;refine tr_retE rfl (endsCT rfl inferInstance rfl .here norm_ (by rfl) (by rfl)) ?_;rotate_left;refine s_t ?_;rotate_right)
      · obtain ⟨e1,e2⟩:=rdE_d n9 n7 (by
          have:=bad_of h1 (by simpa using hcd)
          show (badD a0 || badD a1 || badD a2 || badD a3) = true
          rw [this];simp)
        rw [e1,e2];rfl
      have hbd:=bad_not h1 (by simpa using hcd)
      clear hcd
      have w1:=hi_of h1
      have w2:=lo_of h1
      with_reducible refine tr_draw 17 (by kernel_rfl) ?_
      (refine a_f rfl rfl norm0_ ?_;refine any_val (rk_load1 (.of rfl) (At.lit .here rfl)) rfl ?_;refine a_f rfl rfl norm0_ ?_;refine any_call (rk_call (.of rfl) (.cons (.of rfl) .nil) inferInstance normc_) rfl (fun w' hm'=>(part2_c b4 2 w')) ?_;refine a_m rfl rfl ?_;refine any_val (rk_indexAddrA (.of rfl) (.of rfl) (by omega) (by omega) norm1_) rfl ?_;refine any_val (rk_load1 (.of rfl) (At.lit (.there (.there (.there .here))) rfl)) rfl ?_;refine any_val (rk_shrC (.of rfl) (.of rfl) rfl) rfl ?_;refine any_val (rk_conv (.of rfl)) rfl ?_;refine any_val (rk_mul (.of rfl) (.of rfl) (ini (by omega))) rfl ?_;refine a_m rfl rfl ?_;refine any_val (rk_indexAddrA (.of rfl) (.of rfl) (by omega) (by omega) norm1_) rfl ?_;refine any_val (rk_load1 (.of rfl) (At.lit (.there (.there (.there .here))) rfl)) rfl ?_;refine any_val (rk_and8 (.of rfl) (.of rfl)) rfl ?_;refine any_val (rk_conv (.of rfl)) rfl ?_;refine any_val (rk_add (.of rfl) (.of rfl) (ini (by omega))) rfl ?_;refine any_val (rk_nilCheck (.of rfl)) rfl ?_)
      rw [w1]
      skip
      rw [w2]
      skip
      with_reducible refine any_end ?_
      (refine tr_store (.of rfl) (.of rfl) (.there .here) rfl rfl (okc_cons rfl okc_nil) (lenb rfl) norm_ ?_;refine tr_nil ?_;refine tr_blk_normal ?_;refine tr_then ?_;refine tr_region ?_;refine tr_val (rk_add (.of rfl) (.of rfl) (ini (by omega))) rfl ?_;refine m_v rfl rfl ?_;refine n_t ?_)
      rw [show a1 / 16 * 10 + a1 % 16 = unb a1 from rfl]
      apply tr_next (Φ:=fun k:Nat=>k ≤ 4 ∧ (0 < k → badD a0 = false) ∧ (1 < k → badD a1 = false) ∧ (2 < k → badD a2 = false) ∧ (3 < k → badD a3 = false)) 2 ⟨show 2 ≤ 4 from of_decide_eq_true rfl,fun _=>hd0 (by decide),fun _=>hbd,fun h=>absurd h (by decide),fun h=>absurd h (by decide)⟩ (by show 4 - 2 < 4 - 1;omega)
      case hs1=>exact .cons rfl (.cons rfl (.cons rfl (.cons rfl (.cons rfl (.cons rfl .nil)))))
      case ht=>
        show Takes _ [blk b4 (.cells #[.int .i64 0,.bool false,.int .i64 0,.int .i64 0,.int .i64 (unb a1),.int .i64 (unb a0),.int .i64 0] 86 (0,0)),blk b2 (.cells #[.int .i64 0,.bool false,.int .i64 0,.int .i64 0,.int .i64 0,.int .i64 0,.int .i64 0] 86 (0,0)),blk b1 (.cells #[.int .u8 a0,.int .u8 a1,.int .u8 a2,.int .u8 a3,.int .u8 a4,.int .u8 a5,.int .u8 a6,.int .u8 a7,.int .u8 a8,.int .u8 a9] 35 (0,0))] _
        exact .cons .here (.cons (.there .here) (.cons (.there .here) .nil))
    · show Tr _ [] [(21,.int .i64 2),(20,.agg #[.func (.func 87) #[] #[],.func (.func 88) #[] #[],.func (.func 89) #[] #[],.func (.func 90) #[] #[]]),(4,.pointer (some ⟨b4,0,none⟩)),(3,.int .i64 0),(2,.pointer (some ⟨b2,0,none⟩)),(1,.pointer (some ⟨b1,0,none⟩))] [blk b4 (.cells #[.int .i64 0,.bool false,.int .i64 0,.int .i64 0,.int .i64 (unb a1),.int .i64 (unb a0),.int .i64 0] 86 (0,0)),blk b2 (.cells #[.int .i64 0,.bool false,.int .i64 0,.int .i64 0,.int .i64 0,.int .i64 0,.int .i64 0] 86 (0,0)),blk b1 (.cells #[.int .u8 a0,.int .u8 a1,.int .u8 a2,.int .u8 a3,.int .u8 a4,.int .u8 a5,.int .u8 a6,.int .u8 a7,.int .u8 a8,.int .u8 a9] 35 (0,0))] _
      (refine s_r ?_;refine tr_val (rk_lss (.of rfl) (.of rfl)) rfl ?_;refine n_t ?_;refine tr_seq ?_;refine c_d rfl (fun hcd=>?_) (fun _=>by omega);refine s_t ?_;refine tr_seq ?_;refine tr_block ?_;refine s_r ?_;refine m_v rfl rfl ?_;refine tr_val (rk_index (.of rfl) (.of rfl) (by omega) hcd norm_) rfl ?_;refine tr_new (rk_alloc rfl) rfl (fun _ _=>?_);refine a_s rfl rfl ?_;refine tr_store (.of rfl) (.of rfl) .here rfl rfl (okc_cons rfl okc_nil) (lenb rfl) norm_ ?_;refine n_t ?_;refine tr_seq ?_;refine s_r ?_;refine m_v rfl rfl ?_;refine tr_val (rk_indexAddrA (.of rfl) (.of rfl) (by omega) (by omega) norm1_) rfl ?_;refine tr_val (rk_load1 (.of rfl) (At.lit (.there (.there (.there .here))) rfl)) rfl ?_;refine tr_val (rk_shrC (.of rfl) (.of rfl) rfl) rfl ?_;refine tr_val (rk_gtr (.of rfl) (.of rfl)) rfl ?_;refine m_v rfl rfl ?_;refine v_g rfl rfl rfl rfl ?_;refine tr_vG1 rfl rfl inferInstance (fun hg hgp=>(rk_indexAddrA (.of rfl) (.ofg hg rfl) (by omega) (by omega) norm1_)) rfl ?_;refine tr_vG1 rfl rfl inferInstance (fun hg hgp=>(rk_load1 (.ofg hg rfl) (At.lit (.there (.there (.there .here))) rfl))) rfl ?_;refine tr_vG1 rfl rfl inferInstance (fun hg hgp=>(rk_and8 (.ofg hg rfl) (.of rfl))) rfl ?_;refine tr_vG1 rfl rfl inferInstance (fun hg hgp=>(rk_gtr (.ofg hg rfl) (.of rfl))) rfl ?_;refine tr_val (rk_pick_or (.of rfl) rfl) rfl ?_;refine n_t ?_;refine c_b rfl (fun hcd=>?_) (fun hcd=>?_);refine s_r ?_;refine tr_val (rk_buildL .nil norm_) rfl ?_;refine tr_store (.of rfl) (.of rfl) (.there (.there .here)) rfl rfl (okc_cons rfl (okc_cons rfl (okc_cons rfl (okc_cons rfl (okc_cons rfl (okc_cons rfl (okc_cons rfl okc_nil))))))) (lenb rfl) norm_ ?_;refine a_s rfl rfl ?_;refine n_t ?_;refine r_t ?_;refine tr_blk_ret ?_;refine tr_then_ret ?_;refine tr_then_ret ?_;refine tr_blk_ret ?_;refine tr_then_ret ?_;refine tr_retE rfl (endsCT rfl inferInstance rfl .here norm_ (by rfl) (by rfl)) ?_;rotate_left;refine s_t ?_;rotate_right)
      · obtain ⟨e1,e2⟩:=rdE_d n9 n7 (by
          have:=bad_of h2 (by simpa using hcd)
          show (badD a0 || badD a1 || badD a2 || badD a3) = true
          rw [this];simp)
        rw [e1,e2];rfl
      have hbd:=bad_not h2 (by simpa using hcd)
      clear hcd
      have w1:=hi_of h2
      have w2:=lo_of h2
      with_reducible refine tr_draw 17 (by kernel_rfl) ?_
      (refine a_f rfl rfl norm0_ ?_;refine any_val (rk_load1 (.of rfl) (At.lit .here rfl)) rfl ?_;refine a_f rfl rfl norm0_ ?_;refine any_call (rk_call (.of rfl) (.cons (.of rfl) .nil) inferInstance normc_) rfl (fun w' hm'=>(part3_c b4 2 w')) ?_;refine a_m rfl rfl ?_;refine any_val (rk_indexAddrA (.of rfl) (.of rfl) (by omega) (by omega) norm1_) rfl ?_;refine any_val (rk_load1 (.of rfl) (At.lit (.there (.there (.there .here))) rfl)) rfl ?_;refine any_val (rk_shrC (.of rfl) (.of rfl) rfl) rfl ?_;refine any_val (rk_conv (.of rfl)) rfl ?_;refine any_val (rk_mul (.of rfl) (.of rfl) (ini (by omega))) rfl ?_;refine a_m rfl rfl ?_;refine any_val (rk_indexAddrA (.of rfl) (.of rfl) (by omega) (by omega) norm1_) rfl ?_;refine any_val (rk_load1 (.of rfl) (At.lit (.there (.there (.there .here))) rfl)) rfl ?_;refine any_val (rk_and8 (.of rfl) (.of rfl)) rfl ?_;refine any_val (rk_conv (.of rfl)) rfl ?_;refine any_val (rk_add (.of rfl) (.of rfl) (ini (by omega))) rfl ?_;refine any_val (rk_nilCheck (.of rfl)) rfl ?_)
      rw [w1]
      skip
      rw [w2]
      skip
      with_reducible refine any_end ?_
      (refine tr_store (.of rfl) (.of rfl) (.there .here) rfl rfl (okc_cons rfl okc_nil) (lenb rfl) norm_ ?_;refine tr_nil ?_;refine tr_blk_normal ?_;refine tr_then ?_;refine tr_region ?_;refine tr_val (rk_add (.of rfl) (.of rfl) (ini (by omega))) rfl ?_;refine m_v rfl rfl ?_;refine n_t ?_)
      rw [show a2 / 16 * 10 + a2 % 16 = unb a2 from rfl]
      apply tr_next (Φ:=fun k:Nat=>k ≤ 4 ∧ (0 < k → badD a0 = false) ∧ (1 < k → badD a1 = false) ∧ (2 < k → badD a2 = false) ∧ (3 < k → badD a3 = false)) 3 ⟨show 3 ≤ 4 from of_decide_eq_true rfl,fun _=>hd0 (by decide),fun _=>hd1 (by decide),fun _=>hbd,fun h=>absurd h (by decide)⟩ (by show 4 - 3 < 4 - 2;omega)
      case hs1=>exact .cons rfl (.cons rfl (.cons rfl (.cons rfl (.cons rfl (.cons rfl .nil)))))
      case ht=>
        show Takes _ [blk b4 (.cells #[.int .i64 0,.bool false,.int .i64 0,.int .i64 (unb a2),.int .i64 (unb a1),.int .i64 (unb a0),.int .i64 0] 86 (0,0)),blk b2 (.cells #[.int .i64 0,.bool false,.int .i64 0,.int .i64 0,.int .i64 0,.int .i64 0,.int .i64 0] 86 (0,0)),blk b1 (.cells #[.int .u8 a0,.int .u8 a1,.int .u8 a2,.int .u8 a3,.int .u8 a4,.int .u8 a5,.int .u8 a6,.int .u8 a7,.int .u8 a8,.int .u8 a9] 35 (0,0))] _
        exact .cons .here (.cons (.there .here) (.cons (.there .here) .nil))
    · show Tr _ [] [(21,.int .i64 3),(20,.agg #[.func (.func 87) #[] #[],.func (.func 88) #[] #[],.func (.func 89) #[] #[],.func (.func 90) #[] #[]]),(4,.pointer (some ⟨b4,0,none⟩)),(3,.int .i64 0),(2,.pointer (some ⟨b2,0,none⟩)),(1,.pointer (some ⟨b1,0,none⟩))] [blk b4 (.cells #[.int .i64 0,.bool false,.int .i64 0,.int .i64 (unb a2),.int .i64 (unb a1),.int .i64 (unb a0),.int .i64 0] 86 (0,0)),blk b2 (.cells #[.int .i64 0,.bool false,.int .i64 0,.int .i64 0,.int .i64 0,.int .i64 0,.int .i64 0] 86 (0,0)),blk b1 (.cells #[.int .u8 a0,.int .u8 a1,.int .u8 a2,.int .u8 a3,.int .u8 a4,.int .u8 a5,.int .u8 a6,.int .u8 a7,.int .u8 a8,.int .u8 a9] 35 (0,0))] _
      (refine s_r ?_;refine tr_val (rk_lss (.of rfl) (.of rfl)) rfl ?_;refine n_t ?_;refine tr_seq ?_;refine c_d rfl (fun hcd=>?_) (fun _=>by omega);refine s_t ?_;refine tr_seq ?_;refine tr_block ?_;refine s_r ?_;refine m_v rfl rfl ?_;refine tr_val (rk_index (.of rfl) (.of rfl) (by omega) hcd norm_) rfl ?_;refine tr_new (rk_alloc rfl) rfl (fun _ _=>?_);refine a_s rfl rfl ?_;refine tr_store (.of rfl) (.of rfl) .here rfl rfl (okc_cons rfl okc_nil) (lenb rfl) norm_ ?_;refine n_t ?_;refine tr_seq ?_;refine s_r ?_;refine m_v rfl rfl ?_;refine tr_val (rk_indexAddrA (.of rfl) (.of rfl) (by omega) (by omega) norm1_) rfl ?_;refine tr_val (rk_load1 (.of rfl) (At.lit (.there (.there (.there .here))) rfl)) rfl ?_;refine tr_val (rk_shrC (.of rfl) (.of rfl) rfl) rfl ?_;refine tr_val (rk_gtr (.of rfl) (.of rfl)) rfl ?_;refine m_v rfl rfl ?_;refine v_g rfl rfl rfl rfl ?_;refine tr_vG1 rfl rfl inferInstance (fun hg hgp=>(rk_indexAddrA (.of rfl) (.ofg hg rfl) (by omega) (by omega) norm1_)) rfl ?_;refine tr_vG1 rfl rfl inferInstance (fun hg hgp=>(rk_load1 (.ofg hg rfl) (At.lit (.there (.there (.there .here))) rfl))) rfl ?_;refine tr_vG1 rfl rfl inferInstance (fun hg hgp=>(rk_and8 (.ofg hg rfl) (.of rfl))) rfl ?_;refine tr_vG1 rfl rfl inferInstance (fun hg hgp=>(rk_gtr (.ofg hg rfl) (.of rfl))) rfl ?_;refine tr_val (rk_pick_or (.of rfl) rfl) rfl ?_;refine n_t ?_;refine c_b rfl (fun hcd=>?_) (fun hcd=>?_);refine s_r ?_;refine tr_val (rk_buildL .nil norm_) rfl ?_;refine tr_store (.of rfl) (.of rfl) (.there (.there .here)) rfl rfl (okc_cons rfl (okc_cons rfl (okc_cons rfl (okc_cons rfl (okc_cons rfl (okc_cons rfl (okc_cons rfl okc_nil))))))) (lenb rfl) norm_ ?_;refine a_s rfl rfl ?_;refine n_t ?_;refine r_t ?_;refine tr_blk_ret ?_;refine tr_then_ret ?_;refine tr_then_ret ?_;refine tr_blk_ret ?_;refine tr_then_ret ?_;refine tr_retE rfl (endsCT rfl inferInstance rfl .here norm_ (by rfl) (by rfl)) ?_;rotate_left;refine s_t ?_;rotate_right)
      · obtain ⟨e1,e2⟩:=rdE_d n9 n7 (by
          have:=bad_of h3 (by simpa using hcd)
          show (badD a0 || badD a1 || badD a2 || badD a3) = true
          rw [this];simp)
        rw [e1,e2];rfl
      have hbd:=bad_not h3 (by simpa using hcd)
      clear hcd
      have w1:=hi_of h3
      have w2:=lo_of h3
      with_reducible refine tr_draw 17 (by kernel_rfl) ?_
      (refine a_f rfl rfl norm0_ ?_;refine any_val (rk_load1 (.of rfl) (At.lit .here rfl)) rfl ?_;refine a_f rfl rfl norm0_ ?_;refine any_call (rk_call (.of rfl) (.cons (.of rfl) .nil) inferInstance normc_) rfl (fun w' hm'=>(part4_c b4 2 w')) ?_;refine a_m rfl rfl ?_;refine any_val (rk_indexAddrA (.of rfl) (.of rfl) (by omega) (by omega) norm1_) rfl ?_;refine any_val (rk_load1 (.of rfl) (At.lit (.there (.there (.there .here))) rfl)) rfl ?_;refine any_val (rk_shrC (.of rfl) (.of rfl) rfl) rfl ?_;refine any_val (rk_conv (.of rfl)) rfl ?_;refine any_val (rk_mul (.of rfl) (.of rfl) (ini (by omega))) rfl ?_;refine a_m rfl rfl ?_;refine any_val (rk_indexAddrA (.of rfl) (.of rfl) (by omega) (by omega) norm1_) rfl ?_;refine any_val (rk_load1 (.of rfl) (At.lit (.there (.there (.there .here))) rfl)) rfl ?_;refine any_val (rk_and8 (.of rfl) (.of rfl)) rfl ?_;refine any_val (rk_conv (.of rfl)) rfl ?_;refine any_val (rk_add (.of rfl) (.of rfl) (ini (by omega))) rfl ?_;refine any_val (rk_nilCheck (.of rfl)) rfl ?_)
      rw [w1]
      skip
      rw [w2]
      skip
      with_reducible refine any_end ?_
      (refine tr_store (.of rfl) (.of rfl) (.there .here) rfl rfl (okc_cons rfl okc_nil) (lenb rfl) norm_ ?_;refine tr_nil ?_;refine tr_blk_normal ?_;refine tr_then ?_;refine tr_region ?_;refine tr_val (rk_add (.of rfl) (.of rfl) (ini (by omega))) rfl ?_;refine m_v rfl rfl ?_;refine n_t ?_)
      rw [show a3 / 16 * 10 + a3 % 16 = unb a3 from rfl]
      apply tr_next (Φ:=fun k:Nat=>k ≤ 4 ∧ (0 < k → badD a0 = false) ∧ (1 < k → badD a1 = false) ∧ (2 < k → badD a2 = false) ∧ (3 < k → badD a3 = false)) 4 ⟨show 4 ≤ 4 from of_decide_eq_true rfl,fun _=>hd0 (by decide),fun _=>hd1 (by decide),fun _=>hd2 (by decide),fun _=>hbd⟩ (by show 4 - 4 < 4 - 3;omega)
      case hs1=>exact .cons rfl (.cons rfl (.cons rfl (.cons rfl (.cons rfl (.cons rfl .nil)))))
      case ht=>
        show Takes _ [blk b4 (.cells #[.int .i64 0,.bool false,.int .i64 (unb a3),.int .i64 (unb a2),.int .i64 (unb a1),.int .i64 (unb a0),.int .i64 0] 86 (0,0)),blk b2 (.cells #[.int .i64 0,.bool false,.int .i64 0,.int .i64 0,.int .i64 0,.int .i64 0,.int .i64 0] 86 (0,0)),blk b1 (.cells #[.int .u8 a0,.int .u8 a1,.int .u8 a2,.int .u8 a3,.int .u8 a4,.int .u8 a5,.int .u8 a6,.int .u8 a7,.int .u8 a8,.int .u8 a9] 35 (0,0))] _
        exact .cons .here (.cons (.there .here) (.cons (.there .here) .nil))
  · obtain rfl:k = 4:=by omega
    have nd:¬ (badD (wa [a0,a1,a2,a3,a4,a5,a6,a7,a8,a9] 0) || badD (wa [a0,a1,a2,a3,a4,a5,a6,a7,a8,a9] 1) || badD (wa [a0,a1,a2,a3,a4,a5,a6,a7,a8,a9] 2) || badD (wa [a0,a1,a2,a3,a4,a5,a6,a7,a8,a9] 3)) = true:=by
      show ¬ (badD a0 || badD a1 || badD a2 || badD a3) = true
      rw [hd0 (by decide),hd1 (by decide),hd2 (by decide),hd3 (by decide)];decide
    have hR:=rdE_r n9 n7 nd
    clear hd0 hd1 hd2 hd3 hlt hk
    have e1:IntKind.i64.wrap (anotF a4 128) = a4 % 128:=by rw [(rate_bits h4).1];exact i64w (by omega)
    have e2:decide (0 < andF a4 128) = decide (128 ≤ a4):=by rw [(rate_bits h4).2,decide_eq_decide];omega
    have e3:IntKind.i64.wrap a5 = a5:=i64w (by omega)
    have e4:IntKind.i64.wrap a6 = a6:=i64w (by omega)
    have e5:IntKind.i64.wrap (a5 * 2 ^ (8:Int).toNat) = a5 * 256:=i64w (by show _ ≤ a5 * 256 ∧ a5 * 256 ≤ _;omega)
    have e5':IntKind.i64.wrap (a5 * 2 ^ 8) = a5 * 256:=i64w (by omega)
    have hrt:=rt_ok h4
    have hst:stmW [a0,a1,a2,a3,a4,a5,a6,a7,a8,a9] = ⟨⟨a4 % 128,decide (128 ≤ a4)⟩,⟨unb a3,unb a2,unb a1,unb a0⟩,a5 * 256 + a6⟩:=rfl
    have hw4:wa [a0,a1,a2,a3,a4,a5,a6,a7,a8,a9] 4 = a4:=rfl
    rw [hw4,hst] at hR
    have hF:rdF [a0,a1,a2,a3,a4,a5,a6,a7,a8,a9] = if rdE [a0,a1,a2,a3,a4,a5,a6,a7,a8,a9] = 0 then ⟨⟨a4 % 128,decide (128 ≤ a4)⟩,⟨unb a3,unb a2,unb a1,unb a0⟩,a5 * 256 + a6⟩ else Stm.zero:=rfl
    have hcr:∀ w',Keeps [] w w' → GivesV Tryd.prog 47 [.agg #[.int .i64 (a4 % 128),.bool (decide (128 ≤ a4))]] w' (.int .i64 (rateF ⟨a4 % 128,decide (128 ≤ a4)⟩)):=fun w' hk=>chkRate_c ⟨a4 % 128,decide (128 ≤ a4)⟩ w' (hG.keeps hk)
    have hcs:∀ w',Keeps [] w w' → GivesV Tryd.prog 52 [.agg #[.int .i64 (a4 % 128),.bool (decide (128 ≤ a4)),.int .i64 (unb a3),.int .i64 (unb a2),.int .i64 (unb a1),.int .i64 (unb a0),.int .i64 (a5 * 256 + a6)]] w' (.int .i64 (stmE ⟨⟨a4 % 128,decide (128 ≤ a4)⟩,⟨unb a3,unb a2,unb a1,unb a0⟩,a5 * 256 + a6⟩)):=fun w' hk=>chkStamp_c ⟨⟨a4 % 128,decide (128 ≤ a4)⟩,⟨unb a3,unb a2,unb a1,unb a0⟩,a5 * 256 + a6⟩ w' (hG.keeps hk)
    show Tr _ [] [(21,.int .i64 4),(20,.agg #[.func (.func 87) #[] #[],.func (.func 88) #[] #[],.func (.func 89) #[] #[],.func (.func 90) #[] #[]]),(4,.pointer (some ⟨b4,0,none⟩)),(3,.int .i64 0),(2,.pointer (some ⟨b2,0,none⟩)),(1,.pointer (some ⟨b1,0,none⟩))] [blk b4 (.cells #[.int .i64 0,.bool false,.int .i64 (unb a3),.int .i64 (unb a2),.int .i64 (unb a1),.int .i64 (unb a0),.int .i64 0] 86 (0,0)),blk b2 (.cells #[.int .i64 0,.bool false,.int .i64 0,.int .i64 0,.int .i64 0,.int .i64 0,.int .i64 0] 86 (0,0)),blk b1 (.cells #[.int .u8 a0,.int .u8 a1,.int .u8 a2,.int .u8 a3,.int .u8 a4,.int .u8 a5,.int .u8 a6,.int .u8 a7,.int .u8 a8,.int .u8 a9] 35 (0,0))] _
    (refine s_r ?_;refine tr_val (rk_lss (.of rfl) (.of rfl)) rfl ?_;refine n_t ?_;refine tr_seq ?_;refine c_d rfl (fun _=>by omega) (fun hcd=>?_);refine x_t ?_;refine tr_then_exit ?_;refine tr_blk_exit ?_;refine tr_then ?_;refine s_r ?_;refine tr_val (rk_indexAddrA (.of rfl) (.of rfl) (by omega) (by omega) norm1_) rfl ?_;refine tr_val (rk_load1 (.of rfl) (At.lit (.there (.there .here)) rfl)) rfl ?_;refine tr_val (rk_andNot8 (.of rfl) (.of rfl)) rfl ?_;refine tr_val (rk_conv (.of rfl)) rfl ?_;refine tr_val (rk_indexAddrA (.of rfl) (.of rfl) (by omega) (by omega) norm1_) rfl ?_;refine tr_val (rk_load1 (.of rfl) (At.lit (.there (.there .here)) rfl)) rfl ?_;refine tr_val (rk_and8 (.of rfl) (.of rfl)) rfl ?_;refine tr_val (rk_gtr (.of rfl) (.of rfl)) rfl ?_;refine tr_val (rk_buildL (.cons (.of rfl) (.cons (.of rfl) .nil)) norm_) rfl ?_;refine f_a rfl rfl norm0_ ?_;refine tr_store (.of rfl) (.of rfl) .here rfl rfl (okc_cons rfl (okc_cons rfl okc_nil)) (lenb rfl) norm_ ?_;refine n_r ?_;refine tr_val (rk_indexAddrA (.of rfl) (.of rfl) (by omega) (by omega) norm1_) rfl ?_;refine tr_val (rk_load1 (.of rfl) (At.lit (.there (.there .here)) rfl)) rfl ?_;refine tr_val (rk_conv (.of rfl)) rfl ?_;refine tr_val (rk_shlC (.of rfl) (.of rfl) rfl) rfl ?_;refine tr_val (rk_indexAddrA (.of rfl) (.of rfl) (by omega) (by omega) norm1_) rfl ?_;refine tr_val (rk_load1 (.of rfl) (At.lit (.there (.there .here)) rfl)) rfl ?_;refine tr_val (rk_conv (.of rfl)) rfl ?_)
    rw [e1]
    skip
    rw [e2]
    skip
    rw [e3]
    (refine tr_val (rk_add (.of rfl) (.of rfl) (ini (by omega))) rfl ?_;refine f_a rfl rfl norm0_ ?_;refine tr_store (.of rfl) (.of rfl) .here rfl rfl (okc_cons rfl okc_nil) (lenb rfl) norm_ ?_;refine n_t ?_;refine tr_seq ?_;refine s_r ?_;refine f_a rfl rfl norm0_ ?_;refine tr_val (rk_loadB (.of rfl) .here norm_ (by rfl)) rfl ?_;refine tr_callV (rk_call (.of rfl) (.cons (.of rfl) .nil) inferInstance normc_) rfl (fun w' hm'=>(hcr w' (Mem.keeps hm'))) ?_;refine tr_val (rk_neq (.of rfl) (.of rfl)) rfl ?_;refine n_t ?_;refine c_d rfl (fun hcd=>?_) (fun hcd=>?_);refine s_r ?_;refine tr_val (rk_buildL .nil norm_) rfl ?_;refine tr_store (.of rfl) (.of rfl) (.there .here) rfl rfl (okc_cons rfl (okc_cons rfl (okc_cons rfl (okc_cons rfl (okc_cons rfl (okc_cons rfl (okc_cons rfl okc_nil))))))) (lenb rfl) norm_ ?_;refine a_s rfl rfl ?_;refine n_t ?_;refine r_t ?_;refine tr_retE rfl (endsCT rfl inferInstance rfl .here norm_ (by rfl) (by rfl)) ?_;rotate_left;refine s_t ?_;refine tr_seq ?_;refine s_r ?_;refine tr_val (rk_loadB (.of rfl) .here norm_ (by rfl)) rfl ?_;rotate_right)
    · have:¬ rtOkB a4 = true:=fun h=>hcd (hrt.1 h)
      rw [if_neg this] at hR
      rw [hF,hR,if_neg (by decide)];rfl
    have hr:rtOkB a4 = true:=hrt.2 (Decidable.not_not.1 hcd)
    rw [if_pos hr] at hR
    clear hcd
    rw [e5,e5',e4]
    (refine tr_callV (rk_call (.of rfl) (.cons (.of rfl) .nil) inferInstance normc_) rfl (fun w' hm'=>(hcs w' (Mem.keeps hm'))) ?_;refine a_s rfl rfl ?_;refine n_r ?_;refine m_v rfl rfl ?_;refine tr_val (rk_neq (.of rfl) (.of rfl)) rfl ?_;refine n_t ?_;refine c_d rfl (fun hcd=>?_) (fun hcd=>?_);refine s_r ?_;refine tr_val (rk_buildL .nil norm_) rfl ?_;refine m_v rfl rfl ?_;refine tr_store (.of rfl) (.of rfl) (.there .here) rfl rfl (okc_cons rfl (okc_cons rfl (okc_cons rfl (okc_cons rfl (okc_cons rfl (okc_cons rfl (okc_cons rfl okc_nil))))))) (lenb rfl) norm_ ?_;refine a_s rfl rfl ?_;refine n_t ?_;refine r_t ?_;refine tr_retE rfl (endsCT rfl inferInstance rfl .here norm_ (by rfl) (by rfl)) ?_;rotate_left;refine s_t ?_;refine s_r ?_;refine tr_val (rk_loadB (.of rfl) .here norm_ (by rfl)) rfl ?_;refine tr_store (.of rfl) (.of rfl) (.there .here) rfl rfl (okc_cons rfl (okc_cons rfl (okc_cons rfl (okc_cons rfl (okc_cons rfl (okc_cons rfl (okc_cons rfl okc_nil))))))) (lenb rfl) norm_ ?_;refine a_s rfl rfl ?_;refine n_t ?_;refine tr_ret ?_;refine tr_retE rfl (endsCT rfl inferInstance rfl .here norm_ (by rfl) (by rfl)) ?_;rotate_right)
    · rw [hF,hR,if_neg hcd];rfl
    · have hz:=Decidable.not_not.1 hcd
      rw [hF,hR,if_pos hz,hz]
theorem read_c (W:List Int) (hl:W.length = 10) (hb:∀ x ∈ W,0 ≤ x ∧ x ≤ 255) (w:World) (hG:GlobR w):GivesV Tryd.prog 29 [.agg (wcells W).toArray] w (.tuple #[.agg (rdF W).cells.toArray,.int .i64 (rdE W)]):=by
  match W,hl with
  | [a0,a1,a2,a3,a4,a5,a6,a7,a8,a9],_=>exact read10_c a0 a1 a2 a3 a4 a5 a6 a7 a8 a9 hb w hG
end Go.Proofs.A1
namespace Go.Proofs.A1
open Go Go.SL
theorem cell_keepsN {w w':World} {b o:Nat} {v:Value} {md:List Nat} (h:w.cell? ⟨b,o,none⟩ = some v) (hn:b ∉ md) (hk:Keeps md w w'):w'.cell? ⟨b,o,none⟩ = some v:=by
  have hb:=World.block_lt_of_cell? w _ h
  have:=hk.block b hb hn
  rw [← h]
  simp [World.cell?,this]
theorem GlobR.keepsN {md:List Nat} {w w':World} (h:GlobR w) (hn:0 ∉ md) (hk:Keeps md w w'):GlobR w':=⟨cell_keepsN h.n0 hn hk,cell_keepsN h.n1 hn hk,cell_keepsN h.n2 hn hk⟩
theorem GlobR.out {md fp:List Nat} {w0:World} (h:GlobR w0) (hn:0 ∉ md) (hF:∀ b ∈ fp,b ∈ md ∨ w0.heap.size ≤ b):0 ∉ fp:=fun h0=>by
  have hb:=World.block_lt_of_cell? w0 ⟨0,0,none⟩ h.n0
  rcases hF 0 h0 with e | e
  · exact hn e
  · exact absurd hb (by simp;omega)
theorem hits_c (a:Option Addr) (n cp:Nat) (w:World) :
    Gives Tryd.prog 55 [.slice a n cp] w [] (fun _:Nat=>True) (fun x=>.func (.func 86) #[] #[.pointer (some ⟨x,0,none⟩)])
      (fun x=>[blk x (.cells #[.slice a n cp] 31 (0,0))]):=by
  refine gives_of_tr Tryd.func55 rfl rfl ?_
  (refine s_r ?_;refine tr_new (rk_box (.of rfl) rfl) rfl (fun _ _=>?_);refine a_s rfl rfl ?_;refine n_r ?_;refine tr_val (rk_makeFunc' .nil (.cons (.of rfl) .nil)) rfl ?_;refine a_s rfl rfl ?_;refine n_t ?_;refine tr_ret ?_)
  rename_i b hb
  first | with_reducible apply tr_retM | with_reducible apply tr_endM
  case he=>exact ends1 rfl rfl
  case hR=>
    intro w' hm'
    exact gives_end b trivial (by exact .cons .here .nil) hm' rfl
def hItems (l:List Int):List (List Value):=(hitL l 0).map fun x=>[Value.agg (hitC x).toArray]
theorem hItems_length (l:List Int):(hItems l).length = (hitL l 0).length:=by simp [hItems]
theorem hItems_at {l:List Int} {k i:Nat} (hd:(hitL l 0).drop k = hitL l i) (h:i + 10 ≤ l.length) (h0:rdE (win l i) = 0):(hItems l)[k]? = some [.agg (hitC (rdF (win l i),i)).toArray] ∧ (hitL l 0).drop (k + 1) = hitL l (i + 10):=by
  rw [hit_hit h h0] at hd
  have h1:(hitL l 0)[k]? = some (rdF (win l i),i):=by
    have:=congrArg (fun l:List (Stm × Nat)=>l[0]?) hd
    simpa using this
  refine ⟨by unfold hItems;rw [List.getElem?_map,h1];rfl,?_⟩
  rw [← List.drop_drop,hd];rfl
theorem win_sl {b o cap i:Nat} (h:i + 10 ≤ cap):sliced (some ⟨b,o,none⟩) ((i:Nat):Int).toNat (((i:Nat):Int) + 10).toNat cap 1 = .slice (some ⟨b,o + i * 1,none⟩) 10 (cap - i):=by
  have e1:((i:Nat):Int).toNat = i:=by omega
  have e2:(((i:Nat):Int) + 10).toNat = i + 10:=by omega
  rw [e1,e2]
  simp [sliced,show i + 10 - i = 10 by omega,show ¬ cap = i by omega,addr_add]
theorem hitIter_c {bx:Nat} {sv:Value} {l:List Int} {w0 w:World} {md:List Nat} (hcb:w0.cell? ⟨bx,0,none⟩ = some sv) (h1:Rd w0 sv 1 (byts l)) (hby:∀ x ∈ l,0 ≤ x ∧ x ≤ 255) (hfew:l.length ≤ 1000000) (hG:GlobR w0) (hmd:bx ∉ md) (hmd0:0 ∉ md) (o1:Out md sv (byts l)) :
    Iter Tryd.prog 86 [] [.pointer (some ⟨bx,0,none⟩)] [] (hItems l) w0 md w:=by
  intro l' fp J E hB hF hn hs hy
  have hrd1:=h1.keepsN o1 hB
  have ho1:=h1.out (by omega) o1 hF
  have hcb':=cell_keepsN hcb hmd hB
  have hG1:=hG.keepsN hmd0 hB
  have hG0:=hG.out hmd0 hF
  have hnbx:bx ∉ fp:=fun hq=>by
    have hb:=World.block_lt_of_cell? w0 _ hcb
    rcases hF _ hq with h | h
    · exact hmd h
    · exact absurd hb (by simp;omega)
  rw [hItems_length]
  obtain ⟨a,cap,b,o,rfl,hcap,hmax,ha,hc⟩:=hrd1
  rw [byts_length] at *
  unfold maxLen at hmax
  refine givesM_of_tr Tryd.func86 rfl rfl hn hs ?_
  (refine s_r ?_;refine a_s rfl rfl ?_;refine n_t ?_;refine tr_block ?_)
  refine tr_for (ι:=Nat × Nat) (fun x=>x.2 ≤ l.length ∧ x.1 ≤ (hitL l 0).length ∧ (hitL l 0).drop x.1 = hitL l x.2) (fun x=>[(3,.int .i64 (x.2:Nat)),(0,.func (.yield l') #[] #[]),(1,.pointer (some ⟨bx,0,none⟩))])
    (fun x=>[J x.1]) (fun x=>l.length - x.2) ?_ ?_
  · apply tr_start (0,0) ⟨Nat.zero_le _,Nat.zero_le _,rfl⟩
    case hs1=>exact .cons rfl (.cons rfl (.cons rfl .nil))
    case ht=>exact .cons .here .nil
  rintro ⟨k,i⟩ ⟨hi,hk,hd⟩
  dsimp only at hi hk hd ⊢
  by_cases hlt:i + 10 ≤ l.length
  · have hne:byts l ≠ []:=byts_ne (k:=0) (by omega)
    have ha':=ha hne
    subst ha'
    have hnb:=ho1.not_mem hne rfl
    have hwl:(wcells (win l i)).length = 10:=by rw [List.length_map];exact win_len hlt
    have hwin:∀ (j:Nat) (u:Value),(wcells (win l i))[j]? = some u → w.cell? ⟨b,o + i * 1 + j,none⟩ = some u:=by
      intro j u hu
      have hj:j < 10:=by
        rcases Nat.lt_or_ge j 10 with h | h
        · exact h
        · rw [List.getElem?_eq_none (by rw [hwl];exact h)] at hu;cases hu
      rw [List.getElem?_map,win_at hlt hj,List.getElem?_eq_getElem (by omega)] at hu
      cases hu
      have:=(hc (i + j) _ (byts_get (by omega))).2 0 _ rfl
      rwa [show o + (i + j) * 1 + 0 = o + i * 1 + j by omega] at this
    have hrc:∀ w',Keeps fp w w' → GivesV Tryd.prog 29 [.agg (wcells (win l i)).toArray] w' (.tuple #[.agg (rdF (win l i)).cells.toArray,.int .i64 (rdE (win l i))]):=fun w' hk'=>read_c _ (win_len hlt) (win_mem hby) w' (hG1.keepsN hG0 hk')
    generalize hR:rdF (win l i) = R at hrc
    have hcellR:R.cells = [.int .i64 R.ra.fr,.bool R.ra.dr,.int .i64 R.la.h,.int .i64 R.la.m,.int .i64 R.la.s,.int .i64 R.la.f,.int .i64 R.us]:=rfl
    rw [hcellR] at hrc
    (refine tr_seq ?_;refine s_r ?_;refine m_v rfl rfl ?_;refine tr_val (rk_add (.of rfl) (.of rfl) (ini (by omega))) rfl ?_;refine tr_val (rk_load1 (.of rfl) (At.baseN hcb' hnbx)) rfl ?_;refine tr_val (rk_len_slice (.of rfl)) rfl ?_;refine tr_val (rk_leq (.of rfl) (.of rfl)) rfl ?_;refine n_t ?_;refine c_d rfl (fun hcd=>?_) (fun _=>by omega);refine s_t ?_;refine tr_seq ?_;refine tr_block ?_;refine s_r ?_;refine tr_val (rk_load1 (.of rfl) (At.baseN hcb' hnbx)) rfl ?_;refine m_v rfl rfl ?_;refine m_v rfl rfl ?_;refine tr_val (rk_add (.of rfl) (.of rfl) (ini (by omega))) rfl ?_;refine tr_val (rk_slice_lh (.of rfl) (.of rfl) (.of rfl) (by omega) (by omega) (by omega)) rfl ?_)
    rw [win_sl (by omega)]
    (refine tr_val (rk_s2ap (.of rfl) rfl) rfl ?_;refine tr_val (rk_loadN (.of rfl) (Ats.baseN hwin hnb) hwl) rfl ?_;refine tr_callV (rk_call (.of rfl) (.cons (.of rfl) .nil) inferInstance normc_) rfl (fun w' hm'=>(hrc w' (Mem.keeps hm'))) ?_;refine m_v rfl rfl ?_;refine tr_val (rk_extract (.of rfl) rfl) rfl ?_;refine tr_val (rk_extract (.of rfl) rfl) rfl ?_;refine tr_new (rk_alloc rfl) rfl (fun _ _=>?_);refine tr_store (.of rfl) (.of rfl) .here rfl rfl (okc_cons rfl (okc_cons rfl (okc_cons rfl (okc_cons rfl (okc_cons rfl (okc_cons rfl (okc_cons rfl okc_nil))))))) (lenb rfl) norm_ ?_;refine a_s rfl rfl ?_;refine n_t ?_;refine tr_seq ?_;refine s_r ?_;refine m_v rfl rfl ?_;refine tr_val (rk_neq (.of rfl) (.of rfl)) rfl ?_;refine n_t ?_;refine c_d rfl (fun hcd=>?_) (fun hcd=>?_);refine x_t ?_;refine tr_blk_exit ?_;refine tr_then ?_;refine tr_region ?_;refine m_v rfl rfl ?_;refine tr_val (rk_add (.of rfl) (.of rfl) (ini (by omega))) rfl ?_;refine a_s rfl rfl ?_;refine n_t ?_;rotate_left;refine s_t ?_;refine tr_seq ?_;refine s_r ?_;refine m_v rfl rfl ?_;refine tr_val (rk_loadB (.of rfl) .here norm_ (by rfl)) rfl ?_;refine m_v rfl rfl ?_;refine tr_val (rk_buildL (.cons (.of rfl) (.cons (.of rfl) .nil)) norm_) rfl ?_;rotate_right)
    · have hd':=hd.trans (hit_miss hlt hcd)
      apply tr_next (k,i + 1) ⟨show i + 1 ≤ l.length by omega,hk,hd'⟩ (show l.length - (i + 1) < l.length - i by omega)
      case hs1=>exact .cons rfl (.cons rfl (.cons rfl .nil))
      case ht=>exact .cons (.there .here) .nil
    · obtain ⟨hyk,hd'⟩:=hItems_at hd hlt (Decidable.not_not.1 hcd)
      have hkl:k + 1 ≤ (hitL l 0).length:=by
        have:=(List.getElem?_eq_some_iff.1 hyk).1
        rw [hItems_length] at this;exact this
      have hyk:=hy k _ hyk
      rw [hR] at hyk
      have e9:IntKind.i64.wrap ((i:Int) + 9) = (i:Int) + 9:=i64w (by omega)
      clear hcd hR
      with_reducible apply tr_yieldB hB hF hyk
      case hx=>exact Is.of rfl
      case ha=>exact .cons (.of rfl) .nil
      case hd=>rfl
      case ht=>exact Take.there .here
      intro q
      cases q with
      | false =>
        simp only [cond_false]
        (refine tr_val (rk_not (.of rfl)) rfl ?_;refine n_t ?_;refine tr_cond_t (.of rfl) ?_;refine r_t ?_;refine tr_blk_ret ?_;refine tr_then_ret ?_;refine tr_then_ret ?_;refine tr_blk_ret ?_)
        first | with_reducible apply tr_retM | with_reducible apply tr_endM
        case he=>exact ends0 rfl
        case hR=>
          intro w' hm'
          exact gives_end false trivial (show Takes _ [E] _ by exact .cons .here .nil) hm' rfl
      | true =>
        simp only [cond_true]
        (refine tr_val (rk_not (.of rfl)) rfl ?_;refine n_t ?_;refine tr_cond_f (.of rfl) ?_;refine s_t ?_;refine tr_region ?_;refine m_v rfl rfl ?_;refine tr_val (rk_add (.of rfl) (.of rfl) (ini (by omega))) rfl ?_;refine a_s rfl rfl ?_;refine tr_nil ?_;refine tr_blk_normal ?_;refine tr_then ?_;refine tr_region ?_;refine m_v rfl rfl ?_;refine tr_val (rk_add (.of rfl) (.of rfl) (ini (by omega))) rfl ?_;refine a_s rfl rfl ?_;refine n_t ?_)
        apply tr_next (k + 1,i + 10) ⟨show i + 10 ≤ l.length from hlt,hkl,hd'⟩ (show l.length - (i + 10) < l.length - i by omega)
        case hs1=>exact .cons rfl (.cons rfl (.cons rfl .nil))
        case ht=>exact .cons .here .nil
  · have he:=hit_end (s:=l) (i:=i) (by omega)
    have hke:k = (hitL l 0).length:=by
      rw [he] at hd
      have:=List.drop_eq_nil_iff.1 hd
      omega
    subst hke
    (refine tr_seq ?_;refine s_r ?_;refine m_v rfl rfl ?_;refine tr_val (rk_add (.of rfl) (.of rfl) (ini (by omega))) rfl ?_;refine tr_val (rk_load1 (.of rfl) (At.baseN hcb' hnbx)) rfl ?_;refine tr_val (rk_len_slice (.of rfl)) rfl ?_;refine tr_val (rk_leq (.of rfl) (.of rfl)) rfl ?_;refine n_t ?_;refine c_d rfl (fun _=>by omega) (fun hcd=>?_);refine x_t ?_;refine tr_then_exit ?_;refine tr_blk_exit ?_)
    first | with_reducible apply tr_retM | with_reducible apply tr_endM
    case he=>exact ends0 rfl
    case hR=>
      intro w' hm'
      exact gives_end true trivial (show Takes _ [J (hitL l 0).length] _ by exact .cons .here .nil) hm' rfl
end Go.Proofs.A1
