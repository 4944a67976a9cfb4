/- Parts of the proof: DU8 UBp UCp UDp UEp UGp UHp UJp DU9 DU9r DU10. -/
import Derived.Test.YthhidjfahmcekaaDoorLM08
import Derived.Test.YthhidjfahmcekaaDoorLM06
import Derived.Test.YthhidjfahmcekaaDoorLM07
import Derived.Lib.ItoaLen
import Derived.Test.YthhidjfahmcekaaDoorLM05
set_option linter.unusedSectionVars false
set_option linter.unusedVariables false
set_option linter.unusedSimpArgs false
namespace Go.Proofs.A1
open Go Go.SL
theorem rdPart {c:Cx} {hs hs':List Asn} {w:World} (hm:Mem c hs w) {b o n cap:Nat} {cs xs:List Value} {E:TypeId} {fz:Nat × Nat} (ht:Take hs (SL.blk b (.cells cs.toArray E fz)) hs') (hx:cellsAt cs o n = xs) (hl:xs.length = n) (hn:n ≤ cap) (hc:cap ≤ 1000000) :
    Rd w (.slice (some ⟨b,o,none⟩) n cap) 1 (xs.map fun v=>[v]):=by
  have hb:=hm.blk ht
  subst hl
  refine ⟨_,cap,b,o,by rw [List.length_map],by rw [List.length_map];exact hn,by unfold maxLen;omega,fun _=>rfl,fun i r hr=>?_⟩
  rw [List.getElem?_map] at hr
  cases hi:xs[i]? with
  | none=>rw [hi] at hr;cases hr
  | some v =>
    rw [hi] at hr
    cases hr
    refine ⟨rfl,fun j u hu=>?_⟩
    match j,hu with
    | 0, hu =>
      cases hu
      rw [cell_of_block hb]
      have h2:=hi
      rw [← hx,cellsAt_eq,List.getElem?_take] at h2
      split at h2
      · rw [List.getElem?_drop] at h2
        simpa using h2
      · cases h2
theorem rdBys {c:Cx} {hs hs':List Asn} {w:World} (hm:Mem c hs w) {b o n cap:Nat} {cs:List Value} {l:List Int} {E:TypeId} {fz:Nat × Nat} (ht:Take hs (SL.blk b (.cells cs.toArray E fz)) hs') (hx:cellsAt cs o n = l.map (Value.int .u8)) (hl:l.length = n) (hn:n ≤ cap) (hc:cap ≤ 1000000) :
    Rd w (.slice (some ⟨b,o,none⟩) n cap) 1 (bys l):=by
  have:=rdPart hm (xs:=l.map (Value.int .u8)) ht hx (by rw [List.length_map,hl]) hn hc
  rwa [List.map_map] at this
set_option maxHeartbeats 4000000 in
theorem word_c (s:Stm) (h:StOk s) (w:World):GivesV Tryd.prog 53 [.agg s.cells.toArray] w (.agg (wcells (wordF s)).toArray):=by
  have h1:=h.la.h;have h2:=h.la.m;have h3:=h.la.s;have h4:=h.la.f;have h5:=h.la.ra.fr;have h6:=h.us
  have q1:IntKind.u8.wrap (s.la.f / 10 * 16 + s.la.f % 10) = bcd s.la.f:=u8w (by omega)
  have q2:IntKind.u8.wrap (s.la.s / 10 * 16 + s.la.s % 10) = bcd s.la.s:=u8w (by omega)
  have q3:IntKind.u8.wrap (s.la.m / 10 * 16 + s.la.m % 10) = bcd s.la.m:=u8w (by omega)
  have q4:IntKind.u8.wrap (s.la.h / 10 * 16 + s.la.h % 10) = bcd s.la.h:=u8w (by omega)
  refine givesV_of_tr Tryd.func53 rfl rfl ?_
  unfold Stm.cells
  (refine s_r ?_;refine tr_new (rk_box (.of rfl) rfl) rfl (fun _ _=>?_);refine tr_new (rk_alloc rfl) rfl (fun _ _=>?_);refine n_r ?_;refine tr_new (rk_alloc rfl) rfl (fun _ _=>?_);refine n_t ?_;refine tr_seq ?_;refine s_r ?_;refine tr_callV (rk_call (.of rfl) .nil inferInstance normc_) rfl (fun w' hm'=>(parts_c w')) ?_;refine m_v rfl rfl ?_;refine n_t ?_;refine tr_block ?_)
  rename_i b1 hb1 b2 hb2 b3 hb3
  refine tr_for (fun k:Nat=>k ≤ 4) (fun k=>[(8,.int .i64 k),(7,.agg partsL.toArray),(3,.pointer (some ⟨b3,0,none⟩)),(2,.pointer (some ⟨b2,0,none⟩)),(1,.pointer (some ⟨b1,0,none⟩))]) (fun k=>[blk b3 (.cells (wk s k).toArray 35 (0,0)),blk b2 (.cells #[.int .u8 0,.int .u8 0,.int .u8 0,.int .u8 0,.int .u8 0,.int .u8 0,.int .u8 0,.int .u8 0,.int .u8 0,.int .u8 0] 35 (0,0)),blk b1 (.cells #[.int .i64 s.ra.fr,.bool s.ra.dr,.int .i64 s.la.h,.int .i64 s.la.m,.int .i64 s.la.s,.int .i64 s.la.f,.int .i64 s.us] 86 (0,0))]) (fun k=>4 - k) ?_ ?_
  · apply tr_start 0 (show (0:Nat) ≤ 4 by omega)
    case hs1=>exact .cons rfl (.cons rfl (.cons rfl (.cons rfl (.cons rfl .nil))))
    case ht=>
      show Takes _ [blk b3 (.cells #[.int .u8 0,.int .u8 0,.int .u8 0,.int .u8 0,.int .u8 0,.int .u8 0,.int .u8 0,.int .u8 0,.int .u8 0,.int .u8 0] 35 (0,0)),blk b2 (.cells #[.int .u8 0,.int .u8 0,.int .u8 0,.int .u8 0,.int .u8 0,.int .u8 0,.int .u8 0,.int .u8 0,.int .u8 0,.int .u8 0] 35 (0,0)),blk b1 (.cells #[.int .i64 s.ra.fr,.bool s.ra.dr,.int .i64 s.la.h,.int .i64 s.la.m,.int .i64 s.la.s,.int .i64 s.la.f,.int .i64 s.us] 86 (0,0))] _
      exact .cons .here (.cons .here (.cons .here .nil))
  intro k hk
  by_cases hlt:k < 4
  · obtain rfl | rfl | rfl | rfl:k = 0 ∨ k = 1 ∨ k = 2 ∨ k = 3:=by omega
    · show Tr _ [] [(8,.int .i64 0),(7,.agg #[.func (.func 87) #[] #[],.func (.func 88) #[] #[],.func (.func 89) #[] #[],.func (.func 90) #[] #[]]),(3,.pointer (some ⟨b3,0,none⟩)),(2,.pointer (some ⟨b2,0,none⟩)),(1,.pointer (some ⟨b1,0,none⟩))] [blk b3 (.cells #[.int .u8 0,.int .u8 0,.int .u8 0,.int .u8 0,.int .u8 0,.int .u8 0,.int .u8 0,.int .u8 0,.int .u8 0,.int .u8 0] 35 (0,0)),blk b2 (.cells #[.int .u8 0,.int .u8 0,.int .u8 0,.int .u8 0,.int .u8 0,.int .u8 0,.int .u8 0,.int .u8 0,.int .u8 0,.int .u8 0] 35 (0,0)),blk b1 (.cells #[.int .i64 s.ra.fr,.bool s.ra.dr,.int .i64 s.la.h,.int .i64 s.la.m,.int .i64 s.la.s,.int .i64 s.la.f,.int .i64 s.us] 86 (0,0))] _
      (refine s_r ?_;refine tr_val (rk_lss (.of rfl) (.of rfl)) rfl ?_;refine n_t ?_;refine tr_seq ?_;refine c_d rfl (fun hcd=>?_) (fun _=>by omega);refine s_t ?_;refine tr_seq ?_;refine tr_block ?_;refine s_r ?_;refine m_v rfl rfl ?_;refine tr_val (rk_index (.of rfl) (.of rfl) (by omega) hcd norm_) rfl ?_;refine tr_new (rk_alloc rfl) rfl (fun _ _=>?_);refine a_s rfl rfl ?_;refine tr_store (.of rfl) (.of rfl) .here rfl rfl (okc_cons rfl okc_nil) (lenb rfl) norm_ ?_;refine n_r ?_;refine f_a rfl rfl norm0_ ?_;refine tr_val (rk_load1 (.of rfl) (At.lit .here rfl)) rfl ?_;refine f_a rfl rfl norm0_ ?_;refine tr_callV (rk_call (.of rfl) (.cons (.of rfl) .nil) inferInstance normc_) rfl (fun w' hm'=>(part1_c b1 2 w')) ?_;refine tr_val (rk_nilCheck (.of rfl)) rfl ?_;refine tr_val (rk_load1 (.of rfl) (At.lit (.there (.there (.there .here))) rfl)) rfl ?_;refine a_s rfl rfl ?_;refine n_t ?_;refine tr_region ?_;refine m_v rfl rfl ?_;refine m_v rfl rfl ?_;refine tr_val (rk_quo (.of rfl) (.of rfl) (by omega) (by omega) (by omega)) rfl ?_;refine tr_val (rk_mul (.of rfl) (.of rfl) (ini (by omega))) rfl ?_;refine m_v rfl rfl ?_;refine tr_val (rk_rem (.of rfl) (.of rfl) (by omega) (by omega)) rfl ?_;refine tr_val (rk_add (.of rfl) (.of rfl) (ini (by omega))) rfl ?_;refine tr_val (rk_conv (.of rfl)) rfl ?_;refine tr_val (rk_indexAddrA (.of rfl) (.of rfl) (by omega) (by omega) norm1_) rfl ?_;refine tr_store (.of rfl) (.of rfl) (.there .here) rfl rfl (okc_cons rfl okc_nil) (lenb rfl) norm_ ?_;refine tr_nil ?_;refine tr_blk_normal ?_;refine tr_then ?_;refine tr_region ?_;refine tr_val (rk_add (.of rfl) (.of rfl) (ini (by omega))) rfl ?_;refine m_v rfl rfl ?_;refine n_t ?_)
      rw [q1]
      apply tr_next (Φ:=fun k:Nat=>k ≤ 4) 1 (show 1 ≤ 4 from of_decide_eq_true rfl) (by show 4 - 1 < 4 - 0;omega)
      case hs1=>exact .cons rfl (.cons rfl (.cons rfl (.cons rfl (.cons rfl .nil))))
      case ht=>
        show Takes _ [blk b3 (.cells #[.int .u8 (bcd s.la.f),.int .u8 0,.int .u8 0,.int .u8 0,.int .u8 0,.int .u8 0,.int .u8 0,.int .u8 0,.int .u8 0,.int .u8 0] 35 (0,0)),blk b2 (.cells #[.int .u8 0,.int .u8 0,.int .u8 0,.int .u8 0,.int .u8 0,.int .u8 0,.int .u8 0,.int .u8 0,.int .u8 0,.int .u8 0] 35 (0,0)),blk b1 (.cells #[.int .i64 s.ra.fr,.bool s.ra.dr,.int .i64 s.la.h,.int .i64 s.la.m,.int .i64 s.la.s,.int .i64 s.la.f,.int .i64 s.us] 86 (0,0))] _
        exact .cons .here (.cons (.there .here) (.cons (.there .here) .nil))
    · show Tr _ [] [(8,.int .i64 1),(7,.agg #[.func (.func 87) #[] #[],.func (.func 88) #[] #[],.func (.func 89) #[] #[],.func (.func 90) #[] #[]]),(3,.pointer (some ⟨b3,0,none⟩)),(2,.pointer (some ⟨b2,0,none⟩)),(1,.pointer (some ⟨b1,0,none⟩))] [blk b3 (.cells #[.int .u8 (bcd s.la.f),.int .u8 0,.int .u8 0,.int .u8 0,.int .u8 0,.int .u8 0,.int .u8 0,.int .u8 0,.int .u8 0,.int .u8 0] 35 (0,0)),blk b2 (.cells #[.int .u8 0,.int .u8 0,.int .u8 0,.int .u8 0,.int .u8 0,.int .u8 0,.int .u8 0,.int .u8 0,.int .u8 0,.int .u8 0] 35 (0,0)),blk b1 (.cells #[.int .i64 s.ra.fr,.bool s.ra.dr,.int .i64 s.la.h,.int .i64 s.la.m,.int .i64 s.la.s,.int .i64 s.la.f,.int .i64 s.us] 86 (0,0))] _
      (refine s_r ?_;refine tr_val (rk_lss (.of rfl) (.of rfl)) rfl ?_;refine n_t ?_;refine tr_seq ?_;refine c_d rfl (fun hcd=>?_) (fun _=>by omega);refine s_t ?_;refine tr_seq ?_;refine tr_block ?_;refine s_r ?_;refine m_v rfl rfl ?_;refine tr_val (rk_index (.of rfl) (.of rfl) (by omega) hcd norm_) rfl ?_;refine tr_new (rk_alloc rfl) rfl (fun _ _=>?_);refine a_s rfl rfl ?_;refine tr_store (.of rfl) (.of rfl) .here rfl rfl (okc_cons rfl okc_nil) (lenb rfl) norm_ ?_;refine n_r ?_;refine f_a rfl rfl norm0_ ?_;refine tr_val (rk_load1 (.of rfl) (At.lit .here rfl)) rfl ?_;refine f_a rfl rfl norm0_ ?_;refine tr_callV (rk_call (.of rfl) (.cons (.of rfl) .nil) inferInstance normc_) rfl (fun w' hm'=>(part2_c b1 2 w')) ?_;refine tr_val (rk_nilCheck (.of rfl)) rfl ?_;refine tr_val (rk_load1 (.of rfl) (At.lit (.there (.there (.there .here))) rfl)) rfl ?_;refine a_s rfl rfl ?_;refine n_t ?_;refine tr_region ?_;refine m_v rfl rfl ?_;refine m_v rfl rfl ?_;refine tr_val (rk_quo (.of rfl) (.of rfl) (by omega) (by omega) (by omega)) rfl ?_;refine tr_val (rk_mul (.of rfl) (.of rfl) (ini (by omega))) rfl ?_;refine m_v rfl rfl ?_;refine tr_val (rk_rem (.of rfl) (.of rfl) (by omega) (by omega)) rfl ?_;refine tr_val (rk_add (.of rfl) (.of rfl) (ini (by omega))) rfl ?_;refine tr_val (rk_conv (.of rfl)) rfl ?_;refine tr_val (rk_indexAddrA (.of rfl) (.of rfl) (by omega) (by omega) norm1_) rfl ?_;refine tr_store (.of rfl) (.of rfl) (.there .here) rfl rfl (okc_cons rfl okc_nil) (lenb rfl) norm_ ?_;refine tr_nil ?_;refine tr_blk_normal ?_;refine tr_then ?_;refine tr_region ?_;refine tr_val (rk_add (.of rfl) (.of rfl) (ini (by omega))) rfl ?_;refine m_v rfl rfl ?_;refine n_t ?_)
      rw [q2]
      apply tr_next (Φ:=fun k:Nat=>k ≤ 4) 2 (show 2 ≤ 4 from of_decide_eq_true rfl) (by show 4 - 2 < 4 - 1;omega)
      case hs1=>exact .cons rfl (.cons rfl (.cons rfl (.cons rfl (.cons rfl .nil))))
      case ht=>
        show Takes _ [blk b3 (.cells #[.int .u8 (bcd s.la.f),.int .u8 (bcd s.la.s),.int .u8 0,.int .u8 0,.int .u8 0,.int .u8 0,.int .u8 0,.int .u8 0,.int .u8 0,.int .u8 0] 35 (0,0)),blk b2 (.cells #[.int .u8 0,.int .u8 0,.int .u8 0,.int .u8 0,.int .u8 0,.int .u8 0,.int .u8 0,.int .u8 0,.int .u8 0,.int .u8 0] 35 (0,0)),blk b1 (.cells #[.int .i64 s.ra.fr,.bool s.ra.dr,.int .i64 s.la.h,.int .i64 s.la.m,.int .i64 s.la.s,.int .i64 s.la.f,.int .i64 s.us] 86 (0,0))] _
        exact .cons .here (.cons (.there .here) (.cons (.there .here) .nil))
    · show Tr _ [] [(8,.int .i64 2),(7,.agg #[.func (.func 87) #[] #[],.func (.func 88) #[] #[],.func (.func 89) #[] #[],.func (.func 90) #[] #[]]),(3,.pointer (some ⟨b3,0,none⟩)),(2,.pointer (some ⟨b2,0,none⟩)),(1,.pointer (some ⟨b1,0,none⟩))] [blk b3 (.cells #[.int .u8 (bcd s.la.f),.int .u8 (bcd s.la.s),.int .u8 0,.int .u8 0,.int .u8 0,.int .u8 0,.int .u8 0,.int .u8 0,.int .u8 0,.int .u8 0] 35 (0,0)),blk b2 (.cells #[.int .u8 0,.int .u8 0,.int .u8 0,.int .u8 0,.int .u8 0,.int .u8 0,.int .u8 0,.int .u8 0,.int .u8 0,.int .u8 0] 35 (0,0)),blk b1 (.cells #[.int .i64 s.ra.fr,.bool s.ra.dr,.int .i64 s.la.h,.int .i64 s.la.m,.int .i64 s.la.s,.int .i64 s.la.f,.int .i64 s.us] 86 (0,0))] _
      (refine s_r ?_;refine tr_val (rk_lss (.of rfl) (.of rfl)) rfl ?_;refine n_t ?_;refine tr_seq ?_;refine c_d rfl (fun hcd=>?_) (fun _=>by omega);refine s_t ?_;refine tr_seq ?_;refine tr_block ?_;refine s_r ?_;refine m_v rfl rfl ?_;refine tr_val (rk_index (.of rfl) (.of rfl) (by omega) hcd norm_) rfl ?_;refine tr_new (rk_alloc rfl) rfl (fun _ _=>?_);refine a_s rfl rfl ?_;refine tr_store (.of rfl) (.of rfl) .here rfl rfl (okc_cons rfl okc_nil) (lenb rfl) norm_ ?_;refine n_r ?_;refine f_a rfl rfl norm0_ ?_;refine tr_val (rk_load1 (.of rfl) (At.lit .here rfl)) rfl ?_;refine f_a rfl rfl norm0_ ?_;refine tr_callV (rk_call (.of rfl) (.cons (.of rfl) .nil) inferInstance normc_) rfl (fun w' hm'=>(part3_c b1 2 w')) ?_;refine tr_val (rk_nilCheck (.of rfl)) rfl ?_;refine tr_val (rk_load1 (.of rfl) (At.lit (.there (.there (.there .here))) rfl)) rfl ?_;refine a_s rfl rfl ?_;refine n_t ?_;refine tr_region ?_;refine m_v rfl rfl ?_;refine m_v rfl rfl ?_;refine tr_val (rk_quo (.of rfl) (.of rfl) (by omega) (by omega) (by omega)) rfl ?_;refine tr_val (rk_mul (.of rfl) (.of rfl) (ini (by omega))) rfl ?_;refine m_v rfl rfl ?_;refine tr_val (rk_rem (.of rfl) (.of rfl) (by omega) (by omega)) rfl ?_;refine tr_val (rk_add (.of rfl) (.of rfl) (ini (by omega))) rfl ?_;refine tr_val (rk_conv (.of rfl)) rfl ?_;refine tr_val (rk_indexAddrA (.of rfl) (.of rfl) (by omega) (by omega) norm1_) rfl ?_;refine tr_store (.of rfl) (.of rfl) (.there .here) rfl rfl (okc_cons rfl okc_nil) (lenb rfl) norm_ ?_;refine tr_nil ?_;refine tr_blk_normal ?_;refine tr_then ?_;refine tr_region ?_;refine tr_val (rk_add (.of rfl) (.of rfl) (ini (by omega))) rfl ?_;refine m_v rfl rfl ?_;refine n_t ?_)
      rw [q3]
      apply tr_next (Φ:=fun k:Nat=>k ≤ 4) 3 (show 3 ≤ 4 from of_decide_eq_true rfl) (by show 4 - 3 < 4 - 2;omega)
      case hs1=>exact .cons rfl (.cons rfl (.cons rfl (.cons rfl (.cons rfl .nil))))
      case ht=>
        show Takes _ [blk b3 (.cells #[.int .u8 (bcd s.la.f),.int .u8 (bcd s.la.s),.int .u8 (bcd s.la.m),.int .u8 0,.int .u8 0,.int .u8 0,.int .u8 0,.int .u8 0,.int .u8 0,.int .u8 0] 35 (0,0)),blk b2 (.cells #[.int .u8 0,.int .u8 0,.int .u8 0,.int .u8 0,.int .u8 0,.int .u8 0,.int .u8 0,.int .u8 0,.int .u8 0,.int .u8 0] 35 (0,0)),blk b1 (.cells #[.int .i64 s.ra.fr,.bool s.ra.dr,.int .i64 s.la.h,.int .i64 s.la.m,.int .i64 s.la.s,.int .i64 s.la.f,.int .i64 s.us] 86 (0,0))] _
        exact .cons .here (.cons (.there .here) (.cons (.there .here) .nil))
    · show Tr _ [] [(8,.int .i64 3),(7,.agg #[.func (.func 87) #[] #[],.func (.func 88) #[] #[],.func (.func 89) #[] #[],.func (.func 90) #[] #[]]),(3,.pointer (some ⟨b3,0,none⟩)),(2,.pointer (some ⟨b2,0,none⟩)),(1,.pointer (some ⟨b1,0,none⟩))] [blk b3 (.cells #[.int .u8 (bcd s.la.f),.int .u8 (bcd s.la.s),.int .u8 (bcd s.la.m),.int .u8 0,.int .u8 0,.int .u8 0,.int .u8 0,.int .u8 0,.int .u8 0,.int .u8 0] 35 (0,0)),blk b2 (.cells #[.int .u8 0,.int .u8 0,.int .u8 0,.int .u8 0,.int .u8 0,.int .u8 0,.int .u8 0,.int .u8 0,.int .u8 0,.int .u8 0] 35 (0,0)),blk b1 (.cells #[.int .i64 s.ra.fr,.bool s.ra.dr,.int .i64 s.la.h,.int .i64 s.la.m,.int .i64 s.la.s,.int .i64 s.la.f,.int .i64 s.us] 86 (0,0))] _
      (refine s_r ?_;refine tr_val (rk_lss (.of rfl) (.of rfl)) rfl ?_;refine n_t ?_;refine tr_seq ?_;refine c_d rfl (fun hcd=>?_) (fun _=>by omega);refine s_t ?_;refine tr_seq ?_;refine tr_block ?_;refine s_r ?_;refine m_v rfl rfl ?_;refine tr_val (rk_index (.of rfl) (.of rfl) (by omega) hcd norm_) rfl ?_;refine tr_new (rk_alloc rfl) rfl (fun _ _=>?_);refine a_s rfl rfl ?_;refine tr_store (.of rfl) (.of rfl) .here rfl rfl (okc_cons rfl okc_nil) (lenb rfl) norm_ ?_;refine n_r ?_;refine f_a rfl rfl norm0_ ?_;refine tr_val (rk_load1 (.of rfl) (At.lit .here rfl)) rfl ?_;refine f_a rfl rfl norm0_ ?_;refine tr_callV (rk_call (.of rfl) (.cons (.of rfl) .nil) inferInstance normc_) rfl (fun w' hm'=>(part4_c b1 2 w')) ?_;refine tr_val (rk_nilCheck (.of rfl)) rfl ?_;refine tr_val (rk_load1 (.of rfl) (At.lit (.there (.there (.there .here))) rfl)) rfl ?_;refine a_s rfl rfl ?_;refine n_t ?_;refine tr_region ?_;refine m_v rfl rfl ?_;refine m_v rfl rfl ?_;refine tr_val (rk_quo (.of rfl) (.of rfl) (by omega) (by omega) (by omega)) rfl ?_;refine tr_val (rk_mul (.of rfl) (.of rfl) (ini (by omega))) rfl ?_;refine m_v rfl rfl ?_;refine tr_val (rk_rem (.of rfl) (.of rfl) (by omega) (by omega)) rfl ?_;refine tr_val (rk_add (.of rfl) (.of rfl) (ini (by omega))) rfl ?_;refine tr_val (rk_conv (.of rfl)) rfl ?_;refine tr_val (rk_indexAddrA (.of rfl) (.of rfl) (by omega) (by omega) norm1_) rfl ?_;refine tr_store (.of rfl) (.of rfl) (.there .here) rfl rfl (okc_cons rfl okc_nil) (lenb rfl) norm_ ?_;refine tr_nil ?_;refine tr_blk_normal ?_;refine tr_then ?_;refine tr_region ?_;refine tr_val (rk_add (.of rfl) (.of rfl) (ini (by omega))) rfl ?_;refine m_v rfl rfl ?_;refine n_t ?_)
      rw [q4]
      apply tr_next (Φ:=fun k:Nat=>k ≤ 4) 4 (show 4 ≤ 4 from of_decide_eq_true rfl) (by show 4 - 4 < 4 - 3;omega)
      case hs1=>exact .cons rfl (.cons rfl (.cons rfl (.cons rfl (.cons rfl .nil))))
      case ht=>
        show Takes _ [blk b3 (.cells #[.int .u8 (bcd s.la.f),.int .u8 (bcd s.la.s),.int .u8 (bcd s.la.m),.int .u8 (bcd s.la.h),.int .u8 0,.int .u8 0,.int .u8 0,.int .u8 0,.int .u8 0,.int .u8 0] 35 (0,0)),blk b2 (.cells #[.int .u8 0,.int .u8 0,.int .u8 0,.int .u8 0,.int .u8 0,.int .u8 0,.int .u8 0,.int .u8 0,.int .u8 0,.int .u8 0] 35 (0,0)),blk b1 (.cells #[.int .i64 s.ra.fr,.bool s.ra.dr,.int .i64 s.la.h,.int .i64 s.la.m,.int .i64 s.la.s,.int .i64 s.la.f,.int .i64 s.us] 86 (0,0))] _
        exact .cons .here (.cons (.there .here) (.cons (.there .here) .nil))
  · obtain rfl:k = 4:=by omega
    show Tr _ [] [(8,.int .i64 4),(7,.agg partsL.toArray),(3,.pointer (some ⟨b3,0,none⟩)),(2,.pointer (some ⟨b2,0,none⟩)),(1,.pointer (some ⟨b1,0,none⟩))] [blk b3 (.cells #[.int .u8 (bcd s.la.f),.int .u8 (bcd s.la.s),.int .u8 (bcd s.la.m),.int .u8 (bcd s.la.h),.int .u8 0,.int .u8 0,.int .u8 0,.int .u8 0,.int .u8 0,.int .u8 0] 35 (0,0)),blk b2 (.cells #[.int .u8 0,.int .u8 0,.int .u8 0,.int .u8 0,.int .u8 0,.int .u8 0,.int .u8 0,.int .u8 0,.int .u8 0,.int .u8 0] 35 (0,0)),blk b1 (.cells #[.int .i64 s.ra.fr,.bool s.ra.dr,.int .i64 s.la.h,.int .i64 s.la.m,.int .i64 s.la.s,.int .i64 s.la.f,.int .i64 s.us] 86 (0,0))] _
    have e5:IntKind.u8.wrap (s.us / 2 ^ (8:Int).toNat) = s.us / 256:=u8w (by show 0 ≤ s.us / 256 ∧ s.us / 256 ≤ 255;omega)
    have e5':IntKind.u8.wrap (s.us / 2 ^ 8) = s.us / 256:=u8w (by show 0 ≤ s.us / 256 ∧ s.us / 256 ≤ 255;omega)
    have e6:IntKind.u8.wrap s.us = s.us % 256:=u8m (by omega)
    have e4:IntKind.u8.wrap s.ra.fr = s.ra.fr:=u8w (by omega)
    by_cases hd:s.ra.dr = true
    · have hr:s.ra.fr = 30:=h.la.ra.dr hd
      have hW:wordF s = [bcd s.la.f,bcd s.la.s,bcd s.la.m,bcd s.la.h,158,s.us / 256,s.us % 256,parF [bcd s.la.f,bcd s.la.s,bcd s.la.m,bcd s.la.h,158,s.us / 256,s.us % 256],63,253]:=by unfold wordF w7 rtB;rw [hd,hr];rfl
      rw [hd]
      (refine s_r ?_;refine tr_val (rk_lss (.of rfl) (.of rfl)) rfl ?_;refine n_t ?_;refine tr_seq ?_;refine c_d rfl (fun _=>by omega) (fun hcd=>?_);refine x_t ?_;refine tr_then_exit ?_;refine tr_blk_exit ?_;refine tr_then ?_;refine s_r ?_;refine f_a rfl rfl norm0_ ?_;refine f_a rfl rfl norm0_ ?_;refine tr_val (rk_load1 (.of rfl) (At.lit (.there (.there .here)) rfl)) rfl ?_;refine tr_val (rk_conv (.of rfl)) rfl ?_;refine tr_val (rk_indexAddrA (.of rfl) (.of rfl) (by omega) (by omega) norm1_) rfl ?_;refine tr_store (.of rfl) (.of rfl) .here rfl rfl (okc_cons rfl okc_nil) (lenb rfl) norm_ ?_;refine n_t ?_;refine tr_seq ?_;refine s_r ?_;refine f_a rfl rfl norm0_ ?_;refine f_a rfl rfl norm0_ ?_;refine tr_val (rk_load1 (.of rfl) (At.lit (.there (.there .here)) rfl)) rfl ?_;refine n_t ?_;refine tr_cond_t (.of rfl) ?_;refine tr_region ?_;refine tr_val (rk_indexAddrA (.of rfl) (.of rfl) (by omega) (by omega) norm1_) rfl ?_;refine tr_val (rk_load1 (.of rfl) (At.lit .here rfl)) rfl ?_)
      rw [e4,hr]
      refine tr_val (rk_addw (.of rfl) (.of rfl)) rfl ?_
      (refine tr_val (rk_indexAddrA (.of rfl) (.of rfl) (by omega) (by omega) norm1_) rfl ?_;refine tr_store (.of rfl) (.of rfl) .here rfl rfl (okc_cons rfl okc_nil) (lenb rfl) norm_ ?_;refine n_r ?_;refine f_a rfl rfl norm0_ ?_;refine tr_val (rk_load1 (.of rfl) (At.lit (.there (.there .here)) rfl)) rfl ?_;refine tr_val (rk_shrC (.of rfl) (.of rfl) rfl) rfl ?_;refine tr_val (rk_conv (.of rfl)) rfl ?_;refine f_a rfl rfl norm0_ ?_;refine tr_val (rk_load1 (.of rfl) (At.lit (.there (.there .here)) rfl)) rfl ?_;refine tr_val (rk_conv (.of rfl)) rfl ?_;refine tr_val (rk_indexAddrA (.of rfl) (.of rfl) (by omega) (by omega) norm1_) rfl ?_;refine tr_store (.of rfl) (.of rfl) .here rfl rfl (okc_cons rfl okc_nil) (lenb rfl) norm_ ?_;refine tr_val (rk_indexAddrA (.of rfl) (.of rfl) (by omega) (by omega) norm1_) rfl ?_;refine tr_store (.of rfl) (.of rfl) .here rfl rfl (okc_cons rfl okc_nil) (lenb rfl) norm_ ?_;refine n_r ?_;refine tr_val (rk_sliceA_h (.of rfl) (.of rfl) (by omega) (by omega) norm1_) rfl ?_)
      rw [e5',e6,show IntKind.u8.wrap (30 + 128) = 158 from rfl]
      with_reducible apply tr_callV
      case hr=>exact rk_call (.of rfl) (.cons (.of rfl) .nil) inferInstance normc_
      case hd=>rfl
      case hc=>
        intro w' hm'
        exact parity_c (l:=[bcd s.la.f,bcd s.la.s,bcd s.la.m,bcd s.la.h,158,s.us / 256,s.us % 256]) (rdBys hm' (by exact .here) rfl rfl (by decide) (by decide))
      (refine tr_val (rk_indexAddrA (.of rfl) (.of rfl) (by omega) (by omega) norm1_) rfl ?_;refine tr_store (.of rfl) (.of rfl) .here rfl rfl (okc_cons rfl okc_nil) (lenb rfl) norm_ ?_;refine n_r ?_;refine tr_val (rk_indexAddrA (.of rfl) (.of rfl) (by omega) (by omega) norm1_) rfl ?_;refine tr_store (.of rfl) (.of rfl) .here rfl rfl (okc_cons rfl okc_nil) (lenb rfl) norm_ ?_;refine tr_val (rk_indexAddrA (.of rfl) (.of rfl) (by omega) (by omega) norm1_) rfl ?_;refine tr_store (.of rfl) (.of rfl) .here rfl rfl (okc_cons rfl okc_nil) (lenb rfl) norm_ ?_;refine n_r ?_;refine tr_val (rk_loadB (.of rfl) .here norm_ (by rfl)) rfl ?_;refine tr_store (.of rfl) (.of rfl) (.there .here) rfl rfl (okc_cons rfl (okc_cons rfl (okc_cons rfl (okc_cons rfl (okc_cons rfl (okc_cons rfl (okc_cons rfl (okc_cons rfl (okc_cons rfl (okc_cons rfl okc_nil)))))))))) (lenb rfl) norm_ ?_;refine n_t ?_;refine tr_ret ?_;refine tr_retE rfl (ends1cB rfl inferInstance rfl .here norm_ (by rfl)) ?_)
      rw [hW];rfl
    · have hd:s.ra.dr = false:=by simpa using hd
      have hW:wordF s = [bcd s.la.f,bcd s.la.s,bcd s.la.m,bcd s.la.h,s.ra.fr,s.us / 256,s.us % 256,parF [bcd s.la.f,bcd s.la.s,bcd s.la.m,bcd s.la.h,s.ra.fr,s.us / 256,s.us % 256],63,253]:=by unfold wordF w7 rtB;rw [hd,if_neg (by decide),Int.add_zero];rfl
      rw [hd]
      (refine s_r ?_;refine tr_val (rk_lss (.of rfl) (.of rfl)) rfl ?_;refine n_t ?_;refine tr_seq ?_;refine c_d rfl (fun _=>by omega) (fun hcd=>?_);refine x_t ?_;refine tr_then_exit ?_;refine tr_blk_exit ?_;refine tr_then ?_;refine s_r ?_;refine f_a rfl rfl norm0_ ?_;refine f_a rfl rfl norm0_ ?_;refine tr_val (rk_load1 (.of rfl) (At.lit (.there (.there .here)) rfl)) rfl ?_;refine tr_val (rk_conv (.of rfl)) rfl ?_;refine tr_val (rk_indexAddrA (.of rfl) (.of rfl) (by omega) (by omega) norm1_) rfl ?_;refine tr_store (.of rfl) (.of rfl) .here rfl rfl (okc_cons rfl okc_nil) (lenb rfl) norm_ ?_;refine n_t ?_;refine tr_seq ?_;refine s_r ?_;refine f_a rfl rfl norm0_ ?_;refine f_a rfl rfl norm0_ ?_;refine tr_val (rk_load1 (.of rfl) (At.lit (.there (.there .here)) rfl)) rfl ?_;refine n_t ?_;refine tr_cond_f (.of rfl) ?_;refine s_t ?_;refine s_r ?_;refine f_a rfl rfl norm0_ ?_;refine tr_val (rk_load1 (.of rfl) (At.lit (.there (.there .here)) rfl)) rfl ?_;refine tr_val (rk_shrC (.of rfl) (.of rfl) rfl) rfl ?_;refine tr_val (rk_conv (.of rfl)) rfl ?_;refine f_a rfl rfl norm0_ ?_;refine tr_val (rk_load1 (.of rfl) (At.lit (.there (.there .here)) rfl)) rfl ?_;refine tr_val (rk_conv (.of rfl)) rfl ?_;refine tr_val (rk_indexAddrA (.of rfl) (.of rfl) (by omega) (by omega) norm1_) rfl ?_;refine tr_store (.of rfl) (.of rfl) .here rfl rfl (okc_cons rfl okc_nil) (lenb rfl) norm_ ?_;refine tr_val (rk_indexAddrA (.of rfl) (.of rfl) (by omega) (by omega) norm1_) rfl ?_;refine tr_store (.of rfl) (.of rfl) .here rfl rfl (okc_cons rfl okc_nil) (lenb rfl) norm_ ?_;refine n_r ?_;refine tr_val (rk_sliceA_h (.of rfl) (.of rfl) (by omega) (by omega) norm1_) rfl ?_)
      rw [e5',e6,e4]
      with_reducible apply tr_callV
      case hr=>exact rk_call (.of rfl) (.cons (.of rfl) .nil) inferInstance normc_
      case hd=>rfl
      case hc=>
        intro w' hm'
        exact parity_c (l:=[bcd s.la.f,bcd s.la.s,bcd s.la.m,bcd s.la.h,s.ra.fr,s.us / 256,s.us % 256]) (rdBys hm' (by exact .here) rfl rfl (by decide) (by decide))
      (refine tr_val (rk_indexAddrA (.of rfl) (.of rfl) (by omega) (by omega) norm1_) rfl ?_;refine tr_store (.of rfl) (.of rfl) .here rfl rfl (okc_cons rfl okc_nil) (lenb rfl) norm_ ?_;refine n_r ?_;refine tr_val (rk_indexAddrA (.of rfl) (.of rfl) (by omega) (by omega) norm1_) rfl ?_;refine tr_store (.of rfl) (.of rfl) .here rfl rfl (okc_cons rfl okc_nil) (lenb rfl) norm_ ?_;refine tr_val (rk_indexAddrA (.of rfl) (.of rfl) (by omega) (by omega) norm1_) rfl ?_;refine tr_store (.of rfl) (.of rfl) .here rfl rfl (okc_cons rfl okc_nil) (lenb rfl) norm_ ?_;refine n_r ?_;refine tr_val (rk_loadB (.of rfl) .here norm_ (by rfl)) rfl ?_;refine tr_store (.of rfl) (.of rfl) (.there .here) rfl rfl (okc_cons rfl (okc_cons rfl (okc_cons rfl (okc_cons rfl (okc_cons rfl (okc_cons rfl (okc_cons rfl (okc_cons rfl (okc_cons rfl (okc_cons rfl okc_nil)))))))))) (lenb rfl) norm_ ?_;refine n_t ?_;refine tr_ret ?_;refine tr_retE rfl (ends1cB rfl inferInstance rfl .here norm_ (by rfl)) ?_)
      rw [hW];rfl
end Go.Proofs.A1
namespace Go.Proofs.A1
open Go Go.SL
end Go.Proofs.A1
namespace Go.Proofs.A1
open Go Go.SL
end Go.Proofs.A1
namespace Go.Proofs.A1
open Go Go.SL
theorem hitF_len (s:List Int):∀ n i,(hitF s n i).length ≤ n
  | 0,_=>Nat.le_refl _
  | n + 1, i => by
    unfold hitF
    split
    · split
      · rw [List.length_cons];have:=hitF_len s n (i + 10);omega
      · have:=hitF_len s n (i + 1);omega
    · simp
theorem hitL_len (s:List Int) (i:Nat):(hitL s i).length ≤ s.length:=by
  have:=hitF_len s (s.length - i) i
  unfold hitL;omega
theorem win_len {s:List Int} {i:Nat} (h:i + 10 ≤ s.length):(win s i).length = 10:=by unfold win;rw [List.length_take,List.length_drop];omega
theorem win_at {s:List Int} {i j:Nat} (h:i + 10 ≤ s.length) (hj:j < 10):(win s i)[j]? = s[i + j]?:=by unfold win;rw [List.getElem?_take_of_lt hj,List.getElem?_drop]
theorem win_mem {s:List Int} {i:Nat} (hb:∀ x ∈ s,0 ≤ x ∧ x ≤ 255):∀ x ∈ win s i,0 ≤ x ∧ x ≤ 255:=fun x hx=>hb x (List.mem_of_mem_drop (List.mem_of_mem_take hx))
end Go.Proofs.A1
namespace Go.Proofs.A1
open Go Go.SL
end Go.Proofs.A1
namespace Go.Proofs.A1
open Go Go.SL
def hrdE (n:Nat):Int:=if 4000 < n then 5 else 0
end Go.Proofs.A1
namespace Go.Proofs.A1
open Go Go.SL
end Go.Proofs.A1
namespace Go.Proofs.A1
end Go.Proofs.A1
namespace Go.Proofs.A1
open Go Go.SL
theorem setCells_full {cs vs:List Value} (h:vs.length = cs.length):setCells cs 0 vs = vs:=by
  apply List.ext_getElem?
  intro k
  rw [setCells_get _ _ _ _ (by omega)]
  by_cases hk:k < vs.length
  · rw [if_pos (by omega),Nat.sub_zero]
  · rw [if_neg (by omega),List.getElem?_eq_none (by omega),List.getElem?_eq_none (by omega)]
theorem cellsAt_app {cs cur:List Value} {o n:Nat} (h:o + n ≤ cs.length):cellsAt (cs++cur) o n = cellsAt cs o n:=by
  rw [cellsAt_eq,cellsAt_eq,List.drop_append_of_le_length (by omega),List.take_append_of_le_length (by rw [List.length_drop];omega)]
def wrtF (s:Stm):List Int:=if stmE s = 0 then wordF s else List.replicate 10 0
theorem written_c (s:Stm) (w:World) (hG:GlobR w):GivesV Tryd.prog 22 [.agg s.cells.toArray] w (.tuple #[.agg (wcells (wrtF s)).toArray,.int .i64 (stmE s)]):=by
  refine givesV_of_tr Tryd.func22 rfl rfl ?_
  unfold wrtF
  by_cases h:stmE s = 0
  · have hs:=stmE_zero.1 h
    rw [if_pos h]
    unfold Stm.cells
    (refine s_r ?_;refine tr_new (rk_box (.of rfl) rfl) rfl (fun _ _=>?_);refine tr_new (rk_alloc rfl) rfl (fun _ _=>?_);refine a_s rfl rfl ?_;refine n_t ?_;refine tr_seq ?_;refine s_r ?_;refine tr_val (rk_loadB (.of rfl) (.there .here) norm_ (by rfl)) rfl ?_;refine tr_callV (rk_call (.of rfl) (.cons (.of rfl) .nil) inferInstance normc_) rfl (fun w' hm'=>(chkStamp_c s w' (GlobR.keeps hG (Mem.keeps hm')))) ?_;refine a_s rfl rfl ?_;refine n_r ?_;refine m_v rfl rfl ?_;refine tr_val (rk_neq (.of rfl) (.of rfl)) rfl ?_;refine n_t ?_;refine c_d rfl (fun _=>by omega) (fun hcd=>?_);refine s_t ?_;refine s_r ?_;refine tr_val (rk_loadB (.of rfl) (.there .here) norm_ (by rfl)) rfl ?_;refine tr_callV (rk_call (.of rfl) (.cons (.of rfl) .nil) inferInstance normc_) rfl (fun w' hm'=>(word_c s hs w')) ?_;refine tr_store (.of rfl) (.of rfl) .here rfl rfl (okc_cons rfl (okc_cons rfl (okc_cons rfl (okc_cons rfl (okc_cons rfl (okc_cons rfl (okc_cons rfl (okc_cons rfl (okc_cons rfl (okc_cons rfl okc_nil)))))))))) (lenb rfl) norm_ ?_;refine a_s rfl rfl ?_;refine n_t ?_;refine tr_ret ?_;refine tr_retE rfl (endsCT rfl inferInstance rfl .here norm_ (by rfl) (by rfl)) ?_)
    rw [setCells_full (by rfl),h];rfl
  · rw [if_neg h]
    unfold Stm.cells
    (refine s_r ?_;refine tr_new (rk_box (.of rfl) rfl) rfl (fun _ _=>?_);refine tr_new (rk_alloc rfl) rfl (fun _ _=>?_);refine a_s rfl rfl ?_;refine n_t ?_;refine tr_seq ?_;refine s_r ?_;refine tr_val (rk_loadB (.of rfl) (.there .here) norm_ (by rfl)) rfl ?_;refine tr_callV (rk_call (.of rfl) (.cons (.of rfl) .nil) inferInstance normc_) rfl (fun w' hm'=>(chkStamp_c s w' (GlobR.keeps hG (Mem.keeps hm')))) ?_;refine a_s rfl rfl ?_;refine n_r ?_;refine m_v rfl rfl ?_;refine tr_val (rk_neq (.of rfl) (.of rfl)) rfl ?_;refine n_t ?_;refine c_d rfl (fun hcd=>?_) (fun _=>by omega);refine s_r ?_;refine tr_val (rk_buildL .nil norm_) rfl ?_;refine m_v rfl rfl ?_;refine tr_store (.of rfl) (.of rfl) .here rfl rfl (okc_cons rfl (okc_cons rfl (okc_cons rfl (okc_cons rfl (okc_cons rfl (okc_cons rfl (okc_cons rfl (okc_cons rfl (okc_cons rfl (okc_cons rfl okc_nil)))))))))) (lenb rfl) norm_ ?_;refine a_s rfl rfl ?_;refine n_t ?_;refine r_t ?_;refine tr_retE rfl (endsCT rfl inferInstance rfl .here norm_ (by rfl) (by rfl)) ?_)
    rfl
theorem whenF_if {p:Prop} [Decidable p] {e:Int}:whenF (decide p) e = if p then e else 0:=by
  by_cases h:p <;> simp [whenF,h]
theorem chkBytes_c (a:Option Addr) (n cp:Nat) (w:World):GivesV Tryd.prog 34 [.slice a n cp] w (.int .i64 (hrdE n)):=by
  have e:whenF (decide ((4000:Int) < (n:Nat))) 5 = hrdE n:=by
    rw [whenF_if,hrdE]
    by_cases h:4000 < n
    · rw [if_pos (by omega),if_pos h]
    · rw [if_neg (by omega),if_neg h]
  refine givesV_of_tr Tryd.func34 rfl rfl ?_
  (refine s_r ?_;refine a_s rfl rfl ?_;refine n_r ?_;refine m_v rfl rfl ?_;refine tr_val (rk_len_slice (.of rfl)) rfl ?_;refine tr_val (rk_gtr (.of rfl) (.of rfl)) rfl ?_;refine tr_callV (rk_call (.of rfl) (.cons (.of rfl) (.cons (.of rfl) .nil)) inferInstance normc_) rfl (fun w' hm'=>(when_c _ 5 w')) ?_;refine a_s rfl rfl ?_;refine n_t ?_;refine tr_ret ?_;refine tr_retE rfl (ends1 rfl rfl) ?_)
  rw [e]
end Go.Proofs.A1
namespace Go.Proofs.A1
open Go Go.SL
end Go.Proofs.A1
namespace Go.Proofs.A1
open Go Go.SL
end Go.Proofs.A1
