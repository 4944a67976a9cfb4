/- Parts of the proof: DU7 DU8 UBp UCp UDp UEp UGp UHp UJp DU9 DU9r DU10. -/
import Derived.Test.YthhidjfahmcekaaDoorPM07
import Derived.Test.YthhidjfahmcekaaDoorPM05
import Derived.Lib.ItoaLen
import Derived.Test.YthhidjfahmcekaaDoorPM06
set_option linter.unusedSectionVars false
set_option linter.unusedVariables false
set_option linter.unusedSimpArgs false
namespace Go.Proofs.A1
open Go Go.SL
def bys (es:List Int):List (List Value):=es.map fun e=>[.int .u8 e]
theorem bys_length (es:List Int):(bys es).length = es.length:=by simp [bys]
theorem bys_get {es:List Int} {k:Nat} (h:k < es.length):(bys es)[k]? = some [.int .u8 es[k]]:=by simp [bys,h]
theorem bys_ne {es:List Int} {k:Nat} (h:k < es.length):bys es ≠ []:=by intro e;have:=congrArg List.length e;rw [bys_length] at this;simp at this;subst this;simp at h
theorem u8w {x:Int} (h:0 ≤ x ∧ x ≤ 255):IntKind.u8.wrap x = x:=by unfold IntKind.wrap;simp [IntKind.signed,IntKind.bits];omega
theorem u8m {x:Int} (h:0 ≤ x):IntKind.u8.wrap x = x % 256:=by unfold IntKind.wrap;simp [IntKind.signed,IntKind.bits]
theorem i64w {x:Int} (h:-9223372036854775808 ≤ x ∧ x ≤ 9223372036854775807):IntKind.i64.wrap x = x:=by unfold IntKind.wrap;simp [IntKind.signed,IntKind.bits];omega
theorem parF_at {l:List Int} {k:Nat} (h:k < l.length):parF (l.take (k + 1)) = xorF (parF (l.take k)) l[k]:=by rw [List.take_succ_eq_append_getElem h,parF_snoc]
theorem parity_c {v:Value} {l:List Int} {w:World} (h:Rd w v 1 (bys l)):GivesV Tryd.prog 62 [v] w (.int .u8 (parF l)):=by
  obtain ⟨a,cap,b,o,rfl,hcap,hmax,ha,hc⟩:=h
  rw [bys_length] at *
  unfold maxLen at hmax
  refine givesV_of_tr Tryd.func62 rfl rfl ?_
  (refine s_r ?_;refine a_s rfl rfl ?_;refine n_r ?_;refine a_s rfl rfl ?_;refine n_t ?_;refine tr_seq ?_;refine s_r ?_;refine m_v rfl rfl ?_;refine tr_val (rk_len_slice (.of rfl)) rfl ?_;refine m_v rfl rfl ?_;refine n_t ?_;refine tr_block ?_)
  refine tr_for (fun k:Nat=>k ≤ l.length) (fun k=>[(8,.int .i64 k),(7,.int .i64 l.length),(6,.slice a l.length cap),(3,.int .u8 (parF (l.take k)))]) (fun _=>[]) (fun k=>l.length - k) ?_ ?_
  · apply tr_start 0 (show (0:Nat) ≤ l.length from Nat.zero_le _)
    case hs1=>exact .cons rfl (.cons rfl (.cons rfl (.cons rfl .nil)))
    case ht=>(try simp only [List.take_zero,List.map_nil,List.nil_append]);exact .nil
  intro k hk
  by_cases hlt:k < l.length
  · have ha':=ha (bys_ne hlt)
    have hcell:=rd1 hc (bys_get hlt)
    have hp:=parF_at hlt
    (refine s_r ?_;refine tr_val (rk_lss (.of rfl) (.of rfl)) rfl ?_;refine n_t ?_;refine tr_seq ?_;refine c_d rfl (fun hcd=>?_) (fun _=>by omega);refine s_t ?_;refine tr_seq ?_;refine tr_block ?_;refine s_r ?_;refine tr_val (rk_indexAddr (.of rfl) (.of rfl) ha' (by omega) hcd norm1_) rfl ?_;refine tr_val (rk_load1 (.of rfl) (At.base hcell rfl)) rfl ?_;refine a_s rfl rfl ?_;refine n_t ?_;refine tr_region ?_;refine m_v rfl rfl ?_;refine m_v rfl rfl ?_;refine tr_val (rk_xor8 (.of rfl) (.of rfl)) rfl ?_;refine a_s rfl rfl ?_;refine tr_nil ?_;refine tr_blk_normal ?_;refine tr_then ?_;refine tr_region ?_;refine tr_val (rk_add (.of rfl) (.of rfl) (ini (by omega))) rfl ?_;refine m_v rfl rfl ?_;refine n_t ?_)
    rw [← hp]
    apply tr_next (k + 1) (by omega) (by omega)
    case hs1=>exact .cons rfl (.cons rfl (.cons rfl (.cons rfl .nil)))
    case ht=>(try simp only [List.take_zero,List.map_nil,List.nil_append]);exact .nil
  · obtain rfl:k = l.length:=by omega
    rw [List.take_length]
    (refine s_r ?_;refine tr_val (rk_lss (.of rfl) (.of rfl)) rfl ?_;refine n_t ?_;refine tr_seq ?_;refine c_d rfl (fun _=>by omega) (fun hcd=>?_);refine x_t ?_;refine tr_then_exit ?_;refine tr_blk_exit ?_;refine tr_then ?_;refine s_r ?_;refine m_v rfl rfl ?_;refine a_s rfl rfl ?_;refine n_t ?_;refine tr_ret ?_;refine tr_retE rfl (ends1 rfl rfl) ?_)
    rfl
def partsL:List Value:=[.func (.func 87) #[] #[],.func (.func 88) #[] #[],.func (.func 89) #[] #[],.func (.func 90) #[] #[]]
theorem parts_c (w:World):GivesV Tryd.prog 63 [] w (.agg partsL.toArray):=by
  refine givesV_of_tr Tryd.func63 rfl rfl ?_
  (refine s_r ?_;refine tr_new (rk_alloc rfl) rfl (fun _ _=>?_);refine n_r ?_;refine tr_val (rk_buildL (.cons (.of rfl) .nil) norm_) rfl ?_;refine tr_val (rk_buildL (.cons (.of rfl) .nil) norm_) rfl ?_;refine tr_val (rk_buildL (.cons (.of rfl) .nil) norm_) rfl ?_;refine tr_val (rk_buildL (.cons (.of rfl) .nil) norm_) rfl ?_;refine tr_val (rk_buildL (.cons (.of rfl) (.cons (.of rfl) (.cons (.of rfl) (.cons (.of rfl) .nil)))) norm_) rfl ?_;refine tr_store (.of rfl) (.of rfl) .here rfl rfl (okc_cons rfl (okc_cons rfl (okc_cons rfl (okc_cons rfl okc_nil)))) (lenb rfl) norm_ ?_;refine n_t ?_;refine tr_ret ?_;refine tr_retE rfl (ends1cB rfl inferInstance rfl .here norm_ (by rfl)) ?_)
  rfl
theorem part1_c (b o:Nat) (w:World):GivesV Tryd.prog 87 [.pointer (some ⟨b,o,none⟩)] w (.pointer (some ⟨b,o + 3,none⟩)):=by
  refine givesV_of_tr Tryd.func87 rfl rfl ?_
  (refine s_r ?_;refine a_s rfl rfl ?_;refine n_r ?_;refine m_v rfl rfl ?_;refine tr_val (rk_nilCheck (.of rfl)) rfl ?_;refine f_a rfl rfl norm0_ ?_;refine a_s rfl rfl ?_;refine n_t ?_;refine tr_ret ?_;refine tr_retE rfl (ends1 rfl rfl) ?_)
  rfl
theorem part2_c (b o:Nat) (w:World):GivesV Tryd.prog 88 [.pointer (some ⟨b,o,none⟩)] w (.pointer (some ⟨b,o + 2,none⟩)):=by
  refine givesV_of_tr Tryd.func88 rfl rfl ?_
  (refine s_r ?_;refine a_s rfl rfl ?_;refine n_r ?_;refine m_v rfl rfl ?_;refine tr_val (rk_nilCheck (.of rfl)) rfl ?_;refine f_a rfl rfl norm0_ ?_;refine a_s rfl rfl ?_;refine n_t ?_;refine tr_ret ?_;refine tr_retE rfl (ends1 rfl rfl) ?_)
  rfl
theorem part3_c (b o:Nat) (w:World):GivesV Tryd.prog 89 [.pointer (some ⟨b,o,none⟩)] w (.pointer (some ⟨b,o + 1,none⟩)):=by
  refine givesV_of_tr Tryd.func89 rfl rfl ?_
  (refine s_r ?_;refine a_s rfl rfl ?_;refine n_r ?_;refine m_v rfl rfl ?_;refine tr_val (rk_nilCheck (.of rfl)) rfl ?_;refine f_a rfl rfl norm0_ ?_;refine a_s rfl rfl ?_;refine n_t ?_;refine tr_ret ?_;refine tr_retE rfl (ends1 rfl rfl) ?_)
  rfl
theorem part4_c (b o:Nat) (w:World):GivesV Tryd.prog 90 [.pointer (some ⟨b,o,none⟩)] w (.pointer (some ⟨b,o + 0,none⟩)):=by
  refine givesV_of_tr Tryd.func90 rfl rfl ?_
  (refine s_r ?_;refine a_s rfl rfl ?_;refine n_r ?_;refine m_v rfl rfl ?_;refine tr_val (rk_nilCheck (.of rfl)) rfl ?_;refine f_a rfl rfl norm0_ ?_;refine a_s rfl rfl ?_;refine n_t ?_;refine tr_ret ?_;refine tr_retE rfl (ends1 rfl rfl) ?_)
  rfl
def zb (n:Nat):List Value:=List.replicate n (.int .u8 0)
def wk (s:Stm) (k:Nat):List Value:=[.int .u8 (if 0 < k then bcd s.la.f else 0),.int .u8 (if 1 < k then bcd s.la.s else 0),.int .u8 (if 2 < k then bcd s.la.m else 0),.int .u8 (if 3 < k then bcd s.la.h else 0),.int .u8 0,.int .u8 0,.int .u8 0,.int .u8 0,.int .u8 0,.int .u8 0]
abbrev wcells (l:List Int):List Value:=l.map (Value.int .u8)
end Go.Proofs.A1
namespace Go.Proofs.A1
open Go Go.SL
theorem rdPart {c:Cx} {hs hs':List Asn} {w:World} (hm:Mem c hs w) {b o n cap:Nat} {cs xs:List Value} {E:TypeId} {fz:Nat × Nat} (ht:Take hs (SL.blk b (.cells cs.toArray E fz)) hs') (hx:cellsAt cs o n = xs) (hl:xs.length = n) (hn:n ≤ cap) (hc:cap ≤ 1000000) :
    Rd w (.slice (some ⟨b,o,none⟩) n cap) 1 (xs.map fun v=>[v]):=by
  have hb:=hm.blk ht
  subst hl
  refine ⟨_,cap,b,o,by rw [List.length_map],by rw [List.length_map];exact hn,by unfold maxLen;omega,fun _=>rfl,fun i r hr=>?_⟩
  rw [List.getElem?_map] at hr
  cases hi:xs[i]? with
  | none=>rw [hi] at hr;cases hr
  | some v =>
    rw [hi] at hr
    cases hr
    refine ⟨rfl,fun j u hu=>?_⟩
    match j,hu with
    | 0, hu =>
      cases hu
      rw [cell_of_block hb]
      have h2:=hi
      rw [← hx,cellsAt_eq,List.getElem?_take] at h2
      split at h2
      · rw [List.getElem?_drop] at h2
        simpa using h2
      · cases h2
theorem rdBys {c:Cx} {hs hs':List Asn} {w:World} (hm:Mem c hs w) {b o n cap:Nat} {cs:List Value} {l:List Int} {E:TypeId} {fz:Nat × Nat} (ht:Take hs (SL.blk b (.cells cs.toArray E fz)) hs') (hx:cellsAt cs o n = l.map (Value.int .u8)) (hl:l.length = n) (hn:n ≤ cap) (hc:cap ≤ 1000000) :
    Rd w (.slice (some ⟨b,o,none⟩) n cap) 1 (bys l):=by
  have:=rdPart hm (xs:=l.map (Value.int .u8)) ht hx (by rw [List.length_map,hl]) hn hc
  rwa [List.map_map] at this
set_option maxHeartbeats 4000000 in
theorem word_c (s:Stm) (h:StOk s) (w:World):GivesV Tryd.prog 53 [.agg s.cells.toArray] w (.agg (wcells (wordF s)).toArray):=by
  have h1:=h.la.h;have h2:=h.la.m;have h3:=h.la.s;have h4:=h.la.f;have h5:=h.la.ra.fr;have h6:=h.us
  have q1:IntKind.u8.wrap (s.la.f / 10 * 16 + s.la.f % 10) = bcd s.la.f:=u8w (by omega)
  have q2:IntKind.u8.wrap (s.la.s / 10 * 16 + s.la.s % 10) = bcd s.la.s:=u8w (by omega)
  have q3:IntKind.u8.wrap (s.la.m / 10 * 16 + s.la.m % 10) = bcd s.la.m:=u8w (by omega)
  have q4:IntKind.u8.wrap (s.la.h / 10 * 16 + s.la.h % 10) = bcd s.la.h:=u8w (by omega)
  refine givesV_of_tr Tryd.func53 rfl rfl ?_
  unfold Stm.cells
  (refine s_r ?_;refine tr_new (rk_box (.of rfl) rfl) rfl (fun _ _=>?_);refine tr_new (rk_alloc rfl) rfl (fun _ _=>?_);refine n_r ?_;refine tr_new (rk_alloc rfl) rfl (fun _ _=>?_);refine n_t ?_;refine tr_seq ?_;refine s_r ?_;refine tr_callV (rk_call (.of rfl) .nil inferInstance normc_) rfl (fun w' hm'=>(parts_c w')) ?_;refine m_v rfl rfl ?_;refine n_t ?_;refine tr_block ?_)
  rename_i b1 hb1 b2 hb2 b3 hb3
  refine tr_for (fun k:Nat=>k ≤ 4) (fun k=>[(8,.int .i64 k),(7,.agg partsL.toArray),(3,.pointer (some ⟨b3,0,none⟩)),(2,.pointer (some ⟨b2,0,none⟩)),(1,.pointer (some ⟨b1,0,none⟩))]) (fun k=>[blk b3 (.cells (wk s k).toArray 35 (0,0)),blk b2 (.cells #[.int .u8 0,.int .u8 0,.int .u8 0,.int .u8 0,.int .u8 0,.int .u8 0,.int .u8 0,.int .u8 0,.int .u8 0,.int .u8 0] 35 (0,0)),blk b1 (.cells #[.int .i64 s.ra.fr,.bool s.ra.dr,.int .i64 s.la.h,.int .i64 s.la.m,.int .i64 s.la.s,.int .i64 s.la.f,.int .i64 s.us] 86 (0,0))]) (fun k=>4 - k) ?_ ?_
  · apply tr_start 0 (show (0:Nat) ≤ 4 by omega)
    case hs1=>exact .cons rfl (.cons rfl (.cons rfl (.cons rfl (.cons rfl .nil))))
    case ht=>
      show Takes _ [blk b3 (.cells #[.int .u8 0,.int .u8 0,.int .u8 0,.int .u8 0,.int .u8 0,.int .u8 0,.int .u8 0,.int .u8 0,.int .u8 0,.int .u8 0] 35 (0,0)),blk b2 (.cells #[.int .u8 0,.int .u8 0,.int .u8 0,.int .u8 0,.int .u8 0,.int .u8 0,.int .u8 0,.int .u8 0,.int .u8 0,.int .u8 0] 35 (0,0)),blk b1 (.cells #[.int .i64 s.ra.fr,.bool s.ra.dr,.int .i64 s.la.h,.int .i64 s.la.m,.int .i64 s.la.s,.int .i64 s.la.f,.int .i64 s.us] 86 (0,0))] _
      exact .cons .here (.cons .here (.cons .here .nil))
  intro k hk
  by_cases hlt:k < 4
  · obtain rfl | rfl | rfl | rfl:k = 0 ∨ k = 1 ∨ k = 2 ∨ k = 3:=by omega
    · show Tr _ [] [(8,.int .i64 0),(7,.agg #[.func (.func 87) #[] #[],.func (.func 88) #[] #[],.func (.func 89) #[] #[],.func (.func 90) #[] #[]]),(3,.pointer (some ⟨b3,0,none⟩)),(2,.pointer (some ⟨b2,0,none⟩)),(1,.pointer (some ⟨b1,0,none⟩))] [blk b3 (.cells #[.int .u8 0,.int .u8 0,.int .u8 0,.int .u8 0,.int .u8 0,.int .u8 0,.int .u8 0,.int .u8 0,.int .u8 0,.int .u8 0] 35 (0,0)),blk b2 (.cells #[.int .u8 0,.int .u8 0,.int .u8 0,.int .u8 0,.int .u8 0,.int .u8 0,.int .u8 0,.int .u8 0,.int .u8 0,.int .u8 0] 35 (0,0)),blk b1 (.cells #[.int .i64 s.ra.fr,.bool s.ra.dr,.int .i64 s.la.h,.int .i64 s.la.m,.int .i64 s.la.s,.int .i64 s.la.f,.int .i64 s.us] 86 (0,0))] _
      (refine s_r ?_;refine tr_val (rk_lss (.of rfl) (.of rfl)) rfl ?_;refine n_t ?_;refine tr_seq ?_;refine c_d rfl (fun hcd=>?_) (fun _=>by omega);refine s_t ?_;refine tr_seq ?_;refine tr_block ?_;refine s_r ?_;refine m_v rfl rfl ?_;refine tr_val (rk_index (.of rfl) (.of rfl) (by omega) hcd norm_) rfl ?_;refine tr_new (rk_alloc rfl) rfl (fun _ _=>?_);refine a_s rfl rfl ?_;refine tr_store (.of rfl) (.of rfl) .here rfl rfl (okc_cons rfl okc_nil) (lenb rfl) norm_ ?_;refine n_r ?_;refine f_a rfl rfl norm0_ ?_;refine tr_val (rk_load1 (.of rfl) (At.lit .here rfl)) rfl ?_;refine f_a rfl rfl norm0_ ?_;refine tr_callV (rk_call (.of rfl) (.cons (.of rfl) .nil) inferInstance normc_) rfl (fun w' hm'=>(part1_c b1 2 w')) ?_;refine tr_val (rk_nilCheck (.of rfl)) rfl ?_;refine tr_val (rk_load1 (.of rfl) (At.lit (.there (.there (.there .here))) rfl)) rfl ?_;refine a_s rfl rfl ?_;refine n_t ?_;refine tr_region ?_;refine m_v rfl rfl ?_;refine m_v rfl rfl ?_;refine tr_val (rk_quo (.of rfl) (.of rfl) (by omega) (by omega) (by omega)) rfl ?_;refine tr_val (rk_mul (.of rfl) (.of rfl) (ini (by omega))) rfl ?_;refine m_v rfl rfl ?_;refine tr_val (rk_rem (.of rfl) (.of rfl) (by omega) (by omega)) rfl ?_;refine tr_val (rk_add (.of rfl) (.of rfl) (ini (by omega))) rfl ?_;refine tr_val (rk_conv (.of rfl)) rfl ?_;refine tr_val (rk_indexAddrA (.of rfl) (.of rfl) (by omega) (by omega) norm1_) rfl ?_;refine tr_store (.of rfl) (.of rfl) (.there .here) rfl rfl (okc_cons rfl okc_nil) (lenb rfl) norm_ ?_;refine tr_nil ?_;refine tr_blk_normal ?_;refine tr_then ?_;refine tr_region ?_;refine tr_val (rk_add (.of rfl) (.of rfl) (ini (by omega))) rfl ?_;refine m_v rfl rfl ?_;refine n_t ?_)
      rw [q1]
      apply tr_next (Φ:=fun k:Nat=>k ≤ 4) 1 (show 1 ≤ 4 from of_decide_eq_true rfl) (by show 4 - 1 < 4 - 0;omega)
      case hs1=>exact .cons rfl (.cons rfl (.cons rfl (.cons rfl (.cons rfl .nil))))
      case ht=>
        show Takes _ [blk b3 (.cells #[.int .u8 (bcd s.la.f),.int .u8 0,.int .u8 0,.int .u8 0,.int .u8 0,.int .u8 0,.int .u8 0,.int .u8 0,.int .u8 0,.int .u8 0] 35 (0,0)),blk b2 (.cells #[.int .u8 0,.int .u8 0,.int .u8 0,.int .u8 0,.int .u8 0,.int .u8 0,.int .u8 0,.int .u8 0,.int .u8 0,.int .u8 0] 35 (0,0)),blk b1 (.cells #[.int .i64 s.ra.fr,.bool s.ra.dr,.int .i64 s.la.h,.int .i64 s.la.m,.int .i64 s.la.s,.int .i64 s.la.f,.int .i64 s.us] 86 (0,0))] _
        exact .cons .here (.cons (.there .here) (.cons (.there .here) .nil))
    · show Tr _ [] [(8,.int .i64 1),(7,.agg #[.func (.func 87) #[] #[],.func (.func 88) #[] #[],.func (.func 89) #[] #[],.func (.func 90) #[] #[]]),(3,.pointer (some ⟨b3,0,none⟩)),(2,.pointer (some ⟨b2,0,none⟩)),(1,.pointer (some ⟨b1,0,none⟩))] [blk b3 (.cells #[.int .u8 (bcd s.la.f),.int .u8 0,.int .u8 0,.int .u8 0,.int .u8 0,.int .u8 0,.int .u8 0,.int .u8 0,.int .u8 0,.int .u8 0] 35 (0,0)),blk b2 (.cells #[.int .u8 0,.int .u8 0,.int .u8 0,.int .u8 0,.int .u8 0,.int .u8 0,.int .u8 0,.int .u8 0,.int .u8 0,.int .u8 0] 35 (0,0)),blk b1 (.cells #[.int .i64 s.ra.fr,.bool s.ra.dr,.int .i64 s.la.h,.int .i64 s.la.m,.int .i64 s.la.s,.int .i64 s.la.f,.int .i64 s.us] 86 (0,0))] _
      (refine s_r ?_;refine tr_val (rk_lss (.of rfl) (.of rfl)) rfl ?_;refine n_t ?_;refine tr_seq ?_;refine c_d rfl (fun hcd=>?_) (fun _=>by omega);refine s_t ?_;refine tr_seq ?_;refine tr_block ?_;refine s_r ?_;refine m_v rfl rfl ?_;refine tr_val (rk_index (.of rfl) (.of rfl) (by omega) hcd norm_) rfl ?_;refine tr_new (rk_alloc rfl) rfl (fun _ _=>?_);refine a_s rfl rfl ?_;refine tr_store (.of rfl) (.of rfl) .here rfl rfl (okc_cons rfl okc_nil) (lenb rfl) norm_ ?_;refine n_r ?_;refine f_a rfl rfl norm0_ ?_;refine tr_val (rk_load1 (.of rfl) (At.lit .here rfl)) rfl ?_;refine f_a rfl rfl norm0_ ?_;refine tr_callV (rk_call (.of rfl) (.cons (.of rfl) .nil) inferInstance normc_) rfl (fun w' hm'=>(part2_c b1 2 w')) ?_;refine tr_val (rk_nilCheck (.of rfl)) rfl ?_;refine tr_val (rk_load1 (.of rfl) (At.lit (.there (.there (.there .here))) rfl)) rfl ?_;refine a_s rfl rfl ?_;refine n_t ?_;refine tr_region ?_;refine m_v rfl rfl ?_;refine m_v rfl rfl ?_;refine tr_val (rk_quo (.of rfl) (.of rfl) (by omega) (by omega) (by omega)) rfl ?_;refine tr_val (rk_mul (.of rfl) (.of rfl) (ini (by omega))) rfl ?_;refine m_v rfl rfl ?_;refine tr_val (rk_rem (.of rfl) (.of rfl) (by omega) (by omega)) rfl ?_;refine tr_val (rk_add (.of rfl) (.of rfl) (ini (by omega))) rfl ?_;refine tr_val (rk_conv (.of rfl)) rfl ?_;refine tr_val (rk_indexAddrA (.of rfl) (.of rfl) (by omega) (by omega) norm1_) rfl ?_;refine tr_store (.of rfl) (.of rfl) (.there .here) rfl rfl (okc_cons rfl okc_nil) (lenb rfl) norm_ ?_;refine tr_nil ?_;refine tr_blk_normal ?_;refine tr_then ?_;refine tr_region ?_;refine tr_val (rk_add (.of rfl) (.of rfl) (ini (by omega))) rfl ?_;refine m_v rfl rfl ?_;refine n_t ?_)
      rw [q2]
      apply tr_next (Φ:=fun k:Nat=>k ≤ 4) 2 (show 2 ≤ 4 from of_decide_eq_true rfl) (by show 4 - 2 < 4 - 1;omega)
      case hs1=>exact .cons rfl (.cons rfl (.cons rfl (.cons rfl (.cons rfl .nil))))
      case ht=>
        show Takes _ [blk b3 (.cells #[.int .u8 (bcd s.la.f),.int .u8 (bcd s.la.s),.int .u8 0,.int .u8 0,.int .u8 0,.int .u8 0,.int .u8 0,.int .u8 0,.int .u8 0,.int .u8 0] 35 (0,0)),blk b2 (.cells #[.int .u8 0,.int .u8 0,.int .u8 0,.int .u8 0,.int .u8 0,.int .u8 0,.int .u8 0,.int .u8 0,.int .u8 0,.int .u8 0] 35 (0,0)),blk b1 (.cells #[.int .i64 s.ra.fr,.bool s.ra.dr,.int .i64 s.la.h,.int .i64 s.la.m,.int .i64 s.la.s,.int .i64 s.la.f,.int .i64 s.us] 86 (0,0))] _
        exact .cons .here (.cons (.there .here) (.cons (.there .here) .nil))
    · show Tr _ [] [(8,.int .i64 2),(7,.agg #[.func (.func 87) #[] #[],.func (.func 88) #[] #[],.func (.func 89) #[] #[],.func (.func 90) #[] #[]]),(3,.pointer (some ⟨b3,0,none⟩)),(2,.pointer (some ⟨b2,0,none⟩)),(1,.pointer (some ⟨b1,0,none⟩))] [blk b3 (.cells #[.int .u8 (bcd s.la.f),.int .u8 (bcd s.la.s),.int .u8 0,.int .u8 0,.int .u8 0,.int .u8 0,.int .u8 0,.int .u8 0,.int .u8 0,.int .u8 0] 35 (0,0)),blk b2 (.cells #[.int .u8 0,.int .u8 0,.int .u8 0,.int .u8 0,.int .u8 0,.int .u8 0,.int .u8 0,.int .u8 0,.int .u8 0,.int .u8 0] 35 (0,0)),blk b1 (.cells #[.int .i64 s.ra.fr,.bool s.ra.dr,.int .i64 s.la.h,.int .i64 s.la.m,.int .i64 s.la.s,.int .i64 s.la.f,.int .i64 s.us] 86 (0,0))] _
      (refine s_r ?_;refine tr_val (rk_lss (.of rfl) (.of rfl)) rfl ?_;refine n_t ?_;refine tr_seq ?_;refine c_d rfl (fun hcd=>?_) (fun _=>by omega);refine s_t ?_;refine tr_seq ?_;refine tr_block ?_;refine s_r ?_;refine m_v rfl rfl ?_;refine tr_val (rk_index (.of rfl) (.of rfl) (by omega) hcd norm_) rfl ?_;refine tr_new (rk_alloc rfl) rfl (fun _ _=>?_);refine a_s rfl rfl ?_;refine tr_store (.of rfl) (.of rfl) .here rfl rfl (okc_cons rfl okc_nil) (lenb rfl) norm_ ?_;refine n_r ?_;refine f_a rfl rfl norm0_ ?_;refine tr_val (rk_load1 (.of rfl) (At.lit .here rfl)) rfl ?_;refine f_a rfl rfl norm0_ ?_;refine tr_callV (rk_call (.of rfl) (.cons (.of rfl) .nil) inferInstance normc_) rfl (fun w' hm'=>(part3_c b1 2 w')) ?_;refine tr_val (rk_nilCheck (.of rfl)) rfl ?_;refine tr_val (rk_load1 (.of rfl) (At.lit (.there (.there (.there .here))) rfl)) rfl ?_;refine a_s rfl rfl ?_;refine n_t ?_;refine tr_region ?_;refine m_v rfl rfl ?_;refine m_v rfl rfl ?_;refine tr_val (rk_quo (.of rfl) (.of rfl) (by omega) (by omega) (by omega)) rfl ?_;refine tr_val (rk_mul (.of rfl) (.of rfl) (ini (by omega))) rfl ?_;refine m_v rfl rfl ?_;refine tr_val (rk_rem (.of rfl) (.of rfl) (by omega) (by omega)) rfl ?_;refine tr_val (rk_add (.of rfl) (.of rfl) (ini (by omega))) rfl ?_;refine tr_val (rk_conv (.of rfl)) rfl ?_;refine tr_val (rk_indexAddrA (.of rfl) (.of rfl) (by omega) (by omega) norm1_) rfl ?_;refine tr_store (.of rfl) (.of rfl) (.there .here) rfl rfl (okc_cons rfl okc_nil) (lenb rfl) norm_ ?_;refine tr_nil ?_;refine tr_blk_normal ?_;refine tr_then ?_;refine tr_region ?_;refine tr_val (rk_add (.of rfl) (.of rfl) (ini (by omega))) rfl ?_;refine m_v rfl rfl ?_;refine n_t ?_)
      rw [q3]
      apply tr_next (Φ:=fun k:Nat=>k ≤ 4) 3 (show 3 ≤ 4 from of_decide_eq_true rfl) (by show 4 - 3 < 4 - 2;omega)
      case hs1=>exact .cons rfl (.cons rfl (.cons rfl (.cons rfl (.cons rfl .nil))))
      case ht=>
        show Takes _ [blk b3 (.cells #[.int .u8 (bcd s.la.f),.int .u8 (bcd s.la.s),.int .u8 (bcd s.la.m),.int .u8 0,.int .u8 0,.int .u8 0,.int .u8 0,.int .u8 0,.int .u8 0,.int .u8 0] 35 (0,0)),blk b2 (.cells #[.int .u8 0,.int .u8 0,.int .u8 0,.int .u8 0,.int .u8 0,.int .u8 0,.int .u8 0,.int .u8 0,.int .u8 0,.int .u8 0] 35 (0,0)),blk b1 (.cells #[.int .i64 s.ra.fr,.bool s.ra.dr,.int .i64 s.la.h,.int .i64 s.la.m,.int .i64 s.la.s,.int .i64 s.la.f,.int .i64 s.us] 86 (0,0))] _
        exact .cons .here (.cons (.there .here) (.cons (.there .here) .nil))
    · show Tr _ [] [(8,.int .i64 3),(7,.agg #[.func (.func 87) #[] #[],.func (.func 88) #[] #[],.func (.func 89) #[] #[],.func (.func 90) #[] #[]]),(3,.pointer (some ⟨b3,0,none⟩)),(2,.pointer (some ⟨b2,0,none⟩)),(1,.pointer (some ⟨b1,0,none⟩))] [blk b3 (.cells #[.int .u8 (bcd s.la.f),.int .u8 (bcd s.la.s),.int .u8 (bcd s.la.m),.int .u8 0,.int .u8 0,.int .u8 0,.int .u8 0,.int .u8 0,.int .u8 0,.int .u8 0] 35 (0,0)),blk b2 (.cells #[.int .u8 0,.int .u8 0,.int .u8 0,.int .u8 0,.int .u8 0,.int .u8 0,.int .u8 0,.int .u8 0,.int .u8 0,.int .u8 0] 35 (0,0)),blk b1 (.cells #[.int .i64 s.ra.fr,.bool s.ra.dr,.int .i64 s.la.h,.int .i64 s.la.m,.int .i64 s.la.s,.int .i64 s.la.f,.int .i64 s.us] 86 (0,0))] _
      (refine s_r ?_;refine tr_val (rk_lss (.of rfl) (.of rfl)) rfl ?_;refine n_t ?_;refine tr_seq ?_;refine c_d rfl (fun hcd=>?_) (fun _=>by omega);refine s_t ?_;refine tr_seq ?_;refine tr_block ?_;refine s_r ?_;refine m_v rfl rfl ?_;refine tr_val (rk_index (.of rfl) (.of rfl) (by omega) hcd norm_) rfl ?_;refine tr_new (rk_alloc rfl) rfl (fun _ _=>?_);refine a_s rfl rfl ?_;refine tr_store (.of rfl) (.of rfl) .here rfl rfl (okc_cons rfl okc_nil) (lenb rfl) norm_ ?_;refine n_r ?_;refine f_a rfl rfl norm0_ ?_;refine tr_val (rk_load1 (.of rfl) (At.lit .here rfl)) rfl ?_;refine f_a rfl rfl norm0_ ?_;refine tr_callV (rk_call (.of rfl) (.cons (.of rfl) .nil) inferInstance normc_) rfl (fun w' hm'=>(part4_c b1 2 w')) ?_;refine tr_val (rk_nilCheck (.of rfl)) rfl ?_;refine tr_val (rk_load1 (.of rfl) (At.lit (.there (.there (.there .here))) rfl)) rfl ?_;refine a_s rfl rfl ?_;refine n_t ?_;refine tr_region ?_;refine m_v rfl rfl ?_;refine m_v rfl rfl ?_;refine tr_val (rk_quo (.of rfl) (.of rfl) (by omega) (by omega) (by omega)) rfl ?_;refine tr_val (rk_mul (.of rfl) (.of rfl) (ini (by omega))) rfl ?_;refine m_v rfl rfl ?_;refine tr_val (rk_rem (.of rfl) (.of rfl) (by omega) (by omega)) rfl ?_;refine tr_val (rk_add (.of rfl) (.of rfl) (ini (by omega))) rfl ?_;refine tr_val (rk_conv (.of rfl)) rfl ?_;refine tr_val (rk_indexAddrA (.of rfl) (.of rfl) (by omega) (by omega) norm1_) rfl ?_;refine tr_store (.of rfl) (.of rfl) (.there .here) rfl rfl (okc_cons rfl okc_nil) (lenb rfl) norm_ ?_;refine tr_nil ?_;refine tr_blk_normal ?_;refine tr_then ?_;refine tr_region ?_;refine tr_val (rk_add (.of rfl) (.of rfl) (ini (by omega))) rfl ?_;refine m_v rfl rfl ?_;refine n_t ?_)
      rw [q4]
      apply tr_next (Φ:=fun k:Nat=>k ≤ 4) 4 (show 4 ≤ 4 from of_decide_eq_true rfl) (by show 4 - 4 < 4 - 3;omega)
      case hs1=>exact .cons rfl (.cons rfl (.cons rfl (.cons rfl (.cons rfl .nil))))
      case ht=>
        show Takes _ [blk b3 (.cells #[.int .u8 (bcd s.la.f),.int .u8 (bcd s.la.s),.int .u8 (bcd s.la.m),.int .u8 (bcd s.la.h),.int .u8 0,.int .u8 0,.int .u8 0,.int .u8 0,.int .u8 0,.int .u8 0] 35 (0,0)),blk b2 (.cells #[.int .u8 0,.int .u8 0,.int .u8 0,.int .u8 0,.int .u8 0,.int .u8 0,.int .u8 0,.int .u8 0,.int .u8 0,.int .u8 0] 35 (0,0)),blk b1 (.cells #[.int .i64 s.ra.fr,.bool s.ra.dr,.int .i64 s.la.h,.int .i64 s.la.m,.int .i64 s.la.s,.int .i64 s.la.f,.int .i64 s.us] 86 (0,0))] _
        exact .cons .here (.cons (.there .here) (.cons (.there .here) .nil))
  · obtain rfl:k = 4:=by omega
    show Tr _ [] [(8,.int .i64 4),(7,.agg partsL.toArray),(3,.pointer (some ⟨b3,0,none⟩)),(2,.pointer (some ⟨b2,0,none⟩)),(1,.pointer (some ⟨b1,0,none⟩))] [blk b3 (.cells #[.int .u8 (bcd s.la.f),.int .u8 (bcd s.la.s),.int .u8 (bcd s.la.m),.int .u8 (bcd s.la.h),.int .u8 0,.int .u8 0,.int .u8 0,.int .u8 0,.int .u8 0,.int .u8 0] 35 (0,0)),blk b2 (.cells #[.int .u8 0,.int .u8 0,.int .u8 0,.int .u8 0,.int .u8 0,.int .u8 0,.int .u8 0,.int .u8 0,.int .u8 0,.int .u8 0] 35 (0,0)),blk b1 (.cells #[.int .i64 s.ra.fr,.bool s.ra.dr,.int .i64 s.la.h,.int .i64 s.la.m,.int .i64 s.la.s,.int .i64 s.la.f,.int .i64 s.us] 86 (0,0))] _
    have e5:IntKind.u8.wrap (s.us / 2 ^ (8:Int).toNat) = s.us / 256:=u8w (by show 0 ≤ s.us / 256 ∧ s.us / 256 ≤ 255;omega)
    have e5':IntKind.u8.wrap (s.us / 2 ^ 8) = s.us / 256:=u8w (by show 0 ≤ s.us / 256 ∧ s.us / 256 ≤ 255;omega)
    have e6:IntKind.u8.wrap s.us = s.us % 256:=u8m (by omega)
    have e4:IntKind.u8.wrap s.ra.fr = s.ra.fr:=u8w (by omega)
    by_cases hd:s.ra.dr = true
    · have hr:s.ra.fr = 30:=h.la.ra.dr hd
      have hW:wordF s = [bcd s.la.f,bcd s.la.s,bcd s.la.m,bcd s.la.h,158,s.us / 256,s.us % 256,parF [bcd s.la.f,bcd s.la.s,bcd s.la.m,bcd s.la.h,158,s.us / 256,s.us % 256],63,253]:=by unfold wordF w7 rtB;rw [hd,hr];rfl
      rw [hd]
      (refine s_r ?_;refine tr_val (rk_lss (.of rfl) (.of rfl)) rfl ?_;refine n_t ?_;refine tr_seq ?_;refine c_d rfl (fun _=>by omega) (fun hcd=>?_);refine x_t ?_;refine tr_then_exit ?_;refine tr_blk_exit ?_;refine tr_then ?_;refine s_r ?_;refine f_a rfl rfl norm0_ ?_;refine f_a rfl rfl norm0_ ?_;refine tr_val (rk_load1 (.of rfl) (At.lit (.there (.there .here)) rfl)) rfl ?_;refine tr_val (rk_conv (.of rfl)) rfl ?_;refine tr_val (rk_indexAddrA (.of rfl) (.of rfl) (by omega) (by omega) norm1_) rfl ?_;refine tr_store (.of rfl) (.of rfl) .here rfl rfl (okc_cons rfl okc_nil) (lenb rfl) norm_ ?_;refine n_t ?_;refine tr_seq ?_;refine s_r ?_;refine f_a rfl rfl norm0_ ?_;refine f_a rfl rfl norm0_ ?_;refine tr_val (rk_load1 (.of rfl) (At.lit (.there (.there .here)) rfl)) rfl ?_;refine n_t ?_;refine tr_cond_t (.of rfl) ?_;refine tr_region ?_;refine tr_val (rk_indexAddrA (.of rfl) (.of rfl) (by omega) (by omega) norm1_) rfl ?_;refine tr_val (rk_load1 (.of rfl) (At.lit .here rfl)) rfl ?_)
      rw [e4,hr]
      refine tr_val (rk_addw (.of rfl) (.of rfl)) rfl ?_
      (refine tr_val (rk_indexAddrA (.of rfl) (.of rfl) (by omega) (by omega) norm1_) rfl ?_;refine tr_store (.of rfl) (.of rfl) .here rfl rfl (okc_cons rfl okc_nil) (lenb rfl) norm_ ?_;refine n_r ?_;refine f_a rfl rfl norm0_ ?_;refine tr_val (rk_load1 (.of rfl) (At.lit (.there (.there .here)) rfl)) rfl ?_;refine tr_val (rk_shrC (.of rfl) (.of rfl) rfl) rfl ?_;refine tr_val (rk_conv (.of rfl)) rfl ?_;refine f_a rfl rfl norm0_ ?_;refine tr_val (rk_load1 (.of rfl) (At.lit (.there (.there .here)) rfl)) rfl ?_;refine tr_val (rk_conv (.of rfl)) rfl ?_;refine tr_val (rk_indexAddrA (.of rfl) (.of rfl) (by omega) (by omega) norm1_) rfl ?_;refine tr_store (.of rfl) (.of rfl) .here rfl rfl (okc_cons rfl okc_nil) (lenb rfl) norm_ ?_;refine tr_val (rk_indexAddrA (.of rfl) (.of rfl) (by omega) (by omega) norm1_) rfl ?_;refine tr_store (.of rfl) (.of rfl) .here rfl rfl (okc_cons rfl okc_nil) (lenb rfl) norm_ ?_;refine n_r ?_;refine tr_val (rk_sliceA_h (.of rfl) (.of rfl) (by omega) (by omega) norm1_) rfl ?_)
      rw [e5',e6,show IntKind.u8.wrap (30 + 128) = 158 from rfl]
      with_reducible apply tr_callV
      case hr=>exact rk_call (.of rfl) (.cons (.of rfl) .nil) inferInstance normc_
      case hd=>rfl
      case hc=>
        intro w' hm'
        exact parity_c (l:=[bcd s.la.f,bcd s.la.s,bcd s.la.m,bcd s.la.h,158,s.us / 256,s.us % 256]) (rdBys hm' (by exact .here) rfl rfl (by decide) (by decide))
      (refine tr_val (rk_indexAddrA (.of rfl) (.of rfl) (by omega) (by omega) norm1_) rfl ?_;refine tr_store (.of rfl) (.of rfl) .here rfl rfl (okc_cons rfl okc_nil) (lenb rfl) norm_ ?_;refine n_r ?_;refine tr_val (rk_indexAddrA (.of rfl) (.of rfl) (by omega) (by omega) norm1_) rfl ?_;refine tr_store (.of rfl) (.of rfl) .here rfl rfl (okc_cons rfl okc_nil) (lenb rfl) norm_ ?_;refine tr_val (rk_indexAddrA (.of rfl) (.of rfl) (by omega) (by omega) norm1_) rfl ?_;refine tr_store (.of rfl) (.of rfl) .here rfl rfl (okc_cons rfl okc_nil) (lenb rfl) norm_ ?_;refine n_r ?_;refine tr_val (rk_loadB (.of rfl) .here norm_ (by rfl)) rfl ?_;refine tr_store (.of rfl) (.of rfl) (.there .here) rfl rfl (okc_cons rfl (okc_cons rfl (okc_cons rfl (okc_cons rfl (okc_cons rfl (okc_cons rfl (okc_cons rfl (okc_cons rfl (okc_cons rfl (okc_cons rfl okc_nil)))))))))) (lenb rfl) norm_ ?_;refine n_t ?_;refine tr_ret ?_;refine tr_retE rfl (ends1cB rfl inferInstance rfl .here norm_ (by rfl)) ?_)
      rw [hW];rfl
    · have hd:s.ra.dr = false:=by simpa using hd
      have hW:wordF s = [bcd s.la.f,bcd s.la.s,bcd s.la.m,bcd s.la.h,s.ra.fr,s.us / 256,s.us % 256,parF [bcd s.la.f,bcd s.la.s,bcd s.la.m,bcd s.la.h,s.ra.fr,s.us / 256,s.us % 256],63,253]:=by unfold wordF w7 rtB;rw [hd,if_neg (by decide),Int.add_zero];rfl
      rw [hd]
      (refine s_r ?_;refine tr_val (rk_lss (.of rfl) (.of rfl)) rfl ?_;refine n_t ?_;refine tr_seq ?_;refine c_d rfl (fun _=>by omega) (fun hcd=>?_);refine x_t ?_;refine tr_then_exit ?_;refine tr_blk_exit ?_;refine tr_then ?_;refine s_r ?_;refine f_a rfl rfl norm0_ ?_;refine f_a rfl rfl norm0_ ?_;refine tr_val (rk_load1 (.of rfl) (At.lit (.there (.there .here)) rfl)) rfl ?_;refine tr_val (rk_conv (.of rfl)) rfl ?_;refine tr_val (rk_indexAddrA (.of rfl) (.of rfl) (by omega) (by omega) norm1_) rfl ?_;refine tr_store (.of rfl) (.of rfl) .here rfl rfl (okc_cons rfl okc_nil) (lenb rfl) norm_ ?_;refine n_t ?_;refine tr_seq ?_;refine s_r ?_;refine f_a rfl rfl norm0_ ?_;refine f_a rfl rfl norm0_ ?_;refine tr_val (rk_load1 (.of rfl) (At.lit (.there (.there .here)) rfl)) rfl ?_;refine n_t ?_;refine tr_cond_f (.of rfl) ?_;refine s_t ?_;refine s_r ?_;refine f_a rfl rfl norm0_ ?_;refine tr_val (rk_load1 (.of rfl) (At.lit (.there (.there .here)) rfl)) rfl ?_;refine tr_val (rk_shrC (.of rfl) (.of rfl) rfl) rfl ?_;refine tr_val (rk_conv (.of rfl)) rfl ?_;refine f_a rfl rfl norm0_ ?_;refine tr_val (rk_load1 (.of rfl) (At.lit (.there (.there .here)) rfl)) rfl ?_;refine tr_val (rk_conv (.of rfl)) rfl ?_;refine tr_val (rk_indexAddrA (.of rfl) (.of rfl) (by omega) (by omega) norm1_) rfl ?_;refine tr_store (.of rfl) (.of rfl) .here rfl rfl (okc_cons rfl okc_nil) (lenb rfl) norm_ ?_;refine tr_val (rk_indexAddrA (.of rfl) (.of rfl) (by omega) (by omega) norm1_) rfl ?_;refine tr_store (.of rfl) (.of rfl) .here rfl rfl (okc_cons rfl okc_nil) (lenb rfl) norm_ ?_;refine n_r ?_;refine tr_val (rk_sliceA_h (.of rfl) (.of rfl) (by omega) (by omega) norm1_) rfl ?_)
      rw [e5',e6,e4]
      with_reducible apply tr_callV
      case hr=>exact rk_call (.of rfl) (.cons (.of rfl) .nil) inferInstance normc_
      case hd=>rfl
      case hc=>
        intro w' hm'
        exact parity_c (l:=[bcd s.la.f,bcd s.la.s,bcd s.la.m,bcd s.la.h,s.ra.fr,s.us / 256,s.us % 256]) (rdBys hm' (by exact .here) rfl rfl (by decide) (by decide))
      (refine tr_val (rk_indexAddrA (.of rfl) (.of rfl) (by omega) (by omega) norm1_) rfl ?_;refine tr_store (.of rfl) (.of rfl) .here rfl rfl (okc_cons rfl okc_nil) (lenb rfl) norm_ ?_;refine n_r ?_;refine tr_val (rk_indexAddrA (.of rfl) (.of rfl) (by omega) (by omega) norm1_) rfl ?_;refine tr_store (.of rfl) (.of rfl) .here rfl rfl (okc_cons rfl okc_nil) (lenb rfl) norm_ ?_;refine tr_val (rk_indexAddrA (.of rfl) (.of rfl) (by omega) (by omega) norm1_) rfl ?_;refine tr_store (.of rfl) (.of rfl) .here rfl rfl (okc_cons rfl okc_nil) (lenb rfl) norm_ ?_;refine n_r ?_;refine tr_val (rk_loadB (.of rfl) .here norm_ (by rfl)) rfl ?_;refine tr_store (.of rfl) (.of rfl) (.there .here) rfl rfl (okc_cons rfl (okc_cons rfl (okc_cons rfl (okc_cons rfl (okc_cons rfl (okc_cons rfl (okc_cons rfl (okc_cons rfl (okc_cons rfl (okc_cons rfl okc_nil)))))))))) (lenb rfl) norm_ ?_;refine n_t ?_;refine tr_ret ?_;refine tr_retE rfl (ends1cB rfl inferInstance rfl .here norm_ (by rfl)) ?_)
      rw [hW];rfl
end Go.Proofs.A1
namespace Go.Proofs.A1
open Go Go.SL
def lineV (l:List Cp) (n r:Int) (j:Nat):List Value:=(List.range 32).map fun k=>Value.int .u8 (shB (l.take j) n r k)
theorem lineV_len (l:List Cp) (n r:Int) (j:Nat):(lineV l n r j).length = 32:=by unfold lineV;rw [List.length_map,List.length_range]
theorem shB_next {l:List Cp} {j:Nat} (hj:j < l.length) (n r:Int) (k:Nat):shB (l.take (j + 1)) n r k = if cov (nthC l j) n r k then bt (nthC l j).tx ((k:Int) - (nthC l j).co).toNat else shB (l.take j) n r k:=by
  rw [List.take_succ_eq_append_getElem hj,shB_snoc,← nthC_get hj];rfl
theorem line_skip {l:List Cp} {j:Nat} (hj:j < l.length) {n r:Int} (hc:onC (nthC l j) n r = false):lineV l n r (j + 1) = lineV l n r j:=by
  unfold lineV
  refine List.map_congr_left fun k _=>?_
  rw [shB_next hj,cov,hc];rfl
theorem bytesV_get {s:ByteArray} {i:Nat} (h:i < s.size):(bytesV s)[i]? = some (.int .u8 (bt s i)):=by
  unfold bytesV bt
  have h2:i < s.data.toList.length:=h
  rw [List.getElem?_map,List.getElem?_eq_getElem h2];rfl
theorem line_copy {l:List Cp} (h:CapOk l) {j:Nat} (hj:j < l.length) {n r:Int} (hc:onC (nthC l j) n r = true):setCells (lineV l n r j) (nthC l j).co.toNat (bytesV (nthC l j).tx) = lineV l n r (j + 1):=by
  have ho:=h.ok j hj
  have h1:=ho.co;have h2:=ho.fit
  apply List.ext_getElem?
  intro k
  rw [setCells_get _ _ _ _ (by rw [bytesV_length,lineV_len];omega),bytesV_length]
  by_cases hk:k < 32
  · have e:(lineV l n r (j + 1))[k]? = some (.int .u8 (shB (l.take (j + 1)) n r k)):=by unfold lineV;simp [hk]
    have e0:(lineV l n r j)[k]? = some (.int .u8 (shB (l.take j) n r k)):=by unfold lineV;simp [hk]
    rw [e,e0,shB_next hj,cov,hc]
    by_cases hin:(nthC l j).co.toNat ≤ k ∧ k < (nthC l j).co.toNat + (nthC l j).tx.size
    · rw [if_pos hin,bytesV_get (by omega)]
      have:(decide ((nthC l j).co ≤ (k:Int)) && decide ((k:Int) < (nthC l j).co + ((nthC l j).tx.size:Int))) = true:=by simp;omega
      rw [this]
      simp only [Bool.and_self,if_true]
      rw [show ((k:Int) - (nthC l j).co).toNat = k - (nthC l j).co.toNat by omega]
    · rw [if_neg hin]
      have:(decide ((nthC l j).co ≤ (k:Int)) && decide ((k:Int) < (nthC l j).co + ((nthC l j).tx.size:Int))) = false:=by
        rw [Bool.and_eq_false_iff,decide_eq_false_iff_not,decide_eq_false_iff_not];omega
      rw [this];rfl
  · rw [if_neg (by omega)]
    rw [List.getElem?_eq_none (by rw [lineV_len];omega),List.getElem?_eq_none (by rw [lineV_len];omega)]
theorem line_end (l:List Cp) (n r:Int):lineV l n r l.length = (rowB l n r).map (Value.int .u8):=by unfold lineV rowB;rw [List.take_length,List.map_map];rfl
end Go.Proofs.A1
namespace Go.Proofs.A1
open Go Go.SL
theorem strOf_strB (ns:List Int):strOf ns = strB ns:=by
  unfold strOf strB
  have h:∀ (ns:List Int) (a:ByteArray),ns.foldl (fun r n=>r.push (UInt8.ofNat n.toNat)) a = ⟨a.data++(ns.map fun n=>UInt8.ofNat n.toNat).toArray⟩:=by
    intro ns
    induction ns with
    | nil=>intro a;simp
    | cons x l ih =>
      intro a
      rw [List.foldl_cons,ih]
      apply ByteArray.ext
      show (a.push _).data++_ = _
      simp [ByteArray.push]
  rw [h]
  apply ByteArray.ext
  simp
end Go.Proofs.A1
namespace Go.Proofs.A1
open Go Go.SL
def badB (b:Int):Bool:=decide (b < 32) || decide (126 < b)
def badI (s:ByteArray):Int:=((List.range s.size).find? fun i=>badB (bt s i)).elim (-1) fun i=>(i:Int)
theorem badI_at {s:ByteArray} {k:Nat} (h:∀ i,i < k → badB (bt s i) = false) (hk:k < s.size) (hp:badB (bt s k) = true):badI s = k:=by
  unfold badI
  have:(List.range s.size).find? (fun i=>badB (bt s i)) = some k:=by
    rw [List.find?_range_eq_some]
    exact ⟨by simp [hp],by simpa using hk,fun i hi=>by simpa using h i hi⟩
  rw [this];rfl
theorem badI_no {s:ByteArray} (h:∀ i,i < s.size → badB (bt s i) = false):badI s = -1:=by
  unfold badI
  have:(List.range s.size).find? (fun i=>badB (bt s i)) = none:=by
    rw [List.find?_eq_none]
    intro i hi
    simp [h i (List.mem_range.1 hi)]
  rw [this];rfl
theorem badI_tx (s:ByteArray):decide (0 ≤ badI s) = badTx s:=by
  unfold badI badTx
  cases h:(List.range s.size).find? fun i=>badB (bt s i) with
  | none =>
    have:((List.range s.size).any fun i=>decide (bt s i < 32) || decide (126 < bt s i)) = false:=by
      rw [List.any_eq_false]
      intro x hx
      have:=List.find?_eq_none.1 h x hx
      simpa [badB] using this
    rw [this];rfl
  | some i =>
    have h1:=List.mem_of_find?_eq_some h
    have h2:=List.find?_some h
    have:((List.range s.size).any fun i=>decide (bt s i < 32) || decide (126 < bt s i)) = true:=by
      rw [List.any_eq_true]
      exact ⟨i,h1,h2⟩
    rw [this];simp
end Go.Proofs.A1
namespace Go.Proofs.A1
open Go Go.SL
end Go.Proofs.A1
namespace Go.Proofs.A1
open Go Go.SL
def sntB (b:Int):Int:=if oddB b then b else orF b 128
def hiB (s:ByteArray):Bool:=(List.range s.size).any fun i=>decide (128 ≤ bt s i)
def sntE (s:ByteArray):Int:=if 4000 < s.size then 26 else if hiB s then 1 else 0
def sntK (s:ByteArray) (k:Nat):List Int:=(List.range k).map fun i=>sntB (bt s i)
def sntL (s:ByteArray):List Int:=if sntE s = 0 then sntK s s.size else []
theorem sntK_succ (s:ByteArray) (k:Nat):sntK s (k + 1) = sntK s k++[sntB (bt s k)]:=by simp [sntK,List.range_succ]
theorem sntK_len (s:ByteArray) (k:Nat):(sntK s k).length = k:=by simp [sntK]
theorem hiB_at {s:ByteArray} {k:Nat} (hk:k < s.size) (h:128 ≤ bt s k):hiB s = true:=by
  unfold hiB;rw [List.any_eq_true];exact ⟨k,List.mem_range.2 hk,by simpa using h⟩
theorem hiB_no {s:ByteArray} (h:∀ k,k < s.size → ¬ 128 ≤ bt s k):hiB s = false:=by
  unfold hiB;rw [List.any_eq_false];intro k hk;simpa using h k (List.mem_range.1 hk)
theorem hiB_false {s:ByteArray} (h:hiB s = false):∀ k,k < s.size → bt s k < 128:=fun k hk=>by
  rcases Int.lt_or_le (bt s k) 128 with h1 | h1
  · exact h1
  · rw [hiB_at hk h1] at h;cases h
def hrdE (n:Nat):Int:=if 4000 < n then 5 else 0
def hrdB (b:Int):Int:=if oddB b then anotF b 128 else 63
def hrdT (l:List Int):List Int:=l.map hrdB
def hrdW (l:List Int) (k:Nat):List Nat:=(List.range k).filter fun i=>!oddB (l.getD i 0)
theorem hrdW_succ (l:List Int) {k:Nat} (h:k < l.length):hrdW l (k + 1) = hrdW l k++(if oddB l[k] then [] else [k]):=by
  unfold hrdW
  rw [List.range_succ,List.filter_append]
  congr 1
  have:l.getD k 0 = l[k]:=by rw [List.getD_eq_getElem?_getD,List.getElem?_eq_getElem h];rfl
  rw [List.filter_cons,this]
  cases oddB l[k] <;> simp
theorem hrdW_len (l:List Int) (k:Nat):(hrdW l k).length ≤ k:=by
  unfold hrdW
  have:=List.length_filter_le (fun i=>!oddB (l.getD i 0)) (List.range k)
  rwa [List.length_range] at this
def hrdV (l:List Int) (k:Nat):List Value:=((l.take k).map hrdB).map (Value.int .u8)++List.replicate (l.length - k) (.int .u8 0)
theorem hrdV_len (l:List Int) {k:Nat} (h:k ≤ l.length):(hrdV l k).length = l.length:=by simp [hrdV];omega
theorem hrdV_end (l:List Int):hrdV l l.length = (hrdT l).map (Value.int .u8):=by simp [hrdV,hrdT]
theorem hrdV_set (l:List Int) {k:Nat} (h:k < l.length) (v:Int):(hrdV l k).set k (.int .u8 v) = ((l.take k).map hrdB).map (Value.int .u8)++.int .u8 v :: List.replicate (l.length - (k + 1)) (.int .u8 0):=by
  unfold hrdV
  rw [List.set_append_right _ _ (by simp;omega),show l.length - k = (l.length - (k + 1)) + 1 by omega,List.replicate_succ]
  simp [show min k l.length = k by omega]
theorem hrdV_set2 (l:List Int) {k:Nat} (h:k < l.length) (v u:Int):((hrdV l k).set k (.int .u8 v)).set k (.int .u8 u) = (hrdV l k).set k (.int .u8 u):=by rw [List.set_set]
theorem hrdV_succ (l:List Int) {k:Nat} (h:k < l.length):(hrdV l k).set k (.int .u8 (hrdB l[k])) = hrdV l (k + 1):=by
  rw [hrdV_set l h]
  unfold hrdV
  rw [List.take_succ_eq_append_getElem h,List.map_append,List.map_append,List.append_assoc]
  rfl
theorem hrd_sntN:∀ k:Nat,k < 128 → hrdB (sntB (k:Int)) = (k:Int) ∧ oddB (sntB (k:Int)) = true ∧ 0 ≤ sntB (k:Int) ∧ sntB (k:Int) ≤ 255:=by decide +kernel
theorem hrd_snt {b:Int} (h:0 ≤ b ∧ b < 128):hrdB (sntB b) = b ∧ oddB (sntB b) = true ∧ 0 ≤ sntB b ∧ sntB b ≤ 255:=by
  obtain ⟨k,rfl⟩:∃ k:Nat,b = k:=⟨b.toNat,by omega⟩
  exact hrd_sntN k (by omega)
end Go.Proofs.A1
namespace Go.Proofs.A1
open Go Go.SL
end Go.Proofs.A1
namespace Go.Proofs.A1
end Go.Proofs.A1
namespace Go.Proofs.A1
open Go Go.SL
theorem setCells_full {cs vs:List Value} (h:vs.length = cs.length):setCells cs 0 vs = vs:=by
  apply List.ext_getElem?
  intro k
  rw [setCells_get _ _ _ _ (by omega)]
  by_cases hk:k < vs.length
  · rw [if_pos (by omega),Nat.sub_zero]
  · rw [if_neg (by omega),List.getElem?_eq_none (by omega),List.getElem?_eq_none (by omega)]
theorem cellsAt_app {cs cur:List Value} {o n:Nat} (h:o + n ≤ cs.length):cellsAt (cs++cur) o n = cellsAt cs o n:=by
  rw [cellsAt_eq,cellsAt_eq,List.drop_append_of_le_length (by omega),List.take_append_of_le_length (by rw [List.length_drop];omega)]
def wrtF (s:Stm):List Int:=if stmE s = 0 then wordF s else List.replicate 10 0
theorem written_c (s:Stm) (w:World) (hG:GlobR w):GivesV Tryd.prog 22 [.agg s.cells.toArray] w (.tuple #[.agg (wcells (wrtF s)).toArray,.int .i64 (stmE s)]):=by
  refine givesV_of_tr Tryd.func22 rfl rfl ?_
  unfold wrtF
  by_cases h:stmE s = 0
  · have hs:=stmE_zero.1 h
    rw [if_pos h]
    unfold Stm.cells
    (refine s_r ?_;refine tr_new (rk_box (.of rfl) rfl) rfl (fun _ _=>?_);refine tr_new (rk_alloc rfl) rfl (fun _ _=>?_);refine a_s rfl rfl ?_;refine n_t ?_;refine tr_seq ?_;refine s_r ?_;refine tr_val (rk_loadB (.of rfl) (.there .here) norm_ (by rfl)) rfl ?_;refine tr_callV (rk_call (.of rfl) (.cons (.of rfl) .nil) inferInstance normc_) rfl (fun w' hm'=>(chkStamp_c s w' (GlobR.keeps hG (Mem.keeps hm')))) ?_;refine a_s rfl rfl ?_;refine n_r ?_;refine m_v rfl rfl ?_;refine tr_val (rk_neq (.of rfl) (.of rfl)) rfl ?_;refine n_t ?_;refine c_d rfl (fun _=>by omega) (fun hcd=>?_);refine s_t ?_;refine s_r ?_;refine tr_val (rk_loadB (.of rfl) (.there .here) norm_ (by rfl)) rfl ?_;refine tr_callV (rk_call (.of rfl) (.cons (.of rfl) .nil) inferInstance normc_) rfl (fun w' hm'=>(word_c s hs w')) ?_;refine tr_store (.of rfl) (.of rfl) .here rfl rfl (okc_cons rfl (okc_cons rfl (okc_cons rfl (okc_cons rfl (okc_cons rfl (okc_cons rfl (okc_cons rfl (okc_cons rfl (okc_cons rfl (okc_cons rfl okc_nil)))))))))) (lenb rfl) norm_ ?_;refine a_s rfl rfl ?_;refine n_t ?_;refine tr_ret ?_;refine tr_retE rfl (endsCT rfl inferInstance rfl .here norm_ (by rfl) (by rfl)) ?_)
    rw [setCells_full (by rfl),h];rfl
  · rw [if_neg h]
    unfold Stm.cells
    (refine s_r ?_;refine tr_new (rk_box (.of rfl) rfl) rfl (fun _ _=>?_);refine tr_new (rk_alloc rfl) rfl (fun _ _=>?_);refine a_s rfl rfl ?_;refine n_t ?_;refine tr_seq ?_;refine s_r ?_;refine tr_val (rk_loadB (.of rfl) (.there .here) norm_ (by rfl)) rfl ?_;refine tr_callV (rk_call (.of rfl) (.cons (.of rfl) .nil) inferInstance normc_) rfl (fun w' hm'=>(chkStamp_c s w' (GlobR.keeps hG (Mem.keeps hm')))) ?_;refine a_s rfl rfl ?_;refine n_r ?_;refine m_v rfl rfl ?_;refine tr_val (rk_neq (.of rfl) (.of rfl)) rfl ?_;refine n_t ?_;refine c_d rfl (fun hcd=>?_) (fun _=>by omega);refine s_r ?_;refine tr_val (rk_buildL .nil norm_) rfl ?_;refine m_v rfl rfl ?_;refine tr_store (.of rfl) (.of rfl) .here rfl rfl (okc_cons rfl (okc_cons rfl (okc_cons rfl (okc_cons rfl (okc_cons rfl (okc_cons rfl (okc_cons rfl (okc_cons rfl (okc_cons rfl (okc_cons rfl okc_nil)))))))))) (lenb rfl) norm_ ?_;refine a_s rfl rfl ?_;refine n_t ?_;refine r_t ?_;refine tr_retE rfl (endsCT rfl inferInstance rfl .here norm_ (by rfl) (by rfl)) ?_)
    rfl
theorem whenF_if {p:Prop} [Decidable p] {e:Int}:whenF (decide p) e = if p then e else 0:=by
  by_cases h:p <;> simp [whenF,h]
theorem chkBytes_c (a:Option Addr) (n cp:Nat) (w:World):GivesV Tryd.prog 34 [.slice a n cp] w (.int .i64 (hrdE n)):=by
  have e:whenF (decide ((4000:Int) < (n:Nat))) 5 = hrdE n:=by
    rw [whenF_if,hrdE]
    by_cases h:4000 < n
    · rw [if_pos (by omega),if_pos h]
    · rw [if_neg (by omega),if_neg h]
  refine givesV_of_tr Tryd.func34 rfl rfl ?_
  (refine s_r ?_;refine a_s rfl rfl ?_;refine n_r ?_;refine m_v rfl rfl ?_;refine tr_val (rk_len_slice (.of rfl)) rfl ?_;refine tr_val (rk_gtr (.of rfl) (.of rfl)) rfl ?_;refine tr_callV (rk_call (.of rfl) (.cons (.of rfl) (.cons (.of rfl) .nil)) inferInstance normc_) rfl (fun w' hm'=>(when_c _ 5 w')) ?_;refine a_s rfl rfl ?_;refine n_t ?_;refine tr_ret ?_;refine tr_retE rfl (ends1 rfl rfl) ?_)
  rw [e]
end Go.Proofs.A1
namespace Go.Proofs.A1
open Go Go.SL
end Go.Proofs.A1
namespace Go.Proofs.A1
open Go Go.SL
end Go.Proofs.A1
