/- Parts of the proof: EU2 T6p T9p T1p T2p T8p TAp V1q TBp T3p T4p T5p T7p GkCopyS U9p EU3 EU4 EU5 EU6 EU7. -/
import Derived.Test.YtpamkookgkffgaaGreatDoorTM05
import Derived.Test.YtpamkookgkffgaaGreatDoorTM07
import Derived.Laws.RangeAny
import Derived.Laws.RangeString
import Derived.Test.YtpamkookgkffgaaGreatDoorTM06
import Derived.Test.YtpamkookgkffgaaGreatDoorTM01
import Derived.Lib.Join
import Derived.Lib.SplitLaws
import Derived.Lib.ItoaLen
set_option linter.unusedSectionVars false
set_option linter.unusedVariables false
set_option linter.unusedSimpArgs false
namespace Go.Proofs.A1
open Go Go.SL
def ints (es:List Int):List (List Value):=es.map fun e=>[.int .i64 e]
theorem ints_length (es:List Int):(ints es).length = es.length:=by simp [ints]
theorem ints_get {es:List Int} {k:Nat} (h:k < es.length):(ints es)[k]? = some [.int .i64 es[k]]:=by simp [ints,h]
theorem ints_ne {es:List Int} {k:Nat} (h:k < es.length):ints es ≠ []:=by intro e;have:=congrArg List.length e;rw [ints_length] at this;simp at this;subst this;simp at h
inductive IntL:List Value → List Int → Prop
  | nil:IntL [] []
  | cons {e:Int} {vs:List Value} {es:List Int} (h:IntL vs es):IntL (.int .i64 e :: vs) (e :: es)
theorem IntL.eq {vs:List Value} {es:List Int} (h:IntL vs es):(vs.map fun v=>[v]) = ints es:=by
  induction h with
  | nil=>rfl
  | cons h ih=>simp only [List.map_cons,ints,ih]
theorem when_q (h:Bool) (e:Int) (w:World):GivesV Tryz.prog 29 [.bool h,.int .i64 e] w (.int .i64 (whenF h e)):=by
  refine givesV_of_tr Tryz.func29 rfl rfl ?_
  (refine s_r ?_;refine a_s rfl rfl ?_;refine n_t ?_;refine tr_seq ?_;refine s_r ?_;refine m_v rfl rfl ?_;refine n_t ?_;refine c_b rfl (fun hcd=>?_) (fun hcd=>?_);refine s_r ?_;refine m_v rfl rfl ?_;refine a_s rfl rfl ?_;refine n_t ?_;refine r_t ?_;refine tr_retE rfl (ends1 rfl rfl) ?_;rotate_left;refine s_t ?_;refine s_r ?_;refine a_s rfl rfl ?_;refine n_t ?_;refine tr_ret ?_;refine tr_retE rfl (ends1 rfl rfl) ?_;rotate_right)
  all_goals simp [whenF, *]
theorem range_q (n l m:Int) (w:World):GivesV Tryz.prog 28 [.int .i64 n,.int .i64 l,.int .i64 m] w (.int .i64 (withinF n l m)):=by
  refine givesV_of_tr Tryz.func28 rfl rfl ?_
  (refine s_r ?_;refine a_s rfl rfl ?_;refine n_r ?_;refine m_v rfl rfl ?_;refine m_v rfl rfl ?_;refine tr_val (rk_lss (.of rfl) (.of rfl)) rfl ?_;refine m_v rfl rfl ?_;refine v_g rfl rfl rfl rfl ?_;refine v_g rfl rfl rfl rfl ?_;refine tr_vG1 rfl rfl inferInstance (fun hg hgp=>(rk_gtr (.ofg hg rfl) (.ofg hg rfl))) rfl ?_;refine tr_val (rk_pick_or (.of rfl) rfl) rfl ?_;refine tr_callV (rk_call (.of rfl) (.cons (.of rfl) (.cons (.of rfl) .nil)) inferInstance normc_) rfl (fun w' hm'=>(when_q _ 3 w')) ?_;refine a_s rfl rfl ?_;refine n_t ?_;refine tr_ret ?_;refine tr_retE rfl (ends1 rfl rfl) ?_)
  rfl
theorem first_q (v:Value) (es:List Int) (w:World) (h:Rd w v 1 (ints es)):GivesV Tryz.prog 27 [v] w (.int .i64 (firstF es)):=by
  obtain ⟨a,cap,b,o,rfl,hcap,hmax,ha,hc⟩:=h
  rw [ints_length] at *
  unfold maxLen at hmax
  refine givesV_of_tr Tryz.func27 rfl rfl ?_
  (refine s_r ?_;refine a_s rfl rfl ?_;refine n_t ?_;refine tr_seq ?_;refine s_r ?_;refine a_s rfl rfl ?_;refine n_t ?_;refine tr_block ?_)
  refine tr_for (fun k:Nat=>k ≤ es.length ∧ firstF es = firstF (es.drop k)) (fun k=>[(3,.int .i64 k),(0,.slice a es.length cap)]) (fun _=>[]) (fun k=>es.length - k) ?_ ?_
  · apply tr_start 0 ⟨Nat.zero_le _,rfl⟩
    case hs1=>exact .cons rfl (.cons rfl .nil)
    case ht=>(try simp only [List.take_zero,List.map_nil,List.nil_append]);exact .nil
  intro k ⟨hk,hf⟩
  by_cases hlt:k < es.length
  · have ha':=ha (ints_ne hlt)
    have hcell:=rd1 hc (ints_get hlt)
    have hs:=firstF_at hlt
    (refine tr_seq ?_;refine s_r ?_;refine m_v rfl rfl ?_;refine m_v rfl rfl ?_;refine tr_val (rk_len_slice (.of rfl)) rfl ?_;refine tr_val (rk_lss (.of rfl) (.of rfl)) rfl ?_;refine n_t ?_;refine c_d rfl (fun hcd=>?_) (fun _=>by omega);refine s_t ?_;refine tr_seq ?_;refine tr_block ?_;refine s_r ?_;refine m_v rfl rfl ?_;refine m_v rfl rfl ?_;refine tr_val (rk_indexAddr (.of rfl) (.of rfl) ha' (by omega) hcd norm1_) rfl ?_;refine tr_val (rk_load1 (.of rfl) (At.base hcell rfl)) rfl ?_;refine tr_val (rk_neq (.of rfl) (.of rfl)) rfl ?_;refine n_t ?_;refine c_d rfl (fun hcd=>?_) (fun hcd=>?_);refine s_r ?_;refine m_v rfl rfl ?_;refine m_v rfl rfl ?_;refine tr_val (rk_indexAddr (.of rfl) (.of rfl) ha' (by omega) (by assumption) norm1_) rfl ?_;refine tr_val (rk_load1 (.of rfl) (At.base hcell rfl)) rfl ?_;refine a_s rfl rfl ?_;refine n_t ?_;refine tr_ret ?_;refine tr_blk_ret ?_;refine tr_then_ret ?_;refine tr_then_ret ?_;refine tr_blk_ret ?_;refine tr_then_ret ?_;refine tr_retE rfl (ends1 rfl rfl) ?_;rotate_left;refine tr_skip ?_;refine tr_blk_normal ?_;refine tr_then ?_;refine tr_region ?_;refine m_v rfl rfl ?_;refine tr_val (rk_add (.of rfl) (.of rfl) (ini (by omega))) rfl ?_;refine a_s rfl rfl ?_;refine n_t ?_;rotate_right)
    · rw [hf,hs,if_pos hcd]
    · apply tr_next (k + 1) ⟨by omega,by rw [hf,hs,if_neg hcd]⟩ (by omega)
      case hs1=>exact .cons rfl (.cons rfl .nil)
      case ht=>(try simp only [List.take_zero,List.map_nil,List.nil_append]);exact .nil
  · (refine tr_seq ?_;refine s_r ?_;refine m_v rfl rfl ?_;refine m_v rfl rfl ?_;refine tr_val (rk_len_slice (.of rfl)) rfl ?_;refine tr_val (rk_lss (.of rfl) (.of rfl)) rfl ?_;refine n_t ?_;refine c_d rfl (fun _=>by omega) (fun hcd=>?_);refine x_t ?_;refine tr_then_exit ?_;refine tr_blk_exit ?_;refine tr_then ?_;refine s_r ?_;refine a_s rfl rfl ?_;refine n_t ?_;refine tr_ret ?_;refine tr_retE rfl (ends1 rfl rfl) ?_)
    rw [hf,List.drop_of_length_le (by omega)];rfl
theorem first_qB {v:Value} {cs:List Value} {es:List Int} {w:World} (h:Rd w v 1 (cs.map fun v=>[v])) (hl:IntL cs es):GivesV Tryz.prog 27 [v] w (.int .i64 (firstF es)):=
  first_q v es w (by rw [← hl.eq];exact h)
theorem when_c (h:Bool) (e:Int) (w:World):GivesV Tryz.prog 55 [.bool h,.int .i64 e] w (.int .i64 (whenF h e)):=by
  refine givesV_of_tr Tryz.func55 rfl rfl ?_
  (refine s_r ?_;refine a_s rfl rfl ?_;refine n_t ?_;refine tr_seq ?_;refine s_r ?_;refine m_v rfl rfl ?_;refine n_t ?_;refine c_b rfl (fun hcd=>?_) (fun hcd=>?_);refine s_r ?_;refine m_v rfl rfl ?_;refine a_s rfl rfl ?_;refine n_t ?_;refine r_t ?_;refine tr_retE rfl (ends1 rfl rfl) ?_;rotate_left;refine s_t ?_;refine s_r ?_;refine a_s rfl rfl ?_;refine n_t ?_;refine tr_ret ?_;refine tr_retE rfl (ends1 rfl rfl) ?_;rotate_right)
  all_goals simp [whenF, *]
theorem within_c (n l m:Int) (w:World):GivesV Tryz.prog 48 [.int .i64 n,.int .i64 l,.int .i64 m] w (.int .i64 (withinF n l m)):=by
  refine givesV_of_tr Tryz.func48 rfl rfl ?_
  (refine s_r ?_;refine a_s rfl rfl ?_;refine n_r ?_;refine m_v rfl rfl ?_;refine m_v rfl rfl ?_;refine tr_val (rk_lss (.of rfl) (.of rfl)) rfl ?_;refine m_v rfl rfl ?_;refine v_g rfl rfl rfl rfl ?_;refine v_g rfl rfl rfl rfl ?_;refine tr_vG1 rfl rfl inferInstance (fun hg hgp=>(rk_gtr (.ofg hg rfl) (.ofg hg rfl))) rfl ?_;refine tr_val (rk_pick_or (.of rfl) rfl) rfl ?_;refine tr_callV (rk_call (.of rfl) (.cons (.of rfl) (.cons (.of rfl) .nil)) inferInstance normc_) rfl (fun w' hm'=>(when_c _ 3 w')) ?_;refine a_s rfl rfl ?_;refine n_t ?_;refine tr_ret ?_;refine tr_retE rfl (ends1 rfl rfl) ?_)
  rfl
theorem first_c (v:Value) (es:List Int) (w:World) (h:Rd w v 1 (ints es)):GivesV Tryz.prog 53 [v] w (.int .i64 (firstF es)):=by
  obtain ⟨a,cap,b,o,rfl,hcap,hmax,ha,hc⟩:=h
  rw [ints_length] at *
  unfold maxLen at hmax
  refine givesV_of_tr Tryz.func53 rfl rfl ?_
  (refine s_r ?_;refine a_s rfl rfl ?_;refine n_t ?_;refine tr_seq ?_;refine s_r ?_;refine m_v rfl rfl ?_;refine tr_val (rk_len_slice (.of rfl)) rfl ?_;refine m_v rfl rfl ?_;refine n_t ?_;refine tr_block ?_)
  refine tr_for (fun k:Nat=>k ≤ es.length ∧ firstF es = firstF (es.drop k)) (fun k=>[(7,.int .i64 k),(6,.int .i64 es.length),(5,.slice a es.length cap)]) (fun _=>[]) (fun k=>es.length - k) ?_ ?_
  · apply tr_start 0 ⟨Nat.zero_le _,rfl⟩
    case hs1=>exact .cons rfl (.cons rfl (.cons rfl .nil))
    case ht=>(try simp only [List.take_zero,List.map_nil,List.nil_append]);exact .nil
  intro k ⟨hk,hf⟩
  by_cases hlt:k < es.length
  · have ha':=ha (ints_ne hlt)
    have hcell:=rd1 hc (ints_get hlt)
    have hs:=firstF_at hlt
    (refine s_r ?_;refine tr_val (rk_lss (.of rfl) (.of rfl)) rfl ?_;refine n_t ?_;refine tr_seq ?_;refine c_d rfl (fun hcd=>?_) (fun _=>by omega);refine s_t ?_;refine tr_seq ?_;refine tr_block ?_;refine s_r ?_;refine tr_val (rk_indexAddr (.of rfl) (.of rfl) ha' (by omega) hcd norm1_) rfl ?_;refine tr_val (rk_load1 (.of rfl) (At.base hcell rfl)) rfl ?_;refine a_s rfl rfl ?_;refine n_r ?_;refine m_v rfl rfl ?_;refine tr_val (rk_neq (.of rfl) (.of rfl)) rfl ?_;refine n_t ?_;refine c_d rfl (fun hcd=>?_) (fun hcd=>?_);refine s_r ?_;refine m_v rfl rfl ?_;refine a_s rfl rfl ?_;refine n_t ?_;refine tr_ret ?_;refine tr_blk_ret ?_;refine tr_then_ret ?_;refine tr_then_ret ?_;refine tr_blk_ret ?_;refine tr_then_ret ?_;refine tr_retE rfl (ends1 rfl rfl) ?_;rotate_left;refine tr_skip ?_;refine tr_blk_normal ?_;refine tr_then ?_;refine tr_region ?_;refine tr_val (rk_add (.of rfl) (.of rfl) (ini (by omega))) rfl ?_;refine m_v rfl rfl ?_;refine n_t ?_;rotate_right)
    · rw [hf,hs,if_pos hcd]
    · apply tr_next (k + 1) ⟨by omega,by rw [hf,hs,if_neg hcd]⟩ (by omega)
      case hs1=>exact .cons rfl (.cons rfl (.cons rfl .nil))
      case ht=>(try simp only [List.take_zero,List.map_nil,List.nil_append]);exact .nil
  · (refine s_r ?_;refine tr_val (rk_lss (.of rfl) (.of rfl)) rfl ?_;refine n_t ?_;refine tr_seq ?_;refine c_d rfl (fun _=>by omega) (fun hcd=>?_);refine x_t ?_;refine tr_then_exit ?_;refine tr_blk_exit ?_;refine tr_then ?_;refine s_r ?_;refine a_s rfl rfl ?_;refine n_t ?_;refine tr_ret ?_;refine tr_retE rfl (ends1 rfl rfl) ?_)
    rw [hf,List.drop_of_length_le (by omega)];rfl
theorem first_pB {v:Value} {cs:List Value} {es:List Int} {w:World} (h:Rd w v 1 (cs.map fun v=>[v])) (hl:IntL cs es):GivesV Tryz.prog 53 [v] w (.int .i64 (firstF es)):=
  first_c v es w (by rw [← hl.eq];exact h)
theorem bt_eq {s:ByteArray} {p:Nat} (h:p < s.size):bt s p = ((s[p]'h).toNat:Nat):=by
  unfold bt
  have:s.data.toList[p]? = some (s[p]'h):=by
    rw [Array.getElem?_toList]
    exact getElem?_pos s.data p h
  rw [this];rfl
theorem decode_bt {s:ByteArray} {p:Nat} (h:p < s.size):(bt s p < 128 ∧ ((Utf8.decode s p).1:Int) = bt s p ∧ (Utf8.decode s p).2 = 1) ∨ (128 ≤ bt s p ∧ (128:Int) ≤ (Utf8.decode s p).1 ∧ 1 ≤ (Utf8.decode s p).2):=by
  rw [bt_eq h]
  by_cases ha:(s[p]'h).toNat < 128
  · have:=decode_ascii s p h ha
    left;rw [this];exact ⟨by omega,rfl,rfl⟩
  · have:=decode_high s p h (by omega)
    right;omega
theorem ne_empty {s:ByteArray}:s.size = 0 ↔ s = ⟨#[]⟩:=by
  constructor
  · intro h
    have:s.data = #[]:=Array.eq_empty_of_size_eq_zero h
    cases s;simp_all
  · rintro rfl;rfl
end Go.Proofs.A1
namespace Go.Proofs.A1
structure CdOk (rp:List Int):Prop where
  ne:0 < rp.length
  few:rp.length ≤ 8
  rep:∀ x ∈ rp,1 ≤ x ∧ x ≤ 4
end Go.Proofs.A1
namespace Go.Proofs.A1
end Go.Proofs.A1
namespace Go.Proofs.A1
open Go Go.SL
structure Rt where
  fr:Int
  dr:Bool
structure Lb where
  h:Int
  m:Int
  s:Int
  f:Int
structure Stm where
  ra:Rt
  la:Lb
  us:Int
def rateF (r:Rt):Int:=firstF [whenF (decide (r.fr ≠ 24) && (decide (r.fr ≠ 25) && decide (r.fr ≠ 30))) 13,whenF (r.dr && decide (r.fr ≠ 30)) 24]
structure RtOk (r:Rt):Prop where
  fr:r.fr = 24 ∨ r.fr = 25 ∨ r.fr = 30
  dr:r.dr = true → r.fr = 30
theorem rateF_zero {r:Rt}:rateF r = 0 ↔ RtOk r:=by
  unfold rateF
  rw [firstF_zero]
  simp only [List.mem_cons,List.not_mem_nil,or_false,forall_eq_or_imp,forall_eq]
  rw [whenF_zero (by decide),whenF_zero (by decide)]
  constructor
  · intro h
    refine ⟨?_,fun hd=>?_⟩
    · have:=h.1
      simp only [Bool.and_eq_false_iff,decide_eq_false_iff_not] at this
      omega
    · have:=h.2
      rw [hd,Bool.true_and,decide_eq_false_iff_not] at this
      omega
  · intro h
    constructor
    · simp only [Bool.and_eq_false_iff,decide_eq_false_iff_not]
      have:=h.fr
      omega
    · cases hd:r.dr with
      | false=>rfl
      | true=>rw [Bool.true_and,decide_eq_false_iff_not];have:=h.dr hd;omega
structure LbOk (r:Rt) (l:Lb):Prop where
  ra:RtOk r
  h:0 ≤ l.h ∧ l.h ≤ 23
  m:0 ≤ l.m ∧ l.m ≤ 59
  s:0 ≤ l.s ∧ l.s ≤ 59
  f:0 ≤ l.f ∧ l.f ≤ r.fr - 1
  d:r.dr = true → l.m % 10 ≠ 0 → l.s = 0 → 2 ≤ l.f
def dayF (r:Rt):Int:=24 * 60 * 60 * r.fr - if r.dr then 2592 else 0
def frmF (r:Rt) (l:Lb):Int:=(60 * (60 * l.h + l.m) + l.s) * r.fr + l.f - if r.dr then 2 * ((60 * l.h + l.m) - (60 * l.h + l.m) / 10) else 0
def lbN (r:Rt) (n:Int):Int:=if r.dr then n + 18 * (n / 17982) + (if 1800 ≤ n % 17982 then 2 * (1 + (n % 17982 - 1800) / 1798) else 0) else n
def lblF (r:Rt) (n:Int):Lb:=⟨lbN r n / r.fr / 3600,lbN r n / r.fr / 60 % 60,lbN r n / r.fr % 60,lbN r n % r.fr⟩
theorem lb_ext {a b:Lb} (h1:a.h = b.h) (h2:a.m = b.m) (h3:a.s = b.s) (h4:a.f = b.f):a = b:=by
  cases a;cases b;dsimp only at h1 h2 h3 h4;subst h1 h2 h3 h4;rfl
theorem lb_plain {fr h m s f:Int} (hf:fr = 24 ∨ fr = 25 ∨ fr = 30) (hm:0 ≤ m ∧ m ≤ 59) (hs:0 ≤ s ∧ s ≤ 59) (h4:0 ≤ f ∧ f ≤ fr - 1) {n:Int} (hn:n = (60 * (60 * h + m) + s) * fr + f) :
    n / fr / 3600 = h ∧ n / fr / 60 % 60 = m ∧ n / fr % 60 = s ∧ n % fr = f:=by
  have hq:n / fr = 3600 * h + 60 * m + s:=by
    rcases hf with rfl | rfl | rfl <;> omega
  have hr:n % fr = f:=by
    rcases hf with rfl | rfl | rfl <;> omega
  rw [hq,hr]
  omega
theorem frm_lbl {r:Rt} {l:Lb} (h:LbOk r l):0 ≤ frmF r l ∧ frmF r l < dayF r ∧ lblF r (frmF r l) = l:=by
  have h1:=h.h
  have h2:=h.m
  have h3:=h.s
  have h4:=h.f
  have hfr:=h.ra.fr
  cases hd:r.dr with
  | false =>
    have e1:frmF r l = (60 * (60 * l.h + l.m) + l.s) * r.fr + l.f:=by unfold frmF;rw [hd];simp
    have e2:dayF r = 86400 * r.fr:=by unfold dayF;rw [hd];simp
    have e3:lbN r (frmF r l) = frmF r l:=by unfold lbN;rw [hd];simp
    have hp:=lb_plain hfr h2 h3 h4 e1
    refine ⟨?_,?_,?_⟩
    · rw [e1];rcases hfr with e | e | e <;> rw [e] <;> omega
    · rw [e1,e2];rcases hfr with e | e | e <;> rw [e] at h4 ⊢ <;> omega
    · unfold lblF
      rw [e3]
      exact lb_ext hp.1 hp.2.1 hp.2.2.1 hp.2.2.2
  | true =>
    have hf:=h.ra.dr hd
    have h5:=h.d hd
    rw [hf] at h4
    have e1:frmF r l = (60 * (60 * l.h + l.m) + l.s) * 30 + l.f - 2 * ((60 * l.h + l.m) - (60 * l.h + l.m) / 10):=by unfold frmF;rw [hd,hf];simp
    have e2:dayF r = 2589408:=by unfold dayF;rw [hd,hf];decide
    obtain ⟨t,u,hu,htu⟩:∃ t u:Int,(0 ≤ u ∧ u ≤ 9) ∧ 60 * l.h + l.m = 10 * t + u:=⟨(60 * l.h + l.m) / 10,(60 * l.h + l.m) % 10,by omega,by omega⟩
    have hu2:u = l.m % 10:=by omega
    have hrest:frmF r l = 17982 * t + (1798 * u + 30 * l.s + l.f):=by
      rw [e1,htu];omega
    have h6:u ≠ 0 → 2 ≤ 30 * l.s + l.f:=fun hne=>by
      by_cases e:l.s = 0
      · have:=h5 (by omega) e;omega
      · omega
    have hq:frmF r l / 17982 = t:=by
      rw [hrest];omega
    have hr:frmF r l % 17982 = 1798 * u + 30 * l.s + l.f:=by
      rw [hrest];omega
    have e3:lbN r (frmF r l) = (60 * (60 * l.h + l.m) + l.s) * 30 + l.f:=by
      unfold lbN
      rw [hd,if_pos rfl,hq,hr]
      by_cases e:u = 0
      · rw [if_neg (by omega),hrest];omega
      · have:=h6 e
        rw [if_pos (by omega),show (1798 * u + 30 * l.s + l.f - 1800) / 1798 = u - 1 by omega,hrest]
        omega
    have hp:=lb_plain (fr:=30) (.inr (.inr rfl)) h2 h3 h4 e3
    refine ⟨by rw [hrest];omega,by rw [hrest,e2];omega,?_⟩
    unfold lblF
    rw [hf]
    exact lb_ext hp.1 hp.2.1 hp.2.2.1 hp.2.2.2
theorem lbl_frm {r:Rt} {n:Int} (hr:RtOk r) (hn:0 ≤ n ∧ n < dayF r):LbOk r (lblF r n) ∧ frmF r (lblF r n) = n:=by
  have hfr:=hr.fr
  cases hd:r.dr with
  | false =>
    have e2:dayF r = 86400 * r.fr:=by unfold dayF;rw [hd];simp
    have e3:lbN r n = n:=by unfold lbN;rw [hd];simp
    have e4:lblF r n = ⟨n / r.fr / 3600,n / r.fr / 60 % 60,n / r.fr % 60,n % r.fr⟩:=by unfold lblF;rw [e3]
    rw [e4]
    obtain ⟨_,hn2⟩:=hn
    rw [e2] at hn2
    have hq:0 ≤ n / r.fr ∧ n / r.fr < 86400 ∧ n = r.fr * (n / r.fr) + n % r.fr ∧ 0 ≤ n % r.fr ∧ n % r.fr < r.fr:=by
      rcases hfr with e | e | e <;> rw [e] at hn2 ⊢ <;> omega
    obtain ⟨q1,q2,q3,q4,q5⟩:=hq
    refine ⟨⟨hr,?_,?_,?_,?_,fun h=>by rw [hd] at h;cases h⟩,?_⟩ <;> (try dsimp only)
    · omega
    · omega
    · omega
    · omega
    · unfold frmF
      rw [hd]
      dsimp only
      rw [show 60 * (60 * (n / r.fr / 3600) + n / r.fr / 60 % 60) + n / r.fr % 60 = n / r.fr by omega,if_neg (by decide),Int.sub_zero,Int.mul_comm]
      exact q3.symm
  | true =>
    have hf:=hr.dr hd
    have e2:dayF r = 2589408:=by unfold dayF;rw [hd,hf];decide
    rw [e2] at hn
    obtain ⟨t,q,hq,ht⟩:∃ t q:Int,(0 ≤ q ∧ q < 17982) ∧ n = 17982 * t + q:=⟨n / 17982,n % 17982,by omega,by omega⟩
    obtain ⟨u,v,hu,hv,hv2,hqv⟩:∃ u v:Int,(0 ≤ u ∧ u ≤ 9) ∧ (0 ≤ v ∧ v < 1800) ∧ (u ≠ 0 → 2 ≤ v) ∧ q = 1798 * u + v:=by
      by_cases e:q < 1800
      · exact ⟨0,q,by omega,by omega,fun h=>absurd rfl h,by omega⟩
      · exact ⟨1 + (q - 1800) / 1798,(q - 1800) % 1798 + 2,by omega,by omega,fun _=>by omega,by omega⟩
    have htq:n / 17982 = t ∧ n % 17982 = q:=by omega
    have e3:lbN r n = 18000 * t + 1800 * u + v:=by
      unfold lbN
      rw [hd,if_pos rfl,htq.1,htq.2]
      by_cases e:u = 0
      · by_cases e':1800 ≤ q
        · omega
        · rw [if_neg e'];omega
      · have:=hv2 e
        rw [if_pos (by omega),show (q - 1800) / 1798 = u - 1 by omega]
        omega
    have e4:lblF r n = ⟨(18000 * t + 1800 * u + v) / 30 / 3600,(18000 * t + 1800 * u + v) / 30 / 60 % 60,(18000 * t + 1800 * u + v) / 30 % 60,(18000 * t + 1800 * u + v) % 30⟩:=by unfold lblF;rw [e3,hf]
    rw [e4]
    have hs:(18000 * t + 1800 * u + v) / 30 = 600 * t + 60 * u + v / 30:=by omega
    have hf2:(18000 * t + 1800 * u + v) % 30 = v % 30:=by omega
    rw [hs,hf2]
    have hs60:(600 * t + 60 * u + v / 30) % 60 = v / 30:=by omega
    have hm60:(600 * t + 60 * u + v / 30) / 60 = 10 * t + u:=by omega
    have hh:(600 * t + 60 * u + v / 30) / 3600 = (10 * t + u) / 60:=by omega
    rw [hs60,hm60,hh]
    refine ⟨⟨hr,?_,?_,?_,?_,fun _ a b=>?_⟩,?_⟩ <;> (try dsimp only at *)
    · omega
    · omega
    · omega
    · rw [hf];omega
    · have:=hv2 (by omega);omega
    · unfold frmF
      rw [hd,hf]
      dsimp only
      rw [if_pos rfl,show 60 * ((10 * t + u) / 60) + (10 * t + u) % 60 = 10 * t + u by omega]
      omega
theorem day_pos {r:Rt} (h:RtOk r):2073600 ≤ dayF r ∧ dayF r ≤ 2592000:=by
  unfold dayF
  have:=h.fr
  have:=h.dr
  split
  · rename_i hd;have:=h.dr hd;omega
  · omega
def addF (r:Rt) (l:Lb) (k:Int):Lb:=lblF r ((frmF r l + k) % dayF r)
theorem add_ok {r:Rt} {l:Lb} {k:Int} (h:RtOk r):LbOk r (addF r l k) ∧ frmF r (addF r l k) = (frmF r l + k) % dayF r:=by
  have hd:=day_pos h
  exact lbl_frm h ⟨Int.emod_nonneg _ (by omega),Int.emod_lt_of_pos _ (by omega)⟩
theorem add_add {r:Rt} {l:Lb} {j k:Int} (h:RtOk r):addF r (addF r l j) k = addF r l (j + k):=by
  unfold addF
  have:=(add_ok (l:=l) (k:=j) h).2
  unfold addF at this
  rw [this,Int.emod_add_emod,Int.add_assoc]
theorem add_zero {r:Rt} {l:Lb} (h:LbOk r l):addF r l 0 = l:=by
  unfold addF
  have:=frm_lbl h
  rw [Int.add_zero,Int.emod_eq_of_lt this.1 this.2.1]
  exact this.2.2
end Go.Proofs.A1
namespace Go.Proofs.A1
open Go Go.SL
structure StOk (s:Stm):Prop where
  la:LbOk s.ra s.la
  us:0 ≤ s.us ∧ s.us ≤ 65535
def Stm.zero:Stm:=⟨⟨0,false⟩,⟨0,0,0,0⟩,0⟩
end Go.Proofs.A1
namespace Go.Proofs.A1
open Go Go.SL
structure Cp where
  fr:Int
  to:Int
  rw:Int
  co:Int
  tx:ByteArray
def Cp.zero:Cp:=⟨0,0,0,0,⟨#[]⟩⟩
def badTx (s:ByteArray):Bool:=(List.range s.size).any fun i=>decide (bt s i < 32) || decide (126 < bt s i)
theorem badTx_no {s:ByteArray}:badTx s = false ↔ ∀ i,i < s.size → 32 ≤ bt s i ∧ bt s i ≤ 126:=by
  unfold badTx
  rw [List.any_eq_false]
  simp only [List.mem_range,Bool.or_eq_true,decide_eq_true_eq]
  constructor
  · intro h i hi;have:=h i hi;omega
  · intro h i hi;have:=h i hi;omega
def cpE (c:Cp):Int:=firstF [whenF (decide (c.fr < 0) || (decide (c.to ≤ c.fr) || decide (10000000 < c.to))) 14,withinF c.rw 0 7,withinF c.co 0 31,whenF (decide (c.tx.size = 0)) 12,whenF (decide (32 < c.co + (c.tx.size:Int))) 26,whenF (badTx c.tx) 1]
structure CpOk (c:Cp):Prop where
  sp:0 ≤ c.fr ∧ c.fr < c.to ∧ c.to ≤ 10000000
  rw:0 ≤ c.rw ∧ c.rw ≤ 7
  co:0 ≤ c.co ∧ c.co ≤ 31
  ne:0 < c.tx.size
  fit:c.co + (c.tx.size:Int) ≤ 32
  by_:∀ i,i < c.tx.size → 32 ≤ bt c.tx i ∧ bt c.tx i ≤ 126
theorem cpE_zero {c:Cp}:cpE c = 0 ↔ CpOk c:=by
  unfold cpE
  rw [firstF_zero]
  simp only [List.mem_cons,List.not_mem_nil,or_false,forall_eq_or_imp,forall_eq,withinF_zero]
  rw [whenF_zero (by decide),whenF_zero (by decide),whenF_zero (by decide),whenF_zero (by decide),badTx_no]
  simp only [Bool.or_eq_false_iff,decide_eq_false_iff_not]
  constructor
  · rintro ⟨h1,h2,h3,h4,h5,h6⟩
    exact ⟨by omega,h2,h3,by omega,by omega,h6⟩
  · intro h
    have h1:=h.sp;have h4:=h.ne;have h5:=h.fit
    exact ⟨by omega,h.rw,h.co,by omega,by omega,h.by_⟩
def cfl (a b:Cp):Bool:=decide (a.rw = b.rw) && (decide (max a.fr b.fr < min a.to b.to) && decide (max a.co b.co < min (a.co + (a.tx.size:Int)) (b.co + (b.tx.size:Int))))
def cflQ (a b:Cp):Bool:=decide (a.rw = b.rw) && (decide (a.fr < b.to) && (decide (b.fr < a.to) && (decide (a.co < b.co + (b.tx.size:Int)) && decide (b.co < a.co + (a.tx.size:Int)))))
theorem cfl_iff {a b:Cp} (ha:CpOk a) (hb:CpOk b):cfl a b = cflQ a b:=by
  have h1:=ha.sp;have h2:=hb.sp;have h3:=ha.ne;have h4:=hb.ne
  rw [Bool.eq_iff_iff]
  unfold cfl cflQ
  simp only [Bool.and_eq_true,decide_eq_true_eq]
  omega
def nthC (l:List Cp) (k:Nat):Cp:=l.getD k Cp.zero
theorem nthC_get {l:List Cp} {k:Nat} (h:k < l.length):nthC l k = l[k]:=by
  unfold nthC;rw [List.getD_eq_getElem?_getD,List.getElem?_eq_getElem h];rfl
def cpAt (l:List Cp) (k:Nat):Int:=firstF [cpE (nthC l k),whenF ((l.take k).any (cfl (nthC l k))) 24]
def capE (l:List Cp):Int:=if 32 < l.length then 5 else errE (cpAt l) l.length
structure CapOk (l:List Cp):Prop where
  few:l.length ≤ 32
  ok:∀ k,k < l.length → CpOk (nthC l k)
  no:∀ k,k < l.length → ∀ j,j < k → cflQ (nthC l k) (nthC l j) = false
theorem capE_zero {l:List Cp}:capE l = 0 ↔ CapOk l:=by
  unfold capE
  split
  · constructor
    · intro h;exact absurd h (by decide)
    · intro h;have:=h.few;omega
  rename_i hl
  rw [errE_ok]
  have key:∀ k,k < l.length → (cpAt l k = 0 ↔ CpOk (nthC l k) ∧ ∀ j,j < k → cfl (nthC l k) (nthC l j) = false):=fun k hk=>by
    unfold cpAt
    rw [firstF_zero]
    simp only [List.mem_cons,List.not_mem_nil,or_false,forall_eq_or_imp,forall_eq]
    rw [whenF_zero (by decide),cpE_zero,List.any_eq_false]
    refine and_congr_right fun _=>⟨fun h j hj=>?_,fun h x hx=>?_⟩
    · have hj2:j < l.length:=by omega
      rw [nthC_get hj2,← Bool.not_eq_true]
      exact h _ (List.mem_take_iff_getElem.2 ⟨j,by omega,rfl⟩)
    · obtain ⟨j,hj,rfl⟩:=List.mem_take_iff_getElem.1 hx
      have:=h j (by omega)
      rw [nthC_get (l:=l) (k:=j) (by omega)] at this
      rw [this];decide
  constructor
  · intro h
    have ho:∀ k,k < l.length → CpOk (nthC l k):=fun k hk=>((key k hk).1 (h k hk)).1
    refine ⟨by omega,ho,fun k hk j hj=>?_⟩
    rw [← cfl_iff (ho k hk) (ho j (by omega))]
    exact ((key k hk).1 (h k hk)).2 j hj
  · intro h k hk
    refine (key k hk).2 ⟨h.ok k hk,fun j hj=>?_⟩
    rw [cfl_iff (h.ok k hk) (h.ok j (by omega))]
    exact h.no k hk j hj
def onC (x:Cp) (n:Int) (r:Int):Bool:=decide (x.rw = r) && (decide (x.fr ≤ n) && decide (n < x.to))
def cov (x:Cp) (n:Int) (r:Int) (k:Nat):Bool:=onC x n r && (decide (x.co ≤ (k:Int)) && decide ((k:Int) < x.co + (x.tx.size:Int)))
def shS (n:Int) (r:Int) (k:Nat) (b:Int) (x:Cp):Int:=if cov x n r k then bt x.tx ((k:Int) - x.co).toNat else b
def shB (l:List Cp) (n r:Int) (k:Nat):Int:=l.foldl (shS n r k) 32
theorem shB_snoc (l:List Cp) (x:Cp) (n r:Int) (k:Nat):shB (l++[x]) n r k = shS n r k (shB l n r k) x:=by unfold shB;rw [List.foldl_append];rfl
def rowB (l:List Cp) (n r:Int):List Int:=(List.range 32).map (shB l n r)
theorem rowB_len (l:List Cp) (n r:Int):(rowB l n r).length = 32:=by unfold rowB;rw [List.length_map,List.length_range]
def endB (l:List Cp) (n:Int):Bool:=l.any fun x=>decide (x.fr = n) || decide (x.to = n)
def strB (l:List Int):ByteArray:=⟨(l.map fun n=>UInt8.ofNat n.toNat).toArray⟩
theorem strB_size (l:List Int):(strB l).size = l.length:=by show (l.map _).toArray.size = _;simp
theorem strB_bt {l:List Int} (h:∀ x ∈ l,0 ≤ x ∧ x ≤ 255) {k:Nat} (hk:k < l.length):bt (strB l) k = l[k]:=by
  unfold bt strB
  have:=h _ (List.getElem_mem hk)
  simp only [List.getElem?_map,List.getElem?_eq_getElem hk,Option.map_some,Option.getD_some]
  rw [UInt8.toNat_ofNat']
  omega
theorem strB_inj {a b:List Int} (ha:∀ x ∈ a,0 ≤ x ∧ x ≤ 255) (hb:∀ x ∈ b,0 ≤ x ∧ x ≤ 255) (h:strB a = strB b):a = b:=by
  have hl:a.length = b.length:=by rw [← strB_size a,h,strB_size]
  refine List.ext_getElem hl fun k h1 h2=>?_
  rw [← strB_bt ha h1,← strB_bt hb h2,h]
def scrL (l:List Cp) (n:Int):List ByteArray:=(List.range 8).map fun r=>strB (rowB l n (r:Nat))
def chB (l:List Cp) (n:Int):Bool:=decide (scrL l n ≠ scrL l (n - 1))
def topC (l:List Cp):Nat:=l.foldl (fun m x=>max m (max x.fr.toNat x.to.toNat)) 0
theorem topC_le:∀ (l:List Cp) (m:Nat),m ≤ l.foldl (fun m x=>max m (max x.fr.toNat x.to.toNat)) m ∧ ∀ x ∈ l,x.fr.toNat ≤ l.foldl (fun m x=>max m (max x.fr.toNat x.to.toNat)) m ∧ x.to.toNat ≤ l.foldl (fun m x=>max m (max x.fr.toNat x.to.toNat)) m
  | [],m=>⟨Nat.le_refl _,fun x hx=>by cases hx⟩
  | y :: l, m => by
    rw [List.foldl_cons]
    have ih:=topC_le l (max m (max y.fr.toNat y.to.toNat))
    refine ⟨by have:=ih.1;omega,fun x hx=>?_⟩
    rcases List.mem_cons.1 hx with rfl | hx
    · have:=ih.1;omega
    · exact ih.2 x hx
def chL (l:List Cp):List Nat:=(List.range (topC l + 1)).filter fun (n:Nat)=>endB l (n:Int) && chB l (n:Int)
theorem chL_mem {l:List Cp} {n:Nat}:n ∈ chL l ↔ endB l (n:Int) = true ∧ chB l (n:Int) = true:=by
  unfold chL
  rw [List.mem_filter,Bool.and_eq_true,List.mem_range]
  refine ⟨fun h=>h.2,fun h=>⟨?_,h⟩⟩
  have:=h.1
  unfold endB at this
  rw [List.any_eq_true] at this
  obtain ⟨x,hx,h2⟩:=this
  have:=(topC_le l 0).2 x hx
  unfold topC
  simp only [Bool.or_eq_true,decide_eq_true_eq] at h2
  omega
theorem chL_inc (l:List Cp):(chL l).Pairwise (· < ·):=List.Pairwise.filter _ List.pairwise_lt_range
end Go.Proofs.A1
namespace Go.Proofs.A1
open Go Go.SL
def sumN (f:Nat → Nat):Nat → Nat
  | 0=>0
  | n + 1=>sumN f n + f n
def nb (s:ByteArray):Nat:=sumN (fun i=>if bt s i ≠ 32 then 1 else 0) s.size
end Go.Proofs.A1
namespace Go.Proofs.A1
open Go Go.SL
theorem ofNat_toNat {k:Nat} (h:k < 256):(UInt8.ofNat k).toNat = k:=by simp [Nat.mod_eq_of_lt h]
end Go.Proofs.A1
namespace Go.Proofs.A1
open Go Go.SL
def atD (l:List UInt8) (i:Nat):UInt8:=l.getD i 0
def d2 (l:List UInt8) (i:Nat):Int:=10 * (((atD l i).toNat:Int) - 48) + (((atD l (i + 1)).toNat:Int) - 48)
structure Tk where
  h:Int
  m:Int
  s:Int
  f:Int
  c:UInt8
  rest:List UInt8
  bad:Bool
end Go.Proofs.A1
namespace Go.Proofs.A1
open Go Go.SL
end Go.Proofs.A1
namespace Go.Proofs.A1
open Go Go.SL
end Go.Proofs.A1
namespace Go.Proofs.A1
open Go Go.SL
end Go.Proofs.A1
namespace Go.Proofs.A1
open Go Go.SL
end Go.Proofs.A1
namespace Go.SL
open Go
section
variable {P:Program} {r:Option Nat} {c:Cx} {D:List Nat} {sl:Slots} {hs hs':List Asn} {ops:Array Oper} {Q:Exit → Act → World → Prop} {rest:List Oper} {d:Nat} {ty:TypeId} {pos:String} {af:Array Edge}
def bytesV (s:ByteArray):List Value:=s.data.toList.map fun b=>Value.int .u8 (b.toNat:Nat)
theorem bytesV_length (s:ByteArray):(bytesV s).length = s.size:=by unfold bytesV;rw [List.length_map];rfl
theorem tr_copyS {t t2 e:TypeId} {x y:Operand} {s:ByteArray} {g o n cap:Nat} {E:TypeId} {cs:List Value} [hu:Und P t (.slice e)] [hT:Ty P e false 1]
    (hx:Is sl x (.slice (some ⟨g,o,none⟩) n cap)) (hy:Is sl y (.string s)) (ht:Take hs (blk g (.cells cs.toArray E (0,0))) hs') (hn:s.size ≤ n) (hfit:o + s.size ≤ cs.length) (hd:Nat.blt d c.nt = true)
    (k:Tr c D ((d,.int .i64 (s.size:Nat)) :: sl) (blk g (.cells (setCells cs o (bytesV s)).toArray E (0,0)) :: hs') (WL P r ops Q rest)) :
    Tr c D sl hs (WL P r ops Q (⟨some d,.call ⟨.builtin .copy,#[x,y],#[t,t2]⟩,ty,pos,af,none⟩ :: rest)):=fun a w hst=>by
  obtain ⟨de,i,hde,hi,_,hsize⟩:=Ty.parts (P:=P) (t:=e) (agg:=false) (n:=1)
  have hm:=hst.mem.take (ht.append _)
  have hg:w.heap[g]? = some (.cells cs.toArray E (0,0)):=hm.blk .here
  obtain ⟨w',h3,h4,h5⟩:=rk_storeCells (P:=P) (o:=o) (bytesV s) 0 cs w hg (fun u hu=>by
    obtain ⟨b,_,rfl⟩:=List.mem_map.1 hu;rfl) (by rw [bytesV_length];omega)
  have hmin:Nat.min s.size n = s.size:=Nat.min_eq_left hn
  have hex:s.extract 0 s.size = s:=by
    apply ByteArray.ext;simp
  have hload:(Builtin.firstCells 1 s.size (.string s)).run P w = .ok (bytesV s).toArray w:=by
    simp only [Builtin.firstCells,hex]
    have:(s.data.map fun b=>Value.int .u8 (b.toNat:Nat)) = (bytesV s).toArray:=by
      apply Array.toList_inj.1
      unfold bytesV
      rw [Array.toList_map]
    rw [← this];rfl
  refine wl_op rfl ⟨fr_about _ _ _ _ _,?_⟩
  rw [Oper.semAt_eq _ _ _ (by simp)]
  have:(execOp a.eval ⟨some d,.call ⟨.builtin .copy,#[x,y],#[t,t2]⟩,ty,pos,af,none⟩).run P w = .ok (.value (.int .i64 (s.size:Nat))) w':=by
    have hlenV:(Builtin.lenOf (.string s)).run P w = .ok s.size w:=rfl
    simp [execOp,resolve,invoke,builtin,hx a hst.slots,hy a hst.slots,Builtin.copy_,rk_underlying hu.eq,hlenV,sizeOf,typeInfo,hi,hsize,hload,h3,goInt,hmin]
  rw [this]
  have hm2:=Mem.store hm h4 h5
  rw [show (o + 0:Nat) = o from rfl] at hm2
  exact k _ _ ((hst.put (by simpa [Nat.blt_eq] using hd) _).heap hm2)
end
end Go.SL
namespace Go.Proofs.A1
open Go Go.SL
abbrev Rt.cells (r:Rt):List Value:=[.int .i64 r.fr,.bool r.dr]
abbrev Lb.cells (l:Lb):List Value:=[.int .i64 l.h,.int .i64 l.m,.int .i64 l.s,.int .i64 l.f]
abbrev Stm.cells (s:Stm):List Value:=[.int .i64 s.ra.fr,.bool s.ra.dr,.int .i64 s.la.h,.int .i64 s.la.m,.int .i64 s.la.s,.int .i64 s.la.f,.int .i64 s.us]
abbrev hitC (x:Stm × Nat):List Value:=[.int .i64 x.1.ra.fr,.bool x.1.ra.dr,.int .i64 x.1.la.h,.int .i64 x.1.la.m,.int .i64 x.1.la.s,.int .i64 x.1.la.f,.int .i64 x.1.us,.int .i64 (x.2:Nat)]
abbrev Cp.cells (x:Cp):List Value:=[.int .i64 x.fr,.int .i64 x.to,.int .i64 x.rw,.int .i64 x.co,.string x.tx]
abbrev inC (n:Int):List Value:=[.int .i64 n]
def hts (l:List (Stm × Nat)):List (List Value):=l.map hitC
def cps (l:List Cp):List (List Value):=l.map Cp.cells
def cpsV (l:List Cp):List Value:=l.flatMap Cp.cells
theorem cps_length (l:List Cp):(cps l).length = l.length:=by simp [cps]
theorem cps_get {l:List Cp} {k:Nat} (h:k < l.length):(cps l)[k]? = some ((Cp.cells) l[k]):=by simp [cps,h]
theorem cps_ne {l:List Cp} {k:Nat} (h:k < l.length):cps l ≠ []:=by intro e;have:=congrArg List.length e;rw [cps_length] at this;simp at this;subst this;simp at h
theorem cps_flat (l:List Cp):cpsV l = (cps l).flatten:=by unfold cpsV cps;rw [List.flatMap_def]
theorem cps_sz (l:List Cp):∀ r ∈ cps l,r.length = 5:=fun r hr=>by obtain ⟨x,_,rfl⟩:=List.mem_map.1 hr;rfl
theorem cps_one (l:List Cp):∀ r ∈ cps l,∀ u ∈ r,u.oneCell' = true:=fun r hr=>by obtain ⟨x,_,rfl⟩:=List.mem_map.1 hr;exact okc_cons rfl (okc_cons rfl (okc_cons rfl (okc_cons rfl (okc_cons rfl okc_nil))))
theorem cpsV_len (l:List Cp):(cpsV l).length = l.length * 5:=by rw [cps_flat,flat_len (cps_sz l),cps_length]
theorem cpsV_app (a b:List Cp):cpsV (a++b) = cpsV a++cpsV b:=by unfold cpsV;rw [List.flatMap_append]
theorem cps_rd {c:Cx} {hs hs':List Asn} {w:World} {l:List Cp} {E:TypeId} {v:Value} {n:Nat} (hm:Mem c hs w) (ht:Take hs (row E 5 v n (cpsV l)) hs') (hn:l.length = n):Rd w v 5 (cps l):=hm.rdRow ht (cps_flat l) (cps_sz l) (by rw [cps_length,hn])
def intg (l:List Int):List (List Value):=l.map inC
def intgV (l:List Int):List Value:=l.flatMap inC
theorem intg_get {l:List Int} {k:Nat} (h:k < l.length):(intg l)[k]? = some ((inC) l[k]):=by simp [intg,h]
theorem intgV_app (a b:List Int):intgV (a++b) = intgV a++intgV b:=by unfold intgV;rw [List.flatMap_append]
end Go.Proofs.A1
namespace Go.Proofs.A1
open Go Go.SL
def idxG {α:Type} (p:α → Bool) (l:List α):Int:=((List.range l.length).find? fun i=>(l[i]?.map p).getD false).elim (-1) (fun i=>(i:Int))
theorem idxG_at {α:Type} {p:α → Bool} {l:List α} {k:Nat} (h:∀ i,i < k → (l[i]?.map p).getD false = false) (hk:k < l.length) (hp:p l[k] = true):idxG p l = k:=by
  unfold idxG
  have:(List.range l.length).find? (fun i=>(l[i]?.map p).getD false) = some k:=by
    rw [List.find?_range_eq_some]
    exact ⟨by simp [hk,hp],by simpa using hk,fun i hi=>by simpa using h i hi⟩
  rw [this];rfl
theorem idxG_none {α:Type} {p:α → Bool} {l:List α} (h:∀ i,i < l.length → (l[i]?.map p).getD false = false):idxG p l = -1:=by
  unfold idxG
  have:(List.range l.length).find? (fun i=>(l[i]?.map p).getD false) = none:=by
    rw [List.find?_eq_none]
    intro i hi
    simp [h i (List.mem_range.1 hi)]
  rw [this];rfl
theorem idxG_any {α:Type} (p:α → Bool) (l:List α):decide (0 ≤ idxG p l) = l.any p:=by
  unfold idxG
  cases h:(List.range l.length).find? fun i=>(l[i]?.map p).getD false with
  | none =>
    have:l.any p = false:=by
      rw [List.any_eq_false]
      intro x hx
      obtain ⟨i,hi,rfl⟩:=List.getElem_of_mem hx
      have:=List.find?_eq_none.1 h i (List.mem_range.2 hi)
      simpa [hi] using this
    rw [this];rfl
  | some i =>
    have h1:=List.mem_range.1 (List.mem_of_find?_eq_some h)
    have h2:=List.find?_some h
    have:l.any p = true:=by
      rw [List.any_eq_true]
      exact ⟨l[i],List.getElem_mem h1,by simpa [h1] using h2⟩
    rw [this];simp
theorem index_c {lv:Value} {l:List Int} (x:Int) {w:World} (h:Rd w lv 1 (ints l)) :
    GivesV Tryz.prog 97 [lv,.int .i64 x] w (.int .i64 (idxG (fun y=>decide (x = y)) l)):=by
  obtain ⟨a,cp,b,o,rfl,hcap,hmax,ha,hc⟩:=h
  rw [ints_length] at *
  unfold maxLen at hmax
  refine givesV_of_tr Tryz.func97 rfl rfl ?_
  (refine s_r ?_;refine a_s rfl rfl ?_;refine n_t ?_;refine tr_seq ?_;refine s_r ?_;refine m_v rfl rfl ?_;refine tr_val (rk_len_slice (.of rfl)) rfl ?_;refine m_v rfl rfl ?_;refine n_t ?_;refine tr_block ?_)
  refine tr_for (fun k:Nat=>k ≤ l.length ∧ ∀ i,i < k → (l[i]?.map fun y=>decide (x = y)).getD false = false) (fun k=>[(8,.int .i64 k),(7,.int .i64 l.length),(0,.slice a l.length cp),(1,.int .i64 x)]) (fun _=>[]) (fun k=>l.length - k) ?_ ?_
  · apply tr_start 0 ⟨Nat.zero_le _,fun i h=>by omega⟩
    case hs1=>exact .cons rfl (.cons rfl (.cons rfl (.cons rfl .nil)))
    case ht=>(try simp only [List.take_zero,List.map_nil,List.nil_append]);exact .nil
  rintro k ⟨hk,hf⟩
  by_cases hlt:k < l.length
  · have ha':=ha (ints_ne hlt)
    have c0:w.cell? ⟨b,o + k * 1,none⟩ = some (.int .i64 l[k]):=(hc k _ (ints_get hlt)).2 0 _ rfl
    have hps:(l[k]?.map fun y=>decide (x = y)).getD false = decide (x = l[k]):=by simp [hlt]
    (refine s_r ?_;refine tr_val (rk_lss (.of rfl) (.of rfl)) rfl ?_;refine n_t ?_;refine tr_seq ?_;refine c_d rfl (fun hcd=>?_) (fun _=>by omega);refine s_t ?_;refine tr_seq ?_;refine tr_block ?_;refine s_r ?_;refine m_v rfl rfl ?_;refine a_s rfl rfl ?_;refine n_r ?_;refine m_v rfl rfl ?_;refine m_v rfl rfl ?_;refine m_v rfl rfl ?_;refine tr_val (rk_indexAddr (.of rfl) (.of rfl) ha' (by omega) hcd norm1_) rfl ?_;refine tr_val (rk_load1 (.of rfl) (At.base c0 rfl)) rfl ?_;refine tr_val (rk_eql (.of rfl) (.of rfl)) rfl ?_;refine n_t ?_;refine c_d rfl (fun hcd=>?_) (fun hcd=>?_);refine s_r ?_;refine m_v rfl rfl ?_;refine a_s rfl rfl ?_;refine n_t ?_;refine tr_ret ?_;refine tr_blk_ret ?_;refine tr_then_ret ?_;refine tr_then_ret ?_;refine tr_blk_ret ?_;refine tr_then_ret ?_;refine tr_retE rfl (ends1 rfl rfl) ?_;rotate_left;refine tr_skip ?_;refine tr_blk_normal ?_;refine tr_then ?_;refine tr_region ?_;refine tr_val (rk_add (.of rfl) (.of rfl) (ini (by omega))) rfl ?_;refine m_v rfl rfl ?_;refine n_t ?_;rotate_right)
    · rw [idxG_at hf hlt (by simpa using hcd)]
    · apply tr_next (k + 1) ⟨by omega,fun i hi=>by
        by_cases e:i = k
        · rw [e,hps];simpa using hcd
        · exact hf i (by omega)⟩ (by omega)
      case hs1=>exact .cons rfl (.cons rfl (.cons rfl (.cons rfl .nil)))
      case ht=>(try simp only [List.take_zero,List.map_nil,List.nil_append]);exact .nil
  · obtain rfl:k = l.length:=by omega
    (refine s_r ?_;refine tr_val (rk_lss (.of rfl) (.of rfl)) rfl ?_;refine n_t ?_;refine tr_seq ?_;refine c_d rfl (fun _=>by omega) (fun hcd=>?_);refine x_t ?_;refine tr_then_exit ?_;refine tr_blk_exit ?_;refine tr_then ?_;refine s_r ?_;refine a_s rfl rfl ?_;refine n_t ?_;refine tr_ret ?_;refine tr_retE rfl (ends1 rfl rfl) ?_)
    rw [idxG_none hf]
theorem contains_c {lv:Value} {l:List Int} (x:Int) {w:World} (h:Rd w lv 1 (ints l)) :
    GivesV Tryz.prog 76 [lv,.int .i64 x] w (.bool (l.contains x)):=by
  have hcl:∀ w',Keeps [] w w' → GivesV Tryz.prog 97 [lv,.int .i64 x] w' (.int .i64 (idxG (fun y=>decide (x = y)) l)):=fun w' hk=>index_c x (h.keeps hk)
  have e:l.contains x = l.any fun y=>decide (x = y):=by
    rw [List.contains_eq_any_beq];rfl
  rw [e,← idxG_any]
  refine givesV_of_tr Tryz.func76 rfl rfl ?_
  (refine s_r ?_;refine a_s rfl rfl ?_;refine n_r ?_;refine m_v rfl rfl ?_;refine m_v rfl rfl ?_;refine tr_callV (rk_call (.of rfl) (.cons (.of rfl) (.cons (.of rfl) .nil)) inferInstance normc_) rfl (fun w' hm'=>(hcl w' (Mem.keeps hm'))) ?_;refine tr_val (rk_geq (.of rfl) (.of rfl)) rfl ?_;refine a_s rfl rfl ?_;refine n_t ?_;refine tr_ret ?_;refine tr_retE rfl (ends1 rfl rfl) ?_)
  rfl
structure GlobR (w:World):Prop where
  n0:w.cell? ⟨1,0,none⟩ = some (.int .i64 24)
  n1:w.cell? ⟨1,1,none⟩ = some (.int .i64 25)
  n2:w.cell? ⟨1,2,none⟩ = some (.int .i64 30)
theorem cell_keeps {w w':World} {a:Addr} {v:Value} (h:w.cell? a = some v) (hs:a.spot = none) (hk:Keeps [] w w'):w'.cell? a = some v:=by
  have hb:=World.block_lt_of_cell? w a h
  obtain ⟨b,o,s⟩:=a
  subst hs
  have:=hk.block b hb (by simp)
  rw [← h]
  simp [World.cell?,this]
theorem GlobR.keeps {w w':World} (h:GlobR w) (hk:Keeps [] w w'):GlobR w':=⟨cell_keeps h.n0 rfl hk,cell_keeps h.n1 rfl hk,cell_keeps h.n2 rfl hk⟩
theorem GlobR.rd {w:World} (h:GlobR w):Rd w (.slice (some ⟨1,0,none⟩) 3 3) 1 (ints [24,25,30]):=by
  refine ⟨_,3,1,0,rfl,by simp [ints],by unfold maxLen;omega,fun _=>rfl,fun i r hr=>?_⟩
  match i,hr with
  | 0,hr=>cases hr;exact ⟨rfl,fun j u hu=>by match j,hu with | 0,hu=>(cases hu;exact h.n0)⟩
  | 1,hr=>cases hr;exact ⟨rfl,fun j u hu=>by match j,hu with | 0,hu=>(cases hu;exact h.n1)⟩
  | 2,hr=>cases hr;exact ⟨rfl,fun j u hu=>by match j,hu with | 0,hu=>(cases hu;exact h.n2)⟩
theorem rate_has (x:Int) (w:World) (hG:GlobR w):GivesV Tryz.prog 76 [.slice (some ⟨1,0,none⟩) 3 3,.int .i64 x] w (.bool ([24,25,30].contains x)):=contains_c x hG.rd
theorem rate_eq (r:Rt):firstF [whenF (!([24,25,30]:List Int).contains r.fr) 13,whenF (r.dr && decide (r.fr ≠ 30)) 24] = rateF r:=by
  unfold rateF
  congr 2
  congr 1
  rw [Bool.eq_iff_iff]
  simp
theorem chkRate_c (r:Rt) (w:World) (hG:GlobR w):GivesV Tryz.prog 47 [.agg r.cells.toArray] w (.int .i64 (rateF r)):=by
  unfold Rt.cells
  refine givesV_of_tr Tryz.func47 rfl rfl ?_
  (refine s_r ?_;refine tr_new (rk_box (.of rfl) rfl) rfl (fun _ _=>?_);refine a_s rfl rfl ?_;refine n_t ?_;refine tr_seq ?_)
  with_reducible refine tr_draw 14 (by kernel_rfl) ?_
  (refine any_val (rk_sliceA (.of rfl)) rfl ?_;refine a_f rfl rfl norm0_ ?_;refine any_val (rk_load1 (.of rfl) (At.lit .here rfl)) rfl ?_;refine any_call (rk_call (.of rfl) (.cons (.of rfl) (.cons (.of rfl) .nil)) inferInstance normc_) rfl (fun w' hm'=>(rate_has _ w' (GlobR.keeps hG (Mem.keeps hm')))) ?_;refine any_val (rk_not (.of rfl)) rfl ?_;refine any_call (rk_call (.of rfl) (.cons (.of rfl) (.cons (.of rfl) .nil)) inferInstance normc_) rfl (fun w' hm'=>(when_c _ 13 w')) ?_;refine a_f rfl rfl norm0_ ?_;refine any_val (rk_load1 (.of rfl) (At.lit .here rfl)) rfl ?_;refine a_m rfl rfl ?_;refine any_vG1 rfl rfl inferInstance (fun hg hgp=>(rk_fieldAddr (.of rfl) norm0_)) rfl ?_;refine any_vG1 rfl rfl inferInstance (fun hg hgp=>(rk_load1 (.ofg hg rfl) (At.lit .here rfl))) rfl ?_;refine any_vG1 rfl rfl inferInstance (fun hg hgp=>(rk_neq (.ofg hg rfl) (.of rfl))) rfl ?_;refine any_val (rk_pick_and (.of rfl) rfl) rfl ?_;refine any_call (rk_call (.of rfl) (.cons (.of rfl) (.cons (.of rfl) .nil)) inferInstance normc_) rfl (fun w' hm'=>(when_c _ 24 w')) ?_)
  with_reducible refine any_end ?_
  (refine tr_new (rk_sliceLit (.cons (.of rfl) (.cons (.of rfl) .nil)) rfl rfl rfl rfl) rfl (fun _ _=>?_);refine tr_callV (rk_call (.of rfl) (.cons (.of rfl) .nil) inferInstance normc_) rfl (fun w' hm'=>(first_pB (Mem.rdBlk hm' .here rfl rfl) (IntL.cons (IntL.cons IntL.nil)))) ?_;refine a_s rfl rfl ?_;refine n_t ?_;refine tr_ret ?_;refine tr_retE rfl (ends1 rfl rfl) ?_)
  rw [← rate_eq]
end Go.Proofs.A1
namespace Go.Proofs.A1
open Go Go.SL
theorem day_c (r:Rt) (hr:RtOk r) (w:World):GivesV Tryz.prog 49 [.agg r.cells.toArray] w (.int .i64 (dayF r)):=by
  have hfr:=hr.fr
  unfold Rt.cells
  refine givesV_of_tr Tryz.func49 rfl rfl ?_
  (refine s_r ?_;refine tr_new (rk_box (.of rfl) rfl) rfl (fun _ _=>?_);refine a_s rfl rfl ?_;refine n_r ?_;refine f_a rfl rfl norm0_ ?_;refine tr_val (rk_load1 (.of rfl) (At.lit .here rfl)) rfl ?_;refine tr_val (rk_mul (.of rfl) (.of rfl) (ini (by omega))) rfl ?_;refine a_s rfl rfl ?_;refine n_t ?_;refine tr_seq ?_;refine s_r ?_;refine f_a rfl rfl norm0_ ?_;refine tr_val (rk_load1 (.of rfl) (At.lit .here rfl)) rfl ?_;refine n_t ?_;refine c_b rfl (fun hcd=>?_) (fun hcd=>?_);refine tr_region ?_;refine m_v rfl rfl ?_;refine tr_val (rk_sub (.of rfl) (.of rfl) (ini (by omega))) rfl ?_;refine a_s rfl rfl ?_;refine n_r ?_;refine m_v rfl rfl ?_;refine a_s rfl rfl ?_;refine n_t ?_;refine tr_ret ?_;refine tr_retE rfl (ends1 rfl rfl) ?_;rotate_left;refine s_t ?_;refine s_r ?_;refine m_v rfl rfl ?_;refine a_s rfl rfl ?_;refine n_t ?_;refine tr_ret ?_;refine tr_retE rfl (ends1 rfl rfl) ?_;rotate_right)
  all_goals (unfold dayF;simp [hcd])
end Go.Proofs.A1
namespace Go.Proofs.A1
open Go Go.SL
theorem lbN_in {r:Rt} {n:Int} (hn:0 ≤ n ∧ n ≤ 2592000):0 ≤ lbN r n ∧ lbN r n ≤ 3000000:=by
  unfold lbN
  split
  · split <;> omega
  · omega
theorem label_c (r:Rt) (n:Int) (hr:RtOk r) (hn:0 ≤ n ∧ n < dayF r) (w:World):GivesV Tryz.prog 50 [.agg r.cells.toArray,.int .i64 n] w (.agg (lblF r n).cells.toArray):=by
  have hfr:=hr.fr
  have hd:=day_pos hr
  have hfp:0 < r.fr:=by omega
  have hfz:r.fr ≠ 0:=by omega
  have hb:=lbN_in (r:=r) (n:=n) (by omega)
  have hq:0 ≤ lbN r n / r.fr ∧ lbN r n / r.fr ≤ 3000000:=by rcases hfr with e | e | e <;> rw [e] <;> omega
  unfold lblF
  refine givesV_of_tr Tryz.func50 rfl rfl ?_
  cases hdr:r.dr with
  | false =>
    have e:lbN r n = n:=by unfold lbN;rw [hdr];simp
    rw [e] at hb hq ⊢
    unfold Rt.cells Lb.cells
    rw [hdr]
    (refine s_r ?_;refine tr_new (rk_box (.of rfl) rfl) rfl (fun _ _=>?_);refine tr_new (rk_alloc rfl) rfl (fun _ _=>?_);refine n_t ?_;refine tr_seq ?_;refine s_r ?_;refine f_a rfl rfl norm0_ ?_;refine tr_val (rk_load1 (.of rfl) (At.lit (.there .here) rfl)) rfl ?_;refine n_t ?_;refine tr_cond_f (.of rfl) ?_;refine s_t ?_;refine s_r ?_;refine m_v rfl rfl ?_;refine f_a rfl rfl norm0_ ?_;refine tr_val (rk_load1 (.of rfl) (At.lit (.there .here) rfl)) rfl ?_;refine tr_val (rk_quo (.of rfl) (.of rfl) (by omega) (by omega) hfp) rfl ?_;refine a_s rfl rfl ?_;refine n_r ?_;refine m_v rfl rfl ?_;refine tr_val (rk_quo (.of rfl) (.of rfl) (by omega) (by omega) (by omega)) rfl ?_;refine m_v rfl rfl ?_;refine tr_val (rk_quo (.of rfl) (.of rfl) (by omega) (by omega) (by omega)) rfl ?_;refine tr_val (rk_rem (.of rfl) (.of rfl) (by omega) (by omega)) rfl ?_;refine m_v rfl rfl ?_;refine tr_val (rk_rem (.of rfl) (.of rfl) (by omega) (by omega)) rfl ?_;refine m_v rfl rfl ?_;refine f_a rfl rfl norm0_ ?_;refine tr_val (rk_load1 (.of rfl) (At.lit (.there .here) rfl)) rfl ?_;refine tr_val (rk_rem (.of rfl) (.of rfl) (by omega) hfz) rfl ?_;refine tr_val (rk_buildL (.cons (.of rfl) (.cons (.of rfl) (.cons (.of rfl) (.cons (.of rfl) .nil)))) norm_) rfl ?_;refine tr_store (.of rfl) (.of rfl) .here rfl rfl (okc_cons rfl (okc_cons rfl (okc_cons rfl (okc_cons rfl okc_nil)))) (lenb rfl) norm_ ?_;refine n_t ?_;refine tr_ret ?_;refine tr_retE rfl (ends1cB rfl inferInstance rfl .here norm_ (by rfl)) ?_)
    rfl
  | true =>
    unfold Rt.cells Lb.cells
    rw [hdr]
    by_cases h:1800 ≤ n % 17982
    · have e:lbN r n = n + 18 * (n / 17982) + 2 * (1 + (n % 17982 - 1800) / 1798):=by unfold lbN;rw [hdr,if_pos rfl,if_pos h]
      rw [e] at hb hq ⊢
      (refine s_r ?_;refine tr_new (rk_box (.of rfl) rfl) rfl (fun _ _=>?_);refine tr_new (rk_alloc rfl) rfl (fun _ _=>?_);refine n_t ?_;refine tr_seq ?_;refine s_r ?_;refine f_a rfl rfl norm0_ ?_;refine tr_val (rk_load1 (.of rfl) (At.lit (.there .here) rfl)) rfl ?_;refine n_t ?_;refine tr_cond_t (.of rfl) ?_;refine s_r ?_;refine m_v rfl rfl ?_;refine tr_val (rk_quo (.of rfl) (.of rfl) (by omega) (by omega) (by omega)) rfl ?_;refine m_v rfl rfl ?_;refine tr_val (rk_rem (.of rfl) (.of rfl) (by omega) (by omega)) rfl ?_;refine a_s rfl rfl ?_;refine a_s rfl rfl ?_;refine n_r ?_;refine m_v rfl rfl ?_;refine m_v rfl rfl ?_;refine tr_val (rk_mul (.of rfl) (.of rfl) (ini (by omega))) rfl ?_;refine tr_val (rk_add (.of rfl) (.of rfl) (ini (by omega))) rfl ?_;refine a_s rfl rfl ?_;refine n_r ?_;refine m_v rfl rfl ?_;refine tr_val (rk_geq (.of rfl) (.of rfl)) rfl ?_;refine n_t ?_;refine c_d rfl (fun hcd=>?_) (fun _=>by omega);refine tr_region ?_;refine m_v rfl rfl ?_;refine m_v rfl rfl ?_;refine tr_val (rk_sub (.of rfl) (.of rfl) (ini (by omega))) rfl ?_;refine tr_val (rk_quo (.of rfl) (.of rfl) (by omega) (by omega) (by omega)) rfl ?_;refine tr_val (rk_add (.of rfl) (.of rfl) (ini (by omega))) rfl ?_;refine tr_val (rk_mul (.of rfl) (.of rfl) (ini (by omega))) rfl ?_;refine tr_val (rk_add (.of rfl) (.of rfl) (ini (by omega))) rfl ?_;refine a_s rfl rfl ?_;refine n_r ?_;refine m_v rfl rfl ?_;refine f_a rfl rfl norm0_ ?_;refine tr_val (rk_load1 (.of rfl) (At.lit (.there .here) rfl)) rfl ?_;refine tr_val (rk_quo (.of rfl) (.of rfl) (by omega) (by omega) hfp) rfl ?_;refine a_s rfl rfl ?_;refine n_r ?_;refine m_v rfl rfl ?_;refine tr_val (rk_quo (.of rfl) (.of rfl) (by omega) (by omega) (by omega)) rfl ?_;refine m_v rfl rfl ?_;refine tr_val (rk_quo (.of rfl) (.of rfl) (by omega) (by omega) (by omega)) rfl ?_;refine tr_val (rk_rem (.of rfl) (.of rfl) (by omega) (by omega)) rfl ?_;refine m_v rfl rfl ?_;refine tr_val (rk_rem (.of rfl) (.of rfl) (by omega) (by omega)) rfl ?_;refine m_v rfl rfl ?_;refine f_a rfl rfl norm0_ ?_;refine tr_val (rk_load1 (.of rfl) (At.lit (.there .here) rfl)) rfl ?_;refine tr_val (rk_rem (.of rfl) (.of rfl) (by omega) hfz) rfl ?_;refine tr_val (rk_buildL (.cons (.of rfl) (.cons (.of rfl) (.cons (.of rfl) (.cons (.of rfl) .nil)))) norm_) rfl ?_;refine tr_store (.of rfl) (.of rfl) .here rfl rfl (okc_cons rfl (okc_cons rfl (okc_cons rfl (okc_cons rfl okc_nil)))) (lenb rfl) norm_ ?_;refine n_t ?_;refine tr_ret ?_;refine tr_retE rfl (ends1cB rfl inferInstance rfl .here norm_ (by rfl)) ?_)
      rfl
    · have e:lbN r n = n + 18 * (n / 17982):=by unfold lbN;rw [hdr,if_pos rfl,if_neg h,Int.add_zero]
      rw [e] at hb hq ⊢
      (refine s_r ?_;refine tr_new (rk_box (.of rfl) rfl) rfl (fun _ _=>?_);refine tr_new (rk_alloc rfl) rfl (fun _ _=>?_);refine n_t ?_;refine tr_seq ?_;refine s_r ?_;refine f_a rfl rfl norm0_ ?_;refine tr_val (rk_load1 (.of rfl) (At.lit (.there .here) rfl)) rfl ?_;refine n_t ?_;refine tr_cond_t (.of rfl) ?_;refine s_r ?_;refine m_v rfl rfl ?_;refine tr_val (rk_quo (.of rfl) (.of rfl) (by omega) (by omega) (by omega)) rfl ?_;refine m_v rfl rfl ?_;refine tr_val (rk_rem (.of rfl) (.of rfl) (by omega) (by omega)) rfl ?_;refine a_s rfl rfl ?_;refine a_s rfl rfl ?_;refine n_r ?_;refine m_v rfl rfl ?_;refine m_v rfl rfl ?_;refine tr_val (rk_mul (.of rfl) (.of rfl) (ini (by omega))) rfl ?_;refine tr_val (rk_add (.of rfl) (.of rfl) (ini (by omega))) rfl ?_;refine a_s rfl rfl ?_;refine n_r ?_;refine m_v rfl rfl ?_;refine tr_val (rk_geq (.of rfl) (.of rfl)) rfl ?_;refine n_t ?_;refine c_d rfl (fun _=>by omega) (fun hcd=>?_);refine s_t ?_;refine s_r ?_;refine m_v rfl rfl ?_;refine f_a rfl rfl norm0_ ?_;refine tr_val (rk_load1 (.of rfl) (At.lit (.there .here) rfl)) rfl ?_;refine tr_val (rk_quo (.of rfl) (.of rfl) (by omega) (by omega) hfp) rfl ?_;refine a_s rfl rfl ?_;refine n_r ?_;refine m_v rfl rfl ?_;refine tr_val (rk_quo (.of rfl) (.of rfl) (by omega) (by omega) (by omega)) rfl ?_;refine m_v rfl rfl ?_;refine tr_val (rk_quo (.of rfl) (.of rfl) (by omega) (by omega) (by omega)) rfl ?_;refine tr_val (rk_rem (.of rfl) (.of rfl) (by omega) (by omega)) rfl ?_;refine m_v rfl rfl ?_;refine tr_val (rk_rem (.of rfl) (.of rfl) (by omega) (by omega)) rfl ?_;refine m_v rfl rfl ?_;refine f_a rfl rfl norm0_ ?_;refine tr_val (rk_load1 (.of rfl) (At.lit (.there .here) rfl)) rfl ?_;refine tr_val (rk_rem (.of rfl) (.of rfl) (by omega) hfz) rfl ?_;refine tr_val (rk_buildL (.cons (.of rfl) (.cons (.of rfl) (.cons (.of rfl) (.cons (.of rfl) .nil)))) norm_) rfl ?_;refine tr_store (.of rfl) (.of rfl) .here rfl rfl (okc_cons rfl (okc_cons rfl (okc_cons rfl (okc_cons rfl okc_nil)))) (lenb rfl) norm_ ?_;refine n_t ?_;refine tr_ret ?_;refine tr_retE rfl (ends1cB rfl inferInstance rfl .here norm_ (by rfl)) ?_)
      rfl
end Go.Proofs.A1
namespace Go.Proofs.A1
open Go Go.SL
def Lb.zero:Lb:=⟨0,0,0,0⟩
def lofE (r:Rt) (n:Int):Int:=if rateF r ≠ 0 then rateF r else withinF n 0 (dayF r - 1)
def lofF (r:Rt) (n:Int):Lb:=if lofE r n = 0 then lblF r n else Lb.zero
theorem lofE_zero {r:Rt} {n:Int}:lofE r n = 0 ↔ RtOk r ∧ 0 ≤ n ∧ n < dayF r:=by
  unfold lofE
  by_cases h:rateF r = 0
  · rw [if_neg (by simpa using h),withinF_zero]
    have:=rateF_zero.1 h
    constructor
    · intro h2;exact ⟨this,by omega,by omega⟩
    · intro h2;omega
  · rw [if_pos h]
    constructor
    · intro h2;exact absurd h2 h
    · intro h2;exact rateF_zero.2 h2.1
theorem labelOf_c (r:Rt) (n:Int) (w:World) (hG:GlobR w):GivesV Tryz.prog 17 [.agg r.cells.toArray,.int .i64 n] w (.tuple #[.agg (lofF r n).cells.toArray,.int .i64 (lofE r n)]):=by
  have hz:=lofE_zero (r:=r) (n:=n)
  refine givesV_of_tr Tryz.func17 rfl rfl ?_
  by_cases h:rateF r = 0
  · have hr:=rateF_zero.1 h
    have hd:=day_pos hr
    have e:lofE r n = withinF n 0 (dayF r - 1):=by unfold lofE;rw [if_neg (by simpa using h)]
    by_cases h0:withinF n 0 (dayF r - 1) = 0
    · have h1:lofE r n = 0:=e.trans h0
      have hn2:=(hz.1 h1).2
      rw [show lofF r n = lblF r n by unfold lofF;rw [if_pos h1],h1]
      (refine s_r ?_;refine tr_new (rk_box (.of rfl) rfl) rfl (fun _ _=>?_);refine tr_new (rk_alloc rfl) rfl (fun _ _=>?_);refine a_s rfl rfl ?_;refine n_t ?_;refine tr_seq ?_;refine s_r ?_;refine tr_val (rk_loadB (.of rfl) (.there .here) norm_ (by rfl)) rfl ?_;refine tr_callV (rk_call (.of rfl) (.cons (.of rfl) .nil) inferInstance normc_) rfl (fun w' hm'=>(chkRate_c r w' (GlobR.keeps hG (Mem.keeps hm')))) ?_;refine a_s rfl rfl ?_;refine n_r ?_;refine m_v rfl rfl ?_;refine tr_val (rk_neq (.of rfl) (.of rfl)) rfl ?_;refine n_t ?_;refine c_d rfl (fun _=>by omega) (fun hcd=>?_);refine s_t ?_;refine tr_seq ?_;refine s_r ?_;refine m_v rfl rfl ?_;refine tr_val (rk_loadB (.of rfl) (.there .here) norm_ (by rfl)) rfl ?_;refine tr_callV (rk_call (.of rfl) (.cons (.of rfl) .nil) inferInstance normc_) rfl (fun w' hm'=>(day_c r hr w')) ?_;refine tr_val (rk_sub (.of rfl) (.of rfl) (ini (by omega))) rfl ?_;refine tr_callV (rk_call (.of rfl) (.cons (.of rfl) (.cons (.of rfl) (.cons (.of rfl) .nil))) inferInstance normc_) rfl (fun w' hm'=>(within_c n 0 _ w')) ?_;refine a_s rfl rfl ?_;refine n_r ?_;refine m_v rfl rfl ?_;refine tr_val (rk_neq (.of rfl) (.of rfl)) rfl ?_;refine n_t ?_;refine c_d rfl (fun _=>by omega) (fun hcd=>?_);refine s_t ?_;refine s_r ?_;refine tr_val (rk_loadB (.of rfl) (.there .here) norm_ (by rfl)) rfl ?_;refine m_v rfl rfl ?_;refine tr_callV (rk_call (.of rfl) (.cons (.of rfl) (.cons (.of rfl) .nil)) inferInstance normc_) rfl (fun w' hm'=>(label_c r n hr hn2 w')) ?_;refine tr_store (.of rfl) (.of rfl) .here rfl rfl (okc_cons rfl (okc_cons rfl (okc_cons rfl (okc_cons rfl okc_nil)))) (lenb rfl) norm_ ?_;refine a_s rfl rfl ?_;refine n_t ?_;refine tr_ret ?_;refine tr_retE rfl (endsCT rfl inferInstance rfl .here norm_ (by rfl) (by rfl)) ?_)
      rfl
    · rw [show lofF r n = Lb.zero by unfold lofF;rw [if_neg (by rw [e];exact h0)],e]
      (refine s_r ?_;refine tr_new (rk_box (.of rfl) rfl) rfl (fun _ _=>?_);refine tr_new (rk_alloc rfl) rfl (fun _ _=>?_);refine a_s rfl rfl ?_;refine n_t ?_;refine tr_seq ?_;refine s_r ?_;refine tr_val (rk_loadB (.of rfl) (.there .here) norm_ (by rfl)) rfl ?_;refine tr_callV (rk_call (.of rfl) (.cons (.of rfl) .nil) inferInstance normc_) rfl (fun w' hm'=>(chkRate_c r w' (GlobR.keeps hG (Mem.keeps hm')))) ?_;refine a_s rfl rfl ?_;refine n_r ?_;refine m_v rfl rfl ?_;refine tr_val (rk_neq (.of rfl) (.of rfl)) rfl ?_;refine n_t ?_;refine c_d rfl (fun _=>by omega) (fun hcd=>?_);refine s_t ?_;refine tr_seq ?_;refine s_r ?_;refine m_v rfl rfl ?_;refine tr_val (rk_loadB (.of rfl) (.there .here) norm_ (by rfl)) rfl ?_;refine tr_callV (rk_call (.of rfl) (.cons (.of rfl) .nil) inferInstance normc_) rfl (fun w' hm'=>(day_c r hr w')) ?_;refine tr_val (rk_sub (.of rfl) (.of rfl) (ini (by omega))) rfl ?_;refine tr_callV (rk_call (.of rfl) (.cons (.of rfl) (.cons (.of rfl) (.cons (.of rfl) .nil))) inferInstance normc_) rfl (fun w' hm'=>(within_c n 0 _ w')) ?_;refine a_s rfl rfl ?_;refine n_r ?_;refine m_v rfl rfl ?_;refine tr_val (rk_neq (.of rfl) (.of rfl)) rfl ?_;refine n_t ?_;refine c_d rfl (fun hcd=>?_) (fun _=>by omega);refine s_r ?_;refine tr_val (rk_buildL .nil norm_) rfl ?_;refine m_v rfl rfl ?_;refine tr_store (.of rfl) (.of rfl) .here rfl rfl (okc_cons rfl (okc_cons rfl (okc_cons rfl (okc_cons rfl okc_nil)))) (lenb rfl) norm_ ?_;refine a_s rfl rfl ?_;refine n_t ?_;refine r_t ?_;refine tr_retE rfl (endsCT rfl inferInstance rfl .here norm_ (by rfl) (by rfl)) ?_)
      rfl
  · have e:lofE r n = rateF r:=by unfold lofE;rw [if_pos h]
    rw [show lofF r n = Lb.zero by unfold lofF;rw [if_neg (by rw [e];exact h)],e]
    (refine s_r ?_;refine tr_new (rk_box (.of rfl) rfl) rfl (fun _ _=>?_);refine tr_new (rk_alloc rfl) rfl (fun _ _=>?_);refine a_s rfl rfl ?_;refine n_t ?_;refine tr_seq ?_;refine s_r ?_;refine tr_val (rk_loadB (.of rfl) (.there .here) norm_ (by rfl)) rfl ?_;refine tr_callV (rk_call (.of rfl) (.cons (.of rfl) .nil) inferInstance normc_) rfl (fun w' hm'=>(chkRate_c r w' (GlobR.keeps hG (Mem.keeps hm')))) ?_;refine a_s rfl rfl ?_;refine n_r ?_;refine m_v rfl rfl ?_;refine tr_val (rk_neq (.of rfl) (.of rfl)) rfl ?_;refine n_t ?_;refine c_d rfl (fun hcd=>?_) (fun _=>by omega);refine s_r ?_;refine tr_val (rk_buildL .nil norm_) rfl ?_;refine m_v rfl rfl ?_;refine tr_store (.of rfl) (.of rfl) .here rfl rfl (okc_cons rfl (okc_cons rfl (okc_cons rfl (okc_cons rfl okc_nil)))) (lenb rfl) norm_ ?_;refine a_s rfl rfl ?_;refine n_t ?_;refine r_t ?_;refine tr_retE rfl (endsCT rfl inferInstance rfl .here norm_ (by rfl) (by rfl)) ?_)
    rfl
end Go.Proofs.A1
namespace Go.Proofs.A1
open Go Go.SL
theorem i64w {x:Int} (h:-9223372036854775808 ≤ x ∧ x ≤ 9223372036854775807):IntKind.i64.wrap x = x:=by unfold IntKind.wrap;simp [IntKind.signed,IntKind.bits];omega
end Go.Proofs.A1
