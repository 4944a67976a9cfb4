/- Parts of the proof: DU2 T6p T9p T1p T2p T8p TAp V1q TBp T3p T4p T5p T7p GkCopyS U9p DU3 DU4 DU5 DU6. -/
import Derived.Test.YthhidjfahmcekaaDoorPM04
import Derived.Test.YthhidjfahmcekaaDoorPM06
import Derived.Test.YthhidjfahmcekaaDoorPM05
import Derived.Laws.RangeAny
import Derived.Laws.RangeString
import Derived.Test.YthhidjfahmcekaaDoorPM01
import Derived.Lib.Join
import Derived.Lib.SplitLaws
import Derived.Lib.ItoaLen
set_option linter.unusedSectionVars false
set_option linter.unusedVariables false
set_option linter.unusedSimpArgs false
namespace Go.Proofs.A1
open Go Go.SL
def ints (es:List Int):List (List Value):=es.map fun e=>[.int .i64 e]
theorem ints_length (es:List Int):(ints es).length = es.length:=by simp [ints]
theorem ints_get {es:List Int} {k:Nat} (h:k < es.length):(ints es)[k]? = some [.int .i64 es[k]]:=by simp [ints,h]
theorem ints_ne {es:List Int} {k:Nat} (h:k < es.length):ints es ≠ []:=by intro e;have:=congrArg List.length e;rw [ints_length] at this;simp at this;subst this;simp at h
inductive IntL:List Value → List Int → Prop
  | nil:IntL [] []
  | cons {e:Int} {vs:List Value} {es:List Int} (h:IntL vs es):IntL (.int .i64 e :: vs) (e :: es)
theorem IntL.eq {vs:List Value} {es:List Int} (h:IntL vs es):(vs.map fun v=>[v]) = ints es:=by
  induction h with
  | nil=>rfl
  | cons h ih=>simp only [List.map_cons,ints,ih]
theorem when_q (h:Bool) (e:Int) (w:World):GivesV Tryd.prog 61 [.bool h,.int .i64 e] w (.int .i64 (whenF h e)):=by
  refine givesV_of_tr Tryd.func61 rfl rfl ?_
  (refine s_r ?_;refine a_s rfl rfl ?_;refine n_t ?_;refine tr_seq ?_;refine s_r ?_;refine m_v rfl rfl ?_;refine n_t ?_;refine c_b rfl (fun hcd=>?_) (fun hcd=>?_);refine s_r ?_;refine m_v rfl rfl ?_;refine a_s rfl rfl ?_;refine n_t ?_;refine r_t ?_;refine tr_retE rfl (ends1 rfl rfl) ?_;rotate_left;refine s_t ?_;refine s_r ?_;refine a_s rfl rfl ?_;refine n_t ?_;refine tr_ret ?_;refine tr_retE rfl (ends1 rfl rfl) ?_;rotate_right)
  all_goals simp [whenF, *]
theorem range_q (n l m:Int) (w:World):GivesV Tryd.prog 26 [.int .i64 n,.int .i64 l,.int .i64 m] w (.int .i64 (withinF n l m)):=by
  refine givesV_of_tr Tryd.func26 rfl rfl ?_
  (refine s_r ?_;refine a_s rfl rfl ?_;refine n_r ?_;refine m_v rfl rfl ?_;refine m_v rfl rfl ?_;refine tr_val (rk_lss (.of rfl) (.of rfl)) rfl ?_;refine m_v rfl rfl ?_;refine v_g rfl rfl rfl rfl ?_;refine v_g rfl rfl rfl rfl ?_;refine tr_vG1 rfl rfl inferInstance (fun hg hgp=>(rk_gtr (.ofg hg rfl) (.ofg hg rfl))) rfl ?_;refine tr_val (rk_pick_or (.of rfl) rfl) rfl ?_;refine tr_callV (rk_call (.of rfl) (.cons (.of rfl) (.cons (.of rfl) .nil)) inferInstance normc_) rfl (fun w' hm'=>(when_q _ 3 w')) ?_;refine a_s rfl rfl ?_;refine n_t ?_;refine tr_ret ?_;refine tr_retE rfl (ends1 rfl rfl) ?_)
  rfl
theorem first_q (v:Value) (es:List Int) (w:World) (h:Rd w v 1 (ints es)):GivesV Tryd.prog 25 [v] w (.int .i64 (firstF es)):=by
  obtain ⟨a,cap,b,o,rfl,hcap,hmax,ha,hc⟩:=h
  rw [ints_length] at *
  unfold maxLen at hmax
  refine givesV_of_tr Tryd.func25 rfl rfl ?_
  (refine s_r ?_;refine a_s rfl rfl ?_;refine n_t ?_;refine tr_seq ?_;refine s_r ?_;refine a_s rfl rfl ?_;refine n_t ?_;refine tr_block ?_)
  refine tr_for (fun k:Nat=>k ≤ es.length ∧ firstF es = firstF (es.drop k)) (fun k=>[(3,.int .i64 k),(0,.slice a es.length cap)]) (fun _=>[]) (fun k=>es.length - k) ?_ ?_
  · apply tr_start 0 ⟨Nat.zero_le _,rfl⟩
    case hs1=>exact .cons rfl (.cons rfl .nil)
    case ht=>(try simp only [List.take_zero,List.map_nil,List.nil_append]);exact .nil
  intro k ⟨hk,hf⟩
  by_cases hlt:k < es.length
  · have ha':=ha (ints_ne hlt)
    have hcell:=rd1 hc (ints_get hlt)
    have hs:=firstF_at hlt
    (refine tr_seq ?_;refine s_r ?_;refine m_v rfl rfl ?_;refine m_v rfl rfl ?_;refine tr_val (rk_len_slice (.of rfl)) rfl ?_;refine tr_val (rk_lss (.of rfl) (.of rfl)) rfl ?_;refine n_t ?_;refine c_d rfl (fun hcd=>?_) (fun _=>by omega);refine s_t ?_;refine tr_seq ?_;refine tr_block ?_;refine s_r ?_;refine m_v rfl rfl ?_;refine m_v rfl rfl ?_;refine tr_val (rk_indexAddr (.of rfl) (.of rfl) ha' (by omega) hcd norm1_) rfl ?_;refine tr_val (rk_load1 (.of rfl) (At.base hcell rfl)) rfl ?_;refine tr_val (rk_neq (.of rfl) (.of rfl)) rfl ?_;refine n_t ?_;refine c_d rfl (fun hcd=>?_) (fun hcd=>?_);refine s_r ?_;refine m_v rfl rfl ?_;refine m_v rfl rfl ?_;refine tr_val (rk_indexAddr (.of rfl) (.of rfl) ha' (by omega) (by assumption) norm1_) rfl ?_;refine tr_val (rk_load1 (.of rfl) (At.base hcell rfl)) rfl ?_;refine a_s rfl rfl ?_;refine n_t ?_;refine tr_ret ?_;refine tr_blk_ret ?_;refine tr_then_ret ?_;refine tr_then_ret ?_;refine tr_blk_ret ?_;refine tr_then_ret ?_;refine tr_retE rfl (ends1 rfl rfl) ?_;rotate_left;refine tr_skip ?_;refine tr_blk_normal ?_;refine tr_then ?_;refine tr_region ?_;refine m_v rfl rfl ?_;refine tr_val (rk_add (.of rfl) (.of rfl) (ini (by omega))) rfl ?_;refine a_s rfl rfl ?_;refine n_t ?_;rotate_right)
    · rw [hf,hs,if_pos hcd]
    · apply tr_next (k + 1) ⟨by omega,by rw [hf,hs,if_neg hcd]⟩ (by omega)
      case hs1=>exact .cons rfl (.cons rfl .nil)
      case ht=>(try simp only [List.take_zero,List.map_nil,List.nil_append]);exact .nil
  · (refine tr_seq ?_;refine s_r ?_;refine m_v rfl rfl ?_;refine m_v rfl rfl ?_;refine tr_val (rk_len_slice (.of rfl)) rfl ?_;refine tr_val (rk_lss (.of rfl) (.of rfl)) rfl ?_;refine n_t ?_;refine c_d rfl (fun _=>by omega) (fun hcd=>?_);refine x_t ?_;refine tr_then_exit ?_;refine tr_blk_exit ?_;refine tr_then ?_;refine s_r ?_;refine a_s rfl rfl ?_;refine n_t ?_;refine tr_ret ?_;refine tr_retE rfl (ends1 rfl rfl) ?_)
    rw [hf,List.drop_of_length_le (by omega)];rfl
theorem first_qB {v:Value} {cs:List Value} {es:List Int} {w:World} (h:Rd w v 1 (cs.map fun v=>[v])) (hl:IntL cs es):GivesV Tryd.prog 25 [v] w (.int .i64 (firstF es)):=
  first_q v es w (by rw [← hl.eq];exact h)
theorem when_c (h:Bool) (e:Int) (w:World):GivesV Tryd.prog 70 [.bool h,.int .i64 e] w (.int .i64 (whenF h e)):=by
  refine givesV_of_tr Tryd.func70 rfl rfl ?_
  (refine s_r ?_;refine a_s rfl rfl ?_;refine n_t ?_;refine tr_seq ?_;refine s_r ?_;refine m_v rfl rfl ?_;refine n_t ?_;refine c_b rfl (fun hcd=>?_) (fun hcd=>?_);refine s_r ?_;refine m_v rfl rfl ?_;refine a_s rfl rfl ?_;refine n_t ?_;refine r_t ?_;refine tr_retE rfl (ends1 rfl rfl) ?_;rotate_left;refine s_t ?_;refine s_r ?_;refine a_s rfl rfl ?_;refine n_t ?_;refine tr_ret ?_;refine tr_retE rfl (ends1 rfl rfl) ?_;rotate_right)
  all_goals simp [whenF, *]
theorem within_c (n l m:Int) (w:World):GivesV Tryd.prog 37 [.int .i64 n,.int .i64 l,.int .i64 m] w (.int .i64 (withinF n l m)):=by
  refine givesV_of_tr Tryd.func37 rfl rfl ?_
  (refine s_r ?_;refine a_s rfl rfl ?_;refine n_r ?_;refine m_v rfl rfl ?_;refine m_v rfl rfl ?_;refine tr_val (rk_lss (.of rfl) (.of rfl)) rfl ?_;refine m_v rfl rfl ?_;refine v_g rfl rfl rfl rfl ?_;refine v_g rfl rfl rfl rfl ?_;refine tr_vG1 rfl rfl inferInstance (fun hg hgp=>(rk_gtr (.ofg hg rfl) (.ofg hg rfl))) rfl ?_;refine tr_val (rk_pick_or (.of rfl) rfl) rfl ?_;refine tr_callV (rk_call (.of rfl) (.cons (.of rfl) (.cons (.of rfl) .nil)) inferInstance normc_) rfl (fun w' hm'=>(when_c _ 3 w')) ?_;refine a_s rfl rfl ?_;refine n_t ?_;refine tr_ret ?_;refine tr_retE rfl (ends1 rfl rfl) ?_)
  rfl
theorem first_c (v:Value) (es:List Int) (w:World) (h:Rd w v 1 (ints es)):GivesV Tryd.prog 35 [v] w (.int .i64 (firstF es)):=by
  obtain ⟨a,cap,b,o,rfl,hcap,hmax,ha,hc⟩:=h
  rw [ints_length] at *
  unfold maxLen at hmax
  refine givesV_of_tr Tryd.func35 rfl rfl ?_
  (refine s_r ?_;refine a_s rfl rfl ?_;refine n_t ?_;refine tr_seq ?_;refine s_r ?_;refine m_v rfl rfl ?_;refine tr_val (rk_len_slice (.of rfl)) rfl ?_;refine m_v rfl rfl ?_;refine n_t ?_;refine tr_block ?_)
  refine tr_for (fun k:Nat=>k ≤ es.length ∧ firstF es = firstF (es.drop k)) (fun k=>[(7,.int .i64 k),(6,.int .i64 es.length),(5,.slice a es.length cap)]) (fun _=>[]) (fun k=>es.length - k) ?_ ?_
  · apply tr_start 0 ⟨Nat.zero_le _,rfl⟩
    case hs1=>exact .cons rfl (.cons rfl (.cons rfl .nil))
    case ht=>(try simp only [List.take_zero,List.map_nil,List.nil_append]);exact .nil
  intro k ⟨hk,hf⟩
  by_cases hlt:k < es.length
  · have ha':=ha (ints_ne hlt)
    have hcell:=rd1 hc (ints_get hlt)
    have hs:=firstF_at hlt
    (refine s_r ?_;refine tr_val (rk_lss (.of rfl) (.of rfl)) rfl ?_;refine n_t ?_;refine tr_seq ?_;refine c_d rfl (fun hcd=>?_) (fun _=>by omega);refine s_t ?_;refine tr_seq ?_;refine tr_block ?_;refine s_r ?_;refine tr_val (rk_indexAddr (.of rfl) (.of rfl) ha' (by omega) hcd norm1_) rfl ?_;refine tr_val (rk_load1 (.of rfl) (At.base hcell rfl)) rfl ?_;refine a_s rfl rfl ?_;refine n_r ?_;refine m_v rfl rfl ?_;refine tr_val (rk_neq (.of rfl) (.of rfl)) rfl ?_;refine n_t ?_;refine c_d rfl (fun hcd=>?_) (fun hcd=>?_);refine s_r ?_;refine m_v rfl rfl ?_;refine a_s rfl rfl ?_;refine n_t ?_;refine tr_ret ?_;refine tr_blk_ret ?_;refine tr_then_ret ?_;refine tr_then_ret ?_;refine tr_blk_ret ?_;refine tr_then_ret ?_;refine tr_retE rfl (ends1 rfl rfl) ?_;rotate_left;refine tr_skip ?_;refine tr_blk_normal ?_;refine tr_then ?_;refine tr_region ?_;refine tr_val (rk_add (.of rfl) (.of rfl) (ini (by omega))) rfl ?_;refine m_v rfl rfl ?_;refine n_t ?_;rotate_right)
    · rw [hf,hs,if_pos hcd]
    · apply tr_next (k + 1) ⟨by omega,by rw [hf,hs,if_neg hcd]⟩ (by omega)
      case hs1=>exact .cons rfl (.cons rfl (.cons rfl .nil))
      case ht=>(try simp only [List.take_zero,List.map_nil,List.nil_append]);exact .nil
  · (refine s_r ?_;refine tr_val (rk_lss (.of rfl) (.of rfl)) rfl ?_;refine n_t ?_;refine tr_seq ?_;refine c_d rfl (fun _=>by omega) (fun hcd=>?_);refine x_t ?_;refine tr_then_exit ?_;refine tr_blk_exit ?_;refine tr_then ?_;refine s_r ?_;refine a_s rfl rfl ?_;refine n_t ?_;refine tr_ret ?_;refine tr_retE rfl (ends1 rfl rfl) ?_)
    rw [hf,List.drop_of_length_le (by omega)];rfl
theorem first_pB {v:Value} {cs:List Value} {es:List Int} {w:World} (h:Rd w v 1 (cs.map fun v=>[v])) (hl:IntL cs es):GivesV Tryd.prog 35 [v] w (.int .i64 (firstF es)):=
  first_c v es w (by rw [← hl.eq];exact h)
theorem bt_eq {s:ByteArray} {p:Nat} (h:p < s.size):bt s p = ((s[p]'h).toNat:Nat):=by
  unfold bt
  have:s.data.toList[p]? = some (s[p]'h):=by
    rw [Array.getElem?_toList]
    exact getElem?_pos s.data p h
  rw [this];rfl
theorem decode_bt {s:ByteArray} {p:Nat} (h:p < s.size):(bt s p < 128 ∧ ((Utf8.decode s p).1:Int) = bt s p ∧ (Utf8.decode s p).2 = 1) ∨ (128 ≤ bt s p ∧ (128:Int) ≤ (Utf8.decode s p).1 ∧ 1 ≤ (Utf8.decode s p).2):=by
  rw [bt_eq h]
  by_cases ha:(s[p]'h).toNat < 128
  · have:=decode_ascii s p h ha
    left;rw [this];exact ⟨by omega,rfl,rfl⟩
  · have:=decode_high s p h (by omega)
    right;omega
theorem ne_empty {s:ByteArray}:s.size = 0 ↔ s = ⟨#[]⟩:=by
  constructor
  · intro h
    have:s.data = #[]:=Array.eq_empty_of_size_eq_zero h
    cases s;simp_all
  · rintro rfl;rfl
end Go.Proofs.A1
namespace Go.Proofs.A1
structure CdOk (rp:List Int):Prop where
  ne:0 < rp.length
  few:rp.length ≤ 8
  rep:∀ x ∈ rp,1 ≤ x ∧ x ≤ 4
end Go.Proofs.A1
namespace Go.Proofs.A1
end Go.Proofs.A1
namespace Go.Proofs.A1
open Go Go.SL
structure Rt where
  fr:Int
  dr:Bool
structure Lb where
  h:Int
  m:Int
  s:Int
  f:Int
structure Stm where
  ra:Rt
  la:Lb
  us:Int
def rateF (r:Rt):Int:=firstF [whenF (decide (r.fr ≠ 24) && (decide (r.fr ≠ 25) && decide (r.fr ≠ 30))) 13,whenF (r.dr && decide (r.fr ≠ 30)) 24]
structure RtOk (r:Rt):Prop where
  fr:r.fr = 24 ∨ r.fr = 25 ∨ r.fr = 30
  dr:r.dr = true → r.fr = 30
theorem rateF_zero {r:Rt}:rateF r = 0 ↔ RtOk r:=by
  unfold rateF
  rw [firstF_zero]
  simp only [List.mem_cons,List.not_mem_nil,or_false,forall_eq_or_imp,forall_eq]
  rw [whenF_zero (by decide),whenF_zero (by decide)]
  constructor
  · intro h
    refine ⟨?_,fun hd=>?_⟩
    · have:=h.1
      simp only [Bool.and_eq_false_iff,decide_eq_false_iff_not] at this
      omega
    · have:=h.2
      rw [hd,Bool.true_and,decide_eq_false_iff_not] at this
      omega
  · intro h
    constructor
    · simp only [Bool.and_eq_false_iff,decide_eq_false_iff_not]
      have:=h.fr
      omega
    · cases hd:r.dr with
      | false=>rfl
      | true=>rw [Bool.true_and,decide_eq_false_iff_not];have:=h.dr hd;omega
def drpB (r:Rt) (l:Lb):Bool:=r.dr && (decide (l.m % 10 ≠ 0) && (decide (l.s = 0) && decide (l.f < 2)))
def lblE (r:Rt) (l:Lb):Int:=firstF [rateF r,withinF l.h 0 23,withinF l.m 0 59,withinF l.s 0 59,withinF l.f 0 (r.fr - 1),whenF (drpB r l) 7]
structure LbOk (r:Rt) (l:Lb):Prop where
  ra:RtOk r
  h:0 ≤ l.h ∧ l.h ≤ 23
  m:0 ≤ l.m ∧ l.m ≤ 59
  s:0 ≤ l.s ∧ l.s ≤ 59
  f:0 ≤ l.f ∧ l.f ≤ r.fr - 1
  d:r.dr = true → l.m % 10 ≠ 0 → l.s = 0 → 2 ≤ l.f
theorem lblE_zero {r:Rt} {l:Lb}:lblE r l = 0 ↔ LbOk r l:=by
  unfold lblE
  rw [firstF_zero]
  simp only [List.mem_cons,List.not_mem_nil,or_false,forall_eq_or_imp,forall_eq,withinF_zero,rateF_zero]
  rw [whenF_zero (by decide)]
  unfold drpB
  constructor
  · intro ⟨h1,h2,h3,h4,h5,h6⟩
    refine ⟨h1,h2,h3,h4,h5,fun hd a b=>?_⟩
    rw [hd,Bool.true_and] at h6
    simp only [Bool.and_eq_false_iff,decide_eq_false_iff_not] at h6
    omega
  · intro h
    refine ⟨h.ra,h.h,h.m,h.s,h.f,?_⟩
    cases hd:r.dr with
    | false=>rfl
    | true =>
      have:=h.d hd
      rw [Bool.true_and]
      simp only [Bool.and_eq_false_iff,decide_eq_false_iff_not]
      omega
def dayF (r:Rt):Int:=24 * 60 * 60 * r.fr - if r.dr then 2592 else 0
def frmF (r:Rt) (l:Lb):Int:=(60 * (60 * l.h + l.m) + l.s) * r.fr + l.f - if r.dr then 2 * ((60 * l.h + l.m) - (60 * l.h + l.m) / 10) else 0
def lbN (r:Rt) (n:Int):Int:=if r.dr then n + 18 * (n / 17982) + (if 1800 ≤ n % 17982 then 2 * (1 + (n % 17982 - 1800) / 1798) else 0) else n
def lblF (r:Rt) (n:Int):Lb:=⟨lbN r n / r.fr / 3600,lbN r n / r.fr / 60 % 60,lbN r n / r.fr % 60,lbN r n % r.fr⟩
theorem lb_ext {a b:Lb} (h1:a.h = b.h) (h2:a.m = b.m) (h3:a.s = b.s) (h4:a.f = b.f):a = b:=by
  cases a;cases b;dsimp only at h1 h2 h3 h4;subst h1 h2 h3 h4;rfl
theorem lb_plain {fr h m s f:Int} (hf:fr = 24 ∨ fr = 25 ∨ fr = 30) (hm:0 ≤ m ∧ m ≤ 59) (hs:0 ≤ s ∧ s ≤ 59) (h4:0 ≤ f ∧ f ≤ fr - 1) {n:Int} (hn:n = (60 * (60 * h + m) + s) * fr + f) :
    n / fr / 3600 = h ∧ n / fr / 60 % 60 = m ∧ n / fr % 60 = s ∧ n % fr = f:=by
  have hq:n / fr = 3600 * h + 60 * m + s:=by
    rcases hf with rfl | rfl | rfl <;> omega
  have hr:n % fr = f:=by
    rcases hf with rfl | rfl | rfl <;> omega
  rw [hq,hr]
  omega
theorem frm_lbl {r:Rt} {l:Lb} (h:LbOk r l):0 ≤ frmF r l ∧ frmF r l < dayF r ∧ lblF r (frmF r l) = l:=by
  have h1:=h.h
  have h2:=h.m
  have h3:=h.s
  have h4:=h.f
  have hfr:=h.ra.fr
  cases hd:r.dr with
  | false =>
    have e1:frmF r l = (60 * (60 * l.h + l.m) + l.s) * r.fr + l.f:=by unfold frmF;rw [hd];simp
    have e2:dayF r = 86400 * r.fr:=by unfold dayF;rw [hd];simp
    have e3:lbN r (frmF r l) = frmF r l:=by unfold lbN;rw [hd];simp
    have hp:=lb_plain hfr h2 h3 h4 e1
    refine ⟨?_,?_,?_⟩
    · rw [e1];rcases hfr with e | e | e <;> rw [e] <;> omega
    · rw [e1,e2];rcases hfr with e | e | e <;> rw [e] at h4 ⊢ <;> omega
    · unfold lblF
      rw [e3]
      exact lb_ext hp.1 hp.2.1 hp.2.2.1 hp.2.2.2
  | true =>
    have hf:=h.ra.dr hd
    have h5:=h.d hd
    rw [hf] at h4
    have e1:frmF r l = (60 * (60 * l.h + l.m) + l.s) * 30 + l.f - 2 * ((60 * l.h + l.m) - (60 * l.h + l.m) / 10):=by unfold frmF;rw [hd,hf];simp
    have e2:dayF r = 2589408:=by unfold dayF;rw [hd,hf];decide
    obtain ⟨t,u,hu,htu⟩:∃ t u:Int,(0 ≤ u ∧ u ≤ 9) ∧ 60 * l.h + l.m = 10 * t + u:=⟨(60 * l.h + l.m) / 10,(60 * l.h + l.m) % 10,by omega,by omega⟩
    have hu2:u = l.m % 10:=by omega
    have hrest:frmF r l = 17982 * t + (1798 * u + 30 * l.s + l.f):=by
      rw [e1,htu];omega
    have h6:u ≠ 0 → 2 ≤ 30 * l.s + l.f:=fun hne=>by
      by_cases e:l.s = 0
      · have:=h5 (by omega) e;omega
      · omega
    have hq:frmF r l / 17982 = t:=by
      rw [hrest];omega
    have hr:frmF r l % 17982 = 1798 * u + 30 * l.s + l.f:=by
      rw [hrest];omega
    have e3:lbN r (frmF r l) = (60 * (60 * l.h + l.m) + l.s) * 30 + l.f:=by
      unfold lbN
      rw [hd,if_pos rfl,hq,hr]
      by_cases e:u = 0
      · rw [if_neg (by omega),hrest];omega
      · have:=h6 e
        rw [if_pos (by omega),show (1798 * u + 30 * l.s + l.f - 1800) / 1798 = u - 1 by omega,hrest]
        omega
    have hp:=lb_plain (fr:=30) (.inr (.inr rfl)) h2 h3 h4 e3
    refine ⟨by rw [hrest];omega,by rw [hrest,e2];omega,?_⟩
    unfold lblF
    rw [hf]
    exact lb_ext hp.1 hp.2.1 hp.2.2.1 hp.2.2.2
def addF (r:Rt) (l:Lb) (k:Int):Lb:=lblF r ((frmF r l + k) % dayF r)
theorem add_zero {r:Rt} {l:Lb} (h:LbOk r l):addF r l 0 = l:=by
  unfold addF
  have:=frm_lbl h
  rw [Int.add_zero,Int.emod_eq_of_lt this.1 this.2.1]
  exact this.2.2
end Go.Proofs.A1
namespace Go.Proofs.A1
open Go Go.SL
theorem byte_nat {n:Int} (h:0 ≤ n ∧ n ≤ 255):∃ k:Nat,k < 256 ∧ n = (k:Int):=⟨n.toNat,by omega,by omega⟩
theorem and15N:∀ k:Nat,k < 256 → andF (k:Int) 15 = (k:Int) % 16:=by decide +kernel
theorem and15 {n:Int} (h:0 ≤ n ∧ n ≤ 255):andF n 15 = n % 16:=by obtain ⟨k,hk,rfl⟩:=byte_nat h;exact and15N k hk
theorem rateN:∀ k:Nat,k < 256 → (anotF (k:Int) 128 = (k:Int) % 128 ∧ andF (k:Int) 128 = (k:Int) / 128 * 128):=by decide +kernel
theorem rate_bits {n:Int} (h:0 ≤ n ∧ n ≤ 255):anotF n 128 = n % 128 ∧ andF n 128 = n / 128 * 128:=by obtain ⟨k,hk,rfl⟩:=byte_nat h;exact rateN k hk
theorem xorF_byte (a b:Int):0 ≤ xorF a b ∧ xorF a b ≤ 255:=by
  unfold xorF
  have:=(BitVec.ofInt 8 a ^^^ BitVec.ofInt 8 b).isLt
  omega
def parF (l:List Int):Int:=l.foldl xorF 0
theorem parF_byte (l:List Int):0 ≤ parF l ∧ parF l ≤ 255:=by
  have key:∀ (l:List Int) (a:Int),(0 ≤ a ∧ a ≤ 255) → 0 ≤ l.foldl xorF a ∧ l.foldl xorF a ≤ 255:=by
    intro l
    induction l with
    | nil=>intro a h;exact h
    | cons x r ih=>intro a _;exact ih _ (xorF_byte a x)
  exact key l 0 (by decide)
theorem parF_snoc (l:List Int) (x:Int):parF (l++[x]) = xorF (parF l) x:=by unfold parF;rw [List.foldl_append];rfl
def bcd (n:Int):Int:=n / 10 * 16 + n % 10
theorem bcd_byte {n:Int} (h:0 ≤ n ∧ n ≤ 59):0 ≤ bcd n ∧ bcd n ≤ 89 ∧ bcd n / 16 = n / 10 ∧ bcd n % 16 = n % 10:=by unfold bcd;omega
def rtB (r:Rt):Int:=r.fr + if r.dr then 128 else 0
def w7 (s:Stm):List Int:=[bcd s.la.f,bcd s.la.s,bcd s.la.m,bcd s.la.h,rtB s.ra,s.us / 256,s.us % 256]
def wordF (s:Stm):List Int:=w7 s++[parF (w7 s),63,253]
def stmE (s:Stm):Int:=firstF [lblE s.ra s.la,withinF s.us 0 65535]
structure StOk (s:Stm):Prop where
  la:LbOk s.ra s.la
  us:0 ≤ s.us ∧ s.us ≤ 65535
theorem stmE_zero {s:Stm}:stmE s = 0 ↔ StOk s:=by
  unfold stmE
  rw [firstF_zero]
  simp only [List.mem_cons,List.not_mem_nil,or_false,forall_eq_or_imp,forall_eq,withinF_zero,lblE_zero]
  exact ⟨fun h=>⟨h.1,h.2⟩,fun h=>⟨h.la,h.us⟩⟩
def wa (w:List Int) (i:Nat):Int:=w.getD i 0
def unb (b:Int):Int:=b / 16 * 10 + b % 16
def badD (b:Int):Bool:=decide (9 < b / 16) || decide (9 < b % 16)
def stmW (w:List Int):Stm:=⟨⟨wa w 4 % 128,decide (128 ≤ wa w 4)⟩,⟨unb (wa w 3),unb (wa w 2),unb (wa w 1),unb (wa w 0)⟩,wa w 5 * 256 + wa w 6⟩
def rtOkB (b:Int):Bool:=decide (b = 24) || decide (b = 25) || decide (b = 30) || decide (b = 158)
def rdE (w:List Int):Int:=
  if wa w 8 ≠ 63 ∨ wa w 9 ≠ 253 then 1
  else if parF (w.take 7) ≠ wa w 7 then 27
  else if badD (wa w 0) || badD (wa w 1) || badD (wa w 2) || badD (wa w 3) then 1
  else if rtOkB (wa w 4) then stmE (stmW w) else 1
def Stm.zero:Stm:=⟨⟨0,false⟩,⟨0,0,0,0⟩,0⟩
def rdF (w:List Int):Stm:=if rdE w = 0 then stmW w else Stm.zero
theorem rt_ok {b:Int} (h:0 ≤ b ∧ b ≤ 255):rtOkB b = true ↔ rateF ⟨b % 128,decide (128 ≤ b)⟩ = 0:=by
  rw [rateF_zero]
  unfold rtOkB
  simp only [Bool.or_eq_true,decide_eq_true_eq]
  constructor
  · intro h1
    refine ⟨?_,fun hd=>?_⟩
    · show b % 128 = 24 ∨ b % 128 = 25 ∨ b % 128 = 30
      omega
    · have:128 ≤ b:=of_decide_eq_true hd
      show b % 128 = 30
      omega
  · rintro ⟨h1,h2⟩
    have h1:b % 128 = 24 ∨ b % 128 = 25 ∨ b % 128 = 30:=h1
    by_cases hb:128 ≤ b
    · have h2:b % 128 = 30:=h2 (decide_eq_true hb)
      omega
    · omega
theorem unb_bcd {n:Int} (h:0 ≤ n ∧ n ≤ 59):unb (bcd n) = n ∧ badD (bcd n) = false:=by
  obtain ⟨_,_,h1,h2⟩:=bcd_byte h
  unfold unb badD
  rw [h1,h2]
  refine ⟨by omega,?_⟩
  rw [decide_eq_false (by omega),decide_eq_false (by omega)];rfl
theorem read_word {s:Stm} (h:StOk s):rdE (wordF s) = 0 ∧ rdF (wordF s) = s:=by
  have l:=h.la
  have hu:=h.us
  have hf:=l.f
  have hr:=l.ra.fr
  have b1:=unb_bcd (n:=s.la.f) (by omega)
  have b2:=unb_bcd (n:=s.la.s) l.s
  have b3:=unb_bcd (n:=s.la.m) l.m
  have b4:=unb_bcd (n:=s.la.h) (by have:=l.h;omega)
  have hrt:rtB s.ra % 128 = s.ra.fr ∧ decide (128 ≤ rtB s.ra) = s.ra.dr ∧ 0 ≤ rtB s.ra ∧ rtB s.ra ≤ 255:=by
    unfold rtB
    cases hd:s.ra.dr
    · refine ⟨by simp;omega,decide_eq_false (by simp;omega),by simp;omega,by simp;omega⟩
    · refine ⟨by simp;omega,decide_eq_true (by simp;omega),by simp;omega,by simp;omega⟩
  have hs:stmW (wordF s) = s:=by
    show Stm.mk ⟨rtB s.ra % 128,decide (128 ≤ rtB s.ra)⟩ ⟨unb (bcd s.la.h),unb (bcd s.la.m),unb (bcd s.la.s),unb (bcd s.la.f)⟩ (s.us / 256 * 256 + s.us % 256) = s
    rw [b1.1,b2.1,b3.1,b4.1,hrt.1,hrt.2.1,show s.us / 256 * 256 + s.us % 256 = s.us by omega]
  have he:rdE (wordF s) = 0:=by
    unfold rdE
    have h8:¬ (wa (wordF s) 8 ≠ 63 ∨ wa (wordF s) 9 ≠ 253):=by rintro (e | e) <;> exact e rfl
    have hp:parF (List.take 7 (wordF s)) = wa (wordF s) 7:=rfl
    have hbd:(badD (wa (wordF s) 0) || badD (wa (wordF s) 1) || badD (wa (wordF s) 2) || badD (wa (wordF s) 3)) = false:=by
      show (badD (bcd s.la.f) || badD (bcd s.la.s) || badD (bcd s.la.m) || badD (bcd s.la.h)) = false
      rw [b1.2,b2.2,b3.2,b4.2];rfl
    rw [if_neg h8,if_neg (fun e=>e hp),if_neg (by rw [hbd];decide)]
    have hk:rtOkB (wa (wordF s) 4) = true:=(rt_ok (b:=rtB s.ra) hrt.2.2).2 (by rw [hrt.1,hrt.2.1];exact rateF_zero.2 l.ra)
    rw [if_pos hk,hs]
    exact stmE_zero.2 h
  exact ⟨he,by rw [rdF,if_pos he,hs]⟩
end Go.Proofs.A1
namespace Go.Proofs.A1
open Go Go.SL
structure Cp where
  fr:Int
  to:Int
  rw:Int
  co:Int
  tx:ByteArray
def Cp.zero:Cp:=⟨0,0,0,0,⟨#[]⟩⟩
def badTx (s:ByteArray):Bool:=(List.range s.size).any fun i=>decide (bt s i < 32) || decide (126 < bt s i)
theorem badTx_no {s:ByteArray}:badTx s = false ↔ ∀ i,i < s.size → 32 ≤ bt s i ∧ bt s i ≤ 126:=by
  unfold badTx
  rw [List.any_eq_false]
  simp only [List.mem_range,Bool.or_eq_true,decide_eq_true_eq]
  constructor
  · intro h i hi;have:=h i hi;omega
  · intro h i hi;have:=h i hi;omega
def cpE (c:Cp):Int:=firstF [whenF (decide (c.fr < 0) || (decide (c.to ≤ c.fr) || decide (10000000 < c.to))) 14,withinF c.rw 0 7,withinF c.co 0 31,whenF (decide (c.tx.size = 0)) 12,whenF (decide (32 < c.co + (c.tx.size:Int))) 26,whenF (badTx c.tx) 1]
structure CpOk (c:Cp):Prop where
  sp:0 ≤ c.fr ∧ c.fr < c.to ∧ c.to ≤ 10000000
  rw:0 ≤ c.rw ∧ c.rw ≤ 7
  co:0 ≤ c.co ∧ c.co ≤ 31
  ne:0 < c.tx.size
  fit:c.co + (c.tx.size:Int) ≤ 32
  by_:∀ i,i < c.tx.size → 32 ≤ bt c.tx i ∧ bt c.tx i ≤ 126
theorem cpE_zero {c:Cp}:cpE c = 0 ↔ CpOk c:=by
  unfold cpE
  rw [firstF_zero]
  simp only [List.mem_cons,List.not_mem_nil,or_false,forall_eq_or_imp,forall_eq,withinF_zero]
  rw [whenF_zero (by decide),whenF_zero (by decide),whenF_zero (by decide),whenF_zero (by decide),badTx_no]
  simp only [Bool.or_eq_false_iff,decide_eq_false_iff_not]
  constructor
  · rintro ⟨h1,h2,h3,h4,h5,h6⟩
    exact ⟨by omega,h2,h3,by omega,by omega,h6⟩
  · intro h
    have h1:=h.sp;have h4:=h.ne;have h5:=h.fit
    exact ⟨by omega,h.rw,h.co,by omega,by omega,h.by_⟩
def cfl (a b:Cp):Bool:=decide (a.rw = b.rw) && (decide (max a.fr b.fr < min a.to b.to) && decide (max a.co b.co < min (a.co + (a.tx.size:Int)) (b.co + (b.tx.size:Int))))
def cflQ (a b:Cp):Bool:=decide (a.rw = b.rw) && (decide (a.fr < b.to) && (decide (b.fr < a.to) && (decide (a.co < b.co + (b.tx.size:Int)) && decide (b.co < a.co + (a.tx.size:Int)))))
theorem cfl_iff {a b:Cp} (ha:CpOk a) (hb:CpOk b):cfl a b = cflQ a b:=by
  have h1:=ha.sp;have h2:=hb.sp;have h3:=ha.ne;have h4:=hb.ne
  rw [Bool.eq_iff_iff]
  unfold cfl cflQ
  simp only [Bool.and_eq_true,decide_eq_true_eq]
  omega
def nthC (l:List Cp) (k:Nat):Cp:=l.getD k Cp.zero
theorem nthC_get {l:List Cp} {k:Nat} (h:k < l.length):nthC l k = l[k]:=by
  unfold nthC;rw [List.getD_eq_getElem?_getD,List.getElem?_eq_getElem h];rfl
def cpAt (l:List Cp) (k:Nat):Int:=firstF [cpE (nthC l k),whenF ((l.take k).any (cfl (nthC l k))) 24]
def capE (l:List Cp):Int:=if 32 < l.length then 5 else errE (cpAt l) l.length
structure CapOk (l:List Cp):Prop where
  few:l.length ≤ 32
  ok:∀ k,k < l.length → CpOk (nthC l k)
  no:∀ k,k < l.length → ∀ j,j < k → cflQ (nthC l k) (nthC l j) = false
theorem capE_zero {l:List Cp}:capE l = 0 ↔ CapOk l:=by
  unfold capE
  split
  · constructor
    · intro h;exact absurd h (by decide)
    · intro h;have:=h.few;omega
  rename_i hl
  rw [errE_ok]
  have key:∀ k,k < l.length → (cpAt l k = 0 ↔ CpOk (nthC l k) ∧ ∀ j,j < k → cfl (nthC l k) (nthC l j) = false):=fun k hk=>by
    unfold cpAt
    rw [firstF_zero]
    simp only [List.mem_cons,List.not_mem_nil,or_false,forall_eq_or_imp,forall_eq]
    rw [whenF_zero (by decide),cpE_zero,List.any_eq_false]
    refine and_congr_right fun _=>⟨fun h j hj=>?_,fun h x hx=>?_⟩
    · have hj2:j < l.length:=by omega
      rw [nthC_get hj2,← Bool.not_eq_true]
      exact h _ (List.mem_take_iff_getElem.2 ⟨j,by omega,rfl⟩)
    · obtain ⟨j,hj,rfl⟩:=List.mem_take_iff_getElem.1 hx
      have:=h j (by omega)
      rw [nthC_get (l:=l) (k:=j) (by omega)] at this
      rw [this];decide
  constructor
  · intro h
    have ho:∀ k,k < l.length → CpOk (nthC l k):=fun k hk=>((key k hk).1 (h k hk)).1
    refine ⟨by omega,ho,fun k hk j hj=>?_⟩
    rw [← cfl_iff (ho k hk) (ho j (by omega))]
    exact ((key k hk).1 (h k hk)).2 j hj
  · intro h k hk
    refine (key k hk).2 ⟨h.ok k hk,fun j hj=>?_⟩
    rw [cfl_iff (h.ok k hk) (h.ok j (by omega))]
    exact h.no k hk j hj
def onC (x:Cp) (n:Int) (r:Int):Bool:=decide (x.rw = r) && (decide (x.fr ≤ n) && decide (n < x.to))
def cov (x:Cp) (n:Int) (r:Int) (k:Nat):Bool:=onC x n r && (decide (x.co ≤ (k:Int)) && decide ((k:Int) < x.co + (x.tx.size:Int)))
def shS (n:Int) (r:Int) (k:Nat) (b:Int) (x:Cp):Int:=if cov x n r k then bt x.tx ((k:Int) - x.co).toNat else b
def shB (l:List Cp) (n r:Int) (k:Nat):Int:=l.foldl (shS n r k) 32
theorem shB_snoc (l:List Cp) (x:Cp) (n r:Int) (k:Nat):shB (l++[x]) n r k = shS n r k (shB l n r k) x:=by unfold shB;rw [List.foldl_append];rfl
def rowB (l:List Cp) (n r:Int):List Int:=(List.range 32).map (shB l n r)
theorem rowB_len (l:List Cp) (n r:Int):(rowB l n r).length = 32:=by unfold rowB;rw [List.length_map,List.length_range]
def endB (l:List Cp) (n:Int):Bool:=l.any fun x=>decide (x.fr = n) || decide (x.to = n)
def strB (l:List Int):ByteArray:=⟨(l.map fun n=>UInt8.ofNat n.toNat).toArray⟩
theorem strB_size (l:List Int):(strB l).size = l.length:=by show (l.map _).toArray.size = _;simp
def scrL (l:List Cp) (n:Int):List ByteArray:=(List.range 8).map fun r=>strB (rowB l n (r:Nat))
def chB (l:List Cp) (n:Int):Bool:=decide (scrL l n ≠ scrL l (n - 1))
theorem inc_uniq:∀ {a b:List Nat},a.Pairwise (· < ·) → b.Pairwise (· < ·) → (∀ x,x ∈ a ↔ x ∈ b) → a = b
  | [],[],_,_,_=>rfl
  | [],y :: b,_,_,h=>by have:=(h y).2 (by simp);cases this
  | x :: a,[],_,_,h=>by have:=(h x).1 (by simp);cases this
  | x :: a, y :: b, ha, hb, h => by
    rw [List.pairwise_cons] at ha hb
    have h1:=(h x).1 (by simp)
    have h2:=(h y).2 (by simp)
    have e:x = y:=by
      rcases List.mem_cons.1 h1 with e | h1
      · exact e
      rcases List.mem_cons.1 h2 with e | h2
      · exact e.symm
      have:=ha.1 y h2;have:=hb.1 x h1;omega
    subst e
    rw [inc_uniq ha.2 hb.2 fun z=>?_]
    have:=h z
    constructor
    · intro hz
      have h3:=ha.1 z hz
      rcases List.mem_cons.1 (this.1 (by simp [hz])) with e | h4
      · omega
      · exact h4
    · intro hz
      have h3:=hb.1 z hz
      rcases List.mem_cons.1 (this.2 (by simp [hz])) with e | h4
      · omega
      · exact h4
end Go.Proofs.A1
namespace Go.Proofs.A1
open Go Go.SL
end Go.Proofs.A1
namespace Go.Proofs.A1
open Go Go.SL
theorem ofNat_toNat {k:Nat} (h:k < 256):(UInt8.ofNat k).toNat = k:=by simp [Nat.mod_eq_of_lt h]
end Go.Proofs.A1
namespace Go.Proofs.A1
open Go Go.SL
def atD (l:List UInt8) (i:Nat):UInt8:=l.getD i 0
def d2 (l:List UInt8) (i:Nat):Int:=10 * (((atD l i).toNat:Int) - 48) + (((atD l (i + 1)).toNat:Int) - 48)
structure Tk where
  h:Int
  m:Int
  s:Int
  f:Int
  c:UInt8
  rest:List UInt8
  bad:Bool
end Go.Proofs.A1
namespace Go.Proofs.A1
open Go Go.SL
end Go.Proofs.A1
namespace Go.Proofs.A1
open Go Go.SL
end Go.Proofs.A1
namespace Go.Proofs.A1
open Go Go.SL
end Go.Proofs.A1
namespace Go.Proofs.A1
open Go Go.SL
def cntQ (b:Int):Nat → Int
  | 0=>0
  | k + 1=>cntQ b k + b / 2 ^ k % 2
def oddB (b:Int):Bool:=decide (cntQ b 8 % 2 = 1)
theorem oddX:∀ k:Nat,k < 256 → ∀ j:Nat,j < 8 → oddB (xorF (k:Int) ((2 ^ j:Nat):Int)) = !oddB (k:Int):=by decide +kernel
end Go.Proofs.A1
namespace Go.SL
open Go
section
variable {P:Program} {r:Option Nat} {c:Cx} {D:List Nat} {sl:Slots} {hs hs':List Asn} {ops:Array Oper} {Q:Exit → Act → World → Prop} {rest:List Oper} {d:Nat} {ty:TypeId} {pos:String} {af:Array Edge}
def bytesV (s:ByteArray):List Value:=s.data.toList.map fun b=>Value.int .u8 (b.toNat:Nat)
theorem bytesV_length (s:ByteArray):(bytesV s).length = s.size:=by unfold bytesV;rw [List.length_map];rfl
theorem tr_copyS {t t2 e:TypeId} {x y:Operand} {s:ByteArray} {g o n cap:Nat} {E:TypeId} {cs:List Value} [hu:Und P t (.slice e)] [hT:Ty P e false 1]
    (hx:Is sl x (.slice (some ⟨g,o,none⟩) n cap)) (hy:Is sl y (.string s)) (ht:Take hs (blk g (.cells cs.toArray E (0,0))) hs') (hn:s.size ≤ n) (hfit:o + s.size ≤ cs.length) (hd:Nat.blt d c.nt = true)
    (k:Tr c D ((d,.int .i64 (s.size:Nat)) :: sl) (blk g (.cells (setCells cs o (bytesV s)).toArray E (0,0)) :: hs') (WL P r ops Q rest)) :
    Tr c D sl hs (WL P r ops Q (⟨some d,.call ⟨.builtin .copy,#[x,y],#[t,t2]⟩,ty,pos,af,none⟩ :: rest)):=fun a w hst=>by
  obtain ⟨de,i,hde,hi,_,hsize⟩:=Ty.parts (P:=P) (t:=e) (agg:=false) (n:=1)
  have hm:=hst.mem.take (ht.append _)
  have hg:w.heap[g]? = some (.cells cs.toArray E (0,0)):=hm.blk .here
  obtain ⟨w',h3,h4,h5⟩:=rk_storeCells (P:=P) (o:=o) (bytesV s) 0 cs w hg (fun u hu=>by
    obtain ⟨b,_,rfl⟩:=List.mem_map.1 hu;rfl) (by rw [bytesV_length];omega)
  have hmin:Nat.min s.size n = s.size:=Nat.min_eq_left hn
  have hex:s.extract 0 s.size = s:=by
    apply ByteArray.ext;simp
  have hload:(Builtin.firstCells 1 s.size (.string s)).run P w = .ok (bytesV s).toArray w:=by
    simp only [Builtin.firstCells,hex]
    have:(s.data.map fun b=>Value.int .u8 (b.toNat:Nat)) = (bytesV s).toArray:=by
      apply Array.toList_inj.1
      unfold bytesV
      rw [Array.toList_map]
    rw [← this];rfl
  refine wl_op rfl ⟨fr_about _ _ _ _ _,?_⟩
  rw [Oper.semAt_eq _ _ _ (by simp)]
  have:(execOp a.eval ⟨some d,.call ⟨.builtin .copy,#[x,y],#[t,t2]⟩,ty,pos,af,none⟩).run P w = .ok (.value (.int .i64 (s.size:Nat))) w':=by
    have hlenV:(Builtin.lenOf (.string s)).run P w = .ok s.size w:=rfl
    simp [execOp,resolve,invoke,builtin,hx a hst.slots,hy a hst.slots,Builtin.copy_,rk_underlying hu.eq,hlenV,sizeOf,typeInfo,hi,hsize,hload,h3,goInt,hmin]
  rw [this]
  have hm2:=Mem.store hm h4 h5
  rw [show (o + 0:Nat) = o from rfl] at hm2
  exact k _ _ ((hst.put (by simpa [Nat.blt_eq] using hd) _).heap hm2)
end
end Go.SL
namespace Go.Proofs.A1
open Go Go.SL
abbrev Rt.cells (r:Rt):List Value:=[.int .i64 r.fr,.bool r.dr]
abbrev Lb.cells (l:Lb):List Value:=[.int .i64 l.h,.int .i64 l.m,.int .i64 l.s,.int .i64 l.f]
abbrev Stm.cells (s:Stm):List Value:=[.int .i64 s.ra.fr,.bool s.ra.dr,.int .i64 s.la.h,.int .i64 s.la.m,.int .i64 s.la.s,.int .i64 s.la.f,.int .i64 s.us]
abbrev hitC (x:Stm × Nat):List Value:=[.int .i64 x.1.ra.fr,.bool x.1.ra.dr,.int .i64 x.1.la.h,.int .i64 x.1.la.m,.int .i64 x.1.la.s,.int .i64 x.1.la.f,.int .i64 x.1.us,.int .i64 (x.2:Nat)]
abbrev Cp.cells (x:Cp):List Value:=[.int .i64 x.fr,.int .i64 x.to,.int .i64 x.rw,.int .i64 x.co,.string x.tx]
abbrev natC (n:Nat):List Value:=[.int .i64 (n:Nat)]
abbrev byC (n:Int):List Value:=[.int .u8 n]
abbrev inC (n:Int):List Value:=[.int .i64 n]
def hts (l:List (Stm × Nat)):List (List Value):=l.map hitC
def cps (l:List Cp):List (List Value):=l.map Cp.cells
theorem cps_length (l:List Cp):(cps l).length = l.length:=by simp [cps]
theorem cps_get {l:List Cp} {k:Nat} (h:k < l.length):(cps l)[k]? = some ((Cp.cells) l[k]):=by simp [cps,h]
theorem cps_ne {l:List Cp} {k:Nat} (h:k < l.length):cps l ≠ []:=by intro e;have:=congrArg List.length e;rw [cps_length] at this;simp at this;subst this;simp at h
def natsV (l:List Nat):List Value:=l.flatMap natC
theorem natsV_app (a b:List Nat):natsV (a++b) = natsV a++natsV b:=by unfold natsV;rw [List.flatMap_append]
def byts (l:List Int):List (List Value):=l.map byC
def bytsV (l:List Int):List Value:=l.flatMap byC
theorem byts_length (l:List Int):(byts l).length = l.length:=by simp [byts]
theorem byts_get {l:List Int} {k:Nat} (h:k < l.length):(byts l)[k]? = some ((byC) l[k]):=by simp [byts,h]
theorem byts_ne {l:List Int} {k:Nat} (h:k < l.length):byts l ≠ []:=by intro e;have:=congrArg List.length e;rw [byts_length] at this;simp at this;subst this;simp at h
theorem byts_flat (l:List Int):bytsV l = (byts l).flatten:=by unfold bytsV byts;rw [List.flatMap_def]
theorem byts_sz (l:List Int):∀ r ∈ byts l,r.length = 1:=fun r hr=>by obtain ⟨x,_,rfl⟩:=List.mem_map.1 hr;rfl
theorem byts_one (l:List Int):∀ r ∈ byts l,∀ u ∈ r,u.oneCell' = true:=fun r hr=>by obtain ⟨x,_,rfl⟩:=List.mem_map.1 hr;exact okc_cons rfl okc_nil
theorem bytsV_len (l:List Int):(bytsV l).length = l.length * 1:=by rw [byts_flat,flat_len (byts_sz l),byts_length]
theorem bytsV_app (a b:List Int):bytsV (a++b) = bytsV a++bytsV b:=by unfold bytsV;rw [List.flatMap_append]
theorem byts_rd {c:Cx} {hs hs':List Asn} {w:World} {l:List Int} {E:TypeId} {v:Value} {n:Nat} (hm:Mem c hs w) (ht:Take hs (row E 1 v n (bytsV l)) hs') (hn:l.length = n):Rd w v 1 (byts l):=hm.rdRow ht (byts_flat l) (byts_sz l) (by rw [byts_length,hn])
def intg (l:List Int):List (List Value):=l.map inC
def intgV (l:List Int):List Value:=l.flatMap inC
theorem intg_length (l:List Int):(intg l).length = l.length:=by simp [intg]
theorem intg_get {l:List Int} {k:Nat} (h:k < l.length):(intg l)[k]? = some ((inC) l[k]):=by simp [intg,h]
theorem intg_ne {l:List Int} {k:Nat} (h:k < l.length):intg l ≠ []:=by intro e;have:=congrArg List.length e;rw [intg_length] at this;simp at this;subst this;simp at h
theorem intg_flat (l:List Int):intgV l = (intg l).flatten:=by unfold intgV intg;rw [List.flatMap_def]
theorem intg_sz (l:List Int):∀ r ∈ intg l,r.length = 1:=fun r hr=>by obtain ⟨x,_,rfl⟩:=List.mem_map.1 hr;rfl
theorem intg_rd {c:Cx} {hs hs':List Asn} {w:World} {l:List Int} {E:TypeId} {v:Value} {n:Nat} (hm:Mem c hs w) (ht:Take hs (row E 1 v n (intgV l)) hs') (hn:l.length = n):Rd w v 1 (intg l):=hm.rdRow ht (intg_flat l) (intg_sz l) (by rw [intg_length,hn])
end Go.Proofs.A1
namespace Go.Proofs.A1
open Go Go.SL
def idxG {α:Type} (p:α → Bool) (l:List α):Int:=((List.range l.length).find? fun i=>(l[i]?.map p).getD false).elim (-1) (fun i=>(i:Int))
theorem idxG_at {α:Type} {p:α → Bool} {l:List α} {k:Nat} (h:∀ i,i < k → (l[i]?.map p).getD false = false) (hk:k < l.length) (hp:p l[k] = true):idxG p l = k:=by
  unfold idxG
  have:(List.range l.length).find? (fun i=>(l[i]?.map p).getD false) = some k:=by
    rw [List.find?_range_eq_some]
    exact ⟨by simp [hk,hp],by simpa using hk,fun i hi=>by simpa using h i hi⟩
  rw [this];rfl
theorem idxG_none {α:Type} {p:α → Bool} {l:List α} (h:∀ i,i < l.length → (l[i]?.map p).getD false = false):idxG p l = -1:=by
  unfold idxG
  have:(List.range l.length).find? (fun i=>(l[i]?.map p).getD false) = none:=by
    rw [List.find?_eq_none]
    intro i hi
    simp [h i (List.mem_range.1 hi)]
  rw [this];rfl
theorem idxG_any {α:Type} (p:α → Bool) (l:List α):decide (0 ≤ idxG p l) = l.any p:=by
  unfold idxG
  cases h:(List.range l.length).find? fun i=>(l[i]?.map p).getD false with
  | none =>
    have:l.any p = false:=by
      rw [List.any_eq_false]
      intro x hx
      obtain ⟨i,hi,rfl⟩:=List.getElem_of_mem hx
      have:=List.find?_eq_none.1 h i (List.mem_range.2 hi)
      simpa [hi] using this
    rw [this];rfl
  | some i =>
    have h1:=List.mem_range.1 (List.mem_of_find?_eq_some h)
    have h2:=List.find?_some h
    have:l.any p = true:=by
      rw [List.any_eq_true]
      exact ⟨l[i],List.getElem_mem h1,by simpa [h1] using h2⟩
    rw [this];simp
theorem index_c {lv:Value} {l:List Int} (x:Int) {w:World} (h:Rd w lv 1 (ints l)) :
    GivesV Tryd.prog 104 [lv,.int .i64 x] w (.int .i64 (idxG (fun y=>decide (x = y)) l)):=by
  obtain ⟨a,cp,b,o,rfl,hcap,hmax,ha,hc⟩:=h
  rw [ints_length] at *
  unfold maxLen at hmax
  refine givesV_of_tr Tryd.func104 rfl rfl ?_
  (refine s_r ?_;refine a_s rfl rfl ?_;refine n_t ?_;refine tr_seq ?_;refine s_r ?_;refine m_v rfl rfl ?_;refine tr_val (rk_len_slice (.of rfl)) rfl ?_;refine m_v rfl rfl ?_;refine n_t ?_;refine tr_block ?_)
  refine tr_for (fun k:Nat=>k ≤ l.length ∧ ∀ i,i < k → (l[i]?.map fun y=>decide (x = y)).getD false = false) (fun k=>[(8,.int .i64 k),(7,.int .i64 l.length),(0,.slice a l.length cp),(1,.int .i64 x)]) (fun _=>[]) (fun k=>l.length - k) ?_ ?_
  · apply tr_start 0 ⟨Nat.zero_le _,fun i h=>by omega⟩
    case hs1=>exact .cons rfl (.cons rfl (.cons rfl (.cons rfl .nil)))
    case ht=>(try simp only [List.take_zero,List.map_nil,List.nil_append]);exact .nil
  rintro k ⟨hk,hf⟩
  by_cases hlt:k < l.length
  · have ha':=ha (ints_ne hlt)
    have c0:w.cell? ⟨b,o + k * 1,none⟩ = some (.int .i64 l[k]):=(hc k _ (ints_get hlt)).2 0 _ rfl
    have hps:(l[k]?.map fun y=>decide (x = y)).getD false = decide (x = l[k]):=by simp [hlt]
    (refine s_r ?_;refine tr_val (rk_lss (.of rfl) (.of rfl)) rfl ?_;refine n_t ?_;refine tr_seq ?_;refine c_d rfl (fun hcd=>?_) (fun _=>by omega);refine s_t ?_;refine tr_seq ?_;refine tr_block ?_;refine s_r ?_;refine m_v rfl rfl ?_;refine a_s rfl rfl ?_;refine n_r ?_;refine m_v rfl rfl ?_;refine m_v rfl rfl ?_;refine m_v rfl rfl ?_;refine tr_val (rk_indexAddr (.of rfl) (.of rfl) ha' (by omega) hcd norm1_) rfl ?_;refine tr_val (rk_load1 (.of rfl) (At.base c0 rfl)) rfl ?_;refine tr_val (rk_eql (.of rfl) (.of rfl)) rfl ?_;refine n_t ?_;refine c_d rfl (fun hcd=>?_) (fun hcd=>?_);refine s_r ?_;refine m_v rfl rfl ?_;refine a_s rfl rfl ?_;refine n_t ?_;refine tr_ret ?_;refine tr_blk_ret ?_;refine tr_then_ret ?_;refine tr_then_ret ?_;refine tr_blk_ret ?_;refine tr_then_ret ?_;refine tr_retE rfl (ends1 rfl rfl) ?_;rotate_left;refine tr_skip ?_;refine tr_blk_normal ?_;refine tr_then ?_;refine tr_region ?_;refine tr_val (rk_add (.of rfl) (.of rfl) (ini (by omega))) rfl ?_;refine m_v rfl rfl ?_;refine n_t ?_;rotate_right)
    · rw [idxG_at hf hlt (by simpa using hcd)]
    · apply tr_next (k + 1) ⟨by omega,fun i hi=>by
        by_cases e:i = k
        · rw [e,hps];simpa using hcd
        · exact hf i (by omega)⟩ (by omega)
      case hs1=>exact .cons rfl (.cons rfl (.cons rfl (.cons rfl .nil)))
      case ht=>(try simp only [List.take_zero,List.map_nil,List.nil_append]);exact .nil
  · obtain rfl:k = l.length:=by omega
    (refine s_r ?_;refine tr_val (rk_lss (.of rfl) (.of rfl)) rfl ?_;refine n_t ?_;refine tr_seq ?_;refine c_d rfl (fun _=>by omega) (fun hcd=>?_);refine x_t ?_;refine tr_then_exit ?_;refine tr_blk_exit ?_;refine tr_then ?_;refine s_r ?_;refine a_s rfl rfl ?_;refine n_t ?_;refine tr_ret ?_;refine tr_retE rfl (ends1 rfl rfl) ?_)
    rw [idxG_none hf]
theorem contains_c {lv:Value} {l:List Int} (x:Int) {w:World} (h:Rd w lv 1 (ints l)) :
    GivesV Tryd.prog 83 [lv,.int .i64 x] w (.bool (l.contains x)):=by
  have hcl:∀ w',Keeps [] w w' → GivesV Tryd.prog 104 [lv,.int .i64 x] w' (.int .i64 (idxG (fun y=>decide (x = y)) l)):=fun w' hk=>index_c x (h.keeps hk)
  have e:l.contains x = l.any fun y=>decide (x = y):=by
    rw [List.contains_eq_any_beq];rfl
  rw [e,← idxG_any]
  refine givesV_of_tr Tryd.func83 rfl rfl ?_
  (refine s_r ?_;refine a_s rfl rfl ?_;refine n_r ?_;refine m_v rfl rfl ?_;refine m_v rfl rfl ?_;refine tr_callV (rk_call (.of rfl) (.cons (.of rfl) (.cons (.of rfl) .nil)) inferInstance normc_) rfl (fun w' hm'=>(hcl w' (Mem.keeps hm'))) ?_;refine tr_val (rk_geq (.of rfl) (.of rfl)) rfl ?_;refine a_s rfl rfl ?_;refine n_t ?_;refine tr_ret ?_;refine tr_retE rfl (ends1 rfl rfl) ?_)
  rfl
structure GlobR (w:World):Prop where
  n0:w.cell? ⟨0,0,none⟩ = some (.int .i64 24)
  n1:w.cell? ⟨0,1,none⟩ = some (.int .i64 25)
  n2:w.cell? ⟨0,2,none⟩ = some (.int .i64 30)
theorem cell_keeps {w w':World} {a:Addr} {v:Value} (h:w.cell? a = some v) (hs:a.spot = none) (hk:Keeps [] w w'):w'.cell? a = some v:=by
  have hb:=World.block_lt_of_cell? w a h
  obtain ⟨b,o,s⟩:=a
  subst hs
  have:=hk.block b hb (by simp)
  rw [← h]
  simp [World.cell?,this]
theorem GlobR.keeps {w w':World} (h:GlobR w) (hk:Keeps [] w w'):GlobR w':=⟨cell_keeps h.n0 rfl hk,cell_keeps h.n1 rfl hk,cell_keeps h.n2 rfl hk⟩
theorem GlobR.rd {w:World} (h:GlobR w):Rd w (.slice (some ⟨0,0,none⟩) 3 3) 1 (ints [24,25,30]):=by
  refine ⟨_,3,0,0,rfl,by simp [ints],by unfold maxLen;omega,fun _=>rfl,fun i r hr=>?_⟩
  match i,hr with
  | 0,hr=>cases hr;exact ⟨rfl,fun j u hu=>by match j,hu with | 0,hu=>(cases hu;exact h.n0)⟩
  | 1,hr=>cases hr;exact ⟨rfl,fun j u hu=>by match j,hu with | 0,hu=>(cases hu;exact h.n1)⟩
  | 2,hr=>cases hr;exact ⟨rfl,fun j u hu=>by match j,hu with | 0,hu=>(cases hu;exact h.n2)⟩
theorem rate_has (x:Int) (w:World) (hG:GlobR w):GivesV Tryd.prog 83 [.slice (some ⟨0,0,none⟩) 3 3,.int .i64 x] w (.bool ([24,25,30].contains x)):=contains_c x hG.rd
theorem rate_eq (r:Rt):firstF [whenF (!([24,25,30]:List Int).contains r.fr) 13,whenF (r.dr && decide (r.fr ≠ 30)) 24] = rateF r:=by
  unfold rateF
  congr 2
  congr 1
  rw [Bool.eq_iff_iff]
  simp
theorem chkRate_c (r:Rt) (w:World) (hG:GlobR w):GivesV Tryd.prog 47 [.agg r.cells.toArray] w (.int .i64 (rateF r)):=by
  unfold Rt.cells
  refine givesV_of_tr Tryd.func47 rfl rfl ?_
  (refine s_r ?_;refine tr_new (rk_box (.of rfl) rfl) rfl (fun _ _=>?_);refine a_s rfl rfl ?_;refine n_t ?_;refine tr_seq ?_)
  with_reducible refine tr_draw 14 (by kernel_rfl) ?_
  (refine any_val (rk_sliceA (.of rfl)) rfl ?_;refine a_f rfl rfl norm0_ ?_;refine any_val (rk_load1 (.of rfl) (At.lit .here rfl)) rfl ?_;refine any_call (rk_call (.of rfl) (.cons (.of rfl) (.cons (.of rfl) .nil)) inferInstance normc_) rfl (fun w' hm'=>(rate_has _ w' (GlobR.keeps hG (Mem.keeps hm')))) ?_;refine any_val (rk_not (.of rfl)) rfl ?_;refine any_call (rk_call (.of rfl) (.cons (.of rfl) (.cons (.of rfl) .nil)) inferInstance normc_) rfl (fun w' hm'=>(when_c _ 13 w')) ?_;refine a_f rfl rfl norm0_ ?_;refine any_val (rk_load1 (.of rfl) (At.lit .here rfl)) rfl ?_;refine a_m rfl rfl ?_;refine any_vG1 rfl rfl inferInstance (fun hg hgp=>(rk_fieldAddr (.of rfl) norm0_)) rfl ?_;refine any_vG1 rfl rfl inferInstance (fun hg hgp=>(rk_load1 (.ofg hg rfl) (At.lit .here rfl))) rfl ?_;refine any_vG1 rfl rfl inferInstance (fun hg hgp=>(rk_neq (.ofg hg rfl) (.of rfl))) rfl ?_;refine any_val (rk_pick_and (.of rfl) rfl) rfl ?_;refine any_call (rk_call (.of rfl) (.cons (.of rfl) (.cons (.of rfl) .nil)) inferInstance normc_) rfl (fun w' hm'=>(when_c _ 24 w')) ?_)
  with_reducible refine any_end ?_
  (refine tr_new (rk_sliceLit (.cons (.of rfl) (.cons (.of rfl) .nil)) rfl rfl rfl rfl) rfl (fun _ _=>?_);refine tr_callV (rk_call (.of rfl) (.cons (.of rfl) .nil) inferInstance normc_) rfl (fun w' hm'=>(first_pB (Mem.rdBlk hm' .here rfl rfl) (IntL.cons (IntL.cons IntL.nil)))) ?_;refine a_s rfl rfl ?_;refine n_t ?_;refine tr_ret ?_;refine tr_retE rfl (ends1 rfl rfl) ?_)
  rw [← rate_eq]
end Go.Proofs.A1
namespace Go.Proofs.A1
open Go Go.SL
theorem tmod_ne (m:Int):decide (m.tmod 10 ≠ 0) = decide (m % 10 ≠ 0):=by
  rw [decide_eq_decide]
  have h1:=Int.dvd_iff_tmod_eq_zero (a:=10) (b:=m)
  have h2:=Int.dvd_iff_emod_eq_zero (a:=10) (b:=m)
  rw [Ne,Ne,← h1,← h2]
theorem dropped_c (l:Lb) (r:Rt) (w:World):GivesV Tryd.prog 84 [.agg l.cells.toArray,.agg r.cells.toArray] w (.bool (drpB r l)):=by
  unfold Rt.cells Lb.cells
  refine givesV_of_tr Tryd.func84 rfl rfl ?_
  (refine s_r ?_;refine tr_new (rk_box (.of rfl) rfl) rfl (fun _ _=>?_);refine tr_new (rk_box (.of rfl) rfl) rfl (fun _ _=>?_);refine a_s rfl rfl ?_;refine n_r ?_;refine f_a rfl rfl norm0_ ?_;refine tr_val (rk_load1 (.of rfl) (At.lit .here rfl)) rfl ?_;refine m_v rfl rfl ?_;refine tr_vG1 rfl rfl inferInstance (fun hg hgp=>(rk_fieldAddr (.of rfl) norm0_)) rfl ?_;refine tr_vG1 rfl rfl inferInstance (fun hg hgp=>(rk_load1 (.ofg hg rfl) (At.lit (.there .here) rfl))) rfl ?_;refine tr_vG1 rfl rfl inferInstance (fun hg hgp=>(rk_remT (.ofg hg rfl) (.of rfl) (by omega))) rfl ?_;refine tr_vG1 rfl rfl inferInstance (fun hg hgp=>(rk_neq (.ofg hg rfl) (.of rfl))) rfl ?_;refine tr_val (rk_pick_and (.of rfl) rfl) rfl ?_;refine m_v rfl rfl ?_;refine tr_vG1 rfl rfl inferInstance (fun hg hgp=>(rk_fieldAddr (.of rfl) norm0_)) rfl ?_;refine tr_vG1 rfl rfl inferInstance (fun hg hgp=>(rk_load1 (.ofg hg rfl) (At.lit (.there .here) rfl))) rfl ?_;refine tr_vG1 rfl rfl inferInstance (fun hg hgp=>(rk_eql (.ofg hg rfl) (.of rfl))) rfl ?_;refine tr_val (rk_pick_and (.of rfl) rfl) rfl ?_;refine m_v rfl rfl ?_;refine tr_vG1 rfl rfl inferInstance (fun hg hgp=>(rk_fieldAddr (.of rfl) norm0_)) rfl ?_;refine tr_vG1 rfl rfl inferInstance (fun hg hgp=>(rk_load1 (.ofg hg rfl) (At.lit (.there .here) rfl))) rfl ?_;refine tr_vG1 rfl rfl inferInstance (fun hg hgp=>(rk_lss (.ofg hg rfl) (.of rfl))) rfl ?_;refine tr_val (rk_pick_and (.of rfl) rfl) rfl ?_;refine a_s rfl rfl ?_;refine n_t ?_;refine tr_ret ?_;refine tr_retE rfl (ends1 rfl rfl) ?_)
  unfold drpB
  rw [← tmod_ne]
  cases r.dr <;> simp [Bool.and_assoc]
theorem lblE_wrap (r:Rt) (l:Lb):firstF [rateF r,withinF l.h 0 23,withinF l.m 0 59,withinF l.s 0 59,withinF l.f 0 (IntKind.i64.wrap (r.fr - 1)),whenF (drpB r l) 7] = lblE r l:=by
  unfold lblE
  by_cases h:rateF r = 0
  · have:=(rateF_zero.1 h).fr
    have e:IntKind.i64.wrap (r.fr - 1) = r.fr - 1:=by unfold IntKind.wrap;simp [IntKind.signed,IntKind.bits];omega
    rw [e]
  · simp [firstF,h]
theorem chkLabel_c (r:Rt) (l:Lb) (w:World) (hG:GlobR w):GivesV Tryd.prog 50 [.agg r.cells.toArray,.agg l.cells.toArray] w (.int .i64 (lblE r l)):=by
  refine givesV_of_tr Tryd.func50 rfl rfl ?_
  unfold Rt.cells Lb.cells
  (refine s_r ?_;refine tr_new (rk_box (.of rfl) rfl) rfl (fun _ _=>?_);refine tr_new (rk_box (.of rfl) rfl) rfl (fun _ _=>?_);refine a_s rfl rfl ?_;refine n_t ?_;refine tr_seq ?_)
  with_reducible refine tr_draw 21 (by kernel_rfl) ?_
  (refine any_val (rk_loadB (.of rfl) (.there .here) norm_ (by rfl)) rfl ?_;refine any_call (rk_call (.of rfl) (.cons (.of rfl) .nil) inferInstance normc_) rfl (fun w' hm'=>(chkRate_c r w' (GlobR.keeps hG (Mem.keeps hm')))) ?_;refine a_f rfl rfl norm0_ ?_;refine any_val (rk_load1 (.of rfl) (At.lit .here rfl)) rfl ?_;refine any_call (rk_call (.of rfl) (.cons (.of rfl) (.cons (.of rfl) (.cons (.of rfl) .nil))) inferInstance normc_) rfl (fun w' hm'=>(within_c _ 0 23 w')) ?_;refine a_f rfl rfl norm0_ ?_;refine any_val (rk_load1 (.of rfl) (At.lit .here rfl)) rfl ?_;refine any_call (rk_call (.of rfl) (.cons (.of rfl) (.cons (.of rfl) (.cons (.of rfl) .nil))) inferInstance normc_) rfl (fun w' hm'=>(within_c _ 0 59 w')) ?_;refine a_f rfl rfl norm0_ ?_;refine any_val (rk_load1 (.of rfl) (At.lit .here rfl)) rfl ?_;refine any_call (rk_call (.of rfl) (.cons (.of rfl) (.cons (.of rfl) (.cons (.of rfl) .nil))) inferInstance normc_) rfl (fun w' hm'=>(within_c _ 0 59 w')) ?_;refine a_f rfl rfl norm0_ ?_;refine any_val (rk_load1 (.of rfl) (At.lit .here rfl)) rfl ?_;refine a_f rfl rfl norm0_ ?_;refine any_val (rk_load1 (.of rfl) (At.lit (.there .here) rfl)) rfl ?_)
  refine any_val (rk_subw (.of rfl) (.of rfl)) rfl ?_
  (refine any_call (rk_call (.of rfl) (.cons (.of rfl) (.cons (.of rfl) (.cons (.of rfl) .nil))) inferInstance normc_) rfl (fun w' hm'=>(within_c _ 0 _ w')) ?_;refine any_val (rk_loadB (.of rfl) .here norm_ (by rfl)) rfl ?_;refine any_val (rk_loadB (.of rfl) (.there .here) norm_ (by rfl)) rfl ?_;refine any_call (rk_call (.of rfl) (.cons (.of rfl) (.cons (.of rfl) .nil)) inferInstance normc_) rfl (fun w' hm'=>(dropped_c l r w')) ?_;refine any_call (rk_call (.of rfl) (.cons (.of rfl) (.cons (.of rfl) .nil)) inferInstance normc_) rfl (fun w' hm'=>(when_c _ 7 w')) ?_)
  with_reducible refine any_end ?_
  (refine tr_new (rk_sliceLit (.cons (.of rfl) (.cons (.of rfl) (.cons (.of rfl) (.cons (.of rfl) (.cons (.of rfl) (.cons (.of rfl) .nil)))))) rfl rfl rfl rfl) rfl (fun _ _=>?_);refine tr_callV (rk_call (.of rfl) (.cons (.of rfl) .nil) inferInstance normc_) rfl (fun w' hm'=>(first_pB (Mem.rdBlk hm' .here rfl rfl) (IntL.cons (IntL.cons (IntL.cons (IntL.cons (IntL.cons (IntL.cons IntL.nil)))))))) ?_;refine a_s rfl rfl ?_;refine n_t ?_;refine tr_ret ?_;refine tr_retE rfl (ends1 rfl rfl) ?_)
  rw [← lblE_wrap]
end Go.Proofs.A1
namespace Go.Proofs.A1
open Go Go.SL
end Go.Proofs.A1
namespace Go.Proofs.A1
open Go Go.SL
def Lb.zero:Lb:=⟨0,0,0,0⟩
theorem chkStamp_c (s:Stm) (w:World) (hG:GlobR w):GivesV Tryd.prog 52 [.agg s.cells.toArray] w (.int .i64 (stmE s)):=by
  refine givesV_of_tr Tryd.func52 rfl rfl ?_
  unfold Stm.cells
  (refine s_r ?_;refine tr_new (rk_box (.of rfl) rfl) rfl (fun _ _=>?_);refine a_s rfl rfl ?_;refine n_t ?_;refine tr_seq ?_)
  with_reducible refine tr_draw 8 (by kernel_rfl) ?_
  (refine a_f rfl rfl norm0_ ?_;refine any_val (rk_loadB (.of rfl) .here norm_ (by rfl)) rfl ?_;refine a_f rfl rfl norm0_ ?_;refine any_val (rk_loadB (.of rfl) .here norm_ (by rfl)) rfl ?_;refine any_call (rk_call (.of rfl) (.cons (.of rfl) (.cons (.of rfl) .nil)) inferInstance normc_) rfl (fun w' hm'=>(chkLabel_c _ _ w' (GlobR.keeps hG (Mem.keeps hm')))) ?_;refine a_f rfl rfl norm0_ ?_;refine any_val (rk_load1 (.of rfl) (At.lit .here rfl)) rfl ?_;refine any_call (rk_call (.of rfl) (.cons (.of rfl) (.cons (.of rfl) (.cons (.of rfl) .nil))) inferInstance normc_) rfl (fun w' hm'=>(within_c _ 0 65535 w')) ?_)
  with_reducible refine any_end ?_
  (refine tr_new (rk_sliceLit (.cons (.of rfl) (.cons (.of rfl) .nil)) rfl rfl rfl rfl) rfl (fun _ _=>?_);refine tr_callV (rk_call (.of rfl) (.cons (.of rfl) .nil) inferInstance normc_) rfl (fun w' hm'=>(first_pB (Mem.rdBlk hm' .here rfl rfl) (IntL.cons (IntL.cons IntL.nil)))) ?_;refine a_s rfl rfl ?_;refine n_t ?_;refine tr_ret ?_;refine tr_retE rfl (ends1 rfl rfl) ?_)
  rfl
end Go.Proofs.A1
