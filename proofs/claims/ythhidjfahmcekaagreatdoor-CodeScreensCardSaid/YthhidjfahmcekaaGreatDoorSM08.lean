/- Parts of the proof: U2 T6p T9p T1p T2p T8p TAp V1q TBp T3p T4p T5p T7p GkCopyS. -/
import Derived.Test.YthhidjfahmcekaaGreatDoorSM05
import Derived.Test.YthhidjfahmcekaaGreatDoorSM07
import Derived.Test.YthhidjfahmcekaaGreatDoorSM06
import Derived.Laws.RangeAny
import Derived.Laws.RangeString
import Derived.Test.YthhidjfahmcekaaGreatDoorSM01
import Derived.Lib.Join
import Derived.Lib.SplitLaws
import Derived.Lib.ItoaLen
set_option linter.unusedSectionVars false
set_option linter.unusedVariables false
set_option linter.unusedSimpArgs false
namespace Go.Proofs.A1
open Go Go.SL
def ints (es:List Int):List (List Value):=es.map fun e=>[.int .i64 e]
theorem ints_length (es:List Int):(ints es).length = es.length:=by simp [ints]
theorem ints_get {es:List Int} {k:Nat} (h:k < es.length):(ints es)[k]? = some [.int .i64 es[k]]:=by simp [ints,h]
theorem ints_ne {es:List Int} {k:Nat} (h:k < es.length):ints es ≠ []:=by intro e;have:=congrArg List.length e;rw [ints_length] at this;simp at this;subst this;simp at h
inductive IntL:List Value → List Int → Prop
  | nil:IntL [] []
  | cons {e:Int} {vs:List Value} {es:List Int} (h:IntL vs es):IntL (.int .i64 e :: vs) (e :: es)
theorem IntL.eq {vs:List Value} {es:List Int} (h:IntL vs es):(vs.map fun v=>[v]) = ints es:=by
  induction h with
  | nil=>rfl
  | cons h ih=>simp only [List.map_cons,ints,ih]
theorem when_q (h:Bool) (e:Int) (w:World):GivesV Tryz.prog 55 [.bool h,.int .i64 e] w (.int .i64 (whenF h e)):=by
  refine givesV_of_tr Tryz.func55 rfl rfl ?_
  (refine s_r ?_;refine a_s rfl rfl ?_;refine n_t ?_;refine tr_seq ?_;refine s_r ?_;refine m_v rfl rfl ?_;refine n_t ?_;refine c_b rfl (fun hcd=>?_) (fun hcd=>?_);refine s_r ?_;refine m_v rfl rfl ?_;refine a_s rfl rfl ?_;refine n_t ?_;refine r_t ?_;refine tr_retE rfl (ends1 rfl rfl) ?_;rotate_left;refine s_t ?_;refine s_r ?_;refine a_s rfl rfl ?_;refine n_t ?_;refine tr_ret ?_;refine tr_retE rfl (ends1 rfl rfl) ?_;rotate_right)
  all_goals simp [whenF, *]
theorem range_q (n l m:Int) (w:World):GivesV Tryz.prog 31 [.int .i64 n,.int .i64 l,.int .i64 m] w (.int .i64 (withinF n l m)):=by
  refine givesV_of_tr Tryz.func31 rfl rfl ?_
  (refine s_r ?_;refine a_s rfl rfl ?_;refine n_r ?_;refine m_v rfl rfl ?_;refine m_v rfl rfl ?_;refine tr_val (rk_lss (.of rfl) (.of rfl)) rfl ?_;refine m_v rfl rfl ?_;refine v_g rfl rfl rfl rfl ?_;refine v_g rfl rfl rfl rfl ?_;refine tr_vG1 rfl rfl inferInstance (fun hg hgp=>(rk_gtr (.ofg hg rfl) (.ofg hg rfl))) rfl ?_;refine tr_val (rk_pick_or (.of rfl) rfl) rfl ?_;refine tr_callV (rk_call (.of rfl) (.cons (.of rfl) (.cons (.of rfl) .nil)) inferInstance normc_) rfl (fun w' hm'=>(when_q _ 3 w')) ?_;refine a_s rfl rfl ?_;refine n_t ?_;refine tr_ret ?_;refine tr_retE rfl (ends1 rfl rfl) ?_)
  rfl
theorem first_q (v:Value) (es:List Int) (w:World) (h:Rd w v 1 (ints es)):GivesV Tryz.prog 30 [v] w (.int .i64 (firstF es)):=by
  obtain ⟨a,cap,b,o,rfl,hcap,hmax,ha,hc⟩:=h
  rw [ints_length] at *
  unfold maxLen at hmax
  refine givesV_of_tr Tryz.func30 rfl rfl ?_
  (refine s_r ?_;refine a_s rfl rfl ?_;refine n_t ?_;refine tr_seq ?_;refine s_r ?_;refine a_s rfl rfl ?_;refine n_t ?_;refine tr_block ?_)
  refine tr_for (fun k:Nat=>k ≤ es.length ∧ firstF es = firstF (es.drop k)) (fun k=>[(3,.int .i64 k),(0,.slice a es.length cap)]) (fun _=>[]) (fun k=>es.length - k) ?_ ?_
  · apply tr_start 0 ⟨Nat.zero_le _,rfl⟩
    case hs1=>exact .cons rfl (.cons rfl .nil)
    case ht=>(try simp only [List.take_zero,List.map_nil,List.nil_append]);exact .nil
  intro k ⟨hk,hf⟩
  by_cases hlt:k < es.length
  · have ha':=ha (ints_ne hlt)
    have hcell:=rd1 hc (ints_get hlt)
    have hs:=firstF_at hlt
    (refine tr_seq ?_;refine s_r ?_;refine m_v rfl rfl ?_;refine m_v rfl rfl ?_;refine tr_val (rk_len_slice (.of rfl)) rfl ?_;refine tr_val (rk_lss (.of rfl) (.of rfl)) rfl ?_;refine n_t ?_;refine c_d rfl (fun hcd=>?_) (fun _=>by omega);refine s_t ?_;refine tr_seq ?_;refine tr_block ?_;refine s_r ?_;refine m_v rfl rfl ?_;refine m_v rfl rfl ?_;refine tr_val (rk_indexAddr (.of rfl) (.of rfl) ha' (by omega) hcd norm1_) rfl ?_;refine tr_val (rk_load1 (.of rfl) (At.base hcell rfl)) rfl ?_;refine tr_val (rk_neq (.of rfl) (.of rfl)) rfl ?_;refine n_t ?_;refine c_d rfl (fun hcd=>?_) (fun hcd=>?_);refine s_r ?_;refine m_v rfl rfl ?_;refine m_v rfl rfl ?_;refine tr_val (rk_indexAddr (.of rfl) (.of rfl) ha' (by omega) (by assumption) norm1_) rfl ?_;refine tr_val (rk_load1 (.of rfl) (At.base hcell rfl)) rfl ?_;refine a_s rfl rfl ?_;refine n_t ?_;refine tr_ret ?_;refine tr_blk_ret ?_;refine tr_then_ret ?_;refine tr_then_ret ?_;refine tr_blk_ret ?_;refine tr_then_ret ?_;refine tr_retE rfl (ends1 rfl rfl) ?_;rotate_left;refine tr_skip ?_;refine tr_blk_normal ?_;refine tr_then ?_;refine tr_region ?_;refine m_v rfl rfl ?_;refine tr_val (rk_add (.of rfl) (.of rfl) (ini (by omega))) rfl ?_;refine a_s rfl rfl ?_;refine n_t ?_;rotate_right)
    · rw [hf,hs,if_pos hcd]
    · apply tr_next (k + 1) ⟨by omega,by rw [hf,hs,if_neg hcd]⟩ (by omega)
      case hs1=>exact .cons rfl (.cons rfl .nil)
      case ht=>(try simp only [List.take_zero,List.map_nil,List.nil_append]);exact .nil
  · (refine tr_seq ?_;refine s_r ?_;refine m_v rfl rfl ?_;refine m_v rfl rfl ?_;refine tr_val (rk_len_slice (.of rfl)) rfl ?_;refine tr_val (rk_lss (.of rfl) (.of rfl)) rfl ?_;refine n_t ?_;refine c_d rfl (fun _=>by omega) (fun hcd=>?_);refine x_t ?_;refine tr_then_exit ?_;refine tr_blk_exit ?_;refine tr_then ?_;refine s_r ?_;refine a_s rfl rfl ?_;refine n_t ?_;refine tr_ret ?_;refine tr_retE rfl (ends1 rfl rfl) ?_)
    rw [hf,List.drop_of_length_le (by omega)];rfl
theorem first_qB {v:Value} {cs:List Value} {es:List Int} {w:World} (h:Rd w v 1 (cs.map fun v=>[v])) (hl:IntL cs es):GivesV Tryz.prog 30 [v] w (.int .i64 (firstF es)):=
  first_q v es w (by rw [← hl.eq];exact h)
theorem when_c (h:Bool) (e:Int) (w:World):GivesV Tryz.prog 102 [.bool h,.int .i64 e] w (.int .i64 (whenF h e)):=by
  refine givesV_of_tr Tryz.func102 rfl rfl ?_
  (refine s_r ?_;refine a_s rfl rfl ?_;refine n_t ?_;refine tr_seq ?_;refine s_r ?_;refine m_v rfl rfl ?_;refine n_t ?_;refine c_b rfl (fun hcd=>?_) (fun hcd=>?_);refine s_r ?_;refine m_v rfl rfl ?_;refine a_s rfl rfl ?_;refine n_t ?_;refine r_t ?_;refine tr_retE rfl (ends1 rfl rfl) ?_;rotate_left;refine s_t ?_;refine s_r ?_;refine a_s rfl rfl ?_;refine n_t ?_;refine tr_ret ?_;refine tr_retE rfl (ends1 rfl rfl) ?_;rotate_right)
  all_goals simp [whenF, *]
theorem within_c (n l m:Int) (w:World):GivesV Tryz.prog 104 [.int .i64 n,.int .i64 l,.int .i64 m] w (.int .i64 (withinF n l m)):=by
  refine givesV_of_tr Tryz.func104 rfl rfl ?_
  (refine s_r ?_;refine a_s rfl rfl ?_;refine n_r ?_;refine m_v rfl rfl ?_;refine m_v rfl rfl ?_;refine tr_val (rk_lss (.of rfl) (.of rfl)) rfl ?_;refine m_v rfl rfl ?_;refine v_g rfl rfl rfl rfl ?_;refine v_g rfl rfl rfl rfl ?_;refine tr_vG1 rfl rfl inferInstance (fun hg hgp=>(rk_gtr (.ofg hg rfl) (.ofg hg rfl))) rfl ?_;refine tr_val (rk_pick_or (.of rfl) rfl) rfl ?_;refine tr_callV (rk_call (.of rfl) (.cons (.of rfl) (.cons (.of rfl) .nil)) inferInstance normc_) rfl (fun w' hm'=>(when_c _ 3 w')) ?_;refine a_s rfl rfl ?_;refine n_t ?_;refine tr_ret ?_;refine tr_retE rfl (ends1 rfl rfl) ?_)
  rfl
theorem first_c (v:Value) (es:List Int) (w:World) (h:Rd w v 1 (ints es)):GivesV Tryz.prog 101 [v] w (.int .i64 (firstF es)):=by
  obtain ⟨a,cap,b,o,rfl,hcap,hmax,ha,hc⟩:=h
  rw [ints_length] at *
  unfold maxLen at hmax
  refine givesV_of_tr Tryz.func101 rfl rfl ?_
  (refine s_r ?_;refine a_s rfl rfl ?_;refine n_t ?_;refine tr_seq ?_;refine s_r ?_;refine m_v rfl rfl ?_;refine tr_val (rk_len_slice (.of rfl)) rfl ?_;refine m_v rfl rfl ?_;refine n_t ?_;refine tr_block ?_)
  refine tr_for (fun k:Nat=>k ≤ es.length ∧ firstF es = firstF (es.drop k)) (fun k=>[(7,.int .i64 k),(6,.int .i64 es.length),(5,.slice a es.length cap)]) (fun _=>[]) (fun k=>es.length - k) ?_ ?_
  · apply tr_start 0 ⟨Nat.zero_le _,rfl⟩
    case hs1=>exact .cons rfl (.cons rfl (.cons rfl .nil))
    case ht=>(try simp only [List.take_zero,List.map_nil,List.nil_append]);exact .nil
  intro k ⟨hk,hf⟩
  by_cases hlt:k < es.length
  · have ha':=ha (ints_ne hlt)
    have hcell:=rd1 hc (ints_get hlt)
    have hs:=firstF_at hlt
    (refine s_r ?_;refine tr_val (rk_lss (.of rfl) (.of rfl)) rfl ?_;refine n_t ?_;refine tr_seq ?_;refine c_d rfl (fun hcd=>?_) (fun _=>by omega);refine s_t ?_;refine tr_seq ?_;refine tr_block ?_;refine s_r ?_;refine tr_val (rk_indexAddr (.of rfl) (.of rfl) ha' (by omega) hcd norm1_) rfl ?_;refine tr_val (rk_load1 (.of rfl) (At.base hcell rfl)) rfl ?_;refine a_s rfl rfl ?_;refine n_r ?_;refine m_v rfl rfl ?_;refine tr_val (rk_neq (.of rfl) (.of rfl)) rfl ?_;refine n_t ?_;refine c_d rfl (fun hcd=>?_) (fun hcd=>?_);refine s_r ?_;refine m_v rfl rfl ?_;refine a_s rfl rfl ?_;refine n_t ?_;refine tr_ret ?_;refine tr_blk_ret ?_;refine tr_then_ret ?_;refine tr_then_ret ?_;refine tr_blk_ret ?_;refine tr_then_ret ?_;refine tr_retE rfl (ends1 rfl rfl) ?_;rotate_left;refine tr_skip ?_;refine tr_blk_normal ?_;refine tr_then ?_;refine tr_region ?_;refine tr_val (rk_add (.of rfl) (.of rfl) (ini (by omega))) rfl ?_;refine m_v rfl rfl ?_;refine n_t ?_;rotate_right)
    · rw [hf,hs,if_pos hcd]
    · apply tr_next (k + 1) ⟨by omega,by rw [hf,hs,if_neg hcd]⟩ (by omega)
      case hs1=>exact .cons rfl (.cons rfl (.cons rfl .nil))
      case ht=>(try simp only [List.take_zero,List.map_nil,List.nil_append]);exact .nil
  · (refine s_r ?_;refine tr_val (rk_lss (.of rfl) (.of rfl)) rfl ?_;refine n_t ?_;refine tr_seq ?_;refine c_d rfl (fun _=>by omega) (fun hcd=>?_);refine x_t ?_;refine tr_then_exit ?_;refine tr_blk_exit ?_;refine tr_then ?_;refine s_r ?_;refine a_s rfl rfl ?_;refine n_t ?_;refine tr_ret ?_;refine tr_retE rfl (ends1 rfl rfl) ?_)
    rw [hf,List.drop_of_length_le (by omega)];rfl
theorem first_pB {v:Value} {cs:List Value} {es:List Int} {w:World} (h:Rd w v 1 (cs.map fun v=>[v])) (hl:IntL cs es):GivesV Tryz.prog 101 [v] w (.int .i64 (firstF es)):=
  first_c v es w (by rw [← hl.eq];exact h)
theorem bt_eq {s:ByteArray} {p:Nat} (h:p < s.size):bt s p = ((s[p]'h).toNat:Nat):=by
  unfold bt
  have:s.data.toList[p]? = some (s[p]'h):=by
    rw [Array.getElem?_toList]
    exact getElem?_pos s.data p h
  rw [this];rfl
theorem decode_bt {s:ByteArray} {p:Nat} (h:p < s.size):(bt s p < 128 ∧ ((Utf8.decode s p).1:Int) = bt s p ∧ (Utf8.decode s p).2 = 1) ∨ (128 ≤ bt s p ∧ (128:Int) ≤ (Utf8.decode s p).1 ∧ 1 ≤ (Utf8.decode s p).2):=by
  rw [bt_eq h]
  by_cases ha:(s[p]'h).toNat < 128
  · have:=decode_ascii s p h ha
    left;rw [this];exact ⟨by omega,rfl,rfl⟩
  · have:=decode_high s p h (by omega)
    right;omega
theorem ne_empty {s:ByteArray}:s.size = 0 ↔ s = ⟨#[]⟩:=by
  constructor
  · intro h
    have:s.data = #[]:=Array.eq_empty_of_size_eq_zero h
    cases s;simp_all
  · rintro rfl;rfl
end Go.Proofs.A1
namespace Go.Proofs.A1
def repF (rp:List Int) (i:Nat):Nat:=(rp.getD (i % rp.length) 0).toNat
def fldL (rp:List Int) (n:Nat):List Nat:=(List.range n).flatMap fun i=>List.replicate (repF rp i) i
theorem fldL_succ (rp:List Int) (n:Nat):fldL rp (n + 1) = fldL rp n++List.replicate (repF rp n) n:=by
  unfold fldL
  rw [List.range_succ,List.flatMap_append]
  simp
def prsN:List Nat → List (Nat × Nat)
  | a :: b :: r=>(a,b) :: prsN r
  | _=>[]
theorem prsN_len:∀ l:List Nat,(prsN l).length = l.length / 2
  | []=>rfl
  | [a]=>by simp [prsN]
  | a :: b :: r => by
    rw [prsN,List.length_cons,prsN_len r,List.length_cons,List.length_cons];omega
theorem prsN_get:∀ (l:List Nat) (k:Nat),2 * k + 1 < l.length → (prsN l)[k]? = some (l.getD (2 * k) 0,l.getD (2 * k + 1) 0)
  | [],k,h=>by simp at h
  | [a],k,h=>by simp at h
  | a :: b :: r,0,h=>rfl
  | a :: b :: r, k + 1, h => by
    rw [List.length_cons,List.length_cons] at h
    rw [prsN,List.getElem?_cons_succ,prsN_get r k (by omega)]
    rfl
def pulF (rp:List Int) (n:Nat):List (Nat × Nat):=prsN (fldL rp n)
structure CdOk (rp:List Int):Prop where
  ne:0 < rp.length
  few:rp.length ≤ 8
  rep:∀ x ∈ rp,1 ≤ x ∧ x ≤ 4
theorem rep_in {rp:List Int} (h:CdOk rp) (i:Nat):1 ≤ repF rp i ∧ repF rp i ≤ 4:=by
  have hl:i % rp.length < rp.length:=Nat.mod_lt _ h.ne
  have:=h.rep _ (List.getElem_mem hl)
  unfold repF
  rw [List.getD_eq_getElem?_getD,List.getElem?_eq_getElem hl]
  show 1 ≤ (rp[i % rp.length]).toNat ∧ (rp[i % rp.length]).toNat ≤ 4
  omega
theorem fld_len (rp:List Int) (n:Nat):(fldL rp (n + 1)).length = (fldL rp n).length + repF rp n:=by rw [fldL_succ,List.length_append,List.length_replicate]
end Go.Proofs.A1
namespace Go.Proofs.A1
end Go.Proofs.A1
namespace Go.Proofs.A1
open Go Go.SL
structure Rt where
  fr:Int
  dr:Bool
structure Lb where
  h:Int
  m:Int
  s:Int
  f:Int
structure Stm where
  ra:Rt
  la:Lb
  us:Int
def rateF (r:Rt):Int:=firstF [whenF (decide (r.fr ≠ 24) && (decide (r.fr ≠ 25) && decide (r.fr ≠ 30))) 13,whenF (r.dr && decide (r.fr ≠ 30)) 24]
structure RtOk (r:Rt):Prop where
  fr:r.fr = 24 ∨ r.fr = 25 ∨ r.fr = 30
  dr:r.dr = true → r.fr = 30
theorem rateF_zero {r:Rt}:rateF r = 0 ↔ RtOk r:=by
  unfold rateF
  rw [firstF_zero]
  simp only [List.mem_cons,List.not_mem_nil,or_false,forall_eq_or_imp,forall_eq]
  rw [whenF_zero (by decide),whenF_zero (by decide)]
  constructor
  · intro h
    refine ⟨?_,fun hd=>?_⟩
    · have:=h.1
      simp only [Bool.and_eq_false_iff,decide_eq_false_iff_not] at this
      omega
    · have:=h.2
      rw [hd,Bool.true_and,decide_eq_false_iff_not] at this
      omega
  · intro h
    constructor
    · simp only [Bool.and_eq_false_iff,decide_eq_false_iff_not]
      have:=h.fr
      omega
    · cases hd:r.dr with
      | false=>rfl
      | true=>rw [Bool.true_and,decide_eq_false_iff_not];have:=h.dr hd;omega
def drpB (r:Rt) (l:Lb):Bool:=r.dr && (decide (l.m % 10 ≠ 0) && (decide (l.s = 0) && decide (l.f < 2)))
def lblE (r:Rt) (l:Lb):Int:=firstF [rateF r,withinF l.h 0 23,withinF l.m 0 59,withinF l.s 0 59,withinF l.f 0 (r.fr - 1),whenF (drpB r l) 7]
structure LbOk (r:Rt) (l:Lb):Prop where
  ra:RtOk r
  h:0 ≤ l.h ∧ l.h ≤ 23
  m:0 ≤ l.m ∧ l.m ≤ 59
  s:0 ≤ l.s ∧ l.s ≤ 59
  f:0 ≤ l.f ∧ l.f ≤ r.fr - 1
  d:r.dr = true → l.m % 10 ≠ 0 → l.s = 0 → 2 ≤ l.f
theorem lblE_zero {r:Rt} {l:Lb}:lblE r l = 0 ↔ LbOk r l:=by
  unfold lblE
  rw [firstF_zero]
  simp only [List.mem_cons,List.not_mem_nil,or_false,forall_eq_or_imp,forall_eq,withinF_zero,rateF_zero]
  rw [whenF_zero (by decide)]
  unfold drpB
  constructor
  · intro ⟨h1,h2,h3,h4,h5,h6⟩
    refine ⟨h1,h2,h3,h4,h5,fun hd a b=>?_⟩
    rw [hd,Bool.true_and] at h6
    simp only [Bool.and_eq_false_iff,decide_eq_false_iff_not] at h6
    omega
  · intro h
    refine ⟨h.ra,h.h,h.m,h.s,h.f,?_⟩
    cases hd:r.dr with
    | false=>rfl
    | true =>
      have:=h.d hd
      rw [Bool.true_and]
      simp only [Bool.and_eq_false_iff,decide_eq_false_iff_not]
      omega
def dayF (r:Rt):Int:=24 * 60 * 60 * r.fr - if r.dr then 2592 else 0
def frmF (r:Rt) (l:Lb):Int:=(60 * (60 * l.h + l.m) + l.s) * r.fr + l.f - if r.dr then 2 * ((60 * l.h + l.m) - (60 * l.h + l.m) / 10) else 0
def lbN (r:Rt) (n:Int):Int:=if r.dr then n + 18 * (n / 17982) + (if 1800 ≤ n % 17982 then 2 * (1 + (n % 17982 - 1800) / 1798) else 0) else n
def lblF (r:Rt) (n:Int):Lb:=⟨lbN r n / r.fr / 3600,lbN r n / r.fr / 60 % 60,lbN r n / r.fr % 60,lbN r n % r.fr⟩
theorem lb_ext {a b:Lb} (h1:a.h = b.h) (h2:a.m = b.m) (h3:a.s = b.s) (h4:a.f = b.f):a = b:=by
  cases a;cases b;dsimp only at h1 h2 h3 h4;subst h1 h2 h3 h4;rfl
theorem lb_plain {fr h m s f:Int} (hf:fr = 24 ∨ fr = 25 ∨ fr = 30) (hm:0 ≤ m ∧ m ≤ 59) (hs:0 ≤ s ∧ s ≤ 59) (h4:0 ≤ f ∧ f ≤ fr - 1) {n:Int} (hn:n = (60 * (60 * h + m) + s) * fr + f) :
    n / fr / 3600 = h ∧ n / fr / 60 % 60 = m ∧ n / fr % 60 = s ∧ n % fr = f:=by
  have hq:n / fr = 3600 * h + 60 * m + s:=by
    rcases hf with rfl | rfl | rfl <;> omega
  have hr:n % fr = f:=by
    rcases hf with rfl | rfl | rfl <;> omega
  rw [hq,hr]
  omega
theorem frm_lbl {r:Rt} {l:Lb} (h:LbOk r l):0 ≤ frmF r l ∧ frmF r l < dayF r ∧ lblF r (frmF r l) = l:=by
  have h1:=h.h
  have h2:=h.m
  have h3:=h.s
  have h4:=h.f
  have hfr:=h.ra.fr
  cases hd:r.dr with
  | false =>
    have e1:frmF r l = (60 * (60 * l.h + l.m) + l.s) * r.fr + l.f:=by unfold frmF;rw [hd];simp
    have e2:dayF r = 86400 * r.fr:=by unfold dayF;rw [hd];simp
    have e3:lbN r (frmF r l) = frmF r l:=by unfold lbN;rw [hd];simp
    have hp:=lb_plain hfr h2 h3 h4 e1
    refine ⟨?_,?_,?_⟩
    · rw [e1];rcases hfr with e | e | e <;> rw [e] <;> omega
    · rw [e1,e2];rcases hfr with e | e | e <;> rw [e] at h4 ⊢ <;> omega
    · unfold lblF
      rw [e3]
      exact lb_ext hp.1 hp.2.1 hp.2.2.1 hp.2.2.2
  | true =>
    have hf:=h.ra.dr hd
    have h5:=h.d hd
    rw [hf] at h4
    have e1:frmF r l = (60 * (60 * l.h + l.m) + l.s) * 30 + l.f - 2 * ((60 * l.h + l.m) - (60 * l.h + l.m) / 10):=by unfold frmF;rw [hd,hf];simp
    have e2:dayF r = 2589408:=by unfold dayF;rw [hd,hf];decide
    obtain ⟨t,u,hu,htu⟩:∃ t u:Int,(0 ≤ u ∧ u ≤ 9) ∧ 60 * l.h + l.m = 10 * t + u:=⟨(60 * l.h + l.m) / 10,(60 * l.h + l.m) % 10,by omega,by omega⟩
    have hu2:u = l.m % 10:=by omega
    have hrest:frmF r l = 17982 * t + (1798 * u + 30 * l.s + l.f):=by
      rw [e1,htu];omega
    have h6:u ≠ 0 → 2 ≤ 30 * l.s + l.f:=fun hne=>by
      by_cases e:l.s = 0
      · have:=h5 (by omega) e;omega
      · omega
    have hq:frmF r l / 17982 = t:=by
      rw [hrest];omega
    have hr:frmF r l % 17982 = 1798 * u + 30 * l.s + l.f:=by
      rw [hrest];omega
    have e3:lbN r (frmF r l) = (60 * (60 * l.h + l.m) + l.s) * 30 + l.f:=by
      unfold lbN
      rw [hd,if_pos rfl,hq,hr]
      by_cases e:u = 0
      · rw [if_neg (by omega),hrest];omega
      · have:=h6 e
        rw [if_pos (by omega),show (1798 * u + 30 * l.s + l.f - 1800) / 1798 = u - 1 by omega,hrest]
        omega
    have hp:=lb_plain (fr:=30) (.inr (.inr rfl)) h2 h3 h4 e3
    refine ⟨by rw [hrest];omega,by rw [hrest,e2];omega,?_⟩
    unfold lblF
    rw [hf]
    exact lb_ext hp.1 hp.2.1 hp.2.2.1 hp.2.2.2
theorem lbl_frm {r:Rt} {n:Int} (hr:RtOk r) (hn:0 ≤ n ∧ n < dayF r):LbOk r (lblF r n) ∧ frmF r (lblF r n) = n:=by
  have hfr:=hr.fr
  cases hd:r.dr with
  | false =>
    have e2:dayF r = 86400 * r.fr:=by unfold dayF;rw [hd];simp
    have e3:lbN r n = n:=by unfold lbN;rw [hd];simp
    have e4:lblF r n = ⟨n / r.fr / 3600,n / r.fr / 60 % 60,n / r.fr % 60,n % r.fr⟩:=by unfold lblF;rw [e3]
    rw [e4]
    obtain ⟨_,hn2⟩:=hn
    rw [e2] at hn2
    have hq:0 ≤ n / r.fr ∧ n / r.fr < 86400 ∧ n = r.fr * (n / r.fr) + n % r.fr ∧ 0 ≤ n % r.fr ∧ n % r.fr < r.fr:=by
      rcases hfr with e | e | e <;> rw [e] at hn2 ⊢ <;> omega
    obtain ⟨q1,q2,q3,q4,q5⟩:=hq
    refine ⟨⟨hr,?_,?_,?_,?_,fun h=>by rw [hd] at h;cases h⟩,?_⟩ <;> (try dsimp only)
    · omega
    · omega
    · omega
    · omega
    · unfold frmF
      rw [hd]
      dsimp only
      rw [show 60 * (60 * (n / r.fr / 3600) + n / r.fr / 60 % 60) + n / r.fr % 60 = n / r.fr by omega,if_neg (by decide),Int.sub_zero,Int.mul_comm]
      exact q3.symm
  | true =>
    have hf:=hr.dr hd
    have e2:dayF r = 2589408:=by unfold dayF;rw [hd,hf];decide
    rw [e2] at hn
    obtain ⟨t,q,hq,ht⟩:∃ t q:Int,(0 ≤ q ∧ q < 17982) ∧ n = 17982 * t + q:=⟨n / 17982,n % 17982,by omega,by omega⟩
    obtain ⟨u,v,hu,hv,hv2,hqv⟩:∃ u v:Int,(0 ≤ u ∧ u ≤ 9) ∧ (0 ≤ v ∧ v < 1800) ∧ (u ≠ 0 → 2 ≤ v) ∧ q = 1798 * u + v:=by
      by_cases e:q < 1800
      · exact ⟨0,q,by omega,by omega,fun h=>absurd rfl h,by omega⟩
      · exact ⟨1 + (q - 1800) / 1798,(q - 1800) % 1798 + 2,by omega,by omega,fun _=>by omega,by omega⟩
    have htq:n / 17982 = t ∧ n % 17982 = q:=by omega
    have e3:lbN r n = 18000 * t + 1800 * u + v:=by
      unfold lbN
      rw [hd,if_pos rfl,htq.1,htq.2]
      by_cases e:u = 0
      · by_cases e':1800 ≤ q
        · omega
        · rw [if_neg e'];omega
      · have:=hv2 e
        rw [if_pos (by omega),show (q - 1800) / 1798 = u - 1 by omega]
        omega
    have e4:lblF r n = ⟨(18000 * t + 1800 * u + v) / 30 / 3600,(18000 * t + 1800 * u + v) / 30 / 60 % 60,(18000 * t + 1800 * u + v) / 30 % 60,(18000 * t + 1800 * u + v) % 30⟩:=by unfold lblF;rw [e3,hf]
    rw [e4]
    have hs:(18000 * t + 1800 * u + v) / 30 = 600 * t + 60 * u + v / 30:=by omega
    have hf2:(18000 * t + 1800 * u + v) % 30 = v % 30:=by omega
    rw [hs,hf2]
    have hs60:(600 * t + 60 * u + v / 30) % 60 = v / 30:=by omega
    have hm60:(600 * t + 60 * u + v / 30) / 60 = 10 * t + u:=by omega
    have hh:(600 * t + 60 * u + v / 30) / 3600 = (10 * t + u) / 60:=by omega
    rw [hs60,hm60,hh]
    refine ⟨⟨hr,?_,?_,?_,?_,fun _ a b=>?_⟩,?_⟩ <;> (try dsimp only at *)
    · omega
    · omega
    · omega
    · rw [hf];omega
    · have:=hv2 (by omega);omega
    · unfold frmF
      rw [hd,hf]
      dsimp only
      rw [if_pos rfl,show 60 * ((10 * t + u) / 60) + (10 * t + u) % 60 = 10 * t + u by omega]
      omega
theorem day_pos {r:Rt} (h:RtOk r):2073600 ≤ dayF r ∧ dayF r ≤ 2592000:=by
  unfold dayF
  have:=h.fr
  have:=h.dr
  split
  · rename_i hd;have:=h.dr hd;omega
  · omega
def addF (r:Rt) (l:Lb) (k:Int):Lb:=lblF r ((frmF r l + k) % dayF r)
theorem mod_twice {x d:Int} (hd:0 < d):(x.tmod d + d) % d = x % d:=by
  rw [Int.add_emod_right,Int.tmod_def,Int.sub_eq_add_neg,← Int.mul_neg,Int.add_mul_emod_self_left]
theorem mod_range {x d:Int} (hd:0 < d):-d < x.tmod d ∧ x.tmod d < d:=by
  have h1:=Int.tmod_lt_of_pos x hd
  have h2:=Int.lt_tmod_of_pos x hd
  exact ⟨h2,h1⟩
theorem add_ok {r:Rt} {l:Lb} {k:Int} (h:RtOk r):LbOk r (addF r l k) ∧ frmF r (addF r l k) = (frmF r l + k) % dayF r:=by
  have hd:=day_pos h
  exact lbl_frm h ⟨Int.emod_nonneg _ (by omega),Int.emod_lt_of_pos _ (by omega)⟩
theorem add_add {r:Rt} {l:Lb} {j k:Int} (h:RtOk r):addF r (addF r l j) k = addF r l (j + k):=by
  unfold addF
  have:=(add_ok (l:=l) (k:=j) h).2
  unfold addF at this
  rw [this,Int.emod_add_emod,Int.add_assoc]
theorem add_zero {r:Rt} {l:Lb} (h:LbOk r l):addF r l 0 = l:=by
  unfold addF
  have:=frm_lbl h
  rw [Int.add_zero,Int.emod_eq_of_lt this.1 this.2.1]
  exact this.2.2
end Go.Proofs.A1
namespace Go.Proofs.A1
open Go Go.SL
theorem byte_nat {n:Int} (h:0 ≤ n ∧ n ≤ 255):∃ k:Nat,k < 256 ∧ n = (k:Int):=⟨n.toNat,by omega,by omega⟩
theorem and15N:∀ k:Nat,k < 256 → andF (k:Int) 15 = (k:Int) % 16:=by decide +kernel
theorem and15 {n:Int} (h:0 ≤ n ∧ n ≤ 255):andF n 15 = n % 16:=by obtain ⟨k,hk,rfl⟩:=byte_nat h;exact and15N k hk
theorem rateN:∀ k:Nat,k < 256 → (anotF (k:Int) 128 = (k:Int) % 128 ∧ andF (k:Int) 128 = (k:Int) / 128 * 128):=by decide +kernel
theorem rate_bits {n:Int} (h:0 ≤ n ∧ n ≤ 255):anotF n 128 = n % 128 ∧ andF n 128 = n / 128 * 128:=by obtain ⟨k,hk,rfl⟩:=byte_nat h;exact rateN k hk
theorem xorF_byte (a b:Int):0 ≤ xorF a b ∧ xorF a b ≤ 255:=by
  unfold xorF
  have:=(BitVec.ofInt 8 a ^^^ BitVec.ofInt 8 b).isLt
  omega
def parF (l:List Int):Int:=l.foldl xorF 0
theorem parF_snoc (l:List Int) (x:Int):parF (l++[x]) = xorF (parF l) x:=by unfold parF;rw [List.foldl_append];rfl
def bcd (n:Int):Int:=n / 10 * 16 + n % 10
def rtB (r:Rt):Int:=r.fr + if r.dr then 128 else 0
def w7 (s:Stm):List Int:=[bcd s.la.f,bcd s.la.s,bcd s.la.m,bcd s.la.h,rtB s.ra,s.us / 256,s.us % 256]
def wordF (s:Stm):List Int:=w7 s++[parF (w7 s),63,253]
def stmE (s:Stm):Int:=firstF [lblE s.ra s.la,withinF s.us 0 65535]
structure StOk (s:Stm):Prop where
  la:LbOk s.ra s.la
  us:0 ≤ s.us ∧ s.us ≤ 65535
theorem stmE_zero {s:Stm}:stmE s = 0 ↔ StOk s:=by
  unfold stmE
  rw [firstF_zero]
  simp only [List.mem_cons,List.not_mem_nil,or_false,forall_eq_or_imp,forall_eq,withinF_zero,lblE_zero]
  exact ⟨fun h=>⟨h.1,h.2⟩,fun h=>⟨h.la,h.us⟩⟩
def wa (w:List Int) (i:Nat):Int:=w.getD i 0
def unb (b:Int):Int:=b / 16 * 10 + b % 16
def badD (b:Int):Bool:=decide (9 < b / 16) || decide (9 < b % 16)
def stmW (w:List Int):Stm:=⟨⟨wa w 4 % 128,decide (128 ≤ wa w 4)⟩,⟨unb (wa w 3),unb (wa w 2),unb (wa w 1),unb (wa w 0)⟩,wa w 5 * 256 + wa w 6⟩
def rtOkB (b:Int):Bool:=decide (b = 24) || decide (b = 25) || decide (b = 30) || decide (b = 158)
def rdE (w:List Int):Int:=
  if wa w 8 ≠ 63 ∨ wa w 9 ≠ 253 then 1
  else if parF (w.take 7) ≠ wa w 7 then 27
  else if badD (wa w 0) || badD (wa w 1) || badD (wa w 2) || badD (wa w 3) then 1
  else if rtOkB (wa w 4) then stmE (stmW w) else 1
def Stm.zero:Stm:=⟨⟨0,false⟩,⟨0,0,0,0⟩,0⟩
def rdF (w:List Int):Stm:=if rdE w = 0 then stmW w else Stm.zero
theorem rt_ok {b:Int} (h:0 ≤ b ∧ b ≤ 255):rtOkB b = true ↔ rateF ⟨b % 128,decide (128 ≤ b)⟩ = 0:=by
  rw [rateF_zero]
  unfold rtOkB
  simp only [Bool.or_eq_true,decide_eq_true_eq]
  constructor
  · intro h1
    refine ⟨?_,fun hd=>?_⟩
    · show b % 128 = 24 ∨ b % 128 = 25 ∨ b % 128 = 30
      omega
    · have:128 ≤ b:=of_decide_eq_true hd
      show b % 128 = 30
      omega
  · rintro ⟨h1,h2⟩
    have h1:b % 128 = 24 ∨ b % 128 = 25 ∨ b % 128 = 30:=h1
    by_cases hb:128 ≤ b
    · have h2:b % 128 = 30:=h2 (decide_eq_true hb)
      omega
    · omega
end Go.Proofs.A1
namespace Go.Proofs.A1
open Go Go.SL
structure Cp where
  fr:Int
  to:Int
  rw:Int
  co:Int
  tx:ByteArray
def Cp.zero:Cp:=⟨0,0,0,0,⟨#[]⟩⟩
def badTx (s:ByteArray):Bool:=(List.range s.size).any fun i=>decide (bt s i < 32) || decide (126 < bt s i)
theorem badTx_no {s:ByteArray}:badTx s = false ↔ ∀ i,i < s.size → 32 ≤ bt s i ∧ bt s i ≤ 126:=by
  unfold badTx
  rw [List.any_eq_false]
  simp only [List.mem_range,Bool.or_eq_true,decide_eq_true_eq]
  constructor
  · intro h i hi;have:=h i hi;omega
  · intro h i hi;have:=h i hi;omega
def cpE (c:Cp):Int:=firstF [whenF (decide (c.fr < 0) || (decide (c.to ≤ c.fr) || decide (10000000 < c.to))) 14,withinF c.rw 0 7,withinF c.co 0 31,whenF (decide (c.tx.size = 0)) 12,whenF (decide (32 < c.co + (c.tx.size:Int))) 26,whenF (badTx c.tx) 1]
structure CpOk (c:Cp):Prop where
  sp:0 ≤ c.fr ∧ c.fr < c.to ∧ c.to ≤ 10000000
  rw:0 ≤ c.rw ∧ c.rw ≤ 7
  co:0 ≤ c.co ∧ c.co ≤ 31
  ne:0 < c.tx.size
  fit:c.co + (c.tx.size:Int) ≤ 32
  by_:∀ i,i < c.tx.size → 32 ≤ bt c.tx i ∧ bt c.tx i ≤ 126
theorem cpE_zero {c:Cp}:cpE c = 0 ↔ CpOk c:=by
  unfold cpE
  rw [firstF_zero]
  simp only [List.mem_cons,List.not_mem_nil,or_false,forall_eq_or_imp,forall_eq,withinF_zero]
  rw [whenF_zero (by decide),whenF_zero (by decide),whenF_zero (by decide),whenF_zero (by decide),badTx_no]
  simp only [Bool.or_eq_false_iff,decide_eq_false_iff_not]
  constructor
  · rintro ⟨h1,h2,h3,h4,h5,h6⟩
    exact ⟨by omega,h2,h3,by omega,by omega,h6⟩
  · intro h
    have h1:=h.sp;have h4:=h.ne;have h5:=h.fit
    exact ⟨by omega,h.rw,h.co,by omega,by omega,h.by_⟩
def cfl (a b:Cp):Bool:=decide (a.rw = b.rw) && (decide (max a.fr b.fr < min a.to b.to) && decide (max a.co b.co < min (a.co + (a.tx.size:Int)) (b.co + (b.tx.size:Int))))
def cflQ (a b:Cp):Bool:=decide (a.rw = b.rw) && (decide (a.fr < b.to) && (decide (b.fr < a.to) && (decide (a.co < b.co + (b.tx.size:Int)) && decide (b.co < a.co + (a.tx.size:Int)))))
theorem cfl_iff {a b:Cp} (ha:CpOk a) (hb:CpOk b):cfl a b = cflQ a b:=by
  have h1:=ha.sp;have h2:=hb.sp;have h3:=ha.ne;have h4:=hb.ne
  rw [Bool.eq_iff_iff]
  unfold cfl cflQ
  simp only [Bool.and_eq_true,decide_eq_true_eq]
  omega
def nthC (l:List Cp) (k:Nat):Cp:=l.getD k Cp.zero
theorem nthC_get {l:List Cp} {k:Nat} (h:k < l.length):nthC l k = l[k]:=by
  unfold nthC;rw [List.getD_eq_getElem?_getD,List.getElem?_eq_getElem h];rfl
def cpAt (l:List Cp) (k:Nat):Int:=firstF [cpE (nthC l k),whenF ((l.take k).any (cfl (nthC l k))) 24]
def capE (l:List Cp):Int:=if 32 < l.length then 5 else errE (cpAt l) l.length
structure CapOk (l:List Cp):Prop where
  few:l.length ≤ 32
  ok:∀ k,k < l.length → CpOk (nthC l k)
  no:∀ k,k < l.length → ∀ j,j < k → cflQ (nthC l k) (nthC l j) = false
theorem capE_zero {l:List Cp}:capE l = 0 ↔ CapOk l:=by
  unfold capE
  split
  · constructor
    · intro h;exact absurd h (by decide)
    · intro h;have:=h.few;omega
  rename_i hl
  rw [errE_ok]
  have key:∀ k,k < l.length → (cpAt l k = 0 ↔ CpOk (nthC l k) ∧ ∀ j,j < k → cfl (nthC l k) (nthC l j) = false):=fun k hk=>by
    unfold cpAt
    rw [firstF_zero]
    simp only [List.mem_cons,List.not_mem_nil,or_false,forall_eq_or_imp,forall_eq]
    rw [whenF_zero (by decide),cpE_zero,List.any_eq_false]
    refine and_congr_right fun _=>⟨fun h j hj=>?_,fun h x hx=>?_⟩
    · have hj2:j < l.length:=by omega
      rw [nthC_get hj2,← Bool.not_eq_true]
      exact h _ (List.mem_take_iff_getElem.2 ⟨j,by omega,rfl⟩)
    · obtain ⟨j,hj,rfl⟩:=List.mem_take_iff_getElem.1 hx
      have:=h j (by omega)
      rw [nthC_get (l:=l) (k:=j) (by omega)] at this
      rw [this];decide
  constructor
  · intro h
    have ho:∀ k,k < l.length → CpOk (nthC l k):=fun k hk=>((key k hk).1 (h k hk)).1
    refine ⟨by omega,ho,fun k hk j hj=>?_⟩
    rw [← cfl_iff (ho k hk) (ho j (by omega))]
    exact ((key k hk).1 (h k hk)).2 j hj
  · intro h k hk
    refine (key k hk).2 ⟨h.ok k hk,fun j hj=>?_⟩
    rw [cfl_iff (h.ok k hk) (h.ok j (by omega))]
    exact h.no k hk j hj
def onC (x:Cp) (n:Int) (r:Int):Bool:=decide (x.rw = r) && (decide (x.fr ≤ n) && decide (n < x.to))
def cov (x:Cp) (n:Int) (r:Int) (k:Nat):Bool:=onC x n r && (decide (x.co ≤ (k:Int)) && decide ((k:Int) < x.co + (x.tx.size:Int)))
def shS (n:Int) (r:Int) (k:Nat) (b:Int) (x:Cp):Int:=if cov x n r k then bt x.tx ((k:Int) - x.co).toNat else b
def shB (l:List Cp) (n r:Int) (k:Nat):Int:=l.foldl (shS n r k) 32
theorem shB_snoc (l:List Cp) (x:Cp) (n r:Int) (k:Nat):shB (l++[x]) n r k = shS n r k (shB l n r k) x:=by unfold shB;rw [List.foldl_append];rfl
def rowB (l:List Cp) (n r:Int):List Int:=(List.range 32).map (shB l n r)
theorem rowB_len (l:List Cp) (n r:Int):(rowB l n r).length = 32:=by unfold rowB;rw [List.length_map,List.length_range]
theorem shB_in {l:List Cp} (h:CapOk l) (n r:Int) (k:Nat):∀ j,j ≤ l.length → 32 ≤ shB (l.take j) n r k ∧ shB (l.take j) n r k ≤ 126
  | 0,_=>by rw [List.take_zero];exact ⟨Int.le_refl _,(by decide:(32:Int) ≤ 126)⟩
  | j + 1, hj => by
    have ih:=shB_in h n r k j (by omega)
    rw [List.take_succ_eq_append_getElem (by omega),shB_snoc]
    have ho:=h.ok j (by omega)
    rw [nthC_get (by omega)] at ho
    unfold shS
    split
    · rename_i hc
      simp only [cov,Bool.and_eq_true,decide_eq_true_eq] at hc
      exact ho.by_ _ (by omega)
    · exact ih
theorem shB_byte {l:List Cp} (h:CapOk l) (n r:Int) (k:Nat):32 ≤ shB l n r k ∧ shB l n r k ≤ 126:=by
  have:=shB_in h n r k l.length (Nat.le_refl _)
  rwa [List.take_length] at this
theorem shB_at {l:List Cp} (h:CapOk l) {j:Nat} (hj:j < l.length) {n:Int} {k:Nat} (hc:cov (nthC l j) n (nthC l j).rw k = true):shB l n (nthC l j).rw k = bt (nthC l j).tx ((k:Int) - (nthC l j).co).toNat:=by
  have key:∀ i,j < i → i ≤ l.length → shB (l.take i) n (nthC l j).rw k = bt (nthC l j).tx ((k:Int) - (nthC l j).co).toNat:=fun i=>by
    induction i with
    | zero=>intro h;omega
    | succ i ih =>
      intro h1 h2
      rw [List.take_succ_eq_append_getElem (by omega),shB_snoc,← nthC_get (by omega)]
      unfold shS
      by_cases e:j = i
      · subst e;rw [if_pos hc]
      · rw [if_neg,ih (by omega) (by omega)]
        intro hx
        have:=h.no i (by omega) j (by omega)
        have hoi:=h.ok i (by omega);have hoj:=h.ok j hj
        simp only [cov,onC,Bool.and_eq_true,decide_eq_true_eq] at hx hc
        rw [← Bool.not_eq_true] at this
        apply this
        simp only [cflQ,Bool.and_eq_true,decide_eq_true_eq]
        omega
  have:=key l.length hj (Nat.le_refl _)
  rwa [List.take_length] at this
def onA (x:Cp) (n:Int):Bool:=decide (x.fr ≤ n) && decide (n < x.to)
def endB (l:List Cp) (n:Int):Bool:=l.any fun x=>decide (x.fr = n) || decide (x.to = n)
theorem shB_same {l:List Cp} {n:Int} (h:endB l n = false) (r:Int) (k:Nat):shB l n r k = shB l (n - 1) r k:=by
  unfold shB
  have hx:∀ x ∈ l,x.fr ≠ n ∧ x.to ≠ n:=fun x hx=>by
    unfold endB at h
    rw [List.any_eq_false] at h
    have:=h x hx
    simp only [Bool.or_eq_true,decide_eq_true_eq] at this
    omega
  generalize (32:Int) = b
  clear h
  induction l generalizing b with
  | nil=>rfl
  | cons x l ih =>
    rw [List.foldl_cons,List.foldl_cons]
    have e:shS n r k b x = shS (n - 1) r k b x:=by
      unfold shS
      have:cov x n r k = cov x (n - 1) r k:=by
        have:=hx x (by simp)
        rw [Bool.eq_iff_iff]
        simp only [cov,onC,Bool.and_eq_true,decide_eq_true_eq]
        omega
      rw [this]
    rw [e]
    exact ih (fun y hy=>hx y (by simp [hy])) _
theorem shB_none {l:List Cp} {n:Int} (h:∀ x ∈ l,n < x.fr) (r:Int) (k:Nat):shB l n r k = 32:=by
  unfold shB
  induction l with
  | nil=>rfl
  | cons x l ih =>
    rw [List.foldl_cons]
    have e:shS n r k 32 x = 32:=by
      unfold shS
      rw [if_neg]
      simp only [cov,onC,Bool.and_eq_true,decide_eq_true_eq]
      have:=h x (by simp)
      omega
    rw [e]
    exact ih fun y hy=>h y (by simp [hy])
def strB (l:List Int):ByteArray:=⟨(l.map fun n=>UInt8.ofNat n.toNat).toArray⟩
theorem strB_size (l:List Int):(strB l).size = l.length:=by show (l.map _).toArray.size = _;simp
theorem strB_bt {l:List Int} (h:∀ x ∈ l,0 ≤ x ∧ x ≤ 255) {k:Nat} (hk:k < l.length):bt (strB l) k = l[k]:=by
  unfold bt strB
  have:=h _ (List.getElem_mem hk)
  simp only [List.getElem?_map,List.getElem?_eq_getElem hk,Option.map_some,Option.getD_some]
  rw [UInt8.toNat_ofNat']
  omega
def scrL (l:List Cp) (n:Int):List ByteArray:=(List.range 8).map fun r=>strB (rowB l n (r:Nat))
def chB (l:List Cp) (n:Int):Bool:=decide (scrL l n ≠ scrL l (n - 1))
theorem scr_same {l:List Cp} {n m:Int} (h:∀ r k,shB l n r k = shB l m r k):scrL l n = scrL l m:=by
  unfold scrL rowB
  refine List.map_congr_left fun r _=>?_
  congr 1
  exact List.map_congr_left fun k _=>h _ k
theorem ch_end {l:List Cp} {n:Int} (h:chB l n = true):endB l n = true:=by
  cases e:endB l n with
  | true=>rfl
  | false =>
    unfold chB at h
    rw [decide_eq_true_eq] at h
    exact absurd (scr_same (shB_same e)) h
def topC (l:List Cp):Nat:=l.foldl (fun m x=>max m (max x.fr.toNat x.to.toNat)) 0
theorem topC_le:∀ (l:List Cp) (m:Nat),m ≤ l.foldl (fun m x=>max m (max x.fr.toNat x.to.toNat)) m ∧ ∀ x ∈ l,x.fr.toNat ≤ l.foldl (fun m x=>max m (max x.fr.toNat x.to.toNat)) m ∧ x.to.toNat ≤ l.foldl (fun m x=>max m (max x.fr.toNat x.to.toNat)) m
  | [],m=>⟨Nat.le_refl _,fun x hx=>by cases hx⟩
  | y :: l, m => by
    rw [List.foldl_cons]
    have ih:=topC_le l (max m (max y.fr.toNat y.to.toNat))
    refine ⟨by have:=ih.1;omega,fun x hx=>?_⟩
    rcases List.mem_cons.1 hx with rfl | hx
    · have:=ih.1;omega
    · exact ih.2 x hx
def chL (l:List Cp):List Nat:=(List.range (topC l + 1)).filter fun (n:Nat)=>endB l (n:Int) && chB l (n:Int)
theorem chL_mem {l:List Cp} {n:Nat}:n ∈ chL l ↔ endB l (n:Int) = true ∧ chB l (n:Int) = true:=by
  unfold chL
  rw [List.mem_filter,Bool.and_eq_true,List.mem_range]
  refine ⟨fun h=>h.2,fun h=>⟨?_,h⟩⟩
  have:=h.1
  unfold endB at this
  rw [List.any_eq_true] at this
  obtain ⟨x,hx,h2⟩:=this
  have:=(topC_le l 0).2 x hx
  unfold topC
  simp only [Bool.or_eq_true,decide_eq_true_eq] at h2
  omega
theorem chL_inc (l:List Cp):(chL l).Pairwise (· < ·):=List.Pairwise.filter _ List.pairwise_lt_range
theorem inc_uniq:∀ {a b:List Nat},a.Pairwise (· < ·) → b.Pairwise (· < ·) → (∀ x,x ∈ a ↔ x ∈ b) → a = b
  | [],[],_,_,_=>rfl
  | [],y :: b,_,_,h=>by have:=(h y).2 (by simp);cases this
  | x :: a,[],_,_,h=>by have:=(h x).1 (by simp);cases this
  | x :: a, y :: b, ha, hb, h => by
    rw [List.pairwise_cons] at ha hb
    have h1:=(h x).1 (by simp)
    have h2:=(h y).2 (by simp)
    have e:x = y:=by
      rcases List.mem_cons.1 h1 with e | h1
      · exact e
      rcases List.mem_cons.1 h2 with e | h2
      · exact e.symm
      have:=ha.1 y h2;have:=hb.1 x h1;omega
    subst e
    rw [inc_uniq ha.2 hb.2 fun z=>?_]
    have:=h z
    constructor
    · intro hz
      have h3:=ha.1 z hz
      rcases List.mem_cons.1 (this.1 (by simp [hz])) with e | h4
      · omega
      · exact h4
    · intro hz
      have h3:=hb.1 z hz
      rcases List.mem_cons.1 (this.2 (by simp [hz])) with e | h4
      · omega
      · exact h4
end Go.Proofs.A1
namespace Go.Proofs.A1
open Go Go.SL
def sumN (f:Nat → Nat):Nat → Nat
  | 0=>0
  | n + 1=>sumN f n + f n
theorem sumN_add {f g h:Nat → Nat}:∀ {n:Nat},(∀ k,k < n → f k = g k + h k) → sumN f n = sumN g n + sumN h n
  | 0,_=>rfl
  | n + 1, e => by
    rw [sumN,sumN,sumN,sumN_add (n:=n) fun k hk=>e k (by omega),e n (by omega)];omega
theorem sumN_zero {f:Nat → Nat}:∀ {n:Nat},(∀ k,k < n → f k = 0) → sumN f n = 0
  | 0,_=>rfl
  | n + 1,e=>by rw [sumN,sumN_zero fun k hk=>e k (by omega),e n (by omega)]
theorem sumN_one {f:Nat → Nat} {r:Nat}:∀ {n:Nat},(∀ k,k < n → k ≠ r → f k = 0) → sumN f n = if r < n then f r else 0
  | 0,_=>rfl
  | n + 1, e => by
    rw [sumN,sumN_one (r:=r) fun k hk=>e k (by omega)]
    by_cases h:r = n
    · subst h;rw [if_neg (by omega),if_pos (by omega)];omega
    · rw [e n (by omega) (fun e=>h e.symm)]
      by_cases h2:r < n
      · rw [if_pos h2,if_pos (by omega)];rfl
      · rw [if_neg h2,if_neg (by omega)]
theorem sumN_win (h:Nat → Nat) (c m:Nat):∀ N,sumN (fun k=>if c ≤ k ∧ k < c + m then h (k - c) else 0) N = sumN h (min m (N - c))
  | 0=>by rw [Nat.zero_sub,Nat.min_zero];rfl
  | N + 1 => by
    rw [sumN,sumN_win h c m N]
    split
    · rename_i hc
      rw [show min m (N + 1 - c) = min m (N - c) + 1 by omega,sumN,show min m (N - c) = N - c by omega]
    · rename_i hc
      rw [show min m (N + 1 - c) = min m (N - c) by omega];rfl
def nb (s:ByteArray):Nat:=sumN (fun i=>if bt s i ≠ 32 then 1 else 0) s.size
def nbS (l:List Cp) (n:Int):Nat:=sumN (fun r=>sumN (fun k=>if shB l n (r:Int) k ≠ 32 then 1 else 0) 32) 8
def nbC (l:List Cp) (n:Int) (j:Nat):Nat:=sumN (fun i=>if onA (nthC l i) n then nb (nthC l i).tx else 0) j
theorem shB_blank {l:List Cp} {n r:Int} {k:Nat}:∀ {j:Nat},j ≤ l.length → (∀ i,i < j → cov (nthC l i) n r k = false) → shB (l.take j) n r k = 32
  | 0,_,_=>by rw [List.take_zero];rfl
  | j + 1, hj, h => by
    rw [List.take_succ_eq_append_getElem (by omega),shB_snoc,shB_blank (j:=j) (by omega) fun i hi=>h i (by omega),← nthC_get (by omega)]
    unfold shS
    rw [if_neg (by rw [h j (by omega)];decide)]
theorem nb_step {l:List Cp} (h:CapOk l) {n:Int} {j:Nat} (hj:j < l.length):nbS (l.take (j + 1)) n = nbS (l.take j) n + if onA (nthC l j) n then nb (nthC l j).tx else 0:=by
  have hx:=h.ok j hj
  have hn:=h.no j hj
  have hoki:∀ i,i < l.length → CpOk (nthC l i):=h.ok
  generalize hxe:nthC l j = x at hx hn ⊢
  have hsn:∀ r k,shB (l.take (j + 1)) n r k = shS n r k (shB (l.take j) n r k) x:=fun r k=>by
    rw [List.take_succ_eq_append_getElem hj,shB_snoc,← nthC_get hj,hxe]
  have h0:=hx.rw;have h1:=hx.co;have h2:=hx.fit;have h3:=hx.ne
  obtain ⟨r0,hr0⟩:∃ r0:Nat,x.rw = (r0:Int):=⟨x.rw.toNat,by omega⟩
  obtain ⟨c0,hc0⟩:∃ c0:Nat,x.co = (c0:Int):=⟨x.co.toNat,by omega⟩
  by_cases ho:onA x n = true
  · rw [if_pos ho]
    have hon:∀ r k,cov x n r k = true ↔ r = (r0:Int) ∧ c0 ≤ k ∧ k < c0 + x.tx.size:=fun r k=>by
      simp only [onA,Bool.and_eq_true,decide_eq_true_eq] at ho
      simp only [cov,onC,Bool.and_eq_true,decide_eq_true_eq]
      omega
    have hbl:∀ (r:Int) (k:Nat),cov x n r k = true → shB (l.take j) n r k = 32:=fun r k hc=>by
      refine shB_blank (by omega) fun i hi=>?_
      rw [← Bool.not_eq_true]
      intro hci
      have hv:=hn i hi
      have hoi:=hoki i (by omega)
      rw [← Bool.not_eq_true] at hv
      apply hv
      simp only [cov,onC,Bool.and_eq_true,decide_eq_true_eq] at hc hci
      simp only [cflQ,Bool.and_eq_true,decide_eq_true_eq]
      omega
    let g:Nat → Nat → Nat:=fun r k=>if r = r0 ∧ c0 ≤ k ∧ k < c0 + x.tx.size then (if bt x.tx (k - c0) ≠ 32 then 1 else 0) else 0
    have hg:∀ r k,(if shB (l.take (j + 1)) n ((r:Nat):Int) k ≠ 32 then 1 else 0) = (if shB (l.take j) n ((r:Nat):Int) k ≠ 32 then 1 else 0) + g r k:=fun r k=>by
      rw [hsn]
      show _ = _ + (if r = r0 ∧ c0 ≤ k ∧ k < c0 + x.tx.size then (if bt x.tx (k - c0) ≠ 32 then 1 else 0) else 0)
      unfold shS
      by_cases hc:cov x n (r:Int) k = true
      · have hcc:=(hon _ _).1 hc
        rw [if_pos hc,hbl _ _ hc,if_pos (⟨by omega,hcc.2⟩:r = r0 ∧ c0 ≤ k ∧ k < c0 + x.tx.size),if_neg (show ¬ ((32:Int) ≠ 32) by decide),Nat.zero_add,hc0,show ((k:Int) - (c0:Int)).toNat = k - c0 by omega]
      · rw [if_neg hc,if_neg (c:=r = r0 ∧ _) (fun hh=>hc ((hon _ _).2 ⟨by omega,hh.2⟩)),Nat.add_zero]
    unfold nbS
    rw [sumN_add (g:=fun r=>sumN (fun k=>if shB (l.take j) n (r:Int) k ≠ 32 then 1 else 0) 32) (h:=fun r=>sumN (g r) 32) fun r _=>sumN_add fun k _=>hg r k]
    congr 1
    rw [sumN_one (f:=fun r=>sumN (g r) 32) (r:=r0) fun r _ hr=>sumN_zero fun k _=>if_neg fun hh=>hr hh.1,if_pos (show r0 < 8 by omega)]
    have e:g r0 = fun k=>if c0 ≤ k ∧ k < c0 + x.tx.size then (fun i=>if bt x.tx i ≠ 32 then 1 else 0) (k - c0) else 0:=by
      funext k
      show (if r0 = r0 ∧ c0 ≤ k ∧ k < c0 + x.tx.size then _ else 0) = _
      simp only [true_and]
    rw [e,sumN_win (fun i=>if bt x.tx i ≠ 32 then 1 else 0) c0 x.tx.size 32]
    unfold nb
    rw [show min x.tx.size (32 - c0) = x.tx.size by omega]
  · rw [if_neg ho]
    have:∀ r k,shB (l.take (j + 1)) n r k = shB (l.take j) n r k:=fun r k=>by
      rw [hsn]
      unfold shS
      rw [if_neg]
      simp only [cov,onC,onA,Bool.and_eq_true,decide_eq_true_eq] at ho ⊢
      omega
    unfold nbS
    simp only [this,Nat.add_zero]
theorem nb_all {l:List Cp} (h:CapOk l) (n:Int):∀ j,j ≤ l.length → nbS (l.take j) n = nbC l n j
  | 0, _ => by
    rw [List.take_zero]
    unfold nbS nbC
    rw [sumN]
    exact sumN_zero fun r _=>sumN_zero fun k _=>by rw [if_neg];simp [shB]
  | j + 1, hj => by
    rw [nb_step h (by omega),nb_all h n j (by omega)]
    rfl
end Go.Proofs.A1
namespace Go.Proofs.A1
open Go Go.SL
def itoaB (n:Int):ByteArray:=⟨(Lib.itoa n).toArray⟩
def joinB (l:List ByteArray) (sep:ByteArray):ByteArray:=⟨(Lib.join (l.map (·.data.toList)) sep.data.toList).toArray⟩
theorem ofNat_toNat {k:Nat} (h:k < 256):(UInt8.ofNat k).toNat = k:=by simp [Nat.mod_eq_of_lt h]
end Go.Proofs.A1
namespace Go.Proofs.A1
open Go Go.SL
def dgC (n:Int):UInt8:=UInt8.ofNat (48 + n).toNat
def twoL (n:Int):List UInt8:=[dgC (n / 10),dgC (n % 10)]
def mkC (b:Bool):UInt8:=if b then 59 else 58
def lbW (s:Stm):List UInt8:=[dgC (s.la.h / 10),dgC (s.la.h % 10),58,dgC (s.la.m / 10),dgC (s.la.m % 10),58,dgC (s.la.s / 10),dgC (s.la.s % 10),mkC s.ra.dr,dgC (s.la.f / 10),dgC (s.la.f % 10)]
def prtL (s:Stm):List UInt8:=lbW s++32 :: ([97,116]++32 :: (Lib.decDigits s.ra.fr.toNat++32 :: Lib.decDigits s.us.toNat))
def atD (l:List UInt8) (i:Nat):UInt8:=l.getD i 0
def d2 (l:List UInt8) (i:Nat):Int:=10 * (((atD l i).toNat:Int) - 48) + (((atD l (i + 1)).toNat:Int) - 48)
structure Tk where
  h:Int
  m:Int
  s:Int
  f:Int
  c:UInt8
  rest:List UInt8
  bad:Bool
end Go.Proofs.A1
namespace Go.Proofs.A1
open Go Go.SL
def win (s:List Int) (i:Nat):List Int:=(s.drop i).take 10
def hitF (s:List Int):Nat → Nat → List (Stm × Nat)
  | 0,_=>[]
  | n + 1,i=>if i + 10 ≤ s.length then (if rdE (win s i) = 0 then (rdF (win s i),i) :: hitF s n (i + 10) else hitF s n (i + 1)) else []
theorem hitF_fuel (s:List Int):∀ n i m,s.length - i ≤ n → s.length - i ≤ m → hitF s n i = hitF s m i
  | 0, i, m, h, _ => by
    cases m with
    | zero=>rfl
    | succ m=>rw [hitF,hitF,if_neg (by omega)]
  | n + 1,i,0,_,h=>by rw [hitF,hitF,if_neg (by omega)]
  | n + 1, i, m + 1, h1, h2 => by
    rw [hitF,hitF]
    split
    · split
      · rw [hitF_fuel s n (i + 10) m (by omega) (by omega)]
      · rw [hitF_fuel s n (i + 1) m (by omega) (by omega)]
    · rfl
def hitL (s:List Int) (i:Nat):List (Stm × Nat):=hitF s (s.length - i) i
theorem hit_hit {s:List Int} {i:Nat} (h:i + 10 ≤ s.length) (h0:rdE (win s i) = 0):hitL s i = (rdF (win s i),i) :: hitL s (i + 10):=by
  unfold hitL
  obtain ⟨n,hn⟩:∃ n,s.length - i = n + 1:=⟨s.length - i - 1,by omega⟩
  rw [hn,hitF,if_pos h,if_pos h0,hitF_fuel s n (i + 10) (s.length - (i + 10)) (by omega) (by omega)]
theorem hit_miss {s:List Int} {i:Nat} (h:i + 10 ≤ s.length) (h0:rdE (win s i) ≠ 0):hitL s i = hitL s (i + 1):=by
  unfold hitL
  obtain ⟨n,hn⟩:∃ n,s.length - i = n + 1:=⟨s.length - i - 1,by omega⟩
  rw [hn,hitF,if_pos h,if_neg h0,hitF_fuel s n (i + 1) (s.length - (i + 1)) (by omega) (by omega)]
theorem hit_end {s:List Int} {i:Nat} (h:s.length < i + 10):hitL s i = []:=by
  unfold hitL
  cases hn:s.length - i with
  | zero=>rfl
  | succ n=>rw [hitF,if_neg (by omega)]
end Go.Proofs.A1
namespace Go.Proofs.A1
open Go Go.SL
end Go.Proofs.A1
namespace Go.Proofs.A1
open Go Go.SL
end Go.Proofs.A1
namespace Go.Proofs.A1
open Go Go.SL
def trnP (b:Int):Nat → Int
  | 0=>0
  | k + 1=>orF (trnP b k) (IntKind.u8.wrap (andF (b / 2 ^ k) 1 * 2 ^ (7 - k)))
def trnQ (b:Int):Nat → Int
  | 0=>0
  | k + 1=>2 * trnQ b k + b / 2 ^ k % 2
theorem trnN:∀ k:Nat,k < 256 → (trnP (k:Int) 8 = trnQ (k:Int) 8 ∧ 0 ≤ trnQ (k:Int) 8 ∧ trnQ (k:Int) 8 ≤ 255 ∧ trnQ (trnQ (k:Int) 8) 8 = (k:Int)):=by decide +kernel
theorem trn_byte {b:Int} (h:0 ≤ b ∧ b ≤ 255):trnP b 8 = trnQ b 8 ∧ 0 ≤ trnQ b 8 ∧ trnQ b 8 ≤ 255 ∧ trnQ (trnQ b 8) 8 = b:=by
  obtain ⟨k,hk,rfl⟩:=byte_nat h
  exact trnN k hk
def revL (s:List Int):List Int:=(s.map fun b=>trnQ b 8).reverse
def cntQ (b:Int):Nat → Int
  | 0=>0
  | k + 1=>cntQ b k + b / 2 ^ k % 2
def oddB (b:Int):Bool:=decide (cntQ b 8 % 2 = 1)
theorem oddX:∀ k:Nat,k < 256 → ∀ j:Nat,j < 8 → oddB (xorF (k:Int) ((2 ^ j:Nat):Int)) = !oddB (k:Int):=by decide +kernel
end Go.Proofs.A1
namespace Go.SL
open Go
section
variable {P:Program} {r:Option Nat} {c:Cx} {D:List Nat} {sl:Slots} {hs hs':List Asn} {ops:Array Oper} {Q:Exit → Act → World → Prop} {rest:List Oper} {d:Nat} {ty:TypeId} {pos:String} {af:Array Edge}
def bytesV (s:ByteArray):List Value:=s.data.toList.map fun b=>Value.int .u8 (b.toNat:Nat)
theorem bytesV_length (s:ByteArray):(bytesV s).length = s.size:=by unfold bytesV;rw [List.length_map];rfl
theorem tr_copyS {t t2 e:TypeId} {x y:Operand} {s:ByteArray} {g o n cap:Nat} {E:TypeId} {cs:List Value} [hu:Und P t (.slice e)] [hT:Ty P e false 1]
    (hx:Is sl x (.slice (some ⟨g,o,none⟩) n cap)) (hy:Is sl y (.string s)) (ht:Take hs (blk g (.cells cs.toArray E (0,0))) hs') (hn:s.size ≤ n) (hfit:o + s.size ≤ cs.length) (hd:Nat.blt d c.nt = true)
    (k:Tr c D ((d,.int .i64 (s.size:Nat)) :: sl) (blk g (.cells (setCells cs o (bytesV s)).toArray E (0,0)) :: hs') (WL P r ops Q rest)) :
    Tr c D sl hs (WL P r ops Q (⟨some d,.call ⟨.builtin .copy,#[x,y],#[t,t2]⟩,ty,pos,af,none⟩ :: rest)):=fun a w hst=>by
  obtain ⟨de,i,hde,hi,_,hsize⟩:=Ty.parts (P:=P) (t:=e) (agg:=false) (n:=1)
  have hm:=hst.mem.take (ht.append _)
  have hg:w.heap[g]? = some (.cells cs.toArray E (0,0)):=hm.blk .here
  obtain ⟨w',h3,h4,h5⟩:=rk_storeCells (P:=P) (o:=o) (bytesV s) 0 cs w hg (fun u hu=>by
    obtain ⟨b,_,rfl⟩:=List.mem_map.1 hu;rfl) (by rw [bytesV_length];omega)
  have hmin:Nat.min s.size n = s.size:=Nat.min_eq_left hn
  have hex:s.extract 0 s.size = s:=by
    apply ByteArray.ext;simp
  have hload:(Builtin.firstCells 1 s.size (.string s)).run P w = .ok (bytesV s).toArray w:=by
    simp only [Builtin.firstCells,hex]
    have:(s.data.map fun b=>Value.int .u8 (b.toNat:Nat)) = (bytesV s).toArray:=by
      apply Array.toList_inj.1
      unfold bytesV
      rw [Array.toList_map]
    rw [← this];rfl
  refine wl_op rfl ⟨fr_about _ _ _ _ _,?_⟩
  rw [Oper.semAt_eq _ _ _ (by simp)]
  have:(execOp a.eval ⟨some d,.call ⟨.builtin .copy,#[x,y],#[t,t2]⟩,ty,pos,af,none⟩).run P w = .ok (.value (.int .i64 (s.size:Nat))) w':=by
    have hlenV:(Builtin.lenOf (.string s)).run P w = .ok s.size w:=rfl
    simp [execOp,resolve,invoke,builtin,hx a hst.slots,hy a hst.slots,Builtin.copy_,rk_underlying hu.eq,hlenV,sizeOf,typeInfo,hi,hsize,hload,h3,goInt,hmin]
  rw [this]
  have hm2:=Mem.store hm h4 h5
  rw [show (o + 0:Nat) = o from rfl] at hm2
  exact k _ _ ((hst.put (by simpa [Nat.blt_eq] using hd) _).heap hm2)
end
end Go.SL
