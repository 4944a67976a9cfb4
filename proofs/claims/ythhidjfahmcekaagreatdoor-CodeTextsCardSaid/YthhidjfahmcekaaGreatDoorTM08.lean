/- Parts of the proof: U2 T6p T9p T1p T2p T8p TAp V1q TBp T3p T4p T5p T7p GkCopyS. -/
import Derived.Test.YthhidjfahmcekaaGreatDoorTM05
import Derived.Test.YthhidjfahmcekaaGreatDoorTM07
import Derived.Test.YthhidjfahmcekaaGreatDoorTM06
import Derived.Laws.RangeAny
import Derived.Laws.RangeString
import Derived.Test.YthhidjfahmcekaaGreatDoorTM01
import Derived.Lib.Join
import Derived.Lib.SplitLaws
import Derived.Lib.ItoaLen
set_option linter.unusedSectionVars false
set_option linter.unusedVariables false
set_option linter.unusedSimpArgs false
namespace Go.Proofs.A1
open Go Go.SL
def ints (es:List Int):List (List Value):=es.map fun e=>[.int .i64 e]
theorem ints_length (es:List Int):(ints es).length = es.length:=by simp [ints]
theorem ints_get {es:List Int} {k:Nat} (h:k < es.length):(ints es)[k]? = some [.int .i64 es[k]]:=by simp [ints,h]
theorem ints_ne {es:List Int} {k:Nat} (h:k < es.length):ints es ≠ []:=by intro e;have:=congrArg List.length e;rw [ints_length] at this;simp at this;subst this;simp at h
inductive IntL:List Value → List Int → Prop
  | nil:IntL [] []
  | cons {e:Int} {vs:List Value} {es:List Int} (h:IntL vs es):IntL (.int .i64 e :: vs) (e :: es)
theorem IntL.eq {vs:List Value} {es:List Int} (h:IntL vs es):(vs.map fun v=>[v]) = ints es:=by
  induction h with
  | nil=>rfl
  | cons h ih=>simp only [List.map_cons,ints,ih]
theorem when_q (h:Bool) (e:Int) (w:World):GivesV Tryz.prog 55 [.bool h,.int .i64 e] w (.int .i64 (whenF h e)):=by
  refine givesV_of_tr Tryz.func55 rfl rfl ?_
  (refine s_r ?_;refine a_s rfl rfl ?_;refine n_t ?_;refine tr_seq ?_;refine s_r ?_;refine m_v rfl rfl ?_;refine n_t ?_;refine c_b rfl (fun hcd=>?_) (fun hcd=>?_);refine s_r ?_;refine m_v rfl rfl ?_;refine a_s rfl rfl ?_;refine n_t ?_;refine r_t ?_;refine tr_retE rfl (ends1 rfl rfl) ?_;rotate_left;refine s_t ?_;refine s_r ?_;refine a_s rfl rfl ?_;refine n_t ?_;refine tr_ret ?_;refine tr_retE rfl (ends1 rfl rfl) ?_;rotate_right)
  all_goals simp [whenF, *]
theorem range_q (n l m:Int) (w:World):GivesV Tryz.prog 31 [.int .i64 n,.int .i64 l,.int .i64 m] w (.int .i64 (withinF n l m)):=by
  refine givesV_of_tr Tryz.func31 rfl rfl ?_
  (refine s_r ?_;refine a_s rfl rfl ?_;refine n_r ?_;refine m_v rfl rfl ?_;refine m_v rfl rfl ?_;refine tr_val (rk_lss (.of rfl) (.of rfl)) rfl ?_;refine m_v rfl rfl ?_;refine v_g rfl rfl rfl rfl ?_;refine v_g rfl rfl rfl rfl ?_;refine tr_vG1 rfl rfl inferInstance (fun hg hgp=>(rk_gtr (.ofg hg rfl) (.ofg hg rfl))) rfl ?_;refine tr_val (rk_pick_or (.of rfl) rfl) rfl ?_;refine tr_callV (rk_call (.of rfl) (.cons (.of rfl) (.cons (.of rfl) .nil)) inferInstance normc_) rfl (fun w' hm'=>(when_q _ 3 w')) ?_;refine a_s rfl rfl ?_;refine n_t ?_;refine tr_ret ?_;refine tr_retE rfl (ends1 rfl rfl) ?_)
  rfl
theorem first_q (v:Value) (es:List Int) (w:World) (h:Rd w v 1 (ints es)):GivesV Tryz.prog 30 [v] w (.int .i64 (firstF es)):=by
  obtain ⟨a,cap,b,o,rfl,hcap,hmax,ha,hc⟩:=h
  rw [ints_length] at *
  unfold maxLen at hmax
  refine givesV_of_tr Tryz.func30 rfl rfl ?_
  (refine s_r ?_;refine a_s rfl rfl ?_;refine n_t ?_;refine tr_seq ?_;refine s_r ?_;refine a_s rfl rfl ?_;refine n_t ?_;refine tr_block ?_)
  refine tr_for (fun k:Nat=>k ≤ es.length ∧ firstF es = firstF (es.drop k)) (fun k=>[(3,.int .i64 k),(0,.slice a es.length cap)]) (fun _=>[]) (fun k=>es.length - k) ?_ ?_
  · apply tr_start 0 ⟨Nat.zero_le _,rfl⟩
    case hs1=>exact .cons rfl (.cons rfl .nil)
    case ht=>(try simp only [List.take_zero,List.map_nil,List.nil_append]);exact .nil
  intro k ⟨hk,hf⟩
  by_cases hlt:k < es.length
  · have ha':=ha (ints_ne hlt)
    have hcell:=rd1 hc (ints_get hlt)
    have hs:=firstF_at hlt
    (refine tr_seq ?_;refine s_r ?_;refine m_v rfl rfl ?_;refine m_v rfl rfl ?_;refine tr_val (rk_len_slice (.of rfl)) rfl ?_;refine tr_val (rk_lss (.of rfl) (.of rfl)) rfl ?_;refine n_t ?_;refine c_d rfl (fun hcd=>?_) (fun _=>by omega);refine s_t ?_;refine tr_seq ?_;refine tr_block ?_;refine s_r ?_;refine m_v rfl rfl ?_;refine m_v rfl rfl ?_;refine tr_val (rk_indexAddr (.of rfl) (.of rfl) ha' (by omega) hcd norm1_) rfl ?_;refine tr_val (rk_load1 (.of rfl) (At.base hcell rfl)) rfl ?_;refine tr_val (rk_neq (.of rfl) (.of rfl)) rfl ?_;refine n_t ?_;refine c_d rfl (fun hcd=>?_) (fun hcd=>?_);refine s_r ?_;refine m_v rfl rfl ?_;refine m_v rfl rfl ?_;refine tr_val (rk_indexAddr (.of rfl) (.of rfl) ha' (by omega) (by assumption) norm1_) rfl ?_;refine tr_val (rk_load1 (.of rfl) (At.base hcell rfl)) rfl ?_;refine a_s rfl rfl ?_;refine n_t ?_;refine tr_ret ?_;refine tr_blk_ret ?_;refine tr_then_ret ?_;refine tr_then_ret ?_;refine tr_blk_ret ?_;refine tr_then_ret ?_;refine tr_retE rfl (ends1 rfl rfl) ?_;rotate_left;refine tr_skip ?_;refine tr_blk_normal ?_;refine tr_then ?_;refine tr_region ?_;refine m_v rfl rfl ?_;refine tr_val (rk_add (.of rfl) (.of rfl) (ini (by omega))) rfl ?_;refine a_s rfl rfl ?_;refine n_t ?_;rotate_right)
    · rw [hf,hs,if_pos hcd]
    · apply tr_next (k + 1) ⟨by omega,by rw [hf,hs,if_neg hcd]⟩ (by omega)
      case hs1=>exact .cons rfl (.cons rfl .nil)
      case ht=>(try simp only [List.take_zero,List.map_nil,List.nil_append]);exact .nil
  · (refine tr_seq ?_;refine s_r ?_;refine m_v rfl rfl ?_;refine m_v rfl rfl ?_;refine tr_val (rk_len_slice (.of rfl)) rfl ?_;refine tr_val (rk_lss (.of rfl) (.of rfl)) rfl ?_;refine n_t ?_;refine c_d rfl (fun _=>by omega) (fun hcd=>?_);refine x_t ?_;refine tr_then_exit ?_;refine tr_blk_exit ?_;refine tr_then ?_;refine s_r ?_;refine a_s rfl rfl ?_;refine n_t ?_;refine tr_ret ?_;refine tr_retE rfl (ends1 rfl rfl) ?_)
    rw [hf,List.drop_of_length_le (by omega)];rfl
theorem first_qB {v:Value} {cs:List Value} {es:List Int} {w:World} (h:Rd w v 1 (cs.map fun v=>[v])) (hl:IntL cs es):GivesV Tryz.prog 30 [v] w (.int .i64 (firstF es)):=
  first_q v es w (by rw [← hl.eq];exact h)
theorem when_c (h:Bool) (e:Int) (w:World):GivesV Tryz.prog 102 [.bool h,.int .i64 e] w (.int .i64 (whenF h e)):=by
  refine givesV_of_tr Tryz.func102 rfl rfl ?_
  (refine s_r ?_;refine a_s rfl rfl ?_;refine n_t ?_;refine tr_seq ?_;refine s_r ?_;refine m_v rfl rfl ?_;refine n_t ?_;refine c_b rfl (fun hcd=>?_) (fun hcd=>?_);refine s_r ?_;refine m_v rfl rfl ?_;refine a_s rfl rfl ?_;refine n_t ?_;refine r_t ?_;refine tr_retE rfl (ends1 rfl rfl) ?_;rotate_left;refine s_t ?_;refine s_r ?_;refine a_s rfl rfl ?_;refine n_t ?_;refine tr_ret ?_;refine tr_retE rfl (ends1 rfl rfl) ?_;rotate_right)
  all_goals simp [whenF, *]
theorem within_c (n l m:Int) (w:World):GivesV Tryz.prog 104 [.int .i64 n,.int .i64 l,.int .i64 m] w (.int .i64 (withinF n l m)):=by
  refine givesV_of_tr Tryz.func104 rfl rfl ?_
  (refine s_r ?_;refine a_s rfl rfl ?_;refine n_r ?_;refine m_v rfl rfl ?_;refine m_v rfl rfl ?_;refine tr_val (rk_lss (.of rfl) (.of rfl)) rfl ?_;refine m_v rfl rfl ?_;refine v_g rfl rfl rfl rfl ?_;refine v_g rfl rfl rfl rfl ?_;refine tr_vG1 rfl rfl inferInstance (fun hg hgp=>(rk_gtr (.ofg hg rfl) (.ofg hg rfl))) rfl ?_;refine tr_val (rk_pick_or (.of rfl) rfl) rfl ?_;refine tr_callV (rk_call (.of rfl) (.cons (.of rfl) (.cons (.of rfl) .nil)) inferInstance normc_) rfl (fun w' hm'=>(when_c _ 3 w')) ?_;refine a_s rfl rfl ?_;refine n_t ?_;refine tr_ret ?_;refine tr_retE rfl (ends1 rfl rfl) ?_)
  rfl
theorem first_c (v:Value) (es:List Int) (w:World) (h:Rd w v 1 (ints es)):GivesV Tryz.prog 101 [v] w (.int .i64 (firstF es)):=by
  obtain ⟨a,cap,b,o,rfl,hcap,hmax,ha,hc⟩:=h
  rw [ints_length] at *
  unfold maxLen at hmax
  refine givesV_of_tr Tryz.func101 rfl rfl ?_
  (refine s_r ?_;refine a_s rfl rfl ?_;refine n_t ?_;refine tr_seq ?_;refine s_r ?_;refine m_v rfl rfl ?_;refine tr_val (rk_len_slice (.of rfl)) rfl ?_;refine m_v rfl rfl ?_;refine n_t ?_;refine tr_block ?_)
  refine tr_for (fun k:Nat=>k ≤ es.length ∧ firstF es = firstF (es.drop k)) (fun k=>[(7,.int .i64 k),(6,.int .i64 es.length),(5,.slice a es.length cap)]) (fun _=>[]) (fun k=>es.length - k) ?_ ?_
  · apply tr_start 0 ⟨Nat.zero_le _,rfl⟩
    case hs1=>exact .cons rfl (.cons rfl (.cons rfl .nil))
    case ht=>(try simp only [List.take_zero,List.map_nil,List.nil_append]);exact .nil
  intro k ⟨hk,hf⟩
  by_cases hlt:k < es.length
  · have ha':=ha (ints_ne hlt)
    have hcell:=rd1 hc (ints_get hlt)
    have hs:=firstF_at hlt
    (refine s_r ?_;refine tr_val (rk_lss (.of rfl) (.of rfl)) rfl ?_;refine n_t ?_;refine tr_seq ?_;refine c_d rfl (fun hcd=>?_) (fun _=>by omega);refine s_t ?_;refine tr_seq ?_;refine tr_block ?_;refine s_r ?_;refine tr_val (rk_indexAddr (.of rfl) (.of rfl) ha' (by omega) hcd norm1_) rfl ?_;refine tr_val (rk_load1 (.of rfl) (At.base hcell rfl)) rfl ?_;refine a_s rfl rfl ?_;refine n_r ?_;refine m_v rfl rfl ?_;refine tr_val (rk_neq (.of rfl) (.of rfl)) rfl ?_;refine n_t ?_;refine c_d rfl (fun hcd=>?_) (fun hcd=>?_);refine s_r ?_;refine m_v rfl rfl ?_;refine a_s rfl rfl ?_;refine n_t ?_;refine tr_ret ?_;refine tr_blk_ret ?_;refine tr_then_ret ?_;refine tr_then_ret ?_;refine tr_blk_ret ?_;refine tr_then_ret ?_;refine tr_retE rfl (ends1 rfl rfl) ?_;rotate_left;refine tr_skip ?_;refine tr_blk_normal ?_;refine tr_then ?_;refine tr_region ?_;refine tr_val (rk_add (.of rfl) (.of rfl) (ini (by omega))) rfl ?_;refine m_v rfl rfl ?_;refine n_t ?_;rotate_right)
    · rw [hf,hs,if_pos hcd]
    · apply tr_next (k + 1) ⟨by omega,by rw [hf,hs,if_neg hcd]⟩ (by omega)
      case hs1=>exact .cons rfl (.cons rfl (.cons rfl .nil))
      case ht=>(try simp only [List.take_zero,List.map_nil,List.nil_append]);exact .nil
  · (refine s_r ?_;refine tr_val (rk_lss (.of rfl) (.of rfl)) rfl ?_;refine n_t ?_;refine tr_seq ?_;refine c_d rfl (fun _=>by omega) (fun hcd=>?_);refine x_t ?_;refine tr_then_exit ?_;refine tr_blk_exit ?_;refine tr_then ?_;refine s_r ?_;refine a_s rfl rfl ?_;refine n_t ?_;refine tr_ret ?_;refine tr_retE rfl (ends1 rfl rfl) ?_)
    rw [hf,List.drop_of_length_le (by omega)];rfl
theorem first_pB {v:Value} {cs:List Value} {es:List Int} {w:World} (h:Rd w v 1 (cs.map fun v=>[v])) (hl:IntL cs es):GivesV Tryz.prog 101 [v] w (.int .i64 (firstF es)):=
  first_c v es w (by rw [← hl.eq];exact h)
theorem bt_eq {s:ByteArray} {p:Nat} (h:p < s.size):bt s p = ((s[p]'h).toNat:Nat):=by
  unfold bt
  have:s.data.toList[p]? = some (s[p]'h):=by
    rw [Array.getElem?_toList]
    exact getElem?_pos s.data p h
  rw [this];rfl
theorem decode_bt {s:ByteArray} {p:Nat} (h:p < s.size):(bt s p < 128 ∧ ((Utf8.decode s p).1:Int) = bt s p ∧ (Utf8.decode s p).2 = 1) ∨ (128 ≤ bt s p ∧ (128:Int) ≤ (Utf8.decode s p).1 ∧ 1 ≤ (Utf8.decode s p).2):=by
  rw [bt_eq h]
  by_cases ha:(s[p]'h).toNat < 128
  · have:=decode_ascii s p h ha
    left;rw [this];exact ⟨by omega,rfl,rfl⟩
  · have:=decode_high s p h (by omega)
    right;omega
theorem ne_empty {s:ByteArray}:s.size = 0 ↔ s = ⟨#[]⟩:=by
  constructor
  · intro h
    have:s.data = #[]:=Array.eq_empty_of_size_eq_zero h
    cases s;simp_all
  · rintro rfl;rfl
end Go.Proofs.A1
namespace Go.Proofs.A1
def repF (rp:List Int) (i:Nat):Nat:=(rp.getD (i % rp.length) 0).toNat
def fldL (rp:List Int) (n:Nat):List Nat:=(List.range n).flatMap fun i=>List.replicate (repF rp i) i
theorem fldL_succ (rp:List Int) (n:Nat):fldL rp (n + 1) = fldL rp n++List.replicate (repF rp n) n:=by
  unfold fldL
  rw [List.range_succ,List.flatMap_append]
  simp
def prsN:List Nat → List (Nat × Nat)
  | a :: b :: r=>(a,b) :: prsN r
  | _=>[]
theorem prsN_len:∀ l:List Nat,(prsN l).length = l.length / 2
  | []=>rfl
  | [a]=>by simp [prsN]
  | a :: b :: r => by
    rw [prsN,List.length_cons,prsN_len r,List.length_cons,List.length_cons];omega
theorem prsN_get:∀ (l:List Nat) (k:Nat),2 * k + 1 < l.length → (prsN l)[k]? = some (l.getD (2 * k) 0,l.getD (2 * k + 1) 0)
  | [],k,h=>by simp at h
  | [a],k,h=>by simp at h
  | a :: b :: r,0,h=>rfl
  | a :: b :: r, k + 1, h => by
    rw [List.length_cons,List.length_cons] at h
    rw [prsN,List.getElem?_cons_succ,prsN_get r k (by omega)]
    rfl
def pulF (rp:List Int) (n:Nat):List (Nat × Nat):=prsN (fldL rp n)
structure CdOk (rp:List Int):Prop where
  ne:0 < rp.length
  few:rp.length ≤ 8
  rep:∀ x ∈ rp,1 ≤ x ∧ x ≤ 4
theorem rep_in {rp:List Int} (h:CdOk rp) (i:Nat):1 ≤ repF rp i ∧ repF rp i ≤ 4:=by
  have hl:i % rp.length < rp.length:=Nat.mod_lt _ h.ne
  have:=h.rep _ (List.getElem_mem hl)
  unfold repF
  rw [List.getD_eq_getElem?_getD,List.getElem?_eq_getElem hl]
  show 1 ≤ (rp[i % rp.length]).toNat ∧ (rp[i % rp.length]).toNat ≤ 4
  omega
theorem fld_len (rp:List Int) (n:Nat):(fldL rp (n + 1)).length = (fldL rp n).length + repF rp n:=by rw [fldL_succ,List.length_append,List.length_replicate]
end Go.Proofs.A1
namespace Go.Proofs.A1
end Go.Proofs.A1
namespace Go.Proofs.A1
open Go Go.SL
structure Rt where
  fr:Int
  dr:Bool
structure Lb where
  h:Int
  m:Int
  s:Int
  f:Int
structure Stm where
  ra:Rt
  la:Lb
  us:Int
def rateF (r:Rt):Int:=firstF [whenF (decide (r.fr ≠ 24) && (decide (r.fr ≠ 25) && decide (r.fr ≠ 30))) 13,whenF (r.dr && decide (r.fr ≠ 30)) 24]
structure RtOk (r:Rt):Prop where
  fr:r.fr = 24 ∨ r.fr = 25 ∨ r.fr = 30
  dr:r.dr = true → r.fr = 30
theorem rateF_zero {r:Rt}:rateF r = 0 ↔ RtOk r:=by
  unfold rateF
  rw [firstF_zero]
  simp only [List.mem_cons,List.not_mem_nil,or_false,forall_eq_or_imp,forall_eq]
  rw [whenF_zero (by decide),whenF_zero (by decide)]
  constructor
  · intro h
    refine ⟨?_,fun hd=>?_⟩
    · have:=h.1
      simp only [Bool.and_eq_false_iff,decide_eq_false_iff_not] at this
      omega
    · have:=h.2
      rw [hd,Bool.true_and,decide_eq_false_iff_not] at this
      omega
  · intro h
    constructor
    · simp only [Bool.and_eq_false_iff,decide_eq_false_iff_not]
      have:=h.fr
      omega
    · cases hd:r.dr with
      | false=>rfl
      | true=>rw [Bool.true_and,decide_eq_false_iff_not];have:=h.dr hd;omega
def drpB (r:Rt) (l:Lb):Bool:=r.dr && (decide (l.m % 10 ≠ 0) && (decide (l.s = 0) && decide (l.f < 2)))
def lblE (r:Rt) (l:Lb):Int:=firstF [rateF r,withinF l.h 0 23,withinF l.m 0 59,withinF l.s 0 59,withinF l.f 0 (r.fr - 1),whenF (drpB r l) 7]
structure LbOk (r:Rt) (l:Lb):Prop where
  ra:RtOk r
  h:0 ≤ l.h ∧ l.h ≤ 23
  m:0 ≤ l.m ∧ l.m ≤ 59
  s:0 ≤ l.s ∧ l.s ≤ 59
  f:0 ≤ l.f ∧ l.f ≤ r.fr - 1
  d:r.dr = true → l.m % 10 ≠ 0 → l.s = 0 → 2 ≤ l.f
theorem lblE_zero {r:Rt} {l:Lb}:lblE r l = 0 ↔ LbOk r l:=by
  unfold lblE
  rw [firstF_zero]
  simp only [List.mem_cons,List.not_mem_nil,or_false,forall_eq_or_imp,forall_eq,withinF_zero,rateF_zero]
  rw [whenF_zero (by decide)]
  unfold drpB
  constructor
  · intro ⟨h1,h2,h3,h4,h5,h6⟩
    refine ⟨h1,h2,h3,h4,h5,fun hd a b=>?_⟩
    rw [hd,Bool.true_and] at h6
    simp only [Bool.and_eq_false_iff,decide_eq_false_iff_not] at h6
    omega
  · intro h
    refine ⟨h.ra,h.h,h.m,h.s,h.f,?_⟩
    cases hd:r.dr with
    | false=>rfl
    | true =>
      have:=h.d hd
      rw [Bool.true_and]
      simp only [Bool.and_eq_false_iff,decide_eq_false_iff_not]
      omega
def dayF (r:Rt):Int:=24 * 60 * 60 * r.fr - if r.dr then 2592 else 0
def frmF (r:Rt) (l:Lb):Int:=(60 * (60 * l.h + l.m) + l.s) * r.fr + l.f - if r.dr then 2 * ((60 * l.h + l.m) - (60 * l.h + l.m) / 10) else 0
def lbN (r:Rt) (n:Int):Int:=if r.dr then n + 18 * (n / 17982) + (if 1800 ≤ n % 17982 then 2 * (1 + (n % 17982 - 1800) / 1798) else 0) else n
def lblF (r:Rt) (n:Int):Lb:=⟨lbN r n / r.fr / 3600,lbN r n / r.fr / 60 % 60,lbN r n / r.fr % 60,lbN r n % r.fr⟩
theorem lb_ext {a b:Lb} (h1:a.h = b.h) (h2:a.m = b.m) (h3:a.s = b.s) (h4:a.f = b.f):a = b:=by
  cases a;cases b;dsimp only at h1 h2 h3 h4;subst h1 h2 h3 h4;rfl
theorem lb_plain {fr h m s f:Int} (hf:fr = 24 ∨ fr = 25 ∨ fr = 30) (hm:0 ≤ m ∧ m ≤ 59) (hs:0 ≤ s ∧ s ≤ 59) (h4:0 ≤ f ∧ f ≤ fr - 1) {n:Int} (hn:n = (60 * (60 * h + m) + s) * fr + f) :
    n / fr / 3600 = h ∧ n / fr / 60 % 60 = m ∧ n / fr % 60 = s ∧ n % fr = f:=by
  have hq:n / fr = 3600 * h + 60 * m + s:=by
    rcases hf with rfl | rfl | rfl <;> omega
  have hr:n % fr = f:=by
    rcases hf with rfl | rfl | rfl <;> omega
  rw [hq,hr]
  omega
theorem frm_lbl {r:Rt} {l:Lb} (h:LbOk r l):0 ≤ frmF r l ∧ frmF r l < dayF r ∧ lblF r (frmF r l) = l:=by
  have h1:=h.h
  have h2:=h.m
  have h3:=h.s
  have h4:=h.f
  have hfr:=h.ra.fr
  cases hd:r.dr with
  | false =>
    have e1:frmF r l = (60 * (60 * l.h + l.m) + l.s) * r.fr + l.f:=by unfold frmF;rw [hd];simp
    have e2:dayF r = 86400 * r.fr:=by unfold dayF;rw [hd];simp
    have e3:lbN r (frmF r l) = frmF r l:=by unfold lbN;rw [hd];simp
    have hp:=lb_plain hfr h2 h3 h4 e1
    refine ⟨?_,?_,?_⟩
    · rw [e1];rcases hfr with e | e | e <;> rw [e] <;> omega
    · rw [e1,e2];rcases hfr with e | e | e <;> rw [e] at h4 ⊢ <;> omega
    · unfold lblF
      rw [e3]
      exact lb_ext hp.1 hp.2.1 hp.2.2.1 hp.2.2.2
  | true =>
    have hf:=h.ra.dr hd
    have h5:=h.d hd
    rw [hf] at h4
    have e1:frmF r l = (60 * (60 * l.h + l.m) + l.s) * 30 + l.f - 2 * ((60 * l.h + l.m) - (60 * l.h + l.m) / 10):=by unfold frmF;rw [hd,hf];simp
    have e2:dayF r = 2589408:=by unfold dayF;rw [hd,hf];decide
    obtain ⟨t,u,hu,htu⟩:∃ t u:Int,(0 ≤ u ∧ u ≤ 9) ∧ 60 * l.h + l.m = 10 * t + u:=⟨(60 * l.h + l.m) / 10,(60 * l.h + l.m) % 10,by omega,by omega⟩
    have hu2:u = l.m % 10:=by omega
    have hrest:frmF r l = 17982 * t + (1798 * u + 30 * l.s + l.f):=by
      rw [e1,htu];omega
    have h6:u ≠ 0 → 2 ≤ 30 * l.s + l.f:=fun hne=>by
      by_cases e:l.s = 0
      · have:=h5 (by omega) e;omega
      · omega
    have hq:frmF r l / 17982 = t:=by
      rw [hrest];omega
    have hr:frmF r l % 17982 = 1798 * u + 30 * l.s + l.f:=by
      rw [hrest];omega
    have e3:lbN r (frmF r l) = (60 * (60 * l.h + l.m) + l.s) * 30 + l.f:=by
      unfold lbN
      rw [hd,if_pos rfl,hq,hr]
      by_cases e:u = 0
      · rw [if_neg (by omega),hrest];omega
      · have:=h6 e
        rw [if_pos (by omega),show (1798 * u + 30 * l.s + l.f - 1800) / 1798 = u - 1 by omega,hrest]
        omega
    have hp:=lb_plain (fr:=30) (.inr (.inr rfl)) h2 h3 h4 e3
    refine ⟨by rw [hrest];omega,by rw [hrest,e2];omega,?_⟩
    unfold lblF
    rw [hf]
    exact lb_ext hp.1 hp.2.1 hp.2.2.1 hp.2.2.2
theorem day_pos {r:Rt} (h:RtOk r):2073600 ≤ dayF r ∧ dayF r ≤ 2592000:=by
  unfold dayF
  have:=h.fr
  have:=h.dr
  split
  · rename_i hd;have:=h.dr hd;omega
  · omega
def addF (r:Rt) (l:Lb) (k:Int):Lb:=lblF r ((frmF r l + k) % dayF r)
theorem mod_twice {x d:Int} (hd:0 < d):(x.tmod d + d) % d = x % d:=by
  rw [Int.add_emod_right,Int.tmod_def,Int.sub_eq_add_neg,← Int.mul_neg,Int.add_mul_emod_self_left]
theorem mod_range {x d:Int} (hd:0 < d):-d < x.tmod d ∧ x.tmod d < d:=by
  have h1:=Int.tmod_lt_of_pos x hd
  have h2:=Int.lt_tmod_of_pos x hd
  exact ⟨h2,h1⟩
theorem add_zero {r:Rt} {l:Lb} (h:LbOk r l):addF r l 0 = l:=by
  unfold addF
  have:=frm_lbl h
  rw [Int.add_zero,Int.emod_eq_of_lt this.1 this.2.1]
  exact this.2.2
end Go.Proofs.A1
namespace Go.Proofs.A1
open Go Go.SL
theorem byte_nat {n:Int} (h:0 ≤ n ∧ n ≤ 255):∃ k:Nat,k < 256 ∧ n = (k:Int):=⟨n.toNat,by omega,by omega⟩
theorem and15N:∀ k:Nat,k < 256 → andF (k:Int) 15 = (k:Int) % 16:=by decide +kernel
theorem and15 {n:Int} (h:0 ≤ n ∧ n ≤ 255):andF n 15 = n % 16:=by obtain ⟨k,hk,rfl⟩:=byte_nat h;exact and15N k hk
theorem rateN:∀ k:Nat,k < 256 → (anotF (k:Int) 128 = (k:Int) % 128 ∧ andF (k:Int) 128 = (k:Int) / 128 * 128):=by decide +kernel
theorem rate_bits {n:Int} (h:0 ≤ n ∧ n ≤ 255):anotF n 128 = n % 128 ∧ andF n 128 = n / 128 * 128:=by obtain ⟨k,hk,rfl⟩:=byte_nat h;exact rateN k hk
def parF (l:List Int):Int:=l.foldl xorF 0
theorem parF_snoc (l:List Int) (x:Int):parF (l++[x]) = xorF (parF l) x:=by unfold parF;rw [List.foldl_append];rfl
def bcd (n:Int):Int:=n / 10 * 16 + n % 10
def rtB (r:Rt):Int:=r.fr + if r.dr then 128 else 0
def w7 (s:Stm):List Int:=[bcd s.la.f,bcd s.la.s,bcd s.la.m,bcd s.la.h,rtB s.ra,s.us / 256,s.us % 256]
def wordF (s:Stm):List Int:=w7 s++[parF (w7 s),63,253]
def stmE (s:Stm):Int:=firstF [lblE s.ra s.la,withinF s.us 0 65535]
structure StOk (s:Stm):Prop where
  la:LbOk s.ra s.la
  us:0 ≤ s.us ∧ s.us ≤ 65535
theorem stmE_zero {s:Stm}:stmE s = 0 ↔ StOk s:=by
  unfold stmE
  rw [firstF_zero]
  simp only [List.mem_cons,List.not_mem_nil,or_false,forall_eq_or_imp,forall_eq,withinF_zero,lblE_zero]
  exact ⟨fun h=>⟨h.1,h.2⟩,fun h=>⟨h.la,h.us⟩⟩
def wa (w:List Int) (i:Nat):Int:=w.getD i 0
def unb (b:Int):Int:=b / 16 * 10 + b % 16
def badD (b:Int):Bool:=decide (9 < b / 16) || decide (9 < b % 16)
def stmW (w:List Int):Stm:=⟨⟨wa w 4 % 128,decide (128 ≤ wa w 4)⟩,⟨unb (wa w 3),unb (wa w 2),unb (wa w 1),unb (wa w 0)⟩,wa w 5 * 256 + wa w 6⟩
def rtOkB (b:Int):Bool:=decide (b = 24) || decide (b = 25) || decide (b = 30) || decide (b = 158)
def rdE (w:List Int):Int:=
  if wa w 8 ≠ 63 ∨ wa w 9 ≠ 253 then 1
  else if parF (w.take 7) ≠ wa w 7 then 27
  else if badD (wa w 0) || badD (wa w 1) || badD (wa w 2) || badD (wa w 3) then 1
  else if rtOkB (wa w 4) then stmE (stmW w) else 1
def Stm.zero:Stm:=⟨⟨0,false⟩,⟨0,0,0,0⟩,0⟩
def rdF (w:List Int):Stm:=if rdE w = 0 then stmW w else Stm.zero
theorem rt_ok {b:Int} (h:0 ≤ b ∧ b ≤ 255):rtOkB b = true ↔ rateF ⟨b % 128,decide (128 ≤ b)⟩ = 0:=by
  rw [rateF_zero]
  unfold rtOkB
  simp only [Bool.or_eq_true,decide_eq_true_eq]
  constructor
  · intro h1
    refine ⟨?_,fun hd=>?_⟩
    · show b % 128 = 24 ∨ b % 128 = 25 ∨ b % 128 = 30
      omega
    · have:128 ≤ b:=of_decide_eq_true hd
      show b % 128 = 30
      omega
  · rintro ⟨h1,h2⟩
    have h1:b % 128 = 24 ∨ b % 128 = 25 ∨ b % 128 = 30:=h1
    by_cases hb:128 ≤ b
    · have h2:b % 128 = 30:=h2 (decide_eq_true hb)
      omega
    · omega
end Go.Proofs.A1
namespace Go.Proofs.A1
open Go Go.SL
structure Cp where
  fr:Int
  to:Int
  rw:Int
  co:Int
  tx:ByteArray
def Cp.zero:Cp:=⟨0,0,0,0,⟨#[]⟩⟩
def badTx (s:ByteArray):Bool:=(List.range s.size).any fun i=>decide (bt s i < 32) || decide (126 < bt s i)
theorem badTx_no {s:ByteArray}:badTx s = false ↔ ∀ i,i < s.size → 32 ≤ bt s i ∧ bt s i ≤ 126:=by
  unfold badTx
  rw [List.any_eq_false]
  simp only [List.mem_range,Bool.or_eq_true,decide_eq_true_eq]
  constructor
  · intro h i hi;have:=h i hi;omega
  · intro h i hi;have:=h i hi;omega
def cpE (c:Cp):Int:=firstF [whenF (decide (c.fr < 0) || (decide (c.to ≤ c.fr) || decide (10000000 < c.to))) 14,withinF c.rw 0 7,withinF c.co 0 31,whenF (decide (c.tx.size = 0)) 12,whenF (decide (32 < c.co + (c.tx.size:Int))) 26,whenF (badTx c.tx) 1]
structure CpOk (c:Cp):Prop where
  sp:0 ≤ c.fr ∧ c.fr < c.to ∧ c.to ≤ 10000000
  rw:0 ≤ c.rw ∧ c.rw ≤ 7
  co:0 ≤ c.co ∧ c.co ≤ 31
  ne:0 < c.tx.size
  fit:c.co + (c.tx.size:Int) ≤ 32
  by_:∀ i,i < c.tx.size → 32 ≤ bt c.tx i ∧ bt c.tx i ≤ 126
theorem cpE_zero {c:Cp}:cpE c = 0 ↔ CpOk c:=by
  unfold cpE
  rw [firstF_zero]
  simp only [List.mem_cons,List.not_mem_nil,or_false,forall_eq_or_imp,forall_eq,withinF_zero]
  rw [whenF_zero (by decide),whenF_zero (by decide),whenF_zero (by decide),whenF_zero (by decide),badTx_no]
  simp only [Bool.or_eq_false_iff,decide_eq_false_iff_not]
  constructor
  · rintro ⟨h1,h2,h3,h4,h5,h6⟩
    exact ⟨by omega,h2,h3,by omega,by omega,h6⟩
  · intro h
    have h1:=h.sp;have h4:=h.ne;have h5:=h.fit
    exact ⟨by omega,h.rw,h.co,by omega,by omega,h.by_⟩
def cfl (a b:Cp):Bool:=decide (a.rw = b.rw) && (decide (max a.fr b.fr < min a.to b.to) && decide (max a.co b.co < min (a.co + (a.tx.size:Int)) (b.co + (b.tx.size:Int))))
def cflQ (a b:Cp):Bool:=decide (a.rw = b.rw) && (decide (a.fr < b.to) && (decide (b.fr < a.to) && (decide (a.co < b.co + (b.tx.size:Int)) && decide (b.co < a.co + (a.tx.size:Int)))))
theorem cfl_iff {a b:Cp} (ha:CpOk a) (hb:CpOk b):cfl a b = cflQ a b:=by
  have h1:=ha.sp;have h2:=hb.sp;have h3:=ha.ne;have h4:=hb.ne
  rw [Bool.eq_iff_iff]
  unfold cfl cflQ
  simp only [Bool.and_eq_true,decide_eq_true_eq]
  omega
def nthC (l:List Cp) (k:Nat):Cp:=l.getD k Cp.zero
theorem nthC_get {l:List Cp} {k:Nat} (h:k < l.length):nthC l k = l[k]:=by
  unfold nthC;rw [List.getD_eq_getElem?_getD,List.getElem?_eq_getElem h];rfl
def cpAt (l:List Cp) (k:Nat):Int:=firstF [cpE (nthC l k),whenF ((l.take k).any (cfl (nthC l k))) 24]
def capE (l:List Cp):Int:=if 32 < l.length then 5 else errE (cpAt l) l.length
structure CapOk (l:List Cp):Prop where
  few:l.length ≤ 32
  ok:∀ k,k < l.length → CpOk (nthC l k)
  no:∀ k,k < l.length → ∀ j,j < k → cflQ (nthC l k) (nthC l j) = false
theorem capE_zero {l:List Cp}:capE l = 0 ↔ CapOk l:=by
  unfold capE
  split
  · constructor
    · intro h;exact absurd h (by decide)
    · intro h;have:=h.few;omega
  rename_i hl
  rw [errE_ok]
  have key:∀ k,k < l.length → (cpAt l k = 0 ↔ CpOk (nthC l k) ∧ ∀ j,j < k → cfl (nthC l k) (nthC l j) = false):=fun k hk=>by
    unfold cpAt
    rw [firstF_zero]
    simp only [List.mem_cons,List.not_mem_nil,or_false,forall_eq_or_imp,forall_eq]
    rw [whenF_zero (by decide),cpE_zero,List.any_eq_false]
    refine and_congr_right fun _=>⟨fun h j hj=>?_,fun h x hx=>?_⟩
    · have hj2:j < l.length:=by omega
      rw [nthC_get hj2,← Bool.not_eq_true]
      exact h _ (List.mem_take_iff_getElem.2 ⟨j,by omega,rfl⟩)
    · obtain ⟨j,hj,rfl⟩:=List.mem_take_iff_getElem.1 hx
      have:=h j (by omega)
      rw [nthC_get (l:=l) (k:=j) (by omega)] at this
      rw [this];decide
  constructor
  · intro h
    have ho:∀ k,k < l.length → CpOk (nthC l k):=fun k hk=>((key k hk).1 (h k hk)).1
    refine ⟨by omega,ho,fun k hk j hj=>?_⟩
    rw [← cfl_iff (ho k hk) (ho j (by omega))]
    exact ((key k hk).1 (h k hk)).2 j hj
  · intro h k hk
    refine (key k hk).2 ⟨h.ok k hk,fun j hj=>?_⟩
    rw [cfl_iff (h.ok k hk) (h.ok j (by omega))]
    exact h.no k hk j hj
def onC (x:Cp) (n:Int) (r:Int):Bool:=decide (x.rw = r) && (decide (x.fr ≤ n) && decide (n < x.to))
def cov (x:Cp) (n:Int) (r:Int) (k:Nat):Bool:=onC x n r && (decide (x.co ≤ (k:Int)) && decide ((k:Int) < x.co + (x.tx.size:Int)))
def shS (n:Int) (r:Int) (k:Nat) (b:Int) (x:Cp):Int:=if cov x n r k then bt x.tx ((k:Int) - x.co).toNat else b
def shB (l:List Cp) (n r:Int) (k:Nat):Int:=l.foldl (shS n r k) 32
theorem shB_snoc (l:List Cp) (x:Cp) (n r:Int) (k:Nat):shB (l++[x]) n r k = shS n r k (shB l n r k) x:=by unfold shB;rw [List.foldl_append];rfl
def rowB (l:List Cp) (n r:Int):List Int:=(List.range 32).map (shB l n r)
theorem rowB_len (l:List Cp) (n r:Int):(rowB l n r).length = 32:=by unfold rowB;rw [List.length_map,List.length_range]
def endB (l:List Cp) (n:Int):Bool:=l.any fun x=>decide (x.fr = n) || decide (x.to = n)
def strB (l:List Int):ByteArray:=⟨(l.map fun n=>UInt8.ofNat n.toNat).toArray⟩
def scrL (l:List Cp) (n:Int):List ByteArray:=(List.range 8).map fun r=>strB (rowB l n (r:Nat))
def chB (l:List Cp) (n:Int):Bool:=decide (scrL l n ≠ scrL l (n - 1))
def topC (l:List Cp):Nat:=l.foldl (fun m x=>max m (max x.fr.toNat x.to.toNat)) 0
theorem topC_le:∀ (l:List Cp) (m:Nat),m ≤ l.foldl (fun m x=>max m (max x.fr.toNat x.to.toNat)) m ∧ ∀ x ∈ l,x.fr.toNat ≤ l.foldl (fun m x=>max m (max x.fr.toNat x.to.toNat)) m ∧ x.to.toNat ≤ l.foldl (fun m x=>max m (max x.fr.toNat x.to.toNat)) m
  | [],m=>⟨Nat.le_refl _,fun x hx=>by cases hx⟩
  | y :: l, m => by
    rw [List.foldl_cons]
    have ih:=topC_le l (max m (max y.fr.toNat y.to.toNat))
    refine ⟨by have:=ih.1;omega,fun x hx=>?_⟩
    rcases List.mem_cons.1 hx with rfl | hx
    · have:=ih.1;omega
    · exact ih.2 x hx
def chL (l:List Cp):List Nat:=(List.range (topC l + 1)).filter fun (n:Nat)=>endB l (n:Int) && chB l (n:Int)
theorem chL_mem {l:List Cp} {n:Nat}:n ∈ chL l ↔ endB l (n:Int) = true ∧ chB l (n:Int) = true:=by
  unfold chL
  rw [List.mem_filter,Bool.and_eq_true,List.mem_range]
  refine ⟨fun h=>h.2,fun h=>⟨?_,h⟩⟩
  have:=h.1
  unfold endB at this
  rw [List.any_eq_true] at this
  obtain ⟨x,hx,h2⟩:=this
  have:=(topC_le l 0).2 x hx
  unfold topC
  simp only [Bool.or_eq_true,decide_eq_true_eq] at h2
  omega
theorem chL_inc (l:List Cp):(chL l).Pairwise (· < ·):=List.Pairwise.filter _ List.pairwise_lt_range
end Go.Proofs.A1
namespace Go.Proofs.A1
open Go Go.SL
end Go.Proofs.A1
namespace Go.Proofs.A1
open Go Go.SL
def itoaB (n:Int):ByteArray:=⟨(Lib.itoa n).toArray⟩
def joinB (l:List ByteArray) (sep:ByteArray):ByteArray:=⟨(Lib.join (l.map (·.data.toList)) sep.data.toList).toArray⟩
abbrev toL (s:ByteArray):List UInt8:=s.data.toList
def bsL (l:List UInt8):ByteArray:=⟨l.toArray⟩
theorem toL_bsL (l:List UInt8):toL (bsL l) = l:=by simp [bsL]
theorem bsL_toL (s:ByteArray):bsL (toL s) = s:=by cases s;simp [bsL]
theorem toL_append (a b:ByteArray):toL (a++b) = toL a++toL b:=by
  show (a++b).data.toList = _
  rw [ByteArray.data_append,Array.toList_append]
theorem toL_extract (s:ByteArray) (i j:Nat):toL (s.extract i j) = ((toL s).take j).drop i:=by
  show (s.extract i j).data.toList = _
  rw [Lib.extract_data,List.drop_take]
theorem size_toL (s:ByteArray):s.size = (toL s).length:=(Array.length_toList).symm
theorem toL_inj {a b:ByteArray} (h:toL a = toL b):a = b:=by rw [← bsL_toL a,h,bsL_toL]
theorem bsL_inj {a b:List UInt8} (h:bsL a = bsL b):a = b:=by rw [← toL_bsL a,h,toL_bsL]
theorem bsL_append (a b:List UInt8):bsL a++bsL b = bsL (a++b):=toL_inj (by rw [toL_append,toL_bsL,toL_bsL,toL_bsL])
theorem bsL_size (l:List UInt8):(bsL l).size = l.length:=by rw [size_toL,toL_bsL]
theorem bsL_eq_nil {l:List UInt8}:bsL l = ⟨#[]⟩ ↔ l = []:=⟨fun h=>bsL_inj h,fun h=>by rw [h];rfl⟩
def splL (c:UInt8):List UInt8 → List (List UInt8)
  | []=>[[]]
  | x :: r=>if x = c then [] :: splL c r else (x :: (splL c r).headD []) :: (splL c r).tail
theorem splL_ne (c:UInt8):∀ l,splL c l ≠ []
  | []=>by simp [splL]
  | x :: r=>by rw [splL];split <;> simp
theorem splL_pos (c:UInt8) (l:List UInt8):0 < (splL c l).length:=List.length_pos_iff.2 (splL_ne c l)
theorem splL_le (c:UInt8):∀ l,(splL c l).length ≤ l.length + 1
  | []=>by simp [splL]
  | x :: r => by
    have:=splL_le c r
    rw [splL]
    split
    · simp only [List.length_cons];omega
    · have h:=splL_pos c r
      simp only [List.length_cons,List.length_tail];omega
theorem splL_len (c:UInt8):∀ l,∀ p ∈ splL c l,p.length ≤ l.length
  | [],p,hp=>by simp [splL] at hp;subst hp;simp
  | x :: r, p, hp => by
    have ih:=splL_len c r
    rw [splL] at hp
    have hr:splL c r = (splL c r).headD [] :: (splL c r).tail:=by
      cases h:splL c r with
      | nil=>exact absurd h (splL_ne c r)
      | cons a b=>rfl
    split at hp
    · rcases List.mem_cons.1 hp with e | h
      · subst e;simp
      · have:=ih p h;simp only [List.length_cons];omega
    · rcases List.mem_cons.1 hp with e | h
      · subst e
        have:=ih ((splL c r).headD []) (by rw [hr];simp)
        simp only [List.length_cons];omega
      · have:=ih p (List.mem_of_mem_tail h)
        simp only [List.length_cons];omega
theorem splL_snoc (c x:UInt8):∀ l,splL c (l++[x]) = if x = c then splL c l++[[]] else (splL c l).dropLast++[(splL c l).getLastD []++[x]]
  | [] => by
    show (if x = c then [] :: [[]] else (x :: ([[]]:List (List UInt8)).headD []) :: ([[]]:List (List UInt8)).tail) = if x = c then [[]]++[[]] else _
    split <;> rfl
  | y :: r => by
    have ih:=splL_snoc c x r
    rw [List.cons_append,splL,splL,ih]
    have hne:=splL_ne c r
    by_cases hy:y = c
    · rw [if_pos hy,if_pos hy]
      split
      · rfl
      · rw [List.dropLast_cons_of_ne_nil hne]
        rw [List.getLastD_cons]
        cases h:splL c r with
        | nil=>exact absurd h hne
        | cons a b=>simp [List.getLastD]
    · rw [if_neg hy,if_neg hy]
      cases h:splL c r with
      | nil=>exact absurd h hne
      | cons a b =>
        split
        · simp
        · cases b with
          | nil=>simp
          | cons d e=>simp [List.getLastD]
theorem index_cons1 (c b:UInt8) (l:List UInt8):Lib.index (b :: l) [c] = if b = c then 0 else if Lib.index l [c] == -1 then -1 else Lib.index l [c] + 1:=by
  rw [Lib.index]
  by_cases h:b = c
  · subst h;simp
  · have h':¬ c = b:=fun e=>h e.symm
    rw [if_neg h]
    simp [h']
theorem splitK_ne {c b:UInt8} (h:b ≠ c) (l:List UInt8):∀ k,Lib.splitK [c] 0 k (b :: l) = (b :: (Lib.splitK [c] 0 k l).headD []) :: (Lib.splitK [c] 0 k l).tail
  | 0=>rfl
  | k + 1 => by
    rw [Lib.splitK,Lib.splitK,index_cons1,if_neg h]
    by_cases hi:Lib.index l [c] == -1
    · rw [if_pos hi,if_pos hi,if_pos (by rfl)];rfl
    · have h0:=Lib.index_ge l [c]
      have h1:Lib.index l [c] ≠ -1:=fun e=>hi (by rw [e];rfl)
      obtain ⟨i,hi2⟩:∃ i:Nat,Lib.index l [c] = i:=⟨(Lib.index l [c]).toNat,by omega⟩
      rw [if_neg hi,if_neg hi,hi2,if_neg (by simp;omega)]
      have e1:((i:Int) + 1).toNat = i + 1:=by omega
      have e2:((i:Int)).toNat = i:=by omega
      rw [e1,e2]
      simp only [Nat.add_zero,List.length_singleton,List.take_succ_cons,List.headD_cons,List.tail_cons]
      rw [List.drop_succ_cons]
theorem splitK_eq (c:UInt8) (l:List UInt8) (k:Nat):Lib.splitK [c] 0 (k + 1) (c :: l) = [] :: Lib.splitK [c] 0 k l:=by
  rw [Lib.splitK,index_cons1,if_pos rfl,if_neg (by decide)]
  simp
theorem splitK_spl (c:UInt8):∀ l:List UInt8,Lib.splitK [c] 0 (l.count c) l = splL c l
  | []=>rfl
  | x :: r => by
    rw [splL]
    by_cases h:x = c
    · subst h
      rw [if_pos rfl,List.count_cons_self,splitK_eq,splitK_spl]
    · rw [if_neg h,List.count_cons_of_ne h,splitK_ne h,splitK_spl]
theorem splitB_spl (c:UInt8) (s:ByteArray):Lib.splitB ⟨#[c]⟩ 0 (Lib.countB s ⟨#[c]⟩) s = (splL c (toL s)).map bsL ∧ Lib.countB s ⟨#[c]⟩ + 1 = (splL c (toL s)).length:=by
  have h1:(Lib.splitB ⟨#[c]⟩ 0 (Lib.countB s ⟨#[c]⟩) s).map toL = splL c (toL s):=by
    rw [Lib.splitB_data,show Lib.countB s ⟨#[c]⟩ = (toL s).count c from Lib.count_one c _]
    exact splitK_spl c (toL s)
  constructor
  · rw [← h1,List.map_map]
    conv=>lhs;rw [← List.map_id (Lib.splitB ⟨#[c]⟩ 0 (Lib.countB s ⟨#[c]⟩) s)]
    exact List.map_congr_left fun x _=>(bsL_toL x).symm
  · rw [← h1,List.length_map]
    exact (Lib.splitB_all ⟨#[c]⟩ (Nat.le_refl 1) 0 _ s rfl).symm
def digV (l:List UInt8):Int:=l.foldl (fun n c=>10 * n + ((c.toNat:Int) - 48)) 0
def isDg (c:UInt8):Bool:=decide (48 ≤ c.toNat) && decide (c.toNat ≤ 57)
def digB (l:List UInt8):Bool:=l.all isDg
def numB (l:List UInt8):Bool:=!l.isEmpty && (digB l && (decide (l.length ≤ 9) && (decide (l.length = 1) || decide (l.headD 0 ≠ 48))))
theorem digV_snoc (l:List UInt8) (c:UInt8):digV (l++[c]) = 10 * digV l + ((c.toNat:Int) - 48):=by
  unfold digV;rw [List.foldl_append];rfl
theorem digV_range:∀ {l:List UInt8},digB l = true → 0 ≤ digV l ∧ digV l < 10 ^ l.length:=by
  have key:∀ (l:List UInt8) (a:Int) (k:Nat),digB l = true → 0 ≤ a → a < 10 ^ k → 0 ≤ l.foldl (fun n c=>10 * n + ((c.toNat:Int) - 48)) a ∧ l.foldl (fun n c=>10 * n + ((c.toNat:Int) - 48)) a < 10 ^ (k + l.length):=by
    intro l
    induction l with
    | nil=>intro a k _ h0 h1;exact ⟨h0,by simpa using h1⟩
    | cons c r ih =>
      intro a k hd h0 h1
      unfold digB at hd
      rw [List.all_cons,Bool.and_eq_true] at hd
      have hc:=hd.1
      unfold isDg at hc
      rw [Bool.and_eq_true,decide_eq_true_eq,decide_eq_true_eq] at hc
      have hp:(10:Int) ^ (k + 1) = 10 * 10 ^ k:=by rw [Int.pow_succ,Int.mul_comm]
      have:=ih (10 * a + ((c.toNat:Int) - 48)) (k + 1) hd.2 (by omega) (by omega)
      rw [List.length_cons,show k + (r.length + 1) = k + 1 + r.length by omega]
      exact this
  intro l h
  have:=key l 0 0 h (by decide) (by decide)
  rw [Nat.zero_add] at this
  exact this
theorem digV_9 {l:List UInt8} (h:digB l = true) (h9:l.length ≤ 9):0 ≤ digV l ∧ digV l ≤ 999999999:=by
  have h1:=digV_range h
  have h2:(10:Int) ^ l.length ≤ 10 ^ 9:=by
    have:∀ k,k ≤ 9 → (10:Int) ^ k ≤ 10 ^ 9:=by decide
    exact this _ h9
  have h3:(10:Int) ^ 9 = 1000000000:=by decide
  omega
theorem numB_iff {l:List UInt8}:numB l = true ↔ l ≠ [] ∧ digB l = true ∧ l.length ≤ 9 ∧ (l.length = 1 ∨ l.headD 0 ≠ 48):=by
  unfold numB
  simp only [Bool.and_eq_true,Bool.or_eq_true,decide_eq_true_eq,Bool.not_eq_true']
  cases l <;> simp
theorem itoaB_nat (m:Nat):itoaB (m:Int) = bsL (Lib.decDigits m):=by
  unfold itoaB;rw [Lib.itoa_nonneg];rfl
theorem decDigits_len (m:Nat):∀ k,m < 10 ^ k → 0 < k → (Lib.decDigits m).length ≤ k:=by
  intro k
  induction k generalizing m with
  | zero=>intro _ h;exact absurd h (Nat.lt_irrefl _)
  | succ k ih =>
    intro h _
    rw [Lib.decDigits]
    split
    · simp
    · rename_i hm
      have hk:0 < k:=by
        rcases Nat.eq_zero_or_pos k with e | e
        · subst e;simp at h;omega
        · exact e
      have:=ih (m / 10) (by rw [Nat.pow_succ] at h;omega) hk
      simp only [List.length_append,List.length_singleton];omega
end Go.Proofs.A1
namespace Go.Proofs.A1
open Go Go.SL
def dgC (n:Int):UInt8:=UInt8.ofNat (48 + n).toNat
def twoL (n:Int):List UInt8:=[dgC (n / 10),dgC (n % 10)]
def mkC (b:Bool):UInt8:=if b then 59 else 58
def lbW (s:Stm):List UInt8:=[dgC (s.la.h / 10),dgC (s.la.h % 10),58,dgC (s.la.m / 10),dgC (s.la.m % 10),58,dgC (s.la.s / 10),dgC (s.la.s % 10),mkC s.ra.dr,dgC (s.la.f / 10),dgC (s.la.f % 10)]
def prtL (s:Stm):List UInt8:=lbW s++32 :: ([97,116]++32 :: (Lib.decDigits s.ra.fr.toNat++32 :: Lib.decDigits s.us.toNat))
def atD (l:List UInt8) (i:Nat):UInt8:=l.getD i 0
def d2 (l:List UInt8) (i:Nat):Int:=10 * (((atD l i).toNat:Int) - 48) + (((atD l (i + 1)).toNat:Int) - 48)
def d2B (l:List UInt8) (i:Nat):Bool:=isDg (atD l i) && isDg (atD l (i + 1))
def lbB (l:List UInt8):Bool:=decide (l.length = 11) && (d2B l 0 && (d2B l 3 && (d2B l 6 && (d2B l 9 && (decide (atD l 2 = 58) && (decide (atD l 5 = 58) && (decide (atD l 8 = 58) || decide (atD l 8 = 59))))))))
def nmB (l:List UInt8):Bool:=numB l && decide (l.length ≤ 5)
def wd (w:List (List UInt8)) (i:Nat):List UInt8:=w.getD i []
def psB (l:List UInt8):Bool:=decide ((splL 32 l).length = 4) && (decide (wd (splL 32 l) 1 = [97,116]) && (lbB (wd (splL 32 l) 0) && (nmB (wd (splL 32 l) 2) && nmB (wd (splL 32 l) 3))))
def psS (l:List UInt8):Stm:=⟨⟨digV (wd (splL 32 l) 2),decide (atD (wd (splL 32 l) 0) 8 = 59)⟩,⟨d2 (wd (splL 32 l) 0) 0,d2 (wd (splL 32 l) 0) 3,d2 (wd (splL 32 l) 0) 6,d2 (wd (splL 32 l) 0) 9⟩,digV (wd (splL 32 l) 3)⟩
def psE (l:List UInt8):Int:=if 4096 < l.length then 26 else if psB l then stmE (psS l) else 25
def psF (l:List UInt8):Stm:=if psE l = 0 then psS l else Stm.zero
def pairS (r:List UInt8) (b:Bool):Int × List UInt8 × Bool:=if r.length < 2 then (0,r,true) else (if digB (r.take 2) then digV (r.take 2) else 0,r.drop 2,b || !digB (r.take 2))
def oneS (of r:List UInt8) (b:Bool):UInt8 × List UInt8 × Bool:=if r = [] ∨ r.headD 0 ∉ of then (0,r,true) else (r.headD 0,r.tail,b)
theorem pairS_ok {r:List UInt8} {b:Bool} (h:(pairS r b).2.2 = false):b = false ∧ ∃ x y t,r = x :: y :: t ∧ isDg x = true ∧ isDg y = true ∧ pairS r b = (10 * ((x.toNat:Int) - 48) + ((y.toNat:Int) - 48),t,false):=by
  unfold pairS at h ⊢
  split at h
  · exact absurd h (by simp)
  rename_i hl
  match r,hl with
  | [],hl=>exact absurd (by simp) hl
  | [x],hl=>exact absurd (by simp) hl
  | x :: y :: t, hl =>
    simp only [Bool.or_eq_false_iff,Bool.not_eq_false'] at h
    obtain ⟨h1,h2⟩:=h
    have h3:=h2
    change digB [x,y] = true at h3
    unfold digB at h3
    simp only [List.all_cons,List.all_nil,Bool.and_true,Bool.and_eq_true] at h3
    refine ⟨h1,x,y,t,rfl,h3.1,h3.2,?_⟩
    rw [if_neg hl,h1]
    have h4:digB (List.take 2 (x :: y :: t)) = true:=h2
    rw [h4]
    show (10 * (10 * 0 + ((x.toNat:Int) - 48)) + ((y.toNat:Int) - 48),t,false) = _
    congr 1
    omega
theorem oneS_ok {of r:List UInt8} {b:Bool} (h:(oneS of r b).2.2 = false):b = false ∧ ∃ x t,r = x :: t ∧ x ∈ of ∧ oneS of r b = (x,t,false):=by
  unfold oneS at h ⊢
  split at h
  · exact absurd h (by simp)
  rename_i hc
  rw [not_or,Decidable.not_not] at hc
  match r,hc with
  | [],hc=>exact absurd rfl hc.1
  | x :: t, hc =>
    have hb:b = false:=h
    subst hb
    refine ⟨rfl,x,t,rfl,hc.2,?_⟩
    rw [if_neg]
    · rfl
    · rw [not_or,Decidable.not_not];exact hc
theorem pairS_do {x y:UInt8} {t:List UInt8} (hx:isDg x = true) (hy:isDg y = true):pairS (x :: y :: t) false = (10 * ((x.toNat:Int) - 48) + ((y.toNat:Int) - 48),t,false):=by
  have h:(pairS (x :: y :: t) false).2.2 = false:=by
    unfold pairS
    rw [if_neg (by simp)]
    show (false || !digB [x,y]) = false
    unfold digB
    simp [hx,hy]
  obtain ⟨_,x',y',t',e,_,_,h2⟩:=pairS_ok h
  cases e
  exact h2
theorem oneS_do {of:List UInt8} {x:UInt8} {t:List UInt8} (h:x ∈ of):oneS of (x :: t) false = (x,t,false):=by
  unfold oneS
  rw [if_neg]
  · rfl
  · rw [not_or,Decidable.not_not];exact ⟨by simp,h⟩
structure Tk where
  h:Int
  m:Int
  s:Int
  f:Int
  c:UInt8
  rest:List UInt8
  bad:Bool
def tk1 (r:List UInt8):=pairS r false
def tk2 (r:List UInt8):=oneS [58] (tk1 r).2.1 (tk1 r).2.2
def tk3 (r:List UInt8):=pairS (tk2 r).2.1 (tk2 r).2.2
def tk4 (r:List UInt8):=oneS [58] (tk3 r).2.1 (tk3 r).2.2
def tk5 (r:List UInt8):=pairS (tk4 r).2.1 (tk4 r).2.2
def tk6 (r:List UInt8):=oneS [58,59] (tk5 r).2.1 (tk5 r).2.2
def tk7 (r:List UInt8):=pairS (tk6 r).2.1 (tk6 r).2.2
theorem tk_all (r:List UInt8):(lbB r = true ↔ (tk7 r).2.2 = false ∧ (tk7 r).2.1 = []) ∧ (lbB r = true → (tk1 r).1 = d2 r 0 ∧ (tk3 r).1 = d2 r 3 ∧ (tk5 r).1 = d2 r 6 ∧ (tk7 r).1 = d2 r 9 ∧ (tk6 r).1 = atD r 8):=by
  have hfw:lbB r = true → ((tk7 r).2.2 = false ∧ (tk7 r).2.1 = []) ∧ (tk1 r).1 = d2 r 0 ∧ (tk3 r).1 = d2 r 3 ∧ (tk5 r).1 = d2 r 6 ∧ (tk7 r).1 = d2 r 9 ∧ (tk6 r).1 = atD r 8:=fun h=>by
    unfold lbB at h
    simp only [Bool.and_eq_true,decide_eq_true_eq] at h
    obtain ⟨h11,g0,g3,g6,g9,c2,c5,c8⟩:=h
    match r,h11 with
    | [x0, x1, x2, x3, x4, x5, x6, x7, x8, x9, x10], _ =>
      change (isDg x0 && isDg x1) = true at g0
      change (isDg x3 && isDg x4) = true at g3
      change (isDg x6 && isDg x7) = true at g6
      change (isDg x9 && isDg x10) = true at g9
      change x2 = 58 at c2
      change x5 = 58 at c5
      change (decide (x8 = 58) || decide (x8 = 59)) = true at c8
      rw [Bool.and_eq_true] at g0 g3 g6 g9
      rw [Bool.or_eq_true,decide_eq_true_eq,decide_eq_true_eq] at c8
      subst c2 c5
      have e1:tk1 [x0,x1,58,x3,x4,58,x6,x7,x8,x9,x10] = (10 * ((x0.toNat:Int) - 48) + ((x1.toNat:Int) - 48),[58,x3,x4,58,x6,x7,x8,x9,x10],false):=pairS_do g0.1 g0.2
      have e2:tk2 [x0,x1,58,x3,x4,58,x6,x7,x8,x9,x10] = (58,[x3,x4,58,x6,x7,x8,x9,x10],false):=by unfold tk2;rw [e1];exact oneS_do (by simp)
      have e3:tk3 [x0,x1,58,x3,x4,58,x6,x7,x8,x9,x10] = (10 * ((x3.toNat:Int) - 48) + ((x4.toNat:Int) - 48),[58,x6,x7,x8,x9,x10],false):=by unfold tk3;rw [e2];exact pairS_do g3.1 g3.2
      have e4:tk4 [x0,x1,58,x3,x4,58,x6,x7,x8,x9,x10] = (58,[x6,x7,x8,x9,x10],false):=by unfold tk4;rw [e3];exact oneS_do (by simp)
      have e5:tk5 [x0,x1,58,x3,x4,58,x6,x7,x8,x9,x10] = (10 * ((x6.toNat:Int) - 48) + ((x7.toNat:Int) - 48),[x8,x9,x10],false):=by unfold tk5;rw [e4];exact pairS_do g6.1 g6.2
      have e6:tk6 [x0,x1,58,x3,x4,58,x6,x7,x8,x9,x10] = (x8,[x9,x10],false):=by unfold tk6;rw [e5];exact oneS_do (by simpa using c8)
      have e7:tk7 [x0,x1,58,x3,x4,58,x6,x7,x8,x9,x10] = (10 * ((x9.toNat:Int) - 48) + ((x10.toNat:Int) - 48),[],false):=by unfold tk7;rw [e6];exact pairS_do g9.1 g9.2
      rw [e7,e6,e5,e3,e1]
      exact ⟨⟨rfl,rfl⟩,rfl,rfl,rfl,rfl,rfl⟩
  refine ⟨⟨fun h=>(hfw h).1,fun ⟨h,hr⟩=>?_⟩,fun h=>(hfw h).2⟩
  obtain ⟨b7,x9,x10,t7,r7,p9,p10,e7⟩:=pairS_ok (r:=(tk6 r).2.1) (b:=(tk6 r).2.2) h
  obtain ⟨b6,x8,t6,r6,p8,e6⟩:=oneS_ok (of:=[58,59]) (r:=(tk5 r).2.1) (b:=(tk5 r).2.2) b7
  obtain ⟨b5,x6,x7,t5,r5,p6,p7,e5⟩:=pairS_ok (r:=(tk4 r).2.1) (b:=(tk4 r).2.2) b6
  obtain ⟨b4,x5,t4,r4,p5,e4⟩:=oneS_ok (of:=[58]) (r:=(tk3 r).2.1) (b:=(tk3 r).2.2) b5
  obtain ⟨b3,x3,x4,t3,r3,p3,p4,e3⟩:=pairS_ok (r:=(tk2 r).2.1) (b:=(tk2 r).2.2) b4
  obtain ⟨b2,x2,t2,r2,p2,e2⟩:=oneS_ok (of:=[58]) (r:=(tk1 r).2.1) (b:=(tk1 r).2.2) b3
  obtain ⟨-,x0,x1,t1,r1,p0,p1,e1⟩:=pairS_ok (r:=r) (b:=false) b2
  have f1:(tk1 r).2.1 = t1:=congrArg (·.2.1) e1
  have f2:(tk2 r).2.1 = t2:=congrArg (·.2.1) e2
  have f3:(tk3 r).2.1 = t3:=congrArg (·.2.1) e3
  have f4:(tk4 r).2.1 = t4:=congrArg (·.2.1) e4
  have f5:(tk5 r).2.1 = t5:=congrArg (·.2.1) e5
  have f6:(tk6 r).2.1 = t6:=congrArg (·.2.1) e6
  have f7:(tk7 r).2.1 = t7:=congrArg (·.2.1) e7
  rw [f7] at hr
  rw [f1] at r2;rw [f2] at r3;rw [f3] at r4;rw [f4] at r5;rw [f5] at r6;rw [f6] at r7
  subst hr r7 r6 r5 r4 r3 r2
  clear f1 f2 f3 f4 f5 f6 f7 e1 e2 e3 e4 e5 e6 e7 b2 b3 b4 b5 b6 b7 h hfw
  subst r1
  simp only [List.mem_cons,List.not_mem_nil,or_false] at p2 p5 p8
  subst p2 p5
  unfold lbB d2B
  show (true && ((isDg x0 && isDg x1) && ((isDg x3 && isDg x4) && ((isDg x6 && isDg x7) && ((isDg x9 && isDg x10) && (true && (true && (decide (x8 = 58) || decide (x8 = 59))))))))) = true
  rw [p0,p1,p3,p4,p6,p7,p9,p10]
  rcases p8 with e | e <;> subst e <;> decide
end Go.Proofs.A1
namespace Go.Proofs.A1
open Go Go.SL
def win (s:List Int) (i:Nat):List Int:=(s.drop i).take 10
def hitF (s:List Int):Nat → Nat → List (Stm × Nat)
  | 0,_=>[]
  | n + 1,i=>if i + 10 ≤ s.length then (if rdE (win s i) = 0 then (rdF (win s i),i) :: hitF s n (i + 10) else hitF s n (i + 1)) else []
theorem hitF_fuel (s:List Int):∀ n i m,s.length - i ≤ n → s.length - i ≤ m → hitF s n i = hitF s m i
  | 0, i, m, h, _ => by
    cases m with
    | zero=>rfl
    | succ m=>rw [hitF,hitF,if_neg (by omega)]
  | n + 1,i,0,_,h=>by rw [hitF,hitF,if_neg (by omega)]
  | n + 1, i, m + 1, h1, h2 => by
    rw [hitF,hitF]
    split
    · split
      · rw [hitF_fuel s n (i + 10) m (by omega) (by omega)]
      · rw [hitF_fuel s n (i + 1) m (by omega) (by omega)]
    · rfl
def hitL (s:List Int) (i:Nat):List (Stm × Nat):=hitF s (s.length - i) i
theorem hit_hit {s:List Int} {i:Nat} (h:i + 10 ≤ s.length) (h0:rdE (win s i) = 0):hitL s i = (rdF (win s i),i) :: hitL s (i + 10):=by
  unfold hitL
  obtain ⟨n,hn⟩:∃ n,s.length - i = n + 1:=⟨s.length - i - 1,by omega⟩
  rw [hn,hitF,if_pos h,if_pos h0,hitF_fuel s n (i + 10) (s.length - (i + 10)) (by omega) (by omega)]
theorem hit_miss {s:List Int} {i:Nat} (h:i + 10 ≤ s.length) (h0:rdE (win s i) ≠ 0):hitL s i = hitL s (i + 1):=by
  unfold hitL
  obtain ⟨n,hn⟩:∃ n,s.length - i = n + 1:=⟨s.length - i - 1,by omega⟩
  rw [hn,hitF,if_pos h,if_neg h0,hitF_fuel s n (i + 1) (s.length - (i + 1)) (by omega) (by omega)]
theorem hit_end {s:List Int} {i:Nat} (h:s.length < i + 10):hitL s i = []:=by
  unfold hitL
  cases hn:s.length - i with
  | zero=>rfl
  | succ n=>rw [hitF,if_neg (by omega)]
end Go.Proofs.A1
namespace Go.Proofs.A1
open Go Go.SL
end Go.Proofs.A1
namespace Go.Proofs.A1
open Go Go.SL
end Go.Proofs.A1
namespace Go.Proofs.A1
open Go Go.SL
def trnP (b:Int):Nat → Int
  | 0=>0
  | k + 1=>orF (trnP b k) (IntKind.u8.wrap (andF (b / 2 ^ k) 1 * 2 ^ (7 - k)))
def trnQ (b:Int):Nat → Int
  | 0=>0
  | k + 1=>2 * trnQ b k + b / 2 ^ k % 2
theorem trnN:∀ k:Nat,k < 256 → (trnP (k:Int) 8 = trnQ (k:Int) 8 ∧ 0 ≤ trnQ (k:Int) 8 ∧ trnQ (k:Int) 8 ≤ 255 ∧ trnQ (trnQ (k:Int) 8) 8 = (k:Int)):=by decide +kernel
theorem trn_byte {b:Int} (h:0 ≤ b ∧ b ≤ 255):trnP b 8 = trnQ b 8 ∧ 0 ≤ trnQ b 8 ∧ trnQ b 8 ≤ 255 ∧ trnQ (trnQ b 8) 8 = b:=by
  obtain ⟨k,hk,rfl⟩:=byte_nat h
  exact trnN k hk
def revL (s:List Int):List Int:=(s.map fun b=>trnQ b 8).reverse
def cntQ (b:Int):Nat → Int
  | 0=>0
  | k + 1=>cntQ b k + b / 2 ^ k % 2
def oddB (b:Int):Bool:=decide (cntQ b 8 % 2 = 1)
end Go.Proofs.A1
namespace Go.SL
open Go
section
variable {P:Program} {r:Option Nat} {c:Cx} {D:List Nat} {sl:Slots} {hs hs':List Asn} {ops:Array Oper} {Q:Exit → Act → World → Prop} {rest:List Oper} {d:Nat} {ty:TypeId} {pos:String} {af:Array Edge}
def bytesV (s:ByteArray):List Value:=s.data.toList.map fun b=>Value.int .u8 (b.toNat:Nat)
theorem bytesV_length (s:ByteArray):(bytesV s).length = s.size:=by unfold bytesV;rw [List.length_map];rfl
theorem tr_copyS {t t2 e:TypeId} {x y:Operand} {s:ByteArray} {g o n cap:Nat} {E:TypeId} {cs:List Value} [hu:Und P t (.slice e)] [hT:Ty P e false 1]
    (hx:Is sl x (.slice (some ⟨g,o,none⟩) n cap)) (hy:Is sl y (.string s)) (ht:Take hs (blk g (.cells cs.toArray E (0,0))) hs') (hn:s.size ≤ n) (hfit:o + s.size ≤ cs.length) (hd:Nat.blt d c.nt = true)
    (k:Tr c D ((d,.int .i64 (s.size:Nat)) :: sl) (blk g (.cells (setCells cs o (bytesV s)).toArray E (0,0)) :: hs') (WL P r ops Q rest)) :
    Tr c D sl hs (WL P r ops Q (⟨some d,.call ⟨.builtin .copy,#[x,y],#[t,t2]⟩,ty,pos,af,none⟩ :: rest)):=fun a w hst=>by
  obtain ⟨de,i,hde,hi,_,hsize⟩:=Ty.parts (P:=P) (t:=e) (agg:=false) (n:=1)
  have hm:=hst.mem.take (ht.append _)
  have hg:w.heap[g]? = some (.cells cs.toArray E (0,0)):=hm.blk .here
  obtain ⟨w',h3,h4,h5⟩:=rk_storeCells (P:=P) (o:=o) (bytesV s) 0 cs w hg (fun u hu=>by
    obtain ⟨b,_,rfl⟩:=List.mem_map.1 hu;rfl) (by rw [bytesV_length];omega)
  have hmin:Nat.min s.size n = s.size:=Nat.min_eq_left hn
  have hex:s.extract 0 s.size = s:=by
    apply ByteArray.ext;simp
  have hload:(Builtin.firstCells 1 s.size (.string s)).run P w = .ok (bytesV s).toArray w:=by
    simp only [Builtin.firstCells,hex]
    have:(s.data.map fun b=>Value.int .u8 (b.toNat:Nat)) = (bytesV s).toArray:=by
      apply Array.toList_inj.1
      unfold bytesV
      rw [Array.toList_map]
    rw [← this];rfl
  refine wl_op rfl ⟨fr_about _ _ _ _ _,?_⟩
  rw [Oper.semAt_eq _ _ _ (by simp)]
  have:(execOp a.eval ⟨some d,.call ⟨.builtin .copy,#[x,y],#[t,t2]⟩,ty,pos,af,none⟩).run P w = .ok (.value (.int .i64 (s.size:Nat))) w':=by
    have hlenV:(Builtin.lenOf (.string s)).run P w = .ok s.size w:=rfl
    simp [execOp,resolve,invoke,builtin,hx a hst.slots,hy a hst.slots,Builtin.copy_,rk_underlying hu.eq,hlenV,sizeOf,typeInfo,hi,hsize,hload,h3,goInt,hmin]
  rw [this]
  have hm2:=Mem.store hm h4 h5
  rw [show (o + 0:Nat) = o from rfl] at hm2
  exact k _ _ ((hst.put (by simpa [Nat.blt_eq] using hd) _).heap hm2)
end
end Go.SL
