/- Parts of the proof: U2 T6p T9p T1p T2p T8p TAp V1q. -/
import Derived.Test.YthhidjfahmcekaaGreatDoorQM05
import Derived.Test.YthhidjfahmcekaaGreatDoorQM07
import Derived.Test.YthhidjfahmcekaaGreatDoorQM06
import Derived.Laws.RangeAny
import Derived.Laws.RangeString
import Derived.Test.YthhidjfahmcekaaGreatDoorQM01
import Derived.Lib.Join
import Derived.Lib.SplitLaws
import Derived.Lib.ItoaLen
set_option linter.unusedSectionVars false
set_option linter.unusedVariables false
set_option linter.unusedSimpArgs false
namespace Go.Proofs.A1
open Go Go.SL
def ints (es:List Int):List (List Value):=es.map fun e=>[.int .i64 e]
theorem ints_length (es:List Int):(ints es).length = es.length:=by simp [ints]
theorem ints_get {es:List Int} {k:Nat} (h:k < es.length):(ints es)[k]? = some [.int .i64 es[k]]:=by simp [ints,h]
theorem ints_ne {es:List Int} {k:Nat} (h:k < es.length):ints es ≠ []:=by intro e;have:=congrArg List.length e;rw [ints_length] at this;simp at this;subst this;simp at h
inductive IntL:List Value → List Int → Prop
  | nil:IntL [] []
  | cons {e:Int} {vs:List Value} {es:List Int} (h:IntL vs es):IntL (.int .i64 e :: vs) (e :: es)
theorem IntL.eq {vs:List Value} {es:List Int} (h:IntL vs es):(vs.map fun v=>[v]) = ints es:=by
  induction h with
  | nil=>rfl
  | cons h ih=>simp only [List.map_cons,ints,ih]
theorem when_q (h:Bool) (e:Int) (w:World):GivesV Tryz.prog 55 [.bool h,.int .i64 e] w (.int .i64 (whenF h e)):=by
  refine givesV_of_tr Tryz.func55 rfl rfl ?_
  (refine s_r ?_;refine a_s rfl rfl ?_;refine n_t ?_;refine tr_seq ?_;refine s_r ?_;refine m_v rfl rfl ?_;refine n_t ?_;refine c_b rfl (fun hcd=>?_) (fun hcd=>?_);refine s_r ?_;refine m_v rfl rfl ?_;refine a_s rfl rfl ?_;refine n_t ?_;refine r_t ?_;refine tr_retE rfl (ends1 rfl rfl) ?_;rotate_left;refine s_t ?_;refine s_r ?_;refine a_s rfl rfl ?_;refine n_t ?_;refine tr_ret ?_;refine tr_retE rfl (ends1 rfl rfl) ?_;rotate_right)
  all_goals simp [whenF, *]
theorem range_q (n l m:Int) (w:World):GivesV Tryz.prog 31 [.int .i64 n,.int .i64 l,.int .i64 m] w (.int .i64 (withinF n l m)):=by
  refine givesV_of_tr Tryz.func31 rfl rfl ?_
  (refine s_r ?_;refine a_s rfl rfl ?_;refine n_r ?_;refine m_v rfl rfl ?_;refine m_v rfl rfl ?_;refine tr_val (rk_lss (.of rfl) (.of rfl)) rfl ?_;refine m_v rfl rfl ?_;refine v_g rfl rfl rfl rfl ?_;refine v_g rfl rfl rfl rfl ?_;refine tr_vG1 rfl rfl inferInstance (fun hg hgp=>(rk_gtr (.ofg hg rfl) (.ofg hg rfl))) rfl ?_;refine tr_val (rk_pick_or (.of rfl) rfl) rfl ?_;refine tr_callV (rk_call (.of rfl) (.cons (.of rfl) (.cons (.of rfl) .nil)) inferInstance normc_) rfl (fun w' hm'=>(when_q _ 3 w')) ?_;refine a_s rfl rfl ?_;refine n_t ?_;refine tr_ret ?_;refine tr_retE rfl (ends1 rfl rfl) ?_)
  rfl
theorem first_q (v:Value) (es:List Int) (w:World) (h:Rd w v 1 (ints es)):GivesV Tryz.prog 30 [v] w (.int .i64 (firstF es)):=by
  obtain ⟨a,cap,b,o,rfl,hcap,hmax,ha,hc⟩:=h
  rw [ints_length] at *
  unfold maxLen at hmax
  refine givesV_of_tr Tryz.func30 rfl rfl ?_
  (refine s_r ?_;refine a_s rfl rfl ?_;refine n_t ?_;refine tr_seq ?_;refine s_r ?_;refine a_s rfl rfl ?_;refine n_t ?_;refine tr_block ?_)
  refine tr_for (fun k:Nat=>k ≤ es.length ∧ firstF es = firstF (es.drop k)) (fun k=>[(3,.int .i64 k),(0,.slice a es.length cap)]) (fun _=>[]) (fun k=>es.length - k) ?_ ?_
  · apply tr_start 0 ⟨Nat.zero_le _,rfl⟩
    case hs1=>exact .cons rfl (.cons rfl .nil)
    case ht=>(try simp only [List.take_zero,List.map_nil,List.nil_append]);exact .nil
  intro k ⟨hk,hf⟩
  by_cases hlt:k < es.length
  · have ha':=ha (ints_ne hlt)
    have hcell:=rd1 hc (ints_get hlt)
    have hs:=firstF_at hlt
    (refine tr_seq ?_;refine s_r ?_;refine m_v rfl rfl ?_;refine m_v rfl rfl ?_;refine tr_val (rk_len_slice (.of rfl)) rfl ?_;refine tr_val (rk_lss (.of rfl) (.of rfl)) rfl ?_;refine n_t ?_;refine c_d rfl (fun hcd=>?_) (fun _=>by omega);refine s_t ?_;refine tr_seq ?_;refine tr_block ?_;refine s_r ?_;refine m_v rfl rfl ?_;refine m_v rfl rfl ?_;refine tr_val (rk_indexAddr (.of rfl) (.of rfl) ha' (by omega) hcd norm1_) rfl ?_;refine tr_val (rk_load1 (.of rfl) (At.base hcell rfl)) rfl ?_;refine tr_val (rk_neq (.of rfl) (.of rfl)) rfl ?_;refine n_t ?_;refine c_d rfl (fun hcd=>?_) (fun hcd=>?_);refine s_r ?_;refine m_v rfl rfl ?_;refine m_v rfl rfl ?_;refine tr_val (rk_indexAddr (.of rfl) (.of rfl) ha' (by omega) (by assumption) norm1_) rfl ?_;refine tr_val (rk_load1 (.of rfl) (At.base hcell rfl)) rfl ?_;refine a_s rfl rfl ?_;refine n_t ?_;refine tr_ret ?_;refine tr_blk_ret ?_;refine tr_then_ret ?_;refine tr_then_ret ?_;refine tr_blk_ret ?_;refine tr_then_ret ?_;refine tr_retE rfl (ends1 rfl rfl) ?_;rotate_left;refine tr_skip ?_;refine tr_blk_normal ?_;refine tr_then ?_;refine tr_region ?_;refine m_v rfl rfl ?_;refine tr_val (rk_add (.of rfl) (.of rfl) (ini (by omega))) rfl ?_;refine a_s rfl rfl ?_;refine n_t ?_;rotate_right)
    · rw [hf,hs,if_pos hcd]
    · apply tr_next (k + 1) ⟨by omega,by rw [hf,hs,if_neg hcd]⟩ (by omega)
      case hs1=>exact .cons rfl (.cons rfl .nil)
      case ht=>(try simp only [List.take_zero,List.map_nil,List.nil_append]);exact .nil
  · (refine tr_seq ?_;refine s_r ?_;refine m_v rfl rfl ?_;refine m_v rfl rfl ?_;refine tr_val (rk_len_slice (.of rfl)) rfl ?_;refine tr_val (rk_lss (.of rfl) (.of rfl)) rfl ?_;refine n_t ?_;refine c_d rfl (fun _=>by omega) (fun hcd=>?_);refine x_t ?_;refine tr_then_exit ?_;refine tr_blk_exit ?_;refine tr_then ?_;refine s_r ?_;refine a_s rfl rfl ?_;refine n_t ?_;refine tr_ret ?_;refine tr_retE rfl (ends1 rfl rfl) ?_)
    rw [hf,List.drop_of_length_le (by omega)];rfl
theorem first_qB {v:Value} {cs:List Value} {es:List Int} {w:World} (h:Rd w v 1 (cs.map fun v=>[v])) (hl:IntL cs es):GivesV Tryz.prog 30 [v] w (.int .i64 (firstF es)):=
  first_q v es w (by rw [← hl.eq];exact h)
theorem when_c (h:Bool) (e:Int) (w:World):GivesV Tryz.prog 102 [.bool h,.int .i64 e] w (.int .i64 (whenF h e)):=by
  refine givesV_of_tr Tryz.func102 rfl rfl ?_
  (refine s_r ?_;refine a_s rfl rfl ?_;refine n_t ?_;refine tr_seq ?_;refine s_r ?_;refine m_v rfl rfl ?_;refine n_t ?_;refine c_b rfl (fun hcd=>?_) (fun hcd=>?_);refine s_r ?_;refine m_v rfl rfl ?_;refine a_s rfl rfl ?_;refine n_t ?_;refine r_t ?_;refine tr_retE rfl (ends1 rfl rfl) ?_;rotate_left;refine s_t ?_;refine s_r ?_;refine a_s rfl rfl ?_;refine n_t ?_;refine tr_ret ?_;refine tr_retE rfl (ends1 rfl rfl) ?_;rotate_right)
  all_goals simp [whenF, *]
theorem within_c (n l m:Int) (w:World):GivesV Tryz.prog 104 [.int .i64 n,.int .i64 l,.int .i64 m] w (.int .i64 (withinF n l m)):=by
  refine givesV_of_tr Tryz.func104 rfl rfl ?_
  (refine s_r ?_;refine a_s rfl rfl ?_;refine n_r ?_;refine m_v rfl rfl ?_;refine m_v rfl rfl ?_;refine tr_val (rk_lss (.of rfl) (.of rfl)) rfl ?_;refine m_v rfl rfl ?_;refine v_g rfl rfl rfl rfl ?_;refine v_g rfl rfl rfl rfl ?_;refine tr_vG1 rfl rfl inferInstance (fun hg hgp=>(rk_gtr (.ofg hg rfl) (.ofg hg rfl))) rfl ?_;refine tr_val (rk_pick_or (.of rfl) rfl) rfl ?_;refine tr_callV (rk_call (.of rfl) (.cons (.of rfl) (.cons (.of rfl) .nil)) inferInstance normc_) rfl (fun w' hm'=>(when_c _ 3 w')) ?_;refine a_s rfl rfl ?_;refine n_t ?_;refine tr_ret ?_;refine tr_retE rfl (ends1 rfl rfl) ?_)
  rfl
theorem first_c (v:Value) (es:List Int) (w:World) (h:Rd w v 1 (ints es)):GivesV Tryz.prog 101 [v] w (.int .i64 (firstF es)):=by
  obtain ⟨a,cap,b,o,rfl,hcap,hmax,ha,hc⟩:=h
  rw [ints_length] at *
  unfold maxLen at hmax
  refine givesV_of_tr Tryz.func101 rfl rfl ?_
  (refine s_r ?_;refine a_s rfl rfl ?_;refine n_t ?_;refine tr_seq ?_;refine s_r ?_;refine m_v rfl rfl ?_;refine tr_val (rk_len_slice (.of rfl)) rfl ?_;refine m_v rfl rfl ?_;refine n_t ?_;refine tr_block ?_)
  refine tr_for (fun k:Nat=>k ≤ es.length ∧ firstF es = firstF (es.drop k)) (fun k=>[(7,.int .i64 k),(6,.int .i64 es.length),(5,.slice a es.length cap)]) (fun _=>[]) (fun k=>es.length - k) ?_ ?_
  · apply tr_start 0 ⟨Nat.zero_le _,rfl⟩
    case hs1=>exact .cons rfl (.cons rfl (.cons rfl .nil))
    case ht=>(try simp only [List.take_zero,List.map_nil,List.nil_append]);exact .nil
  intro k ⟨hk,hf⟩
  by_cases hlt:k < es.length
  · have ha':=ha (ints_ne hlt)
    have hcell:=rd1 hc (ints_get hlt)
    have hs:=firstF_at hlt
    (refine s_r ?_;refine tr_val (rk_lss (.of rfl) (.of rfl)) rfl ?_;refine n_t ?_;refine tr_seq ?_;refine c_d rfl (fun hcd=>?_) (fun _=>by omega);refine s_t ?_;refine tr_seq ?_;refine tr_block ?_;refine s_r ?_;refine tr_val (rk_indexAddr (.of rfl) (.of rfl) ha' (by omega) hcd norm1_) rfl ?_;refine tr_val (rk_load1 (.of rfl) (At.base hcell rfl)) rfl ?_;refine a_s rfl rfl ?_;refine n_r ?_;refine m_v rfl rfl ?_;refine tr_val (rk_neq (.of rfl) (.of rfl)) rfl ?_;refine n_t ?_;refine c_d rfl (fun hcd=>?_) (fun hcd=>?_);refine s_r ?_;refine m_v rfl rfl ?_;refine a_s rfl rfl ?_;refine n_t ?_;refine tr_ret ?_;refine tr_blk_ret ?_;refine tr_then_ret ?_;refine tr_then_ret ?_;refine tr_blk_ret ?_;refine tr_then_ret ?_;refine tr_retE rfl (ends1 rfl rfl) ?_;rotate_left;refine tr_skip ?_;refine tr_blk_normal ?_;refine tr_then ?_;refine tr_region ?_;refine tr_val (rk_add (.of rfl) (.of rfl) (ini (by omega))) rfl ?_;refine m_v rfl rfl ?_;refine n_t ?_;rotate_right)
    · rw [hf,hs,if_pos hcd]
    · apply tr_next (k + 1) ⟨by omega,by rw [hf,hs,if_neg hcd]⟩ (by omega)
      case hs1=>exact .cons rfl (.cons rfl (.cons rfl .nil))
      case ht=>(try simp only [List.take_zero,List.map_nil,List.nil_append]);exact .nil
  · (refine s_r ?_;refine tr_val (rk_lss (.of rfl) (.of rfl)) rfl ?_;refine n_t ?_;refine tr_seq ?_;refine c_d rfl (fun _=>by omega) (fun hcd=>?_);refine x_t ?_;refine tr_then_exit ?_;refine tr_blk_exit ?_;refine tr_then ?_;refine s_r ?_;refine a_s rfl rfl ?_;refine n_t ?_;refine tr_ret ?_;refine tr_retE rfl (ends1 rfl rfl) ?_)
    rw [hf,List.drop_of_length_le (by omega)];rfl
theorem first_pB {v:Value} {cs:List Value} {es:List Int} {w:World} (h:Rd w v 1 (cs.map fun v=>[v])) (hl:IntL cs es):GivesV Tryz.prog 101 [v] w (.int .i64 (firstF es)):=
  first_c v es w (by rw [← hl.eq];exact h)
theorem bt_eq {s:ByteArray} {p:Nat} (h:p < s.size):bt s p = ((s[p]'h).toNat:Nat):=by
  unfold bt
  have:s.data.toList[p]? = some (s[p]'h):=by
    rw [Array.getElem?_toList]
    exact getElem?_pos s.data p h
  rw [this];rfl
theorem decode_bt {s:ByteArray} {p:Nat} (h:p < s.size):(bt s p < 128 ∧ ((Utf8.decode s p).1:Int) = bt s p ∧ (Utf8.decode s p).2 = 1) ∨ (128 ≤ bt s p ∧ (128:Int) ≤ (Utf8.decode s p).1 ∧ 1 ≤ (Utf8.decode s p).2):=by
  rw [bt_eq h]
  by_cases ha:(s[p]'h).toNat < 128
  · have:=decode_ascii s p h ha
    left;rw [this];exact ⟨by omega,rfl,rfl⟩
  · have:=decode_high s p h (by omega)
    right;omega
theorem ne_empty {s:ByteArray}:s.size = 0 ↔ s = ⟨#[]⟩:=by
  constructor
  · intro h
    have:s.data = #[]:=Array.eq_empty_of_size_eq_zero h
    cases s;simp_all
  · rintro rfl;rfl
end Go.Proofs.A1
namespace Go.Proofs.A1
def repF (rp:List Int) (i:Nat):Nat:=(rp.getD (i % rp.length) 0).toNat
def fldL (rp:List Int) (n:Nat):List Nat:=(List.range n).flatMap fun i=>List.replicate (repF rp i) i
theorem fldL_succ (rp:List Int) (n:Nat):fldL rp (n + 1) = fldL rp n++List.replicate (repF rp n) n:=by
  unfold fldL
  rw [List.range_succ,List.flatMap_append]
  simp
def prsN:List Nat → List (Nat × Nat)
  | a :: b :: r=>(a,b) :: prsN r
  | _=>[]
theorem prsN_len:∀ l:List Nat,(prsN l).length = l.length / 2
  | []=>rfl
  | [a]=>by simp [prsN]
  | a :: b :: r => by
    rw [prsN,List.length_cons,prsN_len r,List.length_cons,List.length_cons];omega
theorem prsN_get:∀ (l:List Nat) (k:Nat),2 * k + 1 < l.length → (prsN l)[k]? = some (l.getD (2 * k) 0,l.getD (2 * k + 1) 0)
  | [],k,h=>by simp at h
  | [a],k,h=>by simp at h
  | a :: b :: r,0,h=>rfl
  | a :: b :: r, k + 1, h => by
    rw [List.length_cons,List.length_cons] at h
    rw [prsN,List.getElem?_cons_succ,prsN_get r k (by omega)]
    rfl
def pulF (rp:List Int) (n:Nat):List (Nat × Nat):=prsN (fldL rp n)
structure CdOk (rp:List Int):Prop where
  ne:0 < rp.length
  few:rp.length ≤ 8
  rep:∀ x ∈ rp,1 ≤ x ∧ x ≤ 4
theorem rep_in {rp:List Int} (h:CdOk rp) (i:Nat):1 ≤ repF rp i ∧ repF rp i ≤ 4:=by
  have hl:i % rp.length < rp.length:=Nat.mod_lt _ h.ne
  have:=h.rep _ (List.getElem_mem hl)
  unfold repF
  rw [List.getD_eq_getElem?_getD,List.getElem?_eq_getElem hl]
  show 1 ≤ (rp[i % rp.length]).toNat ∧ (rp[i % rp.length]).toNat ≤ 4
  omega
theorem fld_len (rp:List Int) (n:Nat):(fldL rp (n + 1)).length = (fldL rp n).length + repF rp n:=by rw [fldL_succ,List.length_append,List.length_replicate]
end Go.Proofs.A1
namespace Go.Proofs.A1
end Go.Proofs.A1
namespace Go.Proofs.A1
open Go Go.SL
structure Rt where
  fr:Int
  dr:Bool
structure Lb where
  h:Int
  m:Int
  s:Int
  f:Int
structure Stm where
  ra:Rt
  la:Lb
  us:Int
def rateF (r:Rt):Int:=firstF [whenF (decide (r.fr ≠ 24) && (decide (r.fr ≠ 25) && decide (r.fr ≠ 30))) 13,whenF (r.dr && decide (r.fr ≠ 30)) 24]
structure RtOk (r:Rt):Prop where
  fr:r.fr = 24 ∨ r.fr = 25 ∨ r.fr = 30
  dr:r.dr = true → r.fr = 30
theorem rateF_zero {r:Rt}:rateF r = 0 ↔ RtOk r:=by
  unfold rateF
  rw [firstF_zero]
  simp only [List.mem_cons,List.not_mem_nil,or_false,forall_eq_or_imp,forall_eq]
  rw [whenF_zero (by decide),whenF_zero (by decide)]
  constructor
  · intro h
    refine ⟨?_,fun hd=>?_⟩
    · have:=h.1
      simp only [Bool.and_eq_false_iff,decide_eq_false_iff_not] at this
      omega
    · have:=h.2
      rw [hd,Bool.true_and,decide_eq_false_iff_not] at this
      omega
  · intro h
    constructor
    · simp only [Bool.and_eq_false_iff,decide_eq_false_iff_not]
      have:=h.fr
      omega
    · cases hd:r.dr with
      | false=>rfl
      | true=>rw [Bool.true_and,decide_eq_false_iff_not];have:=h.dr hd;omega
def drpB (r:Rt) (l:Lb):Bool:=r.dr && (decide (l.m % 10 ≠ 0) && (decide (l.s = 0) && decide (l.f < 2)))
def lblE (r:Rt) (l:Lb):Int:=firstF [rateF r,withinF l.h 0 23,withinF l.m 0 59,withinF l.s 0 59,withinF l.f 0 (r.fr - 1),whenF (drpB r l) 7]
structure LbOk (r:Rt) (l:Lb):Prop where
  ra:RtOk r
  h:0 ≤ l.h ∧ l.h ≤ 23
  m:0 ≤ l.m ∧ l.m ≤ 59
  s:0 ≤ l.s ∧ l.s ≤ 59
  f:0 ≤ l.f ∧ l.f ≤ r.fr - 1
  d:r.dr = true → l.m % 10 ≠ 0 → l.s = 0 → 2 ≤ l.f
theorem lblE_zero {r:Rt} {l:Lb}:lblE r l = 0 ↔ LbOk r l:=by
  unfold lblE
  rw [firstF_zero]
  simp only [List.mem_cons,List.not_mem_nil,or_false,forall_eq_or_imp,forall_eq,withinF_zero,rateF_zero]
  rw [whenF_zero (by decide)]
  unfold drpB
  constructor
  · intro ⟨h1,h2,h3,h4,h5,h6⟩
    refine ⟨h1,h2,h3,h4,h5,fun hd a b=>?_⟩
    rw [hd,Bool.true_and] at h6
    simp only [Bool.and_eq_false_iff,decide_eq_false_iff_not] at h6
    omega
  · intro h
    refine ⟨h.ra,h.h,h.m,h.s,h.f,?_⟩
    cases hd:r.dr with
    | false=>rfl
    | true =>
      have:=h.d hd
      rw [Bool.true_and]
      simp only [Bool.and_eq_false_iff,decide_eq_false_iff_not]
      omega
def dayF (r:Rt):Int:=24 * 60 * 60 * r.fr - if r.dr then 2592 else 0
def frmF (r:Rt) (l:Lb):Int:=(60 * (60 * l.h + l.m) + l.s) * r.fr + l.f - if r.dr then 2 * ((60 * l.h + l.m) - (60 * l.h + l.m) / 10) else 0
def lbN (r:Rt) (n:Int):Int:=if r.dr then n + 18 * (n / 17982) + (if 1800 ≤ n % 17982 then 2 * (1 + (n % 17982 - 1800) / 1798) else 0) else n
def lblF (r:Rt) (n:Int):Lb:=⟨lbN r n / r.fr / 3600,lbN r n / r.fr / 60 % 60,lbN r n / r.fr % 60,lbN r n % r.fr⟩
theorem lb_ext {a b:Lb} (h1:a.h = b.h) (h2:a.m = b.m) (h3:a.s = b.s) (h4:a.f = b.f):a = b:=by
  cases a;cases b;dsimp only at h1 h2 h3 h4;subst h1 h2 h3 h4;rfl
theorem lb_plain {fr h m s f:Int} (hf:fr = 24 ∨ fr = 25 ∨ fr = 30) (hm:0 ≤ m ∧ m ≤ 59) (hs:0 ≤ s ∧ s ≤ 59) (h4:0 ≤ f ∧ f ≤ fr - 1) {n:Int} (hn:n = (60 * (60 * h + m) + s) * fr + f) :
    n / fr / 3600 = h ∧ n / fr / 60 % 60 = m ∧ n / fr % 60 = s ∧ n % fr = f:=by
  have hq:n / fr = 3600 * h + 60 * m + s:=by
    rcases hf with rfl | rfl | rfl <;> omega
  have hr:n % fr = f:=by
    rcases hf with rfl | rfl | rfl <;> omega
  rw [hq,hr]
  omega
theorem frm_lbl {r:Rt} {l:Lb} (h:LbOk r l):0 ≤ frmF r l ∧ frmF r l < dayF r ∧ lblF r (frmF r l) = l:=by
  have h1:=h.h
  have h2:=h.m
  have h3:=h.s
  have h4:=h.f
  have hfr:=h.ra.fr
  cases hd:r.dr with
  | false =>
    have e1:frmF r l = (60 * (60 * l.h + l.m) + l.s) * r.fr + l.f:=by unfold frmF;rw [hd];simp
    have e2:dayF r = 86400 * r.fr:=by unfold dayF;rw [hd];simp
    have e3:lbN r (frmF r l) = frmF r l:=by unfold lbN;rw [hd];simp
    have hp:=lb_plain hfr h2 h3 h4 e1
    refine ⟨?_,?_,?_⟩
    · rw [e1];rcases hfr with e | e | e <;> rw [e] <;> omega
    · rw [e1,e2];rcases hfr with e | e | e <;> rw [e] at h4 ⊢ <;> omega
    · unfold lblF
      rw [e3]
      exact lb_ext hp.1 hp.2.1 hp.2.2.1 hp.2.2.2
  | true =>
    have hf:=h.ra.dr hd
    have h5:=h.d hd
    rw [hf] at h4
    have e1:frmF r l = (60 * (60 * l.h + l.m) + l.s) * 30 + l.f - 2 * ((60 * l.h + l.m) - (60 * l.h + l.m) / 10):=by unfold frmF;rw [hd,hf];simp
    have e2:dayF r = 2589408:=by unfold dayF;rw [hd,hf];decide
    obtain ⟨t,u,hu,htu⟩:∃ t u:Int,(0 ≤ u ∧ u ≤ 9) ∧ 60 * l.h + l.m = 10 * t + u:=⟨(60 * l.h + l.m) / 10,(60 * l.h + l.m) % 10,by omega,by omega⟩
    have hu2:u = l.m % 10:=by omega
    have hrest:frmF r l = 17982 * t + (1798 * u + 30 * l.s + l.f):=by
      rw [e1,htu];omega
    have h6:u ≠ 0 → 2 ≤ 30 * l.s + l.f:=fun hne=>by
      by_cases e:l.s = 0
      · have:=h5 (by omega) e;omega
      · omega
    have hq:frmF r l / 17982 = t:=by
      rw [hrest];omega
    have hr:frmF r l % 17982 = 1798 * u + 30 * l.s + l.f:=by
      rw [hrest];omega
    have e3:lbN r (frmF r l) = (60 * (60 * l.h + l.m) + l.s) * 30 + l.f:=by
      unfold lbN
      rw [hd,if_pos rfl,hq,hr]
      by_cases e:u = 0
      · rw [if_neg (by omega),hrest];omega
      · have:=h6 e
        rw [if_pos (by omega),show (1798 * u + 30 * l.s + l.f - 1800) / 1798 = u - 1 by omega,hrest]
        omega
    have hp:=lb_plain (fr:=30) (.inr (.inr rfl)) h2 h3 h4 e3
    refine ⟨by rw [hrest];omega,by rw [hrest,e2];omega,?_⟩
    unfold lblF
    rw [hf]
    exact lb_ext hp.1 hp.2.1 hp.2.2.1 hp.2.2.2
theorem day_pos {r:Rt} (h:RtOk r):2073600 ≤ dayF r ∧ dayF r ≤ 2592000:=by
  unfold dayF
  have:=h.fr
  have:=h.dr
  split
  · rename_i hd;have:=h.dr hd;omega
  · omega
def addF (r:Rt) (l:Lb) (k:Int):Lb:=lblF r ((frmF r l + k) % dayF r)
theorem mod_twice {x d:Int} (hd:0 < d):(x.tmod d + d) % d = x % d:=by
  rw [Int.add_emod_right,Int.tmod_def,Int.sub_eq_add_neg,← Int.mul_neg,Int.add_mul_emod_self_left]
theorem mod_range {x d:Int} (hd:0 < d):-d < x.tmod d ∧ x.tmod d < d:=by
  have h1:=Int.tmod_lt_of_pos x hd
  have h2:=Int.lt_tmod_of_pos x hd
  exact ⟨h2,h1⟩
theorem add_zero {r:Rt} {l:Lb} (h:LbOk r l):addF r l 0 = l:=by
  unfold addF
  have:=frm_lbl h
  rw [Int.add_zero,Int.emod_eq_of_lt this.1 this.2.1]
  exact this.2.2
end Go.Proofs.A1
namespace Go.Proofs.A1
open Go Go.SL
theorem byte_nat {n:Int} (h:0 ≤ n ∧ n ≤ 255):∃ k:Nat,k < 256 ∧ n = (k:Int):=⟨n.toNat,by omega,by omega⟩
theorem and15N:∀ k:Nat,k < 256 → andF (k:Int) 15 = (k:Int) % 16:=by decide +kernel
theorem and15 {n:Int} (h:0 ≤ n ∧ n ≤ 255):andF n 15 = n % 16:=by obtain ⟨k,hk,rfl⟩:=byte_nat h;exact and15N k hk
theorem rateN:∀ k:Nat,k < 256 → (anotF (k:Int) 128 = (k:Int) % 128 ∧ andF (k:Int) 128 = (k:Int) / 128 * 128):=by decide +kernel
theorem rate_bits {n:Int} (h:0 ≤ n ∧ n ≤ 255):anotF n 128 = n % 128 ∧ andF n 128 = n / 128 * 128:=by obtain ⟨k,hk,rfl⟩:=byte_nat h;exact rateN k hk
theorem xorF_byte (a b:Int):0 ≤ xorF a b ∧ xorF a b ≤ 255:=by
  unfold xorF
  have:=(BitVec.ofInt 8 a ^^^ BitVec.ofInt 8 b).isLt
  omega
def parF (l:List Int):Int:=l.foldl xorF 0
theorem parF_byte (l:List Int):0 ≤ parF l ∧ parF l ≤ 255:=by
  have key:∀ (l:List Int) (a:Int),(0 ≤ a ∧ a ≤ 255) → 0 ≤ l.foldl xorF a ∧ l.foldl xorF a ≤ 255:=by
    intro l
    induction l with
    | nil=>intro a h;exact h
    | cons x r ih=>intro a _;exact ih _ (xorF_byte a x)
  exact key l 0 (by decide)
theorem parF_snoc (l:List Int) (x:Int):parF (l++[x]) = xorF (parF l) x:=by unfold parF;rw [List.foldl_append];rfl
def bcd (n:Int):Int:=n / 10 * 16 + n % 10
theorem bcd_byte {n:Int} (h:0 ≤ n ∧ n ≤ 59):0 ≤ bcd n ∧ bcd n ≤ 89 ∧ bcd n / 16 = n / 10 ∧ bcd n % 16 = n % 10:=by unfold bcd;omega
def rtB (r:Rt):Int:=r.fr + if r.dr then 128 else 0
def w7 (s:Stm):List Int:=[bcd s.la.f,bcd s.la.s,bcd s.la.m,bcd s.la.h,rtB s.ra,s.us / 256,s.us % 256]
def wordF (s:Stm):List Int:=w7 s++[parF (w7 s),63,253]
def stmE (s:Stm):Int:=firstF [lblE s.ra s.la,withinF s.us 0 65535]
structure StOk (s:Stm):Prop where
  la:LbOk s.ra s.la
  us:0 ≤ s.us ∧ s.us ≤ 65535
theorem stmE_zero {s:Stm}:stmE s = 0 ↔ StOk s:=by
  unfold stmE
  rw [firstF_zero]
  simp only [List.mem_cons,List.not_mem_nil,or_false,forall_eq_or_imp,forall_eq,withinF_zero,lblE_zero]
  exact ⟨fun h=>⟨h.1,h.2⟩,fun h=>⟨h.la,h.us⟩⟩
def wa (w:List Int) (i:Nat):Int:=w.getD i 0
def unb (b:Int):Int:=b / 16 * 10 + b % 16
def badD (b:Int):Bool:=decide (9 < b / 16) || decide (9 < b % 16)
def stmW (w:List Int):Stm:=⟨⟨wa w 4 % 128,decide (128 ≤ wa w 4)⟩,⟨unb (wa w 3),unb (wa w 2),unb (wa w 1),unb (wa w 0)⟩,wa w 5 * 256 + wa w 6⟩
def rtOkB (b:Int):Bool:=decide (b = 24) || decide (b = 25) || decide (b = 30) || decide (b = 158)
def rdE (w:List Int):Int:=
  if wa w 8 ≠ 63 ∨ wa w 9 ≠ 253 then 1
  else if parF (w.take 7) ≠ wa w 7 then 27
  else if badD (wa w 0) || badD (wa w 1) || badD (wa w 2) || badD (wa w 3) then 1
  else if rtOkB (wa w 4) then stmE (stmW w) else 1
def Stm.zero:Stm:=⟨⟨0,false⟩,⟨0,0,0,0⟩,0⟩
def rdF (w:List Int):Stm:=if rdE w = 0 then stmW w else Stm.zero
theorem rt_ok {b:Int} (h:0 ≤ b ∧ b ≤ 255):rtOkB b = true ↔ rateF ⟨b % 128,decide (128 ≤ b)⟩ = 0:=by
  rw [rateF_zero]
  unfold rtOkB
  simp only [Bool.or_eq_true,decide_eq_true_eq]
  constructor
  · intro h1
    refine ⟨?_,fun hd=>?_⟩
    · show b % 128 = 24 ∨ b % 128 = 25 ∨ b % 128 = 30
      omega
    · have:128 ≤ b:=of_decide_eq_true hd
      show b % 128 = 30
      omega
  · rintro ⟨h1,h2⟩
    have h1:b % 128 = 24 ∨ b % 128 = 25 ∨ b % 128 = 30:=h1
    by_cases hb:128 ≤ b
    · have h2:b % 128 = 30:=h2 (decide_eq_true hb)
      omega
    · omega
theorem w7_bytes {s:Stm} (h:StOk s):∀ x ∈ w7 s,0 ≤ x ∧ x ≤ 255:=by
  have l:=h.la
  have hu:=h.us
  have hf:=l.f
  have hr:=l.ra.fr
  have b1:=bcd_byte (n:=s.la.f) (by omega)
  have b2:=bcd_byte (n:=s.la.s) l.s
  have b3:=bcd_byte (n:=s.la.m) l.m
  have b4:=bcd_byte (n:=s.la.h) (by have:=l.h;omega)
  intro x hx
  unfold w7 at hx
  simp only [List.mem_cons,List.not_mem_nil,or_false] at hx
  rcases hx with rfl | rfl | rfl | rfl | rfl | rfl | rfl
  · omega
  · omega
  · omega
  · omega
  · unfold rtB;split <;> omega
  · omega
  · omega
theorem unb_bcd {n:Int} (h:0 ≤ n ∧ n ≤ 59):unb (bcd n) = n ∧ badD (bcd n) = false:=by
  obtain ⟨_,_,h1,h2⟩:=bcd_byte h
  unfold unb badD
  rw [h1,h2]
  refine ⟨by omega,?_⟩
  rw [decide_eq_false (by omega),decide_eq_false (by omega)];rfl
theorem read_word {s:Stm} (h:StOk s):rdE (wordF s) = 0 ∧ rdF (wordF s) = s:=by
  have l:=h.la
  have hu:=h.us
  have hf:=l.f
  have hr:=l.ra.fr
  have b1:=unb_bcd (n:=s.la.f) (by omega)
  have b2:=unb_bcd (n:=s.la.s) l.s
  have b3:=unb_bcd (n:=s.la.m) l.m
  have b4:=unb_bcd (n:=s.la.h) (by have:=l.h;omega)
  have hrt:rtB s.ra % 128 = s.ra.fr ∧ decide (128 ≤ rtB s.ra) = s.ra.dr ∧ 0 ≤ rtB s.ra ∧ rtB s.ra ≤ 255:=by
    unfold rtB
    cases hd:s.ra.dr
    · refine ⟨by simp;omega,decide_eq_false (by simp;omega),by simp;omega,by simp;omega⟩
    · refine ⟨by simp;omega,decide_eq_true (by simp;omega),by simp;omega,by simp;omega⟩
  have hs:stmW (wordF s) = s:=by
    show Stm.mk ⟨rtB s.ra % 128,decide (128 ≤ rtB s.ra)⟩ ⟨unb (bcd s.la.h),unb (bcd s.la.m),unb (bcd s.la.s),unb (bcd s.la.f)⟩ (s.us / 256 * 256 + s.us % 256) = s
    rw [b1.1,b2.1,b3.1,b4.1,hrt.1,hrt.2.1,show s.us / 256 * 256 + s.us % 256 = s.us by omega]
  have he:rdE (wordF s) = 0:=by
    unfold rdE
    have h8:¬ (wa (wordF s) 8 ≠ 63 ∨ wa (wordF s) 9 ≠ 253):=by rintro (e | e) <;> exact e rfl
    have hp:parF (List.take 7 (wordF s)) = wa (wordF s) 7:=rfl
    have hbd:(badD (wa (wordF s) 0) || badD (wa (wordF s) 1) || badD (wa (wordF s) 2) || badD (wa (wordF s) 3)) = false:=by
      show (badD (bcd s.la.f) || badD (bcd s.la.s) || badD (bcd s.la.m) || badD (bcd s.la.h)) = false
      rw [b1.2,b2.2,b3.2,b4.2];rfl
    rw [if_neg h8,if_neg (fun e=>e hp),if_neg (by rw [hbd];decide)]
    have hk:rtOkB (wa (wordF s) 4) = true:=(rt_ok (b:=rtB s.ra) hrt.2.2).2 (by rw [hrt.1,hrt.2.1];exact rateF_zero.2 l.ra)
    rw [if_pos hk,hs]
    exact stmE_zero.2 h
  exact ⟨he,by rw [rdF,if_pos he,hs]⟩
end Go.Proofs.A1
namespace Go.Proofs.A1
open Go Go.SL
structure Cp where
  fr:Int
  to:Int
  rw:Int
  co:Int
  tx:ByteArray
def Cp.zero:Cp:=⟨0,0,0,0,⟨#[]⟩⟩
def badTx (s:ByteArray):Bool:=(List.range s.size).any fun i=>decide (bt s i < 32) || decide (126 < bt s i)
theorem badTx_no {s:ByteArray}:badTx s = false ↔ ∀ i,i < s.size → 32 ≤ bt s i ∧ bt s i ≤ 126:=by
  unfold badTx
  rw [List.any_eq_false]
  simp only [List.mem_range,Bool.or_eq_true,decide_eq_true_eq]
  constructor
  · intro h i hi;have:=h i hi;omega
  · intro h i hi;have:=h i hi;omega
def cpE (c:Cp):Int:=firstF [whenF (decide (c.fr < 0) || (decide (c.to ≤ c.fr) || decide (10000000 < c.to))) 14,withinF c.rw 0 7,withinF c.co 0 31,whenF (decide (c.tx.size = 0)) 12,whenF (decide (32 < c.co + (c.tx.size:Int))) 26,whenF (badTx c.tx) 1]
structure CpOk (c:Cp):Prop where
  sp:0 ≤ c.fr ∧ c.fr < c.to ∧ c.to ≤ 10000000
  rw:0 ≤ c.rw ∧ c.rw ≤ 7
  co:0 ≤ c.co ∧ c.co ≤ 31
  ne:0 < c.tx.size
  fit:c.co + (c.tx.size:Int) ≤ 32
  by_:∀ i,i < c.tx.size → 32 ≤ bt c.tx i ∧ bt c.tx i ≤ 126
theorem cpE_zero {c:Cp}:cpE c = 0 ↔ CpOk c:=by
  unfold cpE
  rw [firstF_zero]
  simp only [List.mem_cons,List.not_mem_nil,or_false,forall_eq_or_imp,forall_eq,withinF_zero]
  rw [whenF_zero (by decide),whenF_zero (by decide),whenF_zero (by decide),whenF_zero (by decide),badTx_no]
  simp only [Bool.or_eq_false_iff,decide_eq_false_iff_not]
  constructor
  · rintro ⟨h1,h2,h3,h4,h5,h6⟩
    exact ⟨by omega,h2,h3,by omega,by omega,h6⟩
  · intro h
    have h1:=h.sp;have h4:=h.ne;have h5:=h.fit
    exact ⟨by omega,h.rw,h.co,by omega,by omega,h.by_⟩
def cfl (a b:Cp):Bool:=decide (a.rw = b.rw) && (decide (max a.fr b.fr < min a.to b.to) && decide (max a.co b.co < min (a.co + (a.tx.size:Int)) (b.co + (b.tx.size:Int))))
def cflQ (a b:Cp):Bool:=decide (a.rw = b.rw) && (decide (a.fr < b.to) && (decide (b.fr < a.to) && (decide (a.co < b.co + (b.tx.size:Int)) && decide (b.co < a.co + (a.tx.size:Int)))))
theorem cfl_iff {a b:Cp} (ha:CpOk a) (hb:CpOk b):cfl a b = cflQ a b:=by
  have h1:=ha.sp;have h2:=hb.sp;have h3:=ha.ne;have h4:=hb.ne
  rw [Bool.eq_iff_iff]
  unfold cfl cflQ
  simp only [Bool.and_eq_true,decide_eq_true_eq]
  omega
def nthC (l:List Cp) (k:Nat):Cp:=l.getD k Cp.zero
theorem nthC_get {l:List Cp} {k:Nat} (h:k < l.length):nthC l k = l[k]:=by
  unfold nthC;rw [List.getD_eq_getElem?_getD,List.getElem?_eq_getElem h];rfl
def cpAt (l:List Cp) (k:Nat):Int:=firstF [cpE (nthC l k),whenF ((l.take k).any (cfl (nthC l k))) 24]
def capE (l:List Cp):Int:=if 32 < l.length then 5 else errE (cpAt l) l.length
structure CapOk (l:List Cp):Prop where
  few:l.length ≤ 32
  ok:∀ k,k < l.length → CpOk (nthC l k)
  no:∀ k,k < l.length → ∀ j,j < k → cflQ (nthC l k) (nthC l j) = false
theorem capE_zero {l:List Cp}:capE l = 0 ↔ CapOk l:=by
  unfold capE
  split
  · constructor
    · intro h;exact absurd h (by decide)
    · intro h;have:=h.few;omega
  rename_i hl
  rw [errE_ok]
  have key:∀ k,k < l.length → (cpAt l k = 0 ↔ CpOk (nthC l k) ∧ ∀ j,j < k → cfl (nthC l k) (nthC l j) = false):=fun k hk=>by
    unfold cpAt
    rw [firstF_zero]
    simp only [List.mem_cons,List.not_mem_nil,or_false,forall_eq_or_imp,forall_eq]
    rw [whenF_zero (by decide),cpE_zero,List.any_eq_false]
    refine and_congr_right fun _=>⟨fun h j hj=>?_,fun h x hx=>?_⟩
    · have hj2:j < l.length:=by omega
      rw [nthC_get hj2,← Bool.not_eq_true]
      exact h _ (List.mem_take_iff_getElem.2 ⟨j,by omega,rfl⟩)
    · obtain ⟨j,hj,rfl⟩:=List.mem_take_iff_getElem.1 hx
      have:=h j (by omega)
      rw [nthC_get (l:=l) (k:=j) (by omega)] at this
      rw [this];decide
  constructor
  · intro h
    have ho:∀ k,k < l.length → CpOk (nthC l k):=fun k hk=>((key k hk).1 (h k hk)).1
    refine ⟨by omega,ho,fun k hk j hj=>?_⟩
    rw [← cfl_iff (ho k hk) (ho j (by omega))]
    exact ((key k hk).1 (h k hk)).2 j hj
  · intro h k hk
    refine (key k hk).2 ⟨h.ok k hk,fun j hj=>?_⟩
    rw [cfl_iff (h.ok k hk) (h.ok j (by omega))]
    exact h.no k hk j hj
def onC (x:Cp) (n:Int) (r:Int):Bool:=decide (x.rw = r) && (decide (x.fr ≤ n) && decide (n < x.to))
def cov (x:Cp) (n:Int) (r:Int) (k:Nat):Bool:=onC x n r && (decide (x.co ≤ (k:Int)) && decide ((k:Int) < x.co + (x.tx.size:Int)))
def shS (n:Int) (r:Int) (k:Nat) (b:Int) (x:Cp):Int:=if cov x n r k then bt x.tx ((k:Int) - x.co).toNat else b
def shB (l:List Cp) (n r:Int) (k:Nat):Int:=l.foldl (shS n r k) 32
theorem shB_snoc (l:List Cp) (x:Cp) (n r:Int) (k:Nat):shB (l++[x]) n r k = shS n r k (shB l n r k) x:=by unfold shB;rw [List.foldl_append];rfl
def rowB (l:List Cp) (n r:Int):List Int:=(List.range 32).map (shB l n r)
theorem rowB_len (l:List Cp) (n r:Int):(rowB l n r).length = 32:=by unfold rowB;rw [List.length_map,List.length_range]
def endB (l:List Cp) (n:Int):Bool:=l.any fun x=>decide (x.fr = n) || decide (x.to = n)
def strB (l:List Int):ByteArray:=⟨(l.map fun n=>UInt8.ofNat n.toNat).toArray⟩
def scrL (l:List Cp) (n:Int):List ByteArray:=(List.range 8).map fun r=>strB (rowB l n (r:Nat))
def chB (l:List Cp) (n:Int):Bool:=decide (scrL l n ≠ scrL l (n - 1))
def topC (l:List Cp):Nat:=l.foldl (fun m x=>max m (max x.fr.toNat x.to.toNat)) 0
theorem topC_le:∀ (l:List Cp) (m:Nat),m ≤ l.foldl (fun m x=>max m (max x.fr.toNat x.to.toNat)) m ∧ ∀ x ∈ l,x.fr.toNat ≤ l.foldl (fun m x=>max m (max x.fr.toNat x.to.toNat)) m ∧ x.to.toNat ≤ l.foldl (fun m x=>max m (max x.fr.toNat x.to.toNat)) m
  | [],m=>⟨Nat.le_refl _,fun x hx=>by cases hx⟩
  | y :: l, m => by
    rw [List.foldl_cons]
    have ih:=topC_le l (max m (max y.fr.toNat y.to.toNat))
    refine ⟨by have:=ih.1;omega,fun x hx=>?_⟩
    rcases List.mem_cons.1 hx with rfl | hx
    · have:=ih.1;omega
    · exact ih.2 x hx
def chL (l:List Cp):List Nat:=(List.range (topC l + 1)).filter fun (n:Nat)=>endB l (n:Int) && chB l (n:Int)
theorem chL_mem {l:List Cp} {n:Nat}:n ∈ chL l ↔ endB l (n:Int) = true ∧ chB l (n:Int) = true:=by
  unfold chL
  rw [List.mem_filter,Bool.and_eq_true,List.mem_range]
  refine ⟨fun h=>h.2,fun h=>⟨?_,h⟩⟩
  have:=h.1
  unfold endB at this
  rw [List.any_eq_true] at this
  obtain ⟨x,hx,h2⟩:=this
  have:=(topC_le l 0).2 x hx
  unfold topC
  simp only [Bool.or_eq_true,decide_eq_true_eq] at h2
  omega
theorem chL_inc (l:List Cp):(chL l).Pairwise (· < ·):=List.Pairwise.filter _ List.pairwise_lt_range
end Go.Proofs.A1
namespace Go.Proofs.A1
open Go Go.SL
end Go.Proofs.A1
namespace Go.Proofs.A1
open Go Go.SL
def itoaB (n:Int):ByteArray:=⟨(Lib.itoa n).toArray⟩
def joinB (l:List ByteArray) (sep:ByteArray):ByteArray:=⟨(Lib.join (l.map (·.data.toList)) sep.data.toList).toArray⟩
abbrev toL (s:ByteArray):List UInt8:=s.data.toList
def bsL (l:List UInt8):ByteArray:=⟨l.toArray⟩
theorem toL_bsL (l:List UInt8):toL (bsL l) = l:=by simp [bsL]
theorem bsL_toL (s:ByteArray):bsL (toL s) = s:=by cases s;simp [bsL]
theorem toL_append (a b:ByteArray):toL (a++b) = toL a++toL b:=by
  show (a++b).data.toList = _
  rw [ByteArray.data_append,Array.toList_append]
theorem toL_extract (s:ByteArray) (i j:Nat):toL (s.extract i j) = ((toL s).take j).drop i:=by
  show (s.extract i j).data.toList = _
  rw [Lib.extract_data,List.drop_take]
theorem size_toL (s:ByteArray):s.size = (toL s).length:=(Array.length_toList).symm
theorem toL_inj {a b:ByteArray} (h:toL a = toL b):a = b:=by rw [← bsL_toL a,h,bsL_toL]
theorem bsL_inj {a b:List UInt8} (h:bsL a = bsL b):a = b:=by rw [← toL_bsL a,h,toL_bsL]
theorem bsL_size (l:List UInt8):(bsL l).size = l.length:=by rw [size_toL,toL_bsL]
theorem bsL_eq_nil {l:List UInt8}:bsL l = ⟨#[]⟩ ↔ l = []:=⟨fun h=>bsL_inj h,fun h=>by rw [h];rfl⟩
def splL (c:UInt8):List UInt8 → List (List UInt8)
  | []=>[[]]
  | x :: r=>if x = c then [] :: splL c r else (x :: (splL c r).headD []) :: (splL c r).tail
theorem splL_ne (c:UInt8):∀ l,splL c l ≠ []
  | []=>by simp [splL]
  | x :: r=>by rw [splL];split <;> simp
theorem splL_pos (c:UInt8) (l:List UInt8):0 < (splL c l).length:=List.length_pos_iff.2 (splL_ne c l)
theorem splL_le (c:UInt8):∀ l,(splL c l).length ≤ l.length + 1
  | []=>by simp [splL]
  | x :: r => by
    have:=splL_le c r
    rw [splL]
    split
    · simp only [List.length_cons];omega
    · have h:=splL_pos c r
      simp only [List.length_cons,List.length_tail];omega
theorem splL_len (c:UInt8):∀ l,∀ p ∈ splL c l,p.length ≤ l.length
  | [],p,hp=>by simp [splL] at hp;subst hp;simp
  | x :: r, p, hp => by
    have ih:=splL_len c r
    rw [splL] at hp
    have hr:splL c r = (splL c r).headD [] :: (splL c r).tail:=by
      cases h:splL c r with
      | nil=>exact absurd h (splL_ne c r)
      | cons a b=>rfl
    split at hp
    · rcases List.mem_cons.1 hp with e | h
      · subst e;simp
      · have:=ih p h;simp only [List.length_cons];omega
    · rcases List.mem_cons.1 hp with e | h
      · subst e
        have:=ih ((splL c r).headD []) (by rw [hr];simp)
        simp only [List.length_cons];omega
      · have:=ih p (List.mem_of_mem_tail h)
        simp only [List.length_cons];omega
theorem splL_cons (c:UInt8) (l:List UInt8):splL c l = (splL c l).headD [] :: (splL c l).tail:=by
  cases h:splL c l with
  | nil=>exact absurd h (splL_ne c l)
  | cons a b=>rfl
theorem index_cons1 (c b:UInt8) (l:List UInt8):Lib.index (b :: l) [c] = if b = c then 0 else if Lib.index l [c] == -1 then -1 else Lib.index l [c] + 1:=by
  rw [Lib.index]
  by_cases h:b = c
  · subst h;simp
  · have h':¬ c = b:=fun e=>h e.symm
    rw [if_neg h]
    simp [h']
theorem splitK_ne {c b:UInt8} (h:b ≠ c) (l:List UInt8):∀ k,Lib.splitK [c] 0 k (b :: l) = (b :: (Lib.splitK [c] 0 k l).headD []) :: (Lib.splitK [c] 0 k l).tail
  | 0=>rfl
  | k + 1 => by
    rw [Lib.splitK,Lib.splitK,index_cons1,if_neg h]
    by_cases hi:Lib.index l [c] == -1
    · rw [if_pos hi,if_pos hi,if_pos (by rfl)];rfl
    · have h0:=Lib.index_ge l [c]
      have h1:Lib.index l [c] ≠ -1:=fun e=>hi (by rw [e];rfl)
      obtain ⟨i,hi2⟩:∃ i:Nat,Lib.index l [c] = i:=⟨(Lib.index l [c]).toNat,by omega⟩
      rw [if_neg hi,if_neg hi,hi2,if_neg (by simp;omega)]
      have e1:((i:Int) + 1).toNat = i + 1:=by omega
      have e2:((i:Int)).toNat = i:=by omega
      rw [e1,e2]
      simp only [Nat.add_zero,List.length_singleton,List.take_succ_cons,List.headD_cons,List.tail_cons]
      rw [List.drop_succ_cons]
theorem splitK_eq (c:UInt8) (l:List UInt8) (k:Nat):Lib.splitK [c] 0 (k + 1) (c :: l) = [] :: Lib.splitK [c] 0 k l:=by
  rw [Lib.splitK,index_cons1,if_pos rfl,if_neg (by decide)]
  simp
theorem splitK_spl (c:UInt8):∀ l:List UInt8,Lib.splitK [c] 0 (l.count c) l = splL c l
  | []=>rfl
  | x :: r => by
    rw [splL]
    by_cases h:x = c
    · subst h
      rw [if_pos rfl,List.count_cons_self,splitK_eq,splitK_spl]
    · rw [if_neg h,List.count_cons_of_ne h,splitK_ne h,splitK_spl]
theorem splitB_spl (c:UInt8) (s:ByteArray):Lib.splitB ⟨#[c]⟩ 0 (Lib.countB s ⟨#[c]⟩) s = (splL c (toL s)).map bsL ∧ Lib.countB s ⟨#[c]⟩ + 1 = (splL c (toL s)).length:=by
  have h1:(Lib.splitB ⟨#[c]⟩ 0 (Lib.countB s ⟨#[c]⟩) s).map toL = splL c (toL s):=by
    rw [Lib.splitB_data,show Lib.countB s ⟨#[c]⟩ = (toL s).count c from Lib.count_one c _]
    exact splitK_spl c (toL s)
  constructor
  · rw [← h1,List.map_map]
    conv=>lhs;rw [← List.map_id (Lib.splitB ⟨#[c]⟩ 0 (Lib.countB s ⟨#[c]⟩) s)]
    exact List.map_congr_left fun x _=>(bsL_toL x).symm
  · rw [← h1,List.length_map]
    exact (Lib.splitB_all ⟨#[c]⟩ (Nat.le_refl 1) 0 _ s rfl).symm
def digV (l:List UInt8):Int:=l.foldl (fun n c=>10 * n + ((c.toNat:Int) - 48)) 0
def isDg (c:UInt8):Bool:=decide (48 ≤ c.toNat) && decide (c.toNat ≤ 57)
def digB (l:List UInt8):Bool:=l.all isDg
def numB (l:List UInt8):Bool:=!l.isEmpty && (digB l && (decide (l.length ≤ 9) && (decide (l.length = 1) || decide (l.headD 0 ≠ 48))))
theorem digV_snoc (l:List UInt8) (c:UInt8):digV (l++[c]) = 10 * digV l + ((c.toNat:Int) - 48):=by
  unfold digV;rw [List.foldl_append];rfl
theorem digV_range:∀ {l:List UInt8},digB l = true → 0 ≤ digV l ∧ digV l < 10 ^ l.length:=by
  have key:∀ (l:List UInt8) (a:Int) (k:Nat),digB l = true → 0 ≤ a → a < 10 ^ k → 0 ≤ l.foldl (fun n c=>10 * n + ((c.toNat:Int) - 48)) a ∧ l.foldl (fun n c=>10 * n + ((c.toNat:Int) - 48)) a < 10 ^ (k + l.length):=by
    intro l
    induction l with
    | nil=>intro a k _ h0 h1;exact ⟨h0,by simpa using h1⟩
    | cons c r ih =>
      intro a k hd h0 h1
      unfold digB at hd
      rw [List.all_cons,Bool.and_eq_true] at hd
      have hc:=hd.1
      unfold isDg at hc
      rw [Bool.and_eq_true,decide_eq_true_eq,decide_eq_true_eq] at hc
      have hp:(10:Int) ^ (k + 1) = 10 * 10 ^ k:=by rw [Int.pow_succ,Int.mul_comm]
      have:=ih (10 * a + ((c.toNat:Int) - 48)) (k + 1) hd.2 (by omega) (by omega)
      rw [List.length_cons,show k + (r.length + 1) = k + 1 + r.length by omega]
      exact this
  intro l h
  have:=key l 0 0 h (by decide) (by decide)
  rw [Nat.zero_add] at this
  exact this
def intV (l:List UInt8):Int:=if digB l && decide (l.length ≤ 9) then digV l else 0
theorem numB_iff {l:List UInt8}:numB l = true ↔ l ≠ [] ∧ digB l = true ∧ l.length ≤ 9 ∧ (l.length = 1 ∨ l.headD 0 ≠ 48):=by
  unfold numB
  simp only [Bool.and_eq_true,Bool.or_eq_true,decide_eq_true_eq,Bool.not_eq_true']
  cases l <;> simp
theorem intV_num {l:List UInt8} (h:numB l = true):intV l = digV l:=by
  have:=numB_iff.1 h
  unfold intV
  rw [if_pos (by rw [this.2.1,Bool.true_and];exact decide_eq_true this.2.2.1)]
theorem itoaB_nat (m:Nat):itoaB (m:Int) = bsL (Lib.decDigits m):=by
  unfold itoaB;rw [Lib.itoa_nonneg];rfl
theorem decDigits_len (m:Nat):∀ k,m < 10 ^ k → 0 < k → (Lib.decDigits m).length ≤ k:=by
  intro k
  induction k generalizing m with
  | zero=>intro _ h;exact absurd h (Nat.lt_irrefl _)
  | succ k ih =>
    intro h _
    rw [Lib.decDigits]
    split
    · simp
    · rename_i hm
      have hk:0 < k:=by
        rcases Nat.eq_zero_or_pos k with e | e
        · subst e;simp at h;omega
        · exact e
      have:=ih (m / 10) (by rw [Nat.pow_succ] at h;omega) hk
      simp only [List.length_append,List.length_singleton];omega
theorem splL_free {c:UInt8}:∀ {a:List UInt8},c ∉ a → splL c a = [a]
  | [],_=>rfl
  | x :: r, h => by
    have hx:¬ x = c:=fun e=>h (by rw [e];simp)
    rw [splL,if_neg hx,splL_free (a:=r) (fun e=>h (by simp [e]))];rfl
theorem splL_app {c:UInt8} {b:List UInt8}:∀ {a:List UInt8},c ∉ a → splL c (a++c :: b) = a :: splL c b
  | [],_=>by rw [List.nil_append,splL,if_pos rfl]
  | x :: r, h => by
    have hx:¬ x = c:=fun e=>h (by rw [e];simp)
    rw [List.cons_append,splL,if_neg hx,splL_app (a:=r) (fun e=>h (by simp [e]))];rfl
theorem join_two (c:UInt8) (x y:List UInt8) (r:List (List UInt8)):Lib.join (x :: y :: r) [c] = x++c :: Lib.join (y :: r) [c]:=by
  rw [Lib.join_cons,Lib.join_cons]
  unfold Lib.joinTail
  rw [List.map_cons,List.flatten_cons]
  simp
theorem join_splL (c:UInt8):∀ l:List UInt8,Lib.join (splL c l) [c] = l
  | []=>by rw [splL,Lib.join_one]
  | x :: r => by
    have ih:=join_splL c r
    have hr:=splL_cons c r
    generalize hh:(splL c r).headD [] = h at hr
    generalize ht:(splL c r).tail = t at hr
    rw [splL]
    split
    · rename_i e
      subst e
      rw [hr,join_two,← hr,ih];rfl
    · rw [hh,ht]
      rw [hr] at ih
      cases t with
      | nil=>rw [Lib.join_one] at ih ⊢;rw [ih]
      | cons y t=>rw [join_two] at ih ⊢;rw [List.cons_append,ih]
theorem ofNat_toNat {k:Nat} (h:k < 256):(UInt8.ofNat k).toNat = k:=by simp [Nat.mod_eq_of_lt h]
theorem dec_lt {m:Nat} (h:m < 10):Lib.decDigits m = [UInt8.ofNat (48 + m)]:=by rw [Lib.decDigits,dif_pos h]
theorem dec_ge {m:Nat} (h:¬ m < 10):Lib.decDigits m = Lib.decDigits (m / 10)++[UInt8.ofNat (48 + m % 10)]:=by rw [Lib.decDigits,dif_neg h]
theorem isDg_of {k:Nat} (h:k < 10):isDg (UInt8.ofNat (48 + k)) = true:=by
  unfold isDg
  rw [ofNat_toNat (by omega),decide_eq_true (by omega),decide_eq_true (by omega)];rfl
theorem digB_app (a b:List UInt8):digB (a++b) = (digB a && digB b):=by unfold digB;rw [List.all_append]
theorem dec_all (m:Nat):digB (Lib.decDigits m) = true ∧ digV (Lib.decDigits m) = m ∧ Lib.decDigits m ≠ [] ∧ (1 ≤ m → (Lib.decDigits m).headD 0 ≠ 48):=by
  induction m using Nat.strongRecOn with
  | _ m ih =>
    by_cases h:m < 10
    · rw [dec_lt h]
      refine ⟨?_,?_,by simp,fun h1=>?_⟩
      · unfold digB;rw [List.all_cons,isDg_of h];rfl
      · show 10 * 0 + (((UInt8.ofNat (48 + m)).toNat:Int) - 48) = m
        rw [ofNat_toNat (by omega)];omega
      · rw [List.headD_cons]
        intro e
        have:=congrArg UInt8.toNat e
        rw [ofNat_toNat (by omega)] at this
        have h48:(48:UInt8).toNat = 48:=rfl
        omega
    · obtain ⟨i1,i2,i3,i4⟩:=ih (m / 10) (by omega)
      rw [dec_ge h]
      refine ⟨?_,?_,by simp,fun _=>?_⟩
      · rw [digB_app,i1]
        unfold digB;rw [List.all_cons,isDg_of (by omega)];rfl
      · rw [digV_snoc,i2,ofNat_toNat (by omega)];omega
      · have:=i4 (by omega)
        cases hd:Lib.decDigits (m / 10) with
        | nil=>exact absurd hd i3
        | cons a b=>rw [hd] at this;exact this
theorem num_dec {m:Nat} (h:m < 1000000000):numB (Lib.decDigits m) = true ∧ intV (Lib.decDigits m) = m:=by
  obtain ⟨i1,i2,i3,i4⟩:=dec_all m
  have hl:=decDigits_len m 9 (by omega) (by omega)
  have hn:numB (Lib.decDigits m) = true:=numB_iff.2 ⟨i3,i1,hl,by
    by_cases h0:m < 10
    · left;rw [dec_lt h0];rfl
    · exact .inr (i4 (by omega))⟩
  exact ⟨hn,by rw [intV_num hn,i2]⟩
theorem isDg_eq {c:UInt8} (h:isDg c = true):∃ k:Nat,k < 10 ∧ c = UInt8.ofNat (48 + k) ∧ (c.toNat:Int) - 48 = k:=by
  unfold isDg at h
  rw [Bool.and_eq_true,decide_eq_true_eq,decide_eq_true_eq] at h
  refine ⟨c.toNat - 48,by omega,?_,by omega⟩
  rw [show 48 + (c.toNat - 48) = c.toNat by omega]
  simp
theorem dec_dig:∀ (n:Nat) (l:List UInt8),l.length = n + 1 → digB l = true → l.headD 0 ≠ 48 → 1 ≤ digV l ∧ Lib.decDigits (digV l).toNat = l
  | 0, l, hl, hd, hh => by
    match l,hl with
    | [c], _ =>
      have hc:isDg c = true:=by unfold digB at hd;simpa using hd
      obtain ⟨k,hk,e,hv⟩:=isDg_eq hc
      have hk1:k ≠ 0:=fun e0=>hh (by rw [List.headD_cons,e,e0];rfl)
      have hvv:digV [c] = k:=by show 10 * 0 + ((c.toNat:Int) - 48) = k;omega
      rw [hvv]
      refine ⟨by omega,?_⟩
      rw [Int.toNat_natCast,dec_lt hk,← e]
  | n + 1, l, hl, hd, hh => by
    have hne:l ≠ []:=fun e=>by rw [e] at hl;cases hl
    obtain ⟨a,c,rfl⟩:∃ a c,l = a++[c]:=⟨l.dropLast,l.getLast hne,(List.dropLast_concat_getLast hne).symm⟩
    rw [List.length_append,List.length_singleton] at hl
    rw [digB_app,Bool.and_eq_true] at hd
    have hc:isDg c = true:=by have:=hd.2;unfold digB at this;simpa using this
    have hha:a.headD 0 ≠ 48:=by
      cases a with
      | nil=>simp at hl
      | cons x r=>exact hh
    obtain ⟨h1,h2⟩:=dec_dig n a (by omega) hd.1 hha
    obtain ⟨k,hk,e,hv⟩:=isDg_eq hc
    rw [digV_snoc,hv]
    refine ⟨by omega,?_⟩
    rw [dec_ge (by omega),show (10 * digV a + (k:Int)).toNat / 10 = (digV a).toNat by omega,h2,show (10 * digV a + (k:Int)).toNat % 10 = k by omega,← e]
theorem itoa_num {l:List UInt8} (h:numB l = true):itoaB (intV l) = bsL l:=by
  obtain ⟨h1,h2,h3,h4⟩:=numB_iff.1 h
  rw [intV_num h]
  have hr:=digV_range h2
  have e:digV l = ((digV l).toNat:Int):=by omega
  rw [e,itoaB_nat]
  congr 1
  by_cases h48:l.headD 0 = 48
  · rcases h4 with h4 | h4
    · match l,h4 with
      | [c], _ =>
        rw [List.headD_cons] at h48
        subst h48
        exact dec_lt (m:=0) (by decide)
    · exact absurd h48 h4
  · cases hl:l.length with
    | zero=>exact absurd (List.length_eq_zero_iff.1 hl) h1
    | succ n=>exact (dec_dig n l hl h2 h48).2
end Go.Proofs.A1
