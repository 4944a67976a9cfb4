/- Parts of the proof: U2 T6p T9p T1p T2p T8p TAp V1q TBp T3p T4p T5p T7p. -/
import Derived.Test.YthhidjfahmcekaaGreatDoorVM05
import Derived.Test.YthhidjfahmcekaaGreatDoorVM07
import Derived.Test.YthhidjfahmcekaaGreatDoorVM06
import Derived.Laws.RangeAny
import Derived.Laws.RangeString
import Derived.Test.YthhidjfahmcekaaGreatDoorVM01
import Derived.Lib.Join
import Derived.Lib.SplitLaws
import Derived.Lib.ItoaLen
set_option linter.unusedSectionVars false
set_option linter.unusedVariables false
set_option linter.unusedSimpArgs false
namespace Go.Proofs.A1
open Go Go.SL
def ints (es:List Int):List (List Value):=es.map fun e=>[.int .i64 e]
theorem ints_length (es:List Int):(ints es).length = es.length:=by simp [ints]
theorem ints_get {es:List Int} {k:Nat} (h:k < es.length):(ints es)[k]? = some [.int .i64 es[k]]:=by simp [ints,h]
theorem ints_ne {es:List Int} {k:Nat} (h:k < es.length):ints es ≠ []:=by intro e;have:=congrArg List.length e;rw [ints_length] at this;simp at this;subst this;simp at h
inductive IntL:List Value → List Int → Prop
  | nil:IntL [] []
  | cons {e:Int} {vs:List Value} {es:List Int} (h:IntL vs es):IntL (.int .i64 e :: vs) (e :: es)
theorem IntL.eq {vs:List Value} {es:List Int} (h:IntL vs es):(vs.map fun v=>[v]) = ints es:=by
  induction h with
  | nil=>rfl
  | cons h ih=>simp only [List.map_cons,ints,ih]
theorem when_q (h:Bool) (e:Int) (w:World):GivesV Tryz.prog 55 [.bool h,.int .i64 e] w (.int .i64 (whenF h e)):=by
  refine givesV_of_tr Tryz.func55 rfl rfl ?_
  (refine s_r ?_;refine a_s rfl rfl ?_;refine n_t ?_;refine tr_seq ?_;refine s_r ?_;refine m_v rfl rfl ?_;refine n_t ?_;refine c_b rfl (fun hcd=>?_) (fun hcd=>?_);refine s_r ?_;refine m_v rfl rfl ?_;refine a_s rfl rfl ?_;refine n_t ?_;refine r_t ?_;refine tr_retE rfl (ends1 rfl rfl) ?_;rotate_left;refine s_t ?_;refine s_r ?_;refine a_s rfl rfl ?_;refine n_t ?_;refine tr_ret ?_;refine tr_retE rfl (ends1 rfl rfl) ?_;rotate_right)
  all_goals simp [whenF, *]
theorem range_q (n l m:Int) (w:World):GivesV Tryz.prog 31 [.int .i64 n,.int .i64 l,.int .i64 m] w (.int .i64 (withinF n l m)):=by
  refine givesV_of_tr Tryz.func31 rfl rfl ?_
  (refine s_r ?_;refine a_s rfl rfl ?_;refine n_r ?_;refine m_v rfl rfl ?_;refine m_v rfl rfl ?_;refine tr_val (rk_lss (.of rfl) (.of rfl)) rfl ?_;refine m_v rfl rfl ?_;refine v_g rfl rfl rfl rfl ?_;refine v_g rfl rfl rfl rfl ?_;refine tr_vG1 rfl rfl inferInstance (fun hg hgp=>(rk_gtr (.ofg hg rfl) (.ofg hg rfl))) rfl ?_;refine tr_val (rk_pick_or (.of rfl) rfl) rfl ?_;refine tr_callV (rk_call (.of rfl) (.cons (.of rfl) (.cons (.of rfl) .nil)) inferInstance normc_) rfl (fun w' hm'=>(when_q _ 3 w')) ?_;refine a_s rfl rfl ?_;refine n_t ?_;refine tr_ret ?_;refine tr_retE rfl (ends1 rfl rfl) ?_)
  rfl
theorem first_q (v:Value) (es:List Int) (w:World) (h:Rd w v 1 (ints es)):GivesV Tryz.prog 30 [v] w (.int .i64 (firstF es)):=by
  obtain ⟨a,cap,b,o,rfl,hcap,hmax,ha,hc⟩:=h
  rw [ints_length] at *
  unfold maxLen at hmax
  refine givesV_of_tr Tryz.func30 rfl rfl ?_
  (refine s_r ?_;refine a_s rfl rfl ?_;refine n_t ?_;refine tr_seq ?_;refine s_r ?_;refine a_s rfl rfl ?_;refine n_t ?_;refine tr_block ?_)
  refine tr_for (fun k:Nat=>k ≤ es.length ∧ firstF es = firstF (es.drop k)) (fun k=>[(3,.int .i64 k),(0,.slice a es.length cap)]) (fun _=>[]) (fun k=>es.length - k) ?_ ?_
  · apply tr_start 0 ⟨Nat.zero_le _,rfl⟩
    case hs1=>exact .cons rfl (.cons rfl .nil)
    case ht=>(try simp only [List.take_zero,List.map_nil,List.nil_append]);exact .nil
  intro k ⟨hk,hf⟩
  by_cases hlt:k < es.length
  · have ha':=ha (ints_ne hlt)
    have hcell:=rd1 hc (ints_get hlt)
    have hs:=firstF_at hlt
    (refine tr_seq ?_;refine s_r ?_;refine m_v rfl rfl ?_;refine m_v rfl rfl ?_;refine tr_val (rk_len_slice (.of rfl)) rfl ?_;refine tr_val (rk_lss (.of rfl) (.of rfl)) rfl ?_;refine n_t ?_;refine c_d rfl (fun hcd=>?_) (fun _=>by omega);refine s_t ?_;refine tr_seq ?_;refine tr_block ?_;refine s_r ?_;refine m_v rfl rfl ?_;refine m_v rfl rfl ?_;refine tr_val (rk_indexAddr (.of rfl) (.of rfl) ha' (by omega) hcd norm1_) rfl ?_;refine tr_val (rk_load1 (.of rfl) (At.base hcell rfl)) rfl ?_;refine tr_val (rk_neq (.of rfl) (.of rfl)) rfl ?_;refine n_t ?_;refine c_d rfl (fun hcd=>?_) (fun hcd=>?_);refine s_r ?_;refine m_v rfl rfl ?_;refine m_v rfl rfl ?_;refine tr_val (rk_indexAddr (.of rfl) (.of rfl) ha' (by omega) (by assumption) norm1_) rfl ?_;refine tr_val (rk_load1 (.of rfl) (At.base hcell rfl)) rfl ?_;refine a_s rfl rfl ?_;refine n_t ?_;refine tr_ret ?_;refine tr_blk_ret ?_;refine tr_then_ret ?_;refine tr_then_ret ?_;refine tr_blk_ret ?_;refine tr_then_ret ?_;refine tr_retE rfl (ends1 rfl rfl) ?_;rotate_left;refine tr_skip ?_;refine tr_blk_normal ?_;refine tr_then ?_;refine tr_region ?_;refine m_v rfl rfl ?_;refine tr_val (rk_add (.of rfl) (.of rfl) (ini (by omega))) rfl ?_;refine a_s rfl rfl ?_;refine n_t ?_;rotate_right)
    · rw [hf,hs,if_pos hcd]
    · apply tr_next (k + 1) ⟨by omega,by rw [hf,hs,if_neg hcd]⟩ (by omega)
      case hs1=>exact .cons rfl (.cons rfl .nil)
      case ht=>(try simp only [List.take_zero,List.map_nil,List.nil_append]);exact .nil
  · (refine tr_seq ?_;refine s_r ?_;refine m_v rfl rfl ?_;refine m_v rfl rfl ?_;refine tr_val (rk_len_slice (.of rfl)) rfl ?_;refine tr_val (rk_lss (.of rfl) (.of rfl)) rfl ?_;refine n_t ?_;refine c_d rfl (fun _=>by omega) (fun hcd=>?_);refine x_t ?_;refine tr_then_exit ?_;refine tr_blk_exit ?_;refine tr_then ?_;refine s_r ?_;refine a_s rfl rfl ?_;refine n_t ?_;refine tr_ret ?_;refine tr_retE rfl (ends1 rfl rfl) ?_)
    rw [hf,List.drop_of_length_le (by omega)];rfl
theorem first_qB {v:Value} {cs:List Value} {es:List Int} {w:World} (h:Rd w v 1 (cs.map fun v=>[v])) (hl:IntL cs es):GivesV Tryz.prog 30 [v] w (.int .i64 (firstF es)):=
  first_q v es w (by rw [← hl.eq];exact h)
theorem when_c (h:Bool) (e:Int) (w:World):GivesV Tryz.prog 102 [.bool h,.int .i64 e] w (.int .i64 (whenF h e)):=by
  refine givesV_of_tr Tryz.func102 rfl rfl ?_
  (refine s_r ?_;refine a_s rfl rfl ?_;refine n_t ?_;refine tr_seq ?_;refine s_r ?_;refine m_v rfl rfl ?_;refine n_t ?_;refine c_b rfl (fun hcd=>?_) (fun hcd=>?_);refine s_r ?_;refine m_v rfl rfl ?_;refine a_s rfl rfl ?_;refine n_t ?_;refine r_t ?_;refine tr_retE rfl (ends1 rfl rfl) ?_;rotate_left;refine s_t ?_;refine s_r ?_;refine a_s rfl rfl ?_;refine n_t ?_;refine tr_ret ?_;refine tr_retE rfl (ends1 rfl rfl) ?_;rotate_right)
  all_goals simp [whenF, *]
theorem within_c (n l m:Int) (w:World):GivesV Tryz.prog 104 [.int .i64 n,.int .i64 l,.int .i64 m] w (.int .i64 (withinF n l m)):=by
  refine givesV_of_tr Tryz.func104 rfl rfl ?_
  (refine s_r ?_;refine a_s rfl rfl ?_;refine n_r ?_;refine m_v rfl rfl ?_;refine m_v rfl rfl ?_;refine tr_val (rk_lss (.of rfl) (.of rfl)) rfl ?_;refine m_v rfl rfl ?_;refine v_g rfl rfl rfl rfl ?_;refine v_g rfl rfl rfl rfl ?_;refine tr_vG1 rfl rfl inferInstance (fun hg hgp=>(rk_gtr (.ofg hg rfl) (.ofg hg rfl))) rfl ?_;refine tr_val (rk_pick_or (.of rfl) rfl) rfl ?_;refine tr_callV (rk_call (.of rfl) (.cons (.of rfl) (.cons (.of rfl) .nil)) inferInstance normc_) rfl (fun w' hm'=>(when_c _ 3 w')) ?_;refine a_s rfl rfl ?_;refine n_t ?_;refine tr_ret ?_;refine tr_retE rfl (ends1 rfl rfl) ?_)
  rfl
theorem first_c (v:Value) (es:List Int) (w:World) (h:Rd w v 1 (ints es)):GivesV Tryz.prog 101 [v] w (.int .i64 (firstF es)):=by
  obtain ⟨a,cap,b,o,rfl,hcap,hmax,ha,hc⟩:=h
  rw [ints_length] at *
  unfold maxLen at hmax
  refine givesV_of_tr Tryz.func101 rfl rfl ?_
  (refine s_r ?_;refine a_s rfl rfl ?_;refine n_t ?_;refine tr_seq ?_;refine s_r ?_;refine m_v rfl rfl ?_;refine tr_val (rk_len_slice (.of rfl)) rfl ?_;refine m_v rfl rfl ?_;refine n_t ?_;refine tr_block ?_)
  refine tr_for (fun k:Nat=>k ≤ es.length ∧ firstF es = firstF (es.drop k)) (fun k=>[(7,.int .i64 k),(6,.int .i64 es.length),(5,.slice a es.length cap)]) (fun _=>[]) (fun k=>es.length - k) ?_ ?_
  · apply tr_start 0 ⟨Nat.zero_le _,rfl⟩
    case hs1=>exact .cons rfl (.cons rfl (.cons rfl .nil))
    case ht=>(try simp only [List.take_zero,List.map_nil,List.nil_append]);exact .nil
  intro k ⟨hk,hf⟩
  by_cases hlt:k < es.length
  · have ha':=ha (ints_ne hlt)
    have hcell:=rd1 hc (ints_get hlt)
    have hs:=firstF_at hlt
    (refine s_r ?_;refine tr_val (rk_lss (.of rfl) (.of rfl)) rfl ?_;refine n_t ?_;refine tr_seq ?_;refine c_d rfl (fun hcd=>?_) (fun _=>by omega);refine s_t ?_;refine tr_seq ?_;refine tr_block ?_;refine s_r ?_;refine tr_val (rk_indexAddr (.of rfl) (.of rfl) ha' (by omega) hcd norm1_) rfl ?_;refine tr_val (rk_load1 (.of rfl) (At.base hcell rfl)) rfl ?_;refine a_s rfl rfl ?_;refine n_r ?_;refine m_v rfl rfl ?_;refine tr_val (rk_neq (.of rfl) (.of rfl)) rfl ?_;refine n_t ?_;refine c_d rfl (fun hcd=>?_) (fun hcd=>?_);refine s_r ?_;refine m_v rfl rfl ?_;refine a_s rfl rfl ?_;refine n_t ?_;refine tr_ret ?_;refine tr_blk_ret ?_;refine tr_then_ret ?_;refine tr_then_ret ?_;refine tr_blk_ret ?_;refine tr_then_ret ?_;refine tr_retE rfl (ends1 rfl rfl) ?_;rotate_left;refine tr_skip ?_;refine tr_blk_normal ?_;refine tr_then ?_;refine tr_region ?_;refine tr_val (rk_add (.of rfl) (.of rfl) (ini (by omega))) rfl ?_;refine m_v rfl rfl ?_;refine n_t ?_;rotate_right)
    · rw [hf,hs,if_pos hcd]
    · apply tr_next (k + 1) ⟨by omega,by rw [hf,hs,if_neg hcd]⟩ (by omega)
      case hs1=>exact .cons rfl (.cons rfl (.cons rfl .nil))
      case ht=>(try simp only [List.take_zero,List.map_nil,List.nil_append]);exact .nil
  · (refine s_r ?_;refine tr_val (rk_lss (.of rfl) (.of rfl)) rfl ?_;refine n_t ?_;refine tr_seq ?_;refine c_d rfl (fun _=>by omega) (fun hcd=>?_);refine x_t ?_;refine tr_then_exit ?_;refine tr_blk_exit ?_;refine tr_then ?_;refine s_r ?_;refine a_s rfl rfl ?_;refine n_t ?_;refine tr_ret ?_;refine tr_retE rfl (ends1 rfl rfl) ?_)
    rw [hf,List.drop_of_length_le (by omega)];rfl
theorem first_pB {v:Value} {cs:List Value} {es:List Int} {w:World} (h:Rd w v 1 (cs.map fun v=>[v])) (hl:IntL cs es):GivesV Tryz.prog 101 [v] w (.int .i64 (firstF es)):=
  first_c v es w (by rw [← hl.eq];exact h)
theorem bt_eq {s:ByteArray} {p:Nat} (h:p < s.size):bt s p = ((s[p]'h).toNat:Nat):=by
  unfold bt
  have:s.data.toList[p]? = some (s[p]'h):=by
    rw [Array.getElem?_toList]
    exact getElem?_pos s.data p h
  rw [this];rfl
theorem decode_bt {s:ByteArray} {p:Nat} (h:p < s.size):(bt s p < 128 ∧ ((Utf8.decode s p).1:Int) = bt s p ∧ (Utf8.decode s p).2 = 1) ∨ (128 ≤ bt s p ∧ (128:Int) ≤ (Utf8.decode s p).1 ∧ 1 ≤ (Utf8.decode s p).2):=by
  rw [bt_eq h]
  by_cases ha:(s[p]'h).toNat < 128
  · have:=decode_ascii s p h ha
    left;rw [this];exact ⟨by omega,rfl,rfl⟩
  · have:=decode_high s p h (by omega)
    right;omega
theorem ne_empty {s:ByteArray}:s.size = 0 ↔ s = ⟨#[]⟩:=by
  constructor
  · intro h
    have:s.data = #[]:=Array.eq_empty_of_size_eq_zero h
    cases s;simp_all
  · rintro rfl;rfl
end Go.Proofs.A1
namespace Go.Proofs.A1
def repF (rp:List Int) (i:Nat):Nat:=(rp.getD (i % rp.length) 0).toNat
def fldL (rp:List Int) (n:Nat):List Nat:=(List.range n).flatMap fun i=>List.replicate (repF rp i) i
theorem fldL_succ (rp:List Int) (n:Nat):fldL rp (n + 1) = fldL rp n++List.replicate (repF rp n) n:=by
  unfold fldL
  rw [List.range_succ,List.flatMap_append]
  simp
def prsN:List Nat → List (Nat × Nat)
  | a :: b :: r=>(a,b) :: prsN r
  | _=>[]
theorem prsN_len:∀ l:List Nat,(prsN l).length = l.length / 2
  | []=>rfl
  | [a]=>by simp [prsN]
  | a :: b :: r => by
    rw [prsN,List.length_cons,prsN_len r,List.length_cons,List.length_cons];omega
theorem prsN_get:∀ (l:List Nat) (k:Nat),2 * k + 1 < l.length → (prsN l)[k]? = some (l.getD (2 * k) 0,l.getD (2 * k + 1) 0)
  | [],k,h=>by simp at h
  | [a],k,h=>by simp at h
  | a :: b :: r,0,h=>rfl
  | a :: b :: r, k + 1, h => by
    rw [List.length_cons,List.length_cons] at h
    rw [prsN,List.getElem?_cons_succ,prsN_get r k (by omega)]
    rfl
def pulF (rp:List Int) (n:Nat):List (Nat × Nat):=prsN (fldL rp n)
structure CdOk (rp:List Int):Prop where
  ne:0 < rp.length
  few:rp.length ≤ 8
  rep:∀ x ∈ rp,1 ≤ x ∧ x ≤ 4
theorem rep_in {rp:List Int} (h:CdOk rp) (i:Nat):1 ≤ repF rp i ∧ repF rp i ≤ 4:=by
  have hl:i % rp.length < rp.length:=Nat.mod_lt _ h.ne
  have:=h.rep _ (List.getElem_mem hl)
  unfold repF
  rw [List.getD_eq_getElem?_getD,List.getElem?_eq_getElem hl]
  show 1 ≤ (rp[i % rp.length]).toNat ∧ (rp[i % rp.length]).toNat ≤ 4
  omega
theorem fld_len (rp:List Int) (n:Nat):(fldL rp (n + 1)).length = (fldL rp n).length + repF rp n:=by rw [fldL_succ,List.length_append,List.length_replicate]
end Go.Proofs.A1
namespace Go.Proofs.A1
end Go.Proofs.A1
namespace Go.Proofs.A1
open Go Go.SL
structure Rt where
  fr:Int
  dr:Bool
structure Lb where
  h:Int
  m:Int
  s:Int
  f:Int
structure Stm where
  ra:Rt
  la:Lb
  us:Int
def rateF (r:Rt):Int:=firstF [whenF (decide (r.fr ≠ 24) && (decide (r.fr ≠ 25) && decide (r.fr ≠ 30))) 13,whenF (r.dr && decide (r.fr ≠ 30)) 24]
structure RtOk (r:Rt):Prop where
  fr:r.fr = 24 ∨ r.fr = 25 ∨ r.fr = 30
  dr:r.dr = true → r.fr = 30
theorem rateF_zero {r:Rt}:rateF r = 0 ↔ RtOk r:=by
  unfold rateF
  rw [firstF_zero]
  simp only [List.mem_cons,List.not_mem_nil,or_false,forall_eq_or_imp,forall_eq]
  rw [whenF_zero (by decide),whenF_zero (by decide)]
  constructor
  · intro h
    refine ⟨?_,fun hd=>?_⟩
    · have:=h.1
      simp only [Bool.and_eq_false_iff,decide_eq_false_iff_not] at this
      omega
    · have:=h.2
      rw [hd,Bool.true_and,decide_eq_false_iff_not] at this
      omega
  · intro h
    constructor
    · simp only [Bool.and_eq_false_iff,decide_eq_false_iff_not]
      have:=h.fr
      omega
    · cases hd:r.dr with
      | false=>rfl
      | true=>rw [Bool.true_and,decide_eq_false_iff_not];have:=h.dr hd;omega
def drpB (r:Rt) (l:Lb):Bool:=r.dr && (decide (l.m % 10 ≠ 0) && (decide (l.s = 0) && decide (l.f < 2)))
def lblE (r:Rt) (l:Lb):Int:=firstF [rateF r,withinF l.h 0 23,withinF l.m 0 59,withinF l.s 0 59,withinF l.f 0 (r.fr - 1),whenF (drpB r l) 7]
structure LbOk (r:Rt) (l:Lb):Prop where
  ra:RtOk r
  h:0 ≤ l.h ∧ l.h ≤ 23
  m:0 ≤ l.m ∧ l.m ≤ 59
  s:0 ≤ l.s ∧ l.s ≤ 59
  f:0 ≤ l.f ∧ l.f ≤ r.fr - 1
  d:r.dr = true → l.m % 10 ≠ 0 → l.s = 0 → 2 ≤ l.f
theorem lblE_zero {r:Rt} {l:Lb}:lblE r l = 0 ↔ LbOk r l:=by
  unfold lblE
  rw [firstF_zero]
  simp only [List.mem_cons,List.not_mem_nil,or_false,forall_eq_or_imp,forall_eq,withinF_zero,rateF_zero]
  rw [whenF_zero (by decide)]
  unfold drpB
  constructor
  · intro ⟨h1,h2,h3,h4,h5,h6⟩
    refine ⟨h1,h2,h3,h4,h5,fun hd a b=>?_⟩
    rw [hd,Bool.true_and] at h6
    simp only [Bool.and_eq_false_iff,decide_eq_false_iff_not] at h6
    omega
  · intro h
    refine ⟨h.ra,h.h,h.m,h.s,h.f,?_⟩
    cases hd:r.dr with
    | false=>rfl
    | true =>
      have:=h.d hd
      rw [Bool.true_and]
      simp only [Bool.and_eq_false_iff,decide_eq_false_iff_not]
      omega
def dayF (r:Rt):Int:=24 * 60 * 60 * r.fr - if r.dr then 2592 else 0
def frmF (r:Rt) (l:Lb):Int:=(60 * (60 * l.h + l.m) + l.s) * r.fr + l.f - if r.dr then 2 * ((60 * l.h + l.m) - (60 * l.h + l.m) / 10) else 0
def lbN (r:Rt) (n:Int):Int:=if r.dr then n + 18 * (n / 17982) + (if 1800 ≤ n % 17982 then 2 * (1 + (n % 17982 - 1800) / 1798) else 0) else n
def lblF (r:Rt) (n:Int):Lb:=⟨lbN r n / r.fr / 3600,lbN r n / r.fr / 60 % 60,lbN r n / r.fr % 60,lbN r n % r.fr⟩
theorem lb_ext {a b:Lb} (h1:a.h = b.h) (h2:a.m = b.m) (h3:a.s = b.s) (h4:a.f = b.f):a = b:=by
  cases a;cases b;dsimp only at h1 h2 h3 h4;subst h1 h2 h3 h4;rfl
theorem lb_plain {fr h m s f:Int} (hf:fr = 24 ∨ fr = 25 ∨ fr = 30) (hm:0 ≤ m ∧ m ≤ 59) (hs:0 ≤ s ∧ s ≤ 59) (h4:0 ≤ f ∧ f ≤ fr - 1) {n:Int} (hn:n = (60 * (60 * h + m) + s) * fr + f) :
    n / fr / 3600 = h ∧ n / fr / 60 % 60 = m ∧ n / fr % 60 = s ∧ n % fr = f:=by
  have hq:n / fr = 3600 * h + 60 * m + s:=by
    rcases hf with rfl | rfl | rfl <;> omega
  have hr:n % fr = f:=by
    rcases hf with rfl | rfl | rfl <;> omega
  rw [hq,hr]
  omega
theorem frm_lbl {r:Rt} {l:Lb} (h:LbOk r l):0 ≤ frmF r l ∧ frmF r l < dayF r ∧ lblF r (frmF r l) = l:=by
  have h1:=h.h
  have h2:=h.m
  have h3:=h.s
  have h4:=h.f
  have hfr:=h.ra.fr
  cases hd:r.dr with
  | false =>
    have e1:frmF r l = (60 * (60 * l.h + l.m) + l.s) * r.fr + l.f:=by unfold frmF;rw [hd];simp
    have e2:dayF r = 86400 * r.fr:=by unfold dayF;rw [hd];simp
    have e3:lbN r (frmF r l) = frmF r l:=by unfold lbN;rw [hd];simp
    have hp:=lb_plain hfr h2 h3 h4 e1
    refine ⟨?_,?_,?_⟩
    · rw [e1];rcases hfr with e | e | e <;> rw [e] <;> omega
    · rw [e1,e2];rcases hfr with e | e | e <;> rw [e] at h4 ⊢ <;> omega
    · unfold lblF
      rw [e3]
      exact lb_ext hp.1 hp.2.1 hp.2.2.1 hp.2.2.2
  | true =>
    have hf:=h.ra.dr hd
    have h5:=h.d hd
    rw [hf] at h4
    have e1:frmF r l = (60 * (60 * l.h + l.m) + l.s) * 30 + l.f - 2 * ((60 * l.h + l.m) - (60 * l.h + l.m) / 10):=by unfold frmF;rw [hd,hf];simp
    have e2:dayF r = 2589408:=by unfold dayF;rw [hd,hf];decide
    obtain ⟨t,u,hu,htu⟩:∃ t u:Int,(0 ≤ u ∧ u ≤ 9) ∧ 60 * l.h + l.m = 10 * t + u:=⟨(60 * l.h + l.m) / 10,(60 * l.h + l.m) % 10,by omega,by omega⟩
    have hu2:u = l.m % 10:=by omega
    have hrest:frmF r l = 17982 * t + (1798 * u + 30 * l.s + l.f):=by
      rw [e1,htu];omega
    have h6:u ≠ 0 → 2 ≤ 30 * l.s + l.f:=fun hne=>by
      by_cases e:l.s = 0
      · have:=h5 (by omega) e;omega
      · omega
    have hq:frmF r l / 17982 = t:=by
      rw [hrest];omega
    have hr:frmF r l % 17982 = 1798 * u + 30 * l.s + l.f:=by
      rw [hrest];omega
    have e3:lbN r (frmF r l) = (60 * (60 * l.h + l.m) + l.s) * 30 + l.f:=by
      unfold lbN
      rw [hd,if_pos rfl,hq,hr]
      by_cases e:u = 0
      · rw [if_neg (by omega),hrest];omega
      · have:=h6 e
        rw [if_pos (by omega),show (1798 * u + 30 * l.s + l.f - 1800) / 1798 = u - 1 by omega,hrest]
        omega
    have hp:=lb_plain (fr:=30) (.inr (.inr rfl)) h2 h3 h4 e3
    refine ⟨by rw [hrest];omega,by rw [hrest,e2];omega,?_⟩
    unfold lblF
    rw [hf]
    exact lb_ext hp.1 hp.2.1 hp.2.2.1 hp.2.2.2
theorem lbl_frm {r:Rt} {n:Int} (hr:RtOk r) (hn:0 ≤ n ∧ n < dayF r):LbOk r (lblF r n) ∧ frmF r (lblF r n) = n:=by
  have hfr:=hr.fr
  cases hd:r.dr with
  | false =>
    have e2:dayF r = 86400 * r.fr:=by unfold dayF;rw [hd];simp
    have e3:lbN r n = n:=by unfold lbN;rw [hd];simp
    have e4:lblF r n = ⟨n / r.fr / 3600,n / r.fr / 60 % 60,n / r.fr % 60,n % r.fr⟩:=by unfold lblF;rw [e3]
    rw [e4]
    obtain ⟨_,hn2⟩:=hn
    rw [e2] at hn2
    have hq:0 ≤ n / r.fr ∧ n / r.fr < 86400 ∧ n = r.fr * (n / r.fr) + n % r.fr ∧ 0 ≤ n % r.fr ∧ n % r.fr < r.fr:=by
      rcases hfr with e | e | e <;> rw [e] at hn2 ⊢ <;> omega
    obtain ⟨q1,q2,q3,q4,q5⟩:=hq
    refine ⟨⟨hr,?_,?_,?_,?_,fun h=>by rw [hd] at h;cases h⟩,?_⟩ <;> (try dsimp only)
    · omega
    · omega
    · omega
    · omega
    · unfold frmF
      rw [hd]
      dsimp only
      rw [show 60 * (60 * (n / r.fr / 3600) + n / r.fr / 60 % 60) + n / r.fr % 60 = n / r.fr by omega,if_neg (by decide),Int.sub_zero,Int.mul_comm]
      exact q3.symm
  | true =>
    have hf:=hr.dr hd
    have e2:dayF r = 2589408:=by unfold dayF;rw [hd,hf];decide
    rw [e2] at hn
    obtain ⟨t,q,hq,ht⟩:∃ t q:Int,(0 ≤ q ∧ q < 17982) ∧ n = 17982 * t + q:=⟨n / 17982,n % 17982,by omega,by omega⟩
    obtain ⟨u,v,hu,hv,hv2,hqv⟩:∃ u v:Int,(0 ≤ u ∧ u ≤ 9) ∧ (0 ≤ v ∧ v < 1800) ∧ (u ≠ 0 → 2 ≤ v) ∧ q = 1798 * u + v:=by
      by_cases e:q < 1800
      · exact ⟨0,q,by omega,by omega,fun h=>absurd rfl h,by omega⟩
      · exact ⟨1 + (q - 1800) / 1798,(q - 1800) % 1798 + 2,by omega,by omega,fun _=>by omega,by omega⟩
    have htq:n / 17982 = t ∧ n % 17982 = q:=by omega
    have e3:lbN r n = 18000 * t + 1800 * u + v:=by
      unfold lbN
      rw [hd,if_pos rfl,htq.1,htq.2]
      by_cases e:u = 0
      · by_cases e':1800 ≤ q
        · omega
        · rw [if_neg e'];omega
      · have:=hv2 e
        rw [if_pos (by omega),show (q - 1800) / 1798 = u - 1 by omega]
        omega
    have e4:lblF r n = ⟨(18000 * t + 1800 * u + v) / 30 / 3600,(18000 * t + 1800 * u + v) / 30 / 60 % 60,(18000 * t + 1800 * u + v) / 30 % 60,(18000 * t + 1800 * u + v) % 30⟩:=by unfold lblF;rw [e3,hf]
    rw [e4]
    have hs:(18000 * t + 1800 * u + v) / 30 = 600 * t + 60 * u + v / 30:=by omega
    have hf2:(18000 * t + 1800 * u + v) % 30 = v % 30:=by omega
    rw [hs,hf2]
    have hs60:(600 * t + 60 * u + v / 30) % 60 = v / 30:=by omega
    have hm60:(600 * t + 60 * u + v / 30) / 60 = 10 * t + u:=by omega
    have hh:(600 * t + 60 * u + v / 30) / 3600 = (10 * t + u) / 60:=by omega
    rw [hs60,hm60,hh]
    refine ⟨⟨hr,?_,?_,?_,?_,fun _ a b=>?_⟩,?_⟩ <;> (try dsimp only at *)
    · omega
    · omega
    · omega
    · rw [hf];omega
    · have:=hv2 (by omega);omega
    · unfold frmF
      rw [hd,hf]
      dsimp only
      rw [if_pos rfl,show 60 * ((10 * t + u) / 60) + (10 * t + u) % 60 = 10 * t + u by omega]
      omega
theorem day_pos {r:Rt} (h:RtOk r):2073600 ≤ dayF r ∧ dayF r ≤ 2592000:=by
  unfold dayF
  have:=h.fr
  have:=h.dr
  split
  · rename_i hd;have:=h.dr hd;omega
  · omega
def addF (r:Rt) (l:Lb) (k:Int):Lb:=lblF r ((frmF r l + k) % dayF r)
theorem mod_twice {x d:Int} (hd:0 < d):(x.tmod d + d) % d = x % d:=by
  rw [Int.add_emod_right,Int.tmod_def,Int.sub_eq_add_neg,← Int.mul_neg,Int.add_mul_emod_self_left]
theorem mod_range {x d:Int} (hd:0 < d):-d < x.tmod d ∧ x.tmod d < d:=by
  have h1:=Int.tmod_lt_of_pos x hd
  have h2:=Int.lt_tmod_of_pos x hd
  exact ⟨h2,h1⟩
theorem add_ok {r:Rt} {l:Lb} {k:Int} (h:RtOk r):LbOk r (addF r l k) ∧ frmF r (addF r l k) = (frmF r l + k) % dayF r:=by
  have hd:=day_pos h
  exact lbl_frm h ⟨Int.emod_nonneg _ (by omega),Int.emod_lt_of_pos _ (by omega)⟩
theorem add_add {r:Rt} {l:Lb} {j k:Int} (h:RtOk r):addF r (addF r l j) k = addF r l (j + k):=by
  unfold addF
  have:=(add_ok (l:=l) (k:=j) h).2
  unfold addF at this
  rw [this,Int.emod_add_emod,Int.add_assoc]
theorem add_zero {r:Rt} {l:Lb} (h:LbOk r l):addF r l 0 = l:=by
  unfold addF
  have:=frm_lbl h
  rw [Int.add_zero,Int.emod_eq_of_lt this.1 this.2.1]
  exact this.2.2
end Go.Proofs.A1
namespace Go.Proofs.A1
open Go Go.SL
theorem byte_nat {n:Int} (h:0 ≤ n ∧ n ≤ 255):∃ k:Nat,k < 256 ∧ n = (k:Int):=⟨n.toNat,by omega,by omega⟩
theorem and15N:∀ k:Nat,k < 256 → andF (k:Int) 15 = (k:Int) % 16:=by decide +kernel
theorem and15 {n:Int} (h:0 ≤ n ∧ n ≤ 255):andF n 15 = n % 16:=by obtain ⟨k,hk,rfl⟩:=byte_nat h;exact and15N k hk
theorem rateN:∀ k:Nat,k < 256 → (anotF (k:Int) 128 = (k:Int) % 128 ∧ andF (k:Int) 128 = (k:Int) / 128 * 128):=by decide +kernel
theorem rate_bits {n:Int} (h:0 ≤ n ∧ n ≤ 255):anotF n 128 = n % 128 ∧ andF n 128 = n / 128 * 128:=by obtain ⟨k,hk,rfl⟩:=byte_nat h;exact rateN k hk
theorem xorF_byte (a b:Int):0 ≤ xorF a b ∧ xorF a b ≤ 255:=by
  unfold xorF
  have:=(BitVec.ofInt 8 a ^^^ BitVec.ofInt 8 b).isLt
  omega
def parF (l:List Int):Int:=l.foldl xorF 0
theorem parF_byte (l:List Int):0 ≤ parF l ∧ parF l ≤ 255:=by
  have key:∀ (l:List Int) (a:Int),(0 ≤ a ∧ a ≤ 255) → 0 ≤ l.foldl xorF a ∧ l.foldl xorF a ≤ 255:=by
    intro l
    induction l with
    | nil=>intro a h;exact h
    | cons x r ih=>intro a _;exact ih _ (xorF_byte a x)
  exact key l 0 (by decide)
theorem parF_snoc (l:List Int) (x:Int):parF (l++[x]) = xorF (parF l) x:=by unfold parF;rw [List.foldl_append];rfl
def bcd (n:Int):Int:=n / 10 * 16 + n % 10
theorem bcd_byte {n:Int} (h:0 ≤ n ∧ n ≤ 59):0 ≤ bcd n ∧ bcd n ≤ 89 ∧ bcd n / 16 = n / 10 ∧ bcd n % 16 = n % 10:=by unfold bcd;omega
def rtB (r:Rt):Int:=r.fr + if r.dr then 128 else 0
def w7 (s:Stm):List Int:=[bcd s.la.f,bcd s.la.s,bcd s.la.m,bcd s.la.h,rtB s.ra,s.us / 256,s.us % 256]
def wordF (s:Stm):List Int:=w7 s++[parF (w7 s),63,253]
def stmE (s:Stm):Int:=firstF [lblE s.ra s.la,withinF s.us 0 65535]
structure StOk (s:Stm):Prop where
  la:LbOk s.ra s.la
  us:0 ≤ s.us ∧ s.us ≤ 65535
theorem stmE_zero {s:Stm}:stmE s = 0 ↔ StOk s:=by
  unfold stmE
  rw [firstF_zero]
  simp only [List.mem_cons,List.not_mem_nil,or_false,forall_eq_or_imp,forall_eq,withinF_zero,lblE_zero]
  exact ⟨fun h=>⟨h.1,h.2⟩,fun h=>⟨h.la,h.us⟩⟩
def wa (w:List Int) (i:Nat):Int:=w.getD i 0
def unb (b:Int):Int:=b / 16 * 10 + b % 16
def badD (b:Int):Bool:=decide (9 < b / 16) || decide (9 < b % 16)
def stmW (w:List Int):Stm:=⟨⟨wa w 4 % 128,decide (128 ≤ wa w 4)⟩,⟨unb (wa w 3),unb (wa w 2),unb (wa w 1),unb (wa w 0)⟩,wa w 5 * 256 + wa w 6⟩
def rtOkB (b:Int):Bool:=decide (b = 24) || decide (b = 25) || decide (b = 30) || decide (b = 158)
def rdE (w:List Int):Int:=
  if wa w 8 ≠ 63 ∨ wa w 9 ≠ 253 then 1
  else if parF (w.take 7) ≠ wa w 7 then 27
  else if badD (wa w 0) || badD (wa w 1) || badD (wa w 2) || badD (wa w 3) then 1
  else if rtOkB (wa w 4) then stmE (stmW w) else 1
def Stm.zero:Stm:=⟨⟨0,false⟩,⟨0,0,0,0⟩,0⟩
def rdF (w:List Int):Stm:=if rdE w = 0 then stmW w else Stm.zero
theorem rt_ok {b:Int} (h:0 ≤ b ∧ b ≤ 255):rtOkB b = true ↔ rateF ⟨b % 128,decide (128 ≤ b)⟩ = 0:=by
  rw [rateF_zero]
  unfold rtOkB
  simp only [Bool.or_eq_true,decide_eq_true_eq]
  constructor
  · intro h1
    refine ⟨?_,fun hd=>?_⟩
    · show b % 128 = 24 ∨ b % 128 = 25 ∨ b % 128 = 30
      omega
    · have:128 ≤ b:=of_decide_eq_true hd
      show b % 128 = 30
      omega
  · rintro ⟨h1,h2⟩
    have h1:b % 128 = 24 ∨ b % 128 = 25 ∨ b % 128 = 30:=h1
    by_cases hb:128 ≤ b
    · have h2:b % 128 = 30:=h2 (decide_eq_true hb)
      omega
    · omega
theorem w7_bytes {s:Stm} (h:StOk s):∀ x ∈ w7 s,0 ≤ x ∧ x ≤ 255:=by
  have l:=h.la
  have hu:=h.us
  have hf:=l.f
  have hr:=l.ra.fr
  have b1:=bcd_byte (n:=s.la.f) (by omega)
  have b2:=bcd_byte (n:=s.la.s) l.s
  have b3:=bcd_byte (n:=s.la.m) l.m
  have b4:=bcd_byte (n:=s.la.h) (by have:=l.h;omega)
  intro x hx
  unfold w7 at hx
  simp only [List.mem_cons,List.not_mem_nil,or_false] at hx
  rcases hx with rfl | rfl | rfl | rfl | rfl | rfl | rfl
  · omega
  · omega
  · omega
  · omega
  · unfold rtB;split <;> omega
  · omega
  · omega
theorem unb_bcd {n:Int} (h:0 ≤ n ∧ n ≤ 59):unb (bcd n) = n ∧ badD (bcd n) = false:=by
  obtain ⟨_,_,h1,h2⟩:=bcd_byte h
  unfold unb badD
  rw [h1,h2]
  refine ⟨by omega,?_⟩
  rw [decide_eq_false (by omega),decide_eq_false (by omega)];rfl
theorem read_word {s:Stm} (h:StOk s):rdE (wordF s) = 0 ∧ rdF (wordF s) = s:=by
  have l:=h.la
  have hu:=h.us
  have hf:=l.f
  have hr:=l.ra.fr
  have b1:=unb_bcd (n:=s.la.f) (by omega)
  have b2:=unb_bcd (n:=s.la.s) l.s
  have b3:=unb_bcd (n:=s.la.m) l.m
  have b4:=unb_bcd (n:=s.la.h) (by have:=l.h;omega)
  have hrt:rtB s.ra % 128 = s.ra.fr ∧ decide (128 ≤ rtB s.ra) = s.ra.dr ∧ 0 ≤ rtB s.ra ∧ rtB s.ra ≤ 255:=by
    unfold rtB
    cases hd:s.ra.dr
    · refine ⟨by simp;omega,decide_eq_false (by simp;omega),by simp;omega,by simp;omega⟩
    · refine ⟨by simp;omega,decide_eq_true (by simp;omega),by simp;omega,by simp;omega⟩
  have hs:stmW (wordF s) = s:=by
    show Stm.mk ⟨rtB s.ra % 128,decide (128 ≤ rtB s.ra)⟩ ⟨unb (bcd s.la.h),unb (bcd s.la.m),unb (bcd s.la.s),unb (bcd s.la.f)⟩ (s.us / 256 * 256 + s.us % 256) = s
    rw [b1.1,b2.1,b3.1,b4.1,hrt.1,hrt.2.1,show s.us / 256 * 256 + s.us % 256 = s.us by omega]
  have he:rdE (wordF s) = 0:=by
    unfold rdE
    have h8:¬ (wa (wordF s) 8 ≠ 63 ∨ wa (wordF s) 9 ≠ 253):=by rintro (e | e) <;> exact e rfl
    have hp:parF (List.take 7 (wordF s)) = wa (wordF s) 7:=rfl
    have hbd:(badD (wa (wordF s) 0) || badD (wa (wordF s) 1) || badD (wa (wordF s) 2) || badD (wa (wordF s) 3)) = false:=by
      show (badD (bcd s.la.f) || badD (bcd s.la.s) || badD (bcd s.la.m) || badD (bcd s.la.h)) = false
      rw [b1.2,b2.2,b3.2,b4.2];rfl
    rw [if_neg h8,if_neg (fun e=>e hp),if_neg (by rw [hbd];decide)]
    have hk:rtOkB (wa (wordF s) 4) = true:=(rt_ok (b:=rtB s.ra) hrt.2.2).2 (by rw [hrt.1,hrt.2.1];exact rateF_zero.2 l.ra)
    rw [if_pos hk,hs]
    exact stmE_zero.2 h
  exact ⟨he,by rw [rdF,if_pos he,hs]⟩
end Go.Proofs.A1
namespace Go.Proofs.A1
open Go Go.SL
structure Cp where
  fr:Int
  to:Int
  rw:Int
  co:Int
  tx:ByteArray
def Cp.zero:Cp:=⟨0,0,0,0,⟨#[]⟩⟩
def badTx (s:ByteArray):Bool:=(List.range s.size).any fun i=>decide (bt s i < 32) || decide (126 < bt s i)
theorem badTx_no {s:ByteArray}:badTx s = false ↔ ∀ i,i < s.size → 32 ≤ bt s i ∧ bt s i ≤ 126:=by
  unfold badTx
  rw [List.any_eq_false]
  simp only [List.mem_range,Bool.or_eq_true,decide_eq_true_eq]
  constructor
  · intro h i hi;have:=h i hi;omega
  · intro h i hi;have:=h i hi;omega
def cpE (c:Cp):Int:=firstF [whenF (decide (c.fr < 0) || (decide (c.to ≤ c.fr) || decide (10000000 < c.to))) 14,withinF c.rw 0 7,withinF c.co 0 31,whenF (decide (c.tx.size = 0)) 12,whenF (decide (32 < c.co + (c.tx.size:Int))) 26,whenF (badTx c.tx) 1]
structure CpOk (c:Cp):Prop where
  sp:0 ≤ c.fr ∧ c.fr < c.to ∧ c.to ≤ 10000000
  rw:0 ≤ c.rw ∧ c.rw ≤ 7
  co:0 ≤ c.co ∧ c.co ≤ 31
  ne:0 < c.tx.size
  fit:c.co + (c.tx.size:Int) ≤ 32
  by_:∀ i,i < c.tx.size → 32 ≤ bt c.tx i ∧ bt c.tx i ≤ 126
theorem cpE_zero {c:Cp}:cpE c = 0 ↔ CpOk c:=by
  unfold cpE
  rw [firstF_zero]
  simp only [List.mem_cons,List.not_mem_nil,or_false,forall_eq_or_imp,forall_eq,withinF_zero]
  rw [whenF_zero (by decide),whenF_zero (by decide),whenF_zero (by decide),whenF_zero (by decide),badTx_no]
  simp only [Bool.or_eq_false_iff,decide_eq_false_iff_not]
  constructor
  · rintro ⟨h1,h2,h3,h4,h5,h6⟩
    exact ⟨by omega,h2,h3,by omega,by omega,h6⟩
  · intro h
    have h1:=h.sp;have h4:=h.ne;have h5:=h.fit
    exact ⟨by omega,h.rw,h.co,by omega,by omega,h.by_⟩
def cfl (a b:Cp):Bool:=decide (a.rw = b.rw) && (decide (max a.fr b.fr < min a.to b.to) && decide (max a.co b.co < min (a.co + (a.tx.size:Int)) (b.co + (b.tx.size:Int))))
def cflQ (a b:Cp):Bool:=decide (a.rw = b.rw) && (decide (a.fr < b.to) && (decide (b.fr < a.to) && (decide (a.co < b.co + (b.tx.size:Int)) && decide (b.co < a.co + (a.tx.size:Int)))))
theorem cfl_iff {a b:Cp} (ha:CpOk a) (hb:CpOk b):cfl a b = cflQ a b:=by
  have h1:=ha.sp;have h2:=hb.sp;have h3:=ha.ne;have h4:=hb.ne
  rw [Bool.eq_iff_iff]
  unfold cfl cflQ
  simp only [Bool.and_eq_true,decide_eq_true_eq]
  omega
def nthC (l:List Cp) (k:Nat):Cp:=l.getD k Cp.zero
theorem nthC_get {l:List Cp} {k:Nat} (h:k < l.length):nthC l k = l[k]:=by
  unfold nthC;rw [List.getD_eq_getElem?_getD,List.getElem?_eq_getElem h];rfl
def cpAt (l:List Cp) (k:Nat):Int:=firstF [cpE (nthC l k),whenF ((l.take k).any (cfl (nthC l k))) 24]
def capE (l:List Cp):Int:=if 32 < l.length then 5 else errE (cpAt l) l.length
structure CapOk (l:List Cp):Prop where
  few:l.length ≤ 32
  ok:∀ k,k < l.length → CpOk (nthC l k)
  no:∀ k,k < l.length → ∀ j,j < k → cflQ (nthC l k) (nthC l j) = false
theorem capE_zero {l:List Cp}:capE l = 0 ↔ CapOk l:=by
  unfold capE
  split
  · constructor
    · intro h;exact absurd h (by decide)
    · intro h;have:=h.few;omega
  rename_i hl
  rw [errE_ok]
  have key:∀ k,k < l.length → (cpAt l k = 0 ↔ CpOk (nthC l k) ∧ ∀ j,j < k → cfl (nthC l k) (nthC l j) = false):=fun k hk=>by
    unfold cpAt
    rw [firstF_zero]
    simp only [List.mem_cons,List.not_mem_nil,or_false,forall_eq_or_imp,forall_eq]
    rw [whenF_zero (by decide),cpE_zero,List.any_eq_false]
    refine and_congr_right fun _=>⟨fun h j hj=>?_,fun h x hx=>?_⟩
    · have hj2:j < l.length:=by omega
      rw [nthC_get hj2,← Bool.not_eq_true]
      exact h _ (List.mem_take_iff_getElem.2 ⟨j,by omega,rfl⟩)
    · obtain ⟨j,hj,rfl⟩:=List.mem_take_iff_getElem.1 hx
      have:=h j (by omega)
      rw [nthC_get (l:=l) (k:=j) (by omega)] at this
      rw [this];decide
  constructor
  · intro h
    have ho:∀ k,k < l.length → CpOk (nthC l k):=fun k hk=>((key k hk).1 (h k hk)).1
    refine ⟨by omega,ho,fun k hk j hj=>?_⟩
    rw [← cfl_iff (ho k hk) (ho j (by omega))]
    exact ((key k hk).1 (h k hk)).2 j hj
  · intro h k hk
    refine (key k hk).2 ⟨h.ok k hk,fun j hj=>?_⟩
    rw [cfl_iff (h.ok k hk) (h.ok j (by omega))]
    exact h.no k hk j hj
def onC (x:Cp) (n:Int) (r:Int):Bool:=decide (x.rw = r) && (decide (x.fr ≤ n) && decide (n < x.to))
def cov (x:Cp) (n:Int) (r:Int) (k:Nat):Bool:=onC x n r && (decide (x.co ≤ (k:Int)) && decide ((k:Int) < x.co + (x.tx.size:Int)))
def shS (n:Int) (r:Int) (k:Nat) (b:Int) (x:Cp):Int:=if cov x n r k then bt x.tx ((k:Int) - x.co).toNat else b
def shB (l:List Cp) (n r:Int) (k:Nat):Int:=l.foldl (shS n r k) 32
theorem shB_snoc (l:List Cp) (x:Cp) (n r:Int) (k:Nat):shB (l++[x]) n r k = shS n r k (shB l n r k) x:=by unfold shB;rw [List.foldl_append];rfl
def rowB (l:List Cp) (n r:Int):List Int:=(List.range 32).map (shB l n r)
theorem rowB_len (l:List Cp) (n r:Int):(rowB l n r).length = 32:=by unfold rowB;rw [List.length_map,List.length_range]
def endB (l:List Cp) (n:Int):Bool:=l.any fun x=>decide (x.fr = n) || decide (x.to = n)
def strB (l:List Int):ByteArray:=⟨(l.map fun n=>UInt8.ofNat n.toNat).toArray⟩
def scrL (l:List Cp) (n:Int):List ByteArray:=(List.range 8).map fun r=>strB (rowB l n (r:Nat))
def chB (l:List Cp) (n:Int):Bool:=decide (scrL l n ≠ scrL l (n - 1))
def topC (l:List Cp):Nat:=l.foldl (fun m x=>max m (max x.fr.toNat x.to.toNat)) 0
theorem topC_le:∀ (l:List Cp) (m:Nat),m ≤ l.foldl (fun m x=>max m (max x.fr.toNat x.to.toNat)) m ∧ ∀ x ∈ l,x.fr.toNat ≤ l.foldl (fun m x=>max m (max x.fr.toNat x.to.toNat)) m ∧ x.to.toNat ≤ l.foldl (fun m x=>max m (max x.fr.toNat x.to.toNat)) m
  | [],m=>⟨Nat.le_refl _,fun x hx=>by cases hx⟩
  | y :: l, m => by
    rw [List.foldl_cons]
    have ih:=topC_le l (max m (max y.fr.toNat y.to.toNat))
    refine ⟨by have:=ih.1;omega,fun x hx=>?_⟩
    rcases List.mem_cons.1 hx with rfl | hx
    · have:=ih.1;omega
    · exact ih.2 x hx
def chL (l:List Cp):List Nat:=(List.range (topC l + 1)).filter fun (n:Nat)=>endB l (n:Int) && chB l (n:Int)
theorem chL_mem {l:List Cp} {n:Nat}:n ∈ chL l ↔ endB l (n:Int) = true ∧ chB l (n:Int) = true:=by
  unfold chL
  rw [List.mem_filter,Bool.and_eq_true,List.mem_range]
  refine ⟨fun h=>h.2,fun h=>⟨?_,h⟩⟩
  have:=h.1
  unfold endB at this
  rw [List.any_eq_true] at this
  obtain ⟨x,hx,h2⟩:=this
  have:=(topC_le l 0).2 x hx
  unfold topC
  simp only [Bool.or_eq_true,decide_eq_true_eq] at h2
  omega
theorem chL_inc (l:List Cp):(chL l).Pairwise (· < ·):=List.Pairwise.filter _ List.pairwise_lt_range
end Go.Proofs.A1
namespace Go.Proofs.A1
open Go Go.SL
end Go.Proofs.A1
namespace Go.Proofs.A1
open Go Go.SL
def itoaB (n:Int):ByteArray:=⟨(Lib.itoa n).toArray⟩
def joinB (l:List ByteArray) (sep:ByteArray):ByteArray:=⟨(Lib.join (l.map (·.data.toList)) sep.data.toList).toArray⟩
end Go.Proofs.A1
namespace Go.Proofs.A1
open Go Go.SL
def dgC (n:Int):UInt8:=UInt8.ofNat (48 + n).toNat
def twoL (n:Int):List UInt8:=[dgC (n / 10),dgC (n % 10)]
def mkC (b:Bool):UInt8:=if b then 59 else 58
def lbW (s:Stm):List UInt8:=[dgC (s.la.h / 10),dgC (s.la.h % 10),58,dgC (s.la.m / 10),dgC (s.la.m % 10),58,dgC (s.la.s / 10),dgC (s.la.s % 10),mkC s.ra.dr,dgC (s.la.f / 10),dgC (s.la.f % 10)]
def prtL (s:Stm):List UInt8:=lbW s++32 :: ([97,116]++32 :: (Lib.decDigits s.ra.fr.toNat++32 :: Lib.decDigits s.us.toNat))
def atD (l:List UInt8) (i:Nat):UInt8:=l.getD i 0
def d2 (l:List UInt8) (i:Nat):Int:=10 * (((atD l i).toNat:Int) - 48) + (((atD l (i + 1)).toNat:Int) - 48)
structure Tk where
  h:Int
  m:Int
  s:Int
  f:Int
  c:UInt8
  rest:List UInt8
  bad:Bool
end Go.Proofs.A1
namespace Go.Proofs.A1
open Go Go.SL
theorem rdE_sync {w:List Int} (h:wa w 8 ≠ 63 ∨ wa w 9 ≠ 253):rdE w ≠ 0:=by unfold rdE;rw [if_pos h];decide
theorem rdE_dig {w:List Int} (h:(badD (wa w 0) || badD (wa w 1) || badD (wa w 2) || badD (wa w 3)) = true):rdE w ≠ 0:=by
  unfold rdE
  split
  · decide
  · split
    · decide
    · decide
def win (s:List Int) (i:Nat):List Int:=(s.drop i).take 10
theorem wa_win {s:List Int} {i j:Nat} (h:j < 10):wa (win s i) j = wa s (i + j):=by
  unfold wa win
  rw [List.getD_eq_getElem?_getD,List.getD_eq_getElem?_getD,List.getElem?_take_of_lt h,List.getElem?_drop]
def hitF (s:List Int):Nat → Nat → List (Stm × Nat)
  | 0,_=>[]
  | n + 1,i=>if i + 10 ≤ s.length then (if rdE (win s i) = 0 then (rdF (win s i),i) :: hitF s n (i + 10) else hitF s n (i + 1)) else []
theorem hitF_fuel (s:List Int):∀ n i m,s.length - i ≤ n → s.length - i ≤ m → hitF s n i = hitF s m i
  | 0, i, m, h, _ => by
    cases m with
    | zero=>rfl
    | succ m=>rw [hitF,hitF,if_neg (by omega)]
  | n + 1,i,0,_,h=>by rw [hitF,hitF,if_neg (by omega)]
  | n + 1, i, m + 1, h1, h2 => by
    rw [hitF,hitF]
    split
    · split
      · rw [hitF_fuel s n (i + 10) m (by omega) (by omega)]
      · rw [hitF_fuel s n (i + 1) m (by omega) (by omega)]
    · rfl
def hitL (s:List Int) (i:Nat):List (Stm × Nat):=hitF s (s.length - i) i
theorem hit_hit {s:List Int} {i:Nat} (h:i + 10 ≤ s.length) (h0:rdE (win s i) = 0):hitL s i = (rdF (win s i),i) :: hitL s (i + 10):=by
  unfold hitL
  obtain ⟨n,hn⟩:∃ n,s.length - i = n + 1:=⟨s.length - i - 1,by omega⟩
  rw [hn,hitF,if_pos h,if_pos h0,hitF_fuel s n (i + 10) (s.length - (i + 10)) (by omega) (by omega)]
theorem hit_miss {s:List Int} {i:Nat} (h:i + 10 ≤ s.length) (h0:rdE (win s i) ≠ 0):hitL s i = hitL s (i + 1):=by
  unfold hitL
  obtain ⟨n,hn⟩:∃ n,s.length - i = n + 1:=⟨s.length - i - 1,by omega⟩
  rw [hn,hitF,if_pos h,if_neg h0,hitF_fuel s n (i + 1) (s.length - (i + 1)) (by omega) (by omega)]
theorem hit_end {s:List Int} {i:Nat} (h:s.length < i + 10):hitL s i = []:=by
  unfold hitL
  cases hn:s.length - i with
  | zero=>rfl
  | succ n=>rw [hitF,if_neg (by omega)]
theorem hit_next {s:List Int} {p:Nat} (h9:badD (wa s (p + 9)) = true) (h9':wa s (p + 9) ≠ 63) (h8:∀ j,p + 10 ≤ j → j < s.length → j < p + 15 → wa s j ≠ 63):∀ n d,n + d = 10 → 1 ≤ d → hitL s (p + d) = hitL s (p + 10)
  | 0,d,hn,_=>by rw [show d = 10 by omega]
  | n + 1, d, hn, h1 => by
    by_cases hl:p + d + 10 ≤ s.length
    · rw [hit_miss hl,show p + d + 1 = p + (d + 1) by omega,hit_next h9 h9' h8 n (d + 1) (by omega) (by omega)]
      by_cases h6:d ≤ 6
      · refine rdE_sync (.inl ?_)
        rw [wa_win (by omega)]
        by_cases h1:d = 1
        · subst h1;exact h9'
        · exact h8 (p + d + 8) (by omega) (by omega) (by omega)
      · refine rdE_dig ?_
        rw [wa_win (by omega),wa_win (by omega),wa_win (by omega),wa_win (by omega)]
        rcases (by omega:d = 7 ∨ d = 8 ∨ d = 9) with e | e | e
        · rw [e,show p + 7 + 2 = p + 9 by omega,h9];simp
        · rw [e,show p + 8 + 1 = p + 9 by omega,h9];simp
        · rw [e,show p + 9 + 0 = p + 9 by omega,h9];simp
    · rw [hit_end (by omega),hit_end (by omega)]
def runL:List Stm → Nat → List (Stm × Nat)
  | [],_=>[]
  | x :: r,p=>(x,p) :: runL r (p + 10)
theorem hit_run {s:List Int}:∀ (L:List Stm) (p:Nat),(∀ x ∈ L,StOk x) → p + 10 * L.length ≤ s.length → (∀ i (h:i < L.length),win s (p + 10 * i) = wordF L[i]) → hitL s p = runL L p++hitL s (p + 10 * L.length)
  | [],p,_,_,_=>rfl
  | x :: r, p, ho, hl, hw => by
    rw [List.length_cons] at hl
    have h0:win s p = wordF x:=hw 0 (by simp)
    obtain ⟨e1,e2⟩:=read_word (ho x (by simp))
    rw [hit_hit (by omega) (by rw [h0];exact e1),h0,e2,hit_run r (p + 10) (fun y hy=>ho y (List.mem_cons_of_mem _ hy)) (by omega) fun i h=>by
      have:=hw (i + 1) (by rw [List.length_cons];omega)
      rw [show p + 10 + 10 * i = p + 10 * (i + 1) by omega]
      exact this]
    rw [runL,List.length_cons,show p + 10 + 10 * r.length = p + 10 * (r.length + 1) by omega]
    rfl
theorem word_len (x:Stm):(wordF x).length = 10:=rfl
theorem word_end (x:Stm):wa (wordF x) 8 = 63 ∧ wa (wordF x) 9 = 253:=⟨rfl,rfl⟩
theorem bcd_63 {n:Int} (h:0 ≤ n ∧ n ≤ 59):bcd n ≠ 63:=by unfold bcd;omega
theorem word_fore {x:Stm} (h:StOk x):∀ j,j < 5 → wa (wordF x) j ≠ 63:=fun j hj=>by
  have l:=h.la
  have hf:=l.f
  have hr:=l.ra.fr
  match j,hj with
  | 0,_=>exact bcd_63 (n:=x.la.f) (by omega)
  | 1,_=>exact bcd_63 (n:=x.la.s) l.s
  | 2,_=>exact bcd_63 (n:=x.la.m) l.m
  | 3,_=>exact bcd_63 (n:=x.la.h) (by have:=l.h;omega)
  | 4, _ =>
    show rtB x.ra ≠ 63
    unfold rtB
    split <;> omega
def strmL (L:List Stm):List Int:=(L.map wordF).flatten
theorem strm_len:∀ L:List Stm,(strmL L).length = 10 * L.length
  | []=>rfl
  | x :: r => by
    unfold strmL
    rw [List.map_cons,List.flatten_cons,List.length_append,word_len,List.length_cons]
    have:=strm_len r
    unfold strmL at this
    omega
theorem strm_at:∀ (L:List Stm) (i:Nat) (h:i < L.length) (rest:List Int),win (strmL L++rest) (10 * i) = wordF L[i]
  | x :: r, 0, h, rest => by
    unfold strmL win
    rw [List.map_cons,List.flatten_cons,List.append_assoc,Nat.mul_zero,List.drop_zero,List.take_append_of_le_length (by rw [word_len];omega),List.take_of_length_le (by rw [word_len];omega)]
    rfl
  | x :: r, i + 1, h, rest => by
    have ih:=strm_at r i (by rw [List.length_cons] at h;omega) rest
    rw [List.getElem_cons_succ,← ih]
    unfold strmL win
    rw [List.map_cons,List.flatten_cons,List.append_assoc,show 10 * (i + 1) = (wordF x).length + 10 * i by rw [word_len];omega,List.drop_append,List.drop_of_length_le (by omega:(wordF x).length ≤ (wordF x).length + 10 * i),Nat.add_sub_cancel_left,List.nil_append]
end Go.Proofs.A1
namespace Go.Proofs.A1
open Go Go.SL
theorem win_drop (s:List Int) (f i:Nat):win (s.drop f) i = win s (i + f):=by
  unfold win
  rw [List.drop_drop,Nat.add_comm]
theorem hitF_drop (s:List Int) (f:Nat):∀ n i,hitF (s.drop f) n i = (hitF s n (i + f)).map fun x=>(x.1,x.2 - f)
  | 0,i=>rfl
  | n + 1, i => by
    rw [hitF,hitF,List.length_drop,win_drop]
    by_cases hl:i + 10 ≤ s.length - f
    · rw [if_pos hl,if_pos (by omega:i + f + 10 ≤ s.length)]
      split
      · rw [List.map_cons,hitF_drop s f n (i + 10),show i + 10 + f = i + f + 10 by omega,Nat.add_sub_cancel]
      · rw [hitF_drop s f n (i + 1),show i + 1 + f = i + f + 1 by omega]
    · rw [if_neg hl,if_neg (by omega:¬ i + f + 10 ≤ s.length)]
      rfl
theorem hitL_drop (s:List Int) (f i:Nat):hitL (s.drop f) i = (hitL s (i + f)).map fun x=>(x.1,x.2 - f):=by
  unfold hitL
  rw [hitF_drop,List.length_drop,show s.length - f - i = s.length - (i + f) by omega]
theorem wa_strm {L:List Stm} {k j:Nat} (h:k < L.length) (hj:j < 10):wa (strmL L) (10 * k + j) = wa (wordF L[k]) j:=by
  have:=strm_at L k h []
  rw [List.append_nil] at this
  rw [← wa_win hj,this]
theorem badD_253:badD 253 = true:=by decide
theorem strm_mid {L:List Stm} (ho:∀ x ∈ L,StOk x) {k d:Nat} (h:k < L.length) (hd:1 ≤ d ∧ d ≤ 10):hitL (strmL L) (10 * k + d) = hitL (strmL L) (10 * k + 10):=by
  have h9:wa (strmL L) (10 * k + 9) = 253:=by rw [wa_strm h (by omega)];exact (word_end _).2
  refine hit_next (by rw [h9];exact badD_253) (by rw [h9];decide) (fun j h1 h2 h3=>?_) (10 - d) d (by omega) hd.1
  rw [strm_len] at h2
  have h4:k + 1 < L.length:=by omega
  have:=wa_strm (j:=j - 10 * (k + 1)) h4 (by omega)
  rw [show 10 * (k + 1) + (j - 10 * (k + 1)) = j by omega] at this
  rw [this]
  exact word_fore (ho _ (List.getElem_mem h4)) _ (by omega)
theorem strm_run {L:List Stm} (ho:∀ x ∈ L,StOk x) {k:Nat} (h:k ≤ L.length):hitL (strmL L) (10 * k) = runL (L.drop k) (10 * k):=by
  have hl:=strm_len L
  rw [hit_run (L.drop k) (10 * k) (fun x hx=>ho x (List.mem_of_mem_drop hx)) (by rw [hl,List.length_drop];omega) fun i hi=>by
    rw [List.length_drop] at hi
    have:=strm_at L (k + i) (by omega) []
    rw [List.append_nil] at this
    rw [show 10 * k + 10 * i = 10 * (k + i) by omega,this,List.getElem_drop],hit_end (by rw [hl,List.length_drop];omega),List.append_nil]
theorem strm_from {L:List Stm} (ho:∀ x ∈ L,StOk x) {f:Nat} (hf:f < 10) (hne:L ≠ []):hitL ((strmL L).drop f) 0 = if f = 0 then runL L 0 else (runL (L.drop 1) 10).map fun x=>(x.1,x.2 - f):=by
  rw [hitL_drop,Nat.zero_add]
  split
  · rename_i e
    subst e
    have:=strm_run ho (Nat.zero_le L.length)
    rw [Nat.mul_zero,List.drop_zero] at this
    rw [this]
    conv=>rhs;rw [← List.map_id (runL L 0)]
    exact List.map_congr_left fun x _=>rfl
  · have h1:=strm_mid ho (k:=0) (d:=f) (List.length_pos_iff.2 hne) (by omega)
    have h2:=strm_run ho (k:=1) (List.length_pos_iff.2 hne)
    rw [Nat.mul_zero,Nat.zero_add,Nat.zero_add] at h1
    rw [h1,← h2]
theorem run_fst:∀ (L:List Stm) (p:Nat),(runL L p).map (·.1) = L
  | [],_=>rfl
  | x :: r,p=>by rw [runL,List.map_cons,run_fst r]
theorem run_snd:∀ (L:List Stm) (p:Nat),(runL L p).map (·.2) = (List.range L.length).map fun i=>p + 10 * i
  | [],_=>rfl
  | x :: r, p => by
    rw [runL,List.map_cons,run_snd r,List.length_cons,List.range_succ_eq_map,List.map_cons,List.map_map]
    congr 1
    exact List.map_congr_left fun i _=>by show p + 10 + 10 * i = p + 10 * (i + 1);omega
end Go.Proofs.A1
namespace Go.Proofs.A1
open Go Go.SL
theorem ofInt_toNat (v:BitVec 8):BitVec.ofInt 8 (v.toNat:Int) = v:=by
  apply BitVec.eq_of_toNat_eq
  rw [BitVec.toNat_ofInt]
  have:=v.isLt
  show (((v.toNat:Nat):Int) % ((2 ^ 8:Nat):Int)).toNat = v.toNat
  omega
def bvF (l:List Int) (v:BitVec 8):BitVec 8:=l.foldl (fun v x=>v ^^^ BitVec.ofInt 8 x) v
theorem fold_bv:∀ (l:List Int) (v:BitVec 8),l.foldl xorF (v.toNat:Int) = ((bvF l v).toNat:Nat)
  | [],v=>rfl
  | x :: r, v => by
    rw [List.foldl_cons,show xorF (v.toNat:Int) x = ((v ^^^ BitVec.ofInt 8 x).toNat:Nat) by unfold xorF;rw [ofInt_toNat],fold_bv r]
    rfl
theorem parF_bv (l:List Int):parF l = ((bvF l 0#8).toNat:Nat):=fold_bv l 0#8
theorem bvF_xor:∀ (l:List Int) (v c:BitVec 8),bvF l (v ^^^ c) = bvF l v ^^^ c
  | [],v,c=>rfl
  | x :: r, v, c => by
    show bvF r ((v ^^^ c) ^^^ BitVec.ofInt 8 x) = bvF r (v ^^^ BitVec.ofInt 8 x) ^^^ c
    rw [← bvF_xor r,BitVec.xor_assoc,BitVec.xor_comm c,← BitVec.xor_assoc]
theorem ofInt_xorF (a b:Int):BitVec.ofInt 8 (xorF a b) = BitVec.ofInt 8 a ^^^ BitVec.ofInt 8 b:=by unfold xorF;rw [ofInt_toNat]
theorem bvF_app (a b:List Int) (v:BitVec 8):bvF (a++b) v = bvF b (bvF a v):=by unfold bvF;rw [List.foldl_append]
theorem par_set {l:List Int} {m:Nat} {c:Int} (hm:m < l.length) (hc:BitVec.ofInt 8 c ≠ 0#8):parF (l.set m (xorF (wa l m) c)) ≠ parF l:=by
  have e1:l = l.take m++wa l m :: l.drop (m + 1):=by
    have:wa l m = l[m]:=by unfold wa;rw [List.getD_eq_getElem?_getD,List.getElem?_eq_getElem hm];rfl
    rw [this,← List.drop_eq_getElem_cons hm,List.take_append_drop]
  have e2:l.set m (xorF (wa l m) c) = l.take m++xorF (wa l m) c :: l.drop (m + 1):=by
    rw [List.set_eq_take_append_cons_drop,if_pos hm]
  rw [e2]
  conv=>rhs;rw [e1]
  rw [parF_bv,parF_bv,bvF_app,bvF_app]
  show ((bvF (l.drop (m + 1)) (_ ^^^ BitVec.ofInt 8 (xorF (wa l m) c))).toNat:Int) ≠ ((bvF (l.drop (m + 1)) (_ ^^^ BitVec.ofInt 8 (wa l m))).toNat:Int)
  rw [ofInt_xorF,← BitVec.xor_assoc,bvF_xor]
  intro e
  have e:=BitVec.eq_of_toNat_eq (Int.ofNat.inj e)
  apply hc
  generalize bvF (l.drop (m + 1)) _ = v at e
  have:=congrArg (fun x=>v ^^^ x) e
  simp only [← BitVec.xor_assoc,BitVec.xor_self,BitVec.zero_xor] at this
  exact this
theorem xor_ne {x c:Int} (hx:0 ≤ x ∧ x ≤ 255) (hc:BitVec.ofInt 8 c ≠ 0#8):xorF x c ≠ x:=by
  intro e
  have e:=congrArg (BitVec.ofInt 8) e
  rw [ofInt_xorF] at e
  apply hc
  generalize BitVec.ofInt 8 x = v at e
  have:=congrArg (fun y=>v ^^^ y) e
  simp only [← BitVec.xor_assoc,BitVec.xor_self,BitVec.zero_xor] at this
  exact this
theorem wa_set {l:List Int} {m j:Nat} {x:Int}:wa (l.set m x) j = if m = j ∧ m < l.length then x else wa l j:=by
  unfold wa
  rw [List.getD_eq_getElem?_getD,List.getD_eq_getElem?_getD,List.getElem?_set]
  by_cases h:m = j
  · subst h
    by_cases h2:m < l.length
    · simp [h2]
    · simp [h2]
  · simp [h]
theorem bit_ne:∀ b:Nat,b < 8 → BitVec.ofInt 8 ((2 ^ b:Nat):Int) ≠ 0#8:=by decide +kernel
theorem bit_253:∀ b:Nat,b < 8 → badD (xorF 253 ((2 ^ b:Nat):Int)) = true ∧ xorF 253 ((2 ^ b:Nat):Int) ≠ 63:=by decide +kernel
theorem word_wrong {x:Stm} (h:StOk x) {m b:Nat} (hm:m < 10) (hb:b < 8):rdE ((wordF x).set m (xorF (wa (wordF x) m) ((2 ^ b:Nat):Int))) ≠ 0:=by
  have hc:=bit_ne b hb
  generalize ((2 ^ b:Nat):Int) = c at hc
  by_cases h8:m = 8
  · subst h8
    exact rdE_sync (.inl (by rw [wa_set,if_pos ⟨rfl,by rw [word_len];omega⟩];exact xor_ne (x:=63) (by decide) hc))
  by_cases h9:m = 9
  · subst h9
    exact rdE_sync (.inr (by rw [wa_set,if_pos ⟨rfl,by rw [word_len];omega⟩];exact xor_ne (x:=253) (by decide) hc))
  have hp:parF (((wordF x).set m (xorF (wa (wordF x) m) c)).take 7) ≠ wa ((wordF x).set m (xorF (wa (wordF x) m) c)) 7:=by
    by_cases h7:m = 7
    · subst h7
      rw [wa_set,if_pos ⟨rfl,by rw [word_len];omega⟩,List.take_set_of_le (by omega)]
      exact fun e=>xor_ne (parF_byte (w7 x)) hc e.symm
    · rw [wa_set,if_neg (by omega),List.take_set]
      have hw:wa (wordF x) m = wa (w7 x) m:=by
        unfold wa wordF
        rw [List.getD_eq_getElem?_getD,List.getD_eq_getElem?_getD,List.getElem?_append_left (by show m < 7;omega)]
      rw [hw]
      exact par_set (l:=w7 x) (m:=m) (by show m < 7;omega) hc
  unfold rdE
  split
  · decide
  · decide
theorem win_get (s:List Int) (i j:Nat):(win s i)[j]? = if j < 10 then s[i + j]? else none:=by
  unfold win
  rw [List.getElem?_take]
  split
  · rw [List.getElem?_drop]
  · rfl
theorem win_set (s:List Int) (q i:Nat) (x:Int):win (s.set q x) i = if i ≤ q then (win s i).set (q - i) x else win s i:=by
  apply List.ext_getElem?
  intro j
  by_cases h:i ≤ q
  · rw [if_pos h,win_get,List.getElem?_set,List.getElem?_set,win_get]
    by_cases hj:j < 10
    · rw [if_pos hj]
      by_cases e:q = i + j
      · have e2:q - i = j:=by omega
        rw [if_pos e,if_pos e2]
        by_cases hl:q < s.length
        · rw [if_pos hl,if_pos (by unfold win;rw [List.length_take,List.length_drop];omega)]
        · rw [if_neg hl,if_neg (by unfold win;rw [List.length_take,List.length_drop];omega)]
      · rw [if_neg e,if_neg (by omega),if_pos hj]
    · rw [if_neg hj,if_neg hj]
      split
      · rw [if_neg (by unfold win;rw [List.length_take,List.length_drop];omega)]
      · rfl
  · rw [if_neg h,win_get,win_get,List.getElem?_set]
    split
    · rw [if_neg (by omega)]
    · rfl
theorem strm_bit {L:List Stm} (ho:∀ x ∈ L,StOk x) {k m b:Nat} (hk:k < L.length) (hm:m < 10) (hb:b < 8) :
    hitL ((strmL L).set (10 * k + m) (xorF (wa (strmL L) (10 * k + m)) ((2 ^ b:Nat):Int))) 0 = runL (L.take k) 0++runL (L.drop (k + 1)) (10 * (k + 1)):=by
  have hl:=strm_len L
  have hwa:=wa_strm hk hm
  have hne:=word_wrong (ho _ (List.getElem_mem hk)) hm hb
  have hc9:=bit_253 b hb
  rw [hwa]
  generalize hs:(strmL L).set (10 * k + m) (xorF (wa (wordF L[k]) m) ((2 ^ b:Nat):Int)) = s
  have hl2:s.length = 10 * L.length:=by rw [← hs,List.length_set,hl]
  have hat:∀ i (h:i < L.length),win (strmL L) (10 * i) = wordF L[i]:=fun i h=>by
    have:=strm_at L i h []
    rwa [List.append_nil] at this
  have hlo:∀ i (h:i < L.length),i ≠ k → win s (10 * i) = wordF L[i]:=fun i h hi=>by
    rw [← hs,win_set]
    split
    · rw [List.set_eq_of_length_le (by rw [hat i h,word_len];omega)]
      exact hat i h
    · exact hat i h
  have hk2:win s (10 * k) = (wordF L[k]).set m (xorF (wa (wordF L[k]) m) ((2 ^ b:Nat):Int)):=by
    rw [← hs,win_set,if_pos (by omega),hat k hk,Nat.add_sub_cancel_left]
  have h1:hitL s 0 = runL (L.take k) 0++hitL s (10 * k):=by
    have:=hit_run (s:=s) (L.take k) 0 (fun x hx=>ho x (List.mem_of_mem_take hx)) (by rw [List.length_take];omega) fun i hi=>by
      rw [List.length_take] at hi
      rw [Nat.zero_add,hlo i (by omega) (by omega),List.getElem_take]
    rwa [List.length_take,Nat.min_eq_left (by omega),Nat.zero_add] at this
  have h2:hitL s (10 * k) = hitL s (10 * k + 1):=hit_miss (by omega) (by rw [hk2];exact hne)
  have h9:badD (wa s (10 * k + 9)) = true ∧ wa s (10 * k + 9) ≠ 63:=by
    rw [← wa_win (s:=s) (i:=10 * k) (j:=9) (by omega),hk2,wa_set]
    split
    · rename_i e
      rw [e.1]
      exact hc9
    · exact ⟨badD_253,by rw [(word_end _).2];decide⟩
  have h3:hitL s (10 * k + 1) = hitL s (10 * k + 10):=hit_next h9.1 h9.2 (fun j j1 j2 j3=>by
    have h4:k + 1 < L.length:=by omega
    have e:=wa_win (s:=s) (i:=10 * (k + 1)) (j:=j - 10 * (k + 1)) (by omega)
    rw [show 10 * (k + 1) + (j - 10 * (k + 1)) = j by omega,hlo (k + 1) h4 (by omega)] at e
    rw [← e]
    exact word_fore (ho _ (List.getElem_mem h4)) _ (by omega)) 9 1 rfl (Nat.le_refl 1)
  have h4:hitL s (10 * (k + 1)) = runL (L.drop (k + 1)) (10 * (k + 1)):=by
    rw [hit_run (s:=s) (L.drop (k + 1)) (10 * (k + 1)) (fun x hx=>ho x (List.mem_of_mem_drop hx)) (by rw [List.length_drop];omega) fun i hi=>by
      rw [List.length_drop] at hi
      rw [show 10 * (k + 1) + 10 * i = 10 * (k + 1 + i) by omega,hlo (k + 1 + i) (by omega) (by omega),List.getElem_drop],hit_end (by rw [List.length_drop];omega),List.append_nil]
  rw [h1,h2,h3,show 10 * k + 10 = 10 * (k + 1) by omega,h4]
end Go.Proofs.A1
namespace Go.Proofs.A1
open Go Go.SL
def trnP (b:Int):Nat → Int
  | 0=>0
  | k + 1=>orF (trnP b k) (IntKind.u8.wrap (andF (b / 2 ^ k) 1 * 2 ^ (7 - k)))
def trnQ (b:Int):Nat → Int
  | 0=>0
  | k + 1=>2 * trnQ b k + b / 2 ^ k % 2
theorem trnN:∀ k:Nat,k < 256 → (trnP (k:Int) 8 = trnQ (k:Int) 8 ∧ 0 ≤ trnQ (k:Int) 8 ∧ trnQ (k:Int) 8 ≤ 255 ∧ trnQ (trnQ (k:Int) 8) 8 = (k:Int)):=by decide +kernel
theorem trn_byte {b:Int} (h:0 ≤ b ∧ b ≤ 255):trnP b 8 = trnQ b 8 ∧ 0 ≤ trnQ b 8 ∧ trnQ b 8 ≤ 255 ∧ trnQ (trnQ b 8) 8 = b:=by
  obtain ⟨k,hk,rfl⟩:=byte_nat h
  exact trnN k hk
def revL (s:List Int):List Int:=(s.map fun b=>trnQ b 8).reverse
theorem rev_rev {s:List Int} (h:∀ b ∈ s,0 ≤ b ∧ b ≤ 255):revL (revL s) = s:=by
  unfold revL
  rw [List.map_reverse,List.reverse_reverse,List.map_map]
  conv=>rhs;rw [← List.map_id s]
  exact List.map_congr_left fun b hb=>(trn_byte (h b hb)).2.2.2
def cntQ (b:Int):Nat → Int
  | 0=>0
  | k + 1=>cntQ b k + b / 2 ^ k % 2
def oddB (b:Int):Bool:=decide (cntQ b 8 % 2 = 1)
end Go.Proofs.A1
