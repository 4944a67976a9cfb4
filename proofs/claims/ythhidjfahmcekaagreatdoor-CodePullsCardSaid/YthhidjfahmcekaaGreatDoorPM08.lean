/- Parts of the proof: T6p T9p T1p T2p T8p TAp V1q TBp T3p T4p T5p T7p GkCopyS U9p U3. -/
import Derived.Test.YthhidjfahmcekaaGreatDoorPM05
import Derived.Test.YthhidjfahmcekaaGreatDoorPM01
import Derived.Test.YthhidjfahmcekaaGreatDoorPM07
import Derived.Lib.Join
import Derived.Lib.SplitLaws
import Derived.Lib.ItoaLen
import Derived.Test.YthhidjfahmcekaaGreatDoorPM06
set_option linter.unusedSectionVars false
set_option linter.unusedVariables false
set_option linter.unusedSimpArgs false
namespace Go.Proofs.A1
def repF (rp:List Int) (i:Nat):Nat:=(rp.getD (i % rp.length) 0).toNat
def fldL (rp:List Int) (n:Nat):List Nat:=(List.range n).flatMap fun i=>List.replicate (repF rp i) i
theorem fldL_succ (rp:List Int) (n:Nat):fldL rp (n + 1) = fldL rp n++List.replicate (repF rp n) n:=by
  unfold fldL
  rw [List.range_succ,List.flatMap_append]
  simp
def prsN:List Nat → List (Nat × Nat)
  | a :: b :: r=>(a,b) :: prsN r
  | _=>[]
theorem prsN_len:∀ l:List Nat,(prsN l).length = l.length / 2
  | []=>rfl
  | [a]=>by simp [prsN]
  | a :: b :: r => by
    rw [prsN,List.length_cons,prsN_len r,List.length_cons,List.length_cons];omega
theorem prsN_get:∀ (l:List Nat) (k:Nat),2 * k + 1 < l.length → (prsN l)[k]? = some (l.getD (2 * k) 0,l.getD (2 * k + 1) 0)
  | [],k,h=>by simp at h
  | [a],k,h=>by simp at h
  | a :: b :: r,0,h=>rfl
  | a :: b :: r, k + 1, h => by
    rw [List.length_cons,List.length_cons] at h
    rw [prsN,List.getElem?_cons_succ,prsN_get r k (by omega)]
    rfl
def pulF (rp:List Int) (n:Nat):List (Nat × Nat):=prsN (fldL rp n)
theorem fld_add (rp:List Int) (n:Nat):∀ j,∃ r,fldL rp (n + j) = fldL rp n++r
  | 0=>⟨[],by simp⟩
  | j + 1 => by
    obtain ⟨r,hr⟩:=fld_add rp n j
    exact ⟨r++List.replicate (repF rp (n + j)) (n + j),by rw [← Nat.add_assoc,fldL_succ,hr,List.append_assoc]⟩
theorem pul_same {rp:List Int} {n m:Nat} (h:n ≤ m) (hl:(pulF rp n).length = (pulF rp m).length):pulF rp n = pulF rp m:=by
  obtain ⟨r,hr⟩:=fld_add rp n (m - n)
  rw [show n + (m - n) = m by omega] at hr
  have h1:=prsN_len (fldL rp n)
  have h2:=prsN_len (fldL rp m)
  unfold pulF at hl ⊢
  apply List.ext_getElem?
  intro k
  by_cases hk:2 * k + 1 < (fldL rp n).length
  · have hk2:2 * k + 1 < (fldL rp m).length:=by rw [hr,List.length_append];omega
    rw [prsN_get _ _ hk,prsN_get _ _ hk2,hr]
    congr 2
    · rw [List.getD_eq_getElem?_getD,List.getD_eq_getElem?_getD,List.getElem?_append_left (by omega)]
    · rw [List.getD_eq_getElem?_getD,List.getD_eq_getElem?_getD,List.getElem?_append_left hk]
  · rw [List.getElem?_eq_none (by omega),List.getElem?_eq_none (by omega)]
structure CdOk (rp:List Int):Prop where
  ne:0 < rp.length
  few:rp.length ≤ 8
  rep:∀ x ∈ rp,1 ≤ x ∧ x ≤ 4
theorem rep_in {rp:List Int} (h:CdOk rp) (i:Nat):1 ≤ repF rp i ∧ repF rp i ≤ 4:=by
  have hl:i % rp.length < rp.length:=Nat.mod_lt _ h.ne
  have:=h.rep _ (List.getElem_mem hl)
  unfold repF
  rw [List.getD_eq_getElem?_getD,List.getElem?_eq_getElem hl]
  show 1 ≤ (rp[i % rp.length]).toNat ∧ (rp[i % rp.length]).toNat ≤ 4
  omega
theorem fld_len (rp:List Int) (n:Nat):(fldL rp (n + 1)).length = (fldL rp n).length + repF rp n:=by rw [fldL_succ,List.length_append,List.length_replicate]
theorem fld_mono {rp:List Int} (h:CdOk rp) (n:Nat):∀ j,(fldL rp n).length + j ≤ (fldL rp (n + j)).length
  | 0=>Nat.le_refl _
  | j + 1 => by
    have:=fld_mono h n j
    have:=(rep_in h (n + j)).1
    have e:=fld_len rp (n + j)
    rw [show n + (j + 1) = n + j + 1 by omega,e];omega
def undN (rp:List Int) (n:Nat):Nat:=if (fldL rp n).length % 2 = 1 ∧ repF rp (n - 1) = 1 then n - 1 else n
theorem und_pul {rp:List Int} (h:CdOk rp) (n:Nat):undN rp n ≤ n ∧ pulF rp (undN rp n) = pulF rp n ∧ ∀ m,m < undN rp n → pulF rp m ≠ pulF rp n:=by
  have hlen:∀ k,(pulF rp k).length = (fldL rp k).length / 2:=fun k=>prsN_len _
  cases n with
  | zero =>
    have h0:undN rp 0 = 0:=by unfold undN;split <;> rfl
    rw [h0]
    exact ⟨Nat.le_refl _,rfl,fun m hm=>absurd hm (Nat.not_lt_zero _)⟩
  | succ n =>
    have hf:=fld_len rp n
    have hr:=(rep_in h n).1
    have hlow:∀ m,m < n → pulF rp m ≠ pulF rp (n + 1):=fun m hm e=>by
      have e:=congrArg List.length e
      rw [hlen,hlen] at e
      have:=fld_mono h m (n + 1 - m)
      rw [show m + (n + 1 - m) = n + 1 by omega] at this
      omega
    unfold undN
    rw [Nat.add_sub_cancel]
    split
    · rename_i hc
      refine ⟨Nat.le_succ n,pul_same (Nat.le_succ n) (by rw [hlen,hlen];omega),fun m hm=>hlow m hm⟩
    · rename_i hc
      refine ⟨Nat.le_refl _,rfl,fun m hm e=>?_⟩
      by_cases em:m = n
      · subst em
        have e:=congrArg List.length e
        rw [hlen,hlen] at e
        by_cases h1:repF rp m = 1
        · exact hc ⟨by omega,h1⟩
        · omega
      · exact hlow m (by omega) e
theorem und_wrong {rp:List Int} {n:Nat} {l:List (Nat × Nat)} (hl:l.length = (pulF rp n).length) (hne:l ≠ pulF rp n) (m:Nat):pulF rp m ≠ l:=by
  intro e
  rcases Nat.le_total n m with h | h
  · exact hne (by rw [← e];exact (pul_same h (by rw [e,hl])).symm)
  · exact hne (by rw [← e];exact pul_same h (by rw [e,hl]))
end Go.Proofs.A1
namespace Go.Proofs.A1
def fldAt (rp:List Int) (n k:Nat):Nat:=(fldL rp n).getD k 0
def fldBe (rp:List Int) (n k:Nat):Nat:=if k = 0 then 0 else fldAt rp n (k - 1)
theorem fld_in {rp:List Int} (n k:Nat) (h:k < (fldL rp (n + 1)).length):fldAt rp (n + 1) k = if k < (fldL rp n).length then fldAt rp n k else n:=by
  unfold fldAt
  rw [fldL_succ] at h ⊢
  rw [List.length_append,List.length_replicate] at h
  rw [List.getD_eq_getElem?_getD,List.getD_eq_getElem?_getD]
  split
  · rename_i hk;rw [List.getElem?_append_left hk]
  · rename_i hk
    rw [List.getElem?_append_right (by omega),List.getElem?_replicate,if_pos (by omega)];rfl
theorem fld_step {rp:List Int} (h:CdOk rp):∀ (n k:Nat),k < (fldL rp n).length → fldBe rp n k ≤ fldAt rp n k ∧ fldAt rp n k ≤ fldBe rp n k + 1 ∧ fldAt rp n k < n ∧ (k + 1 = (fldL rp n).length → fldAt rp n k + 1 = n)
  | 0,k,hk=>by simp [fldL] at hk
  | n + 1, k, hk => by
    have hr:=rep_in h n
    have hl:=fld_len rp n
    have h1:=fld_in (rp:=rp) n k hk
    by_cases hlt:k < (fldL rp n).length
    · have ih:=fld_step h n k hlt
      have h2:fldBe rp (n + 1) k = fldBe rp n k:=by
        unfold fldBe
        by_cases e:k = 0
        · rw [if_pos e,if_pos e]
        · rw [if_neg e,if_neg e,fld_in (rp:=rp) n (k - 1) (by omega),if_pos (by omega)]
      rw [h1,if_pos hlt,h2]
      omega
    · rw [h1,if_neg hlt]
      by_cases e:k = 0
      · have h0:n = 0:=by
          cases n with
          | zero=>rfl
          | succ m =>
            have:=rep_in h m
            have:=fld_len rp m
            omega
        unfold fldBe
        rw [if_pos e]
        omega
      · have h2:=fld_in (rp:=rp) n (k - 1) (by omega)
        have h3:fldBe rp (n + 1) k = fldAt rp (n + 1) (k - 1):=by unfold fldBe;rw [if_neg e]
        rw [h3,h2]
        by_cases hq:k - 1 < (fldL rp n).length
        · have:=fld_step h n (k - 1) hq
          rw [if_pos hq]
          omega
        · rw [if_neg hq];omega
theorem fld_count (rp:List Int) (i:Nat):∀ n,(fldL rp n).count i = if i < n then repF rp i else 0
  | 0=>by simp [fldL]
  | n + 1 => by
    rw [fldL_succ,List.count_append,fld_count rp i n,List.count_replicate]
    by_cases e:i = n
    · subst e;simp
    · have hne:(n == i) = false:=by simpa using fun h=>e h.symm
      rw [hne]
      simp only [Bool.false_eq_true,if_false,Nat.add_zero]
      by_cases h:i < n
      · rw [if_pos h,if_pos (by omega)]
      · rw [if_neg h,if_neg (by omega)]
def cntF (rp:List Int) (n k i:Nat):Nat:=((fldL rp n).take k).count i
theorem cnt_zero (rp:List Int) (n i:Nat):cntF rp n 0 i = 0:=by simp [cntF]
theorem cnt_succ {rp:List Int} {n k i:Nat} (h:k < (fldL rp n).length):cntF rp n (k + 1) i = cntF rp n k i + if fldAt rp n k = i then 1 else 0:=by
  unfold cntF
  rw [List.take_succ_eq_append_getElem h,List.count_append]
  have:fldAt rp n k = (fldL rp n)[k]:=by unfold fldAt;rw [List.getD_eq_getElem?_getD,List.getElem?_eq_getElem h];rfl
  rw [this,List.count_singleton]
  simp
theorem cnt_end {rp:List Int} (h:CdOk rp) {n i:Nat} (hi:i < n):cntF rp n (2 * ((fldL rp n).length / 2)) i = repF rp i ∨ (i + 1 = n ∧ (fldL rp n).length % 2 = 1 ∧ cntF rp n (2 * ((fldL rp n).length / 2)) i + 1 = repF rp i):=by
  have hc:=fld_count rp i n
  rw [if_pos hi] at hc
  by_cases he:(fldL rp n).length % 2 = 0
  · left
    unfold cntF
    rw [List.take_of_length_le (by omega),hc]
  · have h1:=cnt_succ (rp:=rp) (n:=n) (k:=(fldL rp n).length - 1) (i:=i) (by omega)
    have h2:=(fld_step h n ((fldL rp n).length - 1) (by omega)).2.2.2 (by omega)
    have h3:cntF rp n ((fldL rp n).length - 1 + 1) i = repF rp i:=by
      unfold cntF
      rw [List.take_of_length_le (by omega),hc]
    rw [show 2 * ((fldL rp n).length / 2) = (fldL rp n).length - 1 by omega]
    rw [h3] at h1
    split at h1
    · right;omega
    · left;omega
def sumR (rp:List Int):Nat → Nat
  | 0=>0
  | n + 1=>sumR rp n + repF rp n
theorem sumR_len (rp:List Int):∀ n,sumR rp n = (fldL rp n).length
  | 0=>by simp [sumR,fldL]
  | n + 1=>by rw [sumR,sumR_len rp n,fld_len]
end Go.Proofs.A1
namespace Go.Proofs.A1
open Go Go.SL
structure Rt where
  fr:Int
  dr:Bool
structure Lb where
  h:Int
  m:Int
  s:Int
  f:Int
structure Stm where
  ra:Rt
  la:Lb
  us:Int
def rateF (r:Rt):Int:=firstF [whenF (decide (r.fr ≠ 24) && (decide (r.fr ≠ 25) && decide (r.fr ≠ 30))) 13,whenF (r.dr && decide (r.fr ≠ 30)) 24]
structure RtOk (r:Rt):Prop where
  fr:r.fr = 24 ∨ r.fr = 25 ∨ r.fr = 30
  dr:r.dr = true → r.fr = 30
theorem rateF_zero {r:Rt}:rateF r = 0 ↔ RtOk r:=by
  unfold rateF
  rw [firstF_zero]
  simp only [List.mem_cons,List.not_mem_nil,or_false,forall_eq_or_imp,forall_eq]
  rw [whenF_zero (by decide),whenF_zero (by decide)]
  constructor
  · intro h
    refine ⟨?_,fun hd=>?_⟩
    · have:=h.1
      simp only [Bool.and_eq_false_iff,decide_eq_false_iff_not] at this
      omega
    · have:=h.2
      rw [hd,Bool.true_and,decide_eq_false_iff_not] at this
      omega
  · intro h
    constructor
    · simp only [Bool.and_eq_false_iff,decide_eq_false_iff_not]
      have:=h.fr
      omega
    · cases hd:r.dr with
      | false=>rfl
      | true=>rw [Bool.true_and,decide_eq_false_iff_not];have:=h.dr hd;omega
def drpB (r:Rt) (l:Lb):Bool:=r.dr && (decide (l.m % 10 ≠ 0) && (decide (l.s = 0) && decide (l.f < 2)))
def lblE (r:Rt) (l:Lb):Int:=firstF [rateF r,withinF l.h 0 23,withinF l.m 0 59,withinF l.s 0 59,withinF l.f 0 (r.fr - 1),whenF (drpB r l) 7]
structure LbOk (r:Rt) (l:Lb):Prop where
  ra:RtOk r
  h:0 ≤ l.h ∧ l.h ≤ 23
  m:0 ≤ l.m ∧ l.m ≤ 59
  s:0 ≤ l.s ∧ l.s ≤ 59
  f:0 ≤ l.f ∧ l.f ≤ r.fr - 1
  d:r.dr = true → l.m % 10 ≠ 0 → l.s = 0 → 2 ≤ l.f
theorem lblE_zero {r:Rt} {l:Lb}:lblE r l = 0 ↔ LbOk r l:=by
  unfold lblE
  rw [firstF_zero]
  simp only [List.mem_cons,List.not_mem_nil,or_false,forall_eq_or_imp,forall_eq,withinF_zero,rateF_zero]
  rw [whenF_zero (by decide)]
  unfold drpB
  constructor
  · intro ⟨h1,h2,h3,h4,h5,h6⟩
    refine ⟨h1,h2,h3,h4,h5,fun hd a b=>?_⟩
    rw [hd,Bool.true_and] at h6
    simp only [Bool.and_eq_false_iff,decide_eq_false_iff_not] at h6
    omega
  · intro h
    refine ⟨h.ra,h.h,h.m,h.s,h.f,?_⟩
    cases hd:r.dr with
    | false=>rfl
    | true =>
      have:=h.d hd
      rw [Bool.true_and]
      simp only [Bool.and_eq_false_iff,decide_eq_false_iff_not]
      omega
def dayF (r:Rt):Int:=24 * 60 * 60 * r.fr - if r.dr then 2592 else 0
def frmF (r:Rt) (l:Lb):Int:=(60 * (60 * l.h + l.m) + l.s) * r.fr + l.f - if r.dr then 2 * ((60 * l.h + l.m) - (60 * l.h + l.m) / 10) else 0
def lbN (r:Rt) (n:Int):Int:=if r.dr then n + 18 * (n / 17982) + (if 1800 ≤ n % 17982 then 2 * (1 + (n % 17982 - 1800) / 1798) else 0) else n
def lblF (r:Rt) (n:Int):Lb:=⟨lbN r n / r.fr / 3600,lbN r n / r.fr / 60 % 60,lbN r n / r.fr % 60,lbN r n % r.fr⟩
theorem lb_ext {a b:Lb} (h1:a.h = b.h) (h2:a.m = b.m) (h3:a.s = b.s) (h4:a.f = b.f):a = b:=by
  cases a;cases b;dsimp only at h1 h2 h3 h4;subst h1 h2 h3 h4;rfl
theorem lb_plain {fr h m s f:Int} (hf:fr = 24 ∨ fr = 25 ∨ fr = 30) (hm:0 ≤ m ∧ m ≤ 59) (hs:0 ≤ s ∧ s ≤ 59) (h4:0 ≤ f ∧ f ≤ fr - 1) {n:Int} (hn:n = (60 * (60 * h + m) + s) * fr + f) :
    n / fr / 3600 = h ∧ n / fr / 60 % 60 = m ∧ n / fr % 60 = s ∧ n % fr = f:=by
  have hq:n / fr = 3600 * h + 60 * m + s:=by
    rcases hf with rfl | rfl | rfl <;> omega
  have hr:n % fr = f:=by
    rcases hf with rfl | rfl | rfl <;> omega
  rw [hq,hr]
  omega
theorem frm_lbl {r:Rt} {l:Lb} (h:LbOk r l):0 ≤ frmF r l ∧ frmF r l < dayF r ∧ lblF r (frmF r l) = l:=by
  have h1:=h.h
  have h2:=h.m
  have h3:=h.s
  have h4:=h.f
  have hfr:=h.ra.fr
  cases hd:r.dr with
  | false =>
    have e1:frmF r l = (60 * (60 * l.h + l.m) + l.s) * r.fr + l.f:=by unfold frmF;rw [hd];simp
    have e2:dayF r = 86400 * r.fr:=by unfold dayF;rw [hd];simp
    have e3:lbN r (frmF r l) = frmF r l:=by unfold lbN;rw [hd];simp
    have hp:=lb_plain hfr h2 h3 h4 e1
    refine ⟨?_,?_,?_⟩
    · rw [e1];rcases hfr with e | e | e <;> rw [e] <;> omega
    · rw [e1,e2];rcases hfr with e | e | e <;> rw [e] at h4 ⊢ <;> omega
    · unfold lblF
      rw [e3]
      exact lb_ext hp.1 hp.2.1 hp.2.2.1 hp.2.2.2
  | true =>
    have hf:=h.ra.dr hd
    have h5:=h.d hd
    rw [hf] at h4
    have e1:frmF r l = (60 * (60 * l.h + l.m) + l.s) * 30 + l.f - 2 * ((60 * l.h + l.m) - (60 * l.h + l.m) / 10):=by unfold frmF;rw [hd,hf];simp
    have e2:dayF r = 2589408:=by unfold dayF;rw [hd,hf];decide
    obtain ⟨t,u,hu,htu⟩:∃ t u:Int,(0 ≤ u ∧ u ≤ 9) ∧ 60 * l.h + l.m = 10 * t + u:=⟨(60 * l.h + l.m) / 10,(60 * l.h + l.m) % 10,by omega,by omega⟩
    have hu2:u = l.m % 10:=by omega
    have hrest:frmF r l = 17982 * t + (1798 * u + 30 * l.s + l.f):=by
      rw [e1,htu];omega
    have h6:u ≠ 0 → 2 ≤ 30 * l.s + l.f:=fun hne=>by
      by_cases e:l.s = 0
      · have:=h5 (by omega) e;omega
      · omega
    have hq:frmF r l / 17982 = t:=by
      rw [hrest];omega
    have hr:frmF r l % 17982 = 1798 * u + 30 * l.s + l.f:=by
      rw [hrest];omega
    have e3:lbN r (frmF r l) = (60 * (60 * l.h + l.m) + l.s) * 30 + l.f:=by
      unfold lbN
      rw [hd,if_pos rfl,hq,hr]
      by_cases e:u = 0
      · rw [if_neg (by omega),hrest];omega
      · have:=h6 e
        rw [if_pos (by omega),show (1798 * u + 30 * l.s + l.f - 1800) / 1798 = u - 1 by omega,hrest]
        omega
    have hp:=lb_plain (fr:=30) (.inr (.inr rfl)) h2 h3 h4 e3
    refine ⟨by rw [hrest];omega,by rw [hrest,e2];omega,?_⟩
    unfold lblF
    rw [hf]
    exact lb_ext hp.1 hp.2.1 hp.2.2.1 hp.2.2.2
theorem lbl_frm {r:Rt} {n:Int} (hr:RtOk r) (hn:0 ≤ n ∧ n < dayF r):LbOk r (lblF r n) ∧ frmF r (lblF r n) = n:=by
  have hfr:=hr.fr
  cases hd:r.dr with
  | false =>
    have e2:dayF r = 86400 * r.fr:=by unfold dayF;rw [hd];simp
    have e3:lbN r n = n:=by unfold lbN;rw [hd];simp
    have e4:lblF r n = ⟨n / r.fr / 3600,n / r.fr / 60 % 60,n / r.fr % 60,n % r.fr⟩:=by unfold lblF;rw [e3]
    rw [e4]
    obtain ⟨_,hn2⟩:=hn
    rw [e2] at hn2
    have hq:0 ≤ n / r.fr ∧ n / r.fr < 86400 ∧ n = r.fr * (n / r.fr) + n % r.fr ∧ 0 ≤ n % r.fr ∧ n % r.fr < r.fr:=by
      rcases hfr with e | e | e <;> rw [e] at hn2 ⊢ <;> omega
    obtain ⟨q1,q2,q3,q4,q5⟩:=hq
    refine ⟨⟨hr,?_,?_,?_,?_,fun h=>by rw [hd] at h;cases h⟩,?_⟩ <;> (try dsimp only)
    · omega
    · omega
    · omega
    · omega
    · unfold frmF
      rw [hd]
      dsimp only
      rw [show 60 * (60 * (n / r.fr / 3600) + n / r.fr / 60 % 60) + n / r.fr % 60 = n / r.fr by omega,if_neg (by decide),Int.sub_zero,Int.mul_comm]
      exact q3.symm
  | true =>
    have hf:=hr.dr hd
    have e2:dayF r = 2589408:=by unfold dayF;rw [hd,hf];decide
    rw [e2] at hn
    obtain ⟨t,q,hq,ht⟩:∃ t q:Int,(0 ≤ q ∧ q < 17982) ∧ n = 17982 * t + q:=⟨n / 17982,n % 17982,by omega,by omega⟩
    obtain ⟨u,v,hu,hv,hv2,hqv⟩:∃ u v:Int,(0 ≤ u ∧ u ≤ 9) ∧ (0 ≤ v ∧ v < 1800) ∧ (u ≠ 0 → 2 ≤ v) ∧ q = 1798 * u + v:=by
      by_cases e:q < 1800
      · exact ⟨0,q,by omega,by omega,fun h=>absurd rfl h,by omega⟩
      · exact ⟨1 + (q - 1800) / 1798,(q - 1800) % 1798 + 2,by omega,by omega,fun _=>by omega,by omega⟩
    have htq:n / 17982 = t ∧ n % 17982 = q:=by omega
    have e3:lbN r n = 18000 * t + 1800 * u + v:=by
      unfold lbN
      rw [hd,if_pos rfl,htq.1,htq.2]
      by_cases e:u = 0
      · by_cases e':1800 ≤ q
        · omega
        · rw [if_neg e'];omega
      · have:=hv2 e
        rw [if_pos (by omega),show (q - 1800) / 1798 = u - 1 by omega]
        omega
    have e4:lblF r n = ⟨(18000 * t + 1800 * u + v) / 30 / 3600,(18000 * t + 1800 * u + v) / 30 / 60 % 60,(18000 * t + 1800 * u + v) / 30 % 60,(18000 * t + 1800 * u + v) % 30⟩:=by unfold lblF;rw [e3,hf]
    rw [e4]
    have hs:(18000 * t + 1800 * u + v) / 30 = 600 * t + 60 * u + v / 30:=by omega
    have hf2:(18000 * t + 1800 * u + v) % 30 = v % 30:=by omega
    rw [hs,hf2]
    have hs60:(600 * t + 60 * u + v / 30) % 60 = v / 30:=by omega
    have hm60:(600 * t + 60 * u + v / 30) / 60 = 10 * t + u:=by omega
    have hh:(600 * t + 60 * u + v / 30) / 3600 = (10 * t + u) / 60:=by omega
    rw [hs60,hm60,hh]
    refine ⟨⟨hr,?_,?_,?_,?_,fun _ a b=>?_⟩,?_⟩ <;> (try dsimp only at *)
    · omega
    · omega
    · omega
    · rw [hf];omega
    · have:=hv2 (by omega);omega
    · unfold frmF
      rw [hd,hf]
      dsimp only
      rw [if_pos rfl,show 60 * ((10 * t + u) / 60) + (10 * t + u) % 60 = 10 * t + u by omega]
      omega
theorem day_pos {r:Rt} (h:RtOk r):2073600 ≤ dayF r ∧ dayF r ≤ 2592000:=by
  unfold dayF
  have:=h.fr
  have:=h.dr
  split
  · rename_i hd;have:=h.dr hd;omega
  · omega
def addF (r:Rt) (l:Lb) (k:Int):Lb:=lblF r ((frmF r l + k) % dayF r)
theorem mod_twice {x d:Int} (hd:0 < d):(x.tmod d + d) % d = x % d:=by
  rw [Int.add_emod_right,Int.tmod_def,Int.sub_eq_add_neg,← Int.mul_neg,Int.add_mul_emod_self_left]
theorem mod_range {x d:Int} (hd:0 < d):-d < x.tmod d ∧ x.tmod d < d:=by
  have h1:=Int.tmod_lt_of_pos x hd
  have h2:=Int.lt_tmod_of_pos x hd
  exact ⟨h2,h1⟩
theorem add_ok {r:Rt} {l:Lb} {k:Int} (h:RtOk r):LbOk r (addF r l k) ∧ frmF r (addF r l k) = (frmF r l + k) % dayF r:=by
  have hd:=day_pos h
  exact lbl_frm h ⟨Int.emod_nonneg _ (by omega),Int.emod_lt_of_pos _ (by omega)⟩
theorem add_add {r:Rt} {l:Lb} {j k:Int} (h:RtOk r):addF r (addF r l j) k = addF r l (j + k):=by
  unfold addF
  have:=(add_ok (l:=l) (k:=j) h).2
  unfold addF at this
  rw [this,Int.emod_add_emod,Int.add_assoc]
theorem add_zero {r:Rt} {l:Lb} (h:LbOk r l):addF r l 0 = l:=by
  unfold addF
  have:=frm_lbl h
  rw [Int.add_zero,Int.emod_eq_of_lt this.1 this.2.1]
  exact this.2.2
end Go.Proofs.A1
namespace Go.Proofs.A1
open Go Go.SL
theorem byte_nat {n:Int} (h:0 ≤ n ∧ n ≤ 255):∃ k:Nat,k < 256 ∧ n = (k:Int):=⟨n.toNat,by omega,by omega⟩
theorem and15N:∀ k:Nat,k < 256 → andF (k:Int) 15 = (k:Int) % 16:=by decide +kernel
theorem and15 {n:Int} (h:0 ≤ n ∧ n ≤ 255):andF n 15 = n % 16:=by obtain ⟨k,hk,rfl⟩:=byte_nat h;exact and15N k hk
theorem rateN:∀ k:Nat,k < 256 → (anotF (k:Int) 128 = (k:Int) % 128 ∧ andF (k:Int) 128 = (k:Int) / 128 * 128):=by decide +kernel
theorem rate_bits {n:Int} (h:0 ≤ n ∧ n ≤ 255):anotF n 128 = n % 128 ∧ andF n 128 = n / 128 * 128:=by obtain ⟨k,hk,rfl⟩:=byte_nat h;exact rateN k hk
def parF (l:List Int):Int:=l.foldl xorF 0
theorem parF_snoc (l:List Int) (x:Int):parF (l++[x]) = xorF (parF l) x:=by unfold parF;rw [List.foldl_append];rfl
def bcd (n:Int):Int:=n / 10 * 16 + n % 10
def rtB (r:Rt):Int:=r.fr + if r.dr then 128 else 0
def w7 (s:Stm):List Int:=[bcd s.la.f,bcd s.la.s,bcd s.la.m,bcd s.la.h,rtB s.ra,s.us / 256,s.us % 256]
def wordF (s:Stm):List Int:=w7 s++[parF (w7 s),63,253]
def stmE (s:Stm):Int:=firstF [lblE s.ra s.la,withinF s.us 0 65535]
structure StOk (s:Stm):Prop where
  la:LbOk s.ra s.la
  us:0 ≤ s.us ∧ s.us ≤ 65535
theorem stmE_zero {s:Stm}:stmE s = 0 ↔ StOk s:=by
  unfold stmE
  rw [firstF_zero]
  simp only [List.mem_cons,List.not_mem_nil,or_false,forall_eq_or_imp,forall_eq,withinF_zero,lblE_zero]
  exact ⟨fun h=>⟨h.1,h.2⟩,fun h=>⟨h.la,h.us⟩⟩
def wa (w:List Int) (i:Nat):Int:=w.getD i 0
def unb (b:Int):Int:=b / 16 * 10 + b % 16
def badD (b:Int):Bool:=decide (9 < b / 16) || decide (9 < b % 16)
def stmW (w:List Int):Stm:=⟨⟨wa w 4 % 128,decide (128 ≤ wa w 4)⟩,⟨unb (wa w 3),unb (wa w 2),unb (wa w 1),unb (wa w 0)⟩,wa w 5 * 256 + wa w 6⟩
def rtOkB (b:Int):Bool:=decide (b = 24) || decide (b = 25) || decide (b = 30) || decide (b = 158)
def rdE (w:List Int):Int:=
  if wa w 8 ≠ 63 ∨ wa w 9 ≠ 253 then 1
  else if parF (w.take 7) ≠ wa w 7 then 27
  else if badD (wa w 0) || badD (wa w 1) || badD (wa w 2) || badD (wa w 3) then 1
  else if rtOkB (wa w 4) then stmE (stmW w) else 1
def Stm.zero:Stm:=⟨⟨0,false⟩,⟨0,0,0,0⟩,0⟩
def rdF (w:List Int):Stm:=if rdE w = 0 then stmW w else Stm.zero
theorem rt_ok {b:Int} (h:0 ≤ b ∧ b ≤ 255):rtOkB b = true ↔ rateF ⟨b % 128,decide (128 ≤ b)⟩ = 0:=by
  rw [rateF_zero]
  unfold rtOkB
  simp only [Bool.or_eq_true,decide_eq_true_eq]
  constructor
  · intro h1
    refine ⟨?_,fun hd=>?_⟩
    · show b % 128 = 24 ∨ b % 128 = 25 ∨ b % 128 = 30
      omega
    · have:128 ≤ b:=of_decide_eq_true hd
      show b % 128 = 30
      omega
  · rintro ⟨h1,h2⟩
    have h1:b % 128 = 24 ∨ b % 128 = 25 ∨ b % 128 = 30:=h1
    by_cases hb:128 ≤ b
    · have h2:b % 128 = 30:=h2 (decide_eq_true hb)
      omega
    · omega
end Go.Proofs.A1
namespace Go.Proofs.A1
open Go Go.SL
structure Cp where
  fr:Int
  to:Int
  rw:Int
  co:Int
  tx:ByteArray
def Cp.zero:Cp:=⟨0,0,0,0,⟨#[]⟩⟩
def badTx (s:ByteArray):Bool:=(List.range s.size).any fun i=>decide (bt s i < 32) || decide (126 < bt s i)
theorem badTx_no {s:ByteArray}:badTx s = false ↔ ∀ i,i < s.size → 32 ≤ bt s i ∧ bt s i ≤ 126:=by
  unfold badTx
  rw [List.any_eq_false]
  simp only [List.mem_range,Bool.or_eq_true,decide_eq_true_eq]
  constructor
  · intro h i hi;have:=h i hi;omega
  · intro h i hi;have:=h i hi;omega
def cpE (c:Cp):Int:=firstF [whenF (decide (c.fr < 0) || (decide (c.to ≤ c.fr) || decide (10000000 < c.to))) 14,withinF c.rw 0 7,withinF c.co 0 31,whenF (decide (c.tx.size = 0)) 12,whenF (decide (32 < c.co + (c.tx.size:Int))) 26,whenF (badTx c.tx) 1]
structure CpOk (c:Cp):Prop where
  sp:0 ≤ c.fr ∧ c.fr < c.to ∧ c.to ≤ 10000000
  rw:0 ≤ c.rw ∧ c.rw ≤ 7
  co:0 ≤ c.co ∧ c.co ≤ 31
  ne:0 < c.tx.size
  fit:c.co + (c.tx.size:Int) ≤ 32
  by_:∀ i,i < c.tx.size → 32 ≤ bt c.tx i ∧ bt c.tx i ≤ 126
theorem cpE_zero {c:Cp}:cpE c = 0 ↔ CpOk c:=by
  unfold cpE
  rw [firstF_zero]
  simp only [List.mem_cons,List.not_mem_nil,or_false,forall_eq_or_imp,forall_eq,withinF_zero]
  rw [whenF_zero (by decide),whenF_zero (by decide),whenF_zero (by decide),whenF_zero (by decide),badTx_no]
  simp only [Bool.or_eq_false_iff,decide_eq_false_iff_not]
  constructor
  · rintro ⟨h1,h2,h3,h4,h5,h6⟩
    exact ⟨by omega,h2,h3,by omega,by omega,h6⟩
  · intro h
    have h1:=h.sp;have h4:=h.ne;have h5:=h.fit
    exact ⟨by omega,h.rw,h.co,by omega,by omega,h.by_⟩
def cfl (a b:Cp):Bool:=decide (a.rw = b.rw) && (decide (max a.fr b.fr < min a.to b.to) && decide (max a.co b.co < min (a.co + (a.tx.size:Int)) (b.co + (b.tx.size:Int))))
def cflQ (a b:Cp):Bool:=decide (a.rw = b.rw) && (decide (a.fr < b.to) && (decide (b.fr < a.to) && (decide (a.co < b.co + (b.tx.size:Int)) && decide (b.co < a.co + (a.tx.size:Int)))))
theorem cfl_iff {a b:Cp} (ha:CpOk a) (hb:CpOk b):cfl a b = cflQ a b:=by
  have h1:=ha.sp;have h2:=hb.sp;have h3:=ha.ne;have h4:=hb.ne
  rw [Bool.eq_iff_iff]
  unfold cfl cflQ
  simp only [Bool.and_eq_true,decide_eq_true_eq]
  omega
def nthC (l:List Cp) (k:Nat):Cp:=l.getD k Cp.zero
theorem nthC_get {l:List Cp} {k:Nat} (h:k < l.length):nthC l k = l[k]:=by
  unfold nthC;rw [List.getD_eq_getElem?_getD,List.getElem?_eq_getElem h];rfl
def cpAt (l:List Cp) (k:Nat):Int:=firstF [cpE (nthC l k),whenF ((l.take k).any (cfl (nthC l k))) 24]
def capE (l:List Cp):Int:=if 32 < l.length then 5 else errE (cpAt l) l.length
structure CapOk (l:List Cp):Prop where
  few:l.length ≤ 32
  ok:∀ k,k < l.length → CpOk (nthC l k)
  no:∀ k,k < l.length → ∀ j,j < k → cflQ (nthC l k) (nthC l j) = false
theorem capE_zero {l:List Cp}:capE l = 0 ↔ CapOk l:=by
  unfold capE
  split
  · constructor
    · intro h;exact absurd h (by decide)
    · intro h;have:=h.few;omega
  rename_i hl
  rw [errE_ok]
  have key:∀ k,k < l.length → (cpAt l k = 0 ↔ CpOk (nthC l k) ∧ ∀ j,j < k → cfl (nthC l k) (nthC l j) = false):=fun k hk=>by
    unfold cpAt
    rw [firstF_zero]
    simp only [List.mem_cons,List.not_mem_nil,or_false,forall_eq_or_imp,forall_eq]
    rw [whenF_zero (by decide),cpE_zero,List.any_eq_false]
    refine and_congr_right fun _=>⟨fun h j hj=>?_,fun h x hx=>?_⟩
    · have hj2:j < l.length:=by omega
      rw [nthC_get hj2,← Bool.not_eq_true]
      exact h _ (List.mem_take_iff_getElem.2 ⟨j,by omega,rfl⟩)
    · obtain ⟨j,hj,rfl⟩:=List.mem_take_iff_getElem.1 hx
      have:=h j (by omega)
      rw [nthC_get (l:=l) (k:=j) (by omega)] at this
      rw [this];decide
  constructor
  · intro h
    have ho:∀ k,k < l.length → CpOk (nthC l k):=fun k hk=>((key k hk).1 (h k hk)).1
    refine ⟨by omega,ho,fun k hk j hj=>?_⟩
    rw [← cfl_iff (ho k hk) (ho j (by omega))]
    exact ((key k hk).1 (h k hk)).2 j hj
  · intro h k hk
    refine (key k hk).2 ⟨h.ok k hk,fun j hj=>?_⟩
    rw [cfl_iff (h.ok k hk) (h.ok j (by omega))]
    exact h.no k hk j hj
def onC (x:Cp) (n:Int) (r:Int):Bool:=decide (x.rw = r) && (decide (x.fr ≤ n) && decide (n < x.to))
def cov (x:Cp) (n:Int) (r:Int) (k:Nat):Bool:=onC x n r && (decide (x.co ≤ (k:Int)) && decide ((k:Int) < x.co + (x.tx.size:Int)))
def shS (n:Int) (r:Int) (k:Nat) (b:Int) (x:Cp):Int:=if cov x n r k then bt x.tx ((k:Int) - x.co).toNat else b
def shB (l:List Cp) (n r:Int) (k:Nat):Int:=l.foldl (shS n r k) 32
theorem shB_snoc (l:List Cp) (x:Cp) (n r:Int) (k:Nat):shB (l++[x]) n r k = shS n r k (shB l n r k) x:=by unfold shB;rw [List.foldl_append];rfl
def rowB (l:List Cp) (n r:Int):List Int:=(List.range 32).map (shB l n r)
theorem rowB_len (l:List Cp) (n r:Int):(rowB l n r).length = 32:=by unfold rowB;rw [List.length_map,List.length_range]
def endB (l:List Cp) (n:Int):Bool:=l.any fun x=>decide (x.fr = n) || decide (x.to = n)
def strB (l:List Int):ByteArray:=⟨(l.map fun n=>UInt8.ofNat n.toNat).toArray⟩
def scrL (l:List Cp) (n:Int):List ByteArray:=(List.range 8).map fun r=>strB (rowB l n (r:Nat))
def chB (l:List Cp) (n:Int):Bool:=decide (scrL l n ≠ scrL l (n - 1))
def topC (l:List Cp):Nat:=l.foldl (fun m x=>max m (max x.fr.toNat x.to.toNat)) 0
theorem topC_le:∀ (l:List Cp) (m:Nat),m ≤ l.foldl (fun m x=>max m (max x.fr.toNat x.to.toNat)) m ∧ ∀ x ∈ l,x.fr.toNat ≤ l.foldl (fun m x=>max m (max x.fr.toNat x.to.toNat)) m ∧ x.to.toNat ≤ l.foldl (fun m x=>max m (max x.fr.toNat x.to.toNat)) m
  | [],m=>⟨Nat.le_refl _,fun x hx=>by cases hx⟩
  | y :: l, m => by
    rw [List.foldl_cons]
    have ih:=topC_le l (max m (max y.fr.toNat y.to.toNat))
    refine ⟨by have:=ih.1;omega,fun x hx=>?_⟩
    rcases List.mem_cons.1 hx with rfl | hx
    · have:=ih.1;omega
    · exact ih.2 x hx
def chL (l:List Cp):List Nat:=(List.range (topC l + 1)).filter fun (n:Nat)=>endB l (n:Int) && chB l (n:Int)
theorem chL_mem {l:List Cp} {n:Nat}:n ∈ chL l ↔ endB l (n:Int) = true ∧ chB l (n:Int) = true:=by
  unfold chL
  rw [List.mem_filter,Bool.and_eq_true,List.mem_range]
  refine ⟨fun h=>h.2,fun h=>⟨?_,h⟩⟩
  have:=h.1
  unfold endB at this
  rw [List.any_eq_true] at this
  obtain ⟨x,hx,h2⟩:=this
  have:=(topC_le l 0).2 x hx
  unfold topC
  simp only [Bool.or_eq_true,decide_eq_true_eq] at h2
  omega
theorem chL_inc (l:List Cp):(chL l).Pairwise (· < ·):=List.Pairwise.filter _ List.pairwise_lt_range
end Go.Proofs.A1
namespace Go.Proofs.A1
open Go Go.SL
end Go.Proofs.A1
namespace Go.Proofs.A1
open Go Go.SL
def itoaB (n:Int):ByteArray:=⟨(Lib.itoa n).toArray⟩
def joinB (l:List ByteArray) (sep:ByteArray):ByteArray:=⟨(Lib.join (l.map (·.data.toList)) sep.data.toList).toArray⟩
end Go.Proofs.A1
namespace Go.Proofs.A1
open Go Go.SL
def dgC (n:Int):UInt8:=UInt8.ofNat (48 + n).toNat
def twoL (n:Int):List UInt8:=[dgC (n / 10),dgC (n % 10)]
def mkC (b:Bool):UInt8:=if b then 59 else 58
def lbW (s:Stm):List UInt8:=[dgC (s.la.h / 10),dgC (s.la.h % 10),58,dgC (s.la.m / 10),dgC (s.la.m % 10),58,dgC (s.la.s / 10),dgC (s.la.s % 10),mkC s.ra.dr,dgC (s.la.f / 10),dgC (s.la.f % 10)]
def prtL (s:Stm):List UInt8:=lbW s++32 :: ([97,116]++32 :: (Lib.decDigits s.ra.fr.toNat++32 :: Lib.decDigits s.us.toNat))
def atD (l:List UInt8) (i:Nat):UInt8:=l.getD i 0
def d2 (l:List UInt8) (i:Nat):Int:=10 * (((atD l i).toNat:Int) - 48) + (((atD l (i + 1)).toNat:Int) - 48)
structure Tk where
  h:Int
  m:Int
  s:Int
  f:Int
  c:UInt8
  rest:List UInt8
  bad:Bool
end Go.Proofs.A1
namespace Go.Proofs.A1
open Go Go.SL
def win (s:List Int) (i:Nat):List Int:=(s.drop i).take 10
def hitF (s:List Int):Nat → Nat → List (Stm × Nat)
  | 0,_=>[]
  | n + 1,i=>if i + 10 ≤ s.length then (if rdE (win s i) = 0 then (rdF (win s i),i) :: hitF s n (i + 10) else hitF s n (i + 1)) else []
theorem hitF_fuel (s:List Int):∀ n i m,s.length - i ≤ n → s.length - i ≤ m → hitF s n i = hitF s m i
  | 0, i, m, h, _ => by
    cases m with
    | zero=>rfl
    | succ m=>rw [hitF,hitF,if_neg (by omega)]
  | n + 1,i,0,_,h=>by rw [hitF,hitF,if_neg (by omega)]
  | n + 1, i, m + 1, h1, h2 => by
    rw [hitF,hitF]
    split
    · split
      · rw [hitF_fuel s n (i + 10) m (by omega) (by omega)]
      · rw [hitF_fuel s n (i + 1) m (by omega) (by omega)]
    · rfl
def hitL (s:List Int) (i:Nat):List (Stm × Nat):=hitF s (s.length - i) i
theorem hit_hit {s:List Int} {i:Nat} (h:i + 10 ≤ s.length) (h0:rdE (win s i) = 0):hitL s i = (rdF (win s i),i) :: hitL s (i + 10):=by
  unfold hitL
  obtain ⟨n,hn⟩:∃ n,s.length - i = n + 1:=⟨s.length - i - 1,by omega⟩
  rw [hn,hitF,if_pos h,if_pos h0,hitF_fuel s n (i + 10) (s.length - (i + 10)) (by omega) (by omega)]
theorem hit_miss {s:List Int} {i:Nat} (h:i + 10 ≤ s.length) (h0:rdE (win s i) ≠ 0):hitL s i = hitL s (i + 1):=by
  unfold hitL
  obtain ⟨n,hn⟩:∃ n,s.length - i = n + 1:=⟨s.length - i - 1,by omega⟩
  rw [hn,hitF,if_pos h,if_neg h0,hitF_fuel s n (i + 1) (s.length - (i + 1)) (by omega) (by omega)]
theorem hit_end {s:List Int} {i:Nat} (h:s.length < i + 10):hitL s i = []:=by
  unfold hitL
  cases hn:s.length - i with
  | zero=>rfl
  | succ n=>rw [hitF,if_neg (by omega)]
end Go.Proofs.A1
namespace Go.Proofs.A1
open Go Go.SL
end Go.Proofs.A1
namespace Go.Proofs.A1
open Go Go.SL
end Go.Proofs.A1
namespace Go.Proofs.A1
open Go Go.SL
def trnP (b:Int):Nat → Int
  | 0=>0
  | k + 1=>orF (trnP b k) (IntKind.u8.wrap (andF (b / 2 ^ k) 1 * 2 ^ (7 - k)))
def trnQ (b:Int):Nat → Int
  | 0=>0
  | k + 1=>2 * trnQ b k + b / 2 ^ k % 2
theorem trnN:∀ k:Nat,k < 256 → (trnP (k:Int) 8 = trnQ (k:Int) 8 ∧ 0 ≤ trnQ (k:Int) 8 ∧ trnQ (k:Int) 8 ≤ 255 ∧ trnQ (trnQ (k:Int) 8) 8 = (k:Int)):=by decide +kernel
theorem trn_byte {b:Int} (h:0 ≤ b ∧ b ≤ 255):trnP b 8 = trnQ b 8 ∧ 0 ≤ trnQ b 8 ∧ trnQ b 8 ≤ 255 ∧ trnQ (trnQ b 8) 8 = b:=by
  obtain ⟨k,hk,rfl⟩:=byte_nat h
  exact trnN k hk
def revL (s:List Int):List Int:=(s.map fun b=>trnQ b 8).reverse
def cntQ (b:Int):Nat → Int
  | 0=>0
  | k + 1=>cntQ b k + b / 2 ^ k % 2
def oddB (b:Int):Bool:=decide (cntQ b 8 % 2 = 1)
end Go.Proofs.A1
namespace Go.SL
open Go
section
variable {P:Program} {r:Option Nat} {c:Cx} {D:List Nat} {sl:Slots} {hs hs':List Asn} {ops:Array Oper} {Q:Exit → Act → World → Prop} {rest:List Oper} {d:Nat} {ty:TypeId} {pos:String} {af:Array Edge}
def bytesV (s:ByteArray):List Value:=s.data.toList.map fun b=>Value.int .u8 (b.toNat:Nat)
theorem bytesV_length (s:ByteArray):(bytesV s).length = s.size:=by unfold bytesV;rw [List.length_map];rfl
theorem tr_copyS {t t2 e:TypeId} {x y:Operand} {s:ByteArray} {g o n cap:Nat} {E:TypeId} {cs:List Value} [hu:Und P t (.slice e)] [hT:Ty P e false 1]
    (hx:Is sl x (.slice (some ⟨g,o,none⟩) n cap)) (hy:Is sl y (.string s)) (ht:Take hs (blk g (.cells cs.toArray E (0,0))) hs') (hn:s.size ≤ n) (hfit:o + s.size ≤ cs.length) (hd:Nat.blt d c.nt = true)
    (k:Tr c D ((d,.int .i64 (s.size:Nat)) :: sl) (blk g (.cells (setCells cs o (bytesV s)).toArray E (0,0)) :: hs') (WL P r ops Q rest)) :
    Tr c D sl hs (WL P r ops Q (⟨some d,.call ⟨.builtin .copy,#[x,y],#[t,t2]⟩,ty,pos,af,none⟩ :: rest)):=fun a w hst=>by
  obtain ⟨de,i,hde,hi,_,hsize⟩:=Ty.parts (P:=P) (t:=e) (agg:=false) (n:=1)
  have hm:=hst.mem.take (ht.append _)
  have hg:w.heap[g]? = some (.cells cs.toArray E (0,0)):=hm.blk .here
  obtain ⟨w',h3,h4,h5⟩:=rk_storeCells (P:=P) (o:=o) (bytesV s) 0 cs w hg (fun u hu=>by
    obtain ⟨b,_,rfl⟩:=List.mem_map.1 hu;rfl) (by rw [bytesV_length];omega)
  have hmin:Nat.min s.size n = s.size:=Nat.min_eq_left hn
  have hex:s.extract 0 s.size = s:=by
    apply ByteArray.ext;simp
  have hload:(Builtin.firstCells 1 s.size (.string s)).run P w = .ok (bytesV s).toArray w:=by
    simp only [Builtin.firstCells,hex]
    have:(s.data.map fun b=>Value.int .u8 (b.toNat:Nat)) = (bytesV s).toArray:=by
      apply Array.toList_inj.1
      unfold bytesV
      rw [Array.toList_map]
    rw [← this];rfl
  refine wl_op rfl ⟨fr_about _ _ _ _ _,?_⟩
  rw [Oper.semAt_eq _ _ _ (by simp)]
  have:(execOp a.eval ⟨some d,.call ⟨.builtin .copy,#[x,y],#[t,t2]⟩,ty,pos,af,none⟩).run P w = .ok (.value (.int .i64 (s.size:Nat))) w':=by
    have hlenV:(Builtin.lenOf (.string s)).run P w = .ok s.size w:=rfl
    simp [execOp,resolve,invoke,builtin,hx a hst.slots,hy a hst.slots,Builtin.copy_,rk_underlying hu.eq,hlenV,sizeOf,typeInfo,hi,hsize,hload,h3,goInt,hmin]
  rw [this]
  have hm2:=Mem.store hm h4 h5
  rw [show (o + 0:Nat) = o from rfl] at hm2
  exact k _ _ ((hst.put (by simpa [Nat.blt_eq] using hd) _).heap hm2)
end
end Go.SL
namespace Go.Proofs.A1
open Go Go.SL
abbrev Rt.cells (r:Rt):List Value:=[.int .i64 r.fr,.bool r.dr]
abbrev Lb.cells (l:Lb):List Value:=[.int .i64 l.h,.int .i64 l.m,.int .i64 l.s,.int .i64 l.f]
abbrev Stm.cells (s:Stm):List Value:=[.int .i64 s.ra.fr,.bool s.ra.dr,.int .i64 s.la.h,.int .i64 s.la.m,.int .i64 s.la.s,.int .i64 s.la.f,.int .i64 s.us]
abbrev hitC (x:Stm × Nat):List Value:=[.int .i64 x.1.ra.fr,.bool x.1.ra.dr,.int .i64 x.1.la.h,.int .i64 x.1.la.m,.int .i64 x.1.la.s,.int .i64 x.1.la.f,.int .i64 x.1.us,.int .i64 (x.2:Nat)]
abbrev Cp.cells (x:Cp):List Value:=[.int .i64 x.fr,.int .i64 x.to,.int .i64 x.rw,.int .i64 x.co,.string x.tx]
abbrev prC (x:Nat × Nat):List Value:=[.int .i64 (x.1:Nat),.int .i64 (x.2:Nat)]
abbrev natC (n:Nat):List Value:=[.int .i64 (n:Nat)]
abbrev byC (n:Int):List Value:=[.int .u8 n]
abbrev inC (n:Int):List Value:=[.int .i64 n]
abbrev duC (x:Int × Int):List Value:=[.int .i64 x.1,.int .i64 x.2]
abbrev srC (s:ByteArray):List Value:=[.string s]
def stms (l:List Stm):List (List Value):=l.map Stm.cells
def stmsV (l:List Stm):List Value:=l.flatMap Stm.cells
theorem stms_length (l:List Stm):(stms l).length = l.length:=by simp [stms]
theorem stms_flat (l:List Stm):stmsV l = (stms l).flatten:=by unfold stmsV stms;rw [List.flatMap_def]
theorem stms_sz (l:List Stm):∀ r ∈ stms l,r.length = 7:=fun r hr=>by obtain ⟨x,_,rfl⟩:=List.mem_map.1 hr;rfl
theorem stmsV_len (l:List Stm):(stmsV l).length = l.length * 7:=by rw [stms_flat,flat_len (stms_sz l),stms_length]
theorem stmsV_app (a b:List Stm):stmsV (a++b) = stmsV a++stmsV b:=by unfold stmsV;rw [List.flatMap_append]
def hts (l:List (Stm × Nat)):List (List Value):=l.map hitC
def htsV (l:List (Stm × Nat)):List Value:=l.flatMap hitC
theorem hts_length (l:List (Stm × Nat)):(hts l).length = l.length:=by simp [hts]
theorem hts_get {l:List (Stm × Nat)} {k:Nat} (h:k < l.length):(hts l)[k]? = some ((hitC) l[k]):=by simp [hts,h]
theorem hts_ne {l:List (Stm × Nat)} {k:Nat} (h:k < l.length):hts l ≠ []:=by intro e;have:=congrArg List.length e;rw [hts_length] at this;simp at this;subst this;simp at h
theorem hts_flat (l:List (Stm × Nat)):htsV l = (hts l).flatten:=by unfold htsV hts;rw [List.flatMap_def]
theorem hts_sz (l:List (Stm × Nat)):∀ r ∈ hts l,r.length = 8:=fun r hr=>by obtain ⟨x,_,rfl⟩:=List.mem_map.1 hr;rfl
theorem htsV_len (l:List (Stm × Nat)):(htsV l).length = l.length * 8:=by rw [hts_flat,flat_len (hts_sz l),hts_length]
theorem htsV_app (a b:List (Stm × Nat)):htsV (a++b) = htsV a++htsV b:=by unfold htsV;rw [List.flatMap_append]
theorem htsV_take {l:List (Stm × Nat)} {k:Nat} (h:k < l.length):htsV (l.take (k + 1)) = htsV (l.take k)++(hitC) l[k]:=by rw [List.take_succ_eq_append_getElem h,htsV_app];unfold htsV;simp
theorem hts_rd {c:Cx} {hs hs':List Asn} {w:World} {l:List (Stm × Nat)} {E:TypeId} {v:Value} {n:Nat} (hm:Mem c hs w) (ht:Take hs (row E 8 v n (htsV l)) hs') (hn:l.length = n):Rd w v 8 (hts l):=hm.rdRow ht (hts_flat l) (hts_sz l) (by rw [hts_length,hn])
def cps (l:List Cp):List (List Value):=l.map Cp.cells
def cpsV (l:List Cp):List Value:=l.flatMap Cp.cells
theorem cps_length (l:List Cp):(cps l).length = l.length:=by simp [cps]
theorem cps_get {l:List Cp} {k:Nat} (h:k < l.length):(cps l)[k]? = some ((Cp.cells) l[k]):=by simp [cps,h]
theorem cps_ne {l:List Cp} {k:Nat} (h:k < l.length):cps l ≠ []:=by intro e;have:=congrArg List.length e;rw [cps_length] at this;simp at this;subst this;simp at h
theorem cps_flat (l:List Cp):cpsV l = (cps l).flatten:=by unfold cpsV cps;rw [List.flatMap_def]
theorem cps_sz (l:List Cp):∀ r ∈ cps l,r.length = 5:=fun r hr=>by obtain ⟨x,_,rfl⟩:=List.mem_map.1 hr;rfl
theorem cps_one (l:List Cp):∀ r ∈ cps l,∀ u ∈ r,u.oneCell' = true:=fun r hr=>by obtain ⟨x,_,rfl⟩:=List.mem_map.1 hr;exact okc_cons rfl (okc_cons rfl (okc_cons rfl (okc_cons rfl (okc_cons rfl okc_nil))))
theorem cpsV_len (l:List Cp):(cpsV l).length = l.length * 5:=by rw [cps_flat,flat_len (cps_sz l),cps_length]
theorem cps_rd {c:Cx} {hs hs':List Asn} {w:World} {l:List Cp} {E:TypeId} {v:Value} {n:Nat} (hm:Mem c hs w) (ht:Take hs (row E 5 v n (cpsV l)) hs') (hn:l.length = n):Rd w v 5 (cps l):=hm.rdRow ht (cps_flat l) (cps_sz l) (by rw [cps_length,hn])
def prs (l:List (Nat × Nat)):List (List Value):=l.map prC
def prsV (l:List (Nat × Nat)):List Value:=l.flatMap prC
theorem prs_length (l:List (Nat × Nat)):(prs l).length = l.length:=by simp [prs]
theorem prs_flat (l:List (Nat × Nat)):prsV l = (prs l).flatten:=by unfold prsV prs;rw [List.flatMap_def]
theorem prs_sz (l:List (Nat × Nat)):∀ r ∈ prs l,r.length = 2:=fun r hr=>by obtain ⟨x,_,rfl⟩:=List.mem_map.1 hr;rfl
theorem prsV_len (l:List (Nat × Nat)):(prsV l).length = l.length * 2:=by rw [prs_flat,flat_len (prs_sz l),prs_length]
theorem prsV_app (a b:List (Nat × Nat)):prsV (a++b) = prsV a++prsV b:=by unfold prsV;rw [List.flatMap_append]
theorem prs_rd {c:Cx} {hs hs':List Asn} {w:World} {l:List (Nat × Nat)} {E:TypeId} {v:Value} {n:Nat} (hm:Mem c hs w) (ht:Take hs (row E 2 v n (prsV l)) hs') (hn:l.length = n):Rd w v 2 (prs l):=hm.rdRow ht (prs_flat l) (prs_sz l) (by rw [prs_length,hn])
def nats (l:List Nat):List (List Value):=l.map natC
def natsV (l:List Nat):List Value:=l.flatMap natC
theorem nats_length (l:List Nat):(nats l).length = l.length:=by simp [nats]
theorem nats_flat (l:List Nat):natsV l = (nats l).flatten:=by unfold natsV nats;rw [List.flatMap_def]
theorem nats_sz (l:List Nat):∀ r ∈ nats l,r.length = 1:=fun r hr=>by obtain ⟨x,_,rfl⟩:=List.mem_map.1 hr;rfl
theorem natsV_len (l:List Nat):(natsV l).length = l.length * 1:=by rw [nats_flat,flat_len (nats_sz l),nats_length]
theorem natsV_app (a b:List Nat):natsV (a++b) = natsV a++natsV b:=by unfold natsV;rw [List.flatMap_append]
def byts (l:List Int):List (List Value):=l.map byC
def bytsV (l:List Int):List Value:=l.flatMap byC
theorem byts_length (l:List Int):(byts l).length = l.length:=by simp [byts]
theorem byts_get {l:List Int} {k:Nat} (h:k < l.length):(byts l)[k]? = some ((byC) l[k]):=by simp [byts,h]
theorem byts_ne {l:List Int} {k:Nat} (h:k < l.length):byts l ≠ []:=by intro e;have:=congrArg List.length e;rw [byts_length] at this;simp at this;subst this;simp at h
theorem byts_flat (l:List Int):bytsV l = (byts l).flatten:=by unfold bytsV byts;rw [List.flatMap_def]
theorem byts_sz (l:List Int):∀ r ∈ byts l,r.length = 1:=fun r hr=>by obtain ⟨x,_,rfl⟩:=List.mem_map.1 hr;rfl
theorem bytsV_len (l:List Int):(bytsV l).length = l.length * 1:=by rw [byts_flat,flat_len (byts_sz l),byts_length]
theorem bytsV_app (a b:List Int):bytsV (a++b) = bytsV a++bytsV b:=by unfold bytsV;rw [List.flatMap_append]
def intg (l:List Int):List (List Value):=l.map inC
def intgV (l:List Int):List Value:=l.flatMap inC
theorem intg_length (l:List Int):(intg l).length = l.length:=by simp [intg]
theorem intg_get {l:List Int} {k:Nat} (h:k < l.length):(intg l)[k]? = some ((inC) l[k]):=by simp [intg,h]
theorem intg_ne {l:List Int} {k:Nat} (h:k < l.length):intg l ≠ []:=by intro e;have:=congrArg List.length e;rw [intg_length] at this;simp at this;subst this;simp at h
theorem intg_flat (l:List Int):intgV l = (intg l).flatten:=by unfold intgV intg;rw [List.flatMap_def]
theorem intg_sz (l:List Int):∀ r ∈ intg l,r.length = 1:=fun r hr=>by obtain ⟨x,_,rfl⟩:=List.mem_map.1 hr;rfl
theorem intg_one (l:List Int):∀ r ∈ intg l,∀ u ∈ r,u.oneCell' = true:=fun r hr=>by obtain ⟨x,_,rfl⟩:=List.mem_map.1 hr;exact okc_cons rfl okc_nil
theorem intgV_len (l:List Int):(intgV l).length = l.length * 1:=by rw [intg_flat,flat_len (intg_sz l),intg_length]
theorem intgV_app (a b:List Int):intgV (a++b) = intgV a++intgV b:=by unfold intgV;rw [List.flatMap_append]
theorem intg_rd {c:Cx} {hs hs':List Asn} {w:World} {l:List Int} {E:TypeId} {v:Value} {n:Nat} (hm:Mem c hs w) (ht:Take hs (row E 1 v n (intgV l)) hs') (hn:l.length = n):Rd w v 1 (intg l):=hm.rdRow ht (intg_flat l) (intg_sz l) (by rw [intg_length,hn])
def dus (l:List (Int × Int)):List (List Value):=l.map duC
def dusV (l:List (Int × Int)):List Value:=l.flatMap duC
theorem dus_length (l:List (Int × Int)):(dus l).length = l.length:=by simp [dus]
theorem dus_get {l:List (Int × Int)} {k:Nat} (h:k < l.length):(dus l)[k]? = some ((duC) l[k]):=by simp [dus,h]
theorem dus_ne {l:List (Int × Int)} {k:Nat} (h:k < l.length):dus l ≠ []:=by intro e;have:=congrArg List.length e;rw [dus_length] at this;simp at this;subst this;simp at h
theorem dus_flat (l:List (Int × Int)):dusV l = (dus l).flatten:=by unfold dusV dus;rw [List.flatMap_def]
theorem dus_sz (l:List (Int × Int)):∀ r ∈ dus l,r.length = 2:=fun r hr=>by obtain ⟨x,_,rfl⟩:=List.mem_map.1 hr;rfl
theorem dus_one (l:List (Int × Int)):∀ r ∈ dus l,∀ u ∈ r,u.oneCell' = true:=fun r hr=>by obtain ⟨x,_,rfl⟩:=List.mem_map.1 hr;exact okc_cons rfl (okc_cons rfl okc_nil)
theorem dus_rd {c:Cx} {hs hs':List Asn} {w:World} {l:List (Int × Int)} {E:TypeId} {v:Value} {n:Nat} (hm:Mem c hs w) (ht:Take hs (row E 2 v n (dusV l)) hs') (hn:l.length = n):Rd w v 2 (dus l):=hm.rdRow ht (dus_flat l) (dus_sz l) (by rw [dus_length,hn])
def srs (l:List ByteArray):List (List Value):=l.map srC
def srsV (l:List ByteArray):List Value:=l.flatMap srC
theorem srs_length (l:List ByteArray):(srs l).length = l.length:=by simp [srs]
theorem srs_flat (l:List ByteArray):srsV l = (srs l).flatten:=by unfold srsV srs;rw [List.flatMap_def]
theorem srs_sz (l:List ByteArray):∀ r ∈ srs l,r.length = 1:=fun r hr=>by obtain ⟨x,_,rfl⟩:=List.mem_map.1 hr;rfl
theorem srsV_len (l:List ByteArray):(srsV l).length = l.length * 1:=by rw [srs_flat,flat_len (srs_sz l),srs_length]
theorem srsV_app (a b:List ByteArray):srsV (a++b) = srsV a++srsV b:=by unfold srsV;rw [List.flatMap_append]
theorem srs_rd {c:Cx} {hs hs':List Asn} {w:World} {l:List ByteArray} {E:TypeId} {v:Value} {n:Nat} (hm:Mem c hs w) (ht:Take hs (row E 1 v n (srsV l)) hs') (hn:l.length = n):Rd w v 1 (srs l):=hm.rdRow ht (srs_flat l) (srs_sz l) (by rw [srs_length,hn])
theorem bytsV_eq (l:List Int):bytsV l = l.map (Value.int .u8):=by
  induction l with
  | nil=>rfl
  | cons x l ih=>show [Value.int .u8 x]++bytsV l = _;rw [ih];rfl
end Go.Proofs.A1
namespace Go.Proofs.A1
open Go Go.SL
def idxG {α:Type} (p:α → Bool) (l:List α):Int:=((List.range l.length).find? fun i=>(l[i]?.map p).getD false).elim (-1) (fun i=>(i:Int))
theorem idxG_at {α:Type} {p:α → Bool} {l:List α} {k:Nat} (h:∀ i,i < k → (l[i]?.map p).getD false = false) (hk:k < l.length) (hp:p l[k] = true):idxG p l = k:=by
  unfold idxG
  have:(List.range l.length).find? (fun i=>(l[i]?.map p).getD false) = some k:=by
    rw [List.find?_range_eq_some]
    exact ⟨by simp [hk,hp],by simpa using hk,fun i hi=>by simpa using h i hi⟩
  rw [this];rfl
theorem idxG_none {α:Type} {p:α → Bool} {l:List α} (h:∀ i,i < l.length → (l[i]?.map p).getD false = false):idxG p l = -1:=by
  unfold idxG
  have:(List.range l.length).find? (fun i=>(l[i]?.map p).getD false) = none:=by
    rw [List.find?_eq_none]
    intro i hi
    simp [h i (List.mem_range.1 hi)]
  rw [this];rfl
theorem idxG_any {α:Type} (p:α → Bool) (l:List α):decide (0 ≤ idxG p l) = l.any p:=by
  unfold idxG
  cases h:(List.range l.length).find? fun i=>(l[i]?.map p).getD false with
  | none =>
    have:l.any p = false:=by
      rw [List.any_eq_false]
      intro x hx
      obtain ⟨i,hi,rfl⟩:=List.getElem_of_mem hx
      have:=List.find?_eq_none.1 h i (List.mem_range.2 hi)
      simpa [hi] using this
    rw [this];rfl
  | some i =>
    have h1:=List.mem_range.1 (List.mem_of_find?_eq_some h)
    have h2:=List.find?_some h
    have:l.any p = true:=by
      rw [List.any_eq_true]
      exact ⟨l[i],List.getElem_mem h1,by simpa [h1] using h2⟩
    rw [this];simp
theorem index_c {lv:Value} {l:List Int} (x:Int) {w:World} (h:Rd w lv 1 (ints l)) :
    GivesV Tryz.prog 180 [lv,.int .i64 x] w (.int .i64 (idxG (fun y=>decide (x = y)) l)):=by
  obtain ⟨a,cp,b,o,rfl,hcap,hmax,ha,hc⟩:=h
  rw [ints_length] at *
  unfold maxLen at hmax
  refine givesV_of_tr Tryz.func180 rfl rfl ?_
  (refine s_r ?_;refine a_s rfl rfl ?_;refine n_t ?_;refine tr_seq ?_;refine s_r ?_;refine m_v rfl rfl ?_;refine tr_val (rk_len_slice (.of rfl)) rfl ?_;refine m_v rfl rfl ?_;refine n_t ?_;refine tr_block ?_)
  refine tr_for (fun k:Nat=>k ≤ l.length ∧ ∀ i,i < k → (l[i]?.map fun y=>decide (x = y)).getD false = false) (fun k=>[(8,.int .i64 k),(7,.int .i64 l.length),(0,.slice a l.length cp),(1,.int .i64 x)]) (fun _=>[]) (fun k=>l.length - k) ?_ ?_
  · apply tr_start 0 ⟨Nat.zero_le _,fun i h=>by omega⟩
    case hs1=>exact .cons rfl (.cons rfl (.cons rfl (.cons rfl .nil)))
    case ht=>(try simp only [List.take_zero,List.map_nil,List.nil_append]);exact .nil
  rintro k ⟨hk,hf⟩
  by_cases hlt:k < l.length
  · have ha':=ha (ints_ne hlt)
    have c0:w.cell? ⟨b,o + k * 1,none⟩ = some (.int .i64 l[k]):=(hc k _ (ints_get hlt)).2 0 _ rfl
    have hps:(l[k]?.map fun y=>decide (x = y)).getD false = decide (x = l[k]):=by simp [hlt]
    (refine s_r ?_;refine tr_val (rk_lss (.of rfl) (.of rfl)) rfl ?_;refine n_t ?_;refine tr_seq ?_;refine c_d rfl (fun hcd=>?_) (fun _=>by omega);refine s_t ?_;refine tr_seq ?_;refine tr_block ?_;refine s_r ?_;refine m_v rfl rfl ?_;refine a_s rfl rfl ?_;refine n_r ?_;refine m_v rfl rfl ?_;refine m_v rfl rfl ?_;refine m_v rfl rfl ?_;refine tr_val (rk_indexAddr (.of rfl) (.of rfl) ha' (by omega) hcd norm1_) rfl ?_;refine tr_val (rk_load1 (.of rfl) (At.base c0 rfl)) rfl ?_;refine tr_val (rk_eql (.of rfl) (.of rfl)) rfl ?_;refine n_t ?_;refine c_d rfl (fun hcd=>?_) (fun hcd=>?_);refine s_r ?_;refine m_v rfl rfl ?_;refine a_s rfl rfl ?_;refine n_t ?_;refine tr_ret ?_;refine tr_blk_ret ?_;refine tr_then_ret ?_;refine tr_then_ret ?_;refine tr_blk_ret ?_;refine tr_then_ret ?_;refine tr_retE rfl (ends1 rfl rfl) ?_;rotate_left;refine tr_skip ?_;refine tr_blk_normal ?_;refine tr_then ?_;refine tr_region ?_;refine tr_val (rk_add (.of rfl) (.of rfl) (ini (by omega))) rfl ?_;refine m_v rfl rfl ?_;refine n_t ?_;rotate_right)
    · rw [idxG_at hf hlt (by simpa using hcd)]
    · apply tr_next (k + 1) ⟨by omega,fun i hi=>by
        by_cases e:i = k
        · rw [e,hps];simpa using hcd
        · exact hf i (by omega)⟩ (by omega)
      case hs1=>exact .cons rfl (.cons rfl (.cons rfl (.cons rfl .nil)))
      case ht=>(try simp only [List.take_zero,List.map_nil,List.nil_append]);exact .nil
  · obtain rfl:k = l.length:=by omega
    (refine s_r ?_;refine tr_val (rk_lss (.of rfl) (.of rfl)) rfl ?_;refine n_t ?_;refine tr_seq ?_;refine c_d rfl (fun _=>by omega) (fun hcd=>?_);refine x_t ?_;refine tr_then_exit ?_;refine tr_blk_exit ?_;refine tr_then ?_;refine s_r ?_;refine a_s rfl rfl ?_;refine n_t ?_;refine tr_ret ?_;refine tr_retE rfl (ends1 rfl rfl) ?_)
    rw [idxG_none hf]
theorem contains_c {lv:Value} {l:List Int} (x:Int) {w:World} (h:Rd w lv 1 (ints l)) :
    GivesV Tryz.prog 103 [lv,.int .i64 x] w (.bool (l.contains x)):=by
  have hcl:∀ w',Keeps [] w w' → GivesV Tryz.prog 180 [lv,.int .i64 x] w' (.int .i64 (idxG (fun y=>decide (x = y)) l)):=fun w' hk=>index_c x (h.keeps hk)
  have e:l.contains x = l.any fun y=>decide (x = y):=by
    rw [List.contains_eq_any_beq];rfl
  rw [e,← idxG_any]
  refine givesV_of_tr Tryz.func103 rfl rfl ?_
  (refine s_r ?_;refine a_s rfl rfl ?_;refine n_r ?_;refine m_v rfl rfl ?_;refine m_v rfl rfl ?_;refine tr_callV (rk_call (.of rfl) (.cons (.of rfl) (.cons (.of rfl) .nil)) inferInstance normc_) rfl (fun w' hm'=>(hcl w' (Mem.keeps hm'))) ?_;refine tr_val (rk_geq (.of rfl) (.of rfl)) rfl ?_;refine a_s rfl rfl ?_;refine n_t ?_;refine tr_ret ?_;refine tr_retE rfl (ends1 rfl rfl) ?_)
  rfl
structure GlobR (w:World):Prop where
  n0:w.cell? ⟨0,0,none⟩ = some (.int .i64 24)
  n1:w.cell? ⟨0,1,none⟩ = some (.int .i64 25)
  n2:w.cell? ⟨0,2,none⟩ = some (.int .i64 30)
theorem cell_keeps {w w':World} {a:Addr} {v:Value} (h:w.cell? a = some v) (hs:a.spot = none) (hk:Keeps [] w w'):w'.cell? a = some v:=by
  have hb:=World.block_lt_of_cell? w a h
  obtain ⟨b,o,s⟩:=a
  subst hs
  have:=hk.block b hb (by simp)
  rw [← h]
  simp [World.cell?,this]
theorem GlobR.keeps {w w':World} (h:GlobR w) (hk:Keeps [] w w'):GlobR w':=⟨cell_keeps h.n0 rfl hk,cell_keeps h.n1 rfl hk,cell_keeps h.n2 rfl hk⟩
theorem GlobR.rd {w:World} (h:GlobR w):Rd w (.slice (some ⟨0,0,none⟩) 3 3) 1 (ints [24,25,30]):=by
  refine ⟨_,3,0,0,rfl,by simp [ints],by unfold maxLen;omega,fun _=>rfl,fun i r hr=>?_⟩
  match i,hr with
  | 0,hr=>cases hr;exact ⟨rfl,fun j u hu=>by match j,hu with | 0,hu=>(cases hu;exact h.n0)⟩
  | 1,hr=>cases hr;exact ⟨rfl,fun j u hu=>by match j,hu with | 0,hu=>(cases hu;exact h.n1)⟩
  | 2,hr=>cases hr;exact ⟨rfl,fun j u hu=>by match j,hu with | 0,hu=>(cases hu;exact h.n2)⟩
theorem rate_has (x:Int) (w:World) (hG:GlobR w):GivesV Tryz.prog 103 [.slice (some ⟨0,0,none⟩) 3 3,.int .i64 x] w (.bool ([24,25,30].contains x)):=contains_c x hG.rd
theorem rate_eq (r:Rt):firstF [whenF (!([24,25,30]:List Int).contains r.fr) 13,whenF (r.dr && decide (r.fr ≠ 30)) 24] = rateF r:=by
  unfold rateF
  congr 2
  congr 1
  rw [Bool.eq_iff_iff]
  simp
theorem chkRate_c (r:Rt) (w:World) (hG:GlobR w):GivesV Tryz.prog 25 [.agg r.cells.toArray] w (.int .i64 (rateF r)):=by
  unfold Rt.cells
  refine givesV_of_tr Tryz.func25 rfl rfl ?_
  (refine s_r ?_;refine tr_new (rk_box (.of rfl) rfl) rfl (fun _ _=>?_);refine a_s rfl rfl ?_;refine n_t ?_;refine tr_seq ?_)
  with_reducible refine tr_draw 14 (by kernel_rfl) ?_
  (refine any_val (rk_sliceA (.of rfl)) rfl ?_;refine a_f rfl rfl norm0_ ?_;refine any_val (rk_load1 (.of rfl) (At.lit .here rfl)) rfl ?_;refine any_call (rk_call (.of rfl) (.cons (.of rfl) (.cons (.of rfl) .nil)) inferInstance normc_) rfl (fun w' hm'=>(rate_has _ w' (GlobR.keeps hG (Mem.keeps hm')))) ?_;refine any_val (rk_not (.of rfl)) rfl ?_;refine any_call (rk_call (.of rfl) (.cons (.of rfl) (.cons (.of rfl) .nil)) inferInstance normc_) rfl (fun w' hm'=>(when_c _ 13 w')) ?_;refine a_f rfl rfl norm0_ ?_;refine any_val (rk_load1 (.of rfl) (At.lit .here rfl)) rfl ?_;refine a_m rfl rfl ?_;refine any_vG1 rfl rfl inferInstance (fun hg hgp=>(rk_fieldAddr (.of rfl) norm0_)) rfl ?_;refine any_vG1 rfl rfl inferInstance (fun hg hgp=>(rk_load1 (.ofg hg rfl) (At.lit .here rfl))) rfl ?_;refine any_vG1 rfl rfl inferInstance (fun hg hgp=>(rk_neq (.ofg hg rfl) (.of rfl))) rfl ?_;refine any_val (rk_pick_and (.of rfl) rfl) rfl ?_;refine any_call (rk_call (.of rfl) (.cons (.of rfl) (.cons (.of rfl) .nil)) inferInstance normc_) rfl (fun w' hm'=>(when_c _ 24 w')) ?_)
  with_reducible refine any_end ?_
  (refine tr_new (rk_sliceLit (.cons (.of rfl) (.cons (.of rfl) .nil)) rfl rfl rfl rfl) rfl (fun _ _=>?_);refine tr_callV (rk_call (.of rfl) (.cons (.of rfl) .nil) inferInstance normc_) rfl (fun w' hm'=>(first_pB (Mem.rdBlk hm' .here rfl rfl) (IntL.cons (IntL.cons IntL.nil)))) ?_;refine a_s rfl rfl ?_;refine n_t ?_;refine tr_ret ?_;refine tr_retE rfl (ends1 rfl rfl) ?_)
  rw [← rate_eq]
end Go.Proofs.A1
