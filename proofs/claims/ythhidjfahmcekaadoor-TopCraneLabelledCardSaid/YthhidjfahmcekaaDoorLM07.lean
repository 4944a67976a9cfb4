/- Parts of the proof: GkBits GkArr DU2 T6p T9p T1p T2p T8p TAp V1q TBp T3p T4p T5p T7p GkCopyS U9p DU3. -/
import Derived.Test.YthhidjfahmcekaaDoorLM01
import Derived.Laws.Entries
import Derived.Test.YthhidjfahmcekaaDoorLM06
import Derived.Test.YthhidjfahmcekaaDoorLM05
import Derived.Laws.RangeAny
import Derived.Laws.RangeString
import Derived.Lib.Join
import Derived.Lib.SplitLaws
import Derived.Lib.ItoaLen
set_option linter.unusedSectionVars false
set_option linter.unusedVariables false
set_option linter.unusedSimpArgs false
namespace Go.SL
open Go
variable {P:Program} {c:Cx} {sl:Slots} {hs:List Asn} {dst:Option Tmp} {ty:TypeId} {pos:String} {af:Array Edge} {g:Option (Nat × Bool)}
def andF (a b:Int):Int:=((BitVec.ofInt 8 a &&& BitVec.ofInt 8 b).toNat:Nat)
def xorF (a b:Int):Int:=((BitVec.ofInt 8 a ^^^ BitVec.ofInt 8 b).toNat:Nat)
def anotF (a b:Int):Int:=((BitVec.ofInt 8 a &&& ~~~(BitVec.ofInt 8 b)).toNat:Nat)
theorem wrap_u8 (r:BitVec 8):IntKind.u8.wrap (r.toNat:Int) = (r.toNat:Int):=by
  have:=r.isLt
  unfold IntKind.wrap
  simp [IntKind.signed,IntKind.bits]
  omega
theorem bits_and (a b:Int):Op.intBits .and .u8 a b = pure (.int .u8 (andF a b)):=
  congrArg (fun n=>(pure (Value.int .u8 n):Sem Value)) (wrap_u8 (BitVec.ofInt 8 a &&& BitVec.ofInt 8 b))
theorem bits_xor (a b:Int):Op.intBits .xor .u8 a b = pure (.int .u8 (xorF a b)):=
  congrArg (fun n=>(pure (Value.int .u8 n):Sem Value)) (wrap_u8 (BitVec.ofInt 8 a ^^^ BitVec.ofInt 8 b))
theorem bits_andNot (a b:Int):Op.intBits .andNot .u8 a b = pure (.int .u8 (anotF a b)):=
  congrArg (fun n=>(pure (Value.int .u8 n):Sem Value)) (wrap_u8 (BitVec.ofInt 8 a &&& ~~~(BitVec.ofInt 8 b)))
theorem rk_and8 {t u:TypeId} {x y:Operand} {a b:Int} (hx:Is sl x (.int .u8 a)) (hy:Is sl y (.int .u8 b)):RunV P c sl hs ⟨dst,.binOp .and t x y u,ty,pos,af,g⟩ (.int .u8 (andF a b)):=
  rk_bin hx hy fun w=>by simp [eqGuard_int,binOp,bits_and]
theorem rk_xor8 {t u:TypeId} {x y:Operand} {a b:Int} (hx:Is sl x (.int .u8 a)) (hy:Is sl y (.int .u8 b)):RunV P c sl hs ⟨dst,.binOp .xor t x y u,ty,pos,af,g⟩ (.int .u8 (xorF a b)):=
  rk_bin hx hy fun w=>by simp [eqGuard_int,binOp,bits_xor]
theorem rk_andNot8 {t u:TypeId} {x y:Operand} {a b:Int} (hx:Is sl x (.int .u8 a)) (hy:Is sl y (.int .u8 b)):RunV P c sl hs ⟨dst,.binOp .andNot t x y u,ty,pos,af,g⟩ (.int .u8 (anotF a b)):=
  rk_bin hx hy fun w=>by simp [eqGuard_int,binOp,bits_andNot]
theorem rk_shr {t u:TypeId} {x y:Operand} {k yk:IntKind} {a n:Int} (hx:Is sl x (.int k a)) (hy:Is sl y (.int yk n)) (h0:0 ≤ n) (h1:n ≤ k.bits):RunV P c sl hs ⟨dst,.binOp .shr t x y u,ty,pos,af,g⟩ (.int k (a / 2 ^ n.toNat)):=
  rk_bin hx hy fun w=>by
    have hm:min n.toNat k.bits = n.toNat:=by omega
    have hp:(0:Int) ≤ 2 ^ n.toNat:=Int.pow_nonneg (by decide)
    simp [eqGuard_int,binOp,Op.shift,show ¬ n < 0 by omega,hm,Int.fdiv_eq_ediv_of_nonneg _ hp]
theorem rk_shl {t u:TypeId} {x y:Operand} {k yk:IntKind} {a n:Int} (hx:Is sl x (.int k a)) (hy:Is sl y (.int yk n)) (h0:0 ≤ n) (h1:n ≤ k.bits):RunV P c sl hs ⟨dst,.binOp .shl t x y u,ty,pos,af,g⟩ (.int k (k.wrap (a * 2 ^ n.toNat))):=
  rk_bin hx hy fun w=>by
    have hm:min n.toNat k.bits = n.toNat:=by omega
    simp [eqGuard_int,binOp,Op.shift,show ¬ n < 0 by omega,hm]
end Go.SL
namespace Go.SL
open Go
section
variable {P:Program} {c:Cx} {sl:Slots} {hs:List Asn} {dst:Option Tmp} {ty:TypeId} {pos:String} {af:Array Edge} {g:Option (Nat × Bool)}
theorem rk_sliceA {t e:TypeId} {m n:Nat} {agg:Bool} {x:Operand} {b o:Nat} [hu:Und P t (.array m e)] [hT:Ty P e agg n] (hx:Is sl x (.pointer (some ⟨b,o,none⟩))) :
    RunV P c sl hs ⟨dst,.slice t x none none none,ty,pos,af,g⟩ (.slice (some ⟨b,o,none⟩) m m):=
  ⟨by simp,fun ac w ha _=>by
    simp only [execOp,hx ac ha,Option.map]
    refine value_of ?_
    simp [Instr.sliceAt,rk_underlying hu.eq,Instr.sureAddr,Instr.sliceBounds,rk_sizeOf (t:=e) (agg:=agg) (n:=n),addr_add]⟩
theorem rk_sliceA_l {t e:TypeId} {m n q h:Nat} {agg:Bool} {x y:Operand} {b o:Nat} {k:IntKind} {l:Int} [hu:Und P t (.array m e)] [hT:Ty P e agg n] (hx:Is sl x (.pointer (some ⟨b,o,none⟩))) (hy:Is sl y (.int k l)) (h0:0 ≤ l) (h1:l < m) (hq:o + l.toNat * n = q) (hh:m - l.toNat = h) :
    RunV P c sl hs ⟨dst,.slice t x (some y) none none,ty,pos,af,g⟩ (.slice (some ⟨b,q,none⟩) h h):=
  ⟨by simp,fun ac w ha _=>by
    subst hq hh
    have hne:¬ m = l.toNat:=by omega
    simp only [execOp,hx ac ha,hy ac ha,Option.map]
    refine value_of ?_
    simp [Instr.sliceAt,rk_underlying hu.eq,Instr.sureAddr,Instr.sliceBounds,Instr.sliceBound,asIntOf,h0,Int.le_of_lt h1,hne,rk_sizeOf (t:=e) (agg:=agg) (n:=n),addr_add]⟩
theorem rk_sliceA_h {t e:TypeId} {m n h':Nat} {agg:Bool} {x y:Operand} {b o:Nat} {k:IntKind} {h:Int} [hu:Und P t (.array m e)] [hT:Ty P e agg n] (hx:Is sl x (.pointer (some ⟨b,o,none⟩))) (hy:Is sl y (.int k h)) (h0:0 ≤ h) (h1:h ≤ m) (hh:h.toNat = h') :
    RunV P c sl hs ⟨dst,.slice t x none (some y) none,ty,pos,af,g⟩ (.slice (some ⟨b,o,none⟩) h' m):=
  ⟨by simp,fun ac w ha _=>by
    subst hh
    simp only [execOp,hx ac ha,hy ac ha,Option.map]
    refine value_of ?_
    simp [Instr.sliceAt,rk_underlying hu.eq,Instr.sureAddr,Instr.sliceBounds,Instr.sliceBound,asIntOf,h0,h1,rk_sizeOf (t:=e) (agg:=agg) (n:=n),addr_add]⟩
theorem rk_s2ap {t e:TypeId} {m len cap:Nat} {x:Operand} {a:Option Addr} [hu:Und P t (.array m e)] (hx:Is sl x (.slice a len cap)) (h1:Nat.ble m len = true) :
    RunV P c sl hs ⟨dst,.sliceToArrayPointer t x,ty,pos,af,g⟩ (.pointer a):=
  ⟨by simp,fun ac w ha _=>by
    have:¬ len < m:=by have:=Nat.le_of_ble_eq_true h1;omega
    simp only [execOp,hx ac ha]
    refine value_of ?_
    simp [Instr.arrayAt,rk_underlying hu.eq,this]⟩
theorem rk_remT {t u:TypeId} {x y:Operand} {a b:Int} (hx:Is sl x (.int .i64 a)) (hy:Is sl y (.int .i64 b)) (hb:b ≠ 0) :
    RunV P c sl hs ⟨dst,.binOp .rem t x y u,ty,pos,af,g⟩ (.int .i64 (a.tmod b)):=
  rk_bin hx hy fun w=>by
    simp [eqGuard_int,binOp,Op.intDiv,hb]
theorem rk_shrC {t u:TypeId} {x y:Operand} {k yk:IntKind} {a n:Int} (hx:Is sl x (.int k a)) (hy:Is sl y (.int yk n)) (h:(decide (0 ≤ n) && decide (n ≤ (k.bits:Nat))) = true):RunV P c sl hs ⟨dst,.binOp .shr t x y u,ty,pos,af,g⟩ (.int k (a / 2 ^ n.toNat)):=by
  rw [Bool.and_eq_true,decide_eq_true_eq,decide_eq_true_eq] at h
  exact rk_shr hx hy h.1 h.2
theorem rk_shlC {t u:TypeId} {x y:Operand} {k yk:IntKind} {a n:Int} (hx:Is sl x (.int k a)) (hy:Is sl y (.int yk n)) (h:(decide (0 ≤ n) && decide (n ≤ (k.bits:Nat))) = true):RunV P c sl hs ⟨dst,.binOp .shl t x y u,ty,pos,af,g⟩ (.int k (k.wrap (a * 2 ^ n.toNat))):=by
  rw [Bool.and_eq_true,decide_eq_true_eq,decide_eq_true_eq] at h
  exact rk_shl hx hy h.1 h.2
end
end Go.SL
namespace Go.Proofs.A1
open Go Go.SL
def ints (es:List Int):List (List Value):=es.map fun e=>[.int .i64 e]
theorem ints_length (es:List Int):(ints es).length = es.length:=by simp [ints]
theorem ints_get {es:List Int} {k:Nat} (h:k < es.length):(ints es)[k]? = some [.int .i64 es[k]]:=by simp [ints,h]
theorem ints_ne {es:List Int} {k:Nat} (h:k < es.length):ints es ≠ []:=by intro e;have:=congrArg List.length e;rw [ints_length] at this;simp at this;subst this;simp at h
inductive IntL:List Value → List Int → Prop
  | nil:IntL [] []
  | cons {e:Int} {vs:List Value} {es:List Int} (h:IntL vs es):IntL (.int .i64 e :: vs) (e :: es)
theorem IntL.eq {vs:List Value} {es:List Int} (h:IntL vs es):(vs.map fun v=>[v]) = ints es:=by
  induction h with
  | nil=>rfl
  | cons h ih=>simp only [List.map_cons,ints,ih]
theorem when_q (h:Bool) (e:Int) (w:World):GivesV Tryd.prog 61 [.bool h,.int .i64 e] w (.int .i64 (whenF h e)):=by
  refine givesV_of_tr Tryd.func61 rfl rfl ?_
  (refine s_r ?_;refine a_s rfl rfl ?_;refine n_t ?_;refine tr_seq ?_;refine s_r ?_;refine m_v rfl rfl ?_;refine n_t ?_;refine c_b rfl (fun hcd=>?_) (fun hcd=>?_);refine s_r ?_;refine m_v rfl rfl ?_;refine a_s rfl rfl ?_;refine n_t ?_;refine r_t ?_;refine tr_retE rfl (ends1 rfl rfl) ?_;rotate_left;refine s_t ?_;refine s_r ?_;refine a_s rfl rfl ?_;refine n_t ?_;refine tr_ret ?_;refine tr_retE rfl (ends1 rfl rfl) ?_;rotate_right)
  all_goals simp [whenF, *]
theorem range_q (n l m:Int) (w:World):GivesV Tryd.prog 26 [.int .i64 n,.int .i64 l,.int .i64 m] w (.int .i64 (withinF n l m)):=by
  refine givesV_of_tr Tryd.func26 rfl rfl ?_
  (refine s_r ?_;refine a_s rfl rfl ?_;refine n_r ?_;refine m_v rfl rfl ?_;refine m_v rfl rfl ?_;refine tr_val (rk_lss (.of rfl) (.of rfl)) rfl ?_;refine m_v rfl rfl ?_;refine v_g rfl rfl rfl rfl ?_;refine v_g rfl rfl rfl rfl ?_;refine tr_vG1 rfl rfl inferInstance (fun hg hgp=>(rk_gtr (.ofg hg rfl) (.ofg hg rfl))) rfl ?_;refine tr_val (rk_pick_or (.of rfl) rfl) rfl ?_;refine tr_callV (rk_call (.of rfl) (.cons (.of rfl) (.cons (.of rfl) .nil)) inferInstance normc_) rfl (fun w' hm'=>(when_q _ 3 w')) ?_;refine a_s rfl rfl ?_;refine n_t ?_;refine tr_ret ?_;refine tr_retE rfl (ends1 rfl rfl) ?_)
  rfl
theorem first_q (v:Value) (es:List Int) (w:World) (h:Rd w v 1 (ints es)):GivesV Tryd.prog 25 [v] w (.int .i64 (firstF es)):=by
  obtain ⟨a,cap,b,o,rfl,hcap,hmax,ha,hc⟩:=h
  rw [ints_length] at *
  unfold maxLen at hmax
  refine givesV_of_tr Tryd.func25 rfl rfl ?_
  (refine s_r ?_;refine a_s rfl rfl ?_;refine n_t ?_;refine tr_seq ?_;refine s_r ?_;refine a_s rfl rfl ?_;refine n_t ?_;refine tr_block ?_)
  refine tr_for (fun k:Nat=>k ≤ es.length ∧ firstF es = firstF (es.drop k)) (fun k=>[(3,.int .i64 k),(0,.slice a es.length cap)]) (fun _=>[]) (fun k=>es.length - k) ?_ ?_
  · apply tr_start 0 ⟨Nat.zero_le _,rfl⟩
    case hs1=>exact .cons rfl (.cons rfl .nil)
    case ht=>(try simp only [List.take_zero,List.map_nil,List.nil_append]);exact .nil
  intro k ⟨hk,hf⟩
  by_cases hlt:k < es.length
  · have ha':=ha (ints_ne hlt)
    have hcell:=rd1 hc (ints_get hlt)
    have hs:=firstF_at hlt
    (refine tr_seq ?_;refine s_r ?_;refine m_v rfl rfl ?_;refine m_v rfl rfl ?_;refine tr_val (rk_len_slice (.of rfl)) rfl ?_;refine tr_val (rk_lss (.of rfl) (.of rfl)) rfl ?_;refine n_t ?_;refine c_d rfl (fun hcd=>?_) (fun _=>by omega);refine s_t ?_;refine tr_seq ?_;refine tr_block ?_;refine s_r ?_;refine m_v rfl rfl ?_;refine m_v rfl rfl ?_;refine tr_val (rk_indexAddr (.of rfl) (.of rfl) ha' (by omega) hcd norm1_) rfl ?_;refine tr_val (rk_load1 (.of rfl) (At.base hcell rfl)) rfl ?_;refine tr_val (rk_neq (.of rfl) (.of rfl)) rfl ?_;refine n_t ?_;refine c_d rfl (fun hcd=>?_) (fun hcd=>?_);refine s_r ?_;refine m_v rfl rfl ?_;refine m_v rfl rfl ?_;refine tr_val (rk_indexAddr (.of rfl) (.of rfl) ha' (by omega) (by assumption) norm1_) rfl ?_;refine tr_val (rk_load1 (.of rfl) (At.base hcell rfl)) rfl ?_;refine a_s rfl rfl ?_;refine n_t ?_;refine tr_ret ?_;refine tr_blk_ret ?_;refine tr_then_ret ?_;refine tr_then_ret ?_;refine tr_blk_ret ?_;refine tr_then_ret ?_;refine tr_retE rfl (ends1 rfl rfl) ?_;rotate_left;refine tr_skip ?_;refine tr_blk_normal ?_;refine tr_then ?_;refine tr_region ?_;refine m_v rfl rfl ?_;refine tr_val (rk_add (.of rfl) (.of rfl) (ini (by omega))) rfl ?_;refine a_s rfl rfl ?_;refine n_t ?_;rotate_right)
    · rw [hf,hs,if_pos hcd]
    · apply tr_next (k + 1) ⟨by omega,by rw [hf,hs,if_neg hcd]⟩ (by omega)
      case hs1=>exact .cons rfl (.cons rfl .nil)
      case ht=>(try simp only [List.take_zero,List.map_nil,List.nil_append]);exact .nil
  · (refine tr_seq ?_;refine s_r ?_;refine m_v rfl rfl ?_;refine m_v rfl rfl ?_;refine tr_val (rk_len_slice (.of rfl)) rfl ?_;refine tr_val (rk_lss (.of rfl) (.of rfl)) rfl ?_;refine n_t ?_;refine c_d rfl (fun _=>by omega) (fun hcd=>?_);refine x_t ?_;refine tr_then_exit ?_;refine tr_blk_exit ?_;refine tr_then ?_;refine s_r ?_;refine a_s rfl rfl ?_;refine n_t ?_;refine tr_ret ?_;refine tr_retE rfl (ends1 rfl rfl) ?_)
    rw [hf,List.drop_of_length_le (by omega)];rfl
theorem first_qB {v:Value} {cs:List Value} {es:List Int} {w:World} (h:Rd w v 1 (cs.map fun v=>[v])) (hl:IntL cs es):GivesV Tryd.prog 25 [v] w (.int .i64 (firstF es)):=
  first_q v es w (by rw [← hl.eq];exact h)
theorem when_c (h:Bool) (e:Int) (w:World):GivesV Tryd.prog 70 [.bool h,.int .i64 e] w (.int .i64 (whenF h e)):=by
  refine givesV_of_tr Tryd.func70 rfl rfl ?_
  (refine s_r ?_;refine a_s rfl rfl ?_;refine n_t ?_;refine tr_seq ?_;refine s_r ?_;refine m_v rfl rfl ?_;refine n_t ?_;refine c_b rfl (fun hcd=>?_) (fun hcd=>?_);refine s_r ?_;refine m_v rfl rfl ?_;refine a_s rfl rfl ?_;refine n_t ?_;refine r_t ?_;refine tr_retE rfl (ends1 rfl rfl) ?_;rotate_left;refine s_t ?_;refine s_r ?_;refine a_s rfl rfl ?_;refine n_t ?_;refine tr_ret ?_;refine tr_retE rfl (ends1 rfl rfl) ?_;rotate_right)
  all_goals simp [whenF, *]
theorem within_c (n l m:Int) (w:World):GivesV Tryd.prog 37 [.int .i64 n,.int .i64 l,.int .i64 m] w (.int .i64 (withinF n l m)):=by
  refine givesV_of_tr Tryd.func37 rfl rfl ?_
  (refine s_r ?_;refine a_s rfl rfl ?_;refine n_r ?_;refine m_v rfl rfl ?_;refine m_v rfl rfl ?_;refine tr_val (rk_lss (.of rfl) (.of rfl)) rfl ?_;refine m_v rfl rfl ?_;refine v_g rfl rfl rfl rfl ?_;refine v_g rfl rfl rfl rfl ?_;refine tr_vG1 rfl rfl inferInstance (fun hg hgp=>(rk_gtr (.ofg hg rfl) (.ofg hg rfl))) rfl ?_;refine tr_val (rk_pick_or (.of rfl) rfl) rfl ?_;refine tr_callV (rk_call (.of rfl) (.cons (.of rfl) (.cons (.of rfl) .nil)) inferInstance normc_) rfl (fun w' hm'=>(when_c _ 3 w')) ?_;refine a_s rfl rfl ?_;refine n_t ?_;refine tr_ret ?_;refine tr_retE rfl (ends1 rfl rfl) ?_)
  rfl
theorem first_c (v:Value) (es:List Int) (w:World) (h:Rd w v 1 (ints es)):GivesV Tryd.prog 35 [v] w (.int .i64 (firstF es)):=by
  obtain ⟨a,cap,b,o,rfl,hcap,hmax,ha,hc⟩:=h
  rw [ints_length] at *
  unfold maxLen at hmax
  refine givesV_of_tr Tryd.func35 rfl rfl ?_
  (refine s_r ?_;refine a_s rfl rfl ?_;refine n_t ?_;refine tr_seq ?_;refine s_r ?_;refine m_v rfl rfl ?_;refine tr_val (rk_len_slice (.of rfl)) rfl ?_;refine m_v rfl rfl ?_;refine n_t ?_;refine tr_block ?_)
  refine tr_for (fun k:Nat=>k ≤ es.length ∧ firstF es = firstF (es.drop k)) (fun k=>[(7,.int .i64 k),(6,.int .i64 es.length),(5,.slice a es.length cap)]) (fun _=>[]) (fun k=>es.length - k) ?_ ?_
  · apply tr_start 0 ⟨Nat.zero_le _,rfl⟩
    case hs1=>exact .cons rfl (.cons rfl (.cons rfl .nil))
    case ht=>(try simp only [List.take_zero,List.map_nil,List.nil_append]);exact .nil
  intro k ⟨hk,hf⟩
  by_cases hlt:k < es.length
  · have ha':=ha (ints_ne hlt)
    have hcell:=rd1 hc (ints_get hlt)
    have hs:=firstF_at hlt
    (refine s_r ?_;refine tr_val (rk_lss (.of rfl) (.of rfl)) rfl ?_;refine n_t ?_;refine tr_seq ?_;refine c_d rfl (fun hcd=>?_) (fun _=>by omega);refine s_t ?_;refine tr_seq ?_;refine tr_block ?_;refine s_r ?_;refine tr_val (rk_indexAddr (.of rfl) (.of rfl) ha' (by omega) hcd norm1_) rfl ?_;refine tr_val (rk_load1 (.of rfl) (At.base hcell rfl)) rfl ?_;refine a_s rfl rfl ?_;refine n_r ?_;refine m_v rfl rfl ?_;refine tr_val (rk_neq (.of rfl) (.of rfl)) rfl ?_;refine n_t ?_;refine c_d rfl (fun hcd=>?_) (fun hcd=>?_);refine s_r ?_;refine m_v rfl rfl ?_;refine a_s rfl rfl ?_;refine n_t ?_;refine tr_ret ?_;refine tr_blk_ret ?_;refine tr_then_ret ?_;refine tr_then_ret ?_;refine tr_blk_ret ?_;refine tr_then_ret ?_;refine tr_retE rfl (ends1 rfl rfl) ?_;rotate_left;refine tr_skip ?_;refine tr_blk_normal ?_;refine tr_then ?_;refine tr_region ?_;refine tr_val (rk_add (.of rfl) (.of rfl) (ini (by omega))) rfl ?_;refine m_v rfl rfl ?_;refine n_t ?_;rotate_right)
    · rw [hf,hs,if_pos hcd]
    · apply tr_next (k + 1) ⟨by omega,by rw [hf,hs,if_neg hcd]⟩ (by omega)
      case hs1=>exact .cons rfl (.cons rfl (.cons rfl .nil))
      case ht=>(try simp only [List.take_zero,List.map_nil,List.nil_append]);exact .nil
  · (refine s_r ?_;refine tr_val (rk_lss (.of rfl) (.of rfl)) rfl ?_;refine n_t ?_;refine tr_seq ?_;refine c_d rfl (fun _=>by omega) (fun hcd=>?_);refine x_t ?_;refine tr_then_exit ?_;refine tr_blk_exit ?_;refine tr_then ?_;refine s_r ?_;refine a_s rfl rfl ?_;refine n_t ?_;refine tr_ret ?_;refine tr_retE rfl (ends1 rfl rfl) ?_)
    rw [hf,List.drop_of_length_le (by omega)];rfl
theorem first_pB {v:Value} {cs:List Value} {es:List Int} {w:World} (h:Rd w v 1 (cs.map fun v=>[v])) (hl:IntL cs es):GivesV Tryd.prog 35 [v] w (.int .i64 (firstF es)):=
  first_c v es w (by rw [← hl.eq];exact h)
theorem bt_eq {s:ByteArray} {p:Nat} (h:p < s.size):bt s p = ((s[p]'h).toNat:Nat):=by
  unfold bt
  have:s.data.toList[p]? = some (s[p]'h):=by
    rw [Array.getElem?_toList]
    exact getElem?_pos s.data p h
  rw [this];rfl
theorem decode_bt {s:ByteArray} {p:Nat} (h:p < s.size):(bt s p < 128 ∧ ((Utf8.decode s p).1:Int) = bt s p ∧ (Utf8.decode s p).2 = 1) ∨ (128 ≤ bt s p ∧ (128:Int) ≤ (Utf8.decode s p).1 ∧ 1 ≤ (Utf8.decode s p).2):=by
  rw [bt_eq h]
  by_cases ha:(s[p]'h).toNat < 128
  · have:=decode_ascii s p h ha
    left;rw [this];exact ⟨by omega,rfl,rfl⟩
  · have:=decode_high s p h (by omega)
    right;omega
theorem ne_empty {s:ByteArray}:s.size = 0 ↔ s = ⟨#[]⟩:=by
  constructor
  · intro h
    have:s.data = #[]:=Array.eq_empty_of_size_eq_zero h
    cases s;simp_all
  · rintro rfl;rfl
end Go.Proofs.A1
namespace Go.Proofs.A1
structure CdOk (rp:List Int):Prop where
  ne:0 < rp.length
  few:rp.length ≤ 8
  rep:∀ x ∈ rp,1 ≤ x ∧ x ≤ 4
end Go.Proofs.A1
namespace Go.Proofs.A1
end Go.Proofs.A1
namespace Go.Proofs.A1
open Go Go.SL
structure Rt where
  fr:Int
  dr:Bool
structure Lb where
  h:Int
  m:Int
  s:Int
  f:Int
structure Stm where
  ra:Rt
  la:Lb
  us:Int
def rateF (r:Rt):Int:=firstF [whenF (decide (r.fr ≠ 24) && (decide (r.fr ≠ 25) && decide (r.fr ≠ 30))) 13,whenF (r.dr && decide (r.fr ≠ 30)) 24]
structure RtOk (r:Rt):Prop where
  fr:r.fr = 24 ∨ r.fr = 25 ∨ r.fr = 30
  dr:r.dr = true → r.fr = 30
theorem rateF_zero {r:Rt}:rateF r = 0 ↔ RtOk r:=by
  unfold rateF
  rw [firstF_zero]
  simp only [List.mem_cons,List.not_mem_nil,or_false,forall_eq_or_imp,forall_eq]
  rw [whenF_zero (by decide),whenF_zero (by decide)]
  constructor
  · intro h
    refine ⟨?_,fun hd=>?_⟩
    · have:=h.1
      simp only [Bool.and_eq_false_iff,decide_eq_false_iff_not] at this
      omega
    · have:=h.2
      rw [hd,Bool.true_and,decide_eq_false_iff_not] at this
      omega
  · intro h
    constructor
    · simp only [Bool.and_eq_false_iff,decide_eq_false_iff_not]
      have:=h.fr
      omega
    · cases hd:r.dr with
      | false=>rfl
      | true=>rw [Bool.true_and,decide_eq_false_iff_not];have:=h.dr hd;omega
def drpB (r:Rt) (l:Lb):Bool:=r.dr && (decide (l.m % 10 ≠ 0) && (decide (l.s = 0) && decide (l.f < 2)))
def lblE (r:Rt) (l:Lb):Int:=firstF [rateF r,withinF l.h 0 23,withinF l.m 0 59,withinF l.s 0 59,withinF l.f 0 (r.fr - 1),whenF (drpB r l) 7]
structure LbOk (r:Rt) (l:Lb):Prop where
  ra:RtOk r
  h:0 ≤ l.h ∧ l.h ≤ 23
  m:0 ≤ l.m ∧ l.m ≤ 59
  s:0 ≤ l.s ∧ l.s ≤ 59
  f:0 ≤ l.f ∧ l.f ≤ r.fr - 1
  d:r.dr = true → l.m % 10 ≠ 0 → l.s = 0 → 2 ≤ l.f
theorem lblE_zero {r:Rt} {l:Lb}:lblE r l = 0 ↔ LbOk r l:=by
  unfold lblE
  rw [firstF_zero]
  simp only [List.mem_cons,List.not_mem_nil,or_false,forall_eq_or_imp,forall_eq,withinF_zero,rateF_zero]
  rw [whenF_zero (by decide)]
  unfold drpB
  constructor
  · intro ⟨h1,h2,h3,h4,h5,h6⟩
    refine ⟨h1,h2,h3,h4,h5,fun hd a b=>?_⟩
    rw [hd,Bool.true_and] at h6
    simp only [Bool.and_eq_false_iff,decide_eq_false_iff_not] at h6
    omega
  · intro h
    refine ⟨h.ra,h.h,h.m,h.s,h.f,?_⟩
    cases hd:r.dr with
    | false=>rfl
    | true =>
      have:=h.d hd
      rw [Bool.true_and]
      simp only [Bool.and_eq_false_iff,decide_eq_false_iff_not]
      omega
def dayF (r:Rt):Int:=24 * 60 * 60 * r.fr - if r.dr then 2592 else 0
def frmF (r:Rt) (l:Lb):Int:=(60 * (60 * l.h + l.m) + l.s) * r.fr + l.f - if r.dr then 2 * ((60 * l.h + l.m) - (60 * l.h + l.m) / 10) else 0
def lbN (r:Rt) (n:Int):Int:=if r.dr then n + 18 * (n / 17982) + (if 1800 ≤ n % 17982 then 2 * (1 + (n % 17982 - 1800) / 1798) else 0) else n
def lblF (r:Rt) (n:Int):Lb:=⟨lbN r n / r.fr / 3600,lbN r n / r.fr / 60 % 60,lbN r n / r.fr % 60,lbN r n % r.fr⟩
theorem lb_ext {a b:Lb} (h1:a.h = b.h) (h2:a.m = b.m) (h3:a.s = b.s) (h4:a.f = b.f):a = b:=by
  cases a;cases b;dsimp only at h1 h2 h3 h4;subst h1 h2 h3 h4;rfl
theorem lb_plain {fr h m s f:Int} (hf:fr = 24 ∨ fr = 25 ∨ fr = 30) (hm:0 ≤ m ∧ m ≤ 59) (hs:0 ≤ s ∧ s ≤ 59) (h4:0 ≤ f ∧ f ≤ fr - 1) {n:Int} (hn:n = (60 * (60 * h + m) + s) * fr + f) :
    n / fr / 3600 = h ∧ n / fr / 60 % 60 = m ∧ n / fr % 60 = s ∧ n % fr = f:=by
  have hq:n / fr = 3600 * h + 60 * m + s:=by
    rcases hf with rfl | rfl | rfl <;> omega
  have hr:n % fr = f:=by
    rcases hf with rfl | rfl | rfl <;> omega
  rw [hq,hr]
  omega
theorem frm_lbl {r:Rt} {l:Lb} (h:LbOk r l):0 ≤ frmF r l ∧ frmF r l < dayF r ∧ lblF r (frmF r l) = l:=by
  have h1:=h.h
  have h2:=h.m
  have h3:=h.s
  have h4:=h.f
  have hfr:=h.ra.fr
  cases hd:r.dr with
  | false =>
    have e1:frmF r l = (60 * (60 * l.h + l.m) + l.s) * r.fr + l.f:=by unfold frmF;rw [hd];simp
    have e2:dayF r = 86400 * r.fr:=by unfold dayF;rw [hd];simp
    have e3:lbN r (frmF r l) = frmF r l:=by unfold lbN;rw [hd];simp
    have hp:=lb_plain hfr h2 h3 h4 e1
    refine ⟨?_,?_,?_⟩
    · rw [e1];rcases hfr with e | e | e <;> rw [e] <;> omega
    · rw [e1,e2];rcases hfr with e | e | e <;> rw [e] at h4 ⊢ <;> omega
    · unfold lblF
      rw [e3]
      exact lb_ext hp.1 hp.2.1 hp.2.2.1 hp.2.2.2
  | true =>
    have hf:=h.ra.dr hd
    have h5:=h.d hd
    rw [hf] at h4
    have e1:frmF r l = (60 * (60 * l.h + l.m) + l.s) * 30 + l.f - 2 * ((60 * l.h + l.m) - (60 * l.h + l.m) / 10):=by unfold frmF;rw [hd,hf];simp
    have e2:dayF r = 2589408:=by unfold dayF;rw [hd,hf];decide
    obtain ⟨t,u,hu,htu⟩:∃ t u:Int,(0 ≤ u ∧ u ≤ 9) ∧ 60 * l.h + l.m = 10 * t + u:=⟨(60 * l.h + l.m) / 10,(60 * l.h + l.m) % 10,by omega,by omega⟩
    have hu2:u = l.m % 10:=by omega
    have hrest:frmF r l = 17982 * t + (1798 * u + 30 * l.s + l.f):=by
      rw [e1,htu];omega
    have h6:u ≠ 0 → 2 ≤ 30 * l.s + l.f:=fun hne=>by
      by_cases e:l.s = 0
      · have:=h5 (by omega) e;omega
      · omega
    have hq:frmF r l / 17982 = t:=by
      rw [hrest];omega
    have hr:frmF r l % 17982 = 1798 * u + 30 * l.s + l.f:=by
      rw [hrest];omega
    have e3:lbN r (frmF r l) = (60 * (60 * l.h + l.m) + l.s) * 30 + l.f:=by
      unfold lbN
      rw [hd,if_pos rfl,hq,hr]
      by_cases e:u = 0
      · rw [if_neg (by omega),hrest];omega
      · have:=h6 e
        rw [if_pos (by omega),show (1798 * u + 30 * l.s + l.f - 1800) / 1798 = u - 1 by omega,hrest]
        omega
    have hp:=lb_plain (fr:=30) (.inr (.inr rfl)) h2 h3 h4 e3
    refine ⟨by rw [hrest];omega,by rw [hrest,e2];omega,?_⟩
    unfold lblF
    rw [hf]
    exact lb_ext hp.1 hp.2.1 hp.2.2.1 hp.2.2.2
theorem lbl_frm {r:Rt} {n:Int} (hr:RtOk r) (hn:0 ≤ n ∧ n < dayF r):LbOk r (lblF r n) ∧ frmF r (lblF r n) = n:=by
  have hfr:=hr.fr
  cases hd:r.dr with
  | false =>
    have e2:dayF r = 86400 * r.fr:=by unfold dayF;rw [hd];simp
    have e3:lbN r n = n:=by unfold lbN;rw [hd];simp
    have e4:lblF r n = ⟨n / r.fr / 3600,n / r.fr / 60 % 60,n / r.fr % 60,n % r.fr⟩:=by unfold lblF;rw [e3]
    rw [e4]
    obtain ⟨_,hn2⟩:=hn
    rw [e2] at hn2
    have hq:0 ≤ n / r.fr ∧ n / r.fr < 86400 ∧ n = r.fr * (n / r.fr) + n % r.fr ∧ 0 ≤ n % r.fr ∧ n % r.fr < r.fr:=by
      rcases hfr with e | e | e <;> rw [e] at hn2 ⊢ <;> omega
    obtain ⟨q1,q2,q3,q4,q5⟩:=hq
    refine ⟨⟨hr,?_,?_,?_,?_,fun h=>by rw [hd] at h;cases h⟩,?_⟩ <;> (try dsimp only)
    · omega
    · omega
    · omega
    · omega
    · unfold frmF
      rw [hd]
      dsimp only
      rw [show 60 * (60 * (n / r.fr / 3600) + n / r.fr / 60 % 60) + n / r.fr % 60 = n / r.fr by omega,if_neg (by decide),Int.sub_zero,Int.mul_comm]
      exact q3.symm
  | true =>
    have hf:=hr.dr hd
    have e2:dayF r = 2589408:=by unfold dayF;rw [hd,hf];decide
    rw [e2] at hn
    obtain ⟨t,q,hq,ht⟩:∃ t q:Int,(0 ≤ q ∧ q < 17982) ∧ n = 17982 * t + q:=⟨n / 17982,n % 17982,by omega,by omega⟩
    obtain ⟨u,v,hu,hv,hv2,hqv⟩:∃ u v:Int,(0 ≤ u ∧ u ≤ 9) ∧ (0 ≤ v ∧ v < 1800) ∧ (u ≠ 0 → 2 ≤ v) ∧ q = 1798 * u + v:=by
      by_cases e:q < 1800
      · exact ⟨0,q,by omega,by omega,fun h=>absurd rfl h,by omega⟩
      · exact ⟨1 + (q - 1800) / 1798,(q - 1800) % 1798 + 2,by omega,by omega,fun _=>by omega,by omega⟩
    have htq:n / 17982 = t ∧ n % 17982 = q:=by omega
    have e3:lbN r n = 18000 * t + 1800 * u + v:=by
      unfold lbN
      rw [hd,if_pos rfl,htq.1,htq.2]
      by_cases e:u = 0
      · by_cases e':1800 ≤ q
        · omega
        · rw [if_neg e'];omega
      · have:=hv2 e
        rw [if_pos (by omega),show (q - 1800) / 1798 = u - 1 by omega]
        omega
    have e4:lblF r n = ⟨(18000 * t + 1800 * u + v) / 30 / 3600,(18000 * t + 1800 * u + v) / 30 / 60 % 60,(18000 * t + 1800 * u + v) / 30 % 60,(18000 * t + 1800 * u + v) % 30⟩:=by unfold lblF;rw [e3,hf]
    rw [e4]
    have hs:(18000 * t + 1800 * u + v) / 30 = 600 * t + 60 * u + v / 30:=by omega
    have hf2:(18000 * t + 1800 * u + v) % 30 = v % 30:=by omega
    rw [hs,hf2]
    have hs60:(600 * t + 60 * u + v / 30) % 60 = v / 30:=by omega
    have hm60:(600 * t + 60 * u + v / 30) / 60 = 10 * t + u:=by omega
    have hh:(600 * t + 60 * u + v / 30) / 3600 = (10 * t + u) / 60:=by omega
    rw [hs60,hm60,hh]
    refine ⟨⟨hr,?_,?_,?_,?_,fun _ a b=>?_⟩,?_⟩ <;> (try dsimp only at *)
    · omega
    · omega
    · omega
    · rw [hf];omega
    · have:=hv2 (by omega);omega
    · unfold frmF
      rw [hd,hf]
      dsimp only
      rw [if_pos rfl,show 60 * ((10 * t + u) / 60) + (10 * t + u) % 60 = 10 * t + u by omega]
      omega
theorem day_pos {r:Rt} (h:RtOk r):2073600 ≤ dayF r ∧ dayF r ≤ 2592000:=by
  unfold dayF
  have:=h.fr
  have:=h.dr
  split
  · rename_i hd;have:=h.dr hd;omega
  · omega
def addF (r:Rt) (l:Lb) (k:Int):Lb:=lblF r ((frmF r l + k) % dayF r)
theorem mod_twice {x d:Int} (hd:0 < d):(x.tmod d + d) % d = x % d:=by
  rw [Int.add_emod_right,Int.tmod_def,Int.sub_eq_add_neg,← Int.mul_neg,Int.add_mul_emod_self_left]
theorem mod_range {x d:Int} (hd:0 < d):-d < x.tmod d ∧ x.tmod d < d:=by
  have h1:=Int.tmod_lt_of_pos x hd
  have h2:=Int.lt_tmod_of_pos x hd
  exact ⟨h2,h1⟩
theorem add_ok {r:Rt} {l:Lb} {k:Int} (h:RtOk r):LbOk r (addF r l k) ∧ frmF r (addF r l k) = (frmF r l + k) % dayF r:=by
  have hd:=day_pos h
  exact lbl_frm h ⟨Int.emod_nonneg _ (by omega),Int.emod_lt_of_pos _ (by omega)⟩
theorem add_add {r:Rt} {l:Lb} {j k:Int} (h:RtOk r):addF r (addF r l j) k = addF r l (j + k):=by
  unfold addF
  have:=(add_ok (l:=l) (k:=j) h).2
  unfold addF at this
  rw [this,Int.emod_add_emod,Int.add_assoc]
theorem add_zero {r:Rt} {l:Lb} (h:LbOk r l):addF r l 0 = l:=by
  unfold addF
  have:=frm_lbl h
  rw [Int.add_zero,Int.emod_eq_of_lt this.1 this.2.1]
  exact this.2.2
end Go.Proofs.A1
namespace Go.Proofs.A1
open Go Go.SL
theorem byte_nat {n:Int} (h:0 ≤ n ∧ n ≤ 255):∃ k:Nat,k < 256 ∧ n = (k:Int):=⟨n.toNat,by omega,by omega⟩
theorem and15N:∀ k:Nat,k < 256 → andF (k:Int) 15 = (k:Int) % 16:=by decide +kernel
theorem and15 {n:Int} (h:0 ≤ n ∧ n ≤ 255):andF n 15 = n % 16:=by obtain ⟨k,hk,rfl⟩:=byte_nat h;exact and15N k hk
theorem rateN:∀ k:Nat,k < 256 → (anotF (k:Int) 128 = (k:Int) % 128 ∧ andF (k:Int) 128 = (k:Int) / 128 * 128):=by decide +kernel
theorem rate_bits {n:Int} (h:0 ≤ n ∧ n ≤ 255):anotF n 128 = n % 128 ∧ andF n 128 = n / 128 * 128:=by obtain ⟨k,hk,rfl⟩:=byte_nat h;exact rateN k hk
theorem xorF_byte (a b:Int):0 ≤ xorF a b ∧ xorF a b ≤ 255:=by
  unfold xorF
  have:=(BitVec.ofInt 8 a ^^^ BitVec.ofInt 8 b).isLt
  omega
def parF (l:List Int):Int:=l.foldl xorF 0
theorem parF_byte (l:List Int):0 ≤ parF l ∧ parF l ≤ 255:=by
  have key:∀ (l:List Int) (a:Int),(0 ≤ a ∧ a ≤ 255) → 0 ≤ l.foldl xorF a ∧ l.foldl xorF a ≤ 255:=by
    intro l
    induction l with
    | nil=>intro a h;exact h
    | cons x r ih=>intro a _;exact ih _ (xorF_byte a x)
  exact key l 0 (by decide)
theorem parF_snoc (l:List Int) (x:Int):parF (l++[x]) = xorF (parF l) x:=by unfold parF;rw [List.foldl_append];rfl
def bcd (n:Int):Int:=n / 10 * 16 + n % 10
theorem bcd_byte {n:Int} (h:0 ≤ n ∧ n ≤ 59):0 ≤ bcd n ∧ bcd n ≤ 89 ∧ bcd n / 16 = n / 10 ∧ bcd n % 16 = n % 10:=by unfold bcd;omega
def rtB (r:Rt):Int:=r.fr + if r.dr then 128 else 0
def w7 (s:Stm):List Int:=[bcd s.la.f,bcd s.la.s,bcd s.la.m,bcd s.la.h,rtB s.ra,s.us / 256,s.us % 256]
def wordF (s:Stm):List Int:=w7 s++[parF (w7 s),63,253]
def stmE (s:Stm):Int:=firstF [lblE s.ra s.la,withinF s.us 0 65535]
structure StOk (s:Stm):Prop where
  la:LbOk s.ra s.la
  us:0 ≤ s.us ∧ s.us ≤ 65535
theorem stmE_zero {s:Stm}:stmE s = 0 ↔ StOk s:=by
  unfold stmE
  rw [firstF_zero]
  simp only [List.mem_cons,List.not_mem_nil,or_false,forall_eq_or_imp,forall_eq,withinF_zero,lblE_zero]
  exact ⟨fun h=>⟨h.1,h.2⟩,fun h=>⟨h.la,h.us⟩⟩
def wa (w:List Int) (i:Nat):Int:=w.getD i 0
def unb (b:Int):Int:=b / 16 * 10 + b % 16
def badD (b:Int):Bool:=decide (9 < b / 16) || decide (9 < b % 16)
def stmW (w:List Int):Stm:=⟨⟨wa w 4 % 128,decide (128 ≤ wa w 4)⟩,⟨unb (wa w 3),unb (wa w 2),unb (wa w 1),unb (wa w 0)⟩,wa w 5 * 256 + wa w 6⟩
def rtOkB (b:Int):Bool:=decide (b = 24) || decide (b = 25) || decide (b = 30) || decide (b = 158)
def rdE (w:List Int):Int:=
  if wa w 8 ≠ 63 ∨ wa w 9 ≠ 253 then 1
  else if parF (w.take 7) ≠ wa w 7 then 27
  else if badD (wa w 0) || badD (wa w 1) || badD (wa w 2) || badD (wa w 3) then 1
  else if rtOkB (wa w 4) then stmE (stmW w) else 1
def Stm.zero:Stm:=⟨⟨0,false⟩,⟨0,0,0,0⟩,0⟩
def rdF (w:List Int):Stm:=if rdE w = 0 then stmW w else Stm.zero
theorem rt_ok {b:Int} (h:0 ≤ b ∧ b ≤ 255):rtOkB b = true ↔ rateF ⟨b % 128,decide (128 ≤ b)⟩ = 0:=by
  rw [rateF_zero]
  unfold rtOkB
  simp only [Bool.or_eq_true,decide_eq_true_eq]
  constructor
  · intro h1
    refine ⟨?_,fun hd=>?_⟩
    · show b % 128 = 24 ∨ b % 128 = 25 ∨ b % 128 = 30
      omega
    · have:128 ≤ b:=of_decide_eq_true hd
      show b % 128 = 30
      omega
  · rintro ⟨h1,h2⟩
    have h1:b % 128 = 24 ∨ b % 128 = 25 ∨ b % 128 = 30:=h1
    by_cases hb:128 ≤ b
    · have h2:b % 128 = 30:=h2 (decide_eq_true hb)
      omega
    · omega
theorem w7_bytes {s:Stm} (h:StOk s):∀ x ∈ w7 s,0 ≤ x ∧ x ≤ 255:=by
  have l:=h.la
  have hu:=h.us
  have hf:=l.f
  have hr:=l.ra.fr
  have b1:=bcd_byte (n:=s.la.f) (by omega)
  have b2:=bcd_byte (n:=s.la.s) l.s
  have b3:=bcd_byte (n:=s.la.m) l.m
  have b4:=bcd_byte (n:=s.la.h) (by have:=l.h;omega)
  intro x hx
  unfold w7 at hx
  simp only [List.mem_cons,List.not_mem_nil,or_false] at hx
  rcases hx with rfl | rfl | rfl | rfl | rfl | rfl | rfl
  · omega
  · omega
  · omega
  · omega
  · unfold rtB;split <;> omega
  · omega
  · omega
theorem unb_bcd {n:Int} (h:0 ≤ n ∧ n ≤ 59):unb (bcd n) = n ∧ badD (bcd n) = false:=by
  obtain ⟨_,_,h1,h2⟩:=bcd_byte h
  unfold unb badD
  rw [h1,h2]
  refine ⟨by omega,?_⟩
  rw [decide_eq_false (by omega),decide_eq_false (by omega)];rfl
theorem read_word {s:Stm} (h:StOk s):rdE (wordF s) = 0 ∧ rdF (wordF s) = s:=by
  have l:=h.la
  have hu:=h.us
  have hf:=l.f
  have hr:=l.ra.fr
  have b1:=unb_bcd (n:=s.la.f) (by omega)
  have b2:=unb_bcd (n:=s.la.s) l.s
  have b3:=unb_bcd (n:=s.la.m) l.m
  have b4:=unb_bcd (n:=s.la.h) (by have:=l.h;omega)
  have hrt:rtB s.ra % 128 = s.ra.fr ∧ decide (128 ≤ rtB s.ra) = s.ra.dr ∧ 0 ≤ rtB s.ra ∧ rtB s.ra ≤ 255:=by
    unfold rtB
    cases hd:s.ra.dr
    · refine ⟨by simp;omega,decide_eq_false (by simp;omega),by simp;omega,by simp;omega⟩
    · refine ⟨by simp;omega,decide_eq_true (by simp;omega),by simp;omega,by simp;omega⟩
  have hs:stmW (wordF s) = s:=by
    show Stm.mk ⟨rtB s.ra % 128,decide (128 ≤ rtB s.ra)⟩ ⟨unb (bcd s.la.h),unb (bcd s.la.m),unb (bcd s.la.s),unb (bcd s.la.f)⟩ (s.us / 256 * 256 + s.us % 256) = s
    rw [b1.1,b2.1,b3.1,b4.1,hrt.1,hrt.2.1,show s.us / 256 * 256 + s.us % 256 = s.us by omega]
  have he:rdE (wordF s) = 0:=by
    unfold rdE
    have h8:¬ (wa (wordF s) 8 ≠ 63 ∨ wa (wordF s) 9 ≠ 253):=by rintro (e | e) <;> exact e rfl
    have hp:parF (List.take 7 (wordF s)) = wa (wordF s) 7:=rfl
    have hbd:(badD (wa (wordF s) 0) || badD (wa (wordF s) 1) || badD (wa (wordF s) 2) || badD (wa (wordF s) 3)) = false:=by
      show (badD (bcd s.la.f) || badD (bcd s.la.s) || badD (bcd s.la.m) || badD (bcd s.la.h)) = false
      rw [b1.2,b2.2,b3.2,b4.2];rfl
    rw [if_neg h8,if_neg (fun e=>e hp),if_neg (by rw [hbd];decide)]
    have hk:rtOkB (wa (wordF s) 4) = true:=(rt_ok (b:=rtB s.ra) hrt.2.2).2 (by rw [hrt.1,hrt.2.1];exact rateF_zero.2 l.ra)
    rw [if_pos hk,hs]
    exact stmE_zero.2 h
  exact ⟨he,by rw [rdF,if_pos he,hs]⟩
end Go.Proofs.A1
namespace Go.Proofs.A1
open Go Go.SL
structure Cp where
  fr:Int
  to:Int
  rw:Int
  co:Int
  tx:ByteArray
def Cp.zero:Cp:=⟨0,0,0,0,⟨#[]⟩⟩
structure CpOk (c:Cp):Prop where
  sp:0 ≤ c.fr ∧ c.fr < c.to ∧ c.to ≤ 10000000
  rw:0 ≤ c.rw ∧ c.rw ≤ 7
  co:0 ≤ c.co ∧ c.co ≤ 31
  ne:0 < c.tx.size
  fit:c.co + (c.tx.size:Int) ≤ 32
  by_:∀ i,i < c.tx.size → 32 ≤ bt c.tx i ∧ bt c.tx i ≤ 126
def cflQ (a b:Cp):Bool:=decide (a.rw = b.rw) && (decide (a.fr < b.to) && (decide (b.fr < a.to) && (decide (a.co < b.co + (b.tx.size:Int)) && decide (b.co < a.co + (a.tx.size:Int)))))
def nthC (l:List Cp) (k:Nat):Cp:=l.getD k Cp.zero
structure CapOk (l:List Cp):Prop where
  few:l.length ≤ 32
  ok:∀ k,k < l.length → CpOk (nthC l k)
  no:∀ k,k < l.length → ∀ j,j < k → cflQ (nthC l k) (nthC l j) = false
def onC (x:Cp) (n:Int) (r:Int):Bool:=decide (x.rw = r) && (decide (x.fr ≤ n) && decide (n < x.to))
def cov (x:Cp) (n:Int) (r:Int) (k:Nat):Bool:=onC x n r && (decide (x.co ≤ (k:Int)) && decide ((k:Int) < x.co + (x.tx.size:Int)))
def shS (n:Int) (r:Int) (k:Nat) (b:Int) (x:Cp):Int:=if cov x n r k then bt x.tx ((k:Int) - x.co).toNat else b
def shB (l:List Cp) (n r:Int) (k:Nat):Int:=l.foldl (shS n r k) 32
def rowB (l:List Cp) (n r:Int):List Int:=(List.range 32).map (shB l n r)
def endB (l:List Cp) (n:Int):Bool:=l.any fun x=>decide (x.fr = n) || decide (x.to = n)
def strB (l:List Int):ByteArray:=⟨(l.map fun n=>UInt8.ofNat n.toNat).toArray⟩
def scrL (l:List Cp) (n:Int):List ByteArray:=(List.range 8).map fun r=>strB (rowB l n (r:Nat))
def chB (l:List Cp) (n:Int):Bool:=decide (scrL l n ≠ scrL l (n - 1))
end Go.Proofs.A1
namespace Go.Proofs.A1
open Go Go.SL
end Go.Proofs.A1
namespace Go.Proofs.A1
open Go Go.SL
end Go.Proofs.A1
namespace Go.Proofs.A1
open Go Go.SL
def atD (l:List UInt8) (i:Nat):UInt8:=l.getD i 0
def d2 (l:List UInt8) (i:Nat):Int:=10 * (((atD l i).toNat:Int) - 48) + (((atD l (i + 1)).toNat:Int) - 48)
structure Tk where
  h:Int
  m:Int
  s:Int
  f:Int
  c:UInt8
  rest:List UInt8
  bad:Bool
end Go.Proofs.A1
namespace Go.Proofs.A1
open Go Go.SL
theorem rdE_sync {w:List Int} (h:wa w 8 ≠ 63 ∨ wa w 9 ≠ 253):rdE w ≠ 0:=by unfold rdE;rw [if_pos h];decide
def win (s:List Int) (i:Nat):List Int:=(s.drop i).take 10
theorem wa_win {s:List Int} {i j:Nat} (h:j < 10):wa (win s i) j = wa s (i + j):=by
  unfold wa win
  rw [List.getD_eq_getElem?_getD,List.getD_eq_getElem?_getD,List.getElem?_take_of_lt h,List.getElem?_drop]
def hitF (s:List Int):Nat → Nat → List (Stm × Nat)
  | 0,_=>[]
  | n + 1,i=>if i + 10 ≤ s.length then (if rdE (win s i) = 0 then (rdF (win s i),i) :: hitF s n (i + 10) else hitF s n (i + 1)) else []
theorem hitF_fuel (s:List Int):∀ n i m,s.length - i ≤ n → s.length - i ≤ m → hitF s n i = hitF s m i
  | 0, i, m, h, _ => by
    cases m with
    | zero=>rfl
    | succ m=>rw [hitF,hitF,if_neg (by omega)]
  | n + 1,i,0,_,h=>by rw [hitF,hitF,if_neg (by omega)]
  | n + 1, i, m + 1, h1, h2 => by
    rw [hitF,hitF]
    split
    · split
      · rw [hitF_fuel s n (i + 10) m (by omega) (by omega)]
      · rw [hitF_fuel s n (i + 1) m (by omega) (by omega)]
    · rfl
def hitL (s:List Int) (i:Nat):List (Stm × Nat):=hitF s (s.length - i) i
theorem hit_hit {s:List Int} {i:Nat} (h:i + 10 ≤ s.length) (h0:rdE (win s i) = 0):hitL s i = (rdF (win s i),i) :: hitL s (i + 10):=by
  unfold hitL
  obtain ⟨n,hn⟩:∃ n,s.length - i = n + 1:=⟨s.length - i - 1,by omega⟩
  rw [hn,hitF,if_pos h,if_pos h0,hitF_fuel s n (i + 10) (s.length - (i + 10)) (by omega) (by omega)]
theorem hit_miss {s:List Int} {i:Nat} (h:i + 10 ≤ s.length) (h0:rdE (win s i) ≠ 0):hitL s i = hitL s (i + 1):=by
  unfold hitL
  obtain ⟨n,hn⟩:∃ n,s.length - i = n + 1:=⟨s.length - i - 1,by omega⟩
  rw [hn,hitF,if_pos h,if_neg h0,hitF_fuel s n (i + 1) (s.length - (i + 1)) (by omega) (by omega)]
theorem hit_end {s:List Int} {i:Nat} (h:s.length < i + 10):hitL s i = []:=by
  unfold hitL
  cases hn:s.length - i with
  | zero=>rfl
  | succ n=>rw [hitF,if_neg (by omega)]
theorem word_len (x:Stm):(wordF x).length = 10:=rfl
theorem word_end (x:Stm):wa (wordF x) 8 = 63 ∧ wa (wordF x) 9 = 253:=⟨rfl,rfl⟩
end Go.Proofs.A1
namespace Go.Proofs.A1
open Go Go.SL
end Go.Proofs.A1
namespace Go.Proofs.A1
open Go Go.SL
end Go.Proofs.A1
namespace Go.Proofs.A1
open Go Go.SL
end Go.Proofs.A1
namespace Go.SL
open Go
section
variable {P:Program} {r:Option Nat} {c:Cx} {D:List Nat} {sl:Slots} {hs hs':List Asn} {ops:Array Oper} {Q:Exit → Act → World → Prop} {rest:List Oper} {d:Nat} {ty:TypeId} {pos:String} {af:Array Edge}
end
end Go.SL
namespace Go.Proofs.A1
open Go Go.SL
abbrev Rt.cells (r:Rt):List Value:=[.int .i64 r.fr,.bool r.dr]
abbrev Lb.cells (l:Lb):List Value:=[.int .i64 l.h,.int .i64 l.m,.int .i64 l.s,.int .i64 l.f]
abbrev Stm.cells (s:Stm):List Value:=[.int .i64 s.ra.fr,.bool s.ra.dr,.int .i64 s.la.h,.int .i64 s.la.m,.int .i64 s.la.s,.int .i64 s.la.f,.int .i64 s.us]
abbrev hitC (x:Stm × Nat):List Value:=[.int .i64 x.1.ra.fr,.bool x.1.ra.dr,.int .i64 x.1.la.h,.int .i64 x.1.la.m,.int .i64 x.1.la.s,.int .i64 x.1.la.f,.int .i64 x.1.us,.int .i64 (x.2:Nat)]
abbrev Cp.cells (x:Cp):List Value:=[.int .i64 x.fr,.int .i64 x.to,.int .i64 x.rw,.int .i64 x.co,.string x.tx]
abbrev natC (n:Nat):List Value:=[.int .i64 (n:Nat)]
abbrev byC (n:Int):List Value:=[.int .u8 n]
abbrev inC (n:Int):List Value:=[.int .i64 n]
def stms (l:List Stm):List (List Value):=l.map Stm.cells
def stmsV (l:List Stm):List Value:=l.flatMap Stm.cells
theorem stms_length (l:List Stm):(stms l).length = l.length:=by simp [stms]
theorem stms_flat (l:List Stm):stmsV l = (stms l).flatten:=by unfold stmsV stms;rw [List.flatMap_def]
theorem stms_sz (l:List Stm):∀ r ∈ stms l,r.length = 7:=fun r hr=>by obtain ⟨x,_,rfl⟩:=List.mem_map.1 hr;rfl
theorem stmsV_len (l:List Stm):(stmsV l).length = l.length * 7:=by rw [stms_flat,flat_len (stms_sz l),stms_length]
theorem stmsV_app (a b:List Stm):stmsV (a++b) = stmsV a++stmsV b:=by unfold stmsV;rw [List.flatMap_append]
def hts (l:List (Stm × Nat)):List (List Value):=l.map hitC
def htsV (l:List (Stm × Nat)):List Value:=l.flatMap hitC
theorem hts_length (l:List (Stm × Nat)):(hts l).length = l.length:=by simp [hts]
theorem hts_get {l:List (Stm × Nat)} {k:Nat} (h:k < l.length):(hts l)[k]? = some ((hitC) l[k]):=by simp [hts,h]
theorem hts_ne {l:List (Stm × Nat)} {k:Nat} (h:k < l.length):hts l ≠ []:=by intro e;have:=congrArg List.length e;rw [hts_length] at this;simp at this;subst this;simp at h
theorem hts_flat (l:List (Stm × Nat)):htsV l = (hts l).flatten:=by unfold htsV hts;rw [List.flatMap_def]
theorem hts_sz (l:List (Stm × Nat)):∀ r ∈ hts l,r.length = 8:=fun r hr=>by obtain ⟨x,_,rfl⟩:=List.mem_map.1 hr;rfl
theorem htsV_len (l:List (Stm × Nat)):(htsV l).length = l.length * 8:=by rw [hts_flat,flat_len (hts_sz l),hts_length]
theorem htsV_app (a b:List (Stm × Nat)):htsV (a++b) = htsV a++htsV b:=by unfold htsV;rw [List.flatMap_append]
theorem htsV_take {l:List (Stm × Nat)} {k:Nat} (h:k < l.length):htsV (l.take (k + 1)) = htsV (l.take k)++(hitC) l[k]:=by rw [List.take_succ_eq_append_getElem h,htsV_app];unfold htsV;simp
theorem hts_rd {c:Cx} {hs hs':List Asn} {w:World} {l:List (Stm × Nat)} {E:TypeId} {v:Value} {n:Nat} (hm:Mem c hs w) (ht:Take hs (row E 8 v n (htsV l)) hs') (hn:l.length = n):Rd w v 8 (hts l):=hm.rdRow ht (hts_flat l) (hts_sz l) (by rw [hts_length,hn])
def nats (l:List Nat):List (List Value):=l.map natC
def natsV (l:List Nat):List Value:=l.flatMap natC
theorem nats_length (l:List Nat):(nats l).length = l.length:=by simp [nats]
theorem nats_flat (l:List Nat):natsV l = (nats l).flatten:=by unfold natsV nats;rw [List.flatMap_def]
theorem nats_sz (l:List Nat):∀ r ∈ nats l,r.length = 1:=fun r hr=>by obtain ⟨x,_,rfl⟩:=List.mem_map.1 hr;rfl
theorem natsV_len (l:List Nat):(natsV l).length = l.length * 1:=by rw [nats_flat,flat_len (nats_sz l),nats_length]
theorem natsV_app (a b:List Nat):natsV (a++b) = natsV a++natsV b:=by unfold natsV;rw [List.flatMap_append]
def byts (l:List Int):List (List Value):=l.map byC
def bytsV (l:List Int):List Value:=l.flatMap byC
theorem byts_length (l:List Int):(byts l).length = l.length:=by simp [byts]
theorem byts_get {l:List Int} {k:Nat} (h:k < l.length):(byts l)[k]? = some ((byC) l[k]):=by simp [byts,h]
theorem byts_ne {l:List Int} {k:Nat} (h:k < l.length):byts l ≠ []:=by intro e;have:=congrArg List.length e;rw [byts_length] at this;simp at this;subst this;simp at h
theorem byts_flat (l:List Int):bytsV l = (byts l).flatten:=by unfold bytsV byts;rw [List.flatMap_def]
theorem byts_sz (l:List Int):∀ r ∈ byts l,r.length = 1:=fun r hr=>by obtain ⟨x,_,rfl⟩:=List.mem_map.1 hr;rfl
theorem byts_one (l:List Int):∀ r ∈ byts l,∀ u ∈ r,u.oneCell' = true:=fun r hr=>by obtain ⟨x,_,rfl⟩:=List.mem_map.1 hr;exact okc_cons rfl okc_nil
theorem byts_rd {c:Cx} {hs hs':List Asn} {w:World} {l:List Int} {E:TypeId} {v:Value} {n:Nat} (hm:Mem c hs w) (ht:Take hs (row E 1 v n (bytsV l)) hs') (hn:l.length = n):Rd w v 1 (byts l):=hm.rdRow ht (byts_flat l) (byts_sz l) (by rw [byts_length,hn])
def intg (l:List Int):List (List Value):=l.map inC
theorem intg_get {l:List Int} {k:Nat} (h:k < l.length):(intg l)[k]? = some ((inC) l[k]):=by simp [intg,h]
end Go.Proofs.A1
namespace Go.Proofs.A1
open Go Go.SL
def idxG {α:Type} (p:α → Bool) (l:List α):Int:=((List.range l.length).find? fun i=>(l[i]?.map p).getD false).elim (-1) (fun i=>(i:Int))
theorem idxG_at {α:Type} {p:α → Bool} {l:List α} {k:Nat} (h:∀ i,i < k → (l[i]?.map p).getD false = false) (hk:k < l.length) (hp:p l[k] = true):idxG p l = k:=by
  unfold idxG
  have:(List.range l.length).find? (fun i=>(l[i]?.map p).getD false) = some k:=by
    rw [List.find?_range_eq_some]
    exact ⟨by simp [hk,hp],by simpa using hk,fun i hi=>by simpa using h i hi⟩
  rw [this];rfl
theorem idxG_none {α:Type} {p:α → Bool} {l:List α} (h:∀ i,i < l.length → (l[i]?.map p).getD false = false):idxG p l = -1:=by
  unfold idxG
  have:(List.range l.length).find? (fun i=>(l[i]?.map p).getD false) = none:=by
    rw [List.find?_eq_none]
    intro i hi
    simp [h i (List.mem_range.1 hi)]
  rw [this];rfl
theorem idxG_any {α:Type} (p:α → Bool) (l:List α):decide (0 ≤ idxG p l) = l.any p:=by
  unfold idxG
  cases h:(List.range l.length).find? fun i=>(l[i]?.map p).getD false with
  | none =>
    have:l.any p = false:=by
      rw [List.any_eq_false]
      intro x hx
      obtain ⟨i,hi,rfl⟩:=List.getElem_of_mem hx
      have:=List.find?_eq_none.1 h i (List.mem_range.2 hi)
      simpa [hi] using this
    rw [this];rfl
  | some i =>
    have h1:=List.mem_range.1 (List.mem_of_find?_eq_some h)
    have h2:=List.find?_some h
    have:l.any p = true:=by
      rw [List.any_eq_true]
      exact ⟨l[i],List.getElem_mem h1,by simpa [h1] using h2⟩
    rw [this];simp
theorem index_c {lv:Value} {l:List Int} (x:Int) {w:World} (h:Rd w lv 1 (ints l)) :
    GivesV Tryd.prog 104 [lv,.int .i64 x] w (.int .i64 (idxG (fun y=>decide (x = y)) l)):=by
  obtain ⟨a,cp,b,o,rfl,hcap,hmax,ha,hc⟩:=h
  rw [ints_length] at *
  unfold maxLen at hmax
  refine givesV_of_tr Tryd.func104 rfl rfl ?_
  (refine s_r ?_;refine a_s rfl rfl ?_;refine n_t ?_;refine tr_seq ?_;refine s_r ?_;refine m_v rfl rfl ?_;refine tr_val (rk_len_slice (.of rfl)) rfl ?_;refine m_v rfl rfl ?_;refine n_t ?_;refine tr_block ?_)
  refine tr_for (fun k:Nat=>k ≤ l.length ∧ ∀ i,i < k → (l[i]?.map fun y=>decide (x = y)).getD false = false) (fun k=>[(8,.int .i64 k),(7,.int .i64 l.length),(0,.slice a l.length cp),(1,.int .i64 x)]) (fun _=>[]) (fun k=>l.length - k) ?_ ?_
  · apply tr_start 0 ⟨Nat.zero_le _,fun i h=>by omega⟩
    case hs1=>exact .cons rfl (.cons rfl (.cons rfl (.cons rfl .nil)))
    case ht=>(try simp only [List.take_zero,List.map_nil,List.nil_append]);exact .nil
  rintro k ⟨hk,hf⟩
  by_cases hlt:k < l.length
  · have ha':=ha (ints_ne hlt)
    have c0:w.cell? ⟨b,o + k * 1,none⟩ = some (.int .i64 l[k]):=(hc k _ (ints_get hlt)).2 0 _ rfl
    have hps:(l[k]?.map fun y=>decide (x = y)).getD false = decide (x = l[k]):=by simp [hlt]
    (refine s_r ?_;refine tr_val (rk_lss (.of rfl) (.of rfl)) rfl ?_;refine n_t ?_;refine tr_seq ?_;refine c_d rfl (fun hcd=>?_) (fun _=>by omega);refine s_t ?_;refine tr_seq ?_;refine tr_block ?_;refine s_r ?_;refine m_v rfl rfl ?_;refine a_s rfl rfl ?_;refine n_r ?_;refine m_v rfl rfl ?_;refine m_v rfl rfl ?_;refine m_v rfl rfl ?_;refine tr_val (rk_indexAddr (.of rfl) (.of rfl) ha' (by omega) hcd norm1_) rfl ?_;refine tr_val (rk_load1 (.of rfl) (At.base c0 rfl)) rfl ?_;refine tr_val (rk_eql (.of rfl) (.of rfl)) rfl ?_;refine n_t ?_;refine c_d rfl (fun hcd=>?_) (fun hcd=>?_);refine s_r ?_;refine m_v rfl rfl ?_;refine a_s rfl rfl ?_;refine n_t ?_;refine tr_ret ?_;refine tr_blk_ret ?_;refine tr_then_ret ?_;refine tr_then_ret ?_;refine tr_blk_ret ?_;refine tr_then_ret ?_;refine tr_retE rfl (ends1 rfl rfl) ?_;rotate_left;refine tr_skip ?_;refine tr_blk_normal ?_;refine tr_then ?_;refine tr_region ?_;refine tr_val (rk_add (.of rfl) (.of rfl) (ini (by omega))) rfl ?_;refine m_v rfl rfl ?_;refine n_t ?_;rotate_right)
    · rw [idxG_at hf hlt (by simpa using hcd)]
    · apply tr_next (k + 1) ⟨by omega,fun i hi=>by
        by_cases e:i = k
        · rw [e,hps];simpa using hcd
        · exact hf i (by omega)⟩ (by omega)
      case hs1=>exact .cons rfl (.cons rfl (.cons rfl (.cons rfl .nil)))
      case ht=>(try simp only [List.take_zero,List.map_nil,List.nil_append]);exact .nil
  · obtain rfl:k = l.length:=by omega
    (refine s_r ?_;refine tr_val (rk_lss (.of rfl) (.of rfl)) rfl ?_;refine n_t ?_;refine tr_seq ?_;refine c_d rfl (fun _=>by omega) (fun hcd=>?_);refine x_t ?_;refine tr_then_exit ?_;refine tr_blk_exit ?_;refine tr_then ?_;refine s_r ?_;refine a_s rfl rfl ?_;refine n_t ?_;refine tr_ret ?_;refine tr_retE rfl (ends1 rfl rfl) ?_)
    rw [idxG_none hf]
theorem contains_c {lv:Value} {l:List Int} (x:Int) {w:World} (h:Rd w lv 1 (ints l)) :
    GivesV Tryd.prog 83 [lv,.int .i64 x] w (.bool (l.contains x)):=by
  have hcl:∀ w',Keeps [] w w' → GivesV Tryd.prog 104 [lv,.int .i64 x] w' (.int .i64 (idxG (fun y=>decide (x = y)) l)):=fun w' hk=>index_c x (h.keeps hk)
  have e:l.contains x = l.any fun y=>decide (x = y):=by
    rw [List.contains_eq_any_beq];rfl
  rw [e,← idxG_any]
  refine givesV_of_tr Tryd.func83 rfl rfl ?_
  (refine s_r ?_;refine a_s rfl rfl ?_;refine n_r ?_;refine m_v rfl rfl ?_;refine m_v rfl rfl ?_;refine tr_callV (rk_call (.of rfl) (.cons (.of rfl) (.cons (.of rfl) .nil)) inferInstance normc_) rfl (fun w' hm'=>(hcl w' (Mem.keeps hm'))) ?_;refine tr_val (rk_geq (.of rfl) (.of rfl)) rfl ?_;refine a_s rfl rfl ?_;refine n_t ?_;refine tr_ret ?_;refine tr_retE rfl (ends1 rfl rfl) ?_)
  rfl
structure GlobR (w:World):Prop where
  n0:w.cell? ⟨0,0,none⟩ = some (.int .i64 24)
  n1:w.cell? ⟨0,1,none⟩ = some (.int .i64 25)
  n2:w.cell? ⟨0,2,none⟩ = some (.int .i64 30)
theorem cell_keeps {w w':World} {a:Addr} {v:Value} (h:w.cell? a = some v) (hs:a.spot = none) (hk:Keeps [] w w'):w'.cell? a = some v:=by
  have hb:=World.block_lt_of_cell? w a h
  obtain ⟨b,o,s⟩:=a
  subst hs
  have:=hk.block b hb (by simp)
  rw [← h]
  simp [World.cell?,this]
theorem GlobR.keeps {w w':World} (h:GlobR w) (hk:Keeps [] w w'):GlobR w':=⟨cell_keeps h.n0 rfl hk,cell_keeps h.n1 rfl hk,cell_keeps h.n2 rfl hk⟩
theorem GlobR.rd {w:World} (h:GlobR w):Rd w (.slice (some ⟨0,0,none⟩) 3 3) 1 (ints [24,25,30]):=by
  refine ⟨_,3,0,0,rfl,by simp [ints],by unfold maxLen;omega,fun _=>rfl,fun i r hr=>?_⟩
  match i,hr with
  | 0,hr=>cases hr;exact ⟨rfl,fun j u hu=>by match j,hu with | 0,hu=>(cases hu;exact h.n0)⟩
  | 1,hr=>cases hr;exact ⟨rfl,fun j u hu=>by match j,hu with | 0,hu=>(cases hu;exact h.n1)⟩
  | 2,hr=>cases hr;exact ⟨rfl,fun j u hu=>by match j,hu with | 0,hu=>(cases hu;exact h.n2)⟩
theorem rate_has (x:Int) (w:World) (hG:GlobR w):GivesV Tryd.prog 83 [.slice (some ⟨0,0,none⟩) 3 3,.int .i64 x] w (.bool ([24,25,30].contains x)):=contains_c x hG.rd
theorem rate_eq (r:Rt):firstF [whenF (!([24,25,30]:List Int).contains r.fr) 13,whenF (r.dr && decide (r.fr ≠ 30)) 24] = rateF r:=by
  unfold rateF
  congr 2
  congr 1
  rw [Bool.eq_iff_iff]
  simp
theorem chkRate_c (r:Rt) (w:World) (hG:GlobR w):GivesV Tryd.prog 47 [.agg r.cells.toArray] w (.int .i64 (rateF r)):=by
  unfold Rt.cells
  refine givesV_of_tr Tryd.func47 rfl rfl ?_
  (refine s_r ?_;refine tr_new (rk_box (.of rfl) rfl) rfl (fun _ _=>?_);refine a_s rfl rfl ?_;refine n_t ?_;refine tr_seq ?_)
  with_reducible refine tr_draw 14 (by kernel_rfl) ?_
  (refine any_val (rk_sliceA (.of rfl)) rfl ?_;refine a_f rfl rfl norm0_ ?_;refine any_val (rk_load1 (.of rfl) (At.lit .here rfl)) rfl ?_;refine any_call (rk_call (.of rfl) (.cons (.of rfl) (.cons (.of rfl) .nil)) inferInstance normc_) rfl (fun w' hm'=>(rate_has _ w' (GlobR.keeps hG (Mem.keeps hm')))) ?_;refine any_val (rk_not (.of rfl)) rfl ?_;refine any_call (rk_call (.of rfl) (.cons (.of rfl) (.cons (.of rfl) .nil)) inferInstance normc_) rfl (fun w' hm'=>(when_c _ 13 w')) ?_;refine a_f rfl rfl norm0_ ?_;refine any_val (rk_load1 (.of rfl) (At.lit .here rfl)) rfl ?_;refine a_m rfl rfl ?_;refine any_vG1 rfl rfl inferInstance (fun hg hgp=>(rk_fieldAddr (.of rfl) norm0_)) rfl ?_;refine any_vG1 rfl rfl inferInstance (fun hg hgp=>(rk_load1 (.ofg hg rfl) (At.lit .here rfl))) rfl ?_;refine any_vG1 rfl rfl inferInstance (fun hg hgp=>(rk_neq (.ofg hg rfl) (.of rfl))) rfl ?_;refine any_val (rk_pick_and (.of rfl) rfl) rfl ?_;refine any_call (rk_call (.of rfl) (.cons (.of rfl) (.cons (.of rfl) .nil)) inferInstance normc_) rfl (fun w' hm'=>(when_c _ 24 w')) ?_)
  with_reducible refine any_end ?_
  (refine tr_new (rk_sliceLit (.cons (.of rfl) (.cons (.of rfl) .nil)) rfl rfl rfl rfl) rfl (fun _ _=>?_);refine tr_callV (rk_call (.of rfl) (.cons (.of rfl) .nil) inferInstance normc_) rfl (fun w' hm'=>(first_pB (Mem.rdBlk hm' .here rfl rfl) (IntL.cons (IntL.cons IntL.nil)))) ?_;refine a_s rfl rfl ?_;refine n_t ?_;refine tr_ret ?_;refine tr_retE rfl (ends1 rfl rfl) ?_)
  rw [← rate_eq]
end Go.Proofs.A1
