/- Parts of the proof: U17 U18 U19 U20 U21c TryzSort. -/
import Derived.Test.YthhidjfahmcekaaGreatDoorSM13
import Derived.Test.YthhidjfahmcekaaGreatDoorSM06
import Derived.Test.YthhidjfahmcekaaGreatDoorSM10
import Derived.Test.YthhidjfahmcekaaGreatDoorSM05
import Derived.Test.YthhidjfahmcekaaGreatDoorSM08
import Derived.Test.YthhidjfahmcekaaGreatDoorSM01
import Derived.Shelf.Sort.Plain
import Derived.Ground.NamesProg
import Derived.Ground.Names2Prog
import Derived.Test.YthhidjfahmcekaaGreatDoorProg
set_option linter.unusedSectionVars false
set_option linter.unusedVariables false
set_option linter.unusedSimpArgs false
namespace Go.Proofs.A1
open Go Go.SL
theorem rk_eqlBo {P:Program} {c:Cx} {sl:Slots} {hs:List Asn} {dst:Option Tmp} {ty:TypeId} {pos:String} {af:Array Edge} {g:Option (Nat × Bool)} {t u:TypeId} {x y:Operand} {a b:Bool} [hu:Und P t .bool] (hx:Is sl x (.bool a)) (hy:Is sl y (.bool b)) :
    RunV P c sl hs ⟨dst,.binOp .eql t x y u,ty,pos,af,g⟩ (.bool (a == b)):=
  rk_bin hx hy fun w=>by
    have:(Op.equal t (.bool a) (.bool b)).run P w = .ok (a == b) w:=by
      exact leq_run (d:=9999) (by rw [hu.eq];rfl) (fun k h=>by rw [hu.eq] at h;cases h) (fun h=>by rw [hu.eq] at h;cases h) (fun _=>⟨a,rfl⟩) rfl
    simp [eqGuard_bool,binOp,this]
def badR (r:Int):Bool:=decide (r < 32) || decide (126 < r)
theorem chk1_c (r:Int) (w:World):GivesV Tryz.prog 190 [.int .i32 r] w (.bool (badR r)):=by
  refine givesV_of_tr Tryz.func190 rfl rfl ?_
  (refine s_r ?_;refine a_s rfl rfl ?_;refine n_r ?_;refine m_v rfl rfl ?_;refine tr_val (rk_lss (.of rfl) (.of rfl)) rfl ?_;refine m_v rfl rfl ?_;refine v_g rfl rfl rfl rfl ?_;refine tr_vG1 rfl rfl inferInstance (fun hg hgp=>(rk_gtr (.ofg hg rfl) (.of rfl))) rfl ?_;refine tr_val (rk_pick_or (.of rfl) rfl) rfl ?_;refine a_s rfl rfl ?_;refine n_t ?_;refine tr_ret ?_;refine tr_retE rfl (ends1 rfl rfl) ?_)
  rfl
theorem idxS_c (s:ByteArray) (hs:s.size ≤ 1000000000) (w:World):GivesV Tryz.prog 267 [.string s,.func (.func 190) #[] #[],.bool true] w (.int .i64 (badI s)):=by
  refine givesV_of_tr Tryz.func267 rfl rfl ?_
  (refine s_r ?_;refine a_s rfl rfl ?_;refine n_t ?_;refine tr_seq ?_;refine s_r ?_;refine m_v rfl rfl ?_;refine tr_new (rk_rangeS (.of rfl)) rfl (fun _ _=>?_);refine n_t ?_;refine tr_block ?_)
  rename_i b hb
  refine tr_for (ι:=Nat) (fun p=>p ≤ s.size ∧ ∀ i,i < p → badB (bt s i) = false) (fun p=>[(10,.pointer (some ⟨b,0,none⟩)),(1,.func (.func 190) #[] #[]),(2,.bool true)]) (fun p=>[blk b (.stringIter s p)]) (fun p=>s.size - p) ?_ ?_
  · apply tr_start (0:Nat) ⟨Nat.zero_le _,fun i hi=>absurd hi (by omega)⟩
    case hs1=>exact .cons rfl (.cons rfl (.cons rfl .nil))
    case ht=>(try simp only [List.take_zero,List.map_nil,List.nil_append]);exact .cons .here .nil
  rintro p ⟨hp,hf⟩
  by_cases hlt:p < s.size
  · have hd:=decode_bt hlt
    have hbd:badB (bt s p) = badR ((Utf8.decode s p).1:Int):=by
      unfold badB badR
      rcases hd with ⟨h1,h2,_⟩ | ⟨h1,h2,_⟩
      · rw [h2]
      · rw [Bool.eq_iff_iff]
        simp only [Bool.or_eq_true,decide_eq_true_eq]
        omega
    (refine s_r ?_;refine tr_nextS (.of rfl) .here rfl (fun hlt=>?_) (fun hlt=>(by omega));refine tr_val (rk_extract (.of rfl) rfl) rfl ?_;refine n_t ?_;refine tr_seq ?_;refine tr_cond_t (.of rfl) ?_;refine s_t ?_;refine tr_block ?_;refine s_r ?_;refine tr_val (rk_extract (.of rfl) rfl) rfl ?_;refine tr_val (rk_extract (.of rfl) rfl) rfl ?_;refine a_s rfl rfl ?_;refine a_s rfl rfl ?_;refine n_r ?_;refine m_v rfl rfl ?_;refine m_v rfl rfl ?_;refine tr_callV (rk_call (.of rfl) (.cons (.of rfl) .nil) inferInstance normc_) rfl (fun w' hm'=>(chk1_c _ w')) ?_;refine m_v rfl rfl ?_)
    refine tr_val (rk_eqlBo (.of rfl) (.of rfl)) rfl ?_
    (refine n_t ?_;refine c_d rfl (fun hcd=>?_) (fun hcd=>?_);refine s_r ?_;refine m_v rfl rfl ?_;refine a_s rfl rfl ?_;refine n_t ?_;refine tr_ret ?_;refine tr_blk_ret ?_;refine tr_then_ret ?_;refine tr_blk_ret ?_;refine tr_then_ret ?_;refine tr_retE rfl (ends1 rfl rfl) ?_;rotate_left;refine tr_skip ?_;refine tr_blk_normal ?_;refine tr_then ?_;rotate_right)
    · have hb:badB (bt s p) = true:=by rw [hbd];simpa using hcd
      rw [badI_at hf hlt hb]
    · have hb:badB (bt s p) = false:=by rw [hbd];simpa using hcd
      have hw:(Utf8.decode s p).2 = 1:=by
        rcases hd with ⟨_,_,h⟩ | ⟨_,h,_⟩
        · exact h
        · exfalso
          rw [hbd] at hb
          unfold badR at hb
          simp at hb
          omega
      rw [hw]
      apply tr_next (p + 1) ⟨(show p + 1 ≤ s.size from hlt),fun i hi=>by
        by_cases e:i = p
        · rw [e];exact hb
        · exact hf i (by omega)⟩ (show s.size - (p + 1) < s.size - p by omega)
      case hs1=>exact .cons rfl (.cons rfl (.cons rfl .nil))
      case ht=>(try simp only [List.take_zero,List.map_nil,List.nil_append]);exact .cons .here .nil
  · obtain rfl:p = s.size:=by omega
    (refine s_r ?_;refine tr_nextS (.of rfl) .here rfl (fun hlt=>(by omega)) (fun hlt=>?_);refine tr_val (rk_extract (.of rfl) rfl) rfl ?_;refine n_t ?_;refine tr_seq ?_;refine tr_cond_f (.of rfl) ?_;refine x_t ?_;refine tr_then_exit ?_;refine tr_blk_exit ?_;refine tr_then ?_;refine s_r ?_;refine a_s rfl rfl ?_;refine n_t ?_;refine tr_ret ?_;refine tr_retE rfl (ends1 rfl rfl) ?_)
    rw [badI_no hf]
theorem idxF_c (s:ByteArray) (hs:s.size ≤ 1000000000) (w:World):GivesV Tryz.prog 243 [.string s,.func (.func 190) #[] #[]] w (.int .i64 (badI s)):=by
  refine givesV_of_tr Tryz.func243 rfl rfl ?_
  (refine s_r ?_;refine a_s rfl rfl ?_;refine n_r ?_;refine m_v rfl rfl ?_;refine m_v rfl rfl ?_;refine tr_callV (rk_call (.of rfl) (.cons (.of rfl) (.cons (.of rfl) (.cons (.of rfl) .nil))) inferInstance normc_) rfl (fun w' hm'=>(idxS_c s hs w')) ?_;refine a_s rfl rfl ?_;refine n_t ?_;refine tr_ret ?_;refine tr_retE rfl (ends1 rfl rfl) ?_)
  rfl
theorem hasF_c (s:ByteArray) (hs:s.size ≤ 1000000000) (w:World):GivesV Tryz.prog 189 [.string s,.func (.func 190) #[] #[]] w (.bool (badTx s)):=by
  rw [← badI_tx]
  refine givesV_of_tr Tryz.func189 rfl rfl ?_
  (refine s_r ?_;refine a_s rfl rfl ?_;refine n_r ?_;refine m_v rfl rfl ?_;refine m_v rfl rfl ?_;refine tr_callV (rk_call (.of rfl) (.cons (.of rfl) (.cons (.of rfl) .nil)) inferInstance normc_) rfl (fun w' hm'=>(idxF_c s hs w')) ?_;refine tr_val (rk_geq (.of rfl) (.of rfl)) rfl ?_;refine a_s rfl rfl ?_;refine n_t ?_;refine tr_ret ?_;refine tr_retE rfl (ends1 rfl rfl) ?_)
  rfl
theorem cols_c (x:Cp) (hx:-1000000000 ≤ x.co ∧ x.co ≤ 1000000000) (hs:x.tx.size ≤ 1000000000) (w:World):GivesV Tryz.prog 128 [.agg x.cells.toArray] w (.agg #[.int .i64 x.co,.int .i64 (x.co + (x.tx.size:Int))]):=by
  unfold Cp.cells
  refine givesV_of_tr Tryz.func128 rfl rfl ?_
  (refine s_r ?_;refine tr_new (rk_box (.of rfl) rfl) rfl (fun _ _=>?_);refine tr_new (rk_alloc rfl) rfl (fun _ _=>?_);refine n_r ?_;refine f_a rfl rfl norm0_ ?_;refine tr_val (rk_load1 (.of rfl) (At.lit (.there .here) rfl)) rfl ?_;refine f_a rfl rfl norm0_ ?_;refine tr_val (rk_load1 (.of rfl) (At.lit (.there .here) rfl)) rfl ?_;refine f_a rfl rfl norm0_ ?_;refine tr_val (rk_load1 (.of rfl) (At.lit (.there .here) rfl)) rfl ?_;refine tr_val (rk_len_string (.of rfl)) rfl ?_;refine tr_val (rk_add (.of rfl) (.of rfl) (ini (by omega))) rfl ?_;refine tr_val (rk_buildL (.cons (.of rfl) (.cons (.of rfl) .nil)) norm_) rfl ?_;refine tr_store (.of rfl) (.of rfl) .here rfl rfl (okc_cons rfl (okc_cons rfl okc_nil)) (lenb rfl) norm_ ?_;refine n_t ?_;refine tr_ret ?_;refine tr_retE rfl (ends1cB rfl inferInstance rfl .here norm_ (by rfl)) ?_)
  rfl
theorem meet_c (a b c d:Int) (w:World):GivesV Tryz.prog 192 [.agg #[.int .i64 a,.int .i64 b],.agg #[.int .i64 c,.int .i64 d]] w (.bool (decide (max a c < min b d))):=by
  refine givesV_of_tr Tryz.func192 rfl rfl ?_
  (refine s_r ?_;refine tr_new (rk_box (.of rfl) rfl) rfl (fun _ _=>?_);refine tr_new (rk_box (.of rfl) rfl) rfl (fun _ _=>?_);refine a_s rfl rfl ?_;refine n_r ?_;refine f_a rfl rfl norm0_ ?_;refine tr_val (rk_load1 (.of rfl) (At.lit (.there .here) rfl)) rfl ?_;refine f_a rfl rfl norm0_ ?_;refine tr_val (rk_load1 (.of rfl) (At.lit .here rfl)) rfl ?_;refine tr_val (rk_max2 (.of rfl) (.of rfl)) rfl ?_;refine f_a rfl rfl norm0_ ?_;refine tr_val (rk_load1 (.of rfl) (At.lit (.there .here) rfl)) rfl ?_;refine f_a rfl rfl norm0_ ?_;refine tr_val (rk_load1 (.of rfl) (At.lit .here rfl)) rfl ?_;refine tr_val (rk_min2 (.of rfl) (.of rfl)) rfl ?_;refine tr_val (rk_lss (.of rfl) (.of rfl)) rfl ?_;refine a_s rfl rfl ?_;refine n_t ?_;refine tr_ret ?_;refine tr_retE rfl (ends1 rfl rfl) ?_)
  rfl
end Go.Proofs.A1
namespace Go.Proofs.A1
open Go Go.SL
def endW (x:Cp):Int:=IntKind.i64.wrap (x.co + (x.tx.size:Int))
def cflw (a b:Cp):Bool:=decide (a.rw = b.rw) && (decide (max a.fr b.fr < min a.to b.to) && decide (max a.co b.co < min (endW a) (endW b)))
theorem endW_ok {x:Cp} (h:CpOk x):endW x = x.co + (x.tx.size:Int):=by
  have h1:=h.co;have h2:=h.fit;have h3:=h.ne
  exact i64w (by omega)
theorem cflw_ok {a b:Cp} (ha:CpOk a) (hb:CpOk b):cflw a b = cfl a b:=by
  unfold cflw cfl;rw [endW_ok ha,endW_ok hb]
theorem colsw_c (x:Cp) (w:World):GivesV Tryz.prog 128 [.agg x.cells.toArray] w (.agg #[.int .i64 x.co,.int .i64 (endW x)]):=by
  unfold Cp.cells endW
  refine givesV_of_tr Tryz.func128 rfl rfl ?_
  (refine s_r ?_;refine tr_new (rk_box (.of rfl) rfl) rfl (fun _ _=>?_);refine tr_new (rk_alloc rfl) rfl (fun _ _=>?_);refine n_r ?_;refine f_a rfl rfl norm0_ ?_;refine tr_val (rk_load1 (.of rfl) (At.lit (.there .here) rfl)) rfl ?_;refine f_a rfl rfl norm0_ ?_;refine tr_val (rk_load1 (.of rfl) (At.lit (.there .here) rfl)) rfl ?_;refine f_a rfl rfl norm0_ ?_;refine tr_val (rk_load1 (.of rfl) (At.lit (.there .here) rfl)) rfl ?_;refine tr_val (rk_len_string (.of rfl)) rfl ?_)
  refine tr_val (rk_addw (.of rfl) (.of rfl)) rfl ?_
  (refine tr_val (rk_buildL (.cons (.of rfl) (.cons (.of rfl) .nil)) norm_) rfl ?_;refine tr_store (.of rfl) (.of rfl) .here rfl rfl (okc_cons rfl (okc_cons rfl okc_nil)) (lenb rfl) norm_ ?_;refine n_t ?_;refine tr_ret ?_;refine tr_retE rfl (ends1cB rfl inferInstance rfl .here norm_ (by rfl)) ?_)
  rfl
theorem conf_c (x y:Cp) (w:World):GivesV Tryz.prog 132 [.agg x.cells.toArray,.agg y.cells.toArray] w (.bool (cflw x y)):=by
  have hca:∀ w,GivesV Tryz.prog 128 [.agg #[.int .i64 x.fr,.int .i64 x.to,.int .i64 x.rw,.int .i64 x.co,.string x.tx]] w (.agg #[.int .i64 x.co,.int .i64 (endW x)]):=fun w=>colsw_c x w
  have hcb:∀ w,GivesV Tryz.prog 128 [.agg #[.int .i64 y.fr,.int .i64 y.to,.int .i64 y.rw,.int .i64 y.co,.string y.tx]] w (.agg #[.int .i64 y.co,.int .i64 (endW y)]):=fun w=>colsw_c y w
  unfold cflw Cp.cells
  refine givesV_of_tr Tryz.func132 rfl rfl ?_
  (refine s_r ?_;refine tr_new (rk_box (.of rfl) rfl) rfl (fun _ _=>?_);refine tr_new (rk_box (.of rfl) rfl) rfl (fun _ _=>?_);refine a_s rfl rfl ?_;refine n_t ?_;refine tr_seq ?_)
  with_reducible refine tr_draw 20 (by kernel_rfl) ?_
  (refine a_f rfl rfl norm0_ ?_;refine any_val (rk_load1 (.of rfl) (At.lit (.there .here) rfl)) rfl ?_;refine a_f rfl rfl norm0_ ?_;refine any_val (rk_load1 (.of rfl) (At.lit .here rfl)) rfl ?_;refine any_val (rk_eql (.of rfl) (.of rfl)) rfl ?_;refine a_m rfl rfl ?_;refine any_vG1 rfl rfl inferInstance (fun hg hgp=>(rk_fieldAddr (.of rfl) norm0_)) rfl ?_;refine any_vG1 rfl rfl inferInstance (fun hg hgp=>(rk_loadB (.ofg hg rfl) (.there .here) norm_ (by rfl))) rfl ?_;refine any_vG1 rfl rfl inferInstance (fun hg hgp=>(rk_fieldAddr (.of rfl) norm0_)) rfl ?_;refine any_vG1 rfl rfl inferInstance (fun hg hgp=>(rk_loadB (.ofg hg rfl) .here norm_ (by rfl))) rfl ?_;refine any_callG1 rfl rfl (fun hg=>(rk_call (.of rfl) (.cons (.ofg hg rfl) (.cons (.ofg hg rfl) .nil)) inferInstance normc_)) rfl (fun hg w' hm'=>(meet_c _ _ _ _ w')) ?_;refine any_val (rk_pick_and (.of rfl) rfl) rfl ?_;refine a_m rfl rfl ?_;refine any_vG1 rfl rfl inferInstance (fun hg hgp=>(rk_loadB (.of rfl) (.there .here) norm_ (by rfl))) rfl ?_;refine any_callG1 rfl rfl (fun hg=>(rk_call (.of rfl) (.cons (.ofg hg rfl) .nil) inferInstance normc_)) rfl (fun hg w' hm'=>(hca w')) ?_;refine any_vG1 rfl rfl inferInstance (fun hg hgp=>(rk_loadB (.of rfl) .here norm_ (by rfl))) rfl ?_;refine any_callG1 rfl rfl (fun hg=>(rk_call (.of rfl) (.cons (.ofg hg rfl) .nil) inferInstance normc_)) rfl (fun hg w' hm'=>(hcb w')) ?_;refine any_callG1 rfl rfl (fun hg=>(rk_call (.of rfl) (.cons (.ofg hg rfl) (.cons (.ofg hg rfl) .nil)) inferInstance normc_)) rfl (fun hg w' hm'=>(meet_c _ _ _ _ w')) ?_;refine any_val (rk_pick_and (.of rfl) rfl) rfl ?_;refine any_val (rk_assign (.of rfl)) rfl ?_)
  with_reducible refine any_end ?_
  (refine n_t ?_;refine tr_ret ?_;refine tr_retE rfl (ends1 rfl rfl) ?_)
  rw [Bool.and_assoc]
theorem cpE_w (x:Cp) (hs:x.tx.size ≤ 1000000000):firstF [whenF (decide (x.fr < 0) || decide (x.to ≤ x.fr) || decide (10000000 < x.to)) 14,withinF x.rw 0 7,withinF x.co 0 31,whenF (decide (x.tx = ⟨#[]⟩)) 12,whenF (decide (32 < endW x)) 26,whenF (badTx x.tx) 1] = cpE x:=by
  unfold cpE
  rw [Bool.or_assoc]
  have e1:decide (x.tx = ⟨#[]⟩) = decide (x.tx.size = 0):=by rw [decide_eq_decide];exact ne_empty.symm
  rw [e1]
  by_cases h2:withinF x.co 0 31 = 0
  · by_cases h3:x.tx.size = 0
    · rw [decide_eq_true h3]
      simp only [firstF,whenF,cond_true]
      simp
    · have:=withinF_zero.1 h2
      have e:endW x = x.co + (x.tx.size:Int):=i64w (by omega)
      rw [e]
  · simp only [firstF]
    simp [h2]
theorem check_c (x:Cp) (hs:x.tx.size ≤ 1000000000) (w:World):GivesV Tryz.prog 130 [.agg x.cells.toArray] w (.int .i64 (cpE x)):=by
  unfold Cp.cells
  refine givesV_of_tr Tryz.func130 rfl rfl ?_
  (refine s_r ?_;refine tr_new (rk_box (.of rfl) rfl) rfl (fun _ _=>?_);refine a_s rfl rfl ?_;refine n_r ?_;refine f_a rfl rfl norm0_ ?_;refine tr_val (rk_loadB (.of rfl) .here norm_ (by rfl)) rfl ?_;refine tr_new (rk_alloc rfl) rfl (fun _ _=>?_);refine tr_store (.of rfl) (.of rfl) .here rfl rfl (okc_cons rfl (okc_cons rfl okc_nil)) (lenb rfl) norm_ ?_;refine n_r ?_;refine f_a rfl rfl norm0_ ?_;refine tr_val (rk_load1 (.of rfl) (At.lit (.there .here) rfl)) rfl ?_;refine tr_callV (rk_call (.of rfl) (.cons (.of rfl) (.cons (.of rfl) .nil)) inferInstance normc_) rfl (fun w' hm'=>(hasF_c _ hs w')) ?_;refine a_s rfl rfl ?_;refine n_t ?_;refine tr_seq ?_)
  with_reducible refine tr_drawO 37 (by kernel_rfl) ?_
  (refine ao_val (rk_fieldAddr (.of rfl) norm0_) rfl ?_;refine ao_val (rk_load1 (.of rfl) (At.lit .here rfl)) rfl ?_;refine ao_val (rk_lss (.of rfl) (.of rfl)) rfl ?_;refine ao_val (rk_move (.of rfl)) rfl ?_;refine ao_vG1 rfl rfl inferInstance (fun hg hgp=>(rk_fieldAddr (.of rfl) norm0_)) rfl ?_;refine ao_vG1 rfl rfl inferInstance (fun hg hgp=>(rk_load1 (.ofg hg rfl) (At.lit .here rfl))) rfl ?_;refine ao_vG1 rfl rfl inferInstance (fun hg hgp=>(rk_fieldAddr (.of rfl) norm0_)) rfl ?_;refine ao_vG1 rfl rfl inferInstance (fun hg hgp=>(rk_load1 (.ofg hg rfl) (At.lit .here rfl))) rfl ?_;refine ao_vG1 rfl rfl inferInstance (fun hg hgp=>(rk_geq (.ofg hg rfl) (.ofg hg rfl))) rfl ?_;refine ao_val (rk_pick_or (.of rfl) rfl) rfl ?_;refine ao_val (rk_move (.of rfl)) rfl ?_;refine ao_vG1 rfl rfl inferInstance (fun hg hgp=>(rk_fieldAddr (.of rfl) norm0_)) rfl ?_;refine ao_vG1 rfl rfl inferInstance (fun hg hgp=>(rk_load1 (.ofg hg rfl) (At.lit .here rfl))) rfl ?_;refine ao_vG1 rfl rfl inferInstance (fun hg hgp=>(rk_gtr (.ofg hg rfl) (.of rfl))) rfl ?_;refine ao_val (rk_pick_or (.of rfl) rfl) rfl ?_;refine ao_call (rk_call (.of rfl) (.cons (.of rfl) (.cons (.of rfl) .nil)) inferInstance normc_) rfl (fun w' hm'=>(when_c _ 14 w')) ?_;refine ao_val (rk_fieldAddr (.of rfl) norm0_) rfl ?_;refine ao_val (rk_load1 (.of rfl) (At.lit (.there .here) rfl)) rfl ?_;refine ao_call (rk_call (.of rfl) (.cons (.of rfl) (.cons (.of rfl) (.cons (.of rfl) .nil))) inferInstance normc_) rfl (fun w' hm'=>(within_c _ 0 7 w')) ?_;refine ao_val (rk_fieldAddr (.of rfl) norm0_) rfl ?_;refine ao_val (rk_load1 (.of rfl) (At.lit (.there .here) rfl)) rfl ?_;refine ao_call (rk_call (.of rfl) (.cons (.of rfl) (.cons (.of rfl) (.cons (.of rfl) .nil))) inferInstance normc_) rfl (fun w' hm'=>(within_c _ 0 31 w')) ?_;refine ao_val (rk_fieldAddr (.of rfl) norm0_) rfl ?_;refine ao_val (rk_load1 (.of rfl) (At.lit (.there .here) rfl)) rfl ?_;refine ao_val (rk_eqls (.of rfl) (.of rfl)) rfl ?_;refine ao_call (rk_call (.of rfl) (.cons (.of rfl) (.cons (.of rfl) .nil)) inferInstance normc_) rfl (fun w' hm'=>(when_c _ 12 w')) ?_;refine ao_val (rk_fieldAddr (.of rfl) norm0_) rfl ?_;refine ao_val (rk_load1 (.of rfl) (At.lit (.there .here) rfl)) rfl ?_;refine ao_val (rk_fieldAddr (.of rfl) norm0_) rfl ?_;refine ao_val (rk_load1 (.of rfl) (At.lit (.there .here) rfl)) rfl ?_;refine ao_val (rk_len_string (.of rfl)) rfl ?_)
  refine ao_val (rk_addw (.of rfl) (.of rfl)) rfl ?_
  (refine ao_val (rk_gtr (.of rfl) (.of rfl)) rfl ?_;refine ao_call (rk_call (.of rfl) (.cons (.of rfl) (.cons (.of rfl) .nil)) inferInstance normc_) rfl (fun w' hm'=>(when_c _ 26 w')) ?_;refine ao_val (rk_move (.of rfl)) rfl ?_;refine ao_call (rk_call (.of rfl) (.cons (.of rfl) (.cons (.of rfl) .nil)) inferInstance normc_) rfl (fun w' hm'=>(when_c _ 1 w')) ?_;refine ao_new (rk_sliceLit (.cons (.of rfl) (.cons (.of rfl) (.cons (.of rfl) (.cons (.of rfl) (.cons (.of rfl) (.cons (.of rfl) .nil)))))) rfl rfl rfl rfl) rfl rfl ?_)
  with_reducible refine ao_end1 rfl fun bq hbq=>?_
  (refine tr_callV (rk_call (.of rfl) (.cons (.of rfl) .nil) inferInstance normc_) rfl (fun w' hm'=>(first_pB (Mem.rdBlk hm' .here rfl rfl) (IntL.cons (IntL.cons (IntL.cons (IntL.cons (IntL.cons (IntL.cons IntL.nil)))))))) ?_;refine a_s rfl rfl ?_;refine n_t ?_;refine tr_ret ?_;refine tr_retE rfl (ends1 rfl rfl) ?_)
  rw [← cpE_w x hs];rfl
theorem idxC_c {lv:Value} {l:List Cp} (x:Cp) {w:World} (h:Rd w lv 5 (cps l)) :
    GivesV Tryz.prog 191 [lv,.func (.func 132) #[.agg x.cells.toArray] #[]] w (.int .i64 (idxG (cflw x) l)):=by
  obtain ⟨a,cp,b,o,rfl,hcap,hmax,ha,hc⟩:=h
  rw [cps_length] at *
  unfold maxLen at hmax
  refine givesV_of_tr Tryz.func191 rfl rfl ?_
  (refine s_r ?_;refine a_s rfl rfl ?_;refine n_t ?_;refine tr_seq ?_;refine s_r ?_;refine m_v rfl rfl ?_;refine tr_val (rk_len_slice (.of rfl)) rfl ?_;refine m_v rfl rfl ?_;refine n_t ?_;refine tr_block ?_)
  refine tr_for (fun k:Nat=>k ≤ l.length ∧ ∀ i,i < k → (l[i]?.map (cflw x)).getD false = false) (fun k=>[(8,.int .i64 k),(7,.int .i64 l.length),(0,.slice a l.length cp),(1,.func (.func 132) #[.agg x.cells.toArray] #[])]) (fun _=>[]) (fun k=>l.length - k) ?_ ?_
  · apply tr_start 0 ⟨Nat.zero_le _,fun i h=>by omega⟩
    case hs1=>exact .cons rfl (.cons rfl (.cons rfl (.cons rfl .nil)))
    case ht=>(try simp only [List.take_zero,List.map_nil,List.nil_append]);exact .nil
  rintro k ⟨hk,hf⟩
  by_cases hlt:k < l.length
  · have ha':=ha (cps_ne hlt)
    have hcell:=(hc k _ (cps_get hlt)).2
    have hps:(l[k]?.map (cflw x)).getD false = cflw x l[k]:=by simp [hlt]
    have hcl:∀ w,GivesV Tryz.prog 132 [.agg x.cells.toArray,.agg (l[k]).cells.toArray] w (.bool (cflw x l[k])):=fun w=>conf_c x l[k] w
    unfold Cp.cells at hcell hcl
    unfold Cp.cells
    (refine s_r ?_;refine tr_val (rk_lss (.of rfl) (.of rfl)) rfl ?_;refine n_t ?_;refine tr_seq ?_;refine c_d rfl (fun hcd=>?_) (fun _=>by omega);refine s_t ?_;refine tr_seq ?_;refine tr_block ?_;refine s_r ?_;refine m_v rfl rfl ?_;refine a_s rfl rfl ?_;refine n_r ?_;refine m_v rfl rfl ?_;refine m_v rfl rfl ?_;refine m_v rfl rfl ?_;refine tr_val (rk_indexAddr (.of rfl) (.of rfl) ha' (by omega) hcd norm1_) rfl ?_;refine tr_val (rk_loadN (.of rfl) (Ats.base hcell rfl) rfl) rfl ?_;refine tr_callV (rk_call (.of rfl) (.cons (.of rfl) .nil) inferInstance normc_) rfl (fun w' hm'=>(hcl w')) ?_;refine n_t ?_;refine c_b rfl (fun hcd=>?_) (fun hcd=>?_);refine s_r ?_;refine m_v rfl rfl ?_;refine a_s rfl rfl ?_;refine n_t ?_;refine tr_ret ?_;refine tr_blk_ret ?_;refine tr_then_ret ?_;refine tr_then_ret ?_;refine tr_blk_ret ?_;refine tr_then_ret ?_;refine tr_retE rfl (ends1 rfl rfl) ?_;rotate_left;refine tr_skip ?_;refine tr_blk_normal ?_;refine tr_then ?_;refine tr_region ?_;refine tr_val (rk_add (.of rfl) (.of rfl) (ini (by omega))) rfl ?_;refine m_v rfl rfl ?_;refine n_t ?_;rotate_right)
    · rw [idxG_at hf hlt hcd]
    · apply tr_next (k + 1) ⟨by omega,fun i hi=>by
        by_cases e:i = k
        · rw [e,hps];simpa using hcd
        · exact hf i (by omega)⟩ (by omega)
      case hs1=>exact .cons rfl (.cons rfl (.cons rfl (.cons rfl .nil)))
      case ht=>(try simp only [List.take_zero,List.map_nil,List.nil_append]);exact .nil
  · obtain rfl:k = l.length:=by omega
    (refine s_r ?_;refine tr_val (rk_lss (.of rfl) (.of rfl)) rfl ?_;refine n_t ?_;refine tr_seq ?_;refine c_d rfl (fun _=>by omega) (fun hcd=>?_);refine x_t ?_;refine tr_then_exit ?_;refine tr_blk_exit ?_;refine tr_then ?_;refine s_r ?_;refine a_s rfl rfl ?_;refine n_t ?_;refine tr_ret ?_;refine tr_retE rfl (ends1 rfl rfl) ?_)
    rw [idxG_none hf]
theorem hasC_c {lv:Value} {l:List Cp} (x:Cp) {w:World} (h:Rd w lv 5 (cps l)) :
    GivesV Tryz.prog 131 [lv,.func (.func 132) #[.agg x.cells.toArray] #[]] w (.bool (l.any (cflw x))):=by
  have hcl:∀ w',Keeps [] w w' → GivesV Tryz.prog 191 [lv,.func (.func 132) #[.agg x.cells.toArray] #[]] w' (.int .i64 (idxG (cflw x) l)):=fun w' hk=>idxC_c x (h.keeps hk)
  rw [← idxG_any]
  refine givesV_of_tr Tryz.func131 rfl rfl ?_
  (refine s_r ?_;refine a_s rfl rfl ?_;refine n_r ?_;refine m_v rfl rfl ?_;refine m_v rfl rfl ?_;refine tr_callV (rk_call (.of rfl) (.cons (.of rfl) (.cons (.of rfl) .nil)) inferInstance normc_) rfl (fun w' hm'=>(hcl w' (Mem.keeps hm'))) ?_;refine tr_val (rk_geq (.of rfl) (.of rfl)) rfl ?_;refine a_s rfl rfl ?_;refine n_t ?_;refine tr_ret ?_;refine tr_retE rfl (ends1 rfl rfl) ?_)
  rfl
end Go.Proofs.A1
namespace Go.Proofs.A1
open Go Go.SL
def atW (l:List Cp) (k:Nat):Int:=firstF [cpE (nthC l k),whenF ((l.take k).any (cflw (nthC l k))) 24]
theorem cpAt_ok {l:List Cp} {k:Nat} (h:cpAt l k = 0):CpOk (nthC l k):=by
  unfold cpAt at h
  exact cpE_zero.1 (firstF_zero.1 h (cpE (nthC l k)) (by simp))
theorem any_same {α:Type} {p q:α → Bool} {l:List α} (h:∀ x ∈ l,p x = q x):l.any p = l.any q:=by
  induction l with
  | nil=>rfl
  | cons x l ih=>rw [List.any_cons,List.any_cons,h x (by simp),ih fun y hy=>h y (by simp [hy])]
theorem atW_eq {l:List Cp} {k:Nat} (hk:k < l.length) (h:∀ i,i < k → cpAt l i = 0):atW l k = cpAt l k:=by
  unfold atW cpAt
  by_cases h0:cpE (nthC l k) = 0
  · have hc:=cpE_zero.1 h0
    have:(l.take k).any (cflw (nthC l k)) = (l.take k).any (cfl (nthC l k)):=any_same fun y hy=>by
      obtain ⟨i,hi,rfl⟩:=List.getElem_of_mem hy
      rw [List.length_take] at hi
      have:=cpAt_ok (h i (by omega))
      rw [nthC_get (by omega)] at this
      rw [List.getElem_take]
      exact cflw_ok hc this
    rw [this]
  · simp [firstF,h0]
theorem chkCaps_c {lv:Value} {l:List Cp} {w:World} (h:Rd w lv 5 (cps l)) (hs:∀ x ∈ l,x.tx.size ≤ 1000000000):GivesV Tryz.prog 68 [lv] w (.int .i64 (capE l)):=by
  have h1':=h
  obtain ⟨a,cp,b,o,rfl,hcap,hmax,ha,hc⟩:=h1'
  rw [cps_length] at *
  unfold maxLen at hmax
  refine givesV_of_tr Tryz.func68 rfl rfl ?_
  unfold capE
  (refine s_r ?_;refine a_s rfl rfl ?_;refine n_t ?_;refine tr_seq ?_;refine s_r ?_;refine m_v rfl rfl ?_;refine tr_val (rk_len_slice (.of rfl)) rfl ?_;refine tr_val (rk_gtr (.of rfl) (.of rfl)) rfl ?_;refine n_t ?_;refine c_d rfl (fun hcd=>?_) (fun hcd=>?_);refine s_r ?_;refine a_s rfl rfl ?_;refine n_t ?_;refine r_t ?_;refine tr_retE rfl (ends1 rfl rfl) ?_;rotate_left;refine s_t ?_;refine tr_seq ?_;refine s_r ?_;refine m_v rfl rfl ?_;refine tr_val (rk_len_slice (.of rfl)) rfl ?_;refine m_v rfl rfl ?_;refine n_t ?_;refine tr_block ?_;rotate_right)
  · rw [if_pos (by omega)]
  rw [if_neg (by omega)]
  refine tr_for (fun k:Nat=>k ≤ l.length ∧ ∀ i,i < k → cpAt l i = 0) (fun k=>[(11,.int .i64 k),(10,.int .i64 l.length),(9,.slice a l.length cp),(0,.slice a l.length cp)]) (fun _=>[]) (fun k=>l.length - k) ?_ ?_
  · apply tr_start 0 ⟨Nat.zero_le _,fun i h=>by omega⟩
    case hs1=>exact .cons rfl (.cons rfl (.cons rfl (.cons rfl .nil)))
    case ht=>(try simp only [List.take_zero,List.map_nil,List.nil_append]);exact .nil
  rintro k ⟨hk,hf⟩
  by_cases hlt:k < l.length
  · have ha':=ha (cps_ne hlt)
    subst ha'
    have hcell:=(hc k _ (cps_get hlt)).2
    have hat:=atW_eq hlt hf
    unfold atW at hat
    have hsl:=(h.sliced (l:=0) (m:=k) (by omega) (by omega))
    rw [List.drop_zero,show (cps l).take k = cps (l.take k) by unfold cps;rw [List.map_take]] at hsl
    rw [nthC_get hlt] at hat
    have hck:∀ w,GivesV Tryz.prog 130 [.agg (l[k]).cells.toArray] w (.int .i64 (cpE l[k])):=fun w=>check_c _ (hs _ (List.getElem_mem hlt)) w
    have hcc:∀ w',Keeps [] w w' → GivesV Tryz.prog 131 [sliced (some ⟨b,o,none⟩) 0 ((k:Nat):Int).toNat cp 5,.func (.func 132) #[.agg (l[k]).cells.toArray] #[]] w' (.bool ((l.take k).any (cflw l[k]))):=fun w' hk=>hasC_c _ (hsl.keeps hk)
    generalize hE:cpAt l k = E at hat
    generalize l[k] = x at hcell hck hcc hat
    unfold Cp.cells at hcell hck hcc
    (refine s_r ?_;refine tr_val (rk_lss (.of rfl) (.of rfl)) rfl ?_;refine n_t ?_;refine tr_seq ?_;refine c_d rfl (fun hcd=>?_) (fun _=>by omega);refine s_t ?_;refine tr_seq ?_;refine tr_block ?_;refine s_r ?_;refine m_v rfl rfl ?_;refine tr_val (rk_indexAddr (.of rfl) (.of rfl) rfl (by omega) hcd norm1_) rfl ?_;refine tr_val (rk_loadN (.of rfl) (Ats.base hcell rfl) rfl) rfl ?_;refine tr_new (rk_alloc rfl) rfl (fun _ _=>?_);refine a_s rfl rfl ?_;refine tr_store (.of rfl) (.of rfl) .here rfl rfl (okc_cons rfl (okc_cons rfl (okc_cons rfl (okc_cons rfl (okc_cons rfl okc_nil))))) (lenb rfl) norm_ ?_;refine n_t ?_;refine tr_seq ?_)
    with_reducible refine tr_drawO 10 (by kernel_rfl) ?_
    (refine ao_val (rk_loadB (.of rfl) .here norm_ (by rfl)) rfl ?_;refine ao_call (rk_call (.of rfl) (.cons (.of rfl) .nil) inferInstance normc_) rfl (fun w' hm'=>(hck w')) ?_;refine ao_val (rk_move (.of rfl)) rfl ?_;refine ao_val (rk_move (.of rfl)) rfl ?_;refine ao_val (rk_slice_h (.of rfl) (.of rfl) (by omega) (by omega)) rfl ?_;refine ao_val (rk_loadB (.of rfl) .here norm_ (by rfl)) rfl ?_;refine ao_val (rk_makeFunc' (.cons (.of rfl) .nil) .nil) rfl ?_;refine ao_call (rk_call (.of rfl) (.cons (.of rfl) (.cons (.of rfl) .nil)) inferInstance normc_) rfl (fun w' hm'=>(hcc w' (Mem.keeps hm'))) ?_;refine ao_call (rk_call (.of rfl) (.cons (.of rfl) (.cons (.of rfl) .nil)) inferInstance normc_) rfl (fun w' hm'=>(when_c _ 24 w')) ?_;refine ao_new (rk_sliceLit (.cons (.of rfl) (.cons (.of rfl) .nil)) rfl rfl rfl rfl) rfl rfl ?_)
    with_reducible refine ao_end1 rfl fun bq hbq=>?_
    (refine tr_callV (rk_call (.of rfl) (.cons (.of rfl) .nil) inferInstance normc_) rfl (fun w' hm'=>(first_pB (Mem.rdBlk hm' .here rfl rfl) (IntL.cons (IntL.cons IntL.nil)))) ?_;refine a_s rfl rfl ?_;refine n_r ?_;refine m_v rfl rfl ?_;refine tr_val (rk_neq (.of rfl) (.of rfl)) rfl ?_;refine n_t ?_;refine c_d rfl (fun hcd=>?_) (fun hcd=>?_);refine s_r ?_;refine m_v rfl rfl ?_;refine a_s rfl rfl ?_;refine n_t ?_;refine tr_ret ?_;refine tr_blk_ret ?_;refine tr_then_ret ?_;refine tr_then_ret ?_;refine tr_blk_ret ?_;refine tr_then_ret ?_;refine tr_retE rfl (ends1 rfl rfl) ?_;rotate_left;refine tr_skip ?_;refine tr_blk_normal ?_;refine tr_then ?_;refine tr_region ?_;refine tr_val (rk_add (.of rfl) (.of rfl) (ini (by omega))) rfl ?_;refine m_v rfl rfl ?_;refine n_t ?_;rotate_right)
    · rw [hat] at hcd
      rw [hat,errE_bad (fun i hi=>hf i hi) hlt (by rw [hE];exact hcd),hE]
    · rw [hat] at hcd
      apply tr_next (k + 1) ⟨show k + 1 ≤ l.length from hlt,fun i hi=>by
        by_cases e:i = k
        · rw [e,hE];exact Decidable.not_not.1 hcd
        · exact hf i (by omega)⟩ (show l.length - (k + 1) < l.length - k by omega)
      case hs1=>exact .cons rfl (.cons rfl (.cons rfl (.cons rfl .nil)))
      case ht=>(try simp only [List.take_zero,List.map_nil,List.nil_append]);exact .nil
  · obtain rfl:k = l.length:=by omega
    (refine s_r ?_;refine tr_val (rk_lss (.of rfl) (.of rfl)) rfl ?_;refine n_t ?_;refine tr_seq ?_;refine c_d rfl (fun _=>by omega) (fun hcd=>?_);refine x_t ?_;refine tr_then_exit ?_;refine tr_blk_exit ?_;refine tr_then ?_;refine s_r ?_;refine a_s rfl rfl ?_;refine n_t ?_;refine tr_ret ?_;refine tr_retE rfl (ends1 rfl rfl) ?_)
    rw [errE_ok.2 hf]
end Go.Proofs.A1
namespace Go.Proofs.A1
open Go Go.SL
def fillV (k:Nat):List Value:=List.replicate k (.int .u8 32)++List.replicate (32 - k) (.int .u8 0)
theorem fillV_len {k:Nat} (h:k ≤ 32):(fillV k).length = 32:=by simp [fillV];omega
theorem fillV_set {k:Nat} (h:k < 32):setCells (fillV k) (k * 1) [.int .u8 32] = fillV (k + 1):=by
  show (fillV k).set (k * 1) (.int .u8 32) = _
  unfold fillV
  rw [Nat.mul_one,List.set_append_right _ _ (by simp),show 32 - k = (32 - (k + 1)) + 1 by omega,List.replicate_succ (n:=32 - (k + 1)),List.length_replicate,Nat.sub_self,List.set_cons_zero,List.replicate_succ',List.append_assoc]
  rfl
def outV (l:List Cp) (n:Int) (r:Nat):List Value:=(List.range 8).map fun (i:Nat)=>Value.string (if i < r then strB (rowB l n (i:Nat)) else ⟨#[]⟩)
theorem outV_len (l:List Cp) (n:Int) (r:Nat):(outV l n r).length = 8:=by unfold outV;rw [List.length_map,List.length_range]
theorem outV_set {l:List Cp} {n:Int} {r:Nat} (h:r < 8):setCells (outV l n r) (r * 1) [.string (strB (rowB l n (r:Nat)))] = outV l n (r + 1):=by
  show (outV l n r).set (r * 1) _ = _
  rw [Nat.mul_one]
  apply List.ext_getElem?
  intro i
  unfold outV
  rw [List.getElem?_set]
  by_cases hi:i < 8
  · by_cases e:r = i
    · subst e;simp [hi]
    · simp [hi,e]
      have:(i < r) ↔ (i < r + 1):=by omega
      simp [this]
  · rw [if_neg (by omega)]
    rw [List.getElem?_eq_none (by simp;omega),List.getElem?_eq_none (by simp;omega)]
theorem outV_8 (l:List Cp) (n:Int):outV l n 8 = (scrL l n).map Value.string:=by
  unfold outV scrL
  rw [List.map_map]
  apply List.map_congr_left
  intro i hi
  have:=List.mem_range.1 hi
  simp [this]
theorem line_sl {g:Nat} {co:Int} (h:0 ≤ co ∧ co ≤ 31):sliced (some ⟨g,0,none⟩) co.toNat 32 32 1 = .slice (some ⟨g,co.toNat,none⟩) (32 - co.toNat) (32 - co.toNat):=by
  simp [sliced,show ¬ (32:Nat) = co.toNat by omega,addr_add]
theorem cellsAt_all {cs:List Value} {n:Nat} (h:cs.length = n):cellsAt cs 0 n = cs:=by rw [cellsAt_eq,List.drop_zero,List.take_of_length_le (by omega)]
theorem onC_iff {x:Cp} {n r:Int}:onC x n r = true ↔ x.rw = r ∧ x.fr ≤ n ∧ n < x.to:=by unfold onC;simp
theorem scr_lit (l:List Cp) (n:Int):(scrL l n).map Value.string = [.string (strB (rowB l n 0)),.string (strB (rowB l n 1)),.string (strB (rowB l n 2)),.string (strB (rowB l n 3)),.string (strB (rowB l n 4)),.string (strB (rowB l n 5)),.string (strB (rowB l n 6)),.string (strB (rowB l n 7))]:=rfl
set_option maxHeartbeats 2000000 in
theorem shown_c {lv:Value} {l:List Cp} {n:Int} {w:World} (h:Rd w lv 5 (cps l)) (hk:CapOk l):GivesV Tryz.prog 123 [lv,.int .i64 n] w (.agg ((scrL l n).map Value.string).toArray):=by
  have h1':=h
  obtain ⟨a,cp,b,o,rfl,hcap,hmax,ha,hc⟩:=h1'
  rw [cps_length] at *
  unfold maxLen at hmax
  have hfew:=hk.few
  refine givesV_of_tr Tryz.func123 rfl rfl ?_
  (refine s_r ?_;refine tr_new (rk_alloc rfl) rfl (fun _ _=>?_);refine n_r ?_;refine tr_new (rk_alloc rfl) rfl (fun _ _=>?_);refine n_t ?_;refine tr_seq ?_;refine s_r ?_;refine m_v rfl rfl ?_;refine n_t ?_;refine tr_block ?_)
  rename_i b4 hb4 b5 hb5
  refine tr_for (fun r:Nat=>r ≤ 8) (fun r=>[(11,.int .i64 r),(5,.pointer (some ⟨b5,0,none⟩)),(4,.pointer (some ⟨b4,0,none⟩)),(0,.slice a l.length cp),(1,.int .i64 n)]) (fun r=>[blk b5 (.cells (outV l n r).toArray 99 (0,0)),blk b4 (.cells #[.string ⟨#[]⟩,.string ⟨#[]⟩,.string ⟨#[]⟩,.string ⟨#[]⟩,.string ⟨#[]⟩,.string ⟨#[]⟩,.string ⟨#[]⟩,.string ⟨#[]⟩] 99 (0,0))]) (fun r=>8 - r) ?_ ?_
  · apply tr_start 0 (by omega)
    case hs1=>exact .cons rfl (.cons rfl (.cons rfl (.cons rfl (.cons rfl .nil))))
    case ht=>
      show Takes _ [blk b5 (.cells #[.string ⟨#[]⟩,.string ⟨#[]⟩,.string ⟨#[]⟩,.string ⟨#[]⟩,.string ⟨#[]⟩,.string ⟨#[]⟩,.string ⟨#[]⟩,.string ⟨#[]⟩] 99 (0,0)),blk b4 (.cells #[.string ⟨#[]⟩,.string ⟨#[]⟩,.string ⟨#[]⟩,.string ⟨#[]⟩,.string ⟨#[]⟩,.string ⟨#[]⟩,.string ⟨#[]⟩,.string ⟨#[]⟩] 99 (0,0))] _
      exact .cons .here (.cons .here .nil)
  intro r hr
  by_cases hlt:r < 8
  · have hset:=outV_set (l:=l) (n:=n) hlt
    have hsl:r * 1 + 1 ≤ (outV l n r).length:=by rw [outV_len];omega
    (refine s_r ?_;refine tr_val (rk_lss (.of rfl) (.of rfl)) rfl ?_;refine n_t ?_;refine tr_seq ?_;refine c_d rfl (fun hcd=>?_) (fun _=>by omega);refine s_t ?_;refine tr_seq ?_;refine tr_block ?_;refine s_r ?_;refine m_v rfl rfl ?_;refine a_s rfl rfl ?_;refine n_r ?_)
    with_reducible apply tr_new
    case hr=>
      with_reducible apply rk_make (l:=32) (cp:=32)
      case hx=>exact Is.of rfl
      case hy=>exact Is.of rfl
      case hl=>omega
      case hb=>omega
      case hz=>rfl
      case hsz=>rfl
      case h63=>omega
    case hd=>rfl
    intro g hg
    rw [show (List.replicate 32 (Value.int .u8 0).cells.toList).flatten = fillV 0 from rfl]
    (refine a_s rfl rfl ?_;refine n_t ?_;refine tr_seq ?_;refine s_r ?_;refine m_v rfl rfl ?_;refine tr_val (rk_len_slice (.of rfl)) rfl ?_;refine m_v rfl rfl ?_;refine n_t ?_;refine tr_block ?_)
    refine tr_for (fun k:Nat=>k ≤ 32) (fun k=>[(17,.int .i64 k),(16,.int .i64 32),(7,.slice (some ⟨g,0,none⟩) 32 32),(6,.int .i64 (r:Nat)),(11,.int .i64 (r:Nat)),(5,.pointer (some ⟨b5,0,none⟩)),(4,.pointer (some ⟨b4,0,none⟩)),(0,.slice a l.length cp),(1,.int .i64 n)]) (fun k=>[blk g (.cells (fillV k).toArray 5 (0,0)),blk b5 (.cells (outV l n r).toArray 99 (0,0)),blk b4 (.cells #[.string ⟨#[]⟩,.string ⟨#[]⟩,.string ⟨#[]⟩,.string ⟨#[]⟩,.string ⟨#[]⟩,.string ⟨#[]⟩,.string ⟨#[]⟩,.string ⟨#[]⟩] 99 (0,0))]) (fun k=>32 - k) ?_ ?_
    · apply tr_start 0 (by omega)
      case hs1=>exact .cons rfl (.cons rfl (.cons rfl (.cons rfl (.cons rfl (.cons rfl (.cons rfl (.cons rfl (.cons rfl .nil))))))))
      case ht=>exact .cons .here (.cons .here (.cons .here .nil))
    intro k hk2
    by_cases hlk:k < 32
    · have hset2:=fillV_set hlk
      have hsl2:k * 1 + 1 ≤ (fillV k).length:=by rw [fillV_len hk2];omega
      (refine s_r ?_;refine tr_val (rk_lss (.of rfl) (.of rfl)) rfl ?_;refine n_t ?_;refine tr_seq ?_;refine c_d rfl (fun hcd=>?_) (fun _=>by omega);refine s_t ?_;refine tr_seq ?_;refine tr_block ?_;refine s_r ?_;refine m_v rfl rfl ?_;refine a_s rfl rfl ?_;refine n_t ?_;refine tr_region ?_;refine m_v rfl rfl ?_;refine m_v rfl rfl ?_;refine tr_val (rk_indexAddr (.of rfl) (.of rfl) rfl (by omega) hcd norm1_) rfl ?_;refine tr_store (.of rfl) (.of rfl) .here rfl rfl (okc_cons rfl okc_nil) hsl2 hset2 ?_;refine tr_nil ?_;refine tr_blk_normal ?_;refine tr_then ?_;refine tr_region ?_;refine tr_val (rk_add (.of rfl) (.of rfl) (ini (by omega))) rfl ?_;refine m_v rfl rfl ?_;refine n_t ?_)
      apply tr_next (k + 1) (show k + 1 ≤ 32 by omega) (by omega)
      case hs1=>exact .cons rfl (.cons rfl (.cons rfl (.cons rfl (.cons rfl (.cons rfl (.cons rfl (.cons rfl (.cons rfl .nil))))))))
      case ht=>exact .cons .here (.cons .here (.cons .here .nil))
    · obtain rfl:k = 32:=by omega
      rw [show fillV 32 = lineV l n (r:Nat) 0 from rfl]
      (refine s_r ?_;refine tr_val (rk_lss (.of rfl) (.of rfl)) rfl ?_;refine n_t ?_;refine tr_seq ?_;refine c_d rfl (fun _=>by omega) (fun hcd=>?_);refine x_t ?_;refine tr_then_exit ?_;refine tr_blk_exit ?_;refine tr_then ?_;refine tr_seq ?_;refine s_r ?_;refine m_v rfl rfl ?_;refine tr_val (rk_len_slice (.of rfl)) rfl ?_;refine m_v rfl rfl ?_;refine n_t ?_;refine tr_block ?_)
      refine tr_for (fun j:Nat=>j ≤ l.length) (fun j=>[(26,.int .i64 j),(25,.int .i64 l.length),(24,.slice a l.length cp),(7,.slice (some ⟨g,0,none⟩) 32 32),(6,.int .i64 (r:Nat)),(11,.int .i64 (r:Nat)),(5,.pointer (some ⟨b5,0,none⟩)),(4,.pointer (some ⟨b4,0,none⟩)),(0,.slice a l.length cp),(1,.int .i64 n)]) (fun j=>[blk g (.cells (lineV l n (r:Nat) j).toArray 5 (0,0)),blk b5 (.cells (outV l n r).toArray 99 (0,0)),blk b4 (.cells #[.string ⟨#[]⟩,.string ⟨#[]⟩,.string ⟨#[]⟩,.string ⟨#[]⟩,.string ⟨#[]⟩,.string ⟨#[]⟩,.string ⟨#[]⟩,.string ⟨#[]⟩] 99 (0,0))]) (fun j=>l.length - j) ?_ ?_
      · apply tr_start 0 (by omega)
        case hs1=>exact .cons rfl (.cons rfl (.cons rfl (.cons rfl (.cons rfl (.cons rfl (.cons rfl (.cons rfl (.cons rfl (.cons rfl .nil)))))))))
        case ht=>exact .cons .here (.cons .here (.cons .here .nil))
      intro j hj
      by_cases hlj:j < l.length
      · have ha':=ha (cps_ne hlj)
        subst ha'
        have hcell:=(hc j _ (cps_get hlj)).2
        have ho:=hk.ok j hlj
        have hskip:=line_skip (l:=l) (n:=n) (r:=(r:Nat)) hlj
        have hcopy:=line_copy (n:=n) (r:=(r:Nat)) hk hlj
        have hon:=onC_iff (x:=nthC l j) (n:=n) (r:=(r:Nat))
        have hll:=lineV_len l n (r:Nat) j
        rw [← nthC_get hlj] at hcell
        generalize nthC l j = x at hcell ho hskip hcopy hon
        unfold Cp.cells at hcell
        have hco:=ho.co
        have hfit:=ho.fit
        (refine s_r ?_;refine tr_val (rk_lss (.of rfl) (.of rfl)) rfl ?_;refine n_t ?_;refine tr_seq ?_;refine c_d rfl (fun hcd=>?_) (fun _=>by omega);refine s_t ?_;refine tr_seq ?_;refine tr_block ?_;refine s_r ?_;refine tr_val (rk_indexAddr (.of rfl) (.of rfl) rfl (by omega) hcd norm1_) rfl ?_;refine tr_val (rk_loadN (.of rfl) (Ats.base hcell rfl) rfl) rfl ?_;refine tr_new (rk_alloc rfl) rfl (fun _ _=>?_);refine tr_store (.of rfl) (.of rfl) .here rfl rfl (okc_cons rfl (okc_cons rfl (okc_cons rfl (okc_cons rfl (okc_cons rfl okc_nil))))) (lenb rfl) norm_ ?_;refine n_r ?_;refine f_a rfl rfl norm0_ ?_;refine tr_val (rk_load1 (.of rfl) (At.lit .here rfl)) rfl ?_;refine m_v rfl rfl ?_;refine tr_val (rk_eql (.of rfl) (.of rfl)) rfl ?_;refine m_v rfl rfl ?_;refine tr_vG1 rfl rfl inferInstance (fun hg hgp=>(rk_fieldAddr (.of rfl) norm0_)) rfl ?_;refine tr_vG1 rfl rfl inferInstance (fun hg hgp=>(rk_fieldAddr (.ofg hg rfl) norm0_)) rfl ?_;refine tr_vG1 rfl rfl inferInstance (fun hg hgp=>(rk_load1 (.ofg hg rfl) (At.lit .here rfl))) rfl ?_;refine v_g rfl rfl rfl rfl ?_;refine tr_vG1 rfl rfl inferInstance (fun hg hgp=>(rk_leq (.ofg hg rfl) (.ofg hg rfl))) rfl ?_;refine tr_val (rk_pick_and (.of rfl) rfl) rfl ?_;refine m_v rfl rfl ?_;refine v_g rfl rfl rfl rfl ?_;refine tr_vG1 rfl rfl inferInstance (fun hg hgp=>(rk_fieldAddr (.of rfl) norm0_)) rfl ?_;refine tr_vG1 rfl rfl inferInstance (fun hg hgp=>(rk_fieldAddr (.ofg hg rfl) norm0_)) rfl ?_;refine tr_vG1 rfl rfl inferInstance (fun hg hgp=>(rk_load1 (.ofg hg rfl) (At.lit .here rfl))) rfl ?_;refine tr_vG1 rfl rfl inferInstance (fun hg hgp=>(rk_lss (.ofg hg rfl) (.ofg hg rfl))) rfl ?_;refine tr_val (rk_pick_and (.of rfl) rfl) rfl ?_;refine n_t ?_;refine c_b rfl (fun hcd=>?_) (fun hcd=>?_);rotate_left;refine tr_skip ?_;refine tr_blk_normal ?_;refine tr_then ?_;refine tr_region ?_;refine tr_val (rk_add (.of rfl) (.of rfl) (ini (by omega))) rfl ?_;refine m_v rfl rfl ?_;refine n_t ?_;rotate_right)
        · have hon':onC x n (r:Nat) = true:=hon.2 ⟨hcd.1.1,hcd.1.2,hcd.2⟩
          have he:=hcopy hon'
          with_reducible refine tr_draw 6 (by kernel_rfl) ?_
          (refine a_m rfl rfl ?_;refine a_f rfl rfl norm0_ ?_;refine any_val (rk_load1 (.of rfl) (At.lit .here rfl)) rfl ?_;refine any_val (rk_slice_l (.of rfl) (.of rfl) (by omega) (by omega)) rfl ?_;refine a_f rfl rfl norm0_ ?_;refine any_val (rk_load1 (.of rfl) (At.lit .here rfl)) rfl ?_)
          with_reducible refine any_end ?_
          rw [line_sl hco]
          with_reducible apply tr_copyS
          case hx=>exact Is.of rfl
          case hy=>exact Is.of rfl
          case ht=>exact Take.there .here
          case hn=>omega
          case hfit=>rw [hll];omega
          case hd=>rfl
          rw [he]
          (refine tr_nil ?_;refine tr_blk_normal ?_;refine tr_then ?_;refine tr_region ?_;refine tr_val (rk_add (.of rfl) (.of rfl) (ini (by omega))) rfl ?_;refine m_v rfl rfl ?_;refine n_t ?_)
          apply tr_next (j + 1) (show j + 1 ≤ l.length by omega) (by omega)
          case hs1=>exact .cons rfl (.cons rfl (.cons rfl (.cons rfl (.cons rfl (.cons rfl (.cons rfl (.cons rfl (.cons rfl (.cons rfl .nil)))))))))
          case ht=>exact .cons .here (.cons (.there .here) (.cons (.there .here) .nil))
        · have hon':onC x n (r:Nat) = false:=by
            rw [Bool.eq_false_iff]
            intro h
            have:=hon.1 h
            omega
          rw [← hskip hon']
          apply tr_next (j + 1) (show j + 1 ≤ l.length by omega) (by omega)
          case hs1=>exact .cons rfl (.cons rfl (.cons rfl (.cons rfl (.cons rfl (.cons rfl (.cons rfl (.cons rfl (.cons rfl (.cons rfl .nil)))))))))
          case ht=>exact .cons (.there .here) (.cons (.there .here) (.cons (.there .here) .nil))
      · obtain rfl:j = l.length:=by omega
        rw [line_end]
        (refine s_r ?_;refine tr_val (rk_lss (.of rfl) (.of rfl)) rfl ?_;refine n_t ?_;refine tr_seq ?_;refine c_d rfl (fun _=>by omega) (fun hcd=>?_);refine x_t ?_;refine tr_then_exit ?_;refine tr_blk_exit ?_;refine tr_then ?_;refine tr_region ?_;refine m_v rfl rfl ?_;refine m_v rfl rfl ?_)
        with_reducible apply tr_val (V:=.string (strOf (rowB l n (r:Nat))))
        case hr=>
          with_reducible apply rk_convBSn
          case hx=>exact Is.of rfl
          case hv=>exact Ats.blk (by exact .here) (cellsAt_all (n:=32) (by rw [List.length_map,rowB_len]))
          case hl=>exact rowB_len _ _ _
        case hd=>rfl
        rw [strOf_strB]
        (refine tr_val (rk_indexAddrA (.of rfl) (.of rfl) (by omega) (by assumption) norm1_) rfl ?_;refine tr_store (.of rfl) (.of rfl) (.there .here) rfl rfl (okc_cons rfl okc_nil) hsl hset ?_;refine tr_nil ?_;refine tr_blk_normal ?_;refine tr_then ?_;refine tr_region ?_;refine tr_val (rk_add (.of rfl) (.of rfl) (ini (by omega))) rfl ?_;refine m_v rfl rfl ?_;refine n_t ?_)
        apply tr_next (r + 1) (show r + 1 ≤ 8 by omega) (by omega)
        case hs1=>exact .cons rfl (.cons rfl (.cons rfl (.cons rfl (.cons rfl .nil))))
        case ht=>exact .cons .here (.cons (.there .here) .nil)
  · obtain rfl:r = 8:=by omega
    rw [outV_8,scr_lit]
    (refine s_r ?_;refine tr_val (rk_lss (.of rfl) (.of rfl)) rfl ?_;refine n_t ?_;refine tr_seq ?_;refine c_d rfl (fun _=>by omega) (fun hcd=>?_);refine x_t ?_;refine tr_then_exit ?_;refine tr_blk_exit ?_;refine tr_then ?_;refine s_r ?_;refine tr_val (rk_loadB (.of rfl) .here norm_ (by rfl)) rfl ?_;refine tr_store (.of rfl) (.of rfl) (.there .here) rfl rfl (okc_cons rfl (okc_cons rfl (okc_cons rfl (okc_cons rfl (okc_cons rfl (okc_cons rfl (okc_cons rfl (okc_cons rfl okc_nil)))))))) (lenb rfl) norm_ ?_;refine n_t ?_;refine tr_ret ?_;refine tr_retE rfl (ends1cB rfl inferInstance rfl .here norm_ (by rfl)) ?_)
    rfl
def shnE (l:List Cp) (n:Int):Int:=firstF [capE l,withinF n 0 10000000]
theorem shnE_zero {l:List Cp} {n:Int}:shnE l n = 0 ↔ CapOk l ∧ 0 ≤ n ∧ n ≤ 10000000:=by
  unfold shnE
  rw [firstF_zero]
  simp only [List.mem_cons,List.not_mem_nil,or_false,forall_eq_or_imp,forall_eq,withinF_zero,capE_zero]
def noneL:List ByteArray:=List.replicate 8 ⟨#[]⟩
def shnX (l:List Cp) (n:Int):List ByteArray:=if shnE l n = 0 then scrL l n else noneL
theorem shownX_c {lv:Value} {l:List Cp} {n:Int} {w:World} (h:Rd w lv 5 (cps l)) (hs:∀ x ∈ l,x.tx.size ≤ 1000000000):GivesV Tryz.prog 60 [lv,.int .i64 n] w (.tuple #[.agg ((shnX l n).map Value.string).toArray,.int .i64 (shnE l n)]):=by
  have hz:=shnE_zero (l:=l) (n:=n)
  refine givesV_of_tr Tryz.func60 rfl rfl ?_
  unfold shnX
  generalize hE:shnE l n = E at hz ⊢
  unfold shnE at hE
  by_cases h0:E = 0
  · obtain ⟨hk,hn⟩:=hz.1 h0
    rw [if_pos h0,h0]
    rw [h0] at hE
    clear hz h0
    (refine s_r ?_;refine tr_new (rk_alloc rfl) rfl (fun _ _=>?_);refine a_s rfl rfl ?_;refine n_t ?_;refine tr_seq ?_;refine s_r ?_;refine m_v rfl rfl ?_;refine tr_callV (rk_call (.of rfl) (.cons (.of rfl) .nil) inferInstance normc_) rfl (fun w' hm'=>(chkCaps_c (Rd.keeps h (Mem.keeps hm')) hs)) ?_;refine m_v rfl rfl ?_;refine tr_callV (rk_call (.of rfl) (.cons (.of rfl) (.cons (.of rfl) (.cons (.of rfl) .nil))) inferInstance normc_) rfl (fun w' hm'=>(within_c n 0 10000000 w')) ?_;refine tr_new (rk_sliceLit (.cons (.of rfl) (.cons (.of rfl) .nil)) rfl rfl rfl rfl) rfl (fun _ _=>?_);refine tr_callV (rk_call (.of rfl) (.cons (.of rfl) .nil) inferInstance normc_) rfl (fun w' hm'=>(first_pB (Mem.rdBlk hm' .here rfl rfl) (IntL.cons (IntL.cons IntL.nil)))) ?_;refine a_s rfl rfl ?_;refine n_r ?_;refine m_v rfl rfl ?_;refine tr_val (rk_neq (.of rfl) (.of rfl)) rfl ?_;refine n_t ?_;refine c_d rfl (fun _=>by omega) (fun hcd=>?_);refine s_t ?_;refine s_r ?_;refine m_v rfl rfl ?_;refine m_v rfl rfl ?_;refine tr_callV (rk_call (.of rfl) (.cons (.of rfl) (.cons (.of rfl) .nil)) inferInstance normc_) rfl (fun w' hm'=>(shown_c (Rd.keeps h (Mem.keeps hm')) hk)) ?_;refine tr_store (.of rfl) (.of rfl) (.there .here) rfl rfl (okc_cons rfl (okc_cons rfl (okc_cons rfl (okc_cons rfl (okc_cons rfl (okc_cons rfl (okc_cons rfl (okc_cons rfl okc_nil)))))))) (lenb rfl) norm_ ?_;refine a_s rfl rfl ?_;refine n_t ?_;refine tr_ret ?_;refine tr_retE rfl (endsCT rfl inferInstance rfl .here norm_ (by rfl) (by rfl)) ?_)
    rw [setCells_full (by simp [scrL]),cellsAt_all (by simp [scrL])]
  · rw [if_neg h0]
    clear hz
    (refine s_r ?_;refine tr_new (rk_alloc rfl) rfl (fun _ _=>?_);refine a_s rfl rfl ?_;refine n_t ?_;refine tr_seq ?_;refine s_r ?_;refine m_v rfl rfl ?_;refine tr_callV (rk_call (.of rfl) (.cons (.of rfl) .nil) inferInstance normc_) rfl (fun w' hm'=>(chkCaps_c (Rd.keeps h (Mem.keeps hm')) hs)) ?_;refine m_v rfl rfl ?_;refine tr_callV (rk_call (.of rfl) (.cons (.of rfl) (.cons (.of rfl) (.cons (.of rfl) .nil))) inferInstance normc_) rfl (fun w' hm'=>(within_c n 0 10000000 w')) ?_;refine tr_new (rk_sliceLit (.cons (.of rfl) (.cons (.of rfl) .nil)) rfl rfl rfl rfl) rfl (fun _ _=>?_);refine tr_callV (rk_call (.of rfl) (.cons (.of rfl) .nil) inferInstance normc_) rfl (fun w' hm'=>(first_pB (Mem.rdBlk hm' .here rfl rfl) (IntL.cons (IntL.cons IntL.nil)))) ?_;refine a_s rfl rfl ?_;refine n_r ?_;refine m_v rfl rfl ?_;refine tr_val (rk_neq (.of rfl) (.of rfl)) rfl ?_;refine n_t ?_;refine c_d rfl (fun hcd=>?_) (fun _=>by omega);refine s_r ?_;refine tr_val (rk_buildL .nil norm_) rfl ?_;refine m_v rfl rfl ?_;refine tr_store (.of rfl) (.of rfl) (.there .here) rfl rfl (okc_cons rfl (okc_cons rfl (okc_cons rfl (okc_cons rfl (okc_cons rfl (okc_cons rfl (okc_cons rfl (okc_cons rfl okc_nil)))))))) (lenb rfl) norm_ ?_;refine a_s rfl rfl ?_;refine n_t ?_;refine r_t ?_;refine tr_retE rfl (endsCT rfl inferInstance rfl .here norm_ (by rfl) (by rfl)) ?_)
    rw [hE];rfl
end Go.Proofs.A1
namespace Go.Proofs
open Go.Shelf Go.RowKit Go.Lib Go.Sort
set_option maxHeartbeats 1000000 in
theorem Tryz.begins126 (a b:A1.Cp) (W:World):Calls Tryz.prog 126 #[.agg (A1.Cp.cells a).toArray,.agg (A1.Cp.cells b).toArray] W fun e w'=>e = .returned (.int .i64 (Lib.compareInt a.fr b.fr)) ∧ ∃ q os',w' = grow (W.drewN q) os':=by
  have hcon:=fun W'=>AnyG.cmp_Compare_int Tryz.cmpInt a.fr b.fr W'
  change ∀ W',Calls Tryz.prog 170 _ _ _ at hcon
  generalize Lib.compareInt a.fr b.fr = r at hcon ⊢
  unfold A1.Cp.cells
  go_enter Tryz.func126,Tryz.ntmps126
  go_wp2_with (go_at_call 170;refine (hcon _).mono ?_;rintro e w' ⟨rfl,rfl⟩)
  go_ret
  exact ⟨rfl,0,_,by rw [alloc_eq_grow,alloc_eq_grow,grow_grow];rfl⟩
end Go.Proofs
namespace Go.Proofs
open Go.Shelf
def Tryz.lays189_ren:Go.Shelf.Ren:=⟨fun | 189=>127 | 125=>187 | 257=>188 | 128=>232 | 129=>233 | 294=>234 | 295=>235 | 296=>236 | 297=>237 | 298=>238 | 299=>239 | 216=>240 | 300=>241 | 301=>242 | 328=>264 | 329=>260 | 330=>261 | 331=>265 | 332=>266 | 215=>219 | 343=>282 | n=>n,fun | 28=>45 | 3=>3 | 46=>206 | 0=>0 | 51=>91 | 53=>335 | 4=>4 | 183=>328 | 182=>327 | 131=>253 | 5=>5 | 9=>9 | 218=>357 | 222=>207 | 228=>379 | 229=>73 | n=>n,fun | n=>n⟩
theorem Tryz.lays189:Go.Proofs.Lays.n189 Tryz.prog Tryz.lays189_ren:={
  mixed:=by kernel_rfl
  f125:=Tryz.func187.trans (congrArg some (by kernel_rfl))
  f128:=Tryz.func232.trans (congrArg some (by kernel_rfl))
  f129:=Tryz.func233.trans (congrArg some (by kernel_rfl))
  f189:=Tryz.func127.trans (congrArg some (by kernel_rfl))
  f215:=Tryz.func219.trans (congrArg some (by kernel_rfl))
  f216:=Tryz.func240.trans (congrArg some (by kernel_rfl))
  f257:=Tryz.func188.trans (congrArg some (by kernel_rfl))
  f294:=Tryz.func234.trans (congrArg some (by kernel_rfl))
  f295:=Tryz.func235.trans (congrArg some (by kernel_rfl))
  f296:=Tryz.func236.trans (congrArg some (by kernel_rfl))
  f297:=Tryz.func237.trans (congrArg some (by kernel_rfl))
  f298:=Tryz.func238.trans (congrArg some (by kernel_rfl))
  f299:=Tryz.func239.trans (congrArg some (by kernel_rfl))
  f300:=Tryz.func241.trans (congrArg some (by kernel_rfl))
  f301:=Tryz.func242.trans (congrArg some (by kernel_rfl))
  f328:=Tryz.func264.trans (congrArg some (by kernel_rfl))
  f329:=Tryz.func260.trans (congrArg some (by kernel_rfl))
  f330:=Tryz.func261.trans (congrArg some (by kernel_rfl))
  f331:=Tryz.func265.trans (congrArg some (by kernel_rfl))
  f332:=Tryz.func266.trans (congrArg some (by kernel_rfl))
  f343:=Tryz.func282.trans (congrArg some (by kernel_rfl))
  t0:=Tryz.underlying0
  a0:=Tryz.isAgg0
  z0:=Tryz.sizeOf0
  v0:=Tryz.zeroValue0
  t3:=Tryz.underlying3
  a3:=Tryz.isAgg3
  z3:=Tryz.sizeOf3
  v3:=Tryz.zeroValue3
  t4:=Tryz.underlying4
  a4:=Tryz.isAgg4
  z4:=Tryz.sizeOf4
  v4:=Tryz.zeroValue4
  t5:=Tryz.underlying5
  a5:=Tryz.isAgg5
  z5:=Tryz.sizeOf5
  v5:=Tryz.zeroValue5
  t9:=Tryz.underlying9
  a9:=Tryz.isAgg9
  z9:=Tryz.sizeOf9
  v9:=Tryz.zeroValue9
  t28:=Tryz.underlying45
  a28:=Tryz.isAgg45
  z28:=Tryz.sizeOf45
  v28:=Tryz.zeroValue45
  t46:=Tryz.underlying206
  a46:=Tryz.isAgg206
  z46:=Tryz.sizeOf206
  v46:=Tryz.zeroValue206
  t51:=Tryz.underlying91
  a51:=Tryz.isAgg91
  z51:=Tryz.sizeOf91
  v51:=Tryz.zeroValue91
  t53:=Tryz.underlying335
  a53:=Tryz.isAgg335
  z53:=Tryz.sizeOf335
  v53:=Tryz.zeroValue335
  t131:=Tryz.underlying253
  a131:=Tryz.isAgg253
  z131:=Tryz.sizeOf253
  v131:=Tryz.zeroValue253
  t182:=Tryz.underlying327
  a182:=Tryz.isAgg327
  z182:=Tryz.sizeOf327
  v182:=Tryz.zeroValue327
  t183:=Tryz.underlying328
  a183:=Tryz.isAgg328
  z183:=Tryz.sizeOf328
  v183:=Tryz.zeroValue328
  t218:=Tryz.underlying357
  a218:=Tryz.isAgg357
  z218:=Tryz.sizeOf357
  v218:=Tryz.zeroValue357
  t222:=Tryz.underlying207
  a222:=Tryz.isAgg207
  z222:=Tryz.sizeOf207
  v222:=Tryz.zeroValue207
  t228:=Tryz.underlying379
  a228:=Tryz.isAgg379
  z228:=Tryz.sizeOf379
  v228:=Tryz.zeroValue379
  t229:=Tryz.underlying73
  a229:=Tryz.isAgg73
  z229:=Tryz.sizeOf73
  v229:=Tryz.zeroValue73 }
open Go.Sort Go.RowKit in
theorem Tryz.slices_Sort_int (blk off cap:Nat) (zs:List Int) (w:World) (hH:Holds (Value.int .i64) w blk off zs.toArray) (hblk:blk < w.heap.size) (hsz:zs.length < 4611686018427387904) :
    Calls Tryz.prog 127 #[.slice (some ⟨blk,off,none⟩) zs.length cap] w fun e w'=>
      e = .returned (.tuple #[]) ∧ ∃ n os,w' = grow (putRow (Value.int .i64) (Sort.ahead w n) blk off (zs.mergeSort fun x y=>decide (x ≤ y)).toArray) os:=Any.slices_Sort_int Tryz.lays189 blk off cap zs w hH hblk hsz
end Go.Proofs
