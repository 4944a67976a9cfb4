/- Parts of the proof: U30 U36 U39 U37 U3A U4E U4F U33 U4G U4H. -/
import Derived.Test.YthhidjfahmcekaaGreatDoorQM10
import Derived.Test.YthhidjfahmcekaaGreatDoorQM06
import Derived.Test.YthhidjfahmcekaaGreatDoorQM18
import Derived.Test.YthhidjfahmcekaaGreatDoorQM20
set_option linter.unusedSectionVars false
set_option linter.unusedVariables false
set_option linter.unusedSimpArgs false
namespace Go.Proofs.A1
open Go Go.SL
theorem rateF_if (r:Rt):rateF r = if (r.fr ≠ 24 ∧ r.fr ≠ 25) ∧ r.fr ≠ 30 then 13 else if r.dr = true ∧ r.fr ≠ 30 then 24 else 0:=by
  unfold rateF
  by_cases a:r.fr = 24 <;> by_cases b:r.fr = 25 <;> by_cases c:r.fr = 30 <;> cases d:r.dr <;> simp [a,b,c,d,whenF,firstF]
theorem rateQ_c (r:Rt) (w:World):GivesV Tryz.prog 21 [.agg r.cells.toArray] w (.int .i64 (rateF r)):=by
  have he:=rateF_if r
  unfold Rt.cells
  refine givesV_of_tr Tryz.func21 rfl rfl ?_
  (refine s_r ?_;refine tr_new (rk_box (.of rfl) rfl) rfl (fun _ _=>?_);refine a_s rfl rfl ?_;refine n_t ?_;refine tr_seq ?_;refine s_r ?_;refine f_a rfl rfl norm0_ ?_;refine tr_val (rk_load1 (.of rfl) (At.lit .here rfl)) rfl ?_;refine tr_val (rk_neq (.of rfl) (.of rfl)) rfl ?_;refine m_v rfl rfl ?_;refine tr_vG1 rfl rfl inferInstance (fun hg hgp=>(rk_fieldAddr (.of rfl) norm0_)) rfl ?_;refine tr_vG1 rfl rfl inferInstance (fun hg hgp=>(rk_load1 (.ofg hg rfl) (At.lit .here rfl))) rfl ?_;refine tr_vG1 rfl rfl inferInstance (fun hg hgp=>(rk_neq (.ofg hg rfl) (.of rfl))) rfl ?_;refine tr_val (rk_pick_and (.of rfl) rfl) rfl ?_;refine m_v rfl rfl ?_;refine tr_vG1 rfl rfl inferInstance (fun hg hgp=>(rk_fieldAddr (.of rfl) norm0_)) rfl ?_;refine tr_vG1 rfl rfl inferInstance (fun hg hgp=>(rk_load1 (.ofg hg rfl) (At.lit .here rfl))) rfl ?_;refine tr_vG1 rfl rfl inferInstance (fun hg hgp=>(rk_neq (.ofg hg rfl) (.of rfl))) rfl ?_;refine tr_val (rk_pick_and (.of rfl) rfl) rfl ?_;refine n_t ?_;refine c_b rfl (fun hcd=>?_) (fun hcd=>?_);refine s_r ?_;refine a_s rfl rfl ?_;refine n_t ?_;refine r_t ?_;refine tr_retE rfl (ends1 rfl rfl) ?_;rotate_left;refine s_t ?_;refine tr_seq ?_;refine s_r ?_;refine f_a rfl rfl norm0_ ?_;refine tr_val (rk_load1 (.of rfl) (At.lit .here rfl)) rfl ?_;refine m_v rfl rfl ?_;refine tr_vG1 rfl rfl inferInstance (fun hg hgp=>(rk_fieldAddr (.of rfl) norm0_)) rfl ?_;refine tr_vG1 rfl rfl inferInstance (fun hg hgp=>(rk_load1 (.ofg hg rfl) (At.lit .here rfl))) rfl ?_;refine tr_vG1 rfl rfl inferInstance (fun hg hgp=>(rk_neq (.ofg hg rfl) (.of rfl))) rfl ?_;refine tr_val (rk_pick_and (.of rfl) rfl) rfl ?_;refine n_t ?_;refine c_b rfl (fun hcd=>?_) (fun hcd=>?_);refine s_r ?_;refine a_s rfl rfl ?_;refine n_t ?_;refine r_t ?_;refine tr_retE rfl (ends1 rfl rfl) ?_;rotate_left;refine s_t ?_;refine s_r ?_;refine a_s rfl rfl ?_;refine n_t ?_;refine tr_ret ?_;refine tr_retE rfl (ends1 rfl rfl) ?_;rotate_right;rotate_right)
  · rw [he,if_pos hcd]
  · rename_i h1 _
    rw [he,if_neg (by omega),if_pos hcd]
  · rename_i h1 _
    rw [he,if_neg (by omega),if_neg (by rintro ⟨a,b⟩;rcases hcd with h | h;(rw [a] at h;cases h);exact h b)]
theorem dropQ_c (r:Rt) (l:Lb) (w:World):GivesV Tryz.prog 99 [.agg r.cells.toArray,.agg l.cells.toArray] w (.bool (drpB r l)):=by
  unfold Rt.cells Lb.cells
  refine givesV_of_tr Tryz.func99 rfl rfl ?_
  (refine s_r ?_;refine tr_new (rk_box (.of rfl) rfl) rfl (fun _ _=>?_);refine tr_new (rk_box (.of rfl) rfl) rfl (fun _ _=>?_);refine a_s rfl rfl ?_;refine n_r ?_;refine f_a rfl rfl norm0_ ?_;refine tr_val (rk_load1 (.of rfl) (At.lit (.there .here) rfl)) rfl ?_;refine m_v rfl rfl ?_;refine tr_vG1 rfl rfl inferInstance (fun hg hgp=>(rk_fieldAddr (.of rfl) norm0_)) rfl ?_;refine tr_vG1 rfl rfl inferInstance (fun hg hgp=>(rk_load1 (.ofg hg rfl) (At.lit .here rfl))) rfl ?_;refine tr_vG1 rfl rfl inferInstance (fun hg hgp=>(rk_remT (.ofg hg rfl) (.of rfl) (by omega))) rfl ?_;refine tr_vG1 rfl rfl inferInstance (fun hg hgp=>(rk_neq (.ofg hg rfl) (.of rfl))) rfl ?_;refine tr_val (rk_pick_and (.of rfl) rfl) rfl ?_;refine m_v rfl rfl ?_;refine tr_vG1 rfl rfl inferInstance (fun hg hgp=>(rk_fieldAddr (.of rfl) norm0_)) rfl ?_;refine tr_vG1 rfl rfl inferInstance (fun hg hgp=>(rk_load1 (.ofg hg rfl) (At.lit .here rfl))) rfl ?_;refine tr_vG1 rfl rfl inferInstance (fun hg hgp=>(rk_eql (.ofg hg rfl) (.of rfl))) rfl ?_;refine tr_val (rk_pick_and (.of rfl) rfl) rfl ?_;refine m_v rfl rfl ?_;refine tr_vG1 rfl rfl inferInstance (fun hg hgp=>(rk_fieldAddr (.of rfl) norm0_)) rfl ?_;refine tr_vG1 rfl rfl inferInstance (fun hg hgp=>(rk_load1 (.ofg hg rfl) (At.lit .here rfl))) rfl ?_;refine tr_vG1 rfl rfl inferInstance (fun hg hgp=>(rk_lss (.ofg hg rfl) (.of rfl))) rfl ?_;refine tr_val (rk_pick_and (.of rfl) rfl) rfl ?_;refine a_s rfl rfl ?_;refine n_t ?_;refine tr_ret ?_;refine tr_retE rfl (ends1 rfl rfl) ?_)
  unfold drpB
  rw [← tmod_ne]
  cases r.dr <;> simp [Bool.and_assoc]
theorem lblE_at (r:Rt) (l:Lb):lblE r l = if rateF r ≠ 0 then rateF r else if firstF [withinF l.h 0 23,withinF l.m 0 59,withinF l.s 0 59,withinF l.f 0 (IntKind.i64.wrap (r.fr - 1))] ≠ 0 then firstF [withinF l.h 0 23,withinF l.m 0 59,withinF l.s 0 59,withinF l.f 0 (IntKind.i64.wrap (r.fr - 1))] else if drpB r l = true then 7 else 0:=by
  rw [← lblE_wrap]
  by_cases h0:rateF r = 0 <;> by_cases h1:withinF l.h 0 23 = 0 <;> by_cases h2:withinF l.m 0 59 = 0 <;> by_cases h3:withinF l.s 0 59 = 0 <;> by_cases h4:withinF l.f 0 (IntKind.i64.wrap (r.fr - 1)) = 0 <;> cases h5:drpB r l <;> simp [h0,h1,h2,h3,h4,firstF,whenF]
theorem lblQ_c (r:Rt) (l:Lb) (w:World):GivesV Tryz.prog 22 [.agg r.cells.toArray,.agg l.cells.toArray] w (.int .i64 (lblE r l)):=by
  have he:=lblE_at r l
  refine givesV_of_tr Tryz.func22 rfl rfl ?_
  unfold Rt.cells Lb.cells
  by_cases h0:rateF r = 0
  · (refine s_r ?_;refine tr_new (rk_box (.of rfl) rfl) rfl (fun _ _=>?_);refine tr_new (rk_box (.of rfl) rfl) rfl (fun _ _=>?_);refine a_s rfl rfl ?_;refine n_t ?_;refine tr_seq ?_;refine s_r ?_;refine tr_val (rk_loadB (.of rfl) (.there .here) norm_ (by rfl)) rfl ?_;refine tr_callV (rk_call (.of rfl) (.cons (.of rfl) .nil) inferInstance normc_) rfl (fun w' hm'=>(rateQ_c r w')) ?_;refine a_s rfl rfl ?_;refine n_r ?_;refine m_v rfl rfl ?_;refine tr_val (rk_neq (.of rfl) (.of rfl)) rfl ?_;refine n_t ?_;refine c_d rfl (fun _=>by omega) (fun hcd=>?_);refine s_t ?_;refine tr_seq ?_;refine tr_seq ?_)
    with_reducible refine tr_draw 15 (by kernel_rfl) ?_
    (refine a_f rfl rfl norm0_ ?_;refine any_val (rk_load1 (.of rfl) (At.lit .here rfl)) rfl ?_;refine any_call (rk_call (.of rfl) (.cons (.of rfl) (.cons (.of rfl) (.cons (.of rfl) .nil))) inferInstance normc_) rfl (fun w' hm'=>(range_q _ 0 23 w')) ?_;refine a_f rfl rfl norm0_ ?_;refine any_val (rk_load1 (.of rfl) (At.lit .here rfl)) rfl ?_;refine any_call (rk_call (.of rfl) (.cons (.of rfl) (.cons (.of rfl) (.cons (.of rfl) .nil))) inferInstance normc_) rfl (fun w' hm'=>(range_q _ 0 59 w')) ?_;refine a_f rfl rfl norm0_ ?_;refine any_val (rk_load1 (.of rfl) (At.lit .here rfl)) rfl ?_;refine any_call (rk_call (.of rfl) (.cons (.of rfl) (.cons (.of rfl) (.cons (.of rfl) .nil))) inferInstance normc_) rfl (fun w' hm'=>(range_q _ 0 59 w')) ?_;refine a_f rfl rfl norm0_ ?_;refine any_val (rk_load1 (.of rfl) (At.lit .here rfl)) rfl ?_;refine a_f rfl rfl norm0_ ?_;refine any_val (rk_load1 (.of rfl) (At.lit (.there .here) rfl)) rfl ?_)
    refine any_val (rk_subw (.of rfl) (.of rfl)) rfl ?_
    refine any_call (rk_call (.of rfl) (.cons (.of rfl) (.cons (.of rfl) (.cons (.of rfl) .nil))) inferInstance normc_) rfl (fun w' hm'=>(range_q _ 0 _ w')) ?_
    with_reducible refine any_end ?_
    (refine tr_new (rk_sliceLit (.cons (.of rfl) (.cons (.of rfl) (.cons (.of rfl) (.cons (.of rfl) .nil)))) rfl rfl rfl rfl) rfl (fun _ _=>?_);refine tr_callV (rk_call (.of rfl) (.cons (.of rfl) .nil) inferInstance normc_) rfl (fun w' hm'=>(first_qB (Mem.rdBlk hm' .here rfl rfl) (IntL.cons (IntL.cons (IntL.cons (IntL.cons IntL.nil)))))) ?_;refine a_s rfl rfl ?_;refine n_r ?_;refine m_v rfl rfl ?_;refine tr_val (rk_neq (.of rfl) (.of rfl)) rfl ?_;refine n_t ?_;refine c_d rfl (fun hcd=>?_) (fun hcd=>?_);refine s_r ?_;refine m_v rfl rfl ?_;refine a_s rfl rfl ?_;refine n_t ?_;refine r_t ?_;refine tr_retE rfl (ends1 rfl rfl) ?_;rotate_left;refine s_t ?_;refine tr_seq ?_;refine s_r ?_;refine tr_val (rk_loadB (.of rfl) (.there (.there .here)) norm_ (by rfl)) rfl ?_;refine tr_val (rk_loadB (.of rfl) (.there .here) norm_ (by rfl)) rfl ?_;refine tr_callV (rk_call (.of rfl) (.cons (.of rfl) (.cons (.of rfl) .nil)) inferInstance normc_) rfl (fun w' hm'=>(dropQ_c r l w')) ?_;refine n_t ?_;refine c_b rfl (fun hcd=>?_) (fun hcd=>?_);refine s_r ?_;refine a_s rfl rfl ?_;refine n_t ?_;refine r_t ?_;refine tr_retE rfl (ends1 rfl rfl) ?_;rotate_left;refine s_t ?_;refine s_r ?_;refine a_s rfl rfl ?_;refine n_t ?_;refine tr_ret ?_;refine tr_retE rfl (ends1 rfl rfl) ?_;rotate_right;rotate_right)
    · rw [he,if_neg (by simpa using h0),if_pos hcd]
    · rename_i h1
      rw [he,if_neg (by simpa using h0),if_neg (by assumption),if_pos hcd]
    · rename_i h1
      rw [he,if_neg (by simpa using h0),if_neg (by assumption),if_neg (by simpa using hcd)]
  · (refine s_r ?_;refine tr_new (rk_box (.of rfl) rfl) rfl (fun _ _=>?_);refine tr_new (rk_box (.of rfl) rfl) rfl (fun _ _=>?_);refine a_s rfl rfl ?_;refine n_t ?_;refine tr_seq ?_;refine s_r ?_;refine tr_val (rk_loadB (.of rfl) (.there .here) norm_ (by rfl)) rfl ?_;refine tr_callV (rk_call (.of rfl) (.cons (.of rfl) .nil) inferInstance normc_) rfl (fun w' hm'=>(rateQ_c r w')) ?_;refine a_s rfl rfl ?_;refine n_r ?_;refine m_v rfl rfl ?_;refine tr_val (rk_neq (.of rfl) (.of rfl)) rfl ?_;refine n_t ?_;refine c_d rfl (fun hcd=>?_) (fun _=>by omega);refine s_r ?_;refine m_v rfl rfl ?_;refine a_s rfl rfl ?_;refine n_t ?_;refine r_t ?_;refine tr_retE rfl (ends1 rfl rfl) ?_)
    rw [he,if_pos h0]
end Go.Proofs.A1
namespace Go.Proofs.A1
open Go Go.SL
end Go.Proofs.A1
namespace Go.Proofs.A1
open Go Go.SL
section
variable {P:Program} {c:Cx} {sl:Slots} {hs:List Asn} {dst:Option Tmp} {ty:TypeId} {pos:String} {af:Array Edge} {g:Option (Nat × Bool)}
theorem rk_quo8 {t u:TypeId} {x y:Operand} {a b:Int} (hx:Is sl x (.int .u8 a)) (hy:Is sl y (.int .u8 b)) (h0:0 ≤ a ∧ a ≤ 255) (hb:0 < b) :
    RunV P c sl hs ⟨dst,.binOp .quo t x y u,ty,pos,af,g⟩ (.int .u8 (a / b)):=
  rk_bin hx hy fun w=>by
    have hw:IntKind.u8.wrap (a.tdiv b) = a / b:=by
      rw [Int.tdiv_eq_ediv_of_nonneg h0.1]
      have h2:0 ≤ a / b:=Int.ediv_nonneg h0.1 (by omega)
      have h3:a / b ≤ a:=Int.ediv_le_self _ h0.1
      exact u8w ⟨by omega,by omega⟩
    simp [eqGuard_int,binOp,Op.intDiv,show ¬ b = 0 from by omega,hw]
end
end Go.Proofs.A1
namespace Go.Proofs.A1
open Go Go.SL
end Go.Proofs.A1
namespace Go.Proofs.A1
open Go Go.SL
theorem rk_eqlsT {P:Program} {c:Cx} {sl:Slots} {hs:List Asn} {dst:Option Tmp} {ty:TypeId} {pos:String} {af:Array Edge} {g:Option (Nat × Bool)} {t u:TypeId} {x y:Operand} {a b:ByteArray} (hx:Is sl x (.string a)) (hy:Is sl y (.string b)) (e:a = b) :
    RunV P c sl hs ⟨dst,.binOp .eql t x y u,ty,pos,af,g⟩ (.bool true):=by
  have:=rk_eqls (P:=P) (c:=c) (hs:=hs) (dst:=dst) (ty:=ty) (pos:=pos) (af:=af) (g:=g) (t:=t) (u:=u) hx hy
  rwa [decide_eq_true e] at this
end Go.Proofs.A1
namespace Go.Proofs.A1
open Go Go.SL
theorem indexByte_mem:∀ (l:List UInt8) (c:UInt8),0 ≤ Lib.indexByte l c ↔ c ∈ l
  | [],c=>by simp [Lib.indexByte]
  | b :: l, c => by
    have ih:=indexByte_mem l c
    have hge:=Lib.indexByte_ge l c
    unfold Lib.indexByte
    by_cases e:b = c
    · subst e;simp
    · have e2:(b == c) = false:=by simpa using e
      rw [e2,if_neg (by decide)]
      have e3:¬ c = b:=fun h=>e h.symm
      rw [List.mem_cons]
      by_cases h:Lib.indexByte l c = -1
      · rw [h] at ih ⊢
        simp only [beq_self_eq_true,if_true]
        constructor
        · intro h;omega
        · rintro (h | h)
          · exact absurd h e3
          · exact absurd (ih.2 h) (by decide)
      · have e4:(Lib.indexByte l c == -1) = false:=by simpa using h
        rw [e4,if_neg (by decide)]
        constructor
        · intro _;exact .inr (ih.1 (by omega))
        · intro _;omega
theorem one_c {b:Nat} {of:ByteArray} {r:List UInt8} {wr:Bool} {w:World} {fp:List Nat} (hr:r.length ≤ 5000) (hn:fp.Nodup) (hs:Sats (hp w) [blk b (.cells #[.string (bsL r),.bool wr] 251)] fp) :
    Gives Tryz.prog 150 [.pointer (some ⟨b,0,none⟩),.string of] w fp (fun _:Unit=>True) (fun _=>.int .u8 ((oneS (toL of) r wr).1.toNat:Nat)) (fun _=>[blk b (.cells #[.string (bsL (oneS (toL of) r wr).2.1),.bool (oneS (toL of) r wr).2.2] 251)]):=by
  refine givesM_of_tr Tryz.func150 rfl rfl hn hs ?_
  cases r with
  | nil =>
    have e:oneS (toL of) [] wr = (0,[],true):=by unfold oneS;rw [if_pos (.inl rfl)]
    rw [e]
    show Tr _ _ _ [blk b (.cells #[.string ⟨#[]⟩,.bool wr] 251)] _
    (refine s_r ?_;refine a_s rfl rfl ?_;refine n_t ?_;refine tr_seq ?_;refine s_r ?_;refine m_v rfl rfl ?_;refine tr_val (rk_nilCheck (.of rfl)) rfl ?_;refine f_a rfl rfl norm0_ ?_;refine tr_val (rk_load1 (.of rfl) (At.lit .here rfl)) rfl ?_;refine tr_val (rk_eqlsT (.of rfl) (.of rfl) rfl) rfl ?_;refine m_v rfl rfl ?_;refine tr_gOff rfl rfl rfl ?_;refine tr_gOff rfl rfl rfl ?_;refine tr_gOff rfl rfl rfl ?_;refine tr_gOff rfl rfl rfl ?_;refine tr_gOff rfl rfl rfl ?_;refine tr_gOff rfl rfl rfl ?_;refine tr_gOff rfl rfl rfl ?_;refine tr_gOff rfl rfl rfl ?_;refine tr_val (rk_pickB (.of rfl) (.of rfl) (.of rfl) rfl) rfl ?_;refine n_t ?_;refine tr_cond_t (.of rfl) ?_;refine s_r ?_;refine m_v rfl rfl ?_;refine tr_val (rk_nilCheck (.of rfl)) rfl ?_;refine f_a rfl rfl norm0_ ?_;refine tr_store (.of rfl) (.of rfl) .here rfl rfl (okc_cons rfl okc_nil) (lenb rfl) norm_ ?_;refine n_r ?_;refine a_s rfl rfl ?_;refine n_t ?_;refine r_t ?_)
    skip
    first | with_reducible apply tr_retM | with_reducible apply tr_endM
    case he=>exact ends1 rfl rfl
    case hR=>
      intro w' hm'
      exact gives_end () trivial (show Takes _ [blk b (.cells #[.string ⟨#[]⟩,.bool true] 251)] _ by exact .cons .here .nil) hm' rfl
  | cons x t =>
    have hsz:(bsL (x :: t)).size = t.length + 1:=by rw [bsL_size];rfl
    have hne:¬ bsL (x :: t) = ⟨#[]⟩:=fun e=>by have:=bsL_eq_nil.1 e;cases this
    have hx1:(bsL (x :: t)).extract 0 (Int.toNat 1) = ⟨#[x]⟩:=toL_inj (by rw [toL_extract,toL_bsL];rfl)
    have hx2:(bsL (x :: t)).extract (Int.toNat 1) (bsL (x :: t)).size = bsL t:=toL_inj (by
      rw [toL_extract,toL_bsL,toL_bsL,bsL_size,show Int.toNat 1 = 1 from rfl,List.take_of_length_le (Nat.le_refl _)];rfl)
    have hx3:(bsL (x :: t)).extract 1 (bsL (x :: t)).size = bsL t:=hx2
    have hb0:=bt_hd (s:=bsL (x :: t)) (by omega)
    rw [toL_bsL] at hb0
    have hcn:∀ w',GivesV Tryz.prog 201 [.string of,.string ((bsL (x :: t)).extract 0 (Int.toNat 1))] w' (.bool (decide (x ∈ toL of))):=fun w'=>by
      have:=contains_p of x w'
      rw [hx1]
      rwa [decide_eq_decide.2 (indexByte_mem (toL of) x)] at this
    by_cases hm:x ∈ toL of
    · have e:oneS (toL of) (x :: t) wr = (x,t,wr):=by
        unfold oneS
        rw [if_neg]
        · rfl
        · rw [not_or,Decidable.not_not];exact ⟨by simp,hm⟩
      rw [e]
      rw [decide_eq_true hm] at hcn
      (refine s_r ?_;refine a_s rfl rfl ?_;refine n_t ?_;refine tr_seq ?_;refine s_r ?_;refine m_v rfl rfl ?_;refine tr_val (rk_nilCheck (.of rfl)) rfl ?_;refine f_a rfl rfl norm0_ ?_;refine tr_val (rk_load1 (.of rfl) (At.lit .here rfl)) rfl ?_;refine tr_val (rk_eqls (.of rfl) (.of rfl)) rfl ?_;refine m_v rfl rfl ?_;refine v_g rfl rfl rfl rfl ?_;refine v_g rfl rfl rfl rfl ?_;refine tr_vG1 rfl rfl inferInstance (fun hg hgp=>(rk_nilCheck (.ofg hg rfl))) rfl ?_;refine tr_vG1 rfl rfl inferInstance (fun hg hgp=>(rk_fieldAddr (.ofg hg rfl) norm0_)) rfl ?_;refine tr_vG1 rfl rfl inferInstance (fun hg hgp=>(rk_load1 (.ofg hg rfl) (At.lit .here rfl))) rfl ?_;refine tr_vG1 rfl rfl inferInstance (fun hg hgp=>(rk_sliceS_h (.ofg hg rfl) (.of rfl) (by omega) (by omega))) rfl ?_;refine tr_callVG1 rfl rfl (fun hg=>(rk_call (.of rfl) (.cons (.ofg hg rfl) (.cons (.ofg hg rfl) .nil)) inferInstance normc_)) rfl (fun hg w' hm'=>(hcn w')) ?_;refine tr_vG1 rfl rfl inferInstance (fun hg hgp=>(rk_not (.ofg hg rfl))) rfl ?_;refine tr_val (rk_pick_or (.of rfl) rfl) rfl ?_;refine n_t ?_;refine tr_cond_f (.of rfl) ?_;refine s_t ?_;refine s_r ?_;refine m_v rfl rfl ?_;refine tr_val (rk_nilCheck (.of rfl)) rfl ?_;refine f_a rfl rfl norm0_ ?_;refine tr_val (rk_load1 (.of rfl) (At.lit .here rfl)) rfl ?_;refine tr_val (rk_indexS (.of rfl) (.of rfl) (by omega) (by omega)) rfl ?_;refine a_s rfl rfl ?_;refine n_r ?_;refine m_v rfl rfl ?_;refine m_v rfl rfl ?_;refine tr_val (rk_nilCheck (.of rfl)) rfl ?_;refine f_a rfl rfl norm0_ ?_;refine tr_val (rk_load1 (.of rfl) (At.lit .here rfl)) rfl ?_;refine tr_val (rk_sliceS_l (.of rfl) (.of rfl) (by omega) (by omega)) rfl ?_;refine tr_val (rk_nilCheck (.of rfl)) rfl ?_;refine f_a rfl rfl norm0_ ?_;refine tr_store (.of rfl) (.of rfl) .here rfl rfl (okc_cons rfl okc_nil) (lenb rfl) norm_ ?_;refine n_r ?_;refine m_v rfl rfl ?_;refine a_s rfl rfl ?_;refine n_t ?_;refine tr_ret ?_)
      rw [show Int.toNat 0 = 0 from rfl,hb0]
      try rw [hx2]
      try rw [hx3]
      first | with_reducible apply tr_retM | with_reducible apply tr_endM
      case he=>exact ends1 rfl rfl
      case hR=>
        intro w' hm'
        exact gives_end () trivial (show Takes _ [blk b (.cells #[.string (bsL t),.bool wr] 251)] _ by exact .cons .here .nil) hm' rfl
    · have e:oneS (toL of) (x :: t) wr = (0,x :: t,true):=by
        unfold oneS
        rw [if_pos (.inr hm)]
      rw [e]
      rw [decide_eq_false hm] at hcn
      (refine s_r ?_;refine a_s rfl rfl ?_;refine n_t ?_;refine tr_seq ?_;refine s_r ?_;refine m_v rfl rfl ?_;refine tr_val (rk_nilCheck (.of rfl)) rfl ?_;refine f_a rfl rfl norm0_ ?_;refine tr_val (rk_load1 (.of rfl) (At.lit .here rfl)) rfl ?_;refine tr_val (rk_eqls (.of rfl) (.of rfl)) rfl ?_;refine m_v rfl rfl ?_;refine v_g rfl rfl rfl rfl ?_;refine v_g rfl rfl rfl rfl ?_;refine tr_vG1 rfl rfl inferInstance (fun hg hgp=>(rk_nilCheck (.ofg hg rfl))) rfl ?_;refine tr_vG1 rfl rfl inferInstance (fun hg hgp=>(rk_fieldAddr (.ofg hg rfl) norm0_)) rfl ?_;refine tr_vG1 rfl rfl inferInstance (fun hg hgp=>(rk_load1 (.ofg hg rfl) (At.lit .here rfl))) rfl ?_;refine tr_vG1 rfl rfl inferInstance (fun hg hgp=>(rk_sliceS_h (.ofg hg rfl) (.of rfl) (by omega) (by omega))) rfl ?_;refine tr_callVG1 rfl rfl (fun hg=>(rk_call (.of rfl) (.cons (.ofg hg rfl) (.cons (.ofg hg rfl) .nil)) inferInstance normc_)) rfl (fun hg w' hm'=>(hcn w')) ?_;refine tr_vG1 rfl rfl inferInstance (fun hg hgp=>(rk_not (.ofg hg rfl))) rfl ?_;refine tr_val (rk_pick_or (.of rfl) rfl) rfl ?_;refine n_t ?_;refine tr_cond_t (.of rfl) ?_;refine s_r ?_;refine m_v rfl rfl ?_;refine tr_val (rk_nilCheck (.of rfl)) rfl ?_;refine f_a rfl rfl norm0_ ?_;refine tr_store (.of rfl) (.of rfl) .here rfl rfl (okc_cons rfl okc_nil) (lenb rfl) norm_ ?_;refine n_r ?_;refine a_s rfl rfl ?_;refine n_t ?_;refine r_t ?_)
      first | with_reducible apply tr_retM | with_reducible apply tr_endM
      case he=>exact ends1 rfl rfl
      case hR=>
        intro w' hm'
        exact gives_end () trivial (show Takes _ [blk b (.cells #[.string (bsL (x :: t)),.bool true] 251)] _ by exact .cons .here .nil) hm' rfl
end Go.Proofs.A1
namespace Go.Proofs.A1
open Go Go.SL
theorem pairS_len (r:List UInt8) (b:Bool):(pairS r b).2.1.length ≤ r.length:=by
  unfold pairS
  split
  · exact Nat.le_refl _
  · show (r.drop 2).length ≤ r.length
    rw [List.length_drop];omega
theorem oneS_len (of r:List UInt8) (b:Bool):(oneS of r b).2.1.length ≤ r.length:=by
  unfold oneS
  split
  · exact Nat.le_refl _
  · show r.tail.length ≤ r.length
    rw [List.length_tail];omega
theorem intC_nm {l:List UInt8} (h:nmB l = true):intC l = digV l:=by
  unfold nmB at h
  rw [Bool.and_eq_true] at h
  have:=numB_iff.1 h.1
  unfold intC
  rw [if_pos]
  rw [this.2.1,h.2];rfl
theorem psE_bad {l:List UInt8} (h4:¬ 4096 < l.length) (h:psB l = false):psE l = 25 ∧ psF l = Stm.zero:=by
  have e:psE l = 25:=by unfold psE;rw [if_neg h4,h];rfl
  refine ⟨e,?_⟩
  unfold psF;rw [if_neg (by rw [e];decide)]
theorem rk_neqiT {P:Program} {c:Cx} {sl:Slots} {hs:List Asn} {dst:Option Tmp} {ty:TypeId} {pos:String} {af:Array Edge} {g:Option (Nat × Bool)} {k:IntKind} {t u:TypeId} {x y:Operand} {a b:Int} (hx:Is sl x (.int k a)) (hy:Is sl y (.int k b)) (e:a ≠ b) :
    RunV P c sl hs ⟨dst,.binOp .neq t x y u,ty,pos,af,g⟩ (.bool true):=by
  have:=rk_neq (P:=P) (c:=c) (hs:=hs) (dst:=dst) (ty:=ty) (pos:=pos) (af:=af) (g:=g) (t:=t) (u:=u) hx hy
  rwa [decide_eq_true e] at this
set_option maxHeartbeats 2000000 in
theorem parse_c {s:ByteArray} (hs:s.size ≤ 5000) {w:World} (hG:GlobR w) (hM:MaxL w):GivesV Tryz.prog 82 [.string s] w (.tuple #[.agg (psF (toL s)).cells.toArray,.int .i64 (psE (toL s))]):=by
  have hl:=splL_le 32 (toL s)
  have hsl:=size_toL s
  rw [← size_toL] at hl
  refine givesV_of_tr Tryz.func82 rfl rfl ?_
  by_cases h4:4096 < s.size
  · have e:psE (toL s) = 26:=by unfold psE;rw [if_pos (by omega)]
    have e2:psF (toL s) = Stm.zero:=by unfold psF;rw [if_neg (by rw [e];decide)]
    rw [e,e2]
    (refine s_r ?_;refine tr_new (rk_alloc rfl) rfl (fun _ _=>?_);refine a_s rfl rfl ?_;refine n_t ?_;refine tr_seq ?_;refine s_r ?_;refine m_v rfl rfl ?_;refine tr_val (rk_len_string (.of rfl)) rfl ?_;refine tr_val (rk_gtr (.of rfl) (.of rfl)) rfl ?_;refine n_t ?_;refine c_d rfl (fun hcd=>?_) (fun _=>by omega);refine s_r ?_;refine tr_val (rk_buildL .nil norm_) rfl ?_;refine tr_store (.of rfl) (.of rfl) .here rfl rfl (okc_cons rfl (okc_cons rfl (okc_cons rfl (okc_cons rfl (okc_cons rfl (okc_cons rfl (okc_cons rfl okc_nil))))))) (lenb rfl) norm_ ?_;refine a_s rfl rfl ?_;refine n_t ?_;refine r_t ?_;refine tr_retE rfl (endsCT rfl inferInstance rfl .here norm_ (by rfl) (by rfl)) ?_)
    rfl
  have hbad:=psE_bad (l:=toL s) (by omega)
  (refine s_r ?_;refine tr_new (rk_alloc rfl) rfl (fun _ _=>?_);refine a_s rfl rfl ?_;refine n_t ?_;refine tr_seq ?_;refine s_r ?_;refine m_v rfl rfl ?_;refine tr_val (rk_len_string (.of rfl)) rfl ?_;refine tr_val (rk_gtr (.of rfl) (.of rfl)) rfl ?_;refine n_t ?_;refine c_d rfl (fun _=>by omega) (fun hcd=>?_);refine s_t ?_;refine s_r ?_;refine m_v rfl rfl ?_)
  with_reducible apply tr_call
  case hr=>exact rk_call (.of rfl) (.cons (.of rfl) (.cons (.of rfl) .nil)) inferInstance normc_
  case hd=>rfl
  case ht=>exact Takes.nil
  case hc=>
    intro w1 fp hm1 _ hs1
    obtain rfl:fp = []:=hs1
    exact split_p (c:=32) hs (hM.keeps hm1.keeps)
  intro g _
  dsimp only [id_eq,List.cons_append,List.nil_append]
  have hpos:=splL_pos 32 (toL s)
  have hpsB:psB (toL s) = (decide ((splL 32 (toL s)).length = 4) && (decide (wd (splL 32 (toL s)) 1 = [97,116]) && (lbB (wd (splL 32 (toL s)) 0) && (nmB (wd (splL 32 (toL s)) 2) && nmB (wd (splL 32 (toL s)) 3))))):=rfl
  have hpsS:psS (toL s) = ⟨⟨digV (wd (splL 32 (toL s)) 2),decide (atD (wd (splL 32 (toL s)) 0) 8 = 59)⟩,⟨d2 (wd (splL 32 (toL s)) 0) 0,d2 (wd (splL 32 (toL s)) 0) 3,d2 (wd (splL 32 (toL s)) 0) 6,d2 (wd (splL 32 (toL s)) 0) 9⟩,digV (wd (splL 32 (toL s)) 3)⟩:=rfl
  have hlw:=splL_len 32 (toL s)
  generalize splL 32 (toL s) = ws at *
  by_cases hl4:ws.length = 4
  case neg=>
    obtain ⟨e1,e2⟩:=hbad (by rw [hpsB,decide_eq_false hl4];rfl)
    rw [e1,e2]
    (refine a_s rfl rfl ?_;refine n_t ?_;refine tr_seq ?_;refine s_r ?_;refine m_v rfl rfl ?_;refine tr_val (rk_len_slice (.of rfl)) rfl ?_;refine tr_val (rk_neqiT (.of rfl) (.of rfl) (by omega)) rfl ?_;refine m_v rfl rfl ?_;refine tr_gOff rfl rfl rfl ?_;refine tr_gOff rfl rfl rfl ?_;refine tr_gOff rfl rfl rfl ?_;refine tr_gOff rfl rfl rfl ?_;refine tr_val (rk_pickB (.of rfl) (.of rfl) (.of rfl) rfl) rfl ?_;refine n_t ?_;refine tr_cond_t (.of rfl) ?_;refine s_r ?_;refine tr_val (rk_buildL .nil norm_) rfl ?_;refine tr_store (.of rfl) (.of rfl) (.there .here) rfl rfl (okc_cons rfl (okc_cons rfl (okc_cons rfl (okc_cons rfl (okc_cons rfl (okc_cons rfl (okc_cons rfl okc_nil))))))) (lenb rfl) norm_ ?_;refine a_s rfl rfl ?_;refine n_t ?_;refine r_t ?_;refine tr_retE rfl (endsCT rfl inferInstance rfl .here norm_ (by rfl) (by rfl)) ?_)
    rfl
  have q0:(strs ws)[0 * 1]? = some (.string (bsL (wd ws 0))):=wd_get (by omega)
  have q1:(strs ws)[1 * 1]? = some (.string (bsL (wd ws 1))):=wd_get (by omega)
  have q2:(strs ws)[2 * 1]? = some (.string (bsL (wd ws 2))):=wd_get (by omega)
  have q3:(strs ws)[3 * 1]? = some (.string (bsL (wd ws 3))):=wd_get (by omega)
  have lR:(wd ws 0).length ≤ 5000:=by
    have hm:wd ws 0 ∈ ws:=by unfold wd;rw [List.getD_eq_getElem?_getD,List.getElem?_eq_getElem (by omega)];exact List.getElem_mem _
    have:=hlw _ hm
    omega
  rw [decide_eq_true hl4,Bool.true_and] at hpsB
  rw [hl4]
  have hta:=tk_all (wd ws 0)
  have p2:∀ w',GivesV Tryz.prog 151 [.string (bsL (wd ws 2))] w' (.tuple #[.int .i64 (intC (wd ws 2)),.bool (nmB (wd ws 2))]):=fun w'=>by
    have:=plain_c (bsL (wd ws 2)) w'
    rwa [toL_bsL] at this
  have p3:∀ w',GivesV Tryz.prog 151 [.string (bsL (wd ws 3))] w' (.tuple #[.int .i64 (intC (wd ws 3)),.bool (nmB (wd ws 3))]):=fun w'=>by
    have:=plain_c (bsL (wd ws 3)) w'
    rwa [toL_bsL] at this
  have i2:=intC_nm (l:=wd ws 2)
  have i3:=intC_nm (l:=wd ws 3)
  have e1:bsL (wd ws 1) = ⟨#[97,116]⟩ ↔ wd ws 1 = [97,116]:=⟨fun h=>bsL_inj (show bsL (wd ws 1) = bsL [97,116] from h),fun h=>by rw [h];rfl⟩
  generalize wd ws 0 = R at *
  generalize wd ws 1 = W1 at *
  generalize wd ws 2 = W2 at *
  generalize wd ws 3 = W3 at *
  generalize intC W2 = I2 at *
  generalize intC W3 = I3 at *
  obtain ⟨n1,r1,f1,g1⟩:∃ n r f,tk1 R = (n,r,f):=⟨_,_,_,rfl⟩
  have h1:=g1
  unfold tk1 at h1
  try dsimp only at h1
  have l1:r1.length ≤ 5000:=by have:=pairS_len R false;rw [h1] at this;dsimp only at this;omega
  have c1:∀ (b:Nat) (w':World) (fp:List Nat),fp.Nodup → Sats (hp w') [blk b (.cells #[.string (bsL R),.bool false] 251)] fp → Gives Tryz.prog 149 [.pointer (some ⟨b,0,none⟩)] w' fp (fun _:Unit=>True) (fun _=>.int .i64 n1) (fun _=>[blk b (.cells #[.string (bsL r1),.bool f1] 251)]):=fun b w' fp hn hs=>by
    have:=pair_c lR hn hs
    rw [h1] at this
    exact this
  obtain ⟨n2,r2,f2,g2⟩:∃ n r f,tk2 R = (n,r,f):=⟨_,_,_,rfl⟩
  have h2:=g2
  unfold tk2 at h2
  rw [g1] at h2
  try dsimp only at h2
  have l2:r2.length ≤ 5000:=by have:=oneS_len [58] r1 f1;rw [h2] at this;dsimp only at this;omega
  have c2:∀ (b:Nat) (w':World) (fp:List Nat),fp.Nodup → Sats (hp w') [blk b (.cells #[.string (bsL r1),.bool f1] 251)] fp → Gives Tryz.prog 150 [.pointer (some ⟨b,0,none⟩),.string ⟨#[58]⟩] w' fp (fun _:Unit=>True) (fun _=>.int .u8 (n2.toNat:Nat)) (fun _=>[blk b (.cells #[.string (bsL r2),.bool f2] 251)]):=fun b w' fp hn hs=>by
    have:=one_c (of:=⟨#[58]⟩) l1 hn hs
    rw [show toL ⟨#[58]⟩ = [58] from rfl,h2] at this
    exact this
  obtain ⟨n3,r3,f3,g3⟩:∃ n r f,tk3 R = (n,r,f):=⟨_,_,_,rfl⟩
  have h3:=g3
  unfold tk3 at h3
  rw [g2] at h3
  try dsimp only at h3
  have l3:r3.length ≤ 5000:=by have:=pairS_len r2 f2;rw [h3] at this;dsimp only at this;omega
  have c3:∀ (b:Nat) (w':World) (fp:List Nat),fp.Nodup → Sats (hp w') [blk b (.cells #[.string (bsL r2),.bool f2] 251)] fp → Gives Tryz.prog 149 [.pointer (some ⟨b,0,none⟩)] w' fp (fun _:Unit=>True) (fun _=>.int .i64 n3) (fun _=>[blk b (.cells #[.string (bsL r3),.bool f3] 251)]):=fun b w' fp hn hs=>by
    have:=pair_c l2 hn hs
    rw [h3] at this
    exact this
  obtain ⟨n4,r4,f4,g4⟩:∃ n r f,tk4 R = (n,r,f):=⟨_,_,_,rfl⟩
  have h4:=g4
  unfold tk4 at h4
  rw [g3] at h4
  try dsimp only at h4
  have l4:r4.length ≤ 5000:=by have:=oneS_len [58] r3 f3;rw [h4] at this;dsimp only at this;omega
  have c4:∀ (b:Nat) (w':World) (fp:List Nat),fp.Nodup → Sats (hp w') [blk b (.cells #[.string (bsL r3),.bool f3] 251)] fp → Gives Tryz.prog 150 [.pointer (some ⟨b,0,none⟩),.string ⟨#[58]⟩] w' fp (fun _:Unit=>True) (fun _=>.int .u8 (n4.toNat:Nat)) (fun _=>[blk b (.cells #[.string (bsL r4),.bool f4] 251)]):=fun b w' fp hn hs=>by
    have:=one_c (of:=⟨#[58]⟩) l3 hn hs
    rw [show toL ⟨#[58]⟩ = [58] from rfl,h4] at this
    exact this
  obtain ⟨n5,r5,f5,g5⟩:∃ n r f,tk5 R = (n,r,f):=⟨_,_,_,rfl⟩
  have h5:=g5
  unfold tk5 at h5
  rw [g4] at h5
  try dsimp only at h5
  have l5:r5.length ≤ 5000:=by have:=pairS_len r4 f4;rw [h5] at this;dsimp only at this;omega
  have c5:∀ (b:Nat) (w':World) (fp:List Nat),fp.Nodup → Sats (hp w') [blk b (.cells #[.string (bsL r4),.bool f4] 251)] fp → Gives Tryz.prog 149 [.pointer (some ⟨b,0,none⟩)] w' fp (fun _:Unit=>True) (fun _=>.int .i64 n5) (fun _=>[blk b (.cells #[.string (bsL r5),.bool f5] 251)]):=fun b w' fp hn hs=>by
    have:=pair_c l4 hn hs
    rw [h5] at this
    exact this
  obtain ⟨n6,r6,f6,g6⟩:∃ n r f,tk6 R = (n,r,f):=⟨_,_,_,rfl⟩
  have h6:=g6
  unfold tk6 at h6
  rw [g5] at h6
  try dsimp only at h6
  have l6:r6.length ≤ 5000:=by have:=oneS_len [58,59] r5 f5;rw [h6] at this;dsimp only at this;omega
  have c6:∀ (b:Nat) (w':World) (fp:List Nat),fp.Nodup → Sats (hp w') [blk b (.cells #[.string (bsL r5),.bool f5] 251)] fp → Gives Tryz.prog 150 [.pointer (some ⟨b,0,none⟩),.string ⟨#[58,59]⟩] w' fp (fun _:Unit=>True) (fun _=>.int .u8 (n6.toNat:Nat)) (fun _=>[blk b (.cells #[.string (bsL r6),.bool f6] 251)]):=fun b w' fp hn hs=>by
    have:=one_c (of:=⟨#[58,59]⟩) l5 hn hs
    rw [show toL ⟨#[58,59]⟩ = [58,59] from rfl,h6] at this
    exact this
  obtain ⟨n7,r7,f7,g7⟩:∃ n r f,tk7 R = (n,r,f):=⟨_,_,_,rfl⟩
  have h7:=g7
  unfold tk7 at h7
  rw [g6] at h7
  try dsimp only at h7
  have l7:r7.length ≤ 5000:=by have:=pairS_len r6 f6;rw [h7] at this;dsimp only at this;omega
  have c7:∀ (b:Nat) (w':World) (fp:List Nat),fp.Nodup → Sats (hp w') [blk b (.cells #[.string (bsL r6),.bool f6] 251)] fp → Gives Tryz.prog 149 [.pointer (some ⟨b,0,none⟩)] w' fp (fun _:Unit=>True) (fun _=>.int .i64 n7) (fun _=>[blk b (.cells #[.string (bsL r7),.bool f7] 251)]):=fun b w' fp hn hs=>by
    have:=pair_c l6 hn hs
    rw [h7] at this
    exact this
  have hcs:∀ w',Keeps [] w w' → GivesV Tryz.prog 40 [.agg #[.int .i64 I2,.bool (decide ((n6.toNat:Int) = 59)),.int .i64 n1,.int .i64 n3,.int .i64 n5,.int .i64 n7,.int .i64 I3]] w' (.int .i64 (stmE ⟨⟨I2,decide ((n6.toNat:Int) = 59)⟩,⟨n1,n3,n5,n7⟩,I3⟩)):=fun w' hk=>chkStamp_c ⟨⟨I2,decide ((n6.toNat:Int) = 59)⟩,⟨n1,n3,n5,n7⟩,I3⟩ w' (hG.keeps hk)
  rw [g7,g1,g3,g5,g6] at hta
  dsimp only at hta
  have hgood:W1 = [97,116] → (((f7 = false ∧ ¬ bsL r7 ≠ ⟨#[]⟩) ∧ nmB W2 = true) ∧ nmB W3 = true) → psB (toL s) = true ∧ psS (toL s) = ⟨⟨I2,decide ((n6.toNat:Int) = 59)⟩,⟨n1,n3,n5,n7⟩,I3⟩:=by
    rintro hw ⟨⟨⟨hf,hr⟩,h2⟩,h3⟩
    have hr':r7 = []:=bsL_eq_nil.1 (Decidable.not_not.1 hr)
    have hlb:=hta.1.2 ⟨hf,hr'⟩
    obtain ⟨q1,q2,q3,q4,q5⟩:=hta.2 hlb
    refine ⟨by rw [hpsB,decide_eq_true hw,hlb,h2,h3];rfl,?_⟩
    have q6:decide ((n6.toNat:Int) = 59) = decide (atD R 8 = 59):=by
      rw [← q5]
      exact decide_eq_decide.2 ⟨fun h=>UInt8.toNat.inj (by have:(59:UInt8).toNat = 59:=rfl;omega),fun h=>by rw [h];rfl⟩
    rw [hpsS,i2 h2,i3 h3,q1,q2,q3,q4,q6]
  (refine a_s rfl rfl ?_;refine n_t ?_;refine tr_seq ?_;refine s_r ?_;refine m_v rfl rfl ?_;refine tr_val (rk_len_slice (.of rfl)) rfl ?_;refine tr_val (rk_neq (.of rfl) (.of rfl)) rfl ?_;refine m_v rfl rfl ?_;refine v_g rfl rfl rfl rfl ?_;refine tr_vG1 rfl rfl inferInstance (fun hg hgp=>(rk_indexAddr (.ofg hg rfl) (.of rfl) rfl (by omega) (by omega) norm1_)) rfl ?_;refine tr_vG1 rfl rfl inferInstance (fun hg hgp=>(rk_load1 (.ofg hg rfl) (At.blkL .here q1))) rfl ?_;refine tr_vG1 rfl rfl inferInstance (fun hg hgp=>(rk_neqs (.ofg hg rfl) (.of rfl))) rfl ?_;refine tr_val (rk_pick_or (.of rfl) rfl) rfl ?_;refine n_t ?_;refine c_d rfl (fun hcd=>?_) (fun hcd=>?_);refine s_r ?_;refine tr_val (rk_buildL .nil norm_) rfl ?_;refine tr_store (.of rfl) (.of rfl) (.there .here) rfl rfl (okc_cons rfl (okc_cons rfl (okc_cons rfl (okc_cons rfl (okc_cons rfl (okc_cons rfl (okc_cons rfl okc_nil))))))) (lenb rfl) norm_ ?_;refine a_s rfl rfl ?_;refine n_t ?_;refine r_t ?_;refine tr_retE rfl (endsCT rfl inferInstance rfl .here norm_ (by rfl) (by rfl)) ?_;rotate_left;refine s_t ?_;refine s_r ?_;refine m_v rfl rfl ?_;refine tr_val (rk_indexAddr (.of rfl) (.of rfl) rfl (by omega) (by omega) norm1_) rfl ?_;refine tr_val (rk_load1 (.of rfl) (At.blkL .here q0)) rfl ?_;refine tr_val (rk_buildL (.cons (.of rfl) .nil) norm_) rfl ?_;refine tr_new (rk_box (.of rfl) rfl) rfl (fun _ _=>?_);refine a_s rfl rfl ?_;refine n_r ?_;refine m_v rfl rfl ?_;refine tr_val (rk_makeFunc' (.cons (.of rfl) .nil) .nil) rfl ?_;refine a_s rfl rfl ?_;refine n_r ?_;refine tr_new (rk_alloc rfl) rfl (fun _ _=>?_);refine n_r ?_;refine m_v rfl rfl ?_;rotate_right)
  · obtain ⟨e3,e4⟩:=hbad (by rw [hpsB,decide_eq_false (fun h=>hcd (e1.2 h))];rfl)
    rw [e3,e4];rfl
  with_reducible apply tr_call
  case hr=>exact rk_call (.of rfl) .nil inferInstance normc_
  case hd=>rfl
  case hc=>exact fun w1 fp1 hm1 hn1 hs1=>c1 _ w1 fp1 hn1 hs1
  case ht=>exact .cons (.there .here) .nil
  intro _ _
  dsimp only [List.cons_append,List.nil_append]
  (refine f_a rfl rfl norm0_ ?_;refine f_a rfl rfl norm0_ ?_;refine tr_store (.of rfl) (.of rfl) (.there .here) rfl rfl (okc_cons rfl okc_nil) (lenb rfl) norm_ ?_;refine n_r ?_;refine m_v rfl rfl ?_)
  with_reducible apply tr_call
  case hr=>exact rk_call (.of rfl) (.cons (.of rfl) (.cons (.of rfl) .nil)) inferInstance normc_
  case hd=>rfl
  case hc=>exact fun w1 fp1 hm1 hn1 hs1=>c2 _ w1 fp1 hn1 hs1
  case ht=>exact .cons (.there .here) .nil
  intro _ _
  dsimp only [List.cons_append,List.nil_append]
  (refine n_r ?_;refine m_v rfl rfl ?_)
  with_reducible apply tr_call
  case hr=>exact rk_call (.of rfl) .nil inferInstance normc_
  case hd=>rfl
  case hc=>exact fun w1 fp1 hm1 hn1 hs1=>c3 _ w1 fp1 hn1 hs1
  case ht=>exact .cons .here .nil
  intro _ _
  dsimp only [List.cons_append,List.nil_append]
  (refine f_a rfl rfl norm0_ ?_;refine f_a rfl rfl norm0_ ?_;refine tr_store (.of rfl) (.of rfl) (.there .here) rfl rfl (okc_cons rfl okc_nil) (lenb rfl) norm_ ?_;refine n_r ?_;refine m_v rfl rfl ?_)
  with_reducible apply tr_call
  case hr=>exact rk_call (.of rfl) (.cons (.of rfl) (.cons (.of rfl) .nil)) inferInstance normc_
  case hd=>rfl
  case hc=>exact fun w1 fp1 hm1 hn1 hs1=>c4 _ w1 fp1 hn1 hs1
  case ht=>exact .cons (.there .here) .nil
  intro _ _
  dsimp only [List.cons_append,List.nil_append]
  (refine n_r ?_;refine m_v rfl rfl ?_)
  with_reducible apply tr_call
  case hr=>exact rk_call (.of rfl) .nil inferInstance normc_
  case hd=>rfl
  case hc=>exact fun w1 fp1 hm1 hn1 hs1=>c5 _ w1 fp1 hn1 hs1
  case ht=>exact .cons .here .nil
  intro _ _
  dsimp only [List.cons_append,List.nil_append]
  (refine f_a rfl rfl norm0_ ?_;refine f_a rfl rfl norm0_ ?_;refine tr_store (.of rfl) (.of rfl) (.there .here) rfl rfl (okc_cons rfl okc_nil) (lenb rfl) norm_ ?_;refine n_r ?_;refine m_v rfl rfl ?_)
  with_reducible apply tr_call
  case hr=>exact rk_call (.of rfl) (.cons (.of rfl) (.cons (.of rfl) .nil)) inferInstance normc_
  case hd=>rfl
  case hc=>exact fun w1 fp1 hm1 hn1 hs1=>c6 _ w1 fp1 hn1 hs1
  case ht=>exact .cons (.there .here) .nil
  intro _ _
  dsimp only [List.cons_append,List.nil_append]
  (refine tr_val (rk_eql (.of rfl) (.of rfl)) rfl ?_;refine f_a rfl rfl norm0_ ?_;refine f_a rfl rfl norm0_ ?_;refine tr_store (.of rfl) (.of rfl) (.there .here) rfl rfl (okc_cons rfl okc_nil) (lenb rfl) norm_ ?_;refine n_r ?_;refine m_v rfl rfl ?_)
  with_reducible apply tr_call
  case hr=>exact rk_call (.of rfl) .nil inferInstance normc_
  case hd=>rfl
  case hc=>exact fun w1 fp1 hm1 hn1 hs1=>c7 _ w1 fp1 hn1 hs1
  case ht=>exact .cons (.there .here) .nil
  intro _ _
  dsimp only [List.cons_append,List.nil_append]
  (refine f_a rfl rfl norm0_ ?_;refine f_a rfl rfl norm0_ ?_;refine tr_store (.of rfl) (.of rfl) (.there .here) rfl rfl (okc_cons rfl okc_nil) (lenb rfl) norm_ ?_;refine n_r ?_;refine m_v rfl rfl ?_;refine tr_val (rk_indexAddr (.of rfl) (.of rfl) rfl (by omega) (by omega) norm1_) rfl ?_;refine tr_val (rk_load1 (.of rfl) (At.blkL (.there (.there .here)) q2)) rfl ?_)
  (refine tr_callV (rk_call (.of rfl) (.cons (.of rfl) .nil) inferInstance normc_) rfl (fun w' hm'=>(p2 w')) ?_;refine m_v rfl rfl ?_;refine tr_val (rk_extract (.of rfl) rfl) rfl ?_;refine tr_val (rk_extract (.of rfl) rfl) rfl ?_;refine a_s rfl rfl ?_;refine a_s rfl rfl ?_;refine n_r ?_;refine m_v rfl rfl ?_;refine tr_val (rk_indexAddr (.of rfl) (.of rfl) rfl (by omega) (by omega) norm1_) rfl ?_;refine tr_val (rk_load1 (.of rfl) (At.blkL (.there (.there .here)) q3)) rfl ?_;refine tr_callV (rk_call (.of rfl) (.cons (.of rfl) .nil) inferInstance normc_) rfl (fun w' hm'=>(p3 w')) ?_;refine m_v rfl rfl ?_;refine tr_val (rk_extract (.of rfl) rfl) rfl ?_;refine tr_val (rk_extract (.of rfl) rfl) rfl ?_;refine a_s rfl rfl ?_;refine a_s rfl rfl ?_;refine n_t ?_;refine tr_seq ?_;refine s_r ?_;refine m_v rfl rfl ?_;refine tr_val (rk_nilCheck (.of rfl)) rfl ?_;refine f_a rfl rfl norm0_ ?_;refine tr_val (rk_load1 (.of rfl) (At.lit (.there .here) rfl)) rfl ?_;refine m_v rfl rfl ?_;refine v_g rfl rfl rfl rfl ?_;refine tr_vG1 rfl rfl inferInstance (fun hg hgp=>(rk_nilCheck (.ofg hg rfl))) rfl ?_;refine tr_vG1 rfl rfl inferInstance (fun hg hgp=>(rk_fieldAddr (.ofg hg rfl) norm0_)) rfl ?_;refine tr_vG1 rfl rfl inferInstance (fun hg hgp=>(rk_load1 (.ofg hg rfl) (At.lit (.there .here) rfl))) rfl ?_;refine tr_vG1 rfl rfl inferInstance (fun hg hgp=>(rk_neqs (.ofg hg rfl) (.of rfl))) rfl ?_;refine tr_val (rk_pick_or (.of rfl) rfl) rfl ?_;refine m_v rfl rfl ?_;refine v_g rfl rfl rfl rfl ?_;refine tr_vG1 rfl rfl inferInstance (fun hg hgp=>(rk_not (.ofg hg rfl))) rfl ?_;refine tr_val (rk_pick_or (.of rfl) rfl) rfl ?_;refine m_v rfl rfl ?_;refine v_g rfl rfl rfl rfl ?_;refine tr_vG1 rfl rfl inferInstance (fun hg hgp=>(rk_not (.ofg hg rfl))) rfl ?_;refine tr_val (rk_pick_or (.of rfl) rfl) rfl ?_;refine n_t ?_;refine c_b rfl (fun hcd=>?_) (fun hcd=>?_);refine s_r ?_;refine tr_val (rk_buildL .nil norm_) rfl ?_;refine tr_store (.of rfl) (.of rfl) (.there (.there (.there .here))) rfl rfl (okc_cons rfl (okc_cons rfl (okc_cons rfl (okc_cons rfl (okc_cons rfl (okc_cons rfl (okc_cons rfl okc_nil))))))) (lenb rfl) norm_ ?_;refine a_s rfl rfl ?_;refine n_t ?_;refine r_t ?_;refine tr_retE rfl (endsCT rfl inferInstance rfl .here norm_ (by rfl) (by rfl)) ?_;rotate_left;refine s_t ?_;refine s_r ?_;refine m_v rfl rfl ?_;refine m_v rfl rfl ?_;refine f_a rfl rfl norm0_ ?_;refine f_a rfl rfl norm0_ ?_;refine tr_store (.of rfl) (.of rfl) .here rfl rfl (okc_cons rfl okc_nil) (lenb rfl) norm_ ?_;refine f_a rfl rfl norm0_ ?_;refine tr_store (.of rfl) (.of rfl) .here rfl rfl (okc_cons rfl okc_nil) (lenb rfl) norm_ ?_;refine n_t ?_;refine tr_seq ?_;refine s_r ?_;refine tr_val (rk_loadB (.of rfl) .here norm_ (by rfl)) rfl ?_;refine tr_callV (rk_call (.of rfl) (.cons (.of rfl) .nil) inferInstance normc_) rfl (fun w' hm'=>(hcs w' (Mem.keeps hm'))) ?_;refine a_s rfl rfl ?_;refine n_r ?_;refine m_v rfl rfl ?_;refine tr_val (rk_neq (.of rfl) (.of rfl)) rfl ?_;refine n_t ?_;refine c_d rfl (fun hcd=>?_) (fun hcd=>?_);refine s_r ?_;refine tr_val (rk_buildL .nil norm_) rfl ?_;refine m_v rfl rfl ?_;refine tr_store (.of rfl) (.of rfl) (.there (.there (.there .here))) rfl rfl (okc_cons rfl (okc_cons rfl (okc_cons rfl (okc_cons rfl (okc_cons rfl (okc_cons rfl (okc_cons rfl okc_nil))))))) (lenb rfl) norm_ ?_;refine a_s rfl rfl ?_;refine n_t ?_;refine r_t ?_;refine tr_retE rfl (endsCT rfl inferInstance rfl .here norm_ (by rfl) (by rfl)) ?_;rotate_left;refine s_t ?_;refine s_r ?_;refine tr_val (rk_loadB (.of rfl) .here norm_ (by rfl)) rfl ?_;refine tr_store (.of rfl) (.of rfl) (.there (.there (.there .here))) rfl rfl (okc_cons rfl (okc_cons rfl (okc_cons rfl (okc_cons rfl (okc_cons rfl (okc_cons rfl (okc_cons rfl okc_nil))))))) (lenb rfl) norm_ ?_;refine a_s rfl rfl ?_;refine n_t ?_;refine tr_ret ?_;refine tr_retE rfl (endsCT rfl inferInstance rfl .here norm_ (by rfl) (by rfl)) ?_;rotate_right;rotate_right)
  · have hb:psB (toL s) = false:=by
      rw [hpsB,Bool.eq_false_iff]
      intro h
      simp only [Bool.and_eq_true,decide_eq_true_eq] at h
      obtain ⟨-,hlb,hn2,hn3⟩:=h
      obtain ⟨hf7,hr7⟩:=hta.1.1 hlb
      subst hf7 hr7
      rw [hn2,hn3] at hcd
      revert hcd
      decide
    obtain ⟨e3,e4⟩:=hbad hb
    rw [e3,e4];rfl
  all_goals obtain ⟨hb,hS⟩:=hgood (e1.1 (Decidable.not_not.1 (by assumption))) (by assumption)
  · have eE:psE (toL s) = stmE ⟨⟨I2,decide ((n6.toNat:Int) = 59)⟩,⟨n1,n3,n5,n7⟩,I3⟩:=by unfold psE;rw [if_neg (by omega),if_pos hb,hS]
    have eF:psF (toL s) = Stm.zero:=by unfold psF;rw [if_neg (by rw [eE];exact hcd)]
    rw [eE,eF];try rfl
  · have eE:psE (toL s) = 0:=by unfold psE;rw [if_neg (by omega),if_pos hb,hS];exact Decidable.not_not.1 hcd
    have eF:psF (toL s) = ⟨⟨I2,decide ((n6.toNat:Int) = 59)⟩,⟨n1,n3,n5,n7⟩,I3⟩:=by unfold psF;rw [if_pos eE,hS]
    rw [eE,eF];try rfl
end Go.Proofs.A1
namespace Go.Proofs.A1
open Go Go.SL
theorem stmQ_c (s:Stm) (w:World):GivesV Tryz.prog 37 [.agg s.cells.toArray] w (.int .i64 (stmE s)):=by
  have hlq:∀ w',GivesV Tryz.prog 22 [.agg #[.int .i64 s.ra.fr,.bool s.ra.dr],.agg #[.int .i64 s.la.h,.int .i64 s.la.m,.int .i64 s.la.s,.int .i64 s.la.f]] w' (.int .i64 (lblE s.ra s.la)):=fun w'=>lblQ_c s.ra s.la w'
  unfold Stm.cells
  refine givesV_of_tr Tryz.func37 rfl rfl ?_
  (refine s_r ?_;refine tr_new (rk_box (.of rfl) rfl) rfl (fun _ _=>?_);refine a_s rfl rfl ?_;refine n_t ?_;refine tr_seq ?_)
  with_reducible refine tr_draw 8 (by kernel_rfl) ?_
  (refine a_f rfl rfl norm0_ ?_;refine any_val (rk_loadB (.of rfl) .here norm_ (by rfl)) rfl ?_;refine a_f rfl rfl norm0_ ?_;refine any_val (rk_loadB (.of rfl) .here norm_ (by rfl)) rfl ?_;refine any_call (rk_call (.of rfl) (.cons (.of rfl) (.cons (.of rfl) .nil)) inferInstance normc_) rfl (fun w' hm'=>(hlq w')) ?_;refine a_f rfl rfl norm0_ ?_;refine any_val (rk_load1 (.of rfl) (At.lit .here rfl)) rfl ?_;refine any_call (rk_call (.of rfl) (.cons (.of rfl) (.cons (.of rfl) (.cons (.of rfl) .nil))) inferInstance normc_) rfl (fun w' hm'=>(range_q _ 0 65535 w')) ?_)
  with_reducible refine any_end ?_
  (refine tr_new (rk_sliceLit (.cons (.of rfl) (.cons (.of rfl) .nil)) rfl rfl rfl rfl) rfl (fun _ _=>?_);refine tr_callV (rk_call (.of rfl) (.cons (.of rfl) .nil) inferInstance normc_) rfl (fun w' hm'=>(first_qB (Mem.rdBlk hm' .here rfl rfl) (IntL.cons (IntL.cons IntL.nil)))) ?_;refine a_s rfl rfl ?_;refine n_t ?_;refine tr_ret ?_;refine tr_retE rfl (ends1 rfl rfl) ?_)
  rfl
end Go.Proofs.A1
namespace Go.Proofs.A1
open Go Go.SL
end Go.Proofs.A1
namespace Go.Proofs.A1
open Go Go.SL
end Go.Proofs.A1
