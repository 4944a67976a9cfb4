/- Parts of the proof: U16 U17 U18 U19. -/
import Derived.Test.YthhidjfahmcekaaGreatDoorPM12
import Derived.Test.YthhidjfahmcekaaGreatDoorPM06
set_option linter.unusedSectionVars false
set_option linter.unusedVariables false
set_option linter.unusedSimpArgs false
namespace Go.Proofs.A1
open Go Go.SL
theorem drop_eq_of {α:Type} {l m:List α} {k:Nat} (hl:k < l.length) (hm:k < m.length) (h:l[k] = m[k]):(l.drop k = m.drop k) ↔ l.drop (k + 1) = m.drop (k + 1):=by
  rw [List.drop_eq_getElem_cons hl,List.drop_eq_getElem_cons hm,h]
  exact ⟨fun e=>(List.cons.inj e).2,fun e=>by rw [e]⟩
theorem eqP_c {v1 v2:Value} {l m:List (Int × Int)} {w:World} (h1:Rd w v1 2 (dus l)) (h2:Rd w v2 2 (dus m)) :
    GivesV Tryz.prog 117 [v1,v2] w (.bool (decide (l = m))):=by
  obtain ⟨a1,cp1,b1,o1,rfl,hcap1,hmax1,ha1,hc1⟩:=h1
  obtain ⟨a2,cp2,b2,o2,rfl,hcap2,hmax2,ha2,hc2⟩:=h2
  rw [dus_length] at *
  rw [dus_length] at *
  unfold maxLen at hmax1 hmax2
  refine givesV_of_tr Tryz.func117 rfl rfl ?_
  (refine s_r ?_;refine a_s rfl rfl ?_;refine n_t ?_;refine tr_seq ?_;refine s_r ?_;refine m_v rfl rfl ?_;refine tr_val (rk_len_slice (.of rfl)) rfl ?_;refine m_v rfl rfl ?_;refine tr_val (rk_len_slice (.of rfl)) rfl ?_;refine tr_val (rk_neq (.of rfl) (.of rfl)) rfl ?_;refine n_t ?_;refine c_d rfl (fun hcd=>?_) (fun hcd=>?_);refine s_r ?_;refine a_s rfl rfl ?_;refine n_t ?_;refine r_t ?_;refine tr_retE rfl (ends1 rfl rfl) ?_;rotate_left;refine s_t ?_;refine tr_seq ?_;refine s_r ?_;refine m_v rfl rfl ?_;refine tr_val (rk_len_slice (.of rfl)) rfl ?_;refine m_v rfl rfl ?_;refine n_t ?_;refine tr_block ?_;rotate_right)
  · rw [decide_eq_false fun e=>hcd (by rw [e])]
  have hlm:l.length = m.length:=by omega
  refine tr_for (ι:=Nat) (fun k=>k ≤ l.length ∧ (l = m ↔ l.drop k = m.drop k)) (fun k=>[(13,.int .i64 (k:Int)),(12,.int .i64 l.length),(0,.slice a1 l.length cp1),(1,.slice a2 m.length cp2)]) (fun _=>[]) (fun k=>l.length - k) ?_ ?_
  · apply tr_start (0:Nat) ⟨Nat.zero_le _,Iff.rfl⟩
    case hs1=>exact .cons rfl (.cons rfl (.cons rfl (.cons rfl .nil)))
    case ht=>(try simp only [List.take_zero,List.map_nil,List.nil_append]);exact .nil
  rintro k ⟨hk,hf⟩
  by_cases hlt:k < l.length
  · have hlt2:k < m.length:=by omega
    have ha1':=ha1 (dus_ne hlt)
    have ha2':=ha2 (dus_ne hlt2)
    have hcell1:=(hc1 k _ (dus_get hlt)).2
    have hcell2:=(hc2 k _ (dus_get hlt2)).2
    have hd:=drop_eq_of (l:=l) (m:=m) hlt hlt2
    have hdn:l[k] ≠ m[k] → l.drop k ≠ m.drop k:=fun hne e=>hne (by
      rw [List.drop_eq_getElem_cons hlt,List.drop_eq_getElem_cons hlt2] at e
      exact (List.cons.inj e).1)
    generalize l[k] = x at hcell1 hd hdn
    generalize m[k] = y at hcell2 hd hdn
    obtain ⟨x0,x1⟩:=x
    obtain ⟨y0,y1⟩:=y
    dsimp only [duC] at hcell1 hcell2
    (refine s_r ?_;refine tr_val (rk_lss (.of rfl) (.of rfl)) rfl ?_;refine n_t ?_;refine tr_seq ?_;refine c_d rfl (fun hcd=>?_) (fun _=>by omega);refine s_t ?_;refine tr_seq ?_;refine tr_block ?_;refine s_r ?_;refine m_v rfl rfl ?_;refine a_s rfl rfl ?_;refine n_t ?_;refine tr_seq ?_)
    with_reducible refine tr_draw 9 (by kernel_rfl) ?_
    (refine a_m rfl rfl ?_;refine a_m rfl rfl ?_;refine any_val (rk_indexAddr (.of rfl) (.of rfl) ha1' (by omega) hcd norm1_) rfl ?_;refine any_val (rk_loadN (.of rfl) (Ats.base hcell1 rfl) rfl) rfl ?_;refine a_m rfl rfl ?_;refine a_m rfl rfl ?_;refine any_val (rk_indexAddr (.of rfl) (.of rfl) ha2' (by omega) (by omega) norm1_) rfl ?_;refine any_val (rk_loadN (.of rfl) (Ats.base hcell2 rfl) rfl) rfl ?_;refine any_val (rk_neqA (.of rfl) (.of rfl) (okL_int (okL_int okL_nil)) rfl) rfl ?_)
    with_reducible refine any_end ?_
    (refine n_t ?_;refine c_b rfl (fun hcd=>?_) (fun hcd=>?_);refine s_r ?_;refine a_s rfl rfl ?_;refine n_t ?_;refine tr_ret ?_;refine tr_blk_ret ?_;refine tr_then_ret ?_;refine tr_then_ret ?_;refine tr_blk_ret ?_;refine tr_then_ret ?_;refine tr_retE rfl (ends1 rfl rfl) ?_;rotate_left;refine tr_skip ?_;refine tr_blk_normal ?_;refine tr_then ?_;refine tr_region ?_;refine tr_val (rk_add (.of rfl) (.of rfl) (ini (by omega))) rfl ?_;refine m_v rfl rfl ?_;refine n_t ?_;rotate_right)
    · have hne:((x0,x1):Int × Int) ≠ (y0,y1):=by
        rintro e
        cases e
        simp at hcd
      rw [decide_eq_false fun e=>hdn hne (hf.1 e)]
    · have he:((x0,x1):Int × Int) = (y0,y1):=by
        simp at hcd
        rw [hcd.1,hcd.2]
      clear hcd
      apply tr_next (k + 1) ⟨(show k + 1 ≤ l.length from hlt),hf.trans (hd he)⟩ (show l.length - (k + 1) < l.length - k by omega)
      case hs1=>exact .cons rfl (.cons rfl (.cons rfl (.cons rfl .nil)))
      case ht=>(try simp only [List.take_zero,List.map_nil,List.nil_append]);exact .nil
  · obtain rfl:k = l.length:=by omega
    have:l = m:=hf.2 (by rw [List.drop_length,hlm,List.drop_length])
    (refine s_r ?_;refine tr_val (rk_lss (.of rfl) (.of rfl)) rfl ?_;refine n_t ?_;refine tr_seq ?_;refine c_d rfl (fun _=>by omega) (fun hcd=>?_);refine x_t ?_;refine tr_then_exit ?_;refine tr_blk_exit ?_;refine tr_then ?_;refine s_r ?_;refine a_s rfl rfl ?_;refine n_t ?_;refine tr_ret ?_;refine tr_retE rfl (ends1 rfl rfl) ?_)
    rw [decide_eq_true this]
theorem pulX_zero {rp:List Int} {n:Int} (h:pulE rp n = 0):pulX rp n = pulF rp n.toNat:=by unfold pulX;rw [if_pos h]
theorem pulledX_c {sv:Value} {rp:List Int} {n:Int} {w:World} (h:Rd w sv 1 (intg rp)) :
    Gives Tryz.prog 42 [sv,.int .i64 n] w [] (fun _:Value=>True) (fun v=>.tuple #[v,.int .i64 (pulE rp n)]) (fun v=>[row 95 2 v (pulX rp n).length (prsV (pulX rp n))]):=by
  refine gives_of_tr Tryz.func42 rfl rfl ?_
  have hz:=pulE_zero (rp:=rp) (n:=n)
  unfold pulX
  generalize hE:pulE rp n = E at hz ⊢
  unfold pulE at hE
  by_cases h0:E = 0
  · obtain ⟨hk,hn⟩:=hz.1 h0
    obtain ⟨m,rfl⟩:∃ m:Nat,n = m:=⟨n.toNat,by omega⟩
    rw [if_pos h0,h0]
    rw [h0] at hE
    clear hz h0
    rw [Int.toNat_natCast]
    (refine s_r ?_;refine a_s rfl rfl ?_;refine a_s rfl rfl ?_;refine n_t ?_;refine tr_seq ?_;refine s_r ?_;refine m_v rfl rfl ?_;refine tr_callV (rk_call (.of rfl) (.cons (.of rfl) .nil) inferInstance normc_) rfl (fun w' hm'=>(chkCad_c (Rd.keeps h (Mem.keeps hm')))) ?_;refine m_v rfl rfl ?_;refine tr_callV (rk_call (.of rfl) (.cons (.of rfl) (.cons (.of rfl) (.cons (.of rfl) .nil))) inferInstance normc_) rfl (fun w' hm'=>(within_c _ 0 256 w')) ?_;refine tr_new (rk_sliceLit (.cons (.of rfl) (.cons (.of rfl) .nil)) rfl rfl rfl rfl) rfl (fun _ _=>?_);refine tr_callV (rk_call (.of rfl) (.cons (.of rfl) .nil) inferInstance normc_) rfl (fun w' hm'=>(first_pB (Mem.rdBlk hm' .here rfl rfl) (IntL.cons (IntL.cons IntL.nil)))) ?_;refine a_s rfl rfl ?_;refine n_r ?_;refine m_v rfl rfl ?_;refine tr_val (rk_neq (.of rfl) (.of rfl)) rfl ?_;refine n_t ?_;refine c_d rfl (fun _=>by omega) (fun hcd=>?_);refine s_t ?_;refine s_r ?_;refine m_v rfl rfl ?_;refine m_v rfl rfl ?_)
    with_reducible apply tr_call
    case hr=>exact rk_call (.of rfl) (.cons (.of rfl) (.cons (.of rfl) .nil)) inferInstance normc_
    case hd=>rfl
    case ht=>exact Takes.nil
    case hc=>
      intro w1 fp hm1 _ hs1
      obtain rfl:fp = []:=hs1
      exact pulled_c (h.keeps hm1.keeps) hk (by omega)
    intro v _
    dsimp only [id_eq,List.cons_append,List.nil_append]
    (refine a_s rfl rfl ?_;refine a_s rfl rfl ?_;refine n_t ?_;refine tr_ret ?_)
    first | with_reducible apply tr_retM | with_reducible apply tr_endM
    case he=>exact ends2 rfl rfl rfl
    case hR=>
      intro w' hm'
      exact gives_end v trivial (by exact .cons .here .nil) hm' rfl
  · rw [if_neg h0]
    clear hz
    (refine s_r ?_;refine a_s rfl rfl ?_;refine a_s rfl rfl ?_;refine n_t ?_;refine tr_seq ?_;refine s_r ?_;refine m_v rfl rfl ?_;refine tr_callV (rk_call (.of rfl) (.cons (.of rfl) .nil) inferInstance normc_) rfl (fun w' hm'=>(chkCad_c (Rd.keeps h (Mem.keeps hm')))) ?_;refine m_v rfl rfl ?_;refine tr_callV (rk_call (.of rfl) (.cons (.of rfl) (.cons (.of rfl) (.cons (.of rfl) .nil))) inferInstance normc_) rfl (fun w' hm'=>(within_c n 0 256 w')) ?_;refine tr_new (rk_sliceLit (.cons (.of rfl) (.cons (.of rfl) .nil)) rfl rfl rfl rfl) rfl (fun _ _=>?_);refine tr_callV (rk_call (.of rfl) (.cons (.of rfl) .nil) inferInstance normc_) rfl (fun w' hm'=>(first_pB (Mem.rdBlk hm' .here rfl rfl) (IntL.cons (IntL.cons IntL.nil)))) ?_;refine a_s rfl rfl ?_;refine n_r ?_;refine m_v rfl rfl ?_;refine tr_val (rk_neq (.of rfl) (.of rfl)) rfl ?_;refine n_t ?_;refine c_d rfl (fun hcd=>?_) (fun _=>by omega);refine s_r ?_;refine m_v rfl rfl ?_;refine a_s rfl rfl ?_;refine a_s rfl rfl ?_;refine n_t ?_;refine r_t ?_)
    rw [hE]
    refine tr_rowNil 95 2 ?_
    first | with_reducible apply tr_retM | with_reducible apply tr_endM
    case he=>exact ends2 rfl rfl rfl
    case hR=>
      intro w' hm'
      exact gives_end (.slice none 0 0) trivial (show Takes _ [row 95 2 (.slice none 0 0) 0 []] _ by exact .cons .here .nil) hm' rfl
theorem undE_of {rp:List Int} {l:List (Int × Int)}:undE rp l = if firstF [cdE rp,whenF (decide ((512:Int) < (l.length:Nat))) 5] ≠ 0 then firstF [cdE rp,whenF (decide ((512:Int) < (l.length:Nat))) 5] else if (undX rp l).isSome then 0 else 19:=by
  unfold undE
  rw [whenF_if]
  by_cases h0:cdE rp = 0
  · by_cases h5:512 < l.length
    · have h5':(512:Int) < (l.length:Nat):=by omega
      simp [firstF,h0,h5,h5']
    · have h5':¬ (512:Int) < (l.length:Nat):=by omega
      simp [firstF,h0,h5,h5']
  · rw [if_pos h0];simp [firstF,h0]
theorem undone_c {sv lv:Value} {rp:List Int} {l:List (Int × Int)} {w:World} (h:Rd w sv 1 (intg rp)) (hl:Rd w lv 2 (dus l)) :
    GivesV Tryz.prog 44 [sv,lv] w (.tuple #[.int .i64 (undF rp l:Nat),.int .i64 (undE rp l)]):=by
  have hl':=hl
  obtain ⟨a2,cp2,b2,o2,rfl,hcap2,hmax2,ha2,hc2⟩:=hl'
  rw [dus_length] at *
  unfold maxLen at hmax2
  refine givesV_of_tr Tryz.func44 rfl rfl ?_
  (refine s_r ?_;refine a_s rfl rfl ?_;refine a_s rfl rfl ?_;refine n_t ?_;refine tr_scope ?_;refine tr_seq ?_;refine s_r ?_;refine m_v rfl rfl ?_;refine tr_callV (rk_call (.of rfl) (.cons (.of rfl) .nil) inferInstance normc_) rfl (fun w' hm'=>(chkCad_c (Rd.keeps h (Mem.keeps hm')))) ?_;refine m_v rfl rfl ?_;refine tr_val (rk_len_slice (.of rfl)) rfl ?_;refine tr_val (rk_gtr (.of rfl) (.of rfl)) rfl ?_;refine tr_callV (rk_call (.of rfl) (.cons (.of rfl) (.cons (.of rfl) .nil)) inferInstance normc_) rfl (fun w' hm'=>(when_c _ 5 w')) ?_;refine tr_new (rk_sliceLit (.cons (.of rfl) (.cons (.of rfl) .nil)) rfl rfl rfl rfl) rfl (fun _ _=>?_);refine tr_callV (rk_call (.of rfl) (.cons (.of rfl) .nil) inferInstance normc_) rfl (fun w' hm'=>(first_pB (Mem.rdBlk hm' .here rfl rfl) (IntL.cons (IntL.cons IntL.nil)))) ?_;refine a_s rfl rfl ?_;refine n_r ?_;refine m_v rfl rfl ?_;refine tr_val (rk_neq (.of rfl) (.of rfl)) rfl ?_;refine n_t ?_;refine c_d rfl (fun hcd=>?_) (fun hcd=>?_);refine s_r ?_;refine m_v rfl rfl ?_;refine a_s rfl rfl ?_;refine a_s rfl rfl ?_;refine n_t ?_;refine r_t ?_;refine tr_ng_ret ?_;refine tr_retE rfl (ends2 rfl rfl rfl) ?_;rotate_left;refine s_t ?_;refine s_r ?_;refine a_s rfl rfl ?_;refine a_s rfl rfl ?_;refine n_t ?_;refine tr_seq ?_;refine tr_label ?_;refine tr_then ?_;refine tr_seq ?_;refine s_r ?_;refine m_v rfl rfl ?_;refine n_t ?_;refine tr_block ?_;rotate_right)
  · have hu:=undE_of (rp:=rp) (l:=l)
    rw [if_pos hcd] at hu
    rw [undF,hu,if_neg hcd];rfl
  have hu:=undE_of (rp:=rp) (l:=l)
  rw [if_neg hcd] at hu
  have hk:CdOk rp:=cdE_zero.1 (firstF_zero.1 (Decidable.not_not.1 hcd) (cdE rp) (by simp))
  clear hcd
  refine tr_for (ι:=Nat) (fun k=>k ≤ 257 ∧ ∀ i,i < k → (pulF rp i).map prI ≠ l) (fun k=>[(21,.int .i64 (k:Nat)),(7,.int .i64 0),(8,.bool false),(0,sv),(1,.slice a2 l.length cp2)]) (fun _=>[]) (fun k=>257 - k) ?_ ?_
  · apply tr_start (0:Nat) ⟨Nat.zero_le _,fun i hi=>absurd hi (by omega)⟩
    case hs1=>exact .cons rfl (.cons rfl (.cons rfl (.cons rfl (.cons rfl .nil))))
    case ht=>(try simp only [List.take_zero,List.map_nil,List.nil_append]);exact .nil
  rintro k ⟨hk2,hf⟩
  by_cases hlt:k < 257
  · (refine s_r ?_;refine tr_val (rk_lss (.of rfl) (.of rfl)) rfl ?_;refine n_t ?_;refine tr_seq ?_;refine c_d rfl (fun hcd=>?_) (fun _=>by omega);refine s_t ?_;refine tr_seq ?_;refine tr_block ?_;refine s_r ?_;refine m_v rfl rfl ?_;refine a_s rfl rfl ?_;refine n_r ?_;refine m_v rfl rfl ?_;refine m_v rfl rfl ?_)
    with_reducible apply tr_call
    case hr=>exact rk_call (.of rfl) (.cons (.of rfl) (.cons (.of rfl) .nil)) inferInstance normc_
    case hd=>rfl
    case ht=>exact Takes.nil
    case hc=>
      intro w1 fp hm1 _ hs1
      obtain rfl:fp = []:=hs1
      exact pulled_c (h.keeps hm1.keeps) hk (by omega)
    intro v _
    dsimp only [id_eq,List.cons_append,List.nil_append]
    refine m_v rfl rfl ?_
    with_reducible apply tr_callV
    case hr=>exact rk_call (.of rfl) (.cons (.of rfl) (.cons (.of rfl) .nil)) inferInstance normc_
    case hd=>rfl
    case hc=>
      intro w' hm'
      have hp:=prs_rd (v:=v) hm' (by exact .here) rfl
      rw [prsV_dus] at hp
      exact eqP_c hp (hl.keeps hm'.keeps)
    (refine n_t ?_;refine c_d rfl (fun hcd=>?_) (fun hcd=>?_);refine s_r ?_;refine m_v rfl rfl ?_;refine a_s rfl rfl ?_;refine a_s rfl rfl ?_;refine n_t ?_;refine tr_exit ?_;refine tr_blk_exit_ne rfl ?_;refine tr_then_exit ?_;refine tr_then_exit ?_;refine tr_blk_exit ?_;refine tr_then ?_;refine tr_seq ?_;refine s_r ?_;refine m_v rfl rfl ?_;refine tr_val (rk_not (.of rfl)) rfl ?_;refine n_t ?_;refine tr_cond_f (.of rfl) ?_;refine s_t ?_;refine s_r ?_;refine m_v rfl rfl ?_;refine a_s rfl rfl ?_;refine a_s rfl rfl ?_;refine n_t ?_;refine tr_ret ?_;refine tr_ng_ret ?_;refine tr_retE rfl (ends2 rfl rfl rfl) ?_;rotate_left;refine tr_skip ?_;refine tr_blk_normal ?_;refine tr_then ?_;refine tr_region ?_;refine tr_val (rk_add (.of rfl) (.of rfl) (ini (by omega))) rfl ?_;refine m_v rfl rfl ?_;refine n_t ?_;rotate_right)
    · have hx:=undX_at hf hlt hcd
      rw [hx,if_pos (by rfl)] at hu
      rw [undF,hu,if_pos rfl,hx];rfl
    · apply tr_next (k + 1) ⟨(show k + 1 ≤ 257 from hlt),fun i hi=>by
        by_cases e:i = k
        · rw [e];exact hcd
        · exact hf i (by omega)⟩ (show 257 - (k + 1) < 257 - k by omega)
      case hs1=>exact .cons rfl (.cons rfl (.cons rfl (.cons rfl (.cons rfl .nil))))
      case ht=>(try simp only [List.take_zero,List.map_nil,List.nil_append]);exact .nil
  · have hx:=undX_no (rp:=rp) (l:=l) fun i hi=>hf i (by omega)
    rw [hx,if_neg (by decide)] at hu
    rw [undF,hu,if_neg (by decide)]
    (refine s_r ?_;refine tr_val (rk_lss (.of rfl) (.of rfl)) rfl ?_;refine n_t ?_;refine tr_seq ?_;refine c_d rfl (fun _=>by omega) (fun hcd=>?_);refine x_t ?_;refine tr_then_exit ?_;refine tr_blk_exit ?_;refine tr_then ?_;refine tr_seq ?_;refine s_r ?_;refine m_v rfl rfl ?_;refine tr_val (rk_not (.of rfl)) rfl ?_;refine n_t ?_;refine tr_cond_t (.of rfl) ?_;refine s_r ?_;refine a_s rfl rfl ?_;refine a_s rfl rfl ?_;refine n_t ?_;refine r_t ?_;refine tr_ng_ret ?_;refine tr_retE rfl (ends2 rfl rfl rfl) ?_)
    rfl
end Go.Proofs.A1
namespace Go.Proofs.A1
open Go Go.SL
theorem rk_eqlBo {P:Program} {c:Cx} {sl:Slots} {hs:List Asn} {dst:Option Tmp} {ty:TypeId} {pos:String} {af:Array Edge} {g:Option (Nat × Bool)} {t u:TypeId} {x y:Operand} {a b:Bool} [hu:Und P t .bool] (hx:Is sl x (.bool a)) (hy:Is sl y (.bool b)) :
    RunV P c sl hs ⟨dst,.binOp .eql t x y u,ty,pos,af,g⟩ (.bool (a == b)):=
  rk_bin hx hy fun w=>by
    have:(Op.equal t (.bool a) (.bool b)).run P w = .ok (a == b) w:=by
      exact leq_run (d:=9999) (by rw [hu.eq];rfl) (fun k h=>by rw [hu.eq] at h;cases h) (fun h=>by rw [hu.eq] at h;cases h) (fun _=>⟨a,rfl⟩) rfl
    simp [eqGuard_bool,binOp,this]
def badR (r:Int):Bool:=decide (r < 32) || decide (126 < r)
theorem chk1_c (r:Int) (w:World):GivesV Tryz.prog 190 [.int .i32 r] w (.bool (badR r)):=by
  refine givesV_of_tr Tryz.func190 rfl rfl ?_
  (refine s_r ?_;refine a_s rfl rfl ?_;refine n_r ?_;refine m_v rfl rfl ?_;refine tr_val (rk_lss (.of rfl) (.of rfl)) rfl ?_;refine m_v rfl rfl ?_;refine v_g rfl rfl rfl rfl ?_;refine tr_vG1 rfl rfl inferInstance (fun hg hgp=>(rk_gtr (.ofg hg rfl) (.of rfl))) rfl ?_;refine tr_val (rk_pick_or (.of rfl) rfl) rfl ?_;refine a_s rfl rfl ?_;refine n_t ?_;refine tr_ret ?_;refine tr_retE rfl (ends1 rfl rfl) ?_)
  rfl
theorem idxS_c (s:ByteArray) (hs:s.size ≤ 1000000000) (w:World):GivesV Tryz.prog 267 [.string s,.func (.func 190) #[] #[],.bool true] w (.int .i64 (badI s)):=by
  refine givesV_of_tr Tryz.func267 rfl rfl ?_
  (refine s_r ?_;refine a_s rfl rfl ?_;refine n_t ?_;refine tr_seq ?_;refine s_r ?_;refine m_v rfl rfl ?_;refine tr_new (rk_rangeS (.of rfl)) rfl (fun _ _=>?_);refine n_t ?_;refine tr_block ?_)
  rename_i b hb
  refine tr_for (ι:=Nat) (fun p=>p ≤ s.size ∧ ∀ i,i < p → badB (bt s i) = false) (fun p=>[(10,.pointer (some ⟨b,0,none⟩)),(1,.func (.func 190) #[] #[]),(2,.bool true)]) (fun p=>[blk b (.stringIter s p)]) (fun p=>s.size - p) ?_ ?_
  · apply tr_start (0:Nat) ⟨Nat.zero_le _,fun i hi=>absurd hi (by omega)⟩
    case hs1=>exact .cons rfl (.cons rfl (.cons rfl .nil))
    case ht=>(try simp only [List.take_zero,List.map_nil,List.nil_append]);exact .cons .here .nil
  rintro p ⟨hp,hf⟩
  by_cases hlt:p < s.size
  · have hd:=decode_bt hlt
    have hbd:badB (bt s p) = badR ((Utf8.decode s p).1:Int):=by
      unfold badB badR
      rcases hd with ⟨h1,h2,_⟩ | ⟨h1,h2,_⟩
      · rw [h2]
      · rw [Bool.eq_iff_iff]
        simp only [Bool.or_eq_true,decide_eq_true_eq]
        omega
    (refine s_r ?_;refine tr_nextS (.of rfl) .here rfl (fun hlt=>?_) (fun hlt=>(by omega));refine tr_val (rk_extract (.of rfl) rfl) rfl ?_;refine n_t ?_;refine tr_seq ?_;refine tr_cond_t (.of rfl) ?_;refine s_t ?_;refine tr_block ?_;refine s_r ?_;refine tr_val (rk_extract (.of rfl) rfl) rfl ?_;refine tr_val (rk_extract (.of rfl) rfl) rfl ?_;refine a_s rfl rfl ?_;refine a_s rfl rfl ?_;refine n_r ?_;refine m_v rfl rfl ?_;refine m_v rfl rfl ?_;refine tr_callV (rk_call (.of rfl) (.cons (.of rfl) .nil) inferInstance normc_) rfl (fun w' hm'=>(chk1_c _ w')) ?_;refine m_v rfl rfl ?_)
    refine tr_val (rk_eqlBo (.of rfl) (.of rfl)) rfl ?_
    (refine n_t ?_;refine c_d rfl (fun hcd=>?_) (fun hcd=>?_);refine s_r ?_;refine m_v rfl rfl ?_;refine a_s rfl rfl ?_;refine n_t ?_;refine tr_ret ?_;refine tr_blk_ret ?_;refine tr_then_ret ?_;refine tr_blk_ret ?_;refine tr_then_ret ?_;refine tr_retE rfl (ends1 rfl rfl) ?_;rotate_left;refine tr_skip ?_;refine tr_blk_normal ?_;refine tr_then ?_;rotate_right)
    · have hb:badB (bt s p) = true:=by rw [hbd];simpa using hcd
      rw [badI_at hf hlt hb]
    · have hb:badB (bt s p) = false:=by rw [hbd];simpa using hcd
      have hw:(Utf8.decode s p).2 = 1:=by
        rcases hd with ⟨_,_,h⟩ | ⟨_,h,_⟩
        · exact h
        · exfalso
          rw [hbd] at hb
          unfold badR at hb
          simp at hb
          omega
      rw [hw]
      apply tr_next (p + 1) ⟨(show p + 1 ≤ s.size from hlt),fun i hi=>by
        by_cases e:i = p
        · rw [e];exact hb
        · exact hf i (by omega)⟩ (show s.size - (p + 1) < s.size - p by omega)
      case hs1=>exact .cons rfl (.cons rfl (.cons rfl .nil))
      case ht=>(try simp only [List.take_zero,List.map_nil,List.nil_append]);exact .cons .here .nil
  · obtain rfl:p = s.size:=by omega
    (refine s_r ?_;refine tr_nextS (.of rfl) .here rfl (fun hlt=>(by omega)) (fun hlt=>?_);refine tr_val (rk_extract (.of rfl) rfl) rfl ?_;refine n_t ?_;refine tr_seq ?_;refine tr_cond_f (.of rfl) ?_;refine x_t ?_;refine tr_then_exit ?_;refine tr_blk_exit ?_;refine tr_then ?_;refine s_r ?_;refine a_s rfl rfl ?_;refine n_t ?_;refine tr_ret ?_;refine tr_retE rfl (ends1 rfl rfl) ?_)
    rw [badI_no hf]
theorem idxF_c (s:ByteArray) (hs:s.size ≤ 1000000000) (w:World):GivesV Tryz.prog 243 [.string s,.func (.func 190) #[] #[]] w (.int .i64 (badI s)):=by
  refine givesV_of_tr Tryz.func243 rfl rfl ?_
  (refine s_r ?_;refine a_s rfl rfl ?_;refine n_r ?_;refine m_v rfl rfl ?_;refine m_v rfl rfl ?_;refine tr_callV (rk_call (.of rfl) (.cons (.of rfl) (.cons (.of rfl) (.cons (.of rfl) .nil))) inferInstance normc_) rfl (fun w' hm'=>(idxS_c s hs w')) ?_;refine a_s rfl rfl ?_;refine n_t ?_;refine tr_ret ?_;refine tr_retE rfl (ends1 rfl rfl) ?_)
  rfl
theorem hasF_c (s:ByteArray) (hs:s.size ≤ 1000000000) (w:World):GivesV Tryz.prog 189 [.string s,.func (.func 190) #[] #[]] w (.bool (badTx s)):=by
  rw [← badI_tx]
  refine givesV_of_tr Tryz.func189 rfl rfl ?_
  (refine s_r ?_;refine a_s rfl rfl ?_;refine n_r ?_;refine m_v rfl rfl ?_;refine m_v rfl rfl ?_;refine tr_callV (rk_call (.of rfl) (.cons (.of rfl) (.cons (.of rfl) .nil)) inferInstance normc_) rfl (fun w' hm'=>(idxF_c s hs w')) ?_;refine tr_val (rk_geq (.of rfl) (.of rfl)) rfl ?_;refine a_s rfl rfl ?_;refine n_t ?_;refine tr_ret ?_;refine tr_retE rfl (ends1 rfl rfl) ?_)
  rfl
theorem meet_c (a b c d:Int) (w:World):GivesV Tryz.prog 192 [.agg #[.int .i64 a,.int .i64 b],.agg #[.int .i64 c,.int .i64 d]] w (.bool (decide (max a c < min b d))):=by
  refine givesV_of_tr Tryz.func192 rfl rfl ?_
  (refine s_r ?_;refine tr_new (rk_box (.of rfl) rfl) rfl (fun _ _=>?_);refine tr_new (rk_box (.of rfl) rfl) rfl (fun _ _=>?_);refine a_s rfl rfl ?_;refine n_r ?_;refine f_a rfl rfl norm0_ ?_;refine tr_val (rk_load1 (.of rfl) (At.lit (.there .here) rfl)) rfl ?_;refine f_a rfl rfl norm0_ ?_;refine tr_val (rk_load1 (.of rfl) (At.lit .here rfl)) rfl ?_;refine tr_val (rk_max2 (.of rfl) (.of rfl)) rfl ?_;refine f_a rfl rfl norm0_ ?_;refine tr_val (rk_load1 (.of rfl) (At.lit (.there .here) rfl)) rfl ?_;refine f_a rfl rfl norm0_ ?_;refine tr_val (rk_load1 (.of rfl) (At.lit .here rfl)) rfl ?_;refine tr_val (rk_min2 (.of rfl) (.of rfl)) rfl ?_;refine tr_val (rk_lss (.of rfl) (.of rfl)) rfl ?_;refine a_s rfl rfl ?_;refine n_t ?_;refine tr_ret ?_;refine tr_retE rfl (ends1 rfl rfl) ?_)
  rfl
end Go.Proofs.A1
namespace Go.Proofs.A1
open Go Go.SL
def endW (x:Cp):Int:=IntKind.i64.wrap (x.co + (x.tx.size:Int))
def cflw (a b:Cp):Bool:=decide (a.rw = b.rw) && (decide (max a.fr b.fr < min a.to b.to) && decide (max a.co b.co < min (endW a) (endW b)))
theorem endW_ok {x:Cp} (h:CpOk x):endW x = x.co + (x.tx.size:Int):=by
  have h1:=h.co;have h2:=h.fit;have h3:=h.ne
  exact i64w (by omega)
theorem cflw_ok {a b:Cp} (ha:CpOk a) (hb:CpOk b):cflw a b = cfl a b:=by
  unfold cflw cfl;rw [endW_ok ha,endW_ok hb]
theorem colsw_c (x:Cp) (w:World):GivesV Tryz.prog 128 [.agg x.cells.toArray] w (.agg #[.int .i64 x.co,.int .i64 (endW x)]):=by
  unfold Cp.cells endW
  refine givesV_of_tr Tryz.func128 rfl rfl ?_
  (refine s_r ?_;refine tr_new (rk_box (.of rfl) rfl) rfl (fun _ _=>?_);refine tr_new (rk_alloc rfl) rfl (fun _ _=>?_);refine n_r ?_;refine f_a rfl rfl norm0_ ?_;refine tr_val (rk_load1 (.of rfl) (At.lit (.there .here) rfl)) rfl ?_;refine f_a rfl rfl norm0_ ?_;refine tr_val (rk_load1 (.of rfl) (At.lit (.there .here) rfl)) rfl ?_;refine f_a rfl rfl norm0_ ?_;refine tr_val (rk_load1 (.of rfl) (At.lit (.there .here) rfl)) rfl ?_;refine tr_val (rk_len_string (.of rfl)) rfl ?_)
  refine tr_val (rk_addw (.of rfl) (.of rfl)) rfl ?_
  (refine tr_val (rk_buildL (.cons (.of rfl) (.cons (.of rfl) .nil)) norm_) rfl ?_;refine tr_store (.of rfl) (.of rfl) .here rfl rfl (okc_cons rfl (okc_cons rfl okc_nil)) (lenb rfl) norm_ ?_;refine n_t ?_;refine tr_ret ?_;refine tr_retE rfl (ends1cB rfl inferInstance rfl .here norm_ (by rfl)) ?_)
  rfl
theorem conf_c (x y:Cp) (w:World):GivesV Tryz.prog 132 [.agg x.cells.toArray,.agg y.cells.toArray] w (.bool (cflw x y)):=by
  have hca:∀ w,GivesV Tryz.prog 128 [.agg #[.int .i64 x.fr,.int .i64 x.to,.int .i64 x.rw,.int .i64 x.co,.string x.tx]] w (.agg #[.int .i64 x.co,.int .i64 (endW x)]):=fun w=>colsw_c x w
  have hcb:∀ w,GivesV Tryz.prog 128 [.agg #[.int .i64 y.fr,.int .i64 y.to,.int .i64 y.rw,.int .i64 y.co,.string y.tx]] w (.agg #[.int .i64 y.co,.int .i64 (endW y)]):=fun w=>colsw_c y w
  unfold cflw Cp.cells
  refine givesV_of_tr Tryz.func132 rfl rfl ?_
  (refine s_r ?_;refine tr_new (rk_box (.of rfl) rfl) rfl (fun _ _=>?_);refine tr_new (rk_box (.of rfl) rfl) rfl (fun _ _=>?_);refine a_s rfl rfl ?_;refine n_t ?_;refine tr_seq ?_)
  with_reducible refine tr_draw 20 (by kernel_rfl) ?_
  (refine a_f rfl rfl norm0_ ?_;refine any_val (rk_load1 (.of rfl) (At.lit (.there .here) rfl)) rfl ?_;refine a_f rfl rfl norm0_ ?_;refine any_val (rk_load1 (.of rfl) (At.lit .here rfl)) rfl ?_;refine any_val (rk_eql (.of rfl) (.of rfl)) rfl ?_;refine a_m rfl rfl ?_;refine any_vG1 rfl rfl inferInstance (fun hg hgp=>(rk_fieldAddr (.of rfl) norm0_)) rfl ?_;refine any_vG1 rfl rfl inferInstance (fun hg hgp=>(rk_loadB (.ofg hg rfl) (.there .here) norm_ (by rfl))) rfl ?_;refine any_vG1 rfl rfl inferInstance (fun hg hgp=>(rk_fieldAddr (.of rfl) norm0_)) rfl ?_;refine any_vG1 rfl rfl inferInstance (fun hg hgp=>(rk_loadB (.ofg hg rfl) .here norm_ (by rfl))) rfl ?_;refine any_callG1 rfl rfl (fun hg=>(rk_call (.of rfl) (.cons (.ofg hg rfl) (.cons (.ofg hg rfl) .nil)) inferInstance normc_)) rfl (fun hg w' hm'=>(meet_c _ _ _ _ w')) ?_;refine any_val (rk_pick_and (.of rfl) rfl) rfl ?_;refine a_m rfl rfl ?_;refine any_vG1 rfl rfl inferInstance (fun hg hgp=>(rk_loadB (.of rfl) (.there .here) norm_ (by rfl))) rfl ?_;refine any_callG1 rfl rfl (fun hg=>(rk_call (.of rfl) (.cons (.ofg hg rfl) .nil) inferInstance normc_)) rfl (fun hg w' hm'=>(hca w')) ?_;refine any_vG1 rfl rfl inferInstance (fun hg hgp=>(rk_loadB (.of rfl) .here norm_ (by rfl))) rfl ?_;refine any_callG1 rfl rfl (fun hg=>(rk_call (.of rfl) (.cons (.ofg hg rfl) .nil) inferInstance normc_)) rfl (fun hg w' hm'=>(hcb w')) ?_;refine any_callG1 rfl rfl (fun hg=>(rk_call (.of rfl) (.cons (.ofg hg rfl) (.cons (.ofg hg rfl) .nil)) inferInstance normc_)) rfl (fun hg w' hm'=>(meet_c _ _ _ _ w')) ?_;refine any_val (rk_pick_and (.of rfl) rfl) rfl ?_;refine any_val (rk_assign (.of rfl)) rfl ?_)
  with_reducible refine any_end ?_
  (refine n_t ?_;refine tr_ret ?_;refine tr_retE rfl (ends1 rfl rfl) ?_)
  rw [Bool.and_assoc]
theorem cpE_w (x:Cp) (hs:x.tx.size ≤ 1000000000):firstF [whenF (decide (x.fr < 0) || decide (x.to ≤ x.fr) || decide (10000000 < x.to)) 14,withinF x.rw 0 7,withinF x.co 0 31,whenF (decide (x.tx = ⟨#[]⟩)) 12,whenF (decide (32 < endW x)) 26,whenF (badTx x.tx) 1] = cpE x:=by
  unfold cpE
  rw [Bool.or_assoc]
  have e1:decide (x.tx = ⟨#[]⟩) = decide (x.tx.size = 0):=by rw [decide_eq_decide];exact ne_empty.symm
  rw [e1]
  by_cases h2:withinF x.co 0 31 = 0
  · by_cases h3:x.tx.size = 0
    · rw [decide_eq_true h3]
      simp only [firstF,whenF,cond_true]
      simp
    · have:=withinF_zero.1 h2
      have e:endW x = x.co + (x.tx.size:Int):=i64w (by omega)
      rw [e]
  · simp only [firstF]
    simp [h2]
theorem check_c (x:Cp) (hs:x.tx.size ≤ 1000000000) (w:World):GivesV Tryz.prog 130 [.agg x.cells.toArray] w (.int .i64 (cpE x)):=by
  unfold Cp.cells
  refine givesV_of_tr Tryz.func130 rfl rfl ?_
  (refine s_r ?_;refine tr_new (rk_box (.of rfl) rfl) rfl (fun _ _=>?_);refine a_s rfl rfl ?_;refine n_r ?_;refine f_a rfl rfl norm0_ ?_;refine tr_val (rk_loadB (.of rfl) .here norm_ (by rfl)) rfl ?_;refine tr_new (rk_alloc rfl) rfl (fun _ _=>?_);refine tr_store (.of rfl) (.of rfl) .here rfl rfl (okc_cons rfl (okc_cons rfl okc_nil)) (lenb rfl) norm_ ?_;refine n_r ?_;refine f_a rfl rfl norm0_ ?_;refine tr_val (rk_load1 (.of rfl) (At.lit (.there .here) rfl)) rfl ?_;refine tr_callV (rk_call (.of rfl) (.cons (.of rfl) (.cons (.of rfl) .nil)) inferInstance normc_) rfl (fun w' hm'=>(hasF_c _ hs w')) ?_;refine a_s rfl rfl ?_;refine n_t ?_;refine tr_seq ?_)
  with_reducible refine tr_drawO 37 (by kernel_rfl) ?_
  (refine ao_val (rk_fieldAddr (.of rfl) norm0_) rfl ?_;refine ao_val (rk_load1 (.of rfl) (At.lit .here rfl)) rfl ?_;refine ao_val (rk_lss (.of rfl) (.of rfl)) rfl ?_;refine ao_val (rk_move (.of rfl)) rfl ?_;refine ao_vG1 rfl rfl inferInstance (fun hg hgp=>(rk_fieldAddr (.of rfl) norm0_)) rfl ?_;refine ao_vG1 rfl rfl inferInstance (fun hg hgp=>(rk_load1 (.ofg hg rfl) (At.lit .here rfl))) rfl ?_;refine ao_vG1 rfl rfl inferInstance (fun hg hgp=>(rk_fieldAddr (.of rfl) norm0_)) rfl ?_;refine ao_vG1 rfl rfl inferInstance (fun hg hgp=>(rk_load1 (.ofg hg rfl) (At.lit .here rfl))) rfl ?_;refine ao_vG1 rfl rfl inferInstance (fun hg hgp=>(rk_geq (.ofg hg rfl) (.ofg hg rfl))) rfl ?_;refine ao_val (rk_pick_or (.of rfl) rfl) rfl ?_;refine ao_val (rk_move (.of rfl)) rfl ?_;refine ao_vG1 rfl rfl inferInstance (fun hg hgp=>(rk_fieldAddr (.of rfl) norm0_)) rfl ?_;refine ao_vG1 rfl rfl inferInstance (fun hg hgp=>(rk_load1 (.ofg hg rfl) (At.lit .here rfl))) rfl ?_;refine ao_vG1 rfl rfl inferInstance (fun hg hgp=>(rk_gtr (.ofg hg rfl) (.of rfl))) rfl ?_;refine ao_val (rk_pick_or (.of rfl) rfl) rfl ?_;refine ao_call (rk_call (.of rfl) (.cons (.of rfl) (.cons (.of rfl) .nil)) inferInstance normc_) rfl (fun w' hm'=>(when_c _ 14 w')) ?_;refine ao_val (rk_fieldAddr (.of rfl) norm0_) rfl ?_;refine ao_val (rk_load1 (.of rfl) (At.lit (.there .here) rfl)) rfl ?_;refine ao_call (rk_call (.of rfl) (.cons (.of rfl) (.cons (.of rfl) (.cons (.of rfl) .nil))) inferInstance normc_) rfl (fun w' hm'=>(within_c _ 0 7 w')) ?_;refine ao_val (rk_fieldAddr (.of rfl) norm0_) rfl ?_;refine ao_val (rk_load1 (.of rfl) (At.lit (.there .here) rfl)) rfl ?_;refine ao_call (rk_call (.of rfl) (.cons (.of rfl) (.cons (.of rfl) (.cons (.of rfl) .nil))) inferInstance normc_) rfl (fun w' hm'=>(within_c _ 0 31 w')) ?_;refine ao_val (rk_fieldAddr (.of rfl) norm0_) rfl ?_;refine ao_val (rk_load1 (.of rfl) (At.lit (.there .here) rfl)) rfl ?_;refine ao_val (rk_eqls (.of rfl) (.of rfl)) rfl ?_;refine ao_call (rk_call (.of rfl) (.cons (.of rfl) (.cons (.of rfl) .nil)) inferInstance normc_) rfl (fun w' hm'=>(when_c _ 12 w')) ?_;refine ao_val (rk_fieldAddr (.of rfl) norm0_) rfl ?_;refine ao_val (rk_load1 (.of rfl) (At.lit (.there .here) rfl)) rfl ?_;refine ao_val (rk_fieldAddr (.of rfl) norm0_) rfl ?_;refine ao_val (rk_load1 (.of rfl) (At.lit (.there .here) rfl)) rfl ?_;refine ao_val (rk_len_string (.of rfl)) rfl ?_)
  refine ao_val (rk_addw (.of rfl) (.of rfl)) rfl ?_
  (refine ao_val (rk_gtr (.of rfl) (.of rfl)) rfl ?_;refine ao_call (rk_call (.of rfl) (.cons (.of rfl) (.cons (.of rfl) .nil)) inferInstance normc_) rfl (fun w' hm'=>(when_c _ 26 w')) ?_;refine ao_val (rk_move (.of rfl)) rfl ?_;refine ao_call (rk_call (.of rfl) (.cons (.of rfl) (.cons (.of rfl) .nil)) inferInstance normc_) rfl (fun w' hm'=>(when_c _ 1 w')) ?_;refine ao_new (rk_sliceLit (.cons (.of rfl) (.cons (.of rfl) (.cons (.of rfl) (.cons (.of rfl) (.cons (.of rfl) (.cons (.of rfl) .nil)))))) rfl rfl rfl rfl) rfl rfl ?_)
  with_reducible refine ao_end1 rfl fun bq hbq=>?_
  (refine tr_callV (rk_call (.of rfl) (.cons (.of rfl) .nil) inferInstance normc_) rfl (fun w' hm'=>(first_pB (Mem.rdBlk hm' .here rfl rfl) (IntL.cons (IntL.cons (IntL.cons (IntL.cons (IntL.cons (IntL.cons IntL.nil)))))))) ?_;refine a_s rfl rfl ?_;refine n_t ?_;refine tr_ret ?_;refine tr_retE rfl (ends1 rfl rfl) ?_)
  rw [← cpE_w x hs];rfl
theorem idxC_c {lv:Value} {l:List Cp} (x:Cp) {w:World} (h:Rd w lv 5 (cps l)) :
    GivesV Tryz.prog 191 [lv,.func (.func 132) #[.agg x.cells.toArray] #[]] w (.int .i64 (idxG (cflw x) l)):=by
  obtain ⟨a,cp,b,o,rfl,hcap,hmax,ha,hc⟩:=h
  rw [cps_length] at *
  unfold maxLen at hmax
  refine givesV_of_tr Tryz.func191 rfl rfl ?_
  (refine s_r ?_;refine a_s rfl rfl ?_;refine n_t ?_;refine tr_seq ?_;refine s_r ?_;refine m_v rfl rfl ?_;refine tr_val (rk_len_slice (.of rfl)) rfl ?_;refine m_v rfl rfl ?_;refine n_t ?_;refine tr_block ?_)
  refine tr_for (fun k:Nat=>k ≤ l.length ∧ ∀ i,i < k → (l[i]?.map (cflw x)).getD false = false) (fun k=>[(8,.int .i64 k),(7,.int .i64 l.length),(0,.slice a l.length cp),(1,.func (.func 132) #[.agg x.cells.toArray] #[])]) (fun _=>[]) (fun k=>l.length - k) ?_ ?_
  · apply tr_start 0 ⟨Nat.zero_le _,fun i h=>by omega⟩
    case hs1=>exact .cons rfl (.cons rfl (.cons rfl (.cons rfl .nil)))
    case ht=>(try simp only [List.take_zero,List.map_nil,List.nil_append]);exact .nil
  rintro k ⟨hk,hf⟩
  by_cases hlt:k < l.length
  · have ha':=ha (cps_ne hlt)
    have hcell:=(hc k _ (cps_get hlt)).2
    have hps:(l[k]?.map (cflw x)).getD false = cflw x l[k]:=by simp [hlt]
    have hcl:∀ w,GivesV Tryz.prog 132 [.agg x.cells.toArray,.agg (l[k]).cells.toArray] w (.bool (cflw x l[k])):=fun w=>conf_c x l[k] w
    unfold Cp.cells at hcell hcl
    unfold Cp.cells
    (refine s_r ?_;refine tr_val (rk_lss (.of rfl) (.of rfl)) rfl ?_;refine n_t ?_;refine tr_seq ?_;refine c_d rfl (fun hcd=>?_) (fun _=>by omega);refine s_t ?_;refine tr_seq ?_;refine tr_block ?_;refine s_r ?_;refine m_v rfl rfl ?_;refine a_s rfl rfl ?_;refine n_r ?_;refine m_v rfl rfl ?_;refine m_v rfl rfl ?_;refine m_v rfl rfl ?_;refine tr_val (rk_indexAddr (.of rfl) (.of rfl) ha' (by omega) hcd norm1_) rfl ?_;refine tr_val (rk_loadN (.of rfl) (Ats.base hcell rfl) rfl) rfl ?_;refine tr_callV (rk_call (.of rfl) (.cons (.of rfl) .nil) inferInstance normc_) rfl (fun w' hm'=>(hcl w')) ?_;refine n_t ?_;refine c_b rfl (fun hcd=>?_) (fun hcd=>?_);refine s_r ?_;refine m_v rfl rfl ?_;refine a_s rfl rfl ?_;refine n_t ?_;refine tr_ret ?_;refine tr_blk_ret ?_;refine tr_then_ret ?_;refine tr_then_ret ?_;refine tr_blk_ret ?_;refine tr_then_ret ?_;refine tr_retE rfl (ends1 rfl rfl) ?_;rotate_left;refine tr_skip ?_;refine tr_blk_normal ?_;refine tr_then ?_;refine tr_region ?_;refine tr_val (rk_add (.of rfl) (.of rfl) (ini (by omega))) rfl ?_;refine m_v rfl rfl ?_;refine n_t ?_;rotate_right)
    · rw [idxG_at hf hlt hcd]
    · apply tr_next (k + 1) ⟨by omega,fun i hi=>by
        by_cases e:i = k
        · rw [e,hps];simpa using hcd
        · exact hf i (by omega)⟩ (by omega)
      case hs1=>exact .cons rfl (.cons rfl (.cons rfl (.cons rfl .nil)))
      case ht=>(try simp only [List.take_zero,List.map_nil,List.nil_append]);exact .nil
  · obtain rfl:k = l.length:=by omega
    (refine s_r ?_;refine tr_val (rk_lss (.of rfl) (.of rfl)) rfl ?_;refine n_t ?_;refine tr_seq ?_;refine c_d rfl (fun _=>by omega) (fun hcd=>?_);refine x_t ?_;refine tr_then_exit ?_;refine tr_blk_exit ?_;refine tr_then ?_;refine s_r ?_;refine a_s rfl rfl ?_;refine n_t ?_;refine tr_ret ?_;refine tr_retE rfl (ends1 rfl rfl) ?_)
    rw [idxG_none hf]
theorem hasC_c {lv:Value} {l:List Cp} (x:Cp) {w:World} (h:Rd w lv 5 (cps l)) :
    GivesV Tryz.prog 131 [lv,.func (.func 132) #[.agg x.cells.toArray] #[]] w (.bool (l.any (cflw x))):=by
  have hcl:∀ w',Keeps [] w w' → GivesV Tryz.prog 191 [lv,.func (.func 132) #[.agg x.cells.toArray] #[]] w' (.int .i64 (idxG (cflw x) l)):=fun w' hk=>idxC_c x (h.keeps hk)
  rw [← idxG_any]
  refine givesV_of_tr Tryz.func131 rfl rfl ?_
  (refine s_r ?_;refine a_s rfl rfl ?_;refine n_r ?_;refine m_v rfl rfl ?_;refine m_v rfl rfl ?_;refine tr_callV (rk_call (.of rfl) (.cons (.of rfl) (.cons (.of rfl) .nil)) inferInstance normc_) rfl (fun w' hm'=>(hcl w' (Mem.keeps hm'))) ?_;refine tr_val (rk_geq (.of rfl) (.of rfl)) rfl ?_;refine a_s rfl rfl ?_;refine n_t ?_;refine tr_ret ?_;refine tr_retE rfl (ends1 rfl rfl) ?_)
  rfl
end Go.Proofs.A1
namespace Go.Proofs.A1
open Go Go.SL
def atW (l:List Cp) (k:Nat):Int:=firstF [cpE (nthC l k),whenF ((l.take k).any (cflw (nthC l k))) 24]
theorem cpAt_ok {l:List Cp} {k:Nat} (h:cpAt l k = 0):CpOk (nthC l k):=by
  unfold cpAt at h
  exact cpE_zero.1 (firstF_zero.1 h (cpE (nthC l k)) (by simp))
theorem any_same {α:Type} {p q:α → Bool} {l:List α} (h:∀ x ∈ l,p x = q x):l.any p = l.any q:=by
  induction l with
  | nil=>rfl
  | cons x l ih=>rw [List.any_cons,List.any_cons,h x (by simp),ih fun y hy=>h y (by simp [hy])]
theorem atW_eq {l:List Cp} {k:Nat} (hk:k < l.length) (h:∀ i,i < k → cpAt l i = 0):atW l k = cpAt l k:=by
  unfold atW cpAt
  by_cases h0:cpE (nthC l k) = 0
  · have hc:=cpE_zero.1 h0
    have:(l.take k).any (cflw (nthC l k)) = (l.take k).any (cfl (nthC l k)):=any_same fun y hy=>by
      obtain ⟨i,hi,rfl⟩:=List.getElem_of_mem hy
      rw [List.length_take] at hi
      have:=cpAt_ok (h i (by omega))
      rw [nthC_get (by omega)] at this
      rw [List.getElem_take]
      exact cflw_ok hc this
    rw [this]
  · simp [firstF,h0]
theorem chkCaps_c {lv:Value} {l:List Cp} {w:World} (h:Rd w lv 5 (cps l)) (hs:∀ x ∈ l,x.tx.size ≤ 1000000000):GivesV Tryz.prog 68 [lv] w (.int .i64 (capE l)):=by
  have h1':=h
  obtain ⟨a,cp,b,o,rfl,hcap,hmax,ha,hc⟩:=h1'
  rw [cps_length] at *
  unfold maxLen at hmax
  refine givesV_of_tr Tryz.func68 rfl rfl ?_
  unfold capE
  (refine s_r ?_;refine a_s rfl rfl ?_;refine n_t ?_;refine tr_seq ?_;refine s_r ?_;refine m_v rfl rfl ?_;refine tr_val (rk_len_slice (.of rfl)) rfl ?_;refine tr_val (rk_gtr (.of rfl) (.of rfl)) rfl ?_;refine n_t ?_;refine c_d rfl (fun hcd=>?_) (fun hcd=>?_);refine s_r ?_;refine a_s rfl rfl ?_;refine n_t ?_;refine r_t ?_;refine tr_retE rfl (ends1 rfl rfl) ?_;rotate_left;refine s_t ?_;refine tr_seq ?_;refine s_r ?_;refine m_v rfl rfl ?_;refine tr_val (rk_len_slice (.of rfl)) rfl ?_;refine m_v rfl rfl ?_;refine n_t ?_;refine tr_block ?_;rotate_right)
  · rw [if_pos (by omega)]
  rw [if_neg (by omega)]
  refine tr_for (fun k:Nat=>k ≤ l.length ∧ ∀ i,i < k → cpAt l i = 0) (fun k=>[(11,.int .i64 k),(10,.int .i64 l.length),(9,.slice a l.length cp),(0,.slice a l.length cp)]) (fun _=>[]) (fun k=>l.length - k) ?_ ?_
  · apply tr_start 0 ⟨Nat.zero_le _,fun i h=>by omega⟩
    case hs1=>exact .cons rfl (.cons rfl (.cons rfl (.cons rfl .nil)))
    case ht=>(try simp only [List.take_zero,List.map_nil,List.nil_append]);exact .nil
  rintro k ⟨hk,hf⟩
  by_cases hlt:k < l.length
  · have ha':=ha (cps_ne hlt)
    subst ha'
    have hcell:=(hc k _ (cps_get hlt)).2
    have hat:=atW_eq hlt hf
    unfold atW at hat
    have hsl:=(h.sliced (l:=0) (m:=k) (by omega) (by omega))
    rw [List.drop_zero,show (cps l).take k = cps (l.take k) by unfold cps;rw [List.map_take]] at hsl
    rw [nthC_get hlt] at hat
    have hck:∀ w,GivesV Tryz.prog 130 [.agg (l[k]).cells.toArray] w (.int .i64 (cpE l[k])):=fun w=>check_c _ (hs _ (List.getElem_mem hlt)) w
    have hcc:∀ w',Keeps [] w w' → GivesV Tryz.prog 131 [sliced (some ⟨b,o,none⟩) 0 ((k:Nat):Int).toNat cp 5,.func (.func 132) #[.agg (l[k]).cells.toArray] #[]] w' (.bool ((l.take k).any (cflw l[k]))):=fun w' hk=>hasC_c _ (hsl.keeps hk)
    generalize hE:cpAt l k = E at hat
    generalize l[k] = x at hcell hck hcc hat
    unfold Cp.cells at hcell hck hcc
    (refine s_r ?_;refine tr_val (rk_lss (.of rfl) (.of rfl)) rfl ?_;refine n_t ?_;refine tr_seq ?_;refine c_d rfl (fun hcd=>?_) (fun _=>by omega);refine s_t ?_;refine tr_seq ?_;refine tr_block ?_;refine s_r ?_;refine m_v rfl rfl ?_;refine tr_val (rk_indexAddr (.of rfl) (.of rfl) rfl (by omega) hcd norm1_) rfl ?_;refine tr_val (rk_loadN (.of rfl) (Ats.base hcell rfl) rfl) rfl ?_;refine tr_new (rk_alloc rfl) rfl (fun _ _=>?_);refine a_s rfl rfl ?_;refine tr_store (.of rfl) (.of rfl) .here rfl rfl (okc_cons rfl (okc_cons rfl (okc_cons rfl (okc_cons rfl (okc_cons rfl okc_nil))))) (lenb rfl) norm_ ?_;refine n_t ?_;refine tr_seq ?_)
    with_reducible refine tr_drawO 10 (by kernel_rfl) ?_
    (refine ao_val (rk_loadB (.of rfl) .here norm_ (by rfl)) rfl ?_;refine ao_call (rk_call (.of rfl) (.cons (.of rfl) .nil) inferInstance normc_) rfl (fun w' hm'=>(hck w')) ?_;refine ao_val (rk_move (.of rfl)) rfl ?_;refine ao_val (rk_move (.of rfl)) rfl ?_;refine ao_val (rk_slice_h (.of rfl) (.of rfl) (by omega) (by omega)) rfl ?_;refine ao_val (rk_loadB (.of rfl) .here norm_ (by rfl)) rfl ?_;refine ao_val (rk_makeFunc' (.cons (.of rfl) .nil) .nil) rfl ?_;refine ao_call (rk_call (.of rfl) (.cons (.of rfl) (.cons (.of rfl) .nil)) inferInstance normc_) rfl (fun w' hm'=>(hcc w' (Mem.keeps hm'))) ?_;refine ao_call (rk_call (.of rfl) (.cons (.of rfl) (.cons (.of rfl) .nil)) inferInstance normc_) rfl (fun w' hm'=>(when_c _ 24 w')) ?_;refine ao_new (rk_sliceLit (.cons (.of rfl) (.cons (.of rfl) .nil)) rfl rfl rfl rfl) rfl rfl ?_)
    with_reducible refine ao_end1 rfl fun bq hbq=>?_
    (refine tr_callV (rk_call (.of rfl) (.cons (.of rfl) .nil) inferInstance normc_) rfl (fun w' hm'=>(first_pB (Mem.rdBlk hm' .here rfl rfl) (IntL.cons (IntL.cons IntL.nil)))) ?_;refine a_s rfl rfl ?_;refine n_r ?_;refine m_v rfl rfl ?_;refine tr_val (rk_neq (.of rfl) (.of rfl)) rfl ?_;refine n_t ?_;refine c_d rfl (fun hcd=>?_) (fun hcd=>?_);refine s_r ?_;refine m_v rfl rfl ?_;refine a_s rfl rfl ?_;refine n_t ?_;refine tr_ret ?_;refine tr_blk_ret ?_;refine tr_then_ret ?_;refine tr_then_ret ?_;refine tr_blk_ret ?_;refine tr_then_ret ?_;refine tr_retE rfl (ends1 rfl rfl) ?_;rotate_left;refine tr_skip ?_;refine tr_blk_normal ?_;refine tr_then ?_;refine tr_region ?_;refine tr_val (rk_add (.of rfl) (.of rfl) (ini (by omega))) rfl ?_;refine m_v rfl rfl ?_;refine n_t ?_;rotate_right)
    · rw [hat] at hcd
      rw [hat,errE_bad (fun i hi=>hf i hi) hlt (by rw [hE];exact hcd),hE]
    · rw [hat] at hcd
      apply tr_next (k + 1) ⟨show k + 1 ≤ l.length from hlt,fun i hi=>by
        by_cases e:i = k
        · rw [e,hE];exact Decidable.not_not.1 hcd
        · exact hf i (by omega)⟩ (show l.length - (k + 1) < l.length - k by omega)
      case hs1=>exact .cons rfl (.cons rfl (.cons rfl (.cons rfl .nil)))
      case ht=>(try simp only [List.take_zero,List.map_nil,List.nil_append]);exact .nil
  · obtain rfl:k = l.length:=by omega
    (refine s_r ?_;refine tr_val (rk_lss (.of rfl) (.of rfl)) rfl ?_;refine n_t ?_;refine tr_seq ?_;refine c_d rfl (fun _=>by omega) (fun hcd=>?_);refine x_t ?_;refine tr_then_exit ?_;refine tr_blk_exit ?_;refine tr_then ?_;refine s_r ?_;refine a_s rfl rfl ?_;refine n_t ?_;refine tr_ret ?_;refine tr_retE rfl (ends1 rfl rfl) ?_)
    rw [errE_ok.2 hf]
end Go.Proofs.A1
