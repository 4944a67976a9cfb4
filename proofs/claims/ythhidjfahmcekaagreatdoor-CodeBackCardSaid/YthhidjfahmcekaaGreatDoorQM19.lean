/- Parts of the proof: U4C. -/
import Derived.Test.YthhidjfahmcekaaGreatDoorQM18
import Derived.Test.YthhidjfahmcekaaGreatDoorQM14
import Derived.Test.YthhidjfahmcekaaGreatDoorQM09
import Derived.Test.YthhidjfahmcekaaGreatDoorQM06
set_option linter.unusedSectionVars false
set_option linter.unusedVariables false
set_option linter.unusedSimpArgs false
namespace Go.Proofs.A1
open Go Go.SL
def MaxL (w:World):Prop:=∃ m:Int,w.cell? ⟨2,0,none⟩ = some (.int .i64 m)
theorem MaxL.keeps {w w':World} (h:MaxL w) (hk:Keeps [] w w'):MaxL w':=by
  obtain ⟨m,hm⟩:=h
  refine ⟨m,?_⟩
  have hb:=World.block_lt_of_cell? w ⟨2,0,none⟩ hm
  have:=hk.block 2 hb (by simp)
  rw [← hm];simp [World.cell?,this]
theorem split_p {c:UInt8} {s:ByteArray} (hs:s.size ≤ 5000) {w:World} (hM:MaxL w):Gives Tryz.prog 148 [.string s,.string ⟨#[c]⟩] w [] (fun _:Nat=>True) (fun g=>.slice (some ⟨g,0,none⟩) (splL c (toL s)).length (splL c (toL s)).length) (fun g=>[blk g (.cells (strs (splL c (toL s))).toArray 9)]):=by
  obtain ⟨m,hm⟩:=hM
  obtain ⟨e1,e2⟩:=splitB_spl c s
  refine Calls.mono (Tryz.strings_Split s ⟨#[c]⟩ m w (by omega) hm (Nat.le_refl 1)) fun e w' ⟨he,hw⟩=>?_
  rw [e1,← strs_strB] at hw
  rw [e2] at he
  refine ⟨w.heap.size,he,trivial,by rw [hw];exact .alloc _ _ _,[w.heap.size],by simp,⟨[w.heap.size],[],rfl,⟨rfl,by rw [hw];exact World.alloc_heap_new w _⟩,rfl⟩,by simp⟩
theorem i32w {x:Int} (h:-2147483648 ≤ x ∧ x ≤ 2147483647):IntKind.i32.wrap x = x:=by unfold IntKind.wrap;simp [IntKind.signed,IntKind.bits];omega
theorem wd_get {ws:List (List UInt8)} {k:Nat} (h:k < ws.length):(strs ws)[k]? = some (.string (bsL (wd ws k))):=by
  simp [strs,wd,h]
theorem contains_p (s:ByteArray) (c:UInt8) (w:World):GivesV Tryz.prog 201 [.string s,.string ⟨#[c]⟩] w (.bool (decide (0 ≤ Lib.indexByte (toL s) c))):=
  Calls.mono (Tryz.strings_Contains_one s c w) fun e w' ⟨he,hw⟩=>⟨he,by rw [hw];exact .refl _ _⟩
def intC (l:List UInt8):Int:=if digB l && decide (l.length ≤ 5) then digV l else 0
def intB (l:List UInt8):Bool:=!l.isEmpty && (digB l && decide (l.length ≤ 5))
theorem intB_ne {l:List UInt8} (h:l ≠ []):intB l = (digB l && decide (l.length ≤ 5)):=by
  unfold intB
  cases l with
  | nil=>exact absurd rfl h
  | cons a r=>simp
theorem digV_5 {l:List UInt8} (h:digB l = true) (h5:l.length ≤ 5):0 ≤ digV l ∧ digV l ≤ 99999:=by
  have:=digV_range h
  have h2:(10:Int) ^ l.length ≤ 10 ^ 5:=by
    have:∀ k,k ≤ 5 → (10:Int) ^ k ≤ 10 ^ 5:=by decide
    exact this _ h5
  have h3:(10:Int) ^ 5 = 100000:=by decide
  omega
theorem integer_c (s:ByteArray) (w:World):GivesV Tryz.prog 200 [.string s] w (.tuple #[.int .i64 (intC (toL s)),.bool (intB (toL s))]):=by
  have hne:0 < s.size → toL s ≠ []:=fun h e=>by rw [size_toL,e] at h;simp at h
  refine givesV_of_tr Tryz.func200 rfl rfl ?_
  (refine s_r ?_;refine a_s rfl rfl ?_;refine a_s rfl rfl ?_;refine n_r ?_;refine a_s rfl rfl ?_;refine n_t ?_;refine tr_seq ?_;refine s_r ?_;refine m_v rfl rfl ?_;refine tr_new (rk_rangeS (.of rfl)) rfl (fun _ _=>?_);refine n_t ?_;refine tr_block ?_)
  rename_i bi hbi
  refine tr_for (ι:=Nat) (fun p=>p ≤ s.size ∧ digB ((toL s).take p) = true ∧ (p = 0 ∨ s.size ≤ 5)) (fun p=>[(8,.pointer (some ⟨bi,0,none⟩)),(4,.int .i64 (digV ((toL s).take p))),(0,.string s)]) (fun p=>[blk bi (.stringIter s p)]) (fun p=>s.size - p) ?_ ?_
  · apply tr_start 0 ⟨Nat.zero_le _,rfl,.inl rfl⟩
    case hs1=>exact .cons rfl (.cons rfl (.cons rfl .nil))
    case ht=>exact .cons .here .nil
  rintro p ⟨hp,hd,h9⟩
  by_cases hpl:p < s.size
  · obtain ⟨x,r,hx1,hx2,hx3⟩:=toL_split hpl
    have hb0:bt s p = x.toNat:=bt_at (i:=p) hx1 (by rw [List.length_take,← size_toL];omega)
    have hd2:=decode_bt hpl
    have hnl:=hne (by omega)
    have hdt:=digB_take hx2
    rw [hd] at hdt
    by_cases hx:isDg x = true
    · have hx':=hx
      unfold isDg at hx'
      rw [Bool.and_eq_true,decide_eq_true_eq,decide_eq_true_eq] at hx'
      rw [hx] at hdt
      have hw1:(Utf8.decode s p).2 = 1:=by omega
      have hr1:((Utf8.decode s p).1:Int) = x.toNat:=by omega
      by_cases h5:5 < s.size
      · (refine s_r ?_;refine tr_nextS (.of rfl) .here rfl (fun hlt=>?_) (fun hlt=>(by omega));refine tr_val (rk_extract (.of rfl) rfl) rfl ?_;refine n_t ?_;refine tr_seq ?_;refine tr_cond_t (.of rfl) ?_;refine s_t ?_;refine tr_block ?_;refine s_r ?_;refine tr_val (rk_extract (.of rfl) rfl) rfl ?_;refine a_s rfl rfl ?_;refine n_t ?_;refine tr_seq ?_;refine s_r ?_;refine m_v rfl rfl ?_;refine tr_val (rk_lss (.of rfl) (.of rfl)) rfl ?_;refine m_v rfl rfl ?_;refine v_g rfl rfl rfl rfl ?_;refine tr_vG1 rfl rfl inferInstance (fun hg hgp=>(rk_gtr (.ofg hg rfl) (.of rfl))) rfl ?_;refine tr_val (rk_pick_or (.of rfl) rfl) rfl ?_;refine m_v rfl rfl ?_;refine v_g rfl rfl rfl rfl ?_;refine tr_vG1 rfl rfl inferInstance (fun hg hgp=>(rk_len_string (.ofg hg rfl))) rfl ?_;refine tr_vG1 rfl rfl inferInstance (fun hg hgp=>(rk_gtr (.ofg hg rfl) (.of rfl))) rfl ?_;refine tr_val (rk_pick_or (.of rfl) rfl) rfl ?_;refine n_t ?_;refine c_b rfl (fun hcd=>?_) (fun _=>by omega);refine s_r ?_;refine a_s rfl rfl ?_;refine a_s rfl rfl ?_;refine n_t ?_;refine r_t ?_;refine tr_blk_ret ?_;refine tr_then_ret ?_;refine tr_blk_ret ?_;refine tr_then_ret ?_;refine tr_retE rfl (ends2 rfl rfl rfl) ?_)
        rw [intB_ne hnl]
        unfold intC
        rw [show decide ((toL s).length ≤ 5) = false by rw [decide_eq_false_iff_not,← size_toL];omega,Bool.and_false];rfl
      · have hv5:=digV_5 hd (by rw [List.length_take,← size_toL];omega)
        (refine s_r ?_;refine tr_nextS (.of rfl) .here rfl (fun hlt=>?_) (fun hlt=>(by omega));refine tr_val (rk_extract (.of rfl) rfl) rfl ?_;refine n_t ?_;refine tr_seq ?_;refine tr_cond_t (.of rfl) ?_;refine s_t ?_;refine tr_block ?_;refine s_r ?_;refine tr_val (rk_extract (.of rfl) rfl) rfl ?_;refine a_s rfl rfl ?_;refine n_t ?_;refine tr_seq ?_;refine s_r ?_;refine m_v rfl rfl ?_;refine tr_val (rk_lss (.of rfl) (.of rfl)) rfl ?_;refine m_v rfl rfl ?_;refine v_g rfl rfl rfl rfl ?_;refine tr_vG1 rfl rfl inferInstance (fun hg hgp=>(rk_gtr (.ofg hg rfl) (.of rfl))) rfl ?_;refine tr_val (rk_pick_or (.of rfl) rfl) rfl ?_;refine m_v rfl rfl ?_;refine v_g rfl rfl rfl rfl ?_;refine tr_vG1 rfl rfl inferInstance (fun hg hgp=>(rk_len_string (.ofg hg rfl))) rfl ?_;refine tr_vG1 rfl rfl inferInstance (fun hg hgp=>(rk_gtr (.ofg hg rfl) (.of rfl))) rfl ?_;refine tr_val (rk_pick_or (.of rfl) rfl) rfl ?_;refine n_t ?_;refine c_b rfl (fun _=>by omega) (fun hcd=>?_);refine s_t ?_;refine tr_region ?_;refine m_v rfl rfl ?_;refine tr_val (rk_mul (.of rfl) (.of rfl) (ini (by omega))) rfl ?_;refine m_v rfl rfl ?_)
        refine tr_val (rk_subw (.of rfl) (.of rfl)) rfl ?_
        refine tr_val (rk_conv (.of rfl)) rfl ?_
        rw [hr1,hw1,i32w (x:=(x.toNat:Int) - 48) (by omega),i64w (x:=(x.toNat:Int) - 48) (by omega)]
        (refine tr_val (rk_add (.of rfl) (.of rfl) (ini (by omega))) rfl ?_;refine a_s rfl rfl ?_;refine tr_nil ?_;refine tr_blk_normal ?_;refine tr_then ?_)
        rw [← digV_snoc,← hx2]
        apply tr_next (p + 1) ⟨hpl,hdt,.inr (by omega)⟩ (by show s.size - (p + 1) < s.size - p;omega)
        case hs1=>exact .cons rfl (.cons rfl (.cons rfl .nil))
        case ht=>exact .cons .here .nil
    · have e0:=digB_bad hx3 (by simpa using hx)
      have hnx:¬ (48 ≤ x.toNat ∧ x.toNat ≤ 57):=fun h=>hx (by
        unfold isDg
        rw [Bool.and_eq_true,decide_eq_true_eq,decide_eq_true_eq];exact h)
      (refine s_r ?_;refine tr_nextS (.of rfl) .here rfl (fun hlt=>?_) (fun hlt=>(by omega));refine tr_val (rk_extract (.of rfl) rfl) rfl ?_;refine n_t ?_;refine tr_seq ?_;refine tr_cond_t (.of rfl) ?_;refine s_t ?_;refine tr_block ?_;refine s_r ?_;refine tr_val (rk_extract (.of rfl) rfl) rfl ?_;refine a_s rfl rfl ?_;refine n_t ?_;refine tr_seq ?_;refine s_r ?_;refine m_v rfl rfl ?_;refine tr_val (rk_lss (.of rfl) (.of rfl)) rfl ?_;refine m_v rfl rfl ?_;refine v_g rfl rfl rfl rfl ?_;refine tr_vG1 rfl rfl inferInstance (fun hg hgp=>(rk_gtr (.ofg hg rfl) (.of rfl))) rfl ?_;refine tr_val (rk_pick_or (.of rfl) rfl) rfl ?_;refine m_v rfl rfl ?_;refine v_g rfl rfl rfl rfl ?_;refine tr_vG1 rfl rfl inferInstance (fun hg hgp=>(rk_len_string (.ofg hg rfl))) rfl ?_;refine tr_vG1 rfl rfl inferInstance (fun hg hgp=>(rk_gtr (.ofg hg rfl) (.of rfl))) rfl ?_;refine tr_val (rk_pick_or (.of rfl) rfl) rfl ?_;refine n_t ?_;refine c_b rfl (fun hcd=>?_) (fun _=>by omega);refine s_r ?_;refine a_s rfl rfl ?_;refine a_s rfl rfl ?_;refine n_t ?_;refine r_t ?_;refine tr_blk_ret ?_;refine tr_then_ret ?_;refine tr_blk_ret ?_;refine tr_then_ret ?_;refine tr_retE rfl (ends2 rfl rfl rfl) ?_)
      rw [intB_ne hnl]
      unfold intC
      rw [e0];rfl
  · obtain rfl:p = s.size:=by omega
    rw [List.take_of_length_le (by rw [← size_toL];exact Nat.le_refl _)] at hd ⊢
    (refine s_r ?_;refine tr_nextS (.of rfl) .here rfl (fun hlt=>(by omega)) (fun hlt=>?_);refine tr_val (rk_extract (.of rfl) rfl) rfl ?_;refine n_t ?_;refine tr_seq ?_;refine tr_cond_f (.of rfl) ?_;refine x_t ?_;refine tr_then_exit ?_;refine tr_blk_exit ?_;refine tr_then ?_;refine s_r ?_;refine m_v rfl rfl ?_;refine m_v rfl rfl ?_;refine tr_val (rk_neqs (.of rfl) (.of rfl)) rfl ?_;refine a_s rfl rfl ?_;refine a_s rfl rfl ?_;refine n_t ?_;refine tr_ret ?_;refine tr_retE rfl (ends2 rfl rfl rfl) ?_)
    have h5:decide ((toL s).length ≤ 5) = true:=by rw [decide_eq_true_eq,← size_toL];omega
    have e1:intC (toL s) = digV (toL s):=by unfold intC;rw [hd,h5];rfl
    have e2:decide (s ≠ ⟨#[]⟩) = intB (toL s):=by
      unfold intB
      rw [hd,h5]
      by_cases hz:s.size = 0
      · obtain rfl:s = ⟨#[]⟩:=toL_inj (List.length_eq_zero_iff.1 (by rw [← size_toL];exact hz))
        rfl
      · have h1:=hne (by omega)
        have h2:s ≠ ⟨#[]⟩:=fun e=>hz (by rw [e];rfl)
        rw [decide_eq_true h2]
        cases e:toL s with
        | nil=>exact absurd e h1
        | cons a b=>rfl
    rw [e1,e2]
theorem plain_c (s:ByteArray) (w:World):GivesV Tryz.prog 151 [.string s] w (.tuple #[.int .i64 (intC (toL s)),.bool (nmB (toL s))]):=by
  have hint:∀ w',GivesV Tryz.prog 200 [.string s] w' (.tuple #[.int .i64 (intC (toL s)),.bool (intB (toL s))]):=fun w'=>integer_c s w'
  refine givesV_of_tr Tryz.func151 rfl rfl ?_
  by_cases hz:s.size = 0
  · obtain rfl:s = ⟨#[]⟩:=toL_inj (List.length_eq_zero_iff.1 (by rw [← size_toL];exact hz))
    rw [show intC (toL ⟨#[]⟩) = 0 from rfl,show intB (toL ⟨#[]⟩) = false from rfl] at hint
    (refine s_r ?_;refine a_s rfl rfl ?_;refine a_s rfl rfl ?_;refine n_r ?_;refine m_v rfl rfl ?_;refine tr_callV (rk_call (.of rfl) (.cons (.of rfl) .nil) inferInstance normc_) rfl (fun w' hm'=>(hint w')) ?_;refine m_v rfl rfl ?_;refine tr_val (rk_extract (.of rfl) rfl) rfl ?_;refine tr_val (rk_extract (.of rfl) rfl) rfl ?_;refine a_s rfl rfl ?_;refine a_s rfl rfl ?_;refine n_t ?_;refine tr_seq ?_)
    with_reducible refine tr_drawM 14 (by kernel_rfl) ?_
    (refine am_val (fun β=>(rk_move (.of rfl))) indC rfl ?_;refine am_val (fun β=>(rk_move (.of rfl))) indC rfl ?_;refine am_val (fun β=>(rk_move (.of rfl))) indC rfl ?_;refine am_gOff rfl (fun _=>rfl) (Or.inr rfl) rfl ?_;refine am_gOff rfl (fun _=>rfl) (Or.inr rfl) rfl ?_;refine am_gOff rfl (fun _=>rfl) (Or.inr rfl) rfl ?_;refine am_gOff rfl (fun _=>rfl) (Or.inr rfl) rfl ?_;refine am_gOff rfl (fun _=>rfl) (Or.inl rfl) rfl ?_;refine am_gOff rfl (fun _=>rfl) (Or.inl rfl) rfl ?_;refine am_gOff rfl (fun _=>rfl) (Or.inl rfl) rfl ?_;refine am_gOff rfl (fun _=>rfl) (Or.inr rfl) rfl ?_;refine am_val (fun β=>(rk_pickB (.of rfl) (.of rfl) (.of rfl) rfl)) indC rfl ?_;refine am_val (fun β=>(rk_assign (.of rfl))) indC rfl ?_;refine am_val (fun β=>(rk_assign (.of rfl))) indC rfl ?_)
    dsimp only [Nat.zero_add,Nat.reduceAdd]
    refine am_end fun β=>?_
    dsimp only [resAll,List.nil_append,List.cons_append,List.append_eq,Nat.reduceAdd]
    with_reducible refine left_done (by kernel_rfl) ?_
    (refine tr_then ?_;refine tr_ret ?_;refine tr_retE rfl (ends2 rfl rfl rfl) ?_)
    rfl
  · have hb0:=bt_hd (s:=s) (by omega)
    have hnl:toL s ≠ []:=fun e=>hz (by rw [size_toL,e];rfl)
    (refine s_r ?_;refine a_s rfl rfl ?_;refine a_s rfl rfl ?_;refine n_r ?_;refine m_v rfl rfl ?_;refine tr_callV (rk_call (.of rfl) (.cons (.of rfl) .nil) inferInstance normc_) rfl (fun w' hm'=>(hint w')) ?_;refine m_v rfl rfl ?_;refine tr_val (rk_extract (.of rfl) rfl) rfl ?_;refine tr_val (rk_extract (.of rfl) rfl) rfl ?_;refine a_s rfl rfl ?_;refine a_s rfl rfl ?_;refine n_t ?_;refine tr_seq ?_)
    with_reducible refine tr_draw 14 (by kernel_rfl) ?_
    (refine a_m rfl rfl ?_;refine a_m rfl rfl ?_;refine a_m rfl rfl ?_;refine any_vG1 rfl rfl inferInstance (fun hg hgp=>(rk_move (.of rfl))) rfl ?_;refine any_vG1 rfl rfl inferInstance (fun hg hgp=>(rk_len_string (.ofg hg rfl))) rfl ?_;refine any_vG1 rfl rfl inferInstance (fun hg hgp=>(rk_eql (.ofg hg rfl) (.of rfl))) rfl ?_;refine any_vG1 rfl rfl inferInstance (fun hg hgp=>(rk_move (.ofg hg rfl))) rfl ?_;refine any_vG rfl rfl inferInstance (fun hg hgp=>(rk_move (.of rfl))) rfl ?_;refine any_vG rfl rfl inferInstance (fun hg hgp=>(rk_indexS (.ofg hg rfl) (.of rfl) (by omega) (by omega))) rfl ?_;refine any_vG rfl rfl inferInstance (fun hg hgp=>(rk_neq (.ofg hg rfl) (.of rfl))) rfl ?_;refine any_vG1 rfl rfl inferInstance (fun hg hgp=>(rk_pick_or' hg (.ofg hg rfl) rfl)) rfl ?_;refine any_val (rk_pick_and (.of rfl) rfl) rfl ?_;refine any_val (rk_assign (.of rfl)) rfl ?_;refine any_val (rk_assign (.of rfl)) rfl ?_)
    with_reducible refine any_end ?_
    (refine n_t ?_;refine tr_ret ?_;refine tr_retE rfl (ends2 rfl rfl rfl) ?_)
    have e2:(intB (toL s) && (decide ((s.size:Int) = 1) || decide ((((s.data.toList[Int.toNat 0]?.getD 0).toNat:Nat):Int) ≠ 48))) = nmB (toL s):=by
      rw [intB_ne hnl,show Int.toNat 0 = 0 from rfl,hb0]
      unfold nmB
      rw [Bool.eq_iff_iff]
      simp only [Bool.and_eq_true,Bool.or_eq_true,decide_eq_true_eq,numB_iff,← size_toL]
      constructor
      · rintro ⟨⟨h1,h2⟩,h3⟩
        refine ⟨⟨hnl,h1,by omega,?_⟩,h2⟩
        rcases h3 with h3 | h3
        · exact .inl (by omega)
        · exact .inr fun e=>h3 (by rw [e];rfl)
      · rintro ⟨⟨_,h1,h2,h3⟩,h4⟩
        refine ⟨⟨h1,h4⟩,?_⟩
        rcases h3 with h3 | h3
        · exact .inl (by omega)
        · exact .inr fun e=>h3 (UInt8.toNat.inj (by have:(48:UInt8).toNat = 48:=rfl;omega))
    rw [e2]
end Go.Proofs.A1
