/- Parts of the proof: U4G. -/
import Derived.Test.YthhidjfahmcekaaGreatDoorTM21
import Derived.Test.YthhidjfahmcekaaGreatDoorTM06
set_option linter.unusedSectionVars false
set_option linter.unusedVariables false
set_option linter.unusedSimpArgs false
namespace Go.Proofs.A1
open Go Go.SL
theorem bs_at (R:List UInt8) (k:Nat):((((bsL R).data.toList[k]?.getD 0).toNat:Nat):Int) = ((atD R k).toNat:Nat):=by
  unfold atD
  rw [List.getD_eq_getElem?_getD];rfl
theorem stmE_conf {s:Stm} (hd:s.ra.dr = true) (h:s.ra.fr = 24 ∨ s.ra.fr = 25):stmE s = 24:=by
  have hr:rateF s.ra = 24:=by
    unfold rateF
    rcases h with h | h <;> rw [h,hd] <;> rfl
  unfold stmE lblE
  rw [hr];rfl
theorem isDg_iff {x:UInt8}:isDg x = true ↔ 48 ≤ x.toNat ∧ x.toNat ≤ 57:=by
  unfold isDg
  rw [Bool.and_eq_true,decide_eq_true_eq,decide_eq_true_eq]
theorem ps_good {R W2 W3:List UInt8} (hR:decide (R.length = 11) = true) (b0:d2B R 0 = true) (b3:d2B R 3 = true) (b6:d2B R 6 = true) (b9:d2B R 9 = true) (a2:W2.length ≤ 5) (a3:W3.length ≤ 5) (hg:((((¬ ((((bsL R).data.toList[2]?.getD 0).toNat:Nat):Int) ≠ 58 ∧ ¬ ((((bsL R).data.toList[5]?.getD 0).toNat:Nat):Int) ≠ 58) ∧ (¬ ((((bsL R).data.toList[8]?.getD 0).toNat:Nat):Int) ≠ 58 ∨ ((((bsL R).data.toList[8]?.getD 0).toNat:Nat):Int) = 59)) ∧ numB W2 = true) ∧ numB W3 = true)) :
    lbB R = true ∧ nmB W2 = true ∧ nmB W3 = true ∧ numB W2 = true ∧ numB W3 = true ∧ decide (((((bsL R).data.toList[8]?.getD 0).toNat:Nat):Int) = 59) = decide (atD R 8 = 59):=by
  have x2:=bs_at R 2
  have x5:=bs_at R 5
  have x8:=bs_at R 8
  obtain ⟨⟨⟨⟨g2,g5⟩,g8⟩,h2⟩,h3⟩:=hg
  have c58:(58:UInt8).toNat = 58:=rfl
  have c59:(59:UInt8).toNat = 59:=rfl
  have t2:atD R 2 = 58:=UInt8.toNat.inj (by omega)
  have t5:atD R 5 = 58:=UInt8.toNat.inj (by omega)
  have t8:(decide (atD R 8 = 58) || decide (atD R 8 = 59)) = true:=by
    rw [Bool.or_eq_true,decide_eq_true_eq,decide_eq_true_eq]
    rcases g8 with g8 | g8
    · exact .inl (UInt8.toNat.inj (by omega))
    · exact .inr (UInt8.toNat.inj (by omega))
  refine ⟨?_,by unfold nmB;rw [h2,decide_eq_true a2];rfl,by unfold nmB;rw [h3,decide_eq_true a3];rfl,h2,h3,?_⟩
  · unfold lbB
    rw [hR,b0,b3,b6,b9,decide_eq_true t2,decide_eq_true t5,t8];rfl
  · rw [x8]
    exact decide_eq_decide.2 ⟨fun h=>UInt8.toNat.inj (by omega),fun h=>by rw [h];rfl⟩
set_option maxHeartbeats 4000000 in
theorem parseQ_c {s:ByteArray} (hs:s.size ≤ 5000) (w:World):GivesV Tryz.prog 84 [.string s] w (.tuple #[.agg (psF (toL s)).cells.toArray,.int .i64 (psE (toL s))]):=by
  have hl:=splL_le 32 (toL s)
  have hsl:=size_toL s
  rw [← size_toL] at hl
  refine givesV_of_tr Tryz.func84 rfl rfl ?_
  by_cases h4:4096 < s.size
  · have e:psE (toL s) = 26:=by unfold psE;rw [if_pos (by omega)]
    have e2:psF (toL s) = Stm.zero:=by unfold psF;rw [if_neg (by rw [e];decide)]
    rw [e,e2]
    (refine s_r ?_;refine tr_new (rk_alloc rfl) rfl (fun _ _=>?_);refine a_s rfl rfl ?_;refine n_t ?_;refine tr_seq ?_;refine s_r ?_;refine m_v rfl rfl ?_;refine tr_val (rk_len_string (.of rfl)) rfl ?_;refine tr_val (rk_gtr (.of rfl) (.of rfl)) rfl ?_;refine n_t ?_;refine c_d rfl (fun hcd=>?_) (fun _=>by omega);refine s_r ?_;refine tr_val (rk_buildL .nil norm_) rfl ?_;refine tr_store (.of rfl) (.of rfl) .here rfl rfl (okc_cons rfl (okc_cons rfl (okc_cons rfl (okc_cons rfl (okc_cons rfl (okc_cons rfl (okc_cons rfl okc_nil))))))) (lenb rfl) norm_ ?_;refine a_s rfl rfl ?_;refine n_t ?_;refine r_t ?_;refine tr_retE rfl (endsCT rfl inferInstance rfl .here norm_ (by rfl) (by rfl)) ?_)
    rfl
  have h4n:¬ 4096 < (toL s).length:=by omega
  have hbad:=psE_bad (l:=toL s) h4n
  (refine s_r ?_;refine tr_new (rk_alloc rfl) rfl (fun _ _=>?_);refine a_s rfl rfl ?_;refine n_t ?_;refine tr_seq ?_;refine s_r ?_;refine m_v rfl rfl ?_;refine tr_val (rk_len_string (.of rfl)) rfl ?_;refine tr_val (rk_gtr (.of rfl) (.of rfl)) rfl ?_;refine n_t ?_;refine c_d rfl (fun _=>by omega) (fun hcd=>?_);refine s_t ?_;refine s_r ?_;refine m_v rfl rfl ?_)
  rename_i b2 hb2
  with_reducible apply tr_call
  case hr=>exact rk_call (.of rfl) (.cons (.of rfl) (.cons (.of rfl) .nil)) inferInstance normc_
  case hd=>rfl
  case ht=>exact Takes.nil
  case hc=>
    intro w1 fp hm1 _ hs1
    obtain rfl:fp = []:=hs1
    exact split_q (c:=32) hs w1
  intro v _
  dsimp only [id_eq,List.cons_append,List.nil_append]
  have hpos:=splL_pos 32 (toL s)
  have hpsB:psB (toL s) = (decide ((splL 32 (toL s)).length = 4) && (decide (wd (splL 32 (toL s)) 1 = [97,116]) && (lbB (wd (splL 32 (toL s)) 0) && (nmB (wd (splL 32 (toL s)) 2) && nmB (wd (splL 32 (toL s)) 3))))):=rfl
  have hpsS:psS (toL s) = ⟨⟨digV (wd (splL 32 (toL s)) 2),decide (atD (wd (splL 32 (toL s)) 0) 8 = 59)⟩,⟨d2 (wd (splL 32 (toL s)) 0) 0,d2 (wd (splL 32 (toL s)) 0) 3,d2 (wd (splL 32 (toL s)) 0) 6,d2 (wd (splL 32 (toL s)) 0) 9⟩,digV (wd (splL 32 (toL s)) 3)⟩:=rfl
  generalize splL 32 (toL s) = ws at *
  refine tr_rowOpen (E:=9) (sz:=1) (v:=v) (by exact .here) hpos ?_
  rintro g cap cur rfl hcap hmx hsz hxl
  by_cases hl4:ws.length = 4
  case neg=>
    obtain ⟨e1,e2⟩:=hbad (by rw [hpsB,decide_eq_false hl4];rfl)
    rw [e1,e2]
    (refine a_s rfl rfl ?_;refine n_t ?_;refine tr_seq ?_;refine s_r ?_;refine m_v rfl rfl ?_;refine tr_val (rk_len_slice (.of rfl)) rfl ?_;refine tr_val (rk_neqiT (.of rfl) (.of rfl) (by omega)) rfl ?_;refine m_v rfl rfl ?_;refine tr_gOff rfl rfl rfl ?_;refine tr_gOff rfl rfl rfl ?_;refine tr_gOff rfl rfl rfl ?_;refine tr_gOff rfl rfl rfl ?_;refine tr_val (rk_pickB (.of rfl) (.of rfl) (.of rfl) rfl) rfl ?_;refine m_v rfl rfl ?_;refine tr_gOff rfl rfl rfl ?_;refine tr_gOff rfl rfl rfl ?_;refine tr_gOff rfl rfl rfl ?_;refine tr_gOff rfl rfl rfl ?_;refine tr_gOff rfl rfl rfl ?_;refine tr_val (rk_pickB (.of rfl) (.of rfl) (.of rfl) rfl) rfl ?_;refine m_v rfl rfl ?_;refine tr_gOff rfl rfl rfl ?_;refine tr_gOff rfl rfl rfl ?_;refine tr_gOff rfl rfl rfl ?_;refine tr_gOff rfl rfl rfl ?_;refine tr_gOff rfl rfl rfl ?_;refine tr_val (rk_pickB (.of rfl) (.of rfl) (.of rfl) rfl) rfl ?_;refine m_v rfl rfl ?_;refine tr_gOff rfl rfl rfl ?_;refine tr_gOff rfl rfl rfl ?_;refine tr_gOff rfl rfl rfl ?_;refine tr_gOff rfl rfl rfl ?_;refine tr_gOff rfl rfl rfl ?_;refine tr_val (rk_pickB (.of rfl) (.of rfl) (.of rfl) rfl) rfl ?_;refine n_t ?_;refine tr_cond_t (.of rfl) ?_;refine s_r ?_;refine tr_val (rk_buildL .nil norm_) rfl ?_;refine tr_store (.of rfl) (.of rfl) (.there .here) rfl rfl (okc_cons rfl (okc_cons rfl (okc_cons rfl (okc_cons rfl (okc_cons rfl (okc_cons rfl (okc_cons rfl okc_nil))))))) (lenb rfl) norm_ ?_;refine a_s rfl rfl ?_;refine n_t ?_;refine r_t ?_;refine tr_retE rfl (endsCT rfl inferInstance rfl .here norm_ (by rfl) (by rfl)) ?_)
    rfl
  have hsl4:(strs ws).length = 4:=by rw [strs_length];exact hl4
  have q0:(strs ws++cur)[0 * 1]? = some (.string (bsL (wd ws 0))):=by rw [List.getElem?_append_left (by omega)];exact wd_get (by omega)
  have q1:(strs ws++cur)[1 * 1]? = some (.string (bsL (wd ws 1))):=by rw [List.getElem?_append_left (by omega)];exact wd_get (by omega)
  have q2:(strs ws++cur)[2 * 1]? = some (.string (bsL (wd ws 2))):=by rw [List.getElem?_append_left (by omega)];exact wd_get (by omega)
  have q3:(strs ws++cur)[3 * 1]? = some (.string (bsL (wd ws 3))):=by rw [List.getElem?_append_left (by omega)];exact wd_get (by omega)
  rw [decide_eq_true hl4,Bool.true_and] at hpsB
  rw [hl4]
  have p2:∀ w',GivesV Tryz.prog 155 [.string (bsL (wd ws 2))] w' (.tuple #[.int .i64 (if numB (wd ws 2) then digV (wd ws 2) else 0),.bool (numB (wd ws 2))]):=fun w'=>by
    have:=dig_q (bsL (wd ws 2)) w'
    rwa [toL_bsL] at this
  have p3:∀ w',GivesV Tryz.prog 155 [.string (bsL (wd ws 3))] w' (.tuple #[.int .i64 (if numB (wd ws 3) then digV (wd ws 3) else 0),.bool (numB (wd ws 3))]):=fun w'=>by
    have:=dig_q (bsL (wd ws 3)) w'
    rwa [toL_bsL] at this
  have i2:numB (wd ws 2) = true → (if numB (wd ws 2) then digV (wd ws 2) else 0) = digV (wd ws 2):=fun h=>by rw [if_pos h]
  have i3:numB (wd ws 3) = true → (if numB (wd ws 3) then digV (wd ws 3) else 0) = digV (wd ws 3):=fun h=>by rw [if_pos h]
  have e1:bsL (wd ws 1) = ⟨#[97,116]⟩ ↔ wd ws 1 = [97,116]:=⟨fun h=>bsL_inj (show bsL (wd ws 1) = bsL [97,116] from h),fun h=>by rw [h];rfl⟩
  have z0:=bsL_size (wd ws 0)
  have z2:=bsL_size (wd ws 2)
  have z3:=bsL_size (wd ws 3)
  generalize wd ws 0 = R at *
  generalize wd ws 1 = W1 at *
  generalize wd ws 2 = W2 at *
  generalize wd ws 3 = W3 at *
  generalize (if numB W2 then digV W2 else 0) = I2 at *
  generalize (if numB W3 then digV W3 else 0) = I3 at *
  have n2:nmB W2 = (numB W2 && decide (W2.length ≤ 5)):=rfl
  have n3:nmB W3 = (numB W3 && decide (W3.length ≤ 5)):=rfl
  (refine a_s rfl rfl ?_;refine n_t ?_;refine tr_seq ?_;refine s_r ?_;refine m_v rfl rfl ?_;refine tr_val (rk_len_slice (.of rfl)) rfl ?_;refine tr_val (rk_neq (.of rfl) (.of rfl)) rfl ?_;refine m_v rfl rfl ?_;refine v_g rfl rfl rfl rfl ?_;refine tr_vG1 rfl rfl inferInstance (fun hg hgp=>(rk_indexAddr (.ofg hg rfl) (.of rfl) rfl (by omega) (by omega) norm1_)) rfl ?_;refine tr_vG1 rfl rfl inferInstance (fun hg hgp=>(rk_load1 (.ofg hg rfl) (At.blkL .here q1))) rfl ?_;refine tr_vG1 rfl rfl inferInstance (fun hg hgp=>(rk_neqs (.ofg hg rfl) (.of rfl))) rfl ?_;refine tr_val (rk_pick_or (.of rfl) rfl) rfl ?_;refine m_v rfl rfl ?_;refine v_g rfl rfl rfl rfl ?_;refine tr_vG1 rfl rfl inferInstance (fun hg hgp=>(rk_indexAddr (.ofg hg rfl) (.of rfl) rfl (by omega) (by omega) norm1_)) rfl ?_;refine tr_vG1 rfl rfl inferInstance (fun hg hgp=>(rk_load1 (.ofg hg rfl) (At.blkL .here q0))) rfl ?_;refine tr_vG1 rfl rfl inferInstance (fun hg hgp=>(rk_len_string (.ofg hg rfl))) rfl ?_;refine tr_vG1 rfl rfl inferInstance (fun hg hgp=>(rk_neq (.ofg hg rfl) (.of rfl))) rfl ?_;refine tr_val (rk_pick_or (.of rfl) rfl) rfl ?_;refine m_v rfl rfl ?_;refine v_g rfl rfl rfl rfl ?_;refine tr_vG1 rfl rfl inferInstance (fun hg hgp=>(rk_indexAddr (.ofg hg rfl) (.of rfl) rfl (by omega) (by omega) norm1_)) rfl ?_;refine tr_vG1 rfl rfl inferInstance (fun hg hgp=>(rk_load1 (.ofg hg rfl) (At.blkL .here q2))) rfl ?_;refine tr_vG1 rfl rfl inferInstance (fun hg hgp=>(rk_len_string (.ofg hg rfl))) rfl ?_;refine tr_vG1 rfl rfl inferInstance (fun hg hgp=>(rk_gtr (.ofg hg rfl) (.of rfl))) rfl ?_;refine tr_val (rk_pick_or (.of rfl) rfl) rfl ?_;refine m_v rfl rfl ?_;refine v_g rfl rfl rfl rfl ?_;refine tr_vG1 rfl rfl inferInstance (fun hg hgp=>(rk_indexAddr (.ofg hg rfl) (.of rfl) rfl (by omega) (by omega) norm1_)) rfl ?_;refine tr_vG1 rfl rfl inferInstance (fun hg hgp=>(rk_load1 (.ofg hg rfl) (At.blkL .here q3))) rfl ?_;refine tr_vG1 rfl rfl inferInstance (fun hg hgp=>(rk_len_string (.ofg hg rfl))) rfl ?_;refine tr_vG1 rfl rfl inferInstance (fun hg hgp=>(rk_gtr (.ofg hg rfl) (.of rfl))) rfl ?_;refine tr_val (rk_pick_or (.of rfl) rfl) rfl ?_;refine n_t ?_;refine c_b rfl (fun hcd=>?_) (fun hcd=>?_);refine s_r ?_;refine tr_val (rk_buildL .nil norm_) rfl ?_;refine tr_store (.of rfl) (.of rfl) (.there .here) rfl rfl (okc_cons rfl (okc_cons rfl (okc_cons rfl (okc_cons rfl (okc_cons rfl (okc_cons rfl (okc_cons rfl okc_nil))))))) (lenb rfl) norm_ ?_;refine a_s rfl rfl ?_;refine n_t ?_;refine r_t ?_;refine tr_retE rfl (endsCT rfl inferInstance rfl .here norm_ (by rfl) (by rfl)) ?_;rotate_left;refine s_t ?_;refine s_r ?_;refine tr_new (rk_alloc rfl) rfl (fun _ _=>?_);refine n_t ?_;refine tr_seq ?_;refine s_r ?_;refine a_s rfl rfl ?_;refine n_t ?_;refine tr_block ?_;rotate_right)
  · have hb:psB (toL s) = false:=by
      rw [hpsB,Bool.eq_false_iff]
      intro h
      simp only [Bool.and_eq_true,decide_eq_true_eq] at h
      obtain ⟨ha,hlb,hn2,hn3⟩:=h
      unfold lbB at hlb
      rw [Bool.and_eq_true,decide_eq_true_eq] at hlb
      rw [n2,Bool.and_eq_true,decide_eq_true_eq] at hn2
      rw [n3,Bool.and_eq_true,decide_eq_true_eq] at hn3
      have h9:=e1.2 ha
      rcases hcd with (((h | h) | h) | h) | h
      · exact h rfl
      · exact h h9
      · omega
      · omega
      · omega
    obtain ⟨e3,e4⟩:=hbad hb
    rw [e3,e4];try rfl
  have a11:(bsL R).size = 11:=by omega
  have aw:W1 = [97,116]:=e1.1 (by
    obtain ⟨⟨⟨⟨_,h⟩,_⟩,_⟩,_⟩:=hcd
    exact Decidable.not_not.1 h)
  have a2:W2.length ≤ 5:=by omega
  have a3:W3.length ≤ 5:=by omega
  clear hcd
  rename_i b5 hb5
  have hlb:lbB R = (decide (R.length = 11) && (d2B R 0 && (d2B R 3 && (d2B R 6 && (d2B R 9 && (decide (atD R 2 = 58) && (decide (atD R 5 = 58) && (decide (atD R 8 = 58) || decide (atD R 8 = 59))))))))):=rfl
  refine tr_for (ι:=Nat) (fun i=>i ≤ 4 ∧ (0 < i → d2B R 0 = true) ∧ (1 < i → d2B R 3 = true) ∧ (2 < i → d2B R 6 = true) ∧ (3 < i → d2B R 9 = true)) (fun i=>[(6,.int .i64 (i:Nat)),(5,.pointer (some ⟨b5,0,none⟩)),(4,.slice (some ⟨g,0,none⟩) 4 cap),(2,.pointer (some ⟨b2,0,none⟩)),(3,.int .i64 0)]) (fun i=>[blk b5 (.cells #[.int .i64 (if 0 < i then d2 R 0 else 0),.int .i64 (if 1 < i then d2 R 3 else 0),.int .i64 (if 2 < i then d2 R 6 else 0),.int .i64 (if 3 < i then d2 R 9 else 0)] 210 (0,0)),blk g (.cells (strs ws++cur).toArray 9 (0,0)),blk b2 (.cells #[.int .i64 0,.bool false,.int .i64 0,.int .i64 0,.int .i64 0,.int .i64 0,.int .i64 0] 50 (0,0))]) (fun i=>4 - i) ?_ ?_
  · apply tr_start 0 ⟨Nat.zero_le _,by omega,by omega,by omega,by omega⟩
    case hs1=>exact .cons rfl (.cons rfl (.cons rfl (.cons rfl (.cons rfl .nil))))
    case ht=>
      show Takes _ [blk b5 (.cells #[.int .i64 0,.int .i64 0,.int .i64 0,.int .i64 0] 210 (0,0)),blk g (.cells (strs ws++cur).toArray 9 (0,0)),blk b2 (.cells #[.int .i64 0,.bool false,.int .i64 0,.int .i64 0,.int .i64 0,.int .i64 0,.int .i64 0] 50 (0,0))] _
      exact .cons .here (.cons .here (.cons .here .nil))
  rintro i ⟨hi,v0,v1,v2,v3⟩
  by_cases hli:i < 4
  · obtain rfl | rfl | rfl | rfl:i = 0 ∨ i = 1 ∨ i = 2 ∨ i = 3:=by omega
    · show Tr _ [] [(6,.int .i64 0),(5,.pointer (some ⟨b5,0,none⟩)),(4,.slice (some ⟨g,0,none⟩) 4 cap),(2,.pointer (some ⟨b2,0,none⟩)),(3,.int .i64 0)] [blk b5 (.cells #[.int .i64 0,.int .i64 0,.int .i64 0,.int .i64 0] 210 (0,0)),blk g (.cells (strs ws++cur).toArray 9 (0,0)),blk b2 (.cells #[.int .i64 0,.bool false,.int .i64 0,.int .i64 0,.int .i64 0,.int .i64 0,.int .i64 0] 50 (0,0))] _
      (refine tr_seq ?_;refine s_r ?_;refine m_v rfl rfl ?_;refine tr_val (rk_lss (.of rfl) (.of rfl)) rfl ?_;refine n_t ?_;refine c_d rfl (fun hcd=>?_) (fun _=>by omega);refine s_t ?_;refine tr_seq ?_;refine tr_block ?_;refine s_r ?_;refine m_v rfl rfl ?_;refine tr_val (rk_mul (.of rfl) (.of rfl) (ini (by omega))) rfl ?_;refine a_s rfl rfl ?_;refine n_t ?_;refine tr_block ?_)
      refine tr_for (ι:=Nat) (fun j=>j ≤ 2 ∧ (0 < j → isDg (atD R 0) = true) ∧ (1 < j → isDg (atD R 1) = true)) (fun j=>[(7,.int .i64 (if j = 0 then 0 else if j = 1 then 1 else 2)),(6,.int .i64 0),(5,.pointer (some ⟨b5,0,none⟩)),(4,.slice (some ⟨g,0,none⟩) 4 cap),(2,.pointer (some ⟨b2,0,none⟩)),(3,.int .i64 0)]) (fun j=>[blk b5 (.cells #[.int .i64 (if j = 0 then 0 else if j = 1 then (((atD R 0).toNat:Int) - 48) else d2 R 0),.int .i64 0,.int .i64 0,.int .i64 0] 210 (0,0)),blk g (.cells (strs ws++cur).toArray 9 (0,0)),blk b2 (.cells #[.int .i64 0,.bool false,.int .i64 0,.int .i64 0,.int .i64 0,.int .i64 0,.int .i64 0] 50 (0,0))]) (fun j=>2 - j) ?_ ?_
      · apply tr_start 0 ⟨Nat.zero_le _,by omega,by omega⟩
        case hs1=>exact .cons rfl (.cons rfl (.cons rfl (.cons rfl (.cons rfl (.cons rfl .nil)))))
        case ht=>
          show Takes _ [blk b5 (.cells #[.int .i64 0,.int .i64 0,.int .i64 0,.int .i64 0] 210 (0,0)),blk g (.cells (strs ws++cur).toArray 9 (0,0)),blk b2 (.cells #[.int .i64 0,.bool false,.int .i64 0,.int .i64 0,.int .i64 0,.int .i64 0,.int .i64 0] 50 (0,0))] _
          exact .cons .here (.cons .here (.cons .here .nil))
      rintro j ⟨hj,w0,w1⟩
      by_cases hlj:j < 2
      · obtain rfl | rfl:j = 0 ∨ j = 1:=by omega
        · show Tr _ [] [(7,.int .i64 0),(6,.int .i64 0),(5,.pointer (some ⟨b5,0,none⟩)),(4,.slice (some ⟨g,0,none⟩) 4 cap),(2,.pointer (some ⟨b2,0,none⟩)),(3,.int .i64 0)] [blk b5 (.cells #[.int .i64 0,.int .i64 0,.int .i64 0,.int .i64 0] 210 (0,0)),blk g (.cells (strs ws++cur).toArray 9 (0,0)),blk b2 (.cells #[.int .i64 0,.bool false,.int .i64 0,.int .i64 0,.int .i64 0,.int .i64 0,.int .i64 0] 50 (0,0))] _
          have x0:=bs_at R 0
          have u0:(atD R 0).toNat < 256:=(atD R 0).toNat_lt
          (refine tr_seq ?_;refine s_r ?_;refine m_v rfl rfl ?_;refine m_v rfl rfl ?_;refine tr_val (rk_mul (.of rfl) (.of rfl) (ini (by omega))) rfl ?_;refine tr_val (rk_add (.of rfl) (.of rfl) (ini (by omega))) rfl ?_;refine tr_val (rk_lss (.of rfl) (.of rfl)) rfl ?_;refine n_t ?_;refine c_d rfl (fun hcd=>?_) (fun _=>by omega);refine s_t ?_;refine tr_seq ?_;refine tr_block ?_;refine s_r ?_;refine m_v rfl rfl ?_;refine tr_val (rk_indexAddr (.of rfl) (.of rfl) rfl (by omega) (by assumption) norm1_) rfl ?_;refine tr_val (rk_load1 (.of rfl) (At.blkL (.there .here) q0)) rfl ?_;refine m_v rfl rfl ?_;refine tr_val (rk_indexS (.of rfl) (.of rfl) (by omega) (by omega)) rfl ?_;refine a_s rfl rfl ?_;refine n_t ?_;refine tr_seq ?_;refine s_r ?_;refine m_v rfl rfl ?_;refine tr_val (rk_lss (.of rfl) (.of rfl)) rfl ?_;refine m_v rfl rfl ?_;refine v_g rfl rfl rfl rfl ?_;refine tr_vG1 rfl rfl inferInstance (fun hg hgp=>(rk_gtr (.ofg hg rfl) (.of rfl))) rfl ?_;refine tr_val (rk_pick_or (.of rfl) rfl) rfl ?_;refine n_t ?_;refine c_b rfl (fun hcd=>?_) (fun hcd=>?_);refine s_r ?_;refine tr_val (rk_buildL .nil norm_) rfl ?_;refine tr_store (.of rfl) (.of rfl) (.there (.there .here)) rfl rfl (okc_cons rfl (okc_cons rfl (okc_cons rfl (okc_cons rfl (okc_cons rfl (okc_cons rfl (okc_cons rfl okc_nil))))))) (lenb rfl) norm_ ?_;refine a_s rfl rfl ?_;refine n_t ?_;refine r_t ?_;refine tr_blk_ret ?_;refine tr_then_ret ?_;refine tr_then_ret ?_;refine tr_blk_ret ?_;refine tr_blk_ret ?_;refine tr_then_ret ?_;refine tr_then_ret ?_;refine tr_blk_ret ?_;refine tr_then_ret ?_;refine tr_retE rfl (endsCT rfl inferInstance rfl .here norm_ (by rfl) (by rfl)) ?_;rotate_left;refine s_t ?_;refine tr_region ?_;refine m_v rfl rfl ?_;refine m_v rfl rfl ?_;refine tr_val (rk_indexAddrA (.of rfl) (.of rfl) (by omega) (by assumption) norm1_) rfl ?_;refine tr_val (rk_load1 (.of rfl) (At.lit .here rfl)) rfl ?_;refine tr_val (rk_mul (.of rfl) (.of rfl) (ini (by omega))) rfl ?_;refine m_v rfl rfl ?_;rotate_right)
          · have hnd:isDg (atD R 0) = false:=by
              rw [Bool.eq_false_iff]
              intro h
              have:=isDg_iff.1 h
              rw [show Int.toNat 0 = 0 from rfl] at hcd
              omega
            have hb:psB (toL s) = false:=by
              have:d2B R 0 = false:=by unfold d2B;rw [hnd];rfl
              rw [hpsB,hlb,this];simp
            obtain ⟨e3,e4⟩:=hbad hb
            rw [e3,e4];try rfl
          rw [show Int.toNat 0 = 0 from rfl] at hcd
          refine tr_val (rk_subw (.of rfl) (.of rfl)) rfl ?_
          refine tr_val (rk_conv (.of rfl)) rfl ?_
          rw [show Int.toNat 0 = 0 from rfl]
          rw [x0,u8w (x:=((atD R 0).toNat:Int) - 48) (by omega),i64w (x:=((atD R 0).toNat:Int) - 48) (by omega)]
          (refine tr_val (rk_add (.of rfl) (.of rfl) (ini (by omega))) rfl ?_;refine tr_val (rk_indexAddrA (.of rfl) (.of rfl) (by omega) (by assumption) norm1_) rfl ?_;refine tr_store (.of rfl) (.of rfl) .here rfl rfl (okc_cons rfl okc_nil) (lenb rfl) norm_ ?_;refine tr_nil ?_;refine tr_blk_normal ?_;refine tr_then ?_;refine tr_region ?_;refine m_v rfl rfl ?_;refine tr_val (rk_add (.of rfl) (.of rfl) (ini (by omega))) rfl ?_;refine a_s rfl rfl ?_;refine n_t ?_)
          rw [show (10 * 0 + (((atD R 0).toNat:Int) - 48):Int) = ((atD R 0).toNat:Int) - 48 by omega]
          apply tr_next (Φ:=fun j:Nat=>j ≤ 2 ∧ (0 < j → isDg (atD R 0) = true) ∧ (1 < j → isDg (atD R 1) = true)) 1 ⟨by omega,fun _=>isDg_iff.2 (by omega),fun h=>absurd h (by omega)⟩ (by show 2 - 1 < 2 - 0;omega)
          case hs1=>
            show Subs _ [(7,.int .i64 1),(6,.int .i64 0),(5,.pointer (some ⟨b5,0,none⟩)),(4,.slice (some ⟨g,0,none⟩) 4 cap),(2,.pointer (some ⟨b2,0,none⟩)),(3,.int .i64 0)]
            exact .cons rfl (.cons rfl (.cons rfl (.cons rfl (.cons rfl (.cons rfl .nil)))))
          case ht=>
            show Takes _ [blk b5 (.cells #[.int .i64 (((atD R 0).toNat:Int) - 48),.int .i64 0,.int .i64 0,.int .i64 0] 210 (0,0)),blk g (.cells (strs ws++cur).toArray 9 (0,0)),blk b2 (.cells #[.int .i64 0,.bool false,.int .i64 0,.int .i64 0,.int .i64 0,.int .i64 0,.int .i64 0] 50 (0,0))] _
            exact .cons .here (.cons .here (.cons .here .nil))
        · show Tr _ [] [(7,.int .i64 1),(6,.int .i64 0),(5,.pointer (some ⟨b5,0,none⟩)),(4,.slice (some ⟨g,0,none⟩) 4 cap),(2,.pointer (some ⟨b2,0,none⟩)),(3,.int .i64 0)] [blk b5 (.cells #[.int .i64 (((atD R 0).toNat:Int) - 48),.int .i64 0,.int .i64 0,.int .i64 0] 210 (0,0)),blk g (.cells (strs ws++cur).toArray 9 (0,0)),blk b2 (.cells #[.int .i64 0,.bool false,.int .i64 0,.int .i64 0,.int .i64 0,.int .i64 0,.int .i64 0] 50 (0,0))] _
          have w2:=isDg_iff.1 (w0 Nat.zero_lt_one)
          have x0:=bs_at R 1
          have u0:(atD R 1).toNat < 256:=(atD R 1).toNat_lt
          (refine tr_seq ?_;refine s_r ?_;refine m_v rfl rfl ?_;refine m_v rfl rfl ?_;refine tr_val (rk_mul (.of rfl) (.of rfl) (ini (by omega))) rfl ?_;refine tr_val (rk_add (.of rfl) (.of rfl) (ini (by omega))) rfl ?_;refine tr_val (rk_lss (.of rfl) (.of rfl)) rfl ?_;refine n_t ?_;refine c_d rfl (fun hcd=>?_) (fun _=>by omega);refine s_t ?_;refine tr_seq ?_;refine tr_block ?_;refine s_r ?_;refine m_v rfl rfl ?_;refine tr_val (rk_indexAddr (.of rfl) (.of rfl) rfl (by omega) (by assumption) norm1_) rfl ?_;refine tr_val (rk_load1 (.of rfl) (At.blkL (.there .here) q0)) rfl ?_;refine m_v rfl rfl ?_;refine tr_val (rk_indexS (.of rfl) (.of rfl) (by omega) (by omega)) rfl ?_;refine a_s rfl rfl ?_;refine n_t ?_;refine tr_seq ?_;refine s_r ?_;refine m_v rfl rfl ?_;refine tr_val (rk_lss (.of rfl) (.of rfl)) rfl ?_;refine m_v rfl rfl ?_;refine v_g rfl rfl rfl rfl ?_;refine tr_vG1 rfl rfl inferInstance (fun hg hgp=>(rk_gtr (.ofg hg rfl) (.of rfl))) rfl ?_;refine tr_val (rk_pick_or (.of rfl) rfl) rfl ?_;refine n_t ?_;refine c_b rfl (fun hcd=>?_) (fun hcd=>?_);refine s_r ?_;refine tr_val (rk_buildL .nil norm_) rfl ?_;refine tr_store (.of rfl) (.of rfl) (.there (.there .here)) rfl rfl (okc_cons rfl (okc_cons rfl (okc_cons rfl (okc_cons rfl (okc_cons rfl (okc_cons rfl (okc_cons rfl okc_nil))))))) (lenb rfl) norm_ ?_;refine a_s rfl rfl ?_;refine n_t ?_;refine r_t ?_;refine tr_blk_ret ?_;refine tr_then_ret ?_;refine tr_then_ret ?_;refine tr_blk_ret ?_;refine tr_blk_ret ?_;refine tr_then_ret ?_;refine tr_then_ret ?_;refine tr_blk_ret ?_;refine tr_then_ret ?_;refine tr_retE rfl (endsCT rfl inferInstance rfl .here norm_ (by rfl) (by rfl)) ?_;rotate_left;refine s_t ?_;refine tr_region ?_;refine m_v rfl rfl ?_;refine m_v rfl rfl ?_;refine tr_val (rk_indexAddrA (.of rfl) (.of rfl) (by omega) (by assumption) norm1_) rfl ?_;refine tr_val (rk_load1 (.of rfl) (At.lit .here rfl)) rfl ?_;refine tr_val (rk_mul (.of rfl) (.of rfl) (ini (by omega))) rfl ?_;refine m_v rfl rfl ?_;rotate_right)
          · have hnd:isDg (atD R 1) = false:=by
              rw [Bool.eq_false_iff]
              intro h
              have:=isDg_iff.1 h
              rw [show Int.toNat 1 = 1 from rfl] at hcd
              omega
            have hb:psB (toL s) = false:=by
              have:d2B R 0 = false:=by unfold d2B;rw [hnd];exact Bool.and_false _
              rw [hpsB,hlb,this];simp
            obtain ⟨e3,e4⟩:=hbad hb
            rw [e3,e4];try rfl
          rw [show Int.toNat 1 = 1 from rfl] at hcd
          refine tr_val (rk_subw (.of rfl) (.of rfl)) rfl ?_
          refine tr_val (rk_conv (.of rfl)) rfl ?_
          rw [show Int.toNat 1 = 1 from rfl]
          rw [x0,u8w (x:=((atD R 1).toNat:Int) - 48) (by omega),i64w (x:=((atD R 1).toNat:Int) - 48) (by omega)]
          (refine tr_val (rk_add (.of rfl) (.of rfl) (ini (by omega))) rfl ?_;refine tr_val (rk_indexAddrA (.of rfl) (.of rfl) (by omega) (by assumption) norm1_) rfl ?_;refine tr_store (.of rfl) (.of rfl) .here rfl rfl (okc_cons rfl okc_nil) (lenb rfl) norm_ ?_;refine tr_nil ?_;refine tr_blk_normal ?_;refine tr_then ?_;refine tr_region ?_;refine m_v rfl rfl ?_;refine tr_val (rk_add (.of rfl) (.of rfl) (ini (by omega))) rfl ?_;refine a_s rfl rfl ?_;refine n_t ?_)
          rw [show (10 * (((atD R 0).toNat:Int) - 48) + (((atD R 1).toNat:Int) - 48):Int) = d2 R 0 from rfl]
          apply tr_next (Φ:=fun j:Nat=>j ≤ 2 ∧ (0 < j → isDg (atD R 0) = true) ∧ (1 < j → isDg (atD R 1) = true)) 2 ⟨by omega,fun _=>w0 Nat.zero_lt_one,fun _=>isDg_iff.2 (by omega)⟩ (by show 2 - 2 < 2 - 1;omega)
          case hs1=>
            show Subs _ [(7,.int .i64 2),(6,.int .i64 0),(5,.pointer (some ⟨b5,0,none⟩)),(4,.slice (some ⟨g,0,none⟩) 4 cap),(2,.pointer (some ⟨b2,0,none⟩)),(3,.int .i64 0)]
            exact .cons rfl (.cons rfl (.cons rfl (.cons rfl (.cons rfl (.cons rfl .nil)))))
          case ht=>
            show Takes _ [blk b5 (.cells #[.int .i64 (d2 R 0),.int .i64 0,.int .i64 0,.int .i64 0] 210 (0,0)),blk g (.cells (strs ws++cur).toArray 9 (0,0)),blk b2 (.cells #[.int .i64 0,.bool false,.int .i64 0,.int .i64 0,.int .i64 0,.int .i64 0,.int .i64 0] 50 (0,0))] _
            exact .cons .here (.cons .here (.cons .here .nil))
      · obtain rfl:j = 2:=by omega
        show Tr _ [] [(7,.int .i64 2),(6,.int .i64 0),(5,.pointer (some ⟨b5,0,none⟩)),(4,.slice (some ⟨g,0,none⟩) 4 cap),(2,.pointer (some ⟨b2,0,none⟩)),(3,.int .i64 0)] [blk b5 (.cells #[.int .i64 (d2 R 0),.int .i64 0,.int .i64 0,.int .i64 0] 210 (0,0)),blk g (.cells (strs ws++cur).toArray 9 (0,0)),blk b2 (.cells #[.int .i64 0,.bool false,.int .i64 0,.int .i64 0,.int .i64 0,.int .i64 0,.int .i64 0] 50 (0,0))] _
        have vn:d2B R 0 = true:=by unfold d2B;rw [w0 (by omega),w1 (by omega)];rfl
        (refine tr_seq ?_;refine s_r ?_;refine m_v rfl rfl ?_;refine m_v rfl rfl ?_;refine tr_val (rk_mul (.of rfl) (.of rfl) (ini (by omega))) rfl ?_;refine tr_val (rk_add (.of rfl) (.of rfl) (ini (by omega))) rfl ?_;refine tr_val (rk_lss (.of rfl) (.of rfl)) rfl ?_;refine n_t ?_;refine c_d rfl (fun _=>by omega) (fun hcd=>?_);refine x_t ?_;refine tr_then_exit ?_;refine tr_blk_exit ?_;refine tr_blk_normal ?_;refine tr_then ?_;refine tr_region ?_;refine m_v rfl rfl ?_;refine tr_val (rk_add (.of rfl) (.of rfl) (ini (by omega))) rfl ?_;refine a_s rfl rfl ?_;refine n_t ?_)
        apply tr_next (Φ:=fun i:Nat=>i ≤ 4 ∧ (0 < i → d2B R 0 = true) ∧ (1 < i → d2B R 3 = true) ∧ (2 < i → d2B R 6 = true) ∧ (3 < i → d2B R 9 = true)) 1 ⟨by omega,fun _=>vn,fun h=>absurd h (by omega),fun h=>absurd h (by omega),fun h=>absurd h (by omega)⟩ (by show 4 - 1 < 4 - 0;omega)
        case hs1=>
          show Subs _ [(6,.int .i64 1),(5,.pointer (some ⟨b5,0,none⟩)),(4,.slice (some ⟨g,0,none⟩) 4 cap),(2,.pointer (some ⟨b2,0,none⟩)),(3,.int .i64 0)]
          exact .cons rfl (.cons rfl (.cons rfl (.cons rfl (.cons rfl .nil))))
        case ht=>
          show Takes _ [blk b5 (.cells #[.int .i64 (d2 R 0),.int .i64 0,.int .i64 0,.int .i64 0] 210 (0,0)),blk g (.cells (strs ws++cur).toArray 9 (0,0)),blk b2 (.cells #[.int .i64 0,.bool false,.int .i64 0,.int .i64 0,.int .i64 0,.int .i64 0,.int .i64 0] 50 (0,0))] _
          exact .cons .here (.cons .here (.cons .here .nil))
    · show Tr _ [] [(6,.int .i64 1),(5,.pointer (some ⟨b5,0,none⟩)),(4,.slice (some ⟨g,0,none⟩) 4 cap),(2,.pointer (some ⟨b2,0,none⟩)),(3,.int .i64 0)] [blk b5 (.cells #[.int .i64 (d2 R 0),.int .i64 0,.int .i64 0,.int .i64 0] 210 (0,0)),blk g (.cells (strs ws++cur).toArray 9 (0,0)),blk b2 (.cells #[.int .i64 0,.bool false,.int .i64 0,.int .i64 0,.int .i64 0,.int .i64 0,.int .i64 0] 50 (0,0))] _
      (refine tr_seq ?_;refine s_r ?_;refine m_v rfl rfl ?_;refine tr_val (rk_lss (.of rfl) (.of rfl)) rfl ?_;refine n_t ?_;refine c_d rfl (fun hcd=>?_) (fun _=>by omega);refine s_t ?_;refine tr_seq ?_;refine tr_block ?_;refine s_r ?_;refine m_v rfl rfl ?_;refine tr_val (rk_mul (.of rfl) (.of rfl) (ini (by omega))) rfl ?_;refine a_s rfl rfl ?_;refine n_t ?_;refine tr_block ?_)
      refine tr_for (ι:=Nat) (fun j=>j ≤ 2 ∧ (0 < j → isDg (atD R 3) = true) ∧ (1 < j → isDg (atD R 4) = true)) (fun j=>[(7,.int .i64 (if j = 0 then 3 else if j = 1 then 4 else 5)),(6,.int .i64 1),(5,.pointer (some ⟨b5,0,none⟩)),(4,.slice (some ⟨g,0,none⟩) 4 cap),(2,.pointer (some ⟨b2,0,none⟩)),(3,.int .i64 0)]) (fun j=>[blk b5 (.cells #[.int .i64 (d2 R 0),.int .i64 (if j = 0 then 0 else if j = 1 then (((atD R 3).toNat:Int) - 48) else d2 R 3),.int .i64 0,.int .i64 0] 210 (0,0)),blk g (.cells (strs ws++cur).toArray 9 (0,0)),blk b2 (.cells #[.int .i64 0,.bool false,.int .i64 0,.int .i64 0,.int .i64 0,.int .i64 0,.int .i64 0] 50 (0,0))]) (fun j=>2 - j) ?_ ?_
      · apply tr_start 0 ⟨Nat.zero_le _,by omega,by omega⟩
        case hs1=>exact .cons rfl (.cons rfl (.cons rfl (.cons rfl (.cons rfl (.cons rfl .nil)))))
        case ht=>
          show Takes _ [blk b5 (.cells #[.int .i64 (d2 R 0),.int .i64 0,.int .i64 0,.int .i64 0] 210 (0,0)),blk g (.cells (strs ws++cur).toArray 9 (0,0)),blk b2 (.cells #[.int .i64 0,.bool false,.int .i64 0,.int .i64 0,.int .i64 0,.int .i64 0,.int .i64 0] 50 (0,0))] _
          exact .cons .here (.cons .here (.cons .here .nil))
      rintro j ⟨hj,w0,w1⟩
      by_cases hlj:j < 2
      · obtain rfl | rfl:j = 0 ∨ j = 1:=by omega
        · show Tr _ [] [(7,.int .i64 3),(6,.int .i64 1),(5,.pointer (some ⟨b5,0,none⟩)),(4,.slice (some ⟨g,0,none⟩) 4 cap),(2,.pointer (some ⟨b2,0,none⟩)),(3,.int .i64 0)] [blk b5 (.cells #[.int .i64 (d2 R 0),.int .i64 0,.int .i64 0,.int .i64 0] 210 (0,0)),blk g (.cells (strs ws++cur).toArray 9 (0,0)),blk b2 (.cells #[.int .i64 0,.bool false,.int .i64 0,.int .i64 0,.int .i64 0,.int .i64 0,.int .i64 0] 50 (0,0))] _
          have x0:=bs_at R 3
          have u0:(atD R 3).toNat < 256:=(atD R 3).toNat_lt
          (refine tr_seq ?_;refine s_r ?_;refine m_v rfl rfl ?_;refine m_v rfl rfl ?_;refine tr_val (rk_mul (.of rfl) (.of rfl) (ini (by omega))) rfl ?_;refine tr_val (rk_add (.of rfl) (.of rfl) (ini (by omega))) rfl ?_;refine tr_val (rk_lss (.of rfl) (.of rfl)) rfl ?_;refine n_t ?_;refine c_d rfl (fun hcd=>?_) (fun _=>by omega);refine s_t ?_;refine tr_seq ?_;refine tr_block ?_;refine s_r ?_;refine m_v rfl rfl ?_;refine tr_val (rk_indexAddr (.of rfl) (.of rfl) rfl (by omega) (by omega) norm1_) rfl ?_;refine tr_val (rk_load1 (.of rfl) (At.blkL (.there .here) q0)) rfl ?_;refine m_v rfl rfl ?_;refine tr_val (rk_indexS (.of rfl) (.of rfl) (by omega) (by omega)) rfl ?_;refine a_s rfl rfl ?_;refine n_t ?_;refine tr_seq ?_;refine s_r ?_;refine m_v rfl rfl ?_;refine tr_val (rk_lss (.of rfl) (.of rfl)) rfl ?_;refine m_v rfl rfl ?_;refine v_g rfl rfl rfl rfl ?_;refine tr_vG1 rfl rfl inferInstance (fun hg hgp=>(rk_gtr (.ofg hg rfl) (.of rfl))) rfl ?_;refine tr_val (rk_pick_or (.of rfl) rfl) rfl ?_;refine n_t ?_;refine c_b rfl (fun hcd=>?_) (fun hcd=>?_);refine s_r ?_;refine tr_val (rk_buildL .nil norm_) rfl ?_;refine tr_store (.of rfl) (.of rfl) (.there (.there .here)) rfl rfl (okc_cons rfl (okc_cons rfl (okc_cons rfl (okc_cons rfl (okc_cons rfl (okc_cons rfl (okc_cons rfl okc_nil))))))) (lenb rfl) norm_ ?_;refine a_s rfl rfl ?_;refine n_t ?_;refine r_t ?_;refine tr_blk_ret ?_;refine tr_then_ret ?_;refine tr_then_ret ?_;refine tr_blk_ret ?_;refine tr_blk_ret ?_;refine tr_then_ret ?_;refine tr_then_ret ?_;refine tr_blk_ret ?_;refine tr_then_ret ?_;refine tr_retE rfl (endsCT rfl inferInstance rfl .here norm_ (by rfl) (by rfl)) ?_;rotate_left;refine s_t ?_;refine tr_region ?_;refine m_v rfl rfl ?_;refine m_v rfl rfl ?_;refine tr_val (rk_indexAddrA (.of rfl) (.of rfl) (by omega) (by assumption) norm1_) rfl ?_;refine tr_val (rk_load1 (.of rfl) (At.lit .here rfl)) rfl ?_;refine tr_val (rk_mul (.of rfl) (.of rfl) (ini (by omega))) rfl ?_;refine m_v rfl rfl ?_;rotate_right)
          · have hnd:isDg (atD R 3) = false:=by
              rw [Bool.eq_false_iff]
              intro h
              have:=isDg_iff.1 h
              rw [show Int.toNat 3 = 3 from rfl] at hcd
              omega
            have hb:psB (toL s) = false:=by
              have:d2B R 3 = false:=by unfold d2B;rw [hnd];rfl
              rw [hpsB,hlb,this];simp
            obtain ⟨e3,e4⟩:=hbad hb
            rw [e3,e4];try rfl
          rw [show Int.toNat 3 = 3 from rfl] at hcd
          refine tr_val (rk_subw (.of rfl) (.of rfl)) rfl ?_
          refine tr_val (rk_conv (.of rfl)) rfl ?_
          rw [show Int.toNat 3 = 3 from rfl]
          rw [x0,u8w (x:=((atD R 3).toNat:Int) - 48) (by omega),i64w (x:=((atD R 3).toNat:Int) - 48) (by omega)]
          (refine tr_val (rk_add (.of rfl) (.of rfl) (ini (by omega))) rfl ?_;refine tr_val (rk_indexAddrA (.of rfl) (.of rfl) (by omega) (by assumption) norm1_) rfl ?_;refine tr_store (.of rfl) (.of rfl) .here rfl rfl (okc_cons rfl okc_nil) (lenb rfl) norm_ ?_;refine tr_nil ?_;refine tr_blk_normal ?_;refine tr_then ?_;refine tr_region ?_;refine m_v rfl rfl ?_;refine tr_val (rk_add (.of rfl) (.of rfl) (ini (by omega))) rfl ?_;refine a_s rfl rfl ?_;refine n_t ?_)
          rw [show (10 * 0 + (((atD R 3).toNat:Int) - 48):Int) = ((atD R 3).toNat:Int) - 48 by omega]
          apply tr_next (Φ:=fun j:Nat=>j ≤ 2 ∧ (0 < j → isDg (atD R 3) = true) ∧ (1 < j → isDg (atD R 4) = true)) 1 ⟨by omega,fun _=>isDg_iff.2 (by omega),fun h=>absurd h (by omega)⟩ (by show 2 - 1 < 2 - 0;omega)
          case hs1=>
            show Subs _ [(7,.int .i64 4),(6,.int .i64 1),(5,.pointer (some ⟨b5,0,none⟩)),(4,.slice (some ⟨g,0,none⟩) 4 cap),(2,.pointer (some ⟨b2,0,none⟩)),(3,.int .i64 0)]
            exact .cons rfl (.cons rfl (.cons rfl (.cons rfl (.cons rfl (.cons rfl .nil)))))
          case ht=>
            show Takes _ [blk b5 (.cells #[.int .i64 (d2 R 0),.int .i64 (((atD R 3).toNat:Int) - 48),.int .i64 0,.int .i64 0] 210 (0,0)),blk g (.cells (strs ws++cur).toArray 9 (0,0)),blk b2 (.cells #[.int .i64 0,.bool false,.int .i64 0,.int .i64 0,.int .i64 0,.int .i64 0,.int .i64 0] 50 (0,0))] _
            exact .cons .here (.cons .here (.cons .here .nil))
        · show Tr _ [] [(7,.int .i64 4),(6,.int .i64 1),(5,.pointer (some ⟨b5,0,none⟩)),(4,.slice (some ⟨g,0,none⟩) 4 cap),(2,.pointer (some ⟨b2,0,none⟩)),(3,.int .i64 0)] [blk b5 (.cells #[.int .i64 (d2 R 0),.int .i64 (((atD R 3).toNat:Int) - 48),.int .i64 0,.int .i64 0] 210 (0,0)),blk g (.cells (strs ws++cur).toArray 9 (0,0)),blk b2 (.cells #[.int .i64 0,.bool false,.int .i64 0,.int .i64 0,.int .i64 0,.int .i64 0,.int .i64 0] 50 (0,0))] _
          have w2:=isDg_iff.1 (w0 Nat.zero_lt_one)
          have x0:=bs_at R 4
          have u0:(atD R 4).toNat < 256:=(atD R 4).toNat_lt
          (refine tr_seq ?_;refine s_r ?_;refine m_v rfl rfl ?_;refine m_v rfl rfl ?_;refine tr_val (rk_mul (.of rfl) (.of rfl) (ini (by omega))) rfl ?_;refine tr_val (rk_add (.of rfl) (.of rfl) (ini (by omega))) rfl ?_;refine tr_val (rk_lss (.of rfl) (.of rfl)) rfl ?_;refine n_t ?_;refine c_d rfl (fun hcd=>?_) (fun _=>by omega);refine s_t ?_;refine tr_seq ?_;refine tr_block ?_;refine s_r ?_;refine m_v rfl rfl ?_;refine tr_val (rk_indexAddr (.of rfl) (.of rfl) rfl (by omega) (by omega) norm1_) rfl ?_;refine tr_val (rk_load1 (.of rfl) (At.blkL (.there .here) q0)) rfl ?_;refine m_v rfl rfl ?_;refine tr_val (rk_indexS (.of rfl) (.of rfl) (by omega) (by omega)) rfl ?_;refine a_s rfl rfl ?_;refine n_t ?_;refine tr_seq ?_;refine s_r ?_;refine m_v rfl rfl ?_;refine tr_val (rk_lss (.of rfl) (.of rfl)) rfl ?_;refine m_v rfl rfl ?_;refine v_g rfl rfl rfl rfl ?_;refine tr_vG1 rfl rfl inferInstance (fun hg hgp=>(rk_gtr (.ofg hg rfl) (.of rfl))) rfl ?_;refine tr_val (rk_pick_or (.of rfl) rfl) rfl ?_;refine n_t ?_;refine c_b rfl (fun hcd=>?_) (fun hcd=>?_);refine s_r ?_;refine tr_val (rk_buildL .nil norm_) rfl ?_;refine tr_store (.of rfl) (.of rfl) (.there (.there .here)) rfl rfl (okc_cons rfl (okc_cons rfl (okc_cons rfl (okc_cons rfl (okc_cons rfl (okc_cons rfl (okc_cons rfl okc_nil))))))) (lenb rfl) norm_ ?_;refine a_s rfl rfl ?_;refine n_t ?_;refine r_t ?_;refine tr_blk_ret ?_;refine tr_then_ret ?_;refine tr_then_ret ?_;refine tr_blk_ret ?_;refine tr_blk_ret ?_;refine tr_then_ret ?_;refine tr_then_ret ?_;refine tr_blk_ret ?_;refine tr_then_ret ?_;refine tr_retE rfl (endsCT rfl inferInstance rfl .here norm_ (by rfl) (by rfl)) ?_;rotate_left;refine s_t ?_;refine tr_region ?_;refine m_v rfl rfl ?_;refine m_v rfl rfl ?_;refine tr_val (rk_indexAddrA (.of rfl) (.of rfl) (by omega) (by assumption) norm1_) rfl ?_;refine tr_val (rk_load1 (.of rfl) (At.lit .here rfl)) rfl ?_;refine tr_val (rk_mul (.of rfl) (.of rfl) (ini (by omega))) rfl ?_;refine m_v rfl rfl ?_;rotate_right)
          · have hnd:isDg (atD R 4) = false:=by
              rw [Bool.eq_false_iff]
              intro h
              have:=isDg_iff.1 h
              rw [show Int.toNat 4 = 4 from rfl] at hcd
              omega
            have hb:psB (toL s) = false:=by
              have:d2B R 3 = false:=by unfold d2B;rw [hnd];exact Bool.and_false _
              rw [hpsB,hlb,this];simp
            obtain ⟨e3,e4⟩:=hbad hb
            rw [e3,e4];try rfl
          rw [show Int.toNat 4 = 4 from rfl] at hcd
          refine tr_val (rk_subw (.of rfl) (.of rfl)) rfl ?_
          refine tr_val (rk_conv (.of rfl)) rfl ?_
          rw [show Int.toNat 4 = 4 from rfl]
          rw [x0,u8w (x:=((atD R 4).toNat:Int) - 48) (by omega),i64w (x:=((atD R 4).toNat:Int) - 48) (by omega)]
          (refine tr_val (rk_add (.of rfl) (.of rfl) (ini (by omega))) rfl ?_;refine tr_val (rk_indexAddrA (.of rfl) (.of rfl) (by omega) (by assumption) norm1_) rfl ?_;refine tr_store (.of rfl) (.of rfl) .here rfl rfl (okc_cons rfl okc_nil) (lenb rfl) norm_ ?_;refine tr_nil ?_;refine tr_blk_normal ?_;refine tr_then ?_;refine tr_region ?_;refine m_v rfl rfl ?_;refine tr_val (rk_add (.of rfl) (.of rfl) (ini (by omega))) rfl ?_;refine a_s rfl rfl ?_;refine n_t ?_)
          rw [show (10 * (((atD R 3).toNat:Int) - 48) + (((atD R 4).toNat:Int) - 48):Int) = d2 R 3 from rfl]
          apply tr_next (Φ:=fun j:Nat=>j ≤ 2 ∧ (0 < j → isDg (atD R 3) = true) ∧ (1 < j → isDg (atD R 4) = true)) 2 ⟨by omega,fun _=>w0 Nat.zero_lt_one,fun _=>isDg_iff.2 (by omega)⟩ (by show 2 - 2 < 2 - 1;omega)
          case hs1=>
            show Subs _ [(7,.int .i64 5),(6,.int .i64 1),(5,.pointer (some ⟨b5,0,none⟩)),(4,.slice (some ⟨g,0,none⟩) 4 cap),(2,.pointer (some ⟨b2,0,none⟩)),(3,.int .i64 0)]
            exact .cons rfl (.cons rfl (.cons rfl (.cons rfl (.cons rfl (.cons rfl .nil)))))
          case ht=>
            show Takes _ [blk b5 (.cells #[.int .i64 (d2 R 0),.int .i64 (d2 R 3),.int .i64 0,.int .i64 0] 210 (0,0)),blk g (.cells (strs ws++cur).toArray 9 (0,0)),blk b2 (.cells #[.int .i64 0,.bool false,.int .i64 0,.int .i64 0,.int .i64 0,.int .i64 0,.int .i64 0] 50 (0,0))] _
            exact .cons .here (.cons .here (.cons .here .nil))
      · obtain rfl:j = 2:=by omega
        show Tr _ [] [(7,.int .i64 5),(6,.int .i64 1),(5,.pointer (some ⟨b5,0,none⟩)),(4,.slice (some ⟨g,0,none⟩) 4 cap),(2,.pointer (some ⟨b2,0,none⟩)),(3,.int .i64 0)] [blk b5 (.cells #[.int .i64 (d2 R 0),.int .i64 (d2 R 3),.int .i64 0,.int .i64 0] 210 (0,0)),blk g (.cells (strs ws++cur).toArray 9 (0,0)),blk b2 (.cells #[.int .i64 0,.bool false,.int .i64 0,.int .i64 0,.int .i64 0,.int .i64 0,.int .i64 0] 50 (0,0))] _
        have vn:d2B R 3 = true:=by unfold d2B;rw [w0 (by omega),w1 (by omega)];rfl
        (refine tr_seq ?_;refine s_r ?_;refine m_v rfl rfl ?_;refine m_v rfl rfl ?_;refine tr_val (rk_mul (.of rfl) (.of rfl) (ini (by omega))) rfl ?_;refine tr_val (rk_add (.of rfl) (.of rfl) (ini (by omega))) rfl ?_;refine tr_val (rk_lss (.of rfl) (.of rfl)) rfl ?_;refine n_t ?_;refine c_d rfl (fun _=>by omega) (fun hcd=>?_);refine x_t ?_;refine tr_then_exit ?_;refine tr_blk_exit ?_;refine tr_blk_normal ?_;refine tr_then ?_;refine tr_region ?_;refine m_v rfl rfl ?_;refine tr_val (rk_add (.of rfl) (.of rfl) (ini (by omega))) rfl ?_;refine a_s rfl rfl ?_;refine n_t ?_)
        apply tr_next (Φ:=fun i:Nat=>i ≤ 4 ∧ (0 < i → d2B R 0 = true) ∧ (1 < i → d2B R 3 = true) ∧ (2 < i → d2B R 6 = true) ∧ (3 < i → d2B R 9 = true)) 2 ⟨by omega,fun _=>v0 (by omega),fun _=>vn,fun h=>absurd h (by omega),fun h=>absurd h (by omega)⟩ (by show 4 - 2 < 4 - 1;omega)
        case hs1=>
          show Subs _ [(6,.int .i64 2),(5,.pointer (some ⟨b5,0,none⟩)),(4,.slice (some ⟨g,0,none⟩) 4 cap),(2,.pointer (some ⟨b2,0,none⟩)),(3,.int .i64 0)]
          exact .cons rfl (.cons rfl (.cons rfl (.cons rfl (.cons rfl .nil))))
        case ht=>
          show Takes _ [blk b5 (.cells #[.int .i64 (d2 R 0),.int .i64 (d2 R 3),.int .i64 0,.int .i64 0] 210 (0,0)),blk g (.cells (strs ws++cur).toArray 9 (0,0)),blk b2 (.cells #[.int .i64 0,.bool false,.int .i64 0,.int .i64 0,.int .i64 0,.int .i64 0,.int .i64 0] 50 (0,0))] _
          exact .cons .here (.cons .here (.cons .here .nil))
    · show Tr _ [] [(6,.int .i64 2),(5,.pointer (some ⟨b5,0,none⟩)),(4,.slice (some ⟨g,0,none⟩) 4 cap),(2,.pointer (some ⟨b2,0,none⟩)),(3,.int .i64 0)] [blk b5 (.cells #[.int .i64 (d2 R 0),.int .i64 (d2 R 3),.int .i64 0,.int .i64 0] 210 (0,0)),blk g (.cells (strs ws++cur).toArray 9 (0,0)),blk b2 (.cells #[.int .i64 0,.bool false,.int .i64 0,.int .i64 0,.int .i64 0,.int .i64 0,.int .i64 0] 50 (0,0))] _
      (refine tr_seq ?_;refine s_r ?_;refine m_v rfl rfl ?_;refine tr_val (rk_lss (.of rfl) (.of rfl)) rfl ?_;refine n_t ?_;refine c_d rfl (fun hcd=>?_) (fun _=>by omega);refine s_t ?_;refine tr_seq ?_;refine tr_block ?_;refine s_r ?_;refine m_v rfl rfl ?_;refine tr_val (rk_mul (.of rfl) (.of rfl) (ini (by omega))) rfl ?_;refine a_s rfl rfl ?_;refine n_t ?_;refine tr_block ?_)
      refine tr_for (ι:=Nat) (fun j=>j ≤ 2 ∧ (0 < j → isDg (atD R 6) = true) ∧ (1 < j → isDg (atD R 7) = true)) (fun j=>[(7,.int .i64 (if j = 0 then 6 else if j = 1 then 7 else 8)),(6,.int .i64 2),(5,.pointer (some ⟨b5,0,none⟩)),(4,.slice (some ⟨g,0,none⟩) 4 cap),(2,.pointer (some ⟨b2,0,none⟩)),(3,.int .i64 0)]) (fun j=>[blk b5 (.cells #[.int .i64 (d2 R 0),.int .i64 (d2 R 3),.int .i64 (if j = 0 then 0 else if j = 1 then (((atD R 6).toNat:Int) - 48) else d2 R 6),.int .i64 0] 210 (0,0)),blk g (.cells (strs ws++cur).toArray 9 (0,0)),blk b2 (.cells #[.int .i64 0,.bool false,.int .i64 0,.int .i64 0,.int .i64 0,.int .i64 0,.int .i64 0] 50 (0,0))]) (fun j=>2 - j) ?_ ?_
      · apply tr_start 0 ⟨Nat.zero_le _,by omega,by omega⟩
        case hs1=>exact .cons rfl (.cons rfl (.cons rfl (.cons rfl (.cons rfl (.cons rfl .nil)))))
        case ht=>
          show Takes _ [blk b5 (.cells #[.int .i64 (d2 R 0),.int .i64 (d2 R 3),.int .i64 0,.int .i64 0] 210 (0,0)),blk g (.cells (strs ws++cur).toArray 9 (0,0)),blk b2 (.cells #[.int .i64 0,.bool false,.int .i64 0,.int .i64 0,.int .i64 0,.int .i64 0,.int .i64 0] 50 (0,0))] _
          exact .cons .here (.cons .here (.cons .here .nil))
      rintro j ⟨hj,w0,w1⟩
      by_cases hlj:j < 2
      · obtain rfl | rfl:j = 0 ∨ j = 1:=by omega
        · show Tr _ [] [(7,.int .i64 6),(6,.int .i64 2),(5,.pointer (some ⟨b5,0,none⟩)),(4,.slice (some ⟨g,0,none⟩) 4 cap),(2,.pointer (some ⟨b2,0,none⟩)),(3,.int .i64 0)] [blk b5 (.cells #[.int .i64 (d2 R 0),.int .i64 (d2 R 3),.int .i64 0,.int .i64 0] 210 (0,0)),blk g (.cells (strs ws++cur).toArray 9 (0,0)),blk b2 (.cells #[.int .i64 0,.bool false,.int .i64 0,.int .i64 0,.int .i64 0,.int .i64 0,.int .i64 0] 50 (0,0))] _
          have x0:=bs_at R 6
          have u0:(atD R 6).toNat < 256:=(atD R 6).toNat_lt
          (refine tr_seq ?_;refine s_r ?_;refine m_v rfl rfl ?_;refine m_v rfl rfl ?_;refine tr_val (rk_mul (.of rfl) (.of rfl) (ini (by omega))) rfl ?_;refine tr_val (rk_add (.of rfl) (.of rfl) (ini (by omega))) rfl ?_;refine tr_val (rk_lss (.of rfl) (.of rfl)) rfl ?_;refine n_t ?_;refine c_d rfl (fun hcd=>?_) (fun _=>by omega);refine s_t ?_;refine tr_seq ?_;refine tr_block ?_;refine s_r ?_;refine m_v rfl rfl ?_;refine tr_val (rk_indexAddr (.of rfl) (.of rfl) rfl (by omega) (by omega) norm1_) rfl ?_;refine tr_val (rk_load1 (.of rfl) (At.blkL (.there .here) q0)) rfl ?_;refine m_v rfl rfl ?_;refine tr_val (rk_indexS (.of rfl) (.of rfl) (by omega) (by omega)) rfl ?_;refine a_s rfl rfl ?_;refine n_t ?_;refine tr_seq ?_;refine s_r ?_;refine m_v rfl rfl ?_;refine tr_val (rk_lss (.of rfl) (.of rfl)) rfl ?_;refine m_v rfl rfl ?_;refine v_g rfl rfl rfl rfl ?_;refine tr_vG1 rfl rfl inferInstance (fun hg hgp=>(rk_gtr (.ofg hg rfl) (.of rfl))) rfl ?_;refine tr_val (rk_pick_or (.of rfl) rfl) rfl ?_;refine n_t ?_;refine c_b rfl (fun hcd=>?_) (fun hcd=>?_);refine s_r ?_;refine tr_val (rk_buildL .nil norm_) rfl ?_;refine tr_store (.of rfl) (.of rfl) (.there (.there .here)) rfl rfl (okc_cons rfl (okc_cons rfl (okc_cons rfl (okc_cons rfl (okc_cons rfl (okc_cons rfl (okc_cons rfl okc_nil))))))) (lenb rfl) norm_ ?_;refine a_s rfl rfl ?_;refine n_t ?_;refine r_t ?_;refine tr_blk_ret ?_;refine tr_then_ret ?_;refine tr_then_ret ?_;refine tr_blk_ret ?_;refine tr_blk_ret ?_;refine tr_then_ret ?_;refine tr_then_ret ?_;refine tr_blk_ret ?_;refine tr_then_ret ?_;refine tr_retE rfl (endsCT rfl inferInstance rfl .here norm_ (by rfl) (by rfl)) ?_;rotate_left;refine s_t ?_;refine tr_region ?_;refine m_v rfl rfl ?_;refine m_v rfl rfl ?_;refine tr_val (rk_indexAddrA (.of rfl) (.of rfl) (by omega) (by assumption) norm1_) rfl ?_;refine tr_val (rk_load1 (.of rfl) (At.lit .here rfl)) rfl ?_;refine tr_val (rk_mul (.of rfl) (.of rfl) (ini (by omega))) rfl ?_;refine m_v rfl rfl ?_;rotate_right)
          · have hnd:isDg (atD R 6) = false:=by
              rw [Bool.eq_false_iff]
              intro h
              have:=isDg_iff.1 h
              rw [show Int.toNat 6 = 6 from rfl] at hcd
              omega
            have hb:psB (toL s) = false:=by
              have:d2B R 6 = false:=by unfold d2B;rw [hnd];rfl
              rw [hpsB,hlb,this];simp
            obtain ⟨e3,e4⟩:=hbad hb
            rw [e3,e4];try rfl
          rw [show Int.toNat 6 = 6 from rfl] at hcd
          refine tr_val (rk_subw (.of rfl) (.of rfl)) rfl ?_
          refine tr_val (rk_conv (.of rfl)) rfl ?_
          rw [show Int.toNat 6 = 6 from rfl]
          rw [x0,u8w (x:=((atD R 6).toNat:Int) - 48) (by omega),i64w (x:=((atD R 6).toNat:Int) - 48) (by omega)]
          (refine tr_val (rk_add (.of rfl) (.of rfl) (ini (by omega))) rfl ?_;refine tr_val (rk_indexAddrA (.of rfl) (.of rfl) (by omega) (by assumption) norm1_) rfl ?_;refine tr_store (.of rfl) (.of rfl) .here rfl rfl (okc_cons rfl okc_nil) (lenb rfl) norm_ ?_;refine tr_nil ?_;refine tr_blk_normal ?_;refine tr_then ?_;refine tr_region ?_;refine m_v rfl rfl ?_;refine tr_val (rk_add (.of rfl) (.of rfl) (ini (by omega))) rfl ?_;refine a_s rfl rfl ?_;refine n_t ?_)
          rw [show (10 * 0 + (((atD R 6).toNat:Int) - 48):Int) = ((atD R 6).toNat:Int) - 48 by omega]
          apply tr_next (Φ:=fun j:Nat=>j ≤ 2 ∧ (0 < j → isDg (atD R 6) = true) ∧ (1 < j → isDg (atD R 7) = true)) 1 ⟨by omega,fun _=>isDg_iff.2 (by omega),fun h=>absurd h (by omega)⟩ (by show 2 - 1 < 2 - 0;omega)
          case hs1=>
            show Subs _ [(7,.int .i64 7),(6,.int .i64 2),(5,.pointer (some ⟨b5,0,none⟩)),(4,.slice (some ⟨g,0,none⟩) 4 cap),(2,.pointer (some ⟨b2,0,none⟩)),(3,.int .i64 0)]
            exact .cons rfl (.cons rfl (.cons rfl (.cons rfl (.cons rfl (.cons rfl .nil)))))
          case ht=>
            show Takes _ [blk b5 (.cells #[.int .i64 (d2 R 0),.int .i64 (d2 R 3),.int .i64 (((atD R 6).toNat:Int) - 48),.int .i64 0] 210 (0,0)),blk g (.cells (strs ws++cur).toArray 9 (0,0)),blk b2 (.cells #[.int .i64 0,.bool false,.int .i64 0,.int .i64 0,.int .i64 0,.int .i64 0,.int .i64 0] 50 (0,0))] _
            exact .cons .here (.cons .here (.cons .here .nil))
        · show Tr _ [] [(7,.int .i64 7),(6,.int .i64 2),(5,.pointer (some ⟨b5,0,none⟩)),(4,.slice (some ⟨g,0,none⟩) 4 cap),(2,.pointer (some ⟨b2,0,none⟩)),(3,.int .i64 0)] [blk b5 (.cells #[.int .i64 (d2 R 0),.int .i64 (d2 R 3),.int .i64 (((atD R 6).toNat:Int) - 48),.int .i64 0] 210 (0,0)),blk g (.cells (strs ws++cur).toArray 9 (0,0)),blk b2 (.cells #[.int .i64 0,.bool false,.int .i64 0,.int .i64 0,.int .i64 0,.int .i64 0,.int .i64 0] 50 (0,0))] _
          have w2:=isDg_iff.1 (w0 Nat.zero_lt_one)
          have x0:=bs_at R 7
          have u0:(atD R 7).toNat < 256:=(atD R 7).toNat_lt
          (refine tr_seq ?_;refine s_r ?_;refine m_v rfl rfl ?_;refine m_v rfl rfl ?_;refine tr_val (rk_mul (.of rfl) (.of rfl) (ini (by omega))) rfl ?_;refine tr_val (rk_add (.of rfl) (.of rfl) (ini (by omega))) rfl ?_;refine tr_val (rk_lss (.of rfl) (.of rfl)) rfl ?_;refine n_t ?_;refine c_d rfl (fun hcd=>?_) (fun _=>by omega);refine s_t ?_;refine tr_seq ?_;refine tr_block ?_;refine s_r ?_;refine m_v rfl rfl ?_;refine tr_val (rk_indexAddr (.of rfl) (.of rfl) rfl (by omega) (by omega) norm1_) rfl ?_;refine tr_val (rk_load1 (.of rfl) (At.blkL (.there .here) q0)) rfl ?_;refine m_v rfl rfl ?_;refine tr_val (rk_indexS (.of rfl) (.of rfl) (by omega) (by omega)) rfl ?_;refine a_s rfl rfl ?_;refine n_t ?_;refine tr_seq ?_;refine s_r ?_;refine m_v rfl rfl ?_;refine tr_val (rk_lss (.of rfl) (.of rfl)) rfl ?_;refine m_v rfl rfl ?_;refine v_g rfl rfl rfl rfl ?_;refine tr_vG1 rfl rfl inferInstance (fun hg hgp=>(rk_gtr (.ofg hg rfl) (.of rfl))) rfl ?_;refine tr_val (rk_pick_or (.of rfl) rfl) rfl ?_;refine n_t ?_;refine c_b rfl (fun hcd=>?_) (fun hcd=>?_);refine s_r ?_;refine tr_val (rk_buildL .nil norm_) rfl ?_;refine tr_store (.of rfl) (.of rfl) (.there (.there .here)) rfl rfl (okc_cons rfl (okc_cons rfl (okc_cons rfl (okc_cons rfl (okc_cons rfl (okc_cons rfl (okc_cons rfl okc_nil))))))) (lenb rfl) norm_ ?_;refine a_s rfl rfl ?_;refine n_t ?_;refine r_t ?_;refine tr_blk_ret ?_;refine tr_then_ret ?_;refine tr_then_ret ?_;refine tr_blk_ret ?_;refine tr_blk_ret ?_;refine tr_then_ret ?_;refine tr_then_ret ?_;refine tr_blk_ret ?_;refine tr_then_ret ?_;refine tr_retE rfl (endsCT rfl inferInstance rfl .here norm_ (by rfl) (by rfl)) ?_;rotate_left;refine s_t ?_;refine tr_region ?_;refine m_v rfl rfl ?_;refine m_v rfl rfl ?_;refine tr_val (rk_indexAddrA (.of rfl) (.of rfl) (by omega) (by assumption) norm1_) rfl ?_;refine tr_val (rk_load1 (.of rfl) (At.lit .here rfl)) rfl ?_;refine tr_val (rk_mul (.of rfl) (.of rfl) (ini (by omega))) rfl ?_;refine m_v rfl rfl ?_;rotate_right)
          · have hnd:isDg (atD R 7) = false:=by
              rw [Bool.eq_false_iff]
              intro h
              have:=isDg_iff.1 h
              rw [show Int.toNat 7 = 7 from rfl] at hcd
              omega
            have hb:psB (toL s) = false:=by
              have:d2B R 6 = false:=by unfold d2B;rw [hnd];exact Bool.and_false _
              rw [hpsB,hlb,this];simp
            obtain ⟨e3,e4⟩:=hbad hb
            rw [e3,e4];try rfl
          rw [show Int.toNat 7 = 7 from rfl] at hcd
          refine tr_val (rk_subw (.of rfl) (.of rfl)) rfl ?_
          refine tr_val (rk_conv (.of rfl)) rfl ?_
          rw [show Int.toNat 7 = 7 from rfl]
          rw [x0,u8w (x:=((atD R 7).toNat:Int) - 48) (by omega),i64w (x:=((atD R 7).toNat:Int) - 48) (by omega)]
          (refine tr_val (rk_add (.of rfl) (.of rfl) (ini (by omega))) rfl ?_;refine tr_val (rk_indexAddrA (.of rfl) (.of rfl) (by omega) (by assumption) norm1_) rfl ?_;refine tr_store (.of rfl) (.of rfl) .here rfl rfl (okc_cons rfl okc_nil) (lenb rfl) norm_ ?_;refine tr_nil ?_;refine tr_blk_normal ?_;refine tr_then ?_;refine tr_region ?_;refine m_v rfl rfl ?_;refine tr_val (rk_add (.of rfl) (.of rfl) (ini (by omega))) rfl ?_;refine a_s rfl rfl ?_;refine n_t ?_)
          rw [show (10 * (((atD R 6).toNat:Int) - 48) + (((atD R 7).toNat:Int) - 48):Int) = d2 R 6 from rfl]
          apply tr_next (Φ:=fun j:Nat=>j ≤ 2 ∧ (0 < j → isDg (atD R 6) = true) ∧ (1 < j → isDg (atD R 7) = true)) 2 ⟨by omega,fun _=>w0 Nat.zero_lt_one,fun _=>isDg_iff.2 (by omega)⟩ (by show 2 - 2 < 2 - 1;omega)
          case hs1=>
            show Subs _ [(7,.int .i64 8),(6,.int .i64 2),(5,.pointer (some ⟨b5,0,none⟩)),(4,.slice (some ⟨g,0,none⟩) 4 cap),(2,.pointer (some ⟨b2,0,none⟩)),(3,.int .i64 0)]
            exact .cons rfl (.cons rfl (.cons rfl (.cons rfl (.cons rfl (.cons rfl .nil)))))
          case ht=>
            show Takes _ [blk b5 (.cells #[.int .i64 (d2 R 0),.int .i64 (d2 R 3),.int .i64 (d2 R 6),.int .i64 0] 210 (0,0)),blk g (.cells (strs ws++cur).toArray 9 (0,0)),blk b2 (.cells #[.int .i64 0,.bool false,.int .i64 0,.int .i64 0,.int .i64 0,.int .i64 0,.int .i64 0] 50 (0,0))] _
            exact .cons .here (.cons .here (.cons .here .nil))
      · obtain rfl:j = 2:=by omega
        show Tr _ [] [(7,.int .i64 8),(6,.int .i64 2),(5,.pointer (some ⟨b5,0,none⟩)),(4,.slice (some ⟨g,0,none⟩) 4 cap),(2,.pointer (some ⟨b2,0,none⟩)),(3,.int .i64 0)] [blk b5 (.cells #[.int .i64 (d2 R 0),.int .i64 (d2 R 3),.int .i64 (d2 R 6),.int .i64 0] 210 (0,0)),blk g (.cells (strs ws++cur).toArray 9 (0,0)),blk b2 (.cells #[.int .i64 0,.bool false,.int .i64 0,.int .i64 0,.int .i64 0,.int .i64 0,.int .i64 0] 50 (0,0))] _
        have vn:d2B R 6 = true:=by unfold d2B;rw [w0 (by omega),w1 (by omega)];rfl
        (refine tr_seq ?_;refine s_r ?_;refine m_v rfl rfl ?_;refine m_v rfl rfl ?_;refine tr_val (rk_mul (.of rfl) (.of rfl) (ini (by omega))) rfl ?_;refine tr_val (rk_add (.of rfl) (.of rfl) (ini (by omega))) rfl ?_;refine tr_val (rk_lss (.of rfl) (.of rfl)) rfl ?_;refine n_t ?_;refine c_d rfl (fun _=>by omega) (fun hcd=>?_);refine x_t ?_;refine tr_then_exit ?_;refine tr_blk_exit ?_;refine tr_blk_normal ?_;refine tr_then ?_;refine tr_region ?_;refine m_v rfl rfl ?_;refine tr_val (rk_add (.of rfl) (.of rfl) (ini (by omega))) rfl ?_;refine a_s rfl rfl ?_;refine n_t ?_)
        apply tr_next (Φ:=fun i:Nat=>i ≤ 4 ∧ (0 < i → d2B R 0 = true) ∧ (1 < i → d2B R 3 = true) ∧ (2 < i → d2B R 6 = true) ∧ (3 < i → d2B R 9 = true)) 3 ⟨by omega,fun _=>v0 (by omega),fun _=>v1 (by omega),fun _=>vn,fun h=>absurd h (by omega)⟩ (by show 4 - 3 < 4 - 2;omega)
        case hs1=>
          show Subs _ [(6,.int .i64 3),(5,.pointer (some ⟨b5,0,none⟩)),(4,.slice (some ⟨g,0,none⟩) 4 cap),(2,.pointer (some ⟨b2,0,none⟩)),(3,.int .i64 0)]
          exact .cons rfl (.cons rfl (.cons rfl (.cons rfl (.cons rfl .nil))))
        case ht=>
          show Takes _ [blk b5 (.cells #[.int .i64 (d2 R 0),.int .i64 (d2 R 3),.int .i64 (d2 R 6),.int .i64 0] 210 (0,0)),blk g (.cells (strs ws++cur).toArray 9 (0,0)),blk b2 (.cells #[.int .i64 0,.bool false,.int .i64 0,.int .i64 0,.int .i64 0,.int .i64 0,.int .i64 0] 50 (0,0))] _
          exact .cons .here (.cons .here (.cons .here .nil))
    · show Tr _ [] [(6,.int .i64 3),(5,.pointer (some ⟨b5,0,none⟩)),(4,.slice (some ⟨g,0,none⟩) 4 cap),(2,.pointer (some ⟨b2,0,none⟩)),(3,.int .i64 0)] [blk b5 (.cells #[.int .i64 (d2 R 0),.int .i64 (d2 R 3),.int .i64 (d2 R 6),.int .i64 0] 210 (0,0)),blk g (.cells (strs ws++cur).toArray 9 (0,0)),blk b2 (.cells #[.int .i64 0,.bool false,.int .i64 0,.int .i64 0,.int .i64 0,.int .i64 0,.int .i64 0] 50 (0,0))] _
      (refine tr_seq ?_;refine s_r ?_;refine m_v rfl rfl ?_;refine tr_val (rk_lss (.of rfl) (.of rfl)) rfl ?_;refine n_t ?_;refine c_d rfl (fun hcd=>?_) (fun _=>by omega);refine s_t ?_;refine tr_seq ?_;refine tr_block ?_;refine s_r ?_;refine m_v rfl rfl ?_;refine tr_val (rk_mul (.of rfl) (.of rfl) (ini (by omega))) rfl ?_;refine a_s rfl rfl ?_;refine n_t ?_;refine tr_block ?_)
      refine tr_for (ι:=Nat) (fun j=>j ≤ 2 ∧ (0 < j → isDg (atD R 9) = true) ∧ (1 < j → isDg (atD R 10) = true)) (fun j=>[(7,.int .i64 (if j = 0 then 9 else if j = 1 then 10 else 11)),(6,.int .i64 3),(5,.pointer (some ⟨b5,0,none⟩)),(4,.slice (some ⟨g,0,none⟩) 4 cap),(2,.pointer (some ⟨b2,0,none⟩)),(3,.int .i64 0)]) (fun j=>[blk b5 (.cells #[.int .i64 (d2 R 0),.int .i64 (d2 R 3),.int .i64 (d2 R 6),.int .i64 (if j = 0 then 0 else if j = 1 then (((atD R 9).toNat:Int) - 48) else d2 R 9)] 210 (0,0)),blk g (.cells (strs ws++cur).toArray 9 (0,0)),blk b2 (.cells #[.int .i64 0,.bool false,.int .i64 0,.int .i64 0,.int .i64 0,.int .i64 0,.int .i64 0] 50 (0,0))]) (fun j=>2 - j) ?_ ?_
      · apply tr_start 0 ⟨Nat.zero_le _,by omega,by omega⟩
        case hs1=>exact .cons rfl (.cons rfl (.cons rfl (.cons rfl (.cons rfl (.cons rfl .nil)))))
        case ht=>
          show Takes _ [blk b5 (.cells #[.int .i64 (d2 R 0),.int .i64 (d2 R 3),.int .i64 (d2 R 6),.int .i64 0] 210 (0,0)),blk g (.cells (strs ws++cur).toArray 9 (0,0)),blk b2 (.cells #[.int .i64 0,.bool false,.int .i64 0,.int .i64 0,.int .i64 0,.int .i64 0,.int .i64 0] 50 (0,0))] _
          exact .cons .here (.cons .here (.cons .here .nil))
      rintro j ⟨hj,w0,w1⟩
      by_cases hlj:j < 2
      · obtain rfl | rfl:j = 0 ∨ j = 1:=by omega
        · show Tr _ [] [(7,.int .i64 9),(6,.int .i64 3),(5,.pointer (some ⟨b5,0,none⟩)),(4,.slice (some ⟨g,0,none⟩) 4 cap),(2,.pointer (some ⟨b2,0,none⟩)),(3,.int .i64 0)] [blk b5 (.cells #[.int .i64 (d2 R 0),.int .i64 (d2 R 3),.int .i64 (d2 R 6),.int .i64 0] 210 (0,0)),blk g (.cells (strs ws++cur).toArray 9 (0,0)),blk b2 (.cells #[.int .i64 0,.bool false,.int .i64 0,.int .i64 0,.int .i64 0,.int .i64 0,.int .i64 0] 50 (0,0))] _
          have x0:=bs_at R 9
          have u0:(atD R 9).toNat < 256:=(atD R 9).toNat_lt
          (refine tr_seq ?_;refine s_r ?_;refine m_v rfl rfl ?_;refine m_v rfl rfl ?_;refine tr_val (rk_mul (.of rfl) (.of rfl) (ini (by omega))) rfl ?_;refine tr_val (rk_add (.of rfl) (.of rfl) (ini (by omega))) rfl ?_;refine tr_val (rk_lss (.of rfl) (.of rfl)) rfl ?_;refine n_t ?_;refine c_d rfl (fun hcd=>?_) (fun _=>by omega);refine s_t ?_;refine tr_seq ?_;refine tr_block ?_;refine s_r ?_;refine m_v rfl rfl ?_;refine tr_val (rk_indexAddr (.of rfl) (.of rfl) rfl (by omega) (by omega) norm1_) rfl ?_;refine tr_val (rk_load1 (.of rfl) (At.blkL (.there .here) q0)) rfl ?_;refine m_v rfl rfl ?_;refine tr_val (rk_indexS (.of rfl) (.of rfl) (by omega) (by omega)) rfl ?_;refine a_s rfl rfl ?_;refine n_t ?_;refine tr_seq ?_;refine s_r ?_;refine m_v rfl rfl ?_;refine tr_val (rk_lss (.of rfl) (.of rfl)) rfl ?_;refine m_v rfl rfl ?_;refine v_g rfl rfl rfl rfl ?_;refine tr_vG1 rfl rfl inferInstance (fun hg hgp=>(rk_gtr (.ofg hg rfl) (.of rfl))) rfl ?_;refine tr_val (rk_pick_or (.of rfl) rfl) rfl ?_;refine n_t ?_;refine c_b rfl (fun hcd=>?_) (fun hcd=>?_);refine s_r ?_;refine tr_val (rk_buildL .nil norm_) rfl ?_;refine tr_store (.of rfl) (.of rfl) (.there (.there .here)) rfl rfl (okc_cons rfl (okc_cons rfl (okc_cons rfl (okc_cons rfl (okc_cons rfl (okc_cons rfl (okc_cons rfl okc_nil))))))) (lenb rfl) norm_ ?_;refine a_s rfl rfl ?_;refine n_t ?_;refine r_t ?_;refine tr_blk_ret ?_;refine tr_then_ret ?_;refine tr_then_ret ?_;refine tr_blk_ret ?_;refine tr_blk_ret ?_;refine tr_then_ret ?_;refine tr_then_ret ?_;refine tr_blk_ret ?_;refine tr_then_ret ?_;refine tr_retE rfl (endsCT rfl inferInstance rfl .here norm_ (by rfl) (by rfl)) ?_;rotate_left;refine s_t ?_;refine tr_region ?_;refine m_v rfl rfl ?_;refine m_v rfl rfl ?_;refine tr_val (rk_indexAddrA (.of rfl) (.of rfl) (by omega) (by assumption) norm1_) rfl ?_;refine tr_val (rk_load1 (.of rfl) (At.lit .here rfl)) rfl ?_;refine tr_val (rk_mul (.of rfl) (.of rfl) (ini (by omega))) rfl ?_;refine m_v rfl rfl ?_;rotate_right)
          · have hnd:isDg (atD R 9) = false:=by
              rw [Bool.eq_false_iff]
              intro h
              have:=isDg_iff.1 h
              rw [show Int.toNat 9 = 9 from rfl] at hcd
              omega
            have hb:psB (toL s) = false:=by
              have:d2B R 9 = false:=by unfold d2B;rw [hnd];rfl
              rw [hpsB,hlb,this];simp
            obtain ⟨e3,e4⟩:=hbad hb
            rw [e3,e4];try rfl
          rw [show Int.toNat 9 = 9 from rfl] at hcd
          refine tr_val (rk_subw (.of rfl) (.of rfl)) rfl ?_
          refine tr_val (rk_conv (.of rfl)) rfl ?_
          rw [show Int.toNat 9 = 9 from rfl]
          rw [x0,u8w (x:=((atD R 9).toNat:Int) - 48) (by omega),i64w (x:=((atD R 9).toNat:Int) - 48) (by omega)]
          (refine tr_val (rk_add (.of rfl) (.of rfl) (ini (by omega))) rfl ?_;refine tr_val (rk_indexAddrA (.of rfl) (.of rfl) (by omega) (by assumption) norm1_) rfl ?_;refine tr_store (.of rfl) (.of rfl) .here rfl rfl (okc_cons rfl okc_nil) (lenb rfl) norm_ ?_;refine tr_nil ?_;refine tr_blk_normal ?_;refine tr_then ?_;refine tr_region ?_;refine m_v rfl rfl ?_;refine tr_val (rk_add (.of rfl) (.of rfl) (ini (by omega))) rfl ?_;refine a_s rfl rfl ?_;refine n_t ?_)
          rw [show (10 * 0 + (((atD R 9).toNat:Int) - 48):Int) = ((atD R 9).toNat:Int) - 48 by omega]
          apply tr_next (Φ:=fun j:Nat=>j ≤ 2 ∧ (0 < j → isDg (atD R 9) = true) ∧ (1 < j → isDg (atD R 10) = true)) 1 ⟨by omega,fun _=>isDg_iff.2 (by omega),fun h=>absurd h (by omega)⟩ (by show 2 - 1 < 2 - 0;omega)
          case hs1=>
            show Subs _ [(7,.int .i64 10),(6,.int .i64 3),(5,.pointer (some ⟨b5,0,none⟩)),(4,.slice (some ⟨g,0,none⟩) 4 cap),(2,.pointer (some ⟨b2,0,none⟩)),(3,.int .i64 0)]
            exact .cons rfl (.cons rfl (.cons rfl (.cons rfl (.cons rfl (.cons rfl .nil)))))
          case ht=>
            show Takes _ [blk b5 (.cells #[.int .i64 (d2 R 0),.int .i64 (d2 R 3),.int .i64 (d2 R 6),.int .i64 (((atD R 9).toNat:Int) - 48)] 210 (0,0)),blk g (.cells (strs ws++cur).toArray 9 (0,0)),blk b2 (.cells #[.int .i64 0,.bool false,.int .i64 0,.int .i64 0,.int .i64 0,.int .i64 0,.int .i64 0] 50 (0,0))] _
            exact .cons .here (.cons .here (.cons .here .nil))
        · show Tr _ [] [(7,.int .i64 10),(6,.int .i64 3),(5,.pointer (some ⟨b5,0,none⟩)),(4,.slice (some ⟨g,0,none⟩) 4 cap),(2,.pointer (some ⟨b2,0,none⟩)),(3,.int .i64 0)] [blk b5 (.cells #[.int .i64 (d2 R 0),.int .i64 (d2 R 3),.int .i64 (d2 R 6),.int .i64 (((atD R 9).toNat:Int) - 48)] 210 (0,0)),blk g (.cells (strs ws++cur).toArray 9 (0,0)),blk b2 (.cells #[.int .i64 0,.bool false,.int .i64 0,.int .i64 0,.int .i64 0,.int .i64 0,.int .i64 0] 50 (0,0))] _
          have w2:=isDg_iff.1 (w0 Nat.zero_lt_one)
          have x0:=bs_at R 10
          have u0:(atD R 10).toNat < 256:=(atD R 10).toNat_lt
          (refine tr_seq ?_;refine s_r ?_;refine m_v rfl rfl ?_;refine m_v rfl rfl ?_;refine tr_val (rk_mul (.of rfl) (.of rfl) (ini (by omega))) rfl ?_;refine tr_val (rk_add (.of rfl) (.of rfl) (ini (by omega))) rfl ?_;refine tr_val (rk_lss (.of rfl) (.of rfl)) rfl ?_;refine n_t ?_;refine c_d rfl (fun hcd=>?_) (fun _=>by omega);refine s_t ?_;refine tr_seq ?_;refine tr_block ?_;refine s_r ?_;refine m_v rfl rfl ?_;refine tr_val (rk_indexAddr (.of rfl) (.of rfl) rfl (by omega) (by omega) norm1_) rfl ?_;refine tr_val (rk_load1 (.of rfl) (At.blkL (.there .here) q0)) rfl ?_;refine m_v rfl rfl ?_;refine tr_val (rk_indexS (.of rfl) (.of rfl) (by omega) (by omega)) rfl ?_;refine a_s rfl rfl ?_;refine n_t ?_;refine tr_seq ?_;refine s_r ?_;refine m_v rfl rfl ?_;refine tr_val (rk_lss (.of rfl) (.of rfl)) rfl ?_;refine m_v rfl rfl ?_;refine v_g rfl rfl rfl rfl ?_;refine tr_vG1 rfl rfl inferInstance (fun hg hgp=>(rk_gtr (.ofg hg rfl) (.of rfl))) rfl ?_;refine tr_val (rk_pick_or (.of rfl) rfl) rfl ?_;refine n_t ?_;refine c_b rfl (fun hcd=>?_) (fun hcd=>?_);refine s_r ?_;refine tr_val (rk_buildL .nil norm_) rfl ?_;refine tr_store (.of rfl) (.of rfl) (.there (.there .here)) rfl rfl (okc_cons rfl (okc_cons rfl (okc_cons rfl (okc_cons rfl (okc_cons rfl (okc_cons rfl (okc_cons rfl okc_nil))))))) (lenb rfl) norm_ ?_;refine a_s rfl rfl ?_;refine n_t ?_;refine r_t ?_;refine tr_blk_ret ?_;refine tr_then_ret ?_;refine tr_then_ret ?_;refine tr_blk_ret ?_;refine tr_blk_ret ?_;refine tr_then_ret ?_;refine tr_then_ret ?_;refine tr_blk_ret ?_;refine tr_then_ret ?_;refine tr_retE rfl (endsCT rfl inferInstance rfl .here norm_ (by rfl) (by rfl)) ?_;rotate_left;refine s_t ?_;refine tr_region ?_;refine m_v rfl rfl ?_;refine m_v rfl rfl ?_;refine tr_val (rk_indexAddrA (.of rfl) (.of rfl) (by omega) (by assumption) norm1_) rfl ?_;refine tr_val (rk_load1 (.of rfl) (At.lit .here rfl)) rfl ?_;refine tr_val (rk_mul (.of rfl) (.of rfl) (ini (by omega))) rfl ?_;refine m_v rfl rfl ?_;rotate_right)
          · have hnd:isDg (atD R 10) = false:=by
              rw [Bool.eq_false_iff]
              intro h
              have:=isDg_iff.1 h
              rw [show Int.toNat 10 = 10 from rfl] at hcd
              omega
            have hb:psB (toL s) = false:=by
              have:d2B R 9 = false:=by unfold d2B;rw [hnd];exact Bool.and_false _
              rw [hpsB,hlb,this];simp
            obtain ⟨e3,e4⟩:=hbad hb
            rw [e3,e4];try rfl
          rw [show Int.toNat 10 = 10 from rfl] at hcd
          refine tr_val (rk_subw (.of rfl) (.of rfl)) rfl ?_
          refine tr_val (rk_conv (.of rfl)) rfl ?_
          rw [show Int.toNat 10 = 10 from rfl]
          rw [x0,u8w (x:=((atD R 10).toNat:Int) - 48) (by omega),i64w (x:=((atD R 10).toNat:Int) - 48) (by omega)]
          (refine tr_val (rk_add (.of rfl) (.of rfl) (ini (by omega))) rfl ?_;refine tr_val (rk_indexAddrA (.of rfl) (.of rfl) (by omega) (by assumption) norm1_) rfl ?_;refine tr_store (.of rfl) (.of rfl) .here rfl rfl (okc_cons rfl okc_nil) (lenb rfl) norm_ ?_;refine tr_nil ?_;refine tr_blk_normal ?_;refine tr_then ?_;refine tr_region ?_;refine m_v rfl rfl ?_;refine tr_val (rk_add (.of rfl) (.of rfl) (ini (by omega))) rfl ?_;refine a_s rfl rfl ?_;refine n_t ?_)
          rw [show (10 * (((atD R 9).toNat:Int) - 48) + (((atD R 10).toNat:Int) - 48):Int) = d2 R 9 from rfl]
          apply tr_next (Φ:=fun j:Nat=>j ≤ 2 ∧ (0 < j → isDg (atD R 9) = true) ∧ (1 < j → isDg (atD R 10) = true)) 2 ⟨by omega,fun _=>w0 Nat.zero_lt_one,fun _=>isDg_iff.2 (by omega)⟩ (by show 2 - 2 < 2 - 1;omega)
          case hs1=>
            show Subs _ [(7,.int .i64 11),(6,.int .i64 3),(5,.pointer (some ⟨b5,0,none⟩)),(4,.slice (some ⟨g,0,none⟩) 4 cap),(2,.pointer (some ⟨b2,0,none⟩)),(3,.int .i64 0)]
            exact .cons rfl (.cons rfl (.cons rfl (.cons rfl (.cons rfl (.cons rfl .nil)))))
          case ht=>
            show Takes _ [blk b5 (.cells #[.int .i64 (d2 R 0),.int .i64 (d2 R 3),.int .i64 (d2 R 6),.int .i64 (d2 R 9)] 210 (0,0)),blk g (.cells (strs ws++cur).toArray 9 (0,0)),blk b2 (.cells #[.int .i64 0,.bool false,.int .i64 0,.int .i64 0,.int .i64 0,.int .i64 0,.int .i64 0] 50 (0,0))] _
            exact .cons .here (.cons .here (.cons .here .nil))
      · obtain rfl:j = 2:=by omega
        show Tr _ [] [(7,.int .i64 11),(6,.int .i64 3),(5,.pointer (some ⟨b5,0,none⟩)),(4,.slice (some ⟨g,0,none⟩) 4 cap),(2,.pointer (some ⟨b2,0,none⟩)),(3,.int .i64 0)] [blk b5 (.cells #[.int .i64 (d2 R 0),.int .i64 (d2 R 3),.int .i64 (d2 R 6),.int .i64 (d2 R 9)] 210 (0,0)),blk g (.cells (strs ws++cur).toArray 9 (0,0)),blk b2 (.cells #[.int .i64 0,.bool false,.int .i64 0,.int .i64 0,.int .i64 0,.int .i64 0,.int .i64 0] 50 (0,0))] _
        have vn:d2B R 9 = true:=by unfold d2B;rw [w0 (by omega),w1 (by omega)];rfl
        (refine tr_seq ?_;refine s_r ?_;refine m_v rfl rfl ?_;refine m_v rfl rfl ?_;refine tr_val (rk_mul (.of rfl) (.of rfl) (ini (by omega))) rfl ?_;refine tr_val (rk_add (.of rfl) (.of rfl) (ini (by omega))) rfl ?_;refine tr_val (rk_lss (.of rfl) (.of rfl)) rfl ?_;refine n_t ?_;refine c_d rfl (fun _=>by omega) (fun hcd=>?_);refine x_t ?_;refine tr_then_exit ?_;refine tr_blk_exit ?_;refine tr_blk_normal ?_;refine tr_then ?_;refine tr_region ?_;refine m_v rfl rfl ?_;refine tr_val (rk_add (.of rfl) (.of rfl) (ini (by omega))) rfl ?_;refine a_s rfl rfl ?_;refine n_t ?_)
        apply tr_next (Φ:=fun i:Nat=>i ≤ 4 ∧ (0 < i → d2B R 0 = true) ∧ (1 < i → d2B R 3 = true) ∧ (2 < i → d2B R 6 = true) ∧ (3 < i → d2B R 9 = true)) 4 ⟨by omega,fun _=>v0 (by omega),fun _=>v1 (by omega),fun _=>v2 (by omega),fun _=>vn⟩ (by show 4 - 4 < 4 - 3;omega)
        case hs1=>
          show Subs _ [(6,.int .i64 4),(5,.pointer (some ⟨b5,0,none⟩)),(4,.slice (some ⟨g,0,none⟩) 4 cap),(2,.pointer (some ⟨b2,0,none⟩)),(3,.int .i64 0)]
          exact .cons rfl (.cons rfl (.cons rfl (.cons rfl (.cons rfl .nil))))
        case ht=>
          show Takes _ [blk b5 (.cells #[.int .i64 (d2 R 0),.int .i64 (d2 R 3),.int .i64 (d2 R 6),.int .i64 (d2 R 9)] 210 (0,0)),blk g (.cells (strs ws++cur).toArray 9 (0,0)),blk b2 (.cells #[.int .i64 0,.bool false,.int .i64 0,.int .i64 0,.int .i64 0,.int .i64 0,.int .i64 0] 50 (0,0))] _
          exact .cons .here (.cons .here (.cons .here .nil))
  obtain rfl:i = 4:=by omega
  show Tr _ [] [(6,.int .i64 4),(5,.pointer (some ⟨b5,0,none⟩)),(4,.slice (some ⟨g,0,none⟩) 4 cap),(2,.pointer (some ⟨b2,0,none⟩)),(3,.int .i64 0)] [blk b5 (.cells #[.int .i64 (d2 R 0),.int .i64 (d2 R 3),.int .i64 (d2 R 6),.int .i64 (d2 R 9)] 210 (0,0)),blk g (.cells (strs ws++cur).toArray 9 (0,0)),blk b2 (.cells #[.int .i64 0,.bool false,.int .i64 0,.int .i64 0,.int .i64 0,.int .i64 0,.int .i64 0] 50 (0,0))] _
  have b0:=v0 (by omega)
  have b3:=v1 (by omega)
  have b6:=v2 (by omega)
  have b9:=v3 (by omega)
  clear v0 v1 v2 v3
  have hR11:decide (R.length = 11) = true:=by rw [decide_eq_true_eq];omega
  rw [hR11,b0,b3,b6,b9,Bool.true_and,Bool.true_and,Bool.true_and,Bool.true_and,Bool.true_and] at hlb
  have hcs:∀ (D:Bool) w',GivesV Tryz.prog 37 [.agg #[.int .i64 I2,.bool D,.int .i64 (d2 R 0),.int .i64 (d2 R 3),.int .i64 (d2 R 6),.int .i64 (d2 R 9),.int .i64 I3]] w' (.int .i64 (stmE ⟨⟨I2,D⟩,⟨d2 R 0,d2 R 3,d2 R 6,d2 R 9⟩,I3⟩)):=fun D w'=>stmQ_c ⟨⟨I2,D⟩,⟨d2 R 0,d2 R 3,d2 R 6,d2 R 9⟩,I3⟩ w'
  (refine tr_seq ?_;refine s_r ?_;refine m_v rfl rfl ?_;refine tr_val (rk_lss (.of rfl) (.of rfl)) rfl ?_;refine n_t ?_;refine c_d rfl (fun _=>by omega) (fun hcd=>?_);refine x_t ?_;refine tr_then_exit ?_;refine tr_blk_exit ?_;refine tr_then ?_;refine s_r ?_;refine m_v rfl rfl ?_;refine tr_val (rk_indexAddr (.of rfl) (.of rfl) rfl (by omega) (by omega) norm1_) rfl ?_;refine tr_val (rk_load1 (.of rfl) (At.blkL (.there .here) q0)) rfl ?_;refine tr_val (rk_indexS (.of rfl) (.of rfl) (by omega) (by omega)) rfl ?_;refine tr_val (rk_eql (.of rfl) (.of rfl)) rfl ?_;refine a_s rfl rfl ?_;refine n_r ?_;refine m_v rfl rfl ?_;refine tr_val (rk_indexAddr (.of rfl) (.of rfl) rfl (by omega) (by omega) norm1_) rfl ?_;refine tr_val (rk_load1 (.of rfl) (At.blkL (.there .here) q2)) rfl ?_;refine tr_callV (rk_call (.of rfl) (.cons (.of rfl) .nil) inferInstance normc_) rfl (fun w' hm'=>(p2 w')) ?_;refine m_v rfl rfl ?_;refine tr_val (rk_extract (.of rfl) rfl) rfl ?_;refine tr_val (rk_extract (.of rfl) rfl) rfl ?_;refine a_s rfl rfl ?_;refine a_s rfl rfl ?_;refine n_r ?_;refine m_v rfl rfl ?_;refine tr_val (rk_indexAddr (.of rfl) (.of rfl) rfl (by omega) (by omega) norm1_) rfl ?_;refine tr_val (rk_load1 (.of rfl) (At.blkL (.there .here) q3)) rfl ?_;refine tr_callV (rk_call (.of rfl) (.cons (.of rfl) .nil) inferInstance normc_) rfl (fun w' hm'=>(p3 w')) ?_;refine m_v rfl rfl ?_;refine tr_val (rk_extract (.of rfl) rfl) rfl ?_;refine tr_val (rk_extract (.of rfl) rfl) rfl ?_;refine a_s rfl rfl ?_;refine a_s rfl rfl ?_;refine n_t ?_;refine tr_seq ?_;refine s_r ?_;refine m_v rfl rfl ?_;refine tr_val (rk_indexAddr (.of rfl) (.of rfl) rfl (by omega) (by omega) norm1_) rfl ?_;refine tr_val (rk_load1 (.of rfl) (At.blkL (.there .here) q0)) rfl ?_;refine tr_val (rk_indexS (.of rfl) (.of rfl) (by omega) (by omega)) rfl ?_;refine tr_val (rk_neq (.of rfl) (.of rfl)) rfl ?_;refine m_v rfl rfl ?_;refine v_g rfl rfl rfl rfl ?_;refine tr_vG1 rfl rfl inferInstance (fun hg hgp=>(rk_indexAddr (.ofg hg rfl) (.of rfl) rfl (by omega) (by omega) norm1_)) rfl ?_;refine tr_vG1 rfl rfl inferInstance (fun hg hgp=>(rk_load1 (.ofg hg rfl) (At.blkL (.there .here) q0))) rfl ?_;refine tr_vG1 rfl rfl inferInstance (fun hg hgp=>(rk_indexS (.ofg hg rfl) (.of rfl) (by omega) (by omega))) rfl ?_;refine tr_vG1 rfl rfl inferInstance (fun hg hgp=>(rk_neq (.ofg hg rfl) (.of rfl))) rfl ?_;refine tr_val (rk_pick_or (.of rfl) rfl) rfl ?_;refine m_v rfl rfl ?_;refine v_g rfl rfl rfl rfl ?_;refine tr_vG1 rfl rfl inferInstance (fun hg hgp=>(rk_indexAddr (.ofg hg rfl) (.of rfl) rfl (by omega) (by omega) norm1_)) rfl ?_;refine tr_vG1 rfl rfl inferInstance (fun hg hgp=>(rk_load1 (.ofg hg rfl) (At.blkL (.there .here) q0))) rfl ?_;refine tr_vG1 rfl rfl inferInstance (fun hg hgp=>(rk_indexS (.ofg hg rfl) (.of rfl) (by omega) (by omega))) rfl ?_;refine tr_vG1 rfl rfl inferInstance (fun hg hgp=>(rk_neq (.ofg hg rfl) (.of rfl))) rfl ?_;refine tr_vG1 rfl rfl inferInstance (fun hg hgp=>(rk_move (.ofg hg rfl))) rfl ?_;refine tr_vG rfl rfl inferInstance (fun hg hgp=>(rk_move (.of rfl))) rfl ?_;refine tr_vG rfl rfl inferInstance (fun hg hgp=>(rk_not (.ofg hg rfl))) rfl ?_;refine tr_vG1 rfl rfl inferInstance (fun hg hgp=>(rk_pick_and' hg (.ofg hg rfl) rfl)) rfl ?_;refine tr_val (rk_pick_or (.of rfl) rfl) rfl ?_;refine m_v rfl rfl ?_;refine v_g rfl rfl rfl rfl ?_;refine tr_vG1 rfl rfl inferInstance (fun hg hgp=>(rk_not (.ofg hg rfl))) rfl ?_;refine tr_val (rk_pick_or (.of rfl) rfl) rfl ?_;refine m_v rfl rfl ?_;refine v_g rfl rfl rfl rfl ?_;refine tr_vG1 rfl rfl inferInstance (fun hg hgp=>(rk_not (.ofg hg rfl))) rfl ?_;refine tr_val (rk_pick_or (.of rfl) rfl) rfl ?_;refine n_t ?_;refine c_b rfl (fun hcd=>?_) (fun hcd=>?_);refine s_r ?_;refine tr_val (rk_buildL .nil norm_) rfl ?_;refine tr_store (.of rfl) (.of rfl) (.there (.there .here)) rfl rfl (okc_cons rfl (okc_cons rfl (okc_cons rfl (okc_cons rfl (okc_cons rfl (okc_cons rfl (okc_cons rfl okc_nil))))))) (lenb rfl) norm_ ?_;refine a_s rfl rfl ?_;refine n_t ?_;refine r_t ?_;refine tr_retE rfl (endsCT rfl inferInstance rfl .here norm_ (by rfl) (by rfl)) ?_;rotate_left;refine s_t ?_;refine s_r ?_;refine m_v rfl rfl ?_;refine m_v rfl rfl ?_;refine tr_val (rk_buildL (.cons (.of rfl) (.cons (.of rfl) .nil)) norm_) rfl ?_;refine tr_val (rk_indexAddrA (.of rfl) (.of rfl) (by omega) (by omega) norm1_) rfl ?_;refine tr_val (rk_load1 (.of rfl) (At.lit .here rfl)) rfl ?_;refine tr_val (rk_indexAddrA (.of rfl) (.of rfl) (by omega) (by omega) norm1_) rfl ?_;refine tr_val (rk_load1 (.of rfl) (At.lit .here rfl)) rfl ?_;refine tr_val (rk_indexAddrA (.of rfl) (.of rfl) (by omega) (by omega) norm1_) rfl ?_;refine tr_val (rk_load1 (.of rfl) (At.lit .here rfl)) rfl ?_;refine tr_val (rk_indexAddrA (.of rfl) (.of rfl) (by omega) (by omega) norm1_) rfl ?_;refine tr_val (rk_load1 (.of rfl) (At.lit .here rfl)) rfl ?_;refine tr_val (rk_buildL (.cons (.of rfl) (.cons (.of rfl) (.cons (.of rfl) (.cons (.of rfl) .nil)))) norm_) rfl ?_;refine m_v rfl rfl ?_;refine tr_val (rk_buildL (.cons (.of rfl) (.cons (.of rfl) (.cons (.of rfl) .nil))) norm_) rfl ?_;refine tr_new (rk_alloc rfl) rfl (fun _ _=>?_);refine tr_store (.of rfl) (.of rfl) .here rfl rfl (okc_cons rfl (okc_cons rfl (okc_cons rfl (okc_cons rfl (okc_cons rfl (okc_cons rfl (okc_cons rfl okc_nil))))))) (lenb rfl) norm_ ?_;refine n_t ?_;refine tr_seq ?_;refine s_r ?_;refine m_v rfl rfl ?_;refine m_v rfl rfl ?_;refine v_g rfl rfl rfl rfl ?_;refine tr_vG1 rfl rfl inferInstance (fun hg hgp=>(rk_eql (.ofg hg rfl) (.of rfl))) rfl ?_;refine tr_vG1 rfl rfl inferInstance (fun hg hgp=>(rk_move (.ofg hg rfl))) rfl ?_;refine tr_vG rfl rfl inferInstance (fun hg hgp=>(rk_move (.of rfl))) rfl ?_;refine tr_vG rfl rfl inferInstance (fun hg hgp=>(rk_eql (.ofg hg rfl) (.of rfl))) rfl ?_;refine tr_vG1 rfl rfl inferInstance (fun hg hgp=>(rk_pick_or' hg (.ofg hg rfl) rfl)) rfl ?_;refine tr_val (rk_pick_and (.of rfl) rfl) rfl ?_;refine n_t ?_;refine c_b rfl (fun hcd=>?_) (fun hcd=>?_);refine s_r ?_;refine tr_val (rk_buildL .nil norm_) rfl ?_;refine tr_store (.of rfl) (.of rfl) (.there (.there (.there .here))) rfl rfl (okc_cons rfl (okc_cons rfl (okc_cons rfl (okc_cons rfl (okc_cons rfl (okc_cons rfl (okc_cons rfl okc_nil))))))) (lenb rfl) norm_ ?_;refine a_s rfl rfl ?_;refine n_t ?_;refine r_t ?_;refine tr_retE rfl (endsCT rfl inferInstance rfl .here norm_ (by rfl) (by rfl)) ?_;rotate_left;refine s_t ?_;refine tr_seq ?_;refine s_r ?_;refine tr_val (rk_loadB (.of rfl) .here norm_ (by rfl)) rfl ?_;refine tr_callV (rk_call (.of rfl) (.cons (.of rfl) .nil) inferInstance normc_) rfl (fun w' hm'=>(hcs _ w')) ?_;refine a_s rfl rfl ?_;refine n_r ?_;refine m_v rfl rfl ?_;refine tr_val (rk_neq (.of rfl) (.of rfl)) rfl ?_;refine n_t ?_;refine c_d rfl (fun hcd=>?_) (fun hcd=>?_);refine s_r ?_;refine tr_val (rk_buildL .nil norm_) rfl ?_;refine m_v rfl rfl ?_;refine tr_store (.of rfl) (.of rfl) (.there (.there (.there .here))) rfl rfl (okc_cons rfl (okc_cons rfl (okc_cons rfl (okc_cons rfl (okc_cons rfl (okc_cons rfl (okc_cons rfl okc_nil))))))) (lenb rfl) norm_ ?_;refine a_s rfl rfl ?_;refine n_t ?_;refine r_t ?_;refine tr_retE rfl (endsCT rfl inferInstance rfl .here norm_ (by rfl) (by rfl)) ?_;rotate_left;refine s_t ?_;refine s_r ?_;refine tr_val (rk_loadB (.of rfl) .here norm_ (by rfl)) rfl ?_;refine tr_store (.of rfl) (.of rfl) (.there (.there (.there .here))) rfl rfl (okc_cons rfl (okc_cons rfl (okc_cons rfl (okc_cons rfl (okc_cons rfl (okc_cons rfl (okc_cons rfl okc_nil))))))) (lenb rfl) norm_ ?_;refine a_s rfl rfl ?_;refine n_t ?_;refine tr_ret ?_;refine tr_retE rfl (endsCT rfl inferInstance rfl .here norm_ (by rfl) (by rfl)) ?_;rotate_right;rotate_right;rotate_right)
  · have hb:psB (toL s) = false:=by
      rw [hpsB,Bool.eq_false_iff]
      intro h
      have x2:=bs_at R 2
      have x5:=bs_at R 5
      have x8:=bs_at R 8
      rw [hlb] at h
      simp only [Bool.and_eq_true,Bool.or_eq_true,decide_eq_true_eq] at h
      obtain ⟨-,⟨t2,t5,t8⟩,hn2,hn3⟩:=h
      rw [n2,Bool.and_eq_true] at hn2
      rw [n3,Bool.and_eq_true] at hn3
      rw [t2] at x2
      rw [t5] at x5
      rw [show Int.toNat 2 = 2 from rfl,show Int.toNat 5 = 5 from rfl,show Int.toNat 8 = 8 from rfl,x2,x5,x8,hn2.1,hn3.1] at hcd
      rcases t8 with t8 | t8 <;> rw [t8] at hcd <;> revert hcd <;> decide
    obtain ⟨e3,e4⟩:=hbad hb
    rw [e3,e4];try rfl
  · rename_i hbig _ _
    rw [show Int.toNat 2 = 2 from rfl,show Int.toNat 5 = 5 from rfl,show Int.toNat 8 = 8 from rfl] at hbig
    rw [show Int.toNat 8 = 8 from rfl] at hcd
    obtain ⟨hlt,m2,m3,h2,h3,q6⟩:=ps_good (W2:=W2) (W3:=W3) hR11 b0 b3 b6 b9 a2 a3 hbig
    have hb:psB (toL s) = true:=by rw [hpsB,decide_eq_true aw,hlt,m2,m3];rfl
    have hS:psS (toL s) = ⟨⟨I2,decide (atD R 8 = 59)⟩,⟨d2 R 0,d2 R 3,d2 R 6,d2 R 9⟩,I3⟩:=by rw [hpsS,i2 h2,i3 h3]
    obtain ⟨h8,hI⟩:=hcd
    have eE:psE (toL s) = 24:=by
      unfold psE
      rw [if_neg h4n,if_pos hb,hS]
      exact stmE_conf (by rw [← q6];exact decide_eq_true h8) hI
    have eF:psF (toL s) = Stm.zero:=by unfold psF;rw [if_neg (by rw [eE];decide)]
    rw [eE,eF];try rfl
  · rename_i hbig _ _ _
    rw [show Int.toNat 2 = 2 from rfl,show Int.toNat 5 = 5 from rfl,show Int.toNat 8 = 8 from rfl] at hbig
    obtain ⟨hlt,m2,m3,h2,h3,q6⟩:=ps_good (W2:=W2) (W3:=W3) hR11 b0 b3 b6 b9 a2 a3 hbig
    have hb:psB (toL s) = true:=by rw [hpsB,decide_eq_true aw,hlt,m2,m3];rfl
    have hS:psS (toL s) = ⟨⟨I2,decide (atD R 8 = 59)⟩,⟨d2 R 0,d2 R 3,d2 R 6,d2 R 9⟩,I3⟩:=by rw [hpsS,i2 h2,i3 h3]
    rw [q6] at hcd ⊢
    have eE:psE (toL s) = stmE ⟨⟨I2,decide (atD R 8 = 59)⟩,⟨d2 R 0,d2 R 3,d2 R 6,d2 R 9⟩,I3⟩:=by unfold psE;rw [if_neg h4n,if_pos hb,hS]
    have eF:psF (toL s) = Stm.zero:=by unfold psF;rw [if_neg (by rw [eE];exact hcd)]
    rw [eE,eF];try rfl
  · rename_i hbig _ _ _
    rw [show Int.toNat 2 = 2 from rfl,show Int.toNat 5 = 5 from rfl,show Int.toNat 8 = 8 from rfl] at hbig
    obtain ⟨hlt,m2,m3,h2,h3,q6⟩:=ps_good (W2:=W2) (W3:=W3) hR11 b0 b3 b6 b9 a2 a3 hbig
    have hb:psB (toL s) = true:=by rw [hpsB,decide_eq_true aw,hlt,m2,m3];rfl
    have hS:psS (toL s) = ⟨⟨I2,decide (atD R 8 = 59)⟩,⟨d2 R 0,d2 R 3,d2 R 6,d2 R 9⟩,I3⟩:=by rw [hpsS,i2 h2,i3 h3]
    rw [q6] at hcd ⊢
    have eE:psE (toL s) = 0:=by unfold psE;rw [if_neg h4n,if_pos hb,hS];exact Decidable.not_not.1 hcd
    have eF:psF (toL s) = ⟨⟨I2,decide (atD R 8 = 59)⟩,⟨d2 R 0,d2 R 3,d2 R 6,d2 R 9⟩,I3⟩:=by unfold psF;rw [if_pos eE,hS]
    rw [eE,eF];try rfl
end Go.Proofs.A1
