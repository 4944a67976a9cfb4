/- Parts of the proof: ES10 ES11 ES12 ES13. -/
import Derived.Test.YtpamkookgkffgaaGreatDoorTM12
import Derived.Test.YtpamkookgkffgaaGreatDoorTM06
set_option linter.unusedSectionVars false
set_option linter.unusedVariables false
set_option linter.unusedSimpArgs false
namespace Go.Proofs.A1
open Go Go.SL
theorem tr_rowLit {c:Cx} {D:List Nat} {sl:Slots} {hs hs':List Asn} {X:Act → World → Prop} {E:TypeId} {g:Nat} {xs:List Value} (n sz:Nat) (ht:Take hs (blk g (.cells xs.toArray E (0,0))) hs') (hl:xs.length = n * sz) (hn:Nat.ble n 1000 = true)
    (k:Tr c D sl (row E sz (.slice (some ⟨g,0,none⟩) n n) n xs :: hs') X):Tr c D sl hs X:=
  tr_rowShut (cur:=[]) (by rw [List.append_nil];exact ht) (Nat.le_refl _) (by have:=Nat.le_of_ble_eq_true hn;unfold maxLen;omega) (by rw [List.append_nil];exact hl) hl k
theorem lowest_c (a b:Int) (w:World) (ha:0 ≤ a) (hb:0 < b) (ha1:a ≤ 9223372036854775807) (hb1:b ≤ 9223372036854775807):GivesV Tryz.prog 92 [.int .i64 a,.int .i64 b] w (.agg #[.int .i64 (lowF a b).1,.int .i64 (lowF a b).2]):=by
  refine givesV_of_tr Tryz.func92 rfl rfl ?_
  (refine s_r ?_;refine tr_new (rk_alloc rfl) rfl (fun _ _=>?_);refine n_r ?_;refine m_v rfl rfl ?_;refine m_v rfl rfl ?_;refine a_s rfl rfl ?_;refine a_s rfl rfl ?_;refine n_t ?_;refine tr_seq ?_;refine tr_block ?_)
  rename_i b4 hb4
  refine tr_for (ι:=Int × Int) (fun x=>0 ≤ x.1 ∧ 0 ≤ x.2 ∧ gcdF x.1 x.2 = gcdF a b ∧ (x.2 = 0 → 0 < x.1)) (fun x=>[(5,.int .i64 x.1),(6,.int .i64 x.2),(0,.int .i64 a),(1,.int .i64 b),(4,.pointer (some ⟨b4,0,none⟩))])
    (fun _=>[blk b4 (.cells #[.int .i64 0,.int .i64 0] 95 (0,0))]) (fun x=>x.2.toNat) ?_ ?_
  · apply tr_start (a,b) ⟨ha,by show 0 ≤ b;omega,rfl,fun h=>by have:b = 0:=h;omega⟩
    case hs1=>exact .cons rfl (.cons rfl (.cons rfl (.cons rfl (.cons rfl .nil))))
    case ht=>(try simp only [List.take_zero,List.map_nil,List.nil_append]);exact .cons .here .nil
  rintro ⟨x,y⟩ ⟨hx,hy,hg,hz⟩
  dsimp only at hx hy hg hz ⊢
  by_cases h0:y = 0
  · subst h0
    have hxp:=hz rfl
    rw [gcdF_zero hx] at hg
    (refine tr_seq ?_;refine s_r ?_;refine m_v rfl rfl ?_;refine tr_val (rk_neq (.of rfl) (.of rfl)) rfl ?_;refine n_t ?_;refine c_d rfl (fun _=>by omega) (fun hcd=>?_);refine x_t ?_;refine tr_then_exit ?_;refine tr_blk_exit ?_;refine tr_then ?_;refine tr_seq ?_)
    with_reducible refine tr_draw 7 (by kernel_rfl) ?_
    (refine a_m rfl rfl ?_;refine a_m rfl rfl ?_;refine any_val (rk_quo (.of rfl) (.of rfl) ha ha1 hxp) rfl ?_;refine a_m rfl rfl ?_;refine a_m rfl rfl ?_;refine any_val (rk_quo (.of rfl) (.of rfl) (by omega) hb1 hxp) rfl ?_;refine any_val (rk_buildL (.cons (.of rfl) (.cons (.of rfl) .nil)) norm_) rfl ?_)
    with_reducible refine any_end ?_
    (refine tr_store (.of rfl) (.of rfl) .here rfl rfl (okc_cons rfl (okc_cons rfl okc_nil)) (lenb rfl) norm_ ?_;refine n_t ?_;refine tr_ret ?_;refine tr_retE rfl (ends1cB rfl inferInstance rfl .here norm_ (by rfl)) ?_)
    rw [lowF,← hg]
  · have hm1:=Int.emod_nonneg x h0
    have hm2:=Int.emod_lt_of_pos x (show 0 < y by omega)
    (refine tr_seq ?_;refine s_r ?_;refine m_v rfl rfl ?_;refine tr_val (rk_neq (.of rfl) (.of rfl)) rfl ?_;refine n_t ?_;refine c_d rfl (fun hcd=>?_) (fun _=>by omega);refine s_t ?_;refine tr_block ?_)
    with_reducible refine tr_draw 6 (by kernel_rfl) ?_
    (refine a_m rfl rfl ?_;refine a_m rfl rfl ?_;refine a_m rfl rfl ?_;refine any_val (rk_rem (.of rfl) (.of rfl) hx hcd) rfl ?_;refine any_val (rk_assign (.of rfl)) rfl ?_;refine any_val (rk_assign (.of rfl)) rfl ?_)
    with_reducible refine any_end ?_
    (refine tr_nil ?_;refine tr_blk_normal ?_;refine tr_then ?_)
    apply tr_next (y,x % y) ⟨hy,hm1,by show gcdF y (x % y) = _;rw [gcdF_step hx (by omega),hg],fun _=>by show 0 < y;omega⟩ (by show (x % y).toNat < y.toNat;omega)
    case hs1=>exact .cons rfl (.cons rfl (.cons rfl (.cons rfl (.cons rfl .nil))))
    case ht=>(try simp only [List.take_zero,List.map_nil,List.nil_append]);exact .cons .here .nil
theorem onL_le (es:List En) (f:Int) (n:Nat):(onL es f n).length ≤ n:=by
  have:=List.length_filter_le (onB es f) (List.range n)
  simpa [onL] using this
def natsV9 (l:List Nat):List Value:=l.map fun (i:Nat)=>Value.int .i64 (i:Int)
theorem shares_c {lv:Value} {es:List En} {f:Int} {w:World} (h:Rd w lv 8 (plRows es)) (hs:Sound es) :
    Gives Tryz.prog 64 [lv,.int .i64 f] w [] (fun _:Value=>True) id (fun v=>[row 97 3 v (shF es f).length ((shF es f).flatMap triV)]):=by
  have hlw:=lowest_c
  have hfew:=hs.all.few
  obtain ⟨a,cp,b,o,rfl,hcap,hmax,ha,hc⟩:=h
  rw [plRows_length] at *
  unfold maxLen at hmax
  refine gives_of_tr Tryz.func64 rfl rfl ?_
  (refine s_r ?_;refine a_s rfl rfl ?_;refine n_r ?_;refine a_s rfl rfl ?_;refine n_t ?_;refine tr_seq ?_;refine s_r ?_;refine m_v rfl rfl ?_;refine tr_val (rk_len_slice (.of rfl)) rfl ?_;refine m_v rfl rfl ?_;refine n_t ?_;refine tr_block ?_)
  refine tr_rowNil 3 1 ?_
  refine tr_for (ι:=Nat × Value) (fun x=>x.1 ≤ es.length) (fun x=>[(12,.int .i64 x.1),(11,.int .i64 es.length),(10,.slice a es.length cp),(5,x.2),(0,.slice a es.length cp),(1,.int .i64 f)]) (fun x=>[row 3 1 x.2 (onL es f x.1).length (natsV9 (onL es f x.1))]) (fun x=>es.length - x.1) ?_ ?_
  · apply tr_start (0,.slice none 0 0) (Nat.zero_le _)
    case hs1=>exact .cons rfl (.cons rfl (.cons rfl (.cons rfl (.cons rfl (.cons rfl .nil)))))
    case ht=>
      show Takes _ [row 3 1 (.slice none 0 0) 0 []] _
      exact .cons .here .nil
  rintro ⟨k,v⟩ hk
  dsimp only at hk ⊢
  by_cases hlt:k < es.length
  · have ha':=ha (plRows_ne hlt)
    have hcell:=(hc k _ (plRows_get hlt)).2
    have hsucc:=onL_succ (es:=es) (f:=f) (n:=k)
    have hle:=onL_le es f k
    unfold plL at hcell
    (refine s_r ?_;refine tr_val (rk_lss (.of rfl) (.of rfl)) rfl ?_;refine n_t ?_;refine tr_seq ?_;refine c_d rfl (fun hcd=>?_) (fun _=>by omega);refine s_t ?_;refine tr_seq ?_;refine tr_block ?_;refine s_r ?_;refine m_v rfl rfl ?_;refine tr_val (rk_indexAddr (.of rfl) (.of rfl) ha' (by omega) hcd norm1_) rfl ?_;refine tr_val (rk_loadN (.of rfl) (Ats.base hcell rfl) rfl) rfl ?_;refine tr_new (rk_alloc rfl) rfl (fun _ _=>?_);refine a_s rfl rfl ?_;refine tr_store (.of rfl) (.of rfl) .here rfl rfl (okc_cons rfl (okc_cons rfl (okc_cons rfl (okc_cons rfl (okc_cons rfl (okc_cons rfl (okc_cons rfl (okc_cons rfl okc_nil)))))))) (lenb rfl) norm_ ?_;refine n_r ?_;refine f_a rfl rfl norm0_ ?_;refine f_a rfl rfl norm0_ ?_;refine tr_val (rk_load1 (.of rfl) (At.lit .here rfl)) rfl ?_;refine m_v rfl rfl ?_;refine tr_val (rk_leq (.of rfl) (.of rfl)) rfl ?_;refine m_v rfl rfl ?_;refine v_g rfl rfl rfl rfl ?_;refine tr_vG1 rfl rfl inferInstance (fun hg hgp=>(rk_fieldAddr (.of rfl) norm0_)) rfl ?_;refine tr_vG1 rfl rfl inferInstance (fun hg hgp=>(rk_fieldAddr (.ofg hg rfl) norm0_)) rfl ?_;refine tr_vG1 rfl rfl inferInstance (fun hg hgp=>(rk_load1 (.ofg hg rfl) (At.lit .here rfl))) rfl ?_;refine tr_vG1 rfl rfl inferInstance (fun hg hgp=>(rk_lss (.ofg hg rfl) (.ofg hg rfl))) rfl ?_;refine tr_val (rk_pick_and (.of rfl) rfl) rfl ?_;refine n_t ?_;refine c_b rfl (fun hcd=>?_) (fun hcd=>?_);refine tr_region ?_;refine m_v rfl rfl ?_;refine m_v rfl rfl ?_;refine tr_new (rk_sliceLit (.cons (.of rfl) .nil) rfl rfl rfl rfl) rfl (fun _ _=>?_);rotate_left;refine tr_skip ?_;refine tr_blk_normal ?_;refine tr_then ?_;refine tr_region ?_;refine tr_val (rk_add (.of rfl) (.of rfl) (ini (by omega))) rfl ?_;refine m_v rfl rfl ?_;refine n_t ?_;rotate_right)
    · have hon:onB es f k = true:=by unfold onB;simpa using hcd
      rw [hon,if_pos rfl] at hsucc
      refine tr_appendB (.of rfl) (.of rfl) (.there (.there .here)) .here norm_ (by rfl) (okc_cons rfl okc_nil) (by rfl) (by rfl) (by rfl) lenx_ (by rfl) ?_
      intro v'
      (refine a_s rfl rfl ?_;refine tr_nil ?_;refine tr_blk_normal ?_;refine tr_then ?_;refine tr_region ?_;refine tr_val (rk_add (.of rfl) (.of rfl) (ini (by omega))) rfl ?_;refine m_v rfl rfl ?_;refine n_t ?_)
      apply tr_next (k + 1,v') (by show k + 1 ≤ es.length;omega) (by show es.length - (k + 1) < es.length - k;omega)
      case hs1=>exact .cons rfl (.cons rfl (.cons rfl (.cons rfl (.cons rfl (.cons rfl .nil)))))
      case ht=>
        show Takes _ [row 3 1 v' (onL es f (k + 1)).length (natsV9 (onL es f (k + 1)))] _
        have e2:natsV9 (onL es f (k + 1)) = natsV9 (onL es f k)++[.int .i64 k]:=by rw [hsucc];simp [natsV9]
        rw [e2,hsucc,List.length_append]
        show Takes _ [row 3 1 v' ((onL es f k).length + 1) (natsV9 (onL es f k)++[.int .i64 k])] _
        unfold natsV9
        exact .cons .here .nil
    · have hon:onB es f k = false:=by
        unfold onB
        rcases hcd with h | h <;> simp [h]
      rw [hon,if_neg (by decide),List.append_nil] at hsucc
      apply tr_next (k + 1,v) (by show k + 1 ≤ es.length;omega) (by show es.length - (k + 1) < es.length - k;omega)
      case hs1=>exact .cons rfl (.cons rfl (.cons rfl (.cons rfl (.cons rfl (.cons rfl .nil)))))
      case ht=>
        show Takes _ [row 3 1 v (onL es f (k + 1)).length (natsV9 (onL es f (k + 1)))] _
        rw [hsucc]
        exact .cons (.there .here) .nil
  · obtain rfl:k = es.length:=by omega
    rcases hs.onL f es.length (Nat.le_refl _) with e | ⟨i,h1,h2,e⟩ | ⟨i,h1,h2,h3,e⟩
    · have hsh:shF es f = []:=by unfold shF;rw [e]
      rw [e,hsh]
      refine tr_rowSl (by exact .here) fun a' cap' e'=>?_
      subst e'
      simp only [List.length_nil]
      (refine s_r ?_;refine tr_val (rk_lss (.of rfl) (.of rfl)) rfl ?_;refine n_t ?_;refine tr_seq ?_;refine c_d rfl (fun _=>by omega) (fun hcd=>?_);refine x_t ?_;refine tr_then_exit ?_;refine tr_blk_exit ?_;refine tr_then ?_;refine tr_seq ?_;refine s_r ?_;refine m_v rfl rfl ?_;refine tr_val (rk_len_slice (.of rfl)) rfl ?_;refine n_t ?_;refine tr_block ?_;refine s_r ?_;refine tr_val (rk_eql (.of rfl) (.of rfl)) rfl ?_;refine a_s rfl rfl ?_;refine n_t ?_;refine c_d rfl (fun hcd=>?_) (fun _=>by omega);refine s_r ?_;refine a_s rfl rfl ?_;refine n_t ?_;refine tr_ret ?_;refine tr_blk_ret ?_;refine tr_then_ret ?_)
      refine tr_rowNil 97 3 ?_
      first | with_reducible apply tr_retM | with_reducible apply tr_endM
      case he=>exact ends1 rfl rfl
      case hR=>
        intro w' hm'
        exact gives_end (.slice none 0 0) trivial (show Takes _ [row 97 3 (.slice none 0 0) 0 []] _ by exact .cons .here .nil) hm' rfl
    · have hsh:shF es f = [((i:Int),1,1)]:=by unfold shF;rw [e]
      rw [e,hsh]
      refine tr_rowOpen (by exact .here) (by simp) fun g cap' cur e' hcap' hmx' hsz' hl'=>?_
      subst e'
      simp only [List.length_cons,List.length_nil,natsV9,List.map_cons,List.map_nil,List.cons_append,List.nil_append]
      (refine s_r ?_;refine tr_val (rk_lss (.of rfl) (.of rfl)) rfl ?_;refine n_t ?_;refine tr_seq ?_;refine c_d rfl (fun _=>by omega) (fun hcd=>?_);refine x_t ?_;refine tr_then_exit ?_;refine tr_blk_exit ?_;refine tr_then ?_;refine tr_seq ?_;refine s_r ?_;refine m_v rfl rfl ?_;refine tr_val (rk_len_slice (.of rfl)) rfl ?_;refine n_t ?_;refine tr_block ?_;refine s_r ?_;refine tr_val (rk_eql (.of rfl) (.of rfl)) rfl ?_;refine a_s rfl rfl ?_;refine n_t ?_;refine c_d rfl (fun _=>by omega) (fun hcd=>?_);refine s_r ?_;refine tr_val (rk_eql (.of rfl) (.of rfl)) rfl ?_;refine a_s rfl rfl ?_;refine n_t ?_;refine c_d rfl (fun hcd=>?_) (fun _=>by omega);refine s_r ?_;refine m_v rfl rfl ?_;refine tr_val (rk_indexAddr (.of rfl) (.of rfl) rfl (by omega) (by omega) norm1_) rfl ?_;refine tr_val (rk_load1 (.of rfl) (At.lit .here rfl)) rfl ?_;refine tr_val (rk_buildL (.cons (.of rfl) (.cons (.of rfl) .nil)) norm_) rfl ?_;refine tr_val (rk_buildL (.cons (.of rfl) (.cons (.of rfl) .nil)) norm_) rfl ?_;refine tr_new (rk_sliceLitN (.cons (.of rfl) .nil) rfl rfl normp_ normp_ norm_) rfl (fun _ _=>?_);refine a_s rfl rfl ?_;refine n_t ?_;refine tr_ret ?_;refine tr_blk_ret ?_;refine tr_then_ret ?_)
      rename_i bq hbq
      refine tr_rowLit 1 3 (by exact .here) rfl rfl ?_
      first | with_reducible apply tr_retM | with_reducible apply tr_endM
      case he=>exact ends1 rfl rfl
      case hR=>
        intro w' hm'
        exact gives_end (.slice (some ⟨bq,0,none⟩) 1 1) trivial (show Takes _ [row 97 3 (.slice (some ⟨bq,0,none⟩) 1 1) 1 [_,_,_]] _ by exact .cons .here .nil) hm' rfl
    · have hsh:shF es f = [((i:Int),lowF (to es i - fr es (i + 1) - (f - fr es (i + 1))) (to es i - fr es (i + 1) + 1)),(((i + 1:Nat):Int),lowF (f - fr es (i + 1) + 1) (to es i - fr es (i + 1) + 1))]:=by unfold shF;rw [e]
      have ha':=ha (plRows_ne (k:=i) (by omega))
      have p0:=(hc i _ (plRows_get (by omega))).2 7 _ rfl
      have p1:=(hc (i + 1) _ (plRows_get h1)).2 6 _ rfl
      have b0:=hs.fr_nn (k:=i) (by omega)
      have b1:=hs.fr_nn (k:=i + 1) h1
      simp only [onB,Bool.and_eq_true,decide_eq_true_eq] at h2 h3
      rw [e,hsh]
      refine tr_rowOpen (by exact .here) (by simp) fun g cap' cur e' hcap' hmx' hsz' hl'=>?_
      subst e'
      simp only [List.length_cons,List.length_nil,natsV9,List.map_cons,List.map_nil,List.cons_append,List.nil_append]
      (refine s_r ?_;refine tr_val (rk_lss (.of rfl) (.of rfl)) rfl ?_;refine n_t ?_;refine tr_seq ?_;refine c_d rfl (fun _=>by omega) (fun hcd=>?_);refine x_t ?_;refine tr_then_exit ?_;refine tr_blk_exit ?_;refine tr_then ?_;refine tr_seq ?_;refine s_r ?_;refine m_v rfl rfl ?_;refine tr_val (rk_len_slice (.of rfl)) rfl ?_;refine n_t ?_;refine tr_block ?_;refine s_r ?_;refine tr_val (rk_eql (.of rfl) (.of rfl)) rfl ?_;refine a_s rfl rfl ?_;refine n_t ?_;refine c_d rfl (fun _=>by omega) (fun hcd=>?_);refine s_r ?_;refine tr_val (rk_eql (.of rfl) (.of rfl)) rfl ?_;refine a_s rfl rfl ?_;refine n_t ?_;refine c_d rfl (fun _=>by omega) (fun hcd=>?_);refine tr_skip ?_;refine tr_blk_normal ?_;refine tr_then ?_;refine tr_seq ?_)
      with_reducible refine tr_draw 29 (by kernel_rfl) ?_
      (refine a_m rfl rfl ?_;refine a_m rfl rfl ?_;refine a_m rfl rfl ?_;refine any_val (rk_indexAddr (.of rfl) (.of rfl) rfl (by omega) (by omega) norm1_) rfl ?_;refine any_val (rk_load1 (.of rfl) (At.lit .here rfl)) rfl ?_;refine any_val (rk_indexAddr (.of rfl) (.of rfl) ha' (by omega) (by omega) norm1_) rfl ?_;refine a_f rfl rfl norm0_ ?_;refine a_f rfl rfl norm0_ ?_;refine any_val (rk_load1 (.of rfl) (At.base p1 rfl)) rfl ?_;refine any_val (rk_sub (.of rfl) (.of rfl) (ini (by omega))) rfl ?_;refine a_m rfl rfl ?_;refine a_m rfl rfl ?_;refine any_val (rk_indexAddr (.of rfl) (.of rfl) rfl (by omega) (by omega) norm1_) rfl ?_;refine any_val (rk_load1 (.of rfl) (At.lit .here rfl)) rfl ?_;refine any_val (rk_indexAddr (.of rfl) (.of rfl) ha' (by omega) (by omega) norm1_) rfl ?_;refine a_f rfl rfl norm0_ ?_;refine a_f rfl rfl norm0_ ?_;refine any_val (rk_load1 (.of rfl) (At.base p0 rfl)) rfl ?_;refine a_m rfl rfl ?_;refine a_m rfl rfl ?_;refine any_val (rk_indexAddr (.of rfl) (.of rfl) rfl (by omega) (by omega) norm1_) rfl ?_;refine any_val (rk_load1 (.of rfl) (At.lit .here rfl)) rfl ?_;refine any_val (rk_indexAddr (.of rfl) (.of rfl) ha' (by omega) (by omega) norm1_) rfl ?_;refine a_f rfl rfl norm0_ ?_;refine a_f rfl rfl norm0_ ?_;refine any_val (rk_load1 (.of rfl) (At.base p1 rfl)) rfl ?_;refine any_val (rk_sub (.of rfl) (.of rfl) (ini (by omega))) rfl ?_;refine any_val (rk_assign (.of rfl)) rfl ?_;refine any_val (rk_assign (.of rfl)) rfl ?_)
      with_reducible refine any_end ?_
      (refine n_t ?_;refine tr_seq ?_)
      with_reducible refine tr_draw 19 (by kernel_rfl) ?_
      (refine a_m rfl rfl ?_;refine any_val (rk_indexAddr (.of rfl) (.of rfl) rfl (by omega) (by omega) norm1_) rfl ?_;refine any_val (rk_load1 (.of rfl) (At.lit .here rfl)) rfl ?_;refine a_m rfl rfl ?_;refine a_m rfl rfl ?_;refine any_val (rk_sub (.of rfl) (.of rfl) (ini (by omega))) rfl ?_;refine a_m rfl rfl ?_;refine any_val (rk_add (.of rfl) (.of rfl) (ini (by omega))) rfl ?_;refine any_call (rk_call (.of rfl) (.cons (.of rfl) (.cons (.of rfl) .nil)) inferInstance normc_) rfl (fun w' hm'=>(hlw _ _ w' (by omega) (by omega) (by omega) (by omega))) ?_;refine any_val (rk_buildL (.cons (.of rfl) (.cons (.of rfl) .nil)) norm_) rfl ?_;refine a_m rfl rfl ?_;refine any_val (rk_indexAddr (.of rfl) (.of rfl) rfl (by omega) (by omega) norm1_) rfl ?_;refine any_val (rk_load1 (.of rfl) (At.lit .here rfl)) rfl ?_;refine a_m rfl rfl ?_;refine any_val (rk_add (.of rfl) (.of rfl) (ini (by omega))) rfl ?_;refine a_m rfl rfl ?_;refine any_val (rk_add (.of rfl) (.of rfl) (ini (by omega))) rfl ?_;refine any_call (rk_call (.of rfl) (.cons (.of rfl) (.cons (.of rfl) .nil)) inferInstance normc_) rfl (fun w' hm'=>(hlw _ _ w' (by omega) (by omega) (by omega) (by omega))) ?_;refine any_val (rk_buildL (.cons (.of rfl) (.cons (.of rfl) .nil)) norm_) rfl ?_)
      with_reducible refine any_end ?_
      (refine tr_new (rk_sliceLitN (.cons (.of rfl) (.cons (.of rfl) .nil)) rfl rfl normp_ normp_ norm_) rfl (fun _ _=>?_);refine a_s rfl rfl ?_;refine n_t ?_;refine tr_ret ?_)
      rename_i bq hbq
      refine tr_rowLit 2 3 (by exact .here) rfl rfl ?_
      first | with_reducible apply tr_retM | with_reducible apply tr_endM
      case he=>exact ends1 rfl rfl
      case hR=>
        intro w' hm'
        exact gives_end (.slice (some ⟨bq,0,none⟩) 2 2) trivial (show Takes _ [row 97 3 (.slice (some ⟨bq,0,none⟩) 2 2) 2 [_,_,_,_,_,_]] _ by exact .cons .here .nil) hm' rfl
end Go.Proofs.A1
namespace Go.Proofs.A1
open Go Go.SL
theorem frame_c (n:Int) (w:World):GivesV Tryz.prog 63 [.int .i64 n] w (.int .i64 (withinF n 0 10000000)):=by
  refine givesV_of_tr Tryz.func63 rfl rfl ?_
  (refine s_r ?_;refine a_s rfl rfl ?_;refine n_r ?_;refine m_v rfl rfl ?_;refine tr_callV (rk_call (.of rfl) (.cons (.of rfl) (.cons (.of rfl) (.cons (.of rfl) .nil))) inferInstance normc_) rfl (fun w' hm'=>(within9_c n 0 10000000 w')) ?_;refine a_s rfl rfl ?_;refine n_t ?_;refine tr_ret ?_;refine tr_retE rfl (ends1 rfl rfl) ?_)
  rfl
def airE (es:List En) (f:Int):Int:=firstF [chkF es,withinF f 0 10000000]
def airL (es:List En) (f:Int):List (Int × Int × Int):=if airE es f = 0 then shF es f else []
theorem airE_ok {es:List En} {f:Int} (h:airE es f = 0):chkF es = 0 ∧ 0 ≤ f ∧ f ≤ 10000000:=by
  unfold airE at h
  rw [firstF_zero] at h
  simp only [List.mem_cons,List.not_mem_nil,or_false,forall_eq_or_imp,forall_eq,withinF_zero] at h
  exact ⟨h.1,h.2.1,h.2.2⟩
theorem onAir_c {sv:Value} {es:List En} {f:Int} {w:World} (h1:Rd w sv 6 (ensL es)) (hG:Glob w) :
    Gives Tryz.prog 23 [.agg #[sv],.int .i64 f] w [] (fun _:Value=>True) (fun v=>.tuple #[v,.int .i64 (airE es f)]) (fun v=>[row 97 3 v (airL es f).length ((airL es f).flatMap triV)]):=by
  have hone:=Rd.one h1
  refine gives_of_tr Tryz.func23 rfl rfl ?_
  (refine s_r ?_;refine tr_new (rk_box (.of rfl) rfl) rfl (fun _ _=>?_);refine a_s rfl rfl ?_;refine a_s rfl rfl ?_;refine n_t ?_;refine tr_seq ?_;refine s_r ?_;refine tr_val (rk_loadB (.of rfl) .here norm_ (by rfl)) rfl ?_;refine tr_callV (rk_call (.of rfl) (.cons (.of rfl) .nil) inferInstance normc_) rfl (fun w' hm'=>(chk_c (Rd.keeps h1 (Mem.keeps hm')) (Glob.keeps hG (Mem.keeps hm')))) ?_;refine m_v rfl rfl ?_;refine tr_callV (rk_call (.of rfl) (.cons (.of rfl) .nil) inferInstance normc_) rfl (fun w' hm'=>(frame_c f w')) ?_;refine tr_new (rk_sliceLit (.cons (.of rfl) (.cons (.of rfl) .nil)) rfl rfl rfl rfl) rfl (fun _ _=>?_);refine tr_callV (rk_call (.of rfl) (.cons (.of rfl) .nil) inferInstance normc_) rfl (fun w' hm'=>(first_pB9 (Mem.rdBlk hm' .here rfl rfl) (IntL.cons (IntL.cons IntL.nil)))) ?_;refine a_s rfl rfl ?_;refine n_r ?_;refine m_v rfl rfl ?_;refine tr_val (rk_neq (.of rfl) (.of rfl)) rfl ?_;refine n_t ?_;refine c_d rfl (fun hcd=>?_) (fun hcd=>?_);refine s_r ?_;refine m_v rfl rfl ?_;refine a_s rfl rfl ?_;refine a_s rfl rfl ?_;refine n_t ?_;refine r_t ?_;rotate_left;refine s_t ?_;refine s_r ?_;refine tr_val (rk_loadB (.of rfl) (.there .here) norm_ (by rfl)) rfl ?_;rotate_right)
  · have hcd':¬ airE es f = 0:=hcd
    rw [airL,if_neg hcd']
    refine tr_rowNil 97 3 ?_
    first | with_reducible apply tr_retM | with_reducible apply tr_endM
    case he=>exact ends2 rfl rfl rfl
    case hR=>
      intro w' hm'
      exact gives_end (.slice none 0 0) trivial (show Takes _ [row 97 3 (.slice none 0 0) 0 []] _ by exact .cons .here .nil) hm' rfl
  have hz:airE es f = 0:=Decidable.not_not.1 hcd
  have hs:=Sound.of (airE_ok hz).1
  rw [airL,if_pos hz,hz]
  with_reducible apply tr_call
  case hr=>exact rk_call (.of rfl) (.cons (.of rfl) .nil) inferInstance normc_
  case hd=>rfl
  case ht=>exact Takes.nil
  case hc=>
    intro w1 fp hm1 _ hs1
    obtain rfl:fp = []:=hs1
    exact spans_c (h1.keeps hm1.keeps) hs.all.ok hs.all.few (hG.keeps hm1.keeps)
  intro v _
  dsimp only [id_eq,List.cons_append,List.nil_append]
  refine m_v rfl rfl ?_
  with_reducible apply tr_call
  case hr=>exact rk_call (.of rfl) (.cons (.of rfl) (.cons (.of rfl) .nil)) inferInstance normc_
  case hd=>rfl
  case ht=>exact Takes.nil
  case hc=>
    intro w1 fp hm1 _ hs1
    obtain rfl:fp = []:=hs1
    exact shares_c (rdPl hm1 (by exact .here)) hs
  intro v2 _
  dsimp only [id_eq,List.cons_append,List.nil_append]
  (refine a_s rfl rfl ?_;refine a_s rfl rfl ?_;refine n_t ?_;refine tr_ret ?_)
  first | with_reducible apply tr_retM | with_reducible apply tr_endM
  case he=>exact ends2 rfl rfl rfl
  case hR=>
    intro w' hm'
    exact gives_end v2 trivial (by exact .cons .here .nil) hm' rfl
end Go.Proofs.A1
namespace Go.Proofs.A1
open Go Go.SL
theorem startQ_eq (kd:ByteArray) (t:Int):(if kd = sFol then whenF (decide (t ≠ 0)) 3 else firstF [whenF (decide (kd ≠ sFix) && decide (kd ≠ sMan)) 13,withinF t 0 10000000]) = startF kd t:=by
  unfold startF mostF
  by_cases h:kd = sFol
  · have hk:kindB kd = true:=by simp [kindB,h]
    rw [if_pos h,if_pos h,hk]
    show _ = firstF [0,withinF t 0 0]
    rw [firstF_0,withinF]
    congr 1
    rw [Bool.eq_iff_iff];simp;omega
  · rw [if_neg h,if_neg h]
    congr 2
    congr 1
    simp [kindB,h]
theorem startQ_c (kd:ByteArray) (t:Int) (w:World):GivesV Tryz.prog 83 [.agg #[.string kd,.int .i64 t]] w (.int .i64 (startF kd t)):=by
  rw [← startQ_eq]
  refine givesV_of_tr Tryz.func83 rfl rfl ?_
  (refine s_r ?_;refine tr_new (rk_box (.of rfl) rfl) rfl (fun _ _=>?_);refine a_s rfl rfl ?_;refine n_t ?_;refine tr_seq ?_;refine s_r ?_;refine f_a rfl rfl norm0_ ?_;refine tr_val (rk_load1 (.of rfl) (At.lit .here rfl)) rfl ?_;refine tr_val (rk_eqls (.of rfl) (.of rfl)) rfl ?_;refine n_t ?_;refine c_d rfl (fun hcd=>?_) (fun hcd=>?_);refine s_r ?_;refine f_a rfl rfl norm0_ ?_;refine tr_val (rk_load1 (.of rfl) (At.lit .here rfl)) rfl ?_;refine tr_val (rk_neq (.of rfl) (.of rfl)) rfl ?_;refine tr_callV (rk_call (.of rfl) (.cons (.of rfl) (.cons (.of rfl) .nil)) inferInstance normc_) rfl (fun w' hm'=>(when_q _ 3 w')) ?_;refine a_s rfl rfl ?_;refine n_t ?_;refine r_t ?_;refine tr_retE rfl (ends1 rfl rfl) ?_;rotate_left;refine s_t ?_;refine tr_seq ?_;rotate_right)
  · rw [if_pos (show kd = sFol from hcd)]
  with_reducible refine tr_draw 12 (by kernel_rfl) ?_
  (refine a_f rfl rfl norm0_ ?_;refine any_val (rk_load1 (.of rfl) (At.lit .here rfl)) rfl ?_;refine any_val (rk_neqs (.of rfl) (.of rfl)) rfl ?_;refine a_m rfl rfl ?_;refine any_vG1 rfl rfl inferInstance (fun hg hgp=>(rk_fieldAddr (.of rfl) norm0_)) rfl ?_;refine any_vG1 rfl rfl inferInstance (fun hg hgp=>(rk_load1 (.ofg hg rfl) (At.lit .here rfl))) rfl ?_;refine any_vG1 rfl rfl inferInstance (fun hg hgp=>(rk_neqs (.ofg hg rfl) (.of rfl))) rfl ?_;refine any_val (rk_pick_and (.of rfl) rfl) rfl ?_;refine any_call (rk_call (.of rfl) (.cons (.of rfl) (.cons (.of rfl) .nil)) inferInstance normc_) rfl (fun w' hm'=>(when_q _ 13 w')) ?_;refine a_f rfl rfl norm0_ ?_;refine any_val (rk_load1 (.of rfl) (At.lit .here rfl)) rfl ?_;refine any_call (rk_call (.of rfl) (.cons (.of rfl) (.cons (.of rfl) (.cons (.of rfl) .nil))) inferInstance normc_) rfl (fun w' hm'=>(range_q t 0 10000000 w')) ?_)
  with_reducible refine any_end ?_
  (refine tr_new (rk_sliceLit (.cons (.of rfl) (.cons (.of rfl) .nil)) rfl rfl rfl rfl) rfl (fun _ _=>?_);refine tr_callV (rk_call (.of rfl) (.cons (.of rfl) .nil) inferInstance normc_) rfl (fun w' hm'=>(first_qB (Mem.rdBlk hm' .here rfl rfl) (IntL.cons (IntL.cons IntL.nil)))) ?_;refine a_s rfl rfl ?_;refine n_t ?_;refine tr_ret ?_;refine tr_retE rfl (ends1 rfl rfl) ?_)
  rw [if_neg (show ¬ kd = sFol from hcd)];rfl
theorem entQ_c (e:En) (w:World):GivesV Tryz.prog 51 [.agg e.cells.toArray] w (.int .i64 (entF e)):=by
  unfold En.cells
  refine givesV_of_tr Tryz.func51 rfl rfl ?_
  (refine s_r ?_;refine tr_new (rk_box (.of rfl) rfl) rfl (fun _ _=>?_);refine a_s rfl rfl ?_;refine n_t ?_;refine tr_seq ?_)
  with_reducible refine tr_draw 21 (by kernel_rfl) ?_
  (refine a_f rfl rfl norm0_ ?_;refine any_val (rk_load1 (.of rfl) (At.lit .here rfl)) rfl ?_;refine any_call (rk_call (.of rfl) (.cons (.of rfl) .nil) inferInstance normc_) rfl (fun w' hm'=>(nm_q _ w')) ?_;refine a_f rfl rfl norm0_ ?_;refine any_val (rk_load1 (.of rfl) (At.lit .here rfl)) rfl ?_;refine any_call (rk_call (.of rfl) (.cons (.of rfl) .nil) inferInstance normc_) rfl (fun w' hm'=>(nm_q _ w')) ?_;refine a_f rfl rfl norm0_ ?_;refine any_val (rk_loadB (.of rfl) .here norm_ (by rfl)) rfl ?_;refine any_call (rk_call (.of rfl) (.cons (.of rfl) .nil) inferInstance normc_) rfl (fun w' hm'=>(startQ_c _ _ w')) ?_;refine a_f rfl rfl norm0_ ?_;refine any_val (rk_load1 (.of rfl) (At.lit .here rfl)) rfl ?_;refine any_call (rk_call (.of rfl) (.cons (.of rfl) (.cons (.of rfl) (.cons (.of rfl) .nil))) inferInstance normc_) rfl (fun w' hm'=>(range_q _ 1 1000000 w')) ?_;refine a_f rfl rfl norm0_ ?_;refine any_val (rk_load1 (.of rfl) (At.lit .here rfl)) rfl ?_;refine any_call (rk_call (.of rfl) (.cons (.of rfl) (.cons (.of rfl) (.cons (.of rfl) .nil))) inferInstance normc_) rfl (fun w' hm'=>(range_q _ 0 250 w')) ?_;refine a_f rfl rfl norm0_ ?_;refine any_val (rk_load1 (.of rfl) (At.lit .here rfl)) rfl ?_;refine a_f rfl rfl norm0_ ?_;refine any_val (rk_load1 (.of rfl) (At.lit .here rfl)) rfl ?_;refine any_val (rk_geq (.of rfl) (.of rfl)) rfl ?_;refine any_call (rk_call (.of rfl) (.cons (.of rfl) (.cons (.of rfl) .nil)) inferInstance normc_) rfl (fun w' hm'=>(when_q _ 4 w')) ?_)
  with_reducible refine any_end ?_
  (refine tr_new (rk_sliceLit (.cons (.of rfl) (.cons (.of rfl) (.cons (.of rfl) (.cons (.of rfl) (.cons (.of rfl) (.cons (.of rfl) .nil)))))) rfl rfl rfl rfl) rfl (fun _ _=>?_);refine tr_callV (rk_call (.of rfl) (.cons (.of rfl) .nil) inferInstance normc_) rfl (fun w' hm'=>(first_qB (Mem.rdBlk hm' .here rfl rfl) (IntL.cons (IntL.cons (IntL.cons (IntL.cons (IntL.cons (IntL.cons IntL.nil)))))))) ?_;refine a_s rfl rfl ?_;refine n_t ?_;refine tr_ret ?_;refine tr_retE rfl (ends1 rfl rfl) ?_)
  rfl
def findF (es:List En) (s:ByteArray) (n:Nat):Int:=((List.range n).find? fun i=>decide ((nth es i).nm = s)).elim (-1) (fun i=>(i:Int))
theorem findF_le (es:List En) (s:ByteArray) (n:Nat):decide (0 ≤ findF es s n) = knw es n s:=by
  unfold findF knw
  cases h:(List.range n).find? fun i=>decide ((nth es i).nm = s) with
  | none =>
    have:(List.range n).any (fun i=>decide ((nth es i).nm = s)) = false:=by
      rw [List.any_eq_false]
      exact List.find?_eq_none.1 h
    rw [this];rfl
  | some i =>
    have:(List.range n).any (fun i=>decide ((nth es i).nm = s)) = true:=by
      rw [List.any_eq_true]
      exact ⟨i,List.mem_of_find?_eq_some h,by simpa using List.find?_some h⟩
    rw [this];simp
theorem find_at {es:List En} {s:ByteArray} {k n:Nat} (h:∀ i,i < k → ¬ (nth es i).nm = s) (hk:k < n) (hs:(nth es k).nm = s):findF es s n = k:=by
  unfold findF
  have:(List.range n).find? (fun i=>decide ((nth es i).nm = s)) = some k:=by
    rw [List.find?_range_eq_some]
    exact ⟨by simpa using hs,by simpa using hk,fun i hi=>by simpa using h i hi⟩
  rw [this];rfl
theorem find_none {es:List En} {s:ByteArray} {n:Nat} (h:∀ i,i < n → ¬ (nth es i).nm = s):findF es s n = -1:=by
  unfold findF
  have:(List.range n).find? (fun i=>decide ((nth es i).nm = s)) = none:=by
    rw [List.find?_eq_none]
    intro i hi
    simpa using h i (List.mem_range.1 hi)
  rw [this];rfl
theorem findQ_c {sv:Value} {es:List En} {w:World} (s:ByteArray) (n:Nat) (h1:Rd w sv 6 (ensL es)) (hn:n ≤ es.length):GivesV Tryz.prog 11 [.agg #[sv],.string s,.int .i64 n] w (.int .i64 (findF es s n)):=by
  obtain ⟨a,cap,b,o,rfl,hcap,hmax,ha,hc⟩:=h1
  rw [ensL_length] at *
  unfold maxLen at hmax
  refine givesV_of_tr Tryz.func11 rfl rfl ?_
  (refine s_r ?_;refine tr_new (rk_box (.of rfl) rfl) rfl (fun _ _=>?_);refine a_s rfl rfl ?_;refine n_t ?_;refine tr_seq ?_;refine s_r ?_;refine a_s rfl rfl ?_;refine n_t ?_;refine tr_block ?_)
  rename_i b3 hb3
  refine tr_for (fun k:Nat=>k ≤ n ∧ ∀ i,i < k → ¬ (nth es i).nm = s) (fun k=>[(7,.int .i64 k),(1,.string s),(2,.int .i64 n),(3,.pointer (some ⟨b3,0,none⟩))])
    (fun _=>[blk b3 (.cells #[.slice a es.length cap] 24 (0,0))]) (fun k=>n - k) ?_ ?_
  · apply tr_start 0 ⟨by omega,fun i h=>by omega⟩
    case hs1=>exact .cons rfl (.cons rfl (.cons rfl (.cons rfl .nil)))
    case ht=>(try simp only [List.take_zero,List.map_nil,List.nil_append]);exact .cons .here .nil
  rintro k ⟨hk,hf⟩
  by_cases hlt:k < n
  · have ha':=ha (ensL_ne (k:=k) (by omega))
    have hcell:=(hc k _ (ensL_get (k:=k) (by omega))).2 0 _ rfl
    (refine tr_seq ?_;refine s_r ?_;refine m_v rfl rfl ?_;refine m_v rfl rfl ?_;refine tr_val (rk_lss (.of rfl) (.of rfl)) rfl ?_;refine n_t ?_;refine c_d rfl (fun hcd=>?_) (fun _=>by omega);refine s_t ?_;refine tr_seq ?_;refine tr_block ?_;refine s_r ?_;refine f_a rfl rfl norm0_ ?_;refine tr_val (rk_load1 (.of rfl) (At.lit .here rfl)) rfl ?_;refine m_v rfl rfl ?_;refine tr_val (rk_indexAddr (.of rfl) (.of rfl) ha' (by omega) (by omega) norm1_) rfl ?_;refine f_a rfl rfl norm0_ ?_;refine tr_val (rk_load1 (.of rfl) (At.base hcell rfl)) rfl ?_;refine m_v rfl rfl ?_;refine tr_val (rk_eqls (.of rfl) (.of rfl)) rfl ?_;refine n_t ?_;refine c_d rfl (fun hcd=>?_) (fun hcd=>?_);refine s_r ?_;refine m_v rfl rfl ?_;refine a_s rfl rfl ?_;refine n_t ?_;refine tr_ret ?_;refine tr_blk_ret ?_;refine tr_then_ret ?_;refine tr_then_ret ?_;refine tr_blk_ret ?_;refine tr_then_ret ?_;refine tr_retE rfl (ends1 rfl rfl) ?_;rotate_left;refine tr_skip ?_;refine tr_blk_normal ?_;refine tr_then ?_;refine tr_region ?_;refine m_v rfl rfl ?_;refine tr_val (rk_add (.of rfl) (.of rfl) (ini (by omega))) rfl ?_;refine a_s rfl rfl ?_;refine n_t ?_;rotate_right)
    · rw [find_at hf hlt hcd]
    · apply tr_next (k + 1) ⟨by omega,fun i hi=>by
        by_cases e:i = k
        · rw [e];exact hcd
        · exact hf i (by omega)⟩ (by omega)
      case hs1=>exact .cons rfl (.cons rfl (.cons rfl (.cons rfl .nil)))
      case ht=>(try simp only [List.take_zero,List.map_nil,List.nil_append]);exact .cons .here .nil
  · obtain rfl:k = n:=by omega
    (refine tr_seq ?_;refine s_r ?_;refine m_v rfl rfl ?_;refine m_v rfl rfl ?_;refine tr_val (rk_lss (.of rfl) (.of rfl)) rfl ?_;refine n_t ?_;refine c_d rfl (fun _=>by omega) (fun hcd=>?_);refine x_t ?_;refine tr_then_exit ?_;refine tr_blk_exit ?_;refine tr_then ?_;refine s_r ?_;refine a_s rfl rfl ?_;refine n_t ?_;refine tr_ret ?_;refine tr_retE rfl (ends1 rfl rfl) ?_)
    rw [find_none hf]
end Go.Proofs.A1
namespace Go.Proofs.A1
open Go Go.SL
def spV (es:List En) (k:Nat):List Value:=(spL es k).flatMap duoV
theorem spV_succ (es:List En) (k:Nat):spV es (k + 1) = spV es k++[.int .i64 (fr es k),.int .i64 (to es k)]:=by
  unfold spV;rw [spL_succ,List.flatMap_append];rfl
theorem spV_length (es:List En):∀ k,(spV es k).length = k * 2
  | 0=>rfl
  | k + 1=>by rw [spV_succ,List.length_append,spV_length es k];simp;omega
theorem spV_at {es:List En} {i j:Nat} (hj:j < 2):∀ {n:Nat} (cur:List Value),i < n → (spV es n++cur)[i * 2 + j]? = ([.int .i64 (fr es i),.int .i64 (to es i)]:List Value)[j]?
  | 0,_,h=>by omega
  | n + 1, cur, h => by
    rw [spV_succ,List.append_assoc]
    by_cases e:i = n
    · subst e
      have h1:=spV_length es i
      rw [List.getElem?_append_right (by omega),h1,show i * 2 + j - i * 2 = j by omega,List.getElem?_append_left (by simpa using hj)]
    · exact spV_at hj _ (by omega)
def tqL (es:List En):List (Int × Int):=if errE (e2At es) es.length = 0 then spL es es.length else []
theorem fr0 {es:List En} (h:¬ (nth es 0).kd = sFol) (ht:0 ≤ (nth es 0).tm):fr es 0 = (nth es 0).tm:=by
  rw [fr,frm,if_neg h]
  split
  · rw [jn];omega
  · rfl
theorem frS (es:List En) (k:Nat):fr es (k + 1) = frm (nth es (k + 1)).kd (nth es (k + 1)).tm (to es k - (nth es k).ov):=rfl
set_option maxHeartbeats 1000000 in
theorem timesQ_c {sv:Value} {es:List En} {w:World} (h1:Rd w sv 6 (ensL es)) (hok:∀ k,k < es.length → EnOk (nth es k)) (hfew:es.length ≤ 24) (hnf:0 < es.length → ¬ (nth es 0).kd = sFol) :
    Gives Tryz.prog 52 [.agg #[sv]] w [] (fun _:Value=>True) (fun v=>.tuple #[v,.int .i64 (errE (e2At es) es.length)]) (fun v=>[row 45 2 v (tqL es).length ((tqL es).flatMap duoV)]):=by
  obtain ⟨a,cap,b,o,rfl,hcap,hmax,ha,hc⟩:=h1
  rw [ensL_length] at *
  unfold maxLen at hmax
  refine gives_of_tr Tryz.func52 rfl rfl ?_
  (refine s_r ?_;refine tr_new (rk_box (.of rfl) rfl) rfl (fun _ _=>?_);refine a_s rfl rfl ?_;refine a_s rfl rfl ?_;refine n_r ?_;refine a_s rfl rfl ?_;refine n_t ?_;refine tr_seq ?_;refine s_r ?_;refine a_s rfl rfl ?_;refine n_t ?_;refine tr_block ?_)
  rename_i b1 hb1
  refine tr_rowNil 45 2 ?_
  refine tr_for (ι:=Nat × Value) (fun x=>x.1 ≤ es.length ∧ ∀ i,i < x.1 → e2At es i = 0) (fun x=>[(5,.int .i64 x.1),(4,x.2),(1,.pointer (some ⟨b1,0,none⟩))])
    (fun x=>[row 45 2 x.2 x.1 (spV es x.1),blk b1 (.cells #[.slice a es.length cap] 24 (0,0))]) (fun x=>es.length - x.1) ?_ ?_
  · apply tr_start (0,.slice none 0 0) ⟨by omega,fun i h=>by omega⟩
    case hs1=>exact .cons rfl (.cons rfl (.cons rfl .nil))
    case ht=>
      show Takes _ [row 45 2 (.slice none 0 0) 0 [],_] _
      exact .cons .here (.cons .here .nil)
  rintro ⟨n,v⟩ ⟨hn,hz⟩
  dsimp only at hn hz ⊢
  by_cases hlt:n < es.length
  · have ha':=ha (ensL_ne hlt)
    have hcell:=(hc n _ (ensL_get hlt)).2
    have ho:=hok n hlt
    have hfr:=fr_in hok hlt
    have h15:badAt es n = true → errE (e2At es) es.length = 15:=fun h=>by
      have:e2At es n = 15:=by simp [e2At,h,whenF,firstF]
      rw [errE_bad hz hlt (by rw [this];decide),this]
    have h4:badAt es n = false → 10000000 < to es n → errE (e2At es) es.length = 4:=fun h h'=>by
      have:e2At es n = 4:=by simp [e2At,h,h',whenF,firstF]
      rw [errE_bad hz hlt (by rw [this];decide),this]
    have h0:badAt es n = false → ¬ 10000000 < to es n → ∀ i,i < n + 1 → e2At es i = 0:=fun h h' i hi=>by
      by_cases e:i = n
      · rw [e];simp [e2At,h,h',whenF,firstF]
      · exact hz i (by omega)
    unfold En.cells at hcell
    by_cases hn0:0 < n
    · refine tr_rowOpen (by exact .here) hn0 fun g cap' cur e hcap' hmx' hsz' hl'=>?_
      subst e
      have q1:(spV es n++cur)[((n:Int) - 1).toNat * 2 + 1]? = some (.int .i64 (to es (n - 1))):=by
        rw [show ((n:Int) - 1).toNat = n - 1 by omega];exact spV_at (by omega) cur (by omega)
      have q0:(spV es n++cur)[((n:Int) - 1).toNat * 2]? = some (.int .i64 (fr es (n - 1))):=by
        rw [show ((n:Int) - 1).toNat = n - 1 by omega];exact spV_at (j:=0) (by omega) cur (by omega)
      have q2:(spV es n++cur)[(max 0 ((n:Int) - 2)).toNat * 2 + 1]? = some (.int .i64 (to es (n - 2))):=by
        rw [show (max 0 ((n:Int) - 2)).toNat = n - 2 by omega];exact spV_at (by omega) cur (by omega)
      have p1:w.cell? ⟨b,o + ((n:Int) - 1).toNat * 6 + 5,none⟩ = some (.int .i64 (nth es (n - 1)).ov):=by
        rw [show ((n:Int) - 1).toNat = n - 1 by omega];exact (hc (n - 1) _ (ensL_get (by omega))).2 5 _ rfl
      have hfp:=fr_in hok (k:=n - 1) (by omega)
      have hop:=hok (n - 1) (by omega)
      have hln:=ho.ln
      have hbd:InI (to es (n - 1) - (nth es (n - 1)).ov):=by
        have:=hop.ln;have:=hop.ov
        unfold InI to;omega
      have hfs:fr es n = frm (nth es n).kd (nth es n).tm (to es (n - 1) - (nth es (n - 1)).ov):=by
        have:=frS es (n - 1)
        rwa [show n - 1 + 1 = n by omega] at this
      have hbe:badAt es n = ((decide (fr es n < to es (n - 1) - (nth es (n - 1)).ov) || decide (fr es n ≤ fr es (n - 1))) || (decide (1 < (n:Int)) && decide (fr es n < to es (n - 2))) || decide (to es n ≤ to es (n - 1))):=by
        unfold badAt
        rw [decide_eq_true hn0,Bool.true_and,show decide (1 < n) = decide (1 < (n:Int)) from decide_eq_decide.2 (by omega)]
      (refine tr_seq ?_;refine s_r ?_;refine m_v rfl rfl ?_;refine f_a rfl rfl norm0_ ?_;refine tr_val (rk_load1 (.of rfl) (At.lit (.there .here) rfl)) rfl ?_;refine tr_val (rk_len_slice (.of rfl)) rfl ?_;refine tr_val (rk_lss (.of rfl) (.of rfl)) rfl ?_;refine n_t ?_;refine c_d rfl (fun hcd=>?_) (fun _=>by omega);refine s_t ?_;refine tr_seq ?_;refine tr_block ?_;refine s_r ?_;refine f_a rfl rfl norm0_ ?_;refine tr_val (rk_load1 (.of rfl) (At.lit (.there .here) rfl)) rfl ?_;refine m_v rfl rfl ?_;refine tr_val (rk_indexAddr (.of rfl) (.of rfl) ha' (by omega) hcd norm1_) rfl ?_;refine tr_val (rk_loadN (.of rfl) (Ats.base hcell rfl) rfl) rfl ?_;refine tr_new (rk_alloc rfl) rfl (fun _ _=>?_);refine tr_store (.of rfl) (.of rfl) .here rfl rfl (okc_cons rfl (okc_cons rfl (okc_cons rfl (okc_cons rfl (okc_cons rfl (okc_cons rfl okc_nil)))))) (lenb rfl) norm_ ?_;refine n_r ?_;refine f_a rfl rfl norm0_ ?_;refine f_a rfl rfl norm0_ ?_;refine tr_val (rk_load1 (.of rfl) (At.lit .here rfl)) rfl ?_;refine a_s rfl rfl ?_;refine n_t ?_;refine tr_seq ?_;refine s_r ?_;refine m_v rfl rfl ?_;refine tr_val (rk_gtr (.of rfl) (.of rfl)) rfl ?_;refine n_t ?_;refine c_d rfl (fun hcd=>?_) (fun _=>by omega);refine tr_seq ?_)
      rename_i bx hbx
      with_reducible refine tr_draw 14 (by kernel_rfl) ?_
      (refine a_m rfl rfl ?_;refine a_m rfl rfl ?_;refine any_val (rk_sub (.of rfl) (.of rfl) (ini (by omega))) rfl ?_;refine any_val (rk_indexAddr (.of rfl) (.of rfl) rfl (by omega) (by omega) norm1_) rfl ?_;refine a_f rfl rfl norm0_ ?_;refine any_val (rk_load1 (.of rfl) (At.blkL (.there .here) q1)) rfl ?_;refine a_f rfl rfl norm0_ ?_;refine any_val (rk_load1 (.of rfl) (At.lit (.there (.there .here)) rfl)) rfl ?_;refine a_m rfl rfl ?_;refine any_val (rk_sub (.of rfl) (.of rfl) (ini (by omega))) rfl ?_;refine any_val (rk_indexAddr (.of rfl) (.of rfl) ha' (by omega) (by omega) norm1_) rfl ?_;refine a_f rfl rfl norm0_ ?_;refine any_val (rk_load1 (.of rfl) (At.base p1 rfl)) rfl ?_;refine any_val (rk_sub (.of rfl) (.of rfl) hbd) rfl ?_)
      with_reducible refine any_end ?_
      refine a_s rfl rfl ?_
      refine tr_nil ?_
      refine tr_then ?_
      refine tr_cut (ι:=Int) (fun x=>x = if (nth es n).kd = sFol then to es (n - 1) - (nth es (n - 1)).ov else (nth es n).tm) (fun x=>[(5,.int .i64 n),(4,.slice (some ⟨g,0,none⟩) n cap'),(1,.pointer (some ⟨b1,0,none⟩)),(6,.pointer (some ⟨bx,0,none⟩)),(7,.int .i64 x),(8,.int .i64 (to es (n - 1) - (nth es (n - 1)).ov))])
        (fun _=>[blk bx (.cells #[.string (nth es n).nm,.string (nth es n).mt,.string (nth es n).kd,.int .i64 (nth es n).tm,.int .i64 (nth es n).ln,.int .i64 (nth es n).ov] 36 (0,0)),blk g (.cells (spV es n++cur).toArray 45 (0,0)),blk b1 (.cells #[.slice a es.length cap] 24 (0,0))]) ?_ ?_
      · (refine s_r ?_;refine f_a rfl rfl norm0_ ?_;refine f_a rfl rfl norm0_ ?_;refine tr_val (rk_load1 (.of rfl) (At.lit .here rfl)) rfl ?_;refine tr_val (rk_eqls (.of rfl) (.of rfl)) rfl ?_;refine n_t ?_;refine c_d rfl (fun hcd=>?_) (fun hcd=>?_);refine tr_region ?_;refine m_v rfl rfl ?_;refine a_s rfl rfl ?_;refine n_t ?_;rotate_left;refine s_t ?_;rotate_right)
        · have e:to es (n - 1) - (nth es (n - 1)).ov = (if (nth es n).kd = sFol then to es (n - 1) - (nth es (n - 1)).ov else (nth es n).tm):=(if_pos (show (nth es n).kd = sFol from hcd)).symm
          apply tr_meet (to es (n - 1) - (nth es (n - 1)).ov) e
          case h1=>exact .cons rfl (.cons rfl (.cons rfl (.cons rfl (.cons rfl (.cons rfl .nil)))))
          case ht=>exact .cons .here (.cons .here (.cons .here .nil))
        · have e:(nth es n).tm = (if (nth es n).kd = sFol then to es (n - 1) - (nth es (n - 1)).ov else (nth es n).tm):=(if_neg (show ¬ (nth es n).kd = sFol from hcd)).symm
          apply tr_meet (nth es n).tm e
          case h1=>exact .cons rfl (.cons rfl (.cons rfl (.cons rfl (.cons rfl (.cons rfl .nil)))))
          case ht=>exact .cons .here (.cons .here (.cons .here .nil))
      intro x hx
      refine tr_cut (ι:=Int) (fun x=>x = fr es n) (fun x=>[(5,.int .i64 n),(4,.slice (some ⟨g,0,none⟩) n cap'),(1,.pointer (some ⟨b1,0,none⟩)),(6,.pointer (some ⟨bx,0,none⟩)),(7,.int .i64 x),(8,.int .i64 (to es (n - 1) - (nth es (n - 1)).ov))])
        (fun _=>[blk bx (.cells #[.string (nth es n).nm,.string (nth es n).mt,.string (nth es n).kd,.int .i64 (nth es n).tm,.int .i64 (nth es n).ln,.int .i64 (nth es n).ov] 36 (0,0)),blk g (.cells (spV es n++cur).toArray 45 (0,0)),blk b1 (.cells #[.slice a es.length cap] 24 (0,0))]) ?_ ?_
      · (refine s_r ?_;refine f_a rfl rfl norm0_ ?_;refine f_a rfl rfl norm0_ ?_;refine tr_val (rk_load1 (.of rfl) (At.lit .here rfl)) rfl ?_;refine tr_val (rk_eqls (.of rfl) (.of rfl)) rfl ?_;refine n_t ?_;refine c_d rfl (fun hcd=>?_) (fun hcd=>?_);refine tr_region ?_;refine m_v rfl rfl ?_;refine m_v rfl rfl ?_;refine tr_val (rk_max2 (.of rfl) (.of rfl)) rfl ?_;refine a_s rfl rfl ?_;refine n_t ?_;rotate_left;refine s_t ?_;rotate_right)
        · have hm:(nth es n).kd = sMan:=hcd
          have hnf:¬ (nth es n).kd = sFol:=by rw [hm];exact sMan_ne_sFol
          rw [if_neg hnf] at hx
          subst hx
          have e:max (nth es n).tm (to es (n - 1) - (nth es (n - 1)).ov) = fr es n:=by rw [hfs,frm,if_neg hnf,if_pos hm]
          apply tr_meet (max (nth es n).tm (to es (n - 1) - (nth es (n - 1)).ov)) e
          case h1=>exact .cons rfl (.cons rfl (.cons rfl (.cons rfl (.cons rfl (.cons rfl .nil)))))
          case ht=>exact .cons .here (.cons .here (.cons .here .nil))
        · have hm:¬ (nth es n).kd = sMan:=hcd
          apply tr_meet x (by rw [hx,hfs,frm];split <;> simp [hm])
          case h1=>exact .cons rfl (.cons rfl (.cons rfl (.cons rfl (.cons rfl (.cons rfl .nil)))))
          case ht=>exact .cons .here (.cons .here (.cons .here .nil))
      intro x2 hx2
      subst hx2
      clear hx x
      refine tr_seq ?_
      with_reducible refine tr_draw 41 (by kernel_rfl) ?_
      (refine a_m rfl rfl ?_;refine a_m rfl rfl ?_;refine any_val (rk_lss (.of rfl) (.of rfl)) rfl ?_;refine a_m rfl rfl ?_;refine any_vG1 rfl rfl inferInstance (fun hg hgp=>(rk_move (.of rfl))) rfl ?_;refine any_vG1 rfl rfl inferInstance (fun hg hgp=>(rk_move (.of rfl))) rfl ?_;refine any_vG1 rfl rfl inferInstance (fun hg hgp=>(rk_move (.of rfl))) rfl ?_;refine any_vG1 rfl rfl inferInstance (fun hg hgp=>(rk_sub (.ofg hg rfl) (.of rfl) (ini (by omega)))) rfl ?_;refine any_vG1 rfl rfl inferInstance (fun hg hgp=>(rk_indexAddr (.ofg hg rfl) (.ofg hg rfl) rfl (by omega) (by omega) norm1_)) rfl ?_;refine any_vG1 rfl rfl inferInstance (fun hg hgp=>(rk_fieldAddr (.ofg hg rfl) norm0_)) rfl ?_;refine any_vG1 rfl rfl inferInstance (fun hg hgp=>(rk_load1 (.ofg hg rfl) (At.blkL (.there .here) q0))) rfl ?_;refine any_vG1 rfl rfl inferInstance (fun hg hgp=>(rk_leq (.ofg hg rfl) (.ofg hg rfl))) rfl ?_;refine any_val (rk_pick_or (.of rfl) rfl) rfl ?_;refine a_m rfl rfl ?_;refine any_vG1 rfl rfl inferInstance (fun hg hgp=>(rk_move (.of rfl))) rfl ?_;refine any_vG1 rfl rfl inferInstance (fun hg hgp=>(rk_gtr (.ofg hg rfl) (.of rfl))) rfl ?_;refine any_vG1 rfl rfl inferInstance (fun hg hgp=>(rk_move (.ofg hg rfl))) rfl ?_;refine any_vG rfl rfl inferInstance (fun hg hgp=>(rk_move (.of rfl))) rfl ?_;refine any_vG rfl rfl inferInstance (fun hg hgp=>(rk_move (.of rfl))) rfl ?_;refine any_vG rfl rfl inferInstance (fun hg hgp=>(rk_move (.of rfl))) rfl ?_;refine any_vG rfl rfl inferInstance (fun hg hgp=>(rk_sub (.ofg hg rfl) (.of rfl) (ini (by omega)))) rfl ?_;refine any_vG rfl rfl inferInstance (fun hg hgp=>(rk_max2 (.of rfl) (.ofg hg rfl))) rfl ?_;refine any_vG rfl rfl inferInstance (fun hg hgp=>(rk_indexAddr (.ofg hg rfl) (.ofg hg rfl) rfl (by omega) (by omega) norm1_)) rfl ?_;refine any_vG rfl rfl inferInstance (fun hg hgp=>(rk_fieldAddr (.ofg hg rfl) norm0_)) rfl ?_;refine any_vG rfl rfl inferInstance (fun hg hgp=>(rk_load1 (.ofg hg rfl) (At.blkL (.there .here) q2))) rfl ?_;refine any_vG rfl rfl inferInstance (fun hg hgp=>(rk_lss (.ofg hg rfl) (.ofg hg rfl))) rfl ?_;refine any_vG1 rfl rfl inferInstance (fun hg hgp=>(rk_pick_and' hg (.ofg hg rfl) rfl)) rfl ?_;refine any_val (rk_pick_or (.of rfl) rfl) rfl ?_;refine a_m rfl rfl ?_;refine any_vG1 rfl rfl inferInstance (fun hg hgp=>(rk_move (.of rfl))) rfl ?_;refine any_vG1 rfl rfl inferInstance (fun hg hgp=>(rk_fieldAddr (.of rfl) norm0_)) rfl ?_;refine any_vG1 rfl rfl inferInstance (fun hg hgp=>(rk_load1 (.ofg hg rfl) (At.lit .here rfl))) rfl ?_;refine any_vG1 rfl rfl inferInstance (fun hg hgp=>(rk_add (.ofg hg rfl) (.ofg hg rfl) (ini (by omega)))) rfl ?_;refine any_vG1 rfl rfl inferInstance (fun hg hgp=>(rk_move (.of rfl))) rfl ?_;refine any_vG1 rfl rfl inferInstance (fun hg hgp=>(rk_move (.of rfl))) rfl ?_;refine any_vG1 rfl rfl inferInstance (fun hg hgp=>(rk_sub (.ofg hg rfl) (.of rfl) (ini (by omega)))) rfl ?_;refine any_vG1 rfl rfl inferInstance (fun hg hgp=>(rk_indexAddr (.ofg hg rfl) (.ofg hg rfl) rfl (by omega) (by omega) norm1_)) rfl ?_;refine any_vG1 rfl rfl inferInstance (fun hg hgp=>(rk_fieldAddr (.ofg hg rfl) norm0_)) rfl ?_;refine any_vG1 rfl rfl inferInstance (fun hg hgp=>(rk_load1 (.ofg hg rfl) (At.blkL (.there .here) q1))) rfl ?_;refine any_vG1 rfl rfl inferInstance (fun hg hgp=>(rk_leq (.ofg hg rfl) (.ofg hg rfl))) rfl ?_;refine any_val (rk_pick_or (.of rfl) rfl) rfl ?_)
      with_reducible refine any_end ?_
      (refine n_t ?_;refine c_b rfl (fun hcd=>?_) (fun hcd=>?_);refine s_r ?_;refine a_s rfl rfl ?_;refine a_s rfl rfl ?_;refine n_t ?_;refine r_t ?_;refine tr_blk_ret ?_;refine tr_then_ret ?_;refine tr_then_ret ?_;refine tr_blk_ret ?_;refine tr_then_ret ?_;rotate_left;refine s_t ?_;refine tr_seq ?_;refine s_r ?_;refine m_v rfl rfl ?_;refine f_a rfl rfl norm0_ ?_;refine tr_val (rk_load1 (.of rfl) (At.lit .here rfl)) rfl ?_;refine tr_val (rk_add (.of rfl) (.of rfl) (ini (by omega))) rfl ?_;refine tr_val (rk_gtr (.of rfl) (.of rfl)) rfl ?_;refine n_t ?_;refine c_d rfl (fun hcd=>?_) (fun hcd=>?_);refine s_r ?_;refine a_s rfl rfl ?_;refine a_s rfl rfl ?_;refine n_t ?_;refine r_t ?_;refine tr_blk_ret ?_;refine tr_then_ret ?_;refine tr_then_ret ?_;refine tr_blk_ret ?_;refine tr_then_ret ?_;rotate_left;refine s_t ?_;refine tr_region ?_;refine m_v rfl rfl ?_;refine m_v rfl rfl ?_;refine m_v rfl rfl ?_;refine f_a rfl rfl norm0_ ?_;refine tr_val (rk_load1 (.of rfl) (At.lit .here rfl)) rfl ?_;refine tr_val (rk_add (.of rfl) (.of rfl) (ini (by omega))) rfl ?_;refine tr_val (rk_buildL (.cons (.of rfl) (.cons (.of rfl) .nil)) norm_) rfl ?_;refine tr_new (rk_sliceLitN (.cons (.of rfl) .nil) rfl rfl normp_ normp_ norm_) rfl (fun _ _=>?_);rotate_right;rotate_right)
      · have hbt:badAt es n = true:=by rw [hbe];simp only [Bool.or_eq_true,Bool.and_eq_true,decide_eq_true_eq];assumption
        have htq:tqL es = []:=by rw [tqL,h15 hbt,if_neg (by decide)]
        rw [htq,h15 hbt]
        refine tr_rowNil 45 2 ?_
        first | with_reducible apply tr_retM | with_reducible apply tr_endM
        case he=>exact ends2 rfl rfl rfl
        case hR=>
          intro w' hm'
          exact gives_end (.slice none 0 0) trivial (show Takes _ [row 45 2 (.slice none 0 0) 0 []] _ by exact .cons .here .nil) hm' rfl
      · have hbf:badAt es n = false:=by rw [hbe];simp only [Bool.or_eq_false_iff,Bool.and_eq_false_iff,decide_eq_false_iff_not];assumption
        have htq:tqL es = []:=by rw [tqL,h4 hbf hcd,if_neg (by decide)]
        rw [htq,h4 hbf hcd]
        refine tr_rowNil 45 2 ?_
        first | with_reducible apply tr_retM | with_reducible apply tr_endM
        case he=>exact ends2 rfl rfl rfl
        case hR=>
          intro w' hm'
          exact gives_end (.slice none 0 0) trivial (show Takes _ [row 45 2 (.slice none 0 0) 0 []] _ by exact .cons .here .nil) hm' rfl
      · have hbf:badAt es n = false:=by rw [hbe];simp only [Bool.or_eq_false_iff,Bool.and_eq_false_iff,decide_eq_false_iff_not];assumption
        have hnx:=h0 hbf hcd
        refine tr_rowShut (by exact Take.there (.there .here)) hcap' hmx' hsz' hl' ?_
        refine tr_appendB (.of rfl) (.of rfl) .here (.there .here) norm_ (by rfl) (okc_cons rfl (okc_cons rfl okc_nil)) (by rfl) (by rfl) (by rfl) lenx_ (by rfl) ?_
        intro v'
        (refine a_s rfl rfl ?_;refine tr_nil ?_;refine tr_blk_normal ?_;refine tr_then ?_;refine tr_region ?_;refine m_v rfl rfl ?_;refine tr_val (rk_add (.of rfl) (.of rfl) (ini (by omega))) rfl ?_;refine a_s rfl rfl ?_;refine n_t ?_)
        apply tr_next (n + 1,v') ⟨by show n + 1 ≤ es.length;omega,hnx⟩ (by show es.length - (n + 1) < es.length - n;omega)
        case hs1=>exact .cons rfl (.cons rfl (.cons rfl .nil))
        case ht=>
          show Takes _ [row 45 2 v' (n + 1) (spV es (n + 1)),_] _
          rw [spV_succ,to]
          exact .cons .here (.cons (.there (.there .here)) .nil)
    · obtain rfl:n = 0:=by omega
      have hbf:badAt es 0 = false:=rfl
      have hf0:=fr0 (hnf hlt) ho.tm.1
      have ht0:to es 0 = (nth es 0).tm + (nth es 0).ln:=by rw [to,hf0]
      have hln:=ho.ln
      have htm:=ho.tm
      rw [ht0] at h4 h0
      (refine tr_seq ?_;refine s_r ?_;refine m_v rfl rfl ?_;refine f_a rfl rfl norm0_ ?_;refine tr_val (rk_load1 (.of rfl) (At.lit (.there .here) rfl)) rfl ?_;refine tr_val (rk_len_slice (.of rfl)) rfl ?_;refine tr_val (rk_lss (.of rfl) (.of rfl)) rfl ?_;refine n_t ?_;refine c_d rfl (fun hcd=>?_) (fun _=>by omega);refine s_t ?_;refine tr_seq ?_;refine tr_block ?_;refine s_r ?_;refine f_a rfl rfl norm0_ ?_;refine tr_val (rk_load1 (.of rfl) (At.lit (.there .here) rfl)) rfl ?_;refine m_v rfl rfl ?_;refine tr_val (rk_indexAddr (.of rfl) (.of rfl) ha' (by omega) hcd norm1_) rfl ?_;refine tr_val (rk_loadN (.of rfl) (Ats.base hcell rfl) rfl) rfl ?_;refine tr_new (rk_alloc rfl) rfl (fun _ _=>?_);refine tr_store (.of rfl) (.of rfl) .here rfl rfl (okc_cons rfl (okc_cons rfl (okc_cons rfl (okc_cons rfl (okc_cons rfl (okc_cons rfl okc_nil)))))) (lenb rfl) norm_ ?_;refine n_r ?_;refine f_a rfl rfl norm0_ ?_;refine f_a rfl rfl norm0_ ?_;refine tr_val (rk_load1 (.of rfl) (At.lit .here rfl)) rfl ?_;refine a_s rfl rfl ?_;refine n_t ?_;refine tr_seq ?_;refine s_r ?_;refine m_v rfl rfl ?_;refine tr_val (rk_gtr (.of rfl) (.of rfl)) rfl ?_;refine n_t ?_;refine c_d rfl (fun _=>by omega) (fun hcd=>?_);refine s_t ?_;refine tr_seq ?_;refine s_r ?_;refine m_v rfl rfl ?_;refine f_a rfl rfl norm0_ ?_;refine tr_val (rk_load1 (.of rfl) (At.lit .here rfl)) rfl ?_;refine tr_val (rk_add (.of rfl) (.of rfl) (ini (by omega))) rfl ?_;refine tr_val (rk_gtr (.of rfl) (.of rfl)) rfl ?_;refine n_t ?_;refine c_d rfl (fun hcd=>?_) (fun hcd=>?_);refine s_r ?_;refine a_s rfl rfl ?_;refine a_s rfl rfl ?_;refine n_t ?_;refine r_t ?_;refine tr_blk_ret ?_;refine tr_then_ret ?_;refine tr_then_ret ?_;refine tr_blk_ret ?_;refine tr_then_ret ?_;rotate_left;refine s_t ?_;refine tr_region ?_;refine m_v rfl rfl ?_;refine m_v rfl rfl ?_;refine m_v rfl rfl ?_;refine f_a rfl rfl norm0_ ?_;refine tr_val (rk_load1 (.of rfl) (At.lit .here rfl)) rfl ?_;refine tr_val (rk_add (.of rfl) (.of rfl) (ini (by omega))) rfl ?_;refine tr_val (rk_buildL (.cons (.of rfl) (.cons (.of rfl) .nil)) norm_) rfl ?_;refine tr_new (rk_sliceLitN (.cons (.of rfl) .nil) rfl rfl normp_ normp_ norm_) rfl (fun _ _=>?_);rotate_right)
      · skip
        have htq:tqL es = []:=by rw [tqL,h4 hbf hcd,if_neg (by decide)]
        rw [htq,h4 hbf hcd]
        refine tr_rowNil 45 2 ?_
        first | with_reducible apply tr_retM | with_reducible apply tr_endM
        case he=>exact ends2 rfl rfl rfl
        case hR=>
          intro w' hm'
          exact gives_end (.slice none 0 0) trivial (show Takes _ [row 45 2 (.slice none 0 0) 0 []] _ by exact .cons .here .nil) hm' rfl
      · have hnx:=h0 hbf hcd
        refine tr_appendB (.of rfl) (.of rfl) (.there (.there .here)) .here norm_ (by rfl) (okc_cons rfl (okc_cons rfl okc_nil)) (by rfl) (by rfl) (by rfl) lenx_ (by rfl) ?_
        intro v'
        (refine a_s rfl rfl ?_;refine tr_nil ?_;refine tr_blk_normal ?_;refine tr_then ?_;refine tr_region ?_;refine m_v rfl rfl ?_;refine tr_val (rk_add (.of rfl) (.of rfl) (ini (by omega))) rfl ?_;refine a_s rfl rfl ?_;refine n_t ?_)
        apply tr_next (0 + 1,v') ⟨by show 0 + 1 ≤ es.length;omega,hnx⟩ (by show es.length - (0 + 1) < es.length - 0;omega)
        case hs1=>exact .cons rfl (.cons rfl (.cons rfl .nil))
        case ht=>
          show Takes _ [row 45 2 v' (0 + 1) (spV es (0 + 1)),_] _
          rw [spV_succ,hf0,ht0]
          exact .cons .here (.cons (.there (.there .here)) .nil)
  · obtain rfl:n = es.length:=by omega
    have hE:errE (e2At es) es.length = 0:=errE_ok.2 hz
    rw [tqL,if_pos hE,hE,spL_length]
    (refine tr_seq ?_;refine s_r ?_;refine m_v rfl rfl ?_;refine f_a rfl rfl norm0_ ?_;refine tr_val (rk_load1 (.of rfl) (At.lit (.there .here) rfl)) rfl ?_;refine tr_val (rk_len_slice (.of rfl)) rfl ?_;refine tr_val (rk_lss (.of rfl) (.of rfl)) rfl ?_;refine n_t ?_;refine c_d rfl (fun _=>by omega) (fun hcd=>?_);refine x_t ?_;refine tr_then_exit ?_;refine tr_blk_exit ?_;refine tr_then ?_;refine s_r ?_;refine m_v rfl rfl ?_;refine a_s rfl rfl ?_;refine a_s rfl rfl ?_;refine n_t ?_;refine tr_ret ?_)
    first | with_reducible apply tr_retM | with_reducible apply tr_endM
    case he=>exact ends2 rfl rfl rfl
    case hR=>
      intro w' hm'
      exact gives_end v trivial (show Takes _ [row 45 2 v es.length (spV es es.length)] _ by exact .cons .here .nil) hm' rfl
end Go.Proofs.A1
