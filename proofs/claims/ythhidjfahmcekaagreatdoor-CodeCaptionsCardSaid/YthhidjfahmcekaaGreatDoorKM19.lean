/- Parts of the proof: U3M U3N UOp UPp U3O U31 U32. -/
import Derived.Test.YthhidjfahmcekaaGreatDoorKM18
import Derived.Test.YthhidjfahmcekaaGreatDoorKM06
import Derived.Test.YthhidjfahmcekaaGreatDoorKM10
import Derived.Test.YthhidjfahmcekaaGreatDoorKM17
import Derived.Test.YthhidjfahmcekaaGreatDoorKM16
set_option linter.unusedSectionVars false
set_option linter.unusedVariables false
set_option linter.unusedSimpArgs false
namespace Go.Proofs.A1
open Go Go.SL
set_option maxHeartbeats 2000000 in
theorem shownQ_c {lv:Value} {l:List Cp} {n:Int} {w:World} (h:Rd w lv 5 (cps l)) (hok:CapOk l):GivesV Tryz.prog 65 [lv,.int .i64 n] w (.agg ((scrL l n).map Value.string).toArray):=by
  have hfew:=hok.few
  obtain ⟨a,cp,b,o,rfl,hcap,hmax,ha,hc⟩:=h
  rw [cps_length] at *
  unfold maxLen at hmax
  rw [← outQ_end]
  refine givesV_of_tr Tryz.func65 rfl rfl ?_
  (refine s_r ?_;refine tr_new (rk_alloc rfl) rfl (fun _ _=>?_);refine n_r ?_;refine tr_new (rk_alloc rfl) rfl (fun _ _=>?_);refine n_t ?_;refine tr_seq ?_;refine s_r ?_;refine a_s rfl rfl ?_;refine n_t ?_;refine tr_block ?_)
  rename_i b4 _ b5 _
  refine tr_for (fun r:Nat=>r ≤ 8) (fun r=>[(6,.int .i64 r),(5,.pointer (some ⟨b5,0,none⟩)),(4,.pointer (some ⟨b4,0,none⟩)),(0,.slice a l.length cp),(1,.int .i64 n)]) (fun r=>[blk b5 (.cells (outQ l n r 0).toArray 99 (0,0)),blk b4 (.cells (List.replicate 8 (Value.string ⟨#[]⟩)).toArray 99 (0,0))]) (fun r=>8 - r) ?_ ?_
  · apply tr_start 0 (show (0:Nat) ≤ 8 by omega)
    case hs1=>exact .cons rfl (.cons rfl (.cons rfl (.cons rfl (.cons rfl .nil))))
    case ht=>
      rw [outQ_zero]
      show Takes _ [blk b5 (.cells #[.string ⟨#[]⟩,.string ⟨#[]⟩,.string ⟨#[]⟩,.string ⟨#[]⟩,.string ⟨#[]⟩,.string ⟨#[]⟩,.string ⟨#[]⟩,.string ⟨#[]⟩] 99 (0,0)),blk b4 (.cells #[.string ⟨#[]⟩,.string ⟨#[]⟩,.string ⟨#[]⟩,.string ⟨#[]⟩,.string ⟨#[]⟩,.string ⟨#[]⟩,.string ⟨#[]⟩,.string ⟨#[]⟩] 99 (0,0))] _
      exact .cons .here (.cons .here .nil)
  intro r hr
  by_cases hlr:r < 8
  · (refine tr_seq ?_;refine s_r ?_;refine m_v rfl rfl ?_;refine tr_val (rk_lss (.of rfl) (.of rfl)) rfl ?_;refine n_t ?_;refine c_d rfl (fun hcd=>?_) (fun _=>by omega);refine s_t ?_;refine tr_seq ?_;refine tr_block ?_;refine s_r ?_;refine a_s rfl rfl ?_;refine n_t ?_;refine tr_block ?_)
    refine tr_for (fun c:Nat=>c ≤ 32) (fun c=>[(7,.int .i64 c),(6,.int .i64 r),(5,.pointer (some ⟨b5,0,none⟩)),(4,.pointer (some ⟨b4,0,none⟩)),(0,.slice a l.length cp),(1,.int .i64 n)]) (fun c=>[blk b5 (.cells (outQ l n r c).toArray 99 (0,0)),blk b4 (.cells (List.replicate 8 (Value.string ⟨#[]⟩)).toArray 99 (0,0))]) (fun c=>32 - c) ?_ ?_
    · apply tr_start 0 (show (0:Nat) ≤ 32 by omega)
      case hs1=>exact .cons rfl (.cons rfl (.cons rfl (.cons rfl (.cons rfl (.cons rfl .nil)))))
      case ht=>(try simp only [List.take_zero,List.map_nil,List.nil_append]);exact .cons .here (.cons .here .nil)
    intro c hcc
    by_cases hlc:c < 32
    · (refine tr_seq ?_;refine s_r ?_;refine m_v rfl rfl ?_;refine tr_val (rk_lss (.of rfl) (.of rfl)) rfl ?_;refine n_t ?_;refine c_d rfl (fun hcd=>?_) (fun _=>by omega);refine s_t ?_;refine tr_seq ?_;refine tr_block ?_;refine s_r ?_;refine a_s rfl rfl ?_;refine n_t ?_;refine tr_seq ?_;refine s_r ?_;refine a_s rfl rfl ?_;refine n_t ?_;refine tr_block ?_)
      refine tr_for (fun j:Nat=>j ≤ l.length) (fun j=>[(9,.int .i64 j),(8,.int .u8 (shB (l.take j) n (r:Nat) c)),(7,.int .i64 c),(6,.int .i64 r),(5,.pointer (some ⟨b5,0,none⟩)),(4,.pointer (some ⟨b4,0,none⟩)),(0,.slice a l.length cp),(1,.int .i64 n)]) (fun _=>[blk b5 (.cells (outQ l n r c).toArray 99 (0,0)),blk b4 (.cells (List.replicate 8 (Value.string ⟨#[]⟩)).toArray 99 (0,0))]) (fun j=>l.length - j) ?_ ?_
      · apply tr_start 0 (show (0:Nat) ≤ l.length from Nat.zero_le _)
        case hs1=>exact .cons rfl (.cons rfl (.cons rfl (.cons rfl (.cons rfl (.cons rfl (.cons rfl (.cons rfl .nil)))))))
        case ht=>exact .cons .here (.cons .here .nil)
      intro j hj
      by_cases hlj:j < l.length
      · have ha':=ha (cps_ne hlj)
        have hcell:=(hc j _ (cps_get hlj)).2
        have hnx:=shB_next hlj n (r:Nat) c
        have hx:=hok.ok j hlj
        rw [nthC_get hlj] at hnx hx
        generalize l[j] = x at hcell hnx hx
        have x1:=hx.rw;have x2:=hx.co;have x3:=hx.fit;have x4:=hx.ne
        dsimp only [Cp.cells] at hcell
        (refine tr_seq ?_;refine s_r ?_;refine m_v rfl rfl ?_;refine m_v rfl rfl ?_;refine tr_val (rk_len_slice (.of rfl)) rfl ?_;refine tr_val (rk_lss (.of rfl) (.of rfl)) rfl ?_;refine n_t ?_;refine c_d rfl (fun hcd=>?_) (fun _=>by omega);refine s_t ?_;refine tr_seq ?_;refine tr_block ?_;refine s_r ?_;refine m_v rfl rfl ?_;refine m_v rfl rfl ?_;refine tr_val (rk_indexAddr (.of rfl) (.of rfl) ha' (by omega) hcd norm1_) rfl ?_;refine tr_val (rk_loadN (.of rfl) (Ats.base hcell rfl) rfl) rfl ?_;refine tr_new (rk_alloc rfl) rfl (fun _ _=>?_);refine tr_store (.of rfl) (.of rfl) .here rfl rfl (okc_cons rfl (okc_cons rfl (okc_cons rfl (okc_cons rfl (okc_cons rfl okc_nil))))) (lenb rfl) norm_ ?_;refine n_r ?_;refine f_a rfl rfl norm0_ ?_;refine tr_val (rk_load1 (.of rfl) (At.lit .here rfl)) rfl ?_;refine m_v rfl rfl ?_;refine tr_val (rk_eql (.of rfl) (.of rfl)) rfl ?_;refine m_v rfl rfl ?_;refine tr_vG1 rfl rfl inferInstance (fun hg hgp=>(rk_fieldAddr (.of rfl) norm0_)) rfl ?_;refine tr_vG1 rfl rfl inferInstance (fun hg hgp=>(rk_fieldAddr (.ofg hg rfl) norm0_)) rfl ?_;refine tr_vG1 rfl rfl inferInstance (fun hg hgp=>(rk_load1 (.ofg hg rfl) (At.lit .here rfl))) rfl ?_;refine v_g rfl rfl rfl rfl ?_;refine tr_vG1 rfl rfl inferInstance (fun hg hgp=>(rk_leq (.ofg hg rfl) (.ofg hg rfl))) rfl ?_;refine tr_val (rk_pick_and (.of rfl) rfl) rfl ?_;refine m_v rfl rfl ?_;refine v_g rfl rfl rfl rfl ?_;refine tr_vG1 rfl rfl inferInstance (fun hg hgp=>(rk_fieldAddr (.of rfl) norm0_)) rfl ?_;refine tr_vG1 rfl rfl inferInstance (fun hg hgp=>(rk_fieldAddr (.ofg hg rfl) norm0_)) rfl ?_;refine tr_vG1 rfl rfl inferInstance (fun hg hgp=>(rk_load1 (.ofg hg rfl) (At.lit .here rfl))) rfl ?_;refine tr_vG1 rfl rfl inferInstance (fun hg hgp=>(rk_lss (.ofg hg rfl) (.ofg hg rfl))) rfl ?_;refine tr_val (rk_pick_and (.of rfl) rfl) rfl ?_;refine m_v rfl rfl ?_;refine tr_vG1 rfl rfl inferInstance (fun hg hgp=>(rk_fieldAddr (.of rfl) norm0_)) rfl ?_;refine tr_vG1 rfl rfl inferInstance (fun hg hgp=>(rk_load1 (.ofg hg rfl) (At.lit .here rfl))) rfl ?_;refine v_g rfl rfl rfl rfl ?_;refine tr_vG1 rfl rfl inferInstance (fun hg hgp=>(rk_leq (.ofg hg rfl) (.ofg hg rfl))) rfl ?_;refine tr_val (rk_pick_and (.of rfl) rfl) rfl ?_;refine m_v rfl rfl ?_;refine v_g rfl rfl rfl rfl ?_;refine tr_vG1 rfl rfl inferInstance (fun hg hgp=>(rk_fieldAddr (.of rfl) norm0_)) rfl ?_;refine tr_vG1 rfl rfl inferInstance (fun hg hgp=>(rk_load1 (.ofg hg rfl) (At.lit .here rfl))) rfl ?_;refine tr_vG1 rfl rfl inferInstance (fun hg hgp=>(rk_fieldAddr (.of rfl) norm0_)) rfl ?_;refine tr_vG1 rfl rfl inferInstance (fun hg hgp=>(rk_load1 (.ofg hg rfl) (At.lit .here rfl))) rfl ?_;refine tr_vG1 rfl rfl inferInstance (fun hg hgp=>(rk_len_string (.ofg hg rfl))) rfl ?_;refine tr_vG1 rfl rfl inferInstance (fun hg hgp=>(rk_add (.ofg hg rfl) (.ofg hg rfl) (ini (by omega)))) rfl ?_;refine tr_vG1 rfl rfl inferInstance (fun hg hgp=>(rk_lss (.ofg hg rfl) (.ofg hg rfl))) rfl ?_;refine tr_val (rk_pick_and (.of rfl) rfl) rfl ?_;refine n_t ?_;refine c_b rfl (fun hcd=>?_) (fun hcd=>?_);refine tr_region ?_;refine f_a rfl rfl norm0_ ?_;refine tr_val (rk_load1 (.of rfl) (At.lit .here rfl)) rfl ?_;refine m_v rfl rfl ?_;refine f_a rfl rfl norm0_ ?_;refine tr_val (rk_load1 (.of rfl) (At.lit .here rfl)) rfl ?_;refine tr_val (rk_sub (.of rfl) (.of rfl) (ini (by omega))) rfl ?_;refine tr_val (rk_indexS (.of rfl) (.of rfl) (by omega) (by omega)) rfl ?_;refine a_s rfl rfl ?_;refine tr_nil ?_;refine tr_blk_normal ?_;refine tr_then ?_;refine tr_region ?_;refine m_v rfl rfl ?_;refine tr_val (rk_add (.of rfl) (.of rfl) (ini (by omega))) rfl ?_;refine a_s rfl rfl ?_;refine n_t ?_;rotate_left;refine tr_skip ?_;refine tr_blk_normal ?_;refine tr_then ?_;refine tr_region ?_;refine m_v rfl rfl ?_;refine tr_val (rk_add (.of rfl) (.of rfl) (ini (by omega))) rfl ?_;refine a_s rfl rfl ?_;refine n_t ?_;rotate_right)
        · have hcv:cov x n (r:Nat) c = true:=by unfold cov onC;simp only [Bool.and_eq_true,decide_eq_true_eq];omega
          rw [hcv,if_pos rfl] at hnx
          have hbt:(((x.tx.data.toList[((c:Int) - x.co).toNat]?.getD 0).toNat:Nat):Int) = bt x.tx ((c:Int) - x.co).toNat:=rfl
          rw [hbt,← hnx]
          apply tr_next (j + 1) (show j + 1 ≤ l.length from hlj) (show l.length - (j + 1) < l.length - j by omega)
          case hs1=>exact .cons rfl (.cons rfl (.cons rfl (.cons rfl (.cons rfl (.cons rfl (.cons rfl (.cons rfl .nil)))))))
          case ht=>exact .cons (.there .here) (.cons (.there .here) .nil)
        · have hcv:cov x n (r:Nat) c = false:=by
            cases hq:cov x n (r:Nat) c with
            | false=>rfl
            | true =>
              unfold cov onC at hq
              simp only [Bool.and_eq_true,decide_eq_true_eq] at hq
              omega
          rw [hcv,if_neg (by decide)] at hnx
          rw [← hnx]
          apply tr_next (j + 1) (show j + 1 ≤ l.length from hlj) (show l.length - (j + 1) < l.length - j by omega)
          case hs1=>exact .cons rfl (.cons rfl (.cons rfl (.cons rfl (.cons rfl (.cons rfl (.cons rfl (.cons rfl .nil)))))))
          case ht=>exact .cons (.there .here) (.cons (.there .here) .nil)
      · obtain rfl:j = l.length:=by omega
        rw [List.take_length]
        have hin:=shB_in hok n (r:Nat) c l.length (Nat.le_refl _)
        rw [List.take_length] at hin
        have hsz:(colS l n r c).size = c:=by unfold colS;rw [strB_size];simp
        have hnx:=colS_succ l n r c
        have hes:(strOf [shB l n (r:Nat) c]).size = 1:=strOf_size _
        have hen:=enc_ascii (n:=shB l n (r:Nat) c) (by omega)
        have hget:(outQ l n r c)[r * 1]? = some (.string (colS l n r c)):=by rw [Nat.mul_one];exact outQ_get l n c hlr
        have hol:=outQ_len l n r c
        have hsl:r * 1 + 1 ≤ (outQ l n r c).length:=by rw [hol];omega
        have hset:setCells (outQ l n r c) (r * 1) [.string (colS l n r (c + 1))] = outQ l n r (c + 1):=by
          show (outQ l n r c).set (r * 1) _ = _
          rw [Nat.mul_one];exact outQ_set l n c hlr
        generalize shB l n (r:Nat) c = y at hin hnx hes hen
        generalize hS:colS l n r c = S at hsz hnx hget
        rw [hnx] at hset
        have hw:IntKind.i32.wrap y = y:=by unfold IntKind.wrap;simp [IntKind.signed,IntKind.bits];omega
        (refine tr_seq ?_;refine s_r ?_;refine m_v rfl rfl ?_;refine m_v rfl rfl ?_;refine tr_val (rk_len_slice (.of rfl)) rfl ?_;refine tr_val (rk_lss (.of rfl) (.of rfl)) rfl ?_;refine n_t ?_;refine c_d rfl (fun _=>by omega) (fun hcd=>?_);refine x_t ?_;refine tr_then_exit ?_;refine tr_blk_exit ?_;refine tr_then ?_;refine tr_region ?_;refine m_v rfl rfl ?_;refine m_v rfl rfl ?_;refine tr_val (rk_indexAddrA (.of rfl) (.of rfl) (by omega) (by assumption) norm1_) rfl ?_;refine tr_val (rk_load1 (.of rfl) (At.blkL .here hget)) rfl ?_;refine m_v rfl rfl ?_;refine tr_val (rk_conv (.of rfl)) rfl ?_)
        refine tr_val (rk_convR (.of rfl)) rfl ?_
        rw [hw,hen]
        (refine tr_val (rk_cat (.of rfl) (.of rfl) (by omega)) rfl ?_;refine tr_val (rk_indexAddrA (.of rfl) (.of rfl) (by omega) (by assumption) norm1_) rfl ?_;refine tr_store (.of rfl) (.of rfl) .here rfl rfl (okc_cons rfl okc_nil) hsl hset ?_;refine tr_nil ?_;refine tr_blk_normal ?_;refine tr_then ?_;refine tr_region ?_;refine m_v rfl rfl ?_;refine tr_val (rk_add (.of rfl) (.of rfl) (ini (by omega))) rfl ?_;refine a_s rfl rfl ?_;refine n_t ?_)
        apply tr_next (c + 1) (show c + 1 ≤ 32 from hlc) (show 32 - (c + 1) < 32 - c by omega)
        case hs1=>exact .cons rfl (.cons rfl (.cons rfl (.cons rfl (.cons rfl (.cons rfl .nil)))))
        case ht=>(try simp only [List.take_zero,List.map_nil,List.nil_append]);exact .cons .here (.cons .here .nil)
    · obtain rfl:c = 32:=by omega
      (refine tr_seq ?_;refine s_r ?_;refine m_v rfl rfl ?_;refine tr_val (rk_lss (.of rfl) (.of rfl)) rfl ?_;refine n_t ?_;refine c_d rfl (fun _=>by omega) (fun hcd=>?_);refine x_t ?_;refine tr_then_exit ?_;refine tr_blk_exit ?_;refine tr_blk_normal ?_;refine tr_then ?_;refine tr_region ?_;refine m_v rfl rfl ?_;refine tr_val (rk_add (.of rfl) (.of rfl) (ini (by omega))) rfl ?_;refine a_s rfl rfl ?_;refine n_t ?_)
      rw [outQ_row]
      apply tr_next (r + 1) (show r + 1 ≤ 8 by omega) (show 8 - (r + 1) < 8 - r by omega)
      case hs1=>exact .cons rfl (.cons rfl (.cons rfl (.cons rfl (.cons rfl .nil))))
      case ht=>(try simp only [List.take_zero,List.map_nil,List.nil_append]);exact .cons .here (.cons .here .nil)
  · obtain rfl:r = 8:=by omega
    (refine tr_seq ?_;refine s_r ?_;refine m_v rfl rfl ?_;refine tr_val (rk_lss (.of rfl) (.of rfl)) rfl ?_;refine n_t ?_;refine c_d rfl (fun _=>by omega) (fun hcd=>?_);refine x_t ?_;refine tr_then_exit ?_;refine tr_blk_exit ?_;refine tr_then ?_;refine s_r ?_;refine tr_val (rk_loadB (.of rfl) .here norm_ (by rfl)) rfl ?_;refine tr_store (.of rfl) (.of rfl) (.there .here) rfl rfl (okc_cons rfl (okc_cons rfl (okc_cons rfl (okc_cons rfl (okc_cons rfl (okc_cons rfl (okc_cons rfl (okc_cons rfl okc_nil)))))))) (lenb rfl) norm_ ?_;refine n_t ?_;refine tr_ret ?_;refine tr_retE rfl (ends1cB rfl inferInstance rfl .here norm_ (by rfl)) ?_)
    rw [cellsAt_all (n:=8) (outQ_len _ _ _ _),setCells_full (by rw [outQ_len];rfl),cellsAt_all (n:=8) (outQ_len _ _ _ _)]
end Go.Proofs.A1
namespace Go.Proofs.A1
open Go Go.SL
theorem capOk_nil:CapOk []:=⟨by decide,fun k h=>absurd h (by simp),fun k h=>absurd h (by simp)⟩
theorem blankQ_c (w:World):GivesV Tryz.prog 69 [] w (.agg ((scrL [] 0).map Value.string).toArray):=by
  have hsh:∀ w',GivesV Tryz.prog 65 [.slice none 0 0,.int .i64 0] w' (.agg ((scrL [] 0).map Value.string).toArray):=fun w'=>shownQ_c (l:=[]) (n:=0) (Rd.nil w' 5) capOk_nil
  have e:((scrL [] 0).map Value.string) = [.string (strB (rowB [] 0 0)),.string (strB (rowB [] 0 1)),.string (strB (rowB [] 0 2)),.string (strB (rowB [] 0 3)),.string (strB (rowB [] 0 4)),.string (strB (rowB [] 0 5)),.string (strB (rowB [] 0 6)),.string (strB (rowB [] 0 7))]:=rfl
  rw [e] at hsh ⊢
  refine givesV_of_tr Tryz.func69 rfl rfl ?_
  (refine s_r ?_;refine tr_new (rk_alloc rfl) rfl (fun _ _=>?_);refine n_r ?_;refine tr_callV (rk_call (.of rfl) (.cons (.of rfl) (.cons (.of rfl) .nil)) inferInstance normc_) rfl (fun w' hm'=>(hsh w')) ?_;refine tr_store (.of rfl) (.of rfl) .here rfl rfl (okc_cons rfl (okc_cons rfl (okc_cons rfl (okc_cons rfl (okc_cons rfl (okc_cons rfl (okc_cons rfl (okc_cons rfl okc_nil)))))))) (lenb rfl) norm_ ?_;refine n_t ?_;refine tr_ret ?_;refine tr_retE rfl (ends1cB rfl inferInstance rfl .here norm_ (by rfl)) ?_)
  rfl
end Go.Proofs.A1
namespace Go.Proofs.A1
open Go Go.SL
def upE (at' next n:Int):Int:=if at' < n ∧ (next < 0 ∨ n < next) then n else next
def nxE (l:List Cp) (at':Int) (k:Nat):Int:=(l.take k).foldl (fun next x=>upE at' (upE at' next x.fr) x.to) (-1)
theorem nxE_zero (l:List Cp) (at':Int):nxE l at' 0 = -1:=rfl
theorem nxE_succ {l:List Cp} (at':Int) {k:Nat} (h:k < l.length):nxE l at' (k + 1) = upE at' (upE at' (nxE l at' k) l[k].fr) l[k].to:=by
  unfold nxE;rw [List.take_succ_eq_append_getElem h,List.foldl_append];rfl
structure NxE (l:List Cp) (at':Int) (k:Nat) (n:Int):Prop where
  no:n < 0 → n = -1 ∧ ∀ i (h:i < l.length),i < k → l[i].fr ≤ at' ∧ l[i].to ≤ at'
  yes:0 ≤ n → at' < n ∧ (∃ i,∃ h:i < l.length,i < k ∧ (l[i].fr = n ∨ l[i].to = n)) ∧ ∀ i (h:i < l.length),i < k → (at' < l[i].fr → n ≤ l[i].fr) ∧ (at' < l[i].to → n ≤ l[i].to)
theorem nxE_is {l:List Cp} (hpos:∀ i (h:i < l.length),0 ≤ l[i].fr ∧ 0 ≤ l[i].to) {at':Int} (hat:-1 ≤ at'):∀ k,k ≤ l.length → NxE l at' k (nxE l at' k)
  | 0,_=>⟨fun _=>⟨rfl,fun i _ h=>absurd h (by omega)⟩,fun h=>absurd h (by rw [nxE_zero];decide)⟩
  | k + 1, hk => by
    have hlt:k < l.length:=by omega
    have ih:=nxE_is hpos hat k (by omega)
    have hp:=hpos k hlt
    rw [nxE_succ at' hlt]
    generalize nxE l at' k = m at ih
    have key:∀ i (h:i < l.length),i < k + 1 → i < k ∨ i = k:=fun i _ h=>by omega
    unfold upE
    by_cases h1:at' < l[k].fr ∧ (m < 0 ∨ l[k].fr < m)
    · rw [if_pos h1]
      by_cases h2:at' < l[k].to ∧ (l[k].fr < 0 ∨ l[k].to < l[k].fr)
      · rw [if_pos h2]
        refine ⟨fun h=>absurd h (by omega),fun _=>⟨h2.1,⟨k,hlt,by omega,.inr rfl⟩,fun i h hik=>?_⟩⟩
        rcases key i h hik with e | rfl
        · by_cases hm:m < 0
          · have:=(ih.no hm).2 i h e;omega
          · have:=(ih.yes (by omega)).2.2 i h e;omega
        · omega
      · rw [if_neg h2]
        refine ⟨fun h=>absurd h (by omega),fun _=>⟨h1.1,⟨k,hlt,by omega,.inl rfl⟩,fun i h hik=>?_⟩⟩
        rcases key i h hik with e | rfl
        · by_cases hm:m < 0
          · have:=(ih.no hm).2 i h e;omega
          · have:=(ih.yes (by omega)).2.2 i h e;omega
        · omega
    · rw [if_neg h1]
      by_cases h2:at' < l[k].to ∧ (m < 0 ∨ l[k].to < m)
      · rw [if_pos h2]
        refine ⟨fun h=>absurd h (by omega),fun _=>⟨h2.1,⟨k,hlt,by omega,.inr rfl⟩,fun i h hik=>?_⟩⟩
        rcases key i h hik with e | rfl
        · by_cases hm:m < 0
          · have:=(ih.no hm).2 i h e;omega
          · have:=(ih.yes (by omega)).2.2 i h e;omega
        · omega
      · rw [if_neg h2]
        refine ⟨fun h=>⟨(ih.no h).1,fun i hi hik=>?_⟩,fun h=>⟨(ih.yes h).1,?_,fun i hi hik=>?_⟩⟩
        · rcases key i hi hik with e | rfl
          · exact (ih.no h).2 i hi e
          · omega
        · obtain ⟨i,hi,hik,he⟩:=(ih.yes h).2.1
          exact ⟨i,hi,by omega,he⟩
        · rcases key i hi hik with e | rfl
          · exact (ih.yes h).2.2 i hi e
          · omega
end Go.Proofs.A1
namespace Go.Proofs.A1
open Go Go.SL
structure ChI (l:List Cp) (at':Int) (out:List Nat):Prop where
  inc:out.Pairwise (· < ·)
  mem:∀ n:Nat,n ∈ out ↔ ((n:Int) ≤ at' ∧ endB l (n:Int) = true ∧ chB l (n:Int) = true)
theorem chI_zero (l:List Cp):ChI l (-1) []:=⟨List.Pairwise.nil,fun n=>⟨fun h=>absurd h List.not_mem_nil,fun ⟨h,_⟩=>absurd h (by omega)⟩⟩
theorem chI_step {l:List Cp} {at':Int} {out:List Nat} (h:ChI l at' out) {m:Nat} (hm:at' < (m:Int)) (he:endB l (m:Int) = true) (hno:∀ n:Int,at' < n → n < (m:Int) → endB l n = false):ChI l (m:Int) (out++if chB l (m:Int) then [m] else []):=by
  refine ⟨?_,fun n=>?_⟩
  · rw [List.pairwise_append]
    refine ⟨h.inc,by split <;> simp,fun a ha b hb=>?_⟩
    have:=((h.mem a).1 ha).1
    split at hb
    · simp only [List.mem_singleton] at hb
      omega
    · cases hb
  · rw [List.mem_append,h.mem]
    constructor
    · rintro (⟨h1,h2⟩ | h1)
      · exact ⟨by omega,h2⟩
      · split at h1
        · rename_i hc
          simp only [List.mem_singleton] at h1
          subst h1
          exact ⟨by omega,he,hc⟩
        · cases h1
    · rintro ⟨h1,h2,h3⟩
      by_cases hle:(n:Int) ≤ at'
      · exact .inl ⟨hle,h2,h3⟩
      · by_cases hlt:(n:Int) < (m:Int)
        · rw [hno n (by omega) hlt] at h2;cases h2
        · have:n = m:=by omega
          subst this
          right;rw [if_pos h3];simp
theorem chI_end {l:List Cp} {at':Int} {out:List Nat} (h:ChI l at' out) (hno:∀ n:Int,at' < n → endB l n = false):out = chL l:=by
  refine inc_uniq h.inc (chL_inc l) fun n=>?_
  rw [h.mem,chL_mem]
  refine ⟨fun x=>x.2,fun x=>⟨?_,x⟩⟩
  by_cases hle:(n:Int) ≤ at'
  · exact hle
  · rw [hno n (by omega)] at x;cases x.1
theorem scr_before {l:List Cp} (h:CapOk l):scrL l (-1) = scrL [] 0:=by
  unfold scrL rowB
  refine List.map_congr_left fun r _=>?_
  congr 1
  refine List.map_congr_left fun k _=>?_
  rw [shB_none fun x hx=>by
    obtain ⟨j,hj,rfl⟩:=List.getElem_of_mem hx
    have:=(h.ok j hj).sp
    rw [nthC_get hj] at this
    omega]
  rfl
end Go.Proofs.A1
namespace Go.Proofs.A1
open Go Go.SL
theorem end_t {l:List Cp} {n:Int} (h:∃ i,∃ h:i < l.length,l[i].fr = n ∨ l[i].to = n):endB l n = true:=by
  obtain ⟨i,hi,h⟩:=h
  unfold endB
  rw [List.any_eq_true]
  exact ⟨l[i],List.getElem_mem hi,by simpa using h⟩
theorem end_f {l:List Cp} {n:Int} (h:∀ i (h:i < l.length),l[i].fr ≠ n ∧ l[i].to ≠ n):endB l n = false:=by
  unfold endB
  rw [List.any_eq_false]
  intro x hx
  obtain ⟨i,hi,rfl⟩:=List.getElem_of_mem hx
  have:=h i hi
  simp [this.1,this.2]
set_option maxHeartbeats 4000000 in
theorem chgQ_c {lv:Value} {l:List Cp} {w:World} (h:Rd w lv 5 (cps l)) (hok:CapOk l) :
    Gives Tryz.prog 66 [lv] w [] (fun _:Value=>True) id (fun v=>[row 3 1 v (chL l).length (natsV (chL l))]):=by
  have hrd:=h
  have hfew:=hok.few
  obtain ⟨a,cp,b,o,rfl,hcap,hmax,ha,hc⟩:=h
  rw [cps_length] at *
  unfold maxLen at hmax
  have hpos:∀ i (h:i < l.length),0 ≤ l[i].fr ∧ 0 ≤ l[i].to:=fun i hi=>by
    have:=(hok.ok i hi).sp
    rw [nthC_get hi] at this
    omega
  have htop:∀ i (h:i < l.length),l[i].fr ≤ 10000000 ∧ l[i].to ≤ 10000000:=fun i hi=>by
    have:=(hok.ok i hi).sp
    rw [nthC_get hi] at this
    omega
  refine gives_of_tr Tryz.func66 rfl rfl ?_
  (refine s_r ?_;refine a_s rfl rfl ?_;refine n_r ?_;refine a_s rfl rfl ?_;refine n_r ?_;refine a_s rfl rfl ?_;refine n_t ?_;refine tr_block ?_)
  refine tr_rowNil 3 1 ?_
  refine tr_for (ι:=Int × List Nat × Value) (fun x=>(-1 ≤ x.1 ∧ x.1 ≤ 10000000) ∧ ChI l x.1 x.2.1 ∧ x.2.1.length ≤ (x.1 + 1).toNat) (fun x=>[(4,.int .i64 x.1),(0,.slice a l.length cp),(3,x.2.2)]) (fun x=>[row 3 1 x.2.2 x.2.1.length (natsV x.2.1)]) (fun x=>(10000001 - x.1).toNat) ?_ ?_
  · apply tr_start ((-1:Int),([]:List Nat),.slice none 0 0) ⟨⟨by decide,by decide⟩,chI_zero l,by decide⟩
    case hs1=>exact .cons rfl (.cons rfl (.cons rfl .nil))
    case ht=>
      show Takes _ [row 3 1 (.slice none 0 0) 0 []] _
      exact .cons .here .nil
  rintro ⟨at',out,v⟩ ⟨⟨hat,hat2⟩,hI,hol⟩
  dsimp only at hat hat2 hI hol ⊢
  (refine tr_block ?_;refine s_r ?_;refine a_s rfl rfl ?_;refine n_t ?_;refine tr_seq ?_;refine s_r ?_;refine a_s rfl rfl ?_;refine n_t ?_;refine tr_block ?_)
  refine tr_for (fun k:Nat=>k ≤ l.length) (fun k=>[(6,.int .i64 k),(5,.int .i64 (nxE l at' k)),(4,.int .i64 at'),(0,.slice a l.length cp),(3,v)]) (fun _=>[row 3 1 v out.length (natsV out)]) (fun k=>l.length - k) ?_ ?_
  · apply tr_start 0 (show (0:Nat) ≤ l.length from Nat.zero_le _)
    case hs1=>exact .cons rfl (.cons rfl (.cons rfl (.cons rfl (.cons rfl .nil))))
    case ht=>exact .cons .here .nil
  intro k hk
  by_cases hlt:k < l.length
  · have ha':=ha (cps_ne hlt)
    have hcell:=(hc k _ (cps_get hlt)).2
    have c0:w.cell? ⟨b,o + k * 5,none⟩ = some (.int .i64 l[k].fr):=hcell 0 _ rfl
    have c1:w.cell? ⟨b,o + k * 5 + 1,none⟩ = some (.int .i64 l[k].to):=hcell 1 _ rfl
    have hs:=nxE_succ at' hlt
    generalize nxE l at' k = m at hs
    generalize l[k].fr = f at c0 hs
    generalize l[k].to = t at c1 hs
    (refine tr_seq ?_;refine s_r ?_;refine m_v rfl rfl ?_;refine m_v rfl rfl ?_;refine tr_val (rk_len_slice (.of rfl)) rfl ?_;refine tr_val (rk_lss (.of rfl) (.of rfl)) rfl ?_;refine n_t ?_;refine c_d rfl (fun hcd=>?_) (fun _=>by omega);refine s_t ?_;refine tr_seq ?_;refine tr_block ?_;refine tr_seq ?_)
    with_reducible refine tr_draw 14 (by kernel_rfl) ?_
    (refine a_m rfl rfl ?_;refine a_m rfl rfl ?_;refine any_val (rk_indexAddr (.of rfl) (.of rfl) ha' (by omega) hcd norm1_) rfl ?_;refine a_f rfl rfl norm0_ ?_;refine a_f rfl rfl norm0_ ?_;refine any_val (rk_load1 (.of rfl) (At.base c0 rfl)) rfl ?_;refine a_m rfl rfl ?_;refine a_m rfl rfl ?_;refine any_val (rk_indexAddr (.of rfl) (.of rfl) ha' (by omega) hcd norm1_) rfl ?_;refine a_f rfl rfl norm0_ ?_;refine a_f rfl rfl norm0_ ?_;refine any_val (rk_load1 (.of rfl) (At.base c1 rfl)) rfl ?_;refine any_val (rk_buildL (.cons (.of rfl) (.cons (.of rfl) .nil)) norm_) rfl ?_;refine a_m rfl rfl ?_)
    with_reducible refine any_end ?_
    (refine n_t ?_;refine tr_block ?_)
    refine tr_for (fun j:Nat=>j ≤ 2) (fun j=>[(29,.int .i64 j),(5,.int .i64 (if j = 0 then m else if j = 1 then upE at' m f else upE at' (upE at' m f) t)),(28,.agg #[.int .i64 f,.int .i64 t]),(6,.int .i64 k),(4,.int .i64 at'),(0,.slice a l.length cp),(3,v)]) (fun _=>[row 3 1 v out.length (natsV out)]) (fun j=>2 - j) ?_ ?_
    · apply tr_start 0 (show (0:Nat) ≤ 2 by omega)
      case hs1=>exact .cons rfl (.cons rfl (.cons rfl (.cons rfl (.cons rfl (.cons rfl (.cons rfl .nil))))))
      case ht=>exact .cons .here .nil
    intro j hj
    by_cases hlj:j < 2
    · obtain rfl | rfl:j = 0 ∨ j = 1:=by omega
      · show Tr _ [] [(29,.int .i64 0),(5,.int .i64 m),(28,.agg #[.int .i64 f,.int .i64 t]),(6,.int .i64 k),(4,.int .i64 at'),(0,.slice a l.length cp),(3,v)] _ _
        have hu:upE at' m f = if at' < f ∧ (m < 0 ∨ f < m) then f else m:=rfl
        (refine s_r ?_;refine tr_val (rk_lss (.of rfl) (.of rfl)) rfl ?_;refine n_t ?_;refine tr_seq ?_;refine c_d rfl (fun hcd=>?_) (fun _=>by omega);refine s_t ?_;refine tr_seq ?_;refine tr_block ?_;refine s_r ?_;refine tr_val (rk_index (.of rfl) (.of rfl) (by omega) hcd norm_) rfl ?_;refine a_s rfl rfl ?_;refine n_r ?_;refine m_v rfl rfl ?_;refine m_v rfl rfl ?_;refine tr_val (rk_gtr (.of rfl) (.of rfl)) rfl ?_;refine m_v rfl rfl ?_;refine v_g rfl rfl rfl rfl ?_;refine tr_vG1 rfl rfl inferInstance (fun hg hgp=>(rk_lss (.ofg hg rfl) (.of rfl))) rfl ?_;refine tr_vG1 rfl rfl inferInstance (fun hg hgp=>(rk_move (.ofg hg rfl))) rfl ?_;refine tr_vG rfl rfl inferInstance (fun hg hgp=>(rk_move (.of rfl))) rfl ?_;refine tr_vG rfl rfl inferInstance (fun hg hgp=>(rk_move (.of rfl))) rfl ?_;refine tr_vG rfl rfl inferInstance (fun hg hgp=>(rk_lss (.ofg hg rfl) (.ofg hg rfl))) rfl ?_;refine tr_vG1 rfl rfl inferInstance (fun hg hgp=>(rk_pick_or' hg (.ofg hg rfl) rfl)) rfl ?_;refine tr_val (rk_pick_and (.of rfl) rfl) rfl ?_;refine n_t ?_;refine c_b rfl (fun hcd=>?_) (fun hcd=>?_);refine tr_region ?_;refine m_v rfl rfl ?_;refine a_s rfl rfl ?_;refine tr_nil ?_;refine tr_blk_normal ?_;refine tr_then ?_;refine tr_region ?_;refine tr_val (rk_add (.of rfl) (.of rfl) (ini (by omega))) rfl ?_;refine m_v rfl rfl ?_;refine n_t ?_;rotate_left;refine tr_skip ?_;refine tr_blk_normal ?_;refine tr_then ?_;refine tr_region ?_;refine tr_val (rk_add (.of rfl) (.of rfl) (ini (by omega))) rfl ?_;refine m_v rfl rfl ?_;refine n_t ?_;rotate_right)
        · rw [if_pos hcd] at hu
          apply tr_next (Φ:=fun j:Nat=>j ≤ 2) 1 (show 1 ≤ 2 from of_decide_eq_true rfl) (by show 2 - 1 < 2 - 0;omega)
          case hs1=>
            show Subs _ [(29,.int .i64 1),(5,.int .i64 (upE at' m f)),(28,.agg #[.int .i64 f,.int .i64 t]),(6,.int .i64 k),(4,.int .i64 at'),(0,.slice a l.length cp),(3,v)]
            rw [hu]
            exact .cons rfl (.cons rfl (.cons rfl (.cons rfl (.cons rfl (.cons rfl (.cons rfl .nil))))))
          case ht=>exact .cons .here .nil
        · rw [if_neg (by omega)] at hu
          apply tr_next (Φ:=fun j:Nat=>j ≤ 2) 1 (show 1 ≤ 2 from of_decide_eq_true rfl) (by show 2 - 1 < 2 - 0;omega)
          case hs1=>
            show Subs _ [(29,.int .i64 1),(5,.int .i64 (upE at' m f)),(28,.agg #[.int .i64 f,.int .i64 t]),(6,.int .i64 k),(4,.int .i64 at'),(0,.slice a l.length cp),(3,v)]
            rw [hu]
            exact .cons rfl (.cons rfl (.cons rfl (.cons rfl (.cons rfl (.cons rfl (.cons rfl .nil))))))
          case ht=>exact .cons .here .nil
      · show Tr _ [] [(29,.int .i64 1),(5,.int .i64 (upE at' m f)),(28,.agg #[.int .i64 f,.int .i64 t]),(6,.int .i64 k),(4,.int .i64 at'),(0,.slice a l.length cp),(3,v)] _ _
        generalize upE at' m f = m2 at hs
        have hu:upE at' m2 t = if at' < t ∧ (m2 < 0 ∨ t < m2) then t else m2:=rfl
        (refine s_r ?_;refine tr_val (rk_lss (.of rfl) (.of rfl)) rfl ?_;refine n_t ?_;refine tr_seq ?_;refine c_d rfl (fun hcd=>?_) (fun _=>by omega);refine s_t ?_;refine tr_seq ?_;refine tr_block ?_;refine s_r ?_;refine tr_val (rk_index (.of rfl) (.of rfl) (by omega) hcd norm_) rfl ?_;refine a_s rfl rfl ?_;refine n_r ?_;refine m_v rfl rfl ?_;refine m_v rfl rfl ?_;refine tr_val (rk_gtr (.of rfl) (.of rfl)) rfl ?_;refine m_v rfl rfl ?_;refine v_g rfl rfl rfl rfl ?_;refine tr_vG1 rfl rfl inferInstance (fun hg hgp=>(rk_lss (.ofg hg rfl) (.of rfl))) rfl ?_;refine tr_vG1 rfl rfl inferInstance (fun hg hgp=>(rk_move (.ofg hg rfl))) rfl ?_;refine tr_vG rfl rfl inferInstance (fun hg hgp=>(rk_move (.of rfl))) rfl ?_;refine tr_vG rfl rfl inferInstance (fun hg hgp=>(rk_move (.of rfl))) rfl ?_;refine tr_vG rfl rfl inferInstance (fun hg hgp=>(rk_lss (.ofg hg rfl) (.ofg hg rfl))) rfl ?_;refine tr_vG1 rfl rfl inferInstance (fun hg hgp=>(rk_pick_or' hg (.ofg hg rfl) rfl)) rfl ?_;refine tr_val (rk_pick_and (.of rfl) rfl) rfl ?_;refine n_t ?_;refine c_b rfl (fun hcd=>?_) (fun hcd=>?_);refine tr_region ?_;refine m_v rfl rfl ?_;refine a_s rfl rfl ?_;refine tr_nil ?_;refine tr_blk_normal ?_;refine tr_then ?_;refine tr_region ?_;refine tr_val (rk_add (.of rfl) (.of rfl) (ini (by omega))) rfl ?_;refine m_v rfl rfl ?_;refine n_t ?_;rotate_left;refine tr_skip ?_;refine tr_blk_normal ?_;refine tr_then ?_;refine tr_region ?_;refine tr_val (rk_add (.of rfl) (.of rfl) (ini (by omega))) rfl ?_;refine m_v rfl rfl ?_;refine n_t ?_;rotate_right)
        · rw [if_pos hcd] at hu
          apply tr_next (Φ:=fun j:Nat=>j ≤ 2) 2 (show 2 ≤ 2 from of_decide_eq_true rfl) (by show 2 - 2 < 2 - 1;omega)
          case hs1=>
            show Subs _ [(29,.int .i64 2),(5,.int .i64 (upE at' m2 t)),(28,.agg #[.int .i64 f,.int .i64 t]),(6,.int .i64 k),(4,.int .i64 at'),(0,.slice a l.length cp),(3,v)]
            rw [hu]
            exact .cons rfl (.cons rfl (.cons rfl (.cons rfl (.cons rfl (.cons rfl (.cons rfl .nil))))))
          case ht=>exact .cons .here .nil
        · rw [if_neg (by omega)] at hu
          apply tr_next (Φ:=fun j:Nat=>j ≤ 2) 2 (show 2 ≤ 2 from of_decide_eq_true rfl) (by show 2 - 2 < 2 - 1;omega)
          case hs1=>
            show Subs _ [(29,.int .i64 2),(5,.int .i64 (upE at' m2 t)),(28,.agg #[.int .i64 f,.int .i64 t]),(6,.int .i64 k),(4,.int .i64 at'),(0,.slice a l.length cp),(3,v)]
            rw [hu]
            exact .cons rfl (.cons rfl (.cons rfl (.cons rfl (.cons rfl (.cons rfl (.cons rfl .nil))))))
          case ht=>exact .cons .here .nil
    · obtain rfl:j = 2:=by omega
      show Tr _ [] [(29,.int .i64 2),(5,.int .i64 (upE at' (upE at' m f) t)),(28,.agg #[.int .i64 f,.int .i64 t]),(6,.int .i64 k),(4,.int .i64 at'),(0,.slice a l.length cp),(3,v)] _ _
      rw [← hs]
      (refine s_r ?_;refine tr_val (rk_lss (.of rfl) (.of rfl)) rfl ?_;refine n_t ?_;refine tr_seq ?_;refine c_d rfl (fun _=>by omega) (fun hcd=>?_);refine x_t ?_;refine tr_then_exit ?_;refine tr_blk_exit ?_;refine tr_blk_normal ?_;refine tr_then ?_;refine tr_region ?_;refine m_v rfl rfl ?_;refine tr_val (rk_add (.of rfl) (.of rfl) (ini (by omega))) rfl ?_;refine a_s rfl rfl ?_;refine n_t ?_)
      apply tr_next (k + 1) (show k + 1 ≤ l.length from hlt) (show l.length - (k + 1) < l.length - k by omega)
      case hs1=>exact .cons rfl (.cons rfl (.cons rfl (.cons rfl (.cons rfl .nil))))
      case ht=>exact .cons .here .nil
  · obtain rfl:k = l.length:=by omega
    have hN:=nxE_is hpos hat l.length (Nat.le_refl _)
    generalize nxE l at' l.length = nx at hN
    (refine tr_seq ?_;refine s_r ?_;refine m_v rfl rfl ?_;refine m_v rfl rfl ?_;refine tr_val (rk_len_slice (.of rfl)) rfl ?_;refine tr_val (rk_lss (.of rfl) (.of rfl)) rfl ?_;refine n_t ?_;refine c_d rfl (fun _=>by omega) (fun hcd=>?_);refine x_t ?_;refine tr_then_exit ?_;refine tr_blk_exit ?_;refine tr_then ?_;refine tr_seq ?_;refine s_r ?_;refine m_v rfl rfl ?_;refine tr_val (rk_lss (.of rfl) (.of rfl)) rfl ?_;refine n_t ?_;refine c_d rfl (fun hcd=>?_) (fun hcd=>?_);refine s_r ?_;refine m_v rfl rfl ?_;refine a_s rfl rfl ?_;refine n_t ?_;refine r_t ?_;refine tr_blk_ret ?_;refine tr_then_ret ?_;refine tr_blk_ret ?_;rotate_left;refine s_t ?_;refine s_r ?_;rotate_right)
    · have hno:∀ n:Int,at' < n → endB l n = false:=fun n hn=>end_f fun i hi=>by
        have:=(hN.no hcd).2 i hi hi
        omega
      rw [← chI_end hI hno]
      first | with_reducible apply tr_retM | with_reducible apply tr_endM
      case he=>exact ends1 rfl rfl
      case hR=>
        intro w' hm'
        exact gives_end v trivial (by exact .cons .here .nil) hm' rfl
    obtain ⟨hnx,⟨ie,hie,_,hee⟩,hmin⟩:=hN.yes (by omega)
    have hen:=end_t ⟨ie,hie,hee⟩
    have hnx2:nx ≤ 10000000:=by have:=htop ie hie;omega
    have hnb:∀ n:Int,at' < n → n < nx → endB l n = false:=fun n h1 h2=>end_f fun i hi=>by
      have:=hmin i hi hi
      omega
    obtain ⟨m,rfl⟩:∃ m:Nat,nx = m:=⟨nx.toNat,by omega⟩
    have hst:=chI_step hI hnx hen hnb
    have hch:chB l (m:Int) = decide (scrL l (m:Int) ≠ scrL l ((m:Int) - 1)):=rfl
    have hbl:=scr_before hok
    have hbq:∀ w',GivesV Tryz.prog 69 [] w' (.agg ((scrL [] 0).map Value.string).toArray):=fun w'=>blankQ_c w'
    have hs1:∀ w',Keeps [] w w' → GivesV Tryz.prog 65 [.slice a l.length cp,.int .i64 ((m:Int) - 1)] w' (.agg ((scrL l ((m:Int) - 1)).map Value.string).toArray):=fun w' hk=>shownQ_c (hrd.keeps hk) hok
    have hs2:∀ w',Keeps [] w w' → GivesV Tryz.prog 65 [.slice a l.length cp,.int .i64 (m:Int)] w' (.agg ((scrL l (m:Int)).map Value.string).toArray):=fun w' hk=>shownQ_c (hrd.keeps hk) hok
    have hm1:(m:Int) = 0 → scrL l ((m:Int) - 1) = scrL [] 0:=fun h=>by rw [h];exact hbl
    obtain ⟨z0,z1,z2,z3,z4,z5,z6,z7,hz⟩:∃ z0 z1 z2 z3 z4 z5 z6 z7:ByteArray,scrL [] 0 = [z0,z1,z2,z3,z4,z5,z6,z7]:=⟨_,_,_,_,_,_,_,_,rfl⟩
    obtain ⟨p0,p1,p2,p3,p4,p5,p6,p7,hp⟩:∃ p0 p1 p2 p3 p4 p5 p6 p7:ByteArray,scrL l ((m:Int) - 1) = [p0,p1,p2,p3,p4,p5,p6,p7]:=⟨_,_,_,_,_,_,_,_,rfl⟩
    obtain ⟨q0,q1,q2,q3,q4,q5,q6,q7,hq⟩:∃ q0 q1 q2 q3 q4 q5 q6 q7:ByteArray,scrL l (m:Int) = [q0,q1,q2,q3,q4,q5,q6,q7]:=⟨_,_,_,_,_,_,_,_,rfl⟩
    rw [hz] at hbq hm1
    rw [hp] at hs1 hm1 hch
    rw [hq] at hs2 hch
    dsimp only [List.map] at hbq hs1 hs2
    have hc2:(!(decide (q0 = p0) && (decide (q1 = p1) && (decide (q2 = p2) && (decide (q3 = p3) && (decide (q4 = p4) && (decide (q5 = p5) && (decide (q6 = p6) && (decide (q7 = p7) && true))))))))) = chB l (m:Int):=by
      rw [hch,decide_not]
      congr 1
      rw [Bool.eq_iff_iff]
      simp only [Bool.and_eq_true,decide_eq_true_eq,and_true]
      simp only [List.cons.injEq,and_true]
    clear hch hz hp hq hN hmin hnb hbl
    have hml:out.length ≤ 10000001:=by omega
    (refine tr_callV (rk_call (.of rfl) .nil inferInstance normc_) rfl (fun w' hm'=>(hbq w')) ?_;refine tr_new (rk_alloc rfl) rfl (fun _ _=>?_);refine tr_store (.of rfl) (.of rfl) .here rfl rfl (okc_cons rfl (okc_cons rfl (okc_cons rfl (okc_cons rfl (okc_cons rfl (okc_cons rfl (okc_cons rfl (okc_cons rfl okc_nil)))))))) (lenb rfl) norm_ ?_;refine n_t ?_;refine tr_seq ?_;refine s_r ?_;refine m_v rfl rfl ?_;refine tr_val (rk_gtr (.of rfl) (.of rfl)) rfl ?_;refine n_t ?_;refine c_d rfl (fun hcd=>?_) (fun hcd=>?_);refine tr_region ?_;refine m_v rfl rfl ?_;refine m_v rfl rfl ?_;refine tr_val (rk_sub (.of rfl) (.of rfl) (ini (by omega))) rfl ?_;refine tr_callV (rk_call (.of rfl) (.cons (.of rfl) (.cons (.of rfl) .nil)) inferInstance normc_) rfl (fun w' hm'=>(hs1 w' (Mem.keeps hm'))) ?_;refine tr_store (.of rfl) (.of rfl) .here rfl rfl (okc_cons rfl (okc_cons rfl (okc_cons rfl (okc_cons rfl (okc_cons rfl (okc_cons rfl (okc_cons rfl (okc_cons rfl okc_nil)))))))) (lenb rfl) norm_ ?_;refine n_t ?_;refine tr_seq ?_;refine tr_seq ?_;rotate_left;refine s_t ?_;refine tr_seq ?_;refine tr_seq ?_;rotate_right)
    · clear hm1
      with_reducible refine tr_draw 5 (by kernel_rfl) ?_
      (refine a_m rfl rfl ?_;refine a_m rfl rfl ?_;refine any_call (rk_call (.of rfl) (.cons (.of rfl) (.cons (.of rfl) .nil)) inferInstance normc_) rfl (fun w' hm'=>(hs2 w' (Mem.keeps hm'))) ?_;refine any_val (rk_loadB (.of rfl) .here norm_ (by rfl)) rfl ?_;refine any_val (rk_neqA (.of rfl) (.of rfl) (okL_string (okL_string (okL_string (okL_string (okL_string (okL_string (okL_string (okL_string okL_nil)))))))) rfl) rfl ?_)
      with_reducible refine any_end ?_
      (refine n_t ?_;refine c_b rfl (fun hcd=>?_) (fun hcd=>?_);refine tr_region ?_;refine m_v rfl rfl ?_;refine m_v rfl rfl ?_;refine tr_new (rk_sliceLit (.cons (.of rfl) .nil) rfl rfl rfl rfl) rfl (fun _ _=>?_);rotate_left;refine s_t ?_;refine tr_region ?_;refine m_v rfl rfl ?_;refine a_s rfl rfl ?_;refine tr_nil ?_;refine tr_blk_normal ?_;refine tr_then ?_;rotate_right)
      · have hc:chB l (m:Int) = true:=by
          rw [← hc2]
          simp only [Bool.not_eq_true',Bool.and_eq_false_iff,decide_eq_false_iff_not]
          exact hcd
        rw [hc,if_pos rfl] at hst
        have hav:natsV (out++[m]) = natsV out++[.int .i64 (m:Nat)]:=by rw [natsV_app];rfl
        have hal:(out++[m]).length = out.length + 1:=by simp
        refine tr_appendB (.of rfl) (.of rfl) (.there (.there .here)) .here norm_ (by rfl) (okc_cons rfl okc_nil) (by rfl) (by rfl) (by rfl) lenx_ (by rfl) ?_
        intro v8
        (refine a_s rfl rfl ?_;refine n_t ?_;refine tr_region ?_;refine m_v rfl rfl ?_;refine a_s rfl rfl ?_;refine tr_nil ?_;refine tr_blk_normal ?_;refine tr_then ?_)
        apply tr_next ((m:Int),out++[m],v8) ⟨⟨by show -1 ≤ (m:Int);omega,hnx2⟩,hst,by show (out++[m]).length ≤ ((m:Int) + 1).toNat;omega⟩ (by show (10000001 - (m:Int)).toNat < (10000001 - at').toNat;omega)
        case hs1=>exact .cons rfl (.cons rfl (.cons rfl .nil))
        case ht=>
          show Takes _ [row 3 1 v8 (out++[m]).length (natsV (out++[m]))] _
          rw [hal,hav]
          exact .cons .here .nil
      · have hc:chB l (m:Int) = false:=by
          rw [← hc2]
          simpa using hcd
        rw [hc,if_neg (by decide),List.append_nil] at hst
        apply tr_next ((m:Int),out,v) ⟨⟨by show -1 ≤ (m:Int);omega,hnx2⟩,hst,by show out.length ≤ ((m:Int) + 1).toNat;omega⟩ (by show (10000001 - (m:Int)).toNat < (10000001 - at').toNat;omega)
        case hs1=>exact .cons rfl (.cons rfl (.cons rfl .nil))
        case ht=>exact .cons (.there .here) .nil
    · have e:=hm1 (by omega)
      simp only [List.cons.injEq,and_true] at e
      obtain ⟨rfl,rfl,rfl,rfl,rfl,rfl,rfl,rfl⟩:=e
      with_reducible refine tr_draw 5 (by kernel_rfl) ?_
      (refine a_m rfl rfl ?_;refine a_m rfl rfl ?_;refine any_call (rk_call (.of rfl) (.cons (.of rfl) (.cons (.of rfl) .nil)) inferInstance normc_) rfl (fun w' hm'=>(hs2 w' (Mem.keeps hm'))) ?_;refine any_val (rk_loadB (.of rfl) .here norm_ (by rfl)) rfl ?_;refine any_val (rk_neqA (.of rfl) (.of rfl) (okL_string (okL_string (okL_string (okL_string (okL_string (okL_string (okL_string (okL_string okL_nil)))))))) rfl) rfl ?_)
      with_reducible refine any_end ?_
      (refine n_t ?_;refine c_b rfl (fun hcd=>?_) (fun hcd=>?_);refine tr_region ?_;refine m_v rfl rfl ?_;refine m_v rfl rfl ?_;refine tr_new (rk_sliceLit (.cons (.of rfl) .nil) rfl rfl rfl rfl) rfl (fun _ _=>?_);rotate_left;refine s_t ?_;refine tr_region ?_;refine m_v rfl rfl ?_;refine a_s rfl rfl ?_;refine tr_nil ?_;refine tr_blk_normal ?_;refine tr_then ?_;rotate_right)
      · have hc:chB l (m:Int) = true:=by
          rw [← hc2]
          simp only [Bool.not_eq_true',Bool.and_eq_false_iff,decide_eq_false_iff_not]
          exact hcd
        rw [hc,if_pos rfl] at hst
        have hav:natsV (out++[m]) = natsV out++[.int .i64 (m:Nat)]:=by rw [natsV_app];rfl
        have hal:(out++[m]).length = out.length + 1:=by simp
        refine tr_appendB (.of rfl) (.of rfl) (.there (.there .here)) .here norm_ (by rfl) (okc_cons rfl okc_nil) (by rfl) (by rfl) (by rfl) lenx_ (by rfl) ?_
        intro v8
        (refine a_s rfl rfl ?_;refine n_t ?_;refine tr_region ?_;refine m_v rfl rfl ?_;refine a_s rfl rfl ?_;refine tr_nil ?_;refine tr_blk_normal ?_;refine tr_then ?_)
        apply tr_next ((m:Int),out++[m],v8) ⟨⟨by show -1 ≤ (m:Int);omega,hnx2⟩,hst,by show (out++[m]).length ≤ ((m:Int) + 1).toNat;omega⟩ (by show (10000001 - (m:Int)).toNat < (10000001 - at').toNat;omega)
        case hs1=>exact .cons rfl (.cons rfl (.cons rfl .nil))
        case ht=>
          show Takes _ [row 3 1 v8 (out++[m]).length (natsV (out++[m]))] _
          rw [hal,hav]
          exact .cons .here .nil
      · have hc:chB l (m:Int) = false:=by
          rw [← hc2]
          simpa using hcd
        rw [hc,if_neg (by decide),List.append_nil] at hst
        apply tr_next ((m:Int),out,v) ⟨⟨by show -1 ≤ (m:Int);omega,hnx2⟩,hst,by show out.length ≤ ((m:Int) + 1).toNat;omega⟩ (by show (10000001 - (m:Int)).toNat < (10000001 - at').toNat;omega)
        case hs1=>exact .cons rfl (.cons rfl (.cons rfl .nil))
        case ht=>exact .cons (.there .here) .nil
end Go.Proofs.A1
namespace Go.Proofs.A1
open Go Go.SL
end Go.Proofs.A1
namespace Go.Proofs.A1
open Go Go.SL
end Go.Proofs.A1
