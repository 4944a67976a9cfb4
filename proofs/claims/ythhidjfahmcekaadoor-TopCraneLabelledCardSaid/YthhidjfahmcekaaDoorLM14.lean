/- Parts of the proof: DS13 DS14 DW1 UMp DV1 DV2 DV3 UQp DVp DV4 DX1. -/
import Derived.Test.YthhidjfahmcekaaDoorLM13
import Derived.Test.YthhidjfahmcekaaDoorLM06
import Derived.Test.YthhidjfahmcekaaDoorLM05
import Derived.Test.YthhidjfahmcekaaDoorLM01
import Derived.Test.YthhidjfahmcekaaDoorLM11
import Derived.Test.YthhidjfahmcekaaDoorLM10
import Derived.Test.YthhidjfahmcekaaDoorLM09
import Derived.Test.YthhidjfahmcekaaDoorLM07
set_option linter.unusedSectionVars false
set_option linter.unusedVariables false
set_option linter.unusedSimpArgs false
namespace Go.Proofs.A1
open Go Go.SL
def spV (es:List En) (k:Nat):List Value:=(spL es k).flatMap duoV
theorem spV_succ (es:List En) (k:Nat):spV es (k + 1) = spV es k++[.int .i64 (fr es k),.int .i64 (to es k)]:=by
  unfold spV;rw [spL_succ,List.flatMap_append];rfl
theorem spV_length (es:List En):∀ k,(spV es k).length = k * 2
  | 0=>rfl
  | k + 1=>by rw [spV_succ,List.length_append,spV_length es k];simp;omega
theorem spV_at {es:List En} {i j:Nat} (hj:j < 2):∀ {n:Nat} (cur:List Value),i < n → (spV es n++cur)[i * 2 + j]? = ([.int .i64 (fr es i),.int .i64 (to es i)]:List Value)[j]?
  | 0,_,h=>by omega
  | n + 1, cur, h => by
    rw [spV_succ,List.append_assoc]
    by_cases e:i = n
    · subst e
      have h1:=spV_length es i
      rw [List.getElem?_append_right (by omega),h1,show i * 2 + j - i * 2 = j by omega,List.getElem?_append_left (by simpa using hj)]
    · exact spV_at hj _ (by omega)
def tqL (es:List En):List (Int × Int):=if errE (e2At es) es.length = 0 then spL es es.length else []
theorem fr0 {es:List En} (h:¬ (nth es 0).kd = sFol) (ht:0 ≤ (nth es 0).tm):fr es 0 = (nth es 0).tm:=by
  rw [fr,frm,if_neg h]
  split
  · rw [jn];omega
  · rfl
theorem frS (es:List En) (k:Nat):fr es (k + 1) = frm (nth es (k + 1)).kd (nth es (k + 1)).tm (to es k - (nth es k).ov):=rfl
set_option maxHeartbeats 1000000 in
theorem timesQ_c {sv:Value} {es:List En} {w:World} (h1:Rd w sv 6 (ensL es)) (hok:∀ k,k < es.length → EnOk (nth es k)) (hfew:es.length ≤ 24) (hnf:0 < es.length → ¬ (nth es 0).kd = sFol) :
    Gives Tryd.prog 76 [.agg #[sv]] w [] (fun _:Value=>True) (fun v=>.tuple #[v,.int .i64 (errE (e2At es) es.length)]) (fun v=>[row 23 2 v (tqL es).length ((tqL es).flatMap duoV)]):=by
  obtain ⟨a,cap,b,o,rfl,hcap,hmax,ha,hc⟩:=h1
  rw [ensL_length] at *
  unfold maxLen at hmax
  refine gives_of_tr Tryd.func76 rfl rfl ?_
  (refine s_r ?_;refine tr_new (rk_box (.of rfl) rfl) rfl (fun _ _=>?_);refine a_s rfl rfl ?_;refine a_s rfl rfl ?_;refine n_r ?_;refine a_s rfl rfl ?_;refine n_t ?_;refine tr_seq ?_;refine s_r ?_;refine a_s rfl rfl ?_;refine n_t ?_;refine tr_block ?_)
  rename_i b1 hb1
  refine tr_rowNil 23 2 ?_
  refine tr_for (ι:=Nat × Value) (fun x=>x.1 ≤ es.length ∧ ∀ i,i < x.1 → e2At es i = 0) (fun x=>[(5,.int .i64 x.1),(4,x.2),(1,.pointer (some ⟨b1,0,none⟩))])
    (fun x=>[row 23 2 x.2 x.1 (spV es x.1),blk b1 (.cells #[.slice a es.length cap] 57 (0,0))]) (fun x=>es.length - x.1) ?_ ?_
  · apply tr_start (0,.slice none 0 0) ⟨by omega,fun i h=>by omega⟩
    case hs1=>exact .cons rfl (.cons rfl (.cons rfl .nil))
    case ht=>
      show Takes _ [row 23 2 (.slice none 0 0) 0 [],_] _
      exact .cons .here (.cons .here .nil)
  rintro ⟨n,v⟩ ⟨hn,hz⟩
  dsimp only at hn hz ⊢
  by_cases hlt:n < es.length
  · have ha':=ha (ensL_ne hlt)
    have hcell:=(hc n _ (ensL_get hlt)).2
    have ho:=hok n hlt
    have hfr:=fr_in hok hlt
    have h15:badAt es n = true → errE (e2At es) es.length = 15:=fun h=>by
      have:e2At es n = 15:=by simp [e2At,h,whenF,firstF]
      rw [errE_bad hz hlt (by rw [this];decide),this]
    have h4:badAt es n = false → 10000000 < to es n → errE (e2At es) es.length = 4:=fun h h'=>by
      have:e2At es n = 4:=by simp [e2At,h,h',whenF,firstF]
      rw [errE_bad hz hlt (by rw [this];decide),this]
    have h0:badAt es n = false → ¬ 10000000 < to es n → ∀ i,i < n + 1 → e2At es i = 0:=fun h h' i hi=>by
      by_cases e:i = n
      · rw [e];simp [e2At,h,h',whenF,firstF]
      · exact hz i (by omega)
    unfold En.cells at hcell
    by_cases hn0:0 < n
    · refine tr_rowOpen (by exact .here) hn0 fun g cap' cur e hcap' hmx' hsz' hl'=>?_
      subst e
      have q1:(spV es n++cur)[((n:Int) - 1).toNat * 2 + 1]? = some (.int .i64 (to es (n - 1))):=by
        rw [show ((n:Int) - 1).toNat = n - 1 by omega];exact spV_at (by omega) cur (by omega)
      have q0:(spV es n++cur)[((n:Int) - 1).toNat * 2]? = some (.int .i64 (fr es (n - 1))):=by
        rw [show ((n:Int) - 1).toNat = n - 1 by omega];exact spV_at (j:=0) (by omega) cur (by omega)
      have q2:(spV es n++cur)[(max 0 ((n:Int) - 2)).toNat * 2 + 1]? = some (.int .i64 (to es (n - 2))):=by
        rw [show (max 0 ((n:Int) - 2)).toNat = n - 2 by omega];exact spV_at (by omega) cur (by omega)
      have p1:w.cell? ⟨b,o + ((n:Int) - 1).toNat * 6 + 5,none⟩ = some (.int .i64 (nth es (n - 1)).ov):=by
        rw [show ((n:Int) - 1).toNat = n - 1 by omega];exact (hc (n - 1) _ (ensL_get (by omega))).2 5 _ rfl
      have hfp:=fr_in hok (k:=n - 1) (by omega)
      have hop:=hok (n - 1) (by omega)
      have hln:=ho.ln
      have hbd:InI (to es (n - 1) - (nth es (n - 1)).ov):=by
        have:=hop.ln;have:=hop.ov
        unfold InI to;omega
      have hfs:fr es n = frm (nth es n).kd (nth es n).tm (to es (n - 1) - (nth es (n - 1)).ov):=by
        have:=frS es (n - 1)
        rwa [show n - 1 + 1 = n by omega] at this
      have hbe:badAt es n = ((decide (fr es n < to es (n - 1) - (nth es (n - 1)).ov) || decide (fr es n ≤ fr es (n - 1))) || (decide (1 < (n:Int)) && decide (fr es n < to es (n - 2))) || decide (to es n ≤ to es (n - 1))):=by
        unfold badAt
        rw [decide_eq_true hn0,Bool.true_and,show decide (1 < n) = decide (1 < (n:Int)) from decide_eq_decide.2 (by omega)]
      (refine tr_seq ?_;refine s_r ?_;refine m_v rfl rfl ?_;refine f_a rfl rfl norm0_ ?_;refine tr_val (rk_load1 (.of rfl) (At.lit (.there .here) rfl)) rfl ?_;refine tr_val (rk_len_slice (.of rfl)) rfl ?_;refine tr_val (rk_lss (.of rfl) (.of rfl)) rfl ?_;refine n_t ?_;refine c_d rfl (fun hcd=>?_) (fun _=>by omega);refine s_t ?_;refine tr_seq ?_;refine tr_block ?_;refine s_r ?_;refine f_a rfl rfl norm0_ ?_;refine tr_val (rk_load1 (.of rfl) (At.lit (.there .here) rfl)) rfl ?_;refine m_v rfl rfl ?_;refine tr_val (rk_indexAddr (.of rfl) (.of rfl) ha' (by omega) hcd norm1_) rfl ?_;refine tr_val (rk_loadN (.of rfl) (Ats.base hcell rfl) rfl) rfl ?_;refine tr_new (rk_alloc rfl) rfl (fun _ _=>?_);refine tr_store (.of rfl) (.of rfl) .here rfl rfl (okc_cons rfl (okc_cons rfl (okc_cons rfl (okc_cons rfl (okc_cons rfl (okc_cons rfl okc_nil)))))) (lenb rfl) norm_ ?_;refine n_r ?_;refine f_a rfl rfl norm0_ ?_;refine f_a rfl rfl norm0_ ?_;refine tr_val (rk_load1 (.of rfl) (At.lit .here rfl)) rfl ?_;refine a_s rfl rfl ?_;refine n_t ?_;refine tr_seq ?_;refine s_r ?_;refine m_v rfl rfl ?_;refine tr_val (rk_gtr (.of rfl) (.of rfl)) rfl ?_;refine n_t ?_;refine c_d rfl (fun hcd=>?_) (fun _=>by omega);refine tr_seq ?_)
      rename_i bx hbx
      with_reducible refine tr_draw 14 (by kernel_rfl) ?_
      (refine a_m rfl rfl ?_;refine a_m rfl rfl ?_;refine any_val (rk_sub (.of rfl) (.of rfl) (ini (by omega))) rfl ?_;refine any_val (rk_indexAddr (.of rfl) (.of rfl) rfl (by omega) (by omega) norm1_) rfl ?_;refine a_f rfl rfl norm0_ ?_;refine any_val (rk_load1 (.of rfl) (At.blkL (.there .here) q1)) rfl ?_;refine a_f rfl rfl norm0_ ?_;refine any_val (rk_load1 (.of rfl) (At.lit (.there (.there .here)) rfl)) rfl ?_;refine a_m rfl rfl ?_;refine any_val (rk_sub (.of rfl) (.of rfl) (ini (by omega))) rfl ?_;refine any_val (rk_indexAddr (.of rfl) (.of rfl) ha' (by omega) (by omega) norm1_) rfl ?_;refine a_f rfl rfl norm0_ ?_;refine any_val (rk_load1 (.of rfl) (At.base p1 rfl)) rfl ?_;refine any_val (rk_sub (.of rfl) (.of rfl) hbd) rfl ?_)
      with_reducible refine any_end ?_
      refine a_s rfl rfl ?_
      refine tr_nil ?_
      refine tr_then ?_
      refine tr_cut (ι:=Int) (fun x=>x = if (nth es n).kd = sFol then to es (n - 1) - (nth es (n - 1)).ov else (nth es n).tm) (fun x=>[(5,.int .i64 n),(4,.slice (some ⟨g,0,none⟩) n cap'),(1,.pointer (some ⟨b1,0,none⟩)),(6,.pointer (some ⟨bx,0,none⟩)),(7,.int .i64 x),(8,.int .i64 (to es (n - 1) - (nth es (n - 1)).ov))])
        (fun _=>[blk bx (.cells #[.string (nth es n).nm,.string (nth es n).mt,.string (nth es n).kd,.int .i64 (nth es n).tm,.int .i64 (nth es n).ln,.int .i64 (nth es n).ov] 82 (0,0)),blk g (.cells (spV es n++cur).toArray 23 (0,0)),blk b1 (.cells #[.slice a es.length cap] 57 (0,0))]) ?_ ?_
      · (refine s_r ?_;refine f_a rfl rfl norm0_ ?_;refine f_a rfl rfl norm0_ ?_;refine tr_val (rk_load1 (.of rfl) (At.lit .here rfl)) rfl ?_;refine tr_val (rk_eqls (.of rfl) (.of rfl)) rfl ?_;refine n_t ?_;refine c_d rfl (fun hcd=>?_) (fun hcd=>?_);refine tr_region ?_;refine m_v rfl rfl ?_;refine a_s rfl rfl ?_;refine n_t ?_;rotate_left;refine s_t ?_;rotate_right)
        · have e:to es (n - 1) - (nth es (n - 1)).ov = (if (nth es n).kd = sFol then to es (n - 1) - (nth es (n - 1)).ov else (nth es n).tm):=(if_pos (show (nth es n).kd = sFol from hcd)).symm
          apply tr_meet (to es (n - 1) - (nth es (n - 1)).ov) e
          case h1=>exact .cons rfl (.cons rfl (.cons rfl (.cons rfl (.cons rfl (.cons rfl .nil)))))
          case ht=>exact .cons .here (.cons .here (.cons .here .nil))
        · have e:(nth es n).tm = (if (nth es n).kd = sFol then to es (n - 1) - (nth es (n - 1)).ov else (nth es n).tm):=(if_neg (show ¬ (nth es n).kd = sFol from hcd)).symm
          apply tr_meet (nth es n).tm e
          case h1=>exact .cons rfl (.cons rfl (.cons rfl (.cons rfl (.cons rfl (.cons rfl .nil)))))
          case ht=>exact .cons .here (.cons .here (.cons .here .nil))
      intro x hx
      refine tr_cut (ι:=Int) (fun x=>x = fr es n) (fun x=>[(5,.int .i64 n),(4,.slice (some ⟨g,0,none⟩) n cap'),(1,.pointer (some ⟨b1,0,none⟩)),(6,.pointer (some ⟨bx,0,none⟩)),(7,.int .i64 x),(8,.int .i64 (to es (n - 1) - (nth es (n - 1)).ov))])
        (fun _=>[blk bx (.cells #[.string (nth es n).nm,.string (nth es n).mt,.string (nth es n).kd,.int .i64 (nth es n).tm,.int .i64 (nth es n).ln,.int .i64 (nth es n).ov] 82 (0,0)),blk g (.cells (spV es n++cur).toArray 23 (0,0)),blk b1 (.cells #[.slice a es.length cap] 57 (0,0))]) ?_ ?_
      · (refine s_r ?_;refine f_a rfl rfl norm0_ ?_;refine f_a rfl rfl norm0_ ?_;refine tr_val (rk_load1 (.of rfl) (At.lit .here rfl)) rfl ?_;refine tr_val (rk_eqls (.of rfl) (.of rfl)) rfl ?_;refine n_t ?_;refine c_d rfl (fun hcd=>?_) (fun hcd=>?_);refine tr_region ?_;refine m_v rfl rfl ?_;refine m_v rfl rfl ?_;refine tr_val (rk_max2 (.of rfl) (.of rfl)) rfl ?_;refine a_s rfl rfl ?_;refine n_t ?_;rotate_left;refine s_t ?_;rotate_right)
        · have hm:(nth es n).kd = sMan:=hcd
          have hnf:¬ (nth es n).kd = sFol:=by rw [hm];exact sMan_ne_sFol
          rw [if_neg hnf] at hx
          subst hx
          have e:max (nth es n).tm (to es (n - 1) - (nth es (n - 1)).ov) = fr es n:=by rw [hfs,frm,if_neg hnf,if_pos hm]
          apply tr_meet (max (nth es n).tm (to es (n - 1) - (nth es (n - 1)).ov)) e
          case h1=>exact .cons rfl (.cons rfl (.cons rfl (.cons rfl (.cons rfl (.cons rfl .nil)))))
          case ht=>exact .cons .here (.cons .here (.cons .here .nil))
        · have hm:¬ (nth es n).kd = sMan:=hcd
          apply tr_meet x (by rw [hx,hfs,frm];split <;> simp [hm])
          case h1=>exact .cons rfl (.cons rfl (.cons rfl (.cons rfl (.cons rfl (.cons rfl .nil)))))
          case ht=>exact .cons .here (.cons .here (.cons .here .nil))
      intro x2 hx2
      subst hx2
      clear hx x
      refine tr_seq ?_
      with_reducible refine tr_draw 41 (by kernel_rfl) ?_
      (refine a_m rfl rfl ?_;refine a_m rfl rfl ?_;refine any_val (rk_lss (.of rfl) (.of rfl)) rfl ?_;refine a_m rfl rfl ?_;refine any_vG1 rfl rfl inferInstance (fun hg hgp=>(rk_move (.of rfl))) rfl ?_;refine any_vG1 rfl rfl inferInstance (fun hg hgp=>(rk_move (.of rfl))) rfl ?_;refine any_vG1 rfl rfl inferInstance (fun hg hgp=>(rk_move (.of rfl))) rfl ?_;refine any_vG1 rfl rfl inferInstance (fun hg hgp=>(rk_sub (.ofg hg rfl) (.of rfl) (ini (by omega)))) rfl ?_;refine any_vG1 rfl rfl inferInstance (fun hg hgp=>(rk_indexAddr (.ofg hg rfl) (.ofg hg rfl) rfl (by omega) (by omega) norm1_)) rfl ?_;refine any_vG1 rfl rfl inferInstance (fun hg hgp=>(rk_fieldAddr (.ofg hg rfl) norm0_)) rfl ?_;refine any_vG1 rfl rfl inferInstance (fun hg hgp=>(rk_load1 (.ofg hg rfl) (At.blkL (.there .here) q0))) rfl ?_;refine any_vG1 rfl rfl inferInstance (fun hg hgp=>(rk_leq (.ofg hg rfl) (.ofg hg rfl))) rfl ?_;refine any_val (rk_pick_or (.of rfl) rfl) rfl ?_;refine a_m rfl rfl ?_;refine any_vG1 rfl rfl inferInstance (fun hg hgp=>(rk_move (.of rfl))) rfl ?_;refine any_vG1 rfl rfl inferInstance (fun hg hgp=>(rk_gtr (.ofg hg rfl) (.of rfl))) rfl ?_;refine any_vG1 rfl rfl inferInstance (fun hg hgp=>(rk_move (.ofg hg rfl))) rfl ?_;refine any_vG rfl rfl inferInstance (fun hg hgp=>(rk_move (.of rfl))) rfl ?_;refine any_vG rfl rfl inferInstance (fun hg hgp=>(rk_move (.of rfl))) rfl ?_;refine any_vG rfl rfl inferInstance (fun hg hgp=>(rk_move (.of rfl))) rfl ?_;refine any_vG rfl rfl inferInstance (fun hg hgp=>(rk_sub (.ofg hg rfl) (.of rfl) (ini (by omega)))) rfl ?_;refine any_vG rfl rfl inferInstance (fun hg hgp=>(rk_max2 (.of rfl) (.ofg hg rfl))) rfl ?_;refine any_vG rfl rfl inferInstance (fun hg hgp=>(rk_indexAddr (.ofg hg rfl) (.ofg hg rfl) rfl (by omega) (by omega) norm1_)) rfl ?_;refine any_vG rfl rfl inferInstance (fun hg hgp=>(rk_fieldAddr (.ofg hg rfl) norm0_)) rfl ?_;refine any_vG rfl rfl inferInstance (fun hg hgp=>(rk_load1 (.ofg hg rfl) (At.blkL (.there .here) q2))) rfl ?_;refine any_vG rfl rfl inferInstance (fun hg hgp=>(rk_lss (.ofg hg rfl) (.ofg hg rfl))) rfl ?_;refine any_vG1 rfl rfl inferInstance (fun hg hgp=>(rk_pick_and' hg (.ofg hg rfl) rfl)) rfl ?_;refine any_val (rk_pick_or (.of rfl) rfl) rfl ?_;refine a_m rfl rfl ?_;refine any_vG1 rfl rfl inferInstance (fun hg hgp=>(rk_move (.of rfl))) rfl ?_;refine any_vG1 rfl rfl inferInstance (fun hg hgp=>(rk_fieldAddr (.of rfl) norm0_)) rfl ?_;refine any_vG1 rfl rfl inferInstance (fun hg hgp=>(rk_load1 (.ofg hg rfl) (At.lit .here rfl))) rfl ?_;refine any_vG1 rfl rfl inferInstance (fun hg hgp=>(rk_add (.ofg hg rfl) (.ofg hg rfl) (ini (by omega)))) rfl ?_;refine any_vG1 rfl rfl inferInstance (fun hg hgp=>(rk_move (.of rfl))) rfl ?_;refine any_vG1 rfl rfl inferInstance (fun hg hgp=>(rk_move (.of rfl))) rfl ?_;refine any_vG1 rfl rfl inferInstance (fun hg hgp=>(rk_sub (.ofg hg rfl) (.of rfl) (ini (by omega)))) rfl ?_;refine any_vG1 rfl rfl inferInstance (fun hg hgp=>(rk_indexAddr (.ofg hg rfl) (.ofg hg rfl) rfl (by omega) (by omega) norm1_)) rfl ?_;refine any_vG1 rfl rfl inferInstance (fun hg hgp=>(rk_fieldAddr (.ofg hg rfl) norm0_)) rfl ?_;refine any_vG1 rfl rfl inferInstance (fun hg hgp=>(rk_load1 (.ofg hg rfl) (At.blkL (.there .here) q1))) rfl ?_;refine any_vG1 rfl rfl inferInstance (fun hg hgp=>(rk_leq (.ofg hg rfl) (.ofg hg rfl))) rfl ?_;refine any_val (rk_pick_or (.of rfl) rfl) rfl ?_)
      with_reducible refine any_end ?_
      (refine n_t ?_;refine c_b rfl (fun hcd=>?_) (fun hcd=>?_);refine s_r ?_;refine a_s rfl rfl ?_;refine a_s rfl rfl ?_;refine n_t ?_;refine r_t ?_;refine tr_blk_ret ?_;refine tr_then_ret ?_;refine tr_then_ret ?_;refine tr_blk_ret ?_;refine tr_then_ret ?_;rotate_left;refine s_t ?_;refine tr_seq ?_;refine s_r ?_;refine m_v rfl rfl ?_;refine f_a rfl rfl norm0_ ?_;refine tr_val (rk_load1 (.of rfl) (At.lit .here rfl)) rfl ?_;refine tr_val (rk_add (.of rfl) (.of rfl) (ini (by omega))) rfl ?_;refine tr_val (rk_gtr (.of rfl) (.of rfl)) rfl ?_;refine n_t ?_;refine c_d rfl (fun hcd=>?_) (fun hcd=>?_);refine s_r ?_;refine a_s rfl rfl ?_;refine a_s rfl rfl ?_;refine n_t ?_;refine r_t ?_;refine tr_blk_ret ?_;refine tr_then_ret ?_;refine tr_then_ret ?_;refine tr_blk_ret ?_;refine tr_then_ret ?_;rotate_left;refine s_t ?_;refine tr_region ?_;refine m_v rfl rfl ?_;refine m_v rfl rfl ?_;refine m_v rfl rfl ?_;refine f_a rfl rfl norm0_ ?_;refine tr_val (rk_load1 (.of rfl) (At.lit .here rfl)) rfl ?_;refine tr_val (rk_add (.of rfl) (.of rfl) (ini (by omega))) rfl ?_;refine tr_val (rk_buildL (.cons (.of rfl) (.cons (.of rfl) .nil)) norm_) rfl ?_;refine tr_new (rk_sliceLitN (.cons (.of rfl) .nil) rfl rfl normp_ normp_ norm_) rfl (fun _ _=>?_);rotate_right;rotate_right)
      · have hbt:badAt es n = true:=by rw [hbe];simp only [Bool.or_eq_true,Bool.and_eq_true,decide_eq_true_eq];assumption
        have htq:tqL es = []:=by rw [tqL,h15 hbt,if_neg (by decide)]
        rw [htq,h15 hbt]
        refine tr_rowNil 23 2 ?_
        first | with_reducible apply tr_retM | with_reducible apply tr_endM
        case he=>exact ends2 rfl rfl rfl
        case hR=>
          intro w' hm'
          exact gives_end (.slice none 0 0) trivial (show Takes _ [row 23 2 (.slice none 0 0) 0 []] _ by exact .cons .here .nil) hm' rfl
      · have hbf:badAt es n = false:=by rw [hbe];simp only [Bool.or_eq_false_iff,Bool.and_eq_false_iff,decide_eq_false_iff_not];assumption
        have htq:tqL es = []:=by rw [tqL,h4 hbf hcd,if_neg (by decide)]
        rw [htq,h4 hbf hcd]
        refine tr_rowNil 23 2 ?_
        first | with_reducible apply tr_retM | with_reducible apply tr_endM
        case he=>exact ends2 rfl rfl rfl
        case hR=>
          intro w' hm'
          exact gives_end (.slice none 0 0) trivial (show Takes _ [row 23 2 (.slice none 0 0) 0 []] _ by exact .cons .here .nil) hm' rfl
      · have hbf:badAt es n = false:=by rw [hbe];simp only [Bool.or_eq_false_iff,Bool.and_eq_false_iff,decide_eq_false_iff_not];assumption
        have hnx:=h0 hbf hcd
        refine tr_rowShut (by exact Take.there (.there .here)) hcap' hmx' hsz' hl' ?_
        refine tr_appendB (.of rfl) (.of rfl) .here (.there .here) norm_ (by rfl) (okc_cons rfl (okc_cons rfl okc_nil)) (by rfl) (by rfl) (by rfl) lenx_ (by rfl) ?_
        intro v'
        (refine a_s rfl rfl ?_;refine tr_nil ?_;refine tr_blk_normal ?_;refine tr_then ?_;refine tr_region ?_;refine m_v rfl rfl ?_;refine tr_val (rk_add (.of rfl) (.of rfl) (ini (by omega))) rfl ?_;refine a_s rfl rfl ?_;refine n_t ?_)
        apply tr_next (n + 1,v') ⟨by show n + 1 ≤ es.length;omega,hnx⟩ (by show es.length - (n + 1) < es.length - n;omega)
        case hs1=>exact .cons rfl (.cons rfl (.cons rfl .nil))
        case ht=>
          show Takes _ [row 23 2 v' (n + 1) (spV es (n + 1)),_] _
          rw [spV_succ,to]
          exact .cons .here (.cons (.there (.there .here)) .nil)
    · obtain rfl:n = 0:=by omega
      have hbf:badAt es 0 = false:=rfl
      have hf0:=fr0 (hnf hlt) ho.tm.1
      have ht0:to es 0 = (nth es 0).tm + (nth es 0).ln:=by rw [to,hf0]
      have hln:=ho.ln
      have htm:=ho.tm
      rw [ht0] at h4 h0
      (refine tr_seq ?_;refine s_r ?_;refine m_v rfl rfl ?_;refine f_a rfl rfl norm0_ ?_;refine tr_val (rk_load1 (.of rfl) (At.lit (.there .here) rfl)) rfl ?_;refine tr_val (rk_len_slice (.of rfl)) rfl ?_;refine tr_val (rk_lss (.of rfl) (.of rfl)) rfl ?_;refine n_t ?_;refine c_d rfl (fun hcd=>?_) (fun _=>by omega);refine s_t ?_;refine tr_seq ?_;refine tr_block ?_;refine s_r ?_;refine f_a rfl rfl norm0_ ?_;refine tr_val (rk_load1 (.of rfl) (At.lit (.there .here) rfl)) rfl ?_;refine m_v rfl rfl ?_;refine tr_val (rk_indexAddr (.of rfl) (.of rfl) ha' (by omega) hcd norm1_) rfl ?_;refine tr_val (rk_loadN (.of rfl) (Ats.base hcell rfl) rfl) rfl ?_;refine tr_new (rk_alloc rfl) rfl (fun _ _=>?_);refine tr_store (.of rfl) (.of rfl) .here rfl rfl (okc_cons rfl (okc_cons rfl (okc_cons rfl (okc_cons rfl (okc_cons rfl (okc_cons rfl okc_nil)))))) (lenb rfl) norm_ ?_;refine n_r ?_;refine f_a rfl rfl norm0_ ?_;refine f_a rfl rfl norm0_ ?_;refine tr_val (rk_load1 (.of rfl) (At.lit .here rfl)) rfl ?_;refine a_s rfl rfl ?_;refine n_t ?_;refine tr_seq ?_;refine s_r ?_;refine m_v rfl rfl ?_;refine tr_val (rk_gtr (.of rfl) (.of rfl)) rfl ?_;refine n_t ?_;refine c_d rfl (fun _=>by omega) (fun hcd=>?_);refine s_t ?_;refine tr_seq ?_;refine s_r ?_;refine m_v rfl rfl ?_;refine f_a rfl rfl norm0_ ?_;refine tr_val (rk_load1 (.of rfl) (At.lit .here rfl)) rfl ?_;refine tr_val (rk_add (.of rfl) (.of rfl) (ini (by omega))) rfl ?_;refine tr_val (rk_gtr (.of rfl) (.of rfl)) rfl ?_;refine n_t ?_;refine c_d rfl (fun hcd=>?_) (fun hcd=>?_);refine s_r ?_;refine a_s rfl rfl ?_;refine a_s rfl rfl ?_;refine n_t ?_;refine r_t ?_;refine tr_blk_ret ?_;refine tr_then_ret ?_;refine tr_then_ret ?_;refine tr_blk_ret ?_;refine tr_then_ret ?_;rotate_left;refine s_t ?_;refine tr_region ?_;refine m_v rfl rfl ?_;refine m_v rfl rfl ?_;refine m_v rfl rfl ?_;refine f_a rfl rfl norm0_ ?_;refine tr_val (rk_load1 (.of rfl) (At.lit .here rfl)) rfl ?_;refine tr_val (rk_add (.of rfl) (.of rfl) (ini (by omega))) rfl ?_;refine tr_val (rk_buildL (.cons (.of rfl) (.cons (.of rfl) .nil)) norm_) rfl ?_;refine tr_new (rk_sliceLitN (.cons (.of rfl) .nil) rfl rfl normp_ normp_ norm_) rfl (fun _ _=>?_);rotate_right)
      · skip
        have htq:tqL es = []:=by rw [tqL,h4 hbf hcd,if_neg (by decide)]
        rw [htq,h4 hbf hcd]
        refine tr_rowNil 23 2 ?_
        first | with_reducible apply tr_retM | with_reducible apply tr_endM
        case he=>exact ends2 rfl rfl rfl
        case hR=>
          intro w' hm'
          exact gives_end (.slice none 0 0) trivial (show Takes _ [row 23 2 (.slice none 0 0) 0 []] _ by exact .cons .here .nil) hm' rfl
      · have hnx:=h0 hbf hcd
        refine tr_appendB (.of rfl) (.of rfl) (.there (.there .here)) .here norm_ (by rfl) (okc_cons rfl (okc_cons rfl okc_nil)) (by rfl) (by rfl) (by rfl) lenx_ (by rfl) ?_
        intro v'
        (refine a_s rfl rfl ?_;refine tr_nil ?_;refine tr_blk_normal ?_;refine tr_then ?_;refine tr_region ?_;refine m_v rfl rfl ?_;refine tr_val (rk_add (.of rfl) (.of rfl) (ini (by omega))) rfl ?_;refine a_s rfl rfl ?_;refine n_t ?_)
        apply tr_next (0 + 1,v') ⟨by show 0 + 1 ≤ es.length;omega,hnx⟩ (by show es.length - (0 + 1) < es.length - 0;omega)
        case hs1=>exact .cons rfl (.cons rfl (.cons rfl .nil))
        case ht=>
          show Takes _ [row 23 2 v' (0 + 1) (spV es (0 + 1)),_] _
          rw [spV_succ,hf0,ht0]
          exact .cons .here (.cons (.there (.there .here)) .nil)
  · obtain rfl:n = es.length:=by omega
    have hE:errE (e2At es) es.length = 0:=errE_ok.2 hz
    rw [tqL,if_pos hE,hE,spL_length]
    (refine tr_seq ?_;refine s_r ?_;refine m_v rfl rfl ?_;refine f_a rfl rfl norm0_ ?_;refine tr_val (rk_load1 (.of rfl) (At.lit (.there .here) rfl)) rfl ?_;refine tr_val (rk_len_slice (.of rfl)) rfl ?_;refine tr_val (rk_lss (.of rfl) (.of rfl)) rfl ?_;refine n_t ?_;refine c_d rfl (fun _=>by omega) (fun hcd=>?_);refine x_t ?_;refine tr_then_exit ?_;refine tr_blk_exit ?_;refine tr_then ?_;refine s_r ?_;refine m_v rfl rfl ?_;refine a_s rfl rfl ?_;refine a_s rfl rfl ?_;refine n_t ?_;refine tr_ret ?_)
    first | with_reducible apply tr_retM | with_reducible apply tr_endM
    case he=>exact ends2 rfl rfl rfl
    case hR=>
      intro w' hm'
      exact gives_end v trivial (show Takes _ [row 23 2 v es.length (spV es es.length)] _ by exact .cons .here .nil) hm' rfl
end Go.Proofs.A1
namespace Go.Proofs.A1
open Go Go.SL
theorem Sound.e2 {es:List En} (h:Sound es):errE (e2At es) es.length = 0:=errE_ok.2 fun i hi=>by
  have h1:=h.bad i hi
  have h2:=h.most i hi
  simp [e2At,h1,show ¬ 10000000 < to es i by omega,whenF,firstF]
theorem e1q_eq (es:List En) (k:Nat):firstF [entF (nth es k),whenF (decide (0 ≤ findF es (nth es k).nm k)) 9,whenF (decide ((k:Int) = 0) && decide ((nth es k).kd = sFol)) 22] = e1At es k:=by
  unfold e1At
  rw [findF_le,← dup_eq,show decide ((k:Int) = 0) = decide (k = 0) from decide_eq_decide.2 (by omega)]
theorem chkQ_c {sv:Value} {es:List En} {w:World} (h1:Rd w sv 6 (ensL es)):GivesV Tryd.prog 40 [.agg #[sv]] w (.int .i64 (chkF es)):=by
  have h1':=h1
  obtain ⟨a,cap,b,o,rfl,hcap,hmax,ha,hc⟩:=h1
  rw [ensL_length] at *
  unfold maxLen at hmax
  refine givesV_of_tr Tryd.func40 rfl rfl ?_
  (refine s_r ?_;refine tr_new (rk_box (.of rfl) rfl) rfl (fun _ _=>?_);refine a_s rfl rfl ?_;refine n_t ?_;refine tr_seq ?_;refine s_r ?_;refine f_a rfl rfl norm0_ ?_;refine tr_val (rk_load1 (.of rfl) (At.lit .here rfl)) rfl ?_;refine tr_val (rk_len_slice (.of rfl)) rfl ?_;refine tr_val (rk_gtr (.of rfl) (.of rfl)) rfl ?_;refine n_t ?_;refine c_d rfl (fun hcd=>?_) (fun hcd=>?_);refine s_r ?_;refine a_s rfl rfl ?_;refine n_t ?_;refine r_t ?_;refine tr_retE rfl (ends1 rfl rfl) ?_;rotate_left;refine s_t ?_;refine tr_seq ?_;refine s_r ?_;refine a_s rfl rfl ?_;refine n_t ?_;refine tr_block ?_;rotate_right)
  · rw [chkF,if_pos (by omega)]
  have hfew:es.length ≤ 24:=by omega
  rename_i b1 hb1
  refine tr_for (fun k:Nat=>k ≤ es.length ∧ ∀ i,i < k → e1At es i = 0) (fun k=>[(3,.int .i64 k),(1,.pointer (some ⟨b1,0,none⟩))])
    (fun _=>[blk b1 (.cells #[.slice a es.length cap] 57 (0,0))]) (fun k=>es.length - k) ?_ ?_
  · apply tr_start 0 ⟨Nat.zero_le _,fun i h=>by omega⟩
    case hs1=>exact .cons rfl (.cons rfl .nil)
    case ht=>(try simp only [List.take_zero,List.map_nil,List.nil_append]);exact .cons .here .nil
  rintro k ⟨hk,hf⟩
  by_cases hlt:k < es.length
  · have ha':=ha (ensL_ne hlt)
    have hcell:=(hc k _ (ensL_get hlt)).2
    have hc0:=hcell 0 _ rfl
    have hc2:=hcell 2 _ rfl
    have heq:=e1q_eq es k
    have hec:∀ w',GivesV Tryd.prog 74 [.agg (nth es k).cells.toArray] w' (.int .i64 (entF (nth es k))):=fun w'=>entQ_c _ _
    unfold En.cells at hcell hec
    (refine tr_seq ?_;refine s_r ?_;refine m_v rfl rfl ?_;refine f_a rfl rfl norm0_ ?_;refine tr_val (rk_load1 (.of rfl) (At.lit .here rfl)) rfl ?_;refine tr_val (rk_len_slice (.of rfl)) rfl ?_;refine tr_val (rk_lss (.of rfl) (.of rfl)) rfl ?_;refine n_t ?_;refine c_d rfl (fun hcd=>?_) (fun _=>by omega);refine s_t ?_;refine tr_seq ?_;refine tr_block ?_;refine tr_seq ?_)
    with_reducible refine tr_draw 30 (by kernel_rfl) ?_
    (refine a_f rfl rfl norm0_ ?_;refine any_val (rk_load1 (.of rfl) (At.lit .here rfl)) rfl ?_;refine a_m rfl rfl ?_;refine any_val (rk_indexAddr (.of rfl) (.of rfl) ha' (by omega) hcd norm1_) rfl ?_;refine any_val (rk_loadN (.of rfl) (Ats.base hcell rfl) rfl) rfl ?_;refine any_call (rk_call (.of rfl) (.cons (.of rfl) .nil) inferInstance normc_) rfl (fun w' hm'=>(hec w')) ?_;refine any_val (rk_loadB (.of rfl) .here norm_ (by rfl)) rfl ?_;refine a_f rfl rfl norm0_ ?_;refine any_val (rk_load1 (.of rfl) (At.lit .here rfl)) rfl ?_;refine a_m rfl rfl ?_;refine any_val (rk_indexAddr (.of rfl) (.of rfl) ha' (by omega) hcd norm1_) rfl ?_;refine a_f rfl rfl norm0_ ?_;refine any_val (rk_load1 (.of rfl) (At.base hc0 rfl)) rfl ?_;refine a_m rfl rfl ?_;refine any_call (rk_call (.of rfl) (.cons (.of rfl) (.cons (.of rfl) (.cons (.of rfl) .nil))) inferInstance normc_) rfl (fun w' hm'=>(findQ_c _ k (Rd.keeps h1' (Mem.keeps hm')) hk)) ?_;refine any_val (rk_geq (.of rfl) (.of rfl)) rfl ?_;refine any_call (rk_call (.of rfl) (.cons (.of rfl) (.cons (.of rfl) .nil)) inferInstance normc_) rfl (fun w' hm'=>(when_q _ 9 w')) ?_;refine a_m rfl rfl ?_;refine any_val (rk_eql (.of rfl) (.of rfl)) rfl ?_;refine a_m rfl rfl ?_;refine any_vG1 rfl rfl inferInstance (fun hg hgp=>(rk_fieldAddr (.of rfl) norm0_)) rfl ?_;refine any_vG1 rfl rfl inferInstance (fun hg hgp=>(rk_load1 (.ofg hg rfl) (At.lit .here rfl))) rfl ?_;refine any_vG1 rfl rfl inferInstance (fun hg hgp=>(rk_move (.of rfl))) rfl ?_;refine any_vG1 rfl rfl inferInstance (fun hg hgp=>(rk_indexAddr (.ofg hg rfl) (.ofg hg rfl) ha' (by omega) hcd norm1_)) rfl ?_;refine any_vG1 rfl rfl inferInstance (fun hg hgp=>(rk_fieldAddr (.ofg hg rfl) norm0_)) rfl ?_;refine any_vG1 rfl rfl inferInstance (fun hg hgp=>(rk_fieldAddr (.ofg hg rfl) norm0_)) rfl ?_;refine any_vG1 rfl rfl inferInstance (fun hg hgp=>(rk_load1 (.ofg hg rfl) (At.base hc2 rfl))) rfl ?_;refine any_vG1 rfl rfl inferInstance (fun hg hgp=>(rk_eqls (.ofg hg rfl) (.of rfl))) rfl ?_;refine any_val (rk_pick_and (.of rfl) rfl) rfl ?_;refine any_call (rk_call (.of rfl) (.cons (.of rfl) (.cons (.of rfl) .nil)) inferInstance normc_) rfl (fun w' hm'=>(when_q _ 22 w')) ?_)
    with_reducible refine any_end ?_
    (refine tr_new (rk_sliceLit (.cons (.of rfl) (.cons (.of rfl) (.cons (.of rfl) .nil))) rfl rfl rfl rfl) rfl (fun _ _=>?_);refine tr_callV (rk_call (.of rfl) (.cons (.of rfl) .nil) inferInstance normc_) rfl (fun w' hm'=>(first_qB (Mem.rdBlk hm' .here rfl rfl) (IntL.cons (IntL.cons (IntL.cons IntL.nil))))) ?_;refine a_s rfl rfl ?_;refine n_r ?_;refine m_v rfl rfl ?_;refine tr_val (rk_neq (.of rfl) (.of rfl)) rfl ?_;refine n_t ?_;refine c_d rfl (fun hcd=>?_) (fun hcd=>?_);refine s_r ?_;refine m_v rfl rfl ?_;refine a_s rfl rfl ?_;refine n_t ?_;refine tr_ret ?_;refine tr_blk_ret ?_;refine tr_then_ret ?_;refine tr_then_ret ?_;refine tr_blk_ret ?_;refine tr_then_ret ?_;refine tr_retE rfl (ends1 rfl rfl) ?_;rotate_left;refine tr_skip ?_;refine tr_blk_normal ?_;refine tr_then ?_;refine tr_region ?_;refine m_v rfl rfl ?_;refine tr_val (rk_add (.of rfl) (.of rfl) (ini (by omega))) rfl ?_;refine a_s rfl rfl ?_;refine n_t ?_;rotate_right)
    · have hne:e1At es k ≠ 0:=by rw [← heq];exact hcd
      rw [chkF,if_neg (by omega),errE_bad hf hlt hne]
      have:firstF [e1At es k,errE (e2At es) es.length] = e1At es k:=by simp [firstF,hne]
      rw [this,← heq];rfl
    · have hz:e1At es k = 0:=by rw [← heq];exact Decidable.not_not.1 hcd
      apply tr_next (k + 1) ⟨by omega,fun i hi=>by
        by_cases e:i = k
        · rw [e];exact hz
        · exact hf i (by omega)⟩ (by omega)
      case hs1=>exact .cons rfl (.cons rfl .nil)
      case ht=>(try simp only [List.take_zero,List.map_nil,List.nil_append]);exact .cons (.there .here) .nil
  · obtain rfl:k = es.length:=by omega
    have hok:∀ k,k < es.length → EnOk (nth es k):=fun k hk=>(e1_ok (hf k hk)).1
    have hE:chkF es = errE (e2At es) es.length:=by
      rw [chkF,if_neg (by omega),errE_ok.2 hf,firstF_0]
    rw [hE]
    (refine tr_seq ?_;refine s_r ?_;refine m_v rfl rfl ?_;refine f_a rfl rfl norm0_ ?_;refine tr_val (rk_load1 (.of rfl) (At.lit .here rfl)) rfl ?_;refine tr_val (rk_len_slice (.of rfl)) rfl ?_;refine tr_val (rk_lss (.of rfl) (.of rfl)) rfl ?_;refine n_t ?_;refine c_d rfl (fun _=>by omega) (fun hcd=>?_);refine x_t ?_;refine tr_then_exit ?_;refine tr_blk_exit ?_;refine tr_then ?_;refine s_r ?_;refine tr_val (rk_loadB (.of rfl) .here norm_ (by rfl)) rfl ?_)
    with_reducible apply tr_call
    case hr=>exact rk_call (.of rfl) (.cons (.of rfl) .nil) inferInstance normc_
    case hd=>rfl
    case ht=>exact Takes.nil
    case hc=>
      intro w1 fp hm1 _ hs1
      obtain rfl:fp = []:=hs1
      exact timesQ_c (h1'.keeps hm1.keeps) hok hfew (fun h0=>(e1_ok (hf 0 h0)).2.2 rfl)
    intro v _
    dsimp only [id_eq,List.cons_append,List.nil_append]
    (refine m_v rfl rfl ?_;refine tr_val (rk_extract (.of rfl) rfl) rfl ?_;refine tr_val (rk_extract (.of rfl) rfl) rfl ?_;refine a_s rfl rfl ?_;refine a_s rfl rfl ?_;refine n_r ?_;refine m_v rfl rfl ?_;refine a_s rfl rfl ?_;refine n_t ?_;refine tr_ret ?_;refine tr_retE rfl (ends1 rfl rfl) ?_)
    rfl
theorem spansQ_c {sv:Value} {es:List En} {w:World} (h1:Rd w sv 6 (ensL es)) (hs:Sound es) :
    Gives Tryd.prog 77 [.agg #[sv]] w [] (fun _:Value=>True) id (fun v=>[row 23 2 v es.length (spV es es.length)]):=by
  have hone:=Rd.one h1
  have htq:tqL es = spL es es.length:=by rw [tqL,if_pos hs.e2]
  refine gives_of_tr Tryd.func77 rfl rfl ?_
  (refine s_r ?_;refine tr_new (rk_box (.of rfl) rfl) rfl (fun _ _=>?_);refine a_s rfl rfl ?_;refine n_r ?_;refine tr_val (rk_loadB (.of rfl) .here norm_ (by rfl)) rfl ?_)
  with_reducible apply tr_call
  case hr=>exact rk_call (.of rfl) (.cons (.of rfl) .nil) inferInstance normc_
  case hd=>rfl
  case ht=>exact Takes.nil
  case hc=>
    intro w1 fp hm1 _ hs1
    obtain rfl:fp = []:=hs1
    exact timesQ_c (h1.keeps hm1.keeps) hs.all.ok hs.all.few hs.fol
  intro v _
  rw [htq,spL_length]
  dsimp only [id_eq,List.cons_append,List.nil_append]
  (refine m_v rfl rfl ?_;refine tr_val (rk_extract (.of rfl) rfl) rfl ?_;refine tr_val (rk_extract (.of rfl) rfl) rfl ?_;refine a_s rfl rfl ?_;refine a_s rfl rfl ?_;refine n_r ?_;refine m_v rfl rfl ?_;refine a_s rfl rfl ?_;refine n_t ?_;refine tr_ret ?_)
  first | with_reducible apply tr_retM | with_reducible apply tr_endM
  case he=>exact ends1 rfl rfl
  case hR=>
    intro w' hm'
    exact gives_end v trivial (show Takes _ [row 23 2 v es.length ((spL es es.length).flatMap duoV)] _ by exact .cons .here .nil) hm' rfl
end Go.Proofs.A1
namespace Go.Proofs.A1
open Go Go.SL
def shortB (es:List En):Bool:=((List.range es.length).all fun k=>decide ((nth es k).nm.size ≤ 40) && decide ((nth es k).mt.size ≤ 40) && decide ((nth es k).kd.size ≤ 40)) && (decide (es.length ≤ 8) || decide (es.length = 25))
theorem short_c {sv:Value} {es:List En} {w:World} (h1:Rd w sv 6 (ensL es)):GivesV Tryd.prog 39 [.agg #[sv]] w (.bool (shortB es)):=by
  obtain ⟨a,cap,b,o,rfl,hcap,hmax,ha,hc⟩:=h1
  rw [ensL_length] at *
  unfold maxLen at hmax
  refine givesV_of_tr Tryd.func39 rfl rfl ?_
  (refine s_r ?_;refine tr_new (rk_box (.of rfl) rfl) rfl (fun _ _=>?_);refine a_s rfl rfl ?_;refine n_t ?_;refine tr_seq ?_;refine s_r ?_;refine a_s rfl rfl ?_;refine n_t ?_;refine tr_block ?_)
  rename_i b1 hb1
  refine tr_for (fun k:Nat=>k ≤ es.length ∧ ∀ i,i < k → (nth es i).nm.size ≤ 40 ∧ (nth es i).mt.size ≤ 40 ∧ (nth es i).kd.size ≤ 40) (fun k=>[(3,.int .i64 k),(1,.pointer (some ⟨b1,0,none⟩))])
    (fun _=>[blk b1 (.cells #[.slice a es.length cap] 57 (0,0))]) (fun k=>es.length - k) ?_ ?_
  · apply tr_start 0 ⟨Nat.zero_le _,fun i h=>by omega⟩
    case hs1=>exact .cons rfl (.cons rfl .nil)
    case ht=>(try simp only [List.take_zero,List.map_nil,List.nil_append]);exact .cons .here .nil
  rintro k ⟨hk,hf⟩
  by_cases hlt:k < es.length
  · have ha':=ha (ensL_ne hlt)
    have hcell:=(hc k _ (ensL_get hlt)).2
    unfold En.cells at hcell
    (refine tr_seq ?_;refine s_r ?_;refine m_v rfl rfl ?_;refine f_a rfl rfl norm0_ ?_;refine tr_val (rk_load1 (.of rfl) (At.lit .here rfl)) rfl ?_;refine tr_val (rk_len_slice (.of rfl)) rfl ?_;refine tr_val (rk_lss (.of rfl) (.of rfl)) rfl ?_;refine n_t ?_;refine c_d rfl (fun hcd=>?_) (fun _=>by omega);refine s_t ?_;refine tr_seq ?_;refine tr_block ?_;refine s_r ?_;refine f_a rfl rfl norm0_ ?_;refine tr_val (rk_load1 (.of rfl) (At.lit .here rfl)) rfl ?_;refine m_v rfl rfl ?_;refine tr_val (rk_indexAddr (.of rfl) (.of rfl) ha' (by omega) hcd norm1_) rfl ?_;refine tr_val (rk_loadN (.of rfl) (Ats.base hcell rfl) rfl) rfl ?_;refine tr_new (rk_alloc rfl) rfl (fun _ _=>?_);refine tr_store (.of rfl) (.of rfl) .here rfl rfl (okc_cons rfl (okc_cons rfl (okc_cons rfl (okc_cons rfl (okc_cons rfl (okc_cons rfl okc_nil)))))) (lenb rfl) norm_ ?_;refine n_r ?_;refine f_a rfl rfl norm0_ ?_;refine tr_val (rk_load1 (.of rfl) (At.lit .here rfl)) rfl ?_;refine tr_val (rk_len_string (.of rfl)) rfl ?_;refine tr_val (rk_gtr (.of rfl) (.of rfl)) rfl ?_;refine m_v rfl rfl ?_;refine tr_vG1 rfl rfl inferInstance (fun hg hgp=>(rk_fieldAddr (.of rfl) norm0_)) rfl ?_;refine tr_vG1 rfl rfl inferInstance (fun hg hgp=>(rk_load1 (.ofg hg rfl) (At.lit .here rfl))) rfl ?_;refine tr_vG1 rfl rfl inferInstance (fun hg hgp=>(rk_len_string (.ofg hg rfl))) rfl ?_;refine tr_vG1 rfl rfl inferInstance (fun hg hgp=>(rk_gtr (.ofg hg rfl) (.of rfl))) rfl ?_;refine tr_val (rk_pick_or (.of rfl) rfl) rfl ?_;refine m_v rfl rfl ?_;refine tr_vG1 rfl rfl inferInstance (fun hg hgp=>(rk_fieldAddr (.of rfl) norm0_)) rfl ?_;refine tr_vG1 rfl rfl inferInstance (fun hg hgp=>(rk_fieldAddr (.ofg hg rfl) norm0_)) rfl ?_;refine tr_vG1 rfl rfl inferInstance (fun hg hgp=>(rk_load1 (.ofg hg rfl) (At.lit .here rfl))) rfl ?_;refine tr_vG1 rfl rfl inferInstance (fun hg hgp=>(rk_len_string (.ofg hg rfl))) rfl ?_;refine tr_vG1 rfl rfl inferInstance (fun hg hgp=>(rk_gtr (.ofg hg rfl) (.of rfl))) rfl ?_;refine tr_val (rk_pick_or (.of rfl) rfl) rfl ?_;refine n_t ?_;refine c_b rfl (fun hcd=>?_) (fun hcd=>?_);refine s_r ?_;refine a_s rfl rfl ?_;refine n_t ?_;refine tr_ret ?_;refine tr_blk_ret ?_;refine tr_then_ret ?_;refine tr_then_ret ?_;refine tr_blk_ret ?_;refine tr_then_ret ?_;refine tr_retE rfl (ends1 rfl rfl) ?_;rotate_left;refine tr_skip ?_;refine tr_blk_normal ?_;refine tr_then ?_;refine tr_region ?_;refine m_v rfl rfl ?_;refine tr_val (rk_add (.of rfl) (.of rfl) (ini (by omega))) rfl ?_;refine a_s rfl rfl ?_;refine n_t ?_;rotate_right)
    · have:((List.range es.length).all fun k=>decide ((nth es k).nm.size ≤ 40) && decide ((nth es k).mt.size ≤ 40) && decide ((nth es k).kd.size ≤ 40)) = false:=by
        rw [List.all_eq_false]
        refine ⟨k,List.mem_range.2 hlt,?_⟩
        simp only [Bool.not_eq_true,Bool.and_eq_false_iff,decide_eq_false_iff_not]
        omega
      rw [shortB,this];rfl
    · apply tr_next (k + 1) ⟨by omega,fun i hi=>by
        by_cases e:i = k
        · rw [e];omega
        · exact hf i (by omega)⟩ (by omega)
      case hs1=>exact .cons rfl (.cons rfl .nil)
      case ht=>(try simp only [List.take_zero,List.map_nil,List.nil_append]);exact .cons (.there .here) .nil
  · obtain rfl:k = es.length:=by omega
    have hall:((List.range es.length).all fun k=>decide ((nth es k).nm.size ≤ 40) && decide ((nth es k).mt.size ≤ 40) && decide ((nth es k).kd.size ≤ 40)) = true:=by
      rw [List.all_eq_true]
      intro i hi
      have:=hf i (List.mem_range.1 hi)
      simp [this]
    (refine tr_seq ?_;refine s_r ?_;refine m_v rfl rfl ?_;refine f_a rfl rfl norm0_ ?_;refine tr_val (rk_load1 (.of rfl) (At.lit .here rfl)) rfl ?_;refine tr_val (rk_len_slice (.of rfl)) rfl ?_;refine tr_val (rk_lss (.of rfl) (.of rfl)) rfl ?_;refine n_t ?_;refine c_d rfl (fun _=>by omega) (fun hcd=>?_);refine x_t ?_;refine tr_then_exit ?_;refine tr_blk_exit ?_;refine tr_then ?_;refine s_r ?_;refine f_a rfl rfl norm0_ ?_;refine tr_val (rk_load1 (.of rfl) (At.lit .here rfl)) rfl ?_;refine tr_val (rk_len_slice (.of rfl)) rfl ?_;refine tr_val (rk_leq (.of rfl) (.of rfl)) rfl ?_;refine m_v rfl rfl ?_;refine tr_vG1 rfl rfl inferInstance (fun hg hgp=>(rk_fieldAddr (.of rfl) norm0_)) rfl ?_;refine tr_vG1 rfl rfl inferInstance (fun hg hgp=>(rk_load1 (.ofg hg rfl) (At.lit .here rfl))) rfl ?_;refine tr_vG1 rfl rfl inferInstance (fun hg hgp=>(rk_len_slice (.ofg hg rfl))) rfl ?_;refine tr_vG1 rfl rfl inferInstance (fun hg hgp=>(rk_eql (.ofg hg rfl) (.of rfl))) rfl ?_;refine tr_val (rk_pick_or (.of rfl) rfl) rfl ?_;refine a_s rfl rfl ?_;refine n_t ?_;refine tr_ret ?_;refine tr_retE rfl (ends1 rfl rfl) ?_)
    rw [shortB,hall,Bool.true_and]
    have e1:decide ((es.length:Int) ≤ 8) = decide (es.length ≤ 8):=decide_eq_decide.2 (by omega)
    have e2:decide ((es.length:Int) = 25) = decide (es.length = 25):=decide_eq_decide.2 (by omega)
    rw [e1,e2]
def enE (es:List En):Int:=if es.length = 0 then 0 else to es (es.length - 1)
theorem Sound.enE_ge {es:List En} (h:Sound es) {k:Nat} (hk:k < es.length):to es k ≤ enE es:=by
  unfold enE
  rw [if_neg (by omega)]
  by_cases e:k = es.length - 1
  · subst e;exact Int.le_refl _
  · have:=h.to_lt (i:=k) (k:=es.length - 1) (by omega) (by omega);omega
theorem end_c {sv:Value} {es:List En} {w:World} (h1:Rd w sv 6 (ensL es)) (hs:Sound es):GivesV Tryd.prog 41 [.agg #[sv]] w (.int .i64 (enE es)):=by
  have hone:=Rd.one h1
  have hfew:=hs.all.few
  refine givesV_of_tr Tryd.func41 rfl rfl ?_
  (refine s_r ?_;refine tr_new (rk_box (.of rfl) rfl) rfl (fun _ _=>?_);refine a_s rfl rfl ?_;refine n_r ?_;refine tr_val (rk_loadB (.of rfl) .here norm_ (by rfl)) rfl ?_)
  with_reducible apply tr_call
  case hr=>exact rk_call (.of rfl) (.cons (.of rfl) .nil) inferInstance normc_
  case hd=>rfl
  case ht=>exact Takes.nil
  case hc=>
    intro w1 fp hm1 _ hs1
    obtain rfl:fp = []:=hs1
    exact spansQ_c (h1.keeps hm1.keeps) hs
  intro v _
  dsimp only [id_eq,List.cons_append,List.nil_append]
  (refine a_s rfl rfl ?_;refine n_t ?_;refine tr_seq ?_;refine s_r ?_;refine m_v rfl rfl ?_)
  refine tr_rowSl (E:=23) (sz:=2) (by exact .here) fun va vc e=>?_
  subst e
  by_cases hn0:0 < es.length
  · refine tr_rowOpen (E:=23) (sz:=2) (by exact .here) hn0 fun g cap' cur e hcap' hmx' hsz' hl'=>?_
    obtain ⟨rfl,-,rfl⟩:=Value.slice.inj e
    have hk1:((es.length:Int) - 1).toNat = es.length - 1:=by omega
    have q1:(spV es es.length++cur)[((es.length:Int) - 1).toNat * 2 + 1]? = some (.int .i64 (to es (es.length - 1))):=by rw [hk1];exact spV_at (j:=1) (by omega) cur (by omega)
    (refine tr_val (rk_len_slice (.of rfl)) rfl ?_;refine tr_val (rk_eql (.of rfl) (.of rfl)) rfl ?_;refine n_t ?_;refine c_d rfl (fun _=>by omega) (fun hcd=>?_);refine s_t ?_;refine s_r ?_;refine m_v rfl rfl ?_;refine m_v rfl rfl ?_;refine tr_val (rk_len_slice (.of rfl)) rfl ?_;refine tr_val (rk_sub (.of rfl) (.of rfl) (ini (by omega))) rfl ?_;refine tr_val (rk_indexAddr (.of rfl) (.of rfl) rfl (by omega) (by omega) norm1_) rfl ?_;refine f_a rfl rfl norm0_ ?_;refine tr_val (rk_load1 (.of rfl) (At.blkL .here q1)) rfl ?_;refine a_s rfl rfl ?_;refine n_t ?_;refine tr_ret ?_;refine tr_retE rfl (ends1 rfl rfl) ?_)
    rw [enE,if_neg (by omega)]
  · have e0:es.length = 0:=by omega
    rw [e0]
    (refine tr_val (rk_len_slice (.of rfl)) rfl ?_;refine tr_val (rk_eql (.of rfl) (.of rfl)) rfl ?_;refine n_t ?_;refine c_d rfl (fun hcd=>?_) (fun _=>by omega);refine s_r ?_;refine a_s rfl rfl ?_;refine n_t ?_;refine r_t ?_;refine tr_retE rfl (ends1 rfl rfl) ?_)
    rw [enE,if_pos e0]
def briefB (es:List En):Bool:=shortB es && decide (chkF es = 0) && decide (enE es ≤ 1000)
theorem briefB_iff {es:List En} (h:briefB es = true):shortB es = true ∧ chkF es = 0 ∧ enE es ≤ 1000:=by
  unfold briefB at h
  rw [Bool.and_eq_true,Bool.and_eq_true,decide_eq_true_eq,decide_eq_true_eq] at h
  exact ⟨h.1.1,h.1.2,h.2⟩
theorem and_r {a:Bool} {p:Prop} [Decidable p] (h:((a && decide p) == true) = true):p:=by
  have:=eq_of_beq h
  rw [Bool.and_eq_true,decide_eq_true_eq] at this
  exact this.2
theorem brief_c {sv:Value} {es:List En} {w:World} (h1:Rd w sv 6 (ensL es)):GivesV Tryd.prog 15 [.agg #[sv]] w (.bool (briefB es)):=by
  have hone:=Rd.one h1
  refine givesV_of_tr Tryd.func15 rfl rfl ?_
  (refine s_r ?_;refine tr_new (rk_box (.of rfl) rfl) rfl (fun _ _=>?_);refine a_s rfl rfl ?_;refine n_r ?_;refine tr_val (rk_loadB (.of rfl) .here norm_ (by rfl)) rfl ?_;refine tr_callV (rk_call (.of rfl) (.cons (.of rfl) .nil) inferInstance normc_) rfl (fun w' hm'=>(short_c (Rd.keeps h1 (Mem.keeps hm')))) ?_;refine m_v rfl rfl ?_;refine tr_vG1 rfl rfl inferInstance (fun hg hgp=>(rk_loadB (.of rfl) .here norm_ (by rfl))) rfl ?_;refine tr_callVG1 rfl rfl (fun hg=>(rk_call (.of rfl) (.cons (.ofg hg rfl) .nil) inferInstance normc_)) rfl (fun hg w' hm'=>(chkQ_c (Rd.keeps h1 (Mem.keeps hm')))) ?_;refine tr_vG1 rfl rfl inferInstance (fun hg hgp=>(rk_eql (.ofg hg rfl) (.of rfl))) rfl ?_;refine tr_val (rk_pick_and (.of rfl) rfl) rfl ?_;refine m_v rfl rfl ?_;refine tr_vG1 rfl rfl inferInstance (fun hg hgp=>(rk_loadB (.of rfl) .here norm_ (by rfl))) rfl ?_;refine tr_callVG1 rfl rfl (fun hg=>(rk_call (.of rfl) (.cons (.ofg hg rfl) .nil) inferInstance normc_)) rfl (fun hg w' hm'=>(end_c (Rd.keeps h1 (Mem.keeps hm')) (Sound.of (and_r hg)))) ?_;refine tr_vG1 rfl rfl inferInstance (fun hg hgp=>(rk_leq (.ofg hg rfl) (.of rfl))) rfl ?_;refine tr_val (rk_pick_and (.of rfl) rfl) rfl ?_;refine a_s rfl rfl ?_;refine n_t ?_;refine tr_ret ?_;refine tr_retE rfl (ends1 rfl rfl) ?_)
  rfl
end Go.Proofs.A1
namespace Go.Proofs.A1
open Go Go.SL
end Go.Proofs.A1
namespace Go.Proofs.A1
open Go Go.SL
def pkSum (f d:Int) (l:List Int):Int:=l.foldl (fun x b=>(f * x + b) % d) 1
theorem tr_rowAs {c:Cx} {D:List Nat} {sl:Slots} {hs hs':List Asn} {X:Act → World → Prop} {E:TypeId} {sz:Nat} {v:Value} {n m:Nat} {xs ys:List Value} (ht:Take hs (row E sz v n xs) hs') (hx:xs = ys) (hn:n = m)
    (k:Tr c D sl (row E sz v m ys :: hs') X):Tr c D sl hs X:=by
  subst hx hn
  exact fun a w hst=>k a w (hst.heap (hst.mem.take (ht.append _)))
def pkS (k c:Int) (D:List Int):List Int:=171 :: k :: c :: D
def pkT (k c:Int) (D:List Int):List Int:=pkS k c D++[parF (k :: c :: D)]
def frmL (k c:Int) (D:List Int):List Int:=pkT k c D++[pkSum 251 65521 (pkT k c D) / 256,pkSum 251 65521 (pkT k c D) % 256]
theorem bytsV_wcS:∀ l:List Int,bytsV l = wcells l
  | []=>rfl
  | x :: l => by
    show [Value.int .u8 x]++bytsV l = _
    rw [bytsV_wcS l];rfl
theorem wcells_app (a b:List Int):wcells (a++b) = wcells a++wcells b:=List.map_append
set_option maxHeartbeats 1000000
end Go.Proofs.A1
namespace Go.Proofs.A1
open Go Go.SL
structure Pk where
  k:Int
  c:Int
  d0:Int
  d1:Int
  d2:Int
  d3:Int
  d4:Int
  d5:Int
  d6:Int
  d7:Int
  d8:Int
  d9:Int
def Pk.D (x:Pk):List Int:=[x.d0,x.d1,x.d2,x.d3,x.d4,x.d5,x.d6,x.d7,x.d8,x.d9]
def Pk.cells (x:Pk):List Value:=[.int .i64 x.k,.int .i64 x.c,.int .u8 x.d0,.int .u8 x.d1,.int .u8 x.d2,.int .u8 x.d3,.int .u8 x.d4,.int .u8 x.d5,.int .u8 x.d6,.int .u8 x.d7,.int .u8 x.d8,.int .u8 x.d9]
def Pk.frm (x:Pk):List Int:=frmL x.k x.c x.D
structure Pk.Ok (x:Pk):Prop where
  k:0 ≤ x.k ∧ x.k ≤ 255
  c:0 ≤ x.c ∧ x.c ≤ 255
  d:∀ y ∈ x.D,0 ≤ y ∧ y ≤ 255
end Go.Proofs.A1
namespace Go.Proofs.A1
open Go Go.SL
end Go.Proofs.A1
namespace Go.Proofs.A1
open Go Go.SL
end Go.Proofs.A1
namespace Go.Proofs.A1
open Go Go.SL
theorem tenD {F:List Int} (h:F.length = 10):F = [F.getD 0 0,F.getD 1 0,F.getD 2 0,F.getD 3 0,F.getD 4 0,F.getD 5 0,F.getD 6 0,F.getD 7 0,F.getD 8 0,F.getD 9 0]:=by
  match F,h with
  | [f0,f1,f2,f3,f4,f5,f6,f7,f8,f9],_=>rfl
end Go.Proofs.A1
namespace Go.Proofs.A1
open Go Go.SL
end Go.Proofs.A1
namespace Go.Proofs.A1
open Go Go.SL
def enR (es:List En):Nat → List Value
  | 0=>[]
  | k + 1=>enR es k++(nth es k).cells
theorem enR_tab (es:List En):∀ n,enR es n = tab n (fun k=>(nth es k).cells)
  | 0=>rfl
  | n + 1=>by rw [enR,enR_tab es n,tab_eq_map,tab_eq_map,List.range_succ];simp
theorem enR_flat (es:List En):enR es es.length = (ensL es).flatten:=by
  rw [enR_tab,tab_eq_map,ensL]
  congr 1
  apply List.ext_getElem
  · simp
  · intro i h1 h2
    simp only [List.length_map,List.length_range] at h1
    simp [nth_eq h1]
theorem ensL_sz (es:List En):∀ r ∈ ensL es,r.length = 6:=by
  intro r hr
  obtain ⟨k,_,rfl⟩:=List.mem_map.1 hr
  rfl
theorem rdEn {c:Cx} {hs hs':List Asn} {w:World} {E:TypeId} {es:List En} {v:Value} (hm:Mem c hs w) (ht:Take hs (row E 6 v es.length (enR es es.length)) hs'):Rd w v 6 (ensL es):=
  hm.rdRow ht (enR_flat es) (ensL_sz es) (ensL_length es)
theorem craneS_c {sv:Value} {es:List En} {w:World} (h1:Rd w sv 6 (ensL es)) (hfew:es.length ≤ 1000) :
    Gives Tryd.prog 18 [.agg #[sv]] w [] (fun _:Value=>True) (fun v=>.agg #[v]) (fun v=>[row 115 6 v es.length (enR es es.length)]):=by
  obtain ⟨a,cap,b,o,rfl,hcap,hmax,ha,hc⟩:=h1
  rw [ensL_length] at *
  unfold maxLen at hmax
  refine gives_of_tr Tryd.func18 rfl rfl ?_
  (refine s_r ?_;refine tr_new (rk_box (.of rfl) rfl) rfl (fun _ _=>?_);refine tr_new (rk_alloc rfl) rfl (fun _ _=>?_);refine n_r ?_;refine tr_new (rk_alloc rfl) rfl (fun _ _=>?_);refine n_t ?_;refine tr_seq ?_;refine s_r ?_;refine f_a rfl rfl norm0_ ?_;refine tr_val (rk_load1 (.of rfl) (At.lit (.there (.there .here)) rfl)) rfl ?_;refine tr_val (rk_len_slice (.of rfl)) rfl ?_;refine m_v rfl rfl ?_;refine n_t ?_;refine tr_block ?_)
  rename_i b1 hb1 b2 hb2 b3 hb3
  refine tr_rowNil 115 6 ?_
  refine tr_for (ι:=Nat × Value) (fun x=>x.1 ≤ es.length) (fun x=>[(9,.int .i64 x.1),(8,.int .i64 es.length),(7,.slice a es.length cap),(2,.pointer (some ⟨b2,0,none⟩)),(3,.pointer (some ⟨b3,0,none⟩))])
    (fun x=>[row 115 6 x.2 x.1 (enR es x.1),blk b3 (.cells #[x.2] 68 (0,0)),blk b2 (.cells #[.slice none 0 0] 68 (0,0))]) (fun x=>es.length - x.1) ?_ ?_
  · apply tr_start (0,.slice none 0 0) (Nat.zero_le _)
    case hs1=>exact .cons rfl (.cons rfl (.cons rfl (.cons rfl (.cons rfl .nil))))
    case ht=>
      show Takes _ [row 115 6 (.slice none 0 0) 0 [],blk b3 (.cells #[.slice none 0 0] 68 (0,0)),blk b2 (.cells #[.slice none 0 0] 68 (0,0))] _
      exact .cons .here (.cons .here (.cons .here .nil))
  rintro ⟨k,v⟩ hk
  dsimp only at hk ⊢
  by_cases hlt:k < es.length
  · have ha':=ha (ensL_ne hlt)
    have hcell:=(hc k _ (ensL_get hlt)).2
    unfold En.cells at hcell
    (refine s_r ?_;refine tr_val (rk_lss (.of rfl) (.of rfl)) rfl ?_;refine n_t ?_;refine tr_seq ?_;refine c_d rfl (fun hcd=>?_) (fun _=>by omega);refine s_t ?_;refine tr_seq ?_;refine tr_block ?_;refine s_r ?_;refine tr_val (rk_indexAddr (.of rfl) (.of rfl) ha' (by omega) hcd norm1_) rfl ?_;refine tr_val (rk_loadN (.of rfl) (Ats.base hcell rfl) rfl) rfl ?_;refine tr_new (rk_alloc rfl) rfl (fun _ _=>?_);refine tr_store (.of rfl) (.of rfl) .here rfl rfl (okc_cons rfl (okc_cons rfl (okc_cons rfl (okc_cons rfl (okc_cons rfl (okc_cons rfl okc_nil)))))) (lenb rfl) norm_ ?_;refine n_t ?_;refine tr_region ?_;refine f_a rfl rfl norm0_ ?_;refine tr_val (rk_load1 (.of rfl) (At.lit (.there (.there .here)) rfl)) rfl ?_;refine f_a rfl rfl norm0_ ?_;refine tr_val (rk_load1 (.of rfl) (At.lit .here rfl)) rfl ?_;refine f_a rfl rfl norm0_ ?_;refine tr_val (rk_load1 (.of rfl) (At.lit .here rfl)) rfl ?_;refine f_a rfl rfl norm0_ ?_;refine tr_val (rk_loadB (.of rfl) .here norm_ (by rfl)) rfl ?_;refine f_a rfl rfl norm0_ ?_;refine tr_val (rk_load1 (.of rfl) (At.lit .here rfl)) rfl ?_;refine f_a rfl rfl norm0_ ?_;refine tr_val (rk_load1 (.of rfl) (At.lit .here rfl)) rfl ?_;refine tr_val (rk_buildL (.cons (.of rfl) (.cons (.of rfl) (.cons (.of rfl) (.cons (.of rfl) (.cons (.of rfl) .nil))))) norm_) rfl ?_;refine tr_new (rk_sliceLitN (.cons (.of rfl) .nil) rfl rfl normp_ normp_ norm_) rfl (fun _ _=>?_))
    refine tr_appendB (.of rfl) (.of rfl) (.there (.there .here)) .here norm_ (by rfl) (okc_cons rfl (okc_cons rfl (okc_cons rfl (okc_cons rfl (okc_cons rfl (okc_cons rfl okc_nil)))))) (by rfl) (by rfl) (by rfl) lenx_ (by rfl) ?_
    intro v'
    refine tr_rowSl (E:=115) (sz:=6) (by exact .here) fun a' cap' e=>?_
    subst e
    (refine f_a rfl rfl norm0_ ?_;refine tr_store (.of rfl) (.of rfl) (.there (.there (.there .here))) rfl rfl (okc_cons rfl okc_nil) (lenb rfl) norm_ ?_;refine tr_nil ?_;refine tr_blk_normal ?_;refine tr_then ?_;refine tr_region ?_;refine tr_val (rk_add (.of rfl) (.of rfl) (ini (by omega))) rfl ?_;refine m_v rfl rfl ?_;refine n_t ?_)
    apply tr_next (k + 1,.slice a' (k + 1) cap') (by show k + 1 ≤ es.length;omega) (by show es.length - (k + 1) < es.length - k;omega)
    case hs1=>exact .cons rfl (.cons rfl (.cons rfl (.cons rfl (.cons rfl .nil))))
    case ht=>
      show Takes _ [row 115 6 (.slice a' (k + 1) cap') (k + 1) (enR es k++(nth es k).cells),blk b3 (.cells #[.slice a' (k + 1) cap'] 68 (0,0)),_] _
      unfold En.cells
      exact .cons (.there .here) (.cons .here (.cons (.there (.there .here)) .nil))
  · obtain rfl:k = es.length:=by omega
    refine tr_rowSl (E:=115) (sz:=6) (by exact .here) fun a' cap' e=>?_
    subst e
    (refine s_r ?_;refine tr_val (rk_lss (.of rfl) (.of rfl)) rfl ?_;refine n_t ?_;refine tr_seq ?_;refine c_d rfl (fun _=>by omega) (fun hcd=>?_);refine x_t ?_;refine tr_then_exit ?_;refine tr_blk_exit ?_;refine tr_then ?_;refine s_r ?_;refine tr_val (rk_loadB (.of rfl) (.there .here) norm_ (by rfl)) rfl ?_;refine tr_store (.of rfl) (.of rfl) (.there (.there .here)) rfl rfl (okc_cons rfl okc_nil) (lenb rfl) norm_ ?_;refine n_t ?_;refine tr_ret ?_)
    first | with_reducible apply tr_retM | with_reducible apply tr_endM
    case he=>exact ends1cB rfl inferInstance rfl .here norm_ (by rfl)
    case hR=>
      intro w' hm'
      exact gives_end (.slice a' es.length cap') trivial (show Takes _ [row 115 6 (.slice a' es.length cap') es.length (enR es es.length)] _ by exact .cons (.there .here) .nil) hm' rfl
end Go.Proofs.A1
