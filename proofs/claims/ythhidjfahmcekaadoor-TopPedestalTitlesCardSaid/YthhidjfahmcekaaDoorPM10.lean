/- Parts of the proof: DU19 DU20 DU21 GkMapR UKp DU22 DU23 DU24 DU25. -/
import Derived.Test.YthhidjfahmcekaaDoorPM09
import Derived.Test.YthhidjfahmcekaaDoorPM05
import Derived.Test.YthhidjfahmcekaaDoorPM08
import Derived.Test.YthhidjfahmcekaaDoorPM07
import Derived.Test.YthhidjfahmcekaaDoorPM06
import Derived.Shelf.Slices.In.SortNone
import Derived.Shelf.SlSortCmp.NoneTotal
import Derived.Laws.IdiomRangeMap
import Derived.Lib.AppendIntMem
set_option linter.unusedSectionVars false
set_option linter.unusedVariables false
set_option linter.unusedSimpArgs false
namespace Go.Proofs.A1
open Go Go.SL
def atW (l:List Cp) (k:Nat):Int:=firstF [cpE (nthC l k),whenF ((l.take k).any (cflw (nthC l k))) 24]
theorem cpAt_ok {l:List Cp} {k:Nat} (h:cpAt l k = 0):CpOk (nthC l k):=by
  unfold cpAt at h
  exact cpE_zero.1 (firstF_zero.1 h (cpE (nthC l k)) (by simp))
theorem any_same {α:Type} {p q:α → Bool} {l:List α} (h:∀ x ∈ l,p x = q x):l.any p = l.any q:=by
  induction l with
  | nil=>rfl
  | cons x l ih=>rw [List.any_cons,List.any_cons,h x (by simp),ih fun y hy=>h y (by simp [hy])]
theorem atW_eq {l:List Cp} {k:Nat} (hk:k < l.length) (h:∀ i,i < k → cpAt l i = 0):atW l k = cpAt l k:=by
  unfold atW cpAt
  by_cases h0:cpE (nthC l k) = 0
  · have hc:=cpE_zero.1 h0
    have:(l.take k).any (cflw (nthC l k)) = (l.take k).any (cfl (nthC l k)):=any_same fun y hy=>by
      obtain ⟨i,hi,rfl⟩:=List.getElem_of_mem hy
      rw [List.length_take] at hi
      have:=cpAt_ok (h i (by omega))
      rw [nthC_get (by omega)] at this
      rw [List.getElem_take]
      exact cflw_ok hc this
    rw [this]
  · simp [firstF,h0]
theorem chkCaps_c {lv:Value} {l:List Cp} {w:World} (h:Rd w lv 5 (cps l)) (hs:∀ x ∈ l,x.tx.size ≤ 1000000000):GivesV Tryd.prog 36 [lv] w (.int .i64 (capE l)):=by
  have h1':=h
  obtain ⟨a,cp,b,o,rfl,hcap,hmax,ha,hc⟩:=h1'
  rw [cps_length] at *
  unfold maxLen at hmax
  refine givesV_of_tr Tryd.func36 rfl rfl ?_
  unfold capE
  (refine s_r ?_;refine a_s rfl rfl ?_;refine n_t ?_;refine tr_seq ?_;refine s_r ?_;refine m_v rfl rfl ?_;refine tr_val (rk_len_slice (.of rfl)) rfl ?_;refine tr_val (rk_gtr (.of rfl) (.of rfl)) rfl ?_;refine n_t ?_;refine c_d rfl (fun hcd=>?_) (fun hcd=>?_);refine s_r ?_;refine a_s rfl rfl ?_;refine n_t ?_;refine r_t ?_;refine tr_retE rfl (ends1 rfl rfl) ?_;rotate_left;refine s_t ?_;refine tr_seq ?_;refine s_r ?_;refine m_v rfl rfl ?_;refine tr_val (rk_len_slice (.of rfl)) rfl ?_;refine m_v rfl rfl ?_;refine n_t ?_;refine tr_block ?_;rotate_right)
  · rw [if_pos (by omega)]
  rw [if_neg (by omega)]
  refine tr_for (fun k:Nat=>k ≤ l.length ∧ ∀ i,i < k → cpAt l i = 0) (fun k=>[(11,.int .i64 k),(10,.int .i64 l.length),(9,.slice a l.length cp),(0,.slice a l.length cp)]) (fun _=>[]) (fun k=>l.length - k) ?_ ?_
  · apply tr_start 0 ⟨Nat.zero_le _,fun i h=>by omega⟩
    case hs1=>exact .cons rfl (.cons rfl (.cons rfl (.cons rfl .nil)))
    case ht=>(try simp only [List.take_zero,List.map_nil,List.nil_append]);exact .nil
  rintro k ⟨hk,hf⟩
  by_cases hlt:k < l.length
  · have ha':=ha (cps_ne hlt)
    subst ha'
    have hcell:=(hc k _ (cps_get hlt)).2
    have hat:=atW_eq hlt hf
    unfold atW at hat
    have hsl:=(h.sliced (l:=0) (m:=k) (by omega) (by omega))
    rw [List.drop_zero,show (cps l).take k = cps (l.take k) by unfold cps;rw [List.map_take]] at hsl
    rw [nthC_get hlt] at hat
    have hck:∀ w,GivesV Tryd.prog 71 [.agg (l[k]).cells.toArray] w (.int .i64 (cpE l[k])):=fun w=>check_c _ (hs _ (List.getElem_mem hlt)) w
    have hcc:∀ w',Keeps [] w w' → GivesV Tryd.prog 72 [sliced (some ⟨b,o,none⟩) 0 ((k:Nat):Int).toNat cp 5,.func (.func 73) #[.agg (l[k]).cells.toArray] #[]] w' (.bool ((l.take k).any (cflw l[k]))):=fun w' hk=>hasC_c _ (hsl.keeps hk)
    generalize hE:cpAt l k = E at hat
    generalize l[k] = x at hcell hck hcc hat
    unfold Cp.cells at hcell hck hcc
    (refine s_r ?_;refine tr_val (rk_lss (.of rfl) (.of rfl)) rfl ?_;refine n_t ?_;refine tr_seq ?_;refine c_d rfl (fun hcd=>?_) (fun _=>by omega);refine s_t ?_;refine tr_seq ?_;refine tr_block ?_;refine s_r ?_;refine m_v rfl rfl ?_;refine tr_val (rk_indexAddr (.of rfl) (.of rfl) rfl (by omega) hcd norm1_) rfl ?_;refine tr_val (rk_loadN (.of rfl) (Ats.base hcell rfl) rfl) rfl ?_;refine tr_new (rk_alloc rfl) rfl (fun _ _=>?_);refine a_s rfl rfl ?_;refine tr_store (.of rfl) (.of rfl) .here rfl rfl (okc_cons rfl (okc_cons rfl (okc_cons rfl (okc_cons rfl (okc_cons rfl okc_nil))))) (lenb rfl) norm_ ?_;refine n_t ?_;refine tr_seq ?_)
    with_reducible refine tr_drawO 10 (by kernel_rfl) ?_
    (refine ao_val (rk_loadB (.of rfl) .here norm_ (by rfl)) rfl ?_;refine ao_call (rk_call (.of rfl) (.cons (.of rfl) .nil) inferInstance normc_) rfl (fun w' hm'=>(hck w')) ?_;refine ao_val (rk_move (.of rfl)) rfl ?_;refine ao_val (rk_move (.of rfl)) rfl ?_;refine ao_val (rk_slice_h (.of rfl) (.of rfl) (by omega) (by omega)) rfl ?_;refine ao_val (rk_loadB (.of rfl) .here norm_ (by rfl)) rfl ?_;refine ao_val (rk_makeFunc' (.cons (.of rfl) .nil) .nil) rfl ?_;refine ao_call (rk_call (.of rfl) (.cons (.of rfl) (.cons (.of rfl) .nil)) inferInstance normc_) rfl (fun w' hm'=>(hcc w' (Mem.keeps hm'))) ?_;refine ao_call (rk_call (.of rfl) (.cons (.of rfl) (.cons (.of rfl) .nil)) inferInstance normc_) rfl (fun w' hm'=>(when_c _ 24 w')) ?_;refine ao_new (rk_sliceLit (.cons (.of rfl) (.cons (.of rfl) .nil)) rfl rfl rfl rfl) rfl rfl ?_)
    with_reducible refine ao_end1 rfl fun bq hbq=>?_
    (refine tr_callV (rk_call (.of rfl) (.cons (.of rfl) .nil) inferInstance normc_) rfl (fun w' hm'=>(first_pB (Mem.rdBlk hm' .here rfl rfl) (IntL.cons (IntL.cons IntL.nil)))) ?_;refine a_s rfl rfl ?_;refine n_r ?_;refine m_v rfl rfl ?_;refine tr_val (rk_neq (.of rfl) (.of rfl)) rfl ?_;refine n_t ?_;refine c_d rfl (fun hcd=>?_) (fun hcd=>?_);refine s_r ?_;refine m_v rfl rfl ?_;refine a_s rfl rfl ?_;refine n_t ?_;refine tr_ret ?_;refine tr_blk_ret ?_;refine tr_then_ret ?_;refine tr_then_ret ?_;refine tr_blk_ret ?_;refine tr_then_ret ?_;refine tr_retE rfl (ends1 rfl rfl) ?_;rotate_left;refine tr_skip ?_;refine tr_blk_normal ?_;refine tr_then ?_;refine tr_region ?_;refine tr_val (rk_add (.of rfl) (.of rfl) (ini (by omega))) rfl ?_;refine m_v rfl rfl ?_;refine n_t ?_;rotate_right)
    · rw [hat] at hcd
      rw [hat,errE_bad (fun i hi=>hf i hi) hlt (by rw [hE];exact hcd),hE]
    · rw [hat] at hcd
      apply tr_next (k + 1) ⟨show k + 1 ≤ l.length from hlt,fun i hi=>by
        by_cases e:i = k
        · rw [e,hE];exact Decidable.not_not.1 hcd
        · exact hf i (by omega)⟩ (show l.length - (k + 1) < l.length - k by omega)
      case hs1=>exact .cons rfl (.cons rfl (.cons rfl (.cons rfl .nil)))
      case ht=>(try simp only [List.take_zero,List.map_nil,List.nil_append]);exact .nil
  · obtain rfl:k = l.length:=by omega
    (refine s_r ?_;refine tr_val (rk_lss (.of rfl) (.of rfl)) rfl ?_;refine n_t ?_;refine tr_seq ?_;refine c_d rfl (fun _=>by omega) (fun hcd=>?_);refine x_t ?_;refine tr_then_exit ?_;refine tr_blk_exit ?_;refine tr_then ?_;refine s_r ?_;refine a_s rfl rfl ?_;refine n_t ?_;refine tr_ret ?_;refine tr_retE rfl (ends1 rfl rfl) ?_)
    rw [errE_ok.2 hf]
end Go.Proofs.A1
namespace Go.Proofs.A1
open Go Go.SL
def fillV (k:Nat):List Value:=List.replicate k (.int .u8 32)++List.replicate (32 - k) (.int .u8 0)
theorem fillV_len {k:Nat} (h:k ≤ 32):(fillV k).length = 32:=by simp [fillV];omega
theorem fillV_set {k:Nat} (h:k < 32):setCells (fillV k) (k * 1) [.int .u8 32] = fillV (k + 1):=by
  show (fillV k).set (k * 1) (.int .u8 32) = _
  unfold fillV
  rw [Nat.mul_one,List.set_append_right _ _ (by simp),show 32 - k = (32 - (k + 1)) + 1 by omega,List.replicate_succ (n:=32 - (k + 1)),List.length_replicate,Nat.sub_self,List.set_cons_zero,List.replicate_succ',List.append_assoc]
  rfl
def outV (l:List Cp) (n:Int) (r:Nat):List Value:=(List.range 8).map fun (i:Nat)=>Value.string (if i < r then strB (rowB l n (i:Nat)) else ⟨#[]⟩)
theorem outV_len (l:List Cp) (n:Int) (r:Nat):(outV l n r).length = 8:=by unfold outV;rw [List.length_map,List.length_range]
theorem outV_set {l:List Cp} {n:Int} {r:Nat} (h:r < 8):setCells (outV l n r) (r * 1) [.string (strB (rowB l n (r:Nat)))] = outV l n (r + 1):=by
  show (outV l n r).set (r * 1) _ = _
  rw [Nat.mul_one]
  apply List.ext_getElem?
  intro i
  unfold outV
  rw [List.getElem?_set]
  by_cases hi:i < 8
  · by_cases e:r = i
    · subst e;simp [hi]
    · simp [hi,e]
      have:(i < r) ↔ (i < r + 1):=by omega
      simp [this]
  · rw [if_neg (by omega)]
    rw [List.getElem?_eq_none (by simp;omega),List.getElem?_eq_none (by simp;omega)]
theorem outV_8 (l:List Cp) (n:Int):outV l n 8 = (scrL l n).map Value.string:=by
  unfold outV scrL
  rw [List.map_map]
  apply List.map_congr_left
  intro i hi
  have:=List.mem_range.1 hi
  simp [this]
theorem line_sl {g:Nat} {co:Int} (h:0 ≤ co ∧ co ≤ 31):sliced (some ⟨g,0,none⟩) co.toNat 32 32 1 = .slice (some ⟨g,co.toNat,none⟩) (32 - co.toNat) (32 - co.toNat):=by
  simp [sliced,show ¬ (32:Nat) = co.toNat by omega,addr_add]
theorem cellsAt_all {cs:List Value} {n:Nat} (h:cs.length = n):cellsAt cs 0 n = cs:=by rw [cellsAt_eq,List.drop_zero,List.take_of_length_le (by omega)]
theorem onC_iff {x:Cp} {n r:Int}:onC x n r = true ↔ x.rw = r ∧ x.fr ≤ n ∧ n < x.to:=by unfold onC;simp
theorem scr_lit (l:List Cp) (n:Int):(scrL l n).map Value.string = [.string (strB (rowB l n 0)),.string (strB (rowB l n 1)),.string (strB (rowB l n 2)),.string (strB (rowB l n 3)),.string (strB (rowB l n 4)),.string (strB (rowB l n 5)),.string (strB (rowB l n 6)),.string (strB (rowB l n 7))]:=rfl
set_option maxHeartbeats 2000000 in
theorem shown_c {lv:Value} {l:List Cp} {n:Int} {w:World} (h:Rd w lv 5 (cps l)) (hk:CapOk l):GivesV Tryd.prog 38 [lv,.int .i64 n] w (.agg ((scrL l n).map Value.string).toArray):=by
  have h1':=h
  obtain ⟨a,cp,b,o,rfl,hcap,hmax,ha,hc⟩:=h1'
  rw [cps_length] at *
  unfold maxLen at hmax
  have hfew:=hk.few
  refine givesV_of_tr Tryd.func38 rfl rfl ?_
  (refine s_r ?_;refine tr_new (rk_alloc rfl) rfl (fun _ _=>?_);refine n_r ?_;refine tr_new (rk_alloc rfl) rfl (fun _ _=>?_);refine n_t ?_;refine tr_seq ?_;refine s_r ?_;refine m_v rfl rfl ?_;refine n_t ?_;refine tr_block ?_)
  rename_i b4 hb4 b5 hb5
  refine tr_for (fun r:Nat=>r ≤ 8) (fun r=>[(11,.int .i64 r),(5,.pointer (some ⟨b5,0,none⟩)),(4,.pointer (some ⟨b4,0,none⟩)),(0,.slice a l.length cp),(1,.int .i64 n)]) (fun r=>[blk b5 (.cells (outV l n r).toArray 50 (0,0)),blk b4 (.cells #[.string ⟨#[]⟩,.string ⟨#[]⟩,.string ⟨#[]⟩,.string ⟨#[]⟩,.string ⟨#[]⟩,.string ⟨#[]⟩,.string ⟨#[]⟩,.string ⟨#[]⟩] 50 (0,0))]) (fun r=>8 - r) ?_ ?_
  · apply tr_start 0 (by omega)
    case hs1=>exact .cons rfl (.cons rfl (.cons rfl (.cons rfl (.cons rfl .nil))))
    case ht=>
      show Takes _ [blk b5 (.cells #[.string ⟨#[]⟩,.string ⟨#[]⟩,.string ⟨#[]⟩,.string ⟨#[]⟩,.string ⟨#[]⟩,.string ⟨#[]⟩,.string ⟨#[]⟩,.string ⟨#[]⟩] 50 (0,0)),blk b4 (.cells #[.string ⟨#[]⟩,.string ⟨#[]⟩,.string ⟨#[]⟩,.string ⟨#[]⟩,.string ⟨#[]⟩,.string ⟨#[]⟩,.string ⟨#[]⟩,.string ⟨#[]⟩] 50 (0,0))] _
      exact .cons .here (.cons .here .nil)
  intro r hr
  by_cases hlt:r < 8
  · have hset:=outV_set (l:=l) (n:=n) hlt
    have hsl:r * 1 + 1 ≤ (outV l n r).length:=by rw [outV_len];omega
    (refine s_r ?_;refine tr_val (rk_lss (.of rfl) (.of rfl)) rfl ?_;refine n_t ?_;refine tr_seq ?_;refine c_d rfl (fun hcd=>?_) (fun _=>by omega);refine s_t ?_;refine tr_seq ?_;refine tr_block ?_;refine s_r ?_;refine m_v rfl rfl ?_;refine a_s rfl rfl ?_;refine n_r ?_)
    with_reducible apply tr_new
    case hr=>
      with_reducible apply rk_make (l:=32) (cp:=32)
      case hx=>exact Is.of rfl
      case hy=>exact Is.of rfl
      case hl=>omega
      case hb=>omega
      case hz=>rfl
      case hsz=>rfl
      case h63=>omega
    case hd=>rfl
    intro g hg
    rw [show (List.replicate 32 (Value.int .u8 0).cells.toList).flatten = fillV 0 from rfl]
    (refine a_s rfl rfl ?_;refine n_t ?_;refine tr_seq ?_;refine s_r ?_;refine m_v rfl rfl ?_;refine tr_val (rk_len_slice (.of rfl)) rfl ?_;refine m_v rfl rfl ?_;refine n_t ?_;refine tr_block ?_)
    refine tr_for (fun k:Nat=>k ≤ 32) (fun k=>[(17,.int .i64 k),(16,.int .i64 32),(7,.slice (some ⟨g,0,none⟩) 32 32),(6,.int .i64 (r:Nat)),(11,.int .i64 (r:Nat)),(5,.pointer (some ⟨b5,0,none⟩)),(4,.pointer (some ⟨b4,0,none⟩)),(0,.slice a l.length cp),(1,.int .i64 n)]) (fun k=>[blk g (.cells (fillV k).toArray 5 (0,0)),blk b5 (.cells (outV l n r).toArray 50 (0,0)),blk b4 (.cells #[.string ⟨#[]⟩,.string ⟨#[]⟩,.string ⟨#[]⟩,.string ⟨#[]⟩,.string ⟨#[]⟩,.string ⟨#[]⟩,.string ⟨#[]⟩,.string ⟨#[]⟩] 50 (0,0))]) (fun k=>32 - k) ?_ ?_
    · apply tr_start 0 (by omega)
      case hs1=>exact .cons rfl (.cons rfl (.cons rfl (.cons rfl (.cons rfl (.cons rfl (.cons rfl (.cons rfl (.cons rfl .nil))))))))
      case ht=>exact .cons .here (.cons .here (.cons .here .nil))
    intro k hk2
    by_cases hlk:k < 32
    · have hset2:=fillV_set hlk
      have hsl2:k * 1 + 1 ≤ (fillV k).length:=by rw [fillV_len hk2];omega
      (refine s_r ?_;refine tr_val (rk_lss (.of rfl) (.of rfl)) rfl ?_;refine n_t ?_;refine tr_seq ?_;refine c_d rfl (fun hcd=>?_) (fun _=>by omega);refine s_t ?_;refine tr_seq ?_;refine tr_block ?_;refine s_r ?_;refine m_v rfl rfl ?_;refine a_s rfl rfl ?_;refine n_t ?_;refine tr_region ?_;refine m_v rfl rfl ?_;refine m_v rfl rfl ?_;refine tr_val (rk_indexAddr (.of rfl) (.of rfl) rfl (by omega) hcd norm1_) rfl ?_;refine tr_store (.of rfl) (.of rfl) .here rfl rfl (okc_cons rfl okc_nil) hsl2 hset2 ?_;refine tr_nil ?_;refine tr_blk_normal ?_;refine tr_then ?_;refine tr_region ?_;refine tr_val (rk_add (.of rfl) (.of rfl) (ini (by omega))) rfl ?_;refine m_v rfl rfl ?_;refine n_t ?_)
      apply tr_next (k + 1) (show k + 1 ≤ 32 by omega) (by omega)
      case hs1=>exact .cons rfl (.cons rfl (.cons rfl (.cons rfl (.cons rfl (.cons rfl (.cons rfl (.cons rfl (.cons rfl .nil))))))))
      case ht=>exact .cons .here (.cons .here (.cons .here .nil))
    · obtain rfl:k = 32:=by omega
      rw [show fillV 32 = lineV l n (r:Nat) 0 from rfl]
      (refine s_r ?_;refine tr_val (rk_lss (.of rfl) (.of rfl)) rfl ?_;refine n_t ?_;refine tr_seq ?_;refine c_d rfl (fun _=>by omega) (fun hcd=>?_);refine x_t ?_;refine tr_then_exit ?_;refine tr_blk_exit ?_;refine tr_then ?_;refine tr_seq ?_;refine s_r ?_;refine m_v rfl rfl ?_;refine tr_val (rk_len_slice (.of rfl)) rfl ?_;refine m_v rfl rfl ?_;refine n_t ?_;refine tr_block ?_)
      refine tr_for (fun j:Nat=>j ≤ l.length) (fun j=>[(26,.int .i64 j),(25,.int .i64 l.length),(24,.slice a l.length cp),(7,.slice (some ⟨g,0,none⟩) 32 32),(6,.int .i64 (r:Nat)),(11,.int .i64 (r:Nat)),(5,.pointer (some ⟨b5,0,none⟩)),(4,.pointer (some ⟨b4,0,none⟩)),(0,.slice a l.length cp),(1,.int .i64 n)]) (fun j=>[blk g (.cells (lineV l n (r:Nat) j).toArray 5 (0,0)),blk b5 (.cells (outV l n r).toArray 50 (0,0)),blk b4 (.cells #[.string ⟨#[]⟩,.string ⟨#[]⟩,.string ⟨#[]⟩,.string ⟨#[]⟩,.string ⟨#[]⟩,.string ⟨#[]⟩,.string ⟨#[]⟩,.string ⟨#[]⟩] 50 (0,0))]) (fun j=>l.length - j) ?_ ?_
      · apply tr_start 0 (by omega)
        case hs1=>exact .cons rfl (.cons rfl (.cons rfl (.cons rfl (.cons rfl (.cons rfl (.cons rfl (.cons rfl (.cons rfl (.cons rfl .nil)))))))))
        case ht=>exact .cons .here (.cons .here (.cons .here .nil))
      intro j hj
      by_cases hlj:j < l.length
      · have ha':=ha (cps_ne hlj)
        subst ha'
        have hcell:=(hc j _ (cps_get hlj)).2
        have ho:=hk.ok j hlj
        have hskip:=line_skip (l:=l) (n:=n) (r:=(r:Nat)) hlj
        have hcopy:=line_copy (n:=n) (r:=(r:Nat)) hk hlj
        have hon:=onC_iff (x:=nthC l j) (n:=n) (r:=(r:Nat))
        have hll:=lineV_len l n (r:Nat) j
        rw [← nthC_get hlj] at hcell
        generalize nthC l j = x at hcell ho hskip hcopy hon
        unfold Cp.cells at hcell
        have hco:=ho.co
        have hfit:=ho.fit
        (refine s_r ?_;refine tr_val (rk_lss (.of rfl) (.of rfl)) rfl ?_;refine n_t ?_;refine tr_seq ?_;refine c_d rfl (fun hcd=>?_) (fun _=>by omega);refine s_t ?_;refine tr_seq ?_;refine tr_block ?_;refine s_r ?_;refine tr_val (rk_indexAddr (.of rfl) (.of rfl) rfl (by omega) hcd norm1_) rfl ?_;refine tr_val (rk_loadN (.of rfl) (Ats.base hcell rfl) rfl) rfl ?_;refine tr_new (rk_alloc rfl) rfl (fun _ _=>?_);refine tr_store (.of rfl) (.of rfl) .here rfl rfl (okc_cons rfl (okc_cons rfl (okc_cons rfl (okc_cons rfl (okc_cons rfl okc_nil))))) (lenb rfl) norm_ ?_;refine n_r ?_;refine f_a rfl rfl norm0_ ?_;refine tr_val (rk_load1 (.of rfl) (At.lit .here rfl)) rfl ?_;refine m_v rfl rfl ?_;refine tr_val (rk_eql (.of rfl) (.of rfl)) rfl ?_;refine m_v rfl rfl ?_;refine tr_vG1 rfl rfl inferInstance (fun hg hgp=>(rk_fieldAddr (.of rfl) norm0_)) rfl ?_;refine tr_vG1 rfl rfl inferInstance (fun hg hgp=>(rk_fieldAddr (.ofg hg rfl) norm0_)) rfl ?_;refine tr_vG1 rfl rfl inferInstance (fun hg hgp=>(rk_load1 (.ofg hg rfl) (At.lit .here rfl))) rfl ?_;refine v_g rfl rfl rfl rfl ?_;refine tr_vG1 rfl rfl inferInstance (fun hg hgp=>(rk_leq (.ofg hg rfl) (.ofg hg rfl))) rfl ?_;refine tr_val (rk_pick_and (.of rfl) rfl) rfl ?_;refine m_v rfl rfl ?_;refine v_g rfl rfl rfl rfl ?_;refine tr_vG1 rfl rfl inferInstance (fun hg hgp=>(rk_fieldAddr (.of rfl) norm0_)) rfl ?_;refine tr_vG1 rfl rfl inferInstance (fun hg hgp=>(rk_fieldAddr (.ofg hg rfl) norm0_)) rfl ?_;refine tr_vG1 rfl rfl inferInstance (fun hg hgp=>(rk_load1 (.ofg hg rfl) (At.lit .here rfl))) rfl ?_;refine tr_vG1 rfl rfl inferInstance (fun hg hgp=>(rk_lss (.ofg hg rfl) (.ofg hg rfl))) rfl ?_;refine tr_val (rk_pick_and (.of rfl) rfl) rfl ?_;refine n_t ?_;refine c_b rfl (fun hcd=>?_) (fun hcd=>?_);rotate_left;refine tr_skip ?_;refine tr_blk_normal ?_;refine tr_then ?_;refine tr_region ?_;refine tr_val (rk_add (.of rfl) (.of rfl) (ini (by omega))) rfl ?_;refine m_v rfl rfl ?_;refine n_t ?_;rotate_right)
        · have hon':onC x n (r:Nat) = true:=hon.2 ⟨hcd.1.1,hcd.1.2,hcd.2⟩
          have he:=hcopy hon'
          with_reducible refine tr_draw 6 (by kernel_rfl) ?_
          (refine a_m rfl rfl ?_;refine a_f rfl rfl norm0_ ?_;refine any_val (rk_load1 (.of rfl) (At.lit .here rfl)) rfl ?_;refine any_val (rk_slice_l (.of rfl) (.of rfl) (by omega) (by omega)) rfl ?_;refine a_f rfl rfl norm0_ ?_;refine any_val (rk_load1 (.of rfl) (At.lit .here rfl)) rfl ?_)
          with_reducible refine any_end ?_
          rw [line_sl hco]
          with_reducible apply tr_copyS
          case hx=>exact Is.of rfl
          case hy=>exact Is.of rfl
          case ht=>exact Take.there .here
          case hn=>omega
          case hfit=>rw [hll];omega
          case hd=>rfl
          rw [he]
          (refine tr_nil ?_;refine tr_blk_normal ?_;refine tr_then ?_;refine tr_region ?_;refine tr_val (rk_add (.of rfl) (.of rfl) (ini (by omega))) rfl ?_;refine m_v rfl rfl ?_;refine n_t ?_)
          apply tr_next (j + 1) (show j + 1 ≤ l.length by omega) (by omega)
          case hs1=>exact .cons rfl (.cons rfl (.cons rfl (.cons rfl (.cons rfl (.cons rfl (.cons rfl (.cons rfl (.cons rfl (.cons rfl .nil)))))))))
          case ht=>exact .cons .here (.cons (.there .here) (.cons (.there .here) .nil))
        · have hon':onC x n (r:Nat) = false:=by
            rw [Bool.eq_false_iff]
            intro h
            have:=hon.1 h
            omega
          rw [← hskip hon']
          apply tr_next (j + 1) (show j + 1 ≤ l.length by omega) (by omega)
          case hs1=>exact .cons rfl (.cons rfl (.cons rfl (.cons rfl (.cons rfl (.cons rfl (.cons rfl (.cons rfl (.cons rfl (.cons rfl .nil)))))))))
          case ht=>exact .cons (.there .here) (.cons (.there .here) (.cons (.there .here) .nil))
      · obtain rfl:j = l.length:=by omega
        rw [line_end]
        (refine s_r ?_;refine tr_val (rk_lss (.of rfl) (.of rfl)) rfl ?_;refine n_t ?_;refine tr_seq ?_;refine c_d rfl (fun _=>by omega) (fun hcd=>?_);refine x_t ?_;refine tr_then_exit ?_;refine tr_blk_exit ?_;refine tr_then ?_;refine tr_region ?_;refine m_v rfl rfl ?_;refine m_v rfl rfl ?_)
        with_reducible apply tr_val (V:=.string (strOf (rowB l n (r:Nat))))
        case hr=>
          with_reducible apply rk_convBSn
          case hx=>exact Is.of rfl
          case hv=>exact Ats.blk (by exact .here) (cellsAt_all (n:=32) (by rw [List.length_map,rowB_len]))
          case hl=>exact rowB_len _ _ _
        case hd=>rfl
        rw [strOf_strB]
        (refine tr_val (rk_indexAddrA (.of rfl) (.of rfl) (by omega) (by assumption) norm1_) rfl ?_;refine tr_store (.of rfl) (.of rfl) (.there .here) rfl rfl (okc_cons rfl okc_nil) hsl hset ?_;refine tr_nil ?_;refine tr_blk_normal ?_;refine tr_then ?_;refine tr_region ?_;refine tr_val (rk_add (.of rfl) (.of rfl) (ini (by omega))) rfl ?_;refine m_v rfl rfl ?_;refine n_t ?_)
        apply tr_next (r + 1) (show r + 1 ≤ 8 by omega) (by omega)
        case hs1=>exact .cons rfl (.cons rfl (.cons rfl (.cons rfl (.cons rfl .nil))))
        case ht=>exact .cons .here (.cons (.there .here) .nil)
  · obtain rfl:r = 8:=by omega
    rw [outV_8,scr_lit]
    (refine s_r ?_;refine tr_val (rk_lss (.of rfl) (.of rfl)) rfl ?_;refine n_t ?_;refine tr_seq ?_;refine c_d rfl (fun _=>by omega) (fun hcd=>?_);refine x_t ?_;refine tr_then_exit ?_;refine tr_blk_exit ?_;refine tr_then ?_;refine s_r ?_;refine tr_val (rk_loadB (.of rfl) .here norm_ (by rfl)) rfl ?_;refine tr_store (.of rfl) (.of rfl) (.there .here) rfl rfl (okc_cons rfl (okc_cons rfl (okc_cons rfl (okc_cons rfl (okc_cons rfl (okc_cons rfl (okc_cons rfl (okc_cons rfl okc_nil)))))))) (lenb rfl) norm_ ?_;refine n_t ?_;refine tr_ret ?_;refine tr_retE rfl (ends1cB rfl inferInstance rfl .here norm_ (by rfl)) ?_)
    rfl
def shnE (l:List Cp) (n:Int):Int:=firstF [capE l,withinF n 0 10000000]
theorem shnE_zero {l:List Cp} {n:Int}:shnE l n = 0 ↔ CapOk l ∧ 0 ≤ n ∧ n ≤ 10000000:=by
  unfold shnE
  rw [firstF_zero]
  simp only [List.mem_cons,List.not_mem_nil,or_false,forall_eq_or_imp,forall_eq,withinF_zero,capE_zero]
def noneL:List ByteArray:=List.replicate 8 ⟨#[]⟩
def shnX (l:List Cp) (n:Int):List ByteArray:=if shnE l n = 0 then scrL l n else noneL
theorem shownX_c {lv:Value} {l:List Cp} {n:Int} {w:World} (h:Rd w lv 5 (cps l)) (hs:∀ x ∈ l,x.tx.size ≤ 1000000000):GivesV Tryd.prog 13 [lv,.int .i64 n] w (.tuple #[.agg ((shnX l n).map Value.string).toArray,.int .i64 (shnE l n)]):=by
  have hz:=shnE_zero (l:=l) (n:=n)
  refine givesV_of_tr Tryd.func13 rfl rfl ?_
  unfold shnX
  generalize hE:shnE l n = E at hz ⊢
  unfold shnE at hE
  by_cases h0:E = 0
  · obtain ⟨hk,hn⟩:=hz.1 h0
    rw [if_pos h0,h0]
    rw [h0] at hE
    clear hz h0
    (refine s_r ?_;refine tr_new (rk_alloc rfl) rfl (fun _ _=>?_);refine a_s rfl rfl ?_;refine n_t ?_;refine tr_seq ?_;refine s_r ?_;refine m_v rfl rfl ?_;refine tr_callV (rk_call (.of rfl) (.cons (.of rfl) .nil) inferInstance normc_) rfl (fun w' hm'=>(chkCaps_c (Rd.keeps h (Mem.keeps hm')) hs)) ?_;refine m_v rfl rfl ?_;refine tr_callV (rk_call (.of rfl) (.cons (.of rfl) (.cons (.of rfl) (.cons (.of rfl) .nil))) inferInstance normc_) rfl (fun w' hm'=>(within_c n 0 10000000 w')) ?_;refine tr_new (rk_sliceLit (.cons (.of rfl) (.cons (.of rfl) .nil)) rfl rfl rfl rfl) rfl (fun _ _=>?_);refine tr_callV (rk_call (.of rfl) (.cons (.of rfl) .nil) inferInstance normc_) rfl (fun w' hm'=>(first_pB (Mem.rdBlk hm' .here rfl rfl) (IntL.cons (IntL.cons IntL.nil)))) ?_;refine a_s rfl rfl ?_;refine n_r ?_;refine m_v rfl rfl ?_;refine tr_val (rk_neq (.of rfl) (.of rfl)) rfl ?_;refine n_t ?_;refine c_d rfl (fun _=>by omega) (fun hcd=>?_);refine s_t ?_;refine s_r ?_;refine m_v rfl rfl ?_;refine m_v rfl rfl ?_;refine tr_callV (rk_call (.of rfl) (.cons (.of rfl) (.cons (.of rfl) .nil)) inferInstance normc_) rfl (fun w' hm'=>(shown_c (Rd.keeps h (Mem.keeps hm')) hk)) ?_;refine tr_store (.of rfl) (.of rfl) (.there .here) rfl rfl (okc_cons rfl (okc_cons rfl (okc_cons rfl (okc_cons rfl (okc_cons rfl (okc_cons rfl (okc_cons rfl (okc_cons rfl okc_nil)))))))) (lenb rfl) norm_ ?_;refine a_s rfl rfl ?_;refine n_t ?_;refine tr_ret ?_;refine tr_retE rfl (endsCT rfl inferInstance rfl .here norm_ (by rfl) (by rfl)) ?_)
    rw [setCells_full (by simp [scrL]),cellsAt_all (by simp [scrL])]
  · rw [if_neg h0]
    clear hz
    (refine s_r ?_;refine tr_new (rk_alloc rfl) rfl (fun _ _=>?_);refine a_s rfl rfl ?_;refine n_t ?_;refine tr_seq ?_;refine s_r ?_;refine m_v rfl rfl ?_;refine tr_callV (rk_call (.of rfl) (.cons (.of rfl) .nil) inferInstance normc_) rfl (fun w' hm'=>(chkCaps_c (Rd.keeps h (Mem.keeps hm')) hs)) ?_;refine m_v rfl rfl ?_;refine tr_callV (rk_call (.of rfl) (.cons (.of rfl) (.cons (.of rfl) (.cons (.of rfl) .nil))) inferInstance normc_) rfl (fun w' hm'=>(within_c n 0 10000000 w')) ?_;refine tr_new (rk_sliceLit (.cons (.of rfl) (.cons (.of rfl) .nil)) rfl rfl rfl rfl) rfl (fun _ _=>?_);refine tr_callV (rk_call (.of rfl) (.cons (.of rfl) .nil) inferInstance normc_) rfl (fun w' hm'=>(first_pB (Mem.rdBlk hm' .here rfl rfl) (IntL.cons (IntL.cons IntL.nil)))) ?_;refine a_s rfl rfl ?_;refine n_r ?_;refine m_v rfl rfl ?_;refine tr_val (rk_neq (.of rfl) (.of rfl)) rfl ?_;refine n_t ?_;refine c_d rfl (fun hcd=>?_) (fun _=>by omega);refine s_r ?_;refine tr_val (rk_buildL .nil norm_) rfl ?_;refine m_v rfl rfl ?_;refine tr_store (.of rfl) (.of rfl) (.there .here) rfl rfl (okc_cons rfl (okc_cons rfl (okc_cons rfl (okc_cons rfl (okc_cons rfl (okc_cons rfl (okc_cons rfl (okc_cons rfl okc_nil)))))))) (lenb rfl) norm_ ?_;refine a_s rfl rfl ?_;refine n_t ?_;refine r_t ?_;refine tr_retE rfl (endsCT rfl inferInstance rfl .here norm_ (by rfl) (by rfl)) ?_)
    rw [hE];rfl
end Go.Proofs.A1
namespace Go.Proofs.A1
open Go Go.SL Go.Shelf Go.RowKit
instance :Inhabited Cp:=⟨Cp.zero⟩
end Go.Proofs.A1
namespace Go.SL
open Go
section
variable {P:Program} {r:Option Nat} {c:Cx} {D:List Nat} {sl:Slots} {hs hs' hs2:List Asn} {Q:Exit → Act → World → Prop} {ops:Array Oper} {d:Nat} {dst:Option Tmp} {ty:TypeId} {pos:String} {af:Array Edge} {g:Option (Nat × Bool)} {rest:List Oper} {κ:Type} [DecidableEq κ] {kv:κ → Value}
end
end Go.SL
namespace Go.Proofs.A1
open Go Go.SL
def keysM (m:List (Int × Value)):List Int:=m.map (·.1)
theorem aset_mem (k:Int) (v:Value):∀ (m:List (Int × Value)) (x:Int),x ∈ keysM (aset k v m) ↔ x = k ∨ x ∈ keysM m
  | [],x=>by simp [aset,keysM]
  | (y, u) :: r, x => by
    have ih:=aset_mem k v r x
    unfold aset
    by_cases h:k = y
    · rw [if_pos h]
      subst h
      simp [keysM]
    · rw [if_neg h]
      simp only [keysM,List.map_cons,List.mem_cons] at ih ⊢
      rw [ih]
      constructor
      · rintro (h | h | h)
        · exact .inr (.inl h)
        · exact .inl h
        · exact .inr (.inr h)
      · rintro (h | h | h)
        · exact .inr (.inl h)
        · exact .inl h
        · exact .inr (.inr h)
theorem aset_nodup (k:Int) (v:Value):∀ (m:List (Int × Value)),(keysM m).Nodup → (keysM (aset k v m)).Nodup
  | [],_=>by simp [aset,keysM]
  | (y, u) :: r, h => by
    unfold aset
    by_cases e:k = y
    · rw [if_pos e];exact h
    · rw [if_neg e]
      simp only [keysM,List.map_cons,List.nodup_cons] at h ⊢
      refine ⟨fun hm=>?_,aset_nodup k v r h.2⟩
      rcases (aset_mem k v r y).1 hm with h1 | h1
      · exact e h1.symm
      · exact h.1 h1
structure EndM (l:List Cp) (j:Nat) (m:List (Int × Value)):Prop where
  nd:(keysM m).Nodup
  mem:∀ x,x ∈ keysM m ↔ endB (l.take j) x = true
theorem EndM.zero (l:List Cp):EndM l 0 []:=⟨by simp [keysM],fun x=>by simp [keysM,endB]⟩
theorem endB_next {l:List Cp} {j:Nat} (hj:j < l.length) (x:Int):endB (l.take (j + 1)) x = (endB (l.take j) x || (decide ((l[j]).fr = x) || decide ((l[j]).to = x))):=by
  unfold endB;rw [List.take_succ_eq_append_getElem hj,List.any_append];simp
theorem EndM.next {l:List Cp} {j:Nat} {m:List (Int × Value)} (h:EndM l j m) (hj:j < l.length) {a b:Int} (u v:Value) (hab:(a = (l[j]).fr ∧ b = (l[j]).to) ∨ (a = (l[j]).to ∧ b = (l[j]).fr)):EndM l (j + 1) (aset b v (aset a u m)):=by
  refine ⟨aset_nodup _ _ _ (aset_nodup _ _ _ h.nd),fun x=>?_⟩
  rw [aset_mem,aset_mem,h.mem,endB_next hj]
  simp only [Bool.or_eq_true,decide_eq_true_eq]
  rcases hab with ⟨rfl,rfl⟩ | ⟨rfl,rfl⟩
  · constructor
    · rintro (h | h | h)
      · exact .inr (.inr h.symm)
      · exact .inr (.inl h.symm)
      · exact .inl h
    · rintro (h | h | h)
      · exact .inr (.inr h)
      · exact .inr (.inl h.symm)
      · exact .inl h.symm
  · constructor
    · rintro (h | h | h)
      · exact .inr (.inl h.symm)
      · exact .inr (.inr h.symm)
      · exact .inl h
    · rintro (h | h | h)
      · exact .inr (.inr h)
      · exact .inl h.symm
      · exact .inr (.inl h.symm)
theorem endB_perm {l l':List Cp} (h:List.Perm l' l) (x:Int):endB l' x = endB l x:=by
  unfold endB
  rw [Bool.eq_iff_iff,List.any_eq_true,List.any_eq_true]
  constructor
  · rintro ⟨y,hy,h2⟩;exact ⟨y,h.mem_iff.1 hy,h2⟩
  · rintro ⟨y,hy,h2⟩;exact ⟨y,h.mem_iff.2 hy,h2⟩
structure FndM (l:List Cp) (es:Array MapEntry) (seen:Array Nat) (out:List Int):Prop where
  nd:out.Nodup
  mem:∀ x,x ∈ out ↔ (∃ e ∈ es.toList,seen.contains e.born = true ∧ e.key = .int .i64 x) ∧ chB l x = true
theorem FndM.zero (l:List Cp) (es:Array MapEntry):FndM l es #[] []:=⟨by simp,fun x=>by simp⟩
theorem ent_keys {m:List (Int × Value)} {es:Array MapEntry} {ck:Nat} (h:mpOk (fun n:Int=>Value.int .i64 n) m es ck):es.toList.map (·.key) = (keysM m).map (Value.int .i64):=by
  have:=congrArg (List.map (·.1)) h.eq
  rw [List.map_map,List.map_map] at this
  unfold keysM
  rw [List.map_map]
  exact this
theorem ent_int {m:List (Int × Value)} {es:Array MapEntry} {ck:Nat} (h:mpOk (fun n:Int=>Value.int .i64 n) m es ck) {e:MapEntry} (he:e ∈ es.toList):∃ x ∈ keysM m,e.key = .int .i64 x:=by
  have:e.key ∈ es.toList.map (·.key):=List.mem_map_of_mem he
  rw [ent_keys h] at this
  obtain ⟨x,hx,e⟩:=List.mem_map.1 this
  exact ⟨x,hx,e.symm⟩
theorem nodup_idx {α:Type}:∀ {l:List α} {i j:Nat} (hi:i < l.length) (hj:j < l.length),l.Nodup → l[i] = l[j] → i = j
  | [],i,_,hi,_,_,_=>absurd hi (by simp)
  | a :: l, i, j, hi, hj, hn, he => by
    rw [List.nodup_cons] at hn
    match i,j with
    | 0,0=>rfl
    | 0, j + 1 =>
      have e:a = l[j]'(by simpa using hj):=by simpa using he
      exact absurd (by rw [e];exact List.getElem_mem _) hn.1
    | i + 1, 0 =>
      have e:l[i]'(by simpa using hi) = a:=by simpa using he
      exact absurd (by rw [← e];exact List.getElem_mem _) hn.1
    | i + 1,j + 1=>exact congrArg (· + 1) (nodup_idx (l:=l) (by simpa using hi) (by simpa using hj) hn.2 (by simpa using he))
theorem ent_same {m:List (Int × Value)} {es:Array MapEntry} {ck:Nat} (h:mpOk (fun n:Int=>Value.int .i64 n) m es ck) (hn:(keysM m).Nodup) {e e':MapEntry} (he:e ∈ es.toList) (he':e' ∈ es.toList) (hk:e.key = e'.key):e = e':=by
  obtain ⟨i,hi,rfl⟩:=List.getElem_of_mem he
  obtain ⟨j,hj,rfl⟩:=List.getElem_of_mem he'
  have hL:=ent_keys h
  have hn2:(es.toList.map (·.key)).Nodup:=by
    rw [hL,List.Nodup,List.pairwise_map]
    exact hn.imp fun h e=>h (by simpa using e)
  have:i = j:=nodup_idx (l:=es.toList.map (·.key)) (by simpa using hi) (by simpa using hj) hn2 (by simpa using hk)
  subst this;rfl
theorem push_has {a:Array Nat} {x y:Nat}:(a.push x).contains y = true ↔ a.contains y = true ∨ y = x:=by
  simp [Array.contains_iff_mem,Array.mem_push]
theorem FndM.next {l:List Cp} {m:List (Int × Value)} {es:Array MapEntry} {ck:Nat} {seen:Array Nat} {out:List Int} (h:FndM l es seen out) (hm:mpOk (fun n:Int=>Value.int .i64 n) m es ck) (hn:(keysM m).Nodup) {e:MapEntry} (he:e ∈ es.toList) (hs:seen.contains e.born = false) {x:Int} (hx:e.key = .int .i64 x) :
    FndM l es (seen.push e.born) (out++if chB l x then [x] else []):=by
  have hnew:x ∉ out:=fun hx2=>by
    obtain ⟨⟨e',he',hs',hk'⟩,_⟩:=(h.mem x).1 hx2
    have:=ent_same hm hn he he' (hx.trans hk'.symm)
    subst this
    rw [hs'] at hs;cases hs
  refine ⟨?_,fun y=>?_⟩
  · cases hc:chB l x with
    | true =>
      rw [if_pos rfl,List.nodup_append]
      refine ⟨h.nd,by simp,fun a ha b hb=>?_⟩
      rw [List.mem_singleton] at hb
      subst hb
      rintro rfl
      exact hnew ha
    | false=>simpa using h.nd
  · rw [List.mem_append,h.mem]
    constructor
    · rintro (⟨⟨e',he',hs',hk'⟩,hc⟩ | hy)
      · exact ⟨⟨e',he',push_has.2 (.inl hs'),hk'⟩,hc⟩
      · cases hc:chB l x with
        | true =>
          rw [hc,if_pos rfl,List.mem_singleton] at hy
          subst hy
          exact ⟨⟨e,he,push_has.2 (.inr rfl),hx⟩,hc⟩
        | false=>rw [hc] at hy;simp at hy
    · rintro ⟨⟨e',he',hs',hk'⟩,hc⟩
      rcases push_has.1 hs' with h1 | h1
      · exact .inl ⟨⟨e',he',h1,hk'⟩,hc⟩
      · refine .inr ?_
        have hb:e' = e:=by
          have hnd:=hm.nd
          obtain ⟨i,hi,rfl⟩:=List.getElem_of_mem he
          obtain ⟨j,hj,rfl⟩:=List.getElem_of_mem he'
          have:j = i:=nodup_idx (l:=es.toList.map (·.born)) (by simpa using hj) (by simpa using hi) hnd (by simpa using h1)
          subst this;rfl
        subst hb
        have:y = x:=by rw [hx] at hk';cases hk';rfl
        subst this
        rw [hc,if_pos rfl];simp
theorem FndM.all {l l':List Cp} {m:List (Int × Value)} {es:Array MapEntry} {ck:Nat} {seen:Array Nat} {out:List Int} (h:FndM l es seen out) (hm:mpOk (fun n:Int=>Value.int .i64 n) m es ck) (hE:EndM l' l'.length m) (hp:List.Perm l' l) (hall:∀ e ∈ es.toList,seen.contains e.born = true):∀ x,x ∈ out ↔ endB l x = true ∧ chB l x = true:=by
  intro x
  rw [h.mem]
  have hk:endB l x = true ↔ x ∈ keysM m:=by rw [hE.mem,List.take_length,endB_perm hp]
  rw [hk]
  constructor
  · rintro ⟨⟨e,he,_,hk⟩,hc⟩
    obtain ⟨y,hy,hye⟩:=ent_int hm he
    rw [hk] at hye
    cases hye
    exact ⟨hy,hc⟩
  · rintro ⟨hx,hc⟩
    have:Value.int .i64 x ∈ es.toList.map (·.key):=by rw [ent_keys hm];exact List.mem_map_of_mem hx
    obtain ⟨e,he,hke⟩:=List.mem_map.1 this
    exact ⟨⟨e,he,hall e he,hke⟩,hc⟩
end Go.Proofs.A1
namespace Go.Proofs.A1
open Go Go.SL
theorem tr_rowLitE {c:Cx} {D:List Nat} {sl:Slots} {hs hs':List Asn} {X:Act → World → Prop} {E:TypeId} {g:Nat} {xs ys:List Value} (n sz:Nat) (ht:Take hs (blk g (.cells xs.toArray E (0,0))) hs') (he:xs = ys) (hl:ys.length = n * sz) (hn:Nat.ble n 1000 = true)
    (k:Tr c D sl (row E sz (.slice (some ⟨g,0,none⟩) n n) n ys :: hs') X):Tr c D sl hs X:=by
  subst he
  exact tr_rowShut (n:=n) (cap:=n) (cur:=[]) (by rw [List.append_nil];exact ht) (Nat.le_refl _) (by unfold maxLen;have:=Nat.le_of_ble_eq_true hn;omega) (by rw [List.append_nil,hl]) hl k
end Go.Proofs.A1
namespace Go.Proofs.A1
open Go Go.SL
theorem ones_c (b:Int) (hb:0 ≤ b ∧ b ≤ 255) (w:World):GivesV Tryd.prog 64 [.int .u8 b] w (.int .i64 (cntQ b 8)):=by
  refine givesV_of_tr Tryd.func64 rfl rfl ?_
  (refine s_r ?_;refine a_s rfl rfl ?_;refine n_r ?_;refine m_v rfl rfl ?_)
  with_reducible apply tr_val
  case hr=>
    with_reducible apply rk_indexS
    case hx=>exact Is.of rfl
    case hy=>exact Is.of rfl
    case h0=>omega
    case h1=>exact Int.lt_of_le_of_lt hb.2 (by decide +kernel)
  case hd=>rfl
  (refine tr_val (rk_conv (.of rfl)) rfl ?_;refine a_s rfl rfl ?_;refine n_t ?_;refine tr_ret ?_;refine tr_retE rfl (ends1 rfl rfl) ?_)
  obtain ⟨k,hk,rfl⟩:=byte_nat hb
  congr 1
  revert k
  decide +kernel
theorem odd_c (b:Int) (hb:0 ≤ b ∧ b ≤ 255) (w:World):GivesV Tryd.prog 30 [.int .u8 b] w (.bool (oddB b)):=by
  have hn:0 ≤ cntQ b 8 ∧ cntQ b 8 ≤ 8:=by
    obtain ⟨k,hk,rfl⟩:=byte_nat hb
    revert k
    decide +kernel
  refine givesV_of_tr Tryd.func30 rfl rfl ?_
  (refine s_r ?_;refine a_s rfl rfl ?_;refine n_r ?_;refine m_v rfl rfl ?_;refine tr_callV (rk_call (.of rfl) (.cons (.of rfl) .nil) inferInstance normc_) rfl (fun w' hm'=>(ones_c b hb w')) ?_;refine tr_val (rk_rem (.of rfl) (.of rfl) (by omega) (by omega)) rfl ?_;refine tr_val (rk_eql (.of rfl) (.of rfl)) rfl ?_;refine a_s rfl rfl ?_;refine n_t ?_;refine tr_ret ?_;refine tr_retE rfl (ends1 rfl rfl) ?_)
  rfl
theorem sntE_hi {s:ByteArray} (h4:¬ 4000 < s.size) {k:Nat} (hk:k < s.size) (h:128 ≤ bt s k):sntE s = 1:=by unfold sntE;rw [if_neg h4,if_pos (hiB_at hk h)]
theorem sntE_no {s:ByteArray} (h4:¬ 4000 < s.size) (h:∀ k,k < s.size → ¬ 128 ≤ bt s k):sntE s = 0:=by unfold sntE;rw [if_neg h4,if_neg (by rw [hiB_no h];decide)]
theorem bt_in (s:ByteArray) (k:Nat):0 ≤ bt s k ∧ bt s k ≤ 255:=by unfold bt;have:=(s.data.toList[k]?.getD 0).toNat_lt;omega
theorem sent_c (s:ByteArray) (w:World) :
    Gives Tryd.prog 8 [.string s] w [] (fun _:Value=>True) (fun v=>.tuple #[v,.int .i64 (sntE s)]) (fun v=>[row 5 1 v (sntL s).length (bytsV (sntL s))]):=by
  refine gives_of_tr Tryd.func8 rfl rfl ?_
  (refine s_r ?_;refine a_s rfl rfl ?_;refine a_s rfl rfl ?_;refine n_t ?_;refine tr_seq ?_;refine s_r ?_;refine m_v rfl rfl ?_;refine tr_val (rk_len_string (.of rfl)) rfl ?_;refine tr_val (rk_gtr (.of rfl) (.of rfl)) rfl ?_;refine n_t ?_;refine c_d rfl (fun hcd=>?_) (fun hcd=>?_);refine s_r ?_;refine a_s rfl rfl ?_;refine a_s rfl rfl ?_;refine n_t ?_;refine r_t ?_;rotate_left;refine s_t ?_;refine s_r ?_;refine a_s rfl rfl ?_;refine n_t ?_;refine tr_seq ?_;refine s_r ?_;refine m_v rfl rfl ?_;refine tr_val (rk_len_string (.of rfl)) rfl ?_;refine m_v rfl rfl ?_;refine n_t ?_;refine tr_block ?_;rotate_right)
  · have e:sntE s = 26:=by unfold sntE;rw [if_pos (by omega)]
    rw [show sntL s = [] by unfold sntL;rw [e,if_neg (by decide)],e]
    refine tr_rowNil 5 1 ?_
    first | with_reducible apply tr_retM | with_reducible apply tr_endM
    case he=>exact ends2 rfl rfl rfl
    case hR=>
      intro w' hm'
      exact gives_end (.slice none 0 0) trivial (show Takes _ [row 5 1 (.slice none 0 0) 0 []] _ by exact .cons .here .nil) hm' rfl
  have h4:¬ 4000 < s.size:=by omega
  refine tr_rowNil 5 1 ?_
  refine tr_for (ι:=Nat × Value) (fun x=>x.1 ≤ s.size ∧ ∀ i,i < x.1 → ¬ 128 ≤ bt s i) (fun x=>[(12,.int .i64 (x.1:Nat)),(11,.int .i64 s.size),(0,.string s),(4,x.2)]) (fun x=>[row 5 1 x.2 x.1 (bytsV (sntK s x.1))]) (fun x=>s.size - x.1) ?_ ?_
  · apply tr_start (0,.slice none 0 0) ⟨Nat.zero_le _,fun i h=>absurd h (by omega)⟩
    case hs1=>exact .cons rfl (.cons rfl (.cons rfl (.cons rfl .nil)))
    case ht=>
      show Takes _ [row 5 1 (.slice none 0 0) 0 []] _
      exact .cons .here .nil
  rintro ⟨k,v⟩ ⟨hk,hf⟩
  dsimp only at hk hf ⊢
  by_cases hlt:k < s.size
  · have hbb:=bt_in s k
    have hod:∀ w,GivesV Tryd.prog 30 [.int .u8 ((s.data.toList[((k:Nat):Int).toNat]?.getD 0).toNat:Nat)] w (.bool (oddB (bt s k))):=fun w=>odd_c _ hbb w
    have hbt:(((s.data.toList[((k:Nat):Int).toNat]?.getD 0).toNat:Nat):Int) = bt s k:=rfl
    have hsk:sntK s (k + 1) = sntK s k++[sntB (bt s k)]:=sntK_succ s k
    have hskv:bytsV (sntK s (k + 1)) = bytsV (sntK s k)++[.int .u8 (sntB (bt s k))]:=by rw [hsk,bytsV_app];rfl
    have hol:(bytsV (sntK s k)).length = k * 1:=by rw [bytsV_len,sntK_len]
    (refine s_r ?_;refine tr_val (rk_lss (.of rfl) (.of rfl)) rfl ?_;refine n_t ?_;refine tr_seq ?_;refine c_d rfl (fun hcd=>?_) (fun _=>by omega);refine s_t ?_;refine tr_seq ?_;refine tr_block ?_;refine s_r ?_;refine m_v rfl rfl ?_;refine a_s rfl rfl ?_;refine n_r ?_;refine m_v rfl rfl ?_;refine m_v rfl rfl ?_;refine tr_val (rk_indexS (.of rfl) (.of rfl) (by omega) hcd) rfl ?_;refine a_s rfl rfl ?_;refine n_t ?_;refine tr_block ?_;refine s_r ?_;refine m_v rfl rfl ?_;refine tr_val (rk_geq (.of rfl) (.of rfl)) rfl ?_;refine a_s rfl rfl ?_;refine n_t ?_;refine c_d rfl (fun hcd=>?_) (fun hcd=>?_);refine s_r ?_;refine a_s rfl rfl ?_;refine a_s rfl rfl ?_;refine n_t ?_;refine tr_ret ?_;refine tr_blk_ret ?_;refine tr_blk_ret ?_;refine tr_then_ret ?_;refine tr_then_ret ?_;refine tr_blk_ret ?_;refine tr_then_ret ?_;rotate_left;refine s_r ?_;refine m_v rfl rfl ?_;refine tr_callV (rk_call (.of rfl) (.cons (.of rfl) .nil) inferInstance normc_) rfl (fun w' hm'=>(hod w')) ?_;refine a_s rfl rfl ?_;refine n_t ?_;refine c_d rfl (fun hcd=>?_) (fun hcd=>?_);refine tr_region ?_;refine m_v rfl rfl ?_;refine m_v rfl rfl ?_;refine tr_new (rk_sliceLit (.cons (.of rfl) .nil) rfl rfl rfl rfl) rfl (fun _ _=>?_);rotate_left;refine tr_region ?_;refine m_v rfl rfl ?_;refine m_v rfl rfl ?_;refine tr_val (rk_or8 (.of rfl) (.of rfl)) rfl ?_;refine tr_new (rk_sliceLit (.cons (.of rfl) .nil) rfl rfl rfl rfl) rfl (fun _ _=>?_);rotate_right;rotate_right)
    · have e:=sntE_hi h4 hlt hcd
      rw [show sntL s = [] by unfold sntL;rw [e,if_neg (by decide)],e]
      refine tr_rowNil 5 1 ?_
      first | with_reducible apply tr_retM | with_reducible apply tr_endM
      case he=>exact ends2 rfl rfl rfl
      case hR=>
        intro w' hm'
        exact gives_end (.slice none 0 0) trivial (show Takes _ [row 5 1 (.slice none 0 0) 0 []] _ by exact .cons .here .nil) hm' rfl
    · have ho:oddB (bt s k) = true:=by unfold oddB;simpa using hcd
      have hb:sntB (bt s k) = bt s k:=by unfold sntB;rw [if_pos ho]
      rw [hb] at hskv
      rw [hbt]
      refine tr_appendB (.of rfl) (.of rfl) (.there .here) .here norm_ (by rfl) (okc_cons rfl okc_nil) (by rfl) (by rfl) (by rfl) lenx_ (by rfl) ?_
      intro v'
      (refine a_s rfl rfl ?_;refine tr_nil ?_;refine tr_blk_normal ?_;refine tr_blk_normal ?_;refine tr_then ?_;refine tr_region ?_;refine tr_val (rk_add (.of rfl) (.of rfl) (ini (by omega))) rfl ?_;refine m_v rfl rfl ?_;refine n_t ?_)
      apply tr_next (k + 1,v') ⟨show k + 1 ≤ s.size by omega,fun i hi=>by
        by_cases e:i = k
        · rw [e];assumption
        · exact hf i (by omega)⟩ (show s.size - (k + 1) < s.size - k by omega)
      case hs1=>exact .cons rfl (.cons rfl (.cons rfl (.cons rfl .nil)))
      case ht=>
        show Takes _ [row 5 1 v' (k + 1) (bytsV (sntK s (k + 1)))] _
        rw [hskv]
        exact .cons .here .nil
    · have ho:¬ oddB (bt s k) = true:=by unfold oddB;simpa using hcd
      have hb:sntB (bt s k) = orF (bt s k) 128:=by unfold sntB;rw [if_neg ho]
      rw [hb] at hskv
      rw [hbt]
      refine tr_appendB (.of rfl) (.of rfl) (.there .here) .here norm_ (by rfl) (okc_cons rfl okc_nil) (by rfl) (by rfl) (by rfl) lenx_ (by rfl) ?_
      intro v'
      (refine a_s rfl rfl ?_;refine tr_nil ?_;refine tr_blk_normal ?_;refine tr_blk_normal ?_;refine tr_then ?_;refine tr_region ?_;refine tr_val (rk_add (.of rfl) (.of rfl) (ini (by omega))) rfl ?_;refine m_v rfl rfl ?_;refine n_t ?_)
      apply tr_next (k + 1,v') ⟨show k + 1 ≤ s.size by omega,fun i hi=>by
        by_cases e:i = k
        · rw [e];assumption
        · exact hf i (by omega)⟩ (show s.size - (k + 1) < s.size - k by omega)
      case hs1=>exact .cons rfl (.cons rfl (.cons rfl (.cons rfl .nil)))
      case ht=>
        show Takes _ [row 5 1 v' (k + 1) (bytsV (sntK s (k + 1)))] _
        rw [hskv]
        exact .cons .here .nil
  · obtain rfl:k = s.size:=by omega
    have e:=sntE_no h4 hf
    have hL:sntL s = sntK s s.size:=by unfold sntL;rw [if_pos e]
    rw [hL,e,sntK_len]
    (refine s_r ?_;refine tr_val (rk_lss (.of rfl) (.of rfl)) rfl ?_;refine n_t ?_;refine tr_seq ?_;refine c_d rfl (fun _=>by omega) (fun hcd=>?_);refine x_t ?_;refine tr_then_exit ?_;refine tr_blk_exit ?_;refine tr_then ?_;refine s_r ?_;refine m_v rfl rfl ?_;refine a_s rfl rfl ?_;refine a_s rfl rfl ?_;refine n_t ?_;refine tr_ret ?_)
    first | with_reducible apply tr_retM | with_reducible apply tr_endM
    case he=>exact ends2 rfl rfl rfl
    case hR=>
      intro w' hm'
      exact gives_end v trivial (by exact .cons .here .nil) hm' rfl
def hrdX (l:List Int):ByteArray:=if hrdE l.length = 0 then strOf (hrdT l) else ⟨#[]⟩
def hrdL (l:List Int):List Nat:=if hrdE l.length = 0 then hrdW l l.length else []
theorem hrdV_at {l:List Int} {k:Nat} (hk:k < l.length) (v:Int):setCells (hrdV l k) (k * 1) [.int .u8 v] = (hrdV l k).set k (.int .u8 v):=by
  show (hrdV l k).set (k * 1) _ = _
  rw [Nat.mul_one]
theorem hrdV_zero (l:List Int):hrdV l 0 = List.replicate l.length (.int .u8 0):=by simp [hrdV]
theorem heard_c {sv:Value} {l:List Int} {w:World} (h:Rd w sv 1 (byts l)) (hby:∀ x ∈ l,0 ≤ x ∧ x ≤ 255) :
    Gives Tryd.prog 11 [sv] w [] (fun _:Value=>True) (fun v=>.tuple #[.string (hrdX l),v,.int .i64 (hrdE l.length)]) (fun v=>[row 3 1 v (hrdL l).length (natsV (hrdL l))]):=by
  have h1':=h
  obtain ⟨a,cap,b,o,rfl,hcap,hmax,ha,hc⟩:=h1'
  rw [byts_length] at *
  unfold maxLen at hmax
  refine gives_of_tr Tryd.func11 rfl rfl ?_
  (refine s_r ?_;refine a_s rfl rfl ?_;refine a_s rfl rfl ?_;refine a_s rfl rfl ?_;refine n_t ?_;refine tr_seq ?_;refine s_r ?_;refine m_v rfl rfl ?_;refine tr_callV (rk_call (.of rfl) (.cons (.of rfl) .nil) inferInstance normc_) rfl (fun w' hm'=>(chkBytes_c a _ cap w')) ?_;refine a_s rfl rfl ?_;refine n_r ?_;refine m_v rfl rfl ?_;refine tr_val (rk_neq (.of rfl) (.of rfl)) rfl ?_;refine n_t ?_;refine c_d rfl (fun hcd=>?_) (fun hcd=>?_);refine s_r ?_;refine m_v rfl rfl ?_;refine a_s rfl rfl ?_;refine a_s rfl rfl ?_;refine a_s rfl rfl ?_;refine n_t ?_;refine r_t ?_;rotate_left;refine s_t ?_;refine s_r ?_;refine m_v rfl rfl ?_;refine tr_val (rk_len_slice (.of rfl)) rfl ?_;rotate_right)
  · rw [hrdX,hrdL,if_neg hcd,if_neg hcd]
    refine tr_rowNil 3 1 ?_
    first | with_reducible apply tr_retM | with_reducible apply tr_endM
    case he=>exact ends3 rfl rfl rfl rfl
    case hR=>
      intro w' hm'
      exact gives_end (.slice none 0 0) trivial (show Takes _ [row 3 1 (.slice none 0 0) 0 []] _ by exact .cons .here .nil) hm' rfl
  have hz:hrdE l.length = 0:=Decidable.not_not.1 hcd
  have hfew:l.length ≤ 4000:=by
    unfold hrdE at hz
    by_cases h4:4000 < l.length
    · rw [if_pos h4] at hz;cases hz
    · omega
  rw [hrdX,hrdL,if_pos hz,if_pos hz,hz]
  with_reducible apply tr_new
  case hr=>
    with_reducible apply rk_make
    case hx=>exact Is.of rfl
    case hy=>exact Is.of rfl
    case hl=>omega
    case hb=>omega
    case hz=>rfl
    case hsz=>rfl
    case h63=>omega
  case hd=>rfl
  intro g hg
  have hrep:(List.replicate l.length (Value.int .u8 0).cells.toList).flatten = hrdV l 0:=by
    rw [hrdV_zero]
    have:=flatten_singletons (List.replicate l.length (Value.int .u8 0))
    rw [List.map_replicate] at this
    exact this
  rw [hrep]
  (refine a_s rfl rfl ?_;refine n_r ?_;refine a_s rfl rfl ?_;refine n_t ?_;refine tr_seq ?_;refine s_r ?_;refine m_v rfl rfl ?_;refine tr_val (rk_len_slice (.of rfl)) rfl ?_;refine m_v rfl rfl ?_;refine n_t ?_;refine tr_block ?_)
  refine tr_rowNil 3 1 ?_
  refine tr_for (ι:=Nat × Value) (fun x=>x.1 ≤ l.length) (fun x=>[(20,.int .i64 (x.1:Nat)),(19,.int .i64 l.length),(18,.slice a l.length cap),(6,.slice (some ⟨g,0,none⟩) l.length l.length),(7,x.2)]) (fun x=>[blk g (.cells (hrdV l x.1).toArray 5 (0,0)),row 3 1 x.2 (hrdW l x.1).length (natsV (hrdW l x.1))]) (fun x=>l.length - x.1) ?_ ?_
  · apply tr_start (0,.slice none 0 0) (Nat.zero_le _)
    case hs1=>exact .cons rfl (.cons rfl (.cons rfl (.cons rfl (.cons rfl .nil))))
    case ht=>
      show Takes _ [blk g (.cells (hrdV l 0).toArray 5 (0,0)),row 3 1 (.slice none 0 0) 0 []] _
      exact .cons (.there .here) (.cons .here .nil)
  rintro ⟨k,v⟩ hk
  dsimp only at hk ⊢
  by_cases hlt:k < l.length
  · have ha':=ha (byts_ne hlt)
    have hcell:=(hc k _ (byts_get hlt)).2
    have c0:w.cell? ⟨b,o + k * 1,none⟩ = some (.int .u8 l[k]):=hcell 0 _ rfl
    have hbb:=hby _ (List.getElem_mem hlt)
    have hset:=hrdV_at hlt (anotF l[k] 128)
    have hsl:k * 1 + 1 ≤ (hrdV l k).length:=by rw [hrdV_len l (by omega)];omega
    have hsl2:k * 1 + 1 ≤ ((hrdV l k).set k (.int .u8 (anotF l[k] 128))).length:=by rw [List.length_set,hrdV_len l (by omega)];omega
    have hset2:setCells ((hrdV l k).set k (.int .u8 (anotF l[k] 128))) (k * 1) [.int .u8 63] = (hrdV l k).set k (.int .u8 63):=by
      show ((hrdV l k).set k (.int .u8 (anotF l[k] 128))).set (k * 1) _ = _
      rw [Nat.mul_one,hrdV_set2 l hlt]
    have hsucc:=hrdV_succ l hlt
    have hW:=hrdW_succ l hlt
    have hWl:=hrdW_len l k
    (refine s_r ?_;refine tr_val (rk_lss (.of rfl) (.of rfl)) rfl ?_;refine n_t ?_;refine tr_seq ?_;refine c_d rfl (fun hcd=>?_) (fun _=>by omega);refine s_t ?_;refine tr_seq ?_;refine tr_block ?_;refine s_r ?_;refine m_v rfl rfl ?_;refine tr_val (rk_indexAddr (.of rfl) (.of rfl) ha' (by omega) hcd norm1_) rfl ?_;refine tr_val (rk_load1 (.of rfl) (At.base c0 rfl)) rfl ?_;refine a_s rfl rfl ?_;refine a_s rfl rfl ?_;refine n_r ?_;refine m_v rfl rfl ?_;refine m_v rfl rfl ?_;refine m_v rfl rfl ?_;refine tr_val (rk_andNot8 (.of rfl) (.of rfl)) rfl ?_;refine tr_val (rk_indexAddr (.of rfl) (.of rfl) rfl (by omega) hcd norm1_) rfl ?_;refine tr_store (.of rfl) (.of rfl) .here rfl rfl (okc_cons rfl okc_nil) hsl hset ?_;refine n_r ?_;refine m_v rfl rfl ?_;refine tr_callV (rk_call (.of rfl) (.cons (.of rfl) .nil) inferInstance normc_) rfl (fun w' hm'=>(odd_c _ hbb w')) ?_;refine tr_val (rk_not (.of rfl)) rfl ?_;refine n_t ?_;refine c_b rfl (fun hcd=>?_) (fun hcd=>?_);refine s_r ?_;refine m_v rfl rfl ?_;refine m_v rfl rfl ?_;refine tr_val (rk_indexAddr (.of rfl) (.of rfl) rfl (by omega) (by assumption) norm1_) rfl ?_;refine tr_store (.of rfl) (.of rfl) .here rfl rfl (okc_cons rfl okc_nil) hsl2 hset2 ?_;refine n_t ?_;refine tr_region ?_;refine m_v rfl rfl ?_;refine m_v rfl rfl ?_;refine tr_new (rk_sliceLit (.cons (.of rfl) .nil) rfl rfl rfl rfl) rfl (fun _ _=>?_);rotate_left;refine tr_skip ?_;refine tr_blk_normal ?_;refine tr_then ?_;refine tr_region ?_;refine tr_val (rk_add (.of rfl) (.of rfl) (ini (by omega))) rfl ?_;refine m_v rfl rfl ?_;refine n_t ?_;rotate_right)
    · have hB:hrdB l[k] = 63:=by unfold hrdB;rw [hcd];rfl
      rw [hB] at hsucc
      rw [hcd,if_neg (by decide)] at hW
      have hWv:natsV (hrdW l (k + 1)) = natsV (hrdW l k)++[.int .i64 (k:Nat)]:=by rw [hW,natsV_app];rfl
      have hWn:(hrdW l (k + 1)).length = (hrdW l k).length + 1:=by rw [hW];simp
      rw [hsucc]
      refine tr_appendB (.of rfl) (.of rfl) (.there (.there .here)) .here norm_ (by rfl) (okc_cons rfl okc_nil) (by rfl) (by rfl) (by rfl) lenx_ (by rfl) ?_
      intro v'
      (refine a_s rfl rfl ?_;refine tr_nil ?_;refine tr_blk_normal ?_;refine tr_then ?_;refine tr_region ?_;refine tr_val (rk_add (.of rfl) (.of rfl) (ini (by omega))) rfl ?_;refine m_v rfl rfl ?_;refine n_t ?_)
      apply tr_next (k + 1,v') (show k + 1 ≤ l.length by omega) (show l.length - (k + 1) < l.length - k by omega)
      case hs1=>exact .cons rfl (.cons rfl (.cons rfl (.cons rfl (.cons rfl .nil))))
      case ht=>
        show Takes _ [blk g (.cells (hrdV l (k + 1)).toArray 5 (0,0)),row 3 1 v' (hrdW l (k + 1)).length (natsV (hrdW l (k + 1)))] _
        rw [hWn,hWv]
        exact .cons (.there (.there .here)) (.cons .here .nil)
    · have hB:hrdB l[k] = anotF l[k] 128:=by unfold hrdB;rw [hcd];rfl
      rw [hB] at hsucc
      rw [hcd,if_pos rfl,List.append_nil] at hW
      rw [hsucc]
      apply tr_next (k + 1,v) (show k + 1 ≤ l.length by omega) (show l.length - (k + 1) < l.length - k by omega)
      case hs1=>exact .cons rfl (.cons rfl (.cons rfl (.cons rfl (.cons rfl .nil))))
      case ht=>
        show Takes _ [blk g (.cells (hrdV l (k + 1)).toArray 5 (0,0)),row 3 1 v (hrdW l (k + 1)).length (natsV (hrdW l (k + 1)))] _
        rw [hW]
        exact .cons .here (.cons .here .nil)
  · obtain rfl:k = l.length:=by omega
    rw [hrdV_end]
    (refine s_r ?_;refine tr_val (rk_lss (.of rfl) (.of rfl)) rfl ?_;refine n_t ?_;refine tr_seq ?_;refine c_d rfl (fun _=>by omega) (fun hcd=>?_);refine x_t ?_;refine tr_then_exit ?_;refine tr_blk_exit ?_;refine tr_then ?_;refine s_r ?_;refine m_v rfl rfl ?_)
    with_reducible apply tr_val (V:=.string (strOf (hrdT l)))
    case hr=>
      with_reducible apply rk_convBSn
      case hx=>exact Is.of rfl
      case hv=>exact Ats.blk (by exact .here) (cellsAt_all (n:=l.length) (by simp [hrdT]))
      case hl=>simp [hrdT]
    case hd=>rfl
    (refine m_v rfl rfl ?_;refine a_s rfl rfl ?_;refine a_s rfl rfl ?_;refine a_s rfl rfl ?_;refine n_t ?_;refine tr_ret ?_)
    first | with_reducible apply tr_retM | with_reducible apply tr_endM
    case he=>exact ends3 rfl rfl rfl rfl
    case hR=>
      intro w' hm'
      exact gives_end v trivial (by exact .cons (.there .here) .nil) hm' rfl
end Go.Proofs.A1
namespace Go.Proofs.A1
open Go Go.SL
def Tab10 (w:World):Prop:=Lib.TabIs Tryd.prog w "internal/strconv.uint64pow10" .u64 Lib.pow10Tab
theorem Tab10.keeps {w w':World} (h:Tab10 w) (hk:Keeps [] w w'):Tab10 w':=Lib.tabBelow_of_tabIs h w' hk.below
theorem ind0 {α:Type} {l:List Oper} {i:Nat} {v:α}:Indep l i (fun _=>v):=fun _ _ _=>rfl
end Go.Proofs.A1
namespace Go.Proofs.A1
open Go Go.SL
theorem sameI_t {v1 v2:Value} {l m:List Int} {w:World} (h1:Rd w v1 1 (intg l)) (h2:Rd w v2 1 (intg m)) :
    GivesV Tryd.prog 12 [v1,v2] w (.bool (decide (l = m))):=by
  obtain ⟨a1,cp1,b1,o1,rfl,hcap1,hmax1,ha1,hc1⟩:=h1
  obtain ⟨a2,cp2,b2,o2,rfl,hcap2,hmax2,ha2,hc2⟩:=h2
  rw [intg_length] at *
  rw [intg_length] at *
  unfold maxLen at hmax1 hmax2
  refine givesV_of_tr Tryd.func12 rfl rfl ?_
  (refine s_r ?_;refine a_s rfl rfl ?_;refine n_t ?_;refine tr_seq ?_;refine s_r ?_;refine m_v rfl rfl ?_;refine tr_val (rk_len_slice (.of rfl)) rfl ?_;refine m_v rfl rfl ?_;refine tr_val (rk_len_slice (.of rfl)) rfl ?_;refine tr_val (rk_neq (.of rfl) (.of rfl)) rfl ?_;refine n_t ?_;refine c_d rfl (fun hcd=>?_) (fun hcd=>?_);refine s_r ?_;refine a_s rfl rfl ?_;refine n_t ?_;refine r_t ?_;refine tr_retE rfl (ends1 rfl rfl) ?_;rotate_left;refine s_t ?_;refine tr_seq ?_;refine s_r ?_;refine a_s rfl rfl ?_;refine n_t ?_;refine tr_block ?_;rotate_right)
  · rw [decide_eq_false fun e=>hcd (by rw [e])]
  have hlm:l.length = m.length:=by omega
  refine tr_for (ι:=Nat) (fun k=>k ≤ l.length ∧ (l = m ↔ l.drop k = m.drop k)) (fun k=>[(5,.int .i64 (k:Int)),(0,.slice a1 l.length cp1),(1,.slice a2 m.length cp2)]) (fun _=>[]) (fun k=>l.length - k) ?_ ?_
  · apply tr_start (0:Nat) ⟨Nat.zero_le _,Iff.rfl⟩
    case hs1=>exact .cons rfl (.cons rfl (.cons rfl .nil))
    case ht=>(try simp only [List.take_zero,List.map_nil,List.nil_append]);exact .nil
  rintro k ⟨hk,hf⟩
  by_cases hlt:k < l.length
  · have hlt2:k < m.length:=by omega
    have ha1':=ha1 (intg_ne hlt)
    have ha2':=ha2 (intg_ne hlt2)
    have hcell1:=(hc1 k _ (intg_get hlt)).2
    have hcell2:=(hc2 k _ (intg_get hlt2)).2
    have hd:=drop_eq_of (l:=l) (m:=m) hlt hlt2
    have hdn:l[k] ≠ m[k] → l.drop k ≠ m.drop k:=fun hne e=>hne (by
      rw [List.drop_eq_getElem_cons hlt,List.drop_eq_getElem_cons hlt2] at e
      exact (List.cons.inj e).1)
    generalize l[k] = x at hcell1 hd hdn
    generalize m[k] = y at hcell2 hd hdn
    have c1:w.cell? ⟨b1,o1 + k * 1,none⟩ = some (.int .i64 x):=hcell1 0 _ rfl
    have c2:w.cell? ⟨b2,o2 + k * 1,none⟩ = some (.int .i64 y):=hcell2 0 _ rfl
    (refine tr_seq ?_;refine s_r ?_;refine m_v rfl rfl ?_;refine m_v rfl rfl ?_;refine tr_val (rk_len_slice (.of rfl)) rfl ?_;refine tr_val (rk_lss (.of rfl) (.of rfl)) rfl ?_;refine n_t ?_;refine c_d rfl (fun hcd=>?_) (fun _=>by omega);refine s_t ?_;refine tr_seq ?_;refine tr_block ?_;refine tr_seq ?_)
    with_reducible refine tr_draw 9 (by kernel_rfl) ?_
    (refine a_m rfl rfl ?_;refine a_m rfl rfl ?_;refine any_val (rk_indexAddr (.of rfl) (.of rfl) ha1' (by omega) hcd norm1_) rfl ?_;refine any_val (rk_load1 (.of rfl) (At.base c1 rfl)) rfl ?_;refine a_m rfl rfl ?_;refine a_m rfl rfl ?_;refine any_val (rk_indexAddr (.of rfl) (.of rfl) ha2' (by omega) (by omega) norm1_) rfl ?_;refine any_val (rk_load1 (.of rfl) (At.base c2 rfl)) rfl ?_;refine any_val (rk_neq (.of rfl) (.of rfl)) rfl ?_)
    with_reducible refine any_end ?_
    (refine n_t ?_;refine c_d rfl (fun hcd=>?_) (fun hcd=>?_);refine s_r ?_;refine a_s rfl rfl ?_;refine n_t ?_;refine tr_ret ?_;refine tr_blk_ret ?_;refine tr_then_ret ?_;refine tr_then_ret ?_;refine tr_blk_ret ?_;refine tr_then_ret ?_;refine tr_retE rfl (ends1 rfl rfl) ?_;rotate_left;refine tr_skip ?_;refine tr_blk_normal ?_;refine tr_then ?_;refine tr_region ?_;refine m_v rfl rfl ?_;refine tr_val (rk_add (.of rfl) (.of rfl) (ini (by omega))) rfl ?_;refine a_s rfl rfl ?_;refine n_t ?_;rotate_right)
    · have hne:x ≠ y:=hcd
      rw [decide_eq_false fun e=>hdn hne (hf.1 e)]
    · have he:x = y:=Decidable.not_not.1 hcd
      clear hcd
      apply tr_next (k + 1) ⟨(show k + 1 ≤ l.length from hlt),hf.trans (hd he)⟩ (show l.length - (k + 1) < l.length - k by omega)
      case hs1=>exact .cons rfl (.cons rfl (.cons rfl .nil))
      case ht=>(try simp only [List.take_zero,List.map_nil,List.nil_append]);exact .nil
  · obtain rfl:k = l.length:=by omega
    have:l = m:=hf.2 (by rw [List.drop_length,hlm,List.drop_length])
    (refine tr_seq ?_;refine s_r ?_;refine m_v rfl rfl ?_;refine m_v rfl rfl ?_;refine tr_val (rk_len_slice (.of rfl)) rfl ?_;refine tr_val (rk_lss (.of rfl) (.of rfl)) rfl ?_;refine n_t ?_;refine c_d rfl (fun _=>by omega) (fun hcd=>?_);refine x_t ?_;refine tr_then_exit ?_;refine tr_blk_exit ?_;refine tr_then ?_;refine s_r ?_;refine a_s rfl rfl ?_;refine n_t ?_;refine tr_ret ?_;refine tr_retE rfl (ends1 rfl rfl) ?_)
    rw [decide_eq_true this]
end Go.Proofs.A1
