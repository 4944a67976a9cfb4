/- Parts of the proof: U20 U21c TryzSort U21 GkMapR UKp. -/
import Derived.Test.YthhidjfahmcekaaGreatDoorPM13
import Derived.Test.YthhidjfahmcekaaGreatDoorPM10
import Derived.Test.YthhidjfahmcekaaGreatDoorPM05
import Derived.Test.YthhidjfahmcekaaGreatDoorPM08
import Derived.Test.YthhidjfahmcekaaGreatDoorPM06
import Derived.Test.YthhidjfahmcekaaGreatDoorPM01
import Derived.Shelf.Sort.Plain
import Derived.Ground.NamesProg
import Derived.Ground.Names2Prog
import Derived.Test.YthhidjfahmcekaaGreatDoorProg
import Derived.Shelf.Slices.In.SortNone
import Derived.Shelf.SlSortCmp.NoneTotal
import Derived.Laws.IdiomRangeMap
set_option linter.unusedSectionVars false
set_option linter.unusedVariables false
set_option linter.unusedSimpArgs false
namespace Go.Proofs.A1
open Go Go.SL
def fillV (k:Nat):List Value:=List.replicate k (.int .u8 32)++List.replicate (32 - k) (.int .u8 0)
theorem fillV_len {k:Nat} (h:k ≤ 32):(fillV k).length = 32:=by simp [fillV];omega
theorem fillV_set {k:Nat} (h:k < 32):setCells (fillV k) (k * 1) [.int .u8 32] = fillV (k + 1):=by
  show (fillV k).set (k * 1) (.int .u8 32) = _
  unfold fillV
  rw [Nat.mul_one,List.set_append_right _ _ (by simp),show 32 - k = (32 - (k + 1)) + 1 by omega,List.replicate_succ (n:=32 - (k + 1)),List.length_replicate,Nat.sub_self,List.set_cons_zero,List.replicate_succ',List.append_assoc]
  rfl
def outV (l:List Cp) (n:Int) (r:Nat):List Value:=(List.range 8).map fun (i:Nat)=>Value.string (if i < r then strB (rowB l n (i:Nat)) else ⟨#[]⟩)
theorem outV_len (l:List Cp) (n:Int) (r:Nat):(outV l n r).length = 8:=by unfold outV;rw [List.length_map,List.length_range]
theorem outV_set {l:List Cp} {n:Int} {r:Nat} (h:r < 8):setCells (outV l n r) (r * 1) [.string (strB (rowB l n (r:Nat)))] = outV l n (r + 1):=by
  show (outV l n r).set (r * 1) _ = _
  rw [Nat.mul_one]
  apply List.ext_getElem?
  intro i
  unfold outV
  rw [List.getElem?_set]
  by_cases hi:i < 8
  · by_cases e:r = i
    · subst e;simp [hi]
    · simp [hi,e]
      have:(i < r) ↔ (i < r + 1):=by omega
      simp [this]
  · rw [if_neg (by omega)]
    rw [List.getElem?_eq_none (by simp;omega),List.getElem?_eq_none (by simp;omega)]
theorem outV_8 (l:List Cp) (n:Int):outV l n 8 = (scrL l n).map Value.string:=by
  unfold outV scrL
  rw [List.map_map]
  apply List.map_congr_left
  intro i hi
  have:=List.mem_range.1 hi
  simp [this]
theorem line_sl {g:Nat} {co:Int} (h:0 ≤ co ∧ co ≤ 31):sliced (some ⟨g,0,none⟩) co.toNat 32 32 1 = .slice (some ⟨g,co.toNat,none⟩) (32 - co.toNat) (32 - co.toNat):=by
  simp [sliced,show ¬ (32:Nat) = co.toNat by omega,addr_add]
theorem cellsAt_all {cs:List Value} {n:Nat} (h:cs.length = n):cellsAt cs 0 n = cs:=by rw [cellsAt_eq,List.drop_zero,List.take_of_length_le (by omega)]
theorem onC_iff {x:Cp} {n r:Int}:onC x n r = true ↔ x.rw = r ∧ x.fr ≤ n ∧ n < x.to:=by unfold onC;simp
theorem scr_lit (l:List Cp) (n:Int):(scrL l n).map Value.string = [.string (strB (rowB l n 0)),.string (strB (rowB l n 1)),.string (strB (rowB l n 2)),.string (strB (rowB l n 3)),.string (strB (rowB l n 4)),.string (strB (rowB l n 5)),.string (strB (rowB l n 6)),.string (strB (rowB l n 7))]:=rfl
set_option maxHeartbeats 2000000 in
theorem shown_c {lv:Value} {l:List Cp} {n:Int} {w:World} (h:Rd w lv 5 (cps l)) (hk:CapOk l):GivesV Tryz.prog 123 [lv,.int .i64 n] w (.agg ((scrL l n).map Value.string).toArray):=by
  have h1':=h
  obtain ⟨a,cp,b,o,rfl,hcap,hmax,ha,hc⟩:=h1'
  rw [cps_length] at *
  unfold maxLen at hmax
  have hfew:=hk.few
  refine givesV_of_tr Tryz.func123 rfl rfl ?_
  (refine s_r ?_;refine tr_new (rk_alloc rfl) rfl (fun _ _=>?_);refine n_r ?_;refine tr_new (rk_alloc rfl) rfl (fun _ _=>?_);refine n_t ?_;refine tr_seq ?_;refine s_r ?_;refine m_v rfl rfl ?_;refine n_t ?_;refine tr_block ?_)
  rename_i b4 hb4 b5 hb5
  refine tr_for (fun r:Nat=>r ≤ 8) (fun r=>[(11,.int .i64 r),(5,.pointer (some ⟨b5,0,none⟩)),(4,.pointer (some ⟨b4,0,none⟩)),(0,.slice a l.length cp),(1,.int .i64 n)]) (fun r=>[blk b5 (.cells (outV l n r).toArray 99 (0,0)),blk b4 (.cells #[.string ⟨#[]⟩,.string ⟨#[]⟩,.string ⟨#[]⟩,.string ⟨#[]⟩,.string ⟨#[]⟩,.string ⟨#[]⟩,.string ⟨#[]⟩,.string ⟨#[]⟩] 99 (0,0))]) (fun r=>8 - r) ?_ ?_
  · apply tr_start 0 (by omega)
    case hs1=>exact .cons rfl (.cons rfl (.cons rfl (.cons rfl (.cons rfl .nil))))
    case ht=>
      show Takes _ [blk b5 (.cells #[.string ⟨#[]⟩,.string ⟨#[]⟩,.string ⟨#[]⟩,.string ⟨#[]⟩,.string ⟨#[]⟩,.string ⟨#[]⟩,.string ⟨#[]⟩,.string ⟨#[]⟩] 99 (0,0)),blk b4 (.cells #[.string ⟨#[]⟩,.string ⟨#[]⟩,.string ⟨#[]⟩,.string ⟨#[]⟩,.string ⟨#[]⟩,.string ⟨#[]⟩,.string ⟨#[]⟩,.string ⟨#[]⟩] 99 (0,0))] _
      exact .cons .here (.cons .here .nil)
  intro r hr
  by_cases hlt:r < 8
  · have hset:=outV_set (l:=l) (n:=n) hlt
    have hsl:r * 1 + 1 ≤ (outV l n r).length:=by rw [outV_len];omega
    (refine s_r ?_;refine tr_val (rk_lss (.of rfl) (.of rfl)) rfl ?_;refine n_t ?_;refine tr_seq ?_;refine c_d rfl (fun hcd=>?_) (fun _=>by omega);refine s_t ?_;refine tr_seq ?_;refine tr_block ?_;refine s_r ?_;refine m_v rfl rfl ?_;refine a_s rfl rfl ?_;refine n_r ?_)
    with_reducible apply tr_new
    case hr=>
      with_reducible apply rk_make (l:=32) (cp:=32)
      case hx=>exact Is.of rfl
      case hy=>exact Is.of rfl
      case hl=>omega
      case hb=>omega
      case hz=>rfl
      case hsz=>rfl
      case h63=>omega
    case hd=>rfl
    intro g hg
    rw [show (List.replicate 32 (Value.int .u8 0).cells.toList).flatten = fillV 0 from rfl]
    (refine a_s rfl rfl ?_;refine n_t ?_;refine tr_seq ?_;refine s_r ?_;refine m_v rfl rfl ?_;refine tr_val (rk_len_slice (.of rfl)) rfl ?_;refine m_v rfl rfl ?_;refine n_t ?_;refine tr_block ?_)
    refine tr_for (fun k:Nat=>k ≤ 32) (fun k=>[(17,.int .i64 k),(16,.int .i64 32),(7,.slice (some ⟨g,0,none⟩) 32 32),(6,.int .i64 (r:Nat)),(11,.int .i64 (r:Nat)),(5,.pointer (some ⟨b5,0,none⟩)),(4,.pointer (some ⟨b4,0,none⟩)),(0,.slice a l.length cp),(1,.int .i64 n)]) (fun k=>[blk g (.cells (fillV k).toArray 5 (0,0)),blk b5 (.cells (outV l n r).toArray 99 (0,0)),blk b4 (.cells #[.string ⟨#[]⟩,.string ⟨#[]⟩,.string ⟨#[]⟩,.string ⟨#[]⟩,.string ⟨#[]⟩,.string ⟨#[]⟩,.string ⟨#[]⟩,.string ⟨#[]⟩] 99 (0,0))]) (fun k=>32 - k) ?_ ?_
    · apply tr_start 0 (by omega)
      case hs1=>exact .cons rfl (.cons rfl (.cons rfl (.cons rfl (.cons rfl (.cons rfl (.cons rfl (.cons rfl (.cons rfl .nil))))))))
      case ht=>exact .cons .here (.cons .here (.cons .here .nil))
    intro k hk2
    by_cases hlk:k < 32
    · have hset2:=fillV_set hlk
      have hsl2:k * 1 + 1 ≤ (fillV k).length:=by rw [fillV_len hk2];omega
      (refine s_r ?_;refine tr_val (rk_lss (.of rfl) (.of rfl)) rfl ?_;refine n_t ?_;refine tr_seq ?_;refine c_d rfl (fun hcd=>?_) (fun _=>by omega);refine s_t ?_;refine tr_seq ?_;refine tr_block ?_;refine s_r ?_;refine m_v rfl rfl ?_;refine a_s rfl rfl ?_;refine n_t ?_;refine tr_region ?_;refine m_v rfl rfl ?_;refine m_v rfl rfl ?_;refine tr_val (rk_indexAddr (.of rfl) (.of rfl) rfl (by omega) hcd norm1_) rfl ?_;refine tr_store (.of rfl) (.of rfl) .here rfl rfl (okc_cons rfl okc_nil) hsl2 hset2 ?_;refine tr_nil ?_;refine tr_blk_normal ?_;refine tr_then ?_;refine tr_region ?_;refine tr_val (rk_add (.of rfl) (.of rfl) (ini (by omega))) rfl ?_;refine m_v rfl rfl ?_;refine n_t ?_)
      apply tr_next (k + 1) (show k + 1 ≤ 32 by omega) (by omega)
      case hs1=>exact .cons rfl (.cons rfl (.cons rfl (.cons rfl (.cons rfl (.cons rfl (.cons rfl (.cons rfl (.cons rfl .nil))))))))
      case ht=>exact .cons .here (.cons .here (.cons .here .nil))
    · obtain rfl:k = 32:=by omega
      rw [show fillV 32 = lineV l n (r:Nat) 0 from rfl]
      (refine s_r ?_;refine tr_val (rk_lss (.of rfl) (.of rfl)) rfl ?_;refine n_t ?_;refine tr_seq ?_;refine c_d rfl (fun _=>by omega) (fun hcd=>?_);refine x_t ?_;refine tr_then_exit ?_;refine tr_blk_exit ?_;refine tr_then ?_;refine tr_seq ?_;refine s_r ?_;refine m_v rfl rfl ?_;refine tr_val (rk_len_slice (.of rfl)) rfl ?_;refine m_v rfl rfl ?_;refine n_t ?_;refine tr_block ?_)
      refine tr_for (fun j:Nat=>j ≤ l.length) (fun j=>[(26,.int .i64 j),(25,.int .i64 l.length),(24,.slice a l.length cp),(7,.slice (some ⟨g,0,none⟩) 32 32),(6,.int .i64 (r:Nat)),(11,.int .i64 (r:Nat)),(5,.pointer (some ⟨b5,0,none⟩)),(4,.pointer (some ⟨b4,0,none⟩)),(0,.slice a l.length cp),(1,.int .i64 n)]) (fun j=>[blk g (.cells (lineV l n (r:Nat) j).toArray 5 (0,0)),blk b5 (.cells (outV l n r).toArray 99 (0,0)),blk b4 (.cells #[.string ⟨#[]⟩,.string ⟨#[]⟩,.string ⟨#[]⟩,.string ⟨#[]⟩,.string ⟨#[]⟩,.string ⟨#[]⟩,.string ⟨#[]⟩,.string ⟨#[]⟩] 99 (0,0))]) (fun j=>l.length - j) ?_ ?_
      · apply tr_start 0 (by omega)
        case hs1=>exact .cons rfl (.cons rfl (.cons rfl (.cons rfl (.cons rfl (.cons rfl (.cons rfl (.cons rfl (.cons rfl (.cons rfl .nil)))))))))
        case ht=>exact .cons .here (.cons .here (.cons .here .nil))
      intro j hj
      by_cases hlj:j < l.length
      · have ha':=ha (cps_ne hlj)
        subst ha'
        have hcell:=(hc j _ (cps_get hlj)).2
        have ho:=hk.ok j hlj
        have hskip:=line_skip (l:=l) (n:=n) (r:=(r:Nat)) hlj
        have hcopy:=line_copy (n:=n) (r:=(r:Nat)) hk hlj
        have hon:=onC_iff (x:=nthC l j) (n:=n) (r:=(r:Nat))
        have hll:=lineV_len l n (r:Nat) j
        rw [← nthC_get hlj] at hcell
        generalize nthC l j = x at hcell ho hskip hcopy hon
        unfold Cp.cells at hcell
        have hco:=ho.co
        have hfit:=ho.fit
        (refine s_r ?_;refine tr_val (rk_lss (.of rfl) (.of rfl)) rfl ?_;refine n_t ?_;refine tr_seq ?_;refine c_d rfl (fun hcd=>?_) (fun _=>by omega);refine s_t ?_;refine tr_seq ?_;refine tr_block ?_;refine s_r ?_;refine tr_val (rk_indexAddr (.of rfl) (.of rfl) rfl (by omega) hcd norm1_) rfl ?_;refine tr_val (rk_loadN (.of rfl) (Ats.base hcell rfl) rfl) rfl ?_;refine tr_new (rk_alloc rfl) rfl (fun _ _=>?_);refine tr_store (.of rfl) (.of rfl) .here rfl rfl (okc_cons rfl (okc_cons rfl (okc_cons rfl (okc_cons rfl (okc_cons rfl okc_nil))))) (lenb rfl) norm_ ?_;refine n_r ?_;refine f_a rfl rfl norm0_ ?_;refine tr_val (rk_load1 (.of rfl) (At.lit .here rfl)) rfl ?_;refine m_v rfl rfl ?_;refine tr_val (rk_eql (.of rfl) (.of rfl)) rfl ?_;refine m_v rfl rfl ?_;refine tr_vG1 rfl rfl inferInstance (fun hg hgp=>(rk_fieldAddr (.of rfl) norm0_)) rfl ?_;refine tr_vG1 rfl rfl inferInstance (fun hg hgp=>(rk_fieldAddr (.ofg hg rfl) norm0_)) rfl ?_;refine tr_vG1 rfl rfl inferInstance (fun hg hgp=>(rk_load1 (.ofg hg rfl) (At.lit .here rfl))) rfl ?_;refine v_g rfl rfl rfl rfl ?_;refine tr_vG1 rfl rfl inferInstance (fun hg hgp=>(rk_leq (.ofg hg rfl) (.ofg hg rfl))) rfl ?_;refine tr_val (rk_pick_and (.of rfl) rfl) rfl ?_;refine m_v rfl rfl ?_;refine v_g rfl rfl rfl rfl ?_;refine tr_vG1 rfl rfl inferInstance (fun hg hgp=>(rk_fieldAddr (.of rfl) norm0_)) rfl ?_;refine tr_vG1 rfl rfl inferInstance (fun hg hgp=>(rk_fieldAddr (.ofg hg rfl) norm0_)) rfl ?_;refine tr_vG1 rfl rfl inferInstance (fun hg hgp=>(rk_load1 (.ofg hg rfl) (At.lit .here rfl))) rfl ?_;refine tr_vG1 rfl rfl inferInstance (fun hg hgp=>(rk_lss (.ofg hg rfl) (.ofg hg rfl))) rfl ?_;refine tr_val (rk_pick_and (.of rfl) rfl) rfl ?_;refine n_t ?_;refine c_b rfl (fun hcd=>?_) (fun hcd=>?_);rotate_left;refine tr_skip ?_;refine tr_blk_normal ?_;refine tr_then ?_;refine tr_region ?_;refine tr_val (rk_add (.of rfl) (.of rfl) (ini (by omega))) rfl ?_;refine m_v rfl rfl ?_;refine n_t ?_;rotate_right)
        · have hon':onC x n (r:Nat) = true:=hon.2 ⟨hcd.1.1,hcd.1.2,hcd.2⟩
          have he:=hcopy hon'
          with_reducible refine tr_draw 6 (by kernel_rfl) ?_
          (refine a_m rfl rfl ?_;refine a_f rfl rfl norm0_ ?_;refine any_val (rk_load1 (.of rfl) (At.lit .here rfl)) rfl ?_;refine any_val (rk_slice_l (.of rfl) (.of rfl) (by omega) (by omega)) rfl ?_;refine a_f rfl rfl norm0_ ?_;refine any_val (rk_load1 (.of rfl) (At.lit .here rfl)) rfl ?_)
          with_reducible refine any_end ?_
          rw [line_sl hco]
          with_reducible apply tr_copyS
          case hx=>exact Is.of rfl
          case hy=>exact Is.of rfl
          case ht=>exact Take.there .here
          case hn=>omega
          case hfit=>rw [hll];omega
          case hd=>rfl
          rw [he]
          (refine tr_nil ?_;refine tr_blk_normal ?_;refine tr_then ?_;refine tr_region ?_;refine tr_val (rk_add (.of rfl) (.of rfl) (ini (by omega))) rfl ?_;refine m_v rfl rfl ?_;refine n_t ?_)
          apply tr_next (j + 1) (show j + 1 ≤ l.length by omega) (by omega)
          case hs1=>exact .cons rfl (.cons rfl (.cons rfl (.cons rfl (.cons rfl (.cons rfl (.cons rfl (.cons rfl (.cons rfl (.cons rfl .nil)))))))))
          case ht=>exact .cons .here (.cons (.there .here) (.cons (.there .here) .nil))
        · have hon':onC x n (r:Nat) = false:=by
            rw [Bool.eq_false_iff]
            intro h
            have:=hon.1 h
            omega
          rw [← hskip hon']
          apply tr_next (j + 1) (show j + 1 ≤ l.length by omega) (by omega)
          case hs1=>exact .cons rfl (.cons rfl (.cons rfl (.cons rfl (.cons rfl (.cons rfl (.cons rfl (.cons rfl (.cons rfl (.cons rfl .nil)))))))))
          case ht=>exact .cons (.there .here) (.cons (.there .here) (.cons (.there .here) .nil))
      · obtain rfl:j = l.length:=by omega
        rw [line_end]
        (refine s_r ?_;refine tr_val (rk_lss (.of rfl) (.of rfl)) rfl ?_;refine n_t ?_;refine tr_seq ?_;refine c_d rfl (fun _=>by omega) (fun hcd=>?_);refine x_t ?_;refine tr_then_exit ?_;refine tr_blk_exit ?_;refine tr_then ?_;refine tr_region ?_;refine m_v rfl rfl ?_;refine m_v rfl rfl ?_)
        with_reducible apply tr_val (V:=.string (strOf (rowB l n (r:Nat))))
        case hr=>
          with_reducible apply rk_convBSn
          case hx=>exact Is.of rfl
          case hv=>exact Ats.blk (by exact .here) (cellsAt_all (n:=32) (by rw [List.length_map,rowB_len]))
          case hl=>exact rowB_len _ _ _
        case hd=>rfl
        rw [strOf_strB]
        (refine tr_val (rk_indexAddrA (.of rfl) (.of rfl) (by omega) (by assumption) norm1_) rfl ?_;refine tr_store (.of rfl) (.of rfl) (.there .here) rfl rfl (okc_cons rfl okc_nil) hsl hset ?_;refine tr_nil ?_;refine tr_blk_normal ?_;refine tr_then ?_;refine tr_region ?_;refine tr_val (rk_add (.of rfl) (.of rfl) (ini (by omega))) rfl ?_;refine m_v rfl rfl ?_;refine n_t ?_)
        apply tr_next (r + 1) (show r + 1 ≤ 8 by omega) (by omega)
        case hs1=>exact .cons rfl (.cons rfl (.cons rfl (.cons rfl (.cons rfl .nil))))
        case ht=>exact .cons .here (.cons (.there .here) .nil)
  · obtain rfl:r = 8:=by omega
    rw [outV_8,scr_lit]
    (refine s_r ?_;refine tr_val (rk_lss (.of rfl) (.of rfl)) rfl ?_;refine n_t ?_;refine tr_seq ?_;refine c_d rfl (fun _=>by omega) (fun hcd=>?_);refine x_t ?_;refine tr_then_exit ?_;refine tr_blk_exit ?_;refine tr_then ?_;refine s_r ?_;refine tr_val (rk_loadB (.of rfl) .here norm_ (by rfl)) rfl ?_;refine tr_store (.of rfl) (.of rfl) (.there .here) rfl rfl (okc_cons rfl (okc_cons rfl (okc_cons rfl (okc_cons rfl (okc_cons rfl (okc_cons rfl (okc_cons rfl (okc_cons rfl okc_nil)))))))) (lenb rfl) norm_ ?_;refine n_t ?_;refine tr_ret ?_;refine tr_retE rfl (ends1cB rfl inferInstance rfl .here norm_ (by rfl)) ?_)
    rfl
def shnE (l:List Cp) (n:Int):Int:=firstF [capE l,withinF n 0 10000000]
theorem shnE_zero {l:List Cp} {n:Int}:shnE l n = 0 ↔ CapOk l ∧ 0 ≤ n ∧ n ≤ 10000000:=by
  unfold shnE
  rw [firstF_zero]
  simp only [List.mem_cons,List.not_mem_nil,or_false,forall_eq_or_imp,forall_eq,withinF_zero,capE_zero]
def noneL:List ByteArray:=List.replicate 8 ⟨#[]⟩
def shnX (l:List Cp) (n:Int):List ByteArray:=if shnE l n = 0 then scrL l n else noneL
theorem shownX_c {lv:Value} {l:List Cp} {n:Int} {w:World} (h:Rd w lv 5 (cps l)) (hs:∀ x ∈ l,x.tx.size ≤ 1000000000):GivesV Tryz.prog 60 [lv,.int .i64 n] w (.tuple #[.agg ((shnX l n).map Value.string).toArray,.int .i64 (shnE l n)]):=by
  have hz:=shnE_zero (l:=l) (n:=n)
  refine givesV_of_tr Tryz.func60 rfl rfl ?_
  unfold shnX
  generalize hE:shnE l n = E at hz ⊢
  unfold shnE at hE
  by_cases h0:E = 0
  · obtain ⟨hk,hn⟩:=hz.1 h0
    rw [if_pos h0,h0]
    rw [h0] at hE
    clear hz h0
    (refine s_r ?_;refine tr_new (rk_alloc rfl) rfl (fun _ _=>?_);refine a_s rfl rfl ?_;refine n_t ?_;refine tr_seq ?_;refine s_r ?_;refine m_v rfl rfl ?_;refine tr_callV (rk_call (.of rfl) (.cons (.of rfl) .nil) inferInstance normc_) rfl (fun w' hm'=>(chkCaps_c (Rd.keeps h (Mem.keeps hm')) hs)) ?_;refine m_v rfl rfl ?_;refine tr_callV (rk_call (.of rfl) (.cons (.of rfl) (.cons (.of rfl) (.cons (.of rfl) .nil))) inferInstance normc_) rfl (fun w' hm'=>(within_c n 0 10000000 w')) ?_;refine tr_new (rk_sliceLit (.cons (.of rfl) (.cons (.of rfl) .nil)) rfl rfl rfl rfl) rfl (fun _ _=>?_);refine tr_callV (rk_call (.of rfl) (.cons (.of rfl) .nil) inferInstance normc_) rfl (fun w' hm'=>(first_pB (Mem.rdBlk hm' .here rfl rfl) (IntL.cons (IntL.cons IntL.nil)))) ?_;refine a_s rfl rfl ?_;refine n_r ?_;refine m_v rfl rfl ?_;refine tr_val (rk_neq (.of rfl) (.of rfl)) rfl ?_;refine n_t ?_;refine c_d rfl (fun _=>by omega) (fun hcd=>?_);refine s_t ?_;refine s_r ?_;refine m_v rfl rfl ?_;refine m_v rfl rfl ?_;refine tr_callV (rk_call (.of rfl) (.cons (.of rfl) (.cons (.of rfl) .nil)) inferInstance normc_) rfl (fun w' hm'=>(shown_c (Rd.keeps h (Mem.keeps hm')) hk)) ?_;refine tr_store (.of rfl) (.of rfl) (.there .here) rfl rfl (okc_cons rfl (okc_cons rfl (okc_cons rfl (okc_cons rfl (okc_cons rfl (okc_cons rfl (okc_cons rfl (okc_cons rfl okc_nil)))))))) (lenb rfl) norm_ ?_;refine a_s rfl rfl ?_;refine n_t ?_;refine tr_ret ?_;refine tr_retE rfl (endsCT rfl inferInstance rfl .here norm_ (by rfl) (by rfl)) ?_)
    rw [setCells_full (by simp [scrL]),cellsAt_all (by simp [scrL])]
  · rw [if_neg h0]
    clear hz
    (refine s_r ?_;refine tr_new (rk_alloc rfl) rfl (fun _ _=>?_);refine a_s rfl rfl ?_;refine n_t ?_;refine tr_seq ?_;refine s_r ?_;refine m_v rfl rfl ?_;refine tr_callV (rk_call (.of rfl) (.cons (.of rfl) .nil) inferInstance normc_) rfl (fun w' hm'=>(chkCaps_c (Rd.keeps h (Mem.keeps hm')) hs)) ?_;refine m_v rfl rfl ?_;refine tr_callV (rk_call (.of rfl) (.cons (.of rfl) (.cons (.of rfl) (.cons (.of rfl) .nil))) inferInstance normc_) rfl (fun w' hm'=>(within_c n 0 10000000 w')) ?_;refine tr_new (rk_sliceLit (.cons (.of rfl) (.cons (.of rfl) .nil)) rfl rfl rfl rfl) rfl (fun _ _=>?_);refine tr_callV (rk_call (.of rfl) (.cons (.of rfl) .nil) inferInstance normc_) rfl (fun w' hm'=>(first_pB (Mem.rdBlk hm' .here rfl rfl) (IntL.cons (IntL.cons IntL.nil)))) ?_;refine a_s rfl rfl ?_;refine n_r ?_;refine m_v rfl rfl ?_;refine tr_val (rk_neq (.of rfl) (.of rfl)) rfl ?_;refine n_t ?_;refine c_d rfl (fun hcd=>?_) (fun _=>by omega);refine s_r ?_;refine tr_val (rk_buildL .nil norm_) rfl ?_;refine m_v rfl rfl ?_;refine tr_store (.of rfl) (.of rfl) (.there .here) rfl rfl (okc_cons rfl (okc_cons rfl (okc_cons rfl (okc_cons rfl (okc_cons rfl (okc_cons rfl (okc_cons rfl (okc_cons rfl okc_nil)))))))) (lenb rfl) norm_ ?_;refine a_s rfl rfl ?_;refine n_t ?_;refine r_t ?_;refine tr_retE rfl (endsCT rfl inferInstance rfl .here norm_ (by rfl) (by rfl)) ?_)
    rw [hE];rfl
end Go.Proofs.A1
namespace Go.Proofs
open Go.Shelf Go.RowKit Go.Lib Go.Sort
set_option maxHeartbeats 1000000 in
theorem Tryz.begins126 (a b:A1.Cp) (W:World):Calls Tryz.prog 126 #[.agg (A1.Cp.cells a).toArray,.agg (A1.Cp.cells b).toArray] W fun e w'=>e = .returned (.int .i64 (Lib.compareInt a.fr b.fr)) ∧ ∃ q os',w' = grow (W.drewN q) os':=by
  have hcon:=fun W'=>AnyG.cmp_Compare_int Tryz.cmpInt a.fr b.fr W'
  change ∀ W',Calls Tryz.prog 170 _ _ _ at hcon
  generalize Lib.compareInt a.fr b.fr = r at hcon ⊢
  unfold A1.Cp.cells
  go_enter Tryz.func126,Tryz.ntmps126
  go_wp2_with (go_at_call 170;refine (hcon _).mono ?_;rintro e w' ⟨rfl,rfl⟩)
  go_ret
  exact ⟨rfl,0,_,by rw [alloc_eq_grow,alloc_eq_grow,grow_grow];rfl⟩
end Go.Proofs
namespace Go.Proofs
open Go.Shelf
def Tryz.lays189_ren:Go.Shelf.Ren:=⟨fun | 189=>127 | 125=>187 | 257=>188 | 128=>232 | 129=>233 | 294=>234 | 295=>235 | 296=>236 | 297=>237 | 298=>238 | 299=>239 | 216=>240 | 300=>241 | 301=>242 | 328=>264 | 329=>260 | 330=>261 | 331=>265 | 332=>266 | 215=>219 | 343=>282 | n=>n,fun | 28=>45 | 3=>3 | 46=>206 | 0=>0 | 51=>91 | 53=>335 | 4=>4 | 183=>328 | 182=>327 | 131=>253 | 5=>5 | 9=>9 | 218=>357 | 222=>207 | 228=>379 | 229=>73 | n=>n,fun | n=>n⟩
theorem Tryz.lays189:Go.Proofs.Lays.n189 Tryz.prog Tryz.lays189_ren:={
  mixed:=by kernel_rfl
  f125:=Tryz.func187.trans (congrArg some (by kernel_rfl))
  f128:=Tryz.func232.trans (congrArg some (by kernel_rfl))
  f129:=Tryz.func233.trans (congrArg some (by kernel_rfl))
  f189:=Tryz.func127.trans (congrArg some (by kernel_rfl))
  f215:=Tryz.func219.trans (congrArg some (by kernel_rfl))
  f216:=Tryz.func240.trans (congrArg some (by kernel_rfl))
  f257:=Tryz.func188.trans (congrArg some (by kernel_rfl))
  f294:=Tryz.func234.trans (congrArg some (by kernel_rfl))
  f295:=Tryz.func235.trans (congrArg some (by kernel_rfl))
  f296:=Tryz.func236.trans (congrArg some (by kernel_rfl))
  f297:=Tryz.func237.trans (congrArg some (by kernel_rfl))
  f298:=Tryz.func238.trans (congrArg some (by kernel_rfl))
  f299:=Tryz.func239.trans (congrArg some (by kernel_rfl))
  f300:=Tryz.func241.trans (congrArg some (by kernel_rfl))
  f301:=Tryz.func242.trans (congrArg some (by kernel_rfl))
  f328:=Tryz.func264.trans (congrArg some (by kernel_rfl))
  f329:=Tryz.func260.trans (congrArg some (by kernel_rfl))
  f330:=Tryz.func261.trans (congrArg some (by kernel_rfl))
  f331:=Tryz.func265.trans (congrArg some (by kernel_rfl))
  f332:=Tryz.func266.trans (congrArg some (by kernel_rfl))
  f343:=Tryz.func282.trans (congrArg some (by kernel_rfl))
  t0:=Tryz.underlying0
  a0:=Tryz.isAgg0
  z0:=Tryz.sizeOf0
  v0:=Tryz.zeroValue0
  t3:=Tryz.underlying3
  a3:=Tryz.isAgg3
  z3:=Tryz.sizeOf3
  v3:=Tryz.zeroValue3
  t4:=Tryz.underlying4
  a4:=Tryz.isAgg4
  z4:=Tryz.sizeOf4
  v4:=Tryz.zeroValue4
  t5:=Tryz.underlying5
  a5:=Tryz.isAgg5
  z5:=Tryz.sizeOf5
  v5:=Tryz.zeroValue5
  t9:=Tryz.underlying9
  a9:=Tryz.isAgg9
  z9:=Tryz.sizeOf9
  v9:=Tryz.zeroValue9
  t28:=Tryz.underlying45
  a28:=Tryz.isAgg45
  z28:=Tryz.sizeOf45
  v28:=Tryz.zeroValue45
  t46:=Tryz.underlying206
  a46:=Tryz.isAgg206
  z46:=Tryz.sizeOf206
  v46:=Tryz.zeroValue206
  t51:=Tryz.underlying91
  a51:=Tryz.isAgg91
  z51:=Tryz.sizeOf91
  v51:=Tryz.zeroValue91
  t53:=Tryz.underlying335
  a53:=Tryz.isAgg335
  z53:=Tryz.sizeOf335
  v53:=Tryz.zeroValue335
  t131:=Tryz.underlying253
  a131:=Tryz.isAgg253
  z131:=Tryz.sizeOf253
  v131:=Tryz.zeroValue253
  t182:=Tryz.underlying327
  a182:=Tryz.isAgg327
  z182:=Tryz.sizeOf327
  v182:=Tryz.zeroValue327
  t183:=Tryz.underlying328
  a183:=Tryz.isAgg328
  z183:=Tryz.sizeOf328
  v183:=Tryz.zeroValue328
  t218:=Tryz.underlying357
  a218:=Tryz.isAgg357
  z218:=Tryz.sizeOf357
  v218:=Tryz.zeroValue357
  t222:=Tryz.underlying207
  a222:=Tryz.isAgg207
  z222:=Tryz.sizeOf207
  v222:=Tryz.zeroValue207
  t228:=Tryz.underlying379
  a228:=Tryz.isAgg379
  z228:=Tryz.sizeOf379
  v228:=Tryz.zeroValue379
  t229:=Tryz.underlying73
  a229:=Tryz.isAgg73
  z229:=Tryz.sizeOf73
  v229:=Tryz.zeroValue73 }
open Go.Sort Go.RowKit in
theorem Tryz.slices_Sort_int (blk off cap:Nat) (zs:List Int) (w:World) (hH:Holds (Value.int .i64) w blk off zs.toArray) (hblk:blk < w.heap.size) (hsz:zs.length < 4611686018427387904) :
    Calls Tryz.prog 127 #[.slice (some ⟨blk,off,none⟩) zs.length cap] w fun e w'=>
      e = .returned (.tuple #[]) ∧ ∃ n os,w' = grow (putRow (Value.int .i64) (Sort.ahead w n) blk off (zs.mergeSort fun x y=>decide (x ≤ y)).toArray) os:=Any.slices_Sort_int Tryz.lays189 blk off cap zs w hH hblk hsz
end Go.Proofs
namespace Go.Proofs.A1
open Go Go.SL Go.Shelf Go.RowKit
theorem intgV_eq (l:List Int):intgV l = l.map (Value.int .i64):=by
  induction l with
  | nil=>rfl
  | cons x l ih=>show [Value.int .i64 x]++intgV l = _;rw [ih];rfl
theorem intgV_length (l:List Int):(intgV l).length = l.length:=by rw [intgV_eq,List.length_map]
theorem put_heap {α:Type} [Inhabited α] {enc:α → Value} {w:World} {g n:Nat} {os:Array Obj} {cur:Array Value} {e:TypeId} {fr:Nat × Nat} (d:Array α) (hb:w.heap[g]? = some (.cells cur e fr)) :
    (Go.Sort.grow (Go.Sort.putRow enc (Go.Sort.ahead w n) g 0 d) os).heap[g]? = some (.cells (Go.Sort.putCells enc 0 d cur) e fr):=by
  have hg:g < w.heap.size:=(Array.getElem?_eq_some_iff.1 hb).1
  rw [Go.Sort.heap_grow_old _ _ (by simpa using hg)]
  simp [Go.Sort.putRow,Go.Sort.mapBlock,Go.Sort.ahead,Array.getElem?_modify,hb,Go.Sort.onCells]
theorem put_keeps {α:Type} [Inhabited α] {enc:α → Value} {w:World} {g n:Nat} {os:Array Obj} (d:Array α):Keeps [g] w (Go.Sort.grow (Go.Sort.putRow enc (Go.Sort.ahead w n) g 0 d) os):=by
  refine ⟨rfl,rfl,rfl,by simp,fun k hk hne=>?_⟩
  rw [Go.Sort.heap_grow_old _ _ (by simpa using hk)]
  have:g ≠ k:=fun e=>hne (by rw [e];simp)
  simp [Go.Sort.putRow,Go.Sort.mapBlock,Go.Sort.ahead,Array.getElem?_modify,this]
theorem take_put {α:Type} [Inhabited α] {enc:α → Value} (cur:Array Value) (ts:List α) (h:ts.length ≤ cur.size):(Go.Sort.putCells enc 0 ts.toArray cur).toList.take ts.length = ts.map enc:=by
  apply List.ext_getElem?
  intro j
  by_cases hj:j < ts.length
  · rw [List.getElem?_take_of_lt hj,Array.getElem?_toList]
    simp [Go.Sort.putCells,hj,show j < cur.size by omega]
  · rw [List.getElem?_take_eq_none (by omega),List.getElem?_eq_none (by simp;omega)]
theorem holds_ints {w:World} {g:Nat} {cur:Array Value} {e:TypeId} {l:List Int} (hb:w.heap[g]? = some (.cells cur e (0,0))) (ht:cur.toList.take l.length = intgV l):Go.Sort.Holds (Value.int .i64) w g 0 l.toArray:=by
  intro j hj
  have hj':j < l.length:=by simpa using hj
  refine ⟨?_,by simp [World.frozen?,hb]⟩
  have h1:(cur.toList.take l.length)[j]? = (intgV l)[j]?:=by rw [ht]
  rw [List.getElem?_take_of_lt hj'] at h1
  simp only [World.cell?,hb,Nat.zero_add]
  simp only [Option.isSome_none,Bool.false_eq_true,if_false]
  rw [Array.getElem?_toList] at h1
  rw [h1]
  simp [intgV_eq,hj']
theorem sort_c {v:Value} {l:List Int} {n:Nat} {w:World} {fp:List Nat} (hn:n = l.length) (hl:n ≤ 1000000) (hs:Sats (hp w) [row 3 1 v n (intgV l)] fp) :
    Gives Tryz.prog 127 [v] w fp (fun _:Unit=>True) (fun _=>.tuple #[]) (fun _=>[row 3 1 v n (intgV (srt l))]):=by
  obtain ⟨f1,f2,rfl,h1,h2⟩:=hs
  obtain rfl:f2 = []:=h2
  obtain ⟨rfl,hlen,h1⟩:=h1
  rw [List.append_nil]
  rcases h1 with ⟨rfl,h0⟩ | ⟨g,cap,cur,rfl,hg,hc1,hc2,hc3,hc4⟩
  · have hl0:l = []:=List.eq_nil_of_length_eq_zero (by omega)
    refine (Any.slices_Sort_int_none Tryz.lays189 none 0 w).mono fun e w' ⟨he,hw⟩=>?_
    subst hw
    refine ⟨(),he,trivial,.refl _ _,[],List.nodup_nil,⟨[],[],rfl,⟨rfl,?_,.inl ⟨rfl,h0⟩⟩,rfl⟩,by simp⟩
    rw [intgV_length,srt_len];omega
  · rw [Nat.mul_one] at hc3 hc4
    have hgl:g < w.heap.size:=(Array.getElem?_eq_some_iff.1 hg).1
    subst hn
    refine (Tryz.slices_Sort_int g 0 cap l w (holds_ints hg hc4) hgl (by omega)).mono fun e w' ⟨he,m,os,hw⟩=>?_
    subst hw
    refine ⟨(),he,trivial,put_keeps _,[g],by simp,⟨[g],[],rfl,⟨rfl,?_,.inr ⟨g,cap,_,rfl,put_heap _ hg,hc1,hc2,?_,?_⟩⟩,rfl⟩,by simp [Value.ownBlock]⟩
    · rw [intgV_length,srt_len];omega
    · simp [Go.Sort.putCells,hc3]
    · rw [Nat.mul_one]
      have:=take_put (enc:=Value.int .i64) cur (srt l) (by rw [srt_len];omega)
      rw [srt_len] at this
      rw [intgV_eq]
      exact this
instance :Inhabited Cp:=⟨Cp.zero⟩
theorem flatK_list (d:Array Cp):(Go.Sort.flatK Cp.cells 5 d).toList = cpsV d.toList:=by
  rw [cps_flat]
  apply List.ext_getElem?
  intro t
  have hlen:(cps d.toList).flatten.length = d.size * 5:=by rw [← cps_flat,cpsV_len,Array.length_toList]
  by_cases ht:t < d.size * 5
  · have h1:t / 5 < d.size:=by omega
    have h2:t % 5 < 5:=Nat.mod_lt _ (by omega)
    have e1:(cps d.toList)[t / 5]? = some (d[t / 5]).cells:=by
      have:=cps_get (l:=d.toList) (k:=t / 5) (by rw [Array.length_toList];exact h1)
      rw [this,Array.getElem_toList]
    have e2:((d[t / 5]).cells)[t % 5]? = some (((d[t / 5]).cells)[t % 5]'(by exact h2)):=List.getElem?_eq_getElem h2
    have e3:=flatten_get (sz:=5) (cps d.toList) (t / 5) (cps_sz _) e1 e2
    rw [show t / 5 * 5 + t % 5 = t by omega] at e3
    rw [e3,Array.getElem?_toList]
    have e4:(Go.Sort.flatK Cp.cells 5 d)[t]? = some ((Go.Sort.flatK Cp.cells 5 d)[t]!):=by
      rw [getElem!_pos _ t (by rw [Go.Sort.size_flatK];exact ht)]
      exact getElem?_pos _ t (by rw [Go.Sort.size_flatK];exact ht)
    rw [e4,Go.Sort.get_flatK _ _ _ _ ht,getElem!_pos d (t / 5) h1,getElem!_pos _ (t % 5) (by exact h2)]
  · rw [List.getElem?_eq_none (by rw [Array.length_toList,Go.Sort.size_flatK];omega),List.getElem?_eq_none (by rw [hlen];omega)]
theorem holds_caps {w:World} {g:Nat} {cur:Array Value} {e:TypeId} {l:List Cp} (hb:w.heap[g]? = some (.cells cur e (0,0))) (ht:cur.toList.take (l.length * 5) = cpsV l):Go.Sort.HoldsK Cp.cells 5 w g 0 l.toArray:=by
  intro j hj
  have hj':j < l.length * 5:=by simpa using hj
  refine ⟨?_,by simp [World.frozen?,hb]⟩
  have h0:=flatK_list l.toArray
  have h1:(cur.toList.take (l.length * 5))[j]? = (Go.Sort.flatK Cp.cells 5 l.toArray).toList[j]?:=by rw [ht,h0]
  rw [List.getElem?_take_of_lt hj',Array.getElem?_toList,Array.getElem?_toList] at h1
  simp only [World.cell?,hb,Nat.zero_add]
  simp only [Option.isSome_none,Bool.false_eq_true,if_false]
  rw [h1,getElem!_pos _ j hj]
  exact getElem?_pos _ j hj
theorem swo_fr:Go.Sort.SWO (ltOf fun x y:Cp=>Lib.compareInt x.fr y.fr):=by
  have e:∀ x y:Cp,ltOf (fun x y:Cp=>Lib.compareInt x.fr y.fr) x y = decide (x.fr < y.fr):=by
    intro x y
    unfold ltOf Lib.compareInt
    by_cases h1:x.fr < y.fr
    · simp [h1]
    · by_cases h2:y.fr < x.fr <;> simp [h1,h2]
  constructor
  · intro x;rw [e];simp
  · intro x y z h1 h2;rw [e] at *;simp at *;omega
  · intro x y z h1 h2;rw [e] at *;simp at *;omega
theorem sortF_c {v:Value} {l:List Cp} {n:Nat} {w:World} {fp:List Nat} (hn:n = l.length) (hl:n ≤ 1000000) (hs:Sats (hp w) [row 195 5 v n (cpsV l)] fp) :
    Gives Tryz.prog 125 [v,.func (.func 126) #[] #[]] w fp (fun l':List Cp=>List.Perm l' l) (fun _=>.tuple #[]) (fun l'=>[row 195 5 v n (cpsV l')]):=by
  obtain ⟨f1,f2,rfl,h1,h2⟩:=hs
  obtain rfl:f2 = []:=h2
  obtain ⟨rfl,hlen,h1⟩:=h1
  rw [List.append_nil]
  rcases h1 with ⟨rfl,h0⟩ | ⟨g,cap,cur,rfl,hg,hc1,hc2,hc3,hc4⟩
  · have hl0:l = []:=List.eq_nil_of_length_eq_zero (by omega)
    refine (AnyF.slices_SortFunc_none Tryz.sortCp none 0 (.func (.func 126) #[] #[]) w).mono fun e w' ⟨he,hw⟩=>?_
    subst hw
    exact ⟨l,he,.refl _,.refl _ _,[],List.nodup_nil,⟨[],[],rfl,⟨rfl,hlen,.inl ⟨rfl,h0⟩⟩,rfl⟩,by simp⟩
  · have hgl:g < w.heap.size:=(Array.getElem?_eq_some_iff.1 hg).1
    subst hn
    have hcmp:CmpLays Tryz.prog 126 #[] Cp.cells 5 (fun x y=>Lib.compareInt x.fr y.fr) g 0 l.toArray.size w:=fun _ _ _ _ x y=>Tryz.begins126 x y _
    have eg:∀ args w,(callFunc 126 args).run Tryz.prog w = .ok (.enter 126 args) w:=enters_of Tryz.func126 (by kernel_rfl) rfl
    have key:=AnyQ.slices_SortFunc Tryz.sortCp 5 Tryz.isAgg195 Tryz.sizeOf195 Cp.cells (fun _=>rfl) (fun x v hv=>by simp only [Cp.cells,List.mem_cons,List.not_mem_nil,or_false] at hv;rcases hv with rfl | rfl | rfl | rfl | rfl <;> rfl) (fun x y=>Lib.compareInt x.fr y.fr) swo_fr 126 #[] g 0 cap l.toArray w eg hcmp (holds_caps hg hc4) hgl (by simp;omega)
    refine Calls.mono key ?_
    rintro e w' ⟨he,d',m,os,hp,_,hw⟩
    subst hw
    obtain ⟨hp1,_,hp3⟩:=hp
    have hd:List.Perm d'.toList l:=by
      rw [show (l.toArray.extract 0 l.toArray.size) = l.toArray by simp,show d'.extract 0 l.toArray.size = d' by rw [← hp1];simp] at hp3
      exact hp3
    have hds:d'.size = l.length:=by rw [hp1];simp
    refine ⟨d'.toList,he,hd,put_keeps _,[g],by simp,⟨[g],[],rfl,⟨rfl,?_,.inr ⟨g,cap,_,rfl,put_heap _ hg,hc1,hc2,?_,?_⟩⟩,rfl⟩,by simp [Value.ownBlock]⟩
    · rw [cpsV_len,hd.length_eq]
    · simp [Go.Sort.putCells,hc3]
    · have:=take_put (enc:=id) cur (Go.Sort.flatK Cp.cells 5 d').toList (by rw [Array.length_toList,Go.Sort.size_flatK,hds];omega)
      rw [List.map_id,Array.toArray_toList,Array.length_toList,Go.Sort.size_flatK,hds] at this
      exact this.trans (flatK_list d')
end Go.Proofs.A1
namespace Go.SL
open Go
section
variable {P:Program} {r:Option Nat} {c:Cx} {D:List Nat} {sl:Slots} {hs hs' hs2:List Asn} {Q:Exit → Act → World → Prop} {ops:Array Oper} {d:Nat} {dst:Option Tmp} {ty:TypeId} {pos:String} {af:Array Edge} {g:Option (Nat × Bool)} {rest:List Oper} {κ:Type} [DecidableEq κ] {kv:κ → Value}
theorem tr_mpOpen {X:Act → World → Prop} {b:Nat} {l:List (κ × Value)} (ht:Take hs (mp kv b l) hs') (k:∀ es ck,mpOk kv l es ck → Tr c D sl (blk b (.map es ck) :: hs') X):Tr c D sl hs X:=fun a w hst=>by
  have hm:=hst.mem.take (ht.append _)
  obtain ⟨kk,fp,hn,⟨f1,f2,rfl,⟨e,es,ck,h1,h2⟩,h3⟩,hfb⟩:=hm
  exact k es ck h2 a w (hst.heap ⟨kk,f1++f2,hn,⟨f1,f2,rfl,⟨e,h1⟩,h3⟩,hfb⟩)
theorem rk_rangeM {t kt et:TypeId} {x:Operand} {b:Nat} {es:Array MapEntry} {ck:Nat} [hu:Und P t (.map kt et)] (hx:Is sl x (.map (some b))) (ht:Take hs (blk b (.map es ck)) hs') :
    RunN P c sl hs ⟨dst,.range t x,ty,pos,af,g⟩ (fun b'=>.pointer (some ⟨b',0,none⟩)) (.mapIter (some b) ck #[] ck):=
  ⟨by simp,fun a w ha hm=>by
    have hb:=hm.blk ht
    have:=run_range_map (P:=P) w t kt et b es ck hu.eq hb
    simp only [execOp,hx a ha,Sem.run_bind,this,Result.andThen_ok,Sem.run_pure]⟩
theorem left_zero {es:Array MapEntry} {seen:Array Nat} (h:(leftOf es seen).size = 0):∀ x ∈ es.toList,seen.contains x.born = true:=all_seen es seen h
theorem setBlock_setObj {w:World} {b:Nat} {m:Option Nat} {s1 s3:Nat} {s2:Array Nat} {o':Obj} (h:w.heap[b]? = some (.mapIter m s1 s2 s3)):(setObj b o').run P w = .ok () (setBlock w b o'):=by simp [setObj,Sem.run,h,setBlock]
theorem run_nextM {w:World} {b bm since c0 ck:Nat} {seen:Array Nat} {es:Array MapEntry} (hb:w.heap[bm]? = some (.map es ck)) (hi:w.heap[b]? = some (.mapIter (some bm) since seen c0)) (hold:∀ x ∈ es.toList,x.born < since) (hsc:since ≤ c0) :
    ((leftOf es seen).size = 0 ∧ (Instr.next (.pointer (some ⟨b,0,none⟩)) false ty).run P w = .ok (.tuple #[.bool false]) w) ∨
    ∃ e ∈ (leftOf es seen).toList,∃ w1:World,(w1 = w ∨ w1 = w.drew) ∧ (Instr.next (.pointer (some ⟨b,0,none⟩)) false ty).run P w = .ok (.tuple #[.bool true,e.key,e.val]) (setBlock w1 b (.mapIter (some bm) since (seen.push e.born) ck)):=by
  simp only [Instr.next,getObj,Sem.run_bind,Sem.run,hi,hb,Result.andThen,next_test_false seen es since c0 hold hsc,Bool.false_eq_true,if_false]
  unfold leftOf
  have hmem:∀ x ∈ (Array.filter (fun e=>!seen.contains e.born) es).toList,x.born < since:=fun x hx=>hold x (by simp at hx ⊢;exact hx.1)
  generalize Array.filter (fun e=>!seen.contains e.born) es = L at hmem ⊢
  have e1:L.filter (fun x=>decide (x.born < since)) = L:=Array.filter_eq_self.2 (fun x hx=>by simpa using hmem x (by simpa using hx))
  have e2:L.filter (fun x=>decide (x.born ≥ since)) = #[]:=by
    rw [Array.filter_eq_empty_iff]
    intro x hx
    have:=hmem x (by simpa using hx)
    simp
    omega
  simp only [e1,e2,Array.append_empty]
  by_cases h0:L.size = 0
  · left
    have:L = #[]:=Array.eq_empty_of_size_eq_zero h0
    subst this
    refine ⟨rfl,?_⟩
    simp [choose,Sem.run,Question.forced]
  · right
    have hne:L.isEmpty = false:=by simp [Array.isEmpty,h0]
    simp only [hne,Bool.false_eq_true,if_false,Array.empty_append,Array.size_map]
    have hch:∃ (j:Nat) (w1:World),j < L.size ∧ (w1 = w ∨ w1 = w.drew) ∧ (choose (Question.mapNext L.size)).run P w = .ok j w1:=by
      by_cases hf:L.size ≤ 1
      · exact ⟨0,w,by omega,.inl rfl,by simp [choose,Sem.run,Question.forced,hf]⟩
      · exact ⟨_,w.drew,Nat.mod_lt _ (by omega),.inr rfl,by
          simp only [choose,Sem.run,Question.forced,decide_eq_true_eq,hf,if_false,Question.cut]
          rfl⟩
    obtain ⟨j,w1,hj,hal,hrun⟩:=hch
    refine ⟨L[j],by simp,w1,hal,?_⟩
    have hi1:w1.heap[b]? = some (.mapIter (some bm) since seen c0):=by
      rcases hal with e | e
      · rw [e];exact hi
      · rw [e];exact hi
    simp only [hrun,Array.getElem?_map,Array.getElem?_eq_getElem hj,Option.map_some,Sem.run_bind,setBlock_setObj hi1,Result.andThen]
    rfl
theorem tr_nextM {x:Operand} {b bm since c0 ck:Nat} {seen:Array Nat} {es:Array MapEntry} (hx:Is sl x (.pointer (some ⟨b,0,none⟩))) (hd:Nat.blt d c.nt = true) (ht:Take hs (blk b (.mapIter (some bm) since seen c0)) hs') (ht2:Take hs' (blk bm (.map es ck)) hs2) (hold:∀ x ∈ es.toList,x.born < since) (hsc:since ≤ c0) (hck:since ≤ ck)
    (k0:(∀ x ∈ es.toList,seen.contains x.born = true) → Tr c D ((d,.tuple #[.bool false]) :: sl) (blk b (.mapIter (some bm) since seen c0) :: blk bm (.map es ck) :: hs2) (WL P r ops Q rest))
    (k1:∀ e,e ∈ es.toList → seen.contains e.born = false → Tr c D ((d,.tuple #[.bool true,e.key,e.val]) :: sl) (blk b (.mapIter (some bm) since (seen.push e.born) ck) :: blk bm (.map es ck) :: hs2) (WL P r ops Q rest)) :
    Tr c D sl hs (WL P r ops Q (⟨some d,.next x false,ty,pos,af,none⟩ :: rest)):=fun a w hst=>by
  have _:=hck
  have hT:Takes hs [blk b (.mapIter (some bm) since seen c0),blk bm (.map es ck)] hs2:=.cons ht (.cons ht2 .nil)
  have hm:=hst.mem.takes (hT.append (mks D))
  have hi:=hst.mem'.blk ht
  have hb:w.heap[bm]? = some (.map es ck):=(show Mem c (blk b (.mapIter (some bm) since seen c0) :: blk bm (.map es ck) :: (hs2++mks D)) w from hm).blk (.there .here)
  have hdl:d < c.nt:=by simpa [Nat.blt_eq] using hd
  refine wl_op rfl ⟨fr_about _ _ _ _ _,?_⟩
  rw [Oper.semAt_eq _ _ _ (by simp)]
  rcases run_nextM (P:=P) (ty:=ty) hb hi hold hsc with ⟨h0,h1⟩ | ⟨e,he,w1,hw,h1⟩
  · have:(execOp a.eval ⟨some d,.next x false,ty,pos,af,none⟩).run P w = .ok (.value (.tuple #[.bool false])) w:=by
      simp only [execOp,hx a hst.slots,Sem.run_bind,h1,Result.andThen_ok,Sem.run_pure]
    rw [this]
    exact k0 (left_zero h0) _ _ ((hst.put hdl _).heap (by simpa using hm))
  · have:(execOp a.eval ⟨some d,.next x false,ty,pos,af,none⟩).run P w = .ok (.value (.tuple #[.bool true,e.key,e.val])) (setBlock w1 b (.mapIter (some bm) since (seen.push e.born) ck)):=by
      simp only [execOp,hx a hst.slots,Sem.run_bind,h1,Result.andThen_ok,Sem.run_pure]
    rw [this]
    obtain ⟨m1,m2⟩:=mem_left he
    have hm1:Mem c (blk b (.mapIter (some bm) since seen c0) :: (blk bm (.map es ck) :: (hs2++mks D))) w1:=by
      rcases hw with e | e
      · rw [e];exact hm
      · rw [e];exact Mem.drew hm
    have hm2:=Mem.store hm1 (Keeps.setBlock w1 b (.mapIter (some bm) since (seen.push e.born) ck)) (setBlock_same (hp_lt (w:=w1) (hm1.blk .here)))
    exact k1 e m1 m2 _ _ ((hst.put hdl _).heap (by simpa using hm2))
theorem left_mem {es:Array MapEntry} {seen:Array Nat} {e:MapEntry} (h1:e ∈ es.toList) (h2:seen.contains e.born = false):e ∈ (leftOf es seen).toList:=by
  unfold leftOf
  simp only [Array.toList_filter,List.mem_filter]
  exact ⟨h1,by rw [h2];rfl⟩
theorem rk_entry {x:Operand} {b bm since ck:Nat} {seen:Array Nat} {es:Array MapEntry} {e:MapEntry} (hx:Is sl x (.pointer (some ⟨b,0,none⟩))) (ht:Take hs (blk b (.mapIter (some bm) since (seen.push e.born) ck)) hs') (ht2:Take hs' (blk bm (.map es ck)) hs2) (he:e ∈ es.toList) (hn:(es.toList.map (·.born)).Nodup) :
    RunV P c sl hs ⟨dst,.entry x,ty,pos,af,g⟩ (.tuple #[e.key,e.val]):=
  ⟨by simp,fun a w ha hm=>by
    have h1:=hm.blk ht
    have h2:w.heap[bm]? = some (.map es ck):=(show Mem c (_ :: hs') w from hm.take ht).blk (.there ht2)
    have hf:es.find? (·.born == e.born) = some e:=by rw [← Array.find?_toList];exact find_born e es.toList hn he
    have:(Instr.entry (.pointer (some ⟨b,0,none⟩))).run P w = .ok (.tuple #[e.key,e.val]) w:=by
      simp only [Instr.entry,getObj,Sem.run_bind,Sem.run,h1,h2,Result.andThen,Array.back?_push,bne_self_eq_false,Bool.false_eq_true,if_false,hf]
      rfl
    simp only [execOp,hx a ha,Sem.run_bind,this,Result.andThen_ok,Sem.run_pure]⟩
end
end Go.SL
namespace Go.Proofs.A1
open Go Go.SL
def keysM (m:List (Int × Value)):List Int:=m.map (·.1)
theorem aset_mem (k:Int) (v:Value):∀ (m:List (Int × Value)) (x:Int),x ∈ keysM (aset k v m) ↔ x = k ∨ x ∈ keysM m
  | [],x=>by simp [aset,keysM]
  | (y, u) :: r, x => by
    have ih:=aset_mem k v r x
    unfold aset
    by_cases h:k = y
    · rw [if_pos h]
      subst h
      simp [keysM]
    · rw [if_neg h]
      simp only [keysM,List.map_cons,List.mem_cons] at ih ⊢
      rw [ih]
      constructor
      · rintro (h | h | h)
        · exact .inr (.inl h)
        · exact .inl h
        · exact .inr (.inr h)
      · rintro (h | h | h)
        · exact .inr (.inl h)
        · exact .inl h
        · exact .inr (.inr h)
theorem aset_nodup (k:Int) (v:Value):∀ (m:List (Int × Value)),(keysM m).Nodup → (keysM (aset k v m)).Nodup
  | [],_=>by simp [aset,keysM]
  | (y, u) :: r, h => by
    unfold aset
    by_cases e:k = y
    · rw [if_pos e];exact h
    · rw [if_neg e]
      simp only [keysM,List.map_cons,List.nodup_cons] at h ⊢
      refine ⟨fun hm=>?_,aset_nodup k v r h.2⟩
      rcases (aset_mem k v r y).1 hm with h1 | h1
      · exact e h1.symm
      · exact h.1 h1
structure EndM (l:List Cp) (j:Nat) (m:List (Int × Value)):Prop where
  nd:(keysM m).Nodup
  mem:∀ x,x ∈ keysM m ↔ endB (l.take j) x = true
theorem EndM.zero (l:List Cp):EndM l 0 []:=⟨by simp [keysM],fun x=>by simp [keysM,endB]⟩
theorem endB_next {l:List Cp} {j:Nat} (hj:j < l.length) (x:Int):endB (l.take (j + 1)) x = (endB (l.take j) x || (decide ((l[j]).fr = x) || decide ((l[j]).to = x))):=by
  unfold endB;rw [List.take_succ_eq_append_getElem hj,List.any_append];simp
theorem EndM.next {l:List Cp} {j:Nat} {m:List (Int × Value)} (h:EndM l j m) (hj:j < l.length) {a b:Int} (u v:Value) (hab:(a = (l[j]).fr ∧ b = (l[j]).to) ∨ (a = (l[j]).to ∧ b = (l[j]).fr)):EndM l (j + 1) (aset b v (aset a u m)):=by
  refine ⟨aset_nodup _ _ _ (aset_nodup _ _ _ h.nd),fun x=>?_⟩
  rw [aset_mem,aset_mem,h.mem,endB_next hj]
  simp only [Bool.or_eq_true,decide_eq_true_eq]
  rcases hab with ⟨rfl,rfl⟩ | ⟨rfl,rfl⟩
  · constructor
    · rintro (h | h | h)
      · exact .inr (.inr h.symm)
      · exact .inr (.inl h.symm)
      · exact .inl h
    · rintro (h | h | h)
      · exact .inr (.inr h)
      · exact .inr (.inl h.symm)
      · exact .inl h.symm
  · constructor
    · rintro (h | h | h)
      · exact .inr (.inl h.symm)
      · exact .inr (.inr h.symm)
      · exact .inl h
    · rintro (h | h | h)
      · exact .inr (.inr h)
      · exact .inl h.symm
      · exact .inr (.inl h.symm)
theorem endB_perm {l l':List Cp} (h:List.Perm l' l) (x:Int):endB l' x = endB l x:=by
  unfold endB
  rw [Bool.eq_iff_iff,List.any_eq_true,List.any_eq_true]
  constructor
  · rintro ⟨y,hy,h2⟩;exact ⟨y,h.mem_iff.1 hy,h2⟩
  · rintro ⟨y,hy,h2⟩;exact ⟨y,h.mem_iff.2 hy,h2⟩
structure FndM (l:List Cp) (es:Array MapEntry) (seen:Array Nat) (out:List Int):Prop where
  nd:out.Nodup
  mem:∀ x,x ∈ out ↔ (∃ e ∈ es.toList,seen.contains e.born = true ∧ e.key = .int .i64 x) ∧ chB l x = true
theorem FndM.zero (l:List Cp) (es:Array MapEntry):FndM l es #[] []:=⟨by simp,fun x=>by simp⟩
theorem ent_keys {m:List (Int × Value)} {es:Array MapEntry} {ck:Nat} (h:mpOk (fun n:Int=>Value.int .i64 n) m es ck):es.toList.map (·.key) = (keysM m).map (Value.int .i64):=by
  have:=congrArg (List.map (·.1)) h.eq
  rw [List.map_map,List.map_map] at this
  unfold keysM
  rw [List.map_map]
  exact this
theorem ent_int {m:List (Int × Value)} {es:Array MapEntry} {ck:Nat} (h:mpOk (fun n:Int=>Value.int .i64 n) m es ck) {e:MapEntry} (he:e ∈ es.toList):∃ x ∈ keysM m,e.key = .int .i64 x:=by
  have:e.key ∈ es.toList.map (·.key):=List.mem_map_of_mem he
  rw [ent_keys h] at this
  obtain ⟨x,hx,e⟩:=List.mem_map.1 this
  exact ⟨x,hx,e.symm⟩
theorem nodup_idx {α:Type}:∀ {l:List α} {i j:Nat} (hi:i < l.length) (hj:j < l.length),l.Nodup → l[i] = l[j] → i = j
  | [],i,_,hi,_,_,_=>absurd hi (by simp)
  | a :: l, i, j, hi, hj, hn, he => by
    rw [List.nodup_cons] at hn
    match i,j with
    | 0,0=>rfl
    | 0, j + 1 =>
      have e:a = l[j]'(by simpa using hj):=by simpa using he
      exact absurd (by rw [e];exact List.getElem_mem _) hn.1
    | i + 1, 0 =>
      have e:l[i]'(by simpa using hi) = a:=by simpa using he
      exact absurd (by rw [← e];exact List.getElem_mem _) hn.1
    | i + 1,j + 1=>exact congrArg (· + 1) (nodup_idx (l:=l) (by simpa using hi) (by simpa using hj) hn.2 (by simpa using he))
theorem ent_same {m:List (Int × Value)} {es:Array MapEntry} {ck:Nat} (h:mpOk (fun n:Int=>Value.int .i64 n) m es ck) (hn:(keysM m).Nodup) {e e':MapEntry} (he:e ∈ es.toList) (he':e' ∈ es.toList) (hk:e.key = e'.key):e = e':=by
  obtain ⟨i,hi,rfl⟩:=List.getElem_of_mem he
  obtain ⟨j,hj,rfl⟩:=List.getElem_of_mem he'
  have hL:=ent_keys h
  have hn2:(es.toList.map (·.key)).Nodup:=by
    rw [hL,List.Nodup,List.pairwise_map]
    exact hn.imp fun h e=>h (by simpa using e)
  have:i = j:=nodup_idx (l:=es.toList.map (·.key)) (by simpa using hi) (by simpa using hj) hn2 (by simpa using hk)
  subst this;rfl
theorem push_has {a:Array Nat} {x y:Nat}:(a.push x).contains y = true ↔ a.contains y = true ∨ y = x:=by
  simp [Array.contains_iff_mem,Array.mem_push]
theorem FndM.next {l:List Cp} {m:List (Int × Value)} {es:Array MapEntry} {ck:Nat} {seen:Array Nat} {out:List Int} (h:FndM l es seen out) (hm:mpOk (fun n:Int=>Value.int .i64 n) m es ck) (hn:(keysM m).Nodup) {e:MapEntry} (he:e ∈ es.toList) (hs:seen.contains e.born = false) {x:Int} (hx:e.key = .int .i64 x) :
    FndM l es (seen.push e.born) (out++if chB l x then [x] else []):=by
  have hnew:x ∉ out:=fun hx2=>by
    obtain ⟨⟨e',he',hs',hk'⟩,_⟩:=(h.mem x).1 hx2
    have:=ent_same hm hn he he' (hx.trans hk'.symm)
    subst this
    rw [hs'] at hs;cases hs
  refine ⟨?_,fun y=>?_⟩
  · cases hc:chB l x with
    | true =>
      rw [if_pos rfl,List.nodup_append]
      refine ⟨h.nd,by simp,fun a ha b hb=>?_⟩
      rw [List.mem_singleton] at hb
      subst hb
      rintro rfl
      exact hnew ha
    | false=>simpa using h.nd
  · rw [List.mem_append,h.mem]
    constructor
    · rintro (⟨⟨e',he',hs',hk'⟩,hc⟩ | hy)
      · exact ⟨⟨e',he',push_has.2 (.inl hs'),hk'⟩,hc⟩
      · cases hc:chB l x with
        | true =>
          rw [hc,if_pos rfl,List.mem_singleton] at hy
          subst hy
          exact ⟨⟨e,he,push_has.2 (.inr rfl),hx⟩,hc⟩
        | false=>rw [hc] at hy;simp at hy
    · rintro ⟨⟨e',he',hs',hk'⟩,hc⟩
      rcases push_has.1 hs' with h1 | h1
      · exact .inl ⟨⟨e',he',h1,hk'⟩,hc⟩
      · refine .inr ?_
        have hb:e' = e:=by
          have hnd:=hm.nd
          obtain ⟨i,hi,rfl⟩:=List.getElem_of_mem he
          obtain ⟨j,hj,rfl⟩:=List.getElem_of_mem he'
          have:j = i:=nodup_idx (l:=es.toList.map (·.born)) (by simpa using hj) (by simpa using hi) hnd (by simpa using h1)
          subst this;rfl
        subst hb
        have:y = x:=by rw [hx] at hk';cases hk';rfl
        subst this
        rw [hc,if_pos rfl];simp
theorem FndM.all {l l':List Cp} {m:List (Int × Value)} {es:Array MapEntry} {ck:Nat} {seen:Array Nat} {out:List Int} (h:FndM l es seen out) (hm:mpOk (fun n:Int=>Value.int .i64 n) m es ck) (hE:EndM l' l'.length m) (hp:List.Perm l' l) (hall:∀ e ∈ es.toList,seen.contains e.born = true):∀ x,x ∈ out ↔ endB l x = true ∧ chB l x = true:=by
  intro x
  rw [h.mem]
  have hk:endB l x = true ↔ x ∈ keysM m:=by rw [hE.mem,List.take_length,endB_perm hp]
  rw [hk]
  constructor
  · rintro ⟨⟨e,he,_,hk⟩,hc⟩
    obtain ⟨y,hy,hye⟩:=ent_int hm he
    rw [hk] at hye
    cases hye
    exact ⟨hy,hc⟩
  · rintro ⟨hx,hc⟩
    have:Value.int .i64 x ∈ es.toList.map (·.key):=by rw [ent_keys hm];exact List.mem_map_of_mem hx
    obtain ⟨e,he,hke⟩:=List.mem_map.1 this
    exact ⟨⟨e,he,hall e he,hke⟩,hc⟩
theorem aset_len (k:Int) (v:Value):∀ m:List (Int × Value),(aset k v m).length ≤ m.length + 1
  | []=>by simp [aset]
  | (y, u) :: r => by
    unfold aset
    split
    · simp
    · have:=aset_len k v r;simp;omega
end Go.Proofs.A1
