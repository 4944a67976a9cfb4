/- Parts of the proof: DV1 DV2 DV3. -/
import Derived.Test.YthhidjfahmcekaaDoorPM11
import Derived.Test.YthhidjfahmcekaaDoorPM05
import Derived.Test.YthhidjfahmcekaaDoorPM09
import Derived.Test.YthhidjfahmcekaaDoorPM10
set_option linter.unusedSectionVars false
set_option linter.unusedVariables false
set_option linter.unusedSimpArgs false
namespace Go.Proofs.A1
open Go Go.SL
theorem tr_cutW {c:Cx} {D:List Nat} {sl:Slots} {hs rest:List Asn} {X:Act → World → Prop} (sl2:Slots) (hs2:List Asn) (h1:Subs sl sl2) (ht:Takes hs hs2 rest) (k:Tr c D sl2 hs2 X):Tr c D sl hs X:=fun a w hst=>k a w (hst.weaken h1 ht)
theorem whenP_c (h:Bool) (e:Int) (w:World):GivesV Tryd.prog 91 [.bool h,.int .i64 e] w (.int .i64 (whenF h e)):=by
  refine givesV_of_tr Tryd.func91 rfl rfl ?_
  (refine s_r ?_;refine a_s rfl rfl ?_;refine n_t ?_;refine tr_seq ?_;refine s_r ?_;refine m_v rfl rfl ?_;refine n_t ?_;refine c_b rfl (fun hcd=>?_) (fun hcd=>?_);refine s_r ?_;refine m_v rfl rfl ?_;refine a_s rfl rfl ?_;refine n_t ?_;refine r_t ?_;refine tr_retE rfl (ends1 rfl rfl) ?_;rotate_left;refine s_t ?_;refine s_r ?_;refine a_s rfl rfl ?_;refine n_t ?_;refine tr_ret ?_;refine tr_retE rfl (ends1 rfl rfl) ?_;rotate_right)
  all_goals simp [whenF, *]
theorem withinP_c (n l m:Int) (w:World):GivesV Tryd.prog 66 [.int .i64 n,.int .i64 l,.int .i64 m] w (.int .i64 (withinF n l m)):=by
  refine givesV_of_tr Tryd.func66 rfl rfl ?_
  (refine s_r ?_;refine a_s rfl rfl ?_;refine n_r ?_;refine m_v rfl rfl ?_;refine m_v rfl rfl ?_;refine tr_val (rk_lss (.of rfl) (.of rfl)) rfl ?_;refine m_v rfl rfl ?_;refine v_g rfl rfl rfl rfl ?_;refine v_g rfl rfl rfl rfl ?_;refine tr_vG1 rfl rfl inferInstance (fun hg hgp=>(rk_gtr (.ofg hg rfl) (.ofg hg rfl))) rfl ?_;refine tr_val (rk_pick_or (.of rfl) rfl) rfl ?_;refine tr_callV (rk_call (.of rfl) (.cons (.of rfl) (.cons (.of rfl) .nil)) inferInstance normc_) rfl (fun w' hm'=>(whenP_c _ 3 w')) ?_;refine a_s rfl rfl ?_;refine n_t ?_;refine tr_ret ?_;refine tr_retE rfl (ends1 rfl rfl) ?_)
  rfl
theorem firstP_c (v:Value) (es:List Int) (w:World) (h:Rd w v 1 (ints es)):GivesV Tryd.prog 65 [v] w (.int .i64 (firstF es)):=by
  obtain ⟨a,cap,b,o,rfl,hcap,hmax,ha,hc⟩:=h
  rw [ints_length] at *
  unfold maxLen at hmax
  refine givesV_of_tr Tryd.func65 rfl rfl ?_
  (refine s_r ?_;refine a_s rfl rfl ?_;refine n_t ?_;refine tr_seq ?_;refine s_r ?_;refine m_v rfl rfl ?_;refine tr_val (rk_len_slice (.of rfl)) rfl ?_;refine m_v rfl rfl ?_;refine n_t ?_;refine tr_block ?_)
  refine tr_for (fun k:Nat=>k ≤ es.length ∧ firstF es = firstF (es.drop k)) (fun k=>[(7,.int .i64 k),(6,.int .i64 es.length),(5,.slice a es.length cap)]) (fun _=>[]) (fun k=>es.length - k) ?_ ?_
  · apply tr_start 0 ⟨Nat.zero_le _,rfl⟩
    case hs1=>exact .cons rfl (.cons rfl (.cons rfl .nil))
    case ht=>(try simp only [List.take_zero,List.map_nil,List.nil_append]);exact .nil
  intro k ⟨hk,hf⟩
  by_cases hlt:k < es.length
  · have ha':=ha (ints_ne hlt)
    have hcell:=rd1 hc (ints_get hlt)
    have hs:=firstF_at hlt
    (refine s_r ?_;refine tr_val (rk_lss (.of rfl) (.of rfl)) rfl ?_;refine n_t ?_;refine tr_seq ?_;refine c_d rfl (fun hcd=>?_) (fun _=>by omega);refine s_t ?_;refine tr_seq ?_;refine tr_block ?_;refine s_r ?_;refine tr_val (rk_indexAddr (.of rfl) (.of rfl) ha' (by omega) hcd norm1_) rfl ?_;refine tr_val (rk_load1 (.of rfl) (At.base hcell rfl)) rfl ?_;refine a_s rfl rfl ?_;refine n_r ?_;refine m_v rfl rfl ?_;refine tr_val (rk_neq (.of rfl) (.of rfl)) rfl ?_;refine n_t ?_;refine c_d rfl (fun hcd=>?_) (fun hcd=>?_);refine s_r ?_;refine m_v rfl rfl ?_;refine a_s rfl rfl ?_;refine n_t ?_;refine tr_ret ?_;refine tr_blk_ret ?_;refine tr_then_ret ?_;refine tr_then_ret ?_;refine tr_blk_ret ?_;refine tr_then_ret ?_;refine tr_retE rfl (ends1 rfl rfl) ?_;rotate_left;refine tr_skip ?_;refine tr_blk_normal ?_;refine tr_then ?_;refine tr_region ?_;refine tr_val (rk_add (.of rfl) (.of rfl) (ini (by omega))) rfl ?_;refine m_v rfl rfl ?_;refine n_t ?_;rotate_right)
    · rw [hf,hs,if_pos hcd]
    · apply tr_next (k + 1) ⟨by omega,by rw [hf,hs,if_neg hcd]⟩ (by omega)
      case hs1=>exact .cons rfl (.cons rfl (.cons rfl .nil))
      case ht=>(try simp only [List.take_zero,List.map_nil,List.nil_append]);exact .nil
  · (refine s_r ?_;refine tr_val (rk_lss (.of rfl) (.of rfl)) rfl ?_;refine n_t ?_;refine tr_seq ?_;refine c_d rfl (fun _=>by omega) (fun hcd=>?_);refine x_t ?_;refine tr_then_exit ?_;refine tr_blk_exit ?_;refine tr_then ?_;refine s_r ?_;refine a_s rfl rfl ?_;refine n_t ?_;refine tr_ret ?_;refine tr_retE rfl (ends1 rfl rfl) ?_)
    rw [hf,List.drop_of_length_le (by omega)];rfl
def pkC (k c:Int) (D:List Int):List Value:=.int .i64 k :: .int .i64 c :: wcells D
theorem chkPk_c (k c:Int) (d0 d1 d2 d3 d4 d5 d6 d7 d8 d9:Int) (w:World):GivesV Tryd.prog 31 [.agg (pkC k c [d0,d1,d2,d3,d4,d5,d6,d7,d8,d9]).toArray] w (.int .i64 (firstF [withinF k 0 255,withinF c 0 255])):=by
  have hfi:∀ (v:Value) w',Rd w' v 1 (ints [withinF k 0 255,withinF c 0 255]) → GivesV Tryd.prog 65 [v] w' (.int .i64 (firstF [withinF k 0 255,withinF c 0 255])):=fun v w' h=>firstP_c v _ w' h
  refine givesV_of_tr Tryd.func31 rfl rfl ?_
  unfold pkC
  (refine s_r ?_;refine tr_new (rk_box (.of rfl) rfl) rfl (fun _ _=>?_);refine a_s rfl rfl ?_;refine n_t ?_;refine tr_seq ?_)
  with_reducible refine tr_draw 6 (by kernel_rfl) ?_
  (refine a_f rfl rfl norm0_ ?_;refine any_val (rk_load1 (.of rfl) (At.lit .here rfl)) rfl ?_;refine any_call (rk_call (.of rfl) (.cons (.of rfl) (.cons (.of rfl) (.cons (.of rfl) .nil))) inferInstance normc_) rfl (fun w' hm'=>(withinP_c k 0 255 w')) ?_;refine a_f rfl rfl norm0_ ?_;refine any_val (rk_load1 (.of rfl) (At.lit .here rfl)) rfl ?_;refine any_call (rk_call (.of rfl) (.cons (.of rfl) (.cons (.of rfl) (.cons (.of rfl) .nil))) inferInstance normc_) rfl (fun w' hm'=>(withinP_c c 0 255 w')) ?_)
  with_reducible refine any_end ?_
  (refine tr_new (rk_sliceLit (.cons (.of rfl) (.cons (.of rfl) .nil)) rfl rfl rfl rfl) rfl (fun _ _=>?_);refine tr_callV (rk_call (.of rfl) (.cons (.of rfl) .nil) inferInstance normc_) rfl (fun w' hm'=>(hfi _ w' (Mem.rdBlk hm' .here rfl rfl))) ?_;refine a_s rfl rfl ?_;refine n_t ?_;refine tr_ret ?_;refine tr_retE rfl (ends1 rfl rfl) ?_)
  rfl
def pkSum (f d:Int) (l:List Int):Int:=l.foldl (fun x b=>(f * x + b) % d) 1
theorem pkSum_at {f d:Int} {l:List Int} {k:Nat} (h:k < l.length):pkSum f d (l.take (k + 1)) = (f * pkSum f d (l.take k) + l[k]) % d:=by
  unfold pkSum;rw [List.take_succ_eq_append_getElem h,List.foldl_append];rfl
theorem pkSum_in {f d:Int} (hd:1 < d) (l:List Int):0 ≤ pkSum f d l ∧ pkSum f d l < d:=by
  unfold pkSum
  have:∀ (l:List Int) (x:Int),0 ≤ x ∧ x < d → 0 ≤ l.foldl (fun x b=>(f * x + b) % d) x ∧ l.foldl (fun x b=>(f * x + b) % d) x < d:=by
    intro l
    induction l with
    | nil=>intro x h;exact h
    | cons b l ih=>intro x h;exact ih _ ⟨Int.emod_nonneg _ (by omega),Int.emod_lt_of_pos _ (by omega)⟩
  exact this l 1 ⟨by omega,by omega⟩
theorem sum_c {v:Value} {l:List Int} {w:World} (h:Rd w v 1 (byts l)) (hb:∀ x ∈ l,0 ≤ x ∧ x ≤ 255):GivesV Tryd.prog 67 [v,.int .i64 251,.int .i64 65521] w (.int .i64 (pkSum 251 65521 l)):=by
  obtain ⟨a,cap,b,o,rfl,hcap,hmax,ha,hc⟩:=h
  rw [byts_length] at *
  unfold maxLen at hmax
  refine givesV_of_tr Tryd.func67 rfl rfl ?_
  (refine s_r ?_;refine a_s rfl rfl ?_;refine n_r ?_;refine a_s rfl rfl ?_;refine n_t ?_;refine tr_seq ?_;refine s_r ?_;refine m_v rfl rfl ?_;refine tr_val (rk_len_slice (.of rfl)) rfl ?_;refine m_v rfl rfl ?_;refine n_t ?_;refine tr_block ?_)
  refine tr_for (fun k:Nat=>k ≤ l.length) (fun k=>[(12,.int .i64 k),(11,.int .i64 l.length),(10,.slice a l.length cap),(7,.int .i64 (pkSum 251 65521 (l.take k))),(1,.int .i64 251),(2,.int .i64 65521)]) (fun _=>[]) (fun k=>l.length - k) ?_ ?_
  · apply tr_start 0 (show (0:Nat) ≤ l.length from Nat.zero_le _)
    case hs1=>exact .cons rfl (.cons rfl (.cons rfl (.cons rfl (.cons rfl (.cons rfl .nil)))))
    case ht=>(try simp only [List.take_zero,List.map_nil,List.nil_append]);exact .nil
  intro k hk
  by_cases hlt:k < l.length
  · have ha':=ha (byts_ne hlt)
    have hcell:=rd1 hc (byts_get hlt)
    have hp:=pkSum_at (f:=251) (d:=65521) hlt
    have hi:=pkSum_in (f:=251) (d:=65521) (by omega) (l.take k)
    have hx:=hb _ (List.getElem_mem hlt)
    generalize pkSum 251 65521 (l.take k) = s at hp hi
    generalize l[k] = x at hcell hp hx
    (refine s_r ?_;refine tr_val (rk_lss (.of rfl) (.of rfl)) rfl ?_;refine n_t ?_;refine tr_seq ?_;refine c_d rfl (fun hcd=>?_) (fun _=>by omega);refine s_t ?_;refine tr_seq ?_;refine tr_block ?_;refine s_r ?_;refine tr_val (rk_indexAddr (.of rfl) (.of rfl) ha' (by omega) hcd norm1_) rfl ?_;refine tr_val (rk_load1 (.of rfl) (At.base hcell rfl)) rfl ?_;refine a_s rfl rfl ?_;refine n_t ?_;refine tr_region ?_;refine m_v rfl rfl ?_;refine m_v rfl rfl ?_;refine tr_val (rk_mul (.of rfl) (.of rfl) (ini (by omega))) rfl ?_;refine m_v rfl rfl ?_;refine tr_val (rk_conv (.of rfl)) rfl ?_)
    rw [i64w (by omega)]
    (refine tr_val (rk_add (.of rfl) (.of rfl) (ini (by omega))) rfl ?_;refine m_v rfl rfl ?_;refine tr_val (rk_rem (.of rfl) (.of rfl) (by omega) (by omega)) rfl ?_;refine a_s rfl rfl ?_;refine tr_nil ?_;refine tr_blk_normal ?_;refine tr_then ?_;refine tr_region ?_;refine tr_val (rk_add (.of rfl) (.of rfl) (ini (by omega))) rfl ?_;refine m_v rfl rfl ?_;refine n_t ?_)
    rw [← hp]
    apply tr_next (k + 1) (by omega) (by omega)
    case hs1=>exact .cons rfl (.cons rfl (.cons rfl (.cons rfl (.cons rfl (.cons rfl .nil)))))
    case ht=>(try simp only [List.take_zero,List.map_nil,List.nil_append]);exact .nil
  · obtain rfl:k = l.length:=by omega
    rw [List.take_length]
    (refine s_r ?_;refine tr_val (rk_lss (.of rfl) (.of rfl)) rfl ?_;refine n_t ?_;refine tr_seq ?_;refine c_d rfl (fun _=>by omega) (fun hcd=>?_);refine x_t ?_;refine tr_then_exit ?_;refine tr_blk_exit ?_;refine tr_then ?_;refine s_r ?_;refine m_v rfl rfl ?_;refine a_s rfl rfl ?_;refine n_t ?_;refine tr_ret ?_;refine tr_retE rfl (ends1 rfl rfl) ?_)
    rfl
theorem tr_rowAs {c:Cx} {D:List Nat} {sl:Slots} {hs hs':List Asn} {X:Act → World → Prop} {E:TypeId} {sz:Nat} {v:Value} {n m:Nat} {xs ys:List Value} (ht:Take hs (row E sz v n xs) hs') (hx:xs = ys) (hn:n = m)
    (k:Tr c D sl (row E sz v m ys :: hs') X):Tr c D sl hs X:=by
  subst hx hn
  exact fun a w hst=>k a w (hst.heap (hst.mem.take (ht.append _)))
theorem word_p (v:Value) (n:Nat) (xs:List Value) (x:Int) (hx:0 ≤ x ∧ x ≤ 65535) (hn:n ≤ 100000) (hl:xs.length = n * 1) (w:World) (fp:List Nat) (hs:Sats (hp w) [row 5 1 v n xs] fp) (hnd:fp.Nodup) :
    Gives Tryd.prog 68 [v,.int .i64 x] w fp (fun _:Value=>True) id (fun v'=>[row 5 1 v' (n + 2) (xs++[.int .u8 (x / 256),.int .u8 (x % 256)])]):=by
  refine givesM_of_tr Tryd.func68 rfl rfl hnd hs ?_
  have hol:xs.length = n * 1:=hl
  have e1:IntKind.u8.wrap (x / 2 ^ Int.toNat 8) = x / 256:=u8w (by show 0 ≤ x / 256 ∧ x / 256 ≤ 255;omega)
  have e2:IntKind.u8.wrap x = x % 256:=u8m (by omega)
  (refine s_r ?_;refine a_s rfl rfl ?_;refine n_r ?_;refine m_v rfl rfl ?_;refine m_v rfl rfl ?_;refine tr_val (rk_shrC (.of rfl) (.of rfl) rfl) rfl ?_;refine tr_val (rk_conv (.of rfl)) rfl ?_;refine m_v rfl rfl ?_;refine tr_val (rk_conv (.of rfl)) rfl ?_;refine tr_new (rk_sliceLit (.cons (.of rfl) (.cons (.of rfl) .nil)) rfl rfl rfl rfl) rfl (fun _ _=>?_))
  rw [e1,e2]
  refine tr_appendB (.of rfl) (.of rfl) (.there .here) .here norm_ (by rfl) (okc_cons rfl (okc_cons rfl okc_nil)) (by rfl) (by rfl) (by rfl) lenx_ (by rfl) ?_
  intro v'
  (refine a_s rfl rfl ?_;refine n_t ?_;refine tr_ret ?_)
  first | with_reducible apply tr_retM | with_reducible apply tr_endM
  case he=>exact ends1 rfl rfl
  case hR=>
    intro w' hm'
    exact gives_end v' trivial (show Takes _ [row 5 1 v' (n + 2) (xs++[.int .u8 (x / 256),.int .u8 (x % 256)])] _ by exact .cons .here .nil) hm' rfl
def pkS (k c:Int) (D:List Int):List Int:=171 :: k :: c :: D
def pkT (k c:Int) (D:List Int):List Int:=pkS k c D++[parF (k :: c :: D)]
def frmL (k c:Int) (D:List Int):List Int:=pkT k c D++[pkSum 251 65521 (pkT k c D) / 256,pkSum 251 65521 (pkT k c D) % 256]
theorem bytsV_wcS:∀ l:List Int,bytsV l = wcells l
  | []=>rfl
  | x :: l => by
    show [Value.int .u8 x]++bytsV l = _
    rw [bytsV_wcS l];rfl
theorem wcells_app (a b:List Int):wcells (a++b) = wcells a++wcells b:=List.map_append
theorem list16 {F:List Int} (h:F.length = 16):∃ f0 f1 f2 f3 f4 f5 f6 f7 f8 f9 fa fb fc fd fe ff:Int,F = [f0,f1,f2,f3,f4,f5,f6,f7,f8,f9,fa,fb,fc,fd,fe,ff]:=by
  match F,h with
  | [f0,f1,f2,f3,f4,f5,f6,f7,f8,f9,fa,fb,fc,fd,fe,ff],_=>exact ⟨_,_,_,_,_,_,_,_,_,_,_,_,_,_,_,_,rfl⟩
theorem frame_p (k c:Int) (d0 d1 d2 d3 d4 d5 d6 d7 d8 d9:Int) (hk:0 ≤ k ∧ k ≤ 255) (hc:0 ≤ c ∧ c ≤ 255) (hD:∀ x ∈ [d0,d1,d2,d3,d4,d5,d6,d7,d8,d9],0 ≤ x ∧ x ≤ 255) (w:World) :
    GivesV Tryd.prog 32 [.agg (pkC k c [d0,d1,d2,d3,d4,d5,d6,d7,d8,d9]).toArray] w (.agg (wcells (frmL k c [d0,d1,d2,d3,d4,d5,d6,d7,d8,d9])).toArray):=by
  refine givesV_of_tr Tryd.func32 rfl rfl ?_
  unfold pkC
  have ek:IntKind.u8.wrap k = k:=u8w hk
  have ec:IntKind.u8.wrap c = c:=u8w hc
  (refine s_r ?_;refine tr_new (rk_box (.of rfl) rfl) rfl (fun _ _=>?_);refine tr_new (rk_alloc rfl) rfl (fun _ _=>?_);refine n_t ?_;refine tr_seq ?_)
  with_reducible refine tr_drawO 9 (by kernel_rfl) ?_
  (refine ao_val (rk_fieldAddr (.of rfl) norm0_) rfl ?_;refine ao_val (rk_load1 (.of rfl) (At.lit (.there .here) rfl)) rfl ?_;refine ao_val (rk_conv (.of rfl)) rfl ?_;refine ao_val (rk_fieldAddr (.of rfl) norm0_) rfl ?_;refine ao_val (rk_load1 (.of rfl) (At.lit (.there .here) rfl)) rfl ?_;refine ao_val (rk_conv (.of rfl)) rfl ?_;refine ao_new (rk_sliceLit (.cons (.of rfl) (.cons (.of rfl) (.cons (.of rfl) .nil))) rfl rfl rfl rfl) rfl rfl ?_;refine ao_val (rk_fieldAddr (.of rfl) norm0_) rfl ?_;refine ao_val (rk_sliceA (.of rfl)) rfl ?_)
  with_reducible refine ao_end1 rfl fun bq hbq=>?_
  rw [ek,ec]
  refine tr_rowLitE (g:=bq) (E:=5) (ys:=[.int .u8 171,.int .u8 k,.int .u8 c]) 3 1 (by exact .here) rfl rfl rfl ?_
  refine tr_appendB (.of rfl) (.of rfl) .here (.there (.there .here)) norm_ (by rfl) (okc_cons rfl (okc_cons rfl (okc_cons rfl (okc_cons rfl (okc_cons rfl (okc_cons rfl (okc_cons rfl (okc_cons rfl (okc_cons rfl (okc_cons rfl okc_nil)))))))))) (by rfl) (by rfl) (by rfl) lenx_ (by rfl) ?_
  intro v
  (refine a_s rfl rfl ?_;refine n_r ?_;refine a_s rfl rfl ?_;refine n_t ?_;refine tr_seq ?_;refine s_r ?_;refine m_v rfl rfl ?_)
  rename_i b1 hb1 b2 hb2
  refine tr_rowAs (E:=5) (sz:=1) (v:=v) (ys:=bytsV (pkS k c [d0,d1,d2,d3,d4,d5,d6,d7,d8,d9])) (m:=13) (by exact .here) (by exact rfl) (by exact rfl) ?_
  refine tr_cutW [(18,v),(4,.int .u8 0),(3,v),(2,.pointer (some ⟨b2,0,none⟩))] [row 5 1 v 13 (bytsV (pkS k c [d0,d1,d2,d3,d4,d5,d6,d7,d8,d9])),blk b2 (.cells #[.int .u8 0,.int .u8 0,.int .u8 0,.int .u8 0,.int .u8 0,.int .u8 0,.int .u8 0,.int .u8 0,.int .u8 0,.int .u8 0,.int .u8 0,.int .u8 0,.int .u8 0,.int .u8 0,.int .u8 0,.int .u8 0] 38 (0,0))] (by exact .cons rfl (.cons rfl (.cons rfl (.cons rfl .nil)))) (by exact .cons .here (.cons .here .nil)) ?_
  have hSl:(pkS k c [d0,d1,d2,d3,d4,d5,d6,d7,d8,d9]).length = 13:=rfl
  have hSb:∀ x ∈ pkS k c [d0,d1,d2,d3,d4,d5,d6,d7,d8,d9],0 ≤ x ∧ x ≤ 255:=fun x hx=>by
    rcases List.mem_cons.1 hx with rfl | hx
    · omega
    rcases List.mem_cons.1 hx with rfl | hx
    · exact hk
    rcases List.mem_cons.1 hx with rfl | hx
    · exact hc
    · exact hD x hx
  have hSd:(pkS k c [d0,d1,d2,d3,d4,d5,d6,d7,d8,d9]).drop 1 = k :: c :: [d0,d1,d2,d3,d4,d5,d6,d7,d8,d9]:=rfl
  unfold frmL pkT
  generalize pkS k c [d0,d1,d2,d3,d4,d5,d6,d7,d8,d9] = S at *
  generalize k :: c :: [d0,d1,d2,d3,d4,d5,d6,d7,d8,d9] = T at *
  refine tr_rowOpen (E:=5) (sz:=1) (v:=v) (by exact .here) (show 0 < 13 by omega) ?_
  rintro g cap cur rfl hcap hmax hsz hxl
  (refine tr_val (rk_slice_l (.of rfl) (.of rfl) (by omega) (by omega)) rfl ?_;refine tr_val (rk_len_slice (.of rfl)) rfl ?_;refine m_v rfl rfl ?_;refine n_t ?_;refine tr_block ?_)
  rw [show Go.sliced (some ⟨g,0,none⟩) (Int.toNat 1) 13 cap 1 = .slice (some ⟨g,0 + 1 * 1,none⟩) 12 (cap - 1) by
    simp [sliced,show ¬ cap = 1 by omega,addr_add],show 13 - Int.toNat 1 = 12 from rfl]
  have hTl:T.length = 12:=by rw [← hSd,List.length_drop,hSl]
  refine tr_for (ι:=Nat) (fun j=>j ≤ 12) (fun j=>[(21,.int .i64 (j:Nat)),(20,.int .i64 (12:Nat)),(19,.slice (some ⟨g,0 + 1 * 1,none⟩) 12 (cap - 1)),(4,.int .u8 (parF (T.take j))),(3,.slice (some ⟨g,0,none⟩) 13 cap),(2,.pointer (some ⟨b2,0,none⟩))]) (fun _=>[blk g (.cells (bytsV S++cur).toArray 5 (0,0)),blk b2 (.cells #[.int .u8 0,.int .u8 0,.int .u8 0,.int .u8 0,.int .u8 0,.int .u8 0,.int .u8 0,.int .u8 0,.int .u8 0,.int .u8 0,.int .u8 0,.int .u8 0,.int .u8 0,.int .u8 0,.int .u8 0,.int .u8 0] 38 (0,0))]) (fun j=>12 - j) ?_ ?_
  · apply tr_start 0 (show (0:Nat) ≤ 12 by omega)
    case hs1=>exact .cons rfl (.cons rfl (.cons rfl (.cons rfl (.cons rfl (.cons rfl .nil)))))
    case ht=>exact .cons .here (.cons .here .nil)
  intro j hj
  by_cases hj12:j < 12
  · have hjT:j < T.length:=by omega
    have q0:(bytsV S++cur)[0 + 1 * 1 + j * 1]? = some (.int .u8 T[j]):=by
      have hj13:1 + j < S.length:=by omega
      rw [show 0 + 1 * 1 + j * 1 = 1 + j by omega,bytsV_wcS,List.getElem?_append_left (by rw [List.length_map];exact hj13),List.getElem?_map,List.getElem?_eq_getElem hj13]
      have:T[j] = S[1 + j]:=by simp only [← hSd,List.getElem_drop]
      rw [this];rfl
    have hp:=parF_at hjT
    generalize T[j] = t at q0 hp
    generalize parF (T.take j) = pr at hp ⊢
    (refine s_r ?_;refine tr_val (rk_lss (.of rfl) (.of rfl)) rfl ?_;refine n_t ?_;refine tr_seq ?_;refine c_d rfl (fun hcd=>?_) (fun _=>by omega);refine s_t ?_;refine tr_seq ?_;refine tr_block ?_;refine s_r ?_;refine tr_val (rk_indexAddr (.of rfl) (.of rfl) rfl (by omega) hcd norm1_) rfl ?_;refine tr_val (rk_load1 (.of rfl) (At.blkL .here q0)) rfl ?_;refine a_s rfl rfl ?_;refine n_t ?_;refine tr_region ?_;refine m_v rfl rfl ?_;refine m_v rfl rfl ?_;refine tr_val (rk_xor8 (.of rfl) (.of rfl)) rfl ?_;refine a_s rfl rfl ?_;refine tr_nil ?_;refine tr_blk_normal ?_;refine tr_then ?_;refine tr_region ?_;refine tr_val (rk_add (.of rfl) (.of rfl) (ini (by omega))) rfl ?_;refine m_v rfl rfl ?_;refine n_t ?_)
    apply tr_next (j + 1) (show j + 1 ≤ 12 by omega) (show 12 - (j + 1) < 12 - j by omega)
    case hs1=>
      rw [hp]
      exact .cons rfl (.cons rfl (.cons rfl (.cons rfl (.cons rfl (.cons rfl .nil)))))
    case ht=>exact .cons .here (.cons .here .nil)
  obtain rfl:j = 12:=by omega
  rw [show T.take 12 = T from List.take_of_length_le (by omega)]
  have hpb:=parF_byte T
  generalize parF T = pr at *
  (refine s_r ?_;refine tr_val (rk_lss (.of rfl) (.of rfl)) rfl ?_;refine n_t ?_;refine tr_seq ?_;refine c_d rfl (fun _=>by omega) (fun hcd=>?_);refine x_t ?_;refine tr_then_exit ?_;refine tr_blk_exit ?_;refine tr_then ?_;refine s_r ?_;refine m_v rfl rfl ?_;refine m_v rfl rfl ?_;refine tr_new (rk_sliceLit (.cons (.of rfl) .nil) rfl rfl rfl rfl) rfl (fun _ _=>?_))
  refine tr_rowShut (g:=g) (E:=5) (sz:=1) (n:=13) (cap:=cap) (xs:=bytsV S) (cur:=cur) (by exact Take.there .here) hcap hmax hsz hxl ?_
  have hol:(bytsV S).length = 13 * 1:=hxl
  refine tr_appendB (.of rfl) (.of rfl) .here (.there .here) norm_ (by rfl) (okc_cons rfl okc_nil) (by rfl) (by rfl) (by rfl) lenx_ (by rfl) ?_
  intro v2
  (refine a_s rfl rfl ?_;refine n_r ?_;refine m_v rfl rfl ?_)
  rw [show bytsV S++[Value.int .u8 pr] = bytsV (S++[pr]) by rw [bytsV_wcS,bytsV_wcS,wcells_app];rfl,show 13 + 1 = 14 from rfl]
  have hUl:(S++[pr]).length = 14:=by rw [List.length_append,hSl];rfl
  have hUb:∀ x ∈ S++[pr],0 ≤ x ∧ x ≤ 255:=fun x hx=>by
    rcases List.mem_append.1 hx with hx | hx
    · exact hSb x hx
    · rw [List.mem_singleton.1 hx];exact hpb
  generalize S++[pr] = U at *
  with_reducible apply tr_callV
  case hr=>exact rk_call (.of rfl) (.cons (.of rfl) (.cons (.of rfl) (.cons (.of rfl) .nil))) inferInstance normc_
  case hd=>rfl
  case hc=>
    intro w' hm'
    exact sum_c (byts_rd (E:=5) (v:=v2) hm' (by exact .here) hUl) hUb
  have hsm:=pkSum_in (f:=251) (d:=65521) (by omega) U
  generalize pkSum 251 65521 U = q at *
  (refine a_s rfl rfl ?_;refine n_r ?_;refine m_v rfl rfl ?_;refine m_v rfl rfl ?_)
  with_reducible apply tr_call
  case hr=>exact rk_call (.of rfl) (.cons (.of rfl) (.cons (.of rfl) .nil)) inferInstance normc_
  case hd=>rfl
  case ht=>exact (show Takes _ [row 5 1 v2 14 (bytsV U)] _ by exact .cons .here .nil)
  case hc=>
    intro w1 fp hm1 hnd hs1
    exact word_p v2 14 _ q (by omega) (by omega) (by rw [bytsV_len,hUl]) w1 fp hs1 hnd
  intro v3 _
  dsimp only [id_eq,List.cons_append,List.nil_append]
  rw [show bytsV U++[Value.int .u8 (q / 256),Value.int .u8 (q % 256)] = bytsV (U++[q / 256,q % 256]) by rw [bytsV_wcS,bytsV_wcS,wcells_app];rfl,show 14 + 2 = 16 from rfl]
  have hFl:(U++[q / 256,q % 256]).length = 16:=by rw [List.length_append,hUl];rfl
  generalize U++[q / 256,q % 256] = F at *
  refine tr_rowOpen (E:=5) (sz:=1) (v:=v3) (by exact .here) (show 0 < 16 by omega) ?_
  rintro g3 cap3 cur3 rfl hcap3 hmax3 hsz3 hxl3
  obtain ⟨f0,f1,f2,f3,f4,f5,f6,f7,f8,f9,fa,fb,fc,fd,fe,ff,rfl⟩:=list16 hFl
  have hz:cellsAt (bytsV [f0,f1,f2,f3,f4,f5,f6,f7,f8,f9,fa,fb,fc,fd,fe,ff]++cur3) 0 16 = [.int .u8 f0,.int .u8 f1,.int .u8 f2,.int .u8 f3,.int .u8 f4,.int .u8 f5,.int .u8 f6,.int .u8 f7,.int .u8 f8,.int .u8 f9,.int .u8 fa,.int .u8 fb,.int .u8 fc,.int .u8 fd,.int .u8 fe,.int .u8 ff]:=by
    rw [cellsAt_app (by omega)];rfl
  refine tr_val (rk_s2ap (.of rfl) rfl) rfl ?_
  (refine tr_val (rk_loadB (.of rfl) .here hz rfl) rfl ?_;refine tr_store (.of rfl) (.of rfl) (.there (.there .here)) rfl rfl (okc_cons rfl (okc_cons rfl (okc_cons rfl (okc_cons rfl (okc_cons rfl (okc_cons rfl (okc_cons rfl (okc_cons rfl (okc_cons rfl (okc_cons rfl (okc_cons rfl (okc_cons rfl (okc_cons rfl (okc_cons rfl (okc_cons rfl (okc_cons rfl okc_nil)))))))))))))))) (lenb rfl) norm_ ?_;refine n_t ?_;refine tr_ret ?_;refine tr_retE rfl (ends1cB rfl inferInstance rfl .here norm_ (by rfl)) ?_)
  rfl
theorem frm_len (k c:Int) {D:List Int} (h:D.length = 10):(frmL k c D).length = 16:=by unfold frmL pkT pkS;simp [h]
set_option maxHeartbeats 1000000
theorem encode_p (k c:Int) (d0 d1 d2 d3 d4 d5 d6 d7 d8 d9:Int) (hk:0 ≤ k ∧ k ≤ 255) (hc:0 ≤ c ∧ c ≤ 255) (hD:∀ x ∈ [d0,d1,d2,d3,d4,d5,d6,d7,d8,d9],0 ≤ x ∧ x ≤ 255) (w:World) :
    GivesV Tryd.prog 9 [.agg (pkC k c [d0,d1,d2,d3,d4,d5,d6,d7,d8,d9]).toArray] w (.tuple #[.agg (wcells (frmL k c [d0,d1,d2,d3,d4,d5,d6,d7,d8,d9])).toArray,.int .i64 0]):=by
  have hz:firstF [withinF k 0 255,withinF c 0 255] = 0:=by rw [withinF_zero.2 hk,withinF_zero.2 hc];rfl
  have hck:∀ w',GivesV Tryd.prog 31 [.agg (pkC k c [d0,d1,d2,d3,d4,d5,d6,d7,d8,d9]).toArray] w' (.int .i64 0):=fun w'=>by have h0:=chkPk_c k c d0 d1 d2 d3 d4 d5 d6 d7 d8 d9 w';rw [hz] at h0;exact h0
  have hfr:∀ w',GivesV Tryd.prog 32 [.agg (pkC k c [d0,d1,d2,d3,d4,d5,d6,d7,d8,d9]).toArray] w' (.agg (wcells (frmL k c [d0,d1,d2,d3,d4,d5,d6,d7,d8,d9])).toArray):=fun w'=>frame_p k c d0 d1 d2 d3 d4 d5 d6 d7 d8 d9 hk hc hD w'
  obtain ⟨f0,f1,f2,f3,f4,f5,f6,f7,f8,f9,fa,fb,fc,fd,fe,ff,hF⟩:=list16 (frm_len k c (D:=[d0,d1,d2,d3,d4,d5,d6,d7,d8,d9]) rfl)
  rw [hF] at hfr ⊢
  refine givesV_of_tr Tryd.func9 rfl rfl ?_
  simp only [pkC,wcells,List.map_cons,List.map_nil] at hck hfr ⊢
  (refine s_r ?_;refine tr_new (rk_box (.of rfl) rfl) rfl (fun _ _=>?_);refine tr_new (rk_alloc rfl) rfl (fun _ _=>?_);refine a_s rfl rfl ?_;refine n_t ?_;refine tr_seq ?_;refine s_r ?_;refine tr_val (rk_loadB (.of rfl) (.there .here) norm_ (by rfl)) rfl ?_;refine tr_callV (rk_call (.of rfl) (.cons (.of rfl) .nil) inferInstance normc_) rfl (fun w' hm'=>(hck w')) ?_;refine a_s rfl rfl ?_;refine n_r ?_;refine m_v rfl rfl ?_;refine tr_val (rk_neq (.of rfl) (.of rfl)) rfl ?_;refine n_t ?_;refine c_d rfl (fun _=>by omega) (fun hcd=>?_);refine s_t ?_;refine s_r ?_;refine tr_val (rk_loadB (.of rfl) (.there .here) norm_ (by rfl)) rfl ?_;refine tr_callV (rk_call (.of rfl) (.cons (.of rfl) .nil) inferInstance normc_) rfl (fun w' hm'=>(hfr w')) ?_;refine tr_store (.of rfl) (.of rfl) .here rfl rfl (okc_cons rfl (okc_cons rfl (okc_cons rfl (okc_cons rfl (okc_cons rfl (okc_cons rfl (okc_cons rfl (okc_cons rfl (okc_cons rfl (okc_cons rfl (okc_cons rfl (okc_cons rfl (okc_cons rfl (okc_cons rfl (okc_cons rfl (okc_cons rfl okc_nil)))))))))))))))) (lenb rfl) norm_ ?_;refine a_s rfl rfl ?_;refine n_t ?_;refine tr_ret ?_;refine tr_retE rfl (endsCT rfl inferInstance rfl .here norm_ (by rfl) (by rfl)) ?_)
  rfl
theorem rk_sliceA_lh {P:Program} {c:Cx} {sl:Slots} {hs:List Asn} {dst:Option Tmp} {ty:TypeId} {pos:String} {af:Array Edge} {g:Option (Nat × Bool)} {t e:TypeId} {m n q a a':Nat} {agg:Bool} {x y z:Operand} {b o:Nat} {k k':IntKind} {l h:Int} [hu:Und P t (.array m e)] [hT:Ty P e agg n] (hx:Is sl x (.pointer (some ⟨b,o,none⟩))) (hy:Is sl y (.int k l)) (hz:Is sl z (.int k' h)) (h0:0 ≤ l) (h1:l < m) (h2:l ≤ h) (h3:h ≤ m) (hq:o + l.toNat * n = q) (hh:h.toNat - l.toNat = a) (hc:m - l.toNat = a') :
    RunV P c sl hs ⟨dst,.slice t x (some y) (some z) none,ty,pos,af,g⟩ (.slice (some ⟨b,q,none⟩) a a'):=
  ⟨by simp,fun ac w ha _=>by
    subst hq hh hc
    have hne:¬ m = l.toNat:=by omega
    have hlt:¬ max h 0 < l:=by omega
    simp only [execOp,hx ac ha,hy ac ha,hz ac ha,Option.map]
    refine value_of ?_
    simp [Instr.sliceAt,rk_underlying hu.eq,Instr.sureAddr,Instr.sliceBounds,Instr.sliceBound,asIntOf,h0,Int.le_of_lt h1,h2,h3,Int.le_trans h0 h2,hne,hlt,rk_sizeOf (t:=e) (agg:=agg) (n:=n),addr_add]⟩
theorem decode_p (k c:Int) (d0 d1 d2 d3 d4 d5 d6 d7 d8 d9:Int) (hk:0 ≤ k ∧ k ≤ 255) (hc:0 ≤ c ∧ c ≤ 255) (hD:∀ x ∈ [d0,d1,d2,d3,d4,d5,d6,d7,d8,d9],0 ≤ x ∧ x ≤ 255) (w:World) :
    GivesV Tryd.prog 28 [.agg (wcells (frmL k c [d0,d1,d2,d3,d4,d5,d6,d7,d8,d9])).toArray] w (.tuple #[.agg (pkC k c [d0,d1,d2,d3,d4,d5,d6,d7,d8,d9]).toArray,.int .i64 0]):=by
  have hfr:∀ w',GivesV Tryd.prog 32 [.agg (pkC k c [d0,d1,d2,d3,d4,d5,d6,d7,d8,d9]).toArray] w' (.agg (wcells (frmL k c [d0,d1,d2,d3,d4,d5,d6,d7,d8,d9])).toArray):=fun w'=>frame_p k c d0 d1 d2 d3 d4 d5 d6 d7 d8 d9 hk hc hD w'
  have e1:frmL k c [d0,d1,d2,d3,d4,d5,d6,d7,d8,d9] = [171,k,c,d0,d1,d2,d3,d4,d5,d6,d7,d8,d9]++(frmL k c [d0,d1,d2,d3,d4,d5,d6,d7,d8,d9]).drop 13:=rfl
  obtain ⟨fd,fe,ff,hF⟩:∃ fd fe ff:Int,(frmL k c [d0,d1,d2,d3,d4,d5,d6,d7,d8,d9]).drop 13 = [fd,fe,ff]:=⟨_,_,_,rfl⟩
  rw [hF] at e1
  rw [e1] at hfr ⊢
  clear e1 hF
  have ek:IntKind.i64.wrap k = k:=i64w (by omega)
  have ec:IntKind.i64.wrap c = c:=i64w (by omega)
  refine givesV_of_tr Tryd.func28 rfl rfl ?_
  simp only [pkC,wcells,List.map_cons,List.map_nil,List.cons_append,List.nil_append] at hfr ⊢
  (refine s_r ?_;refine tr_new (rk_box (.of rfl) rfl) rfl (fun _ _=>?_);refine tr_new (rk_alloc rfl) rfl (fun _ _=>?_);refine a_s rfl rfl ?_;refine n_t ?_;refine tr_seq ?_;refine s_r ?_;refine tr_val (rk_indexAddrA (.of rfl) (.of rfl) (by omega) (by omega) norm1_) rfl ?_;refine tr_val (rk_load1 (.of rfl) (At.lit (.there .here) rfl)) rfl ?_;refine tr_val (rk_neq (.of rfl) (.of rfl)) rfl ?_;refine n_t ?_;refine c_d rfl (fun _=>by omega) (fun hcd=>?_);refine s_t ?_;refine tr_seq ?_)
  with_reducible refine tr_drawO 11 (by kernel_rfl) ?_
  (refine ao_val (rk_indexAddrA (.of rfl) (.of rfl) (by omega) (by omega) norm1_) rfl ?_;refine ao_val (rk_load1 (.of rfl) (At.lit (.there .here) rfl)) rfl ?_;refine ao_val (rk_conv (.of rfl)) rfl ?_;refine ao_val (rk_indexAddrA (.of rfl) (.of rfl) (by omega) (by omega) norm1_) rfl ?_;refine ao_val (rk_load1 (.of rfl) (At.lit (.there .here) rfl)) rfl ?_;refine ao_val (rk_conv (.of rfl)) rfl ?_)
  refine ao_val (rk_sliceA_lh (q:=3) (a:=10) (a':=13) (.of rfl) (.of rfl) (.of rfl) (by decide) (by decide) (by decide) (by decide) rfl rfl rfl) rfl ?_
  refine ao_val (rk_s2ap (.of rfl) rfl) rfl ?_
  (refine ao_val (rk_loadB (.of rfl) (.there .here) norm_ (by rfl)) rfl ?_;refine ao_val (rk_buildL (.cons (.of rfl) (.cons (.of rfl) (.cons (.of rfl) .nil))) norm_) rfl ?_;refine ao_new (rk_alloc rfl) rfl rfl ?_)
  with_reducible refine ao_end1 rfl fun bp hbp=>?_
  rw [ek,ec]
  (refine tr_store (.of rfl) (.of rfl) .here rfl rfl (okc_cons rfl (okc_cons rfl (okc_cons rfl (okc_cons rfl (okc_cons rfl (okc_cons rfl (okc_cons rfl (okc_cons rfl (okc_cons rfl (okc_cons rfl (okc_cons rfl (okc_cons rfl okc_nil)))))))))))) (lenb rfl) norm_ ?_;refine n_t ?_;refine tr_seq ?_;refine tr_seq ?_)
  with_reducible refine tr_draw 4 (by kernel_rfl) ?_
  (refine any_val (rk_loadB (.of rfl) .here norm_ (by rfl)) rfl ?_;refine any_call (rk_call (.of rfl) (.cons (.of rfl) .nil) inferInstance normc_) rfl (fun w' hm'=>(hfr w')) ?_;refine any_val (rk_loadB (.of rfl) (.there (.there .here)) norm_ (by rfl)) rfl ?_;refine any_val (rk_neqA (.of rfl) (.of rfl) (okL_int (okL_int (okL_int (okL_int (okL_int (okL_int (okL_int (okL_int (okL_int (okL_int (okL_int (okL_int (okL_int (okL_int (okL_int (okL_int okL_nil)))))))))))))))) rfl) rfl ?_)
  with_reducible refine any_end ?_
  (refine n_t ?_;refine c_b rfl (fun hcd=>?_) (fun hcd=>?_);refine s_r ?_;refine tr_val (rk_buildL .nil norm_) rfl ?_;refine tr_store (.of rfl) (.of rfl) (.there .here) rfl rfl (okc_cons rfl (okc_cons rfl (okc_cons rfl (okc_cons rfl (okc_cons rfl (okc_cons rfl (okc_cons rfl (okc_cons rfl (okc_cons rfl (okc_cons rfl (okc_cons rfl (okc_cons rfl okc_nil)))))))))))) (lenb rfl) norm_ ?_;refine a_s rfl rfl ?_;refine n_t ?_;refine r_t ?_;refine tr_retE rfl (endsCT rfl inferInstance rfl .here norm_ (by rfl) (by rfl)) ?_;rotate_left;refine s_t ?_;refine s_r ?_;refine tr_val (rk_loadB (.of rfl) .here norm_ (by rfl)) rfl ?_;refine tr_store (.of rfl) (.of rfl) (.there .here) rfl rfl (okc_cons rfl (okc_cons rfl (okc_cons rfl (okc_cons rfl (okc_cons rfl (okc_cons rfl (okc_cons rfl (okc_cons rfl (okc_cons rfl (okc_cons rfl (okc_cons rfl (okc_cons rfl okc_nil)))))))))))) (lenb rfl) norm_ ?_;refine a_s rfl rfl ?_;refine n_t ?_;refine tr_ret ?_;refine tr_retE rfl (endsCT rfl inferInstance rfl .here norm_ (by rfl) (by rfl)) ?_;rotate_right)
  · exfalso;revert hcd;simp
  · rfl
end Go.Proofs.A1
namespace Go.Proofs.A1
open Go Go.SL
structure Pk where
  k:Int
  c:Int
  d0:Int
  d1:Int
  d2:Int
  d3:Int
  d4:Int
  d5:Int
  d6:Int
  d7:Int
  d8:Int
  d9:Int
def Pk.D (x:Pk):List Int:=[x.d0,x.d1,x.d2,x.d3,x.d4,x.d5,x.d6,x.d7,x.d8,x.d9]
def Pk.cells (x:Pk):List Value:=[.int .i64 x.k,.int .i64 x.c,.int .u8 x.d0,.int .u8 x.d1,.int .u8 x.d2,.int .u8 x.d3,.int .u8 x.d4,.int .u8 x.d5,.int .u8 x.d6,.int .u8 x.d7,.int .u8 x.d8,.int .u8 x.d9]
def Pk.frm (x:Pk):List Int:=frmL x.k x.c x.D
structure Pk.Ok (x:Pk):Prop where
  k:0 ≤ x.k ∧ x.k ≤ 255
  c:0 ≤ x.c ∧ x.c ≤ 255
  d:∀ y ∈ x.D,0 ≤ y ∧ y ≤ 255
theorem Pk.frm_len (x:Pk):x.frm.length = 16:=A1.frm_len x.k x.c rfl
def strP (L:List Pk):List Int:=(L.map Pk.frm).flatten
theorem strP_len:∀ L:List Pk,(strP L).length = 16 * L.length
  | []=>rfl
  | x :: r => by
    have:=strP_len r
    unfold strP at this ⊢
    rw [List.map_cons,List.flatten_cons,List.length_append,Pk.frm_len,this,show (x :: r).length = r.length + 1 from rfl]
    omega
theorem strP_snoc (L:List Pk) (x:Pk):strP (L++[x]) = strP L++x.frm:=by unfold strP;rw [List.map_append,List.flatten_append];simp
theorem strP_win:∀ (L:List Pk) (j:Nat) (h:j < L.length),((strP L).drop (16 * j)).take 16 = L[j].frm
  | x :: r, 0, _ => by
    show ((x :: r).map Pk.frm).flatten.take 16 = x.frm
    rw [List.map_cons,List.flatten_cons,List.take_append_of_le_length (by rw [Pk.frm_len];omega),List.take_of_length_le (by rw [Pk.frm_len];omega)]
  | x :: r, j + 1, h => by
    have ih:=strP_win r j (by rw [List.length_cons] at h;omega)
    rw [List.getElem_cons_succ,← ih]
    unfold strP
    rw [List.map_cons,List.flatten_cons,show 16 * (j + 1) = x.frm.length + 16 * j by rw [Pk.frm_len];omega,List.drop_append,List.drop_of_length_le (by omega:x.frm.length ≤ x.frm.length + 16 * j),Nat.add_sub_cancel_left,List.nil_append]
def pksV (L:List Pk):List Value:=L.flatMap Pk.cells
theorem pksV_len:∀ L:List Pk,(pksV L).length = L.length * 12
  | []=>rfl
  | x :: r => by
    have:=pksV_len r
    unfold pksV at this ⊢
    rw [List.flatMap_cons,List.length_append,this,show x.cells.length = 12 from rfl,show (x :: r).length = r.length + 1 from rfl]
    omega
theorem pksV_take {L:List Pk} {k:Nat} (h:k < L.length):pksV (L.take (k + 1)) = pksV (L.take k)++L[k].cells:=by
  unfold pksV;rw [List.take_succ_eq_append_getElem h,List.flatMap_append,List.flatMap_cons,List.flatMap_nil,List.append_nil]
theorem blocks_c (a:Option Addr) (n cp:Nat) (w:World) :
    Gives Tryd.prog 33 [.slice a n cp] w [] (fun _:Nat=>True) (fun x=>.func (.func 69) #[] #[.pointer (some ⟨x,0,none⟩)])
      (fun x=>[blk x (.cells #[.slice a n cp] 31 (0,0))]):=by
  refine gives_of_tr Tryd.func33 rfl rfl ?_
  (refine s_r ?_;refine tr_new (rk_box (.of rfl) rfl) rfl (fun _ _=>?_);refine a_s rfl rfl ?_;refine n_r ?_;refine tr_val (rk_makeFunc' .nil (.cons (.of rfl) .nil)) rfl ?_;refine a_s rfl rfl ?_;refine n_t ?_;refine tr_ret ?_)
  rename_i b hb
  first | with_reducible apply tr_retM | with_reducible apply tr_endM
  case he=>exact ends1 rfl rfl
  case hR=>
    intro w' hm'
    exact gives_end b trivial (by exact .cons .here .nil) hm' rfl
def bItems (b o n cp:Nat):List (List Value):=(List.range n).map fun i=>[Value.int .i64 (i:Nat),Go.sliced (some ⟨b,o,none⟩) ((i:Nat):Int).toNat (min (n:Int) ((i:Nat) + 16)).toNat cp 1]
theorem bItems_length (b o n cp:Nat):(bItems b o n cp).length = n:=by simp [bItems]
theorem bItems_at {b o n cp i:Nat} (h:i < n):(bItems b o n cp)[i]? = some [Value.int .i64 (i:Nat),Go.sliced (some ⟨b,o,none⟩) ((i:Nat):Int).toNat (min (n:Int) ((i:Nat) + 16)).toNat cp 1]:=by
  unfold bItems;rw [List.getElem?_map,List.getElem?_range h];rfl
theorem blkIter_c {bx b o n cp:Nat} {w0 w:World} {md:List Nat} (hn:n ≤ cp) (hfew:n ≤ 1000000) :
    Iter Tryd.prog 69 [] [.pointer (some ⟨bx,0,none⟩)] [blk bx (.cells #[.slice (some ⟨b,o,none⟩) n cp] 31 (0,0))] (bItems b o n cp) w0 md w:=by
  intro l' fp J E hB hF hnd hs hy
  rw [bItems_length]
  refine givesM_of_tr Tryd.func69 rfl rfl hnd hs ?_
  (refine s_r ?_;refine tr_val (rk_load1 (.of rfl) (At.lit (.there .here) rfl)) rfl ?_;refine tr_val (rk_len_slice (.of rfl)) rfl ?_;refine m_v rfl rfl ?_;refine n_t ?_;refine tr_block ?_)
  refine tr_for (ι:=Nat) (fun k=>k ≤ n) (fun k=>[(6,.int .i64 (k:Nat)),(5,.int .i64 (n:Nat)),(0,.func (.yield l') #[] #[]),(1,.pointer (some ⟨bx,0,none⟩))])
    (fun k=>[J k,blk bx (.cells #[.slice (some ⟨b,o,none⟩) n cp] 31 (0,0))]) (fun k=>n - k) ?_ ?_
  · apply tr_start 0 (show (0:Nat) ≤ n from Nat.zero_le _)
    case hs1=>exact .cons rfl (.cons rfl (.cons rfl (.cons rfl .nil)))
    case ht=>exact .cons .here (.cons .here .nil)
  intro k hk
  by_cases hlt:k < n
  · have hyk:=hy k _ (bItems_at hlt)
    (refine s_r ?_;refine tr_val (rk_lss (.of rfl) (.of rfl)) rfl ?_;refine n_t ?_;refine tr_seq ?_;refine c_d rfl (fun hcd=>?_) (fun _=>by omega);refine s_t ?_;refine tr_seq ?_;refine tr_block ?_;refine s_r ?_;refine m_v rfl rfl ?_;refine a_s rfl rfl ?_;refine n_r ?_;refine m_v rfl rfl ?_;refine m_v rfl rfl ?_;refine tr_val (rk_load1 (.of rfl) (At.lit (.there .here) rfl)) rfl ?_;refine m_v rfl rfl ?_;refine tr_val (rk_load1 (.of rfl) (At.lit (.there .here) rfl)) rfl ?_;refine tr_val (rk_len_slice (.of rfl)) rfl ?_;refine m_v rfl rfl ?_;refine tr_val (rk_add (.of rfl) (.of rfl) (ini (by omega))) rfl ?_;refine tr_val (rk_min2 (.of rfl) (.of rfl)) rfl ?_;refine tr_val (rk_slice_lh (.of rfl) (.of rfl) (.of rfl) (by omega) (by omega) (by omega)) rfl ?_)
    with_reducible apply tr_yieldB hB hF hyk
    case hx=>exact Is.of rfl
    case ha=>exact .cons (.of rfl) (.cons (.of rfl) .nil)
    case hd=>rfl
    case ht=>exact .here
    intro q
    cases q with
    | false =>
      simp only [cond_false]
      (refine tr_val (rk_not (.of rfl)) rfl ?_;refine n_t ?_;refine tr_cond_t (.of rfl) ?_;refine tr_ret ?_;refine tr_blk_ret ?_;refine tr_then_ret ?_;refine tr_then_ret ?_;refine tr_blk_ret ?_)
      first | with_reducible apply tr_retM | with_reducible apply tr_endM
      case he=>exact ends0 rfl
      case hR=>
        intro w' hm'
        exact gives_end false trivial (show Takes _ [E,blk bx (.cells #[.slice (some ⟨b,o,none⟩) n cp] 31 (0,0))] _ by exact .cons .here (.cons .here .nil)) hm' rfl
    | true =>
      simp only [cond_true]
      (refine tr_val (rk_not (.of rfl)) rfl ?_;refine n_t ?_;refine tr_cond_f (.of rfl) ?_;refine tr_skip ?_;refine tr_blk_normal ?_;refine tr_then ?_;refine tr_region ?_;refine tr_val (rk_add (.of rfl) (.of rfl) (ini (by omega))) rfl ?_;refine m_v rfl rfl ?_;refine n_t ?_)
      apply tr_next (k + 1) (show k + 1 ≤ n from hlt) (show n - (k + 1) < n - k by omega)
      case hs1=>exact .cons rfl (.cons rfl (.cons rfl (.cons rfl .nil)))
      case ht=>exact .cons .here (.cons .here .nil)
  · obtain rfl:k = n:=by omega
    (refine s_r ?_;refine tr_val (rk_lss (.of rfl) (.of rfl)) rfl ?_;refine n_t ?_;refine tr_seq ?_;refine c_d rfl (fun _=>by omega) (fun hcd=>?_);refine x_t ?_;refine tr_then_exit ?_;refine tr_blk_exit ?_)
    first | with_reducible apply tr_retM | with_reducible apply tr_endM
    case he=>exact ends0 rfl
    case hR=>
      intro w' hm'
      exact gives_end true trivial (show Takes _ [J k,blk bx (.cells #[.slice (some ⟨b,o,none⟩) k cp] 31 (0,0))] _ by exact .cons .here (.cons .here .nil)) hm' rfl
def cl16 (i:Nat):Nat:=(i + 15) / 16
set_option maxHeartbeats 1000000 in
theorem received_c {sv:Value} {L:List Pk} {w:World} (h:Rd w sv 1 (byts (strP L))) (hL:L.length ≤ 1000) (hok:∀ x ∈ L,x.Ok) (hne:L ≠ []) :
    Gives Tryd.prog 10 [sv] w [] (fun _:Value=>True) (fun v=>.tuple #[v,.slice none 0 0,.int .i64 0]) (fun v=>[row 37 12 v L.length (pksV L)]):=by
  have hR:=h
  obtain ⟨a,cap,b,o,rfl,hcap,hmax,ha,hc⟩:=h
  rw [byts_length] at *
  have hn:=strP_len L
  have hL0:0 < L.length:=List.length_pos_iff.2 hne
  obtain rfl:=ha (byts_ne (k:=0) (by omega))
  unfold maxLen at hmax
  refine gives_of_tr Tryd.func10 rfl rfl ?_
  (refine s_r ?_;refine a_s rfl rfl ?_;refine a_s rfl rfl ?_;refine a_s rfl rfl ?_;refine n_t ?_;refine tr_seq ?_;refine s_r ?_;refine m_v rfl rfl ?_;refine tr_val (rk_len_slice (.of rfl)) rfl ?_;refine tr_val (rk_gtr (.of rfl) (.of rfl)) rfl ?_;refine n_t ?_;refine c_d rfl (fun _=>by omega) (fun hcd=>?_);refine s_t ?_;refine s_r ?_;refine tr_new (rk_alloc rfl) rfl (fun _ _=>?_);refine n_r ?_;refine tr_new (rk_alloc rfl) rfl (fun _ _=>?_);refine n_r ?_;refine tr_new (rk_alloc rfl) rfl (fun _ _=>?_);refine tr_store (.of rfl) (.of rfl) .here rfl rfl (okc_cons rfl okc_nil) (lenb rfl) norm_ ?_;refine n_t ?_;refine tr_seq ?_;refine s_r ?_;refine m_v rfl rfl ?_)
  with_reducible apply tr_call
  case hr=>exact rk_call (.of rfl) (.cons (.of rfl) .nil) inferInstance normc_
  case hd=>rfl
  case ht=>exact Takes.nil
  case hc=>
    intro w1 fp hm1 _ hs1
    obtain rfl:fp = []:=hs1
    exact blocks_c _ _ _ _
  intro bx _
  dsimp only [id_eq,List.cons_append,List.nil_append]
  rename_i b5 hb5 b6 hb6 b7 hb7 _
  (refine n_t ?_;refine tr_block ?_)
  refine tr_rowNil 37 12 ?_
  refine tr_rangeSeq (ps:=[18,19]) (f:=69) (first:=[]) (cap:=[.pointer (some ⟨bx,0,none⟩)]) (ι:=Nat × Value) (κ:=Empty) (rst:=[]) ?hg
    [blk bx (.cells #[.slice (some ⟨b,o,none⟩) (strP L).length cap] 31 (0,0))] (bItems b o (strP L).length cap) ?hit (fun k x=>x.1 = k ∧ k ≤ (strP L).length)
    (fun x=>[blk b7 (.cells #[.int .i64 (16 * cl16 x.1:Nat)] 3 (0,0)),blk b6 (.cells #[.slice none 0 0] 42 (0,0)),blk b5 (.cells #[x.2] 41 (0,0)),row 37 12 x.2 (cl16 x.1) (pksV (L.take (cl16 x.1)))])
    (fun _=>False) (fun _=>[]) (fun _=>.ret) (0,.slice none 0 0) ⟨rfl,Nat.zero_le _⟩ ?ht ?hlen ?hps ?round ?kn ?kj
  case hg=>exact Is.of rfl
  case hit=>intro w' hm';exact blkIter_c hcap (by omega)
  case ht=>
    show Takes _ [blk b7 (.cells #[.int .i64 0] 3 (0,0)),blk b6 (.cells #[.slice none 0 0] 42 (0,0)),blk b5 (.cells #[.slice none 0 0] 41 (0,0)),row 37 12 (.slice none 0 0) 0 [],blk bx (.cells #[.slice (some ⟨b,o,none⟩) (strP L).length cap] 31 (0,0))] _
    exact .cons (.there (.there .here)) (.cons (.there (.there .here)) (.cons (.there (.there .here)) (.cons .here (.cons .here .nil))))
  case hlen=>intro vs hvs;obtain ⟨x,_,rfl⟩:=List.mem_map.1 hvs;rfl
  case hps=>intro t ht;simp only [List.mem_cons,List.not_mem_nil,or_false] at ht;rcases ht with rfl | rfl <;> exact Nat.le_of_ble_eq_true rfl
  case kj=>intro y;cases y
  case kn=>
    rintro ⟨n,v⟩ D ⟨hq,_⟩
    dsimp only [List.cons_append,List.nil_append] at hq ⊢
    rw [bItems_length] at hq
    subst hq
    rw [hn,show cl16 (16 * L.length) = L.length by unfold cl16;omega,List.take_length]
    (refine tr_blk_normal ?_;refine tr_then ?_;refine tr_seq ?_)
    with_reducible refine tr_draw 5 (by kernel_rfl) ?_
    (refine any_val (rk_load1 (.of rfl) (At.lit (.there (.there .here)) rfl)) rfl ?_;refine any_val (rk_load1 (.of rfl) (At.lit (.there .here) rfl)) rfl ?_;refine any_val (rk_assign (.of rfl)) rfl ?_;refine any_val (rk_assign (.of rfl)) rfl ?_;refine any_val (rk_assign (.of rfl)) rfl ?_)
    with_reducible refine any_end ?_
    (refine n_t ?_;refine tr_ret ?_)
    first | with_reducible apply tr_retM | with_reducible apply tr_endM
    case he=>exact ends3 rfl rfl rfl rfl
    case hR=>
      intro w' hm'
      exact gives_end v trivial (show Takes _ [row 37 12 v L.length (pksV L)] _ by exact .cons (.there (.there (.there .here))) .nil) hm' rfl
  case round=>
    rintro l2 rc W fp k ⟨n,v⟩ vs hsz hk ⟨hq,hkl⟩ hB hF
    dsimp only at hq
    subst hq
    have hlt:n < (strP L).length:=by have:=(List.getElem?_eq_some_iff.1 hk).1;rwa [bItems_length] at this
    rw [bItems_at hlt,Option.some.injEq] at hk
    subst hk
    dsimp only [List.zip_cons_cons,List.zip_nil_right,putAll,List.cons_append,List.nil_append]
    (refine s_r ?_;refine a_s rfl rfl ?_;refine n_t ?_;refine tr_region ?_;refine a_s rfl rfl ?_;refine n_t ?_)
    with_reducible apply tr_begin
    case ht=>exact .here
    by_cases h16:n % 16 = 0
    · obtain ⟨m,rfl⟩:∃ m,n = 16 * m:=⟨n / 16,by omega⟩
      have e1:cl16 (16 * m) = m:=by unfold cl16;omega
      have e2:cl16 (16 * m + 1) = m + 1:=by unfold cl16;omega
      have hm:m < L.length:=by omega
      rw [e1]
      have hsl:Go.sliced (some ⟨b,o,none⟩) ((16 * m:Nat):Int).toNat (min ((strP L).length:Int) ((16 * m:Nat) + 16)).toNat cap 1 = .slice (some ⟨b,o + 16 * m * 1,none⟩) 16 (cap - 16 * m):=by
        rw [show ((16 * m:Nat):Int).toNat = 16 * m by omega,show (min ((strP L).length:Int) ((16 * m:Nat) + 16)).toNat = 16 * m + 16 by omega]
        simp [sliced,show ¬ cap = 16 * m by omega,addr_add]
      rw [hsl]
      (refine tr_block ?_;refine tr_seq ?_;refine s_r ?_;refine m_v rfl rfl ?_;refine tr_val (rk_load1 (.of rfl) (At.lit (.there .here) rfl)) rfl ?_;refine tr_val (rk_lss (.of rfl) (.of rfl)) rfl ?_;refine n_t ?_;refine c_d rfl (fun _=>by omega) (fun hcd=>?_);refine s_t ?_;refine tr_seq ?_;refine s_r ?_;refine m_v rfl rfl ?_;refine tr_val (rk_len_slice (.of rfl)) rfl ?_;refine tr_val (rk_eql (.of rfl) (.of rfl)) rfl ?_;refine n_t ?_;refine c_d rfl (fun hcd=>?_) (fun _=>by omega);refine s_r ?_;refine m_v rfl rfl ?_;refine tr_val (rk_s2ap (.of rfl) rfl) rfl ?_)
      have hmem:=hok _ (List.getElem_mem hm)
      have hwl:(wcells (L[m]).frm).length = 16:=by rw [List.length_map,Pk.frm_len]
      have hRW:=Rd.keeps hR hB
      have hwin:∀ (j:Nat) (u:Value),(wcells (L[m]).frm)[j]? = some u → W.cell? ⟨b,o + 16 * m * 1 + j,none⟩ = some u:=by
        intro j u hu
        have hj:j < 16:=by
          rcases Nat.lt_or_ge j 16 with h | h
          · exact h
          · rw [List.getElem?_eq_none (by rw [hwl];exact h)] at hu;cases hu
        rw [List.getElem?_map,← strP_win L m hm,List.getElem?_take_of_lt hj,List.getElem?_drop,List.getElem?_eq_getElem (by omega)] at hu
        cases hu
        obtain ⟨a',cap',b',o',e',_,_,ha',hc'⟩:=hRW
        have h4:=(Value.slice.inj e').1.trans (ha' (byts_ne (k:=0) (by omega)))
        cases h4
        have:=(hc' (16 * m + j) _ (byts_get (by omega))).2 0 _ rfl
        rwa [show o + (16 * m + j) * 1 + 0 = o + 16 * m * 1 + j by omega] at this
      have hnb:b ∉ fp:=fun hq=>by
        have hb:=World.block_lt_of_cell? w ⟨b,o + 0 * 1 + 0,none⟩ ((hc 0 _ (byts_get (by omega))).2 0 _ rfl)
        rcases hF _ hq with h | h
        · cases h
        · exact absurd hb (by simp;omega)
      have hdec:∀ w',GivesV Tryd.prog 28 [.agg (wcells (L[m]).frm).toArray] w' (.tuple #[.agg (L[m]).cells.toArray,.int .i64 0]):=fun w'=>decode_p (L[m]).k (L[m]).c (L[m]).d0 (L[m]).d1 (L[m]).d2 (L[m]).d3 (L[m]).d4 (L[m]).d5 (L[m]).d6 (L[m]).d7 (L[m]).d8 (L[m]).d9 hmem.k hmem.c hmem.d w'
      have htk:=pksV_take hm
      have hlk:(pksV (L.take m)).length = m * 12:=by rw [pksV_len,List.length_take_of_le (by omega)]
      generalize (L[m]).frm = fr at hwl hwin hdec
      generalize L[m] = x at hdec htk
      have hcx:x.cells = [.int .i64 x.k,.int .i64 x.c,.int .u8 x.d0,.int .u8 x.d1,.int .u8 x.d2,.int .u8 x.d3,.int .u8 x.d4,.int .u8 x.d5,.int .u8 x.d6,.int .u8 x.d7,.int .u8 x.d8,.int .u8 x.d9]:=rfl
      rw [hcx] at hdec htk
      generalize hV:pksV (L.take m) = PV at *
      (refine tr_val (rk_loadN (.of rfl) (Ats.baseN hwin hnb) hwl) rfl ?_;refine tr_callV (rk_call (.of rfl) (.cons (.of rfl) .nil) inferInstance normc_) rfl (fun w' hm'=>(hdec w')) ?_;refine m_v rfl rfl ?_;refine tr_val (rk_extract (.of rfl) rfl) rfl ?_;refine tr_val (rk_extract (.of rfl) rfl) rfl ?_;refine tr_new (rk_alloc rfl) rfl (fun _ _=>?_);refine tr_store (.of rfl) (.of rfl) .here rfl rfl (okc_cons rfl (okc_cons rfl (okc_cons rfl (okc_cons rfl (okc_cons rfl (okc_cons rfl (okc_cons rfl (okc_cons rfl (okc_cons rfl (okc_cons rfl (okc_cons rfl (okc_cons rfl okc_nil)))))))))))) (lenb rfl) norm_ ?_;refine a_s rfl rfl ?_;refine n_r ?_;refine m_v rfl rfl ?_;refine tr_val (rk_eql (.of rfl) (.of rfl)) rfl ?_;refine n_t ?_;refine c_d rfl (fun hcd=>?_) (fun _=>by omega);refine s_r ?_;refine tr_val (rk_load1 (.of rfl) (At.lit (.there (.there (.there (.there .here)))) rfl)) rfl ?_;refine tr_val (rk_loadB (.of rfl) .here norm_ (by rfl)) rfl ?_;refine tr_new (rk_sliceLitN (.cons (.of rfl) .nil) rfl rfl normp_ normp_ norm_) rfl (fun _ _=>?_))
      refine tr_appendB (.of rfl) (.of rfl) (.there (.there (.there (.there (.there (.there .here)))))) .here norm_ (by rfl) (okc_cons rfl (okc_cons rfl (okc_cons rfl (okc_cons rfl (okc_cons rfl (okc_cons rfl (okc_cons rfl (okc_cons rfl (okc_cons rfl (okc_cons rfl (okc_cons rfl (okc_cons rfl okc_nil)))))))))))) (by rfl) (by rfl) (by rfl) lenx_ (by rfl) ?_
      intro v'
      refine tr_rowSl (by exact .here) fun a' cap' e=>?_
      subst e
      (refine tr_store (.of rfl) (.of rfl) (.there (.there (.there (.there (.there (.there .here)))))) rfl rfl (okc_cons rfl okc_nil) (lenb rfl) norm_ ?_;refine n_r ?_;refine m_v rfl rfl ?_;refine tr_val (rk_add (.of rfl) (.of rfl) (ini (by omega))) rfl ?_;refine tr_store (.of rfl) (.of rfl) (.there (.there (.there (.there (.there .here))))) rfl rfl (okc_cons rfl okc_nil) (lenb rfl) norm_ ?_;refine n_t ?_;refine x_t ?_;refine tr_blk_exit ?_)
      apply tr_seqN (16 * m + 1,.slice a' (m + 1) cap')
      case ht=>exact Take.there (.there (.there (.there (.there .here))))
      case hx=>exact ⟨rfl,hlt⟩
      case h2=>
        show Takes _ [blk b7 (.cells #[.int .i64 (16 * cl16 (16 * m + 1):Nat)] 3 (0,0)),blk b6 (.cells #[.slice none 0 0] 42 (0,0)),blk b5 (.cells #[.slice a' (m + 1) cap'] 41 (0,0)),row 37 12 (.slice a' (m + 1) cap') (cl16 (16 * m + 1)) (pksV (L.take (cl16 (16 * m + 1))))] _
        rw [e2,htk,show ((16 * (m + 1):Nat):Int) = ((16 * m:Nat):Int) + 16 by omega]
        exact .cons .here (.cons (.there (.there (.there (.there .here)))) (.cons .here (.cons .here .nil)))
    · have e1:cl16 (n + 1) = cl16 n:=by unfold cl16;omega
      have e2:n < 16 * cl16 n:=by unfold cl16;omega
      have e3:16 * cl16 n ≤ 16000:=by unfold cl16;omega
      generalize hcl:cl16 n = m at *
      (refine tr_block ?_;refine tr_seq ?_;refine s_r ?_;refine m_v rfl rfl ?_;refine tr_val (rk_load1 (.of rfl) (At.lit (.there .here) rfl)) rfl ?_;refine tr_val (rk_lss (.of rfl) (.of rfl)) rfl ?_;refine n_t ?_;refine c_d rfl (fun hcd=>?_) (fun _=>by omega);refine x_t ?_;refine tr_blk_exit ?_)
      apply tr_seqN (n + 1,v)
      case ht=>exact .here
      case hx=>exact ⟨rfl,hlt⟩
      case h2=>
        show Takes _ [blk b7 (.cells #[.int .i64 (16 * cl16 (n + 1):Nat)] 3 (0,0)),blk b6 (.cells #[.slice none 0 0] 42 (0,0)),blk b5 (.cells #[v] 41 (0,0)),row 37 12 v (cl16 (n + 1)) (pksV (L.take (cl16 (n + 1))))] _
        rw [e1]
        exact .cons .here (.cons .here (.cons .here (.cons .here .nil)))
end Go.Proofs.A1
namespace Go.Proofs.A1
open Go Go.SL
def stP:Stm:=⟨⟨30,true⟩,⟨1,2,3,4⟩,258⟩
theorem stP_ok:StOk stP:=stmE_zero.1 (by decide +kernel)
theorem stP_w:wordF stP = [4,3,2,1,158,1,2,153,63,253]:=by decide +kernel
theorem pedWord_c (w:World) (hG:GlobR w):GivesV Tryd.prog 7 [] w (.bool true):=by
  have hwr:∀ w',GlobR w' → GivesV Tryd.prog 22 [.agg #[.int .i64 30,.bool true,.int .i64 1,.int .i64 2,.int .i64 3,.int .i64 4,.int .i64 258]] w' (.tuple #[.agg (wcells [4,3,2,1,158,1,2,153,63,253]).toArray,.int .i64 0]):=fun w' h=>by
    have h1:=written_c stP w' h
    unfold wrtF at h1
    rw [stmE_zero.2 stP_ok,if_pos rfl,stP_w] at h1
    exact h1
  have hre:∀ w',GlobR w' → GivesV Tryd.prog 29 [.agg (wcells [4,3,2,1,158,1,2,153,63,253]).toArray] w' (.tuple #[.agg #[.int .i64 30,.bool true,.int .i64 1,.int .i64 2,.int .i64 3,.int .i64 4,.int .i64 258],.int .i64 0]):=fun w' h=>by
    have h1:=read_c [4,3,2,1,158,1,2,153,63,253] rfl (by decide) w' h
    obtain ⟨e1,e2⟩:=read_word stP_ok
    rw [stP_w] at e1 e2
    rw [e1,e2] at h1
    exact h1
  have hen:∀ w',GivesV Tryd.prog 9 [.agg (pkC 5 9 [4,3,2,1,158,1,2,153,63,253]).toArray] w' (.tuple #[.agg (wcells (frmL 5 9 [4,3,2,1,158,1,2,153,63,253])).toArray,.int .i64 0]):=fun w'=>encode_p 5 9 4 3 2 1 158 1 2 153 63 253 (by decide) (by decide) (by decide) w'
  have hde:∀ w',GivesV Tryd.prog 28 [.agg (wcells (frmL 5 9 [4,3,2,1,158,1,2,153,63,253])).toArray] w' (.tuple #[.agg (pkC 5 9 [4,3,2,1,158,1,2,153,63,253]).toArray,.int .i64 0]):=fun w'=>decode_p 5 9 4 3 2 1 158 1 2 153 63 253 (by decide) (by decide) (by decide) w'
  obtain ⟨f0,f1,f2,f3,f4,f5,f6,f7,f8,f9,fa,fb,fc,fd,fe,ff,hF⟩:=list16 (frm_len 5 9 (D:=[4,3,2,1,158,1,2,153,63,253]) rfl)
  rw [hF] at hen hde
  simp only [pkC,wcells,List.map_cons,List.map_nil] at hwr hre hen hde
  refine givesV_of_tr Tryd.func7 rfl rfl ?_
  (refine s_r ?_;refine a_s rfl rfl ?_;refine n_r ?_;refine tr_val (rk_buildL (.cons (.of rfl) (.cons (.of rfl) .nil)) norm_) rfl ?_;refine tr_val (rk_buildL (.cons (.of rfl) (.cons (.of rfl) (.cons (.of rfl) (.cons (.of rfl) .nil)))) norm_) rfl ?_;refine tr_val (rk_buildL (.cons (.of rfl) (.cons (.of rfl) (.cons (.of rfl) .nil))) norm_) rfl ?_;refine tr_new (rk_alloc rfl) rfl (fun _ _=>?_);refine tr_store (.of rfl) (.of rfl) .here rfl rfl (okc_cons rfl (okc_cons rfl (okc_cons rfl (okc_cons rfl (okc_cons rfl (okc_cons rfl (okc_cons rfl okc_nil))))))) (lenb rfl) norm_ ?_;refine n_r ?_;refine tr_val (rk_loadB (.of rfl) .here norm_ (by rfl)) rfl ?_;refine tr_callV (rk_call (.of rfl) (.cons (.of rfl) .nil) inferInstance normc_) rfl (fun w' hm'=>(hwr w' (GlobR.keeps hG (Mem.keeps hm')))) ?_;refine m_v rfl rfl ?_;refine tr_val (rk_extract (.of rfl) rfl) rfl ?_;refine tr_val (rk_extract (.of rfl) rfl) rfl ?_;refine tr_new (rk_alloc rfl) rfl (fun _ _=>?_);refine tr_store (.of rfl) (.of rfl) .here rfl rfl (okc_cons rfl (okc_cons rfl (okc_cons rfl (okc_cons rfl (okc_cons rfl (okc_cons rfl (okc_cons rfl (okc_cons rfl (okc_cons rfl (okc_cons rfl okc_nil)))))))))) (lenb rfl) norm_ ?_;refine a_s rfl rfl ?_;refine n_r ?_;refine tr_val (rk_loadB (.of rfl) .here norm_ (by rfl)) rfl ?_;refine tr_val (rk_buildL (.cons (.of rfl) (.cons (.of rfl) (.cons (.of rfl) .nil))) norm_) rfl ?_;refine tr_callV (rk_call (.of rfl) (.cons (.of rfl) .nil) inferInstance normc_) rfl (fun w' hm'=>(hen w')) ?_;refine m_v rfl rfl ?_;refine tr_val (rk_extract (.of rfl) rfl) rfl ?_;refine tr_val (rk_extract (.of rfl) rfl) rfl ?_;refine tr_new (rk_alloc rfl) rfl (fun _ _=>?_);refine tr_store (.of rfl) (.of rfl) .here rfl rfl (okc_cons rfl (okc_cons rfl (okc_cons rfl (okc_cons rfl (okc_cons rfl (okc_cons rfl (okc_cons rfl (okc_cons rfl (okc_cons rfl (okc_cons rfl (okc_cons rfl (okc_cons rfl (okc_cons rfl (okc_cons rfl (okc_cons rfl (okc_cons rfl okc_nil)))))))))))))))) (lenb rfl) norm_ ?_;refine a_s rfl rfl ?_;refine n_r ?_;refine tr_val (rk_loadB (.of rfl) .here norm_ (by rfl)) rfl ?_;refine tr_callV (rk_call (.of rfl) (.cons (.of rfl) .nil) inferInstance normc_) rfl (fun w' hm'=>(hde w')) ?_;refine m_v rfl rfl ?_;refine tr_val (rk_extract (.of rfl) rfl) rfl ?_;refine tr_val (rk_extract (.of rfl) rfl) rfl ?_;refine tr_new (rk_alloc rfl) rfl (fun _ _=>?_);refine tr_store (.of rfl) (.of rfl) .here rfl rfl (okc_cons rfl (okc_cons rfl (okc_cons rfl (okc_cons rfl (okc_cons rfl (okc_cons rfl (okc_cons rfl (okc_cons rfl (okc_cons rfl (okc_cons rfl (okc_cons rfl (okc_cons rfl okc_nil)))))))))))) (lenb rfl) norm_ ?_;refine a_s rfl rfl ?_;refine n_r ?_;refine f_a rfl rfl norm0_ ?_;refine tr_val (rk_loadB (.of rfl) .here norm_ (by rfl)) rfl ?_;refine tr_callV (rk_call (.of rfl) (.cons (.of rfl) .nil) inferInstance normc_) rfl (fun w' hm'=>(hre w' (GlobR.keeps hG (Mem.keeps hm')))) ?_;refine m_v rfl rfl ?_;refine tr_val (rk_extract (.of rfl) rfl) rfl ?_;refine tr_val (rk_extract (.of rfl) rfl) rfl ?_;refine tr_new (rk_alloc rfl) rfl (fun _ _=>?_);refine tr_store (.of rfl) (.of rfl) .here rfl rfl (okc_cons rfl (okc_cons rfl (okc_cons rfl (okc_cons rfl (okc_cons rfl (okc_cons rfl (okc_cons rfl okc_nil))))))) (lenb rfl) norm_ ?_;refine a_s rfl rfl ?_;refine n_r ?_;refine m_v rfl rfl ?_;refine tr_val (rk_eql (.of rfl) (.of rfl)) rfl ?_;refine m_v rfl rfl ?_;refine v_g rfl rfl rfl rfl ?_;refine tr_vG1 rfl rfl inferInstance (fun hg hgp=>(rk_eql (.ofg hg rfl) (.of rfl))) rfl ?_;refine tr_val (rk_pick_and (.of rfl) rfl) rfl ?_;refine m_v rfl rfl ?_;refine v_g rfl rfl rfl rfl ?_;refine tr_vG1 rfl rfl inferInstance (fun hg hgp=>(rk_eql (.ofg hg rfl) (.of rfl))) rfl ?_;refine tr_val (rk_pick_and (.of rfl) rfl) rfl ?_;refine m_v rfl rfl ?_;refine v_g rfl rfl rfl rfl ?_;refine tr_vG1 rfl rfl inferInstance (fun hg hgp=>(rk_eql (.ofg hg rfl) (.of rfl))) rfl ?_;refine tr_val (rk_pick_and (.of rfl) rfl) rfl ?_;refine m_v rfl rfl ?_;refine tr_vG1 rfl rfl inferInstance (fun hg hgp=>(rk_indexAddrA (.of rfl) (.of rfl) (by omega) (by omega) norm1_)) rfl ?_;refine tr_vG1 rfl rfl inferInstance (fun hg hgp=>(rk_load1 (.ofg hg rfl) (At.lit (.there (.there (.there .here))) rfl))) rfl ?_;refine tr_vG1 rfl rfl inferInstance (fun hg hgp=>(rk_eql (.ofg hg rfl) (.of rfl))) rfl ?_;refine tr_val (rk_pick_and (.of rfl) rfl) rfl ?_;refine m_v rfl rfl ?_;refine tr_vG1 rfl rfl inferInstance (fun hg hgp=>(rk_loadB (.of rfl) .here norm_ (by rfl))) rfl ?_;refine tr_vG1 rfl rfl inferInstance (fun hg hgp=>(rk_loadB (.of rfl) (.there (.there (.there (.there .here)))) norm_ (by rfl))) rfl ?_;refine tr_vG1 rfl rfl inferInstance (fun hg hgp=>(rk_eqlA (.ofg hg rfl) (.ofg hg rfl) (okL_int (okL_bool (okL_int (okL_int (okL_int (okL_int (okL_int okL_nil))))))) rfl)) rfl ?_;refine tr_val (rk_pick_and (.of rfl) rfl) rfl ?_;refine a_s rfl rfl ?_;refine n_t ?_;refine tr_ret ?_;refine tr_retE rfl (ends1 rfl rfl) ?_)
  rfl
end Go.Proofs.A1
