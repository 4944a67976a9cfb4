/- Parts of the proof: S42 S43 S44. -/
import Derived.Test.YtfbgbipclgljaaaGreatDoorWM16
import Derived.Test.YtfbgbipclgljaaaGreatDoorWM06
import Derived.Test.YtfbgbipclgljaaaGreatDoorWM05
set_option linter.unusedSectionVars false
set_option linter.unusedVariables false
set_option linter.unusedSimpArgs false
namespace Go.Proofs.A1
open Go Go.SL
theorem growE_c (n:Nat) (hn:n ≤ 1000) (w:World):Gives Tryz.prog 212 [.slice none 0 0,.int .i64 (n:Int)] w [] (fun _:Value=>True) id (fun v=>[row 138 6 v 0 []]):=by
  refine gives_of_tr Tryz.func212 rfl rfl ?_
  (refine s_r ?_;refine a_s rfl rfl ?_;refine n_t ?_;refine tr_seq ?_;refine s_r ?_;refine m_v rfl rfl ?_;refine tr_val (rk_lss (.of rfl) (.of rfl)) rfl ?_;refine n_t ?_;refine c_d rfl (fun _=>by omega) (fun hcd=>?_);refine s_t ?_;refine tr_seq ?_;refine s_r ?_;refine m_v rfl rfl ?_;refine m_v rfl rfl ?_;refine tr_val (rk_cap_slice (.of rfl)) rfl ?_;refine m_v rfl rfl ?_;refine tr_val (rk_len_slice (.of rfl)) rfl ?_;refine tr_val (rk_sub (.of rfl) (.of rfl) (ini (by omega))) rfl ?_;refine tr_val (rk_sub (.of rfl) (.of rfl) (ini (by omega))) rfl ?_;refine a_s rfl rfl ?_;refine n_r ?_;refine m_v rfl rfl ?_;refine tr_val (rk_gtr (.of rfl) (.of rfl)) rfl ?_;refine n_t ?_;refine c_d rfl (fun hcd=>?_) (fun hcd=>?_);refine tr_region ?_;refine m_v rfl rfl ?_;refine m_v rfl rfl ?_;refine tr_val (rk_cap_slice (.of rfl)) rfl ?_;refine tr_val (rk_slice_h (.of rfl) (.of rfl) (by omega) (by omega)) rfl ?_;refine m_v rfl rfl ?_;rotate_left;refine s_t ?_;refine s_r ?_;refine m_v rfl rfl ?_;refine a_s rfl rfl ?_;refine n_t ?_;refine tr_ret ?_;rotate_right)
  · rw [show (n:Int) - (((0:Nat):Int) - ((0:Nat):Int)) = (n:Int) by omega]
    with_reducible apply tr_appendZ
    case hx=>exact Is.of rfl
    case hy=>exact Is.of rfl
    case h0=>omega
    case hz=>exact rfl
    case hsz=>exact rfl
    case hb0=>exact rfl
    case hb=>omega
    case hd=>rfl
    intro v'
    refine tr_rowOpen (E:=138) (sz:=6) (by exact .here) (by omega) fun g cap' cur e hcap' hmx' hsz' hl'=>?_
    subst e
    (refine m_v rfl rfl ?_;refine tr_val (rk_len_slice (.of rfl)) rfl ?_;refine tr_val (rk_slice_h (.of rfl) (.of rfl) (by omega) (by omega)) rfl ?_;refine a_s rfl rfl ?_;refine n_r ?_;refine m_v rfl rfl ?_;refine a_s rfl rfl ?_;refine n_t ?_;refine tr_ret ?_)
    rw [show Go.sliced (some ⟨g,0,none⟩) 0 (((0:Nat):Int)).toNat cap' 6 = .slice (some ⟨g,0,none⟩) 0 cap' from sliced_zero g cap' 6]
    skip
    generalize hA:_++cur = al at hsz' ⊢
    refine tr_rowShut (n:=0) (xs:=[]) (cur:=al) (cap:=cap') (g:=g) (E:=138) (sz:=6) (by rw [List.nil_append];exact .here) (Nat.zero_le _) hmx' hsz' rfl ?_
    first | with_reducible apply tr_retM | with_reducible apply tr_endM
    case he=>exact ends1 rfl rfl
    case hR=>
      intro w' hm'
      exact gives_end (.slice (some ⟨g,0,none⟩) 0 cap') trivial (show Takes _ [row 138 6 (.slice (some ⟨g,0,none⟩) 0 cap') 0 []] _ by exact .cons .here .nil) hm' rfl
  · refine tr_rowNil 138 6 ?_
    first | with_reducible apply tr_retM | with_reducible apply tr_endM
    case he=>exact ends1 rfl rfl
    case hR=>
      intro w' hm'
      exact gives_end (.slice none 0 0) trivial (show Takes _ [row 138 6 (.slice none 0 0) 0 []] _ by exact .cons .here .nil) hm' rfl
theorem ensL_app (a b:List En):ensL (a++b) = ensL a++ensL b:=by simp [ensL]
theorem ensL_one (es:List En):∀ r ∈ ensL es,∀ u ∈ r,u.oneCell' = true:=by
  intro r hr
  obtain ⟨x,_,rfl⟩:=List.mem_map.1 hr
  unfold En.cells
  exact okc_cons rfl (okc_cons rfl (okc_cons rfl (okc_cons rfl (okc_cons rfl (okc_cons rfl okc_nil)))))
theorem take_flat {α:Type} {l:List (List α)} {k:Nat} (h:k < l.length):(l.take (k + 1)).flatten = (l.take k).flatten++l[k]:=by
  rw [List.take_add_one,List.getElem?_eq_getElem h,List.flatten_append];simp
theorem flat_le {α:Type} (l:List (List α)) (k:Nat):(l.take k).flatten.length ≤ l.flatten.length:=by
  conv=>rhs;rw [← List.take_append_drop k l]
  rw [List.flatten_append,List.length_append];omega
theorem sing_get {α:Type} {l:List α} {k:Nat} (h:k < l.length):(l.map fun v=>[v])[k]? = some [l[k]]:=by simp [h]
theorem concat_c {lv:Value} {vs:List Value} {ess:List (List En)} {w:World} (h:Rd w lv 1 (vs.map fun v=>[v])) (hl:vs.length = ess.length) (hr:∀ (i:Nat) (v:Value) (es:List En),vs[i]? = some v → ess[i]? = some es → Rd w v 6 (ensL es)) (hn:ess.flatten.length ≤ 1000) :
    Gives Tryz.prog 187 [lv] w [] (fun _:Value=>True) id (fun v=>[row 138 6 v ess.flatten.length (ensL ess.flatten).flatten]):=by
  obtain ⟨a,cp,b,o,rfl,hcap,hmax,ha,hc⟩:=h
  rw [List.length_map] at *
  unfold maxLen at hmax
  refine gives_of_tr Tryz.func187 rfl rfl ?_
  (refine s_r ?_;refine a_s rfl rfl ?_;refine n_r ?_;refine a_s rfl rfl ?_;refine n_t ?_;refine tr_seq ?_;refine s_r ?_;refine m_v rfl rfl ?_;refine tr_val (rk_len_slice (.of rfl)) rfl ?_;refine m_v rfl rfl ?_;refine n_t ?_;refine tr_block ?_)
  refine tr_for (ι:=Nat) (fun k=>k ≤ vs.length) (fun k=>[(11,.int .i64 k),(10,.int .i64 vs.length),(9,.slice a vs.length cp),(0,.slice a vs.length cp),(3,.int .i64 (((ess.take k).flatten.length:Nat):Int))]) (fun _=>[]) (fun k=>vs.length - k) ?_ ?_
  · apply tr_start (0:Nat) (show (0:Nat) ≤ vs.length from Nat.zero_le _)
    case hs1=>exact .cons rfl (.cons rfl (.cons rfl (.cons rfl (.cons rfl .nil))))
    case ht=>(try simp only [List.take_zero,List.map_nil,List.nil_append]);exact .nil
  intro k hk
  by_cases hlt:k < vs.length
  · have hlt2:k < ess.length:=by omega
    have ha':=ha (by intro e;have:=congrArg List.length e;simp at this;subst this;simp at hlt)
    have hrk:=hr k _ _ (List.getElem?_eq_getElem hlt) (List.getElem?_eq_getElem hlt2)
    obtain ⟨a1,cap1,b1,o1,e1,_⟩:=hrk
    rw [ensL_length] at e1
    have c0:w.cell? ⟨b,o + k * 1,none⟩ = some (.slice a1 ess[k].length cap1):=by rw [← e1];exact (hc k _ (sing_get hlt)).2 0 _ rfl
    have hfl:=flat_le ess (k + 1)
    have hs:((ess.take (k + 1)).flatten.length:Int) = (ess.take k).flatten.length + ess[k].length:=by rw [take_flat hlt2,List.length_append];omega
    (refine s_r ?_;refine tr_val (rk_lss (.of rfl) (.of rfl)) rfl ?_;refine n_t ?_;refine tr_seq ?_;refine c_d rfl (fun hcd=>?_) (fun _=>by omega);refine s_t ?_;refine tr_seq ?_;refine tr_block ?_;refine s_r ?_;refine tr_val (rk_indexAddr (.of rfl) (.of rfl) ha' (by omega) hcd norm1_) rfl ?_;refine tr_val (rk_load1 (.of rfl) (At.base c0 rfl)) rfl ?_;refine a_s rfl rfl ?_;refine n_r ?_;refine m_v rfl rfl ?_;refine m_v rfl rfl ?_;refine tr_val (rk_len_slice (.of rfl)) rfl ?_;refine tr_val (rk_add (.of rfl) (.of rfl) (ini (by omega))) rfl ?_;refine a_s rfl rfl ?_;refine n_r ?_;refine m_v rfl rfl ?_;refine tr_val (rk_lss (.of rfl) (.of rfl)) rfl ?_;refine n_t ?_;refine c_d rfl (fun _=>by omega) (fun hcd=>?_);refine tr_skip ?_;refine tr_blk_normal ?_;refine tr_then ?_;refine tr_region ?_;refine tr_val (rk_add (.of rfl) (.of rfl) (ini (by omega))) rfl ?_;refine m_v rfl rfl ?_;refine n_t ?_)
    apply tr_next (k + 1) (show k + 1 ≤ vs.length by omega) (show vs.length - (k + 1) < vs.length - k by omega)
    case hs1=>
      rw [hs]
      exact .cons rfl (.cons rfl (.cons rfl (.cons rfl (.cons rfl .nil))))
    case ht=>exact .nil
  · obtain rfl:k = vs.length:=by omega
    rw [show ess.take vs.length = ess by rw [hl,List.take_length]]
    (refine s_r ?_;refine tr_val (rk_lss (.of rfl) (.of rfl)) rfl ?_;refine n_t ?_;refine tr_seq ?_;refine c_d rfl (fun _=>by omega) (fun hcd=>?_);refine x_t ?_;refine tr_then_exit ?_;refine tr_blk_exit ?_;refine tr_then ?_;refine s_r ?_;refine m_v rfl rfl ?_)
    with_reducible apply tr_call
    case hr=>exact rk_call (.of rfl) (.cons (.of rfl) (.cons (.of rfl) .nil)) inferInstance normc_
    case hd=>rfl
    case ht=>exact Takes.nil
    case hc=>
      intro w1 fp hm1 _ hs1
      obtain rfl:fp = []:=hs1
      exact growE_c _ hn _
    intro v0 _
    dsimp only [id_eq,List.cons_append,List.nil_append]
    (refine a_s rfl rfl ?_;refine n_t ?_;refine tr_seq ?_;refine s_r ?_;refine m_v rfl rfl ?_;refine tr_val (rk_len_slice (.of rfl)) rfl ?_;refine m_v rfl rfl ?_;refine n_t ?_;refine tr_block ?_)
    refine tr_for (ι:=Nat × Value) (fun x=>x.1 ≤ vs.length) (fun x=>[(27,.int .i64 x.1),(26,.int .i64 vs.length),(25,.slice a vs.length cp),(6,x.2)]) (fun x=>[row 138 6 x.2 (ess.take x.1).flatten.length (ensL (ess.take x.1).flatten).flatten]) (fun x=>vs.length - x.1) ?_ ?_
    · apply tr_start (0,v0) (Nat.zero_le _)
      case hs1=>exact .cons rfl (.cons rfl (.cons rfl (.cons rfl .nil)))
      case ht=>
        show Takes _ [row 138 6 v0 0 []] _
        exact .cons .here .nil
    rintro ⟨k,v⟩ hk
    dsimp only at hk ⊢
    by_cases hlt:k < vs.length
    · have hlt2:k < ess.length:=by omega
      have ha':=ha (by intro e;have:=congrArg List.length e;simp at this;subst this;simp at hlt)
      have hrk:=hr k _ _ (List.getElem?_eq_getElem hlt) (List.getElem?_eq_getElem hlt2)
      have hrk':=hrk
      obtain ⟨a1,cap1,b1,o1,e1,_⟩:=hrk'
      rw [ensL_length] at e1
      rw [e1] at hrk
      have c0:w.cell? ⟨b,o + k * 1,none⟩ = some (.slice a1 ess[k].length cap1):=by rw [← e1];exact (hc k _ (sing_get hlt)).2 0 _ rfl
      have hfl:=flat_le ess (k + 1)
      have hs:(ess.take (k + 1)).flatten.length = (ess.take k).flatten.length + ess[k].length:=by rw [take_flat hlt2,List.length_append]
      (refine s_r ?_;refine tr_val (rk_lss (.of rfl) (.of rfl)) rfl ?_;refine n_t ?_;refine tr_seq ?_;refine c_d rfl (fun hcd=>?_) (fun _=>by omega);refine s_t ?_;refine tr_seq ?_;refine tr_block ?_;refine s_r ?_;refine tr_val (rk_indexAddr (.of rfl) (.of rfl) ha' (by omega) hcd norm1_) rfl ?_;refine tr_val (rk_load1 (.of rfl) (At.base c0 rfl)) rfl ?_;refine a_s rfl rfl ?_;refine n_t ?_;refine tr_region ?_;refine m_v rfl rfl ?_;refine m_v rfl rfl ?_)
      with_reducible apply tr_appendR
      case hx=>exact Is.of rfl
      case hy=>exact Is.of rfl
      case ht=>exact .here
      case hsrc=>exact fun w' hm'=>hrk.keeps hm'.keeps
      case h1=>exact ensL_one _
      case hz=>exact rfl
      case hsz=>exact rfl
      case hb0=>exact rfl
      case hb=>rw [ensL_length];omega
      case hd=>rfl
      intro v'
      rw [ensL_length]
      (refine a_s rfl rfl ?_;refine tr_nil ?_;refine tr_blk_normal ?_;refine tr_then ?_;refine tr_region ?_;refine tr_val (rk_add (.of rfl) (.of rfl) (ini (by omega))) rfl ?_;refine m_v rfl rfl ?_;refine n_t ?_)
      apply tr_next (k + 1,v') (show k + 1 ≤ vs.length by omega) (show vs.length - (k + 1) < vs.length - k by omega)
      case hs1=>exact .cons rfl (.cons rfl (.cons rfl (.cons rfl .nil)))
      case ht=>
        show Takes _ [row 138 6 v' (ess.take (k + 1)).flatten.length (ensL (ess.take (k + 1)).flatten).flatten] _
        rw [hs,take_flat hlt2,ensL_app,List.flatten_append]
        exact .cons .here .nil
    · obtain rfl:k = vs.length:=by omega
      have hk':vs.length = ess.length:=hl
      rw [hk',List.take_length]
      (refine s_r ?_;refine tr_val (rk_lss (.of rfl) (.of rfl)) rfl ?_;refine n_t ?_;refine tr_seq ?_;refine c_d rfl (fun _=>by omega) (fun hcd=>?_);refine x_t ?_;refine tr_then_exit ?_;refine tr_blk_exit ?_;refine tr_then ?_;refine s_r ?_;refine m_v rfl rfl ?_;refine a_s rfl rfl ?_;refine n_t ?_;refine tr_ret ?_)
      first | with_reducible apply tr_retM | with_reducible apply tr_endM
      case he=>exact ends1 rfl rfl
      case hR=>
        intro w' hm'
        exact gives_end v trivial (by exact .cons .here .nil) hm' rfl
end Go.Proofs.A1
namespace Go.Proofs.A1
open Go Go.SL
def chg (es:List En) (f t:Nat) (l:List En):List En:=[es.take f,l,es.drop t].flatten
theorem chg_length (es:List En) (f t:Nat) (l:List En) (hf:f ≤ es.length):(chg es f t l).length = f + l.length + (es.length - t):=by
  simp [chg];omega
theorem ensL_take (es:List En) (k:Nat):(ensL es).take k = ensL (es.take k):=by simp [ensL,List.map_take]
theorem ensL_drop (es:List En) (k:Nat):(ensL es).drop k = ensL (es.drop k):=by simp [ensL,List.map_drop]
theorem ensL_flatlen (es:List En):(ensL es).flatten.length = es.length * 6:=by rw [flat_len (ensL_sz es),ensL_length]
theorem rdEnF {c:Cx} {hs hs':List Asn} {w:World} {E:TypeId} {es:List En} {n:Nat} {v:Value} (hm:Mem c hs w) (ht:Take hs (row E 6 v n (ensL es).flatten) hs') (hn:es.length = n):Rd w v 6 (ensL es):=
  hm.rdRow ht rfl (ensL_sz es) (by rw [ensL_length,hn])
theorem rep_len (n:Nat) (z:List Value) (hz:z.length = 6):(List.replicate n z).flatten.length = n * 6:=by
  rw [flat_len (sz:=6) fun r hr=>by rw [List.eq_of_mem_replicate hr];exact hz]
  simp
set_option maxHeartbeats 1000000 in
theorem changed_c {sv lv:Value} {es l:List En} {f t:Nat} {w:World} (h1:Rd w sv 6 (ensL es)) (h2:Rd w lv 6 (ensL l)) (hf:f ≤ es.length) (ht:t ≤ es.length) (hn:es.length + l.length ≤ 300) :
    Gives Tryz.prog 135 [.agg #[sv],.int .i64 (f:Int),.int .i64 (t:Int),lv] w [] (fun _:Value=>True) (fun v=>.agg #[v]) (fun v=>[row 138 6 v (chg es f t l).length (ensL (chg es f t l)).flatten]):=by
  have h1':=h1
  have h2':=h2
  obtain ⟨a,cap,b,o,rfl,hcap,hmax,ha,hc⟩:=h1'
  obtain ⟨a2,cap2,b2,o2,rfl,hcap2,hmax2,ha2,hc2⟩:=h2'
  rw [ensL_length] at *
  rw [ensL_length] at *
  unfold maxLen at hmax hmax2
  have hsl:Rd w (Go.sliced a (t:Int).toNat es.length cap 6) 6 (ensL (es.drop t)):=by
    have:=h1.sliced (l:=t) (m:=es.length) ht (Nat.le_refl _)
    rw [List.take_of_length_le (by rw [ensL_length];exact Nat.le_refl _),ensL_drop] at this
    exact this
  refine gives_of_tr Tryz.func135 rfl rfl ?_
  (refine s_r ?_;refine tr_new (rk_box (.of rfl) rfl) rfl (fun _ _=>?_);refine tr_new (rk_alloc rfl) rfl (fun _ _=>?_);refine n_r ?_;refine m_v rfl rfl ?_;refine f_a rfl rfl norm0_ ?_;refine tr_val (rk_load1 (.of rfl) (At.lit (.there .here) rfl)) rfl ?_;refine tr_val (rk_len_slice (.of rfl)) rfl ?_;refine m_v rfl rfl ?_;refine tr_val (rk_len_slice (.of rfl)) rfl ?_;refine tr_val (rk_add (.of rfl) (.of rfl) (ini (by omega))) rfl ?_)
  rw [show (es.length:Int) + (l.length:Int) = ((es.length + l.length:Nat):Int) by omega]
  with_reducible apply tr_new
  case hr=>
    with_reducible apply rk_make
    case hx=>exact Is.of rfl
    case hy=>exact Is.of rfl
    case hl=>omega
    case hb=>omega
    case hz=>rfl
    case hsz=>rfl
    case h63=>omega
  case hd=>rfl
  intro bg hbg
  (refine a_s rfl rfl ?_;refine n_r ?_;refine m_v rfl rfl ?_;refine f_a rfl rfl norm0_ ?_;refine tr_val (rk_load1 (.of rfl) (At.lit (.there (.there .here)) rfl)) rfl ?_)
  with_reducible apply tr_copyR
  case hx=>exact Is.of rfl
  case hy=>exact Is.of rfl
  case ht=>exact .here
  case hsrc=>exact fun w' hm'=>h1.keeps hm'.keeps
  case h1=>exact ensL_one es
  case hfit=>
    rw [rep_len _ _ rfl]
    exact Nat.mul_le_mul_right _ (by omega)
  case hd=>rfl
  rw [ensL_take]
  have hlf:(ensL (es.take f)).flatten.length = f * 6:=by rw [ensL_flatlen,List.length_take];congr 1;omega
  rw [setCells_pre _ _ (by rw [hlf,rep_len _ _ rfl];exact Nat.mul_le_mul_right _ (by omega))]
  refine tr_rowShut (n:=f) (xs:=(ensL (es.take f)).flatten) (cap:=es.length + l.length) (g:=bg) (E:=138) (sz:=6) (by exact .here) (by omega) (by unfold maxLen;omega) ?_ hlf ?_
  · rw [List.length_append,List.length_drop,rep_len _ _ rfl,hlf]
    have:f * 6 ≤ (es.length + l.length) * 6:=Nat.mul_le_mul_right _ (by omega)
    omega
  (refine n_r ?_;refine m_v rfl rfl ?_;refine m_v rfl rfl ?_;refine f_a rfl rfl norm0_ ?_;refine tr_val (rk_load1 (.of rfl) (At.lit (.there (.there .here)) rfl)) rfl ?_;refine m_v rfl rfl ?_;refine tr_val (rk_slice_l (.of rfl) (.of rfl) (by omega) (by omega)) rfl ?_;refine tr_new (rk_sliceLit (.cons (.of rfl) (.cons (.of rfl) (.cons (.of rfl) .nil))) rfl rfl rfl rfl) rfl (fun _ _=>?_))
  with_reducible apply tr_call
  case hr=>exact rk_call (.of rfl) (.cons (.of rfl) .nil) inferInstance normc_
  case hd=>rfl
  case ht=>exact Takes.nil
  case hc=>
    intro w1 fp hm1 _ hs1
    obtain rfl:fp = []:=hs1
    refine concat_c (vs:=[.slice (some ⟨bg,0,none⟩) f (es.length + l.length),.slice a2 l.length cap2,Go.sliced a (t:Int).toNat es.length cap 6]) (ess:=[es.take f,l,es.drop t]) (Mem.rdBlk hm1 (by exact .here) rfl rfl) rfl ?_ ?_
    · intro i v q hv hq
      match i,hv,hq with
      | 0, hv, hq =>
        simp only [List.getElem?_cons_zero,Option.some.injEq] at hv hq
        subst hv hq
        exact rdEnF hm1 (by exact Take.there .here) (by rw [List.length_take];omega)
      | 1, hv, hq =>
        simp only [List.getElem?_cons_succ,List.getElem?_cons_zero,Option.some.injEq] at hv hq
        subst hv hq
        exact h2.keeps hm1.keeps
      | 2, hv, hq =>
        simp only [List.getElem?_cons_succ,List.getElem?_cons_zero,Option.some.injEq] at hv hq
        subst hv hq
        exact hsl.keeps hm1.keeps
      | i + 3,hv,hq=>simp at hv
    · have:=chg_length es f t l hf
      unfold chg at this
      omega
  rw [show [es.take f,l,es.drop t].flatten = chg es f t l from rfl]
  intro v _
  dsimp only [id_eq,List.cons_append,List.nil_append]
  refine tr_rowSl (E:=138) (sz:=6) (by exact .here) fun a' cap' e=>?_
  subst e
  (refine tr_val (rk_buildL (.cons (.of rfl) .nil) norm_) rfl ?_;refine tr_store (.of rfl) (.of rfl) (.there (.there (.there .here))) rfl rfl (okc_cons rfl okc_nil) (lenb rfl) norm_ ?_;refine n_t ?_;refine tr_ret ?_)
  first | with_reducible apply tr_retM | with_reducible apply tr_endM
  case he=>exact ends1cB rfl inferInstance rfl .here norm_ (by rfl)
  case hR=>
    intro w' hm'
    exact gives_end (.slice a' (chg es f t l).length cap') trivial (show Takes _ [row 138 6 (.slice a' (chg es f t l).length cap') (chg es f t l).length (ensL (chg es f t l)).flatten] _ by exact .cons (.there .here) .nil) hm' rfl
theorem ccF_zero {es:List En} {now at' below:Int} (h:ccF es now at' below = 0):chkF es = 0 ∧ (0 ≤ now ∧ now ≤ 10000000) ∧ 0 ≤ at' ∧ at' < below:=by
  unfold ccF at h
  rw [firstF_zero] at h
  simp only [List.mem_cons,List.not_mem_nil,or_false,forall_eq_or_imp,forall_eq,withinF_zero] at h
  rw [whenF_zero (by decide)] at h
  have:=h.2.2
  simp only [Bool.or_eq_false_iff,decide_eq_false_iff_not] at this
  exact ⟨h.1,h.2.1,by omega,by omega⟩
def rmE (es:List En) (now at':Int):Int:=
  if ccF es now at' es.length ≠ 0 then ccF es now at' es.length else if fr es at'.toNat ≤ now then 23 else lateE (chg es at'.toNat (at'.toNat + 1) []) now at'.toNat
def rmL (es:List En) (now at':Int):List En:=if rmE es now at' = 0 then chg es at'.toNat (at'.toNat + 1) [] else []
theorem removed_c {sv:Value} {es:List En} {now at':Int} {w:World} (h1:Rd w sv 6 (ensL es)) (hG:Glob w) :
    Gives Tryz.prog 71 [.agg #[sv],.int .i64 now,.int .i64 at'] w [] (fun _:Value=>True) (fun v=>.tuple #[.agg #[v],.int .i64 (rmE es now at')]) (fun v=>[row 138 6 v (rmL es now at').length (ensL (rmL es now at')).flatten]):=by
  have h1':=h1
  obtain ⟨a,cap,b,o,rfl,hcap,hmax,ha,hc⟩:=h1'
  rw [ensL_length] at *
  unfold maxLen at hmax
  refine gives_of_tr Tryz.func71 rfl rfl ?_
  (refine s_r ?_;refine tr_new (rk_box (.of rfl) rfl) rfl (fun _ _=>?_);refine tr_new (rk_alloc rfl) rfl (fun _ _=>?_);refine a_s rfl rfl ?_;refine n_t ?_;refine tr_seq ?_;refine s_r ?_;refine tr_val (rk_loadB (.of rfl) (.there .here) norm_ (by rfl)) rfl ?_;refine m_v rfl rfl ?_;refine m_v rfl rfl ?_;refine f_a rfl rfl norm0_ ?_;refine tr_val (rk_load1 (.of rfl) (At.lit (.there .here) rfl)) rfl ?_;refine tr_val (rk_len_slice (.of rfl)) rfl ?_;refine tr_callV (rk_call (.of rfl) (.cons (.of rfl) (.cons (.of rfl) (.cons (.of rfl) (.cons (.of rfl) .nil)))) inferInstance normc_) rfl (fun w' hm'=>(checkChange_c (Rd.keeps h1 (Mem.keeps hm')) (Glob.keeps hG (Mem.keeps hm')))) ?_;refine a_s rfl rfl ?_;refine n_r ?_;refine m_v rfl rfl ?_;refine tr_val (rk_neq (.of rfl) (.of rfl)) rfl ?_;refine n_t ?_;refine c_d rfl (fun hcd=>?_) (fun hcd=>?_);refine s_r ?_;refine tr_val (rk_buildL .nil norm_) rfl ?_;refine m_v rfl rfl ?_;refine tr_store (.of rfl) (.of rfl) .here rfl rfl (okc_cons rfl okc_nil) (lenb rfl) norm_ ?_;refine a_s rfl rfl ?_;refine n_t ?_;refine r_t ?_;rotate_left;refine s_t ?_;refine tr_seq ?_;refine s_r ?_;refine tr_val (rk_loadB (.of rfl) (.there .here) norm_ (by rfl)) rfl ?_;refine m_v rfl rfl ?_;refine m_v rfl rfl ?_;rotate_right)
  · have hE:rmE es now at' = ccF es now at' es.length:=by rw [rmE,if_pos hcd]
    have hL:rmL es now at' = []:=by rw [rmL,if_neg (by rw [hE];exact hcd)]
    rw [hE,hL]
    refine tr_rowNil 138 6 ?_
    first | with_reducible apply tr_retM | with_reducible apply tr_endM
    case he=>exact endsCT rfl inferInstance rfl (.there .here) norm_ (by rfl) (by rfl)
    case hR=>
      intro w' hm'
      exact gives_end (.slice none 0 0) trivial (show Takes _ [row 138 6 (.slice none 0 0) 0 []] _ by exact .cons .here .nil) hm' rfl
  have hz:ccF es now at' es.length = 0:=Decidable.not_not.1 hcd
  obtain ⟨hz1,hz2,hz3,hz4⟩:=ccF_zero hz
  have hs:=Sound.of hz1
  obtain ⟨k,rfl⟩:∃ k:Nat,at' = k:=⟨at'.toNat,by omega⟩
  have hk:k < es.length:=by omega
  have hfew:=hs.all.few
  have hE:rmE es now k = if fr es k ≤ now then 23 else lateE (chg es k (k + 1) []) now k:=by rw [rmE,if_neg (by rw [hz];decide)];rfl
  have hL:rmL es now k = if rmE es now k = 0 then chg es k (k + 1) [] else []:=rfl
  (refine tr_callV (rk_call (.of rfl) (.cons (.of rfl) (.cons (.of rfl) (.cons (.of rfl) .nil))) inferInstance normc_) rfl (fun w' hm'=>(begun_c (Rd.keeps h1 (Mem.keeps hm')) hs hk (Glob.keeps hG (Mem.keeps hm')))) ?_;refine n_t ?_;refine c_d rfl (fun hcd=>?_) (fun hcd=>?_);refine s_r ?_;refine tr_val (rk_buildL .nil norm_) rfl ?_;refine tr_store (.of rfl) (.of rfl) .here rfl rfl (okc_cons rfl okc_nil) (lenb rfl) norm_ ?_;refine a_s rfl rfl ?_;refine n_t ?_;refine r_t ?_;rotate_left;refine s_t ?_;refine s_r ?_;refine tr_val (rk_loadB (.of rfl) (.there .here) norm_ (by rfl)) rfl ?_;refine m_v rfl rfl ?_;refine m_v rfl rfl ?_;refine tr_val (rk_add (.of rfl) (.of rfl) (ini (by omega))) rfl ?_;rotate_right)
  · rw [if_pos hcd] at hE
    rw [hE,if_neg (by decide)] at hL
    rw [hE,hL]
    refine tr_rowNil 138 6 ?_
    first | with_reducible apply tr_retM | with_reducible apply tr_endM
    case he=>exact endsCT rfl inferInstance rfl (.there .here) norm_ (by rfl) (by rfl)
    case hR=>
      intro w' hm'
      exact gives_end (.slice none 0 0) trivial (show Takes _ [row 138 6 (.slice none 0 0) 0 []] _ by exact .cons .here .nil) hm' rfl
  rw [if_neg hcd] at hE
  rw [show (k:Int) + 1 = ((k + 1:Nat):Int) by omega]
  with_reducible apply tr_call
  case hr=>exact rk_call (.of rfl) (.cons (.of rfl) (.cons (.of rfl) (.cons (.of rfl) (.cons (.of rfl) .nil)))) inferInstance normc_
  case hd=>rfl
  case ht=>exact Takes.nil
  case hc=>
    intro w1 fp hm1 _ hs1
    obtain rfl:fp = []:=hs1
    exact changed_c (l:=[]) (h1.keeps hm1.keeps) (Rd.nil _ _) (by omega) (by omega) (by simp;omega)
  intro v _
  dsimp only [id_eq,List.cons_append,List.nil_append]
  refine tr_rowSl (E:=138) (sz:=6) (by exact .here) fun a' cap' e=>?_
  subst e
  (refine m_v rfl rfl ?_;refine m_v rfl rfl ?_)
  with_reducible apply tr_callV
  case hr=>exact rk_call (.of rfl) (.cons (.of rfl) (.cons (.of rfl) (.cons (.of rfl) .nil))) inferInstance normc_
  case hd=>rfl
  case hc=>
    intro w' hm'
    exact late_c (rdEnF hm' (by exact .here) rfl) (by omega) (hG.keeps hm'.keeps)
  rw [← hE]
  by_cases h0:rmE es now k = 0
  · rw [if_pos h0] at hL ⊢
    rw [h0,hL]
    (refine tr_val (rk_extract (.of rfl) rfl) rfl ?_;refine tr_val (rk_extract (.of rfl) rfl) rfl ?_;refine tr_store (.of rfl) (.of rfl) (.there .here) rfl rfl (okc_cons rfl okc_nil) (lenb rfl) norm_ ?_;refine a_s rfl rfl ?_;refine n_t ?_;refine tr_ret ?_)
    first | with_reducible apply tr_retM | with_reducible apply tr_endM
    case he=>exact endsCT rfl inferInstance rfl .here norm_ (by rfl) (by rfl)
    case hR=>
      intro w' hm'
      exact gives_end (.slice a' (chg es k (k + 1) []).length cap') trivial (by exact .cons (.there .here) .nil) hm' rfl
  · rw [if_neg h0] at hL ⊢
    rw [hL]
    (refine tr_val (rk_extract (.of rfl) rfl) rfl ?_;refine tr_val (rk_extract (.of rfl) rfl) rfl ?_;refine tr_store (.of rfl) (.of rfl) (.there .here) rfl rfl (okc_cons rfl okc_nil) (lenb rfl) norm_ ?_;refine a_s rfl rfl ?_;refine n_t ?_;refine tr_ret ?_)
    refine tr_rowNil 138 6 ?_
    first | with_reducible apply tr_retM | with_reducible apply tr_endM
    case he=>exact endsCT rfl inferInstance rfl (.there .here) norm_ (by rfl) (by rfl)
    case hR=>
      intro w' hm'
      exact gives_end (.slice none 0 0) trivial (show Takes _ [row 138 6 (.slice none 0 0) 0 []] _ by exact .cons .here .nil) hm' rfl
end Go.Proofs.A1
namespace Go.Proofs.A1
open Go Go.SL
def in0 (es:List En) (now at':Int) (x:En):Int:=firstF [ccF es now at' ((es.length:Int) + 1),entF x]
def inE (es:List En) (now at':Int) (x:En):Int:=
  if in0 es now at' x ≠ 0 then in0 es now at' x else if at' < es.length ∧ fr es at'.toNat ≤ now then 23 else lateE (chg es at'.toNat at'.toNat [x]) now at'.toNat
def inL (es:List En) (now at':Int) (x:En):List En:=if inE es now at' x = 0 then chg es at'.toNat at'.toNat [x] else []
set_option maxHeartbeats 1000000 in
theorem inserted_c {sv:Value} {es:List En} {now at':Int} (x:En) {w:World} (h1:Rd w sv 6 (ensL es)) (hl0:es.length ≤ 1000) (hG:Glob w) :
    Gives Tryz.prog 69 [.agg #[sv],.int .i64 now,.int .i64 at',.agg x.cells.toArray] w [] (fun _:Value=>True) (fun v=>.tuple #[.agg #[v],.int .i64 (inE es now at' x)]) (fun v=>[row 138 6 v (inL es now at' x).length (ensL (inL es now at' x)).flatten]):=by
  have h1':=h1
  obtain ⟨a,cap,b,o,rfl,hcap,hmax,ha,hc⟩:=h1'
  rw [ensL_length] at *
  unfold maxLen at hmax
  have hec:∀ w',Keeps [] w w' → GivesV Tryz.prog 108 [.agg x.cells.toArray] w' (.int .i64 (entF x)):=fun w' hk=>entC_c x w' (hG.keeps hk)
  have hxc:x.cells = [.string x.nm,.string x.mt,.string x.kd,.int .i64 x.tm,.int .i64 x.ln,.int .i64 x.ov]:=rfl
  rw [hxc] at hec ⊢
  refine gives_of_tr Tryz.func69 rfl rfl ?_
  (refine s_r ?_;refine tr_new (rk_box (.of rfl) rfl) rfl (fun _ _=>?_);refine tr_new (rk_box (.of rfl) rfl) rfl (fun _ _=>?_);refine tr_new (rk_alloc rfl) rfl (fun _ _=>?_);refine a_s rfl rfl ?_;refine n_t ?_;refine tr_seq ?_;refine tr_seq ?_)
  with_reducible refine tr_draw 10 (by kernel_rfl) ?_
  (refine any_val (rk_loadB (.of rfl) (.there (.there .here)) norm_ (by rfl)) rfl ?_;refine a_m rfl rfl ?_;refine a_m rfl rfl ?_;refine a_f rfl rfl norm0_ ?_;refine any_val (rk_load1 (.of rfl) (At.lit (.there (.there .here)) rfl)) rfl ?_;refine any_val (rk_len_slice (.of rfl)) rfl ?_;refine any_val (rk_add (.of rfl) (.of rfl) (ini (by omega))) rfl ?_;refine any_call (rk_call (.of rfl) (.cons (.of rfl) (.cons (.of rfl) (.cons (.of rfl) (.cons (.of rfl) .nil)))) inferInstance normc_) rfl (fun w' hm'=>(checkChange_c (Rd.keeps h1 (Mem.keeps hm')) (Glob.keeps hG (Mem.keeps hm')))) ?_;refine any_val (rk_loadB (.of rfl) (.there .here) norm_ (by rfl)) rfl ?_;refine any_call (rk_call (.of rfl) (.cons (.of rfl) .nil) inferInstance normc_) rfl (fun w' hm'=>(hec w' (Mem.keeps hm'))) ?_)
  with_reducible refine any_end ?_
  (refine tr_new (rk_sliceLit (.cons (.of rfl) (.cons (.of rfl) .nil)) rfl rfl rfl rfl) rfl (fun _ _=>?_);refine tr_callV (rk_call (.of rfl) (.cons (.of rfl) .nil) inferInstance normc_) rfl (fun w' hm'=>(first_pB (Mem.rdBlk hm' .here rfl rfl) (IntL.cons (IntL.cons IntL.nil)))) ?_;refine a_s rfl rfl ?_;refine n_r ?_;refine m_v rfl rfl ?_;refine tr_val (rk_neq (.of rfl) (.of rfl)) rfl ?_;refine n_t ?_;refine c_d rfl (fun hcd=>?_) (fun hcd=>?_);refine s_r ?_;refine tr_val (rk_buildL .nil norm_) rfl ?_;refine m_v rfl rfl ?_;refine tr_store (.of rfl) (.of rfl) (.there .here) rfl rfl (okc_cons rfl okc_nil) (lenb rfl) norm_ ?_;refine a_s rfl rfl ?_;refine n_t ?_;refine r_t ?_;rotate_left;refine s_t ?_;refine tr_seq ?_;refine s_r ?_;refine m_v rfl rfl ?_;refine f_a rfl rfl norm0_ ?_;refine tr_val (rk_load1 (.of rfl) (At.lit (.there (.there (.there .here))) rfl)) rfl ?_;refine tr_val (rk_len_slice (.of rfl)) rfl ?_;refine tr_val (rk_lss (.of rfl) (.of rfl)) rfl ?_;refine m_v rfl rfl ?_;refine tr_vG1 rfl rfl inferInstance (fun hg hgp=>(rk_loadB (.of rfl) (.there (.there (.there .here))) norm_ (by rfl))) rfl ?_;refine v_g rfl rfl rfl rfl ?_;refine v_g rfl rfl rfl rfl ?_;rotate_right)
  · have hne:in0 es now at' x ≠ 0:=hcd
    have hE:inE es now at' x = in0 es now at' x:=by rw [inE,if_pos hne]
    have hL:inL es now at' x = []:=by rw [inL,if_neg (by rw [hE];exact hne)]
    rw [hE,hL]
    refine tr_rowNil 138 6 ?_
    first | with_reducible apply tr_retM | with_reducible apply tr_endM
    case he=>exact endsCT rfl inferInstance rfl (.there .here) norm_ (by rfl) (by rfl)
    case hR=>
      intro w' hm'
      exact gives_end (.slice none 0 0) trivial (show Takes _ [row 138 6 (.slice none 0 0) 0 []] _ by exact .cons .here .nil) hm' rfl
  have hz0:in0 es now at' x = 0:=Decidable.not_not.1 hcd
  have hz:=hz0
  unfold in0 at hz
  rw [firstF_zero] at hz
  simp only [List.mem_cons,List.not_mem_nil,or_false,forall_eq_or_imp,forall_eq] at hz
  obtain ⟨hz1,hz2,hz3,hz4⟩:=ccF_zero hz.1
  have hs:=Sound.of hz1
  obtain ⟨k,rfl⟩:∃ k:Nat,at' = k:=⟨at'.toNat,by omega⟩
  have hk:k ≤ es.length:=by omega
  have hfew:=hs.all.few
  have hE:inE es now k x = if (k:Int) < es.length ∧ fr es k ≤ now then 23 else lateE (chg es k k [x]) now k:=by rw [inE,if_neg (by rw [hz0];decide)];rfl
  have hL:inL es now k x = if inE es now k x = 0 then chg es k k [x] else []:=rfl
  (refine tr_callVG1 rfl rfl (fun hg=>(rk_call (.of rfl) (.cons (.ofg hg rfl) (.cons (.ofg hg rfl) (.cons (.ofg hg rfl) .nil))) inferInstance normc_)) rfl (fun hg w' hm'=>(begun_c (Rd.keeps h1 (Mem.keeps hm')) hs (glt hg) (Glob.keeps hG (Mem.keeps hm')))) ?_;refine tr_val (rk_pick_and (.of rfl) rfl) rfl ?_;refine n_t ?_;refine c_b rfl (fun hcd=>?_) (fun hcd=>?_);refine s_r ?_;refine tr_val (rk_buildL .nil norm_) rfl ?_;refine tr_store (.of rfl) (.of rfl) (.there .here) rfl rfl (okc_cons rfl okc_nil) (lenb rfl) norm_ ?_;refine a_s rfl rfl ?_;refine n_t ?_;refine r_t ?_;rotate_left;refine s_t ?_;refine s_r ?_;refine tr_val (rk_loadB (.of rfl) (.there (.there (.there .here))) norm_ (by rfl)) rfl ?_;refine m_v rfl rfl ?_;refine m_v rfl rfl ?_;refine tr_val (rk_loadB (.of rfl) (.there (.there .here)) norm_ (by rfl)) rfl ?_;refine tr_new (rk_sliceLitN (.cons (.of rfl) .nil) rfl rfl normp_ normp_ norm_) rfl (fun _ _=>?_);rotate_right)
  · have hc2:(k:Int) < es.length ∧ fr es k ≤ now:=by simpa using hcd
    rw [if_pos hc2] at hE
    rw [hE,if_neg (by decide)] at hL
    rw [hE,hL]
    refine tr_rowNil 138 6 ?_
    first | with_reducible apply tr_retM | with_reducible apply tr_endM
    case he=>exact endsCT rfl inferInstance rfl (.there .here) norm_ (by rfl) (by rfl)
    case hR=>
      intro w' hm'
      exact gives_end (.slice none 0 0) trivial (show Takes _ [row 138 6 (.slice none 0 0) 0 []] _ by exact .cons .here .nil) hm' rfl
  have hc2:¬ ((k:Int) < es.length ∧ fr es k ≤ now):=fun ⟨h1,h2⟩=>by rcases hcd with h | h <;> omega
  rw [if_neg hc2] at hE
  rename_i bq hbq
  refine tr_rowLitE (g:=bq) (E:=138) (ys:=(ensL [x]).flatten) 1 6 (by exact .here) (by exact rfl) rfl rfl ?_
  with_reducible apply tr_call
  case hr=>exact rk_call (.of rfl) (.cons (.of rfl) (.cons (.of rfl) (.cons (.of rfl) (.cons (.of rfl) .nil)))) inferInstance normc_
  case hd=>rfl
  case ht=>exact Takes.nil
  case hc=>
    intro w1 fp hm1 _ hs1
    obtain rfl:fp = []:=hs1
    exact changed_c (l:=[x]) (h1.keeps hm1.keeps) (rdEnF (n:=1) (es:=[x]) hm1 (by exact .here) rfl) (by omega) (by omega) (by simp;omega)
  intro v _
  dsimp only [id_eq,List.cons_append,List.nil_append]
  refine tr_rowSl (E:=138) (sz:=6) (by exact .here) fun a' cap' e=>?_
  subst e
  (refine m_v rfl rfl ?_;refine m_v rfl rfl ?_)
  with_reducible apply tr_callV
  case hr=>exact rk_call (.of rfl) (.cons (.of rfl) (.cons (.of rfl) (.cons (.of rfl) .nil))) inferInstance normc_
  case hd=>rfl
  case hc=>
    intro w' hm'
    exact late_c (rdEnF hm' (by exact .here) rfl) (by omega) (hG.keeps hm'.keeps)
  rw [← hE]
  by_cases h0:inE es now k x = 0
  · rw [if_pos h0] at hL ⊢
    rw [h0,hL]
    (refine tr_val (rk_extract (.of rfl) rfl) rfl ?_;refine tr_val (rk_extract (.of rfl) rfl) rfl ?_;refine tr_store (.of rfl) (.of rfl) (.there (.there (.there .here))) rfl rfl (okc_cons rfl okc_nil) (lenb rfl) norm_ ?_;refine a_s rfl rfl ?_;refine n_t ?_;refine tr_ret ?_)
    first | with_reducible apply tr_retM | with_reducible apply tr_endM
    case he=>exact endsCT rfl inferInstance rfl .here norm_ (by rfl) (by rfl)
    case hR=>
      intro w' hm'
      exact gives_end (.slice a' (chg es k k [x]).length cap') trivial (by exact .cons (.there .here) .nil) hm' rfl
  · rw [if_neg h0] at hL ⊢
    rw [hL]
    (refine tr_val (rk_extract (.of rfl) rfl) rfl ?_;refine tr_val (rk_extract (.of rfl) rfl) rfl ?_;refine tr_store (.of rfl) (.of rfl) (.there (.there (.there .here))) rfl rfl (okc_cons rfl okc_nil) (lenb rfl) norm_ ?_;refine a_s rfl rfl ?_;refine n_t ?_;refine tr_ret ?_)
    refine tr_rowNil 138 6 ?_
    first | with_reducible apply tr_retM | with_reducible apply tr_endM
    case he=>exact endsCT rfl inferInstance rfl (.there .here) norm_ (by rfl) (by rfl)
    case hR=>
      intro w' hm'
      exact gives_end (.slice none 0 0) trivial (show Takes _ [row 138 6 (.slice none 0 0) 0 []] _ by exact .cons .here .nil) hm' rfl
end Go.Proofs.A1
