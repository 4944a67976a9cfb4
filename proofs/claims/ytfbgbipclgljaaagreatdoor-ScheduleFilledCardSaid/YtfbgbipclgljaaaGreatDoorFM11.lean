/- Parts of the proof: S19 S20 S21. -/
import Derived.Test.YtfbgbipclgljaaaGreatDoorFM10
import Derived.Test.YtfbgbipclgljaaaGreatDoorFM06
set_option linter.unusedSectionVars false
set_option linter.unusedVariables false
set_option linter.unusedSimpArgs false
namespace Go.Proofs.A1
open Go Go.SL
theorem gapsT_c {v0:Value} {l:List (Int × Int × Int)} {w:World} (h1:Rd w v0 3 (l.map triV)) (hfew:l.length ≤ 1000) :
    Gives Tryz.prog 32 [v0] w [] (fun _:Value=>True) id (fun v=>[row 170 3 v l.length (l.flatMap triV)]):=by
  obtain ⟨a,cap,b,o,rfl,hcap,hmax,ha,hc⟩:=h1
  rw [lenV triV l] at *
  unfold maxLen at hmax
  refine gives_of_tr Tryz.func32 rfl rfl ?_
  (refine s_r ?_;refine a_s rfl rfl ?_;refine n_r ?_;refine a_s rfl rfl ?_;refine n_t ?_;refine tr_seq ?_;refine s_r ?_;refine m_v rfl rfl ?_;refine tr_val (rk_len_slice (.of rfl)) rfl ?_;refine m_v rfl rfl ?_;refine n_t ?_;refine tr_block ?_)
  refine tr_rowNil 170 3 ?_
  refine tr_for (ι:=Nat × Value) (fun x=>x.1 ≤ l.length) (fun x=>[(8,.int .i64 x.1),(7,.int .i64 l.length),(6,.slice a l.length cap),(3,x.2)])
    (fun x=>[row 170 3 x.2 x.1 ((l.take x.1).flatMap triV)]) (fun x=>l.length - x.1) ?_ ?_
  · apply tr_start (0,.slice none 0 0) (Nat.zero_le _)
    case hs1=>exact .cons rfl (.cons rfl (.cons rfl (.cons rfl .nil)))
    case ht=>
      show Takes _ [row 170 3 (.slice none 0 0) 0 []] _
      exact .cons .here .nil
  rintro ⟨k,v⟩ hk
  dsimp only at hk ⊢
  by_cases hlt:k < l.length
  · have ha':=ha (by intro e;rw [List.map_eq_nil_iff] at e;subst e;simp at hlt)
    have hcell:=(hc k (triV l[k]) (by rw [List.getElem?_map,List.getElem?_eq_getElem hlt];rfl)).2
    have htk:(l.take (k + 1)).flatMap triV = (l.take k).flatMap triV++triV l[k]:=by
      rw [List.take_succ_eq_append_getElem hlt,List.flatMap_append];simp
    generalize hx:l[k] = x at hcell htk
    obtain ⟨x0,x1,x2⟩:=x
    unfold triV at hcell
    dsimp only at hcell
    (refine s_r ?_;refine tr_val (rk_lss (.of rfl) (.of rfl)) rfl ?_;refine n_t ?_;refine tr_seq ?_;refine c_d rfl (fun hcd=>?_) (fun _=>by omega);refine s_t ?_;refine tr_seq ?_;refine tr_block ?_;refine s_r ?_;refine tr_val (rk_indexAddr (.of rfl) (.of rfl) ha' (by omega) hcd norm1_) rfl ?_;refine tr_val (rk_loadN (.of rfl) (Ats.base hcell rfl) rfl) rfl ?_;refine tr_new (rk_alloc rfl) rfl (fun _ _=>?_);refine tr_store (.of rfl) (.of rfl) .here rfl rfl (okc_cons rfl (okc_cons rfl (okc_cons rfl okc_nil))) (lenb rfl) norm_ ?_;refine n_t ?_;refine tr_region ?_;refine m_v rfl rfl ?_;refine tr_val (rk_loadB (.of rfl) .here norm_ (by rfl)) rfl ?_;refine tr_new (rk_sliceLitN (.cons (.of rfl) .nil) rfl rfl normp_ normp_ norm_) rfl (fun _ _=>?_))
    refine tr_appendB (.of rfl) (.of rfl) (.there (.there .here)) .here norm_ (by rfl) (okc_cons rfl (okc_cons rfl (okc_cons rfl okc_nil))) (by rfl) (by rfl) (by rfl) lenx_ (by rfl) ?_
    intro v'
    (refine a_s rfl rfl ?_;refine tr_nil ?_;refine tr_blk_normal ?_;refine tr_then ?_;refine tr_region ?_;refine tr_val (rk_add (.of rfl) (.of rfl) (ini (by omega))) rfl ?_;refine m_v rfl rfl ?_;refine n_t ?_)
    apply tr_next (k + 1,v') (by show k + 1 ≤ l.length;omega) (by show l.length - (k + 1) < l.length - k;omega)
    case hs1=>exact .cons rfl (.cons rfl (.cons rfl (.cons rfl .nil)))
    case ht=>
      show Takes _ [row 170 3 v' (k + 1) ((l.take (k + 1)).flatMap triV)] _
      rw [htk]
      show Takes _ [row 170 3 v' (k + 1) ((l.take k).flatMap triV++[.int .i64 x0,.int .i64 x1,.int .i64 x2])] _
      exact .cons .here .nil
  · obtain rfl:k = l.length:=by omega
    rw [List.take_length]
    (refine s_r ?_;refine tr_val (rk_lss (.of rfl) (.of rfl)) rfl ?_;refine n_t ?_;refine tr_seq ?_;refine c_d rfl (fun _=>by omega) (fun hcd=>?_);refine x_t ?_;refine tr_then_exit ?_;refine tr_blk_exit ?_;refine tr_then ?_;refine s_r ?_;refine m_v rfl rfl ?_;refine a_s rfl rfl ?_;refine n_t ?_;refine tr_ret ?_)
    first | with_reducible apply tr_retM | with_reducible apply tr_endM
    case he=>exact ends1 rfl rfl
    case hR=>
      intro w' hm'
      exact gives_end v trivial (by exact .cons .here .nil) hm' rfl
theorem sharesT_c {v0:Value} {l:List (Int × Int × Int)} {w:World} (h1:Rd w v0 3 (l.map triV)) (hfew:l.length ≤ 1000) :
    Gives Tryz.prog 34 [v0] w [] (fun _:Value=>True) id (fun v=>[row 185 3 v l.length (l.flatMap triV)]):=by
  obtain ⟨a,cap,b,o,rfl,hcap,hmax,ha,hc⟩:=h1
  rw [lenV triV l] at *
  unfold maxLen at hmax
  refine gives_of_tr Tryz.func34 rfl rfl ?_
  (refine s_r ?_;refine a_s rfl rfl ?_;refine n_r ?_;refine a_s rfl rfl ?_;refine n_t ?_;refine tr_seq ?_;refine s_r ?_;refine m_v rfl rfl ?_;refine tr_val (rk_len_slice (.of rfl)) rfl ?_;refine m_v rfl rfl ?_;refine n_t ?_;refine tr_block ?_)
  refine tr_rowNil 185 3 ?_
  refine tr_for (ι:=Nat × Value) (fun x=>x.1 ≤ l.length) (fun x=>[(8,.int .i64 x.1),(7,.int .i64 l.length),(6,.slice a l.length cap),(3,x.2)])
    (fun x=>[row 185 3 x.2 x.1 ((l.take x.1).flatMap triV)]) (fun x=>l.length - x.1) ?_ ?_
  · apply tr_start (0,.slice none 0 0) (Nat.zero_le _)
    case hs1=>exact .cons rfl (.cons rfl (.cons rfl (.cons rfl .nil)))
    case ht=>
      show Takes _ [row 185 3 (.slice none 0 0) 0 []] _
      exact .cons .here .nil
  rintro ⟨k,v⟩ hk
  dsimp only at hk ⊢
  by_cases hlt:k < l.length
  · have ha':=ha (by intro e;rw [List.map_eq_nil_iff] at e;subst e;simp at hlt)
    have hcell:=(hc k (triV l[k]) (by rw [List.getElem?_map,List.getElem?_eq_getElem hlt];rfl)).2
    have htk:(l.take (k + 1)).flatMap triV = (l.take k).flatMap triV++triV l[k]:=by
      rw [List.take_succ_eq_append_getElem hlt,List.flatMap_append];simp
    generalize hx:l[k] = x at hcell htk
    obtain ⟨x0,x1,x2⟩:=x
    unfold triV at hcell
    dsimp only at hcell
    (refine s_r ?_;refine tr_val (rk_lss (.of rfl) (.of rfl)) rfl ?_;refine n_t ?_;refine tr_seq ?_;refine c_d rfl (fun hcd=>?_) (fun _=>by omega);refine s_t ?_;refine tr_seq ?_;refine tr_block ?_;refine s_r ?_;refine tr_val (rk_indexAddr (.of rfl) (.of rfl) ha' (by omega) hcd norm1_) rfl ?_;refine tr_val (rk_loadN (.of rfl) (Ats.base hcell rfl) rfl) rfl ?_;refine tr_new (rk_alloc rfl) rfl (fun _ _=>?_);refine tr_store (.of rfl) (.of rfl) .here rfl rfl (okc_cons rfl (okc_cons rfl (okc_cons rfl okc_nil))) (lenb rfl) norm_ ?_;refine n_t ?_;refine tr_region ?_;refine m_v rfl rfl ?_;refine tr_val (rk_loadB (.of rfl) .here norm_ (by rfl)) rfl ?_;refine tr_new (rk_sliceLitN (.cons (.of rfl) .nil) rfl rfl normp_ normp_ norm_) rfl (fun _ _=>?_))
    refine tr_appendB (.of rfl) (.of rfl) (.there (.there .here)) .here norm_ (by rfl) (okc_cons rfl (okc_cons rfl (okc_cons rfl okc_nil))) (by rfl) (by rfl) (by rfl) lenx_ (by rfl) ?_
    intro v'
    (refine a_s rfl rfl ?_;refine tr_nil ?_;refine tr_blk_normal ?_;refine tr_then ?_;refine tr_region ?_;refine tr_val (rk_add (.of rfl) (.of rfl) (ini (by omega))) rfl ?_;refine m_v rfl rfl ?_;refine n_t ?_)
    apply tr_next (k + 1,v') (by show k + 1 ≤ l.length;omega) (by show l.length - (k + 1) < l.length - k;omega)
    case hs1=>exact .cons rfl (.cons rfl (.cons rfl (.cons rfl .nil)))
    case ht=>
      show Takes _ [row 185 3 v' (k + 1) ((l.take (k + 1)).flatMap triV)] _
      rw [htk]
      show Takes _ [row 185 3 v' (k + 1) ((l.take k).flatMap triV++[.int .i64 x0,.int .i64 x1,.int .i64 x2])] _
      exact .cons .here .nil
  · obtain rfl:k = l.length:=by omega
    rw [List.take_length]
    (refine s_r ?_;refine tr_val (rk_lss (.of rfl) (.of rfl)) rfl ?_;refine n_t ?_;refine tr_seq ?_;refine c_d rfl (fun _=>by omega) (fun hcd=>?_);refine x_t ?_;refine tr_then_exit ?_;refine tr_blk_exit ?_;refine tr_then ?_;refine s_r ?_;refine m_v rfl rfl ?_;refine a_s rfl rfl ?_;refine n_t ?_;refine tr_ret ?_)
    first | with_reducible apply tr_retM | with_reducible apply tr_endM
    case he=>exact ends1 rfl rfl
    case hR=>
      intro w' hm'
      exact gives_end v trivial (by exact .cons .here .nil) hm' rfl
theorem triV_len (l:List (Int × Int × Int)):∀ r ∈ l.map triV,r.length = 3:=by
  intro r hr;obtain ⟨x,_,rfl⟩:=List.mem_map.1 hr;rfl
theorem duoV_len (l:List (Int × Int)):∀ r ∈ l.map duoV,r.length = 2:=by
  intro r hr;obtain ⟨x,_,rfl⟩:=List.mem_map.1 hr;rfl
theorem rdTri {c:Cx} {hs hs':List Asn} {w:World} {E:TypeId} {l:List (Int × Int × Int)} {v:Value} (hm:Mem c hs w) (ht:Take hs (row E 3 v l.length (l.flatMap triV)) hs'):Rd w v 3 (l.map triV):=
  hm.rdRow ht (by rw [List.flatMap_def]) (triV_len l) (lenV triV l)
theorem rdDuo {c:Cx} {hs hs':List Asn} {w:World} {E:TypeId} {l:List (Int × Int)} {v:Value} (hm:Mem c hs w) (ht:Take hs (row E 2 v l.length (l.flatMap duoV)) hs'):Rd w v 2 (l.map duoV):=
  hm.rdRow ht (by rw [List.flatMap_def]) (duoV_len l) (lenV duoV l)
def shortB (es:List En):Bool:=((List.range es.length).all fun k=>decide ((nth es k).nm.size ≤ 40) && decide ((nth es k).mt.size ≤ 40) && decide ((nth es k).kd.size ≤ 40)) && (decide (es.length ≤ 8) || decide (es.length = 25))
theorem short_c {sv:Value} {es:List En} {w:World} (h1:Rd w sv 6 (ensL es)):GivesV Tryz.prog 18 [.agg #[sv]] w (.bool (shortB es)):=by
  obtain ⟨a,cap,b,o,rfl,hcap,hmax,ha,hc⟩:=h1
  rw [ensL_length] at *
  unfold maxLen at hmax
  refine givesV_of_tr Tryz.func18 rfl rfl ?_
  (refine s_r ?_;refine tr_new (rk_box (.of rfl) rfl) rfl (fun _ _=>?_);refine a_s rfl rfl ?_;refine n_t ?_;refine tr_seq ?_;refine s_r ?_;refine a_s rfl rfl ?_;refine n_t ?_;refine tr_block ?_)
  rename_i b1 hb1
  refine tr_for (fun k:Nat=>k ≤ es.length ∧ ∀ i,i < k → (nth es i).nm.size ≤ 40 ∧ (nth es i).mt.size ≤ 40 ∧ (nth es i).kd.size ≤ 40) (fun k=>[(3,.int .i64 k),(1,.pointer (some ⟨b1,0,none⟩))])
    (fun _=>[blk b1 (.cells #[.slice a es.length cap] 24 (0,0))]) (fun k=>es.length - k) ?_ ?_
  · apply tr_start 0 ⟨Nat.zero_le _,fun i h=>by omega⟩
    case hs1=>exact .cons rfl (.cons rfl .nil)
    case ht=>(try simp only [List.take_zero,List.map_nil,List.nil_append]);exact .cons .here .nil
  rintro k ⟨hk,hf⟩
  by_cases hlt:k < es.length
  · have ha':=ha (ensL_ne hlt)
    have hcell:=(hc k _ (ensL_get hlt)).2
    unfold En.cells at hcell
    (refine tr_seq ?_;refine s_r ?_;refine m_v rfl rfl ?_;refine f_a rfl rfl norm0_ ?_;refine tr_val (rk_load1 (.of rfl) (At.lit .here rfl)) rfl ?_;refine tr_val (rk_len_slice (.of rfl)) rfl ?_;refine tr_val (rk_lss (.of rfl) (.of rfl)) rfl ?_;refine n_t ?_;refine c_d rfl (fun hcd=>?_) (fun _=>by omega);refine s_t ?_;refine tr_seq ?_;refine tr_block ?_;refine s_r ?_;refine f_a rfl rfl norm0_ ?_;refine tr_val (rk_load1 (.of rfl) (At.lit .here rfl)) rfl ?_;refine m_v rfl rfl ?_;refine tr_val (rk_indexAddr (.of rfl) (.of rfl) ha' (by omega) hcd norm1_) rfl ?_;refine tr_val (rk_loadN (.of rfl) (Ats.base hcell rfl) rfl) rfl ?_;refine tr_new (rk_alloc rfl) rfl (fun _ _=>?_);refine tr_store (.of rfl) (.of rfl) .here rfl rfl (okc_cons rfl (okc_cons rfl (okc_cons rfl (okc_cons rfl (okc_cons rfl (okc_cons rfl okc_nil)))))) (lenb rfl) norm_ ?_;refine n_r ?_;refine f_a rfl rfl norm0_ ?_;refine tr_val (rk_load1 (.of rfl) (At.lit .here rfl)) rfl ?_;refine tr_val (rk_len_string (.of rfl)) rfl ?_;refine tr_val (rk_gtr (.of rfl) (.of rfl)) rfl ?_;refine m_v rfl rfl ?_;refine tr_vG1 rfl rfl inferInstance (fun hg hgp=>(rk_fieldAddr (.of rfl) norm0_)) rfl ?_;refine tr_vG1 rfl rfl inferInstance (fun hg hgp=>(rk_load1 (.ofg hg rfl) (At.lit .here rfl))) rfl ?_;refine tr_vG1 rfl rfl inferInstance (fun hg hgp=>(rk_len_string (.ofg hg rfl))) rfl ?_;refine tr_vG1 rfl rfl inferInstance (fun hg hgp=>(rk_gtr (.ofg hg rfl) (.of rfl))) rfl ?_;refine tr_val (rk_pick_or (.of rfl) rfl) rfl ?_;refine m_v rfl rfl ?_;refine tr_vG1 rfl rfl inferInstance (fun hg hgp=>(rk_fieldAddr (.of rfl) norm0_)) rfl ?_;refine tr_vG1 rfl rfl inferInstance (fun hg hgp=>(rk_fieldAddr (.ofg hg rfl) norm0_)) rfl ?_;refine tr_vG1 rfl rfl inferInstance (fun hg hgp=>(rk_load1 (.ofg hg rfl) (At.lit .here rfl))) rfl ?_;refine tr_vG1 rfl rfl inferInstance (fun hg hgp=>(rk_len_string (.ofg hg rfl))) rfl ?_;refine tr_vG1 rfl rfl inferInstance (fun hg hgp=>(rk_gtr (.ofg hg rfl) (.of rfl))) rfl ?_;refine tr_val (rk_pick_or (.of rfl) rfl) rfl ?_;refine n_t ?_;refine c_b rfl (fun hcd=>?_) (fun hcd=>?_);refine s_r ?_;refine a_s rfl rfl ?_;refine n_t ?_;refine tr_ret ?_;refine tr_blk_ret ?_;refine tr_then_ret ?_;refine tr_then_ret ?_;refine tr_blk_ret ?_;refine tr_then_ret ?_;refine tr_retE rfl (ends1 rfl rfl) ?_;rotate_left;refine tr_skip ?_;refine tr_blk_normal ?_;refine tr_then ?_;refine tr_region ?_;refine m_v rfl rfl ?_;refine tr_val (rk_add (.of rfl) (.of rfl) (ini (by omega))) rfl ?_;refine a_s rfl rfl ?_;refine n_t ?_;rotate_right)
    · have:((List.range es.length).all fun k=>decide ((nth es k).nm.size ≤ 40) && decide ((nth es k).mt.size ≤ 40) && decide ((nth es k).kd.size ≤ 40)) = false:=by
        rw [List.all_eq_false]
        refine ⟨k,List.mem_range.2 hlt,?_⟩
        simp only [Bool.not_eq_true,Bool.and_eq_false_iff,decide_eq_false_iff_not]
        omega
      rw [shortB,this];rfl
    · apply tr_next (k + 1) ⟨by omega,fun i hi=>by
        by_cases e:i = k
        · rw [e];omega
        · exact hf i (by omega)⟩ (by omega)
      case hs1=>exact .cons rfl (.cons rfl .nil)
      case ht=>(try simp only [List.take_zero,List.map_nil,List.nil_append]);exact .cons (.there .here) .nil
  · obtain rfl:k = es.length:=by omega
    have hall:((List.range es.length).all fun k=>decide ((nth es k).nm.size ≤ 40) && decide ((nth es k).mt.size ≤ 40) && decide ((nth es k).kd.size ≤ 40)) = true:=by
      rw [List.all_eq_true]
      intro i hi
      have:=hf i (List.mem_range.1 hi)
      simp [this]
    (refine tr_seq ?_;refine s_r ?_;refine m_v rfl rfl ?_;refine f_a rfl rfl norm0_ ?_;refine tr_val (rk_load1 (.of rfl) (At.lit .here rfl)) rfl ?_;refine tr_val (rk_len_slice (.of rfl)) rfl ?_;refine tr_val (rk_lss (.of rfl) (.of rfl)) rfl ?_;refine n_t ?_;refine c_d rfl (fun _=>by omega) (fun hcd=>?_);refine x_t ?_;refine tr_then_exit ?_;refine tr_blk_exit ?_;refine tr_then ?_;refine s_r ?_;refine f_a rfl rfl norm0_ ?_;refine tr_val (rk_load1 (.of rfl) (At.lit .here rfl)) rfl ?_;refine tr_val (rk_len_slice (.of rfl)) rfl ?_;refine tr_val (rk_leq (.of rfl) (.of rfl)) rfl ?_;refine m_v rfl rfl ?_;refine tr_vG1 rfl rfl inferInstance (fun hg hgp=>(rk_fieldAddr (.of rfl) norm0_)) rfl ?_;refine tr_vG1 rfl rfl inferInstance (fun hg hgp=>(rk_load1 (.ofg hg rfl) (At.lit .here rfl))) rfl ?_;refine tr_vG1 rfl rfl inferInstance (fun hg hgp=>(rk_len_slice (.ofg hg rfl))) rfl ?_;refine tr_vG1 rfl rfl inferInstance (fun hg hgp=>(rk_eql (.ofg hg rfl) (.of rfl))) rfl ?_;refine tr_val (rk_pick_or (.of rfl) rfl) rfl ?_;refine a_s rfl rfl ?_;refine n_t ?_;refine tr_ret ?_;refine tr_retE rfl (ends1 rfl rfl) ?_)
    rw [shortB,hall,Bool.true_and]
    have e1:decide ((es.length:Int) ≤ 8) = decide (es.length ≤ 8):=decide_eq_decide.2 (by omega)
    have e2:decide ((es.length:Int) = 25) = decide (es.length = 25):=decide_eq_decide.2 (by omega)
    rw [e1,e2]
end Go.Proofs.A1
namespace Go.Proofs.A1
open Go Go.SL
theorem mapSe {lv fv:Value} {rows:List (List Value)} {f:FuncId} {first cap:List Value} [Bod Tryz.prog f] {img:List Int} {w:World} (h:Rd w lv 4 rows) (hfv:fv = .func (.func f) first.toArray cap.toArray) (hl:img.length = rows.length) (hn:rows.length ≤ 1000000) (h1c:∀ r ∈ rows,∀ u ∈ r,u.oneCell' = true)
    (hcall:∀ (i:Nat) (r:List Value) (e:Int),rows[i]? = some r → img[i]? = some e → ∀ w',Keeps [] w w' → GivesV Tryz.prog f (first++[.agg r.toArray]++cap) w' (.int .i64 e)) :
    Gives Tryz.prog 114 [lv,fv] w [] (fun _:Value=>True) id (fun v=>[row 28 1 v rows.length (img.map (.int .i64))]):=by
  subst hfv
  obtain ⟨a,cp,b,o,rfl,hcap,hmax,ha,hc⟩:=h
  unfold maxLen at hmax
  refine gives_of_tr Tryz.func114 rfl rfl ?_
  (refine s_r ?_;refine a_s rfl rfl ?_;refine n_r ?_;refine a_s rfl rfl ?_;refine n_t ?_;refine tr_seq ?_;refine s_r ?_;refine m_v rfl rfl ?_;refine tr_val (rk_len_slice (.of rfl)) rfl ?_;refine m_v rfl rfl ?_;refine n_t ?_;refine tr_block ?_)
  refine tr_rowNil 28 1 ?_
  refine tr_for (ι:=Nat × Value) (fun x=>x.1 ≤ rows.length) (fun x=>[(10,.int .i64 x.1),(9,.int .i64 rows.length),(8,.slice a rows.length cp),(5,x.2),(1,.func (.func f) first.toArray cap.toArray)]) (fun x=>[row 28 1 x.2 x.1 ((img.take x.1).map (.int .i64))]) (fun x=>rows.length - x.1) ?_ ?_
  · apply tr_start (0,.slice none 0 0) (Nat.zero_le _)
    case hs1=>exact .cons rfl (.cons rfl (.cons rfl (.cons rfl (.cons rfl .nil))))
    case ht=>(try simp only [List.take_zero,List.map_nil,List.nil_append]);exact .cons .here .nil
  rintro ⟨k,v⟩ hk
  dsimp only at hk ⊢
  by_cases hlt:k < rows.length
  · have ha':=ha (by intro e;rw [e] at hlt;simp at hlt)
    have hget:rows[k]? = some rows[k]:=List.getElem?_eq_getElem hlt
    have hcell:=(hc k _ hget).2
    have hlen:=(hc k _ hget).1
    have himg:img[k]? = some (img[k]'(by omega)):=List.getElem?_eq_getElem (by omega)
    have hone:=h1c _ (List.getElem_mem hlt)
    have hcl:=hcall k _ _ hget himg
    obtain ⟨x0,x1,x2,x3,hx⟩:∃ x0 x1 x2 x3,rows[k] = [x0,x1,x2,x3]:=by
      match hr:rows[k],hlen with
      | [x0,x1,x2,x3],_=>exact ⟨x0,x1,x2,x3,rfl⟩
    rw [hx] at hcell hone hcl
    have o0_:=hone x0 (by simp)
    have o1_:=hone x1 (by simp)
    have o2_:=hone x2 (by simp)
    have o3_:=hone x3 (by simp)
    (refine s_r ?_;refine tr_val (rk_lss (.of rfl) (.of rfl)) rfl ?_;refine n_t ?_;refine tr_seq ?_;refine c_d rfl (fun hcd=>?_) (fun _=>by omega);refine s_t ?_;refine tr_seq ?_;refine tr_block ?_;refine s_r ?_;refine tr_val (rk_indexAddr (.of rfl) (.of rfl) ha' (by omega) hcd norm1_) rfl ?_;refine tr_val (rk_loadN (.of rfl) (Ats.base hcell rfl) rfl) rfl ?_;refine tr_new (rk_alloc rfl) rfl (fun _ _=>?_);refine tr_store (.of rfl) (.of rfl) .here rfl rfl (okc_cons o0_ (okc_cons o1_ (okc_cons o2_ (okc_cons o3_ okc_nil)))) (lenb rfl) norm_ ?_;refine n_t ?_;refine tr_region ?_;refine m_v rfl rfl ?_;refine m_v rfl rfl ?_;refine tr_val (rk_loadB (.of rfl) .here norm_ (by rfl)) rfl ?_)
    refine tr_callV (rk_call (.of rfl) (.cons (.of rfl) .nil) inferInstance normc_) rfl (fun w' hm'=>(hcl w' (Mem.keeps hm'))) ?_
    refine tr_new (rk_sliceLit (.cons (.of rfl) .nil) rfl rfl rfl rfl) rfl (fun _ _=>?_)
    refine tr_appendB (.of rfl) (.of rfl) (.there (.there .here)) .here norm_ (by rfl) (okc_cons rfl okc_nil) (by rfl) (by rfl) (by rfl) lenx_ (by rfl) ?_
    intro v'
    (refine a_s rfl rfl ?_;refine tr_nil ?_;refine tr_blk_normal ?_;refine tr_then ?_;refine tr_region ?_;refine tr_val (rk_add (.of rfl) (.of rfl) (ini (by omega))) rfl ?_;refine m_v rfl rfl ?_;refine n_t ?_)
    have ht1:(img.take (k + 1)).map (Value.int .i64) = (img.take k).map (Value.int .i64)++[Value.int .i64 (img[k]'(by omega))]:=by
      rw [List.take_add_one,himg,List.map_append];rfl
    apply tr_next (k + 1,v') (by show k + 1 ≤ rows.length;omega) (by show rows.length - (k + 1) < rows.length - k;omega)
    case hs1=>exact .cons rfl (.cons rfl (.cons rfl (.cons rfl (.cons rfl .nil))))
    case ht=>
      show Takes _ [row 28 1 v' (k + 1) ((img.take (k + 1)).map (Value.int .i64))] _
      rw [ht1]
      exact .cons .here .nil
  · have:k = rows.length:=by omega
    subst this
    rw [List.take_of_length_le (by omega)]
    (refine s_r ?_;refine tr_val (rk_lss (.of rfl) (.of rfl)) rfl ?_;refine n_t ?_;refine tr_seq ?_;refine c_d rfl (fun _=>by omega) (fun hcd=>?_);refine x_t ?_;refine tr_then_exit ?_;refine tr_blk_exit ?_;refine tr_then ?_;refine s_r ?_;refine m_v rfl rfl ?_;refine a_s rfl rfl ?_;refine n_t ?_;refine tr_ret ?_)
    first | with_reducible apply tr_retM | with_reducible apply tr_endM
    case he=>exact ends1 rfl rfl
    case hR=>
      intro w' hm'
      exact gives_end v trivial (by exact .cons .here .nil) hm' rfl
theorem mapRi {lv fv:Value} {rows:List (List Value)} {f:FuncId} {first cap:List Value} [Bod Tryz.prog f] {img:List Int} {w:World} (h:Rd w lv 3 rows) (hfv:fv = .func (.func f) first.toArray cap.toArray) (hl:img.length = rows.length) (hn:rows.length ≤ 1000000) (h1c:∀ r ∈ rows,∀ u ∈ r,u.oneCell' = true)
    (hcall:∀ (i:Nat) (r:List Value) (e:Int),rows[i]? = some r → img[i]? = some e → ∀ w',Keeps [] w w' → GivesV Tryz.prog f (first++[.agg r.toArray]++cap) w' (.int .i64 e)) :
    Gives Tryz.prog 117 [lv,fv] w [] (fun _:Value=>True) id (fun v=>[row 28 1 v rows.length (img.map (.int .i64))]):=by
  subst hfv
  obtain ⟨a,cp,b,o,rfl,hcap,hmax,ha,hc⟩:=h
  unfold maxLen at hmax
  refine gives_of_tr Tryz.func117 rfl rfl ?_
  (refine s_r ?_;refine a_s rfl rfl ?_;refine n_r ?_;refine a_s rfl rfl ?_;refine n_t ?_;refine tr_seq ?_;refine s_r ?_;refine m_v rfl rfl ?_;refine tr_val (rk_len_slice (.of rfl)) rfl ?_;refine m_v rfl rfl ?_;refine n_t ?_;refine tr_block ?_)
  refine tr_rowNil 28 1 ?_
  refine tr_for (ι:=Nat × Value) (fun x=>x.1 ≤ rows.length) (fun x=>[(10,.int .i64 x.1),(9,.int .i64 rows.length),(8,.slice a rows.length cp),(5,x.2),(1,.func (.func f) first.toArray cap.toArray)]) (fun x=>[row 28 1 x.2 x.1 ((img.take x.1).map (.int .i64))]) (fun x=>rows.length - x.1) ?_ ?_
  · apply tr_start (0,.slice none 0 0) (Nat.zero_le _)
    case hs1=>exact .cons rfl (.cons rfl (.cons rfl (.cons rfl (.cons rfl .nil))))
    case ht=>(try simp only [List.take_zero,List.map_nil,List.nil_append]);exact .cons .here .nil
  rintro ⟨k,v⟩ hk
  dsimp only at hk ⊢
  by_cases hlt:k < rows.length
  · have ha':=ha (by intro e;rw [e] at hlt;simp at hlt)
    have hget:rows[k]? = some rows[k]:=List.getElem?_eq_getElem hlt
    have hcell:=(hc k _ hget).2
    have hlen:=(hc k _ hget).1
    have himg:img[k]? = some (img[k]'(by omega)):=List.getElem?_eq_getElem (by omega)
    have hone:=h1c _ (List.getElem_mem hlt)
    have hcl:=hcall k _ _ hget himg
    obtain ⟨x0,x1,x2,hx⟩:∃ x0 x1 x2,rows[k] = [x0,x1,x2]:=by
      match hr:rows[k],hlen with
      | [x0,x1,x2],_=>exact ⟨x0,x1,x2,rfl⟩
    rw [hx] at hcell hone hcl
    have o0_:=hone x0 (by simp)
    have o1_:=hone x1 (by simp)
    have o2_:=hone x2 (by simp)
    (refine s_r ?_;refine tr_val (rk_lss (.of rfl) (.of rfl)) rfl ?_;refine n_t ?_;refine tr_seq ?_;refine c_d rfl (fun hcd=>?_) (fun _=>by omega);refine s_t ?_;refine tr_seq ?_;refine tr_block ?_;refine s_r ?_;refine tr_val (rk_indexAddr (.of rfl) (.of rfl) ha' (by omega) hcd norm1_) rfl ?_;refine tr_val (rk_loadN (.of rfl) (Ats.base hcell rfl) rfl) rfl ?_;refine tr_new (rk_alloc rfl) rfl (fun _ _=>?_);refine tr_store (.of rfl) (.of rfl) .here rfl rfl (okc_cons o0_ (okc_cons o1_ (okc_cons o2_ okc_nil))) (lenb rfl) norm_ ?_;refine n_t ?_;refine tr_region ?_;refine m_v rfl rfl ?_;refine m_v rfl rfl ?_;refine tr_val (rk_loadB (.of rfl) .here norm_ (by rfl)) rfl ?_)
    refine tr_callV (rk_call (.of rfl) (.cons (.of rfl) .nil) inferInstance normc_) rfl (fun w' hm'=>(hcl w' (Mem.keeps hm'))) ?_
    refine tr_new (rk_sliceLit (.cons (.of rfl) .nil) rfl rfl rfl rfl) rfl (fun _ _=>?_)
    refine tr_appendB (.of rfl) (.of rfl) (.there (.there .here)) .here norm_ (by rfl) (okc_cons rfl okc_nil) (by rfl) (by rfl) (by rfl) lenx_ (by rfl) ?_
    intro v'
    (refine a_s rfl rfl ?_;refine tr_nil ?_;refine tr_blk_normal ?_;refine tr_then ?_;refine tr_region ?_;refine tr_val (rk_add (.of rfl) (.of rfl) (ini (by omega))) rfl ?_;refine m_v rfl rfl ?_;refine n_t ?_)
    have ht1:(img.take (k + 1)).map (Value.int .i64) = (img.take k).map (Value.int .i64)++[Value.int .i64 (img[k]'(by omega))]:=by
      rw [List.take_add_one,himg,List.map_append];rfl
    apply tr_next (k + 1,v') (by show k + 1 ≤ rows.length;omega) (by show rows.length - (k + 1) < rows.length - k;omega)
    case hs1=>exact .cons rfl (.cons rfl (.cons rfl (.cons rfl (.cons rfl .nil))))
    case ht=>
      show Takes _ [row 28 1 v' (k + 1) ((img.take (k + 1)).map (Value.int .i64))] _
      rw [ht1]
      exact .cons .here .nil
  · have:k = rows.length:=by omega
    subst this
    rw [List.take_of_length_le (by omega)]
    (refine s_r ?_;refine tr_val (rk_lss (.of rfl) (.of rfl)) rfl ?_;refine n_t ?_;refine tr_seq ?_;refine c_d rfl (fun _=>by omega) (fun hcd=>?_);refine x_t ?_;refine tr_then_exit ?_;refine tr_blk_exit ?_;refine tr_then ?_;refine s_r ?_;refine m_v rfl rfl ?_;refine a_s rfl rfl ?_;refine n_t ?_;refine tr_ret ?_)
    first | with_reducible apply tr_retM | with_reducible apply tr_endM
    case he=>exact ends1 rfl rfl
    case hR=>
      intro w' hm'
      exact gives_end v trivial (by exact .cons .here .nil) hm' rfl
structure Se where
  en:Int
  fe:Bool
  off:Int
  ln:Int
def Se.cells (x:Se):List Value:=[.int .i64 x.en,.bool x.fe,.int .i64 x.off,.int .i64 x.ln]
def seE (n:Int) (x:Se):Int:=firstF [whenF (decide (x.en < 0) || decide (n ≤ x.en)) 10,withinF x.off (-1000000) 1000000,withinF x.ln 1 1000000]
theorem seC_c (x:Se) {b n cap:Nat} {a:Option Addr} {w:World} (hb:w.cell? ⟨b,0,none⟩ = some (.slice a n cap)):GivesV Tryz.prog 112 [.agg x.cells.toArray,.pointer (some ⟨b,0,none⟩)] w (.int .i64 (seE n x)):=by
  unfold Se.cells
  refine givesV_of_tr Tryz.func112 rfl rfl ?_
  (refine s_r ?_;refine tr_new (rk_box (.of rfl) rfl) rfl (fun _ _=>?_);refine a_s rfl rfl ?_;refine n_t ?_;refine tr_seq ?_)
  with_reducible refine tr_draw 18 (by kernel_rfl) ?_
  (refine a_f rfl rfl norm0_ ?_;refine any_val (rk_load1 (.of rfl) (At.lit .here rfl)) rfl ?_;refine any_val (rk_lss (.of rfl) (.of rfl)) rfl ?_;refine a_m rfl rfl ?_;refine any_vG1 rfl rfl inferInstance (fun hg hgp=>(rk_fieldAddr (.of rfl) norm0_)) rfl ?_;refine any_vG1 rfl rfl inferInstance (fun hg hgp=>(rk_load1 (.ofg hg rfl) (At.lit .here rfl))) rfl ?_;refine any_vG1 rfl rfl inferInstance (fun hg hgp=>(rk_fieldAddr (.of rfl) norm0_)) rfl ?_;refine any_vG1 rfl rfl inferInstance (fun hg hgp=>(rk_load1 (.ofg hg rfl) (At.base hb rfl))) rfl ?_;refine any_vG1 rfl rfl inferInstance (fun hg hgp=>(rk_len_slice (.ofg hg rfl))) rfl ?_;refine any_vG1 rfl rfl inferInstance (fun hg hgp=>(rk_geq (.ofg hg rfl) (.ofg hg rfl))) rfl ?_;refine any_val (rk_pick_or (.of rfl) rfl) rfl ?_;refine any_call (rk_call (.of rfl) (.cons (.of rfl) (.cons (.of rfl) .nil)) inferInstance normc_) rfl (fun w' hm'=>(when_c _ 10 w')) ?_;refine a_f rfl rfl norm0_ ?_;refine any_val (rk_load1 (.of rfl) (At.lit .here rfl)) rfl ?_;refine any_call (rk_call (.of rfl) (.cons (.of rfl) (.cons (.of rfl) (.cons (.of rfl) .nil))) inferInstance normc_) rfl (fun w' hm'=>(within_c _ _ 1000000 w')) ?_;refine a_f rfl rfl norm0_ ?_;refine any_val (rk_load1 (.of rfl) (At.lit .here rfl)) rfl ?_;refine any_call (rk_call (.of rfl) (.cons (.of rfl) (.cons (.of rfl) (.cons (.of rfl) .nil))) inferInstance normc_) rfl (fun w' hm'=>(within_c _ 1 1000000 w')) ?_)
  with_reducible refine any_end ?_
  (refine tr_new (rk_sliceLit (.cons (.of rfl) (.cons (.of rfl) (.cons (.of rfl) .nil))) rfl rfl rfl rfl) rfl (fun _ _=>?_);refine tr_callV (rk_call (.of rfl) (.cons (.of rfl) .nil) inferInstance normc_) rfl (fun w' hm'=>(first_pB (Mem.rdBlk hm' .here rfl rfl) (IntL.cons (IntL.cons (IntL.cons IntL.nil))))) ?_;refine a_s rfl rfl ?_;refine n_t ?_;refine tr_ret ?_;refine tr_retE rfl (ends1 rfl rfl) ?_)
  rfl
structure Ri where
  mt:ByteArray
  f:Int
  t:Int
def Ri.cells (x:Ri):List Value:=[.string x.mt,.int .i64 x.f,.int .i64 x.t]
def riE (x:Ri):Int:=firstF [nmF x.mt,whenF (decide (x.f < 0) || decide (x.t ≤ x.f) || decide (10000000 < x.t)) 14]
theorem riC_c (x:Ri) (w:World):GivesV Tryz.prog 115 [.agg x.cells.toArray] w (.int .i64 (riE x)):=by
  unfold Ri.cells
  refine givesV_of_tr Tryz.func115 rfl rfl ?_
  (refine s_r ?_;refine tr_new (rk_box (.of rfl) rfl) rfl (fun _ _=>?_);refine a_s rfl rfl ?_;refine n_t ?_;refine tr_seq ?_)
  with_reducible refine tr_draw 23 (by kernel_rfl) ?_
  (refine a_f rfl rfl norm0_ ?_;refine any_val (rk_load1 (.of rfl) (At.lit .here rfl)) rfl ?_;refine any_call (rk_call (.of rfl) (.cons (.of rfl) .nil) inferInstance normc_) rfl (fun w' hm'=>(nm_p _ w')) ?_;refine a_f rfl rfl norm0_ ?_;refine a_f rfl rfl norm0_ ?_;refine any_val (rk_load1 (.of rfl) (At.lit .here rfl)) rfl ?_;refine any_val (rk_lss (.of rfl) (.of rfl)) rfl ?_;refine a_m rfl rfl ?_;refine any_vG1 rfl rfl inferInstance (fun hg hgp=>(rk_fieldAddr (.of rfl) norm0_)) rfl ?_;refine any_vG1 rfl rfl inferInstance (fun hg hgp=>(rk_fieldAddr (.ofg hg rfl) norm0_)) rfl ?_;refine any_vG1 rfl rfl inferInstance (fun hg hgp=>(rk_load1 (.ofg hg rfl) (At.lit .here rfl))) rfl ?_;refine any_vG1 rfl rfl inferInstance (fun hg hgp=>(rk_fieldAddr (.of rfl) norm0_)) rfl ?_;refine any_vG1 rfl rfl inferInstance (fun hg hgp=>(rk_fieldAddr (.ofg hg rfl) norm0_)) rfl ?_;refine any_vG1 rfl rfl inferInstance (fun hg hgp=>(rk_load1 (.ofg hg rfl) (At.lit .here rfl))) rfl ?_;refine any_vG1 rfl rfl inferInstance (fun hg hgp=>(rk_geq (.ofg hg rfl) (.ofg hg rfl))) rfl ?_;refine any_val (rk_pick_or (.of rfl) rfl) rfl ?_;refine a_m rfl rfl ?_;refine any_vG1 rfl rfl inferInstance (fun hg hgp=>(rk_fieldAddr (.of rfl) norm0_)) rfl ?_;refine any_vG1 rfl rfl inferInstance (fun hg hgp=>(rk_fieldAddr (.ofg hg rfl) norm0_)) rfl ?_;refine any_vG1 rfl rfl inferInstance (fun hg hgp=>(rk_load1 (.ofg hg rfl) (At.lit .here rfl))) rfl ?_;refine any_vG1 rfl rfl inferInstance (fun hg hgp=>(rk_gtr (.ofg hg rfl) (.of rfl))) rfl ?_;refine any_val (rk_pick_or (.of rfl) rfl) rfl ?_;refine any_call (rk_call (.of rfl) (.cons (.of rfl) (.cons (.of rfl) .nil)) inferInstance normc_) rfl (fun w' hm'=>(when_c _ 14 w')) ?_)
  with_reducible refine any_end ?_
  (refine tr_new (rk_sliceLit (.cons (.of rfl) (.cons (.of rfl) .nil)) rfl rfl rfl rfl) rfl (fun _ _=>?_);refine tr_callV (rk_call (.of rfl) (.cons (.of rfl) .nil) inferInstance normc_) rfl (fun w' hm'=>(first_pB (Mem.rdBlk hm' .here rfl rfl) (IntL.cons (IntL.cons IntL.nil)))) ?_;refine a_s rfl rfl ?_;refine n_t ?_;refine tr_ret ?_;refine tr_retE rfl (ends1 rfl rfl) ?_)
  rfl
def riOk (x:Ri) (m:ByteArray) (f t:Int):Bool:=decide (x.mt = m) && decide (x.f ≤ f) && decide (t ≤ x.t)
end Go.Proofs.A1
namespace Go.Proofs.A1
open Go Go.SL
theorem IntL.map:∀ (es:List Int),IntL (es.map (Value.int .i64)) es
  | []=>.nil
  | _ :: r=>.cons (IntL.map r)
def seL (l:List Se):List (List Value):=l.map Se.cells
theorem seL_length (l:List Se):(seL l).length = l.length:=lenV Se.cells l
theorem seL_one (l:List Se):∀ r ∈ seL l,∀ u ∈ r,u.oneCell' = true:=by
  intro r hr
  obtain ⟨x,_,rfl⟩:=List.mem_map.1 hr
  unfold Se.cells
  exact okc_cons rfl (okc_cons rfl (okc_cons rfl (okc_cons rfl okc_nil)))
def exFrom (es:List En) (x:Se):Int:=(if x.fe = true then to es x.en.toNat else fr es x.en.toNat) + x.off
def exBad (es:List En) (x:Se):Bool:=decide (exFrom es x < fr es x.en.toNat) || decide (to es x.en.toNat < exFrom es x + x.ln)
def exE0 (es:List En) (n:Nat):Int:=firstF [chkF es,whenF (decide (32 < (n:Int))) 5]
def exE (es:List En) (l:List Se):Int:=
  if exE0 es l.length ≠ 0 then exE0 es l.length else if firstF (l.map (seE es.length)) ≠ 0 then firstF (l.map (seE es.length)) else whenF (l.any (exBad es)) 14
def exM (es:List En) (l:List Se):List (Int × Int):=l.map fun x=>(exFrom es x,exFrom es x + x.ln)
def exL (es:List En) (l:List Se):List (Int × Int):=if exE es l = 0 then l.map fun x=>(exFrom es x,exFrom es x + x.ln) else []
set_option maxHeartbeats 1000000 in
theorem expanded_c {sv lv:Value} {es:List En} {l:List Se} {w:World} (h1:Rd w sv 6 (ensL es)) (h2:Rd w lv 4 (seL l)) (hG:Glob w) :
    Gives Tryz.prog 36 [.agg #[sv],lv] w [] (fun _:Value=>True) (fun v=>.tuple #[v,.int .i64 (exE es l)]) (fun v=>[row 66 2 v (exL es l).length ((exL es l).flatMap duoV)]):=by
  have h1':=h1
  have h2':=h2
  obtain ⟨a,cap,b,o,rfl,hcap,hmax,ha,hc⟩:=h1'
  obtain ⟨a2,cap2,b2,o2,rfl,hcap2,hmax2,ha2,hc2⟩:=h2'
  rw [ensL_length] at *
  rw [seL_length] at *
  unfold maxLen at hmax hmax2
  refine gives_of_tr Tryz.func36 rfl rfl ?_
  (refine s_r ?_;refine tr_new (rk_box (.of rfl) rfl) rfl (fun _ _=>?_);refine a_s rfl rfl ?_;refine a_s rfl rfl ?_;refine n_t ?_;refine tr_seq ?_;refine s_r ?_;refine tr_val (rk_loadB (.of rfl) .here norm_ (by rfl)) rfl ?_;refine tr_callV (rk_call (.of rfl) (.cons (.of rfl) .nil) inferInstance normc_) rfl (fun w' hm'=>(chk_c (Rd.keeps h1 (Mem.keeps hm')) (Glob.keeps hG (Mem.keeps hm')))) ?_;refine m_v rfl rfl ?_;refine tr_val (rk_len_slice (.of rfl)) rfl ?_;refine tr_val (rk_gtr (.of rfl) (.of rfl)) rfl ?_;refine tr_callV (rk_call (.of rfl) (.cons (.of rfl) (.cons (.of rfl) .nil)) inferInstance normc_) rfl (fun w' hm'=>(when_c _ 5 w')) ?_;refine tr_new (rk_sliceLit (.cons (.of rfl) (.cons (.of rfl) .nil)) rfl rfl rfl rfl) rfl (fun _ _=>?_);refine tr_callV (rk_call (.of rfl) (.cons (.of rfl) .nil) inferInstance normc_) rfl (fun w' hm'=>(first_pB (Mem.rdBlk hm' .here rfl rfl) (IntL.cons (IntL.cons IntL.nil)))) ?_;refine a_s rfl rfl ?_;refine n_r ?_;refine m_v rfl rfl ?_;refine tr_val (rk_neq (.of rfl) (.of rfl)) rfl ?_;refine n_t ?_;refine c_d rfl (fun hcd=>?_) (fun hcd=>?_);refine s_r ?_;refine m_v rfl rfl ?_;refine a_s rfl rfl ?_;refine a_s rfl rfl ?_;refine n_t ?_;refine r_t ?_;rotate_left;refine s_t ?_;refine s_r ?_;refine tr_val (rk_makeFunc' .nil (.cons (.of rfl) .nil)) rfl ?_;refine a_s rfl rfl ?_;refine n_t ?_;refine tr_seq ?_;refine s_r ?_;refine m_v rfl rfl ?_;refine m_v rfl rfl ?_;rotate_right)
  · have hne:exE0 es l.length ≠ 0:=hcd
    have hE:exE es l = exE0 es l.length:=by rw [exE,if_pos hne]
    have hL:exL es l = []:=by rw [exL,if_neg (by rw [hE];exact hne)]
    rw [hE,hL]
    refine tr_rowNil 66 2 ?_
    first | with_reducible apply tr_retM | with_reducible apply tr_endM
    case he=>exact ends2 rfl rfl rfl
    case hR=>
      intro w' hm'
      exact gives_end (.slice none 0 0) trivial (show Takes _ [row 66 2 (.slice none 0 0) 0 []] _ by exact .cons .here .nil) hm' rfl
  have hz0:exE0 es l.length = 0:=Decidable.not_not.1 hcd
  have hz1:=hz0
  unfold exE0 at hz1
  rw [firstF_zero] at hz1
  simp only [List.mem_cons,List.not_mem_nil,or_false,forall_eq_or_imp,forall_eq] at hz1
  rw [whenF_zero (by decide)] at hz1
  have hl32:l.length ≤ 32:=by have:=hz1.2;simp at this;omega
  have hs:=Sound.of hz1.1
  rename_i b2' hb2'
  with_reducible apply tr_call
  case hr=>exact rk_call (.of rfl) (.cons (.of rfl) (.cons (.of rfl) .nil)) inferInstance normc_
  case hd=>rfl
  case ht=>exact Takes.nil
  case hc=>
    intro w1 fp hm1 _ hs1
    obtain rfl:fp = []:=hs1
    refine mapSe (f:=112) (first:=[]) (img:=l.map (seE es.length)) (h2.keeps hm1.keeps) rfl (by rw [lenV,seL_length]) (by rw [seL_length];omega) (seL_one l) ?_
    intro i r e hr he w' hk'
    have hm':=hm1.keepsOn hk'
    simp only [seL,List.getElem?_map,Option.map_eq_some_iff] at hr he
    obtain ⟨x,hx,rfl⟩:=hr
    obtain ⟨y,hy,rfl⟩:=he
    rw [hx] at hy;cases hy
    exact seC_c x ((At.lit (by exact Take.there .here) (by exact rfl) _ hm'))
  intro v _
  dsimp only [id_eq,List.cons_append,List.nil_append]
  with_reducible apply tr_callV
  case hr=>exact rk_call (.of rfl) (.cons (.of rfl) .nil) inferInstance normc_
  case hd=>rfl
  case hc=>
    intro w' hm'
    exact first_pB (Mem.rdRow1 hm' (by exact .here) (by rw [lenV,lenV,seL_length])) (IntL.map _)
  (refine a_s rfl rfl ?_;refine n_r ?_;refine m_v rfl rfl ?_;refine tr_val (rk_neq (.of rfl) (.of rfl)) rfl ?_;refine n_t ?_;refine c_d rfl (fun hcd=>?_) (fun hcd=>?_);refine s_r ?_;refine m_v rfl rfl ?_;refine a_s rfl rfl ?_;refine a_s rfl rfl ?_;refine n_t ?_;refine r_t ?_;rotate_left;refine s_t ?_;refine s_r ?_;refine tr_val (rk_loadB (.of rfl) (.there (.there .here)) norm_ (by rfl)) rfl ?_;rotate_right)
  · have hne:firstF (l.map (seE es.length)) ≠ 0:=hcd
    have hE:exE es l = firstF (l.map (seE es.length)):=by rw [exE,if_neg (by rw [hz0];decide),if_pos hne]
    have hL:exL es l = []:=by rw [exL,if_neg (by rw [hE];exact hne)]
    rw [hE,hL]
    refine tr_rowNil 66 2 ?_
    first | with_reducible apply tr_retM | with_reducible apply tr_endM
    case he=>exact ends2 rfl rfl rfl
    case hR=>
      intro w' hm'
      exact gives_end (.slice none 0 0) trivial (show Takes _ [row 66 2 (.slice none 0 0) 0 []] _ by exact .cons .here .nil) hm' rfl
  have hz2:firstF (l.map (seE es.length)) = 0:=Decidable.not_not.1 hcd
  have hE:exE es l = whenF (l.any (exBad es)) 14:=by rw [exE,if_neg (by rw [hz0];decide),if_neg (by rw [hz2];decide)]
  have hin:∀ x ∈ l,0 ≤ x.en ∧ x.en < es.length ∧ -1000000 ≤ x.off ∧ x.off ≤ 1000000 ∧ 1 ≤ x.ln ∧ x.ln ≤ 1000000:=by
    intro x hx
    have h:=firstF_zero.1 hz2 (seE es.length x) (List.mem_map.2 ⟨x,hx,rfl⟩)
    unfold seE at h
    rw [firstF_zero] at h
    simp only [List.mem_cons,List.not_mem_nil,or_false,forall_eq_or_imp,forall_eq,withinF_zero] at h
    rw [whenF_zero (by decide)] at h
    obtain ⟨h1,h2,h3⟩:=h
    simp at h1
    omega
  with_reducible apply tr_call
  case hr=>exact rk_call (.of rfl) (.cons (.of rfl) .nil) inferInstance normc_
  case hd=>rfl
  case ht=>exact Takes.nil
  case hc=>
    intro w1 fp hm1 _ hs1
    obtain rfl:fp = []:=hs1
    exact spans_c (h1.keeps hm1.keeps) hs.all.ok hs.all.few (hG.keeps hm1.keeps)
  intro vs _
  dsimp only [id_eq,List.cons_append,List.nil_append]
  have hfew:=hs.all.few
  by_cases hn0:0 < es.length
  · refine tr_rowOpen (E:=191) (sz:=8) (by exact .here) hn0 fun g cap' cur e hcap' hmx' hsz' hl'=>?_
    subst e
    (refine a_s rfl rfl ?_;refine n_r ?_;refine a_s rfl rfl ?_;refine n_t ?_;refine tr_seq ?_;refine s_r ?_;refine m_v rfl rfl ?_;refine tr_val (rk_len_slice (.of rfl)) rfl ?_;refine m_v rfl rfl ?_;refine n_t ?_;refine tr_block ?_)
    refine tr_rowNil 66 2 ?_
    refine tr_for (ι:=Nat × Value) (fun x=>x.1 ≤ l.length ∧ ∀ i,i < x.1 → ∀ h:i < l.length,exBad es l[i] = false) (fun x=>[(38,.int .i64 x.1),(37,.int .i64 l.length),(36,.slice a2 l.length cap2),(9,.slice (some ⟨g,0,none⟩) es.length cap'),(10,x.2)])
      (fun x=>[row 66 2 x.2 x.1 ((exM es (l.take x.1)).flatMap duoV),blk g (.cells (plR es es.length++cur).toArray 191 (0,0))]) (fun x=>l.length - x.1) ?_ ?_
    · apply tr_start (0,.slice none 0 0) ⟨Nat.zero_le _,fun i h=>by omega⟩
      case hs1=>exact .cons rfl (.cons rfl (.cons rfl (.cons rfl (.cons rfl .nil))))
      case ht=>
        show Takes _ [row 66 2 (.slice none 0 0) 0 [],_] _
        exact .cons .here (.cons .here .nil)
    rintro ⟨k,v1⟩ ⟨hk,hf⟩
    dsimp only at hk hf ⊢
    by_cases hlt:k < l.length
    · have ha2':=ha2 (by intro e;have:=congrArg List.length e;rw [seL_length] at this;simp at this;subst this;simp at hlt)
      have hcell:=(hc2 k l[k].cells (by rw [seL,List.getElem?_map,List.getElem?_eq_getElem hlt];rfl)).2
      have hb:=hin _ (List.getElem_mem hlt)
      have htk:(exM es (l.take (k + 1))).flatMap duoV = (exM es (l.take k)).flatMap duoV++duoV (exFrom es l[k],exFrom es l[k] + l[k].ln):=by
        rw [List.take_succ_eq_append_getElem hlt,exM,List.map_append,List.flatMap_append];simp [exM]
      generalize hx:l[k] = x at hcell hb htk
      obtain ⟨en,fe,off,ln⟩:=x
      unfold Se.cells at hcell
      dsimp only at hcell hb
      have hen:en.toNat < es.length:=by omega
      have hnn:=hs.fr_nn hen
      have c1:=plR_cells (es:=es) (n:=es.length) cur hen
      unfold plL at c1
      cases fe with
      | false =>
        (refine s_r ?_;refine tr_val (rk_lss (.of rfl) (.of rfl)) rfl ?_;refine n_t ?_;refine tr_seq ?_;refine c_d rfl (fun hcd=>?_) (fun _=>by omega);refine s_t ?_;refine tr_seq ?_;refine tr_block ?_;refine s_r ?_;refine tr_val (rk_indexAddr (.of rfl) (.of rfl) ha2' (by omega) hcd norm1_) rfl ?_;refine tr_val (rk_loadN (.of rfl) (Ats.base hcell rfl) rfl) rfl ?_;refine tr_new (rk_alloc rfl) rfl (fun _ _=>?_);refine tr_store (.of rfl) (.of rfl) .here rfl rfl (okc_cons rfl (okc_cons rfl (okc_cons rfl (okc_cons rfl okc_nil)))) (lenb rfl) norm_ ?_;refine n_r ?_;refine m_v rfl rfl ?_;refine f_a rfl rfl norm0_ ?_;refine tr_val (rk_load1 (.of rfl) (At.lit .here rfl)) rfl ?_;refine tr_val (rk_indexAddr (.of rfl) (.of rfl) rfl (by omega) (by omega) norm1_) rfl ?_;refine tr_val (rk_loadB (.of rfl) (.there (.there .here)) c1 rfl) rfl ?_;refine tr_new (rk_alloc rfl) rfl (fun _ _=>?_);refine tr_store (.of rfl) (.of rfl) .here rfl rfl (okc_cons rfl (okc_cons rfl (okc_cons rfl (okc_cons rfl (okc_cons rfl (okc_cons rfl (okc_cons rfl (okc_cons rfl okc_nil)))))))) (lenb rfl) norm_ ?_;refine n_r ?_;refine f_a rfl rfl norm0_ ?_;refine f_a rfl rfl norm0_ ?_;refine tr_val (rk_load1 (.of rfl) (At.lit .here rfl)) rfl ?_;refine f_a rfl rfl norm0_ ?_;refine tr_val (rk_load1 (.of rfl) (At.lit (.there .here) rfl)) rfl ?_;refine tr_val (rk_add (.of rfl) (.of rfl) (ini (by omega))) rfl ?_;refine a_s rfl rfl ?_;refine n_t ?_;refine tr_seq ?_;refine s_r ?_;refine f_a rfl rfl norm0_ ?_;refine tr_val (rk_load1 (.of rfl) (At.lit (.there .here) rfl)) rfl ?_;refine n_t ?_;refine tr_cond_f (.of rfl) ?_;refine s_t ?_;refine tr_seq ?_;refine s_r ?_;refine m_v rfl rfl ?_;refine f_a rfl rfl norm0_ ?_;refine f_a rfl rfl norm0_ ?_;refine tr_val (rk_load1 (.of rfl) (At.lit .here rfl)) rfl ?_;refine tr_val (rk_lss (.of rfl) (.of rfl)) rfl ?_;refine m_v rfl rfl ?_;refine v_g rfl rfl rfl rfl ?_;refine tr_vG1 rfl rfl inferInstance (fun hg hgp=>(rk_fieldAddr (.of rfl) norm0_)) rfl ?_;refine tr_vG1 rfl rfl inferInstance (fun hg hgp=>(rk_load1 (.ofg hg rfl) (At.lit (.there .here) rfl))) rfl ?_;refine tr_vG1 rfl rfl inferInstance (fun hg hgp=>(rk_add (.ofg hg rfl) (.ofg hg rfl) (ini (by omega)))) rfl ?_;refine tr_vG1 rfl rfl inferInstance (fun hg hgp=>(rk_fieldAddr (.of rfl) norm0_)) rfl ?_;refine tr_vG1 rfl rfl inferInstance (fun hg hgp=>(rk_fieldAddr (.ofg hg rfl) norm0_)) rfl ?_;refine tr_vG1 rfl rfl inferInstance (fun hg hgp=>(rk_load1 (.ofg hg rfl) (At.lit .here rfl))) rfl ?_;refine tr_vG1 rfl rfl inferInstance (fun hg hgp=>(rk_gtr (.ofg hg rfl) (.ofg hg rfl))) rfl ?_;refine tr_val (rk_pick_or (.of rfl) rfl) rfl ?_;refine n_t ?_;refine c_b rfl (fun hcd=>?_) (fun hcd=>?_);refine s_r ?_;refine a_s rfl rfl ?_;refine a_s rfl rfl ?_;refine n_t ?_;refine r_t ?_;refine tr_blk_ret ?_;refine tr_then_ret ?_;refine tr_then_ret ?_;refine tr_blk_ret ?_;refine tr_then_ret ?_;rotate_left;refine s_t ?_;refine tr_region ?_;refine m_v rfl rfl ?_;refine m_v rfl rfl ?_;refine m_v rfl rfl ?_;refine f_a rfl rfl norm0_ ?_;refine tr_val (rk_load1 (.of rfl) (At.lit (.there .here) rfl)) rfl ?_;refine tr_val (rk_add (.of rfl) (.of rfl) (ini (by omega))) rfl ?_;refine tr_val (rk_buildL (.cons (.of rfl) (.cons (.of rfl) .nil)) norm_) rfl ?_;refine tr_new (rk_sliceLitN (.cons (.of rfl) .nil) rfl rfl normp_ normp_ norm_) rfl (fun _ _=>?_);rotate_right)
        · have hbad:exBad es ⟨en,false,off,ln⟩ = true:=by
            unfold exBad exFrom
            simp only [Bool.or_eq_true,decide_eq_true_eq]
            exact hcd
          have hany:l.any (exBad es) = true:=List.any_eq_true.2 ⟨_,List.getElem_mem hlt,by rw [hx];exact hbad⟩
          rw [hany] at hE
          have hE':exE es l = 14:=hE
          have hL:exL es l = []:=by rw [exL,if_neg (by rw [hE'];decide)]
          rw [hE',hL]
          refine tr_rowNil 66 2 ?_
          first | with_reducible apply tr_retM | with_reducible apply tr_endM
          case he=>exact ends2 rfl rfl rfl
          case hR=>
            intro w' hm'
            exact gives_end (.slice none 0 0) trivial (show Takes _ [row 66 2 (.slice none 0 0) 0 []] _ by exact .cons .here .nil) hm' rfl
        · have hok:exBad es ⟨en,false,off,ln⟩ = false:=by
            unfold exBad exFrom
            simp only [Bool.or_eq_false_iff,decide_eq_false_iff_not]
            exact hcd
          refine tr_appendB (.of rfl) (.of rfl) (.there (.there (.there .here))) .here norm_ (by rfl) (okc_cons rfl (okc_cons rfl okc_nil)) (by rfl) (by rfl) (by rfl) lenx_ (by rfl) ?_
          intro v'
          (refine a_s rfl rfl ?_;refine tr_nil ?_;refine tr_blk_normal ?_;refine tr_then ?_;refine tr_region ?_;refine tr_val (rk_add (.of rfl) (.of rfl) (ini (by omega))) rfl ?_;refine m_v rfl rfl ?_;refine n_t ?_)
          apply tr_next (k + 1,v') ⟨by show k + 1 ≤ l.length;omega,fun i hi hi2=>by
            by_cases e:i = k
            · subst e;rw [hx];exact hok
            · exact hf i (by omega) hi2⟩ (by show l.length - (k + 1) < l.length - k;omega)
          case hs1=>exact .cons rfl (.cons rfl (.cons rfl (.cons rfl (.cons rfl .nil))))
          case ht=>
            show Takes _ [row 66 2 v' (k + 1) ((exM es (l.take (k + 1))).flatMap duoV),_] _
            rw [htk]
            show Takes _ [row 66 2 v' (k + 1) ((exM es (l.take k)).flatMap duoV++[.int .i64 (fr es en.toNat + off),.int .i64 (fr es en.toNat + off + ln)]),_] _
            exact .cons .here (.cons (.there (.there (.there .here))) .nil)
      | true =>
        (refine s_r ?_;refine tr_val (rk_lss (.of rfl) (.of rfl)) rfl ?_;refine n_t ?_;refine tr_seq ?_;refine c_d rfl (fun hcd=>?_) (fun _=>by omega);refine s_t ?_;refine tr_seq ?_;refine tr_block ?_;refine s_r ?_;refine tr_val (rk_indexAddr (.of rfl) (.of rfl) ha2' (by omega) hcd norm1_) rfl ?_;refine tr_val (rk_loadN (.of rfl) (Ats.base hcell rfl) rfl) rfl ?_;refine tr_new (rk_alloc rfl) rfl (fun _ _=>?_);refine tr_store (.of rfl) (.of rfl) .here rfl rfl (okc_cons rfl (okc_cons rfl (okc_cons rfl (okc_cons rfl okc_nil)))) (lenb rfl) norm_ ?_;refine n_r ?_;refine m_v rfl rfl ?_;refine f_a rfl rfl norm0_ ?_;refine tr_val (rk_load1 (.of rfl) (At.lit .here rfl)) rfl ?_;refine tr_val (rk_indexAddr (.of rfl) (.of rfl) rfl (by omega) (by omega) norm1_) rfl ?_;refine tr_val (rk_loadB (.of rfl) (.there (.there .here)) c1 rfl) rfl ?_;refine tr_new (rk_alloc rfl) rfl (fun _ _=>?_);refine tr_store (.of rfl) (.of rfl) .here rfl rfl (okc_cons rfl (okc_cons rfl (okc_cons rfl (okc_cons rfl (okc_cons rfl (okc_cons rfl (okc_cons rfl (okc_cons rfl okc_nil)))))))) (lenb rfl) norm_ ?_;refine n_r ?_;refine f_a rfl rfl norm0_ ?_;refine f_a rfl rfl norm0_ ?_;refine tr_val (rk_load1 (.of rfl) (At.lit .here rfl)) rfl ?_;refine f_a rfl rfl norm0_ ?_;refine tr_val (rk_load1 (.of rfl) (At.lit (.there .here) rfl)) rfl ?_;refine tr_val (rk_add (.of rfl) (.of rfl) (ini (by omega))) rfl ?_;refine a_s rfl rfl ?_;refine n_t ?_;refine tr_seq ?_;refine s_r ?_;refine f_a rfl rfl norm0_ ?_;refine tr_val (rk_load1 (.of rfl) (At.lit (.there .here) rfl)) rfl ?_;refine n_t ?_;refine tr_cond_t (.of rfl) ?_;refine tr_region ?_;refine f_a rfl rfl norm0_ ?_;refine f_a rfl rfl norm0_ ?_;refine tr_val (rk_load1 (.of rfl) (At.lit .here rfl)) rfl ?_;refine f_a rfl rfl norm0_ ?_;refine tr_val (rk_load1 (.of rfl) (At.lit (.there .here) rfl)) rfl ?_;refine tr_val (rk_add (.of rfl) (.of rfl) (ini (by omega))) rfl ?_;refine a_s rfl rfl ?_;refine n_t ?_;refine tr_seq ?_;refine s_r ?_;refine m_v rfl rfl ?_;refine f_a rfl rfl norm0_ ?_;refine f_a rfl rfl norm0_ ?_;refine tr_val (rk_load1 (.of rfl) (At.lit .here rfl)) rfl ?_;refine tr_val (rk_lss (.of rfl) (.of rfl)) rfl ?_;refine m_v rfl rfl ?_;refine v_g rfl rfl rfl rfl ?_;refine tr_vG1 rfl rfl inferInstance (fun hg hgp=>(rk_fieldAddr (.of rfl) norm0_)) rfl ?_;refine tr_vG1 rfl rfl inferInstance (fun hg hgp=>(rk_load1 (.ofg hg rfl) (At.lit (.there .here) rfl))) rfl ?_;refine tr_vG1 rfl rfl inferInstance (fun hg hgp=>(rk_add (.ofg hg rfl) (.ofg hg rfl) (ini (by omega)))) rfl ?_;refine tr_vG1 rfl rfl inferInstance (fun hg hgp=>(rk_fieldAddr (.of rfl) norm0_)) rfl ?_;refine tr_vG1 rfl rfl inferInstance (fun hg hgp=>(rk_fieldAddr (.ofg hg rfl) norm0_)) rfl ?_;refine tr_vG1 rfl rfl inferInstance (fun hg hgp=>(rk_load1 (.ofg hg rfl) (At.lit .here rfl))) rfl ?_;refine tr_vG1 rfl rfl inferInstance (fun hg hgp=>(rk_gtr (.ofg hg rfl) (.ofg hg rfl))) rfl ?_;refine tr_val (rk_pick_or (.of rfl) rfl) rfl ?_;refine n_t ?_;refine c_b rfl (fun hcd=>?_) (fun hcd=>?_);refine s_r ?_;refine a_s rfl rfl ?_;refine a_s rfl rfl ?_;refine n_t ?_;refine r_t ?_;refine tr_blk_ret ?_;refine tr_then_ret ?_;refine tr_then_ret ?_;refine tr_blk_ret ?_;refine tr_then_ret ?_;rotate_left;refine s_t ?_;refine tr_region ?_;refine m_v rfl rfl ?_;refine m_v rfl rfl ?_;refine m_v rfl rfl ?_;refine f_a rfl rfl norm0_ ?_;refine tr_val (rk_load1 (.of rfl) (At.lit (.there .here) rfl)) rfl ?_;refine tr_val (rk_add (.of rfl) (.of rfl) (ini (by omega))) rfl ?_;refine tr_val (rk_buildL (.cons (.of rfl) (.cons (.of rfl) .nil)) norm_) rfl ?_;refine tr_new (rk_sliceLitN (.cons (.of rfl) .nil) rfl rfl normp_ normp_ norm_) rfl (fun _ _=>?_);rotate_right)
        · have hbad:exBad es ⟨en,true,off,ln⟩ = true:=by
            unfold exBad exFrom
            simp only [Bool.or_eq_true,decide_eq_true_eq]
            exact hcd
          have hany:l.any (exBad es) = true:=List.any_eq_true.2 ⟨_,List.getElem_mem hlt,by rw [hx];exact hbad⟩
          rw [hany] at hE
          have hE':exE es l = 14:=hE
          have hL:exL es l = []:=by rw [exL,if_neg (by rw [hE'];decide)]
          rw [hE',hL]
          refine tr_rowNil 66 2 ?_
          first | with_reducible apply tr_retM | with_reducible apply tr_endM
          case he=>exact ends2 rfl rfl rfl
          case hR=>
            intro w' hm'
            exact gives_end (.slice none 0 0) trivial (show Takes _ [row 66 2 (.slice none 0 0) 0 []] _ by exact .cons .here .nil) hm' rfl
        · have hok:exBad es ⟨en,true,off,ln⟩ = false:=by
            unfold exBad exFrom
            simp only [Bool.or_eq_false_iff,decide_eq_false_iff_not]
            exact hcd
          refine tr_appendB (.of rfl) (.of rfl) (.there (.there (.there .here))) .here norm_ (by rfl) (okc_cons rfl (okc_cons rfl okc_nil)) (by rfl) (by rfl) (by rfl) lenx_ (by rfl) ?_
          intro v'
          (refine a_s rfl rfl ?_;refine tr_nil ?_;refine tr_blk_normal ?_;refine tr_then ?_;refine tr_region ?_;refine tr_val (rk_add (.of rfl) (.of rfl) (ini (by omega))) rfl ?_;refine m_v rfl rfl ?_;refine n_t ?_)
          apply tr_next (k + 1,v') ⟨by show k + 1 ≤ l.length;omega,fun i hi hi2=>by
            by_cases e:i = k
            · subst e;rw [hx];exact hok
            · exact hf i (by omega) hi2⟩ (by show l.length - (k + 1) < l.length - k;omega)
          case hs1=>exact .cons rfl (.cons rfl (.cons rfl (.cons rfl (.cons rfl .nil))))
          case ht=>
            show Takes _ [row 66 2 v' (k + 1) ((exM es (l.take (k + 1))).flatMap duoV),_] _
            rw [htk]
            show Takes _ [row 66 2 v' (k + 1) ((exM es (l.take k)).flatMap duoV++[.int .i64 (to es en.toNat + off),.int .i64 (to es en.toNat + off + ln)]),_] _
            exact .cons .here (.cons (.there (.there (.there .here))) .nil)
    · obtain rfl:k = l.length:=by omega
      have hany:l.any (exBad es) = false:=by
        rw [List.any_eq_false]
        intro x hx
        obtain ⟨i,hi,rfl⟩:=List.getElem_of_mem hx
        rw [hf i hi hi];decide
      rw [hany] at hE
      have hE':exE es l = 0:=hE
      have hL:exL es l = exM es l:=by rw [exL,if_pos hE'];rfl
      rw [hE',hL,List.take_length]
      have hlm:(exM es l).length = l.length:=lenV _ l
      rw [hlm]
      (refine s_r ?_;refine tr_val (rk_lss (.of rfl) (.of rfl)) rfl ?_;refine n_t ?_;refine tr_seq ?_;refine c_d rfl (fun _=>by omega) (fun hcd=>?_);refine x_t ?_;refine tr_then_exit ?_;refine tr_blk_exit ?_;refine tr_then ?_;refine s_r ?_;refine m_v rfl rfl ?_;refine a_s rfl rfl ?_;refine a_s rfl rfl ?_;refine n_t ?_;refine tr_ret ?_)
      first | with_reducible apply tr_retM | with_reducible apply tr_endM
      case he=>exact ends2 rfl rfl rfl
      case hR=>
        intro w' hm'
        exact gives_end v1 trivial (by exact .cons .here .nil) hm' rfl
  · have hl0:l = []:=by
      cases l with
      | nil=>rfl
      | cons x r=>have:=hin x (by simp);omega
    subst hl0
    have hE':exE es [] = 0:=hE
    have hL:exL es [] = []:=by rw [exL,if_pos hE'];rfl
    rw [hE',hL]
    (refine a_s rfl rfl ?_;refine n_r ?_;refine a_s rfl rfl ?_;refine n_t ?_;refine tr_seq ?_;refine s_r ?_;refine m_v rfl rfl ?_;refine tr_val (rk_len_slice (.of rfl)) rfl ?_;refine m_v rfl rfl ?_;refine n_t ?_;refine tr_block ?_)
    refine tr_for (ι:=Unit) (fun _=>True) (fun _=>[(38,.int .i64 0),(37,.int .i64 0),(36,.slice a2 0 cap2),(10,.slice none 0 0)])
      (fun _=>[]) (fun _=>0) ?_ ?_
    · apply tr_start () trivial
      case hs1=>exact .cons rfl (.cons rfl (.cons rfl (.cons rfl .nil)))
      case ht=>exact .nil
    rintro ⟨⟩ _
    (refine s_r ?_;refine tr_val (rk_lss (.of rfl) (.of rfl)) rfl ?_;refine n_t ?_;refine tr_seq ?_;refine c_d rfl (fun _=>by omega) (fun hcd=>?_);refine x_t ?_;refine tr_then_exit ?_;refine tr_blk_exit ?_;refine tr_then ?_;refine s_r ?_;refine m_v rfl rfl ?_;refine a_s rfl rfl ?_;refine a_s rfl rfl ?_;refine n_t ?_;refine tr_ret ?_)
    refine tr_rowNil 66 2 ?_
    first | with_reducible apply tr_retM | with_reducible apply tr_endM
    case he=>exact ends2 rfl rfl rfl
    case hR=>
      intro w' hm'
      exact gives_end (.slice none 0 0) trivial (show Takes _ [row 66 2 (.slice none 0 0) 0 []] _ by exact .cons .here .nil) hm' rfl
end Go.Proofs.A1
