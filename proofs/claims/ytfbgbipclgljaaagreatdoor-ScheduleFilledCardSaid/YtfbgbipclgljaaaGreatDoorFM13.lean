/- Parts of the proof: S30 S31 GkCopy. -/
import Derived.Test.YtfbgbipclgljaaaGreatDoorFM12
import Derived.Test.YtfbgbipclgljaaaGreatDoorFM06
import Derived.Test.YtfbgbipclgljaaaGreatDoorFM05
import Derived.Lib.AppendZerosOnto
set_option linter.unusedSectionVars false
set_option linter.unusedVariables false
set_option linter.unusedSimpArgs false
namespace Go.Proofs.A1
open Go Go.SL
theorem mapInt {lv fv:Value} {rows:List (List Value)} {f:FuncId} {first cap:List Value} [Bod Tryz.prog f] {img:List Int} {w:World} (h:Rd w lv 1 rows) (hfv:fv = .func (.func f) first.toArray cap.toArray) (hl:img.length = rows.length) (hn:rows.length ≤ 1000000) (h1c:∀ r ∈ rows,∀ u ∈ r,u.oneCell' = true)
    (hcall:∀ (i:Nat) (r:List Value) (e:Int),rows[i]? = some r → img[i]? = some e → ∀ w',Keeps [] w w' → GivesV Tryz.prog f (first++r++cap) w' (.int .i64 e)) :
    Gives Tryz.prog 145 [lv,fv] w [] (fun _:Value=>True) id (fun v=>[row 28 1 v rows.length (img.map (.int .i64))]):=by
  subst hfv
  obtain ⟨a,cp,b,o,rfl,hcap,hmax,ha,hc⟩:=h
  unfold maxLen at hmax
  refine gives_of_tr Tryz.func145 rfl rfl ?_
  (refine s_r ?_;refine a_s rfl rfl ?_;refine n_r ?_;refine a_s rfl rfl ?_;refine n_t ?_;refine tr_seq ?_;refine s_r ?_;refine m_v rfl rfl ?_;refine tr_val (rk_len_slice (.of rfl)) rfl ?_;refine m_v rfl rfl ?_;refine n_t ?_;refine tr_block ?_)
  refine tr_rowNil 28 1 ?_
  refine tr_for (ι:=Nat × Value) (fun x=>x.1 ≤ rows.length) (fun x=>[(10,.int .i64 x.1),(9,.int .i64 rows.length),(8,.slice a rows.length cp),(5,x.2),(1,.func (.func f) first.toArray cap.toArray)]) (fun x=>[row 28 1 x.2 x.1 ((img.take x.1).map (.int .i64))]) (fun x=>rows.length - x.1) ?_ ?_
  · apply tr_start (0,.slice none 0 0) (Nat.zero_le _)
    case hs1=>exact .cons rfl (.cons rfl (.cons rfl (.cons rfl (.cons rfl .nil))))
    case ht=>(try simp only [List.take_zero,List.map_nil,List.nil_append]);exact .cons .here .nil
  rintro ⟨k,v⟩ hk
  dsimp only at hk ⊢
  by_cases hlt:k < rows.length
  · have ha':=ha (by intro e;rw [e] at hlt;simp at hlt)
    have hget:rows[k]? = some rows[k]:=List.getElem?_eq_getElem hlt
    have hcell:=(hc k _ hget).2
    have hlen:=(hc k _ hget).1
    have himg:img[k]? = some (img[k]'(by omega)):=List.getElem?_eq_getElem (by omega)
    have hone:=h1c _ (List.getElem_mem hlt)
    have hcl:=hcall k _ _ hget himg
    obtain ⟨x0,hx⟩:∃ x0,rows[k] = [x0]:=by
      match hr:rows[k],hlen with
      | [x0],_=>exact ⟨x0,rfl⟩
    rw [hx] at hcell hone hcl
    have o0_:=hone x0 (by simp)
    have c0:w.cell? ⟨b,o + k * 1,none⟩ = some x0:=hcell 0 _ rfl
    (refine s_r ?_;refine tr_val (rk_lss (.of rfl) (.of rfl)) rfl ?_;refine n_t ?_;refine tr_seq ?_;refine c_d rfl (fun hcd=>?_) (fun _=>by omega);refine s_t ?_;refine tr_seq ?_;refine tr_block ?_;refine s_r ?_;refine tr_val (rk_indexAddr (.of rfl) (.of rfl) ha' (by omega) hcd norm1_) rfl ?_;refine tr_val (rk_load1 (.of rfl) (At.base c0 rfl)) rfl ?_;refine a_s rfl rfl ?_;refine n_t ?_;refine tr_region ?_;refine m_v rfl rfl ?_;refine m_v rfl rfl ?_;refine m_v rfl rfl ?_)
    refine tr_callV (rk_call (.of rfl) (.cons (.of rfl) .nil) inferInstance normc_) rfl (fun w' hm'=>(hcl w' (Mem.keeps hm'))) ?_
    refine tr_new (rk_sliceLit (.cons (.of rfl) .nil) rfl rfl rfl rfl) rfl (fun _ _=>?_)
    refine tr_appendB (.of rfl) (.of rfl) (.there .here) .here norm_ (by rfl) (okc_cons rfl okc_nil) (by rfl) (by rfl) (by rfl) lenx_ (by rfl) ?_
    intro v'
    (refine a_s rfl rfl ?_;refine tr_nil ?_;refine tr_blk_normal ?_;refine tr_then ?_;refine tr_region ?_;refine tr_val (rk_add (.of rfl) (.of rfl) (ini (by omega))) rfl ?_;refine m_v rfl rfl ?_;refine n_t ?_)
    have ht1:(img.take (k + 1)).map (Value.int .i64) = (img.take k).map (Value.int .i64)++[Value.int .i64 (img[k]'(by omega))]:=by
      rw [List.take_add_one,himg,List.map_append];rfl
    apply tr_next (k + 1,v') (by show k + 1 ≤ rows.length;omega) (by show rows.length - (k + 1) < rows.length - k;omega)
    case hs1=>exact .cons rfl (.cons rfl (.cons rfl (.cons rfl (.cons rfl .nil))))
    case ht=>
      show Takes _ [row 28 1 v' (k + 1) ((img.take (k + 1)).map (Value.int .i64))] _
      rw [ht1]
      exact .cons .here .nil
  · have:k = rows.length:=by omega
    subst this
    rw [List.take_of_length_le (by omega)]
    (refine s_r ?_;refine tr_val (rk_lss (.of rfl) (.of rfl)) rfl ?_;refine n_t ?_;refine tr_seq ?_;refine c_d rfl (fun _=>by omega) (fun hcd=>?_);refine x_t ?_;refine tr_then_exit ?_;refine tr_blk_exit ?_;refine tr_then ?_;refine s_r ?_;refine m_v rfl rfl ?_;refine a_s rfl rfl ?_;refine n_t ?_;refine tr_ret ?_)
    first | with_reducible apply tr_retM | with_reducible apply tr_endM
    case he=>exact ends1 rfl rfl
    case hR=>
      intro w' hm'
      exact gives_end v trivial (by exact .cons .here .nil) hm' rfl
theorem mapPr {lv fv:Value} {rows:List (List Value)} {f:FuncId} {first cap:List Value} [Bod Tryz.prog f] {img:List Int} {w:World} (h:Rd w lv 2 rows) (hfv:fv = .func (.func f) first.toArray cap.toArray) (hl:img.length = rows.length) (hn:rows.length ≤ 1000000) (h1c:∀ r ∈ rows,∀ u ∈ r,u.oneCell' = true)
    (hcall:∀ (i:Nat) (r:List Value) (e:Int),rows[i]? = some r → img[i]? = some e → ∀ w',Keeps [] w w' → GivesV Tryz.prog f (first++[.agg r.toArray]++cap) w' (.int .i64 e)) :
    Gives Tryz.prog 147 [lv,fv] w [] (fun _:Value=>True) id (fun v=>[row 28 1 v rows.length (img.map (.int .i64))]):=by
  subst hfv
  obtain ⟨a,cp,b,o,rfl,hcap,hmax,ha,hc⟩:=h
  unfold maxLen at hmax
  refine gives_of_tr Tryz.func147 rfl rfl ?_
  (refine s_r ?_;refine a_s rfl rfl ?_;refine n_r ?_;refine a_s rfl rfl ?_;refine n_t ?_;refine tr_seq ?_;refine s_r ?_;refine m_v rfl rfl ?_;refine tr_val (rk_len_slice (.of rfl)) rfl ?_;refine m_v rfl rfl ?_;refine n_t ?_;refine tr_block ?_)
  refine tr_rowNil 28 1 ?_
  refine tr_for (ι:=Nat × Value) (fun x=>x.1 ≤ rows.length) (fun x=>[(10,.int .i64 x.1),(9,.int .i64 rows.length),(8,.slice a rows.length cp),(5,x.2),(1,.func (.func f) first.toArray cap.toArray)]) (fun x=>[row 28 1 x.2 x.1 ((img.take x.1).map (.int .i64))]) (fun x=>rows.length - x.1) ?_ ?_
  · apply tr_start (0,.slice none 0 0) (Nat.zero_le _)
    case hs1=>exact .cons rfl (.cons rfl (.cons rfl (.cons rfl (.cons rfl .nil))))
    case ht=>(try simp only [List.take_zero,List.map_nil,List.nil_append]);exact .cons .here .nil
  rintro ⟨k,v⟩ hk
  dsimp only at hk ⊢
  by_cases hlt:k < rows.length
  · have ha':=ha (by intro e;rw [e] at hlt;simp at hlt)
    have hget:rows[k]? = some rows[k]:=List.getElem?_eq_getElem hlt
    have hcell:=(hc k _ hget).2
    have hlen:=(hc k _ hget).1
    have himg:img[k]? = some (img[k]'(by omega)):=List.getElem?_eq_getElem (by omega)
    have hone:=h1c _ (List.getElem_mem hlt)
    have hcl:=hcall k _ _ hget himg
    obtain ⟨x0,x1,hx⟩:∃ x0 x1,rows[k] = [x0,x1]:=by
      match hr:rows[k],hlen with
      | [x0,x1],_=>exact ⟨x0,x1,rfl⟩
    rw [hx] at hcell hone hcl
    have o0_:=hone x0 (by simp)
    have o1_:=hone x1 (by simp)
    (refine s_r ?_;refine tr_val (rk_lss (.of rfl) (.of rfl)) rfl ?_;refine n_t ?_;refine tr_seq ?_;refine c_d rfl (fun hcd=>?_) (fun _=>by omega);refine s_t ?_;refine tr_seq ?_;refine tr_block ?_;refine s_r ?_;refine tr_val (rk_indexAddr (.of rfl) (.of rfl) ha' (by omega) hcd norm1_) rfl ?_;refine tr_val (rk_loadN (.of rfl) (Ats.base hcell rfl) rfl) rfl ?_;refine tr_new (rk_alloc rfl) rfl (fun _ _=>?_);refine tr_store (.of rfl) (.of rfl) .here rfl rfl (okc_cons o0_ (okc_cons o1_ okc_nil)) (lenb rfl) norm_ ?_;refine n_t ?_;refine tr_region ?_;refine m_v rfl rfl ?_;refine m_v rfl rfl ?_;refine tr_val (rk_loadB (.of rfl) .here norm_ (by rfl)) rfl ?_)
    refine tr_callV (rk_call (.of rfl) (.cons (.of rfl) .nil) inferInstance normc_) rfl (fun w' hm'=>(hcl w' (Mem.keeps hm'))) ?_
    refine tr_new (rk_sliceLit (.cons (.of rfl) .nil) rfl rfl rfl rfl) rfl (fun _ _=>?_)
    refine tr_appendB (.of rfl) (.of rfl) (.there (.there .here)) .here norm_ (by rfl) (okc_cons rfl okc_nil) (by rfl) (by rfl) (by rfl) lenx_ (by rfl) ?_
    intro v'
    (refine a_s rfl rfl ?_;refine tr_nil ?_;refine tr_blk_normal ?_;refine tr_then ?_;refine tr_region ?_;refine tr_val (rk_add (.of rfl) (.of rfl) (ini (by omega))) rfl ?_;refine m_v rfl rfl ?_;refine n_t ?_)
    have ht1:(img.take (k + 1)).map (Value.int .i64) = (img.take k).map (Value.int .i64)++[Value.int .i64 (img[k]'(by omega))]:=by
      rw [List.take_add_one,himg,List.map_append];rfl
    apply tr_next (k + 1,v') (by show k + 1 ≤ rows.length;omega) (by show rows.length - (k + 1) < rows.length - k;omega)
    case hs1=>exact .cons rfl (.cons rfl (.cons rfl (.cons rfl (.cons rfl .nil))))
    case ht=>
      show Takes _ [row 28 1 v' (k + 1) ((img.take (k + 1)).map (Value.int .i64))] _
      rw [ht1]
      exact .cons .here .nil
  · have:k = rows.length:=by omega
    subst this
    rw [List.take_of_length_le (by omega)]
    (refine s_r ?_;refine tr_val (rk_lss (.of rfl) (.of rfl)) rfl ?_;refine n_t ?_;refine tr_seq ?_;refine c_d rfl (fun _=>by omega) (fun hcd=>?_);refine x_t ?_;refine tr_then_exit ?_;refine tr_blk_exit ?_;refine tr_then ?_;refine s_r ?_;refine m_v rfl rfl ?_;refine a_s rfl rfl ?_;refine n_t ?_;refine tr_ret ?_)
    first | with_reducible apply tr_retM | with_reducible apply tr_endM
    case he=>exact ends1 rfl rfl
    case hR=>
      intro w' hm'
      exact gives_end v trivial (by exact .cons .here .nil) hm' rfl
def prV (p:Int × Int):List Value:=[.int .i64 p.1,.int .i64 p.2]
def prsL (l:List (Int × Int)):List (List Value):=l.map prV
theorem prsL_length (l:List (Int × Int)):(prsL l).length = l.length:=by simp [prsL]
theorem prsL_one (l:List (Int × Int)):∀ r ∈ prsL l,∀ u ∈ r,u.oneCell' = true:=by
  intro r hr
  obtain ⟨x,_,rfl⟩:=List.mem_map.1 hr
  unfold prV
  exact okc_cons rfl (okc_cons rfl okc_nil)
theorem ints_one (l:List Int):∀ r ∈ ints l,∀ u ∈ r,u.oneCell' = true:=by
  intro r hr
  obtain ⟨x,_,rfl⟩:=List.mem_map.1 hr
  exact okc_cons rfl okc_nil
theorem pr_eq (a b:Int):(decide (a = b) && (decide (b = a) && true)) = decide (a = b):=by
  by_cases h:a = b
  · subst h;simp
  · simp [h]
theorem prC_c (p:Int × Int) {bl bc c cp:Nat} {a:Option Addr} {w:World} (h1:w.cell? ⟨bc,0,none⟩ = some (.func (.func 144) #[] #[.pointer (some ⟨bl,0,none⟩)])) (h2:w.cell? ⟨bl,2,none⟩ = some (.slice a c cp)) (hc:c ≤ 1000000) :
    GivesV Tryz.prog 148 [.agg (prV p).toArray,.pointer (some ⟨bc,0,none⟩)] w (.int .i64 (prE c p)):=by
  unfold prV
  refine givesV_of_tr Tryz.func148 rfl rfl ?_
  (refine s_r ?_;refine tr_new (rk_box (.of rfl) rfl) rfl (fun _ _=>?_);refine a_s rfl rfl ?_;refine n_t ?_;refine tr_seq ?_)
  with_reducible refine tr_draw 16 (by kernel_rfl) ?_
  (refine any_val (rk_load1 (.of rfl) (At.base h1 rfl)) rfl ?_;refine any_val (rk_indexAddrA (.of rfl) (.of rfl) (by omega) (by omega) norm1_) rfl ?_;refine any_val (rk_load1 (.of rfl) (At.lit .here rfl)) rfl ?_;refine any_call (rk_call (.of rfl) (.cons (.of rfl) .nil) inferInstance normc_) rfl (fun w' hm'=>(camp_c _ (cell_keeps h2 rfl (Mem.keeps hm')) hc)) ?_;refine any_val (rk_load1 (.of rfl) (At.base h1 rfl)) rfl ?_;refine any_val (rk_indexAddrA (.of rfl) (.of rfl) (by omega) (by omega) norm1_) rfl ?_;refine any_val (rk_load1 (.of rfl) (At.lit .here rfl)) rfl ?_;refine any_call (rk_call (.of rfl) (.cons (.of rfl) .nil) inferInstance normc_) rfl (fun w' hm'=>(camp_c _ (cell_keeps h2 rfl (Mem.keeps hm')) hc)) ?_;refine any_val (rk_loadB (.of rfl) .here norm_ (by rfl)) rfl ?_;refine any_val (rk_indexAddrA (.of rfl) (.of rfl) (by omega) (by omega) norm1_) rfl ?_;refine any_val (rk_load1 (.of rfl) (At.lit .here rfl)) rfl ?_;refine any_val (rk_indexAddrA (.of rfl) (.of rfl) (by omega) (by omega) norm1_) rfl ?_;refine any_val (rk_load1 (.of rfl) (At.lit .here rfl)) rfl ?_;refine any_val (rk_buildL (.cons (.of rfl) (.cons (.of rfl) .nil)) norm_) rfl ?_;refine any_val (rk_eqlA (.of rfl) (.of rfl) (okL_int (okL_int okL_nil)) rfl) rfl ?_;refine any_call (rk_call (.of rfl) (.cons (.of rfl) (.cons (.of rfl) .nil)) inferInstance normc_) rfl (fun w' hm'=>(when_c _ 24 w')) ?_)
  with_reducible refine any_end ?_
  (refine tr_new (rk_sliceLit (.cons (.of rfl) (.cons (.of rfl) (.cons (.of rfl) .nil))) rfl rfl rfl rfl) rfl (fun _ _=>?_);refine tr_callV (rk_call (.of rfl) (.cons (.of rfl) .nil) inferInstance normc_) rfl (fun w' hm'=>(first_pB (Mem.rdBlk hm' .here rfl rfl) (IntL.cons (IntL.cons (IntL.cons IntL.nil))))) ?_;refine a_s rfl rfl ?_;refine n_t ?_;refine tr_ret ?_;refine tr_retE rfl (ends1 rfl rfl) ?_)
  rw [prE,pr_eq]
  rfl
end Go.Proofs.A1
namespace Go.Proofs.A1
open Go Go.SL
theorem firstF4 (a b c d:Int) (ha:a = 0) (hb:b = 0) (hc:c = 0):firstF [a,b,c,d] = d:=by
  subst ha hb hc
  by_cases h:d = 0
  · subst h;rfl
  · simp [firstF,h]
set_option maxHeartbeats 1000000 in
theorem brk_c {b:Br} {sv cv xv:Value} {w:World} (h1:Rd w sv 4 (spsL b.sp)) (h2:Rd w cv 1 (ints b.cm)) (h3:Rd w xv 2 (prsL b.ex)) :
    GivesV Tryz.prog 67 [.agg #[.int .i64 b.n,sv,cv,xv]] w (.int .i64 (brE b)):=by
  have h2':=h2
  have h3':=h3
  obtain ⟨a,cap,bb,o,rfl,hcap,hmax,ha,hc⟩:=h1
  obtain ⟨a2,cap2,bb2,o2,rfl,hcap2,hmax2,ha2,hc2⟩:=h2
  obtain ⟨a3,cap3,bb3,o3,rfl,hcap3,hmax3,ha3,hc3⟩:=h3
  rw [spsL_length] at *
  rw [ints_length] at *
  rw [prsL_length] at *
  unfold maxLen at hmax hmax2 hmax3
  refine givesV_of_tr Tryz.func67 rfl rfl ?_
  (refine s_r ?_;refine tr_new (rk_box (.of rfl) rfl) rfl (fun _ _=>?_);refine a_s rfl rfl ?_;refine n_t ?_;refine tr_seq ?_;refine tr_seq ?_)
  with_reducible refine tr_draw 18 (by kernel_rfl) ?_
  (refine a_f rfl rfl norm0_ ?_;refine any_val (rk_load1 (.of rfl) (At.lit .here rfl)) rfl ?_;refine any_call (rk_call (.of rfl) (.cons (.of rfl) (.cons (.of rfl) (.cons (.of rfl) .nil))) inferInstance normc_) rfl (fun w' hm'=>(within_c _ 0 100000 w')) ?_;refine a_f rfl rfl norm0_ ?_;refine any_val (rk_load1 (.of rfl) (At.lit .here rfl)) rfl ?_;refine any_val (rk_len_slice (.of rfl)) rfl ?_;refine any_val (rk_gtr (.of rfl) (.of rfl)) rfl ?_;refine any_call (rk_call (.of rfl) (.cons (.of rfl) (.cons (.of rfl) .nil)) inferInstance normc_) rfl (fun w' hm'=>(when_c _ 5 w')) ?_;refine a_f rfl rfl norm0_ ?_;refine any_val (rk_load1 (.of rfl) (At.lit .here rfl)) rfl ?_;refine any_val (rk_len_slice (.of rfl)) rfl ?_;refine any_val (rk_gtr (.of rfl) (.of rfl)) rfl ?_;refine any_call (rk_call (.of rfl) (.cons (.of rfl) (.cons (.of rfl) .nil)) inferInstance normc_) rfl (fun w' hm'=>(when_c _ 5 w')) ?_;refine a_f rfl rfl norm0_ ?_;refine any_val (rk_load1 (.of rfl) (At.lit .here rfl)) rfl ?_;refine any_val (rk_len_slice (.of rfl)) rfl ?_;refine any_val (rk_gtr (.of rfl) (.of rfl)) rfl ?_;refine any_call (rk_call (.of rfl) (.cons (.of rfl) (.cons (.of rfl) .nil)) inferInstance normc_) rfl (fun w' hm'=>(when_c _ 5 w')) ?_)
  with_reducible refine any_end ?_
  (refine tr_new (rk_sliceLit (.cons (.of rfl) (.cons (.of rfl) (.cons (.of rfl) (.cons (.of rfl) .nil)))) rfl rfl rfl rfl) rfl (fun _ _=>?_);refine tr_callV (rk_call (.of rfl) (.cons (.of rfl) .nil) inferInstance normc_) rfl (fun w' hm'=>(first_pB (Mem.rdBlk hm' .here rfl rfl) (IntL.cons (IntL.cons (IntL.cons (IntL.cons IntL.nil)))))) ?_;refine a_s rfl rfl ?_;refine n_r ?_;refine m_v rfl rfl ?_;refine tr_val (rk_neq (.of rfl) (.of rfl)) rfl ?_;refine n_t ?_;refine c_d rfl (fun hcd=>?_) (fun hcd=>?_);refine s_r ?_;refine m_v rfl rfl ?_;refine a_s rfl rfl ?_;refine n_t ?_;refine r_t ?_;refine tr_retE rfl (ends1 rfl rfl) ?_;rotate_left;refine s_t ?_;refine s_r ?_;refine tr_val (rk_makeFunc' .nil (.cons (.of rfl) .nil)) rfl ?_;refine tr_new (rk_alloc rfl) rfl (fun _ _=>?_);refine tr_store (.of rfl) (.of rfl) .here rfl rfl (okc_cons rfl okc_nil) (lenb rfl) norm_ ?_;refine n_r ?_;rotate_right)
  · have hne:br0 b ≠ 0:=hcd
    have hE:brE b = br0 b:=by simp [brE,firstF,hne]
    rw [hE];rfl
  have hz0:br0 b = 0:=Decidable.not_not.1 hcd
  have hz1:=hz0
  unfold br0 at hz1
  rw [firstF_zero] at hz1
  simp only [List.mem_cons,List.not_mem_nil,or_false,forall_eq_or_imp,forall_eq] at hz1
  rw [whenF_zero (by decide),whenF_zero (by decide),whenF_zero (by decide)] at hz1
  simp only [decide_eq_false_iff_not] at hz1
  have hl8:b.sp.length ≤ 8:=by omega
  have hm8:b.cm.length ≤ 8:=by omega
  have hx16:b.ex.length ≤ 16:=by omega
  rename_i b1 hb1 bq hbq b4 hb4
  refine tr_makeMapS rfl ?_
  intro bm hbm
  (refine a_s rfl rfl ?_;refine n_t ?_;refine tr_seq ?_;refine s_r ?_;refine f_a rfl rfl norm0_ ?_;refine tr_val (rk_load1 (.of rfl) (At.lit (.there (.there (.there .here))) rfl)) rfl ?_;refine tr_val (rk_len_slice (.of rfl)) rfl ?_;refine m_v rfl rfl ?_;refine n_t ?_;refine tr_block ?_)
  refine tr_for (ι:=Nat × List (ByteArray × Value)) (fun x=>x.1 ≤ b.sp.length ∧ (∀ i,i < x.1 → spE b i = 0) ∧ ∀ s,(alook s x.2).getD (.bool false) = .bool (knwS b.sp x.1 s))
    (fun x=>[(38,.int .i64 x.1),(37,.int .i64 b.sp.length),(36,.slice a b.sp.length cap),(5,.map (some bm)),(1,.pointer (some ⟨b1,0,none⟩)),(4,.pointer (some ⟨b4,0,none⟩))])
    (fun x=>[mp (fun s:ByteArray=>Value.string s) bm x.2,blk b1 (.cells #[.int .i64 b.n,.slice a b.sp.length cap,.slice a2 b.cm.length cap2,.slice a3 b.ex.length cap3] 91 (0,0)),blk b4 (.cells #[.func (.func 144) #[] #[.pointer (some ⟨b1,0,none⟩)]] 197 (0,0))]) (fun x=>b.sp.length - x.1) ?_ ?_
  · apply tr_start (0,[]) ⟨Nat.zero_le _,fun i h=>by omega,fun s=>rfl⟩
    case hs1=>exact .cons rfl (.cons rfl (.cons rfl (.cons rfl (.cons rfl (.cons rfl .nil)))))
    case ht=>(try simp only [List.take_zero,List.map_nil,List.nil_append]);exact .cons .here (.cons (.there (.there .here)) (.cons .here .nil))
  rintro ⟨k,l⟩ ⟨hk,hf,hm⟩
  dsimp only at hk hf hm ⊢
  by_cases hlt:k < b.sp.length
  · have ha':=ha (spsL_ne hlt)
    have hcell:=(hc k _ (spsL_get hlt)).2
    have hmk:=hm (nthS b.sp k).nm
    unfold Sp.cells at hcell
    (refine s_r ?_;refine tr_val (rk_lss (.of rfl) (.of rfl)) rfl ?_;refine n_t ?_;refine tr_seq ?_;refine c_d rfl (fun hcd=>?_) (fun _=>by omega);refine s_t ?_;refine tr_seq ?_;refine tr_block ?_;refine s_r ?_;refine tr_val (rk_indexAddr (.of rfl) (.of rfl) ha' (by omega) hcd norm1_) rfl ?_;refine tr_val (rk_loadN (.of rfl) (Ats.base hcell rfl) rfl) rfl ?_;refine tr_new (rk_alloc rfl) rfl (fun _ _=>?_);refine tr_store (.of rfl) (.of rfl) .here rfl rfl (okc_cons rfl (okc_cons rfl (okc_cons rfl (okc_cons rfl okc_nil)))) (lenb rfl) norm_ ?_;refine n_t ?_;refine tr_seq ?_;refine tr_seq ?_)
    with_reducible refine tr_draw 18 (by kernel_rfl) ?_
    (refine a_f rfl rfl norm0_ ?_;refine any_val (rk_load1 (.of rfl) (At.lit .here rfl)) rfl ?_;refine any_call (rk_call (.of rfl) (.cons (.of rfl) .nil) inferInstance normc_) rfl (fun w' hm'=>(nm_p _ w')) ?_;refine a_m rfl rfl ?_;refine a_f rfl rfl norm0_ ?_;refine any_val (rk_load1 (.of rfl) (At.lit .here rfl)) rfl ?_;refine any_val (rk_lookup keyS (.of rfl) (.of rfl) (Looks.mp (.there .here))) rfl ?_)
    rw [hmk]
    (refine any_call (rk_call (.of rfl) (.cons (.of rfl) (.cons (.of rfl) .nil)) inferInstance normc_) rfl (fun w' hm'=>(when_c _ 9 w')) ?_;refine any_val (rk_load1 (.of rfl) (At.lit (.there (.there (.there .here))) rfl)) rfl ?_;refine a_f rfl rfl norm0_ ?_;refine any_val (rk_load1 (.of rfl) (At.lit .here rfl)) rfl ?_;refine any_call (rk_call (.of rfl) (.cons (.of rfl) .nil) inferInstance normc_) rfl (fun w' hm'=>(camp_c _ (At.lit (.there (.there .here)) rfl w' hm') (by omega))) ?_;refine a_f rfl rfl norm0_ ?_;refine any_val (rk_load1 (.of rfl) (At.lit .here rfl)) rfl ?_;refine any_call (rk_call (.of rfl) (.cons (.of rfl) (.cons (.of rfl) (.cons (.of rfl) .nil))) inferInstance normc_) rfl (fun w' hm'=>(within_c _ 1 100000 w')) ?_;refine a_f rfl rfl norm0_ ?_;refine any_val (rk_load1 (.of rfl) (At.lit .here rfl)) rfl ?_;refine any_call (rk_call (.of rfl) (.cons (.of rfl) (.cons (.of rfl) (.cons (.of rfl) .nil))) inferInstance normc_) rfl (fun w' hm'=>(within_c _ 0 1000000 w')) ?_)
    with_reducible refine any_end ?_
    (refine tr_new (rk_sliceLit (.cons (.of rfl) (.cons (.of rfl) (.cons (.of rfl) (.cons (.of rfl) (.cons (.of rfl) .nil))))) rfl rfl rfl rfl) rfl (fun _ _=>?_);refine tr_callV (rk_call (.of rfl) (.cons (.of rfl) .nil) inferInstance normc_) rfl (fun w' hm'=>(first_pB (Mem.rdBlk hm' .here rfl rfl) (IntL.cons (IntL.cons (IntL.cons (IntL.cons (IntL.cons IntL.nil))))))) ?_;refine a_s rfl rfl ?_;refine n_r ?_;refine m_v rfl rfl ?_;refine tr_val (rk_neq (.of rfl) (.of rfl)) rfl ?_;refine n_t ?_;refine c_d rfl (fun hcd=>?_) (fun hcd=>?_);refine s_r ?_;refine m_v rfl rfl ?_;refine a_s rfl rfl ?_;refine n_t ?_;refine r_t ?_;refine tr_blk_ret ?_;refine tr_then_ret ?_;refine tr_then_ret ?_;refine tr_blk_ret ?_;refine tr_then_ret ?_;refine tr_retE rfl (ends1 rfl rfl) ?_;rotate_left;refine s_t ?_;refine tr_region ?_;refine m_v rfl rfl ?_;refine f_a rfl rfl norm0_ ?_;refine tr_val (rk_load1 (.of rfl) (At.lit (.there .here) rfl)) rfl ?_;rotate_right)
    · have hne:spE b k ≠ 0:=hcd
      have hb:errE (spE b) b.sp.length = spE b k:=errE_bad hf hlt hne
      have hE:brE b = spE b k:=by rw [brE,hz0,hb];simp [firstF,hne]
      rw [hE];rfl
    · have hz:spE b k = 0:=Decidable.not_not.1 hcd
      refine tr_mapUpdate keyS (.of rfl) (.of rfl) (.of rfl) (.there (.there .here)) ?_
      (refine tr_nil ?_;refine tr_blk_normal ?_;refine tr_then ?_;refine tr_region ?_;refine tr_val (rk_add (.of rfl) (.of rfl) (ini (by omega))) rfl ?_;refine m_v rfl rfl ?_;refine n_t ?_)
      have hm2:∀ s,(alook s (aset (nthS b.sp k).nm (.bool true) l)).getD (.bool false) = .bool (knwS b.sp (k + 1) s):=by
        intro s
        rw [alook_aset,knwS_succ]
        by_cases e:s = (nthS b.sp k).nm
        · simp [e]
        · have e':¬ (nthS b.sp k).nm = s:=fun h=>e h.symm
          rw [if_neg e,hm];simp [e']
      apply tr_next (k + 1,aset (nthS b.sp k).nm (.bool true) l) ⟨by show k + 1 ≤ b.sp.length;omega,fun i hi=>by
        by_cases e:i = k
        · rw [e];exact hz
        · exact hf i (by omega),hm2⟩ (by show b.sp.length - (k + 1) < b.sp.length - k;omega)
      case hs1=>exact .cons rfl (.cons rfl (.cons rfl (.cons rfl (.cons rfl (.cons rfl .nil)))))
      case ht=>exact .cons .here (.cons (.there (.there .here)) (.cons (.there (.there .here)) .nil))
  · obtain rfl:k = b.sp.length:=by omega
    have hz2:errE (spE b) b.sp.length = 0:=errE_ok.2 hf
    (refine s_r ?_;refine tr_val (rk_lss (.of rfl) (.of rfl)) rfl ?_;refine n_t ?_;refine tr_seq ?_;refine c_d rfl (fun _=>by omega) (fun hcd=>?_);refine x_t ?_;refine tr_then_exit ?_;refine tr_blk_exit ?_;refine tr_then ?_;refine tr_seq ?_;refine s_r ?_;refine f_a rfl rfl norm0_ ?_;refine tr_val (rk_load1 (.of rfl) (At.lit (.there .here) rfl)) rfl ?_)
    with_reducible apply tr_call
    case hr=>exact rk_call (.of rfl) (.cons (.of rfl) (.cons (.of rfl) .nil)) inferInstance normc_
    case hd=>rfl
    case ht=>exact Takes.nil
    case hc=>
      intro w1 fp hm1 _ hs1
      obtain rfl:fp = []:=hs1
      refine mapInt (f:=146) (first:=[]) (cap:=[]) (img:=b.cm.map fewF) (h2'.keeps hm1.keeps) rfl (by rw [lenV,ints_length]) (by rw [ints_length];omega) (ints_one _) ?_
      intro i r e hr he w' hk'
      simp only [ints,List.getElem?_map,Option.map_eq_some_iff] at hr he
      obtain ⟨x,hx,rfl⟩:=hr
      obtain ⟨y,hy,rfl⟩:=he
      rw [hx] at hy;cases hy
      exact few_c x w'
    intro v _
    dsimp only [id_eq,List.cons_append,List.nil_append]
    with_reducible apply tr_callV
    case hr=>exact rk_call (.of rfl) (.cons (.of rfl) .nil) inferInstance normc_
    case hd=>rfl
    case hc=>
      intro w' hm'
      exact first_pB (Mem.rdRow1 hm' (by exact .here) (by rw [lenV,lenV,ints_length])) (IntL.map _)
    (refine a_s rfl rfl ?_;refine n_r ?_;refine m_v rfl rfl ?_;refine tr_val (rk_neq (.of rfl) (.of rfl)) rfl ?_;refine n_t ?_;refine c_d rfl (fun hcd=>?_) (fun hcd=>?_);refine s_r ?_;refine m_v rfl rfl ?_;refine a_s rfl rfl ?_;refine n_t ?_;refine r_t ?_;refine tr_retE rfl (ends1 rfl rfl) ?_;rotate_left;refine s_t ?_;refine s_r ?_;refine f_a rfl rfl norm0_ ?_;refine tr_val (rk_load1 (.of rfl) (At.lit (.there (.there .here)) rfl)) rfl ?_;refine tr_val (rk_makeFunc' .nil (.cons (.of rfl) .nil)) rfl ?_;rotate_right)
    · have hne:firstF (b.cm.map fewF) ≠ 0:=hcd
      have hE:brE b = firstF (b.cm.map fewF):=by
        rw [brE,hz0,hz2];generalize firstF (b.cm.map fewF) = q at hne;simp [firstF,hne]
      rw [hE]
    have hz3:firstF (b.cm.map fewF) = 0:=Decidable.not_not.1 hcd
    have hE:brE b = firstF (b.ex.map (prE b.cm.length)):=by rw [brE];exact firstF4 _ _ _ _ hz0 hz2 hz3
    rw [hE]
    with_reducible apply tr_call
    case hr=>exact rk_call (.of rfl) (.cons (.of rfl) (.cons (.of rfl) .nil)) inferInstance normc_
    case hd=>rfl
    case ht=>exact Takes.nil
    case hc=>
      intro w1 fp hm1 _ hs1
      obtain rfl:fp = []:=hs1
      refine mapPr (f:=148) (first:=[]) (cap:=[.pointer (some ⟨b4,0,none⟩)]) (img:=b.ex.map (prE b.cm.length)) (h3'.keeps hm1.keeps) rfl (by rw [lenV,prsL_length]) (by rw [prsL_length];omega) (prsL_one _) ?_
      intro i r e hr he w' hk'
      have hm':=hm1.keepsOn hk'
      simp only [prsL,List.getElem?_map,Option.map_eq_some_iff] at hr he
      obtain ⟨x,hx,rfl⟩:=hr
      obtain ⟨y,hy,rfl⟩:=he
      rw [hx] at hy;cases hy
      exact prC_c x ((At.lit (by exact Take.there (.there (.there .here))) (by exact rfl) _ hm')) ((At.lit (by exact Take.there (.there .here)) (by exact rfl) _ hm')) (by omega)
    intro v2 _
    dsimp only [id_eq,List.cons_append,List.nil_append]
    with_reducible apply tr_callV
    case hr=>exact rk_call (.of rfl) (.cons (.of rfl) .nil) inferInstance normc_
    case hd=>rfl
    case hc=>
      intro w' hm'
      exact first_pB (Mem.rdRow1 hm' (by exact .here) (by rw [lenV,lenV,prsL_length])) (IntL.map _)
    (refine a_s rfl rfl ?_;refine n_t ?_;refine tr_ret ?_;refine tr_retE rfl (ends1 rfl rfl) ?_)
    rfl
end Go.Proofs.A1
namespace Go.SL
open Go
theorem flat_cells {w:World} {b sz:Nat}:∀ {xs:List (List Value)} {o:Nat},(∀ i r,xs[i]? = some r → r.length = sz ∧ ∀ j u,r[j]? = some u → w.cell? ⟨b,o + i * sz + j,none⟩ = some u) → ∀ (k:Nat) u,xs.flatten[k]? = some u → w.cell? ⟨b,o + k,none⟩ = some u
  | [],o,_,k,u,hu=>by simp at hu
  | x :: xs, o, h, k, u, hu => by
    obtain ⟨hl,h0⟩:=h 0 x rfl
    rw [List.flatten_cons,List.getElem?_append] at hu
    split at hu
    · have:=h0 k u hu
      rwa [Nat.zero_mul,Nat.add_zero] at this
    · rename_i hk
      have ih:=flat_cells (xs:=xs) (o:=o + sz) (fun i r hr=>⟨(h (i + 1) r (by simpa using hr)).1,fun j v hv=>by
        have:=(h (i + 1) r (by simpa using hr)).2 j v hv
        rwa [Nat.succ_mul,show o + (i * sz + sz) + j = o + sz + i * sz + j by omega] at this⟩) (k - x.length) u hu
      rwa [hl,show o + sz + (k - sz) = o + k by omega] at ih
theorem flat_len {sz:Nat}:∀ {xs:List (List Value)},(∀ r ∈ xs,r.length = sz) → xs.flatten.length = xs.length * sz
  | [],_=>by simp
  | x :: xs, h => by
    rw [List.flatten_cons,List.length_append,flat_len (fun r hr=>h r (by simp [hr])),h x (by simp),List.length_cons,Nat.succ_mul,Nat.add_comm]
theorem Rd.sz {w:World} {v:Value} {sz:Nat} {xs:List (List Value)} (h:Rd w v sz xs):∀ r ∈ xs,r.length = sz:=by
  obtain ⟨a,cap,b,o,rfl,h1,h2,h3,h4⟩:=h
  intro r hr
  obtain ⟨i,hi,rfl⟩:=List.getElem_of_mem hr
  exact (h4 i _ (List.getElem?_eq_getElem hi)).1
section
variable {P:Program} {r:Option Nat} {c:Cx} {D:List Nat} {sl:Slots} {hs hs':List Asn} {ops:Array Oper} {Q:Exit → Act → World → Prop} {d:Nat} {ty:TypeId} {pos:String} {af:Array Edge} {rest:List Oper}
theorem src_ats {V:Value} {sz:Nat} {xs:List (List Value)} {b o cap:Nat} (hsrc:∀ w,Mem c hs w → Rd w V sz xs) (hne:xs ≠ []) (hV:V = .slice (some ⟨b,o,none⟩) xs.length cap):Ats c hs b o xs.flatten:=by
  refine Ats.of_get fun j u hu w hm=>?_
  obtain ⟨a',cap',b',o',e',_,_,ha',hc'⟩:=hsrc w hm
  rw [hV] at e'
  simp only [Value.slice.injEq] at e'
  obtain ⟨e1,_,_⟩:=e'
  have:=ha' hne
  rw [← e1] at this
  simp only [Option.some.injEq,Addr.mk.injEq,and_true] at this
  obtain ⟨rfl,rfl⟩:=this
  exact flat_cells hc' j u hu
theorem run_append0 {t e:TypeId} {w:World} {v:Value} {agg:Bool} {size:Nat} [hu:Und P t (.slice e)] [hT:Ty P e agg size] {a:Option Addr} {cp n:Nat} (hv:(v = .slice none 0 0 ∧ n = 0) ∨ ∃ g cap,v = .slice (some ⟨g,0,none⟩) n cap ∧ n ≤ cap) :
    (Builtin.append_ #[t,t] ty #[v,.slice a 0 cp]).run P w = .ok v w:=by
  obtain ⟨de,i,hde,hi,_,hsize⟩:=Ty.parts (P:=P) (t:=e) (agg:=agg) (n:=size)
  rcases hv with ⟨rfl,rfl⟩ | ⟨g,cap,rfl,hc⟩
  · cases a <;> simp [Builtin.append_,rk_underlying hu.eq,sizeOf,typeInfo,hi,Builtin.lenOf,Builtin.firstCells,loadCells,loadCellsFrom]
  · cases a <;> simp [Builtin.append_,rk_underlying hu.eq,sizeOf,typeInfo,hi,Builtin.lenOf,Builtin.firstCells,loadCells,loadCellsFrom,hc,storeCells]
theorem tr_appendR {t e:TypeId} {agg:Bool} {size bytes:Nat} {z:Value} {x y:Operand} {v V:Value} {n:Nat} {xs:List Value} {news:List (List Value)} [hu:Und P t (.slice e)] [hT:Ty P e agg size] [hZ:Zer P e z] [hB:Byt P e bytes]
    (hx:Is sl x v) (hy:Is sl y V) (ht:Take hs (row e size v n xs) hs') (hsrc:∀ w,Mem c hs w → Rd w V size news) (h1:∀ r ∈ news,∀ u ∈ r,u.oneCell' = true) (hz:z.cells.size = size) (hsz:Nat.blt 0 size = true) (hb0:Nat.blt 0 bytes = true)
    (hb:(n + news.length) * bytes ≤ 140737488355328) (hd:Nat.blt d c.nt = true)
    (k:∀ v',Tr c D ((d,v') :: sl) (row e size v' (n + news.length) (xs++news.flatten) :: hs') (WL P r ops Q rest)) :
    Tr c D sl hs (WL P r ops Q (⟨some d,.call ⟨.builtin .append,#[x,y],#[t,t]⟩,ty,pos,af,none⟩ :: rest)):=fun a w hst=>by
  have hR:=hsrc w hst.mem'
  have hlen:=flat_len hR.sz
  by_cases hne:news = []
  · subst hne
    obtain ⟨aa,cap,b,o,rfl,_⟩:=hR
    have hm:=hst.mem.take (ht.append _)
    have hrow:(v = .slice none 0 0 ∧ n = 0) ∨ ∃ g cap,v = .slice (some ⟨g,0,none⟩) n cap ∧ n ≤ cap:=by
      obtain ⟨_,fp,_,⟨f1,f2,_,⟨_,_,h1⟩,_⟩,_⟩:=hm
      exact h1.imp id fun ⟨g,cap,cur,e,_,hc,_⟩=>⟨g,cap,e,hc⟩
    refine wl_op rfl ⟨fr_about _ _ _ _ _,?_⟩
    rw [Oper.semAt_eq _ _ _ (by simp)]
    have:(execOp a.eval ⟨some d,.call ⟨.builtin .append,#[x,y],#[t,t]⟩,ty,pos,af,none⟩).run P w = .ok (.value v) w:=by
      have:=run_append0 (P:=P) (t:=t) (e:=e) (ty:=ty) (w:=w) (agg:=agg) (size:=size) (a:=aa) (cp:=cap) hrow
      simp only [List.length_nil] at hy
      simp [execOp,resolve,invoke,builtin,hx a hst.slots,hy a hst.slots,this]
    rw [this]
    have k2:=k v
    simp only [List.length_nil,Nat.add_zero,List.flatten_nil,List.append_nil] at k2
    exact k2 _ _ ((hst.put (by simpa [Nat.blt_eq] using hd) v).heap hm)
  · obtain ⟨aa,cap,b,o,hV,hcap,hmax,ha,hc⟩:=hR
    have:=ha hne
    subst this
    rw [hV] at hy
    exact tr_append hx hy ht (src_ats hsrc hne hV) hlen (fun u hu=>by obtain ⟨r,hr,hur⟩:=List.mem_flatten.1 hu;exact h1 r hr u hur) hz hsz hb0 hb hd k a w hst
theorem tr_copyR {t t2 e:TypeId} {agg:Bool} {size:Nat} {x y:Operand} {V:Value} {g n cap:Nat} {E:TypeId} {cs:List Value} {news:List (List Value)} [hu:Und P t (.slice e)] [hT:Ty P e agg size]
    (hx:Is sl x (.slice (some ⟨g,0,none⟩) n cap)) (hy:Is sl y V) (ht:Take hs (blk g (.cells cs.toArray E (0,0))) hs') (hsrc:∀ w,Mem c hs w → Rd w V size news) (h1:∀ r ∈ news,∀ u ∈ r,u.oneCell' = true) (hfit:n * size ≤ cs.length) (hd:Nat.blt d c.nt = true)
    (k:Tr c D ((d,.int .i64 (Nat.min news.length n:Nat)) :: sl) (blk g (.cells (setCells cs 0 (news.take n).flatten).toArray E (0,0)) :: hs') (WL P r ops Q rest)) :
    Tr c D sl hs (WL P r ops Q (⟨some d,.call ⟨.builtin .copy,#[x,y],#[t,t2]⟩,ty,pos,af,none⟩ :: rest)):=fun a w hst=>by
  have hR:=hsrc w hst.mem'
  obtain ⟨de,i,hde,hi,_,hsize⟩:=Ty.parts (P:=P) (t:=e) (agg:=agg) (n:=size)
  have hlen:(news.take n).flatten.length = Nat.min news.length n * size:=by
    rw [flat_len (fun r hr=>hR.sz r (List.mem_of_mem_take hr)),List.length_take]
    show min n news.length * size = min news.length n * size
    rw [Nat.min_comm]
  have hle:Nat.min news.length n ≤ n:=Nat.min_le_right _ _
  have hm:=hst.mem.take (ht.append _)
  have hg:w.heap[g]? = some (.cells cs.toArray E (0,0)):=hm.blk .here
  obtain ⟨w',h3,h4,h5⟩:=rk_storeCells (P:=P) (o:=0) (news.take n).flatten 0 cs w hg (fun u hu=>by
    obtain ⟨r,hr,hur⟩:=List.mem_flatten.1 hu
    exact h1 r (List.mem_of_mem_take hr) u hur) (by
    rw [hlen]
    have:Nat.min news.length n * size ≤ n * size:=Nat.mul_le_mul_right _ hle
    omega)
  have hload:(Builtin.firstCells size (Nat.min news.length n) V).run P w = .ok (news.take n).flatten.toArray w:=by
    obtain ⟨aa,cap2,b,o,hV,hcap2,hmax,ha,hc⟩:=hR
    subst hV
    by_cases hne:news = []
    · subst hne
      cases aa <;> simp [Builtin.firstCells,loadCells,loadCellsFrom]
    · have:=ha hne
      subst this
      simp only [Builtin.firstCells]
      refine rk_loadCells hlen fun j u hu=>?_
      refine flat_cells (sz:=size) (xs:=news.take n) (fun i r hr=>?_) j u hu
      rw [List.getElem?_take] at hr
      split at hr
      · exact hc i r hr
      · cases hr
  have hlenV:(Builtin.lenOf V).run P w = .ok news.length w:=by
    obtain ⟨aa,cap2,b,o,hV,_⟩:=hR
    subst hV
    rfl
  refine wl_op rfl ⟨fr_about _ _ _ _ _,?_⟩
  rw [Oper.semAt_eq _ _ _ (by simp)]
  have:(execOp a.eval ⟨some d,.call ⟨.builtin .copy,#[x,y],#[t,t2]⟩,ty,pos,af,none⟩).run P w = .ok (.value (.int .i64 (Nat.min news.length n:Nat))) w':=by
    simp [execOp,resolve,invoke,builtin,hx a hst.slots,hy a hst.slots,Builtin.copy_,rk_underlying hu.eq,hlenV,sizeOf,typeInfo,hi,hsize,hload,h3,goInt]
  rw [this]
  have hm2:=Mem.store hm h4 h5
  rw [show (0 + 0:Nat) = 0 from rfl] at hm2
  exact k _ _ ((hst.put (by simpa [Nat.blt_eq] using hd) _).heap hm2)
theorem tr_appendZ {t tn e:TypeId} {kn:IntKind} {agg:Bool} {size bytes m:Nat} {z:Value} {x y:Operand} [hu:Und P t (.slice e)] [hun:Und P tn (.int kn)] [hT:Ty P e agg size] [hZ:Zer P e z] [hB:Byt P e bytes]
    (hx:Is sl x (.slice none 0 0)) (hy:Is sl y (.int .i64 m)) (h0:0 < m) (hz:z.cells.size = size) (hsz:Nat.blt 0 size = true) (hb0:Nat.blt 0 bytes = true) (hb:m * bytes ≤ 140737488355328) (hd:Nat.blt d c.nt = true)
    (k:∀ v',Tr c D ((d,v') :: sl) (row e size v' m (Builtin.zeroCells z.cells m).toList :: hs) (WL P r ops Q rest)) :
    Tr c D sl hs (WL P r ops Q (⟨some d,.call ⟨.builtin .append,#[x,y],#[t,tn]⟩,ty,pos,af,none⟩ :: rest)):=fun a w hst=>by
  obtain ⟨de,i,hde,hi,_,hsize⟩:=Ty.parts (P:=P) (t:=e) (agg:=agg) (n:=size)
  have hzero:i.zero = some z:=by have:=hZ.eq;rw [hi] at this;simpa using this
  have hbytes:i.bytes = bytes:=by have:=hB.eq;rw [hi] at this;simpa using this
  have hs0:0 < size:=by simpa [Nat.blt_eq] using hsz
  have hb0':0 < bytes:=by simpa [Nat.blt_eq] using hb0
  have hm1:m * 1 ≤ m * bytes:=Nat.mul_le_mul_left _ hb0'
  have hrun:=Lib.run_append_grow_zeros (P:=P) w t tn ty e i z .i64 kn hu.eq hun.eq hi hzero none 0 0 [] (by simp [Builtin.firstCells]) m h0 (by omega) (by omega) (by omega) (by rw [hbytes];omega) (growslice_fits (by omega) (by rw [hbytes];simpa using hb))
  simp only [Nat.zero_add] at hrun
  have hge:=grownCap_ge w m 0 e
  have hle:=grownCap_le_maxLen w m 0 e (by unfold maxLen;omega)
  refine wl_op rfl ⟨fr_about _ _ _ _ _,?_⟩
  rw [Oper.semAt_eq _ _ _ (by simp)]
  generalize grownCap w m 0 e = G at hrun hge hle
  have:(execOp a.eval ⟨some d,.call ⟨.builtin .append,#[x,y],#[t,tn]⟩,ty,pos,af,none⟩).run P w = .ok (.value (.slice (some ⟨w.heap.size,0,none⟩) m G)) (w.drew.alloc (.cells (#[]++Builtin.zeroCells z.cells m++Builtin.zeroCells z.cells (G - m)) e)):=by
    simp [execOp,resolve,invoke,builtin,hx a hst.slots,hy a hst.slots,hrun]
  rw [this]
  have hsize0:∀ q,(Builtin.zeroCells z.cells q).size = q * size:=fun q=>by rw [size_zeroCells,hz]
  have hm2:=(hst.mem.drew.alloc (.cells (#[]++Builtin.zeroCells z.cells m++Builtin.zeroCells z.cells (G - m)) e (0,0)))
  refine k _ _ _ ((hst.put (by simpa [Nat.blt_eq] using hd) _).heap ?_)
  obtain ⟨kk,fp,hn,⟨f1,f2,rfl,⟨e1,h1⟩,h2⟩,hfb⟩:=hm2
  refine ⟨kk,f1++f2,hn,⟨f1,f2,rfl,⟨by rw [e1];rfl,by simp [hsize0],.inr ⟨w.heap.size,G,_,rfl,h1,hge,hle,?_,?_⟩⟩,h2⟩,hfb⟩
  · simp only [Array.size_append,hsize0]
    simp only [Array.size_empty,Nat.zero_add,← Nat.add_mul]
    congr 1;omega
  · simp only [Array.toList_append,Array.toList_empty,List.nil_append]
    rw [List.take_left' (by rw [Array.length_toList,hsize0])]
theorem rk_sliceLit0 {dst:Option Tmp} {g:Option (Nat × Bool)} {t e:TypeId} {agg:Bool} {size:Nat} [hu:Und P t (.slice e)] [hT:Ty P e agg size] :
    RunN P c sl hs ⟨dst,.buildSlice t 0 #[],ty,pos,af,g⟩ (fun b=>.slice (some ⟨b,0,none⟩) 0 0) (.cells #[] e):=
  rk_buildSlice (ps:=#[]) (fun a _=>by simp) fun w=>by
    unfold Instr.buildSlice
    simp only [Sem.run_bind,rk_underlying hu.eq,Result.andThen_ok,rk_sizeOf (t:=e) (agg:=agg) (n:=size),Nat.zero_mul]
    simp [Instr.fill,newRow,show Array.range 0 = #[] from rfl]
theorem rk_cap_slice {dst:Option Tmp} {g:Option (Nat × Bool)} {t e:TypeId} {x:Operand} {a:Option Addr} {n cp:Nat} [hu:Und P t (.slice e)] (hx:Is sl x (.slice a n cp)) :
    RunV P c sl hs ⟨dst,.call ⟨.builtin .cap,#[x],#[t]⟩,ty,pos,af,g⟩ (.int .i64 cp):=
  ⟨by simp,fun ac w ha _=>by simp [execOp,hx ac ha,resolve,invoke,builtin,Builtin.cap_,rk_underlying hu.eq,goInt]⟩
theorem sliced_zero (g cap sz:Nat):Go.sliced (some ⟨g,0,none⟩) 0 0 cap sz = .slice (some ⟨g,0,none⟩) 0 cap:=by
  unfold Go.sliced
  by_cases h:cap = 0
  · rw [if_pos h];simp
  · rw [if_neg h];simp [addr_add]
theorem setCells_pre:∀ (vs cs:List Value),vs.length ≤ cs.length → setCells cs 0 vs = vs++cs.drop vs.length:=by
  intro vs cs h
  apply List.ext_getElem?
  intro k
  rw [setCells_get _ _ _ _ (by omega),List.getElem?_append]
  by_cases hk:k < vs.length
  · rw [if_pos (by omega),if_pos hk,Nat.sub_zero]
  · rw [if_neg (by omega),if_neg hk,List.getElem?_drop]
    congr 1;omega
def relRd (sz:Nat) (rows:List (List Value)):Rel:=⟨fun v w=>Rd w v sz rows,fun h hk=>h.keeps hk⟩
theorem rd_of_gives {f:FuncId} {args:List Value} {w:World} {ι:Type} {Φ:ι → Prop} {val:ι → Value} {own:ι → List Asn} {E:TypeId} {sz n:Nat} {rows:List (List Value)} (h:Gives P f args w [] Φ val own) (ho:∀ x,own x = [row E sz (val x) n rows.flatten]) (hx:∀ r ∈ rows,r.length = sz) (hn:rows.length = n) :
    Calls P f args.toArray w fun e w'=>∃ v,e = .returned v ∧ Keeps [] w w' ∧ (relRd sz rows).p v w':=by
  refine Calls.mono h ?_
  rintro e w' ⟨x,he,_,hk,fp,hnd,hs,_⟩
  rw [ho x] at hs
  obtain ⟨f1,f2,_,h1,_⟩:=hs
  exact ⟨val x,he,hk,row_rd hx hn h1⟩
theorem any_callNR {rl:RSlots} {m:Nat} {op:Op} {f:FuncId} {t:Nat} {V:Nat → Value} {ob:Obj} {args:Nat → List Value} {R:Rel} (hm:(t,relNew V ob) ∈ rl) (ht:t ∈ Oper.looksAt ops ⟨some d,op,ty,pos,af,none⟩)
    (hr:∀ b,RunC P ((t,V b) :: sl) ⟨some d,op,ty,pos,af,none⟩ f (args b)) (hd:Nat.blt d c.nt = true) (hn:sget sl d = none)
    (hc:∀ b w,Mem c hs w → w.heap[b]? = some ob → Calls P f (args b).toArray w fun e w'=>∃ v,e = .returned v ∧ Keeps [] w w' ∧ R.p v w') (k:AnyT P r c D hs ops Q m rest sl ((d,R) :: rl)) :
    AnyT P r c D hs ops Q (m + 1) (⟨some d,op,ty,pos,af,none⟩ :: rest) sl rl:=
  any_stepR rfl hd hn (stepQ_of rfl fun a w h1 h2 h3=>by
    obtain ⟨v,hv,b,rfl,hb⟩:=h2 t _ hm ht
    have h1':SlotsOk ((t,V b) :: sl) a:=by
      intro t' v' hv'
      by_cases e:t = t'
      · subst e
        rw [sget_cons_eq] at hv'
        cases hv'
        exact hv
      · rw [sget_cons_ne e] at hv'
        exact h1 t' v' hv'
    unfold QRun
    rw [(hr b).2 a w h1']
    exact ⟨rfl,hc b w h3 hb⟩) k
theorem any_appendRR {rl:RSlots} {t e:TypeId} {agg:Bool} {size bytes:Nat} {z:Value} {x y:Nat} {n:Nat} {olds:List Value} {rows:List (List Value)} {E:TypeId} [hu:Und P t (.slice e)] [hT:Ty P e agg size] [hZ:Zer P e z] [hB:Byt P e bytes]
    (hx:(x,relNew (fun b=>.slice (some ⟨b,0,none⟩) n n) (.cells olds.toArray E (0,0))) ∈ rl) (hy:(y,relRd size rows) ∈ rl) (hne:rows ≠ []) (hl:olds.length = n * size) (h1:∀ r ∈ rows,∀ u ∈ r,u.oneCell' = true) (hz:z.cells.size = size) (hb0:Nat.blt 0 bytes = true)
    (hb:(n + rows.length) * bytes ≤ 140737488355328) (hd:Nat.blt d c.nt = true)
    (k:∀ v',Tr c D ((d,v') :: sl) (row e size v' (n + rows.length) (olds++rows.flatten) :: hs) (WL P r ops Q rest)) :
    AnyT P r c D hs ops Q 0 (⟨some d,.call ⟨.builtin .append,#[.tmp x,.tmp y],#[t,t]⟩,ty,pos,af,none⟩ :: rest) sl rl:=any_endR fun a w hst hrel=>by
  obtain ⟨de,i,hde,hi,_,hsize⟩:=Ty.parts (P:=P) (t:=e) (agg:=agg) (n:=size)
  have hzero:i.zero = some z:=by have:=hZ.eq;rw [hi] at this;simpa using this
  have hbytes:i.bytes = bytes:=by have:=hB.eq;rw [hi] at this;simpa using this
  have hb0':0 < bytes:=by simpa [Nat.blt_eq] using hb0
  obtain ⟨vx,hvx,bx,rfl,hbx⟩:=hrel x _ hx
  obtain ⟨vy,hvy,hR⟩:=hrel y _ hy
  have hsz:=Rd.sz hR
  obtain ⟨ay,capy,b,o,rfl,hcap,hmax,ha,hc⟩:=hR
  have:=ha hne
  subst this
  have hlen:=flat_len hsz
  have hpos:0 < rows.length:=List.length_pos_iff.2 hne
  have hm1:(n + rows.length) * 1 ≤ (n + rows.length) * bytes:=Nat.mul_le_mul_left _ hb0'
  have hex:a.eval (.tmp x) = .slice (some ⟨bx,0,none⟩) n n:=by simp [Act.eval,Array.getD_eq_getD_getElem?,hvx]
  have hey:a.eval (.tmp y) = .slice (some ⟨b,o,none⟩) rows.length capy:=by simp [Act.eval,Array.getD_eq_getD_getElem?,hvy]
  have hrun:=run_append_grow (P:=P) w t ty e i z hu.eq hi hzero ⟨bx,0,none⟩ n n olds (by rw [hsize];exact hl) (fun j v hv=>by
      rw [addr_add,cell_of_block hbx,Nat.zero_add];simpa using hv) ⟨b,o,none⟩ rows.length capy rows.flatten (by rw [hsize];exact hlen) (fun j v hv=>by
      rw [addr_add];exact flat_cells hc j v hv) (by omega) (by omega) (growslice_fits (by omega) (by rw [hbytes];exact hb))
  have hge:=grownCap_ge w (n + rows.length) n e
  have hle:=grownCap_le_maxLen w (n + rows.length) n e (by unfold maxLen;omega)
  refine wl_op rfl ⟨fr_about _ _ _ _ _,?_⟩
  rw [Oper.semAt_eq _ _ _ (by simp)]
  generalize grownCap w (n + rows.length) n e = G at hrun hge hle
  have:(execOp a.eval ⟨some d,.call ⟨.builtin .append,#[.tmp x,.tmp y],#[t,t]⟩,ty,pos,af,none⟩).run P w = .ok (.value (.slice (some ⟨w.heap.size,0,none⟩) (n + rows.length) G)) (w.drew.alloc (.cells (olds.toArray++rows.flatten.toArray++Builtin.zeroCells z.cells (G - (n + rows.length))) e)):=by
    simp [execOp,resolve,invoke,builtin,hex,hey,hrun]
  rw [this]
  have hsize0:∀ q,(Builtin.zeroCells z.cells q).size = q * size:=fun q=>by rw [size_zeroCells,hz]
  have hm2:=(hst.mem.drew.alloc (.cells (olds.toArray++rows.flatten.toArray++Builtin.zeroCells z.cells (G - (n + rows.length))) e (0,0)))
  refine k _ _ _ ((hst.put (by simpa [Nat.blt_eq] using hd) _).heap ?_)
  obtain ⟨kk,fp,hn',⟨f1,f2,rfl,⟨e1,h1'⟩,h2⟩,hfb⟩:=hm2
  have hlo:(olds++rows.flatten).length = (n + rows.length) * size:=by rw [List.length_append,hl,hlen,Nat.add_mul]
  refine ⟨kk,f1++f2,hn',⟨f1,f2,rfl,⟨by rw [e1];rfl,hlo,.inr ⟨w.heap.size,G,_,rfl,h1',hge,hle,?_,?_⟩⟩,h2⟩,hfb⟩
  · simp only [Array.size_append,hsize0,List.size_toArray]
    rw [← List.length_append,hlo,← Nat.add_mul]
    congr 1;omega
  · simp only [Array.toList_append,← List.append_assoc]
    rw [List.take_left' hlo]
end
end Go.SL
