/- Parts of the proof: DX2 ULp. -/
import Derived.Test.YthhidjfahmcekaaDoorLM14
import Derived.Test.YthhidjfahmcekaaDoorLM06
import Derived.Test.YthhidjfahmcekaaDoorLM07
set_option linter.unusedSectionVars false
set_option linter.unusedVariables false
set_option linter.unusedSimpArgs false
namespace Go.Proofs.A1
open Go Go.SL
theorem pure_at {l:List Oper} {p d k:Nat} {x:Operand} {ty:TypeId} {pos:String} {af:Array Edge} (h:l[p]? = some ⟨some d,.extract x k,ty,pos,af,none⟩) (h2:Region.noSelect l.toArray = true) (h3:Region.free .any l.toArray ((List.range l.length).map fun j=>((masks l []).getD p 0).testBit j).toArray p = true):PureAt l p:=⟨d,x,k,ty,pos,af,h,h2,h3⟩
def esD:List En:=[⟨⟨#[97]⟩,⟨#[109]⟩,⟨#[102,105,120,101,100]⟩,1790,20,0⟩,⟨⟨#[98]⟩,⟨#[109]⟩,⟨#[109,97,110,117,97,108]⟩,1830,5,0⟩]
theorem esD_ok:chkF esD = 0:=by decide +kernel
theorem esD_t:tmL esD = [(1790,1810),(1830,1835)]:=by decide +kernel
theorem esD_g:gpsL esD = [(0,1810,1830)]:=by decide +kernel
theorem lbD_a:lofF ⟨30,true⟩ 1790 = ⟨0,0,59,20⟩ ∧ lofE ⟨30,true⟩ 1790 = 0:=⟨by apply lb_ext <;> decide +kernel,by decide +kernel⟩
theorem lbD_b:lofF ⟨30,true⟩ 1810 = ⟨0,1,0,12⟩ ∧ lofE ⟨30,true⟩ 1810 = 0:=⟨by apply lb_ext <;> decide +kernel,by decide +kernel⟩
theorem craneD_c (w:World) (hG:GlobR w) (hN:Glob w):GivesV Tryd.prog 14 [] w (.bool true):=by
  have hl1790:∀ w',GlobR w' → GivesV Tryd.prog 20 [.agg #[.int .i64 30,.bool true],.int .i64 1790] w' (.tuple #[.agg #[.int .i64 0,.int .i64 0,.int .i64 59,.int .i64 20],.int .i64 0]):=fun w' h=>by
    have h1:=labelOf_c ⟨30,true⟩ 1790 w' h
    rw [lbD_a.1,lbD_a.2] at h1
    exact h1
  have hl1810:∀ w',GlobR w' → GivesV Tryd.prog 20 [.agg #[.int .i64 30,.bool true],.int .i64 1810] w' (.tuple #[.agg #[.int .i64 0,.int .i64 1,.int .i64 0,.int .i64 12],.int .i64 0]):=fun w' h=>by
    have h1:=labelOf_c ⟨30,true⟩ 1810 w' h
    rw [lbD_b.1,lbD_b.2] at h1
    exact h1
  refine givesV_of_tr Tryd.func14 rfl rfl ?_
  (refine s_r ?_;refine a_s rfl rfl ?_;refine n_r ?_;refine tr_val (rk_buildL (.cons (.of rfl) (.cons (.of rfl) .nil)) norm_) rfl ?_;refine tr_new (rk_alloc rfl) rfl (fun _ _=>?_);refine tr_store (.of rfl) (.of rfl) .here rfl rfl (okc_cons rfl (okc_cons rfl okc_nil)) (lenb rfl) norm_ ?_;refine n_r ?_;refine tr_val (rk_buildL (.cons (.of rfl) (.cons (.of rfl) .nil)) norm_) rfl ?_;refine tr_val (rk_buildL (.cons (.of rfl) (.cons (.of rfl) (.cons (.of rfl) (.cons (.of rfl) .nil)))) norm_) rfl ?_;refine tr_val (rk_buildL (.cons (.of rfl) (.cons (.of rfl) .nil)) norm_) rfl ?_;refine tr_val (rk_buildL (.cons (.of rfl) (.cons (.of rfl) (.cons (.of rfl) (.cons (.of rfl) .nil)))) norm_) rfl ?_;refine tr_new (rk_sliceLitN (.cons (.of rfl) (.cons (.of rfl) .nil)) rfl rfl normp_ normp_ norm_) rfl (fun _ _=>?_);refine tr_val (rk_buildL (.cons (.of rfl) .nil) norm_) rfl ?_;refine tr_new (rk_alloc rfl) rfl (fun _ _=>?_);refine tr_store (.of rfl) (.of rfl) .here rfl rfl (okc_cons rfl okc_nil) (lenb rfl) norm_ ?_;refine n_r ?_;refine tr_val (rk_loadB (.of rfl) .here norm_ (by rfl)) rfl ?_)
  rename_i b1 hb1 bq hbq b2 hb2
  refine tr_rowLitE (g:=bq) (E:=115) (ys:=[.string ⟨#[97]⟩,.string ⟨#[109]⟩,.string ⟨#[102,105,120,101,100]⟩,.int .i64 1790,.int .i64 20,.int .i64 0,.string ⟨#[98]⟩,.string ⟨#[109]⟩,.string ⟨#[109,97,110,117,97,108]⟩,.int .i64 1830,.int .i64 5,.int .i64 0]) 2 6 (by exact Take.there .here) rfl rfl rfl ?_
  refine tr_rowAs (E:=115) (sz:=6) (v:=.slice (some ⟨bq,0,none⟩) 2 2) (ys:=enR esD esD.length) (m:=esD.length) (by exact .here) (by exact rfl) (by exact rfl) ?_
  with_reducible apply tr_call
  case hr=>exact rk_call (.of rfl) (.cons (.of rfl) .nil) inferInstance normc_
  case hd=>rfl
  case ht=>exact Takes.nil
  case hc=>
    intro w1 fp hm1 _ hs1
    obtain rfl:fp = []:=hs1
    exact times_c (rdEn (E:=115) (v:=.slice (some ⟨bq,0,none⟩) 2 2) hm1 (by exact .here)) (hN.keeps hm1.keeps)
  intro tv _
  dsimp only [id_eq,List.cons_append,List.nil_append]
  rw [esD_ok,esD_t]
  refine tr_rowAs (E:=23) (sz:=2) (v:=tv) (ys:=[.int .i64 1790,.int .i64 1810,.int .i64 1830,.int .i64 1835]) (m:=2) (by exact .here) (by exact rfl) (by exact rfl) ?_
  refine tr_rowOpen (E:=23) (sz:=2) (v:=tv) (by exact .here) (show 0 < 2 by omega) ?_
  rintro gt ct curt rfl hct hmt hzt hxt
  (refine m_v rfl rfl ?_;refine tr_val (rk_extract (.of rfl) rfl) rfl ?_;refine tr_val (rk_extract (.of rfl) rfl) rfl ?_;refine a_s rfl rfl ?_;refine a_s rfl rfl ?_;refine n_r ?_;refine tr_val (rk_loadB (.of rfl) (.there (.there .here)) norm_ (by rfl)) rfl ?_)
  with_reducible apply tr_call
  case hr=>exact rk_call (.of rfl) (.cons (.of rfl) .nil) inferInstance normc_
  case hd=>rfl
  case ht=>exact Takes.nil
  case hc=>
    intro w1 fp hm1 _ hs1
    obtain rfl:fp = []:=hs1
    exact gapsX_c (rdEn (E:=115) (v:=.slice (some ⟨bq,0,none⟩) 2 2) hm1 (by exact Take.there .here)) (hN.keeps hm1.keeps)
  intro gv _
  dsimp only [id_eq,List.cons_append,List.nil_append]
  rw [esD_ok,esD_g]
  refine tr_rowAs (E:=93) (sz:=3) (v:=gv) (ys:=[.int .i64 0,.int .i64 1810,.int .i64 1830]) (m:=1) (by exact .here) (by exact rfl) (by exact rfl) ?_
  refine tr_rowOpen (E:=93) (sz:=3) (v:=gv) (by exact .here) (show 0 < 1 by omega) ?_
  rintro gg cg curg rfl hcg hmg hzg hxg
  have hq:cellsAt ([.int .i64 0,.int .i64 1810,.int .i64 1830]++curg) (0 * 3) 3 = [.int .i64 0,.int .i64 1810,.int .i64 1830]:=by rw [cellsAt_app (by decide)];rfl
  (refine m_v rfl rfl ?_;refine tr_val (rk_extract (.of rfl) rfl) rfl ?_;refine tr_val (rk_extract (.of rfl) rfl) rfl ?_;refine a_s rfl rfl ?_;refine a_s rfl rfl ?_;refine n_t ?_;refine tr_seq ?_;refine s_r ?_;refine m_v rfl rfl ?_;refine tr_val (rk_neq (.of rfl) (.of rfl)) rfl ?_;refine m_v rfl rfl ?_;refine v_g rfl rfl rfl rfl ?_;refine tr_vG1 rfl rfl inferInstance (fun hg hgp=>(rk_neq (.ofg hg rfl) (.of rfl))) rfl ?_;refine tr_val (rk_pick_or (.of rfl) rfl) rfl ?_;refine m_v rfl rfl ?_;refine v_g rfl rfl rfl rfl ?_;refine tr_vG1 rfl rfl inferInstance (fun hg hgp=>(rk_len_slice (.ofg hg rfl))) rfl ?_;refine tr_vG1 rfl rfl inferInstance (fun hg hgp=>(rk_neq (.ofg hg rfl) (.of rfl))) rfl ?_;refine tr_val (rk_pick_or (.of rfl) rfl) rfl ?_;refine m_v rfl rfl ?_;refine v_g rfl rfl rfl rfl ?_;refine tr_vG1 rfl rfl inferInstance (fun hg hgp=>(rk_len_slice (.ofg hg rfl))) rfl ?_;refine tr_vG1 rfl rfl inferInstance (fun hg hgp=>(rk_neq (.ofg hg rfl) (.of rfl))) rfl ?_;refine tr_val (rk_pick_or (.of rfl) rfl) rfl ?_;refine m_v rfl rfl ?_;refine v_g rfl rfl rfl rfl ?_;refine tr_vG1 rfl rfl inferInstance (fun hg hgp=>(rk_indexAddr (.ofg hg rfl) (.of rfl) rfl (by omega) (by omega) norm1_)) rfl ?_;refine tr_vG1 rfl rfl inferInstance (fun hg hgp=>(rk_loadB (.ofg hg rfl) .here hq rfl)) rfl ?_;refine tr_vG1 rfl rfl inferInstance (fun hg hgp=>(rk_buildL (.cons (.of rfl) (.cons (.of rfl) .nil)) norm_)) rfl ?_;refine tr_vG1 rfl rfl inferInstance (fun hg hgp=>(rk_buildL (.cons (.of rfl) (.cons (.ofg hg rfl) .nil)) norm_)) rfl ?_;refine tr_vG1 rfl rfl inferInstance (fun hg hgp=>(rk_neqA (.ofg hg rfl) (.ofg hg rfl) (okL_int (okL_int (okL_int okL_nil))) rfl)) rfl ?_;refine tr_val (rk_pick_or (.of rfl) rfl) rfl ?_;refine n_t ?_;refine tr_cond_f (.of rfl) ?_;refine s_t ?_;refine tr_seq ?_)
  with_reducible refine tr_drawP 10 8 (by kernel_rfl) (pure_at rfl (by kernel_rfl) (by kernel_rfl)) ?_
  (refine am_val (fun β=>(rk_loadB (.of rfl) (.there (.there (.there (.there .here)))) norm_ (by rfl))) ind0 rfl ?_;refine am_val (fun β=>(rk_move (.of rfl))) ind0 rfl ?_;refine am_val (fun β=>(rk_indexAddr (.of rfl) (.of rfl) rfl (by omega) (by omega) norm1_)) ind0 rfl ?_;refine am_val (fun β=>(rk_fieldAddr (.of rfl) norm0_)) ind0 rfl ?_;refine am_val (fun β=>(rk_load1 (.of rfl) (At.lit (.there .here) rfl))) ind0 rfl ?_)
  dsimp only [Nat.zero_add,Nat.reduceAdd]
  with_reducible apply am_callV (B:=[]) (F:=fun _=>.tuple #[.agg #[.int .i64 0,.int .i64 0,.int .i64 59,.int .i64 20],.int .i64 0]) (args:=fun _=>[.agg #[.int .i64 30,.bool true],.int .i64 1790])
  case hB=>rfl
  case hr=>exact fun β=>rk_call (.of rfl) (.cons (.of rfl) (.cons (.of rfl) .nil)) inferInstance rfl
  case hi=>exact ind0
  case hd=>rfl
  case hc=>exact fun β w' hb=>hl1790 w' (hG.keeps hb.mem.keeps)
  dsimp only [Nat.reduceAdd]
  (refine am_val (fun β=>(rk_move (.of rfl))) ind0 rfl ?_;refine am_val (fun β=>(rk_extract (.of rfl) rfl)) ind0 rfl ?_;refine am_val (fun β=>(rk_extract (.of rfl) rfl)) ind0 rfl ?_)
  refine am_new (fun β=>(rk_alloc rfl)) (fun _ _ _=>rfl) rfl ?_
  refine am_end fun β=>?_
  dsimp only [resAll,List.nil_append,List.cons_append,List.append_eq,Nat.reduceAdd]
  generalize gnat (β 9) = b9
  clear β
  refine left_ready (rs:=[10]) (by kernel_rfl) (by simp) (List.forall_mem_cons.2 ⟨?_,fun _ h=>absurd h List.not_mem_nil⟩)
  refine next_step rfl ?_
  (refine tr_store (.of rfl) (.of rfl) .here rfl rfl (okc_cons rfl (okc_cons rfl (okc_cons rfl (okc_cons rfl okc_nil)))) (lenb rfl) norm_ ?_;refine n_t ?_)
  refine left_ready (rs:=[11]) (by kernel_rfl) (by simp) (List.forall_mem_cons.2 ⟨?_,fun _ h=>absurd h List.not_mem_nil⟩)
  refine next_step rfl ?_
  (refine a_s rfl rfl ?_;refine n_t ?_)
  with_reducible refine left_done (by kernel_rfl) ?_
  (refine tr_then ?_;refine tr_seq ?_)
  with_reducible refine tr_drawP 10 8 (by kernel_rfl) (pure_at rfl (by kernel_rfl) (by kernel_rfl)) ?_
  (refine am_val (fun β=>(rk_loadB (.of rfl) (.there (.there (.there (.there (.there .here))))) norm_ (by rfl))) ind0 rfl ?_;refine am_val (fun β=>(rk_move (.of rfl))) ind0 rfl ?_;refine am_val (fun β=>(rk_indexAddr (.of rfl) (.of rfl) rfl (by omega) (by omega) norm1_)) ind0 rfl ?_;refine am_val (fun β=>(rk_fieldAddr (.of rfl) norm0_)) ind0 rfl ?_;refine am_val (fun β=>(rk_load1 (.of rfl) (At.lit (.there (.there .here)) rfl))) ind0 rfl ?_)
  dsimp only [Nat.zero_add,Nat.reduceAdd]
  with_reducible apply am_callV (B:=[]) (F:=fun _=>.tuple #[.agg #[.int .i64 0,.int .i64 1,.int .i64 0,.int .i64 12],.int .i64 0]) (args:=fun _=>[.agg #[.int .i64 30,.bool true],.int .i64 1810])
  case hB=>rfl
  case hr=>exact fun β=>rk_call (.of rfl) (.cons (.of rfl) (.cons (.of rfl) .nil)) inferInstance rfl
  case hi=>exact ind0
  case hd=>rfl
  case hc=>exact fun β w' hb=>hl1810 w' (hG.keeps hb.mem.keeps)
  dsimp only [Nat.reduceAdd]
  (refine am_val (fun β=>(rk_move (.of rfl))) ind0 rfl ?_;refine am_val (fun β=>(rk_extract (.of rfl) rfl)) ind0 rfl ?_;refine am_val (fun β=>(rk_extract (.of rfl) rfl)) ind0 rfl ?_)
  refine am_new (fun β=>(rk_alloc rfl)) (fun _ _ _=>rfl) rfl ?_
  refine am_end fun β=>?_
  dsimp only [resAll,List.nil_append,List.cons_append,List.append_eq,Nat.reduceAdd]
  generalize gnat (β 9) = b9
  clear β
  refine left_ready (rs:=[10]) (by kernel_rfl) (by simp) (List.forall_mem_cons.2 ⟨?_,fun _ h=>absurd h List.not_mem_nil⟩)
  refine next_step rfl ?_
  (refine tr_store (.of rfl) (.of rfl) .here rfl rfl (okc_cons rfl (okc_cons rfl (okc_cons rfl (okc_cons rfl okc_nil)))) (lenb rfl) norm_ ?_;refine n_t ?_)
  refine left_ready (rs:=[11]) (by kernel_rfl) (by simp) (List.forall_mem_cons.2 ⟨?_,fun _ h=>absurd h List.not_mem_nil⟩)
  refine next_step rfl ?_
  (refine a_s rfl rfl ?_;refine n_t ?_)
  with_reducible refine left_done (by kernel_rfl) ?_
  (refine tr_then ?_;refine s_r ?_;refine m_v rfl rfl ?_;refine tr_val (rk_eql (.of rfl) (.of rfl)) rfl ?_;refine m_v rfl rfl ?_;refine v_g rfl rfl rfl rfl ?_;refine tr_vG1 rfl rfl inferInstance (fun hg hgp=>(rk_eql (.ofg hg rfl) (.of rfl))) rfl ?_;refine tr_val (rk_pick_and (.of rfl) rfl) rfl ?_;refine m_v rfl rfl ?_;refine tr_vG1 rfl rfl inferInstance (fun hg hgp=>(rk_loadB (.of rfl) (.there .here) norm_ (by rfl))) rfl ?_;refine tr_vG1 rfl rfl inferInstance (fun hg hgp=>(rk_buildL (.cons (.of rfl) (.cons (.of rfl) .nil)) norm_)) rfl ?_;refine tr_vG1 rfl rfl inferInstance (fun hg hgp=>(rk_eqlA (.ofg hg rfl) (.ofg hg rfl) (okL_int (okL_int (okL_int (okL_int okL_nil)))) rfl)) rfl ?_;refine tr_val (rk_pick_and (.of rfl) rfl) rfl ?_;refine m_v rfl rfl ?_;refine tr_vG1 rfl rfl inferInstance (fun hg hgp=>(rk_loadB (.of rfl) .here norm_ (by rfl))) rfl ?_;refine tr_vG1 rfl rfl inferInstance (fun hg hgp=>(rk_buildL (.cons (.of rfl) (.cons (.of rfl) .nil)) norm_)) rfl ?_;refine tr_vG1 rfl rfl inferInstance (fun hg hgp=>(rk_eqlA (.ofg hg rfl) (.ofg hg rfl) (okL_int (okL_int (okL_int (okL_int okL_nil)))) rfl)) rfl ?_;refine tr_val (rk_pick_and (.of rfl) rfl) rfl ?_;refine a_s rfl rfl ?_;refine n_t ?_;refine tr_ret ?_;refine tr_retE rfl (ends1 rfl rfl) ?_)
  rfl
end Go.Proofs.A1
namespace Go.Proofs.A1
open Go Go.SL
def fgnL (b:Int) (L:List Stm):List Int:=(L.map fun s=>wordF s++[b]).flatten
theorem fgn_cons (b:Int) (x:Stm) (r:List Stm):fgnL b (x :: r) = wordF x++[b]++fgnL b r:=by
  unfold fgnL;rw [List.map_cons,List.flatten_cons]
theorem fgn_len (b:Int):∀ L:List Stm,(fgnL b L).length = 11 * L.length
  | []=>rfl
  | x :: r => by
    rw [fgn_cons,List.length_append,List.length_append,word_len,fgn_len b r,show (x :: r).length = r.length + 1 from rfl,show [b].length = 1 from rfl]
    omega
theorem fgn_snoc (b:Int) (L:List Stm) (x:Stm):fgnL b (L++[x]) = fgnL b L++(wordF x++[b]):=by
  unfold fgnL;rw [List.map_append,List.flatten_append];simp
theorem fgn_win (b:Int):∀ (L:List Stm) (k:Nat) (h:k < L.length),win (fgnL b L) (11 * k) = wordF L[k]
  | x :: r, 0, _ => by
    unfold win
    rw [fgn_cons,Nat.mul_zero,List.drop_zero,List.append_assoc,List.take_append_of_le_length (by rw [word_len];omega),List.take_of_length_le (by rw [word_len];omega)]
    rfl
  | x :: r, k + 1, h => by
    have ih:=fgn_win b r k (by rw [List.length_cons] at h;omega)
    rw [List.getElem_cons_succ,← ih]
    unfold win
    have hl:(wordF x++[b]).length = 11:=by rw [List.length_append,word_len];rfl
    rw [fgn_cons,show 11 * (k + 1) = (wordF x++[b]).length + 11 * k by rw [hl];omega,List.drop_append,List.drop_of_length_le (by omega:(wordF x++[b]).length ≤ (wordF x++[b]).length + 11 * k),Nat.add_sub_cancel_left,List.nil_append]
def fruL:List Stm → Nat → List (Stm × Nat)
  | [],_=>[]
  | x :: r,p=>(x,p) :: fruL r (p + 11)
theorem fru_len:∀ (L:List Stm) (p:Nat),(fruL L p).length = L.length
  | [],_=>rfl
  | x :: r,p=>by rw [fruL,List.length_cons,List.length_cons,fru_len r]
theorem fru_get:∀ (L:List Stm) (p i:Nat) (h:i < L.length),(fruL L p)[i]'(by rw [fru_len];exact h) = (L[i],p + 11 * i)
  | x :: r,p,0,_=>rfl
  | x :: r, p, i + 1, h => by
    have:=fru_get r (p + 11) i (by rw [List.length_cons] at h;omega)
    show (fruL r (p + 11))[i]'_ = _
    rw [this,List.getElem_cons_succ,show p + 11 + 11 * i = p + 11 * (i + 1) by omega]
theorem fgn_run {b:Int} {L:List Stm} (ho:∀ x ∈ L,StOk x):∀ n k,k + n = L.length → hitL (fgnL b L) (11 * k) = fruL (L.drop k) (11 * k)
  | 0, k, h => by
    rw [List.drop_of_length_le (by omega),hit_end (by rw [fgn_len];omega)];rfl
  | n + 1, k, h => by
    have hk:k < L.length:=by omega
    have hw:=fgn_win b L k hk
    obtain ⟨e1,e2⟩:=read_word (ho L[k] (List.getElem_mem hk))
    rw [hit_hit (by rw [fgn_len];omega) (by rw [hw];exact e1),hw,e2,List.drop_eq_getElem_cons hk,fruL]
    congr 1
    by_cases hn:n = 0
    · rw [hit_end (by rw [fgn_len];omega),List.drop_of_length_le (by omega)];rfl
    · have hk1:k + 1 < L.length:=by omega
      have h8:wa (fgnL b L) (11 * k + 10 + 9) = 63:=by
        rw [show 11 * k + 10 + 9 = 11 * (k + 1) + 8 by omega,← wa_win (by omega),fgn_win b L (k + 1) hk1]
        exact (word_end _).1
      rw [hit_miss (by rw [fgn_len];omega) (rdE_sync (.inr (by rw [wa_win (by omega),h8];decide))),show 11 * k + 10 + 1 = 11 * (k + 1) by omega,fgn_run ho n (k + 1) (by omega)]
theorem fgn_all {b:Int} {L:List Stm} (ho:∀ x ∈ L,StOk x):hitL (fgnL b L) 0 = fruL L 0:=fgn_run ho L.length 0 (Nat.zero_add _)
end Go.Proofs.A1
