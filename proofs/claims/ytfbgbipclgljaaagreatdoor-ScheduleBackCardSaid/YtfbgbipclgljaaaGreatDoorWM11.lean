/- Parts of the proof: S20 S21 S22 S23. -/
import Derived.Test.YtfbgbipclgljaaaGreatDoorWM10
import Derived.Test.YtfbgbipclgljaaaGreatDoorWM06
set_option linter.unusedSectionVars false
set_option linter.unusedVariables false
set_option linter.unusedSimpArgs false
namespace Go.Proofs.A1
open Go Go.SL
theorem mapSe {lv fv:Value} {rows:List (List Value)} {f:FuncId} {first cap:List Value} [Bod Tryz.prog f] {img:List Int} {w:World} (h:Rd w lv 4 rows) (hfv:fv = .func (.func f) first.toArray cap.toArray) (hl:img.length = rows.length) (hn:rows.length ≤ 1000000) (h1c:∀ r ∈ rows,∀ u ∈ r,u.oneCell' = true)
    (hcall:∀ (i:Nat) (r:List Value) (e:Int),rows[i]? = some r → img[i]? = some e → ∀ w',Keeps [] w w' → GivesV Tryz.prog f (first++[.agg r.toArray]++cap) w' (.int .i64 e)) :
    Gives Tryz.prog 114 [lv,fv] w [] (fun _:Value=>True) id (fun v=>[row 28 1 v rows.length (img.map (.int .i64))]):=by
  subst hfv
  obtain ⟨a,cp,b,o,rfl,hcap,hmax,ha,hc⟩:=h
  unfold maxLen at hmax
  refine gives_of_tr Tryz.func114 rfl rfl ?_
  (refine s_r ?_;refine a_s rfl rfl ?_;refine n_r ?_;refine a_s rfl rfl ?_;refine n_t ?_;refine tr_seq ?_;refine s_r ?_;refine m_v rfl rfl ?_;refine tr_val (rk_len_slice (.of rfl)) rfl ?_;refine m_v rfl rfl ?_;refine n_t ?_;refine tr_block ?_)
  refine tr_rowNil 28 1 ?_
  refine tr_for (ι:=Nat × Value) (fun x=>x.1 ≤ rows.length) (fun x=>[(10,.int .i64 x.1),(9,.int .i64 rows.length),(8,.slice a rows.length cp),(5,x.2),(1,.func (.func f) first.toArray cap.toArray)]) (fun x=>[row 28 1 x.2 x.1 ((img.take x.1).map (.int .i64))]) (fun x=>rows.length - x.1) ?_ ?_
  · apply tr_start (0,.slice none 0 0) (Nat.zero_le _)
    case hs1=>exact .cons rfl (.cons rfl (.cons rfl (.cons rfl (.cons rfl .nil))))
    case ht=>(try simp only [List.take_zero,List.map_nil,List.nil_append]);exact .cons .here .nil
  rintro ⟨k,v⟩ hk
  dsimp only at hk ⊢
  by_cases hlt:k < rows.length
  · have ha':=ha (by intro e;rw [e] at hlt;simp at hlt)
    have hget:rows[k]? = some rows[k]:=List.getElem?_eq_getElem hlt
    have hcell:=(hc k _ hget).2
    have hlen:=(hc k _ hget).1
    have himg:img[k]? = some (img[k]'(by omega)):=List.getElem?_eq_getElem (by omega)
    have hone:=h1c _ (List.getElem_mem hlt)
    have hcl:=hcall k _ _ hget himg
    obtain ⟨x0,x1,x2,x3,hx⟩:∃ x0 x1 x2 x3,rows[k] = [x0,x1,x2,x3]:=by
      match hr:rows[k],hlen with
      | [x0,x1,x2,x3],_=>exact ⟨x0,x1,x2,x3,rfl⟩
    rw [hx] at hcell hone hcl
    have o0_:=hone x0 (by simp)
    have o1_:=hone x1 (by simp)
    have o2_:=hone x2 (by simp)
    have o3_:=hone x3 (by simp)
    (refine s_r ?_;refine tr_val (rk_lss (.of rfl) (.of rfl)) rfl ?_;refine n_t ?_;refine tr_seq ?_;refine c_d rfl (fun hcd=>?_) (fun _=>by omega);refine s_t ?_;refine tr_seq ?_;refine tr_block ?_;refine s_r ?_;refine tr_val (rk_indexAddr (.of rfl) (.of rfl) ha' (by omega) hcd norm1_) rfl ?_;refine tr_val (rk_loadN (.of rfl) (Ats.base hcell rfl) rfl) rfl ?_;refine tr_new (rk_alloc rfl) rfl (fun _ _=>?_);refine tr_store (.of rfl) (.of rfl) .here rfl rfl (okc_cons o0_ (okc_cons o1_ (okc_cons o2_ (okc_cons o3_ okc_nil)))) (lenb rfl) norm_ ?_;refine n_t ?_;refine tr_region ?_;refine m_v rfl rfl ?_;refine m_v rfl rfl ?_;refine tr_val (rk_loadB (.of rfl) .here norm_ (by rfl)) rfl ?_)
    refine tr_callV (rk_call (.of rfl) (.cons (.of rfl) .nil) inferInstance normc_) rfl (fun w' hm'=>(hcl w' (Mem.keeps hm'))) ?_
    refine tr_new (rk_sliceLit (.cons (.of rfl) .nil) rfl rfl rfl rfl) rfl (fun _ _=>?_)
    refine tr_appendB (.of rfl) (.of rfl) (.there (.there .here)) .here norm_ (by rfl) (okc_cons rfl okc_nil) (by rfl) (by rfl) (by rfl) lenx_ (by rfl) ?_
    intro v'
    (refine a_s rfl rfl ?_;refine tr_nil ?_;refine tr_blk_normal ?_;refine tr_then ?_;refine tr_region ?_;refine tr_val (rk_add (.of rfl) (.of rfl) (ini (by omega))) rfl ?_;refine m_v rfl rfl ?_;refine n_t ?_)
    have ht1:(img.take (k + 1)).map (Value.int .i64) = (img.take k).map (Value.int .i64)++[Value.int .i64 (img[k]'(by omega))]:=by
      rw [List.take_add_one,himg,List.map_append];rfl
    apply tr_next (k + 1,v') (by show k + 1 ≤ rows.length;omega) (by show rows.length - (k + 1) < rows.length - k;omega)
    case hs1=>exact .cons rfl (.cons rfl (.cons rfl (.cons rfl (.cons rfl .nil))))
    case ht=>
      show Takes _ [row 28 1 v' (k + 1) ((img.take (k + 1)).map (Value.int .i64))] _
      rw [ht1]
      exact .cons .here .nil
  · have:k = rows.length:=by omega
    subst this
    rw [List.take_of_length_le (by omega)]
    (refine s_r ?_;refine tr_val (rk_lss (.of rfl) (.of rfl)) rfl ?_;refine n_t ?_;refine tr_seq ?_;refine c_d rfl (fun _=>by omega) (fun hcd=>?_);refine x_t ?_;refine tr_then_exit ?_;refine tr_blk_exit ?_;refine tr_then ?_;refine s_r ?_;refine m_v rfl rfl ?_;refine a_s rfl rfl ?_;refine n_t ?_;refine tr_ret ?_)
    first | with_reducible apply tr_retM | with_reducible apply tr_endM
    case he=>exact ends1 rfl rfl
    case hR=>
      intro w' hm'
      exact gives_end v trivial (by exact .cons .here .nil) hm' rfl
theorem mapRi {lv fv:Value} {rows:List (List Value)} {f:FuncId} {first cap:List Value} [Bod Tryz.prog f] {img:List Int} {w:World} (h:Rd w lv 3 rows) (hfv:fv = .func (.func f) first.toArray cap.toArray) (hl:img.length = rows.length) (hn:rows.length ≤ 1000000) (h1c:∀ r ∈ rows,∀ u ∈ r,u.oneCell' = true)
    (hcall:∀ (i:Nat) (r:List Value) (e:Int),rows[i]? = some r → img[i]? = some e → ∀ w',Keeps [] w w' → GivesV Tryz.prog f (first++[.agg r.toArray]++cap) w' (.int .i64 e)) :
    Gives Tryz.prog 117 [lv,fv] w [] (fun _:Value=>True) id (fun v=>[row 28 1 v rows.length (img.map (.int .i64))]):=by
  subst hfv
  obtain ⟨a,cp,b,o,rfl,hcap,hmax,ha,hc⟩:=h
  unfold maxLen at hmax
  refine gives_of_tr Tryz.func117 rfl rfl ?_
  (refine s_r ?_;refine a_s rfl rfl ?_;refine n_r ?_;refine a_s rfl rfl ?_;refine n_t ?_;refine tr_seq ?_;refine s_r ?_;refine m_v rfl rfl ?_;refine tr_val (rk_len_slice (.of rfl)) rfl ?_;refine m_v rfl rfl ?_;refine n_t ?_;refine tr_block ?_)
  refine tr_rowNil 28 1 ?_
  refine tr_for (ι:=Nat × Value) (fun x=>x.1 ≤ rows.length) (fun x=>[(10,.int .i64 x.1),(9,.int .i64 rows.length),(8,.slice a rows.length cp),(5,x.2),(1,.func (.func f) first.toArray cap.toArray)]) (fun x=>[row 28 1 x.2 x.1 ((img.take x.1).map (.int .i64))]) (fun x=>rows.length - x.1) ?_ ?_
  · apply tr_start (0,.slice none 0 0) (Nat.zero_le _)
    case hs1=>exact .cons rfl (.cons rfl (.cons rfl (.cons rfl (.cons rfl .nil))))
    case ht=>(try simp only [List.take_zero,List.map_nil,List.nil_append]);exact .cons .here .nil
  rintro ⟨k,v⟩ hk
  dsimp only at hk ⊢
  by_cases hlt:k < rows.length
  · have ha':=ha (by intro e;rw [e] at hlt;simp at hlt)
    have hget:rows[k]? = some rows[k]:=List.getElem?_eq_getElem hlt
    have hcell:=(hc k _ hget).2
    have hlen:=(hc k _ hget).1
    have himg:img[k]? = some (img[k]'(by omega)):=List.getElem?_eq_getElem (by omega)
    have hone:=h1c _ (List.getElem_mem hlt)
    have hcl:=hcall k _ _ hget himg
    obtain ⟨x0,x1,x2,hx⟩:∃ x0 x1 x2,rows[k] = [x0,x1,x2]:=by
      match hr:rows[k],hlen with
      | [x0,x1,x2],_=>exact ⟨x0,x1,x2,rfl⟩
    rw [hx] at hcell hone hcl
    have o0_:=hone x0 (by simp)
    have o1_:=hone x1 (by simp)
    have o2_:=hone x2 (by simp)
    (refine s_r ?_;refine tr_val (rk_lss (.of rfl) (.of rfl)) rfl ?_;refine n_t ?_;refine tr_seq ?_;refine c_d rfl (fun hcd=>?_) (fun _=>by omega);refine s_t ?_;refine tr_seq ?_;refine tr_block ?_;refine s_r ?_;refine tr_val (rk_indexAddr (.of rfl) (.of rfl) ha' (by omega) hcd norm1_) rfl ?_;refine tr_val (rk_loadN (.of rfl) (Ats.base hcell rfl) rfl) rfl ?_;refine tr_new (rk_alloc rfl) rfl (fun _ _=>?_);refine tr_store (.of rfl) (.of rfl) .here rfl rfl (okc_cons o0_ (okc_cons o1_ (okc_cons o2_ okc_nil))) (lenb rfl) norm_ ?_;refine n_t ?_;refine tr_region ?_;refine m_v rfl rfl ?_;refine m_v rfl rfl ?_;refine tr_val (rk_loadB (.of rfl) .here norm_ (by rfl)) rfl ?_)
    refine tr_callV (rk_call (.of rfl) (.cons (.of rfl) .nil) inferInstance normc_) rfl (fun w' hm'=>(hcl w' (Mem.keeps hm'))) ?_
    refine tr_new (rk_sliceLit (.cons (.of rfl) .nil) rfl rfl rfl rfl) rfl (fun _ _=>?_)
    refine tr_appendB (.of rfl) (.of rfl) (.there (.there .here)) .here norm_ (by rfl) (okc_cons rfl okc_nil) (by rfl) (by rfl) (by rfl) lenx_ (by rfl) ?_
    intro v'
    (refine a_s rfl rfl ?_;refine tr_nil ?_;refine tr_blk_normal ?_;refine tr_then ?_;refine tr_region ?_;refine tr_val (rk_add (.of rfl) (.of rfl) (ini (by omega))) rfl ?_;refine m_v rfl rfl ?_;refine n_t ?_)
    have ht1:(img.take (k + 1)).map (Value.int .i64) = (img.take k).map (Value.int .i64)++[Value.int .i64 (img[k]'(by omega))]:=by
      rw [List.take_add_one,himg,List.map_append];rfl
    apply tr_next (k + 1,v') (by show k + 1 ≤ rows.length;omega) (by show rows.length - (k + 1) < rows.length - k;omega)
    case hs1=>exact .cons rfl (.cons rfl (.cons rfl (.cons rfl (.cons rfl .nil))))
    case ht=>
      show Takes _ [row 28 1 v' (k + 1) ((img.take (k + 1)).map (Value.int .i64))] _
      rw [ht1]
      exact .cons .here .nil
  · have:k = rows.length:=by omega
    subst this
    rw [List.take_of_length_le (by omega)]
    (refine s_r ?_;refine tr_val (rk_lss (.of rfl) (.of rfl)) rfl ?_;refine n_t ?_;refine tr_seq ?_;refine c_d rfl (fun _=>by omega) (fun hcd=>?_);refine x_t ?_;refine tr_then_exit ?_;refine tr_blk_exit ?_;refine tr_then ?_;refine s_r ?_;refine m_v rfl rfl ?_;refine a_s rfl rfl ?_;refine n_t ?_;refine tr_ret ?_)
    first | with_reducible apply tr_retM | with_reducible apply tr_endM
    case he=>exact ends1 rfl rfl
    case hR=>
      intro w' hm'
      exact gives_end v trivial (by exact .cons .here .nil) hm' rfl
structure Se where
  en:Int
  fe:Bool
  off:Int
  ln:Int
def Se.cells (x:Se):List Value:=[.int .i64 x.en,.bool x.fe,.int .i64 x.off,.int .i64 x.ln]
def seE (n:Int) (x:Se):Int:=firstF [whenF (decide (x.en < 0) || decide (n ≤ x.en)) 10,withinF x.off (-1000000) 1000000,withinF x.ln 1 1000000]
theorem seC_c (x:Se) {b n cap:Nat} {a:Option Addr} {w:World} (hb:w.cell? ⟨b,0,none⟩ = some (.slice a n cap)):GivesV Tryz.prog 112 [.agg x.cells.toArray,.pointer (some ⟨b,0,none⟩)] w (.int .i64 (seE n x)):=by
  unfold Se.cells
  refine givesV_of_tr Tryz.func112 rfl rfl ?_
  (refine s_r ?_;refine tr_new (rk_box (.of rfl) rfl) rfl (fun _ _=>?_);refine a_s rfl rfl ?_;refine n_t ?_;refine tr_seq ?_)
  with_reducible refine tr_draw 18 (by kernel_rfl) ?_
  (refine a_f rfl rfl norm0_ ?_;refine any_val (rk_load1 (.of rfl) (At.lit .here rfl)) rfl ?_;refine any_val (rk_lss (.of rfl) (.of rfl)) rfl ?_;refine a_m rfl rfl ?_;refine any_vG1 rfl rfl inferInstance (fun hg hgp=>(rk_fieldAddr (.of rfl) norm0_)) rfl ?_;refine any_vG1 rfl rfl inferInstance (fun hg hgp=>(rk_load1 (.ofg hg rfl) (At.lit .here rfl))) rfl ?_;refine any_vG1 rfl rfl inferInstance (fun hg hgp=>(rk_fieldAddr (.of rfl) norm0_)) rfl ?_;refine any_vG1 rfl rfl inferInstance (fun hg hgp=>(rk_load1 (.ofg hg rfl) (At.base hb rfl))) rfl ?_;refine any_vG1 rfl rfl inferInstance (fun hg hgp=>(rk_len_slice (.ofg hg rfl))) rfl ?_;refine any_vG1 rfl rfl inferInstance (fun hg hgp=>(rk_geq (.ofg hg rfl) (.ofg hg rfl))) rfl ?_;refine any_val (rk_pick_or (.of rfl) rfl) rfl ?_;refine any_call (rk_call (.of rfl) (.cons (.of rfl) (.cons (.of rfl) .nil)) inferInstance normc_) rfl (fun w' hm'=>(when_c _ 10 w')) ?_;refine a_f rfl rfl norm0_ ?_;refine any_val (rk_load1 (.of rfl) (At.lit .here rfl)) rfl ?_;refine any_call (rk_call (.of rfl) (.cons (.of rfl) (.cons (.of rfl) (.cons (.of rfl) .nil))) inferInstance normc_) rfl (fun w' hm'=>(within_c _ _ 1000000 w')) ?_;refine a_f rfl rfl norm0_ ?_;refine any_val (rk_load1 (.of rfl) (At.lit .here rfl)) rfl ?_;refine any_call (rk_call (.of rfl) (.cons (.of rfl) (.cons (.of rfl) (.cons (.of rfl) .nil))) inferInstance normc_) rfl (fun w' hm'=>(within_c _ 1 1000000 w')) ?_)
  with_reducible refine any_end ?_
  (refine tr_new (rk_sliceLit (.cons (.of rfl) (.cons (.of rfl) (.cons (.of rfl) .nil))) rfl rfl rfl rfl) rfl (fun _ _=>?_);refine tr_callV (rk_call (.of rfl) (.cons (.of rfl) .nil) inferInstance normc_) rfl (fun w' hm'=>(first_pB (Mem.rdBlk hm' .here rfl rfl) (IntL.cons (IntL.cons (IntL.cons IntL.nil))))) ?_;refine a_s rfl rfl ?_;refine n_t ?_;refine tr_ret ?_;refine tr_retE rfl (ends1 rfl rfl) ?_)
  rfl
structure Ri where
  mt:ByteArray
  f:Int
  t:Int
def Ri.cells (x:Ri):List Value:=[.string x.mt,.int .i64 x.f,.int .i64 x.t]
def riE (x:Ri):Int:=firstF [nmF x.mt,whenF (decide (x.f < 0) || decide (x.t ≤ x.f) || decide (10000000 < x.t)) 14]
theorem riC_c (x:Ri) (w:World):GivesV Tryz.prog 115 [.agg x.cells.toArray] w (.int .i64 (riE x)):=by
  unfold Ri.cells
  refine givesV_of_tr Tryz.func115 rfl rfl ?_
  (refine s_r ?_;refine tr_new (rk_box (.of rfl) rfl) rfl (fun _ _=>?_);refine a_s rfl rfl ?_;refine n_t ?_;refine tr_seq ?_)
  with_reducible refine tr_draw 23 (by kernel_rfl) ?_
  (refine a_f rfl rfl norm0_ ?_;refine any_val (rk_load1 (.of rfl) (At.lit .here rfl)) rfl ?_;refine any_call (rk_call (.of rfl) (.cons (.of rfl) .nil) inferInstance normc_) rfl (fun w' hm'=>(nm_p _ w')) ?_;refine a_f rfl rfl norm0_ ?_;refine a_f rfl rfl norm0_ ?_;refine any_val (rk_load1 (.of rfl) (At.lit .here rfl)) rfl ?_;refine any_val (rk_lss (.of rfl) (.of rfl)) rfl ?_;refine a_m rfl rfl ?_;refine any_vG1 rfl rfl inferInstance (fun hg hgp=>(rk_fieldAddr (.of rfl) norm0_)) rfl ?_;refine any_vG1 rfl rfl inferInstance (fun hg hgp=>(rk_fieldAddr (.ofg hg rfl) norm0_)) rfl ?_;refine any_vG1 rfl rfl inferInstance (fun hg hgp=>(rk_load1 (.ofg hg rfl) (At.lit .here rfl))) rfl ?_;refine any_vG1 rfl rfl inferInstance (fun hg hgp=>(rk_fieldAddr (.of rfl) norm0_)) rfl ?_;refine any_vG1 rfl rfl inferInstance (fun hg hgp=>(rk_fieldAddr (.ofg hg rfl) norm0_)) rfl ?_;refine any_vG1 rfl rfl inferInstance (fun hg hgp=>(rk_load1 (.ofg hg rfl) (At.lit .here rfl))) rfl ?_;refine any_vG1 rfl rfl inferInstance (fun hg hgp=>(rk_geq (.ofg hg rfl) (.ofg hg rfl))) rfl ?_;refine any_val (rk_pick_or (.of rfl) rfl) rfl ?_;refine a_m rfl rfl ?_;refine any_vG1 rfl rfl inferInstance (fun hg hgp=>(rk_fieldAddr (.of rfl) norm0_)) rfl ?_;refine any_vG1 rfl rfl inferInstance (fun hg hgp=>(rk_fieldAddr (.ofg hg rfl) norm0_)) rfl ?_;refine any_vG1 rfl rfl inferInstance (fun hg hgp=>(rk_load1 (.ofg hg rfl) (At.lit .here rfl))) rfl ?_;refine any_vG1 rfl rfl inferInstance (fun hg hgp=>(rk_gtr (.ofg hg rfl) (.of rfl))) rfl ?_;refine any_val (rk_pick_or (.of rfl) rfl) rfl ?_;refine any_call (rk_call (.of rfl) (.cons (.of rfl) (.cons (.of rfl) .nil)) inferInstance normc_) rfl (fun w' hm'=>(when_c _ 14 w')) ?_)
  with_reducible refine any_end ?_
  (refine tr_new (rk_sliceLit (.cons (.of rfl) (.cons (.of rfl) .nil)) rfl rfl rfl rfl) rfl (fun _ _=>?_);refine tr_callV (rk_call (.of rfl) (.cons (.of rfl) .nil) inferInstance normc_) rfl (fun w' hm'=>(first_pB (Mem.rdBlk hm' .here rfl rfl) (IntL.cons (IntL.cons IntL.nil)))) ?_;refine a_s rfl rfl ?_;refine n_t ?_;refine tr_ret ?_;refine tr_retE rfl (ends1 rfl rfl) ?_)
  rfl
def riOk (x:Ri) (m:ByteArray) (f t:Int):Bool:=decide (x.mt = m) && decide (x.f ≤ f) && decide (t ≤ x.t)
end Go.Proofs.A1
namespace Go.Proofs.A1
open Go Go.SL
theorem IntL.map:∀ (es:List Int),IntL (es.map (Value.int .i64)) es
  | []=>.nil
  | _ :: r=>.cons (IntL.map r)
def seL (l:List Se):List (List Value):=l.map Se.cells
theorem seL_length (l:List Se):(seL l).length = l.length:=lenV Se.cells l
theorem seL_one (l:List Se):∀ r ∈ seL l,∀ u ∈ r,u.oneCell' = true:=by
  intro r hr
  obtain ⟨x,_,rfl⟩:=List.mem_map.1 hr
  unfold Se.cells
  exact okc_cons rfl (okc_cons rfl (okc_cons rfl (okc_cons rfl okc_nil)))
def exFrom (es:List En) (x:Se):Int:=(if x.fe = true then to es x.en.toNat else fr es x.en.toNat) + x.off
def exBad (es:List En) (x:Se):Bool:=decide (exFrom es x < fr es x.en.toNat) || decide (to es x.en.toNat < exFrom es x + x.ln)
def exE0 (es:List En) (n:Nat):Int:=firstF [chkF es,whenF (decide (32 < (n:Int))) 5]
def exE (es:List En) (l:List Se):Int:=
  if exE0 es l.length ≠ 0 then exE0 es l.length else if firstF (l.map (seE es.length)) ≠ 0 then firstF (l.map (seE es.length)) else whenF (l.any (exBad es)) 14
def exM (es:List En) (l:List Se):List (Int × Int):=l.map fun x=>(exFrom es x,exFrom es x + x.ln)
def exL (es:List En) (l:List Se):List (Int × Int):=if exE es l = 0 then l.map fun x=>(exFrom es x,exFrom es x + x.ln) else []
set_option maxHeartbeats 1000000 in
theorem expanded_c {sv lv:Value} {es:List En} {l:List Se} {w:World} (h1:Rd w sv 6 (ensL es)) (h2:Rd w lv 4 (seL l)) (hG:Glob w) :
    Gives Tryz.prog 36 [.agg #[sv],lv] w [] (fun _:Value=>True) (fun v=>.tuple #[v,.int .i64 (exE es l)]) (fun v=>[row 66 2 v (exL es l).length ((exL es l).flatMap duoV)]):=by
  have h1':=h1
  have h2':=h2
  obtain ⟨a,cap,b,o,rfl,hcap,hmax,ha,hc⟩:=h1'
  obtain ⟨a2,cap2,b2,o2,rfl,hcap2,hmax2,ha2,hc2⟩:=h2'
  rw [ensL_length] at *
  rw [seL_length] at *
  unfold maxLen at hmax hmax2
  refine gives_of_tr Tryz.func36 rfl rfl ?_
  (refine s_r ?_;refine tr_new (rk_box (.of rfl) rfl) rfl (fun _ _=>?_);refine a_s rfl rfl ?_;refine a_s rfl rfl ?_;refine n_t ?_;refine tr_seq ?_;refine s_r ?_;refine tr_val (rk_loadB (.of rfl) .here norm_ (by rfl)) rfl ?_;refine tr_callV (rk_call (.of rfl) (.cons (.of rfl) .nil) inferInstance normc_) rfl (fun w' hm'=>(chk_c (Rd.keeps h1 (Mem.keeps hm')) (Glob.keeps hG (Mem.keeps hm')))) ?_;refine m_v rfl rfl ?_;refine tr_val (rk_len_slice (.of rfl)) rfl ?_;refine tr_val (rk_gtr (.of rfl) (.of rfl)) rfl ?_;refine tr_callV (rk_call (.of rfl) (.cons (.of rfl) (.cons (.of rfl) .nil)) inferInstance normc_) rfl (fun w' hm'=>(when_c _ 5 w')) ?_;refine tr_new (rk_sliceLit (.cons (.of rfl) (.cons (.of rfl) .nil)) rfl rfl rfl rfl) rfl (fun _ _=>?_);refine tr_callV (rk_call (.of rfl) (.cons (.of rfl) .nil) inferInstance normc_) rfl (fun w' hm'=>(first_pB (Mem.rdBlk hm' .here rfl rfl) (IntL.cons (IntL.cons IntL.nil)))) ?_;refine a_s rfl rfl ?_;refine n_r ?_;refine m_v rfl rfl ?_;refine tr_val (rk_neq (.of rfl) (.of rfl)) rfl ?_;refine n_t ?_;refine c_d rfl (fun hcd=>?_) (fun hcd=>?_);refine s_r ?_;refine m_v rfl rfl ?_;refine a_s rfl rfl ?_;refine a_s rfl rfl ?_;refine n_t ?_;refine r_t ?_;rotate_left;refine s_t ?_;refine s_r ?_;refine tr_val (rk_makeFunc' .nil (.cons (.of rfl) .nil)) rfl ?_;refine a_s rfl rfl ?_;refine n_t ?_;refine tr_seq ?_;refine s_r ?_;refine m_v rfl rfl ?_;refine m_v rfl rfl ?_;rotate_right)
  · have hne:exE0 es l.length ≠ 0:=hcd
    have hE:exE es l = exE0 es l.length:=by rw [exE,if_pos hne]
    have hL:exL es l = []:=by rw [exL,if_neg (by rw [hE];exact hne)]
    rw [hE,hL]
    refine tr_rowNil 66 2 ?_
    first | with_reducible apply tr_retM | with_reducible apply tr_endM
    case he=>exact ends2 rfl rfl rfl
    case hR=>
      intro w' hm'
      exact gives_end (.slice none 0 0) trivial (show Takes _ [row 66 2 (.slice none 0 0) 0 []] _ by exact .cons .here .nil) hm' rfl
  have hz0:exE0 es l.length = 0:=Decidable.not_not.1 hcd
  have hz1:=hz0
  unfold exE0 at hz1
  rw [firstF_zero] at hz1
  simp only [List.mem_cons,List.not_mem_nil,or_false,forall_eq_or_imp,forall_eq] at hz1
  rw [whenF_zero (by decide)] at hz1
  have hl32:l.length ≤ 32:=by have:=hz1.2;simp at this;omega
  have hs:=Sound.of hz1.1
  rename_i b2' hb2'
  with_reducible apply tr_call
  case hr=>exact rk_call (.of rfl) (.cons (.of rfl) (.cons (.of rfl) .nil)) inferInstance normc_
  case hd=>rfl
  case ht=>exact Takes.nil
  case hc=>
    intro w1 fp hm1 _ hs1
    obtain rfl:fp = []:=hs1
    refine mapSe (f:=112) (first:=[]) (img:=l.map (seE es.length)) (h2.keeps hm1.keeps) rfl (by rw [lenV,seL_length]) (by rw [seL_length];omega) (seL_one l) ?_
    intro i r e hr he w' hk'
    have hm':=hm1.keepsOn hk'
    simp only [seL,List.getElem?_map,Option.map_eq_some_iff] at hr he
    obtain ⟨x,hx,rfl⟩:=hr
    obtain ⟨y,hy,rfl⟩:=he
    rw [hx] at hy;cases hy
    exact seC_c x ((At.lit (by exact Take.there .here) (by exact rfl) _ hm'))
  intro v _
  dsimp only [id_eq,List.cons_append,List.nil_append]
  with_reducible apply tr_callV
  case hr=>exact rk_call (.of rfl) (.cons (.of rfl) .nil) inferInstance normc_
  case hd=>rfl
  case hc=>
    intro w' hm'
    exact first_pB (Mem.rdRow1 hm' (by exact .here) (by rw [lenV,lenV,seL_length])) (IntL.map _)
  (refine a_s rfl rfl ?_;refine n_r ?_;refine m_v rfl rfl ?_;refine tr_val (rk_neq (.of rfl) (.of rfl)) rfl ?_;refine n_t ?_;refine c_d rfl (fun hcd=>?_) (fun hcd=>?_);refine s_r ?_;refine m_v rfl rfl ?_;refine a_s rfl rfl ?_;refine a_s rfl rfl ?_;refine n_t ?_;refine r_t ?_;rotate_left;refine s_t ?_;refine s_r ?_;refine tr_val (rk_loadB (.of rfl) (.there (.there .here)) norm_ (by rfl)) rfl ?_;rotate_right)
  · have hne:firstF (l.map (seE es.length)) ≠ 0:=hcd
    have hE:exE es l = firstF (l.map (seE es.length)):=by rw [exE,if_neg (by rw [hz0];decide),if_pos hne]
    have hL:exL es l = []:=by rw [exL,if_neg (by rw [hE];exact hne)]
    rw [hE,hL]
    refine tr_rowNil 66 2 ?_
    first | with_reducible apply tr_retM | with_reducible apply tr_endM
    case he=>exact ends2 rfl rfl rfl
    case hR=>
      intro w' hm'
      exact gives_end (.slice none 0 0) trivial (show Takes _ [row 66 2 (.slice none 0 0) 0 []] _ by exact .cons .here .nil) hm' rfl
  have hz2:firstF (l.map (seE es.length)) = 0:=Decidable.not_not.1 hcd
  have hE:exE es l = whenF (l.any (exBad es)) 14:=by rw [exE,if_neg (by rw [hz0];decide),if_neg (by rw [hz2];decide)]
  have hin:∀ x ∈ l,0 ≤ x.en ∧ x.en < es.length ∧ -1000000 ≤ x.off ∧ x.off ≤ 1000000 ∧ 1 ≤ x.ln ∧ x.ln ≤ 1000000:=by
    intro x hx
    have h:=firstF_zero.1 hz2 (seE es.length x) (List.mem_map.2 ⟨x,hx,rfl⟩)
    unfold seE at h
    rw [firstF_zero] at h
    simp only [List.mem_cons,List.not_mem_nil,or_false,forall_eq_or_imp,forall_eq,withinF_zero] at h
    rw [whenF_zero (by decide)] at h
    obtain ⟨h1,h2,h3⟩:=h
    simp at h1
    omega
  with_reducible apply tr_call
  case hr=>exact rk_call (.of rfl) (.cons (.of rfl) .nil) inferInstance normc_
  case hd=>rfl
  case ht=>exact Takes.nil
  case hc=>
    intro w1 fp hm1 _ hs1
    obtain rfl:fp = []:=hs1
    exact spans_c (h1.keeps hm1.keeps) hs.all.ok hs.all.few (hG.keeps hm1.keeps)
  intro vs _
  dsimp only [id_eq,List.cons_append,List.nil_append]
  have hfew:=hs.all.few
  by_cases hn0:0 < es.length
  · refine tr_rowOpen (E:=191) (sz:=8) (by exact .here) hn0 fun g cap' cur e hcap' hmx' hsz' hl'=>?_
    subst e
    (refine a_s rfl rfl ?_;refine n_r ?_;refine a_s rfl rfl ?_;refine n_t ?_;refine tr_seq ?_;refine s_r ?_;refine m_v rfl rfl ?_;refine tr_val (rk_len_slice (.of rfl)) rfl ?_;refine m_v rfl rfl ?_;refine n_t ?_;refine tr_block ?_)
    refine tr_rowNil 66 2 ?_
    refine tr_for (ι:=Nat × Value) (fun x=>x.1 ≤ l.length ∧ ∀ i,i < x.1 → ∀ h:i < l.length,exBad es l[i] = false) (fun x=>[(38,.int .i64 x.1),(37,.int .i64 l.length),(36,.slice a2 l.length cap2),(9,.slice (some ⟨g,0,none⟩) es.length cap'),(10,x.2)])
      (fun x=>[row 66 2 x.2 x.1 ((exM es (l.take x.1)).flatMap duoV),blk g (.cells (plR es es.length++cur).toArray 191 (0,0))]) (fun x=>l.length - x.1) ?_ ?_
    · apply tr_start (0,.slice none 0 0) ⟨Nat.zero_le _,fun i h=>by omega⟩
      case hs1=>exact .cons rfl (.cons rfl (.cons rfl (.cons rfl (.cons rfl .nil))))
      case ht=>
        show Takes _ [row 66 2 (.slice none 0 0) 0 [],_] _
        exact .cons .here (.cons .here .nil)
    rintro ⟨k,v1⟩ ⟨hk,hf⟩
    dsimp only at hk hf ⊢
    by_cases hlt:k < l.length
    · have ha2':=ha2 (by intro e;have:=congrArg List.length e;rw [seL_length] at this;simp at this;subst this;simp at hlt)
      have hcell:=(hc2 k l[k].cells (by rw [seL,List.getElem?_map,List.getElem?_eq_getElem hlt];rfl)).2
      have hb:=hin _ (List.getElem_mem hlt)
      have htk:(exM es (l.take (k + 1))).flatMap duoV = (exM es (l.take k)).flatMap duoV++duoV (exFrom es l[k],exFrom es l[k] + l[k].ln):=by
        rw [List.take_succ_eq_append_getElem hlt,exM,List.map_append,List.flatMap_append];simp [exM]
      generalize hx:l[k] = x at hcell hb htk
      obtain ⟨en,fe,off,ln⟩:=x
      unfold Se.cells at hcell
      dsimp only at hcell hb
      have hen:en.toNat < es.length:=by omega
      have hnn:=hs.fr_nn hen
      have c1:=plR_cells (es:=es) (n:=es.length) cur hen
      unfold plL at c1
      cases fe with
      | false =>
        (refine s_r ?_;refine tr_val (rk_lss (.of rfl) (.of rfl)) rfl ?_;refine n_t ?_;refine tr_seq ?_;refine c_d rfl (fun hcd=>?_) (fun _=>by omega);refine s_t ?_;refine tr_seq ?_;refine tr_block ?_;refine s_r ?_;refine tr_val (rk_indexAddr (.of rfl) (.of rfl) ha2' (by omega) hcd norm1_) rfl ?_;refine tr_val (rk_loadN (.of rfl) (Ats.base hcell rfl) rfl) rfl ?_;refine tr_new (rk_alloc rfl) rfl (fun _ _=>?_);refine tr_store (.of rfl) (.of rfl) .here rfl rfl (okc_cons rfl (okc_cons rfl (okc_cons rfl (okc_cons rfl okc_nil)))) (lenb rfl) norm_ ?_;refine n_r ?_;refine m_v rfl rfl ?_;refine f_a rfl rfl norm0_ ?_;refine tr_val (rk_load1 (.of rfl) (At.lit .here rfl)) rfl ?_;refine tr_val (rk_indexAddr (.of rfl) (.of rfl) rfl (by omega) (by omega) norm1_) rfl ?_;refine tr_val (rk_loadB (.of rfl) (.there (.there .here)) c1 rfl) rfl ?_;refine tr_new (rk_alloc rfl) rfl (fun _ _=>?_);refine tr_store (.of rfl) (.of rfl) .here rfl rfl (okc_cons rfl (okc_cons rfl (okc_cons rfl (okc_cons rfl (okc_cons rfl (okc_cons rfl (okc_cons rfl (okc_cons rfl okc_nil)))))))) (lenb rfl) norm_ ?_;refine n_r ?_;refine f_a rfl rfl norm0_ ?_;refine f_a rfl rfl norm0_ ?_;refine tr_val (rk_load1 (.of rfl) (At.lit .here rfl)) rfl ?_;refine f_a rfl rfl norm0_ ?_;refine tr_val (rk_load1 (.of rfl) (At.lit (.there .here) rfl)) rfl ?_;refine tr_val (rk_add (.of rfl) (.of rfl) (ini (by omega))) rfl ?_;refine a_s rfl rfl ?_;refine n_t ?_;refine tr_seq ?_;refine s_r ?_;refine f_a rfl rfl norm0_ ?_;refine tr_val (rk_load1 (.of rfl) (At.lit (.there .here) rfl)) rfl ?_;refine n_t ?_;refine tr_cond_f (.of rfl) ?_;refine s_t ?_;refine tr_seq ?_;refine s_r ?_;refine m_v rfl rfl ?_;refine f_a rfl rfl norm0_ ?_;refine f_a rfl rfl norm0_ ?_;refine tr_val (rk_load1 (.of rfl) (At.lit .here rfl)) rfl ?_;refine tr_val (rk_lss (.of rfl) (.of rfl)) rfl ?_;refine m_v rfl rfl ?_;refine v_g rfl rfl rfl rfl ?_;refine tr_vG1 rfl rfl inferInstance (fun hg hgp=>(rk_fieldAddr (.of rfl) norm0_)) rfl ?_;refine tr_vG1 rfl rfl inferInstance (fun hg hgp=>(rk_load1 (.ofg hg rfl) (At.lit (.there .here) rfl))) rfl ?_;refine tr_vG1 rfl rfl inferInstance (fun hg hgp=>(rk_add (.ofg hg rfl) (.ofg hg rfl) (ini (by omega)))) rfl ?_;refine tr_vG1 rfl rfl inferInstance (fun hg hgp=>(rk_fieldAddr (.of rfl) norm0_)) rfl ?_;refine tr_vG1 rfl rfl inferInstance (fun hg hgp=>(rk_fieldAddr (.ofg hg rfl) norm0_)) rfl ?_;refine tr_vG1 rfl rfl inferInstance (fun hg hgp=>(rk_load1 (.ofg hg rfl) (At.lit .here rfl))) rfl ?_;refine tr_vG1 rfl rfl inferInstance (fun hg hgp=>(rk_gtr (.ofg hg rfl) (.ofg hg rfl))) rfl ?_;refine tr_val (rk_pick_or (.of rfl) rfl) rfl ?_;refine n_t ?_;refine c_b rfl (fun hcd=>?_) (fun hcd=>?_);refine s_r ?_;refine a_s rfl rfl ?_;refine a_s rfl rfl ?_;refine n_t ?_;refine r_t ?_;refine tr_blk_ret ?_;refine tr_then_ret ?_;refine tr_then_ret ?_;refine tr_blk_ret ?_;refine tr_then_ret ?_;rotate_left;refine s_t ?_;refine tr_region ?_;refine m_v rfl rfl ?_;refine m_v rfl rfl ?_;refine m_v rfl rfl ?_;refine f_a rfl rfl norm0_ ?_;refine tr_val (rk_load1 (.of rfl) (At.lit (.there .here) rfl)) rfl ?_;refine tr_val (rk_add (.of rfl) (.of rfl) (ini (by omega))) rfl ?_;refine tr_val (rk_buildL (.cons (.of rfl) (.cons (.of rfl) .nil)) norm_) rfl ?_;refine tr_new (rk_sliceLitN (.cons (.of rfl) .nil) rfl rfl normp_ normp_ norm_) rfl (fun _ _=>?_);rotate_right)
        · have hbad:exBad es ⟨en,false,off,ln⟩ = true:=by
            unfold exBad exFrom
            simp only [Bool.or_eq_true,decide_eq_true_eq]
            exact hcd
          have hany:l.any (exBad es) = true:=List.any_eq_true.2 ⟨_,List.getElem_mem hlt,by rw [hx];exact hbad⟩
          rw [hany] at hE
          have hE':exE es l = 14:=hE
          have hL:exL es l = []:=by rw [exL,if_neg (by rw [hE'];decide)]
          rw [hE',hL]
          refine tr_rowNil 66 2 ?_
          first | with_reducible apply tr_retM | with_reducible apply tr_endM
          case he=>exact ends2 rfl rfl rfl
          case hR=>
            intro w' hm'
            exact gives_end (.slice none 0 0) trivial (show Takes _ [row 66 2 (.slice none 0 0) 0 []] _ by exact .cons .here .nil) hm' rfl
        · have hok:exBad es ⟨en,false,off,ln⟩ = false:=by
            unfold exBad exFrom
            simp only [Bool.or_eq_false_iff,decide_eq_false_iff_not]
            exact hcd
          refine tr_appendB (.of rfl) (.of rfl) (.there (.there (.there .here))) .here norm_ (by rfl) (okc_cons rfl (okc_cons rfl okc_nil)) (by rfl) (by rfl) (by rfl) lenx_ (by rfl) ?_
          intro v'
          (refine a_s rfl rfl ?_;refine tr_nil ?_;refine tr_blk_normal ?_;refine tr_then ?_;refine tr_region ?_;refine tr_val (rk_add (.of rfl) (.of rfl) (ini (by omega))) rfl ?_;refine m_v rfl rfl ?_;refine n_t ?_)
          apply tr_next (k + 1,v') ⟨by show k + 1 ≤ l.length;omega,fun i hi hi2=>by
            by_cases e:i = k
            · subst e;rw [hx];exact hok
            · exact hf i (by omega) hi2⟩ (by show l.length - (k + 1) < l.length - k;omega)
          case hs1=>exact .cons rfl (.cons rfl (.cons rfl (.cons rfl (.cons rfl .nil))))
          case ht=>
            show Takes _ [row 66 2 v' (k + 1) ((exM es (l.take (k + 1))).flatMap duoV),_] _
            rw [htk]
            show Takes _ [row 66 2 v' (k + 1) ((exM es (l.take k)).flatMap duoV++[.int .i64 (fr es en.toNat + off),.int .i64 (fr es en.toNat + off + ln)]),_] _
            exact .cons .here (.cons (.there (.there (.there .here))) .nil)
      | true =>
        (refine s_r ?_;refine tr_val (rk_lss (.of rfl) (.of rfl)) rfl ?_;refine n_t ?_;refine tr_seq ?_;refine c_d rfl (fun hcd=>?_) (fun _=>by omega);refine s_t ?_;refine tr_seq ?_;refine tr_block ?_;refine s_r ?_;refine tr_val (rk_indexAddr (.of rfl) (.of rfl) ha2' (by omega) hcd norm1_) rfl ?_;refine tr_val (rk_loadN (.of rfl) (Ats.base hcell rfl) rfl) rfl ?_;refine tr_new (rk_alloc rfl) rfl (fun _ _=>?_);refine tr_store (.of rfl) (.of rfl) .here rfl rfl (okc_cons rfl (okc_cons rfl (okc_cons rfl (okc_cons rfl okc_nil)))) (lenb rfl) norm_ ?_;refine n_r ?_;refine m_v rfl rfl ?_;refine f_a rfl rfl norm0_ ?_;refine tr_val (rk_load1 (.of rfl) (At.lit .here rfl)) rfl ?_;refine tr_val (rk_indexAddr (.of rfl) (.of rfl) rfl (by omega) (by omega) norm1_) rfl ?_;refine tr_val (rk_loadB (.of rfl) (.there (.there .here)) c1 rfl) rfl ?_;refine tr_new (rk_alloc rfl) rfl (fun _ _=>?_);refine tr_store (.of rfl) (.of rfl) .here rfl rfl (okc_cons rfl (okc_cons rfl (okc_cons rfl (okc_cons rfl (okc_cons rfl (okc_cons rfl (okc_cons rfl (okc_cons rfl okc_nil)))))))) (lenb rfl) norm_ ?_;refine n_r ?_;refine f_a rfl rfl norm0_ ?_;refine f_a rfl rfl norm0_ ?_;refine tr_val (rk_load1 (.of rfl) (At.lit .here rfl)) rfl ?_;refine f_a rfl rfl norm0_ ?_;refine tr_val (rk_load1 (.of rfl) (At.lit (.there .here) rfl)) rfl ?_;refine tr_val (rk_add (.of rfl) (.of rfl) (ini (by omega))) rfl ?_;refine a_s rfl rfl ?_;refine n_t ?_;refine tr_seq ?_;refine s_r ?_;refine f_a rfl rfl norm0_ ?_;refine tr_val (rk_load1 (.of rfl) (At.lit (.there .here) rfl)) rfl ?_;refine n_t ?_;refine tr_cond_t (.of rfl) ?_;refine tr_region ?_;refine f_a rfl rfl norm0_ ?_;refine f_a rfl rfl norm0_ ?_;refine tr_val (rk_load1 (.of rfl) (At.lit .here rfl)) rfl ?_;refine f_a rfl rfl norm0_ ?_;refine tr_val (rk_load1 (.of rfl) (At.lit (.there .here) rfl)) rfl ?_;refine tr_val (rk_add (.of rfl) (.of rfl) (ini (by omega))) rfl ?_;refine a_s rfl rfl ?_;refine n_t ?_;refine tr_seq ?_;refine s_r ?_;refine m_v rfl rfl ?_;refine f_a rfl rfl norm0_ ?_;refine f_a rfl rfl norm0_ ?_;refine tr_val (rk_load1 (.of rfl) (At.lit .here rfl)) rfl ?_;refine tr_val (rk_lss (.of rfl) (.of rfl)) rfl ?_;refine m_v rfl rfl ?_;refine v_g rfl rfl rfl rfl ?_;refine tr_vG1 rfl rfl inferInstance (fun hg hgp=>(rk_fieldAddr (.of rfl) norm0_)) rfl ?_;refine tr_vG1 rfl rfl inferInstance (fun hg hgp=>(rk_load1 (.ofg hg rfl) (At.lit (.there .here) rfl))) rfl ?_;refine tr_vG1 rfl rfl inferInstance (fun hg hgp=>(rk_add (.ofg hg rfl) (.ofg hg rfl) (ini (by omega)))) rfl ?_;refine tr_vG1 rfl rfl inferInstance (fun hg hgp=>(rk_fieldAddr (.of rfl) norm0_)) rfl ?_;refine tr_vG1 rfl rfl inferInstance (fun hg hgp=>(rk_fieldAddr (.ofg hg rfl) norm0_)) rfl ?_;refine tr_vG1 rfl rfl inferInstance (fun hg hgp=>(rk_load1 (.ofg hg rfl) (At.lit .here rfl))) rfl ?_;refine tr_vG1 rfl rfl inferInstance (fun hg hgp=>(rk_gtr (.ofg hg rfl) (.ofg hg rfl))) rfl ?_;refine tr_val (rk_pick_or (.of rfl) rfl) rfl ?_;refine n_t ?_;refine c_b rfl (fun hcd=>?_) (fun hcd=>?_);refine s_r ?_;refine a_s rfl rfl ?_;refine a_s rfl rfl ?_;refine n_t ?_;refine r_t ?_;refine tr_blk_ret ?_;refine tr_then_ret ?_;refine tr_then_ret ?_;refine tr_blk_ret ?_;refine tr_then_ret ?_;rotate_left;refine s_t ?_;refine tr_region ?_;refine m_v rfl rfl ?_;refine m_v rfl rfl ?_;refine m_v rfl rfl ?_;refine f_a rfl rfl norm0_ ?_;refine tr_val (rk_load1 (.of rfl) (At.lit (.there .here) rfl)) rfl ?_;refine tr_val (rk_add (.of rfl) (.of rfl) (ini (by omega))) rfl ?_;refine tr_val (rk_buildL (.cons (.of rfl) (.cons (.of rfl) .nil)) norm_) rfl ?_;refine tr_new (rk_sliceLitN (.cons (.of rfl) .nil) rfl rfl normp_ normp_ norm_) rfl (fun _ _=>?_);rotate_right)
        · have hbad:exBad es ⟨en,true,off,ln⟩ = true:=by
            unfold exBad exFrom
            simp only [Bool.or_eq_true,decide_eq_true_eq]
            exact hcd
          have hany:l.any (exBad es) = true:=List.any_eq_true.2 ⟨_,List.getElem_mem hlt,by rw [hx];exact hbad⟩
          rw [hany] at hE
          have hE':exE es l = 14:=hE
          have hL:exL es l = []:=by rw [exL,if_neg (by rw [hE'];decide)]
          rw [hE',hL]
          refine tr_rowNil 66 2 ?_
          first | with_reducible apply tr_retM | with_reducible apply tr_endM
          case he=>exact ends2 rfl rfl rfl
          case hR=>
            intro w' hm'
            exact gives_end (.slice none 0 0) trivial (show Takes _ [row 66 2 (.slice none 0 0) 0 []] _ by exact .cons .here .nil) hm' rfl
        · have hok:exBad es ⟨en,true,off,ln⟩ = false:=by
            unfold exBad exFrom
            simp only [Bool.or_eq_false_iff,decide_eq_false_iff_not]
            exact hcd
          refine tr_appendB (.of rfl) (.of rfl) (.there (.there (.there .here))) .here norm_ (by rfl) (okc_cons rfl (okc_cons rfl okc_nil)) (by rfl) (by rfl) (by rfl) lenx_ (by rfl) ?_
          intro v'
          (refine a_s rfl rfl ?_;refine tr_nil ?_;refine tr_blk_normal ?_;refine tr_then ?_;refine tr_region ?_;refine tr_val (rk_add (.of rfl) (.of rfl) (ini (by omega))) rfl ?_;refine m_v rfl rfl ?_;refine n_t ?_)
          apply tr_next (k + 1,v') ⟨by show k + 1 ≤ l.length;omega,fun i hi hi2=>by
            by_cases e:i = k
            · subst e;rw [hx];exact hok
            · exact hf i (by omega) hi2⟩ (by show l.length - (k + 1) < l.length - k;omega)
          case hs1=>exact .cons rfl (.cons rfl (.cons rfl (.cons rfl (.cons rfl .nil))))
          case ht=>
            show Takes _ [row 66 2 v' (k + 1) ((exM es (l.take (k + 1))).flatMap duoV),_] _
            rw [htk]
            show Takes _ [row 66 2 v' (k + 1) ((exM es (l.take k)).flatMap duoV++[.int .i64 (to es en.toNat + off),.int .i64 (to es en.toNat + off + ln)]),_] _
            exact .cons .here (.cons (.there (.there (.there .here))) .nil)
    · obtain rfl:k = l.length:=by omega
      have hany:l.any (exBad es) = false:=by
        rw [List.any_eq_false]
        intro x hx
        obtain ⟨i,hi,rfl⟩:=List.getElem_of_mem hx
        rw [hf i hi hi];decide
      rw [hany] at hE
      have hE':exE es l = 0:=hE
      have hL:exL es l = exM es l:=by rw [exL,if_pos hE'];rfl
      rw [hE',hL,List.take_length]
      have hlm:(exM es l).length = l.length:=lenV _ l
      rw [hlm]
      (refine s_r ?_;refine tr_val (rk_lss (.of rfl) (.of rfl)) rfl ?_;refine n_t ?_;refine tr_seq ?_;refine c_d rfl (fun _=>by omega) (fun hcd=>?_);refine x_t ?_;refine tr_then_exit ?_;refine tr_blk_exit ?_;refine tr_then ?_;refine s_r ?_;refine m_v rfl rfl ?_;refine a_s rfl rfl ?_;refine a_s rfl rfl ?_;refine n_t ?_;refine tr_ret ?_)
      first | with_reducible apply tr_retM | with_reducible apply tr_endM
      case he=>exact ends2 rfl rfl rfl
      case hR=>
        intro w' hm'
        exact gives_end v1 trivial (by exact .cons .here .nil) hm' rfl
  · have hl0:l = []:=by
      cases l with
      | nil=>rfl
      | cons x r=>have:=hin x (by simp);omega
    subst hl0
    have hE':exE es [] = 0:=hE
    have hL:exL es [] = []:=by rw [exL,if_pos hE'];rfl
    rw [hE',hL]
    (refine a_s rfl rfl ?_;refine n_r ?_;refine a_s rfl rfl ?_;refine n_t ?_;refine tr_seq ?_;refine s_r ?_;refine m_v rfl rfl ?_;refine tr_val (rk_len_slice (.of rfl)) rfl ?_;refine m_v rfl rfl ?_;refine n_t ?_;refine tr_block ?_)
    refine tr_for (ι:=Unit) (fun _=>True) (fun _=>[(38,.int .i64 0),(37,.int .i64 0),(36,.slice a2 0 cap2),(10,.slice none 0 0)])
      (fun _=>[]) (fun _=>0) ?_ ?_
    · apply tr_start () trivial
      case hs1=>exact .cons rfl (.cons rfl (.cons rfl (.cons rfl .nil)))
      case ht=>exact .nil
    rintro ⟨⟩ _
    (refine s_r ?_;refine tr_val (rk_lss (.of rfl) (.of rfl)) rfl ?_;refine n_t ?_;refine tr_seq ?_;refine c_d rfl (fun _=>by omega) (fun hcd=>?_);refine x_t ?_;refine tr_then_exit ?_;refine tr_blk_exit ?_;refine tr_then ?_;refine s_r ?_;refine m_v rfl rfl ?_;refine a_s rfl rfl ?_;refine a_s rfl rfl ?_;refine n_t ?_;refine tr_ret ?_)
    refine tr_rowNil 66 2 ?_
    first | with_reducible apply tr_retM | with_reducible apply tr_endM
    case he=>exact ends2 rfl rfl rfl
    case hR=>
      intro w' hm'
      exact gives_end (.slice none 0 0) trivial (show Takes _ [row 66 2 (.slice none 0 0) 0 []] _ by exact .cons .here .nil) hm' rfl
end Go.Proofs.A1
namespace Go.Proofs.A1
open Go Go.SL
theorem vi2_c (r:Ri) {b:Nat} {m:ByteArray} {f t:Int} {w:World} (h1:w.cell? ⟨b,1,none⟩ = some (.string m)) (h6:w.cell? ⟨b,6,none⟩ = some (.int .i64 f)) (h7:w.cell? ⟨b,7,none⟩ = some (.int .i64 t)) :
    GivesV Tryz.prog 119 [.agg r.cells.toArray,.pointer (some ⟨b,0,none⟩)] w (.bool (riOk r m f t)):=by
  unfold Ri.cells
  refine givesV_of_tr Tryz.func119 rfl rfl ?_
  have h7':w.cell? ⟨b,6 + 1,none⟩ = some (.int .i64 t):=h7
  (refine s_r ?_;refine tr_new (rk_box (.of rfl) rfl) rfl (fun _ _=>?_);refine a_s rfl rfl ?_;refine n_r ?_;refine f_a rfl rfl norm0_ ?_;refine tr_val (rk_load1 (.of rfl) (At.lit .here rfl)) rfl ?_;refine f_a rfl rfl norm0_ ?_;refine f_a rfl rfl norm0_ ?_;refine tr_val (rk_load1 (.of rfl) (At.base h1 rfl)) rfl ?_;refine tr_val (rk_eqls (.of rfl) (.of rfl)) rfl ?_;refine m_v rfl rfl ?_;refine tr_vG1 rfl rfl inferInstance (fun hg hgp=>(rk_fieldAddr (.of rfl) norm0_)) rfl ?_;refine tr_vG1 rfl rfl inferInstance (fun hg hgp=>(rk_fieldAddr (.ofg hg rfl) norm0_)) rfl ?_;refine tr_vG1 rfl rfl inferInstance (fun hg hgp=>(rk_load1 (.ofg hg rfl) (At.lit .here rfl))) rfl ?_;refine tr_vG1 rfl rfl inferInstance (fun hg hgp=>(rk_fieldAddr (.of rfl) norm0_)) rfl ?_;refine tr_vG1 rfl rfl inferInstance (fun hg hgp=>(rk_fieldAddr (.ofg hg rfl) norm0_)) rfl ?_;refine tr_vG1 rfl rfl inferInstance (fun hg hgp=>(rk_load1 (.ofg hg rfl) (At.base h6 rfl))) rfl ?_;refine tr_vG1 rfl rfl inferInstance (fun hg hgp=>(rk_leq (.ofg hg rfl) (.ofg hg rfl))) rfl ?_;refine tr_val (rk_pick_and (.of rfl) rfl) rfl ?_;refine m_v rfl rfl ?_;refine tr_vG1 rfl rfl inferInstance (fun hg hgp=>(rk_fieldAddr (.of rfl) norm0_)) rfl ?_;refine tr_vG1 rfl rfl inferInstance (fun hg hgp=>(rk_fieldAddr (.ofg hg rfl) norm0_)) rfl ?_;refine tr_vG1 rfl rfl inferInstance (fun hg hgp=>(rk_load1 (.ofg hg rfl) (At.base h7' rfl))) rfl ?_;refine tr_vG1 rfl rfl inferInstance (fun hg hgp=>(rk_fieldAddr (.of rfl) norm0_)) rfl ?_;refine tr_vG1 rfl rfl inferInstance (fun hg hgp=>(rk_fieldAddr (.ofg hg rfl) norm0_)) rfl ?_;refine tr_vG1 rfl rfl inferInstance (fun hg hgp=>(rk_load1 (.ofg hg rfl) (At.lit .here rfl))) rfl ?_;refine tr_vG1 rfl rfl inferInstance (fun hg hgp=>(rk_leq (.ofg hg rfl) (.ofg hg rfl))) rfl ?_;refine tr_val (rk_pick_and (.of rfl) rfl) rfl ?_;refine a_s rfl rfl ?_;refine n_t ?_;refine tr_ret ?_;refine tr_retE rfl (ends1 rfl rfl) ?_)
  rfl
def riL (l:List Ri):List (List Value):=l.map Ri.cells
theorem riL_length (l:List Ri):(riL l).length = l.length:=lenV Ri.cells l
theorem riL_one (l:List Ri):∀ r ∈ riL l,∀ u ∈ r,u.oneCell' = true:=by
  intro r hr
  obtain ⟨x,_,rfl⟩:=List.mem_map.1 hr
  unfold Ri.cells
  exact okc_cons rfl (okc_cons rfl (okc_cons rfl okc_nil))
def idxF (p:Ri → Bool) (l:List Ri):Int:=((List.range l.length).find? fun i=>(l[i]?.map p).getD false).elim (-1) (fun i=>(i:Int))
theorem idxF_at {p:Ri → Bool} {l:List Ri} {k:Nat} (h:∀ i,i < k → (l[i]?.map p).getD false = false) (hk:k < l.length) (hp:p l[k] = true):idxF p l = k:=by
  unfold idxF
  have:(List.range l.length).find? (fun i=>(l[i]?.map p).getD false) = some k:=by
    rw [List.find?_range_eq_some]
    exact ⟨by simp [hk,hp],by simpa using hk,fun i hi=>by simpa using h i hi⟩
  rw [this];rfl
theorem idxF_none {p:Ri → Bool} {l:List Ri} (h:∀ i,i < l.length → (l[i]?.map p).getD false = false):idxF p l = -1:=by
  unfold idxF
  have:(List.range l.length).find? (fun i=>(l[i]?.map p).getD false) = none:=by
    rw [List.find?_eq_none]
    intro i hi
    simp [h i (List.mem_range.1 hi)]
  rw [this];rfl
theorem idxF_any (p:Ri → Bool) (l:List Ri):decide (0 ≤ idxF p l) = l.any p:=by
  unfold idxF
  cases h:(List.range l.length).find? fun i=>(l[i]?.map p).getD false with
  | none =>
    have:l.any p = false:=by
      rw [List.any_eq_false]
      intro x hx
      obtain ⟨i,hi,rfl⟩:=List.getElem_of_mem hx
      have:=List.find?_eq_none.1 h i (List.mem_range.2 hi)
      simpa [hi] using this
    rw [this];rfl
  | some i =>
    have h1:=List.mem_range.1 (List.mem_of_find?_eq_some h)
    have h2:=List.find?_some h
    have:l.any p = true:=by
      rw [List.any_eq_true]
      exact ⟨l[i],List.getElem_mem h1,by simpa [h1] using h2⟩
    rw [this];simp
theorem idxRi_c {lv:Value} {l:List Ri} {p:Ri → Bool} {f:FuncId} {first cap:List Value} [Bod Tryz.prog f] {w:World} (h:Rd w lv 3 (riL l)) (hcall:∀ x ∈ l,∀ w',Keeps [] w w' → GivesV Tryz.prog f (first++[.agg x.cells.toArray]++cap) w' (.bool (p x))) :
    GivesV Tryz.prog 178 [lv,.func (.func f) first.toArray cap.toArray] w (.int .i64 (idxF p l)):=by
  obtain ⟨a,cp,b,o,rfl,hcap,hmax,ha,hc⟩:=h
  rw [riL_length] at *
  unfold maxLen at hmax
  refine givesV_of_tr Tryz.func178 rfl rfl ?_
  (refine s_r ?_;refine a_s rfl rfl ?_;refine n_t ?_;refine tr_seq ?_;refine s_r ?_;refine m_v rfl rfl ?_;refine tr_val (rk_len_slice (.of rfl)) rfl ?_;refine m_v rfl rfl ?_;refine n_t ?_;refine tr_block ?_)
  refine tr_for (fun k:Nat=>k ≤ l.length ∧ ∀ i,i < k → (l[i]?.map p).getD false = false) (fun k=>[(8,.int .i64 k),(7,.int .i64 l.length),(0,.slice a l.length cp),(1,.func (.func f) first.toArray cap.toArray)]) (fun _=>[]) (fun k=>l.length - k) ?_ ?_
  · apply tr_start 0 ⟨Nat.zero_le _,fun i h=>by omega⟩
    case hs1=>exact .cons rfl (.cons rfl (.cons rfl (.cons rfl .nil)))
    case ht=>(try simp only [List.take_zero,List.map_nil,List.nil_append]);exact .nil
  rintro k ⟨hk,hf⟩
  by_cases hlt:k < l.length
  · have ha':=ha (by intro e;have:=congrArg List.length e;rw [riL_length] at this;simp at this;subst this;simp at hlt)
    have hcell:=(hc k l[k].cells (by rw [riL,List.getElem?_map,List.getElem?_eq_getElem hlt];rfl)).2
    have hcl:=hcall _ (List.getElem_mem hlt)
    have hps:(l[k]?.map p).getD false = p l[k]:=by simp [hlt]
    unfold Ri.cells at hcell hcl
    (refine s_r ?_;refine tr_val (rk_lss (.of rfl) (.of rfl)) rfl ?_;refine n_t ?_;refine tr_seq ?_;refine c_d rfl (fun hcd=>?_) (fun _=>by omega);refine s_t ?_;refine tr_seq ?_;refine tr_block ?_;refine s_r ?_;refine m_v rfl rfl ?_;refine a_s rfl rfl ?_;refine n_r ?_;refine m_v rfl rfl ?_;refine m_v rfl rfl ?_;refine m_v rfl rfl ?_;refine tr_val (rk_indexAddr (.of rfl) (.of rfl) ha' (by omega) hcd norm1_) rfl ?_;refine tr_val (rk_loadN (.of rfl) (Ats.base hcell rfl) rfl) rfl ?_;refine tr_callV (rk_call (.of rfl) (.cons (.of rfl) .nil) inferInstance normc_) rfl (fun w' hm'=>(hcl w' (Mem.keeps hm'))) ?_;refine n_t ?_;refine c_b rfl (fun hcd=>?_) (fun hcd=>?_);refine s_r ?_;refine m_v rfl rfl ?_;refine a_s rfl rfl ?_;refine n_t ?_;refine tr_ret ?_;refine tr_blk_ret ?_;refine tr_then_ret ?_;refine tr_then_ret ?_;refine tr_blk_ret ?_;refine tr_then_ret ?_;refine tr_retE rfl (ends1 rfl rfl) ?_;rotate_left;refine tr_skip ?_;refine tr_blk_normal ?_;refine tr_then ?_;refine tr_region ?_;refine tr_val (rk_add (.of rfl) (.of rfl) (ini (by omega))) rfl ?_;refine m_v rfl rfl ?_;refine n_t ?_;rotate_right)
    · rw [idxF_at hf hlt hcd]
    · apply tr_next (k + 1) ⟨by omega,fun i hi=>by
        by_cases e:i = k
        · rw [e,hps];exact hcd
        · exact hf i (by omega)⟩ (by omega)
      case hs1=>exact .cons rfl (.cons rfl (.cons rfl (.cons rfl .nil)))
      case ht=>(try simp only [List.take_zero,List.map_nil,List.nil_append]);exact .nil
  · obtain rfl:k = l.length:=by omega
    (refine s_r ?_;refine tr_val (rk_lss (.of rfl) (.of rfl)) rfl ?_;refine n_t ?_;refine tr_seq ?_;refine c_d rfl (fun _=>by omega) (fun hcd=>?_);refine x_t ?_;refine tr_then_exit ?_;refine tr_blk_exit ?_;refine tr_then ?_;refine s_r ?_;refine a_s rfl rfl ?_;refine n_t ?_;refine tr_ret ?_;refine tr_retE rfl (ends1 rfl rfl) ?_)
    rw [idxF_none hf]
theorem hasRi_c {lv:Value} {l:List Ri} {p:Ri → Bool} {f:FuncId} {first cap:List Value} [Bod Tryz.prog f] {w:World} (h:Rd w lv 3 (riL l)) (hcall:∀ x ∈ l,∀ w',Keeps [] w w' → GivesV Tryz.prog f (first++[.agg x.cells.toArray]++cap) w' (.bool (p x))) :
    GivesV Tryz.prog 118 [lv,.func (.func f) first.toArray cap.toArray] w (.bool (l.any p)):=by
  have hcl:∀ w',Keeps [] w w' → GivesV Tryz.prog 178 [lv,.func (.func f) first.toArray cap.toArray] w' (.int .i64 (idxF p l)):=fun w' hk=>
    idxRi_c (h.keeps hk) fun x hx w2 hk2=>hcall x hx w2 (hk.trans hk2)
  rw [← idxF_any]
  refine givesV_of_tr Tryz.func118 rfl rfl ?_
  (refine s_r ?_;refine a_s rfl rfl ?_;refine n_r ?_;refine m_v rfl rfl ?_;refine m_v rfl rfl ?_;refine tr_callV (rk_call (.of rfl) (.cons (.of rfl) (.cons (.of rfl) .nil)) inferInstance normc_) rfl (fun w' hm'=>(hcl w' (Mem.keeps hm'))) ?_;refine tr_val (rk_geq (.of rfl) (.of rfl)) rfl ?_;refine a_s rfl rfl ?_;refine n_t ?_;refine tr_ret ?_;refine tr_retE rfl (ends1 rfl rfl) ?_)
  rfl
end Go.Proofs.A1
namespace Go.Proofs.A1
open Go Go.SL
def viE (es:List En) (l:List Ri):Int:=if exE0 es l.length ≠ 0 then exE0 es l.length else firstF (l.map riE)
def viB (es:List En) (l:List Ri) (i:Nat):Bool:=!(l.any fun r=>riOk r (nth es i).mt (fr es i) (to es i))
def viN (es:List En) (l:List Ri) (k:Nat):List Nat:=(List.range k).filter (viB es l)
def viL (es:List En) (l:List Ri):List Nat:=if viE es l = 0 then viN es l es.length else []
theorem viN_succ (es:List En) (l:List Ri) (k:Nat):viN es l (k + 1) = viN es l k++if viB es l k then [k] else []:=by
  unfold viN
  rw [List.range_succ,List.filter_append]
  congr 1
  cases h:viB es l k <;> simp [h]
theorem viN_le (es:List En) (l:List Ri) (k:Nat):(viN es l k).length ≤ k:=by
  have:=List.length_filter_le (viB es l) (List.range k)
  simpa [viN] using this
set_option maxHeartbeats 1000000 in
theorem violations_c {sv lv:Value} {es:List En} {l:List Ri} {w:World} (h1:Rd w sv 6 (ensL es)) (h2:Rd w lv 3 (riL l)) (hG:Glob w) :
    Gives Tryz.prog 37 [.agg #[sv],lv] w [] (fun _:Value=>True) (fun v=>.tuple #[v,.int .i64 (viE es l)]) (fun v=>[row 3 1 v (viL es l).length (natsV (viL es l))]):=by
  have h1':=h1
  have h2':=h2
  obtain ⟨a,cap,b,o,rfl,hcap,hmax,ha,hc⟩:=h1'
  obtain ⟨a2,cap2,b2,o2,rfl,hcap2,hmax2,ha2,hc2⟩:=h2'
  rw [ensL_length] at *
  rw [riL_length] at *
  unfold maxLen at hmax hmax2
  refine gives_of_tr Tryz.func37 rfl rfl ?_
  (refine s_r ?_;refine tr_new (rk_box (.of rfl) rfl) rfl (fun _ _=>?_);refine tr_new (rk_box (.of rfl) rfl) rfl (fun _ _=>?_);refine a_s rfl rfl ?_;refine a_s rfl rfl ?_;refine n_t ?_;refine tr_seq ?_;refine tr_seq ?_)
  with_reducible refine tr_draw 6 (by kernel_rfl) ?_
  (refine any_val (rk_loadB (.of rfl) (.there .here) norm_ (by rfl)) rfl ?_;refine any_call (rk_call (.of rfl) (.cons (.of rfl) .nil) inferInstance normc_) rfl (fun w' hm'=>(chk_c (Rd.keeps h1 (Mem.keeps hm')) (Glob.keeps hG (Mem.keeps hm')))) ?_;refine any_val (rk_load1 (.of rfl) (At.lit .here rfl)) rfl ?_;refine any_val (rk_len_slice (.of rfl)) rfl ?_;refine any_val (rk_gtr (.of rfl) (.of rfl)) rfl ?_;refine any_call (rk_call (.of rfl) (.cons (.of rfl) (.cons (.of rfl) .nil)) inferInstance normc_) rfl (fun w' hm'=>(when_c _ 5 w')) ?_)
  with_reducible refine any_end ?_
  (refine tr_new (rk_sliceLit (.cons (.of rfl) (.cons (.of rfl) .nil)) rfl rfl rfl rfl) rfl (fun _ _=>?_);refine tr_callV (rk_call (.of rfl) (.cons (.of rfl) .nil) inferInstance normc_) rfl (fun w' hm'=>(first_pB (Mem.rdBlk hm' .here rfl rfl) (IntL.cons (IntL.cons IntL.nil)))) ?_;refine a_s rfl rfl ?_;refine n_r ?_;refine m_v rfl rfl ?_;refine tr_val (rk_neq (.of rfl) (.of rfl)) rfl ?_;refine n_t ?_;refine c_d rfl (fun hcd=>?_) (fun hcd=>?_);refine s_r ?_;refine m_v rfl rfl ?_;refine a_s rfl rfl ?_;refine a_s rfl rfl ?_;refine n_t ?_;refine r_t ?_;rotate_left;refine s_t ?_;refine s_r ?_;refine a_s rfl rfl ?_;refine n_t ?_;refine tr_seq ?_;refine s_r ?_;refine tr_val (rk_load1 (.of rfl) (At.lit (.there .here) rfl)) rfl ?_;refine m_v rfl rfl ?_;rotate_right)
  · have hne:exE0 es l.length ≠ 0:=hcd
    have hE:viE es l = exE0 es l.length:=by rw [viE,if_pos hne]
    have hL:viL es l = []:=by rw [viL,if_neg (by rw [hE];exact hne)]
    rw [hE,hL]
    refine tr_rowNil 3 1 ?_
    first | with_reducible apply tr_retM | with_reducible apply tr_endM
    case he=>exact ends2 rfl rfl rfl
    case hR=>
      intro w' hm'
      exact gives_end (.slice none 0 0) trivial (show Takes _ [row 3 1 (.slice none 0 0) 0 []] _ by exact .cons .here .nil) hm' rfl
  have hz0:exE0 es l.length = 0:=Decidable.not_not.1 hcd
  have hz1:=hz0
  unfold exE0 at hz1
  rw [firstF_zero] at hz1
  simp only [List.mem_cons,List.not_mem_nil,or_false,forall_eq_or_imp,forall_eq] at hz1
  rw [whenF_zero (by decide)] at hz1
  have hl32:l.length ≤ 32:=by have:=hz1.2;simp at this;omega
  have hs:=Sound.of hz1.1
  have hE:viE es l = firstF (l.map riE):=by rw [viE,if_neg (by rw [hz0];decide)]
  with_reducible apply tr_call
  case hr=>exact rk_call (.of rfl) (.cons (.of rfl) (.cons (.of rfl) .nil)) inferInstance normc_
  case hd=>rfl
  case ht=>exact Takes.nil
  case hc=>
    intro w1 fp hm1 _ hs1
    obtain rfl:fp = []:=hs1
    refine mapRi (f:=115) (first:=[]) (cap:=[]) (img:=l.map riE) (h2.keeps hm1.keeps) rfl (by rw [lenV,riL_length]) (by rw [riL_length];omega) (riL_one l) ?_
    intro i r e hr he w' hk'
    simp only [riL,List.getElem?_map,Option.map_eq_some_iff] at hr he
    obtain ⟨x,hx,rfl⟩:=hr
    obtain ⟨y,hy,rfl⟩:=he
    rw [hx] at hy;cases hy
    exact riC_c x _
  intro vm _
  dsimp only [id_eq,List.cons_append,List.nil_append]
  with_reducible apply tr_callV
  case hr=>exact rk_call (.of rfl) (.cons (.of rfl) .nil) inferInstance normc_
  case hd=>rfl
  case hc=>
    intro w' hm'
    exact first_pB (Mem.rdRow1 hm' (by exact .here) (by rw [lenV,lenV,riL_length])) (IntL.map _)
  rw [hE]
  (refine a_s rfl rfl ?_;refine n_r ?_;refine m_v rfl rfl ?_;refine tr_val (rk_neq (.of rfl) (.of rfl)) rfl ?_;refine n_t ?_;refine c_d rfl (fun hcd=>?_) (fun hcd=>?_);refine s_r ?_;refine m_v rfl rfl ?_;refine a_s rfl rfl ?_;refine a_s rfl rfl ?_;refine n_t ?_;refine r_t ?_;rotate_left;refine s_t ?_;refine s_r ?_;refine tr_new (rk_alloc rfl) rfl (fun _ _=>?_);refine n_t ?_;refine tr_seq ?_;refine s_r ?_;refine tr_val (rk_loadB (.of rfl) (.there (.there (.there (.there .here)))) norm_ (by rfl)) rfl ?_;rotate_right)
  · have hne:firstF (l.map riE) ≠ 0:=hcd
    have hL:viL es l = []:=by rw [viL,if_neg (by rw [hE];exact hne)]
    rw [hL]
    refine tr_rowNil 3 1 ?_
    first | with_reducible apply tr_retM | with_reducible apply tr_endM
    case he=>exact ends2 rfl rfl rfl
    case hR=>
      intro w' hm'
      exact gives_end (.slice none 0 0) trivial (show Takes _ [row 3 1 (.slice none 0 0) 0 []] _ by exact .cons .here .nil) hm' rfl
  have hz2:firstF (l.map riE) = 0:=Decidable.not_not.1 hcd
  have hL:viL es l = viN es l es.length:=by rw [viL,if_pos (by rw [hE];exact hz2)]
  rw [hz2,hL]
  rename_i bs hbs bl hbl bq hbq hcd0 hT b9 hb9
  with_reducible apply tr_call
  case hr=>exact rk_call (.of rfl) (.cons (.of rfl) .nil) inferInstance normc_
  case hd=>rfl
  case ht=>exact Takes.nil
  case hc=>
    intro w1 fp hm1 _ hs1
    obtain rfl:fp = []:=hs1
    exact entries_c _ _ rfl
  intro x1 _
  dsimp only [List.cons_append,List.nil_append]
  (refine n_t ?_;refine tr_block ?_)
  refine tr_rowNil 3 1 ?_
  refine tr_rangeSeq (ps:=[32,33]) (f:=175) (first:=[]) (cap:=[.pointer (some ⟨x1,0,none⟩)]) (ι:=Nat × Value) (κ:=Empty) (rst:=[row 28 1 vm (riL l).length (List.map (Value.int .i64) (List.map riE l)),blk bq (.cells #[.int .i64 (chkF es),.int .i64 (whenF (decide (32 < (l.length:Int))) 5)] 28 (0,0)),blk bs (.cells #[.slice a es.length cap] 33 (0,0))]) ?hg
    [blk x1 (.cells #[.slice a es.length cap] 33 (0,0))] (plcs es) ?hit (fun k x=>x.1 = k)
    (fun x=>[blk b9 (.cells #[x.2] 44 (0,0)),blk bl (.cells #[.slice a2 l.length cap2] 64 (0,0)),row 3 1 x.2 (viN es l x.1).length (natsV (viN es l x.1))])
    (fun _=>False) (fun _=>[]) (fun _=>.ret) (0,.slice none 0 0) rfl ?ht ?hlen ?hps ?round ?kn ?kj
  case hg=>exact Is.of rfl
  case hit=>intro w' hm';exact iter_c h1 hs.all.ok hs.all.few hG (fun h=>by cases h) (Out.nil _ _)
  case ht=>
    show Takes _ [blk b9 (.cells #[.slice none 0 0] 44 (0,0)),blk bl (.cells #[.slice a2 l.length cap2] 64 (0,0)),row 3 1 (.slice none 0 0) 0 [],_] _
    exact .cons (.there (.there .here)) (.cons (.there (.there (.there (.there .here)))) (.cons .here (.cons .here .nil)))
  case hlen=>intro vs hvs;obtain ⟨x,_,rfl⟩:=List.mem_map.1 hvs;rfl
  case hps=>intro t ht;simp only [List.mem_cons,List.not_mem_nil,or_false] at ht;rcases ht with rfl | rfl <;> exact Nat.le_of_ble_eq_true rfl
  case kj=>intro y;cases y
  case kn=>
    rintro ⟨n,v⟩ D hq
    dsimp only [List.cons_append,List.nil_append] at hq ⊢
    rw [plcs_length] at hq
    subst hq
    (refine tr_blk_normal ?_;refine tr_then ?_;refine s_r ?_;refine tr_val (rk_load1 (.of rfl) (At.lit .here rfl)) rfl ?_;refine a_s rfl rfl ?_;refine a_s rfl rfl ?_;refine n_t ?_;refine tr_ret ?_)
    first | with_reducible apply tr_retM | with_reducible apply tr_endM
    case he=>exact ends2 rfl rfl rfl
    case hR=>
      intro w' hm'
      exact gives_end v trivial (show Takes _ [row 3 1 v (viN es l es.length).length (natsV (viN es l es.length))] _ by exact .cons (.there (.there .here)) .nil) hm' rfl
  case round=>
    rintro l0 rc W fp k ⟨n,v⟩ vs hsz hk hq hB hF
    dsimp only at hq
    subst hq
    have hlt:n < es.length:=by have:=(List.getElem?_eq_some_iff.1 hk).1;rwa [plcs_length] at this
    rw [plcs_get hlt,Option.some.injEq] at hk
    subst hk
    have hfew:=hs.all.few
    have hle:=viN_le es l n
    have hsucc:=viN_succ es l n
    have h2W:=h2.keepsN (Out.nil _ _) hB
    have hoW:=h2.out (by omega) (Out.nil _ _) hF
    unfold plL
    dsimp only [List.zip_cons_cons,List.zip_nil_right,putAll,List.cons_append,List.nil_append]
    (refine s_r ?_;refine a_s rfl rfl ?_;refine n_t ?_;refine tr_region ?_;refine tr_new (rk_alloc rfl) rfl (fun _ _=>?_);refine tr_store (.of rfl) (.of rfl) .here rfl rfl (okc_cons rfl (okc_cons rfl (okc_cons rfl (okc_cons rfl (okc_cons rfl (okc_cons rfl (okc_cons rfl (okc_cons rfl okc_nil)))))))) (lenb rfl) norm_ ?_;refine n_t ?_)
    with_reducible apply tr_begin
    case ht=>exact Take.there .here
    (refine tr_block ?_;refine s_r ?_;refine tr_val (rk_load1 (.of rfl) (At.lit (.there (.there (.there .here))) rfl)) rfl ?_;refine tr_val (rk_makeFunc' .nil (.cons (.of rfl) .nil)) rfl ?_)
    rename_i bp hbp
    with_reducible apply tr_callV
    case hr=>exact rk_call (.of rfl) (.cons (.of rfl) (.cons (.of rfl) .nil)) inferInstance normc_
    case hd=>rfl
    case hc=>
      intro w' hm'
      have f1:w'.cell? ⟨bp,1,none⟩ = some (.string (nth es n).mt):=At.lit (by exact Take.there .here) rfl w' hm'
      have f6:w'.cell? ⟨bp,6,none⟩ = some (.int .i64 (fr es n)):=At.lit (by exact Take.there .here) rfl w' hm'
      have f7:w'.cell? ⟨bp,7,none⟩ = some (.int .i64 (to es n)):=At.lit (by exact Take.there .here) rfl w' hm'
      exact hasRi_c (f:=119) (p:=fun r=>riOk r (nth es n).mt (fr es n) (to es n)) (first:=[]) (cap:=[.pointer (some ⟨bp,0,none⟩)]) (h2W.keepsN hoW hm'.keeps)
        (fun x hx w2 hk2=>vi2_c x (cell_keeps f1 rfl hk2) (cell_keeps f6 rfl hk2) (cell_keeps f7 rfl hk2))
    (refine tr_val (rk_not (.of rfl)) rfl ?_;refine n_t ?_;refine c_b rfl (fun hcd=>?_) (fun hcd=>?_);refine tr_region ?_;refine tr_val (rk_load1 (.of rfl) (At.lit (.there (.there .here)) rfl)) rfl ?_;refine m_v rfl rfl ?_;refine tr_new (rk_sliceLit (.cons (.of rfl) .nil) rfl rfl rfl rfl) rfl (fun _ _=>?_);rotate_left;refine tr_skip ?_;refine tr_blk_normal ?_;rotate_right)
    · have hb:viB es l n = true:=by unfold viB;rw [hcd];rfl
      rw [if_pos hb] at hsucc
      refine tr_appendB (.of rfl) (.of rfl) (.there (.there (.there (.there (.there .here))))) .here norm_ (by rfl) (okc_cons rfl okc_nil) (by rfl) (by rfl) (by rfl) lenx_ (by rfl) ?_
      intro v'
      refine tr_rowSl (E:=3) (sz:=1) (by exact .here) fun a' cap' e=>?_
      subst e
      (refine tr_store (.of rfl) (.of rfl) (.there (.there (.there (.there .here)))) rfl rfl (okc_cons rfl okc_nil) (lenb rfl) norm_ ?_;refine tr_nil ?_;refine tr_blk_normal ?_)
      apply tr_seqN (n + 1,.slice a' ((viN es l n).length + 1) cap')
      case ht=>exact Take.there (.there (.there .here))
      case hx=>rfl
      case h2=>
        have e1:(viN es l (n + 1)).length = (viN es l n).length + 1:=by rw [hsucc];simp
        have e2:natsV (viN es l (n + 1)) = natsV (viN es l n)++[.int .i64 (n:Int)]:=by rw [hsucc];simp [natsV]
        show Takes _ [blk b9 (.cells #[.slice a' ((viN es l n).length + 1) cap'] 44 (0,0)),blk bl (.cells #[.slice a2 l.length cap2] 64 (0,0)),row 3 1 (.slice a' ((viN es l n).length + 1) cap') (viN es l (n + 1)).length (natsV (viN es l (n + 1)))] _
        rw [e1,e2]
        exact .cons .here (.cons (.there (.there (.there .here))) (.cons .here .nil))
    · have hb:¬ viB es l n = true:=by unfold viB;rw [hcd];decide
      rw [if_neg hb,List.append_nil] at hsucc
      apply tr_seqN (n + 1,v)
      case ht=>exact .here
      case hx=>rfl
      case h2=>
        show Takes _ [blk b9 (.cells #[v] 44 (0,0)),blk bl (.cells #[.slice a2 l.length cap2] 64 (0,0)),row 3 1 v (viN es l (n + 1)).length (natsV (viN es l (n + 1)))] _
        rw [hsucc]
        exact .cons (.there .here) (.cons (.there .here) (.cons (.there .here) .nil))
end Go.Proofs.A1
