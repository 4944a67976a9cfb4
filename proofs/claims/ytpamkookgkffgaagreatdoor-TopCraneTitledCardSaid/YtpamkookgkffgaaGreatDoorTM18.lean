/- Parts of the proof: ES38 ES39 ES42 ES43. -/
import Derived.Test.YtpamkookgkffgaaGreatDoorTM17
import Derived.Test.YtpamkookgkffgaaGreatDoorTM06
import Derived.Test.YtpamkookgkffgaaGreatDoorTM05
set_option linter.unusedSectionVars false
set_option linter.unusedVariables false
set_option linter.unusedSimpArgs false
namespace Go.Proofs.A1
open Go Go.SL
def fillsA (b:Br):List (List Nat):=fillsF b b.sp.length []
def fiL (b:Br):List Nat:=if brE b = 0 then fillF b else []
def fiV (b:Br):Int × Int:=if brE b = 0 then (tV b.sp (fillF b) (fillF b).length,tL b.sp (fillF b) (fillF b).length) else (0,0)
theorem bestF_snoc (b:Br) (l:List (List Nat)) (x:List Nat):bestF b (l++[x]) = if betterB b x (bestF b l) then x else bestF b l:=by
  unfold bestF
  rw [List.foldl_append];rfl
def BestAt (b:Br) (vs:List Value) (x:Value × List Nat):Prop:=
  x.2 = bestF b ((fillsA b).take vs.length) ∧ ((x.1 = .slice none 0 0 ∧ x.2 = []) ∨ ∃ j:Nat,vs[j]? = some x.1 ∧ (fillsA b)[j]? = some x.2)
theorem BestAt.rd {b:Br} {vs:List Value} {x:Value × List Nat} (h:BestAt b vs x) {c:Cx} {hs hs':List Asn} {w:World} {E:TypeId} {vs':List Value} {k:Nat} (hm:Mem c hs w) (ht:Take hs (pool E vs' (((fillsA b).map natsV9).take k)) hs') (hpre:vs <+: vs') (hk:vs.length ≤ k):Rd w x.1 1 (natsL x.2):=by
  obtain ⟨_,h | ⟨j,hj,hx⟩⟩:=h
  · rw [h.1,h.2];exact Rd.nil w 1
  · have hlt:j < vs.length:=(List.getElem?_eq_some_iff.1 hj).1
    refine rdPoolN hm ht (j:=j) ?_ ?_
    · obtain ⟨r,rfl⟩:=hpre
      rw [List.getElem?_append_left hlt];exact hj
    · rw [List.getElem?_take,if_pos (by omega),List.getElem?_map,hx];rfl
theorem BestAt.dif {b:Br} {vs:List Value} {x:Value × List Nat} (h:BestAt b vs x):Dif b.sp.length x.2:=by
  obtain ⟨_,h | ⟨j,hj,hx⟩⟩:=h
  · rw [h.2];exact Dif.nil _
  · exact fillsF_dif (Dif.nil _) _ (List.mem_of_getElem? hx)
theorem BestAt.one {b:Br} {vs:List Value} {x:Value × List Nat} (h:BestAt b vs x) {c:Cx} {hs hs':List Asn} {w:World} {E:TypeId} {vs':List Value} {k:Nat} (hm:Mem c hs w) (ht:Take hs (pool E vs' (((fillsA b).map natsV9).take k)) hs') (hpre:vs <+: vs') (hk:vs.length ≤ k):x.1.oneCell' = true:=Rd.one (h.rd hm ht hpre hk)
theorem Rd.shape {w:World} {v:Value} {sz:Nat} {xs:List (List Value)} (h:Rd w v sz xs):∃ a n cp,v = .slice a n cp:=by
  obtain ⟨a,cap,b,o,rfl,_⟩:=h
  exact ⟨_,_,_,rfl⟩
theorem tr_fact {c:Cx} {D:List Nat} {sl:Slots} {hs:List Asn} {X:Act → World → Prop} {p:Prop} (h:∀ w,Mem c hs w → p) (k:p → Tr c D sl hs X):Tr c D sl hs X:=fun a w hst=>k (h w hst.mem') a w hst
theorem fills_len {b:Br} {k:Nat} {x:List Nat} (h:(fillsA b)[k]? = some x):(fillsA b).take (k + 1) = (fillsA b).take k++[x]:=by
  rw [List.take_add_one,h];rfl
theorem or_c1 {lv:Value} {vs:List Value} {l:List Int} {w:World} (h:Rd w lv 1 (vs.map fun v=>[v])) (hl:IntL vs l):GivesV Tryz.prog 36 [lv] w (.int .i64 (firstF l)):=by
  rw [hl.eq] at h
  exact or_c h
set_option maxHeartbeats 1000000 in
theorem fill_c {b:Br} {sv cv xv:Value} {w:World} (h1:Rd w sv 4 (spsL b.sp)) (h2:Rd w cv 1 (ints b.cm)) (h3:Rd w xv 2 (prsL b.ex)) :
    Gives Tryz.prog 12 [.agg #[.int .i64 b.n,sv,cv,xv]] w [] (fun _:Value=>True) (fun v=>.tuple #[v,.agg #[.int .i64 (fiV b).1,.int .i64 (fiV b).2],.int .i64 (brE b)]) (fun v=>[row 3 1 v (fiL b).length (natsV9 (fiL b))]):=by
  have hone1:=Rd.one h1
  have hone2:=Rd.one h2
  have hone3:=Rd.one h3
  refine gives_of_tr Tryz.func12 rfl rfl ?_
  (refine s_r ?_;refine tr_new (rk_box (.of rfl) rfl) rfl (fun _ _=>?_);refine a_s rfl rfl ?_;refine tr_new (rk_alloc rfl) rfl (fun _ _=>?_);refine a_s rfl rfl ?_;refine n_t ?_;refine tr_seq ?_;refine s_r ?_;refine tr_val (rk_loadB (.of rfl) (.there .here) norm_ (by rfl)) rfl ?_;refine tr_callV (rk_call (.of rfl) (.cons (.of rfl) .nil) inferInstance normc_) rfl (fun w' hm'=>(brk_c (Rd.keeps h1 (Mem.keeps hm')) (Rd.keeps h2 (Mem.keeps hm')) (Rd.keeps h3 (Mem.keeps hm')))) ?_;refine a_s rfl rfl ?_;refine n_r ?_;refine m_v rfl rfl ?_;refine tr_val (rk_neq (.of rfl) (.of rfl)) rfl ?_;refine n_t ?_;refine c_d rfl (fun hcd=>?_) (fun hcd=>?_);refine s_r ?_;refine tr_val (rk_buildL .nil norm_) rfl ?_;refine m_v rfl rfl ?_;refine a_s rfl rfl ?_;refine tr_store (.of rfl) (.of rfl) .here rfl rfl (okc_cons rfl (okc_cons rfl okc_nil)) (lenb rfl) norm_ ?_;refine a_s rfl rfl ?_;refine n_t ?_;refine r_t ?_;rotate_left;refine s_t ?_;refine s_r ?_;refine tr_new (rk_alloc rfl) rfl (fun _ _=>?_);refine n_t ?_;refine tr_seq ?_;refine s_r ?_;refine tr_val (rk_loadB (.of rfl) (.there (.there .here)) norm_ (by rfl)) rfl ?_;rotate_right)
  · rw [fiL,if_neg hcd,fiV,if_neg hcd]
    refine tr_rowNil 3 1 ?_
    first | with_reducible apply tr_retM | with_reducible apply tr_endM
    case he=>exact endsTCT rfl inferInstance rfl rfl (.there .here) norm_ (by rfl) (by rfl)
    case hR=>
      intro w' hm'
      exact gives_end (.slice none 0 0) trivial (show Takes _ [row 3 1 (.slice none 0 0) 0 []] _ by exact .cons .here .nil) hm' rfl
  have hz:brE b = 0:=Decidable.not_not.1 hcd
  have hok:=BrOk.of hz
  rename_i b1 hb1 b3 hb3 b6 hb6
  rw [fiL,if_pos hz,fiV,if_pos hz,hz]
  with_reducible apply tr_call
  case hr=>exact rk_call (.of rfl) (.cons (.of rfl) .nil) inferInstance normc_
  case hd=>rfl
  case ht=>exact Takes.nil
  case hc=>
    intro w1 fp hm1 _ hs1
    obtain rfl:fp = []:=hs1
    exact fillings_c _ _ _ _ hone1 hone2 hone3
  intro x1 _
  dsimp only [List.cons_append,List.nil_append]
  (refine n_t ?_;refine tr_block ?_)
  refine tr_rangePool (p:=18) (f:=73) (first:=[]) (cap:=[.pointer (some ⟨x1,0,none⟩)]) (ι:=Value × List Nat) (rst:=[blk b3 (.cells #[.int .i64 0,.int .i64 0] 52 (0,0))]) ?hg
    [blk x1 (.cells #[.int .i64 b.n,sv,cv,xv] 58 (0,0))] 3 ((fillsA b).map natsV9) ?hit (fun vs x=>BestAt b vs x)
    (fun x=>[blk b6 (.cells #[x.1] 26 (0,0)),blk b1 (.cells #[.int .i64 b.n,sv,cv,xv] 58 (0,0))]) (.slice none 0 0,[]) ?h0 ?ht ?hp' ?round ?kn
  case hg=>exact Is.of rfl
  case hit=>intro w' hm';exact fillsI_c hok h1 h2 h3 (Out.nil _ _) (Out.nil _ _) (Out.nil _ _)
  case h0=>exact ⟨rfl,.inl ⟨rfl,rfl⟩⟩
  case ht=>
    show Takes _ [blk b6 (.cells #[.slice none 0 0] 26 (0,0)),blk b1 (.cells #[.int .i64 b.n,sv,cv,xv] 58 (0,0)),blk x1 _] _
    exact .cons (.there .here) (.cons (.there (.there .here)) (.cons .here .nil))
  case hp'=>exact Nat.le_of_ble_eq_true rfl
  case kn=>
    rintro ⟨bv,bo⟩ vs D hvl hbest
    dsimp only [List.cons_append,List.nil_append]
    rw [List.length_map] at hvl
    have h1W:=h1
    have o1W:Out [] sv (spsL b.sp):=Out.nil _ _
    have hpre:vs <+: vs:=List.prefix_rfl
    have hle:vs.length ≤ vs.length:=Nat.le_refl _
    have hdB:Dif b.sp.length bo:=hbest.dif
    have hlB:bo.length ≤ 1000:=by have:=hdB.len;have:=hok.few;omega
    have hbo:bo = fillF b:=by
      have:=hbest.1
      rwa [hvl,List.take_length] at this
    have htk:(fillsA b).map natsV9 = ((fillsA b).map natsV9).take vs.length:=by rw [List.take_of_length_le];rw [List.length_map];omega
    rw [htk]
    refine tr_fact (fun w hm=>hbest.one hm (by exact Take.there (.there .here)) hpre hle) fun honeB=>?_
    (refine tr_blk_normal ?_;refine tr_then ?_;refine tr_seq ?_)
    with_reducible refine tr_draw 4 (by kernel_rfl) ?_
    (refine any_val (rk_load1 (.of rfl) (At.lit .here rfl)) rfl ?_;refine any_val (rk_loadB (.of rfl) (.there .here) norm_ (by rfl)) rfl ?_;refine any_val (rk_load1 (.of rfl) (At.lit .here rfl)) rfl ?_;refine any_call (rk_call (.of rfl) (.cons (.of rfl) (.cons (.of rfl) .nil)) inferInstance normc_) rfl (fun w' hm'=>(told9_c (Rd.keepsN h1W o1W (Mem.keeps hm')) (BestAt.rd hbest hm' (.there (.there .here)) hpre hle) hone2 hone3 (BrOk.spOk hok) (Dif.lt hdB) hlB)) ?_)
    with_reducible refine any_end ?_
    (refine a_s rfl rfl ?_;refine tr_store (.of rfl) (.of rfl) (.there (.there (.there (.there .here)))) rfl rfl (okc_cons rfl (okc_cons rfl okc_nil)) (lenb rfl) norm_ ?_;refine a_s rfl rfl ?_;refine n_t ?_;refine tr_ret ?_)
    rw [← hbo]
    obtain ⟨_,h | ⟨j,hj,hx⟩⟩:=hbest
    · obtain ⟨e1,e2⟩:=h
      dsimp only at e1 e2
      subst e1 e2
      refine tr_rowNil 3 1 ?_
      first | with_reducible apply tr_retM | with_reducible apply tr_endM
      case he=>exact endsTCT rfl inferInstance rfl rfl (.there .here) norm_ (by rfl) (by rfl)
      case hR=>
        intro w' hm'
        exact gives_end (.slice none 0 0) trivial (show Takes _ [row 3 1 (.slice none 0 0) 0 []] _ by exact .cons .here .nil) hm' rfl
    · refine tr_poolTake (j:=j) (v:=bv) (x:=natsV9 bo) (by exact Take.there (.there (.there .here))) hj ?_ ?_
      · have hlt:j < vs.length:=(List.getElem?_eq_some_iff.1 hj).1
        rw [List.getElem?_take,if_pos hlt,List.getElem?_map,hx];rfl
      rw [natsV_length]
      first | with_reducible apply tr_retM | with_reducible apply tr_endM
      case he=>exact endsTCT rfl inferInstance rfl rfl (.there .here) norm_ (by rfl) (by rfl)
      case hR=>
        intro w' hm'
        exact gives_end bv trivial (show Takes _ [row 3 1 bv bo.length (natsV9 bo)] _ by exact .cons .here .nil) hm' rfl
  case round=>
    rintro l rc W fp vs v ⟨bv,bo⟩ hsz hvl hbest hB hF
    rw [List.length_map] at hvl
    have hx0:(fillsA b)[vs.length]? = some (fillsA b)[vs.length]:=List.getElem?_eq_getElem hvl
    generalize ho:(fillsA b)[vs.length] = o at hx0
    have hdN:Dif b.sp.length o:=fillsF_dif (Dif.nil _) _ (List.mem_of_getElem? hx0)
    have hlN:o.length ≤ 1000:=by have:=hdN.len;have:=hok.few;omega
    have hdB:Dif b.sp.length bo:=hbest.dif
    have hlB:bo.length ≤ 1000:=by have:=hdB.len;have:=hok.few;omega
    have hvN:(vs++[v])[vs.length]? = some v:=by simp
    have hxN:(((fillsA b).map natsV9).take (vs.length + 1))[vs.length]? = some (natsV9 o):=by
      rw [List.getElem?_take,if_pos (by omega),List.getElem?_map,hx0];rfl
    have hpre:vs <+: vs++[v]:=List.prefix_append _ _
    have hle:vs.length ≤ vs.length + 1:=by omega
    have h1W:Rd W sv 4 (spsL b.sp):=h1.keepsN (Out.nil _ _) hB
    have o1W:Out fp sv (spsL b.sp):=h1.out (by omega) (Out.nil _ _) hF
    have hsn:bestF b ((fillsA b).take (vs.length + 1)) = if betterB b o bo then o else bo:=by
      have e:bo = bestF b ((fillsA b).take vs.length):=hbest.1
      rw [fills_len hx0,bestF_snoc,← e]
    have hvl1:∀ u:Value,(vs++[u]).length = vs.length + 1:=fun u=>by simp
    dsimp only [List.cons_append,List.nil_append]
    refine tr_fact (fun w hm=>hbest.one hm (by exact Take.there (.there (.there .here))) hpre hle) fun honeB=>?_
    refine tr_fact (fun w hm=>Rd.shape (rdPoolN hm (by exact Take.there (.there (.there .here))) hvN hxN)) fun hsh=>?_
    obtain ⟨av,nv,cpv,e⟩:=hsh
    subst e
    dsimp only at honeB
    (refine tr_region ?_;refine a_s rfl rfl ?_;refine n_t ?_)
    with_reducible apply tr_begin
    case ht=>exact .here
    (refine tr_block ?_;refine tr_seq ?_)
    with_reducible refine tr_drawO 8 (by kernel_rfl) ?_
    (refine ao_val (rk_loadB (.of rfl) (.there (.there .here)) norm_ (by rfl)) rfl ?_;refine ao_val (rk_move (.of rfl)) rfl ?_;refine ao_call (rk_call (.of rfl) (.cons (.of rfl) (.cons (.of rfl) .nil)) inferInstance normc_) rfl (fun w' hm'=>(told9_c (Rd.keepsN h1W o1W (Mem.keeps hm')) (rdPoolN hm' (.there (.there (.there .here))) hvN hxN) hone2 hone3 (BrOk.spOk hok) (Dif.lt hdN) hlN)) ?_;refine ao_val (rk_loadB (.of rfl) (.there (.there .here)) norm_ (by rfl)) rfl ?_;refine ao_val (rk_load1 (.of rfl) (At.lit (.there .here) rfl)) rfl ?_;refine ao_call (rk_call (.of rfl) (.cons (.of rfl) (.cons (.of rfl) .nil)) inferInstance normc_) rfl (fun w' hm'=>(told9_c (Rd.keepsN h1W o1W (Mem.keeps hm')) (BestAt.rd hbest hm' (.there (.there (.there .here))) hpre hle) hone2 hone3 (BrOk.spOk hok) (Dif.lt hdB) hlB)) ?_;refine ao_new (rk_alloc rfl) rfl rfl ?_;refine ao_new (rk_alloc rfl) rfl rfl ?_)
    with_reducible refine ao_end2 rfl fun b8 b9 hb8 hb9=>?_
    (refine tr_store (.of rfl) (.of rfl) .here rfl rfl (okc_cons rfl (okc_cons rfl okc_nil)) (lenb rfl) norm_ ?_;refine tr_store (.of rfl) (.of rfl) (.there .here) rfl rfl (okc_cons rfl (okc_cons rfl okc_nil)) (lenb rfl) norm_ ?_;refine n_t ?_;refine tr_seq ?_)
    with_reducible refine tr_draw 10 (by kernel_rfl) ?_
    (refine any_val (rk_indexAddrA (.of rfl) (.of rfl) (by omega) (by omega) norm1_) rfl ?_;refine any_val (rk_load1 (.of rfl) (At.lit (.there .here) rfl)) rfl ?_;refine any_val (rk_indexAddrA (.of rfl) (.of rfl) (by omega) (by omega) norm1_) rfl ?_;refine any_val (rk_load1 (.of rfl) (At.lit .here rfl)) rfl ?_;refine any_call (rk_call (.of rfl) (.cons (.of rfl) (.cons (.of rfl) .nil)) inferInstance normc_) rfl (fun w' hm'=>(cmp_c _ _ w')) ?_;refine any_val (rk_indexAddrA (.of rfl) (.of rfl) (by omega) (by omega) norm1_) rfl ?_;refine any_val (rk_load1 (.of rfl) (At.lit (.there .here) rfl)) rfl ?_;refine any_val (rk_indexAddrA (.of rfl) (.of rfl) (by omega) (by omega) norm1_) rfl ?_;refine any_val (rk_load1 (.of rfl) (At.lit .here rfl)) rfl ?_;refine any_call (rk_call (.of rfl) (.cons (.of rfl) (.cons (.of rfl) .nil)) inferInstance normc_) rfl (fun w' hm'=>(cmp_c _ _ w')) ?_)
    with_reducible refine any_end ?_
    (refine tr_new (rk_sliceLit (.cons (.of rfl) (.cons (.of rfl) .nil)) rfl rfl rfl rfl) rfl (fun _ _=>?_);refine tr_callV (rk_call (.of rfl) (.cons (.of rfl) .nil) inferInstance normc_) rfl (fun w' hm'=>(or_c1 (Mem.rdBlk hm' .here rfl rfl) (IntL.cons (IntL.cons IntL.nil)))) ?_;refine tr_val (rk_gtr (.of rfl) (.of rfl)) rfl ?_;refine n_t ?_;refine c_d rfl (fun hcd=>?_) (fun hcd=>?_);refine tr_region ?_;refine m_v rfl rfl ?_;refine tr_store (.of rfl) (.of rfl) (.there (.there (.there (.there .here)))) rfl rfl (okc_cons rfl okc_nil) (lenb rfl) norm_ ?_;refine tr_nil ?_;refine tr_blk_normal ?_;rotate_left;refine tr_skip ?_;refine tr_blk_normal ?_;rotate_right)
    · have hbt:betterB b o bo = true:=by rw [← better_eq];simpa using hcd
      rw [hbt,if_pos rfl] at hsn
      apply tr_poolN (.slice av nv cpv,o)
      case ht=>exact Take.there (.there (.there (.there .here)))
      case hx=>
        refine ⟨?_,.inr ⟨vs.length,hvN,hx0⟩⟩
        rw [hvl1];exact hsn.symm
      case h2=>
        show Takes _ [blk b6 (.cells #[.slice av nv cpv] 26 (0,0)),blk b1 (.cells #[.int .i64 b.n,sv,cv,xv] 58 (0,0)),pool 3 (vs++[.slice av nv cpv]) (((fillsA b).map natsV9).take (vs++[Value.slice av nv cpv]).length)] _
        rw [hvl1]
        exact .cons .here (.cons (.there (.there (.there .here))) (.cons (.there (.there (.there .here))) .nil))
    · have hbt:betterB b o bo = false:=by rw [← better_eq];simpa using hcd
      rw [hbt,if_neg (by decide)] at hsn
      apply tr_poolN (bv,bo)
      case ht=>exact Take.there (.there (.there .here))
      case hx=>
        obtain ⟨_,hbb⟩:=hbest
        refine ⟨by rw [hvl1];exact hsn.symm,hbb.imp id fun ⟨j,hj,hx⟩=>⟨j,?_,hx⟩⟩
        have hlt:j < vs.length:=(List.getElem?_eq_some_iff.1 hj).1
        rw [List.getElem?_append_left hlt];exact hj
      case h2=>
        show Takes _ [blk b6 (.cells #[bv] 26 (0,0)),blk b1 (.cells #[.int .i64 b.n,sv,cv,xv] 58 (0,0)),pool 3 (vs++[.slice av nv cpv]) (((fillsA b).map natsV9).take (vs++[Value.slice av nv cpv]).length)] _
        rw [hvl1]
        exact .cons (.there (.there (.there .here))) (.cons (.there (.there (.there .here))) (.cons (.there (.there (.there .here))) .nil))
end Go.Proofs.A1
namespace Go.Proofs.A1
open Go Go.SL
structure PrOk (p:Int × Int):Prop where
  n:0 ≤ p.1 ∧ p.1 ≤ 999999999
  d:1 ≤ p.2 ∧ p.2 ≤ 999999999
def rat0 (p:Int × Int):Int:=firstF [withinF p.1 (-999999999) 999999999,withinF p.2 1 999999999]
def ratE (p:Int × Int):Int:=if rat0 p ≠ 0 then rat0 p else whenF (decide (gcdF (max p.1 (-p.1)) p.2 ≠ 1)) 1
theorem rat0_zero {p:Int × Int} (h:rat0 p = 0):(-999999999 ≤ p.1 ∧ p.1 ≤ 999999999) ∧ (1 ≤ p.2 ∧ p.2 ≤ 999999999):=by
  unfold rat0 at h
  rw [firstF_zero] at h
  simp only [List.mem_cons,List.not_mem_nil,or_false,forall_eq_or_imp,forall_eq,withinF_zero] at h
  exact h
theorem PrOk.of {p:Int × Int} (h1:ratE p = 0) (h2:¬ p.1 < 0):PrOk p:=by
  unfold ratE at h1
  by_cases h:rat0 p = 0
  · obtain ⟨h3,h4⟩:=rat0_zero h
    exact ⟨by omega,h4⟩
  · rw [if_pos h] at h1
    exact absurd h1 h
end Go.Proofs.A1
namespace Go.Proofs.A1
open Go Go.SL
theorem growE_c (n:Nat) (hn:n ≤ 1000) (w:World):Gives Tryz.prog 101 [.slice none 0 0,.int .i64 (n:Int)] w [] (fun _:Value=>True) id (fun v=>[row 67 6 v 0 []]):=by
  refine gives_of_tr Tryz.func101 rfl rfl ?_
  (refine s_r ?_;refine a_s rfl rfl ?_;refine n_t ?_;refine tr_seq ?_;refine s_r ?_;refine m_v rfl rfl ?_;refine tr_val (rk_lss (.of rfl) (.of rfl)) rfl ?_;refine n_t ?_;refine c_d rfl (fun _=>by omega) (fun hcd=>?_);refine s_t ?_;refine tr_seq ?_;refine s_r ?_;refine m_v rfl rfl ?_;refine m_v rfl rfl ?_;refine tr_val (rk_cap_slice (.of rfl)) rfl ?_;refine m_v rfl rfl ?_;refine tr_val (rk_len_slice (.of rfl)) rfl ?_;refine tr_val (rk_sub (.of rfl) (.of rfl) (ini (by omega))) rfl ?_;refine tr_val (rk_sub (.of rfl) (.of rfl) (ini (by omega))) rfl ?_;refine a_s rfl rfl ?_;refine n_r ?_;refine m_v rfl rfl ?_;refine tr_val (rk_gtr (.of rfl) (.of rfl)) rfl ?_;refine n_t ?_;refine c_d rfl (fun hcd=>?_) (fun hcd=>?_);refine tr_region ?_;refine m_v rfl rfl ?_;refine m_v rfl rfl ?_;refine tr_val (rk_cap_slice (.of rfl)) rfl ?_;refine tr_val (rk_slice_h (.of rfl) (.of rfl) (by omega) (by omega)) rfl ?_;refine m_v rfl rfl ?_;rotate_left;refine s_t ?_;refine s_r ?_;refine m_v rfl rfl ?_;refine a_s rfl rfl ?_;refine n_t ?_;refine tr_ret ?_;rotate_right)
  · rw [show (n:Int) - (((0:Nat):Int) - ((0:Nat):Int)) = (n:Int) by omega]
    with_reducible apply tr_appendZ
    case hx=>exact Is.of rfl
    case hy=>exact Is.of rfl
    case h0=>omega
    case hz=>exact rfl
    case hsz=>exact rfl
    case hb0=>exact rfl
    case hb=>omega
    case hd=>rfl
    intro v'
    refine tr_rowOpen (E:=67) (sz:=6) (by exact .here) (by omega) fun g cap' cur e hcap' hmx' hsz' hl'=>?_
    subst e
    (refine m_v rfl rfl ?_;refine tr_val (rk_len_slice (.of rfl)) rfl ?_;refine tr_val (rk_slice_h (.of rfl) (.of rfl) (by omega) (by omega)) rfl ?_;refine a_s rfl rfl ?_;refine n_r ?_;refine m_v rfl rfl ?_;refine a_s rfl rfl ?_;refine n_t ?_;refine tr_ret ?_)
    rw [show Go.sliced (some ⟨g,0,none⟩) 0 (((0:Nat):Int)).toNat cap' 6 = .slice (some ⟨g,0,none⟩) 0 cap' from sliced_zero g cap' 6]
    skip
    generalize hA:_++cur = al at hsz' ⊢
    refine tr_rowShut (n:=0) (xs:=[]) (cur:=al) (cap:=cap') (g:=g) (E:=67) (sz:=6) (by rw [List.nil_append];exact .here) (Nat.zero_le _) hmx' hsz' rfl ?_
    first | with_reducible apply tr_retM | with_reducible apply tr_endM
    case he=>exact ends1 rfl rfl
    case hR=>
      intro w' hm'
      exact gives_end (.slice (some ⟨g,0,none⟩) 0 cap') trivial (show Takes _ [row 67 6 (.slice (some ⟨g,0,none⟩) 0 cap') 0 []] _ by exact .cons .here .nil) hm' rfl
  · refine tr_rowNil 67 6 ?_
    first | with_reducible apply tr_retM | with_reducible apply tr_endM
    case he=>exact ends1 rfl rfl
    case hR=>
      intro w' hm'
      exact gives_end (.slice none 0 0) trivial (show Takes _ [row 67 6 (.slice none 0 0) 0 []] _ by exact .cons .here .nil) hm' rfl
theorem ensL_app (a b:List En):ensL (a++b) = ensL a++ensL b:=by simp [ensL]
theorem ensL_one (es:List En):∀ r ∈ ensL es,∀ u ∈ r,u.oneCell' = true:=by
  intro r hr
  obtain ⟨x,_,rfl⟩:=List.mem_map.1 hr
  unfold En.cells
  exact okc_cons rfl (okc_cons rfl (okc_cons rfl (okc_cons rfl (okc_cons rfl (okc_cons rfl okc_nil)))))
theorem take_flat {α:Type} {l:List (List α)} {k:Nat} (h:k < l.length):(l.take (k + 1)).flatten = (l.take k).flatten++l[k]:=by
  rw [List.take_add_one,List.getElem?_eq_getElem h,List.flatten_append];simp
theorem flat_le {α:Type} (l:List (List α)) (k:Nat):(l.take k).flatten.length ≤ l.flatten.length:=by
  conv=>rhs;rw [← List.take_append_drop k l]
  rw [List.flatten_append,List.length_append];omega
theorem sing_get {α:Type} {l:List α} {k:Nat} (h:k < l.length):(l.map fun v=>[v])[k]? = some [l[k]]:=by simp [h]
theorem concat_c {lv:Value} {vs:List Value} {ess:List (List En)} {w:World} (h:Rd w lv 1 (vs.map fun v=>[v])) (hl:vs.length = ess.length) (hr:∀ (i:Nat) (v:Value) (es:List En),vs[i]? = some v → ess[i]? = some es → Rd w v 6 (ensL es)) (hn:ess.flatten.length ≤ 1000) :
    Gives Tryz.prog 82 [lv] w [] (fun _:Value=>True) id (fun v=>[row 67 6 v ess.flatten.length (ensL ess.flatten).flatten]):=by
  obtain ⟨a,cp,b,o,rfl,hcap,hmax,ha,hc⟩:=h
  rw [List.length_map] at *
  unfold maxLen at hmax
  refine gives_of_tr Tryz.func82 rfl rfl ?_
  (refine s_r ?_;refine a_s rfl rfl ?_;refine n_r ?_;refine a_s rfl rfl ?_;refine n_t ?_;refine tr_seq ?_;refine s_r ?_;refine m_v rfl rfl ?_;refine tr_val (rk_len_slice (.of rfl)) rfl ?_;refine m_v rfl rfl ?_;refine n_t ?_;refine tr_block ?_)
  refine tr_for (ι:=Nat) (fun k=>k ≤ vs.length) (fun k=>[(11,.int .i64 k),(10,.int .i64 vs.length),(9,.slice a vs.length cp),(0,.slice a vs.length cp),(3,.int .i64 (((ess.take k).flatten.length:Nat):Int))]) (fun _=>[]) (fun k=>vs.length - k) ?_ ?_
  · apply tr_start (0:Nat) (show (0:Nat) ≤ vs.length from Nat.zero_le _)
    case hs1=>exact .cons rfl (.cons rfl (.cons rfl (.cons rfl (.cons rfl .nil))))
    case ht=>(try simp only [List.take_zero,List.map_nil,List.nil_append]);exact .nil
  intro k hk
  by_cases hlt:k < vs.length
  · have hlt2:k < ess.length:=by omega
    have ha':=ha (by intro e;have:=congrArg List.length e;simp at this;subst this;simp at hlt)
    have hrk:=hr k _ _ (List.getElem?_eq_getElem hlt) (List.getElem?_eq_getElem hlt2)
    obtain ⟨a1,cap1,b1,o1,e1,_⟩:=hrk
    rw [ensL_length] at e1
    have c0:w.cell? ⟨b,o + k * 1,none⟩ = some (.slice a1 ess[k].length cap1):=by rw [← e1];exact (hc k _ (sing_get hlt)).2 0 _ rfl
    have hfl:=flat_le ess (k + 1)
    have hs:((ess.take (k + 1)).flatten.length:Int) = (ess.take k).flatten.length + ess[k].length:=by rw [take_flat hlt2,List.length_append];omega
    (refine s_r ?_;refine tr_val (rk_lss (.of rfl) (.of rfl)) rfl ?_;refine n_t ?_;refine tr_seq ?_;refine c_d rfl (fun hcd=>?_) (fun _=>by omega);refine s_t ?_;refine tr_seq ?_;refine tr_block ?_;refine s_r ?_;refine tr_val (rk_indexAddr (.of rfl) (.of rfl) ha' (by omega) hcd norm1_) rfl ?_;refine tr_val (rk_load1 (.of rfl) (At.base c0 rfl)) rfl ?_;refine a_s rfl rfl ?_;refine n_r ?_;refine m_v rfl rfl ?_;refine m_v rfl rfl ?_;refine tr_val (rk_len_slice (.of rfl)) rfl ?_;refine tr_val (rk_add (.of rfl) (.of rfl) (ini (by omega))) rfl ?_;refine a_s rfl rfl ?_;refine n_r ?_;refine m_v rfl rfl ?_;refine tr_val (rk_lss (.of rfl) (.of rfl)) rfl ?_;refine n_t ?_;refine c_d rfl (fun _=>by omega) (fun hcd=>?_);refine tr_skip ?_;refine tr_blk_normal ?_;refine tr_then ?_;refine tr_region ?_;refine tr_val (rk_add (.of rfl) (.of rfl) (ini (by omega))) rfl ?_;refine m_v rfl rfl ?_;refine n_t ?_)
    apply tr_next (k + 1) (show k + 1 ≤ vs.length by omega) (show vs.length - (k + 1) < vs.length - k by omega)
    case hs1=>
      rw [hs]
      exact .cons rfl (.cons rfl (.cons rfl (.cons rfl (.cons rfl .nil))))
    case ht=>exact .nil
  · obtain rfl:k = vs.length:=by omega
    rw [show ess.take vs.length = ess by rw [hl,List.take_length]]
    (refine s_r ?_;refine tr_val (rk_lss (.of rfl) (.of rfl)) rfl ?_;refine n_t ?_;refine tr_seq ?_;refine c_d rfl (fun _=>by omega) (fun hcd=>?_);refine x_t ?_;refine tr_then_exit ?_;refine tr_blk_exit ?_;refine tr_then ?_;refine s_r ?_;refine m_v rfl rfl ?_)
    with_reducible apply tr_call
    case hr=>exact rk_call (.of rfl) (.cons (.of rfl) (.cons (.of rfl) .nil)) inferInstance normc_
    case hd=>rfl
    case ht=>exact Takes.nil
    case hc=>
      intro w1 fp hm1 _ hs1
      obtain rfl:fp = []:=hs1
      exact growE_c _ hn _
    intro v0 _
    dsimp only [id_eq,List.cons_append,List.nil_append]
    (refine a_s rfl rfl ?_;refine n_t ?_;refine tr_seq ?_;refine s_r ?_;refine m_v rfl rfl ?_;refine tr_val (rk_len_slice (.of rfl)) rfl ?_;refine m_v rfl rfl ?_;refine n_t ?_;refine tr_block ?_)
    refine tr_for (ι:=Nat × Value) (fun x=>x.1 ≤ vs.length) (fun x=>[(27,.int .i64 x.1),(26,.int .i64 vs.length),(25,.slice a vs.length cp),(6,x.2)]) (fun x=>[row 67 6 x.2 (ess.take x.1).flatten.length (ensL (ess.take x.1).flatten).flatten]) (fun x=>vs.length - x.1) ?_ ?_
    · apply tr_start (0,v0) (Nat.zero_le _)
      case hs1=>exact .cons rfl (.cons rfl (.cons rfl (.cons rfl .nil)))
      case ht=>
        show Takes _ [row 67 6 v0 0 []] _
        exact .cons .here .nil
    rintro ⟨k,v⟩ hk
    dsimp only at hk ⊢
    by_cases hlt:k < vs.length
    · have hlt2:k < ess.length:=by omega
      have ha':=ha (by intro e;have:=congrArg List.length e;simp at this;subst this;simp at hlt)
      have hrk:=hr k _ _ (List.getElem?_eq_getElem hlt) (List.getElem?_eq_getElem hlt2)
      have hrk':=hrk
      obtain ⟨a1,cap1,b1,o1,e1,_⟩:=hrk'
      rw [ensL_length] at e1
      rw [e1] at hrk
      have c0:w.cell? ⟨b,o + k * 1,none⟩ = some (.slice a1 ess[k].length cap1):=by rw [← e1];exact (hc k _ (sing_get hlt)).2 0 _ rfl
      have hfl:=flat_le ess (k + 1)
      have hs:(ess.take (k + 1)).flatten.length = (ess.take k).flatten.length + ess[k].length:=by rw [take_flat hlt2,List.length_append]
      (refine s_r ?_;refine tr_val (rk_lss (.of rfl) (.of rfl)) rfl ?_;refine n_t ?_;refine tr_seq ?_;refine c_d rfl (fun hcd=>?_) (fun _=>by omega);refine s_t ?_;refine tr_seq ?_;refine tr_block ?_;refine s_r ?_;refine tr_val (rk_indexAddr (.of rfl) (.of rfl) ha' (by omega) hcd norm1_) rfl ?_;refine tr_val (rk_load1 (.of rfl) (At.base c0 rfl)) rfl ?_;refine a_s rfl rfl ?_;refine n_t ?_;refine tr_region ?_;refine m_v rfl rfl ?_;refine m_v rfl rfl ?_)
      with_reducible apply tr_appendR
      case hx=>exact Is.of rfl
      case hy=>exact Is.of rfl
      case ht=>exact .here
      case hsrc=>exact fun w' hm'=>hrk.keeps hm'.keeps
      case h1=>exact ensL_one _
      case hz=>exact rfl
      case hsz=>exact rfl
      case hb0=>exact rfl
      case hb=>rw [ensL_length];omega
      case hd=>rfl
      intro v'
      rw [ensL_length]
      (refine a_s rfl rfl ?_;refine tr_nil ?_;refine tr_blk_normal ?_;refine tr_then ?_;refine tr_region ?_;refine tr_val (rk_add (.of rfl) (.of rfl) (ini (by omega))) rfl ?_;refine m_v rfl rfl ?_;refine n_t ?_)
      apply tr_next (k + 1,v') (show k + 1 ≤ vs.length by omega) (show vs.length - (k + 1) < vs.length - k by omega)
      case hs1=>exact .cons rfl (.cons rfl (.cons rfl (.cons rfl .nil)))
      case ht=>
        show Takes _ [row 67 6 v' (ess.take (k + 1)).flatten.length (ensL (ess.take (k + 1)).flatten).flatten] _
        rw [hs,take_flat hlt2,ensL_app,List.flatten_append]
        exact .cons .here .nil
    · obtain rfl:k = vs.length:=by omega
      have hk':vs.length = ess.length:=hl
      rw [hk',List.take_length]
      (refine s_r ?_;refine tr_val (rk_lss (.of rfl) (.of rfl)) rfl ?_;refine n_t ?_;refine tr_seq ?_;refine c_d rfl (fun _=>by omega) (fun hcd=>?_);refine x_t ?_;refine tr_then_exit ?_;refine tr_blk_exit ?_;refine tr_then ?_;refine s_r ?_;refine m_v rfl rfl ?_;refine a_s rfl rfl ?_;refine n_t ?_;refine tr_ret ?_)
      first | with_reducible apply tr_retM | with_reducible apply tr_endM
      case he=>exact ends1 rfl rfl
      case hR=>
        intro w' hm'
        exact gives_end v trivial (by exact .cons .here .nil) hm' rfl
end Go.Proofs.A1
namespace Go.Proofs.A1
open Go Go.SL
def chg (es:List En) (f t:Nat) (l:List En):List En:=[es.take f,l,es.drop t].flatten
theorem chg_length (es:List En) (f t:Nat) (l:List En) (hf:f ≤ es.length):(chg es f t l).length = f + l.length + (es.length - t):=by
  simp [chg];omega
theorem ensL_take (es:List En) (k:Nat):(ensL es).take k = ensL (es.take k):=by simp [ensL,List.map_take]
theorem ensL_drop (es:List En) (k:Nat):(ensL es).drop k = ensL (es.drop k):=by simp [ensL,List.map_drop]
theorem ensL_flatlen (es:List En):(ensL es).flatten.length = es.length * 6:=by rw [flat_len (ensL_sz es),ensL_length]
theorem rdEnF {c:Cx} {hs hs':List Asn} {w:World} {E:TypeId} {es:List En} {n:Nat} {v:Value} (hm:Mem c hs w) (ht:Take hs (row E 6 v n (ensL es).flatten) hs') (hn:es.length = n):Rd w v 6 (ensL es):=
  hm.rdRow ht rfl (ensL_sz es) (by rw [ensL_length,hn])
theorem rep_len (n:Nat) (z:List Value) (hz:z.length = 6):(List.replicate n z).flatten.length = n * 6:=by
  rw [flat_len (sz:=6) fun r hr=>by rw [List.eq_of_mem_replicate hr];exact hz]
  simp
set_option maxHeartbeats 1000000 in
theorem changed_c {sv lv:Value} {es l:List En} {f t:Nat} {w:World} (h1:Rd w sv 6 (ensL es)) (h2:Rd w lv 6 (ensL l)) (hf:f ≤ es.length) (ht:t ≤ es.length) (hn:es.length + l.length ≤ 300) :
    Gives Tryz.prog 43 [.agg #[sv],.int .i64 (f:Int),.int .i64 (t:Int),lv] w [] (fun _:Value=>True) (fun v=>.agg #[v]) (fun v=>[row 67 6 v (chg es f t l).length (ensL (chg es f t l)).flatten]):=by
  have h1':=h1
  have h2':=h2
  obtain ⟨a,cap,b,o,rfl,hcap,hmax,ha,hc⟩:=h1'
  obtain ⟨a2,cap2,b2,o2,rfl,hcap2,hmax2,ha2,hc2⟩:=h2'
  rw [ensL_length] at *
  rw [ensL_length] at *
  unfold maxLen at hmax hmax2
  have hsl:Rd w (Go.sliced a (t:Int).toNat es.length cap 6) 6 (ensL (es.drop t)):=by
    have:=h1.sliced (l:=t) (m:=es.length) ht (Nat.le_refl _)
    rw [List.take_of_length_le (by rw [ensL_length];exact Nat.le_refl _),ensL_drop] at this
    exact this
  refine gives_of_tr Tryz.func43 rfl rfl ?_
  (refine s_r ?_;refine tr_new (rk_box (.of rfl) rfl) rfl (fun _ _=>?_);refine tr_new (rk_alloc rfl) rfl (fun _ _=>?_);refine n_r ?_;refine m_v rfl rfl ?_;refine f_a rfl rfl norm0_ ?_;refine tr_val (rk_load1 (.of rfl) (At.lit (.there .here) rfl)) rfl ?_;refine tr_val (rk_len_slice (.of rfl)) rfl ?_;refine m_v rfl rfl ?_;refine tr_val (rk_len_slice (.of rfl)) rfl ?_;refine tr_val (rk_add (.of rfl) (.of rfl) (ini (by omega))) rfl ?_)
  rw [show (es.length:Int) + (l.length:Int) = ((es.length + l.length:Nat):Int) by omega]
  with_reducible apply tr_new
  case hr=>
    with_reducible apply rk_make
    case hx=>exact Is.of rfl
    case hy=>exact Is.of rfl
    case hl=>omega
    case hb=>omega
    case hz=>rfl
    case hsz=>rfl
    case h63=>omega
  case hd=>rfl
  intro bg hbg
  (refine a_s rfl rfl ?_;refine n_r ?_;refine m_v rfl rfl ?_;refine f_a rfl rfl norm0_ ?_;refine tr_val (rk_load1 (.of rfl) (At.lit (.there (.there .here)) rfl)) rfl ?_)
  with_reducible apply tr_copyR
  case hx=>exact Is.of rfl
  case hy=>exact Is.of rfl
  case ht=>exact .here
  case hsrc=>exact fun w' hm'=>h1.keeps hm'.keeps
  case h1=>exact ensL_one es
  case hfit=>
    rw [rep_len _ _ rfl]
    exact Nat.mul_le_mul_right _ (by omega)
  case hd=>rfl
  rw [ensL_take]
  have hlf:(ensL (es.take f)).flatten.length = f * 6:=by rw [ensL_flatlen,List.length_take];congr 1;omega
  rw [setCells_pre _ _ (by rw [hlf,rep_len _ _ rfl];exact Nat.mul_le_mul_right _ (by omega))]
  refine tr_rowShut (n:=f) (xs:=(ensL (es.take f)).flatten) (cap:=es.length + l.length) (g:=bg) (E:=67) (sz:=6) (by exact .here) (by omega) (by unfold maxLen;omega) ?_ hlf ?_
  · rw [List.length_append,List.length_drop,rep_len _ _ rfl,hlf]
    have:f * 6 ≤ (es.length + l.length) * 6:=Nat.mul_le_mul_right _ (by omega)
    omega
  (refine n_r ?_;refine m_v rfl rfl ?_;refine m_v rfl rfl ?_;refine f_a rfl rfl norm0_ ?_;refine tr_val (rk_load1 (.of rfl) (At.lit (.there (.there .here)) rfl)) rfl ?_;refine m_v rfl rfl ?_;refine tr_val (rk_slice_l (.of rfl) (.of rfl) (by omega) (by omega)) rfl ?_;refine tr_new (rk_sliceLit (.cons (.of rfl) (.cons (.of rfl) (.cons (.of rfl) .nil))) rfl rfl rfl rfl) rfl (fun _ _=>?_))
  with_reducible apply tr_call
  case hr=>exact rk_call (.of rfl) (.cons (.of rfl) .nil) inferInstance normc_
  case hd=>rfl
  case ht=>exact Takes.nil
  case hc=>
    intro w1 fp hm1 _ hs1
    obtain rfl:fp = []:=hs1
    refine concat_c (vs:=[.slice (some ⟨bg,0,none⟩) f (es.length + l.length),.slice a2 l.length cap2,Go.sliced a (t:Int).toNat es.length cap 6]) (ess:=[es.take f,l,es.drop t]) (Mem.rdBlk hm1 (by exact .here) rfl rfl) rfl ?_ ?_
    · intro i v q hv hq
      match i,hv,hq with
      | 0, hv, hq =>
        simp only [List.getElem?_cons_zero,Option.some.injEq] at hv hq
        subst hv hq
        exact rdEnF hm1 (by exact Take.there .here) (by rw [List.length_take];omega)
      | 1, hv, hq =>
        simp only [List.getElem?_cons_succ,List.getElem?_cons_zero,Option.some.injEq] at hv hq
        subst hv hq
        exact h2.keeps hm1.keeps
      | 2, hv, hq =>
        simp only [List.getElem?_cons_succ,List.getElem?_cons_zero,Option.some.injEq] at hv hq
        subst hv hq
        exact hsl.keeps hm1.keeps
      | i + 3,hv,hq=>simp at hv
    · have:=chg_length es f t l hf
      unfold chg at this
      omega
  rw [show [es.take f,l,es.drop t].flatten = chg es f t l from rfl]
  intro v _
  dsimp only [id_eq,List.cons_append,List.nil_append]
  refine tr_rowSl (E:=67) (sz:=6) (by exact .here) fun a' cap' e=>?_
  subst e
  (refine tr_val (rk_buildL (.cons (.of rfl) .nil) norm_) rfl ?_;refine tr_store (.of rfl) (.of rfl) (.there (.there (.there .here))) rfl rfl (okc_cons rfl okc_nil) (lenb rfl) norm_ ?_;refine n_t ?_;refine tr_ret ?_)
  first | with_reducible apply tr_retM | with_reducible apply tr_endM
  case he=>exact ends1cB rfl inferInstance rfl .here norm_ (by rfl)
  case hR=>
    intro w' hm'
    exact gives_end (.slice a' (chg es f t l).length cap') trivial (show Takes _ [row 67 6 (.slice a' (chg es f t l).length cap') (chg es f t l).length (ensL (chg es f t l)).flatten] _ by exact .cons (.there .here) .nil) hm' rfl
end Go.Proofs.A1
