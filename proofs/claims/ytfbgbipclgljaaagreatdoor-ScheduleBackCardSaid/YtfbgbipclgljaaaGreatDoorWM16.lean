/- Parts of the proof: S38 S39 S40 S41. -/
import Derived.Test.YtfbgbipclgljaaaGreatDoorWM15
import Derived.Test.YtfbgbipclgljaaaGreatDoorWM06
set_option linter.unusedSectionVars false
set_option linter.unusedVariables false
set_option linter.unusedSimpArgs false
namespace Go.Proofs.A1
open Go Go.SL
def fillsA (b:Br):List (List Nat):=fillsF b b.sp.length []
def fiL (b:Br):List Nat:=if brE b = 0 then fillF b else []
def fiV (b:Br):Int × Int:=if brE b = 0 then (tV b.sp (fillF b) (fillF b).length,tL b.sp (fillF b) (fillF b).length) else (0,0)
theorem bestF_snoc (b:Br) (l:List (List Nat)) (x:List Nat):bestF b (l++[x]) = if betterB b x (bestF b l) then x else bestF b l:=by
  unfold bestF
  rw [List.foldl_append];rfl
def BestAt (b:Br) (vs:List Value) (x:Value × List Nat):Prop:=
  x.2 = bestF b ((fillsA b).take vs.length) ∧ ((x.1 = .slice none 0 0 ∧ x.2 = []) ∨ ∃ j:Nat,vs[j]? = some x.1 ∧ (fillsA b)[j]? = some x.2)
theorem BestAt.rd {b:Br} {vs:List Value} {x:Value × List Nat} (h:BestAt b vs x) {c:Cx} {hs hs':List Asn} {w:World} {E:TypeId} {vs':List Value} {k:Nat} (hm:Mem c hs w) (ht:Take hs (pool E vs' (((fillsA b).map natsV).take k)) hs') (hpre:vs <+: vs') (hk:vs.length ≤ k):Rd w x.1 1 (natsL x.2):=by
  obtain ⟨_,h | ⟨j,hj,hx⟩⟩:=h
  · rw [h.1,h.2];exact Rd.nil w 1
  · have hlt:j < vs.length:=(List.getElem?_eq_some_iff.1 hj).1
    refine rdPoolN hm ht (j:=j) ?_ ?_
    · obtain ⟨r,rfl⟩:=hpre
      rw [List.getElem?_append_left hlt];exact hj
    · rw [List.getElem?_take,if_pos (by omega),List.getElem?_map,hx];rfl
theorem BestAt.dif {b:Br} {vs:List Value} {x:Value × List Nat} (h:BestAt b vs x):Dif b.sp.length x.2:=by
  obtain ⟨_,h | ⟨j,hj,hx⟩⟩:=h
  · rw [h.2];exact Dif.nil _
  · exact fillsF_dif (Dif.nil _) _ (List.mem_of_getElem? hx)
theorem BestAt.one {b:Br} {vs:List Value} {x:Value × List Nat} (h:BestAt b vs x) {c:Cx} {hs hs':List Asn} {w:World} {E:TypeId} {vs':List Value} {k:Nat} (hm:Mem c hs w) (ht:Take hs (pool E vs' (((fillsA b).map natsV).take k)) hs') (hpre:vs <+: vs') (hk:vs.length ≤ k):x.1.oneCell' = true:=Rd.one (h.rd hm ht hpre hk)
theorem Rd.shape {w:World} {v:Value} {sz:Nat} {xs:List (List Value)} (h:Rd w v sz xs):∃ a n cp,v = .slice a n cp:=by
  obtain ⟨a,cap,b,o,rfl,_⟩:=h
  exact ⟨_,_,_,rfl⟩
theorem tr_fact {c:Cx} {D:List Nat} {sl:Slots} {hs:List Asn} {X:Act → World → Prop} {p:Prop} (h:∀ w,Mem c hs w → p) (k:p → Tr c D sl hs X):Tr c D sl hs X:=fun a w hst=>k (h w hst.mem') a w hst
theorem fills_len {b:Br} {k:Nat} {x:List Nat} (h:(fillsA b)[k]? = some x):(fillsA b).take (k + 1) = (fillsA b).take k++[x]:=by
  rw [List.take_add_one,h];rfl
theorem or_c1 {lv:Value} {vs:List Value} {l:List Int} {w:World} (h:Rd w lv 1 (vs.map fun v=>[v])) (hl:IntL vs l):GivesV Tryz.prog 125 [lv] w (.int .i64 (firstF l)):=by
  rw [hl.eq] at h
  exact or_c h
set_option maxHeartbeats 1000000 in
theorem fill_c {b:Br} {sv cv xv:Value} {w:World} (h1:Rd w sv 4 (spsL b.sp)) (h2:Rd w cv 1 (ints b.cm)) (h3:Rd w xv 2 (prsL b.ex)) :
    Gives Tryz.prog 62 [.agg #[.int .i64 b.n,sv,cv,xv]] w [] (fun _:Value=>True) (fun v=>.tuple #[v,.agg #[.int .i64 (fiV b).1,.int .i64 (fiV b).2],.int .i64 (brE b)]) (fun v=>[row 3 1 v (fiL b).length (natsV (fiL b))]):=by
  have hone1:=Rd.one h1
  have hone2:=Rd.one h2
  have hone3:=Rd.one h3
  refine gives_of_tr Tryz.func62 rfl rfl ?_
  (refine s_r ?_;refine tr_new (rk_box (.of rfl) rfl) rfl (fun _ _=>?_);refine a_s rfl rfl ?_;refine tr_new (rk_alloc rfl) rfl (fun _ _=>?_);refine a_s rfl rfl ?_;refine n_t ?_;refine tr_seq ?_;refine s_r ?_;refine tr_val (rk_loadB (.of rfl) (.there .here) norm_ (by rfl)) rfl ?_;refine tr_callV (rk_call (.of rfl) (.cons (.of rfl) .nil) inferInstance normc_) rfl (fun w' hm'=>(brk_c (Rd.keeps h1 (Mem.keeps hm')) (Rd.keeps h2 (Mem.keeps hm')) (Rd.keeps h3 (Mem.keeps hm')))) ?_;refine a_s rfl rfl ?_;refine n_r ?_;refine m_v rfl rfl ?_;refine tr_val (rk_neq (.of rfl) (.of rfl)) rfl ?_;refine n_t ?_;refine c_d rfl (fun hcd=>?_) (fun hcd=>?_);refine s_r ?_;refine tr_val (rk_buildL .nil norm_) rfl ?_;refine m_v rfl rfl ?_;refine a_s rfl rfl ?_;refine tr_store (.of rfl) (.of rfl) .here rfl rfl (okc_cons rfl (okc_cons rfl okc_nil)) (lenb rfl) norm_ ?_;refine a_s rfl rfl ?_;refine n_t ?_;refine r_t ?_;rotate_left;refine s_t ?_;refine s_r ?_;refine tr_new (rk_alloc rfl) rfl (fun _ _=>?_);refine n_t ?_;refine tr_seq ?_;refine s_r ?_;refine tr_val (rk_loadB (.of rfl) (.there (.there .here)) norm_ (by rfl)) rfl ?_;rotate_right)
  · rw [fiL,if_neg hcd,fiV,if_neg hcd]
    refine tr_rowNil 3 1 ?_
    first | with_reducible apply tr_retM | with_reducible apply tr_endM
    case he=>exact endsTCT rfl inferInstance rfl rfl (.there .here) norm_ (by rfl) (by rfl)
    case hR=>
      intro w' hm'
      exact gives_end (.slice none 0 0) trivial (show Takes _ [row 3 1 (.slice none 0 0) 0 []] _ by exact .cons .here .nil) hm' rfl
  have hz:brE b = 0:=Decidable.not_not.1 hcd
  have hok:=BrOk.of hz
  rename_i b1 hb1 b3 hb3 b6 hb6
  rw [fiL,if_pos hz,fiV,if_pos hz,hz]
  with_reducible apply tr_call
  case hr=>exact rk_call (.of rfl) (.cons (.of rfl) .nil) inferInstance normc_
  case hd=>rfl
  case ht=>exact Takes.nil
  case hc=>
    intro w1 fp hm1 _ hs1
    obtain rfl:fp = []:=hs1
    exact fillings_c _ _ _ _ hone1 hone2 hone3
  intro x1 _
  dsimp only [List.cons_append,List.nil_append]
  (refine n_t ?_;refine tr_block ?_)
  refine tr_rangePool (p:=18) (f:=188) (first:=[]) (cap:=[.pointer (some ⟨x1,0,none⟩)]) (ι:=Value × List Nat) (rst:=[blk b3 (.cells #[.int .i64 0,.int .i64 0] 121 (0,0))]) ?hg
    [blk x1 (.cells #[.int .i64 b.n,sv,cv,xv] 91 (0,0))] 3 ((fillsA b).map natsV) ?hit (fun vs x=>BestAt b vs x)
    (fun x=>[blk b6 (.cells #[x.1] 44 (0,0)),blk b1 (.cells #[.int .i64 b.n,sv,cv,xv] 91 (0,0))]) (.slice none 0 0,[]) ?h0 ?ht ?hp' ?round ?kn
  case hg=>exact Is.of rfl
  case hit=>intro w' hm';exact fillsI_c hok h1 h2 h3 (Out.nil _ _) (Out.nil _ _) (Out.nil _ _)
  case h0=>exact ⟨rfl,.inl ⟨rfl,rfl⟩⟩
  case ht=>
    show Takes _ [blk b6 (.cells #[.slice none 0 0] 44 (0,0)),blk b1 (.cells #[.int .i64 b.n,sv,cv,xv] 91 (0,0)),blk x1 _] _
    exact .cons (.there .here) (.cons (.there (.there .here)) (.cons .here .nil))
  case hp'=>exact Nat.le_of_ble_eq_true rfl
  case kn=>
    rintro ⟨bv,bo⟩ vs D hvl hbest
    dsimp only [List.cons_append,List.nil_append]
    rw [List.length_map] at hvl
    have h1W:=h1
    have o1W:Out [] sv (spsL b.sp):=Out.nil _ _
    have hpre:vs <+: vs:=List.prefix_rfl
    have hle:vs.length ≤ vs.length:=Nat.le_refl _
    have hdB:Dif b.sp.length bo:=hbest.dif
    have hlB:bo.length ≤ 1000:=by have:=hdB.len;have:=hok.few;omega
    have hbo:bo = fillF b:=by
      have:=hbest.1
      rwa [hvl,List.take_length] at this
    have htk:(fillsA b).map natsV = ((fillsA b).map natsV).take vs.length:=by rw [List.take_of_length_le];rw [List.length_map];omega
    rw [htk]
    refine tr_fact (fun w hm=>hbest.one hm (by exact Take.there (.there .here)) hpre hle) fun honeB=>?_
    (refine tr_blk_normal ?_;refine tr_then ?_;refine tr_seq ?_)
    with_reducible refine tr_draw 4 (by kernel_rfl) ?_
    (refine any_val (rk_load1 (.of rfl) (At.lit .here rfl)) rfl ?_;refine any_val (rk_loadB (.of rfl) (.there .here) norm_ (by rfl)) rfl ?_;refine any_val (rk_load1 (.of rfl) (At.lit .here rfl)) rfl ?_;refine any_call (rk_call (.of rfl) (.cons (.of rfl) (.cons (.of rfl) .nil)) inferInstance normc_) rfl (fun w' hm'=>(told9_c (Rd.keepsN h1W o1W (Mem.keeps hm')) (BestAt.rd hbest hm' (.there (.there .here)) hpre hle) hone2 hone3 (BrOk.spOk hok) (Dif.lt hdB) hlB)) ?_)
    with_reducible refine any_end ?_
    (refine a_s rfl rfl ?_;refine tr_store (.of rfl) (.of rfl) (.there (.there (.there (.there .here)))) rfl rfl (okc_cons rfl (okc_cons rfl okc_nil)) (lenb rfl) norm_ ?_;refine a_s rfl rfl ?_;refine n_t ?_;refine tr_ret ?_)
    rw [← hbo]
    obtain ⟨_,h | ⟨j,hj,hx⟩⟩:=hbest
    · obtain ⟨e1,e2⟩:=h
      dsimp only at e1 e2
      subst e1 e2
      refine tr_rowNil 3 1 ?_
      first | with_reducible apply tr_retM | with_reducible apply tr_endM
      case he=>exact endsTCT rfl inferInstance rfl rfl (.there .here) norm_ (by rfl) (by rfl)
      case hR=>
        intro w' hm'
        exact gives_end (.slice none 0 0) trivial (show Takes _ [row 3 1 (.slice none 0 0) 0 []] _ by exact .cons .here .nil) hm' rfl
    · refine tr_poolTake (j:=j) (v:=bv) (x:=natsV bo) (by exact Take.there (.there (.there .here))) hj ?_ ?_
      · have hlt:j < vs.length:=(List.getElem?_eq_some_iff.1 hj).1
        rw [List.getElem?_take,if_pos hlt,List.getElem?_map,hx];rfl
      rw [natsV_length]
      first | with_reducible apply tr_retM | with_reducible apply tr_endM
      case he=>exact endsTCT rfl inferInstance rfl rfl (.there .here) norm_ (by rfl) (by rfl)
      case hR=>
        intro w' hm'
        exact gives_end bv trivial (show Takes _ [row 3 1 bv bo.length (natsV bo)] _ by exact .cons .here .nil) hm' rfl
  case round=>
    rintro l rc W fp vs v ⟨bv,bo⟩ hsz hvl hbest hB hF
    rw [List.length_map] at hvl
    have hx0:(fillsA b)[vs.length]? = some (fillsA b)[vs.length]:=List.getElem?_eq_getElem hvl
    generalize ho:(fillsA b)[vs.length] = o at hx0
    have hdN:Dif b.sp.length o:=fillsF_dif (Dif.nil _) _ (List.mem_of_getElem? hx0)
    have hlN:o.length ≤ 1000:=by have:=hdN.len;have:=hok.few;omega
    have hdB:Dif b.sp.length bo:=hbest.dif
    have hlB:bo.length ≤ 1000:=by have:=hdB.len;have:=hok.few;omega
    have hvN:(vs++[v])[vs.length]? = some v:=by simp
    have hxN:(((fillsA b).map natsV).take (vs.length + 1))[vs.length]? = some (natsV o):=by
      rw [List.getElem?_take,if_pos (by omega),List.getElem?_map,hx0];rfl
    have hpre:vs <+: vs++[v]:=List.prefix_append _ _
    have hle:vs.length ≤ vs.length + 1:=by omega
    have h1W:Rd W sv 4 (spsL b.sp):=h1.keepsN (Out.nil _ _) hB
    have o1W:Out fp sv (spsL b.sp):=h1.out (by omega) (Out.nil _ _) hF
    have hsn:bestF b ((fillsA b).take (vs.length + 1)) = if betterB b o bo then o else bo:=by
      have e:bo = bestF b ((fillsA b).take vs.length):=hbest.1
      rw [fills_len hx0,bestF_snoc,← e]
    have hvl1:∀ u:Value,(vs++[u]).length = vs.length + 1:=fun u=>by simp
    dsimp only [List.cons_append,List.nil_append]
    refine tr_fact (fun w hm=>hbest.one hm (by exact Take.there (.there (.there .here))) hpre hle) fun honeB=>?_
    refine tr_fact (fun w hm=>Rd.shape (rdPoolN hm (by exact Take.there (.there (.there .here))) hvN hxN)) fun hsh=>?_
    obtain ⟨av,nv,cpv,e⟩:=hsh
    subst e
    dsimp only at honeB
    (refine tr_region ?_;refine a_s rfl rfl ?_;refine n_t ?_)
    with_reducible apply tr_begin
    case ht=>exact .here
    (refine tr_block ?_;refine tr_seq ?_)
    with_reducible refine tr_drawO 8 (by kernel_rfl) ?_
    (refine ao_val (rk_loadB (.of rfl) (.there (.there .here)) norm_ (by rfl)) rfl ?_;refine ao_val (rk_move (.of rfl)) rfl ?_;refine ao_call (rk_call (.of rfl) (.cons (.of rfl) (.cons (.of rfl) .nil)) inferInstance normc_) rfl (fun w' hm'=>(told9_c (Rd.keepsN h1W o1W (Mem.keeps hm')) (rdPoolN hm' (.there (.there (.there .here))) hvN hxN) hone2 hone3 (BrOk.spOk hok) (Dif.lt hdN) hlN)) ?_;refine ao_val (rk_loadB (.of rfl) (.there (.there .here)) norm_ (by rfl)) rfl ?_;refine ao_val (rk_load1 (.of rfl) (At.lit (.there .here) rfl)) rfl ?_;refine ao_call (rk_call (.of rfl) (.cons (.of rfl) (.cons (.of rfl) .nil)) inferInstance normc_) rfl (fun w' hm'=>(told9_c (Rd.keepsN h1W o1W (Mem.keeps hm')) (BestAt.rd hbest hm' (.there (.there (.there .here))) hpre hle) hone2 hone3 (BrOk.spOk hok) (Dif.lt hdB) hlB)) ?_;refine ao_new (rk_alloc rfl) rfl rfl ?_;refine ao_new (rk_alloc rfl) rfl rfl ?_)
    with_reducible refine ao_end2 rfl fun b8 b9 hb8 hb9=>?_
    (refine tr_store (.of rfl) (.of rfl) .here rfl rfl (okc_cons rfl (okc_cons rfl okc_nil)) (lenb rfl) norm_ ?_;refine tr_store (.of rfl) (.of rfl) (.there .here) rfl rfl (okc_cons rfl (okc_cons rfl okc_nil)) (lenb rfl) norm_ ?_;refine n_t ?_;refine tr_seq ?_)
    with_reducible refine tr_draw 10 (by kernel_rfl) ?_
    (refine any_val (rk_indexAddrA (.of rfl) (.of rfl) (by omega) (by omega) norm1_) rfl ?_;refine any_val (rk_load1 (.of rfl) (At.lit (.there .here) rfl)) rfl ?_;refine any_val (rk_indexAddrA (.of rfl) (.of rfl) (by omega) (by omega) norm1_) rfl ?_;refine any_val (rk_load1 (.of rfl) (At.lit .here rfl)) rfl ?_;refine any_call (rk_call (.of rfl) (.cons (.of rfl) (.cons (.of rfl) .nil)) inferInstance normc_) rfl (fun w' hm'=>(cmp_c _ _ w')) ?_;refine any_val (rk_indexAddrA (.of rfl) (.of rfl) (by omega) (by omega) norm1_) rfl ?_;refine any_val (rk_load1 (.of rfl) (At.lit (.there .here) rfl)) rfl ?_;refine any_val (rk_indexAddrA (.of rfl) (.of rfl) (by omega) (by omega) norm1_) rfl ?_;refine any_val (rk_load1 (.of rfl) (At.lit .here rfl)) rfl ?_;refine any_call (rk_call (.of rfl) (.cons (.of rfl) (.cons (.of rfl) .nil)) inferInstance normc_) rfl (fun w' hm'=>(cmp_c _ _ w')) ?_)
    with_reducible refine any_end ?_
    (refine tr_new (rk_sliceLit (.cons (.of rfl) (.cons (.of rfl) .nil)) rfl rfl rfl rfl) rfl (fun _ _=>?_);refine tr_callV (rk_call (.of rfl) (.cons (.of rfl) .nil) inferInstance normc_) rfl (fun w' hm'=>(or_c1 (Mem.rdBlk hm' .here rfl rfl) (IntL.cons (IntL.cons IntL.nil)))) ?_;refine tr_val (rk_gtr (.of rfl) (.of rfl)) rfl ?_;refine n_t ?_;refine c_d rfl (fun hcd=>?_) (fun hcd=>?_);refine tr_region ?_;refine m_v rfl rfl ?_;refine tr_store (.of rfl) (.of rfl) (.there (.there (.there (.there .here)))) rfl rfl (okc_cons rfl okc_nil) (lenb rfl) norm_ ?_;refine tr_nil ?_;refine tr_blk_normal ?_;rotate_left;refine tr_skip ?_;refine tr_blk_normal ?_;rotate_right)
    · have hbt:betterB b o bo = true:=by rw [← better_eq];simpa using hcd
      rw [hbt,if_pos rfl] at hsn
      apply tr_poolN (.slice av nv cpv,o)
      case ht=>exact Take.there (.there (.there (.there .here)))
      case hx=>
        refine ⟨?_,.inr ⟨vs.length,hvN,hx0⟩⟩
        rw [hvl1];exact hsn.symm
      case h2=>
        show Takes _ [blk b6 (.cells #[.slice av nv cpv] 44 (0,0)),blk b1 (.cells #[.int .i64 b.n,sv,cv,xv] 91 (0,0)),pool 3 (vs++[.slice av nv cpv]) (((fillsA b).map natsV).take (vs++[Value.slice av nv cpv]).length)] _
        rw [hvl1]
        exact .cons .here (.cons (.there (.there (.there .here))) (.cons (.there (.there (.there .here))) .nil))
    · have hbt:betterB b o bo = false:=by rw [← better_eq];simpa using hcd
      rw [hbt,if_neg (by decide)] at hsn
      apply tr_poolN (bv,bo)
      case ht=>exact Take.there (.there (.there .here))
      case hx=>
        obtain ⟨_,hbb⟩:=hbest
        refine ⟨by rw [hvl1];exact hsn.symm,hbb.imp id fun ⟨j,hj,hx⟩=>⟨j,?_,hx⟩⟩
        have hlt:j < vs.length:=(List.getElem?_eq_some_iff.1 hj).1
        rw [List.getElem?_append_left hlt];exact hj
      case h2=>
        show Takes _ [blk b6 (.cells #[bv] 44 (0,0)),blk b1 (.cells #[.int .i64 b.n,sv,cv,xv] 91 (0,0)),pool 3 (vs++[.slice av nv cpv]) (((fillsA b).map natsV).take (vs++[Value.slice av nv cpv]).length)] _
        rw [hvl1]
        exact .cons (.there (.there (.there .here))) (.cons (.there (.there (.there .here))) (.cons (.there (.there (.there .here))) .nil))
end Go.Proofs.A1
namespace Go.Proofs.A1
open Go Go.SL
theorem mul_bd {a b A B:Int} (h1:0 ≤ a) (h2:a ≤ A) (h3:0 ≤ b) (h4:b ≤ B):0 ≤ a * b ∧ a * b ≤ A * B:=
  ⟨Int.mul_nonneg h1 h3,Int.mul_le_mul h2 h4 h3 (Int.le_trans h1 h2)⟩
def bndN (b:Br) (p:Int × Int):Nat → Int
  | 0=>p.1 * b.n
  | k + 1=>bndN b p k + max 0 ((nthS b.sp k).vl * p.2 - p.1 * (nthS b.sp k).ln)
def bndF (b:Br) (p:Int × Int):Int:=bndN b p b.sp.length / p.2
structure PrOk (p:Int × Int):Prop where
  n:0 ≤ p.1 ∧ p.1 ≤ 999999999
  d:1 ≤ p.2 ∧ p.2 ≤ 999999999
theorem bndN_in {b:Br} (hb:BrOk b) {p:Int × Int} (hp:PrOk p):∀ k,k ≤ b.sp.length → 0 ≤ bndN b p k ∧ bndN b p k ≤ 99999999900000 + 1000000000000000 * k
  | 0, _ => by
    have:=mul_bd hp.n.1 hp.n.2 hb.n.1 hb.n.2
    rw [bndN];omega
  | k + 1, h => by
    have ih:=bndN_in hb hp k (by omega)
    have hm:=nthS_mem (l:=b.sp) (k:=k) (by omega)
    have h1:=hb.vl _ hm
    have h2:=hb.ln _ hm
    have hd:=hp.d
    have e1:=mul_bd h1.1 h1.2 (show 0 ≤ p.2 by omega) hd.2
    have e2:=mul_bd hp.n.1 hp.n.2 (show 0 ≤ (nthS b.sp k).ln by omega) h2.2
    rw [bndN];omega
theorem bound_c {b:Br} {sv cv xv:Value} {p:Int × Int} {w:World} (h1:Rd w sv 4 (spsL b.sp)) (hone2:cv.oneCell' = true) (hone3:xv.oneCell' = true) (hok:BrOk b) (hp:PrOk p) :
    GivesV Tryz.prog 127 [.agg #[.int .i64 b.n,sv,cv,xv],.agg (duoV p).toArray] w (.int .i64 (bndF b p)):=by
  obtain ⟨a,cap,bs,os,rfl,hcap,hmax,ha,hc⟩:=h1
  rw [spsL_length] at *
  unfold maxLen at hmax
  unfold duoV
  have hfew:=hok.few
  have hpn:=hp.n
  have hpd:=hp.d
  have hbn:=hok.n
  have e0:=mul_bd hpn.1 hpn.2 hbn.1 hbn.2
  refine givesV_of_tr Tryz.func127 rfl rfl ?_
  (refine s_r ?_;refine tr_new (rk_box (.of rfl) rfl) rfl (fun _ _=>?_);refine tr_new (rk_box (.of rfl) rfl) rfl (fun _ _=>?_);refine a_s rfl rfl ?_;refine n_r ?_;refine f_a rfl rfl norm0_ ?_;refine tr_val (rk_load1 (.of rfl) (At.lit .here rfl)) rfl ?_;refine f_a rfl rfl norm0_ ?_;refine tr_val (rk_load1 (.of rfl) (At.lit (.there .here) rfl)) rfl ?_;refine tr_val (rk_mul (.of rfl) (.of rfl) (ini (by omega))) rfl ?_;refine a_s rfl rfl ?_;refine n_t ?_;refine tr_seq ?_;refine s_r ?_;refine f_a rfl rfl norm0_ ?_;refine tr_val (rk_load1 (.of rfl) (At.lit (.there .here) rfl)) rfl ?_;refine tr_val (rk_len_slice (.of rfl)) rfl ?_;refine m_v rfl rfl ?_;refine n_t ?_;refine tr_block ?_)
  rename_i b0 hb0 b3 hb3
  refine tr_for (ι:=Nat) (fun k=>k ≤ b.sp.length) (fun k=>[(16,.int .i64 k),(15,.int .i64 b.sp.length),(14,.slice a b.sp.length cap),(5,.int .i64 (bndN b p k)),(2,.pointer (some ⟨b0,0,none⟩)),(3,.pointer (some ⟨b3,0,none⟩))])
    (fun _=>[blk b3 (.cells #[.int .i64 p.1,.int .i64 p.2] 85 (0,0)),blk b0 (.cells #[.int .i64 b.n,.slice a b.sp.length cap,cv,xv] 91 (0,0))]) (fun k=>b.sp.length - k) ?_ ?_
  · apply tr_start (0:Nat) (show (0:Nat) ≤ b.sp.length from Nat.zero_le _)
    case hs1=>exact .cons rfl (.cons rfl (.cons rfl (.cons rfl (.cons rfl (.cons rfl .nil)))))
    case ht=>exact .cons .here (.cons .here .nil)
  intro k hk
  have hbk:=bndN_in hok hp k hk
  by_cases hlt:k < b.sp.length
  · have ha':=ha (spsL_ne hlt)
    have hcell:=(hc k _ (spsL_get hlt)).2
    have hm:=nthS_mem hlt
    have hv:=hok.vl _ hm
    have hl:=hok.ln _ hm
    have e1:=mul_bd hv.1 hv.2 (show 0 ≤ p.2 by omega) hpd.2
    have e2:=mul_bd hpn.1 hpn.2 (show 0 ≤ (nthS b.sp k).ln by omega) hl.2
    have hs:bndN b p (k + 1) = bndN b p k + max 0 ((nthS b.sp k).vl * p.2 - p.1 * (nthS b.sp k).ln):=rfl
    unfold Sp.cells at hcell
    (refine s_r ?_;refine tr_val (rk_lss (.of rfl) (.of rfl)) rfl ?_;refine n_t ?_;refine tr_seq ?_;refine c_d rfl (fun hcd=>?_) (fun _=>by omega);refine s_t ?_;refine tr_seq ?_;refine tr_block ?_;refine s_r ?_;refine tr_val (rk_indexAddr (.of rfl) (.of rfl) ha' (by omega) hcd norm1_) rfl ?_;refine tr_val (rk_loadN (.of rfl) (Ats.base hcell rfl) rfl) rfl ?_;refine tr_new (rk_alloc rfl) rfl (fun _ _=>?_);refine tr_store (.of rfl) (.of rfl) .here rfl rfl (okc_cons rfl (okc_cons rfl (okc_cons rfl (okc_cons rfl okc_nil)))) (lenb rfl) norm_ ?_;refine n_t ?_;refine tr_region ?_;refine m_v rfl rfl ?_;refine f_a rfl rfl norm0_ ?_;refine tr_val (rk_load1 (.of rfl) (At.lit .here rfl)) rfl ?_;refine f_a rfl rfl norm0_ ?_;refine tr_val (rk_load1 (.of rfl) (At.lit (.there .here) rfl)) rfl ?_;refine tr_val (rk_mul (.of rfl) (.of rfl) (ini (by omega))) rfl ?_;refine f_a rfl rfl norm0_ ?_;refine tr_val (rk_load1 (.of rfl) (At.lit (.there .here) rfl)) rfl ?_;refine f_a rfl rfl norm0_ ?_;refine tr_val (rk_load1 (.of rfl) (At.lit .here rfl)) rfl ?_;refine tr_val (rk_mul (.of rfl) (.of rfl) (ini (by omega))) rfl ?_;refine tr_val (rk_sub (.of rfl) (.of rfl) (ini (by omega))) rfl ?_;refine tr_val (rk_max2 (.of rfl) (.of rfl)) rfl ?_;refine tr_val (rk_add (.of rfl) (.of rfl) (ini (by omega))) rfl ?_;refine a_s rfl rfl ?_;refine tr_nil ?_;refine tr_blk_normal ?_;refine tr_then ?_;refine tr_region ?_;refine tr_val (rk_add (.of rfl) (.of rfl) (ini (by omega))) rfl ?_;refine m_v rfl rfl ?_;refine n_t ?_)
    apply tr_next (k + 1) (show k + 1 ≤ b.sp.length by omega) (show b.sp.length - (k + 1) < b.sp.length - k by omega)
    case hs1=>exact .cons rfl (.cons rfl (.cons rfl (.cons rfl (.cons rfl (.cons rfl .nil)))))
    case ht=>exact .cons (.there .here) (.cons (.there .here) .nil)
  · obtain rfl:k = b.sp.length:=by omega
    (refine s_r ?_;refine tr_val (rk_lss (.of rfl) (.of rfl)) rfl ?_;refine n_t ?_;refine tr_seq ?_;refine c_d rfl (fun _=>by omega) (fun hcd=>?_);refine x_t ?_;refine tr_then_exit ?_;refine tr_blk_exit ?_;refine tr_then ?_;refine s_r ?_;refine m_v rfl rfl ?_;refine f_a rfl rfl norm0_ ?_;refine tr_val (rk_load1 (.of rfl) (At.lit .here rfl)) rfl ?_;refine tr_val (rk_quo (.of rfl) (.of rfl) (by omega) (by omega) (by omega)) rfl ?_;refine a_s rfl rfl ?_;refine n_t ?_;refine tr_ret ?_;refine tr_retE rfl (ends1 rfl rfl) ?_)
    rfl
theorem whenP_c (h:Bool) (e:Int) (w:World):GivesV Tryz.prog 183 [.bool h,.int .i64 e] w (.int .i64 (whenF h e)):=by
  refine givesV_of_tr Tryz.func183 rfl rfl ?_
  (refine s_r ?_;refine a_s rfl rfl ?_;refine n_t ?_;refine tr_seq ?_;refine s_r ?_;refine m_v rfl rfl ?_;refine n_t ?_;refine c_b rfl (fun hcd=>?_) (fun hcd=>?_);refine s_r ?_;refine m_v rfl rfl ?_;refine a_s rfl rfl ?_;refine n_t ?_;refine r_t ?_;refine tr_retE rfl (ends1 rfl rfl) ?_;rotate_left;refine s_t ?_;refine s_r ?_;refine a_s rfl rfl ?_;refine n_t ?_;refine tr_ret ?_;refine tr_retE rfl (ends1 rfl rfl) ?_;rotate_right)
  all_goals simp [whenF, *]
theorem withinP_c (n l m:Int) (w:World):GivesV Tryz.prog 182 [.int .i64 n,.int .i64 l,.int .i64 m] w (.int .i64 (withinF n l m)):=by
  refine givesV_of_tr Tryz.func182 rfl rfl ?_
  (refine s_r ?_;refine a_s rfl rfl ?_;refine n_r ?_;refine m_v rfl rfl ?_;refine m_v rfl rfl ?_;refine tr_val (rk_lss (.of rfl) (.of rfl)) rfl ?_;refine m_v rfl rfl ?_;refine v_g rfl rfl rfl rfl ?_;refine v_g rfl rfl rfl rfl ?_;refine tr_vG1 rfl rfl inferInstance (fun hg hgp=>(rk_gtr (.ofg hg rfl) (.ofg hg rfl))) rfl ?_;refine tr_val (rk_pick_or (.of rfl) rfl) rfl ?_;refine tr_callV (rk_call (.of rfl) (.cons (.of rfl) (.cons (.of rfl) .nil)) inferInstance normc_) rfl (fun w' hm'=>(whenP_c _ 3 w')) ?_;refine a_s rfl rfl ?_;refine n_t ?_;refine tr_ret ?_;refine tr_retE rfl (ends1 rfl rfl) ?_)
  rfl
theorem firstP_c {v:Value} {es:List Int} {w:World} (h:Rd w v 1 (ints es)):GivesV Tryz.prog 181 [v] w (.int .i64 (firstF es)):=by
  obtain ⟨a,cap,b,o,rfl,hcap,hmax,ha,hc⟩:=h
  rw [ints_length] at *
  unfold maxLen at hmax
  refine givesV_of_tr Tryz.func181 rfl rfl ?_
  (refine s_r ?_;refine a_s rfl rfl ?_;refine n_t ?_;refine tr_seq ?_;refine s_r ?_;refine m_v rfl rfl ?_;refine tr_val (rk_len_slice (.of rfl)) rfl ?_;refine m_v rfl rfl ?_;refine n_t ?_;refine tr_block ?_)
  refine tr_for (fun k:Nat=>k ≤ es.length ∧ firstF es = firstF (es.drop k)) (fun k=>[(7,.int .i64 k),(6,.int .i64 es.length),(5,.slice a es.length cap)]) (fun _=>[]) (fun k=>es.length - k) ?_ ?_
  · apply tr_start 0 ⟨Nat.zero_le _,rfl⟩
    case hs1=>exact .cons rfl (.cons rfl (.cons rfl .nil))
    case ht=>(try simp only [List.take_zero,List.map_nil,List.nil_append]);exact .nil
  rintro k ⟨hk,hf⟩
  by_cases hlt:k < es.length
  · have ha':=ha (ints_ne hlt)
    have c0:w.cell? ⟨b,o + k * 1,none⟩ = some (.int .i64 es[k]):=(hc k _ (ints_get hlt)).2 0 _ rfl
    have hat:=firstF_at hlt
    (refine s_r ?_;refine tr_val (rk_lss (.of rfl) (.of rfl)) rfl ?_;refine n_t ?_;refine tr_seq ?_;refine c_d rfl (fun hcd=>?_) (fun _=>by omega);refine s_t ?_;refine tr_seq ?_;refine tr_block ?_;refine s_r ?_;refine tr_val (rk_indexAddr (.of rfl) (.of rfl) ha' (by omega) hcd norm1_) rfl ?_;refine tr_val (rk_load1 (.of rfl) (At.base c0 rfl)) rfl ?_;refine a_s rfl rfl ?_;refine n_r ?_;refine m_v rfl rfl ?_;refine tr_val (rk_neq (.of rfl) (.of rfl)) rfl ?_;refine n_t ?_;refine c_d rfl (fun hcd=>?_) (fun hcd=>?_);refine s_r ?_;refine m_v rfl rfl ?_;refine a_s rfl rfl ?_;refine n_t ?_;refine tr_ret ?_;refine tr_blk_ret ?_;refine tr_then_ret ?_;refine tr_then_ret ?_;refine tr_blk_ret ?_;refine tr_then_ret ?_;refine tr_retE rfl (ends1 rfl rfl) ?_;rotate_left;refine tr_skip ?_;refine tr_blk_normal ?_;refine tr_then ?_;refine tr_region ?_;refine tr_val (rk_add (.of rfl) (.of rfl) (ini (by omega))) rfl ?_;refine m_v rfl rfl ?_;refine n_t ?_;rotate_right)
    · rw [hf,hat,if_pos hcd]
    · apply tr_next (k + 1) ⟨by omega,by rw [hf,hat,if_neg hcd]⟩ (by omega)
      case hs1=>exact .cons rfl (.cons rfl (.cons rfl .nil))
      case ht=>(try simp only [List.take_zero,List.map_nil,List.nil_append]);exact .nil
  · obtain rfl:k = es.length:=by omega
    (refine s_r ?_;refine tr_val (rk_lss (.of rfl) (.of rfl)) rfl ?_;refine n_t ?_;refine tr_seq ?_;refine c_d rfl (fun _=>by omega) (fun hcd=>?_);refine x_t ?_;refine tr_then_exit ?_;refine tr_blk_exit ?_;refine tr_then ?_;refine s_r ?_;refine a_s rfl rfl ?_;refine n_t ?_;refine tr_ret ?_;refine tr_retE rfl (ends1 rfl rfl) ?_)
    rw [hf,List.drop_length];rfl
theorem firstP_cB {v:Value} {vs:List Value} {es:List Int} {w:World} (h:Rd w v 1 (vs.map fun v=>[v])) (hl:IntL vs es):GivesV Tryz.prog 181 [v] w (.int .i64 (firstF es)):=by
  rw [hl.eq] at h
  exact firstP_c h
theorem divP_c (n d:Int) (w:World) (hn:-999999999 ≤ n ∧ n ≤ 999999999) (hd:1 ≤ d ∧ d ≤ 999999999):GivesV Tryz.prog 184 [.int .i64 n,.int .i64 d] w (.int .i64 (gcdF (max n (-n)) d)):=by
  refine givesV_of_tr Tryz.func184 rfl rfl ?_
  (refine s_r ?_;refine a_s rfl rfl ?_;refine n_r ?_;refine m_v rfl rfl ?_;refine m_v rfl rfl ?_;refine tr_val (rk_neg (.of rfl) (ini (by omega))) rfl ?_;refine tr_val (rk_max2 (.of rfl) (.of rfl)) rfl ?_;refine m_v rfl rfl ?_;refine a_s rfl rfl ?_;refine a_s rfl rfl ?_;refine n_t ?_;refine tr_seq ?_;refine tr_block ?_)
  refine tr_for (ι:=Int × Int) (fun x=>0 ≤ x.1 ∧ 0 ≤ x.2 ∧ gcdF x.1 x.2 = gcdF (max n (-n)) d) (fun x=>[(5,.int .i64 x.1),(6,.int .i64 x.2)])
    (fun _=>[]) (fun x=>x.2.toNat) ?_ ?_
  · apply tr_start (max n (-n),d) ⟨by show 0 ≤ max n (-n);omega,by show 0 ≤ d;omega,rfl⟩
    case hs1=>exact .cons rfl (.cons rfl .nil)
    case ht=>(try simp only [List.take_zero,List.map_nil,List.nil_append]);exact .nil
  rintro ⟨x,y⟩ ⟨hx,hy,hg⟩
  dsimp only at hx hy hg ⊢
  by_cases h0:y = 0
  · subst h0
    rw [gcdF_zero hx] at hg
    (refine tr_seq ?_;refine s_r ?_;refine m_v rfl rfl ?_;refine tr_val (rk_neq (.of rfl) (.of rfl)) rfl ?_;refine n_t ?_;refine c_d rfl (fun _=>by omega) (fun hcd=>?_);refine x_t ?_;refine tr_then_exit ?_;refine tr_blk_exit ?_;refine tr_then ?_;refine s_r ?_;refine m_v rfl rfl ?_;refine a_s rfl rfl ?_;refine n_t ?_;refine tr_ret ?_;refine tr_retE rfl (ends1 rfl rfl) ?_)
    rw [← hg]
  · have hm1:=Int.emod_nonneg x h0
    have hm2:=Int.emod_lt_of_pos x (show 0 < y by omega)
    (refine tr_seq ?_;refine s_r ?_;refine m_v rfl rfl ?_;refine tr_val (rk_neq (.of rfl) (.of rfl)) rfl ?_;refine n_t ?_;refine c_d rfl (fun hcd=>?_) (fun _=>by omega);refine s_t ?_;refine tr_block ?_)
    with_reducible refine tr_draw 6 (by kernel_rfl) ?_
    (refine a_m rfl rfl ?_;refine a_m rfl rfl ?_;refine a_m rfl rfl ?_;refine any_val (rk_rem (.of rfl) (.of rfl) hx hcd) rfl ?_;refine any_val (rk_assign (.of rfl)) rfl ?_;refine any_val (rk_assign (.of rfl)) rfl ?_)
    with_reducible refine any_end ?_
    (refine tr_nil ?_;refine tr_blk_normal ?_;refine tr_then ?_)
    apply tr_next (y,x % y) ⟨hy,hm1,by show gcdF y (x % y) = _;rw [gcdF_step hx (by omega),hg]⟩ (by show (x % y).toNat < y.toNat;omega)
    case hs1=>exact .cons rfl (.cons rfl .nil)
    case ht=>(try simp only [List.take_zero,List.map_nil,List.nil_append]);exact .nil
def rat0 (p:Int × Int):Int:=firstF [withinF p.1 (-999999999) 999999999,withinF p.2 1 999999999]
def ratE (p:Int × Int):Int:=if rat0 p ≠ 0 then rat0 p else whenF (decide (gcdF (max p.1 (-p.1)) p.2 ≠ 1)) 1
theorem rat0_zero {p:Int × Int} (h:rat0 p = 0):(-999999999 ≤ p.1 ∧ p.1 ≤ 999999999) ∧ (1 ≤ p.2 ∧ p.2 ≤ 999999999):=by
  unfold rat0 at h
  rw [firstF_zero] at h
  simp only [List.mem_cons,List.not_mem_nil,or_false,forall_eq_or_imp,forall_eq,withinF_zero] at h
  exact h
theorem ratio_c (p:Int × Int) (w:World):GivesV Tryz.prog 128 [.agg (duoV p).toArray] w (.int .i64 (ratE p)):=by
  unfold duoV
  refine givesV_of_tr Tryz.func128 rfl rfl ?_
  (refine s_r ?_;refine tr_new (rk_box (.of rfl) rfl) rfl (fun _ _=>?_);refine a_s rfl rfl ?_;refine n_t ?_;refine tr_seq ?_;refine tr_seq ?_)
  with_reducible refine tr_draw 6 (by kernel_rfl) ?_
  (refine a_f rfl rfl norm0_ ?_;refine any_val (rk_load1 (.of rfl) (At.lit .here rfl)) rfl ?_;refine any_call (rk_call (.of rfl) (.cons (.of rfl) (.cons (.of rfl) (.cons (.of rfl) .nil))) inferInstance normc_) rfl (fun w' hm'=>(withinP_c _ _ 999999999 w')) ?_;refine a_f rfl rfl norm0_ ?_;refine any_val (rk_load1 (.of rfl) (At.lit .here rfl)) rfl ?_;refine any_call (rk_call (.of rfl) (.cons (.of rfl) (.cons (.of rfl) (.cons (.of rfl) .nil))) inferInstance normc_) rfl (fun w' hm'=>(withinP_c _ 1 999999999 w')) ?_)
  with_reducible refine any_end ?_
  (refine tr_new (rk_sliceLit (.cons (.of rfl) (.cons (.of rfl) .nil)) rfl rfl rfl rfl) rfl (fun _ _=>?_);refine tr_callV (rk_call (.of rfl) (.cons (.of rfl) .nil) inferInstance normc_) rfl (fun w' hm'=>(firstP_cB (Mem.rdBlk hm' .here rfl rfl) (IntL.cons (IntL.cons IntL.nil)))) ?_;refine a_s rfl rfl ?_;refine n_r ?_;refine m_v rfl rfl ?_;refine tr_val (rk_neq (.of rfl) (.of rfl)) rfl ?_;refine n_t ?_;refine c_d rfl (fun hcd=>?_) (fun hcd=>?_);refine s_r ?_;refine m_v rfl rfl ?_;refine a_s rfl rfl ?_;refine n_t ?_;refine r_t ?_;refine tr_retE rfl (ends1 rfl rfl) ?_;rotate_left;refine s_t ?_;refine s_r ?_;refine f_a rfl rfl norm0_ ?_;refine tr_val (rk_load1 (.of rfl) (At.lit (.there .here) rfl)) rfl ?_;refine f_a rfl rfl norm0_ ?_;refine tr_val (rk_load1 (.of rfl) (At.lit (.there .here) rfl)) rfl ?_;rotate_right)
  · have hne:rat0 p ≠ 0:=hcd
    rw [ratE,if_pos hne];rfl
  · have hz:rat0 p = 0:=Decidable.not_not.1 hcd
    obtain ⟨hn,hd⟩:=rat0_zero hz
    rw [ratE,if_neg (by rw [hz];decide)]
    (refine tr_callV (rk_call (.of rfl) (.cons (.of rfl) (.cons (.of rfl) .nil)) inferInstance normc_) rfl (fun w' hm'=>(divP_c _ _ w' hn hd)) ?_;refine tr_val (rk_neq (.of rfl) (.of rfl)) rfl ?_;refine tr_callV (rk_call (.of rfl) (.cons (.of rfl) (.cons (.of rfl) .nil)) inferInstance normc_) rfl (fun w' hm'=>(whenP_c _ 1 w')) ?_;refine a_s rfl rfl ?_;refine n_t ?_;refine tr_ret ?_;refine tr_retE rfl (ends1 rfl rfl) ?_)
    rfl
def bdE (b:Br) (p:Int × Int):Int:=firstF [brE b,ratE p,whenF (decide (p.1 < 0)) 3]
theorem PrOk.of {p:Int × Int} (h1:ratE p = 0) (h2:¬ p.1 < 0):PrOk p:=by
  unfold ratE at h1
  by_cases h:rat0 p = 0
  · obtain ⟨h3,h4⟩:=rat0_zero h
    exact ⟨by omega,h4⟩
  · rw [if_pos h] at h1
    exact absurd h1 h
theorem boundX_c {b:Br} {sv cv xv:Value} {p:Int × Int} {w:World} (h1:Rd w sv 4 (spsL b.sp)) (h2:Rd w cv 1 (ints b.cm)) (h3:Rd w xv 2 (prsL b.ex)) :
    GivesV Tryz.prog 46 [.agg #[.int .i64 b.n,sv,cv,xv],.agg (duoV p).toArray] w (.tuple #[.int .i64 (if bdE b p = 0 then bndF b p else 0),.int .i64 (bdE b p)]):=by
  have hone1:=Rd.one h1
  have hone2:=Rd.one h2
  have hone3:=Rd.one h3
  unfold duoV
  refine givesV_of_tr Tryz.func46 rfl rfl ?_
  (refine s_r ?_;refine tr_new (rk_box (.of rfl) rfl) rfl (fun _ _=>?_);refine tr_new (rk_box (.of rfl) rfl) rfl (fun _ _=>?_);refine a_s rfl rfl ?_;refine a_s rfl rfl ?_;refine n_t ?_;refine tr_seq ?_;refine tr_seq ?_)
  with_reducible refine tr_draw 8 (by kernel_rfl) ?_
  (refine any_val (rk_loadB (.of rfl) (.there .here) norm_ (by rfl)) rfl ?_;refine any_call (rk_call (.of rfl) (.cons (.of rfl) .nil) inferInstance normc_) rfl (fun w' hm'=>(brk_c (Rd.keeps h1 (Mem.keeps hm')) (Rd.keeps h2 (Mem.keeps hm')) (Rd.keeps h3 (Mem.keeps hm')))) ?_;refine any_val (rk_loadB (.of rfl) .here norm_ (by rfl)) rfl ?_;refine any_call (rk_call (.of rfl) (.cons (.of rfl) .nil) inferInstance normc_) rfl (fun w' hm'=>(ratio_c p w')) ?_;refine a_f rfl rfl norm0_ ?_;refine any_val (rk_load1 (.of rfl) (At.lit .here rfl)) rfl ?_;refine any_val (rk_lss (.of rfl) (.of rfl)) rfl ?_;refine any_call (rk_call (.of rfl) (.cons (.of rfl) (.cons (.of rfl) .nil)) inferInstance normc_) rfl (fun w' hm'=>(when_c _ 3 w')) ?_)
  with_reducible refine any_end ?_
  (refine tr_new (rk_sliceLit (.cons (.of rfl) (.cons (.of rfl) (.cons (.of rfl) .nil))) rfl rfl rfl rfl) rfl (fun _ _=>?_);refine tr_callV (rk_call (.of rfl) (.cons (.of rfl) .nil) inferInstance normc_) rfl (fun w' hm'=>(first_pB (Mem.rdBlk hm' .here rfl rfl) (IntL.cons (IntL.cons (IntL.cons IntL.nil))))) ?_;refine a_s rfl rfl ?_;refine n_r ?_;refine m_v rfl rfl ?_;refine tr_val (rk_neq (.of rfl) (.of rfl)) rfl ?_;refine n_t ?_;refine c_d rfl (fun hcd=>?_) (fun hcd=>?_);refine s_r ?_;refine m_v rfl rfl ?_;refine a_s rfl rfl ?_;refine a_s rfl rfl ?_;refine n_t ?_;refine r_t ?_;refine tr_retE rfl (ends2 rfl rfl rfl) ?_;rotate_left;refine s_t ?_;refine s_r ?_;refine tr_val (rk_loadB (.of rfl) (.there (.there .here)) norm_ (by rfl)) rfl ?_;refine tr_val (rk_loadB (.of rfl) (.there .here) norm_ (by rfl)) rfl ?_;rotate_right)
  · have hne:bdE b p ≠ 0:=hcd
    rw [if_neg hne];rfl
  · have hz:bdE b p = 0:=Decidable.not_not.1 hcd
    have hz':=hz
    unfold bdE at hz'
    rw [firstF_zero] at hz'
    simp only [List.mem_cons,List.not_mem_nil,or_false,forall_eq_or_imp,forall_eq] at hz'
    rw [whenF_zero (by decide)] at hz'
    have hok:=BrOk.of hz'.1
    have hp:=PrOk.of hz'.2.1 (by simpa using hz'.2.2)
    rw [if_pos hz,hz]
    (refine tr_callV (rk_call (.of rfl) (.cons (.of rfl) (.cons (.of rfl) .nil)) inferInstance normc_) rfl (fun w' hm'=>(bound_c (Rd.keeps h1 (Mem.keeps hm')) hone2 hone3 hok hp)) ?_;refine a_s rfl rfl ?_;refine a_s rfl rfl ?_;refine n_t ?_;refine tr_ret ?_;refine tr_retE rfl (ends2 rfl rfl rfl) ?_)
    rfl
end Go.Proofs.A1
namespace Go.Proofs.A1
open Go Go.SL
def duosL (l:List (Int × Int)):List (List Value):=l.map duoV
theorem duosL_length (l:List (Int × Int)):(duosL l).length = l.length:=by simp [duosL]
theorem duosL_get {l:List (Int × Int)} {k:Nat} (h:k < l.length):(duosL l)[k]? = some (duoV l[k]):=by simp [duosL,h]
theorem duosL_ne {l:List (Int × Int)} {k:Nat} (h:k < l.length):duosL l ≠ []:=by intro e;have:=duosL_length l;rw [e] at this;simp at this;omega
theorem duosL_sz (l:List (Int × Int)):∀ r ∈ duosL l,r.length = 2:=by
  intro r hr
  obtain ⟨x,_,rfl⟩:=List.mem_map.1 hr
  rfl
theorem duosL_one (l:List (Int × Int)):∀ r ∈ duosL l,∀ u ∈ r,u.oneCell' = true:=by
  intro r hr
  obtain ⟨x,_,rfl⟩:=List.mem_map.1 hr
  unfold duoV
  exact okc_cons rfl (okc_cons rfl okc_nil)
theorem duosL_flat (l:List (Int × Int)):l.flatMap duoV = (duosL l).flatten:=by rw [duosL,List.flatMap_def]
theorem rdDuoR {c:Cx} {hs hs':List Asn} {w:World} {E:TypeId} {l:List (Int × Int)} {n:Nat} {v:Value} (hm:Mem c hs w) (ht:Take hs (row E 2 v n (l.flatMap duoV)) hs') (hn:l.length = n):Rd w v 2 (duosL l):=
  hm.rdRow ht (duosL_flat l) (duosL_sz l) (by rw [duosL_length,hn])
def nthD (l:List (Int × Int)) (k:Nat):Int × Int:=l.getD k (0,1)
theorem nthD_eq {l:List (Int × Int)} {k:Nat} (h:k < l.length):nthD l k = l[k]:=by simp [nthD,h]
def minK (cf:Int × Int → Int × Int → Int) (l:List (Int × Int)):Nat → Int × Int
  | 0=>nthD l 0
  | k + 1=>if cf (nthD l (k + 1)) (minK cf l k) < 0 then nthD l (k + 1) else minK cf l k
theorem minK_mem {cf:Int × Int → Int × Int → Int} {l:List (Int × Int)}:∀ k,k < l.length → minK cf l k ∈ l
  | 0,h=>by rw [minK,nthD_eq h];exact List.getElem_mem h
  | k + 1, h => by
    rw [minK]
    split
    · rw [nthD_eq h];exact List.getElem_mem h
    · exact minK_mem k (by omega)
theorem minFunc_c {lv:Value} {l:List (Int × Int)} {cf:Int × Int → Int × Int → Int} {f:FuncId} {first cap:List Value} [Bod Tryz.prog f] {w:World} (h:Rd w lv 2 (duosL l)) (h0:0 < l.length)
    (hcall:∀ x ∈ l,∀ y ∈ l,∀ w',Keeps [] w w' → GivesV Tryz.prog f (first++[.agg (duoV x).toArray,.agg (duoV y).toArray]++cap) w' (.int .i64 (cf x y))) :
    GivesV Tryz.prog 123 [lv,.func (.func f) first.toArray cap.toArray] w (.agg (duoV (minK cf l (l.length - 1))).toArray):=by
  obtain ⟨a,cp,b,o,rfl,hcap,hmax,ha,hc⟩:=h
  rw [duosL_length] at *
  unfold maxLen at hmax
  have ha':=ha (duosL_ne h0)
  have hcell0:=(hc 0 _ (duosL_get h0)).2
  rw [← nthD_eq h0] at hcell0
  unfold duoV at hcell0
  refine givesV_of_tr Tryz.func123 rfl rfl ?_
  (refine s_r ?_;refine tr_new (rk_alloc rfl) rfl (fun _ _=>?_);refine n_t ?_;refine tr_seq ?_;refine s_r ?_;refine m_v rfl rfl ?_;refine tr_val (rk_len_slice (.of rfl)) rfl ?_;refine tr_val (rk_lss (.of rfl) (.of rfl)) rfl ?_;refine n_t ?_;refine c_d rfl (fun _=>by omega) (fun hcd=>?_);refine s_t ?_;refine s_r ?_;refine m_v rfl rfl ?_;refine tr_val (rk_indexAddr (.of rfl) (.of rfl) ha' (by omega) (by omega) norm1_) rfl ?_;refine tr_val (rk_loadN (.of rfl) (Ats.base hcell0 rfl) rfl) rfl ?_;refine tr_new (rk_alloc rfl) rfl (fun _ _=>?_);refine tr_store (.of rfl) (.of rfl) .here rfl rfl (okc_cons rfl (okc_cons rfl okc_nil)) (lenb rfl) norm_ ?_;refine n_t ?_;refine tr_seq ?_;refine s_r ?_;refine a_s rfl rfl ?_;refine n_t ?_;refine tr_block ?_)
  rename_i b4 hb4 b5 hb5
  refine tr_for (ι:=Nat) (fun k=>k < l.length) (fun k=>[(6,.int .i64 ((k:Int) + 1)),(0,.slice a l.length cp),(1,.func (.func f) first.toArray cap.toArray),(5,.pointer (some ⟨b5,0,none⟩)),(4,.pointer (some ⟨b4,0,none⟩))])
    (fun k=>[blk b5 (.cells (duoV (minK cf l k)).toArray 85 (0,0)),blk b4 (.cells #[.int .i64 0,.int .i64 0] 85 (0,0))]) (fun k=>l.length - k) ?_ ?_
  · apply tr_start (0:Nat) h0
    case hs1=>exact .cons rfl (.cons rfl (.cons rfl (.cons rfl (.cons rfl .nil))))
    case ht=>
      show Takes _ [blk b5 (.cells [Value.int .i64 (nthD l 0).1,.int .i64 (nthD l 0).2].toArray 85 (0,0)),_] _
      exact .cons .here (.cons .here .nil)
  intro k hk
  by_cases hlt:k + 1 < l.length
  · have hcell:=(hc (k + 1) _ (duosL_get hlt)).2
    have hcl:=hcall _ (List.getElem_mem hlt) _ (minK_mem (cf:=cf) k hk)
    rw [← nthD_eq hlt] at hcell hcl
    have ht1:((k:Int) + 1).toNat = k + 1:=by omega
    have hs:minK cf l (k + 1) = if cf (nthD l (k + 1)) (minK cf l k) < 0 then nthD l (k + 1) else minK cf l k:=rfl
    unfold duoV at hcell hcl ⊢
    generalize hx:nthD l (k + 1) = x at hcell hcl hs
    obtain ⟨xn,xd⟩:=x
    rw [← ht1] at hcell
    generalize hy:minK cf l k = y at hcl hs
    obtain ⟨yn,yd⟩:=y
    dsimp only at hcell hcl hs ⊢
    (refine tr_seq ?_;refine s_r ?_;refine m_v rfl rfl ?_;refine m_v rfl rfl ?_;refine tr_val (rk_len_slice (.of rfl)) rfl ?_;refine tr_val (rk_lss (.of rfl) (.of rfl)) rfl ?_;refine n_t ?_;refine c_d rfl (fun hcd=>?_) (fun _=>by omega);refine s_t ?_;refine tr_seq ?_;refine tr_block ?_;refine tr_seq ?_)
    with_reducible refine tr_draw 8 (by kernel_rfl) ?_
    (refine a_m rfl rfl ?_;refine a_m rfl rfl ?_;refine a_m rfl rfl ?_;refine any_val (rk_indexAddr (.of rfl) (.of rfl) ha' (by omega) hcd norm1_) rfl ?_;refine any_val (rk_loadN (.of rfl) (Ats.base hcell rfl) rfl) rfl ?_;refine any_val (rk_loadB (.of rfl) .here norm_ (by rfl)) rfl ?_;refine any_call (rk_call (.of rfl) (.cons (.of rfl) (.cons (.of rfl) .nil)) inferInstance normc_) rfl (fun w' hm'=>(hcl w' (Mem.keeps hm'))) ?_;refine any_val (rk_lss (.of rfl) (.of rfl)) rfl ?_)
    with_reducible refine any_end ?_
    (refine n_t ?_;refine c_d rfl (fun hcd=>?_) (fun hcd=>?_);refine tr_region ?_;refine m_v rfl rfl ?_;refine m_v rfl rfl ?_;refine tr_val (rk_indexAddr (.of rfl) (.of rfl) ha' (by omega) (by assumption) norm1_) rfl ?_;refine tr_val (rk_loadN (.of rfl) (Ats.base hcell rfl) rfl) rfl ?_;refine tr_store (.of rfl) (.of rfl) .here rfl rfl (okc_cons rfl (okc_cons rfl okc_nil)) (lenb rfl) norm_ ?_;refine tr_nil ?_;refine tr_blk_normal ?_;refine tr_then ?_;refine tr_region ?_;refine m_v rfl rfl ?_;refine tr_val (rk_add (.of rfl) (.of rfl) (ini (by omega))) rfl ?_;refine a_s rfl rfl ?_;refine n_t ?_;rotate_left;refine tr_skip ?_;refine tr_blk_normal ?_;refine tr_then ?_;refine tr_region ?_;refine m_v rfl rfl ?_;refine tr_val (rk_add (.of rfl) (.of rfl) (ini (by omega))) rfl ?_;refine a_s rfl rfl ?_;refine n_t ?_;rotate_right)
    · rw [if_pos hcd] at hs
      apply tr_next (k + 1) hlt (show l.length - (k + 1) < l.length - k by omega)
      case hs1=>exact .cons rfl (.cons rfl (.cons rfl (.cons rfl (.cons rfl .nil))))
      case ht=>
        show Takes _ [blk b5 (.cells (duoV (minK cf l (k + 1))).toArray 85 (0,0)),_] _
        rw [hs]
        show Takes _ [blk b5 (.cells #[.int .i64 xn,.int .i64 xd] 85 (0,0)),_] _
        exact .cons .here (.cons .here .nil)
    · rw [if_neg hcd] at hs
      apply tr_next (k + 1) hlt (show l.length - (k + 1) < l.length - k by omega)
      case hs1=>exact .cons rfl (.cons rfl (.cons rfl (.cons rfl (.cons rfl .nil))))
      case ht=>
        show Takes _ [blk b5 (.cells (duoV (minK cf l (k + 1))).toArray 85 (0,0)),_] _
        rw [hs]
        show Takes _ [blk b5 (.cells #[.int .i64 yn,.int .i64 yd] 85 (0,0)),_] _
        exact .cons .here (.cons .here .nil)
  · have hk1:l.length - 1 = k:=by omega
    rw [hk1]
    unfold duoV
    (refine tr_seq ?_;refine s_r ?_;refine m_v rfl rfl ?_;refine m_v rfl rfl ?_;refine tr_val (rk_len_slice (.of rfl)) rfl ?_;refine tr_val (rk_lss (.of rfl) (.of rfl)) rfl ?_;refine n_t ?_;refine c_d rfl (fun _=>by omega) (fun hcd=>?_);refine x_t ?_;refine tr_then_exit ?_;refine tr_blk_exit ?_;refine tr_then ?_;refine s_r ?_;refine tr_val (rk_loadB (.of rfl) .here norm_ (by rfl)) rfl ?_;refine tr_store (.of rfl) (.of rfl) (.there .here) rfl rfl (okc_cons rfl (okc_cons rfl okc_nil)) (lenb rfl) norm_ ?_;refine n_t ?_;refine tr_ret ?_;refine tr_retE rfl (ends1cB rfl inferInstance rfl .here norm_ (by rfl)) ?_)
    rfl
theorem price_c (x:Sp) (w:World) (hv:0 ≤ x.vl ∧ x.vl ≤ 1000000) (hl:1 ≤ x.ln ∧ x.ln ≤ 100000):GivesV Tryz.prog 122 [.agg x.cells.toArray] w (.agg (duoV (lowF x.vl x.ln)).toArray):=by
  have hv0:0 ≤ x.vl:=hv.1
  have hl0:0 < x.ln:=by omega
  have hv1:x.vl ≤ 9223372036854775807:=by omega
  have hl1:x.ln ≤ 9223372036854775807:=by omega
  unfold Sp.cells duoV
  refine givesV_of_tr Tryz.func122 rfl rfl ?_
  (refine s_r ?_;refine tr_new (rk_box (.of rfl) rfl) rfl (fun _ _=>?_);refine tr_new (rk_alloc rfl) rfl (fun _ _=>?_);refine n_r ?_;refine f_a rfl rfl norm0_ ?_;refine tr_val (rk_load1 (.of rfl) (At.lit (.there .here) rfl)) rfl ?_;refine f_a rfl rfl norm0_ ?_;refine tr_val (rk_load1 (.of rfl) (At.lit (.there .here) rfl)) rfl ?_;refine tr_callV (rk_call (.of rfl) (.cons (.of rfl) (.cons (.of rfl) .nil)) inferInstance normc_) rfl (fun w' hm'=>(lowest_c _ _ w' hv0 hl0 hv1 hl1)) ?_;refine tr_store (.of rfl) (.of rfl) .here rfl rfl (okc_cons rfl (okc_cons rfl okc_nil)) (lenb rfl) norm_ ?_;refine n_t ?_;refine tr_ret ?_;refine tr_retE rfl (ends1cB rfl inferInstance rfl .here norm_ (by rfl)) ?_)
  rfl
def priK (l:List Sp) (k:Nat):List (Int × Int):=(l.take k).map fun x=>lowF x.vl x.ln
theorem priK_succ {l:List Sp} {k:Nat} (h:k < l.length):priK l (k + 1) = priK l k++[lowF (nthS l k).vl (nthS l k).ln]:=by
  unfold priK
  rw [List.take_add_one,List.getElem?_eq_getElem h,List.map_append,nthS_eq h];rfl
theorem mapRa_c {lv:Value} {l:List Sp} {w:World} (h:Rd w lv 4 (spsL l)) (hv:∀ x ∈ l,0 ≤ x.vl ∧ x.vl ≤ 1000000) (hl:∀ x ∈ l,1 ≤ x.ln ∧ x.ln ≤ 100000) (hn:l.length ≤ 1000) :
    Gives Tryz.prog 121 [lv,.func (.func 122) #[] #[]] w [] (fun _:Value=>True) id (fun v=>[row 85 2 v l.length ((priK l l.length).flatMap duoV)]):=by
  obtain ⟨a,cp,b,o,rfl,hcap,hmax,ha,hc⟩:=h
  rw [spsL_length] at *
  unfold maxLen at hmax
  refine gives_of_tr Tryz.func121 rfl rfl ?_
  (refine s_r ?_;refine a_s rfl rfl ?_;refine n_r ?_;refine a_s rfl rfl ?_;refine n_t ?_;refine tr_seq ?_;refine s_r ?_;refine m_v rfl rfl ?_;refine tr_val (rk_len_slice (.of rfl)) rfl ?_;refine m_v rfl rfl ?_;refine n_t ?_;refine tr_block ?_)
  refine tr_rowNil 85 2 ?_
  refine tr_for (ι:=Nat × Value) (fun x=>x.1 ≤ l.length) (fun x=>[(10,.int .i64 x.1),(9,.int .i64 l.length),(8,.slice a l.length cp),(5,x.2),(1,.func (.func 122) #[] #[])]) (fun x=>[row 85 2 x.2 x.1 ((priK l x.1).flatMap duoV)]) (fun x=>l.length - x.1) ?_ ?_
  · apply tr_start (0,.slice none 0 0) (Nat.zero_le _)
    case hs1=>exact .cons rfl (.cons rfl (.cons rfl (.cons rfl (.cons rfl .nil))))
    case ht=>
      show Takes _ [row 85 2 (.slice none 0 0) 0 []] _
      exact .cons .here .nil
  rintro ⟨k,v⟩ hk
  dsimp only at hk ⊢
  by_cases hlt:k < l.length
  · have ha':=ha (spsL_ne hlt)
    have hcell:=(hc k _ (spsL_get hlt)).2
    have hm:=nthS_mem hlt
    have hcl:=fun w=>price_c (nthS l k) w (hv _ hm) (hl _ hm)
    unfold Sp.cells at hcell
    unfold Sp.cells duoV at hcl
    (refine s_r ?_;refine tr_val (rk_lss (.of rfl) (.of rfl)) rfl ?_;refine n_t ?_;refine tr_seq ?_;refine c_d rfl (fun hcd=>?_) (fun _=>by omega);refine s_t ?_;refine tr_seq ?_;refine tr_block ?_;refine s_r ?_;refine tr_val (rk_indexAddr (.of rfl) (.of rfl) ha' (by omega) hcd norm1_) rfl ?_;refine tr_val (rk_loadN (.of rfl) (Ats.base hcell rfl) rfl) rfl ?_;refine tr_new (rk_alloc rfl) rfl (fun _ _=>?_);refine tr_store (.of rfl) (.of rfl) .here rfl rfl (okc_cons rfl (okc_cons rfl (okc_cons rfl (okc_cons rfl okc_nil)))) (lenb rfl) norm_ ?_;refine n_t ?_;refine tr_region ?_;refine m_v rfl rfl ?_;refine m_v rfl rfl ?_;refine tr_val (rk_loadB (.of rfl) .here norm_ (by rfl)) rfl ?_;refine tr_callV (rk_call (.of rfl) (.cons (.of rfl) .nil) inferInstance normc_) rfl (fun w' hm'=>(hcl w')) ?_;refine tr_new (rk_sliceLitN (.cons (.of rfl) .nil) rfl rfl normp_ normp_ norm_) rfl (fun _ _=>?_))
    refine tr_appendB (.of rfl) (.of rfl) (.there (.there .here)) .here norm_ (by rfl) (okc_cons rfl (okc_cons rfl okc_nil)) (by rfl) (by rfl) (by rfl) lenx_ (by rfl) ?_
    intro v'
    (refine a_s rfl rfl ?_;refine tr_nil ?_;refine tr_blk_normal ?_;refine tr_then ?_;refine tr_region ?_;refine tr_val (rk_add (.of rfl) (.of rfl) (ini (by omega))) rfl ?_;refine m_v rfl rfl ?_;refine n_t ?_)
    apply tr_next (k + 1,v') (by show k + 1 ≤ l.length;omega) (by show l.length - (k + 1) < l.length - k;omega)
    case hs1=>exact .cons rfl (.cons rfl (.cons rfl (.cons rfl (.cons rfl .nil))))
    case ht=>
      show Takes _ [row 85 2 v' (k + 1) ((priK l (k + 1)).flatMap duoV)] _
      rw [priK_succ hlt,List.flatMap_append]
      show Takes _ [row 85 2 v' (k + 1) ((priK l k).flatMap duoV++[.int .i64 _,.int .i64 _])] _
      exact .cons .here .nil
  · obtain rfl:k = l.length:=by omega
    (refine s_r ?_;refine tr_val (rk_lss (.of rfl) (.of rfl)) rfl ?_;refine n_t ?_;refine tr_seq ?_;refine c_d rfl (fun _=>by omega) (fun hcd=>?_);refine x_t ?_;refine tr_then_exit ?_;refine tr_blk_exit ?_;refine tr_then ?_;refine s_r ?_;refine m_v rfl rfl ?_;refine a_s rfl rfl ?_;refine n_t ?_;refine tr_ret ?_)
    first | with_reducible apply tr_retM | with_reducible apply tr_endM
    case he=>exact ends1 rfl rfl
    case hR=>
      intro w' hm'
      exact gives_end v trivial (by exact .cons .here .nil) hm' rfl
end Go.Proofs.A1
namespace Go.Proofs.A1
open Go Go.SL
theorem lowF_ok {a b:Int} (ha:0 ≤ a ∧ a ≤ 1000000) (hb:1 ≤ b ∧ b ≤ 100000):PrOk (lowF a b):=by
  obtain ⟨m,rfl⟩:=Int.eq_ofNat_of_zero_le ha.1
  obtain ⟨n,rfl⟩:=Int.eq_ofNat_of_zero_le (show 0 ≤ b by omega)
  have hg0:0 < Nat.gcd m n:=Nat.gcd_pos_of_pos_right m (by omega)
  have hg1:Nat.gcd m n ≤ n:=Nat.gcd_le_right m (by omega)
  have h1:m / Nat.gcd m n ≤ m:=Nat.div_le_self _ _
  have h2:n / Nat.gcd m n ≤ n:=Nat.div_le_self _ _
  have h3:0 < n / Nat.gcd m n:=Nat.div_pos hg1 hg0
  unfold lowF gcdF
  simp only [Int.toNat_natCast]
  refine ⟨?_,?_⟩
  · show 0 ≤ (m:Int) / (Nat.gcd m n:Nat) ∧ (m:Int) / (Nat.gcd m n:Nat) ≤ 999999999
    rw [← Int.natCast_ediv]
    generalize m / Nat.gcd m n = q at h1 ⊢
    omega
  · show 1 ≤ (n:Int) / (Nat.gcd m n:Nat) ∧ (n:Int) / (Nat.gcd m n:Nat) ≤ 999999999
    rw [← Int.natCast_ediv]
    generalize n / Nat.gcd m n = q at h2 h3 ⊢
    omega
def prA (b:Br):List (Int × Int):=(0,1) :: priK b.sp b.sp.length
theorem prA_length (b:Br):(prA b).length = b.sp.length + 1:=by simp [prA,priK]
theorem prA_ok {b:Br} (hb:BrOk b):∀ p ∈ prA b,PrOk p:=by
  intro p hp
  rcases List.mem_cons.1 hp with h | h
  · subst h;exact ⟨by decide,by decide⟩
  · unfold priK at h
    obtain ⟨x,hx,rfl⟩:=List.mem_map.1 h
    have hm:=List.mem_of_mem_take hx
    exact lowF_ok (hb.vl x hm) (hb.ln x hm)
def cfP (b:Br) (p q:Int × Int):Int:=firstF [cmpF (bndF b p) (bndF b q),cmpF (p.1 * q.2) (q.1 * p.2)]
def priceF (b:Br):Int × Int:=minK (cfP b) (prA b) ((prA b).length - 1)
theorem pcmp_c {b:Br} {sv cv xv:Value} {p q:Int × Int} {bb:Nat} {w:World} (h1:Rd w sv 4 (spsL b.sp)) (hone2:cv.oneCell' = true) (hone3:xv.oneCell' = true) (hok:BrOk b) (hp:PrOk p) (hq:PrOk q)
    (hAgg:∀ (j:Nat) (u:Value),[Value.int .i64 b.n,sv,cv,xv][j]? = some u → w.cell? ⟨bb,0 + j,none⟩ = some u) :
    GivesV Tryz.prog 124 [.agg (duoV p).toArray,.agg (duoV q).toArray,.pointer (some ⟨bb,0,none⟩)] w (.int .i64 (cfP b p q)):=by
  obtain ⟨pn,pd⟩:=p
  obtain ⟨qn,qd⟩:=q
  have hpn:=hp.n
  have hpd:=hp.d
  have hqn:=hq.n
  have hqd:=hq.d
  dsimp only at hpn hpd hqn hqd
  have e1:=mul_bd hpn.1 hpn.2 (show 0 ≤ qd by omega) hqd.2
  have e2:=mul_bd hqn.1 hqn.2 (show 0 ≤ pd by omega) hpd.2
  have hcp:=fun w' (hk:Keeps [] w w')=>bound_c (p:=(pn,pd)) (h1.keeps hk) hone2 hone3 hok hp
  have hcq:=fun w' (hk:Keeps [] w w')=>bound_c (p:=(qn,qd)) (h1.keeps hk) hone2 hone3 hok hq
  unfold duoV at hcp hcq ⊢
  dsimp only at hcp hcq ⊢
  refine givesV_of_tr Tryz.func124 rfl rfl ?_
  (refine s_r ?_;refine tr_new (rk_box (.of rfl) rfl) rfl (fun _ _=>?_);refine tr_new (rk_box (.of rfl) rfl) rfl (fun _ _=>?_);refine a_s rfl rfl ?_;refine n_t ?_;refine tr_seq ?_)
  with_reducible refine tr_draw 18 (by kernel_rfl) ?_
  (refine any_val (rk_loadN (.of rfl) (Ats.base hAgg rfl) rfl) rfl ?_;refine any_val (rk_loadB (.of rfl) (.there .here) norm_ (by rfl)) rfl ?_;refine any_call (rk_call (.of rfl) (.cons (.of rfl) (.cons (.of rfl) .nil)) inferInstance normc_) rfl (fun w' hm'=>(hcp w' (Mem.keeps hm'))) ?_;refine any_val (rk_loadN (.of rfl) (Ats.base hAgg rfl) rfl) rfl ?_;refine any_val (rk_loadB (.of rfl) .here norm_ (by rfl)) rfl ?_;refine any_call (rk_call (.of rfl) (.cons (.of rfl) (.cons (.of rfl) .nil)) inferInstance normc_) rfl (fun w' hm'=>(hcq w' (Mem.keeps hm'))) ?_;refine any_call (rk_call (.of rfl) (.cons (.of rfl) (.cons (.of rfl) .nil)) inferInstance normc_) rfl (fun w' hm'=>(cmp_c _ _ w')) ?_;refine a_f rfl rfl norm0_ ?_;refine any_val (rk_load1 (.of rfl) (At.lit (.there .here) rfl)) rfl ?_;refine a_f rfl rfl norm0_ ?_;refine any_val (rk_load1 (.of rfl) (At.lit .here rfl)) rfl ?_;refine any_val (rk_mul (.of rfl) (.of rfl) (ini (by omega))) rfl ?_;refine a_f rfl rfl norm0_ ?_;refine any_val (rk_load1 (.of rfl) (At.lit .here rfl)) rfl ?_;refine a_f rfl rfl norm0_ ?_;refine any_val (rk_load1 (.of rfl) (At.lit (.there .here) rfl)) rfl ?_;refine any_val (rk_mul (.of rfl) (.of rfl) (ini (by omega))) rfl ?_;refine any_call (rk_call (.of rfl) (.cons (.of rfl) (.cons (.of rfl) .nil)) inferInstance normc_) rfl (fun w' hm'=>(cmp_c _ _ w')) ?_)
  with_reducible refine any_end ?_
  (refine tr_new (rk_sliceLit (.cons (.of rfl) (.cons (.of rfl) .nil)) rfl rfl rfl rfl) rfl (fun _ _=>?_);refine tr_callV (rk_call (.of rfl) (.cons (.of rfl) .nil) inferInstance normc_) rfl (fun w' hm'=>(or_c1 (Mem.rdBlk hm' .here rfl rfl) (IntL.cons (IntL.cons IntL.nil)))) ?_;refine a_s rfl rfl ?_;refine n_t ?_;refine tr_ret ?_;refine tr_retE rfl (ends1 rfl rfl) ?_)
  rfl
theorem priceX_c {b:Br} {sv cv xv:Value} {w:World} (h1:Rd w sv 4 (spsL b.sp)) (h2:Rd w cv 1 (ints b.cm)) (h3:Rd w xv 2 (prsL b.ex)) :
    GivesV Tryz.prog 44 [.agg #[.int .i64 b.n,sv,cv,xv]] w (.tuple #[.agg (duoV (if brE b = 0 then priceF b else (0,0))).toArray,.int .i64 (brE b)]):=by
  have hone1:=Rd.one h1
  have hone2:=Rd.one h2
  have hone3:=Rd.one h3
  refine givesV_of_tr Tryz.func44 rfl rfl ?_
  (refine s_r ?_;refine tr_new (rk_box (.of rfl) rfl) rfl (fun _ _=>?_);refine tr_new (rk_alloc rfl) rfl (fun _ _=>?_);refine a_s rfl rfl ?_;refine n_t ?_;refine tr_seq ?_;refine s_r ?_;refine tr_val (rk_loadB (.of rfl) (.there .here) norm_ (by rfl)) rfl ?_;refine tr_callV (rk_call (.of rfl) (.cons (.of rfl) .nil) inferInstance normc_) rfl (fun w' hm'=>(brk_c (Rd.keeps h1 (Mem.keeps hm')) (Rd.keeps h2 (Mem.keeps hm')) (Rd.keeps h3 (Mem.keeps hm')))) ?_;refine a_s rfl rfl ?_;refine n_r ?_;refine m_v rfl rfl ?_;refine tr_val (rk_neq (.of rfl) (.of rfl)) rfl ?_;refine n_t ?_;refine c_d rfl (fun hcd=>?_) (fun hcd=>?_);refine s_r ?_;refine tr_val (rk_buildL .nil norm_) rfl ?_;refine m_v rfl rfl ?_;refine tr_store (.of rfl) (.of rfl) .here rfl rfl (okc_cons rfl (okc_cons rfl okc_nil)) (lenb rfl) norm_ ?_;refine a_s rfl rfl ?_;refine n_t ?_;refine r_t ?_;refine tr_retE rfl (endsCT rfl inferInstance rfl .here norm_ (by rfl) (by rfl)) ?_;rotate_left;refine s_t ?_;refine s_r ?_;refine tr_val (rk_buildL (.cons (.of rfl) (.cons (.of rfl) .nil)) norm_) rfl ?_;refine tr_new (rk_sliceLitN (.cons (.of rfl) .nil) rfl rfl normp_ normp_ norm_) rfl (fun _ _=>?_);refine f_a rfl rfl norm0_ ?_;refine tr_val (rk_load1 (.of rfl) (At.lit (.there (.there .here)) rfl)) rfl ?_;rotate_right)
  · rw [if_neg hcd];rfl
  have hz:brE b = 0:=Decidable.not_not.1 hcd
  have hok:=BrOk.of hz
  have hfew:=hok.few
  rename_i b1 hb1 b2 hb2 bq hbq
  rw [if_pos hz,hz]
  with_reducible apply tr_call
  case hr=>exact rk_call (.of rfl) (.cons (.of rfl) (.cons (.of rfl) .nil)) inferInstance normc_
  case hd=>rfl
  case ht=>exact Takes.nil
  case hc=>
    intro w1 fp hm1 _ hs1
    obtain rfl:fp = []:=hs1
    exact mapRa_c (h1.keeps hm1.keeps) hok.vl hok.ln (by omega)
  intro v _
  dsimp only [id_eq,List.cons_append,List.nil_append]
  refine tr_rowLitE (g:=bq) (E:=85) (ys:=[.int .i64 0,.int .i64 1]) 1 2 (by exact Take.there .here) rfl rfl rfl ?_
  with_reducible apply tr_appendR
  case hx=>exact Is.of rfl
  case hy=>exact Is.of rfl
  case ht=>exact .here
  case hsrc=>exact fun w' hm'=>rdDuoR (l:=priK b.sp b.sp.length) hm' (by exact Take.there .here) (by simp [priK])
  case h1=>exact duosL_one _
  case hz=>exact rfl
  case hsz=>exact rfl
  case hb0=>exact rfl
  case hb=>rw [duosL_length,priK,List.length_map,List.take_length];omega
  case hd=>rfl
  intro v'
  have e1:1 + (duosL (priK b.sp b.sp.length)).length = b.sp.length + 1:=by rw [duosL_length,priK,List.length_map,List.take_length];omega
  have e2:[Value.int .i64 0,.int .i64 1]++(duosL (priK b.sp b.sp.length)).flatten = (prA b).flatMap duoV:=by rw [← duosL_flat,prA,List.flatMap_cons];rfl
  rw [e1,e2]
  (refine a_s rfl rfl ?_;refine n_r ?_;refine m_v rfl rfl ?_;refine tr_val (rk_makeFunc' .nil (.cons (.of rfl) .nil)) rfl ?_)
  with_reducible apply tr_callV
  case hr=>exact rk_call (.of rfl) (.cons (.of rfl) (.cons (.of rfl) .nil)) inferInstance normc_
  case hd=>rfl
  case hc=>
    intro w' hm'
    refine minFunc_c (f:=124) (cf:=cfP b) (first:=[]) (cap:=[.pointer (some ⟨b1,0,none⟩)]) (rdDuoR (l:=prA b) hm' (by exact .here) (prA_length b)) (by rw [prA_length];omega) ?_
    intro x hx y hy w2 hk2
    have hm2:=hm'.keepsOn hk2
    have hb:=hm2.blk (b:=b1) (by exact Take.there (.there (.there .here)))
    refine pcmp_c (h1.keeps hm2.keeps) hone2 hone3 hok (prA_ok hok x hx) (prA_ok hok y hy) ?_
    intro j u hu
    rw [cell_of_block hb,Nat.zero_add]
    simpa using hu
  generalize hP:minK (cfP b) (prA b) ((prA b).length - 1) = P
  have hP':priceF b = P:=hP
  rw [hP']
  obtain ⟨pn,pd⟩:=P
  unfold duoV
  dsimp only
  (refine tr_store (.of rfl) (.of rfl) (.there (.there .here)) rfl rfl (okc_cons rfl (okc_cons rfl okc_nil)) (lenb rfl) norm_ ?_;refine a_s rfl rfl ?_;refine n_t ?_;refine tr_ret ?_;refine tr_retE rfl (endsCT rfl inferInstance rfl .here norm_ (by rfl) (by rfl)) ?_)
  rfl
end Go.Proofs.A1
