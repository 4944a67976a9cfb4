/- Parts of the proof: U3P. -/
import Derived.Test.YthhidjfahmcekaaGreatDoorKM19
import Derived.Test.YthhidjfahmcekaaGreatDoorKM06
set_option linter.unusedSectionVars false
set_option linter.unusedVariables false
set_option linter.unusedSimpArgs false
namespace Go.Proofs.A1
open Go Go.SL
theorem rk_eqlAT {P:Program} {c:Cx} {sl:Slots} {hs:List Asn} {dst:Option Tmp} {ty:TypeId} {pos:String} {af:Array Edge} {g:Option (Nat × Bool)} {t u:TypeId} {ts:List TypeId} [h:Leaf P t ts] {x y:Operand} {x0 x1 x2 x3 x4 x5 x6 x7:ByteArray} (hx:Is sl x (.agg #[.string x0,.string x1,.string x2,.string x3,.string x4,.string x5,.string x6,.string x7])) (hy:Is sl y (.agg #[.string x0,.string x1,.string x2,.string x3,.string x4,.string x5,.string x6,.string x7])) (hok:okL P ts [.string x0,.string x1,.string x2,.string x3,.string x4,.string x5,.string x6,.string x7] = true) :
    RunV P c sl hs ⟨dst,.binOp .eql t x y u,ty,pos,af,g⟩ (.bool true):=by
  refine rk_eqlA (ts:=ts) (xs:=[.string x0,.string x1,.string x2,.string x3,.string x4,.string x5,.string x6,.string x7]) (ys:=[.string x0,.string x1,.string x2,.string x3,.string x4,.string x5,.string x6,.string x7]) hx hy hok ?_
  simp [eqL,leq]
set_option maxHeartbeats 4000000 in
theorem captions_law {lv:Value} {l:List Cp} {w:World} (h:Rd w lv 5 (cps l)) (n m0 m1:Int) (hG:GlobR w) (hT:Tab10 w):GivesV Tryz.prog 10 [lv,.int .i64 n,.agg #[.int .i64 m0,.int .i64 m1]] w (.bool true):=by
  have h':=h
  obtain ⟨a,cp,b,o,rfl,hcap,hmax,ha,hc⟩:=h'
  rw [cps_length] at *
  unfold maxLen at hmax
  clear hc ha
  have hshn:shnE l n = 0 → ∀ w',Keeps [] w w' → GivesV Tryz.prog 65 [.slice a l.length cp,.int .i64 n] w' (.agg ((shnX l n).map Value.string).toArray):=fun h0 w' hk=>by
    rw [shnX,if_pos h0]
    exact shownQ_c (h.keeps hk) (shnE_zero.1 h0).1
  obtain ⟨x0,x1,x2,x3,x4,x5,x6,x7,hx,hxn⟩:∃ x0 x1 x2 x3 x4 x5 x6 x7:ByteArray,shnX l n = [x0,x1,x2,x3,x4,x5,x6,x7] ∧ (¬ shnE l n = 0 → [x0,x1,x2,x3,x4,x5,x6,x7] = noneL):=by
    unfold shnX
    by_cases h0:shnE l n = 0
    · rw [if_pos h0]
      exact ⟨_,_,_,_,_,_,_,_,rfl,fun h=>absurd h0 h⟩
    · rw [if_neg h0]
      exact ⟨_,_,_,_,_,_,_,_,rfl,fun _=>rfl⟩
  have hshw:(∀ x ∈ l,x.tx.size ≤ 1000000000) → ∀ (v:Value) w',Rd w' v 5 (cps l) → GivesV Tryz.prog 60 [v,.int .i64 n] w' (.tuple #[.agg ((shnX l n).map Value.string).toArray,.int .i64 (shnE l n)]):=fun hs v w' h=>shownX_c h hs
  rw [hx] at hshn hshw
  dsimp only [List.map] at hshn hshw
  have e1:capE l ≠ 0 → shnE l n ≠ 0:=fun h0 h1=>h0 (capE_zero.2 (shnE_zero.1 h1).1)
  have e3:capE l ≠ 0 → safE l m0 m1 ≠ 0:=fun h0 h1=>h0 (capE_zero.2 (safE_zero.1 h1).1)
  refine givesV_of_tr Tryz.func10 rfl rfl ?_
  (refine s_r ?_;refine tr_new (rk_box (.of rfl) rfl) rfl (fun _ _=>?_);refine a_s rfl rfl ?_;refine n_t ?_;refine tr_seq ?_;refine s_r ?_;refine m_v rfl rfl ?_;refine tr_callV (rk_call (.of rfl) (.cons (.of rfl) .nil) inferInstance normc_) rfl (fun w' hm'=>(shortQ_c (Rd.keeps h (Mem.keeps hm')))) ?_;refine tr_val (rk_not (.of rfl)) rfl ?_;refine n_t ?_;refine c_b rfl (fun hcd=>?_) (fun hcd=>?_);refine s_r ?_;refine tr_callV (rk_call (.of rfl) .nil inferInstance normc_) rfl (fun w' hm'=>(awake_c w' (GlobR.keeps hG (Mem.keeps hm')) (Tab10.keeps hT (Mem.keeps hm')))) ?_;refine a_s rfl rfl ?_;refine n_t ?_;refine r_t ?_;refine tr_retE rfl (ends1 rfl rfl) ?_;rotate_left;refine s_t ?_;refine s_r ?_;refine m_v rfl rfl ?_;rotate_right)
  · rfl
  obtain ⟨hfew,hsz⟩:=shoB_few (l:=l) (by assumption)
  clear hcd
  with_reducible apply tr_call
  case hr=>exact rk_call (.of rfl) (.cons (.of rfl) .nil) inferInstance normc_
  case hd=>rfl
  case ht=>exact Takes.nil
  case hc=>
    intro w1 fp hm1 _ hs1
    obtain rfl:fp = []:=hs1
    exact capsV_c (h.keeps hm1.keeps) (by omega)
  intro v1 _
  dsimp only [id_eq,List.cons_append,List.nil_append]
  refine m_v rfl rfl ?_
  with_reducible apply tr_callV
  case hr=>exact rk_call (.of rfl) (.cons (.of rfl) (.cons (.of rfl) .nil)) inferInstance normc_
  case hd=>rfl
  case hc=>
    intro w' hm'
    exact hshw hsz _ w' (cps_rd (E:=195) (v:=v1) hm' (by exact .here) rfl)
  (refine m_v rfl rfl ?_;refine tr_val (rk_extract (.of rfl) rfl) rfl ?_;refine tr_val (rk_extract (.of rfl) rfl) rfl ?_;refine tr_new (rk_alloc rfl) rfl (fun _ _=>?_);refine tr_store (.of rfl) (.of rfl) .here rfl rfl (okc_cons rfl (okc_cons rfl (okc_cons rfl (okc_cons rfl (okc_cons rfl (okc_cons rfl (okc_cons rfl (okc_cons rfl okc_nil)))))))) (lenb rfl) norm_ ?_;refine a_s rfl rfl ?_;refine n_r ?_;refine m_v rfl rfl ?_)
  with_reducible apply tr_call
  case hr=>exact rk_call (.of rfl) (.cons (.of rfl) .nil) inferInstance normc_
  case hd=>rfl
  case ht=>exact Takes.nil
  case hc=>
    intro w1 fp hm1 _ hs1
    obtain rfl:fp = []:=hs1
    exact capsV_c (h.keeps hm1.keeps) (by omega)
  intro v2 _
  dsimp only [id_eq,List.cons_append,List.nil_append]
  skip
  with_reducible apply tr_call
  case hr=>exact rk_call (.of rfl) (.cons (.of rfl) .nil) inferInstance normc_
  case hd=>rfl
  case ht=>exact Takes.nil
  case hc=>
    intro w1 fp hm1 _ hs1
    obtain rfl:fp = []:=hs1
    exact changes_c (cps_rd (E:=195) (v:=v2) hm1 (by exact .here) rfl) hsz
  intro cv _
  dsimp only [id_eq,List.cons_append,List.nil_append]
  (refine m_v rfl rfl ?_;refine tr_val (rk_extract (.of rfl) rfl) rfl ?_;refine tr_val (rk_extract (.of rfl) rfl) rfl ?_;refine a_s rfl rfl ?_;refine a_s rfl rfl ?_;refine n_t ?_;refine tr_seq ?_)
  have hcv:∀ w',Keeps [] w w' → Gives Tryz.prog 61 [.slice a l.length cp] w' [] (fun _:Value=>True) id (fun v=>[row 195 5 v l.length (cpsV l)]):=fun w' hk=>capsV_c (h.keeps hk) (by omega)
  with_reducible refine tr_drawM 12 (by kernel_rfl) ?_
  refine am_val (fun β=>(rk_move (.of rfl))) ind0 rfl ?_
  dsimp only [Nat.zero_add,Nat.reduceAdd]
  with_reducible apply am_call (ι:=Value) (Φ:=fun _=>True) (val:=id) (own:=fun v=>[row 195 5 v l.length (cpsV l)]) (g:=id) (B:=[]) (args:=fun _=>[.slice a l.length cp])
  case hg=>exact fun x=>⟨x,rfl⟩
  case hB=>rfl
  case hr=>exact fun β=>rk_call (.of rfl) (.cons (.of rfl) .nil) inferInstance rfl
  case hd=>rfl
  case hc=>exact fun β w' hb=>hcv w' hb.mem.keeps
  dsimp only [id_eq,Nat.reduceAdd]
  (refine am_val (fun β=>(rk_indexAddrA (.of rfl) (.of rfl) (by omega) (by omega) norm1_)) ind0 rfl ?_;refine am_val (fun β=>(rk_load1 (.of rfl) (At.lit (.there (.there (.there (.there .here)))) rfl))) ind0 rfl ?_;refine am_val (fun β=>(rk_indexAddrA (.of rfl) (.of rfl) (by omega) (by omega) norm1_)) ind0 rfl ?_;refine am_val (fun β=>(rk_load1 (.of rfl) (At.lit (.there (.there (.there (.there .here)))) rfl))) ind0 rfl ?_)
  dsimp only [Nat.reduceAdd]
  with_reducible apply am_call (ι:=Value) (Φ:=fun _=>True) (val:=fun v=>.tuple #[v,.int .i64 (safE l m0 m1)]) (own:=fun v=>[row 3 1 v (safX l m0 m1).length (natsV (safX l m0 m1))]) (g:=id) (B:=[1]) (args:=fun β=>[β 1,.int .i64 m0,.int .i64 m1])
  case hg=>exact fun x=>⟨x,rfl⟩
  case hB=>kernel_rfl
  case hr=>exact fun β=>rk_call (.of rfl) (.cons (.of rfl) (.cons (.of rfl) (.cons (.of rfl) .nil))) inferInstance rfl
  case hd=>rfl
  case hc=>
    intro β w' hb
    have m1':=hb.at 1 (by simp) (s:=⟨fun β=>β 1,fun β=>[row 195 5 (β 1) l.length (cpsV l)]⟩) (by kernel_rfl)
    dsimp only [List.cons_append,List.nil_append] at m1'
    exact safe_c (cps_rd (E:=195) (v:=β 1) m1' (by exact .here) rfl) hsz
  dsimp only [id_eq,Nat.reduceAdd]
  refine am_val (F:=fun β=>.tuple #[β 6,.int .i64 (safE l m0 m1)]) (fun β=>rk_move (.of rfl)) (fun β β' h=>by simp only [h 6 (by kernel_rfl)]) rfl ?_
  refine am_val (F:=fun β=>β 6) (fun β=>rk_extract (.of rfl) rfl) (fun β β' h=>by simp only [h 6 (by kernel_rfl)]) rfl ?_
  refine am_val (F:=fun β=>.int .i64 (safE l m0 m1)) (fun β=>rk_extract (.of rfl) rfl) ind0 rfl ?_
  refine am_val (F:=fun β=>β 6) (fun β=>rk_assign (.of rfl)) (fun β β' h=>by simp only [h 6 (by kernel_rfl)]) rfl ?_
  refine am_val (F:=fun β=>.int .i64 (safE l m0 m1)) (fun β=>rk_assign (.of rfl)) ind0 rfl ?_
  refine am_end fun β=>?_
  dsimp only [resAll,List.nil_append,List.cons_append,List.append_eq,Nat.reduceAdd]
  generalize β 6 = sv
  generalize β 1 = v3
  with_reducible refine left_done (by kernel_rfl) ?_
  (refine tr_then ?_;refine s_r ?_;refine m_v rfl rfl ?_;refine tr_callV (rk_call (.of rfl) (.cons (.of rfl) .nil) inferInstance normc_) rfl (fun w' hm'=>(capsQ_c (Rd.keeps h (Mem.keeps hm')))) ?_;refine a_s rfl rfl ?_;refine n_r ?_;refine m_v rfl rfl ?_;refine m_v rfl rfl ?_;refine tr_callV (rk_call (.of rfl) (.cons (.of rfl) (.cons (.of rfl) (.cons (.of rfl) .nil))) inferInstance normc_) rfl (fun w' hm'=>(range_q n 0 10000000 w')) ?_;refine tr_new (rk_sliceLit (.cons (.of rfl) (.cons (.of rfl) .nil)) rfl rfl rfl rfl) rfl (fun _ _=>?_))
  with_reducible apply tr_callV
  case hr=>exact rk_call (.of rfl) (.cons (.of rfl) .nil) inferInstance normc_
  case hd=>rfl
  case hc=>
    intro w' hm'
    exact first_q _ [capE l,withinF n 0 10000000] w' (Mem.rdBlk hm' (by exact .here) rfl rfl)
  rw [show firstF [capE l,withinF n 0 10000000] = shnE l n from rfl]
  (refine a_s rfl rfl ?_;refine n_t ?_;refine tr_seq ?_)
  with_reducible refine tr_draw 7 (by kernel_rfl) ?_
  (refine a_m rfl rfl ?_;refine any_val (rk_indexAddrA (.of rfl) (.of rfl) (by omega) (by omega) norm1_) rfl ?_;refine any_val (rk_load1 (.of rfl) (At.lit (.there (.there (.there (.there (.there (.there (.there .here))))))) rfl)) rfl ?_;refine any_call (rk_call (.of rfl) (.cons (.of rfl) (.cons (.of rfl) (.cons (.of rfl) .nil))) inferInstance normc_) rfl (fun w' hm'=>(range_q m0 0 3 w')) ?_;refine any_val (rk_indexAddrA (.of rfl) (.of rfl) (by omega) (by omega) norm1_) rfl ?_;refine any_val (rk_load1 (.of rfl) (At.lit (.there (.there (.there (.there (.there (.there (.there .here))))))) rfl)) rfl ?_;refine any_call (rk_call (.of rfl) (.cons (.of rfl) (.cons (.of rfl) (.cons (.of rfl) .nil))) inferInstance normc_) rfl (fun w' hm'=>(range_q m1 0 15 w')) ?_)
  with_reducible refine any_end ?_
  refine tr_new (rk_sliceLit (.cons (.of rfl) (.cons (.of rfl) (.cons (.of rfl) .nil))) rfl rfl rfl rfl) rfl (fun _ _=>?_)
  with_reducible apply tr_callV
  case hr=>exact rk_call (.of rfl) (.cons (.of rfl) .nil) inferInstance normc_
  case hd=>rfl
  case hc=>
    intro w' hm'
    exact first_q _ [capE l,withinF m0 0 3,withinF m1 0 15] w' (Mem.rdBlk hm' (by exact .here) rfl rfl)
  rw [show firstF [capE l,withinF m0 0 3,withinF m1 0 15] = safE l m0 m1 from rfl]
  by_cases hb:capE l = 0
  · have hok:=capE_zero.1 hb
    rw [show chX l = (chL l).map fun (n:Nat)=>(n:Int) by unfold chX;rw [if_pos hb]]
    by_cases h3:safE l m0 m1 = 0
    · obtain ⟨-,hr,hc0⟩:=safE_zero.1 h3
      rw [show safX l m0 m1 = sfK l m0 m1 l.length by unfold safX;rw [if_pos h3]]
      by_cases h1:shnE l n = 0
      · skip
        (refine a_s rfl rfl ?_;refine n_r ?_;refine tr_new (rk_alloc rfl) rfl (fun _ _=>?_);refine n_r ?_;refine a_s rfl rfl ?_;refine a_s rfl rfl ?_;refine n_t ?_;refine tr_seq ?_;refine s_r ?_;refine m_v rfl rfl ?_;refine tr_val (rk_eql (.of rfl) (.of rfl)) rfl ?_;refine n_t ?_;refine c_d rfl (fun hcd=>?_) (fun _=>by omega);refine tr_region ?_;refine m_v rfl rfl ?_;refine m_v rfl rfl ?_;refine tr_callV (rk_call (.of rfl) (.cons (.of rfl) (.cons (.of rfl) .nil)) inferInstance normc_) rfl (fun w' hm'=>(hshn h1 w' (Mem.keeps hm'))) ?_;refine tr_store (.of rfl) (.of rfl) .here rfl rfl (okc_cons rfl (okc_cons rfl (okc_cons rfl (okc_cons rfl (okc_cons rfl (okc_cons rfl (okc_cons rfl (okc_cons rfl okc_nil)))))))) (lenb rfl) norm_ ?_;refine n_t ?_;refine tr_seq ?_;refine s_r ?_;refine m_v rfl rfl ?_;refine tr_val (rk_eql (.of rfl) (.of rfl)) rfl ?_;refine n_t ?_;refine c_d rfl (fun hcd=>?_) (fun _=>by omega);refine tr_region ?_;refine m_v rfl rfl ?_)
        with_reducible apply tr_call
        case hr=>exact rk_call (.of rfl) (.cons (.of rfl) .nil) inferInstance normc_
        case hd=>rfl
        case ht=>exact Takes.nil
        case hc=>
          intro w1 fp hm1 _ hs1
          obtain rfl:fp = []:=hs1
          exact chgQ_c (h.keeps hm1.keeps) hok
        intro u _
        dsimp only [id_eq,List.cons_append,List.nil_append]
        (refine a_s rfl rfl ?_;refine n_t ?_;refine tr_seq ?_;refine s_r ?_;refine m_v rfl rfl ?_;refine tr_val (rk_eql (.of rfl) (.of rfl)) rfl ?_;refine n_t ?_;refine c_d rfl (fun hcd=>?_) (fun _=>by omega);refine tr_region ?_;refine m_v rfl rfl ?_;refine tr_val (rk_indexAddrA (.of rfl) (.of rfl) (by omega) (by omega) norm1_) rfl ?_;refine tr_val (rk_load1 (.of rfl) (At.lit (.there (.there (.there (.there (.there (.there (.there (.there (.there (.there .here)))))))))) rfl)) rfl ?_;refine tr_val (rk_indexAddrA (.of rfl) (.of rfl) (by omega) (by omega) norm1_) rfl ?_;refine tr_val (rk_load1 (.of rfl) (At.lit (.there (.there (.there (.there (.there (.there (.there (.there (.there (.there .here)))))))))) rfl)) rfl ?_)
        with_reducible apply tr_call
        case hr=>exact rk_call (.of rfl) (.cons (.of rfl) (.cons (.of rfl) (.cons (.of rfl) .nil))) inferInstance normc_
        case hd=>rfl
        case ht=>exact Takes.nil
        case hc=>
          intro w1 fp hm1 _ hs1
          obtain rfl:fp = []:=hs1
          exact safeQ_c (h.keeps hm1.keeps) hok hr hc0
        intro y _
        dsimp only [id_eq,List.cons_append,List.nil_append]
        (refine a_s rfl rfl ?_;refine n_r ?_;refine m_v rfl rfl ?_)
        with_reducible apply tr_call
        case hr=>exact rk_call (.of rfl) (.cons (.of rfl) .nil) inferInstance normc_
        case hd=>rfl
        case ht=>exact Takes.nil
        case hc=>
          intro w1 fp hm1 _ hs1
          obtain rfl:fp = []:=hs1
          exact capsV_c (h.keeps hm1.keeps) (by omega)
        intro v5 _
        dsimp only [id_eq,List.cons_append,List.nil_append]
        skip
        with_reducible apply tr_callV
        case hr=>exact rk_call (.of rfl) (.cons (.of rfl) .nil) inferInstance normc_
        case hd=>rfl
        case hc=>
          intro w' hm'
          exact chkCaps_c (cps_rd (E:=195) (v:=v5) hm' (by exact .here) rfl) hsz
        (refine m_v rfl rfl ?_;refine tr_val (rk_eqlT (.of rfl) (.of rfl) rfl) rfl ?_;refine m_v rfl rfl ?_;refine tr_gOn rfl rfl ?_;refine tr_val (rk_loadB (.of rfl) (.there (.there (.there (.there (.there (.there (.there (.there (.there (.there .here)))))))))) norm_ (by rfl)) rfl ?_;refine tr_gOn rfl rfl ?_;refine tr_val (rk_loadB (.of rfl) (.there (.there (.there .here))) norm_ (by rfl)) rfl ?_;refine tr_gOn rfl rfl ?_;refine tr_val (rk_eqlAT (.of rfl) (.of rfl) (okL_string (okL_string (okL_string (okL_string (okL_string (okL_string (okL_string (okL_string okL_nil))))))))) rfl ?_;refine tr_val (rk_pickB (.of rfl) (.of rfl) (.of rfl) rfl) rfl ?_;refine m_v rfl rfl ?_;refine tr_gOn rfl rfl ?_;refine m_v rfl rfl ?_;refine tr_gOn rfl rfl ?_;refine m_v rfl rfl ?_;refine tr_gOn rfl rfl ?_;refine tr_val (rk_eqlT (.of rfl) (.of rfl) rfl) rfl ?_;refine tr_val (rk_pickB (.of rfl) (.of rfl) (.of rfl) rfl) rfl ?_;refine m_v rfl rfl ?_;refine tr_gOn rfl rfl ?_;refine m_v rfl rfl ?_;refine tr_gOn rfl rfl ?_;refine m_v rfl rfl ?_;refine tr_gOn rfl rfl ?_)
        with_reducible apply tr_callV
        case hr=>exact rk_call (.of rfl) (.cons (.of rfl) (.cons (.of rfl) .nil)) inferInstance normc_
        case hd=>rfl
        case hc=>
          intro w' hm'
          have s1:=intg_rd (E:=3) (v:=cv) (l:=(chL l).map fun (n:Nat)=>(n:Int)) (n:=((chL l).map fun (n:Nat)=>(n:Int)).length) hm' (by exact Take.there (.there (.there (.there (.there (.there (.there (.there .here)))))))) (by simp)
          have s2:=intg_rd (E:=3) (v:=u) (l:=(chL l).map fun (n:Nat)=>(n:Int)) (n:=(chL l).length) hm' (by rw [← natsV_intg (chL l)];exact Take.there (.there .here)) (by simp)
          have s3:=sameI_t s1 s2
          rw [decide_eq_true rfl] at s3
          exact s3
        (refine tr_val (rk_pickB (.of rfl) (.of rfl) (.of rfl) rfl) rfl ?_;refine m_v rfl rfl ?_;refine tr_gOn rfl rfl ?_;refine m_v rfl rfl ?_;refine tr_gOn rfl rfl ?_;refine m_v rfl rfl ?_;refine tr_gOn rfl rfl ?_;refine tr_val (rk_eqlT (.of rfl) (.of rfl) rfl) rfl ?_;refine tr_val (rk_pickB (.of rfl) (.of rfl) (.of rfl) rfl) rfl ?_;refine m_v rfl rfl ?_;refine tr_gOn rfl rfl ?_;refine m_v rfl rfl ?_;refine tr_gOn rfl rfl ?_;refine m_v rfl rfl ?_;refine tr_gOn rfl rfl ?_)
        with_reducible apply tr_callV
        case hr=>exact rk_call (.of rfl) (.cons (.of rfl) (.cons (.of rfl) .nil)) inferInstance normc_
        case hd=>rfl
        case hc=>
          intro w' hm'
          have s1:=intg_rd (E:=3) (v:=sv) (l:=(sfK l m0 m1 l.length).map fun (n:Nat)=>(n:Int)) (n:=(sfK l m0 m1 l.length).length) hm' (by rw [← natsV_intg (sfK l m0 m1 l.length)];exact Take.there (.there (.there (.there (.there (.there (.there .here))))))) (by simp)
          have s2:=intg_rd (E:=3) (v:=y) (l:=(sfK l m0 m1 l.length).map fun (n:Nat)=>(n:Int)) (n:=(sfK l m0 m1 l.length).length) hm' (by rw [← natsV_intg (sfK l m0 m1 l.length)];exact Take.there .here) (by simp)
          have s3:=sameI_t s1 s2
          rw [decide_eq_true rfl] at s3
          exact s3
        (refine tr_val (rk_pickB (.of rfl) (.of rfl) (.of rfl) rfl) rfl ?_;refine m_v rfl rfl ?_;refine tr_gOn rfl rfl ?_;refine m_v rfl rfl ?_;refine tr_gOn rfl rfl ?_;refine m_v rfl rfl ?_;refine tr_gOn rfl rfl ?_;refine tr_val (rk_eqlT (.of rfl) (.of rfl) rfl) rfl ?_;refine tr_val (rk_pickB (.of rfl) (.of rfl) (.of rfl) rfl) rfl ?_;refine m_v rfl rfl ?_;refine tr_gOn rfl rfl ?_)
        with_reducible apply tr_callV (V:=Value.bool true)
        case hr=>exact rk_call (.of rfl) .nil inferInstance normc_
        case hd=>rfl
        case hc=>
          intro w' hm'
          exact awake_c _ (hG.keeps hm'.keeps) (hT.keeps hm'.keeps)
        (refine tr_val (rk_pickB (.of rfl) (.of rfl) (.of rfl) rfl) rfl ?_;refine a_s rfl rfl ?_;refine n_t ?_;refine tr_ret ?_;refine tr_retE rfl (ends1 rfl rfl) ?_)
        rfl
      · skip
        have e:=hxn h1
        simp only [noneL,List.replicate,List.cons.injEq,and_true] at e
        obtain ⟨rfl,rfl,rfl,rfl,rfl,rfl,rfl,rfl⟩:=e
        (refine a_s rfl rfl ?_;refine n_r ?_;refine tr_new (rk_alloc rfl) rfl (fun _ _=>?_);refine n_r ?_;refine a_s rfl rfl ?_;refine a_s rfl rfl ?_;refine n_t ?_;refine tr_seq ?_;refine s_r ?_;refine m_v rfl rfl ?_;refine tr_val (rk_eql (.of rfl) (.of rfl)) rfl ?_;refine n_t ?_;refine c_d rfl (fun _=>by omega) (fun hcd=>?_);refine s_t ?_;refine tr_seq ?_;refine s_r ?_;refine m_v rfl rfl ?_;refine tr_val (rk_eql (.of rfl) (.of rfl)) rfl ?_;refine n_t ?_;refine c_d rfl (fun hcd=>?_) (fun _=>by omega);refine tr_region ?_;refine m_v rfl rfl ?_)
        with_reducible apply tr_call
        case hr=>exact rk_call (.of rfl) (.cons (.of rfl) .nil) inferInstance normc_
        case hd=>rfl
        case ht=>exact Takes.nil
        case hc=>
          intro w1 fp hm1 _ hs1
          obtain rfl:fp = []:=hs1
          exact chgQ_c (h.keeps hm1.keeps) hok
        intro u _
        dsimp only [id_eq,List.cons_append,List.nil_append]
        (refine a_s rfl rfl ?_;refine n_t ?_;refine tr_seq ?_;refine s_r ?_;refine m_v rfl rfl ?_;refine tr_val (rk_eql (.of rfl) (.of rfl)) rfl ?_;refine n_t ?_;refine c_d rfl (fun hcd=>?_) (fun _=>by omega);refine tr_region ?_;refine m_v rfl rfl ?_;refine tr_val (rk_indexAddrA (.of rfl) (.of rfl) (by omega) (by omega) norm1_) rfl ?_;refine tr_val (rk_load1 (.of rfl) (At.lit (.there (.there (.there (.there (.there (.there (.there (.there (.there (.there .here)))))))))) rfl)) rfl ?_;refine tr_val (rk_indexAddrA (.of rfl) (.of rfl) (by omega) (by omega) norm1_) rfl ?_;refine tr_val (rk_load1 (.of rfl) (At.lit (.there (.there (.there (.there (.there (.there (.there (.there (.there (.there .here)))))))))) rfl)) rfl ?_)
        with_reducible apply tr_call
        case hr=>exact rk_call (.of rfl) (.cons (.of rfl) (.cons (.of rfl) (.cons (.of rfl) .nil))) inferInstance normc_
        case hd=>rfl
        case ht=>exact Takes.nil
        case hc=>
          intro w1 fp hm1 _ hs1
          obtain rfl:fp = []:=hs1
          exact safeQ_c (h.keeps hm1.keeps) hok hr hc0
        intro y _
        dsimp only [id_eq,List.cons_append,List.nil_append]
        (refine a_s rfl rfl ?_;refine n_r ?_;refine m_v rfl rfl ?_)
        with_reducible apply tr_call
        case hr=>exact rk_call (.of rfl) (.cons (.of rfl) .nil) inferInstance normc_
        case hd=>rfl
        case ht=>exact Takes.nil
        case hc=>
          intro w1 fp hm1 _ hs1
          obtain rfl:fp = []:=hs1
          exact capsV_c (h.keeps hm1.keeps) (by omega)
        intro v5 _
        dsimp only [id_eq,List.cons_append,List.nil_append]
        skip
        with_reducible apply tr_callV
        case hr=>exact rk_call (.of rfl) (.cons (.of rfl) .nil) inferInstance normc_
        case hd=>rfl
        case hc=>
          intro w' hm'
          exact chkCaps_c (cps_rd (E:=195) (v:=v5) hm' (by exact .here) rfl) hsz
        (refine m_v rfl rfl ?_;refine tr_val (rk_eqlT (.of rfl) (.of rfl) rfl) rfl ?_;refine m_v rfl rfl ?_;refine tr_gOn rfl rfl ?_;refine tr_val (rk_loadB (.of rfl) (.there (.there (.there (.there (.there (.there (.there (.there (.there (.there .here)))))))))) norm_ (by rfl)) rfl ?_;refine tr_gOn rfl rfl ?_;refine tr_val (rk_loadB (.of rfl) (.there (.there (.there .here))) norm_ (by rfl)) rfl ?_;refine tr_gOn rfl rfl ?_;refine tr_val (rk_eqlAT (.of rfl) (.of rfl) (okL_string (okL_string (okL_string (okL_string (okL_string (okL_string (okL_string (okL_string okL_nil))))))))) rfl ?_;refine tr_val (rk_pickB (.of rfl) (.of rfl) (.of rfl) rfl) rfl ?_;refine m_v rfl rfl ?_;refine tr_gOn rfl rfl ?_;refine m_v rfl rfl ?_;refine tr_gOn rfl rfl ?_;refine m_v rfl rfl ?_;refine tr_gOn rfl rfl ?_;refine tr_val (rk_eqlT (.of rfl) (.of rfl) rfl) rfl ?_;refine tr_val (rk_pickB (.of rfl) (.of rfl) (.of rfl) rfl) rfl ?_;refine m_v rfl rfl ?_;refine tr_gOn rfl rfl ?_;refine m_v rfl rfl ?_;refine tr_gOn rfl rfl ?_;refine m_v rfl rfl ?_;refine tr_gOn rfl rfl ?_)
        with_reducible apply tr_callV
        case hr=>exact rk_call (.of rfl) (.cons (.of rfl) (.cons (.of rfl) .nil)) inferInstance normc_
        case hd=>rfl
        case hc=>
          intro w' hm'
          have s1:=intg_rd (E:=3) (v:=cv) (l:=(chL l).map fun (n:Nat)=>(n:Int)) (n:=((chL l).map fun (n:Nat)=>(n:Int)).length) hm' (by exact Take.there (.there (.there (.there (.there (.there (.there (.there .here)))))))) (by simp)
          have s2:=intg_rd (E:=3) (v:=u) (l:=(chL l).map fun (n:Nat)=>(n:Int)) (n:=(chL l).length) hm' (by rw [← natsV_intg (chL l)];exact Take.there (.there .here)) (by simp)
          have s3:=sameI_t s1 s2
          rw [decide_eq_true rfl] at s3
          exact s3
        (refine tr_val (rk_pickB (.of rfl) (.of rfl) (.of rfl) rfl) rfl ?_;refine m_v rfl rfl ?_;refine tr_gOn rfl rfl ?_;refine m_v rfl rfl ?_;refine tr_gOn rfl rfl ?_;refine m_v rfl rfl ?_;refine tr_gOn rfl rfl ?_;refine tr_val (rk_eqlT (.of rfl) (.of rfl) rfl) rfl ?_;refine tr_val (rk_pickB (.of rfl) (.of rfl) (.of rfl) rfl) rfl ?_;refine m_v rfl rfl ?_;refine tr_gOn rfl rfl ?_;refine m_v rfl rfl ?_;refine tr_gOn rfl rfl ?_;refine m_v rfl rfl ?_;refine tr_gOn rfl rfl ?_)
        with_reducible apply tr_callV
        case hr=>exact rk_call (.of rfl) (.cons (.of rfl) (.cons (.of rfl) .nil)) inferInstance normc_
        case hd=>rfl
        case hc=>
          intro w' hm'
          have s1:=intg_rd (E:=3) (v:=sv) (l:=(sfK l m0 m1 l.length).map fun (n:Nat)=>(n:Int)) (n:=(sfK l m0 m1 l.length).length) hm' (by rw [← natsV_intg (sfK l m0 m1 l.length)];exact Take.there (.there (.there (.there (.there (.there (.there .here))))))) (by simp)
          have s2:=intg_rd (E:=3) (v:=y) (l:=(sfK l m0 m1 l.length).map fun (n:Nat)=>(n:Int)) (n:=(sfK l m0 m1 l.length).length) hm' (by rw [← natsV_intg (sfK l m0 m1 l.length)];exact Take.there .here) (by simp)
          have s3:=sameI_t s1 s2
          rw [decide_eq_true rfl] at s3
          exact s3
        (refine tr_val (rk_pickB (.of rfl) (.of rfl) (.of rfl) rfl) rfl ?_;refine m_v rfl rfl ?_;refine tr_gOn rfl rfl ?_;refine m_v rfl rfl ?_;refine tr_gOn rfl rfl ?_;refine m_v rfl rfl ?_;refine tr_gOn rfl rfl ?_;refine tr_val (rk_eqlT (.of rfl) (.of rfl) rfl) rfl ?_;refine tr_val (rk_pickB (.of rfl) (.of rfl) (.of rfl) rfl) rfl ?_;refine m_v rfl rfl ?_;refine tr_gOn rfl rfl ?_)
        with_reducible apply tr_callV (V:=Value.bool true)
        case hr=>exact rk_call (.of rfl) .nil inferInstance normc_
        case hd=>rfl
        case hc=>
          intro w' hm'
          exact awake_c _ (hG.keeps hm'.keeps) (hT.keeps hm'.keeps)
        (refine tr_val (rk_pickB (.of rfl) (.of rfl) (.of rfl) rfl) rfl ?_;refine a_s rfl rfl ?_;refine n_t ?_;refine tr_ret ?_;refine tr_retE rfl (ends1 rfl rfl) ?_)
        rfl
    · rw [show safX l m0 m1 = [] by unfold safX;rw [if_neg h3]]
      by_cases h1:shnE l n = 0
      · skip
        (refine a_s rfl rfl ?_;refine n_r ?_;refine tr_new (rk_alloc rfl) rfl (fun _ _=>?_);refine n_r ?_;refine a_s rfl rfl ?_;refine a_s rfl rfl ?_;refine n_t ?_;refine tr_seq ?_;refine s_r ?_;refine m_v rfl rfl ?_;refine tr_val (rk_eql (.of rfl) (.of rfl)) rfl ?_;refine n_t ?_;refine c_d rfl (fun hcd=>?_) (fun _=>by omega);refine tr_region ?_;refine m_v rfl rfl ?_;refine m_v rfl rfl ?_;refine tr_callV (rk_call (.of rfl) (.cons (.of rfl) (.cons (.of rfl) .nil)) inferInstance normc_) rfl (fun w' hm'=>(hshn h1 w' (Mem.keeps hm'))) ?_;refine tr_store (.of rfl) (.of rfl) .here rfl rfl (okc_cons rfl (okc_cons rfl (okc_cons rfl (okc_cons rfl (okc_cons rfl (okc_cons rfl (okc_cons rfl (okc_cons rfl okc_nil)))))))) (lenb rfl) norm_ ?_;refine n_t ?_;refine tr_seq ?_;refine s_r ?_;refine m_v rfl rfl ?_;refine tr_val (rk_eql (.of rfl) (.of rfl)) rfl ?_;refine n_t ?_;refine c_d rfl (fun hcd=>?_) (fun _=>by omega);refine tr_region ?_;refine m_v rfl rfl ?_)
        with_reducible apply tr_call
        case hr=>exact rk_call (.of rfl) (.cons (.of rfl) .nil) inferInstance normc_
        case hd=>rfl
        case ht=>exact Takes.nil
        case hc=>
          intro w1 fp hm1 _ hs1
          obtain rfl:fp = []:=hs1
          exact chgQ_c (h.keeps hm1.keeps) hok
        intro u _
        dsimp only [id_eq,List.cons_append,List.nil_append]
        (refine a_s rfl rfl ?_;refine n_t ?_;refine tr_seq ?_;refine s_r ?_;refine m_v rfl rfl ?_;refine tr_val (rk_eql (.of rfl) (.of rfl)) rfl ?_;refine n_t ?_;refine c_d rfl (fun _=>by omega) (fun hcd=>?_);refine s_t ?_;refine s_r ?_;refine m_v rfl rfl ?_)
        with_reducible apply tr_call
        case hr=>exact rk_call (.of rfl) (.cons (.of rfl) .nil) inferInstance normc_
        case hd=>rfl
        case ht=>exact Takes.nil
        case hc=>
          intro w1 fp hm1 _ hs1
          obtain rfl:fp = []:=hs1
          exact capsV_c (h.keeps hm1.keeps) (by omega)
        intro v5 _
        dsimp only [id_eq,List.cons_append,List.nil_append]
        skip
        with_reducible apply tr_callV
        case hr=>exact rk_call (.of rfl) (.cons (.of rfl) .nil) inferInstance normc_
        case hd=>rfl
        case hc=>
          intro w' hm'
          exact chkCaps_c (cps_rd (E:=195) (v:=v5) hm' (by exact .here) rfl) hsz
        (refine m_v rfl rfl ?_;refine tr_val (rk_eqlT (.of rfl) (.of rfl) rfl) rfl ?_;refine m_v rfl rfl ?_;refine tr_gOn rfl rfl ?_;refine tr_val (rk_loadB (.of rfl) (.there (.there (.there (.there (.there (.there (.there (.there (.there .here))))))))) norm_ (by rfl)) rfl ?_;refine tr_gOn rfl rfl ?_;refine tr_val (rk_loadB (.of rfl) (.there (.there .here)) norm_ (by rfl)) rfl ?_;refine tr_gOn rfl rfl ?_;refine tr_val (rk_eqlAT (.of rfl) (.of rfl) (okL_string (okL_string (okL_string (okL_string (okL_string (okL_string (okL_string (okL_string okL_nil))))))))) rfl ?_;refine tr_val (rk_pickB (.of rfl) (.of rfl) (.of rfl) rfl) rfl ?_;refine m_v rfl rfl ?_;refine tr_gOn rfl rfl ?_;refine m_v rfl rfl ?_;refine tr_gOn rfl rfl ?_;refine m_v rfl rfl ?_;refine tr_gOn rfl rfl ?_;refine tr_val (rk_eqlT (.of rfl) (.of rfl) rfl) rfl ?_;refine tr_val (rk_pickB (.of rfl) (.of rfl) (.of rfl) rfl) rfl ?_;refine m_v rfl rfl ?_;refine tr_gOn rfl rfl ?_;refine m_v rfl rfl ?_;refine tr_gOn rfl rfl ?_;refine m_v rfl rfl ?_;refine tr_gOn rfl rfl ?_)
        with_reducible apply tr_callV
        case hr=>exact rk_call (.of rfl) (.cons (.of rfl) (.cons (.of rfl) .nil)) inferInstance normc_
        case hd=>rfl
        case hc=>
          intro w' hm'
          have s1:=intg_rd (E:=3) (v:=cv) (l:=(chL l).map fun (n:Nat)=>(n:Int)) (n:=((chL l).map fun (n:Nat)=>(n:Int)).length) hm' (by exact Take.there (.there (.there (.there (.there (.there (.there .here))))))) (by simp)
          have s2:=intg_rd (E:=3) (v:=u) (l:=(chL l).map fun (n:Nat)=>(n:Int)) (n:=(chL l).length) hm' (by rw [← natsV_intg (chL l)];exact Take.there .here) (by simp)
          have s3:=sameI_t s1 s2
          rw [decide_eq_true rfl] at s3
          exact s3
        (refine tr_val (rk_pickB (.of rfl) (.of rfl) (.of rfl) rfl) rfl ?_;refine m_v rfl rfl ?_;refine tr_gOn rfl rfl ?_;refine m_v rfl rfl ?_;refine tr_gOn rfl rfl ?_;refine m_v rfl rfl ?_;refine tr_gOn rfl rfl ?_;refine tr_val (rk_eqlT (.of rfl) (.of rfl) rfl) rfl ?_;refine tr_val (rk_pickB (.of rfl) (.of rfl) (.of rfl) rfl) rfl ?_;refine m_v rfl rfl ?_;refine tr_gOn rfl rfl ?_;refine m_v rfl rfl ?_;refine tr_gOn rfl rfl ?_;refine m_v rfl rfl ?_;refine tr_gOn rfl rfl ?_)
        with_reducible apply tr_callV
        case hr=>exact rk_call (.of rfl) (.cons (.of rfl) (.cons (.of rfl) .nil)) inferInstance normc_
        case hd=>rfl
        case hc=>
          intro w' hm'
          have s1:=intg_rd (E:=3) (v:=sv) (l:=(([]:List Nat)).map fun (n:Nat)=>(n:Int)) (n:=(([]:List Nat)).length) hm' (by rw [← natsV_intg (([]:List Nat))];exact Take.there (.there (.there (.there (.there (.there .here)))))) (by simp)
          have s3:=sameI_t (m:=[]) s1 (Rd.nil _ 1)
          rw [decide_eq_true (by rfl)] at s3
          exact s3
        (refine tr_val (rk_pickB (.of rfl) (.of rfl) (.of rfl) rfl) rfl ?_;refine m_v rfl rfl ?_;refine tr_gOn rfl rfl ?_;refine m_v rfl rfl ?_;refine tr_gOn rfl rfl ?_;refine m_v rfl rfl ?_;refine tr_gOn rfl rfl ?_;refine tr_val (rk_eqlT (.of rfl) (.of rfl) rfl) rfl ?_;refine tr_val (rk_pickB (.of rfl) (.of rfl) (.of rfl) rfl) rfl ?_;refine m_v rfl rfl ?_;refine tr_gOn rfl rfl ?_)
        with_reducible apply tr_callV (V:=Value.bool true)
        case hr=>exact rk_call (.of rfl) .nil inferInstance normc_
        case hd=>rfl
        case hc=>
          intro w' hm'
          exact awake_c _ (hG.keeps hm'.keeps) (hT.keeps hm'.keeps)
        (refine tr_val (rk_pickB (.of rfl) (.of rfl) (.of rfl) rfl) rfl ?_;refine a_s rfl rfl ?_;refine n_t ?_;refine tr_ret ?_;refine tr_retE rfl (ends1 rfl rfl) ?_)
        rfl
      · skip
        have e:=hxn h1
        simp only [noneL,List.replicate,List.cons.injEq,and_true] at e
        obtain ⟨rfl,rfl,rfl,rfl,rfl,rfl,rfl,rfl⟩:=e
        (refine a_s rfl rfl ?_;refine n_r ?_;refine tr_new (rk_alloc rfl) rfl (fun _ _=>?_);refine n_r ?_;refine a_s rfl rfl ?_;refine a_s rfl rfl ?_;refine n_t ?_;refine tr_seq ?_;refine s_r ?_;refine m_v rfl rfl ?_;refine tr_val (rk_eql (.of rfl) (.of rfl)) rfl ?_;refine n_t ?_;refine c_d rfl (fun _=>by omega) (fun hcd=>?_);refine s_t ?_;refine tr_seq ?_;refine s_r ?_;refine m_v rfl rfl ?_;refine tr_val (rk_eql (.of rfl) (.of rfl)) rfl ?_;refine n_t ?_;refine c_d rfl (fun hcd=>?_) (fun _=>by omega);refine tr_region ?_;refine m_v rfl rfl ?_)
        with_reducible apply tr_call
        case hr=>exact rk_call (.of rfl) (.cons (.of rfl) .nil) inferInstance normc_
        case hd=>rfl
        case ht=>exact Takes.nil
        case hc=>
          intro w1 fp hm1 _ hs1
          obtain rfl:fp = []:=hs1
          exact chgQ_c (h.keeps hm1.keeps) hok
        intro u _
        dsimp only [id_eq,List.cons_append,List.nil_append]
        (refine a_s rfl rfl ?_;refine n_t ?_;refine tr_seq ?_;refine s_r ?_;refine m_v rfl rfl ?_;refine tr_val (rk_eql (.of rfl) (.of rfl)) rfl ?_;refine n_t ?_;refine c_d rfl (fun _=>by omega) (fun hcd=>?_);refine s_t ?_;refine s_r ?_;refine m_v rfl rfl ?_)
        with_reducible apply tr_call
        case hr=>exact rk_call (.of rfl) (.cons (.of rfl) .nil) inferInstance normc_
        case hd=>rfl
        case ht=>exact Takes.nil
        case hc=>
          intro w1 fp hm1 _ hs1
          obtain rfl:fp = []:=hs1
          exact capsV_c (h.keeps hm1.keeps) (by omega)
        intro v5 _
        dsimp only [id_eq,List.cons_append,List.nil_append]
        skip
        with_reducible apply tr_callV
        case hr=>exact rk_call (.of rfl) (.cons (.of rfl) .nil) inferInstance normc_
        case hd=>rfl
        case hc=>
          intro w' hm'
          exact chkCaps_c (cps_rd (E:=195) (v:=v5) hm' (by exact .here) rfl) hsz
        (refine m_v rfl rfl ?_;refine tr_val (rk_eqlT (.of rfl) (.of rfl) rfl) rfl ?_;refine m_v rfl rfl ?_;refine tr_gOn rfl rfl ?_;refine tr_val (rk_loadB (.of rfl) (.there (.there (.there (.there (.there (.there (.there (.there (.there .here))))))))) norm_ (by rfl)) rfl ?_;refine tr_gOn rfl rfl ?_;refine tr_val (rk_loadB (.of rfl) (.there (.there .here)) norm_ (by rfl)) rfl ?_;refine tr_gOn rfl rfl ?_;refine tr_val (rk_eqlAT (.of rfl) (.of rfl) (okL_string (okL_string (okL_string (okL_string (okL_string (okL_string (okL_string (okL_string okL_nil))))))))) rfl ?_;refine tr_val (rk_pickB (.of rfl) (.of rfl) (.of rfl) rfl) rfl ?_;refine m_v rfl rfl ?_;refine tr_gOn rfl rfl ?_;refine m_v rfl rfl ?_;refine tr_gOn rfl rfl ?_;refine m_v rfl rfl ?_;refine tr_gOn rfl rfl ?_;refine tr_val (rk_eqlT (.of rfl) (.of rfl) rfl) rfl ?_;refine tr_val (rk_pickB (.of rfl) (.of rfl) (.of rfl) rfl) rfl ?_;refine m_v rfl rfl ?_;refine tr_gOn rfl rfl ?_;refine m_v rfl rfl ?_;refine tr_gOn rfl rfl ?_;refine m_v rfl rfl ?_;refine tr_gOn rfl rfl ?_)
        with_reducible apply tr_callV
        case hr=>exact rk_call (.of rfl) (.cons (.of rfl) (.cons (.of rfl) .nil)) inferInstance normc_
        case hd=>rfl
        case hc=>
          intro w' hm'
          have s1:=intg_rd (E:=3) (v:=cv) (l:=(chL l).map fun (n:Nat)=>(n:Int)) (n:=((chL l).map fun (n:Nat)=>(n:Int)).length) hm' (by exact Take.there (.there (.there (.there (.there (.there (.there .here))))))) (by simp)
          have s2:=intg_rd (E:=3) (v:=u) (l:=(chL l).map fun (n:Nat)=>(n:Int)) (n:=(chL l).length) hm' (by rw [← natsV_intg (chL l)];exact Take.there .here) (by simp)
          have s3:=sameI_t s1 s2
          rw [decide_eq_true rfl] at s3
          exact s3
        (refine tr_val (rk_pickB (.of rfl) (.of rfl) (.of rfl) rfl) rfl ?_;refine m_v rfl rfl ?_;refine tr_gOn rfl rfl ?_;refine m_v rfl rfl ?_;refine tr_gOn rfl rfl ?_;refine m_v rfl rfl ?_;refine tr_gOn rfl rfl ?_;refine tr_val (rk_eqlT (.of rfl) (.of rfl) rfl) rfl ?_;refine tr_val (rk_pickB (.of rfl) (.of rfl) (.of rfl) rfl) rfl ?_;refine m_v rfl rfl ?_;refine tr_gOn rfl rfl ?_;refine m_v rfl rfl ?_;refine tr_gOn rfl rfl ?_;refine m_v rfl rfl ?_;refine tr_gOn rfl rfl ?_)
        with_reducible apply tr_callV
        case hr=>exact rk_call (.of rfl) (.cons (.of rfl) (.cons (.of rfl) .nil)) inferInstance normc_
        case hd=>rfl
        case hc=>
          intro w' hm'
          have s1:=intg_rd (E:=3) (v:=sv) (l:=(([]:List Nat)).map fun (n:Nat)=>(n:Int)) (n:=(([]:List Nat)).length) hm' (by rw [← natsV_intg (([]:List Nat))];exact Take.there (.there (.there (.there (.there (.there .here)))))) (by simp)
          have s3:=sameI_t (m:=[]) s1 (Rd.nil _ 1)
          rw [decide_eq_true (by rfl)] at s3
          exact s3
        (refine tr_val (rk_pickB (.of rfl) (.of rfl) (.of rfl) rfl) rfl ?_;refine m_v rfl rfl ?_;refine tr_gOn rfl rfl ?_;refine m_v rfl rfl ?_;refine tr_gOn rfl rfl ?_;refine m_v rfl rfl ?_;refine tr_gOn rfl rfl ?_;refine tr_val (rk_eqlT (.of rfl) (.of rfl) rfl) rfl ?_;refine tr_val (rk_pickB (.of rfl) (.of rfl) (.of rfl) rfl) rfl ?_;refine m_v rfl rfl ?_;refine tr_gOn rfl rfl ?_)
        with_reducible apply tr_callV (V:=Value.bool true)
        case hr=>exact rk_call (.of rfl) .nil inferInstance normc_
        case hd=>rfl
        case hc=>
          intro w' hm'
          exact awake_c _ (hG.keeps hm'.keeps) (hT.keeps hm'.keeps)
        (refine tr_val (rk_pickB (.of rfl) (.of rfl) (.of rfl) rfl) rfl ?_;refine a_s rfl rfl ?_;refine n_t ?_;refine tr_ret ?_;refine tr_retE rfl (ends1 rfl rfl) ?_)
        rfl
  · have h1:=e1 hb
    have h3:=e3 hb
    rw [show safX l m0 m1 = [] by unfold safX;rw [if_neg h3],show chX l = [] by unfold chX;rw [if_neg hb]]
    have e:=hxn h1
    simp only [noneL,List.replicate,List.cons.injEq,and_true] at e
    obtain ⟨rfl,rfl,rfl,rfl,rfl,rfl,rfl,rfl⟩:=e
    (refine a_s rfl rfl ?_;refine n_r ?_;refine tr_new (rk_alloc rfl) rfl (fun _ _=>?_);refine n_r ?_;refine a_s rfl rfl ?_;refine a_s rfl rfl ?_;refine n_t ?_;refine tr_seq ?_;refine s_r ?_;refine m_v rfl rfl ?_;refine tr_val (rk_eql (.of rfl) (.of rfl)) rfl ?_;refine n_t ?_;refine c_d rfl (fun _=>by omega) (fun hcd=>?_);refine s_t ?_;refine tr_seq ?_;refine s_r ?_;refine m_v rfl rfl ?_;refine tr_val (rk_eql (.of rfl) (.of rfl)) rfl ?_;refine n_t ?_;refine c_d rfl (fun _=>by omega) (fun hcd=>?_);refine s_t ?_;refine tr_seq ?_;refine s_r ?_;refine m_v rfl rfl ?_;refine tr_val (rk_eql (.of rfl) (.of rfl)) rfl ?_;refine n_t ?_;refine c_d rfl (fun _=>by omega) (fun hcd=>?_);refine s_t ?_;refine s_r ?_;refine m_v rfl rfl ?_)
    with_reducible apply tr_call
    case hr=>exact rk_call (.of rfl) (.cons (.of rfl) .nil) inferInstance normc_
    case hd=>rfl
    case ht=>exact Takes.nil
    case hc=>
      intro w1 fp hm1 _ hs1
      obtain rfl:fp = []:=hs1
      exact capsV_c (h.keeps hm1.keeps) (by omega)
    intro v5 _
    dsimp only [id_eq,List.cons_append,List.nil_append]
    skip
    with_reducible apply tr_callV
    case hr=>exact rk_call (.of rfl) (.cons (.of rfl) .nil) inferInstance normc_
    case hd=>rfl
    case hc=>
      intro w' hm'
      exact chkCaps_c (cps_rd (E:=195) (v:=v5) hm' (by exact .here) rfl) hsz
    (refine m_v rfl rfl ?_;refine tr_val (rk_eqlT (.of rfl) (.of rfl) rfl) rfl ?_;refine m_v rfl rfl ?_;refine tr_gOn rfl rfl ?_;refine tr_val (rk_loadB (.of rfl) (.there (.there (.there (.there (.there (.there (.there (.there .here)))))))) norm_ (by rfl)) rfl ?_;refine tr_gOn rfl rfl ?_;refine tr_val (rk_loadB (.of rfl) (.there .here) norm_ (by rfl)) rfl ?_;refine tr_gOn rfl rfl ?_;refine tr_val (rk_eqlAT (.of rfl) (.of rfl) (okL_string (okL_string (okL_string (okL_string (okL_string (okL_string (okL_string (okL_string okL_nil))))))))) rfl ?_;refine tr_val (rk_pickB (.of rfl) (.of rfl) (.of rfl) rfl) rfl ?_;refine m_v rfl rfl ?_;refine tr_gOn rfl rfl ?_;refine m_v rfl rfl ?_;refine tr_gOn rfl rfl ?_;refine m_v rfl rfl ?_;refine tr_gOn rfl rfl ?_;refine tr_val (rk_eqlT (.of rfl) (.of rfl) rfl) rfl ?_;refine tr_val (rk_pickB (.of rfl) (.of rfl) (.of rfl) rfl) rfl ?_;refine m_v rfl rfl ?_;refine tr_gOn rfl rfl ?_;refine m_v rfl rfl ?_;refine tr_gOn rfl rfl ?_;refine m_v rfl rfl ?_;refine tr_gOn rfl rfl ?_)
    with_reducible apply tr_callV
    case hr=>exact rk_call (.of rfl) (.cons (.of rfl) (.cons (.of rfl) .nil)) inferInstance normc_
    case hd=>rfl
    case hc=>
      intro w' hm'
      have s1:=intg_rd (E:=3) (v:=cv) (l:=([]:List Int)) (n:=([]:List Int).length) hm' (by exact Take.there (.there (.there (.there (.there (.there .here)))))) (by simp)
      have s3:=sameI_t (m:=[]) s1 (Rd.nil _ 1)
      rw [decide_eq_true (by rfl)] at s3
      exact s3
    (refine tr_val (rk_pickB (.of rfl) (.of rfl) (.of rfl) rfl) rfl ?_;refine m_v rfl rfl ?_;refine tr_gOn rfl rfl ?_;refine m_v rfl rfl ?_;refine tr_gOn rfl rfl ?_;refine m_v rfl rfl ?_;refine tr_gOn rfl rfl ?_;refine tr_val (rk_eqlT (.of rfl) (.of rfl) rfl) rfl ?_;refine tr_val (rk_pickB (.of rfl) (.of rfl) (.of rfl) rfl) rfl ?_;refine m_v rfl rfl ?_;refine tr_gOn rfl rfl ?_;refine m_v rfl rfl ?_;refine tr_gOn rfl rfl ?_;refine m_v rfl rfl ?_;refine tr_gOn rfl rfl ?_)
    with_reducible apply tr_callV
    case hr=>exact rk_call (.of rfl) (.cons (.of rfl) (.cons (.of rfl) .nil)) inferInstance normc_
    case hd=>rfl
    case hc=>
      intro w' hm'
      have s1:=intg_rd (E:=3) (v:=sv) (l:=(([]:List Nat)).map fun (n:Nat)=>(n:Int)) (n:=(([]:List Nat)).length) hm' (by rw [← natsV_intg (([]:List Nat))];exact Take.there (.there (.there (.there (.there .here))))) (by simp)
      have s3:=sameI_t (m:=[]) s1 (Rd.nil _ 1)
      rw [decide_eq_true (by rfl)] at s3
      exact s3
    (refine tr_val (rk_pickB (.of rfl) (.of rfl) (.of rfl) rfl) rfl ?_;refine m_v rfl rfl ?_;refine tr_gOn rfl rfl ?_;refine m_v rfl rfl ?_;refine tr_gOn rfl rfl ?_;refine m_v rfl rfl ?_;refine tr_gOn rfl rfl ?_;refine tr_val (rk_eqlT (.of rfl) (.of rfl) rfl) rfl ?_;refine tr_val (rk_pickB (.of rfl) (.of rfl) (.of rfl) rfl) rfl ?_;refine m_v rfl rfl ?_;refine tr_gOn rfl rfl ?_)
    with_reducible apply tr_callV (V:=Value.bool true)
    case hr=>exact rk_call (.of rfl) .nil inferInstance normc_
    case hd=>rfl
    case hc=>
      intro w' hm'
      exact awake_c _ (hG.keeps hm'.keeps) (hT.keeps hm'.keeps)
    (refine tr_val (rk_pickB (.of rfl) (.of rfl) (.of rfl) rfl) rfl ?_;refine a_s rfl rfl ?_;refine n_t ?_;refine tr_ret ?_;refine tr_retE rfl (ends1 rfl rfl) ?_)
    rfl
end Go.Proofs.A1
