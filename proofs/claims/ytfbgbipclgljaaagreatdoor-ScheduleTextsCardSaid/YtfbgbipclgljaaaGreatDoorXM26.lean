/- Parts of the proof: V10 V11. -/
import Derived.Test.YtfbgbipclgljaaaGreatDoorXM25
import Derived.Test.YtfbgbipclgljaaaGreatDoorXM10
import Derived.Test.YtfbgbipclgljaaaGreatDoorXM06
import Derived.Test.YtfbgbipclgljaaaGreatDoorXM19
import Derived.Test.YtfbgbipclgljaaaGreatDoorXM20
import Derived.Test.YtfbgbipclgljaaaGreatDoorXM22
set_option linter.unusedSectionVars false
set_option linter.unusedVariables false
set_option linter.unusedSimpArgs false
namespace Go.Proofs.A1
open Go Go.SL
theorem endsCTT {P:Program} {c:Cx} {sl:Slots} {hs hs':List Asn} {fn:Func} {t u s:Tmp} {T E:TypeId} {b:Nat} {fz:Nat × Nat} {v x y:Value} [Ty P T true 1] (h:fn.results = #[.cell t T,.tmp u,.tmp s]) (h1:sget sl t = some (.pointer (some ⟨b,0,none⟩))) (ht:Take hs (blk b (.cells #[v] E fz)) hs') (h2:sget sl u = some x) (h3:sget sl s = some y):Go.SL.Ends P fn c sl hs (.tuple #[.agg #[v],x,y]):=
  endsL (xs:=[.cell t T,.tmp u,.tmp s]) (vs:=[.agg [v].toArray,x,y]) h (RVs.cons (RV.cell h1 (loadsN (vs:=[v]) (Ats.of_get fun j w hj=>by
    match j,hj with
    | 0,hj=>cases hj;exact At.lit ht rfl
    | j + 1,hj=>simp at hj) rfl)) (RVs.cons (RV.tmp h2) (RVs.cons (RV.tmp h3) RVs.nil))) (by simp)
theorem rk_neqT {P:Program} {c:Cx} {sl:Slots} {hs:List Asn} {dst:Option Tmp} {ty:TypeId} {pos:String} {af:Array Edge} {g:Option (Nat × Bool)} {k:IntKind} {t u:TypeId} {x y:Operand} {a b:Int} (hx:Is sl x (.int k a)) (hy:Is sl y (.int k b)) (e:a ≠ b) :
    RunV P c sl hs ⟨dst,.binOp .neq t x y u,ty,pos,af,g⟩ (.bool true):=by
  have:=rk_neq (P:=P) (c:=c) (hs:=hs) (dst:=dst) (ty:=ty) (pos:=pos) (af:=af) (g:=g) (t:=t) (u:=u) hx hy
  rwa [decide_eq_true e] at this
theorem strs_at {l:List (List UInt8)} {i:Nat} (h:i < l.length) (cur:List Value):(strs l++cur)[i * 1]? = some (.string (bsL (l.getD i []))):=by
  rw [Nat.mul_one,List.getElem?_append_left (by rw [strs_length];exact h)]
  simp [strs,h]
set_option maxHeartbeats 4000000 in
theorem parseQ_c {s:ByteArray} (hsz:s.size ≤ 4900) (w:World):Gives Tryz.prog 84 [.string s] w [] (fun _:Value=>True) (fun v=>.tuple #[.agg #[v],.int .i64 (txI (toL s)),.int .i64 (txE (toL s))]) (fun v=>[row 115 6 v (txL (toL s)).length (ensL (txL (toL s))).flatten]):=by
  have hsl:=size_toL s
  refine gives_of_tr Tryz.func84 rfl rfl ?_
  (refine s_r ?_;refine tr_new (rk_alloc rfl) rfl (fun _ _=>?_);refine a_s rfl rfl ?_;refine a_s rfl rfl ?_;refine n_t ?_;refine tr_seq ?_;refine s_r ?_;refine m_v rfl rfl ?_;refine tr_val (rk_len_string (.of rfl)) rfl ?_;refine tr_val (rk_gtr (.of rfl) (.of rfl)) rfl ?_;refine n_t ?_;refine c_d rfl (fun hcd=>?_) (fun hcd=>?_);refine s_r ?_;refine tr_val (rk_buildL .nil norm_) rfl ?_;refine tr_store (.of rfl) (.of rfl) .here rfl rfl (okc_cons rfl okc_nil) (lenb rfl) norm_ ?_;refine a_s rfl rfl ?_;refine a_s rfl rfl ?_;refine n_t ?_;refine r_t ?_;rotate_left;refine s_t ?_;refine s_r ?_;refine m_v rfl rfl ?_;rotate_right)
  · obtain ⟨e1,e2,e3⟩:=tx_long (l:=toL s) (by omega)
    rw [e1,e2,e3]
    refine tr_rowNil 115 6 ?_
    first | with_reducible apply tr_retM | with_reducible apply tr_endM
    case he=>exact endsCTT rfl rfl (by exact Take.there .here) rfl rfl
    case hR=>
      intro w' hm'
      exact gives_end (.slice none 0 0) trivial (show Takes _ [row 115 6 (.slice none 0 0) 0 []] _ by exact .cons .here .nil) hm' rfl
  have hl:(toL s).length ≤ 4096:=by omega
  rename_i b2 hb2
  with_reducible apply tr_call
  case hr=>exact rk_call (.of rfl) (.cons (.of rfl) (.cons (.of rfl) .nil)) inferInstance normc_
  case hd=>rfl
  case ht=>exact Takes.nil
  case hc=>
    intro w1 fp hm1 _ hs1
    obtain rfl:fp = []:=hs1
    exact split_q (c:=10) (by omega) w1
  intro lv _
  dsimp only [id_eq,List.cons_append,List.nil_append]
  refine tr_rowSl (E:=9) (sz:=1) (v:=lv) (by exact .here) fun la lc e=>?_
  subst e
  have hpos:=splL_pos 10 (toL s)
  have hnn:nLn (toL s) = (splL 10 (toL s)).length - 1:=rfl
  have hnl:=nLn_le (toL s)
  have hne:=splL_ne 10 (toL s)
  refine tr_rowOpen (E:=9) (sz:=1) (v:=.slice la (splL 10 (toL s)).length lc) (by exact .here) hpos fun gl gcap gcur e hk1 hx1 hz1 hl1=>?_
  obtain ⟨rfl,-,rfl⟩:=Value.slice.inj e
  unfold maxLen at hx1
  (refine a_s rfl rfl ?_;refine n_r ?_;refine tr_new (rk_alloc rfl) rfl (fun _ _=>?_);refine n_t ?_;refine tr_seq ?_;refine s_r ?_;refine a_s rfl rfl ?_;refine n_t ?_;refine tr_block ?_)
  rename_i b6 hb6
  refine tr_rowNil 115 6 ?_
  refine tr_for (ι:=Nat × Value) (fun x=>x.1 ≤ nLn (toL s) ∧ ∀ i,i < x.1 → okW (lnW (toL s) i) = true) (fun x=>[(7,.int .i64 (x.1:Int)),(5,.slice (some ⟨gl,0,none⟩) (splL 10 (toL s)).length lc),(6,.pointer (some ⟨b6,0,none⟩)),(2,.pointer (some ⟨b2,0,none⟩)),(3,.int .i64 0),(4,.int .i64 0)])
    (fun x=>[row 115 6 x.2 x.1 (ensL (enL (toL s) x.1)).flatten,blk b6 (.cells #[x.2] 24),blk b2 (.cells #[.slice none 0 0] 24),blk gl (.cells (strs (splL 10 (toL s))++gcur).toArray 9)]) (fun x=>nLn (toL s) - x.1) ?_ ?_
  · apply tr_start (0,.slice none 0 0) ⟨Nat.zero_le _,fun i h=>absurd h (Nat.not_lt_zero _)⟩
    case hs1=>exact .cons rfl (.cons rfl (.cons rfl (.cons rfl (.cons rfl (.cons rfl .nil)))))
    case ht=>
      show Takes _ [row 115 6 (.slice none 0 0) 0 [],blk b6 (.cells #[.slice none 0 0] 24),_,_] _
      exact .cons .here (.cons .here (.cons (.there .here) (.cons .here .nil)))
  rintro ⟨n,v⟩ ⟨hn,hz⟩
  dsimp only at hn hz ⊢
  by_cases hlt:n < nLn (toL s)
  · have q0:=strs_at (l:=splL 10 (toL s)) (i:=n) (by omega) gcur
    have hpl:((splL 10 (toL s)).getD n []).length ≤ (toL s).length:=splL_len 10 (toL s) _ (by
      rw [List.getD_eq_getElem?_getD,List.getElem?_eq_getElem (by omega)]
      exact List.getElem_mem _)
    have hsp:∀ w',Gives Tryz.prog 89 [.string (bsL ((splL 10 (toL s)).getD n [])),.int .u8 32] w' [] (fun _:Value=>True) id (fun v=>[row 9 1 v (lnW (toL s) n).length (strs (lnW (toL s) n))]):=fun w'=>by
      have:=split_q (s:=bsL ((splL 10 (toL s)).getD n [])) (c:=32) (by rw [bsL_size];omega) w'
      rwa [toL_bsL] at this
    have hwpos:=splL_pos 32 ((splL 10 (toL s)).getD n [])
    have hwp:0 < (lnW (toL s) n).length:=hwpos
    have hwle:(lnW (toL s) n).length ≤ 5000:=by
      have:=splL_le 32 ((splL 10 (toL s)).getD n [])
      unfold lnW;omega
    refine tr_rowSl (E:=115) (sz:=6) (v:=v) (by exact .here) fun va vc e=>?_
    subst e
    (refine tr_seq ?_;refine s_r ?_;refine m_v rfl rfl ?_;refine m_v rfl rfl ?_;refine tr_val (rk_len_slice (.of rfl)) rfl ?_;refine tr_val (rk_sub (.of rfl) (.of rfl) (ini (by omega))) rfl ?_;refine tr_val (rk_lss (.of rfl) (.of rfl)) rfl ?_;refine n_t ?_;refine c_d rfl (fun hcd=>?_) (fun _=>by omega);refine s_t ?_;refine tr_seq ?_;refine tr_block ?_;refine s_r ?_;refine m_v rfl rfl ?_;refine m_v rfl rfl ?_;refine tr_val (rk_indexAddr (.of rfl) (.of rfl) rfl (by omega) (by omega) norm1_) rfl ?_;refine tr_val (rk_load1 (.of rfl) (At.blkL (.there (.there (.there .here))) q0)) rfl ?_)
    with_reducible apply tr_call
    case hr=>exact rk_call (.of rfl) (.cons (.of rfl) (.cons (.of rfl) .nil)) inferInstance normc_
    case hd=>rfl
    case ht=>exact Takes.nil
    case hc=>
      intro w1 fp hm1 _ hs1
      obtain rfl:fp = []:=hs1
      exact hsp w1
    intro wv _
    dsimp only [id_eq,List.cons_append,List.nil_append]
    generalize hws:lnW (toL s) n = ws at hwp hwle
    refine tr_rowSl (E:=9) (sz:=1) (v:=wv) (by exact .here) fun wa wc e=>?_
    subst e
    refine tr_rowOpen (E:=9) (sz:=1) (v:=.slice wa ws.length wc) (by exact .here) hwp fun gw gwcap gwcur e hk2 hx2 hz2 hl2=>?_
    obtain ⟨rfl,-,rfl⟩:=Value.slice.inj e
    unfold maxLen at hx2
    have hbad:okW ws = false → txE (toL s) = 25 ∧ txI (toL s) = (n:Int) ∧ txL (toL s) = []:=fun h=>tx_bad hl hz (.inl ⟨hlt,by rw [hws];exact h⟩)
    by_cases h7:ws.length = 7
    · have w0:=strs_at (l:=ws) (i:=0) (by omega) gwcur
      have w1:=strs_at (l:=ws) (i:=1) (by omega) gwcur
      have w2:=strs_at (l:=ws) (i:=2) (by omega) gwcur
      have w3:=strs_at (l:=ws) (i:=3) (by omega) gwcur
      have w4:=strs_at (l:=ws) (i:=4) (by omega) gwcur
      have w5:=strs_at (l:=ws) (i:=5) (by omega) gwcur
      have w6:=strs_at (l:=ws) (i:=6) (by omega) gwcur
      have hdig:∀ (k:Nat) w',GivesV Tryz.prog 162 [.string (bsL (ws.getD k []))] w' (.tuple #[.int .i64 (if numB (ws.getD k []) then digV (ws.getD k []) else 0),.bool (numB (ws.getD k []))]):=fun k w'=>by
        have:=dig_q (bsL (ws.getD k [])) w'
        rwa [toL_bsL] at this
      (refine a_s rfl rfl ?_;refine n_t ?_;refine tr_seq ?_;refine s_r ?_;refine m_v rfl rfl ?_;refine tr_val (rk_len_slice (.of rfl)) rfl ?_;refine tr_val (rk_neq (.of rfl) (.of rfl)) rfl ?_;refine m_v rfl rfl ?_;refine v_g rfl rfl rfl rfl ?_;refine tr_vG1 rfl rfl inferInstance (fun hg hgp=>(rk_indexAddr (.ofg hg rfl) (.of rfl) rfl (by omega) (by omega) norm1_)) rfl ?_;refine tr_vG1 rfl rfl inferInstance (fun hg hgp=>(rk_load1 (.ofg hg rfl) (At.blkL .here w0))) rfl ?_;refine tr_vG1 rfl rfl inferInstance (fun hg hgp=>(rk_neqs (.ofg hg rfl) (.of rfl))) rfl ?_;refine tr_val (rk_pick_or (.of rfl) rfl) rfl ?_;refine m_v rfl rfl ?_;refine v_g rfl rfl rfl rfl ?_;refine tr_vG1 rfl rfl inferInstance (fun hg hgp=>(rk_indexAddr (.ofg hg rfl) (.of rfl) rfl (by omega) (by omega) norm1_)) rfl ?_;refine tr_vG1 rfl rfl inferInstance (fun hg hgp=>(rk_load1 (.ofg hg rfl) (At.blkL .here w1))) rfl ?_;refine tr_vG1 rfl rfl inferInstance (fun hg hgp=>(rk_eqls (.ofg hg rfl) (.of rfl))) rfl ?_;refine tr_val (rk_pick_or (.of rfl) rfl) rfl ?_;refine m_v rfl rfl ?_;refine v_g rfl rfl rfl rfl ?_;refine tr_vG1 rfl rfl inferInstance (fun hg hgp=>(rk_indexAddr (.ofg hg rfl) (.of rfl) rfl (by omega) (by omega) norm1_)) rfl ?_;refine tr_vG1 rfl rfl inferInstance (fun hg hgp=>(rk_load1 (.ofg hg rfl) (At.blkL .here w2))) rfl ?_;refine tr_vG1 rfl rfl inferInstance (fun hg hgp=>(rk_eqls (.ofg hg rfl) (.of rfl))) rfl ?_;refine tr_val (rk_pick_or (.of rfl) rfl) rfl ?_;refine m_v rfl rfl ?_;refine v_g rfl rfl rfl rfl ?_;refine tr_vG1 rfl rfl inferInstance (fun hg hgp=>(rk_indexAddr (.ofg hg rfl) (.of rfl) rfl (by omega) (by omega) norm1_)) rfl ?_;refine tr_vG1 rfl rfl inferInstance (fun hg hgp=>(rk_load1 (.ofg hg rfl) (At.blkL .here w3))) rfl ?_;refine tr_vG1 rfl rfl inferInstance (fun hg hgp=>(rk_eqls (.ofg hg rfl) (.of rfl))) rfl ?_;refine tr_val (rk_pick_or (.of rfl) rfl) rfl ?_;refine n_t ?_;refine c_b rfl (fun hcd=>?_) (fun hcd=>?_);refine s_r ?_;refine tr_val (rk_buildL .nil norm_) rfl ?_;refine m_v rfl rfl ?_;refine tr_store (.of rfl) (.of rfl) (.there (.there (.there .here))) rfl rfl (okc_cons rfl okc_nil) (lenb rfl) norm_ ?_;refine a_s rfl rfl ?_;refine a_s rfl rfl ?_;refine n_t ?_;refine r_t ?_;refine tr_blk_ret ?_;refine tr_then_ret ?_;refine tr_then_ret ?_;refine tr_blk_ret ?_;refine tr_then_ret ?_;rotate_left;refine s_t ?_;refine s_r ?_;refine m_v rfl rfl ?_;refine tr_val (rk_indexAddr (.of rfl) (.of rfl) rfl (by omega) (by omega) norm1_) rfl ?_;refine tr_val (rk_load1 (.of rfl) (At.blkL .here w4)) rfl ?_;rotate_right)
      · have ho:okW ws = false:=by
          rw [← Bool.not_eq_true,okW_iff]
          intro h
          rcases hcd with (((hcd | hcd) | hcd) | hcd) | hcd
          · omega
          · exact hcd (by rw [show ws.getD 0 [] = sEntry from h.hd];rfl)
          · exact h.nm (bsL_eq_nil.1 hcd)
          · exact h.mt (bsL_eq_nil.1 hcd)
          · exact h.kd (bsL_eq_nil.1 hcd)
        obtain ⟨t1,t2,t3⟩:=hbad ho
        rw [t1,t2,t3]
        refine tr_rowNil 115 6 ?_
        skip
        first | with_reducible apply tr_retM | with_reducible apply tr_endM
        case he=>exact endsCTT rfl rfl (by exact Take.there .here) rfl rfl
        case hR=>
          intro w' hm'
          exact gives_end (.slice none 0 0) trivial (show Takes _ [row 115 6 (.slice none 0 0) 0 []] _ by exact .cons .here .nil) hm' rfl
      obtain ⟨⟨⟨⟨k0,k1⟩,k2⟩,k3⟩,k4⟩:=hcd
      with_reducible apply tr_callV
      case hr=>exact rk_call (.of rfl) (.cons (.of rfl) .nil) inferInstance normc_
      case hd=>rfl
      case hc=>
        intro w' hm'
        exact hdig 4 w'
      (refine m_v rfl rfl ?_;refine tr_val (rk_extract (.of rfl) rfl) rfl ?_;refine tr_val (rk_extract (.of rfl) rfl) rfl ?_;refine a_s rfl rfl ?_;refine a_s rfl rfl ?_;refine n_r ?_;refine m_v rfl rfl ?_;refine tr_val (rk_indexAddr (.of rfl) (.of rfl) rfl (by omega) (by omega) norm1_) rfl ?_;refine tr_val (rk_load1 (.of rfl) (At.blkL .here w5)) rfl ?_)
      with_reducible apply tr_callV
      case hr=>exact rk_call (.of rfl) (.cons (.of rfl) .nil) inferInstance normc_
      case hd=>rfl
      case hc=>
        intro w' hm'
        exact hdig 5 w'
      (refine m_v rfl rfl ?_;refine tr_val (rk_extract (.of rfl) rfl) rfl ?_;refine tr_val (rk_extract (.of rfl) rfl) rfl ?_;refine a_s rfl rfl ?_;refine a_s rfl rfl ?_;refine n_r ?_;refine m_v rfl rfl ?_;refine tr_val (rk_indexAddr (.of rfl) (.of rfl) rfl (by omega) (by omega) norm1_) rfl ?_;refine tr_val (rk_load1 (.of rfl) (At.blkL .here w6)) rfl ?_)
      with_reducible apply tr_callV
      case hr=>exact rk_call (.of rfl) (.cons (.of rfl) .nil) inferInstance normc_
      case hd=>rfl
      case hc=>
        intro w' hm'
        exact hdig 6 w'
      (refine m_v rfl rfl ?_;refine tr_val (rk_extract (.of rfl) rfl) rfl ?_;refine tr_val (rk_extract (.of rfl) rfl) rfl ?_;refine a_s rfl rfl ?_;refine a_s rfl rfl ?_;refine n_t ?_;refine tr_seq ?_;refine s_r ?_;refine m_v rfl rfl ?_;refine tr_val (rk_not (.of rfl)) rfl ?_;refine m_v rfl rfl ?_;refine v_g rfl rfl rfl rfl ?_;refine tr_vG1 rfl rfl inferInstance (fun hg hgp=>(rk_not (.ofg hg rfl))) rfl ?_;refine tr_val (rk_pick_or (.of rfl) rfl) rfl ?_;refine m_v rfl rfl ?_;refine v_g rfl rfl rfl rfl ?_;refine tr_vG1 rfl rfl inferInstance (fun hg hgp=>(rk_not (.ofg hg rfl))) rfl ?_;refine tr_val (rk_pick_or (.of rfl) rfl) rfl ?_;refine n_t ?_;refine c_b rfl (fun hcd=>?_) (fun hcd=>?_);refine s_r ?_;refine tr_val (rk_buildL .nil norm_) rfl ?_;refine m_v rfl rfl ?_;refine tr_store (.of rfl) (.of rfl) (.there (.there (.there .here))) rfl rfl (okc_cons rfl okc_nil) (lenb rfl) norm_ ?_;refine a_s rfl rfl ?_;refine a_s rfl rfl ?_;refine n_t ?_;refine r_t ?_;refine tr_blk_ret ?_;refine tr_then_ret ?_;refine tr_then_ret ?_;refine tr_blk_ret ?_;refine tr_then_ret ?_;rotate_left;refine s_t ?_;rotate_right)
      · have ho:okW ws = false:=by
          rw [← Bool.not_eq_true,okW_iff]
          intro h
          have a4:numB (ws.getD 4 []) = true:=h.tm
          have a5:numB (ws.getD 5 []) = true:=h.ln
          have a6:numB (ws.getD 6 []) = true:=h.ov
          rw [a4,a5,a6] at hcd
          simp at hcd
        obtain ⟨t1,t2,t3⟩:=hbad ho
        rw [t1,t2,t3]
        refine tr_rowNil 115 6 ?_
        skip
        first | with_reducible apply tr_retM | with_reducible apply tr_endM
        case he=>exact endsCTT rfl rfl (by exact Take.there .here) rfl rfl
        case hR=>
          intro w' hm'
          exact gives_end (.slice none 0 0) trivial (show Takes _ [row 115 6 (.slice none 0 0) 0 []] _ by exact .cons .here .nil) hm' rfl
      · obtain ⟨⟨m4,m5⟩,m6⟩:=hcd
        have ho:OkW ws:=⟨h7,bsL_inj (show bsL (ws.getD 0 []) = bsL sEntry from Decidable.not_not.1 k1),fun e=>k2 (bsL_eq_nil.2 e),fun e=>k3 (bsL_eq_nil.2 e),fun e=>k4 (bsL_eq_nil.2 e),m4,m5,m6⟩
        rw [if_pos m4,if_pos m5,if_pos m6,← intV_num m4,← intV_num m5,← intV_num m6]
        have hec:(entW ws).cells = [.string (bsL (ws.getD 1 [])),.string (bsL (ws.getD 2 [])),.string (bsL (ws.getD 3 [])),.int .i64 (intV (ws.getD 4 [])),.int .i64 (intV (ws.getD 5 [])),.int .i64 (intV (ws.getD 6 []))]:=rfl
        have hn5:n ≤ 5000:=by omega
        with_reducible refine tr_drawO 17 (by kernel_rfl) ?_
        (refine ao_val (rk_fieldAddr (.of rfl) norm0_) rfl ?_;refine ao_val (rk_load1 (.of rfl) (At.lit (.there (.there .here)) rfl)) rfl ?_;refine ao_val (rk_move (.of rfl)) rfl ?_;refine ao_val (rk_indexAddr (.of rfl) (.of rfl) rfl (by omega) (by omega) norm1_) rfl ?_;refine ao_val (rk_load1 (.of rfl) (At.blkL .here w1)) rfl ?_;refine ao_val (rk_move (.of rfl)) rfl ?_;refine ao_val (rk_indexAddr (.of rfl) (.of rfl) rfl (by omega) (by omega) norm1_) rfl ?_;refine ao_val (rk_load1 (.of rfl) (At.blkL .here w2)) rfl ?_;refine ao_val (rk_move (.of rfl)) rfl ?_;refine ao_val (rk_indexAddr (.of rfl) (.of rfl) rfl (by omega) (by omega) norm1_) rfl ?_;refine ao_val (rk_load1 (.of rfl) (At.blkL .here w3)) rfl ?_;refine ao_val (rk_move (.of rfl)) rfl ?_;refine ao_val (rk_buildL (.cons (.of rfl) (.cons (.of rfl) .nil)) norm_) rfl ?_;refine ao_val (rk_move (.of rfl)) rfl ?_;refine ao_val (rk_move (.of rfl)) rfl ?_;refine ao_val (rk_buildL (.cons (.of rfl) (.cons (.of rfl) (.cons (.of rfl) (.cons (.of rfl) (.cons (.of rfl) .nil))))) norm_) rfl ?_;refine ao_new (rk_sliceLitN (.cons (.of rfl) .nil) rfl rfl normp_ normp_ norm_) rfl rfl ?_)
        with_reducible refine ao_end1 rfl fun bq hbq=>?_
        refine tr_appendB (.of rfl) (.of rfl) (.there (.there .here)) .here norm_ (by rfl) (okc_cons rfl (okc_cons rfl (okc_cons rfl (okc_cons rfl (okc_cons rfl (okc_cons rfl okc_nil)))))) (by rfl) (by rfl) (by rfl) lenx_ (by rfl) ?_
        intro v'
        refine tr_rowSl (E:=115) (sz:=6) (v:=v') (by exact .here) fun a' cap2 e=>?_
        subst e
        (refine f_a rfl rfl norm0_ ?_;refine tr_store (.of rfl) (.of rfl) (.there (.there (.there .here))) rfl rfl (okc_cons rfl okc_nil) (lenb rfl) norm_ ?_;refine tr_nil ?_;refine tr_blk_normal ?_;refine tr_then ?_;refine tr_region ?_;refine m_v rfl rfl ?_;refine tr_val (rk_add (.of rfl) (.of rfl) (ini (by omega))) rfl ?_;refine a_s rfl rfl ?_;refine n_t ?_)
        apply tr_next (n + 1,.slice a' (n + 1) cap2) (show _ ∧ _ from ⟨hlt,fun i hi=>by
          by_cases e:i = n
          · rw [e,hws,okW_iff];exact ho
          · exact hz i (by omega)⟩) (by show nLn (toL s) - (n + 1) < nLn (toL s) - n;omega)
        case hs1=>exact .cons rfl (.cons rfl (.cons rfl (.cons rfl (.cons rfl (.cons rfl .nil)))))
        case ht=>
          show Takes _ [row 115 6 (.slice a' (n + 1) cap2) (n + 1) (ensL (enL (toL s) (n + 1))).flatten,blk b6 (.cells #[.slice a' (n + 1) cap2] 24),_,_] _
          rw [enL_succ,hws,show ensL (enL (toL s) n++[entW ws]) = ensL (enL (toL s) n)++[(entW ws).cells] by unfold ensL;rw [List.map_append];rfl,List.flatten_append,hec,List.flatten_singleton]
          exact .cons (.there .here) (.cons .here (.cons (.there (.there .here)) (.cons (.there (.there .here)) .nil)))
    · have hn7:((ws.length:Nat):Int) ≠ 7:=by omega
      have ho:okW ws = false:=by
        rw [← Bool.not_eq_true,okW_iff]
        exact fun h=>h7 h.len
      obtain ⟨t1,t2,t3⟩:=hbad ho
      rw [t1,t2,t3]
      (refine a_s rfl rfl ?_;refine n_t ?_;refine tr_seq ?_;refine s_r ?_;refine m_v rfl rfl ?_;refine tr_val (rk_len_slice (.of rfl)) rfl ?_;refine tr_val (rk_neqT (.of rfl) (.of rfl) hn7) rfl ?_;refine m_v rfl rfl ?_;refine tr_gOff rfl rfl rfl ?_;refine tr_gOff rfl rfl rfl ?_;refine tr_gOff rfl rfl rfl ?_;refine tr_gOff rfl rfl rfl ?_;refine tr_val (rk_pickB (.of rfl) (.of rfl) (.of rfl) rfl) rfl ?_;refine m_v rfl rfl ?_;refine tr_gOff rfl rfl rfl ?_;refine tr_gOff rfl rfl rfl ?_;refine tr_gOff rfl rfl rfl ?_;refine tr_gOff rfl rfl rfl ?_;refine tr_val (rk_pickB (.of rfl) (.of rfl) (.of rfl) rfl) rfl ?_;refine m_v rfl rfl ?_;refine tr_gOff rfl rfl rfl ?_;refine tr_gOff rfl rfl rfl ?_;refine tr_gOff rfl rfl rfl ?_;refine tr_gOff rfl rfl rfl ?_;refine tr_val (rk_pickB (.of rfl) (.of rfl) (.of rfl) rfl) rfl ?_;refine m_v rfl rfl ?_;refine tr_gOff rfl rfl rfl ?_;refine tr_gOff rfl rfl rfl ?_;refine tr_gOff rfl rfl rfl ?_;refine tr_gOff rfl rfl rfl ?_;refine tr_val (rk_pickB (.of rfl) (.of rfl) (.of rfl) rfl) rfl ?_;refine n_t ?_;refine tr_cond_t (.of rfl) ?_;refine s_r ?_;refine tr_val (rk_buildL .nil norm_) rfl ?_;refine m_v rfl rfl ?_;refine tr_store (.of rfl) (.of rfl) (.there (.there (.there .here))) rfl rfl (okc_cons rfl okc_nil) (lenb rfl) norm_ ?_;refine a_s rfl rfl ?_;refine a_s rfl rfl ?_;refine n_t ?_;refine r_t ?_;refine tr_blk_ret ?_;refine tr_then_ret ?_;refine tr_then_ret ?_;refine tr_blk_ret ?_;refine tr_then_ret ?_)
      skip
      refine tr_rowNil 115 6 ?_
      first | with_reducible apply tr_retM | with_reducible apply tr_endM
      case he=>exact endsCTT rfl rfl (by exact Take.there .here) rfl rfl
      case hR=>
        intro w' hm'
        exact gives_end (.slice none 0 0) trivial (show Takes _ [row 115 6 (.slice none 0 0) 0 []] _ by exact .cons .here .nil) hm' rfl
  · obtain rfl:n = nLn (toL s):=by omega
    have q0:=strs_last hne gcur
    have e1:(((splL 10 (toL s)).length:Int) - 1).toNat = (splL 10 (toL s)).length - 1:=by omega
    rw [← e1] at q0
    refine tr_rowSl (E:=115) (sz:=6) (v:=v) (by exact .here) fun va vc e=>?_
    subst e
    have hl5:(enL (toL s) (nLn (toL s))).length ≤ 5000:=by rw [enL_length];omega
    (refine tr_seq ?_;refine s_r ?_;refine m_v rfl rfl ?_;refine m_v rfl rfl ?_;refine tr_val (rk_len_slice (.of rfl)) rfl ?_;refine tr_val (rk_sub (.of rfl) (.of rfl) (ini (by omega))) rfl ?_;refine tr_val (rk_lss (.of rfl) (.of rfl)) rfl ?_;refine n_t ?_;refine c_d rfl (fun _=>by omega) (fun hcd=>?_);refine x_t ?_;refine tr_then_exit ?_;refine tr_blk_exit ?_;refine tr_then ?_;refine s_r ?_;refine m_v rfl rfl ?_;refine tr_val (rk_len_slice (.of rfl)) rfl ?_;refine tr_val (rk_sub (.of rfl) (.of rfl) (ini (by omega))) rfl ?_;refine a_s rfl rfl ?_;refine n_t ?_;refine tr_seq ?_;refine s_r ?_;refine m_v rfl rfl ?_;refine m_v rfl rfl ?_;refine tr_val (rk_indexAddr (.of rfl) (.of rfl) rfl (by omega) (by omega) norm1_) rfl ?_;refine tr_val (rk_load1 (.of rfl) (At.blkL (.there (.there (.there .here))) q0)) rfl ?_;refine tr_val (rk_neqs (.of rfl) (.of rfl)) rfl ?_;refine n_t ?_;refine c_d rfl (fun hcd=>?_) (fun hcd=>?_);refine s_r ?_;refine tr_val (rk_buildL .nil norm_) rfl ?_;refine m_v rfl rfl ?_;refine tr_store (.of rfl) (.of rfl) (.there (.there .here)) rfl rfl (okc_cons rfl okc_nil) (lenb rfl) norm_ ?_;refine a_s rfl rfl ?_;refine a_s rfl rfl ?_;refine n_t ?_;refine r_t ?_;rotate_left;refine s_t ?_;refine tr_seq ?_;refine s_r ?_;refine tr_val (rk_loadB (.of rfl) (.there .here) norm_ (by rfl)) rfl ?_;rotate_right)
    · have hlast:lastP (toL s) ≠ []:=fun e=>hcd (by rw [show (splL 10 (toL s)).getLastD [] = [] from e];rfl)
      obtain ⟨t1,t2,t3⟩:=tx_bad hl hz (.inr ⟨rfl,hlast⟩)
      rw [t1,t2,t3,hnn,show (((splL 10 (toL s)).length - 1:Nat):Int) = ((splL 10 (toL s)).length:Int) - 1 by omega]
      refine tr_rowNil 115 6 ?_
      first | with_reducible apply tr_retM | with_reducible apply tr_endM
      case he=>exact endsCTT rfl rfl (by exact Take.there .here) rfl rfl
      case hR=>
        intro w' hm'
        exact gives_end (.slice none 0 0) trivial (show Takes _ [row 115 6 (.slice none 0 0) 0 []] _ by exact .cons .here .nil) hm' rfl
    have hlast:lastP (toL s) = []:=by
      have:=Decidable.not_not.1 hcd
      exact bsL_eq_nil.1 this
    obtain ⟨t1,t2,t3⟩:=tx_good hl hz hlast
    rw [t1,t2,t3]
    with_reducible apply tr_callV
    case hr=>exact rk_call (.of rfl) (.cons (.of rfl) .nil) inferInstance normc_
    case hd=>rfl
    case hc=>
      intro w' hm'
      exact chkQ_c (rdEnF (E:=115) (n:=nLn (toL s)) (v:=.slice va (nLn (toL s)) vc) hm' (by exact .here) (enL_length _ _))
    generalize hE:chkF (enL (toL s) (nLn (toL s))) = E
    (refine a_s rfl rfl ?_;refine n_r ?_;refine m_v rfl rfl ?_;refine tr_val (rk_neq (.of rfl) (.of rfl)) rfl ?_;refine n_t ?_;refine c_d rfl (fun hcd=>?_) (fun hcd=>?_);refine s_r ?_;refine tr_val (rk_buildL .nil norm_) rfl ?_;refine m_v rfl rfl ?_;refine m_v rfl rfl ?_;refine tr_store (.of rfl) (.of rfl) (.there (.there .here)) rfl rfl (okc_cons rfl okc_nil) (lenb rfl) norm_ ?_;refine a_s rfl rfl ?_;refine a_s rfl rfl ?_;refine n_t ?_;refine r_t ?_;rotate_left;refine s_t ?_;refine s_r ?_;refine tr_val (rk_loadB (.of rfl) (.there .here) norm_ (by rfl)) rfl ?_;refine tr_store (.of rfl) (.of rfl) (.there (.there .here)) rfl rfl (okc_cons rfl okc_nil) (lenb rfl) norm_ ?_;refine a_s rfl rfl ?_;refine a_s rfl rfl ?_;refine n_t ?_;refine tr_ret ?_;rotate_right)
    · rw [if_neg hcd,if_neg hcd,hnn,show (((splL 10 (toL s)).length - 1:Nat):Int) = ((splL 10 (toL s)).length:Int) - 1 by omega]
      refine tr_rowNil 115 6 ?_
      first | with_reducible apply tr_retM | with_reducible apply tr_endM
      case he=>exact endsCTT rfl rfl (by exact Take.there .here) rfl rfl
      case hR=>
        intro w' hm'
        exact gives_end (.slice none 0 0) trivial (show Takes _ [row 115 6 (.slice none 0 0) 0 []] _ by exact .cons .here .nil) hm' rfl
    · have hE0:E = 0:=by omega
      rw [if_pos hE0,if_pos hE0]
      subst hE0
      first | with_reducible apply tr_retM | with_reducible apply tr_endM
      case he=>exact endsCTT rfl rfl (by exact .here) rfl rfl
      case hR=>
        intro w' hm'
        exact gives_end (.slice va (nLn (toL s)) vc) trivial (show Takes _ [row 115 6 (.slice va (nLn (toL s)) vc) (enL (toL s) (nLn (toL s))).length (ensL (enL (toL s) (nLn (toL s)))).flatten] _ by rw [enL_length];exact .cons (.there .here) .nil) hm' rfl
end Go.Proofs.A1
namespace Go.Proofs.A1
open Go Go.SL
theorem ind0w {α:Type} {l:List Oper} {i:Nat} {v:α}:Indep l i (fun _=>v):=fun _ _ _=>rfl
theorem rk_eqliT {P:Program} {c:Cx} {sl:Slots} {hs:List Asn} {dst:Option Tmp} {ty:TypeId} {pos:String} {af:Array Edge} {g:Option (Nat × Bool)} {k:IntKind} {t u:TypeId} {x y:Operand} {a b:Int} (hx:Is sl x (.int k a)) (hy:Is sl y (.int k b)) (e:a = b) :
    RunV P c sl hs ⟨dst,.binOp .eql t x y u,ty,pos,af,g⟩ (.bool true):=by
  have:=rk_eql (P:=P) (c:=c) (hs:=hs) (dst:=dst) (ty:=ty) (pos:=pos) (af:=af) (g:=g) (t:=t) (u:=u) hx hy
  rwa [decide_eq_true e] at this
theorem txL_few (l:List UInt8):(txL l).length ≤ 1000:=by
  unfold txL
  split
  · rename_i h
    have h0:chkF (enL l (nLn l)) = 0:=by
      unfold txE at h
      split at h
      · exact absurd h (by decide)
      · rename_i h4
        split at h
        · exact absurd h (by decide)
        · rename_i h5
          split at h
          · exact absurd h (by decide)
          · exact h
    have hf:=(Sound.of h0).all.few
    have:=gdN_le l (nLn l)
    omega
  · exact Nat.zero_le _
set_option maxHeartbeats 4000000 in
theorem texts_law {sv:Value} {es:List En} {s:ByteArray} {w:World} (h1:Rd w sv 6 (ensL es)) (hM:MaxL w) (hG:Glob w) (hT:Tab10 w) :
    GivesV Tryz.prog 12 [.agg #[sv],.string s] w (.bool true):=by
  have haw:∀ w',Keeps [] w w' → GivesV Tryz.prog 17 [] w' (.bool true):=fun w' hk=>awake_c w' (hG.keeps hk) (hT.keeps hk)
  have hsh1:∀ w',Keeps [] w w' → GivesV Tryz.prog 18 [.agg #[sv]] w' (.bool (shortB es)):=fun w' hk=>short_c (h1.keeps hk)
  have hck1:∀ w',Keeps [] w w' → GivesV Tryz.prog 23 [.agg #[sv]] w' (.int .i64 (chkF es)):=fun w' hk=>chkQ_c (h1.keeps hk)
  have hone1:=Rd.one h1
  refine givesV_of_tr Tryz.func12 rfl rfl ?_
  (refine s_r ?_;refine tr_new (rk_box (.of rfl) rfl) rfl (fun _ _=>?_);refine a_s rfl rfl ?_;refine n_t ?_;refine tr_seq ?_;refine s_r ?_;refine tr_callV (rk_call (.of rfl) .nil inferInstance normc_) rfl (fun w' hm'=>(haw w' (Mem.keeps hm'))) ?_;refine tr_val (rk_not (.of rfl)) rfl ?_;refine m_v rfl rfl ?_;refine tr_vG1 rfl rfl inferInstance (fun hg hgp=>(rk_loadB (.of rfl) .here norm_ (by rfl))) rfl ?_;refine tr_callVG1 rfl rfl (fun hg=>(rk_call (.of rfl) (.cons (.ofg hg rfl) .nil) inferInstance normc_)) rfl (fun hg w' hm'=>(hsh1 w' (Mem.keeps hm'))) ?_;refine tr_vG1 rfl rfl inferInstance (fun hg hgp=>(rk_not (.ofg hgp rfl))) rfl ?_;refine tr_val (rk_pick_or (.of rfl) rfl) rfl ?_;refine m_v rfl rfl ?_;refine v_g rfl rfl rfl rfl ?_;refine tr_vG1 rfl rfl inferInstance (fun hg hgp=>(rk_len_string (.ofg hg rfl))) rfl ?_;refine tr_vG1 rfl rfl inferInstance (fun hg hgp=>(rk_gtr (.ofg hg rfl) (.of rfl))) rfl ?_;refine tr_vG1 rfl rfl inferInstance (fun hg hgp=>(rk_move (.ofg hg rfl))) rfl ?_;refine tr_vG rfl rfl inferInstance (fun hg hgp=>(rk_move (.of rfl))) rfl ?_;refine tr_vG rfl rfl inferInstance (fun hg hgp=>(rk_len_string (.ofg hg rfl))) rfl ?_;refine tr_vG rfl rfl inferInstance (fun hg hgp=>(rk_neq (.ofg hg rfl) (.of rfl))) rfl ?_;refine tr_vG1 rfl rfl inferInstance (fun hg hgp=>(rk_pick_and' hg (.ofg hg rfl) rfl)) rfl ?_;refine tr_val (rk_pick_or (.of rfl) rfl) rfl ?_;refine n_t ?_;refine c_b rfl (fun hcd=>?_) (fun hcd=>?_);refine s_r ?_;refine tr_callV (rk_call (.of rfl) .nil inferInstance normc_) rfl (fun w' hm'=>(haw w' (Mem.keeps hm'))) ?_;refine a_s rfl rfl ?_;refine n_t ?_;refine r_t ?_;refine tr_retE rfl (ends1 rfl rfl) ?_;rotate_left;refine s_t ?_;refine s_r ?_;refine tr_val (rk_loadB (.of rfl) .here norm_ (by rfl)) rfl ?_;rotate_right)
  · rfl
  rename_i b2 hb2
  have hsz:s.size ≤ 4900:=by have:=hcd.2;omega
  have hfe:=shortB_few hcd.1.2
  clear hcd
  have hOw:∀ w',Keeps [] w w' → _:=fun w' hk=>own_c (h1.keeps hk) hfe
  have hpz:chkF es ≠ 0 → prF es = ⟨#[]⟩:=fun h=>by rw [prF,if_neg h]
  have hpq:∀ w',Keeps [] w w' → chkF es = 0 → GivesV Tryz.prog 83 [.agg #[sv]] w' (.string (prF es)):=fun w' hk h0=>by
    have:=printQ_c (h1.keeps hk) (fun k hk=>(Sound.of h0).all.ok k hk) (Sound.of h0).all.few
    rwa [prF,if_pos h0]
  with_reducible apply tr_call
  case hr=>exact rk_call (.of rfl) (.cons (.of rfl) .nil) inferInstance normc_
  case hd=>rfl
  case ht=>exact Takes.nil
  case hc=>
    intro w1 fp hm1 _ hs1
    obtain rfl:fp = []:=hs1
    exact hOw w1 hm1.keeps
  intro v1 _
  dsimp only [id_eq,List.cons_append,List.nil_append]
  with_reducible apply tr_callV
  case hr=>exact rk_call (.of rfl) (.cons (.of rfl) .nil) inferInstance normc_
  case hd=>rfl
  case hc=>
    intro w' hm'
    exact print_c (rdEn hm' (by exact .here)) (hG.keeps hm'.keeps) (hT.keeps hm'.keeps)
  generalize prF es = pr at hpz hpq
  generalize chkF es = E at hpz hpq hck1
  (refine m_v rfl rfl ?_;refine tr_val (rk_extract (.of rfl) rfl) rfl ?_;refine tr_val (rk_extract (.of rfl) rfl) rfl ?_;refine a_s rfl rfl ?_;refine a_s rfl rfl ?_;refine n_r ?_;refine m_v rfl rfl ?_)
  with_reducible apply tr_call
  case hr=>exact rk_call (.of rfl) (.cons (.of rfl) .nil) inferInstance normc_
  case hd=>rfl
  case ht=>exact Takes.nil
  case hc=>
    intro w1 fp hm1 _ hs1
    obtain rfl:fp = []:=hs1
    exact parse_c hsz (hM.keeps hm1.keeps) (hG.keeps hm1.keeps)
  intro v2 _
  dsimp only [id_eq,List.cons_append,List.nil_append]
  have hfl:=txL_few (toL s)
  have hpa:∀ w',Gives Tryz.prog 84 [.string s] w' [] (fun _:Value=>True) (fun v=>.tuple #[.agg #[v],.int .i64 (txI (toL s)),.int .i64 (txE (toL s))]) (fun v=>[row 115 6 v (txL (toL s)).length (ensL (txL (toL s))).flatten]):=fun w'=>parseQ_c hsz w'
  generalize txL (toL s) = L at hfl hpa
  generalize txI (toL s) = I at hpa
  generalize txE (toL s) = T at hpa
  refine tr_rowSl (E:=138) (sz:=6) (v:=v2) (by exact .here) fun x2 y2 e2=>?_
  subst e2
  (refine m_v rfl rfl ?_;refine tr_val (rk_extract (.of rfl) rfl) rfl ?_;refine tr_val (rk_extract (.of rfl) rfl) rfl ?_;refine tr_val (rk_extract (.of rfl) rfl) rfl ?_;refine tr_new (rk_alloc rfl) rfl (fun _ _=>?_);refine tr_store (.of rfl) (.of rfl) .here rfl rfl (okc_cons rfl okc_nil) (lenb rfl) norm_ ?_;refine a_s rfl rfl ?_;refine a_s rfl rfl ?_;refine n_r ?_;refine tr_val (rk_loadB (.of rfl) (.there (.there (.there .here))) norm_ (by rfl)) rfl ?_;refine tr_callV (rk_call (.of rfl) (.cons (.of rfl) .nil) inferInstance normc_) rfl (fun w' hm'=>(hck1 w' (Mem.keeps hm'))) ?_;refine a_s rfl rfl ?_;refine n_r ?_;refine a_s rfl rfl ?_;refine n_t ?_;refine tr_seq ?_;refine s_r ?_;refine m_v rfl rfl ?_;refine tr_val (rk_eql (.of rfl) (.of rfl)) rfl ?_;refine n_t ?_;refine c_d rfl (fun hcd=>?_) (fun hcd=>?_);refine tr_region ?_;refine tr_val (rk_loadB (.of rfl) (.there (.there (.there .here))) norm_ (by rfl)) rfl ?_;rotate_left;refine s_t ?_;refine s_r ?_;refine m_v rfl rfl ?_;rotate_right)
  · rename_i b7 hb7
    with_reducible apply tr_callV
    case hr=>exact rk_call (.of rfl) (.cons (.of rfl) .nil) inferInstance normc_
    case hd=>rfl
    case hc=>
      intro w' hm'
      exact hpq w' hm'.keeps hcd
    subst hcd
    (refine a_s rfl rfl ?_;refine n_r ?_;refine m_v rfl rfl ?_)
    with_reducible apply tr_call
    case hr=>exact rk_call (.of rfl) (.cons (.of rfl) .nil) inferInstance normc_
    case hd=>rfl
    case ht=>exact Takes.nil
    case hc=>
      intro w1 fp hm1 _ hs1
      obtain rfl:fp = []:=hs1
      exact hpa w1
    intro v3 _
    dsimp only [id_eq,List.cons_append,List.nil_append]
    refine tr_rowSl (E:=115) (sz:=6) (v:=v3) (by exact .here) fun x3 y3 e3=>?_
    subst e3
    (refine m_v rfl rfl ?_;refine tr_val (rk_extract (.of rfl) rfl) rfl ?_;refine tr_val (rk_extract (.of rfl) rfl) rfl ?_;refine tr_val (rk_extract (.of rfl) rfl) rfl ?_;refine tr_new (rk_alloc rfl) rfl (fun _ _=>?_);refine tr_store (.of rfl) (.of rfl) .here rfl rfl (okc_cons rfl okc_nil) (lenb rfl) norm_ ?_;refine a_s rfl rfl ?_;refine a_s rfl rfl ?_;refine n_t ?_;refine tr_seq ?_)
    rename_i b12 hb12
    with_reducible refine tr_drawM 25 (by kernel_rfl) ?_
    (refine am_val (fun β=>(rk_move (.of rfl))) ind0w rfl ?_;refine am_val (fun β=>(rk_move (.of rfl))) ind0w rfl ?_;refine am_val (fun β=>(rk_eqlsT (.of rfl) (.of rfl) rfl)) ind0w rfl ?_;refine am_val (fun β=>(rk_move (.of rfl))) ind0w rfl ?_;refine am_gOn rfl (fun _=>rfl) ?_;refine am_val (fun β=>(rk_move (.of rfl))) ind0w rfl ?_;refine am_gOn rfl (fun _=>rfl) ?_;refine am_val (fun β=>(rk_move (.of rfl))) ind0w rfl ?_;refine am_gOn rfl (fun _=>rfl) ?_;refine am_val (fun β=>(rk_eqliT (.of rfl) (.of rfl) rfl)) ind0w rfl ?_;refine am_val (fun β=>(rk_pickB (.of rfl) (.of rfl) (.of rfl) rfl)) ind0w rfl ?_;refine am_val (fun β=>(rk_move (.of rfl))) ind0w rfl ?_;refine am_gOn rfl (fun _=>rfl) ?_;refine am_val (fun β=>(rk_loadB (.of rfl) (.there (.there .here)) norm_ (by rfl))) ind0w rfl ?_)
    dsimp only [Nat.zero_add,Nat.reduceAdd]
    refine am_gOn rfl (fun _=>rfl) ?_
    with_reducible apply am_call (ι:=Value) (Φ:=fun _=>True) (val:=fun v=>.agg #[v]) (own:=fun v=>[row 115 6 v L.length (enR L L.length)]) (g:=id) (B:=[]) (args:=fun _=>[.agg #[.slice x2 L.length y2]])
    case hg=>exact fun x=>⟨x,rfl⟩
    case hB=>rfl
    case hr=>exact fun β=>rk_call (.of rfl) (.cons (.of rfl) .nil) inferInstance rfl
    case hd=>rfl
    case hc=>exact fun β w' hb=>told_c (rdEnF (v:=.slice x2 L.length y2) hb.mem (by exact Take.there (.there (.there .here))) rfl) hfl
    dsimp only [id_eq,Nat.reduceAdd]
    (refine am_gOn rfl (fun _=>rfl) ?_;refine am_val (fun β=>(rk_loadB (.of rfl) .here norm_ (by rfl))) ind0w rfl ?_)
    dsimp only [Nat.reduceAdd]
    refine am_gOn rfl (fun _=>rfl) ?_
    with_reducible apply am_callV (B:=[10]) (F:=fun _=>.bool true) (args:=fun β=>[.agg #[β 10],.agg #[.slice x3 L.length y3]])
    case hB=>kernel_rfl
    case hr=>exact fun β=>rk_call (.of rfl) (.cons (.of rfl) (.cons (.of rfl) .nil)) inferInstance rfl
    case hi=>exact ind0w
    case hd=>rfl
    case hc=>
      intro β w' hb
      have m10:=hb.at 10 (by simp) (s:=⟨fun β=>.agg #[β 10],fun β=>[row 115 6 (β 10) L.length (enR L L.length)]⟩) (by kernel_rfl)
      dsimp only [List.cons_append,List.nil_append] at m10
      have:=sameQ_c (rdEn m10 (by exact .here)) (rdEnF (v:=.slice x3 L.length y3) hb.mem (by exact Take.there .here) rfl)
      rwa [decide_eq_true rfl] at this
    (refine am_val (fun β=>(rk_pickB (.of rfl) (.of rfl) (.of rfl) rfl)) ind0w rfl ?_;refine am_val (fun β=>(rk_move (.of rfl))) ind0w rfl ?_;refine am_gOn rfl (fun _=>rfl) ?_;refine am_val (fun β=>(rk_move (.of rfl))) ind0w rfl ?_;refine am_gOn rfl (fun _=>rfl) ?_;refine am_val (fun β=>(rk_move (.of rfl))) ind0w rfl ?_;refine am_gOn rfl (fun _=>rfl) ?_;refine am_val (fun β=>(rk_eqliT (.of rfl) (.of rfl) rfl)) ind0w rfl ?_;refine am_val (fun β=>(rk_pickB (.of rfl) (.of rfl) (.of rfl) rfl)) ind0w rfl ?_;refine am_val (fun β=>(rk_move (.of rfl))) ind0w rfl ?_;refine am_gOn rfl (fun _=>rfl) ?_;refine am_val (fun β=>(rk_move (.of rfl))) ind0w rfl ?_;refine am_gOn rfl (fun _=>rfl) ?_;refine am_val (fun β=>(rk_move (.of rfl))) ind0w rfl ?_;refine am_gOn rfl (fun _=>rfl) ?_;refine am_val (fun β=>(rk_eqliT (.of rfl) (.of rfl) rfl)) ind0w rfl ?_;refine am_val (fun β=>(rk_pickB (.of rfl) (.of rfl) (.of rfl) rfl)) ind0w rfl ?_;refine am_val (fun β=>(rk_assign (.of rfl))) ind0w rfl ?_)
    refine am_end fun β=>?_
    dsimp only [resAll,List.nil_append,List.cons_append,List.append_eq,Nat.reduceAdd]
    with_reducible refine left_done (by kernel_rfl) ?_
    (refine tr_then ?_;refine tr_ret ?_;refine tr_retE rfl (ends1 rfl rfl) ?_)
    rfl
  · rename_i b7 hb7
    obtain rfl:=hpz hcd
    skip
    with_reducible apply tr_call
    case hr=>exact rk_call (.of rfl) (.cons (.of rfl) .nil) inferInstance normc_
    case hd=>rfl
    case ht=>exact Takes.nil
    case hc=>
      intro w1 fp hm1 _ hs1
      obtain rfl:fp = []:=hs1
      exact hpa w1
    intro v3 _
    dsimp only [id_eq,List.cons_append,List.nil_append]
    refine tr_rowSl (E:=115) (sz:=6) (v:=v3) (by exact .here) fun x3 y3 e3=>?_
    subst e3
    (refine m_v rfl rfl ?_;refine tr_val (rk_extract (.of rfl) rfl) rfl ?_;refine tr_val (rk_extract (.of rfl) rfl) rfl ?_;refine tr_val (rk_extract (.of rfl) rfl) rfl ?_;refine tr_new (rk_alloc rfl) rfl (fun _ _=>?_);refine tr_store (.of rfl) (.of rfl) .here rfl rfl (okc_cons rfl okc_nil) (lenb rfl) norm_ ?_;refine a_s rfl rfl ?_;refine a_s rfl rfl ?_;refine n_t ?_;refine tr_seq ?_)
    rename_i b12 hb12
    with_reducible refine tr_drawM 25 (by kernel_rfl) ?_
    (refine am_val (fun β=>(rk_move (.of rfl))) ind0w rfl ?_;refine am_val (fun β=>(rk_move (.of rfl))) ind0w rfl ?_;refine am_val (fun β=>(rk_eqlsT (.of rfl) (.of rfl) rfl)) ind0w rfl ?_;refine am_val (fun β=>(rk_move (.of rfl))) ind0w rfl ?_;refine am_gOn rfl (fun _=>rfl) ?_;refine am_val (fun β=>(rk_move (.of rfl))) ind0w rfl ?_;refine am_gOn rfl (fun _=>rfl) ?_;refine am_val (fun β=>(rk_move (.of rfl))) ind0w rfl ?_;refine am_gOn rfl (fun _=>rfl) ?_;refine am_val (fun β=>(rk_eqliT (.of rfl) (.of rfl) rfl)) ind0w rfl ?_;refine am_val (fun β=>(rk_pickB (.of rfl) (.of rfl) (.of rfl) rfl)) ind0w rfl ?_;refine am_val (fun β=>(rk_move (.of rfl))) ind0w rfl ?_;refine am_gOn rfl (fun _=>rfl) ?_;refine am_val (fun β=>(rk_loadB (.of rfl) (.there (.there .here)) norm_ (by rfl))) ind0w rfl ?_)
    dsimp only [Nat.zero_add,Nat.reduceAdd]
    refine am_gOn rfl (fun _=>rfl) ?_
    with_reducible apply am_call (ι:=Value) (Φ:=fun _=>True) (val:=fun v=>.agg #[v]) (own:=fun v=>[row 115 6 v L.length (enR L L.length)]) (g:=id) (B:=[]) (args:=fun _=>[.agg #[.slice x2 L.length y2]])
    case hg=>exact fun x=>⟨x,rfl⟩
    case hB=>rfl
    case hr=>exact fun β=>rk_call (.of rfl) (.cons (.of rfl) .nil) inferInstance rfl
    case hd=>rfl
    case hc=>exact fun β w' hb=>told_c (rdEnF (v:=.slice x2 L.length y2) hb.mem (by exact Take.there (.there (.there .here))) rfl) hfl
    dsimp only [id_eq,Nat.reduceAdd]
    (refine am_gOn rfl (fun _=>rfl) ?_;refine am_val (fun β=>(rk_loadB (.of rfl) .here norm_ (by rfl))) ind0w rfl ?_)
    dsimp only [Nat.reduceAdd]
    refine am_gOn rfl (fun _=>rfl) ?_
    with_reducible apply am_callV (B:=[10]) (F:=fun _=>.bool true) (args:=fun β=>[.agg #[β 10],.agg #[.slice x3 L.length y3]])
    case hB=>kernel_rfl
    case hr=>exact fun β=>rk_call (.of rfl) (.cons (.of rfl) (.cons (.of rfl) .nil)) inferInstance rfl
    case hi=>exact ind0w
    case hd=>rfl
    case hc=>
      intro β w' hb
      have m10:=hb.at 10 (by simp) (s:=⟨fun β=>.agg #[β 10],fun β=>[row 115 6 (β 10) L.length (enR L L.length)]⟩) (by kernel_rfl)
      dsimp only [List.cons_append,List.nil_append] at m10
      have:=sameQ_c (rdEn m10 (by exact .here)) (rdEnF (v:=.slice x3 L.length y3) hb.mem (by exact Take.there .here) rfl)
      rwa [decide_eq_true rfl] at this
    (refine am_val (fun β=>(rk_pickB (.of rfl) (.of rfl) (.of rfl) rfl)) ind0w rfl ?_;refine am_val (fun β=>(rk_move (.of rfl))) ind0w rfl ?_;refine am_gOn rfl (fun _=>rfl) ?_;refine am_val (fun β=>(rk_move (.of rfl))) ind0w rfl ?_;refine am_gOn rfl (fun _=>rfl) ?_;refine am_val (fun β=>(rk_move (.of rfl))) ind0w rfl ?_;refine am_gOn rfl (fun _=>rfl) ?_;refine am_val (fun β=>(rk_eqliT (.of rfl) (.of rfl) rfl)) ind0w rfl ?_;refine am_val (fun β=>(rk_pickB (.of rfl) (.of rfl) (.of rfl) rfl)) ind0w rfl ?_;refine am_val (fun β=>(rk_move (.of rfl))) ind0w rfl ?_;refine am_gOn rfl (fun _=>rfl) ?_;refine am_val (fun β=>(rk_move (.of rfl))) ind0w rfl ?_;refine am_gOn rfl (fun _=>rfl) ?_;refine am_val (fun β=>(rk_move (.of rfl))) ind0w rfl ?_;refine am_gOn rfl (fun _=>rfl) ?_;refine am_val (fun β=>(rk_eqliT (.of rfl) (.of rfl) rfl)) ind0w rfl ?_;refine am_val (fun β=>(rk_pickB (.of rfl) (.of rfl) (.of rfl) rfl)) ind0w rfl ?_;refine am_val (fun β=>(rk_assign (.of rfl))) ind0w rfl ?_)
    refine am_end fun β=>?_
    dsimp only [resAll,List.nil_append,List.cons_append,List.append_eq,Nat.reduceAdd]
    with_reducible refine left_done (by kernel_rfl) ?_
    (refine tr_then ?_;refine tr_ret ?_;refine tr_retE rfl (ends1 rfl rfl) ?_)
    rfl
end Go.Proofs.A1
