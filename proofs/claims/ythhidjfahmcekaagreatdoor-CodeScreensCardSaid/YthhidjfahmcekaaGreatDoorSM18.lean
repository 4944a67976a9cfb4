/- Parts of the proof: U28 U36 U39 U37 U3A U3H. -/
import Derived.Test.YthhidjfahmcekaaGreatDoorSM17
import Derived.Test.YthhidjfahmcekaaGreatDoorSM06
set_option linter.unusedSectionVars false
set_option linter.unusedVariables false
set_option linter.unusedSimpArgs false
namespace Go.Proofs.A1
open Go Go.SL
theorem tr_cutW {c:Cx} {D:List Nat} {sl:Slots} {hs rest:List Asn} {X:Act → World → Prop} (sl2:Slots) (hs2:List Asn) (h1:Subs sl sl2) (ht:Takes hs hs2 rest) (k:Tr c D sl2 hs2 X):Tr c D sl hs X:=fun a w hst=>k a w (hst.weaken h1 ht)
theorem rk_pickB {P:Program} {c:Cx} {sl:Slots} {hs:List Asn} {dst:Option Tmp} {ty:TypeId} {pos:String} {af:Array Edge} {g:Option (Nat × Bool)} {x y z:Operand} {q:Bool} {v u V:Value} (hx:Is sl x (.bool q)) (hy:Is sl y v) (hz:Is sl z u) (e:(bif q then v else u) = V):RunV P c sl hs ⟨dst,.pick x y z,ty,pos,af,g⟩ V:=e ▸ rk_pick hx hy hz
theorem tr_cutH {c:Cx} {D:List Nat} {sl:Slots} {hs rest:List Asn} {X:Act → World → Prop} (hs2:List Asn) (ht:Takes hs hs2 rest) (k:Tr c D sl hs2 X):Tr c D sl hs X:=fun a w hst=>k a w (hst.heap (by
  have h1:=hst.mem.takes (ht.append (mks D))
  obtain ⟨kk,fp,hn,hsat,hb⟩:=h1
  obtain ⟨f1,f23,rfl,g1,g23⟩:=Sats.append_iff.1 hsat
  obtain ⟨f2,f3,rfl,g2,g3⟩:=Sats.append_iff.1 g23
  obtain ⟨n1,n23,n12⟩:=List.nodup_append.1 hn
  obtain ⟨n2,n3,n4⟩:=List.nodup_append.1 n23
  exact ⟨kk,f1++f3,List.nodup_append.2 ⟨n1,n3,fun x hx y hy=>n12 x hx y (List.mem_append_right _ hy)⟩,Sats.append_iff.2 ⟨f1,f3,rfl,g1,g3⟩,fun b hb'=>hb b (by
    rcases List.mem_append.1 hb' with h | h
    · exact List.mem_append_left _ h
    · exact List.mem_append_right _ (List.mem_append_right _ h))⟩))
set_option maxHeartbeats 8000000 in
theorem awake_c (w:World) (hG:GlobR w) (hT:Tab10 w):GivesV Tryz.prog 27 [] w (.bool true):=by
  refine givesV_of_tr Tryz.func27 rfl rfl ?_
  (refine s_r ?_;refine a_s rfl rfl ?_;refine n_r ?_;refine tr_callV (rk_call (.of rfl) .nil inferInstance normc_) rfl (fun w' hm'=>(drop_l w')) ?_;refine tr_callV (rk_call (.of rfl) (.cons (.of rfl) .nil) inferInstance normc_) rfl (fun w' hm'=>(aw_day w' (GlobR.keeps hG (Mem.keeps hm')))) ?_;refine m_v rfl rfl ?_;refine tr_val (rk_extract (.of rfl) rfl) rfl ?_;refine tr_val (rk_extract (.of rfl) rfl) rfl ?_;refine a_s rfl rfl ?_;refine a_s rfl rfl ?_;refine n_r ?_;refine tr_callV (rk_call (.of rfl) .nil inferInstance normc_) rfl (fun w' hm'=>(drop_l w')) ?_;refine tr_val (rk_buildL (.cons (.of rfl) (.cons (.of rfl) .nil)) norm_) rfl ?_;refine tr_callV (rk_call (.of rfl) (.cons (.of rfl) (.cons (.of rfl) .nil)) inferInstance normc_) rfl (fun w' hm'=>(aw_fr1 w' (GlobR.keeps hG (Mem.keeps hm')))) ?_;refine m_v rfl rfl ?_;refine tr_val (rk_extract (.of rfl) rfl) rfl ?_;refine tr_val (rk_extract (.of rfl) rfl) rfl ?_;refine a_s rfl rfl ?_;refine a_s rfl rfl ?_;refine n_r ?_;refine tr_callV (rk_call (.of rfl) .nil inferInstance normc_) rfl (fun w' hm'=>(drop_l w')) ?_;refine tr_callV (rk_call (.of rfl) (.cons (.of rfl) (.cons (.of rfl) .nil)) inferInstance normc_) rfl (fun w' hm'=>(aw_lof w' (GlobR.keeps hG (Mem.keeps hm')))) ?_;refine m_v rfl rfl ?_;refine tr_val (rk_extract (.of rfl) rfl) rfl ?_;refine tr_val (rk_extract (.of rfl) rfl) rfl ?_;refine tr_new (rk_alloc rfl) rfl (fun _ _=>?_);refine tr_store (.of rfl) (.of rfl) .here rfl rfl (okc_cons rfl (okc_cons rfl (okc_cons rfl (okc_cons rfl okc_nil)))) (lenb rfl) norm_ ?_;refine a_s rfl rfl ?_;refine n_r ?_;refine tr_callV (rk_call (.of rfl) .nil inferInstance normc_) rfl (fun w' hm'=>(drop_l w')) ?_;refine tr_val (rk_buildL (.cons (.of rfl) .nil) norm_) rfl ?_;refine tr_callV (rk_call (.of rfl) (.cons (.of rfl) (.cons (.of rfl) .nil)) inferInstance normc_) rfl (fun w' hm'=>(aw_fr2 w' (GlobR.keeps hG (Mem.keeps hm')))) ?_;refine m_v rfl rfl ?_;refine tr_val (rk_extract (.of rfl) rfl) rfl ?_;refine tr_val (rk_extract (.of rfl) rfl) rfl ?_;refine a_s rfl rfl ?_;refine a_s rfl rfl ?_;refine n_r ?_;refine tr_callV (rk_call (.of rfl) .nil inferInstance normc_) rfl (fun w' hm'=>(drop_l w')) ?_;refine tr_val (rk_buildL (.cons (.of rfl) .nil) norm_) rfl ?_;refine tr_callV (rk_call (.of rfl) (.cons (.of rfl) (.cons (.of rfl) .nil)) inferInstance normc_) rfl (fun w' hm'=>(aw_fr3 w' (GlobR.keeps hG (Mem.keeps hm')))) ?_;refine m_v rfl rfl ?_;refine tr_val (rk_extract (.of rfl) rfl) rfl ?_;refine tr_val (rk_extract (.of rfl) rfl) rfl ?_;refine a_s rfl rfl ?_;refine a_s rfl rfl ?_;refine n_r ?_;refine tr_val (rk_buildL (.cons (.of rfl) .nil) norm_) rfl ?_;refine tr_val (rk_buildL (.cons (.of rfl) (.cons (.of rfl) (.cons (.of rfl) (.cons (.of rfl) .nil)))) norm_) rfl ?_;refine tr_callV (rk_call (.of rfl) (.cons (.of rfl) (.cons (.of rfl) (.cons (.of rfl) .nil))) inferInstance normc_) rfl (fun w' hm'=>(aw_ad1 w' (GlobR.keeps hG (Mem.keeps hm')))) ?_;refine m_v rfl rfl ?_;refine tr_val (rk_extract (.of rfl) rfl) rfl ?_;refine tr_val (rk_extract (.of rfl) rfl) rfl ?_;refine tr_new (rk_alloc rfl) rfl (fun _ _=>?_);refine tr_store (.of rfl) (.of rfl) .here rfl rfl (okc_cons rfl (okc_cons rfl (okc_cons rfl (okc_cons rfl okc_nil)))) (lenb rfl) norm_ ?_;refine a_s rfl rfl ?_;refine n_r ?_;refine tr_callV (rk_call (.of rfl) .nil inferInstance normc_) rfl (fun w' hm'=>(drop_l w')) ?_;refine tr_val (rk_buildL .nil norm_) rfl ?_;refine tr_callV (rk_call (.of rfl) (.cons (.of rfl) (.cons (.of rfl) (.cons (.of rfl) .nil))) inferInstance normc_) rfl (fun w' hm'=>(aw_ad2 w' (GlobR.keeps hG (Mem.keeps hm')))) ?_;refine m_v rfl rfl ?_;refine tr_val (rk_extract (.of rfl) rfl) rfl ?_;refine tr_val (rk_extract (.of rfl) rfl) rfl ?_;refine tr_new (rk_alloc rfl) rfl (fun _ _=>?_);refine tr_store (.of rfl) (.of rfl) .here rfl rfl (okc_cons rfl (okc_cons rfl (okc_cons rfl (okc_cons rfl okc_nil)))) (lenb rfl) norm_ ?_;refine a_s rfl rfl ?_;refine n_r ?_;refine tr_callV (rk_call (.of rfl) .nil inferInstance normc_) rfl (fun w' hm'=>(stamp_l w')) ?_;refine tr_callV (rk_call (.of rfl) (.cons (.of rfl) .nil) inferInstance normc_) rfl (fun w' hm'=>(aw_wr w' (GlobR.keeps hG (Mem.keeps hm')))) ?_;refine m_v rfl rfl ?_;refine tr_val (rk_extract (.of rfl) rfl) rfl ?_;refine tr_val (rk_extract (.of rfl) rfl) rfl ?_;refine tr_new (rk_alloc rfl) rfl (fun _ _=>?_);refine tr_store (.of rfl) (.of rfl) .here rfl rfl (okc_cons rfl (okc_cons rfl (okc_cons rfl (okc_cons rfl (okc_cons rfl (okc_cons rfl (okc_cons rfl (okc_cons rfl (okc_cons rfl (okc_cons rfl okc_nil)))))))))) (lenb rfl) norm_ ?_;refine a_s rfl rfl ?_;refine n_t ?_;refine tr_seq ?_)
  rename_i b5 hb5 b11 hb11 b13 hb13 b15 hb15
  generalize hQ:Exit.then _ _ = Q
  suffices hk:∀ (v17 v18:Value),Tr _ _ [(17,v17),(18,v18),(19,.int .i64 0),(1,.int .i64 2589408),(2,.int .i64 0),(3,.int .i64 1799),(4,.int .i64 0),(5,.pointer (some ⟨b5,0,none⟩)),(6,.int .i64 0),(7,.int .i64 17982),(8,.int .i64 0),(10,.int .i64 7),(11,.pointer (some ⟨b11,0,none⟩)),(12,.int .i64 0),(13,.pointer (some ⟨b13,0,none⟩)),(14,.int .i64 0),(15,.pointer (some ⟨b15,0,none⟩)),(16,.int .i64 0)] [row 55 7 v17 1 stmA.cells,row 3 1 v18 1 [.int .i64 10],blk b5 (.cells #[.int .i64 0,.int .i64 1,.int .i64 0,.int .i64 2] 32 (0,0)),blk b11 (.cells #[.int .i64 0,.int .i64 0,.int .i64 0,.int .i64 0] 32 (0,0)),blk b13 (.cells #[.int .i64 23,.int .i64 59,.int .i64 59,.int .i64 29] 32 (0,0)),blk b15 (.cells #[.int .u8 4,.int .u8 3,.int .u8 2,.int .u8 1,.int .u8 158,.int .u8 1,.int .u8 2,.int .u8 153,.int .u8 63,.int .u8 253] 51 (0,0))] (Q .normal) by
    with_reducible refine tr_left 13 rfl ?_
    refine left_take 3 rfl kr_ kr_ kr_ (fun w ρ=>rfl) (fun w=>(rk_sliceA (.of rfl))) rfl ?_
    refine left_ready (rs:=[0,1]) (by kernel_rfl) (by simp) (List.forall_mem_cons.2 ⟨?_,List.forall_mem_cons.2 ⟨?_,fun _ h=>absurd h List.not_mem_nil⟩⟩)
    · refine next_step rfl ?_
      (refine tr_new (rk_sliceLit (.cons (.of rfl) .nil) rfl rfl rfl rfl) rfl (fun _ _=>?_);refine n_t ?_)
      rename_i g0 hg0
      refine left_ready (rs:=[1]) (by kernel_rfl) (by simp) (List.forall_mem_cons.2 ⟨?_,fun _ h=>absurd h List.not_mem_nil⟩)
      refine next_step rfl ?_
      (refine tr_new (rk_sliceLit (.cons (.of rfl) (.cons (.of rfl) (.cons (.of rfl) (.cons (.of rfl) (.cons (.of rfl) (.cons (.of rfl) (.cons (.of rfl) (.cons (.of rfl) (.cons (.of rfl) .nil))))))))) rfl rfl rfl rfl) rfl (fun _ _=>?_);refine n_t ?_)
      rename_i g1 hg1
      refine tr_rowLitE (g:=g0) (E:=5) (ys:=[.int .u8 7]) 1 1 (by exact Take.there .here) (by exact rfl) rfl rfl ?_
      refine left_ready (rs:=[2]) (by kernel_rfl) (by simp) (List.forall_mem_cons.2 ⟨?_,fun _ h=>absurd h List.not_mem_nil⟩)
      refine next_step rfl ?_
      refine tr_appendB (.of rfl) (.of rfl) .here (.there .here) norm_ (by rfl) (okc_cons rfl (okc_cons rfl (okc_cons rfl (okc_cons rfl (okc_cons rfl (okc_cons rfl (okc_cons rfl (okc_cons rfl (okc_cons rfl okc_nil))))))))) (by rfl) (by rfl) (by rfl) lenx_ (by rfl) ?_
      intro v90
      (refine n_t ?_)
      refine left_ready (rs:=[4]) (by kernel_rfl) (by simp) (List.forall_mem_cons.2 ⟨?_,fun _ h=>absurd h List.not_mem_nil⟩)
      refine next_step rfl ?_
      refine tr_appendB (.of rfl) (.of rfl) .here (.there (.there .here)) norm_ (by rfl) (okc_cons rfl (okc_cons rfl (okc_cons rfl (okc_cons rfl (okc_cons rfl (okc_cons rfl (okc_cons rfl (okc_cons rfl (okc_cons rfl (okc_cons rfl okc_nil)))))))))) (by rfl) (by rfl) (by rfl) lenx_ (by rfl) ?_
      intro v92
      (refine n_t ?_)
      refine left_ready (rs:=[5]) (by kernel_rfl) (by simp) (List.forall_mem_cons.2 ⟨?_,fun _ h=>absurd h List.not_mem_nil⟩)
      refine next_step rfl ?_
      with_reducible apply tr_call
      case hr=>exact rk_call (.of rfl) (.cons (.of rfl) .nil) inferInstance normc_
      case hd=>rfl
      case ht=>exact Takes.nil
      case hc=>
        intro w1 fp hm1 _ hs1
        obtain rfl:fp = []:=hs1
        exact aw_fnd (Mem.rdRow (v:=v92) (E:=5) (sz:=1) (xs:=byts strA) hm1 (by exact .here) (by exact rfl) (byts_sz _) (by exact rfl)) (hG.keeps hm1.keeps)
      rintro ⟨v17,v18⟩ _
      dsimp only [id_eq,List.cons_append,List.nil_append]
      (refine n_t ?_)
      (refine left_take 6 rfl kr_ kr_ kr_ (fun w ρ=>rfl) (fun w=>(rk_move (.of rfl))) rfl ?_;refine left_take 7 rfl kr_ kr_ kr_ (fun w ρ=>rfl) (fun w=>(rk_extract (.of rfl) rfl)) rfl ?_;refine left_take 8 rfl kr_ kr_ kr_ (fun w ρ=>rfl) (fun w=>(rk_extract (.of rfl) rfl)) rfl ?_;refine left_take 9 rfl kr_ kr_ kr_ (fun w ρ=>rfl) (fun w=>(rk_extract (.of rfl) rfl)) rfl ?_;refine left_take 10 rfl kr_ kr_ kr_ (fun w ρ=>rfl) (fun w=>(rk_assign (.of rfl))) rfl ?_;refine left_take 11 rfl kr_ kr_ kr_ (fun w ρ=>rfl) (fun w=>(rk_assign (.of rfl))) rfl ?_;refine left_take 12 rfl kr_ kr_ kr_ (fun w ρ=>rfl) (fun w=>(rk_assign (.of rfl))) rfl ?_)
      with_reducible refine left_done (by kernel_rfl) ?_
      exact tr_cutW _ _ (by exact .cons rfl (.cons rfl (.cons rfl (.cons rfl (.cons rfl (.cons rfl (.cons rfl (.cons rfl (.cons rfl (.cons rfl (.cons rfl (.cons rfl (.cons rfl (.cons rfl (.cons rfl (.cons rfl (.cons rfl (.cons rfl .nil)))))))))))))))))) (by exact .cons .here (.cons .here (.cons (.there (.there (.there (.there (.there .here))))) (.cons (.there (.there (.there (.there .here)))) (.cons (.there (.there (.there .here))) (.cons (.there (.there .here)) .nil)))))) (hk v17 v18)
    · refine next_step rfl ?_
      (refine tr_new (rk_sliceLit (.cons (.of rfl) (.cons (.of rfl) (.cons (.of rfl) (.cons (.of rfl) (.cons (.of rfl) (.cons (.of rfl) (.cons (.of rfl) (.cons (.of rfl) (.cons (.of rfl) .nil))))))))) rfl rfl rfl rfl) rfl (fun _ _=>?_);refine n_t ?_)
      rename_i g1 hg1
      refine left_ready (rs:=[0]) (by kernel_rfl) (by simp) (List.forall_mem_cons.2 ⟨?_,fun _ h=>absurd h List.not_mem_nil⟩)
      refine next_step rfl ?_
      (refine tr_new (rk_sliceLit (.cons (.of rfl) .nil) rfl rfl rfl rfl) rfl (fun _ _=>?_);refine n_t ?_)
      rename_i g0 hg0
      refine tr_rowLitE (g:=g0) (E:=5) (ys:=[.int .u8 7]) 1 1 (by exact .here) (by exact rfl) rfl rfl ?_
      refine left_ready (rs:=[2]) (by kernel_rfl) (by simp) (List.forall_mem_cons.2 ⟨?_,fun _ h=>absurd h List.not_mem_nil⟩)
      refine next_step rfl ?_
      refine tr_appendB (.of rfl) (.of rfl) .here (.there .here) norm_ (by rfl) (okc_cons rfl (okc_cons rfl (okc_cons rfl (okc_cons rfl (okc_cons rfl (okc_cons rfl (okc_cons rfl (okc_cons rfl (okc_cons rfl okc_nil))))))))) (by rfl) (by rfl) (by rfl) lenx_ (by rfl) ?_
      intro v90
      (refine n_t ?_)
      refine left_ready (rs:=[4]) (by kernel_rfl) (by simp) (List.forall_mem_cons.2 ⟨?_,fun _ h=>absurd h List.not_mem_nil⟩)
      refine next_step rfl ?_
      refine tr_appendB (.of rfl) (.of rfl) .here (.there (.there .here)) norm_ (by rfl) (okc_cons rfl (okc_cons rfl (okc_cons rfl (okc_cons rfl (okc_cons rfl (okc_cons rfl (okc_cons rfl (okc_cons rfl (okc_cons rfl (okc_cons rfl okc_nil)))))))))) (by rfl) (by rfl) (by rfl) lenx_ (by rfl) ?_
      intro v92
      (refine n_t ?_)
      refine left_ready (rs:=[5]) (by kernel_rfl) (by simp) (List.forall_mem_cons.2 ⟨?_,fun _ h=>absurd h List.not_mem_nil⟩)
      refine next_step rfl ?_
      with_reducible apply tr_call
      case hr=>exact rk_call (.of rfl) (.cons (.of rfl) .nil) inferInstance normc_
      case hd=>rfl
      case ht=>exact Takes.nil
      case hc=>
        intro w1 fp hm1 _ hs1
        obtain rfl:fp = []:=hs1
        exact aw_fnd (Mem.rdRow (v:=v92) (E:=5) (sz:=1) (xs:=byts strA) hm1 (by exact .here) (by exact rfl) (byts_sz _) (by exact rfl)) (hG.keeps hm1.keeps)
      rintro ⟨v17,v18⟩ _
      dsimp only [id_eq,List.cons_append,List.nil_append]
      (refine n_t ?_)
      (refine left_take 6 rfl kr_ kr_ kr_ (fun w ρ=>rfl) (fun w=>(rk_move (.of rfl))) rfl ?_;refine left_take 7 rfl kr_ kr_ kr_ (fun w ρ=>rfl) (fun w=>(rk_extract (.of rfl) rfl)) rfl ?_;refine left_take 8 rfl kr_ kr_ kr_ (fun w ρ=>rfl) (fun w=>(rk_extract (.of rfl) rfl)) rfl ?_;refine left_take 9 rfl kr_ kr_ kr_ (fun w ρ=>rfl) (fun w=>(rk_extract (.of rfl) rfl)) rfl ?_;refine left_take 10 rfl kr_ kr_ kr_ (fun w ρ=>rfl) (fun w=>(rk_assign (.of rfl))) rfl ?_;refine left_take 11 rfl kr_ kr_ kr_ (fun w ρ=>rfl) (fun w=>(rk_assign (.of rfl))) rfl ?_;refine left_take 12 rfl kr_ kr_ kr_ (fun w ρ=>rfl) (fun w=>(rk_assign (.of rfl))) rfl ?_)
      with_reducible refine left_done (by kernel_rfl) ?_
      exact tr_cutW _ _ (by exact .cons rfl (.cons rfl (.cons rfl (.cons rfl (.cons rfl (.cons rfl (.cons rfl (.cons rfl (.cons rfl (.cons rfl (.cons rfl (.cons rfl (.cons rfl (.cons rfl (.cons rfl (.cons rfl (.cons rfl (.cons rfl .nil)))))))))))))))))) (by exact .cons .here (.cons .here (.cons (.there (.there (.there (.there (.there .here))))) (.cons (.there (.there (.there (.there .here)))) (.cons (.there (.there (.there .here))) (.cons (.there (.there .here)) .nil)))))) (hk v17 v18)
  subst hQ
  intro v17 v18
  (refine tr_then ?_;refine s_r ?_;refine tr_new (rk_sliceLit (.cons (.of rfl) (.cons (.of rfl) .nil)) rfl rfl rfl rfl) rfl (fun _ _=>?_))
  with_reducible apply tr_call
  case hr=>exact rk_call (.of rfl) (.cons (.of rfl) .nil) inferInstance normc_
  case hd=>rfl
  case ht=>exact Takes.nil
  case hc=>
    intro w1 fp hm1 _ hs1
    obtain rfl:fp = []:=hs1
    exact aw_rev (Mem.rdBlk hm1 (by exact .here) rfl rfl)
  intro v20 _
  dsimp only [id_eq,List.cons_append,List.nil_append]
  (refine m_v rfl rfl ?_;refine tr_val (rk_extract (.of rfl) rfl) rfl ?_;refine tr_val (rk_extract (.of rfl) rfl) rfl ?_;refine a_s rfl rfl ?_;refine a_s rfl rfl ?_;refine n_t ?_;refine tr_seq ?_;refine tr_seq ?_)
  refine tr_rowOpen (E:=55) (sz:=7) (v:=v17) (by exact Take.there (.there .here)) (Nat.zero_lt_one) ?_
  rintro g17 c17 cur17 e17 hcap17 _ _ _
  subst e17
  refine tr_rowOpen (E:=5) (sz:=1) (v:=v20) (by exact Take.there .here) (Nat.zero_lt_two) ?_
  rintro g20 c20 cur20 e20 hcap20 _ _ _
  subst e20
  have hc17:cellsAt (stmA.cells++cur17) (0 * 7) 7 = [.int .i64 30,.bool true,.int .i64 1,.int .i64 2,.int .i64 3,.int .i64 4,.int .i64 258]:=by rw [cellsAt_eq];rfl
  with_reducible refine tr_drawM 77 (by kernel_rfl) ?_
  dsimp only [List.append]
  (refine am_val (fun β=>(rk_move (.of rfl))) ind0 rfl ?_;refine am_val (fun β=>(rk_move (.of rfl))) ind0 rfl ?_;refine am_val (fun β=>(rk_add (.of rfl) (.of rfl) (ini (by omega)))) ind0 rfl ?_;refine am_val (fun β=>(rk_move (.of rfl))) ind0 rfl ?_;refine am_val (fun β=>(rk_add (.of rfl) (.of rfl) (ini (by omega)))) ind0 rfl ?_;refine am_val (fun β=>(rk_move (.of rfl))) ind0 rfl ?_;refine am_val (fun β=>(rk_add (.of rfl) (.of rfl) (ini (by omega)))) ind0 rfl ?_;refine am_val (fun β=>(rk_move (.of rfl))) ind0 rfl ?_;refine am_val (fun β=>(rk_add (.of rfl) (.of rfl) (ini (by omega)))) ind0 rfl ?_;refine am_val (fun β=>(rk_move (.of rfl))) ind0 rfl ?_;refine am_val (fun β=>(rk_add (.of rfl) (.of rfl) (ini (by omega)))) ind0 rfl ?_;refine am_val (fun β=>(rk_move (.of rfl))) ind0 rfl ?_;refine am_val (fun β=>(rk_add (.of rfl) (.of rfl) (ini (by omega)))) ind0 rfl ?_;refine am_val (fun β=>(rk_move (.of rfl))) ind0 rfl ?_;refine am_val (fun β=>(rk_add (.of rfl) (.of rfl) (ini (by omega)))) ind0 rfl ?_;refine am_val (fun β=>(rk_move (.of rfl))) ind0 rfl ?_;refine am_val (fun β=>(rk_add (.of rfl) (.of rfl) (ini (by omega)))) ind0 rfl ?_;refine am_val (fun β=>(rk_neq (.of rfl) (.of rfl))) ind0 rfl ?_;refine am_val (fun β=>(rk_move (.of rfl))) ind0 rfl ?_;refine am_gOn rfl (fun _=>rfl) ?_;refine am_val (fun β=>(rk_move (.of rfl))) ind0 rfl ?_;refine am_gOn rfl (fun _=>rfl) ?_;refine am_val (fun β=>(rk_neq (.of rfl) (.of rfl))) ind0 rfl ?_;refine am_val (fun β=>(rk_pickB (.of rfl) (.of rfl) (.of rfl) rfl)) ind0 rfl ?_;refine am_val (fun β=>(rk_move (.of rfl))) ind0 rfl ?_;refine am_gOn rfl (fun _=>rfl) ?_;refine am_val (fun β=>(rk_move (.of rfl))) ind0 rfl ?_;refine am_gOn rfl (fun _=>rfl) ?_;refine am_val (fun β=>(rk_neq (.of rfl) (.of rfl))) ind0 rfl ?_;refine am_val (fun β=>(rk_pickB (.of rfl) (.of rfl) (.of rfl) rfl)) ind0 rfl ?_;refine am_val (fun β=>(rk_move (.of rfl))) ind0 rfl ?_;refine am_gOn rfl (fun _=>rfl) ?_;refine am_val (fun β=>(rk_move (.of rfl))) ind0 rfl ?_;refine am_gOn rfl (fun _=>rfl) ?_;refine am_val (fun β=>(rk_neq (.of rfl) (.of rfl))) ind0 rfl ?_;refine am_val (fun β=>(rk_pickB (.of rfl) (.of rfl) (.of rfl) rfl)) ind0 rfl ?_;refine am_val (fun β=>(rk_move (.of rfl))) ind0 rfl ?_;refine am_gOn rfl (fun _=>rfl) ?_;refine am_val (fun β=>(rk_loadB (.of rfl) (.there (.there (.there (.there .here)))) norm_ (by rfl))) ind0 rfl ?_;refine am_gOn rfl (fun _=>rfl) ?_;refine am_val (fun β=>(rk_buildL (.cons (.of rfl) (.cons (.of rfl) .nil)) norm_)) ind0 rfl ?_;refine am_gOn rfl (fun _=>rfl) ?_;refine am_val (fun β=>(rk_neqA (.of rfl) (.of rfl) (okL_int (okL_int (okL_int (okL_int okL_nil)))) rfl)) ind0 rfl ?_;refine am_val (fun β=>(rk_pickB (.of rfl) (.of rfl) (.of rfl) rfl)) ind0 rfl ?_;refine am_val (fun β=>(rk_move (.of rfl))) ind0 rfl ?_;refine am_gOn rfl (fun _=>rfl) ?_;refine am_val (fun β=>(rk_move (.of rfl))) ind0 rfl ?_;refine am_gOn rfl (fun _=>rfl) ?_;refine am_val (fun β=>(rk_neq (.of rfl) (.of rfl))) ind0 rfl ?_;refine am_val (fun β=>(rk_pickB (.of rfl) (.of rfl) (.of rfl) rfl)) ind0 rfl ?_;refine am_val (fun β=>(rk_move (.of rfl))) ind0 rfl ?_;refine am_gOn rfl (fun _=>rfl) ?_;refine am_val (fun β=>(rk_loadB (.of rfl) (.there (.there (.there (.there (.there .here))))) norm_ (by rfl))) ind0 rfl ?_;refine am_gOn rfl (fun _=>rfl) ?_;refine am_val (fun β=>(rk_buildL .nil norm_)) ind0 rfl ?_;refine am_gOn rfl (fun _=>rfl) ?_;refine am_val (fun β=>(rk_neqA (.of rfl) (.of rfl) (okL_int (okL_int (okL_int (okL_int okL_nil)))) rfl)) ind0 rfl ?_;refine am_val (fun β=>(rk_pickB (.of rfl) (.of rfl) (.of rfl) rfl)) ind0 rfl ?_;refine am_val (fun β=>(rk_move (.of rfl))) ind0 rfl ?_;refine am_gOn rfl (fun _=>rfl) ?_;refine am_val (fun β=>(rk_loadB (.of rfl) (.there (.there (.there (.there (.there (.there .here)))))) norm_ (by rfl))) ind0 rfl ?_;refine am_gOn rfl (fun _=>rfl) ?_;refine am_val (fun β=>(rk_buildL (.cons (.of rfl) (.cons (.of rfl) (.cons (.of rfl) (.cons (.of rfl) .nil)))) norm_)) ind0 rfl ?_;refine am_gOn rfl (fun _=>rfl) ?_;refine am_val (fun β=>(rk_neqA (.of rfl) (.of rfl) (okL_int (okL_int (okL_int (okL_int okL_nil)))) rfl)) ind0 rfl ?_;refine am_val (fun β=>(rk_pickB (.of rfl) (.of rfl) (.of rfl) rfl)) ind0 rfl ?_;refine am_val (fun β=>(rk_move (.of rfl))) ind0 rfl ?_;refine am_gOn rfl (fun _=>rfl) ?_;refine am_val (fun β=>(rk_loadB (.of rfl) (.there (.there (.there (.there (.there (.there (.there .here))))))) norm_ (by rfl))) ind0 rfl ?_)
  refine am_gOn rfl (fun _=>rfl) ?_
  with_reducible apply am_callV (B:=[]) (F:=fun _=>.agg #[.int .u8 4,.int .u8 3,.int .u8 2,.int .u8 1,.int .u8 158,.int .u8 1,.int .u8 2,.int .u8 153,.int .u8 63,.int .u8 253]) (args:=fun _=>[])
  case hB=>rfl
  case hr=>exact fun β=>rk_call (.of rfl) .nil inferInstance rfl
  case hi=>exact ind0
  case hd=>rfl
  case hc=>exact fun β w' hb'=>word_l w'
  (refine am_gOn rfl (fun _=>rfl) ?_;refine am_val (fun β=>(rk_neqA (.of rfl) (.of rfl) (okL_int (okL_int (okL_int (okL_int (okL_int (okL_int (okL_int (okL_int (okL_int (okL_int okL_nil)))))))))) rfl)) ind0 rfl ?_;refine am_val (fun β=>(rk_pickB (.of rfl) (.of rfl) (.of rfl) rfl)) ind0 rfl ?_;refine am_val (fun β=>(rk_move (.of rfl))) ind0 rfl ?_;refine am_gOn rfl (fun _=>rfl) ?_;refine am_val (fun β=>(rk_move (.of rfl))) ind0 rfl ?_;refine am_gOn rfl (fun _=>rfl) ?_;refine am_val (fun β=>(rk_len_slice (.of rfl))) ind0 rfl ?_;refine am_gOn rfl (fun _=>rfl) ?_;refine am_val (fun β=>(rk_neq (.of rfl) (.of rfl))) ind0 rfl ?_;refine am_val (fun β=>(rk_pickB (.of rfl) (.of rfl) (.of rfl) rfl)) ind0 rfl ?_;refine am_val (fun β=>(rk_move (.of rfl))) ind0 rfl ?_;refine am_gOn rfl (fun _=>rfl) ?_;refine am_val (fun β=>(rk_move (.of rfl))) ind0 rfl ?_;refine am_gOn rfl (fun _=>rfl) ?_;refine am_val (fun β=>(rk_indexAddr (.of rfl) (.of rfl) rfl (by omega) (by omega) norm1_)) ind0 rfl ?_;refine am_gOn rfl (fun _=>rfl) ?_;refine am_val (fun β=>(rk_loadB (.of rfl) (.there .here) hc17 rfl)) ind0 rfl ?_)
  refine am_gOn rfl (fun _=>rfl) ?_
  with_reducible apply am_callV (B:=[]) (F:=fun _=>.agg #[.int .i64 30,.bool true,.int .i64 1,.int .i64 2,.int .i64 3,.int .i64 4,.int .i64 258]) (args:=fun _=>[])
  case hB=>rfl
  case hr=>exact fun β=>rk_call (.of rfl) .nil inferInstance rfl
  case hi=>exact ind0
  case hd=>rfl
  case hc=>exact fun β w' hb'=>stamp_l w'
  (refine am_gOn rfl (fun _=>rfl) ?_;refine am_val (fun β=>(rk_neqA (.of rfl) (.of rfl) (okL_int (okL_bool (okL_int (okL_int (okL_int (okL_int (okL_int okL_nil))))))) rfl)) ind0 rfl ?_;refine am_val (fun β=>(rk_pickB (.of rfl) (.of rfl) (.of rfl) rfl)) ind0 rfl ?_;refine am_val (fun β=>(rk_move (.of rfl))) ind0 rfl ?_;refine am_gOn rfl (fun _=>rfl) ?_;refine am_val (fun β=>(rk_move (.of rfl))) ind0 rfl ?_)
  refine am_gOn rfl (fun _=>rfl) ?_
  refine am_new (fun β=>(rk_sliceLit (.cons (.of rfl) .nil) rfl rfl rfl rfl)) (fun _ _ _=>rfl) rfl ?_
  dsimp only [Nat.zero_add,Nat.reduceAdd]
  refine am_gOn rfl (fun _=>rfl) ?_
  with_reducible apply am_callV (B:=[68]) (F:=fun _=>.bool true) (args:=fun β=>[v18,.slice (some ⟨gnat (β 68),0,none⟩) 1 1])
  case hB=>kernel_rfl
  case hr=>exact fun β=>rk_call (.of rfl) (.cons (.of rfl) (.cons (.of rfl) .nil)) inferInstance rfl
  case hi=>exact ind0
  case hd=>rfl
  case hc=>
    intro β w' hb'
    have m6:=hb'.at 68 List.mem_cons_self (s:=⟨fun β=>.slice (some ⟨gnat (β 68),0,none⟩) 1 1,fun β=>[blk (gnat (β 68)) (.cells #[.int .i64 10] 3)]⟩) (by kernel_rfl)
    dsimp only [List.cons_append,List.nil_append] at m6
    exact sameI_t (l:=[10]) (m:=[10]) (intg_rd (E:=3) (v:=v18) (n:=1) m6 (show Take _ (row 3 1 v18 1 [.int .i64 10]) _ from by exact Take.there (.there (.there (.there .here)))) rfl) (Mem.rdBlk m6 (by exact .here) rfl rfl)
  (refine am_gOn rfl (fun _=>rfl) ?_;refine am_val (fun β=>(rk_not (.of rfl))) ind0 rfl ?_;refine am_val (fun β=>(rk_pickB (.of rfl) (.of rfl) (.of rfl) rfl)) ind0 rfl ?_;refine am_val (fun β=>(rk_move (.of rfl))) ind0 rfl ?_;refine am_gOn rfl (fun _=>rfl) ?_;refine am_val (fun β=>(rk_move (.of rfl))) ind0 rfl ?_)
  refine am_gOn rfl (fun _=>rfl) ?_
  with_reducible apply am_val (F:=fun _=>.string ⟨#[64,128]⟩)
  case hr=>
    intro β
    show RunV _ _ _ _ _ (.string (strOf [64,128]))
    with_reducible apply rk_convBSn (ns:=[64,128])
    case hx=>exact Is.of rfl
    case hv=>exact Ats.blk (by exact .here) (show cellsAt ([Value.int .u8 64,Value.int .u8 128]++cur20) 0 2 = _ by rw [cellsAt_eq];rfl)
    case hl=>rfl
  case hi=>exact ind0
  case hd=>rfl
  (refine am_gOn rfl (fun _=>rfl) ?_;refine am_val (fun β=>(rk_neqs (.of rfl) (.of rfl))) ind0 rfl ?_;refine am_val (fun β=>(rk_pickB (.of rfl) (.of rfl) (.of rfl) rfl)) ind0 rfl ?_)
  refine am_end fun β=>?_
  dsimp only [resAll,List.nil_append,List.cons_append,List.append_eq,Nat.reduceAdd]
  with_reducible refine left_done (by kernel_rfl) ?_
  refine tr_cutH [] .nil ?_
  (refine tr_then ?_;refine tr_cond_f (.of rfl) ?_;refine s_t ?_;refine s_r ?_;refine tr_new (rk_sliceLit (.cons (.of rfl) (.cons (.of rfl) .nil)) rfl rfl rfl rfl) rfl (fun _ _=>?_))
  with_reducible apply tr_call
  case hr=>exact rk_call (.of rfl) (.cons (.of rfl) (.cons (.of rfl) .nil)) inferInstance normc_
  case hd=>rfl
  case ht=>exact Takes.nil
  case hc=>
    intro w1 fp hm1 _ hs1
    obtain rfl:fp = []:=hs1
    exact aw_pul (Mem.rdBlk hm1 (by exact .here) rfl rfl)
  intro v22 _
  dsimp only [id_eq,List.cons_append,List.nil_append]
  (refine m_v rfl rfl ?_;refine tr_val (rk_extract (.of rfl) rfl) rfl ?_;refine tr_val (rk_extract (.of rfl) rfl) rfl ?_;refine a_s rfl rfl ?_;refine a_s rfl rfl ?_;refine n_r ?_;refine tr_new (rk_sliceLit (.cons (.of rfl) (.cons (.of rfl) .nil)) rfl rfl rfl rfl) rfl (fun _ _=>?_);refine tr_val (rk_buildL (.cons (.of rfl) (.cons (.of rfl) .nil)) norm_) rfl ?_;refine tr_val (rk_buildL (.cons (.of rfl) (.cons (.of rfl) .nil)) norm_) rfl ?_;refine tr_val (rk_buildL (.cons (.of rfl) (.cons (.of rfl) .nil)) norm_) rfl ?_;refine tr_val (rk_buildL (.cons (.of rfl) (.cons (.of rfl) .nil)) norm_) rfl ?_;refine tr_val (rk_buildL (.cons (.of rfl) (.cons (.of rfl) .nil)) norm_) rfl ?_;refine tr_new (rk_sliceLitN (.cons (.of rfl) (.cons (.of rfl) (.cons (.of rfl) (.cons (.of rfl) (.cons (.of rfl) .nil))))) rfl rfl normp_ normp_ norm_) rfl (fun _ _=>?_))
  rename_i g185 h185 g191 h191
  refine tr_rowLitE (g:=g191) (E:=95) (ys:=dusV [(0,0),(1,1),(1,2),(2,3),(3,3)]) 5 2 (by exact .here) (by exact rfl) rfl rfl ?_
  with_reducible apply tr_callV
  case hr=>exact rk_call (.of rfl) (.cons (.of rfl) (.cons (.of rfl) .nil)) inferInstance normc_
  case hd=>rfl
  case hc=>
    intro w' hm'
    exact aw_un1 (Mem.rdBlk hm' (by exact Take.there .here) rfl rfl) (dus_rd (E:=95) (v:=.slice (some ⟨g191,0,none⟩) 5 5) (l:=[(0,0),(1,1),(1,2),(2,3),(3,3)]) (n:=5) hm' (by exact .here) rfl)
  (refine m_v rfl rfl ?_;refine tr_val (rk_extract (.of rfl) rfl) rfl ?_;refine tr_val (rk_extract (.of rfl) rfl) rfl ?_;refine a_s rfl rfl ?_;refine a_s rfl rfl ?_;refine n_r ?_;refine tr_new (rk_sliceLit (.cons (.of rfl) .nil) rfl rfl rfl rfl) rfl (fun _ _=>?_);refine tr_val (rk_buildL (.cons (.of rfl) (.cons (.of rfl) .nil)) norm_) rfl ?_;refine tr_new (rk_sliceLitN (.cons (.of rfl) .nil) rfl rfl normp_ normp_ norm_) rfl (fun _ _=>?_))
  rename_i g196 h196 g198 h198
  refine tr_rowLitE (g:=g198) (E:=95) (ys:=dusV [(0,1)]) 1 2 (by exact .here) (by exact rfl) rfl rfl ?_
  with_reducible apply tr_callV
  case hr=>exact rk_call (.of rfl) (.cons (.of rfl) (.cons (.of rfl) .nil)) inferInstance normc_
  case hd=>rfl
  case hc=>
    intro w' hm'
    exact aw_un2 (Mem.rdBlk hm' (by exact Take.there .here) rfl rfl) (dus_rd (E:=95) (v:=.slice (some ⟨g198,0,none⟩) 1 1) (l:=[(0,1)]) (n:=1) hm' (by exact .here) rfl)
  (refine m_v rfl rfl ?_;refine tr_val (rk_extract (.of rfl) rfl) rfl ?_;refine tr_val (rk_extract (.of rfl) rfl) rfl ?_;refine a_s rfl rfl ?_;refine a_s rfl rfl ?_;refine n_r ?_;refine a_s rfl rfl ?_;refine n_r ?_;refine m_v rfl rfl ?_)
  with_reducible apply tr_call
  case hr=>exact rk_call (.of rfl) .nil inferInstance normc_
  case hd=>rfl
  case ht=>exact Takes.nil
  case hc=>
    intro w1 fp hm1 _ hs1
    obtain rfl:fp = []:=hs1
    exact caps_v w1
  intro k1 _
  dsimp only [id_eq,List.cons_append,List.nil_append]
  refine tr_rowLitE (g:=k1) (E:=195) (ys:=cpsV capsA) 2 5 (by exact .here) (by exact rfl) rfl rfl ?_
  with_reducible apply tr_call
  case hr=>exact rk_call (.of rfl) (.cons (.of rfl) .nil) inferInstance normc_
  case hd=>rfl
  case ht=>exact Takes.nil
  case hc=>
    intro w1 fp hm1 _ hs1
    obtain rfl:fp = []:=hs1
    exact aw_chg (cps_rd (E:=195) (v:=.slice (some ⟨k1,0,none⟩) 2 2) (l:=capsA) (n:=2) hm1 (by exact .here) rfl)
  intro v29 _
  dsimp only [id_eq,List.cons_append,List.nil_append]
  (refine m_v rfl rfl ?_;refine tr_val (rk_extract (.of rfl) rfl) rfl ?_;refine tr_val (rk_extract (.of rfl) rfl) rfl ?_;refine a_s rfl rfl ?_;refine a_s rfl rfl ?_;refine n_r ?_;refine m_v rfl rfl ?_)
  with_reducible apply tr_call
  case hr=>exact rk_call (.of rfl) .nil inferInstance normc_
  case hd=>rfl
  case ht=>exact Takes.nil
  case hc=>
    intro w1 fp hm1 _ hs1
    obtain rfl:fp = []:=hs1
    exact caps_v w1
  intro k2 _
  dsimp only [id_eq,List.cons_append,List.nil_append]
  refine tr_rowLitE (g:=k2) (E:=195) (ys:=cpsV capsA) 2 5 (by exact .here) (by exact rfl) rfl rfl ?_
  with_reducible apply tr_callV
  case hr=>exact rk_call (.of rfl) (.cons (.of rfl) (.cons (.of rfl) .nil)) inferInstance normc_
  case hd=>rfl
  case hc=>
    intro w' hm'
    exact aw_shn (cps_rd (E:=195) (v:=.slice (some ⟨k2,0,none⟩) 2 2) (l:=capsA) (n:=2) hm' (by exact .here) rfl)
  have hsh:=ev_h1
  change (shA 1).size = 32 ∧ (shA 1).extract 0 6 = _ at hsh
  generalize shA 0 = s0
  generalize shA 1 = s1 at hsh ⊢
  generalize shA 2 = s2
  generalize shA 3 = s3
  generalize shA 4 = s4
  generalize shA 5 = s5
  generalize shA 6 = s6
  generalize shA 7 = s7
  (refine m_v rfl rfl ?_;refine tr_val (rk_extract (.of rfl) rfl) rfl ?_;refine tr_val (rk_extract (.of rfl) rfl) rfl ?_;refine tr_new (rk_alloc rfl) rfl (fun _ _=>?_);refine tr_store (.of rfl) (.of rfl) .here rfl rfl (okc_cons rfl (okc_cons rfl (okc_cons rfl (okc_cons rfl (okc_cons rfl (okc_cons rfl (okc_cons rfl (okc_cons rfl okc_nil)))))))) (lenb rfl) norm_ ?_;refine a_s rfl rfl ?_;refine n_r ?_;refine m_v rfl rfl ?_)
  with_reducible apply tr_call
  case hr=>exact rk_call (.of rfl) .nil inferInstance normc_
  case hd=>rfl
  case ht=>exact Takes.nil
  case hc=>
    intro w1 fp hm1 _ hs1
    obtain rfl:fp = []:=hs1
    exact caps_v w1
  intro k3 _
  dsimp only [id_eq,List.cons_append,List.nil_append]
  rw [show cpsV capsA = [.int .i64 5,.int .i64 10,.int .i64 1,.int .i64 3,.string ⟨#[65,66]⟩,.int .i64 10,.int .i64 12,.int .i64 1,.int .i64 4,.string ⟨#[67]⟩] from rfl]
  (refine a_s rfl rfl ?_;refine n_r ?_;refine m_v rfl rfl ?_;refine tr_val (rk_indexAddr (.of rfl) (.of rfl) rfl (by omega) (by omega) norm1_) rfl ?_;refine f_a rfl rfl norm0_ ?_;refine f_a rfl rfl norm0_ ?_;refine tr_store (.of rfl) (.of rfl) .here rfl rfl (okc_cons rfl okc_nil) (lenb rfl) norm_ ?_;refine n_r ?_;refine m_v rfl rfl ?_)
  refine tr_rowLitE (g:=k3) (E:=195) (ys:=cpsV [capA0,capA2]) 2 5 (by exact .here) (by exact rfl) rfl rfl ?_
  with_reducible apply tr_callV
  case hr=>exact rk_call (.of rfl) (.cons (.of rfl) .nil) inferInstance normc_
  case hd=>rfl
  case hc=>
    intro w' hm'
    exact aw_chk (cps_rd (E:=195) (v:=.slice (some ⟨k3,0,none⟩) 2 2) (l:=[capA0,capA2]) (n:=2) hm' (by exact .here) rfl)
  (refine a_s rfl rfl ?_;refine n_r ?_)
  with_reducible apply tr_call
  case hr=>exact rk_call (.of rfl) (.cons (.of rfl) .nil) inferInstance normc_
  case hd=>rfl
  case ht=>exact Takes.nil
  case hc=>
    intro w1 fp hm1 _ hs1
    obtain rfl:fp = []:=hs1
    exact aw_snt w1
  intro v35 _
  dsimp only [id_eq,List.cons_append,List.nil_append]
  (refine m_v rfl rfl ?_;refine tr_val (rk_extract (.of rfl) rfl) rfl ?_;refine tr_val (rk_extract (.of rfl) rfl) rfl ?_;refine a_s rfl rfl ?_;refine a_s rfl rfl ?_;refine n_r ?_;refine tr_new (rk_sliceLit (.cons (.of rfl) .nil) rfl rfl rfl rfl) rfl (fun _ _=>?_))
  with_reducible apply tr_call
  case hr=>exact rk_call (.of rfl) (.cons (.of rfl) .nil) inferInstance normc_
  case hd=>rfl
  case ht=>exact Takes.nil
  case hc=>
    intro w1 fp hm1 _ hs1
    obtain rfl:fp = []:=hs1
    exact aw_hrd (Mem.rdBlk hm1 (by exact .here) rfl rfl)
  intro v38 _
  dsimp only [id_eq,List.cons_append,List.nil_append]
  (refine m_v rfl rfl ?_;refine tr_val (rk_extract (.of rfl) rfl) rfl ?_;refine tr_val (rk_extract (.of rfl) rfl) rfl ?_;refine tr_val (rk_extract (.of rfl) rfl) rfl ?_;refine a_s rfl rfl ?_;refine a_s rfl rfl ?_;refine a_s rfl rfl ?_;refine n_r ?_;refine tr_callV (rk_call (.of rfl) .nil inferInstance normc_) rfl (fun w' hm'=>(stamp_l w')) ?_)
  with_reducible apply tr_callV
  case hr=>exact rk_call (.of rfl) (.cons (.of rfl) .nil) inferInstance normc_
  case hd=>rfl
  case hc=>
    intro w' hm'
    exact aw_prt _ (hG.keeps hm'.keeps) (hT.keeps hm'.keeps)
  refine tr_rowOpen (E:=5) (sz:=1) (v:=v35) (by exact Take.there (.there .here)) (Nat.zero_lt_two) ?_
  rintro g35 c35 cur35 e35 hcap35 _ _ _
  subst e35
  (refine m_v rfl rfl ?_;refine tr_val (rk_extract (.of rfl) rfl) rfl ?_;refine tr_val (rk_extract (.of rfl) rfl) rfl ?_;refine a_s rfl rfl ?_;refine a_s rfl rfl ?_;refine n_r ?_;refine m_v rfl rfl ?_;refine m_v rfl rfl ?_;refine tr_val (rk_add (.of rfl) (.of rfl) (ini (by omega))) rfl ?_;refine m_v rfl rfl ?_;refine tr_val (rk_add (.of rfl) (.of rfl) (ini (by omega))) rfl ?_;refine m_v rfl rfl ?_;refine tr_val (rk_add (.of rfl) (.of rfl) (ini (by omega))) rfl ?_;refine m_v rfl rfl ?_;refine tr_val (rk_add (.of rfl) (.of rfl) (ini (by omega))) rfl ?_;refine m_v rfl rfl ?_;refine tr_val (rk_add (.of rfl) (.of rfl) (ini (by omega))) rfl ?_;refine m_v rfl rfl ?_;refine tr_val (rk_add (.of rfl) (.of rfl) (ini (by omega))) rfl ?_;refine m_v rfl rfl ?_;refine tr_val (rk_add (.of rfl) (.of rfl) (ini (by omega))) rfl ?_;refine tr_val (rk_eql (.of rfl) (.of rfl)) rfl ?_;refine m_v rfl rfl ?_;refine tr_gOn rfl rfl ?_;refine m_v rfl rfl ?_;refine tr_gOn rfl rfl ?_;refine tr_val (rk_eql (.of rfl) (.of rfl)) rfl ?_;refine tr_val (rk_pickB (.of rfl) (.of rfl) (.of rfl) rfl) rfl ?_;refine m_v rfl rfl ?_;refine tr_gOn rfl rfl ?_;refine m_v rfl rfl ?_;refine tr_gOn rfl rfl ?_;refine tr_val (rk_buildL (.cons (.of rfl) (.cons (.of rfl) .nil)) norm_) rfl ?_;refine tr_gOn rfl rfl ?_;refine tr_val (rk_buildL (.cons (.of rfl) (.cons (.of rfl) .nil)) norm_) rfl ?_;refine tr_gOn rfl rfl ?_;refine tr_val (rk_buildL (.cons (.of rfl) (.cons (.of rfl) .nil)) norm_) rfl ?_;refine tr_gOn rfl rfl ?_;refine tr_val (rk_buildL (.cons (.of rfl) (.cons (.of rfl) .nil)) norm_) rfl ?_;refine tr_gOn rfl rfl ?_;refine tr_val (rk_buildL (.cons (.of rfl) (.cons (.of rfl) .nil)) norm_) rfl ?_;refine tr_gOn rfl rfl ?_;refine tr_new (rk_sliceLitN (.cons (.of rfl) (.cons (.of rfl) (.cons (.of rfl) (.cons (.of rfl) (.cons (.of rfl) .nil))))) rfl rfl normp_ normp_ norm_) rfl (fun _ _=>?_);refine tr_gOn rfl rfl ?_)
  rename_i g264 h264
  refine tr_rowLitE (g:=g264) (E:=95) (ys:=dusV [(0,0),(1,1),(1,2),(2,3),(3,3)]) 5 2 (by exact .here) (by exact rfl) rfl rfl ?_
  with_reducible apply tr_callV
  case hr=>exact rk_call (.of rfl) (.cons (.of rfl) (.cons (.of rfl) .nil)) inferInstance normc_
  case hd=>rfl
  case hc=>
    intro w' hm'
    exact (sameP_t (l:=[(0,0),(1,1),(1,2),(2,3),(3,3)]) (m:=[(0,0),(1,1),(1,2),(2,3),(3,3)]) (dus_rd (E:=95) (v:=v22) (n:=5) hm' (by exact Take.there (.there (.there (.there (.there (.there (.there (.there (.there (.there (.there (.there (.there .here))))))))))))) rfl) (dus_rd (E:=95) (v:=.slice (some ⟨g264,0,none⟩) 5 5) (n:=5) hm' (by exact .here) rfl):GivesV Tryz.prog 50 _ w' (.bool true))
  (refine tr_val (rk_pickB (.of rfl) (.of rfl) (.of rfl) rfl) rfl ?_;refine m_v rfl rfl ?_;refine tr_gOn rfl rfl ?_;refine m_v rfl rfl ?_;refine tr_gOn rfl rfl ?_;refine tr_val (rk_eql (.of rfl) (.of rfl)) rfl ?_;refine tr_val (rk_pickB (.of rfl) (.of rfl) (.of rfl) rfl) rfl ?_;refine m_v rfl rfl ?_;refine tr_gOn rfl rfl ?_;refine m_v rfl rfl ?_;refine tr_gOn rfl rfl ?_;refine tr_val (rk_eql (.of rfl) (.of rfl)) rfl ?_;refine tr_val (rk_pickB (.of rfl) (.of rfl) (.of rfl) rfl) rfl ?_;refine m_v rfl rfl ?_;refine tr_gOn rfl rfl ?_;refine m_v rfl rfl ?_;refine tr_gOn rfl rfl ?_;refine tr_new (rk_sliceLit (.cons (.of rfl) (.cons (.of rfl) (.cons (.of rfl) .nil))) rfl rfl rfl rfl) rfl (fun _ _=>?_);refine tr_gOn rfl rfl ?_)
  rename_i g277 h277
  with_reducible apply tr_callV
  case hr=>exact rk_call (.of rfl) (.cons (.of rfl) (.cons (.of rfl) .nil)) inferInstance normc_
  case hd=>rfl
  case hc=>
    intro w' hm'
    exact (sameI_t (l:=[5,10,12]) (m:=[5,10,12]) (intg_rd (E:=3) (v:=v29) (n:=3) hm' (by exact Take.there (.there (.there (.there (.there (.there (.there (.there .here)))))))) rfl) (Mem.rdBlk hm' (by exact .here) rfl rfl):GivesV Tryz.prog 58 _ w' (.bool true))
  have hs32:=hsh.1
  (refine tr_val (rk_pickB (.of rfl) (.of rfl) (.of rfl) rfl) rfl ?_;refine m_v rfl rfl ?_;refine tr_gOn rfl rfl ?_;refine tr_val (rk_indexAddrA (.of rfl) (.of rfl) (by omega) (by omega) norm1_) rfl ?_;refine tr_gOn rfl rfl ?_;refine tr_val (rk_load1 (.of rfl) (At.lit (.there (.there (.there (.there (.there (.there .here)))))) rfl)) rfl ?_;refine tr_gOn rfl rfl ?_;refine tr_val (rk_len_string (.of rfl)) rfl ?_;refine tr_gOn rfl rfl ?_;refine tr_val (rk_eql (.of rfl) (.of rfl)) rfl ?_)
  rw [show decide (((s1.size:Nat):Int) = 32) = true from decide_eq_true (by omega)]
  (refine tr_val (rk_pickB (.of rfl) (.of rfl) (.of rfl) rfl) rfl ?_;refine m_v rfl rfl ?_;refine tr_gOn rfl rfl ?_;refine tr_val (rk_indexAddrA (.of rfl) (.of rfl) (by omega) (by omega) norm1_) rfl ?_;refine tr_gOn rfl rfl ?_;refine tr_val (rk_load1 (.of rfl) (At.lit (.there (.there (.there (.there (.there (.there .here)))))) rfl)) rfl ?_;refine tr_gOn rfl rfl ?_;refine tr_val (rk_sliceS_h (.of rfl) (.of rfl) (by omega) (by omega)) rfl ?_;refine tr_gOn rfl rfl ?_;refine tr_val (rk_eqls (.of rfl) (.of rfl)) rfl ?_)
  rw [show decide (s1.extract 0 (6:Int).toNat = ⟨#[32,32,32,65,66,32]⟩) = true from decide_eq_true hsh.2]
  (refine tr_val (rk_pickB (.of rfl) (.of rfl) (.of rfl) rfl) rfl ?_;refine m_v rfl rfl ?_;refine tr_gOn rfl rfl ?_;refine m_v rfl rfl ?_;refine tr_gOn rfl rfl ?_)
  with_reducible apply tr_val (V:=.string ⟨#[193,194]⟩)
  case hr=>
    show RunV _ _ _ _ _ (.string (strOf [193,194]))
    with_reducible apply rk_convBSn (ns:=[193,194])
    case hx=>exact Is.of rfl
    case hv=>exact Ats.blk (by exact Take.there (.there .here)) (show cellsAt ([Value.int .u8 193,Value.int .u8 194]++cur35) 0 2 = _ by rw [cellsAt_eq];rfl)
    case hl=>rfl
  case hd=>rfl
  (refine tr_gOn rfl rfl ?_;refine tr_val (rk_eqls (.of rfl) (.of rfl)) rfl ?_;refine tr_val (rk_pickB (.of rfl) (.of rfl) (.of rfl) rfl) rfl ?_;refine m_v rfl rfl ?_;refine tr_gOn rfl rfl ?_;refine m_v rfl rfl ?_;refine tr_gOn rfl rfl ?_;refine tr_val (rk_eqls (.of rfl) (.of rfl)) rfl ?_;refine tr_val (rk_pickB (.of rfl) (.of rfl) (.of rfl) rfl) rfl ?_;refine m_v rfl rfl ?_;refine tr_gOn rfl rfl ?_;refine m_v rfl rfl ?_;refine tr_gOn rfl rfl ?_;refine tr_new (rk_sliceLit (.cons (.of rfl) .nil) rfl rfl rfl rfl) rfl (fun _ _=>?_);refine tr_gOn rfl rfl ?_)
  rename_i g303 h303
  with_reducible apply tr_callV
  case hr=>exact rk_call (.of rfl) (.cons (.of rfl) (.cons (.of rfl) .nil)) inferInstance normc_
  case hd=>rfl
  case hc=>
    intro w' hm'
    exact (sameI_t (l:=[0]) (m:=[0]) (intg_rd (E:=3) (v:=v38) (n:=1) hm' (show Take _ (row 3 1 v38 1 [.int .i64 0]) _ from by exact Take.there (.there (.there (.there .here)))) rfl) (Mem.rdBlk hm' (by exact .here) rfl rfl):GivesV Tryz.prog 58 _ w' (.bool true))
  (refine tr_val (rk_pickB (.of rfl) (.of rfl) (.of rfl) rfl) rfl ?_;refine m_v rfl rfl ?_;refine tr_gOn rfl rfl ?_;refine m_v rfl rfl ?_;refine tr_gOn rfl rfl ?_;refine tr_val (rk_eqls (.of rfl) (.of rfl)) rfl ?_;refine tr_val (rk_pickB (.of rfl) (.of rfl) (.of rfl) rfl) rfl ?_;refine a_s rfl rfl ?_;refine n_t ?_;refine tr_ret ?_;refine tr_retE rfl (ends1 rfl rfl) ?_)
  rfl
end Go.Proofs.A1
namespace Go.Proofs.A1
open Go Go.SL
theorem bysV_c {lv:Value} {l:List Int} {w:World} (h:Rd w lv 1 (byts l)) (hl:l.length ≤ 5000) :
    Gives Tryz.prog 53 [lv] w [] (fun _:Value=>True) id (fun v=>[row 5 1 v l.length (bytsV l)]):=by
  refine gives_of_tr Tryz.func53 rfl rfl ?_
  (refine s_r ?_;refine a_s rfl rfl ?_;refine n_r ?_;refine tr_new (rk_sliceLit .nil rfl rfl rfl rfl) rfl (fun _ _=>?_);refine m_v rfl rfl ?_)
  rename_i bq hbq
  refine tr_rowLitE (g:=bq) (E:=5) (ys:=[]) 0 1 (by exact .here) rfl rfl rfl ?_
  skip
  with_reducible apply tr_appendR
  case hx=>exact Is.of rfl
  case hy=>exact Is.of rfl
  case ht=>exact .here
  case hsrc=>exact fun w' hm'=>h.keeps hm'.keeps
  case h1=>exact byts_one l
  case hz=>exact rfl
  case hsz=>exact rfl
  case hb0=>exact rfl
  case hb=>rw [byts_length];omega
  case hd=>rfl
  intro v'
  rw [byts_length,Nat.zero_add,List.nil_append,← byts_flat]
  (refine a_s rfl rfl ?_;refine n_t ?_;refine tr_ret ?_)
  first | with_reducible apply tr_retM | with_reducible apply tr_endM
  case he=>exact ends1 rfl rfl
  case hR=>
    intro w' hm'
    exact gives_end v' trivial (show Takes _ [row 5 1 v' l.length (bytsV l)] _ by exact .cons .here .nil) hm' rfl
end Go.Proofs.A1
namespace Go.Proofs.A1
open Go Go.SL
theorem rk_convR {P:Program} {c:Cx} {sl:Slots} {hs:List Asn} {dst:Option Tmp} {ty:TypeId} {pos:String} {af:Array Edge} {g:Option (Nat × Bool)} {t u:TypeId} {k':IntKind} {x:Operand} {n:Int} [ht:Und P t (.int k')] [hu:Und P u .string] (hx:Is sl x (.int k' n)) :
    RunV P c sl hs ⟨dst,.convert t u x,ty,pos,af,g⟩ (.string (Utf8.encode n)):=
  ⟨by simp,fun a w ha _=>by simp [execOp,hx a ha,convert,rk_underlying ht.eq,rk_underlying hu.eq,Conv.intToString]⟩
section
variable {P:Program} {c:Cx} {sl:Slots} {hs:List Asn} {dst:Option Tmp} {ty:TypeId} {pos:String} {af:Array Edge} {g:Option (Nat × Bool)}
end
theorem enc_ascii {n:Int} (h:0 ≤ n ∧ n < 128):Utf8.encode n = strOf [n]:=by
  obtain ⟨k,hk,rfl⟩:∃ k:Nat,k < 128 ∧ n = (k:Int):=⟨n.toNat,by omega,by omega⟩
  have hc:k < 128:=hk
  have hv:Utf8.valid (k:Int) = true:=by simp [Utf8.valid];omega
  unfold Utf8.encode strOf
  simp only [hv,if_true,Int.toNat_natCast,hc]
  rfl
theorem txtQ_c (s:ByteArray) (w:World):GivesV Tryz.prog 54 [.string s] w (.int .i64 (sntE s)):=by
  refine givesV_of_tr Tryz.func54 rfl rfl ?_
  (refine s_r ?_;refine a_s rfl rfl ?_;refine n_t ?_;refine tr_seq ?_;refine s_r ?_;refine m_v rfl rfl ?_;refine tr_val (rk_len_string (.of rfl)) rfl ?_;refine tr_val (rk_gtr (.of rfl) (.of rfl)) rfl ?_;refine n_t ?_;refine c_d rfl (fun hcd=>?_) (fun hcd=>?_);refine s_r ?_;refine a_s rfl rfl ?_;refine n_t ?_;refine r_t ?_;refine tr_retE rfl (ends1 rfl rfl) ?_;rotate_left;refine s_t ?_;refine tr_seq ?_;refine s_r ?_;refine a_s rfl rfl ?_;refine n_t ?_;refine tr_block ?_;rotate_right)
  · have e:sntE s = 26:=by unfold sntE;rw [if_pos (by omega)]
    rw [e]
  have h4:¬ 4000 < s.size:=by omega
  clear hcd
  refine tr_for (fun k:Nat=>k ≤ s.size ∧ ∀ i,i < k → ¬ 128 ≤ bt s i) (fun k=>[(3,.int .i64 k),(0,.string s)]) (fun _=>[]) (fun k=>s.size - k) ?_ ?_
  · apply tr_start 0 ⟨Nat.zero_le _,fun i h=>absurd h (by omega)⟩
    case hs1=>exact .cons rfl (.cons rfl .nil)
    case ht=>(try simp only [List.take_zero,List.map_nil,List.nil_append]);exact .nil
  rintro k ⟨hk,hf⟩
  by_cases hlt:k < s.size
  · have hbb:=bt_in s k
    have hbt:(((s.data.toList[((k:Nat):Int).toNat]?.getD 0).toNat:Nat):Int) = bt s k:=rfl
    (refine tr_seq ?_;refine s_r ?_;refine m_v rfl rfl ?_;refine m_v rfl rfl ?_;refine tr_val (rk_len_string (.of rfl)) rfl ?_;refine tr_val (rk_lss (.of rfl) (.of rfl)) rfl ?_;refine n_t ?_;refine c_d rfl (fun hcd=>?_) (fun _=>by omega);refine s_t ?_;refine tr_seq ?_;refine tr_block ?_;refine s_r ?_;refine m_v rfl rfl ?_;refine m_v rfl rfl ?_;refine tr_val (rk_indexS (.of rfl) (.of rfl) (by omega) hcd) rfl ?_;refine tr_val (rk_gtr (.of rfl) (.of rfl)) rfl ?_;refine n_t ?_;refine c_d rfl (fun hcd=>?_) (fun hcd=>?_);refine s_r ?_;refine a_s rfl rfl ?_;refine n_t ?_;refine tr_ret ?_;refine tr_blk_ret ?_;refine tr_then_ret ?_;refine tr_then_ret ?_;refine tr_blk_ret ?_;refine tr_then_ret ?_;refine tr_retE rfl (ends1 rfl rfl) ?_;rotate_left;refine tr_skip ?_;refine tr_blk_normal ?_;refine tr_then ?_;refine tr_region ?_;refine m_v rfl rfl ?_;refine tr_val (rk_add (.of rfl) (.of rfl) (ini (by omega))) rfl ?_;refine a_s rfl rfl ?_;refine n_t ?_;rotate_right)
    · rw [hbt] at hcd
      rw [sntE_hi h4 hlt (by omega)]
    · rw [hbt] at hcd
      apply tr_next (k + 1) ⟨show k + 1 ≤ s.size by omega,fun i hi=>by
        by_cases e:i = k
        · rw [e];omega
        · exact hf i (by omega)⟩ (show s.size - (k + 1) < s.size - k by omega)
      case hs1=>exact .cons rfl (.cons rfl .nil)
      case ht=>(try simp only [List.take_zero,List.map_nil,List.nil_append]);exact .nil
  · obtain rfl:k = s.size:=by omega
    (refine tr_seq ?_;refine s_r ?_;refine m_v rfl rfl ?_;refine m_v rfl rfl ?_;refine tr_val (rk_len_string (.of rfl)) rfl ?_;refine tr_val (rk_lss (.of rfl) (.of rfl)) rfl ?_;refine n_t ?_;refine c_d rfl (fun _=>by omega) (fun hcd=>?_);refine x_t ?_;refine tr_then_exit ?_;refine tr_blk_exit ?_;refine tr_then ?_;refine s_r ?_;refine a_s rfl rfl ?_;refine n_t ?_;refine tr_ret ?_;refine tr_retE rfl (ends1 rfl rfl) ?_)
    rw [sntE_no h4 hf]
theorem strOf_app (a:List Int) (x:Int):strOf (a++[x]) = strOf a++strOf [x]:=by
  rw [strOf_strB,strOf_strB,strOf_strB]
  apply ByteArray.ext
  rw [ByteArray.data_append]
  simp [strB]
theorem strOf_size (l:List Int):(strOf l).size = l.length:=by rw [strOf_strB,strB_size]
end Go.Proofs.A1
namespace Go.Proofs.A1
open Go Go.SL
end Go.Proofs.A1
namespace Go.Proofs.A1
open Go Go.SL
theorem natsV_intg (l:List Nat):natsV l = intgV (l.map fun (n:Nat)=>(n:Int)):=by
  unfold natsV intgV
  rw [List.flatMap_map]
end Go.Proofs.A1
namespace Go.Proofs.A1
open Go Go.SL
def shoB (l:List Cp):Bool:=l.all (fun x=>decide (x.tx.size ≤ 40)) && (decide (l.length ≤ 8) || decide (l.length = 33))
theorem shoB_few {l:List Cp} (h:shoB l = true):l.length ≤ 33 ∧ ∀ x ∈ l,x.tx.size ≤ 1000000000:=by
  unfold shoB at h
  rw [Bool.and_eq_true,List.all_eq_true,Bool.or_eq_true,decide_eq_true_eq,decide_eq_true_eq] at h
  refine ⟨by omega,fun x hx=>?_⟩
  have:=of_decide_eq_true (h.1 x hx)
  omega
theorem shortQ_c {lv:Value} {l:List Cp} {w:World} (h:Rd w lv 5 (cps l)):GivesV Tryz.prog 59 [lv] w (.bool (shoB l)):=by
  obtain ⟨a,cp,b,o,rfl,hcap,hmax,ha,hc⟩:=h
  rw [cps_length] at *
  unfold maxLen at hmax
  refine givesV_of_tr Tryz.func59 rfl rfl ?_
  (refine s_r ?_;refine a_s rfl rfl ?_;refine n_t ?_;refine tr_seq ?_;refine s_r ?_;refine a_s rfl rfl ?_;refine n_t ?_;refine tr_block ?_)
  refine tr_for (fun k:Nat=>k ≤ l.length ∧ ∀ i (hi:i < l.length),i < k → l[i].tx.size ≤ 40) (fun k=>[(3,.int .i64 k),(0,.slice a l.length cp)]) (fun _=>[]) (fun k=>l.length - k) ?_ ?_
  · apply tr_start 0 ⟨Nat.zero_le _,fun i _ hi=>absurd hi (by omega)⟩
    case hs1=>exact .cons rfl (.cons rfl .nil)
    case ht=>(try simp only [List.take_zero,List.map_nil,List.nil_append]);exact .nil
  rintro k ⟨hk,hf⟩
  by_cases hlt:k < l.length
  · have ha':=ha (cps_ne hlt)
    have hcell:=(hc k _ (cps_get hlt)).2
    have hx4:w.cell? ⟨b,o + k * 5 + 4,none⟩ = some (.string l[k].tx):=hcell 4 _ rfl
    (refine tr_seq ?_;refine s_r ?_;refine m_v rfl rfl ?_;refine m_v rfl rfl ?_;refine tr_val (rk_len_slice (.of rfl)) rfl ?_;refine tr_val (rk_lss (.of rfl) (.of rfl)) rfl ?_;refine n_t ?_;refine c_d rfl (fun hcd=>?_) (fun _=>by omega);refine s_t ?_;refine tr_seq ?_;refine tr_block ?_;refine s_r ?_;refine m_v rfl rfl ?_;refine m_v rfl rfl ?_;refine tr_val (rk_indexAddr (.of rfl) (.of rfl) ha' (by omega) hcd norm1_) rfl ?_;refine f_a rfl rfl norm0_ ?_;refine tr_val (rk_load1 (.of rfl) (At.base hx4 rfl)) rfl ?_;refine tr_val (rk_len_string (.of rfl)) rfl ?_;refine tr_val (rk_gtr (.of rfl) (.of rfl)) rfl ?_;refine n_t ?_;refine c_d rfl (fun hcd=>?_) (fun hcd=>?_);refine s_r ?_;refine a_s rfl rfl ?_;refine n_t ?_;refine tr_ret ?_;refine tr_blk_ret ?_;refine tr_then_ret ?_;refine tr_then_ret ?_;refine tr_blk_ret ?_;refine tr_then_ret ?_;refine tr_retE rfl (ends1 rfl rfl) ?_;rotate_left;refine tr_skip ?_;refine tr_blk_normal ?_;refine tr_then ?_;refine tr_region ?_;refine m_v rfl rfl ?_;refine tr_val (rk_add (.of rfl) (.of rfl) (ini (by omega))) rfl ?_;refine a_s rfl rfl ?_;refine n_t ?_;rotate_right)
    · have:shoB l = false:=by
        unfold shoB
        have:l.all (fun x=>decide (x.tx.size ≤ 40)) = false:=by
          rw [List.all_eq_false]
          exact ⟨l[k],List.getElem_mem hlt,by simp;omega⟩
        rw [this];rfl
      rw [this]
    · apply tr_next (k + 1) ⟨show k + 1 ≤ l.length from hlt,fun i hi hik=>by
        by_cases e:i = k
        · subst e;omega
        · exact hf i hi (by omega)⟩ (show l.length - (k + 1) < l.length - k by omega)
      case hs1=>exact .cons rfl (.cons rfl .nil)
      case ht=>(try simp only [List.take_zero,List.map_nil,List.nil_append]);exact .nil
  · obtain rfl:k = l.length:=by omega
    have hall:l.all (fun x=>decide (x.tx.size ≤ 40)) = true:=by
      rw [List.all_eq_true]
      intro x hx
      obtain ⟨i,hi,rfl⟩:=List.getElem_of_mem hx
      exact decide_eq_true (hf i hi hi)
    unfold shoB
    rw [hall,Bool.true_and]
    (refine tr_seq ?_;refine s_r ?_;refine m_v rfl rfl ?_;refine m_v rfl rfl ?_;refine tr_val (rk_len_slice (.of rfl)) rfl ?_;refine tr_val (rk_lss (.of rfl) (.of rfl)) rfl ?_;refine n_t ?_;refine c_d rfl (fun _=>by omega) (fun hcd=>?_);refine x_t ?_;refine tr_then_exit ?_;refine tr_blk_exit ?_;refine tr_then ?_;refine s_r ?_;refine m_v rfl rfl ?_;refine tr_val (rk_len_slice (.of rfl)) rfl ?_;refine tr_val (rk_leq (.of rfl) (.of rfl)) rfl ?_;refine m_v rfl rfl ?_;refine v_g rfl rfl rfl rfl ?_;refine tr_vG1 rfl rfl inferInstance (fun hg hgp=>(rk_len_slice (.ofg hg rfl))) rfl ?_;refine tr_vG1 rfl rfl inferInstance (fun hg hgp=>(rk_eql (.ofg hg rfl) (.of rfl))) rfl ?_;refine tr_val (rk_pick_or (.of rfl) rfl) rfl ?_;refine a_s rfl rfl ?_;refine n_t ?_;refine tr_ret ?_;refine tr_retE rfl (ends1 rfl rfl) ?_)
    congr 2
    · rw [decide_eq_decide];omega
    · rw [decide_eq_decide];omega
theorem conflictQ_c (x y:Cp) (hx:CpOk x) (hy:CpOk y) (w:World):GivesV Tryz.prog 129 [.agg x.cells.toArray,.agg y.cells.toArray] w (.bool (cflQ x y)):=by
  have h1:=hx.co;have h2:=hx.fit;have h3:=hy.co;have h4:=hy.fit
  have h5:=hx.ne;have h6:=hy.ne
  unfold Cp.cells
  refine givesV_of_tr Tryz.func129 rfl rfl ?_
  (refine s_r ?_;refine tr_new (rk_box (.of rfl) rfl) rfl (fun _ _=>?_);refine tr_new (rk_box (.of rfl) rfl) rfl (fun _ _=>?_);refine a_s rfl rfl ?_;refine n_r ?_;refine f_a rfl rfl norm0_ ?_;refine tr_val (rk_load1 (.of rfl) (At.lit (.there .here) rfl)) rfl ?_;refine f_a rfl rfl norm0_ ?_;refine tr_val (rk_load1 (.of rfl) (At.lit .here rfl)) rfl ?_;refine tr_val (rk_eql (.of rfl) (.of rfl)) rfl ?_;refine m_v rfl rfl ?_;refine tr_vG1 rfl rfl inferInstance (fun hg hgp=>(rk_fieldAddr (.of rfl) norm0_)) rfl ?_;refine tr_vG1 rfl rfl inferInstance (fun hg hgp=>(rk_fieldAddr (.ofg hg rfl) norm0_)) rfl ?_;refine tr_vG1 rfl rfl inferInstance (fun hg hgp=>(rk_load1 (.ofg hg rfl) (At.lit (.there .here) rfl))) rfl ?_;refine tr_vG1 rfl rfl inferInstance (fun hg hgp=>(rk_fieldAddr (.of rfl) norm0_)) rfl ?_;refine tr_vG1 rfl rfl inferInstance (fun hg hgp=>(rk_fieldAddr (.ofg hg rfl) norm0_)) rfl ?_;refine tr_vG1 rfl rfl inferInstance (fun hg hgp=>(rk_load1 (.ofg hg rfl) (At.lit .here rfl))) rfl ?_;refine tr_vG1 rfl rfl inferInstance (fun hg hgp=>(rk_lss (.ofg hg rfl) (.ofg hg rfl))) rfl ?_;refine tr_val (rk_pick_and (.of rfl) rfl) rfl ?_;refine m_v rfl rfl ?_;refine tr_vG1 rfl rfl inferInstance (fun hg hgp=>(rk_fieldAddr (.of rfl) norm0_)) rfl ?_;refine tr_vG1 rfl rfl inferInstance (fun hg hgp=>(rk_fieldAddr (.ofg hg rfl) norm0_)) rfl ?_;refine tr_vG1 rfl rfl inferInstance (fun hg hgp=>(rk_load1 (.ofg hg rfl) (At.lit .here rfl))) rfl ?_;refine tr_vG1 rfl rfl inferInstance (fun hg hgp=>(rk_fieldAddr (.of rfl) norm0_)) rfl ?_;refine tr_vG1 rfl rfl inferInstance (fun hg hgp=>(rk_fieldAddr (.ofg hg rfl) norm0_)) rfl ?_;refine tr_vG1 rfl rfl inferInstance (fun hg hgp=>(rk_load1 (.ofg hg rfl) (At.lit (.there .here) rfl))) rfl ?_;refine tr_vG1 rfl rfl inferInstance (fun hg hgp=>(rk_lss (.ofg hg rfl) (.ofg hg rfl))) rfl ?_;refine tr_val (rk_pick_and (.of rfl) rfl) rfl ?_;refine m_v rfl rfl ?_;refine tr_vG1 rfl rfl inferInstance (fun hg hgp=>(rk_fieldAddr (.of rfl) norm0_)) rfl ?_;refine tr_vG1 rfl rfl inferInstance (fun hg hgp=>(rk_load1 (.ofg hg rfl) (At.lit (.there .here) rfl))) rfl ?_;refine tr_vG1 rfl rfl inferInstance (fun hg hgp=>(rk_fieldAddr (.of rfl) norm0_)) rfl ?_;refine tr_vG1 rfl rfl inferInstance (fun hg hgp=>(rk_load1 (.ofg hg rfl) (At.lit .here rfl))) rfl ?_;refine tr_vG1 rfl rfl inferInstance (fun hg hgp=>(rk_fieldAddr (.of rfl) norm0_)) rfl ?_;refine tr_vG1 rfl rfl inferInstance (fun hg hgp=>(rk_load1 (.ofg hg rfl) (At.lit .here rfl))) rfl ?_;refine tr_vG1 rfl rfl inferInstance (fun hg hgp=>(rk_len_string (.ofg hg rfl))) rfl ?_;refine tr_vG1 rfl rfl inferInstance (fun hg hgp=>(rk_add (.ofg hg rfl) (.ofg hg rfl) (ini (by omega)))) rfl ?_;refine tr_vG1 rfl rfl inferInstance (fun hg hgp=>(rk_lss (.ofg hg rfl) (.ofg hg rfl))) rfl ?_;refine tr_val (rk_pick_and (.of rfl) rfl) rfl ?_;refine m_v rfl rfl ?_;refine tr_vG1 rfl rfl inferInstance (fun hg hgp=>(rk_fieldAddr (.of rfl) norm0_)) rfl ?_;refine tr_vG1 rfl rfl inferInstance (fun hg hgp=>(rk_load1 (.ofg hg rfl) (At.lit .here rfl))) rfl ?_;refine tr_vG1 rfl rfl inferInstance (fun hg hgp=>(rk_fieldAddr (.of rfl) norm0_)) rfl ?_;refine tr_vG1 rfl rfl inferInstance (fun hg hgp=>(rk_load1 (.ofg hg rfl) (At.lit (.there .here) rfl))) rfl ?_;refine tr_vG1 rfl rfl inferInstance (fun hg hgp=>(rk_fieldAddr (.of rfl) norm0_)) rfl ?_;refine tr_vG1 rfl rfl inferInstance (fun hg hgp=>(rk_load1 (.ofg hg rfl) (At.lit (.there .here) rfl))) rfl ?_;refine tr_vG1 rfl rfl inferInstance (fun hg hgp=>(rk_len_string (.ofg hg rfl))) rfl ?_;refine tr_vG1 rfl rfl inferInstance (fun hg hgp=>(rk_add (.ofg hg rfl) (.ofg hg rfl) (ini (by omega)))) rfl ?_;refine tr_vG1 rfl rfl inferInstance (fun hg hgp=>(rk_lss (.ofg hg rfl) (.ofg hg rfl))) rfl ?_;refine tr_val (rk_pick_and (.of rfl) rfl) rfl ?_;refine a_s rfl rfl ?_;refine n_t ?_;refine tr_ret ?_;refine tr_retE rfl (ends1 rfl rfl) ?_)
  unfold cflQ
  simp [Bool.and_assoc]
theorem cps_takeV {l:List Cp} {k:Nat} (h:k < l.length):cpsV (l.take (k + 1)) = cpsV (l.take k)++(l[k]).cells:=by
  rw [List.take_succ_eq_append_getElem h];unfold cpsV;rw [List.flatMap_append];simp
theorem capsV_c {lv:Value} {l:List Cp} {w:World} (h:Rd w lv 5 (cps l)) (hfew:l.length ≤ 4000) :
    Gives Tryz.prog 61 [lv] w [] (fun _:Value=>True) id (fun v=>[row 195 5 v l.length (cpsV l)]):=by
  obtain ⟨a,cp,b,o,rfl,hcap,hmax,ha,hc⟩:=h
  rw [cps_length] at *
  unfold maxLen at hmax
  refine gives_of_tr Tryz.func61 rfl rfl ?_
  (refine s_r ?_;refine a_s rfl rfl ?_;refine n_r ?_;refine a_s rfl rfl ?_;refine n_t ?_;refine tr_seq ?_;refine s_r ?_;refine m_v rfl rfl ?_;refine tr_val (rk_len_slice (.of rfl)) rfl ?_;refine m_v rfl rfl ?_;refine n_t ?_;refine tr_block ?_)
  refine tr_rowNil 195 5 ?_
  refine tr_for (ι:=Nat × Value) (fun x=>x.1 ≤ l.length) (fun x=>[(8,.int .i64 x.1),(7,.int .i64 l.length),(6,.slice a l.length cp),(3,x.2)]) (fun x=>[row 195 5 x.2 x.1 (cpsV (l.take x.1))]) (fun x=>l.length - x.1) ?_ ?_
  · apply tr_start (0,.slice none 0 0) (Nat.zero_le _)
    case hs1=>exact .cons rfl (.cons rfl (.cons rfl (.cons rfl .nil)))
    case ht=>
      show Takes _ [row 195 5 (.slice none 0 0) 0 []] _
      exact .cons .here .nil
  rintro ⟨k,v⟩ hk
  dsimp only at hk ⊢
  by_cases hlt:k < l.length
  · have ha':=ha (cps_ne hlt)
    have hcell:=(hc k _ (cps_get hlt)).2
    have htk:=cps_takeV hlt
    have hlk:(l.take k).length = k:=List.length_take_of_le (by omega)
    have hol:(cpsV (l.take k)).length = k * 5:=by rw [cpsV_len,hlk]
    generalize l[k] = x at hcell htk
    dsimp only [Cp.cells] at hcell htk
    (refine s_r ?_;refine tr_val (rk_lss (.of rfl) (.of rfl)) rfl ?_;refine n_t ?_;refine tr_seq ?_;refine c_d rfl (fun hcd=>?_) (fun _=>by omega);refine s_t ?_;refine tr_seq ?_;refine tr_block ?_;refine s_r ?_;refine tr_val (rk_indexAddr (.of rfl) (.of rfl) ha' (by omega) hcd norm1_) rfl ?_;refine tr_val (rk_loadN (.of rfl) (Ats.base hcell rfl) rfl) rfl ?_;refine tr_new (rk_alloc rfl) rfl (fun _ _=>?_);refine tr_store (.of rfl) (.of rfl) .here rfl rfl (okc_cons rfl (okc_cons rfl (okc_cons rfl (okc_cons rfl (okc_cons rfl okc_nil))))) (lenb rfl) norm_ ?_;refine n_t ?_;refine tr_region ?_;refine m_v rfl rfl ?_;refine tr_val (rk_loadB (.of rfl) .here norm_ (by rfl)) rfl ?_;refine tr_new (rk_sliceLitN (.cons (.of rfl) .nil) rfl rfl normp_ normp_ norm_) rfl (fun _ _=>?_))
    refine tr_appendB (.of rfl) (.of rfl) (.there (.there .here)) .here norm_ (by rfl) (okc_cons rfl (okc_cons rfl (okc_cons rfl (okc_cons rfl (okc_cons rfl okc_nil))))) (by rfl) (by rfl) (by rfl) lenx_ (by rfl) ?_
    intro v'
    (refine a_s rfl rfl ?_;refine tr_nil ?_;refine tr_blk_normal ?_;refine tr_then ?_;refine tr_region ?_;refine tr_val (rk_add (.of rfl) (.of rfl) (ini (by omega))) rfl ?_;refine m_v rfl rfl ?_;refine n_t ?_)
    apply tr_next (k + 1,v') (by show k + 1 ≤ l.length;omega) (by show l.length - (k + 1) < l.length - k;omega)
    case hs1=>exact .cons rfl (.cons rfl (.cons rfl (.cons rfl .nil)))
    case ht=>
      show Takes _ [row 195 5 v' (k + 1) (cpsV (l.take (k + 1)))] _
      rw [htk]
      exact .cons .here .nil
  · obtain rfl:k = l.length:=by omega
    rw [List.take_length]
    (refine s_r ?_;refine tr_val (rk_lss (.of rfl) (.of rfl)) rfl ?_;refine n_t ?_;refine tr_seq ?_;refine c_d rfl (fun _=>by omega) (fun hcd=>?_);refine x_t ?_;refine tr_then_exit ?_;refine tr_blk_exit ?_;refine tr_then ?_;refine s_r ?_;refine m_v rfl rfl ?_;refine a_s rfl rfl ?_;refine n_t ?_;refine tr_ret ?_)
    first | with_reducible apply tr_retM | with_reducible apply tr_endM
    case he=>exact ends1 rfl rfl
    case hR=>
      intro w' hm'
      exact gives_end v trivial (by exact .cons .here .nil) hm' rfl
end Go.Proofs.A1
