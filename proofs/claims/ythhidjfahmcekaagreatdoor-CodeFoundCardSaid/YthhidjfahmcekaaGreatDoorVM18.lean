/- Parts of the proof: U28 U30 U33 U34 U36. -/
import Derived.Test.YthhidjfahmcekaaGreatDoorVM17
import Derived.Test.YthhidjfahmcekaaGreatDoorVM06
import Derived.Test.YthhidjfahmcekaaGreatDoorVM10
import Derived.Test.YthhidjfahmcekaaGreatDoorVM12
set_option linter.unusedSectionVars false
set_option linter.unusedVariables false
set_option linter.unusedSimpArgs false
namespace Go.Proofs.A1
open Go Go.SL
theorem tr_cutW {c:Cx} {D:List Nat} {sl:Slots} {hs rest:List Asn} {X:Act → World → Prop} (sl2:Slots) (hs2:List Asn) (h1:Subs sl sl2) (ht:Takes hs hs2 rest) (k:Tr c D sl2 hs2 X):Tr c D sl hs X:=fun a w hst=>k a w (hst.weaken h1 ht)
theorem rk_pickB {P:Program} {c:Cx} {sl:Slots} {hs:List Asn} {dst:Option Tmp} {ty:TypeId} {pos:String} {af:Array Edge} {g:Option (Nat × Bool)} {x y z:Operand} {q:Bool} {v u V:Value} (hx:Is sl x (.bool q)) (hy:Is sl y v) (hz:Is sl z u) (e:(bif q then v else u) = V):RunV P c sl hs ⟨dst,.pick x y z,ty,pos,af,g⟩ V:=e ▸ rk_pick hx hy hz
theorem tr_cutH {c:Cx} {D:List Nat} {sl:Slots} {hs rest:List Asn} {X:Act → World → Prop} (hs2:List Asn) (ht:Takes hs hs2 rest) (k:Tr c D sl hs2 X):Tr c D sl hs X:=fun a w hst=>k a w (hst.heap (by
  have h1:=hst.mem.takes (ht.append (mks D))
  obtain ⟨kk,fp,hn,hsat,hb⟩:=h1
  obtain ⟨f1,f23,rfl,g1,g23⟩:=Sats.append_iff.1 hsat
  obtain ⟨f2,f3,rfl,g2,g3⟩:=Sats.append_iff.1 g23
  obtain ⟨n1,n23,n12⟩:=List.nodup_append.1 hn
  obtain ⟨n2,n3,n4⟩:=List.nodup_append.1 n23
  exact ⟨kk,f1++f3,List.nodup_append.2 ⟨n1,n3,fun x hx y hy=>n12 x hx y (List.mem_append_right _ hy)⟩,Sats.append_iff.2 ⟨f1,f3,rfl,g1,g3⟩,fun b hb'=>hb b (by
    rcases List.mem_append.1 hb' with h | h
    · exact List.mem_append_left _ h
    · exact List.mem_append_right _ (List.mem_append_right _ h))⟩))
set_option maxHeartbeats 8000000 in
theorem awake_c (w:World) (hG:GlobR w) (hT:Tab10 w):GivesV Tryz.prog 27 [] w (.bool true):=by
  refine givesV_of_tr Tryz.func27 rfl rfl ?_
  (refine s_r ?_;refine a_s rfl rfl ?_;refine n_r ?_;refine tr_callV (rk_call (.of rfl) .nil inferInstance normc_) rfl (fun w' hm'=>(drop_l w')) ?_;refine tr_callV (rk_call (.of rfl) (.cons (.of rfl) .nil) inferInstance normc_) rfl (fun w' hm'=>(aw_day w' (GlobR.keeps hG (Mem.keeps hm')))) ?_;refine m_v rfl rfl ?_;refine tr_val (rk_extract (.of rfl) rfl) rfl ?_;refine tr_val (rk_extract (.of rfl) rfl) rfl ?_;refine a_s rfl rfl ?_;refine a_s rfl rfl ?_;refine n_r ?_;refine tr_callV (rk_call (.of rfl) .nil inferInstance normc_) rfl (fun w' hm'=>(drop_l w')) ?_;refine tr_val (rk_buildL (.cons (.of rfl) (.cons (.of rfl) .nil)) norm_) rfl ?_;refine tr_callV (rk_call (.of rfl) (.cons (.of rfl) (.cons (.of rfl) .nil)) inferInstance normc_) rfl (fun w' hm'=>(aw_fr1 w' (GlobR.keeps hG (Mem.keeps hm')))) ?_;refine m_v rfl rfl ?_;refine tr_val (rk_extract (.of rfl) rfl) rfl ?_;refine tr_val (rk_extract (.of rfl) rfl) rfl ?_;refine a_s rfl rfl ?_;refine a_s rfl rfl ?_;refine n_r ?_;refine tr_callV (rk_call (.of rfl) .nil inferInstance normc_) rfl (fun w' hm'=>(drop_l w')) ?_;refine tr_callV (rk_call (.of rfl) (.cons (.of rfl) (.cons (.of rfl) .nil)) inferInstance normc_) rfl (fun w' hm'=>(aw_lof w' (GlobR.keeps hG (Mem.keeps hm')))) ?_;refine m_v rfl rfl ?_;refine tr_val (rk_extract (.of rfl) rfl) rfl ?_;refine tr_val (rk_extract (.of rfl) rfl) rfl ?_;refine tr_new (rk_alloc rfl) rfl (fun _ _=>?_);refine tr_store (.of rfl) (.of rfl) .here rfl rfl (okc_cons rfl (okc_cons rfl (okc_cons rfl (okc_cons rfl okc_nil)))) (lenb rfl) norm_ ?_;refine a_s rfl rfl ?_;refine n_r ?_;refine tr_callV (rk_call (.of rfl) .nil inferInstance normc_) rfl (fun w' hm'=>(drop_l w')) ?_;refine tr_val (rk_buildL (.cons (.of rfl) .nil) norm_) rfl ?_;refine tr_callV (rk_call (.of rfl) (.cons (.of rfl) (.cons (.of rfl) .nil)) inferInstance normc_) rfl (fun w' hm'=>(aw_fr2 w' (GlobR.keeps hG (Mem.keeps hm')))) ?_;refine m_v rfl rfl ?_;refine tr_val (rk_extract (.of rfl) rfl) rfl ?_;refine tr_val (rk_extract (.of rfl) rfl) rfl ?_;refine a_s rfl rfl ?_;refine a_s rfl rfl ?_;refine n_r ?_;refine tr_callV (rk_call (.of rfl) .nil inferInstance normc_) rfl (fun w' hm'=>(drop_l w')) ?_;refine tr_val (rk_buildL (.cons (.of rfl) .nil) norm_) rfl ?_;refine tr_callV (rk_call (.of rfl) (.cons (.of rfl) (.cons (.of rfl) .nil)) inferInstance normc_) rfl (fun w' hm'=>(aw_fr3 w' (GlobR.keeps hG (Mem.keeps hm')))) ?_;refine m_v rfl rfl ?_;refine tr_val (rk_extract (.of rfl) rfl) rfl ?_;refine tr_val (rk_extract (.of rfl) rfl) rfl ?_;refine a_s rfl rfl ?_;refine a_s rfl rfl ?_;refine n_r ?_;refine tr_val (rk_buildL (.cons (.of rfl) .nil) norm_) rfl ?_;refine tr_val (rk_buildL (.cons (.of rfl) (.cons (.of rfl) (.cons (.of rfl) (.cons (.of rfl) .nil)))) norm_) rfl ?_;refine tr_callV (rk_call (.of rfl) (.cons (.of rfl) (.cons (.of rfl) (.cons (.of rfl) .nil))) inferInstance normc_) rfl (fun w' hm'=>(aw_ad1 w' (GlobR.keeps hG (Mem.keeps hm')))) ?_;refine m_v rfl rfl ?_;refine tr_val (rk_extract (.of rfl) rfl) rfl ?_;refine tr_val (rk_extract (.of rfl) rfl) rfl ?_;refine tr_new (rk_alloc rfl) rfl (fun _ _=>?_);refine tr_store (.of rfl) (.of rfl) .here rfl rfl (okc_cons rfl (okc_cons rfl (okc_cons rfl (okc_cons rfl okc_nil)))) (lenb rfl) norm_ ?_;refine a_s rfl rfl ?_;refine n_r ?_;refine tr_callV (rk_call (.of rfl) .nil inferInstance normc_) rfl (fun w' hm'=>(drop_l w')) ?_;refine tr_val (rk_buildL .nil norm_) rfl ?_;refine tr_callV (rk_call (.of rfl) (.cons (.of rfl) (.cons (.of rfl) (.cons (.of rfl) .nil))) inferInstance normc_) rfl (fun w' hm'=>(aw_ad2 w' (GlobR.keeps hG (Mem.keeps hm')))) ?_;refine m_v rfl rfl ?_;refine tr_val (rk_extract (.of rfl) rfl) rfl ?_;refine tr_val (rk_extract (.of rfl) rfl) rfl ?_;refine tr_new (rk_alloc rfl) rfl (fun _ _=>?_);refine tr_store (.of rfl) (.of rfl) .here rfl rfl (okc_cons rfl (okc_cons rfl (okc_cons rfl (okc_cons rfl okc_nil)))) (lenb rfl) norm_ ?_;refine a_s rfl rfl ?_;refine n_r ?_;refine tr_callV (rk_call (.of rfl) .nil inferInstance normc_) rfl (fun w' hm'=>(stamp_l w')) ?_;refine tr_callV (rk_call (.of rfl) (.cons (.of rfl) .nil) inferInstance normc_) rfl (fun w' hm'=>(aw_wr w' (GlobR.keeps hG (Mem.keeps hm')))) ?_;refine m_v rfl rfl ?_;refine tr_val (rk_extract (.of rfl) rfl) rfl ?_;refine tr_val (rk_extract (.of rfl) rfl) rfl ?_;refine tr_new (rk_alloc rfl) rfl (fun _ _=>?_);refine tr_store (.of rfl) (.of rfl) .here rfl rfl (okc_cons rfl (okc_cons rfl (okc_cons rfl (okc_cons rfl (okc_cons rfl (okc_cons rfl (okc_cons rfl (okc_cons rfl (okc_cons rfl (okc_cons rfl okc_nil)))))))))) (lenb rfl) norm_ ?_;refine a_s rfl rfl ?_;refine n_t ?_;refine tr_seq ?_)
  rename_i b5 hb5 b11 hb11 b13 hb13 b15 hb15
  generalize hQ:Exit.then _ _ = Q
  suffices hk:∀ (v17 v18:Value),Tr _ _ [(17,v17),(18,v18),(19,.int .i64 0),(1,.int .i64 2589408),(2,.int .i64 0),(3,.int .i64 1799),(4,.int .i64 0),(5,.pointer (some ⟨b5,0,none⟩)),(6,.int .i64 0),(7,.int .i64 17982),(8,.int .i64 0),(10,.int .i64 7),(11,.pointer (some ⟨b11,0,none⟩)),(12,.int .i64 0),(13,.pointer (some ⟨b13,0,none⟩)),(14,.int .i64 0),(15,.pointer (some ⟨b15,0,none⟩)),(16,.int .i64 0)] [row 55 7 v17 1 stmA.cells,row 3 1 v18 1 [.int .i64 10],blk b5 (.cells #[.int .i64 0,.int .i64 1,.int .i64 0,.int .i64 2] 32 (0,0)),blk b11 (.cells #[.int .i64 0,.int .i64 0,.int .i64 0,.int .i64 0] 32 (0,0)),blk b13 (.cells #[.int .i64 23,.int .i64 59,.int .i64 59,.int .i64 29] 32 (0,0)),blk b15 (.cells #[.int .u8 4,.int .u8 3,.int .u8 2,.int .u8 1,.int .u8 158,.int .u8 1,.int .u8 2,.int .u8 153,.int .u8 63,.int .u8 253] 51 (0,0))] (Q .normal) by
    with_reducible refine tr_left 13 rfl ?_
    refine left_take 3 rfl kr_ kr_ kr_ (fun w ρ=>rfl) (fun w=>(rk_sliceA (.of rfl))) rfl ?_
    refine left_ready (rs:=[0,1]) (by kernel_rfl) (by simp) (List.forall_mem_cons.2 ⟨?_,List.forall_mem_cons.2 ⟨?_,fun _ h=>absurd h List.not_mem_nil⟩⟩)
    · refine next_step rfl ?_
      (refine tr_new (rk_sliceLit (.cons (.of rfl) .nil) rfl rfl rfl rfl) rfl (fun _ _=>?_);refine n_t ?_)
      rename_i g0 hg0
      refine left_ready (rs:=[1]) (by kernel_rfl) (by simp) (List.forall_mem_cons.2 ⟨?_,fun _ h=>absurd h List.not_mem_nil⟩)
      refine next_step rfl ?_
      (refine tr_new (rk_sliceLit (.cons (.of rfl) (.cons (.of rfl) (.cons (.of rfl) (.cons (.of rfl) (.cons (.of rfl) (.cons (.of rfl) (.cons (.of rfl) (.cons (.of rfl) (.cons (.of rfl) .nil))))))))) rfl rfl rfl rfl) rfl (fun _ _=>?_);refine n_t ?_)
      rename_i g1 hg1
      refine tr_rowLitE (g:=g0) (E:=5) (ys:=[.int .u8 7]) 1 1 (by exact Take.there .here) (by exact rfl) rfl rfl ?_
      refine left_ready (rs:=[2]) (by kernel_rfl) (by simp) (List.forall_mem_cons.2 ⟨?_,fun _ h=>absurd h List.not_mem_nil⟩)
      refine next_step rfl ?_
      refine tr_appendB (.of rfl) (.of rfl) .here (.there .here) norm_ (by rfl) (okc_cons rfl (okc_cons rfl (okc_cons rfl (okc_cons rfl (okc_cons rfl (okc_cons rfl (okc_cons rfl (okc_cons rfl (okc_cons rfl okc_nil))))))))) (by rfl) (by rfl) (by rfl) lenx_ (by rfl) ?_
      intro v90
      (refine n_t ?_)
      refine left_ready (rs:=[4]) (by kernel_rfl) (by simp) (List.forall_mem_cons.2 ⟨?_,fun _ h=>absurd h List.not_mem_nil⟩)
      refine next_step rfl ?_
      refine tr_appendB (.of rfl) (.of rfl) .here (.there (.there .here)) norm_ (by rfl) (okc_cons rfl (okc_cons rfl (okc_cons rfl (okc_cons rfl (okc_cons rfl (okc_cons rfl (okc_cons rfl (okc_cons rfl (okc_cons rfl (okc_cons rfl okc_nil)))))))))) (by rfl) (by rfl) (by rfl) lenx_ (by rfl) ?_
      intro v92
      (refine n_t ?_)
      refine left_ready (rs:=[5]) (by kernel_rfl) (by simp) (List.forall_mem_cons.2 ⟨?_,fun _ h=>absurd h List.not_mem_nil⟩)
      refine next_step rfl ?_
      with_reducible apply tr_call
      case hr=>exact rk_call (.of rfl) (.cons (.of rfl) .nil) inferInstance normc_
      case hd=>rfl
      case ht=>exact Takes.nil
      case hc=>
        intro w1 fp hm1 _ hs1
        obtain rfl:fp = []:=hs1
        exact aw_fnd (Mem.rdRow (v:=v92) (E:=5) (sz:=1) (xs:=byts strA) hm1 (by exact .here) (by exact rfl) (byts_sz _) (by exact rfl)) (hG.keeps hm1.keeps)
      rintro ⟨v17,v18⟩ _
      dsimp only [id_eq,List.cons_append,List.nil_append]
      (refine n_t ?_)
      (refine left_take 6 rfl kr_ kr_ kr_ (fun w ρ=>rfl) (fun w=>(rk_move (.of rfl))) rfl ?_;refine left_take 7 rfl kr_ kr_ kr_ (fun w ρ=>rfl) (fun w=>(rk_extract (.of rfl) rfl)) rfl ?_;refine left_take 8 rfl kr_ kr_ kr_ (fun w ρ=>rfl) (fun w=>(rk_extract (.of rfl) rfl)) rfl ?_;refine left_take 9 rfl kr_ kr_ kr_ (fun w ρ=>rfl) (fun w=>(rk_extract (.of rfl) rfl)) rfl ?_;refine left_take 10 rfl kr_ kr_ kr_ (fun w ρ=>rfl) (fun w=>(rk_assign (.of rfl))) rfl ?_;refine left_take 11 rfl kr_ kr_ kr_ (fun w ρ=>rfl) (fun w=>(rk_assign (.of rfl))) rfl ?_;refine left_take 12 rfl kr_ kr_ kr_ (fun w ρ=>rfl) (fun w=>(rk_assign (.of rfl))) rfl ?_)
      with_reducible refine left_done (by kernel_rfl) ?_
      exact tr_cutW _ _ (by exact .cons rfl (.cons rfl (.cons rfl (.cons rfl (.cons rfl (.cons rfl (.cons rfl (.cons rfl (.cons rfl (.cons rfl (.cons rfl (.cons rfl (.cons rfl (.cons rfl (.cons rfl (.cons rfl (.cons rfl (.cons rfl .nil)))))))))))))))))) (by exact .cons .here (.cons .here (.cons (.there (.there (.there (.there (.there .here))))) (.cons (.there (.there (.there (.there .here)))) (.cons (.there (.there (.there .here))) (.cons (.there (.there .here)) .nil)))))) (hk v17 v18)
    · refine next_step rfl ?_
      (refine tr_new (rk_sliceLit (.cons (.of rfl) (.cons (.of rfl) (.cons (.of rfl) (.cons (.of rfl) (.cons (.of rfl) (.cons (.of rfl) (.cons (.of rfl) (.cons (.of rfl) (.cons (.of rfl) .nil))))))))) rfl rfl rfl rfl) rfl (fun _ _=>?_);refine n_t ?_)
      rename_i g1 hg1
      refine left_ready (rs:=[0]) (by kernel_rfl) (by simp) (List.forall_mem_cons.2 ⟨?_,fun _ h=>absurd h List.not_mem_nil⟩)
      refine next_step rfl ?_
      (refine tr_new (rk_sliceLit (.cons (.of rfl) .nil) rfl rfl rfl rfl) rfl (fun _ _=>?_);refine n_t ?_)
      rename_i g0 hg0
      refine tr_rowLitE (g:=g0) (E:=5) (ys:=[.int .u8 7]) 1 1 (by exact .here) (by exact rfl) rfl rfl ?_
      refine left_ready (rs:=[2]) (by kernel_rfl) (by simp) (List.forall_mem_cons.2 ⟨?_,fun _ h=>absurd h List.not_mem_nil⟩)
      refine next_step rfl ?_
      refine tr_appendB (.of rfl) (.of rfl) .here (.there .here) norm_ (by rfl) (okc_cons rfl (okc_cons rfl (okc_cons rfl (okc_cons rfl (okc_cons rfl (okc_cons rfl (okc_cons rfl (okc_cons rfl (okc_cons rfl okc_nil))))))))) (by rfl) (by rfl) (by rfl) lenx_ (by rfl) ?_
      intro v90
      (refine n_t ?_)
      refine left_ready (rs:=[4]) (by kernel_rfl) (by simp) (List.forall_mem_cons.2 ⟨?_,fun _ h=>absurd h List.not_mem_nil⟩)
      refine next_step rfl ?_
      refine tr_appendB (.of rfl) (.of rfl) .here (.there (.there .here)) norm_ (by rfl) (okc_cons rfl (okc_cons rfl (okc_cons rfl (okc_cons rfl (okc_cons rfl (okc_cons rfl (okc_cons rfl (okc_cons rfl (okc_cons rfl (okc_cons rfl okc_nil)))))))))) (by rfl) (by rfl) (by rfl) lenx_ (by rfl) ?_
      intro v92
      (refine n_t ?_)
      refine left_ready (rs:=[5]) (by kernel_rfl) (by simp) (List.forall_mem_cons.2 ⟨?_,fun _ h=>absurd h List.not_mem_nil⟩)
      refine next_step rfl ?_
      with_reducible apply tr_call
      case hr=>exact rk_call (.of rfl) (.cons (.of rfl) .nil) inferInstance normc_
      case hd=>rfl
      case ht=>exact Takes.nil
      case hc=>
        intro w1 fp hm1 _ hs1
        obtain rfl:fp = []:=hs1
        exact aw_fnd (Mem.rdRow (v:=v92) (E:=5) (sz:=1) (xs:=byts strA) hm1 (by exact .here) (by exact rfl) (byts_sz _) (by exact rfl)) (hG.keeps hm1.keeps)
      rintro ⟨v17,v18⟩ _
      dsimp only [id_eq,List.cons_append,List.nil_append]
      (refine n_t ?_)
      (refine left_take 6 rfl kr_ kr_ kr_ (fun w ρ=>rfl) (fun w=>(rk_move (.of rfl))) rfl ?_;refine left_take 7 rfl kr_ kr_ kr_ (fun w ρ=>rfl) (fun w=>(rk_extract (.of rfl) rfl)) rfl ?_;refine left_take 8 rfl kr_ kr_ kr_ (fun w ρ=>rfl) (fun w=>(rk_extract (.of rfl) rfl)) rfl ?_;refine left_take 9 rfl kr_ kr_ kr_ (fun w ρ=>rfl) (fun w=>(rk_extract (.of rfl) rfl)) rfl ?_;refine left_take 10 rfl kr_ kr_ kr_ (fun w ρ=>rfl) (fun w=>(rk_assign (.of rfl))) rfl ?_;refine left_take 11 rfl kr_ kr_ kr_ (fun w ρ=>rfl) (fun w=>(rk_assign (.of rfl))) rfl ?_;refine left_take 12 rfl kr_ kr_ kr_ (fun w ρ=>rfl) (fun w=>(rk_assign (.of rfl))) rfl ?_)
      with_reducible refine left_done (by kernel_rfl) ?_
      exact tr_cutW _ _ (by exact .cons rfl (.cons rfl (.cons rfl (.cons rfl (.cons rfl (.cons rfl (.cons rfl (.cons rfl (.cons rfl (.cons rfl (.cons rfl (.cons rfl (.cons rfl (.cons rfl (.cons rfl (.cons rfl (.cons rfl (.cons rfl .nil)))))))))))))))))) (by exact .cons .here (.cons .here (.cons (.there (.there (.there (.there (.there .here))))) (.cons (.there (.there (.there (.there .here)))) (.cons (.there (.there (.there .here))) (.cons (.there (.there .here)) .nil)))))) (hk v17 v18)
  subst hQ
  intro v17 v18
  (refine tr_then ?_;refine s_r ?_;refine tr_new (rk_sliceLit (.cons (.of rfl) (.cons (.of rfl) .nil)) rfl rfl rfl rfl) rfl (fun _ _=>?_))
  with_reducible apply tr_call
  case hr=>exact rk_call (.of rfl) (.cons (.of rfl) .nil) inferInstance normc_
  case hd=>rfl
  case ht=>exact Takes.nil
  case hc=>
    intro w1 fp hm1 _ hs1
    obtain rfl:fp = []:=hs1
    exact aw_rev (Mem.rdBlk hm1 (by exact .here) rfl rfl)
  intro v20 _
  dsimp only [id_eq,List.cons_append,List.nil_append]
  (refine m_v rfl rfl ?_;refine tr_val (rk_extract (.of rfl) rfl) rfl ?_;refine tr_val (rk_extract (.of rfl) rfl) rfl ?_;refine a_s rfl rfl ?_;refine a_s rfl rfl ?_;refine n_t ?_;refine tr_seq ?_;refine tr_seq ?_)
  refine tr_rowOpen (E:=55) (sz:=7) (v:=v17) (by exact Take.there (.there .here)) (Nat.zero_lt_one) ?_
  rintro g17 c17 cur17 e17 hcap17 _ _ _
  subst e17
  refine tr_rowOpen (E:=5) (sz:=1) (v:=v20) (by exact Take.there .here) (Nat.zero_lt_two) ?_
  rintro g20 c20 cur20 e20 hcap20 _ _ _
  subst e20
  have hc17:cellsAt (stmA.cells++cur17) (0 * 7) 7 = [.int .i64 30,.bool true,.int .i64 1,.int .i64 2,.int .i64 3,.int .i64 4,.int .i64 258]:=by rw [cellsAt_eq];rfl
  with_reducible refine tr_drawM 77 (by kernel_rfl) ?_
  dsimp only [List.append]
  (refine am_val (fun β=>(rk_move (.of rfl))) ind0 rfl ?_;refine am_val (fun β=>(rk_move (.of rfl))) ind0 rfl ?_;refine am_val (fun β=>(rk_add (.of rfl) (.of rfl) (ini (by omega)))) ind0 rfl ?_;refine am_val (fun β=>(rk_move (.of rfl))) ind0 rfl ?_;refine am_val (fun β=>(rk_add (.of rfl) (.of rfl) (ini (by omega)))) ind0 rfl ?_;refine am_val (fun β=>(rk_move (.of rfl))) ind0 rfl ?_;refine am_val (fun β=>(rk_add (.of rfl) (.of rfl) (ini (by omega)))) ind0 rfl ?_;refine am_val (fun β=>(rk_move (.of rfl))) ind0 rfl ?_;refine am_val (fun β=>(rk_add (.of rfl) (.of rfl) (ini (by omega)))) ind0 rfl ?_;refine am_val (fun β=>(rk_move (.of rfl))) ind0 rfl ?_;refine am_val (fun β=>(rk_add (.of rfl) (.of rfl) (ini (by omega)))) ind0 rfl ?_;refine am_val (fun β=>(rk_move (.of rfl))) ind0 rfl ?_;refine am_val (fun β=>(rk_add (.of rfl) (.of rfl) (ini (by omega)))) ind0 rfl ?_;refine am_val (fun β=>(rk_move (.of rfl))) ind0 rfl ?_;refine am_val (fun β=>(rk_add (.of rfl) (.of rfl) (ini (by omega)))) ind0 rfl ?_;refine am_val (fun β=>(rk_move (.of rfl))) ind0 rfl ?_;refine am_val (fun β=>(rk_add (.of rfl) (.of rfl) (ini (by omega)))) ind0 rfl ?_;refine am_val (fun β=>(rk_neq (.of rfl) (.of rfl))) ind0 rfl ?_;refine am_val (fun β=>(rk_move (.of rfl))) ind0 rfl ?_;refine am_gOn rfl (fun _=>rfl) ?_;refine am_val (fun β=>(rk_move (.of rfl))) ind0 rfl ?_;refine am_gOn rfl (fun _=>rfl) ?_;refine am_val (fun β=>(rk_neq (.of rfl) (.of rfl))) ind0 rfl ?_;refine am_val (fun β=>(rk_pickB (.of rfl) (.of rfl) (.of rfl) rfl)) ind0 rfl ?_;refine am_val (fun β=>(rk_move (.of rfl))) ind0 rfl ?_;refine am_gOn rfl (fun _=>rfl) ?_;refine am_val (fun β=>(rk_move (.of rfl))) ind0 rfl ?_;refine am_gOn rfl (fun _=>rfl) ?_;refine am_val (fun β=>(rk_neq (.of rfl) (.of rfl))) ind0 rfl ?_;refine am_val (fun β=>(rk_pickB (.of rfl) (.of rfl) (.of rfl) rfl)) ind0 rfl ?_;refine am_val (fun β=>(rk_move (.of rfl))) ind0 rfl ?_;refine am_gOn rfl (fun _=>rfl) ?_;refine am_val (fun β=>(rk_move (.of rfl))) ind0 rfl ?_;refine am_gOn rfl (fun _=>rfl) ?_;refine am_val (fun β=>(rk_neq (.of rfl) (.of rfl))) ind0 rfl ?_;refine am_val (fun β=>(rk_pickB (.of rfl) (.of rfl) (.of rfl) rfl)) ind0 rfl ?_;refine am_val (fun β=>(rk_move (.of rfl))) ind0 rfl ?_;refine am_gOn rfl (fun _=>rfl) ?_;refine am_val (fun β=>(rk_loadB (.of rfl) (.there (.there (.there (.there .here)))) norm_ (by rfl))) ind0 rfl ?_;refine am_gOn rfl (fun _=>rfl) ?_;refine am_val (fun β=>(rk_buildL (.cons (.of rfl) (.cons (.of rfl) .nil)) norm_)) ind0 rfl ?_;refine am_gOn rfl (fun _=>rfl) ?_;refine am_val (fun β=>(rk_neqA (.of rfl) (.of rfl) (okL_int (okL_int (okL_int (okL_int okL_nil)))) rfl)) ind0 rfl ?_;refine am_val (fun β=>(rk_pickB (.of rfl) (.of rfl) (.of rfl) rfl)) ind0 rfl ?_;refine am_val (fun β=>(rk_move (.of rfl))) ind0 rfl ?_;refine am_gOn rfl (fun _=>rfl) ?_;refine am_val (fun β=>(rk_move (.of rfl))) ind0 rfl ?_;refine am_gOn rfl (fun _=>rfl) ?_;refine am_val (fun β=>(rk_neq (.of rfl) (.of rfl))) ind0 rfl ?_;refine am_val (fun β=>(rk_pickB (.of rfl) (.of rfl) (.of rfl) rfl)) ind0 rfl ?_;refine am_val (fun β=>(rk_move (.of rfl))) ind0 rfl ?_;refine am_gOn rfl (fun _=>rfl) ?_;refine am_val (fun β=>(rk_loadB (.of rfl) (.there (.there (.there (.there (.there .here))))) norm_ (by rfl))) ind0 rfl ?_;refine am_gOn rfl (fun _=>rfl) ?_;refine am_val (fun β=>(rk_buildL .nil norm_)) ind0 rfl ?_;refine am_gOn rfl (fun _=>rfl) ?_;refine am_val (fun β=>(rk_neqA (.of rfl) (.of rfl) (okL_int (okL_int (okL_int (okL_int okL_nil)))) rfl)) ind0 rfl ?_;refine am_val (fun β=>(rk_pickB (.of rfl) (.of rfl) (.of rfl) rfl)) ind0 rfl ?_;refine am_val (fun β=>(rk_move (.of rfl))) ind0 rfl ?_;refine am_gOn rfl (fun _=>rfl) ?_;refine am_val (fun β=>(rk_loadB (.of rfl) (.there (.there (.there (.there (.there (.there .here)))))) norm_ (by rfl))) ind0 rfl ?_;refine am_gOn rfl (fun _=>rfl) ?_;refine am_val (fun β=>(rk_buildL (.cons (.of rfl) (.cons (.of rfl) (.cons (.of rfl) (.cons (.of rfl) .nil)))) norm_)) ind0 rfl ?_;refine am_gOn rfl (fun _=>rfl) ?_;refine am_val (fun β=>(rk_neqA (.of rfl) (.of rfl) (okL_int (okL_int (okL_int (okL_int okL_nil)))) rfl)) ind0 rfl ?_;refine am_val (fun β=>(rk_pickB (.of rfl) (.of rfl) (.of rfl) rfl)) ind0 rfl ?_;refine am_val (fun β=>(rk_move (.of rfl))) ind0 rfl ?_;refine am_gOn rfl (fun _=>rfl) ?_;refine am_val (fun β=>(rk_loadB (.of rfl) (.there (.there (.there (.there (.there (.there (.there .here))))))) norm_ (by rfl))) ind0 rfl ?_)
  refine am_gOn rfl (fun _=>rfl) ?_
  with_reducible apply am_callV (B:=[]) (F:=fun _=>.agg #[.int .u8 4,.int .u8 3,.int .u8 2,.int .u8 1,.int .u8 158,.int .u8 1,.int .u8 2,.int .u8 153,.int .u8 63,.int .u8 253]) (args:=fun _=>[])
  case hB=>rfl
  case hr=>exact fun β=>rk_call (.of rfl) .nil inferInstance rfl
  case hi=>exact ind0
  case hd=>rfl
  case hc=>exact fun β w' hb'=>word_l w'
  (refine am_gOn rfl (fun _=>rfl) ?_;refine am_val (fun β=>(rk_neqA (.of rfl) (.of rfl) (okL_int (okL_int (okL_int (okL_int (okL_int (okL_int (okL_int (okL_int (okL_int (okL_int okL_nil)))))))))) rfl)) ind0 rfl ?_;refine am_val (fun β=>(rk_pickB (.of rfl) (.of rfl) (.of rfl) rfl)) ind0 rfl ?_;refine am_val (fun β=>(rk_move (.of rfl))) ind0 rfl ?_;refine am_gOn rfl (fun _=>rfl) ?_;refine am_val (fun β=>(rk_move (.of rfl))) ind0 rfl ?_;refine am_gOn rfl (fun _=>rfl) ?_;refine am_val (fun β=>(rk_len_slice (.of rfl))) ind0 rfl ?_;refine am_gOn rfl (fun _=>rfl) ?_;refine am_val (fun β=>(rk_neq (.of rfl) (.of rfl))) ind0 rfl ?_;refine am_val (fun β=>(rk_pickB (.of rfl) (.of rfl) (.of rfl) rfl)) ind0 rfl ?_;refine am_val (fun β=>(rk_move (.of rfl))) ind0 rfl ?_;refine am_gOn rfl (fun _=>rfl) ?_;refine am_val (fun β=>(rk_move (.of rfl))) ind0 rfl ?_;refine am_gOn rfl (fun _=>rfl) ?_;refine am_val (fun β=>(rk_indexAddr (.of rfl) (.of rfl) rfl (by omega) (by omega) norm1_)) ind0 rfl ?_;refine am_gOn rfl (fun _=>rfl) ?_;refine am_val (fun β=>(rk_loadB (.of rfl) (.there .here) hc17 rfl)) ind0 rfl ?_)
  refine am_gOn rfl (fun _=>rfl) ?_
  with_reducible apply am_callV (B:=[]) (F:=fun _=>.agg #[.int .i64 30,.bool true,.int .i64 1,.int .i64 2,.int .i64 3,.int .i64 4,.int .i64 258]) (args:=fun _=>[])
  case hB=>rfl
  case hr=>exact fun β=>rk_call (.of rfl) .nil inferInstance rfl
  case hi=>exact ind0
  case hd=>rfl
  case hc=>exact fun β w' hb'=>stamp_l w'
  (refine am_gOn rfl (fun _=>rfl) ?_;refine am_val (fun β=>(rk_neqA (.of rfl) (.of rfl) (okL_int (okL_bool (okL_int (okL_int (okL_int (okL_int (okL_int okL_nil))))))) rfl)) ind0 rfl ?_;refine am_val (fun β=>(rk_pickB (.of rfl) (.of rfl) (.of rfl) rfl)) ind0 rfl ?_;refine am_val (fun β=>(rk_move (.of rfl))) ind0 rfl ?_;refine am_gOn rfl (fun _=>rfl) ?_;refine am_val (fun β=>(rk_move (.of rfl))) ind0 rfl ?_)
  refine am_gOn rfl (fun _=>rfl) ?_
  refine am_new (fun β=>(rk_sliceLit (.cons (.of rfl) .nil) rfl rfl rfl rfl)) (fun _ _ _=>rfl) rfl ?_
  dsimp only [Nat.zero_add,Nat.reduceAdd]
  refine am_gOn rfl (fun _=>rfl) ?_
  with_reducible apply am_callV (B:=[68]) (F:=fun _=>.bool true) (args:=fun β=>[v18,.slice (some ⟨gnat (β 68),0,none⟩) 1 1])
  case hB=>kernel_rfl
  case hr=>exact fun β=>rk_call (.of rfl) (.cons (.of rfl) (.cons (.of rfl) .nil)) inferInstance rfl
  case hi=>exact ind0
  case hd=>rfl
  case hc=>
    intro β w' hb'
    have m6:=hb'.at 68 List.mem_cons_self (s:=⟨fun β=>.slice (some ⟨gnat (β 68),0,none⟩) 1 1,fun β=>[blk (gnat (β 68)) (.cells #[.int .i64 10] 3)]⟩) (by kernel_rfl)
    dsimp only [List.cons_append,List.nil_append] at m6
    exact sameI_t (l:=[10]) (m:=[10]) (intg_rd (E:=3) (v:=v18) (n:=1) m6 (show Take _ (row 3 1 v18 1 [.int .i64 10]) _ from by exact Take.there (.there (.there (.there .here)))) rfl) (Mem.rdBlk m6 (by exact .here) rfl rfl)
  (refine am_gOn rfl (fun _=>rfl) ?_;refine am_val (fun β=>(rk_not (.of rfl))) ind0 rfl ?_;refine am_val (fun β=>(rk_pickB (.of rfl) (.of rfl) (.of rfl) rfl)) ind0 rfl ?_;refine am_val (fun β=>(rk_move (.of rfl))) ind0 rfl ?_;refine am_gOn rfl (fun _=>rfl) ?_;refine am_val (fun β=>(rk_move (.of rfl))) ind0 rfl ?_)
  refine am_gOn rfl (fun _=>rfl) ?_
  with_reducible apply am_val (F:=fun _=>.string ⟨#[64,128]⟩)
  case hr=>
    intro β
    show RunV _ _ _ _ _ (.string (strOf [64,128]))
    with_reducible apply rk_convBSn (ns:=[64,128])
    case hx=>exact Is.of rfl
    case hv=>exact Ats.blk (by exact .here) (show cellsAt ([Value.int .u8 64,Value.int .u8 128]++cur20) 0 2 = _ by rw [cellsAt_eq];rfl)
    case hl=>rfl
  case hi=>exact ind0
  case hd=>rfl
  (refine am_gOn rfl (fun _=>rfl) ?_;refine am_val (fun β=>(rk_neqs (.of rfl) (.of rfl))) ind0 rfl ?_;refine am_val (fun β=>(rk_pickB (.of rfl) (.of rfl) (.of rfl) rfl)) ind0 rfl ?_)
  refine am_end fun β=>?_
  dsimp only [resAll,List.nil_append,List.cons_append,List.append_eq,Nat.reduceAdd]
  with_reducible refine left_done (by kernel_rfl) ?_
  refine tr_cutH [] .nil ?_
  (refine tr_then ?_;refine tr_cond_f (.of rfl) ?_;refine s_t ?_;refine s_r ?_;refine tr_new (rk_sliceLit (.cons (.of rfl) (.cons (.of rfl) .nil)) rfl rfl rfl rfl) rfl (fun _ _=>?_))
  with_reducible apply tr_call
  case hr=>exact rk_call (.of rfl) (.cons (.of rfl) (.cons (.of rfl) .nil)) inferInstance normc_
  case hd=>rfl
  case ht=>exact Takes.nil
  case hc=>
    intro w1 fp hm1 _ hs1
    obtain rfl:fp = []:=hs1
    exact aw_pul (Mem.rdBlk hm1 (by exact .here) rfl rfl)
  intro v22 _
  dsimp only [id_eq,List.cons_append,List.nil_append]
  (refine m_v rfl rfl ?_;refine tr_val (rk_extract (.of rfl) rfl) rfl ?_;refine tr_val (rk_extract (.of rfl) rfl) rfl ?_;refine a_s rfl rfl ?_;refine a_s rfl rfl ?_;refine n_r ?_;refine tr_new (rk_sliceLit (.cons (.of rfl) (.cons (.of rfl) .nil)) rfl rfl rfl rfl) rfl (fun _ _=>?_);refine tr_val (rk_buildL (.cons (.of rfl) (.cons (.of rfl) .nil)) norm_) rfl ?_;refine tr_val (rk_buildL (.cons (.of rfl) (.cons (.of rfl) .nil)) norm_) rfl ?_;refine tr_val (rk_buildL (.cons (.of rfl) (.cons (.of rfl) .nil)) norm_) rfl ?_;refine tr_val (rk_buildL (.cons (.of rfl) (.cons (.of rfl) .nil)) norm_) rfl ?_;refine tr_val (rk_buildL (.cons (.of rfl) (.cons (.of rfl) .nil)) norm_) rfl ?_;refine tr_new (rk_sliceLitN (.cons (.of rfl) (.cons (.of rfl) (.cons (.of rfl) (.cons (.of rfl) (.cons (.of rfl) .nil))))) rfl rfl normp_ normp_ norm_) rfl (fun _ _=>?_))
  rename_i g185 h185 g191 h191
  refine tr_rowLitE (g:=g191) (E:=95) (ys:=dusV [(0,0),(1,1),(1,2),(2,3),(3,3)]) 5 2 (by exact .here) (by exact rfl) rfl rfl ?_
  with_reducible apply tr_callV
  case hr=>exact rk_call (.of rfl) (.cons (.of rfl) (.cons (.of rfl) .nil)) inferInstance normc_
  case hd=>rfl
  case hc=>
    intro w' hm'
    exact aw_un1 (Mem.rdBlk hm' (by exact Take.there .here) rfl rfl) (dus_rd (E:=95) (v:=.slice (some ⟨g191,0,none⟩) 5 5) (l:=[(0,0),(1,1),(1,2),(2,3),(3,3)]) (n:=5) hm' (by exact .here) rfl)
  (refine m_v rfl rfl ?_;refine tr_val (rk_extract (.of rfl) rfl) rfl ?_;refine tr_val (rk_extract (.of rfl) rfl) rfl ?_;refine a_s rfl rfl ?_;refine a_s rfl rfl ?_;refine n_r ?_;refine tr_new (rk_sliceLit (.cons (.of rfl) .nil) rfl rfl rfl rfl) rfl (fun _ _=>?_);refine tr_val (rk_buildL (.cons (.of rfl) (.cons (.of rfl) .nil)) norm_) rfl ?_;refine tr_new (rk_sliceLitN (.cons (.of rfl) .nil) rfl rfl normp_ normp_ norm_) rfl (fun _ _=>?_))
  rename_i g196 h196 g198 h198
  refine tr_rowLitE (g:=g198) (E:=95) (ys:=dusV [(0,1)]) 1 2 (by exact .here) (by exact rfl) rfl rfl ?_
  with_reducible apply tr_callV
  case hr=>exact rk_call (.of rfl) (.cons (.of rfl) (.cons (.of rfl) .nil)) inferInstance normc_
  case hd=>rfl
  case hc=>
    intro w' hm'
    exact aw_un2 (Mem.rdBlk hm' (by exact Take.there .here) rfl rfl) (dus_rd (E:=95) (v:=.slice (some ⟨g198,0,none⟩) 1 1) (l:=[(0,1)]) (n:=1) hm' (by exact .here) rfl)
  (refine m_v rfl rfl ?_;refine tr_val (rk_extract (.of rfl) rfl) rfl ?_;refine tr_val (rk_extract (.of rfl) rfl) rfl ?_;refine a_s rfl rfl ?_;refine a_s rfl rfl ?_;refine n_r ?_;refine a_s rfl rfl ?_;refine n_r ?_;refine m_v rfl rfl ?_)
  with_reducible apply tr_call
  case hr=>exact rk_call (.of rfl) .nil inferInstance normc_
  case hd=>rfl
  case ht=>exact Takes.nil
  case hc=>
    intro w1 fp hm1 _ hs1
    obtain rfl:fp = []:=hs1
    exact caps_v w1
  intro k1 _
  dsimp only [id_eq,List.cons_append,List.nil_append]
  refine tr_rowLitE (g:=k1) (E:=195) (ys:=cpsV capsA) 2 5 (by exact .here) (by exact rfl) rfl rfl ?_
  with_reducible apply tr_call
  case hr=>exact rk_call (.of rfl) (.cons (.of rfl) .nil) inferInstance normc_
  case hd=>rfl
  case ht=>exact Takes.nil
  case hc=>
    intro w1 fp hm1 _ hs1
    obtain rfl:fp = []:=hs1
    exact aw_chg (cps_rd (E:=195) (v:=.slice (some ⟨k1,0,none⟩) 2 2) (l:=capsA) (n:=2) hm1 (by exact .here) rfl)
  intro v29 _
  dsimp only [id_eq,List.cons_append,List.nil_append]
  (refine m_v rfl rfl ?_;refine tr_val (rk_extract (.of rfl) rfl) rfl ?_;refine tr_val (rk_extract (.of rfl) rfl) rfl ?_;refine a_s rfl rfl ?_;refine a_s rfl rfl ?_;refine n_r ?_;refine m_v rfl rfl ?_)
  with_reducible apply tr_call
  case hr=>exact rk_call (.of rfl) .nil inferInstance normc_
  case hd=>rfl
  case ht=>exact Takes.nil
  case hc=>
    intro w1 fp hm1 _ hs1
    obtain rfl:fp = []:=hs1
    exact caps_v w1
  intro k2 _
  dsimp only [id_eq,List.cons_append,List.nil_append]
  refine tr_rowLitE (g:=k2) (E:=195) (ys:=cpsV capsA) 2 5 (by exact .here) (by exact rfl) rfl rfl ?_
  with_reducible apply tr_callV
  case hr=>exact rk_call (.of rfl) (.cons (.of rfl) (.cons (.of rfl) .nil)) inferInstance normc_
  case hd=>rfl
  case hc=>
    intro w' hm'
    exact aw_shn (cps_rd (E:=195) (v:=.slice (some ⟨k2,0,none⟩) 2 2) (l:=capsA) (n:=2) hm' (by exact .here) rfl)
  have hsh:=ev_h1
  change (shA 1).size = 32 ∧ (shA 1).extract 0 6 = _ at hsh
  generalize shA 0 = s0
  generalize shA 1 = s1 at hsh ⊢
  generalize shA 2 = s2
  generalize shA 3 = s3
  generalize shA 4 = s4
  generalize shA 5 = s5
  generalize shA 6 = s6
  generalize shA 7 = s7
  (refine m_v rfl rfl ?_;refine tr_val (rk_extract (.of rfl) rfl) rfl ?_;refine tr_val (rk_extract (.of rfl) rfl) rfl ?_;refine tr_new (rk_alloc rfl) rfl (fun _ _=>?_);refine tr_store (.of rfl) (.of rfl) .here rfl rfl (okc_cons rfl (okc_cons rfl (okc_cons rfl (okc_cons rfl (okc_cons rfl (okc_cons rfl (okc_cons rfl (okc_cons rfl okc_nil)))))))) (lenb rfl) norm_ ?_;refine a_s rfl rfl ?_;refine n_r ?_;refine m_v rfl rfl ?_)
  with_reducible apply tr_call
  case hr=>exact rk_call (.of rfl) .nil inferInstance normc_
  case hd=>rfl
  case ht=>exact Takes.nil
  case hc=>
    intro w1 fp hm1 _ hs1
    obtain rfl:fp = []:=hs1
    exact caps_v w1
  intro k3 _
  dsimp only [id_eq,List.cons_append,List.nil_append]
  rw [show cpsV capsA = [.int .i64 5,.int .i64 10,.int .i64 1,.int .i64 3,.string ⟨#[65,66]⟩,.int .i64 10,.int .i64 12,.int .i64 1,.int .i64 4,.string ⟨#[67]⟩] from rfl]
  (refine a_s rfl rfl ?_;refine n_r ?_;refine m_v rfl rfl ?_;refine tr_val (rk_indexAddr (.of rfl) (.of rfl) rfl (by omega) (by omega) norm1_) rfl ?_;refine f_a rfl rfl norm0_ ?_;refine f_a rfl rfl norm0_ ?_;refine tr_store (.of rfl) (.of rfl) .here rfl rfl (okc_cons rfl okc_nil) (lenb rfl) norm_ ?_;refine n_r ?_;refine m_v rfl rfl ?_)
  refine tr_rowLitE (g:=k3) (E:=195) (ys:=cpsV [capA0,capA2]) 2 5 (by exact .here) (by exact rfl) rfl rfl ?_
  with_reducible apply tr_callV
  case hr=>exact rk_call (.of rfl) (.cons (.of rfl) .nil) inferInstance normc_
  case hd=>rfl
  case hc=>
    intro w' hm'
    exact aw_chk (cps_rd (E:=195) (v:=.slice (some ⟨k3,0,none⟩) 2 2) (l:=[capA0,capA2]) (n:=2) hm' (by exact .here) rfl)
  (refine a_s rfl rfl ?_;refine n_r ?_)
  with_reducible apply tr_call
  case hr=>exact rk_call (.of rfl) (.cons (.of rfl) .nil) inferInstance normc_
  case hd=>rfl
  case ht=>exact Takes.nil
  case hc=>
    intro w1 fp hm1 _ hs1
    obtain rfl:fp = []:=hs1
    exact aw_snt w1
  intro v35 _
  dsimp only [id_eq,List.cons_append,List.nil_append]
  (refine m_v rfl rfl ?_;refine tr_val (rk_extract (.of rfl) rfl) rfl ?_;refine tr_val (rk_extract (.of rfl) rfl) rfl ?_;refine a_s rfl rfl ?_;refine a_s rfl rfl ?_;refine n_r ?_;refine tr_new (rk_sliceLit (.cons (.of rfl) .nil) rfl rfl rfl rfl) rfl (fun _ _=>?_))
  with_reducible apply tr_call
  case hr=>exact rk_call (.of rfl) (.cons (.of rfl) .nil) inferInstance normc_
  case hd=>rfl
  case ht=>exact Takes.nil
  case hc=>
    intro w1 fp hm1 _ hs1
    obtain rfl:fp = []:=hs1
    exact aw_hrd (Mem.rdBlk hm1 (by exact .here) rfl rfl)
  intro v38 _
  dsimp only [id_eq,List.cons_append,List.nil_append]
  (refine m_v rfl rfl ?_;refine tr_val (rk_extract (.of rfl) rfl) rfl ?_;refine tr_val (rk_extract (.of rfl) rfl) rfl ?_;refine tr_val (rk_extract (.of rfl) rfl) rfl ?_;refine a_s rfl rfl ?_;refine a_s rfl rfl ?_;refine a_s rfl rfl ?_;refine n_r ?_;refine tr_callV (rk_call (.of rfl) .nil inferInstance normc_) rfl (fun w' hm'=>(stamp_l w')) ?_)
  with_reducible apply tr_callV
  case hr=>exact rk_call (.of rfl) (.cons (.of rfl) .nil) inferInstance normc_
  case hd=>rfl
  case hc=>
    intro w' hm'
    exact aw_prt _ (hG.keeps hm'.keeps) (hT.keeps hm'.keeps)
  refine tr_rowOpen (E:=5) (sz:=1) (v:=v35) (by exact Take.there (.there .here)) (Nat.zero_lt_two) ?_
  rintro g35 c35 cur35 e35 hcap35 _ _ _
  subst e35
  (refine m_v rfl rfl ?_;refine tr_val (rk_extract (.of rfl) rfl) rfl ?_;refine tr_val (rk_extract (.of rfl) rfl) rfl ?_;refine a_s rfl rfl ?_;refine a_s rfl rfl ?_;refine n_r ?_;refine m_v rfl rfl ?_;refine m_v rfl rfl ?_;refine tr_val (rk_add (.of rfl) (.of rfl) (ini (by omega))) rfl ?_;refine m_v rfl rfl ?_;refine tr_val (rk_add (.of rfl) (.of rfl) (ini (by omega))) rfl ?_;refine m_v rfl rfl ?_;refine tr_val (rk_add (.of rfl) (.of rfl) (ini (by omega))) rfl ?_;refine m_v rfl rfl ?_;refine tr_val (rk_add (.of rfl) (.of rfl) (ini (by omega))) rfl ?_;refine m_v rfl rfl ?_;refine tr_val (rk_add (.of rfl) (.of rfl) (ini (by omega))) rfl ?_;refine m_v rfl rfl ?_;refine tr_val (rk_add (.of rfl) (.of rfl) (ini (by omega))) rfl ?_;refine m_v rfl rfl ?_;refine tr_val (rk_add (.of rfl) (.of rfl) (ini (by omega))) rfl ?_;refine tr_val (rk_eql (.of rfl) (.of rfl)) rfl ?_;refine m_v rfl rfl ?_;refine tr_gOn rfl rfl ?_;refine m_v rfl rfl ?_;refine tr_gOn rfl rfl ?_;refine tr_val (rk_eql (.of rfl) (.of rfl)) rfl ?_;refine tr_val (rk_pickB (.of rfl) (.of rfl) (.of rfl) rfl) rfl ?_;refine m_v rfl rfl ?_;refine tr_gOn rfl rfl ?_;refine m_v rfl rfl ?_;refine tr_gOn rfl rfl ?_;refine tr_val (rk_buildL (.cons (.of rfl) (.cons (.of rfl) .nil)) norm_) rfl ?_;refine tr_gOn rfl rfl ?_;refine tr_val (rk_buildL (.cons (.of rfl) (.cons (.of rfl) .nil)) norm_) rfl ?_;refine tr_gOn rfl rfl ?_;refine tr_val (rk_buildL (.cons (.of rfl) (.cons (.of rfl) .nil)) norm_) rfl ?_;refine tr_gOn rfl rfl ?_;refine tr_val (rk_buildL (.cons (.of rfl) (.cons (.of rfl) .nil)) norm_) rfl ?_;refine tr_gOn rfl rfl ?_;refine tr_val (rk_buildL (.cons (.of rfl) (.cons (.of rfl) .nil)) norm_) rfl ?_;refine tr_gOn rfl rfl ?_;refine tr_new (rk_sliceLitN (.cons (.of rfl) (.cons (.of rfl) (.cons (.of rfl) (.cons (.of rfl) (.cons (.of rfl) .nil))))) rfl rfl normp_ normp_ norm_) rfl (fun _ _=>?_);refine tr_gOn rfl rfl ?_)
  rename_i g264 h264
  refine tr_rowLitE (g:=g264) (E:=95) (ys:=dusV [(0,0),(1,1),(1,2),(2,3),(3,3)]) 5 2 (by exact .here) (by exact rfl) rfl rfl ?_
  with_reducible apply tr_callV
  case hr=>exact rk_call (.of rfl) (.cons (.of rfl) (.cons (.of rfl) .nil)) inferInstance normc_
  case hd=>rfl
  case hc=>
    intro w' hm'
    exact (sameP_t (l:=[(0,0),(1,1),(1,2),(2,3),(3,3)]) (m:=[(0,0),(1,1),(1,2),(2,3),(3,3)]) (dus_rd (E:=95) (v:=v22) (n:=5) hm' (by exact Take.there (.there (.there (.there (.there (.there (.there (.there (.there (.there (.there (.there (.there .here))))))))))))) rfl) (dus_rd (E:=95) (v:=.slice (some ⟨g264,0,none⟩) 5 5) (n:=5) hm' (by exact .here) rfl):GivesV Tryz.prog 50 _ w' (.bool true))
  (refine tr_val (rk_pickB (.of rfl) (.of rfl) (.of rfl) rfl) rfl ?_;refine m_v rfl rfl ?_;refine tr_gOn rfl rfl ?_;refine m_v rfl rfl ?_;refine tr_gOn rfl rfl ?_;refine tr_val (rk_eql (.of rfl) (.of rfl)) rfl ?_;refine tr_val (rk_pickB (.of rfl) (.of rfl) (.of rfl) rfl) rfl ?_;refine m_v rfl rfl ?_;refine tr_gOn rfl rfl ?_;refine m_v rfl rfl ?_;refine tr_gOn rfl rfl ?_;refine tr_val (rk_eql (.of rfl) (.of rfl)) rfl ?_;refine tr_val (rk_pickB (.of rfl) (.of rfl) (.of rfl) rfl) rfl ?_;refine m_v rfl rfl ?_;refine tr_gOn rfl rfl ?_;refine m_v rfl rfl ?_;refine tr_gOn rfl rfl ?_;refine tr_new (rk_sliceLit (.cons (.of rfl) (.cons (.of rfl) (.cons (.of rfl) .nil))) rfl rfl rfl rfl) rfl (fun _ _=>?_);refine tr_gOn rfl rfl ?_)
  rename_i g277 h277
  with_reducible apply tr_callV
  case hr=>exact rk_call (.of rfl) (.cons (.of rfl) (.cons (.of rfl) .nil)) inferInstance normc_
  case hd=>rfl
  case hc=>
    intro w' hm'
    exact (sameI_t (l:=[5,10,12]) (m:=[5,10,12]) (intg_rd (E:=3) (v:=v29) (n:=3) hm' (by exact Take.there (.there (.there (.there (.there (.there (.there (.there .here)))))))) rfl) (Mem.rdBlk hm' (by exact .here) rfl rfl):GivesV Tryz.prog 58 _ w' (.bool true))
  have hs32:=hsh.1
  (refine tr_val (rk_pickB (.of rfl) (.of rfl) (.of rfl) rfl) rfl ?_;refine m_v rfl rfl ?_;refine tr_gOn rfl rfl ?_;refine tr_val (rk_indexAddrA (.of rfl) (.of rfl) (by omega) (by omega) norm1_) rfl ?_;refine tr_gOn rfl rfl ?_;refine tr_val (rk_load1 (.of rfl) (At.lit (.there (.there (.there (.there (.there (.there .here)))))) rfl)) rfl ?_;refine tr_gOn rfl rfl ?_;refine tr_val (rk_len_string (.of rfl)) rfl ?_;refine tr_gOn rfl rfl ?_;refine tr_val (rk_eql (.of rfl) (.of rfl)) rfl ?_)
  rw [show decide (((s1.size:Nat):Int) = 32) = true from decide_eq_true (by omega)]
  (refine tr_val (rk_pickB (.of rfl) (.of rfl) (.of rfl) rfl) rfl ?_;refine m_v rfl rfl ?_;refine tr_gOn rfl rfl ?_;refine tr_val (rk_indexAddrA (.of rfl) (.of rfl) (by omega) (by omega) norm1_) rfl ?_;refine tr_gOn rfl rfl ?_;refine tr_val (rk_load1 (.of rfl) (At.lit (.there (.there (.there (.there (.there (.there .here)))))) rfl)) rfl ?_;refine tr_gOn rfl rfl ?_;refine tr_val (rk_sliceS_h (.of rfl) (.of rfl) (by omega) (by omega)) rfl ?_;refine tr_gOn rfl rfl ?_;refine tr_val (rk_eqls (.of rfl) (.of rfl)) rfl ?_)
  rw [show decide (s1.extract 0 (6:Int).toNat = ⟨#[32,32,32,65,66,32]⟩) = true from decide_eq_true hsh.2]
  (refine tr_val (rk_pickB (.of rfl) (.of rfl) (.of rfl) rfl) rfl ?_;refine m_v rfl rfl ?_;refine tr_gOn rfl rfl ?_;refine m_v rfl rfl ?_;refine tr_gOn rfl rfl ?_)
  with_reducible apply tr_val (V:=.string ⟨#[193,194]⟩)
  case hr=>
    show RunV _ _ _ _ _ (.string (strOf [193,194]))
    with_reducible apply rk_convBSn (ns:=[193,194])
    case hx=>exact Is.of rfl
    case hv=>exact Ats.blk (by exact Take.there (.there .here)) (show cellsAt ([Value.int .u8 193,Value.int .u8 194]++cur35) 0 2 = _ by rw [cellsAt_eq];rfl)
    case hl=>rfl
  case hd=>rfl
  (refine tr_gOn rfl rfl ?_;refine tr_val (rk_eqls (.of rfl) (.of rfl)) rfl ?_;refine tr_val (rk_pickB (.of rfl) (.of rfl) (.of rfl) rfl) rfl ?_;refine m_v rfl rfl ?_;refine tr_gOn rfl rfl ?_;refine m_v rfl rfl ?_;refine tr_gOn rfl rfl ?_;refine tr_val (rk_eqls (.of rfl) (.of rfl)) rfl ?_;refine tr_val (rk_pickB (.of rfl) (.of rfl) (.of rfl) rfl) rfl ?_;refine m_v rfl rfl ?_;refine tr_gOn rfl rfl ?_;refine m_v rfl rfl ?_;refine tr_gOn rfl rfl ?_;refine tr_new (rk_sliceLit (.cons (.of rfl) .nil) rfl rfl rfl rfl) rfl (fun _ _=>?_);refine tr_gOn rfl rfl ?_)
  rename_i g303 h303
  with_reducible apply tr_callV
  case hr=>exact rk_call (.of rfl) (.cons (.of rfl) (.cons (.of rfl) .nil)) inferInstance normc_
  case hd=>rfl
  case hc=>
    intro w' hm'
    exact (sameI_t (l:=[0]) (m:=[0]) (intg_rd (E:=3) (v:=v38) (n:=1) hm' (show Take _ (row 3 1 v38 1 [.int .i64 0]) _ from by exact Take.there (.there (.there (.there .here)))) rfl) (Mem.rdBlk hm' (by exact .here) rfl rfl):GivesV Tryz.prog 58 _ w' (.bool true))
  (refine tr_val (rk_pickB (.of rfl) (.of rfl) (.of rfl) rfl) rfl ?_;refine m_v rfl rfl ?_;refine tr_gOn rfl rfl ?_;refine m_v rfl rfl ?_;refine tr_gOn rfl rfl ?_;refine tr_val (rk_eqls (.of rfl) (.of rfl)) rfl ?_;refine tr_val (rk_pickB (.of rfl) (.of rfl) (.of rfl) rfl) rfl ?_;refine a_s rfl rfl ?_;refine n_t ?_;refine tr_ret ?_;refine tr_retE rfl (ends1 rfl rfl) ?_)
  rfl
end Go.Proofs.A1
namespace Go.Proofs.A1
open Go Go.SL
theorem rateF_if (r:Rt):rateF r = if (r.fr ≠ 24 ∧ r.fr ≠ 25) ∧ r.fr ≠ 30 then 13 else if r.dr = true ∧ r.fr ≠ 30 then 24 else 0:=by
  unfold rateF
  by_cases a:r.fr = 24 <;> by_cases b:r.fr = 25 <;> by_cases c:r.fr = 30 <;> cases d:r.dr <;> simp [a,b,c,d,whenF,firstF]
theorem rateQ_c (r:Rt) (w:World):GivesV Tryz.prog 21 [.agg r.cells.toArray] w (.int .i64 (rateF r)):=by
  have he:=rateF_if r
  unfold Rt.cells
  refine givesV_of_tr Tryz.func21 rfl rfl ?_
  (refine s_r ?_;refine tr_new (rk_box (.of rfl) rfl) rfl (fun _ _=>?_);refine a_s rfl rfl ?_;refine n_t ?_;refine tr_seq ?_;refine s_r ?_;refine f_a rfl rfl norm0_ ?_;refine tr_val (rk_load1 (.of rfl) (At.lit .here rfl)) rfl ?_;refine tr_val (rk_neq (.of rfl) (.of rfl)) rfl ?_;refine m_v rfl rfl ?_;refine tr_vG1 rfl rfl inferInstance (fun hg hgp=>(rk_fieldAddr (.of rfl) norm0_)) rfl ?_;refine tr_vG1 rfl rfl inferInstance (fun hg hgp=>(rk_load1 (.ofg hg rfl) (At.lit .here rfl))) rfl ?_;refine tr_vG1 rfl rfl inferInstance (fun hg hgp=>(rk_neq (.ofg hg rfl) (.of rfl))) rfl ?_;refine tr_val (rk_pick_and (.of rfl) rfl) rfl ?_;refine m_v rfl rfl ?_;refine tr_vG1 rfl rfl inferInstance (fun hg hgp=>(rk_fieldAddr (.of rfl) norm0_)) rfl ?_;refine tr_vG1 rfl rfl inferInstance (fun hg hgp=>(rk_load1 (.ofg hg rfl) (At.lit .here rfl))) rfl ?_;refine tr_vG1 rfl rfl inferInstance (fun hg hgp=>(rk_neq (.ofg hg rfl) (.of rfl))) rfl ?_;refine tr_val (rk_pick_and (.of rfl) rfl) rfl ?_;refine n_t ?_;refine c_b rfl (fun hcd=>?_) (fun hcd=>?_);refine s_r ?_;refine a_s rfl rfl ?_;refine n_t ?_;refine r_t ?_;refine tr_retE rfl (ends1 rfl rfl) ?_;rotate_left;refine s_t ?_;refine tr_seq ?_;refine s_r ?_;refine f_a rfl rfl norm0_ ?_;refine tr_val (rk_load1 (.of rfl) (At.lit .here rfl)) rfl ?_;refine m_v rfl rfl ?_;refine tr_vG1 rfl rfl inferInstance (fun hg hgp=>(rk_fieldAddr (.of rfl) norm0_)) rfl ?_;refine tr_vG1 rfl rfl inferInstance (fun hg hgp=>(rk_load1 (.ofg hg rfl) (At.lit .here rfl))) rfl ?_;refine tr_vG1 rfl rfl inferInstance (fun hg hgp=>(rk_neq (.ofg hg rfl) (.of rfl))) rfl ?_;refine tr_val (rk_pick_and (.of rfl) rfl) rfl ?_;refine n_t ?_;refine c_b rfl (fun hcd=>?_) (fun hcd=>?_);refine s_r ?_;refine a_s rfl rfl ?_;refine n_t ?_;refine r_t ?_;refine tr_retE rfl (ends1 rfl rfl) ?_;rotate_left;refine s_t ?_;refine s_r ?_;refine a_s rfl rfl ?_;refine n_t ?_;refine tr_ret ?_;refine tr_retE rfl (ends1 rfl rfl) ?_;rotate_right;rotate_right)
  · rw [he,if_pos hcd]
  · rename_i h1 _
    rw [he,if_neg (by omega),if_pos hcd]
  · rename_i h1 _
    rw [he,if_neg (by omega),if_neg (by rintro ⟨a,b⟩;rcases hcd with h | h;(rw [a] at h;cases h);exact h b)]
theorem dropQ_c (r:Rt) (l:Lb) (w:World):GivesV Tryz.prog 99 [.agg r.cells.toArray,.agg l.cells.toArray] w (.bool (drpB r l)):=by
  unfold Rt.cells Lb.cells
  refine givesV_of_tr Tryz.func99 rfl rfl ?_
  (refine s_r ?_;refine tr_new (rk_box (.of rfl) rfl) rfl (fun _ _=>?_);refine tr_new (rk_box (.of rfl) rfl) rfl (fun _ _=>?_);refine a_s rfl rfl ?_;refine n_r ?_;refine f_a rfl rfl norm0_ ?_;refine tr_val (rk_load1 (.of rfl) (At.lit (.there .here) rfl)) rfl ?_;refine m_v rfl rfl ?_;refine tr_vG1 rfl rfl inferInstance (fun hg hgp=>(rk_fieldAddr (.of rfl) norm0_)) rfl ?_;refine tr_vG1 rfl rfl inferInstance (fun hg hgp=>(rk_load1 (.ofg hg rfl) (At.lit .here rfl))) rfl ?_;refine tr_vG1 rfl rfl inferInstance (fun hg hgp=>(rk_remT (.ofg hg rfl) (.of rfl) (by omega))) rfl ?_;refine tr_vG1 rfl rfl inferInstance (fun hg hgp=>(rk_neq (.ofg hg rfl) (.of rfl))) rfl ?_;refine tr_val (rk_pick_and (.of rfl) rfl) rfl ?_;refine m_v rfl rfl ?_;refine tr_vG1 rfl rfl inferInstance (fun hg hgp=>(rk_fieldAddr (.of rfl) norm0_)) rfl ?_;refine tr_vG1 rfl rfl inferInstance (fun hg hgp=>(rk_load1 (.ofg hg rfl) (At.lit .here rfl))) rfl ?_;refine tr_vG1 rfl rfl inferInstance (fun hg hgp=>(rk_eql (.ofg hg rfl) (.of rfl))) rfl ?_;refine tr_val (rk_pick_and (.of rfl) rfl) rfl ?_;refine m_v rfl rfl ?_;refine tr_vG1 rfl rfl inferInstance (fun hg hgp=>(rk_fieldAddr (.of rfl) norm0_)) rfl ?_;refine tr_vG1 rfl rfl inferInstance (fun hg hgp=>(rk_load1 (.ofg hg rfl) (At.lit .here rfl))) rfl ?_;refine tr_vG1 rfl rfl inferInstance (fun hg hgp=>(rk_lss (.ofg hg rfl) (.of rfl))) rfl ?_;refine tr_val (rk_pick_and (.of rfl) rfl) rfl ?_;refine a_s rfl rfl ?_;refine n_t ?_;refine tr_ret ?_;refine tr_retE rfl (ends1 rfl rfl) ?_)
  unfold drpB
  rw [← tmod_ne]
  cases r.dr <;> simp [Bool.and_assoc]
theorem lblE_at (r:Rt) (l:Lb):lblE r l = if rateF r ≠ 0 then rateF r else if firstF [withinF l.h 0 23,withinF l.m 0 59,withinF l.s 0 59,withinF l.f 0 (IntKind.i64.wrap (r.fr - 1))] ≠ 0 then firstF [withinF l.h 0 23,withinF l.m 0 59,withinF l.s 0 59,withinF l.f 0 (IntKind.i64.wrap (r.fr - 1))] else if drpB r l = true then 7 else 0:=by
  rw [← lblE_wrap]
  by_cases h0:rateF r = 0 <;> by_cases h1:withinF l.h 0 23 = 0 <;> by_cases h2:withinF l.m 0 59 = 0 <;> by_cases h3:withinF l.s 0 59 = 0 <;> by_cases h4:withinF l.f 0 (IntKind.i64.wrap (r.fr - 1)) = 0 <;> cases h5:drpB r l <;> simp [h0,h1,h2,h3,h4,firstF,whenF]
theorem lblQ_c (r:Rt) (l:Lb) (w:World):GivesV Tryz.prog 22 [.agg r.cells.toArray,.agg l.cells.toArray] w (.int .i64 (lblE r l)):=by
  have he:=lblE_at r l
  refine givesV_of_tr Tryz.func22 rfl rfl ?_
  unfold Rt.cells Lb.cells
  by_cases h0:rateF r = 0
  · (refine s_r ?_;refine tr_new (rk_box (.of rfl) rfl) rfl (fun _ _=>?_);refine tr_new (rk_box (.of rfl) rfl) rfl (fun _ _=>?_);refine a_s rfl rfl ?_;refine n_t ?_;refine tr_seq ?_;refine s_r ?_;refine tr_val (rk_loadB (.of rfl) (.there .here) norm_ (by rfl)) rfl ?_;refine tr_callV (rk_call (.of rfl) (.cons (.of rfl) .nil) inferInstance normc_) rfl (fun w' hm'=>(rateQ_c r w')) ?_;refine a_s rfl rfl ?_;refine n_r ?_;refine m_v rfl rfl ?_;refine tr_val (rk_neq (.of rfl) (.of rfl)) rfl ?_;refine n_t ?_;refine c_d rfl (fun _=>by omega) (fun hcd=>?_);refine s_t ?_;refine tr_seq ?_;refine tr_seq ?_)
    with_reducible refine tr_draw 15 (by kernel_rfl) ?_
    (refine a_f rfl rfl norm0_ ?_;refine any_val (rk_load1 (.of rfl) (At.lit .here rfl)) rfl ?_;refine any_call (rk_call (.of rfl) (.cons (.of rfl) (.cons (.of rfl) (.cons (.of rfl) .nil))) inferInstance normc_) rfl (fun w' hm'=>(range_q _ 0 23 w')) ?_;refine a_f rfl rfl norm0_ ?_;refine any_val (rk_load1 (.of rfl) (At.lit .here rfl)) rfl ?_;refine any_call (rk_call (.of rfl) (.cons (.of rfl) (.cons (.of rfl) (.cons (.of rfl) .nil))) inferInstance normc_) rfl (fun w' hm'=>(range_q _ 0 59 w')) ?_;refine a_f rfl rfl norm0_ ?_;refine any_val (rk_load1 (.of rfl) (At.lit .here rfl)) rfl ?_;refine any_call (rk_call (.of rfl) (.cons (.of rfl) (.cons (.of rfl) (.cons (.of rfl) .nil))) inferInstance normc_) rfl (fun w' hm'=>(range_q _ 0 59 w')) ?_;refine a_f rfl rfl norm0_ ?_;refine any_val (rk_load1 (.of rfl) (At.lit .here rfl)) rfl ?_;refine a_f rfl rfl norm0_ ?_;refine any_val (rk_load1 (.of rfl) (At.lit (.there .here) rfl)) rfl ?_)
    refine any_val (rk_subw (.of rfl) (.of rfl)) rfl ?_
    refine any_call (rk_call (.of rfl) (.cons (.of rfl) (.cons (.of rfl) (.cons (.of rfl) .nil))) inferInstance normc_) rfl (fun w' hm'=>(range_q _ 0 _ w')) ?_
    with_reducible refine any_end ?_
    (refine tr_new (rk_sliceLit (.cons (.of rfl) (.cons (.of rfl) (.cons (.of rfl) (.cons (.of rfl) .nil)))) rfl rfl rfl rfl) rfl (fun _ _=>?_);refine tr_callV (rk_call (.of rfl) (.cons (.of rfl) .nil) inferInstance normc_) rfl (fun w' hm'=>(first_qB (Mem.rdBlk hm' .here rfl rfl) (IntL.cons (IntL.cons (IntL.cons (IntL.cons IntL.nil)))))) ?_;refine a_s rfl rfl ?_;refine n_r ?_;refine m_v rfl rfl ?_;refine tr_val (rk_neq (.of rfl) (.of rfl)) rfl ?_;refine n_t ?_;refine c_d rfl (fun hcd=>?_) (fun hcd=>?_);refine s_r ?_;refine m_v rfl rfl ?_;refine a_s rfl rfl ?_;refine n_t ?_;refine r_t ?_;refine tr_retE rfl (ends1 rfl rfl) ?_;rotate_left;refine s_t ?_;refine tr_seq ?_;refine s_r ?_;refine tr_val (rk_loadB (.of rfl) (.there (.there .here)) norm_ (by rfl)) rfl ?_;refine tr_val (rk_loadB (.of rfl) (.there .here) norm_ (by rfl)) rfl ?_;refine tr_callV (rk_call (.of rfl) (.cons (.of rfl) (.cons (.of rfl) .nil)) inferInstance normc_) rfl (fun w' hm'=>(dropQ_c r l w')) ?_;refine n_t ?_;refine c_b rfl (fun hcd=>?_) (fun hcd=>?_);refine s_r ?_;refine a_s rfl rfl ?_;refine n_t ?_;refine r_t ?_;refine tr_retE rfl (ends1 rfl rfl) ?_;rotate_left;refine s_t ?_;refine s_r ?_;refine a_s rfl rfl ?_;refine n_t ?_;refine tr_ret ?_;refine tr_retE rfl (ends1 rfl rfl) ?_;rotate_right;rotate_right)
    · rw [he,if_neg (by simpa using h0),if_pos hcd]
    · rename_i h1
      rw [he,if_neg (by simpa using h0),if_neg (by assumption),if_pos hcd]
    · rename_i h1
      rw [he,if_neg (by simpa using h0),if_neg (by assumption),if_neg (by simpa using hcd)]
  · (refine s_r ?_;refine tr_new (rk_box (.of rfl) rfl) rfl (fun _ _=>?_);refine tr_new (rk_box (.of rfl) rfl) rfl (fun _ _=>?_);refine a_s rfl rfl ?_;refine n_t ?_;refine tr_seq ?_;refine s_r ?_;refine tr_val (rk_loadB (.of rfl) (.there .here) norm_ (by rfl)) rfl ?_;refine tr_callV (rk_call (.of rfl) (.cons (.of rfl) .nil) inferInstance normc_) rfl (fun w' hm'=>(rateQ_c r w')) ?_;refine a_s rfl rfl ?_;refine n_r ?_;refine m_v rfl rfl ?_;refine tr_val (rk_neq (.of rfl) (.of rfl)) rfl ?_;refine n_t ?_;refine c_d rfl (fun hcd=>?_) (fun _=>by omega);refine s_r ?_;refine m_v rfl rfl ?_;refine a_s rfl rfl ?_;refine n_t ?_;refine r_t ?_;refine tr_retE rfl (ends1 rfl rfl) ?_)
    rw [he,if_pos h0]
end Go.Proofs.A1
namespace Go.Proofs.A1
open Go Go.SL
theorem stmQ_c (s:Stm) (w:World):GivesV Tryz.prog 37 [.agg s.cells.toArray] w (.int .i64 (stmE s)):=by
  have hlq:∀ w',GivesV Tryz.prog 22 [.agg #[.int .i64 s.ra.fr,.bool s.ra.dr],.agg #[.int .i64 s.la.h,.int .i64 s.la.m,.int .i64 s.la.s,.int .i64 s.la.f]] w' (.int .i64 (lblE s.ra s.la)):=fun w'=>lblQ_c s.ra s.la w'
  unfold Stm.cells
  refine givesV_of_tr Tryz.func37 rfl rfl ?_
  (refine s_r ?_;refine tr_new (rk_box (.of rfl) rfl) rfl (fun _ _=>?_);refine a_s rfl rfl ?_;refine n_t ?_;refine tr_seq ?_)
  with_reducible refine tr_draw 8 (by kernel_rfl) ?_
  (refine a_f rfl rfl norm0_ ?_;refine any_val (rk_loadB (.of rfl) .here norm_ (by rfl)) rfl ?_;refine a_f rfl rfl norm0_ ?_;refine any_val (rk_loadB (.of rfl) .here norm_ (by rfl)) rfl ?_;refine any_call (rk_call (.of rfl) (.cons (.of rfl) (.cons (.of rfl) .nil)) inferInstance normc_) rfl (fun w' hm'=>(hlq w')) ?_;refine a_f rfl rfl norm0_ ?_;refine any_val (rk_load1 (.of rfl) (At.lit .here rfl)) rfl ?_;refine any_call (rk_call (.of rfl) (.cons (.of rfl) (.cons (.of rfl) (.cons (.of rfl) .nil))) inferInstance normc_) rfl (fun w' hm'=>(range_q _ 0 65535 w')) ?_)
  with_reducible refine any_end ?_
  (refine tr_new (rk_sliceLit (.cons (.of rfl) (.cons (.of rfl) .nil)) rfl rfl rfl rfl) rfl (fun _ _=>?_);refine tr_callV (rk_call (.of rfl) (.cons (.of rfl) .nil) inferInstance normc_) rfl (fun w' hm'=>(first_qB (Mem.rdBlk hm' .here rfl rfl) (IntL.cons (IntL.cons IntL.nil)))) ?_;refine a_s rfl rfl ?_;refine n_t ?_;refine tr_ret ?_;refine tr_retE rfl (ends1 rfl rfl) ?_)
  rfl
end Go.Proofs.A1
namespace Go.Proofs.A1
open Go Go.SL
end Go.Proofs.A1
namespace Go.Proofs.A1
open Go Go.SL
theorem bysV_c {lv:Value} {l:List Int} {w:World} (h:Rd w lv 1 (byts l)) (hl:l.length ≤ 5000) :
    Gives Tryz.prog 53 [lv] w [] (fun _:Value=>True) id (fun v=>[row 5 1 v l.length (bytsV l)]):=by
  refine gives_of_tr Tryz.func53 rfl rfl ?_
  (refine s_r ?_;refine a_s rfl rfl ?_;refine n_r ?_;refine tr_new (rk_sliceLit .nil rfl rfl rfl rfl) rfl (fun _ _=>?_);refine m_v rfl rfl ?_)
  rename_i bq hbq
  refine tr_rowLitE (g:=bq) (E:=5) (ys:=[]) 0 1 (by exact .here) rfl rfl rfl ?_
  skip
  with_reducible apply tr_appendR
  case hx=>exact Is.of rfl
  case hy=>exact Is.of rfl
  case ht=>exact .here
  case hsrc=>exact fun w' hm'=>h.keeps hm'.keeps
  case h1=>exact byts_one l
  case hz=>exact rfl
  case hsz=>exact rfl
  case hb0=>exact rfl
  case hb=>rw [byts_length];omega
  case hd=>rfl
  intro v'
  rw [byts_length,Nat.zero_add,List.nil_append,← byts_flat]
  (refine a_s rfl rfl ?_;refine n_t ?_;refine tr_ret ?_)
  first | with_reducible apply tr_retM | with_reducible apply tr_endM
  case he=>exact ends1 rfl rfl
  case hR=>
    intro w' hm'
    exact gives_end v' trivial (show Takes _ [row 5 1 v' l.length (bytsV l)] _ by exact .cons .here .nil) hm' rfl
end Go.Proofs.A1
