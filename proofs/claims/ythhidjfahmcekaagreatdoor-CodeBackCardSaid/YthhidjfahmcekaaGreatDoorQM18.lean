/- Parts of the proof: U28 U4A U4B TryzSplit. -/
import Derived.Test.YthhidjfahmcekaaGreatDoorQM17
import Derived.Test.YthhidjfahmcekaaGreatDoorQM06
import Derived.Test.YthhidjfahmcekaaGreatDoorQM08
import Derived.Test.YthhidjfahmcekaaGreatDoorQM10
import Derived.Test.YthhidjfahmcekaaGreatDoorQM07
import Derived.Test.YthhidjfahmcekaaGreatDoorQM05
import Derived.Test.YthhidjfahmcekaaGreatDoorQM11
import Derived.Test.YthhidjfahmcekaaGreatDoorQM09
import Derived.Shelf.Strings.Split
import Derived.Shelf.Strings.Search3
import Derived.Ground.NamesProg
import Derived.Ground.Names2Prog
import Derived.Test.YthhidjfahmcekaaGreatDoorProg
set_option linter.unusedSectionVars false
set_option linter.unusedVariables false
set_option linter.unusedSimpArgs false
namespace Go.Proofs.A1
open Go Go.SL
theorem tr_cutW {c:Cx} {D:List Nat} {sl:Slots} {hs rest:List Asn} {X:Act → World → Prop} (sl2:Slots) (hs2:List Asn) (h1:Subs sl sl2) (ht:Takes hs hs2 rest) (k:Tr c D sl2 hs2 X):Tr c D sl hs X:=fun a w hst=>k a w (hst.weaken h1 ht)
theorem rk_pickB {P:Program} {c:Cx} {sl:Slots} {hs:List Asn} {dst:Option Tmp} {ty:TypeId} {pos:String} {af:Array Edge} {g:Option (Nat × Bool)} {x y z:Operand} {q:Bool} {v u V:Value} (hx:Is sl x (.bool q)) (hy:Is sl y v) (hz:Is sl z u) (e:(bif q then v else u) = V):RunV P c sl hs ⟨dst,.pick x y z,ty,pos,af,g⟩ V:=e ▸ rk_pick hx hy hz
theorem tr_cutH {c:Cx} {D:List Nat} {sl:Slots} {hs rest:List Asn} {X:Act → World → Prop} (hs2:List Asn) (ht:Takes hs hs2 rest) (k:Tr c D sl hs2 X):Tr c D sl hs X:=fun a w hst=>k a w (hst.heap (by
  have h1:=hst.mem.takes (ht.append (mks D))
  obtain ⟨kk,fp,hn,hsat,hb⟩:=h1
  obtain ⟨f1,f23,rfl,g1,g23⟩:=Sats.append_iff.1 hsat
  obtain ⟨f2,f3,rfl,g2,g3⟩:=Sats.append_iff.1 g23
  obtain ⟨n1,n23,n12⟩:=List.nodup_append.1 hn
  obtain ⟨n2,n3,n4⟩:=List.nodup_append.1 n23
  exact ⟨kk,f1++f3,List.nodup_append.2 ⟨n1,n3,fun x hx y hy=>n12 x hx y (List.mem_append_right _ hy)⟩,Sats.append_iff.2 ⟨f1,f3,rfl,g1,g3⟩,fun b hb'=>hb b (by
    rcases List.mem_append.1 hb' with h | h
    · exact List.mem_append_left _ h
    · exact List.mem_append_right _ (List.mem_append_right _ h))⟩))
set_option maxHeartbeats 8000000 in
theorem awake_c (w:World) (hG:GlobR w) (hT:Tab10 w):GivesV Tryz.prog 27 [] w (.bool true):=by
  refine givesV_of_tr Tryz.func27 rfl rfl ?_
  (refine s_r ?_;refine a_s rfl rfl ?_;refine n_r ?_;refine tr_callV (rk_call (.of rfl) .nil inferInstance normc_) rfl (fun w' hm'=>(drop_l w')) ?_;refine tr_callV (rk_call (.of rfl) (.cons (.of rfl) .nil) inferInstance normc_) rfl (fun w' hm'=>(aw_day w' (GlobR.keeps hG (Mem.keeps hm')))) ?_;refine m_v rfl rfl ?_;refine tr_val (rk_extract (.of rfl) rfl) rfl ?_;refine tr_val (rk_extract (.of rfl) rfl) rfl ?_;refine a_s rfl rfl ?_;refine a_s rfl rfl ?_;refine n_r ?_;refine tr_callV (rk_call (.of rfl) .nil inferInstance normc_) rfl (fun w' hm'=>(drop_l w')) ?_;refine tr_val (rk_buildL (.cons (.of rfl) (.cons (.of rfl) .nil)) norm_) rfl ?_;refine tr_callV (rk_call (.of rfl) (.cons (.of rfl) (.cons (.of rfl) .nil)) inferInstance normc_) rfl (fun w' hm'=>(aw_fr1 w' (GlobR.keeps hG (Mem.keeps hm')))) ?_;refine m_v rfl rfl ?_;refine tr_val (rk_extract (.of rfl) rfl) rfl ?_;refine tr_val (rk_extract (.of rfl) rfl) rfl ?_;refine a_s rfl rfl ?_;refine a_s rfl rfl ?_;refine n_r ?_;refine tr_callV (rk_call (.of rfl) .nil inferInstance normc_) rfl (fun w' hm'=>(drop_l w')) ?_;refine tr_callV (rk_call (.of rfl) (.cons (.of rfl) (.cons (.of rfl) .nil)) inferInstance normc_) rfl (fun w' hm'=>(aw_lof w' (GlobR.keeps hG (Mem.keeps hm')))) ?_;refine m_v rfl rfl ?_;refine tr_val (rk_extract (.of rfl) rfl) rfl ?_;refine tr_val (rk_extract (.of rfl) rfl) rfl ?_;refine tr_new (rk_alloc rfl) rfl (fun _ _=>?_);refine tr_store (.of rfl) (.of rfl) .here rfl rfl (okc_cons rfl (okc_cons rfl (okc_cons rfl (okc_cons rfl okc_nil)))) (lenb rfl) norm_ ?_;refine a_s rfl rfl ?_;refine n_r ?_;refine tr_callV (rk_call (.of rfl) .nil inferInstance normc_) rfl (fun w' hm'=>(drop_l w')) ?_;refine tr_val (rk_buildL (.cons (.of rfl) .nil) norm_) rfl ?_;refine tr_callV (rk_call (.of rfl) (.cons (.of rfl) (.cons (.of rfl) .nil)) inferInstance normc_) rfl (fun w' hm'=>(aw_fr2 w' (GlobR.keeps hG (Mem.keeps hm')))) ?_;refine m_v rfl rfl ?_;refine tr_val (rk_extract (.of rfl) rfl) rfl ?_;refine tr_val (rk_extract (.of rfl) rfl) rfl ?_;refine a_s rfl rfl ?_;refine a_s rfl rfl ?_;refine n_r ?_;refine tr_callV (rk_call (.of rfl) .nil inferInstance normc_) rfl (fun w' hm'=>(drop_l w')) ?_;refine tr_val (rk_buildL (.cons (.of rfl) .nil) norm_) rfl ?_;refine tr_callV (rk_call (.of rfl) (.cons (.of rfl) (.cons (.of rfl) .nil)) inferInstance normc_) rfl (fun w' hm'=>(aw_fr3 w' (GlobR.keeps hG (Mem.keeps hm')))) ?_;refine m_v rfl rfl ?_;refine tr_val (rk_extract (.of rfl) rfl) rfl ?_;refine tr_val (rk_extract (.of rfl) rfl) rfl ?_;refine a_s rfl rfl ?_;refine a_s rfl rfl ?_;refine n_r ?_;refine tr_val (rk_buildL (.cons (.of rfl) .nil) norm_) rfl ?_;refine tr_val (rk_buildL (.cons (.of rfl) (.cons (.of rfl) (.cons (.of rfl) (.cons (.of rfl) .nil)))) norm_) rfl ?_;refine tr_callV (rk_call (.of rfl) (.cons (.of rfl) (.cons (.of rfl) (.cons (.of rfl) .nil))) inferInstance normc_) rfl (fun w' hm'=>(aw_ad1 w' (GlobR.keeps hG (Mem.keeps hm')))) ?_;refine m_v rfl rfl ?_;refine tr_val (rk_extract (.of rfl) rfl) rfl ?_;refine tr_val (rk_extract (.of rfl) rfl) rfl ?_;refine tr_new (rk_alloc rfl) rfl (fun _ _=>?_);refine tr_store (.of rfl) (.of rfl) .here rfl rfl (okc_cons rfl (okc_cons rfl (okc_cons rfl (okc_cons rfl okc_nil)))) (lenb rfl) norm_ ?_;refine a_s rfl rfl ?_;refine n_r ?_;refine tr_callV (rk_call (.of rfl) .nil inferInstance normc_) rfl (fun w' hm'=>(drop_l w')) ?_;refine tr_val (rk_buildL .nil norm_) rfl ?_;refine tr_callV (rk_call (.of rfl) (.cons (.of rfl) (.cons (.of rfl) (.cons (.of rfl) .nil))) inferInstance normc_) rfl (fun w' hm'=>(aw_ad2 w' (GlobR.keeps hG (Mem.keeps hm')))) ?_;refine m_v rfl rfl ?_;refine tr_val (rk_extract (.of rfl) rfl) rfl ?_;refine tr_val (rk_extract (.of rfl) rfl) rfl ?_;refine tr_new (rk_alloc rfl) rfl (fun _ _=>?_);refine tr_store (.of rfl) (.of rfl) .here rfl rfl (okc_cons rfl (okc_cons rfl (okc_cons rfl (okc_cons rfl okc_nil)))) (lenb rfl) norm_ ?_;refine a_s rfl rfl ?_;refine n_r ?_;refine tr_callV (rk_call (.of rfl) .nil inferInstance normc_) rfl (fun w' hm'=>(stamp_l w')) ?_;refine tr_callV (rk_call (.of rfl) (.cons (.of rfl) .nil) inferInstance normc_) rfl (fun w' hm'=>(aw_wr w' (GlobR.keeps hG (Mem.keeps hm')))) ?_;refine m_v rfl rfl ?_;refine tr_val (rk_extract (.of rfl) rfl) rfl ?_;refine tr_val (rk_extract (.of rfl) rfl) rfl ?_;refine tr_new (rk_alloc rfl) rfl (fun _ _=>?_);refine tr_store (.of rfl) (.of rfl) .here rfl rfl (okc_cons rfl (okc_cons rfl (okc_cons rfl (okc_cons rfl (okc_cons rfl (okc_cons rfl (okc_cons rfl (okc_cons rfl (okc_cons rfl (okc_cons rfl okc_nil)))))))))) (lenb rfl) norm_ ?_;refine a_s rfl rfl ?_;refine n_t ?_;refine tr_seq ?_)
  rename_i b5 hb5 b11 hb11 b13 hb13 b15 hb15
  generalize hQ:Exit.then _ _ = Q
  suffices hk:∀ (v17 v18:Value),Tr _ _ [(17,v17),(18,v18),(19,.int .i64 0),(1,.int .i64 2589408),(2,.int .i64 0),(3,.int .i64 1799),(4,.int .i64 0),(5,.pointer (some ⟨b5,0,none⟩)),(6,.int .i64 0),(7,.int .i64 17982),(8,.int .i64 0),(10,.int .i64 7),(11,.pointer (some ⟨b11,0,none⟩)),(12,.int .i64 0),(13,.pointer (some ⟨b13,0,none⟩)),(14,.int .i64 0),(15,.pointer (some ⟨b15,0,none⟩)),(16,.int .i64 0)] [row 55 7 v17 1 stmA.cells,row 3 1 v18 1 [.int .i64 10],blk b5 (.cells #[.int .i64 0,.int .i64 1,.int .i64 0,.int .i64 2] 32 (0,0)),blk b11 (.cells #[.int .i64 0,.int .i64 0,.int .i64 0,.int .i64 0] 32 (0,0)),blk b13 (.cells #[.int .i64 23,.int .i64 59,.int .i64 59,.int .i64 29] 32 (0,0)),blk b15 (.cells #[.int .u8 4,.int .u8 3,.int .u8 2,.int .u8 1,.int .u8 158,.int .u8 1,.int .u8 2,.int .u8 153,.int .u8 63,.int .u8 253] 51 (0,0))] (Q .normal) by
    with_reducible refine tr_left 13 rfl ?_
    refine left_take 3 rfl kr_ kr_ kr_ (fun w ρ=>rfl) (fun w=>(rk_sliceA (.of rfl))) rfl ?_
    refine left_ready (rs:=[0,1]) (by kernel_rfl) (by simp) (List.forall_mem_cons.2 ⟨?_,List.forall_mem_cons.2 ⟨?_,fun _ h=>absurd h List.not_mem_nil⟩⟩)
    · refine next_step rfl ?_
      (refine tr_new (rk_sliceLit (.cons (.of rfl) .nil) rfl rfl rfl rfl) rfl (fun _ _=>?_);refine n_t ?_)
      rename_i g0 hg0
      refine left_ready (rs:=[1]) (by kernel_rfl) (by simp) (List.forall_mem_cons.2 ⟨?_,fun _ h=>absurd h List.not_mem_nil⟩)
      refine next_step rfl ?_
      (refine tr_new (rk_sliceLit (.cons (.of rfl) (.cons (.of rfl) (.cons (.of rfl) (.cons (.of rfl) (.cons (.of rfl) (.cons (.of rfl) (.cons (.of rfl) (.cons (.of rfl) (.cons (.of rfl) .nil))))))))) rfl rfl rfl rfl) rfl (fun _ _=>?_);refine n_t ?_)
      rename_i g1 hg1
      refine tr_rowLitE (g:=g0) (E:=5) (ys:=[.int .u8 7]) 1 1 (by exact Take.there .here) (by exact rfl) rfl rfl ?_
      refine left_ready (rs:=[2]) (by kernel_rfl) (by simp) (List.forall_mem_cons.2 ⟨?_,fun _ h=>absurd h List.not_mem_nil⟩)
      refine next_step rfl ?_
      refine tr_appendB (.of rfl) (.of rfl) .here (.there .here) norm_ (by rfl) (okc_cons rfl (okc_cons rfl (okc_cons rfl (okc_cons rfl (okc_cons rfl (okc_cons rfl (okc_cons rfl (okc_cons rfl (okc_cons rfl okc_nil))))))))) (by rfl) (by rfl) (by rfl) lenx_ (by rfl) ?_
      intro v90
      (refine n_t ?_)
      refine left_ready (rs:=[4]) (by kernel_rfl) (by simp) (List.forall_mem_cons.2 ⟨?_,fun _ h=>absurd h List.not_mem_nil⟩)
      refine next_step rfl ?_
      refine tr_appendB (.of rfl) (.of rfl) .here (.there (.there .here)) norm_ (by rfl) (okc_cons rfl (okc_cons rfl (okc_cons rfl (okc_cons rfl (okc_cons rfl (okc_cons rfl (okc_cons rfl (okc_cons rfl (okc_cons rfl (okc_cons rfl okc_nil)))))))))) (by rfl) (by rfl) (by rfl) lenx_ (by rfl) ?_
      intro v92
      (refine n_t ?_)
      refine left_ready (rs:=[5]) (by kernel_rfl) (by simp) (List.forall_mem_cons.2 ⟨?_,fun _ h=>absurd h List.not_mem_nil⟩)
      refine next_step rfl ?_
      with_reducible apply tr_call
      case hr=>exact rk_call (.of rfl) (.cons (.of rfl) .nil) inferInstance normc_
      case hd=>rfl
      case ht=>exact Takes.nil
      case hc=>
        intro w1 fp hm1 _ hs1
        obtain rfl:fp = []:=hs1
        exact aw_fnd (Mem.rdRow (v:=v92) (E:=5) (sz:=1) (xs:=byts strA) hm1 (by exact .here) (by exact rfl) (byts_sz _) (by exact rfl)) (hG.keeps hm1.keeps)
      rintro ⟨v17,v18⟩ _
      dsimp only [id_eq,List.cons_append,List.nil_append]
      (refine n_t ?_)
      (refine left_take 6 rfl kr_ kr_ kr_ (fun w ρ=>rfl) (fun w=>(rk_move (.of rfl))) rfl ?_;refine left_take 7 rfl kr_ kr_ kr_ (fun w ρ=>rfl) (fun w=>(rk_extract (.of rfl) rfl)) rfl ?_;refine left_take 8 rfl kr_ kr_ kr_ (fun w ρ=>rfl) (fun w=>(rk_extract (.of rfl) rfl)) rfl ?_;refine left_take 9 rfl kr_ kr_ kr_ (fun w ρ=>rfl) (fun w=>(rk_extract (.of rfl) rfl)) rfl ?_;refine left_take 10 rfl kr_ kr_ kr_ (fun w ρ=>rfl) (fun w=>(rk_assign (.of rfl))) rfl ?_;refine left_take 11 rfl kr_ kr_ kr_ (fun w ρ=>rfl) (fun w=>(rk_assign (.of rfl))) rfl ?_;refine left_take 12 rfl kr_ kr_ kr_ (fun w ρ=>rfl) (fun w=>(rk_assign (.of rfl))) rfl ?_)
      with_reducible refine left_done (by kernel_rfl) ?_
      exact tr_cutW _ _ (by exact .cons rfl (.cons rfl (.cons rfl (.cons rfl (.cons rfl (.cons rfl (.cons rfl (.cons rfl (.cons rfl (.cons rfl (.cons rfl (.cons rfl (.cons rfl (.cons rfl (.cons rfl (.cons rfl (.cons rfl (.cons rfl .nil)))))))))))))))))) (by exact .cons .here (.cons .here (.cons (.there (.there (.there (.there (.there .here))))) (.cons (.there (.there (.there (.there .here)))) (.cons (.there (.there (.there .here))) (.cons (.there (.there .here)) .nil)))))) (hk v17 v18)
    · refine next_step rfl ?_
      (refine tr_new (rk_sliceLit (.cons (.of rfl) (.cons (.of rfl) (.cons (.of rfl) (.cons (.of rfl) (.cons (.of rfl) (.cons (.of rfl) (.cons (.of rfl) (.cons (.of rfl) (.cons (.of rfl) .nil))))))))) rfl rfl rfl rfl) rfl (fun _ _=>?_);refine n_t ?_)
      rename_i g1 hg1
      refine left_ready (rs:=[0]) (by kernel_rfl) (by simp) (List.forall_mem_cons.2 ⟨?_,fun _ h=>absurd h List.not_mem_nil⟩)
      refine next_step rfl ?_
      (refine tr_new (rk_sliceLit (.cons (.of rfl) .nil) rfl rfl rfl rfl) rfl (fun _ _=>?_);refine n_t ?_)
      rename_i g0 hg0
      refine tr_rowLitE (g:=g0) (E:=5) (ys:=[.int .u8 7]) 1 1 (by exact .here) (by exact rfl) rfl rfl ?_
      refine left_ready (rs:=[2]) (by kernel_rfl) (by simp) (List.forall_mem_cons.2 ⟨?_,fun _ h=>absurd h List.not_mem_nil⟩)
      refine next_step rfl ?_
      refine tr_appendB (.of rfl) (.of rfl) .here (.there .here) norm_ (by rfl) (okc_cons rfl (okc_cons rfl (okc_cons rfl (okc_cons rfl (okc_cons rfl (okc_cons rfl (okc_cons rfl (okc_cons rfl (okc_cons rfl okc_nil))))))))) (by rfl) (by rfl) (by rfl) lenx_ (by rfl) ?_
      intro v90
      (refine n_t ?_)
      refine left_ready (rs:=[4]) (by kernel_rfl) (by simp) (List.forall_mem_cons.2 ⟨?_,fun _ h=>absurd h List.not_mem_nil⟩)
      refine next_step rfl ?_
      refine tr_appendB (.of rfl) (.of rfl) .here (.there (.there .here)) norm_ (by rfl) (okc_cons rfl (okc_cons rfl (okc_cons rfl (okc_cons rfl (okc_cons rfl (okc_cons rfl (okc_cons rfl (okc_cons rfl (okc_cons rfl (okc_cons rfl okc_nil)))))))))) (by rfl) (by rfl) (by rfl) lenx_ (by rfl) ?_
      intro v92
      (refine n_t ?_)
      refine left_ready (rs:=[5]) (by kernel_rfl) (by simp) (List.forall_mem_cons.2 ⟨?_,fun _ h=>absurd h List.not_mem_nil⟩)
      refine next_step rfl ?_
      with_reducible apply tr_call
      case hr=>exact rk_call (.of rfl) (.cons (.of rfl) .nil) inferInstance normc_
      case hd=>rfl
      case ht=>exact Takes.nil
      case hc=>
        intro w1 fp hm1 _ hs1
        obtain rfl:fp = []:=hs1
        exact aw_fnd (Mem.rdRow (v:=v92) (E:=5) (sz:=1) (xs:=byts strA) hm1 (by exact .here) (by exact rfl) (byts_sz _) (by exact rfl)) (hG.keeps hm1.keeps)
      rintro ⟨v17,v18⟩ _
      dsimp only [id_eq,List.cons_append,List.nil_append]
      (refine n_t ?_)
      (refine left_take 6 rfl kr_ kr_ kr_ (fun w ρ=>rfl) (fun w=>(rk_move (.of rfl))) rfl ?_;refine left_take 7 rfl kr_ kr_ kr_ (fun w ρ=>rfl) (fun w=>(rk_extract (.of rfl) rfl)) rfl ?_;refine left_take 8 rfl kr_ kr_ kr_ (fun w ρ=>rfl) (fun w=>(rk_extract (.of rfl) rfl)) rfl ?_;refine left_take 9 rfl kr_ kr_ kr_ (fun w ρ=>rfl) (fun w=>(rk_extract (.of rfl) rfl)) rfl ?_;refine left_take 10 rfl kr_ kr_ kr_ (fun w ρ=>rfl) (fun w=>(rk_assign (.of rfl))) rfl ?_;refine left_take 11 rfl kr_ kr_ kr_ (fun w ρ=>rfl) (fun w=>(rk_assign (.of rfl))) rfl ?_;refine left_take 12 rfl kr_ kr_ kr_ (fun w ρ=>rfl) (fun w=>(rk_assign (.of rfl))) rfl ?_)
      with_reducible refine left_done (by kernel_rfl) ?_
      exact tr_cutW _ _ (by exact .cons rfl (.cons rfl (.cons rfl (.cons rfl (.cons rfl (.cons rfl (.cons rfl (.cons rfl (.cons rfl (.cons rfl (.cons rfl (.cons rfl (.cons rfl (.cons rfl (.cons rfl (.cons rfl (.cons rfl (.cons rfl .nil)))))))))))))))))) (by exact .cons .here (.cons .here (.cons (.there (.there (.there (.there (.there .here))))) (.cons (.there (.there (.there (.there .here)))) (.cons (.there (.there (.there .here))) (.cons (.there (.there .here)) .nil)))))) (hk v17 v18)
  subst hQ
  intro v17 v18
  (refine tr_then ?_;refine s_r ?_;refine tr_new (rk_sliceLit (.cons (.of rfl) (.cons (.of rfl) .nil)) rfl rfl rfl rfl) rfl (fun _ _=>?_))
  with_reducible apply tr_call
  case hr=>exact rk_call (.of rfl) (.cons (.of rfl) .nil) inferInstance normc_
  case hd=>rfl
  case ht=>exact Takes.nil
  case hc=>
    intro w1 fp hm1 _ hs1
    obtain rfl:fp = []:=hs1
    exact aw_rev (Mem.rdBlk hm1 (by exact .here) rfl rfl)
  intro v20 _
  dsimp only [id_eq,List.cons_append,List.nil_append]
  (refine m_v rfl rfl ?_;refine tr_val (rk_extract (.of rfl) rfl) rfl ?_;refine tr_val (rk_extract (.of rfl) rfl) rfl ?_;refine a_s rfl rfl ?_;refine a_s rfl rfl ?_;refine n_t ?_;refine tr_seq ?_;refine tr_seq ?_)
  refine tr_rowOpen (E:=55) (sz:=7) (v:=v17) (by exact Take.there (.there .here)) (Nat.zero_lt_one) ?_
  rintro g17 c17 cur17 e17 hcap17 _ _ _
  subst e17
  refine tr_rowOpen (E:=5) (sz:=1) (v:=v20) (by exact Take.there .here) (Nat.zero_lt_two) ?_
  rintro g20 c20 cur20 e20 hcap20 _ _ _
  subst e20
  have hc17:cellsAt (stmA.cells++cur17) (0 * 7) 7 = [.int .i64 30,.bool true,.int .i64 1,.int .i64 2,.int .i64 3,.int .i64 4,.int .i64 258]:=by rw [cellsAt_eq];rfl
  with_reducible refine tr_drawM 77 (by kernel_rfl) ?_
  dsimp only [List.append]
  (refine am_val (fun β=>(rk_move (.of rfl))) ind0 rfl ?_;refine am_val (fun β=>(rk_move (.of rfl))) ind0 rfl ?_;refine am_val (fun β=>(rk_add (.of rfl) (.of rfl) (ini (by omega)))) ind0 rfl ?_;refine am_val (fun β=>(rk_move (.of rfl))) ind0 rfl ?_;refine am_val (fun β=>(rk_add (.of rfl) (.of rfl) (ini (by omega)))) ind0 rfl ?_;refine am_val (fun β=>(rk_move (.of rfl))) ind0 rfl ?_;refine am_val (fun β=>(rk_add (.of rfl) (.of rfl) (ini (by omega)))) ind0 rfl ?_;refine am_val (fun β=>(rk_move (.of rfl))) ind0 rfl ?_;refine am_val (fun β=>(rk_add (.of rfl) (.of rfl) (ini (by omega)))) ind0 rfl ?_;refine am_val (fun β=>(rk_move (.of rfl))) ind0 rfl ?_;refine am_val (fun β=>(rk_add (.of rfl) (.of rfl) (ini (by omega)))) ind0 rfl ?_;refine am_val (fun β=>(rk_move (.of rfl))) ind0 rfl ?_;refine am_val (fun β=>(rk_add (.of rfl) (.of rfl) (ini (by omega)))) ind0 rfl ?_;refine am_val (fun β=>(rk_move (.of rfl))) ind0 rfl ?_;refine am_val (fun β=>(rk_add (.of rfl) (.of rfl) (ini (by omega)))) ind0 rfl ?_;refine am_val (fun β=>(rk_move (.of rfl))) ind0 rfl ?_;refine am_val (fun β=>(rk_add (.of rfl) (.of rfl) (ini (by omega)))) ind0 rfl ?_;refine am_val (fun β=>(rk_neq (.of rfl) (.of rfl))) ind0 rfl ?_;refine am_val (fun β=>(rk_move (.of rfl))) ind0 rfl ?_;refine am_gOn rfl (fun _=>rfl) ?_;refine am_val (fun β=>(rk_move (.of rfl))) ind0 rfl ?_;refine am_gOn rfl (fun _=>rfl) ?_;refine am_val (fun β=>(rk_neq (.of rfl) (.of rfl))) ind0 rfl ?_;refine am_val (fun β=>(rk_pickB (.of rfl) (.of rfl) (.of rfl) rfl)) ind0 rfl ?_;refine am_val (fun β=>(rk_move (.of rfl))) ind0 rfl ?_;refine am_gOn rfl (fun _=>rfl) ?_;refine am_val (fun β=>(rk_move (.of rfl))) ind0 rfl ?_;refine am_gOn rfl (fun _=>rfl) ?_;refine am_val (fun β=>(rk_neq (.of rfl) (.of rfl))) ind0 rfl ?_;refine am_val (fun β=>(rk_pickB (.of rfl) (.of rfl) (.of rfl) rfl)) ind0 rfl ?_;refine am_val (fun β=>(rk_move (.of rfl))) ind0 rfl ?_;refine am_gOn rfl (fun _=>rfl) ?_;refine am_val (fun β=>(rk_move (.of rfl))) ind0 rfl ?_;refine am_gOn rfl (fun _=>rfl) ?_;refine am_val (fun β=>(rk_neq (.of rfl) (.of rfl))) ind0 rfl ?_;refine am_val (fun β=>(rk_pickB (.of rfl) (.of rfl) (.of rfl) rfl)) ind0 rfl ?_;refine am_val (fun β=>(rk_move (.of rfl))) ind0 rfl ?_;refine am_gOn rfl (fun _=>rfl) ?_;refine am_val (fun β=>(rk_loadB (.of rfl) (.there (.there (.there (.there .here)))) norm_ (by rfl))) ind0 rfl ?_;refine am_gOn rfl (fun _=>rfl) ?_;refine am_val (fun β=>(rk_buildL (.cons (.of rfl) (.cons (.of rfl) .nil)) norm_)) ind0 rfl ?_;refine am_gOn rfl (fun _=>rfl) ?_;refine am_val (fun β=>(rk_neqA (.of rfl) (.of rfl) (okL_int (okL_int (okL_int (okL_int okL_nil)))) rfl)) ind0 rfl ?_;refine am_val (fun β=>(rk_pickB (.of rfl) (.of rfl) (.of rfl) rfl)) ind0 rfl ?_;refine am_val (fun β=>(rk_move (.of rfl))) ind0 rfl ?_;refine am_gOn rfl (fun _=>rfl) ?_;refine am_val (fun β=>(rk_move (.of rfl))) ind0 rfl ?_;refine am_gOn rfl (fun _=>rfl) ?_;refine am_val (fun β=>(rk_neq (.of rfl) (.of rfl))) ind0 rfl ?_;refine am_val (fun β=>(rk_pickB (.of rfl) (.of rfl) (.of rfl) rfl)) ind0 rfl ?_;refine am_val (fun β=>(rk_move (.of rfl))) ind0 rfl ?_;refine am_gOn rfl (fun _=>rfl) ?_;refine am_val (fun β=>(rk_loadB (.of rfl) (.there (.there (.there (.there (.there .here))))) norm_ (by rfl))) ind0 rfl ?_;refine am_gOn rfl (fun _=>rfl) ?_;refine am_val (fun β=>(rk_buildL .nil norm_)) ind0 rfl ?_;refine am_gOn rfl (fun _=>rfl) ?_;refine am_val (fun β=>(rk_neqA (.of rfl) (.of rfl) (okL_int (okL_int (okL_int (okL_int okL_nil)))) rfl)) ind0 rfl ?_;refine am_val (fun β=>(rk_pickB (.of rfl) (.of rfl) (.of rfl) rfl)) ind0 rfl ?_;refine am_val (fun β=>(rk_move (.of rfl))) ind0 rfl ?_;refine am_gOn rfl (fun _=>rfl) ?_;refine am_val (fun β=>(rk_loadB (.of rfl) (.there (.there (.there (.there (.there (.there .here)))))) norm_ (by rfl))) ind0 rfl ?_;refine am_gOn rfl (fun _=>rfl) ?_;refine am_val (fun β=>(rk_buildL (.cons (.of rfl) (.cons (.of rfl) (.cons (.of rfl) (.cons (.of rfl) .nil)))) norm_)) ind0 rfl ?_;refine am_gOn rfl (fun _=>rfl) ?_;refine am_val (fun β=>(rk_neqA (.of rfl) (.of rfl) (okL_int (okL_int (okL_int (okL_int okL_nil)))) rfl)) ind0 rfl ?_;refine am_val (fun β=>(rk_pickB (.of rfl) (.of rfl) (.of rfl) rfl)) ind0 rfl ?_;refine am_val (fun β=>(rk_move (.of rfl))) ind0 rfl ?_;refine am_gOn rfl (fun _=>rfl) ?_;refine am_val (fun β=>(rk_loadB (.of rfl) (.there (.there (.there (.there (.there (.there (.there .here))))))) norm_ (by rfl))) ind0 rfl ?_)
  refine am_gOn rfl (fun _=>rfl) ?_
  with_reducible apply am_callV (B:=[]) (F:=fun _=>.agg #[.int .u8 4,.int .u8 3,.int .u8 2,.int .u8 1,.int .u8 158,.int .u8 1,.int .u8 2,.int .u8 153,.int .u8 63,.int .u8 253]) (args:=fun _=>[])
  case hB=>rfl
  case hr=>exact fun β=>rk_call (.of rfl) .nil inferInstance rfl
  case hi=>exact ind0
  case hd=>rfl
  case hc=>exact fun β w' hb'=>word_l w'
  (refine am_gOn rfl (fun _=>rfl) ?_;refine am_val (fun β=>(rk_neqA (.of rfl) (.of rfl) (okL_int (okL_int (okL_int (okL_int (okL_int (okL_int (okL_int (okL_int (okL_int (okL_int okL_nil)))))))))) rfl)) ind0 rfl ?_;refine am_val (fun β=>(rk_pickB (.of rfl) (.of rfl) (.of rfl) rfl)) ind0 rfl ?_;refine am_val (fun β=>(rk_move (.of rfl))) ind0 rfl ?_;refine am_gOn rfl (fun _=>rfl) ?_;refine am_val (fun β=>(rk_move (.of rfl))) ind0 rfl ?_;refine am_gOn rfl (fun _=>rfl) ?_;refine am_val (fun β=>(rk_len_slice (.of rfl))) ind0 rfl ?_;refine am_gOn rfl (fun _=>rfl) ?_;refine am_val (fun β=>(rk_neq (.of rfl) (.of rfl))) ind0 rfl ?_;refine am_val (fun β=>(rk_pickB (.of rfl) (.of rfl) (.of rfl) rfl)) ind0 rfl ?_;refine am_val (fun β=>(rk_move (.of rfl))) ind0 rfl ?_;refine am_gOn rfl (fun _=>rfl) ?_;refine am_val (fun β=>(rk_move (.of rfl))) ind0 rfl ?_;refine am_gOn rfl (fun _=>rfl) ?_;refine am_val (fun β=>(rk_indexAddr (.of rfl) (.of rfl) rfl (by omega) (by omega) norm1_)) ind0 rfl ?_;refine am_gOn rfl (fun _=>rfl) ?_;refine am_val (fun β=>(rk_loadB (.of rfl) (.there .here) hc17 rfl)) ind0 rfl ?_)
  refine am_gOn rfl (fun _=>rfl) ?_
  with_reducible apply am_callV (B:=[]) (F:=fun _=>.agg #[.int .i64 30,.bool true,.int .i64 1,.int .i64 2,.int .i64 3,.int .i64 4,.int .i64 258]) (args:=fun _=>[])
  case hB=>rfl
  case hr=>exact fun β=>rk_call (.of rfl) .nil inferInstance rfl
  case hi=>exact ind0
  case hd=>rfl
  case hc=>exact fun β w' hb'=>stamp_l w'
  (refine am_gOn rfl (fun _=>rfl) ?_;refine am_val (fun β=>(rk_neqA (.of rfl) (.of rfl) (okL_int (okL_bool (okL_int (okL_int (okL_int (okL_int (okL_int okL_nil))))))) rfl)) ind0 rfl ?_;refine am_val (fun β=>(rk_pickB (.of rfl) (.of rfl) (.of rfl) rfl)) ind0 rfl ?_;refine am_val (fun β=>(rk_move (.of rfl))) ind0 rfl ?_;refine am_gOn rfl (fun _=>rfl) ?_;refine am_val (fun β=>(rk_move (.of rfl))) ind0 rfl ?_)
  refine am_gOn rfl (fun _=>rfl) ?_
  refine am_new (fun β=>(rk_sliceLit (.cons (.of rfl) .nil) rfl rfl rfl rfl)) (fun _ _ _=>rfl) rfl ?_
  dsimp only [Nat.zero_add,Nat.reduceAdd]
  refine am_gOn rfl (fun _=>rfl) ?_
  with_reducible apply am_callV (B:=[68]) (F:=fun _=>.bool true) (args:=fun β=>[v18,.slice (some ⟨gnat (β 68),0,none⟩) 1 1])
  case hB=>kernel_rfl
  case hr=>exact fun β=>rk_call (.of rfl) (.cons (.of rfl) (.cons (.of rfl) .nil)) inferInstance rfl
  case hi=>exact ind0
  case hd=>rfl
  case hc=>
    intro β w' hb'
    have m6:=hb'.at 68 List.mem_cons_self (s:=⟨fun β=>.slice (some ⟨gnat (β 68),0,none⟩) 1 1,fun β=>[blk (gnat (β 68)) (.cells #[.int .i64 10] 3)]⟩) (by kernel_rfl)
    dsimp only [List.cons_append,List.nil_append] at m6
    exact sameI_t (l:=[10]) (m:=[10]) (intg_rd (E:=3) (v:=v18) (n:=1) m6 (show Take _ (row 3 1 v18 1 [.int .i64 10]) _ from by exact Take.there (.there (.there (.there .here)))) rfl) (Mem.rdBlk m6 (by exact .here) rfl rfl)
  (refine am_gOn rfl (fun _=>rfl) ?_;refine am_val (fun β=>(rk_not (.of rfl))) ind0 rfl ?_;refine am_val (fun β=>(rk_pickB (.of rfl) (.of rfl) (.of rfl) rfl)) ind0 rfl ?_;refine am_val (fun β=>(rk_move (.of rfl))) ind0 rfl ?_;refine am_gOn rfl (fun _=>rfl) ?_;refine am_val (fun β=>(rk_move (.of rfl))) ind0 rfl ?_)
  refine am_gOn rfl (fun _=>rfl) ?_
  with_reducible apply am_val (F:=fun _=>.string ⟨#[64,128]⟩)
  case hr=>
    intro β
    show RunV _ _ _ _ _ (.string (strOf [64,128]))
    with_reducible apply rk_convBSn (ns:=[64,128])
    case hx=>exact Is.of rfl
    case hv=>exact Ats.blk (by exact .here) (show cellsAt ([Value.int .u8 64,Value.int .u8 128]++cur20) 0 2 = _ by rw [cellsAt_eq];rfl)
    case hl=>rfl
  case hi=>exact ind0
  case hd=>rfl
  (refine am_gOn rfl (fun _=>rfl) ?_;refine am_val (fun β=>(rk_neqs (.of rfl) (.of rfl))) ind0 rfl ?_;refine am_val (fun β=>(rk_pickB (.of rfl) (.of rfl) (.of rfl) rfl)) ind0 rfl ?_)
  refine am_end fun β=>?_
  dsimp only [resAll,List.nil_append,List.cons_append,List.append_eq,Nat.reduceAdd]
  with_reducible refine left_done (by kernel_rfl) ?_
  refine tr_cutH [] .nil ?_
  (refine tr_then ?_;refine tr_cond_f (.of rfl) ?_;refine s_t ?_;refine s_r ?_;refine tr_new (rk_sliceLit (.cons (.of rfl) (.cons (.of rfl) .nil)) rfl rfl rfl rfl) rfl (fun _ _=>?_))
  with_reducible apply tr_call
  case hr=>exact rk_call (.of rfl) (.cons (.of rfl) (.cons (.of rfl) .nil)) inferInstance normc_
  case hd=>rfl
  case ht=>exact Takes.nil
  case hc=>
    intro w1 fp hm1 _ hs1
    obtain rfl:fp = []:=hs1
    exact aw_pul (Mem.rdBlk hm1 (by exact .here) rfl rfl)
  intro v22 _
  dsimp only [id_eq,List.cons_append,List.nil_append]
  (refine m_v rfl rfl ?_;refine tr_val (rk_extract (.of rfl) rfl) rfl ?_;refine tr_val (rk_extract (.of rfl) rfl) rfl ?_;refine a_s rfl rfl ?_;refine a_s rfl rfl ?_;refine n_r ?_;refine tr_new (rk_sliceLit (.cons (.of rfl) (.cons (.of rfl) .nil)) rfl rfl rfl rfl) rfl (fun _ _=>?_);refine tr_val (rk_buildL (.cons (.of rfl) (.cons (.of rfl) .nil)) norm_) rfl ?_;refine tr_val (rk_buildL (.cons (.of rfl) (.cons (.of rfl) .nil)) norm_) rfl ?_;refine tr_val (rk_buildL (.cons (.of rfl) (.cons (.of rfl) .nil)) norm_) rfl ?_;refine tr_val (rk_buildL (.cons (.of rfl) (.cons (.of rfl) .nil)) norm_) rfl ?_;refine tr_val (rk_buildL (.cons (.of rfl) (.cons (.of rfl) .nil)) norm_) rfl ?_;refine tr_new (rk_sliceLitN (.cons (.of rfl) (.cons (.of rfl) (.cons (.of rfl) (.cons (.of rfl) (.cons (.of rfl) .nil))))) rfl rfl normp_ normp_ norm_) rfl (fun _ _=>?_))
  rename_i g185 h185 g191 h191
  refine tr_rowLitE (g:=g191) (E:=95) (ys:=dusV [(0,0),(1,1),(1,2),(2,3),(3,3)]) 5 2 (by exact .here) (by exact rfl) rfl rfl ?_
  with_reducible apply tr_callV
  case hr=>exact rk_call (.of rfl) (.cons (.of rfl) (.cons (.of rfl) .nil)) inferInstance normc_
  case hd=>rfl
  case hc=>
    intro w' hm'
    exact aw_un1 (Mem.rdBlk hm' (by exact Take.there .here) rfl rfl) (dus_rd (E:=95) (v:=.slice (some ⟨g191,0,none⟩) 5 5) (l:=[(0,0),(1,1),(1,2),(2,3),(3,3)]) (n:=5) hm' (by exact .here) rfl)
  (refine m_v rfl rfl ?_;refine tr_val (rk_extract (.of rfl) rfl) rfl ?_;refine tr_val (rk_extract (.of rfl) rfl) rfl ?_;refine a_s rfl rfl ?_;refine a_s rfl rfl ?_;refine n_r ?_;refine tr_new (rk_sliceLit (.cons (.of rfl) .nil) rfl rfl rfl rfl) rfl (fun _ _=>?_);refine tr_val (rk_buildL (.cons (.of rfl) (.cons (.of rfl) .nil)) norm_) rfl ?_;refine tr_new (rk_sliceLitN (.cons (.of rfl) .nil) rfl rfl normp_ normp_ norm_) rfl (fun _ _=>?_))
  rename_i g196 h196 g198 h198
  refine tr_rowLitE (g:=g198) (E:=95) (ys:=dusV [(0,1)]) 1 2 (by exact .here) (by exact rfl) rfl rfl ?_
  with_reducible apply tr_callV
  case hr=>exact rk_call (.of rfl) (.cons (.of rfl) (.cons (.of rfl) .nil)) inferInstance normc_
  case hd=>rfl
  case hc=>
    intro w' hm'
    exact aw_un2 (Mem.rdBlk hm' (by exact Take.there .here) rfl rfl) (dus_rd (E:=95) (v:=.slice (some ⟨g198,0,none⟩) 1 1) (l:=[(0,1)]) (n:=1) hm' (by exact .here) rfl)
  (refine m_v rfl rfl ?_;refine tr_val (rk_extract (.of rfl) rfl) rfl ?_;refine tr_val (rk_extract (.of rfl) rfl) rfl ?_;refine a_s rfl rfl ?_;refine a_s rfl rfl ?_;refine n_r ?_;refine a_s rfl rfl ?_;refine n_r ?_;refine m_v rfl rfl ?_)
  with_reducible apply tr_call
  case hr=>exact rk_call (.of rfl) .nil inferInstance normc_
  case hd=>rfl
  case ht=>exact Takes.nil
  case hc=>
    intro w1 fp hm1 _ hs1
    obtain rfl:fp = []:=hs1
    exact caps_v w1
  intro k1 _
  dsimp only [id_eq,List.cons_append,List.nil_append]
  refine tr_rowLitE (g:=k1) (E:=195) (ys:=cpsV capsA) 2 5 (by exact .here) (by exact rfl) rfl rfl ?_
  with_reducible apply tr_call
  case hr=>exact rk_call (.of rfl) (.cons (.of rfl) .nil) inferInstance normc_
  case hd=>rfl
  case ht=>exact Takes.nil
  case hc=>
    intro w1 fp hm1 _ hs1
    obtain rfl:fp = []:=hs1
    exact aw_chg (cps_rd (E:=195) (v:=.slice (some ⟨k1,0,none⟩) 2 2) (l:=capsA) (n:=2) hm1 (by exact .here) rfl)
  intro v29 _
  dsimp only [id_eq,List.cons_append,List.nil_append]
  (refine m_v rfl rfl ?_;refine tr_val (rk_extract (.of rfl) rfl) rfl ?_;refine tr_val (rk_extract (.of rfl) rfl) rfl ?_;refine a_s rfl rfl ?_;refine a_s rfl rfl ?_;refine n_r ?_;refine m_v rfl rfl ?_)
  with_reducible apply tr_call
  case hr=>exact rk_call (.of rfl) .nil inferInstance normc_
  case hd=>rfl
  case ht=>exact Takes.nil
  case hc=>
    intro w1 fp hm1 _ hs1
    obtain rfl:fp = []:=hs1
    exact caps_v w1
  intro k2 _
  dsimp only [id_eq,List.cons_append,List.nil_append]
  refine tr_rowLitE (g:=k2) (E:=195) (ys:=cpsV capsA) 2 5 (by exact .here) (by exact rfl) rfl rfl ?_
  with_reducible apply tr_callV
  case hr=>exact rk_call (.of rfl) (.cons (.of rfl) (.cons (.of rfl) .nil)) inferInstance normc_
  case hd=>rfl
  case hc=>
    intro w' hm'
    exact aw_shn (cps_rd (E:=195) (v:=.slice (some ⟨k2,0,none⟩) 2 2) (l:=capsA) (n:=2) hm' (by exact .here) rfl)
  have hsh:=ev_h1
  change (shA 1).size = 32 ∧ (shA 1).extract 0 6 = _ at hsh
  generalize shA 0 = s0
  generalize shA 1 = s1 at hsh ⊢
  generalize shA 2 = s2
  generalize shA 3 = s3
  generalize shA 4 = s4
  generalize shA 5 = s5
  generalize shA 6 = s6
  generalize shA 7 = s7
  (refine m_v rfl rfl ?_;refine tr_val (rk_extract (.of rfl) rfl) rfl ?_;refine tr_val (rk_extract (.of rfl) rfl) rfl ?_;refine tr_new (rk_alloc rfl) rfl (fun _ _=>?_);refine tr_store (.of rfl) (.of rfl) .here rfl rfl (okc_cons rfl (okc_cons rfl (okc_cons rfl (okc_cons rfl (okc_cons rfl (okc_cons rfl (okc_cons rfl (okc_cons rfl okc_nil)))))))) (lenb rfl) norm_ ?_;refine a_s rfl rfl ?_;refine n_r ?_;refine m_v rfl rfl ?_)
  with_reducible apply tr_call
  case hr=>exact rk_call (.of rfl) .nil inferInstance normc_
  case hd=>rfl
  case ht=>exact Takes.nil
  case hc=>
    intro w1 fp hm1 _ hs1
    obtain rfl:fp = []:=hs1
    exact caps_v w1
  intro k3 _
  dsimp only [id_eq,List.cons_append,List.nil_append]
  rw [show cpsV capsA = [.int .i64 5,.int .i64 10,.int .i64 1,.int .i64 3,.string ⟨#[65,66]⟩,.int .i64 10,.int .i64 12,.int .i64 1,.int .i64 4,.string ⟨#[67]⟩] from rfl]
  (refine a_s rfl rfl ?_;refine n_r ?_;refine m_v rfl rfl ?_;refine tr_val (rk_indexAddr (.of rfl) (.of rfl) rfl (by omega) (by omega) norm1_) rfl ?_;refine f_a rfl rfl norm0_ ?_;refine f_a rfl rfl norm0_ ?_;refine tr_store (.of rfl) (.of rfl) .here rfl rfl (okc_cons rfl okc_nil) (lenb rfl) norm_ ?_;refine n_r ?_;refine m_v rfl rfl ?_)
  refine tr_rowLitE (g:=k3) (E:=195) (ys:=cpsV [capA0,capA2]) 2 5 (by exact .here) (by exact rfl) rfl rfl ?_
  with_reducible apply tr_callV
  case hr=>exact rk_call (.of rfl) (.cons (.of rfl) .nil) inferInstance normc_
  case hd=>rfl
  case hc=>
    intro w' hm'
    exact aw_chk (cps_rd (E:=195) (v:=.slice (some ⟨k3,0,none⟩) 2 2) (l:=[capA0,capA2]) (n:=2) hm' (by exact .here) rfl)
  (refine a_s rfl rfl ?_;refine n_r ?_)
  with_reducible apply tr_call
  case hr=>exact rk_call (.of rfl) (.cons (.of rfl) .nil) inferInstance normc_
  case hd=>rfl
  case ht=>exact Takes.nil
  case hc=>
    intro w1 fp hm1 _ hs1
    obtain rfl:fp = []:=hs1
    exact aw_snt w1
  intro v35 _
  dsimp only [id_eq,List.cons_append,List.nil_append]
  (refine m_v rfl rfl ?_;refine tr_val (rk_extract (.of rfl) rfl) rfl ?_;refine tr_val (rk_extract (.of rfl) rfl) rfl ?_;refine a_s rfl rfl ?_;refine a_s rfl rfl ?_;refine n_r ?_;refine tr_new (rk_sliceLit (.cons (.of rfl) .nil) rfl rfl rfl rfl) rfl (fun _ _=>?_))
  with_reducible apply tr_call
  case hr=>exact rk_call (.of rfl) (.cons (.of rfl) .nil) inferInstance normc_
  case hd=>rfl
  case ht=>exact Takes.nil
  case hc=>
    intro w1 fp hm1 _ hs1
    obtain rfl:fp = []:=hs1
    exact aw_hrd (Mem.rdBlk hm1 (by exact .here) rfl rfl)
  intro v38 _
  dsimp only [id_eq,List.cons_append,List.nil_append]
  (refine m_v rfl rfl ?_;refine tr_val (rk_extract (.of rfl) rfl) rfl ?_;refine tr_val (rk_extract (.of rfl) rfl) rfl ?_;refine tr_val (rk_extract (.of rfl) rfl) rfl ?_;refine a_s rfl rfl ?_;refine a_s rfl rfl ?_;refine a_s rfl rfl ?_;refine n_r ?_;refine tr_callV (rk_call (.of rfl) .nil inferInstance normc_) rfl (fun w' hm'=>(stamp_l w')) ?_)
  with_reducible apply tr_callV
  case hr=>exact rk_call (.of rfl) (.cons (.of rfl) .nil) inferInstance normc_
  case hd=>rfl
  case hc=>
    intro w' hm'
    exact aw_prt _ (hG.keeps hm'.keeps) (hT.keeps hm'.keeps)
  refine tr_rowOpen (E:=5) (sz:=1) (v:=v35) (by exact Take.there (.there .here)) (Nat.zero_lt_two) ?_
  rintro g35 c35 cur35 e35 hcap35 _ _ _
  subst e35
  (refine m_v rfl rfl ?_;refine tr_val (rk_extract (.of rfl) rfl) rfl ?_;refine tr_val (rk_extract (.of rfl) rfl) rfl ?_;refine a_s rfl rfl ?_;refine a_s rfl rfl ?_;refine n_r ?_;refine m_v rfl rfl ?_;refine m_v rfl rfl ?_;refine tr_val (rk_add (.of rfl) (.of rfl) (ini (by omega))) rfl ?_;refine m_v rfl rfl ?_;refine tr_val (rk_add (.of rfl) (.of rfl) (ini (by omega))) rfl ?_;refine m_v rfl rfl ?_;refine tr_val (rk_add (.of rfl) (.of rfl) (ini (by omega))) rfl ?_;refine m_v rfl rfl ?_;refine tr_val (rk_add (.of rfl) (.of rfl) (ini (by omega))) rfl ?_;refine m_v rfl rfl ?_;refine tr_val (rk_add (.of rfl) (.of rfl) (ini (by omega))) rfl ?_;refine m_v rfl rfl ?_;refine tr_val (rk_add (.of rfl) (.of rfl) (ini (by omega))) rfl ?_;refine m_v rfl rfl ?_;refine tr_val (rk_add (.of rfl) (.of rfl) (ini (by omega))) rfl ?_;refine tr_val (rk_eql (.of rfl) (.of rfl)) rfl ?_;refine m_v rfl rfl ?_;refine tr_gOn rfl rfl ?_;refine m_v rfl rfl ?_;refine tr_gOn rfl rfl ?_;refine tr_val (rk_eql (.of rfl) (.of rfl)) rfl ?_;refine tr_val (rk_pickB (.of rfl) (.of rfl) (.of rfl) rfl) rfl ?_;refine m_v rfl rfl ?_;refine tr_gOn rfl rfl ?_;refine m_v rfl rfl ?_;refine tr_gOn rfl rfl ?_;refine tr_val (rk_buildL (.cons (.of rfl) (.cons (.of rfl) .nil)) norm_) rfl ?_;refine tr_gOn rfl rfl ?_;refine tr_val (rk_buildL (.cons (.of rfl) (.cons (.of rfl) .nil)) norm_) rfl ?_;refine tr_gOn rfl rfl ?_;refine tr_val (rk_buildL (.cons (.of rfl) (.cons (.of rfl) .nil)) norm_) rfl ?_;refine tr_gOn rfl rfl ?_;refine tr_val (rk_buildL (.cons (.of rfl) (.cons (.of rfl) .nil)) norm_) rfl ?_;refine tr_gOn rfl rfl ?_;refine tr_val (rk_buildL (.cons (.of rfl) (.cons (.of rfl) .nil)) norm_) rfl ?_;refine tr_gOn rfl rfl ?_;refine tr_new (rk_sliceLitN (.cons (.of rfl) (.cons (.of rfl) (.cons (.of rfl) (.cons (.of rfl) (.cons (.of rfl) .nil))))) rfl rfl normp_ normp_ norm_) rfl (fun _ _=>?_);refine tr_gOn rfl rfl ?_)
  rename_i g264 h264
  refine tr_rowLitE (g:=g264) (E:=95) (ys:=dusV [(0,0),(1,1),(1,2),(2,3),(3,3)]) 5 2 (by exact .here) (by exact rfl) rfl rfl ?_
  with_reducible apply tr_callV
  case hr=>exact rk_call (.of rfl) (.cons (.of rfl) (.cons (.of rfl) .nil)) inferInstance normc_
  case hd=>rfl
  case hc=>
    intro w' hm'
    exact (sameP_t (l:=[(0,0),(1,1),(1,2),(2,3),(3,3)]) (m:=[(0,0),(1,1),(1,2),(2,3),(3,3)]) (dus_rd (E:=95) (v:=v22) (n:=5) hm' (by exact Take.there (.there (.there (.there (.there (.there (.there (.there (.there (.there (.there (.there (.there .here))))))))))))) rfl) (dus_rd (E:=95) (v:=.slice (some ⟨g264,0,none⟩) 5 5) (n:=5) hm' (by exact .here) rfl):GivesV Tryz.prog 50 _ w' (.bool true))
  (refine tr_val (rk_pickB (.of rfl) (.of rfl) (.of rfl) rfl) rfl ?_;refine m_v rfl rfl ?_;refine tr_gOn rfl rfl ?_;refine m_v rfl rfl ?_;refine tr_gOn rfl rfl ?_;refine tr_val (rk_eql (.of rfl) (.of rfl)) rfl ?_;refine tr_val (rk_pickB (.of rfl) (.of rfl) (.of rfl) rfl) rfl ?_;refine m_v rfl rfl ?_;refine tr_gOn rfl rfl ?_;refine m_v rfl rfl ?_;refine tr_gOn rfl rfl ?_;refine tr_val (rk_eql (.of rfl) (.of rfl)) rfl ?_;refine tr_val (rk_pickB (.of rfl) (.of rfl) (.of rfl) rfl) rfl ?_;refine m_v rfl rfl ?_;refine tr_gOn rfl rfl ?_;refine m_v rfl rfl ?_;refine tr_gOn rfl rfl ?_;refine tr_new (rk_sliceLit (.cons (.of rfl) (.cons (.of rfl) (.cons (.of rfl) .nil))) rfl rfl rfl rfl) rfl (fun _ _=>?_);refine tr_gOn rfl rfl ?_)
  rename_i g277 h277
  with_reducible apply tr_callV
  case hr=>exact rk_call (.of rfl) (.cons (.of rfl) (.cons (.of rfl) .nil)) inferInstance normc_
  case hd=>rfl
  case hc=>
    intro w' hm'
    exact (sameI_t (l:=[5,10,12]) (m:=[5,10,12]) (intg_rd (E:=3) (v:=v29) (n:=3) hm' (by exact Take.there (.there (.there (.there (.there (.there (.there (.there .here)))))))) rfl) (Mem.rdBlk hm' (by exact .here) rfl rfl):GivesV Tryz.prog 58 _ w' (.bool true))
  have hs32:=hsh.1
  (refine tr_val (rk_pickB (.of rfl) (.of rfl) (.of rfl) rfl) rfl ?_;refine m_v rfl rfl ?_;refine tr_gOn rfl rfl ?_;refine tr_val (rk_indexAddrA (.of rfl) (.of rfl) (by omega) (by omega) norm1_) rfl ?_;refine tr_gOn rfl rfl ?_;refine tr_val (rk_load1 (.of rfl) (At.lit (.there (.there (.there (.there (.there (.there .here)))))) rfl)) rfl ?_;refine tr_gOn rfl rfl ?_;refine tr_val (rk_len_string (.of rfl)) rfl ?_;refine tr_gOn rfl rfl ?_;refine tr_val (rk_eql (.of rfl) (.of rfl)) rfl ?_)
  rw [show decide (((s1.size:Nat):Int) = 32) = true from decide_eq_true (by omega)]
  (refine tr_val (rk_pickB (.of rfl) (.of rfl) (.of rfl) rfl) rfl ?_;refine m_v rfl rfl ?_;refine tr_gOn rfl rfl ?_;refine tr_val (rk_indexAddrA (.of rfl) (.of rfl) (by omega) (by omega) norm1_) rfl ?_;refine tr_gOn rfl rfl ?_;refine tr_val (rk_load1 (.of rfl) (At.lit (.there (.there (.there (.there (.there (.there .here)))))) rfl)) rfl ?_;refine tr_gOn rfl rfl ?_;refine tr_val (rk_sliceS_h (.of rfl) (.of rfl) (by omega) (by omega)) rfl ?_;refine tr_gOn rfl rfl ?_;refine tr_val (rk_eqls (.of rfl) (.of rfl)) rfl ?_)
  rw [show decide (s1.extract 0 (6:Int).toNat = ⟨#[32,32,32,65,66,32]⟩) = true from decide_eq_true hsh.2]
  (refine tr_val (rk_pickB (.of rfl) (.of rfl) (.of rfl) rfl) rfl ?_;refine m_v rfl rfl ?_;refine tr_gOn rfl rfl ?_;refine m_v rfl rfl ?_;refine tr_gOn rfl rfl ?_)
  with_reducible apply tr_val (V:=.string ⟨#[193,194]⟩)
  case hr=>
    show RunV _ _ _ _ _ (.string (strOf [193,194]))
    with_reducible apply rk_convBSn (ns:=[193,194])
    case hx=>exact Is.of rfl
    case hv=>exact Ats.blk (by exact Take.there (.there .here)) (show cellsAt ([Value.int .u8 193,Value.int .u8 194]++cur35) 0 2 = _ by rw [cellsAt_eq];rfl)
    case hl=>rfl
  case hd=>rfl
  (refine tr_gOn rfl rfl ?_;refine tr_val (rk_eqls (.of rfl) (.of rfl)) rfl ?_;refine tr_val (rk_pickB (.of rfl) (.of rfl) (.of rfl) rfl) rfl ?_;refine m_v rfl rfl ?_;refine tr_gOn rfl rfl ?_;refine m_v rfl rfl ?_;refine tr_gOn rfl rfl ?_;refine tr_val (rk_eqls (.of rfl) (.of rfl)) rfl ?_;refine tr_val (rk_pickB (.of rfl) (.of rfl) (.of rfl) rfl) rfl ?_;refine m_v rfl rfl ?_;refine tr_gOn rfl rfl ?_;refine m_v rfl rfl ?_;refine tr_gOn rfl rfl ?_;refine tr_new (rk_sliceLit (.cons (.of rfl) .nil) rfl rfl rfl rfl) rfl (fun _ _=>?_);refine tr_gOn rfl rfl ?_)
  rename_i g303 h303
  with_reducible apply tr_callV
  case hr=>exact rk_call (.of rfl) (.cons (.of rfl) (.cons (.of rfl) .nil)) inferInstance normc_
  case hd=>rfl
  case hc=>
    intro w' hm'
    exact (sameI_t (l:=[0]) (m:=[0]) (intg_rd (E:=3) (v:=v38) (n:=1) hm' (show Take _ (row 3 1 v38 1 [.int .i64 0]) _ from by exact Take.there (.there (.there (.there .here)))) rfl) (Mem.rdBlk hm' (by exact .here) rfl rfl):GivesV Tryz.prog 58 _ w' (.bool true))
  (refine tr_val (rk_pickB (.of rfl) (.of rfl) (.of rfl) rfl) rfl ?_;refine m_v rfl rfl ?_;refine tr_gOn rfl rfl ?_;refine m_v rfl rfl ?_;refine tr_gOn rfl rfl ?_;refine tr_val (rk_eqls (.of rfl) (.of rfl)) rfl ?_;refine tr_val (rk_pickB (.of rfl) (.of rfl) (.of rfl) rfl) rfl ?_;refine a_s rfl rfl ?_;refine n_t ?_;refine tr_ret ?_;refine tr_retE rfl (ends1 rfl rfl) ?_)
  rfl
end Go.Proofs.A1
namespace Go.Proofs.A1
open Go Go.SL
def strs (ls:List (List UInt8)):List Value:=ls.map fun l=>Value.string (bsL l)
theorem strs_strB (ls:List (List UInt8)):strs ls = (ls.map bsL).map Value.string:=by simp [strs]
theorem bt_at {s:ByteArray} {i:Nat} {l r:List UInt8} {x:UInt8} (h:toL s = l++x :: r) (hi:l.length = i):(((s.data.toList[i]?.getD 0).toNat:Nat):Int) = x.toNat:=by
  rw [show s.data.toList = l++x :: r from h,List.getElem?_append_right (by omega),hi,Nat.sub_self];rfl
theorem toL_split {s:ByteArray} {i:Nat} (h:i < s.size):∃ x r,toL s = (toL s).take i++x :: r ∧ (toL s).take (i + 1) = (toL s).take i++[x] ∧ (toL s)[i]? = some x:=by
  have hl:i < (toL s).length:=by rw [← size_toL];exact h
  refine ⟨(toL s)[i],(toL s).drop (i + 1),?_,?_,List.getElem?_eq_getElem hl⟩
  · rw [← List.drop_eq_getElem_cons hl,List.take_append_drop]
  · rw [List.take_succ_eq_append_getElem hl]
theorem digB_take {s:ByteArray} {i:Nat} {x:UInt8} (h:(toL s).take (i + 1) = (toL s).take i++[x]):digB ((toL s).take (i + 1)) = (digB ((toL s).take i) && isDg x):=by
  unfold digB;rw [h,List.all_append];simp
theorem digB_bad {l:List UInt8} {i:Nat} {x:UInt8} (hx:l[i]? = some x) (h:isDg x = false):digB l = false:=by
  unfold digB
  rw [List.all_eq_false]
  exact ⟨x,List.mem_of_getElem? hx,by rw [h];decide⟩
theorem bt_hd {s:ByteArray} (h:0 < s.size):(((s.data.toList[0]?.getD 0).toNat:Nat):Int) = ((toL s).headD 0).toNat:=by
  have hl:0 < (toL s).length:=by rw [← size_toL];exact h
  unfold toL at hl ⊢
  cases e:s.data.toList with
  | nil=>rw [e] at hl;simp at hl
  | cons a b=>rfl
end Go.Proofs.A1
namespace Go.Proofs.A1
open Go Go.SL
end Go.Proofs.A1
namespace Go.Proofs
open Go.Shelf
def Tryz.lays144_ren:Go.Shelf.Ren:=⟨fun | 144=>201 | 143=>249 | 219=>277 | 217=>288 | 225=>289 | 224=>290 | 267=>291 | 266=>298 | 314=>299 | n=>n,fun | 9=>9 | 4=>4 | 3=>3 | 5=>5 | 46=>206 | 146=>391 | 51=>91 | n=>n,fun | 1=>2 | n=>n⟩
theorem Tryz.lays144:Go.Proofs.Lays.n144 Tryz.prog Tryz.lays144_ren:={
  mixed:=by kernel_rfl
  f143:=Tryz.func249.trans (congrArg some (by kernel_rfl))
  f144:=Tryz.func201.trans (congrArg some (by kernel_rfl))
  f217:=Tryz.func288.trans (congrArg some (by kernel_rfl))
  f219:=Tryz.func277.trans (congrArg some (by kernel_rfl))
  f224:=Tryz.func290.trans (congrArg some (by kernel_rfl))
  f225:=Tryz.func289.trans (congrArg some (by kernel_rfl))
  f266:=Tryz.func298.trans (congrArg some (by kernel_rfl))
  f267:=Tryz.func291.trans (congrArg some (by kernel_rfl))
  f314:=Tryz.func299.trans (congrArg some (by kernel_rfl))
  t3:=Tryz.underlying3
  a3:=Tryz.isAgg3
  z3:=Tryz.sizeOf3
  v3:=Tryz.zeroValue3
  t4:=Tryz.underlying4
  a4:=Tryz.isAgg4
  z4:=Tryz.sizeOf4
  v4:=Tryz.zeroValue4
  t5:=Tryz.underlying5
  a5:=Tryz.isAgg5
  z5:=Tryz.sizeOf5
  v5:=Tryz.zeroValue5
  t9:=Tryz.underlying9
  a9:=Tryz.isAgg9
  z9:=Tryz.sizeOf9
  v9:=Tryz.zeroValue9
  t46:=Tryz.underlying206
  a46:=Tryz.isAgg206
  z46:=Tryz.sizeOf206
  v46:=Tryz.zeroValue206
  t51:=Tryz.underlying91
  a51:=Tryz.isAgg91
  z51:=Tryz.sizeOf91
  v51:=Tryz.zeroValue91
  t146:=Tryz.underlying391
  a146:=Tryz.isAgg391
  z146:=Tryz.sizeOf391
  v146:=Tryz.zeroValue391
  g1:=by kernel_rfl }
open Go.RowKit Go.Lib in
theorem Tryz.strings_Contains_one (s:ByteArray) (c:UInt8) (w:World) :
    Calls Tryz.prog 201 #[.string s,.string ⟨#[c]⟩] w fun e w'=>e = .returned (.bool (decide (0 ≤ Lib.indexByte s.data.toList c))) ∧ w' = w:=Any.strings_Contains_one Tryz.lays144 s c w
def Tryz.lays146_ren:Go.Shelf.Ren:=⟨fun | 146=>148 | 221=>199 | 268=>247 | 138=>248 | 143=>249 | 195=>274 | 197=>275 | 218=>276 | 219=>277 | 260=>287 | 217=>288 | 225=>289 | 224=>290 | 267=>291 | 266=>298 | 314=>299 | n=>n,fun | 9=>9 | 31=>245 | 3=>3 | 4=>4 | 0=>0 | 105=>372 | 21=>21 | 5=>5 | 46=>206 | 119=>387 | 139=>390 | 138=>389 | 146=>391 | 51=>91 | n=>n,fun | 1=>2 | 3=>4 | 4=>5 | n=>n⟩
theorem Tryz.lays146:Go.Proofs.Lays.n146 Tryz.prog Tryz.lays146_ren:={
  mixed:=by kernel_rfl
  f138:=Tryz.func248.trans (congrArg some (by kernel_rfl))
  f143:=Tryz.func249.trans (congrArg some (by kernel_rfl))
  f146:=Tryz.func148.trans (congrArg some (by kernel_rfl))
  f195:=Tryz.func274.trans (congrArg some (by kernel_rfl))
  f197:=Tryz.func275.trans (congrArg some (by kernel_rfl))
  f217:=Tryz.func288.trans (congrArg some (by kernel_rfl))
  f218:=Tryz.func276.trans (congrArg some (by kernel_rfl))
  f219:=Tryz.func277.trans (congrArg some (by kernel_rfl))
  f221:=Tryz.func199.trans (congrArg some (by kernel_rfl))
  f224:=Tryz.func290.trans (congrArg some (by kernel_rfl))
  f225:=Tryz.func289.trans (congrArg some (by kernel_rfl))
  f260:=Tryz.func287.trans (congrArg some (by kernel_rfl))
  f266:=Tryz.func298.trans (congrArg some (by kernel_rfl))
  f267:=Tryz.func291.trans (congrArg some (by kernel_rfl))
  f268:=Tryz.func247.trans (congrArg some (by kernel_rfl))
  f314:=Tryz.func299.trans (congrArg some (by kernel_rfl))
  t0:=Tryz.underlying0
  a0:=Tryz.isAgg0
  z0:=Tryz.sizeOf0
  v0:=Tryz.zeroValue0
  t3:=Tryz.underlying3
  a3:=Tryz.isAgg3
  z3:=Tryz.sizeOf3
  v3:=Tryz.zeroValue3
  t4:=Tryz.underlying4
  a4:=Tryz.isAgg4
  z4:=Tryz.sizeOf4
  v4:=Tryz.zeroValue4
  t5:=Tryz.underlying5
  a5:=Tryz.isAgg5
  z5:=Tryz.sizeOf5
  v5:=Tryz.zeroValue5
  t9:=Tryz.underlying9
  a9:=Tryz.isAgg9
  z9:=Tryz.sizeOf9
  v9:=Tryz.zeroValue9
  t21:=Tryz.underlying21
  a21:=Tryz.isAgg21
  z21:=Tryz.sizeOf21
  v21:=Tryz.zeroValue21
  t31:=Tryz.underlying245
  a31:=Tryz.isAgg245
  z31:=Tryz.sizeOf245
  v31:=Tryz.zeroValue245
  t46:=Tryz.underlying206
  a46:=Tryz.isAgg206
  z46:=Tryz.sizeOf206
  v46:=Tryz.zeroValue206
  t51:=Tryz.underlying91
  a51:=Tryz.isAgg91
  z51:=Tryz.sizeOf91
  v51:=Tryz.zeroValue91
  t105:=Tryz.underlying372
  a105:=Tryz.isAgg372
  z105:=Tryz.sizeOf372
  v105:=Tryz.zeroValue372
  t119:=Tryz.underlying387
  a119:=Tryz.isAgg387
  z119:=Tryz.sizeOf387
  t138:=Tryz.underlying389
  a138:=Tryz.isAgg389
  z138:=Tryz.sizeOf389
  v138:=Tryz.zeroValue389
  t139:=Tryz.underlying390
  a139:=Tryz.isAgg390
  z139:=Tryz.sizeOf390
  v139:=Tryz.zeroValue390
  t146:=Tryz.underlying391
  a146:=Tryz.isAgg391
  z146:=Tryz.sizeOf391
  v146:=Tryz.zeroValue391
  g1:=by kernel_rfl
  g3:=by kernel_rfl
  g4:=by kernel_rfl }
open Go.RowKit Go.Lib in
theorem Tryz.strings_Split (s sep:ByteArray) (m:Int) (w:World) (hs:s.size < 4294967281) (hm:w.cell? ⟨2,0,none⟩ = some (.int .i64 m)) (h1:1 ≤ sep.size) :
    Calls Tryz.prog 148 #[.string s,.string sep] w fun e w'=>
      e = .returned (.slice (some ⟨w.heap.size,0,none⟩) (Lib.countB s sep + 1) (Lib.countB s sep + 1)) ∧ w' = w.alloc (.cells ((Lib.splitB sep 0 (Lib.countB s sep) s).map Value.string).toArray 9):=Any.strings_Split Tryz.lays146 (by kernel_rfl) s sep m w hs hm h1
end Go.Proofs
