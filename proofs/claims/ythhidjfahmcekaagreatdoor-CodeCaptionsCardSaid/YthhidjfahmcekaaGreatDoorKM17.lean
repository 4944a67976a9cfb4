/- Parts of the proof: U27 U28 U36 U39 U37 U3A. -/
import Derived.Test.YthhidjfahmcekaaGreatDoorKM16
import Derived.Test.YthhidjfahmcekaaGreatDoorKM06
set_option linter.unusedSectionVars false
set_option linter.unusedVariables false
set_option linter.unusedSimpArgs false
namespace Go.Proofs.A1
open Go Go.SL
theorem drop_l (w:World):GivesV Tryz.prog 106 [] w (.agg #[.int .i64 30,.bool true]):=drop_v w
theorem stamp_l (w:World):GivesV Tryz.prog 107 [] w (.agg #[.int .i64 30,.bool true,.int .i64 1,.int .i64 2,.int .i64 3,.int .i64 4,.int .i64 258]):=stamp_v w
theorem aw_day (w:World) (hG:GlobR w):GivesV Tryz.prog 17 [.agg #[.int .i64 30,.bool true]] w (.tuple #[.int .i64 2589408,.int .i64 0]):=by
  have h:=dayX_c dropR w hG
  rw [if_pos ev_day.1,ev_day.1,ev_day.2] at h
  exact h
theorem aw_fr1 (w:World) (hG:GlobR w):GivesV Tryz.prog 19 [.agg #[.int .i64 30,.bool true],.agg #[.int .i64 0,.int .i64 0,.int .i64 59,.int .i64 29]] w (.tuple #[.int .i64 1799,.int .i64 0]):=by
  have h:=frameX_c dropR ⟨0,0,59,29⟩ w hG
  rw [if_pos ev_f1.1,ev_f1.1,ev_f1.2] at h
  exact h
theorem aw_lof (w:World) (hG:GlobR w):GivesV Tryz.prog 28 [.agg #[.int .i64 30,.bool true],.int .i64 1800] w (.tuple #[.agg #[.int .i64 0,.int .i64 1,.int .i64 0,.int .i64 2],.int .i64 0]):=by
  have h:=labelOf_c dropR 1800 w hG
  rw [ev_l1,ev_l2] at h
  exact h
theorem aw_fr2 (w:World) (hG:GlobR w):GivesV Tryz.prog 19 [.agg #[.int .i64 30,.bool true],.agg #[.int .i64 0,.int .i64 10,.int .i64 0,.int .i64 0]] w (.tuple #[.int .i64 17982,.int .i64 0]):=by
  have h:=frameX_c dropR ⟨0,10,0,0⟩ w hG
  rw [if_pos ev_f2.1,ev_f2.1,ev_f2.2] at h
  exact h
theorem aw_fr3 (w:World) (hG:GlobR w):GivesV Tryz.prog 19 [.agg #[.int .i64 30,.bool true],.agg #[.int .i64 0,.int .i64 1,.int .i64 0,.int .i64 0]] w (.tuple #[.int .i64 0,.int .i64 7]):=by
  have h:=frameX_c dropR ⟨0,1,0,0⟩ w hG
  rw [if_neg (by rw [ev_f3];decide),ev_f3] at h
  exact h
theorem aw_ad1 (w:World) (hG:GlobR w):GivesV Tryz.prog 29 [.agg #[.int .i64 25,.bool false],.agg #[.int .i64 23,.int .i64 59,.int .i64 59,.int .i64 24],.int .i64 1] w (.tuple #[.agg #[.int .i64 0,.int .i64 0,.int .i64 0,.int .i64 0],.int .i64 0]):=by
  have h:=addedX_c ⟨25,false⟩ ⟨23,59,59,24⟩ 1 w hG
  rw [ev_a1,ev_a2] at h
  exact h
theorem aw_ad2 (w:World) (hG:GlobR w):GivesV Tryz.prog 29 [.agg #[.int .i64 30,.bool true],.agg #[.int .i64 0,.int .i64 0,.int .i64 0,.int .i64 0],.int .i64 (-1)] w (.tuple #[.agg #[.int .i64 23,.int .i64 59,.int .i64 59,.int .i64 29],.int .i64 0]):=by
  have h:=addedX_c dropR ⟨0,0,0,0⟩ (-1) w hG
  rw [ev_a3,ev_a4] at h
  exact h
theorem aw_wr (w:World) (hG:GlobR w):GivesV Tryz.prog 34 [.agg #[.int .i64 30,.bool true,.int .i64 1,.int .i64 2,.int .i64 3,.int .i64 4,.int .i64 258]] w (.tuple #[.agg #[.int .u8 4,.int .u8 3,.int .u8 2,.int .u8 1,.int .u8 158,.int .u8 1,.int .u8 2,.int .u8 153,.int .u8 63,.int .u8 253],.int .i64 0]):=by
  have h:=written_c stmA w hG
  rw [ev_w1.1,ev_w1.2] at h
  exact h
theorem word_l (w:World):GivesV Tryz.prog 108 [] w (.agg #[.int .u8 4,.int .u8 3,.int .u8 2,.int .u8 1,.int .u8 158,.int .u8 1,.int .u8 2,.int .u8 153,.int .u8 63,.int .u8 253]):=word_v w
theorem aw_prt (w:World) (hG:GlobR w) (hT:Tab10 w):GivesV Tryz.prog 81 [.agg #[.int .i64 30,.bool true,.int .i64 1,.int .i64 2,.int .i64 3,.int .i64 4,.int .i64 258]] w (.tuple #[.string ⟨#[48,49,58,48,50,58,48,51,59,48,52,32,97,116,32,51,48,32,50,53,56]⟩,.int .i64 0]):=by
  have h:=print_c stmA w hG hT
  rw [ev_z,ev_w1.1] at h
  exact h
theorem aw_fnd {sv:Value} {w:World} (h:Rd w sv 1 (byts strA)) (hG:GlobR w) :
    Gives Tryz.prog 72 [sv] w [] (fun _:Value × Value=>True) (fun v=>.tuple #[v.1,v.2,.int .i64 0]) (fun v=>[row 55 7 v.1 1 stmA.cells,row 3 1 v.2 1 [.int .i64 10]]):=by
  have h2:=found_c h (by decide) hG
  rw [ev_s0,ev_s1.1,ev_s1.2.1,ev_s1.2.2] at h2
  exact h2
theorem aw_rev {sv:Value} {w:World} (h:Rd w sv 1 (byts [1,2])) :
    Gives Tryz.prog 71 [sv] w [] (fun _:Value=>True) (fun v=>.tuple #[v,.int .i64 0]) (fun v=>[row 5 1 v 2 [.int .u8 64,.int .u8 128]]):=by
  have h2:=reversed_c h (by decide)
  rw [ev_r0.1,ev_r0.2] at h2
  exact h2
theorem aw_pul {sv:Value} {w:World} (h:Rd w sv 1 (intg [2,3])) :
    Gives Tryz.prog 42 [sv,.int .i64 4] w [] (fun _:Value=>True) (fun v=>.tuple #[v,.int .i64 0]) (fun v=>[row 95 2 v 5 (dusV [(0,0),(1,1),(1,2),(2,3),(3,3)])]):=by
  have h2:=pulledX_c (n:=4) h
  rw [ev_p0.1,ev_p0.2] at h2
  exact h2
theorem aw_un1 {sv lv:Value} {w:World} (h:Rd w sv 1 (intg [2,3])) (hl:Rd w lv 2 (dus [(0,0),(1,1),(1,2),(2,3),(3,3)])) :
    GivesV Tryz.prog 44 [sv,lv] w (.tuple #[.int .i64 4,.int .i64 0]):=by
  have h2:=undone_c h hl
  rw [ev_u1.1,ev_u1.2] at h2
  exact h2
theorem aw_un2 {sv lv:Value} {w:World} (h:Rd w sv 1 (intg [1])) (hl:Rd w lv 2 (dus [(0,1)])) :
    GivesV Tryz.prog 44 [sv,lv] w (.tuple #[.int .i64 2,.int .i64 0]):=by
  have h2:=undone_c h hl
  rw [ev_u2.1,ev_u2.2] at h2
  exact h2
theorem capsA_tx:∀ x ∈ capsA,x.tx.size ≤ 1000000000:=by
  intro x hx
  simp only [capsA,List.mem_cons,List.not_mem_nil,or_false] at hx
  rcases hx with rfl | rfl <;> decide
theorem aw_chg {lv:Value} {w:World} (h:Rd w lv 5 (cps capsA)) :
    Gives Tryz.prog 62 [lv] w [] (fun _:Value=>True) (fun v=>.tuple #[v,.int .i64 0]) (fun v=>[row 3 1 v 3 (intgV [5,10,12])]):=by
  have h2:=changes_c h capsA_tx
  rw [ev_c0,ev_c1] at h2
  exact h2
def shA (i:Nat):ByteArray:=strB (rowB capsA 9 (i:Nat))
theorem aw_shn {lv:Value} {w:World} (h:Rd w lv 5 (cps capsA)) :
    GivesV Tryz.prog 60 [lv,.int .i64 9] w (.tuple #[.agg #[.string (shA 0),.string (shA 1),.string (shA 2),.string (shA 3),.string (shA 4),.string (shA 5),.string (shA 6),.string (shA 7)],.int .i64 0]):=by
  have h2:=shownX_c (n:=9) h capsA_tx
  unfold shnX at h2
  rw [if_pos ev_h0,ev_h0] at h2
  exact h2
theorem aw_chk {lv:Value} {w:World} (h:Rd w lv 5 (cps [capA0,capA2])):GivesV Tryz.prog 68 [lv] w (.int .i64 24):=by
  have h2:=chkCaps_c h (by
    intro x hx
    simp only [List.mem_cons,List.not_mem_nil,or_false] at hx
    rcases hx with rfl | rfl <;> decide)
  rw [ev_c2] at h2
  exact h2
theorem aw_snt (w:World) :
    Gives Tryz.prog 51 [.string ⟨#[65,66]⟩] w [] (fun _:Value=>True) (fun v=>.tuple #[v,.int .i64 0]) (fun v=>[row 5 1 v 2 [.int .u8 193,.int .u8 194]]):=by
  have h2:=sent_c ⟨#[65,66]⟩ w
  rw [ev_t0.1,ev_t0.2] at h2
  exact h2
theorem aw_hrd {sv:Value} {w:World} (h:Rd w sv 1 (byts [65])) :
    Gives Tryz.prog 52 [sv] w [] (fun _:Value=>True) (fun v=>.tuple #[.string ⟨#[63]⟩,v,.int .i64 0]) (fun v=>[row 3 1 v 1 [.int .i64 0]]):=by
  have h2:=heard_c h (by decide)
  rw [ev_t1.1,ev_t1.2.1,ev_t1.2.2] at h2
  exact h2
end Go.Proofs.A1
namespace Go.Proofs.A1
open Go Go.SL
theorem tr_cutW {c:Cx} {D:List Nat} {sl:Slots} {hs rest:List Asn} {X:Act → World → Prop} (sl2:Slots) (hs2:List Asn) (h1:Subs sl sl2) (ht:Takes hs hs2 rest) (k:Tr c D sl2 hs2 X):Tr c D sl hs X:=fun a w hst=>k a w (hst.weaken h1 ht)
theorem rk_pickB {P:Program} {c:Cx} {sl:Slots} {hs:List Asn} {dst:Option Tmp} {ty:TypeId} {pos:String} {af:Array Edge} {g:Option (Nat × Bool)} {x y z:Operand} {q:Bool} {v u V:Value} (hx:Is sl x (.bool q)) (hy:Is sl y v) (hz:Is sl z u) (e:(bif q then v else u) = V):RunV P c sl hs ⟨dst,.pick x y z,ty,pos,af,g⟩ V:=e ▸ rk_pick hx hy hz
theorem tr_cutH {c:Cx} {D:List Nat} {sl:Slots} {hs rest:List Asn} {X:Act → World → Prop} (hs2:List Asn) (ht:Takes hs hs2 rest) (k:Tr c D sl hs2 X):Tr c D sl hs X:=fun a w hst=>k a w (hst.heap (by
  have h1:=hst.mem.takes (ht.append (mks D))
  obtain ⟨kk,fp,hn,hsat,hb⟩:=h1
  obtain ⟨f1,f23,rfl,g1,g23⟩:=Sats.append_iff.1 hsat
  obtain ⟨f2,f3,rfl,g2,g3⟩:=Sats.append_iff.1 g23
  obtain ⟨n1,n23,n12⟩:=List.nodup_append.1 hn
  obtain ⟨n2,n3,n4⟩:=List.nodup_append.1 n23
  exact ⟨kk,f1++f3,List.nodup_append.2 ⟨n1,n3,fun x hx y hy=>n12 x hx y (List.mem_append_right _ hy)⟩,Sats.append_iff.2 ⟨f1,f3,rfl,g1,g3⟩,fun b hb'=>hb b (by
    rcases List.mem_append.1 hb' with h | h
    · exact List.mem_append_left _ h
    · exact List.mem_append_right _ (List.mem_append_right _ h))⟩))
set_option maxHeartbeats 8000000 in
theorem awake_c (w:World) (hG:GlobR w) (hT:Tab10 w):GivesV Tryz.prog 27 [] w (.bool true):=by
  refine givesV_of_tr Tryz.func27 rfl rfl ?_
  (refine s_r ?_;refine a_s rfl rfl ?_;refine n_r ?_;refine tr_callV (rk_call (.of rfl) .nil inferInstance normc_) rfl (fun w' hm'=>(drop_l w')) ?_;refine tr_callV (rk_call (.of rfl) (.cons (.of rfl) .nil) inferInstance normc_) rfl (fun w' hm'=>(aw_day w' (GlobR.keeps hG (Mem.keeps hm')))) ?_;refine m_v rfl rfl ?_;refine tr_val (rk_extract (.of rfl) rfl) rfl ?_;refine tr_val (rk_extract (.of rfl) rfl) rfl ?_;refine a_s rfl rfl ?_;refine a_s rfl rfl ?_;refine n_r ?_;refine tr_callV (rk_call (.of rfl) .nil inferInstance normc_) rfl (fun w' hm'=>(drop_l w')) ?_;refine tr_val (rk_buildL (.cons (.of rfl) (.cons (.of rfl) .nil)) norm_) rfl ?_;refine tr_callV (rk_call (.of rfl) (.cons (.of rfl) (.cons (.of rfl) .nil)) inferInstance normc_) rfl (fun w' hm'=>(aw_fr1 w' (GlobR.keeps hG (Mem.keeps hm')))) ?_;refine m_v rfl rfl ?_;refine tr_val (rk_extract (.of rfl) rfl) rfl ?_;refine tr_val (rk_extract (.of rfl) rfl) rfl ?_;refine a_s rfl rfl ?_;refine a_s rfl rfl ?_;refine n_r ?_;refine tr_callV (rk_call (.of rfl) .nil inferInstance normc_) rfl (fun w' hm'=>(drop_l w')) ?_;refine tr_callV (rk_call (.of rfl) (.cons (.of rfl) (.cons (.of rfl) .nil)) inferInstance normc_) rfl (fun w' hm'=>(aw_lof w' (GlobR.keeps hG (Mem.keeps hm')))) ?_;refine m_v rfl rfl ?_;refine tr_val (rk_extract (.of rfl) rfl) rfl ?_;refine tr_val (rk_extract (.of rfl) rfl) rfl ?_;refine tr_new (rk_alloc rfl) rfl (fun _ _=>?_);refine tr_store (.of rfl) (.of rfl) .here rfl rfl (okc_cons rfl (okc_cons rfl (okc_cons rfl (okc_cons rfl okc_nil)))) (lenb rfl) norm_ ?_;refine a_s rfl rfl ?_;refine n_r ?_;refine tr_callV (rk_call (.of rfl) .nil inferInstance normc_) rfl (fun w' hm'=>(drop_l w')) ?_;refine tr_val (rk_buildL (.cons (.of rfl) .nil) norm_) rfl ?_;refine tr_callV (rk_call (.of rfl) (.cons (.of rfl) (.cons (.of rfl) .nil)) inferInstance normc_) rfl (fun w' hm'=>(aw_fr2 w' (GlobR.keeps hG (Mem.keeps hm')))) ?_;refine m_v rfl rfl ?_;refine tr_val (rk_extract (.of rfl) rfl) rfl ?_;refine tr_val (rk_extract (.of rfl) rfl) rfl ?_;refine a_s rfl rfl ?_;refine a_s rfl rfl ?_;refine n_r ?_;refine tr_callV (rk_call (.of rfl) .nil inferInstance normc_) rfl (fun w' hm'=>(drop_l w')) ?_;refine tr_val (rk_buildL (.cons (.of rfl) .nil) norm_) rfl ?_;refine tr_callV (rk_call (.of rfl) (.cons (.of rfl) (.cons (.of rfl) .nil)) inferInstance normc_) rfl (fun w' hm'=>(aw_fr3 w' (GlobR.keeps hG (Mem.keeps hm')))) ?_;refine m_v rfl rfl ?_;refine tr_val (rk_extract (.of rfl) rfl) rfl ?_;refine tr_val (rk_extract (.of rfl) rfl) rfl ?_;refine a_s rfl rfl ?_;refine a_s rfl rfl ?_;refine n_r ?_;refine tr_val (rk_buildL (.cons (.of rfl) .nil) norm_) rfl ?_;refine tr_val (rk_buildL (.cons (.of rfl) (.cons (.of rfl) (.cons (.of rfl) (.cons (.of rfl) .nil)))) norm_) rfl ?_;refine tr_callV (rk_call (.of rfl) (.cons (.of rfl) (.cons (.of rfl) (.cons (.of rfl) .nil))) inferInstance normc_) rfl (fun w' hm'=>(aw_ad1 w' (GlobR.keeps hG (Mem.keeps hm')))) ?_;refine m_v rfl rfl ?_;refine tr_val (rk_extract (.of rfl) rfl) rfl ?_;refine tr_val (rk_extract (.of rfl) rfl) rfl ?_;refine tr_new (rk_alloc rfl) rfl (fun _ _=>?_);refine tr_store (.of rfl) (.of rfl) .here rfl rfl (okc_cons rfl (okc_cons rfl (okc_cons rfl (okc_cons rfl okc_nil)))) (lenb rfl) norm_ ?_;refine a_s rfl rfl ?_;refine n_r ?_;refine tr_callV (rk_call (.of rfl) .nil inferInstance normc_) rfl (fun w' hm'=>(drop_l w')) ?_;refine tr_val (rk_buildL .nil norm_) rfl ?_;refine tr_callV (rk_call (.of rfl) (.cons (.of rfl) (.cons (.of rfl) (.cons (.of rfl) .nil))) inferInstance normc_) rfl (fun w' hm'=>(aw_ad2 w' (GlobR.keeps hG (Mem.keeps hm')))) ?_;refine m_v rfl rfl ?_;refine tr_val (rk_extract (.of rfl) rfl) rfl ?_;refine tr_val (rk_extract (.of rfl) rfl) rfl ?_;refine tr_new (rk_alloc rfl) rfl (fun _ _=>?_);refine tr_store (.of rfl) (.of rfl) .here rfl rfl (okc_cons rfl (okc_cons rfl (okc_cons rfl (okc_cons rfl okc_nil)))) (lenb rfl) norm_ ?_;refine a_s rfl rfl ?_;refine n_r ?_;refine tr_callV (rk_call (.of rfl) .nil inferInstance normc_) rfl (fun w' hm'=>(stamp_l w')) ?_;refine tr_callV (rk_call (.of rfl) (.cons (.of rfl) .nil) inferInstance normc_) rfl (fun w' hm'=>(aw_wr w' (GlobR.keeps hG (Mem.keeps hm')))) ?_;refine m_v rfl rfl ?_;refine tr_val (rk_extract (.of rfl) rfl) rfl ?_;refine tr_val (rk_extract (.of rfl) rfl) rfl ?_;refine tr_new (rk_alloc rfl) rfl (fun _ _=>?_);refine tr_store (.of rfl) (.of rfl) .here rfl rfl (okc_cons rfl (okc_cons rfl (okc_cons rfl (okc_cons rfl (okc_cons rfl (okc_cons rfl (okc_cons rfl (okc_cons rfl (okc_cons rfl (okc_cons rfl okc_nil)))))))))) (lenb rfl) norm_ ?_;refine a_s rfl rfl ?_;refine n_t ?_;refine tr_seq ?_)
  rename_i b5 hb5 b11 hb11 b13 hb13 b15 hb15
  generalize hQ:Exit.then _ _ = Q
  suffices hk:∀ (v17 v18:Value),Tr _ _ [(17,v17),(18,v18),(19,.int .i64 0),(1,.int .i64 2589408),(2,.int .i64 0),(3,.int .i64 1799),(4,.int .i64 0),(5,.pointer (some ⟨b5,0,none⟩)),(6,.int .i64 0),(7,.int .i64 17982),(8,.int .i64 0),(10,.int .i64 7),(11,.pointer (some ⟨b11,0,none⟩)),(12,.int .i64 0),(13,.pointer (some ⟨b13,0,none⟩)),(14,.int .i64 0),(15,.pointer (some ⟨b15,0,none⟩)),(16,.int .i64 0)] [row 55 7 v17 1 stmA.cells,row 3 1 v18 1 [.int .i64 10],blk b5 (.cells #[.int .i64 0,.int .i64 1,.int .i64 0,.int .i64 2] 32 (0,0)),blk b11 (.cells #[.int .i64 0,.int .i64 0,.int .i64 0,.int .i64 0] 32 (0,0)),blk b13 (.cells #[.int .i64 23,.int .i64 59,.int .i64 59,.int .i64 29] 32 (0,0)),blk b15 (.cells #[.int .u8 4,.int .u8 3,.int .u8 2,.int .u8 1,.int .u8 158,.int .u8 1,.int .u8 2,.int .u8 153,.int .u8 63,.int .u8 253] 51 (0,0))] (Q .normal) by
    with_reducible refine tr_left 13 rfl ?_
    refine left_take 3 rfl kr_ kr_ kr_ (fun w ρ=>rfl) (fun w=>(rk_sliceA (.of rfl))) rfl ?_
    refine left_ready (rs:=[0,1]) (by kernel_rfl) (by simp) (List.forall_mem_cons.2 ⟨?_,List.forall_mem_cons.2 ⟨?_,fun _ h=>absurd h List.not_mem_nil⟩⟩)
    · refine next_step rfl ?_
      (refine tr_new (rk_sliceLit (.cons (.of rfl) .nil) rfl rfl rfl rfl) rfl (fun _ _=>?_);refine n_t ?_)
      rename_i g0 hg0
      refine left_ready (rs:=[1]) (by kernel_rfl) (by simp) (List.forall_mem_cons.2 ⟨?_,fun _ h=>absurd h List.not_mem_nil⟩)
      refine next_step rfl ?_
      (refine tr_new (rk_sliceLit (.cons (.of rfl) (.cons (.of rfl) (.cons (.of rfl) (.cons (.of rfl) (.cons (.of rfl) (.cons (.of rfl) (.cons (.of rfl) (.cons (.of rfl) (.cons (.of rfl) .nil))))))))) rfl rfl rfl rfl) rfl (fun _ _=>?_);refine n_t ?_)
      rename_i g1 hg1
      refine tr_rowLitE (g:=g0) (E:=5) (ys:=[.int .u8 7]) 1 1 (by exact Take.there .here) (by exact rfl) rfl rfl ?_
      refine left_ready (rs:=[2]) (by kernel_rfl) (by simp) (List.forall_mem_cons.2 ⟨?_,fun _ h=>absurd h List.not_mem_nil⟩)
      refine next_step rfl ?_
      refine tr_appendB (.of rfl) (.of rfl) .here (.there .here) norm_ (by rfl) (okc_cons rfl (okc_cons rfl (okc_cons rfl (okc_cons rfl (okc_cons rfl (okc_cons rfl (okc_cons rfl (okc_cons rfl (okc_cons rfl okc_nil))))))))) (by rfl) (by rfl) (by rfl) lenx_ (by rfl) ?_
      intro v90
      (refine n_t ?_)
      refine left_ready (rs:=[4]) (by kernel_rfl) (by simp) (List.forall_mem_cons.2 ⟨?_,fun _ h=>absurd h List.not_mem_nil⟩)
      refine next_step rfl ?_
      refine tr_appendB (.of rfl) (.of rfl) .here (.there (.there .here)) norm_ (by rfl) (okc_cons rfl (okc_cons rfl (okc_cons rfl (okc_cons rfl (okc_cons rfl (okc_cons rfl (okc_cons rfl (okc_cons rfl (okc_cons rfl (okc_cons rfl okc_nil)))))))))) (by rfl) (by rfl) (by rfl) lenx_ (by rfl) ?_
      intro v92
      (refine n_t ?_)
      refine left_ready (rs:=[5]) (by kernel_rfl) (by simp) (List.forall_mem_cons.2 ⟨?_,fun _ h=>absurd h List.not_mem_nil⟩)
      refine next_step rfl ?_
      with_reducible apply tr_call
      case hr=>exact rk_call (.of rfl) (.cons (.of rfl) .nil) inferInstance normc_
      case hd=>rfl
      case ht=>exact Takes.nil
      case hc=>
        intro w1 fp hm1 _ hs1
        obtain rfl:fp = []:=hs1
        exact aw_fnd (Mem.rdRow (v:=v92) (E:=5) (sz:=1) (xs:=byts strA) hm1 (by exact .here) (by exact rfl) (byts_sz _) (by exact rfl)) (hG.keeps hm1.keeps)
      rintro ⟨v17,v18⟩ _
      dsimp only [id_eq,List.cons_append,List.nil_append]
      (refine n_t ?_)
      (refine left_take 6 rfl kr_ kr_ kr_ (fun w ρ=>rfl) (fun w=>(rk_move (.of rfl))) rfl ?_;refine left_take 7 rfl kr_ kr_ kr_ (fun w ρ=>rfl) (fun w=>(rk_extract (.of rfl) rfl)) rfl ?_;refine left_take 8 rfl kr_ kr_ kr_ (fun w ρ=>rfl) (fun w=>(rk_extract (.of rfl) rfl)) rfl ?_;refine left_take 9 rfl kr_ kr_ kr_ (fun w ρ=>rfl) (fun w=>(rk_extract (.of rfl) rfl)) rfl ?_;refine left_take 10 rfl kr_ kr_ kr_ (fun w ρ=>rfl) (fun w=>(rk_assign (.of rfl))) rfl ?_;refine left_take 11 rfl kr_ kr_ kr_ (fun w ρ=>rfl) (fun w=>(rk_assign (.of rfl))) rfl ?_;refine left_take 12 rfl kr_ kr_ kr_ (fun w ρ=>rfl) (fun w=>(rk_assign (.of rfl))) rfl ?_)
      with_reducible refine left_done (by kernel_rfl) ?_
      exact tr_cutW _ _ (by exact .cons rfl (.cons rfl (.cons rfl (.cons rfl (.cons rfl (.cons rfl (.cons rfl (.cons rfl (.cons rfl (.cons rfl (.cons rfl (.cons rfl (.cons rfl (.cons rfl (.cons rfl (.cons rfl (.cons rfl (.cons rfl .nil)))))))))))))))))) (by exact .cons .here (.cons .here (.cons (.there (.there (.there (.there (.there .here))))) (.cons (.there (.there (.there (.there .here)))) (.cons (.there (.there (.there .here))) (.cons (.there (.there .here)) .nil)))))) (hk v17 v18)
    · refine next_step rfl ?_
      (refine tr_new (rk_sliceLit (.cons (.of rfl) (.cons (.of rfl) (.cons (.of rfl) (.cons (.of rfl) (.cons (.of rfl) (.cons (.of rfl) (.cons (.of rfl) (.cons (.of rfl) (.cons (.of rfl) .nil))))))))) rfl rfl rfl rfl) rfl (fun _ _=>?_);refine n_t ?_)
      rename_i g1 hg1
      refine left_ready (rs:=[0]) (by kernel_rfl) (by simp) (List.forall_mem_cons.2 ⟨?_,fun _ h=>absurd h List.not_mem_nil⟩)
      refine next_step rfl ?_
      (refine tr_new (rk_sliceLit (.cons (.of rfl) .nil) rfl rfl rfl rfl) rfl (fun _ _=>?_);refine n_t ?_)
      rename_i g0 hg0
      refine tr_rowLitE (g:=g0) (E:=5) (ys:=[.int .u8 7]) 1 1 (by exact .here) (by exact rfl) rfl rfl ?_
      refine left_ready (rs:=[2]) (by kernel_rfl) (by simp) (List.forall_mem_cons.2 ⟨?_,fun _ h=>absurd h List.not_mem_nil⟩)
      refine next_step rfl ?_
      refine tr_appendB (.of rfl) (.of rfl) .here (.there .here) norm_ (by rfl) (okc_cons rfl (okc_cons rfl (okc_cons rfl (okc_cons rfl (okc_cons rfl (okc_cons rfl (okc_cons rfl (okc_cons rfl (okc_cons rfl okc_nil))))))))) (by rfl) (by rfl) (by rfl) lenx_ (by rfl) ?_
      intro v90
      (refine n_t ?_)
      refine left_ready (rs:=[4]) (by kernel_rfl) (by simp) (List.forall_mem_cons.2 ⟨?_,fun _ h=>absurd h List.not_mem_nil⟩)
      refine next_step rfl ?_
      refine tr_appendB (.of rfl) (.of rfl) .here (.there (.there .here)) norm_ (by rfl) (okc_cons rfl (okc_cons rfl (okc_cons rfl (okc_cons rfl (okc_cons rfl (okc_cons rfl (okc_cons rfl (okc_cons rfl (okc_cons rfl (okc_cons rfl okc_nil)))))))))) (by rfl) (by rfl) (by rfl) lenx_ (by rfl) ?_
      intro v92
      (refine n_t ?_)
      refine left_ready (rs:=[5]) (by kernel_rfl) (by simp) (List.forall_mem_cons.2 ⟨?_,fun _ h=>absurd h List.not_mem_nil⟩)
      refine next_step rfl ?_
      with_reducible apply tr_call
      case hr=>exact rk_call (.of rfl) (.cons (.of rfl) .nil) inferInstance normc_
      case hd=>rfl
      case ht=>exact Takes.nil
      case hc=>
        intro w1 fp hm1 _ hs1
        obtain rfl:fp = []:=hs1
        exact aw_fnd (Mem.rdRow (v:=v92) (E:=5) (sz:=1) (xs:=byts strA) hm1 (by exact .here) (by exact rfl) (byts_sz _) (by exact rfl)) (hG.keeps hm1.keeps)
      rintro ⟨v17,v18⟩ _
      dsimp only [id_eq,List.cons_append,List.nil_append]
      (refine n_t ?_)
      (refine left_take 6 rfl kr_ kr_ kr_ (fun w ρ=>rfl) (fun w=>(rk_move (.of rfl))) rfl ?_;refine left_take 7 rfl kr_ kr_ kr_ (fun w ρ=>rfl) (fun w=>(rk_extract (.of rfl) rfl)) rfl ?_;refine left_take 8 rfl kr_ kr_ kr_ (fun w ρ=>rfl) (fun w=>(rk_extract (.of rfl) rfl)) rfl ?_;refine left_take 9 rfl kr_ kr_ kr_ (fun w ρ=>rfl) (fun w=>(rk_extract (.of rfl) rfl)) rfl ?_;refine left_take 10 rfl kr_ kr_ kr_ (fun w ρ=>rfl) (fun w=>(rk_assign (.of rfl))) rfl ?_;refine left_take 11 rfl kr_ kr_ kr_ (fun w ρ=>rfl) (fun w=>(rk_assign (.of rfl))) rfl ?_;refine left_take 12 rfl kr_ kr_ kr_ (fun w ρ=>rfl) (fun w=>(rk_assign (.of rfl))) rfl ?_)
      with_reducible refine left_done (by kernel_rfl) ?_
      exact tr_cutW _ _ (by exact .cons rfl (.cons rfl (.cons rfl (.cons rfl (.cons rfl (.cons rfl (.cons rfl (.cons rfl (.cons rfl (.cons rfl (.cons rfl (.cons rfl (.cons rfl (.cons rfl (.cons rfl (.cons rfl (.cons rfl (.cons rfl .nil)))))))))))))))))) (by exact .cons .here (.cons .here (.cons (.there (.there (.there (.there (.there .here))))) (.cons (.there (.there (.there (.there .here)))) (.cons (.there (.there (.there .here))) (.cons (.there (.there .here)) .nil)))))) (hk v17 v18)
  subst hQ
  intro v17 v18
  (refine tr_then ?_;refine s_r ?_;refine tr_new (rk_sliceLit (.cons (.of rfl) (.cons (.of rfl) .nil)) rfl rfl rfl rfl) rfl (fun _ _=>?_))
  with_reducible apply tr_call
  case hr=>exact rk_call (.of rfl) (.cons (.of rfl) .nil) inferInstance normc_
  case hd=>rfl
  case ht=>exact Takes.nil
  case hc=>
    intro w1 fp hm1 _ hs1
    obtain rfl:fp = []:=hs1
    exact aw_rev (Mem.rdBlk hm1 (by exact .here) rfl rfl)
  intro v20 _
  dsimp only [id_eq,List.cons_append,List.nil_append]
  (refine m_v rfl rfl ?_;refine tr_val (rk_extract (.of rfl) rfl) rfl ?_;refine tr_val (rk_extract (.of rfl) rfl) rfl ?_;refine a_s rfl rfl ?_;refine a_s rfl rfl ?_;refine n_t ?_;refine tr_seq ?_;refine tr_seq ?_)
  refine tr_rowOpen (E:=55) (sz:=7) (v:=v17) (by exact Take.there (.there .here)) (Nat.zero_lt_one) ?_
  rintro g17 c17 cur17 e17 hcap17 _ _ _
  subst e17
  refine tr_rowOpen (E:=5) (sz:=1) (v:=v20) (by exact Take.there .here) (Nat.zero_lt_two) ?_
  rintro g20 c20 cur20 e20 hcap20 _ _ _
  subst e20
  have hc17:cellsAt (stmA.cells++cur17) (0 * 7) 7 = [.int .i64 30,.bool true,.int .i64 1,.int .i64 2,.int .i64 3,.int .i64 4,.int .i64 258]:=by rw [cellsAt_eq];rfl
  with_reducible refine tr_drawM 77 (by kernel_rfl) ?_
  dsimp only [List.append]
  (refine am_val (fun β=>(rk_move (.of rfl))) ind0 rfl ?_;refine am_val (fun β=>(rk_move (.of rfl))) ind0 rfl ?_;refine am_val (fun β=>(rk_add (.of rfl) (.of rfl) (ini (by omega)))) ind0 rfl ?_;refine am_val (fun β=>(rk_move (.of rfl))) ind0 rfl ?_;refine am_val (fun β=>(rk_add (.of rfl) (.of rfl) (ini (by omega)))) ind0 rfl ?_;refine am_val (fun β=>(rk_move (.of rfl))) ind0 rfl ?_;refine am_val (fun β=>(rk_add (.of rfl) (.of rfl) (ini (by omega)))) ind0 rfl ?_;refine am_val (fun β=>(rk_move (.of rfl))) ind0 rfl ?_;refine am_val (fun β=>(rk_add (.of rfl) (.of rfl) (ini (by omega)))) ind0 rfl ?_;refine am_val (fun β=>(rk_move (.of rfl))) ind0 rfl ?_;refine am_val (fun β=>(rk_add (.of rfl) (.of rfl) (ini (by omega)))) ind0 rfl ?_;refine am_val (fun β=>(rk_move (.of rfl))) ind0 rfl ?_;refine am_val (fun β=>(rk_add (.of rfl) (.of rfl) (ini (by omega)))) ind0 rfl ?_;refine am_val (fun β=>(rk_move (.of rfl))) ind0 rfl ?_;refine am_val (fun β=>(rk_add (.of rfl) (.of rfl) (ini (by omega)))) ind0 rfl ?_;refine am_val (fun β=>(rk_move (.of rfl))) ind0 rfl ?_;refine am_val (fun β=>(rk_add (.of rfl) (.of rfl) (ini (by omega)))) ind0 rfl ?_;refine am_val (fun β=>(rk_neq (.of rfl) (.of rfl))) ind0 rfl ?_;refine am_val (fun β=>(rk_move (.of rfl))) ind0 rfl ?_;refine am_gOn rfl (fun _=>rfl) ?_;refine am_val (fun β=>(rk_move (.of rfl))) ind0 rfl ?_;refine am_gOn rfl (fun _=>rfl) ?_;refine am_val (fun β=>(rk_neq (.of rfl) (.of rfl))) ind0 rfl ?_;refine am_val (fun β=>(rk_pickB (.of rfl) (.of rfl) (.of rfl) rfl)) ind0 rfl ?_;refine am_val (fun β=>(rk_move (.of rfl))) ind0 rfl ?_;refine am_gOn rfl (fun _=>rfl) ?_;refine am_val (fun β=>(rk_move (.of rfl))) ind0 rfl ?_;refine am_gOn rfl (fun _=>rfl) ?_;refine am_val (fun β=>(rk_neq (.of rfl) (.of rfl))) ind0 rfl ?_;refine am_val (fun β=>(rk_pickB (.of rfl) (.of rfl) (.of rfl) rfl)) ind0 rfl ?_;refine am_val (fun β=>(rk_move (.of rfl))) ind0 rfl ?_;refine am_gOn rfl (fun _=>rfl) ?_;refine am_val (fun β=>(rk_move (.of rfl))) ind0 rfl ?_;refine am_gOn rfl (fun _=>rfl) ?_;refine am_val (fun β=>(rk_neq (.of rfl) (.of rfl))) ind0 rfl ?_;refine am_val (fun β=>(rk_pickB (.of rfl) (.of rfl) (.of rfl) rfl)) ind0 rfl ?_;refine am_val (fun β=>(rk_move (.of rfl))) ind0 rfl ?_;refine am_gOn rfl (fun _=>rfl) ?_;refine am_val (fun β=>(rk_loadB (.of rfl) (.there (.there (.there (.there .here)))) norm_ (by rfl))) ind0 rfl ?_;refine am_gOn rfl (fun _=>rfl) ?_;refine am_val (fun β=>(rk_buildL (.cons (.of rfl) (.cons (.of rfl) .nil)) norm_)) ind0 rfl ?_;refine am_gOn rfl (fun _=>rfl) ?_;refine am_val (fun β=>(rk_neqA (.of rfl) (.of rfl) (okL_int (okL_int (okL_int (okL_int okL_nil)))) rfl)) ind0 rfl ?_;refine am_val (fun β=>(rk_pickB (.of rfl) (.of rfl) (.of rfl) rfl)) ind0 rfl ?_;refine am_val (fun β=>(rk_move (.of rfl))) ind0 rfl ?_;refine am_gOn rfl (fun _=>rfl) ?_;refine am_val (fun β=>(rk_move (.of rfl))) ind0 rfl ?_;refine am_gOn rfl (fun _=>rfl) ?_;refine am_val (fun β=>(rk_neq (.of rfl) (.of rfl))) ind0 rfl ?_;refine am_val (fun β=>(rk_pickB (.of rfl) (.of rfl) (.of rfl) rfl)) ind0 rfl ?_;refine am_val (fun β=>(rk_move (.of rfl))) ind0 rfl ?_;refine am_gOn rfl (fun _=>rfl) ?_;refine am_val (fun β=>(rk_loadB (.of rfl) (.there (.there (.there (.there (.there .here))))) norm_ (by rfl))) ind0 rfl ?_;refine am_gOn rfl (fun _=>rfl) ?_;refine am_val (fun β=>(rk_buildL .nil norm_)) ind0 rfl ?_;refine am_gOn rfl (fun _=>rfl) ?_;refine am_val (fun β=>(rk_neqA (.of rfl) (.of rfl) (okL_int (okL_int (okL_int (okL_int okL_nil)))) rfl)) ind0 rfl ?_;refine am_val (fun β=>(rk_pickB (.of rfl) (.of rfl) (.of rfl) rfl)) ind0 rfl ?_;refine am_val (fun β=>(rk_move (.of rfl))) ind0 rfl ?_;refine am_gOn rfl (fun _=>rfl) ?_;refine am_val (fun β=>(rk_loadB (.of rfl) (.there (.there (.there (.there (.there (.there .here)))))) norm_ (by rfl))) ind0 rfl ?_;refine am_gOn rfl (fun _=>rfl) ?_;refine am_val (fun β=>(rk_buildL (.cons (.of rfl) (.cons (.of rfl) (.cons (.of rfl) (.cons (.of rfl) .nil)))) norm_)) ind0 rfl ?_;refine am_gOn rfl (fun _=>rfl) ?_;refine am_val (fun β=>(rk_neqA (.of rfl) (.of rfl) (okL_int (okL_int (okL_int (okL_int okL_nil)))) rfl)) ind0 rfl ?_;refine am_val (fun β=>(rk_pickB (.of rfl) (.of rfl) (.of rfl) rfl)) ind0 rfl ?_;refine am_val (fun β=>(rk_move (.of rfl))) ind0 rfl ?_;refine am_gOn rfl (fun _=>rfl) ?_;refine am_val (fun β=>(rk_loadB (.of rfl) (.there (.there (.there (.there (.there (.there (.there .here))))))) norm_ (by rfl))) ind0 rfl ?_)
  refine am_gOn rfl (fun _=>rfl) ?_
  with_reducible apply am_callV (B:=[]) (F:=fun _=>.agg #[.int .u8 4,.int .u8 3,.int .u8 2,.int .u8 1,.int .u8 158,.int .u8 1,.int .u8 2,.int .u8 153,.int .u8 63,.int .u8 253]) (args:=fun _=>[])
  case hB=>rfl
  case hr=>exact fun β=>rk_call (.of rfl) .nil inferInstance rfl
  case hi=>exact ind0
  case hd=>rfl
  case hc=>exact fun β w' hb'=>word_l w'
  (refine am_gOn rfl (fun _=>rfl) ?_;refine am_val (fun β=>(rk_neqA (.of rfl) (.of rfl) (okL_int (okL_int (okL_int (okL_int (okL_int (okL_int (okL_int (okL_int (okL_int (okL_int okL_nil)))))))))) rfl)) ind0 rfl ?_;refine am_val (fun β=>(rk_pickB (.of rfl) (.of rfl) (.of rfl) rfl)) ind0 rfl ?_;refine am_val (fun β=>(rk_move (.of rfl))) ind0 rfl ?_;refine am_gOn rfl (fun _=>rfl) ?_;refine am_val (fun β=>(rk_move (.of rfl))) ind0 rfl ?_;refine am_gOn rfl (fun _=>rfl) ?_;refine am_val (fun β=>(rk_len_slice (.of rfl))) ind0 rfl ?_;refine am_gOn rfl (fun _=>rfl) ?_;refine am_val (fun β=>(rk_neq (.of rfl) (.of rfl))) ind0 rfl ?_;refine am_val (fun β=>(rk_pickB (.of rfl) (.of rfl) (.of rfl) rfl)) ind0 rfl ?_;refine am_val (fun β=>(rk_move (.of rfl))) ind0 rfl ?_;refine am_gOn rfl (fun _=>rfl) ?_;refine am_val (fun β=>(rk_move (.of rfl))) ind0 rfl ?_;refine am_gOn rfl (fun _=>rfl) ?_;refine am_val (fun β=>(rk_indexAddr (.of rfl) (.of rfl) rfl (by omega) (by omega) norm1_)) ind0 rfl ?_;refine am_gOn rfl (fun _=>rfl) ?_;refine am_val (fun β=>(rk_loadB (.of rfl) (.there .here) hc17 rfl)) ind0 rfl ?_)
  refine am_gOn rfl (fun _=>rfl) ?_
  with_reducible apply am_callV (B:=[]) (F:=fun _=>.agg #[.int .i64 30,.bool true,.int .i64 1,.int .i64 2,.int .i64 3,.int .i64 4,.int .i64 258]) (args:=fun _=>[])
  case hB=>rfl
  case hr=>exact fun β=>rk_call (.of rfl) .nil inferInstance rfl
  case hi=>exact ind0
  case hd=>rfl
  case hc=>exact fun β w' hb'=>stamp_l w'
  (refine am_gOn rfl (fun _=>rfl) ?_;refine am_val (fun β=>(rk_neqA (.of rfl) (.of rfl) (okL_int (okL_bool (okL_int (okL_int (okL_int (okL_int (okL_int okL_nil))))))) rfl)) ind0 rfl ?_;refine am_val (fun β=>(rk_pickB (.of rfl) (.of rfl) (.of rfl) rfl)) ind0 rfl ?_;refine am_val (fun β=>(rk_move (.of rfl))) ind0 rfl ?_;refine am_gOn rfl (fun _=>rfl) ?_;refine am_val (fun β=>(rk_move (.of rfl))) ind0 rfl ?_)
  refine am_gOn rfl (fun _=>rfl) ?_
  refine am_new (fun β=>(rk_sliceLit (.cons (.of rfl) .nil) rfl rfl rfl rfl)) (fun _ _ _=>rfl) rfl ?_
  dsimp only [Nat.zero_add,Nat.reduceAdd]
  refine am_gOn rfl (fun _=>rfl) ?_
  with_reducible apply am_callV (B:=[68]) (F:=fun _=>.bool true) (args:=fun β=>[v18,.slice (some ⟨gnat (β 68),0,none⟩) 1 1])
  case hB=>kernel_rfl
  case hr=>exact fun β=>rk_call (.of rfl) (.cons (.of rfl) (.cons (.of rfl) .nil)) inferInstance rfl
  case hi=>exact ind0
  case hd=>rfl
  case hc=>
    intro β w' hb'
    have m6:=hb'.at 68 List.mem_cons_self (s:=⟨fun β=>.slice (some ⟨gnat (β 68),0,none⟩) 1 1,fun β=>[blk (gnat (β 68)) (.cells #[.int .i64 10] 3)]⟩) (by kernel_rfl)
    dsimp only [List.cons_append,List.nil_append] at m6
    exact sameI_t (l:=[10]) (m:=[10]) (intg_rd (E:=3) (v:=v18) (n:=1) m6 (show Take _ (row 3 1 v18 1 [.int .i64 10]) _ from by exact Take.there (.there (.there (.there .here)))) rfl) (Mem.rdBlk m6 (by exact .here) rfl rfl)
  (refine am_gOn rfl (fun _=>rfl) ?_;refine am_val (fun β=>(rk_not (.of rfl))) ind0 rfl ?_;refine am_val (fun β=>(rk_pickB (.of rfl) (.of rfl) (.of rfl) rfl)) ind0 rfl ?_;refine am_val (fun β=>(rk_move (.of rfl))) ind0 rfl ?_;refine am_gOn rfl (fun _=>rfl) ?_;refine am_val (fun β=>(rk_move (.of rfl))) ind0 rfl ?_)
  refine am_gOn rfl (fun _=>rfl) ?_
  with_reducible apply am_val (F:=fun _=>.string ⟨#[64,128]⟩)
  case hr=>
    intro β
    show RunV _ _ _ _ _ (.string (strOf [64,128]))
    with_reducible apply rk_convBSn (ns:=[64,128])
    case hx=>exact Is.of rfl
    case hv=>exact Ats.blk (by exact .here) (show cellsAt ([Value.int .u8 64,Value.int .u8 128]++cur20) 0 2 = _ by rw [cellsAt_eq];rfl)
    case hl=>rfl
  case hi=>exact ind0
  case hd=>rfl
  (refine am_gOn rfl (fun _=>rfl) ?_;refine am_val (fun β=>(rk_neqs (.of rfl) (.of rfl))) ind0 rfl ?_;refine am_val (fun β=>(rk_pickB (.of rfl) (.of rfl) (.of rfl) rfl)) ind0 rfl ?_)
  refine am_end fun β=>?_
  dsimp only [resAll,List.nil_append,List.cons_append,List.append_eq,Nat.reduceAdd]
  with_reducible refine left_done (by kernel_rfl) ?_
  refine tr_cutH [] .nil ?_
  (refine tr_then ?_;refine tr_cond_f (.of rfl) ?_;refine s_t ?_;refine s_r ?_;refine tr_new (rk_sliceLit (.cons (.of rfl) (.cons (.of rfl) .nil)) rfl rfl rfl rfl) rfl (fun _ _=>?_))
  with_reducible apply tr_call
  case hr=>exact rk_call (.of rfl) (.cons (.of rfl) (.cons (.of rfl) .nil)) inferInstance normc_
  case hd=>rfl
  case ht=>exact Takes.nil
  case hc=>
    intro w1 fp hm1 _ hs1
    obtain rfl:fp = []:=hs1
    exact aw_pul (Mem.rdBlk hm1 (by exact .here) rfl rfl)
  intro v22 _
  dsimp only [id_eq,List.cons_append,List.nil_append]
  (refine m_v rfl rfl ?_;refine tr_val (rk_extract (.of rfl) rfl) rfl ?_;refine tr_val (rk_extract (.of rfl) rfl) rfl ?_;refine a_s rfl rfl ?_;refine a_s rfl rfl ?_;refine n_r ?_;refine tr_new (rk_sliceLit (.cons (.of rfl) (.cons (.of rfl) .nil)) rfl rfl rfl rfl) rfl (fun _ _=>?_);refine tr_val (rk_buildL (.cons (.of rfl) (.cons (.of rfl) .nil)) norm_) rfl ?_;refine tr_val (rk_buildL (.cons (.of rfl) (.cons (.of rfl) .nil)) norm_) rfl ?_;refine tr_val (rk_buildL (.cons (.of rfl) (.cons (.of rfl) .nil)) norm_) rfl ?_;refine tr_val (rk_buildL (.cons (.of rfl) (.cons (.of rfl) .nil)) norm_) rfl ?_;refine tr_val (rk_buildL (.cons (.of rfl) (.cons (.of rfl) .nil)) norm_) rfl ?_;refine tr_new (rk_sliceLitN (.cons (.of rfl) (.cons (.of rfl) (.cons (.of rfl) (.cons (.of rfl) (.cons (.of rfl) .nil))))) rfl rfl normp_ normp_ norm_) rfl (fun _ _=>?_))
  rename_i g185 h185 g191 h191
  refine tr_rowLitE (g:=g191) (E:=95) (ys:=dusV [(0,0),(1,1),(1,2),(2,3),(3,3)]) 5 2 (by exact .here) (by exact rfl) rfl rfl ?_
  with_reducible apply tr_callV
  case hr=>exact rk_call (.of rfl) (.cons (.of rfl) (.cons (.of rfl) .nil)) inferInstance normc_
  case hd=>rfl
  case hc=>
    intro w' hm'
    exact aw_un1 (Mem.rdBlk hm' (by exact Take.there .here) rfl rfl) (dus_rd (E:=95) (v:=.slice (some ⟨g191,0,none⟩) 5 5) (l:=[(0,0),(1,1),(1,2),(2,3),(3,3)]) (n:=5) hm' (by exact .here) rfl)
  (refine m_v rfl rfl ?_;refine tr_val (rk_extract (.of rfl) rfl) rfl ?_;refine tr_val (rk_extract (.of rfl) rfl) rfl ?_;refine a_s rfl rfl ?_;refine a_s rfl rfl ?_;refine n_r ?_;refine tr_new (rk_sliceLit (.cons (.of rfl) .nil) rfl rfl rfl rfl) rfl (fun _ _=>?_);refine tr_val (rk_buildL (.cons (.of rfl) (.cons (.of rfl) .nil)) norm_) rfl ?_;refine tr_new (rk_sliceLitN (.cons (.of rfl) .nil) rfl rfl normp_ normp_ norm_) rfl (fun _ _=>?_))
  rename_i g196 h196 g198 h198
  refine tr_rowLitE (g:=g198) (E:=95) (ys:=dusV [(0,1)]) 1 2 (by exact .here) (by exact rfl) rfl rfl ?_
  with_reducible apply tr_callV
  case hr=>exact rk_call (.of rfl) (.cons (.of rfl) (.cons (.of rfl) .nil)) inferInstance normc_
  case hd=>rfl
  case hc=>
    intro w' hm'
    exact aw_un2 (Mem.rdBlk hm' (by exact Take.there .here) rfl rfl) (dus_rd (E:=95) (v:=.slice (some ⟨g198,0,none⟩) 1 1) (l:=[(0,1)]) (n:=1) hm' (by exact .here) rfl)
  (refine m_v rfl rfl ?_;refine tr_val (rk_extract (.of rfl) rfl) rfl ?_;refine tr_val (rk_extract (.of rfl) rfl) rfl ?_;refine a_s rfl rfl ?_;refine a_s rfl rfl ?_;refine n_r ?_;refine a_s rfl rfl ?_;refine n_r ?_;refine m_v rfl rfl ?_)
  with_reducible apply tr_call
  case hr=>exact rk_call (.of rfl) .nil inferInstance normc_
  case hd=>rfl
  case ht=>exact Takes.nil
  case hc=>
    intro w1 fp hm1 _ hs1
    obtain rfl:fp = []:=hs1
    exact caps_v w1
  intro k1 _
  dsimp only [id_eq,List.cons_append,List.nil_append]
  refine tr_rowLitE (g:=k1) (E:=195) (ys:=cpsV capsA) 2 5 (by exact .here) (by exact rfl) rfl rfl ?_
  with_reducible apply tr_call
  case hr=>exact rk_call (.of rfl) (.cons (.of rfl) .nil) inferInstance normc_
  case hd=>rfl
  case ht=>exact Takes.nil
  case hc=>
    intro w1 fp hm1 _ hs1
    obtain rfl:fp = []:=hs1
    exact aw_chg (cps_rd (E:=195) (v:=.slice (some ⟨k1,0,none⟩) 2 2) (l:=capsA) (n:=2) hm1 (by exact .here) rfl)
  intro v29 _
  dsimp only [id_eq,List.cons_append,List.nil_append]
  (refine m_v rfl rfl ?_;refine tr_val (rk_extract (.of rfl) rfl) rfl ?_;refine tr_val (rk_extract (.of rfl) rfl) rfl ?_;refine a_s rfl rfl ?_;refine a_s rfl rfl ?_;refine n_r ?_;refine m_v rfl rfl ?_)
  with_reducible apply tr_call
  case hr=>exact rk_call (.of rfl) .nil inferInstance normc_
  case hd=>rfl
  case ht=>exact Takes.nil
  case hc=>
    intro w1 fp hm1 _ hs1
    obtain rfl:fp = []:=hs1
    exact caps_v w1
  intro k2 _
  dsimp only [id_eq,List.cons_append,List.nil_append]
  refine tr_rowLitE (g:=k2) (E:=195) (ys:=cpsV capsA) 2 5 (by exact .here) (by exact rfl) rfl rfl ?_
  with_reducible apply tr_callV
  case hr=>exact rk_call (.of rfl) (.cons (.of rfl) (.cons (.of rfl) .nil)) inferInstance normc_
  case hd=>rfl
  case hc=>
    intro w' hm'
    exact aw_shn (cps_rd (E:=195) (v:=.slice (some ⟨k2,0,none⟩) 2 2) (l:=capsA) (n:=2) hm' (by exact .here) rfl)
  have hsh:=ev_h1
  change (shA 1).size = 32 ∧ (shA 1).extract 0 6 = _ at hsh
  generalize shA 0 = s0
  generalize shA 1 = s1 at hsh ⊢
  generalize shA 2 = s2
  generalize shA 3 = s3
  generalize shA 4 = s4
  generalize shA 5 = s5
  generalize shA 6 = s6
  generalize shA 7 = s7
  (refine m_v rfl rfl ?_;refine tr_val (rk_extract (.of rfl) rfl) rfl ?_;refine tr_val (rk_extract (.of rfl) rfl) rfl ?_;refine tr_new (rk_alloc rfl) rfl (fun _ _=>?_);refine tr_store (.of rfl) (.of rfl) .here rfl rfl (okc_cons rfl (okc_cons rfl (okc_cons rfl (okc_cons rfl (okc_cons rfl (okc_cons rfl (okc_cons rfl (okc_cons rfl okc_nil)))))))) (lenb rfl) norm_ ?_;refine a_s rfl rfl ?_;refine n_r ?_;refine m_v rfl rfl ?_)
  with_reducible apply tr_call
  case hr=>exact rk_call (.of rfl) .nil inferInstance normc_
  case hd=>rfl
  case ht=>exact Takes.nil
  case hc=>
    intro w1 fp hm1 _ hs1
    obtain rfl:fp = []:=hs1
    exact caps_v w1
  intro k3 _
  dsimp only [id_eq,List.cons_append,List.nil_append]
  rw [show cpsV capsA = [.int .i64 5,.int .i64 10,.int .i64 1,.int .i64 3,.string ⟨#[65,66]⟩,.int .i64 10,.int .i64 12,.int .i64 1,.int .i64 4,.string ⟨#[67]⟩] from rfl]
  (refine a_s rfl rfl ?_;refine n_r ?_;refine m_v rfl rfl ?_;refine tr_val (rk_indexAddr (.of rfl) (.of rfl) rfl (by omega) (by omega) norm1_) rfl ?_;refine f_a rfl rfl norm0_ ?_;refine f_a rfl rfl norm0_ ?_;refine tr_store (.of rfl) (.of rfl) .here rfl rfl (okc_cons rfl okc_nil) (lenb rfl) norm_ ?_;refine n_r ?_;refine m_v rfl rfl ?_)
  refine tr_rowLitE (g:=k3) (E:=195) (ys:=cpsV [capA0,capA2]) 2 5 (by exact .here) (by exact rfl) rfl rfl ?_
  with_reducible apply tr_callV
  case hr=>exact rk_call (.of rfl) (.cons (.of rfl) .nil) inferInstance normc_
  case hd=>rfl
  case hc=>
    intro w' hm'
    exact aw_chk (cps_rd (E:=195) (v:=.slice (some ⟨k3,0,none⟩) 2 2) (l:=[capA0,capA2]) (n:=2) hm' (by exact .here) rfl)
  (refine a_s rfl rfl ?_;refine n_r ?_)
  with_reducible apply tr_call
  case hr=>exact rk_call (.of rfl) (.cons (.of rfl) .nil) inferInstance normc_
  case hd=>rfl
  case ht=>exact Takes.nil
  case hc=>
    intro w1 fp hm1 _ hs1
    obtain rfl:fp = []:=hs1
    exact aw_snt w1
  intro v35 _
  dsimp only [id_eq,List.cons_append,List.nil_append]
  (refine m_v rfl rfl ?_;refine tr_val (rk_extract (.of rfl) rfl) rfl ?_;refine tr_val (rk_extract (.of rfl) rfl) rfl ?_;refine a_s rfl rfl ?_;refine a_s rfl rfl ?_;refine n_r ?_;refine tr_new (rk_sliceLit (.cons (.of rfl) .nil) rfl rfl rfl rfl) rfl (fun _ _=>?_))
  with_reducible apply tr_call
  case hr=>exact rk_call (.of rfl) (.cons (.of rfl) .nil) inferInstance normc_
  case hd=>rfl
  case ht=>exact Takes.nil
  case hc=>
    intro w1 fp hm1 _ hs1
    obtain rfl:fp = []:=hs1
    exact aw_hrd (Mem.rdBlk hm1 (by exact .here) rfl rfl)
  intro v38 _
  dsimp only [id_eq,List.cons_append,List.nil_append]
  (refine m_v rfl rfl ?_;refine tr_val (rk_extract (.of rfl) rfl) rfl ?_;refine tr_val (rk_extract (.of rfl) rfl) rfl ?_;refine tr_val (rk_extract (.of rfl) rfl) rfl ?_;refine a_s rfl rfl ?_;refine a_s rfl rfl ?_;refine a_s rfl rfl ?_;refine n_r ?_;refine tr_callV (rk_call (.of rfl) .nil inferInstance normc_) rfl (fun w' hm'=>(stamp_l w')) ?_)
  with_reducible apply tr_callV
  case hr=>exact rk_call (.of rfl) (.cons (.of rfl) .nil) inferInstance normc_
  case hd=>rfl
  case hc=>
    intro w' hm'
    exact aw_prt _ (hG.keeps hm'.keeps) (hT.keeps hm'.keeps)
  refine tr_rowOpen (E:=5) (sz:=1) (v:=v35) (by exact Take.there (.there .here)) (Nat.zero_lt_two) ?_
  rintro g35 c35 cur35 e35 hcap35 _ _ _
  subst e35
  (refine m_v rfl rfl ?_;refine tr_val (rk_extract (.of rfl) rfl) rfl ?_;refine tr_val (rk_extract (.of rfl) rfl) rfl ?_;refine a_s rfl rfl ?_;refine a_s rfl rfl ?_;refine n_r ?_;refine m_v rfl rfl ?_;refine m_v rfl rfl ?_;refine tr_val (rk_add (.of rfl) (.of rfl) (ini (by omega))) rfl ?_;refine m_v rfl rfl ?_;refine tr_val (rk_add (.of rfl) (.of rfl) (ini (by omega))) rfl ?_;refine m_v rfl rfl ?_;refine tr_val (rk_add (.of rfl) (.of rfl) (ini (by omega))) rfl ?_;refine m_v rfl rfl ?_;refine tr_val (rk_add (.of rfl) (.of rfl) (ini (by omega))) rfl ?_;refine m_v rfl rfl ?_;refine tr_val (rk_add (.of rfl) (.of rfl) (ini (by omega))) rfl ?_;refine m_v rfl rfl ?_;refine tr_val (rk_add (.of rfl) (.of rfl) (ini (by omega))) rfl ?_;refine m_v rfl rfl ?_;refine tr_val (rk_add (.of rfl) (.of rfl) (ini (by omega))) rfl ?_;refine tr_val (rk_eql (.of rfl) (.of rfl)) rfl ?_;refine m_v rfl rfl ?_;refine tr_gOn rfl rfl ?_;refine m_v rfl rfl ?_;refine tr_gOn rfl rfl ?_;refine tr_val (rk_eql (.of rfl) (.of rfl)) rfl ?_;refine tr_val (rk_pickB (.of rfl) (.of rfl) (.of rfl) rfl) rfl ?_;refine m_v rfl rfl ?_;refine tr_gOn rfl rfl ?_;refine m_v rfl rfl ?_;refine tr_gOn rfl rfl ?_;refine tr_val (rk_buildL (.cons (.of rfl) (.cons (.of rfl) .nil)) norm_) rfl ?_;refine tr_gOn rfl rfl ?_;refine tr_val (rk_buildL (.cons (.of rfl) (.cons (.of rfl) .nil)) norm_) rfl ?_;refine tr_gOn rfl rfl ?_;refine tr_val (rk_buildL (.cons (.of rfl) (.cons (.of rfl) .nil)) norm_) rfl ?_;refine tr_gOn rfl rfl ?_;refine tr_val (rk_buildL (.cons (.of rfl) (.cons (.of rfl) .nil)) norm_) rfl ?_;refine tr_gOn rfl rfl ?_;refine tr_val (rk_buildL (.cons (.of rfl) (.cons (.of rfl) .nil)) norm_) rfl ?_;refine tr_gOn rfl rfl ?_;refine tr_new (rk_sliceLitN (.cons (.of rfl) (.cons (.of rfl) (.cons (.of rfl) (.cons (.of rfl) (.cons (.of rfl) .nil))))) rfl rfl normp_ normp_ norm_) rfl (fun _ _=>?_);refine tr_gOn rfl rfl ?_)
  rename_i g264 h264
  refine tr_rowLitE (g:=g264) (E:=95) (ys:=dusV [(0,0),(1,1),(1,2),(2,3),(3,3)]) 5 2 (by exact .here) (by exact rfl) rfl rfl ?_
  with_reducible apply tr_callV
  case hr=>exact rk_call (.of rfl) (.cons (.of rfl) (.cons (.of rfl) .nil)) inferInstance normc_
  case hd=>rfl
  case hc=>
    intro w' hm'
    exact (sameP_t (l:=[(0,0),(1,1),(1,2),(2,3),(3,3)]) (m:=[(0,0),(1,1),(1,2),(2,3),(3,3)]) (dus_rd (E:=95) (v:=v22) (n:=5) hm' (by exact Take.there (.there (.there (.there (.there (.there (.there (.there (.there (.there (.there (.there (.there .here))))))))))))) rfl) (dus_rd (E:=95) (v:=.slice (some ⟨g264,0,none⟩) 5 5) (n:=5) hm' (by exact .here) rfl):GivesV Tryz.prog 50 _ w' (.bool true))
  (refine tr_val (rk_pickB (.of rfl) (.of rfl) (.of rfl) rfl) rfl ?_;refine m_v rfl rfl ?_;refine tr_gOn rfl rfl ?_;refine m_v rfl rfl ?_;refine tr_gOn rfl rfl ?_;refine tr_val (rk_eql (.of rfl) (.of rfl)) rfl ?_;refine tr_val (rk_pickB (.of rfl) (.of rfl) (.of rfl) rfl) rfl ?_;refine m_v rfl rfl ?_;refine tr_gOn rfl rfl ?_;refine m_v rfl rfl ?_;refine tr_gOn rfl rfl ?_;refine tr_val (rk_eql (.of rfl) (.of rfl)) rfl ?_;refine tr_val (rk_pickB (.of rfl) (.of rfl) (.of rfl) rfl) rfl ?_;refine m_v rfl rfl ?_;refine tr_gOn rfl rfl ?_;refine m_v rfl rfl ?_;refine tr_gOn rfl rfl ?_;refine tr_new (rk_sliceLit (.cons (.of rfl) (.cons (.of rfl) (.cons (.of rfl) .nil))) rfl rfl rfl rfl) rfl (fun _ _=>?_);refine tr_gOn rfl rfl ?_)
  rename_i g277 h277
  with_reducible apply tr_callV
  case hr=>exact rk_call (.of rfl) (.cons (.of rfl) (.cons (.of rfl) .nil)) inferInstance normc_
  case hd=>rfl
  case hc=>
    intro w' hm'
    exact (sameI_t (l:=[5,10,12]) (m:=[5,10,12]) (intg_rd (E:=3) (v:=v29) (n:=3) hm' (by exact Take.there (.there (.there (.there (.there (.there (.there (.there .here)))))))) rfl) (Mem.rdBlk hm' (by exact .here) rfl rfl):GivesV Tryz.prog 58 _ w' (.bool true))
  have hs32:=hsh.1
  (refine tr_val (rk_pickB (.of rfl) (.of rfl) (.of rfl) rfl) rfl ?_;refine m_v rfl rfl ?_;refine tr_gOn rfl rfl ?_;refine tr_val (rk_indexAddrA (.of rfl) (.of rfl) (by omega) (by omega) norm1_) rfl ?_;refine tr_gOn rfl rfl ?_;refine tr_val (rk_load1 (.of rfl) (At.lit (.there (.there (.there (.there (.there (.there .here)))))) rfl)) rfl ?_;refine tr_gOn rfl rfl ?_;refine tr_val (rk_len_string (.of rfl)) rfl ?_;refine tr_gOn rfl rfl ?_;refine tr_val (rk_eql (.of rfl) (.of rfl)) rfl ?_)
  rw [show decide (((s1.size:Nat):Int) = 32) = true from decide_eq_true (by omega)]
  (refine tr_val (rk_pickB (.of rfl) (.of rfl) (.of rfl) rfl) rfl ?_;refine m_v rfl rfl ?_;refine tr_gOn rfl rfl ?_;refine tr_val (rk_indexAddrA (.of rfl) (.of rfl) (by omega) (by omega) norm1_) rfl ?_;refine tr_gOn rfl rfl ?_;refine tr_val (rk_load1 (.of rfl) (At.lit (.there (.there (.there (.there (.there (.there .here)))))) rfl)) rfl ?_;refine tr_gOn rfl rfl ?_;refine tr_val (rk_sliceS_h (.of rfl) (.of rfl) (by omega) (by omega)) rfl ?_;refine tr_gOn rfl rfl ?_;refine tr_val (rk_eqls (.of rfl) (.of rfl)) rfl ?_)
  rw [show decide (s1.extract 0 (6:Int).toNat = ⟨#[32,32,32,65,66,32]⟩) = true from decide_eq_true hsh.2]
  (refine tr_val (rk_pickB (.of rfl) (.of rfl) (.of rfl) rfl) rfl ?_;refine m_v rfl rfl ?_;refine tr_gOn rfl rfl ?_;refine m_v rfl rfl ?_;refine tr_gOn rfl rfl ?_)
  with_reducible apply tr_val (V:=.string ⟨#[193,194]⟩)
  case hr=>
    show RunV _ _ _ _ _ (.string (strOf [193,194]))
    with_reducible apply rk_convBSn (ns:=[193,194])
    case hx=>exact Is.of rfl
    case hv=>exact Ats.blk (by exact Take.there (.there .here)) (show cellsAt ([Value.int .u8 193,Value.int .u8 194]++cur35) 0 2 = _ by rw [cellsAt_eq];rfl)
    case hl=>rfl
  case hd=>rfl
  (refine tr_gOn rfl rfl ?_;refine tr_val (rk_eqls (.of rfl) (.of rfl)) rfl ?_;refine tr_val (rk_pickB (.of rfl) (.of rfl) (.of rfl) rfl) rfl ?_;refine m_v rfl rfl ?_;refine tr_gOn rfl rfl ?_;refine m_v rfl rfl ?_;refine tr_gOn rfl rfl ?_;refine tr_val (rk_eqls (.of rfl) (.of rfl)) rfl ?_;refine tr_val (rk_pickB (.of rfl) (.of rfl) (.of rfl) rfl) rfl ?_;refine m_v rfl rfl ?_;refine tr_gOn rfl rfl ?_;refine m_v rfl rfl ?_;refine tr_gOn rfl rfl ?_;refine tr_new (rk_sliceLit (.cons (.of rfl) .nil) rfl rfl rfl rfl) rfl (fun _ _=>?_);refine tr_gOn rfl rfl ?_)
  rename_i g303 h303
  with_reducible apply tr_callV
  case hr=>exact rk_call (.of rfl) (.cons (.of rfl) (.cons (.of rfl) .nil)) inferInstance normc_
  case hd=>rfl
  case hc=>
    intro w' hm'
    exact (sameI_t (l:=[0]) (m:=[0]) (intg_rd (E:=3) (v:=v38) (n:=1) hm' (show Take _ (row 3 1 v38 1 [.int .i64 0]) _ from by exact Take.there (.there (.there (.there .here)))) rfl) (Mem.rdBlk hm' (by exact .here) rfl rfl):GivesV Tryz.prog 58 _ w' (.bool true))
  (refine tr_val (rk_pickB (.of rfl) (.of rfl) (.of rfl) rfl) rfl ?_;refine m_v rfl rfl ?_;refine tr_gOn rfl rfl ?_;refine m_v rfl rfl ?_;refine tr_gOn rfl rfl ?_;refine tr_val (rk_eqls (.of rfl) (.of rfl)) rfl ?_;refine tr_val (rk_pickB (.of rfl) (.of rfl) (.of rfl) rfl) rfl ?_;refine a_s rfl rfl ?_;refine n_t ?_;refine tr_ret ?_;refine tr_retE rfl (ends1 rfl rfl) ?_)
  rfl
end Go.Proofs.A1
namespace Go.Proofs.A1
open Go Go.SL
end Go.Proofs.A1
namespace Go.Proofs.A1
open Go Go.SL
theorem rk_convR {P:Program} {c:Cx} {sl:Slots} {hs:List Asn} {dst:Option Tmp} {ty:TypeId} {pos:String} {af:Array Edge} {g:Option (Nat × Bool)} {t u:TypeId} {k':IntKind} {x:Operand} {n:Int} [ht:Und P t (.int k')] [hu:Und P u .string] (hx:Is sl x (.int k' n)) :
    RunV P c sl hs ⟨dst,.convert t u x,ty,pos,af,g⟩ (.string (Utf8.encode n)):=
  ⟨by simp,fun a w ha _=>by simp [execOp,hx a ha,convert,rk_underlying ht.eq,rk_underlying hu.eq,Conv.intToString]⟩
section
variable {P:Program} {c:Cx} {sl:Slots} {hs:List Asn} {dst:Option Tmp} {ty:TypeId} {pos:String} {af:Array Edge} {g:Option (Nat × Bool)}
end
theorem enc_ascii {n:Int} (h:0 ≤ n ∧ n < 128):Utf8.encode n = strOf [n]:=by
  obtain ⟨k,hk,rfl⟩:∃ k:Nat,k < 128 ∧ n = (k:Int):=⟨n.toNat,by omega,by omega⟩
  have hc:k < 128:=hk
  have hv:Utf8.valid (k:Int) = true:=by simp [Utf8.valid];omega
  unfold Utf8.encode strOf
  simp only [hv,if_true,Int.toNat_natCast,hc]
  rfl
theorem strOf_app (a:List Int) (x:Int):strOf (a++[x]) = strOf a++strOf [x]:=by
  rw [strOf_strB,strOf_strB,strOf_strB]
  apply ByteArray.ext
  rw [ByteArray.data_append]
  simp [strB]
theorem strOf_size (l:List Int):(strOf l).size = l.length:=by rw [strOf_strB,strB_size]
end Go.Proofs.A1
namespace Go.Proofs.A1
open Go Go.SL
theorem rk_eqlT {P:Program} {c:Cx} {sl:Slots} {hs:List Asn} {dst:Option Tmp} {ty:TypeId} {pos:String} {af:Array Edge} {g:Option (Nat × Bool)} {k:IntKind} {t u:TypeId} {x y:Operand} {a b:Int} (hx:Is sl x (.int k a)) (hy:Is sl y (.int k b)) (e:a = b) :
    RunV P c sl hs ⟨dst,.binOp .eql t x y u,ty,pos,af,g⟩ (.bool true):=by
  have:=rk_eql (P:=P) (c:=c) (hs:=hs) (dst:=dst) (ty:=ty) (pos:=pos) (af:=af) (g:=g) (t:=t) (u:=u) hx hy
  rwa [decide_eq_true e] at this
end Go.Proofs.A1
namespace Go.Proofs.A1
open Go Go.SL
theorem natsV_intg (l:List Nat):natsV l = intgV (l.map fun (n:Nat)=>(n:Int)):=by
  unfold natsV intgV
  rw [List.flatMap_map]
end Go.Proofs.A1
