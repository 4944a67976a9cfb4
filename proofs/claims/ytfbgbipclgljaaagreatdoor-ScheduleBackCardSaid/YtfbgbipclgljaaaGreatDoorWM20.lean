/- Parts of the proof: S50 SW S52. -/
import Derived.Test.YtfbgbipclgljaaaGreatDoorWM19
import Derived.Test.YtfbgbipclgljaaaGreatDoorWM06
import Derived.Test.YtfbgbipclgljaaaGreatDoorTie
import Derived.Test.YtfbgbipclgljaaaGreatDoorCards
import Derived.Lib.SmallJoins
import Derived.Lib.LaidTab
import Derived.Deep.Slices
import Derived.Deep.Fields
import Derived.ChangeSame
import Derived.ChangeBook
import Derived.ChangeStays
import Derived.WalkKit
import Derived.ProofKit
import Derived.OpenShut
import Derived.Below
import Derived.LaidMore
import Derived.Lay
import Derived.SevenTiedAt
import Derived.Stop.Joined
set_option linter.unusedSectionVars false
set_option linter.unusedVariables false
set_option linter.unusedSimpArgs false
namespace Go.Proofs.A1
open Go Go.SL
theorem tr_cutH {c:Cx} {D:List Nat} {sl:Slots} {hs rest:List Asn} {X:Act → World → Prop} (hs2:List Asn) (ht:Takes hs hs2 rest) (k:Tr c D sl hs2 X):Tr c D sl hs X:=fun a w hst=>k a w (hst.heap (by
  have h1:=hst.mem.takes (ht.append (mks D))
  obtain ⟨kk,fp,hn,hsat,hb⟩:=h1
  obtain ⟨f1,f23,rfl,g1,g23⟩:=Sats.append_iff.1 hsat
  obtain ⟨f2,f3,rfl,g2,g3⟩:=Sats.append_iff.1 g23
  obtain ⟨n1,n23,n12⟩:=List.nodup_append.1 hn
  obtain ⟨n2,n3,n4⟩:=List.nodup_append.1 n23
  exact ⟨kk,f1++f3,List.nodup_append.2 ⟨n1,n3,fun x hx y hy=>n12 x hx y (List.mem_append_right _ hy)⟩,Sats.append_iff.2 ⟨f1,f3,rfl,g1,g3⟩,fun b hb'=>hb b (by
    rcases List.mem_append.1 hb' with h | h
    · exact List.mem_append_left _ h
    · exact List.mem_append_right _ (List.mem_append_right _ h))⟩))
set_option maxHeartbeats 8000000 in
theorem awake_c (w:World) (hG:Glob w) (hT:Tab10 w):GivesV Tryz.prog 17 [] w (.bool true):=by
  refine givesV_of_tr Tryz.func17 rfl rfl ?_
  (refine s_r ?_;refine a_s rfl rfl ?_;refine n_r ?_)
  with_reducible apply tr_call
  case hr=>exact rk_call (.of rfl) .nil inferInstance normc_
  case hd=>rfl
  case ht=>exact Takes.nil
  case hc=>
    intro w1 fp hm1 _ hs1
    obtain rfl:fp = []:=hs1
    exact shown_c w1
  intro s1 _
  dsimp only [id_eq,List.cons_append,List.nil_append]
  with_reducible apply tr_call
  case hr=>exact rk_call (.of rfl) (.cons (.of rfl) .nil) inferInstance normc_
  case hd=>rfl
  case ht=>exact Takes.nil
  case hc=>
    intro w1 fp hm1 _ hs1
    obtain rfl:fp = []:=hs1
    exact aw_times (rdEn hm1 (by exact .here)) (hG.keeps hm1.keeps)
  intro t1 _
  dsimp only [id_eq,List.cons_append,List.nil_append]
  (refine m_v rfl rfl ?_;refine tr_val (rk_extract (.of rfl) rfl) rfl ?_;refine tr_val (rk_extract (.of rfl) rfl) rfl ?_;refine a_s rfl rfl ?_;refine a_s rfl rfl ?_;refine n_r ?_)
  with_reducible apply tr_call
  case hr=>exact rk_call (.of rfl) .nil inferInstance normc_
  case hd=>rfl
  case ht=>exact Takes.nil
  case hc=>
    intro w1 fp hm1 _ hs1
    obtain rfl:fp = []:=hs1
    exact shown_c w1
  intro s2 _
  dsimp only [id_eq,List.cons_append,List.nil_append]
  with_reducible apply tr_call
  case hr=>exact rk_call (.of rfl) (.cons (.of rfl) .nil) inferInstance normc_
  case hd=>rfl
  case ht=>exact Takes.nil
  case hc=>
    intro w1 fp hm1 _ hs1
    obtain rfl:fp = []:=hs1
    exact aw_gaps (rdEn hm1 (by exact .here)) (hG.keeps hm1.keeps)
  intro g1 _
  dsimp only [id_eq,List.cons_append,List.nil_append]
  (refine m_v rfl rfl ?_;refine tr_val (rk_extract (.of rfl) rfl) rfl ?_;refine tr_val (rk_extract (.of rfl) rfl) rfl ?_;refine a_s rfl rfl ?_;refine a_s rfl rfl ?_;refine n_r ?_)
  with_reducible apply tr_call
  case hr=>exact rk_call (.of rfl) .nil inferInstance normc_
  case hd=>rfl
  case ht=>exact Takes.nil
  case hc=>
    intro w1 fp hm1 _ hs1
    obtain rfl:fp = []:=hs1
    exact shown_c w1
  intro s3 _
  dsimp only [id_eq,List.cons_append,List.nil_append]
  with_reducible apply tr_call
  case hr=>exact rk_call (.of rfl) (.cons (.of rfl) (.cons (.of rfl) .nil)) inferInstance normc_
  case hd=>rfl
  case ht=>exact Takes.nil
  case hc=>
    intro w1 fp hm1 _ hs1
    obtain rfl:fp = []:=hs1
    exact aw_air1 (rdEn hm1 (by exact .here)) (hG.keeps hm1.keeps)
  intro a1 _
  dsimp only [id_eq,List.cons_append,List.nil_append]
  (refine m_v rfl rfl ?_;refine tr_val (rk_extract (.of rfl) rfl) rfl ?_;refine tr_val (rk_extract (.of rfl) rfl) rfl ?_;refine a_s rfl rfl ?_;refine a_s rfl rfl ?_;refine n_r ?_)
  with_reducible apply tr_call
  case hr=>exact rk_call (.of rfl) .nil inferInstance normc_
  case hd=>rfl
  case ht=>exact Takes.nil
  case hc=>
    intro w1 fp hm1 _ hs1
    obtain rfl:fp = []:=hs1
    exact shown_c w1
  intro s4 _
  dsimp only [id_eq,List.cons_append,List.nil_append]
  with_reducible apply tr_call
  case hr=>exact rk_call (.of rfl) (.cons (.of rfl) (.cons (.of rfl) .nil)) inferInstance normc_
  case hd=>rfl
  case ht=>exact Takes.nil
  case hc=>
    intro w1 fp hm1 _ hs1
    obtain rfl:fp = []:=hs1
    exact aw_air2 (rdEn hm1 (by exact .here)) (hG.keeps hm1.keeps)
  intro b1 _
  dsimp only [id_eq,List.cons_append,List.nil_append]
  (refine m_v rfl rfl ?_;refine tr_val (rk_extract (.of rfl) rfl) rfl ?_;refine tr_val (rk_extract (.of rfl) rfl) rfl ?_;refine a_s rfl rfl ?_;refine a_s rfl rfl ?_;refine n_r ?_)
  with_reducible apply tr_call
  case hr=>exact rk_call (.of rfl) .nil inferInstance normc_
  case hd=>rfl
  case ht=>exact Takes.nil
  case hc=>
    intro w1 fp hm1 _ hs1
    obtain rfl:fp = []:=hs1
    exact shown_c w1
  intro s5 _
  dsimp only [id_eq,List.cons_append,List.nil_append]
  with_reducible apply tr_call
  case hr=>exact rk_call (.of rfl) (.cons (.of rfl) (.cons (.of rfl) .nil)) inferInstance normc_
  case hd=>rfl
  case ht=>exact Takes.nil
  case hc=>
    intro w1 fp hm1 _ hs1
    obtain rfl:fp = []:=hs1
    exact aw_air3 (rdEn hm1 (by exact .here)) (hG.keeps hm1.keeps)
  intro c1 _
  dsimp only [id_eq,List.cons_append,List.nil_append]
  refine tr_rowSl (E:=117) (sz:=3) (by exact .here) fun ac capc e=>?_
  subst e
  (refine m_v rfl rfl ?_;refine tr_val (rk_extract (.of rfl) rfl) rfl ?_;refine tr_val (rk_extract (.of rfl) rfl) rfl ?_;refine a_s rfl rfl ?_;refine a_s rfl rfl ?_;refine n_r ?_)
  with_reducible apply tr_call
  case hr=>exact rk_call (.of rfl) .nil inferInstance normc_
  case hd=>rfl
  case ht=>exact Takes.nil
  case hc=>
    intro w1 fp hm1 _ hs1
    obtain rfl:fp = []:=hs1
    exact shown_c w1
  intro s6 _
  dsimp only [id_eq,List.cons_append,List.nil_append]
  (refine tr_val (rk_buildL (.cons (.of rfl) (.cons (.of rfl) (.cons (.of rfl) .nil))) norm_) rfl ?_;refine tr_val (rk_buildL (.cons (.of rfl) (.cons (.of rfl) (.cons (.of rfl) (.cons (.of rfl) .nil)))) norm_) rfl ?_;refine tr_new (rk_sliceLitN (.cons (.of rfl) (.cons (.of rfl) .nil)) rfl rfl normp_ normp_ norm_) rfl (fun _ _=>?_))
  rename_i q6 hq6
  refine tr_rowLitE (g:=q6) (E:=63) (ys:=(seL aw6).flatten) 2 4 (by exact .here) (by exact rfl) rfl rfl ?_
  with_reducible apply tr_call
  case hr=>exact rk_call (.of rfl) (.cons (.of rfl) (.cons (.of rfl) .nil)) inferInstance normc_
  case hd=>rfl
  case ht=>exact Takes.nil
  case hc=>
    intro w1 fp hm1 _ hs1
    obtain rfl:fp = []:=hs1
    exact aw_ex (rdEn hm1 (by exact Take.there .here)) (Mem.rdRow hm1 (E:=63) (by exact .here) (by exact rfl) (fun r hr=>by obtain ⟨x,_,rfl⟩:=List.mem_map.1 hr;rfl) (by exact rfl)) (hG.keeps hm1.keeps)
  intro x1 _
  dsimp only [id_eq,List.cons_append,List.nil_append]
  (refine m_v rfl rfl ?_;refine tr_val (rk_extract (.of rfl) rfl) rfl ?_;refine tr_val (rk_extract (.of rfl) rfl) rfl ?_;refine a_s rfl rfl ?_;refine a_s rfl rfl ?_;refine n_r ?_)
  with_reducible apply tr_call
  case hr=>exact rk_call (.of rfl) .nil inferInstance normc_
  case hd=>rfl
  case ht=>exact Takes.nil
  case hc=>
    intro w1 fp hm1 _ hs1
    obtain rfl:fp = []:=hs1
    exact shown_c w1
  intro s7 _
  dsimp only [id_eq,List.cons_append,List.nil_append]
  (refine tr_val (rk_buildL (.cons (.of rfl) .nil) norm_) rfl ?_;refine tr_val (rk_buildL (.cons (.of rfl) (.cons (.of rfl) .nil)) norm_) rfl ?_;refine tr_val (rk_buildL (.cons (.of rfl) (.cons (.of rfl) .nil)) norm_) rfl ?_;refine tr_val (rk_buildL (.cons (.of rfl) (.cons (.of rfl) .nil)) norm_) rfl ?_;refine tr_val (rk_buildL (.cons (.of rfl) (.cons (.of rfl) .nil)) norm_) rfl ?_;refine tr_val (rk_buildL (.cons (.of rfl) (.cons (.of rfl) .nil)) norm_) rfl ?_;refine tr_new (rk_sliceLitN (.cons (.of rfl) (.cons (.of rfl) (.cons (.of rfl) .nil))) rfl rfl normp_ normp_ norm_) rfl (fun _ _=>?_))
  rename_i q7 hq7
  refine tr_rowLitE (g:=q7) (E:=69) (ys:=(riL aw7).flatten) 3 3 (by exact .here) (by exact rfl) rfl rfl ?_
  with_reducible apply tr_call
  case hr=>exact rk_call (.of rfl) (.cons (.of rfl) (.cons (.of rfl) .nil)) inferInstance normc_
  case hd=>rfl
  case ht=>exact Takes.nil
  case hc=>
    intro w1 fp hm1 _ hs1
    obtain rfl:fp = []:=hs1
    exact aw_vi (rdEn hm1 (by exact Take.there .here)) (Mem.rdRow hm1 (E:=69) (by exact .here) (by exact rfl) (fun r hr=>by obtain ⟨x,_,rfl⟩:=List.mem_map.1 hr;rfl) (by exact rfl)) (hG.keeps hm1.keeps)
  intro v1 _
  dsimp only [id_eq,List.cons_append,List.nil_append]
  refine tr_cutH [row 3 1 v1 awV.length (natsV awV),row 66 2 x1 awX.length (awX.flatMap duoV),row 117 3 (.slice ac ([]:List (Int × Int × Int)).length capc) ([]:List (Int × Int × Int)).length (([]:List (Int × Int × Int)).flatMap triV),row 117 3 b1 awB.length (awB.flatMap triV),row 117 3 a1 awA.length (awA.flatMap triV),row 120 3 g1 awG.length (awG.flatMap triV),row 66 2 t1 awT.length (awT.flatMap duoV)] (by exact .cons .here (.cons (.there (.there .here)) (.cons (.there (.there (.there (.there .here)))) (.cons (.there (.there (.there (.there (.there .here))))) (.cons (.there (.there (.there (.there (.there (.there .here)))))) (.cons (.there (.there (.there (.there (.there (.there (.there .here))))))) (.cons (.there (.there (.there (.there (.there (.there (.there (.there .here)))))))) .nil))))))) ?_
  (refine m_v rfl rfl ?_;refine tr_val (rk_extract (.of rfl) rfl) rfl ?_;refine tr_val (rk_extract (.of rfl) rfl) rfl ?_;refine a_s rfl rfl ?_;refine a_s rfl rfl ?_;refine n_t ?_;refine tr_seq ?_;refine s_r ?_)
  dsimp only [List.append]
  (refine m_v rfl rfl ?_;refine m_v rfl rfl ?_;refine tr_val (rk_add (.of rfl) (.of rfl) (ini (by omega))) rfl ?_;refine m_v rfl rfl ?_;refine tr_val (rk_add (.of rfl) (.of rfl) (ini (by omega))) rfl ?_;refine m_v rfl rfl ?_;refine tr_val (rk_add (.of rfl) (.of rfl) (ini (by omega))) rfl ?_;refine m_v rfl rfl ?_;refine tr_val (rk_add (.of rfl) (.of rfl) (ini (by omega))) rfl ?_;refine m_v rfl rfl ?_;refine tr_val (rk_add (.of rfl) (.of rfl) (ini (by omega))) rfl ?_;refine m_v rfl rfl ?_;refine tr_val (rk_add (.of rfl) (.of rfl) (ini (by omega))) rfl ?_;refine tr_val (rk_neq (.of rfl) (.of rfl)) rfl ?_;refine m_v rfl rfl ?_;refine tr_gOn rfl rfl ?_;refine m_v rfl rfl ?_;refine tr_gOn rfl rfl ?_;refine tr_val (rk_buildL (.cons (.of rfl) (.cons (.of rfl) .nil)) norm_) rfl ?_;refine tr_gOn rfl rfl ?_;refine tr_val (rk_buildL (.cons (.of rfl) (.cons (.of rfl) .nil)) norm_) rfl ?_;refine tr_gOn rfl rfl ?_;refine tr_val (rk_buildL (.cons (.of rfl) (.cons (.of rfl) .nil)) norm_) rfl ?_;refine tr_gOn rfl rfl ?_;refine tr_val (rk_buildL (.cons (.of rfl) (.cons (.of rfl) .nil)) norm_) rfl ?_;refine tr_gOn rfl rfl ?_;refine tr_new (rk_sliceLitN (.cons (.of rfl) (.cons (.of rfl) (.cons (.of rfl) (.cons (.of rfl) .nil)))) rfl rfl normp_ normp_ norm_) rfl (fun _ _=>?_);refine tr_gOn rfl rfl ?_)
  rename_i q8 hq8
  refine tr_rowLitE (g:=q8) (E:=66) (ys:=awT.flatMap duoV) 4 2 (by exact .here) (by exact rfl) rfl rfl ?_
  with_reducible apply tr_callV
  case hr=>exact rk_call (.of rfl) (.cons (.of rfl) (.cons (.of rfl) .nil)) inferInstance normc_
  case hd=>rfl
  case hc=>
    intro w' hm'
    exact sameSpans_t (l:=awT) (rdDuoN (v:=t1) hm' (by exact Take.there (.there (.there (.there (.there (.there (.there .here))))))) (by exact rfl)) (rdDuoN hm' (by exact .here) (by exact rfl))
  (refine tr_gOn rfl rfl ?_;refine tr_val (rk_not (.of rfl)) rfl ?_;refine tr_val (rk_pickB (.of rfl) (.of rfl) (.of rfl) rfl) rfl ?_;refine m_v rfl rfl ?_;refine tr_gOn rfl rfl ?_;refine m_v rfl rfl ?_;refine tr_gOn rfl rfl ?_)
  with_reducible apply tr_call
  case hr=>exact rk_call (.of rfl) (.cons (.of rfl) .nil) inferInstance normc_
  case hd=>rfl
  case ht=>exact Takes.nil
  case hc=>
    intro w1 fp hm1 _ hs1
    obtain rfl:fp = []:=hs1
    exact gapsT_c (l:=awG) (rdTriN hm1 (by exact Take.there (.there (.there (.there (.there (.there .here)))))) (by exact rfl)) (by decide)
  intro g2 _
  dsimp only [id_eq,List.cons_append,List.nil_append]
  (refine tr_gOn rfl rfl ?_;refine tr_val (rk_buildL (.cons (.of rfl) (.cons (.of rfl) .nil)) norm_) rfl ?_;refine tr_gOn rfl rfl ?_;refine tr_val (rk_buildL (.cons (.of rfl) (.cons (.of rfl) .nil)) norm_) rfl ?_;refine tr_gOn rfl rfl ?_;refine tr_new (rk_sliceLitN (.cons (.of rfl) .nil) rfl rfl normp_ normp_ norm_) rfl (fun _ _=>?_);refine tr_gOn rfl rfl ?_)
  rename_i q9 hq9
  refine tr_rowLitE (g:=q9) (E:=170) (ys:=awG.flatMap triV) 1 3 (by exact .here) (by exact rfl) rfl rfl ?_
  with_reducible apply tr_callV
  case hr=>exact rk_call (.of rfl) (.cons (.of rfl) (.cons (.of rfl) .nil)) inferInstance normc_
  case hd=>rfl
  case hc=>
    intro w' hm'
    exact sameGaps_t (l:=awG) (rdTriN (v:=g2) hm' (by exact Take.there .here) (by exact rfl)) (rdTriN hm' (by exact .here) (by exact rfl))
  (refine tr_gOn rfl rfl ?_;refine tr_val (rk_not (.of rfl)) rfl ?_;refine tr_val (rk_pickB (.of rfl) (.of rfl) (.of rfl) rfl) rfl ?_;refine m_v rfl rfl ?_;refine tr_gOn rfl rfl ?_;refine m_v rfl rfl ?_;refine tr_gOn rfl rfl ?_)
  with_reducible apply tr_call
  case hr=>exact rk_call (.of rfl) (.cons (.of rfl) .nil) inferInstance normc_
  case hd=>rfl
  case ht=>exact Takes.nil
  case hc=>
    intro w1 fp hm1 _ hs1
    obtain rfl:fp = []:=hs1
    exact sharesT_c (l:=awA) (rdTriN (v:=a1) hm1 (by exact Take.there (.there (.there (.there (.there (.there (.there .here))))))) (by exact rfl)) (by decide)
  intro a2 _
  dsimp only [id_eq,List.cons_append,List.nil_append]
  (refine tr_gOn rfl rfl ?_;refine tr_val (rk_buildL (.cons (.of rfl) (.cons (.of rfl) .nil)) norm_) rfl ?_;refine tr_gOn rfl rfl ?_;refine tr_val (rk_buildL (.cons (.of rfl) (.cons (.of rfl) .nil)) norm_) rfl ?_;refine tr_gOn rfl rfl ?_;refine tr_val (rk_buildL (.cons (.of rfl) (.cons (.of rfl) .nil)) norm_) rfl ?_;refine tr_gOn rfl rfl ?_;refine tr_val (rk_buildL (.cons (.of rfl) (.cons (.of rfl) .nil)) norm_) rfl ?_;refine tr_gOn rfl rfl ?_;refine tr_new (rk_sliceLitN (.cons (.of rfl) (.cons (.of rfl) .nil)) rfl rfl normp_ normp_ norm_) rfl (fun _ _=>?_);refine tr_gOn rfl rfl ?_)
  rename_i q10 hq10
  refine tr_rowLitE (g:=q10) (E:=185) (ys:=awA.flatMap triV) 2 3 (by exact .here) (by exact rfl) rfl rfl ?_
  with_reducible apply tr_callV
  case hr=>exact rk_call (.of rfl) (.cons (.of rfl) (.cons (.of rfl) .nil)) inferInstance normc_
  case hd=>rfl
  case hc=>
    intro w' hm'
    exact sameShares_t (l:=awA) (rdTriN (v:=a2) hm' (by exact Take.there .here) (by exact rfl)) (rdTriN hm' (by exact .here) (by exact rfl))
  (refine tr_gOn rfl rfl ?_;refine tr_val (rk_not (.of rfl)) rfl ?_;refine tr_val (rk_pickB (.of rfl) (.of rfl) (.of rfl) rfl) rfl ?_;refine m_v rfl rfl ?_;refine tr_gOn rfl rfl ?_;refine m_v rfl rfl ?_;refine tr_gOn rfl rfl ?_)
  with_reducible apply tr_call
  case hr=>exact rk_call (.of rfl) (.cons (.of rfl) .nil) inferInstance normc_
  case hd=>rfl
  case ht=>exact Takes.nil
  case hc=>
    intro w1 fp hm1 _ hs1
    obtain rfl:fp = []:=hs1
    exact sharesT_c (l:=awB) (rdTriN (v:=b1) hm1 (by exact Take.there (.there (.there (.there (.there (.there (.there (.there .here)))))))) (by exact rfl)) (by decide)
  intro b2 _
  dsimp only [id_eq,List.cons_append,List.nil_append]
  (refine tr_gOn rfl rfl ?_;refine tr_val (rk_buildL (.cons (.of rfl) (.cons (.of rfl) .nil)) norm_) rfl ?_;refine tr_gOn rfl rfl ?_;refine tr_val (rk_buildL (.cons (.of rfl) (.cons (.of rfl) .nil)) norm_) rfl ?_;refine tr_gOn rfl rfl ?_;refine tr_new (rk_sliceLitN (.cons (.of rfl) .nil) rfl rfl normp_ normp_ norm_) rfl (fun _ _=>?_);refine tr_gOn rfl rfl ?_)
  rename_i q11 hq11
  refine tr_rowLitE (g:=q11) (E:=185) (ys:=awB.flatMap triV) 1 3 (by exact .here) (by exact rfl) rfl rfl ?_
  with_reducible apply tr_callV
  case hr=>exact rk_call (.of rfl) (.cons (.of rfl) (.cons (.of rfl) .nil)) inferInstance normc_
  case hd=>rfl
  case hc=>
    intro w' hm'
    exact sameShares_t (l:=awB) (rdTriN (v:=b2) hm' (by exact Take.there .here) (by exact rfl)) (rdTriN hm' (by exact .here) (by exact rfl))
  (refine tr_gOn rfl rfl ?_;refine tr_val (rk_not (.of rfl)) rfl ?_;refine tr_val (rk_pickB (.of rfl) (.of rfl) (.of rfl) rfl) rfl ?_;refine m_v rfl rfl ?_;refine tr_gOn rfl rfl ?_;refine m_v rfl rfl ?_;refine tr_gOn rfl rfl ?_;refine tr_val (rk_len_slice (.of rfl)) rfl ?_;refine tr_gOn rfl rfl ?_;refine tr_val (rk_neq (.of rfl) (.of rfl)) rfl ?_;refine tr_val (rk_pickB (.of rfl) (.of rfl) (.of rfl) rfl) rfl ?_;refine m_v rfl rfl ?_;refine tr_gOn rfl rfl ?_;refine m_v rfl rfl ?_;refine tr_gOn rfl rfl ?_;refine tr_val (rk_buildL (.cons (.of rfl) (.cons (.of rfl) .nil)) norm_) rfl ?_;refine tr_gOn rfl rfl ?_;refine tr_val (rk_buildL (.cons (.of rfl) (.cons (.of rfl) .nil)) norm_) rfl ?_;refine tr_gOn rfl rfl ?_;refine tr_new (rk_sliceLitN (.cons (.of rfl) (.cons (.of rfl) .nil)) rfl rfl normp_ normp_ norm_) rfl (fun _ _=>?_);refine tr_gOn rfl rfl ?_)
  rename_i q12 hq12
  refine tr_rowLitE (g:=q12) (E:=66) (ys:=awX.flatMap duoV) 2 2 (by exact .here) (by exact rfl) rfl rfl ?_
  with_reducible apply tr_callV
  case hr=>exact rk_call (.of rfl) (.cons (.of rfl) (.cons (.of rfl) .nil)) inferInstance normc_
  case hd=>rfl
  case hc=>
    intro w' hm'
    exact sameSpans_t (l:=awX) (rdDuoN (v:=x1) hm' (by exact Take.there (.there (.there (.there (.there (.there (.there (.there (.there .here))))))))) (by exact rfl)) (rdDuoN hm' (by exact .here) (by exact rfl))
  (refine tr_gOn rfl rfl ?_;refine tr_val (rk_not (.of rfl)) rfl ?_;refine tr_val (rk_pickB (.of rfl) (.of rfl) (.of rfl) rfl) rfl ?_;refine m_v rfl rfl ?_;refine tr_gOn rfl rfl ?_;refine m_v rfl rfl ?_;refine tr_gOn rfl rfl ?_;refine tr_new (rk_sliceLit (.cons (.of rfl) (.cons (.of rfl) .nil)) rfl rfl rfl rfl) rfl (fun _ _=>?_);refine tr_gOn rfl rfl ?_)
  rename_i q13 hq13
  refine tr_rowLitE (g:=q13) (E:=3) (ys:=natsV awV) 2 1 (by exact .here) (by exact rfl) rfl rfl ?_
  with_reducible apply tr_callV
  case hr=>exact rk_call (.of rfl) (.cons (.of rfl) (.cons (.of rfl) .nil)) inferInstance normc_
  case hd=>rfl
  case hc=>
    intro w' hm'
    exact sameInts_t (l:=awV.map fun (i:Nat)=>(i:Int)) (rdNatN (v:=v1) hm' (by exact Take.there (.there (.there (.there (.there (.there (.there (.there (.there .here))))))))) (by exact rfl)) (rdNatN hm' (by exact .here) (by exact rfl))
  (refine tr_gOn rfl rfl ?_;refine tr_val (rk_not (.of rfl)) rfl ?_;refine tr_val (rk_pickB (.of rfl) (.of rfl) (.of rfl) rfl) rfl ?_;refine n_t ?_;refine tr_cond_f (.of rfl) ?_;refine s_t ?_;refine s_r ?_)
  refine tr_cut [] [] trivial .nil ?_
  with_reducible apply tr_call
  case hr=>exact rk_call (.of rfl) .nil inferInstance normc_
  case hd=>rfl
  case ht=>exact Takes.nil
  case hc=>
    intro w1 fp hm1 _ hs1
    obtain rfl:fp = []:=hs1
    exact shown_c w1
  intro s8 _
  dsimp only [id_eq,List.cons_append,List.nil_append]
  with_reducible apply tr_call
  case hr=>exact rk_call (.of rfl) (.cons (.of rfl) (.cons (.of rfl) (.cons (.of rfl) .nil))) inferInstance normc_
  case hd=>rfl
  case ht=>exact Takes.nil
  case hc=>
    intro w1 fp hm1 _ hs1
    obtain rfl:fp = []:=hs1
    exact aw_rm1 (rdEn hm1 (by exact .here)) (hG.keeps hm1.keeps)
  intro r1 _
  dsimp only [id_eq,List.cons_append,List.nil_append]
  refine tr_rowSl (E:=138) (sz:=6) (by exact .here) fun ar1 cr1 e=>?_
  subst e
  (refine m_v rfl rfl ?_;refine tr_val (rk_extract (.of rfl) rfl) rfl ?_;refine tr_val (rk_extract (.of rfl) rfl) rfl ?_;refine tr_new (rk_alloc rfl) rfl (fun _ _=>?_);refine tr_store (.of rfl) (.of rfl) .here rfl rfl (okc_cons rfl okc_nil) (lenb rfl) norm_ ?_;refine a_s rfl rfl ?_;refine n_r ?_)
  with_reducible apply tr_call
  case hr=>exact rk_call (.of rfl) .nil inferInstance normc_
  case hd=>rfl
  case ht=>exact Takes.nil
  case hc=>
    intro w1 fp hm1 _ hs1
    obtain rfl:fp = []:=hs1
    exact shown_c w1
  intro s9 _
  dsimp only [id_eq,List.cons_append,List.nil_append]
  with_reducible apply tr_call
  case hr=>exact rk_call (.of rfl) (.cons (.of rfl) (.cons (.of rfl) (.cons (.of rfl) .nil))) inferInstance normc_
  case hd=>rfl
  case ht=>exact Takes.nil
  case hc=>
    intro w1 fp hm1 _ hs1
    obtain rfl:fp = []:=hs1
    exact aw_rm2 (rdEn hm1 (by exact .here)) (hG.keeps hm1.keeps)
  intro r2 _
  dsimp only [id_eq,List.cons_append,List.nil_append]
  refine tr_rowSl (E:=138) (sz:=6) (by exact .here) fun ar2 cr2 e=>?_
  subst e
  (refine m_v rfl rfl ?_;refine tr_val (rk_extract (.of rfl) rfl) rfl ?_;refine tr_val (rk_extract (.of rfl) rfl) rfl ?_;refine tr_new (rk_alloc rfl) rfl (fun _ _=>?_);refine tr_store (.of rfl) (.of rfl) .here rfl rfl (okc_cons rfl okc_nil) (lenb rfl) norm_ ?_;refine a_s rfl rfl ?_;refine n_r ?_;refine tr_val (rk_loadB (.of rfl) .here norm_ (by rfl)) rfl ?_)
  with_reducible apply tr_call
  case hr=>exact rk_call (.of rfl) (.cons (.of rfl) .nil) inferInstance normc_
  case hd=>rfl
  case ht=>exact Takes.nil
  case hc=>
    intro w1 fp hm1 _ hs1
    obtain rfl:fp = []:=hs1
    exact told_c (rdEnF hm1 (by exact Take.there .here) rfl) (by decide)
  intro d1 _
  dsimp only [id_eq,List.cons_append,List.nil_append]
  with_reducible apply tr_call
  case hr=>exact rk_call (.of rfl) (.cons (.of rfl) .nil) inferInstance normc_
  case hd=>rfl
  case ht=>exact Takes.nil
  case hc=>
    intro w1 fp hm1 _ hs1
    obtain rfl:fp = []:=hs1
    exact own_c (es:=awR) (rdEn (v:=d1) hm1 (by exact .here)) (by decide)
  intro o1 _
  dsimp only [id_eq,List.cons_append,List.nil_append]
  with_reducible apply tr_call
  case hr=>exact rk_call (.of rfl) (.cons (.of rfl) .nil) inferInstance normc_
  case hd=>rfl
  case ht=>exact Takes.nil
  case hc=>
    intro w1 fp hm1 _ hs1
    obtain rfl:fp = []:=hs1
    exact aw_tm2 (rdEn (v:=o1) hm1 (by exact .here)) (hG.keeps hm1.keeps)
  intro t2 _
  dsimp only [id_eq,List.cons_append,List.nil_append]
  (refine m_v rfl rfl ?_;refine tr_val (rk_extract (.of rfl) rfl) rfl ?_;refine tr_val (rk_extract (.of rfl) rfl) rfl ?_;refine a_s rfl rfl ?_;refine a_s rfl rfl ?_;refine n_r ?_)
  with_reducible apply tr_call
  case hr=>exact rk_call (.of rfl) .nil inferInstance normc_
  case hd=>rfl
  case ht=>exact Takes.nil
  case hc=>
    intro w1 fp hm1 _ hs1
    obtain rfl:fp = []:=hs1
    exact shown_c w1
  intro p1 _
  dsimp only [id_eq,List.cons_append,List.nil_append]
  with_reducible apply tr_callV
  case hr=>exact rk_call (.of rfl) (.cons (.of rfl) (.cons (.of rfl) (.cons (.of rfl) (.cons (.of rfl) (.cons (.of rfl) (.cons (.of rfl) .nil)))))) inferInstance normc_
  case hd=>rfl
  case hc=>
    intro w' hm'
    exact entryL_c (ad 60) w'
  with_reducible apply tr_call
  case hr=>exact rk_call (.of rfl) (.cons (.of rfl) (.cons (.of rfl) (.cons (.of rfl) (.cons (.of rfl) .nil)))) inferInstance normc_
  case hd=>rfl
  case ht=>exact Takes.nil
  case hc=>
    intro w1 fp hm1 _ hs1
    obtain rfl:fp = []:=hs1
    exact aw_in1 (rdEn (v:=p1) hm1 (by exact .here)) (hG.keeps hm1.keeps)
  intro i1 _
  dsimp only [id_eq,List.cons_append,List.nil_append]
  refine tr_rowSl (E:=138) (sz:=6) (by exact .here) fun ai1 ci1 e=>?_
  subst e
  (refine m_v rfl rfl ?_;refine tr_val (rk_extract (.of rfl) rfl) rfl ?_;refine tr_val (rk_extract (.of rfl) rfl) rfl ?_;refine tr_new (rk_alloc rfl) rfl (fun _ _=>?_);refine tr_store (.of rfl) (.of rfl) .here rfl rfl (okc_cons rfl okc_nil) (lenb rfl) norm_ ?_;refine a_s rfl rfl ?_;refine n_r ?_)
  with_reducible apply tr_call
  case hr=>exact rk_call (.of rfl) .nil inferInstance normc_
  case hd=>rfl
  case ht=>exact Takes.nil
  case hc=>
    intro w1 fp hm1 _ hs1
    obtain rfl:fp = []:=hs1
    exact shown_c w1
  intro p2 _
  dsimp only [id_eq,List.cons_append,List.nil_append]
  with_reducible apply tr_callV
  case hr=>exact rk_call (.of rfl) (.cons (.of rfl) (.cons (.of rfl) (.cons (.of rfl) (.cons (.of rfl) (.cons (.of rfl) (.cons (.of rfl) .nil)))))) inferInstance normc_
  case hd=>rfl
  case hc=>
    intro w' hm'
    exact entryL_c (ad 55) w'
  with_reducible apply tr_call
  case hr=>exact rk_call (.of rfl) (.cons (.of rfl) (.cons (.of rfl) (.cons (.of rfl) (.cons (.of rfl) .nil)))) inferInstance normc_
  case hd=>rfl
  case ht=>exact Takes.nil
  case hc=>
    intro w1 fp hm1 _ hs1
    obtain rfl:fp = []:=hs1
    exact aw_in2 (rdEn (v:=p2) hm1 (by exact .here)) (hG.keeps hm1.keeps)
  intro i2 _
  dsimp only [id_eq,List.cons_append,List.nil_append]
  refine tr_rowSl (E:=138) (sz:=6) (by exact .here) fun ai2 ci2 e=>?_
  subst e
  (refine m_v rfl rfl ?_;refine tr_val (rk_extract (.of rfl) rfl) rfl ?_;refine tr_val (rk_extract (.of rfl) rfl) rfl ?_;refine tr_new (rk_alloc rfl) rfl (fun _ _=>?_);refine tr_store (.of rfl) (.of rfl) .here rfl rfl (okc_cons rfl okc_nil) (lenb rfl) norm_ ?_;refine a_s rfl rfl ?_;refine n_r ?_)
  with_reducible apply tr_call
  case hr=>exact rk_call (.of rfl) .nil inferInstance normc_
  case hd=>rfl
  case ht=>exact Takes.nil
  case hc=>
    intro w1 fp hm1 _ hs1
    obtain rfl:fp = []:=hs1
    exact shown_c w1
  intro p3 _
  dsimp only [id_eq,List.cons_append,List.nil_append]
  with_reducible apply tr_callV
  case hr=>exact rk_call (.of rfl) (.cons (.of rfl) (.cons (.of rfl) (.cons (.of rfl) (.cons (.of rfl) (.cons (.of rfl) (.cons (.of rfl) .nil)))))) inferInstance normc_
  case hd=>rfl
  case hc=>
    intro w' hm'
    exact entryL_c (ad 55) w'
  with_reducible apply tr_call
  case hr=>exact rk_call (.of rfl) (.cons (.of rfl) (.cons (.of rfl) (.cons (.of rfl) (.cons (.of rfl) .nil)))) inferInstance normc_
  case hd=>rfl
  case ht=>exact Takes.nil
  case hc=>
    intro w1 fp hm1 _ hs1
    obtain rfl:fp = []:=hs1
    exact aw_in3 (rdEn (v:=p3) hm1 (by exact .here)) (hG.keeps hm1.keeps)
  intro i3 _
  dsimp only [id_eq,List.cons_append,List.nil_append]
  refine tr_rowSl (E:=138) (sz:=6) (by exact .here) fun ai3 ci3 e=>?_
  subst e
  (refine m_v rfl rfl ?_;refine tr_val (rk_extract (.of rfl) rfl) rfl ?_;refine tr_val (rk_extract (.of rfl) rfl) rfl ?_;refine tr_new (rk_alloc rfl) rfl (fun _ _=>?_);refine tr_store (.of rfl) (.of rfl) .here rfl rfl (okc_cons rfl okc_nil) (lenb rfl) norm_ ?_;refine a_s rfl rfl ?_;refine n_t ?_;refine tr_seq ?_;refine s_r ?_;refine m_v rfl rfl ?_;refine tr_val (rk_neq (.of rfl) (.of rfl)) rfl ?_;refine m_v rfl rfl ?_;refine tr_gOn rfl rfl ?_;refine m_v rfl rfl ?_;refine tr_gOn rfl rfl ?_;refine tr_val (rk_neq (.of rfl) (.of rfl)) rfl ?_;refine tr_val (rk_pickB (.of rfl) (.of rfl) (.of rfl) rfl) rfl ?_;refine m_v rfl rfl ?_;refine tr_gOn rfl rfl ?_;refine m_v rfl rfl ?_;refine tr_gOn rfl rfl ?_;refine tr_val (rk_neq (.of rfl) (.of rfl)) rfl ?_;refine tr_val (rk_pickB (.of rfl) (.of rfl) (.of rfl) rfl) rfl ?_;refine m_v rfl rfl ?_;refine tr_gOn rfl rfl ?_;refine m_v rfl rfl ?_;refine tr_gOn rfl rfl ?_;refine tr_val (rk_neq (.of rfl) (.of rfl)) rfl ?_;refine tr_val (rk_pickB (.of rfl) (.of rfl) (.of rfl) rfl) rfl ?_;refine m_v rfl rfl ?_;refine tr_gOn rfl rfl ?_;refine m_v rfl rfl ?_;refine tr_gOn rfl rfl ?_;refine tr_val (rk_neq (.of rfl) (.of rfl)) rfl ?_;refine tr_val (rk_pickB (.of rfl) (.of rfl) (.of rfl) rfl) rfl ?_;refine m_v rfl rfl ?_;refine tr_gOn rfl rfl ?_;refine m_v rfl rfl ?_;refine tr_gOn rfl rfl ?_;refine tr_val (rk_neq (.of rfl) (.of rfl)) rfl ?_;refine tr_val (rk_pickB (.of rfl) (.of rfl) (.of rfl) rfl) rfl ?_;refine m_v rfl rfl ?_;refine tr_gOn rfl rfl ?_;refine m_v rfl rfl ?_;refine tr_gOn rfl rfl ?_;refine tr_val (rk_buildL (.cons (.of rfl) (.cons (.of rfl) .nil)) norm_) rfl ?_;refine tr_gOn rfl rfl ?_;refine tr_val (rk_buildL (.cons (.of rfl) (.cons (.of rfl) .nil)) norm_) rfl ?_;refine tr_gOn rfl rfl ?_;refine tr_val (rk_buildL (.cons (.of rfl) (.cons (.of rfl) .nil)) norm_) rfl ?_;refine tr_gOn rfl rfl ?_;refine tr_new (rk_sliceLitN (.cons (.of rfl) (.cons (.of rfl) (.cons (.of rfl) .nil))) rfl rfl normp_ normp_ norm_) rfl (fun _ _=>?_);refine tr_gOn rfl rfl ?_)
  rename_i q14 hq14
  refine tr_rowLitE (g:=q14) (E:=66) (ys:=awT2.flatMap duoV) 3 2 (by exact .here) (by exact rfl) rfl rfl ?_
  with_reducible apply tr_callV
  case hr=>exact rk_call (.of rfl) (.cons (.of rfl) (.cons (.of rfl) .nil)) inferInstance normc_
  case hd=>rfl
  case hc=>
    intro w' hm'
    exact sameSpans_t (l:=awT2) (rdDuoN (v:=t2) hm' (by exact Take.there (.there (.there (.there (.there (.there (.there (.there (.there (.there .here)))))))))) (by exact rfl)) (rdDuoN hm' (by exact .here) (by exact rfl))
  (refine tr_gOn rfl rfl ?_;refine tr_val (rk_not (.of rfl)) rfl ?_;refine tr_val (rk_pickB (.of rfl) (.of rfl) (.of rfl) rfl) rfl ?_;refine n_t ?_;refine tr_cond_f (.of rfl) ?_;refine s_t ?_;refine s_r ?_)
  refine tr_cut [] [] trivial .nil ?_
  with_reducible apply tr_call
  case hr=>exact rk_call (.of rfl) .nil inferInstance normc_
  case hd=>rfl
  case ht=>exact Takes.nil
  case hc=>
    intro w1 fp hm1 _ hs1
    obtain rfl:fp = []:=hs1
    exact offered_c w1
  rintro ⟨pv1,cv1⟩ _
  dsimp only [id_eq,List.cons_append,List.nil_append]
  with_reducible apply tr_call
  case hr=>exact rk_call (.of rfl) (.cons (.of rfl) .nil) inferInstance normc_
  case hd=>rfl
  case ht=>exact Takes.nil
  case hc=>
    intro w1 fp hm1 _ hs1
    obtain rfl:fp = []:=hs1
    exact aw_fi (Mem.rdRow (v:=pv1) hm1 (E:=218) (by exact .here) (by exact rfl) (fun r hr=>by obtain ⟨x,_,rfl⟩:=List.mem_map.1 hr;rfl) (by exact rfl)) (Mem.rdRow (v:=cv1) hm1 (E:=3) (xs:=ints [2,2]) (by exact Take.there .here) (by exact rfl) (fun r hr=>by obtain ⟨x,_,rfl⟩:=List.mem_map.1 hr;rfl) (by exact rfl))
  intro f1 _
  dsimp only [id_eq,List.cons_append,List.nil_append]
  (refine m_v rfl rfl ?_;refine tr_val (rk_extract (.of rfl) rfl) rfl ?_;refine tr_val (rk_extract (.of rfl) rfl) rfl ?_;refine tr_val (rk_extract (.of rfl) rfl) rfl ?_;refine tr_new (rk_alloc rfl) rfl (fun _ _=>?_);refine a_s rfl rfl ?_;refine tr_store (.of rfl) (.of rfl) .here rfl rfl (okc_cons rfl (okc_cons rfl okc_nil)) (lenb rfl) norm_ ?_;refine a_s rfl rfl ?_;refine n_r ?_)
  with_reducible apply tr_call
  case hr=>exact rk_call (.of rfl) .nil inferInstance normc_
  case hd=>rfl
  case ht=>exact Takes.nil
  case hc=>
    intro w1 fp hm1 _ hs1
    obtain rfl:fp = []:=hs1
    exact offered_c w1
  rintro ⟨pv2,cv2⟩ _
  dsimp only [id_eq,List.cons_append,List.nil_append]
  refine tr_new (rk_sliceLit (.cons (.of rfl) (.cons (.of rfl) (.cons (.of rfl) .nil))) rfl rfl rfl rfl) rfl (fun _ _=>?_)
  with_reducible apply tr_callV
  case hr=>exact rk_call (.of rfl) (.cons (.of rfl) (.cons (.of rfl) .nil)) inferInstance normc_
  case hd=>rfl
  case hc=>
    intro w' hm'
    exact aw_cf1 (Mem.rdRow (v:=pv2) hm' (E:=218) (by exact Take.there .here) (by exact rfl) (fun r hr=>by obtain ⟨x,_,rfl⟩:=List.mem_map.1 hr;rfl) (by exact rfl)) (Mem.rdRow (v:=cv2) hm' (E:=3) (xs:=ints [2,2]) (by exact Take.there (.there .here)) (by exact rfl) (fun r hr=>by obtain ⟨x,_,rfl⟩:=List.mem_map.1 hr;rfl) (by exact rfl)) (Mem.rdBlk hm' (by exact .here) rfl rfl)
  (refine m_v rfl rfl ?_;refine tr_val (rk_extract (.of rfl) rfl) rfl ?_;refine tr_val (rk_extract (.of rfl) rfl) rfl ?_;refine tr_new (rk_alloc rfl) rfl (fun _ _=>?_);refine tr_store (.of rfl) (.of rfl) .here rfl rfl (okc_cons rfl (okc_cons rfl okc_nil)) (lenb rfl) norm_ ?_;refine a_s rfl rfl ?_;refine n_r ?_)
  with_reducible apply tr_call
  case hr=>exact rk_call (.of rfl) .nil inferInstance normc_
  case hd=>rfl
  case ht=>exact Takes.nil
  case hc=>
    intro w1 fp hm1 _ hs1
    obtain rfl:fp = []:=hs1
    exact offered_c w1
  rintro ⟨pv3,cv3⟩ _
  dsimp only [id_eq,List.cons_append,List.nil_append]
  refine tr_new (rk_sliceLit (.cons (.of rfl) (.cons (.of rfl) .nil)) rfl rfl rfl rfl) rfl (fun _ _=>?_)
  with_reducible apply tr_callV
  case hr=>exact rk_call (.of rfl) (.cons (.of rfl) (.cons (.of rfl) .nil)) inferInstance normc_
  case hd=>rfl
  case hc=>
    intro w' hm'
    exact aw_cf2 (Mem.rdRow (v:=pv3) hm' (E:=218) (by exact Take.there .here) (by exact rfl) (fun r hr=>by obtain ⟨x,_,rfl⟩:=List.mem_map.1 hr;rfl) (by exact rfl)) (Mem.rdRow (v:=cv3) hm' (E:=3) (xs:=ints [2,2]) (by exact Take.there (.there .here)) (by exact rfl) (fun r hr=>by obtain ⟨x,_,rfl⟩:=List.mem_map.1 hr;rfl) (by exact rfl)) (Mem.rdBlk hm' (by exact .here) rfl rfl)
  (refine m_v rfl rfl ?_;refine tr_val (rk_extract (.of rfl) rfl) rfl ?_;refine tr_val (rk_extract (.of rfl) rfl) rfl ?_;refine tr_new (rk_alloc rfl) rfl (fun _ _=>?_);refine tr_store (.of rfl) (.of rfl) .here rfl rfl (okc_cons rfl (okc_cons rfl okc_nil)) (lenb rfl) norm_ ?_;refine a_s rfl rfl ?_;refine n_r ?_)
  with_reducible apply tr_call
  case hr=>exact rk_call (.of rfl) .nil inferInstance normc_
  case hd=>rfl
  case ht=>exact Takes.nil
  case hc=>
    intro w1 fp hm1 _ hs1
    obtain rfl:fp = []:=hs1
    exact offered_c w1
  rintro ⟨pv4,cv4⟩ _
  dsimp only [id_eq,List.cons_append,List.nil_append]
  refine tr_val (rk_buildL (.cons (.of rfl) (.cons (.of rfl) .nil)) norm_) rfl ?_
  with_reducible apply tr_callV
  case hr=>exact rk_call (.of rfl) (.cons (.of rfl) (.cons (.of rfl) .nil)) inferInstance normc_
  case hd=>rfl
  case hc=>
    intro w' hm'
    exact aw_bd1 (Mem.rdRow (v:=pv4) hm' (E:=218) (by exact .here) (by exact rfl) (fun r hr=>by obtain ⟨x,_,rfl⟩:=List.mem_map.1 hr;rfl) (by exact rfl)) (Mem.rdRow (v:=cv4) hm' (E:=3) (xs:=ints [2,2]) (by exact Take.there .here) (by exact rfl) (fun r hr=>by obtain ⟨x,_,rfl⟩:=List.mem_map.1 hr;rfl) (by exact rfl))
  (refine m_v rfl rfl ?_;refine tr_val (rk_extract (.of rfl) rfl) rfl ?_;refine tr_val (rk_extract (.of rfl) rfl) rfl ?_;refine a_s rfl rfl ?_;refine a_s rfl rfl ?_;refine n_r ?_)
  with_reducible apply tr_call
  case hr=>exact rk_call (.of rfl) .nil inferInstance normc_
  case hd=>rfl
  case ht=>exact Takes.nil
  case hc=>
    intro w1 fp hm1 _ hs1
    obtain rfl:fp = []:=hs1
    exact offered_c w1
  rintro ⟨pv5,cv5⟩ _
  dsimp only [id_eq,List.cons_append,List.nil_append]
  refine tr_val (rk_buildL (.cons (.of rfl) (.cons (.of rfl) .nil)) norm_) rfl ?_
  with_reducible apply tr_callV
  case hr=>exact rk_call (.of rfl) (.cons (.of rfl) (.cons (.of rfl) .nil)) inferInstance normc_
  case hd=>rfl
  case hc=>
    intro w' hm'
    exact aw_bd2 (Mem.rdRow (v:=pv5) hm' (E:=218) (by exact .here) (by exact rfl) (fun r hr=>by obtain ⟨x,_,rfl⟩:=List.mem_map.1 hr;rfl) (by exact rfl)) (Mem.rdRow (v:=cv5) hm' (E:=3) (xs:=ints [2,2]) (by exact Take.there .here) (by exact rfl) (fun r hr=>by obtain ⟨x,_,rfl⟩:=List.mem_map.1 hr;rfl) (by exact rfl))
  (refine m_v rfl rfl ?_;refine tr_val (rk_extract (.of rfl) rfl) rfl ?_;refine tr_val (rk_extract (.of rfl) rfl) rfl ?_;refine a_s rfl rfl ?_;refine a_s rfl rfl ?_;refine n_r ?_)
  with_reducible apply tr_call
  case hr=>exact rk_call (.of rfl) .nil inferInstance normc_
  case hd=>rfl
  case ht=>exact Takes.nil
  case hc=>
    intro w1 fp hm1 _ hs1
    obtain rfl:fp = []:=hs1
    exact offered_c w1
  rintro ⟨pv6,cv6⟩ _
  dsimp only [id_eq,List.cons_append,List.nil_append]
  skip
  with_reducible apply tr_callV
  case hr=>exact rk_call (.of rfl) (.cons (.of rfl) .nil) inferInstance normc_
  case hd=>rfl
  case hc=>
    intro w' hm'
    exact aw_pr (Mem.rdRow (v:=pv6) hm' (E:=218) (by exact .here) (by exact rfl) (fun r hr=>by obtain ⟨x,_,rfl⟩:=List.mem_map.1 hr;rfl) (by exact rfl)) (Mem.rdRow (v:=cv6) hm' (E:=3) (xs:=ints [2,2]) (by exact Take.there .here) (by exact rfl) (fun r hr=>by obtain ⟨x,_,rfl⟩:=List.mem_map.1 hr;rfl) (by exact rfl))
  (refine m_v rfl rfl ?_;refine tr_val (rk_extract (.of rfl) rfl) rfl ?_;refine tr_val (rk_extract (.of rfl) rfl) rfl ?_;refine tr_new (rk_alloc rfl) rfl (fun _ _=>?_);refine tr_store (.of rfl) (.of rfl) .here rfl rfl (okc_cons rfl (okc_cons rfl okc_nil)) (lenb rfl) norm_ ?_;refine a_s rfl rfl ?_;refine n_r ?_)
  with_reducible apply tr_call
  case hr=>exact rk_call (.of rfl) .nil inferInstance normc_
  case hd=>rfl
  case ht=>exact Takes.nil
  case hc=>
    intro w1 fp hm1 _ hs1
    obtain rfl:fp = []:=hs1
    exact shown_c w1
  intro s10 _
  dsimp only [id_eq,List.cons_append,List.nil_append]
  with_reducible apply tr_call
  case hr=>exact rk_call (.of rfl) .nil inferInstance normc_
  case hd=>rfl
  case ht=>exact Takes.nil
  case hc=>
    intro w1 fp hm1 _ hs1
    obtain rfl:fp = []:=hs1
    exact offered_c w1
  rintro ⟨pv7,cv7⟩ _
  dsimp only [id_eq,List.cons_append,List.nil_append]
  refine tr_new (rk_sliceLit (.cons (.of rfl) (.cons (.of rfl) .nil)) rfl rfl rfl rfl) rfl (fun _ _=>?_)
  with_reducible apply tr_call
  case hr=>exact rk_call (.of rfl) (.cons (.of rfl) (.cons (.of rfl) (.cons (.of rfl) (.cons (.of rfl) .nil)))) inferInstance normc_
  case hd=>rfl
  case ht=>exact Takes.nil
  case hc=>
    intro w1 fp hm1 _ hs1
    obtain rfl:fp = []:=hs1
    exact aw_pl (rdEn (v:=s10) hm1 (by exact Take.there (.there (.there .here)))) (Mem.rdRow (v:=pv7) hm1 (E:=218) (by exact Take.there .here) (by exact rfl) (fun r hr=>by obtain ⟨x,_,rfl⟩:=List.mem_map.1 hr;rfl) (by exact rfl)) (Mem.rdRow (v:=cv7) hm1 (E:=3) (xs:=ints [2,2]) (by exact Take.there (.there .here)) (by exact rfl) (fun r hr=>by obtain ⟨x,_,rfl⟩:=List.mem_map.1 hr;rfl) (by exact rfl)) (Mem.rdBlk hm1 (by exact .here) rfl rfl) (hG.keeps hm1.keeps)
  intro y1 _
  dsimp only [id_eq,List.cons_append,List.nil_append]
  refine tr_rowSl (E:=138) (sz:=6) (by exact .here) fun ay cy e=>?_
  subst e
  (refine m_v rfl rfl ?_;refine tr_val (rk_extract (.of rfl) rfl) rfl ?_;refine tr_val (rk_extract (.of rfl) rfl) rfl ?_;refine tr_new (rk_alloc rfl) rfl (fun _ _=>?_);refine tr_store (.of rfl) (.of rfl) .here rfl rfl (okc_cons rfl okc_nil) (lenb rfl) norm_ ?_;refine a_s rfl rfl ?_;refine n_r ?_)
  with_reducible apply tr_call
  case hr=>exact rk_call (.of rfl) .nil inferInstance normc_
  case hd=>rfl
  case ht=>exact Takes.nil
  case hc=>
    intro w1 fp hm1 _ hs1
    obtain rfl:fp = []:=hs1
    exact shown_c w1
  intro s11 _
  dsimp only [id_eq,List.cons_append,List.nil_append]
  refine tr_fact (p:=∃ a cp,s11 = .slice a shL.length cp ∧ shL.length ≤ cp) (fun w hm=>by
    obtain ⟨a,cap,b,o,e,h1,_⟩:=rdEn (v:=s11) hm (by exact .here)
    rw [ensL_length] at e h1
    exact ⟨a,cap,e,h1⟩) fun hsh=>?_
  obtain ⟨sha,shc,e,hcs⟩:=hsh
  subst e
  have hcs1:1 ≤ shc:=Nat.le_trans (by decide) hcs
  (refine tr_val (rk_field (.of rfl) rfl) rfl ?_;refine tr_val (rk_slice_h (.of rfl) (.of rfl) (by omega) (by omega)) rfl ?_;refine tr_val (rk_buildL (.cons (.of rfl) .nil) norm_) rfl ?_)
  with_reducible apply tr_callV
  case hr=>exact rk_call (.of rfl) (.cons (.of rfl) .nil) inferInstance normc_
  case hd=>rfl
  case hc=>
    intro w' hm'
    exact (aw_z (by
      have:=(rdEn (es:=shL) (v:=.slice sha shL.length shc) hm' (by exact .here)).sliced (l:=0) (m:=1) (by omega) (by decide)
      exact this) (hG.keeps hm'.keeps) (hT.keeps hm'.keeps))
  (refine m_v rfl rfl ?_;refine tr_val (rk_extract (.of rfl) rfl) rfl ?_;refine tr_val (rk_extract (.of rfl) rfl) rfl ?_;refine a_s rfl rfl ?_;refine a_s rfl rfl ?_;refine n_t ?_;refine tr_seq ?_;refine s_r ?_;refine m_v rfl rfl ?_;refine m_v rfl rfl ?_;refine tr_val (rk_add (.of rfl) (.of rfl) (ini (by omega))) rfl ?_;refine m_v rfl rfl ?_;refine tr_val (rk_add (.of rfl) (.of rfl) (ini (by omega))) rfl ?_;refine m_v rfl rfl ?_;refine tr_val (rk_add (.of rfl) (.of rfl) (ini (by omega))) rfl ?_;refine m_v rfl rfl ?_;refine tr_val (rk_add (.of rfl) (.of rfl) (ini (by omega))) rfl ?_;refine m_v rfl rfl ?_;refine tr_val (rk_add (.of rfl) (.of rfl) (ini (by omega))) rfl ?_;refine m_v rfl rfl ?_;refine tr_val (rk_add (.of rfl) (.of rfl) (ini (by omega))) rfl ?_;refine tr_val (rk_neq (.of rfl) (.of rfl)) rfl ?_;refine m_v rfl rfl ?_;refine tr_gOn rfl rfl ?_;refine m_v rfl rfl ?_;refine tr_gOn rfl rfl ?_;refine tr_val (rk_neq (.of rfl) (.of rfl)) rfl ?_;refine tr_val (rk_pickB (.of rfl) (.of rfl) (.of rfl) rfl) rfl ?_;refine m_v rfl rfl ?_;refine tr_gOn rfl rfl ?_;refine f_a rfl rfl norm0_ ?_;refine tr_gOn rfl rfl ?_;refine tr_val (rk_load1 (.of rfl) (At.lit (.there .here) rfl)) rfl ?_;refine tr_gOn rfl rfl ?_;refine tr_val (rk_len_slice (.of rfl)) rfl ?_;refine tr_gOn rfl rfl ?_;refine tr_val (rk_neq (.of rfl) (.of rfl)) rfl ?_;refine tr_val (rk_pickB (.of rfl) (.of rfl) (.of rfl) rfl) rfl ?_;refine n_t ?_;refine tr_cond_f (.of rfl) ?_;refine s_t ?_;refine tr_seq ?_)
  have e6:awP.length = 6:=rfl
  refine tr_rowOpen (v:=.slice ay awP.length cy) (E:=138) (sz:=6) (by exact Take.there (.there .here)) (by omega) fun yg ycap ycur e hycap hymx hysz hyl=>?_
  cases e
  have c12:cellsAt ((ensL awP).flatten++ycur) 12 6 = [.string ⟨#[98]⟩,.string ⟨#[98]⟩,.string ⟨#[102,105,120,101,100]⟩,.int .i64 345,.int .i64 25,.int .i64 0]:=flat_cellsAt (i:=2) (ensL_sz _) rfl
  have c18:cellsAt ((ensL awP).flatten++ycur) 18 6 = [.string ⟨#[99]⟩,.string ⟨#[99]⟩,.string ⟨#[102,111,108,108,111,119,105,110,103]⟩,.int .i64 0,.int .i64 30,.int .i64 0]:=flat_cellsAt (i:=3) (ensL_sz _) rfl
  have he2:∀ w',GivesV Tryz.prog 98 [.string ⟨#[98]⟩,.string ⟨#[98]⟩,.string ⟨#[102,105,120,101,100]⟩,.int .i64 345,.int .i64 25,.int .i64 0] w' (.agg #[.string ⟨#[98]⟩,.string ⟨#[98]⟩,.string ⟨#[102,105,120,101,100]⟩,.int .i64 345,.int .i64 25,.int .i64 0]):=fun w'=>entryL_c ⟨⟨#[98]⟩,⟨#[98]⟩,sFix,345,25,0⟩ w'
  have he3:∀ w',GivesV Tryz.prog 98 [.string ⟨#[99]⟩,.string ⟨#[99]⟩,.string ⟨#[102,111,108,108,111,119,105,110,103]⟩,.int .i64 0,.int .i64 30,.int .i64 0] w' (.agg #[.string ⟨#[99]⟩,.string ⟨#[99]⟩,.string ⟨#[102,111,108,108,111,119,105,110,103]⟩,.int .i64 0,.int .i64 30,.int .i64 0]):=fun w'=>entryL_c ⟨⟨#[99]⟩,⟨#[99]⟩,sFol,0,30,0⟩ w'
  with_reducible refine tr_draw 46 (by kernel_rfl) ?_
  refine a_m rfl rfl ?_
  with_reducible apply any_new
  case hr=>exact rk_sliceLit (.cons (.of rfl) (.cons (.of rfl) .nil)) rfl rfl rfl rfl
  case hd=>rfl
  case hn=>rfl
  refine any_callN (t:=302) (W:=.bool true) (f:=97) (args:=fun b=>[f1,.slice (some ⟨b,0,none⟩) 2 2]) (by exact List.mem_cons_self) (by decide) (fun b=>?_) rfl (fun b w' hm' hb=>?_) ?_
  · exact rk_call (Is.of rfl) (Iss.cons (Is.of rfl) (Iss.cons (Is.of rfl) Iss.nil)) inferInstance rfl
  · have hrd:Rd w' (.slice (some ⟨b,0,none⟩) 2 2) 1 ((awF.map fun (i:Nat)=>(i:Int)).map oneV):=by
      refine ⟨_,2,b,0,rfl,by simp [awF],by unfold maxLen;omega,fun _=>rfl,fun i r hr=>?_⟩
      match i,hr with
      | 0, hr =>
        cases hr
        exact ⟨rfl,fun j u hu=>by match j,hu with | 0,hu=>(cases hu;rw [cell_of_block hb];rfl)⟩
      | 1, hr =>
        cases hr
        exact ⟨rfl,fun j u hu=>by match j,hu with | 0,hu=>(cases hu;rw [cell_of_block hb];rfl)⟩
    exact sameInts_t (l:=awF.map fun (i:Nat)=>(i:Int)) (rdNatN (v:=f1) hm' (by exact Take.there (.there (.there (.there (.there (.there (.there (.there (.there (.there (.there (.there (.there (.there (.there (.there (.there (.there (.there (.there (.there (.there (.there .here))))))))))))))))))))))) (by exact rfl)) hrd
  (refine a_m rfl rfl ?_;refine any_vG1 rfl rfl inferInstance (fun hg hgp=>(rk_loadB (.of rfl) (.there (.there (.there (.there (.there (.there (.there (.there (.there (.there (.there (.there (.there (.there (.there (.there (.there (.there (.there (.there (.there (.there .here)))))))))))))))))))))) norm_ (by rfl))) rfl ?_;refine any_vG1 rfl rfl inferInstance (fun hg hgp=>(rk_buildL (.cons (.of rfl) (.cons (.of rfl) .nil)) norm_)) rfl ?_;refine any_vG1 rfl rfl inferInstance (fun hg hgp=>(rk_eqlA (.ofg hgp rfl) (.ofg hgp rfl) (okL_int (okL_int okL_nil)) rfl)) rfl ?_;refine any_val (rk_pick_and (.of rfl) rfl) rfl ?_;refine a_m rfl rfl ?_;refine any_vG1 rfl rfl inferInstance (fun hg hgp=>(rk_loadB (.of rfl) (.there (.there (.there (.there (.there (.there (.there (.there (.there (.there (.there (.there (.there (.there (.there (.there (.there (.there .here)))))))))))))))))) norm_ (by rfl))) rfl ?_;refine any_vG1 rfl rfl inferInstance (fun hg hgp=>(rk_buildL (.cons (.of rfl) (.cons (.of rfl) .nil)) norm_)) rfl ?_;refine any_vG1 rfl rfl inferInstance (fun hg hgp=>(rk_eqlA (.ofg hg rfl) (.ofg hg rfl) (okL_int (okL_int okL_nil)) rfl)) rfl ?_;refine any_val (rk_pick_and (.of rfl) rfl) rfl ?_;refine a_m rfl rfl ?_;refine any_vG1 rfl rfl inferInstance (fun hg hgp=>(rk_move (.of rfl))) rfl ?_;refine any_vG1 rfl rfl inferInstance (fun hg hgp=>(rk_eql (.ofg hg rfl) (.of rfl))) rfl ?_;refine any_val (rk_pick_and (.of rfl) rfl) rfl ?_;refine a_m rfl rfl ?_;refine any_vG1 rfl rfl inferInstance (fun hg hgp=>(rk_move (.of rfl))) rfl ?_;refine any_vG1 rfl rfl inferInstance (fun hg hgp=>(rk_eql (.ofg hg rfl) (.of rfl))) rfl ?_;refine any_val (rk_pick_and (.of rfl) rfl) rfl ?_;refine a_m rfl rfl ?_;refine any_vG1 rfl rfl inferInstance (fun hg hgp=>(rk_loadB (.of rfl) (.there (.there (.there (.there (.there (.there (.there .here))))))) norm_ (by rfl))) rfl ?_;refine any_vG1 rfl rfl inferInstance (fun hg hgp=>(rk_buildL (.cons (.of rfl) (.cons (.of rfl) .nil)) norm_)) rfl ?_;refine any_vG1 rfl rfl inferInstance (fun hg hgp=>(rk_eqlA (.ofg hg rfl) (.ofg hg rfl) (okL_int (okL_int okL_nil)) rfl)) rfl ?_;refine any_val (rk_pick_and (.of rfl) rfl) rfl ?_;refine a_m rfl rfl ?_;refine any_vG1 rfl rfl inferInstance (fun hg hgp=>(rk_fieldAddr (.of rfl) norm0_)) rfl ?_;refine any_vG1 rfl rfl inferInstance (fun hg hgp=>(rk_load1 (.ofg hg rfl) (At.lit (.there (.there .here)) rfl))) rfl ?_;refine any_vG1 rfl rfl inferInstance (fun hg hgp=>(rk_indexAddr (.ofg hg rfl) (.of rfl) rfl (by omega) (by omega) norm1_)) rfl ?_;refine any_vG1 rfl rfl inferInstance (fun hg hgp=>(rk_loadB (.ofg hg rfl) .here norm_ (by rfl))) rfl ?_;refine any_callG1 rfl rfl (fun hg=>(rk_call (.of rfl) (.cons (.of rfl) (.cons (.of rfl) (.cons (.of rfl) (.cons (.of rfl) (.cons (.of rfl) (.cons (.of rfl) .nil)))))) inferInstance normc_)) rfl (fun hg w' hm'=>(he2 w')) ?_;refine any_vG1 rfl rfl inferInstance (fun hg hgp=>(rk_eqlA (.ofg hg rfl) (.ofg hg rfl) (okL_string (okL_string (okL_string (okL_int (okL_int (okL_int okL_nil)))))) rfl)) rfl ?_;refine any_val (rk_pick_and (.of rfl) rfl) rfl ?_;refine a_m rfl rfl ?_;refine any_vG1 rfl rfl inferInstance (fun hg hgp=>(rk_fieldAddr (.of rfl) norm0_)) rfl ?_;refine any_vG1 rfl rfl inferInstance (fun hg hgp=>(rk_load1 (.ofg hg rfl) (At.lit (.there (.there .here)) rfl))) rfl ?_;refine any_vG1 rfl rfl inferInstance (fun hg hgp=>(rk_indexAddr (.ofg hg rfl) (.of rfl) rfl (by omega) (by omega) norm1_)) rfl ?_;refine any_vG1 rfl rfl inferInstance (fun hg hgp=>(rk_loadB (.ofg hg rfl) .here norm_ (by rfl))) rfl ?_;refine any_callG1 rfl rfl (fun hg=>(rk_call (.of rfl) (.cons (.of rfl) (.cons (.of rfl) (.cons (.of rfl) (.cons (.of rfl) (.cons (.of rfl) (.cons (.of rfl) .nil)))))) inferInstance normc_)) rfl (fun hg w' hm'=>(he3 w')) ?_;refine any_vG1 rfl rfl inferInstance (fun hg hgp=>(rk_eqlA (.ofg hg rfl) (.ofg hg rfl) (okL_string (okL_string (okL_string (okL_int (okL_int (okL_int okL_nil)))))) rfl)) rfl ?_;refine any_val (rk_pick_and (.of rfl) rfl) rfl ?_;refine a_m rfl rfl ?_;refine any_vG1 rfl rfl inferInstance (fun hg hgp=>(rk_move (.of rfl))) rfl ?_;refine any_vG1 rfl rfl inferInstance (fun hg hgp=>(rk_eqls (.ofg hg rfl) (.of rfl))) rfl ?_;refine any_val (rk_pick_and (.of rfl) rfl) rfl ?_)
  with_reducible refine any_end ?_
  refine tr_val (V:=Value.bool true) (rk_assign (Is.of (by kernel_rfl))) rfl ?_
  (refine n_t ?_;refine tr_ret ?_;refine tr_retE rfl (ends1 rfl rfl) ?_)
  rfl
end Go.Proofs.A1
namespace Go.Proofs.A1
open Go Go.SL
theorem rk_eqlT {P:Program} {c:Cx} {sl:Slots} {hs:List Asn} {dst:Option Tmp} {ty:TypeId} {pos:String} {af:Array Edge} {g:Option (Nat × Bool)} {k:IntKind} {t u:TypeId} {x y:Operand} {a b:Int} (hx:Is sl x (.int k a)) (hy:Is sl y (.int k b)) (e:a = b) :
    RunV P c sl hs ⟨dst,.binOp .eql t x y u,ty,pos,af,g⟩ (.bool true):=by
  have:=rk_eql (P:=P) (c:=c) (hs:=hs) (dst:=dst) (ty:=ty) (pos:=pos) (af:=af) (g:=g) (t:=t) (u:=u) hx hy
  rwa [decide_eq_true e] at this
end Go.Proofs.A1
namespace Go.Proofs.A1
open Go Go.SL Go.ChangeShapes Go.WideShapes Go.Deep Go.Joins
section
variable {H:Type} {enc:TypeId × Value → H} {w:World}
theorem c9:Tryz.prog.cellsOf 9 = 1:=by kernel_rfl
theorem c3:Tryz.prog.cellsOf 3 = 1:=by kernel_rfl
theorem c113:Tryz.prog.cellsOf 113 = 2:=by kernel_rfl
theorem c115:Tryz.prog.cellsOf 115 = 6:=by kernel_rfl
theorem c24:Tryz.prog.cellsOf 24 = 1:=by kernel_rfl
theorem c22:Tryz.prog.cellsOf 22 = 1:=by kernel_rfl
theorem laidOut:laidOutB Tryz.prog = true:=by kernel_rfl
theorem rec24:Tryz.prog.readableRec 24 = true:=by kernel_rfl
theorem row24:(24:TypeId) < Tryz.prog.types.size:=of_decide_eq_true (by kernel_rfl)
theorem ownK:ownKnob Tryz.prog.godebug = none:=by kernel_rfl
theorem add_none {b o n:Nat}:Addr.add ⟨b,o,none⟩ n = ⟨b,o + n,none⟩:=addr_add b o n
theorem list6 {α:Type}:∀ {l:List α},l.length = 6 → ∃ a b c d e f,l = [a,b,c,d,e,f]
  | [a,b,c,d,e,f],_=>⟨a,b,c,d,e,f,rfl⟩
theorem ent_cells {n:Nat} {cs:List Value} {x:DataW H × List MemPlace} (h:DataW.trod enc Tryz.prog w 0 (fun _=>true) true n 115 cs = some x):∃ e:En,cs = e.cells:=by
  obtain ⟨ys,n',_,_,hlen,hyl,hf⟩:=DataW.trod_struct Tryz.underlying115 h
  rw [c115] at hlen
  have hyl5:ys.length = 5:=hyl
  obtain ⟨k0,k1,k2,k3,k4,k5,rfl⟩:=list6 hlen
  have f0:DataW.trod enc Tryz.prog w 0 (fun _=>true) true n' 9 (List.take (Tryz.prog.cellsOf 9) (List.drop 0 [k0,k1,k2,k3,k4,k5])) = ys[0]?:=hf 0 _ rfl
  rw [c9,List.getElem?_eq_getElem (by omega)] at f0
  have f1:DataW.trod enc Tryz.prog w 0 (fun _=>true) true n' 9 (List.take (Tryz.prog.cellsOf 9) (List.drop 1 [k0,k1,k2,k3,k4,k5])) = ys[1]?:=hf 1 _ rfl
  rw [c9,List.getElem?_eq_getElem (by omega)] at f1
  have f2:DataW.trod enc Tryz.prog w 0 (fun _=>true) true n' 113 (List.take (Tryz.prog.cellsOf 113) (List.drop 2 [k0,k1,k2,k3,k4,k5])) = ys[2]?:=hf 2 _ rfl
  rw [c113,List.getElem?_eq_getElem (by omega)] at f2
  have f3:DataW.trod enc Tryz.prog w 0 (fun _=>true) true n' 3 (List.take (Tryz.prog.cellsOf 3) (List.drop 4 [k0,k1,k2,k3,k4,k5])) = ys[3]?:=hf 3 _ rfl
  rw [c3,List.getElem?_eq_getElem (by omega)] at f3
  have f4:DataW.trod enc Tryz.prog w 0 (fun _=>true) true n' 3 (List.take (Tryz.prog.cellsOf 3) (List.drop 5 [k0,k1,k2,k3,k4,k5])) = ys[4]?:=hf 4 _ rfl
  rw [c3,List.getElem?_eq_getElem (by omega)] at f4
  obtain ⟨s0,e0,_,_⟩:=DataW.trod_string Tryz.underlying9 f0
  obtain ⟨s1,e1,_,_⟩:=DataW.trod_string Tryz.underlying9 f1
  obtain ⟨i3,e3,_,_⟩:=DataW.trod_int Tryz.underlying3 f3
  obtain ⟨i4,e4,_,_⟩:=DataW.trod_int Tryz.underlying3 f4
  obtain ⟨zs,n2,_,_,_,hzl,hg⟩:=DataW.trod_struct Tryz.underlying113 f2
  have hzl2:zs.length = 2:=hzl
  have g0:DataW.trod enc Tryz.prog w 0 (fun _=>true) true n2 9 (List.take (Tryz.prog.cellsOf 9) (List.drop 0 (List.take 2 (List.drop 2 [k0,k1,k2,k3,k4,k5])))) = zs[0]?:=hg 0 _ rfl
  rw [c9,List.getElem?_eq_getElem (by omega)] at g0
  have g1:DataW.trod enc Tryz.prog w 0 (fun _=>true) true n2 3 (List.take (Tryz.prog.cellsOf 3) (List.drop 1 (List.take 2 (List.drop 2 [k0,k1,k2,k3,k4,k5])))) = zs[1]?:=hg 1 _ rfl
  rw [c3,List.getElem?_eq_getElem (by omega)] at g1
  obtain ⟨s2,e2,_,_⟩:=DataW.trod_string Tryz.underlying9 g0
  obtain ⟨i2,e5,_,_⟩:=DataW.trod_int Tryz.underlying3 g1
  simp at e0 e1 e2 e3 e4 e5
  subst e0 e1 e2 e3 e4 e5
  exact ⟨⟨s0,s1,s2,i2,i3,i4⟩,rfl⟩
theorem staysT {T:TypeId} (hrec:Tryz.prog.readableRec T = true) (hrow:T < Tryz.prog.types.size) {W W':World} {sp':Nat → Bool} {n:Nat} {cs:List Value} {x:DataW H × List MemPlace} (h:DataW.trod enc Tryz.prog W 0 (fun _=>true) true n T cs = some x)
    (hsame:∀ p ∈ x.2,W.sameAt W' p) (hs:∀ p ∈ x.2,sp' p.block = true):DataW.trod enc Tryz.prog W' 0 sp' true n T cs = some x:=
  DataW.trod_stays (kids_book laidOut hrec) (book_sized hrec) (fun h=>by cases h) ⟨hrow,book_self T⟩ h hsame hs
theorem open_rows {α:Type} [Inhabited α] {T E:TypeId} {sz:Nat} {cells:α → List Value} (hu:Tryz.prog.underlying T = some (.slice E)) (hsz:Tryz.prog.cellsOf E = sz) (h0:0 < sz) (hlen:∀ a,(cells a).length = sz)
    (hE:∀ (n:Nat) (cs:List Value) (x:DataW H × List MemPlace),DataW.trod enc Tryz.prog w 0 (fun _=>true) true n E cs = some x → ∃ e:α,cs = cells e)
    {n:Nat} {v:Value} {y:DataW H × List MemPlace} (h:DataW.trod enc Tryz.prog w 0 (fun _=>true) true n T [v] = some y):∃ l:List α,Rd w v sz (l.map cells):=by
  rcases open_slice hu h with ⟨e,_⟩ | ⟨a,len,cap,m,n',D,Pl,hcs,_,hl,hm,hmm,_,hi⟩
  · simp only [List.cons.injEq,and_true] at e
    subst e
    exact ⟨[],Rd.nil w sz⟩
  · simp only [List.cons.injEq,and_true] at hcs
    subst hcs
    rw [hsz] at hi
    have hmc:m = cap:=by simpa using hmm
    have hE:∀ i,i < len → ∃ e:α,∀ j,j < sz → w.cell? (a.add (i * sz + j)) = (cells e)[j]?:=fun i hil=>by
      obtain ⟨cs',hc,ht⟩:=hi i (by omega)
      obtain ⟨_,hcl,hat⟩:=World.cells?_some hc
      obtain ⟨e,rfl⟩:=hE _ _ _ ht
      exact ⟨e,fun j hj=>by rw [← Go.Deep.add_add];exact hat j hj⟩
    let S:Nat → α:=fun i=>if hil:i < len then (hE i hil).choose else default
    have hS:∀ i j,i < len → j < sz → w.cell? (a.add (i * sz + j)) = (cells (S i))[j]?:=fun i j hil hj=>by
      have:=(hE i hil).choose_spec j hj
      simpa only [S,dif_pos hil] using this
    have hlenE:(((List.range len).map S).map cells).length = len:=by simp
    refine ⟨(List.range len).map S,?_⟩
    by_cases hz:len = 0
    · subst hz
      exact ⟨some a,cap,0,0,by rw [hlenE],by rw [hlenE];omega,hm,fun hne=>absurd (List.length_eq_zero_iff.1 hlenE) hne,fun i r hr=>by
        have:=(List.getElem?_eq_some_iff.1 hr).1
        rw [hlenE] at this;omega⟩
    · obtain ⟨b,off,spot⟩:=a
      have hspot:spot = none:=by
        have h1:=hS 0 0 (by omega) h0
        rw [List.getElem?_eq_getElem (by rw [hlen];exact h0)] at h1
        simpa [Addr.add] using World.cell?_spot h1
      subst hspot
      refine ⟨some ⟨b,off,none⟩,cap,b,off,by rw [hlenE],by rw [hlenE];exact hl,hm,fun _=>rfl,fun i r hr=>?_⟩
      have hil:i < len:=by
        have:=(List.getElem?_eq_some_iff.1 hr).1
        rwa [hlenE] at this
      have hr':r = cells (S i):=by
        simp [hil] at hr;exact hr.symm
      subst hr'
      refine ⟨hlen _,fun j u hu=>?_⟩
      have hj:j < sz:=by
        have:=(List.getElem?_eq_some_iff.1 hu).1
        rwa [hlen] at this
      have:=hS i j hil hj
      rw [add_none,hu] at this
      rw [Nat.add_assoc];exact this
theorem open_ens {n:Nat} {v:Value} {y:DataW H × List MemPlace} (h:DataW.trod enc Tryz.prog w 0 (fun _=>true) true n 22 [v] = some y):∃ es,Rd w v 6 (ensL es):=by
  haveI:Inhabited En:=⟨En.zero⟩
  exact open_rows (cells:=En.cells) Tryz.underlying22 c115 (by decide) (fun _=>rfl) (fun _ _ _ h=>ent_cells h) h
end
end Go.Proofs.A1
