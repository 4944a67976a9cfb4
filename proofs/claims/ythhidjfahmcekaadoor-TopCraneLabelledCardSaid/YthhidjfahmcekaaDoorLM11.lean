/- Parts of the proof: DU13 DU14 DU15 DU16 DU17 DU18 DU19 DU20 DU21 GkMapR UKp DU22 DU23 DU24 DU25 DUOpen DU30 DU36 DU39 DU37 DU3A DU3H DU3I. -/
import Derived.Test.YthhidjfahmcekaaDoorLM10
import Derived.Test.YthhidjfahmcekaaDoorLM06
import Derived.Test.YthhidjfahmcekaaDoorLM09
import Derived.Test.YthhidjfahmcekaaDoorLM05
import Derived.Test.YthhidjfahmcekaaDoorLM07
import Derived.Shelf.Slices.In.SortNone
import Derived.Shelf.SlSortCmp.NoneTotal
import Derived.Laws.IdiomRangeMap
import Derived.Lib.AppendIntMem
import Derived.Test.YthhidjfahmcekaaDoorTie
import Derived.Test.YthhidjfahmcekaaDoorCards
import Derived.Lib.SmallJoins
import Derived.Lib.LaidTab
import Derived.Deep.Slices
import Derived.Deep.Fields
import Derived.ChangeSame
import Derived.ChangeBook
import Derived.ChangeStays
import Derived.WalkKit
import Derived.ProofKit
import Derived.OpenShut
import Derived.Below
import Derived.LaidMore
import Derived.Lay
import Derived.SevenTiedAt
import Derived.Stop.Joined
import Derived.ChangeMaps5
import Derived.Test.YthhidjfahmcekaaDoorLM08
set_option linter.unusedSectionVars false
set_option linter.unusedVariables false
set_option linter.unusedSimpArgs false
namespace Go.Proofs.A1
open Go Go.SL
theorem hItems_get {l:List Int} {k:Nat} (h:k < (hitL l 0).length):(hItems l)[k]? = some [.agg (hitC (hitL l 0)[k]).toArray]:=by simp [hItems,h]
theorem appHit_c {bx:Nat} {sv:Value} {l:List Int} {w:World} (hcb:w.cell? ⟨bx,0,none⟩ = some sv) (h1:Rd w sv 1 (byts l)) (hby:∀ x ∈ l,0 ≤ x ∧ x ≤ 255) (hfew:l.length ≤ 4000) (hG:GlobR w) :
    Gives Tryd.prog 85 [.slice none 0 0,.func (.func 86) #[] #[.pointer (some ⟨bx,0,none⟩)]] w [] (fun _:Value=>True) id (fun v=>[row 135 8 v (hitL l 0).length (htsV (hitL l 0))]):=by
  have hlen:=hitL_len l 0
  refine gives_of_tr Tryd.func85 rfl rfl ?_
  (refine s_r ?_;refine tr_new (rk_box (.of rfl) rfl) rfl (fun _ _=>?_);refine a_s rfl rfl ?_;refine n_t ?_;refine tr_seq ?_;refine s_r ?_;refine m_v rfl rfl ?_;refine n_t ?_;refine tr_block ?_)
  rename_i b2 hb2
  refine tr_rowNil 135 8 ?_
  refine tr_rangeSeq (ps:=[7]) (f:=86) (first:=[]) (cap:=[.pointer (some ⟨bx,0,none⟩)]) (ι:=Nat × Value) (κ:=Empty) (rst:=[]) ?hg
    [] (hItems l) ?hit (fun k x=>x.1 = k ∧ k ≤ (hitL l 0).length)
    (fun x=>[blk b2 (.cells #[x.2] 132 (0,0)),row 135 8 x.2 x.1 (htsV ((hitL l 0).take x.1))])
    (fun _=>False) (fun _=>[]) (fun _=>.ret) (0,.slice none 0 0) ⟨rfl,Nat.zero_le _⟩ ?ht ?hlen ?hps ?round ?kn ?kj
  case hg=>exact Is.of rfl
  case hit=>intro w' hm';exact hitIter_c hcb h1 hby (by omega) hG (by simp) (by simp) (Out.nil _ _)
  case ht=>
    show Takes _ [blk b2 (.cells #[.slice none 0 0] 132 (0,0)),row 135 8 (.slice none 0 0) 0 []] _
    exact .cons (.there .here) (.cons .here .nil)
  case hlen=>intro vs hvs;obtain ⟨x,_,rfl⟩:=List.mem_map.1 hvs;rfl
  case hps=>intro t ht;simp only [List.mem_cons,List.not_mem_nil,or_false] at ht;subst ht;exact Nat.le_of_ble_eq_true rfl
  case kj=>intro y;cases y
  case kn=>
    rintro ⟨n,v⟩ D ⟨hq,_⟩
    dsimp only [List.cons_append,List.nil_append] at hq ⊢
    rw [hItems_length] at hq
    subst hq
    rw [List.take_length]
    (refine tr_blk_normal ?_;refine tr_then ?_;refine s_r ?_;refine tr_val (rk_load1 (.of rfl) (At.lit .here rfl)) rfl ?_;refine a_s rfl rfl ?_;refine n_t ?_;refine tr_ret ?_)
    refine tr_rowSl (E:=135) (sz:=8) (by exact Take.there .here) fun va vc e=>?_
    subst e
    skip
    first | with_reducible apply tr_retM | with_reducible apply tr_endM
    case he=>exact ends1 rfl rfl
    case hR=>
      intro w' hm'
      exact gives_end (.slice va (hitL l 0).length vc) trivial (show Takes _ [row 135 8 (.slice va (hitL l 0).length vc) (hitL l 0).length (htsV (hitL l 0))] _ by exact .cons (.there .here) .nil) hm' rfl
  case round=>
    rintro l2 rc W fp k ⟨n,v⟩ vs hsz hk ⟨hq,hkl⟩ hB hF
    dsimp only at hq
    subst hq
    have hlt:n < (hitL l 0).length:=by have:=(List.getElem?_eq_some_iff.1 hk).1;rwa [hItems_length] at this
    rw [hItems_get hlt,Option.some.injEq] at hk
    subst hk
    have htk:=htsV_take hlt
    have hlk:(htsV ((hitL l 0).take n)).length = n * 8:=by rw [htsV_len,List.length_take_of_le (by omega)]
    generalize (hitL l 0)[n] = x at htk
    obtain ⟨⟨⟨x1,x2⟩,⟨x3,x4,x5,x6⟩,x7⟩,x8⟩:=x
    dsimp only [hitC] at htk
    dsimp only [hitC,List.zip_cons_cons,List.zip_nil_right,putAll,List.cons_append,List.nil_append]
    (refine tr_region ?_;refine tr_new (rk_alloc rfl) rfl (fun _ _=>?_);refine tr_store (.of rfl) (.of rfl) .here rfl rfl (okc_cons rfl (okc_cons rfl (okc_cons rfl (okc_cons rfl (okc_cons rfl (okc_cons rfl (okc_cons rfl (okc_cons rfl okc_nil)))))))) (lenb rfl) norm_ ?_;refine n_t ?_)
    with_reducible apply tr_begin
    case ht=>exact Take.there .here
    refine tr_rowSl (E:=135) (sz:=8) (by exact Take.there (.there (.there .here))) fun v1 v2 e=>?_
    subst e
    (refine tr_block ?_;refine tr_region ?_;refine tr_val (rk_load1 (.of rfl) (At.lit (.there (.there .here)) rfl)) rfl ?_;refine tr_val (rk_loadB (.of rfl) (.there .here) norm_ (by rfl)) rfl ?_;refine tr_new (rk_sliceLitN (.cons (.of rfl) .nil) rfl rfl normp_ normp_ norm_) rfl (fun _ _=>?_))
    refine tr_appendB (.of rfl) (.of rfl) (.there (.there (.there (.there .here)))) .here norm_ (by rfl) (okc_cons rfl (okc_cons rfl (okc_cons rfl (okc_cons rfl (okc_cons rfl (okc_cons rfl (okc_cons rfl (okc_cons rfl okc_nil)))))))) (by rfl) (by rfl) (by rfl) lenx_ (by rfl) ?_
    intro v'
    refine tr_rowSl (by exact .here) fun a' cap' e=>?_
    subst e
    (refine tr_store (.of rfl) (.of rfl) (.there (.there (.there (.there .here)))) rfl rfl (okc_cons rfl okc_nil) (lenb rfl) norm_ ?_;refine tr_nil ?_;refine tr_blk_normal ?_)
    apply tr_seqN (n + 1,.slice a' (n + 1) cap')
    case ht=>exact Take.there (.there (.there .here))
    case hx=>exact ⟨rfl,hlt⟩
    case h2=>
      show Takes _ [blk b2 (.cells #[.slice a' (n + 1) cap'] 132 (0,0)),row 135 8 (.slice a' (n + 1) cap') (n + 1) (htsV ((hitL l 0).take (n + 1)))] _
      rw [htk]
      exact .cons .here (.cons .here .nil)
theorem colHit_c {bx:Nat} {sv:Value} {l:List Int} {w:World} (hcb:w.cell? ⟨bx,0,none⟩ = some sv) (h1:Rd w sv 1 (byts l)) (hby:∀ x ∈ l,0 ≤ x ∧ x ≤ 255) (hfew:l.length ≤ 4000) (hG:GlobR w) :
    Gives Tryd.prog 54 [.func (.func 86) #[] #[.pointer (some ⟨bx,0,none⟩)]] w [] (fun _:Value=>True) id (fun v=>[row 135 8 v (hitL l 0).length (htsV (hitL l 0))]):=by
  refine gives_of_tr Tryd.func54 rfl rfl ?_
  (refine s_r ?_;refine a_s rfl rfl ?_;refine n_r ?_;refine m_v rfl rfl ?_)
  with_reducible apply tr_call
  case hr=>exact rk_call (.of rfl) (.cons (.of rfl) (.cons (.of rfl) .nil)) inferInstance normc_
  case hd=>rfl
  case ht=>exact Takes.nil
  case hc=>
    intro w1 fp hm1 _ hs1
    obtain rfl:fp = []:=hs1
    exact appHit_c (cell_keepsN hcb (by simp) hm1.keeps) (h1.keeps hm1.keeps) hby hfew (hG.keeps hm1.keeps)
  intro v _
  dsimp only [id_eq,List.cons_append,List.nil_append]
  (refine a_s rfl rfl ?_;refine n_t ?_;refine tr_ret ?_)
  first | with_reducible apply tr_retM | with_reducible apply tr_endM
  case he=>exact ends1 rfl rfl
  case hR=>
    intro w' hm'
    exact gives_end v trivial (by exact .cons .here .nil) hm' rfl
theorem hit1_c (x:Stm × Nat) (w:World):GivesV Tryd.prog 57 [.agg (hitC x).toArray] w (.agg x.1.cells.toArray):=by
  unfold hitC Stm.cells
  refine givesV_of_tr Tryd.func57 rfl rfl ?_
  (refine s_r ?_;refine tr_new (rk_box (.of rfl) rfl) rfl (fun _ _=>?_);refine tr_new (rk_alloc rfl) rfl (fun _ _=>?_);refine n_r ?_;refine f_a rfl rfl norm0_ ?_;refine tr_val (rk_loadB (.of rfl) (.there .here) norm_ (by rfl)) rfl ?_;refine tr_store (.of rfl) (.of rfl) .here rfl rfl (okc_cons rfl (okc_cons rfl (okc_cons rfl (okc_cons rfl (okc_cons rfl (okc_cons rfl (okc_cons rfl okc_nil))))))) (lenb rfl) norm_ ?_;refine n_t ?_;refine tr_ret ?_;refine tr_retE rfl (ends1cB rfl inferInstance rfl .here norm_ (by rfl)) ?_)
  rfl
theorem hit2_c (x:Stm × Nat) (w:World):GivesV Tryd.prog 59 [.agg (hitC x).toArray] w (.int .i64 (x.2:Nat)):=by
  unfold hitC
  refine givesV_of_tr Tryd.func59 rfl rfl ?_
  (refine s_r ?_;refine tr_new (rk_box (.of rfl) rfl) rfl (fun _ _=>?_);refine a_s rfl rfl ?_;refine n_r ?_;refine f_a rfl rfl norm0_ ?_;refine tr_val (rk_load1 (.of rfl) (At.lit .here rfl)) rfl ?_;refine a_s rfl rfl ?_;refine n_t ?_;refine tr_ret ?_;refine tr_retE rfl (ends1 rfl rfl) ?_)
  rfl
def hsV (l:List (Stm × Nat)):List Value:=stmsV (l.map (·.1))
theorem hsV_len (l:List (Stm × Nat)):(hsV l).length = l.length * 7:=by unfold hsV;rw [stmsV_len,List.length_map]
def hnV (l:List (Stm × Nat)):List Value:=natsV (l.map (·.2))
theorem hnV_len (l:List (Stm × Nat)):(hnV l).length = l.length * 1:=by unfold hnV;rw [natsV_len,List.length_map]
theorem mapHS_c {lv:Value} {l:List (Stm × Nat)} {w:World} (h:Rd w lv 8 (hts l)) (hfew:l.length ≤ 4000) :
    Gives Tryd.prog 56 [lv,.func (.func 57) #[] #[]] w [] (fun _:Value=>True) id (fun v=>[row 86 7 v l.length (hsV l)]):=by
  obtain ⟨a,cp,b,o,rfl,hcap,hmax,ha,hc⟩:=h
  rw [hts_length] at *
  unfold maxLen at hmax
  refine gives_of_tr Tryd.func56 rfl rfl ?_
  (refine s_r ?_;refine a_s rfl rfl ?_;refine n_r ?_;refine a_s rfl rfl ?_;refine n_t ?_;refine tr_seq ?_;refine s_r ?_;refine m_v rfl rfl ?_;refine tr_val (rk_len_slice (.of rfl)) rfl ?_;refine m_v rfl rfl ?_;refine n_t ?_;refine tr_block ?_)
  refine tr_rowNil 86 7 ?_
  refine tr_for (ι:=Nat × Value) (fun x=>x.1 ≤ l.length) (fun x=>[(10,.int .i64 x.1),(9,.int .i64 l.length),(8,.slice a l.length cp),(5,x.2),(1,.func (.func 57) #[] #[])]) (fun x=>[row 86 7 x.2 x.1 (hsV (l.take x.1))]) (fun x=>l.length - x.1) ?_ ?_
  · apply tr_start (0,.slice none 0 0) (Nat.zero_le _)
    case hs1=>exact .cons rfl (.cons rfl (.cons rfl (.cons rfl (.cons rfl .nil))))
    case ht=>
      show Takes _ [row 86 7 (.slice none 0 0) 0 []] _
      exact .cons .here .nil
  rintro ⟨k,v⟩ hk
  dsimp only at hk ⊢
  by_cases hlt:k < l.length
  · have ha':=ha (hts_ne hlt)
    have hcell:=(hc k _ (hts_get hlt)).2
    have htk:hsV (l.take (k + 1)) = hsV (l.take k)++(l[k].1).cells:=by rw [List.take_succ_eq_append_getElem hlt];unfold hsV;rw [List.map_append,stmsV_app];rfl
    have hlk:(l.take k).length = k:=List.length_take_of_le (by omega)
    have hol:(hsV (l.take k)).length = k * 7:=by rw [hsV_len,hlk]
    have hcl:∀ w,GivesV Tryd.prog 57 [.agg (hitC l[k]).toArray] w (.agg (l[k].1).cells.toArray):=fun w=>hit1_c _ w
    unfold hitC at hcell hcl
    unfold Stm.cells at hcl htk
    (refine s_r ?_;refine tr_val (rk_lss (.of rfl) (.of rfl)) rfl ?_;refine n_t ?_;refine tr_seq ?_;refine c_d rfl (fun hcd=>?_) (fun _=>by omega);refine s_t ?_;refine tr_seq ?_;refine tr_block ?_;refine s_r ?_;refine tr_val (rk_indexAddr (.of rfl) (.of rfl) ha' (by omega) hcd norm1_) rfl ?_;refine tr_val (rk_loadN (.of rfl) (Ats.base hcell rfl) rfl) rfl ?_;refine tr_new (rk_alloc rfl) rfl (fun _ _=>?_);refine tr_store (.of rfl) (.of rfl) .here rfl rfl (okc_cons rfl (okc_cons rfl (okc_cons rfl (okc_cons rfl (okc_cons rfl (okc_cons rfl (okc_cons rfl (okc_cons rfl okc_nil)))))))) (lenb rfl) norm_ ?_;refine n_t ?_;refine tr_region ?_;refine m_v rfl rfl ?_;refine m_v rfl rfl ?_;refine tr_val (rk_loadB (.of rfl) .here norm_ (by rfl)) rfl ?_;refine tr_callV (rk_call (.of rfl) (.cons (.of rfl) .nil) inferInstance normc_) rfl (fun w' hm'=>(hcl w')) ?_;refine tr_new (rk_sliceLitN (.cons (.of rfl) .nil) rfl rfl normp_ normp_ norm_) rfl (fun _ _=>?_))
    refine tr_appendB (.of rfl) (.of rfl) (.there (.there .here)) .here norm_ (by rfl) (okc_cons rfl (okc_cons rfl (okc_cons rfl (okc_cons rfl (okc_cons rfl (okc_cons rfl (okc_cons rfl okc_nil))))))) (by rfl) (by rfl) (by rfl) lenx_ (by rfl) ?_
    intro v'
    (refine a_s rfl rfl ?_;refine tr_nil ?_;refine tr_blk_normal ?_;refine tr_then ?_;refine tr_region ?_;refine tr_val (rk_add (.of rfl) (.of rfl) (ini (by omega))) rfl ?_;refine m_v rfl rfl ?_;refine n_t ?_)
    apply tr_next (k + 1,v') (by show k + 1 ≤ l.length;omega) (by show l.length - (k + 1) < l.length - k;omega)
    case hs1=>exact .cons rfl (.cons rfl (.cons rfl (.cons rfl (.cons rfl .nil))))
    case ht=>
      show Takes _ [row 86 7 v' (k + 1) (hsV (l.take (k + 1)))] _
      rw [htk]
      exact .cons .here .nil
  · obtain rfl:k = l.length:=by omega
    rw [List.take_length]
    (refine s_r ?_;refine tr_val (rk_lss (.of rfl) (.of rfl)) rfl ?_;refine n_t ?_;refine tr_seq ?_;refine c_d rfl (fun _=>by omega) (fun hcd=>?_);refine x_t ?_;refine tr_then_exit ?_;refine tr_blk_exit ?_;refine tr_then ?_;refine s_r ?_;refine m_v rfl rfl ?_;refine a_s rfl rfl ?_;refine n_t ?_;refine tr_ret ?_)
    first | with_reducible apply tr_retM | with_reducible apply tr_endM
    case he=>exact ends1 rfl rfl
    case hR=>
      intro w' hm'
      exact gives_end v trivial (by exact .cons .here .nil) hm' rfl
theorem mapHN_c {lv:Value} {l:List (Stm × Nat)} {w:World} (h:Rd w lv 8 (hts l)) (hfew:l.length ≤ 4000) :
    Gives Tryd.prog 58 [lv,.func (.func 59) #[] #[]] w [] (fun _:Value=>True) id (fun v=>[row 3 1 v l.length (hnV l)]):=by
  obtain ⟨a,cp,b,o,rfl,hcap,hmax,ha,hc⟩:=h
  rw [hts_length] at *
  unfold maxLen at hmax
  refine gives_of_tr Tryd.func58 rfl rfl ?_
  (refine s_r ?_;refine a_s rfl rfl ?_;refine n_r ?_;refine a_s rfl rfl ?_;refine n_t ?_;refine tr_seq ?_;refine s_r ?_;refine m_v rfl rfl ?_;refine tr_val (rk_len_slice (.of rfl)) rfl ?_;refine m_v rfl rfl ?_;refine n_t ?_;refine tr_block ?_)
  refine tr_rowNil 3 1 ?_
  refine tr_for (ι:=Nat × Value) (fun x=>x.1 ≤ l.length) (fun x=>[(10,.int .i64 x.1),(9,.int .i64 l.length),(8,.slice a l.length cp),(5,x.2),(1,.func (.func 59) #[] #[])]) (fun x=>[row 3 1 x.2 x.1 (hnV (l.take x.1))]) (fun x=>l.length - x.1) ?_ ?_
  · apply tr_start (0,.slice none 0 0) (Nat.zero_le _)
    case hs1=>exact .cons rfl (.cons rfl (.cons rfl (.cons rfl (.cons rfl .nil))))
    case ht=>
      show Takes _ [row 3 1 (.slice none 0 0) 0 []] _
      exact .cons .here .nil
  rintro ⟨k,v⟩ hk
  dsimp only at hk ⊢
  by_cases hlt:k < l.length
  · have ha':=ha (hts_ne hlt)
    have hcell:=(hc k _ (hts_get hlt)).2
    have htk:hnV (l.take (k + 1)) = hnV (l.take k)++[.int .i64 ((l[k].2:Nat):Int)]:=by rw [List.take_succ_eq_append_getElem hlt];unfold hnV;rw [List.map_append,natsV_app];rfl
    have hlk:(l.take k).length = k:=List.length_take_of_le (by omega)
    have hol:(hnV (l.take k)).length = k * 1:=by rw [hnV_len,hlk]
    have hcl:∀ w,GivesV Tryd.prog 59 [.agg (hitC l[k]).toArray] w (.int .i64 (l[k].2:Nat)):=fun w=>hit2_c _ w
    unfold hitC at hcell hcl
    (refine s_r ?_;refine tr_val (rk_lss (.of rfl) (.of rfl)) rfl ?_;refine n_t ?_;refine tr_seq ?_;refine c_d rfl (fun hcd=>?_) (fun _=>by omega);refine s_t ?_;refine tr_seq ?_;refine tr_block ?_;refine s_r ?_;refine tr_val (rk_indexAddr (.of rfl) (.of rfl) ha' (by omega) hcd norm1_) rfl ?_;refine tr_val (rk_loadN (.of rfl) (Ats.base hcell rfl) rfl) rfl ?_;refine tr_new (rk_alloc rfl) rfl (fun _ _=>?_);refine tr_store (.of rfl) (.of rfl) .here rfl rfl (okc_cons rfl (okc_cons rfl (okc_cons rfl (okc_cons rfl (okc_cons rfl (okc_cons rfl (okc_cons rfl (okc_cons rfl okc_nil)))))))) (lenb rfl) norm_ ?_;refine n_t ?_;refine tr_region ?_;refine m_v rfl rfl ?_;refine m_v rfl rfl ?_;refine tr_val (rk_loadB (.of rfl) .here norm_ (by rfl)) rfl ?_;refine tr_callV (rk_call (.of rfl) (.cons (.of rfl) .nil) inferInstance normc_) rfl (fun w' hm'=>(hcl w')) ?_;refine tr_new (rk_sliceLit (.cons (.of rfl) .nil) rfl rfl rfl rfl) rfl (fun _ _=>?_))
    refine tr_appendB (.of rfl) (.of rfl) (.there (.there .here)) .here norm_ (by rfl) (okc_cons rfl okc_nil) (by rfl) (by rfl) (by rfl) lenx_ (by rfl) ?_
    intro v'
    (refine a_s rfl rfl ?_;refine tr_nil ?_;refine tr_blk_normal ?_;refine tr_then ?_;refine tr_region ?_;refine tr_val (rk_add (.of rfl) (.of rfl) (ini (by omega))) rfl ?_;refine m_v rfl rfl ?_;refine n_t ?_)
    apply tr_next (k + 1,v') (by show k + 1 ≤ l.length;omega) (by show l.length - (k + 1) < l.length - k;omega)
    case hs1=>exact .cons rfl (.cons rfl (.cons rfl (.cons rfl (.cons rfl .nil))))
    case ht=>
      show Takes _ [row 3 1 v' (k + 1) (hnV (l.take (k + 1)))] _
      rw [htk]
      exact .cons .here .nil
  · obtain rfl:k = l.length:=by omega
    rw [List.take_length]
    (refine s_r ?_;refine tr_val (rk_lss (.of rfl) (.of rfl)) rfl ?_;refine n_t ?_;refine tr_seq ?_;refine c_d rfl (fun _=>by omega) (fun hcd=>?_);refine x_t ?_;refine tr_then_exit ?_;refine tr_blk_exit ?_;refine tr_then ?_;refine s_r ?_;refine m_v rfl rfl ?_;refine a_s rfl rfl ?_;refine n_t ?_;refine tr_ret ?_)
    first | with_reducible apply tr_retM | with_reducible apply tr_endM
    case he=>exact ends1 rfl rfl
    case hR=>
      intro w' hm'
      exact gives_end v trivial (by exact .cons .here .nil) hm' rfl
def fndL (l:List Int):List (Stm × Nat):=if hrdE l.length = 0 then hitL l 0 else []
theorem found_c {sv:Value} {l:List Int} {w:World} (h:Rd w sv 1 (byts l)) (hby:∀ x ∈ l,0 ≤ x ∧ x ≤ 255) (hG:GlobR w) :
    Gives Tryd.prog 23 [sv] w [] (fun _:Value × Value=>True) (fun v=>.tuple #[v.1,v.2,.int .i64 (hrdE l.length)]) (fun v=>[row 86 7 v.1 (fndL l).length (hsV (fndL l)),row 3 1 v.2 (fndL l).length (hnV (fndL l))]):=by
  have h1':=h
  obtain ⟨a,cap,b,o,rfl,hcap,hmax,ha,hc⟩:=h1'
  rw [byts_length] at *
  unfold maxLen at hmax
  refine gives_of_tr Tryd.func23 rfl rfl ?_
  (refine s_r ?_;refine a_s rfl rfl ?_;refine a_s rfl rfl ?_;refine a_s rfl rfl ?_;refine n_t ?_;refine tr_seq ?_;refine s_r ?_;refine m_v rfl rfl ?_;refine tr_callV (rk_call (.of rfl) (.cons (.of rfl) .nil) inferInstance normc_) rfl (fun w' hm'=>(chkBytes_c a _ cap w')) ?_;refine a_s rfl rfl ?_;refine n_r ?_;refine m_v rfl rfl ?_;refine tr_val (rk_neq (.of rfl) (.of rfl)) rfl ?_;refine n_t ?_;refine c_d rfl (fun hcd=>?_) (fun hcd=>?_);refine s_r ?_;refine m_v rfl rfl ?_;refine a_s rfl rfl ?_;refine a_s rfl rfl ?_;refine a_s rfl rfl ?_;refine n_t ?_;refine r_t ?_;rotate_left;refine s_t ?_;refine s_r ?_;refine m_v rfl rfl ?_;rotate_right)
  · rw [fndL,if_neg hcd]
    refine tr_rowNil 86 7 ?_
    refine tr_rowNil 3 1 ?_
    first | with_reducible apply tr_retM | with_reducible apply tr_endM
    case he=>exact ends3 rfl rfl rfl rfl
    case hR=>
      intro w' hm'
      exact gives_end (.slice none 0 0,.slice none 0 0) trivial (show Takes _ [row 86 7 (.slice none 0 0) 0 [],row 3 1 (.slice none 0 0) 0 []] _ by exact .cons (.there .here) (.cons .here .nil)) hm' rfl
  have hz:hrdE l.length = 0:=Decidable.not_not.1 hcd
  have hfew:l.length ≤ 4000:=by
    unfold hrdE at hz
    by_cases h4:4000 < l.length
    · rw [if_pos h4] at hz;cases hz
    · omega
  have hlen:=hitL_len l 0
  rw [fndL,if_pos hz,hz]
  with_reducible apply tr_call
  case hr=>exact rk_call (.of rfl) (.cons (.of rfl) .nil) inferInstance normc_
  case hd=>rfl
  case ht=>exact Takes.nil
  case hc=>
    intro w1 fp hm1 _ hs1
    obtain rfl:fp = []:=hs1
    exact hits_c _ _ _ _
  intro bx _
  dsimp only [id_eq,List.cons_append,List.nil_append]
  with_reducible apply tr_call
  case hr=>exact rk_call (.of rfl) (.cons (.of rfl) .nil) inferInstance normc_
  case hd=>rfl
  case ht=>exact Takes.nil
  case hc=>
    intro w1 fp hm1 _ hs1
    obtain rfl:fp = []:=hs1
    exact colHit_c (by rw [cell_of_block (hm1.blk (b:=bx) (by exact .here))];rfl) (h.keeps hm1.keeps) hby hfew (hG.keeps hm1.keeps)
  intro v _
  dsimp only [id_eq,List.cons_append,List.nil_append]
  (refine a_s rfl rfl ?_;refine n_r ?_;refine m_v rfl rfl ?_)
  with_reducible apply tr_call
  case hr=>exact rk_call (.of rfl) (.cons (.of rfl) (.cons (.of rfl) .nil)) inferInstance normc_
  case hd=>rfl
  case ht=>exact Takes.nil
  case hc=>
    intro w1 fp hm1 _ hs1
    obtain rfl:fp = []:=hs1
    exact mapHS_c (hts_rd (v:=v) hm1 (by exact .here) rfl) (by omega)
  intro v1 _
  dsimp only [id_eq,List.cons_append,List.nil_append]
  refine m_v rfl rfl ?_
  with_reducible apply tr_call
  case hr=>exact rk_call (.of rfl) (.cons (.of rfl) (.cons (.of rfl) .nil)) inferInstance normc_
  case hd=>rfl
  case ht=>exact Takes.nil
  case hc=>
    intro w1 fp hm1 _ hs1
    obtain rfl:fp = []:=hs1
    exact mapHN_c (hts_rd (v:=v) hm1 (by exact Take.there .here) rfl) (by omega)
  intro v2 _
  dsimp only [id_eq,List.cons_append,List.nil_append]
  (refine a_s rfl rfl ?_;refine a_s rfl rfl ?_;refine a_s rfl rfl ?_;refine n_t ?_;refine tr_ret ?_)
  first | with_reducible apply tr_retM | with_reducible apply tr_endM
  case he=>exact ends3 rfl rfl rfl rfl
  case hR=>
    intro w' hm'
    exact gives_end (v1,v2) trivial (show Takes _ [row 86 7 v1 (hitL l 0).length (hsV (hitL l 0)),row 3 1 v2 (hitL l 0).length (hnV (hitL l 0))] _ by exact .cons (.there .here) (.cons .here .nil)) hm' rfl
end Go.Proofs.A1
namespace Go.Proofs.A1
open Go Go.SL
end Go.Proofs.A1
namespace Go.Proofs.A1
open Go Go.SL
theorem ck {b o n:Nat} {rp:List Int} {w:World} (hc:∀ i r,(intg rp)[i]? = some r → r.length = 1 ∧ ∀ j u,r[j]? = some u → w.cell? ⟨b,o + i * 1 + j,none⟩ = some u) (hl:n < rp.length):w.cell? ⟨b,o + n * 1,none⟩ = some (.int .i64 rp[n]):=(hc n _ (intg_get hl)).2 0 _ rfl
end Go.Proofs.A1
namespace Go.Proofs.A1
open Go Go.SL
end Go.Proofs.A1
namespace Go.Proofs.A1
open Go Go.SL
end Go.Proofs.A1
namespace Go.Proofs.A1
open Go Go.SL
end Go.Proofs.A1
namespace Go.Proofs.A1
open Go Go.SL
end Go.Proofs.A1
namespace Go.Proofs.A1
open Go Go.SL
end Go.Proofs.A1
namespace Go.Proofs.A1
open Go Go.SL Go.Shelf Go.RowKit
instance :Inhabited Cp:=⟨Cp.zero⟩
end Go.Proofs.A1
namespace Go.SL
open Go
section
variable {P:Program} {r:Option Nat} {c:Cx} {D:List Nat} {sl:Slots} {hs hs' hs2:List Asn} {Q:Exit → Act → World → Prop} {ops:Array Oper} {d:Nat} {dst:Option Tmp} {ty:TypeId} {pos:String} {af:Array Edge} {g:Option (Nat × Bool)} {rest:List Oper} {κ:Type} [DecidableEq κ] {kv:κ → Value}
end
end Go.SL
namespace Go.Proofs.A1
open Go Go.SL
def keysM (m:List (Int × Value)):List Int:=m.map (·.1)
theorem aset_mem (k:Int) (v:Value):∀ (m:List (Int × Value)) (x:Int),x ∈ keysM (aset k v m) ↔ x = k ∨ x ∈ keysM m
  | [],x=>by simp [aset,keysM]
  | (y, u) :: r, x => by
    have ih:=aset_mem k v r x
    unfold aset
    by_cases h:k = y
    · rw [if_pos h]
      subst h
      simp [keysM]
    · rw [if_neg h]
      simp only [keysM,List.map_cons,List.mem_cons] at ih ⊢
      rw [ih]
      constructor
      · rintro (h | h | h)
        · exact .inr (.inl h)
        · exact .inl h
        · exact .inr (.inr h)
      · rintro (h | h | h)
        · exact .inr (.inl h)
        · exact .inl h
        · exact .inr (.inr h)
theorem aset_nodup (k:Int) (v:Value):∀ (m:List (Int × Value)),(keysM m).Nodup → (keysM (aset k v m)).Nodup
  | [],_=>by simp [aset,keysM]
  | (y, u) :: r, h => by
    unfold aset
    by_cases e:k = y
    · rw [if_pos e];exact h
    · rw [if_neg e]
      simp only [keysM,List.map_cons,List.nodup_cons] at h ⊢
      refine ⟨fun hm=>?_,aset_nodup k v r h.2⟩
      rcases (aset_mem k v r y).1 hm with h1 | h1
      · exact e h1.symm
      · exact h.1 h1
structure EndM (l:List Cp) (j:Nat) (m:List (Int × Value)):Prop where
  nd:(keysM m).Nodup
  mem:∀ x,x ∈ keysM m ↔ endB (l.take j) x = true
theorem EndM.zero (l:List Cp):EndM l 0 []:=⟨by simp [keysM],fun x=>by simp [keysM,endB]⟩
theorem endB_next {l:List Cp} {j:Nat} (hj:j < l.length) (x:Int):endB (l.take (j + 1)) x = (endB (l.take j) x || (decide ((l[j]).fr = x) || decide ((l[j]).to = x))):=by
  unfold endB;rw [List.take_succ_eq_append_getElem hj,List.any_append];simp
theorem EndM.next {l:List Cp} {j:Nat} {m:List (Int × Value)} (h:EndM l j m) (hj:j < l.length) {a b:Int} (u v:Value) (hab:(a = (l[j]).fr ∧ b = (l[j]).to) ∨ (a = (l[j]).to ∧ b = (l[j]).fr)):EndM l (j + 1) (aset b v (aset a u m)):=by
  refine ⟨aset_nodup _ _ _ (aset_nodup _ _ _ h.nd),fun x=>?_⟩
  rw [aset_mem,aset_mem,h.mem,endB_next hj]
  simp only [Bool.or_eq_true,decide_eq_true_eq]
  rcases hab with ⟨rfl,rfl⟩ | ⟨rfl,rfl⟩
  · constructor
    · rintro (h | h | h)
      · exact .inr (.inr h.symm)
      · exact .inr (.inl h.symm)
      · exact .inl h
    · rintro (h | h | h)
      · exact .inr (.inr h)
      · exact .inr (.inl h.symm)
      · exact .inl h.symm
  · constructor
    · rintro (h | h | h)
      · exact .inr (.inl h.symm)
      · exact .inr (.inr h.symm)
      · exact .inl h
    · rintro (h | h | h)
      · exact .inr (.inr h)
      · exact .inl h.symm
      · exact .inr (.inl h.symm)
theorem endB_perm {l l':List Cp} (h:List.Perm l' l) (x:Int):endB l' x = endB l x:=by
  unfold endB
  rw [Bool.eq_iff_iff,List.any_eq_true,List.any_eq_true]
  constructor
  · rintro ⟨y,hy,h2⟩;exact ⟨y,h.mem_iff.1 hy,h2⟩
  · rintro ⟨y,hy,h2⟩;exact ⟨y,h.mem_iff.2 hy,h2⟩
structure FndM (l:List Cp) (es:Array MapEntry) (seen:Array Nat) (out:List Int):Prop where
  nd:out.Nodup
  mem:∀ x,x ∈ out ↔ (∃ e ∈ es.toList,seen.contains e.born = true ∧ e.key = .int .i64 x) ∧ chB l x = true
theorem FndM.zero (l:List Cp) (es:Array MapEntry):FndM l es #[] []:=⟨by simp,fun x=>by simp⟩
theorem ent_keys {m:List (Int × Value)} {es:Array MapEntry} {ck:Nat} (h:mpOk (fun n:Int=>Value.int .i64 n) m es ck):es.toList.map (·.key) = (keysM m).map (Value.int .i64):=by
  have:=congrArg (List.map (·.1)) h.eq
  rw [List.map_map,List.map_map] at this
  unfold keysM
  rw [List.map_map]
  exact this
theorem ent_int {m:List (Int × Value)} {es:Array MapEntry} {ck:Nat} (h:mpOk (fun n:Int=>Value.int .i64 n) m es ck) {e:MapEntry} (he:e ∈ es.toList):∃ x ∈ keysM m,e.key = .int .i64 x:=by
  have:e.key ∈ es.toList.map (·.key):=List.mem_map_of_mem he
  rw [ent_keys h] at this
  obtain ⟨x,hx,e⟩:=List.mem_map.1 this
  exact ⟨x,hx,e.symm⟩
theorem nodup_idx {α:Type}:∀ {l:List α} {i j:Nat} (hi:i < l.length) (hj:j < l.length),l.Nodup → l[i] = l[j] → i = j
  | [],i,_,hi,_,_,_=>absurd hi (by simp)
  | a :: l, i, j, hi, hj, hn, he => by
    rw [List.nodup_cons] at hn
    match i,j with
    | 0,0=>rfl
    | 0, j + 1 =>
      have e:a = l[j]'(by simpa using hj):=by simpa using he
      exact absurd (by rw [e];exact List.getElem_mem _) hn.1
    | i + 1, 0 =>
      have e:l[i]'(by simpa using hi) = a:=by simpa using he
      exact absurd (by rw [← e];exact List.getElem_mem _) hn.1
    | i + 1,j + 1=>exact congrArg (· + 1) (nodup_idx (l:=l) (by simpa using hi) (by simpa using hj) hn.2 (by simpa using he))
theorem ent_same {m:List (Int × Value)} {es:Array MapEntry} {ck:Nat} (h:mpOk (fun n:Int=>Value.int .i64 n) m es ck) (hn:(keysM m).Nodup) {e e':MapEntry} (he:e ∈ es.toList) (he':e' ∈ es.toList) (hk:e.key = e'.key):e = e':=by
  obtain ⟨i,hi,rfl⟩:=List.getElem_of_mem he
  obtain ⟨j,hj,rfl⟩:=List.getElem_of_mem he'
  have hL:=ent_keys h
  have hn2:(es.toList.map (·.key)).Nodup:=by
    rw [hL,List.Nodup,List.pairwise_map]
    exact hn.imp fun h e=>h (by simpa using e)
  have:i = j:=nodup_idx (l:=es.toList.map (·.key)) (by simpa using hi) (by simpa using hj) hn2 (by simpa using hk)
  subst this;rfl
theorem push_has {a:Array Nat} {x y:Nat}:(a.push x).contains y = true ↔ a.contains y = true ∨ y = x:=by
  simp [Array.contains_iff_mem,Array.mem_push]
theorem FndM.next {l:List Cp} {m:List (Int × Value)} {es:Array MapEntry} {ck:Nat} {seen:Array Nat} {out:List Int} (h:FndM l es seen out) (hm:mpOk (fun n:Int=>Value.int .i64 n) m es ck) (hn:(keysM m).Nodup) {e:MapEntry} (he:e ∈ es.toList) (hs:seen.contains e.born = false) {x:Int} (hx:e.key = .int .i64 x) :
    FndM l es (seen.push e.born) (out++if chB l x then [x] else []):=by
  have hnew:x ∉ out:=fun hx2=>by
    obtain ⟨⟨e',he',hs',hk'⟩,_⟩:=(h.mem x).1 hx2
    have:=ent_same hm hn he he' (hx.trans hk'.symm)
    subst this
    rw [hs'] at hs;cases hs
  refine ⟨?_,fun y=>?_⟩
  · cases hc:chB l x with
    | true =>
      rw [if_pos rfl,List.nodup_append]
      refine ⟨h.nd,by simp,fun a ha b hb=>?_⟩
      rw [List.mem_singleton] at hb
      subst hb
      rintro rfl
      exact hnew ha
    | false=>simpa using h.nd
  · rw [List.mem_append,h.mem]
    constructor
    · rintro (⟨⟨e',he',hs',hk'⟩,hc⟩ | hy)
      · exact ⟨⟨e',he',push_has.2 (.inl hs'),hk'⟩,hc⟩
      · cases hc:chB l x with
        | true =>
          rw [hc,if_pos rfl,List.mem_singleton] at hy
          subst hy
          exact ⟨⟨e,he,push_has.2 (.inr rfl),hx⟩,hc⟩
        | false=>rw [hc] at hy;simp at hy
    · rintro ⟨⟨e',he',hs',hk'⟩,hc⟩
      rcases push_has.1 hs' with h1 | h1
      · exact .inl ⟨⟨e',he',h1,hk'⟩,hc⟩
      · refine .inr ?_
        have hb:e' = e:=by
          have hnd:=hm.nd
          obtain ⟨i,hi,rfl⟩:=List.getElem_of_mem he
          obtain ⟨j,hj,rfl⟩:=List.getElem_of_mem he'
          have:j = i:=nodup_idx (l:=es.toList.map (·.born)) (by simpa using hj) (by simpa using hi) hnd (by simpa using h1)
          subst this;rfl
        subst hb
        have:y = x:=by rw [hx] at hk';cases hk';rfl
        subst this
        rw [hc,if_pos rfl];simp
theorem FndM.all {l l':List Cp} {m:List (Int × Value)} {es:Array MapEntry} {ck:Nat} {seen:Array Nat} {out:List Int} (h:FndM l es seen out) (hm:mpOk (fun n:Int=>Value.int .i64 n) m es ck) (hE:EndM l' l'.length m) (hp:List.Perm l' l) (hall:∀ e ∈ es.toList,seen.contains e.born = true):∀ x,x ∈ out ↔ endB l x = true ∧ chB l x = true:=by
  intro x
  rw [h.mem]
  have hk:endB l x = true ↔ x ∈ keysM m:=by rw [hE.mem,List.take_length,endB_perm hp]
  rw [hk]
  constructor
  · rintro ⟨⟨e,he,_,hk⟩,hc⟩
    obtain ⟨y,hy,hye⟩:=ent_int hm he
    rw [hk] at hye
    cases hye
    exact ⟨hy,hc⟩
  · rintro ⟨hx,hc⟩
    have:Value.int .i64 x ∈ es.toList.map (·.key):=by rw [ent_keys hm];exact List.mem_map_of_mem hx
    obtain ⟨e,he,hke⟩:=List.mem_map.1 this
    exact ⟨⟨e,he,hall e he,hke⟩,hc⟩
end Go.Proofs.A1
namespace Go.Proofs.A1
open Go Go.SL
theorem tr_rowLitE {c:Cx} {D:List Nat} {sl:Slots} {hs hs':List Asn} {X:Act → World → Prop} {E:TypeId} {g:Nat} {xs ys:List Value} (n sz:Nat) (ht:Take hs (blk g (.cells xs.toArray E (0,0))) hs') (he:xs = ys) (hl:ys.length = n * sz) (hn:Nat.ble n 1000 = true)
    (k:Tr c D sl (row E sz (.slice (some ⟨g,0,none⟩) n n) n ys :: hs') X):Tr c D sl hs X:=by
  subst he
  exact tr_rowShut (n:=n) (cap:=n) (cur:=[]) (by rw [List.append_nil];exact ht) (Nat.le_refl _) (by unfold maxLen;have:=Nat.le_of_ble_eq_true hn;omega) (by rw [List.append_nil,hl]) hl k
end Go.Proofs.A1
namespace Go.Proofs.A1
open Go Go.SL
end Go.Proofs.A1
namespace Go.Proofs.A1
open Go Go.SL
def Tab10 (w:World):Prop:=Lib.TabIs Tryd.prog w "internal/strconv.uint64pow10" .u64 Lib.pow10Tab
theorem Tab10.keeps {w w':World} (h:Tab10 w) (hk:Keeps [] w w'):Tab10 w':=Lib.tabBelow_of_tabIs h w' hk.below
theorem ind0 {α:Type} {l:List Oper} {i:Nat} {v:α}:Indep l i (fun _=>v):=fun _ _ _=>rfl
end Go.Proofs.A1
namespace Go.Proofs.A1
open Go Go.SL
end Go.Proofs.A1
namespace Go.Proofs.A1
open Go Go.SL Go.ChangeShapes Go.WideShapes Go.Deep Go.Joins
section
variable {H:Type} {enc:TypeId × Value → H} {w:World}
theorem laidOut:laidOutB Tryd.prog = true:=by kernel_rfl
theorem ownK:ownKnob Tryd.prog.godebug = none:=by kernel_rfl
theorem add_none {b o n:Nat}:Addr.add ⟨b,o,none⟩ n = ⟨b,o + n,none⟩:=addr_add b o n
theorem staysT {T:TypeId} (hrec:Tryd.prog.readableRec T = true) (hrow:T < Tryd.prog.types.size) {W W':World} {sp':Nat → Bool} {n:Nat} {cs:List Value} {x:DataW H × List MemPlace} (h:DataW.trod enc Tryd.prog W 0 (fun _=>true) true n T cs = some x)
    (hsame:∀ p ∈ x.2,W.sameAt W' p) (hs:∀ p ∈ x.2,sp' p.block = true):DataW.trod enc Tryd.prog W' 0 sp' true n T cs = some x:=
  DataW.trod_stays (kids_book laidOut hrec) (book_sized hrec) (fun h=>by cases h) ⟨hrow,book_self T⟩ h hsame hs
theorem open_rows {α:Type} [Inhabited α] {T E:TypeId} {sz:Nat} {cells:α → List Value} (hu:Tryd.prog.underlying T = some (.slice E)) (hsz:Tryd.prog.cellsOf E = sz) (h0:0 < sz) (hlen:∀ a,(cells a).length = sz)
    (hE:∀ (n:Nat) (cs:List Value) (x:DataW H × List MemPlace),DataW.trod enc Tryd.prog w 0 (fun _=>true) true n E cs = some x → ∃ e:α,cs = cells e)
    {n:Nat} {v:Value} {y:DataW H × List MemPlace} (h:DataW.trod enc Tryd.prog w 0 (fun _=>true) true n T [v] = some y):∃ l:List α,Rd w v sz (l.map cells):=by
  rcases open_slice hu h with ⟨e,_⟩ | ⟨a,len,cap,m,n',D,Pl,hcs,_,hl,hm,hmm,_,hi⟩
  · simp only [List.cons.injEq,and_true] at e
    subst e
    exact ⟨[],Rd.nil w sz⟩
  · simp only [List.cons.injEq,and_true] at hcs
    subst hcs
    rw [hsz] at hi
    have hmc:m = cap:=by simpa using hmm
    have hE:∀ i,i < len → ∃ e:α,∀ j,j < sz → w.cell? (a.add (i * sz + j)) = (cells e)[j]?:=fun i hil=>by
      obtain ⟨cs',hc,ht⟩:=hi i (by omega)
      obtain ⟨_,hcl,hat⟩:=World.cells?_some hc
      obtain ⟨e,rfl⟩:=hE _ _ _ ht
      exact ⟨e,fun j hj=>by rw [← Go.Deep.add_add];exact hat j hj⟩
    let S:Nat → α:=fun i=>if hil:i < len then (hE i hil).choose else default
    have hS:∀ i j,i < len → j < sz → w.cell? (a.add (i * sz + j)) = (cells (S i))[j]?:=fun i j hil hj=>by
      have:=(hE i hil).choose_spec j hj
      simpa only [S,dif_pos hil] using this
    have hlenE:(((List.range len).map S).map cells).length = len:=by simp
    refine ⟨(List.range len).map S,?_⟩
    by_cases hz:len = 0
    · subst hz
      exact ⟨some a,cap,0,0,by rw [hlenE],by rw [hlenE];omega,hm,fun hne=>absurd (List.length_eq_zero_iff.1 hlenE) hne,fun i r hr=>by
        have:=(List.getElem?_eq_some_iff.1 hr).1
        rw [hlenE] at this;omega⟩
    · obtain ⟨b,off,spot⟩:=a
      have hspot:spot = none:=by
        have h1:=hS 0 0 (by omega) h0
        rw [List.getElem?_eq_getElem (by rw [hlen];exact h0)] at h1
        simpa [Addr.add] using World.cell?_spot h1
      subst hspot
      refine ⟨some ⟨b,off,none⟩,cap,b,off,by rw [hlenE],by rw [hlenE];exact hl,hm,fun _=>rfl,fun i r hr=>?_⟩
      have hil:i < len:=by
        have:=(List.getElem?_eq_some_iff.1 hr).1
        rwa [hlenE] at this
      have hr':r = cells (S i):=by
        simp [hil] at hr;exact hr.symm
      subst hr'
      refine ⟨hlen _,fun j u hu=>?_⟩
      have hj:j < sz:=by
        have:=(List.getElem?_eq_some_iff.1 hu).1
        rwa [hlen] at this
      have:=hS i j hil hj
      rw [add_none,hu] at this
      rw [Nat.add_assoc];exact this
theorem list1 {α:Type}:∀ {l:List α},l.length = 1 → ∃ a0,l = [a0]
  | [a0],_=>⟨a0,rfl⟩
theorem list2 {α:Type}:∀ {l:List α},l.length = 2 → ∃ a0 a1,l = [a0,a1]
  | [a0,a1],_=>⟨a0,a1,rfl⟩
theorem list6 {α:Type}:∀ {l:List α},l.length = 6 → ∃ a0 a1 a2 a3 a4 a5,l = [a0,a1,a2,a3,a4,a5]
  | [a0,a1,a2,a3,a4,a5],_=>⟨a0,a1,a2,a3,a4,a5,rfl⟩
theorem c3:Tryd.prog.cellsOf 3 = 1:=by kernel_rfl
theorem c9:Tryd.prog.cellsOf 9 = 1:=by kernel_rfl
theorem wf_u32 {n:Int} (h:(Lit.int .u32 n).wf = true):0 ≤ n ∧ n ≤ 4294967295:=by
  simpa [Lit.wf,IntKind.min,IntKind.max,IntKind.signed,IntKind.bits] using h
theorem okWide_arrayT {P:Program} {w:World} {r:Reach} {base:Nat} {t:TypeId} {v:Value} {n:Nat} {e:TypeId} (ht:P.underlying t = some (.array n e)) (h:Value.okWide P w r base t v):∃ cs,v = .agg cs ∧ cs.size = P.cellsOf t:=by
  simp only [Value.okWide,ht] at h
  obtain ⟨cs,h1,h2,_⟩:=h
  exact ⟨cs,h1,h2⟩
end
theorem globs_of {W:World} {H:Type} {enc:TypeId × Value → H} {f3:Nat} {cs3:Array Value} {p3:List MemPlace} {s3:Nat → Bool} (hv3:W.var? Tryd.prog "genlock/code.rates" = some cs3) (hd3:DataW.trod enc Tryd.prog W 0 s3 false f3 172 cs3.toList = some (.agg [.lit (.int .i64 24),.lit (.int .i64 25),.lit (.int .i64 30)],p3)):GlobR W:=by
  have hg3:Tryd.prog.globalNamed "genlock/code.rates" = some 0:=by kernel_rfl
  obtain ⟨xs,m,_,ex,_,hl,hel⟩:=DataW.trod_array Tryd.underlying172 hd3
  have e3:(xs.map (·.1)) = [.lit (.int .i64 24),.lit (.int .i64 25),.lit (.int .i64 30)]:=(DataW.agg.inj (Prod.mk.inj ex).1).symm
  have key:∀ (i:Nat) (z:Int),i < 3 → (xs.map (·.1))[i]? = some (.lit (.int .i64 z)) → W.cell? ⟨0,i,none⟩ = some (.int .i64 z):=fun i z hi h1=>by
    have hE:=hel i hi
    rw [c3,Nat.mul_one,List.getElem?_eq_getElem (by omega)] at hE
    obtain ⟨y,e1,e2,_⟩:=DataW.trod_int Tryd.underlying3 hE
    rw [List.getElem?_map,List.getElem?_eq_getElem (by omega:i < xs.length),e2] at h1
    simp only [Option.map_some,Option.some.injEq,DataW.lit.injEq,Lit.int.injEq,true_and] at h1
    subst h1
    rw [World.var?_cell hg3 hv3 i]
    have:cs3.toList[i]? = some (.int .i64 y):=by
      have h0:((cs3.toList.drop i).take 1)[0]? = some (.int .i64 y):=by rw [e1];rfl
      simpa using h0
    simpa using this
  exact ⟨key 0 24 (by omega) (by rw [e3];rfl),key 1 25 (by omega) (by rw [e3];rfl),key 2 30 (by omega) (by rw [e3];rfl)⟩
end Go.Proofs.A1
namespace Go.Proofs.YthhidjfahmcekaaDoor
open Go Go.SL Go.Proofs.A1 Go.ChangeShapes Go.WideShapes Go.ChangeAt Go.RowKit Go.Joins
section
variable {H:Type} {enc:TypeId × Value → H} {P:Program}
theorem post_of_below {f:Func} {s:ChangeSpec} {apart fresh handsOn again:Bool} {W W':World} {args:Array Value} {v:Value} {ds gs:List (DataW H)} {before pa pv:List MemPlace}
    (hW:DataW.Whole enc P f.params.toList s.vars apart W args.toList ds gs before)
    (hres:∀ (b:Nat) (sp:Nat → Bool) (hd:Bool),DataW.TrodAll enc P W' b sp hd f.resultTypes.toList (v.resultList f.resultTypes.size) (s.fn H (ds++gs)).results [])
    (hargs:∀ sp:Nat → Bool,(∀ p ∈ before,sp p.block = true) → DataW.TrodAll enc P W' 0 sp true f.params.toList args.toList (s.fn H (ds++gs)).args pa)
    (hvars:∀ sp:Nat → Bool,(∀ p ∈ before,sp p.block = true) → DataW.TrodVars enc P W' sp s.vars (s.fn H (ds++gs)).vars pv)
    (hps:before = pa++pv) (hb:Below W.heap.size W W')
    (hok:∀ (j:Nat) (t:TypeId) (r:Value),f.resultTypes[j]? = some t → (v.resultList f.resultTypes.size)[j]? = some r → Value.okWide P W' .any 0 t r) :
    s.post enc P f apart fresh handsOn again W args v W':=by
  have hlt:∀ p ∈ before,p.block < W.heap.size:=fun p hp=>hW.lt p hp
  have hold:∀ p ∈ before,(fun b=>decide (b < W.heap.size)) p.block = true:=fun p hp=>by simpa using hlt p hp
  refine ⟨ds,gs,before,[],pa,pv,hW,hres _ _ _,hargs _ hold,hvars _ hold,World.keptBut_mono (fun p hp=>⟨hp,?_⟩) (hb.frame (· ∈ before)),fun _=>?_⟩
  · rw [hps,List.mem_append] at hp
    exact Or.inr hp
  · obtain ⟨_,_,_,_,_,hz,hn⟩:=hW
    refine ⟨hok,_,_,([]++pa)++pv,⟨[]++pa,pv,trodAll_append (hargs _ (fun _ _=>rfl)) (hres _ _ _),hvars _ (fun _ _=>rfl),rfl,?_,?_⟩,?_⟩
    · intro b off hp
      have hin:MemPlace.cell b off ∈ before:=by rw [hps];simpa using hp
      rw [hb.frozen (hlt _ hin)]
      exact hz b off hin
    · intro ha
      have:=hn ha
      rw [hps] at this
      simpa using this
    · intro p hp _
      rw [hps]
      simpa using hp
end
end Go.Proofs.YthhidjfahmcekaaDoor
namespace Go.Proofs.A1
open Go Go.SL
theorem rateF_if (r:Rt):rateF r = if (r.fr ≠ 24 ∧ r.fr ≠ 25) ∧ r.fr ≠ 30 then 13 else if r.dr = true ∧ r.fr ≠ 30 then 24 else 0:=by
  unfold rateF
  by_cases a:r.fr = 24 <;> by_cases b:r.fr = 25 <;> by_cases c:r.fr = 30 <;> cases d:r.dr <;> simp [a,b,c,d,whenF,firstF]
theorem rateQ_c (r:Rt) (w:World):GivesV Tryd.prog 16 [.agg r.cells.toArray] w (.int .i64 (rateF r)):=by
  have he:=rateF_if r
  unfold Rt.cells
  refine givesV_of_tr Tryd.func16 rfl rfl ?_
  (refine s_r ?_;refine tr_new (rk_box (.of rfl) rfl) rfl (fun _ _=>?_);refine a_s rfl rfl ?_;refine n_t ?_;refine tr_seq ?_;refine s_r ?_;refine f_a rfl rfl norm0_ ?_;refine tr_val (rk_load1 (.of rfl) (At.lit .here rfl)) rfl ?_;refine tr_val (rk_neq (.of rfl) (.of rfl)) rfl ?_;refine m_v rfl rfl ?_;refine tr_vG1 rfl rfl inferInstance (fun hg hgp=>(rk_fieldAddr (.of rfl) norm0_)) rfl ?_;refine tr_vG1 rfl rfl inferInstance (fun hg hgp=>(rk_load1 (.ofg hg rfl) (At.lit .here rfl))) rfl ?_;refine tr_vG1 rfl rfl inferInstance (fun hg hgp=>(rk_neq (.ofg hg rfl) (.of rfl))) rfl ?_;refine tr_val (rk_pick_and (.of rfl) rfl) rfl ?_;refine m_v rfl rfl ?_;refine tr_vG1 rfl rfl inferInstance (fun hg hgp=>(rk_fieldAddr (.of rfl) norm0_)) rfl ?_;refine tr_vG1 rfl rfl inferInstance (fun hg hgp=>(rk_load1 (.ofg hg rfl) (At.lit .here rfl))) rfl ?_;refine tr_vG1 rfl rfl inferInstance (fun hg hgp=>(rk_neq (.ofg hg rfl) (.of rfl))) rfl ?_;refine tr_val (rk_pick_and (.of rfl) rfl) rfl ?_;refine n_t ?_;refine c_b rfl (fun hcd=>?_) (fun hcd=>?_);refine s_r ?_;refine a_s rfl rfl ?_;refine n_t ?_;refine r_t ?_;refine tr_retE rfl (ends1 rfl rfl) ?_;rotate_left;refine s_t ?_;refine tr_seq ?_;refine s_r ?_;refine f_a rfl rfl norm0_ ?_;refine tr_val (rk_load1 (.of rfl) (At.lit .here rfl)) rfl ?_;refine m_v rfl rfl ?_;refine tr_vG1 rfl rfl inferInstance (fun hg hgp=>(rk_fieldAddr (.of rfl) norm0_)) rfl ?_;refine tr_vG1 rfl rfl inferInstance (fun hg hgp=>(rk_load1 (.ofg hg rfl) (At.lit .here rfl))) rfl ?_;refine tr_vG1 rfl rfl inferInstance (fun hg hgp=>(rk_neq (.ofg hg rfl) (.of rfl))) rfl ?_;refine tr_val (rk_pick_and (.of rfl) rfl) rfl ?_;refine n_t ?_;refine c_b rfl (fun hcd=>?_) (fun hcd=>?_);refine s_r ?_;refine a_s rfl rfl ?_;refine n_t ?_;refine r_t ?_;refine tr_retE rfl (ends1 rfl rfl) ?_;rotate_left;refine s_t ?_;refine s_r ?_;refine a_s rfl rfl ?_;refine n_t ?_;refine tr_ret ?_;refine tr_retE rfl (ends1 rfl rfl) ?_;rotate_right;rotate_right)
  · rw [he,if_pos hcd]
  · rename_i h1 _
    rw [he,if_neg (by omega),if_pos hcd]
  · rename_i h1 _
    rw [he,if_neg (by omega),if_neg (by rintro ⟨a,b⟩;rcases hcd with h | h;(rw [a] at h;cases h);exact h b)]
end Go.Proofs.A1
namespace Go.Proofs.A1
open Go Go.SL
end Go.Proofs.A1
namespace Go.Proofs.A1
open Go Go.SL
section
variable {P:Program} {c:Cx} {sl:Slots} {hs:List Asn} {dst:Option Tmp} {ty:TypeId} {pos:String} {af:Array Edge} {g:Option (Nat × Bool)}
end
end Go.Proofs.A1
namespace Go.Proofs.A1
open Go Go.SL
end Go.Proofs.A1
namespace Go.Proofs.A1
open Go Go.SL
end Go.Proofs.A1
namespace Go.Proofs.A1
open Go Go.SL
end Go.Proofs.A1
namespace Go.Proofs.A1
open Go Go.SL
end Go.Proofs.A1
