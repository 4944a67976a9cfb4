/- Parts of the proof: U4D. -/
import Derived.Test.YthhidjfahmcekaaGreatDoorQM19
import Derived.Test.YthhidjfahmcekaaGreatDoorQM05
import Derived.Test.YthhidjfahmcekaaGreatDoorQM06
set_option linter.unusedSectionVars false
set_option linter.unusedVariables false
set_option linter.unusedSimpArgs false
namespace Go.Proofs.A1
open Go Go.SL
theorem intC_2 {l:List UInt8} (h:l.length = 2):intC l = (if digB l then digV l else 0) ∧ intB l = digB l:=by
  have h5:decide (l.length ≤ 5) = true:=by rw [decide_eq_true_eq];omega
  have hne:l ≠ []:=fun e=>by rw [e] at h;simp at h
  refine ⟨?_,?_⟩
  · unfold intC;rw [h5,Bool.and_true]
  · rw [intB_ne hne,h5,Bool.and_true]
theorem pair_c {b:Nat} {r:List UInt8} {wr:Bool} {w:World} {fp:List Nat} (hr:r.length ≤ 5000) (hn:fp.Nodup) (hs:Sats (hp w) [blk b (.cells #[.string (bsL r),.bool wr] 251)] fp) :
    Gives Tryz.prog 149 [.pointer (some ⟨b,0,none⟩)] w fp (fun _:Unit=>True) (fun _=>.int .i64 (pairS r wr).1) (fun _=>[blk b (.cells #[.string (bsL (pairS r wr).2.1),.bool (pairS r wr).2.2] 251)]):=by
  refine givesM_of_tr Tryz.func149 rfl rfl hn hs ?_
  have hsz:=bsL_size r
  by_cases h2:r.length < 2
  · have e:pairS r wr = (0,r,true):=by unfold pairS;rw [if_pos h2]
    rw [e]
    (refine s_r ?_;refine a_s rfl rfl ?_;refine n_t ?_;refine tr_seq ?_;refine s_r ?_;refine m_v rfl rfl ?_;refine tr_val (rk_nilCheck (.of rfl)) rfl ?_;refine f_a rfl rfl norm0_ ?_;refine tr_val (rk_load1 (.of rfl) (At.lit .here rfl)) rfl ?_;refine tr_val (rk_len_string (.of rfl)) rfl ?_;refine tr_val (rk_lss (.of rfl) (.of rfl)) rfl ?_;refine n_t ?_;refine c_d rfl (fun hcd=>?_) (fun _=>by omega);refine s_r ?_;refine m_v rfl rfl ?_;refine tr_val (rk_nilCheck (.of rfl)) rfl ?_;refine f_a rfl rfl norm0_ ?_;refine tr_store (.of rfl) (.of rfl) .here rfl rfl (okc_cons rfl okc_nil) (lenb rfl) norm_ ?_;refine n_r ?_;refine a_s rfl rfl ?_;refine n_t ?_;refine r_t ?_)
    first | with_reducible apply tr_retM | with_reducible apply tr_endM
    case he=>exact ends1 rfl rfl
    case hR=>
      intro w' hm'
      exact gives_end () trivial (show Takes _ [blk b (.cells #[.string (bsL r),.bool true] 251)] _ by exact .cons .here .nil) hm' rfl
  · have ht2:(r.take 2).length = 2:=by rw [List.length_take];omega
    obtain ⟨i1,i2⟩:=intC_2 ht2
    have hx1:toL ((bsL r).extract 0 (Int.toNat 2)) = r.take 2:=by
      rw [toL_extract,toL_bsL];rfl
    have hx2:(bsL r).extract (Int.toNat 2) (bsL r).size = bsL (r.drop 2):=toL_inj (by
      rw [toL_extract,toL_bsL,toL_bsL,hsz,show Int.toNat 2 = 2 from rfl,List.take_of_length_le (Nat.le_refl _)])
    have hx3:(bsL r).extract 2 (bsL r).size = bsL (r.drop 2):=hx2
    have hint:∀ w',GivesV Tryz.prog 200 [.string ((bsL r).extract 0 (Int.toNat 2))] w' (.tuple #[.int .i64 (if digB (r.take 2) then digV (r.take 2) else 0),.bool (digB (r.take 2))]):=fun w'=>by
      have:=integer_c ((bsL r).extract 0 (Int.toNat 2)) w'
      rwa [hx1,i1,i2] at this
    have e:pairS r wr = (if digB (r.take 2) then digV (r.take 2) else 0,r.drop 2,wr || !digB (r.take 2)):=by unfold pairS;rw [if_neg h2]
    rw [e]
    generalize (if digB (r.take 2) then digV (r.take 2) else 0) = N at *
    generalize digB (r.take 2) = B at *
    (refine s_r ?_;refine a_s rfl rfl ?_;refine n_t ?_;refine tr_seq ?_;refine s_r ?_;refine m_v rfl rfl ?_;refine tr_val (rk_nilCheck (.of rfl)) rfl ?_;refine f_a rfl rfl norm0_ ?_;refine tr_val (rk_load1 (.of rfl) (At.lit .here rfl)) rfl ?_;refine tr_val (rk_len_string (.of rfl)) rfl ?_;refine tr_val (rk_lss (.of rfl) (.of rfl)) rfl ?_;refine n_t ?_;refine c_d rfl (fun _=>by omega) (fun hcd=>?_);refine s_t ?_;refine s_r ?_;refine m_v rfl rfl ?_;refine tr_val (rk_nilCheck (.of rfl)) rfl ?_;refine f_a rfl rfl norm0_ ?_;refine tr_val (rk_load1 (.of rfl) (At.lit .here rfl)) rfl ?_;refine tr_val (rk_sliceS_h (.of rfl) (.of rfl) (by omega) (by omega)) rfl ?_;refine tr_callV (rk_call (.of rfl) (.cons (.of rfl) .nil) inferInstance normc_) rfl (fun w' hm'=>(hint w')) ?_;refine m_v rfl rfl ?_;refine tr_val (rk_extract (.of rfl) rfl) rfl ?_;refine tr_val (rk_extract (.of rfl) rfl) rfl ?_;refine a_s rfl rfl ?_;refine a_s rfl rfl ?_;refine n_t ?_;refine tr_seq ?_)
    cases wr with
    | true =>
      with_reducible refine tr_left 21 rfl ?_
      refine left_take 0 rfl kr_ kr_ kr_ (fun w ρ=>rfl) (fun w=>(rk_move (.of rfl))) rfl ?_
      refine left_take 1 rfl kr_ kr_ kr_ (fun w ρ=>rfl) (fun w=>(rk_move (.of rfl))) rfl ?_
      refine left_take 2 rfl kr_ kr_ kr_ (fun w ρ=>rfl) (fun w=>(rk_move (.of rfl))) rfl ?_
      refine left_take 7 rfl kr_ kr_ kr_ (fun w ρ=>rfl) (fun w=>(rk_move (.of rfl))) rfl ?_
      refine left_take 3 rfl kr_ kr_ kr_ (fun w ρ=>rfl) (fun w=>(rk_nilCheck (.of rfl))) rfl ?_
      refine left_take 8 rfl kr_ kr_ kr_ (fun w ρ=>rfl) (fun w=>(rk_nilCheck (.of rfl))) rfl ?_
      refine left_take 4 rfl kr_ kr_ kr_ (fun w ρ=>rfl) (fun w=>(rk_fieldAddr (.of rfl) norm0_)) rfl ?_
      refine left_take 9 rfl kr_ kr_ kr_ (fun w ρ=>rfl) (fun w=>(rk_fieldAddr (.of rfl) norm0_)) rfl ?_
      refine left_ready (rs:=[5,10]) (by kernel_rfl) (by simp) (List.forall_mem_cons.2 ⟨?_,List.forall_mem_cons.2 ⟨?_,fun _ h=>absurd h List.not_mem_nil⟩⟩)
      · refine next_step rfl ?_
        (refine tr_val (rk_load1 (.of rfl) (At.lit .here rfl)) rfl ?_;refine n_t ?_)
        refine left_take 6 rfl kr_ kr_ kr_ (fun w ρ=>rfl) (fun w=>(rk_sliceS_l (.of rfl) (.of rfl) (by omega) (by omega))) rfl ?_
        refine left_ready (rs:=[10]) (by kernel_rfl) (by simp) (List.forall_mem_cons.2 ⟨?_,fun _ h=>absurd h List.not_mem_nil⟩)
        refine next_step rfl ?_
        (refine tr_val (rk_load1 (.of rfl) (At.lit .here rfl)) rfl ?_;refine n_t ?_)
        refine left_take 11 rfl kr_ kr_ kr_ (fun w ρ=>rfl) (fun w=>(rk_move (.of rfl))) rfl ?_
        refine left_take 15 rfl kr_ kr_ kr_ (fun w ρ=>rfl) (fun w=>(rk_nilCheck (.of rfl))) rfl ?_
        refine left_take 16 rfl kr_ kr_ kr_ (fun w ρ=>rfl) (fun w=>(rk_fieldAddr (.of rfl) norm0_)) rfl ?_
        refine left_ready (rs:=[12,17]) (by kernel_rfl) (by simp) (List.forall_mem_cons.2 ⟨?_,List.forall_mem_cons.2 ⟨?_,fun _ h=>absurd h List.not_mem_nil⟩⟩)
        · refine next_step rfl ?_
          (refine v_g rfl rfl rfl rfl ?_;refine n_t ?_)
          refine left_ready (rs:=[13,17]) (by kernel_rfl) (by simp) (List.forall_mem_cons.2 ⟨?_,List.forall_mem_cons.2 ⟨?_,fun _ h=>absurd h List.not_mem_nil⟩⟩)
          · refine next_step rfl ?_
            (refine tr_vG1 rfl rfl inferInstance (fun hg hgp=>(rk_not (.ofg hg rfl))) rfl ?_;refine n_t ?_)
            refine left_ready (rs:=[14,17]) (by kernel_rfl) (by simp) (List.forall_mem_cons.2 ⟨?_,List.forall_mem_cons.2 ⟨?_,fun _ h=>absurd h List.not_mem_nil⟩⟩)
            · refine next_step rfl ?_
              (refine tr_val (rk_pick_or (.of rfl) rfl) rfl ?_;refine n_t ?_)
              refine left_ready (rs:=[17]) (by kernel_rfl) (by simp) (List.forall_mem_cons.2 ⟨?_,fun _ h=>absurd h List.not_mem_nil⟩)
              refine next_step rfl ?_
              (refine tr_store (.of rfl) (.of rfl) .here rfl rfl (okc_cons rfl okc_nil) (lenb rfl) norm_ ?_;refine n_t ?_)
              refine left_take 18 rfl kr_ kr_ kr_ (fun w ρ=>rfl) (fun w=>(rk_nilCheck (.of rfl))) rfl ?_
              refine left_take 19 rfl kr_ kr_ kr_ (fun w ρ=>rfl) (fun w=>(rk_fieldAddr (.of rfl) norm0_)) rfl ?_
              refine left_ready (rs:=[20]) (by kernel_rfl) (by simp) (List.forall_mem_cons.2 ⟨?_,fun _ h=>absurd h List.not_mem_nil⟩)
              refine next_step rfl ?_
              (refine tr_store (.of rfl) (.of rfl) .here rfl rfl (okc_cons rfl okc_nil) (lenb rfl) norm_ ?_;refine n_t ?_)
              with_reducible refine left_done (by kernel_rfl) ?_
              (refine tr_then ?_;refine s_r ?_;refine m_v rfl rfl ?_;refine a_s rfl rfl ?_;refine n_t ?_;refine tr_ret ?_)
              try rw [hx2]
              try rw [hx3]
              first | with_reducible apply tr_retM | with_reducible apply tr_endM
              case he=>exact ends1 rfl rfl
              case hR=>
                intro w' hm'
                exact gives_end () trivial (show Takes _ [blk b (.cells #[.string (bsL (r.drop 2)),.bool (true || !B)] 251)] _ by exact .cons .here .nil) hm' rfl
            · refine next_step rfl ?_
              (refine tr_store (.of rfl) (.of rfl) .here rfl rfl (okc_cons rfl okc_nil) (lenb rfl) norm_ ?_;refine n_t ?_)
              refine left_ready (rs:=[14]) (by kernel_rfl) (by simp) (List.forall_mem_cons.2 ⟨?_,fun _ h=>absurd h List.not_mem_nil⟩)
              refine next_step rfl ?_
              (refine tr_val (rk_pick_or (.of rfl) rfl) rfl ?_;refine n_t ?_)
              refine left_take 18 rfl kr_ kr_ kr_ (fun w ρ=>rfl) (fun w=>(rk_nilCheck (.of rfl))) rfl ?_
              refine left_take 19 rfl kr_ kr_ kr_ (fun w ρ=>rfl) (fun w=>(rk_fieldAddr (.of rfl) norm0_)) rfl ?_
              refine left_ready (rs:=[20]) (by kernel_rfl) (by simp) (List.forall_mem_cons.2 ⟨?_,fun _ h=>absurd h List.not_mem_nil⟩)
              refine next_step rfl ?_
              (refine tr_store (.of rfl) (.of rfl) .here rfl rfl (okc_cons rfl okc_nil) (lenb rfl) norm_ ?_;refine n_t ?_)
              with_reducible refine left_done (by kernel_rfl) ?_
              (refine tr_then ?_;refine s_r ?_;refine m_v rfl rfl ?_;refine a_s rfl rfl ?_;refine n_t ?_;refine tr_ret ?_)
              try rw [hx2]
              try rw [hx3]
              first | with_reducible apply tr_retM | with_reducible apply tr_endM
              case he=>exact ends1 rfl rfl
              case hR=>
                intro w' hm'
                exact gives_end () trivial (show Takes _ [blk b (.cells #[.string (bsL (r.drop 2)),.bool (true || !B)] 251)] _ by exact .cons .here .nil) hm' rfl
          · refine next_step rfl ?_
            (refine tr_store (.of rfl) (.of rfl) .here rfl rfl (okc_cons rfl okc_nil) (lenb rfl) norm_ ?_;refine n_t ?_)
            refine left_ready (rs:=[13]) (by kernel_rfl) (by simp) (List.forall_mem_cons.2 ⟨?_,fun _ h=>absurd h List.not_mem_nil⟩)
            refine next_step rfl ?_
            (refine tr_vG1 rfl rfl inferInstance (fun hg hgp=>(rk_not (.ofg hg rfl))) rfl ?_;refine n_t ?_)
            refine left_ready (rs:=[14]) (by kernel_rfl) (by simp) (List.forall_mem_cons.2 ⟨?_,fun _ h=>absurd h List.not_mem_nil⟩)
            refine next_step rfl ?_
            (refine tr_val (rk_pick_or (.of rfl) rfl) rfl ?_;refine n_t ?_)
            refine left_take 18 rfl kr_ kr_ kr_ (fun w ρ=>rfl) (fun w=>(rk_nilCheck (.of rfl))) rfl ?_
            refine left_take 19 rfl kr_ kr_ kr_ (fun w ρ=>rfl) (fun w=>(rk_fieldAddr (.of rfl) norm0_)) rfl ?_
            refine left_ready (rs:=[20]) (by kernel_rfl) (by simp) (List.forall_mem_cons.2 ⟨?_,fun _ h=>absurd h List.not_mem_nil⟩)
            refine next_step rfl ?_
            (refine tr_store (.of rfl) (.of rfl) .here rfl rfl (okc_cons rfl okc_nil) (lenb rfl) norm_ ?_;refine n_t ?_)
            with_reducible refine left_done (by kernel_rfl) ?_
            (refine tr_then ?_;refine s_r ?_;refine m_v rfl rfl ?_;refine a_s rfl rfl ?_;refine n_t ?_;refine tr_ret ?_)
            try rw [hx2]
            try rw [hx3]
            first | with_reducible apply tr_retM | with_reducible apply tr_endM
            case he=>exact ends1 rfl rfl
            case hR=>
              intro w' hm'
              exact gives_end () trivial (show Takes _ [blk b (.cells #[.string (bsL (r.drop 2)),.bool (true || !B)] 251)] _ by exact .cons .here .nil) hm' rfl
        · refine next_step rfl ?_
          (refine tr_store (.of rfl) (.of rfl) .here rfl rfl (okc_cons rfl okc_nil) (lenb rfl) norm_ ?_;refine n_t ?_)
          refine left_ready (rs:=[12]) (by kernel_rfl) (by simp) (List.forall_mem_cons.2 ⟨?_,fun _ h=>absurd h List.not_mem_nil⟩)
          refine next_step rfl ?_
          (refine v_g rfl rfl rfl rfl ?_;refine n_t ?_)
          refine left_ready (rs:=[13]) (by kernel_rfl) (by simp) (List.forall_mem_cons.2 ⟨?_,fun _ h=>absurd h List.not_mem_nil⟩)
          refine next_step rfl ?_
          (refine tr_vG1 rfl rfl inferInstance (fun hg hgp=>(rk_not (.ofg hg rfl))) rfl ?_;refine n_t ?_)
          refine left_ready (rs:=[14]) (by kernel_rfl) (by simp) (List.forall_mem_cons.2 ⟨?_,fun _ h=>absurd h List.not_mem_nil⟩)
          refine next_step rfl ?_
          (refine tr_val (rk_pick_or (.of rfl) rfl) rfl ?_;refine n_t ?_)
          refine left_take 18 rfl kr_ kr_ kr_ (fun w ρ=>rfl) (fun w=>(rk_nilCheck (.of rfl))) rfl ?_
          refine left_take 19 rfl kr_ kr_ kr_ (fun w ρ=>rfl) (fun w=>(rk_fieldAddr (.of rfl) norm0_)) rfl ?_
          refine left_ready (rs:=[20]) (by kernel_rfl) (by simp) (List.forall_mem_cons.2 ⟨?_,fun _ h=>absurd h List.not_mem_nil⟩)
          refine next_step rfl ?_
          (refine tr_store (.of rfl) (.of rfl) .here rfl rfl (okc_cons rfl okc_nil) (lenb rfl) norm_ ?_;refine n_t ?_)
          with_reducible refine left_done (by kernel_rfl) ?_
          (refine tr_then ?_;refine s_r ?_;refine m_v rfl rfl ?_;refine a_s rfl rfl ?_;refine n_t ?_;refine tr_ret ?_)
          try rw [hx2]
          try rw [hx3]
          first | with_reducible apply tr_retM | with_reducible apply tr_endM
          case he=>exact ends1 rfl rfl
          case hR=>
            intro w' hm'
            exact gives_end () trivial (show Takes _ [blk b (.cells #[.string (bsL (r.drop 2)),.bool (true || !B)] 251)] _ by exact .cons .here .nil) hm' rfl
      · refine next_step rfl ?_
        (refine tr_val (rk_load1 (.of rfl) (At.lit .here rfl)) rfl ?_;refine n_t ?_)
        refine left_take 11 rfl kr_ kr_ kr_ (fun w ρ=>rfl) (fun w=>(rk_move (.of rfl))) rfl ?_
        refine left_ready (rs:=[5,12]) (by kernel_rfl) (by simp) (List.forall_mem_cons.2 ⟨?_,List.forall_mem_cons.2 ⟨?_,fun _ h=>absurd h List.not_mem_nil⟩⟩)
        · refine next_step rfl ?_
          (refine tr_val (rk_load1 (.of rfl) (At.lit .here rfl)) rfl ?_;refine n_t ?_)
          refine left_take 6 rfl kr_ kr_ kr_ (fun w ρ=>rfl) (fun w=>(rk_sliceS_l (.of rfl) (.of rfl) (by omega) (by omega))) rfl ?_
          refine left_take 15 rfl kr_ kr_ kr_ (fun w ρ=>rfl) (fun w=>(rk_nilCheck (.of rfl))) rfl ?_
          refine left_take 16 rfl kr_ kr_ kr_ (fun w ρ=>rfl) (fun w=>(rk_fieldAddr (.of rfl) norm0_)) rfl ?_
          refine left_ready (rs:=[12,17]) (by kernel_rfl) (by simp) (List.forall_mem_cons.2 ⟨?_,List.forall_mem_cons.2 ⟨?_,fun _ h=>absurd h List.not_mem_nil⟩⟩)
          · refine next_step rfl ?_
            (refine v_g rfl rfl rfl rfl ?_;refine n_t ?_)
            refine left_ready (rs:=[13,17]) (by kernel_rfl) (by simp) (List.forall_mem_cons.2 ⟨?_,List.forall_mem_cons.2 ⟨?_,fun _ h=>absurd h List.not_mem_nil⟩⟩)
            · refine next_step rfl ?_
              (refine tr_vG1 rfl rfl inferInstance (fun hg hgp=>(rk_not (.ofg hg rfl))) rfl ?_;refine n_t ?_)
              refine left_ready (rs:=[14,17]) (by kernel_rfl) (by simp) (List.forall_mem_cons.2 ⟨?_,List.forall_mem_cons.2 ⟨?_,fun _ h=>absurd h List.not_mem_nil⟩⟩)
              · refine next_step rfl ?_
                (refine tr_val (rk_pick_or (.of rfl) rfl) rfl ?_;refine n_t ?_)
                refine left_ready (rs:=[17]) (by kernel_rfl) (by simp) (List.forall_mem_cons.2 ⟨?_,fun _ h=>absurd h List.not_mem_nil⟩)
                refine next_step rfl ?_
                (refine tr_store (.of rfl) (.of rfl) .here rfl rfl (okc_cons rfl okc_nil) (lenb rfl) norm_ ?_;refine n_t ?_)
                refine left_take 18 rfl kr_ kr_ kr_ (fun w ρ=>rfl) (fun w=>(rk_nilCheck (.of rfl))) rfl ?_
                refine left_take 19 rfl kr_ kr_ kr_ (fun w ρ=>rfl) (fun w=>(rk_fieldAddr (.of rfl) norm0_)) rfl ?_
                refine left_ready (rs:=[20]) (by kernel_rfl) (by simp) (List.forall_mem_cons.2 ⟨?_,fun _ h=>absurd h List.not_mem_nil⟩)
                refine next_step rfl ?_
                (refine tr_store (.of rfl) (.of rfl) .here rfl rfl (okc_cons rfl okc_nil) (lenb rfl) norm_ ?_;refine n_t ?_)
                with_reducible refine left_done (by kernel_rfl) ?_
                (refine tr_then ?_;refine s_r ?_;refine m_v rfl rfl ?_;refine a_s rfl rfl ?_;refine n_t ?_;refine tr_ret ?_)
                try rw [hx2]
                try rw [hx3]
                first | with_reducible apply tr_retM | with_reducible apply tr_endM
                case he=>exact ends1 rfl rfl
                case hR=>
                  intro w' hm'
                  exact gives_end () trivial (show Takes _ [blk b (.cells #[.string (bsL (r.drop 2)),.bool (true || !B)] 251)] _ by exact .cons .here .nil) hm' rfl
              · refine next_step rfl ?_
                (refine tr_store (.of rfl) (.of rfl) .here rfl rfl (okc_cons rfl okc_nil) (lenb rfl) norm_ ?_;refine n_t ?_)
                refine left_ready (rs:=[14]) (by kernel_rfl) (by simp) (List.forall_mem_cons.2 ⟨?_,fun _ h=>absurd h List.not_mem_nil⟩)
                refine next_step rfl ?_
                (refine tr_val (rk_pick_or (.of rfl) rfl) rfl ?_;refine n_t ?_)
                refine left_take 18 rfl kr_ kr_ kr_ (fun w ρ=>rfl) (fun w=>(rk_nilCheck (.of rfl))) rfl ?_
                refine left_take 19 rfl kr_ kr_ kr_ (fun w ρ=>rfl) (fun w=>(rk_fieldAddr (.of rfl) norm0_)) rfl ?_
                refine left_ready (rs:=[20]) (by kernel_rfl) (by simp) (List.forall_mem_cons.2 ⟨?_,fun _ h=>absurd h List.not_mem_nil⟩)
                refine next_step rfl ?_
                (refine tr_store (.of rfl) (.of rfl) .here rfl rfl (okc_cons rfl okc_nil) (lenb rfl) norm_ ?_;refine n_t ?_)
                with_reducible refine left_done (by kernel_rfl) ?_
                (refine tr_then ?_;refine s_r ?_;refine m_v rfl rfl ?_;refine a_s rfl rfl ?_;refine n_t ?_;refine tr_ret ?_)
                try rw [hx2]
                try rw [hx3]
                first | with_reducible apply tr_retM | with_reducible apply tr_endM
                case he=>exact ends1 rfl rfl
                case hR=>
                  intro w' hm'
                  exact gives_end () trivial (show Takes _ [blk b (.cells #[.string (bsL (r.drop 2)),.bool (true || !B)] 251)] _ by exact .cons .here .nil) hm' rfl
            · refine next_step rfl ?_
              (refine tr_store (.of rfl) (.of rfl) .here rfl rfl (okc_cons rfl okc_nil) (lenb rfl) norm_ ?_;refine n_t ?_)
              refine left_ready (rs:=[13]) (by kernel_rfl) (by simp) (List.forall_mem_cons.2 ⟨?_,fun _ h=>absurd h List.not_mem_nil⟩)
              refine next_step rfl ?_
              (refine tr_vG1 rfl rfl inferInstance (fun hg hgp=>(rk_not (.ofg hg rfl))) rfl ?_;refine n_t ?_)
              refine left_ready (rs:=[14]) (by kernel_rfl) (by simp) (List.forall_mem_cons.2 ⟨?_,fun _ h=>absurd h List.not_mem_nil⟩)
              refine next_step rfl ?_
              (refine tr_val (rk_pick_or (.of rfl) rfl) rfl ?_;refine n_t ?_)
              refine left_take 18 rfl kr_ kr_ kr_ (fun w ρ=>rfl) (fun w=>(rk_nilCheck (.of rfl))) rfl ?_
              refine left_take 19 rfl kr_ kr_ kr_ (fun w ρ=>rfl) (fun w=>(rk_fieldAddr (.of rfl) norm0_)) rfl ?_
              refine left_ready (rs:=[20]) (by kernel_rfl) (by simp) (List.forall_mem_cons.2 ⟨?_,fun _ h=>absurd h List.not_mem_nil⟩)
              refine next_step rfl ?_
              (refine tr_store (.of rfl) (.of rfl) .here rfl rfl (okc_cons rfl okc_nil) (lenb rfl) norm_ ?_;refine n_t ?_)
              with_reducible refine left_done (by kernel_rfl) ?_
              (refine tr_then ?_;refine s_r ?_;refine m_v rfl rfl ?_;refine a_s rfl rfl ?_;refine n_t ?_;refine tr_ret ?_)
              try rw [hx2]
              try rw [hx3]
              first | with_reducible apply tr_retM | with_reducible apply tr_endM
              case he=>exact ends1 rfl rfl
              case hR=>
                intro w' hm'
                exact gives_end () trivial (show Takes _ [blk b (.cells #[.string (bsL (r.drop 2)),.bool (true || !B)] 251)] _ by exact .cons .here .nil) hm' rfl
          · refine next_step rfl ?_
            (refine tr_store (.of rfl) (.of rfl) .here rfl rfl (okc_cons rfl okc_nil) (lenb rfl) norm_ ?_;refine n_t ?_)
            refine left_ready (rs:=[12]) (by kernel_rfl) (by simp) (List.forall_mem_cons.2 ⟨?_,fun _ h=>absurd h List.not_mem_nil⟩)
            refine next_step rfl ?_
            (refine v_g rfl rfl rfl rfl ?_;refine n_t ?_)
            refine left_ready (rs:=[13]) (by kernel_rfl) (by simp) (List.forall_mem_cons.2 ⟨?_,fun _ h=>absurd h List.not_mem_nil⟩)
            refine next_step rfl ?_
            (refine tr_vG1 rfl rfl inferInstance (fun hg hgp=>(rk_not (.ofg hg rfl))) rfl ?_;refine n_t ?_)
            refine left_ready (rs:=[14]) (by kernel_rfl) (by simp) (List.forall_mem_cons.2 ⟨?_,fun _ h=>absurd h List.not_mem_nil⟩)
            refine next_step rfl ?_
            (refine tr_val (rk_pick_or (.of rfl) rfl) rfl ?_;refine n_t ?_)
            refine left_take 18 rfl kr_ kr_ kr_ (fun w ρ=>rfl) (fun w=>(rk_nilCheck (.of rfl))) rfl ?_
            refine left_take 19 rfl kr_ kr_ kr_ (fun w ρ=>rfl) (fun w=>(rk_fieldAddr (.of rfl) norm0_)) rfl ?_
            refine left_ready (rs:=[20]) (by kernel_rfl) (by simp) (List.forall_mem_cons.2 ⟨?_,fun _ h=>absurd h List.not_mem_nil⟩)
            refine next_step rfl ?_
            (refine tr_store (.of rfl) (.of rfl) .here rfl rfl (okc_cons rfl okc_nil) (lenb rfl) norm_ ?_;refine n_t ?_)
            with_reducible refine left_done (by kernel_rfl) ?_
            (refine tr_then ?_;refine s_r ?_;refine m_v rfl rfl ?_;refine a_s rfl rfl ?_;refine n_t ?_;refine tr_ret ?_)
            try rw [hx2]
            try rw [hx3]
            first | with_reducible apply tr_retM | with_reducible apply tr_endM
            case he=>exact ends1 rfl rfl
            case hR=>
              intro w' hm'
              exact gives_end () trivial (show Takes _ [blk b (.cells #[.string (bsL (r.drop 2)),.bool (true || !B)] 251)] _ by exact .cons .here .nil) hm' rfl
        · refine next_step rfl ?_
          (refine v_g rfl rfl rfl rfl ?_;refine n_t ?_)
          refine left_ready (rs:=[5,13]) (by kernel_rfl) (by simp) (List.forall_mem_cons.2 ⟨?_,List.forall_mem_cons.2 ⟨?_,fun _ h=>absurd h List.not_mem_nil⟩⟩)
          · refine next_step rfl ?_
            (refine tr_val (rk_load1 (.of rfl) (At.lit .here rfl)) rfl ?_;refine n_t ?_)
            refine left_take 6 rfl kr_ kr_ kr_ (fun w ρ=>rfl) (fun w=>(rk_sliceS_l (.of rfl) (.of rfl) (by omega) (by omega))) rfl ?_
            refine left_take 15 rfl kr_ kr_ kr_ (fun w ρ=>rfl) (fun w=>(rk_nilCheck (.of rfl))) rfl ?_
            refine left_take 16 rfl kr_ kr_ kr_ (fun w ρ=>rfl) (fun w=>(rk_fieldAddr (.of rfl) norm0_)) rfl ?_
            refine left_ready (rs:=[13,17]) (by kernel_rfl) (by simp) (List.forall_mem_cons.2 ⟨?_,List.forall_mem_cons.2 ⟨?_,fun _ h=>absurd h List.not_mem_nil⟩⟩)
            · refine next_step rfl ?_
              (refine tr_vG1 rfl rfl inferInstance (fun hg hgp=>(rk_not (.ofg hg rfl))) rfl ?_;refine n_t ?_)
              refine left_ready (rs:=[14,17]) (by kernel_rfl) (by simp) (List.forall_mem_cons.2 ⟨?_,List.forall_mem_cons.2 ⟨?_,fun _ h=>absurd h List.not_mem_nil⟩⟩)
              · refine next_step rfl ?_
                (refine tr_val (rk_pick_or (.of rfl) rfl) rfl ?_;refine n_t ?_)
                refine left_ready (rs:=[17]) (by kernel_rfl) (by simp) (List.forall_mem_cons.2 ⟨?_,fun _ h=>absurd h List.not_mem_nil⟩)
                refine next_step rfl ?_
                (refine tr_store (.of rfl) (.of rfl) .here rfl rfl (okc_cons rfl okc_nil) (lenb rfl) norm_ ?_;refine n_t ?_)
                refine left_take 18 rfl kr_ kr_ kr_ (fun w ρ=>rfl) (fun w=>(rk_nilCheck (.of rfl))) rfl ?_
                refine left_take 19 rfl kr_ kr_ kr_ (fun w ρ=>rfl) (fun w=>(rk_fieldAddr (.of rfl) norm0_)) rfl ?_
                refine left_ready (rs:=[20]) (by kernel_rfl) (by simp) (List.forall_mem_cons.2 ⟨?_,fun _ h=>absurd h List.not_mem_nil⟩)
                refine next_step rfl ?_
                (refine tr_store (.of rfl) (.of rfl) .here rfl rfl (okc_cons rfl okc_nil) (lenb rfl) norm_ ?_;refine n_t ?_)
                with_reducible refine left_done (by kernel_rfl) ?_
                (refine tr_then ?_;refine s_r ?_;refine m_v rfl rfl ?_;refine a_s rfl rfl ?_;refine n_t ?_;refine tr_ret ?_)
                try rw [hx2]
                try rw [hx3]
                first | with_reducible apply tr_retM | with_reducible apply tr_endM
                case he=>exact ends1 rfl rfl
                case hR=>
                  intro w' hm'
                  exact gives_end () trivial (show Takes _ [blk b (.cells #[.string (bsL (r.drop 2)),.bool (true || !B)] 251)] _ by exact .cons .here .nil) hm' rfl
              · refine next_step rfl ?_
                (refine tr_store (.of rfl) (.of rfl) .here rfl rfl (okc_cons rfl okc_nil) (lenb rfl) norm_ ?_;refine n_t ?_)
                refine left_ready (rs:=[14]) (by kernel_rfl) (by simp) (List.forall_mem_cons.2 ⟨?_,fun _ h=>absurd h List.not_mem_nil⟩)
                refine next_step rfl ?_
                (refine tr_val (rk_pick_or (.of rfl) rfl) rfl ?_;refine n_t ?_)
                refine left_take 18 rfl kr_ kr_ kr_ (fun w ρ=>rfl) (fun w=>(rk_nilCheck (.of rfl))) rfl ?_
                refine left_take 19 rfl kr_ kr_ kr_ (fun w ρ=>rfl) (fun w=>(rk_fieldAddr (.of rfl) norm0_)) rfl ?_
                refine left_ready (rs:=[20]) (by kernel_rfl) (by simp) (List.forall_mem_cons.2 ⟨?_,fun _ h=>absurd h List.not_mem_nil⟩)
                refine next_step rfl ?_
                (refine tr_store (.of rfl) (.of rfl) .here rfl rfl (okc_cons rfl okc_nil) (lenb rfl) norm_ ?_;refine n_t ?_)
                with_reducible refine left_done (by kernel_rfl) ?_
                (refine tr_then ?_;refine s_r ?_;refine m_v rfl rfl ?_;refine a_s rfl rfl ?_;refine n_t ?_;refine tr_ret ?_)
                try rw [hx2]
                try rw [hx3]
                first | with_reducible apply tr_retM | with_reducible apply tr_endM
                case he=>exact ends1 rfl rfl
                case hR=>
                  intro w' hm'
                  exact gives_end () trivial (show Takes _ [blk b (.cells #[.string (bsL (r.drop 2)),.bool (true || !B)] 251)] _ by exact .cons .here .nil) hm' rfl
            · refine next_step rfl ?_
              (refine tr_store (.of rfl) (.of rfl) .here rfl rfl (okc_cons rfl okc_nil) (lenb rfl) norm_ ?_;refine n_t ?_)
              refine left_ready (rs:=[13]) (by kernel_rfl) (by simp) (List.forall_mem_cons.2 ⟨?_,fun _ h=>absurd h List.not_mem_nil⟩)
              refine next_step rfl ?_
              (refine tr_vG1 rfl rfl inferInstance (fun hg hgp=>(rk_not (.ofg hg rfl))) rfl ?_;refine n_t ?_)
              refine left_ready (rs:=[14]) (by kernel_rfl) (by simp) (List.forall_mem_cons.2 ⟨?_,fun _ h=>absurd h List.not_mem_nil⟩)
              refine next_step rfl ?_
              (refine tr_val (rk_pick_or (.of rfl) rfl) rfl ?_;refine n_t ?_)
              refine left_take 18 rfl kr_ kr_ kr_ (fun w ρ=>rfl) (fun w=>(rk_nilCheck (.of rfl))) rfl ?_
              refine left_take 19 rfl kr_ kr_ kr_ (fun w ρ=>rfl) (fun w=>(rk_fieldAddr (.of rfl) norm0_)) rfl ?_
              refine left_ready (rs:=[20]) (by kernel_rfl) (by simp) (List.forall_mem_cons.2 ⟨?_,fun _ h=>absurd h List.not_mem_nil⟩)
              refine next_step rfl ?_
              (refine tr_store (.of rfl) (.of rfl) .here rfl rfl (okc_cons rfl okc_nil) (lenb rfl) norm_ ?_;refine n_t ?_)
              with_reducible refine left_done (by kernel_rfl) ?_
              (refine tr_then ?_;refine s_r ?_;refine m_v rfl rfl ?_;refine a_s rfl rfl ?_;refine n_t ?_;refine tr_ret ?_)
              try rw [hx2]
              try rw [hx3]
              first | with_reducible apply tr_retM | with_reducible apply tr_endM
              case he=>exact ends1 rfl rfl
              case hR=>
                intro w' hm'
                exact gives_end () trivial (show Takes _ [blk b (.cells #[.string (bsL (r.drop 2)),.bool (true || !B)] 251)] _ by exact .cons .here .nil) hm' rfl
          · refine next_step rfl ?_
            (refine tr_vG1 rfl rfl inferInstance (fun hg hgp=>(rk_not (.ofg hg rfl))) rfl ?_;refine n_t ?_)
            refine left_ready (rs:=[5,14]) (by kernel_rfl) (by simp) (List.forall_mem_cons.2 ⟨?_,List.forall_mem_cons.2 ⟨?_,fun _ h=>absurd h List.not_mem_nil⟩⟩)
            · refine next_step rfl ?_
              (refine tr_val (rk_load1 (.of rfl) (At.lit .here rfl)) rfl ?_;refine n_t ?_)
              refine left_take 6 rfl kr_ kr_ kr_ (fun w ρ=>rfl) (fun w=>(rk_sliceS_l (.of rfl) (.of rfl) (by omega) (by omega))) rfl ?_
              refine left_take 15 rfl kr_ kr_ kr_ (fun w ρ=>rfl) (fun w=>(rk_nilCheck (.of rfl))) rfl ?_
              refine left_take 16 rfl kr_ kr_ kr_ (fun w ρ=>rfl) (fun w=>(rk_fieldAddr (.of rfl) norm0_)) rfl ?_
              refine left_ready (rs:=[14,17]) (by kernel_rfl) (by simp) (List.forall_mem_cons.2 ⟨?_,List.forall_mem_cons.2 ⟨?_,fun _ h=>absurd h List.not_mem_nil⟩⟩)
              · refine next_step rfl ?_
                (refine tr_val (rk_pick_or (.of rfl) rfl) rfl ?_;refine n_t ?_)
                refine left_ready (rs:=[17]) (by kernel_rfl) (by simp) (List.forall_mem_cons.2 ⟨?_,fun _ h=>absurd h List.not_mem_nil⟩)
                refine next_step rfl ?_
                (refine tr_store (.of rfl) (.of rfl) .here rfl rfl (okc_cons rfl okc_nil) (lenb rfl) norm_ ?_;refine n_t ?_)
                refine left_take 18 rfl kr_ kr_ kr_ (fun w ρ=>rfl) (fun w=>(rk_nilCheck (.of rfl))) rfl ?_
                refine left_take 19 rfl kr_ kr_ kr_ (fun w ρ=>rfl) (fun w=>(rk_fieldAddr (.of rfl) norm0_)) rfl ?_
                refine left_ready (rs:=[20]) (by kernel_rfl) (by simp) (List.forall_mem_cons.2 ⟨?_,fun _ h=>absurd h List.not_mem_nil⟩)
                refine next_step rfl ?_
                (refine tr_store (.of rfl) (.of rfl) .here rfl rfl (okc_cons rfl okc_nil) (lenb rfl) norm_ ?_;refine n_t ?_)
                with_reducible refine left_done (by kernel_rfl) ?_
                (refine tr_then ?_;refine s_r ?_;refine m_v rfl rfl ?_;refine a_s rfl rfl ?_;refine n_t ?_;refine tr_ret ?_)
                try rw [hx2]
                try rw [hx3]
                first | with_reducible apply tr_retM | with_reducible apply tr_endM
                case he=>exact ends1 rfl rfl
                case hR=>
                  intro w' hm'
                  exact gives_end () trivial (show Takes _ [blk b (.cells #[.string (bsL (r.drop 2)),.bool (true || !B)] 251)] _ by exact .cons .here .nil) hm' rfl
              · refine next_step rfl ?_
                (refine tr_store (.of rfl) (.of rfl) .here rfl rfl (okc_cons rfl okc_nil) (lenb rfl) norm_ ?_;refine n_t ?_)
                refine left_ready (rs:=[14]) (by kernel_rfl) (by simp) (List.forall_mem_cons.2 ⟨?_,fun _ h=>absurd h List.not_mem_nil⟩)
                refine next_step rfl ?_
                (refine tr_val (rk_pick_or (.of rfl) rfl) rfl ?_;refine n_t ?_)
                refine left_take 18 rfl kr_ kr_ kr_ (fun w ρ=>rfl) (fun w=>(rk_nilCheck (.of rfl))) rfl ?_
                refine left_take 19 rfl kr_ kr_ kr_ (fun w ρ=>rfl) (fun w=>(rk_fieldAddr (.of rfl) norm0_)) rfl ?_
                refine left_ready (rs:=[20]) (by kernel_rfl) (by simp) (List.forall_mem_cons.2 ⟨?_,fun _ h=>absurd h List.not_mem_nil⟩)
                refine next_step rfl ?_
                (refine tr_store (.of rfl) (.of rfl) .here rfl rfl (okc_cons rfl okc_nil) (lenb rfl) norm_ ?_;refine n_t ?_)
                with_reducible refine left_done (by kernel_rfl) ?_
                (refine tr_then ?_;refine s_r ?_;refine m_v rfl rfl ?_;refine a_s rfl rfl ?_;refine n_t ?_;refine tr_ret ?_)
                try rw [hx2]
                try rw [hx3]
                first | with_reducible apply tr_retM | with_reducible apply tr_endM
                case he=>exact ends1 rfl rfl
                case hR=>
                  intro w' hm'
                  exact gives_end () trivial (show Takes _ [blk b (.cells #[.string (bsL (r.drop 2)),.bool (true || !B)] 251)] _ by exact .cons .here .nil) hm' rfl
            · refine next_step rfl ?_
              (refine tr_val (rk_pick_or (.of rfl) rfl) rfl ?_;refine n_t ?_)
              refine left_ready (rs:=[5]) (by kernel_rfl) (by simp) (List.forall_mem_cons.2 ⟨?_,fun _ h=>absurd h List.not_mem_nil⟩)
              refine next_step rfl ?_
              (refine tr_val (rk_load1 (.of rfl) (At.lit .here rfl)) rfl ?_;refine n_t ?_)
              refine left_take 6 rfl kr_ kr_ kr_ (fun w ρ=>rfl) (fun w=>(rk_sliceS_l (.of rfl) (.of rfl) (by omega) (by omega))) rfl ?_
              refine left_take 15 rfl kr_ kr_ kr_ (fun w ρ=>rfl) (fun w=>(rk_nilCheck (.of rfl))) rfl ?_
              refine left_take 16 rfl kr_ kr_ kr_ (fun w ρ=>rfl) (fun w=>(rk_fieldAddr (.of rfl) norm0_)) rfl ?_
              refine left_ready (rs:=[17]) (by kernel_rfl) (by simp) (List.forall_mem_cons.2 ⟨?_,fun _ h=>absurd h List.not_mem_nil⟩)
              refine next_step rfl ?_
              (refine tr_store (.of rfl) (.of rfl) .here rfl rfl (okc_cons rfl okc_nil) (lenb rfl) norm_ ?_;refine n_t ?_)
              refine left_take 18 rfl kr_ kr_ kr_ (fun w ρ=>rfl) (fun w=>(rk_nilCheck (.of rfl))) rfl ?_
              refine left_take 19 rfl kr_ kr_ kr_ (fun w ρ=>rfl) (fun w=>(rk_fieldAddr (.of rfl) norm0_)) rfl ?_
              refine left_ready (rs:=[20]) (by kernel_rfl) (by simp) (List.forall_mem_cons.2 ⟨?_,fun _ h=>absurd h List.not_mem_nil⟩)
              refine next_step rfl ?_
              (refine tr_store (.of rfl) (.of rfl) .here rfl rfl (okc_cons rfl okc_nil) (lenb rfl) norm_ ?_;refine n_t ?_)
              with_reducible refine left_done (by kernel_rfl) ?_
              (refine tr_then ?_;refine s_r ?_;refine m_v rfl rfl ?_;refine a_s rfl rfl ?_;refine n_t ?_;refine tr_ret ?_)
              try rw [hx2]
              try rw [hx3]
              first | with_reducible apply tr_retM | with_reducible apply tr_endM
              case he=>exact ends1 rfl rfl
              case hR=>
                intro w' hm'
                exact gives_end () trivial (show Takes _ [blk b (.cells #[.string (bsL (r.drop 2)),.bool (true || !B)] 251)] _ by exact .cons .here .nil) hm' rfl
    | false =>
      with_reducible refine tr_left 21 rfl ?_
      refine left_take 0 rfl kr_ kr_ kr_ (fun w ρ=>rfl) (fun w=>(rk_move (.of rfl))) rfl ?_
      refine left_take 1 rfl kr_ kr_ kr_ (fun w ρ=>rfl) (fun w=>(rk_move (.of rfl))) rfl ?_
      refine left_take 2 rfl kr_ kr_ kr_ (fun w ρ=>rfl) (fun w=>(rk_move (.of rfl))) rfl ?_
      refine left_take 7 rfl kr_ kr_ kr_ (fun w ρ=>rfl) (fun w=>(rk_move (.of rfl))) rfl ?_
      refine left_take 3 rfl kr_ kr_ kr_ (fun w ρ=>rfl) (fun w=>(rk_nilCheck (.of rfl))) rfl ?_
      refine left_take 8 rfl kr_ kr_ kr_ (fun w ρ=>rfl) (fun w=>(rk_nilCheck (.of rfl))) rfl ?_
      refine left_take 4 rfl kr_ kr_ kr_ (fun w ρ=>rfl) (fun w=>(rk_fieldAddr (.of rfl) norm0_)) rfl ?_
      refine left_take 9 rfl kr_ kr_ kr_ (fun w ρ=>rfl) (fun w=>(rk_fieldAddr (.of rfl) norm0_)) rfl ?_
      refine left_ready (rs:=[5,10]) (by kernel_rfl) (by simp) (List.forall_mem_cons.2 ⟨?_,List.forall_mem_cons.2 ⟨?_,fun _ h=>absurd h List.not_mem_nil⟩⟩)
      · refine next_step rfl ?_
        (refine tr_val (rk_load1 (.of rfl) (At.lit .here rfl)) rfl ?_;refine n_t ?_)
        refine left_take 6 rfl kr_ kr_ kr_ (fun w ρ=>rfl) (fun w=>(rk_sliceS_l (.of rfl) (.of rfl) (by omega) (by omega))) rfl ?_
        refine left_ready (rs:=[10]) (by kernel_rfl) (by simp) (List.forall_mem_cons.2 ⟨?_,fun _ h=>absurd h List.not_mem_nil⟩)
        refine next_step rfl ?_
        (refine tr_val (rk_load1 (.of rfl) (At.lit .here rfl)) rfl ?_;refine n_t ?_)
        refine left_take 11 rfl kr_ kr_ kr_ (fun w ρ=>rfl) (fun w=>(rk_move (.of rfl))) rfl ?_
        refine left_take 15 rfl kr_ kr_ kr_ (fun w ρ=>rfl) (fun w=>(rk_nilCheck (.of rfl))) rfl ?_
        refine left_take 16 rfl kr_ kr_ kr_ (fun w ρ=>rfl) (fun w=>(rk_fieldAddr (.of rfl) norm0_)) rfl ?_
        refine left_ready (rs:=[12,17]) (by kernel_rfl) (by simp) (List.forall_mem_cons.2 ⟨?_,List.forall_mem_cons.2 ⟨?_,fun _ h=>absurd h List.not_mem_nil⟩⟩)
        · refine next_step rfl ?_
          (refine v_g rfl rfl rfl rfl ?_;refine n_t ?_)
          refine left_ready (rs:=[13,17]) (by kernel_rfl) (by simp) (List.forall_mem_cons.2 ⟨?_,List.forall_mem_cons.2 ⟨?_,fun _ h=>absurd h List.not_mem_nil⟩⟩)
          · refine next_step rfl ?_
            (refine tr_vG1 rfl rfl inferInstance (fun hg hgp=>(rk_not (.ofg hg rfl))) rfl ?_;refine n_t ?_)
            refine left_ready (rs:=[14,17]) (by kernel_rfl) (by simp) (List.forall_mem_cons.2 ⟨?_,List.forall_mem_cons.2 ⟨?_,fun _ h=>absurd h List.not_mem_nil⟩⟩)
            · refine next_step rfl ?_
              (refine tr_val (rk_pick_or (.of rfl) rfl) rfl ?_;refine n_t ?_)
              refine left_ready (rs:=[17]) (by kernel_rfl) (by simp) (List.forall_mem_cons.2 ⟨?_,fun _ h=>absurd h List.not_mem_nil⟩)
              refine next_step rfl ?_
              (refine tr_store (.of rfl) (.of rfl) .here rfl rfl (okc_cons rfl okc_nil) (lenb rfl) norm_ ?_;refine n_t ?_)
              refine left_take 18 rfl kr_ kr_ kr_ (fun w ρ=>rfl) (fun w=>(rk_nilCheck (.of rfl))) rfl ?_
              refine left_take 19 rfl kr_ kr_ kr_ (fun w ρ=>rfl) (fun w=>(rk_fieldAddr (.of rfl) norm0_)) rfl ?_
              refine left_ready (rs:=[20]) (by kernel_rfl) (by simp) (List.forall_mem_cons.2 ⟨?_,fun _ h=>absurd h List.not_mem_nil⟩)
              refine next_step rfl ?_
              (refine tr_store (.of rfl) (.of rfl) .here rfl rfl (okc_cons rfl okc_nil) (lenb rfl) norm_ ?_;refine n_t ?_)
              with_reducible refine left_done (by kernel_rfl) ?_
              (refine tr_then ?_;refine s_r ?_;refine m_v rfl rfl ?_;refine a_s rfl rfl ?_;refine n_t ?_;refine tr_ret ?_)
              try rw [hx2]
              try rw [hx3]
              first | with_reducible apply tr_retM | with_reducible apply tr_endM
              case he=>exact ends1 rfl rfl
              case hR=>
                intro w' hm'
                exact gives_end () trivial (show Takes _ [blk b (.cells #[.string (bsL (r.drop 2)),.bool (false || !B)] 251)] _ by exact .cons .here .nil) hm' rfl
            · refine next_step rfl ?_
              (refine tr_store (.of rfl) (.of rfl) .here rfl rfl (okc_cons rfl okc_nil) (lenb rfl) norm_ ?_;refine n_t ?_)
              refine left_ready (rs:=[14]) (by kernel_rfl) (by simp) (List.forall_mem_cons.2 ⟨?_,fun _ h=>absurd h List.not_mem_nil⟩)
              refine next_step rfl ?_
              (refine tr_val (rk_pick_or (.of rfl) rfl) rfl ?_;refine n_t ?_)
              refine left_take 18 rfl kr_ kr_ kr_ (fun w ρ=>rfl) (fun w=>(rk_nilCheck (.of rfl))) rfl ?_
              refine left_take 19 rfl kr_ kr_ kr_ (fun w ρ=>rfl) (fun w=>(rk_fieldAddr (.of rfl) norm0_)) rfl ?_
              refine left_ready (rs:=[20]) (by kernel_rfl) (by simp) (List.forall_mem_cons.2 ⟨?_,fun _ h=>absurd h List.not_mem_nil⟩)
              refine next_step rfl ?_
              (refine tr_store (.of rfl) (.of rfl) .here rfl rfl (okc_cons rfl okc_nil) (lenb rfl) norm_ ?_;refine n_t ?_)
              with_reducible refine left_done (by kernel_rfl) ?_
              (refine tr_then ?_;refine s_r ?_;refine m_v rfl rfl ?_;refine a_s rfl rfl ?_;refine n_t ?_;refine tr_ret ?_)
              try rw [hx2]
              try rw [hx3]
              first | with_reducible apply tr_retM | with_reducible apply tr_endM
              case he=>exact ends1 rfl rfl
              case hR=>
                intro w' hm'
                exact gives_end () trivial (show Takes _ [blk b (.cells #[.string (bsL (r.drop 2)),.bool (false || !B)] 251)] _ by exact .cons .here .nil) hm' rfl
          · refine next_step rfl ?_
            (refine tr_store (.of rfl) (.of rfl) .here rfl rfl (okc_cons rfl okc_nil) (lenb rfl) norm_ ?_;refine n_t ?_)
            refine left_ready (rs:=[13]) (by kernel_rfl) (by simp) (List.forall_mem_cons.2 ⟨?_,fun _ h=>absurd h List.not_mem_nil⟩)
            refine next_step rfl ?_
            (refine tr_vG1 rfl rfl inferInstance (fun hg hgp=>(rk_not (.ofg hg rfl))) rfl ?_;refine n_t ?_)
            refine left_ready (rs:=[14]) (by kernel_rfl) (by simp) (List.forall_mem_cons.2 ⟨?_,fun _ h=>absurd h List.not_mem_nil⟩)
            refine next_step rfl ?_
            (refine tr_val (rk_pick_or (.of rfl) rfl) rfl ?_;refine n_t ?_)
            refine left_take 18 rfl kr_ kr_ kr_ (fun w ρ=>rfl) (fun w=>(rk_nilCheck (.of rfl))) rfl ?_
            refine left_take 19 rfl kr_ kr_ kr_ (fun w ρ=>rfl) (fun w=>(rk_fieldAddr (.of rfl) norm0_)) rfl ?_
            refine left_ready (rs:=[20]) (by kernel_rfl) (by simp) (List.forall_mem_cons.2 ⟨?_,fun _ h=>absurd h List.not_mem_nil⟩)
            refine next_step rfl ?_
            (refine tr_store (.of rfl) (.of rfl) .here rfl rfl (okc_cons rfl okc_nil) (lenb rfl) norm_ ?_;refine n_t ?_)
            with_reducible refine left_done (by kernel_rfl) ?_
            (refine tr_then ?_;refine s_r ?_;refine m_v rfl rfl ?_;refine a_s rfl rfl ?_;refine n_t ?_;refine tr_ret ?_)
            try rw [hx2]
            try rw [hx3]
            first | with_reducible apply tr_retM | with_reducible apply tr_endM
            case he=>exact ends1 rfl rfl
            case hR=>
              intro w' hm'
              exact gives_end () trivial (show Takes _ [blk b (.cells #[.string (bsL (r.drop 2)),.bool (false || !B)] 251)] _ by exact .cons .here .nil) hm' rfl
        · refine next_step rfl ?_
          (refine tr_store (.of rfl) (.of rfl) .here rfl rfl (okc_cons rfl okc_nil) (lenb rfl) norm_ ?_;refine n_t ?_)
          refine left_ready (rs:=[12]) (by kernel_rfl) (by simp) (List.forall_mem_cons.2 ⟨?_,fun _ h=>absurd h List.not_mem_nil⟩)
          refine next_step rfl ?_
          (refine v_g rfl rfl rfl rfl ?_;refine n_t ?_)
          refine left_ready (rs:=[13]) (by kernel_rfl) (by simp) (List.forall_mem_cons.2 ⟨?_,fun _ h=>absurd h List.not_mem_nil⟩)
          refine next_step rfl ?_
          (refine tr_vG1 rfl rfl inferInstance (fun hg hgp=>(rk_not (.ofg hg rfl))) rfl ?_;refine n_t ?_)
          refine left_ready (rs:=[14]) (by kernel_rfl) (by simp) (List.forall_mem_cons.2 ⟨?_,fun _ h=>absurd h List.not_mem_nil⟩)
          refine next_step rfl ?_
          (refine tr_val (rk_pick_or (.of rfl) rfl) rfl ?_;refine n_t ?_)
          refine left_take 18 rfl kr_ kr_ kr_ (fun w ρ=>rfl) (fun w=>(rk_nilCheck (.of rfl))) rfl ?_
          refine left_take 19 rfl kr_ kr_ kr_ (fun w ρ=>rfl) (fun w=>(rk_fieldAddr (.of rfl) norm0_)) rfl ?_
          refine left_ready (rs:=[20]) (by kernel_rfl) (by simp) (List.forall_mem_cons.2 ⟨?_,fun _ h=>absurd h List.not_mem_nil⟩)
          refine next_step rfl ?_
          (refine tr_store (.of rfl) (.of rfl) .here rfl rfl (okc_cons rfl okc_nil) (lenb rfl) norm_ ?_;refine n_t ?_)
          with_reducible refine left_done (by kernel_rfl) ?_
          (refine tr_then ?_;refine s_r ?_;refine m_v rfl rfl ?_;refine a_s rfl rfl ?_;refine n_t ?_;refine tr_ret ?_)
          try rw [hx2]
          try rw [hx3]
          first | with_reducible apply tr_retM | with_reducible apply tr_endM
          case he=>exact ends1 rfl rfl
          case hR=>
            intro w' hm'
            exact gives_end () trivial (show Takes _ [blk b (.cells #[.string (bsL (r.drop 2)),.bool (false || !B)] 251)] _ by exact .cons .here .nil) hm' rfl
      · refine next_step rfl ?_
        (refine tr_val (rk_load1 (.of rfl) (At.lit .here rfl)) rfl ?_;refine n_t ?_)
        refine left_take 11 rfl kr_ kr_ kr_ (fun w ρ=>rfl) (fun w=>(rk_move (.of rfl))) rfl ?_
        refine left_ready (rs:=[5,12]) (by kernel_rfl) (by simp) (List.forall_mem_cons.2 ⟨?_,List.forall_mem_cons.2 ⟨?_,fun _ h=>absurd h List.not_mem_nil⟩⟩)
        · refine next_step rfl ?_
          (refine tr_val (rk_load1 (.of rfl) (At.lit .here rfl)) rfl ?_;refine n_t ?_)
          refine left_take 6 rfl kr_ kr_ kr_ (fun w ρ=>rfl) (fun w=>(rk_sliceS_l (.of rfl) (.of rfl) (by omega) (by omega))) rfl ?_
          refine left_take 15 rfl kr_ kr_ kr_ (fun w ρ=>rfl) (fun w=>(rk_nilCheck (.of rfl))) rfl ?_
          refine left_take 16 rfl kr_ kr_ kr_ (fun w ρ=>rfl) (fun w=>(rk_fieldAddr (.of rfl) norm0_)) rfl ?_
          refine left_ready (rs:=[12,17]) (by kernel_rfl) (by simp) (List.forall_mem_cons.2 ⟨?_,List.forall_mem_cons.2 ⟨?_,fun _ h=>absurd h List.not_mem_nil⟩⟩)
          · refine next_step rfl ?_
            (refine v_g rfl rfl rfl rfl ?_;refine n_t ?_)
            refine left_ready (rs:=[13,17]) (by kernel_rfl) (by simp) (List.forall_mem_cons.2 ⟨?_,List.forall_mem_cons.2 ⟨?_,fun _ h=>absurd h List.not_mem_nil⟩⟩)
            · refine next_step rfl ?_
              (refine tr_vG1 rfl rfl inferInstance (fun hg hgp=>(rk_not (.ofg hg rfl))) rfl ?_;refine n_t ?_)
              refine left_ready (rs:=[14,17]) (by kernel_rfl) (by simp) (List.forall_mem_cons.2 ⟨?_,List.forall_mem_cons.2 ⟨?_,fun _ h=>absurd h List.not_mem_nil⟩⟩)
              · refine next_step rfl ?_
                (refine tr_val (rk_pick_or (.of rfl) rfl) rfl ?_;refine n_t ?_)
                refine left_ready (rs:=[17]) (by kernel_rfl) (by simp) (List.forall_mem_cons.2 ⟨?_,fun _ h=>absurd h List.not_mem_nil⟩)
                refine next_step rfl ?_
                (refine tr_store (.of rfl) (.of rfl) .here rfl rfl (okc_cons rfl okc_nil) (lenb rfl) norm_ ?_;refine n_t ?_)
                refine left_take 18 rfl kr_ kr_ kr_ (fun w ρ=>rfl) (fun w=>(rk_nilCheck (.of rfl))) rfl ?_
                refine left_take 19 rfl kr_ kr_ kr_ (fun w ρ=>rfl) (fun w=>(rk_fieldAddr (.of rfl) norm0_)) rfl ?_
                refine left_ready (rs:=[20]) (by kernel_rfl) (by simp) (List.forall_mem_cons.2 ⟨?_,fun _ h=>absurd h List.not_mem_nil⟩)
                refine next_step rfl ?_
                (refine tr_store (.of rfl) (.of rfl) .here rfl rfl (okc_cons rfl okc_nil) (lenb rfl) norm_ ?_;refine n_t ?_)
                with_reducible refine left_done (by kernel_rfl) ?_
                (refine tr_then ?_;refine s_r ?_;refine m_v rfl rfl ?_;refine a_s rfl rfl ?_;refine n_t ?_;refine tr_ret ?_)
                try rw [hx2]
                try rw [hx3]
                first | with_reducible apply tr_retM | with_reducible apply tr_endM
                case he=>exact ends1 rfl rfl
                case hR=>
                  intro w' hm'
                  exact gives_end () trivial (show Takes _ [blk b (.cells #[.string (bsL (r.drop 2)),.bool (false || !B)] 251)] _ by exact .cons .here .nil) hm' rfl
              · refine next_step rfl ?_
                (refine tr_store (.of rfl) (.of rfl) .here rfl rfl (okc_cons rfl okc_nil) (lenb rfl) norm_ ?_;refine n_t ?_)
                refine left_ready (rs:=[14]) (by kernel_rfl) (by simp) (List.forall_mem_cons.2 ⟨?_,fun _ h=>absurd h List.not_mem_nil⟩)
                refine next_step rfl ?_
                (refine tr_val (rk_pick_or (.of rfl) rfl) rfl ?_;refine n_t ?_)
                refine left_take 18 rfl kr_ kr_ kr_ (fun w ρ=>rfl) (fun w=>(rk_nilCheck (.of rfl))) rfl ?_
                refine left_take 19 rfl kr_ kr_ kr_ (fun w ρ=>rfl) (fun w=>(rk_fieldAddr (.of rfl) norm0_)) rfl ?_
                refine left_ready (rs:=[20]) (by kernel_rfl) (by simp) (List.forall_mem_cons.2 ⟨?_,fun _ h=>absurd h List.not_mem_nil⟩)
                refine next_step rfl ?_
                (refine tr_store (.of rfl) (.of rfl) .here rfl rfl (okc_cons rfl okc_nil) (lenb rfl) norm_ ?_;refine n_t ?_)
                with_reducible refine left_done (by kernel_rfl) ?_
                (refine tr_then ?_;refine s_r ?_;refine m_v rfl rfl ?_;refine a_s rfl rfl ?_;refine n_t ?_;refine tr_ret ?_)
                try rw [hx2]
                try rw [hx3]
                first | with_reducible apply tr_retM | with_reducible apply tr_endM
                case he=>exact ends1 rfl rfl
                case hR=>
                  intro w' hm'
                  exact gives_end () trivial (show Takes _ [blk b (.cells #[.string (bsL (r.drop 2)),.bool (false || !B)] 251)] _ by exact .cons .here .nil) hm' rfl
            · refine next_step rfl ?_
              (refine tr_store (.of rfl) (.of rfl) .here rfl rfl (okc_cons rfl okc_nil) (lenb rfl) norm_ ?_;refine n_t ?_)
              refine left_ready (rs:=[13]) (by kernel_rfl) (by simp) (List.forall_mem_cons.2 ⟨?_,fun _ h=>absurd h List.not_mem_nil⟩)
              refine next_step rfl ?_
              (refine tr_vG1 rfl rfl inferInstance (fun hg hgp=>(rk_not (.ofg hg rfl))) rfl ?_;refine n_t ?_)
              refine left_ready (rs:=[14]) (by kernel_rfl) (by simp) (List.forall_mem_cons.2 ⟨?_,fun _ h=>absurd h List.not_mem_nil⟩)
              refine next_step rfl ?_
              (refine tr_val (rk_pick_or (.of rfl) rfl) rfl ?_;refine n_t ?_)
              refine left_take 18 rfl kr_ kr_ kr_ (fun w ρ=>rfl) (fun w=>(rk_nilCheck (.of rfl))) rfl ?_
              refine left_take 19 rfl kr_ kr_ kr_ (fun w ρ=>rfl) (fun w=>(rk_fieldAddr (.of rfl) norm0_)) rfl ?_
              refine left_ready (rs:=[20]) (by kernel_rfl) (by simp) (List.forall_mem_cons.2 ⟨?_,fun _ h=>absurd h List.not_mem_nil⟩)
              refine next_step rfl ?_
              (refine tr_store (.of rfl) (.of rfl) .here rfl rfl (okc_cons rfl okc_nil) (lenb rfl) norm_ ?_;refine n_t ?_)
              with_reducible refine left_done (by kernel_rfl) ?_
              (refine tr_then ?_;refine s_r ?_;refine m_v rfl rfl ?_;refine a_s rfl rfl ?_;refine n_t ?_;refine tr_ret ?_)
              try rw [hx2]
              try rw [hx3]
              first | with_reducible apply tr_retM | with_reducible apply tr_endM
              case he=>exact ends1 rfl rfl
              case hR=>
                intro w' hm'
                exact gives_end () trivial (show Takes _ [blk b (.cells #[.string (bsL (r.drop 2)),.bool (false || !B)] 251)] _ by exact .cons .here .nil) hm' rfl
          · refine next_step rfl ?_
            (refine tr_store (.of rfl) (.of rfl) .here rfl rfl (okc_cons rfl okc_nil) (lenb rfl) norm_ ?_;refine n_t ?_)
            refine left_ready (rs:=[12]) (by kernel_rfl) (by simp) (List.forall_mem_cons.2 ⟨?_,fun _ h=>absurd h List.not_mem_nil⟩)
            refine next_step rfl ?_
            (refine v_g rfl rfl rfl rfl ?_;refine n_t ?_)
            refine left_ready (rs:=[13]) (by kernel_rfl) (by simp) (List.forall_mem_cons.2 ⟨?_,fun _ h=>absurd h List.not_mem_nil⟩)
            refine next_step rfl ?_
            (refine tr_vG1 rfl rfl inferInstance (fun hg hgp=>(rk_not (.ofg hg rfl))) rfl ?_;refine n_t ?_)
            refine left_ready (rs:=[14]) (by kernel_rfl) (by simp) (List.forall_mem_cons.2 ⟨?_,fun _ h=>absurd h List.not_mem_nil⟩)
            refine next_step rfl ?_
            (refine tr_val (rk_pick_or (.of rfl) rfl) rfl ?_;refine n_t ?_)
            refine left_take 18 rfl kr_ kr_ kr_ (fun w ρ=>rfl) (fun w=>(rk_nilCheck (.of rfl))) rfl ?_
            refine left_take 19 rfl kr_ kr_ kr_ (fun w ρ=>rfl) (fun w=>(rk_fieldAddr (.of rfl) norm0_)) rfl ?_
            refine left_ready (rs:=[20]) (by kernel_rfl) (by simp) (List.forall_mem_cons.2 ⟨?_,fun _ h=>absurd h List.not_mem_nil⟩)
            refine next_step rfl ?_
            (refine tr_store (.of rfl) (.of rfl) .here rfl rfl (okc_cons rfl okc_nil) (lenb rfl) norm_ ?_;refine n_t ?_)
            with_reducible refine left_done (by kernel_rfl) ?_
            (refine tr_then ?_;refine s_r ?_;refine m_v rfl rfl ?_;refine a_s rfl rfl ?_;refine n_t ?_;refine tr_ret ?_)
            try rw [hx2]
            try rw [hx3]
            first | with_reducible apply tr_retM | with_reducible apply tr_endM
            case he=>exact ends1 rfl rfl
            case hR=>
              intro w' hm'
              exact gives_end () trivial (show Takes _ [blk b (.cells #[.string (bsL (r.drop 2)),.bool (false || !B)] 251)] _ by exact .cons .here .nil) hm' rfl
        · refine next_step rfl ?_
          (refine v_g rfl rfl rfl rfl ?_;refine n_t ?_)
          refine left_ready (rs:=[5,13]) (by kernel_rfl) (by simp) (List.forall_mem_cons.2 ⟨?_,List.forall_mem_cons.2 ⟨?_,fun _ h=>absurd h List.not_mem_nil⟩⟩)
          · refine next_step rfl ?_
            (refine tr_val (rk_load1 (.of rfl) (At.lit .here rfl)) rfl ?_;refine n_t ?_)
            refine left_take 6 rfl kr_ kr_ kr_ (fun w ρ=>rfl) (fun w=>(rk_sliceS_l (.of rfl) (.of rfl) (by omega) (by omega))) rfl ?_
            refine left_take 15 rfl kr_ kr_ kr_ (fun w ρ=>rfl) (fun w=>(rk_nilCheck (.of rfl))) rfl ?_
            refine left_take 16 rfl kr_ kr_ kr_ (fun w ρ=>rfl) (fun w=>(rk_fieldAddr (.of rfl) norm0_)) rfl ?_
            refine left_ready (rs:=[13,17]) (by kernel_rfl) (by simp) (List.forall_mem_cons.2 ⟨?_,List.forall_mem_cons.2 ⟨?_,fun _ h=>absurd h List.not_mem_nil⟩⟩)
            · refine next_step rfl ?_
              (refine tr_vG1 rfl rfl inferInstance (fun hg hgp=>(rk_not (.ofg hg rfl))) rfl ?_;refine n_t ?_)
              refine left_ready (rs:=[14,17]) (by kernel_rfl) (by simp) (List.forall_mem_cons.2 ⟨?_,List.forall_mem_cons.2 ⟨?_,fun _ h=>absurd h List.not_mem_nil⟩⟩)
              · refine next_step rfl ?_
                (refine tr_val (rk_pick_or (.of rfl) rfl) rfl ?_;refine n_t ?_)
                refine left_ready (rs:=[17]) (by kernel_rfl) (by simp) (List.forall_mem_cons.2 ⟨?_,fun _ h=>absurd h List.not_mem_nil⟩)
                refine next_step rfl ?_
                (refine tr_store (.of rfl) (.of rfl) .here rfl rfl (okc_cons rfl okc_nil) (lenb rfl) norm_ ?_;refine n_t ?_)
                refine left_take 18 rfl kr_ kr_ kr_ (fun w ρ=>rfl) (fun w=>(rk_nilCheck (.of rfl))) rfl ?_
                refine left_take 19 rfl kr_ kr_ kr_ (fun w ρ=>rfl) (fun w=>(rk_fieldAddr (.of rfl) norm0_)) rfl ?_
                refine left_ready (rs:=[20]) (by kernel_rfl) (by simp) (List.forall_mem_cons.2 ⟨?_,fun _ h=>absurd h List.not_mem_nil⟩)
                refine next_step rfl ?_
                (refine tr_store (.of rfl) (.of rfl) .here rfl rfl (okc_cons rfl okc_nil) (lenb rfl) norm_ ?_;refine n_t ?_)
                with_reducible refine left_done (by kernel_rfl) ?_
                (refine tr_then ?_;refine s_r ?_;refine m_v rfl rfl ?_;refine a_s rfl rfl ?_;refine n_t ?_;refine tr_ret ?_)
                try rw [hx2]
                try rw [hx3]
                first | with_reducible apply tr_retM | with_reducible apply tr_endM
                case he=>exact ends1 rfl rfl
                case hR=>
                  intro w' hm'
                  exact gives_end () trivial (show Takes _ [blk b (.cells #[.string (bsL (r.drop 2)),.bool (false || !B)] 251)] _ by exact .cons .here .nil) hm' rfl
              · refine next_step rfl ?_
                (refine tr_store (.of rfl) (.of rfl) .here rfl rfl (okc_cons rfl okc_nil) (lenb rfl) norm_ ?_;refine n_t ?_)
                refine left_ready (rs:=[14]) (by kernel_rfl) (by simp) (List.forall_mem_cons.2 ⟨?_,fun _ h=>absurd h List.not_mem_nil⟩)
                refine next_step rfl ?_
                (refine tr_val (rk_pick_or (.of rfl) rfl) rfl ?_;refine n_t ?_)
                refine left_take 18 rfl kr_ kr_ kr_ (fun w ρ=>rfl) (fun w=>(rk_nilCheck (.of rfl))) rfl ?_
                refine left_take 19 rfl kr_ kr_ kr_ (fun w ρ=>rfl) (fun w=>(rk_fieldAddr (.of rfl) norm0_)) rfl ?_
                refine left_ready (rs:=[20]) (by kernel_rfl) (by simp) (List.forall_mem_cons.2 ⟨?_,fun _ h=>absurd h List.not_mem_nil⟩)
                refine next_step rfl ?_
                (refine tr_store (.of rfl) (.of rfl) .here rfl rfl (okc_cons rfl okc_nil) (lenb rfl) norm_ ?_;refine n_t ?_)
                with_reducible refine left_done (by kernel_rfl) ?_
                (refine tr_then ?_;refine s_r ?_;refine m_v rfl rfl ?_;refine a_s rfl rfl ?_;refine n_t ?_;refine tr_ret ?_)
                try rw [hx2]
                try rw [hx3]
                first | with_reducible apply tr_retM | with_reducible apply tr_endM
                case he=>exact ends1 rfl rfl
                case hR=>
                  intro w' hm'
                  exact gives_end () trivial (show Takes _ [blk b (.cells #[.string (bsL (r.drop 2)),.bool (false || !B)] 251)] _ by exact .cons .here .nil) hm' rfl
            · refine next_step rfl ?_
              (refine tr_store (.of rfl) (.of rfl) .here rfl rfl (okc_cons rfl okc_nil) (lenb rfl) norm_ ?_;refine n_t ?_)
              refine left_ready (rs:=[13]) (by kernel_rfl) (by simp) (List.forall_mem_cons.2 ⟨?_,fun _ h=>absurd h List.not_mem_nil⟩)
              refine next_step rfl ?_
              (refine tr_vG1 rfl rfl inferInstance (fun hg hgp=>(rk_not (.ofg hg rfl))) rfl ?_;refine n_t ?_)
              refine left_ready (rs:=[14]) (by kernel_rfl) (by simp) (List.forall_mem_cons.2 ⟨?_,fun _ h=>absurd h List.not_mem_nil⟩)
              refine next_step rfl ?_
              (refine tr_val (rk_pick_or (.of rfl) rfl) rfl ?_;refine n_t ?_)
              refine left_take 18 rfl kr_ kr_ kr_ (fun w ρ=>rfl) (fun w=>(rk_nilCheck (.of rfl))) rfl ?_
              refine left_take 19 rfl kr_ kr_ kr_ (fun w ρ=>rfl) (fun w=>(rk_fieldAddr (.of rfl) norm0_)) rfl ?_
              refine left_ready (rs:=[20]) (by kernel_rfl) (by simp) (List.forall_mem_cons.2 ⟨?_,fun _ h=>absurd h List.not_mem_nil⟩)
              refine next_step rfl ?_
              (refine tr_store (.of rfl) (.of rfl) .here rfl rfl (okc_cons rfl okc_nil) (lenb rfl) norm_ ?_;refine n_t ?_)
              with_reducible refine left_done (by kernel_rfl) ?_
              (refine tr_then ?_;refine s_r ?_;refine m_v rfl rfl ?_;refine a_s rfl rfl ?_;refine n_t ?_;refine tr_ret ?_)
              try rw [hx2]
              try rw [hx3]
              first | with_reducible apply tr_retM | with_reducible apply tr_endM
              case he=>exact ends1 rfl rfl
              case hR=>
                intro w' hm'
                exact gives_end () trivial (show Takes _ [blk b (.cells #[.string (bsL (r.drop 2)),.bool (false || !B)] 251)] _ by exact .cons .here .nil) hm' rfl
          · refine next_step rfl ?_
            (refine tr_vG1 rfl rfl inferInstance (fun hg hgp=>(rk_not (.ofg hg rfl))) rfl ?_;refine n_t ?_)
            refine left_ready (rs:=[5,14]) (by kernel_rfl) (by simp) (List.forall_mem_cons.2 ⟨?_,List.forall_mem_cons.2 ⟨?_,fun _ h=>absurd h List.not_mem_nil⟩⟩)
            · refine next_step rfl ?_
              (refine tr_val (rk_load1 (.of rfl) (At.lit .here rfl)) rfl ?_;refine n_t ?_)
              refine left_take 6 rfl kr_ kr_ kr_ (fun w ρ=>rfl) (fun w=>(rk_sliceS_l (.of rfl) (.of rfl) (by omega) (by omega))) rfl ?_
              refine left_take 15 rfl kr_ kr_ kr_ (fun w ρ=>rfl) (fun w=>(rk_nilCheck (.of rfl))) rfl ?_
              refine left_take 16 rfl kr_ kr_ kr_ (fun w ρ=>rfl) (fun w=>(rk_fieldAddr (.of rfl) norm0_)) rfl ?_
              refine left_ready (rs:=[14,17]) (by kernel_rfl) (by simp) (List.forall_mem_cons.2 ⟨?_,List.forall_mem_cons.2 ⟨?_,fun _ h=>absurd h List.not_mem_nil⟩⟩)
              · refine next_step rfl ?_
                (refine tr_val (rk_pick_or (.of rfl) rfl) rfl ?_;refine n_t ?_)
                refine left_ready (rs:=[17]) (by kernel_rfl) (by simp) (List.forall_mem_cons.2 ⟨?_,fun _ h=>absurd h List.not_mem_nil⟩)
                refine next_step rfl ?_
                (refine tr_store (.of rfl) (.of rfl) .here rfl rfl (okc_cons rfl okc_nil) (lenb rfl) norm_ ?_;refine n_t ?_)
                refine left_take 18 rfl kr_ kr_ kr_ (fun w ρ=>rfl) (fun w=>(rk_nilCheck (.of rfl))) rfl ?_
                refine left_take 19 rfl kr_ kr_ kr_ (fun w ρ=>rfl) (fun w=>(rk_fieldAddr (.of rfl) norm0_)) rfl ?_
                refine left_ready (rs:=[20]) (by kernel_rfl) (by simp) (List.forall_mem_cons.2 ⟨?_,fun _ h=>absurd h List.not_mem_nil⟩)
                refine next_step rfl ?_
                (refine tr_store (.of rfl) (.of rfl) .here rfl rfl (okc_cons rfl okc_nil) (lenb rfl) norm_ ?_;refine n_t ?_)
                with_reducible refine left_done (by kernel_rfl) ?_
                (refine tr_then ?_;refine s_r ?_;refine m_v rfl rfl ?_;refine a_s rfl rfl ?_;refine n_t ?_;refine tr_ret ?_)
                try rw [hx2]
                try rw [hx3]
                first | with_reducible apply tr_retM | with_reducible apply tr_endM
                case he=>exact ends1 rfl rfl
                case hR=>
                  intro w' hm'
                  exact gives_end () trivial (show Takes _ [blk b (.cells #[.string (bsL (r.drop 2)),.bool (false || !B)] 251)] _ by exact .cons .here .nil) hm' rfl
              · refine next_step rfl ?_
                (refine tr_store (.of rfl) (.of rfl) .here rfl rfl (okc_cons rfl okc_nil) (lenb rfl) norm_ ?_;refine n_t ?_)
                refine left_ready (rs:=[14]) (by kernel_rfl) (by simp) (List.forall_mem_cons.2 ⟨?_,fun _ h=>absurd h List.not_mem_nil⟩)
                refine next_step rfl ?_
                (refine tr_val (rk_pick_or (.of rfl) rfl) rfl ?_;refine n_t ?_)
                refine left_take 18 rfl kr_ kr_ kr_ (fun w ρ=>rfl) (fun w=>(rk_nilCheck (.of rfl))) rfl ?_
                refine left_take 19 rfl kr_ kr_ kr_ (fun w ρ=>rfl) (fun w=>(rk_fieldAddr (.of rfl) norm0_)) rfl ?_
                refine left_ready (rs:=[20]) (by kernel_rfl) (by simp) (List.forall_mem_cons.2 ⟨?_,fun _ h=>absurd h List.not_mem_nil⟩)
                refine next_step rfl ?_
                (refine tr_store (.of rfl) (.of rfl) .here rfl rfl (okc_cons rfl okc_nil) (lenb rfl) norm_ ?_;refine n_t ?_)
                with_reducible refine left_done (by kernel_rfl) ?_
                (refine tr_then ?_;refine s_r ?_;refine m_v rfl rfl ?_;refine a_s rfl rfl ?_;refine n_t ?_;refine tr_ret ?_)
                try rw [hx2]
                try rw [hx3]
                first | with_reducible apply tr_retM | with_reducible apply tr_endM
                case he=>exact ends1 rfl rfl
                case hR=>
                  intro w' hm'
                  exact gives_end () trivial (show Takes _ [blk b (.cells #[.string (bsL (r.drop 2)),.bool (false || !B)] 251)] _ by exact .cons .here .nil) hm' rfl
            · refine next_step rfl ?_
              (refine tr_val (rk_pick_or (.of rfl) rfl) rfl ?_;refine n_t ?_)
              refine left_ready (rs:=[5]) (by kernel_rfl) (by simp) (List.forall_mem_cons.2 ⟨?_,fun _ h=>absurd h List.not_mem_nil⟩)
              refine next_step rfl ?_
              (refine tr_val (rk_load1 (.of rfl) (At.lit .here rfl)) rfl ?_;refine n_t ?_)
              refine left_take 6 rfl kr_ kr_ kr_ (fun w ρ=>rfl) (fun w=>(rk_sliceS_l (.of rfl) (.of rfl) (by omega) (by omega))) rfl ?_
              refine left_take 15 rfl kr_ kr_ kr_ (fun w ρ=>rfl) (fun w=>(rk_nilCheck (.of rfl))) rfl ?_
              refine left_take 16 rfl kr_ kr_ kr_ (fun w ρ=>rfl) (fun w=>(rk_fieldAddr (.of rfl) norm0_)) rfl ?_
              refine left_ready (rs:=[17]) (by kernel_rfl) (by simp) (List.forall_mem_cons.2 ⟨?_,fun _ h=>absurd h List.not_mem_nil⟩)
              refine next_step rfl ?_
              (refine tr_store (.of rfl) (.of rfl) .here rfl rfl (okc_cons rfl okc_nil) (lenb rfl) norm_ ?_;refine n_t ?_)
              refine left_take 18 rfl kr_ kr_ kr_ (fun w ρ=>rfl) (fun w=>(rk_nilCheck (.of rfl))) rfl ?_
              refine left_take 19 rfl kr_ kr_ kr_ (fun w ρ=>rfl) (fun w=>(rk_fieldAddr (.of rfl) norm0_)) rfl ?_
              refine left_ready (rs:=[20]) (by kernel_rfl) (by simp) (List.forall_mem_cons.2 ⟨?_,fun _ h=>absurd h List.not_mem_nil⟩)
              refine next_step rfl ?_
              (refine tr_store (.of rfl) (.of rfl) .here rfl rfl (okc_cons rfl okc_nil) (lenb rfl) norm_ ?_;refine n_t ?_)
              with_reducible refine left_done (by kernel_rfl) ?_
              (refine tr_then ?_;refine s_r ?_;refine m_v rfl rfl ?_;refine a_s rfl rfl ?_;refine n_t ?_;refine tr_ret ?_)
              try rw [hx2]
              try rw [hx3]
              first | with_reducible apply tr_retM | with_reducible apply tr_endM
              case he=>exact ends1 rfl rfl
              case hR=>
                intro w' hm'
                exact gives_end () trivial (show Takes _ [blk b (.cells #[.string (bsL (r.drop 2)),.bool (false || !B)] 251)] _ by exact .cons .here .nil) hm' rfl
end Go.Proofs.A1
