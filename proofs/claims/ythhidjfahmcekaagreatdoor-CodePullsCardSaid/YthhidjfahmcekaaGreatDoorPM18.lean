/- Parts of the proof: U3R. -/
import Derived.Test.YthhidjfahmcekaaGreatDoorPM17
import Derived.Test.YthhidjfahmcekaaGreatDoorPM06
set_option linter.unusedSectionVars false
set_option linter.unusedVariables false
set_option linter.unusedSimpArgs false
namespace Go.Proofs.A1
open Go Go.SL
theorem cut_kR {A B:Prop} (h:A → B) (k:A):B:=h k
theorem rk_quoE {P:Program} {c:Cx} {sl:Slots} {hs:List Asn} {dst:Option Tmp} {ty:TypeId} {pos:String} {af:Array Edge} {g:Option (Nat × Bool)} {t u:TypeId} {x y:Operand} {a b:Int} (q:Int) (hx:Is sl x (.int .i64 a)) (hy:Is sl y (.int .i64 b)) (h0:0 ≤ a) (h1:a ≤ 9223372036854775807) (hb:0 < b) (e:a / b = q):RunV P c sl hs ⟨dst,.binOp .quo t x y u,ty,pos,af,g⟩ (.int .i64 q):=e ▸ rk_quo hx hy h0 h1 hb
theorem rk_remE {P:Program} {c:Cx} {sl:Slots} {hs:List Asn} {dst:Option Tmp} {ty:TypeId} {pos:String} {af:Array Edge} {g:Option (Nat × Bool)} {t u:TypeId} {x y:Operand} {a b:Int} (q:Int) (hx:Is sl x (.int .i64 a)) (hy:Is sl y (.int .i64 b)) (h0:0 ≤ a) (hb:b ≠ 0) (e:a % b = q):RunV P c sl hs ⟨dst,.binOp .rem t x y u,ty,pos,af,g⟩ (.int .i64 q):=e ▸ rk_rem hx hy h0 hb
set_option maxHeartbeats 4000000 in
theorem pulls_law {sv:Value} {rp:List Int} {w:World} (h:Rd w sv 1 (intg rp)) (n:Int) (hn:0 ≤ n ∧ n ≤ 255) (f:Int) (hf:0 ≤ f ∧ f ≤ 255) (hG:GlobR w) (hT:Tab10 w):GivesV Tryz.prog 9 [sv,.int .u8 n,.int .u8 f] w (.bool true):=by
  have h':=h
  obtain ⟨a,cap,b,o,rfl,hcap,hmax,ha,hc⟩:=h'
  rw [intg_length] at *
  unfold maxLen at hmax
  refine givesV_of_tr Tryz.func9 rfl rfl ?_
  (refine s_r ?_;refine a_s rfl rfl ?_;refine n_t ?_;refine tr_seq ?_;refine s_r ?_;refine m_v rfl rfl ?_;refine tr_val (rk_len_slice (.of rfl)) rfl ?_;refine tr_val (rk_gtr (.of rfl) (.of rfl)) rfl ?_;refine m_v rfl rfl ?_;refine v_g rfl rfl rfl rfl ?_;refine tr_callVG1 rfl rfl (fun hg=>(rk_call (.of rfl) (.cons (.ofg hg rfl) .nil) inferInstance normc_)) rfl (fun hg w' hm'=>(cadQ_c (Rd.keeps h (Mem.keeps hm')))) ?_;refine tr_vG1 rfl rfl inferInstance (fun hg hgp=>(rk_neq (.ofg hg rfl) (.of rfl))) rfl ?_;refine tr_val (rk_pick_or (.of rfl) rfl) rfl ?_;refine n_t ?_;refine c_b rfl (fun hcd=>?_) (fun hcd=>?_);refine s_r ?_;refine tr_callV (rk_call (.of rfl) .nil inferInstance normc_) rfl (fun w' hm'=>(awake_c w' (GlobR.keeps hG (Mem.keeps hm')) (Tab10.keeps hT (Mem.keeps hm')))) ?_;refine a_s rfl rfl ?_;refine n_t ?_;refine r_t ?_;refine tr_retE rfl (ends1 rfl rfl) ?_;rotate_left;refine s_t ?_;refine s_r ?_;refine m_v rfl rfl ?_;refine tr_val (rk_conv (.of rfl)) rfl ?_;refine tr_val (rk_remT (.of rfl) (.of rfl) (by omega)) rfl ?_;refine a_s rfl rfl ?_;refine n_r ?_;refine m_v rfl rfl ?_;rotate_right)
  · rfl
  have hcd2:¬ 8 < rp.length ∧ cdE rp = 0:=by omega
  have hk:CdOk rp:=cdE_zero.1 hcd2.2
  clear hcd hcd2
  have hne:=hk.ne
  have hfew:=hk.few
  have ha':=ha (intg_ne (k:=0) (by omega))
  subst ha'
  have hF':(IntKind.i64.wrap n).tmod 61 = n % 61:=by rw [i64w (by omega),Int.tmod_eq_emod_of_nonneg hn.1]
  rw [hF']
  obtain ⟨m,hm⟩:∃ m:Nat,n % 61 = m:=⟨(n % 61).toNat,by omega⟩
  have hm60:m ≤ 60:=by omega
  rw [hm]
  clear hm hF' hn
  have hz:pulE rp (m:Nat) = 0:=pulE_zero.2 ⟨hk,by omega,by omega⟩
  have hpx:pulX rp (m:Nat) = pulF rp m:=by rw [pulX_zero hz,Int.toNat_natCast]
  skip
  with_reducible apply tr_call
  case hr=>exact rk_call (.of rfl) (.cons (.of rfl) .nil) inferInstance normc_
  case hd=>rfl
  case ht=>exact Takes.nil
  case hc=>
    intro w1 fp hm1 _ hs1
    obtain rfl:fp = []:=hs1
    exact intsV_c (h.keeps hm1.keeps) (by omega)
  intro v _
  dsimp only [id_eq,List.cons_append,List.nil_append]
  refine m_v rfl rfl ?_
  with_reducible apply tr_call
  case hr=>exact rk_call (.of rfl) (.cons (.of rfl) (.cons (.of rfl) .nil)) inferInstance normc_
  case hd=>rfl
  case ht=>exact Takes.nil
  case hc=>
    intro w1 fp hm1 _ hs1
    obtain rfl:fp = []:=hs1
    exact pulledX_c (n:=(m:Nat)) (intg_rd (E:=3) (v:=v) hm1 (by exact .here) rfl)
  intro p _
  dsimp only [id_eq,List.cons_append,List.nil_append]
  rw [hpx,hz]
  (refine m_v rfl rfl ?_;refine tr_val (rk_extract (.of rfl) rfl) rfl ?_;refine tr_val (rk_extract (.of rfl) rfl) rfl ?_;refine a_s rfl rfl ?_;refine a_s rfl rfl ?_;refine n_r ?_;refine a_s rfl rfl ?_;refine n_t ?_;refine tr_seq ?_;refine s_r ?_;refine m_v rfl rfl ?_;refine m_v rfl rfl ?_;refine n_t ?_;refine tr_block ?_)
  have hfm:=fld_max hk m
  have hpl:(pulF rp m).length = (fldL rp m).length / 2:=prsN_len _
  have hsm:=fun k=>sumR_len rp k
  have hmono:∀ k,k ≤ m → sumR rp k ≤ 240:=fun k hk2=>by
    have:=fld_max hk k
    rw [hsm];omega
  refine tr_for (ι:=Nat) (fun k=>k ≤ m) (fun k=>[(47,.int .i64 (k:Nat)),(46,.int .i64 (m:Nat)),(10,.int .i64 (sumR rp k:Nat)),(0,.slice (some ⟨b,o,none⟩) rp.length cap),(2,.int .u8 f),(7,.int .i64 (m:Nat)),(8,p),(9,.int .i64 0)]) (fun _=>[row 95 2 p (pulF rp m).length (prsV (pulF rp m))]) (fun k=>m - k) ?_ ?_
  · apply tr_start 0 (show (0:Nat) ≤ m from Nat.zero_le _)
    case hs1=>exact .cons rfl (.cons rfl (.cons rfl (.cons rfl (.cons rfl (.cons rfl (.cons rfl (.cons rfl .nil)))))))
    case ht=>exact .cons .here .nil
  intro k hkm
  by_cases hlt:k < m
  · have hmd:k % rp.length < rp.length:=Nat.mod_lt _ hne
    have c0:=ck hc hmd
    rw [rep_at hk k hmd] at c0
    have hr:=rep_in hk k
    have hem:((k:Nat):Int) % (rp.length:Nat) = ((k % rp.length:Nat):Int):=rfl
    have hs:=hmono k hkm
    have hsu:((sumR rp (k + 1):Nat):Int) = (sumR rp k:Nat) + (repF rp k:Nat):=by rw [sumR];push_cast;rfl
    (refine s_r ?_;refine tr_val (rk_lss (.of rfl) (.of rfl)) rfl ?_;refine n_t ?_;refine tr_seq ?_;refine c_d rfl (fun hcd=>?_) (fun _=>by omega);refine s_t ?_;refine tr_seq ?_;refine tr_block ?_;refine s_r ?_;refine m_v rfl rfl ?_;refine a_s rfl rfl ?_;refine n_t ?_;refine tr_region ?_;refine m_v rfl rfl ?_;refine m_v rfl rfl ?_;refine m_v rfl rfl ?_;refine m_v rfl rfl ?_;refine tr_val (rk_len_slice (.of rfl)) rfl ?_;refine tr_val (rk_rem (.of rfl) (.of rfl) (by omega) (by omega)) rfl ?_;refine tr_val (rk_indexAddr (.of rfl) (.of rfl) rfl (by omega) (by omega) norm1_) rfl ?_;refine tr_val (rk_load1 (.of rfl) (At.base c0 rfl)) rfl ?_;refine tr_val (rk_add (.of rfl) (.of rfl) (ini (by omega))) rfl ?_;refine a_s rfl rfl ?_;refine tr_nil ?_;refine tr_blk_normal ?_;refine tr_then ?_;refine tr_region ?_;refine tr_val (rk_add (.of rfl) (.of rfl) (ini (by omega))) rfl ?_;refine m_v rfl rfl ?_;refine n_t ?_)
    apply tr_next (k + 1) (show k + 1 ≤ m from hlt) (show m - (k + 1) < m - k by omega)
    case hs1=>
      rw [hsu]
      exact .cons rfl (.cons rfl (.cons rfl (.cons rfl (.cons rfl (.cons rfl (.cons rfl (.cons rfl .nil)))))))
    case ht=>exact .cons .here .nil
  obtain rfl:k = m:=by omega
  rw [hsm]
  generalize hL:(fldL rp k).length = L at *
  have hL2:((L:Nat):Int) / 2 = ((L / 2:Nat):Int):=by omega
  refine tr_rowSl (E:=95) (sz:=2) (v:=p) (by exact .here) fun ap cpp e=>?_
  subst e
  (refine s_r ?_;refine tr_val (rk_lss (.of rfl) (.of rfl)) rfl ?_;refine n_t ?_;refine tr_seq ?_;refine c_d rfl (fun _=>by omega) (fun hcd=>?_);refine x_t ?_;refine tr_then_exit ?_;refine tr_blk_exit ?_;refine tr_then ?_;refine tr_seq ?_;refine s_r ?_;refine m_v rfl rfl ?_;refine tr_val (rk_neq (.of rfl) (.of rfl)) rfl ?_;refine m_v rfl rfl ?_;refine v_g rfl rfl rfl rfl ?_;refine tr_vG1 rfl rfl inferInstance (fun hg hgp=>(rk_len_slice (.ofg hg rfl))) rfl ?_;refine v_g rfl rfl rfl rfl ?_;refine tr_vG1 rfl rfl inferInstance (fun hg hgp=>(rk_quo (.ofg hg rfl) (.of rfl) (by omega) (by omega) (by omega))) rfl ?_;refine tr_vG1 rfl rfl inferInstance (fun hg hgp=>(rk_neq (.ofg hg rfl) (.ofg hg rfl))) rfl ?_;refine tr_val (rk_pick_or (.of rfl) rfl) rfl ?_;refine n_t ?_;refine c_d rfl (fun _=>by omega) (fun hcd=>?_);refine s_t ?_;refine s_r ?_;refine m_v rfl rfl ?_)
  clear hcd
  with_reducible apply tr_new
  case hr=>
    with_reducible apply rk_make
    case hx=>exact Is.of rfl
    case hy=>exact Is.of rfl
    case hl=>omega
    case hb=>omega
    case hz=>rfl
    case hsz=>rfl
    case h63=>omega
  case hd=>rfl
  intro g hg
  rw [cntW_zero rp k]
  (refine a_s rfl rfl ?_;refine n_r ?_;refine a_s rfl rfl ?_;refine n_t ?_;refine tr_seq ?_;refine s_r ?_;refine m_v rfl rfl ?_;refine tr_val (rk_len_slice (.of rfl)) rfl ?_;refine m_v rfl rfl ?_;refine n_t ?_;refine tr_block ?_)
  apply cut_kR (A:=Tr _ [] [(110,.int .i64 0),(109,.int .i64 (k:Nat)),(108,.slice (some ⟨g,0,none⟩) k k),(0,.slice (some ⟨b,o,none⟩) rp.length cap),(2,.int .u8 f),(7,.int .i64 (k:Nat)),(8,.slice ap (pulF rp k).length cpp),(10,.int .i64 (L:Nat))] [blk g (.cells (cntW rp k (2 * (L / 2))).toArray 3 (0,0)),row 95 2 (.slice ap (pulF rp k).length cpp) (pulF rp k).length (prsV (pulF rp k))] _)
  · intro key
    by_cases hL0:0 < (pulF rp k).length
    · refine tr_rowOpen (E:=95) (sz:=2) (v:=.slice ap (pulF rp k).length cpp) (by exact Take.there .here) hL0 ?_
      intro g2 cap2 cur2 he2 hcap2 hmx2 hsz2 hxl2
      cases he2
      refine tr_for (ι:=Nat) (fun q=>q ≤ (pulF rp k).length) (fun q=>[(73,.int .i64 (q:Nat)),(72,.int .i64 ((pulF rp k).length:Nat)),(71,.slice (some ⟨g2,0,none⟩) (pulF rp k).length cpp),(12,.slice (some ⟨g,0,none⟩) k k),(13,.int .i64 (fldBe rp k (2 * q):Nat)),(0,.slice (some ⟨b,o,none⟩) rp.length cap),(2,.int .u8 f),(7,.int .i64 (k:Nat)),(8,.slice (some ⟨g2,0,none⟩) (pulF rp k).length cpp),(10,.int .i64 (L:Nat))]) (fun q=>[blk g (.cells (cntW rp k (2 * q)).toArray 3 (0,0)),blk g2 (.cells (prsV (pulF rp k)++cur2).toArray 95 (0,0))]) (fun q=>(pulF rp k).length - q) ?_ ?_
      · apply tr_start 0 (show (0:Nat) ≤ (pulF rp k).length from Nat.zero_le _)
        case hs1=>exact .cons rfl (.cons rfl (.cons rfl (.cons rfl (.cons rfl (.cons rfl (.cons rfl (.cons rfl (.cons rfl (.cons rfl .nil)))))))))
        case ht=>
          show Takes _ [blk g (.cells (cntW rp k 0).toArray 3 (0,0)),blk g2 (.cells (prsV (pulF rp k)++cur2).toArray 95 (0,0))] _
          exact .cons (.there .here) (.cons .here .nil)
      intro q hq
      by_cases hql:q < (pulF rp k).length
      · have hpg:=pul_get hql
        have hgd:(pulF rp k).getD q (0,0) = (fldAt rp k (2 * q),fldAt rp k (2 * q + 1)):=by rw [List.getD_eq_getElem?_getD,List.getElem?_eq_getElem hql,hpg];rfl
        have a0:=prs_at0 (pulF rp k) q cur2 hql
        have a1:=prs_at1 (pulF rp k) q cur2 hql
        rw [hgd] at a0 a1
        have hK0:2 * q < (fldL rp k).length:=by omega
        have hK1:2 * q + 1 < (fldL rp k).length:=by omega
        have s0:=fld_step hk k (2 * q) hK0
        have s1:=fld_step hk k (2 * q + 1) hK1
        rw [fldBe_succ] at s1
        have b0:=fld_le hk k (2 * q) (by omega)
        have b2:=fldBe_succ rp k (2 * q + 1)
        have g0:=cntW_get (rp:=rp) (K:=2 * q) (i:=fldAt rp k (2 * q)) s0.2.2.1
        have g1:=cntW_get (rp:=rp) (K:=2 * q + 1) (i:=fldAt rp k (2 * q + 1)) s1.2.2.1
        have w0:=cntW_set s0.2.2.1 hK0 rfl
        have w1:=cntW_set s1.2.2.1 hK1 rfl
        have l0:=cnt_le rp k (2 * q) (fldAt rp k (2 * q))
        have l1:=cnt_le rp k (2 * q + 1) (fldAt rp k (2 * q + 1))
        have n0:=cntW_len rp k (2 * q)
        have n1:=cntW_len rp k (2 * q + 1)
        have ec:cellsAt (prsV (pulF rp k)++cur2) (q * 2) 2 = [.int .i64 (fldAt rp k (2 * q):Nat),.int .i64 (fldAt rp k (2 * q + 1):Nat)]:=cellsAt_two a0 a1
        generalize fldAt rp k (2 * q) = f0 at *
        generalize fldAt rp k (2 * q + 1) = f1 at *
        generalize fldBe rp k (2 * q) = fb at *
        (refine s_r ?_;refine tr_val (rk_lss (.of rfl) (.of rfl)) rfl ?_;refine n_t ?_;refine tr_seq ?_;refine c_d rfl (fun hcd=>?_) (fun _=>by omega);refine s_t ?_;refine tr_seq ?_;refine tr_block ?_;refine s_r ?_;refine tr_val (rk_indexAddr (.of rfl) (.of rfl) rfl (by omega) hcd norm1_) rfl ?_;refine tr_val (rk_loadB (.of rfl) (.there .here) ec rfl) rfl ?_;refine tr_new (rk_alloc rfl) rfl (fun _ _=>?_);refine tr_store (.of rfl) (.of rfl) .here rfl rfl (okc_cons rfl (okc_cons rfl okc_nil)) (lenb rfl) norm_ ?_;refine n_r ?_;refine tr_val (rk_loadB (.of rfl) .here norm_ (by rfl)) rfl ?_;refine m_v rfl rfl ?_;refine n_t ?_;refine tr_block ?_)
        refine tr_for (ι:=Nat) (fun j=>j ≤ 2) (fun j=>[(78,.int .i64 (j:Nat)),(77,.agg #[.int .i64 (f0:Nat),.int .i64 (f1:Nat)]),(73,.int .i64 (q:Nat)),(72,.int .i64 ((pulF rp k).length:Nat)),(71,.slice (some ⟨g2,0,none⟩) (pulF rp k).length cpp),(12,.slice (some ⟨g,0,none⟩) k k),(13,.int .i64 (if j = 0 then fb else if j = 1 then f0 else f1:Nat)),(0,.slice (some ⟨b,o,none⟩) rp.length cap),(2,.int .u8 f),(7,.int .i64 (k:Nat)),(8,.slice (some ⟨g2,0,none⟩) (pulF rp k).length cpp),(10,.int .i64 (L:Nat))]) (fun j=>[blk g (.cells (cntW rp k (2 * q + j)).toArray 3 (0,0)),blk g2 (.cells (prsV (pulF rp k)++cur2).toArray 95 (0,0))]) (fun j=>2 - j) ?_ ?_
        · apply tr_start 0 (show (0:Nat) ≤ 2 by omega)
          case hs1=>exact .cons rfl (.cons rfl (.cons rfl (.cons rfl (.cons rfl (.cons rfl (.cons rfl (.cons rfl (.cons rfl (.cons rfl (.cons rfl (.cons rfl .nil)))))))))))
          case ht=>
            show Takes _ [blk g (.cells (cntW rp k (2 * q)).toArray 3 (0,0)),blk g2 (.cells (prsV (pulF rp k)++cur2).toArray 95 (0,0))] _
            exact .cons (.there .here) (.cons (.there .here) .nil)
        intro j hj
        by_cases hlj:j < 2
        · obtain rfl | rfl:j = 0 ∨ j = 1:=by omega
          · show Tr _ [] [(78,.int .i64 (0:Nat)),(77,.agg #[.int .i64 (f0:Nat),.int .i64 (f1:Nat)]),(73,.int .i64 (q:Nat)),(72,.int .i64 ((pulF rp k).length:Nat)),(71,.slice (some ⟨g2,0,none⟩) (pulF rp k).length cpp),(12,.slice (some ⟨g,0,none⟩) k k),(13,.int .i64 (fb:Nat)),(0,.slice (some ⟨b,o,none⟩) rp.length cap),(2,.int .u8 f),(7,.int .i64 (k:Nat)),(8,.slice (some ⟨g2,0,none⟩) (pulF rp k).length cpp),(10,.int .i64 (L:Nat))] [blk g (.cells (cntW rp k (2 * q)).toArray 3 (0,0)),blk g2 (.cells (prsV (pulF rp k)++cur2).toArray 95 (0,0))] _
            have m0:f0 * 1 + 1 ≤ (cntW rp k (2 * q)).length:=by omega
            (refine s_r ?_;refine tr_val (rk_lss (.of rfl) (.of rfl)) rfl ?_;refine n_t ?_;refine tr_seq ?_;refine c_d rfl (fun hcd=>?_) (fun _=>by omega);refine s_t ?_;refine tr_seq ?_;refine tr_block ?_;refine s_r ?_;refine tr_val (rk_index (.of rfl) (.of rfl) (by omega) hcd norm_) rfl ?_;refine a_s rfl rfl ?_;refine n_t ?_;refine tr_seq ?_;refine s_r ?_;refine m_v rfl rfl ?_;refine m_v rfl rfl ?_;refine tr_val (rk_lss (.of rfl) (.of rfl)) rfl ?_;refine m_v rfl rfl ?_;refine v_g rfl rfl rfl rfl ?_;refine v_g rfl rfl rfl rfl ?_;refine tr_vG1 rfl rfl inferInstance (fun hg hgp=>(rk_add (.ofg hg rfl) (.of rfl) (ini (by omega)))) rfl ?_;refine tr_vG1 rfl rfl inferInstance (fun hg hgp=>(rk_gtr (.ofg hg rfl) (.ofg hg rfl))) rfl ?_;refine tr_val (rk_pick_or (.of rfl) rfl) rfl ?_;refine m_v rfl rfl ?_;refine v_g rfl rfl rfl rfl ?_;refine tr_vG1 rfl rfl inferInstance (fun hg hgp=>(rk_lss (.ofg hg rfl) (.of rfl))) rfl ?_;refine tr_val (rk_pick_or (.of rfl) rfl) rfl ?_;refine m_v rfl rfl ?_;refine v_g rfl rfl rfl rfl ?_;refine v_g rfl rfl rfl rfl ?_;refine tr_vG1 rfl rfl inferInstance (fun hg hgp=>(rk_geq (.ofg hg rfl) (.ofg hg rfl))) rfl ?_;refine tr_val (rk_pick_or (.of rfl) rfl) rfl ?_;refine n_t ?_;refine c_b rfl (fun _=>by omega) (fun hcd=>?_);refine s_t ?_;refine s_r ?_;refine m_v rfl rfl ?_;refine m_v rfl rfl ?_;refine tr_val (rk_indexAddr (.of rfl) (.of rfl) rfl (by omega) (by omega) norm1_) rfl ?_;refine tr_val (rk_load1 (.of rfl) (At.blkL .here g0)) rfl ?_;refine tr_val (rk_add (.of rfl) (.of rfl) (ini (by omega))) rfl ?_;refine tr_val (rk_indexAddr (.of rfl) (.of rfl) rfl (by omega) (by omega) norm1_) rfl ?_;refine tr_store (.of rfl) (.of rfl) .here rfl rfl (okc_cons rfl okc_nil) m0 w0 ?_;refine n_t ?_;refine tr_region ?_;refine m_v rfl rfl ?_;refine a_s rfl rfl ?_;refine tr_nil ?_;refine tr_blk_normal ?_;refine tr_then ?_;refine tr_region ?_;refine tr_val (rk_add (.of rfl) (.of rfl) (ini (by omega))) rfl ?_;refine m_v rfl rfl ?_;refine n_t ?_)
            apply tr_next (Φ:=fun j:Nat=>j ≤ 2) 1 (show 1 ≤ 2 from of_decide_eq_true rfl) (by show 2 - 1 < 2 - 0;omega)
            case hs1=>
              show Subs _ [(78,.int .i64 (1:Nat)),(77,.agg #[.int .i64 (f0:Nat),.int .i64 (f1:Nat)]),(73,.int .i64 (q:Nat)),(72,.int .i64 ((pulF rp k).length:Nat)),(71,.slice (some ⟨g2,0,none⟩) (pulF rp k).length cpp),(12,.slice (some ⟨g,0,none⟩) k k),(13,.int .i64 (f0:Nat)),(0,.slice (some ⟨b,o,none⟩) rp.length cap),(2,.int .u8 f),(7,.int .i64 (k:Nat)),(8,.slice (some ⟨g2,0,none⟩) (pulF rp k).length cpp),(10,.int .i64 (L:Nat))]
              exact .cons rfl (.cons rfl (.cons rfl (.cons rfl (.cons rfl (.cons rfl (.cons rfl (.cons rfl (.cons rfl (.cons rfl (.cons rfl (.cons rfl .nil)))))))))))
            case ht=>
              show Takes _ [blk g (.cells (cntW rp k (2 * q + 1)).toArray 3 (0,0)),blk g2 (.cells (prsV (pulF rp k)++cur2).toArray 95 (0,0))] _
              exact .cons .here (.cons .here .nil)
          · show Tr _ [] [(78,.int .i64 (1:Nat)),(77,.agg #[.int .i64 (f0:Nat),.int .i64 (f1:Nat)]),(73,.int .i64 (q:Nat)),(72,.int .i64 ((pulF rp k).length:Nat)),(71,.slice (some ⟨g2,0,none⟩) (pulF rp k).length cpp),(12,.slice (some ⟨g,0,none⟩) k k),(13,.int .i64 (f0:Nat)),(0,.slice (some ⟨b,o,none⟩) rp.length cap),(2,.int .u8 f),(7,.int .i64 (k:Nat)),(8,.slice (some ⟨g2,0,none⟩) (pulF rp k).length cpp),(10,.int .i64 (L:Nat))] [blk g (.cells (cntW rp k (2 * q + 1)).toArray 3 (0,0)),blk g2 (.cells (prsV (pulF rp k)++cur2).toArray 95 (0,0))] _
            have m1:f1 * 1 + 1 ≤ (cntW rp k (2 * q + 1)).length:=by omega
            (refine s_r ?_;refine tr_val (rk_lss (.of rfl) (.of rfl)) rfl ?_;refine n_t ?_;refine tr_seq ?_;refine c_d rfl (fun hcd=>?_) (fun _=>by omega);refine s_t ?_;refine tr_seq ?_;refine tr_block ?_;refine s_r ?_;refine tr_val (rk_index (.of rfl) (.of rfl) (by omega) hcd norm_) rfl ?_;refine a_s rfl rfl ?_;refine n_t ?_;refine tr_seq ?_;refine s_r ?_;refine m_v rfl rfl ?_;refine m_v rfl rfl ?_;refine tr_val (rk_lss (.of rfl) (.of rfl)) rfl ?_;refine m_v rfl rfl ?_;refine v_g rfl rfl rfl rfl ?_;refine v_g rfl rfl rfl rfl ?_;refine tr_vG1 rfl rfl inferInstance (fun hg hgp=>(rk_add (.ofg hg rfl) (.of rfl) (ini (by omega)))) rfl ?_;refine tr_vG1 rfl rfl inferInstance (fun hg hgp=>(rk_gtr (.ofg hg rfl) (.ofg hg rfl))) rfl ?_;refine tr_val (rk_pick_or (.of rfl) rfl) rfl ?_;refine m_v rfl rfl ?_;refine v_g rfl rfl rfl rfl ?_;refine tr_vG1 rfl rfl inferInstance (fun hg hgp=>(rk_lss (.ofg hg rfl) (.of rfl))) rfl ?_;refine tr_val (rk_pick_or (.of rfl) rfl) rfl ?_;refine m_v rfl rfl ?_;refine v_g rfl rfl rfl rfl ?_;refine v_g rfl rfl rfl rfl ?_;refine tr_vG1 rfl rfl inferInstance (fun hg hgp=>(rk_geq (.ofg hg rfl) (.ofg hg rfl))) rfl ?_;refine tr_val (rk_pick_or (.of rfl) rfl) rfl ?_;refine n_t ?_;refine c_b rfl (fun _=>by omega) (fun hcd=>?_);refine s_t ?_;refine s_r ?_;refine m_v rfl rfl ?_;refine m_v rfl rfl ?_;refine tr_val (rk_indexAddr (.of rfl) (.of rfl) rfl (by omega) (by omega) norm1_) rfl ?_;refine tr_val (rk_load1 (.of rfl) (At.blkL .here g1)) rfl ?_;refine tr_val (rk_add (.of rfl) (.of rfl) (ini (by omega))) rfl ?_;refine tr_val (rk_indexAddr (.of rfl) (.of rfl) rfl (by omega) (by omega) norm1_) rfl ?_;refine tr_store (.of rfl) (.of rfl) .here rfl rfl (okc_cons rfl okc_nil) m1 w1 ?_;refine n_t ?_;refine tr_region ?_;refine m_v rfl rfl ?_;refine a_s rfl rfl ?_;refine tr_nil ?_;refine tr_blk_normal ?_;refine tr_then ?_;refine tr_region ?_;refine tr_val (rk_add (.of rfl) (.of rfl) (ini (by omega))) rfl ?_;refine m_v rfl rfl ?_;refine n_t ?_)
            apply tr_next (Φ:=fun j:Nat=>j ≤ 2) 2 (show 2 ≤ 2 from of_decide_eq_true rfl) (by show 2 - 2 < 2 - 1;omega)
            case hs1=>
              show Subs _ [(78,.int .i64 (2:Nat)),(77,.agg #[.int .i64 (f0:Nat),.int .i64 (f1:Nat)]),(73,.int .i64 (q:Nat)),(72,.int .i64 ((pulF rp k).length:Nat)),(71,.slice (some ⟨g2,0,none⟩) (pulF rp k).length cpp),(12,.slice (some ⟨g,0,none⟩) k k),(13,.int .i64 (f1:Nat)),(0,.slice (some ⟨b,o,none⟩) rp.length cap),(2,.int .u8 f),(7,.int .i64 (k:Nat)),(8,.slice (some ⟨g2,0,none⟩) (pulF rp k).length cpp),(10,.int .i64 (L:Nat))]
              exact .cons rfl (.cons rfl (.cons rfl (.cons rfl (.cons rfl (.cons rfl (.cons rfl (.cons rfl (.cons rfl (.cons rfl (.cons rfl (.cons rfl .nil)))))))))))
            case ht=>
              show Takes _ [blk g (.cells (cntW rp k (2 * q + 1 + 1)).toArray 3 (0,0)),blk g2 (.cells (prsV (pulF rp k)++cur2).toArray 95 (0,0))] _
              exact .cons .here (.cons .here .nil)
        · obtain rfl:j = 2:=by omega
          show Tr _ [] [(78,.int .i64 (2:Nat)),(77,.agg #[.int .i64 (f0:Nat),.int .i64 (f1:Nat)]),(73,.int .i64 (q:Nat)),(72,.int .i64 ((pulF rp k).length:Nat)),(71,.slice (some ⟨g2,0,none⟩) (pulF rp k).length cpp),(12,.slice (some ⟨g,0,none⟩) k k),(13,.int .i64 (f1:Nat)),(0,.slice (some ⟨b,o,none⟩) rp.length cap),(2,.int .u8 f),(7,.int .i64 (k:Nat)),(8,.slice (some ⟨g2,0,none⟩) (pulF rp k).length cpp),(10,.int .i64 (L:Nat))] [blk g (.cells (cntW rp k (2 * q + 1 + 1)).toArray 3 (0,0)),blk g2 (.cells (prsV (pulF rp k)++cur2).toArray 95 (0,0))] _
          (refine s_r ?_;refine tr_val (rk_lss (.of rfl) (.of rfl)) rfl ?_;refine n_t ?_;refine tr_seq ?_;refine c_d rfl (fun _=>by omega) (fun hcd=>?_);refine x_t ?_;refine tr_then_exit ?_;refine tr_blk_exit ?_;refine tr_blk_normal ?_;refine tr_then ?_;refine tr_region ?_;refine tr_val (rk_add (.of rfl) (.of rfl) (ini (by omega))) rfl ?_;refine m_v rfl rfl ?_;refine n_t ?_)
          apply tr_next (q + 1) (show q + 1 ≤ (pulF rp k).length from hql) (show (pulF rp k).length - (q + 1) < (pulF rp k).length - q by omega)
          case hs1=>
            rw [show fldBe rp k (2 * (q + 1)) = f1 from b2]
            exact .cons rfl (.cons rfl (.cons rfl (.cons rfl (.cons rfl (.cons rfl (.cons rfl (.cons rfl (.cons rfl (.cons rfl .nil)))))))))
          case ht=>
            show Takes _ [blk g (.cells (cntW rp k (2 * q + 1 + 1)).toArray 3 (0,0)),blk g2 (.cells (prsV (pulF rp k)++cur2).toArray 95 (0,0))] _
            exact .cons .here (.cons .here .nil)
      · obtain rfl:q = (pulF rp k).length:=by omega
        refine tr_rowShut (g:=g2) (E:=95) (sz:=2) (n:=(pulF rp k).length) (cap:=cpp) (xs:=prsV (pulF rp k)) (cur:=cur2) (by exact Take.there .here) hcap2 hmx2 hsz2 hxl2 ?_
        (refine s_r ?_;refine tr_val (rk_lss (.of rfl) (.of rfl)) rfl ?_;refine n_t ?_;refine tr_seq ?_;refine c_d rfl (fun _=>by omega) (fun hcd=>?_);refine x_t ?_;refine tr_then_exit ?_;refine tr_blk_exit ?_;refine tr_then ?_;refine tr_seq ?_;refine s_r ?_;refine m_v rfl rfl ?_;refine tr_val (rk_len_slice (.of rfl)) rfl ?_;refine m_v rfl rfl ?_;refine n_t ?_;refine tr_block ?_)
        exact tr_cutW _ _ (by exact .cons rfl (.cons rfl (.cons rfl (.cons rfl (.cons rfl (.cons rfl (.cons rfl (.cons rfl .nil)))))))) (by rw [← hpl];exact .cons (.there .here) (.cons .here .nil)) key
    · refine tr_for (ι:=Nat) (fun _=>True) (fun _=>[(73,.int .i64 (0:Nat)),(72,.int .i64 ((pulF rp k).length:Nat)),(71,.slice ap (pulF rp k).length cpp),(12,.slice (some ⟨g,0,none⟩) k k),(13,.int .i64 (0:Nat)),(0,.slice (some ⟨b,o,none⟩) rp.length cap),(2,.int .u8 f),(7,.int .i64 (k:Nat)),(8,.slice ap (pulF rp k).length cpp),(10,.int .i64 (L:Nat))]) (fun _=>[blk g (.cells (cntW rp k 0).toArray 3 (0,0)),row 95 2 (.slice ap (pulF rp k).length cpp) (pulF rp k).length (prsV (pulF rp k))]) (fun k=>k) ?_ ?_
      · apply tr_start 0 trivial
        case hs1=>exact .cons rfl (.cons rfl (.cons rfl (.cons rfl (.cons rfl (.cons rfl (.cons rfl (.cons rfl (.cons rfl (.cons rfl .nil)))))))))
        case ht=>exact .cons .here (.cons .here .nil)
      intro q _
      (refine s_r ?_;refine tr_val (rk_lss (.of rfl) (.of rfl)) rfl ?_;refine n_t ?_;refine tr_seq ?_;refine c_d rfl (fun _=>by omega) (fun hcd=>?_);refine x_t ?_;refine tr_then_exit ?_;refine tr_blk_exit ?_;refine tr_then ?_;refine tr_seq ?_;refine s_r ?_;refine m_v rfl rfl ?_;refine tr_val (rk_len_slice (.of rfl)) rfl ?_;refine m_v rfl rfl ?_;refine n_t ?_;refine tr_block ?_)
      have h0:2 * (L / 2) = 0:=by omega
      rw [h0] at key
      exact tr_cutW _ _ (by exact .cons rfl (.cons rfl (.cons rfl (.cons rfl (.cons rfl (.cons rfl (.cons rfl (.cons rfl .nil)))))))) (by exact .cons .here (.cons .here .nil)) key
  · refine tr_for (ι:=Nat) (fun i=>i ≤ k) (fun i=>[(110,.int .i64 (i:Nat)),(109,.int .i64 (k:Nat)),(108,.slice (some ⟨g,0,none⟩) k k),(0,.slice (some ⟨b,o,none⟩) rp.length cap),(2,.int .u8 f),(7,.int .i64 (k:Nat)),(8,.slice ap (pulF rp k).length cpp),(10,.int .i64 (L:Nat))]) (fun _=>[blk g (.cells (cntW rp k (2 * (L / 2))).toArray 3 (0,0)),row 95 2 (.slice ap (pulF rp k).length cpp) (pulF rp k).length (prsV (pulF rp k))]) (fun i=>k - i) ?_ ?_
    · apply tr_start 0 (show (0:Nat) ≤ k from Nat.zero_le _)
      case hs1=>exact .cons rfl (.cons rfl (.cons rfl (.cons rfl (.cons rfl (.cons rfl (.cons rfl (.cons rfl .nil)))))))
      case ht=>exact .cons .here (.cons .here .nil)
    intro i hi
    by_cases hik:i < k
    · have hmd:i % rp.length < rp.length:=Nat.mod_lt _ hne
      have c0:=ck hc hmd
      rw [rep_at hk i hmd] at c0
      have hr:=rep_in hk i
      have hem:((i:Nat):Int) % (rp.length:Nat) = ((i % rp.length:Nat):Int):=rfl
      have hce:=cnt_end hk hik
      rw [hL] at hce
      have gi:=cntW_get (rp:=rp) (K:=2 * (L / 2)) hik
      generalize cntF rp k (2 * (L / 2)) i = c at hce gi
      (refine s_r ?_;refine tr_val (rk_lss (.of rfl) (.of rfl)) rfl ?_;refine n_t ?_;refine tr_seq ?_;refine c_d rfl (fun hcd=>?_) (fun _=>by omega);refine s_t ?_;refine tr_seq ?_;refine tr_block ?_;refine s_r ?_;refine m_v rfl rfl ?_;refine tr_val (rk_indexAddr (.of rfl) (.of rfl) rfl (by omega) hcd norm1_) rfl ?_;refine tr_val (rk_load1 (.of rfl) (At.blkL .here gi)) rfl ?_;refine a_s rfl rfl ?_;refine a_s rfl rfl ?_;refine n_r ?_;refine m_v rfl rfl ?_;refine m_v rfl rfl ?_;refine m_v rfl rfl ?_;refine m_v rfl rfl ?_;refine tr_val (rk_len_slice (.of rfl)) rfl ?_;refine tr_val (rk_rem (.of rfl) (.of rfl) (by omega) (by omega)) rfl ?_;refine tr_val (rk_indexAddr (.of rfl) (.of rfl) rfl (by omega) (by omega) norm1_) rfl ?_;refine tr_val (rk_load1 (.of rfl) (At.base c0 rfl)) rfl ?_;refine tr_val (rk_neq (.of rfl) (.of rfl)) rfl ?_;refine m_v rfl rfl ?_;refine v_g rfl rfl rfl rfl ?_;refine v_g rfl rfl rfl rfl ?_;refine tr_vG1 rfl rfl inferInstance (fun hg hgp=>(rk_sub (.ofg hg rfl) (.of rfl) (ini (by omega)))) rfl ?_;refine tr_vG1 rfl rfl inferInstance (fun hg hgp=>(rk_lss (.ofg hg rfl) (.ofg hg rfl))) rfl ?_;refine tr_vG1 rfl rfl inferInstance (fun hg hgp=>(rk_move (.ofg hg rfl))) rfl ?_;refine tr_vG rfl rfl inferInstance (fun hg hgp=>(rk_move (.of rfl))) rfl ?_;refine tr_vG rfl rfl inferInstance (fun hg hgp=>(rk_move (.of rfl))) rfl ?_;refine tr_vG rfl rfl inferInstance (fun hg hgp=>(rk_move (.of rfl))) rfl ?_;refine tr_vG rfl rfl inferInstance (fun hg hgp=>(rk_move (.of rfl))) rfl ?_;refine tr_vG rfl rfl inferInstance (fun hg hgp=>(rk_len_slice (.ofg hg rfl))) rfl ?_;refine tr_vG rfl rfl inferInstance (fun hg hgp=>(rk_rem (.ofg hg rfl) (.ofg hg rfl) (by omega) (by omega))) rfl ?_;refine tr_vG rfl rfl inferInstance (fun hg hgp=>(rk_indexAddr (.ofg hg rfl) (.ofg hg rfl) rfl (by omega) (by omega) norm1_)) rfl ?_;refine tr_vG rfl rfl inferInstance (fun hg hgp=>(rk_load1 (.ofg hg rfl) (At.base c0 rfl))) rfl ?_;refine tr_vG rfl rfl inferInstance (fun hg hgp=>(rk_sub (.ofg hg rfl) (.of rfl) (ini (by omega)))) rfl ?_;refine tr_vG rfl rfl inferInstance (fun hg hgp=>(rk_neq (.ofg hg rfl) (.ofg hg rfl))) rfl ?_;refine tr_vG1 rfl rfl inferInstance (fun hg hgp=>(rk_pick_or' hg (.ofg hg rfl) rfl)) rfl ?_;refine tr_vG1 rfl rfl inferInstance (fun hg hgp=>(rk_move (.ofg hg rfl))) rfl ?_;refine tr_vG rfl rfl inferInstance (fun hg hgp=>(rk_move (.of rfl))) rfl ?_;refine tr_vG rfl rfl inferInstance (fun hg hgp=>(rk_rem (.ofg hg rfl) (.of rfl) (by omega) (by omega))) rfl ?_;refine tr_vG rfl rfl inferInstance (fun hg hgp=>(rk_eql (.ofg hg rfl) (.of rfl))) rfl ?_;refine tr_vG1 rfl rfl inferInstance (fun hg hgp=>(rk_pick_or' hg (.ofg hg rfl) rfl)) rfl ?_;refine tr_val (rk_pick_and (.of rfl) rfl) rfl ?_;refine n_t ?_;refine c_b rfl (fun _=>by omega) (fun hcd=>?_);refine tr_skip ?_;refine tr_blk_normal ?_;refine tr_then ?_;refine tr_region ?_;refine tr_val (rk_add (.of rfl) (.of rfl) (ini (by omega))) rfl ?_;refine m_v rfl rfl ?_;refine n_t ?_)
      apply tr_next (i + 1) (show i + 1 ≤ k from hik) (show k - (i + 1) < k - i by omega)
      case hs1=>exact .cons rfl (.cons rfl (.cons rfl (.cons rfl (.cons rfl (.cons rfl (.cons rfl (.cons rfl .nil)))))))
      case ht=>exact .cons .here (.cons .here .nil)
    obtain rfl:i = k:=by omega
    have hid0:=Int.emod_nonneg (((i:Nat):Int) - 1 + (rp.length:Nat)) (show ((rp.length:Nat):Int) ≠ 0 by omega)
    have hid1:=Int.emod_lt_of_pos (((i:Nat):Int) - 1 + (rp.length:Nat)) (show (0:Int) < (rp.length:Nat) by omega)
    obtain ⟨x,hx⟩:∃ x:Nat,(((i:Nat):Int) - 1 + (rp.length:Nat)) % (rp.length:Nat) = (x:Nat):=⟨_,(Int.toNat_of_nonneg hid0).symm⟩
    have hxl:x < rp.length:=by omega
    have c1:w.cell? ⟨b,o + ((((i:Nat):Int) - 1 + (rp.length:Nat)) % (rp.length:Nat)).toNat * 1,none⟩ = some (.int .i64 rp[x]):=by
      rw [hx,Int.toNat_natCast];exact ck hc hxl
    have hu1:L % 2 = 1 → (rp[x] = 1 ↔ repF rp (i - 1) = 1):=fun ho=>by
      have hi1:1 ≤ i:=by omega
      have e1:x = (i - 1) % rp.length:=by
        have h1:(((i:Nat):Int) - 1 + (rp.length:Nat)) % (rp.length:Nat) = ((((i - 1:Nat)):Int)) % (rp.length:Nat):=by
          rw [Int.add_emod_right,show ((i:Nat):Int) - 1 = ((i - 1:Nat):Int) by omega]
        rw [h1] at hx
        have h2:(((i - 1:Nat)):Int) % (rp.length:Nat) = (((i - 1) % rp.length:Nat):Int):=rfl
        omega
      subst e1
      rw [rep_at hk (i - 1) hxl]
      omega
    have hu2:undN rp i = if L % 2 = 1 ∧ repF rp (i - 1) = 1 then i - 1 else i:=by unfold undN;rw [hL]
    have hL0:L % 2 = 1 → 1 ≤ i:=fun h=>by omega
    obtain ⟨hf1,hf2⟩:=und_found hk hm60
    obtain ⟨xv,hxv⟩:∃ xv,rp[x] = xv:=⟨_,rfl⟩
    rw [hxv] at c1 hu1
    apply cut_kR (A:=Tr _ [] [(169,.slice (some ⟨b,o,none⟩) rp.length cap),(20,.int .i64 (undN rp i:Nat)),(0,.slice (some ⟨b,o,none⟩) rp.length cap),(2,.int .u8 f),(8,.slice ap (pulF rp i).length cpp)] [row 95 2 (.slice ap (pulF rp i).length cpp) (pulF rp i).length (prsV (pulF rp i))] _)
    · intro key
      (refine s_r ?_;refine tr_val (rk_lss (.of rfl) (.of rfl)) rfl ?_;refine n_t ?_;refine tr_seq ?_;refine c_d rfl (fun _=>by omega) (fun hcd=>?_);refine x_t ?_;refine tr_then_exit ?_;refine tr_blk_exit ?_;refine tr_then ?_;refine s_r ?_;refine m_v rfl rfl ?_;refine a_s rfl rfl ?_;refine n_t ?_;refine tr_seq ?_;refine s_r ?_;refine m_v rfl rfl ?_;refine tr_val (rk_rem (.of rfl) (.of rfl) (by omega) (by omega)) rfl ?_;refine tr_val (rk_eql (.of rfl) (.of rfl)) rfl ?_;refine m_v rfl rfl ?_;refine v_g rfl rfl rfl rfl ?_;refine v_g rfl rfl rfl rfl ?_;refine tr_vG1 rfl rfl inferInstance (fun hg hgp=>(rk_sub (.ofg hg rfl) (.of rfl) (ini (by omega)))) rfl ?_;refine v_g rfl rfl rfl rfl ?_;refine tr_vG1 rfl rfl inferInstance (fun hg hgp=>(rk_len_slice (.ofg hg rfl))) rfl ?_;refine tr_vG1 rfl rfl inferInstance (fun hg hgp=>(rk_add (.ofg hg rfl) (.ofg hg rfl) (ini (by omega)))) rfl ?_;refine v_g rfl rfl rfl rfl ?_;refine tr_vG1 rfl rfl inferInstance (fun hg hgp=>(rk_len_slice (.ofg hg rfl))) rfl ?_;refine tr_vG1 rfl rfl inferInstance (fun hg hgp=>(rk_rem (.ofg hg rfl) (.ofg hg rfl) (by omega) (by omega))) rfl ?_;refine tr_vG1 rfl rfl inferInstance (fun hg hgp=>(rk_indexAddr (.ofg hg rfl) (.ofg hg rfl) rfl hid0 hid1 norm1_)) rfl ?_;refine tr_vG1 rfl rfl inferInstance (fun hg hgp=>(rk_load1 (.ofg hg rfl) (At.base c1 rfl))) rfl ?_;refine tr_vG1 rfl rfl inferInstance (fun hg hgp=>(rk_eql (.ofg hg rfl) (.of rfl))) rfl ?_;refine tr_val (rk_pick_and (.of rfl) rfl) rfl ?_;refine n_t ?_;refine c_b rfl (fun hcd=>?_) (fun hcd=>?_);refine tr_region ?_;refine m_v rfl rfl ?_;refine tr_val (rk_sub (.of rfl) (.of rfl) (ini (by omega))) rfl ?_;refine a_s rfl rfl ?_;refine n_r ?_;refine m_v rfl rfl ?_;rotate_left;refine s_t ?_;refine s_r ?_;refine m_v rfl rfl ?_;rotate_right)
      · have h1:=hu1 (by omega)
        rw [if_pos ⟨by omega,h1.1 (by omega)⟩] at hu2
        rw [hu2,show ((i - 1:Nat):Int) = (i:Int) - 1 by have:=hL0 (by omega);omega] at key
        exact tr_cutW _ _ (by exact .cons rfl (.cons rfl (.cons rfl (.cons rfl (.cons rfl .nil))))) (by exact .cons (.there .here) .nil) key
      · rw [if_neg (by rintro ⟨h1,h2⟩;have:=(hu1 h1).2 h2;omega)] at hu2
        rw [hu2] at key
        exact tr_cutW _ _ (by exact .cons rfl (.cons rfl (.cons rfl (.cons rfl (.cons rfl .nil))))) (by exact .cons (.there .here) .nil) key
    · have hpl60:(pulF rp i).length ≤ 120:=by omega
      with_reducible apply tr_call
      case hr=>exact rk_call (.of rfl) (.cons (.of rfl) .nil) inferInstance normc_
      case hd=>rfl
      case ht=>exact Takes.nil
      case hc=>
        intro w1 fp hm1 _ hs1
        obtain rfl:fp = []:=hs1
        exact intsV_c (h.keeps hm1.keeps) (by omega)
      intro v4 _
      dsimp only [id_eq,List.cons_append,List.nil_append]
      refine m_v rfl rfl ?_
      with_reducible apply tr_call
      case hr=>exact rk_call (.of rfl) (.cons (.of rfl) .nil) inferInstance normc_
      case hd=>rfl
      case ht=>exact Takes.nil
      case hc=>
        intro w1 fp hm1 _ hs1
        obtain rfl:fp = []:=hs1
        exact prsV_c (by have:=prs_rd (E:=95) (v:=.slice ap (pulF rp i).length cpp) hm1 (by exact Take.there .here) rfl;rwa [prsV_dus] at this) (by rw [List.length_map];omega)
      intro v5 _
      dsimp only [id_eq,List.cons_append,List.nil_append]
      rw [List.length_map,prsV_dusV]
      skip
      with_reducible apply tr_callV
      case hr=>exact rk_call (.of rfl) (.cons (.of rfl) (.cons (.of rfl) .nil)) inferInstance normc_
      case hd=>rfl
      case hc=>
        intro w' hm'
        have:=undone_c (intg_rd (E:=3) (v:=v4) hm' (by exact Take.there .here) rfl) (l:=(pulF rp i).map prI) (by have:=prs_rd (E:=95) (v:=v5) (n:=(pulF rp i).length) (l:=pulF rp i) hm' (by exact .here) (by first | rfl | exact wrgN_len _ _ _);rwa [prsV_dus] at this)
        rw [hf1,hf2] at this
        exact this
      (refine m_v rfl rfl ?_;refine tr_val (rk_extract (.of rfl) rfl) rfl ?_;refine tr_val (rk_extract (.of rfl) rfl) rfl ?_;refine a_s rfl rfl ?_;refine a_s rfl rfl ?_;refine n_t ?_;refine tr_seq ?_;refine s_r ?_;refine m_v rfl rfl ?_;refine tr_val (rk_neq (.of rfl) (.of rfl)) rfl ?_;refine m_v rfl rfl ?_;refine v_g rfl rfl rfl rfl ?_;refine v_g rfl rfl rfl rfl ?_;refine tr_vG1 rfl rfl inferInstance (fun hg hgp=>(rk_neq (.ofg hg rfl) (.ofg hg rfl))) rfl ?_;refine tr_val (rk_pick_or (.of rfl) rfl) rfl ?_;refine n_t ?_;refine c_d rfl (fun _=>by omega) (fun hcd=>?_);refine s_t ?_;refine tr_seq ?_;refine s_r ?_;refine m_v rfl rfl ?_;refine tr_val (rk_len_slice (.of rfl)) rfl ?_;refine tr_val (rk_eql (.of rfl) (.of rfl)) rfl ?_;refine n_t ?_;refine c_d rfl (fun hcd=>?_) (fun hcd=>?_);refine s_r ?_;refine tr_callV (rk_call (.of rfl) .nil inferInstance normc_) rfl (fun w' hm'=>(awake_c w' (GlobR.keeps hG (Mem.keeps hm')) (Tab10.keeps hT (Mem.keeps hm')))) ?_;refine a_s rfl rfl ?_;refine n_t ?_;refine r_t ?_;refine tr_retE rfl (ends1 rfl rfl) ?_;rotate_left;refine s_t ?_;refine s_r ?_;refine m_v rfl rfl ?_;rotate_right)
      · rfl
      with_reducible apply tr_call
      case hr=>exact rk_call (.of rfl) (.cons (.of rfl) .nil) inferInstance normc_
      case hd=>rfl
      case ht=>exact Takes.nil
      case hc=>
        intro w1 fp hm1 _ hs1
        obtain rfl:fp = []:=hs1
        exact prsV_c (by have:=prs_rd (E:=95) (v:=.slice ap (pulF rp i).length cpp) hm1 (by exact Take.there (.there .here)) rfl;rwa [prsV_dus] at this) (by rw [List.length_map];omega)
      intro v6 _
      dsimp only [id_eq,List.cons_append,List.nil_append]
      rw [List.length_map,prsV_dusV]
      (refine a_s rfl rfl ?_;refine n_r ?_;refine m_v rfl rfl ?_;refine tr_val (rk_conv (.of rfl)) rfl ?_;refine m_v rfl rfl ?_;refine tr_val (rk_len_slice (.of rfl)) rfl ?_;refine tr_val (rk_mul (.of rfl) (.of rfl) (ini (by omega))) rfl ?_;refine tr_val (rk_remT (.of rfl) (.of rfl) (by omega)) rfl ?_;refine a_s rfl rfl ?_;refine n_t ?_;refine tr_seq ?_)
      have hlp:0 < (pulF rp i).length:=by omega
      have hff:(IntKind.i64.wrap f).tmod (2 * ((pulF rp i).length:Nat)) = f % (2 * ((pulF rp i).length:Nat)):=by rw [i64w (by omega),Int.tmod_eq_emod_of_nonneg hf.1]
      rw [hff]
      have hm0:=Int.emod_nonneg f (show (2 * ((pulF rp i).length:Nat):Int) ≠ 0 by omega)
      have hm1:=Int.emod_lt_of_pos f (show (0:Int) < 2 * ((pulF rp i).length:Nat) by omega)
      obtain ⟨q,jb,jn,hjn,hj1,hq,hql⟩:∃ (q:Nat) (jb:Bool) (jn:Nat),(if jb then 1 else 0) = jn ∧ jn ≤ 1 ∧ f % (2 * ((pulF rp i).length:Nat)) = 2 * (q:Nat) + (jn:Nat) ∧ q < (pulF rp i).length:=by
        generalize f % (2 * ((pulF rp i).length:Nat)) = F at hm0 hm1
        by_cases hev:F % 2 = 0
        · exact ⟨(F / 2).toNat,false,0,rfl,by omega,by omega,by omega⟩
        · exact ⟨(F / 2).toNat,true,1,rfl,by omega,by omega,by omega⟩
      rw [hq]
      refine tr_rowOpen (E:=95) (sz:=2) (v:=v6) (by exact .here) hlp ?_
      rintro g6 cap6 cur6 rfl hcap6 hmx6 hsz6 hxl6
      obtain ⟨y,hy1,hy2,hy3⟩:=wrg_cells hql jb cur6
      rw [hjn] at hy1 hy3
      have hy4:y ≤ 1000:=by
        have e:=pul_get hql
        have hgd:(pulF rp i).getD q (0,0) = (fldAt rp i (2 * q),fldAt rp i (2 * q + 1)):=by rw [List.getD_eq_getElem?_getD,List.getElem?_eq_getElem hql,e];rfl
        rw [hgd] at hy2
        have s0:=fld_step hk i (2 * q) (by omega)
        have s1:=fld_step hk i (2 * q + 1) (by omega)
        dsimp only at hy2
        omega
      have hjj:jn * 1 = jn:=Nat.mul_one _
      have hyl:q * 2 + jn * 1 + 1 ≤ (prsV (pulF rp i)++cur6).length:=by rw [List.length_append];omega
      rw [← hjj] at hy1 hy3
      have hnw:=und_not hk hm60 (wrgN_len (pulF rp i) q jb) (wrgN_ne hql jb)
      with_reducible refine tr_draw 11 (by kernel_rfl) ?_
      refine a_m rfl rfl ?_
      refine a_m rfl rfl ?_
      refine any_val (rk_quoE ((q:Nat):Int) (.of rfl) (.of rfl) (by omega) (by omega) (by omega) (by omega)) rfl ?_
      refine a_m rfl rfl ?_
      refine any_val (rk_remE ((jn:Nat):Int) (.of rfl) (.of rfl) (by omega) (by omega) (by omega)) rfl ?_
      (refine any_val (rk_indexAddr (.of rfl) (.of rfl) rfl (by omega) (by omega) norm1_) rfl ?_;refine any_val (rk_indexAddrA (.of rfl) (.of rfl) (by omega) (by omega) norm1_) rfl ?_;refine any_val (rk_load1 (.of rfl) (At.blkL .here hy1)) rfl ?_;refine any_val (rk_add (.of rfl) (.of rfl) (ini (by omega))) rfl ?_;refine any_val (rk_indexAddr (.of rfl) (.of rfl) rfl (by omega) (by omega) norm1_) rfl ?_;refine any_val (rk_indexAddrA (.of rfl) (.of rfl) (by omega) (by omega) norm1_) rfl ?_)
      with_reducible refine any_end ?_
      (refine tr_store (.of rfl) (.of rfl) .here rfl rfl (okc_cons rfl okc_nil) hyl hy3 ?_;refine n_r ?_;refine m_v rfl rfl ?_)
      refine tr_rowShut (g:=g6) (E:=95) (sz:=2) (n:=(pulF rp i).length) (cap:=cap6) (xs:=prsV (wrgN (pulF rp i) q jb)) (cur:=cur6) (by exact .here) hcap6 hmx6 (by rw [List.length_append,prsV_len,wrgN_len];rw [List.length_append,prsV_len] at hsz6;exact hsz6) (by rw [prsV_len,wrgN_len]) ?_
      with_reducible apply tr_call
      case hr=>exact rk_call (.of rfl) (.cons (.of rfl) .nil) inferInstance normc_
      case hd=>rfl
      case ht=>exact Takes.nil
      case hc=>
        intro w1 fp hm1 _ hs1
        obtain rfl:fp = []:=hs1
        exact intsV_c (h.keeps hm1.keeps) (by omega)
      intro v7 _
      dsimp only [id_eq,List.cons_append,List.nil_append]
      refine m_v rfl rfl ?_
      with_reducible apply tr_callV
      case hr=>exact rk_call (.of rfl) (.cons (.of rfl) (.cons (.of rfl) .nil)) inferInstance normc_
      case hd=>rfl
      case hc=>
        intro w' hm'
        have:=undone_c (intg_rd (E:=3) (v:=v7) hm' (by exact .here) rfl) (l:=(wrgN (pulF rp i) q jb).map prI) (by have:=prs_rd (E:=95) (v:=.slice (some ⟨g6,0,none⟩) (pulF rp i).length cap6) (n:=(pulF rp i).length) (l:=wrgN (pulF rp i) q jb) hm' (by exact Take.there .here) (by first | rfl | exact wrgN_len _ _ _);rwa [prsV_dus] at this)
        rw [hnw] at this
        exact this
      (refine m_v rfl rfl ?_;refine tr_val (rk_extract (.of rfl) rfl) rfl ?_;refine tr_val (rk_extract (.of rfl) rfl) rfl ?_;refine a_s rfl rfl ?_;refine a_s rfl rfl ?_;refine n_r ?_;refine m_v rfl rfl ?_;refine tr_val (rk_eqlT (.of rfl) (.of rfl) rfl) rfl ?_;refine m_v rfl rfl ?_;refine tr_gOn rfl rfl ?_)
      with_reducible apply tr_callV (V:=Value.bool true)
      case hr=>exact rk_call (.of rfl) .nil inferInstance normc_
      case hd=>rfl
      case hc=>
        intro w' hm'
        exact awake_c _ (hG.keeps hm'.keeps) (hT.keeps hm'.keeps)
      (refine tr_val (rk_pickB (.of rfl) (.of rfl) (.of rfl) rfl) rfl ?_;refine a_s rfl rfl ?_;refine n_t ?_;refine tr_ret ?_;refine tr_retE rfl (ends1 rfl rfl) ?_)
      rfl
end Go.Proofs.A1
