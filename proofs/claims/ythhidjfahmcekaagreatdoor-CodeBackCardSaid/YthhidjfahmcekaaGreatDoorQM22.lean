/- Parts of the proof: U4K U5M. -/
import Derived.Test.YthhidjfahmcekaaGreatDoorQM21
import Derived.Test.YthhidjfahmcekaaGreatDoorQM09
import Derived.Test.YthhidjfahmcekaaGreatDoorQM06
import Derived.Test.YthhidjfahmcekaaGreatDoorQM17
import Derived.Test.YthhidjfahmcekaaGreatDoorQM19
import Derived.Shelf.Vars
import Derived.HandedShaped
set_option linter.unusedSectionVars false
set_option linter.unusedVariables false
set_option linter.unusedSimpArgs false
namespace Go.Proofs.A1
open Go Go.SL
theorem shl_bit:∀ b:Nat,b < 8 → IntKind.u8.wrap (1 * 2 ^ b) = ((2 ^ b:Nat):Int):=by decide
theorem ps_zero {l:List UInt8} (h:psE l ≠ 0):psF l = Stm.zero:=by unfold psF;rw [if_neg h]
theorem toL_bA (l:List UInt8):toL (bA l) = l:=by unfold toL;exact bA_list l
theorem word_bytes {s:Stm} (h:StOk s):∀ y ∈ wordF s,0 ≤ y ∧ y ≤ 255:=by
  intro y hy
  unfold wordF at hy
  rw [List.mem_append] at hy
  rcases hy with hy | hy
  · exact w7_bytes h y hy
  · simp only [List.mem_cons,List.not_mem_nil,or_false] at hy
    rcases hy with rfl | rfl | rfl
    · exact parF_byte _
    · decide
    · decide
set_option maxHeartbeats 4000000 in
theorem back_law (s:Stm) (x:ByteArray) (n:Int) (hn:0 ≤ n ∧ n ≤ 255) (w:World) (hM:MaxL w) (hG:GlobR w) (hT:Tab10 w):GivesV Tryz.prog 15 [.agg s.cells.toArray,.string x,.int .u8 n] w (.bool true):=by
  have hsq:∀ w',GivesV Tryz.prog 37 [.agg #[.int .i64 s.ra.fr,.bool s.ra.dr,.int .i64 s.la.h,.int .i64 s.la.m,.int .i64 s.la.s,.int .i64 s.la.f,.int .i64 s.us]] w' (.int .i64 (stmE s)):=fun w'=>stmQ_c s w'
  unfold Stm.cells
  by_cases hx:¬ stmE s = 0 ∨ 100 < x.size
  · refine givesV_of_tr Tryz.func15 rfl rfl ?_
    generalize stmE s = sE at *
    (refine s_r ?_;refine tr_new (rk_box (.of rfl) rfl) rfl (fun _ _=>?_);refine a_s rfl rfl ?_;refine n_t ?_;refine tr_seq ?_;refine s_r ?_;refine tr_val (rk_loadB (.of rfl) .here norm_ (by rfl)) rfl ?_;refine tr_callV (rk_call (.of rfl) (.cons (.of rfl) .nil) inferInstance normc_) rfl (fun w' hm'=>(hsq w')) ?_;refine tr_val (rk_neq (.of rfl) (.of rfl)) rfl ?_;refine m_v rfl rfl ?_;refine v_g rfl rfl rfl rfl ?_;refine tr_vG1 rfl rfl inferInstance (fun hg hgp=>(rk_len_string (.ofg hg rfl))) rfl ?_;refine tr_vG1 rfl rfl inferInstance (fun hg hgp=>(rk_gtr (.ofg hg rfl) (.of rfl))) rfl ?_;refine tr_val (rk_pick_or (.of rfl) rfl) rfl ?_;refine n_t ?_;refine c_b rfl (fun hcd=>?_) (fun _=>by omega);refine s_r ?_;refine tr_callV (rk_call (.of rfl) .nil inferInstance normc_) rfl (fun w' hm'=>(awake_c w' (GlobR.keeps hG (Mem.keeps hm')) (Tab10.keeps hT (Mem.keeps hm')))) ?_;refine a_s rfl rfl ?_;refine n_t ?_;refine r_t ?_;refine tr_retE rfl (ends1 rfl rfl) ?_)
    rfl
  have h0:stmE s = 0:=by
    rcases Decidable.em (stmE s = 0) with h | h
    · exact h
    · exact absurd (.inl h) hx
  have h100:x.size ≤ 100:=by
    rcases Nat.lt_or_ge 100 x.size with h | h
    · exact absurd (.inr h) hx
    · exact h
  clear hx
  rw [h0] at hsq
  have hs:=stmE_zero.1 h0
  have hgv:∀ w',GivesV Tryz.prog 35 [.agg #[.int .i64 s.ra.fr,.bool s.ra.dr,.int .i64 s.la.h,.int .i64 s.la.m,.int .i64 s.la.s,.int .i64 s.la.f,.int .i64 s.us]] w' (.agg #[.int .i64 s.ra.fr,.bool s.ra.dr,.int .i64 s.la.h,.int .i64 s.la.m,.int .i64 s.la.s,.int .i64 s.la.f,.int .i64 s.us]):=fun w'=>given_v s w'
  have htl:∀ w',GivesV Tryz.prog 41 [.agg #[.int .i64 s.ra.fr,.bool s.ra.dr,.int .i64 s.la.h,.int .i64 s.la.m,.int .i64 s.la.s,.int .i64 s.la.f,.int .i64 s.us]] w' (.agg #[.int .i64 s.ra.fr,.bool s.ra.dr,.int .i64 s.la.h,.int .i64 s.la.m,.int .i64 s.la.s,.int .i64 s.la.f,.int .i64 s.us]):=fun w'=>told_v s w'
  have hpr:∀ w',Keeps [] w w' → GivesV Tryz.prog 81 [.agg #[.int .i64 s.ra.fr,.bool s.ra.dr,.int .i64 s.la.h,.int .i64 s.la.m,.int .i64 s.la.s,.int .i64 s.la.f,.int .i64 s.us]] w' (.tuple #[.string (bA (prtL s)),.int .i64 0]):=fun w' hk=>by
    have:=print_c s w' (hG.keeps hk) (hT.keeps hk)
    rwa [h0,show prtX s = bA (prtL s) by unfold prtX;rw [if_pos h0]] at this
  have hlen:=prt_len hs
  have hpz:(bA (prtL s)).size ≤ 26:=by rw [bA_size];exact hlen
  have hp0:∀ w',Keeps [] w w' → GivesV Tryz.prog 82 [.string (bA (prtL s))] w' (.tuple #[.agg #[.int .i64 s.ra.fr,.bool s.ra.dr,.int .i64 s.la.h,.int .i64 s.la.m,.int .i64 s.la.s,.int .i64 s.la.f,.int .i64 s.us],.int .i64 0]):=fun w' hk=>by
    have:=parse_c (s:=bA (prtL s)) (by omega) (hG.keeps hk) (hM.keeps hk)
    rw [toL_bA] at this
    rwa [(ps_prt hs).1,(ps_prt hs).2] at this
  have hp5:∀ w',Keeps [] w w' → GivesV Tryz.prog 82 [.string (bA (prtL s)++⟨#[10]⟩)] w' (.tuple #[.agg #[.int .i64 0,.bool false,.int .i64 0,.int .i64 0,.int .i64 0,.int .i64 0,.int .i64 0],.int .i64 25]):=fun w' hk=>by
    have e:toL (bA (prtL s)++⟨#[10]⟩) = prtL s++[10]:=by rw [toL_append,toL_bA];try rfl
    have:=parse_c (s:=bA (prtL s)++⟨#[10]⟩) (by rw [ByteArray.size_append];have:(⟨#[10]⟩:ByteArray).size = 1:=rfl;omega) (hG.keeps hk) (hM.keeps hk)
    rw [e] at this
    rwa [(ps_lf hs).1,ps_zero (by rw [(ps_lf hs).1];decide)] at this
  have hp6:∀ w',Keeps [] w w' → GivesV Tryz.prog 82 [.string (⟨#[32]⟩++bA (prtL s))] w' (.tuple #[.agg #[.int .i64 0,.bool false,.int .i64 0,.int .i64 0,.int .i64 0,.int .i64 0,.int .i64 0],.int .i64 25]):=fun w' hk=>by
    have e:toL (⟨#[32]⟩++bA (prtL s)) = 32 :: prtL s:=by rw [toL_append,toL_bA];try rfl
    have:=parse_c (s:=⟨#[32]⟩++bA (prtL s)) (by rw [ByteArray.size_append];have:(⟨#[32]⟩:ByteArray).size = 1:=rfl;omega) (hG.keeps hk) (hM.keeps hk)
    rw [e] at this
    rwa [(ps_lf hs).2,ps_zero (by rw [(ps_lf hs).2];decide)] at this
  have hps:∀ w',Keeps [] w w' → GivesV Tryz.prog 82 [.string x] w' (.tuple #[.agg (psF (toL x)).cells.toArray,.int .i64 (psE (toL x))]):=fun w' hk=>parse_c (by omega) (hG.keeps hk) (hM.keeps hk)
  have hpt:psE (toL x) = 0 → ∀ w',Keeps [] w w' → GivesV Tryz.prog 81 [.agg (psF (toL x)).cells.toArray] w' (.tuple #[.string x,.int .i64 0]):=fun he w' hk=>by
    obtain ⟨ho,hp⟩:=prt_ps he
    have:=print_c (psF (toL x)) w' (hG.keeps hk) (hT.keeps hk)
    rwa [stmE_zero.2 ho,show prtX (psF (toL x)) = x by unfold prtX;rw [if_pos (stmE_zero.2 ho),hp];exact bA_of x] at this
  generalize psF (toL x) = t at hps hpt
  generalize psE (toL x) = te at hps hpt
  have zz1:(⟨#[10]⟩:ByteArray).size = 1:=rfl
  have zz2:(⟨#[32]⟩:ByteArray).size = 1:=rfl
  obtain ⟨m,hm⟩:∃ m:Nat,n % 10 = m:=⟨(n % 10).toNat,by omega⟩
  obtain ⟨b,hb⟩:∃ b:Nat,n / 32 = b:=⟨(n / 32).toNat,by omega⟩
  have hm10:m < 10:=by omega
  have hb8:b < 8:=by omega
  have hbad:=word_wrong hs hm10 hb8
  have hwl:(wordF s).length = 10:=rfl
  have hwb:∀ y ∈ wordF s,0 ≤ y ∧ y ≤ 255:=word_bytes hs
  have hw0:=read_word hs
  have hwr:∀ w',Keeps [] w w' → GivesV Tryz.prog 34 [.agg #[.int .i64 s.ra.fr,.bool s.ra.dr,.int .i64 s.la.h,.int .i64 s.la.m,.int .i64 s.la.s,.int .i64 s.la.f,.int .i64 s.us]] w' (.tuple #[.agg (wcells (wordF s)).toArray,.int .i64 0]):=fun w' hk=>by
    have:=written_c s w' (hG.keeps hk)
    rwa [h0,show wrtF s = wordF s by unfold wrtF;rw [if_pos h0]] at this
  have hrd:∀ w',Keeps [] w w' → GivesV Tryz.prog 36 [.agg (wcells (wordF s)).toArray] w' (.tuple #[.agg #[.int .i64 s.ra.fr,.bool s.ra.dr,.int .i64 s.la.h,.int .i64 s.la.m,.int .i64 s.la.s,.int .i64 s.la.f,.int .i64 s.us],.int .i64 0]):=fun w' hk=>by
    have:=read_c (wordF s) hwl hwb w' (hG.keeps hk)
    rwa [hw0.1,hw0.2] at this
  have hxb:=xorF_byte (wa (wordF s) m) ((2 ^ b:Nat):Int)
  have hrw:∀ w',Keeps [] w w' → GivesV Tryz.prog 36 [.agg (wcells ((wordF s).set m (xorF (wa (wordF s) m) ((2 ^ b:Nat):Int)))).toArray] w' (.tuple #[.agg (rdF ((wordF s).set m (xorF (wa (wordF s) m) ((2 ^ b:Nat):Int)))).cells.toArray,.int .i64 (rdE ((wordF s).set m (xorF (wa (wordF s) m) ((2 ^ b:Nat):Int))))]):=fun w' hk=>read_c _ (by rw [List.length_set];exact hwl) (fun y hy=>by
    rcases List.mem_or_eq_of_mem_set hy with h | h
    · exact hwb y h
    · rw [h];exact hxb) w' (hG.keeps hk)
  have g0:(wcells (wordF s))[m * 1]? = some (.int .u8 (wa (wordF s) m)):=by
    rw [Nat.mul_one]
    unfold wcells wa
    rw [List.getElem?_map,List.getElem?_eq_getElem (by omega),List.getD_eq_getElem?_getD,List.getElem?_eq_getElem (by omega)];rfl
  have g1:setCells (wcells (wordF s)) (m * 1) [.int .u8 (xorF (wa (wordF s) m) ((2 ^ b:Nat):Int))] = wcells ((wordF s).set m (xorF (wa (wordF s) m) ((2 ^ b:Nat):Int))):=by
    rw [Nat.mul_one]
    unfold wcells
    rw [List.map_set];rfl
  have g2:m * 1 + 1 ≤ (wcells (wordF s)).length:=by unfold wcells;rw [List.length_map,hwl];omega
  have hcl:(wcells (wordF s)).length = 10:=by unfold wcells;rw [List.length_map,hwl]
  have g3:cellsAt (wcells (wordF s)) 0 10 = wcells (wordF s):=cellsAt_all hcl
  have g4:cellsAt (wcells ((wordF s).set m (xorF (wa (wordF s) m) ((2 ^ b:Nat):Int)))) 0 10 = wcells ((wordF s).set m (xorF (wa (wordF s) m) ((2 ^ b:Nat):Int))):=cellsAt_all (by unfold wcells;rw [List.length_map,List.length_set,hwl])
  have g5:(wcells ((wordF s).set m (xorF (wa (wordF s) m) ((2 ^ b:Nat):Int)))).length = 10:=by unfold wcells;rw [List.length_map,List.length_set,hwl]
  have g6:0 + 10 ≤ (wcells ((wordF s).set m (xorF (wa (wordF s) m) ((2 ^ b:Nat):Int)))).length:=by omega
  generalize rdF ((wordF s).set m (xorF (wa (wordF s) m) ((2 ^ b:Nat):Int))) = q at hrw
  generalize rdE ((wordF s).set m (xorF (wa (wordF s) m) ((2 ^ b:Nat):Int))) = qe at hrw hbad
  unfold Stm.cells at hps hpt hrw
  have hF':(IntKind.i64.wrap n).tmod 10 = (m:Nat):=by rw [i64w (by omega),Int.tmod_eq_emod_of_nonneg hn.1,hm]
  refine givesV_of_tr Tryz.func15 rfl rfl ?_
  (refine s_r ?_;refine tr_new (rk_box (.of rfl) rfl) rfl (fun _ _=>?_);refine a_s rfl rfl ?_;refine n_t ?_;refine tr_seq ?_;refine s_r ?_;refine tr_val (rk_loadB (.of rfl) .here norm_ (by rfl)) rfl ?_;refine tr_callV (rk_call (.of rfl) (.cons (.of rfl) .nil) inferInstance normc_) rfl (fun w' hm'=>(hsq w')) ?_;refine tr_val (rk_neq (.of rfl) (.of rfl)) rfl ?_;refine m_v rfl rfl ?_;refine v_g rfl rfl rfl rfl ?_;refine tr_vG1 rfl rfl inferInstance (fun hg hgp=>(rk_len_string (.ofg hg rfl))) rfl ?_;refine tr_vG1 rfl rfl inferInstance (fun hg hgp=>(rk_gtr (.ofg hg rfl) (.of rfl))) rfl ?_;refine tr_val (rk_pick_or (.of rfl) rfl) rfl ?_;refine n_t ?_;refine c_d rfl (fun _=>by omega) (fun hcd=>?_);refine s_t ?_;refine s_r ?_;refine tr_val (rk_loadB (.of rfl) .here norm_ (by rfl)) rfl ?_;refine tr_callV (rk_call (.of rfl) (.cons (.of rfl) .nil) inferInstance normc_) rfl (fun w' hm'=>(hgv w')) ?_;refine tr_callV (rk_call (.of rfl) (.cons (.of rfl) .nil) inferInstance normc_) rfl (fun w' hm'=>(hwr w' (Mem.keeps hm'))) ?_;refine m_v rfl rfl ?_;refine tr_val (rk_extract (.of rfl) rfl) rfl ?_;refine tr_val (rk_extract (.of rfl) rfl) rfl ?_;refine tr_new (rk_alloc rfl) rfl (fun _ _=>?_);refine tr_store (.of rfl) (.of rfl) .here rfl rfl (okc_cons rfl (okc_cons rfl (okc_cons rfl (okc_cons rfl (okc_cons rfl (okc_cons rfl (okc_cons rfl (okc_cons rfl (okc_cons rfl (okc_cons rfl okc_nil)))))))))) (lenb rfl) norm_ ?_;refine a_s rfl rfl ?_;refine n_r ?_;refine tr_val (rk_loadB (.of rfl) .here norm_ (by rfl)) rfl ?_)
  rw [setCells_full (by rw [hcl];rfl),g3]
  (refine tr_callV (rk_call (.of rfl) (.cons (.of rfl) .nil) inferInstance normc_) rfl (fun w' hm'=>(hrd w' (Mem.keeps hm'))) ?_;refine m_v rfl rfl ?_;refine tr_val (rk_extract (.of rfl) rfl) rfl ?_;refine tr_val (rk_extract (.of rfl) rfl) rfl ?_;refine tr_new (rk_alloc rfl) rfl (fun _ _=>?_);refine tr_store (.of rfl) (.of rfl) .here rfl rfl (okc_cons rfl (okc_cons rfl (okc_cons rfl (okc_cons rfl (okc_cons rfl (okc_cons rfl (okc_cons rfl okc_nil))))))) (lenb rfl) norm_ ?_;refine a_s rfl rfl ?_;refine n_t ?_;refine tr_seq ?_;refine tr_seq ?_)
  with_reducible refine tr_draw 10 (by kernel_rfl) ?_
  (refine a_m rfl rfl ?_;refine a_m rfl rfl ?_;refine any_val (rk_add (.of rfl) (.of rfl) (ini (by omega))) rfl ?_;refine any_val (rk_neq (.of rfl) (.of rfl)) rfl ?_;refine a_m rfl rfl ?_;refine any_vG1 rfl rfl inferInstance (fun hg hgp=>(rk_loadB (.of rfl) .here norm_ (by rfl))) rfl ?_;refine any_callG1 rfl rfl (fun hg=>(rk_call (.of rfl) (.cons (.ofg hg rfl) .nil) inferInstance normc_)) rfl (fun hg w' hm'=>(htl w')) ?_;refine any_vG1 rfl rfl inferInstance (fun hg hgp=>(rk_loadB (.of rfl) (.there (.there .here)) norm_ (by rfl))) rfl ?_;refine any_vG1 rfl rfl inferInstance (fun hg hgp=>(rk_neqA (.ofg hg rfl) (.ofg hg rfl) (okL_int (okL_bool (okL_int (okL_int (okL_int (okL_int (okL_int okL_nil))))))) rfl)) rfl ?_;refine any_val (rk_pick_or (.of rfl) rfl) rfl ?_)
  with_reducible refine any_end ?_
  (refine n_t ?_;refine c_b rfl (fun hcd=>?_) (fun hcd=>?_);refine s_r ?_;refine a_s rfl rfl ?_;refine n_t ?_;refine r_t ?_;refine tr_retE rfl (ends1 rfl rfl) ?_;rotate_left;refine s_t ?_;refine s_r ?_;refine m_v rfl rfl ?_;refine tr_val (rk_conv (.of rfl)) rfl ?_;refine tr_val (rk_remT (.of rfl) (.of rfl) (by omega)) rfl ?_;refine tr_val (rk_indexAddrA (.of rfl) (.of rfl) (by omega) (by omega) norm1_) rfl ?_;rotate_right)
  · exfalso
    simp at hcd
  clear hcd
  rw [hF',Int.toNat_natCast]
  (refine tr_val (rk_load1 (.of rfl) (At.blkL (.there .here) g0)) rfl ?_;refine m_v rfl rfl ?_)
  refine tr_val (rk_quo8 (.of rfl) (.of rfl) hn (by decide)) rfl ?_
  refine tr_val (rk_shl (.of rfl) (.of rfl) (by omega) (by show n / 32 ≤ 8;omega)) rfl ?_
  rw [show (n / 32).toNat = b by omega,shl_bit b hb8]
  (refine tr_val (rk_xor8 (.of rfl) (.of rfl)) rfl ?_;refine tr_val (rk_indexAddrA (.of rfl) (.of rfl) (by omega) (by omega) norm1_) rfl ?_;refine tr_store (.of rfl) (.of rfl) (.there .here) rfl rfl (okc_cons rfl okc_nil) g2 g1 ?_;refine n_t ?_;refine tr_seq ?_;refine s_r ?_;refine tr_val (rk_loadB (.of rfl) .here g4 g5) rfl ?_;refine tr_callV (rk_call (.of rfl) (.cons (.of rfl) .nil) inferInstance normc_) rfl (fun w' hm'=>(hrw w' (Mem.keeps hm'))) ?_;refine m_v rfl rfl ?_;refine tr_val (rk_extract (.of rfl) rfl) rfl ?_;refine tr_val (rk_extract (.of rfl) rfl) rfl ?_;refine tr_new (rk_alloc rfl) rfl (fun _ _=>?_);refine tr_store (.of rfl) (.of rfl) .here rfl rfl (okc_cons rfl (okc_cons rfl (okc_cons rfl (okc_cons rfl (okc_cons rfl (okc_cons rfl (okc_cons rfl okc_nil))))))) (lenb rfl) norm_ ?_;refine a_s rfl rfl ?_;refine n_r ?_;refine m_v rfl rfl ?_;refine tr_val (rk_eql (.of rfl) (.of rfl)) rfl ?_;refine n_t ?_;refine c_d rfl (fun _=>by omega) (fun hcd=>?_);refine s_t ?_;refine s_r ?_;refine tr_val (rk_loadB (.of rfl) (.there (.there (.there .here))) norm_ (by rfl)) rfl ?_;refine tr_callV (rk_call (.of rfl) (.cons (.of rfl) .nil) inferInstance normc_) rfl (fun w' hm'=>(hgv w')) ?_;refine tr_callV (rk_call (.of rfl) (.cons (.of rfl) .nil) inferInstance normc_) rfl (fun w' hm'=>(hpr w' (Mem.keeps hm'))) ?_;refine m_v rfl rfl ?_;refine tr_val (rk_extract (.of rfl) rfl) rfl ?_;refine tr_val (rk_extract (.of rfl) rfl) rfl ?_;refine a_s rfl rfl ?_;refine a_s rfl rfl ?_;refine n_r ?_;refine m_v rfl rfl ?_;refine tr_callV (rk_call (.of rfl) (.cons (.of rfl) .nil) inferInstance normc_) rfl (fun w' hm'=>(hp0 w' (Mem.keeps hm'))) ?_;refine m_v rfl rfl ?_;refine tr_val (rk_extract (.of rfl) rfl) rfl ?_;refine tr_val (rk_extract (.of rfl) rfl) rfl ?_;refine tr_new (rk_alloc rfl) rfl (fun _ _=>?_);refine tr_store (.of rfl) (.of rfl) .here rfl rfl (okc_cons rfl (okc_cons rfl (okc_cons rfl (okc_cons rfl (okc_cons rfl (okc_cons rfl (okc_cons rfl okc_nil))))))) (lenb rfl) norm_ ?_;refine a_s rfl rfl ?_;refine n_t ?_;refine tr_seq ?_;refine tr_seq ?_)
  with_reducible refine tr_draw 10 (by kernel_rfl) ?_
  (refine a_m rfl rfl ?_;refine a_m rfl rfl ?_;refine any_val (rk_add (.of rfl) (.of rfl) (ini (by omega))) rfl ?_;refine any_val (rk_neq (.of rfl) (.of rfl)) rfl ?_;refine a_m rfl rfl ?_;refine any_vG1 rfl rfl inferInstance (fun hg hgp=>(rk_loadB (.of rfl) .here norm_ (by rfl))) rfl ?_;refine any_callG1 rfl rfl (fun hg=>(rk_call (.of rfl) (.cons (.ofg hg rfl) .nil) inferInstance normc_)) rfl (fun hg w' hm'=>(htl w')) ?_;refine any_vG1 rfl rfl inferInstance (fun hg hgp=>(rk_loadB (.of rfl) (.there (.there (.there (.there .here)))) norm_ (by rfl))) rfl ?_;refine any_vG1 rfl rfl inferInstance (fun hg hgp=>(rk_neqA (.ofg hg rfl) (.ofg hg rfl) (okL_int (okL_bool (okL_int (okL_int (okL_int (okL_int (okL_int okL_nil))))))) rfl)) rfl ?_;refine any_val (rk_pick_or (.of rfl) rfl) rfl ?_)
  with_reducible refine any_end ?_
  (refine n_t ?_;refine c_b rfl (fun hcd=>?_) (fun hcd=>?_);refine s_r ?_;refine a_s rfl rfl ?_;refine n_t ?_;refine r_t ?_;refine tr_retE rfl (ends1 rfl rfl) ?_;rotate_left;refine s_t ?_;refine tr_seq ?_;refine s_r ?_;refine m_v rfl rfl ?_;refine tr_callV (rk_call (.of rfl) (.cons (.of rfl) .nil) inferInstance normc_) rfl (fun w' hm'=>(hps w' (Mem.keeps hm'))) ?_;refine m_v rfl rfl ?_;refine tr_val (rk_extract (.of rfl) rfl) rfl ?_;refine tr_val (rk_extract (.of rfl) rfl) rfl ?_;refine tr_new (rk_alloc rfl) rfl (fun _ _=>?_);refine tr_store (.of rfl) (.of rfl) .here rfl rfl (okc_cons rfl (okc_cons rfl (okc_cons rfl (okc_cons rfl (okc_cons rfl (okc_cons rfl (okc_cons rfl okc_nil))))))) (lenb rfl) norm_ ?_;refine a_s rfl rfl ?_;refine n_r ?_;refine m_v rfl rfl ?_;refine tr_val (rk_eql (.of rfl) (.of rfl)) rfl ?_;refine n_t ?_;refine c_d rfl (fun hcd=>?_) (fun hcd=>?_);refine s_r ?_;refine tr_val (rk_loadB (.of rfl) .here norm_ (by rfl)) rfl ?_;refine tr_callV (rk_call (.of rfl) (.cons (.of rfl) .nil) inferInstance normc_) rfl (fun w' hm'=>(hpt hcd w' (Mem.keeps hm'))) ?_;refine m_v rfl rfl ?_;refine tr_val (rk_extract (.of rfl) rfl) rfl ?_;refine tr_val (rk_extract (.of rfl) rfl) rfl ?_;refine a_s rfl rfl ?_;refine a_s rfl rfl ?_;refine n_r ?_;refine m_v rfl rfl ?_;refine tr_val (rk_neq (.of rfl) (.of rfl)) rfl ?_;refine m_v rfl rfl ?_;refine v_g rfl rfl rfl rfl ?_;refine v_g rfl rfl rfl rfl ?_;refine tr_vG1 rfl rfl inferInstance (fun hg hgp=>(rk_neqs (.ofg hg rfl) (.ofg hg rfl))) rfl ?_;refine tr_val (rk_pick_or (.of rfl) rfl) rfl ?_;refine n_t ?_;refine c_d rfl (fun hcd=>?_) (fun hcd=>?_);refine s_r ?_;refine a_s rfl rfl ?_;refine n_t ?_;refine r_t ?_;refine tr_retE rfl (ends1 rfl rfl) ?_;rotate_left;refine s_t ?_;refine s_r ?_;refine m_v rfl rfl ?_;refine tr_val (rk_cat (.of rfl) (.of rfl) (by omega)) rfl ?_;refine tr_callV (rk_call (.of rfl) (.cons (.of rfl) .nil) inferInstance normc_) rfl (fun w' hm'=>(hp5 w' (Mem.keeps hm'))) ?_;refine m_v rfl rfl ?_;refine tr_val (rk_extract (.of rfl) rfl) rfl ?_;refine tr_val (rk_extract (.of rfl) rfl) rfl ?_;refine tr_new (rk_alloc rfl) rfl (fun _ _=>?_);refine tr_store (.of rfl) (.of rfl) .here rfl rfl (okc_cons rfl (okc_cons rfl (okc_cons rfl (okc_cons rfl (okc_cons rfl (okc_cons rfl (okc_cons rfl okc_nil))))))) (lenb rfl) norm_ ?_;refine a_s rfl rfl ?_;refine n_r ?_;refine m_v rfl rfl ?_;refine tr_val (rk_cat (.of rfl) (.of rfl) (by omega)) rfl ?_;refine tr_callV (rk_call (.of rfl) (.cons (.of rfl) .nil) inferInstance normc_) rfl (fun w' hm'=>(hp6 w' (Mem.keeps hm'))) ?_;refine m_v rfl rfl ?_;refine tr_val (rk_extract (.of rfl) rfl) rfl ?_;refine tr_val (rk_extract (.of rfl) rfl) rfl ?_;refine tr_new (rk_alloc rfl) rfl (fun _ _=>?_);refine tr_store (.of rfl) (.of rfl) .here rfl rfl (okc_cons rfl (okc_cons rfl (okc_cons rfl (okc_cons rfl (okc_cons rfl (okc_cons rfl (okc_cons rfl okc_nil))))))) (lenb rfl) norm_ ?_;refine a_s rfl rfl ?_;refine n_r ?_;refine m_v rfl rfl ?_;refine tr_val (rk_eql (.of rfl) (.of rfl)) rfl ?_;refine m_v rfl rfl ?_;refine v_g rfl rfl rfl rfl ?_;refine tr_vG1 rfl rfl inferInstance (fun hg hgp=>(rk_eql (.ofg hg rfl) (.of rfl))) rfl ?_;refine tr_val (rk_pick_and (.of rfl) rfl) rfl ?_;refine m_v rfl rfl ?_;refine tr_callVG1 rfl rfl (fun hg=>(rk_call (.of rfl) .nil inferInstance normc_)) rfl (fun hg w' hm'=>(awake_c w' (GlobR.keeps hG (Mem.keeps hm')) (Tab10.keeps hT (Mem.keeps hm')))) ?_;refine tr_val (rk_pick_and (.of rfl) rfl) rfl ?_;refine a_s rfl rfl ?_;refine n_t ?_;refine tr_ret ?_;refine tr_retE rfl (ends1 rfl rfl) ?_;rotate_right;rotate_left 2;refine s_t ?_;refine s_r ?_;refine m_v rfl rfl ?_;refine tr_val (rk_cat (.of rfl) (.of rfl) (by omega)) rfl ?_;refine tr_callV (rk_call (.of rfl) (.cons (.of rfl) .nil) inferInstance normc_) rfl (fun w' hm'=>(hp5 w' (Mem.keeps hm'))) ?_;refine m_v rfl rfl ?_;refine tr_val (rk_extract (.of rfl) rfl) rfl ?_;refine tr_val (rk_extract (.of rfl) rfl) rfl ?_;refine tr_new (rk_alloc rfl) rfl (fun _ _=>?_);refine tr_store (.of rfl) (.of rfl) .here rfl rfl (okc_cons rfl (okc_cons rfl (okc_cons rfl (okc_cons rfl (okc_cons rfl (okc_cons rfl (okc_cons rfl okc_nil))))))) (lenb rfl) norm_ ?_;refine a_s rfl rfl ?_;refine n_r ?_;refine m_v rfl rfl ?_;refine tr_val (rk_cat (.of rfl) (.of rfl) (by omega)) rfl ?_;refine tr_callV (rk_call (.of rfl) (.cons (.of rfl) .nil) inferInstance normc_) rfl (fun w' hm'=>(hp6 w' (Mem.keeps hm'))) ?_;refine m_v rfl rfl ?_;refine tr_val (rk_extract (.of rfl) rfl) rfl ?_;refine tr_val (rk_extract (.of rfl) rfl) rfl ?_;refine tr_new (rk_alloc rfl) rfl (fun _ _=>?_);refine tr_store (.of rfl) (.of rfl) .here rfl rfl (okc_cons rfl (okc_cons rfl (okc_cons rfl (okc_cons rfl (okc_cons rfl (okc_cons rfl (okc_cons rfl okc_nil))))))) (lenb rfl) norm_ ?_;refine a_s rfl rfl ?_;refine n_r ?_;refine m_v rfl rfl ?_;refine tr_val (rk_eql (.of rfl) (.of rfl)) rfl ?_;refine m_v rfl rfl ?_;refine v_g rfl rfl rfl rfl ?_;refine tr_vG1 rfl rfl inferInstance (fun hg hgp=>(rk_eql (.ofg hg rfl) (.of rfl))) rfl ?_;refine tr_val (rk_pick_and (.of rfl) rfl) rfl ?_;refine m_v rfl rfl ?_;refine tr_callVG1 rfl rfl (fun hg=>(rk_call (.of rfl) .nil inferInstance normc_)) rfl (fun hg w' hm'=>(awake_c w' (GlobR.keeps hG (Mem.keeps hm')) (Tab10.keeps hT (Mem.keeps hm')))) ?_;refine tr_val (rk_pick_and (.of rfl) rfl) rfl ?_;refine a_s rfl rfl ?_;refine n_t ?_;refine tr_ret ?_;refine tr_retE rfl (ends1 rfl rfl) ?_;rotate_right 2;rotate_right)
  · exfalso
    simp at hcd
  · exfalso
    exact hcd rfl
  all_goals simp
end Go.Proofs.A1
namespace Go.Proofs.A1
open Go Go.SL Go.ChangeShapes Go.WideShapes Go.Deep Go.Joins
theorem ret_shaped_and {H:Type} {enc:TypeId × Value → H} {a:Assume} {C:Checked} {os:Os} {f:FuncId} {fn:Func} {s:ChangeSpec} {conds:List PathCond} {apart fresh handsOn again:Bool} {X:World → Array Value → Prop}
    (hX:∀ (w w':World) (args:Array Value),w.heap = w'.heap → X w args → X w' args)
    (own:ownKnob C.prog.godebug = none) (started:os.Started) (noInit:C.prog.inits.idxOf? f = none) (hfn:C.prog.funcs[f]? = some fn)
    (witness:∃ (w:World) (tape:Tape) (i:Input),w.os = os ∧ (w.forCall tape i).Shaped C.prog ∧ i.vars = [] ∧ Input.okWide C.prog (w.forCall tape i) .any w.heap.size f i ∧
      ((s.pre enc C.prog fn conds apart (w.forCall tape i).memory i.args ∧ X (w.forCall tape i).memory i.args) ∧ sizedMet enc C.prog fn (OpenSpec.ofChange s) apart (w.forCall tape i).memory i.args) ∧ a.holds C.prog (lone (Frame.enter C.prog f i.args .normal) [] (w.forCall tape i)))
    (contract:∀ (W:World) (base:Nat) (args:Array Value) (ds gs:List (DataW H)) (before:List MemPlace),
      (∀ (j:Nat) t v,fn.params[j]? = some t → args[j]? = some v → Value.okWide C.prog W .any base t v) →
      DataW.Whole enc C.prog fn.params.toList s.vars apart W args.toList ds gs before →
      conds.all (PathCond.test C.prog ⟨fn.params.toList,ds,s.plain.varTypes C.prog,gs⟩) = true →
      (DataW.weightsEach C.prog (fn.params.toList++s.plain.varTypes C.prog) (ds++gs)).all (· ≤ reachBytes) = true → X W args → W.ShapedOpen C.prog →
      a.holds C.prog (lone (Frame.enter C.prog f args .normal) [] W) →
      Calls C.prog f args W fun e W'=>∃ v,e = .returned v ∧ s.post enc C.prog fn apart fresh handsOn again W args v W') :
    ReturnsInHanded a C os f .any (fun w args=>(s.pre enc C.prog fn conds apart w args ∧ X w args) ∧ sizedMet enc C.prog fn (OpenSpec.ofChange s) apart w args) (s.post enc C.prog fn apart fresh handsOn again):=by
  refine returnsInHanded_of_calls own started noInit witness ?_
  intro w tape i _ hsh _ hok hpre hholds
  obtain ⟨_,_,_,fn',hfn',_,_,_,_,hval⟩:=hok
  have e:fn' = fn:=Option.some.inj (hfn'.symm.trans hfn)
  subst e
  obtain ⟨⟨⟨ds,gs,before,hw,hc⟩,hx⟩,hz⟩:=hpre
  have hw':=DataW.Whole.of_heap (w':=w.forCall tape i) (by rfl) hw
  refine (contract (w.forCall tape i) w.heap.size i.args ds gs before hval hw' hc (hz.weights hw) (hX _ _ _ (by rfl) hx) hsh hholds).mono fun e W' ⟨v,he,hp⟩=>?_
  subst he
  exact ChangeSpec.post_blind hp
theorem maxl_of {W:World} (h:W.ShapedOpen Tryz.prog):MaxL W:=
  cell_of_shapedOpen_int (g:=2) (t:=3) (zero:=#[.int .i64 0]) (k:=.i64) h (of_decide_eq_true (by kernel_rfl)) (by kernel_rfl) rfl (by kernel_rfl) (by kernel_rfl) Tryz.underlying3
theorem of_laid6 {W:World} (h:laidMetH Tryz.prog YthhidjfahmcekaaGreatDoor.Rows.codeTextsRow.laid W):GlobR W ∧ Tab10 W:=by
  rw [MakeChecks.laidMetH_plain _ _ _ (by kernel_rfl)] at h
  obtain ⟨ps,⟨g0,t0,cs0,f0,p0,q0,hg0,ht0,hv0,hd0,⟨g1,t1,cs1,f1,p1,q1,hg1,ht1,hv1,hd1,⟨g2,t2,cs2,f2,p2,q2,hg2,ht2,hv2,hd2,⟨g4,t4,cs4,f4,p4,q4,hg4,ht4,hv4,hd4,⟨g3,t3,cs3,f3,p3,q3,hg3,ht3,hv3,hd3,_,_⟩,_⟩,_⟩,_⟩,_⟩,_,_⟩:=h
  obtain rfl:=Option.some.inj ((show Tryz.prog.globalNamed "internal/strconv.uint64pow10" = some 3 by kernel_rfl).symm.trans hg2)
  obtain rfl:=Option.some.inj ((show (Tryz.prog.globals[3]?).map (·.type) = some 384 by kernel_rfl).symm.trans ht2)
  obtain rfl:=Option.some.inj ((show Tryz.prog.globalNamed "genlock/code.rates" = some 0 by kernel_rfl).symm.trans hg3)
  obtain rfl:=Option.some.inj ((show (Tryz.prog.globals[0]?).map (·.type) = some 189 by kernel_rfl).symm.trans ht3)
  exact globs_of hv3 hd3 hv2 hd2
end Go.Proofs.A1
