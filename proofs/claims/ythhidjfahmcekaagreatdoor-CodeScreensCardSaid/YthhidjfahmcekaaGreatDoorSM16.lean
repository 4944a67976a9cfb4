/- Parts of the proof: U23 TryzShelf U24. -/
import Derived.Test.YthhidjfahmcekaaGreatDoorSM15
import Derived.Test.YthhidjfahmcekaaGreatDoorSM06
import Derived.Shelf.Strings.OnBuilder
import Derived.Shelf.LaysM
import Derived.Shelf.Strconv.Itoa3
import Derived.Ground.NamesProg
import Derived.Ground.Names2Prog
import Derived.Test.YthhidjfahmcekaaGreatDoorProg
import Derived.Test.YthhidjfahmcekaaGreatDoorSM10
import Derived.Lib.AppendIntMem
import Derived.Test.YthhidjfahmcekaaGreatDoorSM07
set_option linter.unusedSectionVars false
set_option linter.unusedVariables false
set_option linter.unusedSimpArgs false
namespace Go.Proofs.A1
open Go Go.SL
theorem ones_c (b:Int) (hb:0 ≤ b ∧ b ≤ 255) (w:World):GivesV Tryz.prog 185 [.int .u8 b] w (.int .i64 (cntQ b 8)):=by
  refine givesV_of_tr Tryz.func185 rfl rfl ?_
  (refine s_r ?_;refine a_s rfl rfl ?_;refine n_r ?_;refine m_v rfl rfl ?_)
  with_reducible apply tr_val
  case hr=>
    with_reducible apply rk_indexS
    case hx=>exact Is.of rfl
    case hy=>exact Is.of rfl
    case h0=>omega
    case h1=>exact Int.lt_of_le_of_lt hb.2 (by decide +kernel)
  case hd=>rfl
  (refine tr_val (rk_conv (.of rfl)) rfl ?_;refine a_s rfl rfl ?_;refine n_t ?_;refine tr_ret ?_;refine tr_retE rfl (ends1 rfl rfl) ?_)
  obtain ⟨k,hk,rfl⟩:=byte_nat hb
  congr 1
  revert k
  decide +kernel
theorem odd_c (b:Int) (hb:0 ≤ b ∧ b ≤ 255) (w:World):GivesV Tryz.prog 120 [.int .u8 b] w (.bool (oddB b)):=by
  have hn:0 ≤ cntQ b 8 ∧ cntQ b 8 ≤ 8:=by
    obtain ⟨k,hk,rfl⟩:=byte_nat hb
    revert k
    decide +kernel
  refine givesV_of_tr Tryz.func120 rfl rfl ?_
  (refine s_r ?_;refine a_s rfl rfl ?_;refine n_r ?_;refine m_v rfl rfl ?_;refine tr_callV (rk_call (.of rfl) (.cons (.of rfl) .nil) inferInstance normc_) rfl (fun w' hm'=>(ones_c b hb w')) ?_;refine tr_val (rk_rem (.of rfl) (.of rfl) (by omega) (by omega)) rfl ?_;refine tr_val (rk_eql (.of rfl) (.of rfl)) rfl ?_;refine a_s rfl rfl ?_;refine n_t ?_;refine tr_ret ?_;refine tr_retE rfl (ends1 rfl rfl) ?_)
  rfl
theorem sntE_hi {s:ByteArray} (h4:¬ 4000 < s.size) {k:Nat} (hk:k < s.size) (h:128 ≤ bt s k):sntE s = 1:=by unfold sntE;rw [if_neg h4,if_pos (hiB_at hk h)]
theorem sntE_no {s:ByteArray} (h4:¬ 4000 < s.size) (h:∀ k,k < s.size → ¬ 128 ≤ bt s k):sntE s = 0:=by unfold sntE;rw [if_neg h4,if_neg (by rw [hiB_no h];decide)]
theorem bt_in (s:ByteArray) (k:Nat):0 ≤ bt s k ∧ bt s k ≤ 255:=by unfold bt;have:=(s.data.toList[k]?.getD 0).toNat_lt;omega
theorem sent_c (s:ByteArray) (w:World) :
    Gives Tryz.prog 51 [.string s] w [] (fun _:Value=>True) (fun v=>.tuple #[v,.int .i64 (sntE s)]) (fun v=>[row 5 1 v (sntL s).length (bytsV (sntL s))]):=by
  refine gives_of_tr Tryz.func51 rfl rfl ?_
  (refine s_r ?_;refine a_s rfl rfl ?_;refine a_s rfl rfl ?_;refine n_t ?_;refine tr_seq ?_;refine s_r ?_;refine m_v rfl rfl ?_;refine tr_val (rk_len_string (.of rfl)) rfl ?_;refine tr_val (rk_gtr (.of rfl) (.of rfl)) rfl ?_;refine n_t ?_;refine c_d rfl (fun hcd=>?_) (fun hcd=>?_);refine s_r ?_;refine a_s rfl rfl ?_;refine a_s rfl rfl ?_;refine n_t ?_;refine r_t ?_;rotate_left;refine s_t ?_;refine s_r ?_;refine a_s rfl rfl ?_;refine n_t ?_;refine tr_seq ?_;refine s_r ?_;refine m_v rfl rfl ?_;refine tr_val (rk_len_string (.of rfl)) rfl ?_;refine m_v rfl rfl ?_;refine n_t ?_;refine tr_block ?_;rotate_right)
  · have e:sntE s = 26:=by unfold sntE;rw [if_pos (by omega)]
    rw [show sntL s = [] by unfold sntL;rw [e,if_neg (by decide)],e]
    refine tr_rowNil 5 1 ?_
    first | with_reducible apply tr_retM | with_reducible apply tr_endM
    case he=>exact ends2 rfl rfl rfl
    case hR=>
      intro w' hm'
      exact gives_end (.slice none 0 0) trivial (show Takes _ [row 5 1 (.slice none 0 0) 0 []] _ by exact .cons .here .nil) hm' rfl
  have h4:¬ 4000 < s.size:=by omega
  refine tr_rowNil 5 1 ?_
  refine tr_for (ι:=Nat × Value) (fun x=>x.1 ≤ s.size ∧ ∀ i,i < x.1 → ¬ 128 ≤ bt s i) (fun x=>[(12,.int .i64 (x.1:Nat)),(11,.int .i64 s.size),(0,.string s),(4,x.2)]) (fun x=>[row 5 1 x.2 x.1 (bytsV (sntK s x.1))]) (fun x=>s.size - x.1) ?_ ?_
  · apply tr_start (0,.slice none 0 0) ⟨Nat.zero_le _,fun i h=>absurd h (by omega)⟩
    case hs1=>exact .cons rfl (.cons rfl (.cons rfl (.cons rfl .nil)))
    case ht=>
      show Takes _ [row 5 1 (.slice none 0 0) 0 []] _
      exact .cons .here .nil
  rintro ⟨k,v⟩ ⟨hk,hf⟩
  dsimp only at hk hf ⊢
  by_cases hlt:k < s.size
  · have hbb:=bt_in s k
    have hod:∀ w,GivesV Tryz.prog 120 [.int .u8 ((s.data.toList[((k:Nat):Int).toNat]?.getD 0).toNat:Nat)] w (.bool (oddB (bt s k))):=fun w=>odd_c _ hbb w
    have hbt:(((s.data.toList[((k:Nat):Int).toNat]?.getD 0).toNat:Nat):Int) = bt s k:=rfl
    have hsk:sntK s (k + 1) = sntK s k++[sntB (bt s k)]:=sntK_succ s k
    have hskv:bytsV (sntK s (k + 1)) = bytsV (sntK s k)++[.int .u8 (sntB (bt s k))]:=by rw [hsk,bytsV_app];rfl
    have hol:(bytsV (sntK s k)).length = k * 1:=by rw [bytsV_len,sntK_len]
    (refine s_r ?_;refine tr_val (rk_lss (.of rfl) (.of rfl)) rfl ?_;refine n_t ?_;refine tr_seq ?_;refine c_d rfl (fun hcd=>?_) (fun _=>by omega);refine s_t ?_;refine tr_seq ?_;refine tr_block ?_;refine s_r ?_;refine m_v rfl rfl ?_;refine a_s rfl rfl ?_;refine n_r ?_;refine m_v rfl rfl ?_;refine m_v rfl rfl ?_;refine tr_val (rk_indexS (.of rfl) (.of rfl) (by omega) hcd) rfl ?_;refine a_s rfl rfl ?_;refine n_t ?_;refine tr_block ?_;refine s_r ?_;refine m_v rfl rfl ?_;refine tr_val (rk_geq (.of rfl) (.of rfl)) rfl ?_;refine a_s rfl rfl ?_;refine n_t ?_;refine c_d rfl (fun hcd=>?_) (fun hcd=>?_);refine s_r ?_;refine a_s rfl rfl ?_;refine a_s rfl rfl ?_;refine n_t ?_;refine tr_ret ?_;refine tr_blk_ret ?_;refine tr_blk_ret ?_;refine tr_then_ret ?_;refine tr_then_ret ?_;refine tr_blk_ret ?_;refine tr_then_ret ?_;rotate_left;refine s_r ?_;refine m_v rfl rfl ?_;refine tr_callV (rk_call (.of rfl) (.cons (.of rfl) .nil) inferInstance normc_) rfl (fun w' hm'=>(hod w')) ?_;refine a_s rfl rfl ?_;refine n_t ?_;refine c_d rfl (fun hcd=>?_) (fun hcd=>?_);refine tr_region ?_;refine m_v rfl rfl ?_;refine m_v rfl rfl ?_;refine tr_new (rk_sliceLit (.cons (.of rfl) .nil) rfl rfl rfl rfl) rfl (fun _ _=>?_);rotate_left;refine tr_region ?_;refine m_v rfl rfl ?_;refine m_v rfl rfl ?_;refine tr_val (rk_or8 (.of rfl) (.of rfl)) rfl ?_;refine tr_new (rk_sliceLit (.cons (.of rfl) .nil) rfl rfl rfl rfl) rfl (fun _ _=>?_);rotate_right;rotate_right)
    · have e:=sntE_hi h4 hlt hcd
      rw [show sntL s = [] by unfold sntL;rw [e,if_neg (by decide)],e]
      refine tr_rowNil 5 1 ?_
      first | with_reducible apply tr_retM | with_reducible apply tr_endM
      case he=>exact ends2 rfl rfl rfl
      case hR=>
        intro w' hm'
        exact gives_end (.slice none 0 0) trivial (show Takes _ [row 5 1 (.slice none 0 0) 0 []] _ by exact .cons .here .nil) hm' rfl
    · have ho:oddB (bt s k) = true:=by unfold oddB;simpa using hcd
      have hb:sntB (bt s k) = bt s k:=by unfold sntB;rw [if_pos ho]
      rw [hb] at hskv
      rw [hbt]
      refine tr_appendB (.of rfl) (.of rfl) (.there .here) .here norm_ (by rfl) (okc_cons rfl okc_nil) (by rfl) (by rfl) (by rfl) lenx_ (by rfl) ?_
      intro v'
      (refine a_s rfl rfl ?_;refine tr_nil ?_;refine tr_blk_normal ?_;refine tr_blk_normal ?_;refine tr_then ?_;refine tr_region ?_;refine tr_val (rk_add (.of rfl) (.of rfl) (ini (by omega))) rfl ?_;refine m_v rfl rfl ?_;refine n_t ?_)
      apply tr_next (k + 1,v') ⟨show k + 1 ≤ s.size by omega,fun i hi=>by
        by_cases e:i = k
        · rw [e];assumption
        · exact hf i (by omega)⟩ (show s.size - (k + 1) < s.size - k by omega)
      case hs1=>exact .cons rfl (.cons rfl (.cons rfl (.cons rfl .nil)))
      case ht=>
        show Takes _ [row 5 1 v' (k + 1) (bytsV (sntK s (k + 1)))] _
        rw [hskv]
        exact .cons .here .nil
    · have ho:¬ oddB (bt s k) = true:=by unfold oddB;simpa using hcd
      have hb:sntB (bt s k) = orF (bt s k) 128:=by unfold sntB;rw [if_neg ho]
      rw [hb] at hskv
      rw [hbt]
      refine tr_appendB (.of rfl) (.of rfl) (.there .here) .here norm_ (by rfl) (okc_cons rfl okc_nil) (by rfl) (by rfl) (by rfl) lenx_ (by rfl) ?_
      intro v'
      (refine a_s rfl rfl ?_;refine tr_nil ?_;refine tr_blk_normal ?_;refine tr_blk_normal ?_;refine tr_then ?_;refine tr_region ?_;refine tr_val (rk_add (.of rfl) (.of rfl) (ini (by omega))) rfl ?_;refine m_v rfl rfl ?_;refine n_t ?_)
      apply tr_next (k + 1,v') ⟨show k + 1 ≤ s.size by omega,fun i hi=>by
        by_cases e:i = k
        · rw [e];assumption
        · exact hf i (by omega)⟩ (show s.size - (k + 1) < s.size - k by omega)
      case hs1=>exact .cons rfl (.cons rfl (.cons rfl (.cons rfl .nil)))
      case ht=>
        show Takes _ [row 5 1 v' (k + 1) (bytsV (sntK s (k + 1)))] _
        rw [hskv]
        exact .cons .here .nil
  · obtain rfl:k = s.size:=by omega
    have e:=sntE_no h4 hf
    have hL:sntL s = sntK s s.size:=by unfold sntL;rw [if_pos e]
    rw [hL,e,sntK_len]
    (refine s_r ?_;refine tr_val (rk_lss (.of rfl) (.of rfl)) rfl ?_;refine n_t ?_;refine tr_seq ?_;refine c_d rfl (fun _=>by omega) (fun hcd=>?_);refine x_t ?_;refine tr_then_exit ?_;refine tr_blk_exit ?_;refine tr_then ?_;refine s_r ?_;refine m_v rfl rfl ?_;refine a_s rfl rfl ?_;refine a_s rfl rfl ?_;refine n_t ?_;refine tr_ret ?_)
    first | with_reducible apply tr_retM | with_reducible apply tr_endM
    case he=>exact ends2 rfl rfl rfl
    case hR=>
      intro w' hm'
      exact gives_end v trivial (by exact .cons .here .nil) hm' rfl
def hrdX (l:List Int):ByteArray:=if hrdE l.length = 0 then strOf (hrdT l) else ⟨#[]⟩
def hrdL (l:List Int):List Nat:=if hrdE l.length = 0 then hrdW l l.length else []
theorem hrdV_at {l:List Int} {k:Nat} (hk:k < l.length) (v:Int):setCells (hrdV l k) (k * 1) [.int .u8 v] = (hrdV l k).set k (.int .u8 v):=by
  show (hrdV l k).set (k * 1) _ = _
  rw [Nat.mul_one]
theorem hrdV_zero (l:List Int):hrdV l 0 = List.replicate l.length (.int .u8 0):=by simp [hrdV]
theorem heard_c {sv:Value} {l:List Int} {w:World} (h:Rd w sv 1 (byts l)) (hby:∀ x ∈ l,0 ≤ x ∧ x ≤ 255) :
    Gives Tryz.prog 52 [sv] w [] (fun _:Value=>True) (fun v=>.tuple #[.string (hrdX l),v,.int .i64 (hrdE l.length)]) (fun v=>[row 3 1 v (hrdL l).length (natsV (hrdL l))]):=by
  have h1':=h
  obtain ⟨a,cap,b,o,rfl,hcap,hmax,ha,hc⟩:=h1'
  rw [byts_length] at *
  unfold maxLen at hmax
  refine gives_of_tr Tryz.func52 rfl rfl ?_
  (refine s_r ?_;refine a_s rfl rfl ?_;refine a_s rfl rfl ?_;refine a_s rfl rfl ?_;refine n_t ?_;refine tr_seq ?_;refine s_r ?_;refine m_v rfl rfl ?_;refine tr_callV (rk_call (.of rfl) (.cons (.of rfl) .nil) inferInstance normc_) rfl (fun w' hm'=>(chkBytes_c a _ cap w')) ?_;refine a_s rfl rfl ?_;refine n_r ?_;refine m_v rfl rfl ?_;refine tr_val (rk_neq (.of rfl) (.of rfl)) rfl ?_;refine n_t ?_;refine c_d rfl (fun hcd=>?_) (fun hcd=>?_);refine s_r ?_;refine m_v rfl rfl ?_;refine a_s rfl rfl ?_;refine a_s rfl rfl ?_;refine a_s rfl rfl ?_;refine n_t ?_;refine r_t ?_;rotate_left;refine s_t ?_;refine s_r ?_;refine m_v rfl rfl ?_;refine tr_val (rk_len_slice (.of rfl)) rfl ?_;rotate_right)
  · rw [hrdX,hrdL,if_neg hcd,if_neg hcd]
    refine tr_rowNil 3 1 ?_
    first | with_reducible apply tr_retM | with_reducible apply tr_endM
    case he=>exact ends3 rfl rfl rfl rfl
    case hR=>
      intro w' hm'
      exact gives_end (.slice none 0 0) trivial (show Takes _ [row 3 1 (.slice none 0 0) 0 []] _ by exact .cons .here .nil) hm' rfl
  have hz:hrdE l.length = 0:=Decidable.not_not.1 hcd
  have hfew:l.length ≤ 4000:=by
    unfold hrdE at hz
    by_cases h4:4000 < l.length
    · rw [if_pos h4] at hz;cases hz
    · omega
  rw [hrdX,hrdL,if_pos hz,if_pos hz,hz]
  with_reducible apply tr_new
  case hr=>
    with_reducible apply rk_make
    case hx=>exact Is.of rfl
    case hy=>exact Is.of rfl
    case hl=>omega
    case hb=>omega
    case hz=>rfl
    case hsz=>rfl
    case h63=>omega
  case hd=>rfl
  intro g hg
  have hrep:(List.replicate l.length (Value.int .u8 0).cells.toList).flatten = hrdV l 0:=by
    rw [hrdV_zero]
    have:=flatten_singletons (List.replicate l.length (Value.int .u8 0))
    rw [List.map_replicate] at this
    exact this
  rw [hrep]
  (refine a_s rfl rfl ?_;refine n_r ?_;refine a_s rfl rfl ?_;refine n_t ?_;refine tr_seq ?_;refine s_r ?_;refine m_v rfl rfl ?_;refine tr_val (rk_len_slice (.of rfl)) rfl ?_;refine m_v rfl rfl ?_;refine n_t ?_;refine tr_block ?_)
  refine tr_rowNil 3 1 ?_
  refine tr_for (ι:=Nat × Value) (fun x=>x.1 ≤ l.length) (fun x=>[(20,.int .i64 (x.1:Nat)),(19,.int .i64 l.length),(18,.slice a l.length cap),(6,.slice (some ⟨g,0,none⟩) l.length l.length),(7,x.2)]) (fun x=>[blk g (.cells (hrdV l x.1).toArray 5 (0,0)),row 3 1 x.2 (hrdW l x.1).length (natsV (hrdW l x.1))]) (fun x=>l.length - x.1) ?_ ?_
  · apply tr_start (0,.slice none 0 0) (Nat.zero_le _)
    case hs1=>exact .cons rfl (.cons rfl (.cons rfl (.cons rfl (.cons rfl .nil))))
    case ht=>
      show Takes _ [blk g (.cells (hrdV l 0).toArray 5 (0,0)),row 3 1 (.slice none 0 0) 0 []] _
      exact .cons (.there .here) (.cons .here .nil)
  rintro ⟨k,v⟩ hk
  dsimp only at hk ⊢
  by_cases hlt:k < l.length
  · have ha':=ha (byts_ne hlt)
    have hcell:=(hc k _ (byts_get hlt)).2
    have c0:w.cell? ⟨b,o + k * 1,none⟩ = some (.int .u8 l[k]):=hcell 0 _ rfl
    have hbb:=hby _ (List.getElem_mem hlt)
    have hset:=hrdV_at hlt (anotF l[k] 128)
    have hsl:k * 1 + 1 ≤ (hrdV l k).length:=by rw [hrdV_len l (by omega)];omega
    have hsl2:k * 1 + 1 ≤ ((hrdV l k).set k (.int .u8 (anotF l[k] 128))).length:=by rw [List.length_set,hrdV_len l (by omega)];omega
    have hset2:setCells ((hrdV l k).set k (.int .u8 (anotF l[k] 128))) (k * 1) [.int .u8 63] = (hrdV l k).set k (.int .u8 63):=by
      show ((hrdV l k).set k (.int .u8 (anotF l[k] 128))).set (k * 1) _ = _
      rw [Nat.mul_one,hrdV_set2 l hlt]
    have hsucc:=hrdV_succ l hlt
    have hW:=hrdW_succ l hlt
    have hWl:=hrdW_len l k
    (refine s_r ?_;refine tr_val (rk_lss (.of rfl) (.of rfl)) rfl ?_;refine n_t ?_;refine tr_seq ?_;refine c_d rfl (fun hcd=>?_) (fun _=>by omega);refine s_t ?_;refine tr_seq ?_;refine tr_block ?_;refine s_r ?_;refine m_v rfl rfl ?_;refine tr_val (rk_indexAddr (.of rfl) (.of rfl) ha' (by omega) hcd norm1_) rfl ?_;refine tr_val (rk_load1 (.of rfl) (At.base c0 rfl)) rfl ?_;refine a_s rfl rfl ?_;refine a_s rfl rfl ?_;refine n_r ?_;refine m_v rfl rfl ?_;refine m_v rfl rfl ?_;refine m_v rfl rfl ?_;refine tr_val (rk_andNot8 (.of rfl) (.of rfl)) rfl ?_;refine tr_val (rk_indexAddr (.of rfl) (.of rfl) rfl (by omega) hcd norm1_) rfl ?_;refine tr_store (.of rfl) (.of rfl) .here rfl rfl (okc_cons rfl okc_nil) hsl hset ?_;refine n_r ?_;refine m_v rfl rfl ?_;refine tr_callV (rk_call (.of rfl) (.cons (.of rfl) .nil) inferInstance normc_) rfl (fun w' hm'=>(odd_c _ hbb w')) ?_;refine tr_val (rk_not (.of rfl)) rfl ?_;refine n_t ?_;refine c_b rfl (fun hcd=>?_) (fun hcd=>?_);refine s_r ?_;refine m_v rfl rfl ?_;refine m_v rfl rfl ?_;refine tr_val (rk_indexAddr (.of rfl) (.of rfl) rfl (by omega) (by assumption) norm1_) rfl ?_;refine tr_store (.of rfl) (.of rfl) .here rfl rfl (okc_cons rfl okc_nil) hsl2 hset2 ?_;refine n_t ?_;refine tr_region ?_;refine m_v rfl rfl ?_;refine m_v rfl rfl ?_;refine tr_new (rk_sliceLit (.cons (.of rfl) .nil) rfl rfl rfl rfl) rfl (fun _ _=>?_);rotate_left;refine tr_skip ?_;refine tr_blk_normal ?_;refine tr_then ?_;refine tr_region ?_;refine tr_val (rk_add (.of rfl) (.of rfl) (ini (by omega))) rfl ?_;refine m_v rfl rfl ?_;refine n_t ?_;rotate_right)
    · have hB:hrdB l[k] = 63:=by unfold hrdB;rw [hcd];rfl
      rw [hB] at hsucc
      rw [hcd,if_neg (by decide)] at hW
      have hWv:natsV (hrdW l (k + 1)) = natsV (hrdW l k)++[.int .i64 (k:Nat)]:=by rw [hW,natsV_app];rfl
      have hWn:(hrdW l (k + 1)).length = (hrdW l k).length + 1:=by rw [hW];simp
      rw [hsucc]
      refine tr_appendB (.of rfl) (.of rfl) (.there (.there .here)) .here norm_ (by rfl) (okc_cons rfl okc_nil) (by rfl) (by rfl) (by rfl) lenx_ (by rfl) ?_
      intro v'
      (refine a_s rfl rfl ?_;refine tr_nil ?_;refine tr_blk_normal ?_;refine tr_then ?_;refine tr_region ?_;refine tr_val (rk_add (.of rfl) (.of rfl) (ini (by omega))) rfl ?_;refine m_v rfl rfl ?_;refine n_t ?_)
      apply tr_next (k + 1,v') (show k + 1 ≤ l.length by omega) (show l.length - (k + 1) < l.length - k by omega)
      case hs1=>exact .cons rfl (.cons rfl (.cons rfl (.cons rfl (.cons rfl .nil))))
      case ht=>
        show Takes _ [blk g (.cells (hrdV l (k + 1)).toArray 5 (0,0)),row 3 1 v' (hrdW l (k + 1)).length (natsV (hrdW l (k + 1)))] _
        rw [hWn,hWv]
        exact .cons (.there (.there .here)) (.cons .here .nil)
    · have hB:hrdB l[k] = anotF l[k] 128:=by unfold hrdB;rw [hcd];rfl
      rw [hB] at hsucc
      rw [hcd,if_pos rfl,List.append_nil] at hW
      rw [hsucc]
      apply tr_next (k + 1,v) (show k + 1 ≤ l.length by omega) (show l.length - (k + 1) < l.length - k by omega)
      case hs1=>exact .cons rfl (.cons rfl (.cons rfl (.cons rfl (.cons rfl .nil))))
      case ht=>
        show Takes _ [blk g (.cells (hrdV l (k + 1)).toArray 5 (0,0)),row 3 1 v (hrdW l (k + 1)).length (natsV (hrdW l (k + 1)))] _
        rw [hW]
        exact .cons .here (.cons .here .nil)
  · obtain rfl:k = l.length:=by omega
    rw [hrdV_end]
    (refine s_r ?_;refine tr_val (rk_lss (.of rfl) (.of rfl)) rfl ?_;refine n_t ?_;refine tr_seq ?_;refine c_d rfl (fun _=>by omega) (fun hcd=>?_);refine x_t ?_;refine tr_then_exit ?_;refine tr_blk_exit ?_;refine tr_then ?_;refine s_r ?_;refine m_v rfl rfl ?_)
    with_reducible apply tr_val (V:=.string (strOf (hrdT l)))
    case hr=>
      with_reducible apply rk_convBSn
      case hx=>exact Is.of rfl
      case hv=>exact Ats.blk (by exact .here) (cellsAt_all (n:=l.length) (by simp [hrdT]))
      case hl=>simp [hrdT]
    case hd=>rfl
    (refine m_v rfl rfl ?_;refine a_s rfl rfl ?_;refine a_s rfl rfl ?_;refine a_s rfl rfl ?_;refine n_t ?_;refine tr_ret ?_)
    first | with_reducible apply tr_retM | with_reducible apply tr_endM
    case he=>exact ends3 rfl rfl rfl rfl
    case hR=>
      intro w' hm'
      exact gives_end v trivial (by exact .cons (.there .here) .nil) hm' rfl
end Go.Proofs.A1
namespace Go.Proofs
open Go.Shelf
def Tryz.lays156_ren:Go.Shelf.Ren:=⟨fun | 156=>144 | 165=>195 | 166=>196 | 169=>197 | 240=>244 | 241=>245 | 276=>268 | 277=>269 | n=>n,fun | 31=>245 | 9=>9 | 3=>3 | 4=>4 | 0=>0 | 20=>20 | 72=>302 | 76=>306 | 70=>300 | 37=>78 | 75=>305 | 127=>343 | 164=>365 | 5=>5 | 80=>308 | n=>n,fun | n=>n⟩
theorem Tryz.lays156:Go.Proofs.Lays.n156 Tryz.prog Tryz.lays156_ren:={
  mixed:=by kernel_rfl
  f156:=Tryz.func144.trans (congrArg some (by kernel_rfl))
  f165:=Tryz.func195.trans (congrArg some (by kernel_rfl))
  f166:=Tryz.func196.trans (congrArg some (by kernel_rfl))
  f169:=Tryz.func197.trans (congrArg some (by kernel_rfl))
  f240:=Tryz.func244.trans (congrArg some (by kernel_rfl))
  f241:=Tryz.func245.trans (congrArg some (by kernel_rfl))
  f276:=Tryz.func268.trans (congrArg some (by kernel_rfl))
  f277:=Tryz.func269.trans (congrArg some (by kernel_rfl))
  t0:=Tryz.underlying0
  a0:=Tryz.isAgg0
  z0:=Tryz.sizeOf0
  v0:=Tryz.zeroValue0
  t3:=Tryz.underlying3
  a3:=Tryz.isAgg3
  z3:=Tryz.sizeOf3
  v3:=Tryz.zeroValue3
  t4:=Tryz.underlying4
  a4:=Tryz.isAgg4
  z4:=Tryz.sizeOf4
  v4:=Tryz.zeroValue4
  t9:=Tryz.underlying9
  a9:=Tryz.isAgg9
  z9:=Tryz.sizeOf9
  v9:=Tryz.zeroValue9
  t20:=Tryz.underlying20
  a20:=Tryz.isAgg20
  z20:=Tryz.sizeOf20
  v20:=Tryz.zeroValue20
  t31:=Tryz.underlying245
  a31:=Tryz.isAgg245
  z31:=Tryz.sizeOf245
  v31:=Tryz.zeroValue245
  t37:=Tryz.underlying78
  a37:=Tryz.isAgg78
  z37:=Tryz.sizeOf78
  v37:=Tryz.zeroValue78
  t70:=Tryz.underlying300
  a70:=Tryz.isAgg300
  z70:=Tryz.sizeOf300
  v70:=Tryz.zeroValue300
  t72:=Tryz.underlying302
  a72:=Tryz.isAgg302
  z72:=Tryz.sizeOf302
  v72:=Tryz.zeroValue302
  t75:=Tryz.underlying305
  a75:=Tryz.isAgg305
  z75:=Tryz.sizeOf305
  v75:=Tryz.zeroValue305
  t76:=Tryz.underlying306
  a76:=Tryz.isAgg306
  z76:=Tryz.sizeOf306
  v76:=Tryz.zeroValue306
  t127:=Tryz.underlying343
  a127:=Tryz.isAgg343
  z127:=Tryz.sizeOf343
  v127:=Tryz.zeroValue343
  t164:=Tryz.underlying365
  a164:=Tryz.isAgg365
  z164:=Tryz.sizeOf365
  v164:=Tryz.zeroValue365 }
theorem Tryz.Builder_Extra_156:Builder.Extra Tryz.prog Tryz.lays156_ren:={
  sizeBuilder:=by kernel_rfl
  liesBuilder:=by kernel_rfl
  t5:=Tryz.underlying5
  a5:=Tryz.isAgg5
  z5:=Tryz.sizeOf5
  v5:=Tryz.zeroValue5
  infoByte:=by kernel_rfl
  cellsByte:=by kernel_rfl
  sizeByte:=by kernel_rfl
  neB5:=by decide }
open Go.RowKit in
theorem Tryz.strings_Join_none (a:Option Addr) (c:Nat) (sep:ByteArray) (w:World) :
    Calls Tryz.prog 144 #[.slice a 0 c,.string sep] w fun e w'=>e = .returned (.string ⟨#[]⟩) ∧ w' = w:=Any.strings_Join_none Tryz.lays156 Tryz.Builder_Extra_156 a c sep w
open Go.RowKit in
theorem Tryz.strings_Join (bk o c:Nat) (xs:List ByteArray) (sep:ByteArray) (w:World) (hcells:∀ (j:Nat) x,xs[j]? = some x → w.cell? ⟨bk,o + j,none⟩ = some (.string x)) (hbk:bk < w.heap.size) (hN:xs.length ≤ 140737488355328) (hcap:xs.length ≤ c) (hlen:(Lib.join (xs.map (·.data.toList)) sep.data.toList).length ≤ 140737488355328) :
    Calls Tryz.prog 144 #[.slice (some ⟨bk,o,none⟩) xs.length c,.string sep] w fun e w'=>e = .returned (.string ⟨(Lib.join (xs.map (·.data.toList)) sep.data.toList).toArray⟩) ∧ Below w.heap.size w w':=Any.strings_Join Tryz.lays156 Tryz.Builder_Extra_156 bk o c xs sep w hcells hbk hN hcap hlen
def Tryz.laysM171_ren:Go.Shelf.Ren:=⟨fun | 171=>147 | 243=>198 | 246=>246 | 283=>270 | 284=>271 | 285=>272 | 286=>273 | 129=>233 | 317=>283 | 318=>284 | 319=>285 | 320=>286 | 337=>296 | 338=>297 | n=>n,fun | 3=>3 | 9=>9 | 2=>2 | 4=>4 | 171=>368 | 0=>0 | 53=>335 | 37=>78 | 5=>5 | 173=>370 | 212=>384 | 51=>91 | 20=>20 | 213=>385 | 46=>206 | 232=>393 | 233=>394 | n=>n,fun | 17=>3 | 18=>6 | 19=>7 | n=>n⟩
theorem Tryz.laysM171:Go.Proofs.LaysM.n171 Tryz.prog Tryz.laysM171_ren:={
  mixed:=by kernel_rfl
  f129:=Tryz.func233.trans (congrArg some (by kernel_rfl))
  f171:=Tryz.func147.trans (congrArg some (by kernel_rfl))
  f243:=Tryz.func198.trans (congrArg some (by kernel_rfl))
  f246:=Tryz.func246.trans (congrArg some (by kernel_rfl))
  f283:=Tryz.func270.trans (congrArg some (by kernel_rfl))
  f284:=Tryz.func271.trans (congrArg some (by kernel_rfl))
  f285:=Tryz.func272.trans (congrArg some (by kernel_rfl))
  f286:=Tryz.func273.trans (congrArg some (by kernel_rfl))
  f317:=Tryz.func283.trans (congrArg some (by kernel_rfl))
  f318:=Tryz.func284.trans (congrArg some (by kernel_rfl))
  f319:=Tryz.func285.trans (congrArg some (by kernel_rfl))
  f320:=Tryz.func286.trans (congrArg some (by kernel_rfl))
  f337:=Tryz.func296.trans (congrArg some (by kernel_rfl))
  f338:=Tryz.func297.trans (congrArg some (by kernel_rfl))
  t0:=Tryz.underlying0
  a0:=Tryz.isAgg0
  z0:=Tryz.sizeOf0
  v0:=Tryz.zeroValue0
  t2:=Tryz.underlying2
  a2:=Tryz.isAgg2
  z2:=Tryz.sizeOf2
  v2:=Tryz.zeroValue2
  t3:=Tryz.underlying3
  a3:=Tryz.isAgg3
  z3:=Tryz.sizeOf3
  v3:=Tryz.zeroValue3
  t4:=Tryz.underlying4
  a4:=Tryz.isAgg4
  z4:=Tryz.sizeOf4
  v4:=Tryz.zeroValue4
  t5:=Tryz.underlying5
  a5:=Tryz.isAgg5
  z5:=Tryz.sizeOf5
  v5:=Tryz.zeroValue5
  t9:=Tryz.underlying9
  a9:=Tryz.isAgg9
  z9:=Tryz.sizeOf9
  v9:=Tryz.zeroValue9
  t20:=Tryz.underlying20
  a20:=Tryz.isAgg20
  z20:=Tryz.sizeOf20
  v20:=Tryz.zeroValue20
  t37:=Tryz.underlying78
  a37:=Tryz.isAgg78
  z37:=Tryz.sizeOf78
  v37:=Tryz.zeroValue78
  t46:=Tryz.underlying206
  a46:=Tryz.isAgg206
  z46:=Tryz.sizeOf206
  v46:=Tryz.zeroValue206
  t51:=Tryz.underlying91
  a51:=Tryz.isAgg91
  z51:=Tryz.sizeOf91
  v51:=Tryz.zeroValue91
  t53:=Tryz.underlying335
  a53:=Tryz.isAgg335
  z53:=Tryz.sizeOf335
  v53:=Tryz.zeroValue335
  t171:=Tryz.underlying368
  a171:=Tryz.isAgg368
  z171:=Tryz.sizeOf368
  v171:=Tryz.zeroValue368
  t173:=Tryz.underlying370
  a173:=Tryz.isAgg370
  z173:=Tryz.sizeOf370
  v173:=Tryz.zeroValue370
  t212:=Tryz.underlying384
  a212:=Tryz.isAgg384
  z212:=Tryz.sizeOf384
  v212:=Tryz.zeroValue384
  t213:=Tryz.underlying385
  a213:=Tryz.isAgg385
  z213:=Tryz.sizeOf385
  t232:=Tryz.underlying393
  a232:=Tryz.isAgg393
  z232:=Tryz.sizeOf393
  v232:=Tryz.zeroValue393
  t233:=Tryz.underlying394
  a233:=Tryz.isAgg394
  z233:=Tryz.sizeOf394
  v233:=Tryz.zeroValue394
  g17:=by kernel_rfl
  g18:=by kernel_rfl
  g19:=by kernel_rfl
  i0:=by kernel_rfl
  i2:=by kernel_rfl
  i3:=by kernel_rfl
  i4:=by kernel_rfl
  i5:=by kernel_rfl
  i9:=by kernel_rfl
  i20:=by kernel_rfl
  i37:=by kernel_rfl
  i46:=by kernel_rfl
  i51:=by kernel_rfl
  i53:=by kernel_rfl
  i171:=by kernel_rfl
  i173:=by kernel_rfl
  i212:=by kernel_rfl
  i232:=by kernel_rfl
  i233:=by kernel_rfl
  m17:=by kernel_rfl
  m18:=by kernel_rfl
  m19:=by kernel_rfl }
open Go.RowKit Go.Sort Go.Lib in
theorem Tryz.strconv_Itoa (n:Int) (h0:-9223372036854775808 ≤ n) (h1:n ≤ 9223372036854775807) (w:World) (htab:Lib.TabIs Tryz.prog w "internal/strconv.uint64pow10" .u64 Lib.pow10Tab) :
    Calls Tryz.prog 147 #[.int .i64 n] w fun e w'=>e = .returned (.string ⟨(Lib.itoa n).toArray⟩) ∧ ∃ k os,w' = grow (w.drewN k) os:=Any.strconv_Itoa Tryz.laysM171 n h0 h1 w htab
end Go.Proofs
namespace Go.Proofs.A1
open Go Go.SL
def Tab10 (w:World):Prop:=Lib.TabIs Tryz.prog w "internal/strconv.uint64pow10" .u64 Lib.pow10Tab
theorem Tab10.keeps {w w':World} (h:Tab10 w) (hk:Keeps [] w w'):Tab10 w':=Lib.tabBelow_of_tabIs h w' hk.below
theorem keeps_grow (w:World) (k:Nat) (os:Array Obj):Keeps [] w (Sort.grow (w.drewN k) os):=
  ⟨rfl,rfl,rfl,by rw [Sort.size_grow];exact Nat.le_add_right _ _,fun b hb _=>Sort.heap_grow_old (w.drewN k) os hb⟩
theorem itoa_c (n:Int) (h0:-9223372036854775808 ≤ n) (h1:n ≤ 9223372036854775807) (w:World) (hT:Tab10 w):GivesV Tryz.prog 147 [.int .i64 n] w (.string (itoaB n)):=
  Calls.mono (Tryz.strconv_Itoa n h0 h1 w hT) fun e w' ⟨he,k,os,hw⟩=>⟨he,by rw [hw];exact keeps_grow w k os⟩
theorem join_c {lv:Value} {l:List ByteArray} (sep:ByteArray) {w:World} (h:Rd w lv 1 (srs l)) (hl:l.length ≤ 1000) (hlen:(Lib.join (l.map (·.data.toList)) sep.data.toList).length ≤ 140737488355328) :
    GivesV Tryz.prog 144 [lv,.string sep] w (.string (joinB l sep)):=by
  obtain ⟨a,cap,b,o,rfl,hcap,hmax,ha,hc⟩:=h
  rw [srs_length] at *
  cases l with
  | nil=>exact Calls.mono (Tryz.strings_Join_none a cap sep w) fun e w' ⟨he,hw⟩=>⟨he,by rw [hw];exact .refl _ _⟩
  | cons x r =>
    have:=ha (by simp [srs])
    subst this
    have hcell:∀ (j:Nat) y,(x :: r)[j]? = some y → w.cell? ⟨b,o + j,none⟩ = some (.string y):=fun j y hj=>by
      have:=(hc j [.string y] (by unfold srs;rw [List.getElem?_map,hj];rfl)).2 0 _ rfl
      simpa using this
    refine Calls.mono (Tryz.strings_Join b o cap (x :: r) sep w hcell ?_ (by omega) hcap hlen) fun e w' ⟨he,hw⟩=>⟨he,Keeps.of_below hw⟩
    exact World.block_lt_of_cell? w _ (hcell 0 x rfl)
theorem two_c (n:Int) (hn:0 ≤ n ∧ n ≤ 59) (w:World) (hT:Tab10 w):GivesV Tryz.prog 146 [.int .i64 n] w (.string (bA (twoL n))):=by
  have h2:=two_bA hn
  have hq:(itoaB (n / 10)).size + (itoaB (n % 10)).size ≤ 9223372036854775807:=by
    rw [itoa_dg (by omega),itoa_dg (by omega),bA_size,bA_size];simp
  rw [← h2]
  refine givesV_of_tr Tryz.func146 rfl rfl ?_
  (refine s_r ?_;refine a_s rfl rfl ?_;refine n_r ?_;refine m_v rfl rfl ?_;refine tr_val (rk_quo (.of rfl) (.of rfl) (by omega) (by omega) (by omega)) rfl ?_;refine tr_callV (rk_call (.of rfl) (.cons (.of rfl) .nil) inferInstance normc_) rfl (fun w' hm'=>(itoa_c _ (by omega) (by omega) w' (Tab10.keeps hT (Mem.keeps hm')))) ?_;refine m_v rfl rfl ?_;refine tr_val (rk_rem (.of rfl) (.of rfl) (by omega) (by omega)) rfl ?_;refine tr_callV (rk_call (.of rfl) (.cons (.of rfl) .nil) inferInstance normc_) rfl (fun w' hm'=>(itoa_c _ (by omega) (by omega) w' (Tab10.keeps hT (Mem.keeps hm')))) ?_;refine tr_val (rk_cat (.of rfl) (.of rfl) hq) rfl ?_;refine a_s rfl rfl ?_;refine n_t ?_;refine tr_ret ?_;refine tr_retE rfl (ends1 rfl rfl) ?_)
  rfl
def twV (l:List Int):List Value:=srsV (l.map fun n=>bA (twoL n))
theorem twV_len (l:List Int):(twV l).length = l.length * 1:=by unfold twV;rw [srsV_len,List.length_map]
theorem mapTw_c {lv:Value} {l:List Int} (hby:∀ x ∈ l,0 ≤ x ∧ x ≤ 59) {w:World} (h:Rd w lv 1 (intg l)) (hfew:l.length ≤ 4000) (hT:Tab10 w) :
    Gives Tryz.prog 145 [lv,.func (.func 146) #[] #[]] w [] (fun _:Value=>True) id (fun v=>[row 9 1 v l.length (twV l)]):=by
  obtain ⟨a,cp,b,o,rfl,hcap,hmax,ha,hc⟩:=h
  rw [intg_length] at *
  unfold maxLen at hmax
  refine gives_of_tr Tryz.func145 rfl rfl ?_
  (refine s_r ?_;refine a_s rfl rfl ?_;refine n_r ?_;refine a_s rfl rfl ?_;refine n_t ?_;refine tr_seq ?_;refine s_r ?_;refine m_v rfl rfl ?_;refine tr_val (rk_len_slice (.of rfl)) rfl ?_;refine m_v rfl rfl ?_;refine n_t ?_;refine tr_block ?_)
  refine tr_rowNil 9 1 ?_
  refine tr_for (ι:=Nat × Value) (fun x=>x.1 ≤ l.length) (fun x=>[(10,.int .i64 x.1),(9,.int .i64 l.length),(8,.slice a l.length cp),(5,x.2),(1,.func (.func 146) #[] #[])]) (fun x=>[row 9 1 x.2 x.1 (twV (l.take x.1))]) (fun x=>l.length - x.1) ?_ ?_
  · apply tr_start (0,.slice none 0 0) (Nat.zero_le _)
    case hs1=>exact .cons rfl (.cons rfl (.cons rfl (.cons rfl (.cons rfl .nil))))
    case ht=>
      show Takes _ [row 9 1 (.slice none 0 0) 0 []] _
      exact .cons .here .nil
  rintro ⟨k,v⟩ hk
  dsimp only at hk ⊢
  by_cases hlt:k < l.length
  · have ha':=ha (intg_ne hlt)
    have hcell:=(hc k _ (intg_get hlt)).2
    have htk:twV (l.take (k + 1)) = twV (l.take k)++[.string (bA (twoL l[k]))]:=by rw [List.take_succ_eq_append_getElem hlt];unfold twV;rw [List.map_append,srsV_app];rfl
    have hlk:(l.take k).length = k:=List.length_take_of_le (by omega)
    have hol:(twV (l.take k)).length = k * 1:=by rw [twV_len,hlk]
    have c0:w.cell? ⟨b,o + k * 1,none⟩ = some (.int .i64 l[k]):=hcell 0 _ rfl
    have hcl:∀ w',Keeps [] w w' → GivesV Tryz.prog 146 [.int .i64 l[k]] w' (.string (bA (twoL l[k]))):=fun w' hk=>two_c _ (hby _ (List.getElem_mem hlt)) w' (hT.keeps hk)
    (refine s_r ?_;refine tr_val (rk_lss (.of rfl) (.of rfl)) rfl ?_;refine n_t ?_;refine tr_seq ?_;refine c_d rfl (fun hcd=>?_) (fun _=>by omega);refine s_t ?_;refine tr_seq ?_;refine tr_block ?_;refine s_r ?_;refine tr_val (rk_indexAddr (.of rfl) (.of rfl) ha' (by omega) hcd norm1_) rfl ?_;refine tr_val (rk_load1 (.of rfl) (At.base c0 rfl)) rfl ?_;refine a_s rfl rfl ?_;refine n_t ?_;refine tr_region ?_;refine m_v rfl rfl ?_;refine m_v rfl rfl ?_;refine m_v rfl rfl ?_;refine tr_callV (rk_call (.of rfl) (.cons (.of rfl) .nil) inferInstance normc_) rfl (fun w' hm'=>(hcl w' (Mem.keeps hm'))) ?_;refine tr_new (rk_sliceLit (.cons (.of rfl) .nil) rfl rfl rfl rfl) rfl (fun _ _=>?_))
    refine tr_appendB (.of rfl) (.of rfl) (.there .here) .here norm_ (by rfl) (okc_cons rfl okc_nil) (by rfl) (by rfl) (by rfl) lenx_ (by rfl) ?_
    intro v'
    (refine a_s rfl rfl ?_;refine tr_nil ?_;refine tr_blk_normal ?_;refine tr_then ?_;refine tr_region ?_;refine tr_val (rk_add (.of rfl) (.of rfl) (ini (by omega))) rfl ?_;refine m_v rfl rfl ?_;refine n_t ?_)
    apply tr_next (k + 1,v') (by show k + 1 ≤ l.length;omega) (by show l.length - (k + 1) < l.length - k;omega)
    case hs1=>exact .cons rfl (.cons rfl (.cons rfl (.cons rfl (.cons rfl .nil))))
    case ht=>
      show Takes _ [row 9 1 v' (k + 1) (twV (l.take (k + 1)))] _
      rw [htk]
      exact .cons .here .nil
  · obtain rfl:k = l.length:=by omega
    rw [List.take_length]
    (refine s_r ?_;refine tr_val (rk_lss (.of rfl) (.of rfl)) rfl ?_;refine n_t ?_;refine tr_seq ?_;refine c_d rfl (fun _=>by omega) (fun hcd=>?_);refine x_t ?_;refine tr_then_exit ?_;refine tr_blk_exit ?_;refine tr_then ?_;refine s_r ?_;refine m_v rfl rfl ?_;refine a_s rfl rfl ?_;refine n_t ?_;refine tr_ret ?_)
    first | with_reducible apply tr_retM | with_reducible apply tr_endM
    case he=>exact ends1 rfl rfl
    case hR=>
      intro w' hm'
      exact gives_end v trivial (by exact .cons .here .nil) hm' rfl
theorem ind0 {α:Type} {l:List Oper} {i:Nat} {v:α}:Indep l i (fun _=>v):=fun _ _ _=>rfl
def prtX (s:Stm):ByteArray:=if stmE s = 0 then bA (prtL s) else ⟨#[]⟩
def lb3 (s:Stm):List UInt8:=Lib.join [twoL s.la.h,twoL s.la.m,twoL s.la.s] [58]
theorem lb3_len (s:Stm):(lb3 s).length = 8:=by unfold lb3;rw [join3];rfl
theorem itoaB_size {n:Int} (h0:-9223372036854775808 ≤ n) (h1:n ≤ 9223372036854775807):(itoaB n).size ≤ 21:=by
  have:=Lib.itoa_length_le n h0 h1
  show (Lib.itoa n).toArray.size ≤ 21
  simpa using this
set_option maxHeartbeats 1000000 in
theorem print_c (s:Stm) (w:World) (hG:GlobR w) (hT:Tab10 w):GivesV Tryz.prog 81 [.agg s.cells.toArray] w (.tuple #[.string (prtX s),.int .i64 (stmE s)]):=by
  have hcs:∀ w',Keeps [] w w' → GivesV Tryz.prog 40 [.agg #[.int .i64 s.ra.fr,.bool s.ra.dr,.int .i64 s.la.h,.int .i64 s.la.m,.int .i64 s.la.s,.int .i64 s.la.f,.int .i64 s.us]] w' (.int .i64 (stmE s)):=fun w' hk=>chkStamp_c s w' (hG.keeps hk)
  unfold Stm.cells
  refine givesV_of_tr Tryz.func81 rfl rfl ?_
  unfold prtX
  (refine s_r ?_;refine tr_new (rk_box (.of rfl) rfl) rfl (fun _ _=>?_);refine a_s rfl rfl ?_;refine a_s rfl rfl ?_;refine n_t ?_;refine tr_seq ?_;refine s_r ?_;refine tr_val (rk_loadB (.of rfl) .here norm_ (by rfl)) rfl ?_;refine tr_callV (rk_call (.of rfl) (.cons (.of rfl) .nil) inferInstance normc_) rfl (fun w' hm'=>(hcs w' (Mem.keeps hm'))) ?_;refine a_s rfl rfl ?_;refine n_r ?_;refine m_v rfl rfl ?_;refine tr_val (rk_neq (.of rfl) (.of rfl)) rfl ?_;refine n_t ?_;refine c_d rfl (fun hcd=>?_) (fun hcd=>?_);refine s_r ?_;refine m_v rfl rfl ?_;refine a_s rfl rfl ?_;refine a_s rfl rfl ?_;refine n_t ?_;refine r_t ?_;refine tr_retE rfl (ends2 rfl rfl rfl) ?_;rotate_left;refine s_t ?_;refine s_r ?_;refine a_s rfl rfl ?_;refine n_t ?_;refine tr_seq ?_;refine s_r ?_;refine f_a rfl rfl norm0_ ?_;refine f_a rfl rfl norm0_ ?_;refine tr_val (rk_load1 (.of rfl) (At.lit .here rfl)) rfl ?_;refine n_t ?_;refine c_b rfl (fun hcd=>?_) (fun hcd=>?_);refine tr_region ?_;refine a_s rfl rfl ?_;refine n_r ?_;refine f_a rfl rfl norm0_ ?_;refine tr_val (rk_loadB (.of rfl) .here norm_ (by rfl)) rfl ?_;refine tr_new (rk_alloc rfl) rfl (fun _ _=>?_);refine tr_store (.of rfl) (.of rfl) .here rfl rfl (okc_cons rfl (okc_cons rfl (okc_cons rfl (okc_cons rfl okc_nil)))) (lenb rfl) norm_ ?_;refine n_t ?_;refine tr_seq ?_;rotate_left;refine s_t ?_;refine s_r ?_;refine f_a rfl rfl norm0_ ?_;refine tr_val (rk_loadB (.of rfl) .here norm_ (by rfl)) rfl ?_;refine tr_new (rk_alloc rfl) rfl (fun _ _=>?_);refine tr_store (.of rfl) (.of rfl) .here rfl rfl (okc_cons rfl (okc_cons rfl (okc_cons rfl (okc_cons rfl okc_nil)))) (lenb rfl) norm_ ?_;refine n_t ?_;refine tr_seq ?_;rotate_right;rotate_right)
  · rw [if_neg hcd]
  · have hz:=Decidable.not_not.1 (by assumption:¬ stmE s ≠ 0)
    have hs:=stmE_zero.1 hz
    have hh:=hs.la.h;have hmi:=hs.la.m;have hse:=hs.la.s;have hf:=hs.la.f;have hfr:=hs.la.ra.fr;have hus:=hs.us
    have hf59:0 ≤ s.la.f ∧ s.la.f ≤ 59:=by omega
    have hz1:=itoaB_size (n:=s.ra.fr) (by omega) (by omega)
    have hz2:=itoaB_size (n:=s.us) (by omega) (by omega)
    have hz3:(bA (lb3 s)).size = 8:=by rw [bA_size,lb3_len]
    have hz4:(bA (twoL s.la.f)).size = 2:=by rw [bA_size];rfl
    have hz5:(⟨#[59]⟩:ByteArray).size = 1:=rfl
    have hz6:(⟨#[32,97,116,32]⟩:ByteArray).size = 4:=rfl
    have hz7:(⟨#[32]⟩:ByteArray).size = 1:=rfl
    have q0:(bA (lb3 s)).size + ((⟨#[59]⟩:ByteArray)).size ≤ 9223372036854775807:=by (try simp only [ByteArray.size_append]);omega
    have q1:((bA (lb3 s)++(⟨#[59]⟩:ByteArray))).size + (bA (twoL s.la.f)).size ≤ 9223372036854775807:=by (try simp only [ByteArray.size_append]);omega
    have q2:(((bA (lb3 s)++(⟨#[59]⟩:ByteArray))++bA (twoL s.la.f))).size + ((⟨#[32,97,116,32]⟩:ByteArray)).size ≤ 9223372036854775807:=by (try simp only [ByteArray.size_append]);omega
    have q3:((((bA (lb3 s)++(⟨#[59]⟩:ByteArray))++bA (twoL s.la.f))++(⟨#[32,97,116,32]⟩:ByteArray))).size + (itoaB s.ra.fr).size ≤ 9223372036854775807:=by (try simp only [ByteArray.size_append]);omega
    have q4:(((((bA (lb3 s)++(⟨#[59]⟩:ByteArray))++bA (twoL s.la.f))++(⟨#[32,97,116,32]⟩:ByteArray))++itoaB s.ra.fr)).size + ((⟨#[32]⟩:ByteArray)).size ≤ 9223372036854775807:=by (try simp only [ByteArray.size_append]);omega
    have q5:((((((bA (lb3 s)++(⟨#[59]⟩:ByteArray))++bA (twoL s.la.f))++(⟨#[32,97,116,32]⟩:ByteArray))++itoaB s.ra.fr)++(⟨#[32]⟩:ByteArray))).size + (itoaB s.us).size ≤ 9223372036854775807:=by (try simp only [ByteArray.size_append]);omega
    have hres:((((((bA (lb3 s)++(⟨#[59]⟩:ByteArray))++bA (twoL s.la.f))++(⟨#[32,97,116,32]⟩:ByteArray))++itoaB s.ra.fr)++(⟨#[32]⟩:ByteArray))++itoaB s.us) = bA (prtL s):=by
      have:=prt_parts hs
      rw [show s.ra.dr = true from by assumption] at this
      exact this
    rw [if_pos hz,hz,← hres]
    clear hres
    with_reducible refine tr_drawM 28 (by kernel_rfl) ?_
    (refine am_val (fun β=>(rk_fieldAddr (.of rfl) norm0_)) ind0 rfl ?_;refine am_val (fun β=>(rk_load1 (.of rfl) (At.lit .here rfl))) ind0 rfl ?_;refine am_val (fun β=>(rk_fieldAddr (.of rfl) norm0_)) ind0 rfl ?_;refine am_val (fun β=>(rk_load1 (.of rfl) (At.lit .here rfl))) ind0 rfl ?_;refine am_val (fun β=>(rk_fieldAddr (.of rfl) norm0_)) ind0 rfl ?_;refine am_val (fun β=>(rk_load1 (.of rfl) (At.lit .here rfl))) ind0 rfl ?_)
    refine am_new (fun β=>(rk_sliceLit (.cons (.of rfl) (.cons (.of rfl) (.cons (.of rfl) .nil))) rfl rfl rfl rfl)) (fun _ _ _=>rfl) rfl ?_
    dsimp only [Nat.zero_add,Nat.reduceAdd]
    with_reducible apply am_call (ι:=Value) (Φ:=fun _=>True) (val:=id) (own:=fun v=>[row 9 1 v 3 (twV [s.la.h,s.la.m,s.la.s])]) (g:=id) (B:=[6]) (args:=fun β=>[.slice (some ⟨gnat (β 6),0,none⟩) 3 3,.func (.func 146) #[] #[]])
    case hg=>exact fun x=>⟨x,rfl⟩
    case hB=>kernel_rfl
    case hr=>exact fun β=>rk_call (.of rfl) (.cons (.of rfl) (.cons (.of rfl) .nil)) inferInstance rfl
    case hd=>rfl
    case hc=>
      intro β w' hb'
      have m6:=hb'.at 6 List.mem_cons_self (s:=⟨fun β=>.slice (some ⟨gnat (β 6),0,none⟩) 3 3,fun β=>[blk (gnat (β 6)) (.cells #[.int .i64 s.la.h,.int .i64 s.la.m,.int .i64 s.la.s] 3)]⟩) (by kernel_rfl)
      dsimp only [List.cons_append,List.nil_append] at m6
      exact mapTw_c (l:=[s.la.h,s.la.m,s.la.s]) (by
        intro x hx
        simp only [List.mem_cons,List.not_mem_nil,or_false] at hx
        rcases hx with rfl | rfl | rfl <;> omega) (Mem.rdBlk m6 (by exact .here) rfl rfl) (by simp) (hT.keeps hb'.mem.keeps)
    dsimp only [id_eq,Nat.reduceAdd]
    with_reducible apply am_callV (B:=[7]) (F:=fun _=>.string (bA (lb3 s))) (args:=fun β=>[β 7,.string ⟨#[58]⟩])
    case hB=>kernel_rfl
    case hr=>exact fun β=>rk_call (.of rfl) (.cons (.of rfl) (.cons (.of rfl) .nil)) inferInstance rfl
    case hi=>exact ind0
    case hd=>rfl
    case hc=>
      intro β w' hb'
      have m7:=hb'.at 7 (by simp) (s:=⟨fun β=>β 7,fun β=>[row 9 1 (β 7) 3 (twV [s.la.h,s.la.m,s.la.s])]⟩) (by kernel_rfl)
      dsimp only [List.cons_append,List.nil_append] at m7
      have hrd:Rd w' (β 7) 1 (srs [bA (twoL s.la.h),bA (twoL s.la.m),bA (twoL s.la.s)]):=srs_rd (E:=9) (n:=3) (l:=[bA (twoL s.la.h),bA (twoL s.la.m),bA (twoL s.la.s)]) m7 (show Take _ (row 9 1 (β 7) 3 (twV [s.la.h,s.la.m,s.la.s])) _ from by exact .here) rfl
      exact join_c ⟨#[58]⟩ hrd (by simp) (by
        show (lb3 s).length ≤ 140737488355328
        rw [lb3_len];omega)
    (refine am_val (fun β=>(rk_move (.of rfl))) ind0 rfl ?_;refine am_val (fun β=>(rk_cat (.of rfl) (.of rfl) q0)) ind0 rfl ?_;refine am_val (fun β=>(rk_fieldAddr (.of rfl) norm0_)) ind0 rfl ?_;refine am_val (fun β=>(rk_load1 (.of rfl) (At.lit .here rfl))) ind0 rfl ?_)
    with_reducible apply am_callV (B:=[]) (F:=fun _=>.string (bA (twoL s.la.f))) (args:=fun _=>[.int .i64 s.la.f])
    case hB=>rfl
    case hr=>exact fun β=>rk_call (.of rfl) (.cons (.of rfl) .nil) inferInstance rfl
    case hi=>exact ind0
    case hd=>rfl
    case hc=>exact fun β w' hb'=>two_c _ hf59 _ (hT.keeps hb'.mem.keeps)
    (refine am_val (fun β=>(rk_cat (.of rfl) (.of rfl) q1)) ind0 rfl ?_;refine am_val (fun β=>(rk_cat (.of rfl) (.of rfl) q2)) ind0 rfl ?_;refine am_val (fun β=>(rk_fieldAddr (.of rfl) norm0_)) ind0 rfl ?_;refine am_val (fun β=>(rk_fieldAddr (.of rfl) norm0_)) ind0 rfl ?_;refine am_val (fun β=>(rk_load1 (.of rfl) (At.lit (.there .here) rfl))) ind0 rfl ?_)
    with_reducible apply am_callV (B:=[]) (F:=fun _=>.string (itoaB s.ra.fr)) (args:=fun _=>[.int .i64 s.ra.fr])
    case hB=>rfl
    case hr=>exact fun β=>rk_call (.of rfl) (.cons (.of rfl) .nil) inferInstance rfl
    case hi=>exact ind0
    case hd=>rfl
    case hc=>exact fun β w' hb'=>itoa_c _ (by omega) (by omega) _ (hT.keeps hb'.mem.keeps)
    (refine am_val (fun β=>(rk_cat (.of rfl) (.of rfl) q3)) ind0 rfl ?_;refine am_val (fun β=>(rk_cat (.of rfl) (.of rfl) q4)) ind0 rfl ?_;refine am_val (fun β=>(rk_fieldAddr (.of rfl) norm0_)) ind0 rfl ?_;refine am_val (fun β=>(rk_load1 (.of rfl) (At.lit (.there .here) rfl))) ind0 rfl ?_)
    with_reducible apply am_callV (B:=[]) (F:=fun _=>.string (itoaB s.us)) (args:=fun _=>[.int .i64 s.us])
    case hB=>rfl
    case hr=>exact fun β=>rk_call (.of rfl) (.cons (.of rfl) .nil) inferInstance rfl
    case hi=>exact ind0
    case hd=>rfl
    case hc=>exact fun β w' hb'=>itoa_c _ (by omega) (by omega) _ (hT.keeps hb'.mem.keeps)
    (refine am_val (fun β=>(rk_cat (.of rfl) (.of rfl) q5)) ind0 rfl ?_;refine am_val (fun β=>(rk_assign (.of rfl))) ind0 rfl ?_;refine am_val (fun β=>(rk_assign (.of rfl))) ind0 rfl ?_)
    refine am_end fun β=>?_
    dsimp only [resAll,List.nil_append,List.cons_append,List.append_eq,Nat.reduceAdd]
    with_reducible refine left_done (by kernel_rfl) ?_
    (refine tr_then ?_;refine tr_ret ?_;refine tr_retE rfl (ends2 rfl rfl rfl) ?_)
    rfl
  · have hz:=Decidable.not_not.1 (by assumption:¬ stmE s ≠ 0)
    have hs:=stmE_zero.1 hz
    have hh:=hs.la.h;have hmi:=hs.la.m;have hse:=hs.la.s;have hf:=hs.la.f;have hfr:=hs.la.ra.fr;have hus:=hs.us
    have hf59:0 ≤ s.la.f ∧ s.la.f ≤ 59:=by omega
    have hz1:=itoaB_size (n:=s.ra.fr) (by omega) (by omega)
    have hz2:=itoaB_size (n:=s.us) (by omega) (by omega)
    have hz3:(bA (lb3 s)).size = 8:=by rw [bA_size,lb3_len]
    have hz4:(bA (twoL s.la.f)).size = 2:=by rw [bA_size];rfl
    have hz5:(⟨#[58]⟩:ByteArray).size = 1:=rfl
    have hz6:(⟨#[32,97,116,32]⟩:ByteArray).size = 4:=rfl
    have hz7:(⟨#[32]⟩:ByteArray).size = 1:=rfl
    have q0:(bA (lb3 s)).size + ((⟨#[58]⟩:ByteArray)).size ≤ 9223372036854775807:=by (try simp only [ByteArray.size_append]);omega
    have q1:((bA (lb3 s)++(⟨#[58]⟩:ByteArray))).size + (bA (twoL s.la.f)).size ≤ 9223372036854775807:=by (try simp only [ByteArray.size_append]);omega
    have q2:(((bA (lb3 s)++(⟨#[58]⟩:ByteArray))++bA (twoL s.la.f))).size + ((⟨#[32,97,116,32]⟩:ByteArray)).size ≤ 9223372036854775807:=by (try simp only [ByteArray.size_append]);omega
    have q3:((((bA (lb3 s)++(⟨#[58]⟩:ByteArray))++bA (twoL s.la.f))++(⟨#[32,97,116,32]⟩:ByteArray))).size + (itoaB s.ra.fr).size ≤ 9223372036854775807:=by (try simp only [ByteArray.size_append]);omega
    have q4:(((((bA (lb3 s)++(⟨#[58]⟩:ByteArray))++bA (twoL s.la.f))++(⟨#[32,97,116,32]⟩:ByteArray))++itoaB s.ra.fr)).size + ((⟨#[32]⟩:ByteArray)).size ≤ 9223372036854775807:=by (try simp only [ByteArray.size_append]);omega
    have q5:((((((bA (lb3 s)++(⟨#[58]⟩:ByteArray))++bA (twoL s.la.f))++(⟨#[32,97,116,32]⟩:ByteArray))++itoaB s.ra.fr)++(⟨#[32]⟩:ByteArray))).size + (itoaB s.us).size ≤ 9223372036854775807:=by (try simp only [ByteArray.size_append]);omega
    have hres:((((((bA (lb3 s)++(⟨#[58]⟩:ByteArray))++bA (twoL s.la.f))++(⟨#[32,97,116,32]⟩:ByteArray))++itoaB s.ra.fr)++(⟨#[32]⟩:ByteArray))++itoaB s.us) = bA (prtL s):=by
      have:=prt_parts hs
      rw [show s.ra.dr = false from by assumption] at this
      exact this
    rw [if_pos hz,hz,← hres]
    clear hres
    with_reducible refine tr_drawM 28 (by kernel_rfl) ?_
    (refine am_val (fun β=>(rk_fieldAddr (.of rfl) norm0_)) ind0 rfl ?_;refine am_val (fun β=>(rk_load1 (.of rfl) (At.lit .here rfl))) ind0 rfl ?_;refine am_val (fun β=>(rk_fieldAddr (.of rfl) norm0_)) ind0 rfl ?_;refine am_val (fun β=>(rk_load1 (.of rfl) (At.lit .here rfl))) ind0 rfl ?_;refine am_val (fun β=>(rk_fieldAddr (.of rfl) norm0_)) ind0 rfl ?_;refine am_val (fun β=>(rk_load1 (.of rfl) (At.lit .here rfl))) ind0 rfl ?_)
    refine am_new (fun β=>(rk_sliceLit (.cons (.of rfl) (.cons (.of rfl) (.cons (.of rfl) .nil))) rfl rfl rfl rfl)) (fun _ _ _=>rfl) rfl ?_
    dsimp only [Nat.zero_add,Nat.reduceAdd]
    with_reducible apply am_call (ι:=Value) (Φ:=fun _=>True) (val:=id) (own:=fun v=>[row 9 1 v 3 (twV [s.la.h,s.la.m,s.la.s])]) (g:=id) (B:=[6]) (args:=fun β=>[.slice (some ⟨gnat (β 6),0,none⟩) 3 3,.func (.func 146) #[] #[]])
    case hg=>exact fun x=>⟨x,rfl⟩
    case hB=>kernel_rfl
    case hr=>exact fun β=>rk_call (.of rfl) (.cons (.of rfl) (.cons (.of rfl) .nil)) inferInstance rfl
    case hd=>rfl
    case hc=>
      intro β w' hb'
      have m6:=hb'.at 6 List.mem_cons_self (s:=⟨fun β=>.slice (some ⟨gnat (β 6),0,none⟩) 3 3,fun β=>[blk (gnat (β 6)) (.cells #[.int .i64 s.la.h,.int .i64 s.la.m,.int .i64 s.la.s] 3)]⟩) (by kernel_rfl)
      dsimp only [List.cons_append,List.nil_append] at m6
      exact mapTw_c (l:=[s.la.h,s.la.m,s.la.s]) (by
        intro x hx
        simp only [List.mem_cons,List.not_mem_nil,or_false] at hx
        rcases hx with rfl | rfl | rfl <;> omega) (Mem.rdBlk m6 (by exact .here) rfl rfl) (by simp) (hT.keeps hb'.mem.keeps)
    dsimp only [id_eq,Nat.reduceAdd]
    with_reducible apply am_callV (B:=[7]) (F:=fun _=>.string (bA (lb3 s))) (args:=fun β=>[β 7,.string ⟨#[58]⟩])
    case hB=>kernel_rfl
    case hr=>exact fun β=>rk_call (.of rfl) (.cons (.of rfl) (.cons (.of rfl) .nil)) inferInstance rfl
    case hi=>exact ind0
    case hd=>rfl
    case hc=>
      intro β w' hb'
      have m7:=hb'.at 7 (by simp) (s:=⟨fun β=>β 7,fun β=>[row 9 1 (β 7) 3 (twV [s.la.h,s.la.m,s.la.s])]⟩) (by kernel_rfl)
      dsimp only [List.cons_append,List.nil_append] at m7
      have hrd:Rd w' (β 7) 1 (srs [bA (twoL s.la.h),bA (twoL s.la.m),bA (twoL s.la.s)]):=srs_rd (E:=9) (n:=3) (l:=[bA (twoL s.la.h),bA (twoL s.la.m),bA (twoL s.la.s)]) m7 (show Take _ (row 9 1 (β 7) 3 (twV [s.la.h,s.la.m,s.la.s])) _ from by exact .here) rfl
      exact join_c ⟨#[58]⟩ hrd (by simp) (by
        show (lb3 s).length ≤ 140737488355328
        rw [lb3_len];omega)
    (refine am_val (fun β=>(rk_move (.of rfl))) ind0 rfl ?_;refine am_val (fun β=>(rk_cat (.of rfl) (.of rfl) q0)) ind0 rfl ?_;refine am_val (fun β=>(rk_fieldAddr (.of rfl) norm0_)) ind0 rfl ?_;refine am_val (fun β=>(rk_load1 (.of rfl) (At.lit .here rfl))) ind0 rfl ?_)
    with_reducible apply am_callV (B:=[]) (F:=fun _=>.string (bA (twoL s.la.f))) (args:=fun _=>[.int .i64 s.la.f])
    case hB=>rfl
    case hr=>exact fun β=>rk_call (.of rfl) (.cons (.of rfl) .nil) inferInstance rfl
    case hi=>exact ind0
    case hd=>rfl
    case hc=>exact fun β w' hb'=>two_c _ hf59 _ (hT.keeps hb'.mem.keeps)
    (refine am_val (fun β=>(rk_cat (.of rfl) (.of rfl) q1)) ind0 rfl ?_;refine am_val (fun β=>(rk_cat (.of rfl) (.of rfl) q2)) ind0 rfl ?_;refine am_val (fun β=>(rk_fieldAddr (.of rfl) norm0_)) ind0 rfl ?_;refine am_val (fun β=>(rk_fieldAddr (.of rfl) norm0_)) ind0 rfl ?_;refine am_val (fun β=>(rk_load1 (.of rfl) (At.lit (.there .here) rfl))) ind0 rfl ?_)
    with_reducible apply am_callV (B:=[]) (F:=fun _=>.string (itoaB s.ra.fr)) (args:=fun _=>[.int .i64 s.ra.fr])
    case hB=>rfl
    case hr=>exact fun β=>rk_call (.of rfl) (.cons (.of rfl) .nil) inferInstance rfl
    case hi=>exact ind0
    case hd=>rfl
    case hc=>exact fun β w' hb'=>itoa_c _ (by omega) (by omega) _ (hT.keeps hb'.mem.keeps)
    (refine am_val (fun β=>(rk_cat (.of rfl) (.of rfl) q3)) ind0 rfl ?_;refine am_val (fun β=>(rk_cat (.of rfl) (.of rfl) q4)) ind0 rfl ?_;refine am_val (fun β=>(rk_fieldAddr (.of rfl) norm0_)) ind0 rfl ?_;refine am_val (fun β=>(rk_load1 (.of rfl) (At.lit (.there .here) rfl))) ind0 rfl ?_)
    with_reducible apply am_callV (B:=[]) (F:=fun _=>.string (itoaB s.us)) (args:=fun _=>[.int .i64 s.us])
    case hB=>rfl
    case hr=>exact fun β=>rk_call (.of rfl) (.cons (.of rfl) .nil) inferInstance rfl
    case hi=>exact ind0
    case hd=>rfl
    case hc=>exact fun β w' hb'=>itoa_c _ (by omega) (by omega) _ (hT.keeps hb'.mem.keeps)
    (refine am_val (fun β=>(rk_cat (.of rfl) (.of rfl) q5)) ind0 rfl ?_;refine am_val (fun β=>(rk_assign (.of rfl))) ind0 rfl ?_;refine am_val (fun β=>(rk_assign (.of rfl))) ind0 rfl ?_)
    refine am_end fun β=>?_
    dsimp only [resAll,List.nil_append,List.cons_append,List.append_eq,Nat.reduceAdd]
    with_reducible refine left_done (by kernel_rfl) ?_
    (refine tr_then ?_;refine tr_ret ?_;refine tr_retE rfl (ends2 rfl rfl rfl) ?_)
    rfl
end Go.Proofs.A1
