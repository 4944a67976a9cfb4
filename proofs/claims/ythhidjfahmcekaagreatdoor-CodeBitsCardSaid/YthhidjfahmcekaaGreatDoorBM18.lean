/- Parts of the proof: U39 U37 U3A. -/
import Derived.Test.YthhidjfahmcekaaGreatDoorBM17
import Derived.Test.YthhidjfahmcekaaGreatDoorBM06
set_option linter.unusedSectionVars false
set_option linter.unusedVariables false
set_option linter.unusedSimpArgs false
namespace Go.Proofs.A1
open Go Go.SL
theorem rk_convR {P:Program} {c:Cx} {sl:Slots} {hs:List Asn} {dst:Option Tmp} {ty:TypeId} {pos:String} {af:Array Edge} {g:Option (Nat × Bool)} {t u:TypeId} {k':IntKind} {x:Operand} {n:Int} [ht:Und P t (.int k')] [hu:Und P u .string] (hx:Is sl x (.int k' n)) :
    RunV P c sl hs ⟨dst,.convert t u x,ty,pos,af,g⟩ (.string (Utf8.encode n)):=
  ⟨by simp,fun a w ha _=>by simp [execOp,hx a ha,convert,rk_underlying ht.eq,rk_underlying hu.eq,Conv.intToString]⟩
section
variable {P:Program} {c:Cx} {sl:Slots} {hs:List Asn} {dst:Option Tmp} {ty:TypeId} {pos:String} {af:Array Edge} {g:Option (Nat × Bool)}
theorem rk_quo8 {t u:TypeId} {x y:Operand} {a b:Int} (hx:Is sl x (.int .u8 a)) (hy:Is sl y (.int .u8 b)) (h0:0 ≤ a ∧ a ≤ 255) (hb:0 < b) :
    RunV P c sl hs ⟨dst,.binOp .quo t x y u,ty,pos,af,g⟩ (.int .u8 (a / b)):=
  rk_bin hx hy fun w=>by
    have hw:IntKind.u8.wrap (a.tdiv b) = a / b:=by
      rw [Int.tdiv_eq_ediv_of_nonneg h0.1]
      have h2:0 ≤ a / b:=Int.ediv_nonneg h0.1 (by omega)
      have h3:a / b ≤ a:=Int.ediv_le_self _ h0.1
      exact u8w ⟨by omega,by omega⟩
    simp [eqGuard_int,binOp,Op.intDiv,show ¬ b = 0 from by omega,hw]
theorem rk_rem8 {t u:TypeId} {x y:Operand} {a b:Int} (hx:Is sl x (.int .u8 a)) (hy:Is sl y (.int .u8 b)) (h0:0 ≤ a) (hb:b ≠ 0) :
    RunV P c sl hs ⟨dst,.binOp .rem t x y u,ty,pos,af,g⟩ (.int .u8 (a % b)):=
  rk_bin hx hy fun w=>by
    simp [eqGuard_int,binOp,Op.intDiv,hb,Int.tmod_eq_emod_of_nonneg h0]
end
theorem enc_ascii {n:Int} (h:0 ≤ n ∧ n < 128):Utf8.encode n = strOf [n]:=by
  obtain ⟨k,hk,rfl⟩:∃ k:Nat,k < 128 ∧ n = (k:Int):=⟨n.toNat,by omega,by omega⟩
  have hc:k < 128:=hk
  have hv:Utf8.valid (k:Int) = true:=by simp [Utf8.valid];omega
  unfold Utf8.encode strOf
  simp only [hv,if_true,Int.toNat_natCast,hc]
  rfl
theorem cntQ_in {b:Int} (hb:0 ≤ b):∀ k:Nat,0 ≤ cntQ b k ∧ cntQ b k ≤ k
  | 0=>by unfold cntQ;omega
  | k + 1 => by
    have:=cntQ_in hb k
    unfold cntQ
    omega
theorem oddQ_c (b:Int) (hb:0 ≤ b ∧ b ≤ 255) (w:World):GivesV Tryz.prog 122 [.int .u8 b] w (.bool (oddB b)):=by
  refine givesV_of_tr Tryz.func122 rfl rfl ?_
  (refine s_r ?_;refine a_s rfl rfl ?_;refine n_r ?_;refine a_s rfl rfl ?_;refine n_t ?_;refine tr_seq ?_;refine s_r ?_;refine a_s rfl rfl ?_;refine n_t ?_;refine tr_block ?_)
  refine tr_for (fun k:Nat=>k ≤ 8) (fun k=>[(4,.int .i64 k),(3,.int .i64 (cntQ b k)),(0,.int .u8 (b / 2 ^ k))]) (fun _=>[]) (fun k=>8 - k) ?_ ?_
  · rw [show (Value.int .u8 b) = .int .u8 (b / 2 ^ 0) by rw [Int.pow_zero,Int.ediv_one]]
    apply tr_start 0 (show (0:Nat) ≤ 8 by omega)
    case hs1=>exact .cons rfl (.cons rfl (.cons rfl .nil))
    case ht=>(try simp only [List.take_zero,List.map_nil,List.nil_append]);exact .nil
  intro k hk
  have hc:=cntQ_in hb.1 k
  by_cases hlt:k < 8
  · have hx:0 ≤ b / 2 ^ k ∧ b / 2 ^ k ≤ 255:=by
      have hp:(0:Int) < 2 ^ k:=Int.pow_pos (by decide)
      exact ⟨Int.ediv_nonneg hb.1 (by omega),Int.le_trans (Int.ediv_le_self _ hb.1) hb.2⟩
    have hs:cntQ b k + b / 2 ^ k % 2 = cntQ b (k + 1):=rfl
    have hd:b / 2 ^ k / 2 = b / 2 ^ (k + 1):=by rw [Int.ediv_ediv_of_nonneg (by exact Int.le_of_lt (Int.pow_pos (by decide))),Int.pow_succ]
    generalize b / 2 ^ k = x at *
    have hw:IntKind.i64.wrap x = x:=i64w (by omega)
    (refine tr_seq ?_;refine s_r ?_;refine m_v rfl rfl ?_;refine tr_val (rk_lss (.of rfl) (.of rfl)) rfl ?_;refine n_t ?_;refine c_d rfl (fun hcd=>?_) (fun _=>by omega);refine s_t ?_;refine tr_seq ?_;refine tr_block ?_;refine s_r ?_;refine m_v rfl rfl ?_;refine m_v rfl rfl ?_;refine tr_val (rk_conv (.of rfl)) rfl ?_;refine tr_val (rk_rem (.of rfl) (.of rfl) (by omega) (by omega)) rfl ?_;refine tr_val (rk_add (.of rfl) (.of rfl) (ini (by omega))) rfl ?_;refine a_s rfl rfl ?_;refine n_t ?_;refine tr_region ?_;refine m_v rfl rfl ?_)
    refine tr_val (rk_quo8 (.of rfl) (.of rfl) (by omega) (by decide)) rfl ?_
    (refine a_s rfl rfl ?_;refine tr_nil ?_;refine tr_blk_normal ?_;refine tr_then ?_;refine tr_region ?_;refine m_v rfl rfl ?_;refine tr_val (rk_add (.of rfl) (.of rfl) (ini (by omega))) rfl ?_;refine a_s rfl rfl ?_;refine n_t ?_)
    rw [hw,hs,hd]
    apply tr_next (k + 1) (show k + 1 ≤ 8 by omega) (show 8 - (k + 1) < 8 - k by omega)
    case hs1=>exact .cons rfl (.cons rfl (.cons rfl .nil))
    case ht=>(try simp only [List.take_zero,List.map_nil,List.nil_append]);exact .nil
  · obtain rfl:k = 8:=by omega
    (refine tr_seq ?_;refine s_r ?_;refine m_v rfl rfl ?_;refine tr_val (rk_lss (.of rfl) (.of rfl)) rfl ?_;refine n_t ?_;refine c_d rfl (fun _=>by omega) (fun hcd=>?_);refine x_t ?_;refine tr_then_exit ?_;refine tr_blk_exit ?_;refine tr_then ?_;refine s_r ?_;refine m_v rfl rfl ?_;refine tr_val (rk_rem (.of rfl) (.of rfl) (by omega) (by omega)) rfl ?_;refine tr_val (rk_eql (.of rfl) (.of rfl)) rfl ?_;refine a_s rfl rfl ?_;refine n_t ?_;refine tr_ret ?_;refine tr_retE rfl (ends1 rfl rfl) ?_)
    rfl
theorem txtQ_c (s:ByteArray) (w:World):GivesV Tryz.prog 54 [.string s] w (.int .i64 (sntE s)):=by
  refine givesV_of_tr Tryz.func54 rfl rfl ?_
  (refine s_r ?_;refine a_s rfl rfl ?_;refine n_t ?_;refine tr_seq ?_;refine s_r ?_;refine m_v rfl rfl ?_;refine tr_val (rk_len_string (.of rfl)) rfl ?_;refine tr_val (rk_gtr (.of rfl) (.of rfl)) rfl ?_;refine n_t ?_;refine c_d rfl (fun hcd=>?_) (fun hcd=>?_);refine s_r ?_;refine a_s rfl rfl ?_;refine n_t ?_;refine r_t ?_;refine tr_retE rfl (ends1 rfl rfl) ?_;rotate_left;refine s_t ?_;refine tr_seq ?_;refine s_r ?_;refine a_s rfl rfl ?_;refine n_t ?_;refine tr_block ?_;rotate_right)
  · have e:sntE s = 26:=by unfold sntE;rw [if_pos (by omega)]
    rw [e]
  have h4:¬ 4000 < s.size:=by omega
  clear hcd
  refine tr_for (fun k:Nat=>k ≤ s.size ∧ ∀ i,i < k → ¬ 128 ≤ bt s i) (fun k=>[(3,.int .i64 k),(0,.string s)]) (fun _=>[]) (fun k=>s.size - k) ?_ ?_
  · apply tr_start 0 ⟨Nat.zero_le _,fun i h=>absurd h (by omega)⟩
    case hs1=>exact .cons rfl (.cons rfl .nil)
    case ht=>(try simp only [List.take_zero,List.map_nil,List.nil_append]);exact .nil
  rintro k ⟨hk,hf⟩
  by_cases hlt:k < s.size
  · have hbb:=bt_in s k
    have hbt:(((s.data.toList[((k:Nat):Int).toNat]?.getD 0).toNat:Nat):Int) = bt s k:=rfl
    (refine tr_seq ?_;refine s_r ?_;refine m_v rfl rfl ?_;refine m_v rfl rfl ?_;refine tr_val (rk_len_string (.of rfl)) rfl ?_;refine tr_val (rk_lss (.of rfl) (.of rfl)) rfl ?_;refine n_t ?_;refine c_d rfl (fun hcd=>?_) (fun _=>by omega);refine s_t ?_;refine tr_seq ?_;refine tr_block ?_;refine s_r ?_;refine m_v rfl rfl ?_;refine m_v rfl rfl ?_;refine tr_val (rk_indexS (.of rfl) (.of rfl) (by omega) hcd) rfl ?_;refine tr_val (rk_gtr (.of rfl) (.of rfl)) rfl ?_;refine n_t ?_;refine c_d rfl (fun hcd=>?_) (fun hcd=>?_);refine s_r ?_;refine a_s rfl rfl ?_;refine n_t ?_;refine tr_ret ?_;refine tr_blk_ret ?_;refine tr_then_ret ?_;refine tr_then_ret ?_;refine tr_blk_ret ?_;refine tr_then_ret ?_;refine tr_retE rfl (ends1 rfl rfl) ?_;rotate_left;refine tr_skip ?_;refine tr_blk_normal ?_;refine tr_then ?_;refine tr_region ?_;refine m_v rfl rfl ?_;refine tr_val (rk_add (.of rfl) (.of rfl) (ini (by omega))) rfl ?_;refine a_s rfl rfl ?_;refine n_t ?_;rotate_right)
    · rw [hbt] at hcd
      rw [sntE_hi h4 hlt (by omega)]
    · rw [hbt] at hcd
      apply tr_next (k + 1) ⟨show k + 1 ≤ s.size by omega,fun i hi=>by
        by_cases e:i = k
        · rw [e];omega
        · exact hf i (by omega)⟩ (show s.size - (k + 1) < s.size - k by omega)
      case hs1=>exact .cons rfl (.cons rfl .nil)
      case ht=>(try simp only [List.take_zero,List.map_nil,List.nil_append]);exact .nil
  · obtain rfl:k = s.size:=by omega
    (refine tr_seq ?_;refine s_r ?_;refine m_v rfl rfl ?_;refine m_v rfl rfl ?_;refine tr_val (rk_len_string (.of rfl)) rfl ?_;refine tr_val (rk_lss (.of rfl) (.of rfl)) rfl ?_;refine n_t ?_;refine c_d rfl (fun _=>by omega) (fun hcd=>?_);refine x_t ?_;refine tr_then_exit ?_;refine tr_blk_exit ?_;refine tr_then ?_;refine s_r ?_;refine a_s rfl rfl ?_;refine n_t ?_;refine tr_ret ?_;refine tr_retE rfl (ends1 rfl rfl) ?_)
    rw [sntE_no h4 hf]
theorem or128 {b:Int} (h:0 ≤ b ∧ b < 128):IntKind.u8.wrap (b + 128) = orF b 128:=by
  obtain ⟨k,hk,rfl⟩:∃ k:Nat,k < 128 ∧ b = (k:Int):=⟨b.toNat,by omega,by omega⟩
  revert k
  decide +kernel
theorem sentQ_c (s:ByteArray) (hz:sntE s = 0) (w:World) :
    Gives Tryz.prog 56 [.string s] w [] (fun _:Value=>True) id (fun v=>[row 5 1 v (sntL s).length (bytsV (sntL s))]):=by
  have h4:s.size ≤ 4000:=by
    unfold sntE at hz
    by_cases h:4000 < s.size
    · rw [if_pos h] at hz;cases hz
    · omega
  have hlo:∀ k,k < s.size → bt s k < 128:=by
    unfold sntE at hz
    rw [if_neg (by omega)] at hz
    cases hh:hiB s with
    | true=>rw [hh,if_pos rfl] at hz;cases hz
    | false=>exact hiB_false hh
  have hL:sntL s = sntK s s.size:=by unfold sntL;rw [if_pos hz]
  refine gives_of_tr Tryz.func56 rfl rfl ?_
  (refine s_r ?_;refine a_s rfl rfl ?_;refine n_r ?_;refine a_s rfl rfl ?_;refine n_t ?_;refine tr_seq ?_;refine s_r ?_;refine a_s rfl rfl ?_;refine n_t ?_;refine tr_block ?_)
  refine tr_rowNil 5 1 ?_
  refine tr_for (ι:=Nat × Value) (fun x=>x.1 ≤ s.size) (fun x=>[(4,.int .i64 (x.1:Nat)),(0,.string s),(3,x.2)]) (fun x=>[row 5 1 x.2 x.1 (bytsV (sntK s x.1))]) (fun x=>s.size - x.1) ?_ ?_
  · apply tr_start (0,.slice none 0 0) (Nat.zero_le _)
    case hs1=>exact .cons rfl (.cons rfl (.cons rfl .nil))
    case ht=>
      show Takes _ [row 5 1 (.slice none 0 0) 0 []] _
      exact .cons .here .nil
  rintro ⟨k,v⟩ hk
  dsimp only at hk ⊢
  by_cases hlt:k < s.size
  · have hbb:=bt_in s k
    have hb128:=hlo k hlt
    have hod:∀ w,GivesV Tryz.prog 122 [.int .u8 ((s.data.toList[((k:Nat):Int).toNat]?.getD 0).toNat:Nat)] w (.bool (oddB (bt s k))):=fun w=>oddQ_c _ hbb w
    have hbt:(((s.data.toList[((k:Nat):Int).toNat]?.getD 0).toNat:Nat):Int) = bt s k:=rfl
    have hsk:sntK s (k + 1) = sntK s k++[sntB (bt s k)]:=sntK_succ s k
    have hskv:bytsV (sntK s (k + 1)) = bytsV (sntK s k)++[.int .u8 (sntB (bt s k))]:=by rw [hsk,bytsV_app];rfl
    have hol:(bytsV (sntK s k)).length = k * 1:=by rw [bytsV_len,sntK_len]
    have eo:orF (bt s k) 128 = bt s k + 128:=by rw [← or128 ⟨hbb.1,hb128⟩];exact u8w (by omega)
    (refine tr_seq ?_;refine s_r ?_;refine m_v rfl rfl ?_;refine m_v rfl rfl ?_;refine tr_val (rk_len_string (.of rfl)) rfl ?_;refine tr_val (rk_lss (.of rfl) (.of rfl)) rfl ?_;refine n_t ?_;refine c_d rfl (fun hcd=>?_) (fun _=>by omega);refine s_t ?_;refine tr_seq ?_;refine tr_block ?_;refine s_r ?_;refine m_v rfl rfl ?_;refine m_v rfl rfl ?_;refine tr_val (rk_indexS (.of rfl) (.of rfl) (by omega) hcd) rfl ?_;refine a_s rfl rfl ?_;refine n_t ?_;refine tr_seq ?_;refine s_r ?_;refine m_v rfl rfl ?_;refine tr_callV (rk_call (.of rfl) (.cons (.of rfl) .nil) inferInstance normc_) rfl (fun w' hm'=>(hod w')) ?_;refine tr_val (rk_not (.of rfl)) rfl ?_;refine n_t ?_;refine c_b rfl (fun hcd=>?_) (fun hcd=>?_);refine tr_region ?_;refine m_v rfl rfl ?_;rotate_left;refine s_t ?_;refine tr_region ?_;refine m_v rfl rfl ?_;refine m_v rfl rfl ?_;refine tr_new (rk_sliceLit (.cons (.of rfl) .nil) rfl rfl rfl rfl) rfl (fun _ _=>?_);rotate_right)
    · rw [show sntB (bt s k) = orF (bt s k) 128 by unfold sntB;rw [hcd];rfl,eo] at hskv
      refine tr_val (rk_addw (.of rfl) (.of rfl)) rfl ?_
      (refine a_s rfl rfl ?_;refine n_t ?_;refine tr_region ?_;refine m_v rfl rfl ?_;refine m_v rfl rfl ?_;refine tr_new (rk_sliceLit (.cons (.of rfl) .nil) rfl rfl rfl rfl) rfl (fun _ _=>?_))
      rw [hbt,or128 ⟨hbb.1,hb128⟩,eo]
      refine tr_appendB (.of rfl) (.of rfl) (.there .here) .here norm_ (by rfl) (okc_cons rfl okc_nil) (by rfl) (by rfl) (by rfl) lenx_ (by rfl) ?_
      intro v'
      (refine a_s rfl rfl ?_;refine tr_nil ?_;refine tr_blk_normal ?_;refine tr_then ?_;refine tr_region ?_;refine m_v rfl rfl ?_;refine tr_val (rk_add (.of rfl) (.of rfl) (ini (by omega))) rfl ?_;refine a_s rfl rfl ?_;refine n_t ?_)
      apply tr_next (k + 1,v') (show k + 1 ≤ s.size by omega) (show s.size - (k + 1) < s.size - k by omega)
      case hs1=>exact .cons rfl (.cons rfl (.cons rfl .nil))
      case ht=>
        show Takes _ [row 5 1 v' (k + 1) (bytsV (sntK s (k + 1)))] _
        rw [hskv]
        exact .cons .here .nil
    · rw [show sntB (bt s k) = bt s k by unfold sntB;rw [hcd];rfl] at hskv
      rw [hbt]
      refine tr_appendB (.of rfl) (.of rfl) (.there .here) .here norm_ (by rfl) (okc_cons rfl okc_nil) (by rfl) (by rfl) (by rfl) lenx_ (by rfl) ?_
      intro v'
      (refine a_s rfl rfl ?_;refine tr_nil ?_;refine tr_blk_normal ?_;refine tr_then ?_;refine tr_region ?_;refine m_v rfl rfl ?_;refine tr_val (rk_add (.of rfl) (.of rfl) (ini (by omega))) rfl ?_;refine a_s rfl rfl ?_;refine n_t ?_)
      apply tr_next (k + 1,v') (show k + 1 ≤ s.size by omega) (show s.size - (k + 1) < s.size - k by omega)
      case hs1=>exact .cons rfl (.cons rfl (.cons rfl .nil))
      case ht=>
        show Takes _ [row 5 1 v' (k + 1) (bytsV (sntK s (k + 1)))] _
        rw [hskv]
        exact .cons .here .nil
  · obtain rfl:k = s.size:=by omega
    rw [hL,sntK_len]
    (refine tr_seq ?_;refine s_r ?_;refine m_v rfl rfl ?_;refine m_v rfl rfl ?_;refine tr_val (rk_len_string (.of rfl)) rfl ?_;refine tr_val (rk_lss (.of rfl) (.of rfl)) rfl ?_;refine n_t ?_;refine c_d rfl (fun _=>by omega) (fun hcd=>?_);refine x_t ?_;refine tr_then_exit ?_;refine tr_blk_exit ?_;refine tr_then ?_;refine s_r ?_;refine m_v rfl rfl ?_;refine a_s rfl rfl ?_;refine n_t ?_;refine tr_ret ?_)
    first | with_reducible apply tr_retM | with_reducible apply tr_endM
    case he=>exact ends1 rfl rfl
    case hR=>
      intro w' hm'
      exact gives_end v trivial (by exact .cons .here .nil) hm' rfl
theorem strOf_app (a:List Int) (x:Int):strOf (a++[x]) = strOf a++strOf [x]:=by
  rw [strOf_strB,strOf_strB,strOf_strB]
  apply ByteArray.ext
  rw [ByteArray.data_append]
  simp [strB]
theorem strOf_size (l:List Int):(strOf l).size = l.length:=by rw [strOf_strB,strB_size]
theorem heardQ_c {sv:Value} {l:List Int} {w:World} (h:Rd w sv 1 (byts l)) (hby:∀ x ∈ l,0 ≤ x ∧ x ≤ 255) (hz:hrdE l.length = 0) :
    Gives Tryz.prog 57 [sv] w [] (fun _:Value=>True) (fun v=>.tuple #[.string (hrdX l),v]) (fun v=>[row 3 1 v (hrdL l).length (natsV (hrdL l))]):=by
  have h1':=h
  obtain ⟨a,cap,b,o,rfl,hcap,hmax,ha,hc⟩:=h1'
  rw [byts_length] at *
  unfold maxLen at hmax
  have hfew:l.length ≤ 4000:=by
    unfold hrdE at hz
    by_cases h4:4000 < l.length
    · rw [if_pos h4] at hz;cases hz
    · omega
  rw [hrdX,hrdL,if_pos hz,if_pos hz]
  refine gives_of_tr Tryz.func57 rfl rfl ?_
  (refine s_r ?_;refine a_s rfl rfl ?_;refine a_s rfl rfl ?_;refine n_r ?_;refine a_s rfl rfl ?_;refine n_r ?_;refine a_s rfl rfl ?_;refine n_t ?_;refine tr_seq ?_;refine s_r ?_;refine a_s rfl rfl ?_;refine n_t ?_;refine tr_block ?_)
  refine tr_rowNil 3 1 ?_
  refine tr_for (ι:=Nat × Value) (fun x=>x.1 ≤ l.length) (fun x=>[(6,.int .i64 (x.1:Nat)),(4,.string (strOf (hrdT (l.take x.1)))),(0,.slice a l.length cap),(5,x.2)]) (fun x=>[row 3 1 x.2 (hrdW l x.1).length (natsV (hrdW l x.1))]) (fun x=>l.length - x.1) ?_ ?_
  · apply tr_start (0,.slice none 0 0) (Nat.zero_le _)
    case hs1=>exact .cons rfl (.cons rfl (.cons rfl (.cons rfl .nil)))
    case ht=>
      show Takes _ [row 3 1 (.slice none 0 0) 0 []] _
      exact .cons .here .nil
  rintro ⟨k,v⟩ hk
  dsimp only at hk ⊢
  by_cases hlt:k < l.length
  · have ha':=ha (byts_ne hlt)
    have hcell:=(hc k _ (byts_get hlt)).2
    have c0:w.cell? ⟨b,o + k * 1,none⟩ = some (.int .u8 l[k]):=hcell 0 _ rfl
    have hbb:=hby _ (List.getElem_mem hlt)
    have hsz:(strOf (hrdT (l.take k))).size = k:=by rw [strOf_size];simp [hrdT];omega
    have hnx:strOf (hrdT (l.take (k + 1))) = strOf (hrdT (l.take k))++strOf [hrdB l[k]]:=by
      rw [List.take_succ_eq_append_getElem hlt,hrdT,List.map_append];exact strOf_app _ _
    have hen:Utf8.encode (l[k] % 128) = strOf [l[k] % 128]:=enc_ascii (by omega)
    have hes:(strOf [l[k] % 128]).size = 1:=strOf_size _
    have hW:=hrdW_succ l hlt
    have hWl:=hrdW_len l k
    have hr:=(rate_bits hbb).1
    generalize hS:strOf (hrdT (l.take k)) = S at hsz hnx
    (refine tr_seq ?_;refine s_r ?_;refine m_v rfl rfl ?_;refine m_v rfl rfl ?_;refine tr_val (rk_len_slice (.of rfl)) rfl ?_;refine tr_val (rk_lss (.of rfl) (.of rfl)) rfl ?_;refine n_t ?_;refine c_d rfl (fun hcd=>?_) (fun _=>by omega);refine s_t ?_;refine tr_seq ?_;refine tr_block ?_;refine s_r ?_;refine m_v rfl rfl ?_;refine m_v rfl rfl ?_;refine tr_val (rk_indexAddr (.of rfl) (.of rfl) ha' (by omega) hcd norm1_) rfl ?_;refine tr_val (rk_load1 (.of rfl) (At.base c0 rfl)) rfl ?_;refine tr_callV (rk_call (.of rfl) (.cons (.of rfl) .nil) inferInstance normc_) rfl (fun w' hm'=>(oddQ_c _ hbb w')) ?_;refine n_t ?_;refine c_d rfl (fun hcd=>?_) (fun hcd=>?_);refine tr_region ?_;refine m_v rfl rfl ?_;refine m_v rfl rfl ?_;refine m_v rfl rfl ?_;refine tr_val (rk_indexAddr (.of rfl) (.of rfl) ha' (by omega) (by assumption) norm1_) rfl ?_;refine tr_val (rk_load1 (.of rfl) (At.base c0 rfl)) rfl ?_;rotate_left;refine s_r ?_;refine m_v rfl rfl ?_;rotate_right)
    · refine tr_val (rk_rem8 (.of rfl) (.of rfl) hbb.1 (by decide)) rfl ?_
      refine tr_val (rk_conv (.of rfl)) rfl ?_
      have hw:IntKind.i32.wrap (l[k] % 128) = l[k] % 128:=by unfold IntKind.wrap;simp [IntKind.signed,IntKind.bits];omega
      refine tr_val (rk_convR (.of rfl)) rfl ?_
      rw [hw,hen]
      (refine tr_val (rk_cat (.of rfl) (.of rfl) (by omega)) rfl ?_;refine a_s rfl rfl ?_;refine tr_nil ?_;refine tr_blk_normal ?_;refine tr_then ?_;refine tr_region ?_;refine m_v rfl rfl ?_;refine tr_val (rk_add (.of rfl) (.of rfl) (ini (by omega))) rfl ?_;refine a_s rfl rfl ?_;refine n_t ?_)
      have ho:oddB l[k] = true:=by unfold oddB;simpa using hcd
      rw [show hrdB l[k] = l[k] % 128 by unfold hrdB;rw [if_pos ho];exact hr] at hnx
      rw [if_pos ho,List.append_nil] at hW
      rw [← hnx]
      apply tr_next (k + 1,v) (show k + 1 ≤ l.length by omega) (show l.length - (k + 1) < l.length - k by omega)
      case hs1=>exact .cons rfl (.cons rfl (.cons rfl (.cons rfl .nil)))
      case ht=>
        show Takes _ [row 3 1 v (hrdW l (k + 1)).length (natsV (hrdW l (k + 1)))] _
        rw [hW]
        exact .cons .here .nil
    · have hes2:(⟨#[63]⟩:ByteArray).size = 1:=rfl
      refine tr_val (rk_cat (a:=S) (b:=⟨#[63]⟩) (.of rfl) (.of rfl) (by rw [hsz,hes2];omega)) rfl ?_
      (refine a_s rfl rfl ?_;refine n_t ?_;refine tr_region ?_;refine m_v rfl rfl ?_;refine m_v rfl rfl ?_;refine tr_new (rk_sliceLit (.cons (.of rfl) .nil) rfl rfl rfl rfl) rfl (fun _ _=>?_))
      have ho:¬ oddB l[k] = true:=by unfold oddB;simpa using hcd
      rw [show hrdB l[k] = 63 by unfold hrdB;rw [if_neg ho],show strOf [63] = ⟨#[63]⟩ from rfl] at hnx
      rw [if_neg ho] at hW
      have hWv:natsV (hrdW l (k + 1)) = natsV (hrdW l k)++[.int .i64 (k:Nat)]:=by rw [hW,natsV_app];rfl
      have hWn:(hrdW l (k + 1)).length = (hrdW l k).length + 1:=by rw [hW];simp
      refine tr_appendB (.of rfl) (.of rfl) (.there .here) .here norm_ (by rfl) (okc_cons rfl okc_nil) (by rfl) (by rfl) (by rfl) lenx_ (by rfl) ?_
      intro v'
      (refine a_s rfl rfl ?_;refine tr_nil ?_;refine tr_blk_normal ?_;refine tr_then ?_;refine tr_region ?_;refine m_v rfl rfl ?_;refine tr_val (rk_add (.of rfl) (.of rfl) (ini (by omega))) rfl ?_;refine a_s rfl rfl ?_;refine n_t ?_)
      rw [← hnx]
      apply tr_next (k + 1,v') (show k + 1 ≤ l.length by omega) (show l.length - (k + 1) < l.length - k by omega)
      case hs1=>exact .cons rfl (.cons rfl (.cons rfl (.cons rfl .nil)))
      case ht=>
        show Takes _ [row 3 1 v' (hrdW l (k + 1)).length (natsV (hrdW l (k + 1)))] _
        rw [hWn,hWv]
        exact .cons .here .nil
  · obtain rfl:k = l.length:=by omega
    rw [List.take_length]
    (refine tr_seq ?_;refine s_r ?_;refine m_v rfl rfl ?_;refine m_v rfl rfl ?_;refine tr_val (rk_len_slice (.of rfl)) rfl ?_;refine tr_val (rk_lss (.of rfl) (.of rfl)) rfl ?_;refine n_t ?_;refine c_d rfl (fun _=>by omega) (fun hcd=>?_);refine x_t ?_;refine tr_then_exit ?_;refine tr_blk_exit ?_;refine tr_then ?_;refine s_r ?_;refine m_v rfl rfl ?_;refine m_v rfl rfl ?_;refine a_s rfl rfl ?_;refine a_s rfl rfl ?_;refine n_t ?_;refine tr_ret ?_)
    first | with_reducible apply tr_retM | with_reducible apply tr_endM
    case he=>exact ends2 rfl rfl rfl
    case hR=>
      intro w' hm'
      exact gives_end v trivial (by exact .cons .here .nil) hm' rfl
end Go.Proofs.A1
namespace Go.Proofs.A1
open Go Go.SL
theorem rk_eqlT {P:Program} {c:Cx} {sl:Slots} {hs:List Asn} {dst:Option Tmp} {ty:TypeId} {pos:String} {af:Array Edge} {g:Option (Nat × Bool)} {k:IntKind} {t u:TypeId} {x y:Operand} {a b:Int} (hx:Is sl x (.int k a)) (hy:Is sl y (.int k b)) (e:a = b) :
    RunV P c sl hs ⟨dst,.binOp .eql t x y u,ty,pos,af,g⟩ (.bool true):=by
  have:=rk_eql (P:=P) (c:=c) (hs:=hs) (dst:=dst) (ty:=ty) (pos:=pos) (af:=af) (g:=g) (t:=t) (u:=u) hx hy
  rwa [decide_eq_true e] at this
end Go.Proofs.A1
namespace Go.Proofs.A1
open Go Go.SL
theorem rk_convRd {P:Program} {c:Cx} {sl:Slots} {hs:List Asn} {dst:Option Tmp} {ty:TypeId} {pos:String} {af:Array Edge} {g:Option (Nat × Bool)} {t u e:TypeId} {x:Operand} {v:Value} {l:List Int} [ht:Und P t (.slice e)] [he:Und P e (.int .u8)] [hu:Und P u .string] (hx:Is sl x v) (hr:∀ w,Mem c hs w → Rd w v 1 (byts l)) :
    RunV P c sl hs ⟨dst,.convert t u x,ty,pos,af,g⟩ (.string (strOf l)):=
  ⟨by simp,fun ac w ha hm=>by
    obtain ⟨a,cp,b,o,rfl,_,_,ha',hc⟩:=hr w hm
    have h1:(Conv.bytesToString (.slice a (byts l).length cp)).run P w = .ok (.string (strOf l)) w:=by
      cases l with
      | nil =>
        cases a with
        | none=>simp [Conv.bytesToString,byts];rfl
        | some ad=>exact run_bytesToString w ad 0 cp [] (by simp [loadCells,loadCellsFrom])
      | cons y r =>
        have:=ha' (by simp [byts])
        subst this
        rw [byts_length]
        refine run_bytesToString w _ _ cp (y :: r) (rk_loadCells (by simp) (fun j v h=>?_))
        have h2:(byts (y :: r))[j]? = some [v]:=by
          rw [List.getElem?_map] at h
          unfold byts
          rw [List.getElem?_map]
          cases hj:(y :: r)[j]? with
          | none=>rw [hj] at h;cases h
          | some z=>rw [hj] at h;cases h;rfl
        have:=(hc j _ h2).2 0 v rfl
        simpa using this
    simp only [execOp,hx ac ha]
    refine value_of ?_
    rw [run_convert_bytes_string w t u e _ _ _ ht.eq he.eq hu.eq,h1]⟩
theorem rk_eqlsT {P:Program} {c:Cx} {sl:Slots} {hs:List Asn} {dst:Option Tmp} {ty:TypeId} {pos:String} {af:Array Edge} {g:Option (Nat × Bool)} {t u:TypeId} {x y:Operand} {a b:ByteArray} (hx:Is sl x (.string a)) (hy:Is sl y (.string b)) (e:a = b) :
    RunV P c sl hs ⟨dst,.binOp .eql t x y u,ty,pos,af,g⟩ (.bool true):=by
  have:=rk_eqls (P:=P) (c:=c) (hs:=hs) (dst:=dst) (ty:=ty) (pos:=pos) (af:=af) (g:=g) (t:=t) (u:=u) hx hy
  rwa [decide_eq_true e] at this
theorem natsV_intg (l:List Nat):natsV l = intgV (l.map fun (n:Nat)=>(n:Int)):=by
  unfold natsV intgV
  rw [List.flatMap_map]
theorem bits_law (s:ByteArray) {sv:Value} {l:List Int} {w:World} (h:Rd w sv 1 (byts l)) (hby:∀ x ∈ l,0 ≤ x ∧ x ≤ 255) (hG:GlobR w) (hT:Tab10 w):GivesV Tryz.prog 7 [.string s,sv] w (.bool true):=by
  have h':=h
  obtain ⟨a1,cp1,b1,o1,rfl,hcap1,hmax1,ha1,hc1⟩:=h'
  rw [byts_length] at *
  unfold maxLen at hmax1
  clear hc1 ha1
  have hwn:∀ w',GivesV Tryz.prog 55 [.bool (decide ((4000:Int) < (l.length:Nat))),.int .i64 5] w' (.int .i64 (hrdE l.length)):=fun w'=>by
    have:=when_q (decide ((4000:Int) < (l.length:Nat))) 5 w'
    rwa [whenF_if,show (if (4000:Int) < (l.length:Nat) then (5:Int) else 0) = hrdE l.length by
      rw [hrdE]
      by_cases h:4000 < l.length
      · rw [if_pos (by omega),if_pos h]
      · rw [if_neg (by omega),if_neg h]] at this
  refine givesV_of_tr Tryz.func7 rfl rfl ?_
  (refine s_r ?_;refine a_s rfl rfl ?_;refine n_t ?_;refine tr_seq ?_;refine s_r ?_;refine m_v rfl rfl ?_;refine tr_val (rk_len_string (.of rfl)) rfl ?_;refine tr_val (rk_gtr (.of rfl) (.of rfl)) rfl ?_;refine m_v rfl rfl ?_;refine v_g rfl rfl rfl rfl ?_;refine tr_vG1 rfl rfl inferInstance (fun hg hgp=>(rk_len_string (.ofg hg rfl))) rfl ?_;refine tr_vG1 rfl rfl inferInstance (fun hg hgp=>(rk_neq (.ofg hg rfl) (.of rfl))) rfl ?_;refine tr_val (rk_pick_and (.of rfl) rfl) rfl ?_;refine m_v rfl rfl ?_;refine v_g rfl rfl rfl rfl ?_;refine tr_vG1 rfl rfl inferInstance (fun hg hgp=>(rk_len_slice (.ofg hg rfl))) rfl ?_;refine tr_vG1 rfl rfl inferInstance (fun hg hgp=>(rk_gtr (.ofg hg rfl) (.of rfl))) rfl ?_;refine tr_vG1 rfl rfl inferInstance (fun hg hgp=>(rk_move (.ofg hg rfl))) rfl ?_;refine tr_vG rfl rfl inferInstance (fun hg hgp=>(rk_move (.of rfl))) rfl ?_;refine tr_vG rfl rfl inferInstance (fun hg hgp=>(rk_len_slice (.ofg hg rfl))) rfl ?_;refine tr_vG rfl rfl inferInstance (fun hg hgp=>(rk_neq (.ofg hg rfl) (.of rfl))) rfl ?_;refine tr_vG1 rfl rfl inferInstance (fun hg hgp=>(rk_pick_and' hg (.ofg hg rfl) rfl)) rfl ?_;refine tr_val (rk_pick_or (.of rfl) rfl) rfl ?_;refine n_t ?_;refine c_b rfl (fun hcd=>?_) (fun hcd=>?_);refine s_r ?_;refine tr_callV (rk_call (.of rfl) .nil inferInstance normc_) rfl (fun w' hm'=>(awake_c w' (GlobR.keeps hG (Mem.keeps hm')) (Tab10.keeps hT (Mem.keeps hm')))) ?_;refine a_s rfl rfl ?_;refine n_t ?_;refine r_t ?_;refine tr_retE rfl (ends1 rfl rfl) ?_;rotate_left;refine s_t ?_;refine s_r ?_;refine m_v rfl rfl ?_;rotate_right)
  · rfl
  have hlen:l.length ≤ 4001:=by omega
  clear hcd
  with_reducible apply tr_call
  case hr=>exact rk_call (.of rfl) (.cons (.of rfl) .nil) inferInstance normc_
  case hd=>rfl
  case ht=>exact Takes.nil
  case hc=>
    intro w1 fp hm1 _ hs1
    obtain rfl:fp = []:=hs1
    exact sent_c s _
  intro x _
  dsimp only [id_eq,List.cons_append,List.nil_append]
  (refine m_v rfl rfl ?_;refine tr_val (rk_extract (.of rfl) rfl) rfl ?_;refine tr_val (rk_extract (.of rfl) rfl) rfl ?_;refine a_s rfl rfl ?_;refine a_s rfl rfl ?_;refine n_r ?_;refine m_v rfl rfl ?_)
  with_reducible apply tr_call
  case hr=>exact rk_call (.of rfl) (.cons (.of rfl) .nil) inferInstance normc_
  case hd=>rfl
  case ht=>exact Takes.nil
  case hc=>
    intro w1 fp hm1 _ hs1
    obtain rfl:fp = []:=hs1
    exact bysV_c (h.keeps hm1.keeps) (by omega)
  intro v2 _
  dsimp only [id_eq,List.cons_append,List.nil_append]
  skip
  with_reducible apply tr_call
  case hr=>exact rk_call (.of rfl) (.cons (.of rfl) .nil) inferInstance normc_
  case hd=>rfl
  case ht=>exact Takes.nil
  case hc=>
    intro w1 fp hm1 _ hs1
    obtain rfl:fp = []:=hs1
    exact heard_c (byts_rd (E:=5) (v:=v2) hm1 (by exact .here) rfl) hby
  intro p _
  dsimp only [id_eq,List.cons_append,List.nil_append]
  (refine m_v rfl rfl ?_;refine tr_val (rk_extract (.of rfl) rfl) rfl ?_;refine tr_val (rk_extract (.of rfl) rfl) rfl ?_;refine tr_val (rk_extract (.of rfl) rfl) rfl ?_;refine a_s rfl rfl ?_;refine a_s rfl rfl ?_;refine a_s rfl rfl ?_;refine n_r ?_;refine m_v rfl rfl ?_)
  have hsz:¬ sntE s = 0 → sntL s = []:=fun h=>by unfold sntL;rw [if_neg h]
  have hbz:¬ hrdE l.length = 0 → hrdX l = ⟨#[]⟩ ∧ hrdL l = []:=fun h=>by rw [hrdX,hrdL,if_neg h,if_neg h];exact ⟨rfl,rfl⟩
  by_cases hs:sntE s = 0
  · by_cases hb:hrdE l.length = 0
    · clear hsz hbz
      (refine tr_callV (rk_call (.of rfl) (.cons (.of rfl) .nil) inferInstance normc_) rfl (fun w' hm'=>(txtQ_c s w')) ?_;refine m_v rfl rfl ?_;refine tr_val (rk_len_slice (.of rfl)) rfl ?_;refine tr_val (rk_gtr (.of rfl) (.of rfl)) rfl ?_;refine tr_callV (rk_call (.of rfl) (.cons (.of rfl) (.cons (.of rfl) .nil)) inferInstance normc_) rfl (fun w' hm'=>(hwn w')) ?_;refine a_s rfl rfl ?_;refine a_s rfl rfl ?_;refine n_r ?_;refine a_s rfl rfl ?_;refine n_r ?_;refine a_s rfl rfl ?_;refine n_r ?_;refine a_s rfl rfl ?_;refine n_t ?_;refine tr_seq ?_;refine s_r ?_;refine m_v rfl rfl ?_;refine tr_val (rk_eql (.of rfl) (.of rfl)) rfl ?_;refine n_t ?_;refine c_d rfl (fun hcd=>?_) (fun _=>by omega);refine tr_region ?_;refine m_v rfl rfl ?_)
      with_reducible apply tr_call
      case hr=>exact rk_call (.of rfl) (.cons (.of rfl) .nil) inferInstance normc_
      case hd=>rfl
      case ht=>exact Takes.nil
      case hc=>
        intro w1 fp hm1 _ hs1
        obtain rfl:fp = []:=hs1
        exact sentQ_c s hs _
      intro y _
      dsimp only [id_eq,List.cons_append,List.nil_append]
      (refine a_s rfl rfl ?_;refine n_t ?_;refine tr_seq ?_;refine s_r ?_;refine m_v rfl rfl ?_;refine tr_val (rk_eql (.of rfl) (.of rfl)) rfl ?_;refine n_t ?_;refine c_d rfl (fun hcd=>?_) (fun _=>by omega);refine tr_region ?_;refine m_v rfl rfl ?_)
      with_reducible apply tr_call
      case hr=>exact rk_call (.of rfl) (.cons (.of rfl) .nil) inferInstance normc_
      case hd=>rfl
      case ht=>exact Takes.nil
      case hc=>
        intro w1 fp hm1 _ hs1
        obtain rfl:fp = []:=hs1
        exact heardQ_c (h.keeps hm1.keeps) hby hb
      intro q _
      dsimp only [id_eq,List.cons_append,List.nil_append]
      (refine m_v rfl rfl ?_;refine tr_val (rk_extract (.of rfl) rfl) rfl ?_;refine tr_val (rk_extract (.of rfl) rfl) rfl ?_;refine a_s rfl rfl ?_;refine a_s rfl rfl ?_;refine n_r ?_;refine m_v rfl rfl ?_)
      refine tr_val (rk_convRd (v:=x) (l:=sntL s) (.of rfl) (fun w' hm'=>byts_rd (E:=5) hm' (by exact Take.there (.there (.there (.there .here)))) rfl)) rfl ?_
      refine m_v rfl rfl ?_
      refine tr_val (rk_convRd (v:=y) (l:=sntL s) (.of rfl) (fun w' hm'=>byts_rd (E:=5) hm' (by exact Take.there .here) rfl)) rfl ?_
      (refine tr_val (rk_eqlsT (.of rfl) (.of rfl) rfl) rfl ?_;refine m_v rfl rfl ?_;refine tr_gOn rfl rfl ?_;refine m_v rfl rfl ?_;refine tr_gOn rfl rfl ?_;refine m_v rfl rfl ?_;refine tr_gOn rfl rfl ?_;refine tr_val (rk_eqlT (.of rfl) (.of rfl) rfl) rfl ?_;refine tr_val (rk_pickB (.of rfl) (.of rfl) (.of rfl) rfl) rfl ?_;refine m_v rfl rfl ?_;refine tr_gOn rfl rfl ?_;refine m_v rfl rfl ?_;refine tr_gOn rfl rfl ?_;refine m_v rfl rfl ?_;refine tr_gOn rfl rfl ?_;refine tr_val (rk_eqlsT (.of rfl) (.of rfl) rfl) rfl ?_;refine tr_val (rk_pickB (.of rfl) (.of rfl) (.of rfl) rfl) rfl ?_;refine m_v rfl rfl ?_;refine tr_gOn rfl rfl ?_;refine m_v rfl rfl ?_;refine tr_gOn rfl rfl ?_;refine m_v rfl rfl ?_;refine tr_gOn rfl rfl ?_)
      with_reducible apply tr_callV
      case hr=>exact rk_call (.of rfl) (.cons (.of rfl) (.cons (.of rfl) .nil)) inferInstance normc_
      case hd=>rfl
      case hc=>
        intro w' hm'
        have s1:=intg_rd (E:=3) (v:=p) (l:=(hrdL l).map fun (n:Nat)=>(n:Int)) (n:=(hrdL l).length) hm' (by rw [← natsV_intg];exact Take.there (.there .here)) (by simp)
        have s2:=intg_rd (E:=3) (v:=q) (l:=(hrdL l).map fun (n:Nat)=>(n:Int)) (n:=(hrdL l).length) hm' (by rw [← natsV_intg];exact .here) (by simp)
        have s3:=sameI_t s1 s2
        rw [decide_eq_true rfl] at s3
        exact s3
      (refine tr_val (rk_pickB (.of rfl) (.of rfl) (.of rfl) rfl) rfl ?_;refine m_v rfl rfl ?_;refine tr_gOn rfl rfl ?_;refine m_v rfl rfl ?_;refine tr_gOn rfl rfl ?_;refine m_v rfl rfl ?_;refine tr_gOn rfl rfl ?_;refine tr_val (rk_eqlT (.of rfl) (.of rfl) rfl) rfl ?_;refine tr_val (rk_pickB (.of rfl) (.of rfl) (.of rfl) rfl) rfl ?_;refine m_v rfl rfl ?_;refine tr_gOn rfl rfl ?_)
      with_reducible apply tr_callV (V:=Value.bool true)
      case hr=>exact rk_call (.of rfl) .nil inferInstance normc_
      case hd=>rfl
      case hc=>
        intro w' hm'
        exact awake_c _ (hG.keeps hm'.keeps) (hT.keeps hm'.keeps)
      (refine tr_val (rk_pickB (.of rfl) (.of rfl) (.of rfl) rfl) rfl ?_;refine a_s rfl rfl ?_;refine n_t ?_;refine tr_ret ?_;refine tr_retE rfl (ends1 rfl rfl) ?_)
      rfl
    · obtain ⟨e1,e2⟩:=hbz hb
      rw [e1,e2]
      (refine tr_callV (rk_call (.of rfl) (.cons (.of rfl) .nil) inferInstance normc_) rfl (fun w' hm'=>(txtQ_c s w')) ?_;refine m_v rfl rfl ?_;refine tr_val (rk_len_slice (.of rfl)) rfl ?_;refine tr_val (rk_gtr (.of rfl) (.of rfl)) rfl ?_;refine tr_callV (rk_call (.of rfl) (.cons (.of rfl) (.cons (.of rfl) .nil)) inferInstance normc_) rfl (fun w' hm'=>(hwn w')) ?_;refine a_s rfl rfl ?_;refine a_s rfl rfl ?_;refine n_r ?_;refine a_s rfl rfl ?_;refine n_r ?_;refine a_s rfl rfl ?_;refine n_r ?_;refine a_s rfl rfl ?_;refine n_t ?_;refine tr_seq ?_;refine s_r ?_;refine m_v rfl rfl ?_;refine tr_val (rk_eql (.of rfl) (.of rfl)) rfl ?_;refine n_t ?_;refine c_d rfl (fun hcd=>?_) (fun _=>by omega);refine tr_region ?_;refine m_v rfl rfl ?_)
      with_reducible apply tr_call
      case hr=>exact rk_call (.of rfl) (.cons (.of rfl) .nil) inferInstance normc_
      case hd=>rfl
      case ht=>exact Takes.nil
      case hc=>
        intro w1 fp hm1 _ hs1
        obtain rfl:fp = []:=hs1
        exact sentQ_c s hs _
      intro y _
      dsimp only [id_eq,List.cons_append,List.nil_append]
      (refine a_s rfl rfl ?_;refine n_t ?_;refine tr_seq ?_;refine s_r ?_;refine m_v rfl rfl ?_;refine tr_val (rk_eql (.of rfl) (.of rfl)) rfl ?_;refine n_t ?_;refine c_d rfl (fun _=>by omega) (fun hcd=>?_);refine s_t ?_;refine s_r ?_;refine m_v rfl rfl ?_)
      refine tr_val (rk_convRd (v:=x) (l:=sntL s) (.of rfl) (fun w' hm'=>byts_rd (E:=5) hm' (by exact Take.there (.there (.there .here))) rfl)) rfl ?_
      refine m_v rfl rfl ?_
      refine tr_val (rk_convRd (v:=y) (l:=sntL s) (.of rfl) (fun w' hm'=>byts_rd (E:=5) hm' (by exact .here) rfl)) rfl ?_
      (refine tr_val (rk_eqlsT (.of rfl) (.of rfl) rfl) rfl ?_;refine m_v rfl rfl ?_;refine tr_gOn rfl rfl ?_;refine m_v rfl rfl ?_;refine tr_gOn rfl rfl ?_;refine m_v rfl rfl ?_;refine tr_gOn rfl rfl ?_;refine tr_val (rk_eqlT (.of rfl) (.of rfl) rfl) rfl ?_;refine tr_val (rk_pickB (.of rfl) (.of rfl) (.of rfl) rfl) rfl ?_;refine m_v rfl rfl ?_;refine tr_gOn rfl rfl ?_;refine m_v rfl rfl ?_;refine tr_gOn rfl rfl ?_;refine m_v rfl rfl ?_;refine tr_gOn rfl rfl ?_;refine tr_val (rk_eqlsT (.of rfl) (.of rfl) rfl) rfl ?_;refine tr_val (rk_pickB (.of rfl) (.of rfl) (.of rfl) rfl) rfl ?_;refine m_v rfl rfl ?_;refine tr_gOn rfl rfl ?_;refine m_v rfl rfl ?_;refine tr_gOn rfl rfl ?_;refine m_v rfl rfl ?_;refine tr_gOn rfl rfl ?_)
      with_reducible apply tr_callV
      case hr=>exact rk_call (.of rfl) (.cons (.of rfl) (.cons (.of rfl) .nil)) inferInstance normc_
      case hd=>rfl
      case hc=>
        intro w' hm'
        have s1:=intg_rd (E:=3) (v:=p) (l:=([]).map fun (n:Nat)=>(n:Int)) (n:=([]).length) hm' (by rw [← natsV_intg];exact Take.there .here) (by simp)
        have s3:=sameI_t (m:=[]) s1 (Rd.nil _ 1)
        rw [decide_eq_true (by rfl)] at s3
        exact s3
      (refine tr_val (rk_pickB (.of rfl) (.of rfl) (.of rfl) rfl) rfl ?_;refine m_v rfl rfl ?_;refine tr_gOn rfl rfl ?_;refine m_v rfl rfl ?_;refine tr_gOn rfl rfl ?_;refine m_v rfl rfl ?_;refine tr_gOn rfl rfl ?_;refine tr_val (rk_eqlT (.of rfl) (.of rfl) rfl) rfl ?_;refine tr_val (rk_pickB (.of rfl) (.of rfl) (.of rfl) rfl) rfl ?_;refine m_v rfl rfl ?_;refine tr_gOn rfl rfl ?_)
      with_reducible apply tr_callV (V:=Value.bool true)
      case hr=>exact rk_call (.of rfl) .nil inferInstance normc_
      case hd=>rfl
      case hc=>
        intro w' hm'
        exact awake_c _ (hG.keeps hm'.keeps) (hT.keeps hm'.keeps)
      (refine tr_val (rk_pickB (.of rfl) (.of rfl) (.of rfl) rfl) rfl ?_;refine a_s rfl rfl ?_;refine n_t ?_;refine tr_ret ?_;refine tr_retE rfl (ends1 rfl rfl) ?_)
      rfl
  · rw [hsz hs]
    by_cases hb:hrdE l.length = 0
    · clear hsz hbz
      (refine tr_callV (rk_call (.of rfl) (.cons (.of rfl) .nil) inferInstance normc_) rfl (fun w' hm'=>(txtQ_c s w')) ?_;refine m_v rfl rfl ?_;refine tr_val (rk_len_slice (.of rfl)) rfl ?_;refine tr_val (rk_gtr (.of rfl) (.of rfl)) rfl ?_;refine tr_callV (rk_call (.of rfl) (.cons (.of rfl) (.cons (.of rfl) .nil)) inferInstance normc_) rfl (fun w' hm'=>(hwn w')) ?_;refine a_s rfl rfl ?_;refine a_s rfl rfl ?_;refine n_r ?_;refine a_s rfl rfl ?_;refine n_r ?_;refine a_s rfl rfl ?_;refine n_r ?_;refine a_s rfl rfl ?_;refine n_t ?_;refine tr_seq ?_;refine s_r ?_;refine m_v rfl rfl ?_;refine tr_val (rk_eql (.of rfl) (.of rfl)) rfl ?_;refine n_t ?_;refine c_d rfl (fun _=>by omega) (fun hcd=>?_);refine s_t ?_;refine tr_seq ?_;refine s_r ?_;refine m_v rfl rfl ?_;refine tr_val (rk_eql (.of rfl) (.of rfl)) rfl ?_;refine n_t ?_;refine c_d rfl (fun hcd=>?_) (fun _=>by omega);refine tr_region ?_;refine m_v rfl rfl ?_)
      with_reducible apply tr_call
      case hr=>exact rk_call (.of rfl) (.cons (.of rfl) .nil) inferInstance normc_
      case hd=>rfl
      case ht=>exact Takes.nil
      case hc=>
        intro w1 fp hm1 _ hs1
        obtain rfl:fp = []:=hs1
        exact heardQ_c (h.keeps hm1.keeps) hby hb
      intro q _
      dsimp only [id_eq,List.cons_append,List.nil_append]
      (refine m_v rfl rfl ?_;refine tr_val (rk_extract (.of rfl) rfl) rfl ?_;refine tr_val (rk_extract (.of rfl) rfl) rfl ?_;refine a_s rfl rfl ?_;refine a_s rfl rfl ?_;refine n_r ?_;refine m_v rfl rfl ?_)
      refine tr_val (rk_convRd (v:=x) (l:=[]) (.of rfl) (fun w' hm'=>byts_rd (E:=5) hm' (by exact Take.there (.there (.there .here))) rfl)) rfl ?_
      refine m_v rfl rfl ?_
      refine tr_val (rk_convRd (l:=[]) (.of rfl) (fun w' hm'=>Rd.nil _ 1)) rfl ?_
      (refine tr_val (rk_eqlsT (.of rfl) (.of rfl) rfl) rfl ?_;refine m_v rfl rfl ?_;refine tr_gOn rfl rfl ?_;refine m_v rfl rfl ?_;refine tr_gOn rfl rfl ?_;refine m_v rfl rfl ?_;refine tr_gOn rfl rfl ?_;refine tr_val (rk_eqlT (.of rfl) (.of rfl) rfl) rfl ?_;refine tr_val (rk_pickB (.of rfl) (.of rfl) (.of rfl) rfl) rfl ?_;refine m_v rfl rfl ?_;refine tr_gOn rfl rfl ?_;refine m_v rfl rfl ?_;refine tr_gOn rfl rfl ?_;refine m_v rfl rfl ?_;refine tr_gOn rfl rfl ?_;refine tr_val (rk_eqlsT (.of rfl) (.of rfl) rfl) rfl ?_;refine tr_val (rk_pickB (.of rfl) (.of rfl) (.of rfl) rfl) rfl ?_;refine m_v rfl rfl ?_;refine tr_gOn rfl rfl ?_;refine m_v rfl rfl ?_;refine tr_gOn rfl rfl ?_;refine m_v rfl rfl ?_;refine tr_gOn rfl rfl ?_)
      with_reducible apply tr_callV
      case hr=>exact rk_call (.of rfl) (.cons (.of rfl) (.cons (.of rfl) .nil)) inferInstance normc_
      case hd=>rfl
      case hc=>
        intro w' hm'
        have s1:=intg_rd (E:=3) (v:=p) (l:=(hrdL l).map fun (n:Nat)=>(n:Int)) (n:=(hrdL l).length) hm' (by rw [← natsV_intg];exact Take.there .here) (by simp)
        have s2:=intg_rd (E:=3) (v:=q) (l:=(hrdL l).map fun (n:Nat)=>(n:Int)) (n:=(hrdL l).length) hm' (by rw [← natsV_intg];exact .here) (by simp)
        have s3:=sameI_t s1 s2
        rw [decide_eq_true rfl] at s3
        exact s3
      (refine tr_val (rk_pickB (.of rfl) (.of rfl) (.of rfl) rfl) rfl ?_;refine m_v rfl rfl ?_;refine tr_gOn rfl rfl ?_;refine m_v rfl rfl ?_;refine tr_gOn rfl rfl ?_;refine m_v rfl rfl ?_;refine tr_gOn rfl rfl ?_;refine tr_val (rk_eqlT (.of rfl) (.of rfl) rfl) rfl ?_;refine tr_val (rk_pickB (.of rfl) (.of rfl) (.of rfl) rfl) rfl ?_;refine m_v rfl rfl ?_;refine tr_gOn rfl rfl ?_)
      with_reducible apply tr_callV (V:=Value.bool true)
      case hr=>exact rk_call (.of rfl) .nil inferInstance normc_
      case hd=>rfl
      case hc=>
        intro w' hm'
        exact awake_c _ (hG.keeps hm'.keeps) (hT.keeps hm'.keeps)
      (refine tr_val (rk_pickB (.of rfl) (.of rfl) (.of rfl) rfl) rfl ?_;refine a_s rfl rfl ?_;refine n_t ?_;refine tr_ret ?_;refine tr_retE rfl (ends1 rfl rfl) ?_)
      rfl
    · obtain ⟨e1,e2⟩:=hbz hb
      rw [e1,e2]
      (refine tr_callV (rk_call (.of rfl) (.cons (.of rfl) .nil) inferInstance normc_) rfl (fun w' hm'=>(txtQ_c s w')) ?_;refine m_v rfl rfl ?_;refine tr_val (rk_len_slice (.of rfl)) rfl ?_;refine tr_val (rk_gtr (.of rfl) (.of rfl)) rfl ?_;refine tr_callV (rk_call (.of rfl) (.cons (.of rfl) (.cons (.of rfl) .nil)) inferInstance normc_) rfl (fun w' hm'=>(hwn w')) ?_;refine a_s rfl rfl ?_;refine a_s rfl rfl ?_;refine n_r ?_;refine a_s rfl rfl ?_;refine n_r ?_;refine a_s rfl rfl ?_;refine n_r ?_;refine a_s rfl rfl ?_;refine n_t ?_;refine tr_seq ?_;refine s_r ?_;refine m_v rfl rfl ?_;refine tr_val (rk_eql (.of rfl) (.of rfl)) rfl ?_;refine n_t ?_;refine c_d rfl (fun _=>by omega) (fun hcd=>?_);refine s_t ?_;refine tr_seq ?_;refine s_r ?_;refine m_v rfl rfl ?_;refine tr_val (rk_eql (.of rfl) (.of rfl)) rfl ?_;refine n_t ?_;refine c_d rfl (fun _=>by omega) (fun hcd=>?_);refine s_t ?_;refine s_r ?_;refine m_v rfl rfl ?_)
      refine tr_val (rk_convRd (v:=x) (l:=[]) (.of rfl) (fun w' hm'=>byts_rd (E:=5) hm' (by exact Take.there (.there .here)) rfl)) rfl ?_
      refine m_v rfl rfl ?_
      refine tr_val (rk_convRd (l:=[]) (.of rfl) (fun w' hm'=>Rd.nil _ 1)) rfl ?_
      (refine tr_val (rk_eqlsT (.of rfl) (.of rfl) rfl) rfl ?_;refine m_v rfl rfl ?_;refine tr_gOn rfl rfl ?_;refine m_v rfl rfl ?_;refine tr_gOn rfl rfl ?_;refine m_v rfl rfl ?_;refine tr_gOn rfl rfl ?_;refine tr_val (rk_eqlT (.of rfl) (.of rfl) rfl) rfl ?_;refine tr_val (rk_pickB (.of rfl) (.of rfl) (.of rfl) rfl) rfl ?_;refine m_v rfl rfl ?_;refine tr_gOn rfl rfl ?_;refine m_v rfl rfl ?_;refine tr_gOn rfl rfl ?_;refine m_v rfl rfl ?_;refine tr_gOn rfl rfl ?_;refine tr_val (rk_eqlsT (.of rfl) (.of rfl) rfl) rfl ?_;refine tr_val (rk_pickB (.of rfl) (.of rfl) (.of rfl) rfl) rfl ?_;refine m_v rfl rfl ?_;refine tr_gOn rfl rfl ?_;refine m_v rfl rfl ?_;refine tr_gOn rfl rfl ?_;refine m_v rfl rfl ?_;refine tr_gOn rfl rfl ?_)
      with_reducible apply tr_callV
      case hr=>exact rk_call (.of rfl) (.cons (.of rfl) (.cons (.of rfl) .nil)) inferInstance normc_
      case hd=>rfl
      case hc=>
        intro w' hm'
        have s1:=intg_rd (E:=3) (v:=p) (l:=([]).map fun (n:Nat)=>(n:Int)) (n:=([]).length) hm' (by rw [← natsV_intg];exact .here) (by simp)
        have s3:=sameI_t (m:=[]) s1 (Rd.nil _ 1)
        rw [decide_eq_true (by rfl)] at s3
        exact s3
      (refine tr_val (rk_pickB (.of rfl) (.of rfl) (.of rfl) rfl) rfl ?_;refine m_v rfl rfl ?_;refine tr_gOn rfl rfl ?_;refine m_v rfl rfl ?_;refine tr_gOn rfl rfl ?_;refine m_v rfl rfl ?_;refine tr_gOn rfl rfl ?_;refine tr_val (rk_eqlT (.of rfl) (.of rfl) rfl) rfl ?_;refine tr_val (rk_pickB (.of rfl) (.of rfl) (.of rfl) rfl) rfl ?_;refine m_v rfl rfl ?_;refine tr_gOn rfl rfl ?_)
      with_reducible apply tr_callV (V:=Value.bool true)
      case hr=>exact rk_call (.of rfl) .nil inferInstance normc_
      case hd=>rfl
      case hc=>
        intro w' hm'
        exact awake_c _ (hG.keeps hm'.keeps) (hT.keeps hm'.keeps)
      (refine tr_val (rk_pickB (.of rfl) (.of rfl) (.of rfl) rfl) rfl ?_;refine a_s rfl rfl ?_;refine n_t ?_;refine tr_ret ?_;refine tr_retE rfl (ends1 rfl rfl) ?_)
      rfl
end Go.Proofs.A1
