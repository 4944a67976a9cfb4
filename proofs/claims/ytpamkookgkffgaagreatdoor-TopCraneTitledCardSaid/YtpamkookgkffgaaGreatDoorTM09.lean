/- Parts of the proof: UBp UCp UDp UEp UGp UHp UJp EU9 EU12 EU15 EU17 EU18 EU19 EU20. -/
import Derived.Test.YtpamkookgkffgaaGreatDoorTM08
import Derived.Lib.ItoaLen
import Derived.Test.YtpamkookgkffgaaGreatDoorTM05
import Derived.Test.YtpamkookgkffgaaGreatDoorTM07
import Derived.Test.YtpamkookgkffgaaGreatDoorTM06
set_option linter.unusedSectionVars false
set_option linter.unusedVariables false
set_option linter.unusedSimpArgs false
namespace Go.Proofs.A1
open Go Go.SL
def lineV (l:List Cp) (n r:Int) (j:Nat):List Value:=(List.range 32).map fun k=>Value.int .u8 (shB (l.take j) n r k)
theorem lineV_len (l:List Cp) (n r:Int) (j:Nat):(lineV l n r j).length = 32:=by unfold lineV;rw [List.length_map,List.length_range]
theorem shB_next {l:List Cp} {j:Nat} (hj:j < l.length) (n r:Int) (k:Nat):shB (l.take (j + 1)) n r k = if cov (nthC l j) n r k then bt (nthC l j).tx ((k:Int) - (nthC l j).co).toNat else shB (l.take j) n r k:=by
  rw [List.take_succ_eq_append_getElem hj,shB_snoc,← nthC_get hj];rfl
theorem line_skip {l:List Cp} {j:Nat} (hj:j < l.length) {n r:Int} (hc:onC (nthC l j) n r = false):lineV l n r (j + 1) = lineV l n r j:=by
  unfold lineV
  refine List.map_congr_left fun k _=>?_
  rw [shB_next hj,cov,hc];rfl
theorem bytesV_get {s:ByteArray} {i:Nat} (h:i < s.size):(bytesV s)[i]? = some (.int .u8 (bt s i)):=by
  unfold bytesV bt
  have h2:i < s.data.toList.length:=h
  rw [List.getElem?_map,List.getElem?_eq_getElem h2];rfl
theorem line_copy {l:List Cp} (h:CapOk l) {j:Nat} (hj:j < l.length) {n r:Int} (hc:onC (nthC l j) n r = true):setCells (lineV l n r j) (nthC l j).co.toNat (bytesV (nthC l j).tx) = lineV l n r (j + 1):=by
  have ho:=h.ok j hj
  have h1:=ho.co;have h2:=ho.fit
  apply List.ext_getElem?
  intro k
  rw [setCells_get _ _ _ _ (by rw [bytesV_length,lineV_len];omega),bytesV_length]
  by_cases hk:k < 32
  · have e:(lineV l n r (j + 1))[k]? = some (.int .u8 (shB (l.take (j + 1)) n r k)):=by unfold lineV;simp [hk]
    have e0:(lineV l n r j)[k]? = some (.int .u8 (shB (l.take j) n r k)):=by unfold lineV;simp [hk]
    rw [e,e0,shB_next hj,cov,hc]
    by_cases hin:(nthC l j).co.toNat ≤ k ∧ k < (nthC l j).co.toNat + (nthC l j).tx.size
    · rw [if_pos hin,bytesV_get (by omega)]
      have:(decide ((nthC l j).co ≤ (k:Int)) && decide ((k:Int) < (nthC l j).co + ((nthC l j).tx.size:Int))) = true:=by simp;omega
      rw [this]
      simp only [Bool.and_self,if_true]
      rw [show ((k:Int) - (nthC l j).co).toNat = k - (nthC l j).co.toNat by omega]
    · rw [if_neg hin]
      have:(decide ((nthC l j).co ≤ (k:Int)) && decide ((k:Int) < (nthC l j).co + ((nthC l j).tx.size:Int))) = false:=by
        rw [Bool.and_eq_false_iff,decide_eq_false_iff_not,decide_eq_false_iff_not];omega
      rw [this];rfl
  · rw [if_neg (by omega)]
    rw [List.getElem?_eq_none (by rw [lineV_len];omega),List.getElem?_eq_none (by rw [lineV_len];omega)]
theorem line_end (l:List Cp) (n r:Int):lineV l n r l.length = (rowB l n r).map (Value.int .u8):=by unfold lineV rowB;rw [List.take_length,List.map_map];rfl
end Go.Proofs.A1
namespace Go.Proofs.A1
open Go Go.SL
theorem strOf_strB (ns:List Int):strOf ns = strB ns:=by
  unfold strOf strB
  have h:∀ (ns:List Int) (a:ByteArray),ns.foldl (fun r n=>r.push (UInt8.ofNat n.toNat)) a = ⟨a.data++(ns.map fun n=>UInt8.ofNat n.toNat).toArray⟩:=by
    intro ns
    induction ns with
    | nil=>intro a;simp
    | cons x l ih =>
      intro a
      rw [List.foldl_cons,ih]
      apply ByteArray.ext
      show (a.push _).data++_ = _
      simp [ByteArray.push]
  rw [h]
  apply ByteArray.ext
  simp
def srt (l:List Int):List Int:=l.mergeSort fun x y=>decide (x ≤ y)
theorem srt_len (l:List Int):(srt l).length = l.length:=List.length_mergeSort _
theorem srt_perm (l:List Int):List.Perm (srt l) l:=List.mergeSort_perm _ _
theorem srt_inc (l:List Int):(srt l).Pairwise (· ≤ ·):=by
  have:=List.pairwise_mergeSort (le:=fun x y:Int=>decide (x ≤ y)) (fun a b c h1 h2=>by simp at *;omega) (fun a b=>by simp;omega) l
  exact this.imp fun h=>by simpa using h
theorem endB_pos {l:List Cp} (h:CapOk l) {n:Int} (he:endB l n = true):0 ≤ n:=by
  unfold endB at he
  rw [List.any_eq_true] at he
  obtain ⟨x,hx,h2⟩:=he
  obtain ⟨k,hk,rfl⟩:=List.getElem_of_mem hx
  have:=(h.ok k hk).sp
  rw [nthC_get hk] at this
  simp at h2
  omega
theorem ch_sorted {l:List Cp} (h:CapOk l) {out:List Int} (hn:out.Nodup) (hm:∀ x,x ∈ out ↔ endB l x = true ∧ chB l x = true):srt out = (chL l).map fun (n:Nat)=>(n:Int):=by
  have hN:((chL l).map fun (n:Nat)=>(n:Int)).Nodup:=by
    rw [List.Nodup,List.pairwise_map]
    exact (chL_inc l).imp fun h=>by omega
  have hp:List.Perm (srt out) ((chL l).map fun (n:Nat)=>(n:Int)):=(srt_perm out).trans ((List.perm_ext_iff_of_nodup hn hN).2 fun x=>by
    rw [hm,List.mem_map]
    constructor
    · intro hx
      have:=endB_pos h hx.1
      exact ⟨x.toNat,chL_mem.2 (by rw [Int.toNat_of_nonneg this];exact hx),Int.toNat_of_nonneg this⟩
    · rintro ⟨k,hk,rfl⟩
      exact chL_mem.1 hk)
  refine List.Perm.eq_of_pairwise (le:=fun a b:Int=>a ≤ b) ?_ (srt_inc _) ?_ hp
  · intro a b _ _ h1 h2;omega
  · rw [List.pairwise_map]
    exact (chL_inc l).imp fun h=>by omega
end Go.Proofs.A1
namespace Go.Proofs.A1
open Go Go.SL
def badB (b:Int):Bool:=decide (b < 32) || decide (126 < b)
def badI (s:ByteArray):Int:=((List.range s.size).find? fun i=>badB (bt s i)).elim (-1) fun i=>(i:Int)
theorem badI_at {s:ByteArray} {k:Nat} (h:∀ i,i < k → badB (bt s i) = false) (hk:k < s.size) (hp:badB (bt s k) = true):badI s = k:=by
  unfold badI
  have:(List.range s.size).find? (fun i=>badB (bt s i)) = some k:=by
    rw [List.find?_range_eq_some]
    exact ⟨by simp [hp],by simpa using hk,fun i hi=>by simpa using h i hi⟩
  rw [this];rfl
theorem badI_no {s:ByteArray} (h:∀ i,i < s.size → badB (bt s i) = false):badI s = -1:=by
  unfold badI
  have:(List.range s.size).find? (fun i=>badB (bt s i)) = none:=by
    rw [List.find?_eq_none]
    intro i hi
    simp [h i (List.mem_range.1 hi)]
  rw [this];rfl
theorem badI_tx (s:ByteArray):decide (0 ≤ badI s) = badTx s:=by
  unfold badI badTx
  cases h:(List.range s.size).find? fun i=>badB (bt s i) with
  | none =>
    have:((List.range s.size).any fun i=>decide (bt s i < 32) || decide (126 < bt s i)) = false:=by
      rw [List.any_eq_false]
      intro x hx
      have:=List.find?_eq_none.1 h x hx
      simpa [badB] using this
    rw [this];rfl
  | some i =>
    have h1:=List.mem_of_find?_eq_some h
    have h2:=List.find?_some h
    have:((List.range s.size).any fun i=>decide (bt s i < 32) || decide (126 < bt s i)) = true:=by
      rw [List.any_eq_true]
      exact ⟨i,h1,h2⟩
    rw [this];simp
end Go.Proofs.A1
namespace Go.Proofs.A1
open Go Go.SL
end Go.Proofs.A1
namespace Go.Proofs.A1
open Go Go.SL
end Go.Proofs.A1
namespace Go.Proofs.A1
open Go Go.SL
end Go.Proofs.A1
namespace Go.Proofs.A1
end Go.Proofs.A1
namespace Go.Proofs.A1
open Go Go.SL
theorem setCells_full {cs vs:List Value} (h:vs.length = cs.length):setCells cs 0 vs = vs:=by
  apply List.ext_getElem?
  intro k
  rw [setCells_get _ _ _ _ (by omega)]
  by_cases hk:k < vs.length
  · rw [if_pos (by omega),Nat.sub_zero]
  · rw [if_neg (by omega),List.getElem?_eq_none (by omega),List.getElem?_eq_none (by omega)]
theorem cellsAt_app {cs cur:List Value} {o n:Nat} (h:o + n ≤ cs.length):cellsAt (cs++cur) o n = cellsAt cs o n:=by
  rw [cellsAt_eq,cellsAt_eq,List.drop_append_of_le_length (by omega),List.take_append_of_le_length (by rw [List.length_drop];omega)]
end Go.Proofs.A1
namespace Go.Proofs.A1
open Go Go.SL
theorem cell_keepsN {w w':World} {b o:Nat} {v:Value} {md:List Nat} (h:w.cell? ⟨b,o,none⟩ = some v) (hn:b ∉ md) (hk:Keeps md w w'):w'.cell? ⟨b,o,none⟩ = some v:=by
  have hb:=World.block_lt_of_cell? w _ h
  have:=hk.block b hb hn
  rw [← h]
  simp [World.cell?,this]
theorem GlobR.keepsN {md:List Nat} {w w':World} (h:GlobR w) (hn:1 ∉ md) (hk:Keeps md w w'):GlobR w':=⟨cell_keepsN h.n0 hn hk,cell_keepsN h.n1 hn hk,cell_keepsN h.n2 hn hk⟩
theorem GlobR.out {md fp:List Nat} {w0:World} (h:GlobR w0) (hn:1 ∉ md) (hF:∀ b ∈ fp,b ∈ md ∨ w0.heap.size ≤ b):1 ∉ fp:=fun h0=>by
  have hb:=World.block_lt_of_cell? w0 ⟨1,0,none⟩ h.n0
  rcases hF 1 h0 with e | e
  · exact hn e
  · exact absurd hb (by simp;omega)
end Go.Proofs.A1
namespace Go.Proofs.A1
open Go Go.SL
theorem ck {b o n:Nat} {rp:List Int} {w:World} (hc:∀ i r,(intg rp)[i]? = some r → r.length = 1 ∧ ∀ j u,r[j]? = some u → w.cell? ⟨b,o + i * 1 + j,none⟩ = some u) (hl:n < rp.length):w.cell? ⟨b,o + n * 1,none⟩ = some (.int .i64 rp[n]):=(hc n _ (intg_get hl)).2 0 _ rfl
end Go.Proofs.A1
namespace Go.Proofs.A1
open Go Go.SL
theorem rk_eqlBo {P:Program} {c:Cx} {sl:Slots} {hs:List Asn} {dst:Option Tmp} {ty:TypeId} {pos:String} {af:Array Edge} {g:Option (Nat × Bool)} {t u:TypeId} {x y:Operand} {a b:Bool} [hu:Und P t .bool] (hx:Is sl x (.bool a)) (hy:Is sl y (.bool b)) :
    RunV P c sl hs ⟨dst,.binOp .eql t x y u,ty,pos,af,g⟩ (.bool (a == b)):=
  rk_bin hx hy fun w=>by
    have:(Op.equal t (.bool a) (.bool b)).run P w = .ok (a == b) w:=by
      exact leq_run (d:=9999) (by rw [hu.eq];rfl) (fun k h=>by rw [hu.eq] at h;cases h) (fun h=>by rw [hu.eq] at h;cases h) (fun _=>⟨a,rfl⟩) rfl
    simp [eqGuard_bool,binOp,this]
def badR (r:Int):Bool:=decide (r < 32) || decide (126 < r)
theorem chk1_c (r:Int) (w:World):GivesV Tryz.prog 85 [.int .i32 r] w (.bool (badR r)):=by
  refine givesV_of_tr Tryz.func85 rfl rfl ?_
  (refine s_r ?_;refine a_s rfl rfl ?_;refine n_r ?_;refine m_v rfl rfl ?_;refine tr_val (rk_lss (.of rfl) (.of rfl)) rfl ?_;refine m_v rfl rfl ?_;refine v_g rfl rfl rfl rfl ?_;refine tr_vG1 rfl rfl inferInstance (fun hg hgp=>(rk_gtr (.ofg hg rfl) (.of rfl))) rfl ?_;refine tr_val (rk_pick_or (.of rfl) rfl) rfl ?_;refine a_s rfl rfl ?_;refine n_t ?_;refine tr_ret ?_;refine tr_retE rfl (ends1 rfl rfl) ?_)
  rfl
theorem idxS_c (s:ByteArray) (hs:s.size ≤ 1000000000) (w:World):GivesV Tryz.prog 125 [.string s,.func (.func 85) #[] #[],.bool true] w (.int .i64 (badI s)):=by
  refine givesV_of_tr Tryz.func125 rfl rfl ?_
  (refine s_r ?_;refine a_s rfl rfl ?_;refine n_t ?_;refine tr_seq ?_;refine s_r ?_;refine m_v rfl rfl ?_;refine tr_new (rk_rangeS (.of rfl)) rfl (fun _ _=>?_);refine n_t ?_;refine tr_block ?_)
  rename_i b hb
  refine tr_for (ι:=Nat) (fun p=>p ≤ s.size ∧ ∀ i,i < p → badB (bt s i) = false) (fun p=>[(10,.pointer (some ⟨b,0,none⟩)),(1,.func (.func 85) #[] #[]),(2,.bool true)]) (fun p=>[blk b (.stringIter s p)]) (fun p=>s.size - p) ?_ ?_
  · apply tr_start (0:Nat) ⟨Nat.zero_le _,fun i hi=>absurd hi (by omega)⟩
    case hs1=>exact .cons rfl (.cons rfl (.cons rfl .nil))
    case ht=>(try simp only [List.take_zero,List.map_nil,List.nil_append]);exact .cons .here .nil
  rintro p ⟨hp,hf⟩
  by_cases hlt:p < s.size
  · have hd:=decode_bt hlt
    have hbd:badB (bt s p) = badR ((Utf8.decode s p).1:Int):=by
      unfold badB badR
      rcases hd with ⟨h1,h2,_⟩ | ⟨h1,h2,_⟩
      · rw [h2]
      · rw [Bool.eq_iff_iff]
        simp only [Bool.or_eq_true,decide_eq_true_eq]
        omega
    (refine s_r ?_;refine tr_nextS (.of rfl) .here rfl (fun hlt=>?_) (fun hlt=>(by omega));refine tr_val (rk_extract (.of rfl) rfl) rfl ?_;refine n_t ?_;refine tr_seq ?_;refine tr_cond_t (.of rfl) ?_;refine s_t ?_;refine tr_block ?_;refine s_r ?_;refine tr_val (rk_extract (.of rfl) rfl) rfl ?_;refine tr_val (rk_extract (.of rfl) rfl) rfl ?_;refine a_s rfl rfl ?_;refine a_s rfl rfl ?_;refine n_r ?_;refine m_v rfl rfl ?_;refine m_v rfl rfl ?_;refine tr_callV (rk_call (.of rfl) (.cons (.of rfl) .nil) inferInstance normc_) rfl (fun w' hm'=>(chk1_c _ w')) ?_;refine m_v rfl rfl ?_)
    refine tr_val (rk_eqlBo (.of rfl) (.of rfl)) rfl ?_
    (refine n_t ?_;refine c_d rfl (fun hcd=>?_) (fun hcd=>?_);refine s_r ?_;refine m_v rfl rfl ?_;refine a_s rfl rfl ?_;refine n_t ?_;refine tr_ret ?_;refine tr_blk_ret ?_;refine tr_then_ret ?_;refine tr_blk_ret ?_;refine tr_then_ret ?_;refine tr_retE rfl (ends1 rfl rfl) ?_;rotate_left;refine tr_skip ?_;refine tr_blk_normal ?_;refine tr_then ?_;rotate_right)
    · have hb:badB (bt s p) = true:=by rw [hbd];simpa using hcd
      rw [badI_at hf hlt hb]
    · have hb:badB (bt s p) = false:=by rw [hbd];simpa using hcd
      have hw:(Utf8.decode s p).2 = 1:=by
        rcases hd with ⟨_,_,h⟩ | ⟨_,h,_⟩
        · exact h
        · exfalso
          rw [hbd] at hb
          unfold badR at hb
          simp at hb
          omega
      rw [hw]
      apply tr_next (p + 1) ⟨(show p + 1 ≤ s.size from hlt),fun i hi=>by
        by_cases e:i = p
        · rw [e];exact hb
        · exact hf i (by omega)⟩ (show s.size - (p + 1) < s.size - p by omega)
      case hs1=>exact .cons rfl (.cons rfl (.cons rfl .nil))
      case ht=>(try simp only [List.take_zero,List.map_nil,List.nil_append]);exact .cons .here .nil
  · obtain rfl:p = s.size:=by omega
    (refine s_r ?_;refine tr_nextS (.of rfl) .here rfl (fun hlt=>(by omega)) (fun hlt=>?_);refine tr_val (rk_extract (.of rfl) rfl) rfl ?_;refine n_t ?_;refine tr_seq ?_;refine tr_cond_f (.of rfl) ?_;refine x_t ?_;refine tr_then_exit ?_;refine tr_blk_exit ?_;refine tr_then ?_;refine s_r ?_;refine a_s rfl rfl ?_;refine n_t ?_;refine tr_ret ?_;refine tr_retE rfl (ends1 rfl rfl) ?_)
    rw [badI_no hf]
theorem idxF_c (s:ByteArray) (hs:s.size ≤ 1000000000) (w:World):GivesV Tryz.prog 102 [.string s,.func (.func 85) #[] #[]] w (.int .i64 (badI s)):=by
  refine givesV_of_tr Tryz.func102 rfl rfl ?_
  (refine s_r ?_;refine a_s rfl rfl ?_;refine n_r ?_;refine m_v rfl rfl ?_;refine m_v rfl rfl ?_;refine tr_callV (rk_call (.of rfl) (.cons (.of rfl) (.cons (.of rfl) (.cons (.of rfl) .nil))) inferInstance normc_) rfl (fun w' hm'=>(idxS_c s hs w')) ?_;refine a_s rfl rfl ?_;refine n_t ?_;refine tr_ret ?_;refine tr_retE rfl (ends1 rfl rfl) ?_)
  rfl
theorem hasF_c (s:ByteArray) (hs:s.size ≤ 1000000000) (w:World):GivesV Tryz.prog 84 [.string s,.func (.func 85) #[] #[]] w (.bool (badTx s)):=by
  rw [← badI_tx]
  refine givesV_of_tr Tryz.func84 rfl rfl ?_
  (refine s_r ?_;refine a_s rfl rfl ?_;refine n_r ?_;refine m_v rfl rfl ?_;refine m_v rfl rfl ?_;refine tr_callV (rk_call (.of rfl) (.cons (.of rfl) (.cons (.of rfl) .nil)) inferInstance normc_) rfl (fun w' hm'=>(idxF_c s hs w')) ?_;refine tr_val (rk_geq (.of rfl) (.of rfl)) rfl ?_;refine a_s rfl rfl ?_;refine n_t ?_;refine tr_ret ?_;refine tr_retE rfl (ends1 rfl rfl) ?_)
  rfl
theorem meet_c (a b c d:Int) (w:World):GivesV Tryz.prog 87 [.agg #[.int .i64 a,.int .i64 b],.agg #[.int .i64 c,.int .i64 d]] w (.bool (decide (max a c < min b d))):=by
  refine givesV_of_tr Tryz.func87 rfl rfl ?_
  (refine s_r ?_;refine tr_new (rk_box (.of rfl) rfl) rfl (fun _ _=>?_);refine tr_new (rk_box (.of rfl) rfl) rfl (fun _ _=>?_);refine a_s rfl rfl ?_;refine n_r ?_;refine f_a rfl rfl norm0_ ?_;refine tr_val (rk_load1 (.of rfl) (At.lit (.there .here) rfl)) rfl ?_;refine f_a rfl rfl norm0_ ?_;refine tr_val (rk_load1 (.of rfl) (At.lit .here rfl)) rfl ?_;refine tr_val (rk_max2 (.of rfl) (.of rfl)) rfl ?_;refine f_a rfl rfl norm0_ ?_;refine tr_val (rk_load1 (.of rfl) (At.lit (.there .here) rfl)) rfl ?_;refine f_a rfl rfl norm0_ ?_;refine tr_val (rk_load1 (.of rfl) (At.lit .here rfl)) rfl ?_;refine tr_val (rk_min2 (.of rfl) (.of rfl)) rfl ?_;refine tr_val (rk_lss (.of rfl) (.of rfl)) rfl ?_;refine a_s rfl rfl ?_;refine n_t ?_;refine tr_ret ?_;refine tr_retE rfl (ends1 rfl rfl) ?_)
  rfl
end Go.Proofs.A1
namespace Go.Proofs.A1
open Go Go.SL
def endW (x:Cp):Int:=IntKind.i64.wrap (x.co + (x.tx.size:Int))
def cflw (a b:Cp):Bool:=decide (a.rw = b.rw) && (decide (max a.fr b.fr < min a.to b.to) && decide (max a.co b.co < min (endW a) (endW b)))
theorem endW_ok {x:Cp} (h:CpOk x):endW x = x.co + (x.tx.size:Int):=by
  have h1:=h.co;have h2:=h.fit;have h3:=h.ne
  exact i64w (by omega)
theorem cflw_ok {a b:Cp} (ha:CpOk a) (hb:CpOk b):cflw a b = cfl a b:=by
  unfold cflw cfl;rw [endW_ok ha,endW_ok hb]
theorem colsw_c (x:Cp) (w:World):GivesV Tryz.prog 88 [.agg x.cells.toArray] w (.agg #[.int .i64 x.co,.int .i64 (endW x)]):=by
  unfold Cp.cells endW
  refine givesV_of_tr Tryz.func88 rfl rfl ?_
  (refine s_r ?_;refine tr_new (rk_box (.of rfl) rfl) rfl (fun _ _=>?_);refine tr_new (rk_alloc rfl) rfl (fun _ _=>?_);refine n_r ?_;refine f_a rfl rfl norm0_ ?_;refine tr_val (rk_load1 (.of rfl) (At.lit (.there .here) rfl)) rfl ?_;refine f_a rfl rfl norm0_ ?_;refine tr_val (rk_load1 (.of rfl) (At.lit (.there .here) rfl)) rfl ?_;refine f_a rfl rfl norm0_ ?_;refine tr_val (rk_load1 (.of rfl) (At.lit (.there .here) rfl)) rfl ?_;refine tr_val (rk_len_string (.of rfl)) rfl ?_)
  refine tr_val (rk_addw (.of rfl) (.of rfl)) rfl ?_
  (refine tr_val (rk_buildL (.cons (.of rfl) (.cons (.of rfl) .nil)) norm_) rfl ?_;refine tr_store (.of rfl) (.of rfl) .here rfl rfl (okc_cons rfl (okc_cons rfl okc_nil)) (lenb rfl) norm_ ?_;refine n_t ?_;refine tr_ret ?_;refine tr_retE rfl (ends1cB rfl inferInstance rfl .here norm_ (by rfl)) ?_)
  rfl
theorem conf_c (x y:Cp) (w:World):GivesV Tryz.prog 57 [.agg x.cells.toArray,.agg y.cells.toArray] w (.bool (cflw x y)):=by
  have hca:∀ w,GivesV Tryz.prog 88 [.agg #[.int .i64 x.fr,.int .i64 x.to,.int .i64 x.rw,.int .i64 x.co,.string x.tx]] w (.agg #[.int .i64 x.co,.int .i64 (endW x)]):=fun w=>colsw_c x w
  have hcb:∀ w,GivesV Tryz.prog 88 [.agg #[.int .i64 y.fr,.int .i64 y.to,.int .i64 y.rw,.int .i64 y.co,.string y.tx]] w (.agg #[.int .i64 y.co,.int .i64 (endW y)]):=fun w=>colsw_c y w
  unfold cflw Cp.cells
  refine givesV_of_tr Tryz.func57 rfl rfl ?_
  (refine s_r ?_;refine tr_new (rk_box (.of rfl) rfl) rfl (fun _ _=>?_);refine tr_new (rk_box (.of rfl) rfl) rfl (fun _ _=>?_);refine a_s rfl rfl ?_;refine n_t ?_;refine tr_seq ?_)
  with_reducible refine tr_draw 20 (by kernel_rfl) ?_
  (refine a_f rfl rfl norm0_ ?_;refine any_val (rk_load1 (.of rfl) (At.lit (.there .here) rfl)) rfl ?_;refine a_f rfl rfl norm0_ ?_;refine any_val (rk_load1 (.of rfl) (At.lit .here rfl)) rfl ?_;refine any_val (rk_eql (.of rfl) (.of rfl)) rfl ?_;refine a_m rfl rfl ?_;refine any_vG1 rfl rfl inferInstance (fun hg hgp=>(rk_fieldAddr (.of rfl) norm0_)) rfl ?_;refine any_vG1 rfl rfl inferInstance (fun hg hgp=>(rk_loadB (.ofg hg rfl) (.there .here) norm_ (by rfl))) rfl ?_;refine any_vG1 rfl rfl inferInstance (fun hg hgp=>(rk_fieldAddr (.of rfl) norm0_)) rfl ?_;refine any_vG1 rfl rfl inferInstance (fun hg hgp=>(rk_loadB (.ofg hg rfl) .here norm_ (by rfl))) rfl ?_;refine any_callG1 rfl rfl (fun hg=>(rk_call (.of rfl) (.cons (.ofg hg rfl) (.cons (.ofg hg rfl) .nil)) inferInstance normc_)) rfl (fun hg w' hm'=>(meet_c _ _ _ _ w')) ?_;refine any_val (rk_pick_and (.of rfl) rfl) rfl ?_;refine a_m rfl rfl ?_;refine any_vG1 rfl rfl inferInstance (fun hg hgp=>(rk_loadB (.of rfl) (.there .here) norm_ (by rfl))) rfl ?_;refine any_callG1 rfl rfl (fun hg=>(rk_call (.of rfl) (.cons (.ofg hg rfl) .nil) inferInstance normc_)) rfl (fun hg w' hm'=>(hca w')) ?_;refine any_vG1 rfl rfl inferInstance (fun hg hgp=>(rk_loadB (.of rfl) .here norm_ (by rfl))) rfl ?_;refine any_callG1 rfl rfl (fun hg=>(rk_call (.of rfl) (.cons (.ofg hg rfl) .nil) inferInstance normc_)) rfl (fun hg w' hm'=>(hcb w')) ?_;refine any_callG1 rfl rfl (fun hg=>(rk_call (.of rfl) (.cons (.ofg hg rfl) (.cons (.ofg hg rfl) .nil)) inferInstance normc_)) rfl (fun hg w' hm'=>(meet_c _ _ _ _ w')) ?_;refine any_val (rk_pick_and (.of rfl) rfl) rfl ?_;refine any_val (rk_assign (.of rfl)) rfl ?_)
  with_reducible refine any_end ?_
  (refine n_t ?_;refine tr_ret ?_;refine tr_retE rfl (ends1 rfl rfl) ?_)
  rw [Bool.and_assoc]
theorem cpE_w (x:Cp) (hs:x.tx.size ≤ 1000000000):firstF [whenF (decide (x.fr < 0) || decide (x.to ≤ x.fr) || decide (10000000 < x.to)) 14,withinF x.rw 0 7,withinF x.co 0 31,whenF (decide (x.tx = ⟨#[]⟩)) 12,whenF (decide (32 < endW x)) 26,whenF (badTx x.tx) 1] = cpE x:=by
  unfold cpE
  rw [Bool.or_assoc]
  have e1:decide (x.tx = ⟨#[]⟩) = decide (x.tx.size = 0):=by rw [decide_eq_decide];exact ne_empty.symm
  rw [e1]
  by_cases h2:withinF x.co 0 31 = 0
  · by_cases h3:x.tx.size = 0
    · rw [decide_eq_true h3]
      simp only [firstF,whenF,cond_true]
      simp
    · have:=withinF_zero.1 h2
      have e:endW x = x.co + (x.tx.size:Int):=i64w (by omega)
      rw [e]
  · simp only [firstF]
    simp [h2]
theorem check_c (x:Cp) (hs:x.tx.size ≤ 1000000000) (w:World):GivesV Tryz.prog 54 [.agg x.cells.toArray] w (.int .i64 (cpE x)):=by
  unfold Cp.cells
  refine givesV_of_tr Tryz.func54 rfl rfl ?_
  (refine s_r ?_;refine tr_new (rk_box (.of rfl) rfl) rfl (fun _ _=>?_);refine a_s rfl rfl ?_;refine n_r ?_;refine f_a rfl rfl norm0_ ?_;refine tr_val (rk_loadB (.of rfl) .here norm_ (by rfl)) rfl ?_;refine tr_new (rk_alloc rfl) rfl (fun _ _=>?_);refine tr_store (.of rfl) (.of rfl) .here rfl rfl (okc_cons rfl (okc_cons rfl okc_nil)) (lenb rfl) norm_ ?_;refine n_r ?_;refine f_a rfl rfl norm0_ ?_;refine tr_val (rk_load1 (.of rfl) (At.lit (.there .here) rfl)) rfl ?_;refine tr_callV (rk_call (.of rfl) (.cons (.of rfl) (.cons (.of rfl) .nil)) inferInstance normc_) rfl (fun w' hm'=>(hasF_c _ hs w')) ?_;refine a_s rfl rfl ?_;refine n_t ?_;refine tr_seq ?_)
  with_reducible refine tr_drawO 37 (by kernel_rfl) ?_
  (refine ao_val (rk_fieldAddr (.of rfl) norm0_) rfl ?_;refine ao_val (rk_load1 (.of rfl) (At.lit .here rfl)) rfl ?_;refine ao_val (rk_lss (.of rfl) (.of rfl)) rfl ?_;refine ao_val (rk_move (.of rfl)) rfl ?_;refine ao_vG1 rfl rfl inferInstance (fun hg hgp=>(rk_fieldAddr (.of rfl) norm0_)) rfl ?_;refine ao_vG1 rfl rfl inferInstance (fun hg hgp=>(rk_load1 (.ofg hg rfl) (At.lit .here rfl))) rfl ?_;refine ao_vG1 rfl rfl inferInstance (fun hg hgp=>(rk_fieldAddr (.of rfl) norm0_)) rfl ?_;refine ao_vG1 rfl rfl inferInstance (fun hg hgp=>(rk_load1 (.ofg hg rfl) (At.lit .here rfl))) rfl ?_;refine ao_vG1 rfl rfl inferInstance (fun hg hgp=>(rk_geq (.ofg hg rfl) (.ofg hg rfl))) rfl ?_;refine ao_val (rk_pick_or (.of rfl) rfl) rfl ?_;refine ao_val (rk_move (.of rfl)) rfl ?_;refine ao_vG1 rfl rfl inferInstance (fun hg hgp=>(rk_fieldAddr (.of rfl) norm0_)) rfl ?_;refine ao_vG1 rfl rfl inferInstance (fun hg hgp=>(rk_load1 (.ofg hg rfl) (At.lit .here rfl))) rfl ?_;refine ao_vG1 rfl rfl inferInstance (fun hg hgp=>(rk_gtr (.ofg hg rfl) (.of rfl))) rfl ?_;refine ao_val (rk_pick_or (.of rfl) rfl) rfl ?_;refine ao_call (rk_call (.of rfl) (.cons (.of rfl) (.cons (.of rfl) .nil)) inferInstance normc_) rfl (fun w' hm'=>(when_c _ 14 w')) ?_;refine ao_val (rk_fieldAddr (.of rfl) norm0_) rfl ?_;refine ao_val (rk_load1 (.of rfl) (At.lit (.there .here) rfl)) rfl ?_;refine ao_call (rk_call (.of rfl) (.cons (.of rfl) (.cons (.of rfl) (.cons (.of rfl) .nil))) inferInstance normc_) rfl (fun w' hm'=>(within_c _ 0 7 w')) ?_;refine ao_val (rk_fieldAddr (.of rfl) norm0_) rfl ?_;refine ao_val (rk_load1 (.of rfl) (At.lit (.there .here) rfl)) rfl ?_;refine ao_call (rk_call (.of rfl) (.cons (.of rfl) (.cons (.of rfl) (.cons (.of rfl) .nil))) inferInstance normc_) rfl (fun w' hm'=>(within_c _ 0 31 w')) ?_;refine ao_val (rk_fieldAddr (.of rfl) norm0_) rfl ?_;refine ao_val (rk_load1 (.of rfl) (At.lit (.there .here) rfl)) rfl ?_;refine ao_val (rk_eqls (.of rfl) (.of rfl)) rfl ?_;refine ao_call (rk_call (.of rfl) (.cons (.of rfl) (.cons (.of rfl) .nil)) inferInstance normc_) rfl (fun w' hm'=>(when_c _ 12 w')) ?_;refine ao_val (rk_fieldAddr (.of rfl) norm0_) rfl ?_;refine ao_val (rk_load1 (.of rfl) (At.lit (.there .here) rfl)) rfl ?_;refine ao_val (rk_fieldAddr (.of rfl) norm0_) rfl ?_;refine ao_val (rk_load1 (.of rfl) (At.lit (.there .here) rfl)) rfl ?_;refine ao_val (rk_len_string (.of rfl)) rfl ?_)
  refine ao_val (rk_addw (.of rfl) (.of rfl)) rfl ?_
  (refine ao_val (rk_gtr (.of rfl) (.of rfl)) rfl ?_;refine ao_call (rk_call (.of rfl) (.cons (.of rfl) (.cons (.of rfl) .nil)) inferInstance normc_) rfl (fun w' hm'=>(when_c _ 26 w')) ?_;refine ao_val (rk_move (.of rfl)) rfl ?_;refine ao_call (rk_call (.of rfl) (.cons (.of rfl) (.cons (.of rfl) .nil)) inferInstance normc_) rfl (fun w' hm'=>(when_c _ 1 w')) ?_;refine ao_new (rk_sliceLit (.cons (.of rfl) (.cons (.of rfl) (.cons (.of rfl) (.cons (.of rfl) (.cons (.of rfl) (.cons (.of rfl) .nil)))))) rfl rfl rfl rfl) rfl rfl ?_)
  with_reducible refine ao_end1 rfl fun bq hbq=>?_
  (refine tr_callV (rk_call (.of rfl) (.cons (.of rfl) .nil) inferInstance normc_) rfl (fun w' hm'=>(first_pB (Mem.rdBlk hm' .here rfl rfl) (IntL.cons (IntL.cons (IntL.cons (IntL.cons (IntL.cons (IntL.cons IntL.nil)))))))) ?_;refine a_s rfl rfl ?_;refine n_t ?_;refine tr_ret ?_;refine tr_retE rfl (ends1 rfl rfl) ?_)
  rw [← cpE_w x hs];rfl
theorem idxC_c {lv:Value} {l:List Cp} (x:Cp) {w:World} (h:Rd w lv 5 (cps l)) :
    GivesV Tryz.prog 86 [lv,.func (.func 57) #[.agg x.cells.toArray] #[]] w (.int .i64 (idxG (cflw x) l)):=by
  obtain ⟨a,cp,b,o,rfl,hcap,hmax,ha,hc⟩:=h
  rw [cps_length] at *
  unfold maxLen at hmax
  refine givesV_of_tr Tryz.func86 rfl rfl ?_
  (refine s_r ?_;refine a_s rfl rfl ?_;refine n_t ?_;refine tr_seq ?_;refine s_r ?_;refine m_v rfl rfl ?_;refine tr_val (rk_len_slice (.of rfl)) rfl ?_;refine m_v rfl rfl ?_;refine n_t ?_;refine tr_block ?_)
  refine tr_for (fun k:Nat=>k ≤ l.length ∧ ∀ i,i < k → (l[i]?.map (cflw x)).getD false = false) (fun k=>[(8,.int .i64 k),(7,.int .i64 l.length),(0,.slice a l.length cp),(1,.func (.func 57) #[.agg x.cells.toArray] #[])]) (fun _=>[]) (fun k=>l.length - k) ?_ ?_
  · apply tr_start 0 ⟨Nat.zero_le _,fun i h=>by omega⟩
    case hs1=>exact .cons rfl (.cons rfl (.cons rfl (.cons rfl .nil)))
    case ht=>(try simp only [List.take_zero,List.map_nil,List.nil_append]);exact .nil
  rintro k ⟨hk,hf⟩
  by_cases hlt:k < l.length
  · have ha':=ha (cps_ne hlt)
    have hcell:=(hc k _ (cps_get hlt)).2
    have hps:(l[k]?.map (cflw x)).getD false = cflw x l[k]:=by simp [hlt]
    have hcl:∀ w,GivesV Tryz.prog 57 [.agg x.cells.toArray,.agg (l[k]).cells.toArray] w (.bool (cflw x l[k])):=fun w=>conf_c x l[k] w
    unfold Cp.cells at hcell hcl
    unfold Cp.cells
    (refine s_r ?_;refine tr_val (rk_lss (.of rfl) (.of rfl)) rfl ?_;refine n_t ?_;refine tr_seq ?_;refine c_d rfl (fun hcd=>?_) (fun _=>by omega);refine s_t ?_;refine tr_seq ?_;refine tr_block ?_;refine s_r ?_;refine m_v rfl rfl ?_;refine a_s rfl rfl ?_;refine n_r ?_;refine m_v rfl rfl ?_;refine m_v rfl rfl ?_;refine m_v rfl rfl ?_;refine tr_val (rk_indexAddr (.of rfl) (.of rfl) ha' (by omega) hcd norm1_) rfl ?_;refine tr_val (rk_loadN (.of rfl) (Ats.base hcell rfl) rfl) rfl ?_;refine tr_callV (rk_call (.of rfl) (.cons (.of rfl) .nil) inferInstance normc_) rfl (fun w' hm'=>(hcl w')) ?_;refine n_t ?_;refine c_b rfl (fun hcd=>?_) (fun hcd=>?_);refine s_r ?_;refine m_v rfl rfl ?_;refine a_s rfl rfl ?_;refine n_t ?_;refine tr_ret ?_;refine tr_blk_ret ?_;refine tr_then_ret ?_;refine tr_then_ret ?_;refine tr_blk_ret ?_;refine tr_then_ret ?_;refine tr_retE rfl (ends1 rfl rfl) ?_;rotate_left;refine tr_skip ?_;refine tr_blk_normal ?_;refine tr_then ?_;refine tr_region ?_;refine tr_val (rk_add (.of rfl) (.of rfl) (ini (by omega))) rfl ?_;refine m_v rfl rfl ?_;refine n_t ?_;rotate_right)
    · rw [idxG_at hf hlt hcd]
    · apply tr_next (k + 1) ⟨by omega,fun i hi=>by
        by_cases e:i = k
        · rw [e,hps];simpa using hcd
        · exact hf i (by omega)⟩ (by omega)
      case hs1=>exact .cons rfl (.cons rfl (.cons rfl (.cons rfl .nil)))
      case ht=>(try simp only [List.take_zero,List.map_nil,List.nil_append]);exact .nil
  · obtain rfl:k = l.length:=by omega
    (refine s_r ?_;refine tr_val (rk_lss (.of rfl) (.of rfl)) rfl ?_;refine n_t ?_;refine tr_seq ?_;refine c_d rfl (fun _=>by omega) (fun hcd=>?_);refine x_t ?_;refine tr_then_exit ?_;refine tr_blk_exit ?_;refine tr_then ?_;refine s_r ?_;refine a_s rfl rfl ?_;refine n_t ?_;refine tr_ret ?_;refine tr_retE rfl (ends1 rfl rfl) ?_)
    rw [idxG_none hf]
theorem hasC_c {lv:Value} {l:List Cp} (x:Cp) {w:World} (h:Rd w lv 5 (cps l)) :
    GivesV Tryz.prog 56 [lv,.func (.func 57) #[.agg x.cells.toArray] #[]] w (.bool (l.any (cflw x))):=by
  have hcl:∀ w',Keeps [] w w' → GivesV Tryz.prog 86 [lv,.func (.func 57) #[.agg x.cells.toArray] #[]] w' (.int .i64 (idxG (cflw x) l)):=fun w' hk=>idxC_c x (h.keeps hk)
  rw [← idxG_any]
  refine givesV_of_tr Tryz.func56 rfl rfl ?_
  (refine s_r ?_;refine a_s rfl rfl ?_;refine n_r ?_;refine m_v rfl rfl ?_;refine m_v rfl rfl ?_;refine tr_callV (rk_call (.of rfl) (.cons (.of rfl) (.cons (.of rfl) .nil)) inferInstance normc_) rfl (fun w' hm'=>(hcl w' (Mem.keeps hm'))) ?_;refine tr_val (rk_geq (.of rfl) (.of rfl)) rfl ?_;refine a_s rfl rfl ?_;refine n_t ?_;refine tr_ret ?_;refine tr_retE rfl (ends1 rfl rfl) ?_)
  rfl
end Go.Proofs.A1
namespace Go.Proofs.A1
open Go Go.SL
def atW (l:List Cp) (k:Nat):Int:=firstF [cpE (nthC l k),whenF ((l.take k).any (cflw (nthC l k))) 24]
theorem cpAt_ok {l:List Cp} {k:Nat} (h:cpAt l k = 0):CpOk (nthC l k):=by
  unfold cpAt at h
  exact cpE_zero.1 (firstF_zero.1 h (cpE (nthC l k)) (by simp))
theorem any_same {α:Type} {p q:α → Bool} {l:List α} (h:∀ x ∈ l,p x = q x):l.any p = l.any q:=by
  induction l with
  | nil=>rfl
  | cons x l ih=>rw [List.any_cons,List.any_cons,h x (by simp),ih fun y hy=>h y (by simp [hy])]
theorem atW_eq {l:List Cp} {k:Nat} (hk:k < l.length) (h:∀ i,i < k → cpAt l i = 0):atW l k = cpAt l k:=by
  unfold atW cpAt
  by_cases h0:cpE (nthC l k) = 0
  · have hc:=cpE_zero.1 h0
    have:(l.take k).any (cflw (nthC l k)) = (l.take k).any (cfl (nthC l k)):=any_same fun y hy=>by
      obtain ⟨i,hi,rfl⟩:=List.getElem_of_mem hy
      rw [List.length_take] at hi
      have:=cpAt_ok (h i (by omega))
      rw [nthC_get (by omega)] at this
      rw [List.getElem_take]
      exact cflw_ok hc this
    rw [this]
  · simp [firstF,h0]
theorem chkCaps_c {lv:Value} {l:List Cp} {w:World} (h:Rd w lv 5 (cps l)) (hs:∀ x ∈ l,x.tx.size ≤ 1000000000):GivesV Tryz.prog 21 [lv] w (.int .i64 (capE l)):=by
  have h1':=h
  obtain ⟨a,cp,b,o,rfl,hcap,hmax,ha,hc⟩:=h1'
  rw [cps_length] at *
  unfold maxLen at hmax
  refine givesV_of_tr Tryz.func21 rfl rfl ?_
  unfold capE
  (refine s_r ?_;refine a_s rfl rfl ?_;refine n_t ?_;refine tr_seq ?_;refine s_r ?_;refine m_v rfl rfl ?_;refine tr_val (rk_len_slice (.of rfl)) rfl ?_;refine tr_val (rk_gtr (.of rfl) (.of rfl)) rfl ?_;refine n_t ?_;refine c_d rfl (fun hcd=>?_) (fun hcd=>?_);refine s_r ?_;refine a_s rfl rfl ?_;refine n_t ?_;refine r_t ?_;refine tr_retE rfl (ends1 rfl rfl) ?_;rotate_left;refine s_t ?_;refine tr_seq ?_;refine s_r ?_;refine m_v rfl rfl ?_;refine tr_val (rk_len_slice (.of rfl)) rfl ?_;refine m_v rfl rfl ?_;refine n_t ?_;refine tr_block ?_;rotate_right)
  · rw [if_pos (by omega)]
  rw [if_neg (by omega)]
  refine tr_for (fun k:Nat=>k ≤ l.length ∧ ∀ i,i < k → cpAt l i = 0) (fun k=>[(11,.int .i64 k),(10,.int .i64 l.length),(9,.slice a l.length cp),(0,.slice a l.length cp)]) (fun _=>[]) (fun k=>l.length - k) ?_ ?_
  · apply tr_start 0 ⟨Nat.zero_le _,fun i h=>by omega⟩
    case hs1=>exact .cons rfl (.cons rfl (.cons rfl (.cons rfl .nil)))
    case ht=>(try simp only [List.take_zero,List.map_nil,List.nil_append]);exact .nil
  rintro k ⟨hk,hf⟩
  by_cases hlt:k < l.length
  · have ha':=ha (cps_ne hlt)
    subst ha'
    have hcell:=(hc k _ (cps_get hlt)).2
    have hat:=atW_eq hlt hf
    unfold atW at hat
    have hsl:=(h.sliced (l:=0) (m:=k) (by omega) (by omega))
    rw [List.drop_zero,show (cps l).take k = cps (l.take k) by unfold cps;rw [List.map_take]] at hsl
    rw [nthC_get hlt] at hat
    have hck:∀ w,GivesV Tryz.prog 54 [.agg (l[k]).cells.toArray] w (.int .i64 (cpE l[k])):=fun w=>check_c _ (hs _ (List.getElem_mem hlt)) w
    have hcc:∀ w',Keeps [] w w' → GivesV Tryz.prog 56 [sliced (some ⟨b,o,none⟩) 0 ((k:Nat):Int).toNat cp 5,.func (.func 57) #[.agg (l[k]).cells.toArray] #[]] w' (.bool ((l.take k).any (cflw l[k]))):=fun w' hk=>hasC_c _ (hsl.keeps hk)
    generalize hE:cpAt l k = E at hat
    generalize l[k] = x at hcell hck hcc hat
    unfold Cp.cells at hcell hck hcc
    (refine s_r ?_;refine tr_val (rk_lss (.of rfl) (.of rfl)) rfl ?_;refine n_t ?_;refine tr_seq ?_;refine c_d rfl (fun hcd=>?_) (fun _=>by omega);refine s_t ?_;refine tr_seq ?_;refine tr_block ?_;refine s_r ?_;refine m_v rfl rfl ?_;refine tr_val (rk_indexAddr (.of rfl) (.of rfl) rfl (by omega) hcd norm1_) rfl ?_;refine tr_val (rk_loadN (.of rfl) (Ats.base hcell rfl) rfl) rfl ?_;refine tr_new (rk_alloc rfl) rfl (fun _ _=>?_);refine a_s rfl rfl ?_;refine tr_store (.of rfl) (.of rfl) .here rfl rfl (okc_cons rfl (okc_cons rfl (okc_cons rfl (okc_cons rfl (okc_cons rfl okc_nil))))) (lenb rfl) norm_ ?_;refine n_t ?_;refine tr_seq ?_)
    with_reducible refine tr_drawO 10 (by kernel_rfl) ?_
    (refine ao_val (rk_loadB (.of rfl) .here norm_ (by rfl)) rfl ?_;refine ao_call (rk_call (.of rfl) (.cons (.of rfl) .nil) inferInstance normc_) rfl (fun w' hm'=>(hck w')) ?_;refine ao_val (rk_move (.of rfl)) rfl ?_;refine ao_val (rk_move (.of rfl)) rfl ?_;refine ao_val (rk_slice_h (.of rfl) (.of rfl) (by omega) (by omega)) rfl ?_;refine ao_val (rk_loadB (.of rfl) .here norm_ (by rfl)) rfl ?_;refine ao_val (rk_makeFunc' (.cons (.of rfl) .nil) .nil) rfl ?_;refine ao_call (rk_call (.of rfl) (.cons (.of rfl) (.cons (.of rfl) .nil)) inferInstance normc_) rfl (fun w' hm'=>(hcc w' (Mem.keeps hm'))) ?_;refine ao_call (rk_call (.of rfl) (.cons (.of rfl) (.cons (.of rfl) .nil)) inferInstance normc_) rfl (fun w' hm'=>(when_c _ 24 w')) ?_;refine ao_new (rk_sliceLit (.cons (.of rfl) (.cons (.of rfl) .nil)) rfl rfl rfl rfl) rfl rfl ?_)
    with_reducible refine ao_end1 rfl fun bq hbq=>?_
    (refine tr_callV (rk_call (.of rfl) (.cons (.of rfl) .nil) inferInstance normc_) rfl (fun w' hm'=>(first_pB (Mem.rdBlk hm' .here rfl rfl) (IntL.cons (IntL.cons IntL.nil)))) ?_;refine a_s rfl rfl ?_;refine n_r ?_;refine m_v rfl rfl ?_;refine tr_val (rk_neq (.of rfl) (.of rfl)) rfl ?_;refine n_t ?_;refine c_d rfl (fun hcd=>?_) (fun hcd=>?_);refine s_r ?_;refine m_v rfl rfl ?_;refine a_s rfl rfl ?_;refine n_t ?_;refine tr_ret ?_;refine tr_blk_ret ?_;refine tr_then_ret ?_;refine tr_then_ret ?_;refine tr_blk_ret ?_;refine tr_then_ret ?_;refine tr_retE rfl (ends1 rfl rfl) ?_;rotate_left;refine tr_skip ?_;refine tr_blk_normal ?_;refine tr_then ?_;refine tr_region ?_;refine tr_val (rk_add (.of rfl) (.of rfl) (ini (by omega))) rfl ?_;refine m_v rfl rfl ?_;refine n_t ?_;rotate_right)
    · rw [hat] at hcd
      rw [hat,errE_bad (fun i hi=>hf i hi) hlt (by rw [hE];exact hcd),hE]
    · rw [hat] at hcd
      apply tr_next (k + 1) ⟨show k + 1 ≤ l.length from hlt,fun i hi=>by
        by_cases e:i = k
        · rw [e,hE];exact Decidable.not_not.1 hcd
        · exact hf i (by omega)⟩ (show l.length - (k + 1) < l.length - k by omega)
      case hs1=>exact .cons rfl (.cons rfl (.cons rfl (.cons rfl .nil)))
      case ht=>(try simp only [List.take_zero,List.map_nil,List.nil_append]);exact .nil
  · obtain rfl:k = l.length:=by omega
    (refine s_r ?_;refine tr_val (rk_lss (.of rfl) (.of rfl)) rfl ?_;refine n_t ?_;refine tr_seq ?_;refine c_d rfl (fun _=>by omega) (fun hcd=>?_);refine x_t ?_;refine tr_then_exit ?_;refine tr_blk_exit ?_;refine tr_then ?_;refine s_r ?_;refine a_s rfl rfl ?_;refine n_t ?_;refine tr_ret ?_;refine tr_retE rfl (ends1 rfl rfl) ?_)
    rw [errE_ok.2 hf]
end Go.Proofs.A1
namespace Go.Proofs.A1
open Go Go.SL
def fillV (k:Nat):List Value:=List.replicate k (.int .u8 32)++List.replicate (32 - k) (.int .u8 0)
theorem fillV_len {k:Nat} (h:k ≤ 32):(fillV k).length = 32:=by simp [fillV];omega
theorem fillV_set {k:Nat} (h:k < 32):setCells (fillV k) (k * 1) [.int .u8 32] = fillV (k + 1):=by
  show (fillV k).set (k * 1) (.int .u8 32) = _
  unfold fillV
  rw [Nat.mul_one,List.set_append_right _ _ (by simp),show 32 - k = (32 - (k + 1)) + 1 by omega,List.replicate_succ (n:=32 - (k + 1)),List.length_replicate,Nat.sub_self,List.set_cons_zero,List.replicate_succ',List.append_assoc]
  rfl
def outV (l:List Cp) (n:Int) (r:Nat):List Value:=(List.range 8).map fun (i:Nat)=>Value.string (if i < r then strB (rowB l n (i:Nat)) else ⟨#[]⟩)
theorem outV_len (l:List Cp) (n:Int) (r:Nat):(outV l n r).length = 8:=by unfold outV;rw [List.length_map,List.length_range]
theorem outV_set {l:List Cp} {n:Int} {r:Nat} (h:r < 8):setCells (outV l n r) (r * 1) [.string (strB (rowB l n (r:Nat)))] = outV l n (r + 1):=by
  show (outV l n r).set (r * 1) _ = _
  rw [Nat.mul_one]
  apply List.ext_getElem?
  intro i
  unfold outV
  rw [List.getElem?_set]
  by_cases hi:i < 8
  · by_cases e:r = i
    · subst e;simp [hi]
    · simp [hi,e]
      have:(i < r) ↔ (i < r + 1):=by omega
      simp [this]
  · rw [if_neg (by omega)]
    rw [List.getElem?_eq_none (by simp;omega),List.getElem?_eq_none (by simp;omega)]
theorem outV_8 (l:List Cp) (n:Int):outV l n 8 = (scrL l n).map Value.string:=by
  unfold outV scrL
  rw [List.map_map]
  apply List.map_congr_left
  intro i hi
  have:=List.mem_range.1 hi
  simp [this]
theorem line_sl {g:Nat} {co:Int} (h:0 ≤ co ∧ co ≤ 31):sliced (some ⟨g,0,none⟩) co.toNat 32 32 1 = .slice (some ⟨g,co.toNat,none⟩) (32 - co.toNat) (32 - co.toNat):=by
  simp [sliced,show ¬ (32:Nat) = co.toNat by omega,addr_add]
theorem cellsAt_all {cs:List Value} {n:Nat} (h:cs.length = n):cellsAt cs 0 n = cs:=by rw [cellsAt_eq,List.drop_zero,List.take_of_length_le (by omega)]
theorem onC_iff {x:Cp} {n r:Int}:onC x n r = true ↔ x.rw = r ∧ x.fr ≤ n ∧ n < x.to:=by unfold onC;simp
theorem scr_lit (l:List Cp) (n:Int):(scrL l n).map Value.string = [.string (strB (rowB l n 0)),.string (strB (rowB l n 1)),.string (strB (rowB l n 2)),.string (strB (rowB l n 3)),.string (strB (rowB l n 4)),.string (strB (rowB l n 5)),.string (strB (rowB l n 6)),.string (strB (rowB l n 7))]:=rfl
set_option maxHeartbeats 2000000 in
theorem shown_c {lv:Value} {l:List Cp} {n:Int} {w:World} (h:Rd w lv 5 (cps l)) (hk:CapOk l):GivesV Tryz.prog 61 [lv,.int .i64 n] w (.agg ((scrL l n).map Value.string).toArray):=by
  have h1':=h
  obtain ⟨a,cp,b,o,rfl,hcap,hmax,ha,hc⟩:=h1'
  rw [cps_length] at *
  unfold maxLen at hmax
  have hfew:=hk.few
  refine givesV_of_tr Tryz.func61 rfl rfl ?_
  (refine s_r ?_;refine tr_new (rk_alloc rfl) rfl (fun _ _=>?_);refine n_r ?_;refine tr_new (rk_alloc rfl) rfl (fun _ _=>?_);refine n_t ?_;refine tr_seq ?_;refine s_r ?_;refine m_v rfl rfl ?_;refine n_t ?_;refine tr_block ?_)
  rename_i b4 hb4 b5 hb5
  refine tr_for (fun r:Nat=>r ≤ 8) (fun r=>[(11,.int .i64 r),(5,.pointer (some ⟨b5,0,none⟩)),(4,.pointer (some ⟨b4,0,none⟩)),(0,.slice a l.length cp),(1,.int .i64 n)]) (fun r=>[blk b5 (.cells (outV l n r).toArray 90 (0,0)),blk b4 (.cells #[.string ⟨#[]⟩,.string ⟨#[]⟩,.string ⟨#[]⟩,.string ⟨#[]⟩,.string ⟨#[]⟩,.string ⟨#[]⟩,.string ⟨#[]⟩,.string ⟨#[]⟩] 90 (0,0))]) (fun r=>8 - r) ?_ ?_
  · apply tr_start 0 (by omega)
    case hs1=>exact .cons rfl (.cons rfl (.cons rfl (.cons rfl (.cons rfl .nil))))
    case ht=>
      show Takes _ [blk b5 (.cells #[.string ⟨#[]⟩,.string ⟨#[]⟩,.string ⟨#[]⟩,.string ⟨#[]⟩,.string ⟨#[]⟩,.string ⟨#[]⟩,.string ⟨#[]⟩,.string ⟨#[]⟩] 90 (0,0)),blk b4 (.cells #[.string ⟨#[]⟩,.string ⟨#[]⟩,.string ⟨#[]⟩,.string ⟨#[]⟩,.string ⟨#[]⟩,.string ⟨#[]⟩,.string ⟨#[]⟩,.string ⟨#[]⟩] 90 (0,0))] _
      exact .cons .here (.cons .here .nil)
  intro r hr
  by_cases hlt:r < 8
  · have hset:=outV_set (l:=l) (n:=n) hlt
    have hsl:r * 1 + 1 ≤ (outV l n r).length:=by rw [outV_len];omega
    (refine s_r ?_;refine tr_val (rk_lss (.of rfl) (.of rfl)) rfl ?_;refine n_t ?_;refine tr_seq ?_;refine c_d rfl (fun hcd=>?_) (fun _=>by omega);refine s_t ?_;refine tr_seq ?_;refine tr_block ?_;refine s_r ?_;refine m_v rfl rfl ?_;refine a_s rfl rfl ?_;refine n_r ?_)
    with_reducible apply tr_new
    case hr=>
      with_reducible apply rk_make (l:=32) (cp:=32)
      case hx=>exact Is.of rfl
      case hy=>exact Is.of rfl
      case hl=>omega
      case hb=>omega
      case hz=>rfl
      case hsz=>rfl
      case h63=>omega
    case hd=>rfl
    intro g hg
    rw [show (List.replicate 32 (Value.int .u8 0).cells.toList).flatten = fillV 0 from rfl]
    (refine a_s rfl rfl ?_;refine n_t ?_;refine tr_seq ?_;refine s_r ?_;refine m_v rfl rfl ?_;refine tr_val (rk_len_slice (.of rfl)) rfl ?_;refine m_v rfl rfl ?_;refine n_t ?_;refine tr_block ?_)
    refine tr_for (fun k:Nat=>k ≤ 32) (fun k=>[(17,.int .i64 k),(16,.int .i64 32),(7,.slice (some ⟨g,0,none⟩) 32 32),(6,.int .i64 (r:Nat)),(11,.int .i64 (r:Nat)),(5,.pointer (some ⟨b5,0,none⟩)),(4,.pointer (some ⟨b4,0,none⟩)),(0,.slice a l.length cp),(1,.int .i64 n)]) (fun k=>[blk g (.cells (fillV k).toArray 5 (0,0)),blk b5 (.cells (outV l n r).toArray 90 (0,0)),blk b4 (.cells #[.string ⟨#[]⟩,.string ⟨#[]⟩,.string ⟨#[]⟩,.string ⟨#[]⟩,.string ⟨#[]⟩,.string ⟨#[]⟩,.string ⟨#[]⟩,.string ⟨#[]⟩] 90 (0,0))]) (fun k=>32 - k) ?_ ?_
    · apply tr_start 0 (by omega)
      case hs1=>exact .cons rfl (.cons rfl (.cons rfl (.cons rfl (.cons rfl (.cons rfl (.cons rfl (.cons rfl (.cons rfl .nil))))))))
      case ht=>exact .cons .here (.cons .here (.cons .here .nil))
    intro k hk2
    by_cases hlk:k < 32
    · have hset2:=fillV_set hlk
      have hsl2:k * 1 + 1 ≤ (fillV k).length:=by rw [fillV_len hk2];omega
      (refine s_r ?_;refine tr_val (rk_lss (.of rfl) (.of rfl)) rfl ?_;refine n_t ?_;refine tr_seq ?_;refine c_d rfl (fun hcd=>?_) (fun _=>by omega);refine s_t ?_;refine tr_seq ?_;refine tr_block ?_;refine s_r ?_;refine m_v rfl rfl ?_;refine a_s rfl rfl ?_;refine n_t ?_;refine tr_region ?_;refine m_v rfl rfl ?_;refine m_v rfl rfl ?_;refine tr_val (rk_indexAddr (.of rfl) (.of rfl) rfl (by omega) hcd norm1_) rfl ?_;refine tr_store (.of rfl) (.of rfl) .here rfl rfl (okc_cons rfl okc_nil) hsl2 hset2 ?_;refine tr_nil ?_;refine tr_blk_normal ?_;refine tr_then ?_;refine tr_region ?_;refine tr_val (rk_add (.of rfl) (.of rfl) (ini (by omega))) rfl ?_;refine m_v rfl rfl ?_;refine n_t ?_)
      apply tr_next (k + 1) (show k + 1 ≤ 32 by omega) (by omega)
      case hs1=>exact .cons rfl (.cons rfl (.cons rfl (.cons rfl (.cons rfl (.cons rfl (.cons rfl (.cons rfl (.cons rfl .nil))))))))
      case ht=>exact .cons .here (.cons .here (.cons .here .nil))
    · obtain rfl:k = 32:=by omega
      rw [show fillV 32 = lineV l n (r:Nat) 0 from rfl]
      (refine s_r ?_;refine tr_val (rk_lss (.of rfl) (.of rfl)) rfl ?_;refine n_t ?_;refine tr_seq ?_;refine c_d rfl (fun _=>by omega) (fun hcd=>?_);refine x_t ?_;refine tr_then_exit ?_;refine tr_blk_exit ?_;refine tr_then ?_;refine tr_seq ?_;refine s_r ?_;refine m_v rfl rfl ?_;refine tr_val (rk_len_slice (.of rfl)) rfl ?_;refine m_v rfl rfl ?_;refine n_t ?_;refine tr_block ?_)
      refine tr_for (fun j:Nat=>j ≤ l.length) (fun j=>[(26,.int .i64 j),(25,.int .i64 l.length),(24,.slice a l.length cp),(7,.slice (some ⟨g,0,none⟩) 32 32),(6,.int .i64 (r:Nat)),(11,.int .i64 (r:Nat)),(5,.pointer (some ⟨b5,0,none⟩)),(4,.pointer (some ⟨b4,0,none⟩)),(0,.slice a l.length cp),(1,.int .i64 n)]) (fun j=>[blk g (.cells (lineV l n (r:Nat) j).toArray 5 (0,0)),blk b5 (.cells (outV l n r).toArray 90 (0,0)),blk b4 (.cells #[.string ⟨#[]⟩,.string ⟨#[]⟩,.string ⟨#[]⟩,.string ⟨#[]⟩,.string ⟨#[]⟩,.string ⟨#[]⟩,.string ⟨#[]⟩,.string ⟨#[]⟩] 90 (0,0))]) (fun j=>l.length - j) ?_ ?_
      · apply tr_start 0 (by omega)
        case hs1=>exact .cons rfl (.cons rfl (.cons rfl (.cons rfl (.cons rfl (.cons rfl (.cons rfl (.cons rfl (.cons rfl (.cons rfl .nil)))))))))
        case ht=>exact .cons .here (.cons .here (.cons .here .nil))
      intro j hj
      by_cases hlj:j < l.length
      · have ha':=ha (cps_ne hlj)
        subst ha'
        have hcell:=(hc j _ (cps_get hlj)).2
        have ho:=hk.ok j hlj
        have hskip:=line_skip (l:=l) (n:=n) (r:=(r:Nat)) hlj
        have hcopy:=line_copy (n:=n) (r:=(r:Nat)) hk hlj
        have hon:=onC_iff (x:=nthC l j) (n:=n) (r:=(r:Nat))
        have hll:=lineV_len l n (r:Nat) j
        rw [← nthC_get hlj] at hcell
        generalize nthC l j = x at hcell ho hskip hcopy hon
        unfold Cp.cells at hcell
        have hco:=ho.co
        have hfit:=ho.fit
        (refine s_r ?_;refine tr_val (rk_lss (.of rfl) (.of rfl)) rfl ?_;refine n_t ?_;refine tr_seq ?_;refine c_d rfl (fun hcd=>?_) (fun _=>by omega);refine s_t ?_;refine tr_seq ?_;refine tr_block ?_;refine s_r ?_;refine tr_val (rk_indexAddr (.of rfl) (.of rfl) rfl (by omega) hcd norm1_) rfl ?_;refine tr_val (rk_loadN (.of rfl) (Ats.base hcell rfl) rfl) rfl ?_;refine tr_new (rk_alloc rfl) rfl (fun _ _=>?_);refine tr_store (.of rfl) (.of rfl) .here rfl rfl (okc_cons rfl (okc_cons rfl (okc_cons rfl (okc_cons rfl (okc_cons rfl okc_nil))))) (lenb rfl) norm_ ?_;refine n_r ?_;refine f_a rfl rfl norm0_ ?_;refine tr_val (rk_load1 (.of rfl) (At.lit .here rfl)) rfl ?_;refine m_v rfl rfl ?_;refine tr_val (rk_eql (.of rfl) (.of rfl)) rfl ?_;refine m_v rfl rfl ?_;refine tr_vG1 rfl rfl inferInstance (fun hg hgp=>(rk_fieldAddr (.of rfl) norm0_)) rfl ?_;refine tr_vG1 rfl rfl inferInstance (fun hg hgp=>(rk_fieldAddr (.ofg hg rfl) norm0_)) rfl ?_;refine tr_vG1 rfl rfl inferInstance (fun hg hgp=>(rk_load1 (.ofg hg rfl) (At.lit .here rfl))) rfl ?_;refine v_g rfl rfl rfl rfl ?_;refine tr_vG1 rfl rfl inferInstance (fun hg hgp=>(rk_leq (.ofg hg rfl) (.ofg hg rfl))) rfl ?_;refine tr_val (rk_pick_and (.of rfl) rfl) rfl ?_;refine m_v rfl rfl ?_;refine v_g rfl rfl rfl rfl ?_;refine tr_vG1 rfl rfl inferInstance (fun hg hgp=>(rk_fieldAddr (.of rfl) norm0_)) rfl ?_;refine tr_vG1 rfl rfl inferInstance (fun hg hgp=>(rk_fieldAddr (.ofg hg rfl) norm0_)) rfl ?_;refine tr_vG1 rfl rfl inferInstance (fun hg hgp=>(rk_load1 (.ofg hg rfl) (At.lit .here rfl))) rfl ?_;refine tr_vG1 rfl rfl inferInstance (fun hg hgp=>(rk_lss (.ofg hg rfl) (.ofg hg rfl))) rfl ?_;refine tr_val (rk_pick_and (.of rfl) rfl) rfl ?_;refine n_t ?_;refine c_b rfl (fun hcd=>?_) (fun hcd=>?_);rotate_left;refine tr_skip ?_;refine tr_blk_normal ?_;refine tr_then ?_;refine tr_region ?_;refine tr_val (rk_add (.of rfl) (.of rfl) (ini (by omega))) rfl ?_;refine m_v rfl rfl ?_;refine n_t ?_;rotate_right)
        · have hon':onC x n (r:Nat) = true:=hon.2 ⟨hcd.1.1,hcd.1.2,hcd.2⟩
          have he:=hcopy hon'
          with_reducible refine tr_draw 6 (by kernel_rfl) ?_
          (refine a_m rfl rfl ?_;refine a_f rfl rfl norm0_ ?_;refine any_val (rk_load1 (.of rfl) (At.lit .here rfl)) rfl ?_;refine any_val (rk_slice_l (.of rfl) (.of rfl) (by omega) (by omega)) rfl ?_;refine a_f rfl rfl norm0_ ?_;refine any_val (rk_load1 (.of rfl) (At.lit .here rfl)) rfl ?_)
          with_reducible refine any_end ?_
          rw [line_sl hco]
          with_reducible apply tr_copyS
          case hx=>exact Is.of rfl
          case hy=>exact Is.of rfl
          case ht=>exact Take.there .here
          case hn=>omega
          case hfit=>rw [hll];omega
          case hd=>rfl
          rw [he]
          (refine tr_nil ?_;refine tr_blk_normal ?_;refine tr_then ?_;refine tr_region ?_;refine tr_val (rk_add (.of rfl) (.of rfl) (ini (by omega))) rfl ?_;refine m_v rfl rfl ?_;refine n_t ?_)
          apply tr_next (j + 1) (show j + 1 ≤ l.length by omega) (by omega)
          case hs1=>exact .cons rfl (.cons rfl (.cons rfl (.cons rfl (.cons rfl (.cons rfl (.cons rfl (.cons rfl (.cons rfl (.cons rfl .nil)))))))))
          case ht=>exact .cons .here (.cons (.there .here) (.cons (.there .here) .nil))
        · have hon':onC x n (r:Nat) = false:=by
            rw [Bool.eq_false_iff]
            intro h
            have:=hon.1 h
            omega
          rw [← hskip hon']
          apply tr_next (j + 1) (show j + 1 ≤ l.length by omega) (by omega)
          case hs1=>exact .cons rfl (.cons rfl (.cons rfl (.cons rfl (.cons rfl (.cons rfl (.cons rfl (.cons rfl (.cons rfl (.cons rfl .nil)))))))))
          case ht=>exact .cons (.there .here) (.cons (.there .here) (.cons (.there .here) .nil))
      · obtain rfl:j = l.length:=by omega
        rw [line_end]
        (refine s_r ?_;refine tr_val (rk_lss (.of rfl) (.of rfl)) rfl ?_;refine n_t ?_;refine tr_seq ?_;refine c_d rfl (fun _=>by omega) (fun hcd=>?_);refine x_t ?_;refine tr_then_exit ?_;refine tr_blk_exit ?_;refine tr_then ?_;refine tr_region ?_;refine m_v rfl rfl ?_;refine m_v rfl rfl ?_)
        with_reducible apply tr_val (V:=.string (strOf (rowB l n (r:Nat))))
        case hr=>
          with_reducible apply rk_convBSn
          case hx=>exact Is.of rfl
          case hv=>exact Ats.blk (by exact .here) (cellsAt_all (n:=32) (by rw [List.length_map,rowB_len]))
          case hl=>exact rowB_len _ _ _
        case hd=>rfl
        rw [strOf_strB]
        (refine tr_val (rk_indexAddrA (.of rfl) (.of rfl) (by omega) (by assumption) norm1_) rfl ?_;refine tr_store (.of rfl) (.of rfl) (.there .here) rfl rfl (okc_cons rfl okc_nil) hsl hset ?_;refine tr_nil ?_;refine tr_blk_normal ?_;refine tr_then ?_;refine tr_region ?_;refine tr_val (rk_add (.of rfl) (.of rfl) (ini (by omega))) rfl ?_;refine m_v rfl rfl ?_;refine n_t ?_)
        apply tr_next (r + 1) (show r + 1 ≤ 8 by omega) (by omega)
        case hs1=>exact .cons rfl (.cons rfl (.cons rfl (.cons rfl (.cons rfl .nil))))
        case ht=>exact .cons .here (.cons (.there .here) .nil)
  · obtain rfl:r = 8:=by omega
    rw [outV_8,scr_lit]
    (refine s_r ?_;refine tr_val (rk_lss (.of rfl) (.of rfl)) rfl ?_;refine n_t ?_;refine tr_seq ?_;refine c_d rfl (fun _=>by omega) (fun hcd=>?_);refine x_t ?_;refine tr_then_exit ?_;refine tr_blk_exit ?_;refine tr_then ?_;refine s_r ?_;refine tr_val (rk_loadB (.of rfl) .here norm_ (by rfl)) rfl ?_;refine tr_store (.of rfl) (.of rfl) (.there .here) rfl rfl (okc_cons rfl (okc_cons rfl (okc_cons rfl (okc_cons rfl (okc_cons rfl (okc_cons rfl (okc_cons rfl (okc_cons rfl okc_nil)))))))) (lenb rfl) norm_ ?_;refine n_t ?_;refine tr_ret ?_;refine tr_retE rfl (ends1cB rfl inferInstance rfl .here norm_ (by rfl)) ?_)
    rfl
def shnE (l:List Cp) (n:Int):Int:=firstF [capE l,withinF n 0 10000000]
theorem shnE_zero {l:List Cp} {n:Int}:shnE l n = 0 ↔ CapOk l ∧ 0 ≤ n ∧ n ≤ 10000000:=by
  unfold shnE
  rw [firstF_zero]
  simp only [List.mem_cons,List.not_mem_nil,or_false,forall_eq_or_imp,forall_eq,withinF_zero,capE_zero]
def noneL:List ByteArray:=List.replicate 8 ⟨#[]⟩
def shnX (l:List Cp) (n:Int):List ByteArray:=if shnE l n = 0 then scrL l n else noneL
theorem shownX_c {lv:Value} {l:List Cp} {n:Int} {w:World} (h:Rd w lv 5 (cps l)) (hs:∀ x ∈ l,x.tx.size ≤ 1000000000):GivesV Tryz.prog 24 [lv,.int .i64 n] w (.tuple #[.agg ((shnX l n).map Value.string).toArray,.int .i64 (shnE l n)]):=by
  have hz:=shnE_zero (l:=l) (n:=n)
  refine givesV_of_tr Tryz.func24 rfl rfl ?_
  unfold shnX
  generalize hE:shnE l n = E at hz ⊢
  unfold shnE at hE
  by_cases h0:E = 0
  · obtain ⟨hk,hn⟩:=hz.1 h0
    rw [if_pos h0,h0]
    rw [h0] at hE
    clear hz h0
    (refine s_r ?_;refine tr_new (rk_alloc rfl) rfl (fun _ _=>?_);refine a_s rfl rfl ?_;refine n_t ?_;refine tr_seq ?_;refine s_r ?_;refine m_v rfl rfl ?_;refine tr_callV (rk_call (.of rfl) (.cons (.of rfl) .nil) inferInstance normc_) rfl (fun w' hm'=>(chkCaps_c (Rd.keeps h (Mem.keeps hm')) hs)) ?_;refine m_v rfl rfl ?_;refine tr_callV (rk_call (.of rfl) (.cons (.of rfl) (.cons (.of rfl) (.cons (.of rfl) .nil))) inferInstance normc_) rfl (fun w' hm'=>(within_c n 0 10000000 w')) ?_;refine tr_new (rk_sliceLit (.cons (.of rfl) (.cons (.of rfl) .nil)) rfl rfl rfl rfl) rfl (fun _ _=>?_);refine tr_callV (rk_call (.of rfl) (.cons (.of rfl) .nil) inferInstance normc_) rfl (fun w' hm'=>(first_pB (Mem.rdBlk hm' .here rfl rfl) (IntL.cons (IntL.cons IntL.nil)))) ?_;refine a_s rfl rfl ?_;refine n_r ?_;refine m_v rfl rfl ?_;refine tr_val (rk_neq (.of rfl) (.of rfl)) rfl ?_;refine n_t ?_;refine c_d rfl (fun _=>by omega) (fun hcd=>?_);refine s_t ?_;refine s_r ?_;refine m_v rfl rfl ?_;refine m_v rfl rfl ?_;refine tr_callV (rk_call (.of rfl) (.cons (.of rfl) (.cons (.of rfl) .nil)) inferInstance normc_) rfl (fun w' hm'=>(shown_c (Rd.keeps h (Mem.keeps hm')) hk)) ?_;refine tr_store (.of rfl) (.of rfl) (.there .here) rfl rfl (okc_cons rfl (okc_cons rfl (okc_cons rfl (okc_cons rfl (okc_cons rfl (okc_cons rfl (okc_cons rfl (okc_cons rfl okc_nil)))))))) (lenb rfl) norm_ ?_;refine a_s rfl rfl ?_;refine n_t ?_;refine tr_ret ?_;refine tr_retE rfl (endsCT rfl inferInstance rfl .here norm_ (by rfl) (by rfl)) ?_)
    rw [setCells_full (by simp [scrL]),cellsAt_all (by simp [scrL])]
  · rw [if_neg h0]
    clear hz
    (refine s_r ?_;refine tr_new (rk_alloc rfl) rfl (fun _ _=>?_);refine a_s rfl rfl ?_;refine n_t ?_;refine tr_seq ?_;refine s_r ?_;refine m_v rfl rfl ?_;refine tr_callV (rk_call (.of rfl) (.cons (.of rfl) .nil) inferInstance normc_) rfl (fun w' hm'=>(chkCaps_c (Rd.keeps h (Mem.keeps hm')) hs)) ?_;refine m_v rfl rfl ?_;refine tr_callV (rk_call (.of rfl) (.cons (.of rfl) (.cons (.of rfl) (.cons (.of rfl) .nil))) inferInstance normc_) rfl (fun w' hm'=>(within_c n 0 10000000 w')) ?_;refine tr_new (rk_sliceLit (.cons (.of rfl) (.cons (.of rfl) .nil)) rfl rfl rfl rfl) rfl (fun _ _=>?_);refine tr_callV (rk_call (.of rfl) (.cons (.of rfl) .nil) inferInstance normc_) rfl (fun w' hm'=>(first_pB (Mem.rdBlk hm' .here rfl rfl) (IntL.cons (IntL.cons IntL.nil)))) ?_;refine a_s rfl rfl ?_;refine n_r ?_;refine m_v rfl rfl ?_;refine tr_val (rk_neq (.of rfl) (.of rfl)) rfl ?_;refine n_t ?_;refine c_d rfl (fun hcd=>?_) (fun _=>by omega);refine s_r ?_;refine tr_val (rk_buildL .nil norm_) rfl ?_;refine m_v rfl rfl ?_;refine tr_store (.of rfl) (.of rfl) (.there .here) rfl rfl (okc_cons rfl (okc_cons rfl (okc_cons rfl (okc_cons rfl (okc_cons rfl (okc_cons rfl (okc_cons rfl (okc_cons rfl okc_nil)))))))) (lenb rfl) norm_ ?_;refine a_s rfl rfl ?_;refine n_t ?_;refine r_t ?_;refine tr_retE rfl (endsCT rfl inferInstance rfl .here norm_ (by rfl) (by rfl)) ?_)
    rw [hE];rfl
end Go.Proofs.A1
