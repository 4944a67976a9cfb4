/- Parts of the proof: DV4. -/
import Derived.Test.YthhidjfahmcekaaDoorPM12
import Derived.Test.YthhidjfahmcekaaDoorPM13
import Derived.Test.YthhidjfahmcekaaDoorPM11
import Derived.Test.YthhidjfahmcekaaDoorPM10
import Derived.Test.YthhidjfahmcekaaDoorPM06
import Derived.Test.YthhidjfahmcekaaDoorPM05
set_option linter.unusedSectionVars false
set_option linter.unusedVariables false
set_option linter.unusedSimpArgs false
namespace Go.Proofs.A1
open Go Go.SL
theorem rdRow1 {c:Cx} {hs hs':List Asn} {w:World} (hm:Mem c hs w) {b sz:Nat} {cs:List Value} {E:TypeId} {fz:Nat × Nat} (ht:Take hs (SL.blk b (.cells cs.toArray E fz)) hs') (hn:cs.length = sz):Rd w (.slice (some ⟨b,0,none⟩) 1 1) sz [cs]:=by
  have hb:=hm.blk ht
  refine ⟨_,1,b,0,by simp,by simp,by unfold maxLen;omega,fun _=>rfl,fun i r hr=>?_⟩
  match i,hr with
  | 0, hr =>
    cases hr
    exact ⟨hn,fun j u hu=>by rw [cell_of_block hb];simpa using hu⟩
theorem rk_pickB {P:Program} {c:Cx} {sl:Slots} {hs:List Asn} {dst:Option Tmp} {ty:TypeId} {pos:String} {af:Array Edge} {g:Option (Nat × Bool)} {x y z:Operand} {q:Bool} {v u V:Value} (hx:Is sl x (.bool q)) (hy:Is sl y v) (hz:Is sl z u) (e:(bif q then v else u) = V):RunV P c sl hs ⟨dst,.pick x y z,ty,pos,af,g⟩ V:=e ▸ rk_pick hx hy hz
theorem tr_copyRo {P:Program} {r:Option Nat} {c:Cx} {D:List Nat} {sl:Slots} {hs hs':List Asn} {ops:Array Oper} {Q:Exit → Act → World → Prop} {rest:List Oper} {d:Nat} {ty:TypeId} {pos:String} {af:Array Edge} {t t2 e:TypeId} {agg:Bool} {size:Nat} {x y:Operand} {V:Value} {g o n cap:Nat} {E:TypeId} {cs:List Value} {news:List (List Value)} [hu:Und P t (.slice e)] [hT:Ty P e agg size]
    (hx:Is sl x (.slice (some ⟨g,o,none⟩) n cap)) (hy:Is sl y V) (ht:Take hs (blk g (.cells cs.toArray E (0,0))) hs') (hsrc:∀ w,Mem c hs w → Rd w V size news) (h1:∀ r ∈ news,∀ u ∈ r,u.oneCell' = true) (hfit:o + n * size ≤ cs.length) (hd:Nat.blt d c.nt = true)
    (k:Tr c D ((d,.int .i64 (Nat.min news.length n:Nat)) :: sl) (blk g (.cells (setCells cs o (news.take n).flatten).toArray E (0,0)) :: hs') (WL P r ops Q rest)) :
    Tr c D sl hs (WL P r ops Q (⟨some d,.call ⟨.builtin .copy,#[x,y],#[t,t2]⟩,ty,pos,af,none⟩ :: rest)):=fun a w hst=>by
  have hR:=hsrc w hst.mem'
  obtain ⟨de,i,hde,hi,_,hsize⟩:=Ty.parts (P:=P) (t:=e) (agg:=agg) (n:=size)
  have hlen:(news.take n).flatten.length = Nat.min news.length n * size:=by
    rw [flat_len (fun r hr=>hR.sz r (List.mem_of_mem_take hr)),List.length_take]
    show min n news.length * size = min news.length n * size
    rw [Nat.min_comm]
  have hle:Nat.min news.length n ≤ n:=Nat.min_le_right _ _
  have hm:=hst.mem.take (ht.append _)
  have hg:w.heap[g]? = some (.cells cs.toArray E (0,0)):=hm.blk .here
  obtain ⟨w',h3,h4,h5⟩:=rk_storeCells (P:=P) (o:=o) (news.take n).flatten 0 cs w hg (fun u hu=>by
    obtain ⟨r,hr,hur⟩:=List.mem_flatten.1 hu
    exact h1 r (List.mem_of_mem_take hr) u hur) (by
    rw [hlen]
    have:Nat.min news.length n * size ≤ n * size:=Nat.mul_le_mul_right _ hle
    omega)
  have hload:(Builtin.firstCells size (Nat.min news.length n) V).run P w = .ok (news.take n).flatten.toArray w:=by
    obtain ⟨aa,cap2,b,o2,hV,hcap2,hmax,ha,hc⟩:=hR
    subst hV
    by_cases hne:news = []
    · subst hne
      cases aa <;> simp [Builtin.firstCells,loadCells,loadCellsFrom]
    · have:=ha hne
      subst this
      simp only [Builtin.firstCells]
      refine rk_loadCells hlen fun j u hu=>?_
      refine flat_cells (sz:=size) (xs:=news.take n) (fun i r hr=>?_) j u hu
      rw [List.getElem?_take] at hr
      split at hr
      · exact hc i r hr
      · cases hr
  have hlenV:(Builtin.lenOf V).run P w = .ok news.length w:=by
    obtain ⟨aa,cap2,b,o2,hV,_⟩:=hR
    subst hV
    rfl
  refine wl_op rfl ⟨fr_about _ _ _ _ _,?_⟩
  rw [Oper.semAt_eq _ _ _ (by simp)]
  have:(execOp a.eval ⟨some d,.call ⟨.builtin .copy,#[x,y],#[t,t2]⟩,ty,pos,af,none⟩).run P w = .ok (.value (.int .i64 (Nat.min news.length n:Nat))) w':=by
    simp [execOp,resolve,invoke,builtin,hx a hst.slots,hy a hst.slots,Builtin.copy_,rk_underlying hu.eq,hlenV,sizeOf,typeInfo,hi,hsize,hload,h3,goInt]
  rw [this]
  have hm2:=Mem.store hm h4 h5
  rw [show (o + 0:Nat) = o from rfl] at hm2
  exact k _ _ ((hst.put (by simpa [Nat.blt_eq] using hd) _).heap hm2)
theorem cut_kS {A B:Prop} (h:A → B) (k:A):B:=h k
theorem rk_neqiS {P:Program} {c:Cx} {sl:Slots} {hs:List Asn} {dst:Option Tmp} {ty:TypeId} {pos:String} {af:Array Edge} {g:Option (Nat × Bool)} {k:IntKind} {t u:TypeId} {x y:Operand} {a b:Int} (hx:Is sl x (.int k a)) (hy:Is sl y (.int k b)) (e:a = b) :
    RunV P c sl hs ⟨dst,.binOp .neq t x y u,ty,pos,af,g⟩ (.bool false):=by
  have:=rk_neq (P:=P) (c:=c) (hs:=hs) (dst:=dst) (ty:=ty) (pos:=pos) (af:=af) (g:=g) (t:=t) (u:=u) hx hy
  rwa [decide_eq_false (fun h=>h e)] at this
theorem rk_neqsS {P:Program} {c:Cx} {sl:Slots} {hs:List Asn} {dst:Option Tmp} {ty:TypeId} {pos:String} {af:Array Edge} {g:Option (Nat × Bool)} {t u:TypeId} {x y:Operand} {a b:ByteArray} (hx:Is sl x (.string a)) (hy:Is sl y (.string b)) (e:a = b) :
    RunV P c sl hs ⟨dst,.binOp .neq t x y u,ty,pos,af,g⟩ (.bool false):=by
  have:=rk_neqs (P:=P) (c:=c) (hs:=hs) (dst:=dst) (ty:=ty) (pos:=pos) (af:=af) (g:=g) (t:=t) (u:=u) hx hy
  rwa [decide_eq_false (fun h=>h e)] at this
theorem rk_shlS {P:Program} {c:Cx} {sl:Slots} {hs:List Asn} {dst:Option Tmp} {ty:TypeId} {pos:String} {af:Array Edge} {g:Option (Nat × Bool)} {t u:TypeId} {x y:Operand} {k yk:IntKind} {a n:Int} (q:Int) (hx:Is sl x (.int k a)) (hy:Is sl y (.int yk n)) (h0:0 ≤ n) (h1:n ≤ k.bits) (e:k.wrap (a * 2 ^ n.toNat) = q):RunV P c sl hs ⟨dst,.binOp .shl t x y u,ty,pos,af,g⟩ (.int k q):=e ▸ rk_shl hx hy h0 h1
theorem shl_bitS:∀ b:Nat,b < 8 → IntKind.u8.wrap (1 * 2 ^ b) = ((2 ^ b:Nat):Int):=by decide
set_option maxHeartbeats 4000000 in
theorem pedestal_law (x:Cp) (n0 n1:Int) (hn0:0 ≤ n0 ∧ n0 ≤ 255) (hn1:0 ≤ n1 ∧ n1 ≤ 255) (w:World) (hG:GlobR w):GivesV Tryd.prog 3 [.agg x.cells.toArray,.agg #[.int .u8 n0,.int .u8 n1]] w (.bool true):=by
  have hsho:∀ (lv:Value) w',Rd w' lv 5 (cps [x]) → GivesV Tryd.prog 5 [lv] w' (.bool (shoB [x])):=fun lv w' h=>shortQ_c h
  have hcap:∀ (lv:Value) w',Rd w' lv 5 (cps [x]) → GivesV Tryd.prog 6 [lv] w' (.int .i64 (capE [x])):=fun lv w' h=>capsQ_c h
  generalize hsB:shoB [x] = sB at hsho
  generalize hcE:capE [x] = cE at hcap
  refine givesV_of_tr Tryd.func3 rfl rfl ?_
  unfold Cp.cells
  cases sB
  · (refine s_r ?_;refine tr_new (rk_box (.of rfl) rfl) rfl (fun _ _=>?_);refine tr_new (rk_box (.of rfl) rfl) rfl (fun _ _=>?_);refine a_s rfl rfl ?_;refine n_t ?_;refine tr_seq ?_;refine s_r ?_;refine tr_val (rk_loadB (.of rfl) (.there .here) norm_ (by rfl)) rfl ?_;refine tr_new (rk_sliceLitN (.cons (.of rfl) .nil) rfl rfl normp_ normp_ norm_) rfl (fun _ _=>?_);refine tr_callV (rk_call (.of rfl) (.cons (.of rfl) .nil) inferInstance normc_) rfl (fun w' hm'=>(hsho _ w' (rdRow1 hm' .here rfl))) ?_;refine tr_val (rk_not (.of rfl)) rfl ?_;refine m_v rfl rfl ?_;refine tr_gOff rfl rfl rfl ?_;refine tr_gOff rfl rfl rfl ?_;refine tr_gOff rfl rfl rfl ?_;refine tr_gOff rfl rfl rfl ?_;refine tr_val (rk_pickB (.of rfl) (.of rfl) (.of rfl) rfl) rfl ?_;refine m_v rfl rfl ?_;refine tr_gOff rfl rfl rfl ?_;refine tr_gOff rfl rfl rfl ?_;refine tr_gOff rfl rfl rfl ?_;refine tr_gOff rfl rfl rfl ?_;refine tr_val (rk_pickB (.of rfl) (.of rfl) (.of rfl) rfl) rfl ?_;refine m_v rfl rfl ?_;refine tr_gOff rfl rfl rfl ?_;refine tr_gOff rfl rfl rfl ?_;refine tr_gOff rfl rfl rfl ?_;refine tr_gOff rfl rfl rfl ?_;refine tr_val (rk_pickB (.of rfl) (.of rfl) (.of rfl) rfl) rfl ?_;refine n_t ?_;refine tr_cond_t (.of rfl) ?_;refine s_r ?_;refine tr_callV (rk_call (.of rfl) .nil inferInstance normc_) rfl (fun w' hm'=>(pedWord_c w' (GlobR.keeps hG (Mem.keeps hm')))) ?_;refine a_s rfl rfl ?_;refine n_t ?_;refine r_t ?_;refine tr_retE rfl (ends1 rfl rfl) ?_)
    rfl
  · (refine s_r ?_;refine tr_new (rk_box (.of rfl) rfl) rfl (fun _ _=>?_);refine tr_new (rk_box (.of rfl) rfl) rfl (fun _ _=>?_);refine a_s rfl rfl ?_;refine n_t ?_;refine tr_seq ?_;refine s_r ?_;refine tr_val (rk_loadB (.of rfl) (.there .here) norm_ (by rfl)) rfl ?_;refine tr_new (rk_sliceLitN (.cons (.of rfl) .nil) rfl rfl normp_ normp_ norm_) rfl (fun _ _=>?_);refine tr_callV (rk_call (.of rfl) (.cons (.of rfl) .nil) inferInstance normc_) rfl (fun w' hm'=>(hsho _ w' (rdRow1 hm' .here rfl))) ?_;refine tr_val (rk_not (.of rfl)) rfl ?_;refine m_v rfl rfl ?_;refine tr_gOn rfl rfl ?_;refine tr_val (rk_loadB (.of rfl) (.there (.there .here)) norm_ (by rfl)) rfl ?_;refine tr_gOn rfl rfl ?_;refine tr_new (rk_sliceLitN (.cons (.of rfl) .nil) rfl rfl normp_ normp_ norm_) rfl (fun _ _=>?_);refine tr_gOn rfl rfl ?_;refine tr_callV (rk_call (.of rfl) (.cons (.of rfl) .nil) inferInstance normc_) rfl (fun w' hm'=>(hcap _ w' (rdRow1 hm' .here rfl))) ?_;refine tr_gOn rfl rfl ?_;refine tr_val (rk_neq (.of rfl) (.of rfl)) rfl ?_)
    refine tr_val (rk_pickB (V:=.bool (decide (cE ≠ 0))) (.of rfl) (.of rfl) (.of rfl) rfl) rfl ?_
    (refine m_v rfl rfl ?_;refine tr_vG1 rfl rfl inferInstance (fun hg hgp=>(rk_fieldAddr (.of rfl) norm0_)) rfl ?_;refine tr_vG1 rfl rfl inferInstance (fun hg hgp=>(rk_load1 (.ofg hg rfl) (At.lit (.there (.there (.there .here))) rfl))) rfl ?_;refine tr_vG1 rfl rfl inferInstance (fun hg hgp=>(rk_len_string (.ofg hg rfl))) rfl ?_;refine tr_vG1 rfl rfl inferInstance (fun hg hgp=>(rk_gtr (.ofg hg rfl) (.of rfl))) rfl ?_;refine tr_val (rk_pick_or (.of rfl) rfl) rfl ?_;refine m_v rfl rfl ?_;refine tr_vG1 rfl rfl inferInstance (fun hg hgp=>(rk_fieldAddr (.of rfl) norm0_)) rfl ?_;refine tr_vG1 rfl rfl inferInstance (fun hg hgp=>(rk_fieldAddr (.ofg hg rfl) norm0_)) rfl ?_;refine tr_vG1 rfl rfl inferInstance (fun hg hgp=>(rk_load1 (.ofg hg rfl) (At.lit (.there (.there (.there .here))) rfl))) rfl ?_;refine tr_vG1 rfl rfl inferInstance (fun hg hgp=>(rk_gtr (.ofg hg rfl) (.of rfl))) rfl ?_;refine tr_val (rk_pick_or (.of rfl) rfl) rfl ?_;refine n_t ?_;refine c_b rfl (fun hcd=>?_) (fun hcd=>?_);refine s_r ?_;refine tr_callV (rk_call (.of rfl) .nil inferInstance normc_) rfl (fun w' hm'=>(pedWord_c w' (GlobR.keeps hG (Mem.keeps hm')))) ?_;refine a_s rfl rfl ?_;refine n_t ?_;refine r_t ?_;refine tr_retE rfl (ends1 rfl rfl) ?_;rotate_left;refine s_t ?_;refine s_r ?_;refine f_a rfl rfl norm0_ ?_;refine tr_val (rk_load1 (.of rfl) (At.lit (.there (.there (.there .here))) rfl)) rfl ?_;rotate_right)
    · rfl
    rename_i b2 hb2 b3 hb3 b34 hb34 b39 hb39
    obtain ⟨⟨hcz,h24⟩,hto⟩:=hcd
    replace hcz:=Decidable.not_not.1 hcz
    rw [hcz] at hcE
    have hok:=capE_zero.1 hcE
    have hx:=(show CpOk x from hok.ok 0 Nat.zero_lt_one)
    have hm1:=hx.ne
    have hsp:=hx.sp
    have hrw:=hx.rw
    have hco:=hx.co
    have hfit:=hx.fit
    have hlow:=hx.by_
    have h4:¬ 4000 < x.tx.size:=by omega
    have hs0:sntE x.tx = 0:=sntE_no h4 fun k hk=>by have:=hlow k hk;omega
    have hse:=sntL_eq hs0
    have hkl:=sntK_len x.tx x.tx.size
    have hsb:=snt_bytes hs0
    with_reducible apply tr_call
    case hr=>exact rk_call (.of rfl) (.cons (.of rfl) .nil) inferInstance normc_
    case hd=>rfl
    case ht=>exact Takes.nil
    case hc=>
      intro w1 fp hm1 _ hs1
      obtain rfl:fp = []:=hs1
      exact sent_c x.tx _
    intro s1 _
    dsimp only [id_eq,List.cons_append,List.nil_append]
    rw [hs0,hse,hkl]
    refine tr_rowSl (E:=5) (sz:=1) (v:=s1) (by exact .here) fun a1 c1 e=>?_
    subst e
    (refine m_v rfl rfl ?_;refine tr_val (rk_extract (.of rfl) rfl) rfl ?_;refine tr_val (rk_extract (.of rfl) rfl) rfl ?_;refine a_s rfl rfl ?_;refine a_s rfl rfl ?_;refine n_t ?_;refine tr_seq ?_;refine s_r ?_;refine m_v rfl rfl ?_;refine tr_val (rk_neqiS (.of rfl) (.of rfl) rfl) rfl ?_;refine m_v rfl rfl ?_;refine tr_gOn rfl rfl ?_;refine m_v rfl rfl ?_;refine tr_gOn rfl rfl ?_;refine tr_val (rk_len_slice (.of rfl)) rfl ?_;refine tr_gOn rfl rfl ?_;refine f_a rfl rfl norm0_ ?_;refine tr_gOn rfl rfl ?_;refine tr_val (rk_load1 (.of rfl) (At.lit (.there (.there (.there (.there .here)))) rfl)) rfl ?_;refine tr_gOn rfl rfl ?_;refine tr_val (rk_len_string (.of rfl)) rfl ?_;refine tr_gOn rfl rfl ?_;refine tr_val (rk_neqiS (.of rfl) (.of rfl) rfl) rfl ?_;refine tr_val (rk_pickB (.of rfl) (.of rfl) (.of rfl) rfl) rfl ?_;refine n_t ?_;refine tr_cond_f (.of rfl) ?_;refine s_t ?_;refine s_r ?_;refine tr_val (rk_indexAddrA (.of rfl) (.of rfl) (by omega) (by omega) norm1_) rfl ?_;refine tr_val (rk_load1 (.of rfl) (At.lit (.there (.there (.there .here))) rfl)) rfl ?_;refine tr_val (rk_conv (.of rfl)) rfl ?_;refine m_v rfl rfl ?_;refine tr_val (rk_len_slice (.of rfl)) rfl ?_;refine tr_val (rk_remT (.of rfl) (.of rfl) (by omega)) rfl ?_;refine a_s rfl rfl ?_;refine n_t ?_;refine tr_seq ?_;refine s_r ?_;refine tr_val (rk_indexAddrA (.of rfl) (.of rfl) (by omega) (by omega) norm1_) rfl ?_;refine tr_val (rk_load1 (.of rfl) (At.lit (.there (.there (.there .here))) rfl)) rfl ?_)
    obtain ⟨k,hk,hkx⟩:∃ k:Nat,(IntKind.i64.wrap n0).tmod ((x.tx.size:Nat):Int) = (k:Nat) ∧ k < x.tx.size:=by
      rw [i64w (by omega),Int.tmod_eq_emod_of_nonneg hn0.1]
      have e0:=Int.emod_nonneg n0 (show ((x.tx.size:Nat):Int) ≠ 0 by omega)
      have e1:=Int.emod_lt_of_pos n0 (show (0:Int) < (x.tx.size:Nat) by omega)
      exact ⟨(n0 % ((x.tx.size:Nat):Int)).toNat,by omega,by omega⟩
    obtain ⟨b,hb',hb8⟩:∃ b:Nat,n1 % 8 = b ∧ b < 8:=⟨(n1 % 8).toNat,by omega,by omega⟩
    rw [hk]
    refine tr_val (rk_rem8 (.of rfl) (.of rfl) hn1.1 (by decide)) rfl ?_
    refine tr_val (rk_shlS ((2 ^ b:Nat):Int) (.of rfl) (.of rfl) (by omega) (by show n1 % 8 ≤ 8;omega) (by rw [show (n1 % 8).toNat = b by omega];exact shl_bitS b hb8)) rfl ?_
    (refine tr_val (rk_buildL (.cons (.of rfl) (.cons (.of rfl) .nil)) norm_) rfl ?_;refine m_v rfl rfl ?_;refine n_t ?_;refine tr_block ?_)
    refine tr_for (ι:=Nat) (fun i=>i ≤ 2) (fun i=>[(83,.int .i64 (i:Nat)),(82,.agg #[.int .u8 0,.int .u8 ((2 ^ b:Nat):Int)]),(7,.int .i64 (k:Nat)),(5,.slice a1 x.tx.size c1),(2,.pointer (some ⟨b2,0,none⟩))]) (fun _=>[row 5 1 (.slice a1 x.tx.size c1) x.tx.size (bytsV (sntK x.tx x.tx.size)),blk b2 (.cells #[.int .i64 x.fr,.int .i64 x.to,.int .i64 x.rw,.int .i64 x.co,.string x.tx] 25 (0,0))]) (fun i=>2 - i) ?_ ?_
    · apply tr_start 0 (show (0:Nat) ≤ 2 by omega)
      case hs1=>exact .cons rfl (.cons rfl (.cons rfl (.cons rfl (.cons rfl .nil))))
      case ht=>exact .cons .here (.cons (.there (.there (.there .here))) .nil)
    intro i hi
    by_cases hi2:i < 2
    · obtain ⟨B,hBv,hB⟩:∃ B:Int,partOf false 1 [.int .u8 0,.int .u8 ((2 ^ b:Nat):Int)] (((i:Nat):Int).toNat * 1) = some (.int .u8 B) ∧ (B = 0 ∨ B = ((2 ^ b:Nat):Int)):=by
        obtain rfl | rfl:i = 0 ∨ i = 1:=by omega
        · exact ⟨0,rfl,.inl rfl⟩
        · exact ⟨_,rfl,.inr rfl⟩
      (refine s_r ?_;refine tr_val (rk_lss (.of rfl) (.of rfl)) rfl ?_;refine n_t ?_;refine tr_seq ?_;refine c_d rfl (fun hcd=>?_) (fun _=>by omega);refine s_t ?_;refine tr_seq ?_;refine tr_block ?_;refine s_r ?_)
      refine tr_val (rk_index (cs:=[.int .u8 0,.int .u8 ((2 ^ b:Nat):Int)]) (.of rfl) (.of rfl) (by omega) (by omega) hBv) rfl ?_
      (refine a_s rfl rfl ?_;refine n_r ?_;refine a_s rfl rfl ?_;refine n_t ?_;refine tr_seq ?_;refine s_r ?_;refine a_s rfl rfl ?_;refine n_t ?_;refine tr_block ?_)
      obtain ⟨D,hD⟩:∃ D,D = (sntK x.tx x.tx.size).set k (xorF ((sntK x.tx x.tx.size).getD k 0) B):=⟨_,rfl⟩
      have hDl:D.length = x.tx.size:=by rw [hD,List.length_set,hkl]
      have hDb:∀ y ∈ D,0 ≤ y ∧ y ≤ 255:=fun y hy=>by
        rw [hD] at hy
        rcases List.mem_or_eq_of_mem_set hy with h | h
        · exact hsb y h
        · rw [h];exact xorF_byte _ _
      obtain ⟨hz0,hh0,hh1⟩:=ped_heard hs0 hkx hb8 h4 hB hD
      obtain ⟨J,hJ⟩:∃ J,J = (x.tx.size + 9) / 10:=⟨_,rfl⟩
      refine tr_rowNil 5 1 ?_
      refine tr_for (ι:=Nat × Value) (fun y=>y.1 ≤ J) (fun y=>[(11,.int .i64 (10 * y.1:Nat)),(10,y.2),(9,.int .u8 B),(83,.int .i64 (i:Nat)),(82,.agg #[.int .u8 0,.int .u8 ((2 ^ b:Nat):Int)]),(7,.int .i64 (k:Nat)),(5,.slice a1 x.tx.size c1),(2,.pointer (some ⟨b2,0,none⟩))]) (fun y=>[row 5 1 y.2 (16 * y.1) (bytsV (strP (pkL D y.1))),row 5 1 (.slice a1 x.tx.size c1) x.tx.size (bytsV (sntK x.tx x.tx.size)),blk b2 (.cells #[.int .i64 x.fr,.int .i64 x.to,.int .i64 x.rw,.int .i64 x.co,.string x.tx] 25 (0,0))]) (fun y=>J - y.1) ?_ ?_
      · apply tr_start (0,.slice none 0 0) (Nat.zero_le _)
        case hs1=>exact .cons rfl (.cons rfl (.cons rfl (.cons rfl (.cons rfl (.cons rfl (.cons rfl (.cons rfl .nil)))))))
        case ht=>
          show Takes _ [row 5 1 (.slice none 0 0) 0 [],row 5 1 (.slice a1 x.tx.size c1) x.tx.size (bytsV (sntK x.tx x.tx.size)),blk b2 (.cells #[.int .i64 x.fr,.int .i64 x.to,.int .i64 x.rw,.int .i64 x.co,.string x.tx] 25 (0,0))] _
          exact .cons .here (.cons .here (.cons .here .nil))
      rintro ⟨j,v⟩ hj
      dsimp only at hj ⊢
      by_cases hjJ:j < J
      · have hj24:10 * j < x.tx.size:=by omega
        have hj2:j ≤ 2:=by omega
        (refine tr_seq ?_;refine s_r ?_;refine m_v rfl rfl ?_;refine m_v rfl rfl ?_;refine tr_val (rk_len_slice (.of rfl)) rfl ?_;refine tr_val (rk_lss (.of rfl) (.of rfl)) rfl ?_;refine n_t ?_;refine c_d rfl (fun hcd=>?_) (fun _=>by omega);refine s_t ?_;refine tr_seq ?_;refine tr_block ?_;refine s_r ?_;refine m_v rfl rfl ?_;refine tr_val (rk_quo (.of rfl) (.of rfl) (by omega) (by omega) (by omega)) rfl ?_;refine tr_val (rk_buildL (.cons (.of rfl) (.cons (.of rfl) .nil)) norm_) rfl ?_;refine tr_new (rk_alloc rfl) rfl (fun _ _=>?_);refine tr_store (.of rfl) (.of rfl) .here rfl rfl (okc_cons rfl (okc_cons rfl (okc_cons rfl (okc_cons rfl (okc_cons rfl (okc_cons rfl (okc_cons rfl (okc_cons rfl (okc_cons rfl (okc_cons rfl (okc_cons rfl (okc_cons rfl okc_nil)))))))))))) (lenb rfl) norm_ ?_;refine n_t ?_;refine tr_seq ?_)
        rename_i b12 hb12
        rw [show ((10 * j:Nat):Int) / 10 = (j:Nat) by omega]
        with_reducible refine tr_draw 5 (by kernel_rfl) ?_
        (refine a_f rfl rfl norm0_ ?_;refine any_val (rk_sliceA (.of rfl)) rfl ?_;refine a_m rfl rfl ?_;refine a_m rfl rfl ?_;refine any_val (rk_slice_l (.of rfl) (.of rfl) (by omega) (by omega)) rfl ?_)
        with_reducible refine any_end ?_
        rw [show ((10 * j:Nat):Int).toNat = 10 * j from Int.toNat_natCast _]
        with_reducible apply tr_copyRo
        case hx=>exact Is.of rfl
        case hy=>exact Is.of rfl
        case ht=>exact .here
        case hsrc=>exact fun w' hm'=>Rd.sliced (byts_rd (E:=5) (v:=.slice a1 x.tx.size c1) hm' (by exact Take.there (.there .here)) hkl) (l:=10 * j) (m:=x.tx.size) (by omega) (Nat.le_refl _)
        case h1=>exact fun r hr=>byts_one _ r (List.mem_of_mem_take (List.mem_of_mem_drop hr))
        case hfit=>exact Nat.le_refl _
        case hd=>rfl
        have hcop:setCells [.int .i64 6,.int .i64 (j:Nat),.int .u8 0,.int .u8 0,.int .u8 0,.int .u8 0,.int .u8 0,.int .u8 0,.int .u8 0,.int .u8 0,.int .u8 0,.int .u8 0] 2 ((((byts (sntK x.tx x.tx.size)).take x.tx.size).drop (10 * j)).take 10).flatten = .int .i64 6 :: .int .i64 (j:Nat) :: wcells (chnk (sntK x.tx x.tx.size) j):=by
          have h1:=byts_part (K:=sntK x.tx x.tx.size) (l:=10 * j)
          rw [hkl] at h1
          rw [h1]
          exact chnk_cells j
        rw [hcop]
        clear hcop
        have hcd10:=chnk_len D j
        have hck10:=chnk_len (sntK x.tx x.tx.size) j
        apply cut_kS (A:=Tr _ [] [(12,.pointer (some ⟨b12,0,none⟩)),(11,.int .i64 (10 * j:Nat)),(10,v),(9,.int .u8 B),(83,.int .i64 (i:Nat)),(82,.agg #[.int .u8 0,.int .u8 ((2 ^ b:Nat):Int)]),(7,.int .i64 (k:Nat)),(5,.slice a1 x.tx.size c1),(2,.pointer (some ⟨b2,0,none⟩))] [blk b12 (.cells (.int .i64 6 :: .int .i64 (j:Nat) :: wcells (chnk D j)).toArray 37 (0,0)),row 5 1 v (16 * j) (bytsV (strP (pkL D j))),row 5 1 (.slice a1 x.tx.size c1) x.tx.size (bytsV (sntK x.tx x.tx.size)),blk b2 (.cells #[.int .i64 x.fr,.int .i64 x.to,.int .i64 x.rw,.int .i64 x.co,.string x.tx] 25 (0,0))] _)
        · intro key
          (refine n_t ?_;refine tr_seq ?_;refine s_r ?_;refine m_v rfl rfl ?_;refine tr_val (rk_quo (.of rfl) (.of rfl) (by omega) (by omega) (by omega)) rfl ?_;refine m_v rfl rfl ?_;refine tr_val (rk_quo (.of rfl) (.of rfl) (by omega) (by omega) (by omega)) rfl ?_;refine tr_val (rk_eql (.of rfl) (.of rfl)) rfl ?_;refine n_t ?_;refine c_d rfl (fun hcd=>?_) (fun hcd=>?_);refine tr_region ?_;refine m_v rfl rfl ?_;refine tr_val (rk_rem (.of rfl) (.of rfl) (by omega) (by omega)) rfl ?_;refine f_a rfl rfl norm0_ ?_;refine tr_val (rk_indexAddrA (.of rfl) (.of rfl) (by omega) (by omega) norm1_) rfl ?_;rotate_left;refine s_t ?_;refine s_r ?_;rotate_right)
          · have hkj:k / 10 = j:=by omega
            rw [show ((k:Int) % 10).toNat = k % 10 by omega]
            have hkK:k < (sntK x.tx x.tx.size).length:=by rw [hkl];exact hkx
            have g0:=chnk_at (a:=.int .i64 6) (b:=.int .i64 (j:Nat)) hkK hkj
            have g1:=chnk_put (a:=.int .i64 6) (b:=.int .i64 (j:Nat)) (v:=xorF ((sntK x.tx x.tx.size).getD k 0) B) hkK hkj
            rw [← hD] at g1
            have g2:=chnk_fit (a:=.int .i64 6) (b:=.int .i64 (j:Nat)) (K:=sntK x.tx x.tx.size) (k:=k) (j:=j)
            (refine tr_val (rk_load1 (.of rfl) (At.blkL .here g0)) rfl ?_;refine m_v rfl rfl ?_;refine tr_val (rk_xor8 (.of rfl) (.of rfl)) rfl ?_;refine f_a rfl rfl norm0_ ?_;refine tr_val (rk_indexAddrA (.of rfl) (.of rfl) (by omega) (by omega) norm1_) rfl ?_;refine tr_store (.of rfl) (.of rfl) .here rfl rfl (okc_cons rfl okc_nil) g2 g1 ?_;refine n_r ?_)
            rw [show ((k:Int) % 10).toNat = k % 10 by omega]
            skip
            exact tr_cutW _ _ (by exact .cons rfl (.cons rfl (.cons rfl (.cons rfl (.cons rfl (.cons rfl (.cons rfl (.cons rfl (.cons rfl .nil))))))))) (by exact .cons .here (.cons .here (.cons .here (.cons .here .nil)))) key
          · have hkj:¬ k / 10 = j:=by omega
            have e1:chnk (sntK x.tx x.tx.size) j = chnk D j:=by rw [hD,chnk_set (by rw [hkl];exact hkx),if_neg hkj]
            rw [e1]
            exact tr_cutW _ _ (by exact .cons rfl (.cons rfl (.cons rfl (.cons rfl (.cons rfl (.cons rfl (.cons rfl (.cons rfl (.cons rfl .nil))))))))) (by exact .cons .here (.cons .here (.cons .here (.cons .here .nil)))) key
        have hXo:(pkOf D j).Ok:=pkL_ok hDb (n:=j + 1) (by omega) _ (by rw [pkL_succ];simp)
        have hpk:=pkL_succ D j
        rw [show Value.int .i64 6 :: Value.int .i64 (j:Nat) :: wcells (chnk D j) = (pkOf D j).cells by rw [← pkOf_D];rfl]
        generalize pkOf D j = X at hXo hpk ⊢
        have hen:∀ w',GivesV Tryd.prog 9 [.agg X.cells.toArray] w' (.tuple #[.agg (wcells X.frm).toArray,.int .i64 0]):=fun w'=>encode_p X.k X.c X.d0 X.d1 X.d2 X.d3 X.d4 X.d5 X.d6 X.d7 X.d8 X.d9 hXo.k hXo.c hXo.d w'
        have hfm:strP (pkL D (j + 1)) = strP (pkL D j)++X.frm:=by rw [hpk,strP_snoc]
        obtain ⟨f0,f1,f2,f3,f4,f5,f6,f7,f8,f9,fa,fb,fc,fd,fe,ff,hF⟩:=list16 X.frm_len
        rw [hF] at hen hfm
        rw [show X.cells = [.int .i64 X.k,.int .i64 X.c,.int .u8 X.d0,.int .u8 X.d1,.int .u8 X.d2,.int .u8 X.d3,.int .u8 X.d4,.int .u8 X.d5,.int .u8 X.d6,.int .u8 X.d7,.int .u8 X.d8,.int .u8 X.d9] from rfl] at hen ⊢
        simp only [wcells,List.map_cons,List.map_nil] at hen
        (refine tr_val (rk_loadB (.of rfl) .here norm_ (by rfl)) rfl ?_;refine tr_callV (rk_call (.of rfl) (.cons (.of rfl) .nil) inferInstance normc_) rfl (fun w' hm'=>(hen w')) ?_;refine m_v rfl rfl ?_;refine tr_val (rk_extract (.of rfl) rfl) rfl ?_;refine tr_val (rk_extract (.of rfl) rfl) rfl ?_;refine tr_new (rk_alloc rfl) rfl (fun _ _=>?_);refine tr_store (.of rfl) (.of rfl) .here rfl rfl (okc_cons rfl (okc_cons rfl (okc_cons rfl (okc_cons rfl (okc_cons rfl (okc_cons rfl (okc_cons rfl (okc_cons rfl (okc_cons rfl (okc_cons rfl (okc_cons rfl (okc_cons rfl (okc_cons rfl (okc_cons rfl (okc_cons rfl (okc_cons rfl okc_nil)))))))))))))))) (lenb rfl) norm_ ?_;refine a_s rfl rfl ?_;refine n_t ?_;refine tr_seq ?_;refine s_r ?_;refine m_v rfl rfl ?_;refine tr_val (rk_neq (.of rfl) (.of rfl)) rfl ?_;refine n_t ?_;refine c_d rfl (fun _=>by omega) (fun hcd=>?_);refine s_t ?_;refine tr_region ?_;refine m_v rfl rfl ?_;refine tr_val (rk_sliceA (.of rfl)) rfl ?_)
        refine tr_appendB (.of rfl) (.of rfl) (.there (.there .here)) .here norm_ (by rfl) (okc_cons rfl (okc_cons rfl (okc_cons rfl (okc_cons rfl (okc_cons rfl (okc_cons rfl (okc_cons rfl (okc_cons rfl (okc_cons rfl (okc_cons rfl (okc_cons rfl (okc_cons rfl (okc_cons rfl (okc_cons rfl (okc_cons rfl (okc_cons rfl okc_nil)))))))))))))))) (by rfl) (by rfl) (by rfl) lenx_ (by rfl) ?_
        intro v'
        refine tr_rowAs (E:=5) (sz:=1) (v:=v') (ys:=bytsV (strP (pkL D (j + 1)))) (m:=16 * (j + 1)) (by exact .here) (by rw [hfm,bytsV_wcS,bytsV_wcS,wcells_app];rfl) (by exact rfl) ?_
        (refine a_s rfl rfl ?_;refine tr_nil ?_;refine tr_blk_normal ?_;refine tr_then ?_;refine tr_region ?_;refine m_v rfl rfl ?_;refine tr_val (rk_add (.of rfl) (.of rfl) (ini (by omega))) rfl ?_;refine a_s rfl rfl ?_;refine n_t ?_)
        apply tr_next (j + 1,v') (show j + 1 ≤ J from hjJ) (show J - (j + 1) < J - j by omega)
        case hs1=>
          rw [show ((10 * (j + 1):Nat):Int) = ((10 * j:Nat):Int) + 10 by omega]
          exact .cons rfl (.cons rfl (.cons rfl (.cons rfl (.cons rfl (.cons rfl (.cons rfl (.cons rfl .nil)))))))
        case ht=>exact .cons .here (.cons (.there (.there .here)) (.cons (.there (.there .here)) .nil))
      obtain rfl:j = J:=by omega
      (refine tr_seq ?_;refine s_r ?_;refine m_v rfl rfl ?_;refine m_v rfl rfl ?_;refine tr_val (rk_len_slice (.of rfl)) rfl ?_;refine tr_val (rk_lss (.of rfl) (.of rfl)) rfl ?_;refine n_t ?_;refine c_d rfl (fun _=>by omega) (fun hcd=>?_);refine x_t ?_;refine tr_then_exit ?_;refine tr_blk_exit ?_;refine tr_then ?_;refine s_r ?_;refine tr_new (rk_sliceLit .nil rfl rfl rfl rfl) rfl (fun _ _=>?_);refine m_v rfl rfl ?_)
      rename_i bz hbz
      have hPl:(strP (pkL D j)).length = 16 * j:=by rw [strP_len,pkL_len]
      refine tr_rowLitE (g:=bz) (E:=5) (ys:=[]) 0 1 (by exact .here) rfl rfl rfl ?_
      with_reducible apply tr_appendR
      case hx=>exact Is.of rfl
      case hy=>exact Is.of rfl
      case ht=>exact .here
      case hsrc=>exact fun w' hm'=>byts_rd (E:=5) (v:=v) hm' (by exact Take.there .here) hPl
      case h1=>exact byts_one _
      case hz=>rfl
      case hsz=>rfl
      case hb0=>rfl
      case hb=>rw [byts_length,hPl];omega
      case hd=>rfl
      intro v2
      refine tr_rowAs (E:=5) (sz:=1) (v:=v2) (ys:=bytsV (strP (pkL D j))) (m:=16 * j) (by exact .here) (by rw [List.nil_append,byts_flat]) (by rw [Nat.zero_add,byts_length,hPl]) ?_
      with_reducible apply tr_call
      case hr=>exact rk_call (.of rfl) (.cons (.of rfl) .nil) inferInstance normc_
      case hd=>rfl
      case ht=>exact Takes.nil
      case hc=>
        intro w1 fp hm1 _ hs1
        obtain rfl:fp = []:=hs1
        exact received_c (byts_rd (E:=5) (v:=v2) hm1 (by exact .here) hPl) (by rw [pkL_len];omega) (pkL_ok hDb (by omega)) (by intro e;have:=congrArg List.length e;rw [pkL_len,List.length_nil] at this;omega)
      intro l3 _
      dsimp only [id_eq,List.cons_append,List.nil_append]
      rw [pkL_len]
      refine tr_rowOpen (E:=37) (sz:=12) (v:=l3) (by exact .here) (show 0 < j by omega) ?_
      rintro g3 c3 cur3 rfl hc3 hm3 hz3 hx3
      refine m_v rfl rfl ?_
      refine tr_val (rk_extract (.of rfl) rfl) rfl ?_
      refine tr_val (rk_extract (.of rfl) rfl) rfl ?_
      refine tr_val (rk_extract (.of rfl) rfl) rfl ?_
      refine a_s rfl rfl ?_
      refine a_s rfl rfl ?_
      refine a_s rfl rfl ?_
      refine tr_nil ?_
      refine tr_then ?_
      refine tr_seq ?_
      refine tr_seq ?_
      refine tr_region ?_
      refine m_v rfl rfl ?_
      refine tr_val (rk_neqiS (.of rfl) (.of rfl) rfl) rfl ?_
      refine m_v rfl rfl ?_
      refine tr_gOn rfl rfl ?_
      refine m_v rfl rfl ?_
      refine tr_gOn rfl rfl ?_
      refine tr_val (rk_len_slice (.of rfl)) rfl ?_
      refine tr_gOn rfl rfl ?_
      refine m_v rfl rfl ?_
      refine tr_gOn rfl rfl ?_
      refine tr_val (rk_len_slice (.of rfl)) rfl ?_
      refine tr_gOn rfl rfl ?_
      refine tr_val (rk_add (.of rfl) (.of rfl) (ini (by omega))) rfl ?_
      refine tr_gOn rfl rfl ?_
      refine tr_val (rk_quo (.of rfl) (.of rfl) (by omega) (by omega) (by omega)) rfl ?_
      rw [show (((x.tx.size:Nat):Int) + 9) / 10 = (j:Nat) by omega]
      refine tr_gOn rfl rfl ?_
      refine tr_val (rk_neqiS (.of rfl) (.of rfl) rfl) rfl ?_
      refine tr_val (rk_pickB (.of rfl) (.of rfl) (.of rfl) rfl) rfl ?_
      refine m_v rfl rfl ?_
      refine tr_gOn rfl rfl ?_
      refine m_v rfl rfl ?_
      refine tr_gOn rfl rfl ?_
      refine tr_val (rk_len_slice (.of rfl)) rfl ?_
      refine tr_gOn rfl rfl ?_
      refine tr_val (rk_gtr (.of rfl) (.of rfl)) rfl ?_
      refine tr_val (rk_pickB (.of rfl) (.of rfl) (.of rfl) rfl) rfl ?_
      (refine n_t ?_;refine tr_cond_f (.of rfl) ?_;refine s_t ?_;refine s_r ?_;refine a_s rfl rfl ?_;refine n_t ?_;refine tr_seq ?_;refine s_r ?_;refine m_v rfl rfl ?_;refine tr_val (rk_len_slice (.of rfl)) rfl ?_;refine m_v rfl rfl ?_;refine n_t ?_;refine tr_block ?_)
      have hPk:∀ q (hq:q < j),(pkL D j)[q]'(by rw [pkL_len];exact hq) = pkOf D q:=fun q hq=>pkL_get hq
      refine tr_rowNil 5 1 ?_
      refine tr_for (ι:=Nat × Value) (fun y=>y.1 ≤ j) (fun y=>[(151,.int .i64 (y.1:Nat)),(150,.int .i64 (j:Nat)),(149,.slice (some ⟨g3,0,none⟩) j c3),(18,y.2),(9,.int .u8 B),(83,.int .i64 (i:Nat)),(82,.agg #[.int .u8 0,.int .u8 ((2 ^ b:Nat):Int)]),(7,.int .i64 (k:Nat)),(5,.slice a1 x.tx.size c1),(2,.pointer (some ⟨b2,0,none⟩))]) (fun y=>[row 5 1 y.2 (10 * y.1) (bytsV (chnkL D y.1)),blk g3 (.cells (pksV (pkL D j)++cur3).toArray 37 (0,0)),row 5 1 (.slice a1 x.tx.size c1) x.tx.size (bytsV (sntK x.tx x.tx.size)),blk b2 (.cells #[.int .i64 x.fr,.int .i64 x.to,.int .i64 x.rw,.int .i64 x.co,.string x.tx] 25 (0,0))]) (fun y=>j - y.1) ?_ ?_
      · apply tr_start (0,.slice none 0 0) (Nat.zero_le _)
        case hs1=>exact .cons rfl (.cons rfl (.cons rfl (.cons rfl (.cons rfl (.cons rfl (.cons rfl (.cons rfl (.cons rfl (.cons rfl .nil)))))))))
        case ht=>
          show Takes _ [row 5 1 (.slice none 0 0) 0 [],blk g3 (.cells (pksV (pkL D j)++cur3).toArray 37 (0,0)),row 5 1 (.slice a1 x.tx.size c1) x.tx.size (bytsV (sntK x.tx x.tx.size)),blk b2 (.cells #[.int .i64 x.fr,.int .i64 x.to,.int .i64 x.rw,.int .i64 x.co,.string x.tx] 25 (0,0))] _
          exact .cons .here (.cons .here (.cons (.there (.there .here)) (.cons (.there (.there .here)) .nil)))
      rintro ⟨q,v4⟩ hq
      dsimp only at hq ⊢
      by_cases hqj:q < j
      · have hqc:=pksV_at (pkL D j) q (by rw [pkL_len];exact hqj) cur3
        rw [pkL_get hqj] at hqc
        have hXk:(pkOf D q).k = 6:=rfl
        have hXc:(pkOf D q).c = (q:Nat):=rfl
        have hXD:=pkOf_D D q
        have hch:chnkL D (q + 1) = chnkL D q++(pkOf D q).D:=by rw [hXD];rfl
        have hql:(pksV (pkL D j)).length = j * 12:=by rw [pksV_len,pkL_len]
        generalize pkOf D q = X at hqc hXk hXc hch
        have hqc:cellsAt (pksV (pkL D j)++cur3) (q * 12) 12 = [.int .i64 X.k,.int .i64 X.c,.int .u8 X.d0,.int .u8 X.d1,.int .u8 X.d2,.int .u8 X.d3,.int .u8 X.d4,.int .u8 X.d5,.int .u8 X.d6,.int .u8 X.d7,.int .u8 X.d8,.int .u8 X.d9]:=hqc
        rw [hXk,hXc] at hqc
        (refine s_r ?_;refine tr_val (rk_lss (.of rfl) (.of rfl)) rfl ?_;refine n_t ?_;refine tr_seq ?_;refine c_d rfl (fun hcd=>?_) (fun _=>by omega);refine s_t ?_;refine tr_seq ?_;refine tr_block ?_;refine s_r ?_;refine m_v rfl rfl ?_;refine tr_val (rk_indexAddr (.of rfl) (.of rfl) rfl (by omega) hcd norm1_) rfl ?_;refine tr_val (rk_loadB (.of rfl) (.there .here) hqc rfl) rfl ?_;refine tr_new (rk_alloc rfl) rfl (fun _ _=>?_);refine a_s rfl rfl ?_;refine tr_store (.of rfl) (.of rfl) .here rfl rfl (okc_cons rfl (okc_cons rfl (okc_cons rfl (okc_cons rfl (okc_cons rfl (okc_cons rfl (okc_cons rfl (okc_cons rfl (okc_cons rfl (okc_cons rfl (okc_cons rfl (okc_cons rfl okc_nil)))))))))))) (lenb rfl) norm_ ?_;refine n_t ?_;refine tr_seq ?_;refine s_r ?_;refine f_a rfl rfl norm0_ ?_;refine tr_val (rk_load1 (.of rfl) (At.lit .here rfl)) rfl ?_;refine tr_val (rk_neq (.of rfl) (.of rfl)) rfl ?_;refine m_v rfl rfl ?_;refine tr_vG1 rfl rfl inferInstance (fun hg hgp=>(rk_fieldAddr (.of rfl) norm0_)) rfl ?_;refine tr_vG1 rfl rfl inferInstance (fun hg hgp=>(rk_load1 (.ofg hg rfl) (At.lit .here rfl))) rfl ?_;refine v_g rfl rfl rfl rfl ?_;refine tr_vG1 rfl rfl inferInstance (fun hg hgp=>(rk_neq (.ofg hg rfl) (.ofg hg rfl))) rfl ?_;refine tr_val (rk_pick_or (.of rfl) rfl) rfl ?_;refine n_t ?_;refine c_d rfl (fun _=>by omega) (fun hcd=>?_);refine s_t ?_;refine tr_region ?_;refine m_v rfl rfl ?_;refine f_a rfl rfl norm0_ ?_;refine tr_val (rk_sliceA (.of rfl)) rfl ?_)
        refine tr_appendB (.of rfl) (.of rfl) (.there .here) .here norm_ (by rfl) (okc_cons rfl (okc_cons rfl (okc_cons rfl (okc_cons rfl (okc_cons rfl (okc_cons rfl (okc_cons rfl (okc_cons rfl (okc_cons rfl (okc_cons rfl okc_nil)))))))))) (by rfl) (by rfl) (by rfl) lenx_ (by rfl) ?_
        intro v5
        refine tr_rowAs (E:=5) (sz:=1) (v:=v5) (ys:=bytsV (chnkL D (q + 1))) (m:=10 * (q + 1)) (by exact .here) (by rw [hch,bytsV_wcS,bytsV_wcS,wcells_app];rfl) (by exact rfl) ?_
        (refine a_s rfl rfl ?_;refine tr_nil ?_;refine tr_blk_normal ?_;refine tr_then ?_;refine tr_region ?_;refine tr_val (rk_add (.of rfl) (.of rfl) (ini (by omega))) rfl ?_;refine m_v rfl rfl ?_;refine n_t ?_)
        apply tr_next (q + 1,v5) (show q + 1 ≤ j from hqj) (show j - (q + 1) < j - q by omega)
        case hs1=>exact .cons rfl (.cons rfl (.cons rfl (.cons rfl (.cons rfl (.cons rfl (.cons rfl (.cons rfl (.cons rfl (.cons rfl .nil)))))))))
        case ht=>exact .cons .here (.cons (.there .here) (.cons (.there .here) (.cons (.there .here) .nil)))
      obtain rfl:q = j:=by omega
      have hCl:(chnkL D q).length = 10 * q:=chnkL_len D q
      refine tr_rowOpen (E:=5) (sz:=1) (v:=v4) (by exact .here) (show 0 < 10 * q by omega) ?_
      rintro g4 c4 cur4 rfl hc4 hm4 hz4 hx4
      refine tr_rowShut (g:=g4) (E:=5) (sz:=1) (n:=10 * q) (cap:=c4) (xs:=bytsV (chnkL D q)) (cur:=cur4) (by exact .here) hc4 hm4 hz4 hx4 ?_
      (refine s_r ?_;refine tr_val (rk_lss (.of rfl) (.of rfl)) rfl ?_;refine n_t ?_;refine tr_seq ?_;refine c_d rfl (fun _=>by omega) (fun hcd=>?_);refine x_t ?_;refine tr_then_exit ?_;refine tr_blk_exit ?_;refine tr_then ?_;refine s_r ?_;refine m_v rfl rfl ?_;refine m_v rfl rfl ?_;refine tr_val (rk_len_slice (.of rfl)) rfl ?_;refine tr_val (rk_slice_h (.of rfl) (.of rfl) (by omega) (by omega)) rfl ?_)
      rw [show ((x.tx.size:Nat):Int).toNat = x.tx.size from Int.toNat_natCast _]
      with_reducible apply tr_call
      case hr=>exact rk_call (.of rfl) (.cons (.of rfl) .nil) inferInstance normc_
      case hd=>rfl
      case ht=>exact Takes.nil
      case hc=>
        intro w1 fp hm1 _ hs1
        obtain rfl:fp = []:=hs1
        exact heard_c (l:=D) (by have h:=Rd.sliced (byts_rd (E:=5) (v:=.slice (some ⟨g4,0,none⟩) (10 * q) c4) hm1 (by exact .here) hCl) (l:=0) (m:=x.tx.size) (Nat.zero_le _) (by omega);rw [← hDl,byts_fore (by omega)] at h;rw [hDl] at h;exact h) hDb
      intro w4 _
      dsimp only [id_eq,List.cons_append,List.nil_append]
      rw [hz0]
      by_cases hB0:B = 0
      · obtain ⟨hX,hL⟩:=hh0 hB0
        rw [hX,hL]
        subst hB0
        refine tr_rowSl (E:=3) (sz:=1) (v:=w4) (by exact .here) fun a5 c5 e=>?_
        subst e
        (refine m_v rfl rfl ?_;refine tr_val (rk_extract (.of rfl) rfl) rfl ?_;refine tr_val (rk_extract (.of rfl) rfl) rfl ?_;refine tr_val (rk_extract (.of rfl) rfl) rfl ?_;refine a_s rfl rfl ?_;refine a_s rfl rfl ?_;refine a_s rfl rfl ?_;refine n_t ?_;refine tr_seq ?_;refine s_r ?_;refine m_v rfl rfl ?_;refine tr_val (rk_neqiS (.of rfl) (.of rfl) rfl) rfl ?_;refine n_t ?_;refine tr_cond_f (.of rfl) ?_;refine s_t ?_;refine tr_seq ?_;refine s_r ?_;refine m_v rfl rfl ?_;refine tr_val (rk_neqiS (.of rfl) (.of rfl) rfl) rfl ?_;refine n_t ?_;refine tr_cond_f (.of rfl) ?_;refine s_t ?_;refine tr_seq ?_;refine s_r ?_;refine m_v rfl rfl ?_;refine f_a rfl rfl norm0_ ?_;refine tr_val (rk_load1 (.of rfl) (At.lit (.there (.there (.there (.there .here)))) rfl)) rfl ?_;refine tr_val (rk_neqsS (.of rfl) (.of rfl) rfl) rfl ?_;refine m_v rfl rfl ?_;refine tr_gOn rfl rfl ?_;refine m_v rfl rfl ?_;refine tr_gOn rfl rfl ?_;refine tr_val (rk_len_slice (.of rfl)) rfl ?_;refine tr_gOn rfl rfl ?_;refine tr_val (rk_gtr (.of rfl) (.of rfl)) rfl ?_)
        refine tr_val (rk_pickB (.of rfl) (.of rfl) (.of rfl) rfl) rfl ?_
        (refine n_t ?_;refine tr_cond_f (.of rfl) ?_;refine s_t ?_;refine s_r ?_;refine f_a rfl rfl norm0_ ?_;refine tr_val (rk_loadB (.of rfl) (.there (.there (.there (.there .here)))) norm_ (by rfl)) rfl ?_;refine f_a rfl rfl norm0_ ?_;refine tr_val (rk_load1 (.of rfl) (At.lit (.there (.there (.there (.there .here)))) rfl)) rfl ?_;refine f_a rfl rfl norm0_ ?_;refine tr_val (rk_load1 (.of rfl) (At.lit (.there (.there (.there (.there .here)))) rfl)) rfl ?_;refine m_v rfl rfl ?_;refine tr_val (rk_buildL (.cons (.of rfl) (.cons (.of rfl) (.cons (.of rfl) (.cons (.of rfl) .nil)))) norm_) rfl ?_;refine tr_new (rk_alloc rfl) rfl (fun _ _=>?_);refine tr_store (.of rfl) (.of rfl) .here rfl rfl (okc_cons rfl (okc_cons rfl (okc_cons rfl (okc_cons rfl (okc_cons rfl okc_nil))))) (lenb rfl) norm_ ?_;refine n_r ?_;refine f_a rfl rfl norm0_ ?_;refine f_a rfl rfl norm0_ ?_;refine tr_val (rk_load1 (.of rfl) (At.lit (.there (.there (.there (.there (.there .here))))) rfl)) rfl ?_;refine f_a rfl rfl norm0_ ?_;refine f_a rfl rfl norm0_ ?_;refine tr_val (rk_load1 (.of rfl) (At.lit (.there (.there (.there (.there (.there .here))))) rfl)) rfl ?_;refine tr_val (rk_sub (.of rfl) (.of rfl) (ini (by omega))) rfl ?_;refine f_a rfl rfl norm0_ ?_;refine f_a rfl rfl norm0_ ?_;refine tr_val (rk_load1 (.of rfl) (At.lit (.there (.there (.there (.there (.there .here))))) rfl)) rfl ?_;refine tr_new (rk_sliceLit (.cons (.of rfl) (.cons (.of rfl) (.cons (.of rfl) .nil))) rfl rfl rfl rfl) rfl (fun _ _=>?_);refine tr_val (rk_len_slice (.of rfl)) rfl ?_;refine m_v rfl rfl ?_;refine n_t ?_;refine tr_block ?_)
        rename_i b24 hb24 b230 hb230
        refine tr_for (ι:=Nat) (fun z=>z ≤ 3) (fun z=>[(232,.int .i64 (z:Nat)),(231,.int .i64 (3:Nat)),(230,.slice (some ⟨b230,0,none⟩) 3 3),(24,.pointer (some ⟨b24,0,none⟩)),(9,.int .u8 0),(83,.int .i64 (i:Nat)),(82,.agg #[.int .u8 0,.int .u8 ((2 ^ b:Nat):Int)]),(7,.int .i64 (k:Nat)),(5,.slice a1 x.tx.size c1),(2,.pointer (some ⟨b2,0,none⟩))]) (fun _=>[blk b230 (.cells #[.int .i64 x.fr,.int .i64 (x.to - 1),.int .i64 x.to] 3 (0,0)),blk b24 (.cells #[.int .i64 x.fr,.int .i64 x.to,.int .i64 x.rw,.int .i64 x.co,.string x.tx] 49 (0,0)),row 5 1 (.slice a1 x.tx.size c1) x.tx.size (bytsV (sntK x.tx x.tx.size)),blk b2 (.cells #[.int .i64 x.fr,.int .i64 x.to,.int .i64 x.rw,.int .i64 x.co,.string x.tx] 25 (0,0))]) (fun z=>3 - z) ?_ ?_
        · apply tr_start 0 (show (0:Nat) ≤ 3 by omega)
          case hs1=>exact .cons rfl (.cons rfl (.cons rfl (.cons rfl (.cons rfl (.cons rfl (.cons rfl (.cons rfl (.cons rfl (.cons rfl .nil)))))))))
          case ht=>exact .cons .here (.cons .here (.cons (.there (.there (.there .here))) (.cons (.there (.there (.there .here))) .nil)))
        intro z hz
        by_cases hz3:z < 3
        · obtain ⟨f,hf,hf0,hf1⟩:∃ f:Int,([.int .i64 x.fr,.int .i64 (x.to - 1),.int .i64 x.to]:List Value)[z * 1]? = some (.int .i64 f) ∧ x.fr ≤ f ∧ f ≤ x.to:=by
            obtain rfl | rfl | rfl:z = 0 ∨ z = 1 ∨ z = 2:=by omega
            · exact ⟨_,rfl,by omega,by omega⟩
            · exact ⟨_,rfl,by omega,by omega⟩
            · exact ⟨_,rfl,by omega,by omega⟩
          have hnE:shnE [x] f = 0:=shnE_zero.2 ⟨hok,by omega,by omega⟩
          have hshn:∀ (lv:Value) w',Rd w' lv 5 (cps [x]) → GivesV Tryd.prog 13 [lv,.int .i64 f] w' (.tuple #[.agg ((scrL [x] f).map Value.string).toArray,.int .i64 0]):=fun lv w' h=>by
            have h1:=shownX_c (n:=f) h (fun y hy=>by rw [List.mem_singleton.1 hy];omega)
            rw [hnE,show shnX [x] f = scrL [x] f by unfold shnX;rw [if_pos hnE]] at h1
            exact h1
          obtain ⟨z0,z1,z2,z3,z4,z5,z6,z7,hZ⟩:∃ z0 z1 z2 z3 z4 z5 z6 z7:ByteArray,scrL [x] f = [z0,z1,z2,z3,z4,z5,z6,z7]:=⟨_,_,_,_,_,_,_,_,rfl⟩
          rw [hZ] at hshn
          dsimp only [List.map] at hshn
          (refine s_r ?_;refine tr_val (rk_lss (.of rfl) (.of rfl)) rfl ?_;refine n_t ?_;refine tr_seq ?_;refine c_d rfl (fun hcd=>?_) (fun _=>by omega);refine s_t ?_;refine tr_seq ?_;refine tr_block ?_;refine s_r ?_;refine tr_val (rk_indexAddr (.of rfl) (.of rfl) rfl (by omega) hcd norm1_) rfl ?_;refine tr_val (rk_load1 (.of rfl) (At.blkL .here hf)) rfl ?_;refine a_s rfl rfl ?_;refine n_r ?_;refine tr_val (rk_loadB (.of rfl) (.there .here) norm_ (by rfl)) rfl ?_;refine tr_new (rk_sliceLitN (.cons (.of rfl) .nil) rfl rfl normp_ normp_ norm_) rfl (fun _ _=>?_);refine m_v rfl rfl ?_;refine tr_callV (rk_call (.of rfl) (.cons (.of rfl) (.cons (.of rfl) .nil)) inferInstance normc_) rfl (fun w' hm'=>(hshn _ w' (rdRow1 hm' .here rfl))) ?_;refine m_v rfl rfl ?_;refine tr_val (rk_extract (.of rfl) rfl) rfl ?_;refine tr_val (rk_extract (.of rfl) rfl) rfl ?_;refine tr_new (rk_alloc rfl) rfl (fun _ _=>?_);refine tr_store (.of rfl) (.of rfl) .here rfl rfl (okc_cons rfl (okc_cons rfl (okc_cons rfl (okc_cons rfl (okc_cons rfl (okc_cons rfl (okc_cons rfl (okc_cons rfl okc_nil)))))))) (lenb rfl) norm_ ?_;refine a_s rfl rfl ?_;refine n_t ?_;refine tr_seq ?_;refine s_r ?_;refine m_v rfl rfl ?_;refine tr_val (rk_neqiS (.of rfl) (.of rfl) rfl) rfl ?_;refine n_t ?_;refine tr_cond_f (.of rfl) ?_;refine s_t ?_;refine s_r ?_;refine tr_val (rk_loadB (.of rfl) .here norm_ (by rfl)) rfl ?_;refine m_v rfl rfl ?_;refine n_t ?_;refine tr_block ?_)
          refine tr_for (ι:=Nat) (fun r=>r ≤ 8) (fun r=>[(246,.int .i64 (r:Nat)),(245,.agg #[.string z0,.string z1,.string z2,.string z3,.string z4,.string z5,.string z6,.string z7]),(26,.int .i64 f),(232,.int .i64 (z:Nat)),(231,.int .i64 (3:Nat)),(230,.slice (some ⟨b230,0,none⟩) 3 3),(24,.pointer (some ⟨b24,0,none⟩)),(9,.int .u8 0),(83,.int .i64 (i:Nat)),(82,.agg #[.int .u8 0,.int .u8 ((2 ^ b:Nat):Int)]),(7,.int .i64 (k:Nat)),(5,.slice a1 x.tx.size c1),(2,.pointer (some ⟨b2,0,none⟩))]) (fun _=>[blk b230 (.cells #[.int .i64 x.fr,.int .i64 (x.to - 1),.int .i64 x.to] 3 (0,0)),blk b24 (.cells #[.int .i64 x.fr,.int .i64 x.to,.int .i64 x.rw,.int .i64 x.co,.string x.tx] 49 (0,0)),row 5 1 (.slice a1 x.tx.size c1) x.tx.size (bytsV (sntK x.tx x.tx.size)),blk b2 (.cells #[.int .i64 x.fr,.int .i64 x.to,.int .i64 x.rw,.int .i64 x.co,.string x.tx] 25 (0,0))]) (fun r=>8 - r) ?_ ?_
          · apply tr_start 0 (show (0:Nat) ≤ 8 by omega)
            case hs1=>exact .cons rfl (.cons rfl (.cons rfl (.cons rfl (.cons rfl (.cons rfl (.cons rfl (.cons rfl (.cons rfl (.cons rfl (.cons rfl (.cons rfl (.cons rfl .nil))))))))))))
            case ht=>exact .cons (.there (.there .here)) (.cons (.there (.there .here)) (.cons (.there (.there .here)) (.cons (.there (.there .here)) .nil)))
          intro r hr
          by_cases hr8:r < 8
          · have hpt:partOf false 1 [.string z0,.string z1,.string z2,.string z3,.string z4,.string z5,.string z6,.string z7] (((r:Nat):Int).toNat * 1) = some (.string (wntS x f r 32)):=by
              have hsr:(scrL [x] f).getD r ⟨#[]⟩ = wntS x f r 32:=by
                rw [wnt_all]
                unfold scrL
                rw [List.getD_eq_getElem?_getD,List.getElem?_map,List.getElem?_range hr8];rfl
              rw [← hsr,hZ]
              have:r = 0 ∨ r = 1 ∨ r = 2 ∨ r = 3 ∨ r = 4 ∨ r = 5 ∨ r = 6 ∨ r = 7:=by omega
              rcases this with rfl | rfl | rfl | rfl | rfl | rfl | rfl | rfl <;> rfl
            (refine s_r ?_;refine tr_val (rk_lss (.of rfl) (.of rfl)) rfl ?_;refine n_t ?_;refine tr_seq ?_;refine c_d rfl (fun hcd=>?_) (fun _=>by omega);refine s_t ?_;refine tr_seq ?_;refine tr_block ?_;refine s_r ?_;refine m_v rfl rfl ?_)
            refine tr_val (rk_index (cs:=[.string z0,.string z1,.string z2,.string z3,.string z4,.string z5,.string z6,.string z7]) (.of rfl) (.of rfl) (by omega) (by omega) hpt) rfl ?_
            (refine a_s rfl rfl ?_;refine a_s rfl rfl ?_;refine n_r ?_;refine a_s rfl rfl ?_;refine n_t ?_;refine tr_seq ?_;refine tr_block ?_)
            refine tr_for (ι:=Nat) (fun t=>t ≤ 32) (fun t=>[(31,.string (wntS x f r t)),(30,.string (wntS x f r 32)),(29,.int .i64 (r:Nat)),(246,.int .i64 (r:Nat)),(245,.agg #[.string z0,.string z1,.string z2,.string z3,.string z4,.string z5,.string z6,.string z7]),(26,.int .i64 f),(232,.int .i64 (z:Nat)),(231,.int .i64 (3:Nat)),(230,.slice (some ⟨b230,0,none⟩) 3 3),(24,.pointer (some ⟨b24,0,none⟩)),(9,.int .u8 0),(83,.int .i64 (i:Nat)),(82,.agg #[.int .u8 0,.int .u8 ((2 ^ b:Nat):Int)]),(7,.int .i64 (k:Nat)),(5,.slice a1 x.tx.size c1),(2,.pointer (some ⟨b2,0,none⟩))]) (fun _=>[blk b230 (.cells #[.int .i64 x.fr,.int .i64 (x.to - 1),.int .i64 x.to] 3 (0,0)),blk b24 (.cells #[.int .i64 x.fr,.int .i64 x.to,.int .i64 x.rw,.int .i64 x.co,.string x.tx] 49 (0,0)),row 5 1 (.slice a1 x.tx.size c1) x.tx.size (bytsV (sntK x.tx x.tx.size)),blk b2 (.cells #[.int .i64 x.fr,.int .i64 x.to,.int .i64 x.rw,.int .i64 x.co,.string x.tx] 25 (0,0))]) (fun t=>32 - t) ?_ ?_
            · apply tr_start 0 (show (0:Nat) ≤ 32 by omega)
              case hs1=>
                rw [show wntS x f r 0 = ⟨#[]⟩ from rfl]
                exact .cons rfl (.cons rfl (.cons rfl (.cons rfl (.cons rfl (.cons rfl (.cons rfl (.cons rfl (.cons rfl (.cons rfl (.cons rfl (.cons rfl (.cons rfl (.cons rfl (.cons rfl (.cons rfl .nil)))))))))))))))
              case ht=>exact .cons .here (.cons .here (.cons .here (.cons .here .nil)))
            intro t ht
            have hWs:=wnt_size x f r t
            by_cases ht32:t < 32
            · have hin:=fun h1 h2 h3 h4=>wnt_in (x:=x) (f:=f) (r:=r) (t:=t) hf0 h1 h2 h3 h4
              have hout:=wnt_out (x:=x) (f:=f) (r:=r) (t:=t)
              generalize hW:wntS x f r t = W at hWs hin hout ⊢
              (refine tr_seq ?_;refine s_r ?_;refine m_v rfl rfl ?_;refine tr_val (rk_len_string (.of rfl)) rfl ?_;refine tr_val (rk_lss (.of rfl) (.of rfl)) rfl ?_;refine n_t ?_;refine c_d rfl (fun hcd=>?_) (fun _=>by omega);refine s_t ?_;refine tr_block ?_;refine s_r ?_;refine m_v rfl rfl ?_;refine tr_val (rk_len_string (.of rfl)) rfl ?_;refine f_a rfl rfl norm0_ ?_;refine tr_val (rk_load1 (.of rfl) (At.lit (.there (.there (.there .here))) rfl)) rfl ?_;refine tr_val (rk_sub (.of rfl) (.of rfl) (ini (by omega))) rfl ?_;refine a_s rfl rfl ?_;refine n_r ?_;refine m_v rfl rfl ?_;refine f_a rfl rfl norm0_ ?_;refine tr_val (rk_load1 (.of rfl) (At.lit (.there (.there (.there .here))) rfl)) rfl ?_;refine tr_val (rk_eql (.of rfl) (.of rfl)) rfl ?_;refine m_v rfl rfl ?_;refine v_g rfl rfl rfl rfl ?_;refine tr_vG1 rfl rfl inferInstance (fun hg hgp=>(rk_fieldAddr (.of rfl) norm0_)) rfl ?_;refine tr_vG1 rfl rfl inferInstance (fun hg hgp=>(rk_fieldAddr (.ofg hg rfl) norm0_)) rfl ?_;refine tr_vG1 rfl rfl inferInstance (fun hg hgp=>(rk_load1 (.ofg hg rfl) (At.lit (.there (.there (.there .here))) rfl))) rfl ?_;refine tr_vG1 rfl rfl inferInstance (fun hg hgp=>(rk_lss (.ofg hg rfl) (.ofg hg rfl))) rfl ?_;refine tr_val (rk_pick_and (.of rfl) rfl) rfl ?_;refine m_v rfl rfl ?_;refine v_g rfl rfl rfl rfl ?_;refine tr_vG1 rfl rfl inferInstance (fun hg hgp=>(rk_geq (.ofg hg rfl) (.of rfl))) rfl ?_;refine tr_val (rk_pick_and (.of rfl) rfl) rfl ?_;refine m_v rfl rfl ?_;refine v_g rfl rfl rfl rfl ?_;refine tr_vG1 rfl rfl inferInstance (fun hg hgp=>(rk_fieldAddr (.of rfl) norm0_)) rfl ?_;refine tr_vG1 rfl rfl inferInstance (fun hg hgp=>(rk_load1 (.ofg hg rfl) (At.lit (.there (.there (.there .here))) rfl))) rfl ?_;refine tr_vG1 rfl rfl inferInstance (fun hg hgp=>(rk_len_string (.ofg hg rfl))) rfl ?_;refine tr_vG1 rfl rfl inferInstance (fun hg hgp=>(rk_lss (.ofg hg rfl) (.ofg hg rfl))) rfl ?_;refine tr_val (rk_pick_and (.of rfl) rfl) rfl ?_;refine n_t ?_;refine c_b rfl (fun hcd=>?_) (fun hcd=>?_);refine tr_region ?_;refine m_v rfl rfl ?_;refine f_a rfl rfl norm0_ ?_;refine tr_val (rk_load1 (.of rfl) (At.lit (.there (.there (.there .here))) rfl)) rfl ?_;refine m_v rfl rfl ?_;refine m_v rfl rfl ?_;refine tr_val (rk_add (.of rfl) (.of rfl) (ini (by omega))) rfl ?_;refine tr_val (rk_sliceS_lh (.of rfl) (.of rfl) (.of rfl) (by omega) (by omega) (by omega)) rfl ?_;rotate_left;refine tr_region ?_;refine m_v rfl rfl ?_;rotate_right)
              rw [hWs]
              skip
              · obtain ⟨⟨⟨h1,h2⟩,h3⟩,h4⟩:=hcd
                have hn:=hin h1 h2 (by omega) (by omega)
                skip
                rw [show ((t:Int) - x.co + 1).toNat = ((t:Int) - x.co).toNat + 1 by omega]
                have hes:(x.tx.extract ((t:Int) - x.co).toNat (((t:Int) - x.co).toNat + 1)).size ≤ 32:=by rw [ByteArray.size_extract];omega
                refine tr_val (rk_cat (a:=W) (b:=x.tx.extract ((t:Int) - x.co).toNat (((t:Int) - x.co).toNat + 1)) (.of rfl) (.of rfl) (by omega)) rfl ?_
                rw [← hn]
                (refine a_s rfl rfl ?_;refine tr_nil ?_;refine tr_blk_normal ?_;refine tr_then ?_)
                apply tr_next (t + 1) (show t + 1 ≤ 32 from ht32) (show 32 - (t + 1) < 32 - t by omega)
                case hs1=>exact .cons rfl (.cons rfl (.cons rfl (.cons rfl (.cons rfl (.cons rfl (.cons rfl (.cons rfl (.cons rfl (.cons rfl (.cons rfl (.cons rfl (.cons rfl (.cons rfl (.cons rfl (.cons rfl .nil)))))))))))))))
                case ht=>exact .cons .here (.cons .here (.cons .here (.cons .here .nil)))
              · have hn:=hout (by omega)
                skip
                refine tr_val (rk_cat (a:=W) (b:=⟨#[32]⟩) (.of rfl) (.of rfl) (by show _ + 1 ≤ 9223372036854775807;omega)) rfl ?_
                rw [← hn]
                (refine a_s rfl rfl ?_;refine tr_nil ?_;refine tr_blk_normal ?_;refine tr_then ?_)
                apply tr_next (t + 1) (show t + 1 ≤ 32 from ht32) (show 32 - (t + 1) < 32 - t by omega)
                case hs1=>exact .cons rfl (.cons rfl (.cons rfl (.cons rfl (.cons rfl (.cons rfl (.cons rfl (.cons rfl (.cons rfl (.cons rfl (.cons rfl (.cons rfl (.cons rfl (.cons rfl (.cons rfl (.cons rfl .nil)))))))))))))))
                case ht=>exact .cons .here (.cons .here (.cons .here (.cons .here .nil)))
            obtain rfl:t = 32:=by omega
            (refine tr_seq ?_;refine s_r ?_;refine m_v rfl rfl ?_;refine tr_val (rk_len_string (.of rfl)) rfl ?_;refine tr_val (rk_lss (.of rfl) (.of rfl)) rfl ?_;refine n_t ?_;refine c_d rfl (fun _=>by omega) (fun hcd=>?_);refine x_t ?_;refine tr_then_exit ?_;refine tr_blk_exit ?_;refine tr_then ?_;refine s_r ?_;refine m_v rfl rfl ?_;refine m_v rfl rfl ?_;refine tr_val (rk_neqsS (.of rfl) (.of rfl) rfl) rfl ?_;refine n_t ?_;refine tr_cond_f (.of rfl) ?_;refine tr_skip ?_;refine tr_blk_normal ?_;refine tr_then ?_;refine tr_region ?_;refine tr_val (rk_add (.of rfl) (.of rfl) (ini (by omega))) rfl ?_;refine m_v rfl rfl ?_;refine n_t ?_)
            apply tr_next (r + 1) (show r + 1 ≤ 8 from hr8) (show 8 - (r + 1) < 8 - r by omega)
            case hs1=>exact .cons rfl (.cons rfl (.cons rfl (.cons rfl (.cons rfl (.cons rfl (.cons rfl (.cons rfl (.cons rfl (.cons rfl (.cons rfl (.cons rfl (.cons rfl .nil))))))))))))
            case ht=>exact .cons .here (.cons .here (.cons .here (.cons .here .nil)))
          obtain rfl:r = 8:=by omega
          (refine s_r ?_;refine tr_val (rk_lss (.of rfl) (.of rfl)) rfl ?_;refine n_t ?_;refine tr_seq ?_;refine c_d rfl (fun _=>by omega) (fun hcd=>?_);refine x_t ?_;refine tr_then_exit ?_;refine tr_blk_exit ?_;refine tr_blk_normal ?_;refine tr_then ?_;refine tr_region ?_;refine tr_val (rk_add (.of rfl) (.of rfl) (ini (by omega))) rfl ?_;refine m_v rfl rfl ?_;refine n_t ?_)
          apply tr_next (z + 1) (show z + 1 ≤ 3 from hz3) (show 3 - (z + 1) < 3 - z by omega)
          case hs1=>exact .cons rfl (.cons rfl (.cons rfl (.cons rfl (.cons rfl (.cons rfl (.cons rfl (.cons rfl (.cons rfl (.cons rfl .nil)))))))))
          case ht=>exact .cons .here (.cons .here (.cons .here (.cons .here .nil)))
        obtain rfl:z = 3:=by omega
        (refine s_r ?_;refine tr_val (rk_lss (.of rfl) (.of rfl)) rfl ?_;refine n_t ?_;refine tr_seq ?_;refine c_d rfl (fun _=>by omega) (fun hcd=>?_);refine x_t ?_;refine tr_then_exit ?_;refine tr_blk_exit ?_;refine tr_blk_normal ?_;refine tr_then ?_;refine tr_region ?_;refine tr_val (rk_add (.of rfl) (.of rfl) (ini (by omega))) rfl ?_;refine m_v rfl rfl ?_;refine n_t ?_)
        apply tr_next (i + 1) (show i + 1 ≤ 2 from hi2) (show 2 - (i + 1) < 2 - i by omega)
        case hs1=>exact .cons rfl (.cons rfl (.cons rfl (.cons rfl (.cons rfl .nil))))
        case ht=>exact .cons (.there (.there .here)) (.cons (.there (.there .here)) .nil)
      · obtain ⟨hX,hL⟩:=hh1 hB0
        rw [hX,hL]
        (refine m_v rfl rfl ?_;refine tr_val (rk_extract (.of rfl) rfl) rfl ?_;refine tr_val (rk_extract (.of rfl) rfl) rfl ?_;refine tr_val (rk_extract (.of rfl) rfl) rfl ?_;refine a_s rfl rfl ?_;refine a_s rfl rfl ?_;refine a_s rfl rfl ?_;refine n_t ?_;refine tr_seq ?_;refine s_r ?_;refine m_v rfl rfl ?_;refine tr_val (rk_neq (.of rfl) (.of rfl)) rfl ?_;refine n_t ?_;refine c_d rfl (fun _=>by omega) (fun hcd=>?_);refine s_t ?_;refine tr_seq ?_;refine s_r ?_;refine m_v rfl rfl ?_;refine tr_val (rk_neq (.of rfl) (.of rfl)) rfl ?_;refine n_t ?_;refine c_d rfl (fun hcd=>?_) (fun _=>by omega);refine tr_seq ?_;refine tr_seq ?_)
        have hE1:(x.tx.extract 0 k).size ≤ 24:=by rw [ByteArray.size_extract];omega
        have hE2:(x.tx.extract 0 k++(⟨#[63]⟩:ByteArray)).size ≤ 25:=by rw [ByteArray.size_append];show _ + 1 ≤ 25;omega
        have hE3:(x.tx.extract (k + 1) x.tx.size).size ≤ 24:=by rw [ByteArray.size_extract];omega
        with_reducible refine tr_drawM 20 (by kernel_rfl) ?_
        (refine am_val (fun β=>(rk_move (.of rfl))) indC rfl ?_;refine am_val (fun β=>(rk_fieldAddr (.of rfl) norm0_)) indC rfl ?_;refine am_val (fun β=>(rk_load1 (.of rfl) (At.lit (.there (.there (.there (.there .here)))) rfl))) indC rfl ?_;refine am_val (fun β=>(rk_move (.of rfl))) indC rfl ?_;refine am_val (fun β=>(rk_sliceS_h (.of rfl) (.of rfl) (by omega) (by omega))) indC rfl ?_)
        refine am_val (F:=fun _=>.string (x.tx.extract 0 k++⟨#[63]⟩)) (fun β=>rk_cat (a:=x.tx.extract 0 k) (b:=⟨#[63]⟩) (.of rfl) (.of rfl) (by show _ + 1 ≤ 9223372036854775807;omega)) indC rfl ?_
        (refine am_val (fun β=>(rk_fieldAddr (.of rfl) norm0_)) indC rfl ?_;refine am_val (fun β=>(rk_load1 (.of rfl) (At.lit (.there (.there (.there (.there .here)))) rfl))) indC rfl ?_;refine am_val (fun β=>(rk_move (.of rfl))) indC rfl ?_;refine am_val (fun β=>(rk_add (.of rfl) (.of rfl) (ini (by omega)))) indC rfl ?_;refine am_val (fun β=>(rk_sliceS_l (.of rfl) (.of rfl) (by omega) (by omega))) indC rfl ?_)
        refine am_val (F:=fun _=>.string (x.tx.extract 0 k++⟨#[63]⟩++x.tx.extract (k + 1) x.tx.size)) (fun β=>rk_cat (a:=x.tx.extract 0 k++⟨#[63]⟩) (b:=x.tx.extract (k + 1) x.tx.size) (.of rfl) (.of rfl) (by omega)) indC rfl ?_
        (refine am_val (fun β=>(rk_neqsS (.of rfl) (.of rfl) rfl)) indC rfl ?_;refine am_val (fun β=>(rk_move (.of rfl))) indC rfl ?_;refine am_gOn rfl (fun _=>rfl) ?_;refine am_val (fun β=>(rk_move (.of rfl))) indC rfl ?_;refine am_gOn rfl (fun _=>rfl) ?_;refine am_val (fun β=>(rk_move (.of rfl))) indC rfl ?_)
        dsimp only [Nat.zero_add,Nat.reduceAdd]
        refine am_gOn rfl (fun _=>rfl) ?_
        refine am_new (fun β=>(rk_sliceLit (.cons (.of rfl) .nil) rfl rfl rfl rfl)) (fun _ _ _=>rfl) rfl ?_
        dsimp only [Nat.reduceAdd]
        refine am_gOn rfl (fun _=>rfl) ?_
        with_reducible apply am_callV (B:=[16]) (F:=fun _=>.bool true) (args:=fun β=>[w4,.slice (some ⟨gnat (β 16),0,none⟩) 1 1])
        case hB=>first | rfl | kernel_rfl
        case hr=>exact fun β=>rk_call (.of rfl) (.cons (.of rfl) (.cons (.of rfl) .nil)) inferInstance rfl
        case hi=>exact ind0
        case hd=>rfl
        case hc=>
          intro β w' hb
          have m2:=hb.at 16 List.mem_cons_self (s:=⟨fun β=>.slice (some ⟨gnat (β 16),0,none⟩) 1 1,fun β=>[blk (gnat (β 16)) (.cells #[.int .i64 (k:Nat)] 3)]⟩) (by kernel_rfl)
          dsimp only [List.cons_append,List.nil_append] at m2
          have s1:=intg_rd (E:=3) (v:=w4) (l:=[(k:Int)]) (n:=1) m2 (show Take _ (row 3 1 w4 [k].length (natsV [k])) _ from by exact Take.there .here) rfl
          have s3:=sameI_t (m:=[(k:Int)]) s1 (Mem.rdBlk m2 (by exact .here) rfl rfl)
          rw [decide_eq_true rfl] at s3
          exact s3
        dsimp only [Nat.reduceAdd]
        (refine am_gOn rfl (fun _=>rfl) ?_;refine am_val (fun β=>(rk_not (.of rfl))) indC rfl ?_;refine am_val (fun β=>(rk_pickB (.of rfl) (.of rfl) (.of rfl) rfl)) indC rfl ?_)
        refine am_end fun β=>?_
        dsimp only [resAll,List.nil_append,List.cons_append,List.append_eq,Nat.reduceAdd]
        with_reducible refine left_done (by kernel_rfl) ?_
        (refine tr_then ?_;refine tr_cond_f (.of rfl) ?_;refine s_t ?_;refine x_t ?_;refine tr_blk_exit ?_;refine tr_then ?_;refine tr_region ?_;refine tr_val (rk_add (.of rfl) (.of rfl) (ini (by omega))) rfl ?_;refine m_v rfl rfl ?_;refine n_t ?_)
        apply tr_next (i + 1) (show i + 1 ≤ 2 from hi2) (show 2 - (i + 1) < 2 - i by omega)
        case hs1=>exact .cons rfl (.cons rfl (.cons rfl (.cons rfl (.cons rfl .nil))))
        case ht=>exact .cons (.there (.there (.there (.there .here)))) (.cons (.there (.there (.there (.there .here)))) .nil)
    (refine s_r ?_;refine tr_val (rk_lss (.of rfl) (.of rfl)) rfl ?_;refine n_t ?_;refine tr_seq ?_;refine c_d rfl (fun _=>by omega) (fun hcd=>?_);refine x_t ?_;refine tr_then_exit ?_;refine tr_blk_exit ?_;refine tr_then ?_;refine s_r ?_;refine tr_callV (rk_call (.of rfl) .nil inferInstance normc_) rfl (fun w' hm'=>(pedWord_c w' (GlobR.keeps hG (Mem.keeps hm')))) ?_;refine a_s rfl rfl ?_;refine n_t ?_;refine tr_ret ?_;refine tr_retE rfl (ends1 rfl rfl) ?_)
    rfl
end Go.Proofs.A1
